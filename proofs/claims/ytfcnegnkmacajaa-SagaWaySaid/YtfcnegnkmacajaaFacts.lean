/- Package saga's May, walked: joined. (printed by gen/sagamay.py) -/
import Derived.Test.YtfcnegnkmacajaaFactsA
import Derived.Test.YtfcnegnkmacajaaFactsB
import Derived.Test.YtfcnegnkmacajaaFactsC
import Derived.Test.YtfcnegnkmacajaaFactsD
namespace Go.Proofs.Ytfcnegnkmacajaa
open Go.RowKit
theorem fmay_to (o : Ord) (a da ua : Option Addr) (c dc uc : Nat) (f : Fct) (r : Bool) (w : World) (h : FcAt w o a c f da ua) (hr : f.may o = r) :
    Calls Try.prog 15 #[.agg #[.int .i64 o.id, .int .i64 o.item, .int .i64 o.qty, .int .i64 o.client, .int .i64 o.price, .slice a o.steps.length c], .agg #[.slice da f.done.length dc, .slice ua f.undone.length uc, .bool f.asked, .bool f.yes, .bool f.turned, .bool f.a0, .bool f.a1, .bool f.shipped, .bool f.d0, .bool f.d1, .bool f.acc]] w (fun e w' => e = .returned (.bool r) ∧ Keeps (fun _ => False) w w') := by
  subst hr
  obtain ⟨done, undone, asked, yes, turned, a0, a1, shipped, d0, d1, acc⟩ := f
  by_cases e0 : o.may = true
  · by_cases hl : done.length = o.steps.length ∧ undone.length = o.steps.length
    · cases yes with
      | false => cases turned with
        | false => exact fmay_ff o a da ua c dc uc done undone asked _ _ a0 a1 shipped d0 d1 acc w h rfl rfl e0 hl.1 hl.2
        | true => exact fmay_ft o a da ua c dc uc done undone asked _ _ a0 a1 shipped d0 d1 acc w h rfl rfl e0 hl.1 hl.2
      | true => cases turned with
        | false => exact fmay_tf o a da ua c dc uc done undone asked _ _ a0 a1 shipped d0 d1 acc w h rfl rfl e0 hl.1 hl.2
        | true => exact fmay_both o a da ua c dc uc done undone asked _ _ a0 a1 shipped d0 d1 acc w h rfl rfl e0 hl.1 hl.2
    · exact fmay_short o a da ua c dc uc done undone asked yes turned a0 a1 shipped d0 d1 acc w h e0 hl
  · exact fmay_no o a da ua c dc uc done undone asked yes turned a0 a1 shipped d0 d1 acc w h (by simpa using e0)
end Go.Proofs.Ytfcnegnkmacajaa
