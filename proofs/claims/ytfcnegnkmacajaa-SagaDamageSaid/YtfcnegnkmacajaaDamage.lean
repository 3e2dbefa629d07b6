/- The law SagaDamage, walked: joined. (printed by gen/damage.py) -/
import Derived.Test.YtfcnegnkmacajaaDamageA
import Derived.Test.YtfcnegnkmacajaaDamageB
import Derived.Test.YtfcnegnkmacajaaDamageC
import Derived.Test.YtfcnegnkmacajaaDamageD
namespace Go.Proofs.Ytfcnegnkmacajaa
open Go.RowKit
theorem damage_any (o : Ord) (a da ua : Option Addr) (c dc uc : Nat) (f : Fct) (e0 e1 : Bool) (w : World) (h : FcAt w o a c f da ua) :
    Calls Try.prog 7 #[.agg #[.int .i64 o.id, .int .i64 o.item, .int .i64 o.qty, .int .i64 o.client, .int .i64 o.price, .slice a o.steps.length c], .agg #[.slice da f.done.length dc, .slice ua f.undone.length uc, .bool f.asked, .bool f.yes, .bool f.turned, .bool f.a0, .bool f.a1, .bool f.shipped, .bool f.d0, .bool f.d1, .bool f.acc], .agg #[.bool e0, .bool e1]] w (Yes w) := by
  have key : Calls Try.prog 7 #[.agg #[.int .i64 o.id, .int .i64 o.item, .int .i64 o.qty, .int .i64 o.client, .int .i64 o.price, .slice a o.steps.length c], .agg #[.slice da f.done.length dc, .slice ua f.undone.length uc, .bool f.asked, .bool f.yes, .bool f.turned, .bool f.a0, .bool f.a1, .bool f.shipped, .bool f.d0, .bool f.d1, .bool f.acc], .agg #[.bool e0, .bool e1]] w (fun e w' => e = .returned (.bool true) ∧ Keeps (fun _ => False) w w') := by
    obtain ⟨done, undone, asked, yes, turned, a0, a1, shipped, d0, d1, acc⟩ := f
    cases hl : lightB o ⟨done, undone, asked, yes, turned, a0, a1, shipped, d0, d1, acc⟩ with
    | false => exact dmg_0 o a da ua c dc uc done undone asked yes turned a0 a1 shipped d0 d1 acc e0 e1 w h hl
    | true => cases hm : Fct.may o ⟨done, undone, asked, yes, turned, a0, a1, shipped, d0, d1, acc⟩ with
      | false => exact dmg_1 o a da ua c dc uc done undone asked yes turned a0 a1 shipped d0 d1 acc e0 e1 w h hl hm
      | true => cases yes with
        | true => cases e0 with
          | true => exact dmg_yes1 o a da ua c dc uc done undone asked _ turned a0 a1 shipped d0 d1 acc _ e1 w h hl hm rfl rfl
          | false => exact dmg_yes0 o a da ua c dc uc done undone asked _ turned a0 a1 shipped d0 d1 acc _ e1 w h hl hm rfl rfl
        | false => cases turned with
          | false => exact dmg_2 o a da ua c dc uc done undone asked _ _ a0 a1 shipped d0 d1 acc e0 e1 w h hl hm rfl rfl
          | true => cases e0 with
            | true => exact dmg_tur1 o a da ua c dc uc done undone asked _ _ a0 a1 shipped d0 d1 acc _ e1 w h hl hm rfl rfl rfl
            | false => exact dmg_tur0 o a da ua c dc uc done undone asked _ _ a0 a1 shipped d0 d1 acc _ e1 w h hl hm rfl rfl rfl
  exact key.mono fun _ _ ⟨he, k⟩ => ⟨he, k.below (Nat.le_refl _) (fun _ h => h.elim)⟩
end Go.Proofs.Ytfcnegnkmacajaa
