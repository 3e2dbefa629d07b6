/- The page's MayFacts, walked: joined. (printed by gen/rmay.py) -/
import Derived.Test.YtfcnegnkmacajaaRMayA
import Derived.Test.YtfcnegnkmacajaaRMayB
import Derived.Test.YtfcnegnkmacajaaRMayC
import Derived.Test.YtfcnegnkmacajaaRMayD
namespace Go.Proofs.Ytfcnegnkmacajaa
open Go.RowKit
theorem rmay_to (o : Ord) (a da ua : Option Addr) (c dc uc : Nat) (f : Fct) (w : World) (h : FcAt w o a c f da ua) (hc : o.steps.length ≤ c) (hcm : c ≤ maxLen) :
    Calls Try.prog 16 #[.agg #[.int .i64 o.id, .int .i64 o.item, .int .i64 o.qty, .int .i64 o.client, .int .i64 o.price, .slice a o.steps.length c], .agg #[.slice da f.done.length dc, .slice ua f.undone.length uc, .bool f.asked, .bool f.yes, .bool f.turned, .bool f.a0, .bool f.a1, .bool f.shipped, .bool f.d0, .bool f.d1, .bool f.acc]] w (fun e w' => e = .returned (.bool (f.may o)) ∧ Keeps (fun _ => False) w w') := by
  obtain ⟨done, undone, asked, yes, turned, a0, a1, shipped, d0, d1, acc⟩ := f
  cases e0 : o.may with
  | false =>
    exact (rm_no o a da ua c dc uc done undone asked yes turned a0 a1 shipped d0 d1 acc w h hc hcm e0).mono fun e w' ⟨he, k⟩ => ⟨by rw [he]; simp [Fct.may, e0], k⟩
  | true =>
    by_cases l1 : done.length = o.steps.length
    · by_cases l2 : undone.length = o.steps.length
      · cases yes with
        | true => cases turned with
          | true =>
            exact (rm_both o a da ua c dc uc done undone asked _ _ a0 a1 shipped d0 d1 acc w h hc hcm e0 l1 l2 rfl rfl).mono fun e w' ⟨he, k⟩ => ⟨by rw [he]; simp [Fct.may], k⟩
          | false => cases e4 : hasB done false with
            | true =>
              exact (rm_y_all o a da ua c dc uc done undone asked _ _ a0 a1 shipped d0 d1 acc w h hc hcm e0 l1 l2 rfl rfl e4).mono fun e w' ⟨he, k⟩ => ⟨by rw [he]; simp [Fct.may, e4], k⟩
            | false => cases e3 : hasB undone true with
              | true =>
                exact (rm_y_none o a da ua c dc uc done undone asked _ _ a0 a1 shipped d0 d1 acc w h hc hcm e0 l1 l2 rfl rfl e4 e3).mono fun e w' ⟨he, k⟩ => ⟨by rw [he]; simp [Fct.may, e4, e3], k⟩
              | false => cases asked with
                | false =>
                  exact (rm_y_ask o a da ua c dc uc done undone _ _ _ a0 a1 shipped d0 d1 acc w h hc hcm e0 l1 l2 rfl rfl rfl e4 e3).mono fun e w' ⟨he, k⟩ => ⟨by rw [he]; simp [Fct.may, e4, e3], k⟩
                | true => cases shipped with
                  | true =>
                    exact (rm_yes o a da ua c dc uc done undone _ _ _ a0 a1 _ d0 d1 acc w h hc hcm e0 l1 l2 rfl rfl rfl e4 e3 rfl _ rfl).mono fun e w' ⟨he, k⟩ => ⟨by rw [he]; simp [Fct.may, e0, l1, l2, e4, e3], k⟩
                  | false =>
                    exact (rm_yes2 o a da ua c dc uc done undone _ _ _ a0 a1 _ d0 d1 acc w h hc hcm e0 l1 l2 rfl rfl rfl e4 e3 rfl _ rfl).mono fun e w' ⟨he, k⟩ => ⟨by rw [he]; simp [Fct.may, e0, l1, l2, e4, e3], k⟩
        | false => cases turned with
          | true => cases shipped with
            | true =>
              exact (rm_t_ship o a da ua c dc uc done undone asked _ _ a0 a1 _ d0 d1 acc w h hc hcm e0 l1 l2 rfl rfl rfl).mono fun e w' ⟨he, k⟩ => ⟨by rw [he]; simp [Fct.may], k⟩
            | false =>
              exact (rm_turned o a da ua c dc uc done undone asked _ _ a0 a1 _ d0 d1 acc w h hc hcm e0 l1 l2 rfl rfl rfl _ rfl).mono fun e w' ⟨he, k⟩ => ⟨by rw [he]; simp [Fct.may, e0, l1, l2], k⟩
          | false => cases e3 : hasB undone true with
            | true =>
              exact (rm_n_none o a da ua c dc uc done undone asked _ _ a0 a1 shipped d0 d1 acc w h hc hcm e0 l1 l2 rfl rfl e3).mono fun e w' ⟨he, k⟩ => ⟨by rw [he]; simp [Fct.may, e3], k⟩
            | false => cases shipped with
              | true =>
                exact (rm_n_ship o a da ua c dc uc done undone asked _ _ a0 a1 _ d0 d1 acc w h hc hcm e0 l1 l2 rfl rfl rfl e3).mono fun e w' ⟨he, k⟩ => ⟨by rw [he]; simp [Fct.may, e3], k⟩
              | false => cases e5 : (a0 || a1) with
                | true =>
                  exact (rm_n_acks o a da ua c dc uc done undone asked _ _ a0 a1 _ d0 d1 acc w h hc hcm e0 l1 l2 rfl rfl rfl e3 e5).mono fun e w' ⟨he, k⟩ => ⟨by rw [he]; simp [Fct.may, e3, e5], k⟩
                | false => cases e6 : (d0 || d1) with
                  | true =>
                    have e7 : (a0 || a1 || d0 || d1) = true := by rw [e5]; simpa using e6
                    exact (rm_n_dmg o a da ua c dc uc done undone asked _ _ a0 a1 _ d0 d1 acc w h hc hcm e0 l1 l2 rfl rfl rfl e3 e5 e6).mono fun e w' ⟨he, k⟩ => ⟨by rw [he]; simp [Fct.may, e3, e7], k⟩
                  | false =>
                    have e7 : (a0 || a1 || d0 || d1) = false := by rw [e5]; simpa using e6
                    exact (rm_neither o a da ua c dc uc done undone asked _ _ a0 a1 _ d0 d1 acc w h hc hcm e0 l1 l2 rfl rfl rfl e3 e5 e6 _ rfl).mono fun e w' ⟨he, k⟩ => ⟨by rw [he]; simp [Fct.may, e0, l1, l2, e3, e7], k⟩
      · exact (rm_l2 o a da ua c dc uc done undone asked yes turned a0 a1 shipped d0 d1 acc w h hc hcm e0 l1 l2).mono fun e w' ⟨he, k⟩ => ⟨by rw [he]; simp [Fct.may, l2], k⟩
    · exact (rm_l1 o a da ua c dc uc done undone asked yes turned a0 a1 shipped d0 d1 acc w h hc hcm e0 l1).mono fun e w' ⟨he, k⟩ => ⟨by rw [he]; simp [Fct.may, l1], k⟩
end Go.Proofs.Ytfcnegnkmacajaa
