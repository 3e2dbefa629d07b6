/- The laws' light and awake, walked. -/
import Derived.Test.YtfcnegnkmacajaaNext
import Derived.Test.YtfcnegnkmacajaaFacts2
namespace Go.Proofs.Ytfcnegnkmacajaa
open Go.RowKit
def lightB (o : Ord) (f : Fct) : Bool := decide (o.steps.length ≤ 20) && decide (f.done.length ≤ 20) && decide (f.undone.length ≤ 20)
theorem light_to (o : Ord) (a da ua : Option Addr) (c dc uc : Nat) (done undone : List Bool) (asked yes turned a0 a1 shipped d0 d1 acc r : Bool) (w : World) (hs : o.steps.length ≤ maxLen) (hd : done.length ≤ maxLen) (hu : undone.length ≤ maxLen) (hr : lightB o ⟨done, undone, asked, yes, turned, a0, a1, shipped, d0, d1, acc⟩ = r) :
    Calls Try.prog 13 #[.agg #[.int .i64 o.id, .int .i64 o.item, .int .i64 o.qty, .int .i64 o.client, .int .i64 o.price, .slice a o.steps.length c], .agg #[.slice da done.length dc, .slice ua undone.length uc, .bool asked, .bool yes, .bool turned, .bool a0, .bool a1, .bool shipped, .bool d0, .bool d1, .bool acc]] w (fun e w' => e = .returned (.bool r) ∧ Keeps (fun _ => False) w w') := by
  subst hr
  unfold maxLen at hs hd hu
  unfold lightB
  obtain ⟨id, item, qty, client, price, steps⟩ := o
  simp only at hs ⊢
  by_cases h1 : steps.length ≤ 20
  · have g1 : decide (steps.length ≤ 20) = true := by simpa using h1
    have i1 : decide ((steps.length : Int) ≤ 20) = true := by rw [decide_eq_true_eq]; omega
    by_cases h2 : done.length ≤ 20
    · have g2 : decide (done.length ≤ 20) = true := by simpa using h2
      have i2 : decide ((done.length : Int) ≤ 20) = true := by rw [decide_eq_true_eq]; omega
      by_cases h3 : undone.length ≤ 20
      · have g3 : decide (undone.length ≤ 20) = true := by simpa using h3
        have i3 : decide ((undone.length : Int) ≤ 20) = true := by rw [decide_eq_true_eq]; omega
        rw [g1, g2, g3]
        go_enter Try.func13, Try.ntmps13
        go_wp2_with fail
        go_ret
        exact ⟨rfl, ((Keeps.refl _ w).alloc _).alloc _⟩
      · have g3 : decide (undone.length ≤ 20) = false := by simpa using h3
        have i3 : decide ((undone.length : Int) ≤ 20) = false := by rw [decide_eq_false_iff_not]; omega
        rw [g1, g2, g3]
        go_enter Try.func13, Try.ntmps13
        go_wp2_with fail
        go_ret
        exact ⟨rfl, ((Keeps.refl _ w).alloc _).alloc _⟩
    · have g2 : decide (done.length ≤ 20) = false := by simpa using h2
      have i2 : decide ((done.length : Int) ≤ 20) = false := by rw [decide_eq_false_iff_not]; omega
      rw [g1, g2]
      go_enter Try.func13, Try.ntmps13
      go_wp2_with fail
      go_ret
      exact ⟨rfl, ((Keeps.refl _ w).alloc _).alloc _⟩
  · have g1 : decide (steps.length ≤ 20) = false := by simpa using h1
    have i1 : decide ((steps.length : Int) ≤ 20) = false := by rw [decide_eq_false_iff_not]; omega
    rw [g1]
    go_enter Try.func13, Try.ntmps13
    go_wp2_with fail
    go_ret
    exact ⟨rfl, ((Keeps.refl _ w).alloc _).alloc _⟩
def oA : Ord := ⟨1, 0, 2, 0, 3, []⟩
def fA (asked : Bool) : Fct := ⟨[], [], asked, false, false, false, false, false, false, false, false⟩
theorem fcA (asked : Bool) (w : World) : FcAt w oA none 0 (fA asked) none none :=
  ⟨fun k x h => by simp [oA] at h, by decide, fun k x h => by simp [fA] at h, by simp [fA], fun k x h => by simp [fA] at h, by simp [fA]⟩
set_option maxRecDepth 100000 in
set_option maxHeartbeats 4000000 in
theorem awake_to (w : World) : Calls Try.prog 10 #[] w (fun e w' => e = .returned (.bool true) ∧ Keeps (fun _ => False) w w') := by
  have hn : Kept (nextL oA (fA false) = [⟨6, 0, 1, 1, 0, 0, 2⟩, ⟨6, 0, 2, 1, 0, 0, 3⟩]) := ⟨by kernel_rfl⟩
  have hs : Kept ((fA true).state oA = 2) := ⟨by decide +kernel⟩
  have HO := Kept.mk (Blk.new' w 24 [.int .i64 1, .int .i64 0, .int .i64 2, .int .i64 0, .int .i64 3, .slice none 0 0] _ rfl)
  go_enter Try.func10, Try.ntmps10
  go_wp2_with fail
  refine (next_to oA none none none 0 0 0 (fA false) _ (fcA _ _)).mono ?_
  rintro e w1 ⟨⟨v, rfl, hM⟩, k1⟩
  rw [hn.out] at hM
  obtain ⟨va, vc, rfl, _⟩ := hM.slice
  obtain ⟨g, off, rfl, hgl, c0⟩ := hM.row 0 _ rfl
  obtain ⟨g', off', e1, _, c1⟩ := hM.row 1 _ rfl
  simp only [Option.some.injEq, Addr.mk.injEq, and_true] at e1
  obtain ⟨rfl, rfl⟩ := e1
  have z0 : w1.cell? ⟨g, off, none⟩ = some (.int .i64 6) := c0 0 _ rfl
  have z2 : w1.cell? ⟨g, off + 2, none⟩ = some (.int .i64 1) := c0 2 _ rfl
  have y6 : w1.cell? ⟨g, off + 7 + 6, none⟩ = some (.int .i64 3) := c1 6 _ rfl
  obtain ⟨x0, x1, x2, x3, x4, x5⟩ := blk6 (HO.out.quiet k1)
  have K1 := Kept.mk k1
  have HO1 := Kept.mk (HO.out.quiet k1)
  clear hM c0 c1 k1
  go_wp2_with fail
  refine (state_to oA none none none 0 0 0 (fA true) 2 _ (fcA _ _) hs.out).mono ?_
  rintro e w2 ⟨rfl, k2⟩
  go_wp2_with fail
  go_ret
  exact ⟨rfl, (((Keeps.refl _ w).alloc _).trans K1.out).trans k2⟩
end Go.Proofs.Ytfcnegnkmacajaa
