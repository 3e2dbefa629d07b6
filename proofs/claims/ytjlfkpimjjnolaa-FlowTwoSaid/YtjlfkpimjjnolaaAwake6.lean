/- The layer's awake (flow), walked. -/
import Derived.Test.YtjlfkpimjjnolaaLplan
import Derived.Test.YtjlfkpimjjnolaaLback
import Derived.Test.YtjlfkpimjjnolaaModelP
namespace Go.Proofs.Ytjlfkpimjjnolaa
open Go.RowKit
set_option linter.unusedSimpArgs false in
set_option maxRecDepth 100000 in
set_option maxHeartbeats 4000000 in
theorem awake6_any (w : World) : Calls Try.prog 11 #[] w (Yes w) := by
  obtain ⟨o, ho⟩ : ∃ o : Ord, o = ⟨1, 0, 1, 0, 1, [(6, 1)]⟩ := ⟨_, rfl⟩
  have hmay : o.may = true := by subst ho; decide
  have hL : StRow (w.alloc (.cells #[.int .i64 6, .int .i64 1] 45)) (some ⟨w.heap.size, 0, none⟩) o.steps := by
    have hb := Blk.new w 45 [.int .i64 6, .int .i64 1]
    subst ho
    intro k x hx
    match k, hx with
    | 0, hx =>
      simp only [List.getElem?_cons_zero, Option.some.injEq] at hx
      subst hx
      exact ⟨w.heap.size, 0, rfl, by simp, hb.cell 0 rfl, hb.cell 1 rfl⟩
    | k + 1, hx => simp at hx
  have i0 := MInv.zero hmay
  have m1 : Sty.zero.may (2, 0) o.steps.length = true := by subst ho; decide
  have i1 := i0.step m1
  have m2 : (Sty.zero.note 2).may (16, 0) o.steps.length = false := by subst ho; decide
  have g2 := i1.stop m2
  rw [List.nil_append] at g2
  have e1 : o.id = 1 := by rw [ho]
  have e2 : o.item = 0 := by rw [ho]
  have e3 : o.qty = 1 := by rw [ho]
  have e4 : o.client = 0 := by rw [ho]
  have e5 : o.price = 1 := by rw [ho]
  have e6 : o.steps.length = 1 := by rw [ho]; rfl
  have leg := fun W h1 h2 => legal_of o (some ⟨w.heap.size, 0, none⟩) (some ⟨w.heap.size + 1 + 1, 0, none⟩) 1 2 2 [(2, 0), (16, 0)] 1 W h1 (by rw [e6]; unfold maxLen; omega) h2 rfl (by unfold maxLen; omega) g2
  have pl := fun W h => plan_to o (some ⟨w.heap.size, 0, none⟩) 1 W h hmay
  have bk := fun W h => back_to o (some ⟨w.heap.size, 0, none⟩) 1 W h hmay
  rw [e1, e2, e3, e4, e5, e6] at leg pl bk
  have Leg := Kept.mk leg
  have Pl := Kept.mk pl
  have Bk := Kept.mk bk
  have HL := Kept.mk hL
  have K1 := Kept.mk ((Keeps.refl (fun _ => False) w).alloc (.cells #[.int .i64 6, .int .i64 1] 45))
  have HO : Kept (Blk ((w.alloc (.cells #[.int .i64 6, .int .i64 1] 45)).alloc (.cells #[.int .i64 1, .int .i64 0, .int .i64 1, .int .i64 0, .int .i64 1, .slice (some ⟨w.heap.size, 0, none⟩) 1 1] 24)) (w.heap.size + 1) 24 [.int .i64 1, .int .i64 0, .int .i64 1, .int .i64 0, .int .i64 1, .slice (some ⟨w.heap.size, 0, none⟩) 1 1]) := ⟨Blk.newT _ _ _ _ (by simp)⟩
  have HA : Kept (AcRow ((((w.alloc (.cells #[.int .i64 6, .int .i64 1] 45)).alloc (.cells #[.int .i64 1, .int .i64 0, .int .i64 1, .int .i64 0, .int .i64 1, .slice (some ⟨w.heap.size, 0, none⟩) 1 1] 24))).alloc (.cells #[.int .i64 2, .int .i64 0, .int .i64 16, .int .i64 0] 30)) (some ⟨w.heap.size + 1 + 1, 0, none⟩) [(2, 0), (16, 0)]) := ⟨by
    have hb := Blk.newT ((w.alloc (.cells #[.int .i64 6, .int .i64 1] 45)).alloc (.cells #[.int .i64 1, .int .i64 0, .int .i64 1, .int .i64 0, .int .i64 1, .slice (some ⟨w.heap.size, 0, none⟩) 1 1] 24)) 30 [.int .i64 2, .int .i64 0, .int .i64 16, .int .i64 0] (w.heap.size + 1 + 1) (by simp)
    intro k x hx
    match k, hx with
    | 0, hx =>
      simp only [List.getElem?_cons_zero, Option.some.injEq] at hx
      subst hx
      exact ⟨w.heap.size + 1 + 1, 0, rfl, by simp, hb.cell 0 rfl, hb.cell 1 rfl⟩
    | 1, hx =>
      simp at hx
      subst hx
      exact ⟨w.heap.size + 1 + 1, 0, rfl, by simp, hb.cell 2 rfl, hb.cell 3 rfl⟩
    | k + 2, hx => simp at hx⟩
  clear hL i0 m1 i1 m2 e1 e2 e3 e4 e5 e6 hmay ho g2 leg pl bk
  go_enter Try.func11, Try.ntmps11
  go_wp2_with fail
  refine (Leg.out _ ((HL.out.alloc _).alloc _) HA.out).mono ?_
  rintro e w1 ⟨rfl, k1⟩
  have K2 := Kept.mk (((K1.out.alloc _).alloc _).trans k1)
  have HL2 := Kept.mk (((HL.out.alloc _).alloc _).quiet k1)
  have HO2 := Kept.mk ((HO.out.alloc _).keeps k1 (fun h => h))
  obtain ⟨x0, x1, x2, x3, x4, x5⟩ : _ ∧ _ ∧ _ ∧ _ ∧ _ ∧ _ := ⟨HO2.out.cell 0 rfl, HO2.out.cell 1 rfl, HO2.out.cell 2 rfl, HO2.out.cell 3 rfl, HO2.out.cell 4 rfl, HO2.out.cell 5 rfl⟩
  clear k1 K1 HL HO HA Leg
  go_wp2_with fail
  refine (Pl.out _ HL2.out).mono ?_
  rintro e w2 ⟨⟨a2, c2, rfl⟩, k2⟩
  have K3 := Kept.mk (K2.out.trans k2)
  have HL3 := Kept.mk (HL2.out.quiet k2)
  have HO3 := Kept.mk (HO2.out.keeps k2 (fun h => h))
  clear x0 x1 x2 x3 x4 x5
  obtain ⟨x0, x1, x2, x3, x4, x5⟩ : _ ∧ _ ∧ _ ∧ _ ∧ _ ∧ _ := ⟨HO3.out.cell 0 rfl, HO3.out.cell 1 rfl, HO3.out.cell 2 rfl, HO3.out.cell 3 rfl, HO3.out.cell 4 rfl, HO3.out.cell 5 rfl⟩
  clear k2 K2 HL2 HO2 Pl
  go_wp2_with fail
  refine (Bk.out _ HL3.out).mono ?_
  rintro e w3 ⟨⟨a3, c3, rfl⟩, k3⟩
  have K4 := Kept.mk (K3.out.trans k3)
  clear k3
  go_wp2_with fail
  go_ret
  exact ⟨rfl, K4.out.below (Nat.le_refl _) (fun _ h => h.elim)⟩
end Go.Proofs.Ytjlfkpimjjnolaa
