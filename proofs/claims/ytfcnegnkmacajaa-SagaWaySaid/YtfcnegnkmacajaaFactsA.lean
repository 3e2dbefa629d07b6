/- Package saga's May, walked, part A. (printed by gen/sagamay.py) -/
import Derived.Test.YtfcnegnkmacajaaFacts0
import Derived.Test.YtfcnegnkmacajaaOrd3
namespace Go.Proofs.Ytfcnegnkmacajaa
open Go.RowKit
set_option linter.unusedSimpArgs false in
set_option maxRecDepth 100000 in
set_option maxHeartbeats 16000000 in
theorem fmay_no (o : Ord) (a da ua : Option Addr) (c dc uc : Nat) (done undone : List Bool) (asked yes turned a0 a1 shipped d0 d1 acc : Bool) (w : World) (h : FcAt w o a c ⟨done, undone, asked, yes, turned, a0, a1, shipped, d0, d1, acc⟩ da ua) (e0 : o.may = false) :
    Calls Try.prog 15 #[.agg #[.int .i64 o.id, .int .i64 o.item, .int .i64 o.qty, .int .i64 o.client, .int .i64 o.price, .slice a o.steps.length c], .agg #[.slice da done.length dc, .slice ua undone.length uc, .bool asked, .bool yes, .bool turned, .bool a0, .bool a1, .bool shipped, .bool d0, .bool d1, .bool acc]] w (fun e w' => e = .returned (.bool (Fct.may o ⟨done, undone, asked, yes, turned, a0, a1, shipped, d0, d1, acc⟩)) ∧ Keeps (fun _ => False) w w') := by
  have HF0 := Kept.mk ((h.alloc (.cells #[.int .i64 o.id, .int .i64 o.item, .int .i64 o.qty, .int .i64 o.client, .int .i64 o.price, .slice a o.steps.length c] 24)).alloc (.cells #[.slice da done.length dc, .slice ua undone.length uc, .bool asked, .bool yes, .bool turned, .bool a0, .bool a1, .bool shipped, .bool d0, .bool d1, .bool acc] 31))
  have HB0 := Kept.mk (Blk.new (w.alloc (.cells #[.int .i64 o.id, .int .i64 o.item, .int .i64 o.qty, .int .i64 o.client, .int .i64 o.price, .slice a o.steps.length c] 24)) 31 [.slice da done.length dc, .slice ua undone.length uc, .bool asked, .bool yes, .bool turned, .bool a0, .bool a1, .bool shipped, .bool d0, .bool d1, .bool acc])
  have hbs : (w.alloc (.cells #[.int .i64 o.id, .int .i64 o.item, .int .i64 o.qty, .int .i64 o.client, .int .i64 o.price, .slice a o.steps.length c] 24)).heap.size = w.heap.size + 1 := World.size_alloc _ _
  rw [hbs] at HB0
  have K0 : Kept (Keeps (fun _ => False) w ((w.alloc (.cells #[.int .i64 o.id, .int .i64 o.item, .int .i64 o.qty, .int .i64 o.client, .int .i64 o.price, .slice a o.steps.length c] 24)).alloc (.cells #[.slice da done.length dc, .slice ua undone.length uc, .bool asked, .bool yes, .bool turned, .bool a0, .bool a1, .bool shipped, .bool d0, .bool d1, .bool acc] 31))) := ⟨((Keeps.refl _ w).alloc _).alloc _⟩
  have hsm : (o.steps.length : Int) ≤ 9223372036854775807 := by have := h.sm; unfold maxLen at this; omega
  have hdm : (done.length : Int) ≤ 9223372036854775807 := by have := h.dm; unfold maxLen at this; simp only at this; omega
  have hum : (undone.length : Int) ≤ 9223372036854775807 := by have := h.um; unfold maxLen at this; simp only at this; omega
  clear h hbs
  have E0 := Kept.mk e0
  clear e0
  have hres : Kept (Fct.may o ⟨done, undone, asked, yes, turned, a0, a1, shipped, d0, d1, acc⟩ = false) := ⟨by simp [Fct.may, E0.out]⟩
  rw [hres.out]
  go_enter Try.func15, Try.ntmps15
  go_wp2_with fail
  refine (omay_to o a c false _ HF0.out.steps HF0.out.sm E0.out).mono ?_
  rintro e w1 ⟨rfl, k1⟩
  have HF1 := Kept.mk (HF0.out.keeps k1)
  have HB1 := Kept.mk (HB0.out.keeps k1 (fun h => h))
  have K1 := Kept.mk (K0.out.trans k1)
  clear k1 HF0 HB0 K0
  obtain ⟨y0, y1, y2, y3, y4, y5, y6, y7, y8, y9, y10⟩ := blk11 HB1.out
  go_wp2_with fail
  go_ret
  exact ⟨rfl, K1.out⟩
set_option linter.unusedSimpArgs false in
set_option maxRecDepth 100000 in
set_option maxHeartbeats 16000000 in
theorem fmay_short (o : Ord) (a da ua : Option Addr) (c dc uc : Nat) (done undone : List Bool) (asked yes turned a0 a1 shipped d0 d1 acc : Bool) (w : World) (h : FcAt w o a c ⟨done, undone, asked, yes, turned, a0, a1, shipped, d0, d1, acc⟩ da ua) (e0 : o.may = true) (hl : ¬ (done.length = o.steps.length ∧ undone.length = o.steps.length)) :
    Calls Try.prog 15 #[.agg #[.int .i64 o.id, .int .i64 o.item, .int .i64 o.qty, .int .i64 o.client, .int .i64 o.price, .slice a o.steps.length c], .agg #[.slice da done.length dc, .slice ua undone.length uc, .bool asked, .bool yes, .bool turned, .bool a0, .bool a1, .bool shipped, .bool d0, .bool d1, .bool acc]] w (fun e w' => e = .returned (.bool (Fct.may o ⟨done, undone, asked, yes, turned, a0, a1, shipped, d0, d1, acc⟩)) ∧ Keeps (fun _ => False) w w') := by
  have HF0 := Kept.mk ((h.alloc (.cells #[.int .i64 o.id, .int .i64 o.item, .int .i64 o.qty, .int .i64 o.client, .int .i64 o.price, .slice a o.steps.length c] 24)).alloc (.cells #[.slice da done.length dc, .slice ua undone.length uc, .bool asked, .bool yes, .bool turned, .bool a0, .bool a1, .bool shipped, .bool d0, .bool d1, .bool acc] 31))
  have HB0 := Kept.mk (Blk.new (w.alloc (.cells #[.int .i64 o.id, .int .i64 o.item, .int .i64 o.qty, .int .i64 o.client, .int .i64 o.price, .slice a o.steps.length c] 24)) 31 [.slice da done.length dc, .slice ua undone.length uc, .bool asked, .bool yes, .bool turned, .bool a0, .bool a1, .bool shipped, .bool d0, .bool d1, .bool acc])
  have hbs : (w.alloc (.cells #[.int .i64 o.id, .int .i64 o.item, .int .i64 o.qty, .int .i64 o.client, .int .i64 o.price, .slice a o.steps.length c] 24)).heap.size = w.heap.size + 1 := World.size_alloc _ _
  rw [hbs] at HB0
  have K0 : Kept (Keeps (fun _ => False) w ((w.alloc (.cells #[.int .i64 o.id, .int .i64 o.item, .int .i64 o.qty, .int .i64 o.client, .int .i64 o.price, .slice a o.steps.length c] 24)).alloc (.cells #[.slice da done.length dc, .slice ua undone.length uc, .bool asked, .bool yes, .bool turned, .bool a0, .bool a1, .bool shipped, .bool d0, .bool d1, .bool acc] 31))) := ⟨((Keeps.refl _ w).alloc _).alloc _⟩
  have hsm : (o.steps.length : Int) ≤ 9223372036854775807 := by have := h.sm; unfold maxLen at this; omega
  have hdm : (done.length : Int) ≤ 9223372036854775807 := by have := h.dm; unfold maxLen at this; simp only at this; omega
  have hum : (undone.length : Int) ≤ 9223372036854775807 := by have := h.um; unfold maxLen at this; simp only at this; omega
  clear h hbs
  have E0 := Kept.mk e0
  clear e0
  have hl3 := Ord.may_len E0.out
  by_cases l1 : done.length = o.steps.length
  · have g1 : ((done.length : Int) == (o.steps.length : Int)) = true := by rw [beq_iff_eq, l1]
    have q1 : ((done.length : Int) != (o.steps.length : Int)) = false := by rw [l1]; simp
    have L1 := Kept.mk l1
    have hl1 : done.length ≤ o.steps.length := by omega
    clear l1
    have l2 : ¬ undone.length = o.steps.length := fun h => hl ⟨L1.out, h⟩
    clear hl
    · have g2 : ((undone.length : Int) == (o.steps.length : Int)) = false := by rw [beq_eq_false_iff_ne]; omega
      have q2 : ((undone.length : Int) != (o.steps.length : Int)) = true := by rw [bne_iff_ne]; omega
      have L2 := Kept.mk l2
      clear l2
      have hres : Kept (Fct.may o ⟨done, undone, asked, yes, turned, a0, a1, shipped, d0, d1, acc⟩ = false) := ⟨by simp [Fct.may, L2.out]⟩
      rw [hres.out]
      go_enter Try.func15, Try.ntmps15
      go_wp2_with fail
      refine (omay_to o a c true _ HF0.out.steps HF0.out.sm E0.out).mono ?_
      rintro e w1 ⟨rfl, k1⟩
      have HF1 := Kept.mk (HF0.out.keeps k1)
      have HB1 := Kept.mk (HB0.out.keeps k1 (fun h => h))
      have K1 := Kept.mk (K0.out.trans k1)
      clear k1 HF0 HB0 K0
      obtain ⟨y0, y1, y2, y3, y4, y5, y6, y7, y8, y9, y10⟩ := blk11 HB1.out
      go_wp2_with fail
      go_ret
      exact ⟨rfl, K1.out⟩
  · have g1 : ((done.length : Int) == (o.steps.length : Int)) = false := by rw [beq_eq_false_iff_ne]; omega
    have q1 : ((done.length : Int) != (o.steps.length : Int)) = true := by rw [bne_iff_ne]; omega
    have L1 := Kept.mk l1
    clear l1
    clear hl
    have hres : Kept (Fct.may o ⟨done, undone, asked, yes, turned, a0, a1, shipped, d0, d1, acc⟩ = false) := ⟨by simp [Fct.may, L1.out]⟩
    rw [hres.out]
    go_enter Try.func15, Try.ntmps15
    go_wp2_with fail
    refine (omay_to o a c true _ HF0.out.steps HF0.out.sm E0.out).mono ?_
    rintro e w1 ⟨rfl, k1⟩
    have HF1 := Kept.mk (HF0.out.keeps k1)
    have HB1 := Kept.mk (HB0.out.keeps k1 (fun h => h))
    have K1 := Kept.mk (K0.out.trans k1)
    clear k1 HF0 HB0 K0
    obtain ⟨y0, y1, y2, y3, y4, y5, y6, y7, y8, y9, y10⟩ := blk11 HB1.out
    go_wp2_with fail
    go_ret
    exact ⟨rfl, K1.out⟩
set_option linter.unusedSimpArgs false in
set_option maxRecDepth 100000 in
set_option maxHeartbeats 16000000 in
theorem fmay_both (o : Ord) (a da ua : Option Addr) (c dc uc : Nat) (done undone : List Bool) (asked yes turned a0 a1 shipped d0 d1 acc : Bool) (w : World) (h : FcAt w o a c ⟨done, undone, asked, yes, turned, a0, a1, shipped, d0, d1, acc⟩ da ua) (hy : yes = true) (ht : turned = true) (e0 : o.may = true) (l1 : done.length = o.steps.length) (l2 : undone.length = o.steps.length) :
    Calls Try.prog 15 #[.agg #[.int .i64 o.id, .int .i64 o.item, .int .i64 o.qty, .int .i64 o.client, .int .i64 o.price, .slice a o.steps.length c], .agg #[.slice da done.length dc, .slice ua undone.length uc, .bool asked, .bool yes, .bool turned, .bool a0, .bool a1, .bool shipped, .bool d0, .bool d1, .bool acc]] w (fun e w' => e = .returned (.bool (Fct.may o ⟨done, undone, asked, yes, turned, a0, a1, shipped, d0, d1, acc⟩)) ∧ Keeps (fun _ => False) w w') := by
  have HF0 := Kept.mk ((h.alloc (.cells #[.int .i64 o.id, .int .i64 o.item, .int .i64 o.qty, .int .i64 o.client, .int .i64 o.price, .slice a o.steps.length c] 24)).alloc (.cells #[.slice da done.length dc, .slice ua undone.length uc, .bool asked, .bool yes, .bool turned, .bool a0, .bool a1, .bool shipped, .bool d0, .bool d1, .bool acc] 31))
  have HB0 := Kept.mk (Blk.new (w.alloc (.cells #[.int .i64 o.id, .int .i64 o.item, .int .i64 o.qty, .int .i64 o.client, .int .i64 o.price, .slice a o.steps.length c] 24)) 31 [.slice da done.length dc, .slice ua undone.length uc, .bool asked, .bool yes, .bool turned, .bool a0, .bool a1, .bool shipped, .bool d0, .bool d1, .bool acc])
  have hbs : (w.alloc (.cells #[.int .i64 o.id, .int .i64 o.item, .int .i64 o.qty, .int .i64 o.client, .int .i64 o.price, .slice a o.steps.length c] 24)).heap.size = w.heap.size + 1 := World.size_alloc _ _
  rw [hbs] at HB0
  have K0 : Kept (Keeps (fun _ => False) w ((w.alloc (.cells #[.int .i64 o.id, .int .i64 o.item, .int .i64 o.qty, .int .i64 o.client, .int .i64 o.price, .slice a o.steps.length c] 24)).alloc (.cells #[.slice da done.length dc, .slice ua undone.length uc, .bool asked, .bool yes, .bool turned, .bool a0, .bool a1, .bool shipped, .bool d0, .bool d1, .bool acc] 31))) := ⟨((Keeps.refl _ w).alloc _).alloc _⟩
  have hsm : (o.steps.length : Int) ≤ 9223372036854775807 := by have := h.sm; unfold maxLen at this; omega
  have hdm : (done.length : Int) ≤ 9223372036854775807 := by have := h.dm; unfold maxLen at this; simp only at this; omega
  have hum : (undone.length : Int) ≤ 9223372036854775807 := by have := h.um; unfold maxLen at this; simp only at this; omega
  clear h hbs
  subst hy
  subst ht
  have E0 := Kept.mk e0
  clear e0
  have hl3 := Ord.may_len E0.out
  have g1 : ((done.length : Int) == (o.steps.length : Int)) = true := by rw [beq_iff_eq, l1]
  have q1 : ((done.length : Int) != (o.steps.length : Int)) = false := by rw [l1]; simp
  have L1 := Kept.mk l1
  have hl1 : done.length ≤ o.steps.length := by omega
  clear l1
  have g2 : ((undone.length : Int) == (o.steps.length : Int)) = true := by rw [beq_iff_eq, l2]
  have q2 : ((undone.length : Int) != (o.steps.length : Int)) = false := by rw [l2]; simp
  have L2 := Kept.mk l2
  have hl2 : undone.length ≤ o.steps.length := by omega
  clear l2
  have hres : Kept (Fct.may o ⟨done, undone, asked, true, true, a0, a1, shipped, d0, d1, acc⟩ = false) := ⟨by simp [Fct.may]⟩
  rw [hres.out]
  go_enter Try.func15, Try.ntmps15
  go_wp2_with fail
  refine (omay_to o a c true _ HF0.out.steps HF0.out.sm E0.out).mono ?_
  rintro e w1 ⟨rfl, k1⟩
  have HF1 := Kept.mk (HF0.out.keeps k1)
  have HB1 := Kept.mk (HB0.out.keeps k1 (fun h => h))
  have K1 := Kept.mk (K0.out.trans k1)
  clear k1 HF0 HB0 K0
  obtain ⟨y0, y1, y2, y3, y4, y5, y6, y7, y8, y9, y10⟩ := blk11 HB1.out
  go_wp2_with fail
  go_ret
  exact ⟨rfl, K1.out⟩
end Go.Proofs.Ytfcnegnkmacajaa
