/- The page's MayFacts, walked. (printed by gen/rmay.py) -/
import Derived.Test.YtfcnegnkmacajaaRef12
import Derived.Test.YtfcnegnkmacajaaOrd4
import Derived.Test.YtfcnegnkmacajaaDecide
namespace Go.Proofs.Ytfcnegnkmacajaa
open Go.RowKit
theorem two_row {w : World} {b i : Nat} {x y : Bool} (h0 : w.cell? ⟨b, i, none⟩ = some (.bool x)) (h1 : w.cell? ⟨b, i + 1, none⟩ = some (.bool y)) (hl : b < w.heap.size) : BlRow w (some ⟨b, i, none⟩) [x, y] := by
  intro k z hk
  match k, hk with
  | 0, hk =>
    simp only [List.getElem?_cons_zero, Option.some.injEq] at hk
    subst hk
    exact ⟨b, i, rfl, hl, h0⟩
  | 1, hk =>
    simp only [List.getElem?_cons_succ, List.getElem?_cons_zero, Option.some.injEq] at hk
    subst hk
    exact ⟨b, i, rfl, hl, h1⟩
theorem hasB_two (x y : Bool) : hasB [x, y] true = (x || y) := by cases x <;> cases y <;> rfl
set_option linter.unusedSimpArgs false in
set_option maxRecDepth 100000 in
set_option maxHeartbeats 16000000 in
theorem rm_no (o : Ord) (a da ua : Option Addr) (c dc uc : Nat) (done undone : List Bool) (asked yes turned a0 a1 shipped d0 d1 acc : Bool) (w : World) (h : FcAt w o a c ⟨done, undone, asked, yes, turned, a0, a1, shipped, d0, d1, acc⟩ da ua) (hc : o.steps.length ≤ c) (hcm : c ≤ maxLen) (e0 : o.may = false) :
    Calls Try.prog 16 #[.agg #[.int .i64 o.id, .int .i64 o.item, .int .i64 o.qty, .int .i64 o.client, .int .i64 o.price, .slice a o.steps.length c], .agg #[.slice da done.length dc, .slice ua undone.length uc, .bool asked, .bool yes, .bool turned, .bool a0, .bool a1, .bool shipped, .bool d0, .bool d1, .bool acc]] w (fun e w' => e = .returned (.bool (false)) ∧ Keeps (fun _ => False) w w') := by
  have HF0 := Kept.mk ((h.alloc (.cells #[.int .i64 o.id, .int .i64 o.item, .int .i64 o.qty, .int .i64 o.client, .int .i64 o.price, .slice a o.steps.length c] 24)).alloc (.cells #[.slice da done.length dc, .slice ua undone.length uc, .bool asked, .bool yes, .bool turned, .bool a0, .bool a1, .bool shipped, .bool d0, .bool d1, .bool acc] 42))
  have HB0 := Kept.mk (Blk.new' (w.alloc (.cells #[.int .i64 o.id, .int .i64 o.item, .int .i64 o.qty, .int .i64 o.client, .int .i64 o.price, .slice a o.steps.length c] 24)) 42 [.slice da done.length dc, .slice ua undone.length uc, .bool asked, .bool yes, .bool turned, .bool a0, .bool a1, .bool shipped, .bool d0, .bool d1, .bool acc] (w.heap.size + 1) (by simp))
  have HO0 := Kept.mk ((Blk.new' w 24 [.int .i64 o.id, .int .i64 o.item, .int .i64 o.qty, .int .i64 o.client, .int .i64 o.price, .slice a o.steps.length c] _ rfl).alloc (.cells #[.slice da done.length dc, .slice ua undone.length uc, .bool asked, .bool yes, .bool turned, .bool a0, .bool a1, .bool shipped, .bool d0, .bool d1, .bool acc] 42))
  have K0 : Kept (Keeps (fun _ => False) w ((w.alloc (.cells #[.int .i64 o.id, .int .i64 o.item, .int .i64 o.qty, .int .i64 o.client, .int .i64 o.price, .slice a o.steps.length c] 24)).alloc (.cells #[.slice da done.length dc, .slice ua undone.length uc, .bool asked, .bool yes, .bool turned, .bool a0, .bool a1, .bool shipped, .bool d0, .bool d1, .bool acc] 42))) := ⟨((Keeps.refl _ w).alloc _).alloc _⟩
  have hdm : (done.length : Int) ≤ 9223372036854775807 := by have := h.dm; unfold maxLen at this; simp only at this; omega
  have hum : (undone.length : Int) ≤ 9223372036854775807 := by have := h.um; unfold maxLen at this; simp only at this; omega
  have hsm : (o.steps.length : Int) ≤ 9223372036854775807 := by have := h.sm; unfold maxLen at this; omega
  clear h
  have E0 := Kept.mk e0
  clear e0
  go_enter Try.func16, Try.ntmps16
  go_wp2_with fail
  refine (romay_to o a c false _ HF0.out.steps HF0.out.sm hc hcm E0.out).mono ?_
  rintro e w1 ⟨rfl, k1⟩
  have HF1 := Kept.mk (HF0.out.keeps k1)
  have HB1 := Kept.mk (HB0.out.quiet k1)
  have HO1 := Kept.mk (HO0.out.quiet k1)
  have K1 := Kept.mk (K0.out.trans k1)
  clear k1 HF0 HB0 HO0 K0
  obtain ⟨y0, y1, y2, y3, y4, y5, y6, y7, y8, y9, y10⟩ := blk11 HB1.out
  obtain ⟨x0, x1, x2, x3, x4, x5⟩ := blk6 HO1.out
  have HA2 : Kept (BlRow w1 (some ⟨w.heap.size + 1, 5, none⟩) [a0, a1]) := ⟨two_row y5 y6 HB1.out.lt⟩
  have HD2 : Kept (BlRow w1 (some ⟨w.heap.size + 1, 8, none⟩) [d0, d1]) := ⟨two_row y8 y9 HB1.out.lt⟩
  go_wp2_with fail
  go_ret
  exact ⟨rfl, K1.out⟩
set_option linter.unusedSimpArgs false in
set_option maxRecDepth 100000 in
set_option maxHeartbeats 16000000 in
theorem rm_l1 (o : Ord) (a da ua : Option Addr) (c dc uc : Nat) (done undone : List Bool) (asked yes turned a0 a1 shipped d0 d1 acc : Bool) (w : World) (h : FcAt w o a c ⟨done, undone, asked, yes, turned, a0, a1, shipped, d0, d1, acc⟩ da ua) (hc : o.steps.length ≤ c) (hcm : c ≤ maxLen) (e0 : o.may = true) (l1 : ¬ done.length = o.steps.length) :
    Calls Try.prog 16 #[.agg #[.int .i64 o.id, .int .i64 o.item, .int .i64 o.qty, .int .i64 o.client, .int .i64 o.price, .slice a o.steps.length c], .agg #[.slice da done.length dc, .slice ua undone.length uc, .bool asked, .bool yes, .bool turned, .bool a0, .bool a1, .bool shipped, .bool d0, .bool d1, .bool acc]] w (fun e w' => e = .returned (.bool (false)) ∧ Keeps (fun _ => False) w w') := by
  have HF0 := Kept.mk ((h.alloc (.cells #[.int .i64 o.id, .int .i64 o.item, .int .i64 o.qty, .int .i64 o.client, .int .i64 o.price, .slice a o.steps.length c] 24)).alloc (.cells #[.slice da done.length dc, .slice ua undone.length uc, .bool asked, .bool yes, .bool turned, .bool a0, .bool a1, .bool shipped, .bool d0, .bool d1, .bool acc] 42))
  have HB0 := Kept.mk (Blk.new' (w.alloc (.cells #[.int .i64 o.id, .int .i64 o.item, .int .i64 o.qty, .int .i64 o.client, .int .i64 o.price, .slice a o.steps.length c] 24)) 42 [.slice da done.length dc, .slice ua undone.length uc, .bool asked, .bool yes, .bool turned, .bool a0, .bool a1, .bool shipped, .bool d0, .bool d1, .bool acc] (w.heap.size + 1) (by simp))
  have HO0 := Kept.mk ((Blk.new' w 24 [.int .i64 o.id, .int .i64 o.item, .int .i64 o.qty, .int .i64 o.client, .int .i64 o.price, .slice a o.steps.length c] _ rfl).alloc (.cells #[.slice da done.length dc, .slice ua undone.length uc, .bool asked, .bool yes, .bool turned, .bool a0, .bool a1, .bool shipped, .bool d0, .bool d1, .bool acc] 42))
  have K0 : Kept (Keeps (fun _ => False) w ((w.alloc (.cells #[.int .i64 o.id, .int .i64 o.item, .int .i64 o.qty, .int .i64 o.client, .int .i64 o.price, .slice a o.steps.length c] 24)).alloc (.cells #[.slice da done.length dc, .slice ua undone.length uc, .bool asked, .bool yes, .bool turned, .bool a0, .bool a1, .bool shipped, .bool d0, .bool d1, .bool acc] 42))) := ⟨((Keeps.refl _ w).alloc _).alloc _⟩
  have hdm : (done.length : Int) ≤ 9223372036854775807 := by have := h.dm; unfold maxLen at this; simp only at this; omega
  have hum : (undone.length : Int) ≤ 9223372036854775807 := by have := h.um; unfold maxLen at this; simp only at this; omega
  have hsm : (o.steps.length : Int) ≤ 9223372036854775807 := by have := h.sm; unfold maxLen at this; omega
  clear h
  have E0 := Kept.mk e0
  have g1 : ((done.length : Int) != (o.steps.length : Int)) = true := by rw [bne_iff_ne]; omega
  clear e0 l1
  go_enter Try.func16, Try.ntmps16
  go_wp2_with fail
  refine (romay_to o a c true _ HF0.out.steps HF0.out.sm hc hcm E0.out).mono ?_
  rintro e w1 ⟨rfl, k1⟩
  have HF1 := Kept.mk (HF0.out.keeps k1)
  have HB1 := Kept.mk (HB0.out.quiet k1)
  have HO1 := Kept.mk (HO0.out.quiet k1)
  have K1 := Kept.mk (K0.out.trans k1)
  clear k1 HF0 HB0 HO0 K0
  obtain ⟨y0, y1, y2, y3, y4, y5, y6, y7, y8, y9, y10⟩ := blk11 HB1.out
  obtain ⟨x0, x1, x2, x3, x4, x5⟩ := blk6 HO1.out
  have HA2 : Kept (BlRow w1 (some ⟨w.heap.size + 1, 5, none⟩) [a0, a1]) := ⟨two_row y5 y6 HB1.out.lt⟩
  have HD2 : Kept (BlRow w1 (some ⟨w.heap.size + 1, 8, none⟩) [d0, d1]) := ⟨two_row y8 y9 HB1.out.lt⟩
  go_wp2_with fail
  go_ret
  exact ⟨rfl, K1.out⟩
set_option linter.unusedSimpArgs false in
set_option maxRecDepth 100000 in
set_option maxHeartbeats 16000000 in
theorem rm_l2 (o : Ord) (a da ua : Option Addr) (c dc uc : Nat) (done undone : List Bool) (asked yes turned a0 a1 shipped d0 d1 acc : Bool) (w : World) (h : FcAt w o a c ⟨done, undone, asked, yes, turned, a0, a1, shipped, d0, d1, acc⟩ da ua) (hc : o.steps.length ≤ c) (hcm : c ≤ maxLen) (e0 : o.may = true) (l1 : done.length = o.steps.length) (l2 : ¬ undone.length = o.steps.length) :
    Calls Try.prog 16 #[.agg #[.int .i64 o.id, .int .i64 o.item, .int .i64 o.qty, .int .i64 o.client, .int .i64 o.price, .slice a o.steps.length c], .agg #[.slice da done.length dc, .slice ua undone.length uc, .bool asked, .bool yes, .bool turned, .bool a0, .bool a1, .bool shipped, .bool d0, .bool d1, .bool acc]] w (fun e w' => e = .returned (.bool (false)) ∧ Keeps (fun _ => False) w w') := by
  have HF0 := Kept.mk ((h.alloc (.cells #[.int .i64 o.id, .int .i64 o.item, .int .i64 o.qty, .int .i64 o.client, .int .i64 o.price, .slice a o.steps.length c] 24)).alloc (.cells #[.slice da done.length dc, .slice ua undone.length uc, .bool asked, .bool yes, .bool turned, .bool a0, .bool a1, .bool shipped, .bool d0, .bool d1, .bool acc] 42))
  have HB0 := Kept.mk (Blk.new' (w.alloc (.cells #[.int .i64 o.id, .int .i64 o.item, .int .i64 o.qty, .int .i64 o.client, .int .i64 o.price, .slice a o.steps.length c] 24)) 42 [.slice da done.length dc, .slice ua undone.length uc, .bool asked, .bool yes, .bool turned, .bool a0, .bool a1, .bool shipped, .bool d0, .bool d1, .bool acc] (w.heap.size + 1) (by simp))
  have HO0 := Kept.mk ((Blk.new' w 24 [.int .i64 o.id, .int .i64 o.item, .int .i64 o.qty, .int .i64 o.client, .int .i64 o.price, .slice a o.steps.length c] _ rfl).alloc (.cells #[.slice da done.length dc, .slice ua undone.length uc, .bool asked, .bool yes, .bool turned, .bool a0, .bool a1, .bool shipped, .bool d0, .bool d1, .bool acc] 42))
  have K0 : Kept (Keeps (fun _ => False) w ((w.alloc (.cells #[.int .i64 o.id, .int .i64 o.item, .int .i64 o.qty, .int .i64 o.client, .int .i64 o.price, .slice a o.steps.length c] 24)).alloc (.cells #[.slice da done.length dc, .slice ua undone.length uc, .bool asked, .bool yes, .bool turned, .bool a0, .bool a1, .bool shipped, .bool d0, .bool d1, .bool acc] 42))) := ⟨((Keeps.refl _ w).alloc _).alloc _⟩
  have hdm : (done.length : Int) ≤ 9223372036854775807 := by have := h.dm; unfold maxLen at this; simp only at this; omega
  have hum : (undone.length : Int) ≤ 9223372036854775807 := by have := h.um; unfold maxLen at this; simp only at this; omega
  have hsm : (o.steps.length : Int) ≤ 9223372036854775807 := by have := h.sm; unfold maxLen at this; omega
  clear h
  have E0 := Kept.mk e0
  have g1 : ((done.length : Int) != (o.steps.length : Int)) = false := by rw [l1]; simp
  have g2 : ((undone.length : Int) != (o.steps.length : Int)) = true := by rw [bne_iff_ne]; omega
  have L1 := Kept.mk l1
  clear e0 l1 l2
  go_enter Try.func16, Try.ntmps16
  go_wp2_with fail
  refine (romay_to o a c true _ HF0.out.steps HF0.out.sm hc hcm E0.out).mono ?_
  rintro e w1 ⟨rfl, k1⟩
  have HF1 := Kept.mk (HF0.out.keeps k1)
  have HB1 := Kept.mk (HB0.out.quiet k1)
  have HO1 := Kept.mk (HO0.out.quiet k1)
  have K1 := Kept.mk (K0.out.trans k1)
  clear k1 HF0 HB0 HO0 K0
  obtain ⟨y0, y1, y2, y3, y4, y5, y6, y7, y8, y9, y10⟩ := blk11 HB1.out
  obtain ⟨x0, x1, x2, x3, x4, x5⟩ := blk6 HO1.out
  have HA2 : Kept (BlRow w1 (some ⟨w.heap.size + 1, 5, none⟩) [a0, a1]) := ⟨two_row y5 y6 HB1.out.lt⟩
  have HD2 : Kept (BlRow w1 (some ⟨w.heap.size + 1, 8, none⟩) [d0, d1]) := ⟨two_row y8 y9 HB1.out.lt⟩
  go_wp2_with fail
  go_ret
  exact ⟨rfl, K1.out⟩
set_option linter.unusedSimpArgs false in
set_option maxRecDepth 100000 in
set_option maxHeartbeats 16000000 in
theorem rm_both (o : Ord) (a da ua : Option Addr) (c dc uc : Nat) (done undone : List Bool) (asked yes turned a0 a1 shipped d0 d1 acc : Bool) (w : World) (h : FcAt w o a c ⟨done, undone, asked, yes, turned, a0, a1, shipped, d0, d1, acc⟩ da ua) (hc : o.steps.length ≤ c) (hcm : c ≤ maxLen) (e0 : o.may = true) (l1 : done.length = o.steps.length) (l2 : undone.length = o.steps.length) (hy : yes = true) (ht : turned = true) :
    Calls Try.prog 16 #[.agg #[.int .i64 o.id, .int .i64 o.item, .int .i64 o.qty, .int .i64 o.client, .int .i64 o.price, .slice a o.steps.length c], .agg #[.slice da done.length dc, .slice ua undone.length uc, .bool asked, .bool yes, .bool turned, .bool a0, .bool a1, .bool shipped, .bool d0, .bool d1, .bool acc]] w (fun e w' => e = .returned (.bool (false)) ∧ Keeps (fun _ => False) w w') := by
  have HF0 := Kept.mk ((h.alloc (.cells #[.int .i64 o.id, .int .i64 o.item, .int .i64 o.qty, .int .i64 o.client, .int .i64 o.price, .slice a o.steps.length c] 24)).alloc (.cells #[.slice da done.length dc, .slice ua undone.length uc, .bool asked, .bool yes, .bool turned, .bool a0, .bool a1, .bool shipped, .bool d0, .bool d1, .bool acc] 42))
  have HB0 := Kept.mk (Blk.new' (w.alloc (.cells #[.int .i64 o.id, .int .i64 o.item, .int .i64 o.qty, .int .i64 o.client, .int .i64 o.price, .slice a o.steps.length c] 24)) 42 [.slice da done.length dc, .slice ua undone.length uc, .bool asked, .bool yes, .bool turned, .bool a0, .bool a1, .bool shipped, .bool d0, .bool d1, .bool acc] (w.heap.size + 1) (by simp))
  have HO0 := Kept.mk ((Blk.new' w 24 [.int .i64 o.id, .int .i64 o.item, .int .i64 o.qty, .int .i64 o.client, .int .i64 o.price, .slice a o.steps.length c] _ rfl).alloc (.cells #[.slice da done.length dc, .slice ua undone.length uc, .bool asked, .bool yes, .bool turned, .bool a0, .bool a1, .bool shipped, .bool d0, .bool d1, .bool acc] 42))
  have K0 : Kept (Keeps (fun _ => False) w ((w.alloc (.cells #[.int .i64 o.id, .int .i64 o.item, .int .i64 o.qty, .int .i64 o.client, .int .i64 o.price, .slice a o.steps.length c] 24)).alloc (.cells #[.slice da done.length dc, .slice ua undone.length uc, .bool asked, .bool yes, .bool turned, .bool a0, .bool a1, .bool shipped, .bool d0, .bool d1, .bool acc] 42))) := ⟨((Keeps.refl _ w).alloc _).alloc _⟩
  have hdm : (done.length : Int) ≤ 9223372036854775807 := by have := h.dm; unfold maxLen at this; simp only at this; omega
  have hum : (undone.length : Int) ≤ 9223372036854775807 := by have := h.um; unfold maxLen at this; simp only at this; omega
  have hsm : (o.steps.length : Int) ≤ 9223372036854775807 := by have := h.sm; unfold maxLen at this; omega
  clear h
  subst hy
  subst ht
  have E0 := Kept.mk e0
  clear e0
  have g1 : ((done.length : Int) != (o.steps.length : Int)) = false := by rw [l1]; simp
  have g2 : ((undone.length : Int) != (o.steps.length : Int)) = false := by rw [l2]; simp
  have L1 := Kept.mk l1
  have L2 := Kept.mk l2
  clear l1 l2
  go_enter Try.func16, Try.ntmps16
  go_wp2_with fail
  refine (romay_to o a c true _ HF0.out.steps HF0.out.sm hc hcm E0.out).mono ?_
  rintro e w1 ⟨rfl, k1⟩
  have HF1 := Kept.mk (HF0.out.keeps k1)
  have HB1 := Kept.mk (HB0.out.quiet k1)
  have HO1 := Kept.mk (HO0.out.quiet k1)
  have K1 := Kept.mk (K0.out.trans k1)
  clear k1 HF0 HB0 HO0 K0
  obtain ⟨y0, y1, y2, y3, y4, y5, y6, y7, y8, y9, y10⟩ := blk11 HB1.out
  obtain ⟨x0, x1, x2, x3, x4, x5⟩ := blk6 HO1.out
  have HA2 : Kept (BlRow w1 (some ⟨w.heap.size + 1, 5, none⟩) [a0, a1]) := ⟨two_row y5 y6 HB1.out.lt⟩
  have HD2 : Kept (BlRow w1 (some ⟨w.heap.size + 1, 8, none⟩) [d0, d1]) := ⟨two_row y8 y9 HB1.out.lt⟩
  go_wp2_with fail
  go_ret
  exact ⟨rfl, K1.out⟩
set_option linter.unusedSimpArgs false in
set_option maxRecDepth 100000 in
set_option maxHeartbeats 16000000 in
theorem rm_y_all (o : Ord) (a da ua : Option Addr) (c dc uc : Nat) (done undone : List Bool) (asked yes turned a0 a1 shipped d0 d1 acc : Bool) (w : World) (h : FcAt w o a c ⟨done, undone, asked, yes, turned, a0, a1, shipped, d0, d1, acc⟩ da ua) (hc : o.steps.length ≤ c) (hcm : c ≤ maxLen) (e0 : o.may = true) (l1 : done.length = o.steps.length) (l2 : undone.length = o.steps.length) (hy : yes = true) (ht : turned = false) (e4 : hasB done false = true) :
    Calls Try.prog 16 #[.agg #[.int .i64 o.id, .int .i64 o.item, .int .i64 o.qty, .int .i64 o.client, .int .i64 o.price, .slice a o.steps.length c], .agg #[.slice da done.length dc, .slice ua undone.length uc, .bool asked, .bool yes, .bool turned, .bool a0, .bool a1, .bool shipped, .bool d0, .bool d1, .bool acc]] w (fun e w' => e = .returned (.bool (false)) ∧ Keeps (fun _ => False) w w') := by
  have HF0 := Kept.mk ((h.alloc (.cells #[.int .i64 o.id, .int .i64 o.item, .int .i64 o.qty, .int .i64 o.client, .int .i64 o.price, .slice a o.steps.length c] 24)).alloc (.cells #[.slice da done.length dc, .slice ua undone.length uc, .bool asked, .bool yes, .bool turned, .bool a0, .bool a1, .bool shipped, .bool d0, .bool d1, .bool acc] 42))
  have HB0 := Kept.mk (Blk.new' (w.alloc (.cells #[.int .i64 o.id, .int .i64 o.item, .int .i64 o.qty, .int .i64 o.client, .int .i64 o.price, .slice a o.steps.length c] 24)) 42 [.slice da done.length dc, .slice ua undone.length uc, .bool asked, .bool yes, .bool turned, .bool a0, .bool a1, .bool shipped, .bool d0, .bool d1, .bool acc] (w.heap.size + 1) (by simp))
  have HO0 := Kept.mk ((Blk.new' w 24 [.int .i64 o.id, .int .i64 o.item, .int .i64 o.qty, .int .i64 o.client, .int .i64 o.price, .slice a o.steps.length c] _ rfl).alloc (.cells #[.slice da done.length dc, .slice ua undone.length uc, .bool asked, .bool yes, .bool turned, .bool a0, .bool a1, .bool shipped, .bool d0, .bool d1, .bool acc] 42))
  have K0 : Kept (Keeps (fun _ => False) w ((w.alloc (.cells #[.int .i64 o.id, .int .i64 o.item, .int .i64 o.qty, .int .i64 o.client, .int .i64 o.price, .slice a o.steps.length c] 24)).alloc (.cells #[.slice da done.length dc, .slice ua undone.length uc, .bool asked, .bool yes, .bool turned, .bool a0, .bool a1, .bool shipped, .bool d0, .bool d1, .bool acc] 42))) := ⟨((Keeps.refl _ w).alloc _).alloc _⟩
  have hdm : (done.length : Int) ≤ 9223372036854775807 := by have := h.dm; unfold maxLen at this; simp only at this; omega
  have hum : (undone.length : Int) ≤ 9223372036854775807 := by have := h.um; unfold maxLen at this; simp only at this; omega
  have hsm : (o.steps.length : Int) ≤ 9223372036854775807 := by have := h.sm; unfold maxLen at this; omega
  clear h
  subst hy
  subst ht
  have E0 := Kept.mk e0
  clear e0
  have g1 : ((done.length : Int) != (o.steps.length : Int)) = false := by rw [l1]; simp
  have g2 : ((undone.length : Int) != (o.steps.length : Int)) = false := by rw [l2]; simp
  have L1 := Kept.mk l1
  have L2 := Kept.mk l2
  clear l1 l2
  have E4 := Kept.mk e4
  clear e4
  go_enter Try.func16, Try.ntmps16
  go_wp2_with fail
  refine (romay_to o a c true _ HF0.out.steps HF0.out.sm hc hcm E0.out).mono ?_
  rintro e w1 ⟨rfl, k1⟩
  have HF1 := Kept.mk (HF0.out.keeps k1)
  have HB1 := Kept.mk (HB0.out.quiet k1)
  have HO1 := Kept.mk (HO0.out.quiet k1)
  have K1 := Kept.mk (K0.out.trans k1)
  clear k1 HF0 HB0 HO0 K0
  obtain ⟨y0, y1, y2, y3, y4, y5, y6, y7, y8, y9, y10⟩ := blk11 HB1.out
  obtain ⟨x0, x1, x2, x3, x4, x5⟩ := blk6 HO1.out
  have HA2 : Kept (BlRow w1 (some ⟨w.heap.size + 1, 5, none⟩) [a0, a1]) := ⟨two_row y5 y6 HB1.out.lt⟩
  have HD2 : Kept (BlRow w1 (some ⟨w.heap.size + 1, 8, none⟩) [d0, d1]) := ⟨two_row y8 y9 HB1.out.lt⟩
  go_wp2_with fail
  refine (rall_to da dc done.length done false _ HF1.out.done rfl HF1.out.dm (by rw [E4.out]; rfl)).mono ?_
  rintro e _ ⟨rfl, rfl⟩
  go_wp2_with fail
  go_ret
  exact ⟨rfl, K1.out⟩
set_option linter.unusedSimpArgs false in
set_option maxRecDepth 100000 in
set_option maxHeartbeats 16000000 in
theorem rm_y_none (o : Ord) (a da ua : Option Addr) (c dc uc : Nat) (done undone : List Bool) (asked yes turned a0 a1 shipped d0 d1 acc : Bool) (w : World) (h : FcAt w o a c ⟨done, undone, asked, yes, turned, a0, a1, shipped, d0, d1, acc⟩ da ua) (hc : o.steps.length ≤ c) (hcm : c ≤ maxLen) (e0 : o.may = true) (l1 : done.length = o.steps.length) (l2 : undone.length = o.steps.length) (hy : yes = true) (ht : turned = false) (e4 : hasB done false = false) (e3 : hasB undone true = true) :
    Calls Try.prog 16 #[.agg #[.int .i64 o.id, .int .i64 o.item, .int .i64 o.qty, .int .i64 o.client, .int .i64 o.price, .slice a o.steps.length c], .agg #[.slice da done.length dc, .slice ua undone.length uc, .bool asked, .bool yes, .bool turned, .bool a0, .bool a1, .bool shipped, .bool d0, .bool d1, .bool acc]] w (fun e w' => e = .returned (.bool (false)) ∧ Keeps (fun _ => False) w w') := by
  have HF0 := Kept.mk ((h.alloc (.cells #[.int .i64 o.id, .int .i64 o.item, .int .i64 o.qty, .int .i64 o.client, .int .i64 o.price, .slice a o.steps.length c] 24)).alloc (.cells #[.slice da done.length dc, .slice ua undone.length uc, .bool asked, .bool yes, .bool turned, .bool a0, .bool a1, .bool shipped, .bool d0, .bool d1, .bool acc] 42))
  have HB0 := Kept.mk (Blk.new' (w.alloc (.cells #[.int .i64 o.id, .int .i64 o.item, .int .i64 o.qty, .int .i64 o.client, .int .i64 o.price, .slice a o.steps.length c] 24)) 42 [.slice da done.length dc, .slice ua undone.length uc, .bool asked, .bool yes, .bool turned, .bool a0, .bool a1, .bool shipped, .bool d0, .bool d1, .bool acc] (w.heap.size + 1) (by simp))
  have HO0 := Kept.mk ((Blk.new' w 24 [.int .i64 o.id, .int .i64 o.item, .int .i64 o.qty, .int .i64 o.client, .int .i64 o.price, .slice a o.steps.length c] _ rfl).alloc (.cells #[.slice da done.length dc, .slice ua undone.length uc, .bool asked, .bool yes, .bool turned, .bool a0, .bool a1, .bool shipped, .bool d0, .bool d1, .bool acc] 42))
  have K0 : Kept (Keeps (fun _ => False) w ((w.alloc (.cells #[.int .i64 o.id, .int .i64 o.item, .int .i64 o.qty, .int .i64 o.client, .int .i64 o.price, .slice a o.steps.length c] 24)).alloc (.cells #[.slice da done.length dc, .slice ua undone.length uc, .bool asked, .bool yes, .bool turned, .bool a0, .bool a1, .bool shipped, .bool d0, .bool d1, .bool acc] 42))) := ⟨((Keeps.refl _ w).alloc _).alloc _⟩
  have hdm : (done.length : Int) ≤ 9223372036854775807 := by have := h.dm; unfold maxLen at this; simp only at this; omega
  have hum : (undone.length : Int) ≤ 9223372036854775807 := by have := h.um; unfold maxLen at this; simp only at this; omega
  have hsm : (o.steps.length : Int) ≤ 9223372036854775807 := by have := h.sm; unfold maxLen at this; omega
  clear h
  subst hy
  subst ht
  have E0 := Kept.mk e0
  clear e0
  have g1 : ((done.length : Int) != (o.steps.length : Int)) = false := by rw [l1]; simp
  have g2 : ((undone.length : Int) != (o.steps.length : Int)) = false := by rw [l2]; simp
  have L1 := Kept.mk l1
  have L2 := Kept.mk l2
  clear l1 l2
  have E4 := Kept.mk e4
  clear e4
  have E3 := Kept.mk e3
  clear e3
  go_enter Try.func16, Try.ntmps16
  go_wp2_with fail
  refine (romay_to o a c true _ HF0.out.steps HF0.out.sm hc hcm E0.out).mono ?_
  rintro e w1 ⟨rfl, k1⟩
  have HF1 := Kept.mk (HF0.out.keeps k1)
  have HB1 := Kept.mk (HB0.out.quiet k1)
  have HO1 := Kept.mk (HO0.out.quiet k1)
  have K1 := Kept.mk (K0.out.trans k1)
  clear k1 HF0 HB0 HO0 K0
  obtain ⟨y0, y1, y2, y3, y4, y5, y6, y7, y8, y9, y10⟩ := blk11 HB1.out
  obtain ⟨x0, x1, x2, x3, x4, x5⟩ := blk6 HO1.out
  have HA2 : Kept (BlRow w1 (some ⟨w.heap.size + 1, 5, none⟩) [a0, a1]) := ⟨two_row y5 y6 HB1.out.lt⟩
  have HD2 : Kept (BlRow w1 (some ⟨w.heap.size + 1, 8, none⟩) [d0, d1]) := ⟨two_row y8 y9 HB1.out.lt⟩
  go_wp2_with fail
  refine (rall_to da dc done.length done true _ HF1.out.done rfl HF1.out.dm (by rw [E4.out]; rfl)).mono ?_
  rintro e _ ⟨rfl, rfl⟩
  go_wp2_with fail
  refine (rnone_to ua uc undone.length undone false _ HF1.out.undone rfl HF1.out.um (by rw [E3.out]; rfl)).mono ?_
  rintro e _ ⟨rfl, rfl⟩
  go_wp2_with fail
  go_ret
  exact ⟨rfl, K1.out⟩
set_option linter.unusedSimpArgs false in
set_option maxRecDepth 100000 in
set_option maxHeartbeats 16000000 in
theorem rm_y_ask (o : Ord) (a da ua : Option Addr) (c dc uc : Nat) (done undone : List Bool) (asked yes turned a0 a1 shipped d0 d1 acc : Bool) (w : World) (h : FcAt w o a c ⟨done, undone, asked, yes, turned, a0, a1, shipped, d0, d1, acc⟩ da ua) (hc : o.steps.length ≤ c) (hcm : c ≤ maxLen) (e0 : o.may = true) (l1 : done.length = o.steps.length) (l2 : undone.length = o.steps.length) (hy : yes = true) (ht : turned = false) (hk : asked = false) (e4 : hasB done false = false) (e3 : hasB undone true = false) :
    Calls Try.prog 16 #[.agg #[.int .i64 o.id, .int .i64 o.item, .int .i64 o.qty, .int .i64 o.client, .int .i64 o.price, .slice a o.steps.length c], .agg #[.slice da done.length dc, .slice ua undone.length uc, .bool asked, .bool yes, .bool turned, .bool a0, .bool a1, .bool shipped, .bool d0, .bool d1, .bool acc]] w (fun e w' => e = .returned (.bool (false)) ∧ Keeps (fun _ => False) w w') := by
  have HF0 := Kept.mk ((h.alloc (.cells #[.int .i64 o.id, .int .i64 o.item, .int .i64 o.qty, .int .i64 o.client, .int .i64 o.price, .slice a o.steps.length c] 24)).alloc (.cells #[.slice da done.length dc, .slice ua undone.length uc, .bool asked, .bool yes, .bool turned, .bool a0, .bool a1, .bool shipped, .bool d0, .bool d1, .bool acc] 42))
  have HB0 := Kept.mk (Blk.new' (w.alloc (.cells #[.int .i64 o.id, .int .i64 o.item, .int .i64 o.qty, .int .i64 o.client, .int .i64 o.price, .slice a o.steps.length c] 24)) 42 [.slice da done.length dc, .slice ua undone.length uc, .bool asked, .bool yes, .bool turned, .bool a0, .bool a1, .bool shipped, .bool d0, .bool d1, .bool acc] (w.heap.size + 1) (by simp))
  have HO0 := Kept.mk ((Blk.new' w 24 [.int .i64 o.id, .int .i64 o.item, .int .i64 o.qty, .int .i64 o.client, .int .i64 o.price, .slice a o.steps.length c] _ rfl).alloc (.cells #[.slice da done.length dc, .slice ua undone.length uc, .bool asked, .bool yes, .bool turned, .bool a0, .bool a1, .bool shipped, .bool d0, .bool d1, .bool acc] 42))
  have K0 : Kept (Keeps (fun _ => False) w ((w.alloc (.cells #[.int .i64 o.id, .int .i64 o.item, .int .i64 o.qty, .int .i64 o.client, .int .i64 o.price, .slice a o.steps.length c] 24)).alloc (.cells #[.slice da done.length dc, .slice ua undone.length uc, .bool asked, .bool yes, .bool turned, .bool a0, .bool a1, .bool shipped, .bool d0, .bool d1, .bool acc] 42))) := ⟨((Keeps.refl _ w).alloc _).alloc _⟩
  have hdm : (done.length : Int) ≤ 9223372036854775807 := by have := h.dm; unfold maxLen at this; simp only at this; omega
  have hum : (undone.length : Int) ≤ 9223372036854775807 := by have := h.um; unfold maxLen at this; simp only at this; omega
  have hsm : (o.steps.length : Int) ≤ 9223372036854775807 := by have := h.sm; unfold maxLen at this; omega
  clear h
  subst hy
  subst ht
  subst hk
  have E0 := Kept.mk e0
  clear e0
  have g1 : ((done.length : Int) != (o.steps.length : Int)) = false := by rw [l1]; simp
  have g2 : ((undone.length : Int) != (o.steps.length : Int)) = false := by rw [l2]; simp
  have L1 := Kept.mk l1
  have L2 := Kept.mk l2
  clear l1 l2
  have E4 := Kept.mk e4
  clear e4
  have E3 := Kept.mk e3
  clear e3
  go_enter Try.func16, Try.ntmps16
  go_wp2_with fail
  refine (romay_to o a c true _ HF0.out.steps HF0.out.sm hc hcm E0.out).mono ?_
  rintro e w1 ⟨rfl, k1⟩
  have HF1 := Kept.mk (HF0.out.keeps k1)
  have HB1 := Kept.mk (HB0.out.quiet k1)
  have HO1 := Kept.mk (HO0.out.quiet k1)
  have K1 := Kept.mk (K0.out.trans k1)
  clear k1 HF0 HB0 HO0 K0
  obtain ⟨y0, y1, y2, y3, y4, y5, y6, y7, y8, y9, y10⟩ := blk11 HB1.out
  obtain ⟨x0, x1, x2, x3, x4, x5⟩ := blk6 HO1.out
  have HA2 : Kept (BlRow w1 (some ⟨w.heap.size + 1, 5, none⟩) [a0, a1]) := ⟨two_row y5 y6 HB1.out.lt⟩
  have HD2 : Kept (BlRow w1 (some ⟨w.heap.size + 1, 8, none⟩) [d0, d1]) := ⟨two_row y8 y9 HB1.out.lt⟩
  go_wp2_with fail
  refine (rall_to da dc done.length done true _ HF1.out.done rfl HF1.out.dm (by rw [E4.out]; rfl)).mono ?_
  rintro e _ ⟨rfl, rfl⟩
  go_wp2_with fail
  refine (rnone_to ua uc undone.length undone true _ HF1.out.undone rfl HF1.out.um (by rw [E3.out]; rfl)).mono ?_
  rintro e _ ⟨rfl, rfl⟩
  go_wp2_with fail
  go_ret
  exact ⟨rfl, K1.out⟩
set_option linter.unusedSimpArgs false in
set_option maxRecDepth 100000 in
set_option maxHeartbeats 16000000 in
theorem rm_n_none (o : Ord) (a da ua : Option Addr) (c dc uc : Nat) (done undone : List Bool) (asked yes turned a0 a1 shipped d0 d1 acc : Bool) (w : World) (h : FcAt w o a c ⟨done, undone, asked, yes, turned, a0, a1, shipped, d0, d1, acc⟩ da ua) (hc : o.steps.length ≤ c) (hcm : c ≤ maxLen) (e0 : o.may = true) (l1 : done.length = o.steps.length) (l2 : undone.length = o.steps.length) (hy : yes = false) (ht : turned = false) (e3 : hasB undone true = true) :
    Calls Try.prog 16 #[.agg #[.int .i64 o.id, .int .i64 o.item, .int .i64 o.qty, .int .i64 o.client, .int .i64 o.price, .slice a o.steps.length c], .agg #[.slice da done.length dc, .slice ua undone.length uc, .bool asked, .bool yes, .bool turned, .bool a0, .bool a1, .bool shipped, .bool d0, .bool d1, .bool acc]] w (fun e w' => e = .returned (.bool (false)) ∧ Keeps (fun _ => False) w w') := by
  have HF0 := Kept.mk ((h.alloc (.cells #[.int .i64 o.id, .int .i64 o.item, .int .i64 o.qty, .int .i64 o.client, .int .i64 o.price, .slice a o.steps.length c] 24)).alloc (.cells #[.slice da done.length dc, .slice ua undone.length uc, .bool asked, .bool yes, .bool turned, .bool a0, .bool a1, .bool shipped, .bool d0, .bool d1, .bool acc] 42))
  have HB0 := Kept.mk (Blk.new' (w.alloc (.cells #[.int .i64 o.id, .int .i64 o.item, .int .i64 o.qty, .int .i64 o.client, .int .i64 o.price, .slice a o.steps.length c] 24)) 42 [.slice da done.length dc, .slice ua undone.length uc, .bool asked, .bool yes, .bool turned, .bool a0, .bool a1, .bool shipped, .bool d0, .bool d1, .bool acc] (w.heap.size + 1) (by simp))
  have HO0 := Kept.mk ((Blk.new' w 24 [.int .i64 o.id, .int .i64 o.item, .int .i64 o.qty, .int .i64 o.client, .int .i64 o.price, .slice a o.steps.length c] _ rfl).alloc (.cells #[.slice da done.length dc, .slice ua undone.length uc, .bool asked, .bool yes, .bool turned, .bool a0, .bool a1, .bool shipped, .bool d0, .bool d1, .bool acc] 42))
  have K0 : Kept (Keeps (fun _ => False) w ((w.alloc (.cells #[.int .i64 o.id, .int .i64 o.item, .int .i64 o.qty, .int .i64 o.client, .int .i64 o.price, .slice a o.steps.length c] 24)).alloc (.cells #[.slice da done.length dc, .slice ua undone.length uc, .bool asked, .bool yes, .bool turned, .bool a0, .bool a1, .bool shipped, .bool d0, .bool d1, .bool acc] 42))) := ⟨((Keeps.refl _ w).alloc _).alloc _⟩
  have hdm : (done.length : Int) ≤ 9223372036854775807 := by have := h.dm; unfold maxLen at this; simp only at this; omega
  have hum : (undone.length : Int) ≤ 9223372036854775807 := by have := h.um; unfold maxLen at this; simp only at this; omega
  have hsm : (o.steps.length : Int) ≤ 9223372036854775807 := by have := h.sm; unfold maxLen at this; omega
  clear h
  subst hy
  subst ht
  have E0 := Kept.mk e0
  clear e0
  have g1 : ((done.length : Int) != (o.steps.length : Int)) = false := by rw [l1]; simp
  have g2 : ((undone.length : Int) != (o.steps.length : Int)) = false := by rw [l2]; simp
  have L1 := Kept.mk l1
  have L2 := Kept.mk l2
  clear l1 l2
  have E3 := Kept.mk e3
  clear e3
  go_enter Try.func16, Try.ntmps16
  go_wp2_with fail
  refine (romay_to o a c true _ HF0.out.steps HF0.out.sm hc hcm E0.out).mono ?_
  rintro e w1 ⟨rfl, k1⟩
  have HF1 := Kept.mk (HF0.out.keeps k1)
  have HB1 := Kept.mk (HB0.out.quiet k1)
  have HO1 := Kept.mk (HO0.out.quiet k1)
  have K1 := Kept.mk (K0.out.trans k1)
  clear k1 HF0 HB0 HO0 K0
  obtain ⟨y0, y1, y2, y3, y4, y5, y6, y7, y8, y9, y10⟩ := blk11 HB1.out
  obtain ⟨x0, x1, x2, x3, x4, x5⟩ := blk6 HO1.out
  have HA2 : Kept (BlRow w1 (some ⟨w.heap.size + 1, 5, none⟩) [a0, a1]) := ⟨two_row y5 y6 HB1.out.lt⟩
  have HD2 : Kept (BlRow w1 (some ⟨w.heap.size + 1, 8, none⟩) [d0, d1]) := ⟨two_row y8 y9 HB1.out.lt⟩
  go_wp2_with fail
  refine (rnone_to ua uc undone.length undone false _ HF1.out.undone rfl HF1.out.um (by rw [E3.out]; rfl)).mono ?_
  rintro e _ ⟨rfl, rfl⟩
  go_wp2_with fail
  go_ret
  exact ⟨rfl, K1.out⟩
set_option linter.unusedSimpArgs false in
set_option maxRecDepth 100000 in
set_option maxHeartbeats 16000000 in
theorem rm_n_ship (o : Ord) (a da ua : Option Addr) (c dc uc : Nat) (done undone : List Bool) (asked yes turned a0 a1 shipped d0 d1 acc : Bool) (w : World) (h : FcAt w o a c ⟨done, undone, asked, yes, turned, a0, a1, shipped, d0, d1, acc⟩ da ua) (hc : o.steps.length ≤ c) (hcm : c ≤ maxLen) (e0 : o.may = true) (l1 : done.length = o.steps.length) (l2 : undone.length = o.steps.length) (hy : yes = false) (ht : turned = false) (hs : shipped = true) (e3 : hasB undone true = false) :
    Calls Try.prog 16 #[.agg #[.int .i64 o.id, .int .i64 o.item, .int .i64 o.qty, .int .i64 o.client, .int .i64 o.price, .slice a o.steps.length c], .agg #[.slice da done.length dc, .slice ua undone.length uc, .bool asked, .bool yes, .bool turned, .bool a0, .bool a1, .bool shipped, .bool d0, .bool d1, .bool acc]] w (fun e w' => e = .returned (.bool (false)) ∧ Keeps (fun _ => False) w w') := by
  have HF0 := Kept.mk ((h.alloc (.cells #[.int .i64 o.id, .int .i64 o.item, .int .i64 o.qty, .int .i64 o.client, .int .i64 o.price, .slice a o.steps.length c] 24)).alloc (.cells #[.slice da done.length dc, .slice ua undone.length uc, .bool asked, .bool yes, .bool turned, .bool a0, .bool a1, .bool shipped, .bool d0, .bool d1, .bool acc] 42))
  have HB0 := Kept.mk (Blk.new' (w.alloc (.cells #[.int .i64 o.id, .int .i64 o.item, .int .i64 o.qty, .int .i64 o.client, .int .i64 o.price, .slice a o.steps.length c] 24)) 42 [.slice da done.length dc, .slice ua undone.length uc, .bool asked, .bool yes, .bool turned, .bool a0, .bool a1, .bool shipped, .bool d0, .bool d1, .bool acc] (w.heap.size + 1) (by simp))
  have HO0 := Kept.mk ((Blk.new' w 24 [.int .i64 o.id, .int .i64 o.item, .int .i64 o.qty, .int .i64 o.client, .int .i64 o.price, .slice a o.steps.length c] _ rfl).alloc (.cells #[.slice da done.length dc, .slice ua undone.length uc, .bool asked, .bool yes, .bool turned, .bool a0, .bool a1, .bool shipped, .bool d0, .bool d1, .bool acc] 42))
  have K0 : Kept (Keeps (fun _ => False) w ((w.alloc (.cells #[.int .i64 o.id, .int .i64 o.item, .int .i64 o.qty, .int .i64 o.client, .int .i64 o.price, .slice a o.steps.length c] 24)).alloc (.cells #[.slice da done.length dc, .slice ua undone.length uc, .bool asked, .bool yes, .bool turned, .bool a0, .bool a1, .bool shipped, .bool d0, .bool d1, .bool acc] 42))) := ⟨((Keeps.refl _ w).alloc _).alloc _⟩
  have hdm : (done.length : Int) ≤ 9223372036854775807 := by have := h.dm; unfold maxLen at this; simp only at this; omega
  have hum : (undone.length : Int) ≤ 9223372036854775807 := by have := h.um; unfold maxLen at this; simp only at this; omega
  have hsm : (o.steps.length : Int) ≤ 9223372036854775807 := by have := h.sm; unfold maxLen at this; omega
  clear h
  subst hy
  subst ht
  subst hs
  have E0 := Kept.mk e0
  clear e0
  have g1 : ((done.length : Int) != (o.steps.length : Int)) = false := by rw [l1]; simp
  have g2 : ((undone.length : Int) != (o.steps.length : Int)) = false := by rw [l2]; simp
  have L1 := Kept.mk l1
  have L2 := Kept.mk l2
  clear l1 l2
  have E3 := Kept.mk e3
  clear e3
  go_enter Try.func16, Try.ntmps16
  go_wp2_with fail
  refine (romay_to o a c true _ HF0.out.steps HF0.out.sm hc hcm E0.out).mono ?_
  rintro e w1 ⟨rfl, k1⟩
  have HF1 := Kept.mk (HF0.out.keeps k1)
  have HB1 := Kept.mk (HB0.out.quiet k1)
  have HO1 := Kept.mk (HO0.out.quiet k1)
  have K1 := Kept.mk (K0.out.trans k1)
  clear k1 HF0 HB0 HO0 K0
  obtain ⟨y0, y1, y2, y3, y4, y5, y6, y7, y8, y9, y10⟩ := blk11 HB1.out
  obtain ⟨x0, x1, x2, x3, x4, x5⟩ := blk6 HO1.out
  have HA2 : Kept (BlRow w1 (some ⟨w.heap.size + 1, 5, none⟩) [a0, a1]) := ⟨two_row y5 y6 HB1.out.lt⟩
  have HD2 : Kept (BlRow w1 (some ⟨w.heap.size + 1, 8, none⟩) [d0, d1]) := ⟨two_row y8 y9 HB1.out.lt⟩
  go_wp2_with fail
  refine (rnone_to ua uc undone.length undone true _ HF1.out.undone rfl HF1.out.um (by rw [E3.out]; rfl)).mono ?_
  rintro e _ ⟨rfl, rfl⟩
  go_wp2_with fail
  go_ret
  exact ⟨rfl, K1.out⟩
set_option linter.unusedSimpArgs false in
set_option maxRecDepth 100000 in
set_option maxHeartbeats 16000000 in
theorem rm_t_ship (o : Ord) (a da ua : Option Addr) (c dc uc : Nat) (done undone : List Bool) (asked yes turned a0 a1 shipped d0 d1 acc : Bool) (w : World) (h : FcAt w o a c ⟨done, undone, asked, yes, turned, a0, a1, shipped, d0, d1, acc⟩ da ua) (hc : o.steps.length ≤ c) (hcm : c ≤ maxLen) (e0 : o.may = true) (l1 : done.length = o.steps.length) (l2 : undone.length = o.steps.length) (hy : yes = false) (ht : turned = true) (hs : shipped = true) :
    Calls Try.prog 16 #[.agg #[.int .i64 o.id, .int .i64 o.item, .int .i64 o.qty, .int .i64 o.client, .int .i64 o.price, .slice a o.steps.length c], .agg #[.slice da done.length dc, .slice ua undone.length uc, .bool asked, .bool yes, .bool turned, .bool a0, .bool a1, .bool shipped, .bool d0, .bool d1, .bool acc]] w (fun e w' => e = .returned (.bool (false)) ∧ Keeps (fun _ => False) w w') := by
  have HF0 := Kept.mk ((h.alloc (.cells #[.int .i64 o.id, .int .i64 o.item, .int .i64 o.qty, .int .i64 o.client, .int .i64 o.price, .slice a o.steps.length c] 24)).alloc (.cells #[.slice da done.length dc, .slice ua undone.length uc, .bool asked, .bool yes, .bool turned, .bool a0, .bool a1, .bool shipped, .bool d0, .bool d1, .bool acc] 42))
  have HB0 := Kept.mk (Blk.new' (w.alloc (.cells #[.int .i64 o.id, .int .i64 o.item, .int .i64 o.qty, .int .i64 o.client, .int .i64 o.price, .slice a o.steps.length c] 24)) 42 [.slice da done.length dc, .slice ua undone.length uc, .bool asked, .bool yes, .bool turned, .bool a0, .bool a1, .bool shipped, .bool d0, .bool d1, .bool acc] (w.heap.size + 1) (by simp))
  have HO0 := Kept.mk ((Blk.new' w 24 [.int .i64 o.id, .int .i64 o.item, .int .i64 o.qty, .int .i64 o.client, .int .i64 o.price, .slice a o.steps.length c] _ rfl).alloc (.cells #[.slice da done.length dc, .slice ua undone.length uc, .bool asked, .bool yes, .bool turned, .bool a0, .bool a1, .bool shipped, .bool d0, .bool d1, .bool acc] 42))
  have K0 : Kept (Keeps (fun _ => False) w ((w.alloc (.cells #[.int .i64 o.id, .int .i64 o.item, .int .i64 o.qty, .int .i64 o.client, .int .i64 o.price, .slice a o.steps.length c] 24)).alloc (.cells #[.slice da done.length dc, .slice ua undone.length uc, .bool asked, .bool yes, .bool turned, .bool a0, .bool a1, .bool shipped, .bool d0, .bool d1, .bool acc] 42))) := ⟨((Keeps.refl _ w).alloc _).alloc _⟩
  have hdm : (done.length : Int) ≤ 9223372036854775807 := by have := h.dm; unfold maxLen at this; simp only at this; omega
  have hum : (undone.length : Int) ≤ 9223372036854775807 := by have := h.um; unfold maxLen at this; simp only at this; omega
  have hsm : (o.steps.length : Int) ≤ 9223372036854775807 := by have := h.sm; unfold maxLen at this; omega
  clear h
  subst hy
  subst ht
  subst hs
  have E0 := Kept.mk e0
  clear e0
  have g1 : ((done.length : Int) != (o.steps.length : Int)) = false := by rw [l1]; simp
  have g2 : ((undone.length : Int) != (o.steps.length : Int)) = false := by rw [l2]; simp
  have L1 := Kept.mk l1
  have L2 := Kept.mk l2
  clear l1 l2
  go_enter Try.func16, Try.ntmps16
  go_wp2_with fail
  refine (romay_to o a c true _ HF0.out.steps HF0.out.sm hc hcm E0.out).mono ?_
  rintro e w1 ⟨rfl, k1⟩
  have HF1 := Kept.mk (HF0.out.keeps k1)
  have HB1 := Kept.mk (HB0.out.quiet k1)
  have HO1 := Kept.mk (HO0.out.quiet k1)
  have K1 := Kept.mk (K0.out.trans k1)
  clear k1 HF0 HB0 HO0 K0
  obtain ⟨y0, y1, y2, y3, y4, y5, y6, y7, y8, y9, y10⟩ := blk11 HB1.out
  obtain ⟨x0, x1, x2, x3, x4, x5⟩ := blk6 HO1.out
  have HA2 : Kept (BlRow w1 (some ⟨w.heap.size + 1, 5, none⟩) [a0, a1]) := ⟨two_row y5 y6 HB1.out.lt⟩
  have HD2 : Kept (BlRow w1 (some ⟨w.heap.size + 1, 8, none⟩) [d0, d1]) := ⟨two_row y8 y9 HB1.out.lt⟩
  go_wp2_with fail
  go_ret
  exact ⟨rfl, K1.out⟩
set_option linter.unusedSimpArgs false in
set_option maxRecDepth 100000 in
set_option maxHeartbeats 16000000 in
theorem rm_n_acks (o : Ord) (a da ua : Option Addr) (c dc uc : Nat) (done undone : List Bool) (asked yes turned a0 a1 shipped d0 d1 acc : Bool) (w : World) (h : FcAt w o a c ⟨done, undone, asked, yes, turned, a0, a1, shipped, d0, d1, acc⟩ da ua) (hc : o.steps.length ≤ c) (hcm : c ≤ maxLen) (e0 : o.may = true) (l1 : done.length = o.steps.length) (l2 : undone.length = o.steps.length) (hy : yes = false) (ht : turned = false) (hs : shipped = false) (e3 : hasB undone true = false) (e5 : (a0 || a1) = true) :
    Calls Try.prog 16 #[.agg #[.int .i64 o.id, .int .i64 o.item, .int .i64 o.qty, .int .i64 o.client, .int .i64 o.price, .slice a o.steps.length c], .agg #[.slice da done.length dc, .slice ua undone.length uc, .bool asked, .bool yes, .bool turned, .bool a0, .bool a1, .bool shipped, .bool d0, .bool d1, .bool acc]] w (fun e w' => e = .returned (.bool (false)) ∧ Keeps (fun _ => False) w w') := by
  have HF0 := Kept.mk ((h.alloc (.cells #[.int .i64 o.id, .int .i64 o.item, .int .i64 o.qty, .int .i64 o.client, .int .i64 o.price, .slice a o.steps.length c] 24)).alloc (.cells #[.slice da done.length dc, .slice ua undone.length uc, .bool asked, .bool yes, .bool turned, .bool a0, .bool a1, .bool shipped, .bool d0, .bool d1, .bool acc] 42))
  have HB0 := Kept.mk (Blk.new' (w.alloc (.cells #[.int .i64 o.id, .int .i64 o.item, .int .i64 o.qty, .int .i64 o.client, .int .i64 o.price, .slice a o.steps.length c] 24)) 42 [.slice da done.length dc, .slice ua undone.length uc, .bool asked, .bool yes, .bool turned, .bool a0, .bool a1, .bool shipped, .bool d0, .bool d1, .bool acc] (w.heap.size + 1) (by simp))
  have HO0 := Kept.mk ((Blk.new' w 24 [.int .i64 o.id, .int .i64 o.item, .int .i64 o.qty, .int .i64 o.client, .int .i64 o.price, .slice a o.steps.length c] _ rfl).alloc (.cells #[.slice da done.length dc, .slice ua undone.length uc, .bool asked, .bool yes, .bool turned, .bool a0, .bool a1, .bool shipped, .bool d0, .bool d1, .bool acc] 42))
  have K0 : Kept (Keeps (fun _ => False) w ((w.alloc (.cells #[.int .i64 o.id, .int .i64 o.item, .int .i64 o.qty, .int .i64 o.client, .int .i64 o.price, .slice a o.steps.length c] 24)).alloc (.cells #[.slice da done.length dc, .slice ua undone.length uc, .bool asked, .bool yes, .bool turned, .bool a0, .bool a1, .bool shipped, .bool d0, .bool d1, .bool acc] 42))) := ⟨((Keeps.refl _ w).alloc _).alloc _⟩
  have hdm : (done.length : Int) ≤ 9223372036854775807 := by have := h.dm; unfold maxLen at this; simp only at this; omega
  have hum : (undone.length : Int) ≤ 9223372036854775807 := by have := h.um; unfold maxLen at this; simp only at this; omega
  have hsm : (o.steps.length : Int) ≤ 9223372036854775807 := by have := h.sm; unfold maxLen at this; omega
  clear h
  subst hy
  subst ht
  subst hs
  have E0 := Kept.mk e0
  clear e0
  have g1 : ((done.length : Int) != (o.steps.length : Int)) = false := by rw [l1]; simp
  have g2 : ((undone.length : Int) != (o.steps.length : Int)) = false := by rw [l2]; simp
  have L1 := Kept.mk l1
  have L2 := Kept.mk l2
  clear l1 l2
  have E3 := Kept.mk e3
  clear e3
  have E5 : Kept ((!hasB [a0, a1] true) = false) := ⟨by rw [hasB_two, e5]; rfl⟩
  clear e5
  go_enter Try.func16, Try.ntmps16
  go_wp2_with fail
  refine (romay_to o a c true _ HF0.out.steps HF0.out.sm hc hcm E0.out).mono ?_
  rintro e w1 ⟨rfl, k1⟩
  have HF1 := Kept.mk (HF0.out.keeps k1)
  have HB1 := Kept.mk (HB0.out.quiet k1)
  have HO1 := Kept.mk (HO0.out.quiet k1)
  have K1 := Kept.mk (K0.out.trans k1)
  clear k1 HF0 HB0 HO0 K0
  obtain ⟨y0, y1, y2, y3, y4, y5, y6, y7, y8, y9, y10⟩ := blk11 HB1.out
  obtain ⟨x0, x1, x2, x3, x4, x5⟩ := blk6 HO1.out
  have HA2 : Kept (BlRow w1 (some ⟨w.heap.size + 1, 5, none⟩) [a0, a1]) := ⟨two_row y5 y6 HB1.out.lt⟩
  have HD2 : Kept (BlRow w1 (some ⟨w.heap.size + 1, 8, none⟩) [d0, d1]) := ⟨two_row y8 y9 HB1.out.lt⟩
  go_wp2_with fail
  refine (rnone_to ua uc undone.length undone true _ HF1.out.undone rfl HF1.out.um (by rw [E3.out]; rfl)).mono ?_
  rintro e _ ⟨rfl, rfl⟩
  go_wp2_with fail
  refine (rnone_to _ 2 2 [a0, a1] false _ HA2.out rfl (by decide) E5.out).mono ?_
  rintro e _ ⟨rfl, rfl⟩
  go_wp2_with fail
  go_ret
  exact ⟨rfl, K1.out⟩
set_option linter.unusedSimpArgs false in
set_option maxRecDepth 100000 in
set_option maxHeartbeats 16000000 in
theorem rm_n_dmg (o : Ord) (a da ua : Option Addr) (c dc uc : Nat) (done undone : List Bool) (asked yes turned a0 a1 shipped d0 d1 acc : Bool) (w : World) (h : FcAt w o a c ⟨done, undone, asked, yes, turned, a0, a1, shipped, d0, d1, acc⟩ da ua) (hc : o.steps.length ≤ c) (hcm : c ≤ maxLen) (e0 : o.may = true) (l1 : done.length = o.steps.length) (l2 : undone.length = o.steps.length) (hy : yes = false) (ht : turned = false) (hs : shipped = false) (e3 : hasB undone true = false) (e5 : (a0 || a1) = false) (e6 : (d0 || d1) = true) :
    Calls Try.prog 16 #[.agg #[.int .i64 o.id, .int .i64 o.item, .int .i64 o.qty, .int .i64 o.client, .int .i64 o.price, .slice a o.steps.length c], .agg #[.slice da done.length dc, .slice ua undone.length uc, .bool asked, .bool yes, .bool turned, .bool a0, .bool a1, .bool shipped, .bool d0, .bool d1, .bool acc]] w (fun e w' => e = .returned (.bool (false)) ∧ Keeps (fun _ => False) w w') := by
  have HF0 := Kept.mk ((h.alloc (.cells #[.int .i64 o.id, .int .i64 o.item, .int .i64 o.qty, .int .i64 o.client, .int .i64 o.price, .slice a o.steps.length c] 24)).alloc (.cells #[.slice da done.length dc, .slice ua undone.length uc, .bool asked, .bool yes, .bool turned, .bool a0, .bool a1, .bool shipped, .bool d0, .bool d1, .bool acc] 42))
  have HB0 := Kept.mk (Blk.new' (w.alloc (.cells #[.int .i64 o.id, .int .i64 o.item, .int .i64 o.qty, .int .i64 o.client, .int .i64 o.price, .slice a o.steps.length c] 24)) 42 [.slice da done.length dc, .slice ua undone.length uc, .bool asked, .bool yes, .bool turned, .bool a0, .bool a1, .bool shipped, .bool d0, .bool d1, .bool acc] (w.heap.size + 1) (by simp))
  have HO0 := Kept.mk ((Blk.new' w 24 [.int .i64 o.id, .int .i64 o.item, .int .i64 o.qty, .int .i64 o.client, .int .i64 o.price, .slice a o.steps.length c] _ rfl).alloc (.cells #[.slice da done.length dc, .slice ua undone.length uc, .bool asked, .bool yes, .bool turned, .bool a0, .bool a1, .bool shipped, .bool d0, .bool d1, .bool acc] 42))
  have K0 : Kept (Keeps (fun _ => False) w ((w.alloc (.cells #[.int .i64 o.id, .int .i64 o.item, .int .i64 o.qty, .int .i64 o.client, .int .i64 o.price, .slice a o.steps.length c] 24)).alloc (.cells #[.slice da done.length dc, .slice ua undone.length uc, .bool asked, .bool yes, .bool turned, .bool a0, .bool a1, .bool shipped, .bool d0, .bool d1, .bool acc] 42))) := ⟨((Keeps.refl _ w).alloc _).alloc _⟩
  have hdm : (done.length : Int) ≤ 9223372036854775807 := by have := h.dm; unfold maxLen at this; simp only at this; omega
  have hum : (undone.length : Int) ≤ 9223372036854775807 := by have := h.um; unfold maxLen at this; simp only at this; omega
  have hsm : (o.steps.length : Int) ≤ 9223372036854775807 := by have := h.sm; unfold maxLen at this; omega
  clear h
  subst hy
  subst ht
  subst hs
  have E0 := Kept.mk e0
  clear e0
  have g1 : ((done.length : Int) != (o.steps.length : Int)) = false := by rw [l1]; simp
  have g2 : ((undone.length : Int) != (o.steps.length : Int)) = false := by rw [l2]; simp
  have L1 := Kept.mk l1
  have L2 := Kept.mk l2
  clear l1 l2
  have E3 := Kept.mk e3
  clear e3
  have E5 : Kept ((!hasB [a0, a1] true) = true) := ⟨by rw [hasB_two, e5]; rfl⟩
  clear e5
  have E6 : Kept ((!hasB [d0, d1] true) = false) := ⟨by rw [hasB_two, e6]; rfl⟩
  clear e6
  go_enter Try.func16, Try.ntmps16
  go_wp2_with fail
  refine (romay_to o a c true _ HF0.out.steps HF0.out.sm hc hcm E0.out).mono ?_
  rintro e w1 ⟨rfl, k1⟩
  have HF1 := Kept.mk (HF0.out.keeps k1)
  have HB1 := Kept.mk (HB0.out.quiet k1)
  have HO1 := Kept.mk (HO0.out.quiet k1)
  have K1 := Kept.mk (K0.out.trans k1)
  clear k1 HF0 HB0 HO0 K0
  obtain ⟨y0, y1, y2, y3, y4, y5, y6, y7, y8, y9, y10⟩ := blk11 HB1.out
  obtain ⟨x0, x1, x2, x3, x4, x5⟩ := blk6 HO1.out
  have HA2 : Kept (BlRow w1 (some ⟨w.heap.size + 1, 5, none⟩) [a0, a1]) := ⟨two_row y5 y6 HB1.out.lt⟩
  have HD2 : Kept (BlRow w1 (some ⟨w.heap.size + 1, 8, none⟩) [d0, d1]) := ⟨two_row y8 y9 HB1.out.lt⟩
  go_wp2_with fail
  refine (rnone_to ua uc undone.length undone true _ HF1.out.undone rfl HF1.out.um (by rw [E3.out]; rfl)).mono ?_
  rintro e _ ⟨rfl, rfl⟩
  go_wp2_with fail
  refine (rnone_to _ 2 2 [a0, a1] true _ HA2.out rfl (by decide) E5.out).mono ?_
  rintro e _ ⟨rfl, rfl⟩
  go_wp2_with fail
  refine (rnone_to _ 2 2 [d0, d1] false _ HD2.out rfl (by decide) E6.out).mono ?_
  rintro e _ ⟨rfl, rfl⟩
  go_wp2_with fail
  go_ret
  exact ⟨rfl, K1.out⟩
end Go.Proofs.Ytfcnegnkmacajaa
