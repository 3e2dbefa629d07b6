/- Package saga's May, walked, part C. (printed by gen/sagamay.py) -/
import Derived.Test.YtfcnegnkmacajaaFacts0
import Derived.Test.YtfcnegnkmacajaaOrd3
namespace Go.Proofs.Ytfcnegnkmacajaa
open Go.RowKit
set_option linter.unusedSimpArgs false in
set_option maxRecDepth 100000 in
set_option maxHeartbeats 16000000 in
theorem fmay_ft (o : Ord) (a da ua : Option Addr) (c dc uc : Nat) (done undone : List Bool) (asked yes turned a0 a1 shipped d0 d1 acc : Bool) (w : World) (h : FcAt w o a c ⟨done, undone, asked, yes, turned, a0, a1, shipped, d0, d1, acc⟩ da ua) (hy : yes = false) (ht : turned = true) (e0 : o.may = true) (l1 : done.length = o.steps.length) (l2 : undone.length = o.steps.length) :
    Calls Try.prog 15 #[.agg #[.int .i64 o.id, .int .i64 o.item, .int .i64 o.qty, .int .i64 o.client, .int .i64 o.price, .slice a o.steps.length c], .agg #[.slice da done.length dc, .slice ua undone.length uc, .bool asked, .bool yes, .bool turned, .bool a0, .bool a1, .bool shipped, .bool d0, .bool d1, .bool acc]] w (fun e w' => e = .returned (.bool (Fct.may o ⟨done, undone, asked, yes, turned, a0, a1, shipped, d0, d1, acc⟩)) ∧ Keeps (fun _ => False) w w') := by
  have HF0 := Kept.mk ((h.alloc (.cells #[.int .i64 o.id, .int .i64 o.item, .int .i64 o.qty, .int .i64 o.client, .int .i64 o.price, .slice a o.steps.length c] 24)).alloc (.cells #[.slice da done.length dc, .slice ua undone.length uc, .bool asked, .bool yes, .bool turned, .bool a0, .bool a1, .bool shipped, .bool d0, .bool d1, .bool acc] 31))
  have HB0 := Kept.mk (Blk.new (w.alloc (.cells #[.int .i64 o.id, .int .i64 o.item, .int .i64 o.qty, .int .i64 o.client, .int .i64 o.price, .slice a o.steps.length c] 24)) 31 [.slice da done.length dc, .slice ua undone.length uc, .bool asked, .bool yes, .bool turned, .bool a0, .bool a1, .bool shipped, .bool d0, .bool d1, .bool acc])
  have hbs : (w.alloc (.cells #[.int .i64 o.id, .int .i64 o.item, .int .i64 o.qty, .int .i64 o.client, .int .i64 o.price, .slice a o.steps.length c] 24)).heap.size = w.heap.size + 1 := World.size_alloc _ _
  rw [hbs] at HB0
  have K0 : Kept (Keeps (fun _ => False) w ((w.alloc (.cells #[.int .i64 o.id, .int .i64 o.item, .int .i64 o.qty, .int .i64 o.client, .int .i64 o.price, .slice a o.steps.length c] 24)).alloc (.cells #[.slice da done.length dc, .slice ua undone.length uc, .bool asked, .bool yes, .bool turned, .bool a0, .bool a1, .bool shipped, .bool d0, .bool d1, .bool acc] 31))) := ⟨((Keeps.refl _ w).alloc _).alloc _⟩
  have hsm : (o.steps.length : Int) ≤ 9223372036854775807 := by have := h.sm; unfold maxLen at this; omega
  have hdm : (done.length : Int) ≤ 9223372036854775807 := by have := h.dm; unfold maxLen at this; simp only at this; omega
  have hum : (undone.length : Int) ≤ 9223372036854775807 := by have := h.um; unfold maxLen at this; simp only at this; omega
  clear h hbs
  subst hy
  subst ht
  have E0 := Kept.mk e0
  clear e0
  have hl3 := Ord.may_len E0.out
  have g1 : ((done.length : Int) == (o.steps.length : Int)) = true := by rw [beq_iff_eq, l1]
  have q1 : ((done.length : Int) != (o.steps.length : Int)) = false := by rw [l1]; simp
  have L1 := Kept.mk l1
  have hl1 : done.length ≤ o.steps.length := by omega
  clear l1
  have g2 : ((undone.length : Int) == (o.steps.length : Int)) = true := by rw [beq_iff_eq, l2]
  have q2 : ((undone.length : Int) != (o.steps.length : Int)) = false := by rw [l2]; simp
  have L2 := Kept.mk l2
  have hl2 : undone.length ≤ o.steps.length := by omega
  clear l2
  cases e3 : hasB undone true with
  | false =>
    have E3 := Kept.mk e3
    clear e3
    cases shipped with
    | false =>
      cases e5 : (a0 || a1) with
      | false =>
        have E5 := Kept.mk e5
        clear e5
        cases e6 : (d0 || d1) with
        | false =>
          have E6 := Kept.mk e6
          clear e6
          cases e7 : firstB done with
          | false =>
            have E7 := Kept.mk e7
            clear e7
            cases e8 : lastB undone with
            | false =>
              have E8 := Kept.mk e8
              clear e8
              have hres : Kept (Fct.may o ⟨done, undone, asked, false, true, a0, a1, false, d0, d1, acc⟩ = false) := ⟨by simp [Fct.may, E8.out]⟩
              rw [hres.out]
              go_enter Try.func15, Try.ntmps15
              go_wp2_with fail
              refine (omay_to o a c true _ HF0.out.steps HF0.out.sm E0.out).mono ?_
              rintro e w1 ⟨rfl, k1⟩
              have HF1 := Kept.mk (HF0.out.keeps k1)
              have HB1 := Kept.mk (HB0.out.keeps k1 (fun h => h))
              have K1 := Kept.mk (K0.out.trans k1)
              clear k1 HF0 HB0 K0
              obtain ⟨y0, y1, y2, y3, y4, y5, y6, y7, y8, y9, y10⟩ := blk11 HB1.out
              go_wp2_with fail
              refine (blContains_to ua uc undone.length undone true false _ HF1.out.undone rfl HF1.out.um E3.out).mono ?_
              rintro e _ ⟨rfl, rfl⟩
              go_wp2_with fail
              refine (either_to a0 a1 false _ E5.out).mono ?_
              rintro e w2 ⟨rfl, k2⟩
              have HF2 := Kept.mk (HF1.out.keeps k2)
              have HB2 := Kept.mk (HB1.out.keeps k2 (fun h => h))
              have K2 := Kept.mk (K1.out.trans k2)
              clear k2 HF1 HB1 K1 y0 y1 y2 y3 y4 y5 y6 y7 y8 y9 y10
              obtain ⟨y0, y1, y2, y3, y4, y5, y6, y7, y8, y9, y10⟩ := blk11 HB2.out
              go_wp2_with fail
              refine (either_to d0 d1 false _ E6.out).mono ?_
              rintro e w3 ⟨rfl, k3⟩
              have HF3 := Kept.mk (HF2.out.keeps k3)
              have HB3 := Kept.mk (HB2.out.keeps k3 (fun h => h))
              have K3 := Kept.mk (K2.out.trans k3)
              clear k3 HF2 HB2 K2 y0 y1 y2 y3 y4 y5 y6 y7 y8 y9 y10
              obtain ⟨y0, y1, y2, y3, y4, y5, y6, y7, y8, y9, y10⟩ := blk11 HB3.out
              go_wp2_with fail
              refine (first_to da dc done.length done false _ HF3.out.done rfl HF3.out.dm E7.out).mono ?_
              rintro e _ ⟨rfl, rfl⟩
              go_wp2_with fail
              refine (last_to ua uc undone.length undone false _ HF3.out.undone rfl (by omega) E8.out).mono ?_
              rintro e w4 ⟨rfl, k4⟩
              have HF4 := Kept.mk (HF3.out.keeps k4)
              have HB4 := Kept.mk (HB3.out.keeps k4 (fun h => h))
              have K4 := Kept.mk (K3.out.trans k4)
              clear k4 HF3 HB3 K3 y0 y1 y2 y3 y4 y5 y6 y7 y8 y9 y10
              obtain ⟨y0, y1, y2, y3, y4, y5, y6, y7, y8, y9, y10⟩ := blk11 HB4.out
              go_wp2_with fail
              go_ret
              exact ⟨rfl, K4.out⟩
            | true =>
              have E8 := Kept.mk e8
              clear e8
              have hres : Kept (Fct.may o ⟨done, undone, asked, false, true, a0, a1, false, d0, d1, acc⟩ = true) := ⟨by simp [Fct.may, E0.out, L1.out, L2.out, E3.out, E5.out, E6.out, E7.out, E8.out]⟩
              rw [hres.out]
              go_enter Try.func15, Try.ntmps15
              go_wp2_with fail
              refine (omay_to o a c true _ HF0.out.steps HF0.out.sm E0.out).mono ?_
              rintro e w1 ⟨rfl, k1⟩
              have HF1 := Kept.mk (HF0.out.keeps k1)
              have HB1 := Kept.mk (HB0.out.keeps k1 (fun h => h))
              have K1 := Kept.mk (K0.out.trans k1)
              clear k1 HF0 HB0 K0
              obtain ⟨y0, y1, y2, y3, y4, y5, y6, y7, y8, y9, y10⟩ := blk11 HB1.out
              go_wp2_with fail
              refine (blContains_to ua uc undone.length undone true false _ HF1.out.undone rfl HF1.out.um E3.out).mono ?_
              rintro e _ ⟨rfl, rfl⟩
              go_wp2_with fail
              refine (either_to a0 a1 false _ E5.out).mono ?_
              rintro e w2 ⟨rfl, k2⟩
              have HF2 := Kept.mk (HF1.out.keeps k2)
              have HB2 := Kept.mk (HB1.out.keeps k2 (fun h => h))
              have K2 := Kept.mk (K1.out.trans k2)
              clear k2 HF1 HB1 K1 y0 y1 y2 y3 y4 y5 y6 y7 y8 y9 y10
              obtain ⟨y0, y1, y2, y3, y4, y5, y6, y7, y8, y9, y10⟩ := blk11 HB2.out
              go_wp2_with fail
              refine (either_to d0 d1 false _ E6.out).mono ?_
              rintro e w3 ⟨rfl, k3⟩
              have HF3 := Kept.mk (HF2.out.keeps k3)
              have HB3 := Kept.mk (HB2.out.keeps k3 (fun h => h))
              have K3 := Kept.mk (K2.out.trans k3)
              clear k3 HF2 HB2 K2 y0 y1 y2 y3 y4 y5 y6 y7 y8 y9 y10
              obtain ⟨y0, y1, y2, y3, y4, y5, y6, y7, y8, y9, y10⟩ := blk11 HB3.out
              go_wp2_with fail
              refine (first_to da dc done.length done false _ HF3.out.done rfl HF3.out.dm E7.out).mono ?_
              rintro e _ ⟨rfl, rfl⟩
              go_wp2_with fail
              refine (last_to ua uc undone.length undone true _ HF3.out.undone rfl (by omega) E8.out).mono ?_
              rintro e w4 ⟨rfl, k4⟩
              have HF4 := Kept.mk (HF3.out.keeps k4)
              have HB4 := Kept.mk (HB3.out.keeps k4 (fun h => h))
              have K4 := Kept.mk (K3.out.trans k4)
              clear k4 HF3 HB3 K3 y0 y1 y2 y3 y4 y5 y6 y7 y8 y9 y10
              obtain ⟨y0, y1, y2, y3, y4, y5, y6, y7, y8, y9, y10⟩ := blk11 HB4.out
              go_wp2_with fail
              go_ret
              exact ⟨rfl, K4.out⟩
          | true =>
            have E7 := Kept.mk e7
            clear e7
            cases e8 : lastB undone with
            | false =>
              have E8 := Kept.mk e8
              clear e8
              have hres : Kept (Fct.may o ⟨done, undone, asked, false, true, a0, a1, false, d0, d1, acc⟩ = false) := ⟨by simp [Fct.may, E8.out]⟩
              rw [hres.out]
              go_enter Try.func15, Try.ntmps15
              go_wp2_with fail
              refine (omay_to o a c true _ HF0.out.steps HF0.out.sm E0.out).mono ?_
              rintro e w1 ⟨rfl, k1⟩
              have HF1 := Kept.mk (HF0.out.keeps k1)
              have HB1 := Kept.mk (HB0.out.keeps k1 (fun h => h))
              have K1 := Kept.mk (K0.out.trans k1)
              clear k1 HF0 HB0 K0
              obtain ⟨y0, y1, y2, y3, y4, y5, y6, y7, y8, y9, y10⟩ := blk11 HB1.out
              go_wp2_with fail
              refine (blContains_to ua uc undone.length undone true false _ HF1.out.undone rfl HF1.out.um E3.out).mono ?_
              rintro e _ ⟨rfl, rfl⟩
              go_wp2_with fail
              refine (either_to a0 a1 false _ E5.out).mono ?_
              rintro e w2 ⟨rfl, k2⟩
              have HF2 := Kept.mk (HF1.out.keeps k2)
              have HB2 := Kept.mk (HB1.out.keeps k2 (fun h => h))
              have K2 := Kept.mk (K1.out.trans k2)
              clear k2 HF1 HB1 K1 y0 y1 y2 y3 y4 y5 y6 y7 y8 y9 y10
              obtain ⟨y0, y1, y2, y3, y4, y5, y6, y7, y8, y9, y10⟩ := blk11 HB2.out
              go_wp2_with fail
              refine (either_to d0 d1 false _ E6.out).mono ?_
              rintro e w3 ⟨rfl, k3⟩
              have HF3 := Kept.mk (HF2.out.keeps k3)
              have HB3 := Kept.mk (HB2.out.keeps k3 (fun h => h))
              have K3 := Kept.mk (K2.out.trans k3)
              clear k3 HF2 HB2 K2 y0 y1 y2 y3 y4 y5 y6 y7 y8 y9 y10
              obtain ⟨y0, y1, y2, y3, y4, y5, y6, y7, y8, y9, y10⟩ := blk11 HB3.out
              go_wp2_with fail
              refine (first_to da dc done.length done true _ HF3.out.done rfl HF3.out.dm E7.out).mono ?_
              rintro e _ ⟨rfl, rfl⟩
              go_wp2_with fail
              refine (last_to ua uc undone.length undone false _ HF3.out.undone rfl (by omega) E8.out).mono ?_
              rintro e w4 ⟨rfl, k4⟩
              have HF4 := Kept.mk (HF3.out.keeps k4)
              have HB4 := Kept.mk (HB3.out.keeps k4 (fun h => h))
              have K4 := Kept.mk (K3.out.trans k4)
              clear k4 HF3 HB3 K3 y0 y1 y2 y3 y4 y5 y6 y7 y8 y9 y10
              obtain ⟨y0, y1, y2, y3, y4, y5, y6, y7, y8, y9, y10⟩ := blk11 HB4.out
              go_wp2_with fail
              go_ret
              exact ⟨rfl, K4.out⟩
            | true =>
              have E8 := Kept.mk e8
              clear e8
              have hres : Kept (Fct.may o ⟨done, undone, asked, false, true, a0, a1, false, d0, d1, acc⟩ = true) := ⟨by simp [Fct.may, E0.out, L1.out, L2.out, E3.out, E5.out, E6.out, E7.out, E8.out]⟩
              rw [hres.out]
              go_enter Try.func15, Try.ntmps15
              go_wp2_with fail
              refine (omay_to o a c true _ HF0.out.steps HF0.out.sm E0.out).mono ?_
              rintro e w1 ⟨rfl, k1⟩
              have HF1 := Kept.mk (HF0.out.keeps k1)
              have HB1 := Kept.mk (HB0.out.keeps k1 (fun h => h))
              have K1 := Kept.mk (K0.out.trans k1)
              clear k1 HF0 HB0 K0
              obtain ⟨y0, y1, y2, y3, y4, y5, y6, y7, y8, y9, y10⟩ := blk11 HB1.out
              go_wp2_with fail
              refine (blContains_to ua uc undone.length undone true false _ HF1.out.undone rfl HF1.out.um E3.out).mono ?_
              rintro e _ ⟨rfl, rfl⟩
              go_wp2_with fail
              refine (either_to a0 a1 false _ E5.out).mono ?_
              rintro e w2 ⟨rfl, k2⟩
              have HF2 := Kept.mk (HF1.out.keeps k2)
              have HB2 := Kept.mk (HB1.out.keeps k2 (fun h => h))
              have K2 := Kept.mk (K1.out.trans k2)
              clear k2 HF1 HB1 K1 y0 y1 y2 y3 y4 y5 y6 y7 y8 y9 y10
              obtain ⟨y0, y1, y2, y3, y4, y5, y6, y7, y8, y9, y10⟩ := blk11 HB2.out
              go_wp2_with fail
              refine (either_to d0 d1 false _ E6.out).mono ?_
              rintro e w3 ⟨rfl, k3⟩
              have HF3 := Kept.mk (HF2.out.keeps k3)
              have HB3 := Kept.mk (HB2.out.keeps k3 (fun h => h))
              have K3 := Kept.mk (K2.out.trans k3)
              clear k3 HF2 HB2 K2 y0 y1 y2 y3 y4 y5 y6 y7 y8 y9 y10
              obtain ⟨y0, y1, y2, y3, y4, y5, y6, y7, y8, y9, y10⟩ := blk11 HB3.out
              go_wp2_with fail
              refine (first_to da dc done.length done true _ HF3.out.done rfl HF3.out.dm E7.out).mono ?_
              rintro e _ ⟨rfl, rfl⟩
              go_wp2_with fail
              refine (last_to ua uc undone.length undone true _ HF3.out.undone rfl (by omega) E8.out).mono ?_
              rintro e w4 ⟨rfl, k4⟩
              have HF4 := Kept.mk (HF3.out.keeps k4)
              have HB4 := Kept.mk (HB3.out.keeps k4 (fun h => h))
              have K4 := Kept.mk (K3.out.trans k4)
              clear k4 HF3 HB3 K3 y0 y1 y2 y3 y4 y5 y6 y7 y8 y9 y10
              obtain ⟨y0, y1, y2, y3, y4, y5, y6, y7, y8, y9, y10⟩ := blk11 HB4.out
              go_wp2_with fail
              go_ret
              exact ⟨rfl, K4.out⟩
        | true =>
          have E6 := Kept.mk e6
          clear e6
          cases e7 : firstB done with
          | false =>
            have E7 := Kept.mk e7
            clear e7
            cases e8 : lastB undone with
            | false =>
              have E8 := Kept.mk e8
              clear e8
              have hres : Kept (Fct.may o ⟨done, undone, asked, false, true, a0, a1, false, d0, d1, acc⟩ = false) := ⟨by simp [Fct.may, E8.out]⟩
              rw [hres.out]
              go_enter Try.func15, Try.ntmps15
              go_wp2_with fail
              refine (omay_to o a c true _ HF0.out.steps HF0.out.sm E0.out).mono ?_
              rintro e w1 ⟨rfl, k1⟩
              have HF1 := Kept.mk (HF0.out.keeps k1)
              have HB1 := Kept.mk (HB0.out.keeps k1 (fun h => h))
              have K1 := Kept.mk (K0.out.trans k1)
              clear k1 HF0 HB0 K0
              obtain ⟨y0, y1, y2, y3, y4, y5, y6, y7, y8, y9, y10⟩ := blk11 HB1.out
              go_wp2_with fail
              refine (blContains_to ua uc undone.length undone true false _ HF1.out.undone rfl HF1.out.um E3.out).mono ?_
              rintro e _ ⟨rfl, rfl⟩
              go_wp2_with fail
              refine (either_to a0 a1 false _ E5.out).mono ?_
              rintro e w2 ⟨rfl, k2⟩
              have HF2 := Kept.mk (HF1.out.keeps k2)
              have HB2 := Kept.mk (HB1.out.keeps k2 (fun h => h))
              have K2 := Kept.mk (K1.out.trans k2)
              clear k2 HF1 HB1 K1 y0 y1 y2 y3 y4 y5 y6 y7 y8 y9 y10
              obtain ⟨y0, y1, y2, y3, y4, y5, y6, y7, y8, y9, y10⟩ := blk11 HB2.out
              go_wp2_with fail
              refine (either_to d0 d1 true _ E6.out).mono ?_
              rintro e w3 ⟨rfl, k3⟩
              have HF3 := Kept.mk (HF2.out.keeps k3)
              have HB3 := Kept.mk (HB2.out.keeps k3 (fun h => h))
              have K3 := Kept.mk (K2.out.trans k3)
              clear k3 HF2 HB2 K2 y0 y1 y2 y3 y4 y5 y6 y7 y8 y9 y10
              obtain ⟨y0, y1, y2, y3, y4, y5, y6, y7, y8, y9, y10⟩ := blk11 HB3.out
              go_wp2_with fail
              refine (first_to da dc done.length done false _ HF3.out.done rfl HF3.out.dm E7.out).mono ?_
              rintro e _ ⟨rfl, rfl⟩
              go_wp2_with fail
              refine (last_to ua uc undone.length undone false _ HF3.out.undone rfl (by omega) E8.out).mono ?_
              rintro e w4 ⟨rfl, k4⟩
              have HF4 := Kept.mk (HF3.out.keeps k4)
              have HB4 := Kept.mk (HB3.out.keeps k4 (fun h => h))
              have K4 := Kept.mk (K3.out.trans k4)
              clear k4 HF3 HB3 K3 y0 y1 y2 y3 y4 y5 y6 y7 y8 y9 y10
              obtain ⟨y0, y1, y2, y3, y4, y5, y6, y7, y8, y9, y10⟩ := blk11 HB4.out
              go_wp2_with fail
              go_ret
              exact ⟨rfl, K4.out⟩
            | true =>
              have E8 := Kept.mk e8
              clear e8
              have hres : Kept (Fct.may o ⟨done, undone, asked, false, true, a0, a1, false, d0, d1, acc⟩ = true) := ⟨by simp [Fct.may, E0.out, L1.out, L2.out, E3.out, E5.out, E6.out, E7.out, E8.out]⟩
              rw [hres.out]
              go_enter Try.func15, Try.ntmps15
              go_wp2_with fail
              refine (omay_to o a c true _ HF0.out.steps HF0.out.sm E0.out).mono ?_
              rintro e w1 ⟨rfl, k1⟩
              have HF1 := Kept.mk (HF0.out.keeps k1)
              have HB1 := Kept.mk (HB0.out.keeps k1 (fun h => h))
              have K1 := Kept.mk (K0.out.trans k1)
              clear k1 HF0 HB0 K0
              obtain ⟨y0, y1, y2, y3, y4, y5, y6, y7, y8, y9, y10⟩ := blk11 HB1.out
              go_wp2_with fail
              refine (blContains_to ua uc undone.length undone true false _ HF1.out.undone rfl HF1.out.um E3.out).mono ?_
              rintro e _ ⟨rfl, rfl⟩
              go_wp2_with fail
              refine (either_to a0 a1 false _ E5.out).mono ?_
              rintro e w2 ⟨rfl, k2⟩
              have HF2 := Kept.mk (HF1.out.keeps k2)
              have HB2 := Kept.mk (HB1.out.keeps k2 (fun h => h))
              have K2 := Kept.mk (K1.out.trans k2)
              clear k2 HF1 HB1 K1 y0 y1 y2 y3 y4 y5 y6 y7 y8 y9 y10
              obtain ⟨y0, y1, y2, y3, y4, y5, y6, y7, y8, y9, y10⟩ := blk11 HB2.out
              go_wp2_with fail
              refine (either_to d0 d1 true _ E6.out).mono ?_
              rintro e w3 ⟨rfl, k3⟩
              have HF3 := Kept.mk (HF2.out.keeps k3)
              have HB3 := Kept.mk (HB2.out.keeps k3 (fun h => h))
              have K3 := Kept.mk (K2.out.trans k3)
              clear k3 HF2 HB2 K2 y0 y1 y2 y3 y4 y5 y6 y7 y8 y9 y10
              obtain ⟨y0, y1, y2, y3, y4, y5, y6, y7, y8, y9, y10⟩ := blk11 HB3.out
              go_wp2_with fail
              refine (first_to da dc done.length done false _ HF3.out.done rfl HF3.out.dm E7.out).mono ?_
              rintro e _ ⟨rfl, rfl⟩
              go_wp2_with fail
              refine (last_to ua uc undone.length undone true _ HF3.out.undone rfl (by omega) E8.out).mono ?_
              rintro e w4 ⟨rfl, k4⟩
              have HF4 := Kept.mk (HF3.out.keeps k4)
              have HB4 := Kept.mk (HB3.out.keeps k4 (fun h => h))
              have K4 := Kept.mk (K3.out.trans k4)
              clear k4 HF3 HB3 K3 y0 y1 y2 y3 y4 y5 y6 y7 y8 y9 y10
              obtain ⟨y0, y1, y2, y3, y4, y5, y6, y7, y8, y9, y10⟩ := blk11 HB4.out
              go_wp2_with fail
              go_ret
              exact ⟨rfl, K4.out⟩
          | true =>
            have E7 := Kept.mk e7
            clear e7
            cases e8 : lastB undone with
            | false =>
              have E8 := Kept.mk e8
              clear e8
              have hres : Kept (Fct.may o ⟨done, undone, asked, false, true, a0, a1, false, d0, d1, acc⟩ = false) := ⟨by simp [Fct.may, E8.out]⟩
              rw [hres.out]
              go_enter Try.func15, Try.ntmps15
              go_wp2_with fail
              refine (omay_to o a c true _ HF0.out.steps HF0.out.sm E0.out).mono ?_
              rintro e w1 ⟨rfl, k1⟩
              have HF1 := Kept.mk (HF0.out.keeps k1)
              have HB1 := Kept.mk (HB0.out.keeps k1 (fun h => h))
              have K1 := Kept.mk (K0.out.trans k1)
              clear k1 HF0 HB0 K0
              obtain ⟨y0, y1, y2, y3, y4, y5, y6, y7, y8, y9, y10⟩ := blk11 HB1.out
              go_wp2_with fail
              refine (blContains_to ua uc undone.length undone true false _ HF1.out.undone rfl HF1.out.um E3.out).mono ?_
              rintro e _ ⟨rfl, rfl⟩
              go_wp2_with fail
              refine (either_to a0 a1 false _ E5.out).mono ?_
              rintro e w2 ⟨rfl, k2⟩
              have HF2 := Kept.mk (HF1.out.keeps k2)
              have HB2 := Kept.mk (HB1.out.keeps k2 (fun h => h))
              have K2 := Kept.mk (K1.out.trans k2)
              clear k2 HF1 HB1 K1 y0 y1 y2 y3 y4 y5 y6 y7 y8 y9 y10
              obtain ⟨y0, y1, y2, y3, y4, y5, y6, y7, y8, y9, y10⟩ := blk11 HB2.out
              go_wp2_with fail
              refine (either_to d0 d1 true _ E6.out).mono ?_
              rintro e w3 ⟨rfl, k3⟩
              have HF3 := Kept.mk (HF2.out.keeps k3)
              have HB3 := Kept.mk (HB2.out.keeps k3 (fun h => h))
              have K3 := Kept.mk (K2.out.trans k3)
              clear k3 HF2 HB2 K2 y0 y1 y2 y3 y4 y5 y6 y7 y8 y9 y10
              obtain ⟨y0, y1, y2, y3, y4, y5, y6, y7, y8, y9, y10⟩ := blk11 HB3.out
              go_wp2_with fail
              refine (first_to da dc done.length done true _ HF3.out.done rfl HF3.out.dm E7.out).mono ?_
              rintro e _ ⟨rfl, rfl⟩
              go_wp2_with fail
              refine (last_to ua uc undone.length undone false _ HF3.out.undone rfl (by omega) E8.out).mono ?_
              rintro e w4 ⟨rfl, k4⟩
              have HF4 := Kept.mk (HF3.out.keeps k4)
              have HB4 := Kept.mk (HB3.out.keeps k4 (fun h => h))
              have K4 := Kept.mk (K3.out.trans k4)
              clear k4 HF3 HB3 K3 y0 y1 y2 y3 y4 y5 y6 y7 y8 y9 y10
              obtain ⟨y0, y1, y2, y3, y4, y5, y6, y7, y8, y9, y10⟩ := blk11 HB4.out
              go_wp2_with fail
              go_ret
              exact ⟨rfl, K4.out⟩
            | true =>
              have E8 := Kept.mk e8
              clear e8
              have hres : Kept (Fct.may o ⟨done, undone, asked, false, true, a0, a1, false, d0, d1, acc⟩ = true) := ⟨by simp [Fct.may, E0.out, L1.out, L2.out, E3.out, E5.out, E6.out, E7.out, E8.out]⟩
              rw [hres.out]
              go_enter Try.func15, Try.ntmps15
              go_wp2_with fail
              refine (omay_to o a c true _ HF0.out.steps HF0.out.sm E0.out).mono ?_
              rintro e w1 ⟨rfl, k1⟩
              have HF1 := Kept.mk (HF0.out.keeps k1)
              have HB1 := Kept.mk (HB0.out.keeps k1 (fun h => h))
              have K1 := Kept.mk (K0.out.trans k1)
              clear k1 HF0 HB0 K0
              obtain ⟨y0, y1, y2, y3, y4, y5, y6, y7, y8, y9, y10⟩ := blk11 HB1.out
              go_wp2_with fail
              refine (blContains_to ua uc undone.length undone true false _ HF1.out.undone rfl HF1.out.um E3.out).mono ?_
              rintro e _ ⟨rfl, rfl⟩
              go_wp2_with fail
              refine (either_to a0 a1 false _ E5.out).mono ?_
              rintro e w2 ⟨rfl, k2⟩
              have HF2 := Kept.mk (HF1.out.keeps k2)
              have HB2 := Kept.mk (HB1.out.keeps k2 (fun h => h))
              have K2 := Kept.mk (K1.out.trans k2)
              clear k2 HF1 HB1 K1 y0 y1 y2 y3 y4 y5 y6 y7 y8 y9 y10
              obtain ⟨y0, y1, y2, y3, y4, y5, y6, y7, y8, y9, y10⟩ := blk11 HB2.out
              go_wp2_with fail
              refine (either_to d0 d1 true _ E6.out).mono ?_
              rintro e w3 ⟨rfl, k3⟩
              have HF3 := Kept.mk (HF2.out.keeps k3)
              have HB3 := Kept.mk (HB2.out.keeps k3 (fun h => h))
              have K3 := Kept.mk (K2.out.trans k3)
              clear k3 HF2 HB2 K2 y0 y1 y2 y3 y4 y5 y6 y7 y8 y9 y10
              obtain ⟨y0, y1, y2, y3, y4, y5, y6, y7, y8, y9, y10⟩ := blk11 HB3.out
              go_wp2_with fail
              refine (first_to da dc done.length done true _ HF3.out.done rfl HF3.out.dm E7.out).mono ?_
              rintro e _ ⟨rfl, rfl⟩
              go_wp2_with fail
              refine (last_to ua uc undone.length undone true _ HF3.out.undone rfl (by omega) E8.out).mono ?_
              rintro e w4 ⟨rfl, k4⟩
              have HF4 := Kept.mk (HF3.out.keeps k4)
              have HB4 := Kept.mk (HB3.out.keeps k4 (fun h => h))
              have K4 := Kept.mk (K3.out.trans k4)
              clear k4 HF3 HB3 K3 y0 y1 y2 y3 y4 y5 y6 y7 y8 y9 y10
              obtain ⟨y0, y1, y2, y3, y4, y5, y6, y7, y8, y9, y10⟩ := blk11 HB4.out
              go_wp2_with fail
              go_ret
              exact ⟨rfl, K4.out⟩
      | true =>
        have E5 := Kept.mk e5
        clear e5
        cases e7 : firstB done with
        | false =>
          have E7 := Kept.mk e7
          clear e7
          cases e8 : lastB undone with
          | false =>
            have E8 := Kept.mk e8
            clear e8
            have hres : Kept (Fct.may o ⟨done, undone, asked, false, true, a0, a1, false, d0, d1, acc⟩ = false) := ⟨by simp [Fct.may, E8.out]⟩
            rw [hres.out]
            go_enter Try.func15, Try.ntmps15
            go_wp2_with fail
            refine (omay_to o a c true _ HF0.out.steps HF0.out.sm E0.out).mono ?_
            rintro e w1 ⟨rfl, k1⟩
            have HF1 := Kept.mk (HF0.out.keeps k1)
            have HB1 := Kept.mk (HB0.out.keeps k1 (fun h => h))
            have K1 := Kept.mk (K0.out.trans k1)
            clear k1 HF0 HB0 K0
            obtain ⟨y0, y1, y2, y3, y4, y5, y6, y7, y8, y9, y10⟩ := blk11 HB1.out
            go_wp2_with fail
            refine (blContains_to ua uc undone.length undone true false _ HF1.out.undone rfl HF1.out.um E3.out).mono ?_
            rintro e _ ⟨rfl, rfl⟩
            go_wp2_with fail
            refine (either_to a0 a1 true _ E5.out).mono ?_
            rintro e w2 ⟨rfl, k2⟩
            have HF2 := Kept.mk (HF1.out.keeps k2)
            have HB2 := Kept.mk (HB1.out.keeps k2 (fun h => h))
            have K2 := Kept.mk (K1.out.trans k2)
            clear k2 HF1 HB1 K1 y0 y1 y2 y3 y4 y5 y6 y7 y8 y9 y10
            obtain ⟨y0, y1, y2, y3, y4, y5, y6, y7, y8, y9, y10⟩ := blk11 HB2.out
            go_wp2_with fail
            refine (first_to da dc done.length done false _ HF2.out.done rfl HF2.out.dm E7.out).mono ?_
            rintro e _ ⟨rfl, rfl⟩
            go_wp2_with fail
            refine (last_to ua uc undone.length undone false _ HF2.out.undone rfl (by omega) E8.out).mono ?_
            rintro e w3 ⟨rfl, k3⟩
            have HF3 := Kept.mk (HF2.out.keeps k3)
            have HB3 := Kept.mk (HB2.out.keeps k3 (fun h => h))
            have K3 := Kept.mk (K2.out.trans k3)
            clear k3 HF2 HB2 K2 y0 y1 y2 y3 y4 y5 y6 y7 y8 y9 y10
            obtain ⟨y0, y1, y2, y3, y4, y5, y6, y7, y8, y9, y10⟩ := blk11 HB3.out
            go_wp2_with fail
            go_ret
            exact ⟨rfl, K3.out⟩
          | true =>
            have E8 := Kept.mk e8
            clear e8
            have hres : Kept (Fct.may o ⟨done, undone, asked, false, true, a0, a1, false, d0, d1, acc⟩ = true) := ⟨by simp [Fct.may, E0.out, L1.out, L2.out, E3.out, E5.out, E7.out, E8.out]⟩
            rw [hres.out]
            go_enter Try.func15, Try.ntmps15
            go_wp2_with fail
            refine (omay_to o a c true _ HF0.out.steps HF0.out.sm E0.out).mono ?_
            rintro e w1 ⟨rfl, k1⟩
            have HF1 := Kept.mk (HF0.out.keeps k1)
            have HB1 := Kept.mk (HB0.out.keeps k1 (fun h => h))
            have K1 := Kept.mk (K0.out.trans k1)
            clear k1 HF0 HB0 K0
            obtain ⟨y0, y1, y2, y3, y4, y5, y6, y7, y8, y9, y10⟩ := blk11 HB1.out
            go_wp2_with fail
            refine (blContains_to ua uc undone.length undone true false _ HF1.out.undone rfl HF1.out.um E3.out).mono ?_
            rintro e _ ⟨rfl, rfl⟩
            go_wp2_with fail
            refine (either_to a0 a1 true _ E5.out).mono ?_
            rintro e w2 ⟨rfl, k2⟩
            have HF2 := Kept.mk (HF1.out.keeps k2)
            have HB2 := Kept.mk (HB1.out.keeps k2 (fun h => h))
            have K2 := Kept.mk (K1.out.trans k2)
            clear k2 HF1 HB1 K1 y0 y1 y2 y3 y4 y5 y6 y7 y8 y9 y10
            obtain ⟨y0, y1, y2, y3, y4, y5, y6, y7, y8, y9, y10⟩ := blk11 HB2.out
            go_wp2_with fail
            refine (first_to da dc done.length done false _ HF2.out.done rfl HF2.out.dm E7.out).mono ?_
            rintro e _ ⟨rfl, rfl⟩
            go_wp2_with fail
            refine (last_to ua uc undone.length undone true _ HF2.out.undone rfl (by omega) E8.out).mono ?_
            rintro e w3 ⟨rfl, k3⟩
            have HF3 := Kept.mk (HF2.out.keeps k3)
            have HB3 := Kept.mk (HB2.out.keeps k3 (fun h => h))
            have K3 := Kept.mk (K2.out.trans k3)
            clear k3 HF2 HB2 K2 y0 y1 y2 y3 y4 y5 y6 y7 y8 y9 y10
            obtain ⟨y0, y1, y2, y3, y4, y5, y6, y7, y8, y9, y10⟩ := blk11 HB3.out
            go_wp2_with fail
            go_ret
            exact ⟨rfl, K3.out⟩
        | true =>
          have E7 := Kept.mk e7
          clear e7
          cases e8 : lastB undone with
          | false =>
            have E8 := Kept.mk e8
            clear e8
            have hres : Kept (Fct.may o ⟨done, undone, asked, false, true, a0, a1, false, d0, d1, acc⟩ = false) := ⟨by simp [Fct.may, E8.out]⟩
            rw [hres.out]
            go_enter Try.func15, Try.ntmps15
            go_wp2_with fail
            refine (omay_to o a c true _ HF0.out.steps HF0.out.sm E0.out).mono ?_
            rintro e w1 ⟨rfl, k1⟩
            have HF1 := Kept.mk (HF0.out.keeps k1)
            have HB1 := Kept.mk (HB0.out.keeps k1 (fun h => h))
            have K1 := Kept.mk (K0.out.trans k1)
            clear k1 HF0 HB0 K0
            obtain ⟨y0, y1, y2, y3, y4, y5, y6, y7, y8, y9, y10⟩ := blk11 HB1.out
            go_wp2_with fail
            refine (blContains_to ua uc undone.length undone true false _ HF1.out.undone rfl HF1.out.um E3.out).mono ?_
            rintro e _ ⟨rfl, rfl⟩
            go_wp2_with fail
            refine (either_to a0 a1 true _ E5.out).mono ?_
            rintro e w2 ⟨rfl, k2⟩
            have HF2 := Kept.mk (HF1.out.keeps k2)
            have HB2 := Kept.mk (HB1.out.keeps k2 (fun h => h))
            have K2 := Kept.mk (K1.out.trans k2)
            clear k2 HF1 HB1 K1 y0 y1 y2 y3 y4 y5 y6 y7 y8 y9 y10
            obtain ⟨y0, y1, y2, y3, y4, y5, y6, y7, y8, y9, y10⟩ := blk11 HB2.out
            go_wp2_with fail
            refine (first_to da dc done.length done true _ HF2.out.done rfl HF2.out.dm E7.out).mono ?_
            rintro e _ ⟨rfl, rfl⟩
            go_wp2_with fail
            refine (last_to ua uc undone.length undone false _ HF2.out.undone rfl (by omega) E8.out).mono ?_
            rintro e w3 ⟨rfl, k3⟩
            have HF3 := Kept.mk (HF2.out.keeps k3)
            have HB3 := Kept.mk (HB2.out.keeps k3 (fun h => h))
            have K3 := Kept.mk (K2.out.trans k3)
            clear k3 HF2 HB2 K2 y0 y1 y2 y3 y4 y5 y6 y7 y8 y9 y10
            obtain ⟨y0, y1, y2, y3, y4, y5, y6, y7, y8, y9, y10⟩ := blk11 HB3.out
            go_wp2_with fail
            go_ret
            exact ⟨rfl, K3.out⟩
          | true =>
            have E8 := Kept.mk e8
            clear e8
            have hres : Kept (Fct.may o ⟨done, undone, asked, false, true, a0, a1, false, d0, d1, acc⟩ = true) := ⟨by simp [Fct.may, E0.out, L1.out, L2.out, E3.out, E5.out, E7.out, E8.out]⟩
            rw [hres.out]
            go_enter Try.func15, Try.ntmps15
            go_wp2_with fail
            refine (omay_to o a c true _ HF0.out.steps HF0.out.sm E0.out).mono ?_
            rintro e w1 ⟨rfl, k1⟩
            have HF1 := Kept.mk (HF0.out.keeps k1)
            have HB1 := Kept.mk (HB0.out.keeps k1 (fun h => h))
            have K1 := Kept.mk (K0.out.trans k1)
            clear k1 HF0 HB0 K0
            obtain ⟨y0, y1, y2, y3, y4, y5, y6, y7, y8, y9, y10⟩ := blk11 HB1.out
            go_wp2_with fail
            refine (blContains_to ua uc undone.length undone true false _ HF1.out.undone rfl HF1.out.um E3.out).mono ?_
            rintro e _ ⟨rfl, rfl⟩
            go_wp2_with fail
            refine (either_to a0 a1 true _ E5.out).mono ?_
            rintro e w2 ⟨rfl, k2⟩
            have HF2 := Kept.mk (HF1.out.keeps k2)
            have HB2 := Kept.mk (HB1.out.keeps k2 (fun h => h))
            have K2 := Kept.mk (K1.out.trans k2)
            clear k2 HF1 HB1 K1 y0 y1 y2 y3 y4 y5 y6 y7 y8 y9 y10
            obtain ⟨y0, y1, y2, y3, y4, y5, y6, y7, y8, y9, y10⟩ := blk11 HB2.out
            go_wp2_with fail
            refine (first_to da dc done.length done true _ HF2.out.done rfl HF2.out.dm E7.out).mono ?_
            rintro e _ ⟨rfl, rfl⟩
            go_wp2_with fail
            refine (last_to ua uc undone.length undone true _ HF2.out.undone rfl (by omega) E8.out).mono ?_
            rintro e w3 ⟨rfl, k3⟩
            have HF3 := Kept.mk (HF2.out.keeps k3)
            have HB3 := Kept.mk (HB2.out.keeps k3 (fun h => h))
            have K3 := Kept.mk (K2.out.trans k3)
            clear k3 HF2 HB2 K2 y0 y1 y2 y3 y4 y5 y6 y7 y8 y9 y10
            obtain ⟨y0, y1, y2, y3, y4, y5, y6, y7, y8, y9, y10⟩ := blk11 HB3.out
            go_wp2_with fail
            go_ret
            exact ⟨rfl, K3.out⟩
    | true =>
      have hres : Kept (Fct.may o ⟨done, undone, asked, false, true, a0, a1, true, d0, d1, acc⟩ = false) := ⟨by simp [Fct.may]⟩
      rw [hres.out]
      go_enter Try.func15, Try.ntmps15
      go_wp2_with fail
      refine (omay_to o a c true _ HF0.out.steps HF0.out.sm E0.out).mono ?_
      rintro e w1 ⟨rfl, k1⟩
      have HF1 := Kept.mk (HF0.out.keeps k1)
      have HB1 := Kept.mk (HB0.out.keeps k1 (fun h => h))
      have K1 := Kept.mk (K0.out.trans k1)
      clear k1 HF0 HB0 K0
      obtain ⟨y0, y1, y2, y3, y4, y5, y6, y7, y8, y9, y10⟩ := blk11 HB1.out
      go_wp2_with fail
      refine (blContains_to ua uc undone.length undone true false _ HF1.out.undone rfl HF1.out.um E3.out).mono ?_
      rintro e _ ⟨rfl, rfl⟩
      go_wp2_with fail
      go_ret
      exact ⟨rfl, K1.out⟩
  | true =>
    have E3 := Kept.mk e3
    clear e3
    cases shipped with
    | false =>
      cases e5 : (a0 || a1) with
      | false =>
        have E5 := Kept.mk e5
        clear e5
        cases e6 : (d0 || d1) with
        | false =>
          have E6 := Kept.mk e6
          clear e6
          cases e7 : firstB done with
          | false =>
            have E7 := Kept.mk e7
            clear e7
            cases e8 : lastB undone with
            | false =>
              have E8 := Kept.mk e8
              clear e8
              have hres : Kept (Fct.may o ⟨done, undone, asked, false, true, a0, a1, false, d0, d1, acc⟩ = false) := ⟨by simp [Fct.may, E8.out]⟩
              rw [hres.out]
              go_enter Try.func15, Try.ntmps15
              go_wp2_with fail
              refine (omay_to o a c true _ HF0.out.steps HF0.out.sm E0.out).mono ?_
              rintro e w1 ⟨rfl, k1⟩
              have HF1 := Kept.mk (HF0.out.keeps k1)
              have HB1 := Kept.mk (HB0.out.keeps k1 (fun h => h))
              have K1 := Kept.mk (K0.out.trans k1)
              clear k1 HF0 HB0 K0
              obtain ⟨y0, y1, y2, y3, y4, y5, y6, y7, y8, y9, y10⟩ := blk11 HB1.out
              go_wp2_with fail
              refine (blContains_to ua uc undone.length undone true true _ HF1.out.undone rfl HF1.out.um E3.out).mono ?_
              rintro e _ ⟨rfl, rfl⟩
              go_wp2_with fail
              refine (either_to a0 a1 false _ E5.out).mono ?_
              rintro e w2 ⟨rfl, k2⟩
              have HF2 := Kept.mk (HF1.out.keeps k2)
              have HB2 := Kept.mk (HB1.out.keeps k2 (fun h => h))
              have K2 := Kept.mk (K1.out.trans k2)
              clear k2 HF1 HB1 K1 y0 y1 y2 y3 y4 y5 y6 y7 y8 y9 y10
              obtain ⟨y0, y1, y2, y3, y4, y5, y6, y7, y8, y9, y10⟩ := blk11 HB2.out
              go_wp2_with fail
              refine (either_to d0 d1 false _ E6.out).mono ?_
              rintro e w3 ⟨rfl, k3⟩
              have HF3 := Kept.mk (HF2.out.keeps k3)
              have HB3 := Kept.mk (HB2.out.keeps k3 (fun h => h))
              have K3 := Kept.mk (K2.out.trans k3)
              clear k3 HF2 HB2 K2 y0 y1 y2 y3 y4 y5 y6 y7 y8 y9 y10
              obtain ⟨y0, y1, y2, y3, y4, y5, y6, y7, y8, y9, y10⟩ := blk11 HB3.out
              go_wp2_with fail
              refine (first_to da dc done.length done false _ HF3.out.done rfl HF3.out.dm E7.out).mono ?_
              rintro e _ ⟨rfl, rfl⟩
              go_wp2_with fail
              refine (last_to ua uc undone.length undone false _ HF3.out.undone rfl (by omega) E8.out).mono ?_
              rintro e w4 ⟨rfl, k4⟩
              have HF4 := Kept.mk (HF3.out.keeps k4)
              have HB4 := Kept.mk (HB3.out.keeps k4 (fun h => h))
              have K4 := Kept.mk (K3.out.trans k4)
              clear k4 HF3 HB3 K3 y0 y1 y2 y3 y4 y5 y6 y7 y8 y9 y10
              obtain ⟨y0, y1, y2, y3, y4, y5, y6, y7, y8, y9, y10⟩ := blk11 HB4.out
              go_wp2_with fail
              go_ret
              exact ⟨rfl, K4.out⟩
            | true =>
              have E8 := Kept.mk e8
              clear e8
              have hres : Kept (Fct.may o ⟨done, undone, asked, false, true, a0, a1, false, d0, d1, acc⟩ = true) := ⟨by simp [Fct.may, E0.out, L1.out, L2.out, E3.out, E5.out, E6.out, E7.out, E8.out]⟩
              rw [hres.out]
              go_enter Try.func15, Try.ntmps15
              go_wp2_with fail
              refine (omay_to o a c true _ HF0.out.steps HF0.out.sm E0.out).mono ?_
              rintro e w1 ⟨rfl, k1⟩
              have HF1 := Kept.mk (HF0.out.keeps k1)
              have HB1 := Kept.mk (HB0.out.keeps k1 (fun h => h))
              have K1 := Kept.mk (K0.out.trans k1)
              clear k1 HF0 HB0 K0
              obtain ⟨y0, y1, y2, y3, y4, y5, y6, y7, y8, y9, y10⟩ := blk11 HB1.out
              go_wp2_with fail
              refine (blContains_to ua uc undone.length undone true true _ HF1.out.undone rfl HF1.out.um E3.out).mono ?_
              rintro e _ ⟨rfl, rfl⟩
              go_wp2_with fail
              refine (either_to a0 a1 false _ E5.out).mono ?_
              rintro e w2 ⟨rfl, k2⟩
              have HF2 := Kept.mk (HF1.out.keeps k2)
              have HB2 := Kept.mk (HB1.out.keeps k2 (fun h => h))
              have K2 := Kept.mk (K1.out.trans k2)
              clear k2 HF1 HB1 K1 y0 y1 y2 y3 y4 y5 y6 y7 y8 y9 y10
              obtain ⟨y0, y1, y2, y3, y4, y5, y6, y7, y8, y9, y10⟩ := blk11 HB2.out
              go_wp2_with fail
              refine (either_to d0 d1 false _ E6.out).mono ?_
              rintro e w3 ⟨rfl, k3⟩
              have HF3 := Kept.mk (HF2.out.keeps k3)
              have HB3 := Kept.mk (HB2.out.keeps k3 (fun h => h))
              have K3 := Kept.mk (K2.out.trans k3)
              clear k3 HF2 HB2 K2 y0 y1 y2 y3 y4 y5 y6 y7 y8 y9 y10
              obtain ⟨y0, y1, y2, y3, y4, y5, y6, y7, y8, y9, y10⟩ := blk11 HB3.out
              go_wp2_with fail
              refine (first_to da dc done.length done false _ HF3.out.done rfl HF3.out.dm E7.out).mono ?_
              rintro e _ ⟨rfl, rfl⟩
              go_wp2_with fail
              refine (last_to ua uc undone.length undone true _ HF3.out.undone rfl (by omega) E8.out).mono ?_
              rintro e w4 ⟨rfl, k4⟩
              have HF4 := Kept.mk (HF3.out.keeps k4)
              have HB4 := Kept.mk (HB3.out.keeps k4 (fun h => h))
              have K4 := Kept.mk (K3.out.trans k4)
              clear k4 HF3 HB3 K3 y0 y1 y2 y3 y4 y5 y6 y7 y8 y9 y10
              obtain ⟨y0, y1, y2, y3, y4, y5, y6, y7, y8, y9, y10⟩ := blk11 HB4.out
              go_wp2_with fail
              go_ret
              exact ⟨rfl, K4.out⟩
          | true =>
            have E7 := Kept.mk e7
            clear e7
            cases e8 : lastB undone with
            | false =>
              have E8 := Kept.mk e8
              clear e8
              have hres : Kept (Fct.may o ⟨done, undone, asked, false, true, a0, a1, false, d0, d1, acc⟩ = false) := ⟨by simp [Fct.may, E8.out]⟩
              rw [hres.out]
              go_enter Try.func15, Try.ntmps15
              go_wp2_with fail
              refine (omay_to o a c true _ HF0.out.steps HF0.out.sm E0.out).mono ?_
              rintro e w1 ⟨rfl, k1⟩
              have HF1 := Kept.mk (HF0.out.keeps k1)
              have HB1 := Kept.mk (HB0.out.keeps k1 (fun h => h))
              have K1 := Kept.mk (K0.out.trans k1)
              clear k1 HF0 HB0 K0
              obtain ⟨y0, y1, y2, y3, y4, y5, y6, y7, y8, y9, y10⟩ := blk11 HB1.out
              go_wp2_with fail
              refine (blContains_to ua uc undone.length undone true true _ HF1.out.undone rfl HF1.out.um E3.out).mono ?_
              rintro e _ ⟨rfl, rfl⟩
              go_wp2_with fail
              refine (either_to a0 a1 false _ E5.out).mono ?_
              rintro e w2 ⟨rfl, k2⟩
              have HF2 := Kept.mk (HF1.out.keeps k2)
              have HB2 := Kept.mk (HB1.out.keeps k2 (fun h => h))
              have K2 := Kept.mk (K1.out.trans k2)
              clear k2 HF1 HB1 K1 y0 y1 y2 y3 y4 y5 y6 y7 y8 y9 y10
              obtain ⟨y0, y1, y2, y3, y4, y5, y6, y7, y8, y9, y10⟩ := blk11 HB2.out
              go_wp2_with fail
              refine (either_to d0 d1 false _ E6.out).mono ?_
              rintro e w3 ⟨rfl, k3⟩
              have HF3 := Kept.mk (HF2.out.keeps k3)
              have HB3 := Kept.mk (HB2.out.keeps k3 (fun h => h))
              have K3 := Kept.mk (K2.out.trans k3)
              clear k3 HF2 HB2 K2 y0 y1 y2 y3 y4 y5 y6 y7 y8 y9 y10
              obtain ⟨y0, y1, y2, y3, y4, y5, y6, y7, y8, y9, y10⟩ := blk11 HB3.out
              go_wp2_with fail
              refine (first_to da dc done.length done true _ HF3.out.done rfl HF3.out.dm E7.out).mono ?_
              rintro e _ ⟨rfl, rfl⟩
              go_wp2_with fail
              refine (last_to ua uc undone.length undone false _ HF3.out.undone rfl (by omega) E8.out).mono ?_
              rintro e w4 ⟨rfl, k4⟩
              have HF4 := Kept.mk (HF3.out.keeps k4)
              have HB4 := Kept.mk (HB3.out.keeps k4 (fun h => h))
              have K4 := Kept.mk (K3.out.trans k4)
              clear k4 HF3 HB3 K3 y0 y1 y2 y3 y4 y5 y6 y7 y8 y9 y10
              obtain ⟨y0, y1, y2, y3, y4, y5, y6, y7, y8, y9, y10⟩ := blk11 HB4.out
              go_wp2_with fail
              go_ret
              exact ⟨rfl, K4.out⟩
            | true =>
              have E8 := Kept.mk e8
              clear e8
              have hres : Kept (Fct.may o ⟨done, undone, asked, false, true, a0, a1, false, d0, d1, acc⟩ = true) := ⟨by simp [Fct.may, E0.out, L1.out, L2.out, E3.out, E5.out, E6.out, E7.out, E8.out]⟩
              rw [hres.out]
              go_enter Try.func15, Try.ntmps15
              go_wp2_with fail
              refine (omay_to o a c true _ HF0.out.steps HF0.out.sm E0.out).mono ?_
              rintro e w1 ⟨rfl, k1⟩
              have HF1 := Kept.mk (HF0.out.keeps k1)
              have HB1 := Kept.mk (HB0.out.keeps k1 (fun h => h))
              have K1 := Kept.mk (K0.out.trans k1)
              clear k1 HF0 HB0 K0
              obtain ⟨y0, y1, y2, y3, y4, y5, y6, y7, y8, y9, y10⟩ := blk11 HB1.out
              go_wp2_with fail
              refine (blContains_to ua uc undone.length undone true true _ HF1.out.undone rfl HF1.out.um E3.out).mono ?_
              rintro e _ ⟨rfl, rfl⟩
              go_wp2_with fail
              refine (either_to a0 a1 false _ E5.out).mono ?_
              rintro e w2 ⟨rfl, k2⟩
              have HF2 := Kept.mk (HF1.out.keeps k2)
              have HB2 := Kept.mk (HB1.out.keeps k2 (fun h => h))
              have K2 := Kept.mk (K1.out.trans k2)
              clear k2 HF1 HB1 K1 y0 y1 y2 y3 y4 y5 y6 y7 y8 y9 y10
              obtain ⟨y0, y1, y2, y3, y4, y5, y6, y7, y8, y9, y10⟩ := blk11 HB2.out
              go_wp2_with fail
              refine (either_to d0 d1 false _ E6.out).mono ?_
              rintro e w3 ⟨rfl, k3⟩
              have HF3 := Kept.mk (HF2.out.keeps k3)
              have HB3 := Kept.mk (HB2.out.keeps k3 (fun h => h))
              have K3 := Kept.mk (K2.out.trans k3)
              clear k3 HF2 HB2 K2 y0 y1 y2 y3 y4 y5 y6 y7 y8 y9 y10
              obtain ⟨y0, y1, y2, y3, y4, y5, y6, y7, y8, y9, y10⟩ := blk11 HB3.out
              go_wp2_with fail
              refine (first_to da dc done.length done true _ HF3.out.done rfl HF3.out.dm E7.out).mono ?_
              rintro e _ ⟨rfl, rfl⟩
              go_wp2_with fail
              refine (last_to ua uc undone.length undone true _ HF3.out.undone rfl (by omega) E8.out).mono ?_
              rintro e w4 ⟨rfl, k4⟩
              have HF4 := Kept.mk (HF3.out.keeps k4)
              have HB4 := Kept.mk (HB3.out.keeps k4 (fun h => h))
              have K4 := Kept.mk (K3.out.trans k4)
              clear k4 HF3 HB3 K3 y0 y1 y2 y3 y4 y5 y6 y7 y8 y9 y10
              obtain ⟨y0, y1, y2, y3, y4, y5, y6, y7, y8, y9, y10⟩ := blk11 HB4.out
              go_wp2_with fail
              go_ret
              exact ⟨rfl, K4.out⟩
        | true =>
          have E6 := Kept.mk e6
          clear e6
          cases e7 : firstB done with
          | false =>
            have E7 := Kept.mk e7
            clear e7
            cases e8 : lastB undone with
            | false =>
              have E8 := Kept.mk e8
              clear e8
              have hres : Kept (Fct.may o ⟨done, undone, asked, false, true, a0, a1, false, d0, d1, acc⟩ = false) := ⟨by simp [Fct.may, E8.out]⟩
              rw [hres.out]
              go_enter Try.func15, Try.ntmps15
              go_wp2_with fail
              refine (omay_to o a c true _ HF0.out.steps HF0.out.sm E0.out).mono ?_
              rintro e w1 ⟨rfl, k1⟩
              have HF1 := Kept.mk (HF0.out.keeps k1)
              have HB1 := Kept.mk (HB0.out.keeps k1 (fun h => h))
              have K1 := Kept.mk (K0.out.trans k1)
              clear k1 HF0 HB0 K0
              obtain ⟨y0, y1, y2, y3, y4, y5, y6, y7, y8, y9, y10⟩ := blk11 HB1.out
              go_wp2_with fail
              refine (blContains_to ua uc undone.length undone true true _ HF1.out.undone rfl HF1.out.um E3.out).mono ?_
              rintro e _ ⟨rfl, rfl⟩
              go_wp2_with fail
              refine (either_to a0 a1 false _ E5.out).mono ?_
              rintro e w2 ⟨rfl, k2⟩
              have HF2 := Kept.mk (HF1.out.keeps k2)
              have HB2 := Kept.mk (HB1.out.keeps k2 (fun h => h))
              have K2 := Kept.mk (K1.out.trans k2)
              clear k2 HF1 HB1 K1 y0 y1 y2 y3 y4 y5 y6 y7 y8 y9 y10
              obtain ⟨y0, y1, y2, y3, y4, y5, y6, y7, y8, y9, y10⟩ := blk11 HB2.out
              go_wp2_with fail
              refine (either_to d0 d1 true _ E6.out).mono ?_
              rintro e w3 ⟨rfl, k3⟩
              have HF3 := Kept.mk (HF2.out.keeps k3)
              have HB3 := Kept.mk (HB2.out.keeps k3 (fun h => h))
              have K3 := Kept.mk (K2.out.trans k3)
              clear k3 HF2 HB2 K2 y0 y1 y2 y3 y4 y5 y6 y7 y8 y9 y10
              obtain ⟨y0, y1, y2, y3, y4, y5, y6, y7, y8, y9, y10⟩ := blk11 HB3.out
              go_wp2_with fail
              refine (first_to da dc done.length done false _ HF3.out.done rfl HF3.out.dm E7.out).mono ?_
              rintro e _ ⟨rfl, rfl⟩
              go_wp2_with fail
              refine (last_to ua uc undone.length undone false _ HF3.out.undone rfl (by omega) E8.out).mono ?_
              rintro e w4 ⟨rfl, k4⟩
              have HF4 := Kept.mk (HF3.out.keeps k4)
              have HB4 := Kept.mk (HB3.out.keeps k4 (fun h => h))
              have K4 := Kept.mk (K3.out.trans k4)
              clear k4 HF3 HB3 K3 y0 y1 y2 y3 y4 y5 y6 y7 y8 y9 y10
              obtain ⟨y0, y1, y2, y3, y4, y5, y6, y7, y8, y9, y10⟩ := blk11 HB4.out
              go_wp2_with fail
              go_ret
              exact ⟨rfl, K4.out⟩
            | true =>
              have E8 := Kept.mk e8
              clear e8
              have hres : Kept (Fct.may o ⟨done, undone, asked, false, true, a0, a1, false, d0, d1, acc⟩ = true) := ⟨by simp [Fct.may, E0.out, L1.out, L2.out, E3.out, E5.out, E6.out, E7.out, E8.out]⟩
              rw [hres.out]
              go_enter Try.func15, Try.ntmps15
              go_wp2_with fail
              refine (omay_to o a c true _ HF0.out.steps HF0.out.sm E0.out).mono ?_
              rintro e w1 ⟨rfl, k1⟩
              have HF1 := Kept.mk (HF0.out.keeps k1)
              have HB1 := Kept.mk (HB0.out.keeps k1 (fun h => h))
              have K1 := Kept.mk (K0.out.trans k1)
              clear k1 HF0 HB0 K0
              obtain ⟨y0, y1, y2, y3, y4, y5, y6, y7, y8, y9, y10⟩ := blk11 HB1.out
              go_wp2_with fail
              refine (blContains_to ua uc undone.length undone true true _ HF1.out.undone rfl HF1.out.um E3.out).mono ?_
              rintro e _ ⟨rfl, rfl⟩
              go_wp2_with fail
              refine (either_to a0 a1 false _ E5.out).mono ?_
              rintro e w2 ⟨rfl, k2⟩
              have HF2 := Kept.mk (HF1.out.keeps k2)
              have HB2 := Kept.mk (HB1.out.keeps k2 (fun h => h))
              have K2 := Kept.mk (K1.out.trans k2)
              clear k2 HF1 HB1 K1 y0 y1 y2 y3 y4 y5 y6 y7 y8 y9 y10
              obtain ⟨y0, y1, y2, y3, y4, y5, y6, y7, y8, y9, y10⟩ := blk11 HB2.out
              go_wp2_with fail
              refine (either_to d0 d1 true _ E6.out).mono ?_
              rintro e w3 ⟨rfl, k3⟩
              have HF3 := Kept.mk (HF2.out.keeps k3)
              have HB3 := Kept.mk (HB2.out.keeps k3 (fun h => h))
              have K3 := Kept.mk (K2.out.trans k3)
              clear k3 HF2 HB2 K2 y0 y1 y2 y3 y4 y5 y6 y7 y8 y9 y10
              obtain ⟨y0, y1, y2, y3, y4, y5, y6, y7, y8, y9, y10⟩ := blk11 HB3.out
              go_wp2_with fail
              refine (first_to da dc done.length done false _ HF3.out.done rfl HF3.out.dm E7.out).mono ?_
              rintro e _ ⟨rfl, rfl⟩
              go_wp2_with fail
              refine (last_to ua uc undone.length undone true _ HF3.out.undone rfl (by omega) E8.out).mono ?_
              rintro e w4 ⟨rfl, k4⟩
              have HF4 := Kept.mk (HF3.out.keeps k4)
              have HB4 := Kept.mk (HB3.out.keeps k4 (fun h => h))
              have K4 := Kept.mk (K3.out.trans k4)
              clear k4 HF3 HB3 K3 y0 y1 y2 y3 y4 y5 y6 y7 y8 y9 y10
              obtain ⟨y0, y1, y2, y3, y4, y5, y6, y7, y8, y9, y10⟩ := blk11 HB4.out
              go_wp2_with fail
              go_ret
              exact ⟨rfl, K4.out⟩
          | true =>
            have E7 := Kept.mk e7
            clear e7
            cases e8 : lastB undone with
            | false =>
              have E8 := Kept.mk e8
              clear e8
              have hres : Kept (Fct.may o ⟨done, undone, asked, false, true, a0, a1, false, d0, d1, acc⟩ = false) := ⟨by simp [Fct.may, E8.out]⟩
              rw [hres.out]
              go_enter Try.func15, Try.ntmps15
              go_wp2_with fail
              refine (omay_to o a c true _ HF0.out.steps HF0.out.sm E0.out).mono ?_
              rintro e w1 ⟨rfl, k1⟩
              have HF1 := Kept.mk (HF0.out.keeps k1)
              have HB1 := Kept.mk (HB0.out.keeps k1 (fun h => h))
              have K1 := Kept.mk (K0.out.trans k1)
              clear k1 HF0 HB0 K0
              obtain ⟨y0, y1, y2, y3, y4, y5, y6, y7, y8, y9, y10⟩ := blk11 HB1.out
              go_wp2_with fail
              refine (blContains_to ua uc undone.length undone true true _ HF1.out.undone rfl HF1.out.um E3.out).mono ?_
              rintro e _ ⟨rfl, rfl⟩
              go_wp2_with fail
              refine (either_to a0 a1 false _ E5.out).mono ?_
              rintro e w2 ⟨rfl, k2⟩
              have HF2 := Kept.mk (HF1.out.keeps k2)
              have HB2 := Kept.mk (HB1.out.keeps k2 (fun h => h))
              have K2 := Kept.mk (K1.out.trans k2)
              clear k2 HF1 HB1 K1 y0 y1 y2 y3 y4 y5 y6 y7 y8 y9 y10
              obtain ⟨y0, y1, y2, y3, y4, y5, y6, y7, y8, y9, y10⟩ := blk11 HB2.out
              go_wp2_with fail
              refine (either_to d0 d1 true _ E6.out).mono ?_
              rintro e w3 ⟨rfl, k3⟩
              have HF3 := Kept.mk (HF2.out.keeps k3)
              have HB3 := Kept.mk (HB2.out.keeps k3 (fun h => h))
              have K3 := Kept.mk (K2.out.trans k3)
              clear k3 HF2 HB2 K2 y0 y1 y2 y3 y4 y5 y6 y7 y8 y9 y10
              obtain ⟨y0, y1, y2, y3, y4, y5, y6, y7, y8, y9, y10⟩ := blk11 HB3.out
              go_wp2_with fail
              refine (first_to da dc done.length done true _ HF3.out.done rfl HF3.out.dm E7.out).mono ?_
              rintro e _ ⟨rfl, rfl⟩
              go_wp2_with fail
              refine (last_to ua uc undone.length undone false _ HF3.out.undone rfl (by omega) E8.out).mono ?_
              rintro e w4 ⟨rfl, k4⟩
              have HF4 := Kept.mk (HF3.out.keeps k4)
              have HB4 := Kept.mk (HB3.out.keeps k4 (fun h => h))
              have K4 := Kept.mk (K3.out.trans k4)
              clear k4 HF3 HB3 K3 y0 y1 y2 y3 y4 y5 y6 y7 y8 y9 y10
              obtain ⟨y0, y1, y2, y3, y4, y5, y6, y7, y8, y9, y10⟩ := blk11 HB4.out
              go_wp2_with fail
              go_ret
              exact ⟨rfl, K4.out⟩
            | true =>
              have E8 := Kept.mk e8
              clear e8
              have hres : Kept (Fct.may o ⟨done, undone, asked, false, true, a0, a1, false, d0, d1, acc⟩ = true) := ⟨by simp [Fct.may, E0.out, L1.out, L2.out, E3.out, E5.out, E6.out, E7.out, E8.out]⟩
              rw [hres.out]
              go_enter Try.func15, Try.ntmps15
              go_wp2_with fail
              refine (omay_to o a c true _ HF0.out.steps HF0.out.sm E0.out).mono ?_
              rintro e w1 ⟨rfl, k1⟩
              have HF1 := Kept.mk (HF0.out.keeps k1)
              have HB1 := Kept.mk (HB0.out.keeps k1 (fun h => h))
              have K1 := Kept.mk (K0.out.trans k1)
              clear k1 HF0 HB0 K0
              obtain ⟨y0, y1, y2, y3, y4, y5, y6, y7, y8, y9, y10⟩ := blk11 HB1.out
              go_wp2_with fail
              refine (blContains_to ua uc undone.length undone true true _ HF1.out.undone rfl HF1.out.um E3.out).mono ?_
              rintro e _ ⟨rfl, rfl⟩
              go_wp2_with fail
              refine (either_to a0 a1 false _ E5.out).mono ?_
              rintro e w2 ⟨rfl, k2⟩
              have HF2 := Kept.mk (HF1.out.keeps k2)
              have HB2 := Kept.mk (HB1.out.keeps k2 (fun h => h))
              have K2 := Kept.mk (K1.out.trans k2)
              clear k2 HF1 HB1 K1 y0 y1 y2 y3 y4 y5 y6 y7 y8 y9 y10
              obtain ⟨y0, y1, y2, y3, y4, y5, y6, y7, y8, y9, y10⟩ := blk11 HB2.out
              go_wp2_with fail
              refine (either_to d0 d1 true _ E6.out).mono ?_
              rintro e w3 ⟨rfl, k3⟩
              have HF3 := Kept.mk (HF2.out.keeps k3)
              have HB3 := Kept.mk (HB2.out.keeps k3 (fun h => h))
              have K3 := Kept.mk (K2.out.trans k3)
              clear k3 HF2 HB2 K2 y0 y1 y2 y3 y4 y5 y6 y7 y8 y9 y10
              obtain ⟨y0, y1, y2, y3, y4, y5, y6, y7, y8, y9, y10⟩ := blk11 HB3.out
              go_wp2_with fail
              refine (first_to da dc done.length done true _ HF3.out.done rfl HF3.out.dm E7.out).mono ?_
              rintro e _ ⟨rfl, rfl⟩
              go_wp2_with fail
              refine (last_to ua uc undone.length undone true _ HF3.out.undone rfl (by omega) E8.out).mono ?_
              rintro e w4 ⟨rfl, k4⟩
              have HF4 := Kept.mk (HF3.out.keeps k4)
              have HB4 := Kept.mk (HB3.out.keeps k4 (fun h => h))
              have K4 := Kept.mk (K3.out.trans k4)
              clear k4 HF3 HB3 K3 y0 y1 y2 y3 y4 y5 y6 y7 y8 y9 y10
              obtain ⟨y0, y1, y2, y3, y4, y5, y6, y7, y8, y9, y10⟩ := blk11 HB4.out
              go_wp2_with fail
              go_ret
              exact ⟨rfl, K4.out⟩
      | true =>
        have E5 := Kept.mk e5
        clear e5
        cases e7 : firstB done with
        | false =>
          have E7 := Kept.mk e7
          clear e7
          cases e8 : lastB undone with
          | false =>
            have E8 := Kept.mk e8
            clear e8
            have hres : Kept (Fct.may o ⟨done, undone, asked, false, true, a0, a1, false, d0, d1, acc⟩ = false) := ⟨by simp [Fct.may, E8.out]⟩
            rw [hres.out]
            go_enter Try.func15, Try.ntmps15
            go_wp2_with fail
            refine (omay_to o a c true _ HF0.out.steps HF0.out.sm E0.out).mono ?_
            rintro e w1 ⟨rfl, k1⟩
            have HF1 := Kept.mk (HF0.out.keeps k1)
            have HB1 := Kept.mk (HB0.out.keeps k1 (fun h => h))
            have K1 := Kept.mk (K0.out.trans k1)
            clear k1 HF0 HB0 K0
            obtain ⟨y0, y1, y2, y3, y4, y5, y6, y7, y8, y9, y10⟩ := blk11 HB1.out
            go_wp2_with fail
            refine (blContains_to ua uc undone.length undone true true _ HF1.out.undone rfl HF1.out.um E3.out).mono ?_
            rintro e _ ⟨rfl, rfl⟩
            go_wp2_with fail
            refine (either_to a0 a1 true _ E5.out).mono ?_
            rintro e w2 ⟨rfl, k2⟩
            have HF2 := Kept.mk (HF1.out.keeps k2)
            have HB2 := Kept.mk (HB1.out.keeps k2 (fun h => h))
            have K2 := Kept.mk (K1.out.trans k2)
            clear k2 HF1 HB1 K1 y0 y1 y2 y3 y4 y5 y6 y7 y8 y9 y10
            obtain ⟨y0, y1, y2, y3, y4, y5, y6, y7, y8, y9, y10⟩ := blk11 HB2.out
            go_wp2_with fail
            refine (first_to da dc done.length done false _ HF2.out.done rfl HF2.out.dm E7.out).mono ?_
            rintro e _ ⟨rfl, rfl⟩
            go_wp2_with fail
            refine (last_to ua uc undone.length undone false _ HF2.out.undone rfl (by omega) E8.out).mono ?_
            rintro e w3 ⟨rfl, k3⟩
            have HF3 := Kept.mk (HF2.out.keeps k3)
            have HB3 := Kept.mk (HB2.out.keeps k3 (fun h => h))
            have K3 := Kept.mk (K2.out.trans k3)
            clear k3 HF2 HB2 K2 y0 y1 y2 y3 y4 y5 y6 y7 y8 y9 y10
            obtain ⟨y0, y1, y2, y3, y4, y5, y6, y7, y8, y9, y10⟩ := blk11 HB3.out
            go_wp2_with fail
            go_ret
            exact ⟨rfl, K3.out⟩
          | true =>
            have E8 := Kept.mk e8
            clear e8
            have hres : Kept (Fct.may o ⟨done, undone, asked, false, true, a0, a1, false, d0, d1, acc⟩ = true) := ⟨by simp [Fct.may, E0.out, L1.out, L2.out, E3.out, E5.out, E7.out, E8.out]⟩
            rw [hres.out]
            go_enter Try.func15, Try.ntmps15
            go_wp2_with fail
            refine (omay_to o a c true _ HF0.out.steps HF0.out.sm E0.out).mono ?_
            rintro e w1 ⟨rfl, k1⟩
            have HF1 := Kept.mk (HF0.out.keeps k1)
            have HB1 := Kept.mk (HB0.out.keeps k1 (fun h => h))
            have K1 := Kept.mk (K0.out.trans k1)
            clear k1 HF0 HB0 K0
            obtain ⟨y0, y1, y2, y3, y4, y5, y6, y7, y8, y9, y10⟩ := blk11 HB1.out
            go_wp2_with fail
            refine (blContains_to ua uc undone.length undone true true _ HF1.out.undone rfl HF1.out.um E3.out).mono ?_
            rintro e _ ⟨rfl, rfl⟩
            go_wp2_with fail
            refine (either_to a0 a1 true _ E5.out).mono ?_
            rintro e w2 ⟨rfl, k2⟩
            have HF2 := Kept.mk (HF1.out.keeps k2)
            have HB2 := Kept.mk (HB1.out.keeps k2 (fun h => h))
            have K2 := Kept.mk (K1.out.trans k2)
            clear k2 HF1 HB1 K1 y0 y1 y2 y3 y4 y5 y6 y7 y8 y9 y10
            obtain ⟨y0, y1, y2, y3, y4, y5, y6, y7, y8, y9, y10⟩ := blk11 HB2.out
            go_wp2_with fail
            refine (first_to da dc done.length done false _ HF2.out.done rfl HF2.out.dm E7.out).mono ?_
            rintro e _ ⟨rfl, rfl⟩
            go_wp2_with fail
            refine (last_to ua uc undone.length undone true _ HF2.out.undone rfl (by omega) E8.out).mono ?_
            rintro e w3 ⟨rfl, k3⟩
            have HF3 := Kept.mk (HF2.out.keeps k3)
            have HB3 := Kept.mk (HB2.out.keeps k3 (fun h => h))
            have K3 := Kept.mk (K2.out.trans k3)
            clear k3 HF2 HB2 K2 y0 y1 y2 y3 y4 y5 y6 y7 y8 y9 y10
            obtain ⟨y0, y1, y2, y3, y4, y5, y6, y7, y8, y9, y10⟩ := blk11 HB3.out
            go_wp2_with fail
            go_ret
            exact ⟨rfl, K3.out⟩
        | true =>
          have E7 := Kept.mk e7
          clear e7
          cases e8 : lastB undone with
          | false =>
            have E8 := Kept.mk e8
            clear e8
            have hres : Kept (Fct.may o ⟨done, undone, asked, false, true, a0, a1, false, d0, d1, acc⟩ = false) := ⟨by simp [Fct.may, E8.out]⟩
            rw [hres.out]
            go_enter Try.func15, Try.ntmps15
            go_wp2_with fail
            refine (omay_to o a c true _ HF0.out.steps HF0.out.sm E0.out).mono ?_
            rintro e w1 ⟨rfl, k1⟩
            have HF1 := Kept.mk (HF0.out.keeps k1)
            have HB1 := Kept.mk (HB0.out.keeps k1 (fun h => h))
            have K1 := Kept.mk (K0.out.trans k1)
            clear k1 HF0 HB0 K0
            obtain ⟨y0, y1, y2, y3, y4, y5, y6, y7, y8, y9, y10⟩ := blk11 HB1.out
            go_wp2_with fail
            refine (blContains_to ua uc undone.length undone true true _ HF1.out.undone rfl HF1.out.um E3.out).mono ?_
            rintro e _ ⟨rfl, rfl⟩
            go_wp2_with fail
            refine (either_to a0 a1 true _ E5.out).mono ?_
            rintro e w2 ⟨rfl, k2⟩
            have HF2 := Kept.mk (HF1.out.keeps k2)
            have HB2 := Kept.mk (HB1.out.keeps k2 (fun h => h))
            have K2 := Kept.mk (K1.out.trans k2)
            clear k2 HF1 HB1 K1 y0 y1 y2 y3 y4 y5 y6 y7 y8 y9 y10
            obtain ⟨y0, y1, y2, y3, y4, y5, y6, y7, y8, y9, y10⟩ := blk11 HB2.out
            go_wp2_with fail
            refine (first_to da dc done.length done true _ HF2.out.done rfl HF2.out.dm E7.out).mono ?_
            rintro e _ ⟨rfl, rfl⟩
            go_wp2_with fail
            refine (last_to ua uc undone.length undone false _ HF2.out.undone rfl (by omega) E8.out).mono ?_
            rintro e w3 ⟨rfl, k3⟩
            have HF3 := Kept.mk (HF2.out.keeps k3)
            have HB3 := Kept.mk (HB2.out.keeps k3 (fun h => h))
            have K3 := Kept.mk (K2.out.trans k3)
            clear k3 HF2 HB2 K2 y0 y1 y2 y3 y4 y5 y6 y7 y8 y9 y10
            obtain ⟨y0, y1, y2, y3, y4, y5, y6, y7, y8, y9, y10⟩ := blk11 HB3.out
            go_wp2_with fail
            go_ret
            exact ⟨rfl, K3.out⟩
          | true =>
            have E8 := Kept.mk e8
            clear e8
            have hres : Kept (Fct.may o ⟨done, undone, asked, false, true, a0, a1, false, d0, d1, acc⟩ = true) := ⟨by simp [Fct.may, E0.out, L1.out, L2.out, E3.out, E5.out, E7.out, E8.out]⟩
            rw [hres.out]
            go_enter Try.func15, Try.ntmps15
            go_wp2_with fail
            refine (omay_to o a c true _ HF0.out.steps HF0.out.sm E0.out).mono ?_
            rintro e w1 ⟨rfl, k1⟩
            have HF1 := Kept.mk (HF0.out.keeps k1)
            have HB1 := Kept.mk (HB0.out.keeps k1 (fun h => h))
            have K1 := Kept.mk (K0.out.trans k1)
            clear k1 HF0 HB0 K0
            obtain ⟨y0, y1, y2, y3, y4, y5, y6, y7, y8, y9, y10⟩ := blk11 HB1.out
            go_wp2_with fail
            refine (blContains_to ua uc undone.length undone true true _ HF1.out.undone rfl HF1.out.um E3.out).mono ?_
            rintro e _ ⟨rfl, rfl⟩
            go_wp2_with fail
            refine (either_to a0 a1 true _ E5.out).mono ?_
            rintro e w2 ⟨rfl, k2⟩
            have HF2 := Kept.mk (HF1.out.keeps k2)
            have HB2 := Kept.mk (HB1.out.keeps k2 (fun h => h))
            have K2 := Kept.mk (K1.out.trans k2)
            clear k2 HF1 HB1 K1 y0 y1 y2 y3 y4 y5 y6 y7 y8 y9 y10
            obtain ⟨y0, y1, y2, y3, y4, y5, y6, y7, y8, y9, y10⟩ := blk11 HB2.out
            go_wp2_with fail
            refine (first_to da dc done.length done true _ HF2.out.done rfl HF2.out.dm E7.out).mono ?_
            rintro e _ ⟨rfl, rfl⟩
            go_wp2_with fail
            refine (last_to ua uc undone.length undone true _ HF2.out.undone rfl (by omega) E8.out).mono ?_
            rintro e w3 ⟨rfl, k3⟩
            have HF3 := Kept.mk (HF2.out.keeps k3)
            have HB3 := Kept.mk (HB2.out.keeps k3 (fun h => h))
            have K3 := Kept.mk (K2.out.trans k3)
            clear k3 HF2 HB2 K2 y0 y1 y2 y3 y4 y5 y6 y7 y8 y9 y10
            obtain ⟨y0, y1, y2, y3, y4, y5, y6, y7, y8, y9, y10⟩ := blk11 HB3.out
            go_wp2_with fail
            go_ret
            exact ⟨rfl, K3.out⟩
    | true =>
      have hres : Kept (Fct.may o ⟨done, undone, asked, false, true, a0, a1, true, d0, d1, acc⟩ = false) := ⟨by simp [Fct.may]⟩
      rw [hres.out]
      go_enter Try.func15, Try.ntmps15
      go_wp2_with fail
      refine (omay_to o a c true _ HF0.out.steps HF0.out.sm E0.out).mono ?_
      rintro e w1 ⟨rfl, k1⟩
      have HF1 := Kept.mk (HF0.out.keeps k1)
      have HB1 := Kept.mk (HB0.out.keeps k1 (fun h => h))
      have K1 := Kept.mk (K0.out.trans k1)
      clear k1 HF0 HB0 K0
      obtain ⟨y0, y1, y2, y3, y4, y5, y6, y7, y8, y9, y10⟩ := blk11 HB1.out
      go_wp2_with fail
      refine (blContains_to ua uc undone.length undone true true _ HF1.out.undone rfl HF1.out.um E3.out).mono ?_
      rintro e _ ⟨rfl, rfl⟩
      go_wp2_with fail
      go_ret
      exact ⟨rfl, K1.out⟩
end Go.Proofs.Ytfcnegnkmacajaa
