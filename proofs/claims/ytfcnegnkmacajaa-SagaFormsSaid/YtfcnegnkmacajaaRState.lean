/- The page's over, Over and State, walked. (printed by gen/rstate.py) -/
import Derived.Test.YtfcnegnkmacajaaRMay
import Derived.Test.YtfcnegnkmacajaaFacts2
namespace Go.Proofs.Ytfcnegnkmacajaa
open Go.RowKit
theorem hasB_twof (x y : Bool) : hasB [x, y] false = !(x && y) := by cases x <;> cases y <;> rfl
theorem st_turned {o : Ord} {f : Fct} {b : Bool} (hm : f.may o = true) (ht : f.turned = true) (h : f.over o = b) : f.ends = if b then 6 else 4 := by
  subst h
  unfold Fct.over Fct.ends
  rw [hm, ht]
  cases (f.a0 && f.a1) <;> cases hasB f.undone false <;> simp
theorem st_yes {o : Ord} {f : Fct} {b : Bool} (hm : f.may o = true) (ht : f.turned = false) (hy : f.yes = true) (h : f.over o = b) : f.ends = if b then 5 else 3 := by
  subst h
  unfold Fct.over Fct.ends
  rw [hm, ht, hy]
  cases (f.a0 && f.a1) <;> cases f.shipped <;> simp
set_option linter.unusedSimpArgs false in
set_option maxRecDepth 100000 in
set_option maxHeartbeats 16000000 in
theorem ov_no (o : Ord) (a da ua : Option Addr) (c dc uc : Nat) (done undone : List Bool) (asked yes turned a0 a1 shipped d0 d1 acc : Bool) (w : World) (h : FcAt w o a c ⟨done, undone, asked, yes, turned, a0, a1, shipped, d0, d1, acc⟩ da ua) (hc : o.steps.length ≤ c) (hcm : c ≤ maxLen) (em : Fct.may o ⟨done, undone, asked, yes, turned, a0, a1, shipped, d0, d1, acc⟩ = false)  :
    Calls Try.prog 37 #[.agg #[.int .i64 o.id, .int .i64 o.item, .int .i64 o.qty, .int .i64 o.client, .int .i64 o.price, .slice a o.steps.length c], .agg #[.slice da done.length dc, .slice ua undone.length uc, .bool asked, .bool yes, .bool turned, .bool a0, .bool a1, .bool shipped, .bool d0, .bool d1, .bool acc]] w (fun e w' => e = .returned (.bool false) ∧ Keeps (fun _ => False) w w') := by
  have HF0 := Kept.mk ((h.alloc (.cells #[.int .i64 o.id, .int .i64 o.item, .int .i64 o.qty, .int .i64 o.client, .int .i64 o.price, .slice a o.steps.length c] 24)).alloc (.cells #[.slice da done.length dc, .slice ua undone.length uc, .bool asked, .bool yes, .bool turned, .bool a0, .bool a1, .bool shipped, .bool d0, .bool d1, .bool acc] 42))
  have HB0 := Kept.mk (Blk.new' (w.alloc (.cells #[.int .i64 o.id, .int .i64 o.item, .int .i64 o.qty, .int .i64 o.client, .int .i64 o.price, .slice a o.steps.length c] 24)) 42 [.slice da done.length dc, .slice ua undone.length uc, .bool asked, .bool yes, .bool turned, .bool a0, .bool a1, .bool shipped, .bool d0, .bool d1, .bool acc] (w.heap.size + 1) (by simp))
  have HO0 := Kept.mk ((Blk.new' w 24 [.int .i64 o.id, .int .i64 o.item, .int .i64 o.qty, .int .i64 o.client, .int .i64 o.price, .slice a o.steps.length c] _ rfl).alloc (.cells #[.slice da done.length dc, .slice ua undone.length uc, .bool asked, .bool yes, .bool turned, .bool a0, .bool a1, .bool shipped, .bool d0, .bool d1, .bool acc] 42))
  have K0 : Kept (Keeps (fun _ => False) w ((w.alloc (.cells #[.int .i64 o.id, .int .i64 o.item, .int .i64 o.qty, .int .i64 o.client, .int .i64 o.price, .slice a o.steps.length c] 24)).alloc (.cells #[.slice da done.length dc, .slice ua undone.length uc, .bool asked, .bool yes, .bool turned, .bool a0, .bool a1, .bool shipped, .bool d0, .bool d1, .bool acc] 42))) := ⟨((Keeps.refl _ w).alloc _).alloc _⟩
  clear h
  have Em := Kept.mk em
  clear em
  go_enter Try.func37, Try.ntmps37
  go_wp2_with fail
  have HC := rmay_to o a da ua c dc uc ⟨done, undone, _, _, _, _, _, _, _, _, _⟩ _ HF0.out hc hcm
  rw [Em.out] at HC
  refine HC.mono ?_
  rintro e w1 ⟨rfl, k1⟩
  clear HC
  have HF1 := Kept.mk (HF0.out.keeps k1)
  have HB1 := Kept.mk (HB0.out.quiet k1)
  have HO1 := Kept.mk (HO0.out.quiet k1)
  have K1 := Kept.mk (K0.out.trans k1)
  clear k1 HF0 HB0 HO0 K0
  obtain ⟨y0, y1, y2, y3, y4, y5, y6, y7, y8, y9, y10⟩ := blk11 HB1.out
  obtain ⟨x0, x1, x2, x3, x4, x5⟩ := blk6 HO1.out
  have HA2 : Kept (BlRow w1 (some ⟨w.heap.size + 1, 5, none⟩) [a0, a1]) := ⟨two_row y5 y6 HB1.out.lt⟩
  have HD2 : Kept (BlRow w1 (some ⟨w.heap.size + 1, 8, none⟩) [d0, d1]) := ⟨two_row y8 y9 HB1.out.lt⟩
  go_wp2_with fail
  go_ret
  exact ⟨rfl, K1.out⟩
set_option linter.unusedSimpArgs false in
set_option maxRecDepth 100000 in
set_option maxHeartbeats 16000000 in
theorem ov_acks (o : Ord) (a da ua : Option Addr) (c dc uc : Nat) (done undone : List Bool) (asked yes turned a0 a1 shipped d0 d1 acc : Bool) (w : World) (h : FcAt w o a c ⟨done, undone, asked, yes, turned, a0, a1, shipped, d0, d1, acc⟩ da ua) (hc : o.steps.length ≤ c) (hcm : c ≤ maxLen) (em : Fct.may o ⟨done, undone, asked, yes, turned, a0, a1, shipped, d0, d1, acc⟩ = true) (e5 : (a0 && a1) = false) :
    Calls Try.prog 37 #[.agg #[.int .i64 o.id, .int .i64 o.item, .int .i64 o.qty, .int .i64 o.client, .int .i64 o.price, .slice a o.steps.length c], .agg #[.slice da done.length dc, .slice ua undone.length uc, .bool asked, .bool yes, .bool turned, .bool a0, .bool a1, .bool shipped, .bool d0, .bool d1, .bool acc]] w (fun e w' => e = .returned (.bool false) ∧ Keeps (fun _ => False) w w') := by
  have HF0 := Kept.mk ((h.alloc (.cells #[.int .i64 o.id, .int .i64 o.item, .int .i64 o.qty, .int .i64 o.client, .int .i64 o.price, .slice a o.steps.length c] 24)).alloc (.cells #[.slice da done.length dc, .slice ua undone.length uc, .bool asked, .bool yes, .bool turned, .bool a0, .bool a1, .bool shipped, .bool d0, .bool d1, .bool acc] 42))
  have HB0 := Kept.mk (Blk.new' (w.alloc (.cells #[.int .i64 o.id, .int .i64 o.item, .int .i64 o.qty, .int .i64 o.client, .int .i64 o.price, .slice a o.steps.length c] 24)) 42 [.slice da done.length dc, .slice ua undone.length uc, .bool asked, .bool yes, .bool turned, .bool a0, .bool a1, .bool shipped, .bool d0, .bool d1, .bool acc] (w.heap.size + 1) (by simp))
  have HO0 := Kept.mk ((Blk.new' w 24 [.int .i64 o.id, .int .i64 o.item, .int .i64 o.qty, .int .i64 o.client, .int .i64 o.price, .slice a o.steps.length c] _ rfl).alloc (.cells #[.slice da done.length dc, .slice ua undone.length uc, .bool asked, .bool yes, .bool turned, .bool a0, .bool a1, .bool shipped, .bool d0, .bool d1, .bool acc] 42))
  have K0 : Kept (Keeps (fun _ => False) w ((w.alloc (.cells #[.int .i64 o.id, .int .i64 o.item, .int .i64 o.qty, .int .i64 o.client, .int .i64 o.price, .slice a o.steps.length c] 24)).alloc (.cells #[.slice da done.length dc, .slice ua undone.length uc, .bool asked, .bool yes, .bool turned, .bool a0, .bool a1, .bool shipped, .bool d0, .bool d1, .bool acc] 42))) := ⟨((Keeps.refl _ w).alloc _).alloc _⟩
  clear h
  have Em := Kept.mk em
  clear em
  have E5 : Kept ((!hasB [a0, a1] false) = false) := ⟨by rw [hasB_twof, e5]; rfl⟩
  clear e5
  go_enter Try.func37, Try.ntmps37
  go_wp2_with fail
  have HC := rmay_to o a da ua c dc uc ⟨done, undone, _, _, _, _, _, _, _, _, _⟩ _ HF0.out hc hcm
  rw [Em.out] at HC
  refine HC.mono ?_
  rintro e w1 ⟨rfl, k1⟩
  clear HC
  have HF1 := Kept.mk (HF0.out.keeps k1)
  have HB1 := Kept.mk (HB0.out.quiet k1)
  have HO1 := Kept.mk (HO0.out.quiet k1)
  have K1 := Kept.mk (K0.out.trans k1)
  clear k1 HF0 HB0 HO0 K0
  obtain ⟨y0, y1, y2, y3, y4, y5, y6, y7, y8, y9, y10⟩ := blk11 HB1.out
  obtain ⟨x0, x1, x2, x3, x4, x5⟩ := blk6 HO1.out
  have HA2 : Kept (BlRow w1 (some ⟨w.heap.size + 1, 5, none⟩) [a0, a1]) := ⟨two_row y5 y6 HB1.out.lt⟩
  have HD2 : Kept (BlRow w1 (some ⟨w.heap.size + 1, 8, none⟩) [d0, d1]) := ⟨two_row y8 y9 HB1.out.lt⟩
  go_wp2_with fail
  refine (rall_to _ 2 2 [a0, a1] false _ HA2.out rfl (by decide) E5.out).mono ?_
  rintro e _ ⟨rfl, rfl⟩
  go_wp2_with fail
  go_ret
  exact ⟨rfl, K1.out⟩
set_option linter.unusedSimpArgs false in
set_option maxRecDepth 100000 in
set_option maxHeartbeats 16000000 in
theorem ov_t1 (o : Ord) (a da ua : Option Addr) (c dc uc : Nat) (done undone : List Bool) (asked yes turned a0 a1 shipped d0 d1 acc : Bool) (w : World) (h : FcAt w o a c ⟨done, undone, asked, yes, turned, a0, a1, shipped, d0, d1, acc⟩ da ua) (hc : o.steps.length ≤ c) (hcm : c ≤ maxLen) (em : Fct.may o ⟨done, undone, asked, yes, turned, a0, a1, shipped, d0, d1, acc⟩ = true) (ht : turned = true) (hy : yes = false) (e5 : (a0 && a1) = true) (e3 : hasB undone false = false) :
    Calls Try.prog 37 #[.agg #[.int .i64 o.id, .int .i64 o.item, .int .i64 o.qty, .int .i64 o.client, .int .i64 o.price, .slice a o.steps.length c], .agg #[.slice da done.length dc, .slice ua undone.length uc, .bool asked, .bool yes, .bool turned, .bool a0, .bool a1, .bool shipped, .bool d0, .bool d1, .bool acc]] w (fun e w' => e = .returned (.bool true) ∧ Keeps (fun _ => False) w w') := by
  have HF0 := Kept.mk ((h.alloc (.cells #[.int .i64 o.id, .int .i64 o.item, .int .i64 o.qty, .int .i64 o.client, .int .i64 o.price, .slice a o.steps.length c] 24)).alloc (.cells #[.slice da done.length dc, .slice ua undone.length uc, .bool asked, .bool yes, .bool turned, .bool a0, .bool a1, .bool shipped, .bool d0, .bool d1, .bool acc] 42))
  have HB0 := Kept.mk (Blk.new' (w.alloc (.cells #[.int .i64 o.id, .int .i64 o.item, .int .i64 o.qty, .int .i64 o.client, .int .i64 o.price, .slice a o.steps.length c] 24)) 42 [.slice da done.length dc, .slice ua undone.length uc, .bool asked, .bool yes, .bool turned, .bool a0, .bool a1, .bool shipped, .bool d0, .bool d1, .bool acc] (w.heap.size + 1) (by simp))
  have HO0 := Kept.mk ((Blk.new' w 24 [.int .i64 o.id, .int .i64 o.item, .int .i64 o.qty, .int .i64 o.client, .int .i64 o.price, .slice a o.steps.length c] _ rfl).alloc (.cells #[.slice da done.length dc, .slice ua undone.length uc, .bool asked, .bool yes, .bool turned, .bool a0, .bool a1, .bool shipped, .bool d0, .bool d1, .bool acc] 42))
  have K0 : Kept (Keeps (fun _ => False) w ((w.alloc (.cells #[.int .i64 o.id, .int .i64 o.item, .int .i64 o.qty, .int .i64 o.client, .int .i64 o.price, .slice a o.steps.length c] 24)).alloc (.cells #[.slice da done.length dc, .slice ua undone.length uc, .bool asked, .bool yes, .bool turned, .bool a0, .bool a1, .bool shipped, .bool d0, .bool d1, .bool acc] 42))) := ⟨((Keeps.refl _ w).alloc _).alloc _⟩
  clear h
  subst ht
  subst hy
  have Em := Kept.mk em
  clear em
  have E5 : Kept ((!hasB [a0, a1] false) = true) := ⟨by rw [hasB_twof, e5]; rfl⟩
  clear e5
  have E3 := Kept.mk e3
  clear e3
  go_enter Try.func37, Try.ntmps37
  go_wp2_with fail
  have HC := rmay_to o a da ua c dc uc ⟨done, undone, _, _, _, _, _, _, _, _, _⟩ _ HF0.out hc hcm
  rw [Em.out] at HC
  refine HC.mono ?_
  rintro e w1 ⟨rfl, k1⟩
  clear HC
  have HF1 := Kept.mk (HF0.out.keeps k1)
  have HB1 := Kept.mk (HB0.out.quiet k1)
  have HO1 := Kept.mk (HO0.out.quiet k1)
  have K1 := Kept.mk (K0.out.trans k1)
  clear k1 HF0 HB0 HO0 K0
  obtain ⟨y0, y1, y2, y3, y4, y5, y6, y7, y8, y9, y10⟩ := blk11 HB1.out
  obtain ⟨x0, x1, x2, x3, x4, x5⟩ := blk6 HO1.out
  have HA2 : Kept (BlRow w1 (some ⟨w.heap.size + 1, 5, none⟩) [a0, a1]) := ⟨two_row y5 y6 HB1.out.lt⟩
  have HD2 : Kept (BlRow w1 (some ⟨w.heap.size + 1, 8, none⟩) [d0, d1]) := ⟨two_row y8 y9 HB1.out.lt⟩
  go_wp2_with fail
  refine (rall_to _ 2 2 [a0, a1] true _ HA2.out rfl (by decide) E5.out).mono ?_
  rintro e _ ⟨rfl, rfl⟩
  go_wp2_with fail
  refine (rall_to ua uc undone.length undone true _ HF1.out.undone rfl HF1.out.um (by rw [E3.out]; rfl)).mono ?_
  rintro e _ ⟨rfl, rfl⟩
  go_wp2_with fail
  go_ret
  exact ⟨rfl, K1.out⟩
set_option linter.unusedSimpArgs false in
set_option maxRecDepth 100000 in
set_option maxHeartbeats 16000000 in
theorem ov_t0 (o : Ord) (a da ua : Option Addr) (c dc uc : Nat) (done undone : List Bool) (asked yes turned a0 a1 shipped d0 d1 acc : Bool) (w : World) (h : FcAt w o a c ⟨done, undone, asked, yes, turned, a0, a1, shipped, d0, d1, acc⟩ da ua) (hc : o.steps.length ≤ c) (hcm : c ≤ maxLen) (em : Fct.may o ⟨done, undone, asked, yes, turned, a0, a1, shipped, d0, d1, acc⟩ = true) (ht : turned = true) (hy : yes = false) (e5 : (a0 && a1) = true) (e3 : hasB undone false = true) :
    Calls Try.prog 37 #[.agg #[.int .i64 o.id, .int .i64 o.item, .int .i64 o.qty, .int .i64 o.client, .int .i64 o.price, .slice a o.steps.length c], .agg #[.slice da done.length dc, .slice ua undone.length uc, .bool asked, .bool yes, .bool turned, .bool a0, .bool a1, .bool shipped, .bool d0, .bool d1, .bool acc]] w (fun e w' => e = .returned (.bool false) ∧ Keeps (fun _ => False) w w') := by
  have HF0 := Kept.mk ((h.alloc (.cells #[.int .i64 o.id, .int .i64 o.item, .int .i64 o.qty, .int .i64 o.client, .int .i64 o.price, .slice a o.steps.length c] 24)).alloc (.cells #[.slice da done.length dc, .slice ua undone.length uc, .bool asked, .bool yes, .bool turned, .bool a0, .bool a1, .bool shipped, .bool d0, .bool d1, .bool acc] 42))
  have HB0 := Kept.mk (Blk.new' (w.alloc (.cells #[.int .i64 o.id, .int .i64 o.item, .int .i64 o.qty, .int .i64 o.client, .int .i64 o.price, .slice a o.steps.length c] 24)) 42 [.slice da done.length dc, .slice ua undone.length uc, .bool asked, .bool yes, .bool turned, .bool a0, .bool a1, .bool shipped, .bool d0, .bool d1, .bool acc] (w.heap.size + 1) (by simp))
  have HO0 := Kept.mk ((Blk.new' w 24 [.int .i64 o.id, .int .i64 o.item, .int .i64 o.qty, .int .i64 o.client, .int .i64 o.price, .slice a o.steps.length c] _ rfl).alloc (.cells #[.slice da done.length dc, .slice ua undone.length uc, .bool asked, .bool yes, .bool turned, .bool a0, .bool a1, .bool shipped, .bool d0, .bool d1, .bool acc] 42))
  have K0 : Kept (Keeps (fun _ => False) w ((w.alloc (.cells #[.int .i64 o.id, .int .i64 o.item, .int .i64 o.qty, .int .i64 o.client, .int .i64 o.price, .slice a o.steps.length c] 24)).alloc (.cells #[.slice da done.length dc, .slice ua undone.length uc, .bool asked, .bool yes, .bool turned, .bool a0, .bool a1, .bool shipped, .bool d0, .bool d1, .bool acc] 42))) := ⟨((Keeps.refl _ w).alloc _).alloc _⟩
  clear h
  subst ht
  subst hy
  have Em := Kept.mk em
  clear em
  have E5 : Kept ((!hasB [a0, a1] false) = true) := ⟨by rw [hasB_twof, e5]; rfl⟩
  clear e5
  have E3 := Kept.mk e3
  clear e3
  go_enter Try.func37, Try.ntmps37
  go_wp2_with fail
  have HC := rmay_to o a da ua c dc uc ⟨done, undone, _, _, _, _, _, _, _, _, _⟩ _ HF0.out hc hcm
  rw [Em.out] at HC
  refine HC.mono ?_
  rintro e w1 ⟨rfl, k1⟩
  clear HC
  have HF1 := Kept.mk (HF0.out.keeps k1)
  have HB1 := Kept.mk (HB0.out.quiet k1)
  have HO1 := Kept.mk (HO0.out.quiet k1)
  have K1 := Kept.mk (K0.out.trans k1)
  clear k1 HF0 HB0 HO0 K0
  obtain ⟨y0, y1, y2, y3, y4, y5, y6, y7, y8, y9, y10⟩ := blk11 HB1.out
  obtain ⟨x0, x1, x2, x3, x4, x5⟩ := blk6 HO1.out
  have HA2 : Kept (BlRow w1 (some ⟨w.heap.size + 1, 5, none⟩) [a0, a1]) := ⟨two_row y5 y6 HB1.out.lt⟩
  have HD2 : Kept (BlRow w1 (some ⟨w.heap.size + 1, 8, none⟩) [d0, d1]) := ⟨two_row y8 y9 HB1.out.lt⟩
  go_wp2_with fail
  refine (rall_to _ 2 2 [a0, a1] true _ HA2.out rfl (by decide) E5.out).mono ?_
  rintro e _ ⟨rfl, rfl⟩
  go_wp2_with fail
  refine (rall_to ua uc undone.length undone false _ HF1.out.undone rfl HF1.out.um (by rw [E3.out]; rfl)).mono ?_
  rintro e _ ⟨rfl, rfl⟩
  go_wp2_with fail
  go_ret
  exact ⟨rfl, K1.out⟩
set_option linter.unusedSimpArgs false in
set_option maxRecDepth 100000 in
set_option maxHeartbeats 16000000 in
theorem ov_y (o : Ord) (a da ua : Option Addr) (c dc uc : Nat) (done undone : List Bool) (asked yes turned a0 a1 shipped d0 d1 acc : Bool) (w : World) (h : FcAt w o a c ⟨done, undone, asked, yes, turned, a0, a1, shipped, d0, d1, acc⟩ da ua) (hc : o.steps.length ≤ c) (hcm : c ≤ maxLen) (em : Fct.may o ⟨done, undone, asked, yes, turned, a0, a1, shipped, d0, d1, acc⟩ = true) (ht : turned = false) (hy : yes = true) (e5 : (a0 && a1) = true) :
    Calls Try.prog 37 #[.agg #[.int .i64 o.id, .int .i64 o.item, .int .i64 o.qty, .int .i64 o.client, .int .i64 o.price, .slice a o.steps.length c], .agg #[.slice da done.length dc, .slice ua undone.length uc, .bool asked, .bool yes, .bool turned, .bool a0, .bool a1, .bool shipped, .bool d0, .bool d1, .bool acc]] w (fun e w' => e = .returned (.bool shipped) ∧ Keeps (fun _ => False) w w') := by
  have HF0 := Kept.mk ((h.alloc (.cells #[.int .i64 o.id, .int .i64 o.item, .int .i64 o.qty, .int .i64 o.client, .int .i64 o.price, .slice a o.steps.length c] 24)).alloc (.cells #[.slice da done.length dc, .slice ua undone.length uc, .bool asked, .bool yes, .bool turned, .bool a0, .bool a1, .bool shipped, .bool d0, .bool d1, .bool acc] 42))
  have HB0 := Kept.mk (Blk.new' (w.alloc (.cells #[.int .i64 o.id, .int .i64 o.item, .int .i64 o.qty, .int .i64 o.client, .int .i64 o.price, .slice a o.steps.length c] 24)) 42 [.slice da done.length dc, .slice ua undone.length uc, .bool asked, .bool yes, .bool turned, .bool a0, .bool a1, .bool shipped, .bool d0, .bool d1, .bool acc] (w.heap.size + 1) (by simp))
  have HO0 := Kept.mk ((Blk.new' w 24 [.int .i64 o.id, .int .i64 o.item, .int .i64 o.qty, .int .i64 o.client, .int .i64 o.price, .slice a o.steps.length c] _ rfl).alloc (.cells #[.slice da done.length dc, .slice ua undone.length uc, .bool asked, .bool yes, .bool turned, .bool a0, .bool a1, .bool shipped, .bool d0, .bool d1, .bool acc] 42))
  have K0 : Kept (Keeps (fun _ => False) w ((w.alloc (.cells #[.int .i64 o.id, .int .i64 o.item, .int .i64 o.qty, .int .i64 o.client, .int .i64 o.price, .slice a o.steps.length c] 24)).alloc (.cells #[.slice da done.length dc, .slice ua undone.length uc, .bool asked, .bool yes, .bool turned, .bool a0, .bool a1, .bool shipped, .bool d0, .bool d1, .bool acc] 42))) := ⟨((Keeps.refl _ w).alloc _).alloc _⟩
  clear h
  subst ht
  subst hy
  have Em := Kept.mk em
  clear em
  have E5 : Kept ((!hasB [a0, a1] false) = true) := ⟨by rw [hasB_twof, e5]; rfl⟩
  clear e5
  go_enter Try.func37, Try.ntmps37
  go_wp2_with fail
  have HC := rmay_to o a da ua c dc uc ⟨done, undone, _, _, _, _, _, _, _, _, _⟩ _ HF0.out hc hcm
  rw [Em.out] at HC
  refine HC.mono ?_
  rintro e w1 ⟨rfl, k1⟩
  clear HC
  have HF1 := Kept.mk (HF0.out.keeps k1)
  have HB1 := Kept.mk (HB0.out.quiet k1)
  have HO1 := Kept.mk (HO0.out.quiet k1)
  have K1 := Kept.mk (K0.out.trans k1)
  clear k1 HF0 HB0 HO0 K0
  obtain ⟨y0, y1, y2, y3, y4, y5, y6, y7, y8, y9, y10⟩ := blk11 HB1.out
  obtain ⟨x0, x1, x2, x3, x4, x5⟩ := blk6 HO1.out
  have HA2 : Kept (BlRow w1 (some ⟨w.heap.size + 1, 5, none⟩) [a0, a1]) := ⟨two_row y5 y6 HB1.out.lt⟩
  have HD2 : Kept (BlRow w1 (some ⟨w.heap.size + 1, 8, none⟩) [d0, d1]) := ⟨two_row y8 y9 HB1.out.lt⟩
  go_wp2_with fail
  refine (rall_to _ 2 2 [a0, a1] true _ HA2.out rfl (by decide) E5.out).mono ?_
  rintro e _ ⟨rfl, rfl⟩
  go_wp2_with fail
  go_ret
  exact ⟨rfl, K1.out⟩
set_option linter.unusedSimpArgs false in
set_option maxRecDepth 100000 in
set_option maxHeartbeats 16000000 in
theorem ov_n (o : Ord) (a da ua : Option Addr) (c dc uc : Nat) (done undone : List Bool) (asked yes turned a0 a1 shipped d0 d1 acc : Bool) (w : World) (h : FcAt w o a c ⟨done, undone, asked, yes, turned, a0, a1, shipped, d0, d1, acc⟩ da ua) (hc : o.steps.length ≤ c) (hcm : c ≤ maxLen) (em : Fct.may o ⟨done, undone, asked, yes, turned, a0, a1, shipped, d0, d1, acc⟩ = true) (ht : turned = false) (hy : yes = false) (e5 : (a0 && a1) = true) :
    Calls Try.prog 37 #[.agg #[.int .i64 o.id, .int .i64 o.item, .int .i64 o.qty, .int .i64 o.client, .int .i64 o.price, .slice a o.steps.length c], .agg #[.slice da done.length dc, .slice ua undone.length uc, .bool asked, .bool yes, .bool turned, .bool a0, .bool a1, .bool shipped, .bool d0, .bool d1, .bool acc]] w (fun e w' => e = .returned (.bool false) ∧ Keeps (fun _ => False) w w') := by
  have HF0 := Kept.mk ((h.alloc (.cells #[.int .i64 o.id, .int .i64 o.item, .int .i64 o.qty, .int .i64 o.client, .int .i64 o.price, .slice a o.steps.length c] 24)).alloc (.cells #[.slice da done.length dc, .slice ua undone.length uc, .bool asked, .bool yes, .bool turned, .bool a0, .bool a1, .bool shipped, .bool d0, .bool d1, .bool acc] 42))
  have HB0 := Kept.mk (Blk.new' (w.alloc (.cells #[.int .i64 o.id, .int .i64 o.item, .int .i64 o.qty, .int .i64 o.client, .int .i64 o.price, .slice a o.steps.length c] 24)) 42 [.slice da done.length dc, .slice ua undone.length uc, .bool asked, .bool yes, .bool turned, .bool a0, .bool a1, .bool shipped, .bool d0, .bool d1, .bool acc] (w.heap.size + 1) (by simp))
  have HO0 := Kept.mk ((Blk.new' w 24 [.int .i64 o.id, .int .i64 o.item, .int .i64 o.qty, .int .i64 o.client, .int .i64 o.price, .slice a o.steps.length c] _ rfl).alloc (.cells #[.slice da done.length dc, .slice ua undone.length uc, .bool asked, .bool yes, .bool turned, .bool a0, .bool a1, .bool shipped, .bool d0, .bool d1, .bool acc] 42))
  have K0 : Kept (Keeps (fun _ => False) w ((w.alloc (.cells #[.int .i64 o.id, .int .i64 o.item, .int .i64 o.qty, .int .i64 o.client, .int .i64 o.price, .slice a o.steps.length c] 24)).alloc (.cells #[.slice da done.length dc, .slice ua undone.length uc, .bool asked, .bool yes, .bool turned, .bool a0, .bool a1, .bool shipped, .bool d0, .bool d1, .bool acc] 42))) := ⟨((Keeps.refl _ w).alloc _).alloc _⟩
  clear h
  subst ht
  subst hy
  have Em := Kept.mk em
  clear em
  have E5 : Kept ((!hasB [a0, a1] false) = true) := ⟨by rw [hasB_twof, e5]; rfl⟩
  clear e5
  go_enter Try.func37, Try.ntmps37
  go_wp2_with fail
  have HC := rmay_to o a da ua c dc uc ⟨done, undone, _, _, _, _, _, _, _, _, _⟩ _ HF0.out hc hcm
  rw [Em.out] at HC
  refine HC.mono ?_
  rintro e w1 ⟨rfl, k1⟩
  clear HC
  have HF1 := Kept.mk (HF0.out.keeps k1)
  have HB1 := Kept.mk (HB0.out.quiet k1)
  have HO1 := Kept.mk (HO0.out.quiet k1)
  have K1 := Kept.mk (K0.out.trans k1)
  clear k1 HF0 HB0 HO0 K0
  obtain ⟨y0, y1, y2, y3, y4, y5, y6, y7, y8, y9, y10⟩ := blk11 HB1.out
  obtain ⟨x0, x1, x2, x3, x4, x5⟩ := blk6 HO1.out
  have HA2 : Kept (BlRow w1 (some ⟨w.heap.size + 1, 5, none⟩) [a0, a1]) := ⟨two_row y5 y6 HB1.out.lt⟩
  have HD2 : Kept (BlRow w1 (some ⟨w.heap.size + 1, 8, none⟩) [d0, d1]) := ⟨two_row y8 y9 HB1.out.lt⟩
  go_wp2_with fail
  refine (rall_to _ 2 2 [a0, a1] true _ HA2.out rfl (by decide) E5.out).mono ?_
  rintro e _ ⟨rfl, rfl⟩
  go_wp2_with fail
  go_ret
  exact ⟨rfl, K1.out⟩
theorem may_not_both {o : Ord} {done undone : List Bool} {asked yes turned a0 a1 shipped d0 d1 acc : Bool} (h : Fct.may o ⟨done, undone, asked, yes, turned, a0, a1, shipped, d0, d1, acc⟩ = true) (ht : turned = true) : yes = false := by
  subst ht
  cases yes with
  | false => rfl
  | true => simp [Fct.may] at h
theorem rover_to (o : Ord) (a da ua : Option Addr) (c dc uc : Nat) (f : Fct) (w : World) (h : FcAt w o a c f da ua) (hc : o.steps.length ≤ c) (hcm : c ≤ maxLen) :
    Calls Try.prog 37 #[.agg #[.int .i64 o.id, .int .i64 o.item, .int .i64 o.qty, .int .i64 o.client, .int .i64 o.price, .slice a o.steps.length c], .agg #[.slice da f.done.length dc, .slice ua f.undone.length uc, .bool f.asked, .bool f.yes, .bool f.turned, .bool f.a0, .bool f.a1, .bool f.shipped, .bool f.d0, .bool f.d1, .bool f.acc]] w (fun e w' => e = .returned (.bool (f.over o)) ∧ Keeps (fun _ => False) w w') := by
  obtain ⟨done, undone, asked, yes, turned, a0, a1, shipped, d0, d1, acc⟩ := f
  cases em : Fct.may o ⟨done, undone, asked, yes, turned, a0, a1, shipped, d0, d1, acc⟩ with
  | false => exact (ov_no o a da ua c dc uc done undone asked yes turned a0 a1 shipped d0 d1 acc w h hc hcm em).mono fun e w' ⟨he, k⟩ => ⟨by rw [he]; simp [Fct.over, em], k⟩
  | true => cases e5 : (a0 && a1) with
    | false => exact (ov_acks o a da ua c dc uc done undone asked yes turned a0 a1 shipped d0 d1 acc w h hc hcm em e5).mono fun e w' ⟨he, k⟩ => ⟨by
        rw [he]
        cases turned <;> cases yes <;> cases asked <;> simp [Fct.over, Fct.ends, em, e5], k⟩
    | true => cases turned with
      | true =>
        have hy := may_not_both em rfl
        cases e3 : hasB undone false with
        | false => exact (ov_t1 o a da ua c dc uc done undone asked yes _ a0 a1 shipped d0 d1 acc w h hc hcm em rfl hy e5 e3).mono fun e w' ⟨he, k⟩ => ⟨by rw [he]; simp [Fct.over, Fct.ends, em, e5, e3], k⟩
        | true => exact (ov_t0 o a da ua c dc uc done undone asked yes _ a0 a1 shipped d0 d1 acc w h hc hcm em rfl hy e5 e3).mono fun e w' ⟨he, k⟩ => ⟨by rw [he]; simp [Fct.over, Fct.ends, em, e5, e3], k⟩
      | false => cases yes with
        | true => exact (ov_y o a da ua c dc uc done undone asked _ _ a0 a1 shipped d0 d1 acc w h hc hcm em rfl rfl e5).mono fun e w' ⟨he, k⟩ => ⟨by rw [he]; cases shipped <;> simp [Fct.over, Fct.ends, em, e5], k⟩
        | false => exact (ov_n o a da ua c dc uc done undone asked _ _ a0 a1 shipped d0 d1 acc w h hc hcm em rfl rfl e5).mono fun e w' ⟨he, k⟩ => ⟨by rw [he]; cases asked <;> simp [Fct.over, Fct.ends, em, e5], k⟩
set_option maxHeartbeats 4000000 in
theorem roover_to (o : Ord) (a da ua : Option Addr) (c dc uc : Nat) (f : Fct) (w : World) (h : FcAt w o a c f da ua) (hc : o.steps.length ≤ c) (hcm : c ≤ maxLen) :
    Calls Try.prog 19 #[.agg #[.int .i64 o.id, .int .i64 o.item, .int .i64 o.qty, .int .i64 o.client, .int .i64 o.price, .slice a o.steps.length c], .agg #[.slice da f.done.length dc, .slice ua f.undone.length uc, .bool f.asked, .bool f.yes, .bool f.turned, .bool f.a0, .bool f.a1, .bool f.shipped, .bool f.d0, .bool f.d1, .bool f.acc]] w (fun e w' => e = .returned (.bool (f.over o)) ∧ Keeps (fun _ => False) w w') := by
  have K0 : Kept (Keeps (fun _ => False) w ((w.alloc (.cells #[.int .i64 o.id, .int .i64 o.item, .int .i64 o.qty, .int .i64 o.client, .int .i64 o.price, .slice a o.steps.length c] 24)).alloc (.cells #[.slice da f.done.length dc, .slice ua f.undone.length uc, .bool f.asked, .bool f.yes, .bool f.turned, .bool f.a0, .bool f.a1, .bool f.shipped, .bool f.d0, .bool f.d1, .bool f.acc] 42))) := ⟨((Keeps.refl _ w).alloc _).alloc _⟩
  have HF := Kept.mk (h.keeps K0.out)
  clear h
  go_enter Try.func19, Try.ntmps19
  go_wp2_with fail
  refine (rover_to o a da ua c dc uc f _ HF.out hc hcm).mono ?_
  rintro e w1 ⟨rfl, k1⟩
  go_wp2_with fail
  go_ret
  exact ⟨rfl, K0.out.trans k1⟩
set_option linter.unusedSimpArgs false in
set_option maxRecDepth 100000 in
set_option maxHeartbeats 16000000 in
theorem st_no (o : Ord) (a da ua : Option Addr) (c dc uc : Nat) (done undone : List Bool) (asked yes turned a0 a1 shipped d0 d1 acc : Bool) (w : World) (h : FcAt w o a c ⟨done, undone, asked, yes, turned, a0, a1, shipped, d0, d1, acc⟩ da ua) (hc : o.steps.length ≤ c) (hcm : c ≤ maxLen) (em : Fct.may o ⟨done, undone, asked, yes, turned, a0, a1, shipped, d0, d1, acc⟩ = false)  :
    Calls Try.prog 17 #[.agg #[.int .i64 o.id, .int .i64 o.item, .int .i64 o.qty, .int .i64 o.client, .int .i64 o.price, .slice a o.steps.length c], .agg #[.slice da done.length dc, .slice ua undone.length uc, .bool asked, .bool yes, .bool turned, .bool a0, .bool a1, .bool shipped, .bool d0, .bool d1, .bool acc]] w (fun e w' => e = .returned (.int .i64 0) ∧ Keeps (fun _ => False) w w') := by
  have HF0 := Kept.mk ((h.alloc (.cells #[.int .i64 o.id, .int .i64 o.item, .int .i64 o.qty, .int .i64 o.client, .int .i64 o.price, .slice a o.steps.length c] 24)).alloc (.cells #[.slice da done.length dc, .slice ua undone.length uc, .bool asked, .bool yes, .bool turned, .bool a0, .bool a1, .bool shipped, .bool d0, .bool d1, .bool acc] 42))
  have HB0 := Kept.mk (Blk.new' (w.alloc (.cells #[.int .i64 o.id, .int .i64 o.item, .int .i64 o.qty, .int .i64 o.client, .int .i64 o.price, .slice a o.steps.length c] 24)) 42 [.slice da done.length dc, .slice ua undone.length uc, .bool asked, .bool yes, .bool turned, .bool a0, .bool a1, .bool shipped, .bool d0, .bool d1, .bool acc] (w.heap.size + 1) (by simp))
  have HO0 := Kept.mk ((Blk.new' w 24 [.int .i64 o.id, .int .i64 o.item, .int .i64 o.qty, .int .i64 o.client, .int .i64 o.price, .slice a o.steps.length c] _ rfl).alloc (.cells #[.slice da done.length dc, .slice ua undone.length uc, .bool asked, .bool yes, .bool turned, .bool a0, .bool a1, .bool shipped, .bool d0, .bool d1, .bool acc] 42))
  have K0 : Kept (Keeps (fun _ => False) w ((w.alloc (.cells #[.int .i64 o.id, .int .i64 o.item, .int .i64 o.qty, .int .i64 o.client, .int .i64 o.price, .slice a o.steps.length c] 24)).alloc (.cells #[.slice da done.length dc, .slice ua undone.length uc, .bool asked, .bool yes, .bool turned, .bool a0, .bool a1, .bool shipped, .bool d0, .bool d1, .bool acc] 42))) := ⟨((Keeps.refl _ w).alloc _).alloc _⟩
  clear h
  have Em := Kept.mk em
  clear em
  go_enter Try.func17, Try.ntmps17
  go_wp2_with fail
  have HC := rmay_to o a da ua c dc uc ⟨done, undone, _, _, _, _, _, _, _, _, _⟩ _ HF0.out hc hcm
  rw [Em.out] at HC
  refine HC.mono ?_
  rintro e w1 ⟨rfl, k1⟩
  clear HC
  have HF1 := Kept.mk (HF0.out.keeps k1)
  have HB1 := Kept.mk (HB0.out.quiet k1)
  have HO1 := Kept.mk (HO0.out.quiet k1)
  have K1 := Kept.mk (K0.out.trans k1)
  clear k1 HF0 HB0 HO0 K0
  obtain ⟨y0, y1, y2, y3, y4, y5, y6, y7, y8, y9, y10⟩ := blk11 HB1.out
  obtain ⟨x0, x1, x2, x3, x4, x5⟩ := blk6 HO1.out
  have HA2 : Kept (BlRow w1 (some ⟨w.heap.size + 1, 5, none⟩) [a0, a1]) := ⟨two_row y5 y6 HB1.out.lt⟩
  have HD2 : Kept (BlRow w1 (some ⟨w.heap.size + 1, 8, none⟩) [d0, d1]) := ⟨two_row y8 y9 HB1.out.lt⟩
  go_wp2_with fail
  go_ret
  exact ⟨rfl, K1.out⟩
set_option linter.unusedSimpArgs false in
set_option maxRecDepth 100000 in
set_option maxHeartbeats 16000000 in
theorem st_dmg (o : Ord) (a da ua : Option Addr) (c dc uc : Nat) (done undone : List Bool) (asked yes turned a0 a1 shipped d0 d1 acc : Bool) (w : World) (h : FcAt w o a c ⟨done, undone, asked, yes, turned, a0, a1, shipped, d0, d1, acc⟩ da ua) (hc : o.steps.length ≤ c) (hcm : c ≤ maxLen) (em : Fct.may o ⟨done, undone, asked, yes, turned, a0, a1, shipped, d0, d1, acc⟩ = true) (hac : acc = false) (e6 : (d0 || d1) = true) :
    Calls Try.prog 17 #[.agg #[.int .i64 o.id, .int .i64 o.item, .int .i64 o.qty, .int .i64 o.client, .int .i64 o.price, .slice a o.steps.length c], .agg #[.slice da done.length dc, .slice ua undone.length uc, .bool asked, .bool yes, .bool turned, .bool a0, .bool a1, .bool shipped, .bool d0, .bool d1, .bool acc]] w (fun e w' => e = .returned (.int .i64 7) ∧ Keeps (fun _ => False) w w') := by
  have HF0 := Kept.mk ((h.alloc (.cells #[.int .i64 o.id, .int .i64 o.item, .int .i64 o.qty, .int .i64 o.client, .int .i64 o.price, .slice a o.steps.length c] 24)).alloc (.cells #[.slice da done.length dc, .slice ua undone.length uc, .bool asked, .bool yes, .bool turned, .bool a0, .bool a1, .bool shipped, .bool d0, .bool d1, .bool acc] 42))
  have HB0 := Kept.mk (Blk.new' (w.alloc (.cells #[.int .i64 o.id, .int .i64 o.item, .int .i64 o.qty, .int .i64 o.client, .int .i64 o.price, .slice a o.steps.length c] 24)) 42 [.slice da done.length dc, .slice ua undone.length uc, .bool asked, .bool yes, .bool turned, .bool a0, .bool a1, .bool shipped, .bool d0, .bool d1, .bool acc] (w.heap.size + 1) (by simp))
  have HO0 := Kept.mk ((Blk.new' w 24 [.int .i64 o.id, .int .i64 o.item, .int .i64 o.qty, .int .i64 o.client, .int .i64 o.price, .slice a o.steps.length c] _ rfl).alloc (.cells #[.slice da done.length dc, .slice ua undone.length uc, .bool asked, .bool yes, .bool turned, .bool a0, .bool a1, .bool shipped, .bool d0, .bool d1, .bool acc] 42))
  have K0 : Kept (Keeps (fun _ => False) w ((w.alloc (.cells #[.int .i64 o.id, .int .i64 o.item, .int .i64 o.qty, .int .i64 o.client, .int .i64 o.price, .slice a o.steps.length c] 24)).alloc (.cells #[.slice da done.length dc, .slice ua undone.length uc, .bool asked, .bool yes, .bool turned, .bool a0, .bool a1, .bool shipped, .bool d0, .bool d1, .bool acc] 42))) := ⟨((Keeps.refl _ w).alloc _).alloc _⟩
  clear h
  subst hac
  have Em := Kept.mk em
  clear em
  have E6 : Kept ((!hasB [d0, d1] true) = false) := ⟨by rw [hasB_two, e6]; rfl⟩
  clear e6
  go_enter Try.func17, Try.ntmps17
  go_wp2_with fail
  have HC := rmay_to o a da ua c dc uc ⟨done, undone, _, _, _, _, _, _, _, _, _⟩ _ HF0.out hc hcm
  rw [Em.out] at HC
  refine HC.mono ?_
  rintro e w1 ⟨rfl, k1⟩
  clear HC
  have HF1 := Kept.mk (HF0.out.keeps k1)
  have HB1 := Kept.mk (HB0.out.quiet k1)
  have HO1 := Kept.mk (HO0.out.quiet k1)
  have K1 := Kept.mk (K0.out.trans k1)
  clear k1 HF0 HB0 HO0 K0
  obtain ⟨y0, y1, y2, y3, y4, y5, y6, y7, y8, y9, y10⟩ := blk11 HB1.out
  obtain ⟨x0, x1, x2, x3, x4, x5⟩ := blk6 HO1.out
  have HA2 : Kept (BlRow w1 (some ⟨w.heap.size + 1, 5, none⟩) [a0, a1]) := ⟨two_row y5 y6 HB1.out.lt⟩
  have HD2 : Kept (BlRow w1 (some ⟨w.heap.size + 1, 8, none⟩) [d0, d1]) := ⟨two_row y8 y9 HB1.out.lt⟩
  go_wp2_with fail
  refine (rnone_to _ 2 2 [d0, d1] false _ HD2.out rfl (by decide) E6.out).mono ?_
  rintro e _ ⟨rfl, rfl⟩
  go_wp2_with fail
  go_ret
  exact ⟨rfl, K1.out⟩
set_option linter.unusedSimpArgs false in
set_option maxRecDepth 100000 in
set_option maxHeartbeats 16000000 in
theorem st_tat (o : Ord) (a da ua : Option Addr) (c dc uc : Nat) (done undone : List Bool) (asked yes turned a0 a1 shipped d0 d1 acc : Bool) (w : World) (h : FcAt w o a c ⟨done, undone, asked, yes, turned, a0, a1, shipped, d0, d1, acc⟩ da ua) (hc : o.steps.length ≤ c) (hcm : c ≤ maxLen) (em : Fct.may o ⟨done, undone, asked, yes, turned, a0, a1, shipped, d0, d1, acc⟩ = true) (ht : turned = true) (e6 : (d0 || d1) = false) (ov : Fct.over o ⟨done, undone, asked, yes, turned, a0, a1, shipped, d0, d1, acc⟩ = true) :
    Calls Try.prog 17 #[.agg #[.int .i64 o.id, .int .i64 o.item, .int .i64 o.qty, .int .i64 o.client, .int .i64 o.price, .slice a o.steps.length c], .agg #[.slice da done.length dc, .slice ua undone.length uc, .bool asked, .bool yes, .bool turned, .bool a0, .bool a1, .bool shipped, .bool d0, .bool d1, .bool acc]] w (fun e w' => e = .returned (.int .i64 6) ∧ Keeps (fun _ => False) w w') := by
  have HF0 := Kept.mk ((h.alloc (.cells #[.int .i64 o.id, .int .i64 o.item, .int .i64 o.qty, .int .i64 o.client, .int .i64 o.price, .slice a o.steps.length c] 24)).alloc (.cells #[.slice da done.length dc, .slice ua undone.length uc, .bool asked, .bool yes, .bool turned, .bool a0, .bool a1, .bool shipped, .bool d0, .bool d1, .bool acc] 42))
  have HB0 := Kept.mk (Blk.new' (w.alloc (.cells #[.int .i64 o.id, .int .i64 o.item, .int .i64 o.qty, .int .i64 o.client, .int .i64 o.price, .slice a o.steps.length c] 24)) 42 [.slice da done.length dc, .slice ua undone.length uc, .bool asked, .bool yes, .bool turned, .bool a0, .bool a1, .bool shipped, .bool d0, .bool d1, .bool acc] (w.heap.size + 1) (by simp))
  have HO0 := Kept.mk ((Blk.new' w 24 [.int .i64 o.id, .int .i64 o.item, .int .i64 o.qty, .int .i64 o.client, .int .i64 o.price, .slice a o.steps.length c] _ rfl).alloc (.cells #[.slice da done.length dc, .slice ua undone.length uc, .bool asked, .bool yes, .bool turned, .bool a0, .bool a1, .bool shipped, .bool d0, .bool d1, .bool acc] 42))
  have K0 : Kept (Keeps (fun _ => False) w ((w.alloc (.cells #[.int .i64 o.id, .int .i64 o.item, .int .i64 o.qty, .int .i64 o.client, .int .i64 o.price, .slice a o.steps.length c] 24)).alloc (.cells #[.slice da done.length dc, .slice ua undone.length uc, .bool asked, .bool yes, .bool turned, .bool a0, .bool a1, .bool shipped, .bool d0, .bool d1, .bool acc] 42))) := ⟨((Keeps.refl _ w).alloc _).alloc _⟩
  clear h
  subst ht
  have Em := Kept.mk em
  clear em
  have E6 : Kept ((!hasB [d0, d1] true) = true) := ⟨by rw [hasB_two, e6]; rfl⟩
  clear e6
  have Ov := Kept.mk ov
  clear ov
  go_enter Try.func17, Try.ntmps17
  go_wp2_with fail
  have HC := rmay_to o a da ua c dc uc ⟨done, undone, _, _, _, _, _, _, _, _, _⟩ _ HF0.out hc hcm
  rw [Em.out] at HC
  refine HC.mono ?_
  rintro e w1 ⟨rfl, k1⟩
  clear HC
  have HF1 := Kept.mk (HF0.out.keeps k1)
  have HB1 := Kept.mk (HB0.out.quiet k1)
  have HO1 := Kept.mk (HO0.out.quiet k1)
  have K1 := Kept.mk (K0.out.trans k1)
  clear k1 HF0 HB0 HO0 K0
  obtain ⟨y0, y1, y2, y3, y4, y5, y6, y7, y8, y9, y10⟩ := blk11 HB1.out
  obtain ⟨x0, x1, x2, x3, x4, x5⟩ := blk6 HO1.out
  have HA2 : Kept (BlRow w1 (some ⟨w.heap.size + 1, 5, none⟩) [a0, a1]) := ⟨two_row y5 y6 HB1.out.lt⟩
  have HD2 : Kept (BlRow w1 (some ⟨w.heap.size + 1, 8, none⟩) [d0, d1]) := ⟨two_row y8 y9 HB1.out.lt⟩
  go_wp2_with fail
  refine (rnone_to _ 2 2 [d0, d1] true _ HD2.out rfl (by decide) E6.out).mono ?_
  rintro e _ ⟨rfl, rfl⟩
  go_wp2_with fail
  have HC2 := rover_to o a da ua c dc uc ⟨done, undone, _, _, _, _, _, _, _, _, _⟩ _ HF1.out hc hcm
  rw [Ov.out] at HC2
  refine HC2.mono ?_
  rintro e w2 ⟨rfl, k2⟩
  clear HC2 HA2 HD2
  have HF2 := Kept.mk (HF1.out.keeps k2)
  have HB2 := Kept.mk (HB1.out.quiet k2)
  have HO2 := Kept.mk (HO1.out.quiet k2)
  have K2 := Kept.mk (K1.out.trans k2)
  clear k2 HF1 HB1 HO1 K1
  clear y0 y1 y2 y3 y4 y5 y6 y7 y8 y9 y10 x0 x1 x2 x3 x4 x5
  obtain ⟨y0, y1, y2, y3, y4, y5, y6, y7, y8, y9, y10⟩ := blk11 HB2.out
  obtain ⟨x0, x1, x2, x3, x4, x5⟩ := blk6 HO2.out
  go_wp2_with fail
  go_ret
  exact ⟨rfl, K2.out⟩
set_option linter.unusedSimpArgs false in
set_option maxRecDepth 100000 in
set_option maxHeartbeats 16000000 in
theorem st_taf (o : Ord) (a da ua : Option Addr) (c dc uc : Nat) (done undone : List Bool) (asked yes turned a0 a1 shipped d0 d1 acc : Bool) (w : World) (h : FcAt w o a c ⟨done, undone, asked, yes, turned, a0, a1, shipped, d0, d1, acc⟩ da ua) (hc : o.steps.length ≤ c) (hcm : c ≤ maxLen) (em : Fct.may o ⟨done, undone, asked, yes, turned, a0, a1, shipped, d0, d1, acc⟩ = true) (ht : turned = true) (e6 : (d0 || d1) = false) (ov : Fct.over o ⟨done, undone, asked, yes, turned, a0, a1, shipped, d0, d1, acc⟩ = false) :
    Calls Try.prog 17 #[.agg #[.int .i64 o.id, .int .i64 o.item, .int .i64 o.qty, .int .i64 o.client, .int .i64 o.price, .slice a o.steps.length c], .agg #[.slice da done.length dc, .slice ua undone.length uc, .bool asked, .bool yes, .bool turned, .bool a0, .bool a1, .bool shipped, .bool d0, .bool d1, .bool acc]] w (fun e w' => e = .returned (.int .i64 4) ∧ Keeps (fun _ => False) w w') := by
  have HF0 := Kept.mk ((h.alloc (.cells #[.int .i64 o.id, .int .i64 o.item, .int .i64 o.qty, .int .i64 o.client, .int .i64 o.price, .slice a o.steps.length c] 24)).alloc (.cells #[.slice da done.length dc, .slice ua undone.length uc, .bool asked, .bool yes, .bool turned, .bool a0, .bool a1, .bool shipped, .bool d0, .bool d1, .bool acc] 42))
  have HB0 := Kept.mk (Blk.new' (w.alloc (.cells #[.int .i64 o.id, .int .i64 o.item, .int .i64 o.qty, .int .i64 o.client, .int .i64 o.price, .slice a o.steps.length c] 24)) 42 [.slice da done.length dc, .slice ua undone.length uc, .bool asked, .bool yes, .bool turned, .bool a0, .bool a1, .bool shipped, .bool d0, .bool d1, .bool acc] (w.heap.size + 1) (by simp))
  have HO0 := Kept.mk ((Blk.new' w 24 [.int .i64 o.id, .int .i64 o.item, .int .i64 o.qty, .int .i64 o.client, .int .i64 o.price, .slice a o.steps.length c] _ rfl).alloc (.cells #[.slice da done.length dc, .slice ua undone.length uc, .bool asked, .bool yes, .bool turned, .bool a0, .bool a1, .bool shipped, .bool d0, .bool d1, .bool acc] 42))
  have K0 : Kept (Keeps (fun _ => False) w ((w.alloc (.cells #[.int .i64 o.id, .int .i64 o.item, .int .i64 o.qty, .int .i64 o.client, .int .i64 o.price, .slice a o.steps.length c] 24)).alloc (.cells #[.slice da done.length dc, .slice ua undone.length uc, .bool asked, .bool yes, .bool turned, .bool a0, .bool a1, .bool shipped, .bool d0, .bool d1, .bool acc] 42))) := ⟨((Keeps.refl _ w).alloc _).alloc _⟩
  clear h
  subst ht
  have Em := Kept.mk em
  clear em
  have E6 : Kept ((!hasB [d0, d1] true) = true) := ⟨by rw [hasB_two, e6]; rfl⟩
  clear e6
  have Ov := Kept.mk ov
  clear ov
  go_enter Try.func17, Try.ntmps17
  go_wp2_with fail
  have HC := rmay_to o a da ua c dc uc ⟨done, undone, _, _, _, _, _, _, _, _, _⟩ _ HF0.out hc hcm
  rw [Em.out] at HC
  refine HC.mono ?_
  rintro e w1 ⟨rfl, k1⟩
  clear HC
  have HF1 := Kept.mk (HF0.out.keeps k1)
  have HB1 := Kept.mk (HB0.out.quiet k1)
  have HO1 := Kept.mk (HO0.out.quiet k1)
  have K1 := Kept.mk (K0.out.trans k1)
  clear k1 HF0 HB0 HO0 K0
  obtain ⟨y0, y1, y2, y3, y4, y5, y6, y7, y8, y9, y10⟩ := blk11 HB1.out
  obtain ⟨x0, x1, x2, x3, x4, x5⟩ := blk6 HO1.out
  have HA2 : Kept (BlRow w1 (some ⟨w.heap.size + 1, 5, none⟩) [a0, a1]) := ⟨two_row y5 y6 HB1.out.lt⟩
  have HD2 : Kept (BlRow w1 (some ⟨w.heap.size + 1, 8, none⟩) [d0, d1]) := ⟨two_row y8 y9 HB1.out.lt⟩
  go_wp2_with fail
  refine (rnone_to _ 2 2 [d0, d1] true _ HD2.out rfl (by decide) E6.out).mono ?_
  rintro e _ ⟨rfl, rfl⟩
  go_wp2_with fail
  have HC2 := rover_to o a da ua c dc uc ⟨done, undone, _, _, _, _, _, _, _, _, _⟩ _ HF1.out hc hcm
  rw [Ov.out] at HC2
  refine HC2.mono ?_
  rintro e w2 ⟨rfl, k2⟩
  clear HC2 HA2 HD2
  have HF2 := Kept.mk (HF1.out.keeps k2)
  have HB2 := Kept.mk (HB1.out.quiet k2)
  have HO2 := Kept.mk (HO1.out.quiet k2)
  have K2 := Kept.mk (K1.out.trans k2)
  clear k2 HF1 HB1 HO1 K1
  clear y0 y1 y2 y3 y4 y5 y6 y7 y8 y9 y10 x0 x1 x2 x3 x4 x5
  obtain ⟨y0, y1, y2, y3, y4, y5, y6, y7, y8, y9, y10⟩ := blk11 HB2.out
  obtain ⟨x0, x1, x2, x3, x4, x5⟩ := blk6 HO2.out
  go_wp2_with fail
  go_ret
  exact ⟨rfl, K2.out⟩
set_option linter.unusedSimpArgs false in
set_option maxRecDepth 100000 in
set_option maxHeartbeats 16000000 in
theorem st_yat (o : Ord) (a da ua : Option Addr) (c dc uc : Nat) (done undone : List Bool) (asked yes turned a0 a1 shipped d0 d1 acc : Bool) (w : World) (h : FcAt w o a c ⟨done, undone, asked, yes, turned, a0, a1, shipped, d0, d1, acc⟩ da ua) (hc : o.steps.length ≤ c) (hcm : c ≤ maxLen) (em : Fct.may o ⟨done, undone, asked, yes, turned, a0, a1, shipped, d0, d1, acc⟩ = true) (ht : turned = false) (hy : yes = true) (e6 : (d0 || d1) = false) (ov : Fct.over o ⟨done, undone, asked, yes, turned, a0, a1, shipped, d0, d1, acc⟩ = true) :
    Calls Try.prog 17 #[.agg #[.int .i64 o.id, .int .i64 o.item, .int .i64 o.qty, .int .i64 o.client, .int .i64 o.price, .slice a o.steps.length c], .agg #[.slice da done.length dc, .slice ua undone.length uc, .bool asked, .bool yes, .bool turned, .bool a0, .bool a1, .bool shipped, .bool d0, .bool d1, .bool acc]] w (fun e w' => e = .returned (.int .i64 5) ∧ Keeps (fun _ => False) w w') := by
  have HF0 := Kept.mk ((h.alloc (.cells #[.int .i64 o.id, .int .i64 o.item, .int .i64 o.qty, .int .i64 o.client, .int .i64 o.price, .slice a o.steps.length c] 24)).alloc (.cells #[.slice da done.length dc, .slice ua undone.length uc, .bool asked, .bool yes, .bool turned, .bool a0, .bool a1, .bool shipped, .bool d0, .bool d1, .bool acc] 42))
  have HB0 := Kept.mk (Blk.new' (w.alloc (.cells #[.int .i64 o.id, .int .i64 o.item, .int .i64 o.qty, .int .i64 o.client, .int .i64 o.price, .slice a o.steps.length c] 24)) 42 [.slice da done.length dc, .slice ua undone.length uc, .bool asked, .bool yes, .bool turned, .bool a0, .bool a1, .bool shipped, .bool d0, .bool d1, .bool acc] (w.heap.size + 1) (by simp))
  have HO0 := Kept.mk ((Blk.new' w 24 [.int .i64 o.id, .int .i64 o.item, .int .i64 o.qty, .int .i64 o.client, .int .i64 o.price, .slice a o.steps.length c] _ rfl).alloc (.cells #[.slice da done.length dc, .slice ua undone.length uc, .bool asked, .bool yes, .bool turned, .bool a0, .bool a1, .bool shipped, .bool d0, .bool d1, .bool acc] 42))
  have K0 : Kept (Keeps (fun _ => False) w ((w.alloc (.cells #[.int .i64 o.id, .int .i64 o.item, .int .i64 o.qty, .int .i64 o.client, .int .i64 o.price, .slice a o.steps.length c] 24)).alloc (.cells #[.slice da done.length dc, .slice ua undone.length uc, .bool asked, .bool yes, .bool turned, .bool a0, .bool a1, .bool shipped, .bool d0, .bool d1, .bool acc] 42))) := ⟨((Keeps.refl _ w).alloc _).alloc _⟩
  clear h
  subst ht
  subst hy
  have Em := Kept.mk em
  clear em
  have E6 : Kept ((!hasB [d0, d1] true) = true) := ⟨by rw [hasB_two, e6]; rfl⟩
  clear e6
  have Ov := Kept.mk ov
  clear ov
  go_enter Try.func17, Try.ntmps17
  go_wp2_with fail
  have HC := rmay_to o a da ua c dc uc ⟨done, undone, _, _, _, _, _, _, _, _, _⟩ _ HF0.out hc hcm
  rw [Em.out] at HC
  refine HC.mono ?_
  rintro e w1 ⟨rfl, k1⟩
  clear HC
  have HF1 := Kept.mk (HF0.out.keeps k1)
  have HB1 := Kept.mk (HB0.out.quiet k1)
  have HO1 := Kept.mk (HO0.out.quiet k1)
  have K1 := Kept.mk (K0.out.trans k1)
  clear k1 HF0 HB0 HO0 K0
  obtain ⟨y0, y1, y2, y3, y4, y5, y6, y7, y8, y9, y10⟩ := blk11 HB1.out
  obtain ⟨x0, x1, x2, x3, x4, x5⟩ := blk6 HO1.out
  have HA2 : Kept (BlRow w1 (some ⟨w.heap.size + 1, 5, none⟩) [a0, a1]) := ⟨two_row y5 y6 HB1.out.lt⟩
  have HD2 : Kept (BlRow w1 (some ⟨w.heap.size + 1, 8, none⟩) [d0, d1]) := ⟨two_row y8 y9 HB1.out.lt⟩
  go_wp2_with fail
  refine (rnone_to _ 2 2 [d0, d1] true _ HD2.out rfl (by decide) E6.out).mono ?_
  rintro e _ ⟨rfl, rfl⟩
  go_wp2_with fail
  have HC2 := rover_to o a da ua c dc uc ⟨done, undone, _, _, _, _, _, _, _, _, _⟩ _ HF1.out hc hcm
  rw [Ov.out] at HC2
  refine HC2.mono ?_
  rintro e w2 ⟨rfl, k2⟩
  clear HC2 HA2 HD2
  have HF2 := Kept.mk (HF1.out.keeps k2)
  have HB2 := Kept.mk (HB1.out.quiet k2)
  have HO2 := Kept.mk (HO1.out.quiet k2)
  have K2 := Kept.mk (K1.out.trans k2)
  clear k2 HF1 HB1 HO1 K1
  clear y0 y1 y2 y3 y4 y5 y6 y7 y8 y9 y10 x0 x1 x2 x3 x4 x5
  obtain ⟨y0, y1, y2, y3, y4, y5, y6, y7, y8, y9, y10⟩ := blk11 HB2.out
  obtain ⟨x0, x1, x2, x3, x4, x5⟩ := blk6 HO2.out
  go_wp2_with fail
  go_ret
  exact ⟨rfl, K2.out⟩
set_option linter.unusedSimpArgs false in
set_option maxRecDepth 100000 in
set_option maxHeartbeats 16000000 in
theorem st_yaf (o : Ord) (a da ua : Option Addr) (c dc uc : Nat) (done undone : List Bool) (asked yes turned a0 a1 shipped d0 d1 acc : Bool) (w : World) (h : FcAt w o a c ⟨done, undone, asked, yes, turned, a0, a1, shipped, d0, d1, acc⟩ da ua) (hc : o.steps.length ≤ c) (hcm : c ≤ maxLen) (em : Fct.may o ⟨done, undone, asked, yes, turned, a0, a1, shipped, d0, d1, acc⟩ = true) (ht : turned = false) (hy : yes = true) (e6 : (d0 || d1) = false) (ov : Fct.over o ⟨done, undone, asked, yes, turned, a0, a1, shipped, d0, d1, acc⟩ = false) :
    Calls Try.prog 17 #[.agg #[.int .i64 o.id, .int .i64 o.item, .int .i64 o.qty, .int .i64 o.client, .int .i64 o.price, .slice a o.steps.length c], .agg #[.slice da done.length dc, .slice ua undone.length uc, .bool asked, .bool yes, .bool turned, .bool a0, .bool a1, .bool shipped, .bool d0, .bool d1, .bool acc]] w (fun e w' => e = .returned (.int .i64 3) ∧ Keeps (fun _ => False) w w') := by
  have HF0 := Kept.mk ((h.alloc (.cells #[.int .i64 o.id, .int .i64 o.item, .int .i64 o.qty, .int .i64 o.client, .int .i64 o.price, .slice a o.steps.length c] 24)).alloc (.cells #[.slice da done.length dc, .slice ua undone.length uc, .bool asked, .bool yes, .bool turned, .bool a0, .bool a1, .bool shipped, .bool d0, .bool d1, .bool acc] 42))
  have HB0 := Kept.mk (Blk.new' (w.alloc (.cells #[.int .i64 o.id, .int .i64 o.item, .int .i64 o.qty, .int .i64 o.client, .int .i64 o.price, .slice a o.steps.length c] 24)) 42 [.slice da done.length dc, .slice ua undone.length uc, .bool asked, .bool yes, .bool turned, .bool a0, .bool a1, .bool shipped, .bool d0, .bool d1, .bool acc] (w.heap.size + 1) (by simp))
  have HO0 := Kept.mk ((Blk.new' w 24 [.int .i64 o.id, .int .i64 o.item, .int .i64 o.qty, .int .i64 o.client, .int .i64 o.price, .slice a o.steps.length c] _ rfl).alloc (.cells #[.slice da done.length dc, .slice ua undone.length uc, .bool asked, .bool yes, .bool turned, .bool a0, .bool a1, .bool shipped, .bool d0, .bool d1, .bool acc] 42))
  have K0 : Kept (Keeps (fun _ => False) w ((w.alloc (.cells #[.int .i64 o.id, .int .i64 o.item, .int .i64 o.qty, .int .i64 o.client, .int .i64 o.price, .slice a o.steps.length c] 24)).alloc (.cells #[.slice da done.length dc, .slice ua undone.length uc, .bool asked, .bool yes, .bool turned, .bool a0, .bool a1, .bool shipped, .bool d0, .bool d1, .bool acc] 42))) := ⟨((Keeps.refl _ w).alloc _).alloc _⟩
  clear h
  subst ht
  subst hy
  have Em := Kept.mk em
  clear em
  have E6 : Kept ((!hasB [d0, d1] true) = true) := ⟨by rw [hasB_two, e6]; rfl⟩
  clear e6
  have Ov := Kept.mk ov
  clear ov
  go_enter Try.func17, Try.ntmps17
  go_wp2_with fail
  have HC := rmay_to o a da ua c dc uc ⟨done, undone, _, _, _, _, _, _, _, _, _⟩ _ HF0.out hc hcm
  rw [Em.out] at HC
  refine HC.mono ?_
  rintro e w1 ⟨rfl, k1⟩
  clear HC
  have HF1 := Kept.mk (HF0.out.keeps k1)
  have HB1 := Kept.mk (HB0.out.quiet k1)
  have HO1 := Kept.mk (HO0.out.quiet k1)
  have K1 := Kept.mk (K0.out.trans k1)
  clear k1 HF0 HB0 HO0 K0
  obtain ⟨y0, y1, y2, y3, y4, y5, y6, y7, y8, y9, y10⟩ := blk11 HB1.out
  obtain ⟨x0, x1, x2, x3, x4, x5⟩ := blk6 HO1.out
  have HA2 : Kept (BlRow w1 (some ⟨w.heap.size + 1, 5, none⟩) [a0, a1]) := ⟨two_row y5 y6 HB1.out.lt⟩
  have HD2 : Kept (BlRow w1 (some ⟨w.heap.size + 1, 8, none⟩) [d0, d1]) := ⟨two_row y8 y9 HB1.out.lt⟩
  go_wp2_with fail
  refine (rnone_to _ 2 2 [d0, d1] true _ HD2.out rfl (by decide) E6.out).mono ?_
  rintro e _ ⟨rfl, rfl⟩
  go_wp2_with fail
  have HC2 := rover_to o a da ua c dc uc ⟨done, undone, _, _, _, _, _, _, _, _, _⟩ _ HF1.out hc hcm
  rw [Ov.out] at HC2
  refine HC2.mono ?_
  rintro e w2 ⟨rfl, k2⟩
  clear HC2 HA2 HD2
  have HF2 := Kept.mk (HF1.out.keeps k2)
  have HB2 := Kept.mk (HB1.out.quiet k2)
  have HO2 := Kept.mk (HO1.out.quiet k2)
  have K2 := Kept.mk (K1.out.trans k2)
  clear k2 HF1 HB1 HO1 K1
  clear y0 y1 y2 y3 y4 y5 y6 y7 y8 y9 y10 x0 x1 x2 x3 x4 x5
  obtain ⟨y0, y1, y2, y3, y4, y5, y6, y7, y8, y9, y10⟩ := blk11 HB2.out
  obtain ⟨x0, x1, x2, x3, x4, x5⟩ := blk6 HO2.out
  go_wp2_with fail
  go_ret
  exact ⟨rfl, K2.out⟩
set_option linter.unusedSimpArgs false in
set_option maxRecDepth 100000 in
set_option maxHeartbeats 16000000 in
theorem st_nat (o : Ord) (a da ua : Option Addr) (c dc uc : Nat) (done undone : List Bool) (asked yes turned a0 a1 shipped d0 d1 acc : Bool) (w : World) (h : FcAt w o a c ⟨done, undone, asked, yes, turned, a0, a1, shipped, d0, d1, acc⟩ da ua) (hc : o.steps.length ≤ c) (hcm : c ≤ maxLen) (em : Fct.may o ⟨done, undone, asked, yes, turned, a0, a1, shipped, d0, d1, acc⟩ = true) (ht : turned = false) (hy : yes = false) (hk : asked = true) (e6 : (d0 || d1) = false) :
    Calls Try.prog 17 #[.agg #[.int .i64 o.id, .int .i64 o.item, .int .i64 o.qty, .int .i64 o.client, .int .i64 o.price, .slice a o.steps.length c], .agg #[.slice da done.length dc, .slice ua undone.length uc, .bool asked, .bool yes, .bool turned, .bool a0, .bool a1, .bool shipped, .bool d0, .bool d1, .bool acc]] w (fun e w' => e = .returned (.int .i64 2) ∧ Keeps (fun _ => False) w w') := by
  have HF0 := Kept.mk ((h.alloc (.cells #[.int .i64 o.id, .int .i64 o.item, .int .i64 o.qty, .int .i64 o.client, .int .i64 o.price, .slice a o.steps.length c] 24)).alloc (.cells #[.slice da done.length dc, .slice ua undone.length uc, .bool asked, .bool yes, .bool turned, .bool a0, .bool a1, .bool shipped, .bool d0, .bool d1, .bool acc] 42))
  have HB0 := Kept.mk (Blk.new' (w.alloc (.cells #[.int .i64 o.id, .int .i64 o.item, .int .i64 o.qty, .int .i64 o.client, .int .i64 o.price, .slice a o.steps.length c] 24)) 42 [.slice da done.length dc, .slice ua undone.length uc, .bool asked, .bool yes, .bool turned, .bool a0, .bool a1, .bool shipped, .bool d0, .bool d1, .bool acc] (w.heap.size + 1) (by simp))
  have HO0 := Kept.mk ((Blk.new' w 24 [.int .i64 o.id, .int .i64 o.item, .int .i64 o.qty, .int .i64 o.client, .int .i64 o.price, .slice a o.steps.length c] _ rfl).alloc (.cells #[.slice da done.length dc, .slice ua undone.length uc, .bool asked, .bool yes, .bool turned, .bool a0, .bool a1, .bool shipped, .bool d0, .bool d1, .bool acc] 42))
  have K0 : Kept (Keeps (fun _ => False) w ((w.alloc (.cells #[.int .i64 o.id, .int .i64 o.item, .int .i64 o.qty, .int .i64 o.client, .int .i64 o.price, .slice a o.steps.length c] 24)).alloc (.cells #[.slice da done.length dc, .slice ua undone.length uc, .bool asked, .bool yes, .bool turned, .bool a0, .bool a1, .bool shipped, .bool d0, .bool d1, .bool acc] 42))) := ⟨((Keeps.refl _ w).alloc _).alloc _⟩
  clear h
  subst ht
  subst hy
  subst hk
  have Em := Kept.mk em
  clear em
  have E6 : Kept ((!hasB [d0, d1] true) = true) := ⟨by rw [hasB_two, e6]; rfl⟩
  clear e6
  go_enter Try.func17, Try.ntmps17
  go_wp2_with fail
  have HC := rmay_to o a da ua c dc uc ⟨done, undone, _, _, _, _, _, _, _, _, _⟩ _ HF0.out hc hcm
  rw [Em.out] at HC
  refine HC.mono ?_
  rintro e w1 ⟨rfl, k1⟩
  clear HC
  have HF1 := Kept.mk (HF0.out.keeps k1)
  have HB1 := Kept.mk (HB0.out.quiet k1)
  have HO1 := Kept.mk (HO0.out.quiet k1)
  have K1 := Kept.mk (K0.out.trans k1)
  clear k1 HF0 HB0 HO0 K0
  obtain ⟨y0, y1, y2, y3, y4, y5, y6, y7, y8, y9, y10⟩ := blk11 HB1.out
  obtain ⟨x0, x1, x2, x3, x4, x5⟩ := blk6 HO1.out
  have HA2 : Kept (BlRow w1 (some ⟨w.heap.size + 1, 5, none⟩) [a0, a1]) := ⟨two_row y5 y6 HB1.out.lt⟩
  have HD2 : Kept (BlRow w1 (some ⟨w.heap.size + 1, 8, none⟩) [d0, d1]) := ⟨two_row y8 y9 HB1.out.lt⟩
  go_wp2_with fail
  refine (rnone_to _ 2 2 [d0, d1] true _ HD2.out rfl (by decide) E6.out).mono ?_
  rintro e _ ⟨rfl, rfl⟩
  go_wp2_with fail
  go_ret
  exact ⟨rfl, K1.out⟩
set_option linter.unusedSimpArgs false in
set_option maxRecDepth 100000 in
set_option maxHeartbeats 16000000 in
theorem st_naf (o : Ord) (a da ua : Option Addr) (c dc uc : Nat) (done undone : List Bool) (asked yes turned a0 a1 shipped d0 d1 acc : Bool) (w : World) (h : FcAt w o a c ⟨done, undone, asked, yes, turned, a0, a1, shipped, d0, d1, acc⟩ da ua) (hc : o.steps.length ≤ c) (hcm : c ≤ maxLen) (em : Fct.may o ⟨done, undone, asked, yes, turned, a0, a1, shipped, d0, d1, acc⟩ = true) (ht : turned = false) (hy : yes = false) (hk : asked = false) (e6 : (d0 || d1) = false) :
    Calls Try.prog 17 #[.agg #[.int .i64 o.id, .int .i64 o.item, .int .i64 o.qty, .int .i64 o.client, .int .i64 o.price, .slice a o.steps.length c], .agg #[.slice da done.length dc, .slice ua undone.length uc, .bool asked, .bool yes, .bool turned, .bool a0, .bool a1, .bool shipped, .bool d0, .bool d1, .bool acc]] w (fun e w' => e = .returned (.int .i64 1) ∧ Keeps (fun _ => False) w w') := by
  have HF0 := Kept.mk ((h.alloc (.cells #[.int .i64 o.id, .int .i64 o.item, .int .i64 o.qty, .int .i64 o.client, .int .i64 o.price, .slice a o.steps.length c] 24)).alloc (.cells #[.slice da done.length dc, .slice ua undone.length uc, .bool asked, .bool yes, .bool turned, .bool a0, .bool a1, .bool shipped, .bool d0, .bool d1, .bool acc] 42))
  have HB0 := Kept.mk (Blk.new' (w.alloc (.cells #[.int .i64 o.id, .int .i64 o.item, .int .i64 o.qty, .int .i64 o.client, .int .i64 o.price, .slice a o.steps.length c] 24)) 42 [.slice da done.length dc, .slice ua undone.length uc, .bool asked, .bool yes, .bool turned, .bool a0, .bool a1, .bool shipped, .bool d0, .bool d1, .bool acc] (w.heap.size + 1) (by simp))
  have HO0 := Kept.mk ((Blk.new' w 24 [.int .i64 o.id, .int .i64 o.item, .int .i64 o.qty, .int .i64 o.client, .int .i64 o.price, .slice a o.steps.length c] _ rfl).alloc (.cells #[.slice da done.length dc, .slice ua undone.length uc, .bool asked, .bool yes, .bool turned, .bool a0, .bool a1, .bool shipped, .bool d0, .bool d1, .bool acc] 42))
  have K0 : Kept (Keeps (fun _ => False) w ((w.alloc (.cells #[.int .i64 o.id, .int .i64 o.item, .int .i64 o.qty, .int .i64 o.client, .int .i64 o.price, .slice a o.steps.length c] 24)).alloc (.cells #[.slice da done.length dc, .slice ua undone.length uc, .bool asked, .bool yes, .bool turned, .bool a0, .bool a1, .bool shipped, .bool d0, .bool d1, .bool acc] 42))) := ⟨((Keeps.refl _ w).alloc _).alloc _⟩
  clear h
  subst ht
  subst hy
  subst hk
  have Em := Kept.mk em
  clear em
  have E6 : Kept ((!hasB [d0, d1] true) = true) := ⟨by rw [hasB_two, e6]; rfl⟩
  clear e6
  go_enter Try.func17, Try.ntmps17
  go_wp2_with fail
  have HC := rmay_to o a da ua c dc uc ⟨done, undone, _, _, _, _, _, _, _, _, _⟩ _ HF0.out hc hcm
  rw [Em.out] at HC
  refine HC.mono ?_
  rintro e w1 ⟨rfl, k1⟩
  clear HC
  have HF1 := Kept.mk (HF0.out.keeps k1)
  have HB1 := Kept.mk (HB0.out.quiet k1)
  have HO1 := Kept.mk (HO0.out.quiet k1)
  have K1 := Kept.mk (K0.out.trans k1)
  clear k1 HF0 HB0 HO0 K0
  obtain ⟨y0, y1, y2, y3, y4, y5, y6, y7, y8, y9, y10⟩ := blk11 HB1.out
  obtain ⟨x0, x1, x2, x3, x4, x5⟩ := blk6 HO1.out
  have HA2 : Kept (BlRow w1 (some ⟨w.heap.size + 1, 5, none⟩) [a0, a1]) := ⟨two_row y5 y6 HB1.out.lt⟩
  have HD2 : Kept (BlRow w1 (some ⟨w.heap.size + 1, 8, none⟩) [d0, d1]) := ⟨two_row y8 y9 HB1.out.lt⟩
  go_wp2_with fail
  refine (rnone_to _ 2 2 [d0, d1] true _ HD2.out rfl (by decide) E6.out).mono ?_
  rintro e _ ⟨rfl, rfl⟩
  go_wp2_with fail
  go_ret
  exact ⟨rfl, K1.out⟩
set_option linter.unusedSimpArgs false in
set_option maxRecDepth 100000 in
set_option maxHeartbeats 16000000 in
theorem st_tbt (o : Ord) (a da ua : Option Addr) (c dc uc : Nat) (done undone : List Bool) (asked yes turned a0 a1 shipped d0 d1 acc : Bool) (w : World) (h : FcAt w o a c ⟨done, undone, asked, yes, turned, a0, a1, shipped, d0, d1, acc⟩ da ua) (hc : o.steps.length ≤ c) (hcm : c ≤ maxLen) (em : Fct.may o ⟨done, undone, asked, yes, turned, a0, a1, shipped, d0, d1, acc⟩ = true) (ht : turned = true) (hac : acc = true) (e6 : (d0 || d1) = true) (ov : Fct.over o ⟨done, undone, asked, yes, turned, a0, a1, shipped, d0, d1, acc⟩ = true) :
    Calls Try.prog 17 #[.agg #[.int .i64 o.id, .int .i64 o.item, .int .i64 o.qty, .int .i64 o.client, .int .i64 o.price, .slice a o.steps.length c], .agg #[.slice da done.length dc, .slice ua undone.length uc, .bool asked, .bool yes, .bool turned, .bool a0, .bool a1, .bool shipped, .bool d0, .bool d1, .bool acc]] w (fun e w' => e = .returned (.int .i64 6) ∧ Keeps (fun _ => False) w w') := by
  have HF0 := Kept.mk ((h.alloc (.cells #[.int .i64 o.id, .int .i64 o.item, .int .i64 o.qty, .int .i64 o.client, .int .i64 o.price, .slice a o.steps.length c] 24)).alloc (.cells #[.slice da done.length dc, .slice ua undone.length uc, .bool asked, .bool yes, .bool turned, .bool a0, .bool a1, .bool shipped, .bool d0, .bool d1, .bool acc] 42))
  have HB0 := Kept.mk (Blk.new' (w.alloc (.cells #[.int .i64 o.id, .int .i64 o.item, .int .i64 o.qty, .int .i64 o.client, .int .i64 o.price, .slice a o.steps.length c] 24)) 42 [.slice da done.length dc, .slice ua undone.length uc, .bool asked, .bool yes, .bool turned, .bool a0, .bool a1, .bool shipped, .bool d0, .bool d1, .bool acc] (w.heap.size + 1) (by simp))
  have HO0 := Kept.mk ((Blk.new' w 24 [.int .i64 o.id, .int .i64 o.item, .int .i64 o.qty, .int .i64 o.client, .int .i64 o.price, .slice a o.steps.length c] _ rfl).alloc (.cells #[.slice da done.length dc, .slice ua undone.length uc, .bool asked, .bool yes, .bool turned, .bool a0, .bool a1, .bool shipped, .bool d0, .bool d1, .bool acc] 42))
  have K0 : Kept (Keeps (fun _ => False) w ((w.alloc (.cells #[.int .i64 o.id, .int .i64 o.item, .int .i64 o.qty, .int .i64 o.client, .int .i64 o.price, .slice a o.steps.length c] 24)).alloc (.cells #[.slice da done.length dc, .slice ua undone.length uc, .bool asked, .bool yes, .bool turned, .bool a0, .bool a1, .bool shipped, .bool d0, .bool d1, .bool acc] 42))) := ⟨((Keeps.refl _ w).alloc _).alloc _⟩
  clear h
  subst ht
  subst hac
  have Em := Kept.mk em
  clear em
  have E6 : Kept ((!hasB [d0, d1] true) = false) := ⟨by rw [hasB_two, e6]; rfl⟩
  clear e6
  have Ov := Kept.mk ov
  clear ov
  go_enter Try.func17, Try.ntmps17
  go_wp2_with fail
  have HC := rmay_to o a da ua c dc uc ⟨done, undone, _, _, _, _, _, _, _, _, _⟩ _ HF0.out hc hcm
  rw [Em.out] at HC
  refine HC.mono ?_
  rintro e w1 ⟨rfl, k1⟩
  clear HC
  have HF1 := Kept.mk (HF0.out.keeps k1)
  have HB1 := Kept.mk (HB0.out.quiet k1)
  have HO1 := Kept.mk (HO0.out.quiet k1)
  have K1 := Kept.mk (K0.out.trans k1)
  clear k1 HF0 HB0 HO0 K0
  obtain ⟨y0, y1, y2, y3, y4, y5, y6, y7, y8, y9, y10⟩ := blk11 HB1.out
  obtain ⟨x0, x1, x2, x3, x4, x5⟩ := blk6 HO1.out
  have HA2 : Kept (BlRow w1 (some ⟨w.heap.size + 1, 5, none⟩) [a0, a1]) := ⟨two_row y5 y6 HB1.out.lt⟩
  have HD2 : Kept (BlRow w1 (some ⟨w.heap.size + 1, 8, none⟩) [d0, d1]) := ⟨two_row y8 y9 HB1.out.lt⟩
  go_wp2_with fail
  refine (rnone_to _ 2 2 [d0, d1] false _ HD2.out rfl (by decide) E6.out).mono ?_
  rintro e _ ⟨rfl, rfl⟩
  go_wp2_with fail
  have HC2 := rover_to o a da ua c dc uc ⟨done, undone, _, _, _, _, _, _, _, _, _⟩ _ HF1.out hc hcm
  rw [Ov.out] at HC2
  refine HC2.mono ?_
  rintro e w2 ⟨rfl, k2⟩
  clear HC2 HA2 HD2
  have HF2 := Kept.mk (HF1.out.keeps k2)
  have HB2 := Kept.mk (HB1.out.quiet k2)
  have HO2 := Kept.mk (HO1.out.quiet k2)
  have K2 := Kept.mk (K1.out.trans k2)
  clear k2 HF1 HB1 HO1 K1
  clear y0 y1 y2 y3 y4 y5 y6 y7 y8 y9 y10 x0 x1 x2 x3 x4 x5
  obtain ⟨y0, y1, y2, y3, y4, y5, y6, y7, y8, y9, y10⟩ := blk11 HB2.out
  obtain ⟨x0, x1, x2, x3, x4, x5⟩ := blk6 HO2.out
  go_wp2_with fail
  go_ret
  exact ⟨rfl, K2.out⟩
set_option linter.unusedSimpArgs false in
set_option maxRecDepth 100000 in
set_option maxHeartbeats 16000000 in
theorem st_tbf (o : Ord) (a da ua : Option Addr) (c dc uc : Nat) (done undone : List Bool) (asked yes turned a0 a1 shipped d0 d1 acc : Bool) (w : World) (h : FcAt w o a c ⟨done, undone, asked, yes, turned, a0, a1, shipped, d0, d1, acc⟩ da ua) (hc : o.steps.length ≤ c) (hcm : c ≤ maxLen) (em : Fct.may o ⟨done, undone, asked, yes, turned, a0, a1, shipped, d0, d1, acc⟩ = true) (ht : turned = true) (hac : acc = true) (e6 : (d0 || d1) = true) (ov : Fct.over o ⟨done, undone, asked, yes, turned, a0, a1, shipped, d0, d1, acc⟩ = false) :
    Calls Try.prog 17 #[.agg #[.int .i64 o.id, .int .i64 o.item, .int .i64 o.qty, .int .i64 o.client, .int .i64 o.price, .slice a o.steps.length c], .agg #[.slice da done.length dc, .slice ua undone.length uc, .bool asked, .bool yes, .bool turned, .bool a0, .bool a1, .bool shipped, .bool d0, .bool d1, .bool acc]] w (fun e w' => e = .returned (.int .i64 4) ∧ Keeps (fun _ => False) w w') := by
  have HF0 := Kept.mk ((h.alloc (.cells #[.int .i64 o.id, .int .i64 o.item, .int .i64 o.qty, .int .i64 o.client, .int .i64 o.price, .slice a o.steps.length c] 24)).alloc (.cells #[.slice da done.length dc, .slice ua undone.length uc, .bool asked, .bool yes, .bool turned, .bool a0, .bool a1, .bool shipped, .bool d0, .bool d1, .bool acc] 42))
  have HB0 := Kept.mk (Blk.new' (w.alloc (.cells #[.int .i64 o.id, .int .i64 o.item, .int .i64 o.qty, .int .i64 o.client, .int .i64 o.price, .slice a o.steps.length c] 24)) 42 [.slice da done.length dc, .slice ua undone.length uc, .bool asked, .bool yes, .bool turned, .bool a0, .bool a1, .bool shipped, .bool d0, .bool d1, .bool acc] (w.heap.size + 1) (by simp))
  have HO0 := Kept.mk ((Blk.new' w 24 [.int .i64 o.id, .int .i64 o.item, .int .i64 o.qty, .int .i64 o.client, .int .i64 o.price, .slice a o.steps.length c] _ rfl).alloc (.cells #[.slice da done.length dc, .slice ua undone.length uc, .bool asked, .bool yes, .bool turned, .bool a0, .bool a1, .bool shipped, .bool d0, .bool d1, .bool acc] 42))
  have K0 : Kept (Keeps (fun _ => False) w ((w.alloc (.cells #[.int .i64 o.id, .int .i64 o.item, .int .i64 o.qty, .int .i64 o.client, .int .i64 o.price, .slice a o.steps.length c] 24)).alloc (.cells #[.slice da done.length dc, .slice ua undone.length uc, .bool asked, .bool yes, .bool turned, .bool a0, .bool a1, .bool shipped, .bool d0, .bool d1, .bool acc] 42))) := ⟨((Keeps.refl _ w).alloc _).alloc _⟩
  clear h
  subst ht
  subst hac
  have Em := Kept.mk em
  clear em
  have E6 : Kept ((!hasB [d0, d1] true) = false) := ⟨by rw [hasB_two, e6]; rfl⟩
  clear e6
  have Ov := Kept.mk ov
  clear ov
  go_enter Try.func17, Try.ntmps17
  go_wp2_with fail
  have HC := rmay_to o a da ua c dc uc ⟨done, undone, _, _, _, _, _, _, _, _, _⟩ _ HF0.out hc hcm
  rw [Em.out] at HC
  refine HC.mono ?_
  rintro e w1 ⟨rfl, k1⟩
  clear HC
  have HF1 := Kept.mk (HF0.out.keeps k1)
  have HB1 := Kept.mk (HB0.out.quiet k1)
  have HO1 := Kept.mk (HO0.out.quiet k1)
  have K1 := Kept.mk (K0.out.trans k1)
  clear k1 HF0 HB0 HO0 K0
  obtain ⟨y0, y1, y2, y3, y4, y5, y6, y7, y8, y9, y10⟩ := blk11 HB1.out
  obtain ⟨x0, x1, x2, x3, x4, x5⟩ := blk6 HO1.out
  have HA2 : Kept (BlRow w1 (some ⟨w.heap.size + 1, 5, none⟩) [a0, a1]) := ⟨two_row y5 y6 HB1.out.lt⟩
  have HD2 : Kept (BlRow w1 (some ⟨w.heap.size + 1, 8, none⟩) [d0, d1]) := ⟨two_row y8 y9 HB1.out.lt⟩
  go_wp2_with fail
  refine (rnone_to _ 2 2 [d0, d1] false _ HD2.out rfl (by decide) E6.out).mono ?_
  rintro e _ ⟨rfl, rfl⟩
  go_wp2_with fail
  have HC2 := rover_to o a da ua c dc uc ⟨done, undone, _, _, _, _, _, _, _, _, _⟩ _ HF1.out hc hcm
  rw [Ov.out] at HC2
  refine HC2.mono ?_
  rintro e w2 ⟨rfl, k2⟩
  clear HC2 HA2 HD2
  have HF2 := Kept.mk (HF1.out.keeps k2)
  have HB2 := Kept.mk (HB1.out.quiet k2)
  have HO2 := Kept.mk (HO1.out.quiet k2)
  have K2 := Kept.mk (K1.out.trans k2)
  clear k2 HF1 HB1 HO1 K1
  clear y0 y1 y2 y3 y4 y5 y6 y7 y8 y9 y10 x0 x1 x2 x3 x4 x5
  obtain ⟨y0, y1, y2, y3, y4, y5, y6, y7, y8, y9, y10⟩ := blk11 HB2.out
  obtain ⟨x0, x1, x2, x3, x4, x5⟩ := blk6 HO2.out
  go_wp2_with fail
  go_ret
  exact ⟨rfl, K2.out⟩
set_option linter.unusedSimpArgs false in
set_option maxRecDepth 100000 in
set_option maxHeartbeats 16000000 in
theorem st_ybt (o : Ord) (a da ua : Option Addr) (c dc uc : Nat) (done undone : List Bool) (asked yes turned a0 a1 shipped d0 d1 acc : Bool) (w : World) (h : FcAt w o a c ⟨done, undone, asked, yes, turned, a0, a1, shipped, d0, d1, acc⟩ da ua) (hc : o.steps.length ≤ c) (hcm : c ≤ maxLen) (em : Fct.may o ⟨done, undone, asked, yes, turned, a0, a1, shipped, d0, d1, acc⟩ = true) (ht : turned = false) (hy : yes = true) (hac : acc = true) (e6 : (d0 || d1) = true) (ov : Fct.over o ⟨done, undone, asked, yes, turned, a0, a1, shipped, d0, d1, acc⟩ = true) :
    Calls Try.prog 17 #[.agg #[.int .i64 o.id, .int .i64 o.item, .int .i64 o.qty, .int .i64 o.client, .int .i64 o.price, .slice a o.steps.length c], .agg #[.slice da done.length dc, .slice ua undone.length uc, .bool asked, .bool yes, .bool turned, .bool a0, .bool a1, .bool shipped, .bool d0, .bool d1, .bool acc]] w (fun e w' => e = .returned (.int .i64 5) ∧ Keeps (fun _ => False) w w') := by
  have HF0 := Kept.mk ((h.alloc (.cells #[.int .i64 o.id, .int .i64 o.item, .int .i64 o.qty, .int .i64 o.client, .int .i64 o.price, .slice a o.steps.length c] 24)).alloc (.cells #[.slice da done.length dc, .slice ua undone.length uc, .bool asked, .bool yes, .bool turned, .bool a0, .bool a1, .bool shipped, .bool d0, .bool d1, .bool acc] 42))
  have HB0 := Kept.mk (Blk.new' (w.alloc (.cells #[.int .i64 o.id, .int .i64 o.item, .int .i64 o.qty, .int .i64 o.client, .int .i64 o.price, .slice a o.steps.length c] 24)) 42 [.slice da done.length dc, .slice ua undone.length uc, .bool asked, .bool yes, .bool turned, .bool a0, .bool a1, .bool shipped, .bool d0, .bool d1, .bool acc] (w.heap.size + 1) (by simp))
  have HO0 := Kept.mk ((Blk.new' w 24 [.int .i64 o.id, .int .i64 o.item, .int .i64 o.qty, .int .i64 o.client, .int .i64 o.price, .slice a o.steps.length c] _ rfl).alloc (.cells #[.slice da done.length dc, .slice ua undone.length uc, .bool asked, .bool yes, .bool turned, .bool a0, .bool a1, .bool shipped, .bool d0, .bool d1, .bool acc] 42))
  have K0 : Kept (Keeps (fun _ => False) w ((w.alloc (.cells #[.int .i64 o.id, .int .i64 o.item, .int .i64 o.qty, .int .i64 o.client, .int .i64 o.price, .slice a o.steps.length c] 24)).alloc (.cells #[.slice da done.length dc, .slice ua undone.length uc, .bool asked, .bool yes, .bool turned, .bool a0, .bool a1, .bool shipped, .bool d0, .bool d1, .bool acc] 42))) := ⟨((Keeps.refl _ w).alloc _).alloc _⟩
  clear h
  subst ht
  subst hy
  subst hac
  have Em := Kept.mk em
  clear em
  have E6 : Kept ((!hasB [d0, d1] true) = false) := ⟨by rw [hasB_two, e6]; rfl⟩
  clear e6
  have Ov := Kept.mk ov
  clear ov
  go_enter Try.func17, Try.ntmps17
  go_wp2_with fail
  have HC := rmay_to o a da ua c dc uc ⟨done, undone, _, _, _, _, _, _, _, _, _⟩ _ HF0.out hc hcm
  rw [Em.out] at HC
  refine HC.mono ?_
  rintro e w1 ⟨rfl, k1⟩
  clear HC
  have HF1 := Kept.mk (HF0.out.keeps k1)
  have HB1 := Kept.mk (HB0.out.quiet k1)
  have HO1 := Kept.mk (HO0.out.quiet k1)
  have K1 := Kept.mk (K0.out.trans k1)
  clear k1 HF0 HB0 HO0 K0
  obtain ⟨y0, y1, y2, y3, y4, y5, y6, y7, y8, y9, y10⟩ := blk11 HB1.out
  obtain ⟨x0, x1, x2, x3, x4, x5⟩ := blk6 HO1.out
  have HA2 : Kept (BlRow w1 (some ⟨w.heap.size + 1, 5, none⟩) [a0, a1]) := ⟨two_row y5 y6 HB1.out.lt⟩
  have HD2 : Kept (BlRow w1 (some ⟨w.heap.size + 1, 8, none⟩) [d0, d1]) := ⟨two_row y8 y9 HB1.out.lt⟩
  go_wp2_with fail
  refine (rnone_to _ 2 2 [d0, d1] false _ HD2.out rfl (by decide) E6.out).mono ?_
  rintro e _ ⟨rfl, rfl⟩
  go_wp2_with fail
  have HC2 := rover_to o a da ua c dc uc ⟨done, undone, _, _, _, _, _, _, _, _, _⟩ _ HF1.out hc hcm
  rw [Ov.out] at HC2
  refine HC2.mono ?_
  rintro e w2 ⟨rfl, k2⟩
  clear HC2 HA2 HD2
  have HF2 := Kept.mk (HF1.out.keeps k2)
  have HB2 := Kept.mk (HB1.out.quiet k2)
  have HO2 := Kept.mk (HO1.out.quiet k2)
  have K2 := Kept.mk (K1.out.trans k2)
  clear k2 HF1 HB1 HO1 K1
  clear y0 y1 y2 y3 y4 y5 y6 y7 y8 y9 y10 x0 x1 x2 x3 x4 x5
  obtain ⟨y0, y1, y2, y3, y4, y5, y6, y7, y8, y9, y10⟩ := blk11 HB2.out
  obtain ⟨x0, x1, x2, x3, x4, x5⟩ := blk6 HO2.out
  go_wp2_with fail
  go_ret
  exact ⟨rfl, K2.out⟩
set_option linter.unusedSimpArgs false in
set_option maxRecDepth 100000 in
set_option maxHeartbeats 16000000 in
theorem st_ybf (o : Ord) (a da ua : Option Addr) (c dc uc : Nat) (done undone : List Bool) (asked yes turned a0 a1 shipped d0 d1 acc : Bool) (w : World) (h : FcAt w o a c ⟨done, undone, asked, yes, turned, a0, a1, shipped, d0, d1, acc⟩ da ua) (hc : o.steps.length ≤ c) (hcm : c ≤ maxLen) (em : Fct.may o ⟨done, undone, asked, yes, turned, a0, a1, shipped, d0, d1, acc⟩ = true) (ht : turned = false) (hy : yes = true) (hac : acc = true) (e6 : (d0 || d1) = true) (ov : Fct.over o ⟨done, undone, asked, yes, turned, a0, a1, shipped, d0, d1, acc⟩ = false) :
    Calls Try.prog 17 #[.agg #[.int .i64 o.id, .int .i64 o.item, .int .i64 o.qty, .int .i64 o.client, .int .i64 o.price, .slice a o.steps.length c], .agg #[.slice da done.length dc, .slice ua undone.length uc, .bool asked, .bool yes, .bool turned, .bool a0, .bool a1, .bool shipped, .bool d0, .bool d1, .bool acc]] w (fun e w' => e = .returned (.int .i64 3) ∧ Keeps (fun _ => False) w w') := by
  have HF0 := Kept.mk ((h.alloc (.cells #[.int .i64 o.id, .int .i64 o.item, .int .i64 o.qty, .int .i64 o.client, .int .i64 o.price, .slice a o.steps.length c] 24)).alloc (.cells #[.slice da done.length dc, .slice ua undone.length uc, .bool asked, .bool yes, .bool turned, .bool a0, .bool a1, .bool shipped, .bool d0, .bool d1, .bool acc] 42))
  have HB0 := Kept.mk (Blk.new' (w.alloc (.cells #[.int .i64 o.id, .int .i64 o.item, .int .i64 o.qty, .int .i64 o.client, .int .i64 o.price, .slice a o.steps.length c] 24)) 42 [.slice da done.length dc, .slice ua undone.length uc, .bool asked, .bool yes, .bool turned, .bool a0, .bool a1, .bool shipped, .bool d0, .bool d1, .bool acc] (w.heap.size + 1) (by simp))
  have HO0 := Kept.mk ((Blk.new' w 24 [.int .i64 o.id, .int .i64 o.item, .int .i64 o.qty, .int .i64 o.client, .int .i64 o.price, .slice a o.steps.length c] _ rfl).alloc (.cells #[.slice da done.length dc, .slice ua undone.length uc, .bool asked, .bool yes, .bool turned, .bool a0, .bool a1, .bool shipped, .bool d0, .bool d1, .bool acc] 42))
  have K0 : Kept (Keeps (fun _ => False) w ((w.alloc (.cells #[.int .i64 o.id, .int .i64 o.item, .int .i64 o.qty, .int .i64 o.client, .int .i64 o.price, .slice a o.steps.length c] 24)).alloc (.cells #[.slice da done.length dc, .slice ua undone.length uc, .bool asked, .bool yes, .bool turned, .bool a0, .bool a1, .bool shipped, .bool d0, .bool d1, .bool acc] 42))) := ⟨((Keeps.refl _ w).alloc _).alloc _⟩
  clear h
  subst ht
  subst hy
  subst hac
  have Em := Kept.mk em
  clear em
  have E6 : Kept ((!hasB [d0, d1] true) = false) := ⟨by rw [hasB_two, e6]; rfl⟩
  clear e6
  have Ov := Kept.mk ov
  clear ov
  go_enter Try.func17, Try.ntmps17
  go_wp2_with fail
  have HC := rmay_to o a da ua c dc uc ⟨done, undone, _, _, _, _, _, _, _, _, _⟩ _ HF0.out hc hcm
  rw [Em.out] at HC
  refine HC.mono ?_
  rintro e w1 ⟨rfl, k1⟩
  clear HC
  have HF1 := Kept.mk (HF0.out.keeps k1)
  have HB1 := Kept.mk (HB0.out.quiet k1)
  have HO1 := Kept.mk (HO0.out.quiet k1)
  have K1 := Kept.mk (K0.out.trans k1)
  clear k1 HF0 HB0 HO0 K0
  obtain ⟨y0, y1, y2, y3, y4, y5, y6, y7, y8, y9, y10⟩ := blk11 HB1.out
  obtain ⟨x0, x1, x2, x3, x4, x5⟩ := blk6 HO1.out
  have HA2 : Kept (BlRow w1 (some ⟨w.heap.size + 1, 5, none⟩) [a0, a1]) := ⟨two_row y5 y6 HB1.out.lt⟩
  have HD2 : Kept (BlRow w1 (some ⟨w.heap.size + 1, 8, none⟩) [d0, d1]) := ⟨two_row y8 y9 HB1.out.lt⟩
  go_wp2_with fail
  refine (rnone_to _ 2 2 [d0, d1] false _ HD2.out rfl (by decide) E6.out).mono ?_
  rintro e _ ⟨rfl, rfl⟩
  go_wp2_with fail
  have HC2 := rover_to o a da ua c dc uc ⟨done, undone, _, _, _, _, _, _, _, _, _⟩ _ HF1.out hc hcm
  rw [Ov.out] at HC2
  refine HC2.mono ?_
  rintro e w2 ⟨rfl, k2⟩
  clear HC2 HA2 HD2
  have HF2 := Kept.mk (HF1.out.keeps k2)
  have HB2 := Kept.mk (HB1.out.quiet k2)
  have HO2 := Kept.mk (HO1.out.quiet k2)
  have K2 := Kept.mk (K1.out.trans k2)
  clear k2 HF1 HB1 HO1 K1
  clear y0 y1 y2 y3 y4 y5 y6 y7 y8 y9 y10 x0 x1 x2 x3 x4 x5
  obtain ⟨y0, y1, y2, y3, y4, y5, y6, y7, y8, y9, y10⟩ := blk11 HB2.out
  obtain ⟨x0, x1, x2, x3, x4, x5⟩ := blk6 HO2.out
  go_wp2_with fail
  go_ret
  exact ⟨rfl, K2.out⟩
set_option linter.unusedSimpArgs false in
set_option maxRecDepth 100000 in
set_option maxHeartbeats 16000000 in
theorem st_nbt (o : Ord) (a da ua : Option Addr) (c dc uc : Nat) (done undone : List Bool) (asked yes turned a0 a1 shipped d0 d1 acc : Bool) (w : World) (h : FcAt w o a c ⟨done, undone, asked, yes, turned, a0, a1, shipped, d0, d1, acc⟩ da ua) (hc : o.steps.length ≤ c) (hcm : c ≤ maxLen) (em : Fct.may o ⟨done, undone, asked, yes, turned, a0, a1, shipped, d0, d1, acc⟩ = true) (ht : turned = false) (hy : yes = false) (hk : asked = true) (hac : acc = true) (e6 : (d0 || d1) = true) :
    Calls Try.prog 17 #[.agg #[.int .i64 o.id, .int .i64 o.item, .int .i64 o.qty, .int .i64 o.client, .int .i64 o.price, .slice a o.steps.length c], .agg #[.slice da done.length dc, .slice ua undone.length uc, .bool asked, .bool yes, .bool turned, .bool a0, .bool a1, .bool shipped, .bool d0, .bool d1, .bool acc]] w (fun e w' => e = .returned (.int .i64 2) ∧ Keeps (fun _ => False) w w') := by
  have HF0 := Kept.mk ((h.alloc (.cells #[.int .i64 o.id, .int .i64 o.item, .int .i64 o.qty, .int .i64 o.client, .int .i64 o.price, .slice a o.steps.length c] 24)).alloc (.cells #[.slice da done.length dc, .slice ua undone.length uc, .bool asked, .bool yes, .bool turned, .bool a0, .bool a1, .bool shipped, .bool d0, .bool d1, .bool acc] 42))
  have HB0 := Kept.mk (Blk.new' (w.alloc (.cells #[.int .i64 o.id, .int .i64 o.item, .int .i64 o.qty, .int .i64 o.client, .int .i64 o.price, .slice a o.steps.length c] 24)) 42 [.slice da done.length dc, .slice ua undone.length uc, .bool asked, .bool yes, .bool turned, .bool a0, .bool a1, .bool shipped, .bool d0, .bool d1, .bool acc] (w.heap.size + 1) (by simp))
  have HO0 := Kept.mk ((Blk.new' w 24 [.int .i64 o.id, .int .i64 o.item, .int .i64 o.qty, .int .i64 o.client, .int .i64 o.price, .slice a o.steps.length c] _ rfl).alloc (.cells #[.slice da done.length dc, .slice ua undone.length uc, .bool asked, .bool yes, .bool turned, .bool a0, .bool a1, .bool shipped, .bool d0, .bool d1, .bool acc] 42))
  have K0 : Kept (Keeps (fun _ => False) w ((w.alloc (.cells #[.int .i64 o.id, .int .i64 o.item, .int .i64 o.qty, .int .i64 o.client, .int .i64 o.price, .slice a o.steps.length c] 24)).alloc (.cells #[.slice da done.length dc, .slice ua undone.length uc, .bool asked, .bool yes, .bool turned, .bool a0, .bool a1, .bool shipped, .bool d0, .bool d1, .bool acc] 42))) := ⟨((Keeps.refl _ w).alloc _).alloc _⟩
  clear h
  subst ht
  subst hy
  subst hk
  subst hac
  have Em := Kept.mk em
  clear em
  have E6 : Kept ((!hasB [d0, d1] true) = false) := ⟨by rw [hasB_two, e6]; rfl⟩
  clear e6
  go_enter Try.func17, Try.ntmps17
  go_wp2_with fail
  have HC := rmay_to o a da ua c dc uc ⟨done, undone, _, _, _, _, _, _, _, _, _⟩ _ HF0.out hc hcm
  rw [Em.out] at HC
  refine HC.mono ?_
  rintro e w1 ⟨rfl, k1⟩
  clear HC
  have HF1 := Kept.mk (HF0.out.keeps k1)
  have HB1 := Kept.mk (HB0.out.quiet k1)
  have HO1 := Kept.mk (HO0.out.quiet k1)
  have K1 := Kept.mk (K0.out.trans k1)
  clear k1 HF0 HB0 HO0 K0
  obtain ⟨y0, y1, y2, y3, y4, y5, y6, y7, y8, y9, y10⟩ := blk11 HB1.out
  obtain ⟨x0, x1, x2, x3, x4, x5⟩ := blk6 HO1.out
  have HA2 : Kept (BlRow w1 (some ⟨w.heap.size + 1, 5, none⟩) [a0, a1]) := ⟨two_row y5 y6 HB1.out.lt⟩
  have HD2 : Kept (BlRow w1 (some ⟨w.heap.size + 1, 8, none⟩) [d0, d1]) := ⟨two_row y8 y9 HB1.out.lt⟩
  go_wp2_with fail
  refine (rnone_to _ 2 2 [d0, d1] false _ HD2.out rfl (by decide) E6.out).mono ?_
  rintro e _ ⟨rfl, rfl⟩
  go_wp2_with fail
  go_ret
  exact ⟨rfl, K1.out⟩
set_option linter.unusedSimpArgs false in
set_option maxRecDepth 100000 in
set_option maxHeartbeats 16000000 in
theorem st_nbf (o : Ord) (a da ua : Option Addr) (c dc uc : Nat) (done undone : List Bool) (asked yes turned a0 a1 shipped d0 d1 acc : Bool) (w : World) (h : FcAt w o a c ⟨done, undone, asked, yes, turned, a0, a1, shipped, d0, d1, acc⟩ da ua) (hc : o.steps.length ≤ c) (hcm : c ≤ maxLen) (em : Fct.may o ⟨done, undone, asked, yes, turned, a0, a1, shipped, d0, d1, acc⟩ = true) (ht : turned = false) (hy : yes = false) (hk : asked = false) (hac : acc = true) (e6 : (d0 || d1) = true) :
    Calls Try.prog 17 #[.agg #[.int .i64 o.id, .int .i64 o.item, .int .i64 o.qty, .int .i64 o.client, .int .i64 o.price, .slice a o.steps.length c], .agg #[.slice da done.length dc, .slice ua undone.length uc, .bool asked, .bool yes, .bool turned, .bool a0, .bool a1, .bool shipped, .bool d0, .bool d1, .bool acc]] w (fun e w' => e = .returned (.int .i64 1) ∧ Keeps (fun _ => False) w w') := by
  have HF0 := Kept.mk ((h.alloc (.cells #[.int .i64 o.id, .int .i64 o.item, .int .i64 o.qty, .int .i64 o.client, .int .i64 o.price, .slice a o.steps.length c] 24)).alloc (.cells #[.slice da done.length dc, .slice ua undone.length uc, .bool asked, .bool yes, .bool turned, .bool a0, .bool a1, .bool shipped, .bool d0, .bool d1, .bool acc] 42))
  have HB0 := Kept.mk (Blk.new' (w.alloc (.cells #[.int .i64 o.id, .int .i64 o.item, .int .i64 o.qty, .int .i64 o.client, .int .i64 o.price, .slice a o.steps.length c] 24)) 42 [.slice da done.length dc, .slice ua undone.length uc, .bool asked, .bool yes, .bool turned, .bool a0, .bool a1, .bool shipped, .bool d0, .bool d1, .bool acc] (w.heap.size + 1) (by simp))
  have HO0 := Kept.mk ((Blk.new' w 24 [.int .i64 o.id, .int .i64 o.item, .int .i64 o.qty, .int .i64 o.client, .int .i64 o.price, .slice a o.steps.length c] _ rfl).alloc (.cells #[.slice da done.length dc, .slice ua undone.length uc, .bool asked, .bool yes, .bool turned, .bool a0, .bool a1, .bool shipped, .bool d0, .bool d1, .bool acc] 42))
  have K0 : Kept (Keeps (fun _ => False) w ((w.alloc (.cells #[.int .i64 o.id, .int .i64 o.item, .int .i64 o.qty, .int .i64 o.client, .int .i64 o.price, .slice a o.steps.length c] 24)).alloc (.cells #[.slice da done.length dc, .slice ua undone.length uc, .bool asked, .bool yes, .bool turned, .bool a0, .bool a1, .bool shipped, .bool d0, .bool d1, .bool acc] 42))) := ⟨((Keeps.refl _ w).alloc _).alloc _⟩
  clear h
  subst ht
  subst hy
  subst hk
  subst hac
  have Em := Kept.mk em
  clear em
  have E6 : Kept ((!hasB [d0, d1] true) = false) := ⟨by rw [hasB_two, e6]; rfl⟩
  clear e6
  go_enter Try.func17, Try.ntmps17
  go_wp2_with fail
  have HC := rmay_to o a da ua c dc uc ⟨done, undone, _, _, _, _, _, _, _, _, _⟩ _ HF0.out hc hcm
  rw [Em.out] at HC
  refine HC.mono ?_
  rintro e w1 ⟨rfl, k1⟩
  clear HC
  have HF1 := Kept.mk (HF0.out.keeps k1)
  have HB1 := Kept.mk (HB0.out.quiet k1)
  have HO1 := Kept.mk (HO0.out.quiet k1)
  have K1 := Kept.mk (K0.out.trans k1)
  clear k1 HF0 HB0 HO0 K0
  obtain ⟨y0, y1, y2, y3, y4, y5, y6, y7, y8, y9, y10⟩ := blk11 HB1.out
  obtain ⟨x0, x1, x2, x3, x4, x5⟩ := blk6 HO1.out
  have HA2 : Kept (BlRow w1 (some ⟨w.heap.size + 1, 5, none⟩) [a0, a1]) := ⟨two_row y5 y6 HB1.out.lt⟩
  have HD2 : Kept (BlRow w1 (some ⟨w.heap.size + 1, 8, none⟩) [d0, d1]) := ⟨two_row y8 y9 HB1.out.lt⟩
  go_wp2_with fail
  refine (rnone_to _ 2 2 [d0, d1] false _ HD2.out rfl (by decide) E6.out).mono ?_
  rintro e _ ⟨rfl, rfl⟩
  go_wp2_with fail
  go_ret
  exact ⟨rfl, K1.out⟩
theorem rstate_to (o : Ord) (a da ua : Option Addr) (c dc uc : Nat) (f : Fct) (w : World) (h : FcAt w o a c f da ua) (hc : o.steps.length ≤ c) (hcm : c ≤ maxLen) :
    Calls Try.prog 17 #[.agg #[.int .i64 o.id, .int .i64 o.item, .int .i64 o.qty, .int .i64 o.client, .int .i64 o.price, .slice a o.steps.length c], .agg #[.slice da f.done.length dc, .slice ua f.undone.length uc, .bool f.asked, .bool f.yes, .bool f.turned, .bool f.a0, .bool f.a1, .bool f.shipped, .bool f.d0, .bool f.d1, .bool f.acc]] w (fun e w' => e = .returned (.int .i64 (f.state o)) ∧ Keeps (fun _ => False) w w') := by
  obtain ⟨done, undone, asked, yes, turned, a0, a1, shipped, d0, d1, acc⟩ := f
  cases em : Fct.may o ⟨done, undone, asked, yes, turned, a0, a1, shipped, d0, d1, acc⟩ with
  | false => exact (st_no o a da ua c dc uc done undone asked yes turned a0 a1 shipped d0 d1 acc w h hc hcm em).mono fun e w' ⟨he, k⟩ => ⟨by rw [he]; simp [Fct.state, em], k⟩
  | true => cases e6 : (d0 || d1) with
    | false =>
      cases turned with
      | true => cases ov : Fct.over o ⟨done, undone, asked, yes, true, a0, a1, shipped, d0, d1, acc⟩ with
        | true =>
          have he2 := st_turned em rfl ov
          exact (st_tat o a da ua c dc uc done undone asked yes _ a0 a1 shipped d0 d1 acc w h hc hcm em rfl e6 ov).mono fun e w' ⟨he, k⟩ => ⟨by rw [he]; simp [Fct.state, em, e6, he2], k⟩
        | false =>
          have he2 := st_turned em rfl ov
          exact (st_taf o a da ua c dc uc done undone asked yes _ a0 a1 shipped d0 d1 acc w h hc hcm em rfl e6 ov).mono fun e w' ⟨he, k⟩ => ⟨by rw [he]; simp [Fct.state, em, e6, he2], k⟩
      | false => cases yes with
        | true => cases ov : Fct.over o ⟨done, undone, asked, true, false, a0, a1, shipped, d0, d1, acc⟩ with
          | true =>
            have he2 := st_yes em rfl rfl ov
            exact (st_yat o a da ua c dc uc done undone asked _ _ a0 a1 shipped d0 d1 acc w h hc hcm em rfl rfl e6 ov).mono fun e w' ⟨he, k⟩ => ⟨by rw [he]; simp [Fct.state, em, e6, he2], k⟩
          | false =>
            have he2 := st_yes em rfl rfl ov
            exact (st_yaf o a da ua c dc uc done undone asked _ _ a0 a1 shipped d0 d1 acc w h hc hcm em rfl rfl e6 ov).mono fun e w' ⟨he, k⟩ => ⟨by rw [he]; simp [Fct.state, em, e6, he2], k⟩
        | false => cases asked with
          | true => exact (st_nat o a da ua c dc uc done undone _ _ _ a0 a1 shipped d0 d1 acc w h hc hcm em rfl rfl rfl e6).mono fun e w' ⟨he, k⟩ => ⟨by rw [he]; simp [Fct.state, Fct.ends, em, e6], k⟩
          | false => exact (st_naf o a da ua c dc uc done undone _ _ _ a0 a1 shipped d0 d1 acc w h hc hcm em rfl rfl rfl e6).mono fun e w' ⟨he, k⟩ => ⟨by rw [he]; simp [Fct.state, Fct.ends, em, e6], k⟩
    | true => cases acc with
      | false => exact (st_dmg o a da ua c dc uc done undone asked yes turned a0 a1 shipped d0 d1 _ w h hc hcm em rfl e6).mono fun e w' ⟨he, k⟩ => ⟨by rw [he]; simp [Fct.state, em, e6], k⟩
      | true =>
        cases turned with
        | true => cases ov : Fct.over o ⟨done, undone, asked, yes, true, a0, a1, shipped, d0, d1, true⟩ with
          | true =>
            have he2 := st_turned em rfl ov
            exact (st_tbt o a da ua c dc uc done undone asked yes _ a0 a1 shipped d0 d1 _ w h hc hcm em rfl rfl e6 ov).mono fun e w' ⟨he, k⟩ => ⟨by rw [he]; simp [Fct.state, em, e6, he2], k⟩
          | false =>
            have he2 := st_turned em rfl ov
            exact (st_tbf o a da ua c dc uc done undone asked yes _ a0 a1 shipped d0 d1 _ w h hc hcm em rfl rfl e6 ov).mono fun e w' ⟨he, k⟩ => ⟨by rw [he]; simp [Fct.state, em, e6, he2], k⟩
        | false => cases yes with
          | true => cases ov : Fct.over o ⟨done, undone, asked, true, false, a0, a1, shipped, d0, d1, true⟩ with
            | true =>
              have he2 := st_yes em rfl rfl ov
              exact (st_ybt o a da ua c dc uc done undone asked _ _ a0 a1 shipped d0 d1 _ w h hc hcm em rfl rfl rfl e6 ov).mono fun e w' ⟨he, k⟩ => ⟨by rw [he]; simp [Fct.state, em, e6, he2], k⟩
            | false =>
              have he2 := st_yes em rfl rfl ov
              exact (st_ybf o a da ua c dc uc done undone asked _ _ a0 a1 shipped d0 d1 _ w h hc hcm em rfl rfl rfl e6 ov).mono fun e w' ⟨he, k⟩ => ⟨by rw [he]; simp [Fct.state, em, e6, he2], k⟩
          | false => cases asked with
            | true => exact (st_nbt o a da ua c dc uc done undone _ _ _ a0 a1 shipped d0 d1 _ w h hc hcm em rfl rfl rfl rfl e6).mono fun e w' ⟨he, k⟩ => ⟨by rw [he]; simp [Fct.state, Fct.ends, em, e6], k⟩
            | false => exact (st_nbf o a da ua c dc uc done undone _ _ _ a0 a1 shipped d0 d1 _ w h hc hcm em rfl rfl rfl rfl e6).mono fun e w' ⟨he, k⟩ => ⟨by rw [he]; simp [Fct.state, Fct.ends, em, e6], k⟩
end Go.Proofs.Ytfcnegnkmacajaa
