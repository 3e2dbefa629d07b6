/- The law SagaDamage, walked. (printed by gen/damage.py) -/
import Derived.Test.YtfcnegnkmacajaaLaw16b
import Derived.Deep.RegionHeld3
import Derived.Deep.CutRange
namespace Go.Proofs.Ytfcnegnkmacajaa
open Go.RowKit
section
variable {o : Ord} {done undone : List Bool} {asked yes turned a0 a1 shipped : Bool} (d0 d1 acc : Bool)
theorem dmg_may {e0 e1 ac : Bool} (h : Fct.may o ⟨done, undone, asked, yes, turned, a0, a1, shipped, e0, e1, ac⟩ = true) (hd : yes = true ∨ turned = true) : Fct.may o ⟨done, undone, asked, yes, turned, a0, a1, shipped, d0, d1, acc⟩ = true := by
  unfold Fct.may at h ⊢
  rcases hd with rfl | rfl <;> simpa using h
theorem dmg_ends (e0 e1 ac : Bool) : Fct.ends ⟨done, undone, asked, yes, turned, a0, a1, shipped, d0, d1, acc⟩ = Fct.ends ⟨done, undone, asked, yes, turned, a0, a1, shipped, e0, e1, ac⟩ := rfl
theorem ends_ne (f : Fct) : (f.ends == 7) = false := by
  unfold Fct.ends
  split
  · rfl
  · split
    · rfl
    · split
      · rfl
      · split
        · rfl
        · split <;> rfl
theorem dmg_state {e0 e1 ac : Bool} (h : Fct.may o ⟨done, undone, asked, yes, turned, a0, a1, shipped, e0, e1, ac⟩ = true) (hd : yes = true ∨ turned = true) : ((Fct.state o ⟨done, undone, asked, yes, turned, a0, a1, shipped, d0, d1, false⟩ == 7) == (d0 || d1)) = true := by
  have h1 := dmg_may d0 d1 false h hd
  unfold Fct.state
  rw [if_neg (by rw [h1]; simp)]
  cases hx : (d0 || d1) with
  | true => simp
  | false =>
    simp only [Bool.false_and, Bool.false_eq_true, if_false]
    rw [ends_ne]; rfl
theorem dmg_acc {e0 e1 ac : Bool} (h : Fct.may o ⟨done, undone, asked, yes, turned, a0, a1, shipped, e0, e1, ac⟩ = true) (hd : yes = true ∨ turned = true) : (Fct.state o ⟨done, undone, asked, yes, turned, a0, a1, shipped, d0, d1, true⟩ == Fct.state o ⟨done, undone, asked, yes, turned, a0, a1, shipped, false, false, false⟩) = true := by
  have h1 := dmg_may d0 d1 true h hd
  have h2 := dmg_may false false false h hd
  have e := dmg_ends (done := done) (undone := undone) (asked := asked) (yes := yes) (turned := turned) (a0 := a0) (a1 := a1) (shipped := shipped) d0 d1 true false false false
  simp [Fct.state, h1, h2, e]
theorem dmg_over {e0 e1 ac : Bool} (h : Fct.may o ⟨done, undone, asked, yes, turned, a0, a1, shipped, e0, e1, ac⟩ = true) (hd : yes = true ∨ turned = true) : (Fct.over o ⟨done, undone, asked, yes, turned, a0, a1, shipped, d0, d1, false⟩ == Fct.over o ⟨done, undone, asked, yes, turned, a0, a1, shipped, false, false, false⟩) = true := by
  unfold Fct.over
  rw [dmg_may d0 d1 false h hd, dmg_may false false false h hd, dmg_ends d0 d1 false false false false]
  simp
theorem dmg_next {e0 e1 ac : Bool} (h : Fct.may o ⟨done, undone, asked, yes, turned, a0, a1, shipped, e0, e1, ac⟩ = true) (hd : yes = true ∨ turned = true) : nextL o ⟨done, undone, asked, yes, turned, a0, a1, shipped, d0, d1, false⟩ = nextL o ⟨done, undone, asked, yes, turned, a0, a1, shipped, false, false, false⟩ := by
  unfold nextL
  rw [dmg_may d0 d1 false h hd, dmg_may false false false h hd]
theorem fwdAt_len (o : Ord) : ∀ (dn : List Bool) (L : List St) (k : Int), (fwdAt o dn L k).length ≤ 2
  | [], _, _ => by simp [fwdAt]
  | false :: _, [], _ => by simp [fwdAt]
  | true :: _, [], _ => by simp [fwdAt]
  | false :: _, _ :: _, _ => by simp [fwdAt]
  | true :: dn, _ :: r, k => fwdAt_len o dn r (k + 1)
theorem nextL_len (o : Ord) (f : Fct) : (nextL o f).length ≤ 3 := by
  unfold nextL
  have h1 := decTo_len 10 o f.a0 f.a1 2
  have h2 := decTo_len 9 o f.a0 f.a1 2
  have h3 := undAt_len o f.undone o.steps.length
  have h4 := fwdAt_len o f.done o.steps 0
  split
  · simp
  · split
    · rw [List.length_append]; omega
    · split
      · split
        · omega
        · rw [List.length_append]; simp only [List.length_singleton]; omega
      · omega
end
theorem s39 {W : World} {b p q r : Nat} {T U : TypeId} {v0 v1 v2 v3 v4 v5 i0 i1 i2 i3 i4 i5 i6 i7 i8 i9 i10 j0 j1 j2 j3 j4 j5 j6 j7 j8 j9 j10 k0 k1 k2 k3 k4 k5 k6 k7 k8 k9 k10 : Value} (h : Blk W b T [v0, v1, v2, v3, v4, v5]) (h1 : Blk W p U [i0, i1, i2, i3, i4, i5, i6, i7, i8, i9, i10]) (h2 : Blk W q U [j0, j1, j2, j3, j4, j5, j6, j7, j8, j9, j10]) (h3 : Blk W r U [k0, k1, k2, k3, k4, k5, k6, k7, k8, k9, k10]) :
    W.cell? ⟨b, 0, none⟩ = some v0 ∧ W.cell? ⟨b, 1, none⟩ = some v1 ∧ W.cell? ⟨b, 2, none⟩ = some v2 ∧ W.cell? ⟨b, 3, none⟩ = some v3 ∧ W.cell? ⟨b, 4, none⟩ = some v4 ∧ W.cell? ⟨b, 5, none⟩ = some v5 ∧ W.cell? ⟨p, 0, none⟩ = some i0 ∧ W.cell? ⟨p, 1, none⟩ = some i1 ∧ W.cell? ⟨p, 2, none⟩ = some i2 ∧ W.cell? ⟨p, 3, none⟩ = some i3 ∧ W.cell? ⟨p, 4, none⟩ = some i4 ∧ W.cell? ⟨p, 5, none⟩ = some i5 ∧ W.cell? ⟨p, 6, none⟩ = some i6 ∧ W.cell? ⟨p, 7, none⟩ = some i7 ∧ W.cell? ⟨p, 8, none⟩ = some i8 ∧ W.cell? ⟨p, 9, none⟩ = some i9 ∧ W.cell? ⟨p, 10, none⟩ = some i10 ∧ W.cell? ⟨q, 0, none⟩ = some j0 ∧ W.cell? ⟨q, 1, none⟩ = some j1 ∧ W.cell? ⟨q, 2, none⟩ = some j2 ∧ W.cell? ⟨q, 3, none⟩ = some j3 ∧ W.cell? ⟨q, 4, none⟩ = some j4 ∧ W.cell? ⟨q, 5, none⟩ = some j5 ∧ W.cell? ⟨q, 6, none⟩ = some j6 ∧ W.cell? ⟨q, 7, none⟩ = some j7 ∧ W.cell? ⟨q, 8, none⟩ = some j8 ∧ W.cell? ⟨q, 9, none⟩ = some j9 ∧ W.cell? ⟨q, 10, none⟩ = some j10 ∧ W.cell? ⟨r, 0, none⟩ = some k0 ∧ W.cell? ⟨r, 1, none⟩ = some k1 ∧ W.cell? ⟨r, 2, none⟩ = some k2 ∧ W.cell? ⟨r, 3, none⟩ = some k3 ∧ W.cell? ⟨r, 4, none⟩ = some k4 ∧ W.cell? ⟨r, 5, none⟩ = some k5 ∧ W.cell? ⟨r, 6, none⟩ = some k6 ∧ W.cell? ⟨r, 7, none⟩ = some k7 ∧ W.cell? ⟨r, 8, none⟩ = some k8 ∧ W.cell? ⟨r, 9, none⟩ = some k9 ∧ W.cell? ⟨r, 10, none⟩ = some k10 :=
  ⟨h.cell 0 rfl, h.cell 1 rfl, h.cell 2 rfl, h.cell 3 rfl, h.cell 4 rfl, h.cell 5 rfl, h1.cell 0 rfl, h1.cell 1 rfl, h1.cell 2 rfl, h1.cell 3 rfl, h1.cell 4 rfl, h1.cell 5 rfl, h1.cell 6 rfl, h1.cell 7 rfl, h1.cell 8 rfl, h1.cell 9 rfl, h1.cell 10 rfl, h2.cell 0 rfl, h2.cell 1 rfl, h2.cell 2 rfl, h2.cell 3 rfl, h2.cell 4 rfl, h2.cell 5 rfl, h2.cell 6 rfl, h2.cell 7 rfl, h2.cell 8 rfl, h2.cell 9 rfl, h2.cell 10 rfl, h3.cell 0 rfl, h3.cell 1 rfl, h3.cell 2 rfl, h3.cell 3 rfl, h3.cell 4 rfl, h3.cell 5 rfl, h3.cell 6 rfl, h3.cell 7 rfl, h3.cell 8 rfl, h3.cell 9 rfl, h3.cell 10 rfl⟩
set_option linter.unusedSimpArgs false in
set_option maxRecDepth 100000 in
set_option maxHeartbeats 16000000 in
theorem dmg_0 (o : Ord) (a da ua : Option Addr) (c dc uc : Nat) (done undone : List Bool) (asked yes turned a0 a1 shipped d0 d1 acc e0 e1 : Bool) (w : World) (h : FcAt w o a c ⟨done, undone, asked, yes, turned, a0, a1, shipped, d0, d1, acc⟩ da ua) (hl : lightB o ⟨done, undone, asked, yes, turned, a0, a1, shipped, d0, d1, acc⟩ = false) :
    Calls Try.prog 7 #[.agg #[.int .i64 o.id, .int .i64 o.item, .int .i64 o.qty, .int .i64 o.client, .int .i64 o.price, .slice a o.steps.length c], .agg #[.slice da done.length dc, .slice ua undone.length uc, .bool asked, .bool yes, .bool turned, .bool a0, .bool a1, .bool shipped, .bool d0, .bool d1, .bool acc], .agg #[.bool e0, .bool e1]] w (fun e w' => e = .returned (.bool true) ∧ Keeps (fun _ => False) w w') := by
  have K0 : Kept (Keeps (fun _ => False) w (((w.alloc (.cells #[.int .i64 o.id, .int .i64 o.item, .int .i64 o.qty, .int .i64 o.client, .int .i64 o.price, .slice a o.steps.length c] 24)).alloc (.cells #[.slice da done.length dc, .slice ua undone.length uc, .bool asked, .bool yes, .bool turned, .bool a0, .bool a1, .bool shipped, .bool d0, .bool d1, .bool acc] 31)).alloc (.cells #[.bool e0, .bool e1] 29))) := ⟨(((Keeps.refl _ w).alloc _).alloc _).alloc _⟩
  have HF0 := Kept.mk (h.keeps K0.out)
  have HO0 := Kept.mk (((Blk.new' w 24 [.int .i64 o.id, .int .i64 o.item, .int .i64 o.qty, .int .i64 o.client, .int .i64 o.price, .slice a o.steps.length c] _ rfl).alloc (.cells #[.slice da done.length dc, .slice ua undone.length uc, .bool asked, .bool yes, .bool turned, .bool a0, .bool a1, .bool shipped, .bool d0, .bool d1, .bool acc] 31)).alloc (.cells #[.bool e0, .bool e1] 29))
  have HB0 := Kept.mk ((Blk.new' (w.alloc (.cells #[.int .i64 o.id, .int .i64 o.item, .int .i64 o.qty, .int .i64 o.client, .int .i64 o.price, .slice a o.steps.length c] 24)) 31 [.slice da done.length dc, .slice ua undone.length uc, .bool asked, .bool yes, .bool turned, .bool a0, .bool a1, .bool shipped, .bool d0, .bool d1, .bool acc] (w.heap.size + 1) (by simp)).alloc (.cells #[.bool e0, .bool e1] 29))
  have HD0 := Kept.mk (Blk.new' ((w.alloc (.cells #[.int .i64 o.id, .int .i64 o.item, .int .i64 o.qty, .int .i64 o.client, .int .i64 o.price, .slice a o.steps.length c] 24)).alloc (.cells #[.slice da done.length dc, .slice ua undone.length uc, .bool asked, .bool yes, .bool turned, .bool a0, .bool a1, .bool shipped, .bool d0, .bool d1, .bool acc] 31)) 29 [.bool e0, .bool e1] (w.heap.size + 1 + 1) (by simp))
  have hsm := Kept.mk h.sm
  have hdm := Kept.mk h.dm
  have hum := Kept.mk h.um
  have Hh := Kept.mk h
  clear h
  have Hl := Kept.mk hl
  clear hl
  go_enter Try.func7, Try.ntmps7
  go_wp2_with fail
  refine (light_to o a da ua c dc uc done undone asked yes turned a0 a1 shipped d0 d1 acc false _ hsm.out hdm.out hum.out Hl.out).mono ?_
  rintro e w1 ⟨rfl, k1⟩
  have HF1 := Kept.mk (HF0.out.keeps k1)
  have HO1 := Kept.mk (HO0.out.quiet k1)
  have HB1 := Kept.mk (HB0.out.quiet k1)
  have HD1 := Kept.mk (HD0.out.quiet k1)
  have K1 := Kept.mk (K0.out.trans k1)
  clear k1 HF0 HO0 HB0 HD0 K0
  obtain ⟨y0, y1, y2, y3, y4, y5, y6, y7, y8, y9, y10⟩ := blk11 HB1.out
  obtain ⟨x0, x1, x2, x3, x4, x5⟩ := blk6 HO1.out
  go_wp2_with fail
  refine (awake_to _).mono ?_
  rintro e w9 ⟨rfl, k9⟩
  go_wp2_with fail
  go_ret
  exact ⟨rfl, K1.out.trans k9⟩
set_option linter.unusedSimpArgs false in
set_option maxRecDepth 100000 in
set_option maxHeartbeats 16000000 in
theorem dmg_1 (o : Ord) (a da ua : Option Addr) (c dc uc : Nat) (done undone : List Bool) (asked yes turned a0 a1 shipped d0 d1 acc e0 e1 : Bool) (w : World) (h : FcAt w o a c ⟨done, undone, asked, yes, turned, a0, a1, shipped, d0, d1, acc⟩ da ua) (hl : lightB o ⟨done, undone, asked, yes, turned, a0, a1, shipped, d0, d1, acc⟩ = true) (hm : Fct.may o ⟨done, undone, asked, yes, turned, a0, a1, shipped, d0, d1, acc⟩ = false) :
    Calls Try.prog 7 #[.agg #[.int .i64 o.id, .int .i64 o.item, .int .i64 o.qty, .int .i64 o.client, .int .i64 o.price, .slice a o.steps.length c], .agg #[.slice da done.length dc, .slice ua undone.length uc, .bool asked, .bool yes, .bool turned, .bool a0, .bool a1, .bool shipped, .bool d0, .bool d1, .bool acc], .agg #[.bool e0, .bool e1]] w (fun e w' => e = .returned (.bool true) ∧ Keeps (fun _ => False) w w') := by
  have K0 : Kept (Keeps (fun _ => False) w (((w.alloc (.cells #[.int .i64 o.id, .int .i64 o.item, .int .i64 o.qty, .int .i64 o.client, .int .i64 o.price, .slice a o.steps.length c] 24)).alloc (.cells #[.slice da done.length dc, .slice ua undone.length uc, .bool asked, .bool yes, .bool turned, .bool a0, .bool a1, .bool shipped, .bool d0, .bool d1, .bool acc] 31)).alloc (.cells #[.bool e0, .bool e1] 29))) := ⟨(((Keeps.refl _ w).alloc _).alloc _).alloc _⟩
  have HF0 := Kept.mk (h.keeps K0.out)
  have HO0 := Kept.mk (((Blk.new' w 24 [.int .i64 o.id, .int .i64 o.item, .int .i64 o.qty, .int .i64 o.client, .int .i64 o.price, .slice a o.steps.length c] _ rfl).alloc (.cells #[.slice da done.length dc, .slice ua undone.length uc, .bool asked, .bool yes, .bool turned, .bool a0, .bool a1, .bool shipped, .bool d0, .bool d1, .bool acc] 31)).alloc (.cells #[.bool e0, .bool e1] 29))
  have HB0 := Kept.mk ((Blk.new' (w.alloc (.cells #[.int .i64 o.id, .int .i64 o.item, .int .i64 o.qty, .int .i64 o.client, .int .i64 o.price, .slice a o.steps.length c] 24)) 31 [.slice da done.length dc, .slice ua undone.length uc, .bool asked, .bool yes, .bool turned, .bool a0, .bool a1, .bool shipped, .bool d0, .bool d1, .bool acc] (w.heap.size + 1) (by simp)).alloc (.cells #[.bool e0, .bool e1] 29))
  have HD0 := Kept.mk (Blk.new' ((w.alloc (.cells #[.int .i64 o.id, .int .i64 o.item, .int .i64 o.qty, .int .i64 o.client, .int .i64 o.price, .slice a o.steps.length c] 24)).alloc (.cells #[.slice da done.length dc, .slice ua undone.length uc, .bool asked, .bool yes, .bool turned, .bool a0, .bool a1, .bool shipped, .bool d0, .bool d1, .bool acc] 31)) 29 [.bool e0, .bool e1] (w.heap.size + 1 + 1) (by simp))
  have hsm := Kept.mk h.sm
  have hdm := Kept.mk h.dm
  have hum := Kept.mk h.um
  have Hh := Kept.mk h
  clear h
  have Hl := Kept.mk hl
  have Hm := Kept.mk hm
  clear hl hm
  go_enter Try.func7, Try.ntmps7
  go_wp2_with fail
  refine (light_to o a da ua c dc uc done undone asked yes turned a0 a1 shipped d0 d1 acc true _ hsm.out hdm.out hum.out Hl.out).mono ?_
  rintro e w1 ⟨rfl, k1⟩
  have HF1 := Kept.mk (HF0.out.keeps k1)
  have HO1 := Kept.mk (HO0.out.quiet k1)
  have HB1 := Kept.mk (HB0.out.quiet k1)
  have HD1 := Kept.mk (HD0.out.quiet k1)
  have K1 := Kept.mk (K0.out.trans k1)
  clear k1 HF0 HO0 HB0 HD0 K0
  obtain ⟨y0, y1, y2, y3, y4, y5, y6, y7, y8, y9, y10⟩ := blk11 HB1.out
  obtain ⟨x0, x1, x2, x3, x4, x5⟩ := blk6 HO1.out
  go_wp2_with fail
  refine (fmay_to o a da ua c dc uc ⟨done, undone, asked, yes, turned, a0, a1, shipped, d0, d1, acc⟩ false _ HF1.out Hm.out).mono ?_
  rintro e w2 ⟨rfl, k2⟩
  have HF2 := Kept.mk (HF1.out.keeps k2)
  have HO2 := Kept.mk (HO1.out.quiet k2)
  have HB2 := Kept.mk (HB1.out.quiet k2)
  have HD2 := Kept.mk (HD1.out.quiet k2)
  have K2 := Kept.mk (K1.out.trans k2)
  clear k2 HF1 HO1 HB1 HD1 K1
  clear y0 y1 y2 y3 y4 y5 y6 y7 y8 y9 y10 x0 x1 x2 x3 x4 x5
  obtain ⟨y0, y1, y2, y3, y4, y5, y6, y7, y8, y9, y10⟩ := blk11 HB2.out
  obtain ⟨x0, x1, x2, x3, x4, x5⟩ := blk6 HO2.out
  go_wp2_with fail
  refine (awake_to _).mono ?_
  rintro e w9 ⟨rfl, k9⟩
  go_wp2_with fail
  go_ret
  exact ⟨rfl, K2.out.trans k9⟩
set_option linter.unusedSimpArgs false in
set_option maxRecDepth 100000 in
set_option maxHeartbeats 16000000 in
theorem dmg_2 (o : Ord) (a da ua : Option Addr) (c dc uc : Nat) (done undone : List Bool) (asked yes turned a0 a1 shipped d0 d1 acc e0 e1 : Bool) (w : World) (h : FcAt w o a c ⟨done, undone, asked, yes, turned, a0, a1, shipped, d0, d1, acc⟩ da ua) (hl : lightB o ⟨done, undone, asked, yes, turned, a0, a1, shipped, d0, d1, acc⟩ = true) (hm : Fct.may o ⟨done, undone, asked, yes, turned, a0, a1, shipped, d0, d1, acc⟩ = true) (hy : yes = false) (ht : turned = false) :
    Calls Try.prog 7 #[.agg #[.int .i64 o.id, .int .i64 o.item, .int .i64 o.qty, .int .i64 o.client, .int .i64 o.price, .slice a o.steps.length c], .agg #[.slice da done.length dc, .slice ua undone.length uc, .bool asked, .bool yes, .bool turned, .bool a0, .bool a1, .bool shipped, .bool d0, .bool d1, .bool acc], .agg #[.bool e0, .bool e1]] w (fun e w' => e = .returned (.bool true) ∧ Keeps (fun _ => False) w w') := by
  have K0 : Kept (Keeps (fun _ => False) w (((w.alloc (.cells #[.int .i64 o.id, .int .i64 o.item, .int .i64 o.qty, .int .i64 o.client, .int .i64 o.price, .slice a o.steps.length c] 24)).alloc (.cells #[.slice da done.length dc, .slice ua undone.length uc, .bool asked, .bool yes, .bool turned, .bool a0, .bool a1, .bool shipped, .bool d0, .bool d1, .bool acc] 31)).alloc (.cells #[.bool e0, .bool e1] 29))) := ⟨(((Keeps.refl _ w).alloc _).alloc _).alloc _⟩
  have HF0 := Kept.mk (h.keeps K0.out)
  have HO0 := Kept.mk (((Blk.new' w 24 [.int .i64 o.id, .int .i64 o.item, .int .i64 o.qty, .int .i64 o.client, .int .i64 o.price, .slice a o.steps.length c] _ rfl).alloc (.cells #[.slice da done.length dc, .slice ua undone.length uc, .bool asked, .bool yes, .bool turned, .bool a0, .bool a1, .bool shipped, .bool d0, .bool d1, .bool acc] 31)).alloc (.cells #[.bool e0, .bool e1] 29))
  have HB0 := Kept.mk ((Blk.new' (w.alloc (.cells #[.int .i64 o.id, .int .i64 o.item, .int .i64 o.qty, .int .i64 o.client, .int .i64 o.price, .slice a o.steps.length c] 24)) 31 [.slice da done.length dc, .slice ua undone.length uc, .bool asked, .bool yes, .bool turned, .bool a0, .bool a1, .bool shipped, .bool d0, .bool d1, .bool acc] (w.heap.size + 1) (by simp)).alloc (.cells #[.bool e0, .bool e1] 29))
  have HD0 := Kept.mk (Blk.new' ((w.alloc (.cells #[.int .i64 o.id, .int .i64 o.item, .int .i64 o.qty, .int .i64 o.client, .int .i64 o.price, .slice a o.steps.length c] 24)).alloc (.cells #[.slice da done.length dc, .slice ua undone.length uc, .bool asked, .bool yes, .bool turned, .bool a0, .bool a1, .bool shipped, .bool d0, .bool d1, .bool acc] 31)) 29 [.bool e0, .bool e1] (w.heap.size + 1 + 1) (by simp))
  have hsm := Kept.mk h.sm
  have hdm := Kept.mk h.dm
  have hum := Kept.mk h.um
  have Hh := Kept.mk h
  clear h
  subst hy
  subst ht
  have Hl := Kept.mk hl
  have Hm := Kept.mk hm
  clear hl hm
  go_enter Try.func7, Try.ntmps7
  go_wp2_with fail
  refine (light_to o a da ua c dc uc done undone asked false false a0 a1 shipped d0 d1 acc true _ hsm.out hdm.out hum.out Hl.out).mono ?_
  rintro e w1 ⟨rfl, k1⟩
  have HF1 := Kept.mk (HF0.out.keeps k1)
  have HO1 := Kept.mk (HO0.out.quiet k1)
  have HB1 := Kept.mk (HB0.out.quiet k1)
  have HD1 := Kept.mk (HD0.out.quiet k1)
  have K1 := Kept.mk (K0.out.trans k1)
  clear k1 HF0 HO0 HB0 HD0 K0
  obtain ⟨y0, y1, y2, y3, y4, y5, y6, y7, y8, y9, y10⟩ := blk11 HB1.out
  obtain ⟨x0, x1, x2, x3, x4, x5⟩ := blk6 HO1.out
  go_wp2_with fail
  refine (fmay_to o a da ua c dc uc ⟨done, undone, asked, false, false, a0, a1, shipped, d0, d1, acc⟩ true _ HF1.out Hm.out).mono ?_
  rintro e w2 ⟨rfl, k2⟩
  have HF2 := Kept.mk (HF1.out.keeps k2)
  have HO2 := Kept.mk (HO1.out.quiet k2)
  have HB2 := Kept.mk (HB1.out.quiet k2)
  have HD2 := Kept.mk (HD1.out.quiet k2)
  have K2 := Kept.mk (K1.out.trans k2)
  clear k2 HF1 HO1 HB1 HD1 K1
  clear y0 y1 y2 y3 y4 y5 y6 y7 y8 y9 y10 x0 x1 x2 x3 x4 x5
  obtain ⟨y0, y1, y2, y3, y4, y5, y6, y7, y8, y9, y10⟩ := blk11 HB2.out
  obtain ⟨x0, x1, x2, x3, x4, x5⟩ := blk6 HO2.out
  go_wp2_with fail
  refine (awake_to _).mono ?_
  rintro e w9 ⟨rfl, k9⟩
  go_wp2_with fail
  go_ret
  exact ⟨rfl, K2.out.trans k9⟩
end Go.Proofs.Ytfcnegnkmacajaa
