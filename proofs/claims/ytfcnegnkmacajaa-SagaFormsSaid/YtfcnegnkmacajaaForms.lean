/- The law SagaForms, walked. (printed by gen/forms.py) -/
import Derived.Test.YtfcnegnkmacajaaRNeeds
import Derived.Test.YtfcnegnkmacajaaDamage0
namespace Go.Proofs.Ytfcnegnkmacajaa
open Go.RowKit
theorem s28 {W : World} {b p q : Nat} {T U V : TypeId} {v0 v1 v2 v3 v4 v5 i0 i1 i2 i3 i4 i5 i6 i7 i8 i9 i10 j0 j1 j2 j3 j4 j5 j6 j7 j8 j9 j10 : Value} (h : Blk W b T [v0, v1, v2, v3, v4, v5]) (h1 : Blk W p U [i0, i1, i2, i3, i4, i5, i6, i7, i8, i9, i10]) (h2 : Blk W q V [j0, j1, j2, j3, j4, j5, j6, j7, j8, j9, j10]) :
    W.cell? ⟨b, 0, none⟩ = some v0 ∧ W.cell? ⟨b, 1, none⟩ = some v1 ∧ W.cell? ⟨b, 2, none⟩ = some v2 ∧ W.cell? ⟨b, 3, none⟩ = some v3 ∧ W.cell? ⟨b, 4, none⟩ = some v4 ∧ W.cell? ⟨b, 5, none⟩ = some v5 ∧ W.cell? ⟨p, 0, none⟩ = some i0 ∧ W.cell? ⟨p, 1, none⟩ = some i1 ∧ W.cell? ⟨p, 2, none⟩ = some i2 ∧ W.cell? ⟨p, 3, none⟩ = some i3 ∧ W.cell? ⟨p, 4, none⟩ = some i4 ∧ W.cell? ⟨p, 5, none⟩ = some i5 ∧ W.cell? ⟨p, 6, none⟩ = some i6 ∧ W.cell? ⟨p, 7, none⟩ = some i7 ∧ W.cell? ⟨p, 8, none⟩ = some i8 ∧ W.cell? ⟨p, 9, none⟩ = some i9 ∧ W.cell? ⟨p, 10, none⟩ = some i10 ∧ W.cell? ⟨q, 0, none⟩ = some j0 ∧ W.cell? ⟨q, 1, none⟩ = some j1 ∧ W.cell? ⟨q, 2, none⟩ = some j2 ∧ W.cell? ⟨q, 3, none⟩ = some j3 ∧ W.cell? ⟨q, 4, none⟩ = some j4 ∧ W.cell? ⟨q, 5, none⟩ = some j5 ∧ W.cell? ⟨q, 6, none⟩ = some j6 ∧ W.cell? ⟨q, 7, none⟩ = some j7 ∧ W.cell? ⟨q, 8, none⟩ = some j8 ∧ W.cell? ⟨q, 9, none⟩ = some j9 ∧ W.cell? ⟨q, 10, none⟩ = some j10 :=
  ⟨h.cell 0 rfl, h.cell 1 rfl, h.cell 2 rfl, h.cell 3 rfl, h.cell 4 rfl, h.cell 5 rfl, h1.cell 0 rfl, h1.cell 1 rfl, h1.cell 2 rfl, h1.cell 3 rfl, h1.cell 4 rfl, h1.cell 5 rfl, h1.cell 6 rfl, h1.cell 7 rfl, h1.cell 8 rfl, h1.cell 9 rfl, h1.cell 10 rfl, h2.cell 0 rfl, h2.cell 1 rfl, h2.cell 2 rfl, h2.cell 3 rfl, h2.cell 4 rfl, h2.cell 5 rfl, h2.cell 6 rfl, h2.cell 7 rfl, h2.cell 8 rfl, h2.cell 9 rfl, h2.cell 10 rfl⟩
set_option linter.unusedSimpArgs false in
set_option maxRecDepth 100000 in
set_option maxHeartbeats 16000000 in
theorem forms_0 (o : Ord) (a da ua : Option Addr) (c dc uc : Nat) (done undone : List Bool) (asked yes turned a0 a1 shipped d0 d1 acc : Bool) (w : World) (h : FcAt w o a c ⟨done, undone, asked, yes, turned, a0, a1, shipped, d0, d1, acc⟩ da ua) (hc : o.steps.length ≤ c) (hcm : c ≤ maxLen) (hl : lightB o ⟨done, undone, asked, yes, turned, a0, a1, shipped, d0, d1, acc⟩ = false) :
    Calls Try.prog 5 #[.agg #[.int .i64 o.id, .int .i64 o.item, .int .i64 o.qty, .int .i64 o.client, .int .i64 o.price, .slice a o.steps.length c], .agg #[.slice da done.length dc, .slice ua undone.length uc, .bool asked, .bool yes, .bool turned, .bool a0, .bool a1, .bool shipped, .bool d0, .bool d1, .bool acc]] w (fun e w' => e = .returned (.bool true) ∧ Keeps (fun _ => False) w w') := by
  have K0 : Kept (Keeps (fun _ => False) w ((w.alloc (.cells #[.int .i64 o.id, .int .i64 o.item, .int .i64 o.qty, .int .i64 o.client, .int .i64 o.price, .slice a o.steps.length c] 24)).alloc (.cells #[.slice da done.length dc, .slice ua undone.length uc, .bool asked, .bool yes, .bool turned, .bool a0, .bool a1, .bool shipped, .bool d0, .bool d1, .bool acc] 31))) := ⟨((Keeps.refl _ w).alloc _).alloc _⟩
  have HO0 := Kept.mk ((Blk.new' w 24 [.int .i64 o.id, .int .i64 o.item, .int .i64 o.qty, .int .i64 o.client, .int .i64 o.price, .slice a o.steps.length c] _ rfl).alloc (.cells #[.slice da done.length dc, .slice ua undone.length uc, .bool asked, .bool yes, .bool turned, .bool a0, .bool a1, .bool shipped, .bool d0, .bool d1, .bool acc] 31))
  have HB0 := Kept.mk (Blk.new' (w.alloc (.cells #[.int .i64 o.id, .int .i64 o.item, .int .i64 o.qty, .int .i64 o.client, .int .i64 o.price, .slice a o.steps.length c] 24)) 31 [.slice da done.length dc, .slice ua undone.length uc, .bool asked, .bool yes, .bool turned, .bool a0, .bool a1, .bool shipped, .bool d0, .bool d1, .bool acc] (w.heap.size + 1) (by simp))
  have hsm := Kept.mk h.sm
  have hdm := Kept.mk h.dm
  have hum := Kept.mk h.um
  have Hh := Kept.mk h
  clear h
  have Hl := Kept.mk hl
  clear hl
  go_enter Try.func5, Try.ntmps5
  go_wp2_with fail
  refine (light_to o a da ua c dc uc done undone asked yes turned a0 a1 shipped d0 d1 acc false _ hsm.out hdm.out hum.out Hl.out).mono ?_
  rintro e w1 ⟨rfl, k1⟩
  have HB1 := Kept.mk (HB0.out.quiet k1)
  have HO1 := Kept.mk (HO0.out.quiet k1)
  have K1 := Kept.mk (K0.out.trans k1)
  clear k1 HB0 HO0 K0
  obtain ⟨y0, y1, y2, y3, y4, y5, y6, y7, y8, y9, y10⟩ := blk11 HB1.out
  obtain ⟨x0, x1, x2, x3, x4, x5⟩ := blk6 HO1.out
  go_wp2_with fail
  refine (awake_to _).mono ?_
  rintro e w9 ⟨rfl, k9⟩
  go_wp2_with fail
  go_ret
  exact ⟨rfl, K1.out.trans k9⟩
set_option linter.unusedSimpArgs false in
set_option maxRecDepth 100000 in
set_option maxHeartbeats 16000000 in
theorem forms_1 (o : Ord) (a da ua : Option Addr) (c dc uc : Nat) (done undone : List Bool) (asked yes turned a0 a1 shipped d0 d1 acc : Bool) (w : World) (h : FcAt w o a c ⟨done, undone, asked, yes, turned, a0, a1, shipped, d0, d1, acc⟩ da ua) (hc : o.steps.length ≤ c) (hcm : c ≤ maxLen) (hl : lightB o ⟨done, undone, asked, yes, turned, a0, a1, shipped, d0, d1, acc⟩ = true) :
    Calls Try.prog 5 #[.agg #[.int .i64 o.id, .int .i64 o.item, .int .i64 o.qty, .int .i64 o.client, .int .i64 o.price, .slice a o.steps.length c], .agg #[.slice da done.length dc, .slice ua undone.length uc, .bool asked, .bool yes, .bool turned, .bool a0, .bool a1, .bool shipped, .bool d0, .bool d1, .bool acc]] w (fun e w' => e = .returned (.bool true) ∧ Keeps (fun _ => False) w w') := by
  have K0 : Kept (Keeps (fun _ => False) w ((w.alloc (.cells #[.int .i64 o.id, .int .i64 o.item, .int .i64 o.qty, .int .i64 o.client, .int .i64 o.price, .slice a o.steps.length c] 24)).alloc (.cells #[.slice da done.length dc, .slice ua undone.length uc, .bool asked, .bool yes, .bool turned, .bool a0, .bool a1, .bool shipped, .bool d0, .bool d1, .bool acc] 31))) := ⟨((Keeps.refl _ w).alloc _).alloc _⟩
  have HO0 := Kept.mk ((Blk.new' w 24 [.int .i64 o.id, .int .i64 o.item, .int .i64 o.qty, .int .i64 o.client, .int .i64 o.price, .slice a o.steps.length c] _ rfl).alloc (.cells #[.slice da done.length dc, .slice ua undone.length uc, .bool asked, .bool yes, .bool turned, .bool a0, .bool a1, .bool shipped, .bool d0, .bool d1, .bool acc] 31))
  have HB0 := Kept.mk (Blk.new' (w.alloc (.cells #[.int .i64 o.id, .int .i64 o.item, .int .i64 o.qty, .int .i64 o.client, .int .i64 o.price, .slice a o.steps.length c] 24)) 31 [.slice da done.length dc, .slice ua undone.length uc, .bool asked, .bool yes, .bool turned, .bool a0, .bool a1, .bool shipped, .bool d0, .bool d1, .bool acc] (w.heap.size + 1) (by simp))
  have hsm := Kept.mk h.sm
  have hdm := Kept.mk h.dm
  have hum := Kept.mk h.um
  have Hh := Kept.mk h
  clear h
  obtain ⟨LN, hLN⟩ : ∃ LN, nextL o ⟨done, undone, asked, yes, turned, a0, a1, shipped, d0, d1, acc⟩ = LN := ⟨_, rfl⟩
  have HLn : Kept (LN.length ≤ 100000) := ⟨by rw [← hLN]; have := nextL_len o ⟨done, undone, asked, yes, turned, a0, a1, shipped, d0, d1, acc⟩; omega⟩
  have HLN := Kept.mk hLN
  clear hLN
  have Hl := Kept.mk hl
  clear hl
  go_enter Try.func5, Try.ntmps5
  go_wp2_with fail
  refine (light_to o a da ua c dc uc done undone asked yes turned a0 a1 shipped d0 d1 acc true _ hsm.out hdm.out hum.out Hl.out).mono ?_
  rintro e w1 ⟨rfl, k1⟩
  have HB1 := Kept.mk (HB0.out.quiet k1)
  have HO1 := Kept.mk (HO0.out.quiet k1)
  have K1 := Kept.mk (K0.out.trans k1)
  clear k1 HB0 HO0 K0
  obtain ⟨y0, y1, y2, y3, y4, y5, y6, y7, y8, y9, y10⟩ := blk11 HB1.out
  obtain ⟨x0, x1, x2, x3, x4, x5⟩ := blk6 HO1.out
  go_wp2_with fail
  refine (lfacts_to da ua done.length dc undone.length uc asked yes turned a0 a1 shipped d0 d1 acc _).mono ?_
  rintro e w2 ⟨rfl, k2⟩
  have HB2 := Kept.mk (HB1.out.quiet k2)
  have HO2 := Kept.mk (HO1.out.quiet k2)
  have K2 := Kept.mk (K1.out.trans k2)
  clear k2 HB1 HO1 K1
  clear y0 y1 y2 y3 y4 y5 y6 y7 y8 y9 y10 x0 x1 x2 x3 x4 x5
  go_wp2_with fail
  obtain ⟨w8, hw8⟩ : ∃ w8, (w2.alloc (.cells #[.slice da done.length dc, .slice ua undone.length uc, .bool asked, .bool yes, .bool turned, .bool a0, .bool a1, .bool shipped, .bool d0, .bool d1, .bool acc] 42)) = w8 := ⟨_, rfl⟩
  have HO9 : Kept (Blk w8 w.heap.size 24 [.int .i64 o.id, .int .i64 o.item, .int .i64 o.qty, .int .i64 o.client, .int .i64 o.price, .slice a o.steps.length c]) := ⟨by rw [← hw8]; exact HO2.out.alloc _⟩
  have HB9 : Kept (Blk w8 (w.heap.size + 1) 31 [.slice da done.length dc, .slice ua undone.length uc, .bool asked, .bool yes, .bool turned, .bool a0, .bool a1, .bool shipped, .bool d0, .bool d1, .bool acc]) := ⟨by rw [← hw8]; exact HB2.out.alloc _⟩
  have HG9 : Kept (Blk w8 w2.heap.size 42 [.slice da done.length dc, .slice ua undone.length uc, .bool asked, .bool yes, .bool turned, .bool a0, .bool a1, .bool shipped, .bool d0, .bool d1, .bool acc]) := ⟨by rw [← hw8]; exact Blk.new' _ 42 [.slice da done.length dc, .slice ua undone.length uc, .bool asked, .bool yes, .bool turned, .bool a0, .bool a1, .bool shipped, .bool d0, .bool d1, .bool acc] _ rfl⟩
  have K9 : Kept (Keeps (fun _ => False) w w8) := ⟨by rw [← hw8]; exact K2.out.alloc _⟩
  have HF9 := Kept.mk (Hh.out.keeps K9.out)
  have KC : Kept (Keeps (fun _ => False) w8 (w8.drewN 1)) := ⟨(Keeps.refl _ _).drewN 1⟩
  rw [hw8]
  clear hw8
  go_region_held3 (fun W => W.cell? ⟨w.heap.size, 0, none⟩ = some (.int .i64 o.id) ∧ W.cell? ⟨w.heap.size, 1, none⟩ = some (.int .i64 o.item) ∧ W.cell? ⟨w.heap.size, 2, none⟩ = some (.int .i64 o.qty) ∧ W.cell? ⟨w.heap.size, 3, none⟩ = some (.int .i64 o.client) ∧ W.cell? ⟨w.heap.size, 4, none⟩ = some (.int .i64 o.price) ∧ W.cell? ⟨w.heap.size, 5, none⟩ = some (.slice a o.steps.length c) ∧ W.cell? ⟨w.heap.size + 1, 0, none⟩ = some (.slice da done.length dc) ∧ W.cell? ⟨w.heap.size + 1, 1, none⟩ = some (.slice ua undone.length uc) ∧ W.cell? ⟨w.heap.size + 1, 2, none⟩ = some (.bool asked) ∧ W.cell? ⟨w.heap.size + 1, 3, none⟩ = some (.bool yes) ∧ W.cell? ⟨w.heap.size + 1, 4, none⟩ = some (.bool turned) ∧ W.cell? ⟨w.heap.size + 1, 5, none⟩ = some (.bool a0) ∧ W.cell? ⟨w.heap.size + 1, 6, none⟩ = some (.bool a1) ∧ W.cell? ⟨w.heap.size + 1, 7, none⟩ = some (.bool shipped) ∧ W.cell? ⟨w.heap.size + 1, 8, none⟩ = some (.bool d0) ∧ W.cell? ⟨w.heap.size + 1, 9, none⟩ = some (.bool d1) ∧ W.cell? ⟨w.heap.size + 1, 10, none⟩ = some (.bool acc) ∧ W.cell? ⟨w2.heap.size, 0, none⟩ = some (.slice da done.length dc) ∧ W.cell? ⟨w2.heap.size, 1, none⟩ = some (.slice ua undone.length uc) ∧ W.cell? ⟨w2.heap.size, 2, none⟩ = some (.bool asked) ∧ W.cell? ⟨w2.heap.size, 3, none⟩ = some (.bool yes) ∧ W.cell? ⟨w2.heap.size, 4, none⟩ = some (.bool turned) ∧ W.cell? ⟨w2.heap.size, 5, none⟩ = some (.bool a0) ∧ W.cell? ⟨w2.heap.size, 6, none⟩ = some (.bool a1) ∧ W.cell? ⟨w2.heap.size, 7, none⟩ = some (.bool shipped) ∧ W.cell? ⟨w2.heap.size, 8, none⟩ = some (.bool d0) ∧ W.cell? ⟨w2.heap.size, 9, none⟩ = some (.bool d1) ∧ W.cell? ⟨w2.heap.size, 10, none⟩ = some (.bool acc)) ((exact s28 (HO9.out.quiet KC.out) (HB9.out.quiet KC.out) (HG9.out.quiet KC.out))) (first
    | (go_at_call 15; refine (fmay_to o a da ua c dc uc ⟨done, undone, asked, yes, turned, a0, a1, shipped, d0, d1, acc⟩ _ _ (HF9.out.keeps KC.out) rfl).mono ?_; rintro e w' ⟨rfl, k'⟩; have KC := Kept.mk (KC.out.trans k'); clear k')
    | (go_at_call 16; refine (rmay_to o a da ua c dc uc ⟨done, undone, asked, yes, turned, a0, a1, shipped, d0, d1, acc⟩ _ (HF9.out.keeps KC.out) hc hcm).mono ?_; rintro e w' ⟨rfl, k'⟩; have KC := Kept.mk (KC.out.trans k'); clear k')
    | (go_at_call 12; refine (state_to o a da ua c dc uc ⟨done, undone, asked, yes, turned, a0, a1, shipped, d0, d1, acc⟩ _ _ (HF9.out.keeps KC.out) rfl).mono ?_; rintro e w' ⟨rfl, k'⟩; have KC := Kept.mk (KC.out.trans k'); clear k')
    | (go_at_call 17; refine (rstate_to o a da ua c dc uc ⟨done, undone, asked, yes, turned, a0, a1, shipped, d0, d1, acc⟩ _ (HF9.out.keeps KC.out) hc hcm).mono ?_; rintro e w' ⟨rfl, k'⟩; have KC := Kept.mk (KC.out.trans k'); clear k')
    | (go_at_call 18; refine (over_to o a da ua c dc uc ⟨done, undone, asked, yes, turned, a0, a1, shipped, d0, d1, acc⟩ _ _ (HF9.out.keeps KC.out) rfl).mono ?_; rintro e w' ⟨rfl, k'⟩; have KC := Kept.mk (KC.out.trans k'); clear k')
    | (go_at_call 19; refine (roover_to o a da ua c dc uc ⟨done, undone, asked, yes, turned, a0, a1, shipped, d0, d1, acc⟩ _ (HF9.out.keeps KC.out) hc hcm).mono ?_; rintro e w' ⟨rfl, k'⟩; have KC := Kept.mk (KC.out.trans k'); clear k')
    | (go_at_call 11; refine (next_to o a da ua c dc uc ⟨done, undone, asked, yes, turned, a0, a1, shipped, d0, d1, acc⟩ _ (HF9.out.keeps KC.out)).mono ?_; rintro e w' ⟨⟨v, rfl, hM⟩, k'⟩; rw [HLN.out] at hM; obtain ⟨va, vc, rfl, _⟩ := hM.slice; have KC := Kept.mk (KC.out.trans k'); (first | (have HR2 := Kept.mk (HR1.out.quiet k'); have HR1 := Kept.mk hM.row) | have HR1 := Kept.mk hM.row); clear k' hM)
    | (go_at_call 21; refine (rneeds_to o a da ua c dc uc ⟨done, undone, asked, yes, turned, a0, a1, shipped, d0, d1, acc⟩ _ (HF9.out.keeps KC.out) hc hcm).mono ?_; rintro e w' ⟨⟨v, rfl, hM⟩, k'⟩; rw [HLN.out] at hM; obtain ⟨va, vc, rfl, _⟩ := hM.slice; have KC := Kept.mk (KC.out.trans k'); (first | (have HR2 := Kept.mk (HR1.out.quiet k'); have HR1 := Kept.mk hM.row) | have HR1 := Kept.mk hM.row); clear k' hM)
    | (go_at_call 20; refine (sameMs_yes _ _ _ _ _ LN _ (by first | exact HR1.out | exact HR2.out) (by first | exact HR1.out | exact HR2.out) rfl HLn.out).mono ?_; rintro e _ ⟨rfl, n', rfl⟩; have KC := Kept.mk (KC.out.drewN n'))
    | (go_at_call 10; refine (awake_to _).mono ?_; rintro e w' ⟨rfl, k'⟩; have KC := Kept.mk (KC.out.trans k'); clear k'))
  all_goals
    go_wp2_with fail
    go_ret
    exact ⟨rfl, K9.out.trans KC.out⟩
theorem forms_any (o : Ord) (a da ua : Option Addr) (c dc uc : Nat) (f : Fct) (w : World) (h : FcAt w o a c f da ua) (hc : o.steps.length ≤ c) (hcm : c ≤ maxLen) :
    Calls Try.prog 5 #[.agg #[.int .i64 o.id, .int .i64 o.item, .int .i64 o.qty, .int .i64 o.client, .int .i64 o.price, .slice a o.steps.length c], .agg #[.slice da f.done.length dc, .slice ua f.undone.length uc, .bool f.asked, .bool f.yes, .bool f.turned, .bool f.a0, .bool f.a1, .bool f.shipped, .bool f.d0, .bool f.d1, .bool f.acc]] w (Yes w) := by
  have key : Calls Try.prog 5 #[.agg #[.int .i64 o.id, .int .i64 o.item, .int .i64 o.qty, .int .i64 o.client, .int .i64 o.price, .slice a o.steps.length c], .agg #[.slice da f.done.length dc, .slice ua f.undone.length uc, .bool f.asked, .bool f.yes, .bool f.turned, .bool f.a0, .bool f.a1, .bool f.shipped, .bool f.d0, .bool f.d1, .bool f.acc]] w (fun e w' => e = .returned (.bool true) ∧ Keeps (fun _ => False) w w') := by
    obtain ⟨done, undone, asked, yes, turned, a0, a1, shipped, d0, d1, acc⟩ := f
    cases hl : lightB o ⟨done, undone, asked, yes, turned, a0, a1, shipped, d0, d1, acc⟩ with
    | false => exact forms_0 o a da ua c dc uc done undone asked yes turned a0 a1 shipped d0 d1 acc w h hc hcm hl
    | true => exact forms_1 o a da ua c dc uc done undone asked yes turned a0 a1 shipped d0 d1 acc w h hc hcm hl
  exact key.mono fun _ _ ⟨he, k⟩ => ⟨he, k.below (Nat.le_refl _) (fun _ h => h.elim)⟩
end Go.Proofs.Ytfcnegnkmacajaa
