/- The law SagaDamage, walked, part A. (printed by gen/damage.py) -/
import Derived.Test.YtfcnegnkmacajaaDamage0
namespace Go.Proofs.Ytfcnegnkmacajaa
open Go.RowKit
set_option linter.unusedSimpArgs false in
set_option maxRecDepth 100000 in
set_option maxHeartbeats 16000000 in
theorem dmg_yes1 (o : Ord) (a da ua : Option Addr) (c dc uc : Nat) (done undone : List Bool) (asked yes turned a0 a1 shipped d0 d1 acc e0 e1 : Bool) (w : World) (h : FcAt w o a c ⟨done, undone, asked, yes, turned, a0, a1, shipped, d0, d1, acc⟩ da ua) (hl : lightB o ⟨done, undone, asked, yes, turned, a0, a1, shipped, d0, d1, acc⟩ = true) (hm : Fct.may o ⟨done, undone, asked, yes, turned, a0, a1, shipped, d0, d1, acc⟩ = true) (hy : yes = true) (he : e0 = true) :
    Calls Try.prog 7 #[.agg #[.int .i64 o.id, .int .i64 o.item, .int .i64 o.qty, .int .i64 o.client, .int .i64 o.price, .slice a o.steps.length c], .agg #[.slice da done.length dc, .slice ua undone.length uc, .bool asked, .bool yes, .bool turned, .bool a0, .bool a1, .bool shipped, .bool d0, .bool d1, .bool acc], .agg #[.bool e0, .bool e1]] w (fun e w' => e = .returned (.bool true) ∧ Keeps (fun _ => False) w w') := by
  have K0 : Kept (Keeps (fun _ => False) w (((w.alloc (.cells #[.int .i64 o.id, .int .i64 o.item, .int .i64 o.qty, .int .i64 o.client, .int .i64 o.price, .slice a o.steps.length c] 24)).alloc (.cells #[.slice da done.length dc, .slice ua undone.length uc, .bool asked, .bool yes, .bool turned, .bool a0, .bool a1, .bool shipped, .bool d0, .bool d1, .bool acc] 31)).alloc (.cells #[.bool e0, .bool e1] 29))) := ⟨(((Keeps.refl _ w).alloc _).alloc _).alloc _⟩
  have HF0 := Kept.mk (h.keeps K0.out)
  have HO0 := Kept.mk (((Blk.new' w 24 [.int .i64 o.id, .int .i64 o.item, .int .i64 o.qty, .int .i64 o.client, .int .i64 o.price, .slice a o.steps.length c] _ rfl).alloc (.cells #[.slice da done.length dc, .slice ua undone.length uc, .bool asked, .bool yes, .bool turned, .bool a0, .bool a1, .bool shipped, .bool d0, .bool d1, .bool acc] 31)).alloc (.cells #[.bool e0, .bool e1] 29))
  have HB0 := Kept.mk ((Blk.new' (w.alloc (.cells #[.int .i64 o.id, .int .i64 o.item, .int .i64 o.qty, .int .i64 o.client, .int .i64 o.price, .slice a o.steps.length c] 24)) 31 [.slice da done.length dc, .slice ua undone.length uc, .bool asked, .bool yes, .bool turned, .bool a0, .bool a1, .bool shipped, .bool d0, .bool d1, .bool acc] (w.heap.size + 1) (by simp)).alloc (.cells #[.bool e0, .bool e1] 29))
  have HD0 := Kept.mk (Blk.new' ((w.alloc (.cells #[.int .i64 o.id, .int .i64 o.item, .int .i64 o.qty, .int .i64 o.client, .int .i64 o.price, .slice a o.steps.length c] 24)).alloc (.cells #[.slice da done.length dc, .slice ua undone.length uc, .bool asked, .bool yes, .bool turned, .bool a0, .bool a1, .bool shipped, .bool d0, .bool d1, .bool acc] 31)) 29 [.bool e0, .bool e1] (w.heap.size + 1 + 1) (by simp))
  have hsm := Kept.mk h.sm
  have hdm := Kept.mk h.dm
  have hum := Kept.mk h.um
  have Hh := Kept.mk h
  clear h
  subst he
  subst hy
  have Hl := Kept.mk hl
  have Hm := Kept.mk hm
  have E1 : Kept (((Fct.state o ⟨done, undone, asked, true, turned, a0, a1, shipped, true, e1, false⟩ == 7) == true) = true) := ⟨dmg_state true e1 hm (.inl rfl)⟩
  have E2 := Kept.mk (dmg_acc true e1 hm (.inl rfl))
  have E3 := Kept.mk (dmg_over true e1 hm (.inl rfl))
  obtain ⟨LN, hLA, hLB⟩ : ∃ LN, nextL o ⟨done, undone, asked, true, turned, a0, a1, shipped, true, e1, false⟩ = LN ∧ nextL o ⟨done, undone, asked, true, turned, a0, a1, shipped, false, false, false⟩ = LN := ⟨_, dmg_next true e1 hm (.inl rfl), rfl⟩
  have HLn : Kept (LN.length ≤ 100000) := ⟨by rw [← hLB]; have := nextL_len o ⟨done, undone, asked, true, turned, a0, a1, shipped, false, false, false⟩; omega⟩
  have HLA := Kept.mk hLA
  have HLB := Kept.mk hLB
  clear hl hm hLA hLB
  go_enter Try.func7, Try.ntmps7
  go_wp2_with fail
  refine (light_to o a da ua c dc uc done undone asked true turned a0 a1 shipped d0 d1 acc true _ hsm.out hdm.out hum.out Hl.out).mono ?_
  rintro e w1 ⟨rfl, k1⟩
  have HF1 := Kept.mk (HF0.out.keeps k1)
  have HO1 := Kept.mk (HO0.out.quiet k1)
  have HB1 := Kept.mk (HB0.out.quiet k1)
  have HD1 := Kept.mk (HD0.out.quiet k1)
  have K1 := Kept.mk (K0.out.trans k1)
  clear k1 HF0 HO0 HB0 HD0 K0
  obtain ⟨y0, y1, y2, y3, y4, y5, y6, y7, y8, y9, y10⟩ := blk11 HB1.out
  obtain ⟨x0, x1, x2, x3, x4, x5⟩ := blk6 HO1.out
  go_wp2_with fail
  refine (fmay_to o a da ua c dc uc ⟨done, undone, asked, true, turned, a0, a1, shipped, d0, d1, acc⟩ true _ HF1.out Hm.out).mono ?_
  rintro e w2 ⟨rfl, k2⟩
  have HF2 := Kept.mk (HF1.out.keeps k2)
  have HO2 := Kept.mk (HO1.out.quiet k2)
  have HB2 := Kept.mk (HB1.out.quiet k2)
  have HD2 := Kept.mk (HD1.out.quiet k2)
  have K2 := Kept.mk (K1.out.trans k2)
  clear k2 HF1 HO1 HB1 HD1 K1
  clear y0 y1 y2 y3 y4 y5 y6 y7 y8 y9 y10 x0 x1 x2 x3 x4 x5
  have HDlt := Kept.mk HD2.out.lt
  obtain ⟨y0, y1, y2, y3, y4, y5, y6, y7, y8, y9, y10⟩ := blk11 HB2.out
  obtain ⟨x0, x1, x2, x3, x4, x5⟩ := blk6 HO2.out
  go_upto_region 3 with fail
  go_cut [7, 8] from 9 to 83 (fun x y wc => ∃ p q : Nat, x = .pointer (some ⟨p, 0, none⟩) ∧ y = .pointer (some ⟨q, 0, none⟩) ∧ Kept (p ≠ q ∧ w2.heap.size ≤ p ∧ w2.heap.size ≤ q) ∧ Blk wc p 31 [.slice da done.length dc, .slice ua undone.length uc, .bool asked, .bool true, .bool turned, .bool a0, .bool a1, .bool shipped, .bool d0, .bool d1, .bool acc] ∧ Blk wc q 31 [.slice da done.length dc, .slice ua undone.length uc, .bool asked, .bool true, .bool turned, .bool a0, .bool a1, .bool shipped, .bool d0, .bool d1, .bool acc] ∧ Keeps (fun _ => False) w2 wc)
  case first =>
    go_region_held3 (fun W => W.cell? ⟨w.heap.size + 1, 0, none⟩ = some (.slice da done.length dc) ∧ W.cell? ⟨w.heap.size + 1, 1, none⟩ = some (.slice ua undone.length uc) ∧ W.cell? ⟨w.heap.size + 1, 2, none⟩ = some (.bool asked) ∧ W.cell? ⟨w.heap.size + 1, 3, none⟩ = some (.bool true) ∧ W.cell? ⟨w.heap.size + 1, 4, none⟩ = some (.bool turned) ∧ W.cell? ⟨w.heap.size + 1, 5, none⟩ = some (.bool a0) ∧ W.cell? ⟨w.heap.size + 1, 6, none⟩ = some (.bool a1) ∧ W.cell? ⟨w.heap.size + 1, 7, none⟩ = some (.bool shipped) ∧ W.cell? ⟨w.heap.size + 1, 8, none⟩ = some (.bool d0) ∧ W.cell? ⟨w.heap.size + 1, 9, none⟩ = some (.bool d1) ∧ W.cell? ⟨w.heap.size + 1, 10, none⟩ = some (.bool acc)) ((refine blk11 (T := 31) ?_; repeat (first | exact HB2.out | refine Blk.drew ?_ | refine Blk.alloc ?_ _ | exact HB2.out.drewN 1))) (first | fail)
    all_goals
      go_wp2_with fail
      go_meet
      refine ⟨_, _, rfl, rfl, ⟨by omega, by omega, by omega⟩, ?_, ?_, ?_⟩
      · refine Blk.drew ?_
        repeat (first | (refine Blk.new' _ _ _ _ ?_; simp; done) | refine Blk.alloc ?_ _)
      · refine Blk.drew ?_
        repeat (first | (refine Blk.new' _ _ _ _ ?_; simp; done) | refine Blk.alloc ?_ _)
      · repeat (first | exact Keeps.refl _ _ | refine Keeps.drew ?_ | refine Keeps.alloc ?_ _)
  case rest =>
  obtain ⟨p, q, rfl, rfl, hpq, hP, hQ, kc⟩ := hcut
  clear y0 y1 y2 y3 y4 y5 y6 y7 y8 y9 y10 x0 x1 x2 x3 x4 x5
  have HF3 := Kept.mk (HF2.out.keeps kc)
  have HO3 := Kept.mk (HO2.out.quiet kc)
  have HB3 := Kept.mk (HB2.out.quiet kc)
  have HD3 := Kept.mk (HD2.out.quiet kc)
  have K3 := Kept.mk (K2.out.trans kc)
  clear kc HF2 HO2 HB2 HD2 K2
  obtain ⟨hn1, hn2, hn3⟩ := hpq.out
  have hz := HD3.out.lt
  have hd0 := HD3.out.cell 0 rfl
  have hd1 := HD3.out.cell 1 rfl
  have hlt2 : w.heap.size + 1 + 1 < w2.heap.size := HDlt.out
  have hne1 : p ≠ w.heap.size + 1 + 1 := by omega
  have hne2 : q ≠ w.heap.size + 1 + 1 := by omega
  have HPc := Kept.mk hP
  have HQc := Kept.mk hQ
  have p0 := hP.cell 0 rfl
  have p1 := hP.cell 1 rfl
  have p2 := hP.cell 2 rfl
  have p3 := hP.cell 3 rfl
  have p4 := hP.cell 4 rfl
  have p5 := hP.cell 5 rfl
  have p6 := hP.cell 6 rfl
  have p7 := hP.cell 7 rfl
  have p8 := hP.cell 8 rfl
  have p9 := hP.cell 9 rfl
  have p10 := hP.cell 10 rfl
  have q0 := hQ.cell 0 rfl
  have q1 := hQ.cell 1 rfl
  have q2 := hQ.cell 2 rfl
  have q3 := hQ.cell 3 rfl
  have q4 := hQ.cell 4 rfl
  have q5 := hQ.cell 5 rfl
  have q6 := hQ.cell 6 rfl
  have q7 := hQ.cell 7 rfl
  have q8 := hQ.cell 8 rfl
  have q9 := hQ.cell 9 rfl
  have q10 := hQ.cell 10 rfl
  have fp8 := hP.frozen 8
  have fp9 := hP.frozen 9
  have fp10 := hP.frozen 10
  have fq8 := hQ.frozen 8
  have fq9 := hQ.frozen 9
  have fq10 := hQ.frozen 10
  clear hP hQ
  go_wp2_with fail
  obtain ⟨w8, hw8⟩ : ∃ w8, (((((((wc.setCell ⟨p, 8, none⟩ (.bool true)).setCell ⟨p, 9, none⟩ (.bool e1)).setCell ⟨q, 8, none⟩ (.bool false)).setCell ⟨q, 9, none⟩ (.bool false)).setCell ⟨p, 10, none⟩ (.bool false)).setCell ⟨q, 10, none⟩ (.bool false)).alloc (.cells #[.slice da done.length dc, .slice ua undone.length uc, .bool asked, .bool true, .bool turned, .bool a0, .bool a1, .bool shipped, .bool true, .bool e1, .bool true] 31)) = w8 := ⟨_, rfl⟩
  have hsz4 : ((((((wc.setCell ⟨p, 8, none⟩ (.bool true)).setCell ⟨p, 9, none⟩ (.bool e1)).setCell ⟨q, 8, none⟩ (.bool false)).setCell ⟨q, 9, none⟩ (.bool false)).setCell ⟨p, 10, none⟩ (.bool false)).setCell ⟨q, 10, none⟩ (.bool false)).heap.size = wc.heap.size := by simp [World.setCell]
  have HO9 : Kept (Blk w8 w.heap.size 24 [.int .i64 o.id, .int .i64 o.item, .int .i64 o.qty, .int .i64 o.client, .int .i64 o.price, .slice a o.steps.length c]) := ⟨by rw [← hw8]; exact ((((((HO3.out.other (p := ⟨p, 8, none⟩) (by show w.heap.size ≠ p; omega) (.bool true)).other (p := ⟨p, 9, none⟩) (by show w.heap.size ≠ p; omega) (.bool e1)).other (p := ⟨q, 8, none⟩) (by show w.heap.size ≠ q; omega) (.bool false)).other (p := ⟨q, 9, none⟩) (by show w.heap.size ≠ q; omega) (.bool false)).other (p := ⟨p, 10, none⟩) (by show w.heap.size ≠ p; omega) (.bool false)).other (p := ⟨q, 10, none⟩) (by show w.heap.size ≠ q; omega) (.bool false)).alloc _⟩
  have HP9 : Kept (Blk w8 p 31 [.slice da done.length dc, .slice ua undone.length uc, .bool asked, .bool true, .bool turned, .bool a0, .bool a1, .bool shipped, .bool true, .bool e1, .bool false]) := ⟨by rw [← hw8]; exact ((((((HPc.out.set 8 (.bool true)).set 9 (.bool e1)).other (p := ⟨q, 8, none⟩) (by show p ≠ q; omega) (.bool false)).other (p := ⟨q, 9, none⟩) (by show p ≠ q; omega) (.bool false)).set 10 (.bool false)).other (p := ⟨q, 10, none⟩) (by show p ≠ q; omega) (.bool false)).alloc _⟩
  have HQ9 : Kept (Blk w8 q 31 [.slice da done.length dc, .slice ua undone.length uc, .bool asked, .bool true, .bool turned, .bool a0, .bool a1, .bool shipped, .bool false, .bool false, .bool false]) := ⟨by rw [← hw8]; exact ((((((HQc.out.other (p := ⟨p, 8, none⟩) (by show q ≠ p; omega) (.bool true)).other (p := ⟨p, 9, none⟩) (by show q ≠ p; omega) (.bool e1)).set 8 (.bool false)).set 9 (.bool false)).other (p := ⟨p, 10, none⟩) (by show q ≠ p; omega) (.bool false)).set 10 (.bool false)).alloc _⟩
  have HR9 : Kept (Blk w8 wc.heap.size 31 [.slice da done.length dc, .slice ua undone.length uc, .bool asked, .bool true, .bool turned, .bool a0, .bool a1, .bool shipped, .bool true, .bool e1, .bool true]) := ⟨by rw [← hw8]; exact Blk.new' _ 31 [.slice da done.length dc, .slice ua undone.length uc, .bool asked, .bool true, .bool turned, .bool a0, .bool a1, .bool shipped, .bool true, .bool e1, .bool true] _ hsz4.symm⟩
  have K9 : Kept (Keeps (fun _ => False) w w8) := ⟨by rw [← hw8]; exact ((((((K3.out.setCell (p := ⟨p, 8, none⟩) (.inl (by show w.heap.size ≤ p; omega)) (.bool true)).setCell (p := ⟨p, 9, none⟩) (.inl (by show w.heap.size ≤ p; omega)) (.bool e1)).setCell (p := ⟨q, 8, none⟩) (.inl (by show w.heap.size ≤ q; omega)) (.bool false)).setCell (p := ⟨q, 9, none⟩) (.inl (by show w.heap.size ≤ q; omega)) (.bool false)).setCell (p := ⟨p, 10, none⟩) (.inl (by show w.heap.size ≤ p; omega)) (.bool false)).setCell (p := ⟨q, 10, none⟩) (.inl (by show w.heap.size ≤ q; omega)) (.bool false)).alloc _⟩
  have HF9 := Kept.mk (Hh.out.keeps K9.out)
  have KC : Kept (Keeps (fun _ => False) w8 (w8.drewN 1)) := ⟨(Keeps.refl _ _).drewN 1⟩
  rw [hw8]
  clear hw8 hsz4 hd0 hd1 p0 p1 p2 p3 p4 p5 p6 p7 p8 p9 p10 q0 q1 q2 q3 q4 q5 q6 q7 q8 q9 q10 fp8 fp9 fp10 fq8 fq9 fq10
  have g1 := E1.out
  have g2 := E2.out
  have g3 := E3.out
  clear E1 E2 E3
  go_region_held3 (fun W => W.cell? ⟨w.heap.size, 0, none⟩ = some (.int .i64 o.id) ∧ W.cell? ⟨w.heap.size, 1, none⟩ = some (.int .i64 o.item) ∧ W.cell? ⟨w.heap.size, 2, none⟩ = some (.int .i64 o.qty) ∧ W.cell? ⟨w.heap.size, 3, none⟩ = some (.int .i64 o.client) ∧ W.cell? ⟨w.heap.size, 4, none⟩ = some (.int .i64 o.price) ∧ W.cell? ⟨w.heap.size, 5, none⟩ = some (.slice a o.steps.length c) ∧ W.cell? ⟨p, 0, none⟩ = some (.slice da done.length dc) ∧ W.cell? ⟨p, 1, none⟩ = some (.slice ua undone.length uc) ∧ W.cell? ⟨p, 2, none⟩ = some (.bool asked) ∧ W.cell? ⟨p, 3, none⟩ = some (.bool true) ∧ W.cell? ⟨p, 4, none⟩ = some (.bool turned) ∧ W.cell? ⟨p, 5, none⟩ = some (.bool a0) ∧ W.cell? ⟨p, 6, none⟩ = some (.bool a1) ∧ W.cell? ⟨p, 7, none⟩ = some (.bool shipped) ∧ W.cell? ⟨p, 8, none⟩ = some (.bool true) ∧ W.cell? ⟨p, 9, none⟩ = some (.bool e1) ∧ W.cell? ⟨p, 10, none⟩ = some (.bool false) ∧ W.cell? ⟨q, 0, none⟩ = some (.slice da done.length dc) ∧ W.cell? ⟨q, 1, none⟩ = some (.slice ua undone.length uc) ∧ W.cell? ⟨q, 2, none⟩ = some (.bool asked) ∧ W.cell? ⟨q, 3, none⟩ = some (.bool true) ∧ W.cell? ⟨q, 4, none⟩ = some (.bool turned) ∧ W.cell? ⟨q, 5, none⟩ = some (.bool a0) ∧ W.cell? ⟨q, 6, none⟩ = some (.bool a1) ∧ W.cell? ⟨q, 7, none⟩ = some (.bool shipped) ∧ W.cell? ⟨q, 8, none⟩ = some (.bool false) ∧ W.cell? ⟨q, 9, none⟩ = some (.bool false) ∧ W.cell? ⟨q, 10, none⟩ = some (.bool false) ∧ W.cell? ⟨wc.heap.size, 0, none⟩ = some (.slice da done.length dc) ∧ W.cell? ⟨wc.heap.size, 1, none⟩ = some (.slice ua undone.length uc) ∧ W.cell? ⟨wc.heap.size, 2, none⟩ = some (.bool asked) ∧ W.cell? ⟨wc.heap.size, 3, none⟩ = some (.bool true) ∧ W.cell? ⟨wc.heap.size, 4, none⟩ = some (.bool turned) ∧ W.cell? ⟨wc.heap.size, 5, none⟩ = some (.bool a0) ∧ W.cell? ⟨wc.heap.size, 6, none⟩ = some (.bool a1) ∧ W.cell? ⟨wc.heap.size, 7, none⟩ = some (.bool shipped) ∧ W.cell? ⟨wc.heap.size, 8, none⟩ = some (.bool true) ∧ W.cell? ⟨wc.heap.size, 9, none⟩ = some (.bool e1) ∧ W.cell? ⟨wc.heap.size, 10, none⟩ = some (.bool true)) ((exact s39 (HO9.out.quiet KC.out) (HP9.out.quiet KC.out) (HQ9.out.quiet KC.out) (HR9.out.quiet KC.out))) (first
    | (go_at_call 12; refine (state_k o a da ua c dc uc done undone _ _ _ _ _ _ _ _ _ _ (by exact (HF9.out.keeps KC.out).turn rfl rfl)).mono ?_; rintro e w' ⟨rfl, k'⟩; have KC := Kept.mk (KC.out.trans k'); clear k')
    | (go_at_call 18; refine (over_k o a da ua c dc uc done undone _ _ _ _ _ _ _ _ _ _ (by exact (HF9.out.keeps KC.out).turn rfl rfl)).mono ?_; rintro e w' ⟨rfl, k'⟩; have KC := Kept.mk (KC.out.trans k'); clear k')
    | (go_at_call 11; refine (next_k o a da ua c dc uc done undone _ _ _ _ _ _ _ _ _ _ (by exact (HF9.out.keeps KC.out).turn rfl rfl)).mono ?_; rintro e w' ⟨⟨v, rfl, hM⟩, k'⟩; (first | rw [HLA.out] at hM | rw [HLB.out] at hM); obtain ⟨va, vc, rfl, _⟩ := hM.slice; have KC := Kept.mk (KC.out.trans k'); (first | (have HR2 := Kept.mk (HR1.out.quiet k'); have HR1 := Kept.mk hM.row) | have HR1 := Kept.mk hM.row); clear k' hM)
    | (go_at_call 20; refine (sameMs_yes _ _ _ _ _ LN _ (by first | exact HR1.out | exact HR2.out) (by first | exact HR1.out | exact HR2.out) rfl HLn.out).mono ?_; rintro e _ ⟨rfl, n', rfl⟩; have KC := Kept.mk (KC.out.drewN n'))
    | (go_at_call 10; refine (awake_to _).mono ?_; rintro e w' ⟨rfl, k'⟩; have KC := Kept.mk (KC.out.trans k'); clear k'))
  all_goals
    go_wp2_with fail
    go_ret
    exact ⟨rfl, K9.out.trans KC.out⟩
end Go.Proofs.Ytfcnegnkmacajaa
