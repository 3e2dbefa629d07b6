/- The law SagaSpoilt, walked. (printed by gen/spoilt.py) -/
import Derived.Test.YtfcnegnkmacajaaLaw16
namespace Go.Proofs.Ytfcnegnkmacajaa
open Go.RowKit
theorem run_append_zero {P : Program} {w : World} {base : Nat} {t ty e : TypeId} {i : TypeInfo} {size : Nat} (ht : P.underlying t = some (.slice e)) (hi : P.info? e = some i) {v : Value} {n : Nat} {xs : List Value} (hown : w.ownsRow base e size v n xs) (x : Option Addr) (c : Nat) :
    (Builtin.append_ #[t, t] ty #[v, .slice x 0 c]).run P w = .ok v w := by
  cases x <;> rcases hown.2 with ⟨rfl, rfl⟩ | ⟨g, cap, cur, rfl, _, _, hnc, _⟩
  · simp [Builtin.append_, run_underlying ht, sizeOf, typeInfo, hi, Builtin.lenOf, Builtin.firstCells]
  · simp [Builtin.append_, run_underlying ht, sizeOf, typeInfo, hi, Builtin.lenOf, Builtin.firstCells, hnc, storeCells]
  · simp [Builtin.append_, run_underlying ht, sizeOf, typeInfo, hi, Builtin.lenOf, Builtin.firstCells, loadCells, loadCellsFrom]
  · simp [Builtin.append_, run_underlying ht, sizeOf, typeInfo, hi, Builtin.lenOf, Builtin.firstCells, hnc, storeCells, loadCells, loadCellsFrom]
theorem bl_append_row {w : World} {base : Nat} {v : Value} {L M : List Bool} {x : Option Addr} {c : Nat} (h : w.ownsRow base 4 1 v L.length (L.map encB)) (hM : BlRow w x M) (hl : L.length + M.length ≤ 100000) (hb : base ≤ w.heap.size) :
    ∃ a' c' w', (Builtin.append_ #[28, 28] 28 #[v, .slice x M.length c]).run Try.prog w = .ok (.slice a' (L.length + M.length) c') w' ∧ w'.ownsRow base 4 1 (.slice a' (L.length + M.length) c') (L ++ M).length ((L ++ M).map encB) ∧ Keeps (fun k => v.ownBlock = some k) w w' := by
  obtain ⟨i0, hi, hz0, hz1, hz2⟩ := info_parts infoB
  obtain ⟨a0, c0, hv, _⟩ := ownsRow_open h (by omega)
  cases M with
  | nil =>
    have hrun := run_append_zero (P := Try.prog) (ty := 28) Try.underlying28 hi h x c
    refine ⟨a0, c0, w, ?_, ?_, Keeps.refl _ _⟩
    · simpa [← hv] using hrun
    · simpa [← hv] using h
  | cons y r =>
    obtain ⟨g, off, rfl, _⟩ := hM 0 y rfl
    obtain ⟨a', c', w', hrun, hown, k, _, _⟩ := run_append_new (P := Try.prog) w base 28 28 4 i0 _ 1 1 Try.underlying28 hi hz0 hz1 hz2 rfl (by omega) v L.length _ h ⟨g, off, none⟩ (y :: r).length c ((y :: r).map encB) (by simp)
      (hM.cells) (by intro u hu; rw [List.mem_map] at hu; obtain ⟨b, _, rfl⟩ := hu; rfl) (by unfold maxLen; omega) (by omega) hb
    refine ⟨a', c', w', hrun, ?_, k⟩
    rw [List.map_append, List.length_append]
    exact hown
theorem FcAt.turn {w : World} {o : Ord} {a da ua : Option Addr} {c : Nat} {f f' : Fct} (h : FcAt w o a c f da ua) (hd : f.done = f'.done) (hu : f.undone = f'.undone) : FcAt w o a c f' da ua := by
  obtain ⟨done, undone, _, _, _, _, _, _, _, _, _⟩ := f
  obtain ⟨done', undone', _, _, _, _, _, _, _, _, _⟩ := f'
  simp only at hd hu
  subst hd
  subst hu
  exact ⟨h.steps, h.sm, h.done, h.dm, h.undone, h.um⟩
theorem Fct.may_light {o : Ord} {f : Fct} (h : f.may o = true) : lightB o f = true := by
  obtain ⟨h0, h1, h2⟩ := Fct.may_parts h
  have := Ord.may_len h0
  simp only [lightB, Bool.and_eq_true, decide_eq_true_eq]
  omega
theorem Fct.may_state {o : Ord} {f : Fct} (h : f.may o = false) : f.state o = 0 := by simp [Fct.state, h]
theorem Fct.may_over {o : Ord} {f : Fct} (h : f.may o = false) : f.over o = false := by simp [Fct.over, h]
theorem Fct.may_next {o : Ord} {f : Fct} (h : f.may o = false) : nextL o f = [] := by simp [nextL, h]
set_option linter.unusedSimpArgs false in
set_option maxRecDepth 100000 in
set_option maxHeartbeats 16000000 in
theorem spoilt_no0 (o : Ord) (a da ua : Option Addr) (c dc uc : Nat) (done undone : List Bool) (asked yes turned a0 a1 shipped d0 d1 acc : Bool) (how : Int) (w : World) (h : FcAt w o a c ⟨done, undone, asked, yes, turned, a0, a1, shipped, d0, d1, acc⟩ da ua) (hm : Fct.may o ⟨done, undone, asked, yes, turned, a0, a1, shipped, d0, d1, acc⟩ = false) (hl : lightB o ⟨done, undone, asked, yes, turned, a0, a1, shipped, d0, d1, acc⟩ = false) :
    Calls Try.prog 8 #[.agg #[.int .i64 o.id, .int .i64 o.item, .int .i64 o.qty, .int .i64 o.client, .int .i64 o.price, .slice a o.steps.length c], .agg #[.slice da done.length dc, .slice ua undone.length uc, .bool asked, .bool yes, .bool turned, .bool a0, .bool a1, .bool shipped, .bool d0, .bool d1, .bool acc], .int .i64 how] w (fun e w' => e = .returned (.bool true) ∧ Keeps (fun _ => False) w w') := by
  have HF0 := Kept.mk ((h.alloc (.cells #[.int .i64 o.id, .int .i64 o.item, .int .i64 o.qty, .int .i64 o.client, .int .i64 o.price, .slice a o.steps.length c] 24)).alloc (.cells #[.slice da done.length dc, .slice ua undone.length uc, .bool asked, .bool yes, .bool turned, .bool a0, .bool a1, .bool shipped, .bool d0, .bool d1, .bool acc] 31))
  have HO0 := Kept.mk ((Blk.new' w 24 [.int .i64 o.id, .int .i64 o.item, .int .i64 o.qty, .int .i64 o.client, .int .i64 o.price, .slice a o.steps.length c] _ rfl).alloc (.cells #[.slice da done.length dc, .slice ua undone.length uc, .bool asked, .bool yes, .bool turned, .bool a0, .bool a1, .bool shipped, .bool d0, .bool d1, .bool acc] 31))
  have HB0 := Kept.mk (Blk.new' (w.alloc (.cells #[.int .i64 o.id, .int .i64 o.item, .int .i64 o.qty, .int .i64 o.client, .int .i64 o.price, .slice a o.steps.length c] 24)) 31 [.slice da done.length dc, .slice ua undone.length uc, .bool asked, .bool yes, .bool turned, .bool a0, .bool a1, .bool shipped, .bool d0, .bool d1, .bool acc] (w.heap.size + 1) (by simp))
  have K0 : Kept (Keeps (fun _ => False) w ((w.alloc (.cells #[.int .i64 o.id, .int .i64 o.item, .int .i64 o.qty, .int .i64 o.client, .int .i64 o.price, .slice a o.steps.length c] 24)).alloc (.cells #[.slice da done.length dc, .slice ua undone.length uc, .bool asked, .bool yes, .bool turned, .bool a0, .bool a1, .bool shipped, .bool d0, .bool d1, .bool acc] 31))) := ⟨((Keeps.refl _ w).alloc _).alloc _⟩
  have hsm := Kept.mk h.sm
  have hdm := Kept.mk h.dm
  have hum := Kept.mk h.um
  have Hh := Kept.mk h
  clear h
  have Hm := Kept.mk hm
  have Hl := Kept.mk hl
  have Hs := Kept.mk (Fct.may_state hm)
  have Hv := Kept.mk (Fct.may_over hm)
  have Hn := Kept.mk (Fct.may_next hm)
  clear hm hl
  go_enter Try.func8, Try.ntmps8
  go_wp2_with fail
  refine (light_to o a da ua c dc uc done undone asked yes turned a0 a1 shipped d0 d1 acc false _ hsm.out hdm.out hum.out Hl.out).mono ?_
  rintro e w1 ⟨rfl, k1⟩
  have HF1 := Kept.mk (HF0.out.keeps k1)
  have HO1 := Kept.mk (HO0.out.quiet k1)
  have HB1 := Kept.mk (HB0.out.quiet k1)
  have K1 := Kept.mk (K0.out.trans k1)
  clear k1 HF0 HO0 HB0 K0
  obtain ⟨y0, y1, y2, y3, y4, y5, y6, y7, y8, y9, y10⟩ := blk11 HB1.out
  obtain ⟨x0, x1, x2, x3, x4, x5⟩ := blk6 HO1.out
  go_wp2_with fail
  refine (state_to o a da ua c dc uc ⟨done, undone, asked, yes, turned, a0, a1, shipped, d0, d1, acc⟩ 0 _ HF1.out Hs.out).mono ?_
  rintro e w2 ⟨rfl, k2⟩
  have HF2 := Kept.mk (HF1.out.keeps k2)
  have HO2 := Kept.mk (HO1.out.quiet k2)
  have HB2 := Kept.mk (HB1.out.quiet k2)
  have K2 := Kept.mk (K1.out.trans k2)
  clear k2 HF1 HO1 HB1 K1
  clear y0 y1 y2 y3 y4 y5 y6 y7 y8 y9 y10 x0 x1 x2 x3 x4 x5
  obtain ⟨y0, y1, y2, y3, y4, y5, y6, y7, y8, y9, y10⟩ := blk11 HB2.out
  obtain ⟨x0, x1, x2, x3, x4, x5⟩ := blk6 HO2.out
  go_wp2_with fail
  refine (next_to o a da ua c dc uc ⟨done, undone, asked, yes, turned, a0, a1, shipped, d0, d1, acc⟩ _ HF2.out).mono ?_
  rintro e w3 ⟨⟨v, rfl, hM⟩, k3⟩
  rw [Hn.out] at hM
  obtain ⟨va, vc, rfl, _⟩ := hM.slice
  have HF3 := Kept.mk (HF2.out.keeps k3)
  have HO3 := Kept.mk (HO2.out.quiet k3)
  have HB3 := Kept.mk (HB2.out.quiet k3)
  have K3 := Kept.mk (K2.out.trans k3)
  clear k3 HF2 HO2 HB2 K2 hM
  clear y0 y1 y2 y3 y4 y5 y6 y7 y8 y9 y10 x0 x1 x2 x3 x4 x5
  obtain ⟨y0, y1, y2, y3, y4, y5, y6, y7, y8, y9, y10⟩ := blk11 HB3.out
  obtain ⟨x0, x1, x2, x3, x4, x5⟩ := blk6 HO3.out
  go_wp2_with fail
  refine (over_to o a da ua c dc uc ⟨done, undone, asked, yes, turned, a0, a1, shipped, d0, d1, acc⟩ false _ HF3.out Hv.out).mono ?_
  rintro e w4 ⟨rfl, k4⟩
  have HF4 := Kept.mk (HF3.out.keeps k4)
  have HO4 := Kept.mk (HO3.out.quiet k4)
  have HB4 := Kept.mk (HB3.out.quiet k4)
  have K4 := Kept.mk (K3.out.trans k4)
  clear k4 HF3 HO3 HB3 K3
  clear y0 y1 y2 y3 y4 y5 y6 y7 y8 y9 y10 x0 x1 x2 x3 x4 x5
  obtain ⟨y0, y1, y2, y3, y4, y5, y6, y7, y8, y9, y10⟩ := blk11 HB4.out
  obtain ⟨x0, x1, x2, x3, x4, x5⟩ := blk6 HO4.out
  go_wp2_with fail
  refine (awake_to _).mono ?_
  rintro e w9 ⟨rfl, k9⟩
  go_wp2_with fail
  go_ret
  exact ⟨rfl, K4.out.trans k9⟩
set_option linter.unusedSimpArgs false in
set_option maxRecDepth 100000 in
set_option maxHeartbeats 16000000 in
theorem spoilt_no1 (o : Ord) (a da ua : Option Addr) (c dc uc : Nat) (done undone : List Bool) (asked yes turned a0 a1 shipped d0 d1 acc : Bool) (how : Int) (w : World) (h : FcAt w o a c ⟨done, undone, asked, yes, turned, a0, a1, shipped, d0, d1, acc⟩ da ua) (hm : Fct.may o ⟨done, undone, asked, yes, turned, a0, a1, shipped, d0, d1, acc⟩ = false) (hl : lightB o ⟨done, undone, asked, yes, turned, a0, a1, shipped, d0, d1, acc⟩ = true) :
    Calls Try.prog 8 #[.agg #[.int .i64 o.id, .int .i64 o.item, .int .i64 o.qty, .int .i64 o.client, .int .i64 o.price, .slice a o.steps.length c], .agg #[.slice da done.length dc, .slice ua undone.length uc, .bool asked, .bool yes, .bool turned, .bool a0, .bool a1, .bool shipped, .bool d0, .bool d1, .bool acc], .int .i64 how] w (fun e w' => e = .returned (.bool true) ∧ Keeps (fun _ => False) w w') := by
  have HF0 := Kept.mk ((h.alloc (.cells #[.int .i64 o.id, .int .i64 o.item, .int .i64 o.qty, .int .i64 o.client, .int .i64 o.price, .slice a o.steps.length c] 24)).alloc (.cells #[.slice da done.length dc, .slice ua undone.length uc, .bool asked, .bool yes, .bool turned, .bool a0, .bool a1, .bool shipped, .bool d0, .bool d1, .bool acc] 31))
  have HO0 := Kept.mk ((Blk.new' w 24 [.int .i64 o.id, .int .i64 o.item, .int .i64 o.qty, .int .i64 o.client, .int .i64 o.price, .slice a o.steps.length c] _ rfl).alloc (.cells #[.slice da done.length dc, .slice ua undone.length uc, .bool asked, .bool yes, .bool turned, .bool a0, .bool a1, .bool shipped, .bool d0, .bool d1, .bool acc] 31))
  have HB0 := Kept.mk (Blk.new' (w.alloc (.cells #[.int .i64 o.id, .int .i64 o.item, .int .i64 o.qty, .int .i64 o.client, .int .i64 o.price, .slice a o.steps.length c] 24)) 31 [.slice da done.length dc, .slice ua undone.length uc, .bool asked, .bool yes, .bool turned, .bool a0, .bool a1, .bool shipped, .bool d0, .bool d1, .bool acc] (w.heap.size + 1) (by simp))
  have K0 : Kept (Keeps (fun _ => False) w ((w.alloc (.cells #[.int .i64 o.id, .int .i64 o.item, .int .i64 o.qty, .int .i64 o.client, .int .i64 o.price, .slice a o.steps.length c] 24)).alloc (.cells #[.slice da done.length dc, .slice ua undone.length uc, .bool asked, .bool yes, .bool turned, .bool a0, .bool a1, .bool shipped, .bool d0, .bool d1, .bool acc] 31))) := ⟨((Keeps.refl _ w).alloc _).alloc _⟩
  have hsm := Kept.mk h.sm
  have hdm := Kept.mk h.dm
  have hum := Kept.mk h.um
  have Hh := Kept.mk h
  clear h
  have Hm := Kept.mk hm
  have Hl := Kept.mk hl
  have Hs := Kept.mk (Fct.may_state hm)
  have Hv := Kept.mk (Fct.may_over hm)
  have Hn := Kept.mk (Fct.may_next hm)
  clear hm hl
  go_enter Try.func8, Try.ntmps8
  go_wp2_with fail
  refine (light_to o a da ua c dc uc done undone asked yes turned a0 a1 shipped d0 d1 acc true _ hsm.out hdm.out hum.out Hl.out).mono ?_
  rintro e w1 ⟨rfl, k1⟩
  have HF1 := Kept.mk (HF0.out.keeps k1)
  have HO1 := Kept.mk (HO0.out.quiet k1)
  have HB1 := Kept.mk (HB0.out.quiet k1)
  have K1 := Kept.mk (K0.out.trans k1)
  clear k1 HF0 HO0 HB0 K0
  obtain ⟨y0, y1, y2, y3, y4, y5, y6, y7, y8, y9, y10⟩ := blk11 HB1.out
  obtain ⟨x0, x1, x2, x3, x4, x5⟩ := blk6 HO1.out
  go_wp2_with fail
  refine (fmay_to o a da ua c dc uc ⟨done, undone, asked, yes, turned, a0, a1, shipped, d0, d1, acc⟩ false _ HF1.out Hm.out).mono ?_
  rintro e w2 ⟨rfl, k2⟩
  have HF2 := Kept.mk (HF1.out.keeps k2)
  have HO2 := Kept.mk (HO1.out.quiet k2)
  have HB2 := Kept.mk (HB1.out.quiet k2)
  have K2 := Kept.mk (K1.out.trans k2)
  clear k2 HF1 HO1 HB1 K1
  clear y0 y1 y2 y3 y4 y5 y6 y7 y8 y9 y10 x0 x1 x2 x3 x4 x5
  obtain ⟨y0, y1, y2, y3, y4, y5, y6, y7, y8, y9, y10⟩ := blk11 HB2.out
  obtain ⟨x0, x1, x2, x3, x4, x5⟩ := blk6 HO2.out
  go_wp2_with fail
  refine (state_to o a da ua c dc uc ⟨done, undone, asked, yes, turned, a0, a1, shipped, d0, d1, acc⟩ 0 _ HF2.out Hs.out).mono ?_
  rintro e w3 ⟨rfl, k3⟩
  have HF3 := Kept.mk (HF2.out.keeps k3)
  have HO3 := Kept.mk (HO2.out.quiet k3)
  have HB3 := Kept.mk (HB2.out.quiet k3)
  have K3 := Kept.mk (K2.out.trans k3)
  clear k3 HF2 HO2 HB2 K2
  clear y0 y1 y2 y3 y4 y5 y6 y7 y8 y9 y10 x0 x1 x2 x3 x4 x5
  obtain ⟨y0, y1, y2, y3, y4, y5, y6, y7, y8, y9, y10⟩ := blk11 HB3.out
  obtain ⟨x0, x1, x2, x3, x4, x5⟩ := blk6 HO3.out
  go_wp2_with fail
  refine (next_to o a da ua c dc uc ⟨done, undone, asked, yes, turned, a0, a1, shipped, d0, d1, acc⟩ _ HF3.out).mono ?_
  rintro e w4 ⟨⟨v, rfl, hM⟩, k4⟩
  rw [Hn.out] at hM
  obtain ⟨va, vc, rfl, _⟩ := hM.slice
  have HF4 := Kept.mk (HF3.out.keeps k4)
  have HO4 := Kept.mk (HO3.out.quiet k4)
  have HB4 := Kept.mk (HB3.out.quiet k4)
  have K4 := Kept.mk (K3.out.trans k4)
  clear k4 HF3 HO3 HB3 K3 hM
  clear y0 y1 y2 y3 y4 y5 y6 y7 y8 y9 y10 x0 x1 x2 x3 x4 x5
  obtain ⟨y0, y1, y2, y3, y4, y5, y6, y7, y8, y9, y10⟩ := blk11 HB4.out
  obtain ⟨x0, x1, x2, x3, x4, x5⟩ := blk6 HO4.out
  go_wp2_with fail
  refine (over_to o a da ua c dc uc ⟨done, undone, asked, yes, turned, a0, a1, shipped, d0, d1, acc⟩ false _ HF4.out Hv.out).mono ?_
  rintro e w5 ⟨rfl, k5⟩
  have HF5 := Kept.mk (HF4.out.keeps k5)
  have HO5 := Kept.mk (HO4.out.quiet k5)
  have HB5 := Kept.mk (HB4.out.quiet k5)
  have K5 := Kept.mk (K4.out.trans k5)
  clear k5 HF4 HO4 HB4 K4
  clear y0 y1 y2 y3 y4 y5 y6 y7 y8 y9 y10 x0 x1 x2 x3 x4 x5
  obtain ⟨y0, y1, y2, y3, y4, y5, y6, y7, y8, y9, y10⟩ := blk11 HB5.out
  obtain ⟨x0, x1, x2, x3, x4, x5⟩ := blk6 HO5.out
  go_wp2_with fail
  refine (awake_to _).mono ?_
  rintro e w9 ⟨rfl, k9⟩
  go_wp2_with fail
  go_ret
  exact ⟨rfl, K5.out.trans k9⟩
set_option linter.unusedSimpArgs false in
set_option maxRecDepth 100000 in
set_option maxHeartbeats 16000000 in
theorem spoilt_0 (o : Ord) (a da ua : Option Addr) (c dc uc : Nat) (done undone : List Bool) (asked yes turned a0 a1 shipped d0 d1 acc : Bool) (how : Int) (w : World) (h : FcAt w o a c ⟨done, undone, asked, yes, turned, a0, a1, shipped, d0, d1, acc⟩ da ua) (hm : Fct.may o ⟨done, undone, asked, yes, turned, a0, a1, shipped, d0, d1, acc⟩ = true) (hq : Int.tmod (IntKind.u64.wrap how) 4 = 0) :
    Calls Try.prog 8 #[.agg #[.int .i64 o.id, .int .i64 o.item, .int .i64 o.qty, .int .i64 o.client, .int .i64 o.price, .slice a o.steps.length c], .agg #[.slice da done.length dc, .slice ua undone.length uc, .bool asked, .bool yes, .bool turned, .bool a0, .bool a1, .bool shipped, .bool d0, .bool d1, .bool acc], .int .i64 how] w (fun e w' => e = .returned (.bool true) ∧ Keeps (fun _ => False) w w') := by
  have HF0 := Kept.mk ((h.alloc (.cells #[.int .i64 o.id, .int .i64 o.item, .int .i64 o.qty, .int .i64 o.client, .int .i64 o.price, .slice a o.steps.length c] 24)).alloc (.cells #[.slice da done.length dc, .slice ua undone.length uc, .bool asked, .bool yes, .bool turned, .bool a0, .bool a1, .bool shipped, .bool d0, .bool d1, .bool acc] 31))
  have HO0 := Kept.mk ((Blk.new' w 24 [.int .i64 o.id, .int .i64 o.item, .int .i64 o.qty, .int .i64 o.client, .int .i64 o.price, .slice a o.steps.length c] _ rfl).alloc (.cells #[.slice da done.length dc, .slice ua undone.length uc, .bool asked, .bool yes, .bool turned, .bool a0, .bool a1, .bool shipped, .bool d0, .bool d1, .bool acc] 31))
  have HB0 := Kept.mk (Blk.new' (w.alloc (.cells #[.int .i64 o.id, .int .i64 o.item, .int .i64 o.qty, .int .i64 o.client, .int .i64 o.price, .slice a o.steps.length c] 24)) 31 [.slice da done.length dc, .slice ua undone.length uc, .bool asked, .bool yes, .bool turned, .bool a0, .bool a1, .bool shipped, .bool d0, .bool d1, .bool acc] (w.heap.size + 1) (by simp))
  have K0 : Kept (Keeps (fun _ => False) w ((w.alloc (.cells #[.int .i64 o.id, .int .i64 o.item, .int .i64 o.qty, .int .i64 o.client, .int .i64 o.price, .slice a o.steps.length c] 24)).alloc (.cells #[.slice da done.length dc, .slice ua undone.length uc, .bool asked, .bool yes, .bool turned, .bool a0, .bool a1, .bool shipped, .bool d0, .bool d1, .bool acc] 31))) := ⟨((Keeps.refl _ w).alloc _).alloc _⟩
  have hsm := Kept.mk h.sm
  have hdm := Kept.mk h.dm
  have hum := Kept.mk h.um
  have Hh := Kept.mk h
  clear h
  have Hm := Kept.mk hm
  have Hl := Kept.mk (Fct.may_light hm)
  have Hn : Kept (Fct.may o ⟨done, undone, asked, true, true, a0, a1, shipped, d0, d1, acc⟩ = false) := ⟨by simp [Fct.may]⟩
  have q0 : (Int.tmod (IntKind.u64.wrap how) 4 == 0) = true := by rw [hq]; rfl
  clear hm hq
  go_enter Try.func8, Try.ntmps8
  go_wp2_with fail
  refine (light_to o a da ua c dc uc done undone asked yes turned a0 a1 shipped d0 d1 acc true _ hsm.out hdm.out hum.out Hl.out).mono ?_
  rintro e w1 ⟨rfl, k1⟩
  have HF1 := Kept.mk (HF0.out.keeps k1)
  have HO1 := Kept.mk (HO0.out.quiet k1)
  have HB1 := Kept.mk (HB0.out.quiet k1)
  have K1 := Kept.mk (K0.out.trans k1)
  clear k1 HF0 HO0 HB0 K0
  obtain ⟨y0, y1, y2, y3, y4, y5, y6, y7, y8, y9, y10⟩ := blk11 HB1.out
  obtain ⟨x0, x1, x2, x3, x4, x5⟩ := blk6 HO1.out
  go_wp2_with fail
  refine (fmay_to o a da ua c dc uc ⟨done, undone, asked, yes, turned, a0, a1, shipped, d0, d1, acc⟩ true _ HF1.out Hm.out).mono ?_
  rintro e w2 ⟨rfl, k2⟩
  have HF2 := Kept.mk (HF1.out.keeps k2)
  have HO2 := Kept.mk (HO1.out.quiet k2)
  have HB2 := Kept.mk (HB1.out.quiet k2)
  have K2 := Kept.mk (K1.out.trans k2)
  clear k2 HF1 HO1 HB1 K1
  clear y0 y1 y2 y3 y4 y5 y6 y7 y8 y9 y10 x0 x1 x2 x3 x4 x5
  obtain ⟨y0, y1, y2, y3, y4, y5, y6, y7, y8, y9, y10⟩ := blk11 HB2.out
  obtain ⟨x0, x1, x2, x3, x4, x5⟩ := blk6 HO2.out
  have f3 := HB2.out.frozen 3
  have f4 := HB2.out.frozen 4
  have KF := Kept.mk ((K2.out.setCell (p := ⟨w.heap.size + 1, 3, none⟩) (.inl (by show w.heap.size ≤ w.heap.size + 1; omega)) (.bool true)).setCell (p := ⟨w.heap.size + 1, 4, none⟩) (.inl (by show w.heap.size ≤ w.heap.size + 1; omega)) (.bool true))
  go_wp2_with fail
  refine (fmay_to o a da ua c dc uc ⟨done, undone, asked, true, true, a0, a1, shipped, d0, d1, acc⟩ false _ ((Hh.out.keeps KF.out).turn rfl rfl) Hn.out).mono ?_
  rintro e w3 ⟨rfl, k3⟩
  go_wp2_with fail
  refine (awake_to _).mono ?_
  rintro e w9 ⟨rfl, k9⟩
  go_wp2_with fail
  go_ret
  exact ⟨rfl, (KF.out.trans k3).trans k9⟩
set_option linter.unusedSimpArgs false in
set_option maxRecDepth 100000 in
set_option maxHeartbeats 16000000 in
theorem spoilt_1 (o : Ord) (a da ua : Option Addr) (c dc uc : Nat) (done undone : List Bool) (asked yes turned a0 a1 shipped d0 d1 acc : Bool) (how : Int) (w : World) (h : FcAt w o a c ⟨done, undone, asked, yes, turned, a0, a1, shipped, d0, d1, acc⟩ da ua) (hm : Fct.may o ⟨done, undone, asked, yes, turned, a0, a1, shipped, d0, d1, acc⟩ = true) (hq : Int.tmod (IntKind.u64.wrap how) 4 = 1) :
    Calls Try.prog 8 #[.agg #[.int .i64 o.id, .int .i64 o.item, .int .i64 o.qty, .int .i64 o.client, .int .i64 o.price, .slice a o.steps.length c], .agg #[.slice da done.length dc, .slice ua undone.length uc, .bool asked, .bool yes, .bool turned, .bool a0, .bool a1, .bool shipped, .bool d0, .bool d1, .bool acc], .int .i64 how] w (fun e w' => e = .returned (.bool true) ∧ Keeps (fun _ => False) w w') := by
  have HF0 := Kept.mk ((h.alloc (.cells #[.int .i64 o.id, .int .i64 o.item, .int .i64 o.qty, .int .i64 o.client, .int .i64 o.price, .slice a o.steps.length c] 24)).alloc (.cells #[.slice da done.length dc, .slice ua undone.length uc, .bool asked, .bool yes, .bool turned, .bool a0, .bool a1, .bool shipped, .bool d0, .bool d1, .bool acc] 31))
  have HO0 := Kept.mk ((Blk.new' w 24 [.int .i64 o.id, .int .i64 o.item, .int .i64 o.qty, .int .i64 o.client, .int .i64 o.price, .slice a o.steps.length c] _ rfl).alloc (.cells #[.slice da done.length dc, .slice ua undone.length uc, .bool asked, .bool yes, .bool turned, .bool a0, .bool a1, .bool shipped, .bool d0, .bool d1, .bool acc] 31))
  have HB0 := Kept.mk (Blk.new' (w.alloc (.cells #[.int .i64 o.id, .int .i64 o.item, .int .i64 o.qty, .int .i64 o.client, .int .i64 o.price, .slice a o.steps.length c] 24)) 31 [.slice da done.length dc, .slice ua undone.length uc, .bool asked, .bool yes, .bool turned, .bool a0, .bool a1, .bool shipped, .bool d0, .bool d1, .bool acc] (w.heap.size + 1) (by simp))
  have K0 : Kept (Keeps (fun _ => False) w ((w.alloc (.cells #[.int .i64 o.id, .int .i64 o.item, .int .i64 o.qty, .int .i64 o.client, .int .i64 o.price, .slice a o.steps.length c] 24)).alloc (.cells #[.slice da done.length dc, .slice ua undone.length uc, .bool asked, .bool yes, .bool turned, .bool a0, .bool a1, .bool shipped, .bool d0, .bool d1, .bool acc] 31))) := ⟨((Keeps.refl _ w).alloc _).alloc _⟩
  have hsm := Kept.mk h.sm
  have hdm := Kept.mk h.dm
  have hum := Kept.mk h.um
  have Hh := Kept.mk h
  clear h
  have Hm := Kept.mk hm
  have Hl := Kept.mk (Fct.may_light hm)
  have Hn : Kept (Fct.may o ⟨done, undone, asked, false, turned, a0, a1, true, d0, d1, acc⟩ = false) := ⟨by simp [Fct.may]⟩
  have q0 : (Int.tmod (IntKind.u64.wrap how) 4 == 0) = false := by rw [hq]; rfl
  have q1 : (Int.tmod (IntKind.u64.wrap how) 4 == 1) = true := by rw [hq]; rfl
  clear hm hq
  go_enter Try.func8, Try.ntmps8
  go_wp2_with fail
  refine (light_to o a da ua c dc uc done undone asked yes turned a0 a1 shipped d0 d1 acc true _ hsm.out hdm.out hum.out Hl.out).mono ?_
  rintro e w1 ⟨rfl, k1⟩
  have HF1 := Kept.mk (HF0.out.keeps k1)
  have HO1 := Kept.mk (HO0.out.quiet k1)
  have HB1 := Kept.mk (HB0.out.quiet k1)
  have K1 := Kept.mk (K0.out.trans k1)
  clear k1 HF0 HO0 HB0 K0
  obtain ⟨y0, y1, y2, y3, y4, y5, y6, y7, y8, y9, y10⟩ := blk11 HB1.out
  obtain ⟨x0, x1, x2, x3, x4, x5⟩ := blk6 HO1.out
  go_wp2_with fail
  refine (fmay_to o a da ua c dc uc ⟨done, undone, asked, yes, turned, a0, a1, shipped, d0, d1, acc⟩ true _ HF1.out Hm.out).mono ?_
  rintro e w2 ⟨rfl, k2⟩
  have HF2 := Kept.mk (HF1.out.keeps k2)
  have HO2 := Kept.mk (HO1.out.quiet k2)
  have HB2 := Kept.mk (HB1.out.quiet k2)
  have K2 := Kept.mk (K1.out.trans k2)
  clear k2 HF1 HO1 HB1 K1
  clear y0 y1 y2 y3 y4 y5 y6 y7 y8 y9 y10 x0 x1 x2 x3 x4 x5
  obtain ⟨y0, y1, y2, y3, y4, y5, y6, y7, y8, y9, y10⟩ := blk11 HB2.out
  obtain ⟨x0, x1, x2, x3, x4, x5⟩ := blk6 HO2.out
  have f3 := HB2.out.frozen 3
  have f7 := HB2.out.frozen 7
  have KF := Kept.mk ((K2.out.setCell (p := ⟨w.heap.size + 1, 3, none⟩) (.inl (by show w.heap.size ≤ w.heap.size + 1; omega)) (.bool false)).setCell (p := ⟨w.heap.size + 1, 7, none⟩) (.inl (by show w.heap.size ≤ w.heap.size + 1; omega)) (.bool true))
  go_wp2_with fail
  refine (fmay_to o a da ua c dc uc ⟨done, undone, asked, false, turned, a0, a1, true, d0, d1, acc⟩ false _ ((Hh.out.keeps KF.out).turn rfl rfl) Hn.out).mono ?_
  rintro e w3 ⟨rfl, k3⟩
  go_wp2_with fail
  refine (awake_to _).mono ?_
  rintro e w9 ⟨rfl, k9⟩
  go_wp2_with fail
  go_ret
  exact ⟨rfl, (KF.out.trans k3).trans k9⟩
set_option linter.unusedSimpArgs false in
set_option maxRecDepth 100000 in
set_option maxHeartbeats 16000000 in
theorem spoilt_3 (o : Ord) (a da ua : Option Addr) (c dc uc : Nat) (done undone : List Bool) (asked yes turned a0 a1 shipped d0 d1 acc : Bool) (how : Int) (w : World) (h : FcAt w o a c ⟨done, undone, asked, yes, turned, a0, a1, shipped, d0, d1, acc⟩ da ua) (hm : Fct.may o ⟨done, undone, asked, yes, turned, a0, a1, shipped, d0, d1, acc⟩ = true) (hq : Int.tmod (IntKind.u64.wrap how) 4 = 3) :
    Calls Try.prog 8 #[.agg #[.int .i64 o.id, .int .i64 o.item, .int .i64 o.qty, .int .i64 o.client, .int .i64 o.price, .slice a o.steps.length c], .agg #[.slice da done.length dc, .slice ua undone.length uc, .bool asked, .bool yes, .bool turned, .bool a0, .bool a1, .bool shipped, .bool d0, .bool d1, .bool acc], .int .i64 how] w (fun e w' => e = .returned (.bool true) ∧ Keeps (fun _ => False) w w') := by
  have HF0 := Kept.mk ((h.alloc (.cells #[.int .i64 o.id, .int .i64 o.item, .int .i64 o.qty, .int .i64 o.client, .int .i64 o.price, .slice a o.steps.length c] 24)).alloc (.cells #[.slice da done.length dc, .slice ua undone.length uc, .bool asked, .bool yes, .bool turned, .bool a0, .bool a1, .bool shipped, .bool d0, .bool d1, .bool acc] 31))
  have HO0 := Kept.mk ((Blk.new' w 24 [.int .i64 o.id, .int .i64 o.item, .int .i64 o.qty, .int .i64 o.client, .int .i64 o.price, .slice a o.steps.length c] _ rfl).alloc (.cells #[.slice da done.length dc, .slice ua undone.length uc, .bool asked, .bool yes, .bool turned, .bool a0, .bool a1, .bool shipped, .bool d0, .bool d1, .bool acc] 31))
  have HB0 := Kept.mk (Blk.new' (w.alloc (.cells #[.int .i64 o.id, .int .i64 o.item, .int .i64 o.qty, .int .i64 o.client, .int .i64 o.price, .slice a o.steps.length c] 24)) 31 [.slice da done.length dc, .slice ua undone.length uc, .bool asked, .bool yes, .bool turned, .bool a0, .bool a1, .bool shipped, .bool d0, .bool d1, .bool acc] (w.heap.size + 1) (by simp))
  have K0 : Kept (Keeps (fun _ => False) w ((w.alloc (.cells #[.int .i64 o.id, .int .i64 o.item, .int .i64 o.qty, .int .i64 o.client, .int .i64 o.price, .slice a o.steps.length c] 24)).alloc (.cells #[.slice da done.length dc, .slice ua undone.length uc, .bool asked, .bool yes, .bool turned, .bool a0, .bool a1, .bool shipped, .bool d0, .bool d1, .bool acc] 31))) := ⟨((Keeps.refl _ w).alloc _).alloc _⟩
  have hsm := Kept.mk h.sm
  have hdm := Kept.mk h.dm
  have hum := Kept.mk h.um
  have Hh := Kept.mk h
  clear h
  have Hm := Kept.mk hm
  have Hl := Kept.mk (Fct.may_light hm)
  have Hn : Kept (Fct.may o ⟨done, undone, false, true, false, a0, a1, shipped, d0, d1, acc⟩ = false) := ⟨by simp [Fct.may]⟩
  have q0 : (Int.tmod (IntKind.u64.wrap how) 4 == 0) = false := by rw [hq]; rfl
  have q1 : (Int.tmod (IntKind.u64.wrap how) 4 == 1) = false := by rw [hq]; rfl
  have q2 : (Int.tmod (IntKind.u64.wrap how) 4 == 2) = false := by rw [hq]; rfl
  clear hm hq
  go_enter Try.func8, Try.ntmps8
  go_wp2_with fail
  refine (light_to o a da ua c dc uc done undone asked yes turned a0 a1 shipped d0 d1 acc true _ hsm.out hdm.out hum.out Hl.out).mono ?_
  rintro e w1 ⟨rfl, k1⟩
  have HF1 := Kept.mk (HF0.out.keeps k1)
  have HO1 := Kept.mk (HO0.out.quiet k1)
  have HB1 := Kept.mk (HB0.out.quiet k1)
  have K1 := Kept.mk (K0.out.trans k1)
  clear k1 HF0 HO0 HB0 K0
  obtain ⟨y0, y1, y2, y3, y4, y5, y6, y7, y8, y9, y10⟩ := blk11 HB1.out
  obtain ⟨x0, x1, x2, x3, x4, x5⟩ := blk6 HO1.out
  go_wp2_with fail
  refine (fmay_to o a da ua c dc uc ⟨done, undone, asked, yes, turned, a0, a1, shipped, d0, d1, acc⟩ true _ HF1.out Hm.out).mono ?_
  rintro e w2 ⟨rfl, k2⟩
  have HF2 := Kept.mk (HF1.out.keeps k2)
  have HO2 := Kept.mk (HO1.out.quiet k2)
  have HB2 := Kept.mk (HB1.out.quiet k2)
  have K2 := Kept.mk (K1.out.trans k2)
  clear k2 HF1 HO1 HB1 K1
  clear y0 y1 y2 y3 y4 y5 y6 y7 y8 y9 y10 x0 x1 x2 x3 x4 x5
  obtain ⟨y0, y1, y2, y3, y4, y5, y6, y7, y8, y9, y10⟩ := blk11 HB2.out
  obtain ⟨x0, x1, x2, x3, x4, x5⟩ := blk6 HO2.out
  have f2 := HB2.out.frozen 2
  have f3 := HB2.out.frozen 3
  have f4 := HB2.out.frozen 4
  have KF := Kept.mk (((K2.out.setCell (p := ⟨w.heap.size + 1, 2, none⟩) (.inl (by show w.heap.size ≤ w.heap.size + 1; omega)) (.bool false)).setCell (p := ⟨w.heap.size + 1, 4, none⟩) (.inl (by show w.heap.size ≤ w.heap.size + 1; omega)) (.bool false)).setCell (p := ⟨w.heap.size + 1, 3, none⟩) (.inl (by show w.heap.size ≤ w.heap.size + 1; omega)) (.bool true))
  go_wp2_with fail
  refine (fmay_to o a da ua c dc uc ⟨done, undone, false, true, false, a0, a1, shipped, d0, d1, acc⟩ false _ ((Hh.out.keeps KF.out).turn rfl rfl) Hn.out).mono ?_
  rintro e w3 ⟨rfl, k3⟩
  go_wp2_with fail
  refine (awake_to _).mono ?_
  rintro e w9 ⟨rfl, k9⟩
  go_wp2_with fail
  go_ret
  exact ⟨rfl, (KF.out.trans k3).trans k9⟩
set_option linter.unusedSimpArgs false in
set_option maxRecDepth 100000 in
set_option maxHeartbeats 16000000 in
theorem spoilt_2 (o : Ord) (a da ua : Option Addr) (c dc uc : Nat) (done undone : List Bool) (asked yes turned a0 a1 shipped d0 d1 acc : Bool) (how : Int) (w : World) (h : FcAt w o a c ⟨done, undone, asked, yes, turned, a0, a1, shipped, d0, d1, acc⟩ da ua) (hm : Fct.may o ⟨done, undone, asked, yes, turned, a0, a1, shipped, d0, d1, acc⟩ = true) (hq : Int.tmod (IntKind.u64.wrap how) 4 = 2) :
    Calls Try.prog 8 #[.agg #[.int .i64 o.id, .int .i64 o.item, .int .i64 o.qty, .int .i64 o.client, .int .i64 o.price, .slice a o.steps.length c], .agg #[.slice da done.length dc, .slice ua undone.length uc, .bool asked, .bool yes, .bool turned, .bool a0, .bool a1, .bool shipped, .bool d0, .bool d1, .bool acc], .int .i64 how] w (fun e w' => e = .returned (.bool true) ∧ Keeps (fun _ => False) w w') := by
  have HF0 := Kept.mk ((h.alloc (.cells #[.int .i64 o.id, .int .i64 o.item, .int .i64 o.qty, .int .i64 o.client, .int .i64 o.price, .slice a o.steps.length c] 24)).alloc (.cells #[.slice da done.length dc, .slice ua undone.length uc, .bool asked, .bool yes, .bool turned, .bool a0, .bool a1, .bool shipped, .bool d0, .bool d1, .bool acc] 31))
  have HO0 := Kept.mk ((Blk.new' w 24 [.int .i64 o.id, .int .i64 o.item, .int .i64 o.qty, .int .i64 o.client, .int .i64 o.price, .slice a o.steps.length c] _ rfl).alloc (.cells #[.slice da done.length dc, .slice ua undone.length uc, .bool asked, .bool yes, .bool turned, .bool a0, .bool a1, .bool shipped, .bool d0, .bool d1, .bool acc] 31))
  have HB0 := Kept.mk (Blk.new' (w.alloc (.cells #[.int .i64 o.id, .int .i64 o.item, .int .i64 o.qty, .int .i64 o.client, .int .i64 o.price, .slice a o.steps.length c] 24)) 31 [.slice da done.length dc, .slice ua undone.length uc, .bool asked, .bool yes, .bool turned, .bool a0, .bool a1, .bool shipped, .bool d0, .bool d1, .bool acc] (w.heap.size + 1) (by simp))
  have K0 : Kept (Keeps (fun _ => False) w ((w.alloc (.cells #[.int .i64 o.id, .int .i64 o.item, .int .i64 o.qty, .int .i64 o.client, .int .i64 o.price, .slice a o.steps.length c] 24)).alloc (.cells #[.slice da done.length dc, .slice ua undone.length uc, .bool asked, .bool yes, .bool turned, .bool a0, .bool a1, .bool shipped, .bool d0, .bool d1, .bool acc] 31))) := ⟨((Keeps.refl _ w).alloc _).alloc _⟩
  have hsm := Kept.mk h.sm
  have hdm := Kept.mk h.dm
  have hum := Kept.mk h.um
  have Hh := Kept.mk h
  clear h
  have Hm := Kept.mk hm
  have Hl := Kept.mk (Fct.may_light hm)
  have hpp := Fct.may_parts hm
  have hl3 := Ord.may_len hpp.1
  have hd3 := hpp.2.1
  simp only at hd3
  have hd4 : ¬ (done.length + 1 = o.steps.length) := by omega
  have Hn : Kept (Fct.may o ⟨done ++ [false], undone, asked, yes, turned, a0, a1, shipped, d0, d1, acc⟩ = false) := ⟨by simp [Fct.may, hd4]⟩
  have q0 : (Int.tmod (IntKind.u64.wrap how) 4 == 0) = false := by rw [hq]; rfl
  have q1 : (Int.tmod (IntKind.u64.wrap how) 4 == 1) = false := by rw [hq]; rfl
  have q2 : (Int.tmod (IntKind.u64.wrap how) 4 == 2) = true := by rw [hq]; rfl
  have HD3 := Kept.mk hd3
  clear hm hq hpp hd3 hd4
  go_enter Try.func8, Try.ntmps8
  go_wp2_with fail
  refine (light_to o a da ua c dc uc done undone asked yes turned a0 a1 shipped d0 d1 acc true _ hsm.out hdm.out hum.out Hl.out).mono ?_
  rintro e w1 ⟨rfl, k1⟩
  have HF1 := Kept.mk (HF0.out.keeps k1)
  have HO1 := Kept.mk (HO0.out.quiet k1)
  have HB1 := Kept.mk (HB0.out.quiet k1)
  have K1 := Kept.mk (K0.out.trans k1)
  clear k1 HF0 HO0 HB0 K0
  obtain ⟨y0, y1, y2, y3, y4, y5, y6, y7, y8, y9, y10⟩ := blk11 HB1.out
  obtain ⟨x0, x1, x2, x3, x4, x5⟩ := blk6 HO1.out
  go_wp2_with fail
  refine (fmay_to o a da ua c dc uc ⟨done, undone, asked, yes, turned, a0, a1, shipped, d0, d1, acc⟩ true _ HF1.out Hm.out).mono ?_
  rintro e w2 ⟨rfl, k2⟩
  have HF2 := Kept.mk (HF1.out.keeps k2)
  have HO2 := Kept.mk (HO1.out.quiet k2)
  have HB2 := Kept.mk (HB1.out.quiet k2)
  have K2 := Kept.mk (K1.out.trans k2)
  clear k2 HF1 HO1 HB1 K1
  clear y0 y1 y2 y3 y4 y5 y6 y7 y8 y9 y10 x0 x1 x2 x3 x4 x5
  obtain ⟨y0, y1, y2, y3, y4, y5, y6, y7, y8, y9, y10⟩ := blk11 HB2.out
  obtain ⟨x0, x1, x2, x3, x4, x5⟩ := blk6 HO2.out
  have hown0 : (w2.alloc (.cells #[] 4)).ownsRow w2.heap.size 4 1 (.slice (some ⟨w2.heap.size, 0, none⟩) 0 0) ([] : List Bool).length (([] : List Bool).map encB) := World.ownsRow_made w2 #[] 0 (Nat.le_refl _) (Nat.zero_le _) rfl
  obtain ⟨a4, c4, w4, hrun1, hown4, k4⟩ := bl_append_row (c := dc) hown0 ((HF2.out.keeps ((Keeps.refl _ w2).alloc (.cells #[] 4))).done) (by simp only [List.length_nil]; have := HD3.out; omega) (by simp)
  simp only [List.length_nil, Nat.zero_add, List.nil_append] at hrun1 hown4
  have hw4 := k4.size
  rw [World.size_alloc] at hw4
  obtain ⟨a5, c5, w5, hrun2, hown5, k5⟩ := bl_append_row (M := [false]) (x := some ⟨w4.heap.size, 0, none⟩) (c := 1) (ownsRow_keeps hown4 ((Keeps.refl (fun _ => False) w4).alloc (.cells #[.bool false] 4)) (fun _ _ h => h)) (by
    intro k x hk
    match k, hk with
    | 0, hk =>
      simp at hk
      subst hk
      exact ⟨w4.heap.size, 0, rfl, by simp, (Blk.new' w4 4 [.bool false] _ rfl).cell 0 rfl⟩) (by have := HD3.out; simp only [List.length_singleton]; omega) (by simp; omega)
  simp only [List.length_singleton] at hrun2 hown5
  have hb4 := fun g e => (hown4.lt g e).1
  have KA : Kept (Keeps (fun _ => False) w2 w4) := ⟨((Keeps.refl _ w2).alloc (.cells #[] 4)).then k4 (fun i hi e => by simp only [Value.ownBlock, Option.some.injEq] at e; omega)⟩
  have KB : Kept (Keeps (fun _ => False) w2 w5) := ⟨(KA.out.alloc (.cells #[.bool false] 4)).then k5 (fun i hi e => by have := hb4 i e; omega)⟩
  have HB5 := Kept.mk (HB2.out.quiet KB.out)
  have HO5 := Kept.mk (HO2.out.quiet KB.out)
  obtain ⟨u0, u1, u2, u3, u4, u5, u6, u7, u8, u9, u10⟩ := blk11 HB5.out
  obtain ⟨z0, z1, z2, z3, z4, z5⟩ := blk6 HO5.out
  have f5 := HB5.out.frozen 0
  have hlt2 := HB2.out.lt
  have hY4 : w4.heap.size ≤ w5.heap.size := by have := k5.size; rw [World.size_alloc] at this; omega
  have HR5 : Kept (BlRow (w5.setCell ⟨w.heap.size + 1, 0, none⟩ (.slice a5 (done.length + 1) c5)) a5 (done ++ [false])) := ⟨by
    obtain ⟨a6, c6, hv6, _, _, _, hR, hab⟩ := ownsRow_bools hown5
    simp only [Value.slice.injEq] at hv6
    obtain ⟨rfl, _⟩ := hv6
    refine hR.keeps ((Keeps.refl (fun k => k = w.heap.size + 1) w5).setCell (p := ⟨w.heap.size + 1, 0, none⟩) (.inr rfl) _) (fun x hx e => ?_)
    have := (hab x hx).1
    omega⟩
  have KF := Kept.mk (((K2.out.trans KB.out)).setCell (p := ⟨w.heap.size + 1, 0, none⟩) (.inl (by show w.heap.size ≤ w.heap.size + 1; omega)) (.slice a5 (done.length + 1) c5))
  have HF6 : Kept (FcAt (w5.setCell ⟨w.heap.size + 1, 0, none⟩ (.slice a5 (done.length + 1) c5)) o a c ⟨done ++ [false], undone, asked, yes, turned, a0, a1, shipped, d0, d1, acc⟩ a5 ua) := ⟨by
    have h6 := Hh.out.keeps KF.out
    exact ⟨h6.steps, h6.sm, HR5.out, by have := HD3.out; simp only [List.length_append, List.length_singleton]; unfold maxLen; omega, h6.undone, h6.um⟩⟩
  have hlen : (done ++ [false]).length = done.length + 1 := by simp
  have HC := fmay_to o a a5 ua c c5 uc ⟨done ++ [false], undone, asked, yes, turned, a0, a1, shipped, d0, d1, acc⟩ false _ HF6.out Hn.out
  simp only [hlen] at HC
  have HC2 := Kept.mk HC
  clear HC hlen hown0 hown4 hown5 k4 k5 hb4 y1 y2 y3 y4 y5 y6 y7 y8 y9 y10 x0 x1 x2 x3 x4 x5
  go_wp2_with (first | (at_builtin; refine wpList_append_run rfl _ _ _ rfl rfl rfl hrun1 ?_) | (at_builtin; refine wpList_append_run rfl _ _ _ rfl rfl rfl hrun2 ?_))
  refine HC2.out.mono ?_
  rintro e w6 ⟨rfl, k6⟩
  go_wp2_with fail
  refine (awake_to _).mono ?_
  rintro e w9 ⟨rfl, k9⟩
  go_wp2_with fail
  go_ret
  exact ⟨rfl, (KF.out.trans k6).trans k9⟩
theorem spoilt_any (o : Ord) (a da ua : Option Addr) (c dc uc : Nat) (f : Fct) (how : Int) (w : World) (h : FcAt w o a c f da ua) :
    Calls Try.prog 8 #[.agg #[.int .i64 o.id, .int .i64 o.item, .int .i64 o.qty, .int .i64 o.client, .int .i64 o.price, .slice a o.steps.length c], .agg #[.slice da f.done.length dc, .slice ua f.undone.length uc, .bool f.asked, .bool f.yes, .bool f.turned, .bool f.a0, .bool f.a1, .bool f.shipped, .bool f.d0, .bool f.d1, .bool f.acc], .int .i64 how] w (Yes w) := by
  have key : Calls Try.prog 8 #[.agg #[.int .i64 o.id, .int .i64 o.item, .int .i64 o.qty, .int .i64 o.client, .int .i64 o.price, .slice a o.steps.length c], .agg #[.slice da f.done.length dc, .slice ua f.undone.length uc, .bool f.asked, .bool f.yes, .bool f.turned, .bool f.a0, .bool f.a1, .bool f.shipped, .bool f.d0, .bool f.d1, .bool f.acc], .int .i64 how] w (fun e w' => e = .returned (.bool true) ∧ Keeps (fun _ => False) w w') := by
    obtain ⟨done, undone, asked, yes, turned, a0, a1, shipped, d0, d1, acc⟩ := f
    cases hm : Fct.may o ⟨done, undone, asked, yes, turned, a0, a1, shipped, d0, d1, acc⟩ with
    | false => cases hl : lightB o ⟨done, undone, asked, yes, turned, a0, a1, shipped, d0, d1, acc⟩ with
      | false => exact spoilt_no0 o a da ua c dc uc done undone asked yes turned a0 a1 shipped d0 d1 acc how w h hm hl
      | true => exact spoilt_no1 o a da ua c dc uc done undone asked yes turned a0 a1 shipped d0 d1 acc how w h hm hl
    | true =>
      have hu : 0 ≤ IntKind.u64.wrap how := by
        unfold IntKind.wrap
        simp [IntKind.signed, IntKind.bits]
        exact Int.emod_nonneg _ (by decide)
      have ht : Int.tmod (IntKind.u64.wrap how) 4 = IntKind.u64.wrap how % 4 := Int.tmod_eq_emod_of_nonneg hu
      have h4 : Int.tmod (IntKind.u64.wrap how) 4 = 0 ∨ Int.tmod (IntKind.u64.wrap how) 4 = 1 ∨ Int.tmod (IntKind.u64.wrap how) 4 = 2 ∨ Int.tmod (IntKind.u64.wrap how) 4 = 3 := by omega
      rcases h4 with hq | hq | hq | hq
      · exact spoilt_0 o a da ua c dc uc done undone asked yes turned a0 a1 shipped d0 d1 acc how w h hm hq
      · exact spoilt_1 o a da ua c dc uc done undone asked yes turned a0 a1 shipped d0 d1 acc how w h hm hq
      · exact spoilt_2 o a da ua c dc uc done undone asked yes turned a0 a1 shipped d0 d1 acc how w h hm hq
      · exact spoilt_3 o a da ua c dc uc done undone asked yes turned a0 a1 shipped d0 d1 acc how w h hm hq
  exact key.mono fun _ _ ⟨he, k⟩ => ⟨he, k.below (Nat.le_refl _) (fun _ h => h.elim)⟩
end Go.Proofs.Ytfcnegnkmacajaa
