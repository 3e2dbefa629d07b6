/- Take and Double, walked. -/
import Derived.Test.YtkacnogjifhcoaaPut
namespace Go.Proofs.Ytkacnogjifhcoaa
open Go.RowKit
theorem take_nil (x : Int) (w : World) : Calls Try.prog 28 #[.pointer none, .int .i64 x] w (fun e w' => e = .returned (.tuple #[.agg #[.int .i64 0, .int .i64 0, .int .i64 0, .int .i64 0, .int .i64 0, .int .i64 0, .int .i64 0], .bool false]) ∧ Keeps (fun _ => False) w w') := by
  go_enter Try.func28, Try.ntmps28
  go_wp2_with fail
  refine (phas_nil x _).mono ?_
  rintro e _ ⟨rfl, rfl⟩
  go_wp2_with fail
  exact bodyPost_ret (v := .tuple #[.agg #[.int .i64 0, .int .i64 0, .int .i64 0, .int .i64 0, .int .i64 0, .int .i64 0, .int .i64 0], .bool false]) (by simp [results, Try.results28, go_sem]) rfl ⟨rfl, (Keeps.refl _ w).alloc _⟩
theorem take_no (p base most lost : Nat) (v : Value) (L : List Ms) (x : Int) (w : World) (h : PostAt w p base most lost v L) (hx : x < 0 ∨ (L.length : Int) ≤ x) : Calls Try.prog 28 #[.pointer (some ⟨p, 0, none⟩), .int .i64 x] w (fun e w' => e = .returned (.tuple #[.agg #[.int .i64 0, .int .i64 0, .int .i64 0, .int .i64 0, .int .i64 0, .int .i64 0, .int .i64 0], .bool false]) ∧ Keeps (fun _ => False) w w') := by
  have hr : (decide (0 ≤ x) && decide (x < L.length)) = false := by
    rcases hx with h | h
    · rw [decide_eq_false (show ¬ 0 ≤ x by omega)]; rfl
    · rw [decide_eq_false (show ¬ x < L.length by omega)]; simp
  have H := Kept.mk (h.quiet ((Keeps.refl (fun _ => False) w).alloc (.cells #[.int .i64 0, .int .i64 0, .int .i64 0, .int .i64 0, .int .i64 0, .int .i64 0, .int .i64 0] 55)))
  clear h hx
  go_enter Try.func28, Try.ntmps28
  go_wp2_with fail
  refine (phas_to p base most lost v L x false _ H.out hr).mono ?_
  rintro e _ ⟨rfl, rfl⟩
  go_wp2_with fail
  exact bodyPost_ret (v := .tuple #[.agg #[.int .i64 0, .int .i64 0, .int .i64 0, .int .i64 0, .int .i64 0, .int .i64 0, .int .i64 0], .bool false]) (by simp [results, Try.results28, go_sem]) rfl ⟨rfl, (Keeps.refl _ w).alloc _⟩
set_option linter.unusedSimpArgs false in
set_option linter.unusedVariables false in
set_option maxRecDepth 100000 in
set_option maxHeartbeats 8000000 in
theorem take_to (p base most lost i : Nat) (v : Value) (L : List Ms) (m : Ms) (x : Int) (w : World) (h : PostAt w p base most lost v L) (hx : x = i) (hm : L[i]? = some m) :
    Calls Try.prog 28 #[.pointer (some ⟨p, 0, none⟩), .int .i64 x] w (fun e w' => e = .returned (.tuple #[.agg (encMs m).toArray, .bool true]) ∧ ∃ v', PostAt w' p base most lost v' (L.eraseIdx i) ∧ Keeps (fun k => k = p ∨ v.ownBlock = some k) w w' ∧ (∀ g, v'.ownBlock = some g → v.ownBlock = some g)) := by
  subst hx
  have hi : i < L.length := (List.getElem?_eq_some_iff.1 hm).1
  obtain ⟨a, c, rfl, hlc, hcm⟩ := h.own.slice
  obtain ⟨g, rfl⟩ := h.own.block (by omega)
  have hr : (decide (0 ≤ (i : Int)) && decide ((i : Int) < L.length)) = true := by rw [decide_eq_true (by omega), decide_eq_true (by omega)]; rfl
  have hls := h.small
  have hlf := h.full
  have HP := Kept.mk h.pos
  have HF := Kept.mk h.few
  have hpg : p ≠ g := fun e => h.ne (by rw [e]; rfl)
  have hpw := h.blk.lt
  have hgw : g < w.heap.size := (h.own.lt g rfl).2
  have k1 := (Keeps.refl (fun _ => False) w).alloc (.cells #[.int .i64 0, .int .i64 0, .int .i64 0, .int .i64 0, .int .i64 0, .int .i64 0, .int .i64 0] 55)
  have H1 := Kept.mk (h.quiet k1)
  have k2 := k1.alloc (.cells (encMs m).toArray 55)
  have H2 := Kept.mk (h.quiet k2)
  have hrow := (h.own.quiet k1).row
  obtain ⟨g', off, eg, hgl, hc⟩ := hrow i m hm
  simp only [Option.some.injEq, Addr.mk.injEq, and_true] at eg
  obtain ⟨rfl, rfl⟩ := eg
  have hc' : ∀ j u, (encMs m)[j]? = some u → (w.alloc (.cells #[.int .i64 0, .int .i64 0, .int .i64 0, .int .i64 0, .int .i64 0, .int .i64 0, .int .i64 0] 55)).cell? ⟨g, i * 7 + j, none⟩ = some u := fun j u hu => by
    have h1 := hc j u hu
    rwa [Nat.zero_add] at h1
  have HZ := Kept.mk ((Blk.new' w 55 [.int .i64 0, .int .i64 0, .int .i64 0, .int .i64 0, .int .i64 0, .int .i64 0, .int .i64 0] _ rfl).alloc (.cells (encMs m).toArray 55))
  have HX := Kept.mk (Blk.new' (w.alloc (.cells #[.int .i64 0, .int .i64 0, .int .i64 0, .int .i64 0, .int .i64 0, .int .i64 0, .int .i64 0] 55)) 55 (encMs m) (w.heap.size + 1) (by simp))
  have K2 := Kept.mk k2
  have b1 := H1.out.blk.cell 1 rfl
  have e0 : (w.alloc (.cells #[.int .i64 0, .int .i64 0, .int .i64 0, .int .i64 0, .int .i64 0, .int .i64 0, .int .i64 0] 55)).cell? ⟨g, i * 7, none⟩ = some (.int .i64 m.kind) := hc' 0 _ rfl
  have e1 : (w.alloc (.cells #[.int .i64 0, .int .i64 0, .int .i64 0, .int .i64 0, .int .i64 0, .int .i64 0, .int .i64 0] 55)).cell? ⟨g, i * 7 + 1, none⟩ = some (.int .i64 m.src) := hc' 1 _ rfl
  have e2 : (w.alloc (.cells #[.int .i64 0, .int .i64 0, .int .i64 0, .int .i64 0, .int .i64 0, .int .i64 0, .int .i64 0] 55)).cell? ⟨g, i * 7 + 2, none⟩ = some (.int .i64 m.dst) := hc' 2 _ rfl
  have e3 : (w.alloc (.cells #[.int .i64 0, .int .i64 0, .int .i64 0, .int .i64 0, .int .i64 0, .int .i64 0, .int .i64 0] 55)).cell? ⟨g, i * 7 + 3, none⟩ = some (.int .i64 m.id) := hc' 3 _ rfl
  have e4 : (w.alloc (.cells #[.int .i64 0, .int .i64 0, .int .i64 0, .int .i64 0, .int .i64 0, .int .i64 0, .int .i64 0] 55)).cell? ⟨g, i * 7 + 4, none⟩ = some (.int .i64 m.step) := hc' 4 _ rfl
  have e5 : (w.alloc (.cells #[.int .i64 0, .int .i64 0, .int .i64 0, .int .i64 0, .int .i64 0, .int .i64 0, .int .i64 0] 55)).cell? ⟨g, i * 7 + 5, none⟩ = some (.int .i64 m.a) := hc' 5 _ rfl
  have e6 : (w.alloc (.cells #[.int .i64 0, .int .i64 0, .int .i64 0, .int .i64 0, .int .i64 0, .int .i64 0, .int .i64 0] 55)).cell? ⟨g, i * 7 + 6, none⟩ = some (.int .i64 m.b) := hc' 6 _ rfl
  obtain ⟨m0, m1, m2, m3, m4, m5, m6⟩ := m
  dsimp only at e0 e1 e2 e3 e4 e5 e6
  have hii : (i : Int) < L.length := by omega
  have q1 := H2.out.blk.cell 1 rfl
  clear h hc hc' hrow k1 k2 hm
  go_enter Try.func28, Try.ntmps28
  go_wp2_with fail
  refine (phas_to p base most lost _ L i true _ H1.out hr).mono ?_
  rintro e _ ⟨rfl, rfl⟩
  go_wp2_with fail
  refine (delete_of base g c i L.length (L.length - 1) i ((i : Int) + 1) L _ hi rfl rfl rfl rfl H2.out.own).mono ?_
  rintro e w5 ⟨rfl, hO5, k5⟩
  have hB5 := H2.out.blk.keeps k5 hpg
  have hZ5 := HZ.out.keeps k5 (by omega)
  have hX5 := HX.out.keeps k5 (by omega)
  have HB5 := Kept.mk hB5
  have HZ5 := Kept.mk hZ5
  have HX5 := Kept.mk hX5
  have HO5 := Kept.mk hO5
  have K5 : Kept (Keeps (fun k => k = p ∨ k = g) w w5) := ⟨(K2.out.mono (fun _ _ h => h.elim)).then k5 (fun i hi e => .inr e)⟩
  have p1 := hB5.cell 1 rfl
  have pf := hB5.frozen 1
  have hpl := hB5.lt
  have hzl := hZ5.lt
  have hxl := hX5.lt
  have x0 := hX5.cell 0 rfl
  have x1 := hX5.cell 1 rfl
  have x2 := hX5.cell 2 rfl
  have x3 := hX5.cell 3 rfl
  have x4 := hX5.cell 4 rfl
  have x5 := hX5.cell 5 rfl
  have x6 := hX5.cell 6 rfl
  have z0 := hZ5.cell 0 rfl
  have zf0 := hZ5.frozen 0
  have z1 := hZ5.cell 1 rfl
  have zf1 := hZ5.frozen 1
  have z2 := hZ5.cell 2 rfl
  have zf2 := hZ5.frozen 2
  have z3 := hZ5.cell 3 rfl
  have zf3 := hZ5.frozen 3
  have z4 := hZ5.cell 4 rfl
  have zf4 := hZ5.frozen 4
  have z5 := hZ5.cell 5 rfl
  have zf5 := hZ5.frozen 5
  have z6 := hZ5.cell 6 rfl
  have zf6 := hZ5.frozen 6
  clear hB5 hZ5 hX5 hO5 k5 e0 e1 e2 e3 e4 e5 e6 q1 b1
  have hzp : ¬ w.heap.size = p := by omega
  have hzp2 : ¬ p = w.heap.size := by omega
  have hxp : ¬ w.heap.size + 1 = p := by omega
  have hxz : ¬ w.heap.size + 1 = w.heap.size := by omega
  go_wp2_with fail
  have hz6 := ((((((((HZ5.out.other (p := ⟨p, 1, none⟩) (by show w.heap.size ≠ p; omega) (.slice (some ⟨g, 0, none⟩) (L.length - 1) c)).set 0 (.int .i64 m0)).set 1 (.int .i64 m1)).set 2 (.int .i64 m2)).set 3 (.int .i64 m3)).set 4 (.int .i64 m4)).set 5 (.int .i64 m5)).set 6 (.int .i64 m6))
  have hb6 := ((((((((HB5.out.set 1 (.slice (some ⟨g, 0, none⟩) (L.length - 1) c)).other (p := ⟨w.heap.size, 0, none⟩) (by show p ≠ w.heap.size; omega) (.int .i64 m0)).other (p := ⟨w.heap.size, 1, none⟩) (by show p ≠ w.heap.size; omega) (.int .i64 m1)).other (p := ⟨w.heap.size, 2, none⟩) (by show p ≠ w.heap.size; omega) (.int .i64 m2)).other (p := ⟨w.heap.size, 3, none⟩) (by show p ≠ w.heap.size; omega) (.int .i64 m3)).other (p := ⟨w.heap.size, 4, none⟩) (by show p ≠ w.heap.size; omega) (.int .i64 m4)).other (p := ⟨w.heap.size, 5, none⟩) (by show p ≠ w.heap.size; omega) (.int .i64 m5)).other (p := ⟨w.heap.size, 6, none⟩) (by show p ≠ w.heap.size; omega) (.int .i64 m6))
  have k6 := (((((((((Keeps.refl (fun k => k = p ∨ k = w.heap.size) w5).setCell (p := ⟨p, 1, none⟩) (.inr (.inl rfl)) (.slice (some ⟨g, 0, none⟩) (L.length - 1) c)).setCell (p := ⟨w.heap.size, 0, none⟩) (.inr (.inr rfl)) (.int .i64 m0)).setCell (p := ⟨w.heap.size, 1, none⟩) (.inr (.inr rfl)) (.int .i64 m1)).setCell (p := ⟨w.heap.size, 2, none⟩) (.inr (.inr rfl)) (.int .i64 m2)).setCell (p := ⟨w.heap.size, 3, none⟩) (.inr (.inr rfl)) (.int .i64 m3)).setCell (p := ⟨w.heap.size, 4, none⟩) (.inr (.inr rfl)) (.int .i64 m4)).setCell (p := ⟨w.heap.size, 5, none⟩) (.inr (.inr rfl)) (.int .i64 m5)).setCell (p := ⟨w.heap.size, 6, none⟩) (.inr (.inr rfl)) (.int .i64 m6))
  have r0 := hz6.cell 0 rfl
  have r1 := hz6.cell 1 rfl
  have r2 := hz6.cell 2 rfl
  have r3 := hz6.cell 3 rfl
  have r4 := hz6.cell 4 rfl
  have r5 := hz6.cell 5 rfl
  have r6 := hz6.cell 6 rfl
  have HB6 := Kept.mk hb6
  have HO6 := Kept.mk (HO5.out.keeps k6 (fun g' hg' e => by simp only [Value.ownBlock, Option.some.injEq] at hg'; omega))
  have K6 : Kept (Keeps (fun k => k = p ∨ k = g) w _) := ⟨K5.out.then k6 (fun i hi e => by rcases e with h | h; exact .inl h; omega)⟩
  clear hz6 hb6 k6 x0 x1 x2 x3 x4 x5 x6 z0 z1 z2 z3 z4 z5 z6 zf0 zf1 zf2 zf3 zf4 zf5 zf6
  exact bodyPost_ret (v := .tuple #[.agg #[.int .i64 m0, .int .i64 m1, .int .i64 m2, .int .i64 m3, .int .i64 m4, .int .i64 m5, .int .i64 m6], .bool true]) (by simp [results, Try.results28, go_sem, r0, r1, r2, r3, r4, r5, r6]) rfl
    ⟨rfl, .slice (some ⟨g, 0, none⟩) (L.length - 1) c, ⟨HB6.out, HO6.out, fun e => hpg (by simp only [Value.ownBlock, Option.some.injEq] at e; omega), by rw [List.length_eraseIdx, if_pos hi]; omega, hls, HP.out, HF.out⟩, K6.out.mono (fun k _ h => h.imp (fun h => h) (fun h => by rw [h]; rfl)), fun g' h => h⟩
theorem double_nil (x : Int) (w : World) : Calls Try.prog 26 #[.pointer none, .int .i64 x] w (Says w (.bool false)) := by
  go_enter Try.func26, Try.ntmps26
  go_wp2_with fail
  refine (phas_nil x _).mono ?_
  rintro e _ ⟨rfl, rfl⟩
  go_wp2_with fail
  go_ret
  exact ⟨rfl, rfl⟩
end Go.Proofs.Ytkacnogjifhcoaa
