/- The page's Take, walked. -/
import Derived.Test.YtkacnogjifhcoaaRPost
import Derived.BigQuiet
namespace Go.Proofs.Ytkacnogjifhcoaa
open Go.RowKit
set_option linter.unusedSimpArgs false in
set_option linter.unusedVariables false in
set_option maxRecDepth 100000 in
set_option maxHeartbeats 4000000 in
theorem rtake_no (F : Nat → Prop) (p most lost : Nat) (L : List Ms) (x : Int) (w : World) (h : RPostAt w F p most lost L) (hx : x < 0 ∨ (L.length : Int) ≤ x) : Calls Try.prog 35 #[.pointer (some ⟨p, 0, none⟩), .int .i64 x] w (fun e w' => e = .returned (.tuple #[.agg #[.int .i64 0, .int .i64 0, .int .i64 0, .int .i64 0, .int .i64 0, .int .i64 0, .int .i64 0], .bool false]) ∧ Keeps (fun _ => False) w w') := by
  obtain ⟨a, c, hB, hR, hne, hlc, hnc, hLm, hms, hps, hlf⟩ := h
  have hB1 := hB.alloc (.cells #[.int .i64 0, .int .i64 0, .int .i64 0, .int .i64 0, .int .i64 0, .int .i64 0, .int .i64 0] 55)
  have c1 := hB1.cell 1 rfl
  have hp := hB.lt
  clear hB hR hne hnc hB1
  by_cases h0 : x < 0
  · go_enter Try.func35, Try.ntmps35
    go_wp2_with fail
    exact bodyPost_ret (v := .tuple #[.agg #[.int .i64 0, .int .i64 0, .int .i64 0, .int .i64 0, .int .i64 0, .int .i64 0, .int .i64 0], .bool false]) (by simp [results, Try.results35, go_sem]) rfl ⟨rfl, (Keeps.refl _ w).alloc _⟩
  · have h1 : (L.length : Int) ≤ x := by omega
    clear hx
    go_enter Try.func35, Try.ntmps35
    go_wp2_with fail
    exact bodyPost_ret (v := .tuple #[.agg #[.int .i64 0, .int .i64 0, .int .i64 0, .int .i64 0, .int .i64 0, .int .i64 0, .int .i64 0], .bool false]) (by simp [results, Try.results35, go_sem]) rfl ⟨rfl, (Keeps.refl _ w).alloc _⟩
set_option linter.unusedSimpArgs false in
set_option linter.unusedVariables false in
set_option maxRecDepth 100000 in
set_option maxHeartbeats 8000000 in
theorem rtake_to (F : Nat → Prop) (p most lost i : Nat) (L : List Ms) (m : Ms) (x : Int) (w : World) (h : RPostAt w F p most lost L) (hF : F p) (hFl : ∀ i, F i → i < w.heap.size) (hx : x = i) (hm : L[i]? = some m) :
    Calls Try.prog 35 #[.pointer (some ⟨p, 0, none⟩), .int .i64 x] w (fun e w' => e = .returned (.tuple #[.agg (encMs m).toArray, .bool true]) ∧ RPostAt w' F p most lost (L.eraseIdx i) ∧ Keeps (fun k => k = p) w w') := by
  subst hx
  have hi : i < L.length := (List.getElem?_eq_some_iff.1 hm).1
  obtain ⟨a, c, hB, hR, hne, hlc, hnc, hLm, hms, hps, hlf⟩ := h
  obtain ⟨n, hn⟩ : ∃ n, L.length = n := ⟨_, rfl⟩
  rw [hn] at hB hlc hi hLm
  obtain ⟨g, off, rfl, hgl, hc⟩ := hR i m hm
  have hgp : g ≠ p := fun e => (hne _ rfl).1 (e ▸ hF)
  have hp := hB.lt
  have k1 := (Keeps.refl (fun _ => False) w).alloc (.cells #[.int .i64 0, .int .i64 0, .int .i64 0, .int .i64 0, .int .i64 0, .int .i64 0, .int .i64 0] 55)
  have k2 := k1.alloc (.cells (encMs m).toArray 55)
  have k2d := k2.drew
  have hc' : ∀ j u, (encMs m)[j]? = some u → (w.alloc (.cells #[.int .i64 0, .int .i64 0, .int .i64 0, .int .i64 0, .int .i64 0, .int .i64 0, .int .i64 0] 55)).cell? ⟨g, off + i * 7 + j, none⟩ = some u := fun j u hu => (k1.cell (p := ⟨g, off + i * 7 + j, none⟩) hgl (fun h => h)).trans (hc j u hu)
  have HB1 := Kept.mk (hB.keeps k1 (fun h => h))
  have HB2 := Kept.mk (hB.keeps k2 (fun h => h))
  have HB2d := Kept.mk (hB.keeps k2d (fun h => h))
  have HZ := Kept.mk ((Blk.new' w 55 [.int .i64 0, .int .i64 0, .int .i64 0, .int .i64 0, .int .i64 0, .int .i64 0, .int .i64 0] _ rfl).alloc (.cells (encMs m).toArray 55))
  have HX := Kept.mk (Blk.new' (w.alloc (.cells #[.int .i64 0, .int .i64 0, .int .i64 0, .int .i64 0, .int .i64 0, .int .i64 0, .int .i64 0] 55)) 55 (encMs m) (w.heap.size + 1) (by simp))
  have hsz : w.heap.size + 2 ≤ (((w.alloc (.cells #[.int .i64 0, .int .i64 0, .int .i64 0, .int .i64 0, .int .i64 0, .int .i64 0, .int .i64 0] 55)).alloc (.cells (encMs m).toArray 55)).drew).heap.size := by show _ ≤ ((w.alloc _).alloc _).heap.size; simp
  -- the two appends
  have hup := ms_upto (some ⟨g, off, none⟩) n i c (by omega)
  have hRd := hR.quiet k2d
  have hlt : (L.take i).length = i := by rw [List.length_take]; omega
  obtain ⟨A, hfrom, hA⟩ := ms_from g off n c i hi hlc
  obtain ⟨a8, c8, w8, r8, o8, k8, n8⟩ := ms_append_at (cc := c) (l := 0) (m := i) (r := i) (MsOwn.nil _ (((w.alloc (.cells #[.int .i64 0, .int .i64 0, .int .i64 0, .int .i64 0, .int .i64 0, .int .i64 0, .int .i64 0] 55)).alloc (.cells (encMs m).toArray 55)).drew).heap.size) rfl (msRow_take hRd i) hlt (Nat.zero_add i) (by omega) (Nat.le_refl _)
  rw [List.nil_append] at o8
  have k8' : Keeps (fun _ => False) (((w.alloc (.cells #[.int .i64 0, .int .i64 0, .int .i64 0, .int .i64 0, .int .i64 0, .int .i64 0, .int .i64 0] 55)).alloc (.cells (encMs m).toArray 55)).drew) w8 := k8.mono (fun k _ h => by cases h)
  obtain ⟨a9, c9, w9, r9, o9, k9, n9⟩ := ms_append_at (cc := c - (i + 1)) (l := i) (m := n - (i + 1)) (r := n - 1) o8 hlt (msRow_drop (k := i + 1) (hRd.quiet k8') (fun h => hA (by omega))) (by rw [List.length_drop]; omega) (by omega) (by omega) k8'.size
  rw [← List.eraseIdx_eq_take_drop_succ] at o9
  have k9' : Keeps (fun _ => False) (((w.alloc (.cells #[.int .i64 0, .int .i64 0, .int .i64 0, .int .i64 0, .int .i64 0, .int .i64 0, .int .i64 0] 55)).alloc (.cells (encMs m).toArray 55)).drew) w9 := k8'.then k9 (fun j hj e => by have := (o8.lt j e).1; omega)
  have O9 := Kept.mk o9
  have K9 := Kept.mk (k2d.trans k9')
  have HB9 := Kept.mk (HB2d.out.keeps k9' (fun h => h))
  have HZ9 := Kept.mk (HZ.out.drew.keeps k9' (fun h => h))
  have HX9 := Kept.mk (HX.out.drew.keeps k9' (fun h => h))
  have b1 := HB1.out.cell 1 rfl
  have b2 := HB2.out.cell 1 rfl
  have b8 := (HB2d.out.keeps k8' (fun h => h)).cell 1 rfl
  have b9 := HB9.out.cell 1 rfl
  have bf9 := HB9.out.frozen 1
  have e0 : (w.alloc (.cells #[.int .i64 0, .int .i64 0, .int .i64 0, .int .i64 0, .int .i64 0, .int .i64 0, .int .i64 0] 55)).cell? ⟨g, off + i * 7, none⟩ = some (.int .i64 m.kind) := hc' 0 _ rfl
  have e1 : (w.alloc (.cells #[.int .i64 0, .int .i64 0, .int .i64 0, .int .i64 0, .int .i64 0, .int .i64 0, .int .i64 0] 55)).cell? ⟨g, off + i * 7 + 1, none⟩ = some (.int .i64 m.src) := hc' 1 _ rfl
  have e2 : (w.alloc (.cells #[.int .i64 0, .int .i64 0, .int .i64 0, .int .i64 0, .int .i64 0, .int .i64 0, .int .i64 0] 55)).cell? ⟨g, off + i * 7 + 2, none⟩ = some (.int .i64 m.dst) := hc' 2 _ rfl
  have e3 : (w.alloc (.cells #[.int .i64 0, .int .i64 0, .int .i64 0, .int .i64 0, .int .i64 0, .int .i64 0, .int .i64 0] 55)).cell? ⟨g, off + i * 7 + 3, none⟩ = some (.int .i64 m.id) := hc' 3 _ rfl
  have e4 : (w.alloc (.cells #[.int .i64 0, .int .i64 0, .int .i64 0, .int .i64 0, .int .i64 0, .int .i64 0, .int .i64 0] 55)).cell? ⟨g, off + i * 7 + 4, none⟩ = some (.int .i64 m.step) := hc' 4 _ rfl
  have e5 : (w.alloc (.cells #[.int .i64 0, .int .i64 0, .int .i64 0, .int .i64 0, .int .i64 0, .int .i64 0, .int .i64 0] 55)).cell? ⟨g, off + i * 7 + 5, none⟩ = some (.int .i64 m.a) := hc' 5 _ rfl
  have e6 : (w.alloc (.cells #[.int .i64 0, .int .i64 0, .int .i64 0, .int .i64 0, .int .i64 0, .int .i64 0, .int .i64 0] 55)).cell? ⟨g, off + i * 7 + 6, none⟩ = some (.int .i64 m.b) := hc' 6 _ rfl
  obtain ⟨m0, m1, m2, m3, m4, m5, m6⟩ := m
  dsimp only at e0 e1 e2 e3 e4 e5 e6
  have x0 := HX9.out.cell 0 rfl
  have x1 := HX9.out.cell 1 rfl
  have x2 := HX9.out.cell 2 rfl
  have x3 := HX9.out.cell 3 rfl
  have x4 := HX9.out.cell 4 rfl
  have x5 := HX9.out.cell 5 rfl
  have x6 := HX9.out.cell 6 rfl
  have z0 := HZ9.out.cell 0 rfl
  have zf0 := HZ9.out.frozen 0
  have z1 := HZ9.out.cell 1 rfl
  have zf1 := HZ9.out.frozen 1
  have z2 := HZ9.out.cell 2 rfl
  have zf2 := HZ9.out.frozen 2
  have z3 := HZ9.out.cell 3 rfl
  have zf3 := HZ9.out.frozen 3
  have z4 := HZ9.out.cell 4 rfl
  have zf4 := HZ9.out.frozen 4
  have z5 := HZ9.out.cell 5 rfl
  have zf5 := HZ9.out.frozen 5
  have z6 := HZ9.out.cell 6 rfl
  have zf6 := HZ9.out.frozen 6
  have hzl := HZ9.out.lt
  have hxl := HX9.out.lt
  have hpl := HB9.out.lt
  have hii : (i : Int) < n := by omega
  have hi0 : ¬ (i : Int) < 0 := by omega
  have hni : ¬ (n : Int) ≤ i := by omega
  have hpw1 : p < w.heap.size + 1 := by omega
  have hpw2 : p < w.heap.size + 1 + 1 := by omega
  have hp8 : p < w8.heap.size := by have := k8'.size; omega
  have hzp : ¬ w.heap.size = p := by omega
  have hzp2 : ¬ p = w.heap.size := by omega
  have hxp : ¬ w.heap.size + 1 = p := by omega
  have hxz : ¬ w.heap.size + 1 = w.heap.size := by omega
  have HR := Kept.mk hR
  have HN := Kept.mk hn
  have NE9 : Kept (∀ z, a9 = some z → ¬ F z.block ∧ z.block < w9.heap.size) := ⟨fun z hz => ⟨fun e => by
    have h1 := (O9.out.lt z.block (by rw [hz]; rfl)).1
    have := hFl _ e
    omega, (O9.out.lt z.block (by rw [hz]; rfl)).2⟩⟩
  have HS := Kept.mk hne
  clear hB hR hc hc' k1 k2 k2d k8 k8' k9 k9' hRd o8 o9 n8 n9 hne hnc hm hA hlt hn
  have hwr : IntKind.i64.wrap ((i : Int) + 1) = (i : Int) + 1 := by rw [IntKind.wrap_i64]; omega
  go_enter Try.func35, Try.ntmps35
  go_wp2_with fail
  go_region_law (first
    | (refine step_ms (by simp [Region.wanted]) _ _ rfl rfl rfl rfl r8 ?_)
    | (refine step_ms (by simp [Region.wanted]) _ _ rfl rfl rfl rfl r9 ?_))
  all_goals
    go_wp2_with fail
    have hz6 := ((((((((HZ9.out.other (p := ⟨p, 1, none⟩) (by show w.heap.size ≠ p; omega) (.slice a9 (n - 1) c9)).set 0 (.int .i64 m0)).set 1 (.int .i64 m1)).set 2 (.int .i64 m2)).set 3 (.int .i64 m3)).set 4 (.int .i64 m4)).set 5 (.int .i64 m5)).set 6 (.int .i64 m6))
    have hb6 := ((((((((HB9.out.set 1 (.slice a9 (n - 1) c9)).other (p := ⟨w.heap.size, 0, none⟩) (by show p ≠ w.heap.size; omega) (.int .i64 m0)).other (p := ⟨w.heap.size, 1, none⟩) (by show p ≠ w.heap.size; omega) (.int .i64 m1)).other (p := ⟨w.heap.size, 2, none⟩) (by show p ≠ w.heap.size; omega) (.int .i64 m2)).other (p := ⟨w.heap.size, 3, none⟩) (by show p ≠ w.heap.size; omega) (.int .i64 m3)).other (p := ⟨w.heap.size, 4, none⟩) (by show p ≠ w.heap.size; omega) (.int .i64 m4)).other (p := ⟨w.heap.size, 5, none⟩) (by show p ≠ w.heap.size; omega) (.int .i64 m5)).other (p := ⟨w.heap.size, 6, none⟩) (by show p ≠ w.heap.size; omega) (.int .i64 m6))
    have k6 := (((((((((Keeps.refl (fun k => k = p ∨ k = w.heap.size) w9).setCell (p := ⟨p, 1, none⟩) (.inr (.inl rfl)) (.slice a9 (n - 1) c9)).setCell (p := ⟨w.heap.size, 0, none⟩) (.inr (.inr rfl)) (.int .i64 m0)).setCell (p := ⟨w.heap.size, 1, none⟩) (.inr (.inr rfl)) (.int .i64 m1)).setCell (p := ⟨w.heap.size, 2, none⟩) (.inr (.inr rfl)) (.int .i64 m2)).setCell (p := ⟨w.heap.size, 3, none⟩) (.inr (.inr rfl)) (.int .i64 m3)).setCell (p := ⟨w.heap.size, 4, none⟩) (.inr (.inr rfl)) (.int .i64 m4)).setCell (p := ⟨w.heap.size, 5, none⟩) (.inr (.inr rfl)) (.int .i64 m5)).setCell (p := ⟨w.heap.size, 6, none⟩) (.inr (.inr rfl)) (.int .i64 m6))
    have r0 := hz6.cell 0 rfl
    have r1 := hz6.cell 1 rfl
    have r2 := hz6.cell 2 rfl
    have r3 := hz6.cell 3 rfl
    have r4 := hz6.cell 4 rfl
    have r5 := hz6.cell 5 rfl
    have r6 := hz6.cell 6 rfl
    have HB6 := Kept.mk hb6
    have HL : Kept ((L.eraseIdx i).length = n - 1) := ⟨by rw [List.length_eraseIdx, if_pos (by rw [HN.out]; exact hi), HN.out]⟩
    have HO6 := Kept.mk (O9.out.row.keeps k6 (fun z hz e => by
      have h1 := (O9.out.lt z.block (by rw [hz]; rfl)).1
      omega))
    have HC9 : Kept (n - 1 ≤ c9 ∧ (a9 = none → c9 = 0)) := ⟨by
      obtain ⟨_, _, e, h1, _⟩ := O9.out.slice
      simp only [Value.slice.injEq] at e
      obtain ⟨rfl, e2, rfl⟩ := e
      refine ⟨by rw [e2]; exact h1, fun hz => ?_⟩
      rcases O9.out.2 with ⟨h2, _⟩ | ⟨g', cap', cur', h2, _⟩
      · simp only [Value.slice.injEq] at h2; exact h2.2.2
      · simp only [Value.slice.injEq] at h2; rw [hz] at h2; cases h2.1⟩
    have K6 : Kept (Keeps (fun k => k = p) w _) := ⟨(K9.out.mono (fun _ _ h => h.elim)).then k6 (fun i hi e => by rcases e with h | h; exact h; omega)⟩
    clear hz6 hb6 k6 x0 x1 x2 x3 x4 x5 x6 z0 z1 z2 z3 z4 z5 z6 zf0 zf1 zf2 zf3 zf4 zf5 zf6 hwr
    exact bodyPost_ret (v := .tuple #[.agg #[.int .i64 m0, .int .i64 m1, .int .i64 m2, .int .i64 m3, .int .i64 m4, .int .i64 m5, .int .i64 m6], .bool true]) (by simp [results, Try.results35, go_sem, r0, r1, r2, r3, r4, r5, r6]) rfl
      ⟨rfl, ⟨a9, c9, by rw [HL.out]; exact HB6.out, HO6.out, (fun z hz => by simp only [size_set]; exact NE9.out z hz), by rw [HL.out]; exact HC9.out.1, HC9.out.2, by rw [HL.out]; omega, hms, hps, hlf⟩, K6.out⟩
end Go.Proofs.Ytkacnogjifhcoaa
