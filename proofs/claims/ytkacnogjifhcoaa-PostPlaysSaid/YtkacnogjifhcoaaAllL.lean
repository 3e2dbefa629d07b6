/- The law's all, walked, over whatever All hands back. -/
import Derived.Test.YtkacnogjifhcoaaAllIt
namespace Go.Proofs.Ytkacnogjifhcoaa
open Go.RowKit Go.Shelf
attribute [local go_sem] Oper.semAt_some
theorem run_func_nil2 (f : Fn) (x y : Array Value) (w : World) : (binOp .eql 84 (.func f x y) .nilFunc).run Try.prog w = .ok (.bool false) w := by kernel_rfl
theorem zip_snd {L : List Ms} {k : Nat} {ini : List (Ms × Nat)} {x : Ms × Nat} (h : ini ++ [x] = L.zipIdx.take k) : x.2 = ini.length := by
  have h1 : (ini ++ [x])[ini.length]? = some x := by simp
  rw [h, List.getElem?_take] at h1
  split at h1
  · rw [List.getElem?_zipIdx] at h1
    cases hx : L[ini.length]? with
    | none => rw [hx] at h1; cases h1
    | some y => rw [hx] at h1; simp at h1; rw [← h1]
  · cases h1
theorem zip_fst {L : List Ms} {k : Nat} : (L.zipIdx.take k).map (·.1) = L.take k := by
  rw [List.map_take, List.zipIdx_map_fst]
def allX (n B : Nat) (c : Code) (pre : List (Ms × Nat)) (W : World) (v : Value) : Prop :=
  (c = .exit 0 ∧ ∃ ini x, pre = ini ++ [x] ∧ n = ini.length ∧ MsOwn W B v (ini.map (·.1))) ∨ (∃ ini x, pre = ini ++ [x] ∧ x.2 ≠ ini.length)
set_option linter.unusedSimpArgs false in
set_option linter.unusedVariables false in
set_option maxRecDepth 100000 in
set_option maxHeartbeats 16000000 in
theorem all_list (p : Value) (n : Nat) (L : List Ms) (w : World) (hn : n ≤ 100000) (hL : L.length ≤ 100000)
    (hI : ∀ w1, Keeps (fun _ => False) w w1 → Calls Try.prog 44 #[p] w1 fun e w2 => ∃ v, e = .returned v ∧ AllTo w1 w2 v L) :
    Calls Try.prog 30 #[p, .int .i64 n] w (fun e w' => (∃ v, e = .returned v ∧ MsOwn w' w.heap.size v (L.take n)) ∧ Keeps (fun _ => False) w w') := by
  have K0 : Kept (Keeps (fun _ => False) w (((w.alloc (.cells #[.int .i64 n] 3)).alloc (.cells #[.slice none 0 0] 49)).alloc (.cells #[.slice none 0 0] 49))) := ⟨(((Keeps.refl _ w).alloc _).alloc _).alloc _⟩
  have HN0 := Kept.mk (((Blk.new' w 3 [.int .i64 n] _ rfl).alloc (.cells #[.slice none 0 0] 49)).alloc (.cells #[.slice none 0 0] 49))
  have HR0 := Kept.mk ((Blk.new' (w.alloc (.cells #[.int .i64 n] 3)) 49 [.slice none 0 0] (w.heap.size + 1) (by simp)).alloc (.cells #[.slice none 0 0] 49))
  have HL0 := Kept.mk (Blk.new' ((w.alloc (.cells #[.int .i64 n] 3)).alloc (.cells #[.slice none 0 0] 49)) 49 [.slice none 0 0] (w.heap.size + 1 + 1) (by simp))
  have HI := Kept.mk hI
  clear hI
  refine (callsIn_wide (n := 6)).1 ?_
  refine callsIn_of_wp_marks Try.func30 rfl trivial ?_ rfl
  simp only [Try.ntmps30, List.size_toArray, List.length_cons, List.length_nil, Nat.reduceAdd, Nat.reduceSub, Array.replicate_succ, Array.replicate_zero, List.push_toArray, List.append_toArray, List.nil_append, List.cons_append]
  gi_wp2
  refine ⟨trivial, ?_⟩
  gi_at_call 44
  refine (callsIn_wide.2 (HI.out _ K0.out)).mono ?_
  rintro e w2 ⟨v, rfl, B, a, c, rfl, hB, hR, hab, k2⟩
  have HN2 := Kept.mk (HN0.out.keeps k2 (fun h => h))
  have HR2 := Kept.mk (HR0.out.keeps k2 (fun h => h))
  have HL2 := Kept.mk (HL0.out.keeps k2 (fun h => h))
  have K2 := Kept.mk (K0.out.trans k2)
  have hlt := HL2.out.lt
  have hsz0 : (((w.alloc (.cells #[.int .i64 n] 3)).alloc (.cells #[.slice none 0 0] 49)).alloc (.cells #[.slice none 0 0] 49)).heap.size = w.heap.size + 1 + 1 + 1 := by simp
  rw [hsz0] at hab
  have hTa : ∀ g off, L ≠ [] → a = some ⟨g, off, none⟩ → ¬ (g = w.heap.size + 1 + 1 ∨ w2.heap.size ≤ g) := by
    intro g off hne hg
    obtain ⟨x, hx⟩ : ∃ x, L[0]? = some x := ⟨_, List.getElem?_eq_getElem (List.length_pos_iff.2 hne)⟩
    obtain ⟨g', off', e, hlt', _⟩ := hR 0 x hx
    rw [hg] at e
    simp only [Option.some.injEq, Addr.mk.injEq, and_true] at e
    have := hab _ hg
    simp only at this
    omega
  have hstops := all_stops 5 (by omega) B (fun k => k = w.heap.size + 1 + 1 ∨ w2.heap.size ≤ k) a c L hL w2 hB.lt hTa (hB.cell 0 rfl) hR
  have hnf := run_func_nil2
  clear hsz0 hab hB hR k2 hTa
  gi_wp2
  refine wpIn_rangeFunc_ownH rfl (by omega) (gf := 49) (lb := #[.pointer (some ⟨B, 0, none⟩)]) rfl trivial (enters_of Try.func49 (by kernel_rfl) rfl) hstops keepsK_t (keepsK_b (T := fun k => k = w.heap.size + 1 + 1 ∨ w2.heap.size ≤ k) (w := w2) (fun _ h => Or.inr h)) (Below.refl _ _) (fun _ => rfl)
    (fun pre W => Keeps (fun _ => False) w W ∧ Blk W w.heap.size 3 [.int .i64 n] ∧ Blk W (w.heap.size + 1) 49 [.slice none 0 0] ∧ (∃ v, Blk W (w.heap.size + 1 + 1) 49 [v] ∧ MsOwn W w2.heap.size v (pre.map (·.1))) ∧ w2.heap.size ≤ W.heap.size ∧ Kept (pre.length ≤ n))
    (fun c pre W => Keeps (fun _ => False) w W ∧ Blk W (w.heap.size + 1) 49 [.slice none 0 0] ∧ ∃ v, Blk W (w.heap.size + 1 + 1) 49 [v] ∧ allX n w2.heap.size c pre W v)
    (fun s X Y row hs hg hr => by
      obtain ⟨h1, h2, h2b, ⟨v, h3, h4⟩, h5, h6⟩ := hs
      exact ⟨ownFrom_keeps (by omega) s X Y row h1 hg hr, ownFrom_blk (fun _ => _) s X Y row h2 hg hr, ownFrom_blk (fun _ => _) s X Y row h2b hg hr, ⟨v, ownFrom_blk (fun _ => _) s X Y row h3 hg hr, row_cells h4 hg (fun r e => (hr r e).2)⟩, Nat.le_trans h5 hg.size, h6⟩)
    (fun c s X Y row hs hg hr => by
      obtain ⟨h1, h1b, v, h2, h3⟩ := hs
      refine ⟨ownFrom_keeps (by omega) s X Y row h1 hg hr, ownFrom_blk (fun _ => _) s X Y row h1b hg hr, v, ownFrom_blk (fun _ => _) s X Y row h2 hg hr, ?_⟩
      rcases h3 with ⟨e0, ini, x, e1, e2, e4⟩ | h3
      · exact .inl ⟨e0, ini, x, e1, e2, row_cells e4 hg (fun r e => (hr r e).2)⟩
      · exact .inr h3)
    ⟨K2.out, HN2.out, HR2.out, ⟨_, HL2.out, MsOwn.nil _ _⟩, Nat.le_refl _, ⟨Nat.zero_le _⟩⟩
    (fun x a' W => ∃ Bx, w2.heap.size ≤ Bx ∧ Blk W Bx 55 (encMs x.1) ∧ a' = { tmps := #[p, .int .i64 n, undef, .pointer (some ⟨w.heap.size, 0, none⟩), .pointer (some ⟨w.heap.size + 1, 0, none⟩), .pointer (some ⟨w.heap.size + 1 + 1, 0, none⟩), .func (.func 49) #[] #[.pointer (some ⟨B, 0, none⟩)], .int .i64 x.2, .pointer (some ⟨Bx, 0, none⟩), p, .func (.func 49) #[] #[.pointer (some ⟨B, 0, none⟩)], .func (.func 49) #[] #[.pointer (some ⟨B, 0, none⟩)], .bool false, .func (.func 49) #[] #[.pointer (some ⟨B, 0, none⟩)], .int .i64 x.2, .agg (encMs x.1).toArray, undef, undef, undef, undef, undef, undef, undef, undef, undef, undef, undef, undef, undef], defers := [] })
    (fun x a' _ X Y row hs hg hr => by obtain ⟨Bx, h1, h2, h3⟩ := hs; exact ⟨Bx, h1, ownFrom_blk (fun _ => _) () X Y row h2 hg hr, h3⟩)
    ?assign ?body ?done ?stop
  case assign =>
    rintro l pre x W K ⟨hK, hN, hRs, ⟨v, hV, hO⟩, hz, hp⟩ hk
    have HK := Kept.mk hk
    clear hk
    unfold encMx
    obtain ⟨⟨m0, m1, m2, m3, m4, m5, m6⟩, xi⟩ := x
    unfold encMs
    gi_wp2
    exact HK.out _ _ ((KeepsOthers.alloc _ _).from _) ((Keeps.refl _ W).alloc _) ⟨hK.alloc _, hN.alloc _, hRs.alloc _, ⟨v, hV.alloc _, hO.quiet ((Keeps.refl (fun _ => False) W).alloc _)⟩, Nat.le_trans hz (by simp), hp⟩ ⟨W.heap.size, hz, Blk.new' _ 55 [.int .i64 m0, .int .i64 m1, .int .i64 m2, .int .i64 m3, .int .i64 m4, .int .i64 m5, .int .i64 m6] _ rfl, rfl⟩
  case body =>
    rintro l pre x a' W hl ⟨r, hr⟩ ⟨hK, hN, hRs, ⟨v, hV, hO⟩, hz, hp⟩ ⟨Bx, hBx, bX, rfl⟩ hlt2
    obtain ⟨q, hq⟩ : ∃ q, (pre.map (·.1)).length = q := ⟨_, rfl⟩
    have hqp : pre.length = q := by rw [← hq]; simp
    obtain ⟨va, vc, rfl, _⟩ := hO.slice
    rw [hq] at hV hO
    have n0 := hN.cell 0 rfl
    have v0 := hV.cell 0 rfl
    have vf := hV.frozen 0
    have rf0 := hRs.frozen 0
    have rc0 := hRs.cell 0 rfl
    have HK := Kept.mk hK
    have HN := Kept.mk hN
    have HRs := Kept.mk hRs
    have HV := Kept.mk hV
    have HO := Kept.mk hO
    have HX := Kept.mk bX
    have hvl := hV.lt
    have hrl := hRs.lt
    have hxl := bX.lt
    have hpl := hp.out
    have HQ := Kept.mk hqp
    have HQ2 := Kept.mk hq
    clear hr hK hN hRs hV hO hp bX
    obtain ⟨⟨m0, m1, m2, m3, m4, m5, m6⟩, xi⟩ := x
    by_cases hge : n ≤ q
    · have hgi : (n : Int) ≤ (q : Int) := by omega
      gi_wp2
      exact ⟨KeepsFrom.refl _ _, HK.out, HRs.out, _, HV.out, .inl ⟨rfl, pre, _, rfl, by have := HQ.out; omega, HO.out⟩⟩
    · have hgi : ¬ (n : Int) ≤ (q : Int) := by omega
      by_cases hxq : xi = q
      · subst hxq
        have HX2 : Kept (Blk W Bx 55 (encMs ⟨m0, m1, m2, m3, m4, m5, m6⟩)) := ⟨HX.out⟩
        have x0 := HX2.out.cell 0 rfl
        have x1 := HX2.out.cell 1 rfl
        have x2 := HX2.out.cell 2 rfl
        have x3 := HX2.out.cell 3 rfl
        have x4 := HX2.out.cell 4 rfl
        have x5 := HX2.out.cell 5 rfl
        have x6 := HX2.out.cell 6 rfl
        dsimp only at x0 x1 x2 x3 x4 x5 x6
        have K3 : Kept (Keeps (fun _ => False) W (W.alloc (.cells (encMs ⟨m0, m1, m2, m3, m4, m5, m6⟩).toArray 55))) := ⟨(Keeps.refl _ _).alloc _⟩
        have hO3 := HO.out.quiet K3.out
        obtain ⟨a', c', w3, hrun, hM3, k3⟩ := ms_append (m := ⟨m0, m1, m2, m3, m4, m5, m6⟩) (s := W.heap.size) hO3 (by rw [HQ2.out]; omega) (by simp; omega) (Blk.new' W 55 (encMs ⟨m0, m1, m2, m3, m4, m5, m6⟩) _ rfl)
        rw [HQ2.out] at hrun hM3
        have hlb := fun g e => (HO.out.lt g e).1
        have HM3 : Kept (MsOwn w3 w2.heap.size (.slice a' (xi + 1) c') ((pre ++ [((⟨m0, m1, m2, m3, m4, m5, m6⟩ : Ms), xi)]).map (·.1))) := ⟨by rw [List.map_append]; exact hM3⟩
        have KT : Kept (Keeps (fun k => k = w.heap.size + 1 + 1 ∨ w2.heap.size ≤ k) W w3) := ⟨(K3.out.mono (fun _ _ h => h.elim)).then k3 (fun i _ e => .inr (hlb i e))⟩
        have HV3 := Kept.mk ((HV.out.keeps K3.out (fun h => h)).keeps k3 (fun e => by have := hlb _ e; omega))
        have HN3 := Kept.mk ((HN.out.keeps K3.out (fun h => h)).keeps k3 (fun e => by have := hlb _ e; omega))
        have HRs3 := Kept.mk ((HRs.out.keeps K3.out (fun h => h)).keeps k3 (fun e => by have := hlb _ e; omega))
        have HK3 : Kept (Keeps (fun _ => False) w w3) := ⟨(HK.out.trans K3.out).then k3 (fun i hi e => by have := hlb i e; omega)⟩
        have r0 := HV3.out.cell 0 rfl
        have rf := HV3.out.frozen 0
        have hz3 : w2.heap.size ≤ w3.heap.size := by have := KT.out.size; omega
        have HR := Kept.mk hrun
        have HKO : Kept (KeepsOthers W w3) := ⟨(KeepsOthers.alloc W _).trans (k3.others (row_isCells hO3))⟩
        clear hO3 hM3 k3 hrun HX HX2
        gi_wp2_with (gi_at_builtin; refine wpListIn_append_run rfl _ _ _ rfl rfl rfl HR.out ?_)
        refine ⟨(HKO.out.trans (KeepsOthers.setCell _ _ _)).from _, KT.out.trans ((Keeps.refl (fun k => k = w.heap.size + 1 + 1 ∨ w2.heap.size ≤ k) w3).setCell (p := ⟨w.heap.size + 1 + 1, 0, none⟩) (.inr (.inl rfl)) _), HK3.out.setCell (p := ⟨w.heap.size + 1 + 1, 0, none⟩) (.inl (by show w.heap.size ≤ w.heap.size + 1 + 1; omega)) _, HN3.out.other (p := ⟨w.heap.size + 1 + 1, 0, none⟩) (by show w.heap.size ≠ w.heap.size + 1 + 1; omega) _, HRs3.out.other (p := ⟨w.heap.size + 1 + 1, 0, none⟩) (by show w.heap.size + 1 ≠ w.heap.size + 1 + 1; omega) _, ⟨_, HV3.out.set 0 _, ?_⟩, by rw [size_set]; exact hz3, ⟨by rw [List.length_append, List.length_singleton, HQ.out]; omega⟩⟩
        exact HM3.out.keeps ((Keeps.refl (fun k => k = w.heap.size + 1 + 1) w3).setCell (p := ⟨w.heap.size + 1 + 1, 0, none⟩) (.inr rfl) _) (fun g hg e => by have := (HM3.out.lt g hg).1; omega)
      · have hxi : ¬ ((xi : Nat) : Int) = (q : Int) := by omega
        gi_wp2
        refine ⟨(KeepsOthers.setCell _ _ _).from _, HK.out.setCell (p := ⟨w.heap.size + 1, 0, none⟩) (.inl (by show w.heap.size ≤ w.heap.size + 1; omega)) _, HRs.out.set 0 _, _, HV.out.other (p := ⟨w.heap.size + 1, 0, none⟩) (by show w.heap.size + 1 + 1 ≠ w.heap.size + 1; omega) _, .inr ⟨pre, _, rfl, by have := HQ.out; simp only; omega⟩⟩
  case done =>
    rintro D ys W hD rfl ⟨hK, hN, hRs, ⟨v, hV, hO⟩, hz, hp⟩ hKD
    obtain ⟨va, vc, rfl, _⟩ := hO.slice
    obtain ⟨q, hq⟩ : ∃ q, (L.zipIdx.map (·.1)).length = q := ⟨_, rfl⟩
    rw [hq] at hV hO
    have v0 := hV.cell 0 rfl
    have rf0 := hRs.frozen 0
    have rc0 := hRs.cell 0 rfl
    have hrl := hRs.lt
    have HK := Kept.mk hK
    have HO := Kept.mk hO
    have HRs := Kept.mk hRs
    have HE : Kept (L.take n = L.zipIdx.map (·.1)) := ⟨by rw [List.zipIdx_map_fst]; exact List.take_of_length_le (by have := hp.out; simpa using this)⟩
    have HD := Kept.mk hKD
    clear hK hN hV hO hp hKD hRs hq
    gi_wp2
    have hD2 := (KeepsOthers.setCell W ⟨w.heap.size + 1, 0, none⟩ (.slice va q vc)).same D _ HD.out rfl
    have hc5 := cell_kept ((HRs.out.set 0 (.slice va q vc)).cell 0 rfl) (grownBy_putObj' _ D (.deferred none)) (fun r e => by cases e; exact ⟨_, hD2, rfl⟩)
    refine ⟨by simp, .inl ⟨_, _, rfl, run_takeDeferred hD2, ?_⟩⟩
    refine ⟨.slice va q vc, ?_, ⟨_, rfl, ?_⟩, ?_⟩
    · simp [results, Try.results30, go_sem, hc5]
    · rw [HE.out]
      exact MsOwn.mono (show MsOwn _ w2.heap.size _ (L.zipIdx.map (·.1)) from row_cells (HO.out.keeps ((Keeps.refl (fun k => k = w.heap.size + 1) W).setCell (p := ⟨w.heap.size + 1, 0, none⟩) (.inr rfl) (.slice va q vc)) (fun g hg e => by have := (HO.out.lt g hg).1; omega)) (grownBy_putObj' _ D (.deferred none)) (fun r e => by cases e; exact ⟨_, hD2, rfl⟩) ) (by have := K2.out.size; omega)
    · exact keepsQ_b _ D _ _ (by omega) hD2 (HK.out.setCell (p := ⟨w.heap.size + 1, 0, none⟩) (.inl (by show w.heap.size ≤ w.heap.size + 1; omega)) _)
  case stop =>
    rintro D c pre W hD ⟨k, hk, hpre⟩ ⟨hK, hRs, v, hV, hX⟩ hKD
    rcases hX with ⟨rfl, ini, x, e1, e2, e3⟩ | ⟨ini, x, e1, e2⟩
    · obtain ⟨va, vc, rfl, _⟩ := e3.slice
      obtain ⟨q, hq⟩ : ∃ q, (ini.map (·.1)).length = q := ⟨_, rfl⟩
      rw [hq] at hV e3
      have v0 := hV.cell 0 rfl
      have rf0 := hRs.frozen 0
      have rc0 := hRs.cell 0 rfl
      have hrl := hRs.lt
      have HK := Kept.mk hK
      have HO := Kept.mk e3
      have HRs := Kept.mk hRs
      have HE : Kept (L.take n = ini.map (·.1)) := ⟨by
        have h1 : ini ++ [x] = L.zipIdx.take k := by rw [← e1]; exact hpre
        have h2 := congrArg List.length h1
        rw [List.length_append, List.length_singleton, List.length_take, List.length_zipIdx] at h2
        have h3 : L.take n = (L.zipIdx.take n).map (·.1) := zip_fst.symm
        have h4 : L.zipIdx.take n = (L.zipIdx.take k).take n := by rw [List.take_take]; congr 1; omega
        rw [h3, h4, ← h1, e2, List.take_left']
        rfl⟩
      have HD := Kept.mk hKD
      clear hK hV e3 hKD hRs e2 hq
      gi_wp2
      have hD2 := (KeepsOthers.setCell W ⟨w.heap.size + 1, 0, none⟩ (.slice va q vc)).same D _ HD.out rfl
      have hc5 := cell_kept ((HRs.out.set 0 (.slice va q vc)).cell 0 rfl) (grownBy_putObj' _ D (.deferred none)) (fun r e => by cases e; exact ⟨_, hD2, rfl⟩)
      refine ⟨by simp, .inl ⟨_, _, rfl, run_takeDeferred hD2, ?_⟩⟩
      refine ⟨.slice va q vc, ?_, ⟨_, rfl, ?_⟩, ?_⟩
      · simp [results, Try.results30, go_sem, hc5]
      · rw [HE.out]
        exact MsOwn.mono (show MsOwn _ w2.heap.size _ (ini.map (·.1)) from row_cells (HO.out.keeps ((Keeps.refl (fun k => k = w.heap.size + 1) W).setCell (p := ⟨w.heap.size + 1, 0, none⟩) (.inr rfl) (.slice va q vc)) (fun g hg e => by have := (HO.out.lt g hg).1; omega)) (grownBy_putObj' _ D (.deferred none)) (fun r e => by cases e; exact ⟨_, hD2, rfl⟩) ) (by have := K2.out.size; omega)
      · exact keepsQ_b _ D _ _ (by omega) hD2 (HK.out.setCell (p := ⟨w.heap.size + 1, 0, none⟩) (.inl (by show w.heap.size ≤ w.heap.size + 1; omega)) _)
    · exact absurd (zip_snd (L := L) (k := k) (by rw [← e1]; exact hpre)) e2
end Go.Proofs.Ytkacnogjifhcoaa
