/- Put: messages put on their way, walked. -/
import Derived.Test.YtkacnogjifhcoaaPost
import Derived.BigQuiet
namespace Go.Proofs.Ytkacnogjifhcoaa
open Go.RowKit
/-- What Put leaves behind. -/
def PutPost (w : World) (p base most : Nat) (v : Value) (s : List Ms × Nat) (w' : World) : Prop :=
  ∃ v', PostAt w' p base most s.2 v' s.1 ∧ Keeps (fun k => k = p ∨ v.ownBlock = some k) w w' ∧ NewRow w v v'
theorem ms_append2 {w : World} {base : Nat} {v : Value} {L : List Ms} {m : Ms} {s : Nat} (h : MsOwn w base v L) (hL : L.length + 1 ≤ 100000) (hb : base ≤ w.heap.size) (hs : Blk w s 55 (encMs m)) :
    ∃ a' c' w', (Builtin.append_ #[49, 49] 49 #[v, .slice (some ⟨s, 0, none⟩) 1 1]).run Try.prog w = .ok (.slice a' (L.length + 1) c') w' ∧ MsOwn w' base (.slice a' (L.length + 1) c') (L ++ [m]) ∧ Keeps (fun k => v.ownBlock = some k) w w' ∧ NewRow w v (.slice a' (L.length + 1) c') := by
  obtain ⟨i0, hi, hz0, hz1, hz2⟩ := info_parts infoMsg
  obtain ⟨a', c', w', hrun, hown, k, _, hnr⟩ := run_append_new (P := Try.prog) w base 49 49 55 i0 _ 7 56 Try.underlying49 hi hz0 hz1 hz2 rfl (by omega) v L.length _ h ⟨s, 0, none⟩ 1 1 (encMs m) rfl hs.adds (ms_one m) (by unfold maxLen; omega) (by omega) hb
  refine ⟨a', c', w', hrun, ?_, k, hnr⟩
  unfold MsOwn
  rw [List.flatMap_append, List.length_append]
  simpa using hown
theorem MsOwn.block {w : World} {base : Nat} {a : Option Addr} {n c : Nat} {L : List Ms} (h : MsOwn w base (.slice a n c) L) (hn : 0 < n) : ∃ g, a = some ⟨g, 0, none⟩ := by
  rcases h.2 with ⟨h1, _⟩ | ⟨g, cap, cur, h1, _⟩
  · simp only [Value.slice.injEq] at h1
    omega
  · simp only [Value.slice.injEq] at h1
    exact ⟨g, h1.1⟩
theorem delete_of (base : Nat) (g cap i n n' : Nat) (x y : Int) (L : List Ms) (w : World) (hi : i < L.length) (hx : x = i) (hy : y = (i : Int) + 1) (hn : L.length = n) (hn' : n - 1 = n') (h : MsOwn w base (.slice (some ⟨g, 0, none⟩) n cap) L) :
    Calls Try.prog 42 #[.slice (some ⟨g, 0, none⟩) n cap, .int .i64 x, .int .i64 y] w (fun e w' => e = .returned (.slice (some ⟨g, 0, none⟩) n' cap) ∧ MsOwn w' base (.slice (some ⟨g, 0, none⟩) n' cap) (L.eraseIdx i) ∧ Keeps (fun k => k = g) w w') := by
  subst hn
  subst hn'
  exact delete_to base g cap i x y L w hi hx hy h
theorem put_nil (a : Option Addr) (n c : Nat) (w : World) : Calls Try.prog 25 #[.pointer none, .slice a n c] w (fun e w' => (∃ v, e = .returned v) ∧ w = w') := by
  go_enter Try.func25, Try.ntmps25
  go_wp2_with fail
  refine bodyPost_ret (results_none rfl _ _ _) rfl ?_
  exact ⟨⟨_, rfl⟩, rfl⟩
set_option linter.unusedSimpArgs false in
set_option linter.unusedVariables false in
set_option maxRecDepth 100000 in
set_option maxHeartbeats 16000000 in
theorem put_to (p base most lost : Nat) (v : Value) (L M : List Ms) (b : Option Addr) (n c : Nat) (w : World) (h : PostAt w p base most lost v L) (hM : MsRow w b M) (hn : M.length = n) (hm : n ≤ 100000) (hb : ∀ x, b = some x → x.block ≠ p ∧ v.ownBlock ≠ some x.block) (hbp : base ≤ w.heap.size) :
    Calls Try.prog 25 #[.pointer (some ⟨p, 0, none⟩), .slice b n c] w (fun e w' => (∃ r, e = .returned r) ∧ PutPost w p base most v (M.foldl (put1 most) (L, lost)) w') := by
  have hp := h.blk.lt
  have hvo := h.own.lt
  have H := Kept.mk h
  have HM := Kept.mk hM
  have HB := Kept.mk hb
  have HN := Kept.mk hn
  clear h hM hb hn
  go_enter Try.func25, Try.ntmps25
  go_wp2_with fail
  go_loopw [10] (fun i wr => ∃ (k : Nat) (s : List Ms × Nat) (v' : Value), k ≤ n ∧ i = .int .i64 k ∧ (M.take k).foldl (put1 most) (L, lost) = s ∧ PostAt wr p base most s.2 v' s.1 ∧ Keeps (fun k => k = p ∨ v.ownBlock = some k) w wr ∧ Kept (NewRow w v v')) (fun i _ => n - (intOf i).toNat)
  case atStart => exact ⟨0, (L, lost), v, Nat.zero_le _, rfl, by simp, H.out, Keeps.refl _ _, ⟨fun g hg => .inl hg⟩⟩
  case round =>
    obtain ⟨k, s, v', hk, rfl, hs, hP, hK, hNR⟩ := hrel
    have HS := Kept.mk hs
    have HP := Kept.mk hP
    have KR := Kept.mk hK
    have hpr := hP.blk.lt
    clear hs hK
    by_cases hlt : k < n
    · obtain ⟨m, hx⟩ : ∃ m, M[k]? = some m := ⟨_, List.getElem?_eq_getElem (by rw [HN.out]; exact hlt)⟩
      have HF : Kept ((M.take (k + 1)).foldl (put1 most) (L, lost) = put1 most s m) := ⟨by rw [List.take_add_one, hx, List.foldl_append, HS.out]; rfl⟩
      obtain ⟨g, off, rfl, hl, hc⟩ := HM.out k m hx
      obtain ⟨hgp, hgv⟩ := HB.out _ rfl
      have hcc : ∀ j u, (encMs m)[j]? = some u → wr.cell? ⟨g, off + k * 7 + j, none⟩ = some u := fun j u hu => (KR.out.cell (p := ⟨g, off + k * 7 + j, none⟩) hl (fun e => e.elim (fun e => hgp e) (fun e => hgv e))).trans (hc j u hu)
      have e0 : wr.cell? ⟨g, off + k * 7, none⟩ = some (.int .i64 m.kind) := hcc 0 _ rfl
      have e1 : wr.cell? ⟨g, off + k * 7 + 1, none⟩ = some (.int .i64 m.src) := hcc 1 _ rfl
      have e2 : wr.cell? ⟨g, off + k * 7 + 2, none⟩ = some (.int .i64 m.dst) := hcc 2 _ rfl
      have e3 : wr.cell? ⟨g, off + k * 7 + 3, none⟩ = some (.int .i64 m.id) := hcc 3 _ rfl
      have e4 : wr.cell? ⟨g, off + k * 7 + 4, none⟩ = some (.int .i64 m.step) := hcc 4 _ rfl
      have e5 : wr.cell? ⟨g, off + k * 7 + 5, none⟩ = some (.int .i64 m.a) := hcc 5 _ rfl
      have e6 : wr.cell? ⟨g, off + k * 7 + 6, none⟩ = some (.int .i64 m.b) := hcc 6 _ rfl
      have hki : (k : Int) < n := by omega
      obtain ⟨L', lost'⟩ := s
      dsimp only at hP
      obtain ⟨a', c', rfl, _, _⟩ := hP.own.slice
      have HPo := Kept.mk hP
      have p1 := hP.blk.cell 1 rfl
      have pf := hP.blk.frozen 1
      have hLm := hP.full
      have hms := hP.small
      -- the append
      obtain ⟨X, hX⟩ : ∃ X : Obj, Obj.cells (encMs m).toArray 55 = X := ⟨_, rfl⟩
      have ka : Keeps (fun _ => False) wr (((wr.alloc (.cells (encMs m).toArray 55)).drew).alloc (.cells (encMs m).toArray 55)) := (((Keeps.refl _ wr).alloc _).drew).alloc _
      have hbk := Blk.new' ((wr.alloc (.cells (encMs m).toArray 55)).drew) 55 (encMs m) (wr.heap.size + 1) (by show _ = (wr.alloc _).heap.size; simp)
      have hbase : base ≤ wr.heap.size := by have := KR.out.size; omega
      obtain ⟨a2, c2, w3, hrun, hO3, k3, hnr3⟩ := ms_append2 (hP.own.quiet ka) (by omega) (by have := ka.size; omega) hbk
      have NE4 : Kept ((Value.slice a2 (L'.length + 1) c2).ownBlock ≠ some p) := ⟨fun e => by
        rcases hnr3 p e with h | h
        · exact HPo.out.ne h
        · have := ka.size; omega⟩
      have hO4 := hO3.keeps ((Keeps.refl (fun k => k = p) w3).setCell (p := ⟨p, 1, none⟩) (.inr rfl) (.slice a2 (L'.length + 1) c2)) (fun g hg e => NE4.out (by rw [hg, e]))
      have HR := Kept.mk hrun
      have hgm : wr.heap.size < w3.heap.size := by
        have h1 := k3.size
        have h2 : (((wr.alloc (.cells (encMs m).toArray 55)).drew).alloc (.cells (encMs m).toArray 55)).heap.size = wr.heap.size + 2 := by show ((wr.alloc _).alloc _).heap.size = _; simp
        omega
      obtain ⟨m0, m1, m2, m3, m4, m5, m6⟩ := m
      dsimp only at e0 e1 e2 e3 e4 e5 e6
      have hB3 := (HPo.out.blk.keeps ka (fun h => h)).keeps k3 HPo.out.ne
      have q1 := hB3.cell 1 rfl
      have qf := hB3.frozen 1
      clear hB3
      have hpw : p < w3.heap.size := by omega
      have hp1 : p < wr.heap.size + 1 := by omega
      go_wp2_with fail
      go_region_law (refine step_append_run rfl _ _ _ rfl rfl rfl HR.out ?_)
      all_goals
        obtain ⟨w4, hw4⟩ : ∃ w4, w3.setCell ⟨p, 1, none⟩ (.slice a2 (L'.length + 1) c2) = w4 := ⟨_, rfl⟩
        rw [hw4]
        rw [hw4] at hO4
        have hB4 : Blk w4 p 81 [.int .i64 most, .slice a2 (L'.length + 1) c2, .int .i64 lost'] := by rw [← hw4]; exact ((HPo.out.blk.keeps ka (fun h => h)).keeps k3 HPo.out.ne).set 1 _
        have hob := HPo.out.own.lt
        have hnr := hNR.out
        have K4 : Kept (Keeps (fun k => k = p ∨ v.ownBlock = some k) w w4) := ⟨by
          rw [← hw4]
          refine (((KR.out.then ka (fun _ _ h => h.elim)).then k3 (fun i hi e => ?_)).setCell (p := ⟨p, 1, none⟩) (.inr (.inl rfl)) _)
          rcases hnr i e with h | h
          · exact .inr h
          · omega⟩
        have NR4 : Kept (NewRow w v (.slice a2 (L'.length + 1) c2)) := ⟨fun g hg => by
          rcases hnr3 g hg with h | h
          · exact hnr g h
          · right; have := ka.size; have := KR.out.size; omega⟩
        have HO4 := Kept.mk hO4
        have HB4 := Kept.mk hB4
        have hlf := HPo.out.few
        have hps := HPo.out.pos
        have c0 := hB4.cell 0 rfl
        have c1 := hB4.cell 1 rfl
        have c2' := hB4.cell 2 rfl
        have hp4 := hB4.lt
        clear hw4 hO4 hB4 hnr3 hnr hob e0 e1 e2 e3 e4 e5 e6 q1 qf hrun hO3 k3 hbk hcc hc p1 pf ka HR hP
        by_cases hfull : most < L'.length + 1
        · have hfi : (most : Int) < (L'.length : Int) + 1 := by omega
          obtain ⟨g2, rfl⟩ := HO4.out.block (by omega)
          go_wp2_with fail
          go_quiet (fail)
          go_wp2_with fail
          refine (delete_of base g2 c2 0 (L'.length + 1) L'.length 0 1 (L' ++ [⟨m0, m1, m2, m3, m4, m5, m6⟩]) _ (by simp) rfl rfl (by simp) (by omega) (HO4.out.quiet ((Keeps.refl _ _).drewN _))).mono ?_
          rintro e w5 ⟨rfl, hO5, k5⟩
          have hpg : p ≠ g2 := fun e => NE4.out (by rw [e]; rfl)
          have hB5 := (HB4.out.drewN nq).keeps k5 hpg
          have K5 : Kept (Keeps (fun k => k = p ∨ v.ownBlock = some k) w w5) := ⟨(K4.out.drewN nq).then k5 (fun i hi e => by
            rcases NR4.out i (by rw [e]; rfl) with h | h
            · exact .inr h
            · omega)⟩
          have HO5 := Kept.mk hO5
          have HB5 := Kept.mk hB5
          have b1 := hB5.cell 1 rfl
          have b2 := hB5.cell 2 rfl
          have bf1 := hB5.frozen 1
          have bf2 := hB5.frozen 2
          have hp5 := hB5.lt
          have hpg2 : ¬ g2 = p := fun e => hpg e.symm
          clear hO5 k5 hB5 c0 c1 c2'
          have NR5 : Kept (NewRow w v (.slice (some ⟨g2, 0, none⟩) L'.length c2)) := ⟨fun g hg => NR4.out g hg⟩
          have fin : ∀ (lo : Nat) (x : Int), x = lo → lo = min (lost' + 1) 1000000 → PostAt ((w5.setCell ⟨p, 1, none⟩ (.slice (some ⟨g2, 0, none⟩) L'.length c2)).setCell ⟨p, 2, none⟩ (.int .i64 x)) p base most lo (.slice (some ⟨g2, 0, none⟩) L'.length c2) ((L' ++ [(⟨m0, m1, m2, m3, m4, m5, m6⟩ : Ms)]).eraseIdx 0) ∧ Keeps (fun k => k = p ∨ v.ownBlock = some k) w ((w5.setCell ⟨p, 1, none⟩ (.slice (some ⟨g2, 0, none⟩) L'.length c2)).setCell ⟨p, 2, none⟩ (.int .i64 x)) := fun lo x hx hlo => by
            subst hx
            exact ⟨⟨(HB5.out.set 1 _).set 2 _, HO5.out.keeps (((Keeps.refl (fun k => k = p) w5).setCell (p := ⟨p, 1, none⟩) (.inr rfl) _).setCell (p := ⟨p, 2, none⟩) (.inr rfl) _) (fun g hg e => hpg2 (by simp only [Value.ownBlock, Option.some.injEq] at hg; omega)), (fun e => hpg2 (by simp only [Value.ownBlock, Option.some.injEq] at e; exact e)), (by rw [List.length_eraseIdx, if_pos (by simp)]; simp; omega), hms, hps, (by rw [hlo]; exact Nat.min_le_right _ _)⟩, (K5.out.setCell (p := ⟨p, 1, none⟩) (.inr (.inl rfl)) _).setCell (p := ⟨p, 2, none⟩) (.inr (.inl rfl)) _⟩
          have Fin := Kept.mk fin
          clear fin
          by_cases hlo : lost' + 1 ≤ 1000000
          · have hl1 : (lost' : Int) + 1 ≤ 1000000 := by omega
            have hl2 : ¬ (1000000 : Int) < (lost' : Int) + 1 := by omega
            go_wp2_with fail
            go_roundw
            case rel => exact ⟨k + 1, _, _, by omega, by go_num, by rw [HF.out, put1_yes hfull], by rw [Nat.min_eq_left hlo]; exact (Fin.out (lost' + 1) _ (by omega) (Nat.min_eq_left hlo).symm).1, (Fin.out (lost' + 1) _ (by omega) (Nat.min_eq_left hlo).symm).2, NR5⟩
            case measure => simp [intOf]; omega
          · have hlr : 1000000 ≤ lost' + 1 := by omega
            have hl1 : ¬ (lost' : Int) + 1 ≤ 1000000 := by omega
            have hl2 : (1000000 : Int) < (lost' : Int) + 1 := by omega
            have hl3 : (1000000 : Int) ≤ (lost' : Int) + 1 := by omega
            have hl4 : ¬ (lost' : Int) + 1 < 1000000 := by omega
            go_wp2_with fail
            go_roundw
            case rel => exact ⟨k + 1, _, _, by omega, by go_num, by rw [HF.out, put1_yes hfull], by rw [Nat.min_eq_right hlr]; exact (Fin.out 1000000 _ (by rfl) (Nat.min_eq_right hlr).symm).1, (Fin.out 1000000 _ (by rfl) (Nat.min_eq_right hlr).symm).2, NR5⟩
            case measure => simp [intOf]; omega
        · have hfi : ¬ (most : Int) < (L'.length : Int) + 1 := by omega
          go_wp2_with fail
          go_quiet (fail)
          go_wp2_with fail
          go_roundw
          case rel => exact ⟨k + 1, _, _, by omega, by go_num, by rw [HF.out, put1_no hfull], ⟨HB4.out.drewN _, HO4.out.quiet ((Keeps.refl _ _).drewN _), NE4.out, by simp; omega, hms, hps, hlf⟩, K4.out.drewN _, NR4⟩
          case measure => simp [intOf]; omega
    · obtain rfl : k = n := by omega
      have hkl : ¬ (k : Int) < (k : Int) := by omega
      have HT : Kept (M.foldl (put1 most) (L, lost) = s) := ⟨by have h1 := HS.out; rwa [List.take_of_length_le (by rw [HN.out]; omega)] at h1⟩
      go_wp2_with fail
      go_end0
      exact ⟨⟨_, rfl⟩, v', by rw [HT.out]; exact HP.out, KR.out, hNR.out⟩
end Go.Proofs.Ytkacnogjifhcoaa
