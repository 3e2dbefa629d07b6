/- The page's Put, walked. (printed by gen/rput.py) -/
import Derived.Test.YtkacnogjifhcoaaRPost
import Derived.BigQuiet
namespace Go.Proofs.Ytkacnogjifhcoaa
open Go.RowKit
theorem ms_from2 (g n cap i : Nat) (hi : i < n) (hc : n ≤ cap) : ∃ A, (∀ W, (Instr.slice 49 (.slice (some ⟨g, 0, none⟩) n cap) (some (.int .i64 ((i : Int) + 1))) none none).run Try.prog W = .ok (.slice (some A) (n - (i + 1)) (cap - (i + 1))) W) ∧ (i + 1 < n → A = ⟨g, 0 + (i + 1) * 7, none⟩) ∧ A.block = g := by
  have ht : Try.prog.underlying 49 = some (.slice (Try.prog.elem 49)) := by simp [Program.elem, Try.underlying49]
  have he : Try.prog.elem 49 = 55 := by simp [Program.elem, Try.underlying49]
  have hs : ∀ W, (Go.sizeOf 55).run Try.prog W = .ok 7 W := fun W => by kernel_rfl
  have hadd : ∀ k, (Addr.mk g 0 none).add k = ⟨g, 0 + k, none⟩ := by
    intro k
    unfold Addr.add
    by_cases h : k = 0
    · subst h; simp
    · simp [h]
  have t1 : ((i : Int) + 1).toNat = i + 1 := by omega
  refine ⟨if cap = i + 1 then ⟨g, 0, none⟩ else ⟨g, 0 + (i + 1) * 7, none⟩, fun W => ?_, fun h => ?_, ?_⟩
  · rw [run_slice_l W 49 (some ⟨g, 0, none⟩) n cap ht .i64 ((i : Int) + 1) (by omega) (by omega), he, hs]
    simp only [Result.andThen, sliced, t1, Option.map_some, hadd]
    by_cases h : cap = i + 1
    · rw [if_pos h, if_pos h]
    · rw [if_neg h, if_neg h]
  · rw [if_neg (by omega)]
  · split <;> rfl
/-- A message behind a copy of a row: the two orders. -/
theorem rput_two {w W : World} {L : List Ms} {a : Option Addr} {n c : Nat} (kW : Keeps (fun _ => False) w W) (hL : MsRow w a L) (hn : L.length = n) (hn2 : n ≤ 1000) (hc : a = none → c = 0) :
    ∃ a1 c1 w1, MsRun (.slice none 0 0) (.slice a n c) W (.slice a1 n c1) w1 ∧ MsOwn w1 W.heap.size (.slice a1 n c1) L ∧ Keeps (fun _ => False) W w1 := by
  obtain ⟨a1, c1, w1, r1, o1, k1, _⟩ := ms_append_opt (l := 0) (m := n) (r := n) (cc := c) (MsOwn.nil W W.heap.size) rfl (hL.quiet kW) hn hc (Nat.zero_add n) (by omega) (Nat.le_refl _)
  rw [List.nil_append] at o1
  exact ⟨a1, c1, w1, r1, o1, k1.mono (fun k _ h => by cases h)⟩
set_option linter.unusedSimpArgs false in
set_option linter.unusedVariables false in
set_option maxRecDepth 100000 in
set_option maxHeartbeats 16000000 in
theorem rput_to (F : Nat → Prop) (p most lost : Nat) (L M : List Ms) (b : Option Addr) (n c : Nat) (w : World) (h : RPostAt w F p most lost L) (hF : F p) (hFl : ∀ i, F i → i < w.heap.size) (hM : MsRow w b M) (hn : M.length = n) (hm : n ≤ 100000) (hb : ∀ x, b = some x → x.block ≠ p) :
    Calls Try.prog 34 #[.pointer (some ⟨p, 0, none⟩), .slice b n c] w (fun e w' => (∃ r, e = .returned r) ∧ RPostAt w' F p most (M.foldl (put1 most) (L, lost)).2 (M.foldl (put1 most) (L, lost)).1 ∧ Keeps (fun k => k = p) w w') := by
  have hp : p < w.heap.size := by obtain ⟨a, c, h1, _⟩ := h; exact h1.lt
  have H := Kept.mk h
  have HM := Kept.mk hM
  have HB := Kept.mk hb
  have HN := Kept.mk hn
  clear h hM hb hn
  go_enter Try.func34, Try.ntmps34
  go_wp2_with fail
  go_loopw [8] (fun i wr => ∃ (k : Nat) (s : List Ms × Nat), k ≤ n ∧ i = .int .i64 k ∧ (M.take k).foldl (put1 most) (L, lost) = s ∧ RPostAt wr F p most s.2 s.1 ∧ Keeps (fun k => k = p) w wr) (fun i _ => n - (intOf i).toNat)
  case atStart => exact ⟨0, (L, lost), Nat.zero_le _, rfl, by simp, H.out, Keeps.refl _ _⟩
  case round =>
    obtain ⟨k, s, hk, rfl, hs, hP, hK⟩ := hrel
    have HS := Kept.mk hs
    have HP := Kept.mk hP
    have KR := Kept.mk hK
    clear hs hK
    by_cases hlt : k < n
    · obtain ⟨m, hx⟩ : ∃ m, M[k]? = some m := ⟨_, List.getElem?_eq_getElem (by rw [HN.out]; exact hlt)⟩
      have HF : Kept ((M.take (k + 1)).foldl (put1 most) (L, lost) = put1 most s m) := ⟨by rw [List.take_add_one, hx, List.foldl_append, HS.out]; rfl⟩
      obtain ⟨g, off, rfl, hl, hc⟩ := HM.out k m hx
      have hgp := HB.out _ rfl
      have hcc : ∀ j u, (encMs m)[j]? = some u → wr.cell? ⟨g, off + k * 7 + j, none⟩ = some u := fun j u hu => (KR.out.cell (p := ⟨g, off + k * 7 + j, none⟩) hl (fun e => hgp e)).trans (hc j u hu)
      have e0 : wr.cell? ⟨g, off + k * 7, none⟩ = some (.int .i64 m.kind) := hcc 0 _ rfl
      have e1 : wr.cell? ⟨g, off + k * 7 + 1, none⟩ = some (.int .i64 m.src) := hcc 1 _ rfl
      have e2 : wr.cell? ⟨g, off + k * 7 + 2, none⟩ = some (.int .i64 m.dst) := hcc 2 _ rfl
      have e3 : wr.cell? ⟨g, off + k * 7 + 3, none⟩ = some (.int .i64 m.id) := hcc 3 _ rfl
      have e4 : wr.cell? ⟨g, off + k * 7 + 4, none⟩ = some (.int .i64 m.step) := hcc 4 _ rfl
      have e5 : wr.cell? ⟨g, off + k * 7 + 5, none⟩ = some (.int .i64 m.a) := hcc 5 _ rfl
      have e6 : wr.cell? ⟨g, off + k * 7 + 6, none⟩ = some (.int .i64 m.b) := hcc 6 _ rfl
      have hki : (k : Int) < n := by omega
      obtain ⟨L', lost'⟩ := s
      dsimp only at hP
      obtain ⟨a', c', hBk, hRow, hap, hlc, hnc, hLm, hms, hps, hlf⟩ := hP
      have hpr := hBk.lt
      have p1 := hBk.cell 1 rfl
      have pf := hBk.frozen 1
      obtain ⟨q, hq⟩ : ∃ q, L'.length = q := ⟨_, rfl⟩
      rw [hq] at p1
      have kA : Keeps (fun _ => False) wr ((wr.alloc (.cells (encMs m).toArray 55)).drew) := ((Keeps.refl _ wr).alloc _).drew
      obtain ⟨a1, c1, w1, r1, o1, k1⟩ := rput_two kA hRow hq (by omega) hnc
      have kA2 := (Keeps.refl (fun _ => False) w1).alloc (.cells (encMs m).toArray 55)
      obtain ⟨a2, c2, w2, r2, o2, k2, _⟩ := ms_append_at (cc := 1) (l := q) (m := 1) (r := q + 1) (o1.quiet kA2) hq (msRow_of_blk (A := [m]) (by simpa using Blk.new w1 55 (encMs m))) rfl rfl (by omega) (by have := k1.size; have := kA2.size; omega)
      have kB : Keeps (fun _ => False) wr (((wr.alloc (.cells (encMs m).toArray 55)).drew).alloc (.cells (encMs m).toArray 55)) := kA.alloc _
      obtain ⟨a3, c3, w3, r3, o3, k3⟩ := rput_two kB hRow hq (by omega) hnc
      have hX3 : MsRow w3 (some ⟨wr.heap.size + 1, 0, none⟩) [m] := (msRow_of_blk (A := [m]) (by simpa using Blk.new' ((wr.alloc (.cells (encMs m).toArray 55)).drew) 55 (encMs m) (wr.heap.size + 1) (by show _ = (wr.alloc _).heap.size; simp))).quiet k3
      obtain ⟨a4, c4, w4, r4, o4, k4, _⟩ := ms_append_at (cc := 1) (l := q) (m := 1) (r := q + 1) o3 hq hX3 rfl rfl (by omega) k3.size
      have KA : Kept (Keeps (fun _ => False) wr w2) := ⟨((kA.trans k1).trans kA2).then k2 (fun i hi e => by have := (o1.lt i e).1; have := kA.size; omega)⟩
      have KB : Kept (Keeps (fun _ => False) wr w4) := ⟨(kB.trans k3).then k4 (fun i hi e => by have := (o3.lt i e).1; have := kB.size; omega)⟩
      have OA := Kept.mk o2
      have OB := Kept.mk o4
      have HBk := Kept.mk hBk
      have u1 := (HBk.out.keeps KA.out (fun h => h)).cell 1 rfl
      have uf := (HBk.out.keeps KA.out (fun h => h)).frozen 1
      have v1 := (HBk.out.keeps KB.out (fun h => h)).cell 1 rfl
      have vf := (HBk.out.keeps KB.out (fun h => h)).frozen 1
      have hp2 : p < w2.heap.size := Nat.lt_of_lt_of_le hpr KA.out.size
      have hp4 : p < w4.heap.size := Nat.lt_of_lt_of_le hpr KB.out.size
      have hp1 : p < wr.heap.size + 1 := by omega
      have hpw1 : p < w1.heap.size := by have := k1.size; have := kA.size; omega
      have w11 := ((HBk.out.keeps kA (fun h => h)).keeps k1 (fun h => h)).cell 1 rfl
      have hX1 := ((Blk.new wr 55 (encMs m)).drew).keeps k1 (fun h => h)
      obtain ⟨m0, m1, m2, m3, m4, m5, m6⟩ := m
      have x0 := hX1.cell 0 rfl
      have x1 := hX1.cell 1 rfl
      have x2 := hX1.cell 2 rfl
      have x3 := hX1.cell 3 rfl
      have x4 := hX1.cell 4 rfl
      have x5 := hX1.cell 5 rfl
      have x6 := hX1.cell 6 rfl
      dsimp only at e0 e1 e2 e3 e4 e5 e6
      clear hX1 kA kB kA2 k1 k2 k3 k4 o1 o2 o3 o4 hX3 hBk hcc hc
      have hb1 : wr.heap.size + 1 ≤ (wr.alloc (.cells (encMs ⟨m0, m1, m2, m3, m4, m5, m6⟩).toArray 55)).drew.heap.size := by show _ ≤ (wr.alloc _).heap.size; simp
      have hb2 : wr.heap.size + 1 ≤ (((wr.alloc (.cells (encMs ⟨m0, m1, m2, m3, m4, m5, m6⟩).toArray 55)).drew).alloc (.cells (encMs ⟨m0, m1, m2, m3, m4, m5, m6⟩).toArray 55)).heap.size := by show _ ≤ ((wr.alloc _).alloc _).heap.size; simp
      go_wp2_with fail
      go_region_law (first
        | (refine step_ms (by simp [Region.wanted]) _ _ rfl rfl rfl rfl r2 ?_)
        | (refine step_ms (by simp [Region.wanted]) _ _ rfl rfl rfl rfl r4 ?_)
        | (refine step_ms (by simp [Region.wanted]) _ _ rfl rfl rfl rfl r1 ?_)
        | (refine step_ms (by simp [Region.wanted]) _ _ rfl rfl rfl rfl r3 ?_))
      all_goals
        first
        | (obtain ⟨w5, hw5⟩ : ∃ w5, w2.setCell ⟨p, 1, none⟩ (.slice a2 (q + 1) c2) = w5 := ⟨_, rfl⟩
           rw [hw5]
           have hB5 : Blk w5 p 72 [.int .i64 most, .slice a2 (q + 1) c2, .int .i64 lost'] := by rw [← hw5]; exact (HBk.out.keeps KA.out (fun h => h)).set 1 _
           have O5 : Kept (MsRow w5 a2 (L' ++ [⟨m0, m1, m2, m3, m4, m5, m6⟩]) ∧ (∀ z, a2 = some z → ¬ F z.block ∧ z.block < w5.heap.size) ∧ q + 1 ≤ c2 ∧ ∃ g5, a2 = some ⟨g5, 0, none⟩) := ⟨by
             have hlt := fun g hg => (OA.out.lt g hg).1
             have hpg : ∀ z, a2 = some z → z.block ≠ p := fun z hz e => by
               have h1 := hlt z.block (by rw [hz]; rfl)
               have h3 := hb1
               omega
             have hpf : ∀ z, a2 = some z → ¬ F z.block ∧ z.block < w5.heap.size := fun z hz => by
               have h1 := OA.out.lt z.block (by rw [hz]; rfl)
               have h3 := hb1
               have h4 := KR.out.size
               refine ⟨fun e => by have := hFl _ e; omega, ?_⟩
               rw [← hw5, size_set]
               exact h1.2
             refine ⟨?_, hpf, ?_, OA.out.block (by omega)⟩
             · rw [← hw5]
               exact OA.out.row.keeps ((Keeps.refl (fun k => k = p) _).setCell (p := ⟨p, 1, none⟩) (.inr rfl) _) (fun z hz e => hpg z hz e)
             · obtain ⟨_, _, e, h1, _⟩ := OA.out.slice
               simp only [Value.slice.injEq] at e
               rw [e.2.2]
               simpa [hq] using h1⟩
           have K5 : Kept (Keeps (fun k => k = p) w w5) := ⟨by rw [← hw5]; exact ((KR.out.then KA.out (fun _ _ h => h.elim)).setCell (p := ⟨p, 1, none⟩) (.inr rfl) _)⟩
           have HB5 := Kept.mk hB5
           have c0 := hB5.cell 0 rfl
           have c1' := hB5.cell 1 rfl
           have hp5 := hB5.lt
           clear hw5 hB5 u1 uf v1 vf e0 e1 e2 e3 e4 e5 e6 x0 x1 x2 x3 x4 x5 x6 w11
           by_cases hfull : most < q + 1
           · have hfi : (most : Int) < (q : Int) + 1 := by omega
             obtain ⟨hrw, hne5, hqc, g5, rfl⟩ := O5.out
             obtain ⟨A5, hsl0, hA5, hAb⟩ := ms_from2 g5 (q + 1) c2 0 (by omega) hqc
             have hsl : ∀ W, (Instr.slice 49 (.slice (some ⟨g5, 0, none⟩) (q + 1) c2) (some (.int .i64 1)) none none).run Try.prog W = .ok (.slice (some A5) q (c2 - 1)) W := fun W => by simpa using hsl0 W
             have HRW := Kept.mk hrw
             have HA5 := Kept.mk hA5
             have hfin : ∀ (lo : Nat) (x : Int) (nq : Nat), x = lo → lo = min (lost' + 1) 1000000 → RPostAt (((w5.drewN nq).setCell ⟨p, 1, none⟩ (.slice (some A5) q (c2 - 1))).setCell ⟨p, 2, none⟩ (.int .i64 x)) F p most lo ((L' ++ [(⟨m0, m1, m2, m3, m4, m5, m6⟩ : Ms)]).eraseIdx 0) ∧ Keeps (fun k => k = p) w (((w5.drewN nq).setCell ⟨p, 1, none⟩ (.slice (some A5) q (c2 - 1))).setCell ⟨p, 2, none⟩ (.int .i64 x)) := fun lo x nq hx hlo => by
               subst hx
               have hlen : ((L' ++ [(⟨m0, m1, m2, m3, m4, m5, m6⟩ : Ms)]).eraseIdx 0).length = q := by rw [List.length_eraseIdx, if_pos (by simp)]; simp [hq]
               have kk := (((Keeps.refl (fun k => k = p) w5).drewN nq).setCell (p := ⟨p, 1, none⟩) (.inr rfl) (.slice (some A5) q (c2 - 1))).setCell (p := ⟨p, 2, none⟩) (.inr rfl) (.int .i64 (lo : Int))
               have hA5p : A5.block ≠ p := by rw [hAb]; exact fun e => (hne5 ⟨g5, 0, none⟩ rfl).1 (e ▸ hF)
               refine ⟨⟨some A5, c2 - 1, ?_, ?_, (fun z hz => by cases hz; rw [hAb, size_set, size_set]; exact hne5 ⟨g5, 0, none⟩ rfl), by omega, (fun e => by cases e), by omega, hms, hps, by rw [hlo]; exact Nat.min_le_right _ _⟩, K5.out.then kk (fun _ _ h => h)⟩
               · rw [hlen]
                 exact ((HB5.out.drewN nq).set 1 _).set 2 _
               · have h1 := msRow_drop (k := 1) (A := A5) HRW.out (fun h => HA5.out (by simp [hq] at h; omega))
                 rw [List.eraseIdx_zero, ← List.drop_one]
                 exact h1.keeps kk (fun z hz e => by cases hz; exact hA5p e)
             have Hfin := Kept.mk hfin
             have z2 := HB5.out.cell 2 rfl
             have zf1 := HB5.out.frozen 1
             have zf2 := HB5.out.frozen 2
             clear hfin hsl0 hrw hA5 hne5
             by_cases hlo : lost' + 1 ≤ 1000000
             · have hl1 : (lost' : Int) + 1 ≤ 1000000 := by omega
               have hl2 : ¬ (1000000 : Int) < (lost' : Int) + 1 := by omega
               go_wp2_with fail
               go_quiet (fail)
               go_wp2_with fail
               go_roundw
               case rel => exact ⟨k + 1, _, by omega, by go_num, by rw [HF.out, put1_yes (by rw [hq]; exact hfull)], by rw [Nat.min_eq_left hlo]; exact (Hfin.out (lost' + 1) _ nq (by omega) (Nat.min_eq_left hlo).symm).1, (Hfin.out (lost' + 1) _ nq (by omega) (Nat.min_eq_left hlo).symm).2⟩
               case measure => simp [intOf]; omega
             · have hlr : 1000000 ≤ lost' + 1 := by omega
               have hl1 : ¬ (lost' : Int) + 1 ≤ 1000000 := by omega
               have hl2 : (1000000 : Int) < (lost' : Int) + 1 := by omega
               have hl3 : (1000000 : Int) ≤ (lost' : Int) + 1 := by omega
               have hl4 : ¬ (lost' : Int) + 1 < 1000000 := by omega
               go_wp2_with fail
               go_quiet (fail)
               go_wp2_with fail
               go_roundw
               case rel => exact ⟨k + 1, _, by omega, by go_num, by rw [HF.out, put1_yes (by rw [hq]; exact hfull)], by rw [Nat.min_eq_right hlr]; exact (Hfin.out 1000000 _ nq (by rfl) (Nat.min_eq_right hlr).symm).1, (Hfin.out 1000000 _ nq (by rfl) (Nat.min_eq_right hlr).symm).2⟩
               case measure => simp [intOf]; omega
           · have hfi : ¬ (most : Int) < (q : Int) + 1 := by omega
             go_wp2_with fail
             go_quiet (fail)
             go_wp2_with fail
             go_roundw
             case rel => exact ⟨k + 1, _, by omega, by go_num, by rw [HF.out, put1_no (by rw [hq]; exact hfull)], ⟨a2, c2, by simpa [hq] using HB5.out.drewN _, O5.out.1.quiet ((Keeps.refl _ _).drewN _), O5.out.2.1, by simpa [hq] using O5.out.2.2.1, (fun e => by obtain ⟨g5, h5⟩ := O5.out.2.2.2; rw [h5] at e; cases e), by simp [hq]; omega, hms, hps, hlf⟩, K5.out.drewN _⟩
             case measure => simp [intOf]; omega)
        | (obtain ⟨w5, hw5⟩ : ∃ w5, w4.setCell ⟨p, 1, none⟩ (.slice a4 (q + 1) c4) = w5 := ⟨_, rfl⟩
           rw [hw5]
           have hB5 : Blk w5 p 72 [.int .i64 most, .slice a4 (q + 1) c4, .int .i64 lost'] := by rw [← hw5]; exact (HBk.out.keeps KB.out (fun h => h)).set 1 _
           have O5 : Kept (MsRow w5 a4 (L' ++ [⟨m0, m1, m2, m3, m4, m5, m6⟩]) ∧ (∀ z, a4 = some z → ¬ F z.block ∧ z.block < w5.heap.size) ∧ q + 1 ≤ c4 ∧ ∃ g5, a4 = some ⟨g5, 0, none⟩) := ⟨by
             have hlt := fun g hg => (OB.out.lt g hg).1
             have hpg : ∀ z, a4 = some z → z.block ≠ p := fun z hz e => by
               have h1 := hlt z.block (by rw [hz]; rfl)
               have h3 := hb2
               omega
             have hpf : ∀ z, a4 = some z → ¬ F z.block ∧ z.block < w5.heap.size := fun z hz => by
               have h1 := OB.out.lt z.block (by rw [hz]; rfl)
               have h3 := hb2
               have h4 := KR.out.size
               refine ⟨fun e => by have := hFl _ e; omega, ?_⟩
               rw [← hw5, size_set]
               exact h1.2
             refine ⟨?_, hpf, ?_, OB.out.block (by omega)⟩
             · rw [← hw5]
               exact OB.out.row.keeps ((Keeps.refl (fun k => k = p) _).setCell (p := ⟨p, 1, none⟩) (.inr rfl) _) (fun z hz e => hpg z hz e)
             · obtain ⟨_, _, e, h1, _⟩ := OB.out.slice
               simp only [Value.slice.injEq] at e
               rw [e.2.2]
               simpa [hq] using h1⟩
           have K5 : Kept (Keeps (fun k => k = p) w w5) := ⟨by rw [← hw5]; exact ((KR.out.then KB.out (fun _ _ h => h.elim)).setCell (p := ⟨p, 1, none⟩) (.inr rfl) _)⟩
           have HB5 := Kept.mk hB5
           have c0 := hB5.cell 0 rfl
           have c1' := hB5.cell 1 rfl
           have hp5 := hB5.lt
           clear hw5 hB5 u1 uf v1 vf e0 e1 e2 e3 e4 e5 e6 x0 x1 x2 x3 x4 x5 x6 w11
           by_cases hfull : most < q + 1
           · have hfi : (most : Int) < (q : Int) + 1 := by omega
             obtain ⟨hrw, hne5, hqc, g5, rfl⟩ := O5.out
             obtain ⟨A5, hsl0, hA5, hAb⟩ := ms_from2 g5 (q + 1) c4 0 (by omega) hqc
             have hsl : ∀ W, (Instr.slice 49 (.slice (some ⟨g5, 0, none⟩) (q + 1) c4) (some (.int .i64 1)) none none).run Try.prog W = .ok (.slice (some A5) q (c4 - 1)) W := fun W => by simpa using hsl0 W
             have HRW := Kept.mk hrw
             have HA5 := Kept.mk hA5
             have hfin : ∀ (lo : Nat) (x : Int) (nq : Nat), x = lo → lo = min (lost' + 1) 1000000 → RPostAt (((w5.drewN nq).setCell ⟨p, 1, none⟩ (.slice (some A5) q (c4 - 1))).setCell ⟨p, 2, none⟩ (.int .i64 x)) F p most lo ((L' ++ [(⟨m0, m1, m2, m3, m4, m5, m6⟩ : Ms)]).eraseIdx 0) ∧ Keeps (fun k => k = p) w (((w5.drewN nq).setCell ⟨p, 1, none⟩ (.slice (some A5) q (c4 - 1))).setCell ⟨p, 2, none⟩ (.int .i64 x)) := fun lo x nq hx hlo => by
               subst hx
               have hlen : ((L' ++ [(⟨m0, m1, m2, m3, m4, m5, m6⟩ : Ms)]).eraseIdx 0).length = q := by rw [List.length_eraseIdx, if_pos (by simp)]; simp [hq]
               have kk := (((Keeps.refl (fun k => k = p) w5).drewN nq).setCell (p := ⟨p, 1, none⟩) (.inr rfl) (.slice (some A5) q (c4 - 1))).setCell (p := ⟨p, 2, none⟩) (.inr rfl) (.int .i64 (lo : Int))
               have hA5p : A5.block ≠ p := by rw [hAb]; exact fun e => (hne5 ⟨g5, 0, none⟩ rfl).1 (e ▸ hF)
               refine ⟨⟨some A5, c4 - 1, ?_, ?_, (fun z hz => by cases hz; rw [hAb, size_set, size_set]; exact hne5 ⟨g5, 0, none⟩ rfl), by omega, (fun e => by cases e), by omega, hms, hps, by rw [hlo]; exact Nat.min_le_right _ _⟩, K5.out.then kk (fun _ _ h => h)⟩
               · rw [hlen]
                 exact ((HB5.out.drewN nq).set 1 _).set 2 _
               · have h1 := msRow_drop (k := 1) (A := A5) HRW.out (fun h => HA5.out (by simp [hq] at h; omega))
                 rw [List.eraseIdx_zero, ← List.drop_one]
                 exact h1.keeps kk (fun z hz e => by cases hz; exact hA5p e)
             have Hfin := Kept.mk hfin
             have z2 := HB5.out.cell 2 rfl
             have zf1 := HB5.out.frozen 1
             have zf2 := HB5.out.frozen 2
             clear hfin hsl0 hrw hA5 hne5
             by_cases hlo : lost' + 1 ≤ 1000000
             · have hl1 : (lost' : Int) + 1 ≤ 1000000 := by omega
               have hl2 : ¬ (1000000 : Int) < (lost' : Int) + 1 := by omega
               go_wp2_with fail
               go_quiet (fail)
               go_wp2_with fail
               go_roundw
               case rel => exact ⟨k + 1, _, by omega, by go_num, by rw [HF.out, put1_yes (by rw [hq]; exact hfull)], by rw [Nat.min_eq_left hlo]; exact (Hfin.out (lost' + 1) _ nq (by omega) (Nat.min_eq_left hlo).symm).1, (Hfin.out (lost' + 1) _ nq (by omega) (Nat.min_eq_left hlo).symm).2⟩
               case measure => simp [intOf]; omega
             · have hlr : 1000000 ≤ lost' + 1 := by omega
               have hl1 : ¬ (lost' : Int) + 1 ≤ 1000000 := by omega
               have hl2 : (1000000 : Int) < (lost' : Int) + 1 := by omega
               have hl3 : (1000000 : Int) ≤ (lost' : Int) + 1 := by omega
               have hl4 : ¬ (lost' : Int) + 1 < 1000000 := by omega
               go_wp2_with fail
               go_quiet (fail)
               go_wp2_with fail
               go_roundw
               case rel => exact ⟨k + 1, _, by omega, by go_num, by rw [HF.out, put1_yes (by rw [hq]; exact hfull)], by rw [Nat.min_eq_right hlr]; exact (Hfin.out 1000000 _ nq (by rfl) (Nat.min_eq_right hlr).symm).1, (Hfin.out 1000000 _ nq (by rfl) (Nat.min_eq_right hlr).symm).2⟩
               case measure => simp [intOf]; omega
           · have hfi : ¬ (most : Int) < (q : Int) + 1 := by omega
             go_wp2_with fail
             go_quiet (fail)
             go_wp2_with fail
             go_roundw
             case rel => exact ⟨k + 1, _, by omega, by go_num, by rw [HF.out, put1_no (by rw [hq]; exact hfull)], ⟨a4, c4, by simpa [hq] using HB5.out.drewN _, O5.out.1.quiet ((Keeps.refl _ _).drewN _), O5.out.2.1, by simpa [hq] using O5.out.2.2.1, (fun e => by obtain ⟨g5, h5⟩ := O5.out.2.2.2; rw [h5] at e; cases e), by simp [hq]; omega, hms, hps, hlf⟩, K5.out.drewN _⟩
             case measure => simp [intOf]; omega)
    · obtain rfl : k = n := by omega
      have hkl : ¬ (k : Int) < (k : Int) := by omega
      have HT : Kept (M.foldl (put1 most) (L, lost) = s) := ⟨by have h1 := HS.out; rwa [List.take_of_length_le (by rw [HN.out]; omega)] at h1⟩
      go_wp2_with fail
      go_end0
      exact ⟨⟨_, rfl⟩, by rw [HT.out]; exact HP.out, KR.out⟩
end Go.Proofs.Ytkacnogjifhcoaa
