/- Package purse's book, walked, fourth part: take, Capture, Void. -/
import Derived.Test.YtdnpeihfpmfmcaaPurse3
namespace Go.Proofs.Ytdnpeihfpmfmcaa
open Go.RowKit
set_option maxHeartbeats 1000000 in
theorem take_nil (id : Int) (w : World) : Calls Try.prog 40 #[.pointer none, .int .i64 id] w
    (Rets w (fun _ => False) (.tuple #[.agg #[.int .i64 0, .int .i64 0], .int .i64 1]) fun _ => True) := by
  go_enter Try.func40, Try.ntmps40
  go_wp2
  exact bodyPost_ret (v := .tuple #[.agg #[.int .i64 0, .int .i64 0], .int .i64 1]) (by simp [results, Try.results40, go_sem]) rfl ⟨rfl, trivial, (Keeps.refl _ w).alloc _⟩
set_option maxHeartbeats 1000000 in
theorem take_none (p ma mp : Nat) (s : Pu) (id : Int) (w : World) (h : PuAt w p ma mp s) (hg : MP.get s.A id = none) : Calls Try.prog 40 #[.pointer (some ⟨p, 0, none⟩), .int .i64 id] w
    (Rets w (fun _ => False) (.tuple #[.agg #[.int .i64 0, .int .i64 0], .int .i64 6]) fun w' => PuAt w' p ma mp s) := by
  have H := Kept.mk h
  have hl : ∀ o, (Instr.lookup 62 (.map (some ma)) (.int .i64 id) true).run Try.prog (w.alloc o) = .ok (.tuple #[.agg #[.int .i64 0, .int .i64 0], .bool false]) (w.alloc o) := by
    intro o
    have := lookAl (h.by_.alloc o) id
    rw [hg] at this
    exact this
  have c9 : ∀ o, (w.alloc o).cell? ⟨p, 9, none⟩ = some (.map (some ma)) := fun o => (h.cells.alloc o).cell 9 rfl
  clear hg h
  go_enter Try.func40, Try.ntmps40
  go_wp2
  exact bodyPost_ret (v := .tuple #[.agg #[.int .i64 0, .int .i64 0], .int .i64 6]) (by simp [results, Try.results40, go_sem]) rfl ⟨rfl, (H.out.alloc _).alloc _, ((Keeps.refl _ w).alloc _).alloc _⟩
set_option maxHeartbeats 2000000 in
theorem take_some (p ma mp : Nat) (s : Pu) (id : Int) (j : Nat) (q : Int) (w : World) (h : PuAt w p ma mp s) (hg : MP.get s.A id = some (j, q)) : Calls Try.prog 40 #[.pointer (some ⟨p, 0, none⟩), .int .i64 id] w
    (Rets w (fun k => k = ma) (.tuple #[.agg #[.int .i64 j, .int .i64 q], .int .i64 0]) fun w' => PuAt w' p ma mp ⟨s.money, s.till, MP.del s.A id, s.P⟩) := by
  have H := Kept.mk h
  have hl : ∀ o, (Instr.lookup 62 (.map (some ma)) (.int .i64 id) true).run Try.prog (w.alloc o) = .ok (.tuple #[.agg #[.int .i64 j, .int .i64 q], .bool true]) (w.alloc o) := by
    intro o
    have := lookAl (h.by_.alloc o) id
    rw [hg] at this
    exact this
  have c9 : ∀ o, (w.alloc o).cell? ⟨p, 9, none⟩ = some (.map (some ma)) := fun o => (h.cells.alloc o).cell 9 rfl
  have cc9 : ∀ o o', ((w.alloc o).alloc o').cell? ⟨p, 9, none⟩ = some (.map (some ma)) := fun o o' => ((h.cells.alloc o).alloc o').cell 9 rfl
  have hA := (h.alloc (.cells #[.int .i64 0, .int .i64 0] 67)).alloc (.cells #[.int .i64 j, .int .i64 q] 67)
  have hR : Blk ((w.alloc (.cells #[.int .i64 0, .int .i64 0] 67)).alloc (.cells #[.int .i64 j, .int .i64 q] 67)) w.heap.size 67 [.int .i64 0, .int .i64 0] := (Blk.new w 67 [.int .i64 0, .int .i64 0]).alloc _
  have hQ : Blk ((w.alloc (.cells #[.int .i64 0, .int .i64 0] 67)).alloc (.cells #[.int .i64 j, .int .i64 q] 67)) (w.heap.size + 1) 67 [.int .i64 j, .int .i64 q] := by
    have := Blk.new (w.alloc (.cells #[.int .i64 0, .int .i64 0] 67)) 67 [.int .i64 j, .int .i64 q]
    rw [World.size_alloc] at this
    exact this
  have hml := h.by_.lt
  have hn1 := h.n1
  have hn2 := h.n2
  have hn3 := h.n3
  obtain ⟨w2, hd, hM2, k2, s2⟩ := hA.by_.drop (P := Try.prog) Try.underlying62 Try.underlying3 id
  have hR2 := hR.keeps k2 (by omega)
  have hQ2 := hQ.keeps k2 (by omega)
  have hC2 := hA.cells.keeps k2 (fun e => hn1 e.symm)
  have hP2 := hA.paid.keeps k2 (fun e => hn3 e.symm)
  have r0 := hR2.cell 0 rfl
  have r1 := hR2.cell 1 rfl
  have rf0 := hR2.frozen 0
  have rf1 := hR2.frozen 1
  have q0 := hQ2.cell 0 rfl
  have q1 := hQ2.cell 1 rfl
  have K2 : Kept (Keeps (fun k => k = ma) w w2) := ⟨(((Keeps.refl _ w).alloc _).alloc _).then k2 (fun _ _ h => h)⟩
  have HC2 := Kept.mk hC2
  have HM2 := Kept.mk hM2
  have HP2 := Kept.mk hP2
  have hplt := h.cells.lt
  have hqlt := h.paid.lt
  clear hA hR hQ hR2 hQ2 hC2 k2 s2 hg h hM2 hP2
  go_enter Try.func40, Try.ntmps40
  go_wp2
  have hne1 : p ≠ w.heap.size := by omega
  have hne2 : ma ≠ w.heap.size := by omega
  have hne3 : mp ≠ w.heap.size := by omega
  refine bodyPost_ret (v := .tuple #[.agg #[.int .i64 j, .int .i64 q], .int .i64 0]) (by simp [results, Try.results40, go_sem, r0, r1]) rfl ⟨rfl, ⟨?_, ?_, ?_, hn1, hn2, hn3⟩, ?_⟩
  · exact (HC2.out.other (p := ⟨w.heap.size, 0, none⟩) hne1 _).other (p := ⟨w.heap.size, 1, none⟩) hne1 _
  · exact (HM2.out.other (p := ⟨w.heap.size, 0, none⟩) hne2 _).other (p := ⟨w.heap.size, 1, none⟩) hne2 _
  · exact (HP2.out.other (p := ⟨w.heap.size, 0, none⟩) hne3 _).other (p := ⟨w.heap.size, 1, none⟩) hne3 _
  · exact (K2.out.setCell (p := ⟨w.heap.size, 0, none⟩) (.inl (Nat.le_refl _)) _).setCell (p := ⟨w.heap.size, 1, none⟩) (.inl (Nat.le_refl _)) _
theorem capture_nil (id : Int) (w : World) : Calls Try.prog 19 #[.pointer none, .int .i64 id] w (Rets w (fun _ => False) (.int .i64 1) fun _ => True) := by
  go_enter Try.func19, Try.ntmps19
  go_wp2_with fail
  refine (take_nil id _).mono ?_
  rintro e w1 ⟨rfl, _, k1⟩
  go_wp2_with fail
  go_ret
  exact ⟨rfl, trivial, k1.alloc _⟩
theorem void_nil (id : Int) (w : World) : Calls Try.prog 23 #[.pointer none, .int .i64 id] w (Rets w (fun _ => False) (.int .i64 1) fun _ => True) := by
  go_enter Try.func23, Try.ntmps23
  go_wp2_with fail
  refine (take_nil id _).mono ?_
  rintro e w1 ⟨rfl, _, k1⟩
  go_wp2_with fail
  go_ret
  exact ⟨rfl, trivial, k1.alloc _⟩
set_option maxRecDepth 100000 in
set_option maxHeartbeats 1000000 in
theorem void_to (p ma mp : Nat) (s s' : Pu) (id r : Int) (w : World) (h : PuAt w p ma mp s) (hr : s.void id = (r, s')) : Calls Try.prog 23 #[.pointer (some ⟨p, 0, none⟩), .int .i64 id] w (PuTo w p ma mp r s') := by
  have H := Kept.mk h
  cases hg : MP.get s.A id with
  | none =>
    unfold Pu.void at hr
    rw [hg] at hr; cases hr
    have Hg := Kept.mk hg
    clear hg h
    go_enter Try.func23, Try.ntmps23
    go_wp2_with fail
    refine (take_none _ _ _ _ _ _ H.out Hg.out).mono ?_
    rintro e w1 ⟨rfl, h1, k1⟩
    go_wp2_with fail
    go_ret
    exact ⟨rfl, h1.alloc _, (k1.alloc _).mono (fun _ _ h => h.elim)⟩
  | some v =>
    obtain ⟨j, q⟩ := v
    unfold Pu.void at hr
    rw [hg] at hr; cases hr
    have Hg := Kept.mk hg
    clear hg h
    go_enter Try.func23, Try.ntmps23
    go_wp2_with fail
    refine (take_some _ _ _ _ _ _ _ _ H.out Hg.out).mono ?_
    rintro e w1 ⟨rfl, h1, k1⟩
    go_wp2_with fail
    go_ret
    exact ⟨rfl, h1.alloc _, (k1.alloc _).mono (fun _ _ h => .inr (.inl h))⟩
set_option maxRecDepth 100000 in
set_option maxHeartbeats 4000000 in
theorem capture_to (p ma mp : Nat) (s s' : Pu) (id r : Int) (w : World) (h : PuAt w p ma mp s) (ok : s.Ok) (hr : s.capture id = (r, s')) : Calls Try.prog 19 #[.pointer (some ⟨p, 0, none⟩), .int .i64 id] w (PuTo w p ma mp r s') := by
  have H := Kept.mk h
  cases hg : MP.get s.A id with
  | none =>
    unfold Pu.capture at hr
    rw [hg] at hr; cases hr
    have Hg := Kept.mk hg
    clear hg h
    go_enter Try.func19, Try.ntmps19
    go_wp2_with fail
    refine (take_none _ _ _ _ _ _ H.out Hg.out).mono ?_
    rintro e w1 ⟨rfl, h1, k1⟩
    go_wp2_with fail
    go_ret
    exact ⟨rfl, h1.alloc _, (k1.alloc _).mono (fun _ _ h => h.elim)⟩
  | some v =>
    obtain ⟨j, q⟩ := v
    unfold Pu.capture at hr
    rw [hg] at hr
    simp only at hr
    have hm := mem_of_get hg
    obtain ⟨hj, q1, q2⟩ := ok.vals _ hm
    simp only at hj q1 q2
    have hle := le_resv (fun p hp => by have := ok.vals p hp; omega) hm
    have hal := ok.al j hj
    have hm1 := ok.m1 j hj
    have ht0 := ok.t0
    have htx := ok.all
    have hs0 : 0 ≤ resvAll s.A := sumN_nonneg ok.al0 8
    obtain ⟨M, HM⟩ : ∃ M, Kept (s.money j = M) := ⟨_, ⟨rfl⟩⟩
    obtain ⟨Tl, HT⟩ : ∃ T, Kept (s.till = T) := ⟨_, ⟨rfl⟩⟩
    rw [HM.out] at hr hal hm1
    rw [HT.out] at hr ht0 htx
    have hM0 : 0 ≤ M - q := by omega
    have hj1 := sumN_mono (A := s.A) ok.al0 (k := j + 1) 8 (by omega)
    have hj0 := sumN_nonneg ok.al0 j
    have htq : Tl + q ≤ 1000000000 := by
      have e1 : sumN s.A (j + 1) = sumN s.A j + resv s.A j := rfl
      have e2 : resvAll s.A = sumN s.A 8 := rfl
      omega
    have Hr := Kept.mk hr
    have Hg := Kept.mk hg
    have Hj := Kept.mk hj
    have hji : (j : Int) < 8 := by omega
    clear hr hg h hm hle hal htx hs0 hj hj1 hj0
    go_enter Try.func19, Try.ntmps19
    go_wp2_with fail
    refine (take_some _ _ _ _ _ _ _ _ H.out Hg.out).mono ?_
    rintro e w1 ⟨rfl, h1, k1⟩
    have hn1 := h1.n1
    have hn2 := h1.n2
    have hn3 := h1.n3
    have hplt := h1.cells.lt
    have hqlt := h1.paid.lt
    have hj8 : j ≠ 8 := by have := Hj.out; omega
    -- the worlds on the way
    have cj := h1.cells.cell _ (puCells_money _ ma mp Hj.out)
    simp only at cj
    rw [HM.out] at cj
    have fj := h1.cells.frozen j
    have c8 := h1.cells.cell 8 rfl
    simp only at c8
    rw [HT.out] at c8
    have f8 := h1.cells.frozen 8
    have c10 := h1.cells.cell 10 rfl
    have hC2 := h1.cells.set j (.int .i64 (M - q))
    rw [puCells_set _ ma mp Hj.out] at hC2
    have hC3 := (hC2.set 8 (.int .i64 (Tl + q))).alloc (.cells #[.int .i64 j, .int .i64 q] 67)
    have hP3 := ((h1.paid.other (p := ⟨p, j, none⟩) hn2 (.int .i64 (M - q))).other (p := ⟨p, 8, none⟩) hn2 (.int .i64 (Tl + q))).alloc (.cells #[.int .i64 j, .int .i64 q] 67)
    have hB3 := ((h1.by_.other (p := ⟨p, j, none⟩) hn1 (.int .i64 (M - q))).other (p := ⟨p, 8, none⟩) hn1 (.int .i64 (Tl + q))).alloc (.cells #[.int .i64 j, .int .i64 q] 67)
    obtain ⟨w3, hme, hM3, k3, z3⟩ := (hP3.drew.drew.drew).update (P := Try.prog) Try.underlying46 Try.underlying3 id q
    have hfin : Kept (PuTo w p ma mp r s' (.returned (.int .i64 0)) w3) := ⟨by
      have hr := Hr.out
      cases hr
      refine ⟨rfl, ⟨(show Blk (((w1.setCell ⟨p, j, none⟩ (.int .i64 (M - q))).setCell ⟨p, 8, none⟩ (.int .i64 (Tl + q))).alloc (.cells #[.int .i64 j, .int .i64 q] 67)).drew.drew.drew p _ _ from hC3).keeps k3 (fun e => hn2 e.symm), (hB3.drew.drew.drew).keeps k3 (fun e => hn3 e), hM3, hn1, hn2, hn3⟩, ?_⟩
      have K0 : Keeps (fun k => k = p ∨ k = ma ∨ k = mp) w (((w1.setCell ⟨p, j, none⟩ (.int .i64 (M - q))).setCell ⟨p, 8, none⟩ (.int .i64 (Tl + q))).alloc (.cells #[.int .i64 j, .int .i64 q] 67)).drew.drew.drew :=
        (((((((k1.mono (fun _ _ h => .inr (.inl h))).setCell (p := ⟨p, j, none⟩) (.inr (.inl rfl)) _).setCell (p := ⟨p, 8, none⟩) (.inr (.inl rfl)) _).alloc _).drew).drew).drew)
      exact K0.then k3 (fun _ _ e => .inr (.inr e))⟩
    unfold encInt at hme
    clear hC2 hC3 hP3 hB3 hM3 k3 z3 h1 k1
    go_wp2_with fail
    go_region
    go_wp2_with fail
    go_region
    go_wp2_with fail
    go_region
    go_wp2_with fail
    go_ret
    exact hfin.out
end Go.Proofs.Ytdnpeihfpmfmcaa
