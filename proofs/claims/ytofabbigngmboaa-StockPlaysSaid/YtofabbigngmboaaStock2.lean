/- Package stock's book, walked, second part: what turns it. -/
import Derived.Test.YtofabbigngmboaaStock
namespace Go.Proofs.Ytofabbigngmboaa
open Go.RowKit
theorem sHas_nil (id : Int) (w : World) : Calls Try.prog 38 #[.pointer none, .int .i64 id] w (Says w (.tuple #[.int .i64 0, .int .i64 0, .bool false])) := by
  go_enter Try.func38, Try.ntmps38
  go_wp2
  go_ret3
  exact ⟨rfl, rfl⟩
def Sk.res (s : Sk) (id : Int) : Nat × Int := (MP.get s.L id).getD (0, 0)
set_option maxHeartbeats 400000 in
theorem sHas_any (p m : Nat) (s : Sk) (id : Int) (w : World) (h : SkAt w p m s) : Calls Try.prog 38 #[.pointer (some ⟨p, 0, none⟩), .int .i64 id] w
    (Rets w (fun _ => False) (.tuple #[.int .i64 (s.res id).1, .int .i64 (s.res id).2, .bool (MP.get s.L id).isSome]) fun w' => SkAt w' p m s) := by
  have H := Kept.mk h
  have c16 := h.cells.cell 16 rfl
  have hl := lookRes h.map id
  have er : s.res id = (MP.get s.L id).getD (0, 0) := rfl
  rw [← er] at hl
  generalize s.res id = v at hl ⊢
  generalize (MP.get s.L id).isSome = r at hl ⊢
  obtain ⟨j, q⟩ := v
  unfold encRes at hl
  simp only at hl
  clear er h
  go_enter Try.func38, Try.ntmps38
  go_wp2
  go_quiet (fail)
  go_wp2
  go_ret3
  exact ⟨rfl, (H.out.alloc _).drewN _, ((Keeps.refl _ w).alloc _).drewN _⟩
set_option maxHeartbeats 1000000 in
theorem take_nil (id : Int) (w : World) : Calls Try.prog 47 #[.pointer none, .int .i64 id] w
    (Rets w (fun _ => False) (.tuple #[.agg #[.int .i64 0, .int .i64 0], .int .i64 1]) fun _ => True) := by
  go_enter Try.func47, Try.ntmps47
  go_wp2
  exact bodyPost_ret (v := .tuple #[.agg #[.int .i64 0, .int .i64 0], .int .i64 1]) (by simp [results, Try.results47, go_sem]) rfl ⟨rfl, trivial, (Keeps.refl _ w).alloc _⟩
set_option maxHeartbeats 1000000 in
theorem take_none (p m : Nat) (s : Sk) (id : Int) (w : World) (h : SkAt w p m s) (hg : MP.get s.L id = none) : Calls Try.prog 47 #[.pointer (some ⟨p, 0, none⟩), .int .i64 id] w
    (Rets w (fun _ => False) (.tuple #[.agg #[.int .i64 0, .int .i64 0], .int .i64 6]) fun w' => SkAt w' p m s) := by
  have H := Kept.mk h
  have hl : ∀ o, (Instr.lookup 82 (.map (some m)) (.int .i64 id) true).run Try.prog (w.alloc o) = .ok (.tuple #[.agg #[.int .i64 0, .int .i64 0], .bool false]) (w.alloc o) := by
    intro o
    have := lookRes (h.map.alloc o) id
    rw [hg] at this
    exact this
  have c16 : ∀ o, (w.alloc o).cell? ⟨p, 16, none⟩ = some (.map (some m)) := fun o => (h.cells.alloc o).cell 16 rfl
  clear hg h
  go_enter Try.func47, Try.ntmps47
  go_wp2
  exact bodyPost_ret (v := .tuple #[.agg #[.int .i64 0, .int .i64 0], .int .i64 6]) (by simp [results, Try.results47, go_sem]) rfl ⟨rfl, (H.out.alloc _).alloc _, ((Keeps.refl _ w).alloc _).alloc _⟩
set_option maxHeartbeats 2000000 in
theorem take_some (p m : Nat) (s : Sk) (id : Int) (j : Nat) (q : Int) (w : World) (h : SkAt w p m s) (hg : MP.get s.L id = some (j, q)) : Calls Try.prog 47 #[.pointer (some ⟨p, 0, none⟩), .int .i64 id] w
    (Rets w (fun k => k = m) (.tuple #[.agg #[.int .i64 j, .int .i64 q], .int .i64 0]) fun w' => SkAt w' p m ⟨s.hand, s.free, MP.del s.L id⟩) := by
  have H := Kept.mk h
  have hl : ∀ o, (Instr.lookup 82 (.map (some m)) (.int .i64 id) true).run Try.prog (w.alloc o) = .ok (.tuple #[.agg #[.int .i64 j, .int .i64 q], .bool true]) (w.alloc o) := by
    intro o
    have := lookRes (h.map.alloc o) id
    rw [hg] at this
    exact this
  have c16 : ∀ o, (w.alloc o).cell? ⟨p, 16, none⟩ = some (.map (some m)) := fun o => (h.cells.alloc o).cell 16 rfl
  have cc16 : ∀ o o', ((w.alloc o).alloc o').cell? ⟨p, 16, none⟩ = some (.map (some m)) := fun o o' => ((h.cells.alloc o).alloc o').cell 16 rfl
  have hM := (h.map.alloc (.cells #[.int .i64 0, .int .i64 0] 86)).alloc (.cells #[.int .i64 j, .int .i64 q] 86)
  have hC := (h.cells.alloc (.cells #[.int .i64 0, .int .i64 0] 86)).alloc (.cells #[.int .i64 j, .int .i64 q] 86)
  have hR : Blk ((w.alloc (.cells #[.int .i64 0, .int .i64 0] 86)).alloc (.cells #[.int .i64 j, .int .i64 q] 86)) w.heap.size 86 [.int .i64 0, .int .i64 0] := (Blk.new w 86 [.int .i64 0, .int .i64 0]).alloc _
  have hQ : Blk ((w.alloc (.cells #[.int .i64 0, .int .i64 0] 86)).alloc (.cells #[.int .i64 j, .int .i64 q] 86)) (w.heap.size + 1) 86 [.int .i64 j, .int .i64 q] := by
    have := Blk.new (w.alloc (.cells #[.int .i64 0, .int .i64 0] 86)) 86 [.int .i64 j, .int .i64 q]
    rw [World.size_alloc] at this
    exact this
  have hml := h.map.lt
  have hne := h.ne
  obtain ⟨w2, hd, hM2, k2, s2⟩ := hM.drop (P := Try.prog) Try.underlying82 Try.underlying3 id
  have hR2 := hR.keeps k2 (by omega)
  have hQ2 := hQ.keeps k2 (by omega)
  have hC2 := hC.keeps k2 (fun e => hne e.symm)
  have r0 := hR2.cell 0 rfl
  have r1 := hR2.cell 1 rfl
  have rf0 := hR2.frozen 0
  have rf1 := hR2.frozen 1
  have q0 := hQ2.cell 0 rfl
  have q1 := hQ2.cell 1 rfl
  have K2 : Kept (Keeps (fun k => k = m) w w2) := ⟨(((Keeps.refl _ w).alloc _).alloc _).then k2 (fun _ _ h => h)⟩
  have HC2 := Kept.mk hC2
  have HM2 := Kept.mk hM2
  have hplt := h.cells.lt
  have HR2 := Kept.mk hR2
  clear hM hC hR hQ hR2 hQ2 hC2 k2 s2 hg h hM2
  go_enter Try.func47, Try.ntmps47
  go_wp2
  have hne1 : p ≠ w.heap.size := by omega
  have hne2 : m ≠ w.heap.size := by omega
  refine bodyPost_ret (v := .tuple #[.agg #[.int .i64 j, .int .i64 q], .int .i64 0]) (by simp [results, Try.results47, go_sem, r0, r1]) rfl ⟨rfl, ⟨?_, ?_, hne⟩, ?_⟩
  · exact (HC2.out.other (p := ⟨w.heap.size, 0, none⟩) hne1 _).other (p := ⟨w.heap.size, 1, none⟩) hne1 _
  · exact (HM2.out.other (p := ⟨w.heap.size, 0, none⟩) hne2 _).other (p := ⟨w.heap.size, 1, none⟩) hne2 _
  · exact (K2.out.setCell (p := ⟨w.heap.size, 0, none⟩) (.inl (Nat.le_refl _)) _).setCell (p := ⟨w.heap.size, 1, none⟩) (.inl (Nat.le_refl _)) _
/-- What it answers, and the book behind it. -/
def SkTo (w : World) (p m : Nat) (r : Int × Sk) : Ending → World → Prop := Rets w (fun k => k = p ∨ k = m) (.int .i64 r.1) fun w' => SkAt w' p m r.2
theorem Blk.two {w : World} {T : TypeId} {u v : Value} : Blk (w.alloc (.cells #[u, v] T)) w.heap.size T [u, v] := Blk.new w T [u, v]
theorem commit_nil (id : Int) (w : World) : Calls Try.prog 30 #[.pointer none, .int .i64 id] w (Rets w (fun _ => False) (.int .i64 1) fun _ => True) := by
  go_enter Try.func30, Try.ntmps30
  go_wp2_with fail
  refine (take_nil id _).mono ?_
  rintro e w1 ⟨rfl, _, k1⟩
  go_wp2_with fail
  go_ret
  exact ⟨rfl, trivial, k1.alloc _⟩
theorem release_nil (id : Int) (w : World) : Calls Try.prog 31 #[.pointer none, .int .i64 id] w (Rets w (fun _ => False) (.int .i64 1) fun _ => True) := by
  go_enter Try.func31, Try.ntmps31
  go_wp2_with fail
  refine (take_nil id _).mono ?_
  rintro e w1 ⟨rfl, _, k1⟩
  go_wp2_with fail
  go_ret
  exact ⟨rfl, trivial, k1.alloc _⟩
set_option maxRecDepth 100000 in
set_option maxHeartbeats 2000000 in
theorem commit_any (p m : Nat) (s : Sk) (id : Int) (w : World) (h : SkAt w p m s) (ok : s.Ok) : Calls Try.prog 30 #[.pointer (some ⟨p, 0, none⟩), .int .i64 id] w (SkTo w p m (s.commit id)) := by
  have H := Kept.mk h
  cases hg : MP.get s.L id with
  | none =>
    have e : Kept (s.commit id = (6, s)) := ⟨by unfold Sk.commit; rw [hg]⟩
    have Hg := Kept.mk hg
    clear hg h
    go_enter Try.func30, Try.ntmps30
    go_wp2_with fail
    refine (take_none _ _ _ _ _ H.out Hg.out).mono ?_
    rintro e w1 ⟨rfl, h1, k1⟩
    go_wp2_with fail
    go_ret
    rw [e.out]
    exact ⟨rfl, h1.alloc _, (k1.alloc _).mono (fun _ _ h => h.elim)⟩
  | some v =>
    obtain ⟨j, q⟩ := v
    have e : Kept (s.commit id = (0, ⟨upd s.hand j (s.hand j - q), s.free, MP.del s.L id⟩)) := ⟨by unfold Sk.commit; rw [hg]⟩
    have hm := mem_of_get hg
    obtain ⟨hj, q1, q2⟩ := ok.vals _ hm
    simp only at hj q1 q2
    have hb1 := ok.h1 j hj
    have hb0 := ok.hand0 hj
    have hle := le_resv (fun p hp => by have := ok.vals p hp; omega) hm
    have hsum := ok.sum j hj
    have f0 := ok.f0 j hj
    have hb : 0 ≤ s.hand j - q := by omega
    have hx0 : 0 ≤ s.hand j := by omega
    have Hg := Kept.mk hg
    have Hj := Kept.mk hj
    have hji : (j : Int) < 8 := by omega
    clear hg h hm hle hsum f0 hb0 hj
    go_enter Try.func30, Try.ntmps30
    go_wp2_with fail
    refine (take_some _ _ _ _ _ _ _ H.out Hg.out).mono ?_
    rintro e w1 ⟨rfl, h1, k1⟩
    have hq := Blk.two (w := w1) (T := 86) (u := .int .i64 j) (v := .int .i64 q)
    have cj := (h1.cells.alloc (.cells #[.int .i64 j, .int .i64 q] 86)).cell _ (skCells_hand _ m Hj.out)
    have fj := (h1.cells.alloc (.cells #[.int .i64 j, .int .i64 q] 86)).frozen j
    simp only at cj
    have H1 := Kept.mk h1
    have K1 := Kept.mk k1
    clear hq h1 k1
    go_wp2_with fail
    go_region
    go_wp2_with fail
    go_ret
    rw [e.out]
    refine ⟨rfl, ⟨?_, ?_, H1.out.ne⟩, ?_⟩
    · have := (H1.out.cells.alloc (.cells #[.int .i64 j, .int .i64 q] 86)).set j (.int .i64 (s.hand j - q))
      rw [skCells_setHand _ m Hj.out] at this
      exact this
    · exact (H1.out.map.alloc (.cells #[.int .i64 j, .int .i64 q] 86)).other (p := ⟨p, j, none⟩) H1.out.ne _
    · exact (((K1.out.mono (fun _ _ h => .inr h)).alloc _).setCell (p := ⟨p, j, none⟩) (.inr (.inl rfl)) _).drew
set_option maxRecDepth 100000 in
set_option maxHeartbeats 2000000 in
theorem release_any (p m : Nat) (s : Sk) (id : Int) (w : World) (h : SkAt w p m s) (ok : s.Ok) : Calls Try.prog 31 #[.pointer (some ⟨p, 0, none⟩), .int .i64 id] w (SkTo w p m (s.release id)) := by
  have H := Kept.mk h
  cases hg : MP.get s.L id with
  | none =>
    have e : Kept (s.release id = (6, s)) := ⟨by unfold Sk.release; rw [hg]⟩
    have Hg := Kept.mk hg
    clear hg h
    go_enter Try.func31, Try.ntmps31
    go_wp2_with fail
    refine (take_none _ _ _ _ _ H.out Hg.out).mono ?_
    rintro e w1 ⟨rfl, h1, k1⟩
    go_wp2_with fail
    go_ret
    rw [e.out]
    exact ⟨rfl, h1.alloc _, (k1.alloc _).mono (fun _ _ h => h.elim)⟩
  | some v =>
    obtain ⟨j, q⟩ := v
    have e : Kept (s.release id = (0, ⟨s.hand, upd s.free j (s.free j + q), MP.del s.L id⟩)) := ⟨by unfold Sk.release; rw [hg]⟩
    have hm := mem_of_get hg
    obtain ⟨hj, q1, q2⟩ := ok.vals _ hm
    simp only at hj q1 q2
    have hb1 := ok.h1 j hj
    have hb0 := ok.hand0 hj
    have hle := le_resv (fun p hp => by have := ok.vals p hp; omega) hm
    have hsum := ok.sum j hj
    have f0 := ok.f0 j hj
    have hb : s.free j + q ≤ 1000000000 := by omega
    have hx0 : 0 ≤ s.free j := f0
    have Hg := Kept.mk hg
    have Hj := Kept.mk hj
    have hji : (j : Int) < 8 := by omega
    clear hg h hm hle hsum f0 hb0 hj
    go_enter Try.func31, Try.ntmps31
    go_wp2_with fail
    refine (take_some _ _ _ _ _ _ _ H.out Hg.out).mono ?_
    rintro e w1 ⟨rfl, h1, k1⟩
    have hq := Blk.two (w := w1) (T := 86) (u := .int .i64 j) (v := .int .i64 q)
    have cj := (h1.cells.alloc (.cells #[.int .i64 j, .int .i64 q] 86)).cell _ (skCells_free _ m Hj.out)
    have fj := (h1.cells.alloc (.cells #[.int .i64 j, .int .i64 q] 86)).frozen (8 + j)
    simp only at cj
    have H1 := Kept.mk h1
    have K1 := Kept.mk k1
    clear hq h1 k1
    go_wp2_with fail
    go_region
    go_wp2_with fail
    go_ret
    rw [e.out]
    refine ⟨rfl, ⟨?_, ?_, H1.out.ne⟩, ?_⟩
    · have := (H1.out.cells.alloc (.cells #[.int .i64 j, .int .i64 q] 86)).set (8 + j) (.int .i64 (s.free j + q))
      rw [skCells_setFree _ m Hj.out] at this
      exact this
    · exact (H1.out.map.alloc (.cells #[.int .i64 j, .int .i64 q] 86)).other (p := ⟨p, 8 + j, none⟩) H1.out.ne _
    · exact (((K1.out.mono (fun _ _ h => .inr h)).alloc _).setCell (p := ⟨p, 8 + j, none⟩) (.inr (.inl rfl)) _).drew
end Go.Proofs.Ytofabbigngmboaa
