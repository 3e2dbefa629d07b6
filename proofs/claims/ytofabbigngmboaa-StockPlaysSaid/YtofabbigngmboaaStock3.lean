/- Package stock's book, walked, third part: Reserve and New. -/
import Derived.Test.YtofabbigngmboaaStock2
namespace Go.Proofs.Ytofabbigngmboaa
open Go.RowKit
theorem sub_to (a b x y : Int) (w : World) (h : subV a b = (x, y)) : Calls Try.prog 41 #[.int .i64 a, .int .i64 b] w (Says w (.tuple #[.int .i64 x, .int .i64 y])) := by
  have := sub_any a b w
  rw [h] at this
  exact this
theorem reserve_nil (id i q : Int) (w : World) : Calls Try.prog 28 #[.pointer none, .int .i64 id, .int .i64 i, .int .i64 q] w (Says w (.int .i64 1)) := by
  go_enter Try.func28, Try.ntmps28
  go_wp2
  go_ret
  exact ⟨rfl, rfl⟩
theorem skTo_same {w : World} {p m : Nat} {s : Sk} (h : SkAt w p m s) (x : Int) {r : Int × Sk} (e : r = (x, s)) : SkTo w p m r (.returned (.int .i64 x)) w := by
  subst e
  exact ⟨rfl, h, Keeps.refl _ _⟩
theorem skTo_alloc {w : World} {p m : Nat} {s : Sk} (h : SkAt w p m s) (x : Int) (o : Obj) {r : Int × Sk} (e : r = (x, s)) : SkTo w p m r (.returned (.int .i64 x)) (w.alloc o) := by
  subst e
  exact ⟨rfl, h.alloc o, (Keeps.refl _ _).alloc o⟩
theorem Sk.reserve_bad {s : Sk} {id i q : Int} (h : ¬ (1 ≤ id ∧ id ≤ 999 ∧ 0 ≤ i ∧ i < 8 ∧ q ≠ 0 ∧ 0 ≤ q ∧ q ≤ 1000000000)) : s.reserve id i q = (1, s) := by
  have : Sk.argOk id i q = false := by rw [Bool.eq_false_iff, ne_eq, Sk.argOk_iff]; exact h
  unfold Sk.reserve; rw [this, if_neg (by simp)]
set_option maxRecDepth 100000 in
set_option maxHeartbeats 2000000 in
theorem reserve_any (p m : Nat) (s : Sk) (id i q : Int) (w : World) (h : SkAt w p m s) (ok : s.Ok) : Calls Try.prog 28 #[.pointer (some ⟨p, 0, none⟩), .int .i64 id, .int .i64 i, .int .i64 q] w (SkTo w p m (s.reserve id i q)) := by
  have H := Kept.mk h
  by_cases h1 : id < 1
  · have e := Kept.mk (Sk.reserve_bad (s := s) (id := id) (i := i) (q := q) (by omega))
    go_enter Try.func28, Try.ntmps28
    go_wp2
    go_ret
    exact skTo_same H.out 1 e.out
  by_cases h2 : 999 < id
  · have e := Kept.mk (Sk.reserve_bad (s := s) (id := id) (i := i) (q := q) (by omega))
    go_enter Try.func28, Try.ntmps28
    go_wp2
    go_ret
    exact skTo_same H.out 1 e.out
  cases hi : itemB i with
  | false =>
    have e := Kept.mk (Sk.reserve_bad (s := s) (id := id) (i := i) (q := q) (by
      intro hh
      have : itemB i = true := by simp [itemB]; omega
      rw [hi] at this; cases this))
    have Hi := Kept.mk hi
    clear hi
    go_enter Try.func28, Try.ntmps28
    go_wp2_with fail
    refine (item_to _ _ _ Hi.out).mono ?_
    rintro e _ ⟨rfl, rfl⟩
    go_wp2_with fail
    go_ret
    exact skTo_same H.out 1 e.out
  | true =>
    have Hi := Kept.mk hi
    obtain ⟨i0, i8⟩ : 0 ≤ i ∧ i < 8 := by simpa [itemB] using hi
    clear hi
    by_cases h3 : q = 0
    · subst h3
      have e := Kept.mk (Sk.reserve_bad (s := s) (id := id) (i := i) (q := 0) (by omega))
      go_enter Try.func28, Try.ntmps28
      go_wp2_with fail
      refine (item_to _ _ _ Hi.out).mono ?_
      rintro e _ ⟨rfl, rfl⟩
      go_wp2_with fail
      go_ret
      exact skTo_same H.out 1 e.out
    have hq0 : (q == 0) = false := by simpa using h3
    cases hm : mayB q with
    | false =>
      have e := Kept.mk (Sk.reserve_bad (s := s) (id := id) (i := i) (q := q) (by
        intro hh
        have : mayB q = true := (mayB_iff q).2 (by omega)
        rw [hm] at this; cases this))
      have Hm := Kept.mk hm
      clear hm h3
      go_enter Try.func28, Try.ntmps28
      go_wp2_with fail
      refine (item_to _ _ _ Hi.out).mono ?_
      rintro e _ ⟨rfl, rfl⟩
      go_wp2_with fail
      refine (may_to _ _ _ Hm.out).mono ?_
      rintro e _ ⟨rfl, rfl⟩
      go_wp2_with fail
      go_ret
      exact skTo_same H.out 1 e.out
    | true =>
      have Hm := Kept.mk hm
      obtain ⟨q0, q1⟩ := (mayB_iff q).1 hm
      have ha : Sk.argOk id i q = true := by
        rw [Sk.argOk_iff]; exact ⟨by omega, by omega, i0, i8, h3, q0, q1⟩
      clear hm h3
      have c16 := h.cells.cell 16 rfl
      have hl := lookRes h.map id
      cases hg : MP.get s.L id with
      | some v =>
        have e : Kept (s.reserve id i q = (8, s)) := ⟨by unfold Sk.reserve; rw [if_pos ha, hg]; rfl⟩
        rw [hg] at hl
        simp only [Option.getD_some, Option.isSome_some, encRes] at hl
        clear hg ha h
        go_enter Try.func28, Try.ntmps28
        go_wp2_with fail
        refine (item_to _ _ _ Hi.out).mono ?_
        rintro e _ ⟨rfl, rfl⟩
        go_wp2_with fail
        refine (may_to _ _ _ Hm.out).mono ?_
        rintro e _ ⟨rfl, rfl⟩
        go_wp2_with fail
        go_ret
        exact skTo_alloc H.out 8 _ e.out
      | none =>
        rw [hg] at hl
        simp only [Option.getD_none, Option.isSome_none, encRes] at hl
        have hk : i.toNat < 8 := by omega
        have fb0 := ok.f0 _ hk
        have fb1 := ok.h1 _ hk
        have fb2 := (ok.hand0 hk).2
        have cf : ∀ o, (w.alloc o).cell? ⟨p, 8 + i.toNat, none⟩ = some (.int .i64 (s.free i.toNat)) := fun o => (h.cells.alloc o).cell _ (skCells_free s m hk)
        by_cases hlt : s.free i.toNat < q
        · have e : Kept (s.reserve id i q = (9, s)) := ⟨by unfold Sk.reserve; rw [if_pos ha, hg, if_neg (by simp), if_pos hlt]⟩
          have hs : Kept (subV (s.free i.toNat) q = (0, 9)) := ⟨by
            unfold subV; rw [if_pos ((bothB_iff _ _).2 ⟨⟨fb0, by omega⟩, q0, q1⟩), if_pos hlt]⟩
          clear hg ha h fb0 fb1 fb2 hlt
          go_enter Try.func28, Try.ntmps28
          go_wp2_with fail
          refine (item_to _ _ _ Hi.out).mono ?_
          rintro e _ ⟨rfl, rfl⟩
          go_wp2_with fail
          refine (may_to _ _ _ Hm.out).mono ?_
          rintro e _ ⟨rfl, rfl⟩
          go_wp2_with fail
          refine (sub_to _ _ _ _ _ hs.out).mono ?_
          rintro e _ ⟨rfl, rfl⟩
          go_wp2_with fail
          go_ret
          exact skTo_alloc H.out 9 _ e.out
        · have e : Kept (s.reserve id i q = (0, ⟨s.hand, upd s.free i.toNat (s.free i.toNat - q), MP.put s.L id (i.toNat, q)⟩)) := ⟨by
            unfold Sk.reserve; rw [if_pos ha, hg, if_neg (by simp), if_neg hlt]⟩
          have hs : Kept (subV (s.free i.toNat) q = (s.free i.toNat - q, 0)) := ⟨by
            unfold subV; rw [if_pos ((bothB_iff _ _).2 ⟨⟨fb0, by omega⟩, q0, q1⟩), if_neg (by omega)]⟩
          have hC := ((h.cells.alloc (.cells #[.int .i64 0, .int .i64 0] 86)).set (8 + i.toNat) (.int .i64 (s.free i.toNat - q))).drew
          rw [skCells_setFree s m hk] at hC
          have hM := ((h.map.alloc (.cells #[.int .i64 0, .int .i64 0] 86)).other (p := ⟨p, 8 + i.toNat, none⟩) h.ne (.int .i64 (s.free i.toNat - q))).drew
          obtain ⟨v0, st, w1, hme, k1, s1, hst⟩ := hM.entry (P := Try.prog) Try.underlying82 Try.underlying3 (z := ((0 : Nat), (0 : Int))) (zeroRes _) id
          obtain ⟨w2, hes, hM2, k2, s2⟩ := hst w1 (i.toNat, q) rfl
          have ff : ∀ o, (w.alloc o).frozen? ⟨p, 8 + i.toNat, none⟩ = false := fun o => (h.cells.alloc o).frozen _
          have hne := h.ne
          have Hfin : Kept (SkTo w p m (s.reserve id i q) (.returned (.int .i64 0)) w2) := ⟨by
            rw [e.out]
            refine ⟨rfl, ⟨(hC.keeps k1 (fun e => hne e.symm)).keeps k2 (fun e => hne e.symm), hM2, hne⟩, ?_⟩
            have q0 : Keeps (fun k => k = p ∨ k = m) w ((w.alloc (.cells #[.int .i64 0, .int .i64 0] 86)).setCell ⟨p, 8 + i.toNat, none⟩ (.int .i64 (s.free i.toNat - q))).drew :=
              (((Keeps.refl _ w).alloc _).setCell (p := ⟨p, 8 + i.toNat, none⟩) (.inr (.inl rfl)) _).drew
            exact (q0.then k1 (fun _ _ h => .inr h)).then k2 (fun _ _ h => .inr h)⟩
          unfold encRes at hes
          have ei : ((i.toNat : Nat) : Int) = i := by omega
          simp only [ei] at hes
          have c16' : ∀ o, (w.alloc o).cell? ⟨p, 16, none⟩ = some (.map (some m)) := fun o => (h.cells.alloc o).cell 16 rfl
          have hlt' : q ≤ s.free i.toNat := by omega
          clear hg ha h hC hM hst hM2 k1 k2 s1 s2 hlt ei
          go_enter Try.func28, Try.ntmps28
          go_wp2_with fail
          refine (item_to _ _ _ Hi.out).mono ?_
          rintro e _ ⟨rfl, rfl⟩
          go_wp2_with fail
          refine (may_to _ _ _ Hm.out).mono ?_
          rintro e _ ⟨rfl, rfl⟩
          go_wp2_with fail
          refine (sub_to _ _ _ _ _ hs.out).mono ?_
          rintro e _ ⟨rfl, rfl⟩
          go_wp2_with fail
          go_region
          go_wp2_with fail
          go_ret
          exact Hfin.out
end Go.Proofs.Ytofabbigngmboaa
