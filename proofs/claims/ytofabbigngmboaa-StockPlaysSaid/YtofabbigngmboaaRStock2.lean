/- The page's book of goods, second part: Commit, Release, Reserve. -/
import Derived.Test.YtofabbigngmboaaRStock
namespace Go.Proofs.Ytofabbigngmboaa
open Go.RowKit
theorem fieldClaim (a b : Int) (W : World) : (Instr.field 65 (.agg #[.int .i64 a, .int .i64 b]) 1).run Try.prog W = .ok (.int .i64 b) W := by kernel_rfl
theorem fieldClaim0 (a b : Int) (W : World) : (Instr.field 65 (.agg #[.int .i64 a, .int .i64 b]) 0).run Try.prog W = .ok (.int .i64 a) W := by kernel_rfl
def RSTo (w : World) (p m : Nat) (r : Int × Sk) : Ending → World → Prop := Rets w (fun k => k = p ∨ k = m) (.int .i64 r.1) fun w' => RSk w' p m r.2
set_option linter.unusedSimpArgs false in
set_option maxRecDepth 100000 in
set_option maxHeartbeats 2000000 in
theorem rscommit_to (p m : Nat) (s s' : Sk) (id r : Int) (w : World) (h : RSk w p m s) (ok : s.Ok) (hs : s.commit id = (r, s')) : Calls Try.prog 35 #[.pointer (some ⟨p, 0, none⟩), .int .i64 id] w (RSTo w p m (r, s')) := by
  have H := Kept.mk h
  have c8 := h.cells.cell 8 rfl
  have hl := lookClaim h.map id
  cases hg : MP.get s.L id with
  | none =>
    rw [Sk.commit_none hg] at hs
    cases hs
    rw [hg] at hl
    simp only [Option.getD_none, encRes] at hl
    clear hg h
    go_enter Try.func35, Try.ntmps35
    go_wp2_with fail
    go_ret
    exact ⟨rfl, H.out.quiet ((Keeps.refl _ w).alloc _), (Keeps.refl _ w).alloc _⟩
  | some v =>
    obtain ⟨j, q⟩ := v
    rw [Sk.commit_yes hg] at hs
    cases hs
    have hm := mem_of_get hg
    obtain ⟨hj, q1, q2⟩ := ok.vals _ hm
    simp only at hj q1 q2
    have hb1 := ok.h1 j hj
    have hb0 := ok.hand0 hj
    have hle := le_resv (fun p hp => by have := ok.vals p hp; omega) hm
    have hsum := ok.sum j hj
    have f0 := ok.f0 j hj
    have hb : 0 ≤ s.hand j - q := by omega
    have hx0 : 0 ≤ s.hand j := by omega
    have hqz : ¬ q = 0 := by omega
    have Hj := Kept.mk hj
    have hji : (j : Int) < 8 := by omega
    have ka := (Keeps.refl (fun _ => False) w).alloc (.cells #[.int .i64 j, .int .i64 q] 65)
    have hA := h.quiet ka
    have cj := (hA.cells.drew).cell j (rsCells_hand s m hj)
    have fj := (hA.cells.drew).frozen j
    have hB := ((h.cells.set j (.int .i64 (s.hand j - q))).alloc (.cells #[.int .i64 j, .int .i64 q] 65)).drew
    rw [rsCells_set s m hj] at hB
    have hM := ((h.map.other (p := ⟨p, j, none⟩) h.ne (.int .i64 (s.hand j - q))).alloc (.cells #[.int .i64 j, .int .i64 q] 65)).drew
    obtain ⟨w2, hd, hM2, k2, z2⟩ := hM.drop (P := Try.prog) Try.underlying67 Try.underlying3 id
    have c8' := hB.cell 8 rfl
    have HM2 := Kept.mk hM2
    have HB2 := Kept.mk (hB.keeps k2 (fun e => h.ne e.symm))
    have K2 : Kept (Keeps (fun k => k = p ∨ k = m) w w2) := ⟨((((Keeps.refl (fun k => k = p ∨ k = m) w).setCell (p := ⟨p, j, none⟩) (.inr (.inl rfl)) _).alloc _).drew).then k2 (fun _ _ e => .inr e)⟩
    rw [hg] at hl
    simp only [Option.getD_some, encRes] at hl
    have hpl := h.cells.lt
    have hpn : p ≠ w.heap.size := by omega
    have hpn2 : ¬ w.heap.size = p := by omega
    clear hg h hm hle hsum f0 hb0 hj hA hB hM hM2 k2 ka ok
    go_enter Try.func35, Try.ntmps35
    go_wp2_with fail
    go_region
    go_wp2_with fail
    go_ret
    exact ⟨rfl, ⟨HB2.out, HM2.out, H.out.ne⟩, K2.out⟩
set_option linter.unusedSimpArgs false in
set_option maxRecDepth 100000 in
set_option maxHeartbeats 2000000 in
theorem rsrelease_to (p m : Nat) (s s' : Sk) (id r : Int) (w : World) (h : RSk w p m s) (ok : s.Ok) (hs : s.release id = (r, s')) : Calls Try.prog 36 #[.pointer (some ⟨p, 0, none⟩), .int .i64 id] w (RSTo w p m (r, s')) := by
  have hfd := fieldClaim
  have H := Kept.mk h
  have c8 := h.cells.cell 8 rfl
  have hl := lookClaim h.map id
  cases hg : MP.get s.L id with
  | none =>
    rw [Sk.release_none hg] at hs
    cases hs
    rw [hg] at hl
    simp only [Option.getD_none, encRes] at hl
    clear hg h
    go_enter Try.func36, Try.ntmps36
    go_wp2_with fail
    go_ret
    exact ⟨rfl, H.out, Keeps.refl _ w⟩
  | some v =>
    obtain ⟨j, q⟩ := v
    rw [Sk.release_yes hg] at hs
    cases hs
    obtain ⟨hj, q1, q2⟩ := ok.vals _ (mem_of_get hg)
    simp only at hj q1 q2
    have hqz : ¬ q = 0 := by omega
    obtain ⟨w2, hd, hM2, k2, z2⟩ := h.map.drop (P := Try.prog) Try.underlying67 Try.underlying3 id
    have HM2 := Kept.mk hM2
    have HB2 := Kept.mk (h.cells.keeps k2 (fun e => h.ne e.symm))
    have K2 : Kept (Keeps (fun k => k = p ∨ k = m) w w2) := ⟨k2.mono (fun _ _ e => .inr e)⟩
    rw [hg] at hl
    simp only [Option.getD_some, encRes] at hl
    clear hg h hM2 k2 ok
    go_enter Try.func36, Try.ntmps36
    go_wp2_with fail
    go_ret
    exact ⟨rfl, ⟨HB2.out, HM2.out, H.out.ne⟩, K2.out⟩
theorem rsTo_same {w : World} {p m : Nat} {s : Sk} (h : RSk w p m s) (x : Int) : RSTo w p m (x, s) (.returned (.int .i64 x)) w := ⟨rfl, h, Keeps.refl _ _⟩
set_option linter.unusedSimpArgs false in
set_option maxRecDepth 100000 in
set_option maxHeartbeats 2000000 in
theorem rsreserve_to (p m : Nat) (s s' : Sk) (id i q r : Int) (w : World) (h : RSk w p m s) (ok : s.Ok) (hs : s.reserve id i q = (r, s')) : Calls Try.prog 37 #[.pointer (some ⟨p, 0, none⟩), .int .i64 id, .int .i64 i, .int .i64 q] w (RSTo w p m (r, s')) := by
  have hfd := fieldClaim
  have H := Kept.mk h
  cases h1 : inB 1 999 id with
  | false =>
    have h1' : ¬ (1 ≤ id ∧ id ≤ 999) := fun e => by rw [(inB_iff _ _ _).2 e] at h1; cases h1
    rw [Sk.reserve_bad (by omega)] at hs
    cases hs
    have H1 := Kept.mk h1
    clear h h1 h1'
    go_enter Try.func37, Try.ntmps37
    go_wp2_with fail
    refine (rid_to _ _ _ H1.out).mono ?_
    rintro e _ ⟨rfl, rfl⟩
    go_wp2_with fail
    go_ret
    exact rsTo_same H.out 1
  | true =>
  cases h2 : inB 0 7 i with
  | false =>
    have h2' : ¬ (0 ≤ i ∧ i ≤ 7) := fun e => by rw [(inB_iff _ _ _).2 e] at h2; cases h2
    rw [Sk.reserve_bad (by omega)] at hs
    cases hs
    have H1 := Kept.mk h1
    have H2 := Kept.mk h2
    clear h h1 h2 h2'
    go_enter Try.func37, Try.ntmps37
    go_wp2_with fail
    refine (rid_to _ _ _ H1.out).mono ?_
    rintro e _ ⟨rfl, rfl⟩
    go_wp2_with fail
    refine (rplace_to _ _ _ H2.out).mono ?_
    rintro e _ ⟨rfl, rfl⟩
    go_wp2_with fail
    go_ret
    exact rsTo_same H.out 1
  | true =>
  cases h3 : inB 1 1000000000 q with
  | false =>
    have h3' : ¬ (1 ≤ q ∧ q ≤ 1000000000) := fun e => by rw [(inB_iff _ _ _).2 e] at h3; cases h3
    rw [Sk.reserve_bad (by omega)] at hs
    cases hs
    have H1 := Kept.mk h1
    have H2 := Kept.mk h2
    have H3 := Kept.mk h3
    clear h h1 h2 h3 h3'
    go_enter Try.func37, Try.ntmps37
    go_wp2_with fail
    refine (rid_to _ _ _ H1.out).mono ?_
    rintro e _ ⟨rfl, rfl⟩
    go_wp2_with fail
    refine (rplace_to _ _ _ H2.out).mono ?_
    rintro e _ ⟨rfl, rfl⟩
    go_wp2_with fail
    refine (rabove_to _ _ _ H3.out).mono ?_
    rintro e _ ⟨rfl, rfl⟩
    go_wp2_with fail
    go_ret
    exact rsTo_same H.out 1
  | true =>
  have a1 := (inB_iff _ _ _).1 h1
  have a2 := (inB_iff _ _ _).1 h2
  have a3 := (inB_iff _ _ _).1 h3
  have ha : 1 ≤ id ∧ id ≤ 999 ∧ 0 ≤ i ∧ i < 8 ∧ q ≠ 0 ∧ 0 ≤ q ∧ q ≤ 1000000000 := by omega
  have H1 := Kept.mk h1
  have H2 := Kept.mk h2
  have H3 := Kept.mk h3
  have c8 := h.cells.cell 8 rfl
  have hl := lookClaim h.map id
  cases hg : MP.get s.L id with
  | some v =>
    rw [Sk.reserve_twice ha (by rw [hg]; rfl)] at hs
    cases hs
    obtain ⟨j, y⟩ := v
    obtain ⟨hj, q1, q2⟩ := ok.vals _ (mem_of_get hg)
    simp only at hj q1 q2
    have hy : 0 < y := by omega
    rw [hg] at hl
    simp only [Option.getD_some, encRes] at hl
    clear hg h h1 h2 h3 a1 a2 a3 ha ok
    go_enter Try.func37, Try.ntmps37
    go_wp2_with fail
    refine (rid_to _ _ _ H1.out).mono ?_
    rintro e _ ⟨rfl, rfl⟩
    go_wp2_with fail
    refine (rplace_to _ _ _ H2.out).mono ?_
    rintro e _ ⟨rfl, rfl⟩
    go_wp2_with fail
    refine (rabove_to _ _ _ H3.out).mono ?_
    rintro e _ ⟨rfl, rfl⟩
    go_wp2_with fail
    go_ret
    exact rsTo_same H.out 8
  | none =>
    rw [hg] at hl
    simp only [Option.getD_none, encRes] at hl
    have hfo : s.freeOf i = s.free i.toNat := by unfold Sk.freeOf; rw [if_pos (by simp [itemB]; omega)]
    have HFr := Kept.mk (rsfree_to p m s i (s.free i.toNat) w h ok hfo)
    by_cases hf : s.free i.toNat < q
    · rw [Sk.reserve_less ha hg hf] at hs
      cases hs
      generalize s.free i.toNat = y at hf HFr
      clear hg h h1 h2 h3 a1 a2 a3 ha ok hfo
      go_enter Try.func37, Try.ntmps37
      go_wp2_with fail
      refine (rid_to _ _ _ H1.out).mono ?_
      rintro e _ ⟨rfl, rfl⟩
      go_wp2_with fail
      refine (rplace_to _ _ _ H2.out).mono ?_
      rintro e _ ⟨rfl, rfl⟩
      go_wp2_with fail
      refine (rabove_to _ _ _ H3.out).mono ?_
      rintro e _ ⟨rfl, rfl⟩
      go_wp2_with fail
      refine HFr.out.mono ?_
      rintro e w1 ⟨rfl, g1, k1⟩
      have G1 := Kept.mk g1
      have K1 := Kept.mk k1
      clear g1 k1 HFr
      go_wp2_with fail
      go_ret
      exact ⟨rfl, G1.out, K1.out.mono (fun _ _ h => h.elim)⟩
    · have hf2 : ¬ s.free i.toNat < q := hf
      rw [Sk.reserve_yes ha hg (by omega)] at hs
      cases hs
      have hi2 : Kept (((i.toNat : Nat) : Int) = i) := ⟨by omega⟩
      obtain ⟨y, hy⟩ : ∃ y, s.free i.toNat = y := ⟨_, rfl⟩
      have HY := Kept.mk hy
      rw [hy] at hf2 HFr
      clear hg h h1 h2 h3 a1 a2 a3 ha ok hfo hf hy
      go_enter Try.func37, Try.ntmps37
      go_wp2_with fail
      refine (rid_to _ _ _ H1.out).mono ?_
      rintro e _ ⟨rfl, rfl⟩
      go_wp2_with fail
      refine (rplace_to _ _ _ H2.out).mono ?_
      rintro e _ ⟨rfl, rfl⟩
      go_wp2_with fail
      refine (rabove_to _ _ _ H3.out).mono ?_
      rintro e _ ⟨rfl, rfl⟩
      go_wp2_with fail
      refine HFr.out.mono ?_
      rintro e w1 ⟨rfl, g1, k1⟩
      obtain ⟨w2, hup, hM2, k2, z2⟩ := g1.map.update (P := Try.prog) Try.underlying67 Try.underlying3 id (i.toNat, q)
      have c81 := g1.cells.cell 8 rfl
      unfold encRes at hup
      dsimp only at hup
      rw [hi2.out] at hup
      have HM2 := Kept.mk hM2
      have HB2 := Kept.mk (g1.cells.keeps k2 (fun e => g1.ne e.symm))
      have K2 : Kept (Keeps (fun k => k = p ∨ k = m) w w2) := ⟨(k1.mono (fun _ _ h => h.elim)).then k2 (fun _ _ e => .inr e)⟩
      clear g1 k1 HFr hM2 k2
      go_wp2_with fail
      go_ret
      exact ⟨rfl, ⟨HB2.out, HM2.out, H.out.ne⟩, K2.out⟩
end Go.Proofs.Ytofabbigngmboaa
