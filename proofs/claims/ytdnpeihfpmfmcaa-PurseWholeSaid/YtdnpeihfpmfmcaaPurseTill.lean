/- The law PurseTill, walked. -/
import Derived.Test.YtdnpeihfpmfmcaaPurseLaws
namespace Go.Proofs.Ytdnpeihfpmfmcaa
open Go.RowKit
theorem new_two (A B : Int) (hA : 1 ≤ A ∧ A ≤ 1000000000) (hB : 1 ≤ B ∧ B ≤ 1000000000) : (Pu.new (fun k => if k = 0 then A else B) 2).money 0 = A ∧ (Pu.new (fun k => if k = 0 then A else B) 2).money 1 = B ∧ (Pu.new (fun k => if k = 0 then A else B) 2).till = 0 ∧ (Pu.new (fun k => if k = 0 then A else B) 2).A = [] ∧ (Pu.new (fun k => if k = 0 then A else B) 2).P = [] := by
  refine ⟨?_, ?_, rfl, rfl, rfl⟩
  · show goods (fun k => if k = 0 then A else B) (min 2 8) 0 = A
    simp only [goods, clampI, if_true]; rw [if_pos (by omega)]; omega
  · show goods (fun k => if k = 0 then A else B) (min 2 8) 1 = B
    simp only [goods, clampI]; rw [if_pos (by omega), if_neg (by omega)]; omega
theorem Pu.allow_in {s : Pu} {id i q : Int} (ha : 1 ≤ id ∧ id ≤ 999 ∧ 0 ≤ i ∧ i < 8 ∧ q ≠ 0 ∧ 0 ≤ q ∧ q ≤ 1000000000) (hg : MP.get s.A id = none) (hp : MP.get s.P id = none) :
    s.allow id i q = if s.money i.toNat - resv s.A i.toNat < q then (9, s) else if 1000000000 - s.till - resvAll s.A < q then (4, s) else (0, ⟨s.money, s.till, MP.put s.A id (i.toNat, q), s.P⟩) := by
  unfold Pu.allow; rw [if_pos ha, if_neg (by rw [hg, hp]; simp)]
/-- What the law's purse goes through; r: what the second client is told. -/
theorem till_plain (A B : Int) (hA : 1 ≤ A ∧ A ≤ 1000000000) (hB : 1 ≤ B ∧ B ≤ 1000000000) : ∃ (s0 s1 s2 s3 : Pu) (r z : Int), Pu.new (fun k => if k = 0 then A else B) 2 = s0 ∧ s0.Ok ∧ s1.Ok ∧ s2.Ok ∧ s3.Ok ∧ Kept (s0.allow 1 0 A = (0, s1)) ∧ Kept (s1.allow 2 1 B = (r, s2)) ∧
    (A ≤ 1000000000 - B ∧ r = 0 ∨ 1000000000 - B < A ∧ r = 4) ∧ Kept (s2.capture 1 = (0, s3)) ∧ Kept (s3.till = A) ∧ Kept (s3.money 0 = 0) ∧ Kept (s3.allow 3 1 B = (z, s3)) ∧ z ≠ 0 ∧ Kept (s3.allow 1 0 1 = (8, s3)) := by
  obtain ⟨a0, a1, a2, a3, a4⟩ := new_two A B hA hB
  have ok0 := Pu.new_ok (fun k => if k = 0 then A else B) 2
  generalize Pu.new (fun k => if k = 0 then A else B) 2 = s0 at *
  obtain ⟨money, till, Al, Pd⟩ := s0
  simp only at a0 a1 a2 a3 a4
  subst a2; subst a3; subst a4
  have q1 : (Pu.mk money 0 [] []).allow 1 0 A = (0, ⟨money, 0, [(1, (0, A))], []⟩) := by
    rw [Pu.allow_in (by omega) rfl rfl, if_neg (by simp only [Int.toNat_zero, resv]; omega), if_neg (by simp only [resvAll, sumN, resv]; omega)]
    rfl
  have ok1 := Pu.allow_ok ok0 1 0 A
  rw [q1] at ok1
  have t1 : (1 : Int).toNat = 1 := rfl
  have hs1 : resvAll [(1, (0, A))] = A := by simp [resvAll, sumN, resv]
  by_cases hf : A ≤ 1000000000 - B
  · have q2 : (Pu.mk money 0 [(1, (0, A))] []).allow 2 1 B = (0, ⟨money, 0, [(1, (0, A)), (2, (1, B))], []⟩) := by
      rw [Pu.allow_in (by omega) rfl rfl, if_neg (by simp only [t1, resv]; rw [if_neg (by omega)]; omega), if_neg (by simp only [hs1]; omega)]
      rfl
    have ok2 := Pu.allow_ok ok1 2 1 B
    rw [q2] at ok2
    have q3 : (Pu.mk money 0 [(1, (0, A)), (2, (1, B))] []).capture 1 = (0, ⟨upd money 0 0, A, [(2, (1, B))], [(1, A)]⟩) := by
      show (0, Pu.mk (upd money 0 (money 0 - A)) (0 + A) [(2, (1, B))] [(1, A)]) = _
      rw [a0, Int.sub_self, Int.zero_add]
    have ok3 := Pu.capture_ok ok2 1
    rw [q3] at ok3
    have q4 : (Pu.mk (upd money 0 0) A [(2, (1, B))] [(1, A)]).allow 3 1 B = (9, ⟨upd money 0 0, A, [(2, (1, B))], [(1, A)]⟩) := by
      rw [Pu.allow_in (by omega) rfl rfl, if_pos (by simp only [t1, resv, upd_other _ (show (1 : Nat) ≠ 0 by omega), if_true]; omega)]
    have q5 : (Pu.mk (upd money 0 0) A [(2, (1, B))] [(1, A)]).allow 1 0 1 = (8, ⟨upd money 0 0, A, [(2, (1, B))], [(1, A)]⟩) := by rfl
    exact ⟨_, _, _, _, 0, 9, rfl, ok0, ok1, ok2, ok3, ⟨q1⟩, ⟨q2⟩, .inl ⟨hf, rfl⟩, ⟨q3⟩, ⟨rfl⟩, ⟨upd_same money 0 0⟩, ⟨q4⟩, by omega, ⟨q5⟩⟩
  · have q2 : (Pu.mk money 0 [(1, (0, A))] []).allow 2 1 B = (4, ⟨money, 0, [(1, (0, A))], []⟩) := by
      rw [Pu.allow_in (by omega) rfl rfl, if_neg (by simp only [t1, resv]; rw [if_neg (by omega)]; omega), if_pos (by simp only [hs1]; omega)]
    have q3 : (Pu.mk money 0 [(1, (0, A))] []).capture 1 = (0, ⟨upd money 0 0, A, [], [(1, A)]⟩) := by
      show (0, Pu.mk (upd money 0 (money 0 - A)) (0 + A) [] [(1, A)]) = _
      rw [a0, Int.sub_self, Int.zero_add]
    have ok3 := Pu.capture_ok ok1 1
    rw [q3] at ok3
    have q4 : (Pu.mk (upd money 0 0) A [] [(1, A)]).allow 3 1 B = (4, ⟨upd money 0 0, A, [], [(1, A)]⟩) := by
      rw [Pu.allow_in (by omega) rfl rfl, if_neg (by simp only [t1, resv, upd_other _ (show (1 : Nat) ≠ 0 by omega)]; omega), if_pos (by simp only [resvAll, sumN, resv]; omega)]
    have q5 : (Pu.mk (upd money 0 0) A [] [(1, A)]).allow 1 0 1 = (8, ⟨upd money 0 0, A, [], [(1, A)]⟩) := by rfl
    exact ⟨_, _, _, _, 4, 4, rfl, ok0, ok1, ok1, ok3, ⟨q1⟩, ⟨q2⟩, .inr ⟨by omega, rfl⟩, ⟨q3⟩, ⟨rfl⟩, ⟨upd_same money 0 0⟩, ⟨q4⟩, by omega, ⟨q5⟩⟩
set_option maxRecDepth 100000 in
set_option maxHeartbeats 2000000 in
theorem ptill_any (a b : Int) (w : World) : Calls Try.prog 4 #[.int .i64 a, .int .i64 b] w (Yes w) := by
  have hA0 := mod_above a 1000000000 1 (by omega) (by omega) (by omega) (by omega)
  have hB0 := mod_above b 1000000000 1 (by omega) (by omega) (by omega) (by omega)
  obtain ⟨A, HA⟩ : ∃ A, Kept (wrap64 (1 + wrap64 ((IntKind.u64.wrap a).tmod 1000000000)) = A) := ⟨_, ⟨rfl⟩⟩
  obtain ⟨B, HB⟩ : ∃ B, Kept (wrap64 (1 + wrap64 ((IntKind.u64.wrap b).tmod 1000000000)) = B) := ⟨_, ⟨rfl⟩⟩
  have hA := hA0
  have hB := hB0
  rw [HA.out] at hA
  rw [HB.out] at hB
  obtain ⟨s0, s1, s2, s3, r, z, e0, ok0, ok1, ok2, ok3, H1, H2, Hr, H3, H4, H5, H6, hz, H7⟩ := till_plain A B (by omega) (by omega)
  have hz0 : (z == 0) = false := by simpa using hz
  have hz1 : (z != 0) = true := by simpa using hz
  clear hz
  rcases Hr with ⟨hf, rfl⟩ | ⟨hf, rfl⟩
  · go_enter Try.func4, Try.ntmps4
    go_wp2_with fail
    rw [HA.out, HB.out]
    clear HA HB hA0 hB0
    refine (purseNew_two A B s0 _ e0).mono ?_
    rintro e w1 ⟨rfl, ⟨h1, z1⟩, k1⟩
    go_wp2_with fail
    refine (allow_to _ _ _ _ _ _ _ _ _ _ h1 ok0 H1.out).mono ?_
    rintro e w2 ⟨rfl, h2, k2⟩
    go_wp2_with fail
    refine (allow_to _ _ _ _ _ _ _ _ _ _ h2 ok1 H2.out).mono ?_
    rintro e w3 ⟨rfl, h3, k3⟩
    go_wp2_with fail
    refine (capture_to _ _ _ _ _ _ _ _ h3 ok2 H3.out).mono ?_
    rintro e w4 ⟨rfl, h4, k4⟩
    go_wp2_with fail
    refine (till_to _ _ _ _ _ _ h4 H4.out).mono ?_
    rintro e _ ⟨rfl, rfl⟩
    go_wp2_with fail
    refine (money_to _ _ _ _ _ _ 0 _ h4 rfl (by omega) H5.out).mono ?_
    rintro e _ ⟨rfl, rfl⟩
    go_wp2_with fail
    refine (allow_to _ _ _ _ _ _ _ _ _ _ h4 ok3 H6.out).mono ?_
    rintro e w5 ⟨rfl, h5, k5⟩
    go_wp2_with fail
    refine (allow_to _ _ _ _ _ _ _ _ _ _ h5 ok3 H7.out).mono ?_
    rintro e w6 ⟨rfl, h6, k6⟩
    have K := (((k2.trans k3).trans k4).trans k5).trans k6
    have B6 : Below w.heap.size w w6 := (k1.below (Nat.le_refl _) (fun _ h => h.elim)).trans (K.below k1.size (fun k e => by omega))
    clear k1 k2 k3 k4 k5 k6 K h1 h2 h3 h4 h5 h6 z1
    go_wp2_with fail
    refine (awake9_any _).mono ?_
    rintro e w7 ⟨rfl, b7⟩
    go_wp2_with fail
    go_ret
    exact ⟨rfl, B6.trans (b7.mono B6.size)⟩
  · go_enter Try.func4, Try.ntmps4
    go_wp2_with fail
    rw [HA.out, HB.out]
    clear HA HB hA0 hB0
    refine (purseNew_two A B s0 _ e0).mono ?_
    rintro e w1 ⟨rfl, ⟨h1, z1⟩, k1⟩
    go_wp2_with fail
    refine (allow_to _ _ _ _ _ _ _ _ _ _ h1 ok0 H1.out).mono ?_
    rintro e w2 ⟨rfl, h2, k2⟩
    go_wp2_with fail
    refine (allow_to _ _ _ _ _ _ _ _ _ _ h2 ok1 H2.out).mono ?_
    rintro e w3 ⟨rfl, h3, k3⟩
    go_wp2_with fail
    refine (capture_to _ _ _ _ _ _ _ _ h3 ok2 H3.out).mono ?_
    rintro e w4 ⟨rfl, h4, k4⟩
    go_wp2_with fail
    refine (till_to _ _ _ _ _ _ h4 H4.out).mono ?_
    rintro e _ ⟨rfl, rfl⟩
    go_wp2_with fail
    refine (money_to _ _ _ _ _ _ 0 _ h4 rfl (by omega) H5.out).mono ?_
    rintro e _ ⟨rfl, rfl⟩
    go_wp2_with fail
    refine (allow_to _ _ _ _ _ _ _ _ _ _ h4 ok3 H6.out).mono ?_
    rintro e w5 ⟨rfl, h5, k5⟩
    go_wp2_with fail
    refine (allow_to _ _ _ _ _ _ _ _ _ _ h5 ok3 H7.out).mono ?_
    rintro e w6 ⟨rfl, h6, k6⟩
    have K := (((k2.trans k3).trans k4).trans k5).trans k6
    have B6 : Below w.heap.size w w6 := (k1.below (Nat.le_refl _) (fun _ h => h.elim)).trans (K.below k1.size (fun k e => by omega))
    clear k1 k2 k3 k4 k5 k6 K h1 h2 h3 h4 h5 h6 z1
    go_wp2_with fail
    refine (awake9_any _).mono ?_
    rintro e w7 ⟨rfl, b7⟩
    go_wp2_with fail
    go_ret
    exact ⟨rfl, B6.trans (b7.mono B6.size)⟩
end Go.Proofs.Ytdnpeihfpmfmcaa
