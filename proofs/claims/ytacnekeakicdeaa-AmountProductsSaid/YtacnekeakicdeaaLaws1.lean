/- The laws AmountForms, AmountOrders and AmountProducts, walked. -/
import Derived.Test.YtacnekeakicdeaaNums
import Derived.Test.YtacnekeakicdeaaAwake1
namespace Go.Proofs.Ytacnekeakicdeaa
open Go.RowKit
theorem radd_to (a b x y : Int) (w : World) (h : addV a b = (x, y)) : Calls Try.prog 31 #[.int .i64 a, .int .i64 b] w (Says w (.tuple #[.int .i64 x, .int .i64 y])) := by
  have := radd_any a b w
  rw [h] at this
  exact this
theorem rsub_to (a b x y : Int) (w : World) (h : subV a b = (x, y)) : Calls Try.prog 33 #[.int .i64 a, .int .i64 b] w (Says w (.tuple #[.int .i64 x, .int .i64 y])) := by
  have := rsub_any a b w
  rw [h] at this
  exact this
theorem rmul_to (a b x y : Int) (w : World) (h : mulV a b = (x, y)) : Calls Try.prog 34 #[.int .i64 a, .int .i64 b] w (Says w (.tuple #[.int .i64 x, .int .i64 y])) := by
  have := rmul_any a b w
  rw [h] at this
  exact this
theorem rpart_to (a b c x y : Int) (w : World) (h : partV a b c = (x, y)) : Calls Try.prog 36 #[.int .i64 a, .int .i64 b, .int .i64 c] w (Says w (.tuple #[.int .i64 x, .int .i64 y])) := by
  have := rpart_any a b c w
  rw [h] at this
  exact this
theorem part_to (a b c x y : Int) (w : World) (h : partV a b c = (x, y)) : Calls Try.prog 35 #[.int .i64 a, .int .i64 b, .int .i64 c] w (Says w (.tuple #[.int .i64 x, .int .i64 y])) := by
  have := part_any a b c w
  rw [h] at this
  exact this
set_option maxHeartbeats 2000000 in
set_option maxRecDepth 100000 in
theorem forms_any (a b n o : Int) (w : World) : Calls Try.prog 11 #[.int .i64 a, .int .i64 b, .int .i64 n, .int .i64 o] w (Yes w) := by
  generalize hA : addV a b = pA
  obtain ⟨xA, eA⟩ := pA
  generalize hS : subV a b = pS
  obtain ⟨xS, eS⟩ := pS
  generalize hM : mulV a b = pM
  obtain ⟨xM, eM⟩ := pM
  generalize hP : partV a n o = pP
  obtain ⟨xP, eP⟩ := pP
  generalize hR : mayB a = r
  have HA := Kept.mk hA
  have HS := Kept.mk hS
  have HM := Kept.mk hM
  have HP := Kept.mk hP
  have HR := Kept.mk hR
  clear hA hS hM hP hR
  go_enter Try.func11, Try.ntmps11
  go_wp2_with fail
  refine (add_to _ _ _ _ _ HA.out).mono ?_
  rintro e _ ⟨rfl, rfl⟩
  go_wp2_with fail
  refine (radd_to _ _ _ _ _ HA.out).mono ?_
  rintro e _ ⟨rfl, rfl⟩
  go_wp2_with fail
  refine (sub_to _ _ _ _ _ HS.out).mono ?_
  rintro e _ ⟨rfl, rfl⟩
  go_wp2_with fail
  refine (rsub_to _ _ _ _ _ HS.out).mono ?_
  rintro e _ ⟨rfl, rfl⟩
  go_wp2_with fail
  refine (mul_to _ _ _ _ _ HM.out).mono ?_
  rintro e _ ⟨rfl, rfl⟩
  go_wp2_with fail
  refine (rmul_to _ _ _ _ _ HM.out).mono ?_
  rintro e _ ⟨rfl, rfl⟩
  go_wp2_with fail
  refine (part_to _ _ _ _ _ _ HP.out).mono ?_
  rintro e _ ⟨rfl, rfl⟩
  go_wp2_with fail
  refine (rpart_to _ _ _ _ _ _ HP.out).mono ?_
  rintro e _ ⟨rfl, rfl⟩
  go_wp2_with fail
  refine (may_to _ _ _ HR.out).mono ?_
  rintro e _ ⟨rfl, rfl⟩
  go_wp2_with fail
  refine (rmay_to _ _ _ HR.out).mono ?_
  rintro e _ ⟨rfl, rfl⟩
  go_wp2_with fail
  refine (awake1_any _).mono ?_
  rintro e w2 ⟨rfl, b2⟩
  go_wp2_with fail
  go_ret
  exact ⟨rfl, b2⟩
theorem addV_comm (a b : Int) : addV a b = addV b a := by
  have : bothB a b = bothB b a := by simp [bothB, Bool.and_comm]
  simp only [addV, this, Int.add_comm a b]
theorem mulV_comm (a b : Int) : mulV a b = mulV b a := by
  have : bothB a b = bothB b a := by simp [bothB, Bool.and_comm]
  simp only [mulV, this, Int.mul_comm a b]
set_option maxHeartbeats 2000000 in
set_option maxRecDepth 100000 in
theorem orders_any (a b : Int) (w : World) : Calls Try.prog 13 #[.int .i64 a, .int .i64 b] w (Yes w) := by
  have hAc := addV_comm a b
  have hMc := mulV_comm a b
  cases hm : mayB a with
  | false =>
    have hA : addV a b = (0, 1) := by unfold addV bothB; rw [if_neg (by simp [hm])]
    have hM : mulV a b = (0, 1) := by unfold mulV bothB; rw [if_neg (by simp [hm])]
    have HA := Kept.mk hA
    have HM := Kept.mk hM
    have HA' := Kept.mk (hAc.symm.trans hA)
    have HM' := Kept.mk (hMc.symm.trans hM)
    have Hm := Kept.mk hm
    clear hA hM hm hAc hMc
    go_enter Try.func13, Try.ntmps13
    go_wp2_with fail
    refine (add_to _ _ _ _ _ HA.out).mono ?_
    rintro e _ ⟨rfl, rfl⟩
    go_wp2_with fail
    refine (add_to _ _ _ _ _ HA'.out).mono ?_
    rintro e _ ⟨rfl, rfl⟩
    go_wp2_with fail
    refine (mul_to _ _ _ _ _ HM.out).mono ?_
    rintro e _ ⟨rfl, rfl⟩
    go_wp2_with fail
    refine (mul_to _ _ _ _ _ HM'.out).mono ?_
    rintro e _ ⟨rfl, rfl⟩
    go_wp2_with fail
    refine (may_to _ _ _ Hm.out).mono ?_
    rintro e _ ⟨rfl, rfl⟩
    go_wp2_with fail
    refine (awake1_any _).mono ?_
    rintro e w2 ⟨rfl, b2⟩
    go_wp2_with fail
    go_ret
    exact ⟨rfl, b2⟩
  | true =>
    have hr := (mayB_iff a).1 hm
    have h0 : mayB 0 = true := by decide
    have h7 : mayB 7 = true := by decide
    have hz : addV a 0 = (a, 0) := by
      unfold addV bothB; rw [hm, h0, if_pos (by decide), if_neg (by omega), Int.add_zero]
    have hs : subV a a = (0, 0) := by
      unfold subV bothB; rw [hm, if_pos (by decide), if_neg (by omega), Int.sub_self]
    have hp : partV a 7 7 = (a, 0) := by
      unfold partV partB bothB; rw [hm, h7, if_pos (by decide), Int.mul_ediv_cancel _ (by decide)]
    have Hz := Kept.mk hz
    have Hs := Kept.mk hs
    have Hp := Kept.mk hp
    generalize hA : addV a b = pA at hAc
    obtain ⟨xA, eA⟩ := pA
    generalize hM : mulV a b = pM at hMc
    obtain ⟨xM, eM⟩ := pM
    have HA := Kept.mk hA
    have HM := Kept.mk hM
    have HA' := Kept.mk hAc.symm
    have HM' := Kept.mk hMc.symm
    have Hm := Kept.mk hm
    clear hA hM hm hAc hMc hz hs hp h0 h7
    go_enter Try.func13, Try.ntmps13
    go_wp2_with fail
    refine (add_to _ _ _ _ _ HA.out).mono ?_
    rintro e _ ⟨rfl, rfl⟩
    go_wp2_with fail
    refine (add_to _ _ _ _ _ HA'.out).mono ?_
    rintro e _ ⟨rfl, rfl⟩
    go_wp2_with fail
    refine (mul_to _ _ _ _ _ HM.out).mono ?_
    rintro e _ ⟨rfl, rfl⟩
    go_wp2_with fail
    refine (mul_to _ _ _ _ _ HM'.out).mono ?_
    rintro e _ ⟨rfl, rfl⟩
    go_wp2_with fail
    refine (may_to _ _ _ Hm.out).mono ?_
    rintro e _ ⟨rfl, rfl⟩
    go_wp2_with fail
    refine (add_to _ _ _ _ _ Hz.out).mono ?_
    rintro e _ ⟨rfl, rfl⟩
    go_wp2_with fail
    refine (sub_to _ _ _ _ _ Hs.out).mono ?_
    rintro e _ ⟨rfl, rfl⟩
    go_wp2_with fail
    refine (part_to _ _ _ _ _ _ Hp.out).mono ?_
    rintro e _ ⟨rfl, rfl⟩
    go_wp2_with fail
    refine (awake1_any _).mono ?_
    rintro e w2 ⟨rfl, b2⟩
    go_wp2_with fail
    go_ret
    exact ⟨rfl, b2⟩
theorem add_in {a b : Int} (ha : 0 ≤ a ∧ a ≤ 1000000000) (hb : 0 ≤ b ∧ b ≤ 1000000000) : addV a b = if a + b > 1000000000 then (0, 4) else (a + b, 0) := by
  unfold addV; rw [if_pos ((bothB_iff a b).2 ⟨ha, hb⟩)]
theorem mul_in {a b : Int} (ha : 0 ≤ a ∧ a ≤ 1000000000) (hb : 0 ≤ b ∧ b ≤ 1000000000) : mulV a b = if a * b > 1000000000 then (0, 4) else (a * b, 0) := by
  unfold mulV; rw [if_pos ((bothB_iff a b).2 ⟨ha, hb⟩)]
set_option maxHeartbeats 2000000 in
theorem products_any (n m : Int) (w : World) : Calls Try.prog 9 #[.int .i64 n, .int .i64 m] w (Yes w) := by
  have hA := mod_range n 1000000001 (by omega) (by omega)
  have hM := mod_range m 100 (by omega) (by omega)
  go_enter Try.func9, Try.ntmps9
  go_wp2_with fail
  generalize wrap64 ((IntKind.u64.wrap n).tmod 1000000001) = A at hA ⊢
  generalize wrap64 ((IntKind.u64.wrap m).tmod 100) = M at hM ⊢
  go_loopw [5, 6, 22] (fun u v i wr => ∃ (k : Nat) (s : Int), (k : Int) ≤ M ∧ u = .int .i64 s ∧ v = .bool false ∧ Kept (s = k * A) ∧ 0 ≤ s ∧ s ≤ 1000000000 ∧ i = .int .i64 k ∧ wr = w) (fun _ _ i _ => (M - intOf i).toNat)
  case atStart => exact ⟨0, 0, by omega, rfl, rfl, ⟨by simp⟩, by omega, by omega, rfl, rfl⟩
  case round =>
    obtain ⟨k, s, hk, rfl, rfl, hs, s0, s1, rfl, rfl⟩ := hrel
    by_cases hlt : (k : Int) < M
    · have hadd := add_in (a := s) (b := A) (by omega) (by omega)
      by_cases ho : s + A > 1000000000
      · rw [if_pos ho] at hadd
        have Ha := Kept.mk hadd
        have hle : ((k + 1 : Nat) : Int) * A ≤ M * A := Int.mul_le_mul_of_nonneg_right (by omega) hA.1
        have he : ((k + 1 : Nat) : Int) * A = s + A := by rw [hs.out, Int.natCast_add, Int.add_mul]; simp
        have hover : M * A > 1000000000 := by omega
        have hm := mul_in (a := M) (b := A) (by omega) (by omega)
        rw [if_pos hover] at hm
        have Hm := Kept.mk hm
        have Hm' := Kept.mk ((mulV_comm A M).trans hm)
        clear hadd hm hle he hover
        go_wp2_with fail
        refine (add_to _ _ _ _ _ Ha.out).mono ?_
        rintro e _ ⟨rfl, rfl⟩
        go_wp2_with fail
        refine (mul_to _ _ _ _ _ Hm'.out).mono ?_
        rintro e _ ⟨rfl, rfl⟩
        go_wp2_with fail
        refine (mul_to _ _ _ _ _ Hm.out).mono ?_
        rintro e _ ⟨rfl, rfl⟩
        go_wp2_with fail
        refine (awake1_any _).mono ?_
        rintro e w2 ⟨rfl, b2⟩
        go_wp2_with fail
        go_ret
        exact ⟨rfl, b2⟩
      · rw [if_neg ho] at hadd
        have Ha := Kept.mk hadd
        have hs' : Kept (s + A = ((k + 1 : Nat) : Int) * A) := ⟨by rw [hs.out, Int.natCast_add, Int.add_mul]; simp⟩
        clear hadd
        go_wp2_with fail
        refine (add_to _ _ _ _ _ Ha.out).mono ?_
        rintro e _ ⟨rfl, rfl⟩
        go_wp2_with fail
        go_roundw
        case rel => exact ⟨k + 1, s + A, by omega, rfl, rfl, hs', by omega, by omega, by go_num, by first | rfl | trivial⟩
        case measure => simp [intOf]; omega
    · obtain rfl : M = k := by omega
      have hm := mul_in (a := (k : Int)) (b := A) (by omega) (by omega)
      rw [← hs.out, if_neg (by omega)] at hm
      have Hm := Kept.mk hm
      have Hm' := Kept.mk ((mulV_comm A k).trans hm)
      clear hm
      go_wp2_with fail
      refine (mul_to _ _ _ _ _ Hm'.out).mono ?_
      rintro e _ ⟨rfl, rfl⟩
      go_wp2_with fail
      refine (mul_to _ _ _ _ _ Hm.out).mono ?_
      rintro e _ ⟨rfl, rfl⟩
      go_wp2_with fail
      refine (awake1_any _).mono ?_
      rintro e w2 ⟨rfl, b2⟩
      go_wp2_with fail
      go_ret
      exact ⟨rfl, b2⟩
end Go.Proofs.Ytacnekeakicdeaa
