/- The law AgainWaits, walked. -/
import Derived.Test.YtacnekeakicdeaaCount
namespace Go.Proofs.Ytacnekeakicdeaa
open Go.RowKit
set_option maxHeartbeats 1000000 in
theorem waits_any (n m q : Int) (w : World) : Calls Try.prog 7 #[.int .i64 n, .int .i64 m, .int .i64 q] w (Yes w) := by
  have hT := mod_above n 19 2 (by omega) (by omega) (by omega) (by omega)
  have hA := mod_range m 20 (by omega) (by omega)
  have hM := mod_range q 20 (by omega) (by omega)
  go_enter Try.func7, Try.ntmps7
  go_wp2_with fail
  generalize wrap64 (2 + wrap64 ((IntKind.u64.wrap n).tmod 19)) = T at hT ⊢
  generalize wrap64 ((IntKind.u64.wrap m).tmod 20) = A at hA ⊢
  generalize wrap64 ((IntKind.u64.wrap q).tmod 20) = M at hM ⊢
  have Hn : Kept (Ct.new T = ⟨T, 0, 1⟩) := ⟨by
    have : max 1 (min T 20) = T := by omega
    simp only [Ct.new, this]⟩
  have ok0 : (Ct.mk T 0 1).Ok := by constructor <;> simp only <;> omega
  have ok1 : (Ct.mk (T - 1) 1 2).Ok := by constructor <;> simp only <;> omega
  have ok2 : (Ct.mk (T - 1) 0 2).Ok := by constructor <;> simp only <;> omega
  have Hm : Kept ((Ct.mk T 0 1).may = true) := ⟨by
    have : (T == 0) = false := beq_eq_false_iff_ne.2 (by omega)
    simp [Ct.may, this]⟩
  have Ht : Kept ((Ct.mk T 0 1).tried = ⟨T - 1, 1, 2⟩) := ⟨by unfold Ct.tried; rw [if_pos Hm.out]; rfl⟩
  have Hm1 : Kept ((Ct.mk (T - 1) 1 2).may = false) := ⟨by simp [Ct.may]⟩
  have Ht1 : Kept ((Ct.mk (T - 1) 1 2).tried = ⟨T - 1, 1, 2⟩) := ⟨by unfold Ct.tried; rw [if_neg (by rw [Hm1.out]; simp)]⟩
  have Hm2 : Kept ((Ct.mk (T - 1) 0 2).may = true) := ⟨by
    have : (T - 1 == 0) = false := beq_eq_false_iff_ne.2 (by omega)
    simp [Ct.may, this]⟩
  have Ht2 : Kept ((Ct.mk (T - 1) 0 2).tried = ⟨T - 1 - 1, 2, 4⟩) := ⟨by unfold Ct.tried; rw [if_pos Hm2.out]; rfl⟩
  refine (new_to T ⟨T, 0, 1⟩ _ Hn.out).mono ?_
  rintro e w1 ⟨rfl, ⟨h1, s1⟩, k1⟩
  go_wp2_with fail
  have B1 : Below w.heap.size w w1 := k1.below (Nat.le_refl _) (fun _ h => h.elim)
  clear k1 s1
  refine (try_to _ _ _ true _ h1 ok0 Hm.out Ht.out).mono ?_
  rintro e w2 ⟨rfl, h2, k2⟩
  go_wp2_with fail
  have B2 : Below w.heap.size w w2 := B1.trans (k2.below B1.size (fun k e => by omega))
  clear k2 h1
  refine (left_to _ _ (T - 1) _ h2 rfl).mono ?_
  rintro e _ ⟨rfl, rfl, _⟩
  go_wp2_with fail
  go_loopw [30] (fun i wr => ∃ (k : Nat), (k : Int) ≤ A ∧ i = .int .i64 k ∧ CtAt wr w.heap.size 47 ⟨T - 1, 1, 2⟩ ∧ Below w.heap.size w wr) (fun i _ => (A - intOf i).toNat)
  case atStart => exact ⟨0, by omega, rfl, h2, B2⟩
  case round =>
    obtain ⟨k, hk, rfl, hc, hB⟩ := hrel
    have hbw := hB.size
    by_cases hlt : (k : Int) < A
    · go_wp2_with fail
      refine (try_to _ _ _ false _ hc ok1 Hm1.out Ht1.out).mono ?_
      rintro e w3 ⟨rfl, h3, k3⟩
      go_wp2_with fail
      refine (left_to _ _ (T - 1) _ h3 rfl).mono ?_
      rintro e _ ⟨rfl, rfl, _⟩
      go_wp2_with fail
      refine (wait_to _ _ 1 _ h3 rfl).mono ?_
      rintro e _ ⟨rfl, rfl, _⟩
      go_wp2_with fail
      go_roundw
      case rel => exact ⟨k + 1, by omega, by go_num, h3, hB.trans (k3.below hbw (fun k e => by omega))⟩
      case measure => simp [intOf]; omega
    · go_wp2_with fail
      clear hlt hk
      go_loopw [48] (fun i wq => ∃ (j : Nat) (t : Int), (j : Int) ≤ 1 + M ∧ i = .int .i64 j ∧ 0 ≤ t ∧ t ≤ 1 ∧ (1 ≤ j → t ≤ 0) ∧ CtAt wq w.heap.size 47 ⟨T - 1, t, 2⟩ ∧ Below w.heap.size w wq) (fun i _ => (1 + M - intOf i).toNat)
      case atStart => exact ⟨0, 1, by omega, rfl, by omega, by omega, by omega, hc, hB⟩
      case round =>
        obtain ⟨j, t, hj, rfl, ht0, ht1, htj, hcj, hBj⟩ := hrel
        have hbj := hBj.size
        by_cases hlj : (j : Int) < 1 + M
        · have okt : (Ct.mk (T - 1) t 2).Ok := by constructor <;> simp only <;> omega
          have Hp : Kept ((Ct.mk (T - 1) t 2).passed = ⟨T - 1, 0, 2⟩) := ⟨by
            have : max 0 (t - 1) = 0 := by omega
            simp only [Ct.passed, this]⟩
          have Hf : Kept ((Ct.mk (T - 1) t 2).passed.free = true) := ⟨by rw [Hp.out]; rfl⟩
          have Htj := Kept.mk htj
          clear htj
          go_wp2_with fail
          refine (pass_to _ _ _ _ _ hcj okt Hf.out Hp.out).mono ?_
          rintro e w4 ⟨rfl, h4, k4⟩
          go_wp2_with fail
          refine (wait_to _ _ 0 _ h4 rfl).mono ?_
          rintro e _ ⟨rfl, rfl, _⟩
          go_wp2_with fail
          go_roundw
          case rel => exact ⟨j + 1, 0, by omega, by go_num, by omega, by omega, by omega, h4, hBj.trans (k4.below hbj (fun k e => by omega))⟩
          case measure => simp [intOf]; omega
        · obtain rfl : t = 0 := by omega
          clear htj
          go_wp2_with fail
          refine (try_to _ _ _ true _ hcj ok2 Hm2.out Ht2.out).mono ?_
          rintro e w3 ⟨rfl, h3, k3⟩
          go_wp2_with fail
          refine (left_to _ _ (T - 1 - 1) _ h3 rfl).mono ?_
          rintro e _ ⟨rfl, rfl, _⟩
          go_wp2_with fail
          refine (wait_to _ _ 2 _ h3 rfl).mono ?_
          rintro e _ ⟨rfl, rfl, _⟩
          go_wp2_with fail
          refine (awake_any _).mono ?_
          rintro e w5 ⟨rfl, b5⟩
          go_wp2_with fail
          go_ret
          exact ⟨rfl, (hBj.trans (k3.below hbj (fun k e => by omega))).trans (b5.mono (Nat.le_trans hbj k3.size))⟩
end Go.Proofs.Ytacnekeakicdeaa
