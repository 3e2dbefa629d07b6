/- The law AgainEnds, walked. -/
import Derived.Test.YtacnekeakicdeaaCount
namespace Go.Proofs.Ytacnekeakicdeaa
open Go.RowKit
set_option maxHeartbeats 1000000 in
theorem ends_any (n : Int) (w : World) : Calls Try.prog 6 #[.int .i64 n] w (Yes w) := by
  have hT := mod_above n 20 1 (by omega) (by omega) (by omega) (by omega)
  go_enter Try.func6, Try.ntmps6
  go_wp2_with fail
  generalize wrap64 (1 + wrap64 ((IntKind.u64.wrap n).tmod 20)) = T at hT ⊢
  have hn : Ct.new T = ⟨T, 0, 1⟩ := by
    have : max 1 (min T 20) = T := by omega
    simp only [Ct.new, this]
  have Hn := Kept.mk hn
  clear hn
  refine (new_to T ⟨T, 0, 1⟩ _ Hn.out).mono ?_
  rintro e w1 ⟨rfl, ⟨h1, s1⟩, k1⟩
  go_wp2_with fail
  have B1 : Below w.heap.size w w1 := k1.below (Nat.le_refl _) (fun _ h => h.elim)
  clear k1 s1
  go_loopw [4, 15] (fun u i wr => ∃ (k : Nat) (x : Int), (k : Int) ≤ T ∧ 1 ≤ x ∧ x ≤ 16 ∧ u = .int .i64 x ∧ i = .int .i64 k ∧ CtAt wr w.heap.size 47 ⟨T - k, 0, x⟩ ∧ Below w.heap.size w wr) (fun _ i _ => (T - intOf i).toNat)
  case atStart => exact ⟨0, 1, by omega, by omega, by omega, rfl, rfl, by simpa using h1, B1⟩
  case round =>
    obtain ⟨k, x, hk, hx0, hx1, rfl, rfl, hc, hB⟩ := hrel
    have hbw := hB.size
    by_cases hlt : (k : Int) < T
    · have ok : (Ct.mk (T - k) 0 x).Ok := by constructor <;> simp only <;> omega
      have ok2 : (Ct.mk (T - k - 1) x (min (2 * x) 16)).Ok := by constructor <;> simp only <;> omega
      have hm : (Ct.mk (T - k) 0 x).may = true := by
        have : ((T - k : Int) == 0) = false := beq_eq_false_iff_ne.2 (by omega)
        simp [Ct.may, this]
      have ht : (Ct.mk (T - k) 0 x).tried = ⟨T - k - 1, x, min (2 * x) 16⟩ := by unfold Ct.tried; rw [if_pos hm]
      have hm2 : (Ct.mk (T - k - 1) x (min (2 * x) 16)).may = false := by
        have : decide (0 < x) = true := by simp; omega
        simp [Ct.may, this]
      have ht2 : (Ct.mk (T - k - 1) x (min (2 * x) 16)).tried = ⟨T - k - 1, x, min (2 * x) 16⟩ := by unfold Ct.tried; rw [if_neg (by rw [hm2]; simp)]
      have Hm := Kept.mk hm
      have Ht := Kept.mk ht
      have Hm2 := Kept.mk hm2
      have Ht2 := Kept.mk ht2
      clear hm ht hm2 ht2
      generalize hy : min (2 * x) 16 = y at ok2 Ht Hm2 Ht2
      have Hy := Kept.mk hy
      clear hy
      go_wp2_with fail
      refine (left_to _ _ (T - k) _ hc rfl).mono ?_
      rintro e _ ⟨rfl, rfl, _⟩
      go_wp2_with fail
      refine (try_to _ _ _ true _ hc ok Hm.out Ht.out).mono ?_
      rintro e w2 ⟨rfl, h2, k2⟩
      go_wp2_with fail
      refine (try_to _ _ _ false _ h2 ok2 Hm2.out Ht2.out).mono ?_
      rintro e w3 ⟨rfl, h3, k3⟩
      go_wp2_with fail
      refine (wait_to _ _ x _ h3 rfl).mono ?_
      rintro e _ ⟨rfl, rfl, _⟩
      go_wp2_with fail
      have B3 : Below w.heap.size w w3 := hB.trans ((k2.trans k3).below hbw (fun k e => by omega))
      clear k2 k3 h2 hc hB
      go_loopw [40] (fun i wq => ∃ (j : Nat), (j : Int) ≤ x ∧ i = .int .i64 j ∧ CtAt wq w.heap.size 47 ⟨T - k - 1, x - j, y⟩ ∧ Below w.heap.size w wq) (fun i _ => (x - intOf i).toNat)
      case atStart => exact ⟨0, by omega, rfl, by simpa using h3, B3⟩
      case round =>
        obtain ⟨j, hj, rfl, hcj, hBj⟩ := hrel
        have hbj := hBj.size
        by_cases hlj : (j : Int) < x
        · have hp : (Ct.mk (T - k - 1) (x - j) y).passed = ⟨T - k - 1, x - (j + 1), y⟩ := by
            have : max 0 (x - j - 1) = x - (j + 1) := by omega
            simp only [Ct.passed, this]
          have hf : (Ct.mk (T - k - 1) (x - j) y).passed.free = ((j : Int) == x - 1) := by
            rw [hp]
            simp only [Ct.free]
            rw [Bool.eq_iff_iff]
            simp
            omega
          have okj : (Ct.mk (T - k - 1) (x - j) y).Ok := ⟨ok2.l0, ok2.l1, by simp only; omega, by simp only; omega, ok2.n0, ok2.n1⟩
          have Hp := Kept.mk hp
          have Hf := Kept.mk hf
          clear hp hf
          go_wp2_with fail
          refine (pass_to _ _ _ _ _ hcj okj Hf.out Hp.out).mono ?_
          rintro e w4 ⟨rfl, h4, k4⟩
          go_wp2_with fail
          go_roundw
          case rel => exact ⟨j + 1, by omega, by go_num, by simpa using h4, hBj.trans (k4.below hbj (fun k e => by omega))⟩
          case measure => simp [intOf]; omega
        · obtain rfl : x = j := by omega
          have hq : CtAt wr w.heap.size 47 ⟨T - ((k + 1 : Nat) : Int), 0, y⟩ := by
            have e : (Ct.mk (T - k - 1) ((j : Int) - j) y) = ⟨T - ((k + 1 : Nat) : Int), 0, y⟩ := by
              simp only [Ct.mk.injEq]
              exact ⟨by omega, by omega, trivial⟩
            rw [← e]
            exact hcj
          by_cases h16 : 16 < 2 * (j : Int)
          · have e : Kept (y = 16) := ⟨by have := Hy.out; omega⟩
            go_wp2_with fail
            go_roundw
            case rel => exact ⟨k + 1, y, by omega, ok2.n0, ok2.n1, by rw [e.out], by go_num, hq, hBj⟩
            case measure => simp [intOf]; omega
          · have e : Kept (y = 2 * (j : Int)) := ⟨by have := Hy.out; omega⟩
            go_wp2_with fail
            go_roundw
            case rel => exact ⟨k + 1, y, by omega, ok2.n0, ok2.n1, by rw [e.out], by go_num, hq, hBj⟩
            case measure => simp [intOf]; omega
    · obtain rfl : T = k := by omega
      have hf : Kept ((Ct.mk ((k : Int) - k) 0 x).may = false) := ⟨by simp [Ct.may]⟩
      have ht : Kept ((Ct.mk ((k : Int) - k) 0 x).tried = ⟨(k : Int) - k, 0, x⟩) := ⟨by unfold Ct.tried; rw [if_neg (by rw [hf.out]; simp)]⟩
      have ok : (Ct.mk ((k : Int) - k) 0 x).Ok := by constructor <;> simp only <;> omega
      go_wp2_with fail
      refine (try_to _ _ _ false _ hc ok hf.out ht.out).mono ?_
      rintro e w2 ⟨rfl, h2, k2⟩
      go_wp2_with fail
      refine (left_to _ _ 0 _ h2 (by simp only; omega)).mono ?_
      rintro e _ ⟨rfl, rfl, _⟩
      go_wp2_with fail
      refine (wait_to _ _ 0 _ h2 rfl).mono ?_
      rintro e _ ⟨rfl, rfl, _⟩
      go_wp2_with fail
      refine (awake_any _).mono ?_
      rintro e w3 ⟨rfl, b3⟩
      go_wp2_with fail
      go_ret
      exact ⟨rfl, (hB.trans (k2.below hbw (fun k e => by omega))).trans (b3.mono (Nat.le_trans hbw k2.size))⟩
end Go.Proofs.Ytacnekeakicdeaa
