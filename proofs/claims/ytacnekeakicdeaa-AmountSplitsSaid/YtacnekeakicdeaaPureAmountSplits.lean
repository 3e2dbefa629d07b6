/- For every a and n: the parts of amount.Split differ by at most one and the greater ones come first; out of range there are none. No condition. -/
import Derived.Test.YtacnekeakicdeaaPAmountSplitsx2
namespace Go.Proofs.Ytacnekeakicdeaa.Pure
open Go.RowKit Go.Proofs.Ytacnekeakicdeaa.PAmountSplits Go.Proofs.YtacnekeakicdeaaW.PrintWords Go.Proofs.YtacnekeakicdeaaW.PrintLast

theorem w64 {x : Int} (h0 : -9223372036854775808 ≤ x) (h : x ≤ 9223372036854775807) : wrap64 x = x := by unfold wrap64; omega

theorem awake_ten : wharfingerlaw1_awake.f 10 = some true := by decide +kernel
theorem awake_k (k : Nat) (h : 10 ≤ k) : wharfingerlaw1_awake.f k = some true := by
  obtain ⟨m, rfl⟩ : ∃ m, k = 10 + m := ⟨k - 10, by omega⟩
  induction m with
  | zero => exact awake_ten
  | succ m ih => exact wharfingerlaw1_awake.mono _ _ (ih (by omega))

def part (a n i : Int) : Int := a / n + (if i < a % n then 1 else 0)
def parts (a n : Int) (i : Nat) : List Int := (List.range i).map fun (j : Nat) => part a n (j : Int)
theorem parts_length (a n : Int) (i : Nat) : (parts a n i).length = i := by simp [parts]
theorem parts_succ (a n : Int) (i : Nat) : parts a n (i + 1) = parts a n i ++ [part a n i] := by simp [parts, List.range_succ]
theorem rd_parts (a n : Int) (m : Nat) (i : Nat) (h : i < m) : rd (parts a n m) (i : Int) = part a n i := by
  simp [rd, parts, List.getD, h]
theorem div_bounds (a n : Int) (ha : 0 ≤ a) (ha' : a ≤ 1000000000) (hn : 1 ≤ n) : 0 ≤ a / n ∧ a / n ≤ 1000000000 := by
  refine ⟨Int.ediv_nonneg ha (by omega), ?_⟩
  have := Int.ediv_le_self n ha
  omega
theorem set_mid (l : List Int) (x v : Int) (r : List Int) : (l ++ x :: r).set l.length v = l ++ v :: r := by
  simp
theorem rd_mid (l : List Int) (x : Int) (r : List Int) : rd (l ++ x :: r) (l.length : Int) = x := by
  simp [rd, List.getD]
theorem split_loop (a : Int) (n : Nat) (ha : 0 ≤ a) (ha' : a ≤ 1000000000) (hn : 1 ≤ n) (hn' : n ≤ 64) (d : Nat) : ∀ (k i : Nat), i + d = n → d < k →
    amount_Split.l0 k a n (parts a n i ++ List.replicate d 0) n i = some (parts a n n) := by
  have hdb := div_bounds a n ha ha' (by omega)
  have htd : wrap64 (Int.tdiv a n) = a / n := by
    rw [Int.tdiv_eq_ediv_of_nonneg ha]; exact w64 (by omega) (by omega)
  have htm : Int.tmod a n = a % n := Int.tmod_eq_emod_of_nonneg ha
  induction d with
  | zero =>
    intro k i hd hk
    obtain ⟨k, rfl⟩ : ∃ m, k = m + 1 := ⟨k - 1, by omega⟩
    obtain rfl : i = n := by omega
    simp only [amount_Split.l0]; rw [if_neg (by omega)]; simp
  | succ d ih =>
    intro k i hd hk
    obtain ⟨k, rfl⟩ : ∃ m, k = m + 1 := ⟨k - 1, by omega⟩
    have hlen : ((parts a n i ++ List.replicate (d + 1) (0 : Int)).length : Int) = n := by simp [parts_length]; omega
    simp only [amount_Split.l0]
    rw [if_pos (by omega), if_neg (by omega), if_pos (by omega), if_pos (by omega), htd, htm, w64 (x := (i : Int) + 1) (by omega) (by omega)]
    have e1 : (parts a n i ++ List.replicate (d + 1) (0 : Int)).set (i : Int).toNat (a / n) = parts a n i ++ (a / n) :: List.replicate d 0 := by
      have := set_mid (parts a n i) 0 (a / n) (List.replicate d 0)
      rw [parts_length] at this
      simpa [List.replicate_succ] using this
    have e2 : (parts a n i ++ (a / n) :: List.replicate d 0).set (i : Int).toNat (a / n + 1) = parts a n i ++ (a / n + 1) :: List.replicate d 0 := by
      have := set_mid (parts a n i) (a / n) (a / n + 1) (List.replicate d 0)
      rw [parts_length] at this
      simpa using this
    have e3 : rd (parts a n i ++ (a / n) :: List.replicate d 0) (i : Int) = a / n := by
      have := rd_mid (parts a n i) (a / n) (List.replicate d 0)
      rwa [parts_length] at this
    rw [e1]
    simp only [Option.bind_some]
    rw [e3, w64 (x := a / n + 1) (by omega) (by omega), e2]
    have hih := ih k (i + 1) (by omega) (by omega)
    rw [parts_succ, List.append_assoc, Int.natCast_add] at hih
    by_cases hlt : (i : Int) < a % n
    · rw [if_pos hlt]
      have : part a n i = a / n + 1 := by unfold part; rw [if_pos hlt]
      rw [this] at hih
      exact hih
    · rw [if_neg hlt]
      have : part a n i = a / n := by unfold part; rw [if_neg hlt]; omega
      rw [this] at hih
      exact hih
theorem split_in (a : Int) (n : Int) (k : Nat) (ha : 0 ≤ a) (ha' : a ≤ 1000000000) (hn : 1 ≤ n) (hn' : n ≤ 64) (hk : 70 ≤ k) :
    amount_Split.f k a n = some (parts a n n.toNat) := by
  obtain ⟨m, rfl⟩ : ∃ m : Nat, n = m := ⟨n.toNat, by omega⟩
  obtain ⟨k, rfl⟩ : ∃ m, k = m + 1 := ⟨k - 1, by omega⟩
  unfold amount_Split.f amount_May.f
  rw [if_pos ha]
  simp only [Option.bind_some, decide_eq_true_eq]
  rw [if_pos ha', if_neg (by omega), decide_eq_false (by omega)]
  simp only [amount_Split.j0]
  rw [if_neg (by simp), if_pos (by omega), if_pos (by omega)]
  have := split_loop a m ha ha' (by omega) (by omega) m k 0 (by omega) (by omega)
  simpa [parts] using this
theorem split_out (a n : Int) (k : Nat) (h : ¬ (0 ≤ a ∧ a ≤ 1000000000 ∧ 1 ≤ n ∧ n ≤ 64)) (hk : 1 ≤ k) : amount_Split.f k a n = some [] := by
  obtain ⟨k, rfl⟩ : ∃ m, k = m + 1 := ⟨k - 1, by omega⟩
  unfold amount_Split.f amount_May.f
  by_cases h1 : a ≥ 0
  · rw [if_pos h1]
    simp only [Option.bind_some, decide_eq_true_eq]
    by_cases h2 : a ≤ 1000000000
    · rw [if_pos h2]
      by_cases h3 : n < 1
      · rw [if_pos h3]; simp [amount_Split.j0]
      · rw [if_neg h3, decide_eq_true (by omega)]; simp [amount_Split.j0]
    · rw [if_neg h2]; simp [amount_Split.j0]
  · rw [if_neg h1]; simp [amount_Split.j0]

theorem part_mono (a n : Int) (i j : Int) (h : i ≤ j) : part a n j ≤ part a n i := by unfold part; split <;> split <;> omega
theorem part_near (a n : Int) (i j : Int) : part a n i - part a n j ≤ 1 := by unfold part; split <;> split <;> omega
theorem part_bounds (a n i : Int) (ha : 0 ≤ a) (ha' : a ≤ 1000000000) (hn : 1 ≤ n) : 0 ≤ part a n i ∧ part a n i ≤ 1000000001 := by
  have := div_bounds a n ha ha' hn
  unfold part; split <;> omega
theorem law_loop (a : Int) (n : Nat) (ha : 0 ≤ a) (ha' : a ≤ 1000000000) (hn : 1 ≤ n) (hn' : n ≤ 64) (d : Nat) : ∀ (k i : Nat), i + d = n → d + 20 < k →
    wharfingerlaw1_AmountSplits.l0 k n (parts a n n) (parts a n n) n i = some true := by
  have hl := parts_length a n n
  have hw1 : wrap64 ((n : Int) - 1) = ((n - 1 : Nat) : Int) := by rw [w64 (by omega) (by omega)]; omega
  have r0 : rd (parts a n n) 0 = part a n 0 := rd_parts a n n 0 (by omega)
  have rl : rd (parts a n n) ((n - 1 : Nat) : Int) = part a n ((n - 1 : Nat) : Int) := rd_parts a n n (n - 1) (by omega)
  induction d with
  | zero =>
    intro k i hd hk
    obtain ⟨k, rfl⟩ : ∃ m, k = m + 1 := ⟨k - 1, by omega⟩
    have b0 := part_bounds a n 0 ha ha' (by omega)
    have b1 := part_bounds a n ((n - 1 : Nat) : Int) ha ha' (by omega)
    have hn1 := part_near a n 0 ((n - 1 : Nat) : Int)
    simp only [wharfingerlaw1_AmountSplits.l0]
    rw [if_neg (by omega), if_pos (by omega), if_pos (by omega), hw1, if_pos (by omega), if_pos (by omega), r0, rl, w64 (by omega) (by omega), if_pos (by omega), awake_k k (by omega)]
    rfl
  | succ d ih =>
    intro k i hd hk
    obtain ⟨k, rfl⟩ : ∃ m, k = m + 1 := ⟨k - 1, by omega⟩
    have ri : rd (parts a n n) (i : Int) = part a n i := rd_parts a n n i (by omega)
    have hm1 := part_mono a n i ((n - 1 : Nat) : Int) (by omega)
    have hm2 := part_mono a n 0 i (by omega)
    have hih := ih k (i + 1) (by omega) (by omega)
    rw [Int.natCast_add] at hih
    simp only [wharfingerlaw1_AmountSplits.l0]
    rw [hl, hw1, if_pos (by omega), if_pos (by omega), if_pos (by omega), if_pos (by omega), if_pos (by omega), ri, rl, r0, if_neg (by omega), if_pos (by omega), if_neg (by omega), w64 (x := (i : Int) + 1) (by omega) (by omega)]
    by_cases h0 : (i : Int) > 0
    · have hw2 : wrap64 ((i : Int) - 1) = ((i - 1 : Nat) : Int) := by rw [w64 (by omega) (by omega)]; omega
      have rp : rd (parts a n n) ((i - 1 : Nat) : Int) = part a n ((i - 1 : Nat) : Int) := rd_parts a n n (i - 1) (by omega)
      have hm3 := part_mono a n ((i - 1 : Nat) : Int) i (by omega)
      rw [if_pos h0, hw2, if_pos (by omega), if_pos (by omega), rp, if_neg (by omega)]
      exact hih
    · rw [if_neg h0]
      exact hih
theorem AmountSplits : wharfingerlaw1_AmountSplits.Pure := by
  intro a n ha hn
  refine ⟨100, ?_⟩
  by_cases h : 0 ≤ a ∧ a ≤ 1000000000 ∧ 1 ≤ n ∧ n ≤ 64
  · obtain ⟨h1, h2, h3, h4⟩ := h
    obtain ⟨m, rfl⟩ : ∃ m : Nat, n = m := ⟨n.toNat, by omega⟩
    unfold wharfingerlaw1_AmountSplits.f
    rw [split_in a m 100 h1 h2 h3 h4 (by omega)]
    simp only [Option.bind_some, Int.toNat_natCast]
    rw [if_neg (by omega), if_neg (by omega), if_neg (by omega), decide_eq_false (by omega)]
    have := law_loop a m h1 h2 (by omega) (by omega) m 99 0 (by omega) (by omega)
    show wharfingerlaw1_AmountSplits.j0 (99 + 1) _ _ _ = _
    simp only [wharfingerlaw1_AmountSplits.j0]
    rw [if_neg (by simp), parts_length]
    exact this
  · unfold wharfingerlaw1_AmountSplits.f
    rw [split_out a n 100 h (by omega)]
    have e : wharfingerlaw1_AmountSplits.j0 100 n [] true = some true := by
      show wharfingerlaw1_AmountSplits.j0 (99 + 1) _ _ _ = _
      simp only [wharfingerlaw1_AmountSplits.j0]
      rw [if_pos trivial, if_pos (by simp), awake_k 99 (by omega)]
      rfl
    simp only [Option.bind_some]
    by_cases g1 : a < 0
    · rw [if_pos g1]; exact e
    · rw [if_neg g1]
      by_cases g2 : a > 1000000000
      · rw [if_pos g2]; exact e
      · rw [if_neg g2]
        by_cases g3 : n < 1
        · rw [if_pos g3]; exact e
        · rw [if_neg g3, decide_eq_true (by omega)]; exact e

end Go.Proofs.Ytacnekeakicdeaa.Pure
