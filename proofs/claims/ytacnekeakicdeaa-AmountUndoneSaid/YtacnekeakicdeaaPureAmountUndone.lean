/- For every a, b and n, brought into range by the law: what is added is taken away again, what is split is summed, a part and the rest of it are the whole. No condition. -/
import Derived.Test.YtacnekeakicdeaaPAmountUndonex2
namespace Go.Proofs.Ytacnekeakicdeaa.Pure
open Go.RowKit Go.Proofs.Ytacnekeakicdeaa.PAmountUndone Go.Proofs.YtacnekeakicdeaaW.PrintWords Go.Proofs.YtacnekeakicdeaaW.PrintLast

theorem w64 {x : Int} (h0 : -9223372036854775808 ≤ x) (h : x ≤ 9223372036854775807) : wrap64 x = x := by unfold wrap64; omega

theorem awake_ten : wharfingerlaw1_awake.f 10 = some true := by decide +kernel
theorem awake_k (k : Nat) (h : 10 ≤ k) : wharfingerlaw1_awake.f k = some true := by
  obtain ⟨m, rfl⟩ : ∃ m, k = 10 + m := ⟨k - 10, by omega⟩
  induction m with
  | zero => exact awake_ten
  | succ m ih => exact wharfingerlaw1_awake.mono _ _ (ih (by omega))

def part (a n i : Int) : Int := a / n + (if i < a % n then 1 else 0)
def parts (a n : Int) (i : Nat) : List Int := (List.range i).map fun (j : Nat) => part a n (j : Int)
theorem parts_length (a n : Int) (i : Nat) : (parts a n i).length = i := by simp [parts]
theorem parts_succ (a n : Int) (i : Nat) : parts a n (i + 1) = parts a n i ++ [part a n i] := by simp [parts, List.range_succ]
theorem rd_parts (a n : Int) (m : Nat) (i : Nat) (h : i < m) : rd (parts a n m) (i : Int) = part a n i := by
  simp [rd, parts, List.getD, h]
theorem div_bounds (a n : Int) (ha : 0 ≤ a) (ha' : a ≤ 1000000000) (hn : 1 ≤ n) : 0 ≤ a / n ∧ a / n ≤ 1000000000 := by
  refine ⟨Int.ediv_nonneg ha (by omega), ?_⟩
  have := Int.ediv_le_self n ha
  omega
theorem set_mid (l : List Int) (x v : Int) (r : List Int) : (l ++ x :: r).set l.length v = l ++ v :: r := by
  simp
theorem rd_mid (l : List Int) (x : Int) (r : List Int) : rd (l ++ x :: r) (l.length : Int) = x := by
  simp [rd, List.getD]
theorem split_loop (a : Int) (n : Nat) (ha : 0 ≤ a) (ha' : a ≤ 1000000000) (hn : 1 ≤ n) (hn' : n ≤ 64) (d : Nat) : ∀ (k i : Nat), i + d = n → d < k →
    amount_Split.l0 k a n (parts a n i ++ List.replicate d 0) n i = some (parts a n n) := by
  have hdb := div_bounds a n ha ha' (by omega)
  have htd : wrap64 (Int.tdiv a n) = a / n := by
    rw [Int.tdiv_eq_ediv_of_nonneg ha]; exact w64 (by omega) (by omega)
  have htm : Int.tmod a n = a % n := Int.tmod_eq_emod_of_nonneg ha
  induction d with
  | zero =>
    intro k i hd hk
    obtain ⟨k, rfl⟩ : ∃ m, k = m + 1 := ⟨k - 1, by omega⟩
    obtain rfl : i = n := by omega
    simp only [amount_Split.l0]; rw [if_neg (by omega)]; simp
  | succ d ih =>
    intro k i hd hk
    obtain ⟨k, rfl⟩ : ∃ m, k = m + 1 := ⟨k - 1, by omega⟩
    have hlen : ((parts a n i ++ List.replicate (d + 1) (0 : Int)).length : Int) = n := by simp [parts_length]; omega
    simp only [amount_Split.l0]
    rw [if_pos (by omega), if_neg (by omega), if_pos (by omega), if_pos (by omega), htd, htm, w64 (x := (i : Int) + 1) (by omega) (by omega)]
    have e1 : (parts a n i ++ List.replicate (d + 1) (0 : Int)).set (i : Int).toNat (a / n) = parts a n i ++ (a / n) :: List.replicate d 0 := by
      have := set_mid (parts a n i) 0 (a / n) (List.replicate d 0)
      rw [parts_length] at this
      simpa [List.replicate_succ] using this
    have e2 : (parts a n i ++ (a / n) :: List.replicate d 0).set (i : Int).toNat (a / n + 1) = parts a n i ++ (a / n + 1) :: List.replicate d 0 := by
      have := set_mid (parts a n i) (a / n) (a / n + 1) (List.replicate d 0)
      rw [parts_length] at this
      simpa using this
    have e3 : rd (parts a n i ++ (a / n) :: List.replicate d 0) (i : Int) = a / n := by
      have := rd_mid (parts a n i) (a / n) (List.replicate d 0)
      rwa [parts_length] at this
    rw [e1]
    simp only [Option.bind_some]
    rw [e3, w64 (x := a / n + 1) (by omega) (by omega), e2]
    have hih := ih k (i + 1) (by omega) (by omega)
    rw [parts_succ, List.append_assoc, Int.natCast_add] at hih
    by_cases hlt : (i : Int) < a % n
    · rw [if_pos hlt]
      have : part a n i = a / n + 1 := by unfold part; rw [if_pos hlt]
      rw [this] at hih
      exact hih
    · rw [if_neg hlt]
      have : part a n i = a / n := by unfold part; rw [if_neg hlt]; omega
      rw [this] at hih
      exact hih
theorem split_in (a : Int) (n : Int) (k : Nat) (ha : 0 ≤ a) (ha' : a ≤ 1000000000) (hn : 1 ≤ n) (hn' : n ≤ 64) (hk : 70 ≤ k) :
    amount_Split.f k a n = some (parts a n n.toNat) := by
  obtain ⟨m, rfl⟩ : ∃ m : Nat, n = m := ⟨n.toNat, by omega⟩
  obtain ⟨k, rfl⟩ : ∃ m, k = m + 1 := ⟨k - 1, by omega⟩
  unfold amount_Split.f amount_May.f
  rw [if_pos ha]
  simp only [Option.bind_some, decide_eq_true_eq]
  rw [if_pos ha', if_neg (by omega), decide_eq_false (by omega)]
  simp only [amount_Split.j0]
  rw [if_neg (by simp), if_pos (by omega), if_pos (by omega)]
  have := split_loop a m ha ha' (by omega) (by omega) m k 0 (by omega) (by omega)
  simpa [parts] using this
theorem split_out (a n : Int) (k : Nat) (h : ¬ (0 ≤ a ∧ a ≤ 1000000000 ∧ 1 ≤ n ∧ n ≤ 64)) (hk : 1 ≤ k) : amount_Split.f k a n = some [] := by
  obtain ⟨k, rfl⟩ : ∃ m, k = m + 1 := ⟨k - 1, by omega⟩
  unfold amount_Split.f amount_May.f
  by_cases h1 : a ≥ 0
  · rw [if_pos h1]
    simp only [Option.bind_some, decide_eq_true_eq]
    by_cases h2 : a ≤ 1000000000
    · rw [if_pos h2]
      by_cases h3 : n < 1
      · rw [if_pos h3]; simp [amount_Split.j0]
      · rw [if_neg h3, decide_eq_true (by omega)]; simp [amount_Split.j0]
    · rw [if_neg h2]; simp [amount_Split.j0]
  · rw [if_neg h1]; simp [amount_Split.j0]

def sumF : Int → List Int → Int × Int
  | s, [] => (s, 0)
  | s, x :: r => if 0 ≤ x ∧ x ≤ 1000000000 then (if s + x > 1000000000 then (0, 4) else sumF (s + x) r) else (0, 1)
theorem both_eq (a b : Int) : amount_both.f a b = some (decide (0 ≤ a ∧ a ≤ 1000000000 ∧ 0 ≤ b ∧ b ≤ 1000000000)) := by
  unfold amount_both.f amount_May.f
  by_cases h1 : a ≥ 0
  · rw [if_pos h1]
    simp only [Option.bind_some, decide_eq_true_eq]
    by_cases h2 : a ≤ 1000000000
    · rw [if_pos h2]
      by_cases h3 : b ≥ 0
      · rw [if_pos h3]
        simp only [Option.bind_some]
        congr 1
        by_cases h4 : b ≤ 1000000000
        · rw [decide_eq_true h4, decide_eq_true ⟨h1, h2, h3, h4⟩]
        · rw [decide_eq_false h4, decide_eq_false (fun h => h4 h.2.2.2)]
      · rw [if_neg h3]
        simp only [Option.bind_some]
        rw [decide_eq_false (fun h => h3 h.2.2.1)]
    · rw [if_neg h2, decide_eq_false (fun h => h2 h.2.1)]
  · rw [if_neg h1]
    simp only [Option.bind_some]
    rw [if_neg (by simp), decide_eq_false (fun h => h1 h.1)]
theorem add_eq (s x : Int) (h0 : 0 ≤ s) (h1 : s ≤ 1000000000) : amount_Add.f s x = some (if 0 ≤ x ∧ x ≤ 1000000000 then (if s + x > 1000000000 then (0, 4) else (s + x, 0)) else (0, 1)) := by
  unfold amount_Add.f
  rw [both_eq]
  simp only [Option.bind_some, decide_eq_true_eq]
  rw [w64 (x := 1000000000 - s) (by omega) (by omega)]
  by_cases hx : 0 ≤ x ∧ x ≤ 1000000000
  · rw [if_pos ⟨h0, h1, hx.1, hx.2⟩, if_pos hx]
    by_cases ho : s + x > 1000000000
    · rw [if_pos (by omega), if_pos ho]
    · rw [if_neg (by omega), if_neg ho, w64 (by omega) (by omega)]
  · rw [if_neg (fun h => hx ⟨h.2.2.1, h.2.2.2⟩), if_neg hx]
theorem rd_at (l : List Int) (i : Nat) (h : i < l.length) : rd l (i : Int) = l[i] := by simp [rd, List.getD, h]
theorem sum_loop (l : List Int) (hl : l.length ≤ 1000) (d : Nat) : ∀ (k i : Nat) (s : Int), 0 ≤ s → s ≤ 1000000000 → i + d = l.length → d < k →
    amount_Sum.l0 k s l (l.length : Int) i = some (sumF s (l.drop i)) := by
  induction d with
  | zero =>
    intro k i s h0 h1 hd hk
    obtain ⟨k, rfl⟩ : ∃ m, k = m + 1 := ⟨k - 1, by omega⟩
    simp only [amount_Sum.l0]; rw [if_neg (by omega), List.drop_eq_nil_of_le (by omega)]; rfl
  | succ d ih =>
    intro k i s h0 h1 hd hk
    obtain ⟨k, rfl⟩ : ∃ m, k = m + 1 := ⟨k - 1, by omega⟩
    simp only [amount_Sum.l0]
    rw [if_pos (by omega), if_pos (by omega), if_pos (by omega), rd_at l i (by omega), add_eq s _ h0 h1, List.drop_eq_getElem_cons (by omega), w64 (x := (i : Int) + 1) (by omega) (by omega)]
    simp only [Option.bind_some, sumF]
    by_cases hx : 0 ≤ l[i] ∧ l[i] ≤ 1000000000
    · rw [if_pos hx, if_pos hx]
      by_cases ho : s + l[i] > 1000000000
      · rw [if_pos ho, if_pos ho]; rfl
      · rw [if_neg ho, if_neg ho]
        have := ih k (i + 1) (s + l[i]) (by omega) (by omega) (by omega) (by omega)
        rw [Int.natCast_add] at this
        simpa using this
    · rw [if_neg hx, if_neg hx]; rfl
theorem sum_eq (l : List Int) (hl : l.length ≤ 1000) (k : Nat) (hk : l.length < k) : amount_Sum.f k l = some (sumF 0 l) := by
  have := sum_loop l hl l.length k 0 0 (by omega) (by omega) (by omega) hk
  simpa [amount_Sum.f] using this

theorem modb (a m : Int) (h0 : 0 < m) (h1 : m ≤ 9223372036854775807) : 0 ≤ wrap64 (Int.tmod (IntKind.u64.wrap a) m) ∧ wrap64 (Int.tmod (IntKind.u64.wrap a) m) < m := by
  have hu : 0 ≤ IntKind.u64.wrap a := by
    unfold IntKind.wrap
    simp [IntKind.signed, IntKind.bits]
    exact Int.emod_nonneg _ (by decide)
  have ht : Int.tmod (IntKind.u64.wrap a) m = IntKind.u64.wrap a % m := Int.tmod_eq_emod_of_nonneg hu
  have h2 := Int.emod_nonneg (IntKind.u64.wrap a) (show m ≠ 0 by omega)
  have h3 := Int.emod_lt_of_pos (IntKind.u64.wrap a) h0
  rw [ht, w64 (by omega) (by omega)]
  exact ⟨h2, h3⟩
theorem may_eq (a : Int) : amount_May.f a = some (decide (0 ≤ a ∧ a ≤ 1000000000)) := by
  unfold amount_May.f
  by_cases h1 : a ≥ 0
  · rw [if_pos h1]
    by_cases h2 : a ≤ 1000000000
    · rw [decide_eq_true h2, decide_eq_true ⟨h1, h2⟩]
    · rw [decide_eq_false h2, decide_eq_false (fun h => h2 h.2)]
  · rw [if_neg h1, decide_eq_false (fun h => h1 h.1)]
theorem sub_eq (s x : Int) (h0 : 0 ≤ s) (h1 : s ≤ 1000000000) (h2 : 0 ≤ x) (h3 : x ≤ s) : amount_Sub.f s x = some (s - x, 0) := by
  unfold amount_Sub.f
  rw [both_eq, decide_eq_true ⟨h0, h1, h2, by omega⟩]
  simp only [Option.bind_some]
  rw [if_pos trivial, if_neg (by omega), w64 (by omega) (by omega)]
theorem part_eq (a n b : Int) (h0 : 0 ≤ a) (h1 : a ≤ 1000000000) (h2 : 0 ≤ n) (h3 : n ≤ b) (h4 : 1 ≤ b) (h5 : b ≤ 1000000000) : amount_Part.f a n b = some (a * n / b, 0) := by
  unfold amount_Part.f
  rw [both_eq, decide_eq_true ⟨h0, h1, h2, by omega⟩]
  simp only [Option.bind_some]
  rw [may_eq, decide_eq_true ⟨by omega, h5⟩, if_pos trivial]
  simp only [Option.bind_some]
  have hm0 : 0 ≤ a * n := Int.mul_nonneg h0 h2
  have hm1 : a * n ≤ 1000000000 * 1000000000 := Int.mul_le_mul h1 (by omega) h2 (by omega)
  have hd0 : 0 ≤ a * n / b := Int.ediv_nonneg hm0 (by omega)
  have hd1 : a * n / b ≤ a * n := Int.ediv_le_self b hm0
  rw [if_pos trivial, if_neg (by omega), if_neg (by omega), w64 (x := a * n) (by omega) (by omega), Int.tdiv_eq_ediv_of_nonneg hm0, w64 (by omega) (by omega)]
theorem sum_parts (a : Int) (n : Nat) (ha : 0 ≤ a) (ha' : a ≤ 1000000000) (hn : 1 ≤ n) (d : Nat) : ∀ i, i + d = n → ∀ s : Int, s = i * (a / n) + min (i : Int) (a % n) →
    sumF s ((parts a n n).drop i) = (a, 0) := by
  have h1 : a % n + n * (a / n) = a := Int.emod_add_mul_ediv a n
  have h2 := Int.emod_lt_of_pos a (show (0 : Int) < n by omega)
  have h3 := Int.emod_nonneg a (show (n : Int) ≠ 0 by omega)
  have hdb := div_bounds a n ha ha' (by omega)
  induction d with
  | zero =>
    intro i hi s hs
    obtain rfl : i = n := by omega
    rw [List.drop_eq_nil_of_le (by rw [parts_length]; omega)]
    simp only [sumF]
    rw [hs, Int.min_eq_right (by omega)]
    congr 1
    omega
  | succ d ih =>
    intro i hi s hs
    have hlt : i < (parts a n n).length := by rw [parts_length]; omega
    have hget : (parts a n n)[i] = part a n i := by
      have := rd_parts a n n i (by omega)
      simpa [rd, List.getD, hlt] using this
    rw [List.drop_eq_getElem_cons hlt, hget]
    have hp : 0 ≤ part a n i ∧ part a n i ≤ 1000000001 := by unfold part; split <;> omega
    have hs' : s + part a n i = ((i + 1 : Nat) : Int) * (a / n) + min ((i + 1 : Nat) : Int) (a % n) := by
      have e : ((i + 1 : Nat) : Int) * (a / n) = i * (a / n) + a / n := by rw [Int.natCast_add, Int.add_mul]; simp
      rw [e, hs]
      unfold part
      split <;> omega
    have hle : ((i + 1 : Nat) : Int) * (a / n) ≤ n * (a / n) := Int.mul_le_mul_of_nonneg_right (by omega) hdb.1
    have hsn : 0 ≤ (i : Int) * (a / n) := Int.mul_nonneg (by omega) hdb.1
    have hpa : s + part a n i ≤ a := by rw [hs']; omega
    have hs0 : 0 ≤ s := by rw [hs]; omega
    have hih := ih (i + 1) (by omega) (s + part a n i) hs'
    have c1 : 0 ≤ part a n i ∧ part a n i ≤ 1000000000 := by omega
    have c2 : ¬ s + part a n i > 1000000000 := by omega
    simp only [sumF, c1, c2, and_self, if_true, if_false]
    exact hih
theorem floors (a x b : Int) (hb : 1 ≤ b) : a * x / b + a * (b - x) / b ≤ a ∧ a * x / b + a * (b - x) / b ≥ a - 1 := by
  have h1 := Int.emod_add_mul_ediv (a * x) b
  have h2 := Int.emod_add_mul_ediv (a * (b - x)) b
  have h3 := Int.emod_nonneg (a * x) (show b ≠ 0 by omega)
  have h4 := Int.emod_nonneg (a * (b - x)) (show b ≠ 0 by omega)
  have h5 := Int.emod_lt_of_pos (a * x) (show 0 < b by omega)
  have h6 := Int.emod_lt_of_pos (a * (b - x)) (show 0 < b by omega)
  have h7 : a * x + a * (b - x) = b * a := by rw [← Int.mul_add, Int.mul_comm b a]; congr 1; omega
  generalize a * x / b = p at *
  generalize a * (b - x) / b = q at *
  have e1 : b * (p + q) ≤ b * a := by rw [Int.mul_add]; omega
  have e2 : b * a < b * (p + q + 2) := by rw [Int.mul_add, Int.mul_add]; omega
  have f1 := Int.le_of_mul_le_mul_left e1 (by omega)
  have f2 := Int.lt_of_mul_lt_mul_left e2 (by omega)
  omega
theorem undone_j0 (a b n : Int) (ha : 0 ≤ a) (ha' : a ≤ 1000000000) (hb : 0 ≤ b) (hb' : b ≤ 1000000000) (hn : 1 ≤ n) (hn' : n ≤ 64) (k : Nat) (hk : 200 ≤ k) :
    wharfingerlaw1_AmountUndone.j0 k a b n = some true := by
  obtain ⟨k, rfl⟩ : ∃ m, k = m + 1 := ⟨k - 1, by omega⟩
  obtain ⟨k, rfl⟩ : ∃ m, k = m + 1 := ⟨k - 1, by omega⟩
  have hlen : (parts a n n.toNat).length = n.toNat := parts_length _ _ _
  have hsum : sumF 0 (parts a n n.toNat) = (a, 0) := by
    have := sum_parts a n.toNat ha ha' (by omega) n.toNat 0 (by omega) 0 (by rw [Int.toNat_of_nonneg (by omega)]; have := Int.emod_nonneg a (show n ≠ 0 by omega); simp; omega)
    rw [Int.toNat_of_nonneg (by omega)] at this
    simpa using this
  simp only [wharfingerlaw1_AmountUndone.j0]
  rw [split_in a n _ ha ha' hn hn' (by omega)]
  simp only [Option.bind_some]
  rw [sum_eq _ (by omega) _ (by omega), hsum]
  simp only [Option.bind_some]
  have e1 : mn n b = if n ≤ b then n else b := by unfold mn; split <;> split <;> omega
  have e2 : mx b 1 = if 1 ≤ b then b else 1 := by unfold mx; split <;> split <;> omega
  have hp : amount_Part.f a (mn n b) (mx b 1) = some (a * (mn n b) / (mx b 1), 0) :=
    part_eq a _ _ ha ha' (by rw [e1]; split <;> omega) (by rw [e1, e2]; split <;> split <;> omega) (by rw [e2]; split <;> omega) (by rw [e2]; split <;> omega)
  rw [hp]
  simp only [Option.bind_some]
  have haw := awake_k k (by omega)
  by_cases h0 : b = 0
  · rw [if_pos h0]
    simp only [wharfingerlaw1_AmountUndone.j1, if_true, haw, Option.bind_some]
  · rw [if_neg h0]
    by_cases h1 : n > b
    · rw [decide_eq_true h1]
      simp only [wharfingerlaw1_AmountUndone.j1, if_true, haw, Option.bind_some]
    · rw [decide_eq_false h1]
      have e3 : mn n b = n := by rw [e1, if_pos (by omega)]
      have e4 : mx b 1 = b := by rw [e2, if_pos (by omega)]
      have hf := floors a n b (by omega)
      have b1 : 0 ≤ a * n / b := Int.ediv_nonneg (Int.mul_nonneg ha (by omega)) (by omega)
      have b2 : 0 ≤ a * (b - n) / b := Int.ediv_nonneg (Int.mul_nonneg ha (by omega)) (by omega)
      rw [e3, e4]
      simp only [wharfingerlaw1_AmountUndone.j1, if_true, haw, Option.bind_some]
      rw [w64 (x := b - n) (by omega) (by omega), part_eq a (b - n) b ha ha' (by omega) (by omega) (by omega) (by omega)]
      simp only [Option.bind_some, if_true]
      rw [w64 (x := a * n / b + a * (b - n) / b) (by omega) (by omega), w64 (x := a - 1) (by omega) (by omega), if_neg (by simp), if_pos hf.1, if_pos hf.2]
theorem AmountUndone : wharfingerlaw1_AmountUndone.Pure := by
  intro a b n _ _ _
  refine ⟨1000, ?_⟩
  unfold wharfingerlaw1_AmountUndone.f
  obtain ⟨a0, a1⟩ := modb a 1000000001 (by omega) (by omega)
  obtain ⟨b0, b1⟩ := modb b 1000000001 (by omega) (by omega)
  obtain ⟨n0, n1⟩ := modb n 64 (by omega) (by omega)
  generalize wrap64 (Int.tmod (IntKind.u64.wrap a) 1000000001) = A at *
  generalize wrap64 (Int.tmod (IntKind.u64.wrap b) 1000000001) = B at *
  generalize wrap64 (Int.tmod (IntKind.u64.wrap n) 64) = M at *
  have hj := undone_j0 A B (1 + M) a0 (by omega) b0 (by omega) (by omega) (by omega) 1000 (by omega)
  rw [w64 (x := 1 + M) (by omega) (by omega), w64 (x := 1000000000 - B) (by omega) (by omega), add_eq A B a0 (by omega), hj]
  have c : 0 ≤ B ∧ B ≤ 1000000000 := by omega
  by_cases ho : A + B > 1000000000
  · have h4 : ¬ A ≤ 1000000000 - B := by omega
    simp [c, ho, h4]
  · have h4 : ¬ A + B < A := by omega
    have h5 : ¬ A + B < B := by omega
    have hs := sub_eq (A + B) B (by omega) (by omega) b0 (by omega)
    simp only [c, ho, and_self, if_true, if_false, Option.bind_some, hs]
    rw [if_pos (by omega), if_neg h4, if_neg h5]

end Go.Proofs.Ytacnekeakicdeaa.Pure
