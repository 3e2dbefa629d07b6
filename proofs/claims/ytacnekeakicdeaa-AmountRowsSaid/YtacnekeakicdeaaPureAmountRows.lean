/- For every a, n and every row of at most 200 numbers (longer ones are passed by): amount.Split and amount.Sum answer as the page's. No condition. -/
import Derived.Test.YtacnekeakicdeaaPAmountRowsx2
import Derived.Test.YtacnekeakicdeaaWSized
namespace Go.Proofs.Ytacnekeakicdeaa.Pure
open Go.RowKit Go.Proofs.Ytacnekeakicdeaa.PAmountRows Go.Proofs.YtacnekeakicdeaaW.PrintWords Go.Proofs.YtacnekeakicdeaaW.PrintLast

theorem w64 {x : Int} (h0 : -9223372036854775808 ≤ x) (h : x ≤ 9223372036854775807) : wrap64 x = x := by unfold wrap64; omega

theorem awake_ten : wharfingerlaw1_awake.f 10 = some true := by decide +kernel
theorem awake_k (k : Nat) (h : 10 ≤ k) : wharfingerlaw1_awake.f k = some true := by
  obtain ⟨m, rfl⟩ : ∃ m, k = 10 + m := ⟨k - 10, by omega⟩
  induction m with
  | zero => exact awake_ten
  | succ m ih => exact wharfingerlaw1_awake.mono _ _ (ih (by omega))

def part (a n i : Int) : Int := a / n + (if i < a % n then 1 else 0)
def parts (a n : Int) (i : Nat) : List Int := (List.range i).map fun (j : Nat) => part a n (j : Int)
theorem parts_length (a n : Int) (i : Nat) : (parts a n i).length = i := by simp [parts]
theorem parts_succ (a n : Int) (i : Nat) : parts a n (i + 1) = parts a n i ++ [part a n i] := by simp [parts, List.range_succ]
theorem rd_parts (a n : Int) (m : Nat) (i : Nat) (h : i < m) : rd (parts a n m) (i : Int) = part a n i := by
  simp [rd, parts, List.getD, h]
theorem div_bounds (a n : Int) (ha : 0 ≤ a) (ha' : a ≤ 1000000000) (hn : 1 ≤ n) : 0 ≤ a / n ∧ a / n ≤ 1000000000 := by
  refine ⟨Int.ediv_nonneg ha (by omega), ?_⟩
  have := Int.ediv_le_self n ha
  omega
theorem set_mid (l : List Int) (x v : Int) (r : List Int) : (l ++ x :: r).set l.length v = l ++ v :: r := by
  simp
theorem rd_mid (l : List Int) (x : Int) (r : List Int) : rd (l ++ x :: r) (l.length : Int) = x := by
  simp [rd, List.getD]
theorem split_loop (a : Int) (n : Nat) (ha : 0 ≤ a) (ha' : a ≤ 1000000000) (hn : 1 ≤ n) (hn' : n ≤ 64) (d : Nat) : ∀ (k i : Nat), i + d = n → d < k →
    amount_Split.l0 k a n (parts a n i ++ List.replicate d 0) n i = some (parts a n n) := by
  have hdb := div_bounds a n ha ha' (by omega)
  have htd : wrap64 (Int.tdiv a n) = a / n := by
    rw [Int.tdiv_eq_ediv_of_nonneg ha]; exact w64 (by omega) (by omega)
  have htm : Int.tmod a n = a % n := Int.tmod_eq_emod_of_nonneg ha
  induction d with
  | zero =>
    intro k i hd hk
    obtain ⟨k, rfl⟩ : ∃ m, k = m + 1 := ⟨k - 1, by omega⟩
    obtain rfl : i = n := by omega
    simp only [amount_Split.l0]; rw [if_neg (by omega)]; simp
  | succ d ih =>
    intro k i hd hk
    obtain ⟨k, rfl⟩ : ∃ m, k = m + 1 := ⟨k - 1, by omega⟩
    have hlen : ((parts a n i ++ List.replicate (d + 1) (0 : Int)).length : Int) = n := by simp [parts_length]; omega
    simp only [amount_Split.l0]
    rw [if_pos (by omega), if_neg (by omega), if_pos (by omega), if_pos (by omega), htd, htm, w64 (x := (i : Int) + 1) (by omega) (by omega)]
    have e1 : (parts a n i ++ List.replicate (d + 1) (0 : Int)).set (i : Int).toNat (a / n) = parts a n i ++ (a / n) :: List.replicate d 0 := by
      have := set_mid (parts a n i) 0 (a / n) (List.replicate d 0)
      rw [parts_length] at this
      simpa [List.replicate_succ] using this
    have e2 : (parts a n i ++ (a / n) :: List.replicate d 0).set (i : Int).toNat (a / n + 1) = parts a n i ++ (a / n + 1) :: List.replicate d 0 := by
      have := set_mid (parts a n i) (a / n) (a / n + 1) (List.replicate d 0)
      rw [parts_length] at this
      simpa using this
    have e3 : rd (parts a n i ++ (a / n) :: List.replicate d 0) (i : Int) = a / n := by
      have := rd_mid (parts a n i) (a / n) (List.replicate d 0)
      rwa [parts_length] at this
    rw [e1]
    simp only [Option.bind_some]
    rw [e3, w64 (x := a / n + 1) (by omega) (by omega), e2]
    have hih := ih k (i + 1) (by omega) (by omega)
    rw [parts_succ, List.append_assoc, Int.natCast_add] at hih
    by_cases hlt : (i : Int) < a % n
    · rw [if_pos hlt]
      have : part a n i = a / n + 1 := by unfold part; rw [if_pos hlt]
      rw [this] at hih
      exact hih
    · rw [if_neg hlt]
      have : part a n i = a / n := by unfold part; rw [if_neg hlt]; omega
      rw [this] at hih
      exact hih
theorem split_in (a : Int) (n : Int) (k : Nat) (ha : 0 ≤ a) (ha' : a ≤ 1000000000) (hn : 1 ≤ n) (hn' : n ≤ 64) (hk : 70 ≤ k) :
    amount_Split.f k a n = some (parts a n n.toNat) := by
  obtain ⟨m, rfl⟩ : ∃ m : Nat, n = m := ⟨n.toNat, by omega⟩
  obtain ⟨k, rfl⟩ : ∃ m, k = m + 1 := ⟨k - 1, by omega⟩
  unfold amount_Split.f amount_May.f
  rw [if_pos ha]
  simp only [Option.bind_some, decide_eq_true_eq]
  rw [if_pos ha', if_neg (by omega), decide_eq_false (by omega)]
  simp only [amount_Split.j0]
  rw [if_neg (by simp), if_pos (by omega), if_pos (by omega)]
  have := split_loop a m ha ha' (by omega) (by omega) m k 0 (by omega) (by omega)
  simpa [parts] using this
theorem split_out (a n : Int) (k : Nat) (h : ¬ (0 ≤ a ∧ a ≤ 1000000000 ∧ 1 ≤ n ∧ n ≤ 64)) (hk : 1 ≤ k) : amount_Split.f k a n = some [] := by
  obtain ⟨k, rfl⟩ : ∃ m, k = m + 1 := ⟨k - 1, by omega⟩
  unfold amount_Split.f amount_May.f
  by_cases h1 : a ≥ 0
  · rw [if_pos h1]
    simp only [Option.bind_some, decide_eq_true_eq]
    by_cases h2 : a ≤ 1000000000
    · rw [if_pos h2]
      by_cases h3 : n < 1
      · rw [if_pos h3]; simp [amount_Split.j0]
      · rw [if_neg h3, decide_eq_true (by omega)]; simp [amount_Split.j0]
    · rw [if_neg h2]; simp [amount_Split.j0]
  · rw [if_neg h1]; simp [amount_Split.j0]

def sumF : Int → List Int → Int × Int
  | s, [] => (s, 0)
  | s, x :: r => if 0 ≤ x ∧ x ≤ 1000000000 then (if s + x > 1000000000 then (0, 4) else sumF (s + x) r) else (0, 1)
theorem both_eq (a b : Int) : amount_both.f a b = some (decide (0 ≤ a ∧ a ≤ 1000000000 ∧ 0 ≤ b ∧ b ≤ 1000000000)) := by
  unfold amount_both.f amount_May.f
  by_cases h1 : a ≥ 0
  · rw [if_pos h1]
    simp only [Option.bind_some, decide_eq_true_eq]
    by_cases h2 : a ≤ 1000000000
    · rw [if_pos h2]
      by_cases h3 : b ≥ 0
      · rw [if_pos h3]
        simp only [Option.bind_some]
        congr 1
        by_cases h4 : b ≤ 1000000000
        · rw [decide_eq_true h4, decide_eq_true ⟨h1, h2, h3, h4⟩]
        · rw [decide_eq_false h4, decide_eq_false (fun h => h4 h.2.2.2)]
      · rw [if_neg h3]
        simp only [Option.bind_some]
        rw [decide_eq_false (fun h => h3 h.2.2.1)]
    · rw [if_neg h2, decide_eq_false (fun h => h2 h.2.1)]
  · rw [if_neg h1]
    simp only [Option.bind_some]
    rw [if_neg (by simp), decide_eq_false (fun h => h1 h.1)]
theorem add_eq (s x : Int) (h0 : 0 ≤ s) (h1 : s ≤ 1000000000) : amount_Add.f s x = some (if 0 ≤ x ∧ x ≤ 1000000000 then (if s + x > 1000000000 then (0, 4) else (s + x, 0)) else (0, 1)) := by
  unfold amount_Add.f
  rw [both_eq]
  simp only [Option.bind_some, decide_eq_true_eq]
  rw [w64 (x := 1000000000 - s) (by omega) (by omega)]
  by_cases hx : 0 ≤ x ∧ x ≤ 1000000000
  · rw [if_pos ⟨h0, h1, hx.1, hx.2⟩, if_pos hx]
    by_cases ho : s + x > 1000000000
    · rw [if_pos (by omega), if_pos ho]
    · rw [if_neg (by omega), if_neg ho, w64 (by omega) (by omega)]
  · rw [if_neg (fun h => hx ⟨h.2.2.1, h.2.2.2⟩), if_neg hx]
theorem rd_at (l : List Int) (i : Nat) (h : i < l.length) : rd l (i : Int) = l[i] := by simp [rd, List.getD, h]
theorem sum_loop (l : List Int) (hl : l.length ≤ 1000) (d : Nat) : ∀ (k i : Nat) (s : Int), 0 ≤ s → s ≤ 1000000000 → i + d = l.length → d < k →
    amount_Sum.l0 k s l (l.length : Int) i = some (sumF s (l.drop i)) := by
  induction d with
  | zero =>
    intro k i s h0 h1 hd hk
    obtain ⟨k, rfl⟩ : ∃ m, k = m + 1 := ⟨k - 1, by omega⟩
    simp only [amount_Sum.l0]; rw [if_neg (by omega), List.drop_eq_nil_of_le (by omega)]; rfl
  | succ d ih =>
    intro k i s h0 h1 hd hk
    obtain ⟨k, rfl⟩ : ∃ m, k = m + 1 := ⟨k - 1, by omega⟩
    simp only [amount_Sum.l0]
    rw [if_pos (by omega), if_pos (by omega), if_pos (by omega), rd_at l i (by omega), add_eq s _ h0 h1, List.drop_eq_getElem_cons (by omega), w64 (x := (i : Int) + 1) (by omega) (by omega)]
    simp only [Option.bind_some, sumF]
    by_cases hx : 0 ≤ l[i] ∧ l[i] ≤ 1000000000
    · rw [if_pos hx, if_pos hx]
      by_cases ho : s + l[i] > 1000000000
      · rw [if_pos ho, if_pos ho]; rfl
      · rw [if_neg ho, if_neg ho]
        have := ih k (i + 1) (s + l[i]) (by omega) (by omega) (by omega) (by omega)
        rw [Int.natCast_add] at this
        simpa using this
    · rw [if_neg hx, if_neg hx]; rfl
theorem sum_eq (l : List Int) (hl : l.length ≤ 1000) (k : Nat) (hk : l.length < k) : amount_Sum.f k l = some (sumF 0 l) := by
  have := sum_loop l hl l.length k 0 0 (by omega) (by omega) (by omega) hk
  simpa [amount_Sum.f] using this

theorem refmay_eq (a : Int) : wharfingerref1_May.f a = some (decide (0 ≤ a ∧ a ≤ 1000000000)) := by
  unfold wharfingerref1_May.f
  by_cases h1 : a ≥ 0
  · rw [if_pos h1]
    by_cases h2 : a ≤ 1000000000
    · rw [decide_eq_true h2, decide_eq_true ⟨h1, h2⟩]
    · rw [decide_eq_false h2, decide_eq_false (fun h => h2 h.2)]
  · rw [if_neg h1, decide_eq_false (fun h => h1 h.1)]
theorem refsum_loop (l : List Int) (hl : l.length ≤ 1000) (d : Nat) : ∀ (k i : Nat) (s : Int), 0 ≤ s → s ≤ 1000000000 → i + d = l.length → d < k →
    wharfingerref1_Sum.l0 k s l (l.length : Int) i = some (sumF s (l.drop i)) := by
  induction d with
  | zero =>
    intro k i s h0 h1 hd hk
    obtain ⟨k, rfl⟩ : ∃ m, k = m + 1 := ⟨k - 1, by omega⟩
    simp only [wharfingerref1_Sum.l0]; rw [if_neg (by omega), List.drop_eq_nil_of_le (by omega)]; rfl
  | succ d ih =>
    intro k i s h0 h1 hd hk
    obtain ⟨k, rfl⟩ : ∃ m, k = m + 1 := ⟨k - 1, by omega⟩
    simp only [wharfingerref1_Sum.l0]
    rw [if_pos (by omega), if_pos (by omega), if_pos (by omega), rd_at l i (by omega), refmay_eq, List.drop_eq_getElem_cons (by omega), w64 (x := (i : Int) + 1) (by omega) (by omega)]
    simp only [Option.bind_some, sumF, decide_eq_true_eq]
    by_cases hx : 0 ≤ l[i] ∧ l[i] ≤ 1000000000
    · rw [if_pos hx, if_pos hx, w64 (x := s + l[i]) (by omega) (by omega)]
      by_cases ho : s + l[i] > 1000000000
      · rw [if_pos ho, if_pos ho]
      · rw [if_neg ho, if_neg ho]
        have := ih k (i + 1) (s + l[i]) (by omega) (by omega) (by omega) (by omega)
        rw [Int.natCast_add] at this
        simpa using this
    · rw [if_neg hx, if_neg hx]
theorem refsum_eq (l : List Int) (hl : l.length ≤ 1000) (k : Nat) (hk : l.length < k) : wharfingerref1_Sum.f k l = some (sumF 0 l) := by
  have := refsum_loop l hl l.length k 0 0 (by omega) (by omega) (by omega) hk
  simpa [wharfingerref1_Sum.f] using this
theorem refsplit_loop (a : Int) (n : Nat) (ha : 0 ≤ a) (ha' : a ≤ 1000000000) (hn : 1 ≤ n) (hn' : n ≤ 64) (d : Nat) : ∀ (k i : Nat), i + d = n → d < k →
    wharfingerref1_Split.l0 k a n (parts a n i) n i = some (parts a n n) := by
  have hdb := div_bounds a n ha ha' (by omega)
  have htd : wrap64 (Int.tdiv a n) = a / n := by
    rw [Int.tdiv_eq_ediv_of_nonneg ha]; exact w64 (by omega) (by omega)
  have htm : Int.tmod a n = a % n := Int.tmod_eq_emod_of_nonneg ha
  induction d with
  | zero =>
    intro k i hd hk
    obtain ⟨k, rfl⟩ : ∃ m, k = m + 1 := ⟨k - 1, by omega⟩
    obtain rfl : i = n := by omega
    simp only [wharfingerref1_Split.l0]; rw [if_neg (by omega)]
  | succ d ih =>
    intro k i hd hk
    obtain ⟨k, rfl⟩ : ∃ m, k = m + 1 := ⟨k - 1, by omega⟩
    have hlen : (parts a n i).length = i := parts_length a n i
    simp only [wharfingerref1_Split.l0]
    rw [if_pos (by omega), if_neg (by omega), htd, htm, w64 (x := (i : Int) + 1) (by omega) (by omega), w64 (x := a / n + 1) (by omega) (by omega)]
    have hih := ih k (i + 1) (by omega) (by omega)
    rw [parts_succ, Int.natCast_add] at hih
    by_cases hlt : (i : Int) < a % n
    · rw [if_pos hlt, if_pos (by omega)]
      have : part a n i = a / n + 1 := by unfold part; rw [if_pos hlt]
      rw [this] at hih
      exact hih
    · rw [if_neg hlt, if_pos (by omega)]
      have : part a n i = a / n := by unfold part; rw [if_neg hlt]; omega
      rw [this] at hih
      exact hih
theorem refsplit_in (a : Int) (n : Int) (k : Nat) (ha : 0 ≤ a) (ha' : a ≤ 1000000000) (hn : 1 ≤ n) (hn' : n ≤ 64) (hk : 70 ≤ k) :
    wharfingerref1_Split.f k a n = some (parts a n n.toNat) := by
  obtain ⟨m, rfl⟩ : ∃ m : Nat, n = m := ⟨n.toNat, by omega⟩
  obtain ⟨k, rfl⟩ : ∃ m, k = m + 1 := ⟨k - 1, by omega⟩
  unfold wharfingerref1_Split.f
  rw [refmay_eq, decide_eq_true ⟨ha, ha'⟩]
  simp only [Option.bind_some]
  rw [if_pos trivial, if_neg (by omega), decide_eq_false (by omega)]
  simp only [wharfingerref1_Split.j0]
  rw [if_neg (by simp)]
  have := refsplit_loop a m ha ha' (by omega) (by omega) m k 0 (by omega) (by omega)
  simpa [parts] using this
theorem refsplit_out (a n : Int) (k : Nat) (h : ¬ (0 ≤ a ∧ a ≤ 1000000000 ∧ 1 ≤ n ∧ n ≤ 64)) (hk : 1 ≤ k) : wharfingerref1_Split.f k a n = some [] := by
  obtain ⟨k, rfl⟩ : ∃ m, k = m + 1 := ⟨k - 1, by omega⟩
  unfold wharfingerref1_Split.f
  rw [refmay_eq]
  simp only [Option.bind_some, decide_eq_true_eq]
  by_cases h2 : 0 ≤ a ∧ a ≤ 1000000000
  · rw [if_pos h2]
    by_cases h3 : n < 1
    · rw [if_pos h3]; simp [wharfingerref1_Split.j0]
    · rw [if_neg h3, decide_eq_true (by omega)]; simp [wharfingerref1_Split.j0]
  · rw [if_neg h2]; simp [wharfingerref1_Split.j0]
theorem same_loop (l : List Int) (hl : l.length ≤ 1000) (d : Nat) : ∀ (k i : Nat), i + d = l.length → d < k → wharfingerref1_SameInts.l0 k l l (l.length : Int) i = some true := by
  induction d with
  | zero =>
    intro k i hd hk
    obtain ⟨k, rfl⟩ : ∃ m, k = m + 1 := ⟨k - 1, by omega⟩
    simp only [wharfingerref1_SameInts.l0]; rw [if_neg (by omega)]
  | succ d ih =>
    intro k i hd hk
    obtain ⟨k, rfl⟩ : ∃ m, k = m + 1 := ⟨k - 1, by omega⟩
    simp only [wharfingerref1_SameInts.l0]
    rw [if_pos (by omega), if_pos (by omega), if_pos (by omega), if_pos (by omega), if_pos trivial, w64 (by omega) (by omega)]
    have := ih k (i + 1) (by omega) (by omega)
    rw [Int.natCast_add] at this
    exact this
theorem same_eq (l : List Int) (hl : l.length ≤ 1000) (k : Nat) (hk : l.length < k) : wharfingerref1_SameInts.f k l l = some true := by
  unfold wharfingerref1_SameInts.f
  rw [if_pos rfl]
  exact same_loop l hl l.length k 0 (by omega) hk
theorem AmountRows : wharfingerlaw1_AmountRows.Pure := by
  intro a n l ha hn _ _ _
  refine ⟨1000, ?_⟩
  unfold wharfingerlaw1_AmountRows.f
  rw [awake_k 1000 (by omega)]
  by_cases hl : (l.length : Int) > 200
  · rw [if_pos hl]; rfl
  · rw [if_neg hl, sum_eq l (by omega) 1000 (by omega), refsum_eq l (by omega) 1000 (by omega)]
    simp only [Option.bind_some]
    by_cases h : 0 ≤ a ∧ a ≤ 1000000000 ∧ 1 ≤ n ∧ n ≤ 64
    · obtain ⟨h1, h2, h3, h4⟩ := h
      rw [split_in a n 1000 h1 h2 h3 h4 (by omega), refsplit_in a n 1000 h1 h2 h3 h4 (by omega)]
      simp only [Option.bind_some]
      rw [same_eq _ (by rw [parts_length]; omega) 1000 (by rw [parts_length]; omega)]
      simp
    · rw [split_out a n 1000 h (by omega), refsplit_out a n 1000 h (by omega)]
      simp only [Option.bind_some]
      rw [same_eq _ (by simp) 1000 (by simp)]
      simp

end Go.Proofs.Ytacnekeakicdeaa.Pure
namespace Go.Proofs.Ytacnekeakicdeaa.PrintWords
open Go.ChangeShapes Go.WideShapes
/-- The row names this lemma of the words under this name. -/
theorem sized_ints {H : Type} {enc : TypeId × Value → H} {P : Program} {W : World} {base : Nat} {spare : Nat → Bool} {held : Bool} {t e : TypeId} {k : IntKind} {a : Option Addr} {len cap : Nat} {d : DataW H} {ps : List MemPlace} {ts : List TypeId} {ds : List (DataW H)} {j : Nat}
    (hsz : (DataW.weightsEach P ts ds).all (· ≤ reachBytes) = true) (ht : ts[j]? = some t) (hd : ds[j]? = some d) (hu : P.underlying t = some (.slice e)) (he : P.underlying e = some (.int k)) (hc : P.cellsOf e = 1) {B : Nat} (hB : P.bytesOf e = B)
    (h : DataW.Trod enc P W base spare held t (.slice a len cap) d ps) : len * B ≤ 140737488351232 :=
  Go.Proofs.YtacnekeakicdeaaW.PrintWords.sized_ints hsz ht hd hu he hc hB h
end Go.Proofs.Ytacnekeakicdeaa.PrintWords
namespace Go.Proofs.Ytacnekeakicdeaa.Pure

end Go.Proofs.Ytacnekeakicdeaa.Pure
