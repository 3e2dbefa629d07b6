/- For every two rows of together at most 100 numbers (longer ones are passed by): the sum of one behind the other is that of both sums, where it is not over. No condition. -/
import Derived.Test.YtacnekeakicdeaaPAmountSumsx2
import Derived.Test.YtacnekeakicdeaaWSized
namespace Go.Proofs.Ytacnekeakicdeaa.Pure
open Go.RowKit Go.Proofs.Ytacnekeakicdeaa.PAmountSums Go.Proofs.YtacnekeakicdeaaW.PrintWords Go.Proofs.YtacnekeakicdeaaW.PrintLast

theorem w64 {x : Int} (h0 : -9223372036854775808 ≤ x) (h : x ≤ 9223372036854775807) : wrap64 x = x := by unfold wrap64; omega

theorem awake_ten : wharfingerlaw1_awake.f 10 = some true := by decide +kernel
theorem awake_k (k : Nat) (h : 10 ≤ k) : wharfingerlaw1_awake.f k = some true := by
  obtain ⟨m, rfl⟩ : ∃ m, k = 10 + m := ⟨k - 10, by omega⟩
  induction m with
  | zero => exact awake_ten
  | succ m ih => exact wharfingerlaw1_awake.mono _ _ (ih (by omega))

def sumF : Int → List Int → Int × Int
  | s, [] => (s, 0)
  | s, x :: r => if 0 ≤ x ∧ x ≤ 1000000000 then (if s + x > 1000000000 then (0, 4) else sumF (s + x) r) else (0, 1)
theorem both_eq (a b : Int) : amount_both.f a b = some (decide (0 ≤ a ∧ a ≤ 1000000000 ∧ 0 ≤ b ∧ b ≤ 1000000000)) := by
  unfold amount_both.f amount_May.f
  by_cases h1 : a ≥ 0
  · rw [if_pos h1]
    simp only [Option.bind_some, decide_eq_true_eq]
    by_cases h2 : a ≤ 1000000000
    · rw [if_pos h2]
      by_cases h3 : b ≥ 0
      · rw [if_pos h3]
        simp only [Option.bind_some]
        congr 1
        by_cases h4 : b ≤ 1000000000
        · rw [decide_eq_true h4, decide_eq_true ⟨h1, h2, h3, h4⟩]
        · rw [decide_eq_false h4, decide_eq_false (fun h => h4 h.2.2.2)]
      · rw [if_neg h3]
        simp only [Option.bind_some]
        rw [decide_eq_false (fun h => h3 h.2.2.1)]
    · rw [if_neg h2, decide_eq_false (fun h => h2 h.2.1)]
  · rw [if_neg h1]
    simp only [Option.bind_some]
    rw [if_neg (by simp), decide_eq_false (fun h => h1 h.1)]
theorem add_eq (s x : Int) (h0 : 0 ≤ s) (h1 : s ≤ 1000000000) : amount_Add.f s x = some (if 0 ≤ x ∧ x ≤ 1000000000 then (if s + x > 1000000000 then (0, 4) else (s + x, 0)) else (0, 1)) := by
  unfold amount_Add.f
  rw [both_eq]
  simp only [Option.bind_some, decide_eq_true_eq]
  rw [w64 (x := 1000000000 - s) (by omega) (by omega)]
  by_cases hx : 0 ≤ x ∧ x ≤ 1000000000
  · rw [if_pos ⟨h0, h1, hx.1, hx.2⟩, if_pos hx]
    by_cases ho : s + x > 1000000000
    · rw [if_pos (by omega), if_pos ho]
    · rw [if_neg (by omega), if_neg ho, w64 (by omega) (by omega)]
  · rw [if_neg (fun h => hx ⟨h.2.2.1, h.2.2.2⟩), if_neg hx]
theorem rd_at (l : List Int) (i : Nat) (h : i < l.length) : rd l (i : Int) = l[i] := by simp [rd, List.getD, h]
theorem sum_loop (l : List Int) (hl : l.length ≤ 1000) (d : Nat) : ∀ (k i : Nat) (s : Int), 0 ≤ s → s ≤ 1000000000 → i + d = l.length → d < k →
    amount_Sum.l0 k s l (l.length : Int) i = some (sumF s (l.drop i)) := by
  induction d with
  | zero =>
    intro k i s h0 h1 hd hk
    obtain ⟨k, rfl⟩ : ∃ m, k = m + 1 := ⟨k - 1, by omega⟩
    simp only [amount_Sum.l0]; rw [if_neg (by omega), List.drop_eq_nil_of_le (by omega)]; rfl
  | succ d ih =>
    intro k i s h0 h1 hd hk
    obtain ⟨k, rfl⟩ : ∃ m, k = m + 1 := ⟨k - 1, by omega⟩
    simp only [amount_Sum.l0]
    rw [if_pos (by omega), if_pos (by omega), if_pos (by omega), rd_at l i (by omega), add_eq s _ h0 h1, List.drop_eq_getElem_cons (by omega), w64 (x := (i : Int) + 1) (by omega) (by omega)]
    simp only [Option.bind_some, sumF]
    by_cases hx : 0 ≤ l[i] ∧ l[i] ≤ 1000000000
    · rw [if_pos hx, if_pos hx]
      by_cases ho : s + l[i] > 1000000000
      · rw [if_pos ho, if_pos ho]; rfl
      · rw [if_neg ho, if_neg ho]
        have := ih k (i + 1) (s + l[i]) (by omega) (by omega) (by omega) (by omega)
        rw [Int.natCast_add] at this
        simpa using this
    · rw [if_neg hx, if_neg hx]; rfl
theorem sum_eq (l : List Int) (hl : l.length ≤ 1000) (k : Nat) (hk : l.length < k) : amount_Sum.f k l = some (sumF 0 l) := by
  have := sum_loop l hl l.length k 0 0 (by omega) (by omega) (by omega) hk
  simpa [amount_Sum.f] using this

theorem sumF_append (l m : List Int) : ∀ s, sumF s (l ++ m) = if (sumF s l).2 = 0 then sumF (sumF s l).1 m else sumF s l := by
  induction l with
  | nil => intro s; simp [sumF]
  | cons x r ih =>
    intro s
    by_cases hx : 0 ≤ x ∧ x ≤ 1000000000
    · by_cases ho : s + x > 1000000000
      · simp [sumF, hx, ho]
      · simp only [List.cons_append, sumF, hx, ho, and_self, if_true, if_false, ih]
    · simp [sumF, hx]
theorem sumF_nil (s : Int) : sumF s [] = (s, 0) := rfl
theorem sumF_ok (s x : Int) (r : List Int) (hx : 0 ≤ x ∧ x ≤ 1000000000) (ho : ¬ s + x > 1000000000) : sumF s (x :: r) = sumF (s + x) r := by simp only [sumF, hx, ho, and_self, if_true, if_false]
theorem sumF_over (s x : Int) (r : List Int) (hx : 0 ≤ x ∧ x ≤ 1000000000) (ho : s + x > 1000000000) : sumF s (x :: r) = (0, 4) := by simp only [sumF, hx, ho, and_self, if_true]
theorem sumF_bad (s x : Int) (r : List Int) (hx : ¬ (0 ≤ x ∧ x ≤ 1000000000)) : sumF s (x :: r) = (0, 1) := by simp only [sumF, hx, if_false]
theorem sumF_range (l : List Int) : ∀ s, 0 ≤ s → s ≤ 1000000000 → 0 ≤ (sumF s l).1 ∧ (sumF s l).1 ≤ 1000000000 ∧ ((sumF s l).2 = 0 ∨ sumF s l = (0, 1) ∨ sumF s l = (0, 4)) := by
  induction l with
  | nil => intro s h0 h1; exact ⟨h0, h1, Or.inl rfl⟩
  | cons x r ih =>
    intro s h0 h1
    by_cases hx : 0 ≤ x ∧ x ≤ 1000000000
    · by_cases ho : s + x > 1000000000
      · simp only [sumF_over s x r hx ho]; simp
      · simp only [sumF_ok s x r hx ho]; exact ih _ (by omega) (by omega)
    · simp only [sumF_bad s x r hx]; simp
theorem sumF_ge (r : List Int) : ∀ (s : Int), (sumF s r).2 = 0 → s ≤ (sumF s r).1 := by
  induction r with
  | nil => intro s _; exact Int.le_refl _
  | cons y q ih =>
    intro s
    by_cases hy : 0 ≤ y ∧ y ≤ 1000000000
    · by_cases hz : s + y > 1000000000
      · simp only [sumF_over s y q hy hz]; simp
      · simp only [sumF_ok s y q hy hz]; intro h; have := ih _ h; omega
    · simp only [sumF_bad s y q hy]; simp
/-- What the sum from a on is, by the sum from b ≤ a on. -/
theorem sumF_more (l : List Int) : ∀ s t, 0 ≤ s → 0 ≤ t → s + t ≤ 1000000000 →
    ((sumF s l).2 = 0 → sumF (s + t) l = (if (sumF s l).1 + t > 1000000000 then (0, 4) else ((sumF s l).1 + t, 0))) ∧
    (sumF s l = (0, 1) → (sumF (s + t) l).2 ≠ 0) ∧ (sumF s l = (0, 4) → sumF (s + t) l = (0, 4)) := by
  induction l with
  | nil =>
    intro s t h0 h1 h2
    simp only [sumF_nil]
    refine ⟨fun _ => ?_, fun h => by simp at h, fun h => by simp at h⟩
    have : ¬ s + t > 1000000000 := by omega
    simp only [this, if_false]
  | cons x r ih =>
    intro s t h0 h1 h2
    by_cases hx : 0 ≤ x ∧ x ≤ 1000000000
    · by_cases ho : s + x > 1000000000
      · have ho' : s + t + x > 1000000000 := by omega
        simp only [sumF_over s x r hx ho, sumF_over (s + t) x r hx ho']
        refine ⟨fun h => by simp at h, fun h => by simp at h, fun _ => trivial⟩
      · simp only [sumF_ok s x r hx ho]
        by_cases ho' : s + t + x > 1000000000
        · simp only [sumF_over (s + t) x r hx ho']
          refine ⟨fun h => ?_, fun _ => by simp, fun _ => trivial⟩
          have := sumF_ge r (s + x) h
          have : (sumF (s + x) r).1 + t > 1000000000 := by omega
          simp only [this, if_true]
        · simp only [sumF_ok (s + t) x r hx ho']
          have := ih (s + x) t (by omega) h1 (by omega)
          rw [show s + t + x = s + x + t by omega]
          exact this
    · simp only [sumF_bad s x r hx, sumF_bad (s + t) x r hx]
      refine ⟨fun h => by simp at h, fun _ => by simp, fun h => by simp at h⟩
theorem AmountSums : wharfingerlaw1_AmountSums.Pure := by
  intro l m hl hl' _ hm hm' _
  refine ⟨1000, ?_⟩
  unfold wharfingerlaw1_AmountSums.f
  rw [awake_k 1000 (by omega), w64 (by omega) (by omega)]
  by_cases h : (l.length : Int) + (m.length : Int) > 100
  · rw [if_pos h]; rfl
  · rw [if_neg h, sum_eq l (by omega) 1000 (by omega), sum_eq m (by omega) 1000 (by omega)]
    simp only [Option.bind_some, List.nil_append, List.length_nil]
    rw [if_pos (by omega), if_pos (by omega), sum_eq (l ++ m) (by simp; omega) 1000 (by simp; omega)]
    simp only [Option.bind_some]
    have hr := sumF_range l 0 (by omega) (by omega)
    have hs := sumF_range m 0 (by omega) (by omega)
    have ha := sumF_append l m 0
    generalize sumF 0 l = p at *
    obtain ⟨a, e⟩ := p
    simp only at hr ha ⊢
    by_cases he : e = 0
    · subst he
      rw [if_pos rfl] at ha
      rw [if_pos rfl, ha]
      have hmore := sumF_more m 0 a (by omega) (by omega) (by omega)
      rw [Int.zero_add] at hmore
      obtain ⟨g1, g2, g3⟩ := hmore
      rcases hs.2.2 with h0 | h0 | h0
      · have := g1 h0
        rw [this, if_neg (by omega), add_eq a _ (by omega) (by omega), if_pos ⟨hs.1, hs.2.1⟩]
        simp only [Option.bind_some]
        rw [show (sumF 0 m).1 + a = a + (sumF 0 m).1 by omega, if_pos h0, if_pos rfl, if_pos rfl]
      · rw [h0]
        have := g2 h0
        simp [this]
      · rw [g3 h0, h0]
        rw [if_neg (by decide), add_eq a _ (by omega) (by omega)]
        simp
    · rw [if_neg he] at ha
      rw [if_neg he, ha]
      rcases hr.2.2 with h0 | h0 | h0
      · exact absurd h0 he
      · simp only [Prod.mk.injEq] at h0
        obtain ⟨rfl, rfl⟩ := h0
        simp
      · simp only [Prod.mk.injEq] at h0
        obtain ⟨rfl, rfl⟩ := h0
        simp

end Go.Proofs.Ytacnekeakicdeaa.Pure
namespace Go.Proofs.Ytacnekeakicdeaa.PrintWords
open Go.ChangeShapes Go.WideShapes
/-- The row names this lemma of the words under this name. -/
theorem sized_ints {H : Type} {enc : TypeId × Value → H} {P : Program} {W : World} {base : Nat} {spare : Nat → Bool} {held : Bool} {t e : TypeId} {k : IntKind} {a : Option Addr} {len cap : Nat} {d : DataW H} {ps : List MemPlace} {ts : List TypeId} {ds : List (DataW H)} {j : Nat}
    (hsz : (DataW.weightsEach P ts ds).all (· ≤ reachBytes) = true) (ht : ts[j]? = some t) (hd : ds[j]? = some d) (hu : P.underlying t = some (.slice e)) (he : P.underlying e = some (.int k)) (hc : P.cellsOf e = 1) {B : Nat} (hB : P.bytesOf e = B)
    (h : DataW.Trod enc P W base spare held t (.slice a len cap) d ps) : len * B ≤ 140737488351232 :=
  Go.Proofs.YtacnekeakicdeaaW.PrintWords.sized_ints hsz ht hd hu he hc hB h
end Go.Proofs.Ytacnekeakicdeaa.PrintWords
namespace Go.Proofs.Ytacnekeakicdeaa.Pure

end Go.Proofs.Ytacnekeakicdeaa.Pure
