/- What may happen, plainly: each beginning of it may; nothing of it happens twice. Nothing here speaks of the program's text. -/
import Derived.Test.YtjlfkpimjjnolaaModelP
namespace Go.Proofs.Ytjlfkpimjjnolaa
open Go.RowKit
theorem runN_take (n : Int) : ∀ (L : List Act2) (s : Sty) (k : Nat), runN n s (L.take k) = min k (runN n s L)
  | [], s, k => by simp [runN]
  | x :: r, s, 0 => by simp [runN]
  | x :: r, s, k + 1 => by
    rw [List.take_succ_cons]
    simp only [runN]
    split
    · rw [runN_take n r (s.note x.1) k]; omega
    · simp
theorem legal_take (o : Ord) (L : List Act2) (k : Nat) : legalN o (L.take k) = min k (legalN o L) := by
  unfold legalN
  split
  · exact runN_take _ _ _ _
  · simp
theorem legal_le (o : Ord) (L : List Act2) : legalN o L ≤ L.length := by
  unfold legalN
  split
  · exact runN_le _ _ _
  · exact Nat.zero_le _
theorem legal_no {o : Ord} {L : List Act2} (h : 0 < legalN o L) : o.may = true := by
  unfold legalN at h
  split at h
  · assumption
  · omega
/-- What stands ahead of the k-th, and that the k-th may happen there. -/
theorem legal_at {o : Ord} {L : List Act2} (hm : o.may = true) : ∀ {k : Nat}, k ≤ legalN o L → ∃ s, MInv o (L.take k) s
  | 0, _ => ⟨_, by rw [List.take_zero]; exact MInv.zero hm⟩
  | k + 1, hk => by
    obtain ⟨s, hs⟩ := legal_at (L := L) hm (k := k) (by omega)
    have hl := legal_le o L
    have hkl : k < L.length := by omega
    obtain ⟨x, hx⟩ : ∃ x, L[k]? = some x := ⟨_, List.getElem?_eq_getElem hkl⟩
    have e : L.take (k + 1) = L.take k ++ [x] := by rw [List.take_add_one, hx]; rfl
    have h1 := legal_take o L (k + 1)
    rw [e, hs.next, List.length_take] at h1
    cases hmx : s.may x o.steps.length with
    | true => exact ⟨_, by rw [e]; exact hs.step hmx⟩
    | false => rw [hmx] at h1; simp at h1; omega
theorem legal_may {o : Ord} {L : List Act2} {k : Nat} {s : Sty} {x : Act2} (hs : MInv o (L.take k) s) (hk : k < legalN o L) (hx : L[k]? = some x) : s.may x o.steps.length = true := by
  have hl := legal_le o L
  have e : L.take (k + 1) = L.take k ++ [x] := by rw [List.take_add_one, hx]; rfl
  have h1 := legal_take o L (k + 1)
  rw [e, hs.next, List.length_take] at h1
  cases hmx : s.may x o.steps.length with
  | true => rfl
  | false => rw [hmx] at h1; simp at h1; omega
theorem MInv.fresh {o : Ord} {A : List Act2} {s : Sty} {x : Act2} (h : MInv o A s) (hm : s.may x o.steps.length = true) : hasAct A x.1 x.2 = false := by
  obtain ⟨k, y⟩ := x
  obtain ⟨d, u, c, b, f⟩ := s
  have e13 := h.h13
  have e14 := h.h14
  have e16 := h.h16
  have e2 := h.h2
  have e5 := h.h5
  obtain ⟨o1, o2, o3⟩ := h.ok
  simp only at e13 e14 e16 e2 e5 o1 o2 o3
  unfold Sty.may at hm
  simp only at hm ⊢
  by_cases k2 : k = 2
  · subst k2
    simp only [if_true, Bool.and_eq_true, beq_iff_eq] at hm
    rw [e2, hm.1]; simp
  rw [if_neg k2] at hm
  by_cases k5 : k = 5
  · subst k5
    simp only [if_true, Bool.and_eq_true, decide_eq_true_eq, beq_iff_eq] at hm
    rw [e5, Bool.eq_false_iff]
    simp
    omega
  rw [if_neg k5] at hm
  by_cases k13 : k = 13
  · subst k13
    simp only [if_true, Bool.and_eq_true, Bool.not_eq_true'] at hm
    rw [e13, hm.2.2.1]; rfl
  rw [if_neg k13] at hm
  by_cases k14 : k = 14
  · subst k14
    simp only [if_true, Bool.and_eq_true, Bool.not_eq_true'] at hm
    rw [e14, hm.2.2]; rfl
  rw [if_neg k14] at hm
  by_cases k16 : k = 16
  · subst k16
    simp only [if_true, Bool.and_eq_true, Bool.not_eq_true'] at hm
    rw [e16, hm.2.2]; rfl
  rw [if_neg k16] at hm
  cases hm
theorem legal_apart {o : Ord} {L : List Act2} {i j : Nat} {x y : Act2} (hij : i < j) (hj : j < legalN o L) (hx : L[i]? = some x) (hy : L[j]? = some y) : y ≠ x := by
  intro e
  subst e
  obtain ⟨s, hs⟩ := legal_at (legal_no (o := o) (L := L) (by omega)) (Nat.le_of_lt hj)
  have hf := hs.fresh (legal_may hs hj hy)
  have hmem : y ∈ L.take j := List.mem_of_getElem? (i := i) (by rw [List.getElem?_take, if_pos hij]; exact hx)
  have : hasAct (L.take j) y.1 y.2 = true := by
    unfold hasAct
    rw [List.any_eq_true]
    exact ⟨y, hmem, by simp [isAct]⟩
  rw [hf] at this
  cases this
end Go.Proofs.Ytjlfkpimjjnolaa
