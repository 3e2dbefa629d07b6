/- What FlowTwo keeps of what happened: signs. (printed by gen/two.py) Nothing here speaks of the program's text. -/
import Derived.Test.YtjlfkpimjjnolaaFlowLaw
namespace Go.Proofs.Ytjlfkpimjjnolaa
open Go.RowKit
structure Sgn (s : Sty) (y n d0 d1 d2 d3 u0 u1 u2 u3 : Int) : Prop where
  hy : 0 ≤ y ↔ s.commits = true
  hn : 0 ≤ n ↔ s.aborts = true
  e0 : 0 ≤ d0 ↔ 0 < s.done
  e1 : 0 ≤ d1 ↔ 1 < s.done
  e2 : 0 ≤ d2 ↔ 2 < s.done
  e3 : d3 < 0
  f0 : 0 ≤ u0 ↔ s.done - s.undone ≤ 0 ∧ 0 < s.done
  f1 : 0 ≤ u1 ↔ s.done - s.undone ≤ 1 ∧ 1 < s.done
  f2 : 0 ≤ u2 ↔ s.done - s.undone ≤ 2 ∧ 2 < s.done
  f3 : u3 < 0
set_option linter.unusedSimpArgs false in
set_option linter.unusedVariables false in
theorem sgn_zero : Sgn Sty.zero (-1) (-1) (-1) (-1) (-1) (-1) (-1) (-1) (-1) (-1) := by
  constructor <;> simp [Sty.zero]
set_option linter.unusedSimpArgs false in
set_option linter.unusedVariables false in
theorem sgn_13 {o : Ord} {A : List Act2} {s : Sty} {y n d0 d1 d2 d3 u0 u1 u2 u3 : Int} {k : Nat} {z : Int} (hI : MInv o A s) (h : Sgn s y n d0 d1 d2 d3 u0 u1 u2 u3) (hm : s.may (13, z) o.steps.length = true) : Sgn (s.note 13) k n d0 d1 d2 d3 u0 u1 u2 u3 := by
  obtain ⟨hy, hn, e0, e1, e2, e3, f0, f1, f2, f3⟩ := h
  obtain ⟨o1, o2, o3⟩ := hI.ok
  unfold Sty.may at hm
  simp at hm
  unfold Sty.note
  constructor <;> (try simp) <;> first | assumption | omega
set_option linter.unusedSimpArgs false in
set_option linter.unusedVariables false in
theorem sgn_14 {o : Ord} {A : List Act2} {s : Sty} {y n d0 d1 d2 d3 u0 u1 u2 u3 : Int} {k : Nat} {z : Int} (hI : MInv o A s) (h : Sgn s y n d0 d1 d2 d3 u0 u1 u2 u3) (hm : s.may (14, z) o.steps.length = true) : Sgn (s.note 14) y k d0 d1 d2 d3 u0 u1 u2 u3 := by
  obtain ⟨hy, hn, e0, e1, e2, e3, f0, f1, f2, f3⟩ := h
  obtain ⟨o1, o2, o3⟩ := hI.ok
  unfold Sty.may at hm
  simp at hm
  unfold Sty.note
  constructor <;> (try simp) <;> first | assumption | omega
set_option linter.unusedSimpArgs false in
set_option linter.unusedVariables false in
theorem sgn_16 {o : Ord} {A : List Act2} {s : Sty} {y n d0 d1 d2 d3 u0 u1 u2 u3 : Int} {k : Nat} {z : Int} (hI : MInv o A s) (h : Sgn s y n d0 d1 d2 d3 u0 u1 u2 u3) (hm : s.may (16, z) o.steps.length = true) : Sgn (s.note 16) y n d0 d1 d2 d3 u0 u1 u2 u3 := by
  obtain ⟨hy, hn, e0, e1, e2, e3, f0, f1, f2, f3⟩ := h
  obtain ⟨o1, o2, o3⟩ := hI.ok
  unfold Sty.may at hm
  simp at hm
  unfold Sty.note
  constructor <;> (try simp) <;> first | assumption | omega
set_option linter.unusedSimpArgs false in
set_option linter.unusedVariables false in
theorem sgn_2_0 {o : Ord} {A : List Act2} {s : Sty} {y n d0 d1 d2 d3 u0 u1 u2 u3 : Int} {k : Nat} (hI : MInv o A s) (h : Sgn s y n d0 d1 d2 d3 u0 u1 u2 u3) (hm : s.may (2, 0) o.steps.length = true) : Sgn (s.note 2) y n k d1 d2 d3 u0 u1 u2 u3 := by
  obtain ⟨hy, hn, e0, e1, e2, e3, f0, f1, f2, f3⟩ := h
  obtain ⟨o1, o2, o3⟩ := hI.ok
  unfold Sty.may at hm
  simp at hm
  unfold Sty.note
  constructor <;> (try simp) <;> first | assumption | omega
set_option linter.unusedSimpArgs false in
set_option linter.unusedVariables false in
theorem sgn_2_1 {o : Ord} {A : List Act2} {s : Sty} {y n d0 d1 d2 d3 u0 u1 u2 u3 : Int} {k : Nat} (hI : MInv o A s) (h : Sgn s y n d0 d1 d2 d3 u0 u1 u2 u3) (hm : s.may (2, 1) o.steps.length = true) : Sgn (s.note 2) y n d0 k d2 d3 u0 u1 u2 u3 := by
  obtain ⟨hy, hn, e0, e1, e2, e3, f0, f1, f2, f3⟩ := h
  obtain ⟨o1, o2, o3⟩ := hI.ok
  unfold Sty.may at hm
  simp at hm
  unfold Sty.note
  constructor <;> (try simp) <;> first | assumption | omega
set_option linter.unusedSimpArgs false in
set_option linter.unusedVariables false in
theorem sgn_2_2 {o : Ord} {A : List Act2} {s : Sty} {y n d0 d1 d2 d3 u0 u1 u2 u3 : Int} {k : Nat} (hI : MInv o A s) (h : Sgn s y n d0 d1 d2 d3 u0 u1 u2 u3) (hm : s.may (2, 2) o.steps.length = true) : Sgn (s.note 2) y n d0 d1 k d3 u0 u1 u2 u3 := by
  obtain ⟨hy, hn, e0, e1, e2, e3, f0, f1, f2, f3⟩ := h
  obtain ⟨o1, o2, o3⟩ := hI.ok
  unfold Sty.may at hm
  simp at hm
  unfold Sty.note
  constructor <;> (try simp) <;> first | assumption | omega
set_option linter.unusedSimpArgs false in
set_option linter.unusedVariables false in
theorem sgn_5_0 {o : Ord} {A : List Act2} {s : Sty} {y n d0 d1 d2 d3 u0 u1 u2 u3 : Int} {k : Nat} (hI : MInv o A s) (h : Sgn s y n d0 d1 d2 d3 u0 u1 u2 u3) (hm : s.may (5, 0) o.steps.length = true) : Sgn (s.note 5) y n d0 d1 d2 d3 k u1 u2 u3 := by
  obtain ⟨hy, hn, e0, e1, e2, e3, f0, f1, f2, f3⟩ := h
  obtain ⟨o1, o2, o3⟩ := hI.ok
  unfold Sty.may at hm
  simp at hm
  unfold Sty.note
  constructor <;> (try simp) <;> first | assumption | omega
set_option linter.unusedSimpArgs false in
set_option linter.unusedVariables false in
theorem sgn_5_1 {o : Ord} {A : List Act2} {s : Sty} {y n d0 d1 d2 d3 u0 u1 u2 u3 : Int} {k : Nat} (hI : MInv o A s) (h : Sgn s y n d0 d1 d2 d3 u0 u1 u2 u3) (hm : s.may (5, 1) o.steps.length = true) : Sgn (s.note 5) y n d0 d1 d2 d3 u0 k u2 u3 := by
  obtain ⟨hy, hn, e0, e1, e2, e3, f0, f1, f2, f3⟩ := h
  obtain ⟨o1, o2, o3⟩ := hI.ok
  unfold Sty.may at hm
  simp at hm
  unfold Sty.note
  constructor <;> (try simp) <;> first | assumption | omega
set_option linter.unusedSimpArgs false in
set_option linter.unusedVariables false in
theorem sgn_5_2 {o : Ord} {A : List Act2} {s : Sty} {y n d0 d1 d2 d3 u0 u1 u2 u3 : Int} {k : Nat} (hI : MInv o A s) (h : Sgn s y n d0 d1 d2 d3 u0 u1 u2 u3) (hm : s.may (5, 2) o.steps.length = true) : Sgn (s.note 5) y n d0 d1 d2 d3 u0 u1 k u3 := by
  obtain ⟨hy, hn, e0, e1, e2, e3, f0, f1, f2, f3⟩ := h
  obtain ⟨o1, o2, o3⟩ := hI.ok
  unfold Sty.may at hm
  simp at hm
  unfold Sty.note
  constructor <;> (try simp) <;> first | assumption | omega
set_option linter.unusedSimpArgs false in
set_option linter.unusedVariables false in
theorem use_16 {o : Ord} {A : List Act2} {s : Sty} {y n d0 d1 d2 d3 u0 u1 u2 u3 : Int} {k : Nat} {z : Int} (hI : MInv o A s) (h : Sgn s y n d0 d1 d2 d3 u0 u1 u2 u3) (hm : s.may (16, z) o.steps.length = true) : ¬ y < 0 ∧ True ∧ True := by
  obtain ⟨hy, hn, e0, e1, e2, e3, f0, f1, f2, f3⟩ := h
  obtain ⟨o1, o2, o3⟩ := hI.ok
  have hl3 := Ord.may_len hI.may
  unfold Sty.may at hm
  simp at hm
  simp only [hm] at hy hn
  refine ⟨?_, ?_, ?_⟩ <;> (try intro hx) <;> (try simp at hy hn) <;> first | trivial | omega
set_option linter.unusedSimpArgs false in
set_option linter.unusedVariables false in
theorem use_2_0 {o : Ord} {A : List Act2} {s : Sty} {y n d0 d1 d2 d3 u0 u1 u2 u3 : Int} {k : Nat} (hI : MInv o A s) (h : Sgn s y n d0 d1 d2 d3 u0 u1 u2 u3) (hm : s.may (2, 0) o.steps.length = true) : ¬ 0 ≤ y ∧ True ∧ True := by
  obtain ⟨hy, hn, e0, e1, e2, e3, f0, f1, f2, f3⟩ := h
  obtain ⟨o1, o2, o3⟩ := hI.ok
  have hl3 := Ord.may_len hI.may
  unfold Sty.may at hm
  simp at hm
  simp only [hm] at hy hn
  refine ⟨?_, ?_, ?_⟩ <;> (try intro hx) <;> (try simp at hy hn) <;> first | trivial | omega
set_option linter.unusedSimpArgs false in
set_option linter.unusedVariables false in
theorem use_2_1 {o : Ord} {A : List Act2} {s : Sty} {y n d0 d1 d2 d3 u0 u1 u2 u3 : Int} {k : Nat} (hI : MInv o A s) (h : Sgn s y n d0 d1 d2 d3 u0 u1 u2 u3) (hm : s.may (2, 1) o.steps.length = true) : ¬ 0 ≤ y ∧ ¬ d0 < 0 ∧ True := by
  obtain ⟨hy, hn, e0, e1, e2, e3, f0, f1, f2, f3⟩ := h
  obtain ⟨o1, o2, o3⟩ := hI.ok
  have hl3 := Ord.may_len hI.may
  unfold Sty.may at hm
  simp at hm
  simp only [hm] at hy hn
  refine ⟨?_, ?_, ?_⟩ <;> (try intro hx) <;> (try simp at hy hn) <;> first | trivial | omega
set_option linter.unusedSimpArgs false in
set_option linter.unusedVariables false in
theorem use_2_2 {o : Ord} {A : List Act2} {s : Sty} {y n d0 d1 d2 d3 u0 u1 u2 u3 : Int} {k : Nat} (hI : MInv o A s) (h : Sgn s y n d0 d1 d2 d3 u0 u1 u2 u3) (hm : s.may (2, 2) o.steps.length = true) : ¬ 0 ≤ y ∧ ¬ d1 < 0 ∧ True := by
  obtain ⟨hy, hn, e0, e1, e2, e3, f0, f1, f2, f3⟩ := h
  obtain ⟨o1, o2, o3⟩ := hI.ok
  have hl3 := Ord.may_len hI.may
  unfold Sty.may at hm
  simp at hm
  simp only [hm] at hy hn
  refine ⟨?_, ?_, ?_⟩ <;> (try intro hx) <;> (try simp at hy hn) <;> first | trivial | omega
set_option linter.unusedSimpArgs false in
set_option linter.unusedVariables false in
theorem use_5_0 {o : Ord} {A : List Act2} {s : Sty} {y n d0 d1 d2 d3 u0 u1 u2 u3 : Int} {k : Nat} (hI : MInv o A s) (h : Sgn s y n d0 d1 d2 d3 u0 u1 u2 u3) (hm : s.may (5, 0) o.steps.length = true) : ¬ d0 < 0 ∧ ¬ n < 0 ∧ (u1 < 0 → ¬ 0 ≤ d1) := by
  obtain ⟨hy, hn, e0, e1, e2, e3, f0, f1, f2, f3⟩ := h
  obtain ⟨o1, o2, o3⟩ := hI.ok
  have hl3 := Ord.may_len hI.may
  unfold Sty.may at hm
  simp at hm
  simp only [hm] at hy hn
  refine ⟨?_, ?_, ?_⟩ <;> (try intro hx) <;> (try simp at hy hn) <;> first | trivial | omega
set_option linter.unusedSimpArgs false in
set_option linter.unusedVariables false in
theorem use_5_1 {o : Ord} {A : List Act2} {s : Sty} {y n d0 d1 d2 d3 u0 u1 u2 u3 : Int} {k : Nat} (hI : MInv o A s) (h : Sgn s y n d0 d1 d2 d3 u0 u1 u2 u3) (hm : s.may (5, 1) o.steps.length = true) : ¬ d1 < 0 ∧ ¬ n < 0 ∧ (u2 < 0 → ¬ 0 ≤ d2) := by
  obtain ⟨hy, hn, e0, e1, e2, e3, f0, f1, f2, f3⟩ := h
  obtain ⟨o1, o2, o3⟩ := hI.ok
  have hl3 := Ord.may_len hI.may
  unfold Sty.may at hm
  simp at hm
  simp only [hm] at hy hn
  refine ⟨?_, ?_, ?_⟩ <;> (try intro hx) <;> (try simp at hy hn) <;> first | trivial | omega
set_option linter.unusedSimpArgs false in
set_option linter.unusedVariables false in
theorem use_5_2 {o : Ord} {A : List Act2} {s : Sty} {y n d0 d1 d2 d3 u0 u1 u2 u3 : Int} {k : Nat} (hI : MInv o A s) (h : Sgn s y n d0 d1 d2 d3 u0 u1 u2 u3) (hm : s.may (5, 2) o.steps.length = true) : ¬ d2 < 0 ∧ ¬ n < 0 ∧ (u3 < 0 → ¬ 0 ≤ d3) := by
  obtain ⟨hy, hn, e0, e1, e2, e3, f0, f1, f2, f3⟩ := h
  obtain ⟨o1, o2, o3⟩ := hI.ok
  have hl3 := Ord.may_len hI.may
  unfold Sty.may at hm
  simp at hm
  simp only [hm] at hy hn
  refine ⟨?_, ?_, ?_⟩ <;> (try intro hx) <;> (try simp at hy hn) <;> first | trivial | omega
set_option linter.unusedSimpArgs false in
set_option linter.unusedVariables false in
theorem two_cases {o : Ord} {A : List Act2} {s : Sty} {x1 x2 : Int} (hI : MInv o A s) (hm : s.may (x1, x2) o.steps.length = true) : x1 = 13 ∨ x1 = 14 ∨ x1 = 16 ∨ (x1 = 2 ∧ (x2 = 0 ∨ x2 = 1 ∨ x2 = 2)) ∨ (x1 = 5 ∧ (x2 = 0 ∨ x2 = 1 ∨ x2 = 2)) := by
  obtain ⟨o1, o2, o3⟩ := hI.ok
  have hl3 := Ord.may_len hI.may
  unfold Sty.may at hm
  simp only at hm
  by_cases k2 : x1 = 2
  · rw [if_pos k2] at hm
    simp at hm
    omega
  rw [if_neg k2] at hm
  by_cases k5 : x1 = 5
  · rw [if_pos k5] at hm
    simp at hm
    omega
  rw [if_neg k5] at hm
  by_cases k13 : x1 = 13
  · exact .inl k13
  rw [if_neg k13] at hm
  by_cases k14 : x1 = 14
  · exact .inr (.inl k14)
  rw [if_neg k14] at hm
  by_cases k16 : x1 = 16
  · exact .inr (.inr (.inl k16))
  rw [if_neg k16] at hm
  cases hm
set_option linter.unusedSimpArgs false in
set_option linter.unusedVariables false in
theorem two_end {o : Ord} {A : List Act2} {s : Sty} {y n d0 d1 d2 d3 u0 u1 u2 u3 : Int} (hI : MInv o A s) (h : Sgn s y n d0 d1 d2 d3 u0 u1 u2 u3) (hy : ¬ y < 0) : n < 0 := by
  have h1 := hI.g1 (h.hy.1 (by omega))
  rcases Int.lt_or_le n 0 with h2 | h2
  · exact h2
  · rw [h.hn.1 h2] at h1
    cases h1
end Go.Proofs.Ytjlfkpimjjnolaa
