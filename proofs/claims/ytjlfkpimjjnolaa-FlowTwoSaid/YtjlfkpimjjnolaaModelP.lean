/- What a model comes to, plainly. Nothing here speaks of the program's text. -/
import Derived.Test.YtjlfkpimjjnolaaModel2
namespace Go.Proofs.Ytjlfkpimjjnolaa
open Go.RowKit
def finS : Sty → List Act2 → Sty
  | s, [] => s
  | s, a :: r => finS (s.note a.1) r
theorem finS_app : ∀ (A B : List Act2) (s : Sty), finS s (A ++ B) = finS (finS s A) B
  | [], _, _ => rfl
  | a :: r, B, s => by simp only [List.cons_append, finS]; exact finS_app r B _
theorem runN_app (n : Int) : ∀ (A B : List Act2) (s : Sty), runN n s A = A.length → runN n s (A ++ B) = A.length + runN n (finS s A) B
  | [], B, s, _ => by simp [finS]
  | a :: r, B, s, h => by
    simp only [runN, List.length_cons] at h
    split at h
    · rename_i hm
      have ih := runN_app n r B (s.note a.1) (by omega)
      simp only [List.cons_append, runN, finS, List.length_cons]
      rw [if_pos hm, ih]; omega
    · omega
theorem hasAct_snoc (A : List Act2) (x : Act2) (k s : Int) : hasAct (A ++ [x]) k s = (hasAct A k s || isAct k s x) := by
  unfold hasAct; rw [List.any_append]; simp
/-- All of A happened, one behind the other, and s is how it stands. -/
structure MInv (o : Ord) (A : List Act2) (s : Sty) : Prop where
  may : o.may = true
  runs : runN o.steps.length Sty.zero A = A.length
  fin : finS Sty.zero A = s
  ok : s.Ok o.steps.length
  g1 : s.commits = true → s.aborts = false
  g2 : s.shipped = true → s.commits = true
  g3 : s.commits = true → s.done = o.steps.length
  h13 : ∀ y, hasAct A 13 y = (s.commits && y == 0)
  h14 : ∀ y, hasAct A 14 y = (s.aborts && y == 0)
  h16 : ∀ y, hasAct A 16 y = (s.shipped && y == 0)
  h2 : ∀ y, hasAct A 2 y = (decide (0 ≤ y) && decide (y < s.done))
  h5 : ∀ y, hasAct A 5 y = (decide (s.done - s.undone ≤ y) && decide (y < s.done))
  short : (A.length : Int) = s.done + s.undone + (if s.commits then 1 else 0) + (if s.aborts then 1 else 0) + (if s.shipped then 1 else 0)
theorem MInv.zero {o : Ord} (h : o.may = true) : MInv o [] Sty.zero := by
  refine ⟨h, rfl, rfl, Sty.zero_ok _ (by omega), ?_, ?_, ?_, ?_, ?_, ?_, ?_, ?_, by simp [Sty.zero]⟩
  · simp [Sty.zero]
  · simp [Sty.zero]
  · simp [Sty.zero]
  · intro y; simp [hasAct, Sty.zero]
  · intro y; simp [hasAct, Sty.zero]
  · intro y; simp [hasAct, Sty.zero]
  · intro y; simp [hasAct, Sty.zero]; intro h; exact decide_eq_false (by omega)
  · intro y; simp [hasAct, Sty.zero]; intro h; exact decide_eq_false (by omega)
theorem MInv.legal {o : Ord} {A : List Act2} {s : Sty} (h : MInv o A s) : legalN o A = A.length := by unfold legalN; rw [if_pos h.may, h.runs]
theorem MInv.next {o : Ord} {A : List Act2} {s : Sty} (h : MInv o A s) (x : Act2) : legalN o (A ++ [x]) = A.length + (if s.may x o.steps.length = true then 1 else 0) := by
  unfold legalN
  rw [if_pos h.may, runN_app _ _ _ _ h.runs, h.fin]
  simp [runN]
theorem MInv.stop {o : Ord} {A : List Act2} {s : Sty} (h : MInv o A s) {x : Act2} (hm : s.may x o.steps.length = false) : legalN o (A ++ [x]) = A.length := by
  rw [h.next, hm]; simp
theorem MInv.goes {o : Ord} {A : List Act2} {s : Sty} (h : MInv o A s) {x : Act2} (hm : s.may x o.steps.length = true) : legalN o (A ++ [x]) = A.length + 1 := by
  rw [h.next, hm]; simp
theorem MInv.step {o : Ord} {A : List Act2} {s : Sty} (h : MInv o A s) {x : Act2} (hm : s.may x o.steps.length = true) : MInv o (A ++ [x]) (s.note x.1) := by
  have hr : runN o.steps.length Sty.zero (A ++ [x]) = (A ++ [x]).length := by
    rw [runN_app _ _ _ _ h.runs, h.fin]; simp [runN, hm]
  have hf : finS Sty.zero (A ++ [x]) = s.note x.1 := by rw [finS_app, h.fin]; rfl
  have hok := Sty.note_ok h.ok hm
  obtain ⟨k, y⟩ := x
  obtain ⟨d, u, c, b, f⟩ := s
  have g1 := h.g1
  have g2 := h.g2
  have g3 := h.g3
  have e13 := h.h13
  have e14 := h.h14
  have e16 := h.h16
  have e2 := h.h2
  have e5 := h.h5
  have es := h.short
  obtain ⟨o1, o2, o3⟩ := h.ok
  simp only at g1 g2 g3 e13 e14 e16 e2 e5 o1 o2 o3 es
  unfold Sty.may at hm
  simp only at hm hr hf hok
  by_cases k2 : k = 2
  · subst k2
    simp only [if_true, Bool.and_eq_true, decide_eq_true_eq, beq_iff_eq, Bool.not_eq_true'] at hm
    obtain ⟨rfl, hd, hc, rfl⟩ := hm
    subst hc
    refine ⟨h.may, hr, hf, hok, ?_, ?_, ?_, ?_, ?_, ?_, ?_, ?_, ?_⟩
    · simp [Sty.note]
    · simpa [Sty.note] using g2
    · simp [Sty.note]
    · intro z; rw [hasAct_snoc, e13]; simp [isAct, Sty.note]
    · intro z; rw [hasAct_snoc, e14]; simp [isAct, Sty.note]
    · intro z; rw [hasAct_snoc, e16]; simp [isAct, Sty.note]
    · intro z; rw [hasAct_snoc, e2, Bool.eq_iff_iff]; simp [isAct, Sty.note]; omega
    · intro z; rw [hasAct_snoc, e5, Bool.eq_iff_iff]; simp [isAct, Sty.note]; omega
    · simp only [List.length_append, List.length_singleton, Sty.note, if_true] at es ⊢; simp only [Int.natCast_add]; omega
  rw [if_neg k2] at hm
  by_cases k5 : k = 5
  · subst k5
    simp only [if_true, Bool.and_eq_true, decide_eq_true_eq, beq_iff_eq] at hm
    obtain ⟨hb, hu, rfl⟩ := hm
    have hn : Sty.note ⟨d, u, c, b, f⟩ 5 = ⟨d, u + 1, c, b, f⟩ := by simp [Sty.note]
    rw [hn] at hf hok ⊢
    refine ⟨h.may, hr, hf, hok, g1, g2, g3, ?_, ?_, ?_, ?_, ?_, ?_⟩
    · intro z; rw [hasAct_snoc, e13]; simp [isAct]
    · intro z; rw [hasAct_snoc, e14]; simp [isAct]
    · intro z; rw [hasAct_snoc, e16]; simp [isAct]
    · intro z; rw [hasAct_snoc, e2]; simp [isAct]
    · intro z; rw [hasAct_snoc, e5, Bool.eq_iff_iff]; simp [isAct]; omega
    · simp only [List.length_append, List.length_singleton] at es ⊢; simp only [Int.natCast_add]; omega
  rw [if_neg k5] at hm
  by_cases k13 : k = 13
  · subst k13
    simp only [if_true, Bool.and_eq_true, beq_iff_eq, Bool.not_eq_true'] at hm
    obtain ⟨rfl, hd, hc, hb⟩ := hm
    have hn : Sty.note ⟨d, u, c, b, f⟩ 13 = ⟨d, u, true, b, f⟩ := by simp [Sty.note]
    rw [hn] at hf hok ⊢
    subst hc; subst hb
    refine ⟨h.may, hr, hf, hok, (fun _ => rfl), (fun _ => rfl), (fun _ => hd), ?_, ?_, ?_, ?_, ?_, ?_⟩
    · intro z; rw [hasAct_snoc, e13, Bool.eq_iff_iff]; simp [isAct]; exact eq_comm
    · intro z; rw [hasAct_snoc, e14]; simp [isAct]
    · intro z; rw [hasAct_snoc, e16]; simp [isAct]
    · intro z; rw [hasAct_snoc, e2]; simp [isAct]
    · intro z; rw [hasAct_snoc, e5]; simp [isAct]
    · simp only [List.length_append, List.length_singleton, if_true, Bool.false_eq_true, if_false] at es ⊢; simp only [Int.natCast_add]; omega
  rw [if_neg k13] at hm
  by_cases k14 : k = 14
  · subst k14
    simp only [if_true, Bool.and_eq_true, beq_iff_eq, Bool.not_eq_true'] at hm
    obtain ⟨rfl, hc, hb⟩ := hm
    have hn : Sty.note ⟨d, u, c, b, f⟩ 14 = ⟨d, u, c, true, f⟩ := by simp [Sty.note]
    rw [hn] at hf hok ⊢
    subst hc; subst hb
    refine ⟨h.may, hr, hf, hok, (fun h => by cases h), g2, g3, ?_, ?_, ?_, ?_, ?_, ?_⟩
    · intro z; rw [hasAct_snoc, e13]; simp [isAct]
    · intro z; rw [hasAct_snoc, e14, Bool.eq_iff_iff]; simp [isAct]; exact eq_comm
    · intro z; rw [hasAct_snoc, e16]; simp [isAct]
    · intro z; rw [hasAct_snoc, e2]; simp [isAct]
    · intro z; rw [hasAct_snoc, e5]; simp [isAct]
    · simp only [List.length_append, List.length_singleton, if_true, Bool.false_eq_true, if_false] at es ⊢; simp only [Int.natCast_add]; omega
  rw [if_neg k14] at hm
  by_cases k16 : k = 16
  · subst k16
    simp only [if_true, Bool.and_eq_true, beq_iff_eq, Bool.not_eq_true'] at hm
    obtain ⟨rfl, hc, hf2⟩ := hm
    have hn : Sty.note ⟨d, u, c, b, f⟩ 16 = ⟨d, u, c, b, true⟩ := by simp [Sty.note]
    rw [hn] at hf hok ⊢
    subst hc; subst hf2
    refine ⟨h.may, hr, hf, hok, g1, (fun _ => rfl), g3, ?_, ?_, ?_, ?_, ?_, ?_⟩
    · intro z; rw [hasAct_snoc, e13]; simp [isAct]
    · intro z; rw [hasAct_snoc, e14]; simp [isAct]
    · intro z; rw [hasAct_snoc, e16, Bool.eq_iff_iff]; simp [isAct]; exact eq_comm
    · intro z; rw [hasAct_snoc, e2]; simp [isAct]
    · intro z; rw [hasAct_snoc, e5]; simp [isAct]
    · simp only [List.length_append, List.length_singleton, if_true, Bool.false_eq_true, if_false] at es ⊢; simp only [Int.natCast_add]; omega
  rw [if_neg k16] at hm
  cases hm
theorem MInv.small {o : Ord} {A : List Act2} {s : Sty} (h : MInv o A s) : A.length ≤ 9 := by
  have h1 := h.short
  have h3 := Ord.may_len h.may
  obtain ⟨u0, ud, dn⟩ := h.ok
  have : (if s.commits = true then (1 : Int) else 0) ≤ 1 := by split <;> omega
  have : (if s.aborts = true then (1 : Int) else 0) ≤ 1 := by split <;> omega
  have : (if s.shipped = true then (1 : Int) else 0) ≤ 1 := by split <;> omega
  omega
theorem may_at {o : Ord} (h : o.may = true) {k : Nat} {x : St} (hx : o.steps[k]? = some x) : atOf o.steps x.1 = k := by
  unfold Ord.may at h
  simp only [Bool.and_eq_true] at h
  have := stepsOk_split h.1.1.1.1.1.1 k x hx
  rw [List.nil_append] at this
  exact (atOf_first hx).2 this.2.2
theorem may_svc {o : Ord} (h : o.may = true) {k : Nat} {x : St} (hx : o.steps[k]? = some x) : 4 ≤ x.1 ∧ x.1 ≤ 6 ∧ 1 ≤ x.2 ∧ x.2 ≤ 1000000000 := by
  unfold Ord.may at h
  simp only [Bool.and_eq_true] at h
  obtain ⟨h1, h2, _⟩ := stepsOk_split h.1.1.1.1.1.1 k x hx
  have a := (inB_iff _ _ _).1 h1
  have b := (inB_iff _ _ _).1 h2
  exact ⟨a.1, a.2, b.1, b.2⟩
/-- What is held of the kth step's service. -/
theorem MInv.held {o : Ord} {A : List Act2} {s : Sty} (h : MInv o A s) {k : Nat} {x : St} (hx : o.steps[k]? = some x) : heldN o A x.1 = if (k : Int) < s.done ∧ (k : Int) < s.done - s.undone then x.2 else 0 := by
  unfold heldN
  rw [may_at h.may hx, if_neg (by omega), h.h2, h.h5]
  have : ((k : Int)).toNat = k := by omega
  rw [this, hx]
  obtain ⟨u0, ud, dn⟩ := h.ok
  have e2 : (decide (0 ≤ (k : Int)) && decide ((k : Int) < s.done)) = decide ((k : Int) < s.done) := by simp
  rw [e2]
  by_cases h1 : (k : Int) < s.done
  · have q1 : decide ((k : Int) < s.done) = true := by simpa using h1
    by_cases h2 : (k : Int) < s.done - s.undone
    · have q2 : decide (s.done - s.undone ≤ (k : Int)) = false := by simpa using h2
      rw [q1, q2]; simp [h1, h2]
    · have q2 : decide (s.done - s.undone ≤ (k : Int)) = true := by simpa using h2
      rw [q1, q2]; simp [h2]
  · have q1 : decide ((k : Int) < s.done) = false := by simpa using h1
    rw [q1]; simp [h1]
end Go.Proofs.Ytjlfkpimjjnolaa
