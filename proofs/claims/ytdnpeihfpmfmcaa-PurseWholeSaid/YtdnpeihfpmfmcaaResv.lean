/- Rows of pairs (a number, so much): sums. -/
import Derived.Test.YtdnpeihfpmfmcaaMap
namespace Go.Proofs.Ytdnpeihfpmfmcaa
open Go.RowKit
def upd (f : Nat → Int) (k : Nat) (v : Int) : Nat → Int := fun i => if i = k then v else f i
theorem upd_same (f : Nat → Int) (k : Nat) (v : Int) : upd f k v k = v := by simp [upd]
theorem upd_other {f : Nat → Int} {k i : Nat} (v : Int) (h : i ≠ k) : upd f k v i = f i := by simp [upd, h]
/-- How much of item i is reserved. -/
def resv : List (Int × (Nat × Int)) → Nat → Int
  | [], _ => 0
  | (_, (j, q)) :: r, i => (if j = i then q else 0) + resv r i
theorem mem_of_get {α : Type} {L : List (Int × α)} {x : Int} {v : α} (h : MP.get L x = some v) : (x, v) ∈ L := by
  induction L with
  | nil => simp [MP.get_nil] at h
  | cons p r ih =>
    obtain ⟨y, a⟩ := p
    rw [MP.get_cons] at h
    by_cases hx : x = y
    · rw [if_pos hx] at h
      simp only [Option.some.injEq] at h
      subst h; subst hx
      exact List.mem_cons_self ..
    · rw [if_neg hx] at h
      exact List.mem_cons_of_mem _ (ih h)
theorem mem_put {α : Type} {L : List (Int × α)} {x : Int} {v : α} {p : Int × α} (h : p ∈ MP.put L x v) : p = (x, v) ∨ p ∈ L := by
  induction L with
  | nil => simp [MP.put] at h; exact .inl h
  | cons q r ih =>
    obtain ⟨y, a⟩ := q
    simp only [MP.put] at h
    by_cases hx : x = y
    · rw [if_pos hx] at h
      rcases List.mem_cons.1 h with h | h
      · exact .inl h
      · exact .inr (List.mem_cons_of_mem _ h)
    · rw [if_neg hx] at h
      rcases List.mem_cons.1 h with h | h
      · exact .inr (h ▸ List.mem_cons_self ..)
      · rcases ih h with h | h
        · exact .inl h
        · exact .inr (List.mem_cons_of_mem _ h)
theorem resv_put {L : List (Int × (Nat × Int))} {x : Int} {j : Nat} {q : Int} (h : MP.get L x = none) (i : Nat) : resv (MP.put L x (j, q)) i = resv L i + (if j = i then q else 0) := by
  induction L with
  | nil => simp [MP.put, resv]
  | cons p r ih =>
    obtain ⟨y, a, b⟩ := p
    rw [MP.get_cons] at h
    by_cases hx : x = y
    · rw [if_pos hx] at h; cases h
    · rw [if_neg hx] at h
      simp only [MP.put]
      rw [if_neg hx]
      simp only [resv]
      rw [ih h]
      omega
theorem resv_del {L : List (Int × (Nat × Int))} {x : Int} {j : Nat} {q : Int} (h : MP.get L x = some (j, q)) (i : Nat) : resv (MP.del L x) i = resv L i - (if j = i then q else 0) := by
  induction L with
  | nil => simp [MP.get_nil] at h
  | cons p r ih =>
    obtain ⟨y, a, b⟩ := p
    rw [MP.get_cons] at h
    simp only [MP.del]
    by_cases hx : x = y
    · rw [if_pos hx] at h
      simp only [Option.some.injEq, Prod.mk.injEq] at h
      obtain ⟨rfl, rfl⟩ := h
      rw [if_pos hx]
      simp only [resv]
      omega
    · rw [if_neg hx] at h
      rw [if_neg hx]
      simp only [resv]
      rw [ih h]
      omega
theorem resv_nonneg {L : List (Int × (Nat × Int))} (h : ∀ p ∈ L, 0 ≤ p.2.2) (i : Nat) : 0 ≤ resv L i := by
  induction L with
  | nil => exact Int.le_refl _
  | cons p r ih =>
    obtain ⟨y, a, b⟩ := p
    have h1 := h (y, a, b) (List.mem_cons_self ..)
    have h2 := ih (fun p hp => h p (List.mem_cons_of_mem _ hp))
    simp only [resv]
    simp only at h1
    split <;> omega
theorem le_resv {L : List (Int × (Nat × Int))} (h : ∀ p ∈ L, 0 ≤ p.2.2) {x : Int} {j : Nat} {q : Int} (hm : (x, (j, q)) ∈ L) : q ≤ resv L j := by
  induction L with
  | nil => simp at hm
  | cons p r ih =>
    obtain ⟨y, a, b⟩ := p
    have h1 := h (y, a, b) (List.mem_cons_self ..)
    have h2 := resv_nonneg (fun p hp => h p (List.mem_cons_of_mem _ hp)) j
    simp only at h1
    simp only [resv]
    rcases List.mem_cons.1 hm with e | e
    · simp only [Prod.mk.injEq] at e
      obtain ⟨_, rfl, rfl⟩ := e
      rw [if_pos rfl]
      omega
    · have := ih (fun p hp => h p (List.mem_cons_of_mem _ hp)) e
      split <;> omega

theorem resv_app (p q : List (Int × (Nat × Int))) (i : Nat) : resv (p ++ q) i = resv p i + resv q i := by
  induction p with
  | nil => simp [resv]
  | cons x r ih => obtain ⟨y, j, v⟩ := x; simp only [List.cons_append, resv, ih]; omega
theorem resv_split (p q : List (Int × (Nat × Int))) (x : Int) (j : Nat) (v : Int) (i : Nat) : resv (p ++ (x, (j, v)) :: q) i = (if j = i then v else 0) + resv (p ++ q) i := by
  rw [resv_app, resv_app]; simp only [resv]; omega
end Go.Proofs.Ytdnpeihfpmfmcaa
