/- What the law ModelSees holds against each other: the story and what the model answers. -/
import Derived.Test.YtjlfkpimjjnolaaModelLaws
import Derived.Test.YtjlfkpimjjnolaaTrace
namespace Go.Proofs.Ytjlfkpimjjnolaa
open Go.RowKit
theorem Sty.note_ua {s : Sty} {x : Act2} {n : Int} (h : 0 < s.undone → s.aborts = true) (hm : s.may x n = true) : 0 < (s.note x.1).undone → (s.note x.1).aborts = true := by
  obtain ⟨k, st⟩ := x
  obtain ⟨d, u, c, b, f⟩ := s
  unfold Sty.may at hm
  unfold Sty.note
  simp only at h hm ⊢
  by_cases h2 : k = 2
  · simp only [h2, if_true]; exact h
  · by_cases h5 : k = 5
    · simp only [h5, if_neg (show ¬ ((5 : Int) = 2) by omega), if_true] at hm ⊢
      intro _
      simp only [Bool.and_eq_true] at hm
      exact hm.1
    · by_cases h13 : k = 13
      · simp only [h13, if_neg (show ¬ ((13 : Int) = 2) by omega), if_neg (show ¬ ((13 : Int) = 5) by omega), if_true]; exact h
      · by_cases h14 : k = 14
        · simp only [h14, if_neg (show ¬ ((14 : Int) = 2) by omega), if_neg (show ¬ ((14 : Int) = 5) by omega), if_neg (show ¬ ((14 : Int) = 13) by omega), if_true]; exact fun _ => trivial
        · simp only [if_neg h2, if_neg h5, if_neg h13, if_neg h14]
          by_cases h16 : k = 16
          · simp only [h16, if_true]; exact h
          · simp only [if_neg h16]; exact h
theorem sees_held {o : Ord} {A : List Act2} {d u k : Nat} {x y z : Bool} {t : St} (h : MInv o A ⟨d, u, x, y, z⟩) (hx : o.steps[k]? = some t) : heldN o A t.1 = if k < d - u then t.2 else 0 := by
  rw [h.held hx]
  have h1 := h.ok.ud
  simp only at h1 ⊢
  by_cases e : k < d - u
  · rw [if_pos e, if_pos ⟨by omega, by omega⟩]
  · rw [if_neg e, if_neg (by omega)]
theorem sees_clean {o : Ord} {A : List Act2} {d u : Nat} {x y z : Bool} (h : MInv o A ⟨d, u, x, y, z⟩) : cleanB o A = (y && decide (d - u = 0)) := by
  have h1 := h.ok.ud
  have h3 := h.ok.dn
  simp only at h1 h3
  unfold cleanB
  rw [h.h14]
  have e : ((0 : Int) == 0) = true := rfl
  simp only [e, Bool.and_true]
  congr 1
  by_cases h0 : d - u = 0
  · have : o.steps.any (heldB o A) = false := by
      rw [List.any_eq_false]
      intro t ht hb
      obtain ⟨j, hj, rfl⟩ := List.getElem_of_mem ht
      unfold heldB at hb
      rw [sees_held h (List.getElem?_eq_getElem hj), if_neg (by omega)] at hb
      simp at hb
    rw [this, decide_eq_true h0]; rfl
  · have : o.steps.any (heldB o A) = true := by
      rw [List.any_eq_true]
      obtain ⟨t, ht⟩ : ∃ t, o.steps[0]? = some t := ⟨_, List.getElem?_eq_getElem (by omega)⟩
      refine ⟨t, List.mem_of_getElem? ht, ?_⟩
      unfold heldB
      rw [sees_held h ht, if_pos (by omega)]
      have := may_svc h.may ht
      simpa using (by omega : 0 < t.2)
    rw [this, decide_eq_false h0]; rfl
theorem sees_stock {o : Ord} {A : List Act2} (h : o.may = true) : heldN o A 1 = 0 := by
  have hi : atOf o.steps 1 < 0 := by
    unfold atOf
    have hn : ∀ t ∈ o.steps, svc 1 t = false := by
      intro t ht
      obtain ⟨j, hj, rfl⟩ := List.getElem_of_mem ht
      have := may_svc h (List.getElem?_eq_getElem hj)
      unfold svc
      simp
      omega
    have h2 := fAt_app (a := o.steps) (b := []) hn
    rw [List.append_nil] at h2
    rw [h2]
    simp [up, fAt]
  unfold heldN
  rw [if_pos hi]
/-- The same, telling that a row of acts that grew lies in new memory. -/
theorem see_any2 (p : Nat) (a b : Option Addr) (c d : Nat) (o : Ord) (A : List Act2) (s : Sty) (x y : Int) (w : World) (h : ModAt w p a c b d o A) (hi : MInv o A s) :
    Calls Try.prog 18 #[.pointer (some ⟨p, 0, none⟩), .agg #[.int .i64 x, .int .i64 y]] w (fun e w' => ∃ (b' : Option Addr) (d' : Nat), e = .returned (.bool (s.may (x, y) o.steps.length)) ∧ ModAt w' p a c b' d' o (if s.may (x, y) o.steps.length then A ++ [(x, y)] else A) ∧ MInv o (if s.may (x, y) o.steps.length then A ++ [(x, y)] else A) (if s.may (x, y) o.steps.length then s.note x else s) ∧ Keeps (fun k => k = p) w w' ∧ (b' = b ∨ ∀ z, b' = some z → w.heap.size ≤ z.block)) := by
  have hs := hi.small
  cases hm : s.may (x, y) o.steps.length with
  | false =>
    refine (see_no p a b c d o A x y _ w h (hi.stop hm) (by omega)).mono ?_
    rintro e w' ⟨he, k⟩
    exact ⟨b, d, he, h.keeps k, hi, k.mono (fun _ _ h => h.elim), .inl rfl⟩
  | true =>
    refine (see_yes2 p a b c d o A x y w h (hi.goes hm) (by omega)).mono ?_
    rintro e w' ⟨he, ⟨b', d', h', hz⟩, k⟩
    exact ⟨b', d', he, h', hi.step hm, k, .inr hz⟩
/-- The model stands where three blocks of the page's are written. -/
theorem ModAt.past {w w' : World} {p : Nat} {a b : Option Addr} {c d q0 q1 q2 : Nat} {o : Ord} {A : List Act2} (h : ModAt w p a c b d o A) (k : Keeps (fun k => k = q0 ∨ k = q1 ∨ k = q2) w w') (hp : ¬ (p = q0 ∨ p = q1 ∨ p = q2)) (ha : ∀ z, a = some z → o.steps ≠ [] → ¬ (z.block = q0 ∨ z.block = q1 ∨ z.block = q2)) (hb : ∀ z, b = some z → ¬ (z.block = q0 ∨ z.block = q1 ∨ z.block = q2)) : ModAt w' p a c b d o A :=
  ⟨h.cells.keeps k hp, by
    intro i x hx
    have hne : o.steps ≠ [] := fun e => by rw [e] at hx; simp at hx
    obtain ⟨g, off, e, hl, h0, h1⟩ := h.steps i x hx
    have hg := ha _ e hne
    exact ⟨g, off, e, Nat.lt_of_lt_of_le hl k.size, (k.cell (p := ⟨g, off + i * 2, none⟩) hl hg).trans h0, (k.cell (p := ⟨g, off + i * 2 + 1, none⟩) hl hg).trans h1⟩, h.acts.keeps k hb, h.sa, h.sb, h.may, h.len⟩
end Go.Proofs.Ytjlfkpimjjnolaa
