/- A message cut out of a row of one's own: what the cells come to. -/
import Derived.Test.YtkacnogjifhcoaaMsgs
import Derived.Laws.IdiomCopy
namespace Go.Proofs.Ytkacnogjifhcoaa
open Go.RowKit
/-- vs with xs laid over it from o on. -/
def over (vs : List Value) : Nat → List Value → List Value
  | _, [] => vs
  | o, x :: r => over (vs.set o x) (o + 1) r
theorem over_len : ∀ (xs vs : List Value) (o : Nat), (over vs o xs).length = vs.length
  | [], _, _ => rfl
  | x :: r, vs, o => by rw [over, over_len r]; simp
theorem over_get : ∀ (xs vs : List Value) (o k : Nat), o + xs.length ≤ vs.length → (over vs o xs)[k]? = if o ≤ k ∧ k < o + xs.length then xs[k - o]? else vs[k]?
  | [], vs, o, k, _ => by rw [over, if_neg (by simp)]
  | x :: r, vs, o, k, h => by
    simp only [List.length_cons] at h
    rw [over, over_get r (vs.set o x) (o + 1) k (by simp; omega)]
    by_cases h1 : o + 1 ≤ k ∧ k < o + 1 + r.length
    · rw [if_pos h1, if_pos (by simp only [List.length_cons]; omega), show k - o = (k - (o + 1)) + 1 by omega, List.getElem?_cons_succ]
    · rw [if_neg h1]
      by_cases h2 : k = o
      · subst h2
        rw [if_pos (by simp), Nat.sub_self, List.getElem?_cons_zero, List.getElem?_set_self (by omega)]
      · rw [if_neg (by simp only [List.length_cons]; omega), List.getElem?_set_ne (by omega)]
theorem Blk.over_ {w : World} {b : Nat} {T : TypeId} : ∀ (xs : List Value) {vs : List Value} (o : Nat) {w : World}, Blk w b T vs → Blk (w.setCells b o xs) b T (over vs o xs)
  | [], _, _, _, h => h
  | x :: r, _, o, _, h => Blk.over_ (w := w) r (o + 1) (h.set o x)
theorem keeps_setCells (b : Nat) : ∀ (xs : List Value) (o : Nat) (w : World), Keeps (fun k => k = b) w (w.setCells b o xs)
  | [], _, w => Keeps.refl _ w
  | x :: r, o, w => ((Keeps.refl (fun k => k = b) w).setCell (p := ⟨b, o, none⟩) (.inr rfl) x).then (keeps_setCells b r (o + 1) _) (fun _ _ h => h)
/-- What the cells come to: the i-th is gone, the others moved up, zero at the end. -/
theorem cut_cells {cur : List Value} {L : List Ms} {i : Nat} {z : List Value} (hi : i < L.length) (hz : z.length = 7) (hc : L.length * 7 ≤ cur.length) (ht : cur.take (L.length * 7) = L.flatMap encMs) :
    (over (over cur (i * 7) ((L.drop (i + 1)).flatMap encMs)) ((L.length - 1) * 7) z).take ((L.length - 1) * 7) = (L.eraseIdx i).flatMap encMs := by
  have hl1 : ((L.drop (i + 1)).flatMap encMs).length = (L.length - (i + 1)) * 7 := by rw [flat_len encMs 7 encMs_len]; simp
  have hl2 : ((L.eraseIdx i).flatMap encMs).length = (L.length - 1) * 7 := by rw [flat_len encMs 7 encMs_len, List.length_eraseIdx, if_pos hi]
  apply List.ext_getElem?
  intro k
  rw [List.getElem?_take]
  by_cases hk : k < (L.length - 1) * 7
  · rw [if_pos hk, over_get _ _ _ _ (by rw [over_len, hz]; omega), if_neg (by omega), over_get _ _ _ _ (by rw [hl1]; omega), List.eraseIdx_eq_take_drop_succ, List.flatMap_append]
    have hl3 : ((L.take i).flatMap encMs).length = i * 7 := by rw [flat_len encMs 7 encMs_len, List.length_take, Nat.min_eq_left (by omega)]
    by_cases h1 : k < i * 7
    · rw [if_neg (by omega), List.getElem?_append_left (by rw [hl3]; exact h1)]
      have h2 : cur[k]? = (L.flatMap encMs)[k]? := by rw [← ht, List.getElem?_take, if_pos (by omega)]
      rw [h2]
      have h3 : L.flatMap encMs = (L.take i).flatMap encMs ++ (L.drop i).flatMap encMs := by rw [← List.flatMap_append, List.take_append_drop]
      rw [h3, List.getElem?_append_left (by rw [hl3]; exact h1)]
    · rw [if_pos (by rw [hl1]; omega), List.getElem?_append_right (by rw [hl3]; omega), hl3]
  · rw [if_neg hk, List.getElem?_eq_none (by rw [hl2]; omega)]
end Go.Proofs.Ytkacnogjifhcoaa
