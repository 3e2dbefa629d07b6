/- Sums from 1 on. -/
import Derived.Test.YthiplekpdmdhiaaLib
namespace Go.Proofs.Ythiplekpdmdhiaa.SU
def sumTo (f : Int → Int) : Nat → Int
  | 0 => 0
  | j + 1 => sumTo f j + f ((j + 1 : Nat) : Int)
theorem sumTo_update {f g : Int → Int} {id : Int} (h : ∀ k, k ≠ id → g k = f k) (h1 : 1 ≤ id) : ∀ j : Nat, sumTo g j = sumTo f j + (if id ≤ j then g id - f id else 0)
  | 0 => by
    have : ¬ id ≤ ((0 : Nat) : Int) := by omega
    rw [if_neg this]; rfl
  | j + 1 => by
    simp only [sumTo]
    rw [sumTo_update h h1 j]
    by_cases e : ((j + 1 : Nat) : Int) = id
    · rw [e, if_neg (by omega), if_pos (by omega)]; omega
    · rw [h _ e]
      by_cases hj : id ≤ (j : Int)
      · rw [if_pos hj, if_pos (by omega)]; omega
      · rw [if_neg hj, if_neg (by omega)]; omega
theorem sumTo_nonneg {f : Int → Int} (h : ∀ k, 0 ≤ f k) : ∀ j, 0 ≤ sumTo f j
  | 0 => Int.le_refl _
  | j + 1 => by have := sumTo_nonneg h j; have := h ((j + 1 : Nat) : Int); simp only [sumTo]; omega
theorem le_sumTo {f : Int → Int} (h : ∀ k, 0 ≤ f k) {id : Int} (h1 : 1 ≤ id) : ∀ j : Nat, id ≤ j → f id ≤ sumTo f j
  | 0, hj => by omega
  | j + 1, hj => by
    have hn := sumTo_nonneg h j
    simp only [sumTo]
    by_cases e : ((j + 1 : Nat) : Int) = id
    · rw [e]; omega
    · have := le_sumTo h h1 j (by omega)
      have := h ((j + 1 : Nat) : Int)
      omega
theorem sumTo_mono {f : Int → Int} (h : ∀ k, 0 ≤ f k) {i : Nat} : ∀ j : Nat, i ≤ j → sumTo f i ≤ sumTo f j
  | 0, hj => by obtain rfl : i = 0 := by omega
                exact Int.le_refl _
  | j + 1, hj => by
    by_cases e : i = j + 1
    · rw [e]; exact Int.le_refl _
    · have := sumTo_mono (i := i) h j (by omega)
      have := h ((j + 1 : Nat) : Int)
      simp only [sumTo]
      omega
end Go.Proofs.Ythiplekpdmdhiaa.SU
