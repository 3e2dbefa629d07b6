/- The page's all and none, walked; which facts may be, place by place. -/
import Derived.Test.YtfcnegnkmacajaaFacts0
namespace Go.Proofs.Ytfcnegnkmacajaa
open Go.RowKit
theorem hasB_of {L : List Bool} {b : Bool} {k : Nat} (h : L[k]? = some b) : hasB L b = true := by
  unfold hasB
  exact List.any_eq_true.2 ⟨b, List.mem_of_getElem? h, by simp [isB]⟩
theorem hasB_not {L : List Bool} {b : Bool} (h : ∀ (k : Nat) (x : Bool), L[k]? = some x → x = !b) : hasB L b = false := by
  cases e : hasB L b with
  | false => rfl
  | true =>
    obtain ⟨x, hx, hp⟩ := List.any_eq_true.1 e
    obtain ⟨k, hk⟩ := List.mem_iff_getElem?.1 hx
    have := h k x hk
    subst this
    cases b <;> simp [isB] at hp
set_option maxHeartbeats 1000000 in
theorem rall_to (a : Option Addr) (cap n : Nat) (L : List Bool) (r : Bool) (w : World) (hL : BlRow w a L) (hn : L.length = n) (hm : n ≤ maxLen) (hr : (!hasB L false) = r) :
    Calls Try.prog 35 #[.slice a n cap] w (Says w (.bool r)) := by
  subst hr; subst hn
  unfold maxLen at hm
  have HL := Kept.mk hL
  clear hL
  go_enter Try.func35, Try.ntmps35
  go_wp2
  go_loop [7] (fun i => ∃ j : Nat, j ≤ L.length ∧ i = .int .i64 j ∧ Kept (∀ k x, k < j → L[k]? = some x → x = true)) (fun i => L.length - (intOf i).toNat)
  case atStart => exact ⟨0, Nat.zero_le _, rfl, ⟨fun k x h => by omega⟩⟩
  case round =>
    obtain ⟨j, hj, rfl, hf⟩ := hrel
    by_cases hlt : j < L.length
    · obtain ⟨x, hx⟩ : ∃ x, L[j]? = some x := ⟨_, List.getElem?_eq_getElem hlt⟩
      obtain ⟨g, off, rfl, hgl, c0⟩ := HL.out j x hx
      have Hx := Kept.mk hx
      clear hx
      cases x with
      | true =>
        go_wp2_with fail
        go_round
        case rel => exact ⟨j + 1, by omega, by go_num, ⟨fun k x h hk => by
          rcases Nat.lt_or_ge k j with h1 | h1
          · exact hf.out k x h1 hk
          · obtain rfl : k = j := by omega
            rw [Hx.out] at hk
            simpa using hk.symm⟩⟩
        case measure => simp [intOf]; omega
      | false =>
        have hr : Kept (hasB L false = true) := ⟨hasB_of Hx.out⟩
        go_wp2_with fail
        go_ret
        exact ⟨by rw [hr.out]; rfl, rfl⟩
    · have hr : Kept (hasB L false = false) := ⟨hasB_not fun k x hk => by
        have := hf.out k x (by have := (List.getElem?_eq_some_iff.1 hk).1; omega) hk
        simpa using this⟩
      go_wp2_with fail
      go_ret
      exact ⟨by rw [hr.out]; rfl, rfl⟩
set_option maxHeartbeats 1000000 in
theorem rnone_to (a : Option Addr) (cap n : Nat) (L : List Bool) (r : Bool) (w : World) (hL : BlRow w a L) (hn : L.length = n) (hm : n ≤ maxLen) (hr : (!hasB L true) = r) :
    Calls Try.prog 36 #[.slice a n cap] w (Says w (.bool r)) := by
  subst hr; subst hn
  unfold maxLen at hm
  have HL := Kept.mk hL
  clear hL
  go_enter Try.func36, Try.ntmps36
  go_wp2
  go_loop [7] (fun i => ∃ j : Nat, j ≤ L.length ∧ i = .int .i64 j ∧ Kept (∀ k x, k < j → L[k]? = some x → x = false)) (fun i => L.length - (intOf i).toNat)
  case atStart => exact ⟨0, Nat.zero_le _, rfl, ⟨fun k x h => by omega⟩⟩
  case round =>
    obtain ⟨j, hj, rfl, hf⟩ := hrel
    by_cases hlt : j < L.length
    · obtain ⟨x, hx⟩ : ∃ x, L[j]? = some x := ⟨_, List.getElem?_eq_getElem hlt⟩
      obtain ⟨g, off, rfl, hgl, c0⟩ := HL.out j x hx
      have Hx := Kept.mk hx
      clear hx
      cases x with
      | false =>
        go_wp2_with fail
        go_round
        case rel => exact ⟨j + 1, by omega, by go_num, ⟨fun k x h hk => by
          rcases Nat.lt_or_ge k j with h1 | h1
          · exact hf.out k x h1 hk
          · obtain rfl : k = j := by omega
            rw [Hx.out] at hk
            simpa using hk.symm⟩⟩
        case measure => simp [intOf]; omega
      | true =>
        have hr : Kept (hasB L true = true) := ⟨hasB_of Hx.out⟩
        go_wp2_with fail
        go_ret
        exact ⟨by rw [hr.out]; rfl, rfl⟩
    · have hr : Kept (hasB L true = false) := ⟨hasB_not fun k x hk => by
        have := hf.out k x (by have := (List.getElem?_eq_some_iff.1 hk).1; omega) hk
        simpa using this⟩
      go_wp2_with fail
      go_ret
      exact ⟨by rw [hr.out]; rfl, rfl⟩
theorem lastB_iff (L : List Bool) : lastB L = true ↔ ∀ k x y, L[k]? = some x → L[k + 1]? = some y → (x && !y) = false := by
  unfold lastB
  rw [firstB_iff]
  have hr : ∀ k, k < L.length → L.reverse[k]? = L[L.length - 1 - k]? := fun k hk => by rw [List.getElem?_reverse hk]
  constructor
  · intro h k x y hx hy
    have h1 := (List.getElem?_eq_some_iff.1 hx).1
    have h2 := (List.getElem?_eq_some_iff.1 hy).1
    refine h (L.length - 1 - (k + 1)) y x ?_ ?_
    · rw [hr _ (by omega), show L.length - 1 - (L.length - 1 - (k + 1)) = k + 1 by omega]; exact hy
    · rw [hr _ (by omega), show L.length - 1 - (L.length - 1 - (k + 1) + 1) = k by omega]; exact hx
  · intro h k x y hx hy
    have h1 := (List.getElem?_eq_some_iff.1 hx).1
    have h2 := (List.getElem?_eq_some_iff.1 hy).1
    rw [List.length_reverse] at h1 h2
    rw [hr _ h1] at hx
    rw [hr _ h2] at hy
    refine h (L.length - 1 - (k + 1)) y x hy ?_
    rw [show L.length - 1 - (k + 1) + 1 = L.length - 1 - k by omega]; exact hx
/-- At place j nothing is out of order. -/
def okF (t : Bool) (D U : List Bool) (j : Nat) : Prop := ∀ x y u v, D[j]? = some x → D[j + 1]? = some y → U[j]? = some u → U[j + 1]? = some v → (t = true ∨ (y && !x) = false) ∧ (u && !v) = false
theorem okF_all {t : Bool} {D U : List Bool} (hl : D.length = U.length) (h : ∀ j, j + 1 < D.length → okF t D U j) : ((firstB D || t) && lastB U) = true := by
  have get : ∀ (L : List Bool) j, j < L.length → ∃ x, L[j]? = some x := fun L j hj => ⟨_, List.getElem?_eq_getElem hj⟩
  rw [Bool.and_eq_true]
  constructor
  · cases t with
    | true => simp
    | false =>
      rw [Bool.or_false, firstB_iff]
      intro k x y hx hy
      have h2 := (List.getElem?_eq_some_iff.1 hy).1
      obtain ⟨u, hu⟩ := get U k (by omega)
      obtain ⟨v, hv⟩ := get U (k + 1) (by omega)
      rcases (h k h2 x y u v hx hy hu hv).1 with e | e
      · cases e
      · exact e
  · rw [lastB_iff]
    intro k x y hx hy
    have h2 := (List.getElem?_eq_some_iff.1 hy).1
    obtain ⟨u, hu⟩ := get D k (by omega)
    obtain ⟨v, hv⟩ := get D (k + 1) (by omega)
    exact (h k (by omega) u v x y hu hv hx hy).2
theorem okF_not {t : Bool} {D U : List Bool} {j : Nat} {x y u v : Bool} (h0 : D[j]? = some x) (h1 : D[j + 1]? = some y) (h2 : U[j]? = some u) (h3 : U[j + 1]? = some v) (h : ((!t && y && !x) || (u && !v)) = true) : ((firstB D || t) && lastB U) = false := by
  cases e : ((firstB D || t) && lastB U) with
  | false => rfl
  | true =>
    rw [Bool.and_eq_true] at e
    have hu := (lastB_iff U).1 e.2 j u v h2 h3
    rw [hu, Bool.or_false] at h
    cases t with
    | true => simp at h
    | false =>
      rw [Bool.or_false] at e
      have := (firstB_iff D).1 e.1 j x y h0 h1
      rw [Bool.not_false, Bool.true_and, this] at h
      cases h
end Go.Proofs.Ytfcnegnkmacajaa
