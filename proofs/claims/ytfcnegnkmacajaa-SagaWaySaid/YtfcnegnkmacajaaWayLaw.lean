/- What the law SagaWay meets: the facts of an order on its way, what they need, where they go. Nothing here is walked. -/
import Derived.Test.YtfcnegnkmacajaaAsks
import Derived.Test.YtfcnegnkmacajaaTells
import Derived.Test.YtfcnegnkmacajaaFacts2
namespace Go.Proofs.Ytfcnegnkmacajaa
open Go.RowKit
/-- How far an order is. -/
structure Wy where
  j : Nat
  k : Nat
  asked : Bool
  yes : Bool
  turned : Bool
  a0 : Bool
  a1 : Bool
  shipped : Bool
def Wy.fct (n : Nat) (s : Wy) : Fct := ⟨rowF n (fun i => decide (i < s.j)), rowF n (fun i => decide (s.k ≤ i)), s.asked, s.yes, s.turned, s.a0, s.a1, s.shipped, false, false, false⟩
def Wy.ok (n : Nat) (s : Wy) : Prop := s.j ≤ n ∧ s.k ≤ n ∧ (s.a1 = true → s.a0 = true) ∧ ((s.yes = false ∧ s.turned = false ∧ s.asked = false ∧ s.a0 = false ∧ s.a1 = false ∧ s.shipped = false ∧ s.k = n) ∨ (s.yes = true ∧ s.turned = false ∧ s.asked = true ∧ s.j = n ∧ s.k = n ∧ (s.shipped = true → s.a1 = true)) ∨ (s.yes = false ∧ s.turned = true ∧ s.shipped = false))
/-- How many answers 'yes' it is away from its end. -/
def Wy.rank (n : Nat) (s : Wy) : Nat := if s.yes then (if s.shipped then 0 else 1) else if s.turned then s.k + (if s.a1 then 0 else 1) else (n - s.j) + 2
theorem Wy.rank_le {n : Nat} {s : Wy} (h : s.ok n) : s.rank n ≤ n + 2 := by
  obtain ⟨h1, h2, _, _⟩ := h
  unfold Wy.rank
  split
  · split <;> omega
  · split
    · split <;> omega
    · omega
theorem hasB_some {n i : Nat} {h : Nat → Bool} {b : Bool} (hi : i < n) (hb : h i = b) : hasB (rowF n h) b = true := by
  unfold hasB
  rw [List.any_eq_true]
  refine ⟨h i, List.mem_iff_getElem?.2 ⟨i, rowF_get _ _ hi⟩, ?_⟩
  subst hb
  cases h i <;> simp [isB]
theorem rowF_none (n : Nat) : rowF n (fun i => decide (n ≤ i)) = rowF n (fun _ => false) := rowF_congr (fun i hi => by simp; omega)
theorem rowF_all (n : Nat) : rowF n (fun i => decide (i < n)) = rowF n (fun _ => true) := rowF_congr (fun i hi => by simp [hi])
section
variable {o : Ord} {s : Wy} (hm : o.may = true) (h : s.ok o.steps.length)
include hm h
theorem way_may : Fct.may o (s.fct o.steps.length) = true := by
  obtain ⟨j, k, asked, yes, turned, a0, a1, shipped⟩ := s
  obtain ⟨h1, h2, h3, h4⟩ := h
  simp only at h1 h2 h3 h4
  have f1 := firstB_rowF (n := o.steps.length) (h := fun i => decide (i < j)) (fun i _ h => by simp only [decide_eq_true_eq] at h ⊢; omega)
  have f3 := lastB_rowF (n := o.steps.length) (h := fun i => decide (k ≤ i)) (fun i _ h => by simp only [decide_eq_true_eq] at h ⊢; omega)
  rcases h4 with ⟨rfl, rfl, rfl, rfl, rfl, rfl, rfl⟩ | ⟨rfl, rfl, rfl, rfl, rfl, _⟩ | ⟨rfl, rfl, rfl⟩
  · have f2 := hasB_rowF (n := o.steps.length) (h := fun i => decide (o.steps.length ≤ i)) (b := true) (fun i hi => by simp; omega)
    simp [Fct.may, Wy.fct, hm, rowF_len, f1, f2, f3]
  · have f2 := hasB_rowF (n := o.steps.length) (h := fun i => decide (o.steps.length ≤ i)) (b := true) (fun i hi => by simp; omega)
    have f4 := hasB_rowF (n := o.steps.length) (h := fun i => decide (i < o.steps.length)) (b := false) (fun i hi => by simp [hi])
    simp [Fct.may, Wy.fct, hm, rowF_len, f1, f2, f3, f4]
  · simp [Fct.may, Wy.fct, hm, rowF_len, f1, f3]
/-- At its end. -/
theorem way_end (hr : s.rank o.steps.length = 0) : nextL o (s.fct o.steps.length) = [] ∧ (s.fct o.steps.length).over o = true ∧ ((s.yes = true ∧ s.turned = false ∧ (s.fct o.steps.length).state o = 5) ∨ (s.yes = false ∧ s.turned = true ∧ (s.fct o.steps.length).state o = 6)) := by
  have hmay := way_may hm h
  obtain ⟨j, k, asked, yes, turned, a0, a1, shipped⟩ := s
  obtain ⟨h1, h2, h3, h4⟩ := h
  simp only at h1 h2 h3 h4
  rcases h4 with ⟨rfl, rfl, rfl, rfl, rfl, rfl, rfl⟩ | ⟨rfl, rfl, rfl, rfl, rfl, h5⟩ | ⟨rfl, rfl, rfl⟩
  · simp [Wy.rank] at hr
  · cases shipped with
    | false => simp [Wy.rank] at hr
    | true =>
      have e1 := h5 rfl
      subst e1
      have e0 := h3 rfl
      subst e0
      refine ⟨?_, ?_, .inl ⟨rfl, rfl, ?_⟩⟩
      · unfold nextL
        rw [hmay]
        simp [Wy.fct, decTo]
      · unfold Fct.over
        rw [hmay]
        simp [Wy.fct, Fct.ends]
      · unfold Fct.state
        rw [hmay]
        simp [Wy.fct, Fct.ends]
  · cases a1 with
    | false => simp [Wy.rank] at hr
    | true =>
      have e0 := h3 rfl
      subst e0
      simp [Wy.rank] at hr
      subst hr
      have f5 := hasB_rowF (n := o.steps.length) (h := fun i => decide (0 ≤ i)) (b := false) (fun i hi => by simp)
      have f6 := undAt_none (o := o) (u := rowF o.steps.length (fun i => decide (0 ≤ i))) (k := o.steps.length) (fun i hi => by rw [List.getD_eq_getElem?_getD, rowF_get _ _ hi]; simp)
      refine ⟨?_, ?_, .inr ⟨rfl, rfl, ?_⟩⟩
      · unfold nextL
        rw [hmay]
        simp only [Wy.fct, Bool.true_eq_false, if_false, if_true, f6, List.append_nil]
        simp [decTo]
      · unfold Fct.over
        rw [hmay]
        simp only [Wy.fct, Fct.ends, f5]
        simp
      · unfold Fct.state
        rw [hmay]
        simp only [Wy.fct, Fct.ends, f5]
        simp
/-- On its way: what it needs. -/
theorem way_go (hr : s.rank o.steps.length ≠ 0) : (s.fct o.steps.length).over o = false ∧
    ((∃ x, o.steps[s.j]? = some x ∧ s.yes = false ∧ s.turned = false ∧ s.asked = false ∧ s.a0 = false ∧ s.a1 = false ∧ s.shipped = false ∧ s.k = o.steps.length ∧ nextL o (s.fct o.steps.length) = [⟨1, 0, x.1, o.id, s.j, x.2, 0⟩])
    ∨ (s.j = o.steps.length ∧ s.yes = false ∧ s.turned = false ∧ s.asked = false ∧ s.a0 = false ∧ s.a1 = false ∧ s.shipped = false ∧ s.k = o.steps.length ∧ nextL o (s.fct o.steps.length) = [⟨6, 0, 1, o.id, 0, o.item, o.qty⟩, ⟨6, 0, 2, o.id, 0, o.client, o.price⟩])
    ∨ (s.j = o.steps.length ∧ s.yes = true ∧ s.turned = false ∧ s.asked = true ∧ s.shipped = false ∧ s.k = o.steps.length ∧ nextL o (s.fct o.steps.length) = decTo 9 o s.a0 s.a1 2 ++ [⟨15, 0, 3, o.id, 0, o.item, o.qty⟩])
    ∨ (∃ x kk, o.steps[kk]? = some x ∧ kk + 1 = s.k ∧ s.yes = false ∧ s.turned = true ∧ s.shipped = false ∧ nextL o (s.fct o.steps.length) = decTo 10 o s.a0 s.a1 2 ++ [⟨4, 0, x.1, o.id, kk, 0, 0⟩])
    ∨ (s.k = 0 ∧ s.a1 = false ∧ s.yes = false ∧ s.turned = true ∧ s.shipped = false ∧ nextL o (s.fct o.steps.length) = decTo 10 o s.a0 true 2 ++ [⟨10, 0, 2, o.id, 0, 0, 0⟩])) := by
  have hmay := way_may hm h
  obtain ⟨j, k, asked, yes, turned, a0, a1, shipped⟩ := s
  obtain ⟨h1, h2, h3, h4⟩ := h
  simp only at h1 h2 h3 h4 ⊢
  rcases h4 with ⟨rfl, rfl, rfl, rfl, rfl, rfl, rfl⟩ | ⟨rfl, rfl, rfl, rfl, rfl, h5⟩ | ⟨rfl, rfl, rfl⟩
  · refine ⟨?_, ?_⟩
    · unfold Fct.over
      simp [Wy.fct, Fct.ends]
    · by_cases hj : j < o.steps.length
      · obtain ⟨x, hx⟩ : ∃ x, o.steps[j]? = some x := ⟨_, List.getElem?_eq_getElem hj⟩
        refine .inl ⟨x, hx, rfl, rfl, rfl, rfl, rfl, rfl, rfl, ?_⟩
        have := asks_next_lt o j hm hx
        rw [← rowF_none] at this
        exact this
      · obtain rfl : j = o.steps.length := by omega
        refine .inr (.inl ⟨rfl, rfl, rfl, rfl, rfl, rfl, rfl, rfl, ?_⟩)
        have := asks_next_eq o o.steps.length hm rfl
        rw [← rowF_none] at this
        exact this
  · cases shipped with
    | true => simp [Wy.rank] at hr
    | false =>
      refine ⟨?_, .inr (.inr (.inl ⟨rfl, rfl, rfl, rfl, rfl, rfl, ?_⟩))⟩
      · unfold Fct.over
        simp [Wy.fct, Fct.ends]
      · have := tells_next_y o a0 a1 hm
        rw [← rowF_none, ← rowF_all] at this
        exact this
  · have hnext : nextL o (Wy.fct o.steps.length ⟨j, k, asked, false, true, a0, a1, false⟩) = decTo 10 o a0 a1 2 ++ undAt o (rowF o.steps.length (fun i => decide (k ≤ i))) o.steps.length := by
      unfold nextL
      rw [hmay]
      simp only [Wy.fct, Bool.true_eq_false, if_false, if_true]
    by_cases hk : k = 0
    · subst hk
      cases a1 with
      | true => simp [Wy.rank] at hr
      | false =>
        refine ⟨?_, .inr (.inr (.inr (.inr ⟨rfl, rfl, rfl, rfl, rfl, ?_⟩)))⟩
        · unfold Fct.over
          simp [Wy.fct, Fct.ends]
        · have f6 := undAt_none (o := o) (u := rowF o.steps.length (fun i => decide (0 ≤ i))) (k := o.steps.length) (fun i hi => by rw [List.getD_eq_getElem?_getD, rowF_get _ _ hi]; simp)
          rw [hnext, f6]
          cases a0 <;> simp [decTo]
    · obtain ⟨kk, rfl⟩ : ∃ kk, k = kk + 1 := ⟨k - 1, by omega⟩
      have hl : kk < o.steps.length := by omega
      obtain ⟨x, hx⟩ : ∃ x, o.steps[kk]? = some x := ⟨_, List.getElem?_eq_getElem hl⟩
      refine ⟨?_, .inr (.inr (.inr (.inl ⟨x, kk, hx, rfl, rfl, rfl, rfl, ?_⟩)))⟩
      · have f7 := hasB_some (n := o.steps.length) (i := kk) (h := fun i => decide (kk + 1 ≤ i)) (b := false) hl (by simp)
        unfold Fct.over
        simp [Wy.fct, Fct.ends, f7]
      · have h2 := undAt_some (o := o) (u := rowF o.steps.length (fun i => decide (kk + 1 ≤ i))) (x := kk) (k := o.steps.length) (by rw [List.getD_eq_getElem?_getD, rowF_get _ _ hl]; simp) hl (fun i hi hi2 => by rw [List.getD_eq_getElem?_getD, rowF_get _ _ hi2]; simp; omega)
        have hs : stAt o.steps kk = x := by unfold stAt; rw [List.getD_eq_getElem?_getD, hx]; rfl
        rw [hnext, h2, hs]
end
/-- All that is sent bears the order's number and comes of the chief. -/
theorem dec_from {K : Int} {o : Ord} {a0 a1 : Bool} {L : List Ms} {m : Ms} (hL : L = decTo K o a0 a1 2 ++ [m]) (h1 : m.src = 0) (h2 : m.id = o.id) : ∀ (q : Nat) (x : Ms), L[q]? = some x → x.src = 0 ∧ x.id = o.id := by
  subst hL
  intro q x hx
  have hx2 := List.mem_of_getElem? hx
  rw [List.mem_append] at hx2
  rcases hx2 with h | h
  · rcases dec_mem h with ⟨_, rfl⟩ | ⟨_, rfl⟩ <;> exact ⟨rfl, rfl⟩
  · simp only [List.mem_singleton] at h
    subst h
    exact ⟨h1, h2⟩
/-- The answers behind the first q messages. -/
def ackq (d : Int) (L : List Ms) (b : Bool) : Bool := b || L.any (fun m => (m.kind == 9 || m.kind == 10) && m.dst == d)
theorem ackq_take {d : Int} {L : List Ms} {q : Nat} {x : Ms} {b : Bool} (h : L[q]? = some x) : ackq d (L.take (q + 1)) b = (ackq d (L.take q) b || ((x.kind == 9 || x.kind == 10) && x.dst == d)) := by
  have hl := (List.getElem?_eq_some_iff.1 h).1
  have hx := (List.getElem?_eq_some_iff.1 h).2
  rw [List.take_succ_eq_append_getElem hl, hx]
  simp [ackq, Bool.or_assoc]
theorem ackq_dec0 {K : Int} (hK : K = 9 ∨ K = 10) (o : Ord) (a0 a1 : Bool) : ackq 1 (decTo K o a0 a1 2) a0 = true := by rcases hK with rfl | rfl <;> cases a0 <;> cases a1 <;> simp [decTo, ackq]
theorem ackq_dec1 {K : Int} (hK : K = 9 ∨ K = 10) (o : Ord) (a0 a1 : Bool) : ackq 2 (decTo K o a0 a1 2) a1 = true := by rcases hK with rfl | rfl <;> cases a0 <;> cases a1 <;> simp [decTo, ackq]
theorem ackq_dec2 (K : Int) (o : Ord) (a0 y : Bool) : ackq 2 (decTo K o a0 true 2) y = y := by cases a0 <;> simp [decTo, ackq]
/-- What stands last, and what ahead of it. -/
theorem last_of {L ini : List Ms} {m mm : Ms} {ll : Nat} (hL : L = ini ++ [m]) (hl : L.length = ll + 1) (h : L[ll]? = some mm) : mm = m ∧ L.take ll = ini := by
  subst hL
  simp only [List.length_append, List.length_cons, List.length_nil, Nat.zero_add, Nat.add_right_cancel_iff] at hl
  subst hl
  simp at h
  exact ⟨h.symm, by simp⟩
theorem dec_kinds {K : Int} {o : Ord} {a0 a1 : Bool} {L : List Ms} {m : Ms} {ll : Nat} (hK : K = 9 ∨ K = 10) (hL : L = decTo K o a0 a1 2 ++ [m]) (hl : L.length = ll + 1) : ∀ (q : Nat) (x : Ms), q < ll → L[q]? = some x → x.kind = 6 ∨ ((x.kind = 9 ∨ x.kind = 10) ∧ (x.dst = 1 ∨ x.dst = 2)) := by
  subst hL
  intro q x hq hx
  simp only [List.length_append, List.length_cons, List.length_nil, Nat.zero_add, Nat.add_right_cancel_iff] at hl
  rw [List.getElem?_append_left (by omega)] at hx
  rcases dec_mem (List.mem_of_getElem? hx) with ⟨_, rfl⟩ | ⟨_, rfl⟩
  · exact .inr ⟨hK, .inl rfl⟩
  · exact .inr ⟨hK, .inr rfl⟩
theorem one_kinds {L : List Ms} {m : Ms} {ll : Nat} (hL : L = [m]) (hl : L.length = ll + 1) : ∀ (q : Nat) (x : Ms), q < ll → L[q]? = some x → x.kind = 6 ∨ ((x.kind = 9 ∨ x.kind = 10) ∧ (x.dst = 1 ∨ x.dst = 2)) := by
  intro q x hq hx
  rw [hL] at hl
  simp at hl
  omega
theorem two_kinds {L : List Ms} {m1 m : Ms} {ll : Nat} (hL : L = [m1, m]) (h6 : m1.kind = 6) (hl : L.length = ll + 1) : ∀ (q : Nat) (x : Ms), q < ll → L[q]? = some x → x.kind = 6 ∨ ((x.kind = 9 ∨ x.kind = 10) ∧ (x.dst = 1 ∨ x.dst = 2)) := by
  intro q x hq hx
  rw [hL] at hl hx
  simp at hl
  obtain rfl : q = 0 := by omega
  simp at hx
  subst hx
  exact .inl h6
/- Where it goes. -/
theorem go_do {n j : Nat} (hj : j < n) (y : Bool) : (Wy.mk (if y then j + 1 else j) n false false (!y) false false false).ok n ∧ (y = true → (Wy.mk (if y then j + 1 else j) n false false (!y) false false false).rank n < (Wy.mk j n false false false false false false).rank n) := by
  cases y <;> simp [Wy.ok, Wy.rank] <;> omega
theorem go_ask {n : Nat} (y : Bool) : (Wy.mk n n true y (!y) false false false).ok n ∧ (y = true → (Wy.mk n n true y (!y) false false false).rank n < (Wy.mk n n false false false false false false).rank n) := by
  cases y <;> simp [Wy.ok, Wy.rank]
theorem go_ship {n : Nat} (a0 a1 y : Bool) : (Wy.mk n n true true false true true y).ok n ∧ (y = true → (Wy.mk n n true true false true true y).rank n < (Wy.mk n n true true false a0 a1 false).rank n) := by
  cases y <;> simp [Wy.ok, Wy.rank]
theorem go_undo {n j kk : Nat} (hj : j ≤ n) (hk : kk + 1 ≤ n) (asked a0 a1 y : Bool) : (Wy.mk j (if y then kk else kk + 1) asked false true true true false).ok n ∧ (y = true → (Wy.mk j (if y then kk else kk + 1) asked false true true true false).rank n < (Wy.mk j (kk + 1) asked false true a0 a1 false).rank n) := by
  cases y <;> cases a1 <;> simp [Wy.ok, Wy.rank] <;> omega
theorem go_abort {n j : Nat} (hj : j ≤ n) (asked a0 y : Bool) : (Wy.mk j 0 asked false true true y false).ok n ∧ (y = true → (Wy.mk j 0 asked false true true y false).rank n < (Wy.mk j 0 asked false true a0 false false).rank n) := by
  cases y <;> simp [Wy.ok, Wy.rank] <;> omega
end Go.Proofs.Ytfcnegnkmacajaa
