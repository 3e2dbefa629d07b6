/- Orders, plainly; and rows of steps. Nothing here speaks of the program. -/
import Derived.Test.YtjlfkpimjjnolaaRow
namespace Go.Proofs.Ytjlfkpimjjnolaa
open Go.RowKit
abbrev St := Int × Int
def encSt (x : St) : List Value := [.int .i64 x.1, .int .i64 x.2]
structure Ord where
  id : Int
  item : Int
  qty : Int
  client : Int
  price : Int
  steps : List St
def inB (lo hi x : Int) : Bool := decide (lo ≤ x) && decide (x ≤ hi)
theorem inB_iff (lo hi x : Int) : inB lo hi x = true ↔ lo ≤ x ∧ x ≤ hi := by simp [inB]
theorem inB_no {lo hi x : Int} (h : ¬ (lo ≤ x ∧ x ≤ hi)) : inB lo hi x = false := by
  cases e : inB lo hi x with
  | false => rfl
  | true => exact absurd ((inB_iff _ _ _).1 e) h
/-- Where the first one is that is so; -1: nowhere. -/
def fAt {α : Type} (p : α → Bool) : List α → Int
  | [] => -1
  | x :: r => if p x = true then 0 else if fAt p r < 0 then -1 else 1 + fAt p r
def up (k : Nat) (r : Int) : Int := if r < 0 then -1 else k + r
theorem fAt_ge {α : Type} (p : α → Bool) : ∀ L : List α, -1 ≤ fAt p L
  | [] => by simp [fAt]
  | x :: r => by simp only [fAt]; split <;> (try split) <;> omega
theorem fAt_lt {α : Type} (p : α → Bool) : ∀ L : List α, fAt p L < L.length
  | [] => by simp [fAt]
  | x :: r => by
    have := fAt_lt p r
    simp only [fAt, List.length_cons]
    split <;> (try split) <;> omega
theorem fAt_up {α : Type} {p : α → Bool} (k : Nat) {x : α} {r : List α} (h : p x = false) : up k (fAt p (x :: r)) = up (k + 1) (fAt p r) := by
  have e : fAt p (x :: r) = if fAt p r < 0 then -1 else 1 + fAt p r := by show (if p x = true then (0 : Int) else _) = _; rw [h]; rfl
  generalize fAt p (x :: r) = A at *
  generalize fAt p r = B at *
  subst e
  unfold up
  split <;> split <;> (try split) <;> omega
theorem fAt_yes {α : Type} {p : α → Bool} (k : Nat) {x : α} {r : List α} (h : p x = true) : up k (fAt p (x :: r)) = k := by
  have e : fAt p (x :: r) = 0 := by show (if p x = true then (0 : Int) else _) = _; rw [h]; rfl
  rw [e]; simp [up]
theorem fAt_zero {α : Type} (p : α → Bool) (L : List α) : fAt p L = up 0 (fAt p L) := by
  have := fAt_ge p L
  unfold up; split <;> omega
/-- None ahead of k is so: it stands at k or behind. -/
theorem fAt_app {α : Type} {p : α → Bool} : ∀ {a b : List α}, (∀ x ∈ a, p x = false) → fAt p (a ++ b) = up a.length (fAt p b)
  | [], b, _ => by rw [List.nil_append]; exact fAt_zero p b
  | x :: r, b, h => by
    have hx := h x (List.mem_cons_self ..)
    have ih := fAt_app (p := p) (a := r) (b := b) (fun y hy => h y (List.mem_cons_of_mem _ hy))
    rw [fAt_zero, List.cons_append, fAt_up 0 hx, ih, List.length_cons]
    have := fAt_ge p b
    unfold up
    split <;> split <;> (try split) <;> omega
theorem fAt_some {α : Type} {p : α → Bool} : ∀ {L : List α} {k : Nat}, fAt p L = k → ∃ x, L[k]? = some x ∧ p x = true ∧ ∀ j y, j < k → L[j]? = some y → p y = false
  | [], k, h => by simp [fAt] at h
  | x :: r, k, h => by
    cases hp : p x with
    | true =>
      simp only [fAt, hp, if_true] at h
      obtain rfl : k = 0 := by omega
      exact ⟨x, rfl, hp, fun j y hj => by omega⟩
    | false =>
      simp only [fAt, hp] at h
      have hge := fAt_ge p r
      have hr : fAt p r = ((k - 1 : Nat) : Int) ∧ 0 < k := by
        simp only [Bool.false_eq_true, if_false] at h
        split at h <;> omega
      obtain ⟨y, h1, h2, h3⟩ := fAt_some hr.1
      refine ⟨y, ?_, h2, fun j z hj hz => ?_⟩
      · rw [show k = (k - 1) + 1 by omega]; exact h1
      · match j, hz with
        | 0, hz => simp at hz; subst hz; exact hp
        | j + 1, hz => exact h3 j z (by omega) (by simpa using hz)
theorem fAt_none {α : Type} {p : α → Bool} : ∀ {L : List α}, fAt p L < 0 → ∀ x ∈ L, p x = false
  | [], _, x, hx => by simp at hx
  | y :: r, h, x, hx => by
    simp only [fAt] at h
    cases hp : p y with
    | true => rw [hp] at h; simp at h
    | false =>
      rw [hp] at h
      have hr : fAt p r < 0 := by
        simp only [Bool.false_eq_true, if_false] at h
        split at h <;> omega
      rcases List.mem_cons.1 hx with rfl | hx
      · exact hp
      · exact fAt_none hr x hx
def svc (s : Int) (x : St) : Bool := x.1 == s
def atOf (L : List St) (s : Int) : Int := fAt (svc s) L
def some1 (n : Int) : Bool := inB 1 1000000000 n
/-- The steps L, behind 'seen', may be. -/
def stepsOk : List St → List St → Bool
  | _, [] => true
  | seen, x :: r => inB 4 6 x.1 && some1 x.2 && !(seen.any (svc x.1)) && stepsOk (seen ++ [x]) r
def Ord.may (o : Ord) : Bool := stepsOk [] o.steps && decide (o.steps.length ≤ 3) && inB 1 999 o.id && inB 0 7 o.item && inB 0 7 o.client && some1 o.qty && some1 o.price
theorem any_false {α : Type} {p : α → Bool} {L : List α} (h : L.any p = false) : ∀ x ∈ L, p x = false := by
  intro x hx
  cases e : p x with
  | false => rfl
  | true => rw [List.any_eq_true.2 ⟨x, hx, e⟩] at h; cases h
/-- Whether a step is the first one of its service. -/
theorem atOf_first {L : List St} {k : Nat} {x : St} (hx : L[k]? = some x) : atOf L x.1 = k ↔ (L.take k).any (svc x.1) = false := by
  have hk : k < L.length := (List.getElem?_eq_some_iff.1 hx).1
  have hs : L = L.take k ++ (x :: L.drop (k + 1)) := by
    rw [List.getElem?_eq_getElem hk] at hx
    simp only [Option.some.injEq] at hx
    rw [← hx, ← List.drop_eq_getElem_cons hk, List.take_append_drop]
  have hl : (L.take k).length = k := List.length_take_of_le (by omega)
  constructor
  · intro h
    cases e : (L.take k).any (svc x.1) with
    | false => rfl
    | true =>
      exfalso
      obtain ⟨y, hy, he⟩ := List.any_eq_true.1 e
      obtain ⟨j, hj, rfl⟩ := List.getElem_of_mem hy
      obtain ⟨_, _, _, h3⟩ := fAt_some h
      have hjk : j < k := by omega
      have := h3 j _ hjk (by rw [← List.getElem?_take_of_lt hjk, List.getElem?_eq_getElem hj])
      rw [this] at he; cases he
  · intro h
    unfold atOf
    rw [hs, fAt_app (any_false h), fAt_yes _ (by simp [svc]), hl]
theorem stepsOk_split : ∀ {L : List St} {seen : List St}, stepsOk seen L = true → ∀ (k : Nat) (x : St), L[k]? = some x → inB 4 6 x.1 = true ∧ some1 x.2 = true ∧ (seen ++ L.take k).any (svc x.1) = false
  | [], seen, _, k, x, hx => by simp at hx
  | y :: r, seen, h, k, x, hx => by
    simp only [stepsOk, Bool.and_eq_true, Bool.not_eq_true'] at h
    obtain ⟨⟨⟨h1, h2⟩, h3⟩, h4⟩ := h
    match k, hx with
    | 0, hx => simp at hx; subst hx; exact ⟨h1, h2, by simpa using h3⟩
    | k + 1, hx =>
      have := stepsOk_split h4 k x (by simpa using hx)
      simpa [List.append_assoc] using this
theorem Ord.may_len {o : Ord} (h : o.may = true) : o.steps.length ≤ 3 := by
  unfold Ord.may at h
  simp only [Bool.and_eq_true, decide_eq_true_eq] at h
  omega
/-- A row of steps, cell by cell. -/
def StRow (w : World) (a : Option Addr) (L : List St) : Prop := ∀ (k : Nat) (x : St), L[k]? = some x → ∃ g off, a = some ⟨g, off, none⟩ ∧ g < w.heap.size ∧ w.cell? ⟨g, off + k * 2, none⟩ = some (.int .i64 x.1) ∧ w.cell? ⟨g, off + k * 2 + 1, none⟩ = some (.int .i64 x.2)
theorem StRow.keeps {w w' : World} {a : Option Addr} {L : List St} (h : StRow w a L) {S : Nat → Prop} (k : Keeps S w w') (hs : ∀ x, a = some x → ¬ S x.block) : StRow w' a L := by
  intro i x hx
  obtain ⟨g, off, e, hl, h0, h1⟩ := h i x hx
  have hg := hs _ e
  exact ⟨g, off, e, Nat.lt_of_lt_of_le hl k.size, (k.cell (p := ⟨g, off + i * 2, none⟩) hl hg).trans h0, (k.cell (p := ⟨g, off + i * 2 + 1, none⟩) hl hg).trans h1⟩
theorem StRow.quiet {w w' : World} {a : Option Addr} {L : List St} (h : StRow w a L) (k : Keeps (fun _ => False) w w') : StRow w' a L := h.keeps k (fun _ _ h => h)
theorem StRow.alloc {w : World} {a : Option Addr} {L : List St} (h : StRow w a L) (o : Obj) : StRow (w.alloc o) a L := h.quiet ((Keeps.refl _ w).alloc o)
theorem StRow.drewN {w : World} {a : Option Addr} {L : List St} (h : StRow w a L) (n : Nat) : StRow (w.drewN n) a L := h.quiet ((Keeps.refl _ w).drewN n)
theorem StRow.below {w w' : World} {a : Option Addr} {L : List St} (h : StRow w a L) (hb : Below w.heap.size w w') : StRow w' a L := h.quiet (Keeps.of_below hb _)
theorem flat_inv {α : Type} (f : α → List Value) (c : Nat) (hc : ∀ x, (f x).length = c) : ∀ (L : List α) (j : Nat) (u : Value), (L.flatMap f)[j]? = some u → ∃ k x r, L[k]? = some x ∧ j = k * c + r ∧ (f x)[r]? = some u
  | [], j, u, h => by simp at h
  | y :: l, j, u, h => by
    rw [List.flatMap_cons] at h
    by_cases hj : j < c
    · rw [List.getElem?_append_left (by rw [hc]; exact hj)] at h
      exact ⟨0, y, j, rfl, by omega, h⟩
    · rw [List.getElem?_append_right (by rw [hc]; omega), hc] at h
      obtain ⟨k, x, r, h1, h2, h3⟩ := flat_inv f c hc l (j - c) u h
      exact ⟨k + 1, x, r, by simpa using h1, by rw [Nat.add_mul]; omega, h3⟩
theorem StRow.cells {w : World} {a : Addr} {L : List St} (h : StRow w (some a) L) : ∀ j u, (L.flatMap encSt)[j]? = some u → w.cell? (a.add j) = some u := by
  intro j u hj
  obtain ⟨k, x, r, h1, rfl, h3⟩ := flat_inv encSt 2 (fun _ => rfl) L j u hj
  obtain ⟨g, off, e, _, h0, h4⟩ := h k x h1
  simp only [Option.some.injEq] at e
  subst e
  have hadd : ∀ i, (Addr.mk g off none).add i = ⟨g, off + i, none⟩ := by
    intro i
    unfold Addr.add
    by_cases hi : i = 0
    · subst hi; simp
    · simp [hi]
  rw [hadd]
  match r, h3 with
  | 0, h3 => simp only [encSt, List.getElem?_cons_zero, Option.some.injEq] at h3; subst h3; exact h0
  | 1, h3 => simp only [encSt, List.getElem?_cons_succ, List.getElem?_cons_zero, Option.some.injEq] at h3; subst h3; exact h4
theorem ownsRow_steps {w : World} {base : Nat} {e : TypeId} {v : Value} {n : Nat} {L : List St} (h : w.ownsRow base e 2 v n (L.flatMap encSt)) : ∃ a c, v = .slice a n c ∧ n = L.length ∧ n ≤ c ∧ c ≤ maxLen ∧ StRow w a L ∧ ∀ x, a = some x → base ≤ x.block ∧ x.block < w.heap.size := by
  obtain ⟨a, c, hv, _, hc, hcm, hab, hx⟩ := ownsRow_open h (by omega)
  have hn : n = L.length := by
    have := h.1
    rw [flat_len encSt 2 (fun _ => rfl)] at this
    omega
  refine ⟨a, c, hv, hn, hc, hcm, fun k x hk => ?_, fun x hx' => ?_⟩
  · have r := fun j => flat_get encSt 2 (fun _ => rfl) L k x j hk
    obtain ⟨g, off, ha, hl, _, c0⟩ := hx (k * 2 + 0) _ ((r 0 (by omega)).trans rfl)
    obtain ⟨g1, off1, ha1, _, _, c1⟩ := hx (k * 2 + 1) _ ((r 1 (by omega)).trans rfl)
    rw [ha] at ha1
    simp only [Option.some.injEq, Addr.mk.injEq, and_true] at ha1
    obtain ⟨rfl, rfl⟩ := ha1
    exact ⟨g, off, ha, hl, c0, c1⟩
  · have := h.lt _ (hab x hx').2
    exact ⟨this.1, this.2⟩
theorem encSt_one (L : List St) : ∀ u ∈ L.flatMap encSt, u.oneCell' = true := by
  intro u hu
  rw [List.mem_flatMap] at hu
  obtain ⟨x, _, hx⟩ := hu
  simp only [encSt, List.mem_cons, List.not_mem_nil, or_false] at hx
  rcases hx with rfl | rfl <;> rfl
/-- An order's cells. -/
def Ord.cells (o : Ord) (a : Option Addr) (c : Nat) : List Value := [.int .i64 o.id, .int .i64 o.item, .int .i64 o.qty, .int .i64 o.client, .int .i64 o.price, .slice a o.steps.length c]
def Ord.val (o : Ord) (a : Option Addr) (c : Nat) : Value := .agg #[.int .i64 o.id, .int .i64 o.item, .int .i64 o.qty, .int .i64 o.client, .int .i64 o.price, .slice a o.steps.length c]
end Go.Proofs.Ytjlfkpimjjnolaa
