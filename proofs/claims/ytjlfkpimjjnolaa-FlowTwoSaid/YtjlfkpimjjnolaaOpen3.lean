/- An order, or a row of steps or of acts, as an argument. Nothing here speaks of the program. -/
import Derived.Test.YtjlfkpimjjnolaaOpen
import Derived.Test.YtjlfkpimjjnolaaOrd
namespace Go.Proofs.Ytjlfkpimjjnolaa
open Go.RowKit Go.ChangeShapes Go.WideShapes Go.ChangeAt
variable {H : Type} {enc : TypeId × Value → H} {P : Program} {w : World} {sp : Nat → Bool} {held : Bool}
/-- A row of structs of two numbers. -/
theorem RowFits.steps {a : Option Addr} {len cap : Nat} (h : RowFits enc P w sp held [.int .i64, .int .i64] a len cap) : ∃ L : List St, L.length = len ∧ StRow w a L ∧ len ≤ cap ∧ cap ≤ maxLen := by
  obtain ⟨b, off, ha, hlc, hcm, hx⟩ := h
  have : ∀ i, i < len → ∃ c : Int × Int, w.cell? ⟨b, off + i * 2, none⟩ = some (.int .i64 c.1) ∧ w.cell? ⟨b, off + i * 2 + 1, none⟩ = some (.int .i64 c.2) := by
    intro i hi
    obtain ⟨v0, h0, c0, rfl, _⟩ := hx i hi 0 (.int .i64) rfl
    obtain ⟨v1, h1, c1, rfl, _⟩ := hx i hi 1 (.int .i64) rfl
    exact ⟨(c0, c1), h0, h1⟩
  obtain ⟨f, hf⟩ := Go.Deep.choose_lt this
  refine ⟨(List.range len).map f, by simp, fun k x hk => ?_, hlc, hcm⟩
  rw [List.getElem?_map] at hk
  have hkl : k < len := by
    rcases Nat.lt_or_ge k len with h | h
    · exact h
    · rw [List.getElem?_eq_none (by simpa using h)] at hk; simp at hk
  rw [List.getElem?_range hkl] at hk
  simp only [Option.map_some, Option.some.injEq] at hk
  subst hk
  rcases ha with ⟨h1, h2⟩ | h
  · exact ⟨b, off, h1, h2, hf k hkl⟩
  · omega
theorem slice_of_trod {t e : TypeId} {n : Nat} {v : Value} {x : DataW H × List MemPlace} (ht : P.underlying t = some (.slice e)) (h : DataW.trod enc P w 0 sp held n t [v] = some x) : ∃ a len cap, v = .slice a len cap := by
  rcases Go.Deep.open_slice ht h with ⟨hcs, _⟩ | ⟨a', len', cap', m, q, D, Pl, hcs, _⟩
  · simp only [List.cons.injEq, and_true] at hcs
    exact ⟨_, _, _, hcs⟩
  · simp only [List.cons.injEq, and_true] at hcs
    exact ⟨_, _, _, hcs⟩
/-- An order, by value. -/
theorem FitsAt.order {t e : TypeId} {cs : Array Value} (ht : P.underlying t = some (.slice e)) (hk : kindsOf P 6 e = some [.int .i64, .int .i64]) (hc : P.cellsOf e = 2)
    (h : FitsAt enc P w sp held [.int .i64, .int .i64, .int .i64, .int .i64, .int .i64, .sl t] cs.toList 0) (n : cs.size = 6) :
    ∃ (o : Ord) (a : Option Addr) (c : Nat), cs = #[.int .i64 o.id, .int .i64 o.item, .int .i64 o.qty, .int .i64 o.client, .int .i64 o.price, .slice a o.steps.length c] ∧ StRow w a o.steps ∧ o.steps.length ≤ c ∧ c ≤ maxLen := by
  obtain ⟨v0, e0, i1, rfl, _⟩ := h 0 _ rfl
  obtain ⟨v1, e1, i2, rfl, _⟩ := h 1 _ rfl
  obtain ⟨v2, e2, i3, rfl, _⟩ := h 2 _ rfl
  obtain ⟨v3, e3, i4, rfl, _⟩ := h 3 _ rfl
  obtain ⟨v4, e4, i5, rfl, _⟩ := h 4 _ rfl
  obtain ⟨v5, e5, q, x, hx⟩ := h 5 _ rfl
  obtain ⟨a, len, cap, rfl⟩ := slice_of_trod ht hx
  obtain ⟨L, hL, hR, h1, h2⟩ := RowFits.steps (open_rows (n := 6) ht hk hc (by simp) hx)
  obtain ⟨l⟩ := cs
  match l, n with
  | [x0, x1, x2, x3, x4, x5], _ =>
    simp at e0 e1 e2 e3 e4 e5
    subst e0; subst e1; subst e2; subst e3; subst e4; subst e5
    subst hL
    exact ⟨⟨i1, i2, i3, i4, i5, L⟩, a, cap, rfl, hR, h1, h2⟩
end Go.Proofs.Ytjlfkpimjjnolaa
