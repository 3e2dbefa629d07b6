/- The facts of an order, as an argument; a row of bools, a row of numbers. Nothing here speaks of the program. -/
import Derived.Test.YtfcnegnkmacajaaOpen3
import Derived.Test.YtfcnegnkmacajaaFacts0
namespace Go.Proofs.Ytfcnegnkmacajaa
open Go.RowKit Go.ChangeShapes Go.WideShapes Go.ChangeAt
variable {H : Type} {enc : TypeId × Value → H} {P : Program} {w : World} {sp : Nat → Bool} {held : Bool}
theorem RowFits.bls {a : Option Addr} {len cap : Nat} (h : RowFits enc P w sp held [.bool] a len cap) : ∃ L : List Bool, L.length = len ∧ BlRow w a L ∧ len ≤ cap ∧ cap ≤ maxLen := by
  obtain ⟨b, off, ha, hlc, hcm, hx⟩ := h
  have : ∀ i, i < len → ∃ c : Bool, w.cell? ⟨b, off + i, none⟩ = some (.bool c) := by
    intro i hi
    obtain ⟨v, hv, c, rfl⟩ := hx i hi 0 .bool rfl
    exact ⟨c, by simpa using hv⟩
  obtain ⟨f, hf⟩ := Go.Deep.choose_lt this
  refine ⟨(List.range len).map f, by simp, fun k x hk => ?_, hlc, hcm⟩
  rw [List.getElem?_map] at hk
  have hkl : k < len := by
    rcases Nat.lt_or_ge k len with h | h
    · exact h
    · rw [List.getElem?_eq_none (by simpa using h)] at hk; simp at hk
  rw [List.getElem?_range hkl] at hk
  simp only [Option.map_some, Option.some.injEq] at hk
  subst hk
  rcases ha with ⟨h1, h2⟩ | h
  · exact ⟨b, off, h1, h2, hf k hkl⟩
  · omega
theorem FitsAt.facts {t e : TypeId} {cs : Array Value} (ht : P.underlying t = some (.slice e)) (hk : kindsOf P 6 e = some [.bool]) (hc : P.cellsOf e = 1)
    (h : FitsAt enc P w sp held [.sl t, .sl t, .bool, .bool, .bool, .bool, .bool, .bool, .bool, .bool, .bool] cs.toList 0) (n : cs.size = 11) :
    ∃ (f : Fct) (da ua : Option Addr) (dc uc : Nat), cs = #[.slice da f.done.length dc, .slice ua f.undone.length uc, .bool f.asked, .bool f.yes, .bool f.turned, .bool f.a0, .bool f.a1, .bool f.shipped, .bool f.d0, .bool f.d1, .bool f.acc] ∧ BlRow w da f.done ∧ f.done.length ≤ maxLen ∧ BlRow w ua f.undone ∧ f.undone.length ≤ maxLen := by
  obtain ⟨v0, e0, q0, x0, hx0⟩ := h 0 _ rfl
  obtain ⟨v1, e1, q1, x1, hx1⟩ := h 1 _ rfl
  obtain ⟨v2, e2, i2, rfl⟩ := h 2 _ rfl
  obtain ⟨v3, e3, i3, rfl⟩ := h 3 _ rfl
  obtain ⟨v4, e4, i4, rfl⟩ := h 4 _ rfl
  obtain ⟨v5, e5, i5, rfl⟩ := h 5 _ rfl
  obtain ⟨v6, e6, i6, rfl⟩ := h 6 _ rfl
  obtain ⟨v7, e7, i7, rfl⟩ := h 7 _ rfl
  obtain ⟨v8, e8, i8, rfl⟩ := h 8 _ rfl
  obtain ⟨v9, e9, i9, rfl⟩ := h 9 _ rfl
  obtain ⟨v10, e10, i10, rfl⟩ := h 10 _ rfl
  obtain ⟨da, dl, dc, rfl⟩ := slice_of_trod ht hx0
  obtain ⟨ua, ul, uc, rfl⟩ := slice_of_trod ht hx1
  obtain ⟨D, hD, hDR, h1, h2⟩ := RowFits.bls (open_rows (n := 6) ht hk hc (by simp) hx0)
  obtain ⟨U, hU, hUR, h3, h4⟩ := RowFits.bls (open_rows (n := 6) ht hk hc (by simp) hx1)
  obtain ⟨l⟩ := cs
  match l, n with
  | [y0, y1, y2, y3, y4, y5, y6, y7, y8, y9, y10], _ =>
    simp at e0 e1 e2 e3 e4 e5 e6 e7 e8 e9 e10
    subst e0; subst e1; subst e2; subst e3; subst e4; subst e5; subst e6; subst e7; subst e8; subst e9; subst e10
    subst hD
    subst hU
    exact ⟨⟨D, U, i2, i3, i4, i5, i6, i7, i8, i9, i10⟩, da, ua, dc, uc, rfl, hDR, Nat.le_trans h1 h2, hUR, Nat.le_trans h3 h4⟩
theorem okWide_array' {w : World} {r : Reach} {base : Nat} {t : TypeId} {v : Value} {n : Nat} {e : TypeId} (ht : P.underlying t = some (.array n e)) (h : Value.okWide P w r base t v) : ∃ cs, v = .agg cs ∧ cs.size = P.cellsOf t := by
  unfold Value.okWide at h
  rw [ht] at h
  obtain ⟨cs, h1, h2, _⟩ := h
  exact ⟨cs, h1, h2⟩
theorem FitsAt.two {cs : Array Value} (h : FitsAt enc P w sp held [.bool, .bool] cs.toList 0) (n : cs.size = 2) : ∃ x y : Bool, cs = #[.bool x, .bool y] := by
  obtain ⟨v0, e0, i0, rfl⟩ := h 0 _ rfl
  obtain ⟨v1, e1, i1, rfl⟩ := h 1 _ rfl
  obtain ⟨l⟩ := cs
  match l, n with
  | [y0, y1], _ =>
    simp at e0 e1
    subst e0; subst e1
    exact ⟨i0, i1, rfl⟩
end Go.Proofs.Ytfcnegnkmacajaa
