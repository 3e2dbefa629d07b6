/- A call of the post's law, or a row of messages, as an argument. Nothing here speaks of the program. -/
import Derived.Test.YtkacnogjifhcoaaOpen
import Derived.Test.YtkacnogjifhcoaaMsgs
namespace Go.Proofs.Ytkacnogjifhcoaa
open Go.RowKit Go.ChangeShapes Go.WideShapes Go.ChangeAt
variable {H : Type} {enc : TypeId × Value → H} {P : Program} {w : World} {sp : Nat → Bool} {held : Bool}
/-- A row of messages. -/
theorem RowFits.msgs {a : Option Addr} {len cap : Nat} (h : RowFits enc P w sp held [.int .i64, .int .i64, .int .i64, .int .i64, .int .i64, .int .i64, .int .i64] a len cap) : ∃ L : List Ms, L.length = len ∧ MsRow w a L ∧ len ≤ cap ∧ cap ≤ maxLen := by
  obtain ⟨b, off, ha, hlc, hcm, hx⟩ := h
  have : ∀ i, i < len → ∃ m : Ms, ∀ j u, (encMs m)[j]? = some u → w.cell? ⟨b, off + i * 7 + j, none⟩ = some u := by
    intro i hi
    obtain ⟨v0, h0, c0, rfl, _⟩ := hx i hi 0 (.int .i64) rfl
    obtain ⟨v1, h1, c1, rfl, _⟩ := hx i hi 1 (.int .i64) rfl
    obtain ⟨v2, h2, c2, rfl, _⟩ := hx i hi 2 (.int .i64) rfl
    obtain ⟨v3, h3, c3, rfl, _⟩ := hx i hi 3 (.int .i64) rfl
    obtain ⟨v4, h4, c4, rfl, _⟩ := hx i hi 4 (.int .i64) rfl
    obtain ⟨v5, h5, c5, rfl, _⟩ := hx i hi 5 (.int .i64) rfl
    obtain ⟨v6, h6, c6, rfl, _⟩ := hx i hi 6 (.int .i64) rfl
    refine ⟨⟨c0, c1, c2, c3, c4, c5, c6⟩, fun j u hu => ?_⟩
    match j, hu with
    | 0, hu => simp [encMs] at hu; subst hu; exact h0
    | 1, hu => simp [encMs] at hu; subst hu; exact h1
    | 2, hu => simp [encMs] at hu; subst hu; exact h2
    | 3, hu => simp [encMs] at hu; subst hu; exact h3
    | 4, hu => simp [encMs] at hu; subst hu; exact h4
    | 5, hu => simp [encMs] at hu; subst hu; exact h5
    | 6, hu => simp [encMs] at hu; subst hu; exact h6
    | j + 7, hu => simp [encMs] at hu
  have inh : Inhabited Ms := ⟨⟨0, 0, 0, 0, 0, 0, 0⟩⟩
  obtain ⟨f, hf⟩ := Go.Deep.choose_lt this
  refine ⟨(List.range len).map f, by simp, fun k x hk => ?_, hlc, hcm⟩
  rw [List.getElem?_map] at hk
  have hkl : k < len := by
    rcases Nat.lt_or_ge k len with h | h
    · exact h
    · rw [List.getElem?_eq_none (by simpa using h)] at hk; simp at hk
  rw [List.getElem?_range hkl] at hk
  simp only [Option.map_some, Option.some.injEq] at hk
  subst hk
  rcases ha with ⟨h1, h2⟩ | h
  · exact ⟨b, off, h1, h2, hf k hkl⟩
  · omega
theorem FitsAt.call {t e : TypeId} {cs : Array Value} (ht : P.underlying t = some (.slice e)) (h : FitsAt enc P w sp held [.int .i64, .int .i64, .sl t] cs.toList 0) (n : cs.size = 3) :
    ∃ (x y : Int) (a : Option Addr) (m c : Nat), cs = #[.int .i64 x, .int .i64 y, .slice a m c] := by
  obtain ⟨v0, e0, i1, rfl, _⟩ := h 0 _ rfl
  obtain ⟨v1, e1, i2, rfl, _⟩ := h 1 _ rfl
  obtain ⟨v2, e2, q, x, hx⟩ := h 2 _ rfl
  have : ∃ a len cap, v2 = .slice a len cap := by
    rcases Go.Deep.open_slice ht hx with ⟨hcs, _⟩ | ⟨a', len', cap', m, q, D, Pl, hcs, _⟩
    · simp only [List.cons.injEq, and_true] at hcs
      exact ⟨_, _, _, hcs⟩
    · simp only [List.cons.injEq, and_true] at hcs
      exact ⟨_, _, _, hcs⟩
  obtain ⟨a, len, cap, rfl⟩ := this
  obtain ⟨l⟩ := cs
  match l, n with
  | [x0, x1, x2], _ =>
    simp at e0 e1 e2
    subst e0; subst e1; subst e2
    exact ⟨_, _, _, _, _, rfl⟩
end Go.Proofs.Ytkacnogjifhcoaa
