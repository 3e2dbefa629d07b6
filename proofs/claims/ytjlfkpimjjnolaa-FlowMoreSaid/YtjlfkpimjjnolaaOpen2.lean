/- Structs of ints, handed over by value. Nothing here speaks of the program. -/
import Derived.Test.YtjlfkpimjjnolaaOpen
namespace Go.Proofs.Ytjlfkpimjjnolaa
open Go.RowKit Go.ChangeShapes Go.WideShapes Go.ChangeAt
variable {H : Type} {enc : TypeId × Value → H} {P : Program} {w : World} {sp : Nat → Bool} {held : Bool}
theorem FitsAt.int1 {cs : Array Value} (h : FitsAt enc P w sp held [.int .i64] cs.toList 0) (n : cs.size = 1) : ∃ a, cs = #[.int .i64 a] := by
  obtain ⟨v0, e0, a, rfl, _⟩ := h 0 _ rfl
  obtain ⟨l⟩ := cs
  match l, n with
  | [x0], _ =>
    simp only [Nat.add_zero, List.getElem?_cons_zero, Option.some.injEq] at e0
    subst e0
    exact ⟨_, rfl⟩
theorem FitsAt.int2 {cs : Array Value} (h : FitsAt enc P w sp held [.int .i64, .int .i64] cs.toList 0) (n : cs.size = 2) : ∃ a b, cs = #[.int .i64 a, .int .i64 b] := by
  obtain ⟨v0, e0, a, rfl, _⟩ := h 0 _ rfl
  obtain ⟨v1, e1, b, rfl, _⟩ := h 1 _ rfl
  obtain ⟨l⟩ := cs
  match l, n with
  | [x0, x1], _ =>
    simp at e0 e1
    subst e0; subst e1
    exact ⟨_, _, rfl⟩
theorem FitsAt.int3 {cs : Array Value} (h : FitsAt enc P w sp held [.int .i64, .int .i64, .int .i64] cs.toList 0) (n : cs.size = 3) : ∃ a b c, cs = #[.int .i64 a, .int .i64 b, .int .i64 c] := by
  obtain ⟨v0, e0, a, rfl, _⟩ := h 0 _ rfl
  obtain ⟨v1, e1, b, rfl, _⟩ := h 1 _ rfl
  obtain ⟨v2, e2, c, rfl, _⟩ := h 2 _ rfl
  obtain ⟨l⟩ := cs
  match l, n with
  | [x0, x1, x2], _ =>
    simp at e0 e1 e2
    subst e0; subst e1; subst e2
    exact ⟨_, _, _, rfl⟩
theorem FitsAt.int4 {cs : Array Value} (h : FitsAt enc P w sp held [.int .i64, .int .i64, .int .i64, .int .i64] cs.toList 0) (n : cs.size = 4) : ∃ a b c d, cs = #[.int .i64 a, .int .i64 b, .int .i64 c, .int .i64 d] := by
  obtain ⟨v0, e0, a, rfl, _⟩ := h 0 _ rfl
  obtain ⟨v1, e1, b, rfl, _⟩ := h 1 _ rfl
  obtain ⟨v2, e2, c, rfl, _⟩ := h 2 _ rfl
  obtain ⟨v3, e3, d, rfl, _⟩ := h 3 _ rfl
  obtain ⟨l⟩ := cs
  match l, n with
  | [x0, x1, x2, x3], _ =>
    simp at e0 e1 e2 e3
    subst e0; subst e1; subst e2; subst e3
    exact ⟨_, _, _, _, rfl⟩
end Go.Proofs.Ytjlfkpimjjnolaa
