/- Rows of calls of four numbers. -/
import Derived.Test.YtofabbigngmboaaOpen
namespace Go.Proofs.Ytofabbigngmboaa
open Go.RowKit
/-- A row of calls of four numbers. -/
def Call4 (w : World) (a : Option Addr) (len : Nat) (f : Nat → Int × Int × Int × Int) : Prop :=
  ∃ b off, (a = some ⟨b, off, none⟩ ∧ b < w.heap.size ∨ len = 0) ∧ ∀ i, i < len → w.cell? ⟨b, off + i * 4, none⟩ = some (.int .i64 (f i).1) ∧ w.cell? ⟨b, off + i * 4 + 1, none⟩ = some (.int .i64 (f i).2.1) ∧ w.cell? ⟨b, off + i * 4 + 2, none⟩ = some (.int .i64 (f i).2.2.1) ∧ w.cell? ⟨b, off + i * 4 + 3, none⟩ = some (.int .i64 (f i).2.2.2)
theorem RowFits.call4 {H : Type} {enc : TypeId × Value → H} {P : Program} {w : World} {sp : Nat → Bool} {held : Bool} {a : Option Addr} {len cap : Nat} (h : RowFits enc P w sp held [.int .i64, .int .i64, .int .i64, .int .i64] a len cap) : ∃ f, Call4 w a len f := by
  obtain ⟨b, off, ha, _, _, hx⟩ := h
  have : ∀ i, i < len → ∃ c : Int × Int × Int × Int, w.cell? ⟨b, off + i * 4, none⟩ = some (.int .i64 c.1) ∧ w.cell? ⟨b, off + i * 4 + 1, none⟩ = some (.int .i64 c.2.1) ∧ w.cell? ⟨b, off + i * 4 + 2, none⟩ = some (.int .i64 c.2.2.1) ∧ w.cell? ⟨b, off + i * 4 + 3, none⟩ = some (.int .i64 c.2.2.2) := by
    intro i hi
    obtain ⟨v0, h0, c0, rfl, _⟩ := hx i hi 0 (.int .i64) rfl
    obtain ⟨v1, h1, c1, rfl, _⟩ := hx i hi 1 (.int .i64) rfl
    obtain ⟨v2, h2, c2, rfl, _⟩ := hx i hi 2 (.int .i64) rfl
    obtain ⟨v3, h3, c3, rfl, _⟩ := hx i hi 3 (.int .i64) rfl
    exact ⟨(c0, c1, c2, c3), h0, h1, h2, h3⟩
  obtain ⟨f, hf⟩ := Go.Deep.choose_lt this
  exact ⟨f, b, off, ha, hf⟩
end Go.Proofs.Ytofabbigngmboaa
