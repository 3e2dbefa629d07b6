/- Rows of whole numbers that a call has made, as rows of cells. -/
import Derived.Test.YtofabbigngmboaaRow
import Derived.Test.YtofabbigngmboaaSay
namespace Go.Proofs.Ytofabbigngmboaa
open Go.RowKit
theorem ownsRow_ints {w : World} {base : Nat} {e : TypeId} {a : Option Addr} {c n : Nat} {l : List Int} (h : w.ownsRow base e 1 (.slice a n c) n (l.map (Value.int .i64))) : IntCells w a n (fun i => l.getD i 0) := by
  have hl : l.length = n := by have := h.1; simpa using this
  by_cases hn : n = 0
  · exact ⟨0, 0, .inr hn, fun i hi => absurd hi (by omega)⟩
  · obtain ⟨a', c', hv, _, _, _, _, hx⟩ := ownsRow_open h (by omega)
    simp only [Value.slice.injEq, true_and] at hv
    obtain ⟨rfl, rfl⟩ := hv
    have each : ∀ i, i < n → ∃ g off, a = some ⟨g, off, none⟩ ∧ g < w.heap.size ∧ (Value.slice a n c).ownBlock = some g ∧ w.cell? ⟨g, off + i, none⟩ = some (.int .i64 (l.getD i 0)) := by
      intro i hi
      refine hx i _ ?_
      rw [List.getElem?_map, List.getD_eq_getElem?_getD, List.getElem?_eq_getElem (by omega)]; rfl
    obtain ⟨g, off, ha, _⟩ := each 0 (by omega)
    refine ⟨g, off, .inl ha, fun i hi => ?_⟩
    obtain ⟨g', off', ha', _, _, hc⟩ := each i hi
    rw [ha] at ha'
    simp only [Option.some.injEq, Addr.mk.injEq, and_true] at ha'
    obtain ⟨rfl, rfl⟩ := ha'
    exact hc
end Go.Proofs.Ytofabbigngmboaa
