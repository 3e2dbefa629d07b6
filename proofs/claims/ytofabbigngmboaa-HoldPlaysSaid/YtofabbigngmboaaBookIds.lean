/- (*hold.Book).Ids, walked: the ids of a book, rising. -/
import Derived.Test.YtofabbigngmboaaSorted
import Derived.Test.YtofabbigngmboaaHoldLaws
namespace Go.Proofs.Ytofabbigngmboaa
open Go.RowKit
theorem NumOwn.numRow {w : World} {base : Nat} {v : Value} {L : List Int} (h : NumOwn w base v L) : ∃ a c, v = .slice a L.length c ∧ NumRow w a L ∧ (∀ x, a = some x → base ≤ x.block) := by
  obtain ⟨a, c, rfl, _⟩ := h.slice
  refine ⟨a, c, rfl, h.row, fun x hx => ?_⟩
  rcases h.2 with ⟨h2, _⟩ | ⟨g, cap, cur, h1, h2, _⟩
  · simp only [Value.slice.injEq] at h2
    rw [h2.1] at hx
    cases hx
  · simp only [Value.slice.injEq] at h1
    rw [h1.1] at hx
    cases hx
    exact h2
set_option maxHeartbeats 4000000 in
theorem ids_book (p m : Nat) (s : Hd) (w : World) (h : HdAt w p m s) (hr : ∀ x ∈ MP.keys s.L, 1 ≤ x ∧ x ≤ 999) :
    Calls Try.prog 42 #[.pointer (some ⟨p, 0, none⟩)] w fun e w2 => ∃ v, e = .returned v ∧ IdsTo w w2 v (MP.rise s.L) := by
  have H := Kept.mk h
  have hc0 := h.cells.cell 0 rfl
  have hc1 := h.cells.cell 1 rfl
  go_enter Try.func42, Try.ntmps42
  go_wp2_with fail
  refine (keys_to (some m) _).mono ?_
  rintro e w1 ⟨rfl, rfl⟩
  go_wp2_with fail
  refine (sorted_to (enc := encInt) (L := s.L) m w.heap.size _ (H.out.map.alloc _) hr (by simp) (by simp)).mono ?_
  rintro e w2 ⟨v, rfl, hO, k2⟩
  obtain ⟨a, c, rfl, hR, hab⟩ := hO.numRow
  go_wp2_with fail
  refine (vals_to _ _ _ _).mono ?_
  rintro e w3 ⟨rfl, rfl⟩
  go_wp2_with fail
  go_ret
  refine ⟨_, rfl, w2.heap.size, a, c, rfl, Blk.newAt w2 37 [.slice a _ c] _ rfl, ?_, ?_, ?_⟩
  · exact hR.quiet ((Keeps.refl (fun _ => False) _).alloc _)
  · intro x hx
    have := hab x hx
    simp at this
    omega
  · exact (((Keeps.refl (fun _ => False) w).alloc _).trans k2).alloc _
end Go.Proofs.Ytofabbigngmboaa
