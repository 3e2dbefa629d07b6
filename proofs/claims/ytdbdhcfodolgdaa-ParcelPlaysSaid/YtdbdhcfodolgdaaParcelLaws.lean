/- The law's awake at the book of parcels, and the law ParcelNil, walked. -/
import Derived.Test.YtdbdhcfodolgdaaParcel4
import Derived.Test.YtdbdhcfodolgdaaSay
namespace Go.Proofs.Ytdbdhcfodolgdaa
open Go.RowKit
set_option maxHeartbeats 1000000 in
theorem awake10_any (w : World) : Calls Try.prog 16 #[] w (Yes w) := by
  go_enter Try.func16, Try.ntmps16
  go_wp2_with fail
  refine (newP_any _).mono ?_
  rintro e w0 ⟨rfl, rfl⟩
  have h0 := PbAt.new 77 79 w
  go_wp2_with fail
  refine (ship_to _ _ _ _ 1 0 2 _ _ h0 (by simp) rfl).mono ?_
  rintro e w1 ⟨rfl, v1, h1, n1, k1⟩
  clear h0
  go_wp2_with fail
  refine (ship_to _ _ _ _ 1 0 2 _ _ h1 (by simp) rfl).mono ?_
  rintro e w2 ⟨rfl, v2, h2, n2, k2⟩
  clear h1
  go_wp2_with fail
  refine (went_any _ _ _ 0 _ h2).mono ?_
  rintro e w3 ⟨rfl, k3⟩
  have hw : wentP 0 0 [(1, 0, 2)] = 2 := by show wrap64 (0 + 2) = 2; unfold wrap64; omega
  have B1 : Below w.heap.size w w1 := ((Below.refl _ w).alloc (Nat.le_refl _) _).trans (k1.below (by simp) (fun k e => by
    rcases e with rfl | e
    · exact Nat.le_refl _
    · simp [Value.ownBlock] at e))
  have B2 : Below w.heap.size w w2 := B1.trans (k2.below B1.size (fun k e => by
    rcases e with rfl | e
    · exact Nat.le_refl _
    · rcases n1 k e with h | h
      · simp [Value.ownBlock] at h
      · rw [World.size_alloc] at h; omega))
  have B3 := Kept.mk (B2.trans (k3.below B2.size (fun k e => e.elim)))
  clear B1 B2 k1 k2 k3 n1 n2 h2
  simp only [List.nil_append] at *
  rw [hw]
  go_wp2_with fail
  go_ret
  exact ⟨rfl, B3.out⟩
set_option maxHeartbeats 1000000 in
theorem pnil_any (x y z : Int) (w : World) : Calls Try.prog 6 #[.agg #[.int .i64 x, .int .i64 y, .int .i64 z]] w (Yes w) := by
  have hb := Blk.new w 50 [.int .i64 x, .int .i64 y, .int .i64 z]
  have b0 := hb.cell 0 rfl
  have b1 := hb.cell 1 rfl
  have b2 := hb.cell 2 rfl
  clear hb
  go_enter Try.func6, Try.ntmps6
  go_wp2_with fail
  refine (has_nil _ _).mono ?_
  rintro e _ ⟨rfl, rfl⟩
  go_wp2_with fail
  refine (ship_nil _ _ _ _).mono ?_
  rintro e _ ⟨rfl, rfl⟩
  go_wp2_with fail
  refine (went_nil _ _).mono ?_
  rintro e _ ⟨rfl, rfl⟩
  go_wp2_with fail
  refine (ids_nil _).mono ?_
  rintro e _ ⟨rfl, rfl⟩
  go_wp2_with fail
  refine (awake10_any _).mono ?_
  rintro e w1 ⟨rfl, k1⟩
  go_wp2_with fail
  go_ret
  exact ⟨rfl, ((Below.refl _ w).alloc (Nat.le_refl _) _).trans (k1.mono (by simp))⟩
end Go.Proofs.Ytdbdhcfodolgdaa
