/- The law HoldNil, walked. -/
import Derived.Test.YtofabbigngmboaaHoldLaws
import Derived.Test.YtofabbigngmboaaIdsB
namespace Go.Proofs.Ytofabbigngmboaa
open Go.RowKit
theorem ids_nil (w : World) : Calls Try.prog 42 #[.pointer none] w fun e w2 => ∃ v, e = .returned v ∧ IdsTo w w2 v [] := by
  go_enter Try.func42, Try.ntmps42
  go_wp2_with fail
  refine (vals_to none 0 0 _).mono ?_
  rintro e w1 ⟨rfl, rfl⟩
  go_wp2_with fail
  go_ret
  exact ⟨_, rfl, w.heap.size, none, 0, rfl, Blk.newAt w 37 [.slice none 0 0] _ rfl, (fun k x hk => by simp at hk), (fun x hx => by cases hx), (Keeps.refl _ w).alloc _⟩
set_option maxHeartbeats 4000000 in
theorem holdNil_any (b : Bool) (id n : Int) (w : World) : Calls Try.prog 7 #[.agg #[.bool b, .int .i64 id, .int .i64 n]] w (Yes w) := by
  have HC := Kept.mk (Blk.newAt w 32 [.bool b, .int .i64 id, .int .i64 n] _ rfl)
  go_enter Try.func7, Try.ntmps7
  go_wp2_with fail
  refine (has_nil id _).mono ?_
  rintro e _ ⟨rfl, rfl⟩
  go_wp2_with fail
  refine (take_nil id n _).mono ?_
  rintro e _ ⟨rfl, rfl⟩
  go_wp2_with fail
  refine (back_nil id _).mono ?_
  rintro e _ ⟨rfl, rfl⟩
  go_wp2_with fail
  refine (left_nil _).mono ?_
  rintro e _ ⟨rfl, rfl⟩
  go_wp2_with fail
  refine (ids_to (.pointer none) 3 [] _ (by omega) (by simp) (fun w1 _ => ids_nil w1)).mono ?_
  rintro e w1 ⟨⟨v, rfl, hO⟩, k1⟩
  obtain ⟨va, vc, rfl, _⟩ := hO.slice
  have B1 : Kept (Below w.heap.size w w1) := ⟨(((Keeps.refl (fun _ => False) w).alloc _).trans k1).below (Nat.le_refl _) (fun _ h => h.elim)⟩
  clear hO k1
  go_wp2_with fail
  refine (awake_any _).mono ?_
  rintro e w2 ⟨rfl, b2⟩
  go_wp2_with fail
  go_ret
  exact ⟨rfl, B1.out.trans (b2.mono B1.out.size)⟩
section
open Go.ChangeShapes Go.WideShapes Go.ChangeAt
theorem FitsAt.bint2 {H : Type} {enc : TypeId × Value → H} {P : Program} {w : World} {sp : Nat → Bool} {held : Bool} {cs : Array Value} (h : FitsAt enc P w sp held [.bool, .int .i64, .int .i64] cs.toList 0) (n : cs.size = 3) : ∃ b x y, cs = #[.bool b, .int .i64 x, .int .i64 y] := by
  obtain ⟨v0, e0, a, rfl⟩ := h 0 _ rfl
  obtain ⟨v1, e1, b, rfl, _⟩ := h 1 _ rfl
  obtain ⟨v2, e2, c, rfl, _⟩ := h 2 _ rfl
  obtain ⟨l⟩ := cs
  match l, n with
  | [x0, x1, x2], _ =>
    simp at e0 e1 e2
    subst e0; subst e1; subst e2
    exact ⟨_, _, _, rfl⟩
end
end Go.Proofs.Ytofabbigngmboaa
