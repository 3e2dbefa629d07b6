/- The law BellNil, walked. -/
import Derived.Test.YtleipaiojefekaaBellLaws
import Derived.Test.YtleipaiojefekaaIdsD
namespace Go.Proofs.Ytleipaiojefekaa
open Go.RowKit
theorem ids_nil (w : World) : Calls Try.prog 43 #[.pointer none] w fun e w2 => ∃ v, e = .returned v ∧ IdsTo w w2 v [] := by
  go_enter Try.func43, Try.ntmps43
  go_wp2_with fail
  refine (vals_to none 0 0 _).mono ?_
  rintro e w1 ⟨rfl, rfl⟩
  go_wp2_with fail
  go_ret
  exact ⟨_, rfl, w.heap.size, none, 0, rfl, Blk.newAt w 25 [.slice none 0 0] _ rfl, (fun k x hk => by simp at hk), (fun x hx => by cases hx), (Keeps.refl _ w).alloc _⟩
set_option maxHeartbeats 4000000 in
theorem bellNil_any (id : Int) (w : World) : Calls Try.prog 9 #[.int .i64 id] w (Yes w) := by
  go_enter Try.func9, Try.ntmps9
  go_wp2_with fail
  refine (ring_nil id _).mono ?_
  rintro e _ ⟨rfl, rfl⟩
  go_wp2_with fail
  refine (hang_nil id _).mono ?_
  rintro e _ ⟨rfl, rfl⟩
  go_wp2_with fail
  refine (cut_nil id _).mono ?_
  rintro e _ ⟨rfl, rfl⟩
  go_wp2_with fail
  refine (again_nil id _).mono ?_
  rintro e _ ⟨rfl, rfl⟩
  go_wp2_with fail
  refine (ids_to (.pointer none) 3 [] _ (by omega) (by simp) (fun w1 _ => ids_nil w1)).mono ?_
  rintro e w1 ⟨⟨v, rfl, hO⟩, k1⟩
  obtain ⟨va, vc, rfl, _⟩ := hO.slice
  have B1 : Kept (Below w.heap.size w w1) := ⟨k1.below (Nat.le_refl _) (fun _ h => h.elim)⟩
  clear hO k1
  go_wp2_with fail
  refine (bawake_any _).mono ?_
  rintro e w2 ⟨rfl, b2⟩
  go_wp2_with fail
  go_ret
  exact ⟨rfl, B1.out.trans (b2.mono B1.out.size)⟩
end Go.Proofs.Ytleipaiojefekaa
