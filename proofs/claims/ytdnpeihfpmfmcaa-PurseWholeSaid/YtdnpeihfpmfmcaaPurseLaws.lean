/- The laws of layer 9, walked: awake, PurseNil, PurseTill. -/
import Derived.Test.YtdnpeihfpmfmcaaPurse5
namespace Go.Proofs.Ytdnpeihfpmfmcaa
open Go.RowKit
theorem row_one {w : World} {T : TypeId} (x : Int) : IntCells (w.alloc (.cells #[.int .i64 x] T)) (some ⟨w.heap.size, 0, none⟩) 1 (fun _ => x) :=
  ⟨w.heap.size, 0, .inl rfl, fun i hi => by
    obtain rfl : i = 0 := by omega
    exact (Blk.new w T [.int .i64 x]).cell 0 rfl⟩
theorem row_two {w : World} {T : TypeId} (x y : Int) : IntCells (w.alloc (.cells #[.int .i64 x, .int .i64 y] T)) (some ⟨w.heap.size, 0, none⟩) 2 (fun k => if k = 0 then x else y) :=
  ⟨w.heap.size, 0, .inl rfl, fun i hi => by
    rw [Nat.zero_add]
    match i, hi with
    | 0, _ => exact (Blk.new w T [.int .i64 x, .int .i64 y]).cell 0 rfl
    | 1, _ => exact (Blk.new w T [.int .i64 x, .int .i64 y]).cell 1 rfl⟩
theorem purseNew_to (a : Option Addr) (len cap : Nat) (f : Nat → Int) (s : Pu) (w : World) (hr : IntCells w a len f) (hlen : (len : Int) ≤ 9223372036854775807) (hab : ∀ x, a = some x → x.block < w.heap.size) (hs : Pu.new f len = s) :
    Calls Try.prog 17 #[.slice a len cap] w (Rets w (fun _ => False) (.pointer (some ⟨w.heap.size + 2, 0, none⟩)) fun w' => PuAt w' (w.heap.size + 2) w.heap.size (w.heap.size + 1) s ∧ w'.heap.size = w.heap.size + 3) := by
  subst hs; exact purseNew_any a len cap f w hr hlen hab
theorem purseNew_one (x : Int) (s : Pu) (w : World) (hs : Pu.new (fun _ => x) 1 = s) : Calls Try.prog 17 #[.slice (some ⟨w.heap.size, 0, none⟩) 1 1] (w.alloc (.cells #[.int .i64 x] 3)) (Rets w (fun _ => False) (.pointer (some ⟨w.heap.size + 3, 0, none⟩)) fun w' => PuAt w' (w.heap.size + 3) (w.heap.size + 1) (w.heap.size + 2) s ∧ w'.heap.size = w.heap.size + 4) := by
  refine (purseNew_to _ 1 1 (fun _ => x) s _ (row_one x) (by omega) (fun y e => by cases e; simp) hs).mono ?_
  rintro e w1 ⟨rfl, ⟨h1, s1⟩, k1⟩
  rw [World.size_alloc] at h1 s1 ⊢
  exact ⟨rfl, ⟨h1, s1⟩, (((Keeps.refl _ w).alloc _).then k1 (fun _ _ h => h))⟩
theorem purseNew_two (x y : Int) (s : Pu) (w : World) (hs : Pu.new (fun k => if k = 0 then x else y) 2 = s) : Calls Try.prog 17 #[.slice (some ⟨w.heap.size, 0, none⟩) 2 2] (w.alloc (.cells #[.int .i64 x, .int .i64 y] 3)) (Rets w (fun _ => False) (.pointer (some ⟨w.heap.size + 3, 0, none⟩)) fun w' => PuAt w' (w.heap.size + 3) (w.heap.size + 1) (w.heap.size + 2) s ∧ w'.heap.size = w.heap.size + 4) := by
  refine (purseNew_to _ 2 2 (fun k => if k = 0 then x else y) s _ (row_two x y) (by omega) (fun y e => by cases e; simp) hs).mono ?_
  rintro e w1 ⟨rfl, ⟨h1, s1⟩, k1⟩
  rw [World.size_alloc] at h1 s1 ⊢
  exact ⟨rfl, ⟨h1, s1⟩, (((Keeps.refl _ w).alloc _).then k1 (fun _ _ h => h))⟩
theorem pawake_plain : ∃ s0 s1 s2 : Pu, Pu.new (fun _ => 5) 1 = s0 ∧ s0.Ok ∧ s1.Ok ∧ Kept (s0.allow 1 0 4 = (0, s1)) ∧ Kept (s1.allow 2 0 2 = (9, s1)) ∧ Kept (s1.capture 1 = (0, s2)) ∧ Kept (s2.till = 4) ∧ Kept (s2.money 0 = 1) := by
  have ok0 := Pu.new_ok (fun _ => 5) 1
  have ok1 := Pu.allow_ok ok0 1 0 4
  exact ⟨_, _, _, rfl, ok0, ok1, ⟨rfl⟩, ⟨rfl⟩, ⟨rfl⟩, ⟨rfl⟩, ⟨rfl⟩⟩
set_option maxHeartbeats 1000000 in
theorem awake9_any (w : World) : Calls Try.prog 22 #[] w (Yes w) := by
  obtain ⟨s0, s1, s2, e0, ok0, ok1, H1, H2, H3, H4, H5⟩ := pawake_plain
  go_enter Try.func22, Try.ntmps22
  go_wp2_with fail
  refine (purseNew_one 5 s0 _ e0).mono ?_
  rintro e w1 ⟨rfl, ⟨h1, z1⟩, k1⟩
  go_wp2_with fail
  refine (allow_to _ _ _ _ _ _ _ _ _ _ h1 ok0 H1.out).mono ?_
  rintro e w2 ⟨rfl, h2, k2⟩
  go_wp2_with fail
  refine (allow_to _ _ _ _ _ _ _ _ _ _ h2 ok1 H2.out).mono ?_
  rintro e w3 ⟨rfl, h3, k3⟩
  go_wp2_with fail
  refine (capture_to _ _ _ _ _ _ _ _ h3 ok1 H3.out).mono ?_
  rintro e w4 ⟨rfl, h4, k4⟩
  go_wp2_with fail
  refine (till_to _ _ _ _ _ _ h4 H4.out).mono ?_
  rintro e _ ⟨rfl, rfl⟩
  go_wp2_with fail
  refine (money_to _ _ _ _ _ _ 0 _ h4 rfl (by omega) H5.out).mono ?_
  rintro e _ ⟨rfl, rfl⟩
  go_wp2_with fail
  go_ret
  exact ⟨rfl, (k1.below (Nat.le_refl _) (fun _ h => h.elim)).trans (((k2.trans k3).trans k4).below k1.size (fun k e => by omega))⟩
theorem nil9_any (c0 c1 c2 c3 : Int) (w : World) : Calls Try.prog 6 #[.agg #[.int .i64 c0, .int .i64 c1, .int .i64 c2, .int .i64 c3]] w (Yes w) := by
  go_enter Try.func6, Try.ntmps6
  go_wp2_with fail
  refine (paid_nil _ _).mono ?_
  rintro e _ ⟨rfl, rfl⟩
  go_wp2_with fail
  refine (allow_nil _ _ _ _).mono ?_
  rintro e _ ⟨rfl, rfl⟩
  go_wp2_with fail
  refine (capture_nil _ _).mono ?_
  rintro e w2 ⟨rfl, -, k2⟩
  have d1 := ((Blk.new w 41 [.int .i64 c0, .int .i64 c1, .int .i64 c2, .int .i64 c3]).keeps k2 (fun h => h)).cell 1 rfl
  go_wp2_with fail
  refine (void_nil _ _).mono ?_
  rintro e w3 ⟨rfl, -, k3⟩
  have d2 := (((Blk.new w 41 [.int .i64 c0, .int .i64 c1, .int .i64 c2, .int .i64 c3]).keeps k2 (fun h => h)).keeps k3 (fun h => h)).cell 2 rfl
  go_wp2_with fail
  refine (money_nil _ _).mono ?_
  rintro e _ ⟨rfl, rfl⟩
  go_wp2_with fail
  refine (allowed_nil _ _).mono ?_
  rintro e _ ⟨rfl, rfl⟩
  go_wp2_with fail
  refine (till_nil _).mono ?_
  rintro e _ ⟨rfl, rfl⟩
  go_wp2_with fail
  refine (awake9_any _).mono ?_
  rintro e w4 ⟨rfl, b4⟩
  have K := (((Keeps.refl (fun _ => False) w).alloc (.cells #[.int .i64 c0, .int .i64 c1, .int .i64 c2, .int .i64 c3] 41)).trans (k2.trans k3 |>.mono (fun _ _ h => h))).below (Nat.le_refl _) (fun _ h => h.elim)
  go_wp2_with fail
  go_ret
  exact ⟨rfl, K.trans (b4.mono K.size)⟩
end Go.Proofs.Ytdnpeihfpmfmcaa
