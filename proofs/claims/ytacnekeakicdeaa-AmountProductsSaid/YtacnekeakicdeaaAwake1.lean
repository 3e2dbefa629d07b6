/- The statements' own awake of layer 1, walked: it answers true. No condition. -/
import Derived.Test.YtacnekeakicdeaaAmount
import Derived.Test.YtacnekeakicdeaaSame
namespace Go.Proofs.Ytacnekeakicdeaa
open Go.RowKit
def seven : Nat → List Value
  | 0 => [.int .i64 0, .int .i64 0, .int .i64 0]
  | 1 => [.int .i64 3, .int .i64 0, .int .i64 0]
  | 2 => [.int .i64 3, .int .i64 2, .int .i64 0]
  | _ => [.int .i64 3, .int .i64 2, .int .i64 2]
theorem may7 : mayB 7 = true := by decide
set_option maxHeartbeats 1000000 in
theorem split73 (w : World) : Calls Try.prog 14 #[.int .i64 7, .int .i64 3] w (Rets w (fun _ => False) (.slice (some ⟨w.heap.size, 0, none⟩) 3 3) fun w' => Blk w' w.heap.size 3 (seven 3)) := by
  have hmk : ∀ w, (Instr.makeSlice 22 (.int .i64 3) (.int .i64 3)).run Try.prog w = .ok (.slice (some ⟨w.heap.size, 0, none⟩) 3 3) (w.alloc (.cells #[.int .i64 0, .int .i64 0, .int .i64 0] 3)) := fun _ => by kernel_rfl
  go_enter Try.func14, Try.ntmps14
  go_wp2_with fail
  refine (may_to 7 true _ may7).mono ?_
  rintro e _ ⟨rfl, rfl⟩
  go_wp2_with fail
  have hB : Blk (w.alloc (.cells #[.int .i64 0, .int .i64 0, .int .i64 0] 3)) w.heap.size 3 (seven 0) := Blk.new _ _ _
  have hK : Keeps (fun _ => False) w (w.alloc (.cells #[.int .i64 0, .int .i64 0, .int .i64 0] 3)) := (Keeps.refl _ w).alloc _
  go_loopw [21] (fun i wr => ∃ (k : Nat), k ≤ 3 ∧ i = .int .i64 k ∧ Blk wr w.heap.size 3 (seven k) ∧ Keeps (fun _ => False) w wr) (fun i _ => (3 - (intOf i).toNat))
  case atStart => exact ⟨0, by omega, rfl, hB, hK⟩
  case round =>
    clear hB hK
    obtain ⟨k, hk, rfl, hB, hK⟩ := hrel
    match k, hk with
    | 0, _ =>
      have HB := Kept.mk hB
      have c0 := hB.cell 0 rfl
      have f0 := hB.frozen 0
      clear hB
      go_wp2_with fail
      go_roundw
      case rel => exact ⟨1, by omega, by go_num, (HB.out.set 0 _).set 0 _, (hK.setCell (p := ⟨w.heap.size, 0, none⟩) (.inl (Nat.le_refl _)) _).setCell (p := ⟨w.heap.size, 0, none⟩) (.inl (Nat.le_refl _)) _⟩
      case measure => simp [intOf]
    | 1, _ =>
      have HB := Kept.mk hB
      have c0 := hB.cell 1 rfl
      have f0 := hB.frozen 1
      clear hB
      go_wp2_with fail
      go_roundw
      case rel => exact ⟨2, by omega, by go_num, HB.out.set 1 _, hK.setCell (p := ⟨w.heap.size, 1, none⟩) (.inl (Nat.le_refl _)) _⟩
      case measure => simp [intOf]
    | 2, _ =>
      have HB := Kept.mk hB
      have c0 := hB.cell 2 rfl
      have f0 := hB.frozen 2
      clear hB
      go_wp2_with fail
      go_roundw
      case rel => exact ⟨3, by omega, by go_num, HB.out.set 2 _, hK.setCell (p := ⟨w.heap.size, 2, none⟩) (.inl (Nat.le_refl _)) _⟩
      case measure => simp [intOf]
    | 3, _ =>
      go_wp2_with fail
      go_ret
      exact ⟨rfl, hB, hK⟩
theorem mayMost : mayB 1000000000 = true := by decide
theorem mayNot : mayB (-1) = false := by decide
def three : Nat → Int
  | 0 => 3
  | _ => 2
theorem cells_three {w : World} {b : Nat} (h : Blk w b 3 (seven 3)) : IntCells w (some ⟨b, 0, none⟩) 3 three := by
  refine ⟨b, 0, .inl rfl, fun i hi => ?_⟩
  rw [Nat.zero_add]
  match i, hi with
  | 0, _ => exact h.cell 0 rfl
  | 1, _ => exact h.cell 1 rfl
  | 2, _ => exact h.cell 2 rfl
set_option maxHeartbeats 1000000 in
theorem awake1_any (w : World) : Calls Try.prog 15 #[] w (Yes w) := by
  go_enter Try.func15, Try.ntmps15
  go_wp2_with fail
  refine (split73 _).mono ?_
  rintro e w1 ⟨rfl, h1, k1⟩
  go_wp2_with fail
  have h2 : Blk (w1.alloc (.cells #[.int .i64 3, .int .i64 2, .int .i64 2] 3)) w1.heap.size 3 (seven 3) := Blk.new _ _ _
  refine (same_yes _ _ 3 3 3 three _ (cells_three (h1.alloc _)) (cells_three h2) (by omega)).mono ?_
  rintro e w2 ⟨rfl, n, rfl⟩
  go_wp2_with fail
  refine (may_to _ true _ mayMost).mono ?_
  rintro e _ ⟨rfl, rfl⟩
  go_wp2_with fail
  refine (may_to _ false _ mayNot).mono ?_
  rintro e _ ⟨rfl, rfl⟩
  go_wp2_with fail
  go_ret
  exact ⟨rfl, ((k1.alloc _).drewN n).below (Nat.le_refl _) (fun _ h => h.elim)⟩
end Go.Proofs.Ytacnekeakicdeaa
