/- The reference's NewTrace, walked. -/
import Derived.Test.YtjlfkpimjjnolaaTrace
import Derived.Deep.RegionHeld3
import Derived.Deep.CutRange
namespace Go.Proofs.Ytjlfkpimjjnolaa
open Go.RowKit
theorem Blk.newT (w : World) (T : TypeId) (vs : List Value) (p : Nat) (hp : p = w.heap.size) : Blk (w.alloc (.cells vs.toArray T)) p T vs := by
  subst hp
  exact Blk.new w T vs
set_option linter.unusedSimpArgs false in
set_option linter.unusedVariables false in
set_option maxRecDepth 100000 in
set_option maxHeartbeats 8000000 in
theorem newTr_to (o : Ord) (a : Option Addr) (c : Nat) (w : World) (hn : o.steps.length ≤ 1000) :
    Calls Try.prog 16 #[.agg #[.int .i64 o.id, .int .i64 o.item, .int .i64 o.qty, .int .i64 o.client, .int .i64 o.price, .slice a o.steps.length c]] w (fun e w' => (∃ p bd bu : Nat, e = .returned (.pointer (some ⟨p, 0, none⟩)) ∧ w.heap.size ≤ p ∧ w.heap.size ≤ bd ∧ w.heap.size ≤ bu ∧ TrAt w' p bd bu o a c 0 0 false false false) ∧ Keeps (fun _ => False) w w') := by
  have hmk : ∀ w, (Instr.makeSlice 41 (.int .i64 o.steps.length) (.int .i64 o.steps.length)).run Try.prog w = .ok (.slice (some ⟨w.heap.size, 0, none⟩) o.steps.length o.steps.length) (w.alloc (.cells ((rowF o.steps.length (fun _ => false)).map encB).toArray 4)) := made_bools _ (by omega)
  have e1 : rowD o.steps.length 0 = (rowF o.steps.length (fun _ => false)).map encB := by unfold rowD; rw [rowF_congr (h' := fun _ => false) (fun i hi => by simp)]
  have e2 : rowU o.steps.length 0 0 = (rowF o.steps.length (fun _ => false)).map encB := by unfold rowU; rw [rowF_congr (h' := fun _ => false) (fun i hi => by simp)]
  have E1 := Kept.mk e1
  have E2 := Kept.mk e2
  clear e1 e2
  have HB := Kept.mk (Blk.newT w 24 [.int .i64 o.id, .int .i64 o.item, .int .i64 o.qty, .int .i64 o.client, .int .i64 o.price, .slice a o.steps.length c] _ rfl)
  have K0 := Kept.mk ((Keeps.refl (fun _ => False) w).alloc (.cells #[.int .i64 o.id, .int .i64 o.item, .int .i64 o.qty, .int .i64 o.client, .int .i64 o.price, .slice a o.steps.length c] 24))
  have hsz : w.heap.size < (w.alloc (.cells #[.int .i64 o.id, .int .i64 o.item, .int .i64 o.qty, .int .i64 o.client, .int .i64 o.price, .slice a o.steps.length c] 24)).heap.size := HB.out.lt
  go_enter Try.func16, Try.ntmps16
  go_upto_region 1 with fail
  generalize w.alloc (.cells #[.int .i64 o.id, .int .i64 o.item, .int .i64 o.qty, .int .i64 o.client, .int .i64 o.price, .slice a o.steps.length c] 24) = w1 at HB K0 hsz ⊢
  have c0 := HB.out.cell 0 rfl
  have c1 := HB.out.cell 1 rfl
  have c2 := HB.out.cell 2 rfl
  have c3 := HB.out.cell 3 rfl
  have c4 := HB.out.cell 4 rfl
  have c5 := HB.out.cell 5 rfl
  have hz2 : w.heap.size < w1.heap.size + 1 := by omega
  have hz3 : w.heap.size < w1.heap.size + 1 + 1 := by omega
  have hz4 : w.heap.size < w1.heap.size + 2 := by omega
  go_region
  all_goals
    go_wp2_with fail
    go_ret
    refine ⟨⟨_, ?_, ?_, rfl, ?_, ?_, ?_, ⟨?_, ?_, ?_, ?_, ?_, ?_⟩⟩, ?_⟩
    rotate_left 5
    · refine Blk.drew ?_
      repeat (first | (refine Blk.newT _ _ _ _ ?_; simp; done) | refine Blk.alloc ?_ _)
    · rw [E1.out]
      refine Blk.drew ?_
      repeat (first | (refine Blk.newT _ _ _ _ ?_; simp; done) | refine Blk.alloc ?_ _)
    · rw [E2.out]
      refine Blk.drew ?_
      repeat (first | (refine Blk.newT _ _ _ _ ?_; simp; done) | refine Blk.alloc ?_ _)
    · omega
    · omega
    · omega
    · repeat (first | exact K0.out | refine Keeps.drew ?_ | refine Keeps.alloc ?_ _)
    all_goals omega
end Go.Proofs.Ytjlfkpimjjnolaa
