/- l[:n] of a row of messages. -/
import Derived.Test.YtkacnogjifhcoaaMsgs
namespace Go.Proofs.Ytkacnogjifhcoaa
open Go.RowKit
theorem ms_upto (a : Option Addr) (n ll vc : Nat) (h : ll ≤ vc) (W : World) : (Instr.slice 49 (.slice a n vc) none (some (.int .i64 (ll : Int))) none).run Try.prog W = .ok (.slice a ll vc) W := by
  obtain ⟨i0, hi, hz0, hz1, hz2⟩ := info_parts infoMsg
  have ht : Try.prog.underlying 49 = some (.slice (Try.prog.elem 49)) := by simp [Program.elem, Try.underlying49]
  have he : Try.prog.elem 49 = 55 := by simp [Program.elem, Try.underlying49]
  have hs : (Go.sizeOf 55).run Try.prog W = .ok 7 W := by kernel_rfl
  rw [run_slice_h W 49 a n vc ht .i64 (ll : Int) (by omega) (by omega), he, hs]
  have ha : ∀ x : Addr, x.add 0 = x := fun x => by unfold Addr.add; simp
  cases a with
  | none => simp [Result.andThen, sliced]
  | some x => simp [Result.andThen, sliced, ha]
end Go.Proofs.Ytkacnogjifhcoaa
