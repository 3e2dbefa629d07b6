/- l[:n] of a row of messages. -/
import Derived.Test.YtfcnegnkmacajaaMsgs
namespace Go.Proofs.Ytfcnegnkmacajaa
open Go.RowKit
theorem ms_upto (a : Option Addr) (n ll vc : Nat) (h : ll ≤ vc) (W : World) : (Instr.slice 32 (.slice a n vc) none (some (.int .i64 (ll : Int))) none).run Try.prog W = .ok (.slice a ll vc) W := by
  obtain ⟨i0, hi, hz0, hz1, hz2⟩ := info_parts infoMsg
  have ht : Try.prog.underlying 32 = some (.slice (Try.prog.elem 32)) := by simp [Program.elem, Try.underlying32]
  have he : Try.prog.elem 32 = 36 := by simp [Program.elem, Try.underlying32]
  have hs : (Go.sizeOf 36).run Try.prog W = .ok 7 W := by kernel_rfl
  rw [run_slice_h W 32 a n vc ht .i64 (ll : Int) (by omega) (by omega), he, hs]
  have ha : ∀ x : Addr, x.add 0 = x := fun x => by unfold Addr.add; simp
  cases a with
  | none => simp [Result.andThen, sliced]
  | some x => simp [Result.andThen, sliced, ha]
end Go.Proofs.Ytfcnegnkmacajaa
