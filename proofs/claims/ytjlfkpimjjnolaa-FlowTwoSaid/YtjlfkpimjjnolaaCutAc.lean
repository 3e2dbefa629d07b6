/- l[:n] of a row of acts. -/
import Derived.Test.YtjlfkpimjjnolaaAcApp
namespace Go.Proofs.Ytjlfkpimjjnolaa
open Go.RowKit
theorem ac_upto (a : Option Addr) (n ll vc : Nat) (h : ll ≤ vc) (W : World) : (Instr.slice 25 (.slice a n vc) none (some (.int .i64 (ll : Int))) none).run Try.prog W = .ok (.slice a ll vc) W := by
  obtain ⟨i0, hi, hz0, hz1, hz2⟩ := info_parts infoAct
  have ht : Try.prog.underlying 25 = some (.slice (Try.prog.elem 25)) := by simp [Program.elem, Try.underlying25]
  have he : Try.prog.elem 25 = 30 := by simp [Program.elem, Try.underlying25]
  have hs : (Go.sizeOf 30).run Try.prog W = .ok 2 W := by kernel_rfl
  rw [run_slice_h W 25 a n vc ht .i64 (ll : Int) (by omega) (by omega), he, hs]
  have ha : ∀ x : Addr, x.add 0 = x := fun x => by unfold Addr.add; simp
  cases a with
  | none => simp [Result.andThen, sliced]
  | some x => simp [Result.andThen, sliced, ha]
end Go.Proofs.Ytjlfkpimjjnolaa
