/- amount.May, walked. -/
import Derived.Test.YtjlfkpimjjnolaaRows
import Derived.Test.YtjlfkpimjjnolaaSay
namespace Go.Proofs.Ytjlfkpimjjnolaa
open Go.RowKit
def mayB (a : Int) : Bool := decide (0 ≤ a) && decide (a ≤ 1000000000)
theorem mayB_iff (a : Int) : mayB a = true ↔ 0 ≤ a ∧ a ≤ 1000000000 := by simp [mayB]
theorem may_any (a : Int) (w : World) : Calls Try.prog 51 #[.int .i64 a] w (Says w (.bool (mayB a))) := by
  by_cases h0 : 0 ≤ a
  · have e : Kept (mayB a = decide (a ≤ 1000000000)) := ⟨by simp [mayB, h0]⟩
    go_enter Try.func51, Try.ntmps51
    go_wp2
    go_ret
    exact ⟨by rw [e.out]; rfl, rfl⟩
  · have e : Kept (mayB a = false) := ⟨by simp [mayB, h0]⟩
    go_enter Try.func51, Try.ntmps51
    go_wp2
    go_ret
    exact ⟨by rw [e.out]; rfl, rfl⟩
theorem may_to (a : Int) (r : Bool) (w : World) (h : mayB a = r) : Calls Try.prog 51 #[.int .i64 a] w (Says w (.bool r)) := by
  subst h; exact may_any a w
end Go.Proofs.Ytjlfkpimjjnolaa
