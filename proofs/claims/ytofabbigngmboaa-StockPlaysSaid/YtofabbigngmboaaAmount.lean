/- Package amount's functions, walked: what each answers, in plain numbers; nothing is turned. No condition but that the numbers are int's. -/
import Derived.Test.YtofabbigngmboaaRows
import Derived.Test.YtofabbigngmboaaSay
namespace Go.Proofs.Ytofabbigngmboaa
open Go.RowKit

def mayB (a : Int) : Bool := decide (0 ≤ a) && decide (a ≤ 1000000000)
theorem mayB_iff (a : Int) : mayB a = true ↔ 0 ≤ a ∧ a ≤ 1000000000 := by simp [mayB]
theorem may_any (a : Int) (w : World) : Calls Try.prog 40 #[.int .i64 a] w (Says w (.bool (mayB a))) := by
  by_cases h0 : 0 ≤ a
  · have e : Kept (mayB a = decide (a ≤ 1000000000)) := ⟨by simp [mayB, h0]⟩
    go_enter Try.func40, Try.ntmps40
    go_wp2
    go_ret
    exact ⟨by rw [e.out]; rfl, rfl⟩
  · have e : Kept (mayB a = false) := ⟨by simp [mayB, h0]⟩
    go_enter Try.func40, Try.ntmps40
    go_wp2
    go_ret
    exact ⟨by rw [e.out]; rfl, rfl⟩
theorem may_to (a : Int) (r : Bool) (w : World) (h : mayB a = r) : Calls Try.prog 40 #[.int .i64 a] w (Says w (.bool r)) := by
  subst h; exact may_any a w
def bothB (a b : Int) : Bool := mayB a && mayB b
theorem bothB_iff (a b : Int) : bothB a b = true ↔ (0 ≤ a ∧ a ≤ 1000000000) ∧ 0 ≤ b ∧ b ≤ 1000000000 := by simp [bothB, mayB_iff]
theorem both_any (a b : Int) (w : World) : Calls Try.prog 50 #[.int .i64 a, .int .i64 b] w (Says w (.bool (bothB a b))) := by
  cases ha : mayB a with
  | true =>
    have e : Kept (bothB a b = mayB b) := ⟨by simp [bothB, ha]⟩
    have Ha := Kept.mk ha
    clear ha
    go_enter Try.func50, Try.ntmps50
    go_wp2_with fail
    refine (may_to a true _ Ha.out).mono ?_
    rintro e _ ⟨rfl, rfl⟩
    go_wp2_with fail
    refine (may_any b _).mono ?_
    rintro e _ ⟨rfl, rfl⟩
    go_wp2_with fail
    go_ret
    exact ⟨by rw [e.out]; rfl, rfl⟩
  | false =>
    have e : Kept (bothB a b = false) := ⟨by simp [bothB, ha]⟩
    have Ha := Kept.mk ha
    clear ha
    go_enter Try.func50, Try.ntmps50
    go_wp2_with fail
    refine (may_to a false _ Ha.out).mono ?_
    rintro e _ ⟨rfl, rfl⟩
    go_wp2_with fail
    go_ret
    exact ⟨by rw [e.out]; rfl, rfl⟩
theorem both_to (a b : Int) (r : Bool) (w : World) (h : bothB a b = r) : Calls Try.prog 50 #[.int .i64 a, .int .i64 b] w (Says w (.bool r)) := by
  subst h; exact both_any a b w
end Go.Proofs.Ytofabbigngmboaa
