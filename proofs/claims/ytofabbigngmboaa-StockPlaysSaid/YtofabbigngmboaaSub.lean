/- amount.Sub, walked. No condition but that the numbers are int's. -/
import Derived.Test.YtofabbigngmboaaAmount
namespace Go.Proofs.Ytofabbigngmboaa
open Go.RowKit
def subV (a b : Int) : Int × Int := if bothB a b then (if b > a then (0, 9) else (a - b, 0)) else (0, 1)
theorem sub_any (a b : Int) (w : World) : Calls Try.prog 41 #[.int .i64 a, .int .i64 b] w (Says w (.tuple #[.int .i64 (subV a b).1, .int .i64 (subV a b).2])) := by
  cases hb : bothB a b with
  | true =>
    have Hb := Kept.mk hb
    have hr := (bothB_iff a b).1 hb
    by_cases h : b > a
    · have e : Kept (subV a b = (0, 9)) := ⟨by unfold subV; rw [if_pos hb, if_pos h]⟩
      clear hb
      go_enter Try.func41, Try.ntmps41
      go_wp2_with fail
      refine (both_to a b true _ Hb.out).mono ?_
      rintro e _ ⟨rfl, rfl⟩
      go_wp2_with fail
      go_ret2
      exact ⟨by rw [e.out]; rfl, rfl⟩
    · have e : Kept (subV a b = (a - b, 0)) := ⟨by unfold subV; rw [if_pos hb, if_neg h]⟩
      clear hb
      go_enter Try.func41, Try.ntmps41
      go_wp2_with fail
      refine (both_to a b true _ Hb.out).mono ?_
      rintro e _ ⟨rfl, rfl⟩
      go_wp2_with fail
      go_ret2
      exact ⟨by rw [e.out]; rfl, rfl⟩
  | false =>
    have Hb := Kept.mk hb
    have e : Kept (subV a b = (0, 1)) := ⟨by unfold subV; rw [if_neg (by simp [hb])]⟩
    clear hb
    go_enter Try.func41, Try.ntmps41
    go_wp2_with fail
    refine (both_to a b false _ Hb.out).mono ?_
    rintro e _ ⟨rfl, rfl⟩
    go_wp2_with fail
    go_ret2
    exact ⟨by rw [e.out]; rfl, rfl⟩
end Go.Proofs.Ytofabbigngmboaa
