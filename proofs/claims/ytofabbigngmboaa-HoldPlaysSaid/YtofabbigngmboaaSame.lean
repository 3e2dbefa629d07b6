/- The page's SameInts, walked, at two rows that hold the same: true. No condition but that the rows lie there. -/
import Derived.Test.YtofabbigngmboaaRows
import Derived.Test.YtofabbigngmboaaSay
namespace Go.Proofs.Ytofabbigngmboaa
open Go.RowKit
set_option maxHeartbeats 1000000 in
theorem same_yes (a b : Option Addr) (len cap cap' : Nat) (xs : Nat → Int) (w : World) (ha : IntCells w a len xs) (hb : IntCells w b len xs) (hl : (len : Int) ≤ 9223372036854775807) :
    Calls Try.prog 26 #[.slice a len cap, .slice b len cap'] w (Draws w (.bool true)) := by
  obtain ⟨ab, ao, ha, hca⟩ := ha
  obtain ⟨bb, bo, hb, hcb⟩ := hb
  have Hca := Kept.mk hca
  have Hcb := Kept.mk hcb
  clear hca hcb
  go_enter Try.func26, Try.ntmps26
  go_wp2_with fail
  go_loopw [13] (fun i wr => ∃ (k n : Nat), k ≤ len ∧ i = .int .i64 k ∧ wr = w.drewN n) (fun i _ => (len - (intOf i).toNat))
  case atStart => exact ⟨0, 0, by omega, rfl, rfl⟩
  case round =>
    obtain ⟨k, n, hk, rfl, hw⟩ := hrel
    by_cases hlt : k < len
    · obtain rfl : a = some ⟨ab, ao, none⟩ := by
        rcases ha with h | h
        · exact h
        · omega
      obtain rfl : b = some ⟨bb, bo, none⟩ := by
        rcases hb with h | h
        · exact h
        · omega
      have c1 : wr.cell? ⟨ab, ao + k, none⟩ = some (.int .i64 (xs k)) := by rw [hw]; exact Hca.out k hlt
      have c2 : wr.cell? ⟨bb, bo + k, none⟩ = some (.int .i64 (xs k)) := by rw [hw]; exact Hcb.out k hlt
      have Hw := Kept.mk hw
      clear hw
      have hki : (k : Int) < (len : Int) := by omega
      go_wp2_with fail
      go_quiet (fail)
      go_wp2_with fail
      go_roundw
      case rel => exact ⟨k + 1, n + nq, by omega, by go_num, by rw [Hw.out, World.drewN_drewN]⟩
      case measure => simp [intOf]; omega
    · have Hw := Kept.mk hw
      clear hw
      go_wp2_with fail
      go_ret
      exact ⟨rfl, n, Hw.out⟩
end Go.Proofs.Ytofabbigngmboaa
