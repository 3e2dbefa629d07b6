/- The law PostNil, walked. -/
import Derived.Test.YtkacnogjifhcoaaAllL
namespace Go.Proofs.Ytkacnogjifhcoaa
open Go.RowKit
theorem plen_nil (w : World) : Calls Try.prog 27 #[.pointer none] w (Says w (.int .i64 0)) := by
  go_enter Try.func27, Try.ntmps27
  go_wp2_with fail
  go_ret
  exact ⟨rfl, rfl⟩
theorem plost_nil (w : World) : Calls Try.prog 29 #[.pointer none] w (Says w (.int .i64 0)) := by
  go_enter Try.func29, Try.ntmps29
  go_wp2_with fail
  go_ret
  exact ⟨rfl, rfl⟩
set_option linter.unusedSimpArgs false in
set_option maxRecDepth 100000 in
set_option maxHeartbeats 4000000 in
theorem nil17_any (x y : Int) (a : Option Addr) (n c : Nat) (w : World) : Calls Try.prog 11 #[.agg #[.int .i64 x, .int .i64 y, .slice a n c]] w (Yes w) := by
  have HC := Kept.mk (Blk.new w 70 [.int .i64 x, .int .i64 y, .slice a n c])
  have K0 := Kept.mk ((Keeps.refl (fun _ => False) w).alloc (.cells #[.int .i64 x, .int .i64 y, .slice a n c] 70))
  go_enter Try.func11, Try.ntmps11
  go_wp2_with fail
  refine (put_nil a n c _).mono ?_
  rintro e _ ⟨⟨r, rfl⟩, rfl⟩
  go_wp2_with fail
  refine (take_nil y _).mono ?_
  rintro e w1 ⟨rfl, k1⟩
  have K1 := Kept.mk ((K0.out.trans k1).alloc (.cells #[.int .i64 0, .int .i64 0, .int .i64 0, .int .i64 0, .int .i64 0, .int .i64 0, .int .i64 0] 55))
  have hc1 := HC.out.keeps k1 (fun h => h)
  have c1 := hc1.cell 1 rfl
  have hlt := hc1.lt
  clear k1 hc1
  go_wp2_with fail
  refine (double_nil y _).mono ?_
  rintro e _ ⟨rfl, rfl⟩
  go_wp2_with fail
  refine (all_list (.pointer none) 3 [] _ (by omega) (by simp) (fun w1 _ => pall_nil w1)).mono ?_
  rintro e w2 ⟨⟨v, rfl, hv⟩, k2⟩
  obtain ⟨va, vc, rfl, _⟩ := hv.slice
  have K2 := Kept.mk (K1.out.trans k2)
  clear k2 hv
  go_wp2_with fail
  refine (plen_nil _).mono ?_
  rintro e _ ⟨rfl, rfl⟩
  go_wp2_with fail
  refine (plost_nil _).mono ?_
  rintro e _ ⟨rfl, rfl⟩
  go_wp2_with fail
  refine (awake17_any _).mono ?_
  rintro e w5 ⟨rfl, b5⟩
  go_wp2_with fail
  go_ret
  exact ⟨rfl, (K2.out.below (Nat.le_refl _) (fun _ h => h.elim)).trans (b5.mono K2.out.size)⟩
end Go.Proofs.Ytkacnogjifhcoaa
