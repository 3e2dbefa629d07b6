/- The layer's awake (post), walked. -/
import Derived.Test.YtkacnogjifhcoaaDouble
namespace Go.Proofs.Ytkacnogjifhcoaa
open Go.RowKit
set_option linter.unusedSimpArgs false in
set_option maxRecDepth 100000 in
set_option maxHeartbeats 4000000 in
theorem awake17_any (w : World) : Calls Try.prog 23 #[] w (Yes w) := by
  go_enter Try.func23, Try.ntmps23
  go_wp2_with fail
  refine (pnew_to 1 _).mono ?_
  rintro e w1 ⟨rfl, h1, k1⟩
  have hmo : mostOf 1 = 1 := by decide
  rw [hmo] at h1
  have hp := h1.blk.lt
  have k2 := (Keeps.refl (fun _ => False) w1).alloc (.cells #[.int .i64 0, .int .i64 0, .int .i64 0, .int .i64 1, .int .i64 0, .int .i64 0, .int .i64 0, .int .i64 0, .int .i64 0, .int .i64 0, .int .i64 2, .int .i64 0, .int .i64 0, .int .i64 0] 55)
  have hM : MsRow (w1.alloc (.cells #[.int .i64 0, .int .i64 0, .int .i64 0, .int .i64 1, .int .i64 0, .int .i64 0, .int .i64 0, .int .i64 0, .int .i64 0, .int .i64 0, .int .i64 2, .int .i64 0, .int .i64 0, .int .i64 0] 55)) (some ⟨w1.heap.size, 0, none⟩) [⟨0, 0, 0, 1, 0, 0, 0⟩, ⟨0, 0, 0, 2, 0, 0, 0⟩] := msRow_of_blk (Blk.new w1 55 [.int .i64 0, .int .i64 0, .int .i64 0, .int .i64 1, .int .i64 0, .int .i64 0, .int .i64 0, .int .i64 0, .int .i64 0, .int .i64 0, .int .i64 2, .int .i64 0, .int .i64 0, .int .i64 0])
  have HPut := Kept.mk (put_to w.heap.size w.heap.size 1 0 _ [] [⟨0, 0, 0, 1, 0, 0, 0⟩, ⟨0, 0, 0, 2, 0, 0, 0⟩] (some ⟨w1.heap.size, 0, none⟩) 2 2 _ (h1.quiet k2) hM rfl (by omega) (fun x hx => by cases hx; exact ⟨by show w1.heap.size ≠ w.heap.size; omega, fun e => by simp [Value.ownBlock] at e⟩) (by simp; omega))
  have K2 := Kept.mk (k1.trans k2)
  clear hM h1 k1 k2 hmo
  go_wp2_with fail
  refine HPut.out.mono ?_
  rintro e w3 ⟨⟨r, rfl⟩, v3, h3, k3, n3⟩
  have hf : ([⟨0, 0, 0, 1, 0, 0, 0⟩, ⟨0, 0, 0, 2, 0, 0, 0⟩] : List Ms).foldl (put1 1) ([], 0) = ([⟨0, 0, 0, 2, 0, 0, 0⟩], 1) := rfl
  rw [hf] at h3
  have H3 := Kept.mk h3
  have K3 : Kept (Keeps (fun _ => False) w w3) := ⟨K2.out.then k3 (fun i hi e => by
    rcases e with h | h
    · omega
    · simp [Value.ownBlock] at h)⟩
  have hv3 := h3.own.lt
  have HN : Kept (∀ g, v3.ownBlock = some g → w.heap.size ≤ g) := ⟨fun g hg => (hv3 g hg).1⟩
  clear HPut k3 n3 h3 hf hv3 K2
  go_wp2_with fail
  refine (take_to w.heap.size w.heap.size 1 1 0 v3 _ ⟨0, 0, 0, 2, 0, 0, 0⟩ 0 _ H3.out rfl rfl).mono ?_
  rintro e w4 ⟨rfl, v4, h4, k4, n4⟩
  have H4 := Kept.mk (h4.quiet ((Keeps.refl (fun _ => False) w4).alloc (.cells #[.int .i64 0, .int .i64 0, .int .i64 0, .int .i64 2, .int .i64 0, .int .i64 0, .int .i64 0] 55)))
  have K4 : Kept (Keeps (fun _ => False) w w4) := ⟨K3.out.then k4 (fun i hi e => by
    rcases e with h | h
    · omega
    · have := HN.out i h; omega)⟩
  clear h4 k4 n4 H3 K3
  unfold encMs
  go_wp2_with fail
  refine (plost_to w.heap.size w.heap.size 1 1 v4 _ _ H4.out).mono ?_
  rintro e _ ⟨rfl, rfl⟩
  go_wp2_with fail
  refine (plen_to w.heap.size w.heap.size 1 1 v4 _ _ H4.out).mono ?_
  rintro e _ ⟨rfl, rfl⟩
  go_wp2_with fail
  go_ret
  exact ⟨rfl, (K4.out.alloc _).below (Nat.le_refl _) (fun _ h => h.elim)⟩
end Go.Proofs.Ytkacnogjifhcoaa
