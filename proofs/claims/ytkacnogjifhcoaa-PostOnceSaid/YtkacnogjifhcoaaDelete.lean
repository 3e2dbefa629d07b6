/- slices.Delete at messages, one of them: walked at a row of one's own. -/
import Derived.Test.YtkacnogjifhcoaaMsDel
import Derived.WalkKit
import Derived.Deep.RegionLaw
namespace Go.Proofs.Ytkacnogjifhcoaa
open Go.RowKit
/-- Hidden from the walk. -/
theorem ms_slice (g n cap i : Nat) (hi : i < n) (hc : n ≤ cap) : ∃ V1 A, (∀ W, (Instr.slice 49 (.slice (some ⟨g, 0, none⟩) n cap) (some (.int .i64 i)) (some (.int .i64 ((i : Int) + 1))) (some (.int .i64 n))).run Try.prog W = .ok V1 W) ∧
    (∀ W, (Instr.slice 49 (.slice (some ⟨g, 0, none⟩) n cap) none (some (.int .i64 i)) none).run Try.prog W = .ok (.slice (some ⟨g, 0, none⟩) i cap) W) ∧
    (∀ W, (Instr.slice 49 (.slice (some ⟨g, 0, none⟩) n cap) (some (.int .i64 ((i : Int) + 1))) none none).run Try.prog W = .ok (.slice (some A) (n - (i + 1)) (cap - (i + 1))) W) ∧
    (∀ W, (Instr.slice 49 (.slice (some ⟨g, 0, none⟩) (n - 1) cap) (some (.int .i64 ((n - 1 : Nat) : Int))) (some (.int .i64 n)) none).run Try.prog W = .ok (.slice (some ⟨g, (n - 1) * 7, none⟩) 1 (cap - (n - 1))) W) ∧
    (i + 1 < n → A = ⟨g, (i + 1) * 7, none⟩) := by
  have ht : Try.prog.underlying 49 = some (.slice (Try.prog.elem 49)) := by simp [Program.elem, Try.underlying49]
  have he : Try.prog.elem 49 = 55 := by simp [Program.elem, Try.underlying49]
  have hs : ∀ W, (Go.sizeOf 55).run Try.prog W = .ok 7 W := fun W => by kernel_rfl
  have hadd : ∀ k, (Addr.mk g 0 none).add k = ⟨g, k, none⟩ := by
    intro k
    unfold Addr.add
    by_cases h : k = 0
    · subst h; simp
    · simp [h]
  have t1 : ((i : Int) + 1).toNat = i + 1 := by omega
  refine ⟨sliced (some ⟨g, 0, none⟩) (i : Int).toNat ((i : Int) + 1).toNat (n : Int).toNat 7, if cap = i + 1 then ⟨g, 0, none⟩ else ⟨g, (i + 1) * 7, none⟩, fun W => ?_, fun W => ?_, fun W => ?_, fun W => ?_, fun h => ?_⟩
  · rw [run_slice_lhm W 49 (some ⟨g, 0, none⟩) n cap ht .i64 .i64 .i64 (i : Int) ((i : Int) + 1) (n : Int) (by omega) (by omega) (by omega) (by omega), he, hs]
    rfl
  · rw [run_slice_h W 49 (some ⟨g, 0, none⟩) n cap ht .i64 (i : Int) (by omega) (by omega), he, hs]
    simp [Result.andThen, sliced, hadd]
  · rw [run_slice_l W 49 (some ⟨g, 0, none⟩) n cap ht .i64 ((i : Int) + 1) (by omega) (by omega), he, hs]
    simp only [Result.andThen, sliced, t1, Option.map_some, hadd]
    by_cases h : cap = i + 1
    · rw [if_pos h, if_pos h]
    · rw [if_neg h, if_neg h]
  · rw [run_slice_lh W 49 (some ⟨g, 0, none⟩) (n - 1) cap ht .i64 .i64 ((n - 1 : Nat) : Int) (n : Int) (by omega) (by omega) (by omega), he, hs]
    simp only [Result.andThen, sliced, Int.toNat_natCast, Option.map_some, hadd]
    rw [if_neg (by omega), show n - (n - 1) = 1 by omega]
  · rw [if_neg (by omega)]
set_option linter.unusedSimpArgs false in
set_option linter.unusedVariables false in
set_option maxRecDepth 1000000 in
set_option maxHeartbeats 4000000 in
theorem delete_to (base : Nat) (g cap i : Nat) (x y : Int) (L : List Ms) (w : World) (hi : i < L.length) (hx : x = i) (hy : y = (i : Int) + 1) (h : MsOwn w base (.slice (some ⟨g, 0, none⟩) L.length cap) L) :
    Calls Try.prog 42 #[.slice (some ⟨g, 0, none⟩) L.length cap, .int .i64 x, .int .i64 y] w (fun e w' => e = .returned (.slice (some ⟨g, 0, none⟩) (L.length - 1) cap) ∧ MsOwn w' base (.slice (some ⟨g, 0, none⟩) (L.length - 1) cap) (L.eraseIdx i) ∧ Keeps (fun k => k = g) w w') := by
  subst hx
  subst hy
  obtain ⟨hlen, hcur⟩ := h
  rcases hcur with ⟨hv, _⟩ | ⟨g', cap', cur, hv, hb, hg, hn, hm, hz, ht⟩
  · cases hv
  simp only [Value.slice.injEq, Option.some.injEq, Addr.mk.injEq, and_true, true_and] at hv
  obtain ⟨rfl, rfl⟩ := hv
  have hB : Blk w g 55 cur.toList := by simpa [Blk] using hg
  obtain ⟨n, hnn⟩ : ∃ n, L.length = n := ⟨_, rfl⟩
  rw [hnn] at hn hi ht ⊢
  have hcs : cur.toList.length = cap * 7 := by simpa using hz
  obtain ⟨V1, A, q1, q2, q3, q4, hA⟩ := ms_slice g n cap i hi hn
  obtain ⟨i0, hi0, hz0, hz1, hz2⟩ := info_parts infoMsg
  obtain ⟨news, hnews⟩ : ∃ news, (L.drop (i + 1)).flatMap encMs = news := ⟨_, rfl⟩
  have hnl : news.length = (n - (i + 1)) * 7 := by rw [← hnews, flat_len encMs 7 encMs_len, List.length_drop, hnn]
  have s1 := Kept.mk hnl
  have s2 : Kept (∀ u ∈ news, u.oneCell' = true) := ⟨by rw [← hnews]; exact ms_ones _⟩
  have s3 : Kept (∀ j u, news[j]? = some u → w.drew.cell? (A.add j) = some u) := ⟨fun j u hu => by
    have hj : j < (n - (i + 1)) * 7 := by rw [← hnl]; exact (List.getElem?_eq_some_iff.1 hu).1
    rw [hA (by omega)]
    have e : (Addr.mk g ((i + 1) * 7) none).add j = ⟨g, (i + 1) * 7 + j, none⟩ := by
      unfold Addr.add
      by_cases h : j = 0
      · subst h; simp
      · simp [h]
    rw [e]
    refine hB.cell _ ?_
    have h1 : cur.toList[(i + 1) * 7 + j]? = (L.flatMap encMs)[(i + 1) * 7 + j]? := by rw [← ht, List.getElem?_take, if_pos (by omega)]
    have h2 : L.flatMap encMs = (L.take (i + 1)).flatMap encMs ++ news := by rw [← hnews, ← List.flatMap_append, List.take_append_drop]
    have h3 : ((L.take (i + 1)).flatMap encMs).length = (i + 1) * 7 := by rw [flat_len encMs 7 encMs_len, List.length_take, Nat.min_eq_left (by omega)]
    rw [h1, h2, List.getElem?_append_right (by omega), h3, show (i + 1) * 7 + j - (i + 1) * 7 = j by omega]
    exact hu⟩
  have hsome : ∀ (W : World) (vs : List Value), Blk W g 55 vs → ∀ k, k < vs.length → (W.cell? ⟨g, k, none⟩).isSome = true := fun W vs hb k hk => by
    rw [hb.cell k (List.getElem?_eq_getElem hk)]; rfl
  have s4 : Kept (∀ j, j < news.length → (w.drew.cell? ⟨g, 0 + i * 7 + j, none⟩).isSome = true ∧ w.drew.frozen? ⟨g, 0 + i * 7 + j, none⟩ = false) := ⟨fun j hj => by
    rw [hnl] at hj
    exact ⟨hsome w _ hB _ (by omega), hB.frozen _⟩⟩
  obtain ⟨W1, hW1⟩ : ∃ W1, w.drew.setCells g (0 + i * 7) news = W1 := ⟨_, rfl⟩
  have hB1 : Blk W1 g 55 (over cur.toList (i * 7) news) := by
    rw [← hW1, Nat.zero_add]
    exact Blk.over_ (w := w) news (i * 7) hB.drew
  have K1 : Kept (Keeps (fun k => k = g) w W1) := ⟨by rw [← hW1]; exact ((Keeps.refl _ w).drew).trans (keeps_setCells g news _ _)⟩
  obtain ⟨z7, hz7⟩ : ∃ z : List Value, [.int .i64 0, .int .i64 0, .int .i64 0, .int .i64 0, .int .i64 0, .int .i64 0, .int .i64 0] = z := ⟨_, rfl⟩
  have hz7l : z7.length = 7 := by rw [← hz7]; rfl
  have hcl : ∀ ty, (Builtin.clear_ #[49] ty #[.slice (some ⟨g, (n - 1) * 7, none⟩) 1 (cap - (n - 1))]).run Try.prog W1 = .ok (.tuple #[]) (W1.setCells g ((n - 1) * 7) z7) := by
    intro ty
    have hv : ∀ w, (zeroValue 55).run Try.prog w = .ok (.agg z7.toArray) w := fun w => by rw [← hz7]; kernel_rfl
    have hst := run_storeCells_cells (P := Try.prog) g ((n - 1) * 7) z7 0 W1 (fun j hj => hsome W1 _ hB1 _ (by rw [over_len, hcs]; omega)) (fun j hj => hB1.frozen _) (by rw [← hz7]; intro v hv; simp at hv; rcases hv with rfl; rfl)
    simp only [Nat.add_zero] at hst
    have hzc : (Builtin.zeroCells z7.toArray 1).toList = z7 := by rw [← hz7]; kernel_rfl
    simp [Builtin.clear_, run_underlying Try.underlying49, hv, Value.cells, hzc, hst]
  have hcl2 : ∀ ty, (Builtin.clear_ #[49] ty #[.slice (some ⟨g, (n - 1) * 7, none⟩) (n - (n - 1)) (cap - (n - 1))]).run Try.prog W1 = .ok (.tuple #[]) (W1.setCells g ((n - 1) * 7) z7) := by
    rw [show n - (n - 1) = 1 by omega]
    exact hcl
  have HB2 : Kept (Blk (W1.setCells g ((n - 1) * 7) z7) g 55 (over (over cur.toList (i * 7) news) ((n - 1) * 7) z7)) := ⟨Blk.over_ (w := W1) z7 ((n - 1) * 7) hB1⟩
  have K2 : Kept (Keeps (fun k => k = g) w (W1.setCells g ((n - 1) * 7) z7)) := ⟨K1.out.trans (keeps_setCells g z7 _ _)⟩
  have HT : Kept ((over (over cur.toList (i * 7) news) ((n - 1) * 7) z7).take ((n - 1) * 7) = (L.eraseIdx i).flatMap encMs) := ⟨by
    have h1 := cut_cells (cur := cur.toList) (L := L) (i := i) (z := z7) (by omega) hz7l (by rw [hnn, hcs]; omega) (by rw [hnn]; exact ht)
    rw [hnn, hnews] at h1
    exact h1⟩
  have HW := Kept.mk hW1
  have hic : i ≤ cap := by omega
  have hin : ((n - 1 : Nat) : Int) = i + ((n - (i + 1) : Nat) : Int) := by omega
  have HE : Kept (MsOwn (W1.setCells g ((n - 1) * 7) z7) base (.slice (some ⟨g, 0, none⟩) (n - 1) cap) (L.eraseIdx i)) := ⟨by
    have hle : (L.eraseIdx i).length = n - 1 := by rw [List.length_eraseIdx, if_pos (by omega), hnn]
    unfold MsOwn
    rw [hle]
    refine ⟨by rw [flat_len encMs 7 encMs_len, hle], .inr ⟨g, cap, (over (over cur.toList (i * 7) news) ((n - 1) * 7) z7).toArray, rfl, hb, HB2.out, by omega, hm, by simp [over_len, hcs], by simpa using HT.out⟩⟩⟩
  have hsum : i + (n - (i + 1)) = n - 1 := by omega
  clear hB1 HB2 HT K1 hB hg hz ht hsome hW1 hnews hnl hcs hA hlen
  go_enter Try.func42, Try.ntmps42
  go_wp2_with fail
  go_region_law (refine step_append_room rfl (.tmp 22) (.tmp 25) 49 rfl 55 i0 7 Try.underlying49 hi0 hz1 g 0 i cap (by simp [Act.eval, Act.put]) A (n - (i + 1)) (cap - (i + 1)) news (by simp [Act.eval, Act.put]) s1.out s3.out s2.out (by omega) s4.out ?_; rw [HW.out, hsum])
  go_wp2
  go_ret
  exact ⟨rfl, HE.out, K2.out⟩
end Go.Proofs.Ytkacnogjifhcoaa
