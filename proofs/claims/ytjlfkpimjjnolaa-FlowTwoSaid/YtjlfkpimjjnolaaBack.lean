/- flow.Back as an iterator: how many it hands to a loop. -/
import Derived.Test.YtjlfkpimjjnolaaBackward
import Derived.Test.YtjlfkpimjjnolaaPlan
import Derived.Test.YtjlfkpimjjnolaaRangeGo
import Derived.Test.YtjlfkpimjjnolaaNewTr
namespace Go.Proofs.Ytjlfkpimjjnolaa
open Go.RowKit Go.Shelf
attribute [local go_sem] Oper.semAt_some
theorem backF_in2 (n : Nat) (o : Ord) (a : Option Addr) (c : Nat) (w : World) :
    CallsIn Fence.wide n Try.prog 42 #[.agg #[.int .i64 o.id, .int .i64 o.item, .int .i64 o.qty, .int .i64 o.client, .int .i64 o.price, .slice a o.steps.length c]] w fun e w' => ∃ B, e = .returned (.func (.func 49) #[] #[.pointer (some ⟨B, 0, none⟩)]) ∧ Blk w' B 24 [.int .i64 o.id, .int .i64 o.item, .int .i64 o.qty, .int .i64 o.client, .int .i64 o.price, .slice a o.steps.length c] ∧ Keeps (fun _ => False) w w' := by
  refine callsIn_of_wp Try.func42 rfl trivial ?_ rfl
  simp only [Try.ntmps42, List.size_toArray, List.length_cons, List.length_nil, Nat.reduceAdd, Nat.reduceSub, Array.replicate_succ, Array.replicate_zero, List.push_toArray, List.append_toArray, List.nil_append, List.cons_append]
  gi_wp2
  go_ret
  exact ⟨_, rfl, Blk.new w _ _, (Keeps.refl _ w).alloc _⟩
theorem keepsT_row {w0 Bs : Nat} {X Y : World} {vs : List Value} (k : KeepsT w0 30 25 X Y) (h : Blk X Bs 22 vs) : Keeps (fun k => w0 ≤ k ∧ k ≠ Bs) X Y :=
  Keeps.mono (S := fun k => w0 ≤ k ∧ ¬ ∃ cs T fz, X.heap[k]? = some (.cells cs T fz) ∧ T ≠ 30 ∧ T ≠ 25) k (fun i _ h1 => ⟨h1.1, fun e => h1.2 (by subst e; exact ⟨_, _, _, h, by decide, by decide⟩)⟩)
set_option linter.unusedSimpArgs false in
set_option linter.unusedVariables false in
set_option maxRecDepth 100000 in
set_option maxHeartbeats 4000000 in
theorem back1_go (n : Nat) (hn : 3 ≤ n) (w0 B : Nat) (o : Ord) (a : Option Addr) (c : Nat) (hmay : o.may = true) (w : World) (hw0 : w0 ≤ w.heap.size) (hB : Blk w B 24 [.int .i64 o.id, .int .i64 o.item, .int .i64 o.qty, .int .i64 o.client, .int .i64 o.price, .slice a o.steps.length c]) (hL : StRow w a o.steps) (hold : ∀ g off, o.steps ≠ [] → a = some ⟨g, off, none⟩ → g < w0) :
    SeqGoes Fence.wide n Try.prog 49 #[.pointer (some ⟨B, 0, none⟩)] encA2 (KeepsT w0 30 25) (fun ys => ys.length = o.steps.length + 1) (o.steps.length + 1) w := by
  intro l J W hW hJ hY h0
  have hk : Keeps (fun _ => False) w W := Keeps.of_below hW _
  have hn1 : 1 ≤ n := by omega
  have hn2 : 1 ≤ n - 1 := by omega
  have hn3 : 1 ≤ n - 1 - 1 := by omega
  have hl3 := Ord.may_len hmay
  have Hmay := Kept.mk hmay
  have HM : Kept (o.steps.length ≤ maxLen) := ⟨by unfold maxLen; omega⟩
  have k0 : Keeps (fun _ => False) W (W.alloc (.cells #[.func (.yield l) #[] #[]] 40)) := (Keeps.refl _ W).alloc _
  have HY0 := Kept.mk (Blk.newT W 40 [.func (.yield l) #[] #[]] _ rfl)
  have hB0 := (hB.keeps hk (fun h => h)).keeps k0 (fun h => h)
  have HB0 := Kept.mk hB0
  have HL0 := Kept.mk ((hL.quiet hk).quiet k0)
  have hJ0 : J [] (W.alloc (.cells #[.func (.yield l) #[] #[]] 40)) := hJ.alloc _ h0
  have hw1 : w.heap.size ≤ W.heap.size := hk.size
  have b0 := hB0.cell 0 rfl
  have b1 := hB0.cell 1 rfl
  have b2 := hB0.cell 2 rfl
  have b3 := hB0.cell 3 rfl
  have b4 := hB0.cell 4 rfl
  have b5 := hB0.cell 5 rfl
  have hBl : B < W.heap.size := Nat.lt_of_lt_of_le hB.lt hk.size
  clear hB hL hW hmay h0
  refine callsIn_of_wp_marks Try.func49 rfl trivial ?_ rfl
  simp only [Try.ntmps49, List.size_toArray, List.length_cons, List.length_nil, Nat.reduceAdd, Nat.reduceSub, Array.replicate_succ, Array.replicate_zero, List.push_toArray, List.append_toArray, List.nil_append, List.cons_append]
  gi_wp2
  refine ⟨trivial, ?_⟩
  gi_at_call 27
  refine (callsIn_wide.2 (omay_to o a c true _ HL0.out HM.out Hmay.out)).mono ?_
  rintro e w1 ⟨rfl, k1⟩
  have hJ1 := hJ _ _ _ none hJ0 (grown_of_keeps k1) (fun r e => by cases e)
  have HY1 := Kept.mk (HY0.out.keeps k1 (fun h => h))
  have HB1 := Kept.mk (HB0.out.keeps k1 (fun h => h))
  have HL1 := Kept.mk (HL0.out.quiet k1)
  have y0 := HY1.out.cell 0 rfl
  have hs1 : W.heap.size ≤ w1.heap.size := by have := k0.size; have := k1.size; omega
  obtain ⟨fn, tmps, assign, body, hy, hR⟩ := hY [] (10, 0) w1 hJ1 (by simp)
  unfold encA2 at hy
  dsimp only at hy
  clear b0 b1 b2 b3 b4 b5 k1 hB0 hJ1
  gi_wp2
  refine hR.mono ?_
  rintro e w2 ⟨rfl, hJ2, kp2, kf2⟩
  have HY2 := Kept.mk (kp2.blk HY1.out (by decide) (by decide))
  have HB2 := Kept.mk (kp2.blk HB1.out (by decide) (by decide))
  have HL2 : Kept (StRow w2 a o.steps) := ⟨HL1.out.keeps' kp2 (fun g off h1 h2 h3 => by have := hold g off h1 h2; omega)⟩
  have b5 := HB2.out.cell 5 rfl
  have hs2 : w1.heap.size ≤ w2.heap.size := kp2.size
  clear y0 hy hR kp2 kf2
  gi_wp2
  refine ⟨trivial, ?_⟩
  gi_at_call 50
  refine (bw_in Fence.wide _ trivial rfl _ _ _ _).mono ?_
  rintro e w' ⟨rfl, rfl⟩
  obtain ⟨w4, hw4⟩ : ∃ w4, w2.alloc (.cells #[.slice a o.steps.length c] 22) = w4 := ⟨_, rfl⟩
  have hz4 : w4.heap.size = w2.heap.size + 1 := by rw [← hw4]; simp
  have HJ4 : J ([] ++ [(10, 0)]) w4 := by rw [← hw4]; exact hJ.alloc _ hJ2
  have HY4 : Kept (Blk w4 W.heap.size 40 [.func (.yield l) #[] #[]]) := ⟨by rw [← hw4]; exact HY2.out.alloc _⟩
  have HS4 : Kept (Blk w4 w2.heap.size 22 [.slice a o.steps.length c]) := ⟨by rw [← hw4]; exact Blk.newT _ _ _ _ rfl⟩
  have HL4 : StRow w4 a o.steps := by rw [← hw4]; exact HL2.out.alloc _
  have hstops := bw_stops Fence.wide (n - 1) trivial rfl (by omega) w2.heap.size (fun k => w0 ≤ k ∧ k ≠ w2.heap.size) a c o.steps (by omega) w4 (by omega) (by omega) (fun g off h1 h2 h3 => by have := hold g off h1 h2; omega) (HS4.out.cell 0 rfl) HL4
  rw [hw4]
  clear hJ2 b5
  gi_wp2
  refine wpIn_rangeFunc_ownH rfl hn1 (gf := 53) (lb := #[.pointer (some ⟨w2.heap.size, 0, none⟩)]) rfl trivial (enters_of Try.func53 (by kernel_rfl) rfl) hstops keepsK_t (keepsK_b (T := fun k => w0 ≤ k ∧ k ≠ w2.heap.size) (w := w4) (fun k h => ⟨by omega, by omega⟩)) (Below.refl _ _) (fun _ => rfl)
    (fun pre X => (∃ ps : List Act2, ps.length = pre.length + 1 ∧ J ps X) ∧ Blk X W.heap.size 40 [.func (.yield l) #[] #[]] ∧ Blk X w2.heap.size 22 [.slice a o.steps.length c])
    (fun _ _ _ => False)
    (fun s X Y row hs hg hr => by
      obtain ⟨⟨ps, h1, h2⟩, h3, h4⟩ := hs
      exact ⟨⟨ps, h1, ownFrom_up hJ (by omega) _ _ _ _ h2 hg hr⟩, ownFrom_blk (fun _ => _) s X Y row h3 hg hr, ownFrom_blk (fun _ => _) s X Y row h4 hg hr⟩)
    (fun c s X Y row hs hg hr => hs)
    ⟨⟨_, rfl, HJ4⟩, HY4.out, HS4.out⟩
    (fun x a' _ => a' = { tmps := #[.func (.yield l) #[] #[], .pointer (some ⟨B, 0, none⟩), .pointer (some ⟨W.heap.size, 0, none⟩), .int .i64 x.1, .agg #[.int .i64 o.id, .int .i64 o.item, .int .i64 o.qty, .int .i64 o.client, .int .i64 o.price, .slice a o.steps.length c], .bool true, .bool false, .bool false, .func (.yield l) #[] #[], .agg #[.int .i64 10, .int .i64 0], .bool true, .bool false, .bool false, .pointer (some ⟨B, 5, none⟩), .slice a o.steps.length c, .func (.func 53) #[] #[.pointer (some ⟨w2.heap.size, 0, none⟩)], .int .i64 x.1, .agg #[.int .i64 (stAt o.steps x.1).1, .int .i64 (stAt o.steps x.1).2], undef, undef, undef, undef, undef], defers := [] })
    (fun x a' _ X Y row hs hg hr => hs)
    ?assign ?body ?done ?stop
  case assign =>
    rintro l2 pre x X K hi hk
    have HK := Kept.mk hk
    have HI2 := Kept.mk hi
    clear hk hi
    unfold encPl
    gi_wp2
    exact HK.out _ _ (KeepsFrom.refl _ _) (Keeps.refl _ _) HI2.out rfl
  case body =>
    rintro l2 pre x a' X hl ⟨r, hr⟩ ⟨⟨ps, hps, hJp⟩, hY2, hS2⟩ rfl hlt2
    obtain ⟨fn, tmps, assign, body, hy, hR⟩ := yield_any (m' := n - 1 - 1 - 1) (l' := l2) (hY ps (4, (x.1 : Int)) X hJp (by omega))
    unfold encA2 at hy
    dsimp only at hy
    have y0 := hY2.cell 0 rfl
    have HY5 := Kept.mk hY2
    have HS5 := Kept.mk hS2
    clear hr hY2 hS2 HJ4
    gi_wp2
    refine hR.mono ?_
    rintro e X2 ⟨rfl, hJ6, kp6, kf6⟩
    have KT := Kept.mk (keepsT_row kp6 HS5.out)
    have HY6 := Kept.mk (kp6.blk HY5.out (by decide) (by decide))
    have HS6 := Kept.mk (kp6.blk HS5.out (by decide) (by decide))
    have KF := Kept.mk (keepsFrom_up (B' := w4.heap.size) kf6 (by omega))
    clear kp6 kf6 y0 hy hR
    gi_wp2
    exact ⟨KF.out, KT.out, ⟨_, by simp [hps], hJ6⟩, HY6.out, HS6.out⟩
  case done =>
    rintro D ys X hD hys ⟨⟨ps, hps, hJp⟩, hY2, hS2⟩ hKD
    have HD := Kept.mk hKD
    have hln : ps.length = o.steps.length + 1 := by
      have h1 := congrArg List.length hys
      rw [List.length_map] at h1
      unfold fromBehind at h1
      rw [uptoF_length] at h1
      omega
    clear hY2 hS2 hKD
    gi_wp2
    refine ⟨by simp, .inl ⟨_, _, rfl, run_takeDeferred HD.out, ?_⟩⟩
    refine ⟨_, results_none rfl _ _ _, ⟨_, rfl⟩, ps, hln, hJ.putObj _ hJp (by omega) HD.out rfl⟩
  case stop =>
    rintro D c pre X hD _ h
    exact h.elim
end Go.Proofs.Ytjlfkpimjjnolaa
