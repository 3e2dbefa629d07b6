/- flow.Plan as an iterator: how many it hands to a loop. -/
import Derived.Test.YtjlfkpimjjnolaaLegal
import Derived.Test.YtjlfkpimjjnolaaFence
namespace Go.Proofs.Ytjlfkpimjjnolaa
open Go.RowKit Go.Shelf
attribute [local go_sem] Oper.semAt_some
theorem grown_of_keeps {w w' : World} (k : Keeps (fun _ => False) w w') : w.grownBy w' none := ⟨k.os, k.tape, k.output, k.size, fun i hi _ => k.block i hi (fun h => h)⟩
def encA2 (x : Act2) : Array Value := #[.agg #[.int .i64 x.1, .int .i64 x.2]]
set_option maxRecDepth 100000 in
set_option maxHeartbeats 2000000 in
theorem plan1_in (n : Nat) (hn : 1 ≤ n) (l B : Nat) (o : Ord) (a : Option Addr) (c : Nat) (hmay : o.may = true) (J Jx : List Act2 → World → Prop) (hJ : ∀ s X Y, J s X → Keeps (fun _ => False) X Y → J s Y)
    (hY : ∀ pre x W, J pre W → pre.length < o.steps.length + 3 → YieldAt Fence.wide (n - 1) Try.prog l (encA2 x) W fun e W' =>
      (e = .returned (.bool true) ∧ J (pre ++ [x]) W') ∨ (e = .returned (.bool false) ∧ Jx (pre ++ [x]) W'))
    (W : World) (hB : Blk W B 24 [.int .i64 o.id, .int .i64 o.item, .int .i64 o.qty, .int .i64 o.client, .int .i64 o.price, .slice a o.steps.length c]) (hL : StRow W a o.steps) (h0 : J [] W) :
    CallsIn Fence.wide n Try.prog 48 #[.func (.yield l) #[] #[], .pointer (some ⟨B, 0, none⟩)] W fun e W' => (∃ v, e = .returned v) ∧
      ((∃ ys, ys.length = o.steps.length + 3 ∧ J ys W') ∨ (∃ pre, Jx pre W')) := by
  have hl3 := Ord.may_len hmay
  have hBl := hB.lt
  have HB := Kept.mk hB
  have HL := Kept.mk hL
  have Hmay := Kept.mk hmay
  have HM : Kept (o.steps.length ≤ maxLen) := ⟨by unfold maxLen; omega⟩
  have b0 := hB.cell 0 rfl
  have b1 := hB.cell 1 rfl
  have b2 := hB.cell 2 rfl
  have b3 := hB.cell 3 rfl
  have b4 := hB.cell 4 rfl
  have b5 := hB.cell 5 rfl
  clear hB hL hmay
  refine callsIn_of_wp Try.func48 rfl trivial ?_ rfl
  simp only [Try.ntmps48, List.size_toArray, List.length_cons, List.length_nil, Nat.reduceAdd, Nat.reduceSub, Array.replicate_succ, Array.replicate_zero, List.push_toArray, List.append_toArray, List.nil_append, List.cons_append]
  gi_wp2
  refine ⟨trivial, ?_⟩
  gi_at_call 27
  refine (callsIn_wide.2 (omay_to o a c true _ HL.out HM.out Hmay.out)).mono ?_
  rintro e w1 ⟨rfl, k1⟩
  have hJ1 := hJ _ _ _ h0 k1
  have b5' := (HB.out.keeps k1 (fun h => h)).cell 5 rfl
  clear b0 b1 b2 b3 b4 b5 h0
  gi_wp2
  gi_loopw [12] (fun i wr => ∃ (k : Nat) (pre : List Act2), k ≤ o.steps.length ∧ i = .int .i64 k ∧ pre.length = k ∧ J pre wr) (fun i _ => o.steps.length - (intOf i).toNat)
  case atStart => exact ⟨0, [], Nat.zero_le _, rfl, rfl, hJ1⟩
  case round =>
    obtain ⟨k, pre, hk, rfl, hpl, hJk⟩ := hrel
    by_cases hlt : k < o.steps.length
    · obtain ⟨fn, tmps, assign, body, hy, hR⟩ := hY pre (1, (k : Int)) wr hJk (by omega)
      unfold encA2 at hy
      dsimp only at hy
      have hki : (k : Int) < o.steps.length := by omega
      gi_wp2
      refine hR.mono ?_
      rintro e W3 (⟨rfl, hJ3⟩ | ⟨rfl, hJx3⟩)
      · gi_wp2
        go_roundw
        case rel => exact ⟨k + 1, pre ++ [(1, (k : Int))], by omega, by go_num, by simp [hpl], hJ3⟩
        case measure => simp [intOf]; omega
      · gi_wp2
        refine bodyPost_ret (results_none rfl _ _ _) rfl ?_
        exact ⟨⟨_, rfl⟩, .inr ⟨_, hJx3⟩⟩
    · have hki : ¬ (k : Int) < o.steps.length := by omega
      obtain ⟨Lk, hLk⟩ : ∃ N, N = o.steps.length := ⟨_, rfl⟩
      have hkl : pre.length = o.steps.length := by omega
      clear hpl
      gi_wp2
      have hix : ∀ j : Nat, j < 3 → ∃ v : Int, ∀ w : World, (Instr.index 71 (.agg #[.int .i64 6, .int .i64 9, .int .i64 15]) (.int .i64 j)).run Try.prog w = .ok (.int .i64 v) w := by
        intro j hj
        match j, hj with
        | 0, _ => exact ⟨6, fun _ => by kernel_rfl⟩
        | 1, _ => exact ⟨9, fun _ => by kernel_rfl⟩
        | 2, _ => exact ⟨15, fun _ => by kernel_rfl⟩
      obtain ⟨w2, rfl⟩ : ∃ x, x = wr := ⟨_, rfl⟩
      obtain ⟨m, hm⟩ : ∃ m, m = o.steps.length := ⟨_, rfl⟩
      gi_loopw [22] (fun i wr => ∃ (j : Nat) (pre : List Act2), j ≤ 3 ∧ i = .int .i64 j ∧ pre.length = m + j ∧ J pre wr) (fun i _ => 3 - (intOf i).toNat)
      case atStart => exact ⟨0, _, Nat.zero_le _, rfl, by omega, hJk⟩
      case round =>
        obtain ⟨j, pre2, hj, rfl, hpl, hJj⟩ := hrel
        by_cases hlt2 : j < 3
        · obtain ⟨v, hv⟩ := hix j hlt2
          obtain ⟨fn, tmps, assign, body, hy, hR⟩ := hY pre2 (v, 0) wr hJj (by omega)
          unfold encA2 at hy
          dsimp only at hy
          have hji : (j : Int) < 3 := by omega
          clear hix
          gi_wp2
          refine hR.mono ?_
          rintro e W3 (⟨rfl, hJ3⟩ | ⟨rfl, hJx3⟩)
          · gi_wp2
            go_roundw
            case rel => exact ⟨j + 1, pre2 ++ [(v, 0)], by omega, by go_num, by simp [hpl]; omega, hJ3⟩
            case measure => simp [intOf]; omega
          · gi_wp2
            refine bodyPost_ret (results_none rfl _ _ _) rfl ?_
            exact ⟨⟨_, rfl⟩, .inr ⟨_, hJx3⟩⟩
        · have hji : ¬ (j : Int) < 3 := by omega
          have hfin : pre2.length = o.steps.length + 3 := by omega
          clear hix hpl
          gi_wp2
          go_end0
          exact ⟨⟨_, rfl⟩, .inl ⟨_, hfin, hJj⟩⟩
set_option maxHeartbeats 1000000 in
theorem planF_in (n : Nat) (o : Ord) (a : Option Addr) (c : Nat) (w : World) :
    CallsIn Fence.wide n Try.prog 41 #[.agg #[.int .i64 o.id, .int .i64 o.item, .int .i64 o.qty, .int .i64 o.client, .int .i64 o.price, .slice a o.steps.length c]] w fun e w' => e = .returned (.func (.func 48) #[] #[.pointer (some ⟨w.heap.size, 0, none⟩)]) ∧ w' = w.alloc (.cells #[.int .i64 o.id, .int .i64 o.item, .int .i64 o.qty, .int .i64 o.client, .int .i64 o.price, .slice a o.steps.length c] 24) := by
  refine callsIn_of_wp Try.func41 rfl trivial ?_ rfl
  simp only [Try.ntmps41, List.size_toArray, List.length_cons, List.length_nil, Nat.reduceAdd, Nat.reduceSub, Array.replicate_succ, Array.replicate_zero, List.push_toArray, List.append_toArray, List.nil_append, List.cons_append]
  gi_wp2
  go_ret
  exact ⟨rfl, rfl⟩
theorem plan_stops (n : Nat) (hn : 1 ≤ n) (B : Nat) (o : Ord) (a : Option Addr) (c : Nat) (hmay : o.may = true) (T : Nat → Prop) (w : World) (hB : Blk w B 24 [.int .i64 o.id, .int .i64 o.item, .int .i64 o.qty, .int .i64 o.client, .int .i64 o.price, .slice a o.steps.length c]) (hL : StRow w a o.steps) :
    SeqStopsK Fence.wide n Try.prog 48 #[.pointer (some ⟨B, 0, none⟩)] encA2 (Keeps T) (fun ys => ys.length = o.steps.length + 3) (fun _ => True) (o.steps.length + 3) w := fun l J Jx W hW hJ hJx hY h0 => by
  have hk : Keeps (fun _ => False) w W := Keeps.of_below hW _
  refine (plan1_in n hn l B o a c hmay J Jx (fun s X Y hs k => hJ s X Y none hs (grown_of_keeps k) (fun r e => by cases e)) (fun pre x W1 h1 h2 => ?_) W (hB.keeps hk (fun h => h)) (hL.quiet hk) h0).mono ?_
  · exact (hY pre x W1 h1 h2).mono (fun e w' h => h.imp (fun ⟨h1, h2, _⟩ => ⟨h1, h2⟩) (fun h => h))
  · rintro e w' ⟨hv, h⟩
    exact ⟨hv, h.imp (fun h => h) (fun ⟨p, hp⟩ => ⟨p, trivial, hp⟩)⟩
theorem planF_in2 (n : Nat) (o : Ord) (a : Option Addr) (c : Nat) (w : World) :
    CallsIn Fence.wide n Try.prog 41 #[.agg #[.int .i64 o.id, .int .i64 o.item, .int .i64 o.qty, .int .i64 o.client, .int .i64 o.price, .slice a o.steps.length c]] w fun e w' => ∃ B, e = .returned (.func (.func 48) #[] #[.pointer (some ⟨B, 0, none⟩)]) ∧ Blk w' B 24 [.int .i64 o.id, .int .i64 o.item, .int .i64 o.qty, .int .i64 o.client, .int .i64 o.price, .slice a o.steps.length c] ∧ Keeps (fun _ => False) w w' :=
  (planF_in n o a c w).mono fun e w' ⟨he, hw⟩ => ⟨w.heap.size, he, by subst hw; exact Blk.new w _ _, by subst hw; exact (Keeps.refl _ w).alloc _⟩
end Go.Proofs.Ytjlfkpimjjnolaa
