/- slices.All at messages: what it hands to a loop. -/
import Derived.Test.YtkacnogjifhcoaaAwake17
import Derived.Test.YtkacnogjifhcoaaFence
namespace Go.Proofs.Ytkacnogjifhcoaa
open Go.RowKit Go.Shelf
attribute [local go_sem] Oper.semAt_some
def encMx (x : Ms × Nat) : Array Value := #[.int .i64 x.2, .agg (encMs x.1).toArray]
theorem MsRow.keeps' {w w' : World} {a : Option Addr} {L : List Ms} (h : MsRow w a L) {S : Nat → Prop} (k : Keeps S w w') (hs : ∀ g off, L ≠ [] → a = some ⟨g, off, none⟩ → ¬ S g) : MsRow w' a L := by
  intro i x hx
  obtain ⟨g, off, e, hl, h0⟩ := h i x hx
  have hg := hs g off (by intro e; subst e; simp at hx) e
  exact ⟨g, off, e, Nat.lt_of_lt_of_le hl k.size, fun j u hu => (k.cell (p := ⟨g, off + i * 7 + j, none⟩) hl hg).trans (h0 j u hu)⟩
set_option maxRecDepth 100000 in
set_option maxHeartbeats 4000000 in
theorem all1_in (n : Nat) (hn : 1 ≤ n) (l Bs : Nat) (T : Nat → Prop) (a : Option Addr) (cap : Nat) (L : List Ms) (hm : L.length ≤ 100000) (hTa : ∀ g off, L ≠ [] → a = some ⟨g, off, none⟩ → ¬ T g) (J Jx : List (Ms × Nat) → World → Prop) (hJ : ∀ s X Y, J s X → Keeps (fun _ => False) X Y → J s Y)
    (hY : ∀ pre x W, J pre W → pre.length < L.length → YieldAt Fence.wide (n - 1) Try.prog l (encMx x) W fun e W' =>
      (e = .returned (.bool true) ∧ J (pre ++ [x]) W' ∧ Keeps T W W') ∨ (e = .returned (.bool false) ∧ Jx (pre ++ [x]) W'))
    (W : World) (hBs : W.cell? ⟨Bs, 0, none⟩ = some (.slice a L.length cap)) (hc : MsRow W a L) (h0 : J [] W) :
    CallsIn Fence.wide n Try.prog 49 #[.func (.yield l) #[] #[], .pointer (some ⟨Bs, 0, none⟩)] W fun e W' => (∃ v, e = .returned v) ∧
      ((∃ ys, (ys = L.zipIdx) ∧ J ys W') ∨ (∃ pre, (∃ k, k ≤ L.length ∧ pre = L.zipIdx.take k) ∧ Jx pre W')) := by
  refine callsIn_of_wp Try.func49 rfl trivial ?_ rfl
  simp only [Try.ntmps49, List.size_toArray, List.length_cons, List.length_nil, Nat.reduceAdd, Nat.reduceSub, Array.replicate_succ, Array.replicate_zero, List.push_toArray, List.append_toArray, List.nil_append, List.cons_append]
  gi_wp2
  gi_loopw [7] (fun i wr => ∃ k : Nat, k ≤ L.length ∧ i = .int .i64 k ∧ J (L.zipIdx.take k) wr ∧ Keeps T W wr)
    (fun i _ => L.length - (intOf i).toNat)
  case atStart => exact ⟨0, Nat.zero_le _, rfl, h0, Keeps.refl _ _⟩
  case round =>
    obtain ⟨k, hk, rfl, hJs, hnx⟩ := hrel
    by_cases hlt : k < L.length
    · obtain ⟨x, hx⟩ : ∃ x, L[k]? = some x := ⟨_, List.getElem?_eq_getElem hlt⟩
      obtain ⟨g, off, rfl, hgl, c0⟩ := (hc.keeps' hnx hTa) k x hx
      have hpre2 : Kept (L.zipIdx.take (k + 1) = L.zipIdx.take k ++ [(x, k)]) := ⟨by rw [List.take_add_one, List.getElem?_zipIdx, hx]; simp⟩
      have ka : Keeps (fun _ => False) wr (wr.alloc (.cells (encMs x).toArray 55)) := (Keeps.refl _ wr).alloc _
      have KA := Kept.mk ka
      obtain ⟨fn, tmps, assign, body, hy, hR⟩ := hY _ (x, k) _ (hJ _ _ _ hJs ka) (by rw [List.length_take, List.length_zipIdx]; omega)
      unfold encMx at hy
      have hki : (k : Int) < L.length := by omega
      have e0 : wr.cell? ⟨g, off + k * 7, none⟩ = some (.int .i64 x.kind) := c0 0 _ rfl
      have e1 : wr.cell? ⟨g, off + k * 7 + 1, none⟩ = some (.int .i64 x.src) := c0 1 _ rfl
      have e2 : wr.cell? ⟨g, off + k * 7 + 2, none⟩ = some (.int .i64 x.dst) := c0 2 _ rfl
      have e3 : wr.cell? ⟨g, off + k * 7 + 3, none⟩ = some (.int .i64 x.id) := c0 3 _ rfl
      have e4 : wr.cell? ⟨g, off + k * 7 + 4, none⟩ = some (.int .i64 x.step) := c0 4 _ rfl
      have e5 : wr.cell? ⟨g, off + k * 7 + 5, none⟩ = some (.int .i64 x.a) := c0 5 _ rfl
      have e6 : wr.cell? ⟨g, off + k * 7 + 6, none⟩ = some (.int .i64 x.b) := c0 6 _ rfl
      obtain ⟨m0, m1, m2, m3, m4, m5, m6⟩ := x
      dsimp only [encMs] at e0 e1 e2 e3 e4 e5 e6 hy
      clear hx c0 ka
      gi_wp2
      refine hR.mono ?_
      rintro e W3 (⟨rfl, hJ3, hk3⟩ | ⟨rfl, hJx3⟩)
      · gi_wp2
        go_roundw
        case rel => exact ⟨k + 1, by omega, by simp, by rw [hpre2.out]; exact hJ3, (hnx.trans (KA.out.mono (fun _ _ h => h.elim))).trans hk3⟩
        case measure => simp [intOf]; omega
      · gi_wp2
        refine bodyPost_ret (results_none rfl _ _ _) rfl ?_
        exact ⟨⟨_, rfl⟩, .inr ⟨_, ⟨k + 1, by omega, hpre2.out.symm⟩, hJx3⟩⟩
    · obtain rfl : k = L.length := by omega
      gi_wp2
      go_end0
      exact ⟨⟨_, rfl⟩, .inl ⟨_, by rw [List.take_of_length_le (by simp)], hJs⟩⟩
set_option maxHeartbeats 1000000 in
theorem all_in (n : Nat) (a : Option Addr) (len cap : Nat) (w : World) :
    CallsIn Fence.wide n Try.prog 47 #[.slice a len cap] w fun e w' => e = .returned (.func (.func 49) #[] #[.pointer (some ⟨w.heap.size, 0, none⟩)]) ∧ w' = w.alloc (.cells #[.slice a len cap] 49) := by
  refine callsIn_of_wp Try.func47 rfl trivial ?_ rfl
  simp only [Try.ntmps47, List.size_toArray, List.length_cons, List.length_nil, Nat.reduceAdd, Nat.reduceSub, Array.replicate_succ, Array.replicate_zero, List.push_toArray, List.append_toArray, List.nil_append, List.cons_append]
  gi_wp2
  go_ret
  exact ⟨rfl, rfl⟩
theorem all_to (a : Option Addr) (len cap : Nat) (w : World) :
    Calls Try.prog 47 #[.slice a len cap] w fun e w' => e = .returned (.func (.func 49) #[] #[.pointer (some ⟨w.heap.size, 0, none⟩)]) ∧ w' = w.alloc (.cells #[.slice a len cap] 49) :=
  (callsIn_wide (n := 6)).1 (all_in 6 a len cap w)
theorem grown_of_keeps {w w' : World} (k : Keeps (fun _ => False) w w') : w.grownBy w' none := ⟨k.os, k.tape, k.output, k.size, fun i hi _ => k.block i hi (fun h => h)⟩
theorem all_stops (n : Nat) (hn : 1 ≤ n) (Bs : Nat) (T : Nat → Prop) (a : Option Addr) (cap : Nat) (L : List Ms) (hm : L.length ≤ 100000) (w : World) (hBs : Bs < w.heap.size) (hTa : ∀ g off, L ≠ [] → a = some ⟨g, off, none⟩ → ¬ T g)
    (hc : w.cell? ⟨Bs, 0, none⟩ = some (.slice a L.length cap)) (hL : MsRow w a L) :
    SeqStopsK Fence.wide n Try.prog 49 #[.pointer (some ⟨Bs, 0, none⟩)] encMx (Keeps T) (fun ys => ys = L.zipIdx) (fun pre => ∃ k, k ≤ L.length ∧ pre = L.zipIdx.take k) L.length w := fun l J Jx W hW hJ _ hY h0 => by
  have hc' := (hW.cell (p := ⟨Bs, 0, none⟩) hBs).trans hc
  have hk : Keeps (fun _ => False) w W := Keeps.of_below hW _
  exact all1_in n hn l Bs T a cap L hm hTa J Jx (fun s X Y hs k => hJ s X Y none hs (grown_of_keeps k) (fun r e => by cases e)) hY W hc' (hL.quiet hk) h0
/-- What a call of All hands back: a loop over L. -/
def AllTo (w w' : World) (v : Value) (L : List Ms) : Prop := ∃ B a c, v = .func (.func 49) #[] #[.pointer (some ⟨B, 0, none⟩)] ∧ Blk w' B 49 [.slice a L.length c] ∧ MsRow w' a L ∧ (∀ x, a = some x → w.heap.size ≤ x.block) ∧ Keeps (fun _ => False) w w'
theorem pall_nil (w : World) : Calls Try.prog 44 #[.pointer none] w (fun e w' => ∃ v, e = .returned v ∧ AllTo w w' v []) := by
  go_enter Try.func44, Try.ntmps44
  go_wp2_with fail
  refine (all_to none 0 0 _).mono ?_
  rintro e _ ⟨rfl, rfl⟩
  go_wp2_with fail
  go_ret
  exact ⟨_, rfl, w.heap.size, none, 0, rfl, Blk.new w _ _, (fun k x hx => by simp at hx), (fun x hx => by cases hx), (Keeps.refl _ w).alloc _⟩
end Go.Proofs.Ytkacnogjifhcoaa
