/- slices.Backward at steps: what it hands to a loop. -/
import Derived.Test.YtjlfkpimjjnolaaRows
import Derived.Test.YtjlfkpimjjnolaaOrd
import Derived.Test.YtjlfkpimjjnolaaFence
namespace Go.Proofs.Ytjlfkpimjjnolaa
open Go.RowKit Go.Shelf
attribute [local go_sem] Oper.semAt_some
/-- The k-th step. -/
def stAt (L : List St) (k : Nat) : St := L.getD k (0, 0)
theorem stAt_of {L : List St} {k : Nat} {x : St} (h : L[k]? = some x) : stAt L k = x := by unfold stAt; rw [List.getD_eq_getElem?_getD, h]; rfl
/-- A place of a row. -/
abbrev Pl (L : List St) := { i : Nat // i < L.length }
def encPl (L : List St) (x : Pl L) : Array Value := #[.int .i64 (x.1 : Nat), .agg #[.int .i64 (stAt L x.1).1, .int .i64 (stAt L x.1).2]]
/-- From behind. -/
def fromBehind (N k : Nat) : List Nat := uptoF (fun j => N - 1 - j) k
theorem StRow.keeps' {w w' : World} {a : Option Addr} {L : List St} (h : StRow w a L) {S : Nat → Prop} (k : Keeps S w w') (hs : ∀ g off, L ≠ [] → a = some ⟨g, off, none⟩ → ¬ S g) : StRow w' a L := by
  intro i x hx
  obtain ⟨g, off, e, hl, h0, h1⟩ := h i x hx
  have hg := hs g off (by intro e; subst e; simp at hx) e
  exact ⟨g, off, e, Nat.lt_of_lt_of_le hl k.size, (k.cell (p := ⟨g, off + i * 2, none⟩) hl hg).trans h0, (k.cell (p := ⟨g, off + i * 2 + 1, none⟩) hl hg).trans h1⟩
set_option maxRecDepth 100000 in
set_option maxHeartbeats 2000000 in
theorem bw1_in (F : Fence) (n : Nat) (hF : F.fn 53) (hro : F.round = none) (hn : 1 ≤ n) (l Bs : Nat) (T : Nat → Prop) (a : Option Addr) (cap : Nat) (L : List St) (hm : L.length ≤ 100000) (hT : ¬ T Bs) (hTa : ∀ g off, L ≠ [] → a = some ⟨g, off, none⟩ → ¬ T g) (J Jx : List (Pl L) → World → Prop)
    (hY : ∀ pre x W, J pre W → pre.length < L.length → YieldAt F (n - 1) Try.prog l (encPl L x) W fun e W' =>
      (e = .returned (.bool true) ∧ J (pre ++ [x]) W' ∧ Keeps T W W') ∨ (e = .returned (.bool false) ∧ Jx (pre ++ [x]) W'))
    (W : World) (hBs : W.cell? ⟨Bs, 0, none⟩ = some (.slice a L.length cap)) (hc : StRow W a L) (h0 : J [] W) :
    CallsIn F n Try.prog 53 #[.func (.yield l) #[] #[], .pointer (some ⟨Bs, 0, none⟩)] W fun e W' => (∃ v, e = .returned v) ∧
      ((∃ ys, (ys.map (·.1) = fromBehind L.length L.length) ∧ J ys W') ∨ (∃ pre, (∃ k, k ≤ L.length ∧ pre.map (·.1) = fromBehind L.length k) ∧ Jx pre W')) := by
  have hBl := World.block_lt_of_cell? W _ hBs
  refine callsIn_of_wp Try.func53 rfl hF ?_ hro
  simp only [Try.ntmps53, List.size_toArray, List.length_cons, List.length_nil, Nat.reduceAdd, Nat.reduceSub, Array.replicate_succ, Array.replicate_zero, List.push_toArray, List.append_toArray, List.nil_append, List.cons_append]
  gi_wp2
  gi_loopw [3] (fun i wr => ∃ k : Nat, k ≤ L.length ∧ (∃ q : Int, q = (L.length : Int) - 1 - k ∧ i = .int .i64 q) ∧ (∃ pre : List (Pl L), Kept (pre.map (·.1) = fromBehind L.length k) ∧ J pre wr) ∧ Keeps T W wr)
    (fun i _ => (intOf i + 1).toNat)
  case atStart => exact ⟨0, Nat.zero_le _, ⟨_, by simp, rfl⟩, ⟨[], ⟨rfl⟩, h0⟩, Keeps.refl _ _⟩
  case round =>
    obtain ⟨k, hk, ⟨q, hq, rfl⟩, ⟨pre, hpre, hJs⟩, hnx⟩ := hrel
    have hB2 : wr.cell? ⟨Bs, 0, none⟩ = some (.slice a L.length cap) := (hnx.cell (p := ⟨Bs, 0, none⟩) hBl hT).trans hBs
    have hpl : pre.length = k := by
      have := congrArg List.length hpre.out
      rw [List.length_map] at this
      rw [this]; exact uptoF_length _ _
    by_cases hlt : k < L.length
    · obtain ⟨m, hm2⟩ : ∃ m, m = L.length - 1 - k := ⟨_, rfl⟩
      obtain rfl : q = (m : Int) := by omega
      have hml : m < L.length := by omega
      obtain ⟨x, hx⟩ : ∃ x, L[m]? = some x := ⟨_, List.getElem?_eq_getElem hml⟩
      obtain ⟨g, off, rfl, hgl, c0, c1⟩ := (hc.keeps' hnx hTa) m x hx
      have hpre2 : Kept ((pre ++ [(⟨m, hml⟩ : Pl L)]).map (·.1) = fromBehind L.length (k + 1)) := ⟨by
        rw [List.map_append, hpre.out]
        unfold fromBehind
        rw [uptoF_succ]
        show _ ++ [m] = _
        rw [hm2]⟩
      obtain ⟨fn, tmps, assign, body, hy, hR⟩ := hY pre ⟨m, hml⟩ wr hJs (by omega)
      have hgd : stAt L m = x := stAt_of hx
      unfold encPl at hy
      dsimp only at hy
      rw [hgd] at hy
      obtain ⟨x1, x2⟩ := x
      dsimp only at hy c0 c1
      have hmi : (m : Int) < L.length := by omega
      have HM := Kept.mk hm2
      clear hq hm2 hx hgd hpl
      gi_wp2
      refine hR.mono ?_
      rintro e W3 (⟨rfl, hJ3, hk3⟩ | ⟨rfl, hJx3⟩)
      · gi_wp2
        go_roundw
        case rel => exact ⟨k + 1, by omega, ⟨_, by have := HM.out; omega, rfl⟩, ⟨_, hpre2, hJ3⟩, hnx.trans hk3⟩
        case measure => simp [intOf]
      · gi_wp2
        refine bodyPost_ret (results_none rfl _ _ _) rfl ?_
        exact ⟨⟨_, rfl⟩, .inr ⟨_, ⟨k + 1, by omega, hpre2.out⟩, hJx3⟩⟩
    · obtain rfl : k = L.length := by omega
      obtain rfl : q = -1 := by omega
      clear hpl
      gi_wp2
      go_end0
      exact ⟨⟨_, rfl⟩, .inl ⟨_, hpre.out, hJs⟩⟩
set_option maxHeartbeats 1000000 in
theorem bw_in (F : Fence) (n : Nat) (hF : F.fn 50) (hro : F.round = none) (a : Option Addr) (len cap : Nat) (w : World) :
    CallsIn F n Try.prog 50 #[.slice a len cap] w fun e w' => e = .returned (.func (.func 53) #[] #[.pointer (some ⟨w.heap.size, 0, none⟩)]) ∧ w' = w.alloc (.cells #[.slice a len cap] 22) := by
  refine callsIn_of_wp Try.func50 rfl hF ?_ hro
  simp only [Try.ntmps50, List.size_toArray, List.length_cons, List.length_nil, Nat.reduceAdd, Nat.reduceSub, Array.replicate_succ, Array.replicate_zero, List.push_toArray, List.append_toArray, List.nil_append, List.cons_append]
  gi_wp2
  go_ret
  exact ⟨rfl, rfl⟩
theorem bw_stops (F : Fence) (n : Nat) (hF : F.fn 53) (hro : F.round = none) (hn : 1 ≤ n) (Bs : Nat) (T : Nat → Prop) (a : Option Addr) (cap : Nat) (L : List St) (hm : L.length ≤ 100000) (w : World) (hBs : Bs < w.heap.size) (hT : ¬ T Bs) (hTa : ∀ g off, L ≠ [] → a = some ⟨g, off, none⟩ → ¬ T g)
    (hc : w.cell? ⟨Bs, 0, none⟩ = some (.slice a L.length cap)) (hL : StRow w a L) :
    SeqStopsK F n Try.prog 53 #[.pointer (some ⟨Bs, 0, none⟩)] (encPl L) (Keeps T) (fun ys => ys.map (·.1) = fromBehind L.length L.length) (fun pre => ∃ k, k ≤ L.length ∧ pre.map (·.1) = fromBehind L.length k) L.length w := fun l J Jx W hW _ _ hY h0 => by
  have hc' := (hW.cell (p := ⟨Bs, 0, none⟩) hBs).trans hc
  have hk : Keeps (fun _ => False) w W := Keeps.of_below hW _
  exact bw1_in F n hF hro hn l Bs T a cap L hm hT hTa J Jx hY W hc' (hL.quiet hk) h0
end Go.Proofs.Ytjlfkpimjjnolaa
