/- slices.Values at whole numbers: what it hands to a loop. -/
import Derived.Test.YtofabbigngmboaaRows
import Derived.Test.YtofabbigngmboaaSay
import Derived.Test.YtofabbigngmboaaFence
namespace Go.Proofs.Ytofabbigngmboaa
open Go.RowKit Go.Shelf
attribute [local go_sem] Oper.semAt_some
def encI (x : Int) : Value := .int .i64 x
def encIs (x : Int) : Array Value := #[.int .i64 x]
/-- A row of whole numbers that lies there. -/
def NumRow (w : World) (a : Option Addr) (L : List Int) : Prop := ∀ (k : Nat) (x : Int), L[k]? = some x → ∃ g off, a = some ⟨g, off, none⟩ ∧ g < w.heap.size ∧ w.cell? ⟨g, off + k, none⟩ = some (.int .i64 x)
theorem NumRow.keeps' {w w' : World} {a : Option Addr} {L : List Int} (h : NumRow w a L) {S : Nat → Prop} (k : Keeps S w w') (hs : ∀ g off, L ≠ [] → a = some ⟨g, off, none⟩ → ¬ S g) : NumRow w' a L := by
  intro i x hx
  obtain ⟨g, off, e, hl, h0⟩ := h i x hx
  have hg := hs g off (by intro e; subst e; simp at hx) e
  exact ⟨g, off, e, Nat.lt_of_lt_of_le hl k.size, (k.cell (p := ⟨g, off + i, none⟩) hl hg).trans h0⟩
theorem NumRow.quiet {w w' : World} {a : Option Addr} {L : List Int} (h : NumRow w a L) (k : Keeps (fun _ => False) w w') : NumRow w' a L := h.keeps' k (fun _ _ _ _ h => h)
set_option maxRecDepth 100000 in
set_option maxHeartbeats 2000000 in
theorem vals1_in (F : Fence) (n : Nat) (hF : F.fn 54) (hro : F.round = none) (hn : 1 ≤ n) (l Bs : Nat) (T : Nat → Prop) (a : Option Addr) (cap : Nat) (L : List Int) (hm : L.length ≤ 100000) (hTa : ∀ g off, L ≠ [] → a = some ⟨g, off, none⟩ → ¬ T g) (J Jx : List Int → World → Prop)
    (hY : ∀ pre x W, J pre W → pre.length < L.length → YieldAt F (n - 1) Try.prog l (encIs x) W fun e W' =>
      (e = .returned (.bool true) ∧ J (pre ++ [x]) W' ∧ Keeps T W W') ∨ (e = .returned (.bool false) ∧ Jx (pre ++ [x]) W'))
    (W : World) (hBs : W.cell? ⟨Bs, 0, none⟩ = some (.slice a L.length cap)) (hc : NumRow W a L) (h0 : J [] W) :
    CallsIn F n Try.prog 54 #[.func (.yield l) #[] #[], .pointer (some ⟨Bs, 0, none⟩)] W fun e W' => (∃ v, e = .returned v) ∧
      ((∃ ys, (ys = L) ∧ J ys W') ∨ (∃ pre, (∃ k, k ≤ L.length ∧ pre = L.take k) ∧ Jx pre W')) := by
  refine callsIn_of_wp Try.func54 rfl hF ?_ hro
  simp only [Try.ntmps54, List.size_toArray, List.length_cons, List.length_nil, Nat.reduceAdd, Nat.reduceSub, Array.replicate_succ, Array.replicate_zero, List.push_toArray, List.append_toArray, List.nil_append, List.cons_append]
  gi_wp2
  gi_loopw [7] (fun i wr => ∃ k : Nat, k ≤ L.length ∧ i = .int .i64 k ∧ J (L.take k) wr ∧ Keeps T W wr)
    (fun i _ => L.length - (intOf i).toNat)
  case atStart => exact ⟨0, Nat.zero_le _, rfl, h0, Keeps.refl _ _⟩
  case round =>
    obtain ⟨k, hk, rfl, hJs, hnx⟩ := hrel
    by_cases hlt : k < L.length
    · obtain ⟨x, hx⟩ : ∃ x, L[k]? = some x := ⟨_, List.getElem?_eq_getElem hlt⟩
      obtain ⟨g, off, rfl, hgl, c0⟩ := (hc.keeps' hnx hTa) k x hx
      have hpre2 : Kept (L.take (k + 1) = L.take k ++ [x]) := ⟨by rw [List.take_add_one, hx]; rfl⟩
      obtain ⟨fn, tmps, assign, body, hy, hR⟩ := hY _ x wr hJs (by rw [List.length_take]; omega)
      unfold encIs at hy
      have hki : (k : Int) < L.length := by omega
      clear hx
      gi_wp2
      refine hR.mono ?_
      rintro e W3 (⟨rfl, hJ3, hk3⟩ | ⟨rfl, hJx3⟩)
      · gi_wp2
        go_roundw
        case rel => exact ⟨k + 1, by omega, by simp, by rw [hpre2.out]; exact hJ3, hnx.trans hk3⟩
        case measure => simp [intOf]; omega
      · gi_wp2
        refine bodyPost_ret (results_none rfl _ _ _) rfl ?_
        exact ⟨⟨_, rfl⟩, .inr ⟨_, ⟨k + 1, by omega, hpre2.out.symm⟩, hJx3⟩⟩
    · obtain rfl : k = L.length := by omega
      gi_wp2
      go_end0
      exact ⟨⟨_, rfl⟩, .inl ⟨_, List.take_length, hJs⟩⟩
set_option maxHeartbeats 1000000 in
theorem vals_in (F : Fence) (n : Nat) (hF : F.fn 51) (hro : F.round = none) (a : Option Addr) (len cap : Nat) (w : World) :
    CallsIn F n Try.prog 51 #[.slice a len cap] w fun e w' => e = .returned (.func (.func 54) #[] #[.pointer (some ⟨w.heap.size, 0, none⟩)]) ∧ w' = w.alloc (.cells #[.slice a len cap] 37) := by
  refine callsIn_of_wp Try.func51 rfl hF ?_ hro
  simp only [Try.ntmps51, List.size_toArray, List.length_cons, List.length_nil, Nat.reduceAdd, Nat.reduceSub, Array.replicate_succ, Array.replicate_zero, List.push_toArray, List.append_toArray, List.nil_append, List.cons_append]
  gi_wp2
  go_ret
  exact ⟨rfl, rfl⟩
theorem vals_to (a : Option Addr) (len cap : Nat) (w : World) :
    Calls Try.prog 51 #[.slice a len cap] w fun e w' => e = .returned (.func (.func 54) #[] #[.pointer (some ⟨w.heap.size, 0, none⟩)]) ∧ w' = w.alloc (.cells #[.slice a len cap] 37) :=
  (callsIn_wide (n := 6)).1 (vals_in Fence.wide 6 trivial rfl a len cap w)
theorem vals_stops (F : Fence) (n : Nat) (hF : F.fn 54) (hro : F.round = none) (hn : 1 ≤ n) (Bs : Nat) (T : Nat → Prop) (a : Option Addr) (cap : Nat) (L : List Int) (hm : L.length ≤ 100000) (w : World) (hBs : Bs < w.heap.size) (hTa : ∀ g off, L ≠ [] → a = some ⟨g, off, none⟩ → ¬ T g)
    (hc : w.cell? ⟨Bs, 0, none⟩ = some (.slice a L.length cap)) (hL : NumRow w a L) :
    SeqStopsK F n Try.prog 54 #[.pointer (some ⟨Bs, 0, none⟩)] encIs (Keeps T) (fun ys => ys = L) (fun pre => ∃ k, k ≤ L.length ∧ pre = L.take k) L.length w := fun l J Jx W hW _ _ hY h0 => by
  have hc' := (hW.cell (p := ⟨Bs, 0, none⟩) hBs).trans hc
  have hk : Keeps (fun _ => False) w W := Keeps.of_below hW _
  exact vals1_in F n hF hro hn l Bs T a cap L hm hTa J Jx hY W hc' (hL.quiet hk) h0
end Go.Proofs.Ytofabbigngmboaa
