/- The page's book of goods, third part: a new one. -/
import Derived.Test.YtofabbigngmboaaRStock2
namespace Go.Proofs.Ytofabbigngmboaa
open Go.RowKit
theorem clamp_to (n X : Int) (w : World) (hX : clampI n = X) : Calls Try.prog 43 #[.int .i64 n] w (Says w (.int .i64 X)) := by
  unfold clampI at hX
  have fin : ∀ x : Int, max 0 (min n 1000000000) = x → (.returned (.int .i64 x) : Ending) = .returned (.int .i64 X) := fun x hx => by rw [← hX, hx]
  have Hfin := Kept.mk fin
  clear fin hX
  go_enter Try.func43, Try.ntmps43
  go_wp2
  all_goals
    go_ret
    exact ⟨Hfin.out _ (by omega), rfl⟩
def h8 (g : Nat → Int) : List Value := [.int .i64 (g 0), .int .i64 (g 1), .int .i64 (g 2), .int .i64 (g 3), .int .i64 (g 4), .int .i64 (g 5), .int .i64 (g 6), .int .i64 (g 7)]
theorem h8_at (g : Nat → Int) {k : Nat} (h : k < 8) : (h8 g)[k]? = some (.int .i64 (g k)) := by
  match k, h with
  | 0, _ => rfl | 1, _ => rfl | 2, _ => rfl | 3, _ => rfl | 4, _ => rfl | 5, _ => rfl | 6, _ => rfl | 7, _ => rfl
theorem h8_set (g : Nat → Int) {k : Nat} (h : k < 8) (v : Int) : (h8 g).set k (.int .i64 v) = h8 (upd g k v) := by
  match k, h with
  | 0, _ => rfl | 1, _ => rfl | 2, _ => rfl | 3, _ => rfl | 4, _ => rfl | 5, _ => rfl | 6, _ => rfl | 7, _ => rfl
set_option linter.unusedSimpArgs false in
set_option maxRecDepth 100000 in
set_option maxHeartbeats 2000000 in
theorem row_to (a : Option Addr) (len cap : Nat) (f : Nat → Int) (w : World) (hr : IntCells w a len f) (hab : 0 < len → ∀ x, a = some x → x.block < w.heap.size) :
    Calls Try.prog 48 #[.slice a len cap] w (fun e w' => e = .returned (.agg (h8 (goods f (min len 8))).toArray) ∧ Keeps (fun _ => False) w w' ∧ w'.heap.size = w.heap.size + 2) := by
  obtain ⟨b, off, ha, hc⟩ := hr
  have HC := Kept.mk hc
  have HAB := Kept.mk hab
  have K0 := Kept.mk (((Keeps.refl (fun _ => False) w).alloc (.cells (h8 (fun _ => 0)).toArray 66)).alloc (.cells (h8 (fun _ => 0)).toArray 66))
  have HR0 := Kept.mk ((Blk.new w 66 (h8 (fun _ => 0))).alloc (.cells (h8 (fun _ => 0)).toArray 66))
  have HO0 : Kept (Blk ((w.alloc (.cells (h8 (fun _ => 0)).toArray 66)).alloc (.cells (h8 (fun _ => 0)).toArray 66)) (w.heap.size + 1) 66 (h8 (goods f (min 0 len)))) := ⟨by
    have h1 := Blk.new (w.alloc (.cells (h8 (fun _ => 0)).toArray 66)) 66 (h8 (fun _ => 0))
    rw [World.size_new] at h1
    have e : goods f (min 0 len) = fun _ => 0 := by funext i; simp [goods]
    rw [e]
    exact h1⟩
  clear hc hab
  go_enter Try.func48, Try.ntmps48
  go_wp2_with fail
  go_loopw [5] (fun i wr => ∃ k : Nat, k ≤ 8 ∧ i = .int .i64 k ∧ Blk wr w.heap.size 66 (h8 (fun _ => 0)) ∧ Blk wr (w.heap.size + 1) 66 (h8 (goods f (min k len))) ∧ Keeps (fun _ => False) w wr ∧ wr.heap.size = w.heap.size + 2) (fun i _ => 8 - (intOf i).toNat)
  case atStart => exact ⟨0, by omega, rfl, HR0.out, HO0.out, K0.out, by simp⟩
  case round =>
    clear HR0 HO0 K0
    obtain ⟨k, hk, rfl, hR, hO, hK, hz⟩ := hrel
    have HR := Kept.mk hR
    have HO := Kept.mk hO
    have HK := Kept.mk hK
    by_cases hlt : k < 8
    · have hki : (k : Int) < 8 := by omega
      by_cases hl : k < len
      · have hli : (k : Int) < len := by omega
        obtain rfl : a = some ⟨b, off, none⟩ := ha.resolve_right (by omega)
        have hbl : b < w.heap.size := HAB.out (by omega) _ rfl
        have ck := (hK.cell (p := ⟨b, off + k, none⟩) hbl (fun h => h)).trans (HC.out k hl)
        have hf1 := hO.frozen k
        have hol := hO.lt
        have hc1 := hO.cell k (h8_at _ hlt)
        obtain ⟨x, hx⟩ : ∃ x, clampI (f k) = x := ⟨_, rfl⟩
        have HX := Kept.mk hx
        have HO2 : Kept (Blk (wr.setCell ⟨w.heap.size + 1, k, none⟩ (.int .i64 x)) (w.heap.size + 1) 66 (h8 (goods f (min (k + 1) len)))) := ⟨by
          have h1 := hO.set k (.int .i64 x)
          rw [h8_set _ hlt, ← hx, show min k len = k by omega, goods_step] at h1
          rw [← hx, show min (k + 1) len = k + 1 by omega]
          exact h1⟩
        generalize f k = y at ck HX
        clear hR hO hK hx
        go_wp2_with fail
        refine (clamp_to _ _ _ HX.out).mono ?_
        rintro e _ ⟨rfl, rfl⟩
        go_wp2_with fail
        go_roundw
        case rel => exact ⟨k + 1, by omega, by go_num, HR.out.other (p := ⟨w.heap.size + 1, k, none⟩) (by show w.heap.size ≠ w.heap.size + 1; omega) _, HO2.out, HK.out.setCell (p := ⟨w.heap.size + 1, k, none⟩) (.inl (by show w.heap.size ≤ w.heap.size + 1; omega)) _, by rw [size_set]; exact hz⟩
        case measure => simp [intOf]; omega
      · have hli : ¬ (k : Int) < len := by omega
        have hmm : Kept (min (k + 1) len = min k len) := ⟨by omega⟩
        clear hR hO hK
        go_wp2_with fail
        go_roundw
        case rel => exact ⟨k + 1, by omega, by go_num, HR.out, by rw [hmm.out]; exact HO.out, HK.out, hz⟩
        case measure => simp [intOf]; omega
    · obtain rfl : k = 8 := by omega
      have hkl : ¬ ((8 : Nat) : Int) < 8 := by omega
      rw [Nat.min_comm] at hO
      obtain ⟨g, hg⟩ : ∃ g, goods f (min len 8) = g := ⟨_, rfl⟩
      have Hg := Kept.mk hg
      rw [hg] at hO
      clear hg
      have g0 := hO.cell 0 rfl
      have g1 := hO.cell 1 rfl
      have g2 := hO.cell 2 rfl
      have g3 := hO.cell 3 rfl
      have g4 := hO.cell 4 rfl
      have g5 := hO.cell 5 rfl
      have g6 := hO.cell 6 rfl
      have g7 := hO.cell 7 rfl
      have z0 := hR.cell 0 rfl
      have z1 := hR.cell 1 rfl
      have z2 := hR.cell 2 rfl
      have z3 := hR.cell 3 rfl
      have z4 := hR.cell 4 rfl
      have z5 := hR.cell 5 rfl
      have z6 := hR.cell 6 rfl
      have z7 := hR.cell 7 rfl
      have y0 := hR.frozen 0
      have y1 := hR.frozen 1
      have y2 := hR.frozen 2
      have y3 := hR.frozen 3
      have y4 := hR.frozen 4
      have y5 := hR.frozen 5
      have y6 := hR.frozen 6
      have y7 := hR.frozen 7
      have hrl := hR.lt
      have hq := (((((((hR.set 0 (.int .i64 (g 0))).set 1 (.int .i64 (g 1))).set 2 (.int .i64 (g 2))).set 3 (.int .i64 (g 3))).set 4 (.int .i64 (g 4))).set 5 (.int .i64 (g 5))).set 6 (.int .i64 (g 6))).set 7 (.int .i64 (g 7))
      have r0 := hq.cell 0 rfl
      have r1 := hq.cell 1 rfl
      have r2 := hq.cell 2 rfl
      have r3 := hq.cell 3 rfl
      have r4 := hq.cell 4 rfl
      have r5 := hq.cell 5 rfl
      have r6 := hq.cell 6 rfl
      have r7 := hq.cell 7 rfl
      have k6 : Kept (Keeps (fun _ => False) w _) := ⟨(((((((hK.setCell (p := ⟨w.heap.size, 0, none⟩) (.inl (Nat.le_refl _)) (.int .i64 (g 0))).setCell (p := ⟨w.heap.size, 1, none⟩) (.inl (Nat.le_refl _)) (.int .i64 (g 1))).setCell (p := ⟨w.heap.size, 2, none⟩) (.inl (Nat.le_refl _)) (.int .i64 (g 2))).setCell (p := ⟨w.heap.size, 3, none⟩) (.inl (Nat.le_refl _)) (.int .i64 (g 3))).setCell (p := ⟨w.heap.size, 4, none⟩) (.inl (Nat.le_refl _)) (.int .i64 (g 4))).setCell (p := ⟨w.heap.size, 5, none⟩) (.inl (Nat.le_refl _)) (.int .i64 (g 5))).setCell (p := ⟨w.heap.size, 6, none⟩) (.inl (Nat.le_refl _)) (.int .i64 (g 6))).setCell (p := ⟨w.heap.size, 7, none⟩) (.inl (Nat.le_refl _)) (.int .i64 (g 7))⟩
      clear hR hO hK hq
      go_wp2_with fail
      exact bodyPost_ret (v := .agg #[.int .i64 (g 0), .int .i64 (g 1), .int .i64 (g 2), .int .i64 (g 3), .int .i64 (g 4), .int .i64 (g 5), .int .i64 (g 6), .int .i64 (g 7)]) (by simp [results, Try.results48, go_sem, r0, r1, r2, r3, r4, r5, r6, r7]) rfl ⟨by rw [Hg.out]; rfl, k6.out, by simp only [size_set]; exact hz⟩
theorem Blk.new2 (w : World) (T : TypeId) (vs : List Value) (p : Nat) (hp : p = w.heap.size) : Blk (w.alloc (.cells vs.toArray T)) p T vs := by
  subst hp
  exact Blk.new w T vs
theorem rsnew_to (a : Option Addr) (len cap : Nat) (f : Nat → Int) (w : World) (hr : IntCells w a len f) (hab : 0 < len → ∀ x, a = some x → x.block < w.heap.size) :
    Calls Try.prog 34 #[.slice a len cap] w (Rets w (fun _ => False) (.pointer (some ⟨w.heap.size + 3, 0, none⟩)) fun w' => RSk w' (w.heap.size + 3) (w.heap.size + 2) (Sk.new f len) ∧ w'.heap.size = w.heap.size + 4) := by
  have HRow := Kept.mk (row_to a len cap f w hr hab)
  have hmm := @run_makeMap Try.prog
  have e : Kept ((Sk.new f len).hand = goods f (min len 8) ∧ (Sk.new f len).L = []) := ⟨rfl, rfl⟩
  clear hr hab
  go_enter Try.func34, Try.ntmps34
  go_wp2_with fail
  refine HRow.out.mono ?_
  rintro e w1 ⟨rfl, k1, z1⟩
  have K1 := Kept.mk k1
  clear k1 HRow
  obtain ⟨g, hg⟩ : ∃ g, goods f (min len 8) = g := ⟨_, rfl⟩
  have Hg := Kept.mk hg
  rw [hg]
  clear hg
  unfold h8
  go_wp2_with fail
  go_ret
  have k2 := (K1.out.alloc (.map #[] 0)).alloc (.cells #[.int .i64 (g 0), .int .i64 (g 1), .int .i64 (g 2), .int .i64 (g 3), .int .i64 (g 4), .int .i64 (g 5), .int .i64 (g 6), .int .i64 (g 7), .map (some w1.heap.size)] 69)
  have hB := Blk.new2 (w1.alloc (.map #[] 0)) 69 [.int .i64 (g 0), .int .i64 (g 1), .int .i64 (g 2), .int .i64 (g 3), .int .i64 (g 4), .int .i64 (g 5), .int .i64 (g 6), .int .i64 (g 7), .map (some w1.heap.size)] (w.heap.size + 3) (by simp; omega)
  have hM := (MapAt.new encRes w1).alloc (.cells #[.int .i64 (g 0), .int .i64 (g 1), .int .i64 (g 2), .int .i64 (g 3), .int .i64 (g 4), .int .i64 (g 5), .int .i64 (g 6), .int .i64 (g 7), .map (some w1.heap.size)] 69)
  rw [z1] at hB hM k2
  refine ⟨rfl, ⟨⟨?_, by rw [e.out.2]; exact hM, by omega⟩, by simp; omega⟩, k2⟩
  unfold rsCells
  rw [e.out.1, Hg.out]
  exact hB
end Go.Proofs.Ytofabbigngmboaa
