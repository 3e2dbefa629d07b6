/- Package stock's book, walked, fourth part: New. -/
import Derived.Test.YtofabbigngmboaaStock3
namespace Go.Proofs.Ytofabbigngmboaa
open Go.RowKit
def clampI (x : Int) : Int := max 0 (min x 1000000000)
theorem clampI_range (x : Int) : 0 ≤ clampI x ∧ clampI x ≤ 1000000000 := by unfold clampI; omega
/-- The goods of a row, of which so many have been laid. -/
def goods (f : Nat → Int) (k : Nat) : Nat → Int := fun i => if i < k then clampI (f i) else 0
def Sk.new (f : Nat → Int) (len : Nat) : Sk := ⟨goods f (min len 8), goods f (min len 8), []⟩
theorem Sk.new_ok (f : Nat → Int) (len : Nat) : (Sk.new f len).Ok := by
  refine ⟨fun i hi => ?_, fun i hi => ?_, fun i hi => ?_, fun p hp => ?_, by simp [Sk.new, MP.keys]⟩
  · simp only [Sk.new, goods]; split
    · exact (clampI_range _).1
    · omega
  · simp [Sk.new, resv]
  · simp only [Sk.new, goods]; split
    · exact (clampI_range _).2
    · omega
  · simp [Sk.new] at hp
theorem goods_step (f : Nat → Int) (k : Nat) : upd (goods f k) k (clampI (f k)) = goods f (k + 1) := by
  funext i
  simp only [upd, goods]
  by_cases h : i = k
  · subst h; rw [if_pos rfl, if_pos (by omega)]
  · rw [if_neg h]
    by_cases h2 : i < k
    · rw [if_pos h2, if_pos (by omega)]
    · rw [if_neg h2, if_neg (by omega)]
theorem copy_hand {w : World} {p m : Nat} {s : Sk} (h : Blk w p 84 (skCells s m)) :
    Blk ((((((((w.setCell ⟨p, 8, none⟩ (.int .i64 (s.hand 0))).setCell ⟨p, 9, none⟩ (.int .i64 (s.hand 1))).setCell ⟨p, 10, none⟩ (.int .i64 (s.hand 2))).setCell ⟨p, 11, none⟩ (.int .i64 (s.hand 3))).setCell ⟨p, 12, none⟩ (.int .i64 (s.hand 4))).setCell ⟨p, 13, none⟩ (.int .i64 (s.hand 5))).setCell ⟨p, 14, none⟩ (.int .i64 (s.hand 6))).setCell ⟨p, 15, none⟩ (.int .i64 (s.hand 7))) p 84 (skCells ⟨s.hand, s.hand, s.L⟩ m) :=
  (((((((h.set 8 _).set 9 _).set 10 _).set 11 _).set 12 _).set 13 _).set 14 _).set 15 _
theorem copy_map {w : World} {p m : Nat} {L : List (Int × (Nat × Int))} (h : MapAt encRes w m L) (hne : m ≠ p) (u0 u1 u2 u3 u4 u5 u6 u7 : Value) : MapAt encRes ((((((((w.setCell ⟨p, 8, none⟩ u0).setCell ⟨p, 9, none⟩ u1).setCell ⟨p, 10, none⟩ u2).setCell ⟨p, 11, none⟩ u3).setCell ⟨p, 12, none⟩ u4).setCell ⟨p, 13, none⟩ u5).setCell ⟨p, 14, none⟩ u6).setCell ⟨p, 15, none⟩ u7) m L :=
  (((((((h.other (p := ⟨p, 8, none⟩) hne _).other (p := ⟨p, 9, none⟩) hne _).other (p := ⟨p, 10, none⟩) hne _).other (p := ⟨p, 11, none⟩) hne _).other (p := ⟨p, 12, none⟩) hne _).other (p := ⟨p, 13, none⟩) hne _).other (p := ⟨p, 14, none⟩) hne _).other (p := ⟨p, 15, none⟩) hne _
theorem copy_keeps {w0 w : World} {S : Nat → Prop} {p : Nat} (h : Keeps S w0 w) (hp : w0.heap.size ≤ p) (u0 u1 u2 u3 u4 u5 u6 u7 : Value) : Keeps S w0 ((((((((w.setCell ⟨p, 8, none⟩ u0).setCell ⟨p, 9, none⟩ u1).setCell ⟨p, 10, none⟩ u2).setCell ⟨p, 11, none⟩ u3).setCell ⟨p, 12, none⟩ u4).setCell ⟨p, 13, none⟩ u5).setCell ⟨p, 14, none⟩ u6).setCell ⟨p, 15, none⟩ u7) :=
  (((((((h.setCell (p := ⟨p, 8, none⟩) (.inl hp) _).setCell (p := ⟨p, 9, none⟩) (.inl hp) _).setCell (p := ⟨p, 10, none⟩) (.inl hp) _).setCell (p := ⟨p, 11, none⟩) (.inl hp) _).setCell (p := ⟨p, 12, none⟩) (.inl hp) _).setCell (p := ⟨p, 13, none⟩) (.inl hp) _).setCell (p := ⟨p, 14, none⟩) (.inl hp) _).setCell (p := ⟨p, 15, none⟩) (.inl hp) _
theorem copy_fin {w0 w : World} {k0 : Nat} {f : Nat → Int} {len : Nat} (hB : Blk w (w0.heap.size + 1) 84 (skCells ⟨goods f k0, fun _ => 0, []⟩ w0.heap.size)) (hM : MapAt encRes w w0.heap.size []) (hK : Keeps (fun _ => False) w0 w) (hz : w.heap.size = w0.heap.size + 2) (hm : min len 8 = k0) :
    Rets w0 (fun _ => False) (.pointer (some ⟨w0.heap.size + 1, 0, none⟩)) (fun w' => SkAt w' (w0.heap.size + 1) w0.heap.size (Sk.new f len) ∧ w'.heap.size = w0.heap.size + 2) (.returned (.pointer (some ⟨w0.heap.size + 1, 0, none⟩))) ((((((((w.setCell ⟨(w0.heap.size + 1), 8, none⟩ (.int .i64 (goods f k0 0))).setCell ⟨(w0.heap.size + 1), 9, none⟩ (.int .i64 (goods f k0 1))).setCell ⟨(w0.heap.size + 1), 10, none⟩ (.int .i64 (goods f k0 2))).setCell ⟨(w0.heap.size + 1), 11, none⟩ (.int .i64 (goods f k0 3))).setCell ⟨(w0.heap.size + 1), 12, none⟩ (.int .i64 (goods f k0 4))).setCell ⟨(w0.heap.size + 1), 13, none⟩ (.int .i64 (goods f k0 5))).setCell ⟨(w0.heap.size + 1), 14, none⟩ (.int .i64 (goods f k0 6))).setCell ⟨(w0.heap.size + 1), 15, none⟩ (.int .i64 (goods f k0 7))) := by
  have e1 := copy_map (p := w0.heap.size + 1) hM (by omega) (.int .i64 (goods f k0 0)) (.int .i64 (goods f k0 1)) (.int .i64 (goods f k0 2)) (.int .i64 (goods f k0 3)) (.int .i64 (goods f k0 4)) (.int .i64 (goods f k0 5)) (.int .i64 (goods f k0 6)) (.int .i64 (goods f k0 7))
  have e2 := copy_keeps (p := w0.heap.size + 1) hK (by omega) (.int .i64 (goods f k0 0)) (.int .i64 (goods f k0 1)) (.int .i64 (goods f k0 2)) (.int .i64 (goods f k0 3)) (.int .i64 (goods f k0 4)) (.int .i64 (goods f k0 5)) (.int .i64 (goods f k0 6)) (.int .i64 (goods f k0 7))
  have e3 := copy_hand hB
  simp only at e3
  have e4 : Sk.new f len = ⟨goods f k0, goods f k0, []⟩ := by unfold Sk.new; rw [hm]
  rw [e4]
  exact ⟨rfl, ⟨⟨e3, e1, by omega⟩, by simpa only [size_set] using hz⟩, e2⟩
set_option maxRecDepth 100000 in
set_option maxHeartbeats 2000000 in
theorem stockNew_hi (a : Option Addr) (len cap : Nat) (f : Nat → Int) (w : World) (hmin : (8 : Int) < len) (hr : IntCells w a len f) (hlen : (len : Int) ≤ 9223372036854775807) (hab : 0 < len → ∀ x, a = some x → x.block < w.heap.size) :
    Calls Try.prog 27 #[.slice a len cap] w (Rets w (fun _ => False) (.pointer (some ⟨w.heap.size + 1, 0, none⟩)) fun w' => SkAt w' (w.heap.size + 1) w.heap.size (Sk.new f len) ∧ w'.heap.size = w.heap.size + 2) := by
  obtain ⟨b, off, ha, hcell⟩ := hr
  have Hcell := Kept.mk hcell
  have Hab := Kept.mk hab
  clear hcell hab
  have hmm := @run_makeMap Try.prog
  have hB0 := Blk.new (w.alloc (.map #[] 0)) 84 (skCells ⟨fun _ => 0, fun _ => 0, []⟩ w.heap.size)
  rw [World.size_alloc] at hB0
  have hM0 := (MapAt.new encRes w).alloc (.cells (skCells ⟨fun _ => 0, fun _ => 0, []⟩ w.heap.size).toArray 84)
  have hK0 : Keeps (fun _ => False) w ((w.alloc (.map #[] 0)).alloc (.cells (skCells ⟨fun _ => 0, fun _ => 0, []⟩ w.heap.size).toArray 84)) := ((Keeps.refl _ w).alloc _).alloc _
  have HB0 := Kept.mk hB0
  have HM0 := Kept.mk hM0
  have HK0 := Kept.mk hK0
  clear hB0 hM0 hK0
  have hmm8 : min len 8 = 8 := by omega
  have Hmm := Kept.mk hmm8
  clear hmm8
  go_enter Try.func27, Try.ntmps27
  go_wp2_with fail
  go_loopw [11] (fun i wr => ∃ (k : Nat), k ≤ 8 ∧ i = .int .i64 k ∧ Blk wr (w.heap.size + 1) 84 (skCells ⟨goods f k, fun _ => 0, []⟩ w.heap.size) ∧ MapAt encRes wr w.heap.size [] ∧ Keeps (fun _ => False) w wr ∧ wr.heap.size = w.heap.size + 2) (fun i _ => (8 - (intOf i).toNat))
  case atStart => exact ⟨0, by omega, rfl, HB0.out, HM0.out, HK0.out, by simp⟩
  case round =>
    clear HB0 HM0 HK0
    obtain ⟨k, hk, rfl, hB, hM, hK, hz⟩ := hrel
    have HB := Kept.mk hB
    have Hz := Kept.mk hz
    clear hz
    by_cases hlt : k < 8
    · have hk8 : k < 8 := by omega
      have hkl : k < len := by omega
      obtain rfl : a = some ⟨b, off, none⟩ := by
        rcases ha with h | h
        · exact h
        · omega
      have hbl : b < w.heap.size := Hab.out (by omega) _ rfl
      have cf : wr.cell? ⟨b, off + k, none⟩ = some (.int .i64 (f k)) := (hK.cell hbl (fun h => h)).trans (Hcell.out k hkl)
      have cf1 : wr.drew.cell? ⟨b, off + k, none⟩ = some (.int .i64 (f k)) := cf
      have ch := hB.cell k (skCells_hand _ _ hk8)
      have fh := hB.frozen k
      simp only at ch
      have hz := Hz.out
      clear hB
      have Hz2 := Kept.mk hz
      clear hz
      have hz : wr.heap.size = w.heap.size + 2 := Hz2.out
      have HZ := Kept.mk hz
      clear hz Hz2
      by_cases hv1 : 1000000000 < f k
      · have hcl : clampI (f k) = 1000000000 := by unfold clampI; omega
        have Hcl := Kept.mk hcl
        clear hcl
        go_wp2_with fail
        go_region
        go_wp2_with fail
        go_roundw
        case rel => exact ⟨k + 1, by omega, by go_num, (by
          have := Kept.mk (HB.out.set k (.int .i64 (clampI (f k))))
          have t := this.out
          rw [skCells_setHand _ _ hk8, goods_step] at t
          rw [Hcl.out] at t
          exact t), hM.other (p := ⟨w.heap.size + 1, k, none⟩) (by simp) _, (hK.setCell (p := ⟨w.heap.size + 1, k, none⟩) (.inl (by simp)) _).drew, by simpa [World.setCell, World.drew] using HZ.out⟩
        case measure => simp [intOf]; omega
      · by_cases hv0 : 0 < f k
        · have hcl : clampI (f k) = f k := by unfold clampI; omega
          have Hcl := Kept.mk hcl
          clear hcl
          go_wp2_with fail
          go_region
          go_wp2_with fail
          go_roundw
          case rel => exact ⟨k + 1, by omega, by go_num, (by
            have := Kept.mk (HB.out.set k (.int .i64 (clampI (f k))))
            have t := this.out
            rw [skCells_setHand _ _ hk8, goods_step] at t
            rw [Hcl.out] at t
            exact t), hM.other (p := ⟨w.heap.size + 1, k, none⟩) (by simp) _, (hK.setCell (p := ⟨w.heap.size + 1, k, none⟩) (.inl (by simp)) _).drew, by simpa [World.setCell, World.drew] using HZ.out⟩
          case measure => simp [intOf]; omega
        · have hcl : clampI (f k) = 0 := by unfold clampI; omega
          have Hcl := Kept.mk hcl
          clear hcl
          go_wp2_with fail
          go_region
          go_wp2_with fail
          go_roundw
          case rel => exact ⟨k + 1, by omega, by go_num, (by
            have := Kept.mk (HB.out.set k (.int .i64 (clampI (f k))))
            have t := this.out
            rw [skCells_setHand _ _ hk8, goods_step] at t
            rw [Hcl.out] at t
            exact t), hM.other (p := ⟨w.heap.size + 1, k, none⟩) (by simp) _, (hK.setCell (p := ⟨w.heap.size + 1, k, none⟩) (.inl (by simp)) _).drew, by simpa [World.setCell, World.drew] using HZ.out⟩
          case measure => simp [intOf]; omega
    · obtain rfl : k = 8 := by omega
      have c0 := hB.cell 0 rfl
      have c1 := hB.cell 1 rfl
      have c2 := hB.cell 2 rfl
      have c3 := hB.cell 3 rfl
      have c4 := hB.cell 4 rfl
      have c5 := hB.cell 5 rfl
      have c6 := hB.cell 6 rfl
      have c7 := hB.cell 7 rfl
      have c8 := hB.cell 8 rfl
      have c9 := hB.cell 9 rfl
      have c10 := hB.cell 10 rfl
      have c11 := hB.cell 11 rfl
      have c12 := hB.cell 12 rfl
      have c13 := hB.cell 13 rfl
      have c14 := hB.cell 14 rfl
      have c15 := hB.cell 15 rfl
      have f8 := hB.frozen 8
      have f9 := hB.frozen 9
      have f10 := hB.frozen 10
      have f11 := hB.frozen 11
      have f12 := hB.frozen 12
      have f13 := hB.frozen 13
      have f14 := hB.frozen 14
      have f15 := hB.frozen 15
      simp only at c0 c1 c2 c3 c4 c5 c6 c7 c8 c9 c10 c11 c12 c13 c14 c15
      clear hB
      go_wp2_with fail
      go_ret
      exact copy_fin HB.out hM hK Hz.out Hmm.out
set_option maxRecDepth 100000 in
set_option maxHeartbeats 2000000 in
theorem stockNew_lo (a : Option Addr) (len cap : Nat) (f : Nat → Int) (w : World) (hmin : ¬ (8 : Int) < len) (hr : IntCells w a len f) (hlen : (len : Int) ≤ 9223372036854775807) (hab : 0 < len → ∀ x, a = some x → x.block < w.heap.size) :
    Calls Try.prog 27 #[.slice a len cap] w (Rets w (fun _ => False) (.pointer (some ⟨w.heap.size + 1, 0, none⟩)) fun w' => SkAt w' (w.heap.size + 1) w.heap.size (Sk.new f len) ∧ w'.heap.size = w.heap.size + 2) := by
  obtain ⟨b, off, ha, hcell⟩ := hr
  have Hcell := Kept.mk hcell
  have Hab := Kept.mk hab
  clear hcell hab
  have hmm := @run_makeMap Try.prog
  have hB0 := Blk.new (w.alloc (.map #[] 0)) 84 (skCells ⟨fun _ => 0, fun _ => 0, []⟩ w.heap.size)
  rw [World.size_alloc] at hB0
  have hM0 := (MapAt.new encRes w).alloc (.cells (skCells ⟨fun _ => 0, fun _ => 0, []⟩ w.heap.size).toArray 84)
  have hK0 : Keeps (fun _ => False) w ((w.alloc (.map #[] 0)).alloc (.cells (skCells ⟨fun _ => 0, fun _ => 0, []⟩ w.heap.size).toArray 84)) := ((Keeps.refl _ w).alloc _).alloc _
  have HB0 := Kept.mk hB0
  have HM0 := Kept.mk hM0
  have HK0 := Kept.mk hK0
  clear hB0 hM0 hK0
  have hmm8 : min len 8 = len := by omega
  have Hmm := Kept.mk hmm8
  clear hmm8
  go_enter Try.func27, Try.ntmps27
  go_wp2_with fail
  go_loopw [11] (fun i wr => ∃ (k : Nat), k ≤ len ∧ i = .int .i64 k ∧ Blk wr (w.heap.size + 1) 84 (skCells ⟨goods f k, fun _ => 0, []⟩ w.heap.size) ∧ MapAt encRes wr w.heap.size [] ∧ Keeps (fun _ => False) w wr ∧ wr.heap.size = w.heap.size + 2) (fun i _ => (len - (intOf i).toNat))
  case atStart => exact ⟨0, by omega, rfl, HB0.out, HM0.out, HK0.out, by simp⟩
  case round =>
    clear HB0 HM0 HK0
    obtain ⟨k, hk, rfl, hB, hM, hK, hz⟩ := hrel
    have HB := Kept.mk hB
    have Hz := Kept.mk hz
    clear hz
    by_cases hlt : k < len
    · have hk8 : k < 8 := by omega
      have hkl : k < len := by omega
      obtain rfl : a = some ⟨b, off, none⟩ := by
        rcases ha with h | h
        · exact h
        · omega
      have hbl : b < w.heap.size := Hab.out (by omega) _ rfl
      have cf : wr.cell? ⟨b, off + k, none⟩ = some (.int .i64 (f k)) := (hK.cell hbl (fun h => h)).trans (Hcell.out k hkl)
      have cf1 : wr.drew.cell? ⟨b, off + k, none⟩ = some (.int .i64 (f k)) := cf
      have ch := hB.cell k (skCells_hand _ _ hk8)
      have fh := hB.frozen k
      simp only at ch
      have hz := Hz.out
      clear hB
      have Hz2 := Kept.mk hz
      clear hz
      have hz : wr.heap.size = w.heap.size + 2 := Hz2.out
      have HZ := Kept.mk hz
      clear hz Hz2
      by_cases hv1 : 1000000000 < f k
      · have hcl : clampI (f k) = 1000000000 := by unfold clampI; omega
        have Hcl := Kept.mk hcl
        clear hcl
        go_wp2_with fail
        go_region
        go_wp2_with fail
        go_roundw
        case rel => exact ⟨k + 1, by omega, by go_num, (by
          have := Kept.mk (HB.out.set k (.int .i64 (clampI (f k))))
          have t := this.out
          rw [skCells_setHand _ _ hk8, goods_step] at t
          rw [Hcl.out] at t
          exact t), hM.other (p := ⟨w.heap.size + 1, k, none⟩) (by simp) _, (hK.setCell (p := ⟨w.heap.size + 1, k, none⟩) (.inl (by simp)) _).drew, by simpa [World.setCell, World.drew] using HZ.out⟩
        case measure => simp [intOf]; omega
      · by_cases hv0 : 0 < f k
        · have hcl : clampI (f k) = f k := by unfold clampI; omega
          have Hcl := Kept.mk hcl
          clear hcl
          go_wp2_with fail
          go_region
          go_wp2_with fail
          go_roundw
          case rel => exact ⟨k + 1, by omega, by go_num, (by
            have := Kept.mk (HB.out.set k (.int .i64 (clampI (f k))))
            have t := this.out
            rw [skCells_setHand _ _ hk8, goods_step] at t
            rw [Hcl.out] at t
            exact t), hM.other (p := ⟨w.heap.size + 1, k, none⟩) (by simp) _, (hK.setCell (p := ⟨w.heap.size + 1, k, none⟩) (.inl (by simp)) _).drew, by simpa [World.setCell, World.drew] using HZ.out⟩
          case measure => simp [intOf]; omega
        · have hcl : clampI (f k) = 0 := by unfold clampI; omega
          have Hcl := Kept.mk hcl
          clear hcl
          go_wp2_with fail
          go_region
          go_wp2_with fail
          go_roundw
          case rel => exact ⟨k + 1, by omega, by go_num, (by
            have := Kept.mk (HB.out.set k (.int .i64 (clampI (f k))))
            have t := this.out
            rw [skCells_setHand _ _ hk8, goods_step] at t
            rw [Hcl.out] at t
            exact t), hM.other (p := ⟨w.heap.size + 1, k, none⟩) (by simp) _, (hK.setCell (p := ⟨w.heap.size + 1, k, none⟩) (.inl (by simp)) _).drew, by simpa [World.setCell, World.drew] using HZ.out⟩
          case measure => simp [intOf]; omega
    · obtain rfl : k = len := by omega
      have c0 := hB.cell 0 rfl
      have c1 := hB.cell 1 rfl
      have c2 := hB.cell 2 rfl
      have c3 := hB.cell 3 rfl
      have c4 := hB.cell 4 rfl
      have c5 := hB.cell 5 rfl
      have c6 := hB.cell 6 rfl
      have c7 := hB.cell 7 rfl
      have c8 := hB.cell 8 rfl
      have c9 := hB.cell 9 rfl
      have c10 := hB.cell 10 rfl
      have c11 := hB.cell 11 rfl
      have c12 := hB.cell 12 rfl
      have c13 := hB.cell 13 rfl
      have c14 := hB.cell 14 rfl
      have c15 := hB.cell 15 rfl
      have f8 := hB.frozen 8
      have f9 := hB.frozen 9
      have f10 := hB.frozen 10
      have f11 := hB.frozen 11
      have f12 := hB.frozen 12
      have f13 := hB.frozen 13
      have f14 := hB.frozen 14
      have f15 := hB.frozen 15
      simp only at c0 c1 c2 c3 c4 c5 c6 c7 c8 c9 c10 c11 c12 c13 c14 c15
      clear hB
      go_wp2_with fail
      go_ret
      exact copy_fin HB.out hM hK Hz.out Hmm.out
theorem stockNew_any (a : Option Addr) (len cap : Nat) (f : Nat → Int) (w : World) (hr : IntCells w a len f) (hlen : (len : Int) ≤ 9223372036854775807) (hab : 0 < len → ∀ x, a = some x → x.block < w.heap.size) :
    Calls Try.prog 27 #[.slice a len cap] w (Rets w (fun _ => False) (.pointer (some ⟨w.heap.size + 1, 0, none⟩)) fun w' => SkAt w' (w.heap.size + 1) w.heap.size (Sk.new f len) ∧ w'.heap.size = w.heap.size + 2) := by
  by_cases hmin : (8 : Int) < len
  · exact stockNew_hi a len cap f w hmin hr hlen hab
  · exact stockNew_lo a len cap f w hmin hr hlen hab
end Go.Proofs.Ytofabbigngmboaa
