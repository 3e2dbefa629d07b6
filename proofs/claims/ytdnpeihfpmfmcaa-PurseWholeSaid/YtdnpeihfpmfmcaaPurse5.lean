/- Package purse's book, walked, fifth part: New. (printed by gen/pursenew.py) -/
import Derived.Test.YtdnpeihfpmfmcaaPurse4
namespace Go.Proofs.Ytdnpeihfpmfmcaa
open Go.RowKit
def clampI (x : Int) : Int := max 0 (min x 1000000000)
theorem clampI_range (x : Int) : 0 ≤ clampI x ∧ clampI x ≤ 1000000000 := by unfold clampI; omega
/-- The money of a row, of which so much has been laid. -/
def goods (f : Nat → Int) (k : Nat) : Nat → Int := fun i => if i < k then clampI (f i) else 0
def Pu.new (f : Nat → Int) (len : Nat) : Pu := ⟨goods f (min len 8), 0, [], []⟩
theorem Pu.new_ok (f : Nat → Int) (len : Nat) : (Pu.new f len).Ok := by
  refine ⟨fun i hi => ?_, fun i hi => ?_, Int.le_refl _, by simp [Pu.new, resvAll, sumN, resv], fun p hp => by simp [Pu.new] at hp, fun x v hx => by simp [Pu.new, MP.get_nil] at hx, by simp [Pu.new, MP.keys], by simp [Pu.new, MP.keys]⟩
  · simp only [Pu.new, goods]; split
    · exact (clampI_range _).2
    · omega
  · simp only [Pu.new, goods, resv]; split
    · exact (clampI_range _).1
    · omega
theorem goods_step (f : Nat → Int) (k : Nat) : upd (goods f k) k (clampI (f k)) = goods f (k + 1) := by
  funext i
  simp only [upd, goods]
  by_cases h : i = k
  · subst h; rw [if_pos rfl, if_pos (by omega)]
  · rw [if_neg h]
    by_cases h2 : i < k
    · rw [if_pos h2, if_pos (by omega)]
    · rw [if_neg h2, if_neg (by omega)]
set_option maxRecDepth 100000 in
set_option maxHeartbeats 4000000 in
theorem purseNew_hi (a : Option Addr) (len cap : Nat) (f : Nat → Int) (w : World) (hmin : (8 : Int) < len) (hr : IntCells w a len f) (hlen : (len : Int) ≤ 9223372036854775807) (hab : ∀ x, a = some x → x.block < w.heap.size) :
    Calls Try.prog 17 #[.slice a len cap] w (Rets w (fun _ => False) (.pointer (some ⟨w.heap.size + 2, 0, none⟩)) fun w' => PuAt w' (w.heap.size + 2) w.heap.size (w.heap.size + 1) (Pu.new f len) ∧ w'.heap.size = w.heap.size + 3) := by
  obtain ⟨b, off, ha, hcell⟩ := hr
  have Hcell := Kept.mk hcell
  have Hab := Kept.mk hab
  clear hcell hab
  have hmm := @run_makeMap Try.prog
  have hB0 := Blk.new ((w.alloc (.map #[] 0)).alloc (.map #[] 0)) 65 (puCells ⟨fun _ => 0, 0, [], []⟩ w.heap.size (w.heap.size + 1))
  rw [World.size_alloc, World.size_alloc] at hB0
  have hM0 := ((MapAt.new encAl w).alloc (.map #[] 0)).alloc (.cells (puCells ⟨fun _ => 0, 0, [], []⟩ w.heap.size (w.heap.size + 1)).toArray 65)
  have hN0 := (MapAt.new encInt (w.alloc (.map #[] 0))).alloc (.cells (puCells ⟨fun _ => 0, 0, [], []⟩ w.heap.size (w.heap.size + 1)).toArray 65)
  rw [World.size_alloc] at hN0
  have hK0 : Keeps (fun _ => False) w (((w.alloc (.map #[] 0)).alloc (.map #[] 0)).alloc (.cells (puCells ⟨fun _ => 0, 0, [], []⟩ w.heap.size (w.heap.size + 1)).toArray 65)) := (((Keeps.refl _ w).alloc _).alloc _).alloc _
  have HB0 := Kept.mk hB0
  have HM0 := Kept.mk hM0
  have HN0 := Kept.mk hN0
  have HK0 := Kept.mk hK0
  clear hB0 hM0 hN0 hK0
  have hmm8 : min len 8 = 8 := by omega
  have Hmm := Kept.mk hmm8
  clear hmm8
  go_enter Try.func17, Try.ntmps17
  go_wp2_with fail
  go_loopw [12] (fun i wr => ∃ (k : Nat), k ≤ 8 ∧ i = .int .i64 k ∧ Blk wr (w.heap.size + 2) 65 (puCells ⟨goods f k, 0, [], []⟩ w.heap.size (w.heap.size + 1)) ∧ MapAt encAl wr w.heap.size [] ∧ MapAt encInt wr (w.heap.size + 1) [] ∧ Keeps (fun _ => False) w wr ∧ wr.heap.size = w.heap.size + 3) (fun i _ => (8 - (intOf i).toNat))
  case atStart => exact ⟨0, by omega, rfl, HB0.out, HM0.out, HN0.out, HK0.out, by simp⟩
  case round =>
    clear HB0 HM0 HN0 HK0
    obtain ⟨k, hk, rfl, hB, hM, hN, hK, hz⟩ := hrel
    have HB := Kept.mk hB
    have HZ := Kept.mk hz
    clear hz
    by_cases hlt : k < 8
    · have hk8 : k < 8 := by omega
      have hkl : k < len := by omega
      obtain rfl : a = some ⟨b, off, none⟩ := by
        rcases ha with h | h
        · exact h
        · omega
      have hbl : b < w.heap.size := Hab.out _ rfl
      have cf : wr.cell? ⟨b, off + k, none⟩ = some (.int .i64 (f k)) := (hK.cell hbl (fun h => h)).trans (Hcell.out k hkl)
      have cf1 : wr.drew.cell? ⟨b, off + k, none⟩ = some (.int .i64 (f k)) := cf
      have ch := hB.cell k (puCells_money _ _ _ hk8)
      have fh := hB.frozen k
      simp only at ch
      clear hB
      by_cases hv1 : 1000000000 < f k
      · have hcl : clampI (f k) = 1000000000 := by unfold clampI; omega
        have Hcl := Kept.mk hcl
        clear hcl
        go_wp2_with fail
        go_region
        go_wp2_with fail
        go_roundw
        case rel => exact ⟨k + 1, by omega, by go_num, (by
          have := Kept.mk (HB.out.set k (.int .i64 (clampI (f k))))
          have t := this.out
          rw [puCells_set _ _ _ hk8, goods_step] at t
          rw [Hcl.out] at t
          exact t), hM.other (p := ⟨w.heap.size + 2, k, none⟩) (by simp) _, hN.other (p := ⟨w.heap.size + 2, k, none⟩) (by simp) _, (hK.setCell (p := ⟨w.heap.size + 2, k, none⟩) (.inl (by simp)) _).drew, by simpa [World.setCell, World.drew] using HZ.out⟩
        case measure => simp [intOf]; omega
      · by_cases hv0 : 0 < f k
        · have hcl : clampI (f k) = f k := by unfold clampI; omega
          have Hcl := Kept.mk hcl
          clear hcl
          go_wp2_with fail
          go_region
          go_wp2_with fail
          go_roundw
          case rel => exact ⟨k + 1, by omega, by go_num, (by
            have := Kept.mk (HB.out.set k (.int .i64 (clampI (f k))))
            have t := this.out
            rw [puCells_set _ _ _ hk8, goods_step] at t
            rw [Hcl.out] at t
            exact t), hM.other (p := ⟨w.heap.size + 2, k, none⟩) (by simp) _, hN.other (p := ⟨w.heap.size + 2, k, none⟩) (by simp) _, (hK.setCell (p := ⟨w.heap.size + 2, k, none⟩) (.inl (by simp)) _).drew, by simpa [World.setCell, World.drew] using HZ.out⟩
          case measure => simp [intOf]; omega
        · have hcl : clampI (f k) = 0 := by unfold clampI; omega
          have Hcl := Kept.mk hcl
          clear hcl
          go_wp2_with fail
          go_region
          go_wp2_with fail
          go_roundw
          case rel => exact ⟨k + 1, by omega, by go_num, (by
            have := Kept.mk (HB.out.set k (.int .i64 (clampI (f k))))
            have t := this.out
            rw [puCells_set _ _ _ hk8, goods_step] at t
            rw [Hcl.out] at t
            exact t), hM.other (p := ⟨w.heap.size + 2, k, none⟩) (by simp) _, hN.other (p := ⟨w.heap.size + 2, k, none⟩) (by simp) _, (hK.setCell (p := ⟨w.heap.size + 2, k, none⟩) (.inl (by simp)) _).drew, by simpa [World.setCell, World.drew] using HZ.out⟩
          case measure => simp [intOf]; omega
    · obtain rfl : k = 8 := by omega
      clear hB
      go_wp2_with fail
      go_ret
      refine ⟨rfl, ⟨⟨?_, hM, hN, by omega, by omega, by omega⟩, HZ.out⟩, hK⟩
      unfold Pu.new
      rw [Hmm.out]
      exact HB.out
set_option maxRecDepth 100000 in
set_option maxHeartbeats 4000000 in
theorem purseNew_lo (a : Option Addr) (len cap : Nat) (f : Nat → Int) (w : World) (hmin : ¬ (8 : Int) < len) (hr : IntCells w a len f) (hlen : (len : Int) ≤ 9223372036854775807) (hab : ∀ x, a = some x → x.block < w.heap.size) :
    Calls Try.prog 17 #[.slice a len cap] w (Rets w (fun _ => False) (.pointer (some ⟨w.heap.size + 2, 0, none⟩)) fun w' => PuAt w' (w.heap.size + 2) w.heap.size (w.heap.size + 1) (Pu.new f len) ∧ w'.heap.size = w.heap.size + 3) := by
  obtain ⟨b, off, ha, hcell⟩ := hr
  have Hcell := Kept.mk hcell
  have Hab := Kept.mk hab
  clear hcell hab
  have hmm := @run_makeMap Try.prog
  have hB0 := Blk.new ((w.alloc (.map #[] 0)).alloc (.map #[] 0)) 65 (puCells ⟨fun _ => 0, 0, [], []⟩ w.heap.size (w.heap.size + 1))
  rw [World.size_alloc, World.size_alloc] at hB0
  have hM0 := ((MapAt.new encAl w).alloc (.map #[] 0)).alloc (.cells (puCells ⟨fun _ => 0, 0, [], []⟩ w.heap.size (w.heap.size + 1)).toArray 65)
  have hN0 := (MapAt.new encInt (w.alloc (.map #[] 0))).alloc (.cells (puCells ⟨fun _ => 0, 0, [], []⟩ w.heap.size (w.heap.size + 1)).toArray 65)
  rw [World.size_alloc] at hN0
  have hK0 : Keeps (fun _ => False) w (((w.alloc (.map #[] 0)).alloc (.map #[] 0)).alloc (.cells (puCells ⟨fun _ => 0, 0, [], []⟩ w.heap.size (w.heap.size + 1)).toArray 65)) := (((Keeps.refl _ w).alloc _).alloc _).alloc _
  have HB0 := Kept.mk hB0
  have HM0 := Kept.mk hM0
  have HN0 := Kept.mk hN0
  have HK0 := Kept.mk hK0
  clear hB0 hM0 hN0 hK0
  have hmm8 : min len 8 = len := by omega
  have Hmm := Kept.mk hmm8
  clear hmm8
  go_enter Try.func17, Try.ntmps17
  go_wp2_with fail
  go_loopw [12] (fun i wr => ∃ (k : Nat), k ≤ len ∧ i = .int .i64 k ∧ Blk wr (w.heap.size + 2) 65 (puCells ⟨goods f k, 0, [], []⟩ w.heap.size (w.heap.size + 1)) ∧ MapAt encAl wr w.heap.size [] ∧ MapAt encInt wr (w.heap.size + 1) [] ∧ Keeps (fun _ => False) w wr ∧ wr.heap.size = w.heap.size + 3) (fun i _ => (len - (intOf i).toNat))
  case atStart => exact ⟨0, by omega, rfl, HB0.out, HM0.out, HN0.out, HK0.out, by simp⟩
  case round =>
    clear HB0 HM0 HN0 HK0
    obtain ⟨k, hk, rfl, hB, hM, hN, hK, hz⟩ := hrel
    have HB := Kept.mk hB
    have HZ := Kept.mk hz
    clear hz
    by_cases hlt : k < len
    · have hk8 : k < 8 := by omega
      have hkl : k < len := by omega
      obtain rfl : a = some ⟨b, off, none⟩ := by
        rcases ha with h | h
        · exact h
        · omega
      have hbl : b < w.heap.size := Hab.out _ rfl
      have cf : wr.cell? ⟨b, off + k, none⟩ = some (.int .i64 (f k)) := (hK.cell hbl (fun h => h)).trans (Hcell.out k hkl)
      have cf1 : wr.drew.cell? ⟨b, off + k, none⟩ = some (.int .i64 (f k)) := cf
      have ch := hB.cell k (puCells_money _ _ _ hk8)
      have fh := hB.frozen k
      simp only at ch
      clear hB
      by_cases hv1 : 1000000000 < f k
      · have hcl : clampI (f k) = 1000000000 := by unfold clampI; omega
        have Hcl := Kept.mk hcl
        clear hcl
        go_wp2_with fail
        go_region
        go_wp2_with fail
        go_roundw
        case rel => exact ⟨k + 1, by omega, by go_num, (by
          have := Kept.mk (HB.out.set k (.int .i64 (clampI (f k))))
          have t := this.out
          rw [puCells_set _ _ _ hk8, goods_step] at t
          rw [Hcl.out] at t
          exact t), hM.other (p := ⟨w.heap.size + 2, k, none⟩) (by simp) _, hN.other (p := ⟨w.heap.size + 2, k, none⟩) (by simp) _, (hK.setCell (p := ⟨w.heap.size + 2, k, none⟩) (.inl (by simp)) _).drew, by simpa [World.setCell, World.drew] using HZ.out⟩
        case measure => simp [intOf]; omega
      · by_cases hv0 : 0 < f k
        · have hcl : clampI (f k) = f k := by unfold clampI; omega
          have Hcl := Kept.mk hcl
          clear hcl
          go_wp2_with fail
          go_region
          go_wp2_with fail
          go_roundw
          case rel => exact ⟨k + 1, by omega, by go_num, (by
            have := Kept.mk (HB.out.set k (.int .i64 (clampI (f k))))
            have t := this.out
            rw [puCells_set _ _ _ hk8, goods_step] at t
            rw [Hcl.out] at t
            exact t), hM.other (p := ⟨w.heap.size + 2, k, none⟩) (by simp) _, hN.other (p := ⟨w.heap.size + 2, k, none⟩) (by simp) _, (hK.setCell (p := ⟨w.heap.size + 2, k, none⟩) (.inl (by simp)) _).drew, by simpa [World.setCell, World.drew] using HZ.out⟩
          case measure => simp [intOf]; omega
        · have hcl : clampI (f k) = 0 := by unfold clampI; omega
          have Hcl := Kept.mk hcl
          clear hcl
          go_wp2_with fail
          go_region
          go_wp2_with fail
          go_roundw
          case rel => exact ⟨k + 1, by omega, by go_num, (by
            have := Kept.mk (HB.out.set k (.int .i64 (clampI (f k))))
            have t := this.out
            rw [puCells_set _ _ _ hk8, goods_step] at t
            rw [Hcl.out] at t
            exact t), hM.other (p := ⟨w.heap.size + 2, k, none⟩) (by simp) _, hN.other (p := ⟨w.heap.size + 2, k, none⟩) (by simp) _, (hK.setCell (p := ⟨w.heap.size + 2, k, none⟩) (.inl (by simp)) _).drew, by simpa [World.setCell, World.drew] using HZ.out⟩
          case measure => simp [intOf]; omega
    · obtain rfl : k = len := by omega
      clear hB
      go_wp2_with fail
      go_ret
      refine ⟨rfl, ⟨⟨?_, hM, hN, by omega, by omega, by omega⟩, HZ.out⟩, hK⟩
      unfold Pu.new
      rw [Hmm.out]
      exact HB.out
theorem purseNew_any (a : Option Addr) (len cap : Nat) (f : Nat → Int) (w : World) (hr : IntCells w a len f) (hlen : (len : Int) ≤ 9223372036854775807) (hab : ∀ x, a = some x → x.block < w.heap.size) :
    Calls Try.prog 17 #[.slice a len cap] w (Rets w (fun _ => False) (.pointer (some ⟨w.heap.size + 2, 0, none⟩)) fun w' => PuAt w' (w.heap.size + 2) w.heap.size (w.heap.size + 1) (Pu.new f len) ∧ w'.heap.size = w.heap.size + 3) := by
  by_cases hmin : (8 : Int) < len
  · exact purseNew_hi a len cap f w hmin hr hlen hab
  · exact purseNew_lo a len cap f w hmin hr hlen hab
end Go.Proofs.Ytdnpeihfpmfmcaa
