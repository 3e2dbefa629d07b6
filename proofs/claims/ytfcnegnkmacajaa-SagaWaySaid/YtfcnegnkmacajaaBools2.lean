/- slices.Clone and Reverse at bools, and saga's last, walked. -/
import Derived.Test.YtfcnegnkmacajaaBools
namespace Go.Proofs.Ytfcnegnkmacajaa
open Go.RowKit
theorem infoB : (Try.prog.info? 4).map (fun i => (i.zero, i.size, i.bytes)) = some (some (.bool false), 1, 1) := by kernel_rfl
theorem BlRow.cells {w : World} {a : Addr} {L : List Bool} (h : BlRow w (some a) L) : ∀ j u, (L.map encB)[j]? = some u → w.cell? (a.add j) = some u := by
  intro j u hj
  rw [List.getElem?_map] at hj
  obtain ⟨x, hx, rfl⟩ := Option.map_eq_some_iff.1 hj
  obtain ⟨g, off, e, _, h0⟩ := h j x hx
  simp only [Option.some.injEq] at e
  subst e
  have hadd : (Addr.mk g off none).add j = ⟨g, off + j, none⟩ := by
    unfold Addr.add
    by_cases hi : j = 0
    · subst hi; simp
    · simp [hi]
  rw [hadd]
  exact h0
set_option maxHeartbeats 2000000 in
theorem blClone_to (a : Option Addr) (c n : Nat) (L : List Bool) (w : World) (hL : BlRow w a L) (hl : L.length = n) (hn : n ≤ 100000) :
    Calls Try.prog 44 #[.slice a n c] w (fun e w' => ∃ v, e = .returned v ∧ w'.ownsRow w.heap.size 4 1 v n (L.map encB) ∧ Keeps (fun _ => False) w w') := by
  subst hl
  cases a with
  | none =>
    have hL0 : L = [] := by
      cases L with
      | nil => rfl
      | cons x r =>
        obtain ⟨g, off, e, _⟩ := hL 0 x rfl
        cases e
    subst hL0
    have hq := @Lib.run_eql_slice_nil
    go_enter Try.func44, Try.ntmps44
    go_wp2
    go_ret
    exact ⟨_, rfl, World.ownsRow_nil _ _ _ _, Keeps.refl _ _⟩
  | some x =>
    have hc := hL.cells
    obtain ⟨i0, hi, hz0, hz1, hz2⟩ := info_parts infoB
    have hown : (w.alloc (.cells #[] 4)).ownsRow w.heap.size 4 1 (.slice (some ⟨w.heap.size, 0, none⟩) 0 0) 0 [] := World.ownsRow_made w #[] 0 (Nat.le_refl _) (Nat.zero_le _) rfl
    obtain ⟨a', c', w2, hrun, hown', k2, _, hnew⟩ := run_append_new (P := Try.prog) (w.alloc (.cells #[] 4)) w.heap.size 28 28 4 i0 _ 1 1 Try.underlying28 hi hz0 hz1 hz2 rfl (by omega) _ _ _ hown x L.length c (L.map encB) (by simp)
      (fun j u hu => (((Below.refl w.heap.size w).alloc (Nat.le_refl _) (.cells #[] 4)).cell (World.block_lt_of_cell? w _ (hc j u hu))).trans (hc j u hu)) (by intro u hu; rw [List.mem_map] at hu; obtain ⟨b, _, rfl⟩ := hu; rfl) (by unfold maxLen; omega) (by omega) (by simp)
    have hk : Kept (Keeps (fun _ => False) w w2) := ⟨((Keeps.refl (fun _ => False) w).alloc _).then k2 (fun i hi e => by simp only [Value.ownBlock, Option.some.injEq] at e; omega)⟩
    have hq := @Lib.run_eql_slice_nil
    rw [Nat.zero_add, List.nil_append] at hown'
    rw [Nat.zero_add] at hrun
    have HO := Kept.mk hown'
    clear hown hown' k2 hnew hc hL
    go_enter Try.func44, Try.ntmps44
    go_wp2_with (at_builtin; refine wpList_append_run rfl _ _ _ rfl rfl rfl hrun ?_)
    go_ret
    exact ⟨_, rfl, HO.out, hk.out⟩
def rowF (n : Nat) (h : Nat → Bool) : List Bool := (List.range n).map h
theorem rowF_get (n : Nat) (h : Nat → Bool) {i : Nat} (hi : i < n) : (rowF n h)[i]? = some (h i) := by
  unfold rowF; rw [List.getElem?_map, List.getElem?_range hi]; rfl
theorem rowF_len (n : Nat) (h : Nat → Bool) : (rowF n h).length = n := by simp [rowF]
theorem rowF_congr {n : Nat} {h h' : Nat → Bool} (e : ∀ i, i < n → h i = h' i) : rowF n h = rowF n h' := by
  unfold rowF
  exact List.map_congr_left (fun i hi => e i (List.mem_range.1 hi))
theorem rowF_set (n : Nat) (h : Nat → Bool) (k : Nat) (v : Bool) : (rowF n h).set k v = rowF n (fun i => if i = k then v else h i) := by
  apply List.ext_getElem?
  intro i
  rw [List.getElem?_set]
  by_cases hi : i < n
  · rw [rowF_get _ _ hi, rowF_get _ _ hi, rowF_len]
    by_cases e : k = i
    · subst e; simp [hi]
    · rw [if_neg e]
      have : ¬ i = k := fun h => e h.symm
      simp [this]
  · have h1 : (rowF n h)[i]? = none := List.getElem?_eq_none (by rw [rowF_len]; omega)
    have h2 : (rowF n (fun i => if i = k then v else h i))[i]? = none := List.getElem?_eq_none (by rw [rowF_len]; omega)
    rw [h1, h2, rowF_len]
    by_cases e : k = i
    · subst e; simp [hi]
    · rw [if_neg e]
theorem rowF_of (L : List Bool) : L = rowF L.length (fun i => L.getD i false) := by
  apply List.ext_getElem?
  intro i
  by_cases hi : i < L.length
  · rw [rowF_get _ _ hi, List.getD_eq_getElem?_getD, List.getElem?_eq_getElem hi]; rfl
  · rw [List.getElem?_eq_none (by omega), List.getElem?_eq_none (by rw [rowF_len]; omega)]
theorem rowF_rev (L : List Bool) : L.reverse = rowF L.length (fun i => L.getD (L.length - 1 - i) false) := by
  apply List.ext_getElem?
  intro i
  by_cases hi : i < L.length
  · rw [rowF_get _ _ hi, List.getElem?_reverse hi, List.getD_eq_getElem?_getD, List.getElem?_eq_getElem (by omega)]; rfl
  · rw [List.getElem?_eq_none (by rw [List.length_reverse]; omega), List.getElem?_eq_none (by rw [rowF_len]; omega)]
/-- Behind k exchanges. -/
def swpF (L : List Bool) (k i : Nat) : Bool := if i < k ∨ L.length - 1 - i < k then L.getD (L.length - 1 - i) false else L.getD i false
theorem swp_zero (L : List Bool) : rowF L.length (swpF L 0) = L := by
  rw [rowF_congr (h' := fun i => L.getD i false) (fun i hi => by unfold swpF; rw [if_neg (by omega)]), ← rowF_of]
theorem swp_end (L : List Bool) (k : Nat) (h : L.length ≤ 2 * k + 1) : rowF L.length (swpF L k) = L.reverse := by
  rw [rowF_rev]
  refine rowF_congr (fun i hi => ?_)
  unfold swpF
  by_cases e : i < k ∨ L.length - 1 - i < k
  · rw [if_pos e]
  · rw [if_neg e, show L.length - 1 - i = i by omega]
theorem swp_step (L : List Bool) (k : Nat) (h : 2 * k + 1 < L.length) : ((rowF L.length (swpF L k)).set k (swpF L k (L.length - 1 - k))).set (L.length - 1 - k) (swpF L k k) = rowF L.length (swpF L (k + 1)) := by
  rw [rowF_set, rowF_set]
  refine rowF_congr (fun i hi => ?_)
  unfold swpF
  by_cases e1 : i = L.length - 1 - k
  · subst e1
    rw [if_pos rfl, if_neg (by omega), if_pos (by omega), show L.length - 1 - (L.length - 1 - k) = k by omega]
  · rw [if_neg e1]
    by_cases e2 : i = k
    · subst e2
      rw [if_pos rfl, if_neg (by omega), if_pos (by omega)]
    · rw [if_neg e2]
      by_cases e3 : i < k ∨ L.length - 1 - i < k
      · rw [if_pos e3, if_pos (by omega)]
      · rw [if_neg e3, if_neg (by omega)]
set_option maxRecDepth 100000 in
set_option maxHeartbeats 2000000 in
theorem blReverse_to (g c n base : Nat) (L : List Bool) (w : World) (h : w.ownsRow base 4 1 (.slice (some ⟨g, 0, none⟩) n c) n (L.map encB)) (hn : L.length = n) (hm : n ≤ 100000) :
    Calls Try.prog 45 #[.slice (some ⟨g, 0, none⟩) n c] w (fun e w' => (∃ v, e = .returned v) ∧ w'.ownsRow base 4 1 (.slice (some ⟨g, 0, none⟩) n c) n (L.reverse.map encB) ∧ Keeps (fun k => k = g) w w') := by
  subst hn
  have H : Kept (w.ownsRow base 4 1 (.slice (some ⟨g, 0, none⟩) L.length c) L.length ((rowF L.length (swpF L 0)).map encB)) := ⟨by rw [swp_zero]; exact h⟩
  clear h
  go_enter Try.func45, Try.ntmps45
  go_wp2
  go_loopw [2, 3] (fun i j wr => ∃ (k : Nat) (q : Int), 2 * k ≤ L.length ∧ i = .int .i64 k ∧ q = L.length - 1 - k ∧ j = .int .i64 q ∧ wr.ownsRow base 4 1 (.slice (some ⟨g, 0, none⟩) L.length c) L.length ((rowF L.length (swpF L k)).map encB) ∧ Keeps (fun k => k = g) w wr) (fun i _ _ => L.length - (intOf i).toNat)
  case atStart => exact ⟨0, _, by omega, rfl, by simp, rfl, H.out, Keeps.refl _ _⟩
  case round =>
    obtain ⟨k, q, hk, rfl, hq, rfl, hown, hB⟩ := hrel
    have HB := Kept.mk hB
    have HO := Kept.mk hown
    clear hB hown
    by_cases hlt : 2 * k + 1 < L.length
    · obtain ⟨m, hm2⟩ : ∃ m, m = L.length - 1 - k := ⟨_, rfl⟩
      obtain rfl : q = (m : Int) := by omega
      have ck := ownsRow_cell HO.out (i := k) (u := .bool (swpF L k k)) (by rw [List.getElem?_map, rowF_get _ _ (by omega)]; rfl)
      have cm := ownsRow_cell HO.out (i := m) (u := .bool (swpF L k m)) (by rw [List.getElem?_map, rowF_get _ _ (by omega)]; rfl)
      have fk := ownsRow_frozen HO.out k
      have fm := ownsRow_frozen HO.out m
      have hkm : (k : Int) < m := by omega
      have hkl : (k : Int) < L.length := by omega
      have hml : (m : Int) < L.length := by omega
      have hne : k ≠ m := by omega
      have hs := ownsRow_set (ownsRow_set HO.out k (.bool (swpF L k m))) m (.bool (swpF L k k))
      have es : (((rowF L.length (swpF L k)).map encB).set k (.bool (swpF L k m))).set m (.bool (swpF L k k)) = (rowF L.length (swpF L (k + 1))).map encB := by
        rw [← swp_step L k hlt, hm2]
        rw [show (Value.bool (swpF L k (L.length - 1 - k))) = encB (swpF L k (L.length - 1 - k)) from rfl, show (Value.bool (swpF L k k)) = encB (swpF L k k) from rfl, List.map_set, List.map_set]
      rw [es] at hs
      have HS := Kept.mk hs
      have HM2 := Kept.mk hm2
      clear hs es hq hm2
      go_wp2_with fail
      go_region
      have hks : Kept (Keeps (fun k => k = g) wr ((wr.setCell ⟨g, k, none⟩ (.bool (swpF L k m))).setCell ⟨g, m, none⟩ (.bool (swpF L k k))).drew) := ⟨(((Keeps.refl (fun k => k = g) wr).setCell (p := ⟨g, k, none⟩) (.inr rfl) _).setCell (p := ⟨g, m, none⟩) (.inr rfl) _).drew⟩
      clear ck cm fk fm
      go_wp2_with fail
      go_roundw
      case rel => exact ⟨k + 1, (m : Int) - 1, by omega, by go_num, by have := HM2.out; omega, rfl, HS.out, HB.out.trans hks.out⟩
      case measure => simp [intOf]; omega
    · have he := Kept.mk (swp_end L k (by omega))
      have hqk : q ≤ (k : Int) := by omega
      clear hq
      go_wp2_with fail
      go_end0
      exact ⟨⟨_, rfl⟩, by have := HO.out; rw [he.out] at this; exact this, HB.out⟩
theorem blClone_pos (a : Option Addr) (c n : Nat) (L : List Bool) (w : World) (hL : BlRow w a L) (hl : L.length = n) (hn : n ≤ 100000) (h0 : 0 < n) :
    Calls Try.prog 44 #[.slice a n c] w (fun e w' => ∃ g c', e = .returned (.slice (some ⟨g, 0, none⟩) n c') ∧ w.heap.size ≤ g ∧ w'.ownsRow w.heap.size 4 1 (.slice (some ⟨g, 0, none⟩) n c') n (L.map encB) ∧ Keeps (fun _ => False) w w') := by
  refine (blClone_to a c n L w hL hl hn).mono ?_
  rintro e w' ⟨v, he, hv, k⟩
  have hv' := hv
  rcases hv.2 with ⟨_, hz⟩ | ⟨g, cap, cur, hve, hb, _⟩
  · omega
  · rw [hve] at hv' he
    exact ⟨g, cap, he, hb, hv', k⟩
theorem blClone_zero (a : Option Addr) (c : Nat) (w : World) :
    Calls Try.prog 44 #[.slice a 0 c] w (fun e w' => ∃ a' c', e = .returned (.slice a' 0 c') ∧ Keeps (fun _ => False) w w') := by
  refine (blClone_to a c 0 [] w (fun k x hk => by simp at hk) rfl (by omega)).mono ?_
  rintro e w' ⟨v, he, hv, k⟩
  obtain ⟨a', c', hve, _⟩ := ownsRow_bools hv
  exact ⟨a', c', by rw [he, hve], k⟩
theorem blReverse_zero (a : Option Addr) (c : Nat) (w : World) : Calls Try.prog 45 #[.slice a 0 c] w (fun e w' => (∃ v, e = .returned v) ∧ w = w') := by
  go_enter Try.func45, Try.ntmps45
  go_wp2
  go_loopw [2, 3] (fun i j wr => i = .int .i64 0 ∧ j = .int .i64 (-1) ∧ w = wr) (fun _ _ _ => 0)
  case atStart => exact ⟨rfl, rfl, rfl⟩
  case round =>
    obtain ⟨rfl, rfl, rfl⟩ := hrel
    go_wp2
    go_end0
    exact ⟨⟨_, rfl⟩, rfl⟩
set_option maxHeartbeats 2000000 in
theorem last_zero (a : Option Addr) (c : Nat) (w : World) : Calls Try.prog 34 #[.slice a 0 c] w (fun e w' => e = .returned (.bool true) ∧ Keeps (fun _ => False) w w') := by
  go_enter Try.func34, Try.ntmps34
  go_wp2_with fail
  refine (blClone_zero a c _).mono ?_
  rintro e w1 ⟨a', c', rfl, k1⟩
  have HR : BlRow w1 a' [] := fun k x hk => by simp at hk
  go_wp2_with fail
  refine (blReverse_zero _ _ _).mono ?_
  rintro e _ ⟨⟨v2, rfl⟩, rfl⟩
  go_wp2_with fail
  refine (first_to a' c' 0 [] true _ HR rfl (Nat.zero_le _) rfl).mono ?_
  rintro e _ ⟨rfl, rfl⟩
  go_wp2_with fail
  go_ret
  exact ⟨rfl, k1⟩
set_option maxHeartbeats 2000000 in
theorem last_pos (a : Option Addr) (c n : Nat) (L : List Bool) (r : Bool) (w : World) (hL : BlRow w a L) (hl : L.length = n) (hn : n ≤ 100000) (h0 : 0 < n) (hr : lastB L = r) :
    Calls Try.prog 34 #[.slice a n c] w (fun e w' => e = .returned (.bool r) ∧ Keeps (fun _ => False) w w') := by
  have HL := Kept.mk hL
  have Hl := Kept.mk hl
  have Hr := Kept.mk hr
  have hm : Kept (n ≤ maxLen) := ⟨by unfold maxLen; omega⟩
  have hlr : Kept (L.reverse.length = n) := ⟨by rw [List.length_reverse]; exact hl⟩
  clear hL hl hr
  go_enter Try.func34, Try.ntmps34
  go_wp2_with fail
  refine (blClone_pos a c n L _ HL.out Hl.out hn h0).mono ?_
  rintro e w1 ⟨g, c', rfl, hg, hv, k1⟩
  have HV := Kept.mk hv
  clear hv
  go_wp2_with fail
  refine (blReverse_to g c' n _ L _ HV.out Hl.out hn).mono ?_
  rintro e w2 ⟨⟨v2, rfl⟩, h2, k2⟩
  have hR : Kept (BlRow w2 (some ⟨g, 0, none⟩) L.reverse) := ⟨by
    obtain ⟨a3, c3, hv3, _, _, _, hR, _⟩ := ownsRow_bools h2
    simp only [Value.slice.injEq, true_and] at hv3
    rw [hv3.1]; exact hR⟩
  have K2 : Kept (Keeps (fun _ => False) w w2) := ⟨k1.then k2 (fun i hi e => by omega)⟩
  clear h2 k1 k2 HV
  go_wp2_with fail
  refine (first_to _ c' n L.reverse r _ hR.out hlr.out hm.out Hr.out).mono ?_
  rintro e _ ⟨rfl, rfl⟩
  go_wp2_with fail
  go_ret
  exact ⟨rfl, K2.out⟩
theorem last_to (a : Option Addr) (c n : Nat) (L : List Bool) (r : Bool) (w : World) (hL : BlRow w a L) (hl : L.length = n) (hn : n ≤ 100000) (hr : lastB L = r) :
    Calls Try.prog 34 #[.slice a n c] w (fun e w' => e = .returned (.bool r) ∧ Keeps (fun _ => False) w w') := by
  rcases Nat.eq_zero_or_pos n with h0 | h0
  · subst h0
    have : L = [] := List.eq_nil_of_length_eq_zero hl
    subst this
    subst hr
    exact last_zero a c w
  · exact last_pos a c n L r w hL hl hn h0 hr
end Go.Proofs.Ytfcnegnkmacajaa
