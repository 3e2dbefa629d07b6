/- The page's book of parcels, walked: Ship, Went, Ids. -/
import Derived.Test.YtdbdhcfodolgdaaParcelRef
namespace Go.Proofs.Ytdbdhcfodolgdaa
open Go.RowKit
theorem infoRPc : (Try.prog.info? 53).map (fun i => (i.zero, i.size, i.bytes)) = some (some (.agg #[.int .i64 0, .int .i64 0, .int .i64 0]), 3, 24) := by kernel_rfl
set_option maxRecDepth 100000 in
set_option maxHeartbeats 1000000 in
theorem rwent_any (p : Nat) (v : Value) (L : List Pc) (item : Int) (w : World) (h : PbAt 48 53 w p v L) :
    Calls Try.prog 28 #[.pointer (some ⟨p, 0, none⟩), .int .i64 item] w (fun e w' => e = .returned (.int .i64 (wentP item 0 L)) ∧ Keeps (fun _ => False) w w') := by
  obtain ⟨a, cap, rfl, hm, hL⟩ := h.open
  unfold maxLen at hm
  have c0 := h.cells.cell 0 rfl
  have HL := Kept.mk hL
  clear hL h
  go_enter Try.func28, Try.ntmps28
  go_wp2
  go_loopw [5, 13] (fun n i wr => ∃ k : Nat, k ≤ L.length ∧ i = .int .i64 k ∧ n = .int .i64 (wentP item 0 (L.take k)) ∧ Below w.heap.size w wr) (fun _ i _ => L.length - (intOf i).toNat)
  case atStart => exact ⟨0, Nat.zero_le _, rfl, rfl, Below.refl _ _⟩
  case round =>
    obtain ⟨k, hk, rfl, rfl, hB⟩ := hrel
    generalize hS : wentP item 0 (L.take k) = S
    have HS := Kept.mk hS
    clear hS
    by_cases hlt : k < L.length
    · obtain ⟨x, hx⟩ : ∃ x, L[k]? = some x := ⟨_, List.getElem?_eq_getElem hlt⟩
      have Hx := Kept.mk hx
      obtain ⟨g, off, rfl, hl, c0, c1, c2⟩ := HL.out k x hx
      rw [← hB.cell (p := ⟨g, off + k * 3, none⟩) hl] at c0
      rw [← hB.cell (p := ⟨g, off + k * 3 + 1, none⟩) hl] at c1
      rw [← hB.cell (p := ⟨g, off + k * 3 + 2, none⟩) hl] at c2
      clear hx
      have hz := hB.size
      have HB := Kept.mk hB
      clear hB
      by_cases e : x.2.1 = item
      · have He := Kept.mk e
        have e1 : (x.2.1 == item) = true := by simpa using e
        clear e
        go_wp2_with fail
        go_roundw
        case rel => exact ⟨k + 1, by omega, by go_num, by rw [went_yes Hx.out He.out, HS.out], HB.out.alloc hz _⟩
        case measure => simp [intOf]; omega
      · have He := Kept.mk e
        have e1 : (x.2.1 == item) = false := by simpa using e
        clear e
        go_wp2_with fail
        go_roundw
        case rel => exact ⟨k + 1, by omega, by go_num, by rw [went_no Hx.out He.out, HS.out], HB.out.alloc hz _⟩
        case measure => simp [intOf]; omega
    · go_wp2_with fail
      go_ret
      exact ⟨by rw [← HS.out, List.take_of_length_le (by omega)]; rfl, Keeps.of_below hB _⟩
set_option maxRecDepth 100000 in
set_option maxHeartbeats 2000000 in
theorem rids_any (p : Nat) (v : Value) (L : List Pc) (w : World) (h : PbAt 48 53 w p v L) (hlen : L.length ≤ 1000) :
    Calls Try.prog 29 #[.pointer (some ⟨p, 0, none⟩)] w (fun e w' => ∃ u, e = .returned u ∧ w'.ownsRow w.heap.size 3 1 u L.length (idsOf L) ∧ Keeps (fun _ => False) w w') := by
  obtain ⟨a, cap, rfl, hm, hL⟩ := h.open
  unfold maxLen at hm
  have c0 := h.cells.cell 0 rfl
  have HL := Kept.mk hL
  obtain ⟨i0, hi, hz0, hz1, hz2⟩ := info_parts infoInt
  clear hL h
  go_enter Try.func29, Try.ntmps29
  go_wp2
  go_loopw [3, 11] (fun u i wr => ∃ k : Nat, k ≤ L.length ∧ i = .int .i64 k ∧ wr.ownsRow w.heap.size 3 1 u k (idsOf (L.take k)) ∧ Below w.heap.size w wr) (fun _ i _ => L.length - (intOf i).toNat)
  case atStart => exact ⟨0, Nat.zero_le _, rfl, World.ownsRow_nil _ _ _ _, Below.refl _ _⟩
  case round =>
    obtain ⟨k, hk, rfl, hown, hB⟩ := hrel
    have hz := hB.size
    by_cases hlt : k < L.length
    · obtain ⟨x, hx⟩ : ∃ x, L[k]? = some x := ⟨_, List.getElem?_eq_getElem hlt⟩
      have Hx := Kept.mk hx
      obtain ⟨g, off, rfl, hl, c0, c1, c2⟩ := HL.out k x hx
      rw [← hB.cell (p := ⟨g, off + k * 3, none⟩) hl] at c0
      rw [← hB.cell (p := ⟨g, off + k * 3 + 1, none⟩) hl] at c1
      rw [← hB.cell (p := ⟨g, off + k * 3 + 2, none⟩) hl] at c2
      obtain ⟨x1, x2, x3⟩ := x
      simp only at c0 c1 c2
      have hb := (Blk.new (wr.alloc (.cells #[.int .i64 x1, .int .i64 x2, .int .i64 x3] 53)) 3 [.int .i64 x1]).cell 0 rfl
      rw [World.size_alloc] at hb
      obtain ⟨a', c', w2, hrun, hown', k2, _, hnew⟩ := run_append_new (P := Try.prog) ((wr.alloc (.cells #[.int .i64 x1, .int .i64 x2, .int .i64 x3] 53)).alloc (.cells #[.int .i64 x1] 3)) w.heap.size 22 22 3 i0 _ 1 8 Try.underlying22 hi hz0 hz1 hz2 rfl (by omega) _ _ _ ((hown.alloc _).alloc _) ⟨wr.heap.size + 1, 0, none⟩ 1 1 [.int .i64 x1] rfl
        (by
          intro j u hu
          match j, hu with
          | 0, hu => simp at hu; subst hu; exact hb) (by intro u hu; simp at hu; subst hu; rfl) (by unfold maxLen; omega) (by omega) (by simp; omega)
      have Hown := Kept.mk hown'
      have Hlt := Kept.mk hown.lt
      have HB := Kept.mk hB
      have K2 := Kept.mk k2
      obtain ⟨ua, uc, rfl, _⟩ := ownsRow_open hown (by omega)
      clear hx hown' hown hB hnew k2 hb
      go_wp2_with (at_builtin; refine wpList_append_run rfl _ _ _ rfl rfl rfl hrun ?_)
      go_roundw
      case rel =>
        refine ⟨k + 1, by omega, by go_num, ?_, ?_⟩
        · rw [took Hx.out]; unfold idsOf; rw [List.map_append]; exact Hown.out
        · exact ((HB.out.alloc hz _).alloc (by simp; omega) _).trans (K2.out.below (by simp; omega) (fun g hg => (Hlt.out g hg).1))
      case measure => simp [intOf]; omega
    · obtain rfl : k = L.length := by omega
      have Hown := Kept.mk hown
      have HB := Kept.mk hB
      obtain ⟨ua, uc, rfl, _⟩ := ownsRow_open hown (by omega)
      clear hown hB
      go_wp2_with fail
      go_ret
      exact ⟨_, rfl, by have := Hown.out; rw [List.take_of_length_le (Nat.le_refl _)] at this; exact this, Keeps.of_below HB.out _⟩
set_option maxHeartbeats 2000000 in
theorem rship_bad (p : Nat) (id item qty : Int) (w : World) (h : ¬ isArg id item qty) : Calls Try.prog 24 #[.pointer (some ⟨p, 0, none⟩), .int .i64 id, .int .i64 item, .int .i64 qty] w (Says w (.int .i64 1)) := by
  rw [isArg_iff] at h
  cases h1 : inB 1 999 id with
  | false =>
    have H1 := Kept.mk h1
    clear h h1
    go_enter Try.func24, Try.ntmps24
    go_wp2_with fail
    refine (rid_to _ _ _ H1.out).mono ?_
    rintro e _ ⟨rfl, rfl⟩
    go_wp2_with fail
    go_ret
    exact ⟨rfl, rfl⟩
  | true =>
    have H1 := Kept.mk h1
    cases h2 : inB 0 7 item with
    | false =>
      have H2 := Kept.mk h2
      clear h h1 h2
      go_enter Try.func24, Try.ntmps24
      go_wp2_with fail
      refine (rid_to _ _ _ H1.out).mono ?_
      rintro e _ ⟨rfl, rfl⟩
      go_wp2_with fail
      refine (rplace_to _ _ _ H2.out).mono ?_
      rintro e _ ⟨rfl, rfl⟩
      go_wp2_with fail
      go_ret
      exact ⟨rfl, rfl⟩
    | true =>
      have H2 := Kept.mk h2
      have H3 : Kept (inB 1 1000000000 qty = false) := ⟨by
        cases h3 : inB 1 1000000000 qty with
        | false => rfl
        | true => exact absurd ⟨h1, h2, h3⟩ h⟩
      clear h h1 h2
      go_enter Try.func24, Try.ntmps24
      go_wp2_with fail
      refine (rid_to _ _ _ H1.out).mono ?_
      rintro e _ ⟨rfl, rfl⟩
      go_wp2_with fail
      refine (rplace_to _ _ _ H2.out).mono ?_
      rintro e _ ⟨rfl, rfl⟩
      go_wp2_with fail
      refine (rabove_to _ _ _ H3.out).mono ?_
      rintro e _ ⟨rfl, rfl⟩
      go_wp2_with fail
      go_ret
      exact ⟨rfl, rfl⟩
set_option maxHeartbeats 2000000 in
theorem rship_twice (p : Nat) (v : Value) (L : List Pc) (id item qty : Int) (y : Int × Int) (w : World) (h : PbAt 48 53 w p v L) (ha : isArg id item qty) (hg : look L id = some y) :
    Calls Try.prog 24 #[.pointer (some ⟨p, 0, none⟩), .int .i64 id, .int .i64 item, .int .i64 qty] w (fun e w' => e = .returned (.int .i64 8) ∧ Keeps (fun _ => False) w w') := by
  rw [isArg_iff] at ha
  obtain ⟨a1, a2, a3⟩ := ha
  have A1 := Kept.mk a1
  have A2 := Kept.mk a2
  have A3 := Kept.mk a3
  have hf : foundV L id = .tuple #[.agg #[.int .i64 id, .int .i64 y.1, .int .i64 y.2], .bool true] := by unfold foundV; rw [hg]
  have Hf := Kept.mk hf
  have H := Kept.mk h
  clear hg hf h a1 a2 a3
  go_enter Try.func24, Try.ntmps24
  go_wp2_with fail
  refine (rid_to _ _ _ A1.out).mono ?_
  rintro e _ ⟨rfl, rfl⟩
  go_wp2_with fail
  refine (rplace_to _ _ _ A2.out).mono ?_
  rintro e _ ⟨rfl, rfl⟩
  go_wp2_with fail
  refine (rabove_to _ _ _ A3.out).mono ?_
  rintro e _ ⟨rfl, rfl⟩
  go_wp2_with fail
  refine (rfind_any _ _ _ _ _ H.out).mono ?_
  rintro e w1 ⟨rfl, k1⟩
  rw [Hf.out]
  go_wp2_with fail
  go_ret
  exact ⟨rfl, k1.alloc _⟩
set_option maxHeartbeats 2000000 in
theorem rship_new (p : Nat) (v : Value) (L : List Pc) (id item qty : Int) (w : World) (h : PbAt 48 53 w p v L) (hL : L.length ≤ 1000) (ha : isArg id item qty) (hg : look L id = none) :
    Calls Try.prog 24 #[.pointer (some ⟨p, 0, none⟩), .int .i64 id, .int .i64 item, .int .i64 qty] w (fun e w' => e = .returned (.int .i64 0) ∧ PbTo 48 53 w p v (L ++ [(id, item, qty)]) w') := by
  rw [isArg_iff] at ha
  obtain ⟨a1, a2, a3⟩ := ha
  have A1 := Kept.mk a1
  have A2 := Kept.mk a2
  have A3 := Kept.mk a3
  have hf : foundV L id = .tuple #[.agg #[.int .i64 0, .int .i64 0, .int .i64 0], .bool false] := by unfold foundV; rw [hg]
  have Hf := Kept.mk hf
  have H := Kept.mk h
  have HL := Kept.mk hL
  clear hg hf h hL a1 a2 a3
  go_enter Try.func24, Try.ntmps24
  go_wp2_with fail
  refine (rid_to _ _ _ A1.out).mono ?_
  rintro e _ ⟨rfl, rfl⟩
  go_wp2_with fail
  refine (rplace_to _ _ _ A2.out).mono ?_
  rintro e _ ⟨rfl, rfl⟩
  go_wp2_with fail
  refine (rabove_to _ _ _ A3.out).mono ?_
  rintro e _ ⟨rfl, rfl⟩
  go_wp2_with fail
  refine (rfind_any _ _ _ _ _ H.out).mono ?_
  rintro e w0 ⟨rfl, k0⟩
  rw [Hf.out]
  obtain ⟨i0, hi, hz0, hz1, hz2⟩ := info_parts infoRPc
  have k1 := k0.alloc (.cells #[.int .i64 0, .int .i64 0, .int .i64 0] 53)
  have h1 := H.out.quiet k1
  have h1r := (h1.alloc (.cells #[.int .i64 id, .int .i64 item, .int .i64 qty] 53)).row
  have hblk := Blk.new (w0.alloc (.cells #[.int .i64 0, .int .i64 0, .int .i64 0] 53)) 53 [.int .i64 id, .int .i64 item, .int .i64 qty]
  rw [World.size_alloc] at hblk
  have b0 := hblk.cell 0 rfl
  have b1 := hblk.cell 1 rfl
  have b2 := hblk.cell 2 rfl
  obtain ⟨a, cap, rfl, _, _⟩ := h1.open
  obtain ⟨a', c', w2, hrun, hown', k2, _, hnew⟩ := run_append_new (P := Try.prog) ((w0.alloc (.cells #[.int .i64 0, .int .i64 0, .int .i64 0] 53)).alloc (.cells #[.int .i64 id, .int .i64 item, .int .i64 qty] 53)) 0 46 46 53 i0 _ 3 24 Try.underlying46 hi hz0 hz1 hz2 rfl (by omega) _ _ _ h1r ⟨w0.heap.size + 1, 0, none⟩ 1 1 [.int .i64 id, .int .i64 item, .int .i64 qty] rfl
    (by
      intro j u hu
      match j, hu with
      | 0, hu => simp at hu; subst hu; exact b0
      | 1, hu => simp at hu; subst hu; exact b1
      | 2, hu => simp at hu; subst hu; exact b2) (by intro u hu; simp at hu; rcases hu with rfl | rfl | rfl <;> rfl) (by have := HL.out; unfold maxLen; omega) (by have := HL.out; omega) (Nat.zero_le _)
  have hp1 := h1.cells.lt
  have hc2 := (h1.alloc (.cells #[.int .i64 id, .int .i64 item, .int .i64 qty] 53)).cells.keeps k2 (fun e => h1.ne e)
  have d0 := hc2.cell 0 rfl
  have f0 := hc2.frozen 0
  have e0 := (H.out.quiet k0).cells.cell 0 rfl
  rw [World.size_alloc] at hp1
  have Hn := Kept.mk hnew
  have Ho := Kept.mk hown'
  have K2 := Kept.mk k2
  have H1 := Kept.mk h1
  have K1 := Kept.mk k1
  have hp0 : p < w0.heap.size := Nat.lt_of_lt_of_le H.out.cells.lt k0.size
  clear hnew hown' hc2 k2 h1 h1r hblk k0 k1 b0 b1 b2 hp1
  go_wp2_with (at_builtin; refine wpList_append_run rfl _ _ _ rfl rfl rfl hrun ?_)
  go_ret
  exact ⟨rfl, PbAt.pushed K1.out H1.out K2.out Ho.out Hn.out⟩
theorem rship_to (p : Nat) (v : Value) (L L' : List Pc) (id item qty r : Int) (w : World) (h : PbAt 48 53 w p v L) (hL : L.length ≤ 1000) (hr : shipP L id item qty = (r, L')) :
    Calls Try.prog 24 #[.pointer (some ⟨p, 0, none⟩), .int .i64 id, .int .i64 item, .int .i64 qty] w (fun e w' => e = .returned (.int .i64 r) ∧ PbTo 48 53 w p v L' w') := by
  unfold shipP at hr
  by_cases ha : isArg id item qty
  · rw [if_pos ha] at hr
    cases hg : look L id with
    | none =>
      rw [if_pos hg] at hr; cases hr
      exact rship_new p v L id item qty w h hL ha hg
    | some y =>
      rw [if_neg (by rw [hg]; simp)] at hr; cases hr
      exact (rship_twice p v L id item qty y w h ha hg).mono fun _ _ ⟨he, k⟩ => ⟨he, pbTo_quiet h k⟩
  · rw [if_neg ha] at hr; cases hr
    exact (rship_bad p id item qty w ha).mono fun _ _ ⟨he, hw⟩ => ⟨he, by subst hw; exact pbTo_same h⟩
end Go.Proofs.Ytdbdhcfodolgdaa
