/- The law ParcelOrder, walked. -/
import Derived.Test.YtdbdhcfodolgdaaParcelLaws
import Derived.Test.YtdbdhcfodolgdaaOpen
import Derived.Test.YtdbdhcfodolgdaaInts
import Derived.Test.YtdbdhcfodolgdaaSame
namespace Go.Proofs.Ytdbdhcfodolgdaa
open Go.RowKit
theorem idsOf_ints (L : List Pc) : idsOf L = (L.map fun x => x.1).map (Value.int .i64) := by unfold idsOf; rw [List.map_map]; rfl
theorem mod8 (x : Int) (h : 1 ≤ x ∧ x ≤ 30) : 0 ≤ x.tmod 8 ∧ x.tmod 8 < 8 := by
  rw [Int.tmod_eq_emod_of_nonneg (by omega)]; omega
theorem w64_mod8 (x : Int) (h : 1 ≤ x ∧ x ≤ 30) : wrap64 (x.tmod 8) = x.tmod 8 := by
  have := mod8 x h
  exact w64 (by omega) (by omega)
theorem ship_in {L : List Pc} {x i : Int} (hx : 1 ≤ x ∧ x ≤ 30) (hi : 0 ≤ i ∧ i < 8) (r : Int) (L' : List Pc) (h : shipP L x i x = (r, L')) : (r = 0 ∧ L' = L ++ [(x, i, x)] ∨ r = 8 ∧ L' = L) := by
  unfold shipP at h
  rw [if_pos (by unfold isArg; omega)] at h
  split at h
  · cases h; exact .inl ⟨rfl, rfl⟩
  · cases h; exact .inr ⟨rfl, rfl⟩
/-- Between two rounds: the book, and the row of what the law wants. -/
structure OrdAt (B : Nat) (w : World) (v u : Value) (L : List Pc) : Prop where
  book : PbAt 77 79 w B v L
  want : w.ownsRow 0 3 1 u L.length (idsOf L)
  apart : Apart u v
  up : u.ownBlock ≠ some B
  vb : ∀ g, v.ownBlock = some g → B ≤ g
  ub : ∀ g, u.ownBlock = some g → B ≤ g
theorem OrdAt.shipped {B : Nat} {w w' : World} {v u : Value} {L L' : List Pc} (h : OrdAt B w v u L) (hp : PbTo 77 79 w B v L' w') : ∃ v', PbAt 77 79 w' B v' L' ∧ w'.ownsRow 0 3 1 u L.length (idsOf L) ∧ Apart u v' ∧ (∀ g, v'.ownBlock = some g → B ≤ g) ∧ Below B w w' := by
  obtain ⟨v', h1, hn, k⟩ := hp
  have hB : B < w.heap.size := h.book.cells.lt
  refine ⟨v', h1, ownsRow_keeps h.want k (fun g hg e => ?_), h.apart.new hn (ownsRow_lt h.want), fun g hg => ?_, k.below (Nat.le_of_lt hB) (fun k e => ?_)⟩
  · rcases e with rfl | e
    · exact h.up hg
    · exact h.apart g hg e
  · rcases hn g hg with e | e
    · exact h.vb g e
    · omega
  · rcases e with rfl | e
    · exact Nat.le_refl _
    · exact h.vb k e
theorem OrdAt.appended {B : Nat} {w w' : World} {v u u' : Value} {L : List Pc} {x : Pc} (o : Obj) (hb : PbAt 77 79 w B v (L ++ [x])) (ha : Apart u v) (hup : u.ownBlock ≠ some B) (hv : ∀ g, v.ownBlock = some g → B ≤ g) (hub : ∀ g, u.ownBlock = some g → B ≤ g)
    (hn : NewRow (w.alloc o) u u') (k : Keeps (fun g => u.ownBlock = some g) (w.alloc o) w') (hw : w'.ownsRow 0 3 1 u' (L.length + 1) (idsOf L ++ [.int .i64 x.1])) : OrdAt B w' v u' (L ++ [x]) ∧ Below B w w' := by
  have hB : B < w.heap.size := hb.cells.lt
  refine ⟨⟨(hb.alloc o).keeps k (fun e => hup e) (fun g hg e => ha g e hg), ?_, (ha.symm.new hn (fun g hg => by have := ownsRow_lt hb.row g hg; rw [World.size_alloc]; omega)).symm, fun e => ?_, hv, fun g hg => ?_⟩, ((Below.refl B w).alloc (Nat.le_of_lt hB) o).trans (k.below (by rw [World.size_alloc]; omega) (fun g hg => hub g hg))⟩
  · rw [List.length_append, show idsOf (L ++ [x]) = idsOf L ++ [.int .i64 x.1] by unfold idsOf; rw [List.map_append]; rfl]; exact hw
  · rcases hn B e with e | e
    · exact hup e
    · rw [World.size_alloc] at e; omega
  · rcases hn g hg with e | e
    · exact hub g e
    · rw [World.size_alloc] at e; omega
set_option maxRecDepth 100000 in
set_option maxHeartbeats 4000000 in
theorem order_any (a : Option Addr) (len cap : Nat) (zs : Nat → Int) (w : World) (hr : IntRow w a len zs) (hlen : (len : Int) ≤ 9223372036854775807) : Calls Try.prog 3 #[.slice a len cap] w (Yes w) := by
  obtain ⟨b, off, ha, hcell⟩ := hr
  have Hcell := Kept.mk hcell
  clear hcell
  obtain ⟨i0, hi, hz0, hz1, hz2⟩ := info_parts infoInt
  have h0 := PbAt.new 77 79 w
  have HO : OrdAt w.heap.size (w.alloc (.cells #[.slice none 0 0] 77)) (.slice none 0 0) (.slice none 0 0) [] := ⟨h0, World.ownsRow_nil _ _ _ _, fun g hg => by simp [Value.ownBlock] at hg, by simp [Value.ownBlock], fun g hg => by simp [Value.ownBlock] at hg, fun g hg => by simp [Value.ownBlock] at hg⟩
  clear h0
  go_enter Try.func3, Try.ntmps3
  go_wp2_with fail
  refine (newP_any _).mono ?_
  rintro e w0 ⟨rfl, rfl⟩
  go_wp2_with fail
  go_loopw [4, 13] (fun u i wr => ∃ (k : Nat) (v : Value) (L : List Pc), k ≤ len ∧ i = .int .i64 k ∧ L.length ≤ k ∧ L.length ≤ 60 ∧ OrdAt w.heap.size wr v u L ∧ Below w.heap.size w wr) (fun _ i _ => (len - (intOf i).toNat))
  case atStart => exact ⟨0, _, [], by omega, rfl, by simp, by simp, HO, (Below.refl _ w).alloc (Nat.le_refl _) _⟩
  case round =>
    obtain ⟨k, v, L, hk, rfl, hLk, hL60, hO, hB⟩ := hrel
    clear HO
    have HB := Kept.mk hB
    have HO := Kept.mk hO
    have HL := Kept.mk hL60
    have hbw := hB.size
    have hpw := hO.book.cells.lt
    obtain ⟨ua, uc, rfl, _⟩ := ownsRow_open hO.want (by omega)
    clear hB
    by_cases hgo : k < len ∧ (k : Int) < 60
    · obtain ⟨hlt, h60⟩ := hgo
      obtain ⟨rfl, hbl⟩ : a = some ⟨b, off, none⟩ ∧ b < w.heap.size := by
        rcases ha with h | h
        · exact h
        · omega
      obtain ⟨c0, _⟩ := Hcell.out k hlt
      rw [← HB.out.cell (p := ⟨b, off + k, none⟩) hbl] at c0
      have hid0 := mod_above (zs k) 30 1 (by omega) (by omega) (by omega) (by omega)
      obtain ⟨id, HID⟩ : ∃ id, Kept (wrap64 (1 + wrap64 ((IntKind.u64.wrap (zs k)).tmod 30)) = id) := ⟨_, ⟨rfl⟩⟩
      rw [HID.out] at hid0
      have hid : 1 ≤ id ∧ id ≤ 30 := by omega
      have hm0 := mod8 id hid
      obtain ⟨it, HIT⟩ : ∃ it, Kept (id.tmod 8 = it) := ⟨_, ⟨rfl⟩⟩
      rw [HIT.out] at hm0
      obtain ⟨r, L', hs⟩ : ∃ r L', shipP L id it id = (r, L') := ⟨_, _, rfl⟩
      have hcase := ship_in hid hm0 r L' hs
      have Hs := Kept.mk hs
      clear hs hO
      rcases hcase with ⟨rfl, rfl⟩ | ⟨rfl, rfl⟩
      · go_wp2_with fail
        rw [HID.out, HIT.out]
        refine (ship_to _ _ _ _ _ _ _ _ _ HO.out.book (by have := HL.out; omega) Hs.out).mono ?_
        rintro e w1 ⟨rfl, hp⟩
        obtain ⟨v', hb', hw', ha', hv', B1⟩ := HO.out.shipped hp
        have HO1 := HO.out
        have hup := HO1.up
        have hub := HO1.ub
        have hzw := B1.size
        have hbk := (Blk.new w1 3 [.int .i64 id]).cell 0 rfl
        obtain ⟨a', c', w2, hrun, hown', k2, _, hnew⟩ := run_append_new (P := Try.prog) (w1.alloc (.cells #[.int .i64 id] 3)) 0 22 22 3 i0 _ 1 8 Try.underlying22 hi hz0 hz1 hz2 rfl (by omega) _ _ _ (hw'.alloc _) ⟨w1.heap.size, 0, none⟩ 1 1 [.int .i64 id] rfl
          (by
            intro j u hu
            match j, hu with
            | 0, hu => simp at hu; subst hu; exact hbk) (by intro u hu; simp at hu; subst hu; rfl) (by have := HL.out; unfold maxLen; omega) (by have := HL.out; omega) (Nat.zero_le _)
        have HA := Kept.mk (OrdAt.appended (x := (id, it, id)) _ hb' ha' hup hv' hub hnew k2 hown')
        clear hp hb' hw' ha' hv' HO1 hup hub hnew k2 hown' hbk
        go_wp2_with (at_builtin; refine wpList_append_run rfl _ _ _ rfl rfl rfl hrun ?_)
        go_roundw
        case rel => exact ⟨k + 1, _, _, by omega, by go_num, by simp; omega, by simp; omega, HA.out.1, HB.out.trans (B1.trans HA.out.2)⟩
        case measure => simp [intOf]; omega
      · go_wp2_with fail
        rw [HID.out, HIT.out]
        refine (ship_to _ _ _ _ _ _ _ _ _ HO.out.book (by have := HL.out; omega) Hs.out).mono ?_
        rintro e w1 ⟨rfl, hp⟩
        have HS := Kept.mk (HO.out.shipped hp)
        clear hp
        go_wp2_with fail
        go_roundw
        case rel =>
          obtain ⟨v', hb', hw', ha', hv', B1⟩ := HS.out
          exact ⟨k + 1, _, _, by omega, by go_num, by omega, by omega, ⟨hb', hw', ha', HO.out.up, hv', HO.out.ub⟩, HB.out.trans B1⟩
        case measure => simp [intOf]; omega
    · have hL : (L.length : Int) ≤ 1000 := by have := HL.out; omega
      have hl1 : L.length ≤ 1000 := by omega
      have hbB : ∀ g, (Value.slice ua L.length uc).ownBlock = some g → w.heap.size ≤ g := hO.ub
      have hvB := Kept.mk hO.vb
      have hup := Kept.mk hO.up
      have Hwant := Kept.mk hO.want
      have Hbook := Kept.mk hO.book
      have HbB := Kept.mk hbB
      clear hO hbB
      have tail : k < len ∧ (60 : Int) ≤ k ∨ ¬ k < len := by omega
      rcases tail with ⟨hlt, h60⟩ | hlt
      all_goals
        obtain ⟨wo, rfl⟩ : ∃ wo : World, wo = wr := ⟨_, rfl⟩
        have hin : k < len → ∃ bb oo, a = some ⟨bb, oo, none⟩ ∧ wo.cell? ⟨bb, oo + k, none⟩ = some (.int .i64 (zs k)) := by
          intro hlt
          rcases ha with h | h
          · obtain ⟨c0, _⟩ := Hcell.out k hlt
            rw [← HB.out.cell (p := ⟨b, off + k, none⟩) h.2] at c0
            exact ⟨b, off, h.1, c0⟩
          · omega
        clear Hcell ha
        try
          have hin' := hin hlt
          obtain ⟨bb, oo, rfl, c0⟩ := hin'
        clear hin
        go_wp2_with fail
        refine (ids_any _ _ _ _ Hbook.out hl1).mono ?_
        rintro e w1 ⟨got, rfl, hgot, k1⟩
        have hw1 := ownsRow_keeps Hwant.out k1 (fun _ _ h => h)
        obtain ⟨ga, gc, rfl, _⟩ := ownsRow_open hgot (by omega)
        rw [idsOf_ints] at hgot hw1
        have B1 := Kept.mk (HB.out.trans (k1.below hbw (fun _ h => h.elim)))
        have Hg := Kept.mk hgot
        have Hw := Kept.mk hw1
        have hz1 := k1.size
        have Hb1 := Kept.mk (Hbook.out.quiet k1)
        clear hgot hw1 k1
        go_wp2_with fail
        refine (same_yes _ _ _ _ _ _ _ (ownsRow_ints Hg.out) (ownsRow_ints Hw.out) (by omega)).mono ?_
        rintro e w2 ⟨rfl, n2, rfl⟩
        go_wp2_with fail
        go_loopw [45] (fun i wq => ∃ j : Nat, j ≤ L.length ∧ i = .int .i64 j ∧ PbAt 77 79 wq w.heap.size v L ∧ wq.ownsRow 0 3 1 (.slice ua L.length uc) L.length ((L.map fun x => x.1).map (Value.int .i64)) ∧ Below w.heap.size w wq ∧ (0 < L.length → ∃ g vs, ga = some ⟨g, 0, none⟩ ∧ wo.heap.size ≤ g ∧ Blk wq g 3 vs ∧ L.length ≤ vs.length)) (fun i _ => (L.length - (intOf i).toNat))
        case atStart =>
          refine ⟨0, Nat.zero_le _, rfl, Hb1.out.drewN n2, Hw.out, below_draws B1.out n2, fun hn => ?_⟩
          obtain ⟨g, vs, h1, h2, h3, h4⟩ := ownsRow_blk Hg.out hn
          exact ⟨g, vs, h1, h2, h3.drewN n2, by omega⟩
        case round =>
          obtain ⟨j, hj, rfl, hb2, hw2, hB2, hg2⟩ := hrel
          by_cases hlj : j < L.length
          · obtain ⟨g, vs, rfl, hge, hgv, hvl⟩ := hg2 (by omega)
            have hgs := Kept.mk (hgv.set j (.int .i64 0))
            obtain ⟨x, hx⟩ : ∃ x, vs[j]? = some x := ⟨_, List.getElem?_eq_getElem (by omega)⟩
            have cj := hgv.cell j hx
            have fj := hgv.frozen j
            have hks : Kept (Keeps (fun k => k = g) wr (wr.setCell ⟨g, j, none⟩ (.int .i64 0))) := ⟨(Keeps.refl (fun k => k = g) wr).setCell (p := ⟨g, j, none⟩) (.inr rfl) _⟩
            have hji : (j : Int) < L.length := by omega
            have Hb2 := Kept.mk hb2
            have Hw2 := Kept.mk hw2
            have HB2 := Kept.mk hB2
            have Hvl := Kept.mk hvl
            have HLt := Kept.mk (ownsRow_lt Hwant.out)
            have HVt := Kept.mk (ownsRow_lt Hbook.out.row)
            clear hx hgv hb2 hw2 hB2 hg2 hvl
            go_wp2_with fail
            go_roundw
            case rel =>
              refine ⟨j + 1, by omega, by go_num, Hb2.out.keeps hks.out (by omega) (fun g' h e => ?_), ownsRow_keeps Hw2.out hks.out (fun g' h e => ?_), HB2.out.trans (hks.out.below HB2.out.size (fun k e => by subst e; omega)), fun _ => ⟨g, _, rfl, hge, hgs.out, by rw [List.length_set]; exact Hvl.out⟩⟩
              · have := HVt.out g' h; omega
              · have := HLt.out g' h; omega
            case measure => simp [intOf]; omega
          · have Hb2 := Kept.mk hb2
            have Hw2 := Kept.mk hw2
            have HB2 := Kept.mk hB2
            have hz2 := hB2.size
            clear hb2 hw2 hB2 hg2
            go_wp2_with fail
            refine (ids_any _ _ _ _ Hb2.out hl1).mono ?_
            rintro e w3 ⟨got2, rfl, hgot, k3⟩
            have hw3 := ownsRow_keeps Hw2.out k3 (fun _ _ h => h)
            obtain ⟨ga2, gc2, rfl, _⟩ := ownsRow_open hgot (by omega)
            rw [idsOf_ints] at hgot
            have B3 := Kept.mk (HB2.out.trans (k3.below hz2 (fun _ h => h.elim)))
            have Hg3 := Kept.mk hgot
            have Hw3 := Kept.mk hw3
            clear hgot hw3 k3
            go_wp2_with fail
            refine (same_yes _ _ _ _ _ _ _ (ownsRow_ints Hg3.out) (ownsRow_ints Hw3.out) (by omega)).mono ?_
            rintro e w4 ⟨rfl, n4, rfl⟩
            go_wp2_with fail
            refine (awake10_any _).mono ?_
            rintro e w5 ⟨rfl, k5⟩
            go_wp2_with fail
            go_ret
            exact ⟨rfl, (below_draws B3.out n4).trans (k5.mono B3.out.size)⟩
end Go.Proofs.Ytdbdhcfodolgdaa
