/- The law ParcelPlays, walked. -/
import Derived.Test.YtdbdhcfodolgdaaParcelOnce
import Derived.Test.YtdbdhcfodolgdaaParcelRef2
import Derived.Test.YtdbdhcfodolgdaaInts
import Derived.Test.YtdbdhcfodolgdaaSame
import Derived.Deep.RegionHeld3
namespace Go.Proofs.Ytdbdhcfodolgdaa
open Go.RowKit
/-- Two books, side by side. -/
structure TwoAt (B : Nat) (w : World) (v u : Value) (L M : List Pc) : Prop where
  book : PbAt 77 79 w B v L
  page : PbAt 48 53 w (B + 1) u M
  apart : Apart v u
  vb : ∀ g, v.ownBlock = some g → B + 2 ≤ g
  ub : ∀ g, u.ownBlock = some g → B + 2 ≤ g
theorem TwoAt.keep {B : Nat} {w w' : World} {v u : Value} {L M : List Pc} (h : TwoAt B w v u L M) (k : Keeps (fun _ => False) w w') : TwoAt B w' v u L M := ⟨h.book.quiet k, h.page.quiet k, h.apart, h.vb, h.ub⟩
theorem TwoAt.ship {B : Nat} {w w' : World} {v u : Value} {L L' M : List Pc} (h : TwoAt B w v u L M) (hp : PbTo 77 79 w B v L' w') : ∃ v', TwoAt B w' v' u L' M ∧ Below B w w' ∧ Keeps (fun k => k = B ∨ v.ownBlock = some k) w w' := by
  obtain ⟨v', h1, hn, k⟩ := hp
  have hB : B < w.heap.size := h.book.cells.lt
  have hP : B + 1 < w.heap.size := h.page.cells.lt
  refine ⟨v', ⟨h1, h.page.keeps k (fun e => ?_) (fun g hg e => ?_), (h.apart.symm.new hn (ownsRow_lt h.page.row)).symm, fun g hg => ?_, h.ub⟩, k.below (Nat.le_of_lt hB) (fun k e => ?_), k⟩
  · rcases e with e | e
    · omega
    · have := h.vb _ e; omega
  · rcases e with e | e
    · have := h.ub _ hg; omega
    · exact h.apart g e hg
  · rcases hn g hg with e | e
    · exact h.vb g e
    · omega
  · rcases e with rfl | e
    · exact Nat.le_refl _
    · have := h.vb k e; omega
theorem TwoAt.rship {B : Nat} {w w' : World} {v u : Value} {L M M' : List Pc} (h : TwoAt B w v u L M) (hp : PbTo 48 53 w (B + 1) u M' w') : ∃ u', TwoAt B w' v u' L M' ∧ Below B w w' ∧ Keeps (fun k => k = B + 1 ∨ u.ownBlock = some k) w w' := by
  obtain ⟨u', h1, hn, k⟩ := hp
  have hB : B < w.heap.size := h.book.cells.lt
  have hP : B + 1 < w.heap.size := h.page.cells.lt
  refine ⟨u', ⟨h.book.keeps k (fun e => ?_) (fun g hg e => ?_), h1, h.apart.new hn (ownsRow_lt h.book.row), h.vb, fun g hg => ?_⟩, k.below (Nat.le_of_lt hB) (fun k e => ?_), k⟩
  · rcases e with e | e
    · omega
    · have := h.ub _ e; omega
  · rcases e with e | e
    · have := h.vb _ hg; omega
    · exact h.apart g hg e
  · rcases hn g hg with e | e
    · exact h.ub g e
    · omega
  · rcases e with rfl | e
    · omega
    · have := h.ub k e; omega
theorem idsOf_eq (L : List Pc) : idsOf L = (L.map fun x => x.1).map (Value.int .i64) := by unfold idsOf; rw [List.map_map]; rfl
theorem ship_len (L L' : List Pc) (a b c r : Int) (h : shipP L a b c = (r, L')) : L'.length ≤ L.length + 1 := by
  unfold shipP at h
  split at h
  · split at h
    · cases h; simp
    · cases h; omega
  · cases h; omega
set_option maxRecDepth 100000 in
set_option maxHeartbeats 4000000 in
theorem plays_any (a : Option Addr) (len cap : Nat) (fc : Nat → Int × Int × Int) (w : World) (hr : Call3 w a len fc) (hlen : (len : Int) ≤ 9223372036854775807) : Calls Try.prog 5 #[.slice a len cap] w (Yes w) := by
  obtain ⟨b, off, ha, hcell⟩ := hr
  have Hcell := Kept.mk hcell
  clear hcell
  have HO : TwoAt w.heap.size ((w.alloc (.cells #[.slice none 0 0] 77)).alloc (.cells #[.slice none 0 0] 48)) (.slice none 0 0) (.slice none 0 0) [] [] := by
    have h2 := PbAt.new 48 53 (w.alloc (.cells #[.slice none 0 0] 77))
    rw [World.size_alloc] at h2
    exact ⟨(PbAt.new 77 79 w).alloc _, h2, fun g hg => by simp [Value.ownBlock] at hg, fun g hg => by simp [Value.ownBlock] at hg, fun g hg => by simp [Value.ownBlock] at hg⟩
  have HB0 : Below w.heap.size w ((w.alloc (.cells #[.slice none 0 0] 77)).alloc (.cells #[.slice none 0 0] 48)) := ((Below.refl _ w).alloc (Nat.le_refl _) _).alloc (by simp) _
  have H0 := Kept.mk HO
  have HB0' := Kept.mk HB0
  clear HO HB0
  go_enter Try.func5, Try.ntmps5
  go_wp2_with fail
  refine (newP_any _).mono ?_
  rintro e w0 ⟨rfl, rfl⟩
  go_wp2_with fail
  go_loopw [21] (fun i wr => ∃ (k : Nat) (v u : Value) (L : List Pc), k ≤ len ∧ i = .int .i64 k ∧ L.length ≤ k ∧ k ≤ 100 ∧ TwoAt w.heap.size wr v u L L ∧ Below w.heap.size w wr) (fun i _ => (len - (intOf i).toNat))
  case atStart => exact ⟨0, _, _, [], by omega, rfl, by simp, by simp, H0.out, HB0'.out⟩
  case round =>
    clear H0 HB0'
    obtain ⟨k, v, u, L, hk, rfl, hLk, hk80, hO, hB⟩ := hrel
    have HB := Kept.mk hB
    have HO := Kept.mk hO
    have hbw := hB.size
    have hpw := hO.book.cells.lt
    have hqw := hO.page.cells.lt
    clear hB hO
    by_cases hgo : k < len ∧ (k : Int) < 100
    · obtain ⟨hlt, h60⟩ := hgo
      obtain ⟨rfl, hbl⟩ : a = some ⟨b, off, none⟩ ∧ b < w.heap.size := by
        rcases ha with h | h
        · exact h
        · omega
      obtain ⟨c0, c1, c2⟩ := Hcell.out k hlt
      rw [← HB.out.cell (p := ⟨b, off + k * 3, none⟩) hbl] at c0
      rw [← HB.out.cell (p := ⟨b, off + k * 3 + 1, none⟩) hbl] at c1
      rw [← HB.out.cell (p := ⟨b, off + k * 3 + 2, none⟩) hbl] at c2
      generalize (fc k).1 = f1 at c0
      generalize (fc k).2.1 = f2 at c1
      generalize (fc k).2.2 = f3 at c2
      obtain ⟨r, L', hs⟩ : ∃ r L', Kept (shipP L f1 f2 f3 = (r, L')) := ⟨_, _, ⟨rfl⟩⟩
      have hT := Blk.new wr 50 [.int .i64 f1, .int .i64 f2, .int .i64 f3]
      have HT := Kept.mk hT
      have HOa := Kept.mk (HO.out.keep ((Keeps.refl _ wr).alloc (.cells #[.int .i64 f1, .int .i64 f2, .int .i64 f3] 50)))
      have HVl := Kept.mk (ownsRow_lt HO.out.book.row)
      have HUl := Kept.mk (ownsRow_lt HO.out.page.row)
      have HS1 : Kept (¬ (wr.heap.size = w.heap.size ∨ v.ownBlock = some wr.heap.size)) := ⟨fun e => by
        rcases e with e | e
        · omega
        · have := HVl.out _ e; omega⟩
      have HS2 : Kept (¬ (wr.heap.size = w.heap.size + 1 ∨ u.ownBlock = some wr.heap.size)) := ⟨fun e => by
        rcases e with e | e
        · omega
        · have := HUl.out _ e; omega⟩
      clear hT
      have hLs : L.length ≤ 1000 := by omega
      go_wp2_with fail
      go_region_held3 (fun W => W.cell? ⟨wr.heap.size, 0, none⟩ = some (.int .i64 f1) ∧ W.cell? ⟨wr.heap.size, 1, none⟩ = some (.int .i64 f2) ∧ W.cell? ⟨wr.heap.size, 2, none⟩ = some (.int .i64 f3)) (go_keep) (first | (go_at_call 13; refine (ship_to _ v L L' f1 f2 f3 r _ (HOa.out.book.drewN 1) hLs hs.out).mono ?_; rintro e w1 ⟨rfl, hp1⟩; obtain ⟨v', hT1, B1, k1⟩ := (HOa.out.keep ((Keeps.refl _ _).drewN 1)).ship hp1; have hb1 := (HT.out.drewN 1).keeps k1 HS1.out; have d0 := hb1.cell 0 rfl; have d1 := hb1.cell 1 rfl; have d2 := hb1.cell 2 rfl) | (go_at_call 24; refine (rship_to _ u L L' f1 f2 f3 r _ hT1.page hLs hs.out).mono ?_; rintro e w2 ⟨rfl, hp2⟩; obtain ⟨u', hT2, B2, k2⟩ := hT1.rship hp2; have hb2 := hb1.keeps k2 HS2.out; have g0 := hb2.cell 0 rfl; have g1 := hb2.cell 1 rfl; have g2 := hb2.cell 2 rfl))
      have hLL := ship_len _ _ _ _ _ _ hs.out
      have hL1 : L'.length ≤ 1000 := by omega
      have hLi : (L'.length : Int) ≤ 9223372036854775807 := by omega
      have HB2 := Kept.mk ((((HB.out.alloc hbw _).trans (below_draws (Below.refl _ _) 1)).trans B1).trans B2)
      have H2 := Kept.mk hT2
      have Hb2 := Kept.mk hb2
      clear hp1 hp2 hT1 hT2 B1 B2 k1 k2 hb1 d0 d1 d2 hb2 g1 g2
      cases hg : look L' f1 with
      | none =>
        have Hfv : Kept (foundV L' f1 = .tuple #[.agg #[.int .i64 0, .int .i64 0, .int .i64 0], .bool false]) := ⟨by unfold foundV; rw [hg]⟩
        have Hg := Kept.mk hg
        clear hg
        go_wp2_with fail
        refine (has_none _ _ _ f1 _ H2.out.book Hg.out).mono ?_
        rintro e w3 ⟨rfl, k3⟩
        have h3 := H2.out.keep k3
        have hc3 := Hb2.out.keeps k3 (fun h => h)
        have t30 := hc3.cell 0 rfl
        go_wp2_with fail
        refine (rfind_any _ _ _ f1 _ h3.page).mono ?_
        rintro e w4 ⟨rfl, k4⟩
        rw [Hfv.out]
        have H4 := Kept.mk ((h3.keep k4).keep ((Keeps.refl _ w4).alloc (.cells #[.int .i64 0, .int .i64 0, .int .i64 0] 53)))
        have HC4 := Kept.mk ((hc3.keeps k4 (fun h => h)).alloc (.cells #[.int .i64 0, .int .i64 0, .int .i64 0] 53))
        have HP4 := Kept.mk (Blk.new w4 53 [.int .i64 0, .int .i64 0, .int .i64 0])
        have B4 := Kept.mk ((HB2.out.trans (k3.below HB2.out.size (fun _ h => h.elim))).trans (k4.below (Nat.le_trans HB2.out.size k3.size) (fun _ h => h.elim)))
        have q0 := (hc3.keeps k4 (fun h => h)).cell 0 rfl
        have q1 := (hc3.keeps k4 (fun h => h)).cell 1 rfl
        have hq4 := (hc3.keeps k4 (fun h => h)).lt
        have hz4 := B4.out.size
        clear k3 k4 h3 hc3 t30
        go_wp2_with fail
        go_region_held3 (fun W => W.cell? ⟨wr.heap.size, 1, none⟩ = some (.int .i64 f2) ∧ W.cell? ⟨w4.heap.size, 1, none⟩ = some (.int .i64 0) ∧ W.cell? ⟨w4.heap.size, 2, none⟩ = some (.int .i64 0)) (go_keep) (first | (go_at_call 27; refine (went_any _ _ _ f2 _ (H4.out.book.drewN 1)).mono ?_; rintro e w5 ⟨rfl, k5⟩; have h5 := (H4.out.keep ((Keeps.refl _ _).drewN 1)).keep k5; have hc5 := (HC4.out.drewN 1).keeps k5 (fun h => h); have hp5 := (HP4.out.drewN 1).keeps k5 (fun h => h); have s51 := hc5.cell 1 rfl; have s52 := hp5.cell 1 rfl; have s53 := hp5.cell 2 rfl) | (go_at_call 28; refine (rwent_any _ _ _ f2 _ h5.page).mono ?_; rintro e w6 ⟨rfl, k6⟩; have h6 := h5.keep k6; have hc6 := hc5.keeps k6 (fun h => h); have hp6 := hp5.keeps k6 (fun h => h); have s61 := hc6.cell 1 rfl; have s62 := hp6.cell 1 rfl; have s63 := hp6.cell 2 rfl) | (go_at_call 14; refine (ids_any _ _ _ _ h6.book hL1).mono ?_; rintro e w7 ⟨got, rfl, hgot, k7⟩; obtain ⟨ga, gc, rfl, _⟩ := ownsRow_open hgot (by omega); have h7 := h6.keep k7; have hc7 := hc6.keeps k7 (fun h => h); have hp7 := hp6.keeps k7 (fun h => h); have s71 := hc7.cell 1 rfl; have s72 := hp7.cell 1 rfl; have s73 := hp7.cell 2 rfl) | (go_at_call 29; refine (rids_any _ _ _ _ h7.page hL1).mono ?_; rintro e w8 ⟨got2, rfl, hgot2, k8⟩; obtain ⟨gb, gd, rfl, _⟩ := ownsRow_open hgot2 (by omega); have hgk := ownsRow_keeps hgot k8 (fun _ _ h => h); rw [idsOf_eq] at hgk hgot2; have h8 := h7.keep k8; have hc8 := hc7.keeps k8 (fun h => h); have hp8 := hp7.keeps k8 (fun h => h); have s81 := hc8.cell 1 rfl; have s82 := hp8.cell 1 rfl; have s83 := hp8.cell 2 rfl) | (go_at_call 15; refine (same_yes _ _ _ _ _ _ _ (ownsRow_ints hgk) (ownsRow_ints hgot2) hLi).mono ?_; rintro e w9 ⟨rfl, n9, rfl⟩; have s91 := (hc8.drewN n9).cell 1 rfl; have s92 := (hp8.drewN n9).cell 1 rfl; have s93 := (hp8.drewN n9).cell 2 rfl))
        have H9 := Kept.mk (h8.keep ((Keeps.refl _ _).drewN n9))
        have B9 := Kept.mk (B4.out.trans ((((((((Keeps.refl (fun _ => False) w4).alloc _).drewN 1).trans k5).trans k6).trans k7).trans k8).drewN n9 |>.below hz4 (fun _ h => h.elim)))
        clear k5 k6 k7 k8 h5 h6 h7 h8 hc5 hc6 hc7 hc8 hp5 hp6 hp7 hp8 s51 s52 s53 s61 s62 s63 s71 s72 s73 s81 s82 s83 s91 s92 s93 hgot hgot2 hgk
        go_wp2_with fail
        go_roundw
        case rel => exact ⟨k + 1, _, _, L', by omega, by go_num, by omega, by omega, H9.out, B9.out⟩
        case measure => simp [intOf]; omega
      | some y =>
        obtain ⟨y1, y2⟩ := y
        have Hfv : Kept (foundV L' f1 = .tuple #[.agg #[.int .i64 f1, .int .i64 y1, .int .i64 y2], .bool true]) := ⟨by unfold foundV; rw [hg]⟩
        have Hg := Kept.mk hg
        clear hg
        go_wp2_with fail
        refine (has_some _ _ _ f1 y1 y2 _ H2.out.book Hg.out).mono ?_
        rintro e w3 ⟨rfl, k3⟩
        have h3 := H2.out.keep k3
        have hc3 := Hb2.out.keeps k3 (fun h => h)
        have t30 := hc3.cell 0 rfl
        go_wp2_with fail
        refine (rfind_any _ _ _ f1 _ h3.page).mono ?_
        rintro e w4 ⟨rfl, k4⟩
        rw [Hfv.out]
        have H4 := Kept.mk ((h3.keep k4).keep ((Keeps.refl _ w4).alloc (.cells #[.int .i64 f1, .int .i64 y1, .int .i64 y2] 53)))
        have HC4 := Kept.mk ((hc3.keeps k4 (fun h => h)).alloc (.cells #[.int .i64 f1, .int .i64 y1, .int .i64 y2] 53))
        have HP4 := Kept.mk (Blk.new w4 53 [.int .i64 f1, .int .i64 y1, .int .i64 y2])
        have B4 := Kept.mk ((HB2.out.trans (k3.below HB2.out.size (fun _ h => h.elim))).trans (k4.below (Nat.le_trans HB2.out.size k3.size) (fun _ h => h.elim)))
        have q0 := (hc3.keeps k4 (fun h => h)).cell 0 rfl
        have q1 := (hc3.keeps k4 (fun h => h)).cell 1 rfl
        have hq4 := (hc3.keeps k4 (fun h => h)).lt
        have hz4 := B4.out.size
        clear k3 k4 h3 hc3 t30
        go_wp2_with fail
        go_region_held3 (fun W => W.cell? ⟨wr.heap.size, 1, none⟩ = some (.int .i64 f2) ∧ W.cell? ⟨w4.heap.size, 1, none⟩ = some (.int .i64 y1) ∧ W.cell? ⟨w4.heap.size, 2, none⟩ = some (.int .i64 y2)) (go_keep) (first | (go_at_call 27; refine (went_any _ _ _ f2 _ (H4.out.book.drewN 1)).mono ?_; rintro e w5 ⟨rfl, k5⟩; have h5 := (H4.out.keep ((Keeps.refl _ _).drewN 1)).keep k5; have hc5 := (HC4.out.drewN 1).keeps k5 (fun h => h); have hp5 := (HP4.out.drewN 1).keeps k5 (fun h => h); have s51 := hc5.cell 1 rfl; have s52 := hp5.cell 1 rfl; have s53 := hp5.cell 2 rfl) | (go_at_call 28; refine (rwent_any _ _ _ f2 _ h5.page).mono ?_; rintro e w6 ⟨rfl, k6⟩; have h6 := h5.keep k6; have hc6 := hc5.keeps k6 (fun h => h); have hp6 := hp5.keeps k6 (fun h => h); have s61 := hc6.cell 1 rfl; have s62 := hp6.cell 1 rfl; have s63 := hp6.cell 2 rfl) | (go_at_call 14; refine (ids_any _ _ _ _ h6.book hL1).mono ?_; rintro e w7 ⟨got, rfl, hgot, k7⟩; obtain ⟨ga, gc, rfl, _⟩ := ownsRow_open hgot (by omega); have h7 := h6.keep k7; have hc7 := hc6.keeps k7 (fun h => h); have hp7 := hp6.keeps k7 (fun h => h); have s71 := hc7.cell 1 rfl; have s72 := hp7.cell 1 rfl; have s73 := hp7.cell 2 rfl) | (go_at_call 29; refine (rids_any _ _ _ _ h7.page hL1).mono ?_; rintro e w8 ⟨got2, rfl, hgot2, k8⟩; obtain ⟨gb, gd, rfl, _⟩ := ownsRow_open hgot2 (by omega); have hgk := ownsRow_keeps hgot k8 (fun _ _ h => h); rw [idsOf_eq] at hgk hgot2; have h8 := h7.keep k8; have hc8 := hc7.keeps k8 (fun h => h); have hp8 := hp7.keeps k8 (fun h => h); have s81 := hc8.cell 1 rfl; have s82 := hp8.cell 1 rfl; have s83 := hp8.cell 2 rfl) | (go_at_call 15; refine (same_yes _ _ _ _ _ _ _ (ownsRow_ints hgk) (ownsRow_ints hgot2) hLi).mono ?_; rintro e w9 ⟨rfl, n9, rfl⟩; have s91 := (hc8.drewN n9).cell 1 rfl; have s92 := (hp8.drewN n9).cell 1 rfl; have s93 := (hp8.drewN n9).cell 2 rfl))
        have H9 := Kept.mk (h8.keep ((Keeps.refl _ _).drewN n9))
        have B9 := Kept.mk (B4.out.trans ((((((((Keeps.refl (fun _ => False) w4).alloc _).drewN 1).trans k5).trans k6).trans k7).trans k8).drewN n9 |>.below hz4 (fun _ h => h.elim)))
        clear k5 k6 k7 k8 h5 h6 h7 h8 hc5 hc6 hc7 hc8 hp5 hp6 hp7 hp8 s51 s52 s53 s61 s62 s63 s71 s72 s73 s81 s82 s83 s91 s92 s93 hgot hgot2 hgk
        go_wp2_with fail
        go_roundw
        case rel => exact ⟨k + 1, _, _, L', by omega, by go_num, by omega, by omega, H9.out, B9.out⟩
        case measure => simp [intOf]; omega
    · obtain ⟨wo, rfl⟩ : ∃ wo : World, wo = wr := ⟨_, rfl⟩
      have hin : k < len → ∃ bb oo, a = some ⟨bb, oo, none⟩ ∧ wo.cell? ⟨bb, oo + k * 3, none⟩ = some (.int .i64 (fc k).1) ∧ wo.cell? ⟨bb, oo + k * 3 + 1, none⟩ = some (.int .i64 (fc k).2.1) ∧ wo.cell? ⟨bb, oo + k * 3 + 2, none⟩ = some (.int .i64 (fc k).2.2) := by
        intro hlt
        rcases ha with h | h
        · obtain ⟨c0, c1, c2⟩ := Hcell.out k hlt
          rw [← HB.out.cell (p := ⟨b, off + k * 3, none⟩) h.2] at c0
          rw [← HB.out.cell (p := ⟨b, off + k * 3 + 1, none⟩) h.2] at c1
          rw [← HB.out.cell (p := ⟨b, off + k * 3 + 2, none⟩) h.2] at c2
          exact ⟨b, off, h.1, c0, c1, c2⟩
        · omega
      have tail : k < len ∧ (100 : Int) ≤ k ∨ ¬ k < len := by omega
      clear Hcell ha
      rcases tail with ⟨hlt, h100⟩ | hlt
      all_goals
        try
          have hin' := hin hlt
          obtain ⟨bb, oo, rfl, c0, c1, c2⟩ := hin'
        clear hin
        go_wp2_with fail
        refine (awake10_any _).mono ?_
        rintro e w5 ⟨rfl, k5⟩
        go_wp2_with fail
        go_ret
        first | exact ⟨rfl, HB.out.trans (k5.mono HB.out.size)⟩ | exact ⟨rfl, (HB.out.alloc hbw _).trans (k5.mono (by simp; omega))⟩
end Go.Proofs.Ytdbdhcfodolgdaa
