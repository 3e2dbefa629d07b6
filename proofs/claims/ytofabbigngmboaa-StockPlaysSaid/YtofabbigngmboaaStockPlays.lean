/- The law StockPlays, walked. -/
import Derived.Test.YtofabbigngmboaaRStock3
import Derived.Test.YtofabbigngmboaaCall4
import Derived.Test.YtofabbigngmboaaOpen
import Derived.Deep.RegionHeld3
import Derived.Deep.CutBlock
import Derived.Deep.CutRange
import Derived.BigQuiet
namespace Go.Proofs.Ytofabbigngmboaa
open Go.RowKit
theorem IntCells.keeps {w w' : World} {a : Option Addr} {len : Nat} {zs : Nat → Int} (h : IntCells w a len zs) (k : Keeps (fun _ => False) w w') : IntCells w' a len zs := by
  obtain ⟨b, off, ha, hc⟩ := h
  exact ⟨b, off, ha, fun i hi => (k.cell (p := ⟨b, off + i, none⟩) (World.block_lt_of_cell? w _ (hc i hi)) (fun h => h)).trans (hc i hi)⟩
theorem sHas_at (p m : Nat) (s : Sk) (id : Int) (x : Nat) (q : Int) (r : Bool) (w : World) (h : SkAt w p m s) (hx : (s.res id).1 = x) (hq : (s.res id).2 = q) (hr : (MP.get s.L id).isSome = r) : Calls Try.prog 38 #[.pointer (some ⟨p, 0, none⟩), .int .i64 id] w
    (Rets w (fun _ => False) (.tuple #[.int .i64 x, .int .i64 q, .bool r]) fun w' => SkAt w' p m s) := by
  subst hx; subst hq; subst hr; exact sHas_any p m s id w h
/-- The two books in one world, as s says. -/
structure TwoS (b : Nat) (W : World) (s : Sk) : Prop where
  mine : SkAt W (b + 1) b s
  page : RSk W (b + 5) (b + 4) s
  ok : s.Ok
theorem TwoS.quiet {b : Nat} {W W' : World} {s : Sk} (h : TwoS b W s) (k : Keeps (fun _ => False) W W') : TwoS b W' s := ⟨h.mine.keeps k (fun h => h) (fun h => h), h.page.quiet k, h.ok⟩
set_option linter.unusedSimpArgs false in
set_option linter.unusedVariables false in
set_option maxRecDepth 100000 in
set_option maxHeartbeats 16000000 in
theorem splays_any (a0 a1 : Option Addr) (l0 c0 l1 c1 : Nat) (g : Nat → Int) (f : Nat → Int × Int × Int × Int) (w : World) (hg : IntCells w a0 l0 g) (hab : 0 < l0 → ∀ x, a0 = some x → x.block < w.heap.size) (hl0 : (l0 : Int) ≤ 9223372036854775807) (hr : Call4 w a1 l1 f) (hl1 : (l1 : Int) ≤ 9223372036854775807) : Calls Try.prog 11 #[.slice a0 l0 c0, .slice a1 l1 c1] w (Yes w) := by
  by_cases h50 : (50 : Int) < l0
  · clear hg hr
    go_enter Try.func11, Try.ntmps11
    go_wp2_with fail
    refine (awake8_any _).mono ?_
    rintro e w5 ⟨rfl, b5⟩
    go_wp2_with fail
    go_ret
    exact ⟨rfl, b5⟩
  obtain ⟨gb, off, ha, hcell⟩ := hr
  have Hcell := Kept.mk hcell
  obtain ⟨s0, hs0⟩ : ∃ s0, Sk.new g l0 = s0 := ⟨_, rfl⟩
  have HN := Kept.mk (stockNew_to a0 l0 c0 g s0 w hg hl0 hab hs0)
  have HG := Kept.mk hg
  have HAB := Kept.mk hab
  have Hs0 := Kept.mk hs0
  have Hok : Kept s0.Ok := ⟨by rw [← hs0]; exact Sk.new_ok g l0⟩
  have HL0 := Kept.mk hl0
  clear hcell hg hab hs0 hl0
  go_enter Try.func11, Try.ntmps11
  go_wp2_with fail
  refine HN.out.mono ?_
  rintro e w1 ⟨rfl, ⟨h1, z1⟩, k1⟩
  have HN2 := Kept.mk (rsnew_to a0 l0 c0 g w1 (HG.out.keeps k1) (fun h x hx => Nat.lt_of_lt_of_le (HAB.out h x hx) k1.size))
  rw [Hs0.out, z1] at HN2
  have H1 := Kept.mk h1
  have K1 := Kept.mk k1
  clear h1 k1 HN
  go_wp2_with fail
  refine HN2.out.mono ?_
  rintro e w2 ⟨rfl, ⟨h2, z2⟩, k2⟩
  have G2 : Kept (TwoS w.heap.size w2 s0) := ⟨⟨H1.out.keeps k2 (fun h => h) (fun h => h), h2, Hok.out⟩⟩
  have B2 : Kept (Below w.heap.size w w2) := ⟨(K1.out.trans k2).below (Nat.le_refl _) (fun _ h => h.elim)⟩
  clear H1 K1 h2 k2 HN2 Hok Hs0 z1 z2
  go_wp2_with fail
  obtain ⟨b, hb⟩ : ∃ b, w.heap.size = b := ⟨_, rfl⟩
  have HBW := Kept.mk hb
  rw [hb] at G2 B2 ha
  simp only [hb]
  clear hb
  go_loopw [27] (fun i wr => ∃ (k : Nat) (s : Sk), k ≤ l1 ∧ k ≤ 100 ∧ i = .int .i64 k ∧ Kept (TwoS b wr s) ∧ Kept (Below b w wr)) (fun i _ => (l1 - (intOf i).toNat))
  case atStart => exact ⟨0, s0, by omega, by omega, rfl, G2, B2⟩
  case round =>
    clear G2 B2
    obtain ⟨k, s, hk, hk100, rfl, HT, HB⟩ := hrel
    have hbw : b ≤ wr.heap.size := by have h1 := HB.out.size; have := HBW.out; omega
    have HZ : Kept (b + 5 < wr.heap.size) := ⟨HT.out.page.cells.lt⟩
    by_cases hlt : k < l1
    · have hki : (k : Int) < l1 := by omega
      obtain ⟨rfl, hbl⟩ : a1 = some ⟨gb, off, none⟩ ∧ gb < b := ha.resolve_right (by omega)
      obtain ⟨c0', c1', c2', c3'⟩ := Hcell.out k hlt
      rw [← HB.out.cell (p := ⟨gb, off + k * 4, none⟩) hbl] at c0'
      rw [← HB.out.cell (p := ⟨gb, off + k * 4 + 1, none⟩) hbl] at c1'
      rw [← HB.out.cell (p := ⟨gb, off + k * 4 + 2, none⟩) hbl] at c2'
      rw [← HB.out.cell (p := ⟨gb, off + k * 4 + 3, none⟩) hbl] at c3'
      generalize (f k).1 = dd at c0'
      generalize (f k).2.1 = id at c1'
      generalize (f k).2.2.1 = it at c2'
      generalize (f k).2.2.2 = qt at c3'
      by_cases h100 : k < 100
      · have h1i : ¬ (100 : Int) ≤ k := by omega
        obtain ⟨wc0, hwc0⟩ : ∃ wc0, wr.alloc (.cells #[.int .i64 dd, .int .i64 id, .int .i64 it, .int .i64 qt] 56) = wc0 := ⟨_, rfl⟩
        have KX : Kept (Keeps (fun _ => False) wr wc0) := ⟨by rw [← hwc0]; exact (Keeps.refl _ _).alloc _⟩
        have HT2 := Kept.mk (HT.out.quiet KX.out)
        have HX : Kept (Blk wc0 wr.heap.size 56 [.int .i64 dd, .int .i64 id, .int .i64 it, .int .i64 qt]) := ⟨by rw [← hwc0]; exact Blk.new2 wr _ _ _ rfl⟩
        obtain ⟨X, hX⟩ : ∃ X, wr.heap.size = X := ⟨_, rfl⟩
        rw [hX] at HX
        have HXN : Kept ((¬ (X = b + 1 ∨ X = b)) ∧ ¬ (X = b + 5 ∨ X = b + 4)) := ⟨by have := HZ.out; omega⟩
        have HBc : Kept (Below b w wc0) := ⟨HB.out.trans (KX.out.below hbw (fun _ h => h.elim))⟩
        have hwl := HX.out.lt
        have x0 := HX.out.cell 0 rfl
        have x1 := HX.out.cell 1 rfl
        have x2 := HX.out.cell 2 rfl
        have x3 := HX.out.cell 3 rfl
        go_upto_block 2 with fail
        clear hwc0 hX KX c0' c1' c2' c3' HT HB HZ
        have hbc : b ≤ wc0.heap.size := by have := HBc.out.size; have := HBW.out; omega
        go_cut [9] from 36 to 74 (fun z wc => ∃ s' : Sk, z = .bool true ∧ Kept (TwoS b wc s') ∧ Kept (Blk wc X 56 [.int .i64 dd, .int .i64 id, .int .i64 it, .int .i64 qt]) ∧ Kept (Below b w wc))
        case first =>
          by_cases h0 : dd = 0
          · subst h0
            obtain ⟨r, s', hs⟩ : ∃ r s', s.commit id = (r, s') := ⟨_, _, rfl⟩
            have hok' : s'.Ok := by have h1 := Sk.commit_ok HT2.out.ok id; rw [hs] at h1; exact h1
            have HS := Kept.mk hs
            have HOK := Kept.mk hok'
            clear hs hok'
            have s90 := HX.out.drew.cell 1 rfl
            have s91 := HX.out.drew.cell 2 rfl
            have s92 := HX.out.drew.cell 3 rfl
            go_wp2_with fail
            go_region_held3 (fun W => W.cell? ⟨X, 1, none⟩ = some (.int .i64 id)) (go_keep) (first
              | (go_at_call 35; refine (rscommit_to (b + 5) (b + 4) s s' id r _ p4 HT2.out.ok HS.out).mono ?_; rintro e w5 ⟨rfl, h5, k5⟩; have g5 := g4.keeps k5 HXN.out.2; have d5 := g5.cell 1 rfl; have d6 := g5.cell 2 rfl; have d7 := g5.cell 3 rfl)
              | (go_at_call 30; refine (commit_to (b + 1) b s s' id r _ (HT2.out.mine.drewN 1) HT2.out.ok HS.out).mono ?_; rintro e w4 ⟨rfl, h4, k4⟩; have g4 := (HX.out.drewN 1).keeps k4 HXN.out.1; have d4 := g4.cell 1 rfl; have d8 := g4.cell 2 rfl; have d9 := g4.cell 3 rfl; have p4 := (HT2.out.page.quiet ((Keeps.refl (fun _ => False) wc0).drewN 1)).keeps k4 (by omega) (by omega)))
            all_goals
              have H5 : Kept (TwoS b w5 s') := ⟨⟨h4.keeps k5 (by omega) (by omega), h5, HOK.out⟩⟩
              have HX5 := Kept.mk g5
              have B5 : Kept (Below b w w5) := ⟨(HBc.out.trans (((Keeps.refl (fun k => k = b + 1 ∨ k = b) wc0).drewN 1).trans k4 |>.below hbc (fun i h => by omega))).trans (k5.below (Nat.le_trans hbc k4.size) (fun i h => by omega))⟩
              clear h5 k5 h4 k4 g4 d4 g5 d5 d6 d7 d8 d9 p4 s90 s91 s92
              go_wp2_with fail
              go_meet
              exact ⟨_, rfl, H5, HX5, B5⟩
          · have hn0 : (dd == 0) = false := by simpa using h0
            by_cases h1 : dd = 1
            · subst h1
              obtain ⟨r, s', hs⟩ : ∃ r s', s.release id = (r, s') := ⟨_, _, rfl⟩
              have hok' : s'.Ok := by have h1 := Sk.release_ok HT2.out.ok id; rw [hs] at h1; exact h1
              have HS := Kept.mk hs
              have HOK := Kept.mk hok'
              clear hs hok'
              have s90 := HX.out.drew.cell 1 rfl
              have s91 := HX.out.drew.cell 2 rfl
              have s92 := HX.out.drew.cell 3 rfl
              go_wp2_with fail
              go_region_held3 (fun W => W.cell? ⟨X, 1, none⟩ = some (.int .i64 id)) (go_keep) (first
                | (go_at_call 36; refine (rsrelease_to (b + 5) (b + 4) s s' id r _ p4 HT2.out.ok HS.out).mono ?_; rintro e w5 ⟨rfl, h5, k5⟩; have g5 := g4.keeps k5 HXN.out.2; have d5 := g5.cell 1 rfl; have d6 := g5.cell 2 rfl; have d7 := g5.cell 3 rfl)
                | (go_at_call 31; refine (release_to (b + 1) b s s' id r _ (HT2.out.mine.drewN 1) HT2.out.ok HS.out).mono ?_; rintro e w4 ⟨rfl, h4, k4⟩; have g4 := (HX.out.drewN 1).keeps k4 HXN.out.1; have d4 := g4.cell 1 rfl; have d8 := g4.cell 2 rfl; have d9 := g4.cell 3 rfl; have p4 := (HT2.out.page.quiet ((Keeps.refl (fun _ => False) wc0).drewN 1)).keeps k4 (by omega) (by omega)))
              all_goals
                have H5 : Kept (TwoS b w5 s') := ⟨⟨h4.keeps k5 (by omega) (by omega), h5, HOK.out⟩⟩
                have HX5 := Kept.mk g5
                have B5 : Kept (Below b w w5) := ⟨(HBc.out.trans (((Keeps.refl (fun k => k = b + 1 ∨ k = b) wc0).drewN 1).trans k4 |>.below hbc (fun i h => by omega))).trans (k5.below (Nat.le_trans hbc k4.size) (fun i h => by omega))⟩
                clear h5 k5 h4 k4 g4 d4 g5 d5 d6 d7 d8 d9 p4 s90 s91 s92
                go_wp2_with fail
                go_meet
                exact ⟨_, rfl, H5, HX5, B5⟩
            · have hn1 : (dd == 1) = false := by simpa using h1
              obtain ⟨r, s', hs⟩ : ∃ r s', s.reserve id it qt = (r, s') := ⟨_, _, rfl⟩
              have hok' : s'.Ok := by have h1 := Sk.reserve_ok HT2.out.ok id it qt; rw [hs] at h1; exact h1
              have HS := Kept.mk hs
              have HOK := Kept.mk hok'
              clear hs hok'
              have s90 := HX.out.drew.cell 1 rfl
              have s91 := HX.out.drew.cell 2 rfl
              have s92 := HX.out.drew.cell 3 rfl
              go_wp2_with fail
              go_region_held3 (fun W => W.cell? ⟨X, 1, none⟩ = some (.int .i64 id) ∧ W.cell? ⟨X, 2, none⟩ = some (.int .i64 it) ∧ W.cell? ⟨X, 3, none⟩ = some (.int .i64 qt)) (go_keep) (first
                | (go_at_call 37; refine (rsreserve_to (b + 5) (b + 4) s s' id it qt r _ p4 HT2.out.ok HS.out).mono ?_; rintro e w5 ⟨rfl, h5, k5⟩; have g5 := g4.keeps k5 HXN.out.2; have d5 := g5.cell 1 rfl; have d6 := g5.cell 2 rfl; have d7 := g5.cell 3 rfl)
                | (go_at_call 28; refine (reserve_to (b + 1) b s s' id it qt r _ (HT2.out.mine.drewN 1) HT2.out.ok HS.out).mono ?_; rintro e w4 ⟨rfl, h4, k4⟩; have g4 := (HX.out.drewN 1).keeps k4 HXN.out.1; have d4 := g4.cell 1 rfl; have d8 := g4.cell 2 rfl; have d9 := g4.cell 3 rfl; have p4 := (HT2.out.page.quiet ((Keeps.refl (fun _ => False) wc0).drewN 1)).keeps k4 (by omega) (by omega)))
              all_goals
                have H5 : Kept (TwoS b w5 s') := ⟨⟨h4.keeps k5 (by omega) (by omega), h5, HOK.out⟩⟩
                have HX5 := Kept.mk g5
                have B5 : Kept (Below b w w5) := ⟨(HBc.out.trans (((Keeps.refl (fun k => k = b + 1 ∨ k = b) wc0).drewN 1).trans k4 |>.below hbc (fun i h => by omega))).trans (k5.below (Nat.le_trans hbc k4.size) (fun i h => by omega))⟩
                clear h5 k5 h4 k4 g4 d4 g5 d5 d6 d7 d8 d9 p4 s90 s91 s92
                go_wp2_with fail
                go_meet
                exact ⟨_, rfl, H5, HX5, B5⟩
        case rest =>
        obtain ⟨s', rfl, HT5, HX5, HB5⟩ := hcut
        clear HT2 HX HBc x0 x1 x2 x3 hwl hbc
        obtain ⟨j, hj⟩ : ∃ j, (s'.res id).1 = j := ⟨_, rfl⟩
        obtain ⟨y, hy⟩ : ∃ y, (s'.res id).2 = y := ⟨_, rfl⟩
        obtain ⟨is, his⟩ : ∃ is, (MP.get s'.L id).isSome = is := ⟨_, rfl⟩
        have hyis : (decide (0 < y)) = is := by
          rw [← hy, ← his]
          unfold Sk.res
          cases hg : MP.get s'.L id with
          | none => rfl
          | some v =>
            have h1 := (HT5.out.ok.vals _ (mem_of_get hg)).2.1
            simp only at h1
            simp only [Option.getD_some, Option.isSome_some, decide_eq_true_eq]
            omega
        have hres : (MP.get s'.L id).getD (0, 0) = (j, y) := by
          have h1 : s'.res id = (j, y) := by rw [← hj, ← hy]
          exact h1
        have HHas := Kept.mk (sHas_at (b + 1) b s' id j y is wc HT5.out.mine (by rw [hj]) hy his)
        have HY := Kept.mk hyis
        have HRes := Kept.mk hres
        have z1 := HX5.out.cell 1 rfl
        have hwl := HX5.out.lt
        clear hj hy his hyis hres
        go_wp2_with fail
        refine HHas.out.mono ?_
        rintro e w6 ⟨rfl, h6, k6⟩
        have HT6 : Kept (TwoS b w6 s') := ⟨⟨h6, HT5.out.page.quiet k6, HT5.out.ok⟩⟩
        have HX6 := Kept.mk (HX5.out.keeps k6 (fun h => h))
        have hbc5 : b ≤ wc.heap.size := by have := HB5.out.size; have := HBW.out; omega
        have HB6 : Kept (Below b w w6) := ⟨HB5.out.trans (k6.below hbc5 (fun _ h => h.elim))⟩
        have hlk : ∀ n, (Instr.lookup 67 (.map (some (b + 4))) (.int .i64 id) false).run Try.prog (w6.drewN n) = .ok (.agg #[.int .i64 j, .int .i64 y]) (w6.drewN n) := fun n => by
          have h1 := lookClaim (HT6.out.page.map.drewN n) id
          rw [HRes.out] at h1
          exact h1
        have hlk0 := hlk 0
        have hlk1 := hlk 1
        have hq8 := HT6.out.page.cells.cell 8 rfl
        have x1 := HX6.out.cell 1 rfl
        have hf0 := fieldClaim0
        have hf1 := fieldClaim
        have hwl6 := HX6.out.lt
        clear h6 k6 HT5 HX5 HB5 HHas z1 hwl hbc5
        have hyy := HY.out
        rw [← hyy]
        clear hyy
        by_cases hy0 : 0 < y
        · have hyd : decide (0 < y) = true := decide_eq_true hy0
          rw [hyd]
          go_wp2_with fail
          go_quiet (fail)
          go_wp2_with fail
          go_loopw [13] (fun i wz => ∃ K : Int, -1 ≤ K ∧ K ≤ 9 ∧ i = .int .i64 K ∧ Kept (TwoS b wz s') ∧ Kept (Below b w wz)) (fun i _ => (9 - intOf i).toNat)
          case atStart => exact ⟨-1, by omega, by omega, rfl, ⟨HT6.out.quiet ((Keeps.refl _ _).drewN _)⟩, ⟨below_draws HB6.out _⟩⟩
          case round =>
            clear HT6 HB6 HX6 hlk hlk0 hlk1 hq8 x1
            obtain ⟨K, hKl, hKu, rfl, HTz, HBz⟩ := hrel
            by_cases hK9 : K ≤ 8
            · by_cases hK0 : 0 ≤ K
              · by_cases hK8 : K < 8
                · have ck := HTz.out.page.cells.cell K.toNat (rsCells_hand s' (b + 4) (by omega))
                  obtain ⟨hv, hhv⟩ : ∃ hv, s'.hand K.toNat = hv := ⟨_, rfl⟩
                  obtain ⟨fv, hfv⟩ : ∃ fv, s'.free K.toNat = fv := ⟨_, rfl⟩
                  rw [hhv] at ck
                  have HOn := Kept.mk (Sk.onHand_in hK0 hK8 hhv)
                  have HFr := Kept.mk (Sk.freeOf_in hK0 hK8 hfv)
                  have hql := HTz.out.page.cells.lt
                  clear hhv hfv
                  go_wp2_with fail
                  refine (onHand_to (b + 1) b s' K hv _ HTz.out.mine HOn.out).mono ?_
                  rintro e _ ⟨rfl, rfl⟩
                  go_wp2_with fail
                  refine (free_to (b + 1) b s' K fv _ HTz.out.mine HFr.out).mono ?_
                  rintro e _ ⟨rfl, rfl⟩
                  go_wp2_with fail
                  refine (rsfree_to (b + 5) (b + 4) s' K fv _ HTz.out.page HTz.out.ok HFr.out).mono ?_
                  rintro e w7 ⟨rfl, h7, k7⟩
                  have HT7 : Kept (TwoS b w7 s') := ⟨⟨HTz.out.mine.keeps k7 (fun h => h) (fun h => h), h7, HTz.out.ok⟩⟩
                  have HB7 : Kept (Below b w w7) := ⟨HBz.out.trans (k7.below (by have := HBz.out.size; have := HBW.out; omega) (fun _ h => h.elim))⟩
                  clear h7 k7
                  go_wp2_with fail
                  go_roundw
                  case rel => exact ⟨K + 1, by omega, by omega, by go_num, HT7, HB7⟩
                  case measure => simp [intOf]; omega
                · have HOn : Kept (s'.onHand K = 0) := ⟨by unfold Sk.onHand; rw [if_neg (by simp [itemB]; omega)]⟩
                  have HFr : Kept (s'.freeOf K = 0) := ⟨by unfold Sk.freeOf; rw [if_neg (by simp [itemB]; omega)]⟩
                  go_wp2_with fail
                  refine (onHand_to (b + 1) b s' K 0 _ HTz.out.mine HOn.out).mono ?_
                  rintro e _ ⟨rfl, rfl⟩
                  go_wp2_with fail
                  refine (free_to (b + 1) b s' K 0 _ HTz.out.mine HFr.out).mono ?_
                  rintro e _ ⟨rfl, rfl⟩
                  go_wp2_with fail
                  refine (rsfree_to (b + 5) (b + 4) s' K 0 _ HTz.out.page HTz.out.ok HFr.out).mono ?_
                  rintro e w7 ⟨rfl, h7, k7⟩
                  have HT7 : Kept (TwoS b w7 s') := ⟨⟨HTz.out.mine.keeps k7 (fun h => h) (fun h => h), h7, HTz.out.ok⟩⟩
                  have HB7 : Kept (Below b w w7) := ⟨HBz.out.trans (k7.below (by have := HBz.out.size; have := HBW.out; omega) (fun _ h => h.elim))⟩
                  clear h7 k7
                  go_wp2_with fail
                  go_roundw
                  case rel => exact ⟨K + 1, by omega, by omega, by go_num, HT7, HB7⟩
                  case measure => simp [intOf]; omega
              · have HOn : Kept (s'.onHand K = 0) := ⟨by unfold Sk.onHand; rw [if_neg (by simp [itemB]; omega)]⟩
                have HFr : Kept (s'.freeOf K = 0) := ⟨by unfold Sk.freeOf; rw [if_neg (by simp [itemB]; omega)]⟩
                go_wp2_with fail
                refine (onHand_to (b + 1) b s' K 0 _ HTz.out.mine HOn.out).mono ?_
                rintro e _ ⟨rfl, rfl⟩
                go_wp2_with fail
                refine (free_to (b + 1) b s' K 0 _ HTz.out.mine HFr.out).mono ?_
                rintro e _ ⟨rfl, rfl⟩
                go_wp2_with fail
                refine (rsfree_to (b + 5) (b + 4) s' K 0 _ HTz.out.page HTz.out.ok HFr.out).mono ?_
                rintro e w7 ⟨rfl, h7, k7⟩
                have HT7 : Kept (TwoS b w7 s') := ⟨⟨HTz.out.mine.keeps k7 (fun h => h) (fun h => h), h7, HTz.out.ok⟩⟩
                have HB7 : Kept (Below b w w7) := ⟨HBz.out.trans (k7.below (by have := HBz.out.size; have := HBW.out; omega) (fun _ h => h.elim))⟩
                clear h7 k7
                go_wp2_with fail
                go_roundw
                case rel => exact ⟨K + 1, by omega, by omega, by go_num, HT7, HB7⟩
                case measure => simp [intOf]; omega
            · go_wp2_with fail
              go_roundw
              case rel => exact ⟨k + 1, s', by omega, by omega, by go_num, HTz, HBz⟩
              case measure => simp [intOf]; omega
        · have hyd : decide (0 < y) = false := decide_eq_false hy0
          rw [hyd]
          go_wp2_with fail
          go_quiet (fail)
          go_wp2_with fail
          go_loopw [13] (fun i wz => ∃ K : Int, -1 ≤ K ∧ K ≤ 9 ∧ i = .int .i64 K ∧ Kept (TwoS b wz s') ∧ Kept (Below b w wz)) (fun i _ => (9 - intOf i).toNat)
          case atStart => exact ⟨-1, by omega, by omega, rfl, ⟨HT6.out.quiet ((Keeps.refl _ _).drewN _)⟩, ⟨below_draws HB6.out _⟩⟩
          case round =>
            clear HT6 HB6 HX6 hlk hlk0 hlk1 hq8 x1
            obtain ⟨K, hKl, hKu, rfl, HTz, HBz⟩ := hrel
            by_cases hK9 : K ≤ 8
            · by_cases hK0 : 0 ≤ K
              · by_cases hK8 : K < 8
                · have ck := HTz.out.page.cells.cell K.toNat (rsCells_hand s' (b + 4) (by omega))
                  obtain ⟨hv, hhv⟩ : ∃ hv, s'.hand K.toNat = hv := ⟨_, rfl⟩
                  obtain ⟨fv, hfv⟩ : ∃ fv, s'.free K.toNat = fv := ⟨_, rfl⟩
                  rw [hhv] at ck
                  have HOn := Kept.mk (Sk.onHand_in hK0 hK8 hhv)
                  have HFr := Kept.mk (Sk.freeOf_in hK0 hK8 hfv)
                  have hql := HTz.out.page.cells.lt
                  clear hhv hfv
                  go_wp2_with fail
                  refine (onHand_to (b + 1) b s' K hv _ HTz.out.mine HOn.out).mono ?_
                  rintro e _ ⟨rfl, rfl⟩
                  go_wp2_with fail
                  refine (free_to (b + 1) b s' K fv _ HTz.out.mine HFr.out).mono ?_
                  rintro e _ ⟨rfl, rfl⟩
                  go_wp2_with fail
                  refine (rsfree_to (b + 5) (b + 4) s' K fv _ HTz.out.page HTz.out.ok HFr.out).mono ?_
                  rintro e w7 ⟨rfl, h7, k7⟩
                  have HT7 : Kept (TwoS b w7 s') := ⟨⟨HTz.out.mine.keeps k7 (fun h => h) (fun h => h), h7, HTz.out.ok⟩⟩
                  have HB7 : Kept (Below b w w7) := ⟨HBz.out.trans (k7.below (by have := HBz.out.size; have := HBW.out; omega) (fun _ h => h.elim))⟩
                  clear h7 k7
                  go_wp2_with fail
                  go_roundw
                  case rel => exact ⟨K + 1, by omega, by omega, by go_num, HT7, HB7⟩
                  case measure => simp [intOf]; omega
                · have HOn : Kept (s'.onHand K = 0) := ⟨by unfold Sk.onHand; rw [if_neg (by simp [itemB]; omega)]⟩
                  have HFr : Kept (s'.freeOf K = 0) := ⟨by unfold Sk.freeOf; rw [if_neg (by simp [itemB]; omega)]⟩
                  go_wp2_with fail
                  refine (onHand_to (b + 1) b s' K 0 _ HTz.out.mine HOn.out).mono ?_
                  rintro e _ ⟨rfl, rfl⟩
                  go_wp2_with fail
                  refine (free_to (b + 1) b s' K 0 _ HTz.out.mine HFr.out).mono ?_
                  rintro e _ ⟨rfl, rfl⟩
                  go_wp2_with fail
                  refine (rsfree_to (b + 5) (b + 4) s' K 0 _ HTz.out.page HTz.out.ok HFr.out).mono ?_
                  rintro e w7 ⟨rfl, h7, k7⟩
                  have HT7 : Kept (TwoS b w7 s') := ⟨⟨HTz.out.mine.keeps k7 (fun h => h) (fun h => h), h7, HTz.out.ok⟩⟩
                  have HB7 : Kept (Below b w w7) := ⟨HBz.out.trans (k7.below (by have := HBz.out.size; have := HBW.out; omega) (fun _ h => h.elim))⟩
                  clear h7 k7
                  go_wp2_with fail
                  go_roundw
                  case rel => exact ⟨K + 1, by omega, by omega, by go_num, HT7, HB7⟩
                  case measure => simp [intOf]; omega
              · have HOn : Kept (s'.onHand K = 0) := ⟨by unfold Sk.onHand; rw [if_neg (by simp [itemB]; omega)]⟩
                have HFr : Kept (s'.freeOf K = 0) := ⟨by unfold Sk.freeOf; rw [if_neg (by simp [itemB]; omega)]⟩
                go_wp2_with fail
                refine (onHand_to (b + 1) b s' K 0 _ HTz.out.mine HOn.out).mono ?_
                rintro e _ ⟨rfl, rfl⟩
                go_wp2_with fail
                refine (free_to (b + 1) b s' K 0 _ HTz.out.mine HFr.out).mono ?_
                rintro e _ ⟨rfl, rfl⟩
                go_wp2_with fail
                refine (rsfree_to (b + 5) (b + 4) s' K 0 _ HTz.out.page HTz.out.ok HFr.out).mono ?_
                rintro e w7 ⟨rfl, h7, k7⟩
                have HT7 : Kept (TwoS b w7 s') := ⟨⟨HTz.out.mine.keeps k7 (fun h => h) (fun h => h), h7, HTz.out.ok⟩⟩
                have HB7 : Kept (Below b w w7) := ⟨HBz.out.trans (k7.below (by have := HBz.out.size; have := HBW.out; omega) (fun _ h => h.elim))⟩
                clear h7 k7
                go_wp2_with fail
                go_roundw
                case rel => exact ⟨K + 1, by omega, by omega, by go_num, HT7, HB7⟩
                case measure => simp [intOf]; omega
            · go_wp2_with fail
              go_roundw
              case rel => exact ⟨k + 1, s', by omega, by omega, by go_num, HTz, HBz⟩
              case measure => simp [intOf]; omega
      · have h1i : (100 : Int) ≤ k := by omega
        go_wp2_with fail
        refine (awake8_any _).mono ?_
        rintro e w5 ⟨rfl, b5⟩
        go_wp2_with fail
        go_ret
        exact ⟨rfl, by rw [HBW.out]; exact (HB.out.alloc hbw _).trans (b5.mono (by simp; omega))⟩
    · obtain rfl : k = l1 := by omega
      have hkl : ¬ (k : Int) < (k : Int) := by omega
      go_wp2_with fail
      refine (awake8_any _).mono ?_
      rintro e w5 ⟨rfl, b5⟩
      go_wp2_with fail
      go_ret
      exact ⟨rfl, by rw [HBW.out]; exact HB.out.trans (b5.mono hbw)⟩
end Go.Proofs.Ytofabbigngmboaa
