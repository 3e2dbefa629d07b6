/- The law PostPlays, walked. -/
import Derived.Test.YtkacnogjifhcoaaTwoPost
import Derived.Test.YtkacnogjifhcoaaPAll
import Derived.Test.YtkacnogjifhcoaaSameMs
import Derived.Deep.RegionHeld3
import Derived.Deep.CutBlock
import Derived.Deep.CutRange
namespace Go.Proofs.Ytkacnogjifhcoaa
open Go.RowKit
theorem all_at (p : Value) (x : Int) (n : Nat) (L : List Ms) (w : World) (hx : x = n) (hn : n ≤ 100000) (hL : L.length ≤ 100000)
    (hI : ∀ w1, Keeps (fun _ => False) w w1 → Calls Try.prog 44 #[p] w1 fun e w2 => ∃ v, e = .returned v ∧ AllTo w1 w2 v L) :
    Calls Try.prog 30 #[p, .int .i64 x] w (fun e w' => (∃ v, e = .returned v ∧ MsOwn w' w.heap.size v (L.take n)) ∧ Keeps (fun _ => False) w w') := by
  subst hx
  exact all_list p n L w hn hL hI
/-- Both posts as s says. -/
structure TwoAt (b : Nat) (W : World) (p q most : Nat) (s : List Ms × Nat) (v : Value) : Prop where
  post : PostAt W p p most s.2 v s.1
  page : RPostAt W (FvP p q v) q most s.2 s.1
  pq : p < q
  vq : v.ownBlock ≠ some q
  qw : q < W.heap.size
  bp : b ≤ p
theorem TwoAt.call {b : Nat} {W : World} {p q most : Nat} {s : List Ms × Nat} {v : Value} (h : TwoAt b W p q most s v) (o : Obj) : Two2 (W.alloc o) p q W.heap.size most s s v := by
  have k := (Keeps.refl (fun _ => False) W).alloc o
  have a := h.post.blk.lt
  have b := h.qw
  exact ⟨h.post.quiet k, h.page.quiet k, h.pq, h.vq, by omega, by omega, fun e => by have := (h.post.own.lt _ e).2; omega, by simp, Nat.lt_of_lt_of_le h.qw k.size⟩
theorem TwoAt.quiet {b : Nat} {W W' : World} {p q most : Nat} {s : List Ms × Nat} {v : Value} (h : TwoAt b W p q most s v) (k : Keeps (fun _ => False) W W') : TwoAt b W' p q most s v := ⟨h.post.quiet k, h.page.quiet k, h.pq, h.vq, Nat.lt_of_lt_of_le h.qw k.size, h.bp⟩
theorem Two2.at {b : Nat} {W : World} {p q X most : Nat} {s : List Ms × Nat} {v : Value} (h : Two2 W p q X most s s v) (hb : b ≤ p) : TwoAt b W p q most s v := ⟨h.post, h.page, h.pq, h.vq, h.qw, hb⟩
theorem PCallRow.below {w w' : World} {a : Option Addr} {C : List PCall} (h : PCallRow w a C) (k : Below w.heap.size w w') : PCallRow w' a C := h.keeps (Keeps.of_below k _)
set_option linter.unusedSimpArgs false in
set_option linter.unusedVariables false in
set_option maxRecDepth 100000 in
set_option maxHeartbeats 16000000 in
theorem plays17_any (x st : Int) (a : Option Addr) (c : Nat) (C : List PCall) (w : World) (hC : PCallRow w a C) (hl : (C.length : Int) ≤ 9223372036854775807) : Calls Try.prog 10 #[.int .i64 x, .slice a C.length c, .int .i64 st] w (Yes w) := by
  have HC := Kept.mk hC
  have hS := mod_range st 5 (by omega) (by omega)
  obtain ⟨n, hn⟩ : ∃ n, C.length = n := ⟨_, rfl⟩
  have hfew := few17_to a c C w hC hl
  rw [hn] at hl hfew
  have HN := Kept.mk hn
  rw [hn]
  have HFew := Kept.mk hfew
  clear hC hn hfew
  go_enter Try.func10, Try.ntmps10
  go_wp2_with fail
  refine HFew.out.mono ?_
  rintro e w1 ⟨r, rfl, hr, k1⟩
  have K1 := Kept.mk k1
  have HR := Kept.mk hr
  clear hr k1 HFew
  cases r
  · go_wp2_with fail
    refine (awake17_any _).mono ?_
    rintro e w5 ⟨rfl, b5⟩
    go_wp2_with fail
    go_ret
    exact ⟨rfl, (K1.out.below (Nat.le_refl _) (fun _ h => h.elim)).trans (b5.mono K1.out.size)⟩
  have HFC : Kept (FewC C) := ⟨HR.out rfl⟩
  clear HR
  go_wp2_with fail
  refine (pnew_to x _).mono ?_
  rintro e w2 ⟨rfl, h2, k2⟩
  have H2 := Kept.mk h2
  have K2 := Kept.mk k2
  have hpl := h2.blk.lt
  clear h2 k2
  go_wp2_with fail
  refine (rpnew_to (FvP w1.heap.size w2.heap.size (.slice none 0 0)) x _).mono ?_
  rintro e w3 ⟨rfl, h3, k3⟩
  have H3 : Kept (TwoAt w.heap.size w3 w1.heap.size w2.heap.size (mostOf x) ([], 0) (.slice none 0 0)) := ⟨H2.out.quiet k3, h3, hpl, by simp [Value.ownBlock], by obtain ⟨_, _, h4, _⟩ := h3; exact h4.lt, K1.out.size⟩
  have B3 : Kept (Below w.heap.size w w3) := ⟨((K1.out.trans K2.out).trans k3).below (Nat.le_refl _) (fun _ h => h.elim)⟩
  clear h3 k3 K1 K2 H2
  go_wp2_with fail
  generalize wrap64 ((IntKind.u64.wrap st).tmod 5) = S at hS ⊢
  obtain ⟨sn, rfl⟩ : ∃ sn : Nat, S = sn := ⟨S.toNat, by omega⟩
  obtain ⟨p, hp⟩ : ∃ p, w1.heap.size = p := ⟨_, rfl⟩
  obtain ⟨q, hq⟩ : ∃ q, w2.heap.size = q := ⟨_, rfl⟩
  rw [hp, hq] at H3
  rw [hp, hq]
  obtain ⟨most, hmost⟩ : ∃ m, mostOf x = m := ⟨_, rfl⟩
  rw [hmost] at H3
  clear hp hq hpl hmost
  go_loopw [32] (fun i wr => ∃ (k : Nat) (s : List Ms × Nat) (v : Value), k ≤ n ∧ i = .int .i64 k ∧ Kept (TwoAt w.heap.size wr p q most s v) ∧ Kept (Below w.heap.size w wr)) (fun i _ => n - (intOf i).toNat)
  case atStart => exact ⟨0, _, _, Nat.zero_le _, rfl, H3, B3⟩
  case round =>
    clear H3 B3
    obtain ⟨k, s, v, hk, rfl, HT, HB⟩ := hrel
    have hbw := HB.out.size
    by_cases hlt : k < n
    · have hki : (k : Int) < n := by omega
      obtain ⟨y, hy⟩ : ∃ y, C[k]? = some y := ⟨_, List.getElem?_eq_getElem (by rw [HN.out]; exact hlt)⟩
      obtain ⟨g, off, rfl, hg, hyy⟩ := HC.out.below HB.out k y hy
      have c0 := hyy.c0
      have c1 := hyy.c1
      have c2 := hyy.c2
      have HRow := Kept.mk hyy.row
      have HY6 : Kept (y.L.length ≤ 600) := ⟨HFC.out.2 y (List.mem_of_getElem? hy)⟩
      have HYb : Kept (y.L ≠ [] → ∀ z, y.a = some z → z.block < p) := ⟨fun hne z hz => by
        obtain ⟨g', off', _, _, hcc⟩ := HC.out k y hy
        obtain ⟨m, hm⟩ : ∃ m, y.L[0]? = some m := ⟨_, List.getElem?_eq_getElem (List.length_pos_iff.2 hne)⟩
        obtain ⟨g2, off2, e2, hl2, _⟩ := hcc.row 0 m hm
        rw [e2] at hz
        cases hz
        have := HT.out.bp
        show g2 < p
        omega⟩
      obtain ⟨yd, yi, ya, yc, yL⟩ := y
      dsimp only at c0 c1 c2 HRow HY6 HYb
      obtain ⟨l, hll⟩ : ∃ l, yL.length = l := ⟨_, rfl⟩
      rw [hll] at c2 HY6
      have HL := Kept.mk hll
      clear hyy hy hll
      obtain ⟨wc0, hwc0⟩ : ∃ wc0, wr.alloc (.cells #[.int .i64 yd, .int .i64 yi, .slice ya l yc] 70) = wc0 := ⟨_, rfl⟩
      have HT2 : Kept (Two2 wc0 p q wr.heap.size most s s v) := ⟨by rw [← hwc0]; exact HT.out.call _⟩
      have HX : Kept (Blk wc0 wr.heap.size 70 [.int .i64 yd, .int .i64 yi, .slice ya l yc]) := ⟨by rw [← hwc0]; exact Blk.new' wr _ _ _ rfl⟩
      have KX : Kept (Keeps (fun _ => False) wr wc0) := ⟨by rw [← hwc0]; exact (Keeps.refl _ _).alloc _⟩
      obtain ⟨X, hX⟩ : ∃ X, wr.heap.size = X := ⟨_, rfl⟩
      rw [hX] at HT2 HX
      have HBX : Kept (w.heap.size ≤ X) := ⟨by omega⟩
      have HBc : Kept (Below w.heap.size w wc0) := ⟨HB.out.trans (KX.out.below hbw (fun _ h => h.elim))⟩
      have HRc := Kept.mk (HRow.out.quiet KX.out)
      have hwl := HX.out.lt
      have HBP := Kept.mk HT.out.bp
      have x0 := HX.out.cell 0 rfl
      have x1 := HX.out.cell 1 rfl
      have x2 := HX.out.cell 2 rfl
      go_upto_block 2 with fail
      clear hwc0 hX KX c0 c1 c2 HRow HT HB
      go_cut [11, 12, 13, 14, 15] from 38 to 80 (fun ok _ _ _ _ wc => ∃ (s' : List Ms × Nat) (v' : Value), ok = .bool true ∧ Kept (TwoAt w.heap.size wc p q most s' v') ∧ Kept (Below w.heap.size w wc))
      case first =>
        by_cases h0 : yd = 0
        · subst h0
          go_wp2_with fail
          refine (t_put p q X most s s v yL ya l yc _ HT2.out HRc.out HL.out (by have := HY6.out; omega) HYb.out).mono ?_
          rintro e w4 ⟨⟨r4, rfl⟩, v4, h4, k4⟩
          have H4 := Kept.mk h4
          have B4 := Kept.mk (HBc.out.trans (k4.below HBc.out.size (fun i h => Nat.le_trans HBP.out h.1)))
          have hx4 := HX.out.keeps k4 (fun h => h.2 rfl)
          have HR4 : Kept (MsRow w4 ya yL) := ⟨by
            by_cases hne : yL = []
            · subst hne; intro i x hx; simp at hx
            · exact HRc.out.keeps k4 (fun z hz e => by have := HYb.out hne z hz; have := e.1; omega)⟩
          have y2 := hx4.cell 2 rfl
          have hl4 := hx4.lt
          clear h4 k4 hx4 x0 x1 x2
          go_wp2_with fail
          refine (t_rput p q X most _ s v4 yL ya l yc _ H4.out HR4.out HL.out (by have := HY6.out; omega) HYb.out).mono ?_
          rintro e w5 ⟨⟨r5, rfl⟩, h5, k5⟩
          have H5 := Kept.mk (h5.at HBP.out)
          have B5 := Kept.mk (B4.out.trans (k5.below B4.out.size (fun i h => by have := HBP.out; have := H4.out.pq; omega)))
          clear h5 k5 y2
          go_wp2_with fail
          go_meet
          exact ⟨_, _, rfl, H5, B5⟩
        · have hn0 : (yd == 0) = false := by simpa using h0
          by_cases h1 : yd = 1
          · subst h1
            go_wp2_with fail
            refine (t_take p q X most s s v yi _ HT2.out).mono ?_
            rintro e w4 ⟨rfl, v4, h4, k4⟩
            have H4 := Kept.mk h4
            have B4 := Kept.mk (HBc.out.trans (k4.below HBc.out.size (fun i h => Nat.le_trans HBP.out h.1)))
            have hx4 := HX.out.keeps k4 (fun h => h.2 rfl)
            have y1 := (hx4.alloc (.cells (encMs (tkM s.1 yi)).toArray 55)).cell 1 rfl
            have hl4 := hx4.lt
            have HM := Kept.mk (Blk.new w4 55 (encMs (tkM s.1 yi)))
            obtain ⟨m, hm⟩ : ∃ m, tkM s.1 yi = m := ⟨_, rfl⟩
            obtain ⟨b, hb⟩ : ∃ b, (inL s.1 yi).isSome = b := ⟨_, rfl⟩
            have Hm := Kept.mk hm
            have Hb := Kept.mk hb
            rw [hm] at HM y1
            rw [hm, hb]
            clear h4 k4 hx4 x0 x1 x2 hm hb
            obtain ⟨m0, m1, m2, m3, m4, m5, m6⟩ := m
            unfold encMs at y1 ⊢
            dsimp only at y1 ⊢
            go_wp2_with fail
            refine (t_rtake p q X most _ s v4 yi _ (H4.out.quiet ((Keeps.refl (fun _ => False) w4).alloc _))).mono ?_
            rintro e w5 ⟨rfl, h5, k5⟩
            rw [Hm.out, Hb.out]
            unfold encMs
            dsimp only
            have hq4 := H4.out.qw
            have H5 := Kept.mk ((h5.at HBP.out).quiet ((Keeps.refl (fun _ => False) w5).alloc (.cells (encMs ⟨m0, m1, m2, m3, m4, m5, m6⟩).toArray 55)))
            have B5 := Kept.mk (((B4.out.trans (((Keeps.refl (fun k => k = q) w4).alloc (.cells (encMs ⟨m0, m1, m2, m3, m4, m5, m6⟩).toArray 55)).below B4.out.size (fun i h => by have := HBP.out; have := H4.out.pq; omega))).trans (k5.below (by have := B4.out.size; simp; omega) (fun i h => by have := HBP.out; have := H4.out.pq; omega))).alloc (by have := B4.out.size; have := k5.size; simp at this; omega) (.cells (encMs ⟨m0, m1, m2, m3, m4, m5, m6⟩).toArray 55))
            have hA := (HM.out.keeps k5 (by omega)).alloc (.cells (encMs ⟨m0, m1, m2, m3, m4, m5, m6⟩).toArray 55)
            have hB := Blk.new w5 55 (encMs ⟨m0, m1, m2, m3, m4, m5, m6⟩)
            have a0 := hA.cell 0 rfl
            have a1 := hA.cell 1 rfl
            have a2 := hA.cell 2 rfl
            have a3 := hA.cell 3 rfl
            have a4 := hA.cell 4 rfl
            have a5 := hA.cell 5 rfl
            have a6 := hA.cell 6 rfl
            have he := eqMs ⟨m0, m1, m2, m3, m4, m5, m6⟩
            unfold encMs at he a0 a1 a2 a3 a4 a5 a6
            dsimp only at he a0 a1 a2 a3 a4 a5 a6
            clear h5 k5 hA hB y1
            go_wp2_with fail
            go_meet
            exact ⟨_, _, rfl, H5, B5⟩
          · have hn1 : (yd == 1) = false := by simpa using h1
            have s90 := HX.out.drew.cell 1 rfl
            have HXq : Kept (X ≠ q) := ⟨fun e => HT2.out.qx e.symm⟩
            go_wp2_with fail
            go_region_held3 (fun W => W.cell? ⟨X, 1, none⟩ = some (.int .i64 yi)) (go_keep) (first
              | (go_at_call 36; refine (t_rdouble p q X most _ s v4 yi _ h4).mono ?_; rintro e w5 ⟨rfl, h5, k5⟩; have g5 := g4.keeps k5 HXq.out; have d5 := g5.cell 1 rfl)
              | (go_at_call 26; refine (t_double p q X most s s v yi _ (HT2.out.quiet ((Keeps.refl _ wc0).drewN 1))).mono ?_; rintro e w4 ⟨rfl, v4, h4, k4⟩; have g4 := (HX.out.drewN 1).keeps k4 (fun h => h.2 rfl); have d4 := g4.cell 1 rfl))
            have H5 := Kept.mk (h5.at HBP.out)
            have B5 := Kept.mk ((HBc.out.trans (((Keeps.refl (TurnsP p X) wc0).drewN 1).trans k4 |>.below HBc.out.size (fun i h => Nat.le_trans HBP.out h.1))).trans (k5.below (by have := HBc.out.size; have := k4.size; exact Nat.le_trans HBc.out.size k4.size) (fun i h => by have := HBP.out; have := h4.pq; omega)))
            clear h5 k5 h4 k4 g4 d4 g5 d5
            go_wp2_with fail
            go_meet
            exact ⟨_, _, rfl, H5, B5⟩
      case rest =>
      obtain ⟨s', v', rfl, HT5, HB5⟩ := hcut
      clear HT2 HX HBc HRc x0 x1 x2 HYb
      obtain ⟨L, lost⟩ := s'
      obtain ⟨ra, rc, hRB, hRM, _, _, _, _, hms, _⟩ := HT5.out.page
      have hP := HT5.out.post
      have hLm := hP.full
      obtain ⟨m, hm⟩ : ∃ m, L.length = m := ⟨_, rfl⟩
      dsimp only at hRB hRM hP hLm
      rw [hm] at hRB hLm
      have q1 := hRB.cell 1 rfl
      have q2 := hRB.cell 2 rfl
      have HP := Kept.mk hP
      have HRB := Kept.mk hRB
      have HRM := Kept.mk hRM
      have HM := Kept.mk hm
      have ht1000 : L.take 1000 = L := List.take_of_length_le (by omega)
      have HT1 := Kept.mk ht1000
      have HL5 : Kept (L.length ≤ 100000) := ⟨by omega⟩
      have HM5 : Kept (m ≤ 100000) := ⟨by omega⟩
      have HSn : Kept (sn ≤ 100000) := ⟨by omega⟩
      have htl : (L.take sn).length = min sn m := by rw [List.length_take, hm]
      have hpw := hP.blk.lt
      have hqw := hRB.lt
      clear hRB hRM hP hm ht1000
      have HKP : Kept (∀ W, Keeps (fun _ => False) wc W → W.cell? ⟨q, 1, none⟩ = some (.slice ra m rc) ∧ W.cell? ⟨q, 2, none⟩ = some (.int .i64 lost)) := ⟨fun W kk => ⟨(HRB.out.keeps kk (fun h => h)).cell 1 rfl, (HRB.out.keeps kk (fun h => h)).cell 2 rfl⟩⟩
      have KC : Kept (Keeps (fun _ => False) wc wc.drew) := ⟨(Keeps.refl _ _).drew⟩
      go_upto_region 20 with fail
      obtain ⟨tl, htl2⟩ : ∃ tl, (L.take sn).length = tl := ⟨_, rfl⟩
      have HTL := Kept.mk htl2
      rw [htl2] at htl
      clear htl2
      by_cases hlt2 : (m : Int) < sn
      · obtain rfl : tl = m := by omega
        clear htl
        have hlt3 : ¬ (sn : Int) ≤ tl := by omega
        have hlt4 : ¬ (sn : Int) < tl := by omega
        have hlt5 : (tl : Int) ≤ sn := by omega
        go_region_held3 (fun W => W.cell? ⟨q, 1, none⟩ = some (.slice ra tl rc) ∧ W.cell? ⟨q, 2, none⟩ = some (.int .i64 lost)) (exact HKP.out _ KC.out) (first
          | (go_at_call 31; refine HSame.out.mono ?_; rintro e w' ⟨rfl, nn, rfl⟩; have KC := Kept.mk (KC.out.drewN nn))
          | (go_at_call 30; (with_reducible refine (all_at (.pointer (some ⟨p, 0, none⟩)) sn sn L _ rfl HSn.out HL5.out (fun w1 kk => pall_to _ _ _ _ _ _ _ (HP.out.quiet (KC.out.trans kk)))).mono ?_); rintro e w9 ⟨⟨v9, rfl, h9⟩, k9⟩; obtain ⟨a9, c9, rfl, -, -⟩ := h9.slice; rw [HTL.out]; have KC := Kept.mk (KC.out.trans k9); clear h9 k9)
          | (go_at_call 30; (with_reducible refine (all_at (.pointer (some ⟨p, 0, none⟩)) 1000 1000 L _ rfl (by decide) HL5.out (fun w1 kk => pall_to _ _ _ _ _ _ _ (HP.out.quiet (KC.out.trans kk)))).mono ?_); rintro e w7 ⟨⟨v7, rfl, h7⟩, k7⟩; rw [HT1.out] at h7; obtain ⟨a7, c7, rfl, -, -⟩ := h7.slice; rw [HM.out]; rw [HM.out] at h7; have KC := Kept.mk (KC.out.trans k7); have HSame := Kept.mk (sameMs_yes a7 ra c7 rc tl L w7 h7.row (HRM.out.quiet KC.out) HM.out.symm HM5.out); clear h7 k7)
          | (go_at_call 27; refine (plen_to _ _ _ _ _ _ _ (HP.out.quiet KC.out)).mono ?_; rintro e _ ⟨rfl, rfl⟩; rw [HM.out])
          | (go_at_call 29; refine (plost_to _ _ _ _ _ _ _ (HP.out.quiet KC.out)).mono ?_; rintro e _ ⟨rfl, rfl⟩))
        all_goals
          go_wp2_with fail
          go_roundw
          case rel => exact ⟨k + 1, _, _, by omega, by go_num, ⟨HT5.out.quiet KC.out⟩, ⟨HB5.out.trans (KC.out.below HB5.out.size (fun _ h => h.elim))⟩⟩
          case measure => simp [intOf]; omega
      · obtain rfl : tl = sn := by omega
        clear htl
        have hlt3 : (tl : Int) ≤ m := by omega
        go_region_held3 (fun W => W.cell? ⟨q, 1, none⟩ = some (.slice ra m rc) ∧ W.cell? ⟨q, 2, none⟩ = some (.int .i64 lost)) (exact HKP.out _ KC.out) (first
          | (go_at_call 31; refine HSame.out.mono ?_; rintro e w' ⟨rfl, nn, rfl⟩; have KC := Kept.mk (KC.out.drewN nn))
          | (go_at_call 30; (with_reducible refine (all_at (.pointer (some ⟨p, 0, none⟩)) tl tl L _ rfl HSn.out HL5.out (fun w1 kk => pall_to _ _ _ _ _ _ _ (HP.out.quiet (KC.out.trans kk)))).mono ?_); rintro e w9 ⟨⟨v9, rfl, h9⟩, k9⟩; obtain ⟨a9, c9, rfl, -, -⟩ := h9.slice; rw [HTL.out]; have KC := Kept.mk (KC.out.trans k9); clear h9 k9)
          | (go_at_call 30; (with_reducible refine (all_at (.pointer (some ⟨p, 0, none⟩)) 1000 1000 L _ rfl (by decide) HL5.out (fun w1 kk => pall_to _ _ _ _ _ _ _ (HP.out.quiet (KC.out.trans kk)))).mono ?_); rintro e w7 ⟨⟨v7, rfl, h7⟩, k7⟩; rw [HT1.out] at h7; obtain ⟨a7, c7, rfl, -, -⟩ := h7.slice; rw [HM.out]; rw [HM.out] at h7; have KC := Kept.mk (KC.out.trans k7); have HSame := Kept.mk (sameMs_yes a7 ra c7 rc m L w7 h7.row (HRM.out.quiet KC.out) HM.out.symm HM5.out); clear h7 k7)
          | (go_at_call 27; refine (plen_to _ _ _ _ _ _ _ (HP.out.quiet KC.out)).mono ?_; rintro e _ ⟨rfl, rfl⟩; rw [HM.out])
          | (go_at_call 29; refine (plost_to _ _ _ _ _ _ _ (HP.out.quiet KC.out)).mono ?_; rintro e _ ⟨rfl, rfl⟩))
        all_goals
          go_wp2_with fail
          go_roundw
          case rel => exact ⟨k + 1, _, _, by omega, by go_num, ⟨HT5.out.quiet KC.out⟩, ⟨HB5.out.trans (KC.out.below HB5.out.size (fun _ h => h.elim))⟩⟩
          case measure => simp [intOf]; omega
    · obtain rfl : k = n := by omega
      have hkl : ¬ (k : Int) < (k : Int) := by omega
      go_wp2_with fail
      refine (awake17_any _).mono ?_
      rintro e w5 ⟨rfl, b5⟩
      go_wp2_with fail
      go_ret
      exact ⟨rfl, HB.out.trans (b5.mono hbw)⟩
end Go.Proofs.Ytkacnogjifhcoaa
