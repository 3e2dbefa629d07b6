/- The law SagaWay, walked. (printed by gen/way.py) -/
import Derived.Test.YtfcnegnkmacajaaLaw16b
import Derived.Test.YtfcnegnkmacajaaOrd4
import Derived.Test.YtfcnegnkmacajaaWayLaw
import Derived.Test.YtfcnegnkmacajaaCutMs
import Derived.Test.YtfcnegnkmacajaaOpen
import Derived.Deep.RegionHeld3
import Derived.Deep.CutRange
import Derived.Deep.CutBlock
import Derived.Deep.QuietTactic
import Derived.BigQuiet
import Derived.IntWalk
namespace Go.Proofs.Ytfcnegnkmacajaa
open Go.RowKit
theorem way_step {n al m : Nat} {s s' : Wy} {y : Bool} (hs : al ≤ m → s.rank n + (m - al) ≤ n + 2) (hy : al ≤ m → y = true) (ok : s'.ok n) (hlt : y = true → s'.rank n < s.rank n) : al ≤ m + 1 → s'.rank n + (m + 1 - al) ≤ n + 2 := by
  intro h
  by_cases e : al ≤ m
  · have h1 := hs e
    have h2 := hlt (hy e)
    omega
  · have h3 := Wy.rank_le ok
    omega
theorem way_done (y : Bool) (i j : Nat) : (if i = j then y else decide (i < j)) = decide (i < (if y then j + 1 else j)) := by
  cases y
  · by_cases e : i = j
    · subst e; simp
    · simp [e]
  · by_cases e : i = j
    · subst e; simp
    · rw [if_neg e, decide_eq_decide, if_pos rfl]; omega
theorem way_undone (y : Bool) (i : Nat) {k kk : Nat} (hkk : kk + 1 = k) : (if i = kk then y else decide (k ≤ i)) = decide ((if y then kk else k) ≤ i) := by
  subst hkk
  cases y
  · by_cases e : i = kk
    · subst e; simp
    · simp [e]
  · by_cases e : i = kk
    · subst e; simp
    · rw [if_neg e, decide_eq_decide, if_pos rfl]; omega
set_option linter.unusedSimpArgs false in
set_option linter.unusedVariables false in
set_option maxRecDepth 100000 in
set_option maxHeartbeats 16000000 in
theorem way_not (o : Ord) (a : Option Addr) (c : Nat) (ans : Option Addr) (al ac : Nat) (zs : Nat → Int) (w : World) (hL : StRow w a o.steps) (hc : o.steps.length ≤ c) (hcm : c ≤ maxLen) (hr : IntRow w ans al zs) (hal : (al : Int) ≤ 9223372036854775807) (hm : o.may = false) :
    Calls Try.prog 6 #[.agg #[.int .i64 o.id, .int .i64 o.item, .int .i64 o.qty, .int .i64 o.client, .int .i64 o.price, .slice a o.steps.length c], .slice ans al ac] w (fun e w' => e = .returned (.bool true) ∧ Keeps (fun _ => False) w w') := by
  have HO0 := Kept.mk (Blk.new' w 24 [.int .i64 o.id, .int .i64 o.item, .int .i64 o.qty, .int .i64 o.client, .int .i64 o.price, .slice a o.steps.length c] _ rfl)
  have K0 : Kept (Keeps (fun _ => False) w (w.alloc (.cells #[.int .i64 o.id, .int .i64 o.item, .int .i64 o.qty, .int .i64 o.client, .int .i64 o.price, .slice a o.steps.length c] 24))) := ⟨(Keeps.refl _ w).alloc _⟩
  have HL := Kept.mk hL
  have hsl : o.steps.length ≤ maxLen := Nat.le_trans hc hcm
  have hsi : (o.steps.length : Int) ≤ 9223372036854775807 := by unfold maxLen at hsl; omega
  clear hL
  have Hm := Kept.mk hm
  clear hm
  have hn : Kept (nextL o ⟨[], [], false, false, false, false, false, false, false, false, false⟩ = []) := ⟨by
    unfold nextL
    rw [show Fct.may o ⟨[], [], false, false, false, false, false, false, false, false, false⟩ = false by simp [Fct.may, Hm.out]]
    rfl⟩
  go_enter Try.func6, Try.ntmps6
  go_wp2_with fail
  refine (romay_to o a c false _ (HL.out.quiet K0.out) hsl hc hcm Hm.out).mono ?_
  rintro e w1 ⟨rfl, k1⟩
  have HO1 := Kept.mk (HO0.out.quiet k1)
  have K1 := Kept.mk (K0.out.trans k1)
  obtain ⟨x0, x1, x2, x3, x4, x5⟩ := blk6 HO1.out
  clear k1 HO0 K0
  have HC := next_to o a none none c 0 0 ⟨[], [], false, false, false, false, false, false, false, false, false⟩ w1 ⟨HL.out.quiet K1.out, hsl, fun k x h => by simp at h, Nat.zero_le _, fun k x h => by simp at h, Nat.zero_le _⟩
  rw [hn.out] at HC
  simp only [List.length_nil] at HC
  go_wp2_with fail
  refine HC.mono ?_
  rintro e w4 ⟨⟨v, rfl, hM⟩, k4⟩
  obtain ⟨va, vc, rfl, _⟩ := hM.slice
  have K4 := Kept.mk (K1.out.trans k4)
  clear hM k4 HC
  go_wp2_with fail
  refine (awake_to _).mono ?_
  rintro e w9 ⟨rfl, k9⟩
  go_wp2_with fail
  go_ret
  exact ⟨rfl, K4.out.trans k9⟩
set_option linter.unusedSimpArgs false in
set_option linter.unusedVariables false in
set_option maxRecDepth 100000 in
set_option maxHeartbeats 16000000 in
theorem way_walk (o : Ord) (a : Option Addr) (c : Nat) (ans : Option Addr) (al ac : Nat) (zs : Nat → Int) (w : World) (hL : StRow w a o.steps) (hc : o.steps.length ≤ c) (hcm : c ≤ maxLen) (hr : IntRow w ans al zs) (hal : (al : Int) ≤ 9223372036854775807) (hm : o.may = true) :
    Calls Try.prog 6 #[.agg #[.int .i64 o.id, .int .i64 o.item, .int .i64 o.qty, .int .i64 o.client, .int .i64 o.price, .slice a o.steps.length c], .slice ans al ac] w (fun e w' => e = .returned (.bool true) ∧ Keeps (fun _ => False) w w') := by
  have HO0 := Kept.mk (Blk.new' w 24 [.int .i64 o.id, .int .i64 o.item, .int .i64 o.qty, .int .i64 o.client, .int .i64 o.price, .slice a o.steps.length c] _ rfl)
  have K0 : Kept (Keeps (fun _ => False) w (w.alloc (.cells #[.int .i64 o.id, .int .i64 o.item, .int .i64 o.qty, .int .i64 o.client, .int .i64 o.price, .slice a o.steps.length c] 24))) := ⟨(Keeps.refl _ w).alloc _⟩
  have HL := Kept.mk hL
  have hsl : o.steps.length ≤ maxLen := Nat.le_trans hc hcm
  have hsi : (o.steps.length : Int) ≤ 9223372036854775807 := by unfold maxLen at hsl; omega
  clear hL
  have Hm := Kept.mk hm
  clear hm
  have hl3 := Ord.may_len Hm.out
  go_enter Try.func6, Try.ntmps6
  go_wp2_with fail
  refine (romay_to o a c true _ (HL.out.quiet K0.out) hsl hc hcm Hm.out).mono ?_
  rintro e w1 ⟨rfl, k1⟩
  have HO1 := Kept.mk (HO0.out.quiet k1)
  have K1 := Kept.mk (K0.out.trans k1)
  obtain ⟨x0, x1, x2, x3, x4, x5⟩ := blk6 HO1.out
  clear k1 HO0 K0
  have hmk : ∀ w, (Instr.makeSlice 28 (.int .i64 o.steps.length) (.int .i64 o.steps.length)).run Try.prog w = .ok (.slice (some ⟨w.heap.size, 0, none⟩) o.steps.length o.steps.length) (w.alloc (.cells ((rowF o.steps.length (fun _ => false)).map encB).toArray 4)) := made_bools _ (by omega)
  go_upto_region 4 with fail
  go_cut [6] from 7 to 224 (fun z wc => ∃ p bd bu : Nat, z = .pointer (some ⟨p, 0, none⟩) ∧ Kept (p ≠ bd ∧ p ≠ bu ∧ bd ≠ bu ∧ w1.heap.size ≤ p ∧ w1.heap.size ≤ bd ∧ w1.heap.size ≤ bu) ∧ Blk wc p 31 [.slice (some ⟨bd, 0, none⟩) o.steps.length o.steps.length, .slice (some ⟨bu, 0, none⟩) o.steps.length o.steps.length, .bool false, .bool false, .bool false, .bool false, .bool false, .bool false, .bool false, .bool false, .bool false] ∧ Blk wc bd 4 ((rowF o.steps.length (fun _ => false)).map encB) ∧ Blk wc bu 4 ((rowF o.steps.length (fun _ => false)).map encB) ∧ Keeps (fun _ => False) w1 wc)
  case first => as_aux_lemma =>
    go_region
    all_goals
      go_wp2_with fail
      go_meet
      refine ⟨_, ?_, ?_, rfl, ?_, ?_, ?_, ?_, ?_⟩
      rotate_left 3
      · refine Blk.drew ?_
        repeat (first | (refine Blk.new' _ _ _ _ ?_; simp; done) | refine Blk.alloc ?_ _)
      · refine Blk.drew ?_
        repeat (first | (refine Blk.new' _ _ _ _ ?_; simp; done) | refine Blk.alloc ?_ _)
      · refine Blk.drew ?_
        repeat (first | (refine Blk.new' _ _ _ _ ?_; simp; done) | refine Blk.alloc ?_ _)
      · repeat (first | exact Keeps.refl _ _ | refine Keeps.drew ?_ | refine Keeps.alloc ?_ _)
      exact ⟨by omega, by omega, by omega, by omega, by omega, by omega⟩
  case rest =>
  obtain ⟨p, bd, bu, rfl, hne, hP, hD, hU, kc⟩ := hcut
  obtain ⟨n1, n2, n3, n4, n5, n6⟩ := hne.out
  have HP := Kept.mk hP
  have HD := Kept.mk hD
  have HU := Kept.mk hU
  have HO2 := Kept.mk (HO1.out.quiet kc)
  have K2 := Kept.mk (K1.out.trans kc)
  have hz1 := HO1.out.lt
  have H0 : Kept ((Wy.mk 0 o.steps.length false false false false false false).ok o.steps.length) := ⟨by simp [Wy.ok]⟩
  clear hP hD hU kc HO1 x0 x1 x2 x3 x4 x5
  go_wp2_with fail
  go_loopw [35] (fun i wr => ∃ (m : Nat) (s : Wy), m ≤ 40 ∧ i = .int .i64 m ∧ Kept (s.ok o.steps.length ∧ (al ≤ m → s.rank o.steps.length + (m - al) ≤ o.steps.length + 2)) ∧ Blk wr bd 4 ((rowF o.steps.length (fun i => decide (i < s.j))).map encB) ∧ Blk wr bu 4 ((rowF o.steps.length (fun i => decide (s.k ≤ i))).map encB) ∧ Blk wr p 31 [.slice (some ⟨bd, 0, none⟩) o.steps.length o.steps.length, .slice (some ⟨bu, 0, none⟩) o.steps.length o.steps.length, .bool s.asked, .bool s.yes, .bool s.turned, .bool s.a0, .bool s.a1, .bool s.shipped, .bool false, .bool false, .bool false] ∧ Blk wr w.heap.size 24 [.int .i64 o.id, .int .i64 o.item, .int .i64 o.qty, .int .i64 o.client, .int .i64 o.price, .slice a o.steps.length c] ∧ Keeps (fun _ => False) w wr) (fun i _ => 40 - (intOf i).toNat)
  case atStart => exact ⟨0, ⟨0, o.steps.length, false, false, false, false, false, false⟩, by omega, rfl, ⟨H0.out, fun _ => by have := Wy.rank_le H0.out; omega⟩, by simpa using HD.out, by rw [rowF_none]; exact HU.out, HP.out, HO2.out, K2.out⟩
  case round =>
    obtain ⟨m, s, hm, rfl, hs, hD, hU, hP, hO, hK⟩ := hrel
    obtain ⟨j, k, asked, yes, turned, a0, a1, shipped⟩ := s
    dsimp only at hD hU hP
    have np := hP.lt
    have nbd := hD.lt
    have nbu := hU.lt
    have HD3 := Kept.mk hD
    have HU3 := Kept.mk hU
    have HP3 := Kept.mk hP
    have HO3 := Kept.mk hO
    have K3 := Kept.mk hK
    obtain ⟨y0, y1, y2, y3, y4, y5, y6, y7, y8, y9, y10⟩ := blk11 hP
    obtain ⟨x0, x1, x2, x3, x4, x5⟩ := blk6 hO
    clear hD hU hP hO hK HP HD HU HO2 K2
    by_cases hlt : m < 40
    · have hmi : (m : Int) < 40 := by omega
      have hok := hs.out.1
      have hjn : j ≤ o.steps.length := hok.1
      have hkn : k ≤ o.steps.length := hok.2.1
      have Hok := Kept.mk hok
      clear hok
      have HF : Kept (FcAt wr o a c ⟨rowF o.steps.length (fun i => decide (i < j)), rowF o.steps.length (fun i => decide (k ≤ i)), asked, yes, turned, a0, a1, shipped, false, false, false⟩ (some ⟨bd, 0, none⟩) (some ⟨bu, 0, none⟩)) := ⟨⟨HL.out.quiet K3.out, hsl, blRow_of HD3.out, by simp only [rowF_len]; exact hsl, blRow_of HU3.out, by simp only [rowF_len]; exact hsl⟩⟩
      have hmay0 := way_may Hm.out Hok.out
      dsimp only [Wy.fct] at hmay0
      have Hmay := Kept.mk hmay0
      clear hmay0
      have HC0 := next_to o a _ _ c o.steps.length o.steps.length ⟨rowF o.steps.length (fun i => decide (i < j)), rowF o.steps.length (fun i => decide (k ≤ i)), asked, yes, turned, a0, a1, shipped, false, false, false⟩ wr HF.out
      simp only [rowF_len] at HC0
      have HC := Kept.mk HC0
      clear HC0
      obtain ⟨L, hL⟩ : ∃ L, Kept (nextL o ⟨rowF o.steps.length (fun i => decide (i < j)), rowF o.steps.length (fun i => decide (k ≤ i)), asked, yes, turned, a0, a1, shipped, false, false, false⟩ = L) := ⟨_, ⟨rfl⟩⟩
      rw [hL.out] at HC
      go_wp2_with fail
      refine HC.out.mono ?_
      rintro e w4 ⟨⟨v, rfl, hM⟩, k4⟩
      obtain ⟨va, vc, rfl, hvc, hvm⟩ := hM.slice
      have HMB := Kept.mk (fun g e => (hM.lt g e).1)
      have HM4 := Kept.mk hM.row
      have HD4 := Kept.mk (HD3.out.quiet k4)
      have HU4 := Kept.mk (HU3.out.quiet k4)
      have HP4 := Kept.mk (HP3.out.quiet k4)
      have HO4 := Kept.mk (HO3.out.quiet k4)
      have K4 := Kept.mk (K3.out.trans k4)
      have HF4 := Kept.mk (HF.out.keeps k4)
      clear hM k4 HC HD3 HU3 HP3 HO3 K3 HF y0 y1 y2 y3 y4 y5 y6 y7 y8 y9 y10 x0 x1 x2 x3 x4 x5
      obtain ⟨y0, y1, y2, y3, y4, y5, y6, y7, y8, y9, y10⟩ := blk11 HP4.out
      obtain ⟨x0, x1, x2, x3, x4, x5⟩ := blk6 HO4.out
      have HA0 := fmay_to o a _ _ c o.steps.length o.steps.length ⟨rowF o.steps.length (fun i => decide (i < j)), rowF o.steps.length (fun i => decide (k ≤ i)), asked, yes, turned, a0, a1, shipped, false, false, false⟩ true w4 HF4.out Hmay.out
      simp only [rowF_len] at HA0
      have HA := Kept.mk HA0
      clear HA0
      by_cases hr0 : Wy.rank o.steps.length ⟨j, k, asked, yes, turned, a0, a1, shipped⟩ = 0
      · obtain ⟨e1, e2, e3⟩ := way_end Hm.out Hok.out hr0
        dsimp only [Wy.fct] at e1 e2 e3
        have e4 : L = [] := hL.out.symm.trans e1
        subst e4
        have E2 : Kept (Fct.over o ⟨rowF o.steps.length (fun i => decide (i < j)), rowF o.steps.length (fun i => decide (k ≤ i)), asked, yes, turned, a0, a1, shipped, false, false, false⟩ = true) := ⟨e2⟩
        have E3 := Kept.mk e3
        clear e1 e2 e3 hL
        go_wp2_with fail
        refine HA.out.mono ?_
        rintro e w5 ⟨rfl, k5⟩
        have HB0 := over_to o a _ _ c o.steps.length o.steps.length ⟨rowF o.steps.length (fun i => decide (i < j)), rowF o.steps.length (fun i => decide (k ≤ i)), asked, yes, turned, a0, a1, shipped, false, false, false⟩ true w5 (HF4.out.keeps k5) E2.out
        simp only [rowF_len] at HB0
        obtain ⟨z0, z1, z2, z3, z4, z5, z6, z7, z8, z9, z10⟩ := blk11 (HP4.out.quiet k5)
        obtain ⟨v0, v1, v2, v3, v4, v5⟩ := blk6 (HO4.out.quiet k5)
        have K5 := Kept.mk k5
        have HB := Kept.mk HB0
        clear HB0 k5 HA
        go_wp2_with fail
        refine HB.out.mono ?_
        rintro e w6 ⟨rfl, k6⟩
        have K6 := Kept.mk (K5.out.trans k6)
        clear k6 y0 y1 y2 y3 y4 y5 y6 y7 y8 y9 y10 x0 x1 x2 x3 x4 x5 z0 z1 z2 z3 z4 z5 z6 z7 z8 z9 z10 v0 v1 v2 v3 v4 v5
        obtain ⟨y0, y1, y2, y3, y4, y5, y6, y7, y8, y9, y10⟩ := blk11 (HP4.out.quiet K6.out)
        obtain ⟨x0, x1, x2, x3, x4, x5⟩ := blk6 (HO4.out.quiet K6.out)
        rcases E3.out with ⟨hy, ht, hst⟩ | ⟨hy, ht, hst⟩
        · subst hy
          subst ht
          have HS0 := state_to o a _ _ c o.steps.length o.steps.length ⟨rowF o.steps.length (fun i => decide (i < j)), rowF o.steps.length (fun i => decide (k ≤ i)), asked, true, false, a0, a1, shipped, false, false, false⟩ 5 w6 (HF4.out.keeps K6.out) hst
          simp only [rowF_len] at HS0
          have HS := Kept.mk HS0
          clear HS0 hst
          go_wp2_with fail
          refine HS.out.mono ?_
          rintro e w7 ⟨rfl, k7⟩
          obtain ⟨z0, z1, z2, z3, z4, z5, z6, z7, z8, z9, z10⟩ := blk11 (HP4.out.quiet (K6.out.trans k7))
          have K7 := Kept.mk (K4.out.trans (K6.out.trans k7))
          clear k7 y0 y1 y2 y3 y4 y5 y6 y7 y8 y9 y10 x0 x1 x2 x3 x4 x5
          go_wp2_with fail
          refine (awake_to _).mono ?_
          rintro e w9 ⟨rfl, k9⟩
          go_wp2_with fail
          go_ret
          exact ⟨rfl, K7.out.trans k9⟩
        · subst hy
          subst ht
          have HS0 := state_to o a _ _ c o.steps.length o.steps.length ⟨rowF o.steps.length (fun i => decide (i < j)), rowF o.steps.length (fun i => decide (k ≤ i)), asked, false, true, a0, a1, shipped, false, false, false⟩ 6 w6 (HF4.out.keeps K6.out) hst
          simp only [rowF_len] at HS0
          have HS := Kept.mk HS0
          clear HS0 hst
          go_wp2_with fail
          refine HS.out.mono ?_
          rintro e w7 ⟨rfl, k7⟩
          obtain ⟨z0, z1, z2, z3, z4, z5, z6, z7, z8, z9, z10⟩ := blk11 (HP4.out.quiet (K6.out.trans k7))
          have K7 := Kept.mk (K4.out.trans (K6.out.trans k7))
          clear k7 y0 y1 y2 y3 y4 y5 y6 y7 y8 y9 y10 x0 x1 x2 x3 x4 x5
          go_wp2_with fail
          refine (awake_to _).mono ?_
          rintro e w9 ⟨rfl, k9⟩
          go_wp2_with fail
          go_ret
          exact ⟨rfl, K7.out.trans k9⟩
      · obtain ⟨e2, hgo⟩ := way_go Hm.out Hok.out hr0
        dsimp only [Wy.fct] at e2 hgo
        have E2 : Kept (Fct.over o ⟨rowF o.steps.length (fun i => decide (i < j)), rowF o.steps.length (fun i => decide (k ≤ i)), asked, yes, turned, a0, a1, shipped, false, false, false⟩ = false) := ⟨e2⟩
        have Hgo := Kept.mk hgo
        clear e2 hgo hr0
        have hLn : L ≠ [] := by
          rw [← hL.out]
          rcases Hgo.out with ⟨x, _, _, _, _, _, _, _, _, e⟩ | ⟨_, _, _, _, _, _, _, _, e⟩ | ⟨_, _, _, _, _, _, e⟩ | ⟨x, kk, _, _, _, _, _, e⟩ | ⟨_, _, _, _, _, e⟩ <;> (intro h; have e := e.symm.trans h; simp at e)
        have hLi : (L.length : Int) ≤ 9223372036854775807 := by unfold maxLen at hvm; omega
        have hll : 0 < L.length := List.length_pos_iff.2 hLn
        have hl0 : ((L.length : Int) == 0) = false := by rw [beq_eq_false_iff_ne]; omega
        go_wp2_with fail
        refine HA.out.mono ?_
        rintro e w5 ⟨rfl, k5⟩
        have HB0 := over_to o a _ _ c o.steps.length o.steps.length ⟨rowF o.steps.length (fun i => decide (i < j)), rowF o.steps.length (fun i => decide (k ≤ i)), asked, yes, turned, a0, a1, shipped, false, false, false⟩ false w5 (HF4.out.keeps k5) E2.out
        simp only [rowF_len] at HB0
        obtain ⟨z0, z1, z2, z3, z4, z5, z6, z7, z8, z9, z10⟩ := blk11 (HP4.out.quiet k5)
        obtain ⟨v0, v1, v2, v3, v4, v5⟩ := blk6 (HO4.out.quiet k5)
        have K5 := Kept.mk k5
        have HB := Kept.mk HB0
        clear HB0 k5 HA
        go_wp2_with fail
        refine HB.out.mono ?_
        rintro e w6 ⟨rfl, k6⟩
        have K6 := Kept.mk (K5.out.trans k6)
        have HD6 := Kept.mk (HD4.out.quiet K6.out)
        have HU6 := Kept.mk (HU4.out.quiet K6.out)
        have HP6 := Kept.mk (HP4.out.quiet K6.out)
        have HO6 := Kept.mk (HO4.out.quiet K6.out)
        have HM6 := Kept.mk (HM4.out.quiet K6.out)
        have KW := Kept.mk (K4.out.trans K6.out)
        clear k6 HD4 HU4 HP4 HO4 HM4 K4 K5 K6 HF4 HB y0 y1 y2 y3 y4 y5 y6 y7 y8 y9 y10 x0 x1 x2 x3 x4 x5 z0 z1 z2 z3 z4 z5 z6 z7 z8 z9 z10 v0 v1 v2 v3 v4 v5
        go_upto_region 14 with fail
        go_cut [10] from 77 to 88 (fun z wc => ∃ y : Bool, z = .bool y ∧ Kept (al ≤ m → y = true) ∧ wc = w6)
        case first =>
          by_cases hai : al ≤ m
          · have hai2 : (al : Int) ≤ (m : Int) := by omega
            go_wp2_with fail
            go_meet
            exact ⟨true, rfl, ⟨fun _ => rfl⟩, rfl⟩
          · have hai2 : ¬ (al : Int) ≤ (m : Int) := by omega
            obtain ⟨gb, goff, ha, hcell⟩ := hr
            rcases ha with ⟨rfl, hgb⟩ | h0
            · have cA : w6.cell? ⟨gb, goff + m, none⟩ = some (.int .i64 (zs m)) := (KW.out.cell (p := ⟨gb, goff + m, none⟩) hgb (fun h => h)).trans (hcell m (by omega)).1
              have hmal : (m : Int) < (al : Int) := by omega
              go_wp2_with fail
              go_meet
              exact ⟨_, rfl, ⟨fun h => absurd h hai⟩, rfl⟩
            · omega
        case rest =>
        obtain ⟨y, rfl, hy, rfl⟩ := hcut
        have hNL : Kept (∀ (q : Nat) (x : Ms), L[q]? = some x → x.src = 0 ∧ x.id = o.id) := ⟨by
          rw [← hL.out]
          rcases Hgo.out with ⟨x, _, _, _, _, _, _, _, _, e⟩ | ⟨_, _, _, _, _, _, _, _, e⟩ | ⟨_, _, _, _, _, _, e⟩ | ⟨x, kk, _, _, _, _, _, e⟩ | ⟨_, _, _, _, _, e⟩
          · rw [e]
            intro q x hx
            have h := List.mem_of_getElem? hx
            simp only [List.mem_singleton] at h
            subst h
            exact ⟨rfl, rfl⟩
          · rw [e]
            intro q x hx
            have h := List.mem_of_getElem? hx
            simp only [List.mem_cons, List.not_mem_nil, or_false] at h
            rcases h with rfl | rfl <;> exact ⟨rfl, rfl⟩
          · exact dec_from e rfl rfl
          · exact dec_from e rfl rfl
          · exact dec_from e rfl rfl⟩
        go_wp2_with fail
        go_loopw [91] (fun i wz => ∃ q : Nat, q ≤ L.length ∧ i = .int .i64 q ∧ Keeps (fun _ => False) wc wz) (fun i _ => L.length - (intOf i).toNat)
        case atStart => exact ⟨0, Nat.zero_le _, rfl, Keeps.refl _ _⟩
        case round =>
          obtain ⟨q, hq, rfl, k7⟩ := hrel
          have HM7 := Kept.mk (HM6.out.quiet k7)
          have HO7 := Kept.mk (HO6.out.quiet k7)
          have K7 := Kept.mk k7
          clear k7
          by_cases hql : q < L.length
          · obtain ⟨x, hx⟩ : ∃ x, L[q]? = some x := ⟨_, List.getElem?_eq_getElem hql⟩
            obtain ⟨mg, mo, rfl, hgl, c0⟩ := HM7.out q x hx
            obtain ⟨e1, e2⟩ := hNL.out q x hx
            obtain ⟨kd, sr, ds, id, st, ma, mb⟩ := x
            dsimp only at e1 e2
            subst e1
            subst e2
            have m0 : wr.cell? ⟨mg, mo + q * 7, none⟩ = some (.int .i64 kd) := c0 0 _ rfl
            have m1 : wr.cell? ⟨mg, mo + q * 7 + 1, none⟩ = some (.int .i64 0) := c0 1 _ rfl
            have m2 : wr.cell? ⟨mg, mo + q * 7 + 2, none⟩ = some (.int .i64 ds) := c0 2 _ rfl
            have m3 : wr.cell? ⟨mg, mo + q * 7 + 3, none⟩ = some (.int .i64 o.id) := c0 3 _ rfl
            have m4 : wr.cell? ⟨mg, mo + q * 7 + 4, none⟩ = some (.int .i64 st) := c0 4 _ rfl
            have m5 : wr.cell? ⟨mg, mo + q * 7 + 5, none⟩ = some (.int .i64 ma) := c0 5 _ rfl
            have m6 : wr.cell? ⟨mg, mo + q * 7 + 6, none⟩ = some (.int .i64 mb) := c0 6 _ rfl
            have x0 := HO7.out.cell 0 rfl
            have hv0 : w.heap.size < wr.heap.size := HO7.out.lt
            have hqi : (q : Int) < (L.length : Int) := by omega
            clear c0 hx
            go_wp2_with fail
            go_roundw
            case rel => exact ⟨q + 1, by omega, by go_num, K7.out.alloc _⟩
            case measure => simp [intOf]; omega
          · obtain rfl : q = L.length := by omega
            have hqq : ¬ (L.length : Int) < (L.length : Int) := by omega
            obtain ⟨ll, hl2, hl3i, mm, hmm⟩ : ∃ ll, Kept (L.length = ll + 1) ∧ (L.length : Int) - 1 = (ll : Int) ∧ ∃ mm, L[ll]? = some mm := ⟨L.length - 1, ⟨by omega⟩, by omega, _, List.getElem?_eq_getElem (by omega)⟩
            obtain ⟨mg, mo, rfl, hgl, c0⟩ := HM7.out ll mm hmm
            obtain ⟨kd, sr, ds, id, st, ma, mb⟩ := mm
            have m0 : wr.cell? ⟨mg, mo + ll * 7, none⟩ = some (.int .i64 kd) := c0 0 _ rfl
            have m1 : wr.cell? ⟨mg, mo + ll * 7 + 1, none⟩ = some (.int .i64 sr) := c0 1 _ rfl
            have m2 : wr.cell? ⟨mg, mo + ll * 7 + 2, none⟩ = some (.int .i64 ds) := c0 2 _ rfl
            have m3 : wr.cell? ⟨mg, mo + ll * 7 + 3, none⟩ = some (.int .i64 id) := c0 3 _ rfl
            have m4 : wr.cell? ⟨mg, mo + ll * 7 + 4, none⟩ = some (.int .i64 st) := c0 4 _ rfl
            have m5 : wr.cell? ⟨mg, mo + ll * 7 + 5, none⟩ = some (.int .i64 ma) := c0 5 _ rfl
            have m6 : wr.cell? ⟨mg, mo + ll * 7 + 6, none⟩ = some (.int .i64 mb) := c0 6 _ rfl
            have hlb : (ll : Int) < (L.length : Int) := by omega
            have hlw : IntKind.i64.wrap (ll : Int) = (ll : Int) := IntWalk.i64_in _ (by omega)
            have hlw2 : wrap64 (ll : Int) = (ll : Int) := w64 (by omega) (by omega)
            clear c0
            have hHIN : Kept (∀ (q : Nat) (x : Ms), q < ll → L[q]? = some x → x.kind = 6 ∨ ((x.kind = 9 ∨ x.kind = 10) ∧ (x.dst = 1 ∨ x.dst = 2))) := ⟨by
              rcases Hgo.out with ⟨x, _, _, _, _, _, _, _, _, e⟩ | ⟨_, _, _, _, _, _, _, _, e⟩ | ⟨_, _, _, _, _, _, e⟩ | ⟨x, kk, _, _, _, _, _, e⟩ | ⟨_, _, _, _, _, e⟩
              · exact one_kinds (hL.out.symm.trans e) hl2.out
              · exact two_kinds (hL.out.symm.trans e) rfl hl2.out
              · exact dec_kinds (.inl rfl) (hL.out.symm.trans e) hl2.out
              · exact dec_kinds (.inr rfl) (hL.out.symm.trans e) hl2.out
              · exact dec_kinds (.inr rfl) (hL.out.symm.trans e) hl2.out⟩
            have hmg := HMB.out mg (by simp [Value.ownBlock])
            have g1 : mg ≠ p := by omega
            have g2 : mg ≠ bd := by omega
            have g3 : mg ≠ bu := by omega
            have hgz : ∀ (W : World), wr.heap.size ≤ W.heap.size → True := fun _ _ => trivial
            have HG8 := Kept.mk (Blk.new wr 36 (encMs ⟨kd, sr, ds, id, st, ma, mb⟩))
            have HD8 := Kept.mk ((HD6.out.quiet K7.out).alloc (.cells (encMs ⟨kd, sr, ds, id, st, ma, mb⟩).toArray 36))
            have HU8 := Kept.mk ((HU6.out.quiet K7.out).alloc (.cells (encMs ⟨kd, sr, ds, id, st, ma, mb⟩).toArray 36))
            have HP8 := Kept.mk ((HP6.out.quiet K7.out).alloc (.cells (encMs ⟨kd, sr, ds, id, st, ma, mb⟩).toArray 36))
            have HO8 := Kept.mk (HO7.out.alloc (.cells (encMs ⟨kd, sr, ds, id, st, ma, mb⟩).toArray 36))
            have KK8 := Kept.mk ((Keeps.refl (fun _ => False) wr).alloc (.cells (encMs ⟨kd, sr, ds, id, st, ma, mb⟩).toArray 36))
            have HM8 := Kept.mk (HM7.out.quiet KK8.out)
            have K8 := Kept.mk ((KW.out.trans K7.out).trans KK8.out)
            clear KK8 HM7 HO7 K7 KW HM6 HO6 HP6 HU6 HD6
            unfold encMs at HG8 HD8 HU8 HP8 HO8 HM8 K8
            dsimp only at HG8 HD8 HU8 HP8 HO8 HM8 K8
            go_upto_block 4 with fail
            generalize wr.alloc (.cells #[.int .i64 kd, .int .i64 sr, .int .i64 ds, .int .i64 id, .int .i64 st, .int .i64 ma, .int .i64 mb] 36) = w8 at HG8 HD8 HU8 HP8 HO8 HM8 K8 ⊢
            have HLW := Kept.mk (And.intro hlw hlw2)
            clear m0 m1 m2 m3 m4 m5 m6 hlw hlw2
            have hw8 : wr.heap.size < w8.heap.size := HG8.out.lt
            have hg9 : mg < w8.heap.size := by omega
            have hgl8 : ∀ W, Keeps (fun k => k = p ∨ k = bd ∨ k = bu) w8 W → MsRow W (some ⟨mg, mo, none⟩) L := fun W kk => HM8.out.keeps kk (fun x hx => by
              cases hx
              rintro (h | h | h)
              · exact g1 h
              · exact g2 h
              · exact g3 h)
            have HGL := Kept.mk hgl8
            have e1p : w.heap.size ≠ p := by omega
            have e1d : w.heap.size ≠ bd := by omega
            have e1u : w.heap.size ≠ bu := by omega
            have lwp : w.heap.size ≤ p := by omega
            have lwd : w.heap.size ≤ bd := by omega
            have lwu : w.heap.size ≤ bu := by omega
            have HNE := Kept.mk (And.intro g1 (And.intro g2 (And.intro g3 (And.intro e1p (And.intro e1d e1u)))))
            have HN3 := Kept.mk (And.intro n1 (And.intro n2 n3))
            clear hgl8 g1 g2 g3 e1p e1d e1u
            go_cut [] from 114 to 193 (fun wc => ∃ s' : Wy, Kept ((Wy.mk s'.j s'.k s'.asked s'.yes s'.turned (ackq 1 (L.take ll) s'.a0) (ackq 2 (L.take ll) s'.a1) s'.shipped).ok o.steps.length ∧ (y = true → (Wy.mk s'.j s'.k s'.asked s'.yes s'.turned (ackq 1 (L.take ll) s'.a0) (ackq 2 (L.take ll) s'.a1) s'.shipped).rank o.steps.length < (Wy.mk j k asked yes turned a0 a1 shipped).rank o.steps.length)) ∧ Blk wc bd 4 ((rowF o.steps.length (fun i => decide (i < s'.j))).map encB) ∧ Blk wc bu 4 ((rowF o.steps.length (fun i => decide (s'.k ≤ i))).map encB) ∧ Blk wc p 31 [.slice (some ⟨bd, 0, none⟩) o.steps.length o.steps.length, .slice (some ⟨bu, 0, none⟩) o.steps.length o.steps.length, .bool s'.asked, .bool s'.yes, .bool s'.turned, .bool s'.a0, .bool s'.a1, .bool s'.shipped, .bool false, .bool false, .bool false] ∧ Blk wc w.heap.size 24 [.int .i64 o.id, .int .i64 o.item, .int .i64 o.qty, .int .i64 o.client, .int .i64 o.price, .slice a o.steps.length c] ∧ Keeps (fun _ => False) w wc ∧ MsRow wc (some ⟨mg, mo, none⟩) L)
            case first =>
              rcases Hgo.out with ⟨x, hx, rfl, rfl, rfl, rfl, rfl, rfl, rfl, e⟩ | ⟨rfl, rfl, rfl, rfl, rfl, rfl, rfl, rfl, e⟩ | ⟨rfl, rfl, rfl, rfl, rfl, rfl, e⟩ | ⟨x, kk, hx, hkk, rfl, rfl, rfl, e⟩ | ⟨rfl, rfl, rfl, rfl, rfl, e⟩
              · as_aux_lemma =>
                  have e := (show _ = [] ++ [_] from e)
                  have hb := last_of (hL.out.symm.trans e) hl2.out hmm
                  obtain ⟨hmq, hini⟩ := hb
                  simp only [Ms.mk.injEq] at hmq
                  obtain ⟨rfl, rfl, rfl, rfl, rfl, rfl, rfl⟩ := hmq
                  have Hini := Kept.mk hini
                  clear e hini
                  have h8p := HP8.out
                  have h8o := HO8.out
                  have h8g := HG8.out
                  obtain ⟨y0, y1, y2, y3, y4, y5, y6, y7, y8, y9, y10⟩ := blk11 h8p
                  obtain ⟨x0, x1, x2, x3, x4, x5⟩ := blk6 h8o
                  have q0 := h8g.cell 0 rfl
                  have q1 := h8g.cell 1 rfl
                  have q2 := h8g.cell 2 rfl
                  have q3 := h8g.cell 3 rfl
                  have q4 := h8g.cell 4 rfl
                  have q5 := h8g.cell 5 rfl
                  have q6 := h8g.cell 6 rfl
                  have fp := h8p.frozen
                  clear h8p h8o h8g
                  have hsj := (List.getElem?_eq_some_iff.1 hx).1
                  obtain ⟨sg, so, rfl, hsg, s0, s1⟩ := (HL.out.quiet K8.out) j x hx
                  obtain ⟨z1, z2⟩ := x
                  dsimp only at s0 s1 q2 q5
                  have HX1 : Kept (∀ nq, Blk (((w8.drewN nq).setCell ⟨bd, j, none⟩ (.bool y)).setCell ⟨p, 4, none⟩ (.bool (!y))) bd 4 ((rowF o.steps.length (fun i => decide (i < (if y then j + 1 else j)))).map encB)) := ⟨fun nq => by
                    have h := ((HD8.out.drewN nq).set j (.bool y)).other (p := ⟨p, 4, none⟩) (fun e => n1 e.symm) (.bool (!y))
                    rw [rowF_put, rowF_congr (h' := fun i => decide (i < (if y then j + 1 else j))) (fun i hi => way_done y i j)] at h
                    exact h⟩
                  have HX2 : Kept (∀ nq, Blk (((w8.drewN nq).setCell ⟨bd, j, none⟩ (.bool y)).setCell ⟨p, 4, none⟩ (.bool (!y))) bu 4 _) := ⟨fun nq => ((HU8.out.drewN nq).other (p := ⟨bd, j, none⟩) (fun e => n3 e.symm) (.bool y)).other (p := ⟨p, 4, none⟩) (fun e => n2 e.symm) (.bool (!y))⟩
                  have HX3 : Kept (∀ nq, Blk (((w8.drewN nq).setCell ⟨bd, j, none⟩ (.bool y)).setCell ⟨p, 4, none⟩ (.bool (!y))) p 31 _) := ⟨fun nq => ((HP8.out.drewN nq).other (p := ⟨bd, j, none⟩) n1 (.bool y)).set 4 (.bool (!y))⟩
                  have HX4 : Kept (∀ nq, Blk (((w8.drewN nq).setCell ⟨bd, j, none⟩ (.bool y)).setCell ⟨p, 4, none⟩ (.bool (!y))) w.heap.size 24 _) := ⟨fun nq => ((HO8.out.drewN nq).other (p := ⟨bd, j, none⟩) HNE.out.2.2.2.2.1 (.bool y)).other (p := ⟨p, 4, none⟩) HNE.out.2.2.2.1 (.bool (!y))⟩
                  have HX5 : Kept (∀ nq, Keeps (fun _ => False) w (((w8.drewN nq).setCell ⟨bd, j, none⟩ (.bool y)).setCell ⟨p, 4, none⟩ (.bool (!y)))) := ⟨fun nq => ((K8.out.drewN nq).setCell (p := ⟨bd, j, none⟩) (.inl lwd) (.bool y)).setCell (p := ⟨p, 4, none⟩) (.inl lwp) (.bool (!y))⟩
                  have HX6 : Kept (∀ nq, MsRow (((w8.drewN nq).setCell ⟨bd, j, none⟩ (.bool y)).setCell ⟨p, 4, none⟩ (.bool (!y))) (some ⟨mg, mo, none⟩) L) := ⟨fun nq => HGL.out _ ((((Keeps.refl _ _).drewN nq).setCell (p := ⟨bd, j, none⟩) (.inr (.inr (.inl rfl))) (.bool y)).setCell (p := ⟨p, 4, none⟩) (.inr (.inl rfl)) (.bool (!y)))⟩
                  have hji : (j : Int) < o.steps.length := by omega
                  have cD : w8.cell? ⟨bd, j, none⟩ = some (.bool (decide (j < j))) := HD8.out.cell j (rowF_at hsj)
                  have fD := HD8.out.frozen j
                  go_wp2_with fail
                  go_quiet (fail)
                  go_wp2_with fail
                  go_meet
                  obtain ⟨r1, r2⟩ := go_do hsj y
                  refine ⟨⟨if y then j + 1 else j, o.steps.length, false, false, !y, false, false, false⟩, ⟨by rw [Hini.out]; exact r1, by rw [Hini.out]; exact r2⟩, ?_, ?_, ?_, ?_, ?_, ?_⟩
                  · exact HX1.out _
                  · exact HX2.out _
                  · exact HX3.out _
                  · exact HX4.out _
                  · exact HX5.out _
                  · exact HX6.out _
              · as_aux_lemma =>
                  have e := (show _ = [_] ++ [_] from e)
                  have hb := last_of (hL.out.symm.trans e) hl2.out hmm
                  obtain ⟨hmq, hini⟩ := hb
                  simp only [Ms.mk.injEq] at hmq
                  obtain ⟨rfl, rfl, rfl, rfl, rfl, rfl, rfl⟩ := hmq
                  have Hini := Kept.mk hini
                  clear e hini
                  have h8p := HP8.out
                  have h8o := HO8.out
                  have h8g := HG8.out
                  obtain ⟨y0, y1, y2, y3, y4, y5, y6, y7, y8, y9, y10⟩ := blk11 h8p
                  obtain ⟨x0, x1, x2, x3, x4, x5⟩ := blk6 h8o
                  have q0 := h8g.cell 0 rfl
                  have q1 := h8g.cell 1 rfl
                  have q2 := h8g.cell 2 rfl
                  have q3 := h8g.cell 3 rfl
                  have q4 := h8g.cell 4 rfl
                  have q5 := h8g.cell 5 rfl
                  have q6 := h8g.cell 6 rfl
                  have fp := h8p.frozen
                  clear h8p h8o h8g
                  go_wp2_with fail
                  go_meet
                  obtain ⟨r1, r2⟩ := go_ask (n := o.steps.length) y
                  refine ⟨⟨o.steps.length, o.steps.length, true, y, !y, false, false, false⟩, ⟨by rw [Hini.out]; exact r1, by rw [Hini.out]; exact r2⟩, ?_, ?_, ?_, ?_, ?_, ?_⟩
                  · exact ((HD8.out.other (p := ⟨p, 2, none⟩) (fun e => n1 e.symm) _).other (p := ⟨p, 3, none⟩) (fun e => n1 e.symm) _).other (p := ⟨p, 4, none⟩) (fun e => n1 e.symm) _
                  · exact ((HU8.out.other (p := ⟨p, 2, none⟩) (fun e => n2 e.symm) _).other (p := ⟨p, 3, none⟩) (fun e => n2 e.symm) _).other (p := ⟨p, 4, none⟩) (fun e => n2 e.symm) _
                  · exact ((HP8.out.set 2 _).set 3 _).set 4 _
                  · exact ((HO8.out.other (p := ⟨p, 2, none⟩) HNE.out.2.2.2.1 _).other (p := ⟨p, 3, none⟩) HNE.out.2.2.2.1 _).other (p := ⟨p, 4, none⟩) HNE.out.2.2.2.1 _
                  · exact ((K8.out.setCell (p := ⟨p, 2, none⟩) (.inl lwp) _).setCell (p := ⟨p, 3, none⟩) (.inl lwp) _).setCell (p := ⟨p, 4, none⟩) (.inl lwp) _
                  · exact HGL.out _ ((((Keeps.refl _ _).setCell (p := ⟨p, 2, none⟩) (.inr (.inl rfl)) _).setCell (p := ⟨p, 3, none⟩) (.inr (.inl rfl)) _).setCell (p := ⟨p, 4, none⟩) (.inr (.inl rfl)) _)
              · as_aux_lemma =>
                  have hb := last_of (hL.out.symm.trans e) hl2.out hmm
                  obtain ⟨hmq, hini⟩ := hb
                  simp only [Ms.mk.injEq] at hmq
                  obtain ⟨rfl, rfl, rfl, rfl, rfl, rfl, rfl⟩ := hmq
                  have Hini := Kept.mk hini
                  clear e hini
                  have h8p := HP8.out
                  have h8o := HO8.out
                  have h8g := HG8.out
                  obtain ⟨y0, y1, y2, y3, y4, y5, y6, y7, y8, y9, y10⟩ := blk11 h8p
                  obtain ⟨x0, x1, x2, x3, x4, x5⟩ := blk6 h8o
                  have q0 := h8g.cell 0 rfl
                  have q1 := h8g.cell 1 rfl
                  have q2 := h8g.cell 2 rfl
                  have q3 := h8g.cell 3 rfl
                  have q4 := h8g.cell 4 rfl
                  have q5 := h8g.cell 5 rfl
                  have q6 := h8g.cell 6 rfl
                  have fp := h8p.frozen
                  clear h8p h8o h8g
                  go_wp2_with fail
                  go_meet
                  obtain ⟨r1, r2⟩ := go_ship (n := o.steps.length) a0 a1 y
                  refine ⟨⟨o.steps.length, o.steps.length, true, true, false, a0, a1, y⟩, ⟨by dsimp only; rw [Hini.out, ackq_dec0 (.inl rfl), ackq_dec1 (.inl rfl)]; exact r1, by dsimp only; rw [Hini.out, ackq_dec0 (.inl rfl), ackq_dec1 (.inl rfl)]; exact r2⟩, ?_, ?_, ?_, ?_, ?_, ?_⟩
                  · exact HD8.out.other (p := ⟨p, 7, none⟩) (fun e => n1 e.symm) _
                  · exact HU8.out.other (p := ⟨p, 7, none⟩) (fun e => n2 e.symm) _
                  · exact HP8.out.set 7 _
                  · exact HO8.out.other (p := ⟨p, 7, none⟩) HNE.out.2.2.2.1 _
                  · exact K8.out.setCell (p := ⟨p, 7, none⟩) (.inl lwp) _
                  · exact HGL.out _ ((Keeps.refl _ _).setCell (p := ⟨p, 7, none⟩) (.inr (.inl rfl)) _)
              · as_aux_lemma =>
                  have hb := last_of (hL.out.symm.trans e) hl2.out hmm
                  obtain ⟨hmq, hini⟩ := hb
                  simp only [Ms.mk.injEq] at hmq
                  obtain ⟨rfl, rfl, rfl, rfl, rfl, rfl, rfl⟩ := hmq
                  have Hini := Kept.mk hini
                  clear e hini
                  have h8p := HP8.out
                  have h8o := HO8.out
                  have h8g := HG8.out
                  obtain ⟨y0, y1, y2, y3, y4, y5, y6, y7, y8, y9, y10⟩ := blk11 h8p
                  obtain ⟨x0, x1, x2, x3, x4, x5⟩ := blk6 h8o
                  have q0 := h8g.cell 0 rfl
                  have q1 := h8g.cell 1 rfl
                  have q2 := h8g.cell 2 rfl
                  have q3 := h8g.cell 3 rfl
                  have q4 := h8g.cell 4 rfl
                  have q5 := h8g.cell 5 rfl
                  have q6 := h8g.cell 6 rfl
                  have fp := h8p.frozen
                  clear h8p h8o h8g
                  have hsj := (List.getElem?_eq_some_iff.1 hx).1
                  obtain ⟨sg, so, rfl, hsg, s0, s1⟩ := (HL.out.quiet K8.out) kk x hx
                  obtain ⟨z1, z2⟩ := x
                  dsimp only at s0 s1 q2 q5
                  have HX1 : Kept (∀ nq, Blk ((w8.drewN nq).setCell ⟨bu, kk, none⟩ (.bool y)) bd 4 _) := ⟨fun nq => (HD8.out.drewN nq).other (p := ⟨bu, kk, none⟩) n3 (.bool y)⟩
                  have HX2 : Kept (∀ nq, Blk ((w8.drewN nq).setCell ⟨bu, kk, none⟩ (.bool y)) bu 4 ((rowF o.steps.length (fun i => decide ((if y then kk else k) ≤ i))).map encB)) := ⟨fun nq => by
                    have h := (HU8.out.drewN nq).set kk (.bool y)
                    rw [rowF_put, rowF_congr (h' := fun i => decide ((if y then kk else k) ≤ i)) (fun i hi => way_undone y i hkk)] at h
                    exact h⟩
                  have HX3 : Kept (∀ nq, Blk ((w8.drewN nq).setCell ⟨bu, kk, none⟩ (.bool y)) p 31 _) := ⟨fun nq => (HP8.out.drewN nq).other (p := ⟨bu, kk, none⟩) n2 (.bool y)⟩
                  have HX4 : Kept (∀ nq, Blk ((w8.drewN nq).setCell ⟨bu, kk, none⟩ (.bool y)) w.heap.size 24 _) := ⟨fun nq => (HO8.out.drewN nq).other (p := ⟨bu, kk, none⟩) HNE.out.2.2.2.2.2 (.bool y)⟩
                  have HX5 : Kept (∀ nq, Keeps (fun _ => False) w ((w8.drewN nq).setCell ⟨bu, kk, none⟩ (.bool y))) := ⟨fun nq => (K8.out.drewN nq).setCell (p := ⟨bu, kk, none⟩) (.inl lwu) (.bool y)⟩
                  have HX6 : Kept (∀ nq, MsRow ((w8.drewN nq).setCell ⟨bu, kk, none⟩ (.bool y)) (some ⟨mg, mo, none⟩) L) := ⟨fun nq => HGL.out _ (((Keeps.refl _ _).drewN nq).setCell (p := ⟨bu, kk, none⟩) (.inr (.inr (.inr rfl))) (.bool y))⟩
                  have hji : (kk : Int) < o.steps.length := by omega
                  have hku : decide (k ≤ kk) = false := by rw [decide_eq_false_iff_not]; omega
                  have cU : w8.cell? ⟨bu, kk, none⟩ = some (.bool (decide (k ≤ kk))) := HU8.out.cell kk (rowF_at hsj)
                  rw [hku] at cU
                  have fU := HU8.out.frozen kk
                  go_wp2_with fail
                  go_quiet (fail)
                  go_wp2_with fail
                  go_meet
                  obtain ⟨r1, r2⟩ := go_undo (n := o.steps.length) (kk := kk) hjn (by omega) asked a0 a1 y
                  rw [hkk] at r1 r2
                  refine ⟨⟨j, if y then kk else k, asked, false, true, a0, a1, false⟩, ⟨by dsimp only; rw [Hini.out, ackq_dec0 (.inr rfl), ackq_dec1 (.inr rfl)]; exact r1, by dsimp only; rw [Hini.out, ackq_dec0 (.inr rfl), ackq_dec1 (.inr rfl)]; exact r2⟩, ?_, ?_, ?_, ?_, ?_, ?_⟩
                  · exact HX1.out _
                  · exact HX2.out _
                  · exact HX3.out _
                  · exact HX4.out _
                  · exact HX5.out _
                  · exact HX6.out _
              · as_aux_lemma =>
                  have hb := last_of (hL.out.symm.trans e) hl2.out hmm
                  obtain ⟨hmq, hini⟩ := hb
                  simp only [Ms.mk.injEq] at hmq
                  obtain ⟨rfl, rfl, rfl, rfl, rfl, rfl, rfl⟩ := hmq
                  have Hini := Kept.mk hini
                  clear e hini
                  have h8p := HP8.out
                  have h8o := HO8.out
                  have h8g := HG8.out
                  obtain ⟨y0, y1, y2, y3, y4, y5, y6, y7, y8, y9, y10⟩ := blk11 h8p
                  obtain ⟨x0, x1, x2, x3, x4, x5⟩ := blk6 h8o
                  have q0 := h8g.cell 0 rfl
                  have q1 := h8g.cell 1 rfl
                  have q2 := h8g.cell 2 rfl
                  have q3 := h8g.cell 3 rfl
                  have q4 := h8g.cell 4 rfl
                  have q5 := h8g.cell 5 rfl
                  have q6 := h8g.cell 6 rfl
                  have fp := h8p.frozen
                  clear h8p h8o h8g
                  go_wp2_with fail
                  go_meet
                  obtain ⟨r1, r2⟩ := go_abort (n := o.steps.length) hjn asked a0 y
                  refine ⟨⟨j, 0, asked, false, true, a0, y, false⟩, ⟨by dsimp only; rw [Hini.out, ackq_dec0 (.inr rfl), ackq_dec2]; exact r1, by dsimp only; rw [Hini.out, ackq_dec0 (.inr rfl), ackq_dec2]; exact r2⟩, ?_, ?_, ?_, ?_, ?_, ?_⟩
                  · exact HD8.out.other (p := ⟨p, 6, none⟩) (fun e => n1 e.symm) _
                  · exact HU8.out.other (p := ⟨p, 6, none⟩) (fun e => n2 e.symm) _
                  · exact HP8.out.set 6 _
                  · exact HO8.out.other (p := ⟨p, 6, none⟩) HNE.out.2.2.2.1 _
                  · exact K8.out.setCell (p := ⟨p, 6, none⟩) (.inl lwp) _
                  · exact HGL.out _ ((Keeps.refl _ _).setCell (p := ⟨p, 6, none⟩) (.inr (.inl rfl)) _)
            case rest =>
            obtain ⟨s', hs', hD, hU, hP, hO, hK, hM⟩ := hcut
            obtain ⟨j', k', asked', yes', turned', b0, b1, shipped'⟩ := s'
            dsimp only at hs' hD hU hP
            have HD9 := Kept.mk hD
            have HU9 := Kept.mk hU
            have HP9 := Kept.mk hP
            have HO9 := Kept.mk hO
            have K9 := Kept.mk hK
            have HM9 := Kept.mk hM
            have hlv : (ll : Int) ≤ (vc : Int) := by omega
            have hsl3 := ms_upto (some ⟨mg, mo, none⟩) L.length ll vc (by omega)
            clear hD hU hP hO hK hM HGL HM8 HO8 HP8 HU8 HD8 HG8 K8
            obtain ⟨hlw, hlw2⟩ := HLW.out
            go_wp2_with fail
            clear hlw hlw2
            go_loopw [200] (fun i wz => ∃ q : Nat, q ≤ ll ∧ i = .int .i64 q ∧ Blk wz bd 4 ((rowF o.steps.length (fun i => decide (i < j'))).map encB) ∧ Blk wz bu 4 ((rowF o.steps.length (fun i => decide (k' ≤ i))).map encB) ∧ Blk wz p 31 [.slice (some ⟨bd, 0, none⟩) o.steps.length o.steps.length, .slice (some ⟨bu, 0, none⟩) o.steps.length o.steps.length, .bool asked', .bool yes', .bool turned', .bool (ackq 1 (L.take q) b0), .bool (ackq 2 (L.take q) b1), .bool shipped', .bool false, .bool false, .bool false] ∧ Blk wz w.heap.size 24 [.int .i64 o.id, .int .i64 o.item, .int .i64 o.qty, .int .i64 o.client, .int .i64 o.price, .slice a o.steps.length c] ∧ Keeps (fun _ => False) w wz ∧ MsRow wz (some ⟨mg, mo, none⟩) L) (fun i _ => ll - (intOf i).toNat)
            case atStart => exact ⟨0, Nat.zero_le _, rfl, HD9.out, HU9.out, by simpa [ackq] using HP9.out, HO9.out, K9.out, HM9.out⟩
            case round =>
              obtain ⟨q, hq, rfl, hD, hU, hP, hO, hK, hM⟩ := hrel
              have HD7 := Kept.mk hD
              have HU7 := Kept.mk hU
              have HP7 := Kept.mk hP
              have HO7 := Kept.mk hO
              have K7 := Kept.mk hK
              have HM7 := Kept.mk hM
              clear hD hU hP hO hK hM
              by_cases hql : q < ll
              · obtain ⟨x, hx⟩ : ∃ x, L[q]? = some x := ⟨_, List.getElem?_eq_getElem (by omega)⟩
                have hk := hHIN.out q x hql hx
                obtain ⟨mg', mo', e1, hgl7, c0⟩ := HM7.out q x hx
                simp only [Option.some.injEq, Addr.mk.injEq, and_true] at e1
                obtain ⟨rfl, rfl⟩ := e1
                have ha0 := Kept.mk (ackq_take (d := 1) (b := b0) hx)
                have ha1 := Kept.mk (ackq_take (d := 2) (b := b1) hx)
                obtain ⟨kd', sr', ds', id', st', ma', mb'⟩ := x
                dsimp only at hk ha0 ha1
                have m0 : wr.cell? ⟨mg, mo + q * 7, none⟩ = some (.int .i64 kd') := c0 0 _ rfl
                have m1 : wr.cell? ⟨mg, mo + q * 7 + 1, none⟩ = some (.int .i64 sr') := c0 1 _ rfl
                have m2 : wr.cell? ⟨mg, mo + q * 7 + 2, none⟩ = some (.int .i64 ds') := c0 2 _ rfl
                have m3 : wr.cell? ⟨mg, mo + q * 7 + 3, none⟩ = some (.int .i64 id') := c0 3 _ rfl
                have m4 : wr.cell? ⟨mg, mo + q * 7 + 4, none⟩ = some (.int .i64 st') := c0 4 _ rfl
                have m5 : wr.cell? ⟨mg, mo + q * 7 + 5, none⟩ = some (.int .i64 ma') := c0 5 _ rfl
                have m6 : wr.cell? ⟨mg, mo + q * 7 + 6, none⟩ = some (.int .i64 mb') := c0 6 _ rfl
                have hqi : (q : Int) < (ll : Int) := by omega
                have hvp : p < wr.heap.size := HP7.out.lt
                have hfp := HP7.out
                obtain ⟨y0, y1, y2, y3, y4, y5, y6, y7, y8, y9, y10⟩ := blk11 hfp
                have f5 := hfp.frozen 5
                have f6 := hfp.frozen 6
                clear c0 hx hfp
                have KA : ∀ b, Kept (Keeps (fun _ => False) wr (wr.alloc b)) := fun b => ⟨(Keeps.refl _ _).alloc b⟩
                have KP : ∀ b i v, Kept (Keeps (fun k => k = p) wr ((wr.setCell ⟨p, i, none⟩ v).alloc b)) := fun b i v => ⟨((Keeps.refl (fun k => k = p) wr).setCell (p := ⟨p, i, none⟩) (.inr rfl) v).alloc b⟩
                have HM7p : ∀ b i v, Kept (MsRow ((wr.setCell ⟨p, i, none⟩ v).alloc b) (some ⟨mg, mo, none⟩) L) := fun b i v => ⟨HM7.out.keeps (KP b i v).out (fun x hx => by cases hx; exact HNE.out.1)⟩
                rcases hk with rfl | ⟨hk9, hd⟩
                · have hb0 : Kept (ackq 1 (L.take (q + 1)) b0 = ackq 1 (L.take q) b0) := ⟨by rw [ha0.out]; simp⟩
                  have hb1 : Kept (ackq 2 (L.take (q + 1)) b1 = ackq 2 (L.take q) b1) := ⟨by rw [ha1.out]; simp⟩
                  clear ha0 ha1 KP HM7p
                  go_wp2_with fail
                  go_roundw
                  case rel => exact ⟨q + 1, by omega, by go_num, HD7.out.alloc _, HU7.out.alloc _, by rw [hb0.out, hb1.out]; exact HP7.out.alloc _, HO7.out.alloc _, K7.out.alloc _, HM7.out.quiet (KA _).out⟩
                  case measure => simp [intOf]; omega
                · rcases hd with rfl | rfl
                  · rcases hk9 with rfl | rfl
                    · have hb0 : Kept (ackq 1 (L.take (q + 1)) b0 = true) := ⟨by rw [ha0.out]; simp⟩
                      have hb1 : Kept (ackq 2 (L.take (q + 1)) b1 = ackq 2 (L.take q) b1) := ⟨by rw [ha1.out]; simp⟩
                      clear ha0 ha1 KA
                      go_wp2_with fail
                      go_roundw
                      case rel => exact ⟨q + 1, by omega, by go_num, (HD7.out.other (p := ⟨p, 5, none⟩) (fun e => n1 e.symm) _).alloc _, (HU7.out.other (p := ⟨p, 5, none⟩) (fun e => n2 e.symm) _).alloc _, by rw [hb0.out, hb1.out]; exact (HP7.out.set 5 _).alloc _, (HO7.out.other (p := ⟨p, 5, none⟩) HNE.out.2.2.2.1 _).alloc _, (K7.out.setCell (p := ⟨p, 5, none⟩) (.inl lwp) _).alloc _, (HM7p _ _ _).out⟩
                      case measure => simp [intOf]; omega
                    · have hb0 : Kept (ackq 1 (L.take (q + 1)) b0 = true) := ⟨by rw [ha0.out]; simp⟩
                      have hb1 : Kept (ackq 2 (L.take (q + 1)) b1 = ackq 2 (L.take q) b1) := ⟨by rw [ha1.out]; simp⟩
                      clear ha0 ha1 KA
                      go_wp2_with fail
                      go_roundw
                      case rel => exact ⟨q + 1, by omega, by go_num, (HD7.out.other (p := ⟨p, 5, none⟩) (fun e => n1 e.symm) _).alloc _, (HU7.out.other (p := ⟨p, 5, none⟩) (fun e => n2 e.symm) _).alloc _, by rw [hb0.out, hb1.out]; exact (HP7.out.set 5 _).alloc _, (HO7.out.other (p := ⟨p, 5, none⟩) HNE.out.2.2.2.1 _).alloc _, (K7.out.setCell (p := ⟨p, 5, none⟩) (.inl lwp) _).alloc _, (HM7p _ _ _).out⟩
                      case measure => simp [intOf]; omega
                  · rcases hk9 with rfl | rfl
                    · have hb0 : Kept (ackq 1 (L.take (q + 1)) b0 = ackq 1 (L.take q) b0) := ⟨by rw [ha0.out]; simp⟩
                      have hb1 : Kept (ackq 2 (L.take (q + 1)) b1 = true) := ⟨by rw [ha1.out]; simp⟩
                      clear ha0 ha1 KA
                      go_wp2_with fail
                      go_roundw
                      case rel => exact ⟨q + 1, by omega, by go_num, (HD7.out.other (p := ⟨p, 6, none⟩) (fun e => n1 e.symm) _).alloc _, (HU7.out.other (p := ⟨p, 6, none⟩) (fun e => n2 e.symm) _).alloc _, by rw [hb0.out, hb1.out]; exact (HP7.out.set 6 _).alloc _, (HO7.out.other (p := ⟨p, 6, none⟩) HNE.out.2.2.2.1 _).alloc _, (K7.out.setCell (p := ⟨p, 6, none⟩) (.inl lwp) _).alloc _, (HM7p _ _ _).out⟩
                      case measure => simp [intOf]; omega
                    · have hb0 : Kept (ackq 1 (L.take (q + 1)) b0 = ackq 1 (L.take q) b0) := ⟨by rw [ha0.out]; simp⟩
                      have hb1 : Kept (ackq 2 (L.take (q + 1)) b1 = true) := ⟨by rw [ha1.out]; simp⟩
                      clear ha0 ha1 KA
                      go_wp2_with fail
                      go_roundw
                      case rel => exact ⟨q + 1, by omega, by go_num, (HD7.out.other (p := ⟨p, 6, none⟩) (fun e => n1 e.symm) _).alloc _, (HU7.out.other (p := ⟨p, 6, none⟩) (fun e => n2 e.symm) _).alloc _, by rw [hb0.out, hb1.out]; exact (HP7.out.set 6 _).alloc _, (HO7.out.other (p := ⟨p, 6, none⟩) HNE.out.2.2.2.1 _).alloc _, (K7.out.setCell (p := ⟨p, 6, none⟩) (.inl lwp) _).alloc _, (HM7p _ _ _).out⟩
                      case measure => simp [intOf]; omega
              · obtain rfl : q = ll := by omega
                have hqq2 : ¬ (q : Int) < (q : Int) := by omega
                go_wp2_with fail
                go_roundw
                case rel => exact ⟨m + 1, ⟨j', k', asked', yes', turned', ackq 1 (L.take q) b0, ackq 2 (L.take q) b1, shipped'⟩, by omega, by go_num, ⟨hs'.out.1, way_step hs.out.2 hy.out hs'.out.1 hs'.out.2⟩, HD7.out, HU7.out, HP7.out, HO7.out, K7.out⟩
                case measure => simp [intOf]; omega

    · obtain rfl : m = 40 := by omega
      have h15 : 15 < al := Nat.lt_of_not_le (fun hc => by have h1 := hs.out.2 (by omega); omega)
      have h15i : (15 : Int) < (al : Int) := by omega
      have h40 : ¬ (40 : Int) < 40 := by omega
      clear y0 y1 y2 y3 y4 y5 y6 y7 y8 y9 y10 x0 x1 x2 x3 x4 x5 HD3 HU3 HP3 HO3 hs
      go_wp2_with fail
      refine (awake_to _).mono ?_
      rintro e w9 ⟨rfl, k9⟩
      go_wp2_with fail
      go_ret
      exact ⟨rfl, K3.out.trans k9⟩
theorem way_any (o : Ord) (a : Option Addr) (c : Nat) (ans : Option Addr) (al ac : Nat) (zs : Nat → Int) (w : World) (hL : StRow w a o.steps) (hc : o.steps.length ≤ c) (hcm : c ≤ maxLen) (hr : IntRow w ans al zs) (hal : (al : Int) ≤ 9223372036854775807) :
    Calls Try.prog 6 #[.agg #[.int .i64 o.id, .int .i64 o.item, .int .i64 o.qty, .int .i64 o.client, .int .i64 o.price, .slice a o.steps.length c], .slice ans al ac] w (Yes w) := by
  have key : Calls Try.prog 6 #[.agg #[.int .i64 o.id, .int .i64 o.item, .int .i64 o.qty, .int .i64 o.client, .int .i64 o.price, .slice a o.steps.length c], .slice ans al ac] w (fun e w' => e = .returned (.bool true) ∧ Keeps (fun _ => False) w w') := by
    cases hm : o.may with
    | false => exact way_not o a c ans al ac zs w hL hc hcm hr hal hm
    | true => exact way_walk o a c ans al ac zs w hL hc hcm hr hal hm
  exact key.mono fun _ _ ⟨he, k⟩ => ⟨he, k.below (Nat.le_refl _) (fun _ h => h.elim)⟩
end Go.Proofs.Ytfcnegnkmacajaa
