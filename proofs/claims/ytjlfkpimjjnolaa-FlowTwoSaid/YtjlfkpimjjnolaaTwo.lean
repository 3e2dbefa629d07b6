/- The law FlowTwo, walked. (printed by gen/two.py) -/
import Derived.Test.YtjlfkpimjjnolaaAwake6
import Derived.Test.YtjlfkpimjjnolaaTwoLaw
import Derived.Test.YtjlfkpimjjnolaaCutAc
import Derived.Test.YtjlfkpimjjnolaaOpen3
namespace Go.Proofs.Ytjlfkpimjjnolaa
open Go.RowKit
set_option linter.unusedSimpArgs false in
set_option linter.unusedVariables false in
set_option maxRecDepth 100000 in
set_option maxHeartbeats 16000000 in
theorem two_any (o : Ord) (a b : Option Addr) (c d : Nat) (L : List Act2) (w : World) (hL : StRow w a o.steps) (hc1 : o.steps.length ≤ c) (hc2 : c ≤ maxLen) (hA : AcRow w b L) (hd0 : L.length ≤ d) (hd1 : d ≤ maxLen) :
    Calls Try.prog 4 #[.agg #[.int .i64 o.id, .int .i64 o.item, .int .i64 o.qty, .int .i64 o.client, .int .i64 o.price, .slice a o.steps.length c], .slice b L.length d] w (Yes w) := by
  have hm : o.steps.length ≤ maxLen := Nat.le_trans hc1 hc2
  have hmi : (o.steps.length : Int) ≤ 9223372036854775807 := by unfold maxLen at hm; omega
  have hdi : (L.length : Int) ≤ 9223372036854775807 := by unfold maxLen at hd1; omega
  have HO := Kept.mk (Blk.new w 24 [.int .i64 o.id, .int .i64 o.item, .int .i64 o.qty, .int .i64 o.client, .int .i64 o.price, .slice a o.steps.length c])
  have K0 := Kept.mk ((Keeps.refl (fun _ => False) w).alloc (.cells #[.int .i64 o.id, .int .i64 o.item, .int .i64 o.qty, .int .i64 o.client, .int .i64 o.price, .slice a o.steps.length c] 24))
  have HL := Kept.mk hL
  have HA := Kept.mk hA
  have HM := Kept.mk hm
  clear hL hA hm
  by_cases h20 : (20 : Int) < o.steps.length
  · go_enter Try.func4, Try.ntmps4
    go_wp2_with fail
    refine (awake6_any _).mono ?_
    rintro e w5 ⟨rfl, b5⟩
    go_wp2_with fail
    go_ret
    exact ⟨rfl, ((Below.refl _ w).alloc (Nat.le_refl _) _).trans (b5.mono (by simp))⟩
  by_cases h60 : (60 : Int) < L.length
  · go_enter Try.func4, Try.ntmps4
    go_wp2_with fail
    refine (awake6_any _).mono ?_
    rintro e w5 ⟨rfl, b5⟩
    go_wp2_with fail
    go_ret
    exact ⟨rfl, ((Below.refl _ w).alloc (Nat.le_refl _) _).trans (b5.mono (by simp))⟩
  have HML : Kept (L.length ≤ maxLen) := ⟨by unfold maxLen; omega⟩
  obtain ⟨N, hN⟩ : ∃ N, legalN o L = N := ⟨_, rfl⟩
  have hNl : N ≤ L.length := by rw [← hN]; exact legal_le o L
  have HN := Kept.mk hN
  clear hN
  have hnn : ¬ (N : Int) < 0 := by omega
  have hnl : ¬ (L.length : Int) < (N : Int) := by omega
  have hnd : (N : Int) ≤ (d : Int) := by omega
  have hsn := ac_upto b L.length N d (by omega)
  go_enter Try.func4, Try.ntmps4
  go_wp2_with fail
  refine (legal_of o a b c d L.length L N _ (HL.out.alloc _) HM.out (HA.out.alloc _) rfl HML.out HN.out).mono ?_
  rintro e w1 ⟨rfl, k1⟩
  have K1 := Kept.mk (K0.out.trans k1)
  have HA1 := Kept.mk (HA.out.quiet K1.out)
  have hw1 : w.heap.size < w1.heap.size := by have := k1.size; simp at this; omega
  have K2 := Kept.mk ((K1.out.alloc (.cells #[.int .i64 (-1), .int .i64 (-1), .int .i64 (-1), .int .i64 (-1)] 32)).alloc (.cells #[.int .i64 (-1), .int .i64 (-1), .int .i64 (-1), .int .i64 (-1)] 32))
  obtain ⟨pd, hpd⟩ : ∃ p, p = w1.heap.size := ⟨_, rfl⟩
  obtain ⟨pu, hpu⟩ : ∃ p, p = w1.heap.size + 1 := ⟨_, rfl⟩
  have HD0 := Kept.mk ((Blk.newT w1 32 [.int .i64 (-1), .int .i64 (-1), .int .i64 (-1), .int .i64 (-1)] pd hpd).alloc (.cells #[.int .i64 (-1), .int .i64 (-1), .int .i64 (-1), .int .i64 (-1)] 32))
  have HU0 := Kept.mk (Blk.newT (w1.alloc (.cells #[.int .i64 (-1), .int .i64 (-1), .int .i64 (-1), .int .i64 (-1)] 32)) 32 [.int .i64 (-1), .int .i64 (-1), .int .i64 (-1), .int .i64 (-1)] pu (by rw [hpu]; simp))
  have hpdu : pd ≠ pu := by omega
  have hwd : w.heap.size < pd := by omega
  have hwu : w.heap.size < pu := by omega
  clear k1 HO K0
  go_wp2_with fail
  rw [← hpu, ← hpd]
  clear hpd hpu
  have H0 : Kept (0 < N → MInv o [] Sty.zero) := ⟨fun h => MInv.zero (legal_no (o := o) (L := L) (by rw [HN.out]; exact h))⟩
  go_loopw [6, 7, 39] (fun v6 v7 i wr => ∃ (k : Nat) (s : Sty) (y n d0 d1 d2 d3 u0 u1 u2 u3 : Int), k ≤ N ∧ i = .int .i64 k ∧ v6 = .int .i64 y ∧ v7 = .int .i64 n ∧ Sgn s y n d0 d1 d2 d3 u0 u1 u2 u3 ∧ (0 < N → MInv o (L.take k) s) ∧ (k = 0 → y < 0) ∧ Blk wr pd 32 [.int .i64 d0, .int .i64 d1, .int .i64 d2, .int .i64 d3] ∧ Blk wr pu 32 [.int .i64 u0, .int .i64 u1, .int .i64 u2, .int .i64 u3] ∧ Keeps (fun _ => False) w wr) (fun _ _ i _ => N - (intOf i).toNat)
  case atStart => exact ⟨0, _, _, _, _, _, _, _, _, _, _, _, Nat.zero_le _, rfl, rfl, rfl, sgn_zero, by simpa using H0.out, (fun _ => by omega), HD0.out, HU0.out, K2.out⟩
  case round =>
    obtain ⟨k, s, y, n, d0, d1, d2, d3, u0, u1, u2, u3, hk, rfl, rfl, rfl, hG, hI, hy0, hD, hU, hK⟩ := hrel
    have HG := Kept.mk hG
    have HI0 := Kept.mk hI
    have HD := Kept.mk hD
    have HU := Kept.mk hU
    have KR := Kept.mk hK
    clear hG hI HD0 HU0 K2 H0 hK
    by_cases hlt : k < N
    · obtain ⟨x, hx⟩ : ∃ x, L[k]? = some x := ⟨_, List.getElem?_eq_getElem (by omega)⟩
      have HI := Kept.mk (HI0.out (by omega))
      have hm := legal_may HI.out (by rw [HN.out]; exact hlt) hx
      obtain ⟨g, off, rfl, hl, e0, e1⟩ := HA.out k x hx
      have f0 : wr.cell? ⟨g, off + k * 2, none⟩ = some (.int .i64 x.1) := (KR.out.cell (p := ⟨g, off + k * 2, none⟩) hl (fun h => h)).trans e0
      have f1 : wr.cell? ⟨g, off + k * 2 + 1, none⟩ = some (.int .i64 x.2) := (KR.out.cell (p := ⟨g, off + k * 2 + 1, none⟩) hl (fun h => h)).trans e1
      have hI2 : s.may x o.steps.length = true → (0 < N → MInv o (L.take (k + 1)) (s.note x.1)) := fun h _ => by
        rw [List.take_add_one, hx]
        exact HI.out.step h
      obtain ⟨x1, x2⟩ := x
      dsimp only at f0 f1 hI2
      have cd0 := hD.cell 0 rfl
      have cd1 := hD.cell 1 rfl
      have cd2 := hD.cell 2 rfl
      have cd3 := hD.cell 3 rfl
      have cdf0 := hD.frozen 0
      have cdf1 := hD.frozen 1
      have cdf2 := hD.frozen 2
      have cu0 := hU.cell 0 rfl
      have cu1 := hU.cell 1 rfl
      have cu2 := hU.cell 2 rfl
      have cu3 := hU.cell 3 rfl
      have cuf0 := hU.frozen 0
      have cuf1 := hU.frozen 1
      have cuf2 := hU.frozen 2
      have hdl := hD.lt
      have hul := hU.lt
      have hki : (k : Int) < (N : Int) := by omega
      clear e0 e1 hx hD hU HI0 hy0
      rcases two_cases HI.out hm with rfl | rfl | rfl | ⟨rfl, rfl | rfl | rfl⟩ | ⟨rfl, rfl | rfl | rfl⟩
      · have hs := sgn_13 (k := k) HI.out HG.out hm
        have HS := Kept.mk hs
        have HIn := Kept.mk (hI2 hm)
        clear hs hm hI2
        go_wp2_with fail
        go_roundw
        case rel => exact ⟨k + 1, _, k, n, d0, d1, d2, d3, u0, u1, u2, u3, by omega, by go_num, rfl, rfl, by simpa using HS.out, HIn.out, (fun h => by omega), (HD.out.alloc _), (HU.out.alloc _), (KR.out.alloc _)⟩
        case measure => simp [intOf]; omega
      · have hs := sgn_14 (k := k) HI.out HG.out hm
        have HS := Kept.mk hs
        have HIn := Kept.mk (hI2 hm)
        clear hs hm hI2
        go_wp2_with fail
        go_roundw
        case rel => exact ⟨k + 1, _, y, k, d0, d1, d2, d3, u0, u1, u2, u3, by omega, by go_num, rfl, rfl, by simpa using HS.out, HIn.out, (fun h => by omega), (HD.out.alloc _), (HU.out.alloc _), (KR.out.alloc _)⟩
        case measure => simp [intOf]; omega
      · have hs := sgn_16 (k := k) HI.out HG.out hm
        obtain ⟨hu1, -, -⟩ := use_16 (k := k) HI.out HG.out hm
        have HS := Kept.mk hs
        have HIn := Kept.mk (hI2 hm)
        clear hs hm hI2
        go_wp2_with fail
        go_roundw
        case rel => exact ⟨k + 1, _, y, n, d0, d1, d2, d3, u0, u1, u2, u3, by omega, by go_num, rfl, rfl, by simpa using HS.out, HIn.out, (fun h => by omega), (HD.out.alloc _), (HU.out.alloc _), (KR.out.alloc _)⟩
        case measure => simp [intOf]; omega
      · have hs := sgn_2_0 (k := k) HI.out HG.out hm
        obtain ⟨hu1, -, -⟩ := use_2_0 (k := k) HI.out HG.out hm
        have HS := Kept.mk hs
        have HIn := Kept.mk (hI2 hm)
        clear hs hm hI2
        go_wp2_with fail
        go_roundw
        case rel => exact ⟨k + 1, _, y, n, k, d1, d2, d3, u0, u1, u2, u3, by omega, by go_num, rfl, rfl, by simpa using HS.out, HIn.out, (fun h => by omega), ((HD.out.set 0 _).alloc _), ((HU.out.other (p := ⟨pd, 0, none⟩) (by show pu ≠ pd; omega) _).alloc _), ((KR.out.setCell (p := ⟨pd, 0, none⟩) (.inl (by show w.heap.size ≤ pd; omega)) _).alloc _)⟩
        case measure => simp [intOf]; omega
      · have hs := sgn_2_1 (k := k) HI.out HG.out hm
        obtain ⟨hu1, hu2, -⟩ := use_2_1 (k := k) HI.out HG.out hm
        have HS := Kept.mk hs
        have HIn := Kept.mk (hI2 hm)
        clear hs hm hI2
        go_wp2_with fail
        go_roundw
        case rel => exact ⟨k + 1, _, y, n, d0, k, d2, d3, u0, u1, u2, u3, by omega, by go_num, rfl, rfl, by simpa using HS.out, HIn.out, (fun h => by omega), ((HD.out.set 1 _).alloc _), ((HU.out.other (p := ⟨pd, 1, none⟩) (by show pu ≠ pd; omega) _).alloc _), ((KR.out.setCell (p := ⟨pd, 1, none⟩) (.inl (by show w.heap.size ≤ pd; omega)) _).alloc _)⟩
        case measure => simp [intOf]; omega
      · have hs := sgn_2_2 (k := k) HI.out HG.out hm
        obtain ⟨hu1, hu2, -⟩ := use_2_2 (k := k) HI.out HG.out hm
        have HS := Kept.mk hs
        have HIn := Kept.mk (hI2 hm)
        clear hs hm hI2
        go_wp2_with fail
        go_roundw
        case rel => exact ⟨k + 1, _, y, n, d0, d1, k, d3, u0, u1, u2, u3, by omega, by go_num, rfl, rfl, by simpa using HS.out, HIn.out, (fun h => by omega), ((HD.out.set 2 _).alloc _), ((HU.out.other (p := ⟨pd, 2, none⟩) (by show pu ≠ pd; omega) _).alloc _), ((KR.out.setCell (p := ⟨pd, 2, none⟩) (.inl (by show w.heap.size ≤ pd; omega)) _).alloc _)⟩
        case measure => simp [intOf]; omega
      · obtain ⟨hu1, hu2, hu3⟩ := use_5_0 (k := k) HI.out HG.out hm
        have hs := sgn_5_0 (k := k) HI.out HG.out hm
        have HS := Kept.mk hs
        have HIn := Kept.mk (hI2 hm)
        clear hs hm hI2
        by_cases hu4 : u1 < 0
        · have hu5 := hu3 hu4
          clear hu3
          go_wp2_with fail
          go_roundw
          case rel => exact ⟨k + 1, _, y, n, d0, d1, d2, d3, k, u1, u2, u3, by omega, by go_num, rfl, rfl, by simpa using HS.out, HIn.out, (fun h => by omega), ((HD.out.other (p := ⟨pu, 0, none⟩) (by show pd ≠ pu; omega) _).alloc _), ((HU.out.set 0 _).alloc _), ((KR.out.setCell (p := ⟨pu, 0, none⟩) (.inl (by show w.heap.size ≤ pu; omega)) _).alloc _)⟩
          case measure => simp [intOf]; omega
        · clear hu3
          go_wp2_with fail
          go_roundw
          case rel => exact ⟨k + 1, _, y, n, d0, d1, d2, d3, k, u1, u2, u3, by omega, by go_num, rfl, rfl, by simpa using HS.out, HIn.out, (fun h => by omega), ((HD.out.other (p := ⟨pu, 0, none⟩) (by show pd ≠ pu; omega) _).alloc _), ((HU.out.set 0 _).alloc _), ((KR.out.setCell (p := ⟨pu, 0, none⟩) (.inl (by show w.heap.size ≤ pu; omega)) _).alloc _)⟩
          case measure => simp [intOf]; omega
      · obtain ⟨hu1, hu2, hu3⟩ := use_5_1 (k := k) HI.out HG.out hm
        have hs := sgn_5_1 (k := k) HI.out HG.out hm
        have HS := Kept.mk hs
        have HIn := Kept.mk (hI2 hm)
        clear hs hm hI2
        by_cases hu4 : u2 < 0
        · have hu5 := hu3 hu4
          clear hu3
          go_wp2_with fail
          go_roundw
          case rel => exact ⟨k + 1, _, y, n, d0, d1, d2, d3, u0, k, u2, u3, by omega, by go_num, rfl, rfl, by simpa using HS.out, HIn.out, (fun h => by omega), ((HD.out.other (p := ⟨pu, 1, none⟩) (by show pd ≠ pu; omega) _).alloc _), ((HU.out.set 1 _).alloc _), ((KR.out.setCell (p := ⟨pu, 1, none⟩) (.inl (by show w.heap.size ≤ pu; omega)) _).alloc _)⟩
          case measure => simp [intOf]; omega
        · clear hu3
          go_wp2_with fail
          go_roundw
          case rel => exact ⟨k + 1, _, y, n, d0, d1, d2, d3, u0, k, u2, u3, by omega, by go_num, rfl, rfl, by simpa using HS.out, HIn.out, (fun h => by omega), ((HD.out.other (p := ⟨pu, 1, none⟩) (by show pd ≠ pu; omega) _).alloc _), ((HU.out.set 1 _).alloc _), ((KR.out.setCell (p := ⟨pu, 1, none⟩) (.inl (by show w.heap.size ≤ pu; omega)) _).alloc _)⟩
          case measure => simp [intOf]; omega
      · obtain ⟨hu1, hu2, hu3⟩ := use_5_2 (k := k) HI.out HG.out hm
        have hs := sgn_5_2 (k := k) HI.out HG.out hm
        have HS := Kept.mk hs
        have HIn := Kept.mk (hI2 hm)
        clear hs hm hI2
        by_cases hu4 : u3 < 0
        · have hu5 := hu3 hu4
          clear hu3
          go_wp2_with fail
          go_roundw
          case rel => exact ⟨k + 1, _, y, n, d0, d1, d2, d3, u0, u1, k, u3, by omega, by go_num, rfl, rfl, by simpa using HS.out, HIn.out, (fun h => by omega), ((HD.out.other (p := ⟨pu, 2, none⟩) (by show pd ≠ pu; omega) _).alloc _), ((HU.out.set 2 _).alloc _), ((KR.out.setCell (p := ⟨pu, 2, none⟩) (.inl (by show w.heap.size ≤ pu; omega)) _).alloc _)⟩
          case measure => simp [intOf]; omega
        · clear hu3
          go_wp2_with fail
          go_roundw
          case rel => exact ⟨k + 1, _, y, n, d0, d1, d2, d3, u0, u1, k, u3, by omega, by go_num, rfl, rfl, by simpa using HS.out, HIn.out, (fun h => by omega), ((HD.out.other (p := ⟨pu, 2, none⟩) (by show pd ≠ pu; omega) _).alloc _), ((HU.out.set 2 _).alloc _), ((KR.out.setCell (p := ⟨pu, 2, none⟩) (.inl (by show w.heap.size ≤ pu; omega)) _).alloc _)⟩
          case measure => simp [intOf]; omega
    · obtain rfl : k = N := by omega
      have hkl : ¬ (k : Int) < (k : Int) := by omega
      by_cases hy : y < 0
      · go_wp2_with fail
        refine (awake6_any _).mono ?_
        rintro e w5 ⟨rfl, b5⟩
        go_wp2_with fail
        go_ret
        exact ⟨rfl, (KR.out.below (Nat.le_refl _) (fun _ h => h.elim)).trans (b5.mono KR.out.size)⟩
      · have hn : n < 0 := by
          rcases Nat.eq_zero_or_pos k with h0 | h0
          · exact absurd (hy0 h0) hy
          · exact two_end (HI0.out h0) HG.out hy
        go_wp2_with fail
        refine (awake6_any _).mono ?_
        rintro e w5 ⟨rfl, b5⟩
        go_wp2_with fail
        go_ret
        exact ⟨rfl, (KR.out.below (Nat.le_refl _) (fun _ h => h.elim)).trans (b5.mono KR.out.size)⟩
end Go.Proofs.Ytjlfkpimjjnolaa
