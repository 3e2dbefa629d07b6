/- The law FlowBegins, walked. (printed by gen/begins.py) -/
import Derived.Test.YtjlfkpimjjnolaaAwake6
import Derived.Test.YtjlfkpimjjnolaaFlowLaw
import Derived.Test.YtjlfkpimjjnolaaCutAc
import Derived.Test.YtjlfkpimjjnolaaOpen3
import Derived.Deep.RegionHeld3
namespace Go.Proofs.Ytjlfkpimjjnolaa
open Go.RowKit
theorem begins_keep {W : World} {p : Nat} {T : TypeId} {v0 v1 v2 v3 v4 v5 : Value} (h : Blk W p T [v0, v1, v2, v3, v4, v5]) : W.cell? ⟨p, 0, none⟩ = some v0 ∧ W.cell? ⟨p, 1, none⟩ = some v1 ∧ W.cell? ⟨p, 2, none⟩ = some v2 ∧ W.cell? ⟨p, 3, none⟩ = some v3 ∧ W.cell? ⟨p, 4, none⟩ = some v4 ∧ W.cell? ⟨p, 5, none⟩ = some v5 :=
  ⟨h.cell 0 rfl, h.cell 1 rfl, h.cell 2 rfl, h.cell 3 rfl, h.cell 4 rfl, h.cell 5 rfl⟩
theorem acRow_take {w : World} {b : Option Addr} {L : List Act2} (h : AcRow w b L) (k : Nat) : AcRow w b (L.take k) := by
  intro i x hx
  rw [List.getElem?_take] at hx
  split at hx
  · exact h i x hx
  · cases hx
set_option linter.unusedSimpArgs false in
set_option linter.unusedVariables false in
set_option maxRecDepth 100000 in
set_option maxHeartbeats 16000000 in
theorem begins_any (o : Ord) (a b : Option Addr) (c d : Nat) (L : List Act2) (cut : Int) (w : World) (hL : StRow w a o.steps) (hc1 : o.steps.length ≤ c) (hc2 : c ≤ maxLen) (hA : AcRow w b L) (hd0 : L.length ≤ d) (hd1 : d ≤ maxLen) :
    Calls Try.prog 3 #[.agg #[.int .i64 o.id, .int .i64 o.item, .int .i64 o.qty, .int .i64 o.client, .int .i64 o.price, .slice a o.steps.length c], .slice b L.length d, .int .i64 cut] w (Yes w) := by
  have hm : o.steps.length ≤ maxLen := Nat.le_trans hc1 hc2
  have hmi : (o.steps.length : Int) ≤ 9223372036854775807 := by unfold maxLen at hm; omega
  have hdi : (L.length : Int) ≤ 9223372036854775807 := by unfold maxLen at hd1; omega
  have HO := Kept.mk (Blk.new w 24 [.int .i64 o.id, .int .i64 o.item, .int .i64 o.qty, .int .i64 o.client, .int .i64 o.price, .slice a o.steps.length c])
  have K0 := Kept.mk ((Keeps.refl (fun _ => False) w).alloc (.cells #[.int .i64 o.id, .int .i64 o.item, .int .i64 o.qty, .int .i64 o.client, .int .i64 o.price, .slice a o.steps.length c] 24))
  have HL := Kept.mk hL
  have HA := Kept.mk hA
  have HM := Kept.mk hm
  clear hL hA hm
  by_cases h20 : (20 : Int) < o.steps.length
  · go_enter Try.func3, Try.ntmps3
    go_wp2_with fail
    refine (awake6_any _).mono ?_
    rintro e w5 ⟨rfl, b5⟩
    go_wp2_with fail
    go_ret
    exact ⟨rfl, ((Below.refl _ w).alloc (Nat.le_refl _) _).trans (b5.mono (by simp))⟩
  by_cases h60 : (60 : Int) < L.length
  · go_enter Try.func3, Try.ntmps3
    go_wp2_with fail
    refine (awake6_any _).mono ?_
    rintro e w5 ⟨rfl, b5⟩
    go_wp2_with fail
    go_ret
    exact ⟨rfl, ((Below.refl _ w).alloc (Nat.le_refl _) _).trans (b5.mono (by simp))⟩
  have HML : Kept (L.length ≤ maxLen) := ⟨by unfold maxLen; omega⟩
  obtain ⟨N, hN⟩ : ∃ N, legalN o L = N := ⟨_, rfl⟩
  have hNl : N ≤ L.length := by rw [← hN]; exact legal_le o L
  have HN := Kept.mk hN
  clear hN
  have hkk := mod_range cut (L.length + 1) (by omega) (by omega)
  obtain ⟨qi, Hq⟩ : ∃ q, Kept (wrap64 ((IntKind.u64.wrap cut).tmod (↑L.length + 1)) = q) := ⟨_, ⟨rfl⟩⟩
  rw [Hq.out] at hkk
  obtain ⟨q, rfl⟩ := Int.eq_ofNat_of_zero_le hkk.1
  have hqn : q ≤ L.length := by omega
  have hnn : ¬ (N : Int) < 0 := by omega
  have hnl : ¬ (L.length : Int) < (N : Int) := by omega
  clear hkk
  go_enter Try.func3, Try.ntmps3
  go_wp2_with fail
  refine (legal_of o a b c d L.length L N _ (HL.out.alloc _) HM.out (HA.out.alloc _) rfl HML.out HN.out).mono ?_
  rintro e w1 ⟨rfl, k1⟩
  have HO1 := Kept.mk (HO.out.keeps k1 (fun h => h))
  have K1 := Kept.mk (K0.out.trans k1)
  have HL1 := Kept.mk (HL.out.quiet K1.out)
  have HA1 := Kept.mk (HA.out.quiet K1.out)
  clear k1 HO K0
  go_wp2_with fail
  rw [Hq.out]
  clear Hq
  have hsl := ac_upto b L.length q d (by omega)
  have hsn := ac_upto b L.length N d (by omega)
  have KC : Kept (Keeps (fun _ => False) w1 w1.drew) := ⟨(Keeps.refl _ _).drew⟩
  have hqm : (q : Int) ≤ (d : Int) := by omega
  have HQ : Kept ((L.take q).length = q) := ⟨by rw [List.length_take]; omega⟩
  have HQM : Kept (q ≤ maxLen) := ⟨by unfold maxLen; omega⟩
  rcases Nat.lt_or_ge N q with hqN | hqN
  · have HR : Kept (legalN o (L.take q) = N) := ⟨by rw [legal_take, HN.out]; omega⟩
    have hc1' : (N : Int) < (q : Int) := by omega
    have hc2' : ¬ (q : Int) ≤ (N : Int) := by omega
    have hc3' : ¬ (q : Int) < (N : Int) := by omega
    have hc4' : (N : Int) ≤ (q : Int) := by omega
    go_region_held3 (fun W => W.cell? ⟨w.heap.size, 0, none⟩ = some (.int .i64 o.id) ∧ W.cell? ⟨w.heap.size, 1, none⟩ = some (.int .i64 o.item) ∧ W.cell? ⟨w.heap.size, 2, none⟩ = some (.int .i64 o.qty) ∧ W.cell? ⟨w.heap.size, 3, none⟩ = some (.int .i64 o.client) ∧ W.cell? ⟨w.heap.size, 4, none⟩ = some (.int .i64 o.price) ∧ W.cell? ⟨w.heap.size, 5, none⟩ = some (.slice a o.steps.length c)) (exact begins_keep (HO1.out.keeps KC.out (fun h => h))) (first
      | (go_at_call 12; with_reducible refine (legal_of o a b c d q (L.take q) N _ (HL1.out.quiet KC.out) HM.out (acRow_take (HA1.out.quiet KC.out) q) HQ.out HQM.out HR.out).mono ?_; rintro e w6 ⟨rfl, k6⟩; have KC := Kept.mk (KC.out.trans k6); clear k6))
    all_goals
      have KE := Kept.mk (K1.out.trans KC.out)
      clear HR KC hsl
      go_wp2_with fail
      go_loopw [54] (fun i wr => ∃ k : Nat, k ≤ N ∧ i = .int .i64 k ∧ Keeps (fun _ => False) w wr) (fun i _ => N - (intOf i).toNat)
      case atStart => exact ⟨0, Nat.zero_le _, rfl, KE.out⟩
      case round =>
        obtain ⟨k, hk, rfl, hK⟩ := hrel
        have KR := Kept.mk hK
        clear hK
        by_cases hlt : k < N
        · obtain ⟨y, hy⟩ : ∃ y, L[k]? = some y := ⟨_, List.getElem?_eq_getElem (by omega)⟩
          obtain ⟨g, off, rfl, hl, e0, e1⟩ := HA.out k y hy
          have f0 : wr.cell? ⟨g, off + k * 2, none⟩ = some (.int .i64 y.1) := (KR.out.cell (p := ⟨g, off + k * 2, none⟩) hl (fun h => h)).trans e0
          have f1 : wr.cell? ⟨g, off + k * 2 + 1, none⟩ = some (.int .i64 y.2) := (KR.out.cell (p := ⟨g, off + k * 2 + 1, none⟩) hl (fun h => h)).trans e1
          obtain ⟨y1, y2⟩ := y
          dsimp only at f0 f1
          have hki : (k : Int) < (N : Int) := by omega
          have hsk := ac_upto (some ⟨g, off, none⟩) L.length k d (by omega)
          have hkd : (k : Int) ≤ (d : Int) := by omega
          have HY := Kept.mk (Blk.newT wr 30 [.int .i64 y1, .int .i64 y2] _ rfl)
          have K2 := Kept.mk (KR.out.alloc (.cells #[.int .i64 y1, .int .i64 y2] 30))
          clear e0 e1
          go_wp2_with fail
          go_loopw [63] (fun i wq => ∃ j : Nat, j ≤ k ∧ i = .int .i64 j ∧ Keeps (fun _ => False) w wq ∧ Blk wq wr.heap.size 30 [.int .i64 y1, .int .i64 y2]) (fun i _ => k - (intOf i).toNat)
          case atStart => exact ⟨0, Nat.zero_le _, rfl, K2.out, HY.out⟩
          case round =>
            obtain ⟨j, hj, rfl, hK, hB⟩ := hrel
            have KQ := Kept.mk hK
            have HB := Kept.mk hB
            have b0 := hB.cell 0 rfl
            have b1 := hB.cell 1 rfl
            have hbl := hB.lt
            clear hK hB f0 f1
            by_cases hltj : j < k
            · obtain ⟨x, hx⟩ : ∃ x, L[j]? = some x := ⟨_, List.getElem?_eq_getElem (by omega)⟩
              obtain ⟨g', off', eg, hl', e0, e1⟩ := HA.out j x hx
              simp only [Option.some.injEq, Addr.mk.injEq, and_true] at eg
              obtain ⟨rfl, rfl⟩ := eg
              have f0 := (KQ.out.cell (p := ⟨g, off + j * 2, none⟩) hl (fun h => h)).trans e0
              have f1 := (KQ.out.cell (p := ⟨g, off + j * 2 + 1, none⟩) hl (fun h => h)).trans e1
              have hne := legal_apart (o := o) hltj (by rw [HN.out]; exact hlt) hx hy
              obtain ⟨x1, x2⟩ := x
              dsimp only at f0 f1
              have hji : (j : Int) < (k : Int) := by omega
              by_cases h1 : y1 = x1
              · subst h1
                have h2 : ¬ y2 = x2 := fun e => hne (by rw [e])
                clear hne hx hy e0 e1
                go_wp2_with fail
                go_roundw
                case rel => exact ⟨j + 1, by omega, by go_num, KQ.out.alloc _, HB.out.alloc _⟩
                case measure => simp [intOf]; omega
              · clear hne hx hy e0 e1
                go_wp2_with fail
                go_roundw
                case rel => exact ⟨j + 1, by omega, by go_num, KQ.out.alloc _, HB.out.alloc _⟩
                case measure => simp [intOf]; omega
            · obtain rfl : j = k := by omega
              have hjl : ¬ (j : Int) < (j : Int) := by omega
              go_wp2_with fail
              go_roundw
              case rel => exact ⟨j + 1, by omega, by go_num, KQ.out⟩
              case measure => simp [intOf]; omega
        · obtain rfl : k = N := by omega
          have hkl : ¬ (k : Int) < (k : Int) := by omega
          go_wp2_with fail
          refine (awake6_any _).mono ?_
          rintro e w5 ⟨rfl, b5⟩
          go_wp2_with fail
          go_ret
          exact ⟨rfl, (KR.out.below (Nat.le_refl _) (fun _ h => h.elim)).trans (b5.mono KR.out.size)⟩
  · have HR : Kept (legalN o (L.take q) = q) := ⟨by rw [legal_take, HN.out]; omega⟩
    have hc1' : ¬ (N : Int) < (q : Int) := by omega
    have hc2' : (q : Int) ≤ (N : Int) := by omega
    go_region_held3 (fun W => W.cell? ⟨w.heap.size, 0, none⟩ = some (.int .i64 o.id) ∧ W.cell? ⟨w.heap.size, 1, none⟩ = some (.int .i64 o.item) ∧ W.cell? ⟨w.heap.size, 2, none⟩ = some (.int .i64 o.qty) ∧ W.cell? ⟨w.heap.size, 3, none⟩ = some (.int .i64 o.client) ∧ W.cell? ⟨w.heap.size, 4, none⟩ = some (.int .i64 o.price) ∧ W.cell? ⟨w.heap.size, 5, none⟩ = some (.slice a o.steps.length c)) (exact begins_keep (HO1.out.keeps KC.out (fun h => h))) (first
      | (go_at_call 12; with_reducible refine (legal_of o a b c d q (L.take q) q _ (HL1.out.quiet KC.out) HM.out (acRow_take (HA1.out.quiet KC.out) q) HQ.out HQM.out HR.out).mono ?_; rintro e w6 ⟨rfl, k6⟩; have KC := Kept.mk (KC.out.trans k6); clear k6))
    all_goals
      have KE := Kept.mk (K1.out.trans KC.out)
      clear HR KC hsl
      go_wp2_with fail
      go_loopw [54] (fun i wr => ∃ k : Nat, k ≤ N ∧ i = .int .i64 k ∧ Keeps (fun _ => False) w wr) (fun i _ => N - (intOf i).toNat)
      case atStart => exact ⟨0, Nat.zero_le _, rfl, KE.out⟩
      case round =>
        obtain ⟨k, hk, rfl, hK⟩ := hrel
        have KR := Kept.mk hK
        clear hK
        by_cases hlt : k < N
        · obtain ⟨y, hy⟩ : ∃ y, L[k]? = some y := ⟨_, List.getElem?_eq_getElem (by omega)⟩
          obtain ⟨g, off, rfl, hl, e0, e1⟩ := HA.out k y hy
          have f0 : wr.cell? ⟨g, off + k * 2, none⟩ = some (.int .i64 y.1) := (KR.out.cell (p := ⟨g, off + k * 2, none⟩) hl (fun h => h)).trans e0
          have f1 : wr.cell? ⟨g, off + k * 2 + 1, none⟩ = some (.int .i64 y.2) := (KR.out.cell (p := ⟨g, off + k * 2 + 1, none⟩) hl (fun h => h)).trans e1
          obtain ⟨y1, y2⟩ := y
          dsimp only at f0 f1
          have hki : (k : Int) < (N : Int) := by omega
          have hsk := ac_upto (some ⟨g, off, none⟩) L.length k d (by omega)
          have hkd : (k : Int) ≤ (d : Int) := by omega
          have HY := Kept.mk (Blk.newT wr 30 [.int .i64 y1, .int .i64 y2] _ rfl)
          have K2 := Kept.mk (KR.out.alloc (.cells #[.int .i64 y1, .int .i64 y2] 30))
          clear e0 e1
          go_wp2_with fail
          go_loopw [63] (fun i wq => ∃ j : Nat, j ≤ k ∧ i = .int .i64 j ∧ Keeps (fun _ => False) w wq ∧ Blk wq wr.heap.size 30 [.int .i64 y1, .int .i64 y2]) (fun i _ => k - (intOf i).toNat)
          case atStart => exact ⟨0, Nat.zero_le _, rfl, K2.out, HY.out⟩
          case round =>
            obtain ⟨j, hj, rfl, hK, hB⟩ := hrel
            have KQ := Kept.mk hK
            have HB := Kept.mk hB
            have b0 := hB.cell 0 rfl
            have b1 := hB.cell 1 rfl
            have hbl := hB.lt
            clear hK hB f0 f1
            by_cases hltj : j < k
            · obtain ⟨x, hx⟩ : ∃ x, L[j]? = some x := ⟨_, List.getElem?_eq_getElem (by omega)⟩
              obtain ⟨g', off', eg, hl', e0, e1⟩ := HA.out j x hx
              simp only [Option.some.injEq, Addr.mk.injEq, and_true] at eg
              obtain ⟨rfl, rfl⟩ := eg
              have f0 := (KQ.out.cell (p := ⟨g, off + j * 2, none⟩) hl (fun h => h)).trans e0
              have f1 := (KQ.out.cell (p := ⟨g, off + j * 2 + 1, none⟩) hl (fun h => h)).trans e1
              have hne := legal_apart (o := o) hltj (by rw [HN.out]; exact hlt) hx hy
              obtain ⟨x1, x2⟩ := x
              dsimp only at f0 f1
              have hji : (j : Int) < (k : Int) := by omega
              by_cases h1 : y1 = x1
              · subst h1
                have h2 : ¬ y2 = x2 := fun e => hne (by rw [e])
                clear hne hx hy e0 e1
                go_wp2_with fail
                go_roundw
                case rel => exact ⟨j + 1, by omega, by go_num, KQ.out.alloc _, HB.out.alloc _⟩
                case measure => simp [intOf]; omega
              · clear hne hx hy e0 e1
                go_wp2_with fail
                go_roundw
                case rel => exact ⟨j + 1, by omega, by go_num, KQ.out.alloc _, HB.out.alloc _⟩
                case measure => simp [intOf]; omega
            · obtain rfl : j = k := by omega
              have hjl : ¬ (j : Int) < (j : Int) := by omega
              go_wp2_with fail
              go_roundw
              case rel => exact ⟨j + 1, by omega, by go_num, KQ.out⟩
              case measure => simp [intOf]; omega
        · obtain rfl : k = N := by omega
          have hkl : ¬ (k : Int) < (k : Int) := by omega
          go_wp2_with fail
          refine (awake6_any _).mono ?_
          rintro e w5 ⟨rfl, b5⟩
          go_wp2_with fail
          go_ret
          exact ⟨rfl, (KR.out.below (Nat.le_refl _) (fun _ h => h.elim)).trans (b5.mono KR.out.size)⟩
end Go.Proofs.Ytjlfkpimjjnolaa
