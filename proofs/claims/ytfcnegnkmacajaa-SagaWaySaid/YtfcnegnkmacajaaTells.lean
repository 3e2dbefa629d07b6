/- The law SagaTells, walked. (printed by gen/tells.py) -/
import Derived.Test.YtfcnegnkmacajaaLaw16b
import Derived.Test.YtfcnegnkmacajaaOrd4
import Derived.Test.YtfcnegnkmacajaaMade
import Derived.Deep.RegionHeld3
import Derived.Deep.CutRange
import Derived.Deep.QuietTactic
import Derived.BigQuiet
import Derived.IntWalk
namespace Go.Proofs.Ytfcnegnkmacajaa
open Go.RowKit
/-- How many of a kind. -/
def cntK (K : Int) (L : List Ms) : Nat := L.countP (fun m => m.kind == K)
theorem cntK_app (K : Int) (L M : List Ms) : cntK K (L ++ M) = cntK K L + cntK K M := List.countP_append
theorem cntK_dec (K : Int) (o : Ord) (a0 a1 : Bool) : cntK K (decTo K o a0 a1 2) = (!a0).toNat + (!a1).toNat := by
  cases a0 <;> cases a1 <;> simp [decTo, cntK]
theorem cntK_take {K : Int} {L : List Ms} {q : Nat} {x : Ms} (h : L[q]? = some x) : cntK K (L.take (q + 1)) = cntK K (L.take q) + (if x.kind = K then 1 else 0) := by
  have hl := (List.getElem?_eq_some_iff.1 h).1
  have hx := (List.getElem?_eq_some_iff.1 h).2
  rw [List.take_succ_eq_append_getElem hl, cntK_app, hx]
  simp [cntK, List.countP_cons]
theorem dec_mem {K : Int} {o : Ord} {a0 a1 : Bool} {x : Ms} (h : x ∈ decTo K o a0 a1 2) : (a0 = false ∧ x = ⟨K, 0, 1, o.id, 0, 0, 0⟩) ∨ (a1 = false ∧ x = ⟨K, 0, 2, o.id, 0, 0, 0⟩) := by
  cases a0 <;> cases a1 <;> simp [decTo] at h <;> grind
section
variable (o : Ord) (j : Nat) (a0 a1 : Bool) (hm : o.may = true)
include hm
theorem tells_facts_y : Fct.may o ⟨rowF o.steps.length (fun _ => true), rowF o.steps.length (fun _ => false), true, true, false, a0, a1, false, false, false, false⟩ = true := by
  have h1 := firstB_rowF (n := o.steps.length) (h := fun _ => true) (fun i _ h => h)
  have h2 := hasB_rowF (n := o.steps.length) (h := fun _ => false) (b := true) (fun _ _ => rfl)
  have h3 := lastB_rowF (n := o.steps.length) (h := fun _ => false) (fun i _ h => h)
  have h4 := hasB_rowF (n := o.steps.length) (h := fun _ => true) (b := false) (fun _ _ => rfl)
  simp [Fct.may, hm, rowF_len, h1, h2, h3, h4]
theorem tells_facts_n : Fct.may o ⟨rowF o.steps.length (fun _ => true), rowF o.steps.length (fun i => decide (j ≤ i)), true, false, true, a0, a1, false, false, false, false⟩ = true := by
  have h3 := lastB_rowF (n := o.steps.length) (h := fun i => decide (j ≤ i)) (fun i _ h => by simp only [decide_eq_true_eq] at h ⊢; omega)
  simp [Fct.may, hm, rowF_len, h3]
theorem tells_next_y : nextL o ⟨rowF o.steps.length (fun _ => true), rowF o.steps.length (fun _ => false), true, true, false, a0, a1, false, false, false, false⟩ = decTo 9 o a0 a1 2 ++ [⟨15, 0, 3, o.id, 0, o.item, o.qty⟩] := by
  have h := tells_facts_y o a0 a1 hm
  unfold nextL
  rw [h]
  simp
theorem tells_next_n0 (hj : j = 0) : nextL o ⟨rowF o.steps.length (fun _ => true), rowF o.steps.length (fun i => decide (j ≤ i)), true, false, true, a0, a1, false, false, false, false⟩ = decTo 10 o a0 a1 2 := by
  have h := tells_facts_n o j a0 a1 hm
  unfold nextL
  rw [h]
  subst hj
  have h2 := undAt_none (o := o) (u := rowF o.steps.length (fun i => decide (0 ≤ i))) (k := o.steps.length) (fun i hi => by rw [List.getD_eq_getElem?_getD, rowF_get _ _ hi]; simp)
  simp only [Bool.true_eq_false, if_false, if_true, h2, List.append_nil]
theorem tells_next_n {x : St} (hx : o.steps[j]? = some x) : nextL o ⟨rowF o.steps.length (fun _ => true), rowF o.steps.length (fun i => decide (j + 1 ≤ i)), true, false, true, a0, a1, false, false, false, false⟩ = decTo 10 o a0 a1 2 ++ [⟨4, 0, x.1, o.id, j, 0, 0⟩] := by
  have h := tells_facts_n o (j + 1) a0 a1 hm
  have hl := (List.getElem?_eq_some_iff.1 hx).1
  unfold nextL
  rw [h]
  have h2 := undAt_some (o := o) (u := rowF o.steps.length (fun i => decide (j + 1 ≤ i))) (x := j) (k := o.steps.length) (by rw [List.getD_eq_getElem?_getD, rowF_get _ _ hl]; simp) hl (fun i hi hi2 => by rw [List.getD_eq_getElem?_getD, rowF_get _ _ hi2]; simp; omega)
  have hs : stAt o.steps j = x := by unfold stAt; rw [List.getD_eq_getElem?_getD, hx]; rfl
  simp only [Bool.true_eq_false, if_false, if_true, h2, hs]
end
set_option linter.unusedSimpArgs false in
set_option linter.unusedVariables false in
set_option maxRecDepth 100000 in
set_option maxHeartbeats 16000000 in
theorem tells_long (o : Ord) (a : Option Addr) (c : Nat) (yes : Bool) (a0 a1 : Bool) (k : Int) (w : World) (hL : StRow w a o.steps) (hc : o.steps.length ≤ c) (hcm : c ≤ maxLen) (hl : 10 < o.steps.length) :
    Calls Try.prog 4 #[.agg #[.int .i64 o.id, .int .i64 o.item, .int .i64 o.qty, .int .i64 o.client, .int .i64 o.price, .slice a o.steps.length c], .bool yes, .agg #[.bool a0, .bool a1], .int .i64 k] w (fun e w' => e = .returned (.bool true) ∧ Keeps (fun _ => False) w w') := by
  have HO0 := Kept.mk ((Blk.new' w 24 [.int .i64 o.id, .int .i64 o.item, .int .i64 o.qty, .int .i64 o.client, .int .i64 o.price, .slice a o.steps.length c] _ rfl).alloc (.cells #[.bool a0, .bool a1] 29))
  have HA0 := Kept.mk (Blk.new' (w.alloc (.cells #[.int .i64 o.id, .int .i64 o.item, .int .i64 o.qty, .int .i64 o.client, .int .i64 o.price, .slice a o.steps.length c] 24)) 29 [.bool a0, .bool a1] (w.heap.size + 1) (by simp))
  have K0 : Kept (Keeps (fun _ => False) w ((w.alloc (.cells #[.int .i64 o.id, .int .i64 o.item, .int .i64 o.qty, .int .i64 o.client, .int .i64 o.price, .slice a o.steps.length c] 24)).alloc (.cells #[.bool a0, .bool a1] 29))) := ⟨((Keeps.refl _ w).alloc _).alloc _⟩
  have HL := Kept.mk hL
  have hsl : o.steps.length ≤ maxLen := Nat.le_trans hc hcm
  have hsi : (o.steps.length : Int) ≤ 9223372036854775807 := by unfold maxLen at hsl; omega
  clear hL
  have hli : decide ((10 : Int) < (o.steps.length : Int)) = true := by rw [decide_eq_true_eq]; omega
  clear HO0 HA0 HL
  go_enter Try.func4, Try.ntmps4
  go_wp2_with fail
  refine (awake_to _).mono ?_
  rintro e w9 ⟨rfl, k9⟩
  go_wp2_with fail
  go_ret
  exact ⟨rfl, K0.out.trans k9⟩
set_option linter.unusedSimpArgs false in
set_option linter.unusedVariables false in
set_option maxRecDepth 100000 in
set_option maxHeartbeats 16000000 in
theorem tells_not (o : Ord) (a : Option Addr) (c : Nat) (yes : Bool) (a0 a1 : Bool) (k : Int) (w : World) (hL : StRow w a o.steps) (hc : o.steps.length ≤ c) (hcm : c ≤ maxLen) (hl : o.steps.length ≤ 10) (hm : o.may = false) :
    Calls Try.prog 4 #[.agg #[.int .i64 o.id, .int .i64 o.item, .int .i64 o.qty, .int .i64 o.client, .int .i64 o.price, .slice a o.steps.length c], .bool yes, .agg #[.bool a0, .bool a1], .int .i64 k] w (fun e w' => e = .returned (.bool true) ∧ Keeps (fun _ => False) w w') := by
  have HO0 := Kept.mk ((Blk.new' w 24 [.int .i64 o.id, .int .i64 o.item, .int .i64 o.qty, .int .i64 o.client, .int .i64 o.price, .slice a o.steps.length c] _ rfl).alloc (.cells #[.bool a0, .bool a1] 29))
  have HA0 := Kept.mk (Blk.new' (w.alloc (.cells #[.int .i64 o.id, .int .i64 o.item, .int .i64 o.qty, .int .i64 o.client, .int .i64 o.price, .slice a o.steps.length c] 24)) 29 [.bool a0, .bool a1] (w.heap.size + 1) (by simp))
  have K0 : Kept (Keeps (fun _ => False) w ((w.alloc (.cells #[.int .i64 o.id, .int .i64 o.item, .int .i64 o.qty, .int .i64 o.client, .int .i64 o.price, .slice a o.steps.length c] 24)).alloc (.cells #[.bool a0, .bool a1] 29))) := ⟨((Keeps.refl _ w).alloc _).alloc _⟩
  have HL := Kept.mk hL
  have hsl : o.steps.length ≤ maxLen := Nat.le_trans hc hcm
  have hsi : (o.steps.length : Int) ≤ 9223372036854775807 := by unfold maxLen at hsl; omega
  clear hL
  have hli : decide ((10 : Int) < (o.steps.length : Int)) = false := by rw [decide_eq_false_iff_not]; omega
  have Hm := Kept.mk hm
  clear hm
  go_enter Try.func4, Try.ntmps4
  go_wp2_with fail
  refine (romay_to o a c false _ (HL.out.quiet K0.out) hsl hc hcm Hm.out).mono ?_
  rintro e w1 ⟨rfl, k1⟩
  have HO1 := Kept.mk (HO0.out.quiet k1)
  have HA1 := Kept.mk (HA0.out.quiet k1)
  have K1 := Kept.mk (K0.out.trans k1)
  obtain ⟨x0, x1, x2, x3, x4, x5⟩ := blk6 HO1.out
  have q0 := HA1.out.cell 0 rfl
  have q1 := HA1.out.cell 1 rfl
  clear k1 HO0 K0 HA0
  go_wp2_with fail
  refine (awake_to _).mono ?_
  rintro e w9 ⟨rfl, k9⟩
  go_wp2_with fail
  go_ret
  exact ⟨rfl, K1.out.trans k9⟩
set_option linter.unusedSimpArgs false in
set_option linter.unusedVariables false in
set_option maxRecDepth 100000 in
set_option maxHeartbeats 16000000 in
theorem tells_yes (o : Ord) (a : Option Addr) (c : Nat) (a0 a1 : Bool) (k : Int) (w : World) (hL : StRow w a o.steps) (hc : o.steps.length ≤ c) (hcm : c ≤ maxLen) (hm : o.may = true) (j : Nat) (hj : wrap64 ((IntKind.u64.wrap k).tmod ((o.steps.length : Int) + 1)) = (j : Int)) (hjl : j ≤ o.steps.length) :
    Calls Try.prog 4 #[.agg #[.int .i64 o.id, .int .i64 o.item, .int .i64 o.qty, .int .i64 o.client, .int .i64 o.price, .slice a o.steps.length c], .bool true, .agg #[.bool a0, .bool a1], .int .i64 k] w (fun e w' => e = .returned (.bool true) ∧ Keeps (fun _ => False) w w') := by
  have HO0 := Kept.mk ((Blk.new' w 24 [.int .i64 o.id, .int .i64 o.item, .int .i64 o.qty, .int .i64 o.client, .int .i64 o.price, .slice a o.steps.length c] _ rfl).alloc (.cells #[.bool a0, .bool a1] 29))
  have HA0 := Kept.mk (Blk.new' (w.alloc (.cells #[.int .i64 o.id, .int .i64 o.item, .int .i64 o.qty, .int .i64 o.client, .int .i64 o.price, .slice a o.steps.length c] 24)) 29 [.bool a0, .bool a1] (w.heap.size + 1) (by simp))
  have K0 : Kept (Keeps (fun _ => False) w ((w.alloc (.cells #[.int .i64 o.id, .int .i64 o.item, .int .i64 o.qty, .int .i64 o.client, .int .i64 o.price, .slice a o.steps.length c] 24)).alloc (.cells #[.bool a0, .bool a1] 29))) := ⟨((Keeps.refl _ w).alloc _).alloc _⟩
  have HL := Kept.mk hL
  have hsl : o.steps.length ≤ maxLen := Nat.le_trans hc hcm
  have hsi : (o.steps.length : Int) ≤ 9223372036854775807 := by unfold maxLen at hsl; omega
  clear hL
  have hl3 := Ord.may_len hm
  have HJ := Kept.mk hj
  clear hj
  have hli : decide ((10 : Int) < (o.steps.length : Int)) = false := by rw [decide_eq_false_iff_not]; omega
  have Hm := Kept.mk hm
  clear hm
  go_enter Try.func4, Try.ntmps4
  go_wp2_with fail
  refine (romay_to o a c true _ (HL.out.quiet K0.out) hsl hc hcm Hm.out).mono ?_
  rintro e w1 ⟨rfl, k1⟩
  have HO1 := Kept.mk (HO0.out.quiet k1)
  have HA1 := Kept.mk (HA0.out.quiet k1)
  have K1 := Kept.mk (K0.out.trans k1)
  obtain ⟨x0, x1, x2, x3, x4, x5⟩ := blk6 HO1.out
  have q0 := HA1.out.cell 0 rfl
  have q1 := HA1.out.cell 1 rfl
  clear k1 HO0 K0 HA0
  have hmk : ∀ w, (Instr.makeSlice 28 (.int .i64 o.steps.length) (.int .i64 o.steps.length)).run Try.prog w = .ok (.slice (some ⟨w.heap.size, 0, none⟩) o.steps.length o.steps.length) (w.alloc (.cells ((rowF o.steps.length (fun _ => false)).map encB).toArray 4)) := made_bools _ (by omega)
  have hz1 : w.heap.size + 1 < w1.heap.size := HA1.out.lt
  have hz0 : w.heap.size < w1.heap.size := by omega
  have hz2 : w.heap.size < w1.heap.size + 1 := by omega
  have hz3 : w.heap.size < w1.heap.size + 1 + 1 := by omega
  have hz4 : w.heap.size < w1.heap.size + 2 := by omega
  go_upto_region 5 with fail
  rw [HJ.out]
  go_cut [10] from 11 to 160 (fun z wc => ∃ p bd bu : Nat, z = .pointer (some ⟨p, 0, none⟩) ∧ Kept (p ≠ bd ∧ p ≠ bu ∧ bd ≠ bu ∧ w1.heap.size ≤ p ∧ w1.heap.size ≤ bd ∧ w1.heap.size ≤ bu) ∧ Blk wc p 31 [.slice (some ⟨bd, 0, none⟩) o.steps.length o.steps.length, .slice (some ⟨bu, 0, none⟩) o.steps.length o.steps.length, .bool true, .bool true, .bool false, .bool a0, .bool a1, .bool false, .bool false, .bool false, .bool false] ∧ Blk wc bd 4 ((rowF o.steps.length (fun _ => false)).map encB) ∧ Blk wc bu 4 ((rowF o.steps.length (fun _ => false)).map encB) ∧ Keeps (fun _ => False) w1 wc)
  case first =>
    go_region
    all_goals
      go_wp2_with fail
      go_meet
      refine ⟨_, ?_, ?_, rfl, ?_, ?_, ?_, ?_, ?_⟩
      rotate_left 3
      · refine Blk.drew ?_
        repeat (first | (refine Blk.new' _ _ _ _ ?_; simp; done) | refine Blk.alloc ?_ _)
      · refine Blk.drew ?_
        repeat (first | (refine Blk.new' _ _ _ _ ?_; simp; done) | refine Blk.alloc ?_ _)
      · refine Blk.drew ?_
        repeat (first | (refine Blk.new' _ _ _ _ ?_; simp; done) | refine Blk.alloc ?_ _)
      · repeat (first | exact Keeps.refl _ _ | refine Keeps.drew ?_ | refine Keeps.alloc ?_ _)
      exact ⟨by omega, by omega, by omega, by omega, by omega, by omega⟩
  case rest =>
  obtain ⟨p, bd, bu, rfl, hne, hP, hD, hU, kc⟩ := hcut
  obtain ⟨n1, n2, n3, n4, n5, n6⟩ := hne.out
  have HP := Kept.mk hP
  have HD := Kept.mk hD
  have HU := Kept.mk hU
  have HO2 := Kept.mk (HO1.out.quiet kc)
  have HA2 := Kept.mk (HA1.out.quiet kc)
  have K2 := Kept.mk (K1.out.trans kc)
  clear hz2 hz3 hz4
  clear hP hD hU kc HO1 HA1 x0 x1 x2 x3 x4 x5 q0 q1
  go_wp2_with fail
  go_loopw [47] (fun i wr => ∃ m : Nat, m ≤ o.steps.length ∧ i = .int .i64 m ∧ Blk wr bd 4 ((rowF o.steps.length (fun i => decide (i < m))).map encB) ∧ Blk wr p 31 [.slice (some ⟨bd, 0, none⟩) o.steps.length o.steps.length, .slice (some ⟨bu, 0, none⟩) o.steps.length o.steps.length, .bool true, .bool true, .bool false, .bool a0, .bool a1, .bool false, .bool false, .bool false, .bool false] ∧ Blk wr w.heap.size 24 [.int .i64 o.id, .int .i64 o.item, .int .i64 o.qty, .int .i64 o.client, .int .i64 o.price, .slice a o.steps.length c] ∧ Blk wr (w.heap.size + 1) 29 [.bool a0, .bool a1] ∧ Blk wr bu 4 ((rowF o.steps.length (fun _ => false)).map encB) ∧ Keeps (fun _ => False) w wr) (fun i _ => o.steps.length - (intOf i).toNat)
  case atStart => exact ⟨0, Nat.zero_le _, rfl, by simpa using HD.out, HP.out, HO2.out, HA2.out, by simpa using HU.out, K2.out⟩
  case round =>
    obtain ⟨m, hmn, rfl, hD, hP, hO, hA, hU, hK⟩ := hrel
    have HD2 := Kept.mk hD
    have HP2 := Kept.mk hP
    have HO3 := Kept.mk hO
    have HA3 := Kept.mk hA
    have HU2 := Kept.mk hU
    have HK := Kept.mk hK
    obtain ⟨y0, y1, y2, y3, y4, y5, y6, y7, y8, y9, y10⟩ := blk11 hP
    obtain ⟨x0, x1, x2, x3, x4, x5⟩ := blk6 hO
    have q0 := hA.cell 0 rfl
    have q1 := hA.cell 1 rfl
    have hbd := hD.lt
    have hbu := hU.lt
    clear hD hP hO hA hU hK
    by_cases hlt : m < o.steps.length
    · have cD : wr.cell? ⟨bd, m, none⟩ = some (.bool (decide (m < m))) := HD2.out.cell m (rowF_at hlt)
      have fD := HD2.out.frozen m
      have cU : wr.cell? ⟨bu, m, none⟩ = some (.bool (false)) := HU2.out.cell m (rowF_at hlt)
      have fU := HU2.out.frozen m
      have hmi : (m : Int) < o.steps.length := by omega
      have HD3 : Kept (Blk (wr.setCell ⟨bd, m, none⟩ (.bool true)) bd 4 ((rowF o.steps.length (fun i => decide (i < m + 1))).map encB)) := ⟨by
        have h := HD2.out.set m (.bool true)
        rw [rowF_put, rowF_congr (h' := fun i => decide (i < m + 1)) (fun i hi => by
          by_cases e : i = m
          · subst e; simp
          · rw [if_neg e]
            have : (i < m) = (i < m + 1) := by rw [eq_iff_iff]; omega
            simp only [this])] at h
        exact h⟩
      have HP3 := Kept.mk (HP2.out.other (p := ⟨bd, m, none⟩) n1 (.bool true))
      have HO4 := Kept.mk (HO3.out.other (p := ⟨bd, m, none⟩) (by show w.heap.size ≠ bd; omega) (.bool true))
      have HA4 := Kept.mk (HA3.out.other (p := ⟨bd, m, none⟩) (by show w.heap.size + 1 ≠ bd; omega) (.bool true))
      have HU3 := Kept.mk (HU2.out.other (p := ⟨bd, m, none⟩) (fun e => n3 e.symm) (.bool true))
      have HK2 := Kept.mk (HK.out.setCell (p := ⟨bd, m, none⟩) (.inl (by show w.heap.size ≤ bd; omega)) (.bool true))

      have HU4 : Kept (Blk ((wr.setCell ⟨bd, m, none⟩ (.bool true)).setCell ⟨bu, m, none⟩ (.bool false)) bu 4 ((rowF o.steps.length (fun _ => false)).map encB)) := ⟨by
        have h := HU3.out.set m (.bool false)
        rw [rowF_put, rowF_congr (h' := fun _ => false) (fun i hi => by simp)] at h
        exact h⟩
      have HD4 := Kept.mk (HD3.out.other (p := ⟨bu, m, none⟩) n3 (.bool false))
      have HP4 := Kept.mk (HP3.out.other (p := ⟨bu, m, none⟩) n2 (.bool false))
      have HO5 := Kept.mk (HO4.out.other (p := ⟨bu, m, none⟩) (by show w.heap.size ≠ bu; omega) (.bool false))
      have HA5 := Kept.mk (HA4.out.other (p := ⟨bu, m, none⟩) (by show w.heap.size + 1 ≠ bu; omega) (.bool false))
      have HK3 := Kept.mk (HK2.out.setCell (p := ⟨bu, m, none⟩) (.inl (by show w.heap.size ≤ bu; omega)) (.bool false))
      go_wp2_with fail
      go_roundw
      case rel => exact ⟨m + 1, by omega, by go_num, HD4.out, HP4.out, HO5.out, HA5.out, HU4.out, HK3.out⟩
      case measure => simp [intOf]; omega
    · obtain rfl : m = o.steps.length := by omega
      have HF : Kept (FcAt wr o a c ⟨rowF o.steps.length (fun _ => true), rowF o.steps.length (fun _ => false), true, true, false, a0, a1, false, false, false, false⟩ (some ⟨bd, 0, none⟩) (some ⟨bu, 0, none⟩)) := ⟨⟨HL.out.quiet HK.out, hsl, blRow_of (by
        have h := HD2.out
        rwa [rowF_congr (h' := fun _ => true) (fun i hi => by simp [hi])] at h), by simp only [rowF_len]; exact hsl, blRow_of HU2.out, by simp only [rowF_len]; exact hsl⟩⟩
      have HC0 := next_to o a _ _ c o.steps.length o.steps.length ⟨rowF o.steps.length (fun _ => true), rowF o.steps.length (fun _ => false), true, true, false, a0, a1, false, false, false, false⟩ wr HF.out
      simp only [rowF_len] at HC0
      have HC := Kept.mk HC0
      have hmm : ¬ (o.steps.length : Int) < (o.steps.length : Int) := by omega
      clear HC0
      obtain ⟨L, hL, hmem, hcnt, hll⟩ : ∃ L, Kept (nextL o ⟨rowF o.steps.length (fun _ => true), rowF o.steps.length (fun _ => false), true, true, false, a0, a1, false, false, false, false⟩ = L) ∧ (∀ (q : Nat) (x : Ms), L[q]? = some x → (a0 = false ∧ x = ⟨9, 0, 1, o.id, 0, 0, 0⟩) ∨ (a1 = false ∧ x = ⟨9, 0, 2, o.id, 0, 0, 0⟩) ∨ x = ⟨15, 0, 3, o.id, 0, o.item, o.qty⟩) ∧ cntK 9 L = (!a0).toNat + (!a1).toNat ∧ L.length ≤ 3 := by
        refine ⟨_, ⟨tells_next_y o a0 a1 Hm.out⟩, ?_, ?_, ?_⟩
        · intro q x hx
          have hx2 := List.mem_of_getElem? hx
          rw [List.mem_append] at hx2
          rcases hx2 with h | h
          · rcases dec_mem h with h | h
            · exact .inl h
            · exact .inr (.inl h)
          · simp only [List.mem_singleton] at h
            exact .inr (.inr h)
        · rw [cntK_app, cntK_dec]; simp [cntK]
        · have := decTo_len 9 o a0 a1 2
          simp only [List.length_append, List.length_singleton]; omega
      go_wp2_with fail
      refine HC.out.mono ?_
      rintro e w4 ⟨⟨v, rfl, hM⟩, k4⟩
      rw [hL.out] at hM
      obtain ⟨va, vc, rfl, _⟩ := hM.slice
      have HM := Kept.mk hM.row
      have HO6 := Kept.mk (HO3.out.quiet k4)
      have HA6 := Kept.mk (HA3.out.quiet k4)
      have K4 := Kept.mk (HK.out.trans k4)
      clear hM k4 HP2 HU2 HD2 HF HC HO3 HA3 HK y0 y1 y2 y3 y4 y5 y6 y7 y8 y9 y10 x0 x1 x2 x3 x4 x5 q0 q1
      go_wp2_with fail
      go_loopw [12, 70] (fun t i wr => ∃ q : Nat, q ≤ L.length ∧ i = .int .i64 q ∧ t = .int .i64 (cntK 9 (L.take q) : Nat) ∧ Keeps (fun _ => False) w4 wr) (fun _ i _ => L.length - (intOf i).toNat)
      case atStart => exact ⟨0, Nat.zero_le _, rfl, rfl, Keeps.refl _ _⟩
      case round =>
        obtain ⟨q, hq, rfl, rfl, k5⟩ := hrel
        have K5 := Kept.mk (K4.out.trans k5)
        have HO7 := Kept.mk (HO6.out.quiet k5)
        have HA7 := Kept.mk (HA6.out.quiet k5)
        have HM7 := Kept.mk (HM.out.quiet k5)
        obtain ⟨x0, x1, x2, x3, x4, x5⟩ := blk6 HO7.out
        have q0 := HA7.out.cell 0 rfl
        have q1 := HA7.out.cell 1 rfl
        have hv1 : w.heap.size + 1 < wr.heap.size := HA7.out.lt
        have hv0 : w.heap.size < wr.heap.size := by omega
        by_cases hql : q < L.length
        · obtain ⟨x, hx⟩ : ∃ x, L[q]? = some x := ⟨_, List.getElem?_eq_getElem hql⟩
          have hct := cntK_take (K := 9) hx
          have hb : cntK 9 (L.take q) ≤ 3 := Nat.le_trans List.countP_le_length (by rw [List.length_take]; omega)
          obtain ⟨mg, mo, rfl, hgl, c0⟩ := HM7.out q x hx
          have hqi : (q : Int) < (L.length : Int) := by omega
          have KR : ∀ b, Kept (Keeps (fun _ => False) w4 (wr.alloc b)) := fun b => ⟨k5.alloc b⟩
          clear k5
          rcases hmem q x hx with ⟨h0, rfl⟩ | ⟨h0, rfl⟩ | rfl
          · subst h0
            have m0 : wr.cell? ⟨mg, mo + q * 7, none⟩ = some (.int .i64 9) := c0 0 _ rfl
            have m1 : wr.cell? ⟨mg, mo + q * 7 + 1, none⟩ = some (.int .i64 0) := c0 1 _ rfl
            have m2 : wr.cell? ⟨mg, mo + q * 7 + 2, none⟩ = some (.int .i64 1) := c0 2 _ rfl
            have m3 : wr.cell? ⟨mg, mo + q * 7 + 3, none⟩ = some (.int .i64 o.id) := c0 3 _ rfl
            have m4 : wr.cell? ⟨mg, mo + q * 7 + 4, none⟩ = some (.int .i64 0) := c0 4 _ rfl
            have m5 : wr.cell? ⟨mg, mo + q * 7 + 5, none⟩ = some (.int .i64 0) := c0 5 _ rfl
            have m6 : wr.cell? ⟨mg, mo + q * 7 + 6, none⟩ = some (.int .i64 0) := c0 6 _ rfl
            clear c0
            simp only [if_true] at hct
            go_wp2_with fail
            go_roundw
            case rel => exact ⟨q + 1, by omega, by go_num, by rw [hct]; go_num, (KR _).out⟩
            case measure => simp [intOf]; omega
          · subst h0
            have m0 : wr.cell? ⟨mg, mo + q * 7, none⟩ = some (.int .i64 9) := c0 0 _ rfl
            have m1 : wr.cell? ⟨mg, mo + q * 7 + 1, none⟩ = some (.int .i64 0) := c0 1 _ rfl
            have m2 : wr.cell? ⟨mg, mo + q * 7 + 2, none⟩ = some (.int .i64 2) := c0 2 _ rfl
            have m3 : wr.cell? ⟨mg, mo + q * 7 + 3, none⟩ = some (.int .i64 o.id) := c0 3 _ rfl
            have m4 : wr.cell? ⟨mg, mo + q * 7 + 4, none⟩ = some (.int .i64 0) := c0 4 _ rfl
            have m5 : wr.cell? ⟨mg, mo + q * 7 + 5, none⟩ = some (.int .i64 0) := c0 5 _ rfl
            have m6 : wr.cell? ⟨mg, mo + q * 7 + 6, none⟩ = some (.int .i64 0) := c0 6 _ rfl
            clear c0
            simp only [if_true] at hct
            go_wp2_with fail
            go_roundw
            case rel => exact ⟨q + 1, by omega, by go_num, by rw [hct]; go_num, (KR _).out⟩
            case measure => simp [intOf]; omega
          · have m0 : wr.cell? ⟨mg, mo + q * 7, none⟩ = some (.int .i64 15) := c0 0 _ rfl
            have m1 : wr.cell? ⟨mg, mo + q * 7 + 1, none⟩ = some (.int .i64 0) := c0 1 _ rfl
            have m2 : wr.cell? ⟨mg, mo + q * 7 + 2, none⟩ = some (.int .i64 3) := c0 2 _ rfl
            have m3 : wr.cell? ⟨mg, mo + q * 7 + 3, none⟩ = some (.int .i64 o.id) := c0 3 _ rfl
            have m4 : wr.cell? ⟨mg, mo + q * 7 + 4, none⟩ = some (.int .i64 0) := c0 4 _ rfl
            have m5 : wr.cell? ⟨mg, mo + q * 7 + 5, none⟩ = some (.int .i64 o.item) := c0 5 _ rfl
            have m6 : wr.cell? ⟨mg, mo + q * 7 + 6, none⟩ = some (.int .i64 o.qty) := c0 6 _ rfl
            clear c0
            simp only [show ¬ ((15 : Int) = 9) by omega, if_false, Nat.add_zero] at hct
            go_wp2_with fail
            go_roundw
            case rel => exact ⟨q + 1, by omega, by go_num, by rw [hct], (KR _).out⟩
            case measure => simp [intOf]; omega
        · obtain rfl : q = L.length := by omega
          have hqq : ¬ (L.length : Int) < (L.length : Int) := by omega
          clear k5
          rw [List.take_length, hcnt]
          have hix0 : ∀ (u v : Value) (w : World), (Instr.index 29 (.agg #[u, v]) (.int .i64 0)).run Try.prog w = .ok u w := fun _ _ _ => by kernel_rfl
          have hix1 : ∀ (u v : Value) (w : World), (Instr.index 29 (.agg #[u, v]) (.int .i64 1)).run Try.prog w = .ok v w := fun _ _ _ => by kernel_rfl
          go_wp2_with fail
          go_loopw [12, 149] (fun t i wz => ∃ n m : Nat, n ≤ 2 ∧ i = .int .i64 n ∧ t = .int .i64 m ∧ Kept (m + ((if n ≤ 0 then a0.toNat else 0) + (if n ≤ 1 then a1.toNat else 0)) = 2) ∧ wz = wr) (fun _ i _ => 2 - (intOf i).toNat)
          case atStart => exact ⟨0, _, by omega, rfl, rfl, ⟨by cases a0 <;> cases a1 <;> rfl⟩, rfl⟩
          case round =>
            obtain ⟨n, m, hn, rfl, rfl, ht, rfl⟩ := hrel
            match n, hn with
            | 2, _ =>
              obtain rfl : m = 2 := by simpa using ht.out
              go_wp2_with fail
              refine (awake_to _).mono ?_
              rintro e w9 ⟨rfl, k9⟩
              go_wp2_with fail
              go_ret
              exact ⟨rfl, K5.out.trans k9⟩
            | 0, _ =>
              have hml : m ≤ 2 := by have := ht.out; omega
              cases a0 with
              | true =>
                go_wp2_with fail
                go_roundw
                case rel => exact ⟨1, m + 1, by omega, by go_num, by go_num, ⟨by have := ht.out; simp at this ⊢; omega⟩, trivial⟩
                case measure => simp [intOf]
              | false =>
                go_wp2_with fail
                go_roundw
                case rel => exact ⟨1, m, by omega, by go_num, rfl, ⟨by have := ht.out; simp at this ⊢; omega⟩, trivial⟩
                case measure => simp [intOf]
            | 1, _ =>
              have hml : m ≤ 2 := by have := ht.out; omega
              cases a1 with
              | true =>
                go_wp2_with fail
                go_roundw
                case rel => exact ⟨2, m + 1, by omega, by go_num, by go_num, ⟨by have := ht.out; simp at this ⊢; omega⟩, trivial⟩
                case measure => simp [intOf]
              | false =>
                go_wp2_with fail
                go_roundw
                case rel => exact ⟨2, m, by omega, by go_num, rfl, ⟨by have := ht.out; simp at this ⊢; omega⟩, trivial⟩
                case measure => simp [intOf]
set_option linter.unusedSimpArgs false in
set_option linter.unusedVariables false in
set_option maxRecDepth 100000 in
set_option maxHeartbeats 16000000 in
theorem tells_no (o : Ord) (a : Option Addr) (c : Nat) (a0 a1 : Bool) (k : Int) (w : World) (hL : StRow w a o.steps) (hc : o.steps.length ≤ c) (hcm : c ≤ maxLen) (hm : o.may = true) (j : Nat) (hj : wrap64 ((IntKind.u64.wrap k).tmod ((o.steps.length : Int) + 1)) = (j : Int)) (hjl : j ≤ o.steps.length) :
    Calls Try.prog 4 #[.agg #[.int .i64 o.id, .int .i64 o.item, .int .i64 o.qty, .int .i64 o.client, .int .i64 o.price, .slice a o.steps.length c], .bool false, .agg #[.bool a0, .bool a1], .int .i64 k] w (fun e w' => e = .returned (.bool true) ∧ Keeps (fun _ => False) w w') := by
  have HO0 := Kept.mk ((Blk.new' w 24 [.int .i64 o.id, .int .i64 o.item, .int .i64 o.qty, .int .i64 o.client, .int .i64 o.price, .slice a o.steps.length c] _ rfl).alloc (.cells #[.bool a0, .bool a1] 29))
  have HA0 := Kept.mk (Blk.new' (w.alloc (.cells #[.int .i64 o.id, .int .i64 o.item, .int .i64 o.qty, .int .i64 o.client, .int .i64 o.price, .slice a o.steps.length c] 24)) 29 [.bool a0, .bool a1] (w.heap.size + 1) (by simp))
  have K0 : Kept (Keeps (fun _ => False) w ((w.alloc (.cells #[.int .i64 o.id, .int .i64 o.item, .int .i64 o.qty, .int .i64 o.client, .int .i64 o.price, .slice a o.steps.length c] 24)).alloc (.cells #[.bool a0, .bool a1] 29))) := ⟨((Keeps.refl _ w).alloc _).alloc _⟩
  have HL := Kept.mk hL
  have hsl : o.steps.length ≤ maxLen := Nat.le_trans hc hcm
  have hsi : (o.steps.length : Int) ≤ 9223372036854775807 := by unfold maxLen at hsl; omega
  clear hL
  have hl3 := Ord.may_len hm
  have HJ := Kept.mk hj
  clear hj
  have hli : decide ((10 : Int) < (o.steps.length : Int)) = false := by rw [decide_eq_false_iff_not]; omega
  have Hm := Kept.mk hm
  clear hm
  go_enter Try.func4, Try.ntmps4
  go_wp2_with fail
  refine (romay_to o a c true _ (HL.out.quiet K0.out) hsl hc hcm Hm.out).mono ?_
  rintro e w1 ⟨rfl, k1⟩
  have HO1 := Kept.mk (HO0.out.quiet k1)
  have HA1 := Kept.mk (HA0.out.quiet k1)
  have K1 := Kept.mk (K0.out.trans k1)
  obtain ⟨x0, x1, x2, x3, x4, x5⟩ := blk6 HO1.out
  have q0 := HA1.out.cell 0 rfl
  have q1 := HA1.out.cell 1 rfl
  clear k1 HO0 K0 HA0
  have hmk : ∀ w, (Instr.makeSlice 28 (.int .i64 o.steps.length) (.int .i64 o.steps.length)).run Try.prog w = .ok (.slice (some ⟨w.heap.size, 0, none⟩) o.steps.length o.steps.length) (w.alloc (.cells ((rowF o.steps.length (fun _ => false)).map encB).toArray 4)) := made_bools _ (by omega)
  have hz1 : w.heap.size + 1 < w1.heap.size := HA1.out.lt
  have hz0 : w.heap.size < w1.heap.size := by omega
  have hz2 : w.heap.size < w1.heap.size + 1 := by omega
  have hz3 : w.heap.size < w1.heap.size + 1 + 1 := by omega
  have hz4 : w.heap.size < w1.heap.size + 2 := by omega
  go_upto_region 5 with fail
  rw [HJ.out]
  go_cut [10] from 11 to 160 (fun z wc => ∃ p bd bu : Nat, z = .pointer (some ⟨p, 0, none⟩) ∧ Kept (p ≠ bd ∧ p ≠ bu ∧ bd ≠ bu ∧ w1.heap.size ≤ p ∧ w1.heap.size ≤ bd ∧ w1.heap.size ≤ bu) ∧ Blk wc p 31 [.slice (some ⟨bd, 0, none⟩) o.steps.length o.steps.length, .slice (some ⟨bu, 0, none⟩) o.steps.length o.steps.length, .bool true, .bool false, .bool true, .bool a0, .bool a1, .bool false, .bool false, .bool false, .bool false] ∧ Blk wc bd 4 ((rowF o.steps.length (fun _ => false)).map encB) ∧ Blk wc bu 4 ((rowF o.steps.length (fun _ => false)).map encB) ∧ Keeps (fun _ => False) w1 wc)
  case first =>
    go_region
    all_goals
      go_wp2_with fail
      go_meet
      refine ⟨_, ?_, ?_, rfl, ?_, ?_, ?_, ?_, ?_⟩
      rotate_left 3
      · refine Blk.drew ?_
        repeat (first | (refine Blk.new' _ _ _ _ ?_; simp; done) | refine Blk.alloc ?_ _)
      · refine Blk.drew ?_
        repeat (first | (refine Blk.new' _ _ _ _ ?_; simp; done) | refine Blk.alloc ?_ _)
      · refine Blk.drew ?_
        repeat (first | (refine Blk.new' _ _ _ _ ?_; simp; done) | refine Blk.alloc ?_ _)
      · repeat (first | exact Keeps.refl _ _ | refine Keeps.drew ?_ | refine Keeps.alloc ?_ _)
      exact ⟨by omega, by omega, by omega, by omega, by omega, by omega⟩
  case rest =>
  obtain ⟨p, bd, bu, rfl, hne, hP, hD, hU, kc⟩ := hcut
  obtain ⟨n1, n2, n3, n4, n5, n6⟩ := hne.out
  have HP := Kept.mk hP
  have HD := Kept.mk hD
  have HU := Kept.mk hU
  have HO2 := Kept.mk (HO1.out.quiet kc)
  have HA2 := Kept.mk (HA1.out.quiet kc)
  have K2 := Kept.mk (K1.out.trans kc)
  clear hz2 hz3 hz4
  clear hP hD hU kc HO1 HA1 x0 x1 x2 x3 x4 x5 q0 q1
  go_wp2_with fail
  go_loopw [47] (fun i wr => ∃ m : Nat, m ≤ o.steps.length ∧ i = .int .i64 m ∧ Blk wr bd 4 ((rowF o.steps.length (fun i => decide (i < m))).map encB) ∧ Blk wr p 31 [.slice (some ⟨bd, 0, none⟩) o.steps.length o.steps.length, .slice (some ⟨bu, 0, none⟩) o.steps.length o.steps.length, .bool true, .bool false, .bool true, .bool a0, .bool a1, .bool false, .bool false, .bool false, .bool false] ∧ Blk wr w.heap.size 24 [.int .i64 o.id, .int .i64 o.item, .int .i64 o.qty, .int .i64 o.client, .int .i64 o.price, .slice a o.steps.length c] ∧ Blk wr (w.heap.size + 1) 29 [.bool a0, .bool a1] ∧ Blk wr bu 4 ((rowF o.steps.length (fun i => decide (i < m) && decide (j ≤ i))).map encB) ∧ Keeps (fun _ => False) w wr) (fun i _ => o.steps.length - (intOf i).toNat)
  case atStart => exact ⟨0, Nat.zero_le _, rfl, by simpa using HD.out, HP.out, HO2.out, HA2.out, by simpa using HU.out, K2.out⟩
  case round =>
    obtain ⟨m, hmn, rfl, hD, hP, hO, hA, hU, hK⟩ := hrel
    have HD2 := Kept.mk hD
    have HP2 := Kept.mk hP
    have HO3 := Kept.mk hO
    have HA3 := Kept.mk hA
    have HU2 := Kept.mk hU
    have HK := Kept.mk hK
    obtain ⟨y0, y1, y2, y3, y4, y5, y6, y7, y8, y9, y10⟩ := blk11 hP
    obtain ⟨x0, x1, x2, x3, x4, x5⟩ := blk6 hO
    have q0 := hA.cell 0 rfl
    have q1 := hA.cell 1 rfl
    have hbd := hD.lt
    have hbu := hU.lt
    clear hD hP hO hA hU hK
    by_cases hlt : m < o.steps.length
    · have cD : wr.cell? ⟨bd, m, none⟩ = some (.bool (decide (m < m))) := HD2.out.cell m (rowF_at hlt)
      have fD := HD2.out.frozen m
      have cU : wr.cell? ⟨bu, m, none⟩ = some (.bool (decide (m < m) && decide (j ≤ m))) := HU2.out.cell m (rowF_at hlt)
      have fU := HU2.out.frozen m
      have hmi : (m : Int) < o.steps.length := by omega
      have HD3 : Kept (Blk (wr.setCell ⟨bd, m, none⟩ (.bool true)) bd 4 ((rowF o.steps.length (fun i => decide (i < m + 1))).map encB)) := ⟨by
        have h := HD2.out.set m (.bool true)
        rw [rowF_put, rowF_congr (h' := fun i => decide (i < m + 1)) (fun i hi => by
          by_cases e : i = m
          · subst e; simp
          · rw [if_neg e]
            have : (i < m) = (i < m + 1) := by rw [eq_iff_iff]; omega
            simp only [this])] at h
        exact h⟩
      have HP3 := Kept.mk (HP2.out.other (p := ⟨bd, m, none⟩) n1 (.bool true))
      have HO4 := Kept.mk (HO3.out.other (p := ⟨bd, m, none⟩) (by show w.heap.size ≠ bd; omega) (.bool true))
      have HA4 := Kept.mk (HA3.out.other (p := ⟨bd, m, none⟩) (by show w.heap.size + 1 ≠ bd; omega) (.bool true))
      have HU3 := Kept.mk (HU2.out.other (p := ⟨bd, m, none⟩) (fun e => n3 e.symm) (.bool true))
      have HK2 := Kept.mk (HK.out.setCell (p := ⟨bd, m, none⟩) (.inl (by show w.heap.size ≤ bd; omega)) (.bool true))

      by_cases hjm : j ≤ m
      · have HU4 : Kept (Blk ((wr.setCell ⟨bd, m, none⟩ (.bool true)).setCell ⟨bu, m, none⟩ (.bool true)) bu 4 ((rowF o.steps.length (fun i => decide (i < m + 1) && decide (j ≤ i))).map encB)) := ⟨by
          have h := HU3.out.set m (.bool true)
          rw [rowF_put, rowF_congr (h' := fun i => decide (i < m + 1) && decide (j ≤ i)) (fun i hi => by
            by_cases e : i = m
            · subst e; simp; omega
            · rw [if_neg e]
              have : (i < m) = (i < m + 1) := by rw [eq_iff_iff]; omega
              simp only [this])] at h
          exact h⟩
        have HD4 := Kept.mk (HD3.out.other (p := ⟨bu, m, none⟩) n3 (.bool true))
        have HP4 := Kept.mk (HP3.out.other (p := ⟨bu, m, none⟩) n2 (.bool true))
        have HO5 := Kept.mk (HO4.out.other (p := ⟨bu, m, none⟩) (by show w.heap.size ≠ bu; omega) (.bool true))
        have HA5 := Kept.mk (HA4.out.other (p := ⟨bu, m, none⟩) (by show w.heap.size + 1 ≠ bu; omega) (.bool true))
        have HK3 := Kept.mk (HK2.out.setCell (p := ⟨bu, m, none⟩) (.inl (by show w.heap.size ≤ bu; omega)) (.bool true))
        have hji : decide ((j : Int) ≤ (m : Int)) = true := by rw [decide_eq_true_eq]; omega
        go_wp2_with fail
        go_roundw
        case rel => exact ⟨m + 1, by omega, by go_num, HD4.out, HP4.out, HO5.out, HA5.out, HU4.out, HK3.out⟩
        case measure => simp [intOf]; omega
      · have HU4 : Kept (Blk ((wr.setCell ⟨bd, m, none⟩ (.bool true)).setCell ⟨bu, m, none⟩ (.bool false)) bu 4 ((rowF o.steps.length (fun i => decide (i < m + 1) && decide (j ≤ i))).map encB)) := ⟨by
          have h := HU3.out.set m (.bool false)
          rw [rowF_put, rowF_congr (h' := fun i => decide (i < m + 1) && decide (j ≤ i)) (fun i hi => by
            by_cases e : i = m
            · subst e; simp; omega
            · rw [if_neg e]
              have : (i < m) = (i < m + 1) := by rw [eq_iff_iff]; omega
              simp only [this])] at h
          exact h⟩
        have HD4 := Kept.mk (HD3.out.other (p := ⟨bu, m, none⟩) n3 (.bool false))
        have HP4 := Kept.mk (HP3.out.other (p := ⟨bu, m, none⟩) n2 (.bool false))
        have HO5 := Kept.mk (HO4.out.other (p := ⟨bu, m, none⟩) (by show w.heap.size ≠ bu; omega) (.bool false))
        have HA5 := Kept.mk (HA4.out.other (p := ⟨bu, m, none⟩) (by show w.heap.size + 1 ≠ bu; omega) (.bool false))
        have HK3 := Kept.mk (HK2.out.setCell (p := ⟨bu, m, none⟩) (.inl (by show w.heap.size ≤ bu; omega)) (.bool false))
        have hji : decide ((j : Int) ≤ (m : Int)) = false := by rw [decide_eq_false_iff_not]; omega
        go_wp2_with fail
        go_roundw
        case rel => exact ⟨m + 1, by omega, by go_num, HD4.out, HP4.out, HO5.out, HA5.out, HU4.out, HK3.out⟩
        case measure => simp [intOf]; omega
    · obtain rfl : m = o.steps.length := by omega
      have HF : Kept (FcAt wr o a c ⟨rowF o.steps.length (fun _ => true), rowF o.steps.length (fun i => decide (j ≤ i)), true, false, true, a0, a1, false, false, false, false⟩ (some ⟨bd, 0, none⟩) (some ⟨bu, 0, none⟩)) := ⟨⟨HL.out.quiet HK.out, hsl, blRow_of (by
        have h := HD2.out
        rwa [rowF_congr (h' := fun _ => true) (fun i hi => by simp [hi])] at h), by simp only [rowF_len]; exact hsl, blRow_of (by
        have h := HU2.out
        rwa [rowF_congr (h' := fun i => decide (j ≤ i)) (fun i hi => by simp [hi])] at h), by simp only [rowF_len]; exact hsl⟩⟩
      have HC0 := next_to o a _ _ c o.steps.length o.steps.length ⟨rowF o.steps.length (fun _ => true), rowF o.steps.length (fun i => decide (j ≤ i)), true, false, true, a0, a1, false, false, false, false⟩ wr HF.out
      simp only [rowF_len] at HC0
      have HC := Kept.mk HC0
      have hmm : ¬ (o.steps.length : Int) < (o.steps.length : Int) := by omega
      clear HC0
      obtain ⟨L, hL, hmem, hcnt, hll⟩ : ∃ L, Kept (nextL o ⟨rowF o.steps.length (fun _ => true), rowF o.steps.length (fun i => decide (j ≤ i)), true, false, true, a0, a1, false, false, false, false⟩ = L) ∧ (∀ (q : Nat) (x : Ms), L[q]? = some x → (a0 = false ∧ x = ⟨10, 0, 1, o.id, 0, 0, 0⟩) ∨ (a1 = false ∧ x = ⟨10, 0, 2, o.id, 0, 0, 0⟩) ∨ (∃ s jj, o.steps[jj]? = some s ∧ jj + 1 = j ∧ x = ⟨4, 0, s.1, o.id, jj, 0, 0⟩)) ∧ cntK 10 L = (!a0).toNat + (!a1).toNat ∧ L.length ≤ 3 := by
        by_cases hj0 : j = 0
        · refine ⟨_, ⟨tells_next_n0 o j a0 a1 Hm.out hj0⟩, ?_, ?_, ?_⟩
          · intro q x hx
            rcases dec_mem (List.mem_of_getElem? hx) with h | h
            · exact .inl h
            · exact .inr (.inl h)
          · rw [cntK_dec]
          · have := decTo_len 10 o a0 a1 2
            omega
        · obtain ⟨jj, rfl⟩ : ∃ jj, j = jj + 1 := ⟨j - 1, by omega⟩
          obtain ⟨s, hs⟩ : ∃ s, o.steps[jj]? = some s := ⟨_, List.getElem?_eq_getElem (by omega)⟩
          refine ⟨_, ⟨tells_next_n o jj a0 a1 Hm.out hs⟩, ?_, ?_, ?_⟩
          · intro q x hx
            have hx2 := List.mem_of_getElem? hx
            rw [List.mem_append] at hx2
            rcases hx2 with h | h
            · rcases dec_mem h with h | h
              · exact .inl h
              · exact .inr (.inl h)
            · simp only [List.mem_singleton] at h
              exact .inr (.inr ⟨s, jj, hs, rfl, h⟩)
          · rw [cntK_app, cntK_dec]; simp [cntK]
          · have := decTo_len 10 o a0 a1 2
            simp only [List.length_append, List.length_singleton]; omega
      go_wp2_with fail
      refine HC.out.mono ?_
      rintro e w4 ⟨⟨v, rfl, hM⟩, k4⟩
      rw [hL.out] at hM
      obtain ⟨va, vc, rfl, _⟩ := hM.slice
      have HM := Kept.mk hM.row
      have HO6 := Kept.mk (HO3.out.quiet k4)
      have HA6 := Kept.mk (HA3.out.quiet k4)
      have K4 := Kept.mk (HK.out.trans k4)
      clear hM k4 HP2 HU2 HD2 HF HC HO3 HA3 HK y0 y1 y2 y3 y4 y5 y6 y7 y8 y9 y10 x0 x1 x2 x3 x4 x5 q0 q1
      go_wp2_with fail
      go_loopw [12, 70] (fun t i wr => ∃ q : Nat, q ≤ L.length ∧ i = .int .i64 q ∧ t = .int .i64 (cntK 10 (L.take q) : Nat) ∧ Keeps (fun _ => False) w4 wr) (fun _ i _ => L.length - (intOf i).toNat)
      case atStart => exact ⟨0, Nat.zero_le _, rfl, rfl, Keeps.refl _ _⟩
      case round =>
        obtain ⟨q, hq, rfl, rfl, k5⟩ := hrel
        have K5 := Kept.mk (K4.out.trans k5)
        have HO7 := Kept.mk (HO6.out.quiet k5)
        have HA7 := Kept.mk (HA6.out.quiet k5)
        have HM7 := Kept.mk (HM.out.quiet k5)
        obtain ⟨x0, x1, x2, x3, x4, x5⟩ := blk6 HO7.out
        have q0 := HA7.out.cell 0 rfl
        have q1 := HA7.out.cell 1 rfl
        have hv1 : w.heap.size + 1 < wr.heap.size := HA7.out.lt
        have hv0 : w.heap.size < wr.heap.size := by omega
        by_cases hql : q < L.length
        · obtain ⟨x, hx⟩ : ∃ x, L[q]? = some x := ⟨_, List.getElem?_eq_getElem hql⟩
          have hct := cntK_take (K := 10) hx
          have hb : cntK 10 (L.take q) ≤ 3 := Nat.le_trans List.countP_le_length (by rw [List.length_take]; omega)
          obtain ⟨mg, mo, rfl, hgl, c0⟩ := HM7.out q x hx
          have hqi : (q : Int) < (L.length : Int) := by omega
          have KR : ∀ b, Kept (Keeps (fun _ => False) w4 (wr.alloc b)) := fun b => ⟨k5.alloc b⟩
          clear k5
          rcases hmem q x hx with ⟨h0, rfl⟩ | ⟨h0, rfl⟩ | ⟨s, jj, hs, hj1, rfl⟩
          · subst h0
            have m0 : wr.cell? ⟨mg, mo + q * 7, none⟩ = some (.int .i64 10) := c0 0 _ rfl
            have m1 : wr.cell? ⟨mg, mo + q * 7 + 1, none⟩ = some (.int .i64 0) := c0 1 _ rfl
            have m2 : wr.cell? ⟨mg, mo + q * 7 + 2, none⟩ = some (.int .i64 1) := c0 2 _ rfl
            have m3 : wr.cell? ⟨mg, mo + q * 7 + 3, none⟩ = some (.int .i64 o.id) := c0 3 _ rfl
            have m4 : wr.cell? ⟨mg, mo + q * 7 + 4, none⟩ = some (.int .i64 0) := c0 4 _ rfl
            have m5 : wr.cell? ⟨mg, mo + q * 7 + 5, none⟩ = some (.int .i64 0) := c0 5 _ rfl
            have m6 : wr.cell? ⟨mg, mo + q * 7 + 6, none⟩ = some (.int .i64 0) := c0 6 _ rfl
            clear c0
            simp only [if_true] at hct
            go_wp2_with fail
            go_roundw
            case rel => exact ⟨q + 1, by omega, by go_num, by rw [hct]; go_num, (KR _).out⟩
            case measure => simp [intOf]; omega
          · subst h0
            have m0 : wr.cell? ⟨mg, mo + q * 7, none⟩ = some (.int .i64 10) := c0 0 _ rfl
            have m1 : wr.cell? ⟨mg, mo + q * 7 + 1, none⟩ = some (.int .i64 0) := c0 1 _ rfl
            have m2 : wr.cell? ⟨mg, mo + q * 7 + 2, none⟩ = some (.int .i64 2) := c0 2 _ rfl
            have m3 : wr.cell? ⟨mg, mo + q * 7 + 3, none⟩ = some (.int .i64 o.id) := c0 3 _ rfl
            have m4 : wr.cell? ⟨mg, mo + q * 7 + 4, none⟩ = some (.int .i64 0) := c0 4 _ rfl
            have m5 : wr.cell? ⟨mg, mo + q * 7 + 5, none⟩ = some (.int .i64 0) := c0 5 _ rfl
            have m6 : wr.cell? ⟨mg, mo + q * 7 + 6, none⟩ = some (.int .i64 0) := c0 6 _ rfl
            clear c0
            simp only [if_true] at hct
            go_wp2_with fail
            go_roundw
            case rel => exact ⟨q + 1, by omega, by go_num, by rw [hct]; go_num, (KR _).out⟩
            case measure => simp [intOf]; omega
          · have hsl2 := (List.getElem?_eq_some_iff.1 hs).1
            obtain ⟨sg, so, rfl, hsg, s0, s1⟩ := (HL.out.quiet K5.out) jj s hs
            obtain ⟨z1, z2⟩ := s
            dsimp only at s0 s1 c0
            have hsg2 : sg < wr.heap.size := hsg
            have hjj : (jj : Int) < o.steps.length := by omega
            have hjp : ((j : Int) == 0) = false := by rw [beq_eq_false_iff_ne]; omega
            have hjw : IntKind.i64.wrap ((j : Int) - 1) = (jj : Int) := by rw [show (j : Int) - 1 = (jj : Int) by omega]; exact IntWalk.i64_in _ (by omega)
            have hv2 : wr.heap.size ≠ sg := by omega
            have m0 : wr.cell? ⟨mg, mo + q * 7, none⟩ = some (.int .i64 4) := c0 0 _ rfl
            have m1 : wr.cell? ⟨mg, mo + q * 7 + 1, none⟩ = some (.int .i64 0) := c0 1 _ rfl
            have m2 : wr.cell? ⟨mg, mo + q * 7 + 2, none⟩ = some (.int .i64 z1) := c0 2 _ rfl
            have m3 : wr.cell? ⟨mg, mo + q * 7 + 3, none⟩ = some (.int .i64 o.id) := c0 3 _ rfl
            have m4 : wr.cell? ⟨mg, mo + q * 7 + 4, none⟩ = some (.int .i64 jj) := c0 4 _ rfl
            have m5 : wr.cell? ⟨mg, mo + q * 7 + 5, none⟩ = some (.int .i64 0) := c0 5 _ rfl
            have m6 : wr.cell? ⟨mg, mo + q * 7 + 6, none⟩ = some (.int .i64 0) := c0 6 _ rfl
            clear c0
            simp only [show ¬ ((4 : Int) = 10) by omega, if_false, Nat.add_zero] at hct
            go_wp2_with fail
            go_quiet (fail)
            go_wp2_with fail
            go_roundw
            case rel => exact ⟨q + 1, by omega, by go_num, by rw [hct], (KR _).out.drewN _⟩
            case measure => simp [intOf]; omega
        · obtain rfl : q = L.length := by omega
          have hqq : ¬ (L.length : Int) < (L.length : Int) := by omega
          clear k5
          rw [List.take_length, hcnt]
          have hix0 : ∀ (u v : Value) (w : World), (Instr.index 29 (.agg #[u, v]) (.int .i64 0)).run Try.prog w = .ok u w := fun _ _ _ => by kernel_rfl
          have hix1 : ∀ (u v : Value) (w : World), (Instr.index 29 (.agg #[u, v]) (.int .i64 1)).run Try.prog w = .ok v w := fun _ _ _ => by kernel_rfl
          go_wp2_with fail
          go_loopw [12, 149] (fun t i wz => ∃ n m : Nat, n ≤ 2 ∧ i = .int .i64 n ∧ t = .int .i64 m ∧ Kept (m + ((if n ≤ 0 then a0.toNat else 0) + (if n ≤ 1 then a1.toNat else 0)) = 2) ∧ wz = wr) (fun _ i _ => 2 - (intOf i).toNat)
          case atStart => exact ⟨0, _, by omega, rfl, rfl, ⟨by cases a0 <;> cases a1 <;> rfl⟩, rfl⟩
          case round =>
            obtain ⟨n, m, hn, rfl, rfl, ht, rfl⟩ := hrel
            match n, hn with
            | 2, _ =>
              obtain rfl : m = 2 := by simpa using ht.out
              go_wp2_with fail
              refine (awake_to _).mono ?_
              rintro e w9 ⟨rfl, k9⟩
              go_wp2_with fail
              go_ret
              exact ⟨rfl, K5.out.trans k9⟩
            | 0, _ =>
              have hml : m ≤ 2 := by have := ht.out; omega
              cases a0 with
              | true =>
                go_wp2_with fail
                go_roundw
                case rel => exact ⟨1, m + 1, by omega, by go_num, by go_num, ⟨by have := ht.out; simp at this ⊢; omega⟩, trivial⟩
                case measure => simp [intOf]
              | false =>
                go_wp2_with fail
                go_roundw
                case rel => exact ⟨1, m, by omega, by go_num, rfl, ⟨by have := ht.out; simp at this ⊢; omega⟩, trivial⟩
                case measure => simp [intOf]
            | 1, _ =>
              have hml : m ≤ 2 := by have := ht.out; omega
              cases a1 with
              | true =>
                go_wp2_with fail
                go_roundw
                case rel => exact ⟨2, m + 1, by omega, by go_num, by go_num, ⟨by have := ht.out; simp at this ⊢; omega⟩, trivial⟩
                case measure => simp [intOf]
              | false =>
                go_wp2_with fail
                go_roundw
                case rel => exact ⟨2, m, by omega, by go_num, rfl, ⟨by have := ht.out; simp at this ⊢; omega⟩, trivial⟩
                case measure => simp [intOf]
theorem tells_any (o : Ord) (a : Option Addr) (c : Nat) (yes a0 a1 : Bool) (k : Int) (w : World) (hL : StRow w a o.steps) (hc : o.steps.length ≤ c) (hcm : c ≤ maxLen) :
    Calls Try.prog 4 #[.agg #[.int .i64 o.id, .int .i64 o.item, .int .i64 o.qty, .int .i64 o.client, .int .i64 o.price, .slice a o.steps.length c], .bool yes, .agg #[.bool a0, .bool a1], .int .i64 k] w (Yes w) := by
  have key : Calls Try.prog 4 #[.agg #[.int .i64 o.id, .int .i64 o.item, .int .i64 o.qty, .int .i64 o.client, .int .i64 o.price, .slice a o.steps.length c], .bool yes, .agg #[.bool a0, .bool a1], .int .i64 k] w (fun e w' => e = .returned (.bool true) ∧ Keeps (fun _ => False) w w') := by
    by_cases hl : 10 < o.steps.length
    · exact tells_long o a c yes a0 a1 k w hL hc hcm hl
    · cases hm : o.may with
      | false => exact tells_not o a c yes a0 a1 k w hL hc hcm (by omega) hm
      | true =>
        have hl3 := Ord.may_len hm
        obtain ⟨j, h1, h2⟩ := mod_nat k ((o.steps.length : Int) + 1) (by omega) (by omega)
        cases yes with
        | true => exact tells_yes o a c a0 a1 k w hL hc hcm hm j h1 (by omega)
        | false => exact tells_no o a c a0 a1 k w hL hc hcm hm j h1 (by omega)
  exact key.mono fun _ _ ⟨he, k⟩ => ⟨he, k.below (Nat.le_refl _) (fun _ h => h.elim)⟩
end Go.Proofs.Ytfcnegnkmacajaa
