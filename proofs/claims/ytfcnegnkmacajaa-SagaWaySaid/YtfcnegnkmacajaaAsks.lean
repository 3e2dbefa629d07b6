/- The law SagaAsks, walked. (printed by gen/asks.py) -/
import Derived.Test.YtfcnegnkmacajaaLaw16b
import Derived.Test.YtfcnegnkmacajaaOrd4
import Derived.Test.YtfcnegnkmacajaaMade
import Derived.Deep.RegionHeld3
import Derived.Deep.CutRange
namespace Go.Proofs.Ytfcnegnkmacajaa
open Go.RowKit
theorem fwdAt_skip (o : Ord) : ∀ (k : Nat) (D : List Bool) (S : List St) (j : Int), (∀ i, i < k → D[i]? = some true) → k ≤ S.length → fwdAt o D S j = fwdAt o (D.drop k) (S.drop k) (j + k)
  | 0, D, S, j, _, _ => by simp
  | k + 1, D, S, j, h, hk => by
    match D, S, h 0 (by omega), hk with
    | [], S, h0, _ => simp at h0
    | d :: D', [], _, hk => simp at hk
    | d :: D', s :: S', h0, hk =>
      simp only [List.getElem?_cons_zero, Option.some.injEq] at h0
      subst h0
      have ih := fwdAt_skip o k D' S' (j + 1) (fun i hi => by have := h (i + 1) (by omega); simpa using this) (by simpa using hk)
      show fwdAt o D' S' (j + 1) = fwdAt o (D'.drop k) (S'.drop k) (j + (k + 1 : Nat))
      rw [ih]
      congr 1
      omega
section
variable (o : Ord) (j : Nat) (hm : o.may = true)
include hm
theorem asks_facts : Fct.may o ⟨rowF o.steps.length (fun i => decide (i < j)), rowF o.steps.length (fun _ => false), false, false, false, false, false, false, false, false, false⟩ = true := by
  have h1 := firstB_rowF (n := o.steps.length) (h := fun i => decide (i < j)) (fun i _ h => by simp only [decide_eq_true_eq] at h ⊢; omega)
  have h2 := hasB_rowF (n := o.steps.length) (h := fun _ => false) (b := true) (fun _ _ => rfl)
  have h3 := lastB_rowF (n := o.steps.length) (h := fun _ => false) (fun i _ h => h)
  simp [Fct.may, hm, rowF_len, h1, h2, h3]
theorem asks_state : Fct.state o ⟨rowF o.steps.length (fun i => decide (i < j)), rowF o.steps.length (fun _ => false), false, false, false, false, false, false, false, false, false⟩ = 1 := by
  have h := asks_facts o j hm
  simp [Fct.state, h, Fct.ends]
theorem asks_next_lt {x : St} (hx : o.steps[j]? = some x) : nextL o ⟨rowF o.steps.length (fun i => decide (i < j)), rowF o.steps.length (fun _ => false), false, false, false, false, false, false, false, false, false⟩ = [⟨1, 0, x.1, o.id, j, x.2, 0⟩] := by
  have h := asks_facts o j hm
  have hl := (List.getElem?_eq_some_iff.1 hx).1
  unfold nextL
  rw [h]
  simp only [Bool.true_eq_false, if_false, Bool.false_eq_true]
  rw [fwdAt_skip o j _ _ 0 (fun i hi => by rw [rowF_get _ _ (by omega)]; simp [hi]) (by omega)]
  have hd : o.steps.drop j = x :: o.steps.drop (j + 1) := by rw [List.drop_eq_getElem_cons hl]; rw [List.getElem?_eq_getElem hl] at hx; simp only [Option.some.injEq] at hx; rw [hx]
  have hl2 : j < (rowF o.steps.length (fun i => decide (i < j))).length := by rw [rowF_len]; exact hl
  have hg : (rowF o.steps.length (fun i => decide (i < j)))[j]? = some false := by rw [rowF_get _ _ hl]; simp
  have hd2 : (rowF o.steps.length (fun i => decide (i < j))).drop j = false :: (rowF o.steps.length (fun i => decide (i < j))).drop (j + 1) := by rw [List.drop_eq_getElem_cons hl2]; rw [List.getElem?_eq_getElem hl2] at hg; simp only [Option.some.injEq] at hg; rw [hg]
  rw [hd, hd2]
  simp [fwdAt]
theorem asks_next_eq (h0 : j = o.steps.length) : nextL o ⟨rowF o.steps.length (fun i => decide (i < j)), rowF o.steps.length (fun _ => false), false, false, false, false, false, false, false, false, false⟩ = [⟨6, 0, 1, o.id, 0, o.item, o.qty⟩, ⟨6, 0, 2, o.id, 0, o.client, o.price⟩] := by
  have h := asks_facts o j hm
  unfold nextL
  rw [h]
  simp only [Bool.true_eq_false, if_false, Bool.false_eq_true]
  rw [fwdAt_skip o j _ _ 0 (fun i hi => by rw [rowF_get _ _ (by omega)]; simp [hi]) (by omega), List.drop_of_length_le (by rw [rowF_len]; omega), List.drop_of_length_le (by omega)]
  rfl
end
theorem nine_keep {W W' : World} {mg mo sg so : Nat} {m0 m1 m2 m3 m4 m5 m6 t0 t1 : Value} (k : Keeps (fun _ => False) W W') (hm : mg < W.heap.size) (hs : sg < W.heap.size) (h : W.cell? ⟨mg, mo, none⟩ = some m0 ∧ W.cell? ⟨mg, mo + 1, none⟩ = some m1 ∧ W.cell? ⟨mg, mo + 2, none⟩ = some m2 ∧ W.cell? ⟨mg, mo + 3, none⟩ = some m3 ∧ W.cell? ⟨mg, mo + 4, none⟩ = some m4 ∧ W.cell? ⟨mg, mo + 5, none⟩ = some m5 ∧ W.cell? ⟨mg, mo + 6, none⟩ = some m6 ∧ W.cell? ⟨sg, so, none⟩ = some t0 ∧ W.cell? ⟨sg, so + 1, none⟩ = some t1) : W'.cell? ⟨mg, mo, none⟩ = some m0 ∧ W'.cell? ⟨mg, mo + 1, none⟩ = some m1 ∧ W'.cell? ⟨mg, mo + 2, none⟩ = some m2 ∧ W'.cell? ⟨mg, mo + 3, none⟩ = some m3 ∧ W'.cell? ⟨mg, mo + 4, none⟩ = some m4 ∧ W'.cell? ⟨mg, mo + 5, none⟩ = some m5 ∧ W'.cell? ⟨mg, mo + 6, none⟩ = some m6 ∧ W'.cell? ⟨sg, so, none⟩ = some t0 ∧ W'.cell? ⟨sg, so + 1, none⟩ = some t1 :=
  ⟨(k.cell (p := ⟨mg, mo, none⟩) hm (fun h => h)).trans h.1, (k.cell (p := ⟨mg, mo + 1, none⟩) hm (fun h => h)).trans h.2.1, (k.cell (p := ⟨mg, mo + 2, none⟩) hm (fun h => h)).trans h.2.2.1, (k.cell (p := ⟨mg, mo + 3, none⟩) hm (fun h => h)).trans h.2.2.2.1, (k.cell (p := ⟨mg, mo + 4, none⟩) hm (fun h => h)).trans h.2.2.2.2.1, (k.cell (p := ⟨mg, mo + 5, none⟩) hm (fun h => h)).trans h.2.2.2.2.2.1, (k.cell (p := ⟨mg, mo + 6, none⟩) hm (fun h => h)).trans h.2.2.2.2.2.2.1, (k.cell (p := ⟨sg, so, none⟩) hs (fun h => h)).trans h.2.2.2.2.2.2.2.1, (k.cell (p := ⟨sg, so + 1, none⟩) hs (fun h => h)).trans h.2.2.2.2.2.2.2.2⟩
theorem s26 {W : World} {b q mg mo sg so : Nat} {T U : TypeId} {v0 v1 v2 v3 v4 v5 u0 u1 u2 u3 u4 u5 u6 u7 u8 u9 u10 m0 m1 m2 m3 m4 m5 m6 t0 t1 : Value} (h : Blk W b T [v0, v1, v2, v3, v4, v5]) (k : Blk W q U [u0, u1, u2, u3, u4, u5, u6, u7, u8, u9, u10]) (l : W.cell? ⟨mg, mo, none⟩ = some m0 ∧ W.cell? ⟨mg, mo + 1, none⟩ = some m1 ∧ W.cell? ⟨mg, mo + 2, none⟩ = some m2 ∧ W.cell? ⟨mg, mo + 3, none⟩ = some m3 ∧ W.cell? ⟨mg, mo + 4, none⟩ = some m4 ∧ W.cell? ⟨mg, mo + 5, none⟩ = some m5 ∧ W.cell? ⟨mg, mo + 6, none⟩ = some m6 ∧ W.cell? ⟨sg, so, none⟩ = some t0 ∧ W.cell? ⟨sg, so + 1, none⟩ = some t1) :
    W.cell? ⟨b, 0, none⟩ = some v0 ∧ W.cell? ⟨b, 1, none⟩ = some v1 ∧ W.cell? ⟨b, 2, none⟩ = some v2 ∧ W.cell? ⟨b, 3, none⟩ = some v3 ∧ W.cell? ⟨b, 4, none⟩ = some v4 ∧ W.cell? ⟨b, 5, none⟩ = some v5 ∧ W.cell? ⟨q, 0, none⟩ = some u0 ∧ W.cell? ⟨q, 1, none⟩ = some u1 ∧ W.cell? ⟨q, 2, none⟩ = some u2 ∧ W.cell? ⟨q, 3, none⟩ = some u3 ∧ W.cell? ⟨q, 4, none⟩ = some u4 ∧ W.cell? ⟨q, 5, none⟩ = some u5 ∧ W.cell? ⟨q, 6, none⟩ = some u6 ∧ W.cell? ⟨q, 7, none⟩ = some u7 ∧ W.cell? ⟨q, 8, none⟩ = some u8 ∧ W.cell? ⟨q, 9, none⟩ = some u9 ∧ W.cell? ⟨q, 10, none⟩ = some u10 ∧ W.cell? ⟨mg, mo, none⟩ = some m0 ∧ W.cell? ⟨mg, mo + 1, none⟩ = some m1 ∧ W.cell? ⟨mg, mo + 2, none⟩ = some m2 ∧ W.cell? ⟨mg, mo + 3, none⟩ = some m3 ∧ W.cell? ⟨mg, mo + 4, none⟩ = some m4 ∧ W.cell? ⟨mg, mo + 5, none⟩ = some m5 ∧ W.cell? ⟨mg, mo + 6, none⟩ = some m6 ∧ W.cell? ⟨sg, so, none⟩ = some t0 ∧ W.cell? ⟨sg, so + 1, none⟩ = some t1 :=
  ⟨h.cell 0 rfl, h.cell 1 rfl, h.cell 2 rfl, h.cell 3 rfl, h.cell 4 rfl, h.cell 5 rfl, k.cell 0 rfl, k.cell 1 rfl, k.cell 2 rfl, k.cell 3 rfl, k.cell 4 rfl, k.cell 5 rfl, k.cell 6 rfl, k.cell 7 rfl, k.cell 8 rfl, k.cell 9 rfl, k.cell 10 rfl, l⟩
theorem four_keep {W W' : World} {mg mo : Nat} {m0 m1 m2 m3 m4 m5 m6 m7 m8 m9 m10 m11 m12 m13 : Value} (k : Keeps (fun _ => False) W W') (hm : mg < W.heap.size) (h : W.cell? ⟨mg, mo, none⟩ = some m0 ∧ W.cell? ⟨mg, mo + 1, none⟩ = some m1 ∧ W.cell? ⟨mg, mo + 2, none⟩ = some m2 ∧ W.cell? ⟨mg, mo + 3, none⟩ = some m3 ∧ W.cell? ⟨mg, mo + 4, none⟩ = some m4 ∧ W.cell? ⟨mg, mo + 5, none⟩ = some m5 ∧ W.cell? ⟨mg, mo + 6, none⟩ = some m6 ∧ W.cell? ⟨mg, mo + 7, none⟩ = some m7 ∧ W.cell? ⟨mg, mo + 7 + 1, none⟩ = some m8 ∧ W.cell? ⟨mg, mo + 7 + 2, none⟩ = some m9 ∧ W.cell? ⟨mg, mo + 7 + 3, none⟩ = some m10 ∧ W.cell? ⟨mg, mo + 7 + 4, none⟩ = some m11 ∧ W.cell? ⟨mg, mo + 7 + 5, none⟩ = some m12 ∧ W.cell? ⟨mg, mo + 7 + 6, none⟩ = some m13) : W'.cell? ⟨mg, mo, none⟩ = some m0 ∧ W'.cell? ⟨mg, mo + 1, none⟩ = some m1 ∧ W'.cell? ⟨mg, mo + 2, none⟩ = some m2 ∧ W'.cell? ⟨mg, mo + 3, none⟩ = some m3 ∧ W'.cell? ⟨mg, mo + 4, none⟩ = some m4 ∧ W'.cell? ⟨mg, mo + 5, none⟩ = some m5 ∧ W'.cell? ⟨mg, mo + 6, none⟩ = some m6 ∧ W'.cell? ⟨mg, mo + 7, none⟩ = some m7 ∧ W'.cell? ⟨mg, mo + 7 + 1, none⟩ = some m8 ∧ W'.cell? ⟨mg, mo + 7 + 2, none⟩ = some m9 ∧ W'.cell? ⟨mg, mo + 7 + 3, none⟩ = some m10 ∧ W'.cell? ⟨mg, mo + 7 + 4, none⟩ = some m11 ∧ W'.cell? ⟨mg, mo + 7 + 5, none⟩ = some m12 ∧ W'.cell? ⟨mg, mo + 7 + 6, none⟩ = some m13 :=
  ⟨(k.cell (p := ⟨mg, mo, none⟩) hm (fun h => h)).trans h.1, (k.cell (p := ⟨mg, mo + 1, none⟩) hm (fun h => h)).trans h.2.1, (k.cell (p := ⟨mg, mo + 2, none⟩) hm (fun h => h)).trans h.2.2.1, (k.cell (p := ⟨mg, mo + 3, none⟩) hm (fun h => h)).trans h.2.2.2.1, (k.cell (p := ⟨mg, mo + 4, none⟩) hm (fun h => h)).trans h.2.2.2.2.1, (k.cell (p := ⟨mg, mo + 5, none⟩) hm (fun h => h)).trans h.2.2.2.2.2.1, (k.cell (p := ⟨mg, mo + 6, none⟩) hm (fun h => h)).trans h.2.2.2.2.2.2.1, (k.cell (p := ⟨mg, mo + 7, none⟩) hm (fun h => h)).trans h.2.2.2.2.2.2.2.1, (k.cell (p := ⟨mg, mo + 7 + 1, none⟩) hm (fun h => h)).trans h.2.2.2.2.2.2.2.2.1, (k.cell (p := ⟨mg, mo + 7 + 2, none⟩) hm (fun h => h)).trans h.2.2.2.2.2.2.2.2.2.1, (k.cell (p := ⟨mg, mo + 7 + 3, none⟩) hm (fun h => h)).trans h.2.2.2.2.2.2.2.2.2.2.1, (k.cell (p := ⟨mg, mo + 7 + 4, none⟩) hm (fun h => h)).trans h.2.2.2.2.2.2.2.2.2.2.2.1, (k.cell (p := ⟨mg, mo + 7 + 5, none⟩) hm (fun h => h)).trans h.2.2.2.2.2.2.2.2.2.2.2.2.1, (k.cell (p := ⟨mg, mo + 7 + 6, none⟩) hm (fun h => h)).trans h.2.2.2.2.2.2.2.2.2.2.2.2.2⟩
theorem s20 {W : World} {b mg mo : Nat} {T : TypeId} {v0 v1 v2 v3 v4 v5 m0 m1 m2 m3 m4 m5 m6 m7 m8 m9 m10 m11 m12 m13 : Value} (h : Blk W b T [v0, v1, v2, v3, v4, v5]) (l : W.cell? ⟨mg, mo, none⟩ = some m0 ∧ W.cell? ⟨mg, mo + 1, none⟩ = some m1 ∧ W.cell? ⟨mg, mo + 2, none⟩ = some m2 ∧ W.cell? ⟨mg, mo + 3, none⟩ = some m3 ∧ W.cell? ⟨mg, mo + 4, none⟩ = some m4 ∧ W.cell? ⟨mg, mo + 5, none⟩ = some m5 ∧ W.cell? ⟨mg, mo + 6, none⟩ = some m6 ∧ W.cell? ⟨mg, mo + 7, none⟩ = some m7 ∧ W.cell? ⟨mg, mo + 7 + 1, none⟩ = some m8 ∧ W.cell? ⟨mg, mo + 7 + 2, none⟩ = some m9 ∧ W.cell? ⟨mg, mo + 7 + 3, none⟩ = some m10 ∧ W.cell? ⟨mg, mo + 7 + 4, none⟩ = some m11 ∧ W.cell? ⟨mg, mo + 7 + 5, none⟩ = some m12 ∧ W.cell? ⟨mg, mo + 7 + 6, none⟩ = some m13) :
    W.cell? ⟨b, 0, none⟩ = some v0 ∧ W.cell? ⟨b, 1, none⟩ = some v1 ∧ W.cell? ⟨b, 2, none⟩ = some v2 ∧ W.cell? ⟨b, 3, none⟩ = some v3 ∧ W.cell? ⟨b, 4, none⟩ = some v4 ∧ W.cell? ⟨b, 5, none⟩ = some v5 ∧ W.cell? ⟨mg, mo, none⟩ = some m0 ∧ W.cell? ⟨mg, mo + 1, none⟩ = some m1 ∧ W.cell? ⟨mg, mo + 2, none⟩ = some m2 ∧ W.cell? ⟨mg, mo + 3, none⟩ = some m3 ∧ W.cell? ⟨mg, mo + 4, none⟩ = some m4 ∧ W.cell? ⟨mg, mo + 5, none⟩ = some m5 ∧ W.cell? ⟨mg, mo + 6, none⟩ = some m6 ∧ W.cell? ⟨mg, mo + 7, none⟩ = some m7 ∧ W.cell? ⟨mg, mo + 7 + 1, none⟩ = some m8 ∧ W.cell? ⟨mg, mo + 7 + 2, none⟩ = some m9 ∧ W.cell? ⟨mg, mo + 7 + 3, none⟩ = some m10 ∧ W.cell? ⟨mg, mo + 7 + 4, none⟩ = some m11 ∧ W.cell? ⟨mg, mo + 7 + 5, none⟩ = some m12 ∧ W.cell? ⟨mg, mo + 7 + 6, none⟩ = some m13 :=
  ⟨h.cell 0 rfl, h.cell 1 rfl, h.cell 2 rfl, h.cell 3 rfl, h.cell 4 rfl, h.cell 5 rfl, l⟩
set_option linter.unusedSimpArgs false in
set_option maxRecDepth 100000 in
set_option maxHeartbeats 16000000 in
theorem asks_long (o : Ord) (a : Option Addr) (c : Nat) (k : Int) (w : World) (hL : StRow w a o.steps) (hc : o.steps.length ≤ c) (hcm : c ≤ maxLen) (hl : 10 < o.steps.length) :
    Calls Try.prog 3 #[.agg #[.int .i64 o.id, .int .i64 o.item, .int .i64 o.qty, .int .i64 o.client, .int .i64 o.price, .slice a o.steps.length c], .int .i64 k] w (fun e w' => e = .returned (.bool true) ∧ Keeps (fun _ => False) w w') := by
  have HO0 := Kept.mk (Blk.new' w 24 [.int .i64 o.id, .int .i64 o.item, .int .i64 o.qty, .int .i64 o.client, .int .i64 o.price, .slice a o.steps.length c] _ rfl)
  have K0 : Kept (Keeps (fun _ => False) w (w.alloc (.cells #[.int .i64 o.id, .int .i64 o.item, .int .i64 o.qty, .int .i64 o.client, .int .i64 o.price, .slice a o.steps.length c] 24))) := ⟨(Keeps.refl _ w).alloc _⟩
  have HL := Kept.mk hL
  have hsl : o.steps.length ≤ maxLen := Nat.le_trans hc hcm
  have hsi : (o.steps.length : Int) ≤ 9223372036854775807 := by unfold maxLen at hsl; omega
  clear hL
  have hli : decide ((10 : Int) < (o.steps.length : Int)) = true := by rw [decide_eq_true_eq]; omega
  clear HO0 HL
  go_enter Try.func3, Try.ntmps3
  go_wp2_with fail
  refine (awake_to _).mono ?_
  rintro e w9 ⟨rfl, k9⟩
  go_wp2_with fail
  go_ret
  exact ⟨rfl, K0.out.trans k9⟩
set_option linter.unusedSimpArgs false in
set_option maxRecDepth 100000 in
set_option maxHeartbeats 16000000 in
theorem asks_not (o : Ord) (a : Option Addr) (c : Nat) (k : Int) (w : World) (hL : StRow w a o.steps) (hc : o.steps.length ≤ c) (hcm : c ≤ maxLen) (hl : o.steps.length ≤ 10) (hm : o.may = false) :
    Calls Try.prog 3 #[.agg #[.int .i64 o.id, .int .i64 o.item, .int .i64 o.qty, .int .i64 o.client, .int .i64 o.price, .slice a o.steps.length c], .int .i64 k] w (fun e w' => e = .returned (.bool true) ∧ Keeps (fun _ => False) w w') := by
  have HO0 := Kept.mk (Blk.new' w 24 [.int .i64 o.id, .int .i64 o.item, .int .i64 o.qty, .int .i64 o.client, .int .i64 o.price, .slice a o.steps.length c] _ rfl)
  have K0 : Kept (Keeps (fun _ => False) w (w.alloc (.cells #[.int .i64 o.id, .int .i64 o.item, .int .i64 o.qty, .int .i64 o.client, .int .i64 o.price, .slice a o.steps.length c] 24))) := ⟨(Keeps.refl _ w).alloc _⟩
  have HL := Kept.mk hL
  have hsl : o.steps.length ≤ maxLen := Nat.le_trans hc hcm
  have hsi : (o.steps.length : Int) ≤ 9223372036854775807 := by unfold maxLen at hsl; omega
  clear hL
  have hli : decide ((10 : Int) < (o.steps.length : Int)) = false := by rw [decide_eq_false_iff_not]; omega
  have Hm := Kept.mk hm
  clear hm
  go_enter Try.func3, Try.ntmps3
  go_wp2_with fail
  refine (romay_to o a c false _ (HL.out.quiet K0.out) hsl hc hcm Hm.out).mono ?_
  rintro e w1 ⟨rfl, k1⟩
  have HO1 := Kept.mk (HO0.out.quiet k1)
  have K1 := Kept.mk (K0.out.trans k1)
  obtain ⟨x0, x1, x2, x3, x4, x5⟩ := blk6 HO1.out
  clear k1 HO0 K0
  go_wp2_with fail
  refine (awake_to _).mono ?_
  rintro e w9 ⟨rfl, k9⟩
  go_wp2_with fail
  go_ret
  exact ⟨rfl, K1.out.trans k9⟩
set_option linter.unusedSimpArgs false in
set_option maxRecDepth 100000 in
set_option maxHeartbeats 16000000 in
theorem asks_may (o : Ord) (a : Option Addr) (c : Nat) (k : Int) (w : World) (hL : StRow w a o.steps) (hc : o.steps.length ≤ c) (hcm : c ≤ maxLen) (hm : o.may = true) (j : Nat) (hj : wrap64 ((IntKind.u64.wrap k).tmod ((o.steps.length : Int) + 1)) = (j : Int)) (hjl : j ≤ o.steps.length) :
    Calls Try.prog 3 #[.agg #[.int .i64 o.id, .int .i64 o.item, .int .i64 o.qty, .int .i64 o.client, .int .i64 o.price, .slice a o.steps.length c], .int .i64 k] w (fun e w' => e = .returned (.bool true) ∧ Keeps (fun _ => False) w w') := by
  have HO0 := Kept.mk (Blk.new' w 24 [.int .i64 o.id, .int .i64 o.item, .int .i64 o.qty, .int .i64 o.client, .int .i64 o.price, .slice a o.steps.length c] _ rfl)
  have K0 : Kept (Keeps (fun _ => False) w (w.alloc (.cells #[.int .i64 o.id, .int .i64 o.item, .int .i64 o.qty, .int .i64 o.client, .int .i64 o.price, .slice a o.steps.length c] 24))) := ⟨(Keeps.refl _ w).alloc _⟩
  have HL := Kept.mk hL
  have hsl : o.steps.length ≤ maxLen := Nat.le_trans hc hcm
  have hsi : (o.steps.length : Int) ≤ 9223372036854775807 := by unfold maxLen at hsl; omega
  clear hL
  have hl3 := Ord.may_len hm
  have HJ := Kept.mk hj
  clear hj
  have hli : decide ((10 : Int) < (o.steps.length : Int)) = false := by rw [decide_eq_false_iff_not]; omega
  have Hm := Kept.mk hm
  clear hm
  go_enter Try.func3, Try.ntmps3
  go_wp2_with fail
  refine (romay_to o a c true _ (HL.out.quiet K0.out) hsl hc hcm Hm.out).mono ?_
  rintro e w1 ⟨rfl, k1⟩
  have HO1 := Kept.mk (HO0.out.quiet k1)
  have K1 := Kept.mk (K0.out.trans k1)
  obtain ⟨x0, x1, x2, x3, x4, x5⟩ := blk6 HO1.out
  clear k1 HO0 K0
  have hmk : ∀ w, (Instr.makeSlice 28 (.int .i64 o.steps.length) (.int .i64 o.steps.length)).run Try.prog w = .ok (.slice (some ⟨w.heap.size, 0, none⟩) o.steps.length o.steps.length) (w.alloc (.cells ((rowF o.steps.length (fun _ => false)).map encB).toArray 4)) := made_bools _ (by omega)
  go_upto_region 5 with fail
  rw [HJ.out]
  go_cut [6] from 7 to 114 (fun z wc => ∃ p bd bu : Nat, z = .pointer (some ⟨p, 0, none⟩) ∧ Kept (p ≠ bd ∧ p ≠ bu ∧ bd ≠ bu ∧ w1.heap.size ≤ p ∧ w1.heap.size ≤ bd ∧ w1.heap.size ≤ bu) ∧ Blk wc p 31 [.slice (some ⟨bd, 0, none⟩) o.steps.length o.steps.length, .slice (some ⟨bu, 0, none⟩) o.steps.length o.steps.length, .bool false, .bool false, .bool false, .bool false, .bool false, .bool false, .bool false, .bool false, .bool false] ∧ Blk wc bd 4 ((rowF o.steps.length (fun _ => false)).map encB) ∧ Blk wc bu 4 ((rowF o.steps.length (fun _ => false)).map encB) ∧ Keeps (fun _ => False) w1 wc)
  case first =>
    go_region
    all_goals
      go_wp2_with fail
      go_meet
      refine ⟨_, ?_, ?_, rfl, ?_, ?_, ?_, ?_, ?_⟩
      rotate_left 3
      · refine Blk.drew ?_
        repeat (first | (refine Blk.new' _ _ _ _ ?_; simp; done) | refine Blk.alloc ?_ _)
      · refine Blk.drew ?_
        repeat (first | (refine Blk.new' _ _ _ _ ?_; simp; done) | refine Blk.alloc ?_ _)
      · refine Blk.drew ?_
        repeat (first | (refine Blk.new' _ _ _ _ ?_; simp; done) | refine Blk.alloc ?_ _)
      · repeat (first | exact Keeps.refl _ _ | refine Keeps.drew ?_ | refine Keeps.alloc ?_ _)
      exact ⟨by omega, by omega, by omega, by omega, by omega, by omega⟩
  case rest =>
  obtain ⟨p, bd, bu, rfl, hne, hP, hD, hU, kc⟩ := hcut
  obtain ⟨n1, n2, n3, n4, n5, n6⟩ := hne.out
  have HP := Kept.mk hP
  have HD := Kept.mk hD
  have HU := Kept.mk hU
  have HO2 := Kept.mk (HO1.out.quiet kc)
  have K2 := Kept.mk (K1.out.trans kc)
  have hz1 := HO1.out.lt
  clear hP hD hU kc HO1 x0 x1 x2 x3 x4 x5
  go_wp2_with fail
  go_loopw [35] (fun i wr => ∃ m : Nat, m ≤ j ∧ i = .int .i64 m ∧ Blk wr bd 4 ((rowF o.steps.length (fun i => decide (i < m))).map encB) ∧ Blk wr p 31 [.slice (some ⟨bd, 0, none⟩) o.steps.length o.steps.length, .slice (some ⟨bu, 0, none⟩) o.steps.length o.steps.length, .bool false, .bool false, .bool false, .bool false, .bool false, .bool false, .bool false, .bool false, .bool false] ∧ Blk wr w.heap.size 24 [.int .i64 o.id, .int .i64 o.item, .int .i64 o.qty, .int .i64 o.client, .int .i64 o.price, .slice a o.steps.length c] ∧ Blk wr bu 4 ((rowF o.steps.length (fun _ => false)).map encB) ∧ Keeps (fun _ => False) w wr) (fun i _ => j - (intOf i).toNat)
  case atStart => exact ⟨0, Nat.zero_le _, rfl, by simpa using HD.out, HP.out, HO2.out, HU.out, K2.out⟩
  case round =>
    obtain ⟨m, hm, rfl, hD, hP, hO, hU, hK⟩ := hrel
    have HD2 := Kept.mk hD
    have HP2 := Kept.mk hP
    have HO3 := Kept.mk hO
    have HU2 := Kept.mk hU
    have HK := Kept.mk hK
    obtain ⟨y0, y1, y2, y3, y4, y5, y6, y7, y8, y9, y10⟩ := blk11 hP
    obtain ⟨x0, x1, x2, x3, x4, x5⟩ := blk6 hO
    have hbd := hD.lt
    clear hD hP hO hU hK
    by_cases hlt : m < j
    · have cD : wr.cell? ⟨bd, m, none⟩ = some (.bool (decide (m < m))) := HD2.out.cell m (rowF_at (by omega))
      have fD := HD2.out.frozen m
      have hmi : (m : Int) < o.steps.length := by omega
      have hmj : (m : Int) < (j : Int) := by omega
      have HD3 : Kept (Blk (wr.setCell ⟨bd, m, none⟩ (.bool true)) bd 4 ((rowF o.steps.length (fun i => decide (i < m + 1))).map encB)) := ⟨by
        have h := HD2.out.set m (.bool true)
        rw [rowF_put, rowF_congr (h' := fun i => decide (i < m + 1)) (fun i hi => by
          by_cases e : i = m
          · subst e; simp
          · rw [if_neg e]
            have : (i < m) = (i < m + 1) := by rw [eq_iff_iff]; omega
            simp only [this])] at h
        exact h⟩
      have HP3 := Kept.mk (HP2.out.other (p := ⟨bd, m, none⟩) n1 (.bool true))
      have HO4 := Kept.mk (HO3.out.other (p := ⟨bd, m, none⟩) (by show w.heap.size ≠ bd; omega) (.bool true))
      have HU3 := Kept.mk (HU2.out.other (p := ⟨bd, m, none⟩) (fun e => n3 e.symm) (.bool true))
      have HK2 := Kept.mk (HK.out.setCell (p := ⟨bd, m, none⟩) (.inl (by show w.heap.size ≤ bd; omega)) (.bool true))
      go_wp2_with fail
      go_roundw
      case rel => exact ⟨m + 1, by omega, by go_num, HD3.out, HP3.out, HO4.out, HU3.out, HK2.out⟩
      case measure => simp [intOf]; omega
    · obtain rfl : m = j := by omega
      have HF : Kept (FcAt wr o a c ⟨rowF o.steps.length (fun i => decide (i < m)), rowF o.steps.length (fun _ => false), false, false, false, false, false, false, false, false, false⟩ (some ⟨bd, 0, none⟩) (some ⟨bu, 0, none⟩)) := ⟨⟨HL.out.quiet HK.out, hsl, blRow_of HD2.out, by simp only [rowF_len]; exact hsl, blRow_of HU2.out, by simp only [rowF_len]; exact hsl⟩⟩
      have HC0 := next_to o a _ _ c o.steps.length o.steps.length ⟨rowF o.steps.length (fun i => decide (i < m)), rowF o.steps.length (fun _ => false), false, false, false, false, false, false, false, false, false⟩ wr HF.out
      simp only [rowF_len] at HC0
      have HC := Kept.mk HC0
      have hmm : ¬ (m : Int) < (m : Int) := by omega
      clear HC0
      go_wp2_with fail
      by_cases hlt2 : m < o.steps.length
      · obtain ⟨x, hx⟩ : ∃ x, o.steps[m]? = some x := ⟨_, List.getElem?_eq_getElem hlt2⟩
        have hn := Kept.mk (asks_next_lt o m Hm.out hx)
        have hs := Kept.mk (asks_state o m Hm.out)
        refine HC.out.mono ?_
        rintro e w4 ⟨⟨v, rfl, hM⟩, k4⟩
        rw [hn.out] at hM
        obtain ⟨va, vc, rfl, _⟩ := hM.slice
        obtain ⟨mg, mo, rfl, hgl, c0⟩ := hM.row 0 _ rfl
        have m0 : w4.cell? ⟨mg, mo, none⟩ = some (.int .i64 1) := c0 0 _ rfl
        have m1 : w4.cell? ⟨mg, mo + 1, none⟩ = some (.int .i64 0) := c0 1 _ rfl
        have m2 : w4.cell? ⟨mg, mo + 2, none⟩ = some (.int .i64 x.1) := c0 2 _ rfl
        have m3 : w4.cell? ⟨mg, mo + 3, none⟩ = some (.int .i64 o.id) := c0 3 _ rfl
        have m4 : w4.cell? ⟨mg, mo + 4, none⟩ = some (.int .i64 m) := c0 4 _ rfl
        have m5 : w4.cell? ⟨mg, mo + 5, none⟩ = some (.int .i64 x.2) := c0 5 _ rfl
        have m6 : w4.cell? ⟨mg, mo + 6, none⟩ = some (.int .i64 0) := c0 6 _ rfl
        obtain ⟨sg, so, rfl, hsg, s0, s1⟩ := (HL.out.quiet (HK.out.trans k4)) m x hx
        obtain ⟨z1, z2⟩ := x
        dsimp only at s0 s1 m2 m5
        have hq : ∀ w, (Op.equalIn 10000 36 (.agg #[.int .i64 1, .int .i64 0, .int .i64 z1, .int .i64 o.id, .int .i64 m, .int .i64 z2, .int .i64 0]) (.agg #[.int .i64 1, .int .i64 0, .int .i64 z1, .int .i64 o.id, .int .i64 m, .int .i64 z2, .int .i64 0])).run Try.prog w = .ok true w := fun w => eqMs ⟨1, 0, z1, o.id, m, z2, 0⟩ w
        have hg := guardMs
        have HO9 := Kept.mk (HO3.out.quiet k4)
        have HP9 := Kept.mk (HP2.out.quiet k4)
        have HF9 := Kept.mk (HF.out.keeps k4)
        have K9 := Kept.mk (HK.out.trans k4)
        have M9 := Kept.mk (And.intro m0 (And.intro m1 (And.intro m2 (And.intro m3 (And.intro m4 (And.intro m5 (And.intro m6 (And.intro s0 s1))))))))
        have KC : Kept (Keeps (fun _ => False) w4 (w4.drewN 1)) := ⟨(Keeps.refl _ _).drewN 1⟩
        have hmi : (m : Int) < o.steps.length := by omega
        have HN := Kept.mk hn.out
        clear hM k4 c0 hx m0 m1 m2 m3 m4 m5 m6 s0 s1 hn y0 y1 y2 y3 y4 y5 y6 y7 y8 y9 y10 x0 x1 x2 x3 x4 x5
        go_wp2_with fail
        go_region_held3 (fun W => W.cell? ⟨w.heap.size, 0, none⟩ = some (.int .i64 o.id) ∧ W.cell? ⟨w.heap.size, 1, none⟩ = some (.int .i64 o.item) ∧ W.cell? ⟨w.heap.size, 2, none⟩ = some (.int .i64 o.qty) ∧ W.cell? ⟨w.heap.size, 3, none⟩ = some (.int .i64 o.client) ∧ W.cell? ⟨w.heap.size, 4, none⟩ = some (.int .i64 o.price) ∧ W.cell? ⟨w.heap.size, 5, none⟩ = some (.slice (some ⟨sg, so, none⟩) o.steps.length c) ∧ W.cell? ⟨p, 0, none⟩ = some (.slice (some ⟨bd, 0, none⟩) o.steps.length o.steps.length) ∧ W.cell? ⟨p, 1, none⟩ = some (.slice (some ⟨bu, 0, none⟩) o.steps.length o.steps.length) ∧ W.cell? ⟨p, 2, none⟩ = some (.bool false) ∧ W.cell? ⟨p, 3, none⟩ = some (.bool false) ∧ W.cell? ⟨p, 4, none⟩ = some (.bool false) ∧ W.cell? ⟨p, 5, none⟩ = some (.bool false) ∧ W.cell? ⟨p, 6, none⟩ = some (.bool false) ∧ W.cell? ⟨p, 7, none⟩ = some (.bool false) ∧ W.cell? ⟨p, 8, none⟩ = some (.bool false) ∧ W.cell? ⟨p, 9, none⟩ = some (.bool false) ∧ W.cell? ⟨p, 10, none⟩ = some (.bool false) ∧ W.cell? ⟨mg, mo, none⟩ = some (.int .i64 1) ∧ W.cell? ⟨mg, mo + 1, none⟩ = some (.int .i64 0) ∧ W.cell? ⟨mg, mo + 2, none⟩ = some (.int .i64 z1) ∧ W.cell? ⟨mg, mo + 3, none⟩ = some (.int .i64 o.id) ∧ W.cell? ⟨mg, mo + 4, none⟩ = some (.int .i64 m) ∧ W.cell? ⟨mg, mo + 5, none⟩ = some (.int .i64 z2) ∧ W.cell? ⟨mg, mo + 6, none⟩ = some (.int .i64 0) ∧ W.cell? ⟨sg, so + m * 2, none⟩ = some (.int .i64 z1) ∧ W.cell? ⟨sg, so + m * 2 + 1, none⟩ = some (.int .i64 z2)) ((exact s26 (HO9.out.quiet KC.out) (HP9.out.quiet KC.out) (nine_keep KC.out hgl hsg M9.out))) (first
          | (go_at_call 12; (have HS := state_to o _ _ _ c o.steps.length o.steps.length ⟨rowF o.steps.length (fun i => decide (i < m)), rowF o.steps.length (fun _ => false), false, false, false, false, false, false, false, false, false⟩ 1 _ (HF9.out.keeps KC.out) hs.out); (simp only [rowF_len] at HS); refine HS.mono ?_; rintro e w' ⟨rfl, k'⟩; have KC := Kept.mk (KC.out.trans k'); clear k' HS)
          | (go_at_call 10; refine (awake_to _).mono ?_; rintro e w' ⟨rfl, k'⟩; have KC := Kept.mk (KC.out.trans k'); clear k'))
        all_goals
          go_wp2_with fail
          go_ret
          exact ⟨rfl, K9.out.trans KC.out⟩
      · obtain rfl : m = o.steps.length := by omega
        have hn := Kept.mk (asks_next_eq o o.steps.length Hm.out rfl)
        have hsl2 : ¬ (o.steps.length : Int) < (o.steps.length : Int) := by omega
        refine HC.out.mono ?_
        rintro e w4 ⟨⟨v, rfl, hM⟩, k4⟩
        rw [hn.out] at hM
        obtain ⟨va, vc, rfl, _⟩ := hM.slice
        obtain ⟨mg, mo, rfl, hgl, c0⟩ := hM.row 0 _ rfl
        obtain ⟨mg', mo', e1, _, c1⟩ := hM.row 1 _ rfl
        simp only [Option.some.injEq, Addr.mk.injEq, and_true] at e1
        obtain ⟨rfl, rfl⟩ := e1
        have hq1 : ∀ w, (Op.equalIn 10000 36 (.agg #[.int .i64 6, .int .i64 0, .int .i64 1, .int .i64 o.id, .int .i64 0, .int .i64 o.item, .int .i64 o.qty]) (.agg #[.int .i64 6, .int .i64 0, .int .i64 1, .int .i64 o.id, .int .i64 0, .int .i64 o.item, .int .i64 o.qty])).run Try.prog w = .ok true w := fun w => eqMs ⟨6, 0, 1, o.id, 0, o.item, o.qty⟩ w
        have hq2 : ∀ w, (Op.equalIn 10000 36 (.agg #[.int .i64 6, .int .i64 0, .int .i64 2, .int .i64 o.id, .int .i64 0, .int .i64 o.client, .int .i64 o.price]) (.agg #[.int .i64 6, .int .i64 0, .int .i64 2, .int .i64 o.id, .int .i64 0, .int .i64 o.client, .int .i64 o.price])).run Try.prog w = .ok true w := fun w => eqMs ⟨6, 0, 2, o.id, 0, o.client, o.price⟩ w
        have hg := guardMs
        have HO9 := Kept.mk (HO3.out.quiet k4)
        have K9 := Kept.mk (HK.out.trans k4)
        have M9 : Kept (w4.cell? ⟨mg, mo, none⟩ = some (.int .i64 6) ∧ w4.cell? ⟨mg, mo + 1, none⟩ = some (.int .i64 0) ∧ w4.cell? ⟨mg, mo + 2, none⟩ = some (.int .i64 1) ∧ w4.cell? ⟨mg, mo + 3, none⟩ = some (.int .i64 o.id) ∧ w4.cell? ⟨mg, mo + 4, none⟩ = some (.int .i64 0) ∧ w4.cell? ⟨mg, mo + 5, none⟩ = some (.int .i64 o.item) ∧ w4.cell? ⟨mg, mo + 6, none⟩ = some (.int .i64 o.qty) ∧ w4.cell? ⟨mg, mo + 7, none⟩ = some (.int .i64 6) ∧ w4.cell? ⟨mg, mo + 7 + 1, none⟩ = some (.int .i64 0) ∧ w4.cell? ⟨mg, mo + 7 + 2, none⟩ = some (.int .i64 2) ∧ w4.cell? ⟨mg, mo + 7 + 3, none⟩ = some (.int .i64 o.id) ∧ w4.cell? ⟨mg, mo + 7 + 4, none⟩ = some (.int .i64 0) ∧ w4.cell? ⟨mg, mo + 7 + 5, none⟩ = some (.int .i64 o.client) ∧ w4.cell? ⟨mg, mo + 7 + 6, none⟩ = some (.int .i64 o.price)) := ⟨c0 0 _ rfl, c0 1 _ rfl, c0 2 _ rfl, c0 3 _ rfl, c0 4 _ rfl, c0 5 _ rfl, c0 6 _ rfl, c1 0 _ rfl, c1 1 _ rfl, c1 2 _ rfl, c1 3 _ rfl, c1 4 _ rfl, c1 5 _ rfl, c1 6 _ rfl⟩
        have KC : Kept (Keeps (fun _ => False) w4 (w4.drewN 1)) := ⟨(Keeps.refl _ _).drewN 1⟩
        clear hM k4 c0 c1 hn y0 y1 y2 y3 y4 y5 y6 y7 y8 y9 y10 x0 x1 x2 x3 x4 x5
        go_wp2_with fail
        go_region_held3 (fun W => W.cell? ⟨w.heap.size, 0, none⟩ = some (.int .i64 o.id) ∧ W.cell? ⟨w.heap.size, 1, none⟩ = some (.int .i64 o.item) ∧ W.cell? ⟨w.heap.size, 2, none⟩ = some (.int .i64 o.qty) ∧ W.cell? ⟨w.heap.size, 3, none⟩ = some (.int .i64 o.client) ∧ W.cell? ⟨w.heap.size, 4, none⟩ = some (.int .i64 o.price) ∧ W.cell? ⟨w.heap.size, 5, none⟩ = some (.slice a o.steps.length c) ∧ W.cell? ⟨mg, mo, none⟩ = some (.int .i64 6) ∧ W.cell? ⟨mg, mo + 1, none⟩ = some (.int .i64 0) ∧ W.cell? ⟨mg, mo + 2, none⟩ = some (.int .i64 1) ∧ W.cell? ⟨mg, mo + 3, none⟩ = some (.int .i64 o.id) ∧ W.cell? ⟨mg, mo + 4, none⟩ = some (.int .i64 0) ∧ W.cell? ⟨mg, mo + 5, none⟩ = some (.int .i64 o.item) ∧ W.cell? ⟨mg, mo + 6, none⟩ = some (.int .i64 o.qty) ∧ W.cell? ⟨mg, mo + 7, none⟩ = some (.int .i64 6) ∧ W.cell? ⟨mg, mo + 7 + 1, none⟩ = some (.int .i64 0) ∧ W.cell? ⟨mg, mo + 7 + 2, none⟩ = some (.int .i64 2) ∧ W.cell? ⟨mg, mo + 7 + 3, none⟩ = some (.int .i64 o.id) ∧ W.cell? ⟨mg, mo + 7 + 4, none⟩ = some (.int .i64 0) ∧ W.cell? ⟨mg, mo + 7 + 5, none⟩ = some (.int .i64 o.client) ∧ W.cell? ⟨mg, mo + 7 + 6, none⟩ = some (.int .i64 o.price)) ((exact s20 (HO9.out.quiet KC.out) (four_keep KC.out hgl M9.out))) (first
          | (go_at_call 10; refine (awake_to _).mono ?_; rintro e w' ⟨rfl, k'⟩; have KC := Kept.mk (KC.out.trans k'); clear k'))
        all_goals
          go_wp2_with fail
          go_ret
          exact ⟨rfl, K9.out.trans KC.out⟩
theorem asks_any (o : Ord) (a : Option Addr) (c : Nat) (k : Int) (w : World) (hL : StRow w a o.steps) (hc : o.steps.length ≤ c) (hcm : c ≤ maxLen) :
    Calls Try.prog 3 #[.agg #[.int .i64 o.id, .int .i64 o.item, .int .i64 o.qty, .int .i64 o.client, .int .i64 o.price, .slice a o.steps.length c], .int .i64 k] w (Yes w) := by
  have key : Calls Try.prog 3 #[.agg #[.int .i64 o.id, .int .i64 o.item, .int .i64 o.qty, .int .i64 o.client, .int .i64 o.price, .slice a o.steps.length c], .int .i64 k] w (fun e w' => e = .returned (.bool true) ∧ Keeps (fun _ => False) w w') := by
    by_cases hl : 10 < o.steps.length
    · exact asks_long o a c k w hL hc hcm hl
    · cases hm : o.may with
      | false => exact asks_not o a c k w hL hc hcm (by omega) hm
      | true =>
        have hl3 := Ord.may_len hm
        obtain ⟨j, h1, h2⟩ := mod_nat k ((o.steps.length : Int) + 1) (by omega) (by omega)
        exact asks_may o a c k w hL hc hcm hm j h1 (by omega)
  exact key.mono fun _ _ ⟨he, k⟩ => ⟨he, k.below (Nat.le_refl _) (fun _ h => h.elim)⟩
end Go.Proofs.Ytfcnegnkmacajaa
