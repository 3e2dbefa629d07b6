/- The law ModelHolds, walked. (printed by gen/modelholds.py) -/
import Derived.Test.YtjlfkpimjjnolaaModelLaws
import Derived.Test.YtjlfkpimjjnolaaOrd4
import Derived.Test.YtjlfkpimjjnolaaOpen3
namespace Go.Proofs.Ytjlfkpimjjnolaa
open Go.RowKit
def sAt (d u : Int) (c b f : Bool) : Sty := ⟨d, u, c, b, f⟩
/-- A step happens, and is held. -/
theorem inv_done {o : Ord} {A : List Act2} {k : Nat} {x : St} (h : MInv o A (sAt k 0 false false false)) (hx : o.steps[k]? = some x) :
    legalN o (A ++ [(2, (k : Int))]) = A.length + 1 ∧ MInv o (A ++ [(2, (k : Int))]) (sAt ((k + 1 : Nat) : Int) 0 false false false) ∧ heldN o (A ++ [(2, (k : Int))]) x.1 = x.2 := by
  have hk : k < o.steps.length := (List.getElem?_eq_some_iff.1 hx).1
  have hm : (sAt k 0 false false false).may (2, (k : Int)) o.steps.length = true := by simp [Sty.may, sAt]; omega
  have hn : (sAt k 0 false false false).note (2 : Int) = sAt ((k + 1 : Nat) : Int) 0 false false false := by simp [Sty.note, sAt]
  have h1 := h.step hm
  rw [hn] at h1
  refine ⟨h.goes hm, h1, ?_⟩
  rw [h1.held hx, if_pos (by simp only [sAt]; omega)]
theorem inv_sold {o : Ord} {A : List Act2} (h : MInv o A (sAt o.steps.length 0 false false false)) :
    legalN o (A ++ [(13, 0)]) = A.length + 1 ∧ MInv o (A ++ [(13, 0)]) (sAt o.steps.length 0 true false false) := by
  have hm : (sAt o.steps.length 0 false false false).may (13, 0) o.steps.length = true := by simp [Sty.may, sAt]
  have hn : (sAt o.steps.length 0 false false false).note (13 : Int) = sAt o.steps.length 0 true false false := by simp [Sty.note, sAt]
  have h1 := h.step hm
  rw [hn] at h1
  exact ⟨h.goes hm, h1⟩
theorem inv_sent {o : Ord} {A : List Act2} (h : MInv o A (sAt o.steps.length 0 true false false)) :
    legalN o (A ++ [(16, 0)]) = A.length + 1 ∧ MInv o (A ++ [(16, 0)]) (sAt o.steps.length 0 true false true) := by
  have hm : (sAt o.steps.length 0 true false false).may (16, 0) o.steps.length = true := by simp [Sty.may, sAt]
  have hn : (sAt o.steps.length 0 true false false).note (16 : Int) = sAt o.steps.length 0 true false true := by simp [Sty.note, sAt]
  have h1 := h.step hm
  rw [hn] at h1
  exact ⟨h.goes hm, h1⟩
theorem inv_aborts {o : Ord} {A : List Act2} (h : MInv o A (sAt o.steps.length 0 false false false)) :
    legalN o (A ++ [(14, 0)]) = A.length + 1 ∧ MInv o (A ++ [(14, 0)]) (sAt o.steps.length 0 false true false) := by
  have hm : (sAt o.steps.length 0 false false false).may (14, 0) o.steps.length = true := by simp [Sty.may, sAt]
  have hn : (sAt o.steps.length 0 false false false).note (14 : Int) = sAt o.steps.length 0 false true false := by simp [Sty.note, sAt]
  have h1 := h.step hm
  rw [hn] at h1
  exact ⟨h.goes hm, h1⟩
theorem inv_undone {o : Ord} {A : List Act2} {i : Nat} {x : St} (h : MInv o A (sAt o.steps.length (o.steps.length - i - 1) false true false)) (hx : o.steps[i]? = some x) :
    legalN o (A ++ [(5, (i : Int))]) = A.length + 1 ∧ MInv o (A ++ [(5, (i : Int))]) (sAt o.steps.length (o.steps.length - i) false true false) ∧ heldN o (A ++ [(5, (i : Int))]) x.1 = 0 := by
  have hk : i < o.steps.length := (List.getElem?_eq_some_iff.1 hx).1
  have hm : (sAt o.steps.length (o.steps.length - i - 1) false true false).may (5, (i : Int)) o.steps.length = true := by
    show (if (5 : Int) = 2 then _ else if (5 : Int) = 5 then true && (decide ((o.steps.length : Int) - i - 1 < o.steps.length) && (i : Int) == (o.steps.length : Int) - ((o.steps.length : Int) - i - 1) - 1) else _) = true
    rw [if_neg (by omega), if_pos rfl]
    simp only [Bool.true_and, Bool.and_eq_true, decide_eq_true_eq, beq_iff_eq]
    omega
  have hn : (sAt o.steps.length (o.steps.length - i - 1) false true false).note (5 : Int) = sAt o.steps.length (o.steps.length - i) false true false := by
    show Sty.note _ 5 = _
    unfold Sty.note
    rw [if_neg (by omega), if_pos rfl]
    simp only [sAt, Sty.mk.injEq, true_and, and_true]
    omega
  have h1 := h.step hm
  rw [hn] at h1
  refine ⟨h.goes hm, h1, ?_⟩
  rw [h1.held hx, if_neg (by simp only [sAt]; omega)]
theorem inv_clean {o : Ord} {A : List Act2} {k : Nat} (h : MInv o A (sAt o.steps.length (o.steps.length - k) false true false)) (hk : k ≤ o.steps.length) : cleanB o A = ((k : Int) == 0) := by
  unfold cleanB
  rw [h.h14]
  simp only [sAt, Bool.true_and]
  have e : ((0 : Int) == 0) = true := rfl
  rw [e, Bool.true_and]
  by_cases h0 : k = 0
  · subst h0
    have : o.steps.any (heldB o A) = false := by
      rw [List.any_eq_false]
      intro x hx hb
      obtain ⟨j, hj, rfl⟩ := List.getElem_of_mem hx
      unfold heldB at hb
      rw [h.held (List.getElem?_eq_getElem hj), if_neg (by simp only [sAt]; omega)] at hb
      simp at hb
    rw [this]; rfl
  · have : o.steps.any (heldB o A) = true := by
      rw [List.any_eq_true]
      obtain ⟨x, hx⟩ : ∃ x, o.steps[0]? = some x := ⟨_, List.getElem?_eq_getElem (by omega)⟩
      refine ⟨x, List.mem_of_getElem? hx, ?_⟩
      unfold heldB
      rw [h.held hx, if_pos (by simp only [sAt]; omega)]
      have := may_svc h.may hx
      simpa using (by omega : 0 < x.2)
    rw [this]
    have : ((k : Int) == 0) = false := by rw [beq_eq_false_iff_ne]; omega
    rw [this]; rfl
theorem inv_len {o : Ord} {A : List Act2} {k : Nat} (h : MInv o A (sAt o.steps.length (o.steps.length - k) false true false)) : (A.length : Int) = 1 + 2 * o.steps.length - k := by
  have := h.short
  simp only [sAt, Bool.false_eq_true, if_false, if_true] at this
  omega
set_option maxRecDepth 100000 in
set_option maxHeartbeats 8000000 in
theorem holds_any (o : Ord) (a : Option Addr) (c : Nat) (kk : Int) (yes : Bool) (w : World) (hL : StRow w a o.steps) (hc1 : o.steps.length ≤ c) (hc2 : c ≤ maxLen) :
    Calls Try.prog 10 #[.agg #[.int .i64 o.id, .int .i64 o.item, .int .i64 o.qty, .int .i64 o.client, .int .i64 o.price, .slice a o.steps.length c], .int .i64 kk, .bool yes] w (Yes w) := by
  have hm : o.steps.length ≤ maxLen := Nat.le_trans hc1 hc2
  have hmi : (o.steps.length : Int) ≤ 9223372036854775807 := by unfold maxLen at hm; omega
  have HO := Kept.mk (Blk.new w 24 [.int .i64 o.id, .int .i64 o.item, .int .i64 o.qty, .int .i64 o.client, .int .i64 o.price, .slice a o.steps.length c])
  have HL := Kept.mk hL
  have HC1 := Kept.mk hc1
  have HC2 := Kept.mk hc2
  have HM := Kept.mk hm
  clear hL hm hc1 hc2
  by_cases h10 : (10 : Int) < o.steps.length
  · go_enter Try.func10, Try.ntmps10
    go_wp2_with fail
    refine (awake23_any _).mono ?_
    rintro e w5 ⟨rfl, b5⟩
    go_wp2_with fail
    go_ret
    exact ⟨rfl, ((Below.refl _ w).alloc (Nat.le_refl _) _).trans (b5.mono (by simp))⟩
  cases hmay : o.may with
  | false =>
    have Hmay := Kept.mk hmay
    clear hmay
    go_enter Try.func10, Try.ntmps10
    go_wp2_with fail
    refine (romay_to o a c false _ (HL.out.alloc _) HM.out HC1.out HC2.out Hmay.out).mono ?_
    rintro e w1 ⟨rfl, k1⟩
    have B1 := Kept.mk ((((Keeps.refl (fun _ => False) w).alloc (.cells #[.int .i64 o.id, .int .i64 o.item, .int .i64 o.qty, .int .i64 o.client, .int .i64 o.price, .slice a o.steps.length c] 24)).trans k1).below (Nat.le_refl _) (fun _ h => h.elim))
    go_wp2_with fail
    refine (awake23_any _).mono ?_
    rintro e w5 ⟨rfl, b5⟩
    go_wp2_with fail
    go_ret
    exact ⟨rfl, B1.out.trans (b5.mono B1.out.size)⟩
  | true =>
    have Hmay := Kept.mk hmay
    have hl3 := Ord.may_len hmay
    clear hmay
    go_enter Try.func10, Try.ntmps10
    go_wp2_with fail
    refine (romay_to o a c true _ (HL.out.alloc _) HM.out HC1.out HC2.out Hmay.out).mono ?_
    rintro e w1 ⟨rfl, k1⟩
    have K1 := Kept.mk (((Keeps.refl (fun _ => False) w).alloc (.cells #[.int .i64 o.id, .int .i64 o.item, .int .i64 o.qty, .int .i64 o.client, .int .i64 o.price, .slice a o.steps.length c] 24)).trans k1)
    have ho1 := HO.out.keeps k1 (fun h => h)
    have HO1 := Kept.mk ho1
    have o0 := ho1.cell 0 rfl
    have o1 := ho1.cell 1 rfl
    have o2 := ho1.cell 2 rfl
    have o3 := ho1.cell 3 rfl
    have o4 := ho1.cell 4 rfl
    have o5 := ho1.cell 5 rfl
    clear k1 ho1
    go_wp2_with fail
    refine (newM_yes o a c _ (HL.out.quiet K1.out) Hmay.out).mono ?_
    rintro e w2 ⟨p, a2, c2, rfl, h2, hp, k2⟩
    have H2 := Kept.mk h2
    have K2 := Kept.mk (K1.out.trans k2)
    have HO2 := Kept.mk (HO1.out.keeps k2 (fun h => h))
    have hwp : w.heap.size < p := by have := HO1.out.lt; omega
    have HI0 : Kept (MInv o [] (sAt ((0 : Nat) : Int) 0 false false false)) := ⟨MInv.zero Hmay.out⟩
    clear k2 h2
    go_wp2_with fail
    go_loopw [29] (fun i wr => ∃ (k : Nat) (A : List Act2) (b' : Option Addr) (d' : Nat), k ≤ o.steps.length ∧ i = .int .i64 k ∧ ModAt wr p a2 c2 b' d' o A ∧ MInv o A (sAt k 0 false false false) ∧ Blk wr w.heap.size 24 [.int .i64 o.id, .int .i64 o.item, .int .i64 o.qty, .int .i64 o.client, .int .i64 o.price, .slice a o.steps.length c] ∧ Keeps (fun _ => False) w wr) (fun i _ => o.steps.length - (intOf i).toNat)
    case atStart => exact ⟨0, [], none, 0, Nat.zero_le _, rfl, H2.out, HI0.out, HO2.out, K2.out⟩
    case round =>
      clear H2 K2 HO2 HI0 o0 o1 o2 o3 o4 o5
      obtain ⟨k, A, b', d', hk, rfl, hM, hI, hO, hB⟩ := hrel
      have HM2 := Kept.mk hM
      have HI := Kept.mk hI
      have HO3 := Kept.mk hO
      have HB := Kept.mk hB
      have hpw := hM.cells.lt
      have o5 := hO.cell 5 rfl
      have hA9 := hI.small
      clear hM hI hO hB
      by_cases hlt : k < o.steps.length
      · obtain ⟨x, hx⟩ : ∃ x, o.steps[k]? = some x := ⟨_, List.getElem?_eq_getElem hlt⟩
        obtain ⟨y1, y2, y3⟩ := inv_done HI.out hx
        have Y1 := Kept.mk y1
        have Y2 := Kept.mk y2
        obtain ⟨g, off, rfl, hl, e0, e1⟩ := HL.out k x hx
        have E0 := Kept.mk e0
        have E1 := Kept.mk e1
        rw [← HB.out.cell (p := ⟨g, off + k * 2, none⟩) hl (fun h => h)] at e0
        rw [← HB.out.cell (p := ⟨g, off + k * 2 + 1, none⟩) hl (fun h => h)] at e1
        obtain ⟨x1, x2⟩ := x
        simp only at e0 e1 y3 E0 E1
        have Y3 := Kept.mk y3
        have hki : (k : Int) < o.steps.length := by omega
        have hgp : g < w.heap.size := hl
        clear hx y1 y2 y3
        have HD : Kept (ModAt wr.drew p a2 c2 b' d' o A) := ⟨HM2.out.drewN 1⟩
        go_wp2_with fail
        go_region_held3 (fun W => W.cell? ⟨w.heap.size, 5, none⟩ = some (.slice (some ⟨g, off, none⟩) o.steps.length c) ∧ W.cell? ⟨g, off + k * 2, none⟩ = some (.int .i64 x1) ∧ W.cell? ⟨g, off + k * 2 + 1, none⟩ = some (.int .i64 x2)) (go_keep) (first | (go_at_call 18; (with_reducible refine (see_yes p a2 b' c2 d' o A 2 k _ HD.out Y1.out (by omega)).mono ?_); rintro e w3 ⟨rfl, ⟨b3, d3, h3⟩, k3⟩; have K3 : Keeps (fun _ => False) w w3 := (HB.out.drewN 1).then k3 (fun i hi e => by omega); have HO4 := (HO3.out.drewN 1).keeps k3 (by omega); have f5 := HO4.cell 5 rfl; have f0 := (K3.cell (p := ⟨g, off + k * 2, none⟩) hl (fun h => h)).trans E0.out; have f1 := (K3.cell (p := ⟨g, off + k * 2 + 1, none⟩) hl (fun h => h)).trans E1.out) | (go_at_call 19; refine (held_to p a2 b3 c2 d3 o (A ++ [(2, (k : Int))]) x1 x2 _ h3 Y3.out).mono ?_; rintro e w4 ⟨rfl, k4⟩; have K4 := K3.trans k4; have HO5 := HO4.keeps k4 (fun h => h); have h4 := h3.keeps k4; have q5 := HO5.cell 5 rfl; have q0 := (K4.cell (p := ⟨g, off + k * 2, none⟩) hl (fun h => h)).trans E0.out; have q1 := (K4.cell (p := ⟨g, off + k * 2 + 1, none⟩) hl (fun h => h)).trans E1.out))
        have R1 := Kept.mk h4
        have R2 := Kept.mk HO5
        have R3 := Kept.mk K4
        clear h3 k3 K3 HO4 k4 K4 HO5 h4 f5 f0 f1 q5 q0 q1
        go_wp2_with fail
        go_roundw
        case rel => exact ⟨k + 1, _, _, _, by omega, by go_num, R1.out, Y2.out, R2.out, R3.out⟩
        case measure => simp [intOf]; omega
      · obtain rfl : k = o.steps.length := by omega
        cases yes with
        | true =>
          obtain ⟨y1, y2⟩ := inv_sold HI.out
          have z1 := y2.stop (x := (14, 0)) (by simp [Sty.may, sAt])
          have z2 : hasAct (A ++ [(13, 0)]) 13 0 = true := by rw [y2.h13]; rfl
          have z3 : cleanB o (A ++ [(13, 0)]) = false := by unfold cleanB; rw [y2.h14]; rfl
          have Y1 := Kept.mk y1
          have Y2 := Kept.mk y2
          have Z1 := Kept.mk z1
          have Z2 := Kept.mk z2
          have Z3 := Kept.mk z3
          have hs2 := y2.small
          clear y1 y2 z1 z2 z3
          go_wp2_with fail
          refine (see_yes p a2 b' c2 d' o A 13 0 _ HM2.out Y1.out (by omega)).mono ?_
          rintro e w3 ⟨rfl, ⟨b3, d3, h3⟩, k3⟩
          have K3 : Kept (Keeps (fun _ => False) w w3) := ⟨HB.out.then k3 (fun i hi e => by omega)⟩
          have O3 := Kept.mk (HO3.out.keeps k3 (by omega))
          have H3 := Kept.mk h3
          clear h3 k3
          go_wp2_with fail
          refine (see_no p a2 b3 c2 d3 o (A ++ [(13, 0)]) 14 0 _ _ H3.out Z1.out (by simp)).mono ?_
          rintro e w4 ⟨rfl, k4⟩
          have K4 := Kept.mk (K3.out.trans k4)
          have O4 := Kept.mk (O3.out.keeps k4 (fun h => h))
          have H4 := Kept.mk (H3.out.keeps k4)
          clear k4
          go_wp2_with fail
          refine (sold_to p a2 b3 c2 d3 o _ true _ H4.out Z2.out).mono ?_
          rintro e w5 ⟨rfl, k5⟩
          have K5 := Kept.mk (K4.out.trans k5)
          have O5 := Kept.mk (O4.out.keeps k5 (fun h => h))
          have H5 := Kept.mk (H4.out.keeps k5)
          clear k5
          go_wp2_with fail
          refine (clean_to p a2 b3 c2 d3 o _ false _ H5.out Z3.out).mono ?_
          rintro e w6 ⟨rfl, k6⟩
          have K6 := Kept.mk (K5.out.trans k6)
          have o6 := O5.out.keeps k6 (fun h => h)
          have O6 := Kept.mk o6
          have H6 := Kept.mk (H5.out.keeps k6)
          have q5 := o6.cell 5 rfl
          clear k6 o6 K3 K4 K5 H3 H4 H5 O3 O4 O5
          go_wp2_with fail
          go_loopw [77] (fun i wq => ∃ j : Nat, j ≤ o.steps.length ∧ i = .int .i64 j ∧ ModAt wq p a2 c2 b3 d3 o (A ++ [(13, 0)]) ∧ Keeps (fun _ => False) w wq) (fun i _ => o.steps.length - (intOf i).toNat)
          case atStart => exact ⟨0, Nat.zero_le _, rfl, H6.out, K6.out⟩
          case round =>
            clear H6 K6 q5 O6
            obtain ⟨j, hj, rfl, hM, hB⟩ := hrel
            have HM6 := Kept.mk hM
            have HB6 := Kept.mk hB
            have hpw6 := hM.cells.lt
            clear hM hB
            by_cases hlj : j < o.steps.length
            · obtain ⟨x, hx⟩ : ∃ x, o.steps[j]? = some x := ⟨_, List.getElem?_eq_getElem hlj⟩
              have hh : heldN o (A ++ [(13, 0)]) x.1 = x.2 := by rw [Y2.out.held hx, if_pos (by simp only [sAt]; omega)]
              obtain ⟨g, off, rfl, hl, e0, e1⟩ := HL.out j x hx
              rw [← HB6.out.cell (p := ⟨g, off + j * 2, none⟩) hl (fun h => h)] at e0
              rw [← HB6.out.cell (p := ⟨g, off + j * 2 + 1, none⟩) hl (fun h => h)] at e1
              obtain ⟨x1, x2⟩ := x
              simp only at e0 e1 hh
              have HH := Kept.mk hh
              have HX := Kept.mk (Blk.new wr 45 [.int .i64 x1, .int .i64 x2])
              have HD : Kept (ModAt (wr.alloc (.cells #[.int .i64 x1, .int .i64 x2] 45)).drew p a2 c2 b3 d3 o (A ++ [(13, 0)])) := ⟨(HM6.out.alloc _).drewN 1⟩
              clear hx hh
              go_wp2_with fail
              go_region_held3 (fun W => W.cell? ⟨wr.heap.size, 0, none⟩ = some (.int .i64 x1) ∧ W.cell? ⟨wr.heap.size, 1, none⟩ = some (.int .i64 x2)) (go_keep) (first | (go_at_call 19; (with_reducible refine (held_to p a2 b3 c2 d3 o (A ++ [(13, 0)]) x1 x2 _ HD.out HH.out).mono ?_); rintro e w7 ⟨rfl, k7⟩; have hx7 := (HX.out.drewN 1).keeps k7 (fun h => h); have g0 := hx7.cell 0 rfl; have g1 := hx7.cell 1 rfl))
              have H7 := Kept.mk (HD.out.keeps k7)
              have K7 := Kept.mk (((HB6.out.alloc (.cells #[.int .i64 x1, .int .i64 x2] 45)).drewN 1).trans k7)
              clear k7 hx7 g0 g1
              go_wp2_with fail
              go_roundw
              case rel => exact ⟨j + 1, by omega, by go_num, H7.out, K7.out⟩
              case measure => simp [intOf]; omega
            · obtain ⟨y3, y4⟩ := inv_sent Y2.out
              have z5 : hasAct (A ++ [(13, 0)] ++ [(16, 0)]) 16 0 = true := by rw [y4.h16]; rfl
              have Y3 := Kept.mk y3
              have Z5 := Kept.mk z5
              have hA2 : (A ++ [(13, 0)]).length < 1000 := by omega
              clear y3 y4 z5
              go_wp2_with fail
              refine (see_yes p a2 b3 c2 d3 o (A ++ [(13, 0)]) 16 0 _ HM6.out Y3.out hA2).mono ?_
              rintro e w7 ⟨rfl, ⟨b4, d4, h7⟩, k7⟩
              have K7 : Kept (Keeps (fun _ => False) w w7) := ⟨HB6.out.then k7 (fun i hi e => by omega)⟩
              have H7 := Kept.mk h7
              clear h7 k7
              go_wp2_with fail
              refine (sent_to p a2 b4 c2 d4 o _ true _ H7.out Z5.out).mono ?_
              rintro e w8 ⟨rfl, k8⟩
              have B8 := Kept.mk ((K7.out.trans k8).below (Nat.le_refl _) (fun _ h => h.elim))
              go_wp2_with fail
              refine (awake23_any _).mono ?_
              rintro e w9 ⟨rfl, k9⟩
              go_wp2_with fail
              go_ret
              exact ⟨rfl, B8.out.trans (k9.mono B8.out.size)⟩
        | false =>
          obtain ⟨y1, y2⟩ := inv_aborts HI.out
          have Y1 := Kept.mk y1
          have Y2 := Kept.mk y2
          clear y1 y2
          have hkk := mod_range kk (o.steps.length + 1) (by omega) (by omega)
          obtain ⟨qi, Hq⟩ : ∃ q, Kept (wrap64 ((IntKind.u64.wrap kk).tmod (↑o.steps.length + 1)) = q) := ⟨_, ⟨rfl⟩⟩
          rw [Hq.out] at hkk
          obtain ⟨q, rfl⟩ := Int.eq_ofNat_of_zero_le hkk.1
          have hqn : q ≤ o.steps.length := by omega
          have HI2 : Kept (MInv o (A ++ [(14, 0)]) (sAt o.steps.length ((o.steps.length : Int) - ((o.steps.length : Nat) : Int)) false true false)) := ⟨by rw [Int.sub_self]; exact Y2.out⟩
          go_wp2_with fail
          rw [Hq.out]
          refine (see_yes p a2 b' c2 d' o A 14 0 _ HM2.out Y1.out (by omega)).mono ?_
          rintro e w3 ⟨rfl, ⟨b3, d3, h3⟩, k3⟩
          have K3 : Kept (Keeps (fun _ => False) w w3) := ⟨HB.out.then k3 (fun i hi e => by omega)⟩
          have O3 := Kept.mk (HO3.out.keeps k3 (by omega))
          have H3 := Kept.mk h3
          clear h3 k3 Hq
          go_wp2_with fail
          go_loopw [12] (fun i wq => ∃ (j : Nat) (v : Int) (A' : List Act2) (b4 : Option Addr) (d4 : Nat), q ≤ j ∧ j ≤ o.steps.length ∧ v = j - 1 ∧ i = .int .i64 v ∧ ModAt wq p a2 c2 b4 d4 o A' ∧ MInv o A' (sAt o.steps.length ((o.steps.length : Int) - j) false true false) ∧ Blk wq w.heap.size 24 [.int .i64 o.id, .int .i64 o.item, .int .i64 o.qty, .int .i64 o.client, .int .i64 o.price, .slice a o.steps.length c] ∧ Keeps (fun _ => False) w wq) (fun i _ => (intOf i + 1 - q).toNat)
          case atStart => exact ⟨o.steps.length, _, _, _, _, hqn, Nat.le_refl _, rfl, rfl, H3.out, HI2.out, O3.out, K3.out⟩
          case round =>
            clear H3 K3 O3 HI2 Y1 Y2 HM2 HI HO3 HB o5
            obtain ⟨j, v, A', b4, d4, hqj, hjn, hv, rfl, hM, hI, hO, hB⟩ := hrel
            have HM6 := Kept.mk hM
            have HI6 := Kept.mk hI
            have HO6 := Kept.mk hO
            have HB6 := Kept.mk hB
            have hpw6 := hM.cells.lt
            have hA6 := hI.small
            have o5 := hO.cell 5 rfl
            clear hM hI hO hB
            by_cases hjq : q < j
            · obtain ⟨m, rfl⟩ : ∃ m, j = m + 1 := ⟨j - 1, by omega⟩
              obtain rfl : v = (m : Int) := by omega
              have hI7 : MInv o A' (sAt o.steps.length ((o.steps.length : Int) - m - 1) false true false) := by
                have := HI6.out
                rw [show (o.steps.length : Int) - ((m + 1 : Nat) : Int) = (o.steps.length : Int) - m - 1 by omega] at this
                exact this
              obtain ⟨x, hx⟩ : ∃ x, o.steps[m]? = some x := ⟨_, List.getElem?_eq_getElem (by omega)⟩
              obtain ⟨y3, y4, y5⟩ := inv_undone hI7 hx
              obtain ⟨g, off, rfl, hl, e0, e1⟩ := HL.out m x hx
              obtain ⟨x1, x2⟩ := x
              simp only at e0 e1 y5
              have E0 := Kept.mk e0
              have Y3 := Kept.mk y3
              have Y4 := Kept.mk y4
              have Y5 := Kept.mk y5
              have hmi2 : (m : Int) < o.steps.length := by omega
              have hqm : (q : Int) ≤ m := by omega
              clear hx y3 y4 y5 hI7 e0 e1 hv
              go_wp2_with fail
              refine (see_yes p a2 b4 c2 d4 o A' 5 m _ HM6.out Y3.out (by omega)).mono ?_
              rintro e w4 ⟨rfl, ⟨b5, d5, h4⟩, k4⟩
              have k4' : Keeps (fun _ => False) w w4 := HB6.out.then k4 (fun i hi e => by omega)
              have o4' := HO6.out.keeps k4 (by omega)
              have f0 := (k4'.cell (p := ⟨g, off + m * 2, none⟩) hl (fun h => h)).trans E0.out
              have f5 := o4'.cell 5 rfl
              have K4 := Kept.mk k4'
              have O4 := Kept.mk o4'
              have H4 := Kept.mk h4
              clear k4 k4' o4' h4
              go_wp2_with fail
              refine (held_to p a2 b5 c2 d5 o _ x1 0 _ H4.out Y5.out).mono ?_
              rintro e w5 ⟨rfl, k5⟩
              have K5 := Kept.mk (K4.out.trans k5)
              have O5 := Kept.mk (O4.out.keeps k5 (fun h => h))
              have H5 := Kept.mk (H4.out.keeps k5)
              clear k5
              go_wp2_with fail
              go_roundw
              case rel => exact ⟨m, _, _, _, _, by omega, by omega, rfl, by go_num, H5.out, Y4.out, O5.out, K5.out⟩
              case measure => simp [intOf]; omega
            · obtain rfl : j = q := by omega
              have hcl := inv_clean HI6.out hqn
              have hsd : hasAct A' 13 0 = false := by rw [HI6.out.h13]; rfl
              have hln := inv_len HI6.out
              have HCl := Kept.mk hcl
              have HSd := Kept.mk hsd
              have HLn := Kept.mk hln
              have hvj : v < (j : Int) := by omega
              clear hcl hsd hln hv
              have hlen : ((A'.length : Int) == 1 + 2 * (o.steps.length : Int) - (j : Int)) = true := by rw [beq_iff_eq]; exact HLn.out
              have hj0 : ((j : Int) == 0) = true ∨ ((j : Int) == 0) = false := by cases ((j : Int) == 0) <;> simp
              rcases hj0 with hj0 | hj0
              all_goals
                have HJ := Kept.mk hj0
                go_wp2_with fail
                refine (clean_to p a2 b4 c2 d4 o A' _ _ HM6.out (HCl.out.trans HJ.out)).mono ?_
                rintro e w4 ⟨rfl, k4⟩
                have K4 := Kept.mk (HB6.out.trans k4)
                have H4 := Kept.mk (HM6.out.keeps k4)
                clear k4
                go_wp2_with fail
                refine (sold_to p a2 b4 c2 d4 o A' false _ H4.out HSd.out).mono ?_
                rintro e w5 ⟨rfl, k5⟩
                have K5 := Kept.mk (K4.out.trans k5)
                have H5 := Kept.mk (H4.out.keeps k5)
                clear k5
                go_wp2_with fail
                refine (seen_to p a2 b4 c2 d4 o A' _ H5.out).mono ?_
                rintro e w6 ⟨vs, rfl, hvs, k6⟩
                obtain ⟨va, vc, rfl, _⟩ := ownsRow_steps hvs
                have B6 := Kept.mk ((K5.out.trans k6).below (Nat.le_refl _) (fun _ h => h.elim))
                clear k6 hvs
                go_wp2_with fail
                refine (awake23_any _).mono ?_
                rintro e w7 ⟨rfl, k7⟩
                go_wp2_with fail
                go_ret
                exact ⟨rfl, B6.out.trans (k7.mono B6.out.size)⟩
end Go.Proofs.Ytjlfkpimjjnolaa
