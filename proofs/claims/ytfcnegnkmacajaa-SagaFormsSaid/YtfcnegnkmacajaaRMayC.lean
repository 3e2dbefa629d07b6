/- The page's MayFacts, walked, the loop. (printed by gen/rmay.py) -/
import Derived.Test.YtfcnegnkmacajaaRMay0
namespace Go.Proofs.Ytfcnegnkmacajaa
open Go.RowKit
set_option linter.unusedSimpArgs false in
set_option maxRecDepth 100000 in
set_option maxHeartbeats 16000000 in
theorem rm_neither (o : Ord) (a da ua : Option Addr) (c dc uc : Nat) (done undone : List Bool) (asked yes turned a0 a1 shipped d0 d1 acc : Bool) (w : World) (h : FcAt w o a c ⟨done, undone, asked, yes, turned, a0, a1, shipped, d0, d1, acc⟩ da ua) (hc : o.steps.length ≤ c) (hcm : c ≤ maxLen) (e0 : o.may = true) (l1 : done.length = o.steps.length) (l2 : undone.length = o.steps.length) (hy : yes = false) (ht : turned = false) (hs : shipped = false) (e3 : hasB undone true = false) (e5 : (a0 || a1) = false) (e6 : (d0 || d1) = false) (R : Bool) (hR : ((firstB done || false) && lastB undone) = R) :
    Calls Try.prog 16 #[.agg #[.int .i64 o.id, .int .i64 o.item, .int .i64 o.qty, .int .i64 o.client, .int .i64 o.price, .slice a o.steps.length c], .agg #[.slice da done.length dc, .slice ua undone.length uc, .bool asked, .bool yes, .bool turned, .bool a0, .bool a1, .bool shipped, .bool d0, .bool d1, .bool acc]] w (fun e w' => e = .returned (.bool (R)) ∧ Keeps (fun _ => False) w w') := by
  have HF0 := Kept.mk ((h.alloc (.cells #[.int .i64 o.id, .int .i64 o.item, .int .i64 o.qty, .int .i64 o.client, .int .i64 o.price, .slice a o.steps.length c] 24)).alloc (.cells #[.slice da done.length dc, .slice ua undone.length uc, .bool asked, .bool yes, .bool turned, .bool a0, .bool a1, .bool shipped, .bool d0, .bool d1, .bool acc] 42))
  have HB0 := Kept.mk (Blk.new' (w.alloc (.cells #[.int .i64 o.id, .int .i64 o.item, .int .i64 o.qty, .int .i64 o.client, .int .i64 o.price, .slice a o.steps.length c] 24)) 42 [.slice da done.length dc, .slice ua undone.length uc, .bool asked, .bool yes, .bool turned, .bool a0, .bool a1, .bool shipped, .bool d0, .bool d1, .bool acc] (w.heap.size + 1) (by simp))
  have HO0 := Kept.mk ((Blk.new' w 24 [.int .i64 o.id, .int .i64 o.item, .int .i64 o.qty, .int .i64 o.client, .int .i64 o.price, .slice a o.steps.length c] _ rfl).alloc (.cells #[.slice da done.length dc, .slice ua undone.length uc, .bool asked, .bool yes, .bool turned, .bool a0, .bool a1, .bool shipped, .bool d0, .bool d1, .bool acc] 42))
  have K0 : Kept (Keeps (fun _ => False) w ((w.alloc (.cells #[.int .i64 o.id, .int .i64 o.item, .int .i64 o.qty, .int .i64 o.client, .int .i64 o.price, .slice a o.steps.length c] 24)).alloc (.cells #[.slice da done.length dc, .slice ua undone.length uc, .bool asked, .bool yes, .bool turned, .bool a0, .bool a1, .bool shipped, .bool d0, .bool d1, .bool acc] 42))) := ⟨((Keeps.refl _ w).alloc _).alloc _⟩
  have hdm : (done.length : Int) ≤ 9223372036854775807 := by have := h.dm; unfold maxLen at this; simp only at this; omega
  have hum : (undone.length : Int) ≤ 9223372036854775807 := by have := h.um; unfold maxLen at this; simp only at this; omega
  have hsm : (o.steps.length : Int) ≤ 9223372036854775807 := by have := h.sm; unfold maxLen at this; omega
  clear h
  have HR := Kept.mk hR
  clear hR
  subst hy
  subst ht
  subst hs
  have E0 := Kept.mk e0
  clear e0
  have g1 : ((done.length : Int) != (o.steps.length : Int)) = false := by rw [l1]; simp
  have g2 : ((undone.length : Int) != (o.steps.length : Int)) = false := by rw [l2]; simp
  have L1 := Kept.mk l1
  have L2 := Kept.mk l2
  clear l1 l2
  have E3 := Kept.mk e3
  clear e3
  have E5 : Kept ((!hasB [a0, a1] true) = true) := ⟨by rw [hasB_two, e5]; rfl⟩
  clear e5
  have E6 : Kept ((!hasB [d0, d1] true) = true) := ⟨by rw [hasB_two, e6]; rfl⟩
  clear e6
  go_enter Try.func16, Try.ntmps16
  go_wp2_with fail
  refine (romay_to o a c true _ HF0.out.steps HF0.out.sm hc hcm E0.out).mono ?_
  rintro e w1 ⟨rfl, k1⟩
  have HF1 := Kept.mk (HF0.out.keeps k1)
  have HB1 := Kept.mk (HB0.out.quiet k1)
  have HO1 := Kept.mk (HO0.out.quiet k1)
  have K1 := Kept.mk (K0.out.trans k1)
  clear k1 HF0 HB0 HO0 K0
  obtain ⟨y0, y1, y2, y3, y4, y5, y6, y7, y8, y9, y10⟩ := blk11 HB1.out
  obtain ⟨x0, x1, x2, x3, x4, x5⟩ := blk6 HO1.out
  have HA2 : Kept (BlRow w1 (some ⟨w.heap.size + 1, 5, none⟩) [a0, a1]) := ⟨two_row y5 y6 HB1.out.lt⟩
  have HD2 : Kept (BlRow w1 (some ⟨w.heap.size + 1, 8, none⟩) [d0, d1]) := ⟨two_row y8 y9 HB1.out.lt⟩
  go_wp2_with fail
  refine (rnone_to ua uc undone.length undone true _ HF1.out.undone rfl HF1.out.um (by rw [E3.out]; rfl)).mono ?_
  rintro e _ ⟨rfl, rfl⟩
  go_wp2_with fail
  refine (rnone_to _ 2 2 [a0, a1] true _ HA2.out rfl (by decide) E5.out).mono ?_
  rintro e _ ⟨rfl, rfl⟩
  go_wp2_with fail
  refine (rnone_to _ 2 2 [d0, d1] true _ HD2.out rfl (by decide) E6.out).mono ?_
  rintro e _ ⟨rfl, rfl⟩
  go_wp2_with fail
  go_loop [5] (fun i => ∃ k : Nat, i = .int .i64 (k + 1 : Nat) ∧ k ≤ done.length ∧ Kept (∀ j, j < k → j + 1 < done.length → okF false done undone j)) (fun i => done.length + 1 - (intOf i).toNat)
  case atStart => exact ⟨0, rfl, Nat.zero_le _, ⟨fun j hj => by omega⟩⟩
  case round =>
    obtain ⟨k, rfl, hkl, hk⟩ := hrel
    have eq1 : ((k + 1 : Nat) : Int) - 1 = (k : Int) := by omega
    by_cases hlt : k + 1 < done.length
    · obtain ⟨x, hx⟩ : ∃ x, done[k]? = some x := ⟨_, List.getElem?_eq_getElem (by omega)⟩
      obtain ⟨y, hy⟩ : ∃ y, done[k + 1]? = some y := ⟨_, List.getElem?_eq_getElem hlt⟩
      obtain ⟨u, hu⟩ : ∃ u, undone[k]? = some u := ⟨_, List.getElem?_eq_getElem (by have := L1.out; have := L2.out; omega)⟩
      obtain ⟨v, hv⟩ : ∃ v, undone[k + 1]? = some v := ⟨_, List.getElem?_eq_getElem (by have := L1.out; have := L2.out; omega)⟩
      obtain ⟨g, off, rfl, _, cx⟩ := HF1.out.done k x hx
      obtain ⟨g', off', e1, _, cy⟩ := HF1.out.done (k + 1) y hy
      simp only [Option.some.injEq, Addr.mk.injEq, and_true] at e1
      obtain ⟨rfl, rfl⟩ := e1
      obtain ⟨p, pf, rfl, _, cu⟩ := HF1.out.undone k u hu
      obtain ⟨p', pf', e2, _, cv⟩ := HF1.out.undone (k + 1) v hv
      simp only [Option.some.injEq, Addr.mk.injEq, and_true] at e2
      obtain ⟨rfl, rfl⟩ := e2
      have hi1 : (k : Int) < (done.length : Int) := by omega
      have hi2 : ((k + 1 : Nat) : Int) < (done.length : Int) := by omega
      have hi3 : (k : Int) < (undone.length : Int) := by have := L1.out; have := L2.out; omega
      have hi4 : ((k + 1 : Nat) : Int) < (undone.length : Int) := by have := L1.out; have := L2.out; omega
      have Hx := Kept.mk hx
      have Hy := Kept.mk hy
      have Hu := Kept.mk hu
      have Hv := Kept.mk hv
      clear hx hy hu hv
      cases y with
      | true =>
        cases x with
        | true =>
          cases u with
          | true =>
            cases v with
            | true =>
              go_wp2_with fail
              go_round
              case rel => exact ⟨k + 1, by go_num, by omega, ⟨fun j hj hj2 => by
                rcases Nat.lt_or_ge j k with h1 | h1
                · exact hk.out j h1 hj2
                · obtain rfl : j = k := by omega
                  intro x' y' u' v' h0 h1 h2 h3
                  rw [Hx.out] at h0; rw [Hy.out] at h1; rw [Hu.out] at h2; rw [Hv.out] at h3
                  simp only [Option.some.injEq] at h0 h1 h2 h3
                  subst h0; subst h1; subst h2; subst h3
                  simp⟩⟩
              case measure => simp [intOf]; omega
            | false =>
              have hres := Kept.mk (okF_not (t := false) Hx.out Hy.out Hu.out Hv.out rfl)
              go_wp2_with fail
              go_ret
              exact ⟨by rw [← HR.out, hres.out]; rfl, K1.out⟩
          | false =>
            cases v with
            | true =>
              go_wp2_with fail
              go_round
              case rel => exact ⟨k + 1, by go_num, by omega, ⟨fun j hj hj2 => by
                rcases Nat.lt_or_ge j k with h1 | h1
                · exact hk.out j h1 hj2
                · obtain rfl : j = k := by omega
                  intro x' y' u' v' h0 h1 h2 h3
                  rw [Hx.out] at h0; rw [Hy.out] at h1; rw [Hu.out] at h2; rw [Hv.out] at h3
                  simp only [Option.some.injEq] at h0 h1 h2 h3
                  subst h0; subst h1; subst h2; subst h3
                  simp⟩⟩
              case measure => simp [intOf]; omega
            | false =>
              go_wp2_with fail
              go_round
              case rel => exact ⟨k + 1, by go_num, by omega, ⟨fun j hj hj2 => by
                rcases Nat.lt_or_ge j k with h1 | h1
                · exact hk.out j h1 hj2
                · obtain rfl : j = k := by omega
                  intro x' y' u' v' h0 h1 h2 h3
                  rw [Hx.out] at h0; rw [Hy.out] at h1; rw [Hu.out] at h2; rw [Hv.out] at h3
                  simp only [Option.some.injEq] at h0 h1 h2 h3
                  subst h0; subst h1; subst h2; subst h3
                  simp⟩⟩
              case measure => simp [intOf]; omega
        | false =>
          have hres : Kept (((firstB done || false) && lastB undone) = false) := ⟨okF_not (t := false) Hx.out Hy.out Hu.out Hv.out (by simp)⟩
          go_wp2_with fail
          go_ret
          exact ⟨by rw [← HR.out, hres.out]; rfl, K1.out⟩
      | false =>
        cases x with
        | true =>
          cases u with
          | true =>
            cases v with
            | true =>
              go_wp2_with fail
              go_round
              case rel => exact ⟨k + 1, by go_num, by omega, ⟨fun j hj hj2 => by
                rcases Nat.lt_or_ge j k with h1 | h1
                · exact hk.out j h1 hj2
                · obtain rfl : j = k := by omega
                  intro x' y' u' v' h0 h1 h2 h3
                  rw [Hx.out] at h0; rw [Hy.out] at h1; rw [Hu.out] at h2; rw [Hv.out] at h3
                  simp only [Option.some.injEq] at h0 h1 h2 h3
                  subst h0; subst h1; subst h2; subst h3
                  simp⟩⟩
              case measure => simp [intOf]; omega
            | false =>
              have hres := Kept.mk (okF_not (t := false) Hx.out Hy.out Hu.out Hv.out rfl)
              go_wp2_with fail
              go_ret
              exact ⟨by rw [← HR.out, hres.out]; rfl, K1.out⟩
          | false =>
            cases v with
            | true =>
              go_wp2_with fail
              go_round
              case rel => exact ⟨k + 1, by go_num, by omega, ⟨fun j hj hj2 => by
                rcases Nat.lt_or_ge j k with h1 | h1
                · exact hk.out j h1 hj2
                · obtain rfl : j = k := by omega
                  intro x' y' u' v' h0 h1 h2 h3
                  rw [Hx.out] at h0; rw [Hy.out] at h1; rw [Hu.out] at h2; rw [Hv.out] at h3
                  simp only [Option.some.injEq] at h0 h1 h2 h3
                  subst h0; subst h1; subst h2; subst h3
                  simp⟩⟩
              case measure => simp [intOf]; omega
            | false =>
              go_wp2_with fail
              go_round
              case rel => exact ⟨k + 1, by go_num, by omega, ⟨fun j hj hj2 => by
                rcases Nat.lt_or_ge j k with h1 | h1
                · exact hk.out j h1 hj2
                · obtain rfl : j = k := by omega
                  intro x' y' u' v' h0 h1 h2 h3
                  rw [Hx.out] at h0; rw [Hy.out] at h1; rw [Hu.out] at h2; rw [Hv.out] at h3
                  simp only [Option.some.injEq] at h0 h1 h2 h3
                  subst h0; subst h1; subst h2; subst h3
                  simp⟩⟩
              case measure => simp [intOf]; omega
        | false =>
          cases u with
          | true =>
            cases v with
            | true =>
              go_wp2_with fail
              go_round
              case rel => exact ⟨k + 1, by go_num, by omega, ⟨fun j hj hj2 => by
                rcases Nat.lt_or_ge j k with h1 | h1
                · exact hk.out j h1 hj2
                · obtain rfl : j = k := by omega
                  intro x' y' u' v' h0 h1 h2 h3
                  rw [Hx.out] at h0; rw [Hy.out] at h1; rw [Hu.out] at h2; rw [Hv.out] at h3
                  simp only [Option.some.injEq] at h0 h1 h2 h3
                  subst h0; subst h1; subst h2; subst h3
                  simp⟩⟩
              case measure => simp [intOf]; omega
            | false =>
              have hres := Kept.mk (okF_not (t := false) Hx.out Hy.out Hu.out Hv.out rfl)
              go_wp2_with fail
              go_ret
              exact ⟨by rw [← HR.out, hres.out]; rfl, K1.out⟩
          | false =>
            cases v with
            | true =>
              go_wp2_with fail
              go_round
              case rel => exact ⟨k + 1, by go_num, by omega, ⟨fun j hj hj2 => by
                rcases Nat.lt_or_ge j k with h1 | h1
                · exact hk.out j h1 hj2
                · obtain rfl : j = k := by omega
                  intro x' y' u' v' h0 h1 h2 h3
                  rw [Hx.out] at h0; rw [Hy.out] at h1; rw [Hu.out] at h2; rw [Hv.out] at h3
                  simp only [Option.some.injEq] at h0 h1 h2 h3
                  subst h0; subst h1; subst h2; subst h3
                  simp⟩⟩
              case measure => simp [intOf]; omega
            | false =>
              go_wp2_with fail
              go_round
              case rel => exact ⟨k + 1, by go_num, by omega, ⟨fun j hj hj2 => by
                rcases Nat.lt_or_ge j k with h1 | h1
                · exact hk.out j h1 hj2
                · obtain rfl : j = k := by omega
                  intro x' y' u' v' h0 h1 h2 h3
                  rw [Hx.out] at h0; rw [Hy.out] at h1; rw [Hu.out] at h2; rw [Hv.out] at h3
                  simp only [Option.some.injEq] at h0 h1 h2 h3
                  subst h0; subst h1; subst h2; subst h3
                  simp⟩⟩
              case measure => simp [intOf]; omega
    · have hres := Kept.mk (okF_all (t := false) (D := done) (U := undone) (by have := L1.out; have := L2.out; omega) (fun j hj => hk.out j (by omega) hj))
      have hge : ¬ ((k + 1 : Nat) : Int) < (done.length : Int) := by omega
      go_wp2_with fail
      go_ret
      exact ⟨by rw [← HR.out, hres.out]; rfl, K1.out⟩
end Go.Proofs.Ytfcnegnkmacajaa
