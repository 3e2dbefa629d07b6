/- The law ModelGoes, walked. (printed by gen/modelgoes.py) -/
import Derived.Test.YtjlfkpimjjnolaaModelLaws
import Derived.Test.YtjlfkpimjjnolaaOrd4
import Derived.Test.YtjlfkpimjjnolaaOpen3
namespace Go.Proofs.Ytjlfkpimjjnolaa
open Go.RowKit
theorem clean_aborts {o : Ord} {A : List Act2} {s : Sty} (hi : MInv o A s) (h : cleanB o A = true) : s.commits = false := by
  unfold cleanB at h
  simp only [Bool.and_eq_true] at h
  have h1 := h.1
  rw [hi.h14] at h1
  simp only [Bool.and_eq_true] at h1
  cases hc : s.commits with
  | false => rfl
  | true => have := hi.g1 hc; rw [h1.1] at this; cases this
set_option maxRecDepth 100000 in
set_option maxHeartbeats 8000000 in
theorem goes_any (o : Ord) (a b : Option Addr) (c d : Nat) (L : List Act2) (w : World) (hL : StRow w a o.steps) (hc1 : o.steps.length ≤ c) (hc2 : c ≤ maxLen) (hA : AcRow w b L) (hd1 : L.length ≤ maxLen) :
    Calls Try.prog 9 #[.agg #[.int .i64 o.id, .int .i64 o.item, .int .i64 o.qty, .int .i64 o.client, .int .i64 o.price, .slice a o.steps.length c], .slice b L.length d] w (Yes w) := by
  have hm : o.steps.length ≤ maxLen := Nat.le_trans hc1 hc2
  have hmi : (o.steps.length : Int) ≤ 9223372036854775807 := by unfold maxLen at hm; omega
  have hdi : (L.length : Int) ≤ 9223372036854775807 := by unfold maxLen at hd1; omega
  have HO := Kept.mk (Blk.new w 24 [.int .i64 o.id, .int .i64 o.item, .int .i64 o.qty, .int .i64 o.client, .int .i64 o.price, .slice a o.steps.length c])
  have HL := Kept.mk hL
  have HA := Kept.mk hA
  have HC1 := Kept.mk hc1
  have HC2 := Kept.mk hc2
  have HM := Kept.mk hm
  clear hL hA hm hc1 hc2 hd1
  by_cases h10 : (10 : Int) < o.steps.length
  · go_enter Try.func9, Try.ntmps9
    go_wp2_with fail
    refine (awake23_any _).mono ?_
    rintro e w5 ⟨rfl, b5⟩
    go_wp2_with fail
    go_ret
    exact ⟨rfl, ((Below.refl _ w).alloc (Nat.le_refl _) _).trans (b5.mono (by simp))⟩
  by_cases h60 : (60 : Int) < L.length
  · go_enter Try.func9, Try.ntmps9
    go_wp2_with fail
    refine (awake23_any _).mono ?_
    rintro e w5 ⟨rfl, b5⟩
    go_wp2_with fail
    go_ret
    exact ⟨rfl, ((Below.refl _ w).alloc (Nat.le_refl _) _).trans (b5.mono (by simp))⟩
  cases hmay : o.may with
  | false =>
    have Hmay := Kept.mk hmay
    clear hmay
    go_enter Try.func9, Try.ntmps9
    go_wp2_with fail
    refine (romay_to o a c false _ (HL.out.alloc _) HM.out HC1.out HC2.out Hmay.out).mono ?_
    rintro e w1 ⟨rfl, k1⟩
    have B1 := Kept.mk ((((Keeps.refl (fun _ => False) w).alloc (.cells #[.int .i64 o.id, .int .i64 o.item, .int .i64 o.qty, .int .i64 o.client, .int .i64 o.price, .slice a o.steps.length c] 24)).trans k1).below (Nat.le_refl _) (fun _ h => h.elim))
    go_wp2_with fail
    refine (awake23_any _).mono ?_
    rintro e w5 ⟨rfl, b5⟩
    go_wp2_with fail
    go_ret
    exact ⟨rfl, B1.out.trans (b5.mono B1.out.size)⟩
  | true =>
    have Hmay := Kept.mk hmay
    clear hmay
    go_enter Try.func9, Try.ntmps9
    go_wp2_with fail
    refine (romay_to o a c true _ (HL.out.alloc _) HM.out HC1.out HC2.out Hmay.out).mono ?_
    rintro e w1 ⟨rfl, k1⟩
    have K1 := Kept.mk (((Keeps.refl (fun _ => False) w).alloc (.cells #[.int .i64 o.id, .int .i64 o.item, .int .i64 o.qty, .int .i64 o.client, .int .i64 o.price, .slice a o.steps.length c] 24)).trans k1)
    have ho1 := HO.out.keeps k1 (fun h => h)
    have HO1 := Kept.mk ho1
    have o0 := ho1.cell 0 rfl
    have o1 := ho1.cell 1 rfl
    have o2 := ho1.cell 2 rfl
    have o3 := ho1.cell 3 rfl
    have o4 := ho1.cell 4 rfl
    have o5 := ho1.cell 5 rfl
    clear k1 ho1
    go_wp2_with fail
    refine (newM_yes o a c _ (HL.out.quiet K1.out) Hmay.out).mono ?_
    rintro e w2 ⟨p, a2, c2, rfl, h2, hp, k2⟩
    have H2 := Kept.mk h2
    have K2 := Kept.mk (K1.out.trans k2)
    have HO2 := Kept.mk (HO1.out.keeps k2 (fun h => h))
    have hwp : w.heap.size < p := by have := HO1.out.lt; omega
    have HI0 := Kept.mk (MInv.zero Hmay.out)
    have hcl0 : Kept (cleanB o [] = false) := ⟨rfl⟩
    clear k2 h2
    go_wp2_with fail
    go_loopw [6, 7, 8, 31] (fun v6 v7 v8 i wr => ∃ (k : Nat) (A : List Act2) (s : Sty) (b' : Option Addr) (d' : Nat), k ≤ L.length ∧ i = .int .i64 k ∧ v6 = .bool s.commits ∧ v7 = .bool s.shipped ∧ v8 = .bool (cleanB o A) ∧ ModAt wr p a2 c2 b' d' o A ∧ MInv o A s ∧ Blk wr w.heap.size 24 [.int .i64 o.id, .int .i64 o.item, .int .i64 o.qty, .int .i64 o.client, .int .i64 o.price, .slice a o.steps.length c] ∧ Keeps (fun _ => False) w wr) (fun _ _ _ i _ => L.length - (intOf i).toNat)
    case atStart => exact ⟨0, [], Sty.zero, none, 0, Nat.zero_le _, rfl, rfl, rfl, by rw [hcl0.out], H2.out, HI0.out, HO2.out, K2.out⟩
    case round =>
      clear H2 K2 HO2 HI0 hcl0 o0 o1 o2 o3 o4 o5
      obtain ⟨k, A, s, b', d', hk, rfl, rfl, rfl, rfl, hM, hI, hO, hB⟩ := hrel
      have HM2 := Kept.mk hM
      have HI := Kept.mk hI
      have HO3 := Kept.mk hO
      have HB := Kept.mk hB
      have hpw := hM.cells.lt
      clear hM hI hO hB
      by_cases hlt : k < L.length
      · obtain ⟨x, hx⟩ : ∃ x, L[k]? = some x := ⟨_, List.getElem?_eq_getElem hlt⟩
        obtain ⟨g, off, rfl, hl, e0, e1⟩ := HA.out k x hx
        rw [← HB.out.cell (p := ⟨g, off + k * 2, none⟩) hl (fun h => h)] at e0
        rw [← HB.out.cell (p := ⟨g, off + k * 2 + 1, none⟩) hl (fun h => h)] at e1
        obtain ⟨x1, x2⟩ := x
        simp only at e0 e1
        clear hx
        have hcl := clean_aborts HI.out
        obtain ⟨cl, hcle⟩ : ∃ q, Kept (cleanB o A = q) := ⟨_, ⟨rfl⟩⟩
        rw [hcle.out] at hcl
        obtain ⟨cs, hcs⟩ : ∃ q, Kept (s.commits = q) := ⟨_, ⟨rfl⟩⟩
        obtain ⟨fs, hfs⟩ : ∃ q, Kept (s.shipped = q) := ⟨_, ⟨rfl⟩⟩
        rw [hcs.out] at hcl
        rw [hcs.out, hfs.out, hcle.out]
        have Hcl := Kept.mk hcl
        have HMa := Kept.mk (HM2.out.alloc (.cells #[.int .i64 x1, .int .i64 x2] 30))
        clear hcl
        go_wp2_with fail
        refine (see_any p a2 b' c2 d' o A s x1 x2 _ HMa.out HI.out).mono ?_
        rintro e w3 ⟨r, A', s', b3, d3, rfl, h3, hi3, k3, hm3, ht, hf⟩
        have mono := note_mono s x1
        have hmc : cs = true → s'.commits = true := by
          intro h
          rw [← hcs.out] at h
          cases r with
          | true => obtain ⟨_, rfl⟩ := ht rfl; exact mono.1 h
          | false => obtain ⟨_, rfl⟩ := hf rfl; exact h
        have hmf : fs = true → s'.shipped = true := by
          intro h
          rw [← hfs.out] at h
          cases r with
          | true => obtain ⟨_, rfl⟩ := ht rfl; exact mono.2.1 h
          | false => obtain ⟨_, rfl⟩ := hf rfl; exact h
        have hmb : cl = true → s'.commits = false := by
          intro h
          rw [← hcle.out] at h
          have hb : s.aborts = true := by
            unfold cleanB at h
            simp only [Bool.and_eq_true] at h
            have h1 := h.1
            rw [HI.out.h14] at h1
            simp only [Bool.and_eq_true] at h1
            exact h1.1
          have hb' : s'.aborts = true := by
            cases r with
            | true => obtain ⟨_, rfl⟩ := ht rfl; exact mono.2.2 hb
            | false => obtain ⟨_, rfl⟩ := hf rfl; exact hb
          cases hc : s'.commits with
          | false => rfl
          | true => have := hi3.g1 hc; rw [hb'] at this; cases this
        have hcl3 := clean_aborts hi3
        have hg2 := hi3.g2
        have K3 : Kept (Keeps (fun _ => False) w w3) := ⟨(HB.out.alloc _).then k3 (fun i hi e => by omega)⟩
        have HO4 := Kept.mk ((HO3.out.alloc (.cells #[.int .i64 x1, .int .i64 x2] 30)).keeps k3 (by omega))
        have H3 := Kept.mk h3
        have HI3 := Kept.mk hi3
        have S13 : Kept (hasAct A' 13 0 = s'.commits) := ⟨by rw [hi3.h13]; simp⟩
        have S16 : Kept (hasAct A' 16 0 = s'.shipped) := ⟨by rw [hi3.h16]; simp⟩
        clear ht hf mono hm3 k3 h3 hi3 hcs hfs hcle Hcl HMa HM2 HI HO3 HB e0 e1
        obtain ⟨c', hc'⟩ : ∃ q, Kept (s'.commits = q) := ⟨_, ⟨rfl⟩⟩
        obtain ⟨f', hf'⟩ : ∃ q, Kept (s'.shipped = q) := ⟨_, ⟨rfl⟩⟩
        obtain ⟨cl', hcl'⟩ : ∃ q, Kept (cleanB o A' = q) := ⟨_, ⟨rfl⟩⟩
        rw [hc'.out] at hmc hmb hcl3 hg2 S13
        rw [hf'.out] at hmf hg2 S16
        rw [hcl'.out] at hcl3
        have S13 := Kept.mk S13.out
        have S16 := Kept.mk S16.out
        cases c' with
        | false =>
          have z1 : cs = false := by cases cs with | false => rfl | true => exact absurd (hmc rfl) (by simp)
          have z2 : f' = false := by cases f' with | false => rfl | true => exact absurd (hg2 rfl) (by simp)
          subst z1
          subst z2
          have z3 : fs = false := by cases fs with | false => rfl | true => exact absurd (hmf rfl) (by simp)
          subst z3
          clear hmc hmb hcl3 hg2 hmf
          cases cl with
          | false =>
            have M0 := H3
            have Q0 := K3
            have P0 := HO4
            clear H3 K3 HO4
            go_wp2_with fail
            refine (sent_to p a2 b3 c2 d3 o A' false _ M0.out S16.out).mono ?_
            rintro e y0 ⟨rfl, q0⟩
            have M1 := Kept.mk (M0.out.keeps q0)
            have Q1 := Kept.mk (Q0.out.trans q0)
            have P1 := Kept.mk (P0.out.keeps q0 (fun h => h))
            clear q0 M0 Q0 P0
            go_wp2_with fail
            refine (sold_to p a2 b3 c2 d3 o A' false _ M1.out S13.out).mono ?_
            rintro e y1 ⟨rfl, q1⟩
            have M2 := Kept.mk (M1.out.keeps q1)
            have Q2 := Kept.mk (Q1.out.trans q1)
            have P2 := Kept.mk (P1.out.keeps q1 (fun h => h))
            clear q1 M1 Q1 P1
            go_wp2_with fail
            refine (sold_to p a2 b3 c2 d3 o A' false _ M2.out S13.out).mono ?_
            rintro e y2 ⟨rfl, q2⟩
            have M3 := Kept.mk (M2.out.keeps q2)
            have Q3 := Kept.mk (Q2.out.trans q2)
            have P3 := Kept.mk (P2.out.keeps q2 (fun h => h))
            clear q2 M2 Q2 P2
            go_wp2_with fail
            refine (sent_to p a2 b3 c2 d3 o A' false _ M3.out S16.out).mono ?_
            rintro e y3 ⟨rfl, q3⟩
            have M4 := Kept.mk (M3.out.keeps q3)
            have Q4 := Kept.mk (Q3.out.trans q3)
            have P4 := Kept.mk (P3.out.keeps q3 (fun h => h))
            clear q3 M3 Q3 P3
            go_wp2_with fail
            refine (clean_to p a2 b3 c2 d3 o A' cl' _ M4.out hcl'.out).mono ?_
            rintro e y4 ⟨rfl, q4⟩
            have M5 := Kept.mk (M4.out.keeps q4)
            have Q5 := Kept.mk (Q4.out.trans q4)
            have P5 := Kept.mk (P4.out.keeps q4 (fun h => h))
            clear q4 M4 Q4 P4
            go_wp2_with fail
            go_roundw
            case rel => exact ⟨k + 1, A', s', b3, d3, by omega, by go_num, by rw [hc'.out], by rw [hf'.out], by rw [hcl'.out], M5.out, HI3.out, P5.out, Q5.out⟩
            case measure => simp [intOf]; omega
          | true =>
            have M0 := H3
            have Q0 := K3
            have P0 := HO4
            clear H3 K3 HO4
            go_wp2_with fail
            refine (sent_to p a2 b3 c2 d3 o A' false _ M0.out S16.out).mono ?_
            rintro e y0 ⟨rfl, q0⟩
            have M1 := Kept.mk (M0.out.keeps q0)
            have Q1 := Kept.mk (Q0.out.trans q0)
            have P1 := Kept.mk (P0.out.keeps q0 (fun h => h))
            clear q0 M0 Q0 P0
            go_wp2_with fail
            refine (sold_to p a2 b3 c2 d3 o A' false _ M1.out S13.out).mono ?_
            rintro e y1 ⟨rfl, q1⟩
            have M2 := Kept.mk (M1.out.keeps q1)
            have Q2 := Kept.mk (Q1.out.trans q1)
            have P2 := Kept.mk (P1.out.keeps q1 (fun h => h))
            clear q1 M1 Q1 P1
            go_wp2_with fail
            refine (sold_to p a2 b3 c2 d3 o A' false _ M2.out S13.out).mono ?_
            rintro e y2 ⟨rfl, q2⟩
            have M3 := Kept.mk (M2.out.keeps q2)
            have Q3 := Kept.mk (Q2.out.trans q2)
            have P3 := Kept.mk (P2.out.keeps q2 (fun h => h))
            clear q2 M2 Q2 P2
            go_wp2_with fail
            refine (sold_to p a2 b3 c2 d3 o A' false _ M3.out S13.out).mono ?_
            rintro e y3 ⟨rfl, q3⟩
            have M4 := Kept.mk (M3.out.keeps q3)
            have Q4 := Kept.mk (Q3.out.trans q3)
            have P4 := Kept.mk (P3.out.keeps q3 (fun h => h))
            clear q3 M3 Q3 P3
            go_wp2_with fail
            refine (sent_to p a2 b3 c2 d3 o A' false _ M4.out S16.out).mono ?_
            rintro e y4 ⟨rfl, q4⟩
            have M5 := Kept.mk (M4.out.keeps q4)
            have Q5 := Kept.mk (Q4.out.trans q4)
            have P5 := Kept.mk (P4.out.keeps q4 (fun h => h))
            clear q4 M4 Q4 P4
            go_wp2_with fail
            refine (clean_to p a2 b3 c2 d3 o A' cl' _ M5.out hcl'.out).mono ?_
            rintro e y5 ⟨rfl, q5⟩
            have M6 := Kept.mk (M5.out.keeps q5)
            have Q6 := Kept.mk (Q5.out.trans q5)
            have P6 := Kept.mk (P5.out.keeps q5 (fun h => h))
            clear q5 M5 Q5 P5
            go_wp2_with fail
            go_roundw
            case rel => exact ⟨k + 1, A', s', b3, d3, by omega, by go_num, by rw [hc'.out], by rw [hf'.out], by rw [hcl'.out], M6.out, HI3.out, P6.out, Q6.out⟩
            case measure => simp [intOf]; omega
        | true =>
          have z1 : cl = false := by cases cl with | false => rfl | true => exact absurd (hmb rfl) (by simp)
          have z2 : cl' = false := by cases cl' with | false => rfl | true => exact absurd (hcl3 rfl) (by simp)
          subst z1
          subst z2
          cases f' with
          | false =>
            have z3 : fs = false := by cases fs with | false => rfl | true => exact absurd (hmf rfl) (by simp)
            subst z3
            clear hmc hmb hcl3 hg2 hmf
            cases cs with
            | false =>
              have M0 := H3
              have Q0 := K3
              have P0 := HO4
              clear H3 K3 HO4
              go_wp2_with fail
              refine (sent_to p a2 b3 c2 d3 o A' false _ M0.out S16.out).mono ?_
              rintro e y0 ⟨rfl, q0⟩
              have M1 := Kept.mk (M0.out.keeps q0)
              have Q1 := Kept.mk (Q0.out.trans q0)
              have P1 := Kept.mk (P0.out.keeps q0 (fun h => h))
              clear q0 M0 Q0 P0
              go_wp2_with fail
              refine (sold_to p a2 b3 c2 d3 o A' true _ M1.out S13.out).mono ?_
              rintro e y1 ⟨rfl, q1⟩
              have M2 := Kept.mk (M1.out.keeps q1)
              have Q2 := Kept.mk (Q1.out.trans q1)
              have P2 := Kept.mk (P1.out.keeps q1 (fun h => h))
              clear q1 M1 Q1 P1
              go_wp2_with fail
              refine (clean_to p a2 b3 c2 d3 o A' false _ M2.out hcl'.out).mono ?_
              rintro e y2 ⟨rfl, q2⟩
              have M3 := Kept.mk (M2.out.keeps q2)
              have Q3 := Kept.mk (Q2.out.trans q2)
              have P3 := Kept.mk (P2.out.keeps q2 (fun h => h))
              clear q2 M2 Q2 P2
              go_wp2_with fail
              refine (sold_to p a2 b3 c2 d3 o A' true _ M3.out S13.out).mono ?_
              rintro e y3 ⟨rfl, q3⟩
              have M4 := Kept.mk (M3.out.keeps q3)
              have Q4 := Kept.mk (Q3.out.trans q3)
              have P4 := Kept.mk (P3.out.keeps q3 (fun h => h))
              clear q3 M3 Q3 P3
              go_wp2_with fail
              refine (sent_to p a2 b3 c2 d3 o A' false _ M4.out S16.out).mono ?_
              rintro e y4 ⟨rfl, q4⟩
              have M5 := Kept.mk (M4.out.keeps q4)
              have Q5 := Kept.mk (Q4.out.trans q4)
              have P5 := Kept.mk (P4.out.keeps q4 (fun h => h))
              clear q4 M4 Q4 P4
              go_wp2_with fail
              refine (clean_to p a2 b3 c2 d3 o A' false _ M5.out hcl'.out).mono ?_
              rintro e y5 ⟨rfl, q5⟩
              have M6 := Kept.mk (M5.out.keeps q5)
              have Q6 := Kept.mk (Q5.out.trans q5)
              have P6 := Kept.mk (P5.out.keeps q5 (fun h => h))
              clear q5 M5 Q5 P5
              go_wp2_with fail
              go_roundw
              case rel => exact ⟨k + 1, A', s', b3, d3, by omega, by go_num, by rw [hc'.out], by rw [hf'.out], by rw [hcl'.out], M6.out, HI3.out, P6.out, Q6.out⟩
              case measure => simp [intOf]; omega
            | true =>
              have M0 := H3
              have Q0 := K3
              have P0 := HO4
              clear H3 K3 HO4
              go_wp2_with fail
              refine (sold_to p a2 b3 c2 d3 o A' true _ M0.out S13.out).mono ?_
              rintro e y0 ⟨rfl, q0⟩
              have M1 := Kept.mk (M0.out.keeps q0)
              have Q1 := Kept.mk (Q0.out.trans q0)
              have P1 := Kept.mk (P0.out.keeps q0 (fun h => h))
              clear q0 M0 Q0 P0
              go_wp2_with fail
              refine (sent_to p a2 b3 c2 d3 o A' false _ M1.out S16.out).mono ?_
              rintro e y1 ⟨rfl, q1⟩
              have M2 := Kept.mk (M1.out.keeps q1)
              have Q2 := Kept.mk (Q1.out.trans q1)
              have P2 := Kept.mk (P1.out.keeps q1 (fun h => h))
              clear q1 M1 Q1 P1
              go_wp2_with fail
              refine (sold_to p a2 b3 c2 d3 o A' true _ M2.out S13.out).mono ?_
              rintro e y2 ⟨rfl, q2⟩
              have M3 := Kept.mk (M2.out.keeps q2)
              have Q3 := Kept.mk (Q2.out.trans q2)
              have P3 := Kept.mk (P2.out.keeps q2 (fun h => h))
              clear q2 M2 Q2 P2
              go_wp2_with fail
              refine (clean_to p a2 b3 c2 d3 o A' false _ M3.out hcl'.out).mono ?_
              rintro e y3 ⟨rfl, q3⟩
              have M4 := Kept.mk (M3.out.keeps q3)
              have Q4 := Kept.mk (Q3.out.trans q3)
              have P4 := Kept.mk (P3.out.keeps q3 (fun h => h))
              clear q3 M3 Q3 P3
              go_wp2_with fail
              refine (sold_to p a2 b3 c2 d3 o A' true _ M4.out S13.out).mono ?_
              rintro e y4 ⟨rfl, q4⟩
              have M5 := Kept.mk (M4.out.keeps q4)
              have Q5 := Kept.mk (Q4.out.trans q4)
              have P5 := Kept.mk (P4.out.keeps q4 (fun h => h))
              clear q4 M4 Q4 P4
              go_wp2_with fail
              refine (sent_to p a2 b3 c2 d3 o A' false _ M5.out S16.out).mono ?_
              rintro e y5 ⟨rfl, q5⟩
              have M6 := Kept.mk (M5.out.keeps q5)
              have Q6 := Kept.mk (Q5.out.trans q5)
              have P6 := Kept.mk (P5.out.keeps q5 (fun h => h))
              clear q5 M5 Q5 P5
              go_wp2_with fail
              refine (clean_to p a2 b3 c2 d3 o A' false _ M6.out hcl'.out).mono ?_
              rintro e y6 ⟨rfl, q6⟩
              have M7 := Kept.mk (M6.out.keeps q6)
              have Q7 := Kept.mk (Q6.out.trans q6)
              have P7 := Kept.mk (P6.out.keeps q6 (fun h => h))
              clear q6 M6 Q6 P6
              go_wp2_with fail
              go_roundw
              case rel => exact ⟨k + 1, A', s', b3, d3, by omega, by go_num, by rw [hc'.out], by rw [hf'.out], by rw [hcl'.out], M7.out, HI3.out, P7.out, Q7.out⟩
              case measure => simp [intOf]; omega
          | true =>
            clear hmc hmb hcl3 hg2 hmf
            cases fs with
            | false =>
              cases cs with
              | false =>
                have M0 := H3
                have Q0 := K3
                have P0 := HO4
                clear H3 K3 HO4
                go_wp2_with fail
                refine (sent_to p a2 b3 c2 d3 o A' true _ M0.out S16.out).mono ?_
                rintro e y0 ⟨rfl, q0⟩
                have M1 := Kept.mk (M0.out.keeps q0)
                have Q1 := Kept.mk (Q0.out.trans q0)
                have P1 := Kept.mk (P0.out.keeps q0 (fun h => h))
                clear q0 M0 Q0 P0
                go_wp2_with fail
                refine (sold_to p a2 b3 c2 d3 o A' true _ M1.out S13.out).mono ?_
                rintro e y1 ⟨rfl, q1⟩
                have M2 := Kept.mk (M1.out.keeps q1)
                have Q2 := Kept.mk (Q1.out.trans q1)
                have P2 := Kept.mk (P1.out.keeps q1 (fun h => h))
                clear q1 M1 Q1 P1
                go_wp2_with fail
                refine (sold_to p a2 b3 c2 d3 o A' true _ M2.out S13.out).mono ?_
                rintro e y2 ⟨rfl, q2⟩
                have M3 := Kept.mk (M2.out.keeps q2)
                have Q3 := Kept.mk (Q2.out.trans q2)
                have P3 := Kept.mk (P2.out.keeps q2 (fun h => h))
                clear q2 M2 Q2 P2
                go_wp2_with fail
                refine (clean_to p a2 b3 c2 d3 o A' false _ M3.out hcl'.out).mono ?_
                rintro e y3 ⟨rfl, q3⟩
                have M4 := Kept.mk (M3.out.keeps q3)
                have Q4 := Kept.mk (Q3.out.trans q3)
                have P4 := Kept.mk (P3.out.keeps q3 (fun h => h))
                clear q3 M3 Q3 P3
                go_wp2_with fail
                refine (sold_to p a2 b3 c2 d3 o A' true _ M4.out S13.out).mono ?_
                rintro e y4 ⟨rfl, q4⟩
                have M5 := Kept.mk (M4.out.keeps q4)
                have Q5 := Kept.mk (Q4.out.trans q4)
                have P5 := Kept.mk (P4.out.keeps q4 (fun h => h))
                clear q4 M4 Q4 P4
                go_wp2_with fail
                refine (sent_to p a2 b3 c2 d3 o A' true _ M5.out S16.out).mono ?_
                rintro e y5 ⟨rfl, q5⟩
                have M6 := Kept.mk (M5.out.keeps q5)
                have Q6 := Kept.mk (Q5.out.trans q5)
                have P6 := Kept.mk (P5.out.keeps q5 (fun h => h))
                clear q5 M5 Q5 P5
                go_wp2_with fail
                refine (clean_to p a2 b3 c2 d3 o A' false _ M6.out hcl'.out).mono ?_
                rintro e y6 ⟨rfl, q6⟩
                have M7 := Kept.mk (M6.out.keeps q6)
                have Q7 := Kept.mk (Q6.out.trans q6)
                have P7 := Kept.mk (P6.out.keeps q6 (fun h => h))
                clear q6 M6 Q6 P6
                go_wp2_with fail
                go_roundw
                case rel => exact ⟨k + 1, A', s', b3, d3, by omega, by go_num, by rw [hc'.out], by rw [hf'.out], by rw [hcl'.out], M7.out, HI3.out, P7.out, Q7.out⟩
                case measure => simp [intOf]; omega
              | true =>
                have M0 := H3
                have Q0 := K3
                have P0 := HO4
                clear H3 K3 HO4
                go_wp2_with fail
                refine (sold_to p a2 b3 c2 d3 o A' true _ M0.out S13.out).mono ?_
                rintro e y0 ⟨rfl, q0⟩
                have M1 := Kept.mk (M0.out.keeps q0)
                have Q1 := Kept.mk (Q0.out.trans q0)
                have P1 := Kept.mk (P0.out.keeps q0 (fun h => h))
                clear q0 M0 Q0 P0
                go_wp2_with fail
                refine (sent_to p a2 b3 c2 d3 o A' true _ M1.out S16.out).mono ?_
                rintro e y1 ⟨rfl, q1⟩
                have M2 := Kept.mk (M1.out.keeps q1)
                have Q2 := Kept.mk (Q1.out.trans q1)
                have P2 := Kept.mk (P1.out.keeps q1 (fun h => h))
                clear q1 M1 Q1 P1
                go_wp2_with fail
                refine (sold_to p a2 b3 c2 d3 o A' true _ M2.out S13.out).mono ?_
                rintro e y2 ⟨rfl, q2⟩
                have M3 := Kept.mk (M2.out.keeps q2)
                have Q3 := Kept.mk (Q2.out.trans q2)
                have P3 := Kept.mk (P2.out.keeps q2 (fun h => h))
                clear q2 M2 Q2 P2
                go_wp2_with fail
                refine (sold_to p a2 b3 c2 d3 o A' true _ M3.out S13.out).mono ?_
                rintro e y3 ⟨rfl, q3⟩
                have M4 := Kept.mk (M3.out.keeps q3)
                have Q4 := Kept.mk (Q3.out.trans q3)
                have P4 := Kept.mk (P3.out.keeps q3 (fun h => h))
                clear q3 M3 Q3 P3
                go_wp2_with fail
                refine (clean_to p a2 b3 c2 d3 o A' false _ M4.out hcl'.out).mono ?_
                rintro e y4 ⟨rfl, q4⟩
                have M5 := Kept.mk (M4.out.keeps q4)
                have Q5 := Kept.mk (Q4.out.trans q4)
                have P5 := Kept.mk (P4.out.keeps q4 (fun h => h))
                clear q4 M4 Q4 P4
                go_wp2_with fail
                refine (sold_to p a2 b3 c2 d3 o A' true _ M5.out S13.out).mono ?_
                rintro e y5 ⟨rfl, q5⟩
                have M6 := Kept.mk (M5.out.keeps q5)
                have Q6 := Kept.mk (Q5.out.trans q5)
                have P6 := Kept.mk (P5.out.keeps q5 (fun h => h))
                clear q5 M5 Q5 P5
                go_wp2_with fail
                refine (sent_to p a2 b3 c2 d3 o A' true _ M6.out S16.out).mono ?_
                rintro e y6 ⟨rfl, q6⟩
                have M7 := Kept.mk (M6.out.keeps q6)
                have Q7 := Kept.mk (Q6.out.trans q6)
                have P7 := Kept.mk (P6.out.keeps q6 (fun h => h))
                clear q6 M6 Q6 P6
                go_wp2_with fail
                refine (clean_to p a2 b3 c2 d3 o A' false _ M7.out hcl'.out).mono ?_
                rintro e y7 ⟨rfl, q7⟩
                have M8 := Kept.mk (M7.out.keeps q7)
                have Q8 := Kept.mk (Q7.out.trans q7)
                have P8 := Kept.mk (P7.out.keeps q7 (fun h => h))
                clear q7 M7 Q7 P7
                go_wp2_with fail
                go_roundw
                case rel => exact ⟨k + 1, A', s', b3, d3, by omega, by go_num, by rw [hc'.out], by rw [hf'.out], by rw [hcl'.out], M8.out, HI3.out, P8.out, Q8.out⟩
                case measure => simp [intOf]; omega
            | true =>
              cases cs with
              | false =>
                have M0 := H3
                have Q0 := K3
                have P0 := HO4
                clear H3 K3 HO4
                go_wp2_with fail
                refine (sent_to p a2 b3 c2 d3 o A' true _ M0.out S16.out).mono ?_
                rintro e y0 ⟨rfl, q0⟩
                have M1 := Kept.mk (M0.out.keeps q0)
                have Q1 := Kept.mk (Q0.out.trans q0)
                have P1 := Kept.mk (P0.out.keeps q0 (fun h => h))
                clear q0 M0 Q0 P0
                go_wp2_with fail
                refine (sent_to p a2 b3 c2 d3 o A' true _ M1.out S16.out).mono ?_
                rintro e y1 ⟨rfl, q1⟩
                have M2 := Kept.mk (M1.out.keeps q1)
                have Q2 := Kept.mk (Q1.out.trans q1)
                have P2 := Kept.mk (P1.out.keeps q1 (fun h => h))
                clear q1 M1 Q1 P1
                go_wp2_with fail
                refine (sold_to p a2 b3 c2 d3 o A' true _ M2.out S13.out).mono ?_
                rintro e y2 ⟨rfl, q2⟩
                have M3 := Kept.mk (M2.out.keeps q2)
                have Q3 := Kept.mk (Q2.out.trans q2)
                have P3 := Kept.mk (P2.out.keeps q2 (fun h => h))
                clear q2 M2 Q2 P2
                go_wp2_with fail
                refine (sold_to p a2 b3 c2 d3 o A' true _ M3.out S13.out).mono ?_
                rintro e y3 ⟨rfl, q3⟩
                have M4 := Kept.mk (M3.out.keeps q3)
                have Q4 := Kept.mk (Q3.out.trans q3)
                have P4 := Kept.mk (P3.out.keeps q3 (fun h => h))
                clear q3 M3 Q3 P3
                go_wp2_with fail
                refine (clean_to p a2 b3 c2 d3 o A' false _ M4.out hcl'.out).mono ?_
                rintro e y4 ⟨rfl, q4⟩
                have M5 := Kept.mk (M4.out.keeps q4)
                have Q5 := Kept.mk (Q4.out.trans q4)
                have P5 := Kept.mk (P4.out.keeps q4 (fun h => h))
                clear q4 M4 Q4 P4
                go_wp2_with fail
                refine (sold_to p a2 b3 c2 d3 o A' true _ M5.out S13.out).mono ?_
                rintro e y5 ⟨rfl, q5⟩
                have M6 := Kept.mk (M5.out.keeps q5)
                have Q6 := Kept.mk (Q5.out.trans q5)
                have P6 := Kept.mk (P5.out.keeps q5 (fun h => h))
                clear q5 M5 Q5 P5
                go_wp2_with fail
                refine (sent_to p a2 b3 c2 d3 o A' true _ M6.out S16.out).mono ?_
                rintro e y6 ⟨rfl, q6⟩
                have M7 := Kept.mk (M6.out.keeps q6)
                have Q7 := Kept.mk (Q6.out.trans q6)
                have P7 := Kept.mk (P6.out.keeps q6 (fun h => h))
                clear q6 M6 Q6 P6
                go_wp2_with fail
                refine (clean_to p a2 b3 c2 d3 o A' false _ M7.out hcl'.out).mono ?_
                rintro e y7 ⟨rfl, q7⟩
                have M8 := Kept.mk (M7.out.keeps q7)
                have Q8 := Kept.mk (Q7.out.trans q7)
                have P8 := Kept.mk (P7.out.keeps q7 (fun h => h))
                clear q7 M7 Q7 P7
                go_wp2_with fail
                go_roundw
                case rel => exact ⟨k + 1, A', s', b3, d3, by omega, by go_num, by rw [hc'.out], by rw [hf'.out], by rw [hcl'.out], M8.out, HI3.out, P8.out, Q8.out⟩
                case measure => simp [intOf]; omega
              | true =>
                have M0 := H3
                have Q0 := K3
                have P0 := HO4
                clear H3 K3 HO4
                go_wp2_with fail
                refine (sold_to p a2 b3 c2 d3 o A' true _ M0.out S13.out).mono ?_
                rintro e y0 ⟨rfl, q0⟩
                have M1 := Kept.mk (M0.out.keeps q0)
                have Q1 := Kept.mk (Q0.out.trans q0)
                have P1 := Kept.mk (P0.out.keeps q0 (fun h => h))
                clear q0 M0 Q0 P0
                go_wp2_with fail
                refine (sent_to p a2 b3 c2 d3 o A' true _ M1.out S16.out).mono ?_
                rintro e y1 ⟨rfl, q1⟩
                have M2 := Kept.mk (M1.out.keeps q1)
                have Q2 := Kept.mk (Q1.out.trans q1)
                have P2 := Kept.mk (P1.out.keeps q1 (fun h => h))
                clear q1 M1 Q1 P1
                go_wp2_with fail
                refine (sent_to p a2 b3 c2 d3 o A' true _ M2.out S16.out).mono ?_
                rintro e y2 ⟨rfl, q2⟩
                have M3 := Kept.mk (M2.out.keeps q2)
                have Q3 := Kept.mk (Q2.out.trans q2)
                have P3 := Kept.mk (P2.out.keeps q2 (fun h => h))
                clear q2 M2 Q2 P2
                go_wp2_with fail
                refine (sold_to p a2 b3 c2 d3 o A' true _ M3.out S13.out).mono ?_
                rintro e y3 ⟨rfl, q3⟩
                have M4 := Kept.mk (M3.out.keeps q3)
                have Q4 := Kept.mk (Q3.out.trans q3)
                have P4 := Kept.mk (P3.out.keeps q3 (fun h => h))
                clear q3 M3 Q3 P3
                go_wp2_with fail
                refine (sold_to p a2 b3 c2 d3 o A' true _ M4.out S13.out).mono ?_
                rintro e y4 ⟨rfl, q4⟩
                have M5 := Kept.mk (M4.out.keeps q4)
                have Q5 := Kept.mk (Q4.out.trans q4)
                have P5 := Kept.mk (P4.out.keeps q4 (fun h => h))
                clear q4 M4 Q4 P4
                go_wp2_with fail
                refine (clean_to p a2 b3 c2 d3 o A' false _ M5.out hcl'.out).mono ?_
                rintro e y5 ⟨rfl, q5⟩
                have M6 := Kept.mk (M5.out.keeps q5)
                have Q6 := Kept.mk (Q5.out.trans q5)
                have P6 := Kept.mk (P5.out.keeps q5 (fun h => h))
                clear q5 M5 Q5 P5
                go_wp2_with fail
                refine (sold_to p a2 b3 c2 d3 o A' true _ M6.out S13.out).mono ?_
                rintro e y6 ⟨rfl, q6⟩
                have M7 := Kept.mk (M6.out.keeps q6)
                have Q7 := Kept.mk (Q6.out.trans q6)
                have P7 := Kept.mk (P6.out.keeps q6 (fun h => h))
                clear q6 M6 Q6 P6
                go_wp2_with fail
                refine (sent_to p a2 b3 c2 d3 o A' true _ M7.out S16.out).mono ?_
                rintro e y7 ⟨rfl, q7⟩
                have M8 := Kept.mk (M7.out.keeps q7)
                have Q8 := Kept.mk (Q7.out.trans q7)
                have P8 := Kept.mk (P7.out.keeps q7 (fun h => h))
                clear q7 M7 Q7 P7
                go_wp2_with fail
                refine (clean_to p a2 b3 c2 d3 o A' false _ M8.out hcl'.out).mono ?_
                rintro e y8 ⟨rfl, q8⟩
                have M9 := Kept.mk (M8.out.keeps q8)
                have Q9 := Kept.mk (Q8.out.trans q8)
                have P9 := Kept.mk (P8.out.keeps q8 (fun h => h))
                clear q8 M8 Q8 P8
                go_wp2_with fail
                go_roundw
                case rel => exact ⟨k + 1, A', s', b3, d3, by omega, by go_num, by rw [hc'.out], by rw [hf'.out], by rw [hcl'.out], M9.out, HI3.out, P9.out, Q9.out⟩
                case measure => simp [intOf]; omega
      · have HS1 := HM2.out.len
        go_wp2_with fail
        refine (seen_to p a2 b' c2 d' o A _ HM2.out).mono ?_
        rintro e w4 ⟨v, rfl, hv, k4⟩
        obtain ⟨va, vc, rfl, _, _, _, hR, _⟩ := ownsRow_steps hv
        have HR := Kept.mk hR
        have HO5 := HO3.out.keeps k4 (fun h => h)
        have o0 := HO5.cell 0 rfl
        have o1 := HO5.cell 1 rfl
        have o2 := HO5.cell 2 rfl
        have o3 := HO5.cell 3 rfl
        have o4 := HO5.cell 4 rfl
        have o5 := HO5.cell 5 rfl
        have K4 := Kept.mk (HB.out.trans k4)
        have HSt := Kept.mk (HL.out.quiet K4.out)
        have hleg := Kept.mk HI.out.legal
        clear hv hR HO5 k4
        go_wp2_with fail
        refine (legal_of o a va c vc A.length A A.length _ HSt.out HM.out HR.out rfl (by unfold maxLen; omega) hleg.out).mono ?_
        rintro e w5 ⟨rfl, k5⟩
        have B5 := Kept.mk ((K4.out.trans k5).below (Nat.le_refl _) (fun _ h => h.elim))
        clear k5
        go_wp2_with fail
        refine (awake23_any _).mono ?_
        rintro e w6 ⟨rfl, b6⟩
        go_wp2_with fail
        go_ret
        exact ⟨rfl, B5.out.trans (b6.mono B5.out.size)⟩
end Go.Proofs.Ytjlfkpimjjnolaa
