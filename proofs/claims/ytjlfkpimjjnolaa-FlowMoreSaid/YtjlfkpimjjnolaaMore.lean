/- The law FlowMore, walked. (printed by gen/more.py) -/
import Derived.Test.YtjlfkpimjjnolaaAwake6
import Derived.Test.YtjlfkpimjjnolaaJoin
import Derived.Test.YtjlfkpimjjnolaaOrd4
import Derived.Test.YtjlfkpimjjnolaaOpen3
import Derived.Deep.RegionHeld3
namespace Go.Proofs.Ytjlfkpimjjnolaa
open Go.RowKit
theorem more_keep {W : World} {p q : Nat} {T U : TypeId} {v0 v1 v2 v3 v4 v5 u0 u1 : Value} (h : Blk W p T [v0, v1, v2, v3, v4, v5]) (k : Blk W q U [u0, u1]) : W.cell? ⟨p, 0, none⟩ = some v0 ∧ W.cell? ⟨p, 1, none⟩ = some v1 ∧ W.cell? ⟨p, 2, none⟩ = some v2 ∧ W.cell? ⟨p, 3, none⟩ = some v3 ∧ W.cell? ⟨p, 4, none⟩ = some v4 ∧ W.cell? ⟨p, 5, none⟩ = some v5 ∧ W.cell? ⟨q, 0, none⟩ = some u0 ∧ W.cell? ⟨q, 1, none⟩ = some u1 :=
  ⟨h.cell 0 rfl, h.cell 1 rfl, h.cell 2 rfl, h.cell 3 rfl, h.cell 4 rfl, h.cell 5 rfl, k.cell 0 rfl, k.cell 1 rfl⟩
/-- The two orders of the two literals ahead of the first append: p0 is where the empty row lies, p1 where the new act lies. -/
theorem more_two {w wX : World} {L : List Act2} {N cc p0 p1 : Nat} {p : Addr} (kX : Keeps (fun _ => False) w wX) (hE : wX.ownsRow w.heap.size 30 2 (.slice (some ⟨p0, 0, none⟩) 0 0) 0 (([] : List Act2).flatMap encSt)) (hne : p1 ≠ p0) (x : Act2) (hx : AcRow wX (some ⟨p1, 0, none⟩) [x]) (hB : AcRow w (some p) L) (hm : L.length = N) (hs : N ≤ 1000) :
    ∃ a8 c8 w8 a9 c9 w9, AppRun (.slice (some ⟨p0, 0, none⟩) 0 0) (.slice (some p) N cc) wX (.slice a8 N c8) w8 ∧
      AppRun (.slice a8 N c8) (.slice (some ⟨p1, 0, none⟩) 1 1) w8 (.slice a9 (N + 1) c9) w9 ∧
      AcRow w9 a9 (L ++ [x]) ∧ Keeps (fun _ => False) w w8 ∧ Keeps (fun _ => False) w w9 := by
  obtain ⟨a8, c8, w8, h8, own8, k8, nr8⟩ := acs_append (m := N) (r := N) (cc := cc) hE (hB.quiet kX) hm (Nat.zero_add N) (by omega) kX.size
  have kw8 : Keeps (fun _ => False) w w8 := kX.then k8 (fun i hi e => by have := (hE.lt i e).1; omega)
  have hx8 : AcRow w8 (some ⟨p1, 0, none⟩) [x] := hx.keeps k8 (fun z hz e => by
    cases hz
    simp only [Value.ownBlock, Option.some.injEq] at e
    exact hne e.symm)
  obtain ⟨a9, c9, w9, h9, own9, k9, _⟩ := acs_append (m := 1) (cc := 1) (r := N + 1) own8 hx8 rfl rfl (by omega) kw8.size
  obtain ⟨_, _, e9, _, _, _, hR9, _⟩ := ownsRow_steps own9
  simp only [Value.slice.injEq] at e9
  obtain ⟨rfl, _, rfl⟩ := e9
  exact ⟨a8, c8, w8, _, _, w9, ⟨h8⟩, ⟨h9⟩, hR9, kw8, kw8.then k9 (fun i hi e => by have := (own8.lt i e).1; omega)⟩
theorem more_joinB {w : World} {L : List Act2} {N cc : Nat} {p : Addr} (hB : AcRow w (some p) L) (hm : L.length = N) (hs : N ≤ 1000) (x : Act2) :
    ∃ a8 c8 w8 a9 c9 w9, AppRun (.slice (some ⟨w.heap.size, 0, none⟩) 0 0) (.slice (some p) N cc) ((w.alloc (.cells #[] 30)).alloc (.cells #[.int .i64 x.1, .int .i64 x.2] 30)) (.slice a8 N c8) w8 ∧
      AppRun (.slice a8 N c8) (.slice (some ⟨w.heap.size + 1, 0, none⟩) 1 1) w8 (.slice a9 (N + 1) c9) w9 ∧ AcRow w9 a9 (L ++ [x]) ∧ Keeps (fun _ => False) w w8 ∧ Keeps (fun _ => False) w w9 :=
  more_two (((Keeps.refl _ w).alloc _).alloc _) (ownsRow_keeps (World.ownsRow_made w #[] 0 (Nat.le_refl _) (Nat.zero_le _) rfl) ((Keeps.refl (fun _ => False) _).alloc _) (fun _ _ h => h)) (by omega) x (acRow_of_blk (Blk.newT _ 30 [.int .i64 x.1, .int .i64 x.2] _ (by simp))) hB hm hs
theorem more_joinC {w : World} {L : List Act2} {N cc : Nat} {p : Addr} (hB : AcRow w (some p) L) (hm : L.length = N) (hs : N ≤ 1000) (x : Act2) :
    ∃ a8 c8 w8 a9 c9 w9, AppRun (.slice (some ⟨w.heap.size + 1, 0, none⟩) 0 0) (.slice (some p) N cc) ((w.alloc (.cells #[.int .i64 x.1, .int .i64 x.2] 30)).alloc (.cells #[] 30)) (.slice a8 N c8) w8 ∧
      AppRun (.slice a8 N c8) (.slice (some ⟨w.heap.size, 0, none⟩) 1 1) w8 (.slice a9 (N + 1) c9) w9 ∧ AcRow w9 a9 (L ++ [x]) ∧ Keeps (fun _ => False) w w8 ∧ Keeps (fun _ => False) w w9 :=
  more_two (((Keeps.refl _ w).alloc _).alloc _) (by
    have h := World.ownsRow_made (base := w.heap.size) (e := 30) (size := 2) (w.alloc (.cells #[.int .i64 x.1, .int .i64 x.2] 30)) #[] 0 (by simp) (Nat.zero_le _) rfl
    rw [World.size_alloc] at h
    exact h) (by omega) x ((acRow_of_blk (Blk.newT w 30 [.int .i64 x.1, .int .i64 x.2] _ rfl)).quiet ((Keeps.refl _ _).alloc _)) hB hm hs
theorem more_joinA {w : World} {L : List Act2} {N cc : Nat} {p : Addr} (hB : AcRow w (some p) L) (hm : L.length = N) (hs : N ≤ 1000) (x : Act2) :
    ∃ a8 c8 w8 a9 c9 w9, AppRun (.slice (some ⟨w.heap.size, 0, none⟩) 0 0) (.slice (some p) N cc) (w.alloc (.cells #[] 30)) (.slice a8 N c8) w8 ∧
      AppRun (.slice a8 N c8) (.slice (some ⟨w8.heap.size, 0, none⟩) 1 1) (w8.alloc (.cells #[.int .i64 x.1, .int .i64 x.2] 30)) (.slice a9 (N + 1) c9) w9 ∧ AcRow w9 a9 (L ++ [x]) ∧ Keeps (fun _ => False) w w8 ∧ Keeps (fun _ => False) w w9 := by
  obtain ⟨a8, c8, w8, h8, own8, k8⟩ := acs_join (cc := cc) hB hm (by omega)
  have ka : Keeps (fun _ => False) w8 (w8.alloc (.cells #[.int .i64 x.1, .int .i64 x.2] 30)) := (Keeps.refl _ _).alloc _
  obtain ⟨a9, c9, w9, h9, own9, k9, _⟩ := acs_append (m := 1) (cc := 1) (r := N + 1) (ownsRow_keeps own8 ka (fun _ _ h => h)) (acRow_of_blk (A := [x]) (Blk.newT w8 30 [.int .i64 x.1, .int .i64 x.2] _ rfl)) rfl rfl (by omega) (by have := k8.size; have := ka.size; omega)
  obtain ⟨_, _, e9, _, _, _, hR9, _⟩ := ownsRow_steps own9
  simp only [Value.slice.injEq] at e9
  obtain ⟨rfl, _, rfl⟩ := e9
  exact ⟨a8, c8, w8, _, _, w9, ⟨h8⟩, ⟨h9⟩, hR9, k8, (k8.trans ka).then k9 (fun i hi e => by have := (own8.lt i e).1; omega)⟩
theorem more_shipped {o : Ord} {A : List Act2} (h : MInv o A ⟨o.steps.length, 0, false, false, false⟩) : MInv o (A ++ [(13, 0), (16, 0)]) ⟨o.steps.length, 0, true, false, true⟩ := by
  have h1 := h.step (x := (13, 0)) (by simp [Sty.may])
  have h2 := h1.step (x := (16, 0)) (by simp [Sty.may, Sty.note])
  rw [List.append_assoc] at h2
  simpa [Sty.note] using h2
theorem more_no {o : Ord} {A : List Act2} (h : MInv o A ⟨o.steps.length, 0, true, false, true⟩) (x : Act2) : legalN o (A ++ [x]) = A.length := h.stop (by
  obtain ⟨k, s⟩ := x
  unfold Sty.may
  simp only
  repeat' split
  all_goals simp)
theorem more_no2 {o : Ord} {A : List Act2} (h : MInv o A ⟨o.steps.length, o.steps.length, false, true, false⟩) (x : Act2) : legalN o (A ++ [x]) = A.length := h.stop (by
  obtain ⟨k, s⟩ := x
  unfold Sty.may
  simp only
  repeat' split
  all_goals simp)
set_option linter.unusedSimpArgs false in
set_option linter.unusedVariables false in
set_option maxRecDepth 100000 in
set_option maxHeartbeats 16000000 in
theorem more_any (o : Ord) (a : Option Addr) (c : Nat) (ships : Bool) (x1 x2 : Int) (w : World) (hL : StRow w a o.steps) (hc1 : o.steps.length ≤ c) (hc2 : c ≤ maxLen) :
    Calls Try.prog 5 #[.agg #[.int .i64 o.id, .int .i64 o.item, .int .i64 o.qty, .int .i64 o.client, .int .i64 o.price, .slice a o.steps.length c], .bool ships, .agg #[.int .i64 x1, .int .i64 x2]] w (Yes w) := by
  have hm : o.steps.length ≤ maxLen := Nat.le_trans hc1 hc2
  have hmi : (o.steps.length : Int) ≤ 9223372036854775807 := by unfold maxLen at hm; omega
  have HO := Kept.mk ((Blk.new w 24 [.int .i64 o.id, .int .i64 o.item, .int .i64 o.qty, .int .i64 o.client, .int .i64 o.price, .slice a o.steps.length c]).alloc (.cells #[.int .i64 x1, .int .i64 x2] 30))
  have HX := Kept.mk (Blk.newT (w.alloc (.cells #[.int .i64 o.id, .int .i64 o.item, .int .i64 o.qty, .int .i64 o.client, .int .i64 o.price, .slice a o.steps.length c] 24)) 30 [.int .i64 x1, .int .i64 x2] (w.heap.size + 1) (by simp))
  have K0 := Kept.mk (((Keeps.refl (fun _ => False) w).alloc (.cells #[.int .i64 o.id, .int .i64 o.item, .int .i64 o.qty, .int .i64 o.client, .int .i64 o.price, .slice a o.steps.length c] 24)).alloc (.cells #[.int .i64 x1, .int .i64 x2] 30))
  have HL := Kept.mk (hL.quiet K0.out)
  have HC1 := Kept.mk hc1
  have HC2 := Kept.mk hc2
  have HM := Kept.mk hm
  clear hL hm hc1 hc2
  by_cases h10 : (10 : Int) < o.steps.length
  · go_enter Try.func5, Try.ntmps5
    go_wp2_with fail
    refine (awake6_any _).mono ?_
    rintro e w5 ⟨rfl, b5⟩
    go_wp2_with fail
    go_ret
    exact ⟨rfl, (K0.out.below (Nat.le_refl _) (fun _ h => h.elim)).trans (b5.mono K0.out.size)⟩
  cases hmay : o.may with
  | false =>
    have Hmay := Kept.mk hmay
    clear hmay
    go_enter Try.func5, Try.ntmps5
    go_wp2_with fail
    refine (romay_to o a c false _ HL.out HM.out HC1.out HC2.out Hmay.out).mono ?_
    rintro e w1 ⟨rfl, k1⟩
    have B1 := Kept.mk ((K0.out.trans k1).below (Nat.le_refl _) (fun _ h => h.elim))
    clear k1
    go_wp2_with fail
    refine (awake6_any _).mono ?_
    rintro e w5 ⟨rfl, b5⟩
    go_wp2_with fail
    go_ret
    exact ⟨rfl, B1.out.trans (b5.mono B1.out.size)⟩
  | true =>
    have Hmay := Kept.mk hmay
    have hl3 := Ord.may_len hmay
    clear hmay
    go_enter Try.func5, Try.ntmps5
    go_wp2_with fail
    refine (romay_to o a c true _ HL.out HM.out HC1.out HC2.out Hmay.out).mono ?_
    rintro e w1 ⟨rfl, k1⟩
    have K1 := Kept.mk (K0.out.trans k1)
    have HO1 := Kept.mk (HO.out.keeps k1 (fun h => h))
    have HX1 := Kept.mk (HX.out.keeps k1 (fun h => h))
    have HL1 := Kept.mk (HL.out.quiet k1)
    have HI0 := Kept.mk (MInv.zero Hmay.out)
    have o5 := HO1.out.cell 5 rfl
    clear k1 HO HX HL K0
    go_wp2_with fail
    go_loopw [7, 23] (fun v7 i wr => ∃ (k : Nat) (A : List Act2), k ≤ o.steps.length ∧ i = .int .i64 k ∧ wr.ownsRow w1.heap.size 30 2 v7 A.length (A.flatMap encSt) ∧ MInv o A ⟨k, 0, false, false, false⟩ ∧ Keeps (fun _ => False) w1 wr) (fun _ i _ => o.steps.length - (intOf i).toNat)
    case atStart => exact ⟨0, [], Nat.zero_le _, rfl, World.ownsRow_nil _ _ _ _, HI0.out, Keeps.refl _ _⟩
    case round =>
      obtain ⟨k, A, hk, rfl, hv, hI, hK⟩ := hrel
      have HV := Kept.mk hv
      have HI := Kept.mk hI
      have KR := Kept.mk hK
      have hA9 := hI.small
      clear hv hI hK
      by_cases hlt : k < o.steps.length
      · have hki : (k : Int) < (o.steps.length : Int) := by omega
        have ka : Keeps (fun _ => False) wr (wr.alloc (.cells #[.int .i64 2, .int .i64 k] 30)) := (Keeps.refl _ wr).alloc _
        obtain ⟨a3, c3, w3, hrun, hv3, k3, _⟩ := acs_append (m := 1) (cc := 1) (r := A.length + 1) (ownsRow_keeps HV.out ka (fun _ _ h => h)) (acRow_of_blk (A := [(2, (k : Int))]) (Blk.newT wr 30 [.int .i64 2, .int .i64 k] _ rfl)) rfl rfl (by omega) (by have := KR.out.size; have := ka.size; omega)
        have HR := AppRun.mk hrun
        have HV3 := Kept.mk hv3
        have K3 : Kept (Keeps (fun _ => False) w1 w3) := ⟨(KR.out.trans ka).then k3 (fun i hi e => by have := (HV.out.lt i e).1; omega)⟩
        have HI3 : Kept (MInv o (A ++ [(2, (k : Int))]) ⟨(k + 1 : Nat), 0, false, false, false⟩) := ⟨by
          have h1 := HI.out.step (x := (2, (k : Int))) (by simp [Sty.may]; omega)
          simpa [Sty.note] using h1⟩
        clear hrun hv3 k3 ka HV KR
        go_wp2_with (at_builtin; refine wpList_app rfl _ _ rfl rfl rfl rfl HR ?_)
        go_roundw
        case rel => exact ⟨k + 1, A ++ [(2, (k : Int))], by omega, by go_num, by simpa using HV3.out, HI3.out, K3.out⟩
        case measure => simp [intOf]; omega
      · obtain rfl : k = o.steps.length := by omega
        have hkl : ¬ (o.steps.length : Int) < (o.steps.length : Int) := by omega
        obtain ⟨w4, rfl⟩ : ∃ x, x = wr := ⟨_, rfl⟩
        have h14 : w1.heap.size ≤ w4.heap.size := KR.out.size
        cases ships with
        | true =>
          have ka : Keeps (fun _ => False) w4 (w4.alloc (.cells #[.int .i64 13, .int .i64 0, .int .i64 16, .int .i64 0] 30)) := (Keeps.refl _ w4).alloc _
          obtain ⟨N, hN⟩ : ∃ N, A.length + 2 = N := ⟨_, rfl⟩
          obtain ⟨a3, c3, w3, hrun, hv3, k3, _⟩ := acs_append (m := 2) (cc := 2) (ownsRow_keeps HV.out ka (fun _ _ h => h)) (acRow_of_blk (A := [(13, 0), (16, 0)]) (Blk.newT w4 30 [.int .i64 13, .int .i64 0, .int .i64 16, .int .i64 0] _ rfl)) rfl hN (by omega) (by have := ka.size; omega)
          have HR := AppRun.mk hrun
          have K3 : Kept (Keeps (fun _ => False) w1 w3) := ⟨(KR.out.trans ka).then k3 (fun i hi e => by have := (HV.out.lt i e).1; omega)⟩
          have HI9' := more_shipped HI.out
          obtain ⟨L, hLA⟩ : ∃ L, A ++ [(13, 0), (16, 0)] = L := ⟨_, rfl⟩
          have HLN : Kept (L.length = N) := ⟨by rw [← hLA, ← hN]; simp⟩
          rw [hLA] at hv3 HI9'
          have HV3 := Kept.mk hv3
          have HI9 := Kept.mk HI9'
          have HG1 : Kept (legalN o L = N) := ⟨by rw [HI9.out.legal, HLN.out]⟩
          have HG2 : Kept (legalN o (L ++ [(x1, x2)]) = N) := ⟨by rw [more_no HI9.out, HLN.out]⟩
          clear hrun hv3 k3 ka HV KR HI HI9' hLA
          go_wp2_with (at_builtin; refine wpList_app rfl _ _ rfl rfl rfl rfl HR ?_)
          obtain ⟨g7, _, rfl, -, -, -⟩ := ownsRow_blk HV3.out (by omega)
          have hR7 : Kept (AcRow w3 (some ⟨g7, 0, none⟩) L) := ⟨by
            obtain ⟨_, _, e7, _, _, _, h7, _⟩ := ownsRow_steps HV3.out
            simp only [Value.slice.injEq] at e7
            obtain ⟨rfl, _, rfl⟩ := e7
            exact h7⟩
          have HOe := Kept.mk (HO1.out.keeps K3.out (fun h => h))
          have HXe := Kept.mk (HX1.out.keeps K3.out (fun h => h))
          have HLe := Kept.mk (HL1.out.quiet K3.out)
          obtain ⟨we, hwe⟩ : ∃ x, x = w3 := ⟨_, rfl⟩
          have KC : Kept (Keeps (fun _ => False) w3 w3.drew) := ⟨(Keeps.refl _ _).drew⟩
          have hN9 : N ≤ 9 := by have := HI9.out.small; have := HLN.out; omega
          clear hwe
          go_wp2_with fail
          go_region_held3 (fun W => W.cell? ⟨w.heap.size, 0, none⟩ = some (.int .i64 o.id) ∧ W.cell? ⟨w.heap.size, 1, none⟩ = some (.int .i64 o.item) ∧ W.cell? ⟨w.heap.size, 2, none⟩ = some (.int .i64 o.qty) ∧ W.cell? ⟨w.heap.size, 3, none⟩ = some (.int .i64 o.client) ∧ W.cell? ⟨w.heap.size, 4, none⟩ = some (.int .i64 o.price) ∧ W.cell? ⟨w.heap.size, 5, none⟩ = some (.slice a o.steps.length c) ∧ W.cell? ⟨w.heap.size + 1, 0, none⟩ = some (.int .i64 x1) ∧ W.cell? ⟨w.heap.size + 1, 1, none⟩ = some (.int .i64 x2)) (refine more_keep (HOe.out.keeps (S := fun _ => False) ?_ (fun h => h)) (HXe.out.keeps (S := fun _ => False) ?_ (fun h => h)) <;> (first | exact KC.out | exact KC.out.alloc _ | exact (KC.out.alloc _).alloc _ | exact K8a.out | exact K8a.out.alloc _ | exact K9a.out | exact K8b.out | exact K9b.out | exact K8c.out | exact K9c.out)) (first
            | (go_at_call 12; with_reducible refine (legal_of o a _ c _ (N + 1) (L ++ [(x1, x2)]) N _ (HLe.out.quiet K9a.out) HM.out hR9a.out (by simp [HLN.out]) (by unfold maxLen; omega) HG2.out).mono ?_; rintro e w16 ⟨rfl, k16⟩; have KC := Kept.mk (K9a.out.trans k16); clear k16)
            | (go_at_call 12; with_reducible refine (legal_of o a _ c _ (N + 1) (L ++ [(x1, x2)]) N _ (HLe.out.quiet K9b.out) HM.out hR9b.out (by simp [HLN.out]) (by unfold maxLen; omega) HG2.out).mono ?_; rintro e w16 ⟨rfl, k16⟩; have KC := Kept.mk (K9b.out.trans k16); clear k16)
            | (go_at_call 12; with_reducible refine (legal_of o a _ c _ (N + 1) (L ++ [(x1, x2)]) N _ (HLe.out.quiet K9c.out) HM.out hR9c.out (by simp [HLN.out]) (by unfold maxLen; omega) HG2.out).mono ?_; rintro e w16 ⟨rfl, k16⟩; have KC := Kept.mk (K9c.out.trans k16); clear k16)
            | (go_at_call 12; with_reducible refine (legal_of o a _ c _ N L N _ (HLe.out.quiet KC.out) HM.out (hR7.out.quiet KC.out) HLN.out (by unfold maxLen; omega) HG1.out).mono ?_; rintro e w6 ⟨rfl, k6⟩; have KC := Kept.mk (KC.out.trans k6); have hj := more_joinA (cc := c3) (hR7.out.quiet KC.out) HLN.out (by omega) (x1, x2); obtain ⟨a8a, c8a, w8a, a9a, c9a, w9a, hrun8a, hrun9a, hr9a, k8a, k9a⟩ := hj; have hR9a := Kept.mk hr9a; have K8a := Kept.mk (KC.out.trans k8a); have K9a := Kept.mk (KC.out.trans k9a); clear hr9a k8a k9a; have hj := more_joinB (cc := c3) (hR7.out.quiet KC.out) HLN.out (by omega) (x1, x2); obtain ⟨a8b, c8b, w8b, a9b, c9b, w9b, hrun8b, hrun9b, hr9b, k8b, k9b⟩ := hj; have hR9b := Kept.mk hr9b; have K8b := Kept.mk (KC.out.trans k8b); have K9b := Kept.mk (KC.out.trans k9b); clear hr9b k8b k9b; have hj := more_joinC (cc := c3) (hR7.out.quiet KC.out) HLN.out (by omega) (x1, x2); obtain ⟨a8c, c8c, w8c, a9c, c9c, w9c, hrun8c, hrun9c, hr9c, k8c, k9c⟩ := hj; have hR9c := Kept.mk hr9c; have K8c := Kept.mk (KC.out.trans k8c); have K9c := Kept.mk (KC.out.trans k9c); clear hr9c k8c k9c; clear k6)
            | (refine step_app (by simp [Region.wanted, yielded]) _ _ rfl rfl rfl rfl hrun9a ?_)
            | (refine step_app (by simp [Region.wanted, yielded]) _ _ rfl rfl rfl rfl hrun9b ?_)
            | (refine step_app (by simp [Region.wanted, yielded]) _ _ rfl rfl rfl rfl hrun9c ?_)
            | (refine step_app (by simp [Region.wanted, yielded]) _ _ rfl rfl rfl rfl hrun8a ?_)
            | (refine step_app (by simp [Region.wanted, yielded]) _ _ rfl rfl rfl rfl hrun8b ?_)
            | (refine step_app (by simp [Region.wanted, yielded]) _ _ rfl rfl rfl rfl hrun8c ?_)
            | (go_at_call 11; refine (awake6_any _).mono ?_; rintro e w' ⟨rfl, b'⟩; have KC := Kept.mk (KC.out.trans (Keeps.of_below b' _)); clear b'))
          all_goals
            go_wp2_with fail
            go_ret
            exact ⟨rfl, ((K1.out.trans K3.out).trans KC.out).below (Nat.le_refl _) (fun _ h => h.elim)⟩
        | false =>
          have ka : Keeps (fun _ => False) w4 (w4.alloc (.cells #[.int .i64 14, .int .i64 0] 30)) := (Keeps.refl _ w4).alloc _
          obtain ⟨a3, c3, w3, hrun, hv3, k3, _⟩ := acs_append (m := 1) (cc := 1) (r := A.length + 1) (ownsRow_keeps HV.out ka (fun _ _ h => h)) (acRow_of_blk (A := [(14, 0)]) (Blk.newT w4 30 [.int .i64 14, .int .i64 0] _ rfl)) rfl rfl (by omega) (by have := ka.size; omega)
          have HR := AppRun.mk hrun
          have K3 : Kept (Keeps (fun _ => False) w1 w3) := ⟨(KR.out.trans ka).then k3 (fun i hi e => by have := (HV.out.lt i e).1; omega)⟩
          have HI3 : Kept (MInv o (A ++ [(14, 0)]) ⟨o.steps.length, 0, false, true, false⟩) := ⟨by
            have h1 := HI.out.step (x := (14, 0)) (by simp [Sty.may])
            simpa [Sty.note] using h1⟩
          have HV3 := Kept.mk hv3
          have y5 := (HO1.out.keeps K3.out (fun h => h)).cell 5 rfl
          clear hrun hv3 k3 ka HV KR HI o5
          go_wp2_with (at_builtin; refine wpList_app rfl _ _ rfl rfl rfl rfl HR ?_)
          go_loopw [7, 9] (fun v7 i wr => ∃ (u : Nat) (A : List Act2), u ≤ o.steps.length ∧ (∃ q : Int, q = (o.steps.length : Int) - 1 - u ∧ i = .int .i64 q) ∧ wr.ownsRow w1.heap.size 30 2 v7 A.length (A.flatMap encSt) ∧ MInv o A ⟨o.steps.length, u, false, true, false⟩ ∧ Keeps (fun _ => False) w1 wr) (fun _ i _ => (intOf i + 1).toNat)
          case atStart => exact ⟨0, _, Nat.zero_le _, ⟨_, by omega, rfl⟩, by simpa using HV3.out, HI3.out, K3.out⟩
          case round =>
            obtain ⟨u, A, hu, ⟨q, hq, rfl⟩, hv, hI, hK⟩ := hrel
            have HV := Kept.mk hv
            have HI := Kept.mk hI
            have KR := Kept.mk hK
            have hA9 := hI.small
            clear hv hI hK HV3 HI3 K3 y5
            by_cases hlt : u < o.steps.length
            · obtain ⟨m, hm2⟩ : ∃ m, m = o.steps.length - 1 - u := ⟨_, rfl⟩
              obtain rfl : q = (m : Int) := by omega
              have ka : Keeps (fun _ => False) wr (wr.alloc (.cells #[.int .i64 5, .int .i64 m] 30)) := (Keeps.refl _ wr).alloc _
              obtain ⟨a3, c3, w3, hrun, hv3, k3, _⟩ := acs_append (m := 1) (cc := 1) (r := A.length + 1) (ownsRow_keeps HV.out ka (fun _ _ h => h)) (acRow_of_blk (A := [(5, (m : Int))]) (Blk.newT wr 30 [.int .i64 5, .int .i64 m] _ rfl)) rfl rfl (by omega) (by have := KR.out.size; have := ka.size; omega)
              have HR := AppRun.mk hrun
              have HV3 := Kept.mk hv3
              have K3 : Kept (Keeps (fun _ => False) w1 w3) := ⟨(KR.out.trans ka).then k3 (fun i hi e => by have := (HV.out.lt i e).1; omega)⟩
              have HI3 : Kept (MInv o (A ++ [(5, (m : Int))]) ⟨o.steps.length, (u + 1 : Nat), false, true, false⟩) := ⟨by
                have h1 := HI.out.step (x := (5, (m : Int))) (by simp [Sty.may]; omega)
                simpa [Sty.note] using h1⟩
              have HM2 := Kept.mk hm2
              have hmn : (m : Int) ≤ 3 := by omega
              clear hrun hv3 k3 ka HV KR hq hm2
              go_wp2_with (at_builtin; refine wpList_app rfl _ _ rfl rfl rfl rfl HR ?_)
              go_roundw
              case rel => exact ⟨u + 1, A ++ [(5, (m : Int))], by omega, ⟨_, by have := HM2.out; omega, rfl⟩, by simpa using HV3.out, HI3.out, K3.out⟩
              case measure => simp [intOf]
            · obtain rfl : u = o.steps.length := by omega
              obtain rfl : q = -1 := by omega
              obtain ⟨w9, rfl⟩ : ∃ x, x = wr := ⟨_, rfl⟩
              obtain ⟨N, hN⟩ : ∃ N, A.length = N := ⟨_, rfl⟩
              obtain ⟨va, vc, rfl, _, _, _, _, _⟩ := ownsRow_steps HV.out
              obtain ⟨L, hLA⟩ : ∃ L, L = A := ⟨_, rfl⟩
              have HLN : Kept (L.length = N) := ⟨by rw [hLA, hN]⟩
              have HV4 : Kept (w9.ownsRow w1.heap.size 30 2 (.slice va N vc) N (L.flatMap encSt)) := ⟨by rw [hLA, ← hN]; exact HV.out⟩
              have HI9 : Kept (MInv o L ⟨o.steps.length, o.steps.length, false, true, false⟩) := ⟨by rw [hLA]; exact HI.out⟩
              have hNp : 0 < N := by
                have h14 : hasAct A 14 0 = true := by rw [HI.out.h14]; simp
                rw [← hN]
                cases A with
                | nil => simp [hasAct] at h14
                | cons y ys => simp
              have HG1 : Kept (legalN o L = N) := ⟨by rw [HI9.out.legal, HLN.out]⟩
              have HG2 : Kept (legalN o (L ++ [(x1, x2)]) = N) := ⟨by rw [more_no2 HI9.out, HLN.out]⟩
              rw [hN]
              clear HV HI hLA hN hA9 hq
              go_wp2_with fail
              obtain ⟨g7, _, rfl, -, -, -⟩ := ownsRow_blk HV4.out hNp
              have hR7 : Kept (AcRow w9 (some ⟨g7, 0, none⟩) L) := ⟨by
                obtain ⟨_, _, e7, _, _, _, h7, _⟩ := ownsRow_steps HV4.out
                simp only [Value.slice.injEq] at e7
                obtain ⟨rfl, _, rfl⟩ := e7
                exact h7⟩
              have HOe := Kept.mk (HO1.out.keeps KR.out (fun h => h))
              have HXe := Kept.mk (HX1.out.keeps KR.out (fun h => h))
              have HLe := Kept.mk (HL1.out.quiet KR.out)
              obtain ⟨we, hwe⟩ : ∃ x, x = w9 := ⟨_, rfl⟩
              have KC : Kept (Keeps (fun _ => False) w9 w9.drew) := ⟨(Keeps.refl _ _).drew⟩
              have hN9 : N ≤ 9 := by have := HI9.out.small; have := HLN.out; omega
              clear hwe
              go_wp2_with fail
              go_region_held3 (fun W => W.cell? ⟨w.heap.size, 0, none⟩ = some (.int .i64 o.id) ∧ W.cell? ⟨w.heap.size, 1, none⟩ = some (.int .i64 o.item) ∧ W.cell? ⟨w.heap.size, 2, none⟩ = some (.int .i64 o.qty) ∧ W.cell? ⟨w.heap.size, 3, none⟩ = some (.int .i64 o.client) ∧ W.cell? ⟨w.heap.size, 4, none⟩ = some (.int .i64 o.price) ∧ W.cell? ⟨w.heap.size, 5, none⟩ = some (.slice a o.steps.length c) ∧ W.cell? ⟨w.heap.size + 1, 0, none⟩ = some (.int .i64 x1) ∧ W.cell? ⟨w.heap.size + 1, 1, none⟩ = some (.int .i64 x2)) (refine more_keep (HOe.out.keeps (S := fun _ => False) ?_ (fun h => h)) (HXe.out.keeps (S := fun _ => False) ?_ (fun h => h)) <;> (first | exact KC.out | exact KC.out.alloc _ | exact (KC.out.alloc _).alloc _ | exact K8a.out | exact K8a.out.alloc _ | exact K9a.out | exact K8b.out | exact K9b.out | exact K8c.out | exact K9c.out)) (first
                | (go_at_call 12; with_reducible refine (legal_of o a _ c _ (N + 1) (L ++ [(x1, x2)]) N _ (HLe.out.quiet K9a.out) HM.out hR9a.out (by simp [HLN.out]) (by unfold maxLen; omega) HG2.out).mono ?_; rintro e w16 ⟨rfl, k16⟩; have KC := Kept.mk (K9a.out.trans k16); clear k16)
                | (go_at_call 12; with_reducible refine (legal_of o a _ c _ (N + 1) (L ++ [(x1, x2)]) N _ (HLe.out.quiet K9b.out) HM.out hR9b.out (by simp [HLN.out]) (by unfold maxLen; omega) HG2.out).mono ?_; rintro e w16 ⟨rfl, k16⟩; have KC := Kept.mk (K9b.out.trans k16); clear k16)
                | (go_at_call 12; with_reducible refine (legal_of o a _ c _ (N + 1) (L ++ [(x1, x2)]) N _ (HLe.out.quiet K9c.out) HM.out hR9c.out (by simp [HLN.out]) (by unfold maxLen; omega) HG2.out).mono ?_; rintro e w16 ⟨rfl, k16⟩; have KC := Kept.mk (K9c.out.trans k16); clear k16)
                | (go_at_call 12; with_reducible refine (legal_of o a _ c _ N L N _ (HLe.out.quiet KC.out) HM.out (hR7.out.quiet KC.out) HLN.out (by unfold maxLen; omega) HG1.out).mono ?_; rintro e w6 ⟨rfl, k6⟩; have KC := Kept.mk (KC.out.trans k6); have hj := more_joinA (cc := vc) (hR7.out.quiet KC.out) HLN.out (by omega) (x1, x2); obtain ⟨a8a, c8a, w8a, a9a, c9a, w9a, hrun8a, hrun9a, hr9a, k8a, k9a⟩ := hj; have hR9a := Kept.mk hr9a; have K8a := Kept.mk (KC.out.trans k8a); have K9a := Kept.mk (KC.out.trans k9a); clear hr9a k8a k9a; have hj := more_joinB (cc := vc) (hR7.out.quiet KC.out) HLN.out (by omega) (x1, x2); obtain ⟨a8b, c8b, w8b, a9b, c9b, w9b, hrun8b, hrun9b, hr9b, k8b, k9b⟩ := hj; have hR9b := Kept.mk hr9b; have K8b := Kept.mk (KC.out.trans k8b); have K9b := Kept.mk (KC.out.trans k9b); clear hr9b k8b k9b; have hj := more_joinC (cc := vc) (hR7.out.quiet KC.out) HLN.out (by omega) (x1, x2); obtain ⟨a8c, c8c, w8c, a9c, c9c, w9c, hrun8c, hrun9c, hr9c, k8c, k9c⟩ := hj; have hR9c := Kept.mk hr9c; have K8c := Kept.mk (KC.out.trans k8c); have K9c := Kept.mk (KC.out.trans k9c); clear hr9c k8c k9c; clear k6)
                | (refine step_app (by simp [Region.wanted, yielded]) _ _ rfl rfl rfl rfl hrun9a ?_)
                | (refine step_app (by simp [Region.wanted, yielded]) _ _ rfl rfl rfl rfl hrun9b ?_)
                | (refine step_app (by simp [Region.wanted, yielded]) _ _ rfl rfl rfl rfl hrun9c ?_)
                | (refine step_app (by simp [Region.wanted, yielded]) _ _ rfl rfl rfl rfl hrun8a ?_)
                | (refine step_app (by simp [Region.wanted, yielded]) _ _ rfl rfl rfl rfl hrun8b ?_)
                | (refine step_app (by simp [Region.wanted, yielded]) _ _ rfl rfl rfl rfl hrun8c ?_)
                | (go_at_call 11; refine (awake6_any _).mono ?_; rintro e w' ⟨rfl, b'⟩; have KC := Kept.mk (KC.out.trans (Keeps.of_below b' _)); clear b'))
              all_goals
                go_wp2_with fail
                go_ret
                exact ⟨rfl, ((K1.out.trans KR.out).trans KC.out).below (Nat.le_refl _) (fun _ h => h.elim)⟩
end Go.Proofs.Ytjlfkpimjjnolaa
