/- The law FlowLate, walked. (printed by gen/late.py) -/
import Derived.Test.YtjlfkpimjjnolaaAwake6
import Derived.Test.YtjlfkpimjjnolaaJoin
import Derived.Test.YtjlfkpimjjnolaaOrd4
import Derived.Test.YtjlfkpimjjnolaaOpen3
namespace Go.Proofs.Ytjlfkpimjjnolaa
open Go.RowKit
theorem late_legal {o : Ord} (h : o.may = true) (h2 : ¬ (o.steps.length : Int) < 2) : legalN o [(2, 0), (14, 0), (2, 1)] = 3 ∧ legalN o ([(2, 0), (14, 0), (2, 1)] ++ [(5, 0)]) = 3 ∧ legalN o ([(2, 0), (14, 0), (2, 1)] ++ [(5, 1), (5, 0)]) = 5 ∧ legalN o [(2, 0), (14, 0), (5, 0), (2, 1)] = 3 := by
  have hl3 := Ord.may_len h
  unfold legalN
  simp only [if_pos h]
  rcases (show o.steps.length = 2 ∨ o.steps.length = 3 by omega) with e | e
  all_goals
    rw [e]
    decide
set_option linter.unusedSimpArgs false in
set_option linter.unusedVariables false in
set_option maxRecDepth 100000 in
set_option maxHeartbeats 16000000 in
theorem late_any (o : Ord) (a : Option Addr) (c : Nat) (w : World) (hL : StRow w a o.steps) (hc1 : o.steps.length ≤ c) (hc2 : c ≤ maxLen) :
    Calls Try.prog 6 #[.agg #[.int .i64 o.id, .int .i64 o.item, .int .i64 o.qty, .int .i64 o.client, .int .i64 o.price, .slice a o.steps.length c]] w (Yes w) := by
  have hm : o.steps.length ≤ maxLen := Nat.le_trans hc1 hc2
  have hmi : (o.steps.length : Int) ≤ 9223372036854775807 := by unfold maxLen at hm; omega
  have HO := Kept.mk (Blk.new w 24 [.int .i64 o.id, .int .i64 o.item, .int .i64 o.qty, .int .i64 o.client, .int .i64 o.price, .slice a o.steps.length c])
  have K0 := Kept.mk ((Keeps.refl (fun _ => False) w).alloc (.cells #[.int .i64 o.id, .int .i64 o.item, .int .i64 o.qty, .int .i64 o.client, .int .i64 o.price, .slice a o.steps.length c] 24))
  have HL := Kept.mk hL
  have HC1 := Kept.mk hc1
  have HC2 := Kept.mk hc2
  have HM := Kept.mk hm
  clear hL hm hc1 hc2
  by_cases h10 : (10 : Int) < o.steps.length
  · go_enter Try.func6, Try.ntmps6
    go_wp2_with fail
    refine (awake6_any _).mono ?_
    rintro e w5 ⟨rfl, b5⟩
    go_wp2_with fail
    go_ret
    exact ⟨rfl, ((Below.refl _ w).alloc (Nat.le_refl _) _).trans (b5.mono (by simp))⟩
  cases hmay : o.may with
  | false =>
    have Hmay := Kept.mk hmay
    clear hmay
    go_enter Try.func6, Try.ntmps6
    go_wp2_with fail
    refine (romay_to o a c false _ (HL.out.alloc _) HM.out HC1.out HC2.out Hmay.out).mono ?_
    rintro e w1 ⟨rfl, k1⟩
    have B1 := Kept.mk ((K0.out.trans k1).below (Nat.le_refl _) (fun _ h => h.elim))
    clear k1
    go_wp2_with fail
    refine (awake6_any _).mono ?_
    rintro e w5 ⟨rfl, b5⟩
    go_wp2_with fail
    go_ret
    exact ⟨rfl, B1.out.trans (b5.mono B1.out.size)⟩
  | true =>
    have Hmay := Kept.mk hmay
    have hl3 := Ord.may_len hmay
    clear hmay
    go_enter Try.func6, Try.ntmps6
    go_wp2_with fail
    refine (romay_to o a c true _ (HL.out.alloc _) HM.out HC1.out HC2.out Hmay.out).mono ?_
    rintro e w1 ⟨rfl, k1⟩
    have K1 := Kept.mk (K0.out.trans k1)
    have HO1 := Kept.mk (HO.out.keeps k1 (fun h => h))
    have x5 := HO1.out.cell 5 rfl
    clear k1
    by_cases h2 : (o.steps.length : Int) < 2
    · go_wp2_with fail
      refine (awake6_any _).mono ?_
      rintro e w5 ⟨rfl, b5⟩
      go_wp2_with fail
      go_ret
      exact ⟨rfl, (K1.out.below (Nat.le_refl _) (fun _ h => h.elim)).trans (b5.mono K1.out.size)⟩
    have HG := Kept.mk (late_legal Hmay.out h2)
    -- the four rows
    have kA : Keeps (fun _ => False) w1 (w1.alloc (.cells #[.int .i64 2, .int .i64 0, .int .i64 14, .int .i64 0, .int .i64 2, .int .i64 1] 30)) := (Keeps.refl _ w1).alloc _
    have hA : AcRow (w1.alloc (.cells #[.int .i64 2, .int .i64 0, .int .i64 14, .int .i64 0, .int .i64 2, .int .i64 1] 30)) (some ⟨w1.heap.size, 0, none⟩) [(2, 0), (14, 0), (2, 1)] := acRow_of_blk (Blk.newT w1 30 [.int .i64 2, .int .i64 0, .int .i64 14, .int .i64 0, .int .i64 2, .int .i64 1] _ rfl)
    obtain ⟨a2, c2, w2, run2, own2, k2⟩ := acs_join (m := 3) (cc := 3) hA rfl (by omega)
    rw [World.size_alloc] at run2
    have k3 : Keeps (fun _ => False) w2 (w2.alloc (.cells #[.int .i64 5, .int .i64 0] 30)) := (Keeps.refl _ w2).alloc _
    obtain ⟨a4, c4, w4, run4, own4, k4, _⟩ := acs_append (m := 1) (cc := 1) (r := 4) (ownsRow_keeps own2 k3 (fun _ _ h => h)) (acRow_of_blk (A := [(5, 0)]) (Blk.newT w2 30 [.int .i64 5, .int .i64 0] _ rfl)) rfl rfl (by omega) (by have := k2.size; have := k3.size; omega)
    have k24 : Keeps (fun _ => False) w1 w4 := (((kA.trans k2).trans k3)).then k4 (fun i hi e => by have := (own2.lt i e).1; have := kA.size; omega)
    have hA4 : AcRow w4 (some ⟨w1.heap.size, 0, none⟩) [(2, 0), (14, 0), (2, 1)] := hA.quiet ((k2.trans k3).then k4 (fun i hi e => by have := (own2.lt i e).1; omega))
    obtain ⟨a5, c5, w5, run5, own5, k5⟩ := acs_join (m := 3) (cc := 3) hA4 rfl (by omega)
    have k6 : Keeps (fun _ => False) w5 (w5.alloc (.cells #[.int .i64 5, .int .i64 1, .int .i64 5, .int .i64 0] 30)) := (Keeps.refl _ w5).alloc _
    obtain ⟨a7, c7, w7, run7, own7, k7, _⟩ := acs_append (m := 2) (cc := 2) (r := 5) (ownsRow_keeps own5 k6 (fun _ _ h => h)) (acRow_of_blk (A := [(5, 1), (5, 0)]) (Blk.newT w5 30 [.int .i64 5, .int .i64 1, .int .i64 5, .int .i64 0] _ rfl)) rfl rfl (by omega) (by have := k5.size; have := k6.size; omega)
    have k47 : Keeps (fun _ => False) w4 w7 := (k5.trans k6).then k7 (fun i hi e => by have := (own5.lt i e).1; omega)
    obtain ⟨_, _, e4, _, _, _, hR4, _⟩ := ownsRow_steps own4
    obtain ⟨_, _, e7, _, _, _, hR7, _⟩ := ownsRow_steps own7
    simp only [Value.slice.injEq] at e4 e7
    obtain ⟨rfl, _, rfl⟩ := e4
    obtain ⟨rfl, _, rfl⟩ := e7
    have k8 : Keeps (fun _ => False) w7 (w7.alloc (.cells #[.int .i64 2, .int .i64 0, .int .i64 14, .int .i64 0, .int .i64 5, .int .i64 0, .int .i64 2, .int .i64 1] 30)) := (Keeps.refl _ w7).alloc _
    have KW := Kept.mk ((K1.out.trans k24).trans (k47.trans k8))
    have HO8 := Kept.mk (HO1.out.keeps (k24.trans (k47.trans k8)) (fun h => h))
    have R1 := Kept.mk (hA4.quiet (k47.trans k8))
    have R2 := Kept.mk (hR4.quiet (k47.trans k8))
    have R3 := Kept.mk (hR7.quiet k8)
    have R4 : Kept (AcRow (w7.alloc (.cells #[.int .i64 2, .int .i64 0, .int .i64 14, .int .i64 0, .int .i64 5, .int .i64 0, .int .i64 2, .int .i64 1] 30)) (some ⟨w7.heap.size, 0, none⟩) [(2, 0), (14, 0), (5, 0), (2, 1)]) := ⟨acRow_of_blk (Blk.newT w7 30 [.int .i64 2, .int .i64 0, .int .i64 14, .int .i64 0, .int .i64 5, .int .i64 0, .int .i64 2, .int .i64 1] _ rfl)⟩
    have HL8 := Kept.mk (HL.out.quiet KW.out)
    have HR2 := AppRun.mk run2
    have HR4 := AppRun.mk run4
    have HR5 := AppRun.mk run5
    have HR7 := AppRun.mk run7
    obtain ⟨y0, y1, y2, y3, y4, y5⟩ : _ ∧ _ ∧ _ ∧ _ ∧ _ ∧ _ := ⟨HO8.out.cell 0 rfl, HO8.out.cell 1 rfl, HO8.out.cell 2 rfl, HO8.out.cell 3 rfl, HO8.out.cell 4 rfl, HO8.out.cell 5 rfl⟩
    clear hA own2 k2 k3 own4 k4 k24 hA4 own5 k5 k6 own7 k7 k47 hR4 hR7 k8 kA run2 run4 run5 run7
    go_wp2_with (first
      | (at_builtin; refine wpList_app rfl _ _ rfl rfl rfl rfl HR2 ?_)
      | (at_builtin; refine wpList_app rfl _ _ rfl rfl rfl rfl HR4 ?_)
      | (at_builtin; refine wpList_app rfl _ _ rfl rfl rfl rfl HR5 ?_)
      | (at_builtin; refine wpList_app rfl _ _ rfl rfl rfl rfl HR7 ?_))

    refine (legal_of o a (some ⟨w1.heap.size, 0, none⟩) c _ 3 [(2, 0), (14, 0), (2, 1)] 3 _ HL8.out HM.out R1.out rfl (by unfold maxLen; omega) HG.out.1).mono ?_
    rintro e w10 ⟨rfl, kx⟩
    have KX := Kept.mk (kx)
    have HOx := HO8.out.keeps KX.out (fun h => h)
    clear y0 y1 y2 y3 y4 y5
    obtain ⟨y0, y1, y2, y3, y4, y5⟩ : _ ∧ _ ∧ _ ∧ _ ∧ _ ∧ _ := ⟨HOx.cell 0 rfl, HOx.cell 1 rfl, HOx.cell 2 rfl, HOx.cell 3 rfl, HOx.cell 4 rfl, HOx.cell 5 rfl⟩
    clear HOx kx
    go_wp2_with fail
    refine (legal_of o a (a4) c _ 4 ([(2, 0), (14, 0), (2, 1)] ++ [(5, 0)]) 3 _ (HL8.out.quiet KX.out) HM.out (R2.out.quiet KX.out) rfl (by unfold maxLen; omega) HG.out.2.1).mono ?_
    rintro e w11 ⟨rfl, kx⟩
    have KX := Kept.mk (KX.out.trans kx)
    have HOx := HO8.out.keeps KX.out (fun h => h)
    clear y0 y1 y2 y3 y4 y5
    obtain ⟨y0, y1, y2, y3, y4, y5⟩ : _ ∧ _ ∧ _ ∧ _ ∧ _ ∧ _ := ⟨HOx.cell 0 rfl, HOx.cell 1 rfl, HOx.cell 2 rfl, HOx.cell 3 rfl, HOx.cell 4 rfl, HOx.cell 5 rfl⟩
    clear HOx kx
    go_wp2_with fail
    refine (legal_of o a (a7) c _ 5 ([(2, 0), (14, 0), (2, 1)] ++ [(5, 1), (5, 0)]) 5 _ (HL8.out.quiet KX.out) HM.out (R3.out.quiet KX.out) rfl (by unfold maxLen; omega) HG.out.2.2.1).mono ?_
    rintro e w12 ⟨rfl, kx⟩
    have KX := Kept.mk (KX.out.trans kx)
    have HOx := HO8.out.keeps KX.out (fun h => h)
    clear y0 y1 y2 y3 y4 y5
    obtain ⟨y0, y1, y2, y3, y4, y5⟩ : _ ∧ _ ∧ _ ∧ _ ∧ _ ∧ _ := ⟨HOx.cell 0 rfl, HOx.cell 1 rfl, HOx.cell 2 rfl, HOx.cell 3 rfl, HOx.cell 4 rfl, HOx.cell 5 rfl⟩
    clear HOx kx
    go_wp2_with fail
    refine (legal_of o a (some ⟨w7.heap.size, 0, none⟩) c _ 4 [(2, 0), (14, 0), (5, 0), (2, 1)] 3 _ (HL8.out.quiet KX.out) HM.out (R4.out.quiet KX.out) rfl (by unfold maxLen; omega) HG.out.2.2.2).mono ?_
    rintro e w13 ⟨rfl, kx⟩
    have KX := Kept.mk (KX.out.trans kx)
    clear kx y0 y1 y2 y3 y4 y5
    go_wp2_with fail
    refine (awake6_any _).mono ?_
    rintro e w20 ⟨rfl, b20⟩
    go_wp2_with fail
    go_ret
    exact ⟨rfl, ((KW.out.trans KX.out).below (Nat.le_refl _) (fun _ h => h.elim)).trans (b20.mono (KW.out.trans KX.out).size)⟩
end Go.Proofs.Ytjlfkpimjjnolaa
