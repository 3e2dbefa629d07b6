/- Package saga's ends, State, Over, walked. (printed by gen/sagaends.py) -/
import Derived.Test.YtfcnegnkmacajaaFacts
namespace Go.Proofs.Ytfcnegnkmacajaa
open Go.RowKit
def Fct.ends (f : Fct) : Int := if f.turned && (f.a0 && f.a1) && !hasB f.undone false then 6 else if f.turned then 4 else if f.yes && (f.a0 && f.a1) && f.shipped then 5 else if f.yes then 3 else if f.asked then 2 else 1
def Fct.state (o : Ord) (f : Fct) : Int := if f.may o = false then 0 else if (f.d0 || f.d1) && !f.acc then 7 else f.ends
def Fct.over (o : Ord) (f : Fct) : Bool := f.may o && (f.ends == 5 || f.ends == 6)
set_option maxRecDepth 100000 in
set_option maxHeartbeats 8000000 in
theorem ends_to (da ua : Option Addr) (dc uc : Nat) (f : Fct) (r : Int) (w : World) (h : BlRow w ua f.undone) (hm : f.undone.length ≤ maxLen) (hr : f.ends = r) :
    Calls Try.prog 30 #[.agg #[.slice da f.done.length dc, .slice ua f.undone.length uc, .bool f.asked, .bool f.yes, .bool f.turned, .bool f.a0, .bool f.a1, .bool f.shipped, .bool f.d0, .bool f.d1, .bool f.acc]] w (fun e w' => e = .returned (.int .i64 r) ∧ Keeps (fun _ => False) w w') := by
  subst hr
  obtain ⟨done, undone, asked, yes, turned, a0, a1, shipped, d0, d1, acc⟩ := f
  simp only at h hm ⊢
  have HU := Kept.mk (h.alloc (.cells #[.slice da done.length dc, .slice ua undone.length uc, .bool asked, .bool yes, .bool turned, .bool a0, .bool a1, .bool shipped, .bool d0, .bool d1, .bool acc] 31))
  have HM := Kept.mk hm
  have hb := Kept.mk (Blk.new w 31 [.slice da done.length dc, .slice ua undone.length uc, .bool asked, .bool yes, .bool turned, .bool a0, .bool a1, .bool shipped, .bool d0, .bool d1, .bool acc])
  clear h hm
  cases turned with
  | false =>
    cases yes with
    | false =>
      cases asked with
      | false =>
        have hres : Kept (Fct.ends ⟨done, undone, false, false, false, a0, a1, shipped, d0, d1, acc⟩ = 1) := ⟨by simp [Fct.ends]⟩
        rw [hres.out]
        go_enter Try.func30, Try.ntmps30
        go_wp2_with fail
        go_ret
        exact ⟨rfl, (Keeps.refl _ w).alloc _⟩
      | true =>
        have hres : Kept (Fct.ends ⟨done, undone, true, false, false, a0, a1, shipped, d0, d1, acc⟩ = 2) := ⟨by simp [Fct.ends]⟩
        rw [hres.out]
        go_enter Try.func30, Try.ntmps30
        go_wp2_with fail
        go_ret
        exact ⟨rfl, (Keeps.refl _ w).alloc _⟩
    | true =>
      cases e1 : (a0 && a1) with
      | false =>
        have E1 := Kept.mk e1
        clear e1
        have hres : Kept (Fct.ends ⟨done, undone, asked, true, false, a0, a1, shipped, d0, d1, acc⟩ = 3) := ⟨by simp [Fct.ends, E1.out]⟩
        rw [hres.out]
        go_enter Try.func30, Try.ntmps30
        go_wp2_with fail
        refine (both_to a0 a1 false _ E1.out).mono ?_
        rintro e w1 ⟨rfl, k1⟩
        have HU1 := Kept.mk (HU.out.quiet k1)
        have b1 := hb.out.keeps k1 (fun h => h)
        have B1 := Kept.mk b1
        have y0_0 := b1.cell 0 rfl
        have y1_0 := b1.cell 1 rfl
        have y2_0 := b1.cell 2 rfl
        have y3_0 := b1.cell 3 rfl
        have y4_0 := b1.cell 4 rfl
        have y5_0 := b1.cell 5 rfl
        have y6_0 := b1.cell 6 rfl
        have y7_0 := b1.cell 7 rfl
        have y8_0 := b1.cell 8 rfl
        have y9_0 := b1.cell 9 rfl
        have y10_0 := b1.cell 10 rfl
        go_wp2_with fail
        go_ret
        exact ⟨rfl, ((Keeps.refl _ w).alloc _).trans k1⟩
      | true =>
        have E1 := Kept.mk e1
        clear e1
        cases shipped with
        | false =>
          have hres : Kept (Fct.ends ⟨done, undone, asked, true, false, a0, a1, false, d0, d1, acc⟩ = 3) := ⟨by simp [Fct.ends, E1.out]⟩
          rw [hres.out]
          go_enter Try.func30, Try.ntmps30
          go_wp2_with fail
          refine (both_to a0 a1 true _ E1.out).mono ?_
          rintro e w1 ⟨rfl, k1⟩
          have HU1 := Kept.mk (HU.out.quiet k1)
          have b1 := hb.out.keeps k1 (fun h => h)
          have B1 := Kept.mk b1
          have y0_0 := b1.cell 0 rfl
          have y1_0 := b1.cell 1 rfl
          have y2_0 := b1.cell 2 rfl
          have y3_0 := b1.cell 3 rfl
          have y4_0 := b1.cell 4 rfl
          have y5_0 := b1.cell 5 rfl
          have y6_0 := b1.cell 6 rfl
          have y7_0 := b1.cell 7 rfl
          have y8_0 := b1.cell 8 rfl
          have y9_0 := b1.cell 9 rfl
          have y10_0 := b1.cell 10 rfl
          go_wp2_with fail
          go_ret
          exact ⟨rfl, ((Keeps.refl _ w).alloc _).trans k1⟩
        | true =>
          have hres : Kept (Fct.ends ⟨done, undone, asked, true, false, a0, a1, true, d0, d1, acc⟩ = 5) := ⟨by simp [Fct.ends, E1.out]⟩
          rw [hres.out]
          go_enter Try.func30, Try.ntmps30
          go_wp2_with fail
          refine (both_to a0 a1 true _ E1.out).mono ?_
          rintro e w1 ⟨rfl, k1⟩
          have HU1 := Kept.mk (HU.out.quiet k1)
          have b1 := hb.out.keeps k1 (fun h => h)
          have B1 := Kept.mk b1
          have y0_0 := b1.cell 0 rfl
          have y1_0 := b1.cell 1 rfl
          have y2_0 := b1.cell 2 rfl
          have y3_0 := b1.cell 3 rfl
          have y4_0 := b1.cell 4 rfl
          have y5_0 := b1.cell 5 rfl
          have y6_0 := b1.cell 6 rfl
          have y7_0 := b1.cell 7 rfl
          have y8_0 := b1.cell 8 rfl
          have y9_0 := b1.cell 9 rfl
          have y10_0 := b1.cell 10 rfl
          go_wp2_with fail
          go_ret
          exact ⟨rfl, ((Keeps.refl _ w).alloc _).trans k1⟩
  | true =>
    cases e1 : (a0 && a1) with
    | false =>
      have E1 := Kept.mk e1
      clear e1
      have hres : Kept (Fct.ends ⟨done, undone, asked, yes, true, a0, a1, shipped, d0, d1, acc⟩ = 4) := ⟨by simp [Fct.ends, E1.out]⟩
      rw [hres.out]
      go_enter Try.func30, Try.ntmps30
      go_wp2_with fail
      refine (both_to a0 a1 false _ E1.out).mono ?_
      rintro e w1 ⟨rfl, k1⟩
      have HU1 := Kept.mk (HU.out.quiet k1)
      have b1 := hb.out.keeps k1 (fun h => h)
      have B1 := Kept.mk b1
      have y0_0 := b1.cell 0 rfl
      have y1_0 := b1.cell 1 rfl
      have y2_0 := b1.cell 2 rfl
      have y3_0 := b1.cell 3 rfl
      have y4_0 := b1.cell 4 rfl
      have y5_0 := b1.cell 5 rfl
      have y6_0 := b1.cell 6 rfl
      have y7_0 := b1.cell 7 rfl
      have y8_0 := b1.cell 8 rfl
      have y9_0 := b1.cell 9 rfl
      have y10_0 := b1.cell 10 rfl
      go_wp2_with fail
      go_ret
      exact ⟨rfl, ((Keeps.refl _ w).alloc _).trans k1⟩
    | true =>
      have E1 := Kept.mk e1
      clear e1
      cases e2 : hasB undone false with
      | false =>
        have E2 := Kept.mk e2
        clear e2
        have hres : Kept (Fct.ends ⟨done, undone, asked, yes, true, a0, a1, shipped, d0, d1, acc⟩ = 6) := ⟨by simp [Fct.ends, E1.out, E2.out]⟩
        rw [hres.out]
        go_enter Try.func30, Try.ntmps30
        go_wp2_with fail
        refine (both_to a0 a1 true _ E1.out).mono ?_
        rintro e w1 ⟨rfl, k1⟩
        have HU1 := Kept.mk (HU.out.quiet k1)
        have b1 := hb.out.keeps k1 (fun h => h)
        have B1 := Kept.mk b1
        have y0_0 := b1.cell 0 rfl
        have y1_0 := b1.cell 1 rfl
        have y2_0 := b1.cell 2 rfl
        have y3_0 := b1.cell 3 rfl
        have y4_0 := b1.cell 4 rfl
        have y5_0 := b1.cell 5 rfl
        have y6_0 := b1.cell 6 rfl
        have y7_0 := b1.cell 7 rfl
        have y8_0 := b1.cell 8 rfl
        have y9_0 := b1.cell 9 rfl
        have y10_0 := b1.cell 10 rfl
        go_wp2_with fail
        refine (blContains_to ua uc undone.length undone false false _ HU1.out rfl HM.out E2.out).mono ?_
        rintro e _ ⟨rfl, rfl⟩
        go_wp2_with fail
        go_ret
        exact ⟨rfl, ((Keeps.refl _ w).alloc _).trans k1⟩
      | true =>
        have E2 := Kept.mk e2
        clear e2
        have hres : Kept (Fct.ends ⟨done, undone, asked, yes, true, a0, a1, shipped, d0, d1, acc⟩ = 4) := ⟨by simp [Fct.ends, E1.out, E2.out]⟩
        rw [hres.out]
        go_enter Try.func30, Try.ntmps30
        go_wp2_with fail
        refine (both_to a0 a1 true _ E1.out).mono ?_
        rintro e w1 ⟨rfl, k1⟩
        have HU1 := Kept.mk (HU.out.quiet k1)
        have b1 := hb.out.keeps k1 (fun h => h)
        have B1 := Kept.mk b1
        have y0_0 := b1.cell 0 rfl
        have y1_0 := b1.cell 1 rfl
        have y2_0 := b1.cell 2 rfl
        have y3_0 := b1.cell 3 rfl
        have y4_0 := b1.cell 4 rfl
        have y5_0 := b1.cell 5 rfl
        have y6_0 := b1.cell 6 rfl
        have y7_0 := b1.cell 7 rfl
        have y8_0 := b1.cell 8 rfl
        have y9_0 := b1.cell 9 rfl
        have y10_0 := b1.cell 10 rfl
        go_wp2_with fail
        refine (blContains_to ua uc undone.length undone false true _ HU1.out rfl HM.out E2.out).mono ?_
        rintro e _ ⟨rfl, rfl⟩
        go_wp2_with fail
        go_ret
        exact ⟨rfl, ((Keeps.refl _ w).alloc _).trans k1⟩
set_option maxRecDepth 100000 in
set_option maxHeartbeats 8000000 in
theorem state_to (o : Ord) (a da ua : Option Addr) (c dc uc : Nat) (f : Fct) (r : Int) (w : World) (h : FcAt w o a c f da ua) (hr : f.state o = r) :
    Calls Try.prog 12 #[.agg #[.int .i64 o.id, .int .i64 o.item, .int .i64 o.qty, .int .i64 o.client, .int .i64 o.price, .slice a o.steps.length c], .agg #[.slice da f.done.length dc, .slice ua f.undone.length uc, .bool f.asked, .bool f.yes, .bool f.turned, .bool f.a0, .bool f.a1, .bool f.shipped, .bool f.d0, .bool f.d1, .bool f.acc]] w (fun e w' => e = .returned (.int .i64 r) ∧ Keeps (fun _ => False) w w') := by
  subst hr
  obtain ⟨done, undone, asked, yes, turned, a0, a1, shipped, d0, d1, acc⟩ := f
  simp only
  have HF := Kept.mk ((h.alloc (.cells #[.int .i64 o.id, .int .i64 o.item, .int .i64 o.qty, .int .i64 o.client, .int .i64 o.price, .slice a o.steps.length c] 24)).alloc (.cells #[.slice da done.length dc, .slice ua undone.length uc, .bool asked, .bool yes, .bool turned, .bool a0, .bool a1, .bool shipped, .bool d0, .bool d1, .bool acc] 31))
  have HO := Kept.mk ((Blk.new w 24 [.int .i64 o.id, .int .i64 o.item, .int .i64 o.qty, .int .i64 o.client, .int .i64 o.price, .slice a o.steps.length c]).alloc (.cells #[.slice da done.length dc, .slice ua undone.length uc, .bool asked, .bool yes, .bool turned, .bool a0, .bool a1, .bool shipped, .bool d0, .bool d1, .bool acc] 31))
  have HB := Kept.mk (Blk.new (w.alloc (.cells #[.int .i64 o.id, .int .i64 o.item, .int .i64 o.qty, .int .i64 o.client, .int .i64 o.price, .slice a o.steps.length c] 24)) 31 [.slice da done.length dc, .slice ua undone.length uc, .bool asked, .bool yes, .bool turned, .bool a0, .bool a1, .bool shipped, .bool d0, .bool d1, .bool acc])
  have hbs : (w.alloc (.cells #[.int .i64 o.id, .int .i64 o.item, .int .i64 o.qty, .int .i64 o.client, .int .i64 o.price, .slice a o.steps.length c] 24)).heap.size = w.heap.size + 1 := World.size_alloc _ _
  rw [hbs] at HB
  have K0 : Kept (Keeps (fun _ => False) w ((w.alloc (.cells #[.int .i64 o.id, .int .i64 o.item, .int .i64 o.qty, .int .i64 o.client, .int .i64 o.price, .slice a o.steps.length c] 24)).alloc (.cells #[.slice da done.length dc, .slice ua undone.length uc, .bool asked, .bool yes, .bool turned, .bool a0, .bool a1, .bool shipped, .bool d0, .bool d1, .bool acc] 31))) := ⟨((Keeps.refl _ w).alloc _).alloc _⟩
  clear h hbs
  cases em : Fct.may o ⟨done, undone, asked, yes, turned, a0, a1, shipped, d0, d1, acc⟩ with
  | false =>
    have Em := Kept.mk em
    have hres : Kept (Fct.state o ⟨done, undone, asked, yes, turned, a0, a1, shipped, d0, d1, acc⟩ = 0) := ⟨by unfold Fct.state; rw [if_pos em]⟩
    rw [hres.out]
    clear em
    go_enter Try.func12, Try.ntmps12
    go_wp2_with fail
    refine (fmay_to o a da ua c dc uc ⟨done, undone, asked, yes, turned, a0, a1, shipped, d0, d1, acc⟩ false _ HF.out Em.out).mono ?_
    rintro e w1 ⟨rfl, k1⟩
    go_wp2_with fail
    go_ret
    exact ⟨rfl, K0.out.trans k1⟩
  | true =>
    have Em := Kept.mk em
    clear em
    cases ed : (d0 || d1) with
    | false =>
      have Ed := Kept.mk ed
      obtain ⟨q, hq⟩ : ∃ q, Kept (Fct.ends ⟨done, undone, asked, yes, turned, a0, a1, shipped, d0, d1, acc⟩ = q) := ⟨_, ⟨rfl⟩⟩
      have hres : Kept (Fct.state o ⟨done, undone, asked, yes, turned, a0, a1, shipped, d0, d1, acc⟩ = q) := ⟨by unfold Fct.state; rw [if_neg (by rw [Em.out]; simp), ed, hq.out]; rfl⟩
      rw [hres.out]
      clear ed
      go_enter Try.func12, Try.ntmps12
      go_wp2_with fail
      refine (fmay_to o a da ua c dc uc ⟨done, undone, asked, yes, turned, a0, a1, shipped, d0, d1, acc⟩ true _ HF.out Em.out).mono ?_
      rintro e w1 ⟨rfl, k1⟩
      have hb1 := HB.out.keeps k1 (fun h => h)
      have HB1 := Kept.mk hb1
      have HF1 := Kept.mk (HF.out.keeps k1)
      have ho1 := HO.out.keeps k1 (fun h => h)
      have HO1 := Kept.mk ho1
      have K1 := Kept.mk (K0.out.trans k1)
      have y0_1 := hb1.cell 0 rfl
      have y1_1 := hb1.cell 1 rfl
      have y2_1 := hb1.cell 2 rfl
      have y3_1 := hb1.cell 3 rfl
      have y4_1 := hb1.cell 4 rfl
      have y5_1 := hb1.cell 5 rfl
      have y6_1 := hb1.cell 6 rfl
      have y7_1 := hb1.cell 7 rfl
      have y8_1 := hb1.cell 8 rfl
      have y9_1 := hb1.cell 9 rfl
      have y10_1 := hb1.cell 10 rfl
      clear hb1 ho1 k1
      go_wp2_with fail
      refine (either_to d0 d1 false _ Ed.out).mono ?_
      rintro e w2 ⟨rfl, k2⟩
      have hb2 := HB1.out.keeps k2 (fun h => h)
      have HB2 := Kept.mk hb2
      have HF2 := Kept.mk (HF1.out.keeps k2)
      have ho2 := HO1.out.keeps k2 (fun h => h)
      have HO2 := Kept.mk ho2
      have K2 := Kept.mk (K1.out.trans k2)
      have y0_2 := hb2.cell 0 rfl
      have y1_2 := hb2.cell 1 rfl
      have y2_2 := hb2.cell 2 rfl
      have y3_2 := hb2.cell 3 rfl
      have y4_2 := hb2.cell 4 rfl
      have y5_2 := hb2.cell 5 rfl
      have y6_2 := hb2.cell 6 rfl
      have y7_2 := hb2.cell 7 rfl
      have y8_2 := hb2.cell 8 rfl
      have y9_2 := hb2.cell 9 rfl
      have y10_2 := hb2.cell 10 rfl
      clear hb2 ho2 k2
      go_wp2_with fail
      refine (ends_to da ua dc uc ⟨done, undone, asked, yes, turned, a0, a1, shipped, d0, d1, acc⟩ q _ HF2.out.undone HF2.out.um hq.out).mono ?_
      rintro e w3 ⟨rfl, k3⟩
      go_wp2_with fail
      go_ret
      exact ⟨rfl, K2.out.trans k3⟩
    | true =>
      have Ed := Kept.mk ed
      cases acc with
      | false =>
        have hres : Kept (Fct.state o ⟨done, undone, asked, yes, turned, a0, a1, shipped, d0, d1, false⟩ = 7) := ⟨by unfold Fct.state; rw [if_neg (by rw [Em.out]; simp), ed]; rfl⟩
        rw [hres.out]
        clear ed
        go_enter Try.func12, Try.ntmps12
        go_wp2_with fail
        refine (fmay_to o a da ua c dc uc ⟨done, undone, asked, yes, turned, a0, a1, shipped, d0, d1, false⟩ true _ HF.out Em.out).mono ?_
        rintro e w1 ⟨rfl, k1⟩
        have hb1 := HB.out.keeps k1 (fun h => h)
        have HB1 := Kept.mk hb1
        have HF1 := Kept.mk (HF.out.keeps k1)
        have ho1 := HO.out.keeps k1 (fun h => h)
        have HO1 := Kept.mk ho1
        have K1 := Kept.mk (K0.out.trans k1)
        have y0_1 := hb1.cell 0 rfl
        have y1_1 := hb1.cell 1 rfl
        have y2_1 := hb1.cell 2 rfl
        have y3_1 := hb1.cell 3 rfl
        have y4_1 := hb1.cell 4 rfl
        have y5_1 := hb1.cell 5 rfl
        have y6_1 := hb1.cell 6 rfl
        have y7_1 := hb1.cell 7 rfl
        have y8_1 := hb1.cell 8 rfl
        have y9_1 := hb1.cell 9 rfl
        have y10_1 := hb1.cell 10 rfl
        clear hb1 ho1 k1
        go_wp2_with fail
        refine (either_to d0 d1 true _ Ed.out).mono ?_
        rintro e w2 ⟨rfl, k2⟩
        have hb2 := HB1.out.keeps k2 (fun h => h)
        have HB2 := Kept.mk hb2
        have HF2 := Kept.mk (HF1.out.keeps k2)
        have ho2 := HO1.out.keeps k2 (fun h => h)
        have HO2 := Kept.mk ho2
        have K2 := Kept.mk (K1.out.trans k2)
        have y0_2 := hb2.cell 0 rfl
        have y1_2 := hb2.cell 1 rfl
        have y2_2 := hb2.cell 2 rfl
        have y3_2 := hb2.cell 3 rfl
        have y4_2 := hb2.cell 4 rfl
        have y5_2 := hb2.cell 5 rfl
        have y6_2 := hb2.cell 6 rfl
        have y7_2 := hb2.cell 7 rfl
        have y8_2 := hb2.cell 8 rfl
        have y9_2 := hb2.cell 9 rfl
        have y10_2 := hb2.cell 10 rfl
        clear hb2 ho2 k2
        go_wp2_with fail
        go_ret
        exact ⟨rfl, K2.out⟩
      | true =>
        obtain ⟨q, hq⟩ : ∃ q, Kept (Fct.ends ⟨done, undone, asked, yes, turned, a0, a1, shipped, d0, d1, true⟩ = q) := ⟨_, ⟨rfl⟩⟩
        have hres : Kept (Fct.state o ⟨done, undone, asked, yes, turned, a0, a1, shipped, d0, d1, true⟩ = q) := ⟨by unfold Fct.state; rw [if_neg (by rw [Em.out]; simp), ed, hq.out]; rfl⟩
        rw [hres.out]
        clear ed
        go_enter Try.func12, Try.ntmps12
        go_wp2_with fail
        refine (fmay_to o a da ua c dc uc ⟨done, undone, asked, yes, turned, a0, a1, shipped, d0, d1, true⟩ true _ HF.out Em.out).mono ?_
        rintro e w1 ⟨rfl, k1⟩
        have hb1 := HB.out.keeps k1 (fun h => h)
        have HB1 := Kept.mk hb1
        have HF1 := Kept.mk (HF.out.keeps k1)
        have ho1 := HO.out.keeps k1 (fun h => h)
        have HO1 := Kept.mk ho1
        have K1 := Kept.mk (K0.out.trans k1)
        have y0_1 := hb1.cell 0 rfl
        have y1_1 := hb1.cell 1 rfl
        have y2_1 := hb1.cell 2 rfl
        have y3_1 := hb1.cell 3 rfl
        have y4_1 := hb1.cell 4 rfl
        have y5_1 := hb1.cell 5 rfl
        have y6_1 := hb1.cell 6 rfl
        have y7_1 := hb1.cell 7 rfl
        have y8_1 := hb1.cell 8 rfl
        have y9_1 := hb1.cell 9 rfl
        have y10_1 := hb1.cell 10 rfl
        clear hb1 ho1 k1
        go_wp2_with fail
        refine (either_to d0 d1 true _ Ed.out).mono ?_
        rintro e w2 ⟨rfl, k2⟩
        have hb2 := HB1.out.keeps k2 (fun h => h)
        have HB2 := Kept.mk hb2
        have HF2 := Kept.mk (HF1.out.keeps k2)
        have ho2 := HO1.out.keeps k2 (fun h => h)
        have HO2 := Kept.mk ho2
        have K2 := Kept.mk (K1.out.trans k2)
        have y0_2 := hb2.cell 0 rfl
        have y1_2 := hb2.cell 1 rfl
        have y2_2 := hb2.cell 2 rfl
        have y3_2 := hb2.cell 3 rfl
        have y4_2 := hb2.cell 4 rfl
        have y5_2 := hb2.cell 5 rfl
        have y6_2 := hb2.cell 6 rfl
        have y7_2 := hb2.cell 7 rfl
        have y8_2 := hb2.cell 8 rfl
        have y9_2 := hb2.cell 9 rfl
        have y10_2 := hb2.cell 10 rfl
        clear hb2 ho2 k2
        go_wp2_with fail
        refine (ends_to da ua dc uc ⟨done, undone, asked, yes, turned, a0, a1, shipped, d0, d1, true⟩ q _ HF2.out.undone HF2.out.um hq.out).mono ?_
        rintro e w3 ⟨rfl, k3⟩
        go_wp2_with fail
        go_ret
        exact ⟨rfl, K2.out.trans k3⟩
set_option maxRecDepth 100000 in
set_option maxHeartbeats 8000000 in
theorem over_to (o : Ord) (a da ua : Option Addr) (c dc uc : Nat) (f : Fct) (r : Bool) (w : World) (h : FcAt w o a c f da ua) (hr : f.over o = r) :
    Calls Try.prog 18 #[.agg #[.int .i64 o.id, .int .i64 o.item, .int .i64 o.qty, .int .i64 o.client, .int .i64 o.price, .slice a o.steps.length c], .agg #[.slice da f.done.length dc, .slice ua f.undone.length uc, .bool f.asked, .bool f.yes, .bool f.turned, .bool f.a0, .bool f.a1, .bool f.shipped, .bool f.d0, .bool f.d1, .bool f.acc]] w (fun e w' => e = .returned (.bool r) ∧ Keeps (fun _ => False) w w') := by
  subst hr
  obtain ⟨done, undone, asked, yes, turned, a0, a1, shipped, d0, d1, acc⟩ := f
  simp only
  have HF := Kept.mk ((h.alloc (.cells #[.int .i64 o.id, .int .i64 o.item, .int .i64 o.qty, .int .i64 o.client, .int .i64 o.price, .slice a o.steps.length c] 24)).alloc (.cells #[.slice da done.length dc, .slice ua undone.length uc, .bool asked, .bool yes, .bool turned, .bool a0, .bool a1, .bool shipped, .bool d0, .bool d1, .bool acc] 31))
  have HO := Kept.mk ((Blk.new w 24 [.int .i64 o.id, .int .i64 o.item, .int .i64 o.qty, .int .i64 o.client, .int .i64 o.price, .slice a o.steps.length c]).alloc (.cells #[.slice da done.length dc, .slice ua undone.length uc, .bool asked, .bool yes, .bool turned, .bool a0, .bool a1, .bool shipped, .bool d0, .bool d1, .bool acc] 31))
  have HB := Kept.mk (Blk.new (w.alloc (.cells #[.int .i64 o.id, .int .i64 o.item, .int .i64 o.qty, .int .i64 o.client, .int .i64 o.price, .slice a o.steps.length c] 24)) 31 [.slice da done.length dc, .slice ua undone.length uc, .bool asked, .bool yes, .bool turned, .bool a0, .bool a1, .bool shipped, .bool d0, .bool d1, .bool acc])
  have hbs : (w.alloc (.cells #[.int .i64 o.id, .int .i64 o.item, .int .i64 o.qty, .int .i64 o.client, .int .i64 o.price, .slice a o.steps.length c] 24)).heap.size = w.heap.size + 1 := World.size_alloc _ _
  rw [hbs] at HB
  have K0 : Kept (Keeps (fun _ => False) w ((w.alloc (.cells #[.int .i64 o.id, .int .i64 o.item, .int .i64 o.qty, .int .i64 o.client, .int .i64 o.price, .slice a o.steps.length c] 24)).alloc (.cells #[.slice da done.length dc, .slice ua undone.length uc, .bool asked, .bool yes, .bool turned, .bool a0, .bool a1, .bool shipped, .bool d0, .bool d1, .bool acc] 31))) := ⟨((Keeps.refl _ w).alloc _).alloc _⟩
  clear h hbs
  obtain ⟨q, hq⟩ : ∃ q, Kept (Fct.ends ⟨done, undone, asked, yes, turned, a0, a1, shipped, d0, d1, acc⟩ = q) := ⟨_, ⟨rfl⟩⟩
  cases em : Fct.may o ⟨done, undone, asked, yes, turned, a0, a1, shipped, d0, d1, acc⟩ with
  | false =>
    have Em := Kept.mk em
    have hres : Kept (Fct.over o ⟨done, undone, asked, yes, turned, a0, a1, shipped, d0, d1, acc⟩ = false) := ⟨by unfold Fct.over; rw [em]; rfl⟩
    rw [hres.out]
    clear em
    go_enter Try.func18, Try.ntmps18
    go_wp2_with fail
    refine (ends_to da ua dc uc ⟨done, undone, asked, yes, turned, a0, a1, shipped, d0, d1, acc⟩ q _ HF.out.undone HF.out.um hq.out).mono ?_
    rintro e w1 ⟨rfl, k1⟩
    have hb1 := HB.out.keeps k1 (fun h => h)
    have HB1 := Kept.mk hb1
    have HF1 := Kept.mk (HF.out.keeps k1)
    have ho1 := HO.out.keeps k1 (fun h => h)
    have HO1 := Kept.mk ho1
    have K1 := Kept.mk (K0.out.trans k1)
    have y0_1 := hb1.cell 0 rfl
    have y1_1 := hb1.cell 1 rfl
    have y2_1 := hb1.cell 2 rfl
    have y3_1 := hb1.cell 3 rfl
    have y4_1 := hb1.cell 4 rfl
    have y5_1 := hb1.cell 5 rfl
    have y6_1 := hb1.cell 6 rfl
    have y7_1 := hb1.cell 7 rfl
    have y8_1 := hb1.cell 8 rfl
    have y9_1 := hb1.cell 9 rfl
    have y10_1 := hb1.cell 10 rfl
    have x0_1 := ho1.cell 0 rfl
    have x1_1 := ho1.cell 1 rfl
    have x2_1 := ho1.cell 2 rfl
    have x3_1 := ho1.cell 3 rfl
    have x4_1 := ho1.cell 4 rfl
    have x5_1 := ho1.cell 5 rfl
    clear hb1 ho1 k1
    go_wp2_with fail
    refine (fmay_to o a da ua c dc uc ⟨done, undone, asked, yes, turned, a0, a1, shipped, d0, d1, acc⟩ false _ HF1.out Em.out).mono ?_
    rintro e w2 ⟨rfl, k2⟩
    go_wp2_with fail
    go_ret
    exact ⟨rfl, K1.out.trans k2⟩
  | true =>
    have Em := Kept.mk em
    have hres : Kept (Fct.over o ⟨done, undone, asked, yes, turned, a0, a1, shipped, d0, d1, acc⟩ = (q == 5 || q == 6)) := ⟨by unfold Fct.over; rw [em, hq.out]; rfl⟩
    rw [hres.out]
    clear em
    by_cases q5 : q = 5
    · have Q5 := Kept.mk q5
      have r5 : (q == 5) = true := by simpa using q5
      rw [r5]
      clear q5
      go_enter Try.func18, Try.ntmps18
      go_wp2_with fail
      refine (ends_to da ua dc uc ⟨done, undone, asked, yes, turned, a0, a1, shipped, d0, d1, acc⟩ q _ HF.out.undone HF.out.um hq.out).mono ?_
      rintro e w1 ⟨rfl, k1⟩
      have hb1 := HB.out.keeps k1 (fun h => h)
      have HB1 := Kept.mk hb1
      have HF1 := Kept.mk (HF.out.keeps k1)
      have ho1 := HO.out.keeps k1 (fun h => h)
      have HO1 := Kept.mk ho1
      have K1 := Kept.mk (K0.out.trans k1)
      have y0_1 := hb1.cell 0 rfl
      have y1_1 := hb1.cell 1 rfl
      have y2_1 := hb1.cell 2 rfl
      have y3_1 := hb1.cell 3 rfl
      have y4_1 := hb1.cell 4 rfl
      have y5_1 := hb1.cell 5 rfl
      have y6_1 := hb1.cell 6 rfl
      have y7_1 := hb1.cell 7 rfl
      have y8_1 := hb1.cell 8 rfl
      have y9_1 := hb1.cell 9 rfl
      have y10_1 := hb1.cell 10 rfl
      have x0_1 := ho1.cell 0 rfl
      have x1_1 := ho1.cell 1 rfl
      have x2_1 := ho1.cell 2 rfl
      have x3_1 := ho1.cell 3 rfl
      have x4_1 := ho1.cell 4 rfl
      have x5_1 := ho1.cell 5 rfl
      clear hb1 ho1 k1
      go_wp2_with fail
      refine (fmay_to o a da ua c dc uc ⟨done, undone, asked, yes, turned, a0, a1, shipped, d0, d1, acc⟩ true _ HF1.out Em.out).mono ?_
      rintro e w2 ⟨rfl, k2⟩
      go_wp2_with fail
      go_ret
      exact ⟨rfl, K1.out.trans k2⟩
    · have r5 : (q == 5) = false := by simpa using q5
      rw [r5]
      clear q5
      go_enter Try.func18, Try.ntmps18
      go_wp2_with fail
      refine (ends_to da ua dc uc ⟨done, undone, asked, yes, turned, a0, a1, shipped, d0, d1, acc⟩ q _ HF.out.undone HF.out.um hq.out).mono ?_
      rintro e w1 ⟨rfl, k1⟩
      have hb1 := HB.out.keeps k1 (fun h => h)
      have HB1 := Kept.mk hb1
      have HF1 := Kept.mk (HF.out.keeps k1)
      have ho1 := HO.out.keeps k1 (fun h => h)
      have HO1 := Kept.mk ho1
      have K1 := Kept.mk (K0.out.trans k1)
      have y0_1 := hb1.cell 0 rfl
      have y1_1 := hb1.cell 1 rfl
      have y2_1 := hb1.cell 2 rfl
      have y3_1 := hb1.cell 3 rfl
      have y4_1 := hb1.cell 4 rfl
      have y5_1 := hb1.cell 5 rfl
      have y6_1 := hb1.cell 6 rfl
      have y7_1 := hb1.cell 7 rfl
      have y8_1 := hb1.cell 8 rfl
      have y9_1 := hb1.cell 9 rfl
      have y10_1 := hb1.cell 10 rfl
      have x0_1 := ho1.cell 0 rfl
      have x1_1 := ho1.cell 1 rfl
      have x2_1 := ho1.cell 2 rfl
      have x3_1 := ho1.cell 3 rfl
      have x4_1 := ho1.cell 4 rfl
      have x5_1 := ho1.cell 5 rfl
      clear hb1 ho1 k1
      go_wp2_with fail
      refine (fmay_to o a da ua c dc uc ⟨done, undone, asked, yes, turned, a0, a1, shipped, d0, d1, acc⟩ true _ HF1.out Em.out).mono ?_
      rintro e w2 ⟨rfl, k2⟩
      go_wp2_with fail
      go_ret
      exact ⟨rfl, K1.out.trans k2⟩
end Go.Proofs.Ytfcnegnkmacajaa
