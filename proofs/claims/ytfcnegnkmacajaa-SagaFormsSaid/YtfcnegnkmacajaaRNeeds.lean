/- The page's Needs, and the law's facts, walked. (printed by gen/rneeds.py) -/
import Derived.Test.YtfcnegnkmacajaaRState
import Derived.Test.YtfcnegnkmacajaaNext
namespace Go.Proofs.Ytfcnegnkmacajaa
open Go.RowKit
set_option maxHeartbeats 4000000 in
theorem lfacts_to (da ua : Option Addr) (dl dc ul uc : Nat) (asked yes turned a0 a1 shipped d0 d1 acc : Bool) (w : World) :
    Calls Try.prog 14 #[.agg #[.slice da dl dc, .slice ua ul uc, .bool asked, .bool yes, .bool turned, .bool a0, .bool a1, .bool shipped, .bool d0, .bool d1, .bool acc]] w
    (fun e w' => e = .returned (.agg #[.slice da dl dc, .slice ua ul uc, .bool asked, .bool yes, .bool turned, .bool a0, .bool a1, .bool shipped, .bool d0, .bool d1, .bool acc]) ∧ Keeps (fun _ => False) w w') := by
  go_enter Try.func14, Try.ntmps14
  go_wp2
  exact bodyPost_ret (v := .agg #[.slice da dl dc, .slice ua ul uc, .bool asked, .bool yes, .bool turned, .bool a0, .bool a1, .bool shipped, .bool d0, .bool d1, .bool acc]) (by simp [results, Try.results14, go_sem]) rfl ⟨rfl, ((Keeps.refl _ w).alloc _).alloc _⟩
theorem undAt_down {o : Ord} {u : List Bool} {k : Nat} (h : u.getD k false = true) : undAt o u (k + 1) = undAt o u k := by rw [undAt, h]; rfl
set_option linter.unusedSimpArgs false in
set_option maxRecDepth 100000 in
set_option maxHeartbeats 16000000 in
theorem nd_no (o : Ord) (a da ua : Option Addr) (c dc uc : Nat) (done undone : List Bool) (asked yes turned a0 a1 shipped d0 d1 acc : Bool) (w : World) (h : FcAt w o a c ⟨done, undone, asked, yes, turned, a0, a1, shipped, d0, d1, acc⟩ da ua) (hc : o.steps.length ≤ c) (hcm : c ≤ maxLen) (em : Fct.may o ⟨done, undone, asked, yes, turned, a0, a1, shipped, d0, d1, acc⟩ = false) :
    Calls Try.prog 21 #[.agg #[.int .i64 o.id, .int .i64 o.item, .int .i64 o.qty, .int .i64 o.client, .int .i64 o.price, .slice a o.steps.length c], .agg #[.slice da done.length dc, .slice ua undone.length uc, .bool asked, .bool yes, .bool turned, .bool a0, .bool a1, .bool shipped, .bool d0, .bool d1, .bool acc]] w (fun e w' => (∃ v, e = .returned v ∧ MsOwn w' w.heap.size v ([])) ∧ Keeps (fun _ => False) w w') := by
  have HF0 := Kept.mk ((h.alloc (.cells #[.int .i64 o.id, .int .i64 o.item, .int .i64 o.qty, .int .i64 o.client, .int .i64 o.price, .slice a o.steps.length c] 24)).alloc (.cells #[.slice da done.length dc, .slice ua undone.length uc, .bool asked, .bool yes, .bool turned, .bool a0, .bool a1, .bool shipped, .bool d0, .bool d1, .bool acc] 42))
  have HB0 := Kept.mk (Blk.new' (w.alloc (.cells #[.int .i64 o.id, .int .i64 o.item, .int .i64 o.qty, .int .i64 o.client, .int .i64 o.price, .slice a o.steps.length c] 24)) 42 [.slice da done.length dc, .slice ua undone.length uc, .bool asked, .bool yes, .bool turned, .bool a0, .bool a1, .bool shipped, .bool d0, .bool d1, .bool acc] (w.heap.size + 1) (by simp))
  have HO0 := Kept.mk ((Blk.new' w 24 [.int .i64 o.id, .int .i64 o.item, .int .i64 o.qty, .int .i64 o.client, .int .i64 o.price, .slice a o.steps.length c] _ rfl).alloc (.cells #[.slice da done.length dc, .slice ua undone.length uc, .bool asked, .bool yes, .bool turned, .bool a0, .bool a1, .bool shipped, .bool d0, .bool d1, .bool acc] 42))
  have K0 : Kept (Keeps (fun _ => False) w ((w.alloc (.cells #[.int .i64 o.id, .int .i64 o.item, .int .i64 o.qty, .int .i64 o.client, .int .i64 o.price, .slice a o.steps.length c] 24)).alloc (.cells #[.slice da done.length dc, .slice ua undone.length uc, .bool asked, .bool yes, .bool turned, .bool a0, .bool a1, .bool shipped, .bool d0, .bool d1, .bool acc] 42))) := ⟨((Keeps.refl _ w).alloc _).alloc _⟩
  have Hh := Kept.mk h
  have hsm : (o.steps.length : Int) ≤ 9223372036854775807 := by have := h.sm; unfold maxLen at this; omega
  have hdm : (done.length : Int) ≤ 9223372036854775807 := by have := h.dm; unfold maxLen at this; simp only at this; omega
  have hum : (undone.length : Int) ≤ 9223372036854775807 := by have := h.um; unfold maxLen at this; simp only at this; omega
  clear h
  have Em := Kept.mk em
  clear em
  have hix0 : ∀ (u v : Value) (w : World), (Instr.index 29 (.agg #[u, v]) (.int .i64 0)).run Try.prog w = .ok u w := fun _ _ _ => by kernel_rfl
  have hix1 : ∀ (u v : Value) (w : World), (Instr.index 29 (.agg #[u, v]) (.int .i64 1)).run Try.prog w = .ok v w := fun _ _ _ => by kernel_rfl
  go_enter Try.func21, Try.ntmps21
  go_wp2_with fail
  have HC := rmay_to o a da ua c dc uc ⟨done, undone, _, _, _, _, _, _, _, _, _⟩ _ HF0.out hc hcm
  rw [Em.out] at HC
  refine HC.mono ?_
  rintro e w1 ⟨rfl, k1⟩
  clear HC
  have HF1 := Kept.mk (HF0.out.keeps k1)
  have HB1 := Kept.mk (HB0.out.quiet k1)
  have HO1 := Kept.mk (HO0.out.quiet k1)
  have K1 := Kept.mk (K0.out.trans k1)
  clear k1 HF0 HB0 HO0 K0
  obtain ⟨y0, y1, y2, y3, y4, y5, y6, y7, y8, y9, y10⟩ := blk11 HB1.out
  obtain ⟨x0, x1, x2, x3, x4, x5⟩ := blk6 HO1.out
  have hz1 := HB1.out.lt
  go_wp2_with fail
  go_ret
  exact ⟨⟨_, rfl, MsOwn.nil _ _⟩, K1.out⟩
set_option linter.unusedSimpArgs false in
set_option maxRecDepth 100000 in
set_option maxHeartbeats 16000000 in
theorem nd_turned (o : Ord) (a da ua : Option Addr) (c dc uc : Nat) (done undone : List Bool) (asked yes turned a0 a1 shipped d0 d1 acc : Bool) (w : World) (h : FcAt w o a c ⟨done, undone, asked, yes, turned, a0, a1, shipped, d0, d1, acc⟩ da ua) (hc : o.steps.length ≤ c) (hcm : c ≤ maxLen) (em : Fct.may o ⟨done, undone, asked, yes, turned, a0, a1, shipped, d0, d1, acc⟩ = true) (ht : turned = true) (hl : undone.length = o.steps.length) (hl3 : o.steps.length ≤ 3) :
    Calls Try.prog 21 #[.agg #[.int .i64 o.id, .int .i64 o.item, .int .i64 o.qty, .int .i64 o.client, .int .i64 o.price, .slice a o.steps.length c], .agg #[.slice da done.length dc, .slice ua undone.length uc, .bool asked, .bool yes, .bool turned, .bool a0, .bool a1, .bool shipped, .bool d0, .bool d1, .bool acc]] w (fun e w' => (∃ v, e = .returned v ∧ MsOwn w' w.heap.size v (decTo 10 o a0 a1 2 ++ undAt o undone o.steps.length)) ∧ Keeps (fun _ => False) w w') := by
  have HF0 := Kept.mk ((h.alloc (.cells #[.int .i64 o.id, .int .i64 o.item, .int .i64 o.qty, .int .i64 o.client, .int .i64 o.price, .slice a o.steps.length c] 24)).alloc (.cells #[.slice da done.length dc, .slice ua undone.length uc, .bool asked, .bool yes, .bool turned, .bool a0, .bool a1, .bool shipped, .bool d0, .bool d1, .bool acc] 42))
  have HB0 := Kept.mk (Blk.new' (w.alloc (.cells #[.int .i64 o.id, .int .i64 o.item, .int .i64 o.qty, .int .i64 o.client, .int .i64 o.price, .slice a o.steps.length c] 24)) 42 [.slice da done.length dc, .slice ua undone.length uc, .bool asked, .bool yes, .bool turned, .bool a0, .bool a1, .bool shipped, .bool d0, .bool d1, .bool acc] (w.heap.size + 1) (by simp))
  have HO0 := Kept.mk ((Blk.new' w 24 [.int .i64 o.id, .int .i64 o.item, .int .i64 o.qty, .int .i64 o.client, .int .i64 o.price, .slice a o.steps.length c] _ rfl).alloc (.cells #[.slice da done.length dc, .slice ua undone.length uc, .bool asked, .bool yes, .bool turned, .bool a0, .bool a1, .bool shipped, .bool d0, .bool d1, .bool acc] 42))
  have K0 : Kept (Keeps (fun _ => False) w ((w.alloc (.cells #[.int .i64 o.id, .int .i64 o.item, .int .i64 o.qty, .int .i64 o.client, .int .i64 o.price, .slice a o.steps.length c] 24)).alloc (.cells #[.slice da done.length dc, .slice ua undone.length uc, .bool asked, .bool yes, .bool turned, .bool a0, .bool a1, .bool shipped, .bool d0, .bool d1, .bool acc] 42))) := ⟨((Keeps.refl _ w).alloc _).alloc _⟩
  have Hh := Kept.mk h
  have hsm : (o.steps.length : Int) ≤ 9223372036854775807 := by have := h.sm; unfold maxLen at this; omega
  have hdm : (done.length : Int) ≤ 9223372036854775807 := by have := h.dm; unfold maxLen at this; simp only at this; omega
  have hum : (undone.length : Int) ≤ 9223372036854775807 := by have := h.um; unfold maxLen at this; simp only at this; omega
  clear h
  subst ht
  have Hl := Kept.mk hl
  clear hl
  have Em := Kept.mk em
  clear em
  have hix0 : ∀ (u v : Value) (w : World), (Instr.index 29 (.agg #[u, v]) (.int .i64 0)).run Try.prog w = .ok u w := fun _ _ _ => by kernel_rfl
  have hix1 : ∀ (u v : Value) (w : World), (Instr.index 29 (.agg #[u, v]) (.int .i64 1)).run Try.prog w = .ok v w := fun _ _ _ => by kernel_rfl
  go_enter Try.func21, Try.ntmps21
  go_wp2_with fail
  have HC := rmay_to o a da ua c dc uc ⟨done, undone, _, _, _, _, _, _, _, _, _⟩ _ HF0.out hc hcm
  rw [Em.out] at HC
  refine HC.mono ?_
  rintro e w1 ⟨rfl, k1⟩
  clear HC
  have HF1 := Kept.mk (HF0.out.keeps k1)
  have HB1 := Kept.mk (HB0.out.quiet k1)
  have HO1 := Kept.mk (HO0.out.quiet k1)
  have K1 := Kept.mk (K0.out.trans k1)
  clear k1 HF0 HB0 HO0 K0
  obtain ⟨y0, y1, y2, y3, y4, y5, y6, y7, y8, y9, y10⟩ := blk11 HB1.out
  obtain ⟨x0, x1, x2, x3, x4, x5⟩ := blk6 HO1.out
  have hz1 := HB1.out.lt
  go_wp2_with fail
  go_loopw [5, 26] (fun v i wr => ∃ n : Nat, n ≤ 2 ∧ i = .int .i64 n ∧ MsOwn wr (w.heap.size + 2) v (decTo 10 o a0 a1 n) ∧ Blk wr w.heap.size 24 [.int .i64 o.id, .int .i64 o.item, .int .i64 o.qty, .int .i64 o.client, .int .i64 o.price, .slice a o.steps.length c] ∧ Blk wr (w.heap.size + 1) 42 [.slice da done.length dc, .slice ua undone.length uc, .bool asked, .bool yes, .bool true, .bool a0, .bool a1, .bool shipped, .bool d0, .bool d1, .bool acc] ∧ Keeps (fun _ => False) w wr) (fun _ i _ => 2 - (intOf i).toNat)
  case atStart => exact ⟨0, by omega, rfl, MsOwn.nil _ _, HO1.out, HB1.out, K1.out⟩
  case round =>
    obtain ⟨n, hn, rfl, hM, hO, hB, hK⟩ := hrel
    obtain ⟨va, vc, rfl, _⟩ := hM.slice
    have HM := Kept.mk hM
    have HK := Kept.mk hK
    have HO2 := Kept.mk hO
    have HB2 := Kept.mk hB
    have HLt := Kept.mk (fun g e => (hM.lt g e).1)
    clear y0 y1 y2 y3 y4 y5 y6 y7 y8 y9 y10 x0 x1 x2 x3 x4 x5
    obtain ⟨y0, y1, y2, y3, y4, y5, y6, y7, y8, y9, y10⟩ := blk11 hB
    obtain ⟨x0, x1, x2, x3, x4, x5⟩ := blk6 hO
    have hz := hB.lt
    clear hO hB hK hM
    match n, hn with
    | 2, _ =>
      go_wp2_with fail
      go_loop [9] (fun i => ∃ k : Nat, k ≤ o.steps.length ∧ (∃ q : Int, q = (k : Int) - 1 ∧ i = .int .i64 q) ∧ Kept (undAt o undone o.steps.length = undAt o undone k)) (fun i => (intOf i + 1).toNat)
      case atStart => exact ⟨o.steps.length, Nat.le_refl _, ⟨_, rfl, rfl⟩, ⟨rfl⟩⟩
      case round =>
        obtain ⟨k, hk, ⟨q, hq, rfl⟩, hu⟩ := hrel
        by_cases h0 : k = 0
        · subst h0
          have hneg : q < 0 := by omega
          clear hq
          go_wp2_with fail
          go_ret
          rw [hu.out]
          exact ⟨⟨_, rfl, by rw [undAt, List.append_nil]; exact HM.out.mono (by omega)⟩, HK.out⟩
        · obtain ⟨m, rfl⟩ : ∃ m, k = m + 1 := ⟨k - 1, by omega⟩
          obtain rfl : q = (m : Int) := by omega
          obtain ⟨y, hy⟩ : ∃ y, undone[m]? = some y := ⟨_, List.getElem?_eq_getElem (by have := Hl.out; omega)⟩
          obtain ⟨x, hx⟩ : ∃ x, o.steps[m]? = some x := ⟨_, List.getElem?_eq_getElem (by omega)⟩
          obtain ⟨g, off, rfl, hgl, d0'⟩ := (Hh.out.keeps HK.out).undone m y hy
          obtain ⟨g2, off2, rfl, hgl2w, _⟩ := Hh.out.steps m x hx
          obtain ⟨g3, off3, e3, hgl2, s0, s1⟩ := (Hh.out.keeps HK.out).steps m x hx
          simp only [Option.some.injEq, Addr.mk.injEq, and_true] at e3
          obtain ⟨rfl, rfl⟩ := e3
          have hgd : undone.getD m false = y := by rw [List.getD_eq_getElem?_getD, hy]; rfl
          have hst := stAt_of hx
          obtain ⟨z1, z2⟩ := x
          dsimp only at s0 s1
          have hmi : (m : Int) < undone.length := by have := Hl.out; omega
          have hmi2 : (m : Int) < o.steps.length := by omega
          have HGD := Kept.mk hgd
          have HST := Kept.mk hst
          clear hy hx hgd hst hq
          cases y with
          | true =>
            go_wp2_with fail
            go_round
            case rel => exact ⟨m, by omega, ⟨_, rfl, by go_num⟩, ⟨by rw [hu.out, undAt_down HGD.out]⟩⟩
            case measure => simp [intOf]
          | false =>
            have hres : Kept (undAt o undone o.steps.length = [⟨4, 0, z1, o.id, m, 0, 0⟩]) := ⟨by rw [hu.out, undAt, HGD.out, HST.out]; rfl⟩
            have K3 : Kept (Keeps (fun _ => False) wr ((wr.alloc (.cells (encMs ⟨4, 0, z1, o.id, m, 0, 0⟩).toArray 36)).drew)) := ⟨((Keeps.refl _ _).alloc _).drew⟩
            obtain ⟨a', c', w3, hrun, hM3, k3⟩ := ms_append (m := ⟨4, 0, z1, o.id, m, 0, 0⟩) (s := wr.heap.size) (HM.out.quiet K3.out) (by have := decTo_len 10 o a0 a1 2; omega) (by have := K3.out.size; omega) ((Blk.new' wr 36 (encMs ⟨4, 0, z1, o.id, m, 0, 0⟩) _ rfl).drew)
            have KF : Kept (Keeps (fun _ => False) w w3) := ⟨(HK.out.trans K3.out).then k3 (fun i hi e => by have := HLt.out i e; omega)⟩
            have HO3 := Kept.mk ((HO2.out.quiet K3.out).keeps k3 (fun e => by have := HLt.out _ e; omega))
            have hc3 := (HO3.out.cell 0 rfl)
            have hc5 := (HO3.out.cell 5 rfl)
            have hs3 : w3.cell? ⟨g2, off2 + m * 2, none⟩ = some (.int .i64 z1) := (k3.cell (p := ⟨g2, off2 + m * 2, none⟩) (by have := K3.out.size; show g2 < _; omega) (fun e => by have := HLt.out g2 e; omega)).trans ((K3.out.cell (p := ⟨g2, off2 + m * 2, none⟩) hgl2 (fun h => h)).trans s0)
            have HM3 := Kept.mk hM3
            clear hM3
            go_wp2_with fail
            go_region_held3 (fun W => W.cell? ⟨w.heap.size, 0, none⟩ = some (.int .i64 o.id) ∧ W.cell? ⟨w.heap.size, 5, none⟩ = some (.slice (some ⟨g2, off2, none⟩) o.steps.length c) ∧ W.cell? ⟨g2, off2 + m * 2, none⟩ = some (.int .i64 z1)) (first | exact ⟨x0, x5, s0⟩ | exact ⟨hc3, hc5, hs3⟩ | go_keep) (first | (refine step_append_run rfl _ _ _ rfl rfl rfl hrun ?_))
            all_goals
              go_wp2_with fail
              go_ret
              rw [hres.out]
              exact ⟨⟨_, rfl, HM3.out.mono (by omega)⟩, KF.out⟩
    | 0, _ =>
      cases a0 with
      | true =>
        have HE : Kept (decTo 10 o true a1 1 = decTo 10 o true a1 0) := ⟨by simp [decTo]⟩
        go_wp2_with fail
        go_roundw
        case rel => exact ⟨1, by omega, by go_num, by rw [HE.out]; exact HM.out, HO2.out, HB2.out, HK.out⟩
        case measure => simp [intOf]
      | false =>
        have HE : Kept (decTo 10 o false a1 1 = decTo 10 o false a1 0 ++ [⟨10, 0, 1, o.id, 0, 0, 0⟩]) := ⟨by simp [decTo]⟩
        have HE2 : Kept ((decTo 10 o false a1 1).length = (decTo 10 o false a1 0).length + 1) := ⟨by rw [HE.out]; simp⟩
        have K3 : Kept (Keeps (fun _ => False) wr (wr.alloc (.cells (encMs ⟨10, 0, 1, o.id, 0, 0, 0⟩).toArray 36))) := ⟨(Keeps.refl _ _).alloc _⟩
        obtain ⟨a', c', w3, hrun, hM3, k3⟩ := ms_append (m := ⟨10, 0, 1, o.id, 0, 0, 0⟩) (s := wr.heap.size) (HM.out.quiet K3.out) (by have := decTo_len 10 o false a1 0; omega) (by have := K3.out.size; omega) (Blk.new' wr 36 (encMs ⟨10, 0, 1, o.id, 0, 0, 0⟩) _ rfl)
        rw [← HE.out, ← HE2.out] at hM3
        have HM3 := Kept.mk hM3
        have KF : Kept (Keeps (fun _ => False) w w3) := ⟨(HK.out.trans K3.out).then k3 (fun i hi e => by have := HLt.out i e; omega)⟩
        have HO3 := Kept.mk ((HO2.out.quiet K3.out).keeps k3 (fun e => by have := HLt.out _ e; omega))
        have HB3 := Kept.mk ((HB2.out.quiet K3.out).keeps k3 (fun e => by have := HLt.out _ e; omega))
        clear k3 hM3 y0 y1 y2 y3 y4 y5 y6 y7 y8 y9 y10
        go_wp2_with (at_builtin; refine wpList_append_run rfl _ _ _ rfl rfl rfl hrun ?_)
        go_roundw
        case rel => exact ⟨1, by omega, by go_num, by rw [← HE2.out]; exact HM3.out, HO3.out, HB3.out, KF.out⟩
        case measure => simp [intOf]
    | 1, _ =>
      cases a1 with
      | true =>
        have HE : Kept (decTo 10 o a0 true 2 = decTo 10 o a0 true 1) := ⟨by simp [decTo]⟩
        go_wp2_with fail
        go_roundw
        case rel => exact ⟨2, by omega, by go_num, by rw [HE.out]; exact HM.out, HO2.out, HB2.out, HK.out⟩
        case measure => simp [intOf]
      | false =>
        have HE : Kept (decTo 10 o a0 false 2 = decTo 10 o a0 false 1 ++ [⟨10, 0, 2, o.id, 0, 0, 0⟩]) := ⟨by simp [decTo]⟩
        have HE2 : Kept ((decTo 10 o a0 false 2).length = (decTo 10 o a0 false 1).length + 1) := ⟨by rw [HE.out]; simp⟩
        have K3 : Kept (Keeps (fun _ => False) wr (wr.alloc (.cells (encMs ⟨10, 0, 2, o.id, 0, 0, 0⟩).toArray 36))) := ⟨(Keeps.refl _ _).alloc _⟩
        obtain ⟨a', c', w3, hrun, hM3, k3⟩ := ms_append (m := ⟨10, 0, 2, o.id, 0, 0, 0⟩) (s := wr.heap.size) (HM.out.quiet K3.out) (by have := decTo_len 10 o a0 false 1; omega) (by have := K3.out.size; omega) (Blk.new' wr 36 (encMs ⟨10, 0, 2, o.id, 0, 0, 0⟩) _ rfl)
        rw [← HE.out, ← HE2.out] at hM3
        have HM3 := Kept.mk hM3
        have KF : Kept (Keeps (fun _ => False) w w3) := ⟨(HK.out.trans K3.out).then k3 (fun i hi e => by have := HLt.out i e; omega)⟩
        have HO3 := Kept.mk ((HO2.out.quiet K3.out).keeps k3 (fun e => by have := HLt.out _ e; omega))
        have HB3 := Kept.mk ((HB2.out.quiet K3.out).keeps k3 (fun e => by have := HLt.out _ e; omega))
        clear k3 hM3 y0 y1 y2 y3 y4 y5 y6 y7 y8 y9 y10
        go_wp2_with (at_builtin; refine wpList_append_run rfl _ _ _ rfl rfl rfl hrun ?_)
        go_roundw
        case rel => exact ⟨2, by omega, by go_num, by rw [← HE2.out]; exact HM3.out, HO3.out, HB3.out, KF.out⟩
        case measure => simp [intOf]
set_option linter.unusedSimpArgs false in
set_option maxRecDepth 100000 in
set_option maxHeartbeats 16000000 in
theorem nd_told (o : Ord) (a da ua : Option Addr) (c dc uc : Nat) (done undone : List Bool) (asked yes turned a0 a1 shipped d0 d1 acc : Bool) (w : World) (h : FcAt w o a c ⟨done, undone, asked, yes, turned, a0, a1, shipped, d0, d1, acc⟩ da ua) (hc : o.steps.length ≤ c) (hcm : c ≤ maxLen) (em : Fct.may o ⟨done, undone, asked, yes, turned, a0, a1, shipped, d0, d1, acc⟩ = true) (hy : yes = true) (ht : turned = false) (hs : shipped = true) :
    Calls Try.prog 21 #[.agg #[.int .i64 o.id, .int .i64 o.item, .int .i64 o.qty, .int .i64 o.client, .int .i64 o.price, .slice a o.steps.length c], .agg #[.slice da done.length dc, .slice ua undone.length uc, .bool asked, .bool yes, .bool turned, .bool a0, .bool a1, .bool shipped, .bool d0, .bool d1, .bool acc]] w (fun e w' => (∃ v, e = .returned v ∧ MsOwn w' w.heap.size v (decTo 9 o a0 a1 2)) ∧ Keeps (fun _ => False) w w') := by
  have HF0 := Kept.mk ((h.alloc (.cells #[.int .i64 o.id, .int .i64 o.item, .int .i64 o.qty, .int .i64 o.client, .int .i64 o.price, .slice a o.steps.length c] 24)).alloc (.cells #[.slice da done.length dc, .slice ua undone.length uc, .bool asked, .bool yes, .bool turned, .bool a0, .bool a1, .bool shipped, .bool d0, .bool d1, .bool acc] 42))
  have HB0 := Kept.mk (Blk.new' (w.alloc (.cells #[.int .i64 o.id, .int .i64 o.item, .int .i64 o.qty, .int .i64 o.client, .int .i64 o.price, .slice a o.steps.length c] 24)) 42 [.slice da done.length dc, .slice ua undone.length uc, .bool asked, .bool yes, .bool turned, .bool a0, .bool a1, .bool shipped, .bool d0, .bool d1, .bool acc] (w.heap.size + 1) (by simp))
  have HO0 := Kept.mk ((Blk.new' w 24 [.int .i64 o.id, .int .i64 o.item, .int .i64 o.qty, .int .i64 o.client, .int .i64 o.price, .slice a o.steps.length c] _ rfl).alloc (.cells #[.slice da done.length dc, .slice ua undone.length uc, .bool asked, .bool yes, .bool turned, .bool a0, .bool a1, .bool shipped, .bool d0, .bool d1, .bool acc] 42))
  have K0 : Kept (Keeps (fun _ => False) w ((w.alloc (.cells #[.int .i64 o.id, .int .i64 o.item, .int .i64 o.qty, .int .i64 o.client, .int .i64 o.price, .slice a o.steps.length c] 24)).alloc (.cells #[.slice da done.length dc, .slice ua undone.length uc, .bool asked, .bool yes, .bool turned, .bool a0, .bool a1, .bool shipped, .bool d0, .bool d1, .bool acc] 42))) := ⟨((Keeps.refl _ w).alloc _).alloc _⟩
  have Hh := Kept.mk h
  have hsm : (o.steps.length : Int) ≤ 9223372036854775807 := by have := h.sm; unfold maxLen at this; omega
  have hdm : (done.length : Int) ≤ 9223372036854775807 := by have := h.dm; unfold maxLen at this; simp only at this; omega
  have hum : (undone.length : Int) ≤ 9223372036854775807 := by have := h.um; unfold maxLen at this; simp only at this; omega
  clear h
  subst hy
  subst ht
  subst hs
  have Em := Kept.mk em
  clear em
  have hix0 : ∀ (u v : Value) (w : World), (Instr.index 29 (.agg #[u, v]) (.int .i64 0)).run Try.prog w = .ok u w := fun _ _ _ => by kernel_rfl
  have hix1 : ∀ (u v : Value) (w : World), (Instr.index 29 (.agg #[u, v]) (.int .i64 1)).run Try.prog w = .ok v w := fun _ _ _ => by kernel_rfl
  go_enter Try.func21, Try.ntmps21
  go_wp2_with fail
  have HC := rmay_to o a da ua c dc uc ⟨done, undone, _, _, _, _, _, _, _, _, _⟩ _ HF0.out hc hcm
  rw [Em.out] at HC
  refine HC.mono ?_
  rintro e w1 ⟨rfl, k1⟩
  clear HC
  have HF1 := Kept.mk (HF0.out.keeps k1)
  have HB1 := Kept.mk (HB0.out.quiet k1)
  have HO1 := Kept.mk (HO0.out.quiet k1)
  have K1 := Kept.mk (K0.out.trans k1)
  clear k1 HF0 HB0 HO0 K0
  obtain ⟨y0, y1, y2, y3, y4, y5, y6, y7, y8, y9, y10⟩ := blk11 HB1.out
  obtain ⟨x0, x1, x2, x3, x4, x5⟩ := blk6 HO1.out
  have hz1 := HB1.out.lt
  go_wp2_with fail
  go_loopw [5, 26] (fun v i wr => ∃ n : Nat, n ≤ 2 ∧ i = .int .i64 n ∧ MsOwn wr (w.heap.size + 2) v (decTo 9 o a0 a1 n) ∧ Blk wr w.heap.size 24 [.int .i64 o.id, .int .i64 o.item, .int .i64 o.qty, .int .i64 o.client, .int .i64 o.price, .slice a o.steps.length c] ∧ Blk wr (w.heap.size + 1) 42 [.slice da done.length dc, .slice ua undone.length uc, .bool asked, .bool true, .bool false, .bool a0, .bool a1, .bool true, .bool d0, .bool d1, .bool acc] ∧ Keeps (fun _ => False) w wr) (fun _ i _ => 2 - (intOf i).toNat)
  case atStart => exact ⟨0, by omega, rfl, MsOwn.nil _ _, HO1.out, HB1.out, K1.out⟩
  case round =>
    obtain ⟨n, hn, rfl, hM, hO, hB, hK⟩ := hrel
    obtain ⟨va, vc, rfl, _⟩ := hM.slice
    have HM := Kept.mk hM
    have HK := Kept.mk hK
    have HO2 := Kept.mk hO
    have HB2 := Kept.mk hB
    have HLt := Kept.mk (fun g e => (hM.lt g e).1)
    clear y0 y1 y2 y3 y4 y5 y6 y7 y8 y9 y10 x0 x1 x2 x3 x4 x5
    obtain ⟨y0, y1, y2, y3, y4, y5, y6, y7, y8, y9, y10⟩ := blk11 hB
    obtain ⟨x0, x1, x2, x3, x4, x5⟩ := blk6 hO
    have hz := hB.lt
    clear hO hB hK hM
    match n, hn with
    | 2, _ =>
      go_wp2_with fail
      go_ret
      exact ⟨⟨_, rfl, HM.out.mono (by omega)⟩, HK.out⟩
    | 0, _ =>
      cases a0 with
      | true =>
        have HE : Kept (decTo 9 o true a1 1 = decTo 9 o true a1 0) := ⟨by simp [decTo]⟩
        go_wp2_with fail
        go_roundw
        case rel => exact ⟨1, by omega, by go_num, by rw [HE.out]; exact HM.out, HO2.out, HB2.out, HK.out⟩
        case measure => simp [intOf]
      | false =>
        have HE : Kept (decTo 9 o false a1 1 = decTo 9 o false a1 0 ++ [⟨9, 0, 1, o.id, 0, 0, 0⟩]) := ⟨by simp [decTo]⟩
        have HE2 : Kept ((decTo 9 o false a1 1).length = (decTo 9 o false a1 0).length + 1) := ⟨by rw [HE.out]; simp⟩
        have K3 : Kept (Keeps (fun _ => False) wr (wr.alloc (.cells (encMs ⟨9, 0, 1, o.id, 0, 0, 0⟩).toArray 36))) := ⟨(Keeps.refl _ _).alloc _⟩
        obtain ⟨a', c', w3, hrun, hM3, k3⟩ := ms_append (m := ⟨9, 0, 1, o.id, 0, 0, 0⟩) (s := wr.heap.size) (HM.out.quiet K3.out) (by have := decTo_len 9 o false a1 0; omega) (by have := K3.out.size; omega) (Blk.new' wr 36 (encMs ⟨9, 0, 1, o.id, 0, 0, 0⟩) _ rfl)
        rw [← HE.out, ← HE2.out] at hM3
        have HM3 := Kept.mk hM3
        have KF : Kept (Keeps (fun _ => False) w w3) := ⟨(HK.out.trans K3.out).then k3 (fun i hi e => by have := HLt.out i e; omega)⟩
        have HO3 := Kept.mk ((HO2.out.quiet K3.out).keeps k3 (fun e => by have := HLt.out _ e; omega))
        have HB3 := Kept.mk ((HB2.out.quiet K3.out).keeps k3 (fun e => by have := HLt.out _ e; omega))
        clear k3 hM3 y0 y1 y2 y3 y4 y5 y6 y7 y8 y9 y10
        go_wp2_with (at_builtin; refine wpList_append_run rfl _ _ _ rfl rfl rfl hrun ?_)
        go_roundw
        case rel => exact ⟨1, by omega, by go_num, by rw [← HE2.out]; exact HM3.out, HO3.out, HB3.out, KF.out⟩
        case measure => simp [intOf]
    | 1, _ =>
      cases a1 with
      | true =>
        have HE : Kept (decTo 9 o a0 true 2 = decTo 9 o a0 true 1) := ⟨by simp [decTo]⟩
        go_wp2_with fail
        go_roundw
        case rel => exact ⟨2, by omega, by go_num, by rw [HE.out]; exact HM.out, HO2.out, HB2.out, HK.out⟩
        case measure => simp [intOf]
      | false =>
        have HE : Kept (decTo 9 o a0 false 2 = decTo 9 o a0 false 1 ++ [⟨9, 0, 2, o.id, 0, 0, 0⟩]) := ⟨by simp [decTo]⟩
        have HE2 : Kept ((decTo 9 o a0 false 2).length = (decTo 9 o a0 false 1).length + 1) := ⟨by rw [HE.out]; simp⟩
        have K3 : Kept (Keeps (fun _ => False) wr (wr.alloc (.cells (encMs ⟨9, 0, 2, o.id, 0, 0, 0⟩).toArray 36))) := ⟨(Keeps.refl _ _).alloc _⟩
        obtain ⟨a', c', w3, hrun, hM3, k3⟩ := ms_append (m := ⟨9, 0, 2, o.id, 0, 0, 0⟩) (s := wr.heap.size) (HM.out.quiet K3.out) (by have := decTo_len 9 o a0 false 1; omega) (by have := K3.out.size; omega) (Blk.new' wr 36 (encMs ⟨9, 0, 2, o.id, 0, 0, 0⟩) _ rfl)
        rw [← HE.out, ← HE2.out] at hM3
        have HM3 := Kept.mk hM3
        have KF : Kept (Keeps (fun _ => False) w w3) := ⟨(HK.out.trans K3.out).then k3 (fun i hi e => by have := HLt.out i e; omega)⟩
        have HO3 := Kept.mk ((HO2.out.quiet K3.out).keeps k3 (fun e => by have := HLt.out _ e; omega))
        have HB3 := Kept.mk ((HB2.out.quiet K3.out).keeps k3 (fun e => by have := HLt.out _ e; omega))
        clear k3 hM3 y0 y1 y2 y3 y4 y5 y6 y7 y8 y9 y10
        go_wp2_with (at_builtin; refine wpList_append_run rfl _ _ _ rfl rfl rfl hrun ?_)
        go_roundw
        case rel => exact ⟨2, by omega, by go_num, by rw [← HE2.out]; exact HM3.out, HO3.out, HB3.out, KF.out⟩
        case measure => simp [intOf]
set_option linter.unusedSimpArgs false in
set_option maxRecDepth 100000 in
set_option maxHeartbeats 16000000 in
theorem nd_ship (o : Ord) (a da ua : Option Addr) (c dc uc : Nat) (done undone : List Bool) (asked yes turned a0 a1 shipped d0 d1 acc : Bool) (w : World) (h : FcAt w o a c ⟨done, undone, asked, yes, turned, a0, a1, shipped, d0, d1, acc⟩ da ua) (hc : o.steps.length ≤ c) (hcm : c ≤ maxLen) (em : Fct.may o ⟨done, undone, asked, yes, turned, a0, a1, shipped, d0, d1, acc⟩ = true) (hy : yes = true) (ht : turned = false) (hs : shipped = false) :
    Calls Try.prog 21 #[.agg #[.int .i64 o.id, .int .i64 o.item, .int .i64 o.qty, .int .i64 o.client, .int .i64 o.price, .slice a o.steps.length c], .agg #[.slice da done.length dc, .slice ua undone.length uc, .bool asked, .bool yes, .bool turned, .bool a0, .bool a1, .bool shipped, .bool d0, .bool d1, .bool acc]] w (fun e w' => (∃ v, e = .returned v ∧ MsOwn w' w.heap.size v (decTo 9 o a0 a1 2 ++ [⟨15, 0, 3, o.id, 0, o.item, o.qty⟩])) ∧ Keeps (fun _ => False) w w') := by
  have HF0 := Kept.mk ((h.alloc (.cells #[.int .i64 o.id, .int .i64 o.item, .int .i64 o.qty, .int .i64 o.client, .int .i64 o.price, .slice a o.steps.length c] 24)).alloc (.cells #[.slice da done.length dc, .slice ua undone.length uc, .bool asked, .bool yes, .bool turned, .bool a0, .bool a1, .bool shipped, .bool d0, .bool d1, .bool acc] 42))
  have HB0 := Kept.mk (Blk.new' (w.alloc (.cells #[.int .i64 o.id, .int .i64 o.item, .int .i64 o.qty, .int .i64 o.client, .int .i64 o.price, .slice a o.steps.length c] 24)) 42 [.slice da done.length dc, .slice ua undone.length uc, .bool asked, .bool yes, .bool turned, .bool a0, .bool a1, .bool shipped, .bool d0, .bool d1, .bool acc] (w.heap.size + 1) (by simp))
  have HO0 := Kept.mk ((Blk.new' w 24 [.int .i64 o.id, .int .i64 o.item, .int .i64 o.qty, .int .i64 o.client, .int .i64 o.price, .slice a o.steps.length c] _ rfl).alloc (.cells #[.slice da done.length dc, .slice ua undone.length uc, .bool asked, .bool yes, .bool turned, .bool a0, .bool a1, .bool shipped, .bool d0, .bool d1, .bool acc] 42))
  have K0 : Kept (Keeps (fun _ => False) w ((w.alloc (.cells #[.int .i64 o.id, .int .i64 o.item, .int .i64 o.qty, .int .i64 o.client, .int .i64 o.price, .slice a o.steps.length c] 24)).alloc (.cells #[.slice da done.length dc, .slice ua undone.length uc, .bool asked, .bool yes, .bool turned, .bool a0, .bool a1, .bool shipped, .bool d0, .bool d1, .bool acc] 42))) := ⟨((Keeps.refl _ w).alloc _).alloc _⟩
  have Hh := Kept.mk h
  have hsm : (o.steps.length : Int) ≤ 9223372036854775807 := by have := h.sm; unfold maxLen at this; omega
  have hdm : (done.length : Int) ≤ 9223372036854775807 := by have := h.dm; unfold maxLen at this; simp only at this; omega
  have hum : (undone.length : Int) ≤ 9223372036854775807 := by have := h.um; unfold maxLen at this; simp only at this; omega
  clear h
  subst hy
  subst ht
  subst hs
  have Em := Kept.mk em
  clear em
  have hix0 : ∀ (u v : Value) (w : World), (Instr.index 29 (.agg #[u, v]) (.int .i64 0)).run Try.prog w = .ok u w := fun _ _ _ => by kernel_rfl
  have hix1 : ∀ (u v : Value) (w : World), (Instr.index 29 (.agg #[u, v]) (.int .i64 1)).run Try.prog w = .ok v w := fun _ _ _ => by kernel_rfl
  go_enter Try.func21, Try.ntmps21
  go_wp2_with fail
  have HC := rmay_to o a da ua c dc uc ⟨done, undone, _, _, _, _, _, _, _, _, _⟩ _ HF0.out hc hcm
  rw [Em.out] at HC
  refine HC.mono ?_
  rintro e w1 ⟨rfl, k1⟩
  clear HC
  have HF1 := Kept.mk (HF0.out.keeps k1)
  have HB1 := Kept.mk (HB0.out.quiet k1)
  have HO1 := Kept.mk (HO0.out.quiet k1)
  have K1 := Kept.mk (K0.out.trans k1)
  clear k1 HF0 HB0 HO0 K0
  obtain ⟨y0, y1, y2, y3, y4, y5, y6, y7, y8, y9, y10⟩ := blk11 HB1.out
  obtain ⟨x0, x1, x2, x3, x4, x5⟩ := blk6 HO1.out
  have hz1 := HB1.out.lt
  go_wp2_with fail
  go_loopw [5, 26] (fun v i wr => ∃ n : Nat, n ≤ 2 ∧ i = .int .i64 n ∧ MsOwn wr (w.heap.size + 2) v (decTo 9 o a0 a1 n) ∧ Blk wr w.heap.size 24 [.int .i64 o.id, .int .i64 o.item, .int .i64 o.qty, .int .i64 o.client, .int .i64 o.price, .slice a o.steps.length c] ∧ Blk wr (w.heap.size + 1) 42 [.slice da done.length dc, .slice ua undone.length uc, .bool asked, .bool true, .bool false, .bool a0, .bool a1, .bool false, .bool d0, .bool d1, .bool acc] ∧ Keeps (fun _ => False) w wr) (fun _ i _ => 2 - (intOf i).toNat)
  case atStart => exact ⟨0, by omega, rfl, MsOwn.nil _ _, HO1.out, HB1.out, K1.out⟩
  case round =>
    obtain ⟨n, hn, rfl, hM, hO, hB, hK⟩ := hrel
    obtain ⟨va, vc, rfl, _⟩ := hM.slice
    have HM := Kept.mk hM
    have HK := Kept.mk hK
    have HO2 := Kept.mk hO
    have HB2 := Kept.mk hB
    have HLt := Kept.mk (fun g e => (hM.lt g e).1)
    clear y0 y1 y2 y3 y4 y5 y6 y7 y8 y9 y10 x0 x1 x2 x3 x4 x5
    obtain ⟨y0, y1, y2, y3, y4, y5, y6, y7, y8, y9, y10⟩ := blk11 hB
    obtain ⟨x0, x1, x2, x3, x4, x5⟩ := blk6 hO
    have hz := hB.lt
    clear hO hB hK hM
    match n, hn with
    | 2, _ =>
      have K3 : Kept (Keeps (fun _ => False) wr (wr.alloc (.cells (encMs ⟨15, 0, 3, o.id, 0, o.item, o.qty⟩).toArray 36))) := ⟨(Keeps.refl _ _).alloc _⟩
      obtain ⟨a', c', w3, hrun, hM3, k3⟩ := ms_append (m := ⟨15, 0, 3, o.id, 0, o.item, o.qty⟩) (s := wr.heap.size) (HM.out.quiet K3.out) (by have := decTo_len 9 o a0 a1 2; omega) (by have := K3.out.size; omega) (Blk.new' wr 36 (encMs ⟨15, 0, 3, o.id, 0, o.item, o.qty⟩) _ rfl)
      have KF : Kept (Keeps (fun _ => False) w w3) := ⟨(HK.out.trans K3.out).then k3 (fun i hi e => by have := HLt.out i e; omega)⟩
      have HM3 := Kept.mk hM3
      clear hM3 k3
      go_wp2_with (at_builtin; refine wpList_append_run rfl _ _ _ rfl rfl rfl hrun ?_)
      go_ret
      exact ⟨⟨_, rfl, HM3.out.mono (by omega)⟩, KF.out⟩
    | 0, _ =>
      cases a0 with
      | true =>
        have HE : Kept (decTo 9 o true a1 1 = decTo 9 o true a1 0) := ⟨by simp [decTo]⟩
        go_wp2_with fail
        go_roundw
        case rel => exact ⟨1, by omega, by go_num, by rw [HE.out]; exact HM.out, HO2.out, HB2.out, HK.out⟩
        case measure => simp [intOf]
      | false =>
        have HE : Kept (decTo 9 o false a1 1 = decTo 9 o false a1 0 ++ [⟨9, 0, 1, o.id, 0, 0, 0⟩]) := ⟨by simp [decTo]⟩
        have HE2 : Kept ((decTo 9 o false a1 1).length = (decTo 9 o false a1 0).length + 1) := ⟨by rw [HE.out]; simp⟩
        have K3 : Kept (Keeps (fun _ => False) wr (wr.alloc (.cells (encMs ⟨9, 0, 1, o.id, 0, 0, 0⟩).toArray 36))) := ⟨(Keeps.refl _ _).alloc _⟩
        obtain ⟨a', c', w3, hrun, hM3, k3⟩ := ms_append (m := ⟨9, 0, 1, o.id, 0, 0, 0⟩) (s := wr.heap.size) (HM.out.quiet K3.out) (by have := decTo_len 9 o false a1 0; omega) (by have := K3.out.size; omega) (Blk.new' wr 36 (encMs ⟨9, 0, 1, o.id, 0, 0, 0⟩) _ rfl)
        rw [← HE.out, ← HE2.out] at hM3
        have HM3 := Kept.mk hM3
        have KF : Kept (Keeps (fun _ => False) w w3) := ⟨(HK.out.trans K3.out).then k3 (fun i hi e => by have := HLt.out i e; omega)⟩
        have HO3 := Kept.mk ((HO2.out.quiet K3.out).keeps k3 (fun e => by have := HLt.out _ e; omega))
        have HB3 := Kept.mk ((HB2.out.quiet K3.out).keeps k3 (fun e => by have := HLt.out _ e; omega))
        clear k3 hM3 y0 y1 y2 y3 y4 y5 y6 y7 y8 y9 y10
        go_wp2_with (at_builtin; refine wpList_append_run rfl _ _ _ rfl rfl rfl hrun ?_)
        go_roundw
        case rel => exact ⟨1, by omega, by go_num, by rw [← HE2.out]; exact HM3.out, HO3.out, HB3.out, KF.out⟩
        case measure => simp [intOf]
    | 1, _ =>
      cases a1 with
      | true =>
        have HE : Kept (decTo 9 o a0 true 2 = decTo 9 o a0 true 1) := ⟨by simp [decTo]⟩
        go_wp2_with fail
        go_roundw
        case rel => exact ⟨2, by omega, by go_num, by rw [HE.out]; exact HM.out, HO2.out, HB2.out, HK.out⟩
        case measure => simp [intOf]
      | false =>
        have HE : Kept (decTo 9 o a0 false 2 = decTo 9 o a0 false 1 ++ [⟨9, 0, 2, o.id, 0, 0, 0⟩]) := ⟨by simp [decTo]⟩
        have HE2 : Kept ((decTo 9 o a0 false 2).length = (decTo 9 o a0 false 1).length + 1) := ⟨by rw [HE.out]; simp⟩
        have K3 : Kept (Keeps (fun _ => False) wr (wr.alloc (.cells (encMs ⟨9, 0, 2, o.id, 0, 0, 0⟩).toArray 36))) := ⟨(Keeps.refl _ _).alloc _⟩
        obtain ⟨a', c', w3, hrun, hM3, k3⟩ := ms_append (m := ⟨9, 0, 2, o.id, 0, 0, 0⟩) (s := wr.heap.size) (HM.out.quiet K3.out) (by have := decTo_len 9 o a0 false 1; omega) (by have := K3.out.size; omega) (Blk.new' wr 36 (encMs ⟨9, 0, 2, o.id, 0, 0, 0⟩) _ rfl)
        rw [← HE.out, ← HE2.out] at hM3
        have HM3 := Kept.mk hM3
        have KF : Kept (Keeps (fun _ => False) w w3) := ⟨(HK.out.trans K3.out).then k3 (fun i hi e => by have := HLt.out i e; omega)⟩
        have HO3 := Kept.mk ((HO2.out.quiet K3.out).keeps k3 (fun e => by have := HLt.out _ e; omega))
        have HB3 := Kept.mk ((HB2.out.quiet K3.out).keeps k3 (fun e => by have := HLt.out _ e; omega))
        clear k3 hM3 y0 y1 y2 y3 y4 y5 y6 y7 y8 y9 y10
        go_wp2_with (at_builtin; refine wpList_append_run rfl _ _ _ rfl rfl rfl hrun ?_)
        go_roundw
        case rel => exact ⟨2, by omega, by go_num, by rw [← HE2.out]; exact HM3.out, HO3.out, HB3.out, KF.out⟩
        case measure => simp [intOf]
set_option linter.unusedSimpArgs false in
set_option maxRecDepth 100000 in
set_option maxHeartbeats 16000000 in
theorem nd_fwd (o : Ord) (a da ua : Option Addr) (c dc uc : Nat) (done undone : List Bool) (asked yes turned a0 a1 shipped d0 d1 acc : Bool) (w : World) (h : FcAt w o a c ⟨done, undone, asked, yes, turned, a0, a1, shipped, d0, d1, acc⟩ da ua) (hc : o.steps.length ≤ c) (hcm : c ≤ maxLen) (em : Fct.may o ⟨done, undone, asked, yes, turned, a0, a1, shipped, d0, d1, acc⟩ = true) (hy : yes = false) (ht : turned = false) (hl : done.length = o.steps.length) :
    Calls Try.prog 21 #[.agg #[.int .i64 o.id, .int .i64 o.item, .int .i64 o.qty, .int .i64 o.client, .int .i64 o.price, .slice a o.steps.length c], .agg #[.slice da done.length dc, .slice ua undone.length uc, .bool asked, .bool yes, .bool turned, .bool a0, .bool a1, .bool shipped, .bool d0, .bool d1, .bool acc]] w (fun e w' => (∃ v, e = .returned v ∧ MsOwn w' w.heap.size v (fwdAt o done o.steps 0)) ∧ Keeps (fun _ => False) w w') := by
  have HF0 := Kept.mk ((h.alloc (.cells #[.int .i64 o.id, .int .i64 o.item, .int .i64 o.qty, .int .i64 o.client, .int .i64 o.price, .slice a o.steps.length c] 24)).alloc (.cells #[.slice da done.length dc, .slice ua undone.length uc, .bool asked, .bool yes, .bool turned, .bool a0, .bool a1, .bool shipped, .bool d0, .bool d1, .bool acc] 42))
  have HB0 := Kept.mk (Blk.new' (w.alloc (.cells #[.int .i64 o.id, .int .i64 o.item, .int .i64 o.qty, .int .i64 o.client, .int .i64 o.price, .slice a o.steps.length c] 24)) 42 [.slice da done.length dc, .slice ua undone.length uc, .bool asked, .bool yes, .bool turned, .bool a0, .bool a1, .bool shipped, .bool d0, .bool d1, .bool acc] (w.heap.size + 1) (by simp))
  have HO0 := Kept.mk ((Blk.new' w 24 [.int .i64 o.id, .int .i64 o.item, .int .i64 o.qty, .int .i64 o.client, .int .i64 o.price, .slice a o.steps.length c] _ rfl).alloc (.cells #[.slice da done.length dc, .slice ua undone.length uc, .bool asked, .bool yes, .bool turned, .bool a0, .bool a1, .bool shipped, .bool d0, .bool d1, .bool acc] 42))
  have K0 : Kept (Keeps (fun _ => False) w ((w.alloc (.cells #[.int .i64 o.id, .int .i64 o.item, .int .i64 o.qty, .int .i64 o.client, .int .i64 o.price, .slice a o.steps.length c] 24)).alloc (.cells #[.slice da done.length dc, .slice ua undone.length uc, .bool asked, .bool yes, .bool turned, .bool a0, .bool a1, .bool shipped, .bool d0, .bool d1, .bool acc] 42))) := ⟨((Keeps.refl _ w).alloc _).alloc _⟩
  have Hh := Kept.mk h
  have hsm : (o.steps.length : Int) ≤ 9223372036854775807 := by have := h.sm; unfold maxLen at this; omega
  have hdm : (done.length : Int) ≤ 9223372036854775807 := by have := h.dm; unfold maxLen at this; simp only at this; omega
  have hum : (undone.length : Int) ≤ 9223372036854775807 := by have := h.um; unfold maxLen at this; simp only at this; omega
  clear h
  subst hy
  subst ht
  have Hl := Kept.mk hl
  clear hl
  have Em := Kept.mk em
  clear em
  have hix0 : ∀ (u v : Value) (w : World), (Instr.index 29 (.agg #[u, v]) (.int .i64 0)).run Try.prog w = .ok u w := fun _ _ _ => by kernel_rfl
  have hix1 : ∀ (u v : Value) (w : World), (Instr.index 29 (.agg #[u, v]) (.int .i64 1)).run Try.prog w = .ok v w := fun _ _ _ => by kernel_rfl
  go_enter Try.func21, Try.ntmps21
  go_wp2_with fail
  have HC := rmay_to o a da ua c dc uc ⟨done, undone, _, _, _, _, _, _, _, _, _⟩ _ HF0.out hc hcm
  rw [Em.out] at HC
  refine HC.mono ?_
  rintro e w1 ⟨rfl, k1⟩
  clear HC
  have HF1 := Kept.mk (HF0.out.keeps k1)
  have HB1 := Kept.mk (HB0.out.quiet k1)
  have HO1 := Kept.mk (HO0.out.quiet k1)
  have K1 := Kept.mk (K0.out.trans k1)
  clear k1 HF0 HB0 HO0 K0
  obtain ⟨y0, y1, y2, y3, y4, y5, y6, y7, y8, y9, y10⟩ := blk11 HB1.out
  obtain ⟨x0, x1, x2, x3, x4, x5⟩ := blk6 HO1.out
  have hz1 := HB1.out.lt
  go_wp2_with fail
  clear hix0 hix1
  go_loopw [45] (fun i wr => ∃ k : Nat, k ≤ o.steps.length ∧ i = .int .i64 k ∧ Kept (fwdAt o done o.steps 0 = fwdAt o (done.drop k) (o.steps.drop k) k) ∧ Blk wr w.heap.size 24 [.int .i64 o.id, .int .i64 o.item, .int .i64 o.qty, .int .i64 o.client, .int .i64 o.price, .slice a o.steps.length c] ∧ Blk wr (w.heap.size + 1) 42 [.slice da done.length dc, .slice ua undone.length uc, .bool asked, .bool false, .bool false, .bool a0, .bool a1, .bool shipped, .bool d0, .bool d1, .bool acc] ∧ Keeps (fun _ => False) w wr) (fun i _ => o.steps.length - (intOf i).toNat)
  case atStart => exact ⟨0, Nat.zero_le _, rfl, ⟨by rw [List.drop_zero, List.drop_zero]; rfl⟩, HO1.out, HB1.out, K1.out⟩
  case round =>
    obtain ⟨k, hk, rfl, hf, hO, hB, hK⟩ := hrel
    have HK := Kept.mk hK
    have HO2 := Kept.mk hO
    have HB2 := Kept.mk hB
    clear y0 y1 y2 y3 y4 y5 y6 y7 y8 y9 y10 x0 x1 x2 x3 x4 x5
    obtain ⟨y0, y1, y2, y3, y4, y5, y6, y7, y8, y9, y10⟩ := blk11 hB
    obtain ⟨x0, x1, x2, x3, x4, x5⟩ := blk6 hO
    have hz := hB.lt
    have hz0 := hO.lt
    clear hO hB hK
    by_cases hlt : k < o.steps.length
    · obtain ⟨x, hx⟩ : ∃ x, o.steps[k]? = some x := ⟨_, List.getElem?_eq_getElem hlt⟩
      have hld : k < done.length := by have := Hl.out; omega
      obtain ⟨y, hy⟩ : ∃ y, done[k]? = some y := ⟨_, List.getElem?_eq_getElem hld⟩
      have hd : Kept (o.steps.drop k = x :: o.steps.drop (k + 1)) := ⟨by rw [List.drop_eq_getElem_cons hlt]; rw [List.getElem?_eq_getElem hlt] at hx; simp only [Option.some.injEq] at hx; rw [hx]⟩
      have hd2 : Kept (done.drop k = y :: done.drop (k + 1)) := ⟨by rw [List.drop_eq_getElem_cons hld]; rw [List.getElem?_eq_getElem hld] at hy; simp only [Option.some.injEq] at hy; rw [hy]⟩
      have hh := Hh.out.keeps HK.out
      obtain ⟨g, off, rfl, hgl, s0, s1⟩ := hh.steps k x hx
      obtain ⟨g2, off2, rfl, hgl2, e0⟩ := hh.done k y hy
      obtain ⟨z1, z2⟩ := x
      simp only at s0 s1
      have hki : (k : Int) < done.length := by omega
      clear hx hy hh
      cases y with
      | true =>
        go_wp2_with fail
        go_roundw
        case rel => exact ⟨k + 1, by omega, by go_num, ⟨by rw [hf.out, hd.out, hd2.out]; rfl⟩, HO2.out.alloc _, HB2.out.alloc _, HK.out.alloc _⟩
        case measure => simp [intOf]; omega
      | false =>
        have hres : Kept (fwdAt o done o.steps 0 = [⟨1, 0, z1, o.id, k, z2, 0⟩]) := ⟨by rw [hf.out, hd.out, hd2.out]; rfl⟩
        have hr0 := World.ownsRow_lit (base := w.heap.size) (e := 36) (size := 7) (wr.alloc (.cells #[.int .i64 z1, .int .i64 z2] 38)) (encMs ⟨1, 0, z1, o.id, k, z2, 0⟩).toArray 1 (by have := HK.out.size; simp; omega) (by decide) rfl
        rw [World.size_alloc] at hr0
        have HR := Kept.mk hr0
        clear hr0
        go_wp2_with fail
        go_ret
        rw [hres.out]
        exact ⟨⟨_, rfl, HR.out⟩, (HK.out.alloc _).alloc _⟩
    · obtain rfl : k = o.steps.length := by omega
      have hres : Kept (fwdAt o done o.steps 0 = [⟨6, 0, 1, o.id, 0, o.item, o.qty⟩, ⟨6, 0, 2, o.id, 0, o.client, o.price⟩]) := ⟨by rw [hf.out, List.drop_length, List.drop_of_length_le (by have := Hl.out; omega)]; rfl⟩
      have hr0 := World.ownsRow_lit (base := w.heap.size) (e := 36) (size := 7) wr (encMs ⟨6, 0, 1, o.id, 0, o.item, o.qty⟩ ++ encMs ⟨6, 0, 2, o.id, 0, o.client, o.price⟩).toArray 2 (by have := HK.out.size; omega) (by decide) rfl
      have HR := Kept.mk hr0
      clear hr0
      go_wp2_with fail
      go_ret
      rw [hres.out]
      exact ⟨⟨_, rfl, HR.out⟩, HK.out.alloc _⟩
theorem rneeds_to (o : Ord) (a da ua : Option Addr) (c dc uc : Nat) (f : Fct) (w : World) (h : FcAt w o a c f da ua) (hc : o.steps.length ≤ c) (hcm : c ≤ maxLen) :
    Calls Try.prog 21 #[.agg #[.int .i64 o.id, .int .i64 o.item, .int .i64 o.qty, .int .i64 o.client, .int .i64 o.price, .slice a o.steps.length c], .agg #[.slice da f.done.length dc, .slice ua f.undone.length uc, .bool f.asked, .bool f.yes, .bool f.turned, .bool f.a0, .bool f.a1, .bool f.shipped, .bool f.d0, .bool f.d1, .bool f.acc]] w (fun e w' => (∃ v, e = .returned v ∧ MsOwn w' w.heap.size v (nextL o f)) ∧ Keeps (fun _ => False) w w') := by
  obtain ⟨done, undone, asked, yes, turned, a0, a1, shipped, d0, d1, acc⟩ := f
  by_cases hm : Fct.may o ⟨done, undone, asked, yes, turned, a0, a1, shipped, d0, d1, acc⟩ = true
  · obtain ⟨h0, h1, h2⟩ := Fct.may_parts hm
    have h3 := Ord.may_len h0
    cases turned with
    | true =>
      have := nd_turned o a da ua c dc uc done undone asked yes _ a0 a1 shipped d0 d1 acc w h hc hcm hm rfl h2 h3
      simpa [nextL, hm] using this
    | false => cases yes with
      | false =>
        have := nd_fwd o a da ua c dc uc done undone asked _ _ a0 a1 shipped d0 d1 acc w h hc hcm hm rfl rfl h1
        simpa [nextL, hm] using this
      | true => cases shipped with
        | true =>
          have := nd_told o a da ua c dc uc done undone asked _ _ a0 a1 _ d0 d1 acc w h hc hcm hm rfl rfl rfl
          simpa [nextL, hm] using this
        | false =>
          have := nd_ship o a da ua c dc uc done undone asked _ _ a0 a1 _ d0 d1 acc w h hc hcm hm rfl rfl rfl
          simpa [nextL, hm] using this
  · have hm2 : Fct.may o ⟨done, undone, asked, yes, turned, a0, a1, shipped, d0, d1, acc⟩ = false := by simpa using hm
    have := nd_no o a da ua c dc uc done undone asked yes turned a0 a1 shipped d0 d1 acc w h hc hcm hm2
    simpa [nextL, hm2] using this
end Go.Proofs.Ytfcnegnkmacajaa
