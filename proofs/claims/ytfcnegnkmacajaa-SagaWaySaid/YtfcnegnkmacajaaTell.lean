/- Package saga's tell and forward, walked. -/
import Derived.Test.YtfcnegnkmacajaaFacts0
import Derived.Test.YtfcnegnkmacajaaMsgs
import Derived.Deep.RegionHeld3
import Derived.Deep.CutRange
namespace Go.Proofs.Ytfcnegnkmacajaa
open Go.RowKit
theorem kcell {W w1 : World} (hb : Keeps (fun _ => False) W w1) : (∀ b o, b < W.heap.size → w1.cell? ⟨b, o, none⟩ = W.cell? ⟨b, o, none⟩) ∧ (∀ b o, b < W.heap.size → w1.frozen? ⟨b, o, none⟩ = W.frozen? ⟨b, o, none⟩) :=
  ⟨fun b o h => hb.cell (p := ⟨b, o, none⟩) h (fun h => h), fun b o h => hb.frozen (p := ⟨b, o, none⟩) h (fun h => h)⟩
theorem ordS_keep {W w1 : World} {b : Nat} {v0 v1 v2 v3 v4 v5 : Value} (k : Keeps (fun _ => False) W w1) (hl : b < W.heap.size)
    (h : W.cell? ⟨b, 0, none⟩ = some v0 ∧ W.cell? ⟨b, 1, none⟩ = some v1 ∧ W.cell? ⟨b, 2, none⟩ = some v2 ∧ W.cell? ⟨b, 3, none⟩ = some v3 ∧ W.cell? ⟨b, 4, none⟩ = some v4 ∧ W.cell? ⟨b, 5, none⟩ = some v5) :
    w1.cell? ⟨b, 0, none⟩ = some v0 ∧ w1.cell? ⟨b, 1, none⟩ = some v1 ∧ w1.cell? ⟨b, 2, none⟩ = some v2 ∧ w1.cell? ⟨b, 3, none⟩ = some v3 ∧ w1.cell? ⟨b, 4, none⟩ = some v4 ∧ w1.cell? ⟨b, 5, none⟩ = some v5 :=
  ⟨(k.cell (p := ⟨b, 0, none⟩) hl (fun h => h)).trans h.1, (k.cell (p := ⟨b, 1, none⟩) hl (fun h => h)).trans h.2.1, (k.cell (p := ⟨b, 2, none⟩) hl (fun h => h)).trans h.2.2.1, (k.cell (p := ⟨b, 3, none⟩) hl (fun h => h)).trans h.2.2.2.1, (k.cell (p := ⟨b, 4, none⟩) hl (fun h => h)).trans h.2.2.2.2.1, (k.cell (p := ⟨b, 5, none⟩) hl (fun h => h)).trans h.2.2.2.2.2⟩
theorem tell_to (k d : Int) (o : Ord) (a : Option Addr) (c : Nat) (w : World) : Calls Try.prog 27 #[.int .i64 k, .int .i64 d, .agg #[.int .i64 o.id, .int .i64 o.item, .int .i64 o.qty, .int .i64 o.client, .int .i64 o.price, .slice a o.steps.length c]] w
    (fun e w' => e = .returned (.agg #[.int .i64 k, .int .i64 0, .int .i64 d, .int .i64 o.id, .int .i64 0, .int .i64 0, .int .i64 0]) ∧ (w.alloc (.cells #[.int .i64 o.id, .int .i64 o.item, .int .i64 o.qty, .int .i64 o.client, .int .i64 o.price, .slice a o.steps.length c] 24)).alloc (.cells #[.int .i64 k, .int .i64 0, .int .i64 d, .int .i64 o.id, .int .i64 0, .int .i64 0, .int .i64 0] 36) = w') := by
  go_enter Try.func27, Try.ntmps27
  go_wp2
  exact bodyPost_ret (v := .agg #[.int .i64 k, .int .i64 0, .int .i64 d, .int .i64 o.id, .int .i64 0, .int .i64 0, .int .i64 0]) (by simp [results, Try.results27, go_sem]) rfl ⟨rfl, rfl⟩
/-- The same, by what it keeps. -/
theorem tell_k (k d : Int) (b : Nat) (o : Ord) (a : Option Addr) (c : Nat) (w : World) (h : w.cell? ⟨b, 0, none⟩ = some (.int .i64 o.id) ∧ w.cell? ⟨b, 1, none⟩ = some (.int .i64 o.item) ∧ w.cell? ⟨b, 2, none⟩ = some (.int .i64 o.qty) ∧ w.cell? ⟨b, 3, none⟩ = some (.int .i64 o.client) ∧ w.cell? ⟨b, 4, none⟩ = some (.int .i64 o.price) ∧ w.cell? ⟨b, 5, none⟩ = some (.slice a o.steps.length c)) :
    Calls Try.prog 27 #[.int .i64 k, .int .i64 d, .agg #[.int .i64 o.id, .int .i64 o.item, .int .i64 o.qty, .int .i64 o.client, .int .i64 o.price, .slice a o.steps.length c]] w
    (fun e w' => e = .returned (.agg #[.int .i64 k, .int .i64 0, .int .i64 d, .int .i64 o.id, .int .i64 0, .int .i64 0, .int .i64 0]) ∧ (w'.cell? ⟨b, 0, none⟩ = some (.int .i64 o.id) ∧ w'.cell? ⟨b, 1, none⟩ = some (.int .i64 o.item) ∧ w'.cell? ⟨b, 2, none⟩ = some (.int .i64 o.qty) ∧ w'.cell? ⟨b, 3, none⟩ = some (.int .i64 o.client) ∧ w'.cell? ⟨b, 4, none⟩ = some (.int .i64 o.price) ∧ w'.cell? ⟨b, 5, none⟩ = some (.slice a o.steps.length c)) ∧ Keeps (fun _ => False) w w') := by
  refine (tell_to k d o a c w).mono ?_
  rintro e w' ⟨rfl, rfl⟩
  have k : Keeps (fun _ => False) w ((w.alloc (.cells #[.int .i64 o.id, .int .i64 o.item, .int .i64 o.qty, .int .i64 o.client, .int .i64 o.price, .slice a o.steps.length c] 24)).alloc (.cells #[.int .i64 k, .int .i64 0, .int .i64 d, .int .i64 o.id, .int .i64 0, .int .i64 0, .int .i64 0] 36)) := ((Keeps.refl _ w).alloc _).alloc _
  exact ⟨rfl, ordS_keep k (World.block_lt_of_cell? w _ h.1) h, k⟩
/-- What is to be done next, ahead of any decision. -/
def fwdAt (o : Ord) : List Bool → List St → Int → List Ms
  | false :: _, s :: _, k => [⟨1, 0, s.1, o.id, k, s.2, 0⟩]
  | true :: dn, _ :: r, k => fwdAt o dn r (k + 1)
  | _, _, _ => [⟨6, 0, 1, o.id, 0, o.item, o.qty⟩, ⟨6, 0, 2, o.id, 0, o.client, o.price⟩]
set_option linter.unusedSimpArgs false in
set_option maxRecDepth 100000 in
set_option maxHeartbeats 16000000 in
theorem forward_to (o : Ord) (a da ua : Option Addr) (c dc uc : Nat) (f : Fct) (w : World) (h : FcAt w o a c f da ua) (hl : f.done.length = o.steps.length) :
    Calls Try.prog 28 #[.agg #[.int .i64 o.id, .int .i64 o.item, .int .i64 o.qty, .int .i64 o.client, .int .i64 o.price, .slice a o.steps.length c], .agg #[.slice da f.done.length dc, .slice ua f.undone.length uc, .bool f.asked, .bool f.yes, .bool f.turned, .bool f.a0, .bool f.a1, .bool f.shipped, .bool f.d0, .bool f.d1, .bool f.acc]] w (fun e w' => (∃ v, e = .returned v ∧ MsOwn w' w.heap.size v (fwdAt o f.done o.steps 0)) ∧ Keeps (fun _ => False) w w') := by
  have hsm : (o.steps.length : Int) ≤ 9223372036854775807 := by have := h.sm; unfold maxLen at this; omega
  have HF := Kept.mk ((h.alloc (.cells #[.int .i64 o.id, .int .i64 o.item, .int .i64 o.qty, .int .i64 o.client, .int .i64 o.price, .slice a o.steps.length c] 24)).alloc (.cells #[.slice da f.done.length dc, .slice ua f.undone.length uc, .bool f.asked, .bool f.yes, .bool f.turned, .bool f.a0, .bool f.a1, .bool f.shipped, .bool f.d0, .bool f.d1, .bool f.acc] 31))
  have HO := Kept.mk ((Blk.new w 24 [.int .i64 o.id, .int .i64 o.item, .int .i64 o.qty, .int .i64 o.client, .int .i64 o.price, .slice a o.steps.length c]).alloc (.cells #[.slice da f.done.length dc, .slice ua f.undone.length uc, .bool f.asked, .bool f.yes, .bool f.turned, .bool f.a0, .bool f.a1, .bool f.shipped, .bool f.d0, .bool f.d1, .bool f.acc] 31))
  have HB := Kept.mk (Blk.new (w.alloc (.cells #[.int .i64 o.id, .int .i64 o.item, .int .i64 o.qty, .int .i64 o.client, .int .i64 o.price, .slice a o.steps.length c] 24)) 31 [.slice da f.done.length dc, .slice ua f.undone.length uc, .bool f.asked, .bool f.yes, .bool f.turned, .bool f.a0, .bool f.a1, .bool f.shipped, .bool f.d0, .bool f.d1, .bool f.acc])
  have hbs : (w.alloc (.cells #[.int .i64 o.id, .int .i64 o.item, .int .i64 o.qty, .int .i64 o.client, .int .i64 o.price, .slice a o.steps.length c] 24)).heap.size = w.heap.size + 1 := World.size_alloc _ _
  rw [hbs] at HB
  have K0 : Kept (Keeps (fun _ => False) w ((w.alloc (.cells #[.int .i64 o.id, .int .i64 o.item, .int .i64 o.qty, .int .i64 o.client, .int .i64 o.price, .slice a o.steps.length c] 24)).alloc (.cells #[.slice da f.done.length dc, .slice ua f.undone.length uc, .bool f.asked, .bool f.yes, .bool f.turned, .bool f.a0, .bool f.a1, .bool f.shipped, .bool f.d0, .bool f.d1, .bool f.acc] 31))) := ⟨((Keeps.refl _ w).alloc _).alloc _⟩
  have HH := Kept.mk h
  have Hl := Kept.mk hl
  clear h hbs hl
  go_enter Try.func28, Try.ntmps28
  go_wp2_with fail
  go_loopw [13] (fun i wr => ∃ k : Nat, k ≤ o.steps.length ∧ i = .int .i64 k ∧ Kept (fwdAt o f.done o.steps 0 = fwdAt o (f.done.drop k) (o.steps.drop k) k) ∧ Blk wr w.heap.size 24 [.int .i64 o.id, .int .i64 o.item, .int .i64 o.qty, .int .i64 o.client, .int .i64 o.price, .slice a o.steps.length c] ∧ Blk wr (w.heap.size + 1) 31 [.slice da f.done.length dc, .slice ua f.undone.length uc, .bool f.asked, .bool f.yes, .bool f.turned, .bool f.a0, .bool f.a1, .bool f.shipped, .bool f.d0, .bool f.d1, .bool f.acc] ∧ Keeps (fun _ => False) w wr) (fun i _ => o.steps.length - (intOf i).toNat)
  case atStart => exact ⟨0, Nat.zero_le _, rfl, ⟨by rw [List.drop_zero, List.drop_zero]; rfl⟩, HO.out, HB.out, K0.out⟩
  case round =>
    obtain ⟨k, hk, rfl, hf, hO, hB, hK⟩ := hrel
    have HK := Kept.mk hK
    have HO2 := Kept.mk hO
    have HB2 := Kept.mk hB
    have b0 := hB.cell 0 rfl
    have o0 := hO.cell 0 rfl
    have o1 := hO.cell 1 rfl
    have o2 := hO.cell 2 rfl
    have o3 := hO.cell 3 rfl
    have o4 := hO.cell 4 rfl
    have o5 := hO.cell 5 rfl
    have hz1 := hB.lt
    have hz2 := hO.lt
    clear hK hO hB
    by_cases hlt : k < o.steps.length
    · obtain ⟨x, hx⟩ : ∃ x, o.steps[k]? = some x := ⟨_, List.getElem?_eq_getElem hlt⟩
      have hld : k < f.done.length := by have := Hl.out; omega
      obtain ⟨y, hy⟩ : ∃ y, f.done[k]? = some y := ⟨_, List.getElem?_eq_getElem hld⟩
      have hd : Kept (o.steps.drop k = x :: o.steps.drop (k + 1)) := ⟨by rw [List.drop_eq_getElem_cons hlt]; rw [List.getElem?_eq_getElem hlt] at hx; simp only [Option.some.injEq] at hx; rw [hx]⟩
      have hd2 : Kept (f.done.drop k = y :: f.done.drop (k + 1)) := ⟨by rw [List.drop_eq_getElem_cons hld]; rw [List.getElem?_eq_getElem hld] at hy; simp only [Option.some.injEq] at hy; rw [hy]⟩
      have hh := HH.out.keeps HK.out
      obtain ⟨g, off, rfl, hgl, d0, d1⟩ := hh.steps k x hx
      obtain ⟨g2, off2, rfl, hgl2, e0⟩ := hh.done k y hy
      obtain ⟨x1, x2⟩ := x
      simp only at d0 d1
      have hki : (k : Int) < f.done.length := by omega
      clear hx hy hh
      cases y with
      | true =>
        go_wp2_with fail
        go_roundw
        case rel => exact ⟨k + 1, by omega, by go_num, ⟨by rw [hf.out, hd.out, hd2.out]; rfl⟩, HO2.out.alloc _, HB2.out.alloc _, HK.out.alloc _⟩
        case measure => simp [intOf]; omega
      | false =>
        have HX := Kept.mk (Blk.new wr 38 [.int .i64 x1, .int .i64 x2])
        have HO3 := Kept.mk (HO2.out.alloc (.cells #[.int .i64 x1, .int .i64 x2] 38))
        have hres : Kept (fwdAt o f.done o.steps 0 = [⟨1, 0, x1, o.id, k, x2, 0⟩]) := ⟨by rw [hf.out, hd.out, hd2.out]; rfl⟩
        go_wp2_with fail
        refine (tell_to 1 x1 o _ c _).mono ?_
        rintro e w2 ⟨rfl, hw2⟩
        have k2 : Keeps (fun _ => False) (wr.alloc (.cells #[.int .i64 x1, .int .i64 x2] 38)) w2 := by rw [← hw2]; exact ((Keeps.refl _ _).alloc _).alloc _
        clear hw2
        have hx2 := HX.out.keeps k2 (fun h => h)
        have s1 := hx2.cell 1 rfl
        have hz3 := hx2.lt
        have K2 := Kept.mk ((HK.out.alloc (.cells #[.int .i64 x1, .int .i64 x2] 38)).trans k2)
        clear k2 hx2
        go_wp2_with fail
        go_region
        go_wp2_with fail
        go_ret
        rw [hres.out]
        have hM : MsOwn (((w2.alloc (.cells (encMs ⟨1, 0, x1, o.id, k, x2, 0⟩).toArray 36)).alloc (.cells (encMs ⟨1, 0, x1, o.id, k, x2, 0⟩).toArray 36)).drew) w.heap.size (.slice (some ⟨w2.heap.size + 1, 0, none⟩) 1 1) [⟨1, 0, x1, o.id, k, x2, 0⟩] := by
          have := World.ownsRow_lit (base := w.heap.size) (e := 36) (size := 7) (w2.alloc (.cells (encMs ⟨1, 0, x1, o.id, k, x2, 0⟩).toArray 36)) (encMs ⟨1, 0, x1, o.id, k, x2, 0⟩).toArray 1 (by have := K2.out.size; simp; omega) (by decide) rfl
          rw [World.size_alloc] at this
          exact this.drew
        exact ⟨⟨_, rfl, hM⟩, ((K2.out.alloc _).alloc _).drew⟩
    · obtain rfl : k = o.steps.length := by omega
      have hres : Kept (fwdAt o f.done o.steps 0 = [⟨6, 0, 1, o.id, 0, o.item, o.qty⟩, ⟨6, 0, 2, o.id, 0, o.client, o.price⟩]) := ⟨by rw [hf.out, List.drop_length, List.drop_of_length_le (by have := Hl.out; omega)]; rfl⟩
      have HS0 := Kept.mk (blk6 HO2.out)
      go_upto_region 9 with fail
      go_cut [8, 9] from 10 to 54 (fun x y wc => ∃ p q : Nat, x = .pointer (some ⟨p, 0, none⟩) ∧ y = .pointer (some ⟨q, 0, none⟩) ∧ Kept (p ≠ q ∧ wr.heap.size ≤ p ∧ wr.heap.size ≤ q) ∧ Blk wc p 36 (encMs ⟨6, 0, 1, o.id, 0, 0, 0⟩) ∧ Blk wc q 36 (encMs ⟨6, 0, 2, o.id, 0, 0, 0⟩) ∧ Keeps (fun _ => False) wr wc)
      case first =>
        go_region_held3 (fun W => W.cell? ⟨w.heap.size, 0, none⟩ = some (.int .i64 o.id) ∧ W.cell? ⟨w.heap.size, 1, none⟩ = some (.int .i64 o.item) ∧ W.cell? ⟨w.heap.size, 2, none⟩ = some (.int .i64 o.qty) ∧ W.cell? ⟨w.heap.size, 3, none⟩ = some (.int .i64 o.client) ∧ W.cell? ⟨w.heap.size, 4, none⟩ = some (.int .i64 o.price) ∧ W.cell? ⟨w.heap.size, 5, none⟩ = some (.slice a o.steps.length c)) ((refine ordS_keep (W := wr) ?_ hz2 HS0.out; repeat (first | exact Keeps.refl _ _ | refine Keeps.drew ?_ | refine Keeps.alloc ?_ _ | (refine Keeps.setCell ?_ (.inl (by simp; omega)) _)))) (first | (go_at_call 27; refine (tell_to _ _ o a c _).mono ?_; rintro e _ ⟨rfl, rfl⟩))
        all_goals go_wp2_with fail
        all_goals
          go_meet
          refine ⟨_, _, rfl, rfl, ⟨by omega, by omega, by omega⟩, ?_, ?_, ?_⟩
          · refine Blk.drew ?_
            repeat (first | (refine Blk.new' _ _ _ _ ?_; simp; done) | refine Blk.alloc ?_ _)
          · refine Blk.drew ?_
            repeat (first | (refine Blk.new' _ _ _ _ ?_; simp; done) | refine Blk.alloc ?_ _)
          · repeat (first | exact Keeps.refl _ _ | refine Keeps.drew ?_ | refine Keeps.alloc ?_ _)
      case rest =>
        obtain ⟨p, q, rfl, rfl, hpq, hP, hQ, hk⟩ := hcut
        have HP := Kept.mk hP
        have HQ := Kept.mk hQ
        have KC := Kept.mk hk
        obtain ⟨z0, z1, z2, z3, z4, z5⟩ := blk6 (HO2.out.keeps hk (fun h => h))
        have p0 := hP.cell 0 rfl
        have p1 := hP.cell 1 rfl
        have p2 := hP.cell 2 rfl
        have p3 := hP.cell 3 rfl
        have p4 := hP.cell 4 rfl
        have p5 := hP.cell 5 rfl
        have p6 := hP.cell 6 rfl
        have f5 := hP.frozen 5
        have f6 := hP.frozen 6
        obtain ⟨hn1, hn2, hn3⟩ := hpq.out
        have hn4 : p ≠ w.heap.size := by omega
        have hn5 : q ≠ w.heap.size := by omega
        have q0 := hQ.cell 0 rfl
        have q1 := hQ.cell 1 rfl
        have q2 := hQ.cell 2 rfl
        have q3 := hQ.cell 3 rfl
        have q4 := hQ.cell 4 rfl
        have q5 := hQ.cell 5 rfl
        have q6 := hQ.cell 6 rfl
        have g5 := hQ.frozen 5
        have g6 := hQ.frozen 6
        clear hP hQ hk o0 o1 o2 o3 o4 o5 b0
        go_wp2_with fail
        go_region
        go_wp2_with fail
        go_region
        have hsz : (((((wc.setCell ⟨p, 5, none⟩ (.int .i64 o.item)).setCell ⟨p, 6, none⟩ (.int .i64 o.qty)).setCell ⟨q, 5, none⟩ (.int .i64 o.client)).setCell ⟨q, 6, none⟩ (.int .i64 o.price)).drew.drew).heap.size = wc.heap.size := by show (Array.size _) = _; simp [World.setCell]
        have hr0 := World.ownsRow_lit (base := w.heap.size) (e := 36) (size := 7) (((((wc.setCell ⟨p, 5, none⟩ (.int .i64 o.item)).setCell ⟨p, 6, none⟩ (.int .i64 o.qty)).setCell ⟨q, 5, none⟩ (.int .i64 o.client)).setCell ⟨q, 6, none⟩ (.int .i64 o.price)).drew.drew) (encMs ⟨6, 0, 1, o.id, 0, o.item, o.qty⟩ ++ encMs ⟨6, 0, 2, o.id, 0, o.client, o.price⟩).toArray 2 (by rw [hsz]; have := KC.out.size; omega) (by decide) rfl
        rw [hsz] at hr0
        have HR := Kept.mk hr0
        clear hsz hr0
        have HKF := Kept.mk (((((((HK.out.trans KC.out).setCell (p := ⟨p, 5, none⟩) (.inl (by show w.heap.size ≤ p; omega)) (.int .i64 o.item)).setCell (p := ⟨p, 6, none⟩) (.inl (by show w.heap.size ≤ p; omega)) (.int .i64 o.qty)).setCell (p := ⟨q, 5, none⟩) (.inl (by show w.heap.size ≤ q; omega)) (.int .i64 o.client)).setCell (p := ⟨q, 6, none⟩) (.inl (by show w.heap.size ≤ q; omega)) (.int .i64 o.price)).drew).drew)
        go_wp2_with fail
        go_ret
        rw [hres.out]
        exact ⟨⟨_, rfl, HR.out⟩, HKF.out.alloc _⟩
end Go.Proofs.Ytfcnegnkmacajaa
