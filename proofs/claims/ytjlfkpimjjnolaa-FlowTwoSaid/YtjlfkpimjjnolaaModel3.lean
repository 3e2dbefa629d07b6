/- Package model, walked: Clean, New, See. -/
import Derived.Test.YtjlfkpimjjnolaaModel2
import Derived.Deep.RegionHeld3
namespace Go.Proofs.Ytjlfkpimjjnolaa
open Go.RowKit
theorem clean_nil (w : World) : Calls Try.prog 24 #[.pointer none] w (fun e w' => e = .returned (.bool false) ∧ Keeps (fun _ => False) w w') := by
  go_enter Try.func24, Try.ntmps24
  go_wp2_with fail
  refine (saw_nil _ _ _).mono ?_
  rintro e _ ⟨rfl, rfl⟩
  go_wp2_with fail
  go_ret
  exact ⟨rfl, (Keeps.refl _ w).alloc _⟩
set_option maxHeartbeats 1000000 in
theorem clean_to (p : Nat) (a b : Option Addr) (c d : Nat) (o : Ord) (A : List Act2) (r : Bool) (w : World) (h : ModAt w p a c b d o A) (hr : cleanB o A = r) :
    Calls Try.prog 24 #[.pointer (some ⟨p, 0, none⟩)] w (fun e w' => e = .returned (.bool r) ∧ Keeps (fun _ => False) w w') := by
  subst hr
  have H := Kept.mk (h.alloc (.cells #[.pointer (some ⟨p, 0, none⟩)] 36))
  have HB := Kept.mk (Blk.new w 36 [.pointer (some ⟨p, 0, none⟩)])
  clear h
  cases h1 : hasAct A 14 0 with
  | false =>
    have H1 := Kept.mk h1
    have Hr : Kept (cleanB o A = false) := ⟨by unfold cleanB; rw [h1]; rfl⟩
    rw [Hr.out]
    clear h1
    go_enter Try.func24, Try.ntmps24
    go_wp2_with fail
    refine (saw_to p a b c d o A 14 0 false _ H.out H1.out).mono ?_
    rintro e w1 ⟨rfl, k1⟩
    go_wp2_with fail
    go_ret
    exact ⟨rfl, ((Keeps.refl _ w).alloc _).trans k1⟩
  | true =>
    have H1 := Kept.mk h1
    obtain ⟨q, hq⟩ : ∃ q, Kept (o.steps.any (heldB o A) = q) := ⟨_, ⟨rfl⟩⟩
    have Hr : Kept (cleanB o A = !q) := ⟨by unfold cleanB; rw [h1, hq.out]; rfl⟩
    rw [Hr.out]
    clear h1
    go_enter Try.func24, Try.ntmps24
    go_wp2_with fail
    refine (saw_to p a b c d o A 14 0 true _ H.out H1.out).mono ?_
    rintro e w1 ⟨rfl, k1⟩
    have h1 := H.out.keeps k1
    have H1 := Kept.mk h1
    have hb1 := HB.out.keeps k1 (fun h => h)
    have b0 := hb1.cell 0 rfl
    have c5 := h1.cells.cell 5 rfl
    have B0 := Kept.mk (hb1.cell 0 rfl)
    clear h1 hb1
    go_wp2_with fail
    refine (heldAny_to p a b c d o A _ q _ H1.out B0.out hq.out).mono ?_
    rintro e w2 ⟨rfl, k2⟩
    go_wp2_with fail
    go_ret
    exact ⟨rfl, (((Keeps.refl _ w).alloc _).trans k1).trans k2⟩
/-- What New answers. -/
def NewM (w : World) (o : Ord) (e : Ending) (w' : World) : Prop := ∃ p a c, e = .returned (.pointer (some ⟨p, 0, none⟩)) ∧ ModAt w' p a c none 0 o [] ∧ w.heap.size ≤ p ∧ Keeps (fun _ => False) w w'
set_option maxHeartbeats 2000000 in
theorem newM_no (o : Ord) (a : Option Addr) (c : Nat) (w : World) (hL : StRow w a o.steps) (hm : o.steps.length ≤ maxLen) (hr : o.may = false) :
    Calls Try.prog 15 #[.agg #[.int .i64 o.id, .int .i64 o.item, .int .i64 o.qty, .int .i64 o.client, .int .i64 o.price, .slice a o.steps.length c]] w (fun e w' => e = .returned (.pointer none) ∧ Keeps (fun _ => False) w w') := by
  have HL := Kept.mk (hL.alloc (.cells #[.int .i64 o.id, .int .i64 o.item, .int .i64 o.qty, .int .i64 o.client, .int .i64 o.price, .slice a o.steps.length c] 24))
  have Hr := Kept.mk hr
  have HM := Kept.mk hm
  clear hL hr hm
  go_enter Try.func15, Try.ntmps15
  go_wp2_with fail
  refine (omay_to o a c false _ HL.out HM.out Hr.out).mono ?_
  rintro e w1 ⟨rfl, k1⟩
  go_wp2_with fail
  go_ret
  exact ⟨rfl, ((Keeps.refl _ w).alloc _).trans k1⟩
set_option maxHeartbeats 2000000 in
theorem newM_yes (o : Ord) (a : Option Addr) (c : Nat) (w : World) (hL : StRow w a o.steps) (hr : o.may = true) :
    Calls Try.prog 15 #[.agg #[.int .i64 o.id, .int .i64 o.item, .int .i64 o.qty, .int .i64 o.client, .int .i64 o.price, .slice a o.steps.length c]] w (NewM w o) := by
  have HL := Kept.mk (hL.alloc (.cells #[.int .i64 o.id, .int .i64 o.item, .int .i64 o.qty, .int .i64 o.client, .int .i64 o.price, .slice a o.steps.length c] 24))
  have HB := Kept.mk (Blk.new w 24 [.int .i64 o.id, .int .i64 o.item, .int .i64 o.qty, .int .i64 o.client, .int .i64 o.price, .slice a o.steps.length c])
  have Hr := Kept.mk hr
  have hl3 := Ord.may_len hr
  have HM : Kept (o.steps.length ≤ maxLen) := ⟨by unfold maxLen; omega⟩
  have HN : Kept (o.steps.length ≤ 100000) := ⟨by omega⟩
  clear hL hr
  go_enter Try.func15, Try.ntmps15
  go_wp2_with fail
  refine (omay_to o a c true _ HL.out HM.out Hr.out).mono ?_
  rintro e w1 ⟨rfl, k1⟩
  have HL1 := Kept.mk (HL.out.quiet k1)
  have HB1 := Kept.mk (HB.out.keeps k1 (fun h => h))
  have K1 := Kept.mk (((Keeps.refl (fun _ => False) w).alloc _).trans k1)
  have b5 := HB1.out.cell 5 rfl
  clear k1
  go_wp2_with fail
  refine (cloneSt_to a c o.steps _ HL1.out HN.out).mono ?_
  rintro e w2 ⟨v, rfl, hv, k2⟩
  obtain ⟨a2, c2, rfl, _, _, _, hR, hab⟩ := ownsRow_steps hv
  have hb2 := HB1.out.keeps k2 (fun h => h)
  have HB2 := Kept.mk hb2
  have hl2 := hb2.lt
  have d0 := hb2.cell 0 rfl
  have d1 := hb2.cell 1 rfl
  have d2 := hb2.cell 2 rfl
  have d3 := hb2.cell 3 rfl
  have d4 := hb2.cell 4 rfl
  have d5 := hb2.cell 5 rfl
  have f5 := hb2.frozen 5
  have HR := Kept.mk hR
  have K2 := Kept.mk k2
  have Hab := Kept.mk hab
  clear k2 hb2 hv hR hab
  have hfin : Kept (NewM w o (.returned (.pointer (some ⟨w2.heap.size, 0, none⟩))) ((w2.setCell ⟨w.heap.size, 5, none⟩ (.slice a2 o.steps.length c2)).alloc (.cells #[.int .i64 o.id, .int .i64 o.item, .int .i64 o.qty, .int .i64 o.client, .int .i64 o.price, .slice a2 o.steps.length c2, .slice none 0 0] 59))) := ⟨by
    have hb := Blk.new (w2.setCell ⟨w.heap.size, 5, none⟩ (.slice a2 o.steps.length c2)) 59 [.int .i64 o.id, .int .i64 o.item, .int .i64 o.qty, .int .i64 o.client, .int .i64 o.price, .slice a2 o.steps.length c2, .slice none 0 0]
    rw [size_set] at hb
    have hw1 : w.heap.size < w1.heap.size := HB1.out.lt
    have ks : Keeps (fun k => k = w.heap.size) w2 (w2.setCell ⟨w.heap.size, 5, none⟩ (.slice a2 o.steps.length c2)) := (Keeps.refl (fun k => k = w.heap.size) w2).setCell (p := ⟨w.heap.size, 5, none⟩) (.inr rfl) _
    have kall : Keeps (fun _ => False) w (w2.setCell ⟨w.heap.size, 5, none⟩ (.slice a2 o.steps.length c2)) := (K1.out.trans K2.out).then ks (fun i hi e => by omega)
    exact ⟨w2.heap.size, a2, c2, rfl, ⟨hb, (HR.out.keeps ks (fun x hx e => by have := (Hab.out x hx).1; omega)).alloc _, (fun k x hk => by simp at hk), (fun x hx => by have := (Hab.out x hx).2; omega), (fun x hx => by cases hx), Hr.out, by simp⟩, by omega, kall.alloc _⟩⟩
  go_wp2_with fail
  go_ret
  exact hfin.out
theorem see_nil (x y : Int) (w : World) : Calls Try.prog 18 #[.pointer none, .agg #[.int .i64 x, .int .i64 y]] w (fun e w' => e = .returned (.bool false) ∧ Keeps (fun _ => False) w w') := by
  go_enter Try.func18, Try.ntmps18
  go_wp2
  go_ret
  exact ⟨rfl, (Keeps.refl _ w).alloc _⟩
theorem act_append {wA W0 w1 ws : World} {v : Value} {A : List Act2} {x y : Int} (s : Nat) (hv : w1.ownsRow W0.heap.size 30 2 v A.length (A.flatMap encSt)) (kA : Keeps (fun _ => False) wA W0) (k1 : Keeps (fun _ => False) W0 w1) (ks : Keeps (fun _ => False) w1 ws) (hA : A.length ≤ 1000)
    (b0 : ws.cell? ⟨s, 0, none⟩ = some (.int .i64 x)) (b1 : ws.cell? ⟨s, 1, none⟩ = some (.int .i64 y)) :
    ∃ a' c' w2, (Builtin.append_ #[25, 25] 25 #[v, .slice (some ⟨s, 0, none⟩) 1 1]).run Try.prog ws = .ok (.slice a' (A.length + 1) c') w2 ∧ AcRow w2 a' (A ++ [(x, y)]) ∧ (∀ z, a' = some z → wA.heap.size ≤ z.block) ∧ Keeps (fun _ => False) wA w2 := by
  obtain ⟨i0, hi, hz0, hz1, hz2⟩ := info_parts infoAct
  have hs := k1.size
  have hs2 := kA.size
  have hs3 := ks.size
  obtain ⟨a', c', w2, hrun, hown', k2, _, hnew⟩ := run_append_new (P := Try.prog) ws W0.heap.size 25 25 30 i0 _ 2 16 Try.underlying25 hi hz0 hz1 hz2 rfl (by omega) _ _ _ (ownsRow_keeps hv ks (fun _ _ h => h)) ⟨s, 0, none⟩ 1 1 [.int .i64 x, .int .i64 y] rfl
    (by
      intro j u hu
      match j, hu with
      | 0, hu => simp at hu; subst hu; exact b0
      | 1, hu => simp at hu; subst hu; exact b1) (by intro u hu; simp at hu; rcases hu with rfl | rfl <;> rfl) (by unfold maxLen; omega) (by omega) (by omega)
  have e : A.flatMap encSt ++ [.int .i64 x, .int .i64 y] = (A ++ [(x, y)]).flatMap encSt := by rw [List.flatMap_append]; rfl
  rw [e] at hown'
  obtain ⟨a2, c2, hv2, _, _, _, hR, hab⟩ := ownsRow_steps hown'
  simp only [Value.slice.injEq, true_and] at hv2
  obtain ⟨rfl, rfl⟩ := hv2
  refine ⟨a', c', w2, hrun, hR, fun z hz => by have := (hab z hz).1; omega, ((kA.trans k1).trans ks).then k2 (fun i hi e => ?_)⟩
  have := (hv.lt i e).1
  omega
set_option maxRecDepth 100000 in
set_option maxHeartbeats 4000000 in
theorem see_no (p : Nat) (a b : Option Addr) (c d : Nat) (o : Ord) (A : List Act2) (x y : Int) (r : Nat) (w : World) (h : ModAt w p a c b d o A) (hr : legalN o (A ++ [(x, y)]) = r) (hlt : r < A.length + 1) :
    Calls Try.prog 18 #[.pointer (some ⟨p, 0, none⟩), .agg #[.int .i64 x, .int .i64 y]] w (fun e w' => e = .returned (.bool false) ∧ Keeps (fun _ => False) w w') := by
  have H := Kept.mk (h.alloc (.cells #[.int .i64 x, .int .i64 y] 30))
  have HX := Kept.mk (Blk.new w 30 [.int .i64 x, .int .i64 y])
  have HD : Kept (ModAt (w.alloc (.cells #[.int .i64 x, .int .i64 y] 30)).drew p a c b d o A) := ⟨H.out.drewN 1⟩
  have HE : Kept (ModAt ((w.alloc (.cells #[.int .i64 x, .int .i64 y] 30)).alloc (.cells #[.int .i64 x, .int .i64 y] 30)).drew p a c b d o A) := ⟨(H.out.alloc _).drewN 1⟩
  have kA : Kept (Keeps (fun _ => False) (w.alloc (.cells #[.int .i64 x, .int .i64 y] 30)) ((w.alloc (.cells #[.int .i64 x, .int .i64 y] 30)).drewN 1)) := ⟨(Keeps.refl _ _).drewN 1⟩
  have kB : Kept (Keeps (fun _ => False) (w.alloc (.cells #[.int .i64 x, .int .i64 y] 30)) (((w.alloc (.cells #[.int .i64 x, .int .i64 y] 30)).alloc (.cells #[.int .i64 x, .int .i64 y] 30)).drewN 1)) := ⟨((Keeps.refl _ _).alloc _).drewN 1⟩
  have HY : Kept (Blk (((w.alloc (.cells #[.int .i64 x, .int .i64 y] 30)).alloc (.cells #[.int .i64 x, .int .i64 y] 30)).drewN 1) (w.heap.size + 1) 30 [.int .i64 x, .int .i64 y]) := ⟨by
    have := Blk.new (w.alloc (.cells #[.int .i64 x, .int .i64 y] 30)) 30 [.int .i64 x, .int .i64 y]
    rw [World.size_alloc] at this
    exact this.drewN 1⟩
  have x0 := HX.out.cell 0 rfl
  have x1 := HX.out.cell 1 rfl
  have hp := h.cells.lt
  have hlen := h.len
  have hl3 := Ord.may_len h.may
  have HM : Kept (o.steps.length ≤ maxLen) := ⟨by unfold maxLen; omega⟩
  have Hr := Kept.mk hr
  have hlt' : (r : Int) < (A.length : Int) + 1 := by omega
  clear h hr
  go_enter Try.func18, Try.ntmps18
  go_wp2_with fail
  go_region_held3 (fun W => W.cell? ⟨w.heap.size, 0, none⟩ = some (.int .i64 x) ∧ W.cell? ⟨w.heap.size, 1, none⟩ = some (.int .i64 y)) (go_keep) (first | (go_at_call 21; (with_reducible refine (seen_to p a b c d o A _ HD.out).mono ?_); rintro e w1 ⟨v, rfl, hv, k1⟩; obtain ⟨va, vc, rfl, _⟩ := ownsRow_steps hv; have hx1 := HX.out.keeps (kA.out.trans k1) (fun h => h); have y0 := hx1.cell 0 rfl; have y1 := hx1.cell 1 rfl; obtain ⟨a2, c2, w2, hrun, hR, hab, k2⟩ := act_append w1.heap.size hv kA.out k1 ((Keeps.refl _ w1).alloc (.cells #[.int .i64 x, .int .i64 y] 30)) hlen ((Blk.new w1 30 [.int .i64 x, .int .i64 y]).cell 0 rfl) ((Blk.new w1 30 [.int .i64 x, .int .i64 y]).cell 1 rfl); have hx2 := HX.out.keeps k2 (fun h => h); have z0 := hx2.cell 0 rfl; have z1 := hx2.cell 1 rfl; clear k1) | (go_at_call 21; (with_reducible refine (seen_to p a b c d o A _ HE.out).mono ?_); rintro e w1 ⟨v, rfl, hv, k1⟩; obtain ⟨va, vc, rfl, _⟩ := ownsRow_steps hv; have hx1 := HX.out.keeps (kB.out.trans k1) (fun h => h); have y0 := hx1.cell 0 rfl; have y1 := hx1.cell 1 rfl; obtain ⟨a2, c2, w2, hrun, hR, hab, k2⟩ := act_append (w.heap.size + 1) hv kB.out k1 (Keeps.refl _ w1) hlen ((HY.out.keeps k1 (fun h => h)).cell 0 rfl) ((HY.out.keeps k1 (fun h => h)).cell 1 rfl); have hx2 := HX.out.keeps k2 (fun h => h); have z0 := hx2.cell 0 rfl; have z1 := hx2.cell 1 rfl; clear k1) | (revert hrun; intro hrun; refine step_append_run rfl _ _ _ rfl rfl rfl hrun ?_))
  all_goals
    have h2 := H.out.keeps k2
    have g0 := h2.cells.cell 0 rfl
    have g1 := h2.cells.cell 1 rfl
    have g2 := h2.cells.cell 2 rfl
    have g3 := h2.cells.cell 3 rfl
    have g4 := h2.cells.cell 4 rfl
    have g5 := h2.cells.cell 5 rfl
    have HS := Kept.mk h2.steps
    have HR := Kept.mk hR
    have K2 := Kept.mk (((Keeps.refl (fun _ => False) w).alloc (.cells #[.int .i64 x, .int .i64 y] 30)).trans k2)
    clear hR k2 h2 hv hx1 hx2 y0 y1 z0 z1 hrun hab
    go_wp2_with fail
    refine (legal_of o a a2 c c2 (A.length + 1) (A ++ [(x, y)]) r _ HS.out HM.out HR.out (by simp) (by unfold maxLen; omega) Hr.out).mono ?_
    rintro e w3 ⟨rfl, k3⟩
    go_wp2_with fail
    go_ret
    exact ⟨rfl, K2.out.trans k3⟩
set_option maxRecDepth 100000 in
set_option maxHeartbeats 4000000 in
theorem see_yes2 (p : Nat) (a b : Option Addr) (c d : Nat) (o : Ord) (A : List Act2) (x y : Int) (w : World) (h : ModAt w p a c b d o A) (hr : legalN o (A ++ [(x, y)]) = A.length + 1) (hA : A.length < 1000) :
    Calls Try.prog 18 #[.pointer (some ⟨p, 0, none⟩), .agg #[.int .i64 x, .int .i64 y]] w (fun e w' => e = .returned (.bool true) ∧ (∃ b' d', ModAt w' p a c b' d' o (A ++ [(x, y)]) ∧ ∀ z, b' = some z → w.heap.size ≤ z.block) ∧ Keeps (fun k => k = p) w w') := by
  have H := Kept.mk (h.alloc (.cells #[.int .i64 x, .int .i64 y] 30))
  have HX := Kept.mk (Blk.new w 30 [.int .i64 x, .int .i64 y])
  have HD : Kept (ModAt (w.alloc (.cells #[.int .i64 x, .int .i64 y] 30)).drew p a c b d o A) := ⟨H.out.drewN 1⟩
  have HE : Kept (ModAt ((w.alloc (.cells #[.int .i64 x, .int .i64 y] 30)).alloc (.cells #[.int .i64 x, .int .i64 y] 30)).drew p a c b d o A) := ⟨(H.out.alloc _).drewN 1⟩
  have kA : Kept (Keeps (fun _ => False) (w.alloc (.cells #[.int .i64 x, .int .i64 y] 30)) ((w.alloc (.cells #[.int .i64 x, .int .i64 y] 30)).drewN 1)) := ⟨(Keeps.refl _ _).drewN 1⟩
  have kB : Kept (Keeps (fun _ => False) (w.alloc (.cells #[.int .i64 x, .int .i64 y] 30)) (((w.alloc (.cells #[.int .i64 x, .int .i64 y] 30)).alloc (.cells #[.int .i64 x, .int .i64 y] 30)).drewN 1)) := ⟨((Keeps.refl _ _).alloc _).drewN 1⟩
  have HY : Kept (Blk (((w.alloc (.cells #[.int .i64 x, .int .i64 y] 30)).alloc (.cells #[.int .i64 x, .int .i64 y] 30)).drewN 1) (w.heap.size + 1) 30 [.int .i64 x, .int .i64 y]) := ⟨by
    have := Blk.new (w.alloc (.cells #[.int .i64 x, .int .i64 y] 30)) 30 [.int .i64 x, .int .i64 y]
    rw [World.size_alloc] at this
    exact this.drewN 1⟩
  have x0 := HX.out.cell 0 rfl
  have x1 := HX.out.cell 1 rfl
  have hp := h.cells.lt
  have hlen := h.len
  have hl3 := Ord.may_len h.may
  have HM : Kept (o.steps.length ≤ maxLen) := ⟨by unfold maxLen; omega⟩
  have Hr := Kept.mk hr
  clear h hr
  go_enter Try.func18, Try.ntmps18
  go_wp2_with fail
  go_region_held3 (fun W => W.cell? ⟨w.heap.size, 0, none⟩ = some (.int .i64 x) ∧ W.cell? ⟨w.heap.size, 1, none⟩ = some (.int .i64 y)) (go_keep) (first | (go_at_call 21; (with_reducible refine (seen_to p a b c d o A _ HD.out).mono ?_); rintro e w1 ⟨v, rfl, hv, k1⟩; obtain ⟨va, vc, rfl, _⟩ := ownsRow_steps hv; have hx1 := HX.out.keeps (kA.out.trans k1) (fun h => h); have y0 := hx1.cell 0 rfl; have y1 := hx1.cell 1 rfl; obtain ⟨a2, c2, w2, hrun, hR, hab, k2⟩ := act_append w1.heap.size hv kA.out k1 ((Keeps.refl _ w1).alloc (.cells #[.int .i64 x, .int .i64 y] 30)) hlen ((Blk.new w1 30 [.int .i64 x, .int .i64 y]).cell 0 rfl) ((Blk.new w1 30 [.int .i64 x, .int .i64 y]).cell 1 rfl); have hx2 := HX.out.keeps k2 (fun h => h); have z0 := hx2.cell 0 rfl; have z1 := hx2.cell 1 rfl; clear k1) | (go_at_call 21; (with_reducible refine (seen_to p a b c d o A _ HE.out).mono ?_); rintro e w1 ⟨v, rfl, hv, k1⟩; obtain ⟨va, vc, rfl, _⟩ := ownsRow_steps hv; have hx1 := HX.out.keeps (kB.out.trans k1) (fun h => h); have y0 := hx1.cell 0 rfl; have y1 := hx1.cell 1 rfl; obtain ⟨a2, c2, w2, hrun, hR, hab, k2⟩ := act_append (w.heap.size + 1) hv kB.out k1 (Keeps.refl _ w1) hlen ((HY.out.keeps k1 (fun h => h)).cell 0 rfl) ((HY.out.keeps k1 (fun h => h)).cell 1 rfl); have hx2 := HX.out.keeps k2 (fun h => h); have z0 := hx2.cell 0 rfl; have z1 := hx2.cell 1 rfl; clear k1) | (revert hrun; intro hrun; refine step_append_run rfl _ _ _ rfl rfl rfl hrun ?_))
  all_goals
    have h2 := H.out.keeps k2
    have g0 := h2.cells.cell 0 rfl
    have g1 := h2.cells.cell 1 rfl
    have g2 := h2.cells.cell 2 rfl
    have g3 := h2.cells.cell 3 rfl
    have g4 := h2.cells.cell 4 rfl
    have g5 := h2.cells.cell 5 rfl
    have HS := Kept.mk h2.steps
    have HR := Kept.mk hR
    have H2 := Kept.mk h2
    have Hab := Kept.mk hab
    have K2 := Kept.mk (((Keeps.refl (fun _ => False) w).alloc (.cells #[.int .i64 x, .int .i64 y] 30)).trans k2)
    clear hR k2 h2 hv hx1 hx2 y0 y1 z0 z1 hrun hab
    go_wp2_with fail
    refine (legal_of o a a2 c c2 (A.length + 1) (A ++ [(x, y)]) (A.length + 1) _ HS.out HM.out HR.out (by simp) (by unfold maxLen; omega) Hr.out).mono ?_
    rintro e w3 ⟨rfl, k3⟩
    have h3 := H2.out.keeps k3
    have q6 := h3.cells.cell 6 rfl
    have f6 := h3.cells.frozen 6
    have hfin : Kept ((∃ b' d', ModAt (w3.setCell ⟨p, 6, none⟩ (.slice a2 (A.length + 1) c2)) p a c b' d' o (A ++ [(x, y)]) ∧ ∀ z, b' = some z → w.heap.size ≤ z.block) ∧ Keeps (fun k => k = p) w (w3.setCell ⟨p, 6, none⟩ (.slice a2 (A.length + 1) c2))) := ⟨by
      have ks : Keeps (fun k => k = p) w3 (w3.setCell ⟨p, 6, none⟩ (.slice a2 (A.length + 1) c2)) := (Keeps.refl (fun k => k = p) w3).setCell (p := ⟨p, 6, none⟩) (.inr rfl) _
      have hn2 : ∀ z, a2 = some z → z.block ≠ p := fun z hz e => by have := Hab.out z hz; simp at this; omega
      have hl : (A ++ [(x, y)]).length = A.length + 1 := by simp
      refine ⟨⟨a2, c2, ⟨by rw [hl]; exact h3.cells.set 6 _, h3.steps.keeps ks h3.sa, (HR.out.quiet k3).keeps ks hn2, h3.sa, hn2, h3.may, by rw [hl]; omega⟩, fun z hz => by have := Hab.out z hz; simp at this; omega⟩, ?_⟩
      exact ((K2.out.trans k3).mono (fun _ _ h => h.elim)).trans ks⟩
    clear h3 k3
    go_wp2_with fail
    go_ret
    exact ⟨rfl, hfin.out⟩
theorem see_yes (p : Nat) (a b : Option Addr) (c d : Nat) (o : Ord) (A : List Act2) (x y : Int) (w : World) (h : ModAt w p a c b d o A) (hr : legalN o (A ++ [(x, y)]) = A.length + 1) (hA : A.length < 1000) :
    Calls Try.prog 18 #[.pointer (some ⟨p, 0, none⟩), .agg #[.int .i64 x, .int .i64 y]] w (fun e w' => e = .returned (.bool true) ∧ (∃ b' d', ModAt w' p a c b' d' o (A ++ [(x, y)])) ∧ Keeps (fun k => k = p) w w') :=
  (see_yes2 p a b c d o A x y w h hr hA).mono fun _ _ ⟨he, ⟨b', d', hm, _⟩, k⟩ => ⟨he, ⟨b', d', hm⟩, k⟩
end Go.Proofs.Ytjlfkpimjjnolaa
