/- Package saga's Next, walked. (printed by gen/saganext.py) -/
import Derived.Test.YtfcnegnkmacajaaUndo
import Derived.Test.YtfcnegnkmacajaaFacts
namespace Go.Proofs.Ytfcnegnkmacajaa
open Go.RowKit
/-- What is to be sent now. -/
def nextL (o : Ord) (f : Fct) : List Ms := if f.may o = false then [] else if f.turned then decTo 10 o f.a0 f.a1 2 ++ undAt o f.undone o.steps.length else if f.yes then (if f.shipped then decTo 9 o f.a0 f.a1 2 else decTo 9 o f.a0 f.a1 2 ++ [⟨15, 0, 3, o.id, 0, o.item, o.qty⟩]) else fwdAt o f.done o.steps 0
theorem undAt_len (o : Ord) (u : List Bool) : ∀ k, (undAt o u k).length ≤ 1
  | 0 => by simp [undAt]
  | k + 1 => by
    rw [undAt]
    split
    · exact undAt_len o u k
    · simp
theorem s17 {W : World} {b : Nat} {T U : TypeId} {v0 v1 v2 v3 v4 v5 u0 u1 u2 u3 u4 u5 u6 u7 u8 u9 u10 : Value} (h : Blk W b T [v0, v1, v2, v3, v4, v5]) (k : Blk W (b + 1) U [u0, u1, u2, u3, u4, u5, u6, u7, u8, u9, u10]) :
    W.cell? ⟨b, 0, none⟩ = some v0 ∧ W.cell? ⟨b, 1, none⟩ = some v1 ∧ W.cell? ⟨b, 2, none⟩ = some v2 ∧ W.cell? ⟨b, 3, none⟩ = some v3 ∧ W.cell? ⟨b, 4, none⟩ = some v4 ∧ W.cell? ⟨b, 5, none⟩ = some v5 ∧ W.cell? ⟨b + 1, 0, none⟩ = some u0 ∧ W.cell? ⟨b + 1, 1, none⟩ = some u1 ∧ W.cell? ⟨b + 1, 2, none⟩ = some u2 ∧ W.cell? ⟨b + 1, 3, none⟩ = some u3 ∧ W.cell? ⟨b + 1, 4, none⟩ = some u4 ∧ W.cell? ⟨b + 1, 5, none⟩ = some u5 ∧ W.cell? ⟨b + 1, 6, none⟩ = some u6 ∧ W.cell? ⟨b + 1, 7, none⟩ = some u7 ∧ W.cell? ⟨b + 1, 8, none⟩ = some u8 ∧ W.cell? ⟨b + 1, 9, none⟩ = some u9 ∧ W.cell? ⟨b + 1, 10, none⟩ = some u10 :=
  ⟨h.cell 0 rfl, h.cell 1 rfl, h.cell 2 rfl, h.cell 3 rfl, h.cell 4 rfl, h.cell 5 rfl, k.cell 0 rfl, k.cell 1 rfl, k.cell 2 rfl, k.cell 3 rfl, k.cell 4 rfl, k.cell 5 rfl, k.cell 6 rfl, k.cell 7 rfl, k.cell 8 rfl, k.cell 9 rfl, k.cell 10 rfl⟩
theorem s24 {W : World} {b p : Nat} {T U V : TypeId} {v0 v1 v2 v3 v4 v5 u0 u1 u2 u3 u4 u5 u6 u7 u8 u9 u10 m0 m1 m2 m3 m4 m5 m6 : Value} (h : Blk W b T [v0, v1, v2, v3, v4, v5]) (k : Blk W (b + 1) U [u0, u1, u2, u3, u4, u5, u6, u7, u8, u9, u10]) (l : Blk W p V [m0, m1, m2, m3, m4, m5, m6]) :
    W.cell? ⟨b, 0, none⟩ = some v0 ∧ W.cell? ⟨b, 1, none⟩ = some v1 ∧ W.cell? ⟨b, 2, none⟩ = some v2 ∧ W.cell? ⟨b, 3, none⟩ = some v3 ∧ W.cell? ⟨b, 4, none⟩ = some v4 ∧ W.cell? ⟨b, 5, none⟩ = some v5 ∧ W.cell? ⟨b + 1, 0, none⟩ = some u0 ∧ W.cell? ⟨b + 1, 1, none⟩ = some u1 ∧ W.cell? ⟨b + 1, 2, none⟩ = some u2 ∧ W.cell? ⟨b + 1, 3, none⟩ = some u3 ∧ W.cell? ⟨b + 1, 4, none⟩ = some u4 ∧ W.cell? ⟨b + 1, 5, none⟩ = some u5 ∧ W.cell? ⟨b + 1, 6, none⟩ = some u6 ∧ W.cell? ⟨b + 1, 7, none⟩ = some u7 ∧ W.cell? ⟨b + 1, 8, none⟩ = some u8 ∧ W.cell? ⟨b + 1, 9, none⟩ = some u9 ∧ W.cell? ⟨b + 1, 10, none⟩ = some u10 ∧ W.cell? ⟨p, 0, none⟩ = some m0 ∧ W.cell? ⟨p, 1, none⟩ = some m1 ∧ W.cell? ⟨p, 2, none⟩ = some m2 ∧ W.cell? ⟨p, 3, none⟩ = some m3 ∧ W.cell? ⟨p, 4, none⟩ = some m4 ∧ W.cell? ⟨p, 5, none⟩ = some m5 ∧ W.cell? ⟨p, 6, none⟩ = some m6 :=
  ⟨h.cell 0 rfl, h.cell 1 rfl, h.cell 2 rfl, h.cell 3 rfl, h.cell 4 rfl, h.cell 5 rfl, k.cell 0 rfl, k.cell 1 rfl, k.cell 2 rfl, k.cell 3 rfl, k.cell 4 rfl, k.cell 5 rfl, k.cell 6 rfl, k.cell 7 rfl, k.cell 8 rfl, k.cell 9 rfl, k.cell 10 rfl, l.cell 0 rfl, l.cell 1 rfl, l.cell 2 rfl, l.cell 3 rfl, l.cell 4 rfl, l.cell 5 rfl, l.cell 6 rfl⟩
set_option linter.unusedSimpArgs false in
set_option maxRecDepth 100000 in
set_option maxHeartbeats 16000000 in
theorem next_no (o : Ord) (a da ua : Option Addr) (c dc uc : Nat) (done undone : List Bool) (asked yes turned a0 a1 shipped d0 d1 acc : Bool) (w : World) (h : FcAt w o a c ⟨done, undone, asked, yes, turned, a0, a1, shipped, d0, d1, acc⟩ da ua) (hm : Fct.may o ⟨done, undone, asked, yes, turned, a0, a1, shipped, d0, d1, acc⟩ = false) :
    Calls Try.prog 11 #[.agg #[.int .i64 o.id, .int .i64 o.item, .int .i64 o.qty, .int .i64 o.client, .int .i64 o.price, .slice a o.steps.length c], .agg #[.slice da done.length dc, .slice ua undone.length uc, .bool asked, .bool yes, .bool turned, .bool a0, .bool a1, .bool shipped, .bool d0, .bool d1, .bool acc]] w (fun e w' => (∃ v, e = .returned v ∧ MsOwn w' w.heap.size v ([])) ∧ Keeps (fun _ => False) w w') := by
  have HF0 := Kept.mk ((h.alloc (.cells #[.int .i64 o.id, .int .i64 o.item, .int .i64 o.qty, .int .i64 o.client, .int .i64 o.price, .slice a o.steps.length c] 24)).alloc (.cells #[.slice da done.length dc, .slice ua undone.length uc, .bool asked, .bool yes, .bool turned, .bool a0, .bool a1, .bool shipped, .bool d0, .bool d1, .bool acc] 31))
  have HO0 := Kept.mk ((Blk.new' w 24 [.int .i64 o.id, .int .i64 o.item, .int .i64 o.qty, .int .i64 o.client, .int .i64 o.price, .slice a o.steps.length c] _ rfl).alloc (.cells #[.slice da done.length dc, .slice ua undone.length uc, .bool asked, .bool yes, .bool turned, .bool a0, .bool a1, .bool shipped, .bool d0, .bool d1, .bool acc] 31))
  have HB0 := Kept.mk (Blk.new' (w.alloc (.cells #[.int .i64 o.id, .int .i64 o.item, .int .i64 o.qty, .int .i64 o.client, .int .i64 o.price, .slice a o.steps.length c] 24)) 31 [.slice da done.length dc, .slice ua undone.length uc, .bool asked, .bool yes, .bool turned, .bool a0, .bool a1, .bool shipped, .bool d0, .bool d1, .bool acc] (w.heap.size + 1) (by simp))
  have K0 : Kept (Keeps (fun _ => False) w ((w.alloc (.cells #[.int .i64 o.id, .int .i64 o.item, .int .i64 o.qty, .int .i64 o.client, .int .i64 o.price, .slice a o.steps.length c] 24)).alloc (.cells #[.slice da done.length dc, .slice ua undone.length uc, .bool asked, .bool yes, .bool turned, .bool a0, .bool a1, .bool shipped, .bool d0, .bool d1, .bool acc] 31))) := ⟨((Keeps.refl _ w).alloc _).alloc _⟩
  clear h
  have Hm := Kept.mk hm
  clear hm
  go_enter Try.func11, Try.ntmps11
  go_wp2_with fail
  refine (fmay_to o a da ua c dc uc ⟨done, undone, asked, yes, turned, a0, a1, shipped, d0, d1, acc⟩ false _ HF0.out Hm.out).mono ?_
  rintro e w1 ⟨rfl, k1⟩
  have HF1 := Kept.mk (HF0.out.keeps k1)
  have HO1 := Kept.mk (HO0.out.quiet k1)
  have HB1 := Kept.mk (HB0.out.quiet k1)
  have K1 := Kept.mk (K0.out.trans k1)
  clear k1 HF0 HO0 HB0 K0
  obtain ⟨y0, y1, y2, y3, y4, y5, y6, y7, y8, y9, y10⟩ := blk11 HB1.out
  obtain ⟨x0, x1, x2, x3, x4, x5⟩ := blk6 HO1.out
  go_wp2_with fail
  go_ret
  exact ⟨⟨_, rfl, MsOwn.nil _ _⟩, K1.out⟩
set_option linter.unusedSimpArgs false in
set_option maxRecDepth 100000 in
set_option maxHeartbeats 16000000 in
theorem next_fwd (o : Ord) (a da ua : Option Addr) (c dc uc : Nat) (done undone : List Bool) (asked yes turned a0 a1 shipped d0 d1 acc : Bool) (w : World) (h : FcAt w o a c ⟨done, undone, asked, yes, turned, a0, a1, shipped, d0, d1, acc⟩ da ua) (hm : Fct.may o ⟨done, undone, asked, yes, turned, a0, a1, shipped, d0, d1, acc⟩ = true) (hy : yes = false) (ht : turned = false) (hl : done.length = o.steps.length) :
    Calls Try.prog 11 #[.agg #[.int .i64 o.id, .int .i64 o.item, .int .i64 o.qty, .int .i64 o.client, .int .i64 o.price, .slice a o.steps.length c], .agg #[.slice da done.length dc, .slice ua undone.length uc, .bool asked, .bool yes, .bool turned, .bool a0, .bool a1, .bool shipped, .bool d0, .bool d1, .bool acc]] w (fun e w' => (∃ v, e = .returned v ∧ MsOwn w' w.heap.size v (fwdAt o done o.steps 0)) ∧ Keeps (fun _ => False) w w') := by
  have HF0 := Kept.mk ((h.alloc (.cells #[.int .i64 o.id, .int .i64 o.item, .int .i64 o.qty, .int .i64 o.client, .int .i64 o.price, .slice a o.steps.length c] 24)).alloc (.cells #[.slice da done.length dc, .slice ua undone.length uc, .bool asked, .bool yes, .bool turned, .bool a0, .bool a1, .bool shipped, .bool d0, .bool d1, .bool acc] 31))
  have HO0 := Kept.mk ((Blk.new' w 24 [.int .i64 o.id, .int .i64 o.item, .int .i64 o.qty, .int .i64 o.client, .int .i64 o.price, .slice a o.steps.length c] _ rfl).alloc (.cells #[.slice da done.length dc, .slice ua undone.length uc, .bool asked, .bool yes, .bool turned, .bool a0, .bool a1, .bool shipped, .bool d0, .bool d1, .bool acc] 31))
  have HB0 := Kept.mk (Blk.new' (w.alloc (.cells #[.int .i64 o.id, .int .i64 o.item, .int .i64 o.qty, .int .i64 o.client, .int .i64 o.price, .slice a o.steps.length c] 24)) 31 [.slice da done.length dc, .slice ua undone.length uc, .bool asked, .bool yes, .bool turned, .bool a0, .bool a1, .bool shipped, .bool d0, .bool d1, .bool acc] (w.heap.size + 1) (by simp))
  have K0 : Kept (Keeps (fun _ => False) w ((w.alloc (.cells #[.int .i64 o.id, .int .i64 o.item, .int .i64 o.qty, .int .i64 o.client, .int .i64 o.price, .slice a o.steps.length c] 24)).alloc (.cells #[.slice da done.length dc, .slice ua undone.length uc, .bool asked, .bool yes, .bool turned, .bool a0, .bool a1, .bool shipped, .bool d0, .bool d1, .bool acc] 31))) := ⟨((Keeps.refl _ w).alloc _).alloc _⟩
  clear h
  subst hy
  subst ht
  have Hm := Kept.mk hm
  have Hl := Kept.mk hl
  clear hm hl
  go_enter Try.func11, Try.ntmps11
  go_wp2_with fail
  refine (fmay_to o a da ua c dc uc ⟨done, undone, asked, false, false, a0, a1, shipped, d0, d1, acc⟩ true _ HF0.out Hm.out).mono ?_
  rintro e w1 ⟨rfl, k1⟩
  have HF1 := Kept.mk (HF0.out.keeps k1)
  have HO1 := Kept.mk (HO0.out.quiet k1)
  have HB1 := Kept.mk (HB0.out.quiet k1)
  have K1 := Kept.mk (K0.out.trans k1)
  clear k1 HF0 HO0 HB0 K0
  obtain ⟨y0, y1, y2, y3, y4, y5, y6, y7, y8, y9, y10⟩ := blk11 HB1.out
  obtain ⟨x0, x1, x2, x3, x4, x5⟩ := blk6 HO1.out
  go_wp2_with fail
  refine (forward_to o a da ua c dc uc ⟨done, undone, asked, false, false, a0, a1, shipped, d0, d1, acc⟩ _ HF1.out Hl.out).mono ?_
  rintro e w2 ⟨⟨v, rfl, hM⟩, k2⟩
  have HM := Kept.mk (hM.mono K1.out.size)
  have K2 := Kept.mk (K1.out.trans k2)
  clear hM k2
  go_wp2_with fail
  go_ret
  exact ⟨⟨_, rfl, HM.out⟩, K2.out⟩
set_option linter.unusedSimpArgs false in
set_option maxRecDepth 100000 in
set_option maxHeartbeats 16000000 in
theorem next_told (o : Ord) (a da ua : Option Addr) (c dc uc : Nat) (done undone : List Bool) (asked yes turned a0 a1 shipped d0 d1 acc : Bool) (w : World) (h : FcAt w o a c ⟨done, undone, asked, yes, turned, a0, a1, shipped, d0, d1, acc⟩ da ua) (hm : Fct.may o ⟨done, undone, asked, yes, turned, a0, a1, shipped, d0, d1, acc⟩ = true) (hy : yes = true) (ht : turned = false) (hs : shipped = true) :
    Calls Try.prog 11 #[.agg #[.int .i64 o.id, .int .i64 o.item, .int .i64 o.qty, .int .i64 o.client, .int .i64 o.price, .slice a o.steps.length c], .agg #[.slice da done.length dc, .slice ua undone.length uc, .bool asked, .bool yes, .bool turned, .bool a0, .bool a1, .bool shipped, .bool d0, .bool d1, .bool acc]] w (fun e w' => (∃ v, e = .returned v ∧ MsOwn w' w.heap.size v (decTo 9 o a0 a1 2)) ∧ Keeps (fun _ => False) w w') := by
  have HF0 := Kept.mk ((h.alloc (.cells #[.int .i64 o.id, .int .i64 o.item, .int .i64 o.qty, .int .i64 o.client, .int .i64 o.price, .slice a o.steps.length c] 24)).alloc (.cells #[.slice da done.length dc, .slice ua undone.length uc, .bool asked, .bool yes, .bool turned, .bool a0, .bool a1, .bool shipped, .bool d0, .bool d1, .bool acc] 31))
  have HO0 := Kept.mk ((Blk.new' w 24 [.int .i64 o.id, .int .i64 o.item, .int .i64 o.qty, .int .i64 o.client, .int .i64 o.price, .slice a o.steps.length c] _ rfl).alloc (.cells #[.slice da done.length dc, .slice ua undone.length uc, .bool asked, .bool yes, .bool turned, .bool a0, .bool a1, .bool shipped, .bool d0, .bool d1, .bool acc] 31))
  have HB0 := Kept.mk (Blk.new' (w.alloc (.cells #[.int .i64 o.id, .int .i64 o.item, .int .i64 o.qty, .int .i64 o.client, .int .i64 o.price, .slice a o.steps.length c] 24)) 31 [.slice da done.length dc, .slice ua undone.length uc, .bool asked, .bool yes, .bool turned, .bool a0, .bool a1, .bool shipped, .bool d0, .bool d1, .bool acc] (w.heap.size + 1) (by simp))
  have K0 : Kept (Keeps (fun _ => False) w ((w.alloc (.cells #[.int .i64 o.id, .int .i64 o.item, .int .i64 o.qty, .int .i64 o.client, .int .i64 o.price, .slice a o.steps.length c] 24)).alloc (.cells #[.slice da done.length dc, .slice ua undone.length uc, .bool asked, .bool yes, .bool turned, .bool a0, .bool a1, .bool shipped, .bool d0, .bool d1, .bool acc] 31))) := ⟨((Keeps.refl _ w).alloc _).alloc _⟩
  clear h
  subst hy
  subst ht
  subst hs
  have Hm := Kept.mk hm
  clear hm
  go_enter Try.func11, Try.ntmps11
  go_wp2_with fail
  refine (fmay_to o a da ua c dc uc ⟨done, undone, asked, true, false, a0, a1, true, d0, d1, acc⟩ true _ HF0.out Hm.out).mono ?_
  rintro e w1 ⟨rfl, k1⟩
  have HF1 := Kept.mk (HF0.out.keeps k1)
  have HO1 := Kept.mk (HO0.out.quiet k1)
  have HB1 := Kept.mk (HB0.out.quiet k1)
  have K1 := Kept.mk (K0.out.trans k1)
  clear k1 HF0 HO0 HB0 K0
  obtain ⟨y0, y1, y2, y3, y4, y5, y6, y7, y8, y9, y10⟩ := blk11 HB1.out
  obtain ⟨x0, x1, x2, x3, x4, x5⟩ := blk6 HO1.out
  go_wp2_with fail
  refine (decision_to 9 o a da ua c _ dc _ uc _ _ _ a0 a1 _ _ _ _ _).mono ?_
  rintro e w2 ⟨⟨v, rfl, hM⟩, k2⟩
  have HM := Kept.mk (hM.mono K1.out.size)
  have K2 := Kept.mk (K1.out.trans k2)
  clear hM k2
  go_wp2_with fail
  go_ret
  exact ⟨⟨_, rfl, HM.out⟩, K2.out⟩
set_option linter.unusedSimpArgs false in
set_option maxRecDepth 100000 in
set_option maxHeartbeats 16000000 in
theorem next_turned (o : Ord) (a da ua : Option Addr) (c dc uc : Nat) (done undone : List Bool) (asked yes turned a0 a1 shipped d0 d1 acc : Bool) (w : World) (h : FcAt w o a c ⟨done, undone, asked, yes, turned, a0, a1, shipped, d0, d1, acc⟩ da ua) (hm : Fct.may o ⟨done, undone, asked, yes, turned, a0, a1, shipped, d0, d1, acc⟩ = true) (ht : turned = true) (hl : undone.length = o.steps.length) (hl3 : o.steps.length ≤ 3) :
    Calls Try.prog 11 #[.agg #[.int .i64 o.id, .int .i64 o.item, .int .i64 o.qty, .int .i64 o.client, .int .i64 o.price, .slice a o.steps.length c], .agg #[.slice da done.length dc, .slice ua undone.length uc, .bool asked, .bool yes, .bool turned, .bool a0, .bool a1, .bool shipped, .bool d0, .bool d1, .bool acc]] w (fun e w' => (∃ v, e = .returned v ∧ MsOwn w' w.heap.size v (decTo 10 o a0 a1 2 ++ undAt o undone o.steps.length)) ∧ Keeps (fun _ => False) w w') := by
  have HF0 := Kept.mk ((h.alloc (.cells #[.int .i64 o.id, .int .i64 o.item, .int .i64 o.qty, .int .i64 o.client, .int .i64 o.price, .slice a o.steps.length c] 24)).alloc (.cells #[.slice da done.length dc, .slice ua undone.length uc, .bool asked, .bool yes, .bool turned, .bool a0, .bool a1, .bool shipped, .bool d0, .bool d1, .bool acc] 31))
  have HO0 := Kept.mk ((Blk.new' w 24 [.int .i64 o.id, .int .i64 o.item, .int .i64 o.qty, .int .i64 o.client, .int .i64 o.price, .slice a o.steps.length c] _ rfl).alloc (.cells #[.slice da done.length dc, .slice ua undone.length uc, .bool asked, .bool yes, .bool turned, .bool a0, .bool a1, .bool shipped, .bool d0, .bool d1, .bool acc] 31))
  have HB0 := Kept.mk (Blk.new' (w.alloc (.cells #[.int .i64 o.id, .int .i64 o.item, .int .i64 o.qty, .int .i64 o.client, .int .i64 o.price, .slice a o.steps.length c] 24)) 31 [.slice da done.length dc, .slice ua undone.length uc, .bool asked, .bool yes, .bool turned, .bool a0, .bool a1, .bool shipped, .bool d0, .bool d1, .bool acc] (w.heap.size + 1) (by simp))
  have K0 : Kept (Keeps (fun _ => False) w ((w.alloc (.cells #[.int .i64 o.id, .int .i64 o.item, .int .i64 o.qty, .int .i64 o.client, .int .i64 o.price, .slice a o.steps.length c] 24)).alloc (.cells #[.slice da done.length dc, .slice ua undone.length uc, .bool asked, .bool yes, .bool turned, .bool a0, .bool a1, .bool shipped, .bool d0, .bool d1, .bool acc] 31))) := ⟨((Keeps.refl _ w).alloc _).alloc _⟩
  clear h
  subst ht
  have Hm := Kept.mk hm
  have Hl := Kept.mk hl
  clear hm hl
  go_enter Try.func11, Try.ntmps11
  go_wp2_with fail
  refine (fmay_to o a da ua c dc uc ⟨done, undone, asked, yes, true, a0, a1, shipped, d0, d1, acc⟩ true _ HF0.out Hm.out).mono ?_
  rintro e w1 ⟨rfl, k1⟩
  have HF1 := Kept.mk (HF0.out.keeps k1)
  have HO1 := Kept.mk (HO0.out.quiet k1)
  have HB1 := Kept.mk (HB0.out.quiet k1)
  have K1 := Kept.mk (K0.out.trans k1)
  clear k1 HF0 HO0 HB0 K0
  obtain ⟨y0, y1, y2, y3, y4, y5, y6, y7, y8, y9, y10⟩ := blk11 HB1.out
  obtain ⟨x0, x1, x2, x3, x4, x5⟩ := blk6 HO1.out
  go_wp2_with fail
  go_region_held3 (fun W => W.cell? ⟨w.heap.size, 0, none⟩ = some (.int .i64 o.id) ∧ W.cell? ⟨w.heap.size, 1, none⟩ = some (.int .i64 o.item) ∧ W.cell? ⟨w.heap.size, 2, none⟩ = some (.int .i64 o.qty) ∧ W.cell? ⟨w.heap.size, 3, none⟩ = some (.int .i64 o.client) ∧ W.cell? ⟨w.heap.size, 4, none⟩ = some (.int .i64 o.price) ∧ W.cell? ⟨w.heap.size, 5, none⟩ = some (.slice a o.steps.length c) ∧ W.cell? ⟨w.heap.size + 1, 0, none⟩ = some (.slice da done.length dc) ∧ W.cell? ⟨w.heap.size + 1, 1, none⟩ = some (.slice ua undone.length uc) ∧ W.cell? ⟨w.heap.size + 1, 2, none⟩ = some (.bool asked) ∧ W.cell? ⟨w.heap.size + 1, 3, none⟩ = some (.bool yes) ∧ W.cell? ⟨w.heap.size + 1, 4, none⟩ = some (.bool true) ∧ W.cell? ⟨w.heap.size + 1, 5, none⟩ = some (.bool a0) ∧ W.cell? ⟨w.heap.size + 1, 6, none⟩ = some (.bool a1) ∧ W.cell? ⟨w.heap.size + 1, 7, none⟩ = some (.bool shipped) ∧ W.cell? ⟨w.heap.size + 1, 8, none⟩ = some (.bool d0) ∧ W.cell? ⟨w.heap.size + 1, 9, none⟩ = some (.bool d1) ∧ W.cell? ⟨w.heap.size + 1, 10, none⟩ = some (.bool acc)) ((first | exact s17 HO4.out HB4.out | exact s17 HO3.out HB3.out | exact s17 HOd.out HBd.out | exact s17 HOu.out HBu.out | exact s17 (HO1.out.drewN 1) (HB1.out.drewN 1))) (first
    | (go_at_call 25; refine (decision_to 10 o a da ua c _ dc _ uc _ _ _ a0 a1 _ _ _ _ _).mono ?_; rintro e wd ⟨⟨vd, rfl, hd⟩, kd⟩; (first | (have HO3 := Kept.mk (HOu.out.quiet kd); have HB3 := Kept.mk (HBu.out.quiet kd); have K3 := Kept.mk (KU.out.trans kd); have HU3 := Kept.mk (HU.out.quiet kd); have HD3 := Kept.mk (hd.mono (base' := w.heap.size + 2) (by have := HBu.out.lt; omega))) | (have HOd := Kept.mk ((HO1.out.drewN 1).quiet kd); have HBd := Kept.mk ((HB1.out.drewN 1).quiet kd); have HFd := Kept.mk ((HF1.out.keeps ((Keeps.refl _ _).drewN 1)).keeps kd); have KD := Kept.mk ((K1.out.drewN 1).trans kd); have HD := Kept.mk (hd.mono (base' := w.heap.size + 2) HB1.out.lt))); clear hd kd)
    | (go_at_call 26; refine (undo_to o a da ua c dc uc ⟨done, undone, asked, yes, true, a0, a1, shipped, d0, d1, acc⟩ _ (by first | exact HFd.out | exact HF1.out.keeps ((Keeps.refl _ _).drewN 1)) Hl.out hl3).mono ?_; rintro e wu ⟨⟨vu, rfl, hu⟩, ku⟩; (first | (have HO3 := Kept.mk (HOd.out.quiet ku); have HB3 := Kept.mk (HBd.out.quiet ku); have K3 := Kept.mk (KD.out.trans ku); have HU3 := Kept.mk (hu.mono KD.out.size); have HD3 := Kept.mk (HD.out.quiet ku)) | (have HOu := Kept.mk ((HO1.out.drewN 1).quiet ku); have HBu := Kept.mk ((HB1.out.drewN 1).quiet ku); have KU := Kept.mk ((K1.out.drewN 1).trans ku); have HU := Kept.mk (hu.mono (K1.out.drewN 1).size))); clear hu ku)
    | (obtain ⟨a', c', w3, hrun, hM3, k3⟩ := ms_append_row HD3.out (by have := decTo_len 10 o a0 a1 2; have := undAt_len o undone o.steps.length; omega) HB3.out.lt HU3.out; have HO4 := Kept.mk (HO3.out.keeps k3 (fun e => by have := (HD3.out.lt _ e).1; omega)); have HB4 := Kept.mk (HB3.out.keeps k3 (fun e => by have := (HD3.out.lt _ e).1; omega)); refine step_append_run rfl _ _ _ rfl rfl rfl hrun ?_))
  all_goals
    go_wp2_with fail
    go_ret
    exact ⟨⟨_, rfl, MsOwn.mono (base' := w.heap.size) hM3 (Nat.le_add_right _ 2)⟩, K3.out.then k3 (fun i hi e => by have := (HD3.out.lt i e).1; omega)⟩
set_option linter.unusedSimpArgs false in
set_option maxRecDepth 100000 in
set_option maxHeartbeats 16000000 in
theorem next_ship (o : Ord) (a da ua : Option Addr) (c dc uc : Nat) (done undone : List Bool) (asked yes turned a0 a1 shipped d0 d1 acc : Bool) (w : World) (h : FcAt w o a c ⟨done, undone, asked, yes, turned, a0, a1, shipped, d0, d1, acc⟩ da ua) (hm : Fct.may o ⟨done, undone, asked, yes, turned, a0, a1, shipped, d0, d1, acc⟩ = true) (hy : yes = true) (ht : turned = false) (hs : shipped = false) :
    Calls Try.prog 11 #[.agg #[.int .i64 o.id, .int .i64 o.item, .int .i64 o.qty, .int .i64 o.client, .int .i64 o.price, .slice a o.steps.length c], .agg #[.slice da done.length dc, .slice ua undone.length uc, .bool asked, .bool yes, .bool turned, .bool a0, .bool a1, .bool shipped, .bool d0, .bool d1, .bool acc]] w (fun e w' => (∃ v, e = .returned v ∧ MsOwn w' w.heap.size v (decTo 9 o a0 a1 2 ++ [⟨15, 0, 3, o.id, 0, o.item, o.qty⟩])) ∧ Keeps (fun _ => False) w w') := by
  have HF0 := Kept.mk ((h.alloc (.cells #[.int .i64 o.id, .int .i64 o.item, .int .i64 o.qty, .int .i64 o.client, .int .i64 o.price, .slice a o.steps.length c] 24)).alloc (.cells #[.slice da done.length dc, .slice ua undone.length uc, .bool asked, .bool yes, .bool turned, .bool a0, .bool a1, .bool shipped, .bool d0, .bool d1, .bool acc] 31))
  have HO0 := Kept.mk ((Blk.new' w 24 [.int .i64 o.id, .int .i64 o.item, .int .i64 o.qty, .int .i64 o.client, .int .i64 o.price, .slice a o.steps.length c] _ rfl).alloc (.cells #[.slice da done.length dc, .slice ua undone.length uc, .bool asked, .bool yes, .bool turned, .bool a0, .bool a1, .bool shipped, .bool d0, .bool d1, .bool acc] 31))
  have HB0 := Kept.mk (Blk.new' (w.alloc (.cells #[.int .i64 o.id, .int .i64 o.item, .int .i64 o.qty, .int .i64 o.client, .int .i64 o.price, .slice a o.steps.length c] 24)) 31 [.slice da done.length dc, .slice ua undone.length uc, .bool asked, .bool yes, .bool turned, .bool a0, .bool a1, .bool shipped, .bool d0, .bool d1, .bool acc] (w.heap.size + 1) (by simp))
  have K0 : Kept (Keeps (fun _ => False) w ((w.alloc (.cells #[.int .i64 o.id, .int .i64 o.item, .int .i64 o.qty, .int .i64 o.client, .int .i64 o.price, .slice a o.steps.length c] 24)).alloc (.cells #[.slice da done.length dc, .slice ua undone.length uc, .bool asked, .bool yes, .bool turned, .bool a0, .bool a1, .bool shipped, .bool d0, .bool d1, .bool acc] 31))) := ⟨((Keeps.refl _ w).alloc _).alloc _⟩
  clear h
  subst hy
  subst ht
  subst hs
  have Hm := Kept.mk hm
  clear hm
  go_enter Try.func11, Try.ntmps11
  go_wp2_with fail
  refine (fmay_to o a da ua c dc uc ⟨done, undone, asked, true, false, a0, a1, false, d0, d1, acc⟩ true _ HF0.out Hm.out).mono ?_
  rintro e w1 ⟨rfl, k1⟩
  have HF1 := Kept.mk (HF0.out.keeps k1)
  have HO1 := Kept.mk (HO0.out.quiet k1)
  have HB1 := Kept.mk (HB0.out.quiet k1)
  have K1 := Kept.mk (K0.out.trans k1)
  clear k1 HF0 HO0 HB0 K0
  obtain ⟨y0, y1, y2, y3, y4, y5, y6, y7, y8, y9, y10⟩ := blk11 HB1.out
  obtain ⟨x0, x1, x2, x3, x4, x5⟩ := blk6 HO1.out
  go_wp2_with fail
  refine (tell_to 15 3 o a c _).mono ?_
  rintro e w2 ⟨rfl, hw2⟩
  have k2 : Keeps (fun _ => False) w1 w2 := by rw [← hw2]; exact ((Keeps.refl _ _).alloc _).alloc _
  clear hw2
  have HO2 := Kept.mk ((HO1.out.quiet k2).alloc (.cells (encMs ⟨15, 0, 3, o.id, 0, 0, 0⟩).toArray 36))
  have HB2 := Kept.mk ((HB1.out.quiet k2).alloc (.cells (encMs ⟨15, 0, 3, o.id, 0, 0, 0⟩).toArray 36))
  have K2 := Kept.mk ((K1.out.trans k2).alloc (.cells (encMs ⟨15, 0, 3, o.id, 0, 0, 0⟩).toArray 36))
  have hp := Blk.new' w2 36 (encMs ⟨15, 0, 3, o.id, 0, 0, 0⟩) _ rfl
  clear y0 y1 y2 y3 y4 y5 y6 y7 y8 y9 y10 x0 x1 x2 x3 x4 x5
  obtain ⟨x0, x1, x2, x3, x4, x5⟩ := blk6 (HO1.out.quiet k2)
  have hz0 := (HO1.out.quiet k2).lt
  have p5 := hp.cell 5 rfl
  have p6 := hp.cell 6 rfl
  have f5 := hp.frozen 5
  have f6 := hp.frozen 6
  have hz2 := HO2.out.lt
  have hlt2 : w.heap.size + 1 < w2.heap.size := by have := HB1.out.lt; have := k2.size; omega
  have K2b := Kept.mk k2
  dsimp only [encMs] at p5 p6 f5 f6
  have HO1q := Kept.mk (HO1.out.quiet k2)
  have HB1q := Kept.mk (HB1.out.quiet k2)
  clear hp k2 HO1 HB1 HF1
  go_wp2_with fail
  go_region
  obtain ⟨w9, hw9⟩ : ∃ w9, (w2.alloc (.cells #[.int .i64 15, .int .i64 0, .int .i64 3, .int .i64 o.id, .int .i64 0, .int .i64 o.item, .int .i64 o.qty] 36)).drew = w9 := ⟨_, rfl⟩
  have HO8 : Kept (Blk w9 w.heap.size 24 _) := ⟨by rw [← hw9]; exact ((HO1q.out).alloc _).drew⟩
  have HB8 : Kept (Blk w9 (w.heap.size + 1) 31 _) := ⟨by rw [← hw9]; exact ((HB1q.out).alloc _).drew⟩
  have HP8 : Kept (Blk w9 w2.heap.size 36 (encMs ⟨15, 0, 3, o.id, 0, o.item, o.qty⟩)) := ⟨by rw [← hw9]; exact (Blk.new' w2 36 (encMs ⟨15, 0, 3, o.id, 0, o.item, o.qty⟩) _ rfl).drew⟩
  have K8 : Kept (Keeps (fun _ => False) w w9) := ⟨by rw [← hw9]; exact ((K1.out.trans K2b.out).alloc _).drew⟩
  have HO9 := Kept.mk (HO8.out.drewN 1)
  have HB9 := Kept.mk (HB8.out.drewN 1)
  have HP9 := Kept.mk (HP8.out.drewN 1)
  have K9 := Kept.mk (K8.out.drewN 1)
  rw [hw9]
  clear hw9
  clear p5 p6 f5 f6 x0 x1 x2 x3 x4 x5
  go_wp2_with fail
  go_region_held3 (fun W => W.cell? ⟨w.heap.size, 0, none⟩ = some (.int .i64 o.id) ∧ W.cell? ⟨w.heap.size, 1, none⟩ = some (.int .i64 o.item) ∧ W.cell? ⟨w.heap.size, 2, none⟩ = some (.int .i64 o.qty) ∧ W.cell? ⟨w.heap.size, 3, none⟩ = some (.int .i64 o.client) ∧ W.cell? ⟨w.heap.size, 4, none⟩ = some (.int .i64 o.price) ∧ W.cell? ⟨w.heap.size, 5, none⟩ = some (.slice a o.steps.length c) ∧ W.cell? ⟨w.heap.size + 1, 0, none⟩ = some (.slice da done.length dc) ∧ W.cell? ⟨w.heap.size + 1, 1, none⟩ = some (.slice ua undone.length uc) ∧ W.cell? ⟨w.heap.size + 1, 2, none⟩ = some (.bool asked) ∧ W.cell? ⟨w.heap.size + 1, 3, none⟩ = some (.bool true) ∧ W.cell? ⟨w.heap.size + 1, 4, none⟩ = some (.bool false) ∧ W.cell? ⟨w.heap.size + 1, 5, none⟩ = some (.bool a0) ∧ W.cell? ⟨w.heap.size + 1, 6, none⟩ = some (.bool a1) ∧ W.cell? ⟨w.heap.size + 1, 7, none⟩ = some (.bool false) ∧ W.cell? ⟨w.heap.size + 1, 8, none⟩ = some (.bool d0) ∧ W.cell? ⟨w.heap.size + 1, 9, none⟩ = some (.bool d1) ∧ W.cell? ⟨w.heap.size + 1, 10, none⟩ = some (.bool acc) ∧ W.cell? ⟨w2.heap.size, 0, none⟩ = some (.int .i64 15) ∧ W.cell? ⟨w2.heap.size, 1, none⟩ = some (.int .i64 0) ∧ W.cell? ⟨w2.heap.size, 2, none⟩ = some (.int .i64 3) ∧ W.cell? ⟨w2.heap.size, 3, none⟩ = some (.int .i64 o.id) ∧ W.cell? ⟨w2.heap.size, 4, none⟩ = some (.int .i64 0) ∧ W.cell? ⟨w2.heap.size, 5, none⟩ = some (.int .i64 o.item) ∧ W.cell? ⟨w2.heap.size, 6, none⟩ = some (.int .i64 o.qty)) ((first | exact s24 HO4.out HB4.out HP4.out | exact s24 HO3.out HB3.out HP3.out | exact s24 (HOd.out.alloc _) (HBd.out.alloc _) (HPd.out.alloc _) | exact s24 HOd.out HBd.out HPd.out | exact s24 HO9.out HB9.out HP9.out | exact s24 (HO8.out.alloc _).drew (HB8.out.alloc _).drew (HP8.out.alloc _).drew)) (first
    | (go_at_call 25; refine (decision_to 9 o a da ua c _ dc _ uc _ _ _ a0 a1 _ _ _ _ _).mono ?_; rintro e wd ⟨⟨vd, rfl, hd⟩, kd⟩; (first | (have HOd := Kept.mk (HO9.out.quiet kd); have HBd := Kept.mk (HB9.out.quiet kd); have HPd := Kept.mk (HP9.out.quiet kd); have KD := Kept.mk (K9.out.trans kd); have HD := Kept.mk (hd.mono (base' := w2.heap.size + 1) HP9.out.lt)) | (have HO3 := Kept.mk ((HO8.out.alloc _).drew.quiet kd); have HB3 := Kept.mk ((HB8.out.alloc _).drew.quiet kd); have HP3 := Kept.mk ((HP8.out.alloc _).drew.quiet kd); have K3 := Kept.mk ((K8.out.alloc _).drew.trans kd); have HD3 := Kept.mk (hd.mono (base' := w2.heap.size + 1) (HP8.out.alloc _).drew.lt); have HS3 := Kept.mk ((Blk.new' w9 36 (encMs ⟨15, 0, 3, o.id, 0, o.item, o.qty⟩) _ rfl).drew.quiet kd))); clear hd kd)
    | (obtain ⟨a', c', w3, hrun, hM3, k3⟩ := ms_append (m := ⟨15, 0, 3, o.id, 0, o.item, o.qty⟩) HD3.out (by have := decTo_len 9 o a0 a1 2; omega) HP3.out.lt HS3.out; have HO4 := Kept.mk (HO3.out.keeps k3 (fun e => by have := (HD3.out.lt _ e).1; omega)); have HB4 := Kept.mk (HB3.out.keeps k3 (fun e => by have := (HD3.out.lt _ e).1; omega)); have HP4 := Kept.mk (HP3.out.keeps k3 (fun e => by have := (HD3.out.lt _ e).1; omega)); refine step_append_run rfl _ _ _ rfl rfl rfl hrun ?_)
    | (have HO3 := Kept.mk (HOd.out.alloc (.cells (encMs ⟨15, 0, 3, o.id, 0, o.item, o.qty⟩).toArray 36)); have HB3 := Kept.mk (HBd.out.alloc (.cells (encMs ⟨15, 0, 3, o.id, 0, o.item, o.qty⟩).toArray 36)); have HP3 := Kept.mk (HPd.out.alloc (.cells (encMs ⟨15, 0, 3, o.id, 0, o.item, o.qty⟩).toArray 36)); have K3 := Kept.mk (KD.out.alloc (.cells (encMs ⟨15, 0, 3, o.id, 0, o.item, o.qty⟩).toArray 36)); have HD3 := Kept.mk (HD.out.quiet ((Keeps.refl _ _).alloc (.cells (encMs ⟨15, 0, 3, o.id, 0, o.item, o.qty⟩).toArray 36))); have HS3 := Kept.mk (Blk.new' wd 36 (encMs ⟨15, 0, 3, o.id, 0, o.item, o.qty⟩) _ rfl); obtain ⟨a', c', w3, hrun, hM3, k3⟩ := ms_append (m := ⟨15, 0, 3, o.id, 0, o.item, o.qty⟩) HD3.out (by have := decTo_len 9 o a0 a1 2; omega) HP3.out.lt HS3.out; have HO4 := Kept.mk (HO3.out.keeps k3 (fun e => by have := (HD3.out.lt _ e).1; omega)); have HB4 := Kept.mk (HB3.out.keeps k3 (fun e => by have := (HD3.out.lt _ e).1; omega)); have HP4 := Kept.mk (HP3.out.keeps k3 (fun e => by have := (HD3.out.lt _ e).1; omega)); refine step_append_run rfl _ _ _ rfl rfl rfl hrun ?_))
  all_goals
    go_wp2_with fail
    go_ret
    exact ⟨⟨_, rfl, MsOwn.mono (base' := w.heap.size) hM3 (by omega)⟩, K3.out.then k3 (fun i hi e => by have := (HD3.out.lt i e).1; omega)⟩
theorem Fct.may_parts {o : Ord} {f : Fct} (h : f.may o = true) : o.may = true ∧ f.done.length = o.steps.length ∧ f.undone.length = o.steps.length := by
  unfold Fct.may at h
  simp only [Bool.and_eq_true, beq_iff_eq] at h
  exact ⟨h.1.1.1.1.1.1.1.1.1, h.1.1.1.1.1.1.1.1.2, h.1.1.1.1.1.1.1.2⟩
theorem next_to (o : Ord) (a da ua : Option Addr) (c dc uc : Nat) (f : Fct) (w : World) (h : FcAt w o a c f da ua) :
    Calls Try.prog 11 #[.agg #[.int .i64 o.id, .int .i64 o.item, .int .i64 o.qty, .int .i64 o.client, .int .i64 o.price, .slice a o.steps.length c], .agg #[.slice da f.done.length dc, .slice ua f.undone.length uc, .bool f.asked, .bool f.yes, .bool f.turned, .bool f.a0, .bool f.a1, .bool f.shipped, .bool f.d0, .bool f.d1, .bool f.acc]] w (fun e w' => (∃ v, e = .returned v ∧ MsOwn w' w.heap.size v (nextL o f)) ∧ Keeps (fun _ => False) w w') := by
  obtain ⟨done, undone, asked, yes, turned, a0, a1, shipped, d0, d1, acc⟩ := f
  by_cases hm : Fct.may o ⟨done, undone, asked, yes, turned, a0, a1, shipped, d0, d1, acc⟩ = true
  · obtain ⟨h0, h1, h2⟩ := Fct.may_parts hm
    have h3 := Ord.may_len h0
    cases turned with
    | true =>
      have := next_turned o a da ua c dc uc done undone asked yes _ a0 a1 shipped d0 d1 acc w h hm rfl h2 h3
      simpa [nextL, hm] using this
    | false => cases yes with
      | false =>
        have := next_fwd o a da ua c dc uc done undone asked _ _ a0 a1 shipped d0 d1 acc w h hm rfl rfl h1
        simpa [nextL, hm] using this
      | true => cases shipped with
        | true =>
          have := next_told o a da ua c dc uc done undone asked _ _ a0 a1 _ d0 d1 acc w h hm rfl rfl rfl
          simpa [nextL, hm] using this
        | false =>
          have := next_ship o a da ua c dc uc done undone asked _ _ a0 a1 _ d0 d1 acc w h hm rfl rfl rfl
          simpa [nextL, hm] using this
  · have hm2 : Fct.may o ⟨done, undone, asked, yes, turned, a0, a1, shipped, d0, d1, acc⟩ = false := by simpa using hm
    have := next_no o a da ua c dc uc done undone asked yes turned a0 a1 shipped d0 d1 acc w h hm2
    simpa [nextL, hm2] using this
end Go.Proofs.Ytfcnegnkmacajaa
