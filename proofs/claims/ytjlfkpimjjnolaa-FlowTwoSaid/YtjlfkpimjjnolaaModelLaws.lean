/- The law's awake at the model, the law ModelNil, and See in one word. -/
import Derived.Test.YtjlfkpimjjnolaaModel3
import Derived.Test.YtjlfkpimjjnolaaModelP
namespace Go.Proofs.Ytjlfkpimjjnolaa
open Go.RowKit
/-- Behind a See. -/
def SeeTo (w : World) (p : Nat) (a : Option Addr) (c : Nat) (o : Ord) (A : List Act2) (s : Sty) (x : Act2) (e : Ending) (w' : World) : Prop :=
  ∃ (r : Bool) (A' : List Act2) (s' : Sty) (b' : Option Addr) (d' : Nat), e = .returned (.bool r) ∧ ModAt w' p a c b' d' o A' ∧ MInv o A' s' ∧ Keeps (fun k => k = p) w w' ∧
    (s.may x o.steps.length = r ∧ (r = true → A' = A ++ [x] ∧ s' = s.note x.1) ∧ (r = false → A' = A ∧ s' = s))
theorem see_any (p : Nat) (a b : Option Addr) (c d : Nat) (o : Ord) (A : List Act2) (s : Sty) (x y : Int) (w : World) (h : ModAt w p a c b d o A) (hi : MInv o A s) :
    Calls Try.prog 18 #[.pointer (some ⟨p, 0, none⟩), .agg #[.int .i64 x, .int .i64 y]] w (SeeTo w p a c o A s (x, y)) := by
  have hs := hi.small
  cases hm : s.may (x, y) o.steps.length with
  | false =>
    refine (see_no p a b c d o A x y _ w h (hi.stop hm) (by omega)).mono ?_
    rintro e w' ⟨he, k⟩
    exact ⟨false, A, s, b, d, he, h.keeps k, hi, k.mono (fun _ _ h => h.elim), hm, fun h => (by cases h), fun _ => ⟨rfl, rfl⟩⟩
  | true =>
    refine (see_yes p a b c d o A x y w h (hi.goes hm) (by omega)).mono ?_
    rintro e w' ⟨he, ⟨b', d', h'⟩, k⟩
    exact ⟨true, A ++ [(x, y)], s.note x, b', d', he, h', hi.step hm, k, hm, fun _ => ⟨rfl, rfl⟩, fun h => (by cases h)⟩
theorem note_mono (s : Sty) (k : Int) : (s.commits = true → (s.note k).commits = true) ∧ (s.shipped = true → (s.note k).shipped = true) ∧ (s.aborts = true → (s.note k).aborts = true) := by
  unfold Sty.note
  refine ⟨fun h => ?_, fun h => ?_, fun h => ?_⟩
  all_goals
    split
    · exact h
    split
    · exact h
    split
    · first | exact h | rfl
    split
    · first | exact h | rfl
    split
    · first | exact h | rfl
    · exact h
set_option maxRecDepth 100000 in
set_option maxHeartbeats 2000000 in
theorem awake23_any (w : World) : Calls Try.prog 14 #[] w (Yes w) := by
  obtain ⟨o, ho⟩ : ∃ o : Ord, o = ⟨1, 0, 1, 0, 1, [(5, 9)]⟩ := ⟨_, rfl⟩
  have hmay : o.may = true := by subst ho; decide
  have hL : StRow (w.alloc (.cells #[.int .i64 5, .int .i64 9] 45)) (some ⟨w.heap.size, 0, none⟩) o.steps := by
    have hb := Blk.new w 45 [.int .i64 5, .int .i64 9]
    subst ho
    intro k x hx
    match k, hx with
    | 0, hx =>
      simp only [List.getElem?_cons_zero, Option.some.injEq] at hx
      subst hx
      exact ⟨w.heap.size, 0, rfl, by simp, hb.cell 0 rfl, hb.cell 1 rfl⟩
    | k + 1, hx => simp at hx
  have i0 := MInv.zero hmay
  have m1 : Sty.zero.may (2, 0) o.steps.length = true := by subst ho; decide
  have i1 := i0.step m1
  have m2 : (Sty.zero.note 2).may (16, 0) o.steps.length = false := by subst ho; decide
  have hh : heldN o [(2, 0)] 5 = 9 := by
    have := i1.held (k := 0) (x := (5, 9)) (by subst ho; rfl)
    rw [List.nil_append] at this
    rw [this]; subst ho; decide
  have hs : hasAct [(2, 0)] 13 0 = false := by decide
  have g1 := i0.goes m1
  have g2 := i1.stop m2
  rw [List.nil_append] at g1 g2
  have e1 : o.id = 1 := by rw [ho]
  have e2 : o.item = 0 := by rw [ho]
  have e3 : o.qty = 1 := by rw [ho]
  have e4 : o.client = 0 := by rw [ho]
  have e5 : o.price = 1 := by rw [ho]
  have e6 : o.steps.length = 1 := by rw [ho]; rfl
  have new := newM_yes o (some ⟨w.heap.size, 0, none⟩) 1 _ hL hmay
  rw [e1, e2, e3, e4, e5, e6] at new
  have New := Kept.mk new
  have G1 := Kept.mk g1
  have G2 := Kept.mk g2
  have HH := Kept.mk hh
  have HS := Kept.mk hs
  clear new hL i0 m1 i1 m2 hh hs e1 e2 e3 e4 e5 e6 hmay ho g1 g2
  go_enter Try.func14, Try.ntmps14
  go_wp2_with fail
  refine New.out.mono ?_
  rintro e w1 ⟨p, a, c, rfl, h1, hp, k1⟩
  have K1 := Kept.mk (((Keeps.refl (fun _ => False) w).alloc (.cells #[.int .i64 5, .int .i64 9] 45)).trans k1)
  have H1 := Kept.mk h1
  have hpw : w.heap.size < p := by simp at hp; omega
  clear k1 h1 hp
  go_wp2_with fail
  refine (see_yes p a none c 0 o [] 2 0 _ H1.out G1.out (by simp)).mono ?_
  rintro e w2 ⟨rfl, ⟨b2, d2, h2⟩, k2⟩
  have K2 : Kept (Keeps (fun _ => False) w w2) := ⟨K1.out.then k2 (fun i hi e => by omega)⟩
  have H2 := Kept.mk h2
  clear k2 h2
  go_wp2_with fail
  refine (held_to p a b2 c d2 o [(2, 0)] 5 9 _ H2.out HH.out).mono ?_
  rintro e w3 ⟨rfl, k3⟩
  have H3 := Kept.mk (H2.out.keeps k3)
  go_wp2_with fail
  refine (see_no p a b2 c d2 o [(2, 0)] 16 0 _ _ H3.out G2.out (by simp)).mono ?_
  rintro e w4 ⟨rfl, k4⟩
  have H4 := Kept.mk (H3.out.keeps k4)
  go_wp2_with fail
  refine (sold_to p a b2 c d2 o [(2, 0)] false _ H4.out HS.out).mono ?_
  rintro e w5 ⟨rfl, k5⟩
  go_wp2_with fail
  go_ret
  exact ⟨rfl, (((K2.out.trans k3).trans k4).trans k5).below (Nat.le_refl _) (fun _ h => h.elim)⟩
set_option maxHeartbeats 1000000 in
theorem mnil_any (x y : Int) (w : World) : Calls Try.prog 8 #[.agg #[.int .i64 x, .int .i64 y]] w (Yes w) := by
  have HX := Kept.mk (Blk.new w 30 [.int .i64 x, .int .i64 y])
  go_enter Try.func8, Try.ntmps8
  go_wp2_with fail
  refine (see_nil _ _ _).mono ?_
  rintro e w1 ⟨rfl, k1⟩
  have hx1 := HX.out.keeps k1 (fun h => h)
  have c1 := hx1.cell 1 rfl
  have HX1 := Kept.mk hx1
  have K1 := Kept.mk (((Keeps.refl (fun _ => False) w).alloc (.cells #[.int .i64 x, .int .i64 y] 30)).trans k1)
  clear k1 hx1
  go_wp2_with fail
  refine (seen_nil _).mono ?_
  rintro e _ ⟨rfl, rfl⟩
  go_wp2_with fail
  refine (held_nil _ _).mono ?_
  rintro e _ ⟨rfl, rfl⟩
  go_wp2_with fail
  refine (sold_nil _).mono ?_
  rintro e _ ⟨rfl, rfl⟩
  go_wp2_with fail
  refine (sent_nil _).mono ?_
  rintro e _ ⟨rfl, rfl⟩
  go_wp2_with fail
  refine (clean_nil _).mono ?_
  rintro e w2 ⟨rfl, k2⟩
  go_wp2_with fail
  refine (awake23_any _).mono ?_
  rintro e w3 ⟨rfl, k3⟩
  have B2 := (K1.out.trans k2).below (Nat.le_refl _) (fun _ h => h.elim)
  go_wp2_with fail
  go_ret
  exact ⟨rfl, B2.trans (k3.mono B2.size)⟩
end Go.Proofs.Ytjlfkpimjjnolaa
