/- Package model, walked: Held, Clean, New, See. -/
import Derived.Test.YtjlfkpimjjnolaaModel
namespace Go.Proofs.Ytjlfkpimjjnolaa
open Go.RowKit
def heldN (o : Ord) (A : List Act2) (s : Int) : Int :=
  if atOf o.steps s < 0 then 0 else if hasAct A 2 (atOf o.steps s) then (if hasAct A 5 (atOf o.steps s) then 0 else ((o.steps[(atOf o.steps s).toNat]?).map (·.2)).getD 0) else 0
theorem held_nil (s : Int) (w : World) : Calls Try.prog 19 #[.pointer none, .int .i64 s] w (Says w (.int .i64 0)) := by
  go_enter Try.func19, Try.ntmps19
  go_wp2
  go_ret
  exact ⟨rfl, rfl⟩
set_option maxRecDepth 100000 in
set_option maxHeartbeats 2000000 in
theorem held_to (p : Nat) (a b : Option Addr) (c d : Nat) (o : Ord) (A : List Act2) (s r : Int) (w : World) (h : ModAt w p a c b d o A) (hr : heldN o A s = r) :
    Calls Try.prog 19 #[.pointer (some ⟨p, 0, none⟩), .int .i64 s] w (fun e w' => e = .returned (.int .i64 r) ∧ Keeps (fun _ => False) w w') := by
  subst hr
  have c0 := h.cells.cell 0 rfl
  have c1 := h.cells.cell 1 rfl
  have c2 := h.cells.cell 2 rfl
  have c3 := h.cells.cell 3 rfl
  have c4 := h.cells.cell 4 rfl
  have c5 := h.cells.cell 5 rfl
  have hl3 := Ord.may_len h.may
  have H := Kept.mk h
  have HM : Kept (o.steps.length ≤ maxLen) := ⟨by unfold maxLen; omega⟩
  obtain ⟨i, Hi⟩ : ∃ i, Kept (atOf o.steps s = i) := ⟨_, ⟨rfl⟩⟩
  clear h
  by_cases hi : i < 0
  · have Hr : Kept (heldN o A s = 0) := ⟨by unfold heldN; rw [Hi.out, if_pos hi]⟩
    rw [Hr.out]
    go_enter Try.func19, Try.ntmps19
    go_wp2_with fail
    refine (at_to o a c s i _ H.out.steps HM.out Hi.out).mono ?_
    rintro e w1 ⟨rfl, k1⟩
    go_wp2_with fail
    go_ret
    exact ⟨rfl, k1⟩
  cases h2 : hasAct A 2 i with
  | false =>
    have H2 := Kept.mk h2
    have Hr : Kept (heldN o A s = 0) := ⟨by unfold heldN; rw [Hi.out, if_neg hi, h2]; rfl⟩
    rw [Hr.out]
    clear h2
    go_enter Try.func19, Try.ntmps19
    go_wp2_with fail
    refine (at_to o a c s i _ H.out.steps HM.out Hi.out).mono ?_
    rintro e w1 ⟨rfl, k1⟩
    go_wp2_with fail
    refine (saw_to p a b c d o A 2 i false _ (H.out.keeps k1) H2.out).mono ?_
    rintro e w2 ⟨rfl, k2⟩
    go_wp2_with fail
    go_ret
    exact ⟨rfl, k1.trans k2⟩
  | true =>
    have H2 := Kept.mk h2
    cases h5 : hasAct A 5 i with
    | true =>
      have H5 := Kept.mk h5
      have Hr : Kept (heldN o A s = 0) := ⟨by unfold heldN; rw [Hi.out, if_neg hi, h2, h5]; rfl⟩
      rw [Hr.out]
      clear h2 h5
      go_enter Try.func19, Try.ntmps19
      go_wp2_with fail
      refine (at_to o a c s i _ H.out.steps HM.out Hi.out).mono ?_
      rintro e w1 ⟨rfl, k1⟩
      go_wp2_with fail
      refine (saw_to p a b c d o A 2 i true _ (H.out.keeps k1) H2.out).mono ?_
      rintro e w2 ⟨rfl, k2⟩
      go_wp2_with fail
      refine (saw_to p a b c d o A 5 i true _ ((H.out.keeps k1).keeps k2) H5.out).mono ?_
      rintro e w3 ⟨rfl, k3⟩
      go_wp2_with fail
      go_ret
      exact ⟨rfl, (k1.trans k2).trans k3⟩
    | false =>
      have H5 := Kept.mk h5
      obtain ⟨j, rfl⟩ := Int.eq_ofNat_of_zero_le (by omega : 0 ≤ i)
      obtain ⟨⟨x1, x2⟩, hx, _, _⟩ := fAt_some Hi.out
      have Hx := Kept.mk hx
      have hjl : (j : Int) < o.steps.length := by have := (List.getElem?_eq_some_iff.1 hx).1; omega
      have Hr : Kept (heldN o A s = x2) := ⟨by unfold heldN; rw [Hi.out, if_neg hi, h2, h5]; simp [hx]⟩
      rw [Hr.out]
      clear h2 h5 hx
      go_enter Try.func19, Try.ntmps19
      go_wp2_with fail
      refine (at_to o a c s j _ H.out.steps HM.out Hi.out).mono ?_
      rintro e w1 ⟨rfl, k1⟩
      go_wp2_with fail
      refine (saw_to p a b c d o A 2 j true _ (H.out.keeps k1) H2.out).mono ?_
      rintro e w2 ⟨rfl, k2⟩
      go_wp2_with fail
      refine (saw_to p a b c d o A 5 j false _ ((H.out.keeps k1).keeps k2) H5.out).mono ?_
      rintro e w3 ⟨rfl, k3⟩
      have h3 := ((H.out.keeps k1).keeps k2).keeps k3
      obtain ⟨g, off, rfl, hl, d0, d1⟩ := h3.steps j _ Hx.out
      have e5 := h3.cells.cell 5 rfl
      have K := Kept.mk ((k1.trans k2).trans k3)
      clear h3 k1 k2 k3
      go_wp2_with fail
      go_ret
      exact ⟨rfl, K.out⟩
def heldB (o : Ord) (A : List Act2) (x : St) : Bool := decide (0 < heldN o A x.1)
def cleanB (o : Ord) (A : List Act2) : Bool := hasAct A 14 0 && !(o.steps.any (heldB o A))
set_option maxHeartbeats 1000000 in
theorem clean1_to (p : Nat) (a b : Option Addr) (c d : Nat) (o : Ord) (A : List Act2) (x y : Int) (r : Bool) (q : Nat) (w : World) (h : ModAt w p a c b d o A) (hq : w.cell? ⟨q, 0, none⟩ = some (.pointer (some ⟨p, 0, none⟩))) (hr : heldB o A (x, y) = r) :
    Calls Try.prog 40 #[.agg #[.int .i64 x, .int .i64 y], .pointer (some ⟨q, 0, none⟩)] w (fun e w' => e = .returned (.bool r) ∧ Keeps (fun _ => False) w w') := by
  subst hr
  have hb := World.block_lt_of_cell? w _ hq
  simp only at hb
  have H := Kept.mk (h.alloc (.cells #[.int .i64 x, .int .i64 y] 45))
  obtain ⟨n, hn⟩ : ∃ n, Kept (heldN o A x = n) := ⟨_, ⟨rfl⟩⟩
  have he : Kept (heldB o A (x, y) = decide (0 < n)) := ⟨by unfold heldB; rw [hn.out]⟩
  rw [he.out]
  clear h
  go_enter Try.func40, Try.ntmps40
  go_wp2_with fail
  refine (held_to p a b c d o A x n _ H.out hn.out).mono ?_
  rintro e w1 ⟨rfl, k1⟩
  go_wp2_with fail
  go_ret
  exact ⟨rfl, ((Keeps.refl _ w).alloc _).trans k1⟩
set_option maxRecDepth 100000 in
set_option maxHeartbeats 1000000 in
theorem heldIndex_any (p : Nat) (a b : Option Addr) (c d : Nat) (o : Ord) (A : List Act2) (q : Nat) (w : World) (h : ModAt w p a c b d o A) (hq : w.cell? ⟨q, 0, none⟩ = some (.pointer (some ⟨p, 0, none⟩))) :
    Calls Try.prog 45 #[.slice a o.steps.length c, .func (.func 40) #[] #[.pointer (some ⟨q, 0, none⟩)]] w (fun e w' => e = .returned (.int .i64 (fAt (heldB o A) o.steps)) ∧ Keeps (fun _ => False) w w') := by
  have hb := World.block_lt_of_cell? w _ hq
  simp only at hb
  have hl3 := Ord.may_len h.may
  have Hq := Kept.mk hq
  have H := Kept.mk h
  clear h hq
  go_enter Try.func45, Try.ntmps45
  go_wp2
  go_loopw [8] (fun i wr => ∃ k : Nat, k ≤ o.steps.length ∧ i = .int .i64 k ∧ Kept (fAt (heldB o A) o.steps = up k (fAt (heldB o A) (o.steps.drop k))) ∧ Keeps (fun _ => False) w wr) (fun i _ => o.steps.length - (intOf i).toNat)
  case atStart => exact ⟨0, Nat.zero_le _, rfl, ⟨by rw [List.drop_zero]; exact fAt_zero _ _⟩, Keeps.refl _ _⟩
  case round =>
    obtain ⟨k, hk, rfl, hf, hB⟩ := hrel
    have HB := Kept.mk hB
    have HR := Kept.mk (H.out.keeps hB)
    have cb := (hB.cell (p := ⟨q, 0, none⟩) hb (fun h => h)).trans Hq.out
    clear hB
    by_cases hlt : k < o.steps.length
    · obtain ⟨x, hx⟩ : ∃ x, o.steps[k]? = some x := ⟨_, List.getElem?_eq_getElem hlt⟩
      have hd : Kept (o.steps.drop k = x :: o.steps.drop (k + 1)) := ⟨by rw [List.drop_eq_getElem_cons hlt]; rw [List.getElem?_eq_getElem hlt] at hx; simp only [Option.some.injEq] at hx; rw [hx]⟩
      obtain ⟨g, off, rfl, hl, c0, c1⟩ := HR.out.steps k x hx
      obtain ⟨x1, x2⟩ := x
      simp only at c0 c1
      clear hx
      cases e : heldB o A (x1, x2) with
      | true =>
        have He := Kept.mk e
        clear e
        go_wp2_with fail
        refine (clean1_to p _ b c d o A x1 x2 true q _ HR.out cb He.out).mono ?_
        rintro e w1 ⟨rfl, k1⟩
        go_wp2_with fail
        go_ret
        exact ⟨by rw [hf.out, hd.out, fAt_yes _ He.out]; rfl, HB.out.trans k1⟩
      | false =>
        have He := Kept.mk e
        clear e
        go_wp2_with fail
        refine (clean1_to p _ b c d o A x1 x2 false q _ HR.out cb He.out).mono ?_
        rintro e w1 ⟨rfl, k1⟩
        go_wp2_with fail
        go_roundw
        case rel => exact ⟨k + 1, by omega, by go_num, ⟨by rw [hf.out, hd.out]; exact fAt_up _ He.out⟩, HB.out.trans k1⟩
        case measure => simp [intOf]; omega
    · go_wp2_with fail
      go_ret
      exact ⟨by rw [hf.out, List.drop_of_length_le (by omega)]; simp [fAt, up], HB.out⟩
theorem any_at {α : Type} (p : α → Bool) (L : List α) : L.any p = decide (0 ≤ fAt p L) := by
  cases e : L.any p with
  | false =>
    have hn := any_false e
    have : fAt p L = -1 := by
      have := fAt_app (b := []) hn
      rw [List.append_nil] at this
      rw [this]; simp [fAt, up]
    rw [this]; rfl
  | true =>
    obtain ⟨x, hx, hp⟩ := List.any_eq_true.1 e
    rcases Int.lt_or_le (fAt p L) 0 with h | h
    · have := fAt_none h x hx
      rw [this] at hp; cases hp
    · simpa using h
set_option maxHeartbeats 1000000 in
theorem heldAny_to (p : Nat) (a b : Option Addr) (c d : Nat) (o : Ord) (A : List Act2) (q : Nat) (r : Bool) (w : World) (h : ModAt w p a c b d o A) (hq : w.cell? ⟨q, 0, none⟩ = some (.pointer (some ⟨p, 0, none⟩))) (hr : o.steps.any (heldB o A) = r) :
    Calls Try.prog 39 #[.slice a o.steps.length c, .func (.func 40) #[] #[.pointer (some ⟨q, 0, none⟩)]] w (fun e w' => e = .returned (.bool r) ∧ Keeps (fun _ => False) w w') := by
  subst hr
  have H := Kept.mk h
  have Hq := Kept.mk hq
  obtain ⟨n, hn⟩ : ∃ n, Kept (fAt (heldB o A) o.steps = n) := ⟨_, ⟨rfl⟩⟩
  have he : Kept (o.steps.any (heldB o A) = decide (0 ≤ n)) := ⟨by rw [any_at, hn.out]⟩
  rw [he.out]
  clear h hq
  go_enter Try.func39, Try.ntmps39
  go_wp2_with fail
  refine (heldIndex_any p a b c d o A q _ H.out Hq.out).mono ?_
  rintro e w1 ⟨rfl, k1⟩
  rw [hn.out]
  go_wp2_with fail
  go_ret
  exact ⟨rfl, k1⟩
end Go.Proofs.Ytjlfkpimjjnolaa
