/- The reference's Trace: See, walked. (printed by gen/tsee.py) -/
import Derived.Test.YtjlfkpimjjnolaaTrace
import Derived.IntWalk
namespace Go.Proofs.Ytjlfkpimjjnolaa
open Go.RowKit
theorem tblk12 {W : World} {b T : Nat} {v0 v1 v2 v3 v4 v5 v6 v7 v8 v9 v10 v11 : Value} (h : Blk W b T [v0, v1, v2, v3, v4, v5, v6, v7, v8, v9, v10, v11]) :
    W.cell? ⟨b, 6, none⟩ = some v6 ∧ W.cell? ⟨b, 7, none⟩ = some v7 ∧ W.cell? ⟨b, 8, none⟩ = some v8 ∧ W.cell? ⟨b, 9, none⟩ = some v9 ∧ W.cell? ⟨b, 10, none⟩ = some v10 ∧ W.cell? ⟨b, 11, none⟩ = some v11 :=
  ⟨h.cell 6 rfl, h.cell 7 rfl, h.cell 8 rfl, h.cell 9 rfl, h.cell 10 rfl, h.cell 11 rfl⟩
section
variable {n st d u : Int} {x y z : Bool}
theorem may_2 : Sty.may ⟨d, u, x, y, z⟩ (2, st) n = true ↔ st = d ∧ d < n ∧ x = false ∧ u = 0 := by simp [Sty.may]
theorem may_5 : Sty.may ⟨d, u, x, y, z⟩ (5, st) n = true ↔ y = true ∧ u < d ∧ st = d - u - 1 := by simp [Sty.may]
theorem may_13 : Sty.may ⟨d, u, x, y, z⟩ (13, st) n = true ↔ st = 0 ∧ d = n ∧ x = false ∧ y = false := by simp [Sty.may]
theorem may_14 : Sty.may ⟨d, u, x, y, z⟩ (14, st) n = true ↔ st = 0 ∧ x = false ∧ y = false := by simp [Sty.may]
theorem may_16 : Sty.may ⟨d, u, x, y, z⟩ (16, st) n = true ↔ st = 0 ∧ x = true ∧ z = false := by simp [Sty.may]
end
theorem rowD_set {n i : Nat} (h : i < n) : (rowD n i).set i (.bool true) = rowD n (i + 1) := by
  unfold rowD
  rw [rowF_put, rowF_congr (h' := fun k => decide (k < i + 1)) (fun k hk => by
    by_cases e : k = i
    · subst e; simp
    · rw [if_neg e, decide_eq_decide]; omega)]
theorem rowU_zero (n d e : Nat) : rowU n d 0 = rowU n e 0 := by
  unfold rowU
  rw [rowF_congr (h' := fun k => decide (e - 0 ≤ k) && decide (k < e)) (fun k hk => by
    rw [Bool.eq_iff_iff]; simp; omega)]
theorem rowU_set {n i u d : Nat} (h : i + u + 1 = d) : (rowU n d u).set i (.bool true) = rowU n d (u + 1) := by
  unfold rowU
  rw [rowF_put, rowF_congr (h' := fun k => decide (d - (u + 1) ≤ k) && decide (k < d)) (fun k hk => by
    by_cases e : k = i
    · subst e; rw [if_pos rfl, Bool.eq_iff_iff]; simp; omega
    · rw [if_neg e, Bool.eq_iff_iff]; simp; omega)]
theorem no_of {b r : Bool} {Q : Prop} (hr : b = r) (h : b = true ↔ Q) (hq : ¬ Q) : r = false := by
  subst hr
  cases b with
  | false => rfl
  | true => exact absurd (h.1 rfl) hq
theorem yes_of {b r : Bool} {Q : Prop} (hr : b = r) (h : b = true ↔ Q) (hq : Q) : r = true := hr.symm.trans (h.2 hq)
/-- What See leaves behind. -/
def SeePost (w : World) (p bd bu : Nat) (o : Ord) (a : Option Addr) (c : Nat) (s : Sty) (r : Bool) (e : Ending) (w' : World) : Prop :=
  e = .returned (.bool r) ∧ (∃ (d' u' : Nat) (x' y' z' : Bool), TrAt w' p bd bu o a c d' u' x' y' z' ∧ (Sty.mk d' u' x' y' z') = s) ∧ Keeps (fun k => k = p ∨ k = bd ∨ k = bu) w w'
theorem SeePost.same {w w' : World} {p bd bu : Nat} {o : Ord} {a : Option Addr} {c d u : Nat} {x y z : Bool} {r : Bool} (h : TrAt w' p bd bu o a c d u x y z) (k : Keeps (fun _ => False) w w') : SeePost w p bd bu o a c ⟨d, u, x, y, z⟩ r (.returned (.bool r)) w' :=
  ⟨rfl, ⟨d, u, x, y, z, h, rfl⟩, k.mono (fun _ _ h => h.elim)⟩
set_option linter.unusedSimpArgs false in
set_option linter.unusedVariables false in
set_option maxRecDepth 100000 in
set_option maxHeartbeats 8000000 in
theorem tsee_14 (p bd bu : Nat) (o : Ord) (a : Option Addr) (c d u : Nat) (x y z r : Bool) (st : Int) (w : World) (h : TrAt w p bd bu o a c d u x y z) (hn : o.steps.length ≤ 1000) (hd : d ≤ o.steps.length) (hu : u ≤ d) (huy : 0 < u → y = true) (hr : Sty.may ⟨d, u, x, y, z⟩ (14, st) o.steps.length = r) :
    Calls Try.prog 17 #[.pointer (some ⟨p, 0, none⟩), .agg #[.int .i64 14, .int .i64 st]] w (SeePost w p bd bu o a c (if r then (Sty.mk d u x y z).note 14 else ⟨d, u, x, y, z⟩) r) := by
  have T0 := Kept.mk (h.keeps ((Keeps.refl (fun _ => False) w).alloc (.cells #[.int .i64 14, .int .i64 st] 30)))
  have K0 := Kept.mk ((Keeps.refl (fun _ => False) w).alloc (.cells #[.int .i64 14, .int .i64 st] 30))
  have hp : p < w.heap.size := h.pb.lt
  have hbd : bd < w.heap.size := h.db.lt
  have hbu : bu < w.heap.size := h.ub.lt
  obtain ⟨c6, c7, c8, c9, c10, c11⟩ := tblk12 h.pb
  have f8 := h.pb.frozen 8
  have f9 := h.pb.frozen 9
  have f10 := h.pb.frozen 10
  have f11 := h.pb.frozen 11
  have HD := Kept.mk h.db
  have HU := Kept.mk h.ub
  have n1 := h.n1
  have n2 := h.n2
  have n3 := h.n3
  have Huy := Kept.mk huy
  clear huy
  have hpb := h.pb
  clear h
  have HPB := Kept.mk hpb
  clear hpb
  by_cases hs : 0 ≤ st
  · have hs2 : decide ((0 : Int) ≤ st) = true := decide_eq_true hs
    by_cases hs3 : st < (o.steps.length : Int)
    · have hs4 : decide (st < (o.steps.length : Int)) = true := decide_eq_true hs3
      by_cases h0 : st = 0
      · subst h0
        cases x with
        | true =>
          have hr2 : r = false := no_of hr may_14 (fun h => by simp at h)
          subst hr2
          go_enter Try.func17, Try.ntmps17
          go_wp2_with fail
          go_ret
          exact SeePost.same T0.out K0.out
        | false =>
          cases y with
          | true =>
            have hr2 : r = false := no_of hr may_14 (fun h => by simp at h)
            subst hr2
            go_enter Try.func17, Try.ntmps17
            go_wp2_with fail
            go_ret
            exact SeePost.same T0.out K0.out
          | false =>
            have hr2 : r = true := yes_of hr may_14 (by simp)
            subst hr2
            have HN : Kept (TrAt ((w.setCell ⟨p, 9, none⟩ (.bool true)).alloc (.cells #[.int .i64 14, .int .i64 0] 30)) p bd bu o a c d u false true z) := ⟨by
              have t := T0.out
              exact ⟨(HPB.out.set 9 (.bool true)).alloc _, (HD.out.other (p := ⟨p, 9, none⟩) (fun e => t.n1 e.symm) _).alloc _, (HU.out.other (p := ⟨p, 9, none⟩) (fun e => t.n2 e.symm) _).alloc _, t.n1, t.n2, t.n3⟩⟩
            have KN : Kept (Keeps (fun k => k = p ∨ k = bd ∨ k = bu) w ((w.setCell ⟨p, 9, none⟩ (.bool true)).alloc (.cells #[.int .i64 14, .int .i64 0] 30))) := ⟨((Keeps.refl _ w).setCell (p := ⟨p, 9, none⟩) (.inr (.inl rfl)) _).alloc _⟩
            go_enter Try.func17, Try.ntmps17
            go_wp2_with fail
            go_ret
            exact ⟨rfl, ⟨d, u, false, true, z, HN.out, by simp [Sty.note]⟩, KN.out⟩
      · have h0b : (st == 0) = false := by rw [beq_eq_false_iff_ne]; exact h0
        have h0c : (st != 0) = true := by rw [bne_iff_ne]; exact h0
        have hr2 : r = false := no_of hr may_14 (fun h => h0 h.1)
        subst hr2
        go_enter Try.func17, Try.ntmps17
        go_wp2_with fail
        go_ret
        exact SeePost.same T0.out K0.out
    · have hs4 : decide (st < (o.steps.length : Int)) = false := decide_eq_false hs3
      by_cases h0 : st = 0
      · subst h0
        cases x with
        | true =>
          have hr2 : r = false := no_of hr may_14 (fun h => by simp at h)
          subst hr2
          go_enter Try.func17, Try.ntmps17
          go_wp2_with fail
          go_ret
          exact SeePost.same T0.out K0.out
        | false =>
          cases y with
          | true =>
            have hr2 : r = false := no_of hr may_14 (fun h => by simp at h)
            subst hr2
            go_enter Try.func17, Try.ntmps17
            go_wp2_with fail
            go_ret
            exact SeePost.same T0.out K0.out
          | false =>
            have hr2 : r = true := yes_of hr may_14 (by simp)
            subst hr2
            have HN : Kept (TrAt ((w.setCell ⟨p, 9, none⟩ (.bool true)).alloc (.cells #[.int .i64 14, .int .i64 0] 30)) p bd bu o a c d u false true z) := ⟨by
              have t := T0.out
              exact ⟨(HPB.out.set 9 (.bool true)).alloc _, (HD.out.other (p := ⟨p, 9, none⟩) (fun e => t.n1 e.symm) _).alloc _, (HU.out.other (p := ⟨p, 9, none⟩) (fun e => t.n2 e.symm) _).alloc _, t.n1, t.n2, t.n3⟩⟩
            have KN : Kept (Keeps (fun k => k = p ∨ k = bd ∨ k = bu) w ((w.setCell ⟨p, 9, none⟩ (.bool true)).alloc (.cells #[.int .i64 14, .int .i64 0] 30))) := ⟨((Keeps.refl _ w).setCell (p := ⟨p, 9, none⟩) (.inr (.inl rfl)) _).alloc _⟩
            go_enter Try.func17, Try.ntmps17
            go_wp2_with fail
            go_ret
            exact ⟨rfl, ⟨d, u, false, true, z, HN.out, by simp [Sty.note]⟩, KN.out⟩
      · have h0b : (st == 0) = false := by rw [beq_eq_false_iff_ne]; exact h0
        have h0c : (st != 0) = true := by rw [bne_iff_ne]; exact h0
        have hr2 : r = false := no_of hr may_14 (fun h => h0 h.1)
        subst hr2
        go_enter Try.func17, Try.ntmps17
        go_wp2_with fail
        go_ret
        exact SeePost.same T0.out K0.out
  · have hs2 : decide ((0 : Int) ≤ st) = false := decide_eq_false hs
    have h0 : st ≠ 0 := by omega
    have h0b : (st == 0) = false := by rw [beq_eq_false_iff_ne]; exact h0
    have h0c : (st != 0) = true := by rw [bne_iff_ne]; exact h0
    have hr2 : r = false := no_of hr may_14 (fun h => h0 h.1)
    subst hr2
    go_enter Try.func17, Try.ntmps17
    go_wp2_with fail
    go_ret
    exact SeePost.same T0.out K0.out
set_option linter.unusedSimpArgs false in
set_option linter.unusedVariables false in
set_option maxRecDepth 100000 in
set_option maxHeartbeats 8000000 in
theorem tsee_16 (p bd bu : Nat) (o : Ord) (a : Option Addr) (c d u : Nat) (x y z r : Bool) (st : Int) (w : World) (h : TrAt w p bd bu o a c d u x y z) (hn : o.steps.length ≤ 1000) (hd : d ≤ o.steps.length) (hu : u ≤ d) (huy : 0 < u → y = true) (hr : Sty.may ⟨d, u, x, y, z⟩ (16, st) o.steps.length = r) :
    Calls Try.prog 17 #[.pointer (some ⟨p, 0, none⟩), .agg #[.int .i64 16, .int .i64 st]] w (SeePost w p bd bu o a c (if r then (Sty.mk d u x y z).note 16 else ⟨d, u, x, y, z⟩) r) := by
  have T0 := Kept.mk (h.keeps ((Keeps.refl (fun _ => False) w).alloc (.cells #[.int .i64 16, .int .i64 st] 30)))
  have K0 := Kept.mk ((Keeps.refl (fun _ => False) w).alloc (.cells #[.int .i64 16, .int .i64 st] 30))
  have hp : p < w.heap.size := h.pb.lt
  have hbd : bd < w.heap.size := h.db.lt
  have hbu : bu < w.heap.size := h.ub.lt
  obtain ⟨c6, c7, c8, c9, c10, c11⟩ := tblk12 h.pb
  have f8 := h.pb.frozen 8
  have f9 := h.pb.frozen 9
  have f10 := h.pb.frozen 10
  have f11 := h.pb.frozen 11
  have HD := Kept.mk h.db
  have HU := Kept.mk h.ub
  have n1 := h.n1
  have n2 := h.n2
  have n3 := h.n3
  have Huy := Kept.mk huy
  clear huy
  have hpb := h.pb
  clear h
  have HPB := Kept.mk hpb
  clear hpb
  by_cases hs : 0 ≤ st
  · have hs2 : decide ((0 : Int) ≤ st) = true := decide_eq_true hs
    by_cases hs3 : st < (o.steps.length : Int)
    · have hs4 : decide (st < (o.steps.length : Int)) = true := decide_eq_true hs3
      by_cases h0 : st = 0
      · subst h0
        cases x with
        | false =>
          have hr2 : r = false := no_of hr may_16 (fun h => by simp at h)
          subst hr2
          go_enter Try.func17, Try.ntmps17
          go_wp2_with fail
          go_ret
          exact SeePost.same T0.out K0.out
        | true =>
          cases z with
          | true =>
            have hr2 : r = false := no_of hr may_16 (fun h => by simp at h)
            subst hr2
            go_enter Try.func17, Try.ntmps17
            go_wp2_with fail
            go_ret
            exact SeePost.same T0.out K0.out
          | false =>
            have hr2 : r = true := yes_of hr may_16 (by simp)
            subst hr2
            have HN : Kept (TrAt ((w.setCell ⟨p, 10, none⟩ (.bool true)).alloc (.cells #[.int .i64 16, .int .i64 0] 30)) p bd bu o a c d u true y true) := ⟨by
              have t := T0.out
              exact ⟨(HPB.out.set 10 (.bool true)).alloc _, (HD.out.other (p := ⟨p, 10, none⟩) (fun e => t.n1 e.symm) _).alloc _, (HU.out.other (p := ⟨p, 10, none⟩) (fun e => t.n2 e.symm) _).alloc _, t.n1, t.n2, t.n3⟩⟩
            have KN : Kept (Keeps (fun k => k = p ∨ k = bd ∨ k = bu) w ((w.setCell ⟨p, 10, none⟩ (.bool true)).alloc (.cells #[.int .i64 16, .int .i64 0] 30))) := ⟨((Keeps.refl _ w).setCell (p := ⟨p, 10, none⟩) (.inr (.inl rfl)) _).alloc _⟩
            go_enter Try.func17, Try.ntmps17
            go_wp2_with fail
            go_ret
            exact ⟨rfl, ⟨d, u, true, y, true, HN.out, by simp [Sty.note]⟩, KN.out⟩
      · have h0b : (st == 0) = false := by rw [beq_eq_false_iff_ne]; exact h0
        have h0c : (st != 0) = true := by rw [bne_iff_ne]; exact h0
        have hr2 : r = false := no_of hr may_16 (fun h => h0 h.1)
        subst hr2
        go_enter Try.func17, Try.ntmps17
        go_wp2_with fail
        go_ret
        exact SeePost.same T0.out K0.out
    · have hs4 : decide (st < (o.steps.length : Int)) = false := decide_eq_false hs3
      by_cases h0 : st = 0
      · subst h0
        cases x with
        | false =>
          have hr2 : r = false := no_of hr may_16 (fun h => by simp at h)
          subst hr2
          go_enter Try.func17, Try.ntmps17
          go_wp2_with fail
          go_ret
          exact SeePost.same T0.out K0.out
        | true =>
          cases z with
          | true =>
            have hr2 : r = false := no_of hr may_16 (fun h => by simp at h)
            subst hr2
            go_enter Try.func17, Try.ntmps17
            go_wp2_with fail
            go_ret
            exact SeePost.same T0.out K0.out
          | false =>
            have hr2 : r = true := yes_of hr may_16 (by simp)
            subst hr2
            have HN : Kept (TrAt ((w.setCell ⟨p, 10, none⟩ (.bool true)).alloc (.cells #[.int .i64 16, .int .i64 0] 30)) p bd bu o a c d u true y true) := ⟨by
              have t := T0.out
              exact ⟨(HPB.out.set 10 (.bool true)).alloc _, (HD.out.other (p := ⟨p, 10, none⟩) (fun e => t.n1 e.symm) _).alloc _, (HU.out.other (p := ⟨p, 10, none⟩) (fun e => t.n2 e.symm) _).alloc _, t.n1, t.n2, t.n3⟩⟩
            have KN : Kept (Keeps (fun k => k = p ∨ k = bd ∨ k = bu) w ((w.setCell ⟨p, 10, none⟩ (.bool true)).alloc (.cells #[.int .i64 16, .int .i64 0] 30))) := ⟨((Keeps.refl _ w).setCell (p := ⟨p, 10, none⟩) (.inr (.inl rfl)) _).alloc _⟩
            go_enter Try.func17, Try.ntmps17
            go_wp2_with fail
            go_ret
            exact ⟨rfl, ⟨d, u, true, y, true, HN.out, by simp [Sty.note]⟩, KN.out⟩
      · have h0b : (st == 0) = false := by rw [beq_eq_false_iff_ne]; exact h0
        have h0c : (st != 0) = true := by rw [bne_iff_ne]; exact h0
        have hr2 : r = false := no_of hr may_16 (fun h => h0 h.1)
        subst hr2
        go_enter Try.func17, Try.ntmps17
        go_wp2_with fail
        go_ret
        exact SeePost.same T0.out K0.out
  · have hs2 : decide ((0 : Int) ≤ st) = false := decide_eq_false hs
    have h0 : st ≠ 0 := by omega
    have h0b : (st == 0) = false := by rw [beq_eq_false_iff_ne]; exact h0
    have h0c : (st != 0) = true := by rw [bne_iff_ne]; exact h0
    have hr2 : r = false := no_of hr may_16 (fun h => h0 h.1)
    subst hr2
    go_enter Try.func17, Try.ntmps17
    go_wp2_with fail
    go_ret
    exact SeePost.same T0.out K0.out
set_option linter.unusedSimpArgs false in
set_option linter.unusedVariables false in
set_option maxRecDepth 100000 in
set_option maxHeartbeats 8000000 in
theorem tsee_13 (p bd bu : Nat) (o : Ord) (a : Option Addr) (c d u : Nat) (x y z r : Bool) (st : Int) (w : World) (h : TrAt w p bd bu o a c d u x y z) (hn : o.steps.length ≤ 1000) (hd : d ≤ o.steps.length) (hu : u ≤ d) (huy : 0 < u → y = true) (hr : Sty.may ⟨d, u, x, y, z⟩ (13, st) o.steps.length = r) :
    Calls Try.prog 17 #[.pointer (some ⟨p, 0, none⟩), .agg #[.int .i64 13, .int .i64 st]] w (SeePost w p bd bu o a c (if r then (Sty.mk d u x y z).note 13 else ⟨d, u, x, y, z⟩) r) := by
  have T0 := Kept.mk (h.keeps ((Keeps.refl (fun _ => False) w).alloc (.cells #[.int .i64 13, .int .i64 st] 30)))
  have K0 := Kept.mk ((Keeps.refl (fun _ => False) w).alloc (.cells #[.int .i64 13, .int .i64 st] 30))
  have hp : p < w.heap.size := h.pb.lt
  have hbd : bd < w.heap.size := h.db.lt
  have hbu : bu < w.heap.size := h.ub.lt
  obtain ⟨c6, c7, c8, c9, c10, c11⟩ := tblk12 h.pb
  have f8 := h.pb.frozen 8
  have f9 := h.pb.frozen 9
  have f10 := h.pb.frozen 10
  have f11 := h.pb.frozen 11
  have HD := Kept.mk h.db
  have HU := Kept.mk h.ub
  have n1 := h.n1
  have n2 := h.n2
  have n3 := h.n3
  have Huy := Kept.mk huy
  clear huy
  have hpb := h.pb
  clear h
  have HPB := Kept.mk hpb
  clear hpb
  by_cases hs : 0 ≤ st
  · have hs2 : decide ((0 : Int) ≤ st) = true := decide_eq_true hs
    by_cases hs3 : st < (o.steps.length : Int)
    · have hs4 : decide (st < (o.steps.length : Int)) = true := decide_eq_true hs3
      by_cases h0 : st = 0
      · subst h0
        cases x with
        | true =>
          have hr2 : r = false := no_of hr may_13 (fun h => by simp at h)
          subst hr2
          go_enter Try.func17, Try.ntmps17
          go_wp2_with fail
          go_ret
          exact SeePost.same T0.out K0.out
        | false =>
          cases y with
          | true =>
            have hr2 : r = false := no_of hr may_13 (fun h => by simp at h)
            subst hr2
            go_enter Try.func17, Try.ntmps17
            go_wp2_with fail
            go_ret
            exact SeePost.same T0.out K0.out
          | false =>
            have hu0 : u = 0 := Nat.le_antisymm (Nat.le_of_not_lt (fun h => by have := Huy.out h; simp at this)) (Nat.zero_le _)
            subst hu0
            have hany : decide (0 < 0) = false := rfl
            by_cases hdn : d = o.steps.length
            · have HE : Kept (decide (d = o.steps.length) = true) := ⟨decide_eq_true hdn⟩
              have hr2 : r = true := yes_of hr may_13 ⟨rfl, by omega, rfl, rfl⟩
              subst hr2
              have HN : Kept (TrAt ((w.setCell ⟨p, 8, none⟩ (.bool true)).alloc (.cells #[.int .i64 13, .int .i64 0] 30)) p bd bu o a c d 0 true false z) := ⟨by
                have t := T0.out
                exact ⟨(HPB.out.set 8 (.bool true)).alloc _, (HD.out.other (p := ⟨p, 8, none⟩) (fun e => t.n1 e.symm) _).alloc _, (HU.out.other (p := ⟨p, 8, none⟩) (fun e => t.n2 e.symm) _).alloc _, t.n1, t.n2, t.n3⟩⟩
              have KN : Kept (Keeps (fun k => k = p ∨ k = bd ∨ k = bu) w ((w.setCell ⟨p, 8, none⟩ (.bool true)).alloc (.cells #[.int .i64 13, .int .i64 0] 30))) := ⟨((Keeps.refl _ w).setCell (p := ⟨p, 8, none⟩) (.inr (.inl rfl)) _).alloc _⟩
              go_enter Try.func17, Try.ntmps17
              go_wp2_with fail
              refine (tall_to p bd bu o a c d 0 false false z true _ T0.out hn hd HE.out).mono ?_
              rintro e w' ⟨rfl, rfl⟩
              go_wp2_with fail
              go_ret
              exact ⟨rfl, ⟨d, 0, true, false, z, HN.out, by simp [Sty.note, hdn]⟩, KN.out⟩
            · have HE : Kept (decide (d = o.steps.length) = false) := ⟨decide_eq_false hdn⟩
              have hr2 : r = false := no_of hr may_13 (fun h => hdn (by omega))
              subst hr2
              go_enter Try.func17, Try.ntmps17
              go_wp2_with fail
              refine (tall_to p bd bu o a c d 0 false false z false _ T0.out hn hd HE.out).mono ?_
              rintro e w' ⟨rfl, rfl⟩
              go_wp2_with fail
              go_ret
              exact SeePost.same T0.out K0.out
      · have h0b : (st == 0) = false := by rw [beq_eq_false_iff_ne]; exact h0
        have h0c : (st != 0) = true := by rw [bne_iff_ne]; exact h0
        have hr2 : r = false := no_of hr may_13 (fun h => h0 h.1)
        subst hr2
        go_enter Try.func17, Try.ntmps17
        go_wp2_with fail
        go_ret
        exact SeePost.same T0.out K0.out
    · have hs4 : decide (st < (o.steps.length : Int)) = false := decide_eq_false hs3
      by_cases h0 : st = 0
      · subst h0
        cases x with
        | true =>
          have hr2 : r = false := no_of hr may_13 (fun h => by simp at h)
          subst hr2
          go_enter Try.func17, Try.ntmps17
          go_wp2_with fail
          go_ret
          exact SeePost.same T0.out K0.out
        | false =>
          cases y with
          | true =>
            have hr2 : r = false := no_of hr may_13 (fun h => by simp at h)
            subst hr2
            go_enter Try.func17, Try.ntmps17
            go_wp2_with fail
            go_ret
            exact SeePost.same T0.out K0.out
          | false =>
            have hu0 : u = 0 := Nat.le_antisymm (Nat.le_of_not_lt (fun h => by have := Huy.out h; simp at this)) (Nat.zero_le _)
            subst hu0
            have hany : decide (0 < 0) = false := rfl
            by_cases hdn : d = o.steps.length
            · have HE : Kept (decide (d = o.steps.length) = true) := ⟨decide_eq_true hdn⟩
              have hr2 : r = true := yes_of hr may_13 ⟨rfl, by omega, rfl, rfl⟩
              subst hr2
              have HN : Kept (TrAt ((w.setCell ⟨p, 8, none⟩ (.bool true)).alloc (.cells #[.int .i64 13, .int .i64 0] 30)) p bd bu o a c d 0 true false z) := ⟨by
                have t := T0.out
                exact ⟨(HPB.out.set 8 (.bool true)).alloc _, (HD.out.other (p := ⟨p, 8, none⟩) (fun e => t.n1 e.symm) _).alloc _, (HU.out.other (p := ⟨p, 8, none⟩) (fun e => t.n2 e.symm) _).alloc _, t.n1, t.n2, t.n3⟩⟩
              have KN : Kept (Keeps (fun k => k = p ∨ k = bd ∨ k = bu) w ((w.setCell ⟨p, 8, none⟩ (.bool true)).alloc (.cells #[.int .i64 13, .int .i64 0] 30))) := ⟨((Keeps.refl _ w).setCell (p := ⟨p, 8, none⟩) (.inr (.inl rfl)) _).alloc _⟩
              go_enter Try.func17, Try.ntmps17
              go_wp2_with fail
              refine (tall_to p bd bu o a c d 0 false false z true _ T0.out hn hd HE.out).mono ?_
              rintro e w' ⟨rfl, rfl⟩
              go_wp2_with fail
              go_ret
              exact ⟨rfl, ⟨d, 0, true, false, z, HN.out, by simp [Sty.note, hdn]⟩, KN.out⟩
            · have HE : Kept (decide (d = o.steps.length) = false) := ⟨decide_eq_false hdn⟩
              exact absurd (by omega) hdn
      · have h0b : (st == 0) = false := by rw [beq_eq_false_iff_ne]; exact h0
        have h0c : (st != 0) = true := by rw [bne_iff_ne]; exact h0
        have hr2 : r = false := no_of hr may_13 (fun h => h0 h.1)
        subst hr2
        go_enter Try.func17, Try.ntmps17
        go_wp2_with fail
        go_ret
        exact SeePost.same T0.out K0.out
  · have hs2 : decide ((0 : Int) ≤ st) = false := decide_eq_false hs
    have h0 : st ≠ 0 := by omega
    have h0b : (st == 0) = false := by rw [beq_eq_false_iff_ne]; exact h0
    have h0c : (st != 0) = true := by rw [bne_iff_ne]; exact h0
    have hr2 : r = false := no_of hr may_13 (fun h => h0 h.1)
    subst hr2
    go_enter Try.func17, Try.ntmps17
    go_wp2_with fail
    go_ret
    exact SeePost.same T0.out K0.out
set_option linter.unusedSimpArgs false in
set_option linter.unusedVariables false in
set_option maxRecDepth 100000 in
set_option maxHeartbeats 8000000 in
theorem tsee_2 (p bd bu : Nat) (o : Ord) (a : Option Addr) (c d u : Nat) (x y z r : Bool) (st : Int) (w : World) (h : TrAt w p bd bu o a c d u x y z) (hn : o.steps.length ≤ 1000) (hd : d ≤ o.steps.length) (hu : u ≤ d) (huy : 0 < u → y = true) (hr : Sty.may ⟨d, u, x, y, z⟩ (2, st) o.steps.length = r) :
    Calls Try.prog 17 #[.pointer (some ⟨p, 0, none⟩), .agg #[.int .i64 2, .int .i64 st]] w (SeePost w p bd bu o a c (if r then (Sty.mk d u x y z).note 2 else ⟨d, u, x, y, z⟩) r) := by
  have T0 := Kept.mk (h.keeps ((Keeps.refl (fun _ => False) w).alloc (.cells #[.int .i64 2, .int .i64 st] 30)))
  have K0 := Kept.mk ((Keeps.refl (fun _ => False) w).alloc (.cells #[.int .i64 2, .int .i64 st] 30))
  have hp : p < w.heap.size := h.pb.lt
  have hbd : bd < w.heap.size := h.db.lt
  have hbu : bu < w.heap.size := h.ub.lt
  obtain ⟨c6, c7, c8, c9, c10, c11⟩ := tblk12 h.pb
  have f8 := h.pb.frozen 8
  have f9 := h.pb.frozen 9
  have f10 := h.pb.frozen 10
  have f11 := h.pb.frozen 11
  have HD := Kept.mk h.db
  have HU := Kept.mk h.ub
  have n1 := h.n1
  have n2 := h.n2
  have n3 := h.n3
  have Huy := Kept.mk huy
  clear huy
  have hpb := h.pb
  clear h
  have HPB := Kept.mk hpb
  clear hpb
  by_cases hs : 0 ≤ st
  · obtain ⟨i, rfl⟩ : ∃ i : Nat, st = (i : Int) := ⟨st.toNat, by omega⟩
    have hs2 : decide ((0 : Int) ≤ (i : Int)) = true := decide_eq_true hs
    by_cases hi : i < o.steps.length
    · have hs3 : (i : Int) < (o.steps.length : Int) := by omega
      have hs4 : decide ((i : Int) < (o.steps.length : Int)) = true := decide_eq_true hs3
      have cD : w.cell? ⟨bd, i, none⟩ = some (.bool (decide (i < d))) := HD.out.cell i (rowD_at hi)
      have cU : w.cell? ⟨bu, i, none⟩ = some (.bool (decide (d - u ≤ i) && decide (i < d))) := HU.out.cell i (rowU_at hi)
      have fD := HD.out.frozen i
      have fU := HU.out.frozen i
      by_cases hid : i < d
      · rw [decide_eq_true hid] at cD
        have hr2 : r = false := no_of hr may_2 (fun h => by omega)
        subst hr2
        go_enter Try.func17, Try.ntmps17
        go_wp2_with fail
        go_ret
        exact SeePost.same T0.out K0.out
      · rw [decide_eq_false hid] at cD
        by_cases hi0 : 0 < i
        · obtain ⟨k, hk⟩ : ∃ k, k + 1 = i := ⟨i - 1, by omega⟩
          have hi0i : (0 : Int) < (i : Int) := by omega
          have hkn : (k : Int) < (o.steps.length : Int) := by omega
          have cP : w.cell? ⟨bd, k, none⟩ = some (.bool (decide (k < d))) := HD.out.cell k (rowD_at (by omega))
          by_cases hkd : k < d
          · rw [decide_eq_true hkd] at cP
            have hik : (i : Int) - 1 = (k : Int) := by omega
            have hkw : IntKind.i64.wrap (k : Int) = (k : Int) := IntWalk.i64_in _ (by omega)
            have hkw2 : wrap64 (k : Int) = (k : Int) := w64 (by omega) (by omega)
            have HW := Kept.mk (And.intro hik (And.intro hkw hkw2))
            clear hik hkw hkw2
            cases x with
            | true =>
              have hr2 : r = false := no_of hr may_2 (fun h => by simp at h)
              subst hr2
              obtain ⟨hik, hkw, hkw2⟩ := HW.out
              go_enter Try.func17, Try.ntmps17
              go_wp2_with fail
              go_ret
              exact SeePost.same T0.out K0.out
            | false =>
              by_cases hu0 : 0 < u
              · have e := decide_eq_true hu0
                rw [e] at c11
                have hr2 : r = false := no_of hr may_2 (fun h => by omega)
                subst hr2
                obtain ⟨hik, hkw, hkw2⟩ := HW.out
                go_enter Try.func17, Try.ntmps17
                go_wp2_with fail
                go_ret
                exact SeePost.same T0.out K0.out
              · obtain rfl : u = 0 := by omega
                have hr2 : r = true := yes_of hr may_2 ⟨by omega, by omega, rfl, rfl⟩
                subst hr2
                have HN : Kept (TrAt ((w.setCell ⟨bd, i, none⟩ (.bool true)).alloc (.cells #[.int .i64 2, .int .i64 i] 30)) p bd bu o a c (i + 1) 0 false y z) := ⟨by
                  have t := T0.out
                  have hdd := HD.out.set i (.bool true)
                  rw [show d = i by omega, rowD_set hi] at hdd
                  have huu := HU.out.other (p := ⟨bd, i, none⟩) (fun e => t.n3 e.symm) (.bool true)
                  rw [rowU_zero _ d (i + 1)] at huu
                  exact ⟨(HPB.out.other (p := ⟨bd, i, none⟩) t.n1 (.bool true)).alloc _, hdd.alloc _, huu.alloc _, t.n1, t.n2, t.n3⟩⟩
                have KN : Kept (Keeps (fun k => k = p ∨ k = bd ∨ k = bu) w ((w.setCell ⟨bd, i, none⟩ (.bool true)).alloc (.cells #[.int .i64 2, .int .i64 i] 30))) := ⟨((Keeps.refl _ w).setCell (p := ⟨bd, i, none⟩) (.inr (.inr (.inl rfl))) _).alloc _⟩
                have hdi : d = i := by omega
                have HE : Kept ((Sty.mk ((i + 1 : Nat) : Int) ((0 : Nat) : Int) false y z) = (Sty.mk (d : Int) ((0 : Nat) : Int) false y z).note 2) := ⟨by rw [hdi]; simp [Sty.note]⟩
                clear hdi
                obtain ⟨hik, hkw, hkw2⟩ := HW.out
                go_enter Try.func17, Try.ntmps17
                go_wp2_with fail
                go_ret
                exact ⟨rfl, ⟨i + 1, 0, false, y, z, HN.out, HE.out⟩, KN.out⟩
          · rw [decide_eq_false hkd] at cP
            have hik : (i : Int) - 1 = (k : Int) := by omega
            have hkw : IntKind.i64.wrap (k : Int) = (k : Int) := IntWalk.i64_in _ (by omega)
            have hkw2 : wrap64 (k : Int) = (k : Int) := w64 (by omega) (by omega)
            have HW := Kept.mk (And.intro hik (And.intro hkw hkw2))
            clear hik hkw hkw2
            have hr2 : r = false := no_of hr may_2 (fun h => by omega)
            subst hr2
            obtain ⟨hik, hkw, hkw2⟩ := HW.out
            go_enter Try.func17, Try.ntmps17
            go_wp2_with fail
            go_ret
            exact SeePost.same T0.out K0.out
        · have hi0i : ¬ (0 : Int) < (i : Int) := by omega
          have hi0d : decide ((0 : Int) < (i : Int)) = false := decide_eq_false hi0i
          cases x with
          | true =>
            have hr2 : r = false := no_of hr may_2 (fun h => by simp at h)
            subst hr2
            go_enter Try.func17, Try.ntmps17
            go_wp2_with fail
            go_ret
            exact SeePost.same T0.out K0.out
          | false =>
            by_cases hu0 : 0 < u
            · have e := decide_eq_true hu0
              rw [e] at c11
              exact absurd hu0 (by omega)
            · obtain rfl : u = 0 := by omega
              have hr2 : r = true := yes_of hr may_2 ⟨by omega, by omega, rfl, rfl⟩
              subst hr2
              have HN : Kept (TrAt ((w.setCell ⟨bd, i, none⟩ (.bool true)).alloc (.cells #[.int .i64 2, .int .i64 i] 30)) p bd bu o a c (i + 1) 0 false y z) := ⟨by
                have t := T0.out
                have hdd := HD.out.set i (.bool true)
                rw [show d = i by omega, rowD_set hi] at hdd
                have huu := HU.out.other (p := ⟨bd, i, none⟩) (fun e => t.n3 e.symm) (.bool true)
                rw [rowU_zero _ d (i + 1)] at huu
                exact ⟨(HPB.out.other (p := ⟨bd, i, none⟩) t.n1 (.bool true)).alloc _, hdd.alloc _, huu.alloc _, t.n1, t.n2, t.n3⟩⟩
              have KN : Kept (Keeps (fun k => k = p ∨ k = bd ∨ k = bu) w ((w.setCell ⟨bd, i, none⟩ (.bool true)).alloc (.cells #[.int .i64 2, .int .i64 i] 30))) := ⟨((Keeps.refl _ w).setCell (p := ⟨bd, i, none⟩) (.inr (.inr (.inl rfl))) _).alloc _⟩
              have hdi : d = i := by omega
              have HE : Kept ((Sty.mk ((i + 1 : Nat) : Int) ((0 : Nat) : Int) false y z) = (Sty.mk (d : Int) ((0 : Nat) : Int) false y z).note 2) := ⟨by rw [hdi]; simp [Sty.note]⟩
              clear hdi
              go_enter Try.func17, Try.ntmps17
              go_wp2_with fail
              go_ret
              exact ⟨rfl, ⟨i + 1, 0, false, y, z, HN.out, HE.out⟩, KN.out⟩
    · have hs3 : ¬ (i : Int) < (o.steps.length : Int) := by omega
      have hs4 : decide ((i : Int) < (o.steps.length : Int)) = false := decide_eq_false hs3
      have hr2 : r = false := no_of hr may_2 (fun h => by omega)
      subst hr2
      go_enter Try.func17, Try.ntmps17
      go_wp2_with fail
      go_ret
      exact SeePost.same T0.out K0.out
  · have hs2 : decide ((0 : Int) ≤ st) = false := decide_eq_false hs
    have hr2 : r = false := no_of hr may_2 (fun h => by omega)
    subst hr2
    go_enter Try.func17, Try.ntmps17
    go_wp2_with fail
    go_ret
    exact SeePost.same T0.out K0.out
set_option linter.unusedSimpArgs false in
set_option linter.unusedVariables false in
set_option maxRecDepth 100000 in
set_option maxHeartbeats 8000000 in
theorem tsee_5 (p bd bu : Nat) (o : Ord) (a : Option Addr) (c d u : Nat) (x y z r : Bool) (st : Int) (w : World) (h : TrAt w p bd bu o a c d u x y z) (hn : o.steps.length ≤ 1000) (hd : d ≤ o.steps.length) (hu : u ≤ d) (huy : 0 < u → y = true) (hr : Sty.may ⟨d, u, x, y, z⟩ (5, st) o.steps.length = r) :
    Calls Try.prog 17 #[.pointer (some ⟨p, 0, none⟩), .agg #[.int .i64 5, .int .i64 st]] w (SeePost w p bd bu o a c (if r then (Sty.mk d u x y z).note 5 else ⟨d, u, x, y, z⟩) r) := by
  have T0 := Kept.mk (h.keeps ((Keeps.refl (fun _ => False) w).alloc (.cells #[.int .i64 5, .int .i64 st] 30)))
  have K0 := Kept.mk ((Keeps.refl (fun _ => False) w).alloc (.cells #[.int .i64 5, .int .i64 st] 30))
  have hp : p < w.heap.size := h.pb.lt
  have hbd : bd < w.heap.size := h.db.lt
  have hbu : bu < w.heap.size := h.ub.lt
  obtain ⟨c6, c7, c8, c9, c10, c11⟩ := tblk12 h.pb
  have f8 := h.pb.frozen 8
  have f9 := h.pb.frozen 9
  have f10 := h.pb.frozen 10
  have f11 := h.pb.frozen 11
  have HD := Kept.mk h.db
  have HU := Kept.mk h.ub
  have n1 := h.n1
  have n2 := h.n2
  have n3 := h.n3
  have Huy := Kept.mk huy
  clear huy
  have hpb := h.pb
  clear h
  have HPB := Kept.mk hpb
  clear hpb
  by_cases hs : 0 ≤ st
  · obtain ⟨i, rfl⟩ : ∃ i : Nat, st = (i : Int) := ⟨st.toNat, by omega⟩
    have hs2 : decide ((0 : Int) ≤ (i : Int)) = true := decide_eq_true hs
    by_cases hi : i < o.steps.length
    · have hs3 : (i : Int) < (o.steps.length : Int) := by omega
      have hs4 : decide ((i : Int) < (o.steps.length : Int)) = true := decide_eq_true hs3
      have cD : w.cell? ⟨bd, i, none⟩ = some (.bool (decide (i < d))) := HD.out.cell i (rowD_at hi)
      have cU : w.cell? ⟨bu, i, none⟩ = some (.bool (decide (d - u ≤ i) && decide (i < d))) := HU.out.cell i (rowU_at hi)
      have fD := HD.out.frozen i
      have fU := HU.out.frozen i
      cases y with
      | false =>
        have hr2 : r = false := no_of hr may_5 (fun h => by simp at h)
        subst hr2
        go_enter Try.func17, Try.ntmps17
        go_wp2_with fail
        go_ret
        exact SeePost.same T0.out K0.out
      | true =>
        by_cases hid : i < d
        · rw [decide_eq_true hid] at cD cU
          by_cases hiu : d - u ≤ i
          · rw [decide_eq_true hiu] at cU
            have hr2 : r = false := no_of hr may_5 (fun h => by omega)
            subst hr2
            go_enter Try.func17, Try.ntmps17
            go_wp2_with fail
            go_ret
            exact SeePost.same T0.out K0.out
          · rw [decide_eq_false hiu] at cU
            by_cases hil : d - u ≤ i + 1
            · have HE : Kept (decide (d - u ≤ i + 1) = true) := ⟨decide_eq_true hil⟩
              have hr2 : r = true := yes_of hr may_5 ⟨rfl, by omega, by omega⟩
              subst hr2
              have HN : Kept (TrAt (((w.setCell ⟨bu, i, none⟩ (.bool true)).setCell ⟨p, 11, none⟩ (.bool true)).alloc (.cells #[.int .i64 5, .int .i64 i] 30)) p bd bu o a c d (u + 1) x true z) := ⟨by
                have t := T0.out
                have huu := (HU.out.set i (.bool true)).other (p := ⟨p, 11, none⟩) (fun e => t.n2 e.symm) (.bool true)
                rw [rowU_set (show i + u + 1 = d by omega)] at huu
                have hpp := (HPB.out.other (p := ⟨bu, i, none⟩) t.n2 (.bool true)).set 11 (.bool true)
                exact ⟨by rw [decide_eq_true (show 0 < u + 1 by omega)]; exact hpp.alloc _, ((HD.out.other (p := ⟨bu, i, none⟩) t.n3 _).other (p := ⟨p, 11, none⟩) (fun e => t.n1 e.symm) _).alloc _, huu.alloc _, t.n1, t.n2, t.n3⟩⟩
              have KN : Kept (Keeps (fun k => k = p ∨ k = bd ∨ k = bu) w (((w.setCell ⟨bu, i, none⟩ (.bool true)).setCell ⟨p, 11, none⟩ (.bool true)).alloc (.cells #[.int .i64 5, .int .i64 i] 30))) := ⟨(((Keeps.refl _ w).setCell (p := ⟨bu, i, none⟩) (.inr (.inr (.inr rfl))) _).setCell (p := ⟨p, 11, none⟩) (.inr (.inl rfl)) _).alloc _⟩
              go_enter Try.func17, Try.ntmps17
              go_wp2_with fail
              refine (tlater_to p bd bu o a c d u i x true z true _ T0.out hn hd hi HE.out).mono ?_
              rintro e w' ⟨rfl, rfl⟩
              go_wp2_with fail
              go_ret
              exact ⟨rfl, ⟨d, u + 1, x, true, z, HN.out, by simp [Sty.note]⟩, KN.out⟩
            · have HE : Kept (decide (d - u ≤ i + 1) = false) := ⟨decide_eq_false hil⟩
              have hr2 : r = false := no_of hr may_5 (fun h => by omega)
              subst hr2
              go_enter Try.func17, Try.ntmps17
              go_wp2_with fail
              refine (tlater_to p bd bu o a c d u i x true z false _ T0.out hn hd hi HE.out).mono ?_
              rintro e w' ⟨rfl, rfl⟩
              go_wp2_with fail
              go_ret
              exact SeePost.same T0.out K0.out
        · rw [decide_eq_false hid] at cD
          have hr2 : r = false := no_of hr may_5 (fun h => by omega)
          subst hr2
          go_enter Try.func17, Try.ntmps17
          go_wp2_with fail
          go_ret
          exact SeePost.same T0.out K0.out
    · have hs3 : ¬ (i : Int) < (o.steps.length : Int) := by omega
      have hs4 : decide ((i : Int) < (o.steps.length : Int)) = false := decide_eq_false hs3
      have hr2 : r = false := no_of hr may_5 (fun h => by omega)
      subst hr2
      go_enter Try.func17, Try.ntmps17
      go_wp2_with fail
      go_ret
      exact SeePost.same T0.out K0.out
  · have hs2 : decide ((0 : Int) ≤ st) = false := decide_eq_false hs
    have hr2 : r = false := no_of hr may_5 (fun h => by omega)
    subst hr2
    go_enter Try.func17, Try.ntmps17
    go_wp2_with fail
    go_ret
    exact SeePost.same T0.out K0.out
set_option linter.unusedSimpArgs false in
set_option linter.unusedVariables false in
set_option maxRecDepth 100000 in
set_option maxHeartbeats 8000000 in
theorem tsee_other (p bd bu : Nat) (o : Ord) (a : Option Addr) (c d u : Nat) (x y z r : Bool) (kd st : Int) (w : World) (h : TrAt w p bd bu o a c d u x y z) (hn : o.steps.length ≤ 1000) (hd : d ≤ o.steps.length) (hu : u ≤ d) (huy : 0 < u → y = true) (n2' : (kd == 2) = false) (n5 : (kd == 5) = false) (n13 : (kd == 13) = false) (n14 : (kd == 14) = false) (n16 : (kd == 16) = false) (hr : Sty.may ⟨d, u, x, y, z⟩ (kd, st) o.steps.length = r) :
    Calls Try.prog 17 #[.pointer (some ⟨p, 0, none⟩), .agg #[.int .i64 kd, .int .i64 st]] w (SeePost w p bd bu o a c (if r then (Sty.mk d u x y z).note kd else ⟨d, u, x, y, z⟩) r) := by
  have T0 := Kept.mk (h.keeps ((Keeps.refl (fun _ => False) w).alloc (.cells #[.int .i64 kd, .int .i64 st] 30)))
  have K0 := Kept.mk ((Keeps.refl (fun _ => False) w).alloc (.cells #[.int .i64 kd, .int .i64 st] 30))
  have hp : p < w.heap.size := h.pb.lt
  have hbd : bd < w.heap.size := h.db.lt
  have hbu : bu < w.heap.size := h.ub.lt
  obtain ⟨c6, c7, c8, c9, c10, c11⟩ := tblk12 h.pb
  have f8 := h.pb.frozen 8
  have f9 := h.pb.frozen 9
  have f10 := h.pb.frozen 10
  have f11 := h.pb.frozen 11
  have HD := Kept.mk h.db
  have HU := Kept.mk h.ub
  have n1 := h.n1
  have n2 := h.n2
  have n3 := h.n3
  have Huy := Kept.mk huy
  clear huy
  have hpb := h.pb
  clear h
  have hr2 : r = false := by
    rw [← hr]
    simp only [beq_eq_false_iff_ne] at n2' n5 n13 n14 n16
    simp [Sty.may, n2', n5, n13, n14, n16]
  subst hr2
  clear hpb hr
  by_cases hs : 0 ≤ st
  · have hs2 : decide ((0 : Int) ≤ st) = true := decide_eq_true hs
    by_cases hs3 : st < (o.steps.length : Int)
    · have hs4 : decide (st < (o.steps.length : Int)) = true := decide_eq_true hs3
      go_enter Try.func17, Try.ntmps17
      go_wp2_with fail
      go_ret
      exact SeePost.same T0.out K0.out
    · have hs4 : decide (st < (o.steps.length : Int)) = false := decide_eq_false hs3
      go_enter Try.func17, Try.ntmps17
      go_wp2_with fail
      go_ret
      exact SeePost.same T0.out K0.out
  · have hs2 : decide ((0 : Int) ≤ st) = false := decide_eq_false hs
    go_enter Try.func17, Try.ntmps17
    go_wp2_with fail
    go_ret
    exact SeePost.same T0.out K0.out
theorem tsee_to (p bd bu : Nat) (o : Ord) (a : Option Addr) (c d u : Nat) (x y z r : Bool) (kd st : Int) (w : World) (h : TrAt w p bd bu o a c d u x y z) (hn : o.steps.length ≤ 1000) (hd : d ≤ o.steps.length) (hu : u ≤ d) (huy : 0 < u → y = true) (hr : Sty.may ⟨d, u, x, y, z⟩ (kd, st) o.steps.length = r) :
    Calls Try.prog 17 #[.pointer (some ⟨p, 0, none⟩), .agg #[.int .i64 kd, .int .i64 st]] w (SeePost w p bd bu o a c (if r then (Sty.mk d u x y z).note kd else ⟨d, u, x, y, z⟩) r) := by
  by_cases h2 : kd = 2
  · subst h2; exact tsee_2 p bd bu o a c d u x y z r st w h hn hd hu huy hr
  · by_cases h5 : kd = 5
    · subst h5; exact tsee_5 p bd bu o a c d u x y z r st w h hn hd hu huy hr
    · by_cases h13 : kd = 13
      · subst h13; exact tsee_13 p bd bu o a c d u x y z r st w h hn hd hu huy hr
      · by_cases h14 : kd = 14
        · subst h14; exact tsee_14 p bd bu o a c d u x y z r st w h hn hd hu huy hr
        · by_cases h16 : kd = 16
          · subst h16; exact tsee_16 p bd bu o a c d u x y z r st w h hn hd hu huy hr
          · exact tsee_other p bd bu o a c d u x y z r kd st w h hn hd hu huy (by rw [beq_eq_false_iff_ne]; exact h2) (by rw [beq_eq_false_iff_ne]; exact h5) (by rw [beq_eq_false_iff_ne]; exact h13) (by rw [beq_eq_false_iff_ne]; exact h14) (by rw [beq_eq_false_iff_ne]; exact h16) hr
end Go.Proofs.Ytjlfkpimjjnolaa
