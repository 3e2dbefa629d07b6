/- Package flow's story, walked: may, notes. (printed by gen/story.py) -/
import Derived.Test.YtjlfkpimjjnolaaRows
import Derived.Test.YtjlfkpimjjnolaaRow
import Derived.Test.YtjlfkpimjjnolaaSay
namespace Go.Proofs.Ytjlfkpimjjnolaa
open Go.RowKit
abbrev Act2 := Int × Int
def encAct (x : Act2) : List Value := [.int .i64 x.1, .int .i64 x.2]
/-- What happened to an order. -/
structure Sty where
  done : Int
  undone : Int
  commits : Bool
  aborts : Bool
  shipped : Bool
def Sty.zero : Sty := ⟨0, 0, false, false, false⟩
def Sty.cells (s : Sty) : List Value := [.int .i64 s.done, .int .i64 s.undone, .bool s.commits, .bool s.aborts, .bool s.shipped]
def Sty.may (s : Sty) (a : Act2) (n : Int) : Bool :=
  if a.1 = 2 then a.2 == s.done && (decide (s.done < n) && (!s.commits && s.undone == 0))
  else if a.1 = 5 then s.aborts && (decide (s.undone < s.done) && a.2 == s.done - s.undone - 1)
  else if a.1 = 13 then a.2 == 0 && (s.done == n && (!s.commits && !s.aborts))
  else if a.1 = 14 then a.2 == 0 && (!s.commits && !s.aborts)
  else if a.1 = 16 then a.2 == 0 && (s.commits && !s.shipped)
  else false
def Sty.note (s : Sty) (k : Int) : Sty :=
  if k = 2 then { s with done := s.done + 1 } else if k = 5 then { s with undone := s.undone + 1 } else if k = 13 then { s with commits := true } else if k = 14 then { s with aborts := true } else if k = 16 then { s with shipped := true } else s
structure Sty.Ok (s : Sty) (n : Int) : Prop where
  u0 : 0 ≤ s.undone
  ud : s.undone ≤ s.done
  dn : s.done ≤ n
theorem Sty.zero_ok (n : Int) (h : 0 ≤ n) : Sty.zero.Ok n := ⟨by simp [Sty.zero], by simp [Sty.zero], by simpa [Sty.zero] using h⟩
theorem Sty.note_ok {s : Sty} {n : Int} (h : s.Ok n) {a : Act2} (hm : s.may a n = true) : (s.note a.1).Ok n := by
  obtain ⟨h1, h2, h3⟩ := h
  unfold Sty.may at hm
  unfold Sty.note
  split
  · rename_i e
    rw [if_pos e] at hm
    simp only [Bool.and_eq_true, decide_eq_true_eq, beq_iff_eq] at hm
    exact ⟨h1, by simp only; omega, by simp only; omega⟩
  · rename_i e
    rw [if_neg e] at hm
    split
    · rename_i e2
      rw [if_pos e2] at hm
      simp only [Bool.and_eq_true, decide_eq_true_eq, beq_iff_eq] at hm
      exact ⟨by simp only; omega, by simp only; omega, h3⟩
    · split
      · exact ⟨h1, h2, h3⟩
      · split
        · exact ⟨h1, h2, h3⟩
        · split <;> exact ⟨h1, h2, h3⟩

set_option linter.unusedVariables false in
set_option maxRecDepth 100000 in
set_option maxHeartbeats 2000000 in
theorem smay_done (p : Nat) (d u n y : Int) (c b f : Bool) (w : World) (h : Blk w p 53 [.int .i64 d, .int .i64 u, .bool c, .bool b, .bool f]) (h1 : 0 ≤ u) (h2 : u ≤ d) (h3 : d ≤ 1000) :
    Calls Try.prog 28 #[.pointer (some ⟨p, 0, none⟩), .agg #[.int .i64 2, .int .i64 y], .int .i64 n] w (fun e w' => e = .returned (.bool (Sty.may ⟨d, u, c, b, f⟩ (2, y) n)) ∧ Keeps (fun _ => False) w w') := by
  have c0 := h.cell 0 rfl
  have c1 := h.cell 1 rfl
  have c2 := h.cell 2 rfl
  have c3 := h.cell 3 rfl
  have c4 := h.cell 4 rfl
  have hp := h.lt
  clear h
  cases e0 : (y == d) with
  | false =>
    have hr : Kept (Sty.may ⟨d, u, c, b, f⟩ (2, y) n = false) := ⟨by simp [Sty.may, e0]⟩
    rw [hr.out]
    go_enter Try.func28, Try.ntmps28
    go_wp2_with fail
    go_quiet (fail)
    go_wp2_with fail
    go_ret
    exact ⟨rfl, ((Keeps.refl _ w).alloc _).drewN _⟩
  | true =>
    cases e1 : decide (d < n) with
    | false =>
      have hr : Kept (Sty.may ⟨d, u, c, b, f⟩ (2, y) n = false) := ⟨by simp [Sty.may, e0, e1]⟩
      rw [hr.out]
      go_enter Try.func28, Try.ntmps28
      go_wp2_with fail
      go_quiet (fail)
      go_wp2_with fail
      go_ret
      exact ⟨rfl, ((Keeps.refl _ w).alloc _).drewN _⟩
    | true =>
      cases c with
      | true =>
        have hr : Kept (Sty.may ⟨d, u, true, b, f⟩ (2, y) n = false) := ⟨by simp [Sty.may, e0, e1]⟩
        rw [hr.out]
        go_enter Try.func28, Try.ntmps28
        go_wp2_with fail
        go_quiet (fail)
        go_wp2_with fail
        go_ret
        exact ⟨rfl, ((Keeps.refl _ w).alloc _).drewN _⟩
      | false =>
        cases e3 : (u == 0) with
        | false =>
          have hr : Kept (Sty.may ⟨d, u, false, b, f⟩ (2, y) n = false) := ⟨by simp [Sty.may, e0, e1, e3]⟩
          rw [hr.out]
          go_enter Try.func28, Try.ntmps28
          go_wp2_with fail
          go_quiet (fail)
          go_wp2_with fail
          go_ret
          exact ⟨rfl, ((Keeps.refl _ w).alloc _).drewN _⟩
        | true =>
          have hr : Kept (Sty.may ⟨d, u, false, b, f⟩ (2, y) n = true) := ⟨by simp [Sty.may, e0, e1, e3]⟩
          rw [hr.out]
          go_enter Try.func28, Try.ntmps28
          go_wp2_with fail
          go_quiet (fail)
          go_wp2_with fail
          go_ret
          exact ⟨rfl, ((Keeps.refl _ w).alloc _).drewN _⟩
set_option linter.unusedVariables false in
set_option maxRecDepth 100000 in
set_option maxHeartbeats 2000000 in
theorem smay_undone (p : Nat) (d u n y : Int) (c b f : Bool) (w : World) (h : Blk w p 53 [.int .i64 d, .int .i64 u, .bool c, .bool b, .bool f]) (h1 : 0 ≤ u) (h2 : u ≤ d) (h3 : d ≤ 1000) :
    Calls Try.prog 28 #[.pointer (some ⟨p, 0, none⟩), .agg #[.int .i64 5, .int .i64 y], .int .i64 n] w (fun e w' => e = .returned (.bool (Sty.may ⟨d, u, c, b, f⟩ (5, y) n)) ∧ Keeps (fun _ => False) w w') := by
  have c0 := h.cell 0 rfl
  have c1 := h.cell 1 rfl
  have c2 := h.cell 2 rfl
  have c3 := h.cell 3 rfl
  have c4 := h.cell 4 rfl
  have hp := h.lt
  clear h
  cases b with
  | false =>
    have hr : Kept (Sty.may ⟨d, u, c, false, f⟩ (5, y) n = false) := ⟨by simp [Sty.may]⟩
    rw [hr.out]
    go_enter Try.func28, Try.ntmps28
    go_wp2_with fail
    go_quiet (fail)
    go_wp2_with fail
    go_ret
    exact ⟨rfl, ((Keeps.refl _ w).alloc _).drewN _⟩
  | true =>
    cases e1 : decide (u < d) with
    | false =>
      have hr : Kept (Sty.may ⟨d, u, c, true, f⟩ (5, y) n = false) := ⟨by simp [Sty.may, e1]⟩
      rw [hr.out]
      go_enter Try.func28, Try.ntmps28
      go_wp2_with fail
      go_quiet (fail)
      go_wp2_with fail
      go_ret
      exact ⟨rfl, ((Keeps.refl _ w).alloc _).drewN _⟩
    | true =>
      cases e2 : (y == d - u - 1) with
      | false =>
        have hr : Kept (Sty.may ⟨d, u, c, true, f⟩ (5, y) n = false) := ⟨by simp [Sty.may, e1, e2]⟩
        rw [hr.out]
        go_enter Try.func28, Try.ntmps28
        go_wp2_with fail
        go_quiet (fail)
        go_wp2_with fail
        go_ret
        exact ⟨rfl, ((Keeps.refl _ w).alloc _).drewN _⟩
      | true =>
        have hr : Kept (Sty.may ⟨d, u, c, true, f⟩ (5, y) n = true) := ⟨by simp [Sty.may, e1, e2]⟩
        rw [hr.out]
        go_enter Try.func28, Try.ntmps28
        go_wp2_with fail
        go_quiet (fail)
        go_wp2_with fail
        go_ret
        exact ⟨rfl, ((Keeps.refl _ w).alloc _).drewN _⟩
set_option linter.unusedVariables false in
set_option maxRecDepth 100000 in
set_option maxHeartbeats 2000000 in
theorem smay_commits (p : Nat) (d u n y : Int) (c b f : Bool) (w : World) (h : Blk w p 53 [.int .i64 d, .int .i64 u, .bool c, .bool b, .bool f]) (h1 : 0 ≤ u) (h2 : u ≤ d) (h3 : d ≤ 1000) :
    Calls Try.prog 28 #[.pointer (some ⟨p, 0, none⟩), .agg #[.int .i64 13, .int .i64 y], .int .i64 n] w (fun e w' => e = .returned (.bool (Sty.may ⟨d, u, c, b, f⟩ (13, y) n)) ∧ Keeps (fun _ => False) w w') := by
  have c0 := h.cell 0 rfl
  have c1 := h.cell 1 rfl
  have c2 := h.cell 2 rfl
  have c3 := h.cell 3 rfl
  have c4 := h.cell 4 rfl
  have hp := h.lt
  clear h
  cases e0 : (y == 0) with
  | false =>
    have hr : Kept (Sty.may ⟨d, u, c, b, f⟩ (13, y) n = false) := ⟨by simp [Sty.may, e0]⟩
    rw [hr.out]
    go_enter Try.func28, Try.ntmps28
    go_wp2_with fail
    go_ret
    exact ⟨rfl, ((Keeps.refl _ w).alloc _)⟩
  | true =>
    cases e1 : (d == n) with
    | false =>
      have hr : Kept (Sty.may ⟨d, u, c, b, f⟩ (13, y) n = false) := ⟨by simp [Sty.may, e0, e1]⟩
      rw [hr.out]
      go_enter Try.func28, Try.ntmps28
      go_wp2_with fail
      go_ret
      exact ⟨rfl, ((Keeps.refl _ w).alloc _)⟩
    | true =>
      cases c with
      | true =>
        have hr : Kept (Sty.may ⟨d, u, true, b, f⟩ (13, y) n = false) := ⟨by simp [Sty.may, e0, e1]⟩
        rw [hr.out]
        go_enter Try.func28, Try.ntmps28
        go_wp2_with fail
        go_ret
        exact ⟨rfl, ((Keeps.refl _ w).alloc _)⟩
      | false =>
        cases b with
        | true =>
          have hr : Kept (Sty.may ⟨d, u, false, true, f⟩ (13, y) n = false) := ⟨by simp [Sty.may, e0, e1]⟩
          rw [hr.out]
          go_enter Try.func28, Try.ntmps28
          go_wp2_with fail
          go_ret
          exact ⟨rfl, ((Keeps.refl _ w).alloc _)⟩
        | false =>
          have hr : Kept (Sty.may ⟨d, u, false, false, f⟩ (13, y) n = true) := ⟨by simp [Sty.may, e0, e1]⟩
          rw [hr.out]
          go_enter Try.func28, Try.ntmps28
          go_wp2_with fail
          go_ret
          exact ⟨rfl, ((Keeps.refl _ w).alloc _)⟩
set_option linter.unusedVariables false in
set_option maxRecDepth 100000 in
set_option maxHeartbeats 2000000 in
theorem smay_aborts (p : Nat) (d u n y : Int) (c b f : Bool) (w : World) (h : Blk w p 53 [.int .i64 d, .int .i64 u, .bool c, .bool b, .bool f]) (h1 : 0 ≤ u) (h2 : u ≤ d) (h3 : d ≤ 1000) :
    Calls Try.prog 28 #[.pointer (some ⟨p, 0, none⟩), .agg #[.int .i64 14, .int .i64 y], .int .i64 n] w (fun e w' => e = .returned (.bool (Sty.may ⟨d, u, c, b, f⟩ (14, y) n)) ∧ Keeps (fun _ => False) w w') := by
  have c0 := h.cell 0 rfl
  have c1 := h.cell 1 rfl
  have c2 := h.cell 2 rfl
  have c3 := h.cell 3 rfl
  have c4 := h.cell 4 rfl
  have hp := h.lt
  clear h
  cases e0 : (y == 0) with
  | false =>
    have hr : Kept (Sty.may ⟨d, u, c, b, f⟩ (14, y) n = false) := ⟨by simp [Sty.may, e0]⟩
    rw [hr.out]
    go_enter Try.func28, Try.ntmps28
    go_wp2_with fail
    go_ret
    exact ⟨rfl, ((Keeps.refl _ w).alloc _)⟩
  | true =>
    cases c with
    | true =>
      have hr : Kept (Sty.may ⟨d, u, true, b, f⟩ (14, y) n = false) := ⟨by simp [Sty.may, e0]⟩
      rw [hr.out]
      go_enter Try.func28, Try.ntmps28
      go_wp2_with fail
      go_ret
      exact ⟨rfl, ((Keeps.refl _ w).alloc _)⟩
    | false =>
      cases b with
      | true =>
        have hr : Kept (Sty.may ⟨d, u, false, true, f⟩ (14, y) n = false) := ⟨by simp [Sty.may, e0]⟩
        rw [hr.out]
        go_enter Try.func28, Try.ntmps28
        go_wp2_with fail
        go_ret
        exact ⟨rfl, ((Keeps.refl _ w).alloc _)⟩
      | false =>
        have hr : Kept (Sty.may ⟨d, u, false, false, f⟩ (14, y) n = true) := ⟨by simp [Sty.may, e0]⟩
        rw [hr.out]
        go_enter Try.func28, Try.ntmps28
        go_wp2_with fail
        go_ret
        exact ⟨rfl, ((Keeps.refl _ w).alloc _)⟩
set_option linter.unusedVariables false in
set_option maxRecDepth 100000 in
set_option maxHeartbeats 2000000 in
theorem smay_shipped (p : Nat) (d u n y : Int) (c b f : Bool) (w : World) (h : Blk w p 53 [.int .i64 d, .int .i64 u, .bool c, .bool b, .bool f]) (h1 : 0 ≤ u) (h2 : u ≤ d) (h3 : d ≤ 1000) :
    Calls Try.prog 28 #[.pointer (some ⟨p, 0, none⟩), .agg #[.int .i64 16, .int .i64 y], .int .i64 n] w (fun e w' => e = .returned (.bool (Sty.may ⟨d, u, c, b, f⟩ (16, y) n)) ∧ Keeps (fun _ => False) w w') := by
  have c0 := h.cell 0 rfl
  have c1 := h.cell 1 rfl
  have c2 := h.cell 2 rfl
  have c3 := h.cell 3 rfl
  have c4 := h.cell 4 rfl
  have hp := h.lt
  clear h
  cases e0 : (y == 0) with
  | false =>
    have hr : Kept (Sty.may ⟨d, u, c, b, f⟩ (16, y) n = false) := ⟨by simp [Sty.may, e0]⟩
    rw [hr.out]
    go_enter Try.func28, Try.ntmps28
    go_wp2_with fail
    go_ret
    exact ⟨rfl, ((Keeps.refl _ w).alloc _)⟩
  | true =>
    cases c with
    | false =>
      have hr : Kept (Sty.may ⟨d, u, false, b, f⟩ (16, y) n = false) := ⟨by simp [Sty.may, e0]⟩
      rw [hr.out]
      go_enter Try.func28, Try.ntmps28
      go_wp2_with fail
      go_ret
      exact ⟨rfl, ((Keeps.refl _ w).alloc _)⟩
    | true =>
      cases f with
      | true =>
        have hr : Kept (Sty.may ⟨d, u, true, b, true⟩ (16, y) n = false) := ⟨by simp [Sty.may, e0]⟩
        rw [hr.out]
        go_enter Try.func28, Try.ntmps28
        go_wp2_with fail
        go_ret
        exact ⟨rfl, ((Keeps.refl _ w).alloc _)⟩
      | false =>
        have hr : Kept (Sty.may ⟨d, u, true, b, false⟩ (16, y) n = true) := ⟨by simp [Sty.may, e0]⟩
        rw [hr.out]
        go_enter Try.func28, Try.ntmps28
        go_wp2_with fail
        go_ret
        exact ⟨rfl, ((Keeps.refl _ w).alloc _)⟩
set_option linter.unusedVariables false in
set_option maxRecDepth 100000 in
set_option maxHeartbeats 2000000 in
theorem smay_other (p : Nat) (d u n y x : Int) (c b f : Bool) (w : World) (h : Blk w p 53 [.int .i64 d, .int .i64 u, .bool c, .bool b, .bool f]) (h1 : 0 ≤ u) (h2 : u ≤ d) (h3 : d ≤ 1000) (n2 : (x == 2) = false) (n5 : (x == 5) = false) (n13 : (x == 13) = false) (n14 : (x == 14) = false) (n16 : (x == 16) = false) :
    Calls Try.prog 28 #[.pointer (some ⟨p, 0, none⟩), .agg #[.int .i64 x, .int .i64 y], .int .i64 n] w (fun e w' => e = .returned (.bool (Sty.may ⟨d, u, c, b, f⟩ (x, y) n)) ∧ Keeps (fun _ => False) w w') := by
  have c0 := h.cell 0 rfl
  have c1 := h.cell 1 rfl
  have c2 := h.cell 2 rfl
  have c3 := h.cell 3 rfl
  have c4 := h.cell 4 rfl
  have hp := h.lt
  clear h
  have hr : Kept (Sty.may ⟨d, u, c, b, f⟩ (x, y) n = false) := ⟨by simp only [beq_eq_false_iff_ne] at n2 n5 n13 n14 n16; simp [Sty.may, n2, n5, n13, n14, n16]⟩
  rw [hr.out]
  go_enter Try.func28, Try.ntmps28
  go_wp2_with fail
  go_ret
  exact ⟨rfl, (Keeps.refl _ w).alloc _⟩
theorem smay_to (p : Nat) (s : Sty) (x y n : Int) (r : Bool) (w : World) (h : Blk w p 53 s.cells) (ok : s.Ok n) (hn : n ≤ 1000) (hr : s.may (x, y) n = r) :
    Calls Try.prog 28 #[.pointer (some ⟨p, 0, none⟩), .agg #[.int .i64 x, .int .i64 y], .int .i64 n] w (fun e w' => e = .returned (.bool r) ∧ Keeps (fun _ => False) w w') := by
  subst hr
  obtain ⟨d, u, c, b, f⟩ := s
  obtain ⟨h1, h2, h3⟩ := ok
  simp only at h1 h2 h3
  have h3 : d ≤ 1000 := by omega
  by_cases n2 : x = 2
  · subst n2; exact smay_done p d u n y c b f w h h1 h2 h3
  by_cases n5 : x = 5
  · subst n5; exact smay_undone p d u n y c b f w h h1 h2 h3
  by_cases n13 : x = 13
  · subst n13; exact smay_commits p d u n y c b f w h h1 h2 h3
  by_cases n14 : x = 14
  · subst n14; exact smay_aborts p d u n y c b f w h h1 h2 h3
  by_cases n16 : x = 16
  · subst n16; exact smay_shipped p d u n y c b f w h h1 h2 h3
  exact smay_other p d u n y x c b f w h h1 h2 h3 (by simpa using n2) (by simpa using n5) (by simpa using n13) (by simpa using n14) (by simpa using n16)
end Go.Proofs.Ytjlfkpimjjnolaa
