/- The counts of tries of the program and of the page, walked: New, Try, Pass, Wait and Left answer as the plain 'Ct' does, and turn their own block alone. No condition but that a count lies there whose numbers are in range. -/
import Derived.Test.YtacnekeakicdeaaRows
import Derived.Test.YtacnekeakicdeaaLib
namespace Go.Proofs.Ytacnekeakicdeaa
open Go.RowKit

/-- A count: tries that are left, how long to wait, how long behind the next try. -/
structure Ct where
  l : Int
  t : Int
  n : Int
structure Ct.Ok (c : Ct) : Prop where
  l0 : 0 ≤ c.l
  l1 : c.l ≤ 20
  t0 : 0 ≤ c.t
  t1 : c.t ≤ 16
  n0 : 1 ≤ c.n
  n1 : c.n ≤ 16
def Ct.new (a : Int) : Ct := ⟨max 1 (min a 20), 0, 1⟩
def Ct.may (c : Ct) : Bool := !(c.l == 0) && !decide (0 < c.t)
def Ct.tried (c : Ct) : Ct := if c.may then ⟨c.l - 1, c.n, min (2 * c.n) 16⟩ else c
def Ct.passed (c : Ct) : Ct := ⟨c.l, max 0 (c.t - 1), c.n⟩
def Ct.free (c : Ct) : Bool := c.t == 0
theorem Ct.new_ok (a : Int) : (Ct.new a).Ok := by
  constructor <;> simp only [Ct.new] <;> omega
theorem Ct.tried_ok {c : Ct} (h : c.Ok) : c.tried.Ok := by
  obtain ⟨_, _, _, _, _, _⟩ := h
  unfold Ct.tried
  by_cases hm : c.may = true
  · rw [if_pos hm]
    have hl : c.l ≠ 0 := by
      intro e
      simp [Ct.may, e] at hm
    constructor <;> simp only <;> omega
  · rw [if_neg hm]
    constructor <;> assumption
theorem Ct.passed_ok {c : Ct} (h : c.Ok) : c.passed.Ok := by
  obtain ⟨_, _, _, _, _, _⟩ := h
  constructor <;> simp only [Ct.passed] <;> omega

def CtAt (w : World) (b : Nat) (T : TypeId) (c : Ct) : Prop := Blk w b T [.int .i64 c.l, .int .i64 c.t, .int .i64 c.n]
/-- What a call answers, what it leaves, and that it turned nothing but S. -/
def Rets (w : World) (S : Nat → Prop) (r : Value) (Q : World → Prop) (e : Ending) (w' : World) : Prop := e = .returned r ∧ Q w' ∧ Keeps S w w'

set_option maxHeartbeats 400000 in
theorem new_any (a : Int) (w : World) : Calls Try.prog 16 #[.int .i64 a] w (Rets w (fun _ => False) (.pointer (some ⟨w.heap.size, 0, none⟩)) fun w' => CtAt w' w.heap.size 47 (Ct.new a) ∧ w'.heap.size = w.heap.size + 1) := by
  go_enter Try.func16, Try.ntmps16
  go_wp2
  · go_ret
    have e1 : max 1 (min a 20) = 20 := by omega
    have e : Ct.new a = ⟨20, 0, 1⟩ := by simp only [Ct.new, e1]
    rw [e]
    exact ⟨rfl, ⟨Blk.new _ _ _, by simp⟩, (Keeps.refl _ w).alloc _⟩
  · go_ret
    have e1 : max 1 (min a 20) = a := by omega
    have e : Ct.new a = ⟨a, 0, 1⟩ := by simp only [Ct.new, e1]
    rw [e]
    exact ⟨rfl, ⟨Blk.new _ _ _, by simp⟩, (Keeps.refl _ w).alloc _⟩
  · go_ret
    have e1 : max 1 (min a 20) = 1 := by omega
    have e : Ct.new a = ⟨1, 0, 1⟩ := by simp only [Ct.new, e1]
    rw [e]
    exact ⟨rfl, ⟨Blk.new _ _ _, by simp⟩, (Keeps.refl _ w).alloc _⟩
set_option maxHeartbeats 400000 in
theorem newRef_any (a : Int) (w : World) : Calls Try.prog 17 #[.int .i64 a] w (Rets w (fun _ => False) (.pointer (some ⟨w.heap.size, 0, none⟩)) fun w' => CtAt w' w.heap.size 33 (Ct.new a) ∧ w'.heap.size = w.heap.size + 1) := by
  go_enter Try.func17, Try.ntmps17
  go_wp2
  · go_ret
    have e1 : max 1 (min a 20) = 20 := by omega
    have e : Ct.new a = ⟨20, 0, 1⟩ := by simp only [Ct.new, e1]
    rw [e]
    exact ⟨rfl, ⟨Blk.new _ _ _, by simp⟩, (Keeps.refl _ w).alloc _⟩
  · go_ret
    have e1 : max 1 (min a 20) = a := by omega
    have e : Ct.new a = ⟨a, 0, 1⟩ := by simp only [Ct.new, e1]
    rw [e]
    exact ⟨rfl, ⟨Blk.new _ _ _, by simp⟩, (Keeps.refl _ w).alloc _⟩
  · go_ret
    have e1 : max 1 (min a 20) = 1 := by omega
    have e : Ct.new a = ⟨1, 0, 1⟩ := by simp only [Ct.new, e1]
    rw [e]
    exact ⟨rfl, ⟨Blk.new _ _ _, by simp⟩, (Keeps.refl _ w).alloc _⟩

theorem try_nil (w : World) : Calls Try.prog 18 #[.pointer none] w (Rets w (fun _ => False) (.bool false) fun w' => w = w') := by
  go_enter Try.func18, Try.ntmps18
  go_wp2
  go_ret
  exact ⟨rfl, rfl, Keeps.refl _ _⟩
theorem pass_nil (w : World) : Calls Try.prog 20 #[.pointer none] w (Rets w (fun _ => False) (.bool false) fun w' => w = w') := by
  go_enter Try.func20, Try.ntmps20
  go_wp2
  go_ret
  exact ⟨rfl, rfl, Keeps.refl _ _⟩
theorem wait_nil (w : World) : Calls Try.prog 22 #[.pointer none] w (Rets w (fun _ => False) (.int .i64 0) fun w' => w = w') := by
  go_enter Try.func22, Try.ntmps22
  go_wp2
  go_ret
  exact ⟨rfl, rfl, Keeps.refl _ _⟩
theorem left_nil (w : World) : Calls Try.prog 23 #[.pointer none] w (Rets w (fun _ => False) (.int .i64 0) fun w' => w = w') := by
  go_enter Try.func23, Try.ntmps23
  go_wp2
  go_ret
  exact ⟨rfl, rfl, Keeps.refl _ _⟩
theorem wait_any (b : Nat) (c : Ct) (w : World) (h : CtAt w b 47 c) : Calls Try.prog 22 #[.pointer (some ⟨b, 0, none⟩)] w (Rets w (fun _ => False) (.int .i64 c.t) fun w' => w = w') := by
  have c1 := h.cell 1 rfl
  go_enter Try.func22, Try.ntmps22
  go_wp2
  go_ret
  exact ⟨rfl, rfl, Keeps.refl _ _⟩
theorem left_any (b : Nat) (c : Ct) (w : World) (h : CtAt w b 47 c) : Calls Try.prog 23 #[.pointer (some ⟨b, 0, none⟩)] w (Rets w (fun _ => False) (.int .i64 c.l) fun w' => w = w') := by
  have c0 := h.cell 0 rfl
  go_enter Try.func23, Try.ntmps23
  go_wp2
  go_ret
  exact ⟨rfl, rfl, Keeps.refl _ _⟩

/-- A try turns the count's own block alone. -/
theorem three_set {w : World} {b : Nat} {T : TypeId} {l t n : Int} (h : Blk w b T [.int .i64 l, .int .i64 t, .int .i64 n]) (l' t' n' : Int) :
    Blk (((w.setCell ⟨b, 0, none⟩ (.int .i64 l')).setCell ⟨b, 1, none⟩ (.int .i64 t')).setCell ⟨b, 2, none⟩ (.int .i64 n')).drew b T [.int .i64 l', .int .i64 t', .int .i64 n'] :=
  ((h.set 0 _).set 1 _).set 2 _
theorem three_keeps (w : World) (b : Nat) (u v x : Value) : Keeps (· = b) w (((w.setCell ⟨b, 0, none⟩ u).setCell ⟨b, 1, none⟩ v).setCell ⟨b, 2, none⟩ x).drew :=
  ((((Keeps.refl (· = b) w).setCell (p := ⟨b, 0, none⟩) (.inr rfl) _).setCell (p := ⟨b, 1, none⟩) (.inr rfl) _).setCell (p := ⟨b, 2, none⟩) (.inr rfl) _).drew

theorem three_keeps' (w : World) (b : Nat) (u v x : Value) : Keeps (· = b) w (((w.setCell ⟨b, 0, none⟩ u).setCell ⟨b, 1, none⟩ v).setCell ⟨b, 2, none⟩ x) :=
  (((Keeps.refl (· = b) w).setCell (p := ⟨b, 0, none⟩) (.inr rfl) _).setCell (p := ⟨b, 1, none⟩) (.inr rfl) _).setCell (p := ⟨b, 2, none⟩) (.inr rfl) _
set_option maxHeartbeats 400000 in
theorem try_any (b : Nat) (c : Ct) (w : World) (h : CtAt w b 47 c) (ok : c.Ok) : Calls Try.prog 18 #[.pointer (some ⟨b, 0, none⟩)] w (Rets w (· = b) (.bool c.may) fun w' => CtAt w' b 47 c.tried) := by
  obtain ⟨l, t, n⟩ := c
  obtain ⟨l0, l1, t0, t1, n0, n1⟩ := ok
  have H := Kept.mk h
  have c0 := h.cell 0 rfl
  have c1 := h.cell 1 rfl
  have c2 := h.cell 2 rfl
  have f0 := h.frozen 0
  have f1 := h.frozen 1
  have f2 := h.frozen 2
  clear h
  simp only at l0 l1 t0 t1 n0 n1 c0 c1 c2
  by_cases hl : l = 0
  · subst hl
    go_enter Try.func18, Try.ntmps18
    go_wp2
    go_ret
    exact ⟨rfl, H.out, Keeps.refl _ _⟩
  · have hl' : (l == 0) = false := by simpa using hl
    clear hl
    by_cases ht : 0 < t
    · have hm : Kept (Ct.may ⟨l, t, n⟩ = false) := ⟨by simp [Ct.may, ht]⟩
      go_enter Try.func18, Try.ntmps18
      go_wp2
      go_ret
      refine ⟨by rw [hm.out]; rfl, ?_, Keeps.refl _ _⟩
      unfold Ct.tried
      rw [hm.out, if_neg (by simp)]
      exact H.out
    · have hm : Kept (Ct.may ⟨l, t, n⟩ = true) := ⟨by simp [Ct.may, hl', ht]⟩
      by_cases h16 : 16 < 2 * n
      all_goals
        have e : Kept (min (2 * n) 16 = if 16 < 2 * n then 16 else 2 * n) := ⟨by omega⟩
        go_enter Try.func18, Try.ntmps18
        go_wp2
        go_region
        go_wp2
        go_ret
        refine ⟨by rw [hm.out]; rfl, ?_, three_keeps _ _ _ _ _⟩
        unfold Ct.tried
        rw [hm.out, if_pos rfl]
        show CtAt _ b 47 ⟨l - 1, n, min (2 * n) 16⟩
        rw [e.out]
        first | rw [if_pos h16] | rw [if_neg (by omega)]
        exact three_set H.out _ _ _
set_option maxHeartbeats 400000 in
theorem tryRef_any (b : Nat) (c : Ct) (w : World) (h : CtAt w b 33 c) (ok : c.Ok) : Calls Try.prog 19 #[.pointer (some ⟨b, 0, none⟩)] w (Rets w (· = b) (.bool c.may) fun w' => CtAt w' b 33 c.tried) := by
  obtain ⟨l, t, n⟩ := c
  obtain ⟨l0, l1, t0, t1, n0, n1⟩ := ok
  have H := Kept.mk h
  have c0 := h.cell 0 rfl
  have c1 := h.cell 1 rfl
  have c2 := h.cell 2 rfl
  have f0 := h.frozen 0
  have f1 := h.frozen 1
  have f2 := h.frozen 2
  clear h
  simp only at l0 l1 t0 t1 n0 n1 c0 c1 c2
  by_cases hl : l = 0
  · subst hl
    go_enter Try.func19, Try.ntmps19
    go_wp2
    go_ret
    exact ⟨rfl, H.out, Keeps.refl _ _⟩
  · have hl' : (l == 0) = false := by simpa using hl
    clear hl
    by_cases ht : 0 < t
    · have hm : Kept (Ct.may ⟨l, t, n⟩ = false) := ⟨by simp [Ct.may, ht]⟩
      go_enter Try.func19, Try.ntmps19
      go_wp2
      go_ret
      refine ⟨by rw [hm.out]; rfl, ?_, Keeps.refl _ _⟩
      unfold Ct.tried
      rw [hm.out, if_neg (by simp)]
      exact H.out
    · have hm : Kept (Ct.may ⟨l, t, n⟩ = true) := ⟨by simp [Ct.may, hl', ht]⟩
      by_cases h16 : 16 < 2 * n
      all_goals
        have e : Kept (min (2 * n) 16 = if 16 < 2 * n then 16 else 2 * n) := ⟨by omega⟩
        go_enter Try.func19, Try.ntmps19
        go_wp2
        go_ret
        refine ⟨by rw [hm.out]; rfl, ?_, three_keeps' _ _ _ _ _⟩
        unfold Ct.tried
        rw [hm.out, if_pos rfl]
        show CtAt _ b 33 ⟨l - 1, n, min (2 * n) 16⟩
        rw [e.out]
        first | rw [if_pos h16] | rw [if_neg (by omega)]
        exact three_set H.out _ _ _
set_option maxHeartbeats 400000 in
theorem pass_any (b : Nat) (c : Ct) (w : World) (h : CtAt w b 47 c) (ok : c.Ok) : Calls Try.prog 20 #[.pointer (some ⟨b, 0, none⟩)] w (Rets w (· = b) (.bool c.passed.free) fun w' => CtAt w' b 47 c.passed) := by
  obtain ⟨l, t, n⟩ := c
  obtain ⟨l0, l1, t0, t1, n0, n1⟩ := ok
  have H := Kept.mk h
  have c1 := h.cell 1 rfl
  have f1 := h.frozen 1
  clear h
  simp only at l0 l1 t0 t1 n0 n1 c1
  by_cases ht : 0 < t - 1
  all_goals
    have e : Kept (max 0 (t - 1) = if 0 < t - 1 then t - 1 else 0) := ⟨by omega⟩
    go_enter Try.func20, Try.ntmps20
    go_wp2
    go_ret
    refine ⟨?_, ?_, (Keeps.refl (· = b) w).setCell (p := ⟨b, 1, none⟩) (.inr rfl) _⟩
    · show _ = Ending.returned (.bool (max 0 (t - 1) == 0))
      rw [e.out]
      first | rw [if_pos ht] | rw [if_neg (by omega)]
      rfl
    · show CtAt _ b 47 ⟨l, max 0 (t - 1), n⟩
      rw [e.out]
      first | rw [if_pos ht] | rw [if_neg (by omega)]
      exact H.out.set 1 _
set_option maxHeartbeats 400000 in
theorem passRef_any (b : Nat) (c : Ct) (w : World) (h : CtAt w b 33 c) (ok : c.Ok) : Calls Try.prog 21 #[.pointer (some ⟨b, 0, none⟩)] w (Rets w (· = b) (.bool c.passed.free) fun w' => CtAt w' b 33 c.passed) := by
  obtain ⟨l, t, n⟩ := c
  obtain ⟨l0, l1, t0, t1, n0, n1⟩ := ok
  have H := Kept.mk h
  have c1 := h.cell 1 rfl
  have f1 := h.frozen 1
  clear h
  simp only at l0 l1 t0 t1 n0 n1 c1
  by_cases ht : 0 < t - 1
  all_goals
    have e : Kept (max 0 (t - 1) = if 0 < t - 1 then t - 1 else 0) := ⟨by omega⟩
    go_enter Try.func21, Try.ntmps21
    go_wp2
    go_ret
    refine ⟨?_, ?_, (Keeps.refl (· = b) w).setCell (p := ⟨b, 1, none⟩) (.inr rfl) _⟩
    · show _ = Ending.returned (.bool (max 0 (t - 1) == 0))
      rw [e.out]
      first | rw [if_pos ht] | rw [if_neg (by omega)]
      rfl
    · show CtAt _ b 33 ⟨l, max 0 (t - 1), n⟩
      rw [e.out]
      first | rw [if_pos ht] | rw [if_neg (by omega)]
      exact H.out.set 1 _

theorem new_to (a : Int) (c : Ct) (w : World) (hc : Ct.new a = c) : Calls Try.prog 16 #[.int .i64 a] w (Rets w (fun _ => False) (.pointer (some ⟨w.heap.size, 0, none⟩)) fun w' => CtAt w' w.heap.size 47 c ∧ w'.heap.size = w.heap.size + 1) := by
  subst hc; exact new_any a w
theorem try_to (b : Nat) (c c' : Ct) (r : Bool) (w : World) (h : CtAt w b 47 c) (ok : c.Ok) (hr : c.may = r) (hc : c.tried = c') : Calls Try.prog 18 #[.pointer (some ⟨b, 0, none⟩)] w (Rets w (· = b) (.bool r) fun w' => CtAt w' b 47 c') := by
  subst hr; subst hc; exact try_any b c w h ok
theorem pass_to (b : Nat) (c c' : Ct) (r : Bool) (w : World) (h : CtAt w b 47 c) (ok : c.Ok) (hr : c.passed.free = r) (hc : c.passed = c') : Calls Try.prog 20 #[.pointer (some ⟨b, 0, none⟩)] w (Rets w (· = b) (.bool r) fun w' => CtAt w' b 47 c') := by
  subst hr; subst hc; exact pass_any b c w h ok
theorem wait_to (b : Nat) (c : Ct) (t : Int) (w : World) (h : CtAt w b 47 c) (ht : c.t = t) : Calls Try.prog 22 #[.pointer (some ⟨b, 0, none⟩)] w (Rets w (fun _ => False) (.int .i64 t) fun w' => w = w') := by
  subst ht; exact wait_any b c w h
theorem left_to (b : Nat) (c : Ct) (l : Int) (w : World) (h : CtAt w b 47 c) (hl : c.l = l) : Calls Try.prog 23 #[.pointer (some ⟨b, 0, none⟩)] w (Rets w (fun _ => False) (.int .i64 l) fun w' => w = w') := by
  subst hl; exact left_any b c w h

/-- It answers true, and of what lay there nothing has turned. -/
def Yes (w : World) (e : Ending) (w' : World) : Prop := e = .returned (.bool true) ∧ Below w.heap.size w w'
theorem ok_2 : (Ct.mk 2 0 1).Ok := by constructor <;> decide
theorem ok_1 : (Ct.mk 1 1 2).Ok := by constructor <;> decide
theorem ok_0 : (Ct.mk 1 0 2).Ok := by constructor <;> decide
set_option maxHeartbeats 1000000 in
theorem awake_any (w : World) : Calls Try.prog 24 #[] w (Yes w) := by
  go_enter Try.func24, Try.ntmps24
  go_wp2_with fail
  refine (new_to 2 ⟨2, 0, 1⟩ _ rfl).mono ?_
  rintro e w1 ⟨rfl, ⟨h1, s1⟩, k1⟩
  go_wp2_with fail
  refine (try_to _ _ ⟨1, 1, 2⟩ true _ h1 ok_2 rfl rfl).mono ?_
  rintro e w2 ⟨rfl, h2, k2⟩
  go_wp2_with fail
  refine (try_to _ _ ⟨1, 1, 2⟩ false _ h2 ok_1 rfl rfl).mono ?_
  rintro e w3 ⟨rfl, h3, k3⟩
  go_wp2_with fail
  refine (pass_to _ _ ⟨1, 0, 2⟩ true _ h3 ok_1 rfl rfl).mono ?_
  rintro e w4 ⟨rfl, h4, k4⟩
  go_wp2_with fail
  refine (try_to _ _ ⟨0, 2, 4⟩ true _ h4 ok_0 rfl rfl).mono ?_
  rintro e w5 ⟨rfl, h5, k5⟩
  go_wp2_with fail
  refine (left_to _ _ 0 _ h5 rfl).mono ?_
  rintro e _ ⟨rfl, rfl, _⟩
  go_wp2_with fail
  refine (wait_to _ _ 2 _ h5 rfl).mono ?_
  rintro e _ ⟨rfl, rfl, _⟩
  go_wp2_with fail
  go_ret
  refine ⟨rfl, ?_⟩
  have K := ((((k2.trans k3).trans k4).trans k5))
  exact (k1.below (Nat.le_refl _) (fun _ h => h.elim)).trans (K.below k1.size (fun k e => by omega))

set_option maxHeartbeats 1000000 in
theorem nil_any (n : Int) (w : World) : Calls Try.prog 5 #[.int .i64 n] w (Yes w) := by
  go_enter Try.func5, Try.ntmps5
  go_wp2_with fail
  refine (try_nil _).mono ?_
  rintro e _ ⟨rfl, rfl, _⟩
  go_wp2_with fail
  refine (pass_nil _).mono ?_
  rintro e _ ⟨rfl, rfl, _⟩
  go_wp2_with fail
  refine (wait_nil _).mono ?_
  rintro e _ ⟨rfl, rfl, _⟩
  go_wp2_with fail
  refine (left_nil _).mono ?_
  rintro e _ ⟨rfl, rfl, _⟩
  go_wp2_with fail
  refine (new_any n _).mono ?_
  rintro e w1 ⟨rfl, _, k1⟩
  go_wp2_with fail
  refine (awake_any _).mono ?_
  rintro e w2 ⟨rfl, b2⟩
  go_wp2_with fail
  go_ret
  exact ⟨rfl, (k1.below (Nat.le_refl _) (fun _ h => h.elim)).trans (b2.mono k1.size)⟩
end Go.Proofs.Ytacnekeakicdeaa
