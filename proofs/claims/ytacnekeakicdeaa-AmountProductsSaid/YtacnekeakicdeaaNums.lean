/- Sums, products and parts of the program and of the page, walked: what each answers, in plain numbers. No condition but that the numbers are int's. -/
import Derived.Test.YtacnekeakicdeaaSub
namespace Go.Proofs.Ytacnekeakicdeaa
open Go.RowKit
def addV (a b : Int) : Int × Int := if bothB a b then (if a + b > 1000000000 then (0, 4) else (a + b, 0)) else (0, 1)
def mulV (a b : Int) : Int × Int := if bothB a b then (if a * b > 1000000000 then (0, 4) else (a * b, 0)) else (0, 1)
def partB (a n o : Int) : Bool := bothB a n && mayB o && !(o == 0) && !decide (o < n)
def partV (a n o : Int) : Int × Int := if partB a n o then (a * n / o, 0) else (0, 1)
theorem prod_bounds {a b : Int} (h : (0 ≤ a ∧ a ≤ 1000000000) ∧ 0 ≤ b ∧ b ≤ 1000000000) : 0 ≤ a * b ∧ a * b ≤ 1000000000000000000 := by
  have h1 := Int.mul_nonneg h.1.1 h.2.1
  have h2 : a * b ≤ 1000000000 * 1000000000 := Int.mul_le_mul h.1.2 h.2.2 h.2.1 (by omega)
  omega
theorem mul_over {a b : Int} (ha : 0 < a) : 1000000000 / a < b ↔ 1000000000 < a * b := by
  rw [Int.ediv_lt_iff_lt_mul ha, Int.mul_comm]

theorem add_any (a b : Int) (w : World) : Calls Try.prog 29 #[.int .i64 a, .int .i64 b] w (Says w (.tuple #[.int .i64 (addV a b).1, .int .i64 (addV a b).2])) := by
  cases hb : bothB a b with
  | true =>
    have Hb := Kept.mk hb
    have hr := (bothB_iff a b).1 hb
    obtain ⟨⟨a0, a1⟩, b0, b1⟩ := hr
    by_cases h : 1000000000 - a < b
    · have e : Kept (addV a b = (0, 4)) := ⟨by unfold addV; rw [if_pos hb, if_pos (by omega)]⟩
      clear hb
      go_enter Try.func29, Try.ntmps29
      go_wp2_with fail
      refine (both_to a b true _ Hb.out).mono ?_
      rintro e _ ⟨rfl, rfl⟩
      go_wp2_with fail
      go_ret2
      exact ⟨by rw [e.out]; rfl, rfl⟩
    · have e : Kept (addV a b = (a + b, 0)) := ⟨by unfold addV; rw [if_pos hb, if_neg (by omega)]⟩
      clear hb
      go_enter Try.func29, Try.ntmps29
      go_wp2_with fail
      refine (both_to a b true _ Hb.out).mono ?_
      rintro e _ ⟨rfl, rfl⟩
      go_wp2_with fail
      go_ret2
      exact ⟨by rw [e.out]; rfl, rfl⟩
  | false =>
    have Hb := Kept.mk hb
    have e : Kept (addV a b = (0, 1)) := ⟨by unfold addV; rw [if_neg (by simp [hb])]⟩
    clear hb
    go_enter Try.func29, Try.ntmps29
    go_wp2_with fail
    refine (both_to a b false _ Hb.out).mono ?_
    rintro e _ ⟨rfl, rfl⟩
    go_wp2_with fail
    go_ret2
    exact ⟨by rw [e.out]; rfl, rfl⟩
theorem add_to (a b x y : Int) (w : World) (h : addV a b = (x, y)) : Calls Try.prog 29 #[.int .i64 a, .int .i64 b] w (Says w (.tuple #[.int .i64 x, .int .i64 y])) := by
  have := add_any a b w
  rw [h] at this
  exact this
set_option maxHeartbeats 1000000 in
theorem mul_any (a b : Int) (w : World) : Calls Try.prog 30 #[.int .i64 a, .int .i64 b] w (Says w (.tuple #[.int .i64 (mulV a b).1, .int .i64 (mulV a b).2])) := by
  cases hb : bothB a b with
  | true =>
    have Hb := Kept.mk hb
    have hr := (bothB_iff a b).1 hb
    have hp := prod_bounds hr
    obtain ⟨⟨a0, a1⟩, b0, b1⟩ := hr
    by_cases ha : 0 < a
    · have hne : (a == 0) = false := beq_eq_false_iff_ne.2 (by omega)
      by_cases h : 1000000000 / a < b
      · have e : Kept (mulV a b = (0, 4)) := ⟨by unfold mulV; rw [if_pos hb, if_pos ((mul_over ha).1 h)]⟩
        clear hb hp
        go_enter Try.func30, Try.ntmps30
        go_wp2_with fail
        refine (both_to a b true _ Hb.out).mono ?_
        rintro e _ ⟨rfl, rfl⟩
        go_wp2_with fail
        go_ret2
        exact ⟨by rw [e.out]; rfl, rfl⟩
      · have e : Kept (mulV a b = (a * b, 0)) := ⟨by unfold mulV; rw [if_pos hb, if_neg (fun g => h ((mul_over ha).2 g))]⟩
        have hpw : wrap64 (a * b) = a * b := w64 (by omega) (by omega)
        clear hb hp
        have Hpw := Kept.mk hpw
        clear hpw
        go_enter Try.func30, Try.ntmps30
        go_wp2_with fail
        refine (both_to a b true _ Hb.out).mono ?_
        rintro e _ ⟨rfl, rfl⟩
        go_wp2_with fail
        go_ret2
        exact ⟨by rw [e.out]; (try rw [Hpw.out]); rfl, rfl⟩
    · have e : Kept (mulV a b = (a * b, 0)) := ⟨by
        have : a = 0 := by omega
        subst this
        unfold mulV; rw [if_pos hb, if_neg (by omega)]⟩
      have hpw : wrap64 (a * b) = a * b := w64 (by omega) (by omega)
      have Hpw := Kept.mk hpw
      clear hb hpw hp
      go_enter Try.func30, Try.ntmps30
      go_wp2_with fail
      refine (both_to a b true _ Hb.out).mono ?_
      rintro e _ ⟨rfl, rfl⟩
      go_wp2_with fail
      go_ret2
      exact ⟨by rw [e.out]; (try rw [Hpw.out]); rfl, rfl⟩
  | false =>
    have Hb := Kept.mk hb
    have e : Kept (mulV a b = (0, 1)) := ⟨by unfold mulV; rw [if_neg (by simp [hb])]⟩
    clear hb
    go_enter Try.func30, Try.ntmps30
    go_wp2_with fail
    refine (both_to a b false _ Hb.out).mono ?_
    rintro e _ ⟨rfl, rfl⟩
    go_wp2_with fail
    go_ret2
    exact ⟨by rw [e.out]; rfl, rfl⟩
theorem mul_to (a b x y : Int) (w : World) (h : mulV a b = (x, y)) : Calls Try.prog 30 #[.int .i64 a, .int .i64 b] w (Says w (.tuple #[.int .i64 x, .int .i64 y])) := by
  have := mul_any a b w
  rw [h] at this
  exact this
theorem sub_to (a b x y : Int) (w : World) (h : subV a b = (x, y)) : Calls Try.prog 32 #[.int .i64 a, .int .i64 b] w (Says w (.tuple #[.int .i64 x, .int .i64 y])) := by
  have := sub_any a b w
  rw [h] at this
  exact this
set_option maxHeartbeats 1000000 in
theorem part_any (a n o : Int) (w : World) : Calls Try.prog 35 #[.int .i64 a, .int .i64 n, .int .i64 o] w (Says w (.tuple #[.int .i64 (partV a n o).1, .int .i64 (partV a n o).2])) := by
  cases hb : bothB a n with
  | false =>
    have Hb := Kept.mk hb
    have e : Kept (partV a n o = (0, 1)) := ⟨by unfold partV partB; rw [if_neg (by simp [hb])]⟩
    clear hb
    go_enter Try.func35, Try.ntmps35
    go_wp2_with fail
    refine (both_to a n false _ Hb.out).mono ?_
    rintro e _ ⟨rfl, rfl⟩
    go_wp2_with fail
    go_ret2
    exact ⟨by rw [e.out]; rfl, rfl⟩
  | true =>
    have Hb := Kept.mk hb
    have hr := (bothB_iff a n).1 hb
    have hp := prod_bounds hr
    obtain ⟨⟨a0, a1⟩, n0, n1⟩ := hr
    cases hm : mayB o with
    | false =>
      have Hm := Kept.mk hm
      have e : Kept (partV a n o = (0, 1)) := ⟨by unfold partV partB; rw [if_neg (by simp [hm])]⟩
      clear hb hm hp
      go_enter Try.func35, Try.ntmps35
      go_wp2_with fail
      refine (both_to a n true _ Hb.out).mono ?_
      rintro e _ ⟨rfl, rfl⟩
      go_wp2_with fail
      refine (may_to o false _ Hm.out).mono ?_
      rintro e _ ⟨rfl, rfl⟩
      go_wp2_with fail
      go_ret2
      exact ⟨by rw [e.out]; rfl, rfl⟩
    | true =>
      have Hm := Kept.mk hm
      have ho := (mayB_iff o).1 hm
      obtain ⟨o0, o1⟩ := ho
      by_cases hz : o = 0
      · subst hz
        have e : Kept (partV a n 0 = (0, 1)) := ⟨by unfold partV partB; rw [if_neg (by simp)]⟩
        clear hb hm hp
        go_enter Try.func35, Try.ntmps35
        go_wp2_with fail
        refine (both_to a n true _ Hb.out).mono ?_
        rintro e _ ⟨rfl, rfl⟩
        go_wp2_with fail
        refine (may_to 0 true _ Hm.out).mono ?_
        rintro e _ ⟨rfl, rfl⟩
        go_wp2_with fail
        go_ret2
        exact ⟨by rw [e.out]; rfl, rfl⟩
      · have hz' : (o == 0) = false := by simpa using hz
        have hpos : 0 < o := by omega
        clear hz
        by_cases hlt : o < n
        · have e : Kept (partV a n o = (0, 1)) := ⟨by unfold partV partB; rw [if_neg (by simp [hlt])]⟩
          clear hb hm hp
          go_enter Try.func35, Try.ntmps35
          go_wp2_with fail
          refine (both_to a n true _ Hb.out).mono ?_
          rintro e _ ⟨rfl, rfl⟩
          go_wp2_with fail
          refine (may_to o true _ Hm.out).mono ?_
          rintro e _ ⟨rfl, rfl⟩
          go_wp2_with fail
          go_ret2
          exact ⟨by rw [e.out]; rfl, rfl⟩
        · have e : Kept (partV a n o = (a * n / o, 0)) := ⟨by unfold partV partB; rw [if_pos (by simp [hb, hm, hz', hlt])]⟩
          have f : Kept (wrap64 (Int.tdiv (wrap64 (a * n)) o) = a * n / o) := ⟨by
            rw [w64 (x := a * n) (by omega) (by omega), Int.tdiv_eq_ediv_of_nonneg hp.1]
            have h1 : 0 ≤ a * n / o := Int.ediv_nonneg hp.1 (by omega)
            have h2 : a * n / o ≤ a * n := Int.ediv_le_self o hp.1
            rw [w64 (by omega) (by omega)]⟩
          clear hb hm hp
          go_enter Try.func35, Try.ntmps35
          go_wp2_with fail
          refine (both_to a n true _ Hb.out).mono ?_
          rintro e _ ⟨rfl, rfl⟩
          go_wp2_with fail
          refine (may_to o true _ Hm.out).mono ?_
          rintro e _ ⟨rfl, rfl⟩
          go_wp2_with fail
          go_ret2
          exact ⟨by rw [e.out]; (try rw [f.out]); rfl, rfl⟩
/-! ### the page's -/
theorem rmay_any (a : Int) (w : World) : Calls Try.prog 38 #[.int .i64 a] w (Says w (.bool (mayB a))) := by
  by_cases h0 : 0 ≤ a
  · have e : Kept (mayB a = decide (a ≤ 1000000000)) := ⟨by simp [mayB, h0]⟩
    go_enter Try.func38, Try.ntmps38
    go_wp2
    go_ret
    exact ⟨by rw [e.out]; rfl, rfl⟩
  · have e : Kept (mayB a = false) := ⟨by simp [mayB, h0]⟩
    go_enter Try.func38, Try.ntmps38
    go_wp2
    go_ret
    exact ⟨by rw [e.out]; rfl, rfl⟩
theorem rmay_to (a : Int) (r : Bool) (w : World) (h : mayB a = r) : Calls Try.prog 38 #[.int .i64 a] w (Says w (.bool r)) := by
  subst h; exact rmay_any a w
set_option maxHeartbeats 1000000 in
theorem radd_any (a b : Int) (w : World) : Calls Try.prog 31 #[.int .i64 a, .int .i64 b] w (Says w (.tuple #[.int .i64 (addV a b).1, .int .i64 (addV a b).2])) := by
  cases ha : mayB a with
  | false =>
    have Ha := Kept.mk ha
    have e : Kept (addV a b = (0, 1)) := ⟨by unfold addV bothB; rw [if_neg (by simp [ha])]⟩
    clear ha
    go_enter Try.func31, Try.ntmps31
    go_wp2_with fail
    refine (rmay_to a false _ Ha.out).mono ?_
    rintro e _ ⟨rfl, rfl⟩
    go_wp2_with fail
    go_ret2
    exact ⟨by rw [e.out]; rfl, rfl⟩
  | true =>
    have Ha := Kept.mk ha
    have ra := (mayB_iff a).1 ha
    obtain ⟨a0, a1⟩ := ra
    cases hb : mayB b with
    | false =>
      have Hb := Kept.mk hb
      have e : Kept (addV a b = (0, 1)) := ⟨by unfold addV bothB; rw [if_neg (by simp [hb])]⟩
      clear ha hb
      go_enter Try.func31, Try.ntmps31
      go_wp2_with fail
      refine (rmay_to a true _ Ha.out).mono ?_
      rintro e _ ⟨rfl, rfl⟩
      go_wp2_with fail
      refine (rmay_to b false _ Hb.out).mono ?_
      rintro e _ ⟨rfl, rfl⟩
      go_wp2_with fail
      go_ret2
      exact ⟨by rw [e.out]; rfl, rfl⟩
    | true =>
      have Hb := Kept.mk hb
      have rb := (mayB_iff b).1 hb
      obtain ⟨b0, b1⟩ := rb
      have hbb : bothB a b = true := by simp [bothB, ha, hb]
      by_cases h : a + b > 1000000000
      · have e : Kept (addV a b = (0, 4)) := ⟨by unfold addV; rw [if_pos hbb, if_pos h]⟩
        clear ha hb hbb
        go_enter Try.func31, Try.ntmps31
        go_wp2_with fail
        refine (rmay_to a true _ Ha.out).mono ?_
        rintro e _ ⟨rfl, rfl⟩
        go_wp2_with fail
        refine (rmay_to b true _ Hb.out).mono ?_
        rintro e _ ⟨rfl, rfl⟩
        go_wp2_with fail
        go_ret2
        exact ⟨by rw [e.out]; rfl, rfl⟩
      · have e : Kept (addV a b = (a + b, 0)) := ⟨by unfold addV; rw [if_pos hbb, if_neg h]⟩
        clear ha hb hbb
        go_enter Try.func31, Try.ntmps31
        go_wp2_with fail
        refine (rmay_to a true _ Ha.out).mono ?_
        rintro e _ ⟨rfl, rfl⟩
        go_wp2_with fail
        refine (rmay_to b true _ Hb.out).mono ?_
        rintro e _ ⟨rfl, rfl⟩
        go_wp2_with fail
        go_ret2
        exact ⟨by rw [e.out]; rfl, rfl⟩
set_option maxHeartbeats 1000000 in
theorem rsub_any (a b : Int) (w : World) : Calls Try.prog 33 #[.int .i64 a, .int .i64 b] w (Says w (.tuple #[.int .i64 (subV a b).1, .int .i64 (subV a b).2])) := by
  cases ha : mayB a with
  | false =>
    have Ha := Kept.mk ha
    have e : Kept (subV a b = (0, 1)) := ⟨by unfold subV bothB; rw [if_neg (by simp [ha])]⟩
    clear ha
    go_enter Try.func33, Try.ntmps33
    go_wp2_with fail
    refine (rmay_to a false _ Ha.out).mono ?_
    rintro e _ ⟨rfl, rfl⟩
    go_wp2_with fail
    go_ret2
    exact ⟨by rw [e.out]; rfl, rfl⟩
  | true =>
    have Ha := Kept.mk ha
    have ra := (mayB_iff a).1 ha
    obtain ⟨a0, a1⟩ := ra
    cases hb : mayB b with
    | false =>
      have Hb := Kept.mk hb
      have e : Kept (subV a b = (0, 1)) := ⟨by unfold subV bothB; rw [if_neg (by simp [hb])]⟩
      clear ha hb
      go_enter Try.func33, Try.ntmps33
      go_wp2_with fail
      refine (rmay_to a true _ Ha.out).mono ?_
      rintro e _ ⟨rfl, rfl⟩
      go_wp2_with fail
      refine (rmay_to b false _ Hb.out).mono ?_
      rintro e _ ⟨rfl, rfl⟩
      go_wp2_with fail
      go_ret2
      exact ⟨by rw [e.out]; rfl, rfl⟩
    | true =>
      have Hb := Kept.mk hb
      have rb := (mayB_iff b).1 hb
      obtain ⟨b0, b1⟩ := rb
      have hbb : bothB a b = true := by simp [bothB, ha, hb]
      by_cases h : b > a
      · have e : Kept (subV a b = (0, 9)) := ⟨by unfold subV; rw [if_pos hbb, if_pos h]⟩
        clear ha hb hbb
        go_enter Try.func33, Try.ntmps33
        go_wp2_with fail
        refine (rmay_to a true _ Ha.out).mono ?_
        rintro e _ ⟨rfl, rfl⟩
        go_wp2_with fail
        refine (rmay_to b true _ Hb.out).mono ?_
        rintro e _ ⟨rfl, rfl⟩
        go_wp2_with fail
        go_ret2
        exact ⟨by rw [e.out]; rfl, rfl⟩
      · have e : Kept (subV a b = (a - b, 0)) := ⟨by unfold subV; rw [if_pos hbb, if_neg h]⟩
        clear ha hb hbb
        go_enter Try.func33, Try.ntmps33
        go_wp2_with fail
        refine (rmay_to a true _ Ha.out).mono ?_
        rintro e _ ⟨rfl, rfl⟩
        go_wp2_with fail
        refine (rmay_to b true _ Hb.out).mono ?_
        rintro e _ ⟨rfl, rfl⟩
        go_wp2_with fail
        go_ret2
        exact ⟨by rw [e.out]; rfl, rfl⟩
set_option maxHeartbeats 1000000 in
theorem rmul_any (a b : Int) (w : World) : Calls Try.prog 34 #[.int .i64 a, .int .i64 b] w (Says w (.tuple #[.int .i64 (mulV a b).1, .int .i64 (mulV a b).2])) := by
  cases ha : mayB a with
  | false =>
    have Ha := Kept.mk ha
    have e : Kept (mulV a b = (0, 1)) := ⟨by unfold mulV bothB; rw [if_neg (by simp [ha])]⟩
    clear ha
    go_enter Try.func34, Try.ntmps34
    go_wp2_with fail
    refine (rmay_to a false _ Ha.out).mono ?_
    rintro e _ ⟨rfl, rfl⟩
    go_wp2_with fail
    go_ret2
    exact ⟨by rw [e.out]; rfl, rfl⟩
  | true =>
    have Ha := Kept.mk ha
    have ra := (mayB_iff a).1 ha
    obtain ⟨a0, a1⟩ := ra
    cases hb : mayB b with
    | false =>
      have Hb := Kept.mk hb
      have e : Kept (mulV a b = (0, 1)) := ⟨by unfold mulV bothB; rw [if_neg (by simp [hb])]⟩
      clear ha hb
      go_enter Try.func34, Try.ntmps34
      go_wp2_with fail
      refine (rmay_to a true _ Ha.out).mono ?_
      rintro e _ ⟨rfl, rfl⟩
      go_wp2_with fail
      refine (rmay_to b false _ Hb.out).mono ?_
      rintro e _ ⟨rfl, rfl⟩
      go_wp2_with fail
      go_ret2
      exact ⟨by rw [e.out]; rfl, rfl⟩
    | true =>
      have Hb := Kept.mk hb
      have rb := (mayB_iff b).1 hb
      obtain ⟨b0, b1⟩ := rb
      have hbb : bothB a b = true := by simp [bothB, ha, hb]
      have hp := prod_bounds ⟨⟨a0, a1⟩, b0, b1⟩
      have hw : wrap64 (a * b) = a * b := w64 (by omega) (by omega)
      by_cases h : a * b > 1000000000
      · have e : Kept (mulV a b = (0, 4)) := ⟨by unfold mulV; rw [if_pos hbb, if_pos h]⟩
        clear ha hb hbb
        go_enter Try.func34, Try.ntmps34
        go_wp2_with fail
        refine (rmay_to a true _ Ha.out).mono ?_
        rintro e _ ⟨rfl, rfl⟩
        go_wp2_with fail
        refine (rmay_to b true _ Hb.out).mono ?_
        rintro e _ ⟨rfl, rfl⟩
        go_wp2_with fail
        go_ret2
        exact ⟨by rw [e.out]; rfl, rfl⟩
      · have e : Kept (mulV a b = (a * b, 0)) := ⟨by unfold mulV; rw [if_pos hbb, if_neg h]⟩
        clear ha hb hbb
        go_enter Try.func34, Try.ntmps34
        go_wp2_with fail
        refine (rmay_to a true _ Ha.out).mono ?_
        rintro e _ ⟨rfl, rfl⟩
        go_wp2_with fail
        refine (rmay_to b true _ Hb.out).mono ?_
        rintro e _ ⟨rfl, rfl⟩
        go_wp2_with fail
        go_ret2
        exact ⟨by rw [e.out]; (try rw [hw]); rfl, rfl⟩
set_option maxHeartbeats 1000000 in
theorem rpart_any (a n o : Int) (w : World) : Calls Try.prog 36 #[.int .i64 a, .int .i64 n, .int .i64 o] w (Says w (.tuple #[.int .i64 (partV a n o).1, .int .i64 (partV a n o).2])) := by
  cases ha : mayB a with
  | false =>
    have Ha := Kept.mk ha
    have e : Kept (partV a n o = (0, 1)) := ⟨by unfold partV partB bothB; rw [if_neg (by simp [ha])]⟩
    clear ha
    go_enter Try.func36, Try.ntmps36
    go_wp2_with fail
    refine (rmay_to a false _ Ha.out).mono ?_
    rintro e _ ⟨rfl, rfl⟩
    go_wp2_with fail
    go_ret2
    exact ⟨by rw [e.out]; rfl, rfl⟩
  | true =>
    have Ha := Kept.mk ha
    cases hn : mayB n with
    | false =>
      have Hn := Kept.mk hn
      have e : Kept (partV a n o = (0, 1)) := ⟨by unfold partV partB bothB; rw [if_neg (by simp [hn])]⟩
      clear ha hn
      go_enter Try.func36, Try.ntmps36
      go_wp2_with fail
      refine (rmay_to a true _ Ha.out).mono ?_
      rintro e _ ⟨rfl, rfl⟩
      go_wp2_with fail
      refine (rmay_to n false _ Hn.out).mono ?_
      rintro e _ ⟨rfl, rfl⟩
      go_wp2_with fail
      go_ret2
      exact ⟨by rw [e.out]; rfl, rfl⟩
    | true =>
      have Hn := Kept.mk hn
      have hb : bothB a n = true := by simp [bothB, ha, hn]
      have hr := (bothB_iff a n).1 hb
      have hp := prod_bounds hr
      obtain ⟨⟨a0, a1⟩, n0, n1⟩ := hr
      cases hm : mayB o with
      | false =>
        have Hm := Kept.mk hm
        have e : Kept (partV a n o = (0, 1)) := ⟨by unfold partV partB; rw [if_neg (by simp [hm])]⟩
        clear ha hn hb hm hp
        go_enter Try.func36, Try.ntmps36
        go_wp2_with fail
        refine (rmay_to a true _ Ha.out).mono ?_
        rintro e _ ⟨rfl, rfl⟩
        go_wp2_with fail
        refine (rmay_to n true _ Hn.out).mono ?_
        rintro e _ ⟨rfl, rfl⟩
        go_wp2_with fail
        refine (rmay_to o false _ Hm.out).mono ?_
        rintro e _ ⟨rfl, rfl⟩
        go_wp2_with fail
        go_ret2
        exact ⟨by rw [e.out]; rfl, rfl⟩
      | true =>
        have Hm := Kept.mk hm
        have ho := (mayB_iff o).1 hm
        obtain ⟨o0, o1⟩ := ho
        by_cases hz : o = 0
        · subst hz
          have e : Kept (partV a n 0 = (0, 1)) := ⟨by unfold partV partB; rw [if_neg (by simp)]⟩
          clear ha hn hb hm hp
          go_enter Try.func36, Try.ntmps36
          go_wp2_with fail
          refine (rmay_to a true _ Ha.out).mono ?_
          rintro e _ ⟨rfl, rfl⟩
          go_wp2_with fail
          refine (rmay_to n true _ Hn.out).mono ?_
          rintro e _ ⟨rfl, rfl⟩
          go_wp2_with fail
          refine (rmay_to 0 true _ Hm.out).mono ?_
          rintro e _ ⟨rfl, rfl⟩
          go_wp2_with fail
          go_ret2
          exact ⟨by rw [e.out]; rfl, rfl⟩
        · have hz' : (o == 0) = false := by simpa using hz
          have hpos : 0 < o := by omega
          clear hz
          by_cases hlt : o < n
          · have e : Kept (partV a n o = (0, 1)) := ⟨by unfold partV partB; rw [if_neg (by simp [hlt])]⟩
            clear ha hn hb hm hp
            go_enter Try.func36, Try.ntmps36
            go_wp2_with fail
            refine (rmay_to a true _ Ha.out).mono ?_
            rintro e _ ⟨rfl, rfl⟩
            go_wp2_with fail
            refine (rmay_to n true _ Hn.out).mono ?_
            rintro e _ ⟨rfl, rfl⟩
            go_wp2_with fail
            refine (rmay_to o true _ Hm.out).mono ?_
            rintro e _ ⟨rfl, rfl⟩
            go_wp2_with fail
            go_ret2
            exact ⟨by rw [e.out]; rfl, rfl⟩
          · have e : Kept (partV a n o = (a * n / o, 0)) := ⟨by unfold partV partB; rw [if_pos (by simp [hb, hm, hz', hlt])]⟩
            have f : Kept (wrap64 (Int.tdiv (wrap64 (a * n)) o) = a * n / o) := ⟨by
              rw [w64 (x := a * n) (by omega) (by omega), Int.tdiv_eq_ediv_of_nonneg hp.1]
              have h1 : 0 ≤ a * n / o := Int.ediv_nonneg hp.1 (by omega)
              have h2 : a * n / o ≤ a * n := Int.ediv_le_self o hp.1
              rw [w64 (by omega) (by omega)]⟩
            clear ha hn hb hm hp
            go_enter Try.func36, Try.ntmps36
            go_wp2_with fail
            refine (rmay_to a true _ Ha.out).mono ?_
            rintro e _ ⟨rfl, rfl⟩
            go_wp2_with fail
            refine (rmay_to n true _ Hn.out).mono ?_
            rintro e _ ⟨rfl, rfl⟩
            go_wp2_with fail
            refine (rmay_to o true _ Hm.out).mono ?_
            rintro e _ ⟨rfl, rfl⟩
            go_wp2_with fail
            go_ret2
            exact ⟨by rw [e.out]; (try rw [f.out]); rfl, rfl⟩
end Go.Proofs.Ytacnekeakicdeaa
