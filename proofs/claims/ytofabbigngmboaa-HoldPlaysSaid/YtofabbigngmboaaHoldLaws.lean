/- The laws of layer 7 that name no row of ids, walked: HoldApart and HoldSums. -/
import Derived.Test.YtofabbigngmboaaHold
import Derived.Test.YtofabbigngmboaaOpen
namespace Go.Proofs.Ytofabbigngmboaa
open Go.RowKit
theorem holdNew_to (a : Int) (s : Hd) (w : World) (h : Hd.new a = s) : Calls Try.prog 15 #[.int .i64 a] w (Rets w (fun _ => False) (.pointer (some ⟨w.heap.size + 1, 0, none⟩)) fun w' => HdAt w' (w.heap.size + 1) w.heap.size s ∧ w'.heap.size = w.heap.size + 2) := by
  subst h; exact holdNew_any a w
theorem take_to (p m : Nat) (s s' : Hd) (id n r : Int) (w : World) (h : HdAt w p m s) (ok : s.Ok) (hr : s.take id n = (r, s')) : Calls Try.prog 16 #[.pointer (some ⟨p, 0, none⟩), .int .i64 id, .int .i64 n] w (HdTo w p m (r, s')) := by
  rw [← hr]; exact take_any p m s id n w h ok
theorem back_to (p m : Nat) (s s' : Hd) (id r : Int) (w : World) (h : HdAt w p m s) (ok : s.Ok) (hr : s.back id = (r, s')) : Calls Try.prog 17 #[.pointer (some ⟨p, 0, none⟩), .int .i64 id] w (HdTo w p m (r, s')) := by
  rw [← hr]; exact back_any p m s id w h ok
theorem left_to (p m : Nat) (s : Hd) (x : Int) (w : World) (h : HdAt w p m s) (hx : s.l = x) : Calls Try.prog 18 #[.pointer (some ⟨p, 0, none⟩)] w (Says w (.int .i64 x)) := by
  subst hx; exact left_any p m s w h
theorem has_to (p m : Nat) (s : Hd) (id x : Int) (r : Bool) (w : World) (h : HdAt w p m s) (hx : s.at id = x) (hr : (MP.get s.L id).isSome = r) : Calls Try.prog 19 #[.pointer (some ⟨p, 0, none⟩), .int .i64 id] w (Says w (.tuple #[.int .i64 x, .bool r])) := by
  subst hx; subst hr; exact has_any p m s id w h
theorem Hd.take_yes {s : Hd} {id n : Int} (ha : Hd.argOk id n = true) (h0 : s.at id ≤ 0) (hl : n ≤ s.l) : s.take id n = (0, ⟨s.l - n, MP.put s.L id n⟩) := by
  unfold Hd.take; rw [if_pos ha, if_neg (by omega), if_neg (by omega)]
theorem Hd.take_twice {s : Hd} {id n : Int} (ha : Hd.argOk id n = true) (h0 : 0 < s.at id) : s.take id n = (8, s) := by
  unfold Hd.take; rw [if_pos ha, if_pos h0]
theorem Hd.take_less {s : Hd} {id n : Int} (ha : Hd.argOk id n = true) (h0 : s.at id ≤ 0) (hl : s.l < n) : s.take id n = (9, s) := by
  unfold Hd.take; rw [if_pos ha, if_neg (by omega), if_pos hl]
theorem Hd.back_yes {s : Hd} {id : Int} (h0 : s.at id ≠ 0) : s.back id = (0, ⟨s.l + s.at id, MP.del s.L id⟩) := by
  unfold Hd.back; rw [if_neg h0]
theorem Hd.back_none {s : Hd} {id : Int} (h0 : s.at id = 0) : s.back id = (6, s) := by
  unfold Hd.back; rw [if_pos h0]
theorem at_nil (l id : Int) : (Hd.mk l []).at id = 0 := rfl
theorem at_one (l id v x : Int) : (Hd.mk l [(id, v)]).at x = if x = id then v else 0 := by
  simp only [Hd.at, MP.get_cons, MP.get_nil]
  split <;> rfl
theorem hd5 : Hd.new 5 = ⟨5, []⟩ := by
  have : max 0 (min 5 1000000000) = (5 : Int) := by omega
  simp only [Hd.new, this]
theorem ok5 : (Hd.mk 5 []).Ok := by have := Hd.new_ok 5; rw [hd5] at this; exact this
theorem t1 : (Hd.mk 5 []).take 1 3 = (0, ⟨2, [(1, 3)]⟩) := by rfl
theorem ok2 : (Hd.mk 2 [(1, 3)]).Ok := by have := Hd.take_ok ok5 1 3; rw [t1] at this; exact this
theorem t2 : (Hd.mk 2 [(1, 3)]).take 2 3 = (9, ⟨2, [(1, 3)]⟩) := by rfl
theorem b1 : (Hd.mk 2 [(1, 3)]).back 1 = (0, ⟨5, []⟩) := by rfl
set_option maxHeartbeats 1000000 in
theorem awake_any (w : World) : Calls Try.prog 14 #[] w (Yes w) := by
  go_enter Try.func14, Try.ntmps14
  go_wp2_with fail
  refine (holdNew_to 5 _ _ hd5).mono ?_
  rintro e w1 ⟨rfl, ⟨h1, s1⟩, k1⟩
  go_wp2_with fail
  refine (take_to _ _ _ _ _ _ _ _ h1 ok5 t1).mono ?_
  rintro e w2 ⟨rfl, ⟨h2, s2⟩, k2⟩
  go_wp2_with fail
  refine (take_to _ _ _ _ _ _ _ _ h2 ok2 t2).mono ?_
  rintro e w3 ⟨rfl, ⟨h3, s3⟩, k3⟩
  go_wp2_with fail
  refine (left_to _ _ _ 2 _ h3 rfl).mono ?_
  rintro e _ ⟨rfl, rfl⟩
  go_wp2_with fail
  refine (back_to _ _ _ _ _ _ _ h3 ok2 b1).mono ?_
  rintro e w4 ⟨rfl, ⟨h4, s4⟩, k4⟩
  go_wp2_with fail
  refine (left_to _ _ _ 5 _ h4 rfl).mono ?_
  rintro e _ ⟨rfl, rfl⟩
  go_wp2_with fail
  go_ret
  refine ⟨rfl, ?_⟩
  have K := (k2.trans k3).trans k4
  exact (k1.below (Nat.le_refl _) (fun _ h => h.elim)).trans (K.below k1.size (fun k e => by omega))

theorem apart_plain (A B N M X : Int) (hA : 1 ≤ A ∧ A ≤ 999) (hB : 1 ≤ B ∧ B ≤ 999) (hN : 1 ≤ N ∧ N ≤ 1000) (hM : 1 ≤ M ∧ M ≤ 1000) (hne : A ≠ B) (h1 : N ≤ X) (h2 : M ≤ X) (h3 : X ≤ 1000 ∧ (X = N ∨ X = M)) :
    (Hd.mk X []).Ok ∧ (Hd.mk (X - N) [(A, N)]).Ok ∧ Kept (Hd.new X = ⟨X, []⟩) ∧ Kept ((Hd.mk X []).take A N = (0, ⟨X - N, [(A, N)]⟩)) ∧ Kept ((Hd.mk (X - N) [(A, N)]).take A 1 = (8, ⟨X - N, [(A, N)]⟩)) ∧
    Kept ((Hd.mk (X - N) [(A, N)]).take B M = (9, ⟨X - N, [(A, N)]⟩)) ∧ Kept ((Hd.mk (X - N) [(A, N)]).back A = (0, ⟨X, []⟩)) ∧ Kept ((Hd.mk X []).take B M = (0, ⟨X - M, [(B, M)]⟩)) := by
  have hs0 : Hd.new X = ⟨X, []⟩ := by
    have : max 0 (min X 1000000000) = X := by omega
    simp only [Hd.new, this]
  have ok0 : (Hd.mk X []).Ok := by have := Hd.new_ok X; rw [hs0] at this; exact this
  have ha1 : Hd.argOk A N = true := by rw [Hd.argOk_iff]; omega
  have ha2 : Hd.argOk A 1 = true := by rw [Hd.argOk_iff]; omega
  have hb1 : Hd.argOk B M = true := by rw [Hd.argOk_iff]; omega
  have q1 : (Hd.mk X []).take A N = (0, ⟨X - N, [(A, N)]⟩) := Hd.take_yes ha1 (by rw [at_nil]; omega) h1
  have ok1 : (Hd.mk (X - N) [(A, N)]).Ok := by have := Hd.take_ok ok0 A N; rw [q1] at this; exact this
  have g1 : (Hd.mk (X - N) [(A, N)]).at A = N := by rw [at_one, if_pos rfl]
  have g2 : (Hd.mk (X - N) [(A, N)]).at B = 0 := by rw [at_one, if_neg (Ne.symm hne)]
  have q2 : (Hd.mk (X - N) [(A, N)]).take A 1 = (8, ⟨X - N, [(A, N)]⟩) := Hd.take_twice ha2 (by rw [g1]; omega)
  have q5 : (Hd.mk X []).take B M = (0, ⟨X - M, [(B, M)]⟩) := Hd.take_yes hb1 (by rw [at_nil]; omega) h2
  have q3 : (Hd.mk (X - N) [(A, N)]).take B M = (9, ⟨X - N, [(A, N)]⟩) := Hd.take_less hb1 (by rw [g2]; omega) (by simp only; omega)
  have q4 : (Hd.mk (X - N) [(A, N)]).back A = (0, ⟨X, []⟩) := by
    rw [Hd.back_yes (by rw [g1]; omega), g1]
    simp [MP.del]
  exact ⟨ok0, ok1, ⟨hs0⟩, ⟨q1⟩, ⟨q2⟩, ⟨q3⟩, ⟨q4⟩, ⟨q5⟩⟩
set_option maxRecDepth 100000 in
set_option maxHeartbeats 2000000 in
theorem apart_any (a b n m : Int) (w : World) : Calls Try.prog 3 #[.int .i64 a, .int .i64 b, .int .i64 n, .int .i64 m] w (Yes w) := by
  have hA := mod_above a 999 1 (by omega) (by omega) (by omega) (by omega)
  have hB := mod_above b 999 1 (by omega) (by omega) (by omega) (by omega)
  have hN := mod_above n 1000 1 (by omega) (by omega) (by omega) (by omega)
  have hM := mod_above m 1000 1 (by omega) (by omega) (by omega) (by omega)
  cases hab : (wrap64 (1 + wrap64 ((IntKind.u64.wrap a).tmod 999)) == wrap64 (1 + wrap64 ((IntKind.u64.wrap b).tmod 999))) with
  | true =>
    go_enter Try.func3, Try.ntmps3
    go_wp2_with fail
    refine (awake_any _).mono ?_
    rintro e w2 ⟨rfl, b2⟩
    go_wp2_with fail
    go_ret
    exact ⟨rfl, b2⟩
  | false =>
    by_cases hnm : wrap64 (1 + wrap64 ((IntKind.u64.wrap n).tmod 1000)) < wrap64 (1 + wrap64 ((IntKind.u64.wrap m).tmod 1000))
    · go_enter Try.func3, Try.ntmps3
      go_wp2_with fail
      generalize wrap64 (1 + wrap64 ((IntKind.u64.wrap a).tmod 999)) = A at hA hab ⊢
      generalize wrap64 (1 + wrap64 ((IntKind.u64.wrap b).tmod 999)) = B at hB hab ⊢
      generalize wrap64 (1 + wrap64 ((IntKind.u64.wrap n).tmod 1000)) = N at hN hnm ⊢
      generalize wrap64 (1 + wrap64 ((IntKind.u64.wrap m).tmod 1000)) = M at hM hnm ⊢
      have hne : A ≠ B := by simpa using hab
      obtain ⟨ok0, ok1, Hs0, Hq1, Hq2, Hq3, Hq4, Hq5⟩ := apart_plain A B N M M (by omega) (by omega) (by omega) (by omega) hne (by omega) (by omega) (by omega)
      clear hne
      refine (holdNew_to M _ _ Hs0.out).mono ?_
      rintro e w1 ⟨rfl, ⟨h1, s1⟩, k1⟩
      go_wp2_with fail
      refine (take_to _ _ _ _ _ _ _ _ h1 ok0 Hq1.out).mono ?_
      rintro e w2 ⟨rfl, ⟨h2, s2⟩, k2⟩
      go_wp2_with fail
      refine (take_to _ _ _ _ _ _ _ _ h2 ok1 Hq2.out).mono ?_
      rintro e w3 ⟨rfl, ⟨h3, s3⟩, k3⟩
      go_wp2_with fail
      refine (take_to _ _ _ _ _ _ _ _ h3 ok1 Hq3.out).mono ?_
      rintro e w4 ⟨rfl, ⟨h4, s4⟩, k4⟩
      go_wp2_with fail
      refine (back_to _ _ _ _ _ _ _ h4 ok1 Hq4.out).mono ?_
      rintro e w5 ⟨rfl, ⟨h5, s5⟩, k5⟩
      go_wp2_with fail
      refine (take_to _ _ _ _ _ _ _ _ h5 ok0 Hq5.out).mono ?_
      rintro e w6 ⟨rfl, ⟨h6, s6⟩, k6⟩
      have K := (((k2.trans k3).trans k4).trans k5).trans k6
      have B6 : Below w.heap.size w w6 := (k1.below (Nat.le_refl _) (fun _ h => h.elim)).trans (K.below k1.size (fun k e => by omega))
      clear k1 k2 k3 k4 k5 k6 K
      have d1 : decide (M ≤ M - N) = false := by simp; omega
      have d2 : decide (M ≤ 0) = false := by simp; omega
      go_wp2_with fail
      refine (awake_any _).mono ?_
      rintro e w7 ⟨rfl, b7⟩
      go_wp2_with fail
      go_ret
      exact ⟨rfl, B6.trans (b7.mono B6.size)⟩
    · go_enter Try.func3, Try.ntmps3
      go_wp2_with fail
      generalize wrap64 (1 + wrap64 ((IntKind.u64.wrap a).tmod 999)) = A at hA hab ⊢
      generalize wrap64 (1 + wrap64 ((IntKind.u64.wrap b).tmod 999)) = B at hB hab ⊢
      generalize wrap64 (1 + wrap64 ((IntKind.u64.wrap n).tmod 1000)) = N at hN hnm ⊢
      generalize wrap64 (1 + wrap64 ((IntKind.u64.wrap m).tmod 1000)) = M at hM hnm ⊢
      have hne : A ≠ B := by simpa using hab
      obtain ⟨ok0, ok1, Hs0, Hq1, Hq2, Hq3, Hq4, Hq5⟩ := apart_plain A B N M N (by omega) (by omega) (by omega) (by omega) hne (by omega) (by omega) (by omega)
      clear hne
      refine (holdNew_to N _ _ Hs0.out).mono ?_
      rintro e w1 ⟨rfl, ⟨h1, s1⟩, k1⟩
      go_wp2_with fail
      refine (take_to _ _ _ _ _ _ _ _ h1 ok0 Hq1.out).mono ?_
      rintro e w2 ⟨rfl, ⟨h2, s2⟩, k2⟩
      go_wp2_with fail
      refine (take_to _ _ _ _ _ _ _ _ h2 ok1 Hq2.out).mono ?_
      rintro e w3 ⟨rfl, ⟨h3, s3⟩, k3⟩
      go_wp2_with fail
      refine (take_to _ _ _ _ _ _ _ _ h3 ok1 Hq3.out).mono ?_
      rintro e w4 ⟨rfl, ⟨h4, s4⟩, k4⟩
      go_wp2_with fail
      refine (back_to _ _ _ _ _ _ _ h4 ok1 Hq4.out).mono ?_
      rintro e w5 ⟨rfl, ⟨h5, s5⟩, k5⟩
      go_wp2_with fail
      refine (take_to _ _ _ _ _ _ _ _ h5 ok0 Hq5.out).mono ?_
      rintro e w6 ⟨rfl, ⟨h6, s6⟩, k6⟩
      have K := (((k2.trans k3).trans k4).trans k5).trans k6
      have B6 : Below w.heap.size w w6 := (k1.below (Nat.le_refl _) (fun _ h => h.elim)).trans (K.below k1.size (fun k e => by omega))
      clear k1 k2 k3 k4 k5 k6 K
      have d1 : decide (M ≤ M - N) = false := by simp; omega
      have d2 : decide (M ≤ 0) = false := by simp; omega
      go_wp2_with fail
      refine (awake_any _).mono ?_
      rintro e w7 ⟨rfl, b7⟩
      go_wp2_with fail
      go_ret
      exact ⟨rfl, B6.trans (b7.mono B6.size)⟩
end Go.Proofs.Ytofabbigngmboaa
