-- PRINTED BY print.sh 35421559b90ae4d0a3588c463048766b98c2df88dd9212a6774a882060cdf62d: not written by this session
import Derived.Test.YtacnekeakicdeaaPAmountUndonex0
import Derived.Test.YtacnekeakicdeaaPAmountUndonex1
namespace Go.Proofs.Ytacnekeakicdeaa.PAmountUndone
open Go.RowKit Go.Proofs.YtacnekeakicdeaaW.PrintWords Go.Proofs.YtacnekeakicdeaaW.PrintLast Go.Proofs.YtacnekeakicdeaaW.PrintMore
attribute [local go_sem] max2_int min2_int max_two min_two max_three min_three max_four min_four   -- for this text's walks alone
set_option linter.unusedVariables false
set_option linter.unusedSimpArgs false

/-! ### wharfingerlaw1_AmountUndone: function 12 -/
mutual
def wharfingerlaw1_AmountUndone.j0 : Nat → Int → Int → Int → Option (Bool)
  | 0, _, _, _ => none
  | k + 1, x0, x1, x2 => (amount_Split.f k x0 x2).bind fun t132 => ((amount_Sum.f k t132).bind fun bt135 => ((amount_Part.f x0 (mn x2 x1) (mx x1 1)).bind fun bt137 => (if x1 = 0 then (wharfingerlaw1_AmountUndone.j1 k x0 x1 x2 bt135.1 bt135.2 bt137.1 bt137.2 true) else (wharfingerlaw1_AmountUndone.j1 k x0 x1 x2 bt135.1 bt135.2 bt137.1 bt137.2 (decide (x2 > x1))))))
def wharfingerlaw1_AmountUndone.j1 : Nat → Int → Int → Int → Int → Int → Int → Int → Bool → Option (Bool)
  | 0, _, _, _, _, _, _, _, _ => none
  | k + 1, x0, x1, x2, x11, x12, x13, x14, x92 => if x92 = true then (if x12 = 0 then (if x11 = x0 then ((wharfingerlaw1_awake.f k).bind fun t139 => (some t139)) else (some false)) else (some false)) else ((amount_Part.f x0 (wrap64 (x1 - x2)) x1).bind fun bt140 => (if x12 = 0 then (if x11 = x0 then (if x14 = 0 then (if bt140.2 = 0 then (if (wrap64 (x13 + bt140.1)) ≤ x0 then (if (wrap64 (x13 + bt140.1)) ≥ (wrap64 (x0 - 1)) then ((wharfingerlaw1_awake.f k).bind fun t142 => (some t142)) else (some false)) else (some false)) else (some false)) else (some false)) else (some false)) else (some false)))
end
def wharfingerlaw1_AmountUndone.f (k : Nat) (a0 : Int) (a1 : Int) (a2 : Int) : Option (Bool) := (amount_Add.f (wrap64 (Int.tmod (IntKind.u64.wrap (a0)) 1000000001)) (wrap64 (Int.tmod (IntKind.u64.wrap (a1)) 1000000001))).bind fun bt128 => (if bt128.2 = 0 then ((amount_Sub.f bt128.1 (wrap64 (Int.tmod (IntKind.u64.wrap (a1)) 1000000001))).bind fun bt130 => (if bt130.2 = 0 then (if bt130.1 = (wrap64 (Int.tmod (IntKind.u64.wrap (a0)) 1000000001)) then (if bt128.1 < (wrap64 (Int.tmod (IntKind.u64.wrap (a0)) 1000000001)) then (some false) else (if bt128.1 < (wrap64 (Int.tmod (IntKind.u64.wrap (a1)) 1000000001)) then (some false) else (wharfingerlaw1_AmountUndone.j0 k (wrap64 (Int.tmod (IntKind.u64.wrap (a0)) 1000000001)) (wrap64 (Int.tmod (IntKind.u64.wrap (a1)) 1000000001)) (wrap64 (1 + (wrap64 (Int.tmod (IntKind.u64.wrap (a2)) 64))))))) else (some false)) else (some false))) else (if bt128.2 = 4 then (if (wrap64 (Int.tmod (IntKind.u64.wrap (a0)) 1000000001)) ≤ (wrap64 (1000000000 - (wrap64 (Int.tmod (IntKind.u64.wrap (a1)) 1000000001)))) then (some false) else (wharfingerlaw1_AmountUndone.j0 k (wrap64 (Int.tmod (IntKind.u64.wrap (a0)) 1000000001)) (wrap64 (Int.tmod (IntKind.u64.wrap (a1)) 1000000001)) (wrap64 (1 + (wrap64 (Int.tmod (IntKind.u64.wrap (a2)) 64)))))) else (some false)))
theorem wharfingerlaw1_AmountUndone.mono_l : ∀ k, (∀ y0 y1 y2, LeO (wharfingerlaw1_AmountUndone.j0 k y0 y1 y2) (wharfingerlaw1_AmountUndone.j0 (k + 1) y0 y1 y2)) ∧ (∀ y0 y1 y2 y3 y4 y5 y6 y7, LeO (wharfingerlaw1_AmountUndone.j1 k y0 y1 y2 y3 y4 y5 y6 y7) (wharfingerlaw1_AmountUndone.j1 (k + 1) y0 y1 y2 y3 y4 y5 y6 y7))
  | 0 => ⟨fun _ _ _ r h => by simp [wharfingerlaw1_AmountUndone.j0] at h, fun _ _ _ _ _ _ _ _ r h => by simp [wharfingerlaw1_AmountUndone.j1] at h⟩
  | k + 1 => by
    obtain ⟨ih0, ih1⟩ := wharfingerlaw1_AmountUndone.mono_l k
    refine ⟨?_, ?_⟩
    · intro y0 y1 y2
      unfold wharfingerlaw1_AmountUndone.j0
      repeat' first
      | (with_reducible exact ih0 _ _ _)
      | (with_reducible exact ih1 _ _ _ _ _ _ _ _)
      | (with_reducible exact amount_Split.mono _ _ _)
      | (with_reducible exact amount_Sum.mono _ _)
      | (with_reducible exact wharfingerlaw1_awake.mono _)
      | (with_reducible exact LeO.refl _)
      | (with_reducible exact LeO.none _)
      | (with_reducible refine LeO.ite ?_ ?_)
      | (with_reducible refine LeO.bind ?_ (fun _ => ?_))
      | exact ih0 _ _ _
      | exact ih1 _ _ _ _ _ _ _ _
      | exact amount_Split.mono _ _ _
      | exact amount_Sum.mono _ _
      | exact wharfingerlaw1_awake.mono _
      | exact LeO.none _
      | refine LeO.ite ?_ ?_
      | refine LeO.bind ?_ (fun _ => ?_)
    · intro y0 y1 y2 y3 y4 y5 y6 y7
      unfold wharfingerlaw1_AmountUndone.j1
      repeat' first
      | (with_reducible exact ih0 _ _ _)
      | (with_reducible exact ih1 _ _ _ _ _ _ _ _)
      | (with_reducible exact amount_Split.mono _ _ _)
      | (with_reducible exact amount_Sum.mono _ _)
      | (with_reducible exact wharfingerlaw1_awake.mono _)
      | (with_reducible exact LeO.refl _)
      | (with_reducible exact LeO.none _)
      | (with_reducible refine LeO.ite ?_ ?_)
      | (with_reducible refine LeO.bind ?_ (fun _ => ?_))
      | exact ih0 _ _ _
      | exact ih1 _ _ _ _ _ _ _ _
      | exact amount_Split.mono _ _ _
      | exact amount_Sum.mono _ _
      | exact wharfingerlaw1_awake.mono _
      | exact LeO.none _
      | refine LeO.ite ?_ ?_
      | refine LeO.bind ?_ (fun _ => ?_)
theorem wharfingerlaw1_AmountUndone.mono : ∀ a0 a1 a2 k, LeO (wharfingerlaw1_AmountUndone.f k a0 a1 a2) (wharfingerlaw1_AmountUndone.f (k + 1) a0 a1 a2) := by
  intro a0 a1 a2 k
  obtain ⟨ih0, ih1⟩ := wharfingerlaw1_AmountUndone.mono_l k
  unfold wharfingerlaw1_AmountUndone.f
  repeat' first
      | (with_reducible exact ih0 _ _ _)
      | (with_reducible exact ih1 _ _ _ _ _ _ _ _)
      | (with_reducible exact amount_Split.mono _ _ _)
      | (with_reducible exact amount_Sum.mono _ _)
      | (with_reducible exact wharfingerlaw1_awake.mono _)
      | (with_reducible exact LeO.refl _)
      | (with_reducible exact LeO.none _)
      | (with_reducible refine LeO.ite ?_ ?_)
      | (with_reducible refine LeO.bind ?_ (fun _ => ?_))
      | exact ih0 _ _ _
      | exact ih1 _ _ _ _ _ _ _ _
      | exact amount_Split.mono _ _ _
      | exact amount_Sum.mono _ _
      | exact wharfingerlaw1_awake.mono _
      | exact LeO.none _
      | refine LeO.ite ?_ ?_
      | refine LeO.bind ?_ (fun _ => ?_)
set_option maxHeartbeats 8000000 in
set_option maxRecDepth 100000 in
theorem wharfingerlaw1_AmountUndone.calls (k : Nat) (a0 : Int) (a1 : Int) (a2 : Int) (r : Bool) (w : World) (h : wharfingerlaw1_AmountUndone.f k a0 a1 a2 = some r) :
    Calls Try.prog 12 #[.int .i64 a0, .int .i64 a1, .int .i64 a2] w fun e w' => e = .returned (.bool r) ∧ Below w.heap.size w w' := by
  have HB := Aside0.mk (Below.refl w.heap.size w)
  have H : ((amount_Add.f (wrap64 (Int.tmod (IntKind.u64.wrap (a0)) 1000000001)) (wrap64 (Int.tmod (IntKind.u64.wrap (a1)) 1000000001))).bind fun bt128 => (if bt128.2 = 0 then ((amount_Sub.f bt128.1 (wrap64 (Int.tmod (IntKind.u64.wrap (a1)) 1000000001))).bind fun bt130 => (if bt130.2 = 0 then (if bt130.1 = (wrap64 (Int.tmod (IntKind.u64.wrap (a0)) 1000000001)) then (if bt128.1 < (wrap64 (Int.tmod (IntKind.u64.wrap (a0)) 1000000001)) then (some false) else (if bt128.1 < (wrap64 (Int.tmod (IntKind.u64.wrap (a1)) 1000000001)) then (some false) else (wharfingerlaw1_AmountUndone.j0 k (wrap64 (Int.tmod (IntKind.u64.wrap (a0)) 1000000001)) (wrap64 (Int.tmod (IntKind.u64.wrap (a1)) 1000000001)) (wrap64 (1 + (wrap64 (Int.tmod (IntKind.u64.wrap (a2)) 64))))))) else (some false)) else (some false))) else (if bt128.2 = 4 then (if (wrap64 (Int.tmod (IntKind.u64.wrap (a0)) 1000000001)) ≤ (wrap64 (1000000000 - (wrap64 (Int.tmod (IntKind.u64.wrap (a1)) 1000000001)))) then (some false) else (wharfingerlaw1_AmountUndone.j0 k (wrap64 (Int.tmod (IntKind.u64.wrap (a0)) 1000000001)) (wrap64 (Int.tmod (IntKind.u64.wrap (a1)) 1000000001)) (wrap64 (1 + (wrap64 (Int.tmod (IntKind.u64.wrap (a2)) 64)))))) else (some false)))) = some r := h
  clear h
  replace H := Option.bind_eq_some_iff.mp H
  obtain ⟨⟨t128, t129⟩, A40, H⟩ := H
  replace H : (if t129 = 0 then ((amount_Sub.f t128 (wrap64 (Int.tmod (IntKind.u64.wrap (a1)) 1000000001))).bind fun bt130 => (if bt130.2 = 0 then (if bt130.1 = (wrap64 (Int.tmod (IntKind.u64.wrap (a0)) 1000000001)) then (if t128 < (wrap64 (Int.tmod (IntKind.u64.wrap (a0)) 1000000001)) then (some false) else (if t128 < (wrap64 (Int.tmod (IntKind.u64.wrap (a1)) 1000000001)) then (some false) else (wharfingerlaw1_AmountUndone.j0 k (wrap64 (Int.tmod (IntKind.u64.wrap (a0)) 1000000001)) (wrap64 (Int.tmod (IntKind.u64.wrap (a1)) 1000000001)) (wrap64 (1 + (wrap64 (Int.tmod (IntKind.u64.wrap (a2)) 64))))))) else (some false)) else (some false))) else (if t129 = 4 then (if (wrap64 (Int.tmod (IntKind.u64.wrap (a0)) 1000000001)) ≤ (wrap64 (1000000000 - (wrap64 (Int.tmod (IntKind.u64.wrap (a1)) 1000000001)))) then (some false) else (wharfingerlaw1_AmountUndone.j0 k (wrap64 (Int.tmod (IntKind.u64.wrap (a0)) 1000000001)) (wrap64 (Int.tmod (IntKind.u64.wrap (a1)) 1000000001)) (wrap64 (1 + (wrap64 (Int.tmod (IntKind.u64.wrap (a2)) 64)))))) else (some false))) = some r := H
  have A4 := Aside0.mk A40
  clear A40
  have HC5 := Aside0.mk H
  clear H
  go_enter Try.func12, Try.ntmps12
  go_upto_if 37 with (first | ((with_reducible refine gate_callee (f := 29) rfl ?_); refine goesL_ (some 33) rfl rfl Try.func29 (by kernel_rfl) rfl #[.int .i64 (wrap64 (Int.tmod (IntKind.u64.wrap (a0)) 1000000001)), .int .i64 (wrap64 (Int.tmod (IntKind.u64.wrap (a1)) 1000000001))] rfl (by (try simp only [List.map_toArray, List.map_cons, List.map_nil]); first | done | rfl | (simp only [List.length_drop, List.length_take]; rfl)) ?_; (with_reducible refine (amount_Add.calls (wrap64 (Int.tmod (IntKind.u64.wrap (a0)) 1000000001)) (wrap64 (Int.tmod (IntKind.u64.wrap (a1)) 1000000001)) t128 t129 _ A4.out).mono ?_); rintro e w' ⟨rfl, ⟨nd, rfl⟩⟩; refine ⟨_, rfl, ?_⟩))
  (try simp only [Act.put, List.setIfInBounds_toArray, List.set_cons_zero, List.set_cons_succ])
  go_cut [] (fun wc => ∃ (kq : Nat), Aside0 (wharfingerlaw1_AmountUndone.j0 kq (wrap64 (Int.tmod (IntKind.u64.wrap (a0)) 1000000001)) (wrap64 (Int.tmod (IntKind.u64.wrap (a1)) 1000000001)) (wrap64 (1 + (wrap64 (Int.tmod (IntKind.u64.wrap (a2)) 64)))) = some r) ∧ Aside0 (kq ≤ k) ∧ Aside0 (Below w.heap.size w wc))
  case first =>
    have H := HC5.out
    clear HC5
    by_cases c6 : t129 = 0
    · rw [if_pos c6] at H
      have c6b0 : (t129 == 0) = true := beq_iff_eq.mpr c6
      have c6b1 : (t129 != 0) = false := bne_eq_false_iff_eq.mpr c6
      clear c6
      (first | rw [c6b0] | (simp only [i64_w, i32_w]; rw [c6b0]) | skip)
      replace H := Option.bind_eq_some_iff.mp H
      obtain ⟨⟨t130, t131⟩, A70, H⟩ := H
      replace H : (if t131 = 0 then (if t130 = (wrap64 (Int.tmod (IntKind.u64.wrap (a0)) 1000000001)) then (if t128 < (wrap64 (Int.tmod (IntKind.u64.wrap (a0)) 1000000001)) then (some false) else (if t128 < (wrap64 (Int.tmod (IntKind.u64.wrap (a1)) 1000000001)) then (some false) else (wharfingerlaw1_AmountUndone.j0 k (wrap64 (Int.tmod (IntKind.u64.wrap (a0)) 1000000001)) (wrap64 (Int.tmod (IntKind.u64.wrap (a1)) 1000000001)) (wrap64 (1 + (wrap64 (Int.tmod (IntKind.u64.wrap (a2)) 64))))))) else (some false)) else (some false)) = some r := H
      have A7 := Aside0.mk A70
      clear A70
      by_cases c8 : t131 = 0
      · rw [if_pos c8] at H
        have c8b0 : (t131 == 0) = true := beq_iff_eq.mpr c8
        have c8b1 : (t131 != 0) = false := bne_eq_false_iff_eq.mpr c8
        clear c8
        by_cases c9 : t130 = (wrap64 (Int.tmod (IntKind.u64.wrap (a0)) 1000000001))
        · rw [if_pos c9] at H
          have c9b0 : (t130 == (wrap64 (Int.tmod (IntKind.u64.wrap (a0)) 1000000001))) = true := beq_iff_eq.mpr c9
          have c9b1 : (t130 != (wrap64 (Int.tmod (IntKind.u64.wrap (a0)) 1000000001))) = false := bne_eq_false_iff_eq.mpr c9
          clear c9
          by_cases c10 : t128 < (wrap64 (Int.tmod (IntKind.u64.wrap (a0)) 1000000001))
          · rw [if_pos c10] at H
            have c10b0 : decide (t128 < (wrap64 (Int.tmod (IntKind.u64.wrap (a0)) 1000000001))) = true := decide_eq_true c10
            clear c10
            obtain rfl := Option.some.inj H
            go_wp2_with (first | ((with_reducible refine gate_callee (f := 32) rfl ?_); refine goesL_ (some 41) rfl rfl Try.func32 (by kernel_rfl) rfl #[.int .i64 t128, .int .i64 (wrap64 (Int.tmod (IntKind.u64.wrap (a1)) 1000000001))] rfl (by (try simp only [List.map_toArray, List.map_cons, List.map_nil]); first | done | rfl | (simp only [List.length_drop, List.length_take]; rfl)) ?_; (with_reducible refine (amount_Sub.calls t128 (wrap64 (Int.tmod (IntKind.u64.wrap (a1)) 1000000001)) t130 t131 _ A7.out).mono ?_); rintro e w' ⟨rfl, ⟨nd, rfl⟩⟩; refine ⟨_, rfl, ?_⟩))
            go_ret
            exact ⟨by first | rfl | (simp [errW_none, errW_some] <;> rfl) | (simp [*, errW_none, errW_some] <;> rfl), by repeat (first | (with_reducible first | exact HB.out | apply below_alloc | apply pw_below_drewN | apply below_drew1) | exact HB.out)⟩
          · rw [if_neg c10] at H
            have c10b0 : decide (t128 < (wrap64 (Int.tmod (IntKind.u64.wrap (a0)) 1000000001))) = false := decide_eq_false c10
            clear c10
            by_cases c11 : t128 < (wrap64 (Int.tmod (IntKind.u64.wrap (a1)) 1000000001))
            · rw [if_pos c11] at H
              have c11b0 : decide (t128 < (wrap64 (Int.tmod (IntKind.u64.wrap (a1)) 1000000001))) = true := decide_eq_true c11
              clear c11
              obtain rfl := Option.some.inj H
              go_wp2_with (first | ((with_reducible refine gate_callee (f := 32) rfl ?_); refine goesL_ (some 41) rfl rfl Try.func32 (by kernel_rfl) rfl #[.int .i64 t128, .int .i64 (wrap64 (Int.tmod (IntKind.u64.wrap (a1)) 1000000001))] rfl (by (try simp only [List.map_toArray, List.map_cons, List.map_nil]); first | done | rfl | (simp only [List.length_drop, List.length_take]; rfl)) ?_; (with_reducible refine (amount_Sub.calls t128 (wrap64 (Int.tmod (IntKind.u64.wrap (a1)) 1000000001)) t130 t131 _ A7.out).mono ?_); rintro e w' ⟨rfl, ⟨nd, rfl⟩⟩; refine ⟨_, rfl, ?_⟩))
              go_ret
              exact ⟨by first | rfl | (simp [errW_none, errW_some] <;> rfl) | (simp [*, errW_none, errW_some] <;> rfl), by repeat (first | (with_reducible first | exact HB.out | apply below_alloc | apply pw_below_drewN | apply below_drew1) | exact HB.out)⟩
            · rw [if_neg c11] at H
              have c11b0 : decide (t128 < (wrap64 (Int.tmod (IntKind.u64.wrap (a1)) 1000000001))) = false := decide_eq_false c11
              clear c11
              have H' := Aside0.mk H
              clear H
              go_wp2_with (first | ((with_reducible refine gate_callee (f := 32) rfl ?_); refine goesL_ (some 41) rfl rfl Try.func32 (by kernel_rfl) rfl #[.int .i64 t128, .int .i64 (wrap64 (Int.tmod (IntKind.u64.wrap (a1)) 1000000001))] rfl (by (try simp only [List.map_toArray, List.map_cons, List.map_nil]); first | done | rfl | (simp only [List.length_drop, List.length_take]; rfl)) ?_; (with_reducible refine (amount_Sub.calls t128 (wrap64 (Int.tmod (IntKind.u64.wrap (a1)) 1000000001)) t130 t131 _ A7.out).mono ?_); rintro e w' ⟨rfl, ⟨nd, rfl⟩⟩; refine ⟨_, rfl, ?_⟩))
              go_meet
              case rel => exact ⟨_, H', ⟨by first | omega | exact Nat.le_refl _⟩, ⟨by repeat (first | (with_reducible first | exact HB.out | apply below_alloc | apply pw_below_drewN | apply below_drew1) | exact HB.out)⟩⟩
        · rw [if_neg c9] at H
          have c9b0 : (t130 == (wrap64 (Int.tmod (IntKind.u64.wrap (a0)) 1000000001))) = false := beq_eq_false_iff_ne.mpr c9
          have c9b1 : (t130 != (wrap64 (Int.tmod (IntKind.u64.wrap (a0)) 1000000001))) = true := bne_iff_ne.mpr c9
          obtain rfl := Option.some.inj H
          go_wp2_with (first | ((with_reducible refine gate_callee (f := 32) rfl ?_); refine goesL_ (some 41) rfl rfl Try.func32 (by kernel_rfl) rfl #[.int .i64 t128, .int .i64 (wrap64 (Int.tmod (IntKind.u64.wrap (a1)) 1000000001))] rfl (by (try simp only [List.map_toArray, List.map_cons, List.map_nil]); first | done | rfl | (simp only [List.length_drop, List.length_take]; rfl)) ?_; (with_reducible refine (amount_Sub.calls t128 (wrap64 (Int.tmod (IntKind.u64.wrap (a1)) 1000000001)) t130 t131 _ A7.out).mono ?_); rintro e w' ⟨rfl, ⟨nd, rfl⟩⟩; refine ⟨_, rfl, ?_⟩))
          go_ret
          exact ⟨by first | rfl | (simp [errW_none, errW_some] <;> rfl) | (simp [*, errW_none, errW_some] <;> rfl), by repeat (first | (with_reducible first | exact HB.out | apply below_alloc | apply pw_below_drewN | apply below_drew1) | exact HB.out)⟩
      · rw [if_neg c8] at H
        have c8b0 : (t131 == 0) = false := beq_eq_false_iff_ne.mpr c8
        have c8b1 : (t131 != 0) = true := bne_iff_ne.mpr c8
        obtain rfl := Option.some.inj H
        go_wp2_with (first | ((with_reducible refine gate_callee (f := 32) rfl ?_); refine goesL_ (some 41) rfl rfl Try.func32 (by kernel_rfl) rfl #[.int .i64 t128, .int .i64 (wrap64 (Int.tmod (IntKind.u64.wrap (a1)) 1000000001))] rfl (by (try simp only [List.map_toArray, List.map_cons, List.map_nil]); first | done | rfl | (simp only [List.length_drop, List.length_take]; rfl)) ?_; (with_reducible refine (amount_Sub.calls t128 (wrap64 (Int.tmod (IntKind.u64.wrap (a1)) 1000000001)) t130 t131 _ A7.out).mono ?_); rintro e w' ⟨rfl, ⟨nd, rfl⟩⟩; refine ⟨_, rfl, ?_⟩))
        go_ret
        exact ⟨by first | rfl | (simp [errW_none, errW_some] <;> rfl) | (simp [*, errW_none, errW_some] <;> rfl), by repeat (first | (with_reducible first | exact HB.out | apply below_alloc | apply pw_below_drewN | apply below_drew1) | exact HB.out)⟩
    · rw [if_neg c6] at H
      have c6b0 : (t129 == 0) = false := beq_eq_false_iff_ne.mpr c6
      have c6b1 : (t129 != 0) = true := bne_iff_ne.mpr c6
      (first | rw [c6b0] | (simp only [i64_w, i32_w]; rw [c6b0]) | skip)
      by_cases c12 : t129 = 4
      · rw [if_pos c12] at H
        have c12b0 : (t129 == 4) = true := beq_iff_eq.mpr c12
        have c12b1 : (t129 != 4) = false := bne_eq_false_iff_eq.mpr c12
        clear c12
        by_cases c13 : (wrap64 (Int.tmod (IntKind.u64.wrap (a0)) 1000000001)) ≤ (wrap64 (1000000000 - (wrap64 (Int.tmod (IntKind.u64.wrap (a1)) 1000000001))))
        · rw [if_pos c13] at H
          have c13b0 : decide ((wrap64 (Int.tmod (IntKind.u64.wrap (a0)) 1000000001)) ≤ (wrap64 (1000000000 - (wrap64 (Int.tmod (IntKind.u64.wrap (a1)) 1000000001))))) = true := decide_eq_true c13
          clear c13
          obtain rfl := Option.some.inj H
          go_wp2
          go_ret
          exact ⟨by first | rfl | (simp [errW_none, errW_some] <;> rfl) | (simp [*, errW_none, errW_some] <;> rfl), by repeat (first | (with_reducible first | exact HB.out | apply below_alloc | apply pw_below_drewN | apply below_drew1) | exact HB.out)⟩
        · rw [if_neg c13] at H
          have c13b0 : decide ((wrap64 (Int.tmod (IntKind.u64.wrap (a0)) 1000000001)) ≤ (wrap64 (1000000000 - (wrap64 (Int.tmod (IntKind.u64.wrap (a1)) 1000000001))))) = false := decide_eq_false c13
          clear c13
          have H' := Aside0.mk H
          clear H
          go_wp2
          go_meet
          case rel => exact ⟨_, H', ⟨by first | omega | exact Nat.le_refl _⟩, ⟨by repeat (first | (with_reducible first | exact HB.out | apply below_alloc | apply pw_below_drewN | apply below_drew1) | exact HB.out)⟩⟩
      · rw [if_neg c12] at H
        have c12b0 : (t129 == 4) = false := beq_eq_false_iff_ne.mpr c12
        have c12b1 : (t129 != 4) = true := bne_iff_ne.mpr c12
        obtain rfl := Option.some.inj H
        go_wp2
        go_ret
        exact ⟨by first | rfl | (simp [errW_none, errW_some] <;> rfl) | (simp [*, errW_none, errW_some] <;> rfl), by repeat (first | (with_reducible first | exact HB.out | apply below_alloc | apply pw_below_drewN | apply below_drew1) | exact HB.out)⟩
  case rest =>
    clear HC5
    try clear c1
    try clear c2
    try clear p2
    try clear c3
    try clear c6
    try clear c6b0
    try clear c6b1
    try clear p6
    try clear c8
    try clear c8b0
    try clear c8b1
    try clear c9
    try clear c9b0
    try clear c9b1
    try clear c10
    try clear c10b0
    try clear c11
    try clear c11b0
    try clear c12
    try clear c12b0
    try clear c12b1
    try clear c13
    try clear c13b0
    obtain ⟨kq, HA, HJ4, HB⟩ := hcut
    cases kq with
    | zero => exact absurd HA.out (by simp [wharfingerlaw1_AmountUndone.j0])
    | succ kj4 =>
      have H := HA.out
      clear HA
      simp only [wharfingerlaw1_AmountUndone.j0] at H
      replace H := Option.bind_eq_some_iff.mp H
      obtain ⟨t132, A140, H⟩ := H
      replace H : ((amount_Sum.f kj4 t132).bind fun bt135 => ((amount_Part.f (wrap64 (Int.tmod (IntKind.u64.wrap (a0)) 1000000001)) (mn (wrap64 (1 + (wrap64 (Int.tmod (IntKind.u64.wrap (a2)) 64)))) (wrap64 (Int.tmod (IntKind.u64.wrap (a1)) 1000000001))) (mx (wrap64 (Int.tmod (IntKind.u64.wrap (a1)) 1000000001)) 1)).bind fun bt137 => (if (wrap64 (Int.tmod (IntKind.u64.wrap (a1)) 1000000001)) = 0 then (wharfingerlaw1_AmountUndone.j1 kj4 (wrap64 (Int.tmod (IntKind.u64.wrap (a0)) 1000000001)) (wrap64 (Int.tmod (IntKind.u64.wrap (a1)) 1000000001)) (wrap64 (1 + (wrap64 (Int.tmod (IntKind.u64.wrap (a2)) 64)))) bt135.1 bt135.2 bt137.1 bt137.2 true) else (wharfingerlaw1_AmountUndone.j1 kj4 (wrap64 (Int.tmod (IntKind.u64.wrap (a0)) 1000000001)) (wrap64 (Int.tmod (IntKind.u64.wrap (a1)) 1000000001)) (wrap64 (1 + (wrap64 (Int.tmod (IntKind.u64.wrap (a2)) 64)))) bt135.1 bt135.2 bt137.1 bt137.2 (decide ((wrap64 (1 + (wrap64 (Int.tmod (IntKind.u64.wrap (a2)) 64)))) > (wrap64 (Int.tmod (IntKind.u64.wrap (a1)) 1000000001)))))))) = some r := H
      have A14 := Aside0.mk A140
      clear A140
      replace H := Option.bind_eq_some_iff.mp H
      obtain ⟨⟨t135, t136⟩, A150, H⟩ := H
      replace H : ((amount_Part.f (wrap64 (Int.tmod (IntKind.u64.wrap (a0)) 1000000001)) (mn (wrap64 (1 + (wrap64 (Int.tmod (IntKind.u64.wrap (a2)) 64)))) (wrap64 (Int.tmod (IntKind.u64.wrap (a1)) 1000000001))) (mx (wrap64 (Int.tmod (IntKind.u64.wrap (a1)) 1000000001)) 1)).bind fun bt137 => (if (wrap64 (Int.tmod (IntKind.u64.wrap (a1)) 1000000001)) = 0 then (wharfingerlaw1_AmountUndone.j1 kj4 (wrap64 (Int.tmod (IntKind.u64.wrap (a0)) 1000000001)) (wrap64 (Int.tmod (IntKind.u64.wrap (a1)) 1000000001)) (wrap64 (1 + (wrap64 (Int.tmod (IntKind.u64.wrap (a2)) 64)))) t135 t136 bt137.1 bt137.2 true) else (wharfingerlaw1_AmountUndone.j1 kj4 (wrap64 (Int.tmod (IntKind.u64.wrap (a0)) 1000000001)) (wrap64 (Int.tmod (IntKind.u64.wrap (a1)) 1000000001)) (wrap64 (1 + (wrap64 (Int.tmod (IntKind.u64.wrap (a2)) 64)))) t135 t136 bt137.1 bt137.2 (decide ((wrap64 (1 + (wrap64 (Int.tmod (IntKind.u64.wrap (a2)) 64)))) > (wrap64 (Int.tmod (IntKind.u64.wrap (a1)) 1000000001))))))) = some r := H
      have A15 := Aside0.mk A150
      clear A150
      obtain ⟨ji16, hji16⟩ : ∃ j_ : Int, (mn (wrap64 (1 + (wrap64 (Int.tmod (IntKind.u64.wrap (a2)) 64)))) (wrap64 (Int.tmod (IntKind.u64.wrap (a1)) 1000000001))) = j_ := ⟨_, rfl⟩
      replace H : ((amount_Part.f (wrap64 (Int.tmod (IntKind.u64.wrap (a0)) 1000000001)) (ji16) (mx (wrap64 (Int.tmod (IntKind.u64.wrap (a1)) 1000000001)) 1)).bind fun bt137 => (if (wrap64 (Int.tmod (IntKind.u64.wrap (a1)) 1000000001)) = 0 then (wharfingerlaw1_AmountUndone.j1 kj4 (wrap64 (Int.tmod (IntKind.u64.wrap (a0)) 1000000001)) (wrap64 (Int.tmod (IntKind.u64.wrap (a1)) 1000000001)) (wrap64 (1 + (wrap64 (Int.tmod (IntKind.u64.wrap (a2)) 64)))) t135 t136 bt137.1 bt137.2 true) else (wharfingerlaw1_AmountUndone.j1 kj4 (wrap64 (Int.tmod (IntKind.u64.wrap (a0)) 1000000001)) (wrap64 (Int.tmod (IntKind.u64.wrap (a1)) 1000000001)) (wrap64 (1 + (wrap64 (Int.tmod (IntKind.u64.wrap (a2)) 64)))) t135 t136 bt137.1 bt137.2 (decide ((wrap64 (1 + (wrap64 (Int.tmod (IntKind.u64.wrap (a2)) 64)))) > (wrap64 (Int.tmod (IntKind.u64.wrap (a1)) 1000000001))))))) = some r := by first | (rw [hji16] at H; exact H) | (simp only [hji16] at H ⊢; exact H)
      (try rw [hji16] at A14)
      (try rw [hji16] at A15)
      have hji16_ : (if (wrap64 (Int.tmod (IntKind.u64.wrap (a1)) 1000000001)) < (wrap64 (1 + (wrap64 (Int.tmod (IntKind.u64.wrap (a2)) 64)))) then (wrap64 (Int.tmod (IntKind.u64.wrap (a1)) 1000000001)) else (wrap64 (1 + (wrap64 (Int.tmod (IntKind.u64.wrap (a2)) 64))))) = ji16 := hji16
      obtain ⟨ji17, hji17⟩ : ∃ j_ : Int, (mx (wrap64 (Int.tmod (IntKind.u64.wrap (a1)) 1000000001)) 1) = j_ := ⟨_, rfl⟩
      replace H : ((amount_Part.f (wrap64 (Int.tmod (IntKind.u64.wrap (a0)) 1000000001)) (ji16) (ji17)).bind fun bt137 => (if (wrap64 (Int.tmod (IntKind.u64.wrap (a1)) 1000000001)) = 0 then (wharfingerlaw1_AmountUndone.j1 kj4 (wrap64 (Int.tmod (IntKind.u64.wrap (a0)) 1000000001)) (wrap64 (Int.tmod (IntKind.u64.wrap (a1)) 1000000001)) (wrap64 (1 + (wrap64 (Int.tmod (IntKind.u64.wrap (a2)) 64)))) t135 t136 bt137.1 bt137.2 true) else (wharfingerlaw1_AmountUndone.j1 kj4 (wrap64 (Int.tmod (IntKind.u64.wrap (a0)) 1000000001)) (wrap64 (Int.tmod (IntKind.u64.wrap (a1)) 1000000001)) (wrap64 (1 + (wrap64 (Int.tmod (IntKind.u64.wrap (a2)) 64)))) t135 t136 bt137.1 bt137.2 (decide ((wrap64 (1 + (wrap64 (Int.tmod (IntKind.u64.wrap (a2)) 64)))) > (wrap64 (Int.tmod (IntKind.u64.wrap (a1)) 1000000001))))))) = some r := by first | (rw [hji17] at H; exact H) | (simp only [hji17] at H ⊢; exact H)
      (try rw [hji17] at A14)
      (try rw [hji17] at A15)
      have hji17_ : (if (wrap64 (Int.tmod (IntKind.u64.wrap (a1)) 1000000001)) < 1 then 1 else (wrap64 (Int.tmod (IntKind.u64.wrap (a1)) 1000000001))) = ji17 := hji17
      replace H := Option.bind_eq_some_iff.mp H
      obtain ⟨⟨t137, t138⟩, A180, H⟩ := H
      replace H : (if (wrap64 (Int.tmod (IntKind.u64.wrap (a1)) 1000000001)) = 0 then (wharfingerlaw1_AmountUndone.j1 kj4 (wrap64 (Int.tmod (IntKind.u64.wrap (a0)) 1000000001)) (wrap64 (Int.tmod (IntKind.u64.wrap (a1)) 1000000001)) (wrap64 (1 + (wrap64 (Int.tmod (IntKind.u64.wrap (a2)) 64)))) t135 t136 t137 t138 true) else (wharfingerlaw1_AmountUndone.j1 kj4 (wrap64 (Int.tmod (IntKind.u64.wrap (a0)) 1000000001)) (wrap64 (Int.tmod (IntKind.u64.wrap (a1)) 1000000001)) (wrap64 (1 + (wrap64 (Int.tmod (IntKind.u64.wrap (a2)) 64)))) t135 t136 t137 t138 (decide ((wrap64 (1 + (wrap64 (Int.tmod (IntKind.u64.wrap (a2)) 64)))) > (wrap64 (Int.tmod (IntKind.u64.wrap (a1)) 1000000001)))))) = some r := H
      have A18 := Aside0.mk A180
      clear A180
      have HC19 := Aside0.mk H
      clear H
      go_upto_region 12 with (first | ((with_reducible refine gate_callee (f := 14) rfl ?_); refine goesL_ (some 72) rfl rfl Try.func14 (by kernel_rfl) rfl #[.int .i64 (wrap64 (Int.tmod (IntKind.u64.wrap (a0)) 1000000001)), .int .i64 (wrap64 (1 + (wrap64 (Int.tmod (IntKind.u64.wrap (a2)) 64))))] rfl (by (try simp only [List.map_toArray, List.map_cons, List.map_nil]); first | done | rfl | (simp only [List.length_drop, List.length_take]; rfl)) ?_; (with_reducible refine (amount_Split.calls kj4 (wrap64 (Int.tmod (IntKind.u64.wrap (a0)) 1000000001)) (wrap64 (1 + (wrap64 (Int.tmod (IntKind.u64.wrap (a2)) 64)))) t132 _ A14.out).mono ?_); rintro e w20 ⟨v133, rfl, ho0, hb⟩; refine ⟨_, rfl, ?_⟩; have n0_ := Aside0.mk (Kd.R_lower ho0 (below_size (by repeat (first | (with_reducible first | exact HB.out | apply below_alloc | apply pw_below_drewN | apply below_drew1) | exact HB.out)))); have n1_ := Aside0.mk (below_step (by repeat (first | (with_reducible first | exact HB.out | apply below_alloc | apply pw_below_drewN | apply below_drew1) | exact HB.out)) hb); clear HB; have HO134 := n0_; have HB := n1_; clear n0_ n1_; (try clear hb); (try clear hb2); (try clear hk); (try clear hi); (try clear ho0); obtain ⟨Ao21, co21, eo21⟩ := Kd.R_slice HO134.out; subst eo21) | ((with_reducible refine gate_callee (f := 25) rfl ?_); refine goesL_ (some 73) rfl rfl Try.func25 (by kernel_rfl) rfl #[.slice Ao21 t132.length co21] rfl (by (try simp only [List.map_toArray, List.map_cons, List.map_nil]); first | done | rfl | (simp only [List.length_drop, List.length_take]; rfl)) ?_; (with_reducible refine (amount_Sum.calls kj4 _ _ t132 t135 t136 _ ?side1 ?side2 A15.out).mono ?_); (case side1 => repeat (first | exact (Kd.R_reads' HO134.out).2.2 | (with_reducible refine Kd.C_alloc ?_ _) | (with_reducible refine Kd.C_drewN ?_ _) | (with_reducible refine Kd.C_drew ?_))); (case side2 => exact (Kd.R_reads' HO134.out).2.1); rintro e w' ⟨rfl, ⟨nd, rfl⟩⟩; refine ⟨_, rfl, ?_⟩) | ((with_reducible refine gate_callee (f := 35) rfl ?_); refine goesL_ (some 83) rfl rfl Try.func35 (by kernel_rfl) rfl #[.int .i64 (wrap64 (Int.tmod (IntKind.u64.wrap (a0)) 1000000001)), .int .i64 ji16, .int .i64 ji17] rfl (by (try simp only [List.map_toArray, List.map_cons, List.map_nil]); first | done | (simp only [hji16, hji17]; rfl) | rfl | (simp only [List.length_drop, List.length_take]; rfl)) ?_; (with_reducible refine (amount_Part.calls (wrap64 (Int.tmod (IntKind.u64.wrap (a0)) 1000000001)) ji16 ji17 t137 t138 _ A18.out).mono ?_); rintro e w' ⟨rfl, ⟨nd, rfl⟩⟩; refine ⟨_, rfl, ?_⟩))
      (try simp only [Act.put, List.setIfInBounds_toArray, List.set_cons_zero, List.set_cons_succ])
      go_cut [92] (fun v92 wc => ∃ (kq : Nat) (x92_18 : Bool), v92 = .bool x92_18 ∧ Aside0 (wharfingerlaw1_AmountUndone.j1 kq (wrap64 (Int.tmod (IntKind.u64.wrap (a0)) 1000000001)) (wrap64 (Int.tmod (IntKind.u64.wrap (a1)) 1000000001)) (wrap64 (1 + (wrap64 (Int.tmod (IntKind.u64.wrap (a2)) 64)))) t135 t136 t137 t138 x92_18 = some r) ∧ Aside0 (kq ≤ kj4) ∧ Aside0 (Below w.heap.size w wc))
      case first =>
        have H := HC19.out
        clear HC19
        by_cases c22 : (wrap64 (Int.tmod (IntKind.u64.wrap (a1)) 1000000001)) = 0
        · rw [if_pos c22] at H
          have c22b0 : ((wrap64 (Int.tmod (IntKind.u64.wrap (a1)) 1000000001)) == 0) = true := beq_iff_eq.mpr c22
          have c22b1 : ((wrap64 (Int.tmod (IntKind.u64.wrap (a1)) 1000000001)) != 0) = false := bne_eq_false_iff_eq.mpr c22
          clear c22
          (first | rw [c22b0] | (simp only [i64_w, i32_w]; rw [c22b0]) | skip)
          have H' := Aside0.mk H
          clear H
          go_wp2
          go_meet
          case rel => exact ⟨_, (true), (by first | rfl | (simp; done) | (simp [*]; done)), H', ⟨by have := HJ4.out; first | omega | exact Nat.le_refl _⟩, ⟨by repeat (first | (with_reducible first | exact HB.out | apply below_alloc | apply pw_below_drewN | apply below_drew1) | exact HB.out)⟩⟩
        · rw [if_neg c22] at H
          have c22b0 : ((wrap64 (Int.tmod (IntKind.u64.wrap (a1)) 1000000001)) == 0) = false := beq_eq_false_iff_ne.mpr c22
          have c22b1 : ((wrap64 (Int.tmod (IntKind.u64.wrap (a1)) 1000000001)) != 0) = true := bne_iff_ne.mpr c22
          (first | rw [c22b0] | (simp only [i64_w, i32_w]; rw [c22b0]) | skip)
          have H' := Aside0.mk H
          clear H
          go_wp2
          go_meet
          case rel => exact ⟨_, (decide ((wrap64 (1 + (wrap64 (Int.tmod (IntKind.u64.wrap (a2)) 64)))) > (wrap64 (Int.tmod (IntKind.u64.wrap (a1)) 1000000001)))), (by first | rfl | (simp; done) | (simp [*]; done)), H', ⟨by have := HJ4.out; first | omega | exact Nat.le_refl _⟩, ⟨by repeat (first | (with_reducible first | exact HB.out | apply below_alloc | apply pw_below_drewN | apply below_drew1) | exact HB.out)⟩⟩
      case rest =>
        clear HC19
        try clear c1
        try clear c2
        try clear p2
        try clear c3
        try clear c6
        try clear c6b0
        try clear c6b1
        try clear p6
        try clear c8
        try clear c8b0
        try clear c8b1
        try clear c9
        try clear c9b0
        try clear c9b1
        try clear c10
        try clear c10b0
        try clear c11
        try clear c11b0
        try clear c12
        try clear c12b0
        try clear c12b1
        try clear c13
        try clear c13b0
        try clear c14
        try clear c22
        try clear c22b0
        try clear c22b1
        try clear p2
        try clear p6
        obtain ⟨kq, x92_18, rfl, HA, HJ18, HB⟩ := hcut
        cases kq with
        | zero => exact absurd HA.out (by simp [wharfingerlaw1_AmountUndone.j1])
        | succ kj18 =>
          have H := HA.out
          clear HA
          simp only [wharfingerlaw1_AmountUndone.j1] at H
          by_cases c23 : x92_18 = true
          · subst c23
            have H1 : (if t136 = 0 then (if t135 = (wrap64 (Int.tmod (IntKind.u64.wrap (a0)) 1000000001)) then ((wharfingerlaw1_awake.f kj18).bind fun t139 => (some t139)) else (some false)) else (some false)) = some r := by rw [if_pos rfl] at H; exact H
            clear H
            have H := H1
            clear H1
            by_cases c24 : t136 = 0
            · rw [if_pos c24] at H
              have c24b0 : (t136 == 0) = true := beq_iff_eq.mpr c24
              have c24b1 : (t136 != 0) = false := bne_eq_false_iff_eq.mpr c24
              clear c24
              by_cases c25 : t135 = (wrap64 (Int.tmod (IntKind.u64.wrap (a0)) 1000000001))
              · rw [if_pos c25] at H
                have c25b0 : (t135 == (wrap64 (Int.tmod (IntKind.u64.wrap (a0)) 1000000001))) = true := beq_iff_eq.mpr c25
                have c25b1 : (t135 != (wrap64 (Int.tmod (IntKind.u64.wrap (a0)) 1000000001))) = false := bne_eq_false_iff_eq.mpr c25
                clear c25
                replace H := Option.bind_eq_some_iff.mp H
                obtain ⟨t139, A260, H⟩ := H
                replace H : (some t139) = some r := H
                have A26 := Aside0.mk A260
                clear A260
                obtain rfl := Option.some.inj H
                go_wp2_with (first | (go_at_call 15; (with_reducible refine (wharfingerlaw1_awake.calls kj18  t139 _ A26.out).mono ?_); rintro e w27 ⟨rfl, hb⟩; have n0_ := Aside0.mk (below_step (by repeat (first | (with_reducible first | exact HB.out | apply below_alloc | apply pw_below_drewN | apply below_drew1) | exact HB.out)) hb); clear HB; have HB := n0_; clear n0_; (try clear hb); (try clear hb2); (try clear hk); (try clear hi)))
                go_ret
                exact ⟨by first | rfl | (simp [errW_none, errW_some] <;> rfl) | (simp only [← hji16, ← hji17]; first | rfl | (simp [errW_none, errW_some] <;> rfl)) | (simp [*, errW_none, errW_some] <;> rfl), by repeat (first | (with_reducible first | exact HB.out | apply below_alloc | apply pw_below_drewN | apply below_drew1) | exact HB.out)⟩
              · rw [if_neg c25] at H
                have c25b0 : (t135 == (wrap64 (Int.tmod (IntKind.u64.wrap (a0)) 1000000001))) = false := beq_eq_false_iff_ne.mpr c25
                have c25b1 : (t135 != (wrap64 (Int.tmod (IntKind.u64.wrap (a0)) 1000000001))) = true := bne_iff_ne.mpr c25
                obtain rfl := Option.some.inj H
                go_wp2
                go_ret
                exact ⟨by first | rfl | (simp [errW_none, errW_some] <;> rfl) | (simp only [← hji16, ← hji17]; first | rfl | (simp [errW_none, errW_some] <;> rfl)) | (simp [*, errW_none, errW_some] <;> rfl), by repeat (first | (with_reducible first | exact HB.out | apply below_alloc | apply pw_below_drewN | apply below_drew1) | exact HB.out)⟩
            · rw [if_neg c24] at H
              have c24b0 : (t136 == 0) = false := beq_eq_false_iff_ne.mpr c24
              have c24b1 : (t136 != 0) = true := bne_iff_ne.mpr c24
              obtain rfl := Option.some.inj H
              go_wp2
              go_ret
              exact ⟨by first | rfl | (simp [errW_none, errW_some] <;> rfl) | (simp only [← hji16, ← hji17]; first | rfl | (simp [errW_none, errW_some] <;> rfl)) | (simp [*, errW_none, errW_some] <;> rfl), by repeat (first | (with_reducible first | exact HB.out | apply below_alloc | apply pw_below_drewN | apply below_drew1) | exact HB.out)⟩
          · replace c23 := Bool.eq_false_iff.mpr c23
            subst c23
            have H1 : ((amount_Part.f (wrap64 (Int.tmod (IntKind.u64.wrap (a0)) 1000000001)) (wrap64 ((wrap64 (Int.tmod (IntKind.u64.wrap (a1)) 1000000001)) - (wrap64 (1 + (wrap64 (Int.tmod (IntKind.u64.wrap (a2)) 64)))))) (wrap64 (Int.tmod (IntKind.u64.wrap (a1)) 1000000001))).bind fun bt140 => (if t136 = 0 then (if t135 = (wrap64 (Int.tmod (IntKind.u64.wrap (a0)) 1000000001)) then (if t138 = 0 then (if bt140.2 = 0 then (if (wrap64 (t137 + bt140.1)) ≤ (wrap64 (Int.tmod (IntKind.u64.wrap (a0)) 1000000001)) then (if (wrap64 (t137 + bt140.1)) ≥ (wrap64 ((wrap64 (Int.tmod (IntKind.u64.wrap (a0)) 1000000001)) - 1)) then ((wharfingerlaw1_awake.f kj18).bind fun t142 => (some t142)) else (some false)) else (some false)) else (some false)) else (some false)) else (some false)) else (some false))) = some r := by rw [if_neg (show ¬ (false = true) by decide)] at H; exact H
            clear H
            have H := H1
            clear H1
            replace H := Option.bind_eq_some_iff.mp H
            obtain ⟨⟨t140, t141⟩, A280, H⟩ := H
            replace H : (if t136 = 0 then (if t135 = (wrap64 (Int.tmod (IntKind.u64.wrap (a0)) 1000000001)) then (if t138 = 0 then (if t141 = 0 then (if (wrap64 (t137 + t140)) ≤ (wrap64 (Int.tmod (IntKind.u64.wrap (a0)) 1000000001)) then (if (wrap64 (t137 + t140)) ≥ (wrap64 ((wrap64 (Int.tmod (IntKind.u64.wrap (a0)) 1000000001)) - 1)) then ((wharfingerlaw1_awake.f kj18).bind fun t142 => (some t142)) else (some false)) else (some false)) else (some false)) else (some false)) else (some false)) else (some false)) = some r := H
            have A28 := Aside0.mk A280
            clear A280
            by_cases c29 : t136 = 0
            · rw [if_pos c29] at H
              have c29b0 : (t136 == 0) = true := beq_iff_eq.mpr c29
              have c29b1 : (t136 != 0) = false := bne_eq_false_iff_eq.mpr c29
              clear c29
              by_cases c30 : t135 = (wrap64 (Int.tmod (IntKind.u64.wrap (a0)) 1000000001))
              · rw [if_pos c30] at H
                have c30b0 : (t135 == (wrap64 (Int.tmod (IntKind.u64.wrap (a0)) 1000000001))) = true := beq_iff_eq.mpr c30
                have c30b1 : (t135 != (wrap64 (Int.tmod (IntKind.u64.wrap (a0)) 1000000001))) = false := bne_eq_false_iff_eq.mpr c30
                clear c30
                by_cases c31 : t138 = 0
                · rw [if_pos c31] at H
                  have c31b0 : (t138 == 0) = true := beq_iff_eq.mpr c31
                  have c31b1 : (t138 != 0) = false := bne_eq_false_iff_eq.mpr c31
                  clear c31
                  by_cases c32 : t141 = 0
                  · rw [if_pos c32] at H
                    have c32b0 : (t141 == 0) = true := beq_iff_eq.mpr c32
                    have c32b1 : (t141 != 0) = false := bne_eq_false_iff_eq.mpr c32
                    clear c32
                    by_cases c33 : (wrap64 (t137 + t140)) ≤ (wrap64 (Int.tmod (IntKind.u64.wrap (a0)) 1000000001))
                    · rw [if_pos c33] at H
                      have c33b0 : decide ((wrap64 (t137 + t140)) ≤ (wrap64 (Int.tmod (IntKind.u64.wrap (a0)) 1000000001))) = true := decide_eq_true c33
                      clear c33
                      by_cases c34 : (wrap64 (t137 + t140)) ≥ (wrap64 ((wrap64 (Int.tmod (IntKind.u64.wrap (a0)) 1000000001)) - 1))
                      · rw [if_pos c34] at H
                        have c34b0 : decide ((wrap64 ((wrap64 (Int.tmod (IntKind.u64.wrap (a0)) 1000000001)) - 1)) ≤ (wrap64 (t137 + t140))) = true := decide_eq_true c34
                        clear c34
                        replace H := Option.bind_eq_some_iff.mp H
                        obtain ⟨t142, A350, H⟩ := H
                        replace H : (some t142) = some r := H
                        have A35 := Aside0.mk A350
                        clear A350
                        obtain rfl := Option.some.inj H
                        go_wp2_with (first | ((with_reducible refine gate_callee (f := 35) rfl ?_); refine goesL_ (some 109) rfl rfl Try.func35 (by kernel_rfl) rfl #[.int .i64 (wrap64 (Int.tmod (IntKind.u64.wrap (a0)) 1000000001)), .int .i64 (wrap64 ((wrap64 (Int.tmod (IntKind.u64.wrap (a1)) 1000000001)) - (wrap64 (1 + (wrap64 (Int.tmod (IntKind.u64.wrap (a2)) 64)))))), .int .i64 (wrap64 (Int.tmod (IntKind.u64.wrap (a1)) 1000000001))] rfl (by (try simp only [List.map_toArray, List.map_cons, List.map_nil]); first | done | rfl | (simp only [List.length_drop, List.length_take]; rfl)) ?_; (with_reducible refine (amount_Part.calls (wrap64 (Int.tmod (IntKind.u64.wrap (a0)) 1000000001)) (wrap64 ((wrap64 (Int.tmod (IntKind.u64.wrap (a1)) 1000000001)) - (wrap64 (1 + (wrap64 (Int.tmod (IntKind.u64.wrap (a2)) 64)))))) (wrap64 (Int.tmod (IntKind.u64.wrap (a1)) 1000000001)) t140 t141 _ A28.out).mono ?_); rintro e w' ⟨rfl, ⟨nd, rfl⟩⟩; refine ⟨_, rfl, ?_⟩) | (go_at_call 15; (with_reducible refine (wharfingerlaw1_awake.calls kj18  t142 _ A35.out).mono ?_); rintro e w36 ⟨rfl, hb⟩; have n0_ := Aside0.mk (below_step (by repeat (first | (with_reducible first | exact HB.out | apply below_alloc | apply pw_below_drewN | apply below_drew1) | exact HB.out)) hb); clear HB; have HB := n0_; clear n0_; (try clear hb); (try clear hb2); (try clear hk); (try clear hi)))
                        go_ret
                        exact ⟨by first | rfl | (simp [errW_none, errW_some] <;> rfl) | (simp only [← hji16, ← hji17]; first | rfl | (simp [errW_none, errW_some] <;> rfl)) | (simp [*, errW_none, errW_some] <;> rfl), by repeat (first | (with_reducible first | exact HB.out | apply below_alloc | apply pw_below_drewN | apply below_drew1) | exact HB.out)⟩
                      · rw [if_neg c34] at H
                        have c34b0 : decide ((wrap64 ((wrap64 (Int.tmod (IntKind.u64.wrap (a0)) 1000000001)) - 1)) ≤ (wrap64 (t137 + t140))) = false := decide_eq_false c34
                        clear c34
                        obtain rfl := Option.some.inj H
                        go_wp2_with (first | ((with_reducible refine gate_callee (f := 35) rfl ?_); refine goesL_ (some 109) rfl rfl Try.func35 (by kernel_rfl) rfl #[.int .i64 (wrap64 (Int.tmod (IntKind.u64.wrap (a0)) 1000000001)), .int .i64 (wrap64 ((wrap64 (Int.tmod (IntKind.u64.wrap (a1)) 1000000001)) - (wrap64 (1 + (wrap64 (Int.tmod (IntKind.u64.wrap (a2)) 64)))))), .int .i64 (wrap64 (Int.tmod (IntKind.u64.wrap (a1)) 1000000001))] rfl (by (try simp only [List.map_toArray, List.map_cons, List.map_nil]); first | done | rfl | (simp only [List.length_drop, List.length_take]; rfl)) ?_; (with_reducible refine (amount_Part.calls (wrap64 (Int.tmod (IntKind.u64.wrap (a0)) 1000000001)) (wrap64 ((wrap64 (Int.tmod (IntKind.u64.wrap (a1)) 1000000001)) - (wrap64 (1 + (wrap64 (Int.tmod (IntKind.u64.wrap (a2)) 64)))))) (wrap64 (Int.tmod (IntKind.u64.wrap (a1)) 1000000001)) t140 t141 _ A28.out).mono ?_); rintro e w' ⟨rfl, ⟨nd, rfl⟩⟩; refine ⟨_, rfl, ?_⟩))
                        go_ret
                        exact ⟨by first | rfl | (simp [errW_none, errW_some] <;> rfl) | (simp only [← hji16, ← hji17]; first | rfl | (simp [errW_none, errW_some] <;> rfl)) | (simp [*, errW_none, errW_some] <;> rfl), by repeat (first | (with_reducible first | exact HB.out | apply below_alloc | apply pw_below_drewN | apply below_drew1) | exact HB.out)⟩
                    · rw [if_neg c33] at H
                      have c33b0 : decide ((wrap64 (t137 + t140)) ≤ (wrap64 (Int.tmod (IntKind.u64.wrap (a0)) 1000000001))) = false := decide_eq_false c33
                      clear c33
                      obtain rfl := Option.some.inj H
                      go_wp2_with (first | ((with_reducible refine gate_callee (f := 35) rfl ?_); refine goesL_ (some 109) rfl rfl Try.func35 (by kernel_rfl) rfl #[.int .i64 (wrap64 (Int.tmod (IntKind.u64.wrap (a0)) 1000000001)), .int .i64 (wrap64 ((wrap64 (Int.tmod (IntKind.u64.wrap (a1)) 1000000001)) - (wrap64 (1 + (wrap64 (Int.tmod (IntKind.u64.wrap (a2)) 64)))))), .int .i64 (wrap64 (Int.tmod (IntKind.u64.wrap (a1)) 1000000001))] rfl (by (try simp only [List.map_toArray, List.map_cons, List.map_nil]); first | done | rfl | (simp only [List.length_drop, List.length_take]; rfl)) ?_; (with_reducible refine (amount_Part.calls (wrap64 (Int.tmod (IntKind.u64.wrap (a0)) 1000000001)) (wrap64 ((wrap64 (Int.tmod (IntKind.u64.wrap (a1)) 1000000001)) - (wrap64 (1 + (wrap64 (Int.tmod (IntKind.u64.wrap (a2)) 64)))))) (wrap64 (Int.tmod (IntKind.u64.wrap (a1)) 1000000001)) t140 t141 _ A28.out).mono ?_); rintro e w' ⟨rfl, ⟨nd, rfl⟩⟩; refine ⟨_, rfl, ?_⟩))
                      go_ret
                      exact ⟨by first | rfl | (simp [errW_none, errW_some] <;> rfl) | (simp only [← hji16, ← hji17]; first | rfl | (simp [errW_none, errW_some] <;> rfl)) | (simp [*, errW_none, errW_some] <;> rfl), by repeat (first | (with_reducible first | exact HB.out | apply below_alloc | apply pw_below_drewN | apply below_drew1) | exact HB.out)⟩
                  · rw [if_neg c32] at H
                    have c32b0 : (t141 == 0) = false := beq_eq_false_iff_ne.mpr c32
                    have c32b1 : (t141 != 0) = true := bne_iff_ne.mpr c32
                    obtain rfl := Option.some.inj H
                    go_wp2_with (first | ((with_reducible refine gate_callee (f := 35) rfl ?_); refine goesL_ (some 109) rfl rfl Try.func35 (by kernel_rfl) rfl #[.int .i64 (wrap64 (Int.tmod (IntKind.u64.wrap (a0)) 1000000001)), .int .i64 (wrap64 ((wrap64 (Int.tmod (IntKind.u64.wrap (a1)) 1000000001)) - (wrap64 (1 + (wrap64 (Int.tmod (IntKind.u64.wrap (a2)) 64)))))), .int .i64 (wrap64 (Int.tmod (IntKind.u64.wrap (a1)) 1000000001))] rfl (by (try simp only [List.map_toArray, List.map_cons, List.map_nil]); first | done | rfl | (simp only [List.length_drop, List.length_take]; rfl)) ?_; (with_reducible refine (amount_Part.calls (wrap64 (Int.tmod (IntKind.u64.wrap (a0)) 1000000001)) (wrap64 ((wrap64 (Int.tmod (IntKind.u64.wrap (a1)) 1000000001)) - (wrap64 (1 + (wrap64 (Int.tmod (IntKind.u64.wrap (a2)) 64)))))) (wrap64 (Int.tmod (IntKind.u64.wrap (a1)) 1000000001)) t140 t141 _ A28.out).mono ?_); rintro e w' ⟨rfl, ⟨nd, rfl⟩⟩; refine ⟨_, rfl, ?_⟩))
                    go_ret
                    exact ⟨by first | rfl | (simp [errW_none, errW_some] <;> rfl) | (simp only [← hji16, ← hji17]; first | rfl | (simp [errW_none, errW_some] <;> rfl)) | (simp [*, errW_none, errW_some] <;> rfl), by repeat (first | (with_reducible first | exact HB.out | apply below_alloc | apply pw_below_drewN | apply below_drew1) | exact HB.out)⟩
                · rw [if_neg c31] at H
                  have c31b0 : (t138 == 0) = false := beq_eq_false_iff_ne.mpr c31
                  have c31b1 : (t138 != 0) = true := bne_iff_ne.mpr c31
                  obtain rfl := Option.some.inj H
                  go_wp2_with (first | ((with_reducible refine gate_callee (f := 35) rfl ?_); refine goesL_ (some 109) rfl rfl Try.func35 (by kernel_rfl) rfl #[.int .i64 (wrap64 (Int.tmod (IntKind.u64.wrap (a0)) 1000000001)), .int .i64 (wrap64 ((wrap64 (Int.tmod (IntKind.u64.wrap (a1)) 1000000001)) - (wrap64 (1 + (wrap64 (Int.tmod (IntKind.u64.wrap (a2)) 64)))))), .int .i64 (wrap64 (Int.tmod (IntKind.u64.wrap (a1)) 1000000001))] rfl (by (try simp only [List.map_toArray, List.map_cons, List.map_nil]); first | done | rfl | (simp only [List.length_drop, List.length_take]; rfl)) ?_; (with_reducible refine (amount_Part.calls (wrap64 (Int.tmod (IntKind.u64.wrap (a0)) 1000000001)) (wrap64 ((wrap64 (Int.tmod (IntKind.u64.wrap (a1)) 1000000001)) - (wrap64 (1 + (wrap64 (Int.tmod (IntKind.u64.wrap (a2)) 64)))))) (wrap64 (Int.tmod (IntKind.u64.wrap (a1)) 1000000001)) t140 t141 _ A28.out).mono ?_); rintro e w' ⟨rfl, ⟨nd, rfl⟩⟩; refine ⟨_, rfl, ?_⟩))
                  go_ret
                  exact ⟨by first | rfl | (simp [errW_none, errW_some] <;> rfl) | (simp only [← hji16, ← hji17]; first | rfl | (simp [errW_none, errW_some] <;> rfl)) | (simp [*, errW_none, errW_some] <;> rfl), by repeat (first | (with_reducible first | exact HB.out | apply below_alloc | apply pw_below_drewN | apply below_drew1) | exact HB.out)⟩
              · rw [if_neg c30] at H
                have c30b0 : (t135 == (wrap64 (Int.tmod (IntKind.u64.wrap (a0)) 1000000001))) = false := beq_eq_false_iff_ne.mpr c30
                have c30b1 : (t135 != (wrap64 (Int.tmod (IntKind.u64.wrap (a0)) 1000000001))) = true := bne_iff_ne.mpr c30
                obtain rfl := Option.some.inj H
                go_wp2_with (first | ((with_reducible refine gate_callee (f := 35) rfl ?_); refine goesL_ (some 109) rfl rfl Try.func35 (by kernel_rfl) rfl #[.int .i64 (wrap64 (Int.tmod (IntKind.u64.wrap (a0)) 1000000001)), .int .i64 (wrap64 ((wrap64 (Int.tmod (IntKind.u64.wrap (a1)) 1000000001)) - (wrap64 (1 + (wrap64 (Int.tmod (IntKind.u64.wrap (a2)) 64)))))), .int .i64 (wrap64 (Int.tmod (IntKind.u64.wrap (a1)) 1000000001))] rfl (by (try simp only [List.map_toArray, List.map_cons, List.map_nil]); first | done | rfl | (simp only [List.length_drop, List.length_take]; rfl)) ?_; (with_reducible refine (amount_Part.calls (wrap64 (Int.tmod (IntKind.u64.wrap (a0)) 1000000001)) (wrap64 ((wrap64 (Int.tmod (IntKind.u64.wrap (a1)) 1000000001)) - (wrap64 (1 + (wrap64 (Int.tmod (IntKind.u64.wrap (a2)) 64)))))) (wrap64 (Int.tmod (IntKind.u64.wrap (a1)) 1000000001)) t140 t141 _ A28.out).mono ?_); rintro e w' ⟨rfl, ⟨nd, rfl⟩⟩; refine ⟨_, rfl, ?_⟩))
                go_ret
                exact ⟨by first | rfl | (simp [errW_none, errW_some] <;> rfl) | (simp only [← hji16, ← hji17]; first | rfl | (simp [errW_none, errW_some] <;> rfl)) | (simp [*, errW_none, errW_some] <;> rfl), by repeat (first | (with_reducible first | exact HB.out | apply below_alloc | apply pw_below_drewN | apply below_drew1) | exact HB.out)⟩
            · rw [if_neg c29] at H
              have c29b0 : (t136 == 0) = false := beq_eq_false_iff_ne.mpr c29
              have c29b1 : (t136 != 0) = true := bne_iff_ne.mpr c29
              obtain rfl := Option.some.inj H
              go_wp2_with (first | ((with_reducible refine gate_callee (f := 35) rfl ?_); refine goesL_ (some 109) rfl rfl Try.func35 (by kernel_rfl) rfl #[.int .i64 (wrap64 (Int.tmod (IntKind.u64.wrap (a0)) 1000000001)), .int .i64 (wrap64 ((wrap64 (Int.tmod (IntKind.u64.wrap (a1)) 1000000001)) - (wrap64 (1 + (wrap64 (Int.tmod (IntKind.u64.wrap (a2)) 64)))))), .int .i64 (wrap64 (Int.tmod (IntKind.u64.wrap (a1)) 1000000001))] rfl (by (try simp only [List.map_toArray, List.map_cons, List.map_nil]); first | done | rfl | (simp only [List.length_drop, List.length_take]; rfl)) ?_; (with_reducible refine (amount_Part.calls (wrap64 (Int.tmod (IntKind.u64.wrap (a0)) 1000000001)) (wrap64 ((wrap64 (Int.tmod (IntKind.u64.wrap (a1)) 1000000001)) - (wrap64 (1 + (wrap64 (Int.tmod (IntKind.u64.wrap (a2)) 64)))))) (wrap64 (Int.tmod (IntKind.u64.wrap (a1)) 1000000001)) t140 t141 _ A28.out).mono ?_); rintro e w' ⟨rfl, ⟨nd, rfl⟩⟩; refine ⟨_, rfl, ?_⟩))
              go_ret
              exact ⟨by first | rfl | (simp [errW_none, errW_some] <;> rfl) | (simp only [← hji16, ← hji17]; first | rfl | (simp [errW_none, errW_some] <;> rfl)) | (simp [*, errW_none, errW_some] <;> rfl), by repeat (first | (with_reducible first | exact HB.out | apply below_alloc | apply pw_below_drewN | apply below_drew1) | exact HB.out)⟩

/-- THE ONE PURE STATEMENT of wharfingerlaw1_AmountUndone: yours. -/
def wharfingerlaw1_AmountUndone.Pure : Prop := ∀ (a0 : Int) (a1 : Int) (a2 : Int), (Lit.int .i64 a0).wf = true → (Lit.int .i64 a1).wf = true → (Lit.int .i64 a2).wf = true → ∃ k, wharfingerlaw1_AmountUndone.f k a0 a1 a2 = some true
theorem wharfingerlaw1_AmountUndone.walk (P : wharfingerlaw1_AmountUndone.Pure) (a0 : Int) (a1 : Int) (a2 : Int) (w : World) (w0 : (Lit.int .i64 a0).wf = true) (w1 : (Lit.int .i64 a1).wf = true) (w2 : (Lit.int .i64 a2).wf = true) :
    Calls Try.prog 12 #[.int .i64 a0, .int .i64 a1, .int .i64 a2] w fun e w' => e = .returned (.bool true) ∧ Below w.heap.size w w' := by
  obtain ⟨k, h⟩ := P a0 a1 a2 w0 w1 w2
  refine (wharfingerlaw1_AmountUndone.calls k a0 a1 a2 true w h).mono ?_
  rintro e w' ⟨rfl, hd⟩
  exact ⟨rfl, hd⟩

end Go.Proofs.Ytacnekeakicdeaa.PAmountUndone
