/- Package order's May, walked. (printed by gen/ordmay.py) -/
import Derived.Test.YtjlfkpimjjnolaaOrd2
import Derived.Test.YtjlfkpimjjnolaaMay
namespace Go.Proofs.Ytjlfkpimjjnolaa
open Go.RowKit
theorem in_to (x lo hi : Int) (r : Bool) (w : World) (hr : inB lo hi x = r) : Calls Try.prog 43 #[.int .i64 x, .int .i64 lo, .int .i64 hi] w (Says w (.bool r)) := by
  subst hr
  by_cases h0 : lo ≤ x
  · have e : Kept (inB lo hi x = decide (x ≤ hi)) := ⟨by simp [inB, h0]⟩
    go_enter Try.func43, Try.ntmps43
    go_wp2
    go_ret
    exact ⟨by rw [e.out]; rfl, rfl⟩
  · have e : Kept (inB lo hi x = false) := ⟨by simp [inB, h0]⟩
    go_enter Try.func43, Try.ntmps43
    go_wp2
    go_ret
    exact ⟨by rw [e.out]; rfl, rfl⟩
theorem some_to (x : Int) (r : Bool) (w : World) (hr : some1 x = r) : Calls Try.prog 44 #[.int .i64 x] w (Says w (.bool r)) := by
  subst hr
  by_cases h0 : 0 < x
  · have e : Kept (mayB x = some1 x) := ⟨by
      unfold some1 inB mayB
      rw [show decide (0 ≤ x) = true by simpa using (by omega : 0 ≤ x), show decide (1 ≤ x) = true by simpa using (by omega : 1 ≤ x)]⟩
    go_enter Try.func44, Try.ntmps44
    go_wp2_with fail
    refine (may_to _ _ _ e.out).mono ?_
    rintro e _ ⟨rfl, rfl⟩
    go_wp2_with fail
    go_ret
    exact ⟨rfl, rfl⟩
  · have e : Kept (some1 x = false) := ⟨inB_no (by omega)⟩
    go_enter Try.func44, Try.ntmps44
    go_wp2
    go_ret
    exact ⟨by rw [e.out]; rfl, rfl⟩
set_option maxRecDepth 100000 in
set_option maxHeartbeats 4000000 in
theorem omay_to (o : Ord) (a : Option Addr) (c : Nat) (r : Bool) (w : World) (hL : StRow w a o.steps) (hm : o.steps.length ≤ maxLen) (hr : o.may = r) :
    Calls Try.prog 27 #[.agg #[.int .i64 o.id, .int .i64 o.item, .int .i64 o.qty, .int .i64 o.client, .int .i64 o.price, .slice a o.steps.length c]] w (fun e w' => e = .returned (.bool r) ∧ Keeps (fun _ => False) w w') := by
  subst hr
  unfold Ord.may
  obtain ⟨i1, i2, i3, i4, i5, L⟩ := o
  simp only at hL hm ⊢
  unfold maxLen at hm
  have HL := Kept.mk hL
  have hb0 := Blk.new w 24 [.int .i64 i1, .int .i64 i2, .int .i64 i3, .int .i64 i4, .int .i64 i5, .slice a L.length c]
  have c0 := hb0.cell 5 rfl
  have HB0 := Kept.mk hb0
  clear hL hb0
  go_enter Try.func27, Try.ntmps27
  go_wp2_with fail
  go_loopw [8] (fun i wr => ∃ k : Nat, k ≤ L.length ∧ i = .int .i64 k ∧ Kept (stepsOk [] L = stepsOk (L.take k) (L.drop k)) ∧ Blk wr w.heap.size 24 [.int .i64 i1, .int .i64 i2, .int .i64 i3, .int .i64 i4, .int .i64 i5, .slice a L.length c] ∧ Keeps (fun _ => False) w wr) (fun i _ => L.length - (intOf i).toNat)
  case atStart => exact ⟨0, Nat.zero_le _, rfl, ⟨by rw [List.drop_zero, List.take_zero]⟩, HB0.out, (Keeps.refl _ w).alloc _⟩
  case round =>
    obtain ⟨k, hk, rfl, hf, hO, hB⟩ := hrel
    have HB := Kept.mk hB
    have HO := Kept.mk hO
    have hz := hO.lt
    have o0 := hO.cell 0 rfl
    have o1 := hO.cell 1 rfl
    have o2 := hO.cell 2 rfl
    have o3 := hO.cell 3 rfl
    have o4 := hO.cell 4 rfl
    have o5 := hO.cell 5 rfl
    clear hB hO
    by_cases hlt : k < L.length
    · obtain ⟨x, hx⟩ : ∃ x, L[k]? = some x := ⟨_, List.getElem?_eq_getElem hlt⟩
      have hd : Kept (L.drop k = x :: L.drop (k + 1)) := ⟨by rw [List.drop_eq_getElem_cons hlt]; rw [List.getElem?_eq_getElem hlt] at hx; simp only [Option.some.injEq] at hx; rw [hx]⟩
      have Hx := Kept.mk hx
      obtain ⟨g, off, rfl, hl, c0, c1⟩ := HL.out k x hx
      rw [← HB.out.cell (p := ⟨g, off + k * 2, none⟩) hl (fun h => h)] at c0
      rw [← HB.out.cell (p := ⟨g, off + k * 2 + 1, none⟩) hl (fun h => h)] at c1
      obtain ⟨x1, x2⟩ := x
      simp only at c0 c1
      clear hx
      cases e1 : inB 4 6 x1 with
      | false =>
        have E1 := Kept.mk e1
        clear e1
        go_wp2_with fail
        refine (in_to _ _ _ _ _ E1.out).mono ?_
        rintro e _ ⟨rfl, rfl⟩
        go_wp2_with fail
        go_ret
        exact ⟨by rw [hf.out, hd.out]; simp [stepsOk, E1.out], HB.out.alloc _⟩
      | true =>
        have E1 := Kept.mk e1
        clear e1
        cases e2 : some1 x2 with
        | false =>
          have E2 := Kept.mk e2
          clear e2
          go_wp2_with fail
          refine (in_to _ _ _ _ _ E1.out).mono ?_
          rintro e _ ⟨rfl, rfl⟩
          go_wp2_with fail
          refine (some_to _ _ _ E2.out).mono ?_
          rintro e _ ⟨rfl, rfl⟩
          go_wp2_with fail
          go_ret
          exact ⟨by rw [hf.out, hd.out]; simp [stepsOk, E1.out, E2.out], HB.out.alloc _⟩
        | true =>
          have E2 := Kept.mk e2
          clear e2
          have HLa := Kept.mk (((HL.out.quiet HB.out).alloc (.cells #[.int .i64 x1, .int .i64 x2] 45)))
          by_cases e3 : atOf L x1 = k
          · have E3 := Kept.mk e3
            have E4 := Kept.mk ((atOf_first Hx.out).1 e3)
            clear e3
            go_wp2_with fail
            refine (in_to _ _ _ _ _ E1.out).mono ?_
            rintro e _ ⟨rfl, rfl⟩
            go_wp2_with fail
            refine (some_to _ _ _ E2.out).mono ?_
            rintro e _ ⟨rfl, rfl⟩
            go_wp2_with fail
            refine (at_to ⟨i1, i2, i3, i4, i5, L⟩ _ c x1 k _ HLa.out hm E3.out).mono ?_
            rintro e w1 ⟨rfl, k1⟩
            go_wp2_with fail
            go_roundw
            case rel =>
              refine ⟨k + 1, by omega, by go_num, ⟨?_⟩, (HO.out.alloc _).keeps k1 (fun h => h), (HB.out.alloc _).trans k1⟩
              have ht : L.take (k + 1) = L.take k ++ [(x1, x2)] := by rw [List.take_add_one, Hx.out]; rfl
              have e4 : (L.take k).any (svc x1) = false := E4.out
              rw [hf.out, hd.out, ht]
              simp only [stepsOk]
              rw [E1.out, E2.out, e4]; rfl
            case measure => simp [intOf]; omega
          · have e4 : Kept ((L.take k).any (svc x1) = true) := ⟨by
              cases h : (L.take k).any (svc x1) with
              | true => rfl
              | false => exact absurd ((atOf_first Hx.out).2 h) e3⟩
            obtain ⟨q, hq⟩ : ∃ q, Kept (atOf L x1 = q) := ⟨_, ⟨rfl⟩⟩
            rw [hq.out] at e3
            have e5 : (q == (k : Int)) = false := by simpa using e3
            have e6 : (q != (k : Int)) = true := by simpa using e3
            clear e3
            go_wp2_with fail
            refine (in_to _ _ _ _ _ E1.out).mono ?_
            rintro e _ ⟨rfl, rfl⟩
            go_wp2_with fail
            refine (some_to _ _ _ E2.out).mono ?_
            rintro e _ ⟨rfl, rfl⟩
            go_wp2_with fail
            refine (at_to ⟨i1, i2, i3, i4, i5, L⟩ _ c x1 q _ HLa.out hm hq.out).mono ?_
            rintro e w1 ⟨rfl, k1⟩
            go_wp2_with fail
            go_ret
            exact ⟨by rw [hf.out, hd.out]; simp [stepsOk, e4.out], (HB.out.alloc _).trans k1⟩
    · have hs : Kept (stepsOk [] L = true) := ⟨by rw [hf.out, List.drop_of_length_le (by omega)]; rfl⟩
      by_cases h3 : (L.length : Int) ≤ 3
      · have h3d : Kept (decide (L.length ≤ 3) = true) := ⟨by simpa using (by omega : L.length ≤ 3)⟩
        cases f0 : inB 1 999 i1 with
        | false =>
          have F0 := Kept.mk f0
          clear f0
          go_wp2_with fail
          refine (in_to _ _ _ _ _ F0.out).mono ?_
          rintro e _ ⟨rfl, rfl⟩
          go_wp2_with fail
          go_ret
          exact ⟨by simp [F0.out], HB.out⟩
        | true =>
          have F0 := Kept.mk f0
          clear f0
          cases f1 : inB 0 7 i2 with
          | false =>
            have F1 := Kept.mk f1
            clear f1
            go_wp2_with fail
            refine (in_to _ _ _ _ _ F0.out).mono ?_
            rintro e _ ⟨rfl, rfl⟩
            go_wp2_with fail
            refine (in_to _ _ _ _ _ F1.out).mono ?_
            rintro e _ ⟨rfl, rfl⟩
            go_wp2_with fail
            go_ret
            exact ⟨by simp [F0.out, F1.out], HB.out⟩
          | true =>
            have F1 := Kept.mk f1
            clear f1
            cases f2 : inB 0 7 i4 with
            | false =>
              have F2 := Kept.mk f2
              clear f2
              go_wp2_with fail
              refine (in_to _ _ _ _ _ F0.out).mono ?_
              rintro e _ ⟨rfl, rfl⟩
              go_wp2_with fail
              refine (in_to _ _ _ _ _ F1.out).mono ?_
              rintro e _ ⟨rfl, rfl⟩
              go_wp2_with fail
              refine (in_to _ _ _ _ _ F2.out).mono ?_
              rintro e _ ⟨rfl, rfl⟩
              go_wp2_with fail
              go_ret
              exact ⟨by simp [F0.out, F1.out, F2.out], HB.out⟩
            | true =>
              have F2 := Kept.mk f2
              clear f2
              cases f3 : some1 i3 with
              | false =>
                have F3 := Kept.mk f3
                clear f3
                go_wp2_with fail
                refine (in_to _ _ _ _ _ F0.out).mono ?_
                rintro e _ ⟨rfl, rfl⟩
                go_wp2_with fail
                refine (in_to _ _ _ _ _ F1.out).mono ?_
                rintro e _ ⟨rfl, rfl⟩
                go_wp2_with fail
                refine (in_to _ _ _ _ _ F2.out).mono ?_
                rintro e _ ⟨rfl, rfl⟩
                go_wp2_with fail
                refine (some_to _ _ _ F3.out).mono ?_
                rintro e _ ⟨rfl, rfl⟩
                go_wp2_with fail
                go_ret
                exact ⟨by simp [F0.out, F1.out, F2.out, F3.out], HB.out⟩
              | true =>
                have F3 := Kept.mk f3
                clear f3
                cases f4 : some1 i5 with
                | false =>
                  have F4 := Kept.mk f4
                  clear f4
                  go_wp2_with fail
                  refine (in_to _ _ _ _ _ F0.out).mono ?_
                  rintro e _ ⟨rfl, rfl⟩
                  go_wp2_with fail
                  refine (in_to _ _ _ _ _ F1.out).mono ?_
                  rintro e _ ⟨rfl, rfl⟩
                  go_wp2_with fail
                  refine (in_to _ _ _ _ _ F2.out).mono ?_
                  rintro e _ ⟨rfl, rfl⟩
                  go_wp2_with fail
                  refine (some_to _ _ _ F3.out).mono ?_
                  rintro e _ ⟨rfl, rfl⟩
                  go_wp2_with fail
                  refine (some_to _ _ _ F4.out).mono ?_
                  rintro e _ ⟨rfl, rfl⟩
                  go_wp2_with fail
                  go_ret
                  exact ⟨by simp [F0.out, F1.out, F2.out, F3.out, F4.out], HB.out⟩
                | true =>
                  have F4 := Kept.mk f4
                  clear f4
                  go_wp2_with fail
                  refine (in_to _ _ _ _ _ F0.out).mono ?_
                  rintro e _ ⟨rfl, rfl⟩
                  go_wp2_with fail
                  refine (in_to _ _ _ _ _ F1.out).mono ?_
                  rintro e _ ⟨rfl, rfl⟩
                  go_wp2_with fail
                  refine (in_to _ _ _ _ _ F2.out).mono ?_
                  rintro e _ ⟨rfl, rfl⟩
                  go_wp2_with fail
                  refine (some_to _ _ _ F3.out).mono ?_
                  rintro e _ ⟨rfl, rfl⟩
                  go_wp2_with fail
                  refine (some_to _ _ _ F4.out).mono ?_
                  rintro e _ ⟨rfl, rfl⟩
                  go_wp2_with fail
                  go_ret
                  exact ⟨by rw [hs.out, h3d.out, F0.out, F1.out, F2.out, F3.out, F4.out]; rfl, HB.out⟩
      · have h3d : Kept (decide (L.length ≤ 3) = false) := ⟨by simpa using (by omega : 3 < L.length)⟩
        go_wp2_with fail
        go_ret
        exact ⟨by rw [h3d.out]; simp, HB.out⟩
end Go.Proofs.Ytjlfkpimjjnolaa
