/- The page's MayOrder, walked. (printed by gen/rordmay.py) -/
import Derived.Test.YtjlfkpimjjnolaaRows
import Derived.Test.YtjlfkpimjjnolaaOrd
import Derived.Test.YtjlfkpimjjnolaaSay
namespace Go.Proofs.Ytjlfkpimjjnolaa
open Go.RowKit
theorem rid_to (x : Int) (r : Bool) (w : World) (hr : inB 1 999 x = r) : Calls Try.prog 30 #[.int .i64 x] w (Says w (.bool r)) := by
  subst hr
  by_cases h0 : 1 ≤ x
  · have e : Kept (inB 1 999 x = decide (x ≤ 999)) := ⟨by simp [inB, h0]⟩
    go_enter Try.func30, Try.ntmps30
    go_wp2
    go_ret
    exact ⟨by rw [e.out]; rfl, rfl⟩
  · have e : Kept (inB 1 999 x = false) := ⟨by simp [inB, h0]⟩
    go_enter Try.func30, Try.ntmps30
    go_wp2
    go_ret
    exact ⟨by rw [e.out]; rfl, rfl⟩
theorem ritem_to (x : Int) (r : Bool) (w : World) (hr : inB 0 7 x = r) : Calls Try.prog 31 #[.int .i64 x] w (Says w (.bool r)) := by
  subst hr
  by_cases h0 : 0 ≤ x
  · have e : Kept (inB 0 7 x = decide (x < 8)) := ⟨by simp [inB, h0]; omega⟩
    go_enter Try.func31, Try.ntmps31
    go_wp2
    go_ret
    exact ⟨by rw [e.out]; rfl, rfl⟩
  · have e : Kept (inB 0 7 x = false) := ⟨by simp [inB, h0]⟩
    go_enter Try.func31, Try.ntmps31
    go_wp2
    go_ret
    exact ⟨by rw [e.out]; rfl, rfl⟩
theorem rabove_to (x : Int) (r : Bool) (w : World) (hr : inB 1 1000000000 x = r) : Calls Try.prog 32 #[.int .i64 x] w (Says w (.bool r)) := by
  subst hr
  by_cases h0 : 1 ≤ x
  · have e : Kept (inB 1 1000000000 x = decide (x ≤ 1000000000)) := ⟨by simp [inB, h0]⟩
    go_enter Try.func32, Try.ntmps32
    go_wp2
    go_ret
    exact ⟨by rw [e.out]; rfl, rfl⟩
  · have e : Kept (inB 1 1000000000 x = false) := ⟨by simp [inB, h0]⟩
    go_enter Try.func32, Try.ntmps32
    go_wp2
    go_ret
    exact ⟨by rw [e.out]; rfl, rfl⟩
theorem stepsOk_false {seen : List St} {L : List St} {k : Nat} {x : St} (hx : L[k]? = some x) (h : inB 4 6 x.1 = false ∨ some1 x.2 = false ∨ (seen ++ L.take k).any (svc x.1) = true) : stepsOk seen L = false := by
  cases e : stepsOk seen L with
  | false => rfl
  | true =>
    obtain ⟨h1, h2, h3⟩ := stepsOk_split e k x hx
    rcases h with h | h | h
    · rw [h1] at h; cases h
    · rw [h2] at h; cases h
    · rw [h3] at h; cases h
theorem svc_any {s : Int} : ∀ (L : List St) (k : Nat) (x : St), L[k]? = some x → (L.take (k + 1)).any (svc s) = ((L.take k).any (svc s) || svc s x) := by
  intro L k x hx
  rw [List.take_add_one, hx, List.any_append]; simp
set_option maxRecDepth 100000 in
set_option maxHeartbeats 4000000 in
theorem romay_to (o : Ord) (a : Option Addr) (c : Nat) (r : Bool) (w : World) (hL : StRow w a o.steps) (hm : o.steps.length ≤ maxLen) (hc : o.steps.length ≤ c) (hcm : c ≤ maxLen) (hr : o.may = r) :
    Calls Try.prog 13 #[.agg #[.int .i64 o.id, .int .i64 o.item, .int .i64 o.qty, .int .i64 o.client, .int .i64 o.price, .slice a o.steps.length c]] w (fun e w' => e = .returned (.bool r) ∧ Keeps (fun _ => False) w w') := by
  subst hr
  unfold Ord.may
  obtain ⟨i1, i2, i3, i4, i5, L⟩ := o
  simp only at hL hm hc ⊢
  unfold maxLen at hm hcm
  have HL := Kept.mk hL
  have hb0 := Blk.new w 24 [.int .i64 i1, .int .i64 i2, .int .i64 i3, .int .i64 i4, .int .i64 i5, .slice a L.length c]
  have c0 := hb0.cell 0 rfl
  have c1 := hb0.cell 1 rfl
  have c2 := hb0.cell 2 rfl
  have c3 := hb0.cell 3 rfl
  have c4 := hb0.cell 4 rfl
  have c5 := hb0.cell 5 rfl
  have HB0 := Kept.mk hb0
  clear hL hb0
  cases f0 : inB 1 999 i1 with
  | false =>
    have F0 := Kept.mk f0
    clear f0
    go_enter Try.func13, Try.ntmps13
    go_wp2_with fail
    refine (rid_to _ _ _ F0.out).mono ?_
    rintro e _ ⟨rfl, rfl⟩
    go_wp2_with fail
    go_ret
    exact ⟨by simp, (Keeps.refl _ w).alloc _⟩
  | true =>
    have F0 := Kept.mk f0
    clear f0
    cases f1 : inB 0 7 i2 with
    | false =>
      have F1 := Kept.mk f1
      clear f1
      go_enter Try.func13, Try.ntmps13
      go_wp2_with fail
      refine (rid_to _ _ _ F0.out).mono ?_
      rintro e _ ⟨rfl, rfl⟩
      go_wp2_with fail
      refine (ritem_to _ _ _ F1.out).mono ?_
      rintro e _ ⟨rfl, rfl⟩
      go_wp2_with fail
      go_ret
      exact ⟨by simp, (Keeps.refl _ w).alloc _⟩
    | true =>
      have F1 := Kept.mk f1
      clear f1
      cases f2 : inB 0 7 i4 with
      | false =>
        have F2 := Kept.mk f2
        clear f2
        go_enter Try.func13, Try.ntmps13
        go_wp2_with fail
        refine (rid_to _ _ _ F0.out).mono ?_
        rintro e _ ⟨rfl, rfl⟩
        go_wp2_with fail
        refine (ritem_to _ _ _ F1.out).mono ?_
        rintro e _ ⟨rfl, rfl⟩
        go_wp2_with fail
        refine (ritem_to _ _ _ F2.out).mono ?_
        rintro e _ ⟨rfl, rfl⟩
        go_wp2_with fail
        go_ret
        exact ⟨by simp, (Keeps.refl _ w).alloc _⟩
      | true =>
        have F2 := Kept.mk f2
        clear f2
        cases f3 : inB 1 1000000000 i3 with
        | false =>
          have F3 := Kept.mk f3
          clear f3
          go_enter Try.func13, Try.ntmps13
          go_wp2_with fail
          refine (rid_to _ _ _ F0.out).mono ?_
          rintro e _ ⟨rfl, rfl⟩
          go_wp2_with fail
          refine (ritem_to _ _ _ F1.out).mono ?_
          rintro e _ ⟨rfl, rfl⟩
          go_wp2_with fail
          refine (ritem_to _ _ _ F2.out).mono ?_
          rintro e _ ⟨rfl, rfl⟩
          go_wp2_with fail
          refine (rabove_to _ _ _ F3.out).mono ?_
          rintro e _ ⟨rfl, rfl⟩
          go_wp2_with fail
          go_ret
          exact ⟨by rw [show some1 i3 = false from F3.out]; simp, (Keeps.refl _ w).alloc _⟩
        | true =>
          have F3 := Kept.mk f3
          clear f3
          cases f4 : inB 1 1000000000 i5 with
          | false =>
            have F4 := Kept.mk f4
            clear f4
            go_enter Try.func13, Try.ntmps13
            go_wp2_with fail
            refine (rid_to _ _ _ F0.out).mono ?_
            rintro e _ ⟨rfl, rfl⟩
            go_wp2_with fail
            refine (ritem_to _ _ _ F1.out).mono ?_
            rintro e _ ⟨rfl, rfl⟩
            go_wp2_with fail
            refine (ritem_to _ _ _ F2.out).mono ?_
            rintro e _ ⟨rfl, rfl⟩
            go_wp2_with fail
            refine (rabove_to _ _ _ F3.out).mono ?_
            rintro e _ ⟨rfl, rfl⟩
            go_wp2_with fail
            refine (rabove_to _ _ _ F4.out).mono ?_
            rintro e _ ⟨rfl, rfl⟩
            go_wp2_with fail
            go_ret
            exact ⟨by rw [show some1 i5 = false from F4.out]; simp, (Keeps.refl _ w).alloc _⟩
          | true =>
            have F4 := Kept.mk f4
            clear f4
            by_cases h3 : (3 : Int) < L.length
            · have h3d : Kept (decide (L.length ≤ 3) = false) := ⟨by simpa using (by omega : 3 < L.length)⟩
              go_enter Try.func13, Try.ntmps13
              go_wp2_with fail
              refine (rid_to _ _ _ F0.out).mono ?_
              rintro e _ ⟨rfl, rfl⟩
              go_wp2_with fail
              refine (ritem_to _ _ _ F1.out).mono ?_
              rintro e _ ⟨rfl, rfl⟩
              go_wp2_with fail
              refine (ritem_to _ _ _ F2.out).mono ?_
              rintro e _ ⟨rfl, rfl⟩
              go_wp2_with fail
              refine (rabove_to _ _ _ F3.out).mono ?_
              rintro e _ ⟨rfl, rfl⟩
              go_wp2_with fail
              refine (rabove_to _ _ _ F4.out).mono ?_
              rintro e _ ⟨rfl, rfl⟩
              go_wp2_with fail
              go_ret
              exact ⟨by rw [h3d.out]; simp, (Keeps.refl _ w).alloc _⟩
            · have h3d : Kept (decide (L.length ≤ 3) = true) := ⟨by simpa using (by omega : L.length ≤ 3)⟩
              go_enter Try.func13, Try.ntmps13
              go_wp2_with fail
              refine (rid_to _ _ _ F0.out).mono ?_
              rintro e _ ⟨rfl, rfl⟩
              go_wp2_with fail
              refine (ritem_to _ _ _ F1.out).mono ?_
              rintro e _ ⟨rfl, rfl⟩
              go_wp2_with fail
              refine (ritem_to _ _ _ F2.out).mono ?_
              rintro e _ ⟨rfl, rfl⟩
              go_wp2_with fail
              refine (rabove_to _ _ _ F3.out).mono ?_
              rintro e _ ⟨rfl, rfl⟩
              go_wp2_with fail
              refine (rabove_to _ _ _ F4.out).mono ?_
              rintro e _ ⟨rfl, rfl⟩
              go_wp2_with fail
              go_loopw [44] (fun i wr => ∃ k : Nat, k ≤ L.length ∧ i = .int .i64 k ∧ Kept (stepsOk [] L = stepsOk (L.take k) (L.drop k)) ∧ Blk wr w.heap.size 24 [.int .i64 i1, .int .i64 i2, .int .i64 i3, .int .i64 i4, .int .i64 i5, .slice a L.length c] ∧ Keeps (fun _ => False) w wr) (fun i _ => L.length - (intOf i).toNat)
              case atStart => exact ⟨0, Nat.zero_le _, rfl, ⟨by rw [List.drop_zero, List.take_zero]⟩, HB0.out, (Keeps.refl _ w).alloc _⟩
              case round =>
                obtain ⟨k, hk, rfl, hf, hO, hB⟩ := hrel
                have HB := Kept.mk hB
                have HO := Kept.mk hO
                have hz := hO.lt
                have o5 := hO.cell 5 rfl
                clear hB hO c0 c1 c2 c3 c4 c5 HB0
                obtain ⟨wo, rfl⟩ : ∃ wo : World, wo = wr := ⟨_, rfl⟩
                by_cases hlt : k < L.length
                · obtain ⟨x, hx⟩ : ∃ x, L[k]? = some x := ⟨_, List.getElem?_eq_getElem hlt⟩
                  have hd : Kept (L.drop k = x :: L.drop (k + 1)) := ⟨by rw [List.drop_eq_getElem_cons hlt]; rw [List.getElem?_eq_getElem hlt] at hx; simp only [Option.some.injEq] at hx; rw [hx]⟩
                  have Hx := Kept.mk hx
                  obtain ⟨g, off, rfl, hl, d0, d1⟩ := HL.out k x hx
                  rw [← HB.out.cell (p := ⟨g, off + k * 2, none⟩) hl (fun h => h)] at d0
                  rw [← HB.out.cell (p := ⟨g, off + k * 2 + 1, none⟩) hl (fun h => h)] at d1
                  obtain ⟨x1, x2⟩ := x
                  simp only at d0 d1
                  clear hx
                  by_cases e1 : x1 < 4
                  · have E1 : Kept (inB 4 6 x1 = false) := ⟨inB_no (by omega)⟩
                    go_wp2_with fail
                    go_ret
                    exact ⟨by rw [stepsOk_false Hx.out (.inl E1.out)]; simp, HB.out.alloc _⟩
                  by_cases e2 : 6 < x1
                  · have E1 : Kept (inB 4 6 x1 = false) := ⟨inB_no (by omega)⟩
                    go_wp2_with fail
                    go_ret
                    exact ⟨by rw [stepsOk_false Hx.out (.inl E1.out)]; simp, HB.out.alloc _⟩
                  have E1 : Kept (inB 4 6 x1 = true) := ⟨(inB_iff _ _ _).2 (by omega)⟩
                  cases e3 : inB 1 1000000000 x2 with
                  | false =>
                    have E3 := Kept.mk e3
                    clear e3
                    go_wp2_with fail
                    refine (rabove_to _ _ _ E3.out).mono ?_
                    rintro e _ ⟨rfl, rfl⟩
                    go_wp2_with fail
                    go_ret
                    exact ⟨by rw [stepsOk_false Hx.out (.inr (.inl E3.out))]; simp, HB.out.alloc _⟩
                  | true =>
                    have E3 := Kept.mk e3
                    clear e3
                    have hkc : (k : Int) ≤ c := by omega
                    go_wp2_with fail
                    refine (rabove_to _ _ _ E3.out).mono ?_
                    rintro e _ ⟨rfl, rfl⟩
                    go_wp2_with fail
                    go_loopw [68] (fun i wr => ∃ j : Nat, j ≤ k ∧ i = .int .i64 j ∧ Kept ((L.take j).any (svc x1) = false) ∧ Keeps (fun _ => False) (wo.alloc (.cells #[.int .i64 x1, .int .i64 x2] 45)) wr) (fun i _ => k - (intOf i).toNat)
                    case atStart => exact ⟨0, Nat.zero_le _, rfl, ⟨rfl⟩, Keeps.refl _ _⟩
                    case round =>
                      obtain ⟨j, hj, rfl, hn, hB2⟩ := hrel
                      have HB2 := Kept.mk hB2
                      have hz2 := hB2.size
                      rw [World.size_alloc] at hz2
                      have HS := Kept.mk ((Blk.new wo 45 [.int .i64 x1, .int .i64 x2]).keeps hB2 (fun h => h))
                      have s0 := HS.out.cell 0 rfl
                      have hz3 := HS.out.lt
                      clear hB2
                      by_cases hjk : j < k
                      · obtain ⟨y, hy⟩ : ∃ y, L[j]? = some y := ⟨_, List.getElem?_eq_getElem (by omega)⟩
                        have Hy := Kept.mk hy
                        obtain ⟨g', off', e4, hl', d2, d3⟩ := ((HL.out.quiet HB.out).alloc (.cells #[.int .i64 x1, .int .i64 x2] 45)).quiet HB2.out j y hy
                        simp only [Option.some.injEq, Addr.mk.injEq, and_true] at e4
                        obtain ⟨rfl, rfl⟩ := e4
                        obtain ⟨y1, y2⟩ := y
                        simp only at d2 d3
                        clear hy
                        by_cases e5 : y1 = x1
                        · have E5 := Kept.mk e5
                          have e6 : (y1 == x1) = true := by simpa using e5
                          clear e5
                          go_wp2_with fail
                          go_ret
                          have ha : (L.take k).any (svc x1) = true := by
                            refine List.any_eq_true.2 ⟨(y1, y2), ?_, by simp [svc, E5.out]⟩
                            have := Hy.out
                            exact List.mem_of_getElem? (i := j) (by rw [List.getElem?_take_of_lt hjk]; exact this)
                          exact ⟨by rw [stepsOk_false Hx.out (.inr (.inr (by rw [List.nil_append]; exact ha)))]; simp, ((HB.out.alloc _).trans HB2.out).alloc _⟩
                        · have E5 : Kept (svc x1 (y1, y2) = false) := ⟨by simp [svc, e5]⟩
                          have e6 : (y1 == x1) = false := by simpa using e5
                          clear e5
                          go_wp2_with fail
                          go_roundw
                          case rel => exact ⟨j + 1, by omega, by go_num, ⟨by rw [svc_any _ _ _ Hy.out, hn.out, E5.out]; rfl⟩, HB2.out.alloc _⟩
                          case measure => simp [intOf]; omega
                      · obtain rfl : j = k := by omega
                        go_wp2_with fail
                        go_roundw
                        case rel =>
                          refine ⟨j + 1, by omega, by go_num, ⟨?_⟩, (HO.out.alloc _).keeps HB2.out (fun h => h), (HB.out.alloc _).trans HB2.out⟩
                          have ht : L.take (j + 1) = L.take j ++ [(x1, x2)] := by rw [List.take_add_one, Hx.out]; rfl
                          have e4 : (L.take j).any (svc x1) = false := hn.out
                          have e7 : some1 x2 = true := E3.out
                          rw [hf.out, hd.out, ht]
                          simp only [stepsOk]
                          rw [E1.out, e7, e4]; rfl
                        case measure => simp [intOf]; omega
                · have hs : Kept (stepsOk [] L = true) := ⟨by rw [hf.out, List.drop_of_length_le (by omega)]; rfl⟩
                  go_wp2_with fail
                  go_ret
                  have f3 : some1 i3 = true := F3.out
                  have f4 : some1 i5 = true := F4.out
                  exact ⟨by rw [hs.out, h3d.out, f3, f4]; rfl, HB.out⟩
end Go.Proofs.Ytjlfkpimjjnolaa
