/- The law BellHangs, walked. -/
import Derived.Test.YtleipaiojefekaaTowerIds
namespace Go.Proofs.Ytleipaiojefekaa
open Go.RowKit
theorem hg_new {T A : Int} (h1 : 1 ≤ A) (h2 : A ≤ 999) : (Tw.mk T []).hang A = (true, ⟨T, [(A, T)]⟩) := by
  unfold Tw.hang
  rw [if_pos ⟨h1, h2, rfl⟩]
  rfl
theorem get_one (A v : Int) : MP.get [(A, v)] A = some v := by rw [MP.get_cons, if_pos rfl]
theorem put_one (A v u : Int) : MP.put [(A, v)] A u = [(A, u)] := by simp [MP.put]
theorem del_one (A v : Int) : MP.del [(A, v)] A = [] := by simp [MP.del]
theorem hg_two (T A v : Int) : (Tw.mk T [(A, v)]).hang A = (false, ⟨T, [(A, v)]⟩) := by
  unfold Tw.hang
  rw [if_neg (by simp [get_one])]
theorem hg_bad {T A : Int} (h : ¬ (1 ≤ A ∧ A ≤ 999)) : (Tw.mk T []).hang A = (false, ⟨T, []⟩) := by
  unfold Tw.hang
  rw [if_neg (fun e => h ⟨e.1, e.2.1⟩)]
theorem ag_none (T A : Int) : (Tw.mk T []).again A = (false, ⟨T, []⟩) := rfl
theorem rg_none (T A : Int) : (Tw.mk T []).ring A = ((false, false), ⟨T, []⟩) := rfl
theorem rg_one {T A v : Int} (h : v ≠ 0) : (Tw.mk T [(A, v)]).ring A = ((true, false), ⟨T, [(A, v - 1)]⟩) := by
  unfold Tw.ring
  simp only [get_one, if_neg h, put_one]
theorem rg_zero {T A v : Int} (h : v = 0) : (Tw.mk T [(A, v)]).ring A = ((true, true), ⟨T, [(A, v)]⟩) := by
  subst h
  unfold Tw.ring
  simp only [get_one, if_true]
theorem ct_one (T A v : Int) : (Tw.mk T [(A, v)]).cut A = (true, ⟨T, []⟩) := by
  unfold Tw.cut
  simp only [get_one, del_one]
  rfl
theorem tw_ok1 {T A v : Int} (h0 : 1 ≤ T) (h1 : T ≤ 20) (v0 : 0 ≤ v) (v1 : v ≤ 20) : (Tw.mk T [(A, v)]).Ok := ⟨h0, h1, (fun x u h => by
  rw [MP.get_cons] at h
  split at h
  · cases h; omega
  · rw [MP.get_nil] at h; cases h), by simp [MP.keys]⟩
theorem tw_ok0 {T : Int} (h0 : 1 ≤ T) (h1 : T ≤ 20) : (Tw.mk T []).Ok := ⟨h0, h1, (fun x u h => by simp [MP.get_nil] at h), by simp [MP.keys]⟩
theorem hangs_none {p : Array Value} (T : Int) (w : World) (h : Calls Try.prog 43 p w fun e w2 => ∃ v, e = .returned v ∧ IdsTo w w2 v (MP.rise (Tw.mk T []).L)) : Calls Try.prog 43 p w fun e w2 => ∃ v, e = .returned v ∧ IdsTo w w2 v [] := by
  have e : MP.rise (Tw.mk T []).L = [] := by simp [MP.rise, MP.keys]
  rw [e] at h
  exact h
set_option maxRecDepth 100000 in
set_option maxHeartbeats 4000000 in
theorem hangs_any (t A r : Int) (w : World) : Calls Try.prog 10 #[.int .i64 t, .int .i64 A, .int .i64 r] w (Yes w) := by
  have hT := mod_above t 20 1 (by omega) (by omega) (by omega) (by omega)
  have hR := mod_range r 30 (by omega) (by omega)
  go_enter Try.func10, Try.ntmps10
  go_wp2_with fail
  generalize wrap64 (1 + wrap64 ((IntKind.u64.wrap t).tmod 20)) = T at hT ⊢
  generalize wrap64 ((IntKind.u64.wrap r).tmod 30) = R at hR ⊢
  have Hnew : Kept (Tw.new T = ⟨T, []⟩) := ⟨Tw.new_n (by omega) (by omega)⟩
  have ok0 := Kept.mk (tw_ok0 (T := T) (by omega) (by omega))
  refine (bellNew_to _ _ _ Hnew.out).mono ?_
  rintro e w1 ⟨rfl, ⟨h1, z1⟩, k1⟩
  have B1 : Below w.heap.size w w1 := k1.below (Nat.le_refl _) (fun _ h => h.elim)
  have H1 := Kept.mk h1
  have hz1 : w.heap.size + 3 ≤ w1.heap.size := by omega
  clear h1 k1 z1
  by_cases hA : 1 ≤ A ∧ A ≤ 999
  · obtain ⟨a1, a2⟩ := hA
    have Hr0 := Kept.mk (rg_none T A)
    have Hh := Kept.mk (hg_new (T := T) a1 a2)
    have Hhh := Kept.mk (hg_two T A T)
    go_wp2_with fail
    refine (ring_to _ _ _ _ _ _ _ _ H1.out ok0.out Hr0.out).mono ?_
    rintro e w2 ⟨rfl, ⟨h2, z2⟩, k2⟩
    have B2 : Below w.heap.size w w2 := B1.trans (k2.below B1.size (fun k e => by omega))
    clear k2
    go_wp2_with fail
    refine (hang_to _ _ _ _ _ _ _ h2 Hh.out).mono ?_
    rintro e w3 ⟨rfl, ⟨h3, z3⟩, k3⟩
    have B3 : Below w.heap.size w w3 := B2.trans (k3.below B2.size (fun k e => by omega))
    clear k3
    go_wp2_with fail
    refine (hang_to _ _ _ _ _ _ _ h3 Hhh.out).mono ?_
    rintro e w4 ⟨rfl, ⟨h4, z4⟩, k4⟩
    have B4 : Below w.heap.size w w4 := B3.trans (k4.below B3.size (fun k e => by omega))
    have hz4 : w.heap.size + 3 ≤ w4.heap.size := by omega
    clear k4 z2 z3 z4 h2 h3 B1 B2 B3
    go_wp2_with fail
    go_loopw [10, 11, 12, 64] (fun _ _ _ i wq => ∃ (j : Nat) (v : Int), (j : Int) ≤ R ∧ i = .int .i64 j ∧ (v = T - j ∨ v = 0) ∧ (0 < v → v = T - j) ∧ (v = 0 → T ≤ j) ∧ 0 ≤ v ∧ v ≤ 20 ∧ Kept (TwAt wq (w.heap.size + 2) (w.heap.size + 1) ⟨T, [(A, v)]⟩) ∧ Kept (Below w.heap.size w wq) ∧ w.heap.size + 3 ≤ wq.heap.size) (fun _ _ _ i _ => (R - intOf i).toNat)
    case atStart => exact ⟨0, T, by omega, rfl, by omega, by omega, by omega, by omega, by omega, ⟨h4⟩, ⟨B4⟩, hz4⟩
    case round =>
      clear h4 B4 hz4
      obtain ⟨j, v, hj, rfl, hv, hv1, hv2, v0, v1, HT, HB, hz⟩ := hrel
      have hb := HB.out.size
      have okv := Kept.mk (tw_ok1 (T := T) (A := A) (v := v) (by omega) (by omega) (by omega) (by omega))
      by_cases hlj : (j : Int) < R
      · by_cases hv0 : v = 0
        · have hTj := hv2 hv0
          have Hq := Kept.mk (rg_zero (T := T) (A := A) hv0)
          have Hv0 := Kept.mk hv0
          clear hv hv1 hv2 hv0
          go_wp2_with fail
          refine (ring_to _ _ _ _ _ _ _ _ HT.out okv.out Hq.out).mono ?_
          rintro e w5 ⟨rfl, ⟨h5, z5⟩, k5⟩
          have B5 : Below w.heap.size w w5 := HB.out.trans (k5.below hb (fun k e => by omega))
          clear k5
          go_wp2_with fail
          go_roundw
          case rel => exact ⟨j + 1, v, by omega, by go_num, .inr Hv0.out, (fun h => by have := Hv0.out; omega), (fun _ => by omega), by omega, by omega, ⟨h5⟩, ⟨B5⟩, by omega⟩
          case measure => simp [intOf]; omega
        · have hvj := hv1 (by omega)
          have hjT : (j : Int) < T := by omega
          have hjT' : ¬ T ≤ (j : Int) := by omega
          have Hq := Kept.mk (rg_one (T := T) (A := A) hv0)
          clear hv hv1 hv2 hv0
          go_wp2_with fail
          refine (ring_to _ _ _ _ _ _ _ _ HT.out okv.out Hq.out).mono ?_
          rintro e w5 ⟨rfl, ⟨h5, z5⟩, k5⟩
          have B5 : Below w.heap.size w w5 := HB.out.trans (k5.below hb (fun k e => by omega))
          clear k5
          go_wp2_with fail
          go_roundw
          case rel => exact ⟨j + 1, v - 1, by omega, by go_num, by omega, by omega, by omega, by omega, by omega, ⟨h5⟩, ⟨B5⟩, by omega⟩
          case measure => simp [intOf]; omega
      · have Hct := Kept.mk (ct_one T A v)
        have Hr1 := Kept.mk (rg_one (T := T) (A := A) (v := T) (by omega))
        have ok1 := Kept.mk (tw_ok1 (T := T) (A := A) (v := T) (by omega) (by omega) (by omega) (by omega))
        clear hv hv1 hv2
        go_wp2_with fail
        refine (cut_to _ _ _ _ _ _ _ HT.out Hct.out).mono ?_
        rintro e w5 ⟨rfl, ⟨h5, z5⟩, k5⟩
        have B5 : Below w.heap.size w w5 := HB.out.trans (k5.below hb (fun k e => by omega))
        have H5 := Kept.mk h5
        clear k5 h5
        go_wp2_with fail
        refine (ids_to _ 3 [] _ (by omega) (by simp) (fun wq kq => hangs_none _ _ (ids_tower _ _ _ _ (H5.out.keeps kq (fun h => h) (fun h => h)) (fun x hx => by simp [MP.keys] at hx)))).mono ?_
        rintro e w6 ⟨⟨v6, rfl, hO⟩, k6⟩
        obtain ⟨va, vc, rfl, hvl, hvm⟩ := hO.slice
        have H6 := Kept.mk (H5.out.keeps k6 (fun h => h) (fun h => h))
        have B6 : Below w.heap.size w w6 := B5.trans (k6.below B5.size (fun _ h => h.elim))
        have z6 := k6.size
        clear k6 hO
        go_wp2_with fail
        refine (hang_to _ _ _ _ _ _ _ H6.out Hh.out).mono ?_
        rintro e w7 ⟨rfl, ⟨h7, z7⟩, k7⟩
        have B7 : Below w.heap.size w w7 := B6.trans (k7.below B6.size (fun k e => by omega))
        clear k7
        go_wp2_with fail
        refine (ring_to _ _ _ _ _ _ _ _ h7 ok1.out Hr1.out).mono ?_
        rintro e w8 ⟨rfl, ⟨h8, z8⟩, k8⟩
        have B8 : Below w.heap.size w w8 := B7.trans (k8.below B7.size (fun k e => by omega))
        clear k8
        go_wp2_with fail
        refine (bawake_any _).mono ?_
        rintro e w11 ⟨rfl, b11⟩
        go_wp2_with fail
        go_ret
        exact ⟨rfl, B8.trans (b11.mono B8.size)⟩
  · have Hh := Kept.mk (hg_bad (T := T) hA)
    have Ha := Kept.mk (ag_none T A)
    have hA' : A < 1 ∨ 999 < A := by omega
    clear hA
    rcases hA' with hA' | hA'
    all_goals
      go_wp2_with fail
      refine (hang_to _ _ _ _ _ _ _ H1.out Hh.out).mono ?_
      rintro e w2 ⟨rfl, ⟨h2, z2⟩, k2⟩
      have B2 : Below w.heap.size w w2 := B1.trans (k2.below B1.size (fun k e => by omega))
      clear k2 z2
      go_wp2_with fail
      refine (again_to _ _ _ _ _ _ _ h2 Ha.out).mono ?_
      rintro e w3 ⟨rfl, ⟨h3, z3⟩, k3⟩
      have B3 : Below w.heap.size w w3 := B2.trans (k3.below B2.size (fun k e => by omega))
      clear k3 z3
      go_wp2_with fail
      refine (bawake_any _).mono ?_
      rintro e w11 ⟨rfl, b11⟩
      go_wp2_with fail
      go_ret
      exact ⟨rfl, B3.trans (b11.mono B3.size)⟩
end Go.Proofs.Ytleipaiojefekaa
