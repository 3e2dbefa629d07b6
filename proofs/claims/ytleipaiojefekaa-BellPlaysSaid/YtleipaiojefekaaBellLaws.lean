/- The laws of layer 18 that name no row of ids, walked: awake, BellOften. (printed by gen/belloften.py) -/
import Derived.Test.YtleipaiojefekaaBell
namespace Go.Proofs.Ytleipaiojefekaa
open Go.RowKit
theorem bellNew_to (n : Int) (s : Tw) (w : World) (h : Tw.new n = s) : Calls Try.prog 20 #[.int .i64 n] w (Rets w (fun _ => False) (.pointer (some ⟨w.heap.size + 2, 0, none⟩)) fun w' => TwAt w' (w.heap.size + 2) (w.heap.size + 1) s ∧ w'.heap.size = w.heap.size + 3) := by
  subst h; exact bellNew_any n w
structure Tw.Inv (s : Tw) (T A v : Int) : Prop where
  ok : s.Ok
  n : s.n = T
  get : MP.get s.L A = some v
theorem Tw.hang_none {s : Tw} (h : s.Ok) {A : Int} (h1 : 1 ≤ A) (h2 : A ≤ 999) (hg : MP.get s.L A = none) : ∃ s', Kept (s.hang A = (true, s')) ∧ s'.Inv s.n A s.n := by
  have ok := Tw.hang_ok h A
  have e : s.hang A = (true, ⟨s.n, MP.put s.L A s.n⟩) := by unfold Tw.hang; rw [if_pos ⟨h1, h2, hg⟩]
  rw [e] at ok
  exact ⟨_, ⟨e⟩, ok, rfl, by simp only [MP.get_put, if_true]⟩
theorem Tw.hang_other {s : Tw} {T A v : Int} (h : s.Inv T A v) {O : Int} (hO : O ≠ A) : ∃ r s', Kept (s.hang O = (r, s')) ∧ s'.Inv T A v := by
  have ok := Tw.hang_ok h.ok O
  refine ⟨(s.hang O).1, (s.hang O).2, ⟨rfl⟩, ok, ?_, ?_⟩
  · unfold Tw.hang; split <;> exact h.n
  · unfold Tw.hang
    split
    · simp only [MP.get_put]; rw [if_neg (Ne.symm hO)]; exact h.get
    · exact h.get
theorem Tw.hang_some {s : Tw} {A : Int} (hg : (MP.get s.L A).isSome = true) : s.hang A = (false, s) := by
  unfold Tw.hang; rw [if_neg (by cases h : MP.get s.L A <;> simp_all)]
theorem Tw.Inv.ring {s : Tw} {T A v : Int} (h : s.Inv T A v) (hv : v ≠ 0) : ∃ s', Kept (s.ring A = ((true, false), s')) ∧ s'.Inv T A (v - 1) := by
  have ok := Tw.ring_ok h.ok A
  have e : s.ring A = ((true, false), ⟨s.n, MP.put s.L A (v - 1)⟩) := by unfold Tw.ring; rw [h.get]; simp only; rw [if_neg hv]
  rw [e] at ok
  exact ⟨_, ⟨e⟩, ok, h.n, by simp only [MP.get_put, if_true]⟩
theorem inv_step {s : Tw} {T A : Int} {j : Nat} (h : s.Inv T A (T - j - 1)) : s.Inv T A (T - ((j + 1 : Nat) : Int)) := by
  rw [show T - ((j + 1 : Nat) : Int) = T - (j : Int) - 1 by omega]; exact h
theorem Tw.Inv.last {s : Tw} {T A : Int} (h : s.Inv T A 0) : s.ring A = ((true, true), s) := by
  unfold Tw.ring; rw [h.get]; rfl
theorem Tw.Inv.other {s : Tw} {T A v : Int} (h : s.Inv T A v) {O : Int} (hO : O ≠ A) : ∃ r q s', Kept (s.ring O = ((r, q), s')) ∧ s'.Inv T A v := by
  have ok := Tw.ring_ok h.ok O
  refine ⟨(s.ring O).1.1, (s.ring O).1.2, (s.ring O).2, ⟨rfl⟩, ok, ?_, ?_⟩
  · unfold Tw.ring
    split
    · exact h.n
    · split <;> exact h.n
  · unfold Tw.ring
    split
    · exact h.get
    · split
      · exact h.get
      · simp only [MP.get_put]; rw [if_neg (Ne.symm hO)]; exact h.get
theorem Tw.Inv.again {s : Tw} {T A v : Int} (h : s.Inv T A v) : ∃ s', Kept (s.again A = (true, s')) ∧ s'.Inv T A T := by
  have ok := Tw.again_ok h.ok A
  have e : s.again A = (true, ⟨s.n, MP.put s.L A s.n⟩) := by unfold Tw.again; rw [if_neg (by rw [h.get]; simp)]
  rw [e] at ok
  exact ⟨_, ⟨e⟩, ok, h.n, by simp only [MP.get_put, if_true, h.n]⟩
theorem Tw.Inv.cut {s : Tw} {T A v : Int} (h : s.Inv T A v) : ∃ s', Kept (s.cut A = (true, s')) ∧ Kept (s'.cut A = (false, s')) := by
  have e : s.cut A = (true, ⟨s.n, MP.del s.L A⟩) := by unfold Tw.cut; rw [if_neg (by rw [h.get]; simp)]
  exact ⟨_, ⟨e⟩, ⟨by unfold Tw.cut; rw [if_pos (by simp only [MP.get_del _ _ h.ok.nodup, if_true])]⟩⟩
theorem Tw.new_n {T : Int} (h0 : 1 ≤ T) (h1 : T ≤ 20) : Tw.new T = ⟨T, []⟩ := by
  have : max 1 (min T 20) = T := by omega
  simp only [Tw.new, this]
theorem tw_awake : ∃ s1 s2 : Tw, s1.Ok ∧ s2.Ok ∧ Kept (Tw.new 1 = ⟨1, []⟩) ∧ Kept ((Tw.mk 1 []).hang 5 = (true, s1)) ∧ Kept (s1.ring 5 = ((true, false), s2)) ∧ Kept (s2.ring 5 = ((true, true), s2)) ∧ Kept (s2.hang 5 = (false, s2)) := by
  have e0 := Tw.new_n (T := 1) (by omega) (by omega)
  have ok0 := Tw.new_ok 1
  rw [e0] at ok0
  obtain ⟨s1, h1, i1⟩ := Tw.hang_none ok0 (A := 5) (by omega) (by omega) rfl
  obtain ⟨s2, h2, i2⟩ := i1.ring (by simp)
  have i2' : s2.Inv 1 5 0 := i2
  exact ⟨s1, s2, i1.ok, i2.ok, ⟨e0⟩, h1, h2, ⟨i2'.last⟩, ⟨Tw.hang_some (by rw [i2.get]; rfl)⟩⟩
set_option maxHeartbeats 1000000 in
theorem bawake_any (w : World) : Calls Try.prog 25 #[] w (Yes w) := by
  obtain ⟨s1, s2, ok1, ok2, H0, H1, H2, H3, H4⟩ := tw_awake
  go_enter Try.func25, Try.ntmps25
  go_wp2_with fail
  refine (bellNew_to _ _ _ H0.out).mono ?_
  rintro e w1 ⟨rfl, ⟨h1, z1⟩, k1⟩
  go_wp2_with fail
  refine (hang_to _ _ _ _ _ _ _ h1 H1.out).mono ?_
  rintro e w2 ⟨rfl, ⟨h2, z2⟩, k2⟩
  go_wp2_with fail
  refine (ring_to _ _ _ _ _ _ _ _ h2 ok1 H2.out).mono ?_
  rintro e w3 ⟨rfl, ⟨h3, z3⟩, k3⟩
  go_wp2_with fail
  refine (ring_to _ _ _ _ _ _ _ _ h3 ok2 H3.out).mono ?_
  rintro e w4 ⟨rfl, ⟨h4, z4⟩, k4⟩
  go_wp2_with fail
  refine (hang_to _ _ _ _ _ _ _ h4 H4.out).mono ?_
  rintro e w5 ⟨rfl, ⟨h5, z5⟩, k5⟩
  go_wp2_with fail
  go_ret
  exact ⟨rfl, (k1.below (Nat.le_refl _) (fun _ h => h.elim)).trans ((((k2.trans k3).trans k4).trans k5).below k1.size (fun k e => by omega))⟩
set_option maxRecDepth 100000 in
set_option maxHeartbeats 4000000 in
theorem often_far (t i o r : Int) (w : World) (hne : (wrap64 (1 + wrap64 ((IntKind.u64.wrap o).tmod 999)) == wrap64 (1 + wrap64 ((IntKind.u64.wrap i).tmod 999))) = false) : Calls Try.prog 7 #[.int .i64 t, .int .i64 i, .int .i64 o, .int .i64 r] w (Yes w) := by
  have hT0 := mod_above t 20 1 (by omega) (by omega) (by omega) (by omega)
  have hA0 := mod_above i 999 1 (by omega) (by omega) (by omega) (by omega)
  have hO0 := mod_above o 999 1 (by omega) (by omega) (by omega) (by omega)
  obtain ⟨T, HT⟩ : ∃ T, Kept (wrap64 (1 + wrap64 ((IntKind.u64.wrap t).tmod 20)) = T) := ⟨_, ⟨rfl⟩⟩
  obtain ⟨A, HA⟩ : ∃ A, Kept (wrap64 (1 + wrap64 ((IntKind.u64.wrap i).tmod 999)) = A) := ⟨_, ⟨rfl⟩⟩
  obtain ⟨O, HO⟩ : ∃ O, Kept (wrap64 (1 + wrap64 ((IntKind.u64.wrap o).tmod 999)) = O) := ⟨_, ⟨rfl⟩⟩
  have hR0 := mod_range r (wrap64 (1 + wrap64 ((IntKind.u64.wrap t).tmod 20)) + 1) (by omega) (by omega)
  have hT := hT0
  have hA := hA0
  have hO := hO0
  have hR := hR0
  rw [HT.out] at hT hR
  rw [HA.out] at hA
  rw [HO.out] at hO
  rw [HA.out, HO.out] at hne
  obtain ⟨R, HR⟩ : ∃ R, Kept (wrap64 ((IntKind.u64.wrap r).tmod (T + 1)) = R) := ⟨_, ⟨rfl⟩⟩
  rw [HR.out] at hR
  have Hnew : Kept (Tw.new T = ⟨T, []⟩) := ⟨Tw.new_n (by omega) (by omega)⟩
  have ok0 : (Tw.mk T []).Ok := by have := Tw.new_ok T; rw [Hnew.out] at this; exact this
  obtain ⟨s1, H1, I1⟩ := Tw.hang_none ok0 (A := A) (by omega) (by omega) rfl
  have I1' : s1.Inv T A T := I1
  have hOA : O ≠ A := by simpa using hne
  obtain ⟨s2, H2, I2⟩ : ∃ s2, Kept (s1.hang O = (true, s2)) ∧ s2.Inv T A T := by
    obtain ⟨r2, s2, h2, i2⟩ := Tw.hang_other I1' hOA
    have e2 : r2 = true := by
      have e := h2.out
      have hg : MP.get s1.L O = none := by
        have e1 := H1.out
        unfold Tw.hang at e1
        rw [if_pos ⟨by omega, by omega, rfl⟩] at e1
        cases e1
        simp [MP.put, MP.get_cons, MP.get_nil, hOA]
      unfold Tw.hang at e
      rw [if_pos ⟨by omega, by omega, hg⟩] at e
      cases e; rfl
    subst e2
    exact ⟨s2, h2, i2⟩
  have HOA := Kept.mk hOA
  have hnb : (O != A) = true := by simpa using hne
  clear hOA
  clear I1
  go_enter Try.func7, Try.ntmps7
  go_wp2_with fail
  simp only [HT.out, HA.out, HO.out, HR.out]
  clear hT0 hA0 hO0 hR0 HT HO HR
  refine (bellNew_to _ _ _ Hnew.out).mono ?_
  rintro e w1 ⟨rfl, ⟨h1, z1⟩, k1⟩
  go_wp2_with fail
  refine (hang_to _ _ _ _ _ _ _ h1 H1.out).mono ?_
  rintro e w2 ⟨rfl, ⟨h2, z2⟩, k2⟩
  go_wp2_with fail
  refine (hang_to _ _ _ _ _ _ _ h2 H2.out).mono ?_
  rintro e w3 ⟨rfl, ⟨h3, z3⟩, k3⟩
  go_wp2_with fail
  have B3 : Below w.heap.size w w3 := (k1.below (Nat.le_refl _) (fun _ h => h.elim)).trans ((k2.trans k3).below k1.size (fun k e => by omega))
  clear k1 k2 k3 z1 z2 z3 h1 h2
  go_loopw [54] (fun i wq => ∃ (j : Nat) (s : Tw), (j : Int) ≤ R ∧ i = .int .i64 j ∧ s.Inv T A (T - j) ∧ TwAt wq (w.heap.size + 2) (w.heap.size + 1) s ∧ Below w.heap.size w wq) (fun i _ => (R - intOf i).toNat)
  case atStart => exact ⟨0, s2, by omega, rfl, by simpa using I2, h3, B3⟩
  case round =>
    clear h3 B3
    obtain ⟨j, s, hj, rfl, I4, hc4, hB4⟩ := hrel
    have hb4 := hB4.size
    have HB4 := Kept.mk hB4
    clear hB4
    by_cases hlj : (j : Int) < R
    · obtain ⟨s5, H5, I5⟩ := I4.ring (by omega)
      go_wp2_with fail
      refine (ring_to _ _ _ _ _ _ _ _ hc4 I4.ok H5.out).mono ?_
      rintro e w5 ⟨rfl, ⟨h5, z5⟩, k5⟩
      have B5 : Below w.heap.size w w5 := HB4.out.trans (k5.below hb4 (fun k e => by omega))
      clear k5 z5
      go_wp2_with fail
      go_roundw
      case rel => exact ⟨j + 1, s5, by omega, by go_num, inv_step I5, h5, B5⟩
      case measure => simp [intOf]; omega
    · obtain ⟨s5, Ha, I5⟩ := I4.again
      go_wp2_with fail
      refine (again_to _ _ _ _ _ _ _ hc4 Ha.out).mono ?_
      rintro e w5 ⟨rfl, ⟨h5, z5⟩, k5⟩
      have B5 : Below w.heap.size w w5 := HB4.out.trans (k5.below hb4 (fun k e => by omega))
      clear k5 z5
      go_wp2_with fail
      go_loopw [65] (fun i wq => ∃ (j : Nat) (s : Tw), (j : Int) ≤ T ∧ i = .int .i64 j ∧ s.Inv T A (T - j) ∧ TwAt wq (w.heap.size + 2) (w.heap.size + 1) s ∧ Below w.heap.size w wq) (fun i _ => (T - intOf i).toNat)
      case atStart => exact ⟨0, s5, by omega, rfl, by simpa using I5, h5, B5⟩
      case round =>
        obtain ⟨j, s, hj, rfl, I6, hc6, hB6⟩ := hrel
        have hb6 := hB6.size
        have HB6 := Kept.mk hB6
        clear hB6
        by_cases hlj : (j : Int) < T
        · obtain ⟨r7, q7, s7, H7, I7⟩ := I6.other HOA.out
          go_wp2_with fail
          refine (ring_to _ _ _ _ _ _ _ _ hc6 I6.ok H7.out).mono ?_
          rintro e w7 ⟨rfl, ⟨hc7, z7⟩, k7⟩
          have B7 : Below w.heap.size w w7 := HB6.out.trans (k7.below hb6 (fun k e => by omega))
          have hb7 := B7.size
          have HB7 := Kept.mk B7
          clear k7 z7 B7
          go_wp2_with fail
          obtain ⟨s8, H8, I8⟩ := I7.ring (by omega)
          refine (ring_to _ _ _ _ _ _ _ _ hc7 I7.ok H8.out).mono ?_
          rintro e w8 ⟨rfl, ⟨h8, z8⟩, k8⟩
          have B8 : Below w.heap.size w w8 := HB7.out.trans (k8.below hb7 (fun k e => by omega))
          clear k8 z8
          go_wp2_with fail
          go_roundw
          case rel => exact ⟨j + 1, s8, by omega, by go_num, inv_step I8, h8, B8⟩
          case measure => simp [intOf]; omega
        · have hjT : (j : Int) = T := by omega
          have I7 : s.Inv T A 0 := by have := I6; rw [hjT, Int.sub_self] at this; exact this
          have H8 := Kept.mk I7.last
          obtain ⟨s9, H9, H10⟩ := I7.cut
          go_wp2_with fail
          refine (ring_to _ _ _ _ _ _ _ _ hc6 I7.ok H8.out).mono ?_
          rintro e w8 ⟨rfl, ⟨h8, z8⟩, k8⟩
          go_wp2_with fail
          refine (cut_to _ _ _ _ _ _ _ h8 H9.out).mono ?_
          rintro e w9 ⟨rfl, ⟨h9, z9⟩, k9⟩
          go_wp2_with fail
          refine (cut_to _ _ _ _ _ _ _ h9 H10.out).mono ?_
          rintro e w10 ⟨rfl, ⟨h10, z10⟩, k10⟩
          have B10 : Below w.heap.size w w10 := HB6.out.trans (((k8.trans k9).trans k10).below hb6 (fun k e => by omega))
          clear k8 k9 k10 z8 z9 z10
          go_wp2_with fail
          refine (bawake_any _).mono ?_
          rintro e w11 ⟨rfl, b11⟩
          go_wp2_with fail
          go_ret
          exact ⟨rfl, B10.trans (b11.mono B10.size)⟩
set_option maxRecDepth 100000 in
set_option maxHeartbeats 4000000 in
theorem often_near (t i o r : Int) (w : World) (hne : wrap64 (1 + wrap64 ((IntKind.u64.wrap o).tmod 999)) = wrap64 (1 + wrap64 ((IntKind.u64.wrap i).tmod 999))) : Calls Try.prog 7 #[.int .i64 t, .int .i64 i, .int .i64 o, .int .i64 r] w (Yes w) := by
  have hT0 := mod_above t 20 1 (by omega) (by omega) (by omega) (by omega)
  have hA0 := mod_above i 999 1 (by omega) (by omega) (by omega) (by omega)
  have hO0 := mod_above o 999 1 (by omega) (by omega) (by omega) (by omega)
  obtain ⟨T, HT⟩ : ∃ T, Kept (wrap64 (1 + wrap64 ((IntKind.u64.wrap t).tmod 20)) = T) := ⟨_, ⟨rfl⟩⟩
  obtain ⟨A, HA⟩ : ∃ A, Kept (wrap64 (1 + wrap64 ((IntKind.u64.wrap i).tmod 999)) = A) := ⟨_, ⟨rfl⟩⟩
  obtain ⟨O, HO⟩ : ∃ O, Kept (wrap64 (1 + wrap64 ((IntKind.u64.wrap o).tmod 999)) = O) := ⟨_, ⟨rfl⟩⟩
  have hR0 := mod_range r (wrap64 (1 + wrap64 ((IntKind.u64.wrap t).tmod 20)) + 1) (by omega) (by omega)
  have hT := hT0
  have hA := hA0
  have hO := hO0
  have hR := hR0
  rw [HT.out] at hT hR
  rw [HA.out] at hA
  rw [HO.out] at hO
  rw [HA.out, HO.out] at hne
  obtain ⟨R, HR⟩ : ∃ R, Kept (wrap64 ((IntKind.u64.wrap r).tmod (T + 1)) = R) := ⟨_, ⟨rfl⟩⟩
  rw [HR.out] at hR
  have Hnew : Kept (Tw.new T = ⟨T, []⟩) := ⟨Tw.new_n (by omega) (by omega)⟩
  have ok0 : (Tw.mk T []).Ok := by have := Tw.new_ok T; rw [Hnew.out] at this; exact this
  obtain ⟨s1, H1, I1⟩ := Tw.hang_none ok0 (A := A) (by omega) (by omega) rfl
  have I1' : s1.Inv T A T := I1
  have hne0 := hne
  clear I1
  go_enter Try.func7, Try.ntmps7
  go_wp2_with fail
  simp only [HT.out, HA.out, HO.out, HR.out]
  have hne1 := hne.symm
  clear hne hne0
  subst hne1
  clear hT0 hA0 hO0 hR0 HT HO HR
  refine (bellNew_to _ _ _ Hnew.out).mono ?_
  rintro e w1 ⟨rfl, ⟨h1, z1⟩, k1⟩
  go_wp2_with fail
  refine (hang_to _ _ _ _ _ _ _ h1 H1.out).mono ?_
  rintro e w2 ⟨rfl, ⟨h2, z2⟩, k2⟩
  go_wp2_with fail
  have I2 := I1'
  have h3 := h2
  have B3 : Below w.heap.size w w2 := (k1.below (Nat.le_refl _) (fun _ h => h.elim)).trans (k2.below k1.size (fun k e => by omega))
  clear k1 k2 z1 z2 h1 h2
  go_loopw [54] (fun i wq => ∃ (j : Nat) (s : Tw), (j : Int) ≤ R ∧ i = .int .i64 j ∧ s.Inv T A (T - j) ∧ TwAt wq (w.heap.size + 2) (w.heap.size + 1) s ∧ Below w.heap.size w wq) (fun i _ => (R - intOf i).toNat)
  case atStart => exact ⟨0, s1, by omega, rfl, by simpa using I2, h3, B3⟩
  case round =>
    clear h3 B3
    obtain ⟨j, s, hj, rfl, I4, hc4, hB4⟩ := hrel
    have hb4 := hB4.size
    have HB4 := Kept.mk hB4
    clear hB4
    by_cases hlj : (j : Int) < R
    · obtain ⟨s5, H5, I5⟩ := I4.ring (by omega)
      go_wp2_with fail
      refine (ring_to _ _ _ _ _ _ _ _ hc4 I4.ok H5.out).mono ?_
      rintro e w5 ⟨rfl, ⟨h5, z5⟩, k5⟩
      have B5 : Below w.heap.size w w5 := HB4.out.trans (k5.below hb4 (fun k e => by omega))
      clear k5 z5
      go_wp2_with fail
      go_roundw
      case rel => exact ⟨j + 1, s5, by omega, by go_num, inv_step I5, h5, B5⟩
      case measure => simp [intOf]; omega
    · obtain ⟨s5, Ha, I5⟩ := I4.again
      go_wp2_with fail
      refine (again_to _ _ _ _ _ _ _ hc4 Ha.out).mono ?_
      rintro e w5 ⟨rfl, ⟨h5, z5⟩, k5⟩
      have B5 : Below w.heap.size w w5 := HB4.out.trans (k5.below hb4 (fun k e => by omega))
      clear k5 z5
      go_wp2_with fail
      go_loopw [65] (fun i wq => ∃ (j : Nat) (s : Tw), (j : Int) ≤ T ∧ i = .int .i64 j ∧ s.Inv T A (T - j) ∧ TwAt wq (w.heap.size + 2) (w.heap.size + 1) s ∧ Below w.heap.size w wq) (fun i _ => (T - intOf i).toNat)
      case atStart => exact ⟨0, s5, by omega, rfl, by simpa using I5, h5, B5⟩
      case round =>
        obtain ⟨j, s, hj, rfl, I6, hc6, hB6⟩ := hrel
        have hb6 := hB6.size
        have HB6 := Kept.mk hB6
        clear hB6
        by_cases hlj : (j : Int) < T
        · have I7 := I6
          have hc7 := hc6
          have HB7 := HB6
          have hb7 := hb6
          go_wp2_with fail
          obtain ⟨s8, H8, I8⟩ := I7.ring (by omega)
          refine (ring_to _ _ _ _ _ _ _ _ hc7 I7.ok H8.out).mono ?_
          rintro e w8 ⟨rfl, ⟨h8, z8⟩, k8⟩
          have B8 : Below w.heap.size w w8 := HB7.out.trans (k8.below hb7 (fun k e => by omega))
          clear k8 z8
          go_wp2_with fail
          go_roundw
          case rel => exact ⟨j + 1, s8, by omega, by go_num, inv_step I8, h8, B8⟩
          case measure => simp [intOf]; omega
        · have hjT : (j : Int) = T := by omega
          have I7 : s.Inv T A 0 := by have := I6; rw [hjT, Int.sub_self] at this; exact this
          have H8 := Kept.mk I7.last
          obtain ⟨s9, H9, H10⟩ := I7.cut
          go_wp2_with fail
          refine (ring_to _ _ _ _ _ _ _ _ hc6 I7.ok H8.out).mono ?_
          rintro e w8 ⟨rfl, ⟨h8, z8⟩, k8⟩
          go_wp2_with fail
          refine (cut_to _ _ _ _ _ _ _ h8 H9.out).mono ?_
          rintro e w9 ⟨rfl, ⟨h9, z9⟩, k9⟩
          go_wp2_with fail
          refine (cut_to _ _ _ _ _ _ _ h9 H10.out).mono ?_
          rintro e w10 ⟨rfl, ⟨h10, z10⟩, k10⟩
          have B10 : Below w.heap.size w w10 := HB6.out.trans (((k8.trans k9).trans k10).below hb6 (fun k e => by omega))
          clear k8 k9 k10 z8 z9 z10
          go_wp2_with fail
          refine (bawake_any _).mono ?_
          rintro e w11 ⟨rfl, b11⟩
          go_wp2_with fail
          go_ret
          exact ⟨rfl, B10.trans (b11.mono B10.size)⟩
theorem often_any (t i o r : Int) (w : World) : Calls Try.prog 7 #[.int .i64 t, .int .i64 i, .int .i64 o, .int .i64 r] w (Yes w) := by
  cases h : (wrap64 (1 + wrap64 ((IntKind.u64.wrap o).tmod 999)) == wrap64 (1 + wrap64 ((IntKind.u64.wrap i).tmod 999))) with
  | true => exact often_near t i o r w (by simpa using h)
  | false => exact often_far t i o r w h
end Go.Proofs.Ytleipaiojefekaa
