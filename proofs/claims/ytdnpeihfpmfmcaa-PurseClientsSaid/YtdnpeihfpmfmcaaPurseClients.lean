/- The law PurseClients, walked. (printed by gen/purseclients.py) -/
import Derived.Test.YtdnpeihfpmfmcaaPurseTill
import Derived.Test.YtdnpeihfpmfmcaaCall4
namespace Go.Proofs.Ytdnpeihfpmfmcaa
open Go.RowKit
/-- One client's orders alone. -/
structure Pu.One (s : Pu) : Prop where
  ok : s.Ok
  m1 : s.money 1 = 700
  a1 : resv s.A 1 = 0
  sum : s.money 0 + s.till = 500
  ids : ∀ p ∈ s.A, p.1 ≤ 20 ∧ p.2.1 = 0
  paid : ∀ x, 20 < x → MP.get s.P x = none
theorem Pu.One.capture {s : Pu} (h : s.One) {id : Int} (hid : id ≤ 20) : (s.capture id).2.One := by
  have ok := Pu.capture_ok h.ok id
  unfold Pu.capture at ok ⊢
  split
  · exact h
  · rename_i j q hg
    rw [hg] at ok
    have hj := (h.ids _ (mem_of_get hg)).2
    simp only at hj
    subst hj
    refine ⟨ok, ?_, ?_, ?_, fun p hp => h.ids p ((MP.del_sublist _ _).subset hp), fun x hx => ?_⟩
    · simp only [upd_other _ (show (1 : Nat) ≠ 0 by omega)]; exact h.m1
    · simp only [resv_del hg]; rw [if_neg (by omega)]; have := h.a1; omega
    · simp only [upd_same]; have := h.sum; omega
    · simp only [MP.get_put]; rw [if_neg (by omega)]; exact h.paid x hx
theorem Pu.One.void {s : Pu} (h : s.One) {id : Int} : (s.void id).2.One := by
  have ok := Pu.void_ok h.ok id
  unfold Pu.void at ok ⊢
  split
  · exact h
  · rename_i j q hg
    rw [hg] at ok
    have hj := (h.ids _ (mem_of_get hg)).2
    simp only at hj
    subst hj
    refine ⟨ok, h.m1, ?_, h.sum, fun p hp => h.ids p ((MP.del_sublist _ _).subset hp), h.paid⟩
    simp only [resv_del hg]; rw [if_neg (by omega)]; have := h.a1; omega
theorem Pu.One.allow {s : Pu} (h : s.One) {id q : Int} (hid : id ≤ 20) : (s.allow id 0 q).2.One := by
  have ok := Pu.allow_ok h.ok id 0 q
  unfold Pu.allow at ok ⊢
  split
  · split
    · exact h
    · split
      · exact h
      · split
        · exact h
        · rename_i a b c d
          rw [if_pos a, if_neg b, if_neg c, if_neg d] at ok
          have hg : MP.get s.A id = none := by cases hh : MP.get s.A id <;> simp_all
          refine ⟨ok, h.m1, ?_, h.sum, fun p hp => ?_, h.paid⟩
          · simp only [resv_put hg]; rw [if_neg (by simp)]; have := h.a1; omega
          · rcases mem_put hp with rfl | hp
            · exact ⟨hid, rfl⟩
            · exact h.ids p hp
  · exact h
theorem sum_zero {A : List (Int × (Nat × Int))} (h : ∀ p ∈ A, p.2.1 = 0) (k : Nat) (hk : k ≠ 0) : resv A k = 0 := by
  induction A with
  | nil => rfl
  | cons p r ih =>
    obtain ⟨y, j, q⟩ := p
    have hj := h (y, (j, q)) (by simp)
    simp only at hj
    simp only [resv]
    rw [if_neg (by omega), ih (fun p hp => h p (List.mem_cons_of_mem _ hp))]; omega
theorem Pu.One.last {s : Pu} (h : s.One) : ∃ s', Kept (s.allow 30 1 700 = (0, s')) := by
  have hg : MP.get s.A 30 = none := by
    cases hh : MP.get s.A 30 with
    | none => rfl
    | some v =>
      have := (h.ids _ (mem_of_get hh)).1
      simp only at this
      omega
  have t1 : (1 : Int).toNat = 1 := rfl
  have ha := h.a1
  have hm := h.m1
  have hs := h.sum
  have h0 := h.ok.al 0 (by omega)
  have he : resvAll s.A = resv s.A 0 := by
    simp only [resvAll, sumN, sum_zero (fun p hp => (h.ids p hp).2) 1 (by omega), sum_zero (fun p hp => (h.ids p hp).2) 2 (by omega), sum_zero (fun p hp => (h.ids p hp).2) 3 (by omega), sum_zero (fun p hp => (h.ids p hp).2) 4 (by omega), sum_zero (fun p hp => (h.ids p hp).2) 5 (by omega), sum_zero (fun p hp => (h.ids p hp).2) 6 (by omega), sum_zero (fun p hp => (h.ids p hp).2) 7 (by omega)]
    omega
  exact ⟨_, ⟨by rw [Pu.allow_in (by omega) hg (h.paid 30 (by omega)), if_neg (by rw [t1]; omega), if_neg (by rw [he]; omega)]⟩⟩
theorem Pu.One.new : (Pu.new (fun k => if k = 0 then 500 else 700) 2).One :=
  ⟨Pu.new_ok _ _, rfl, rfl, rfl, fun p hp => by simp [Pu.new] at hp, fun x _ => rfl⟩
set_option maxRecDepth 100000 in
set_option maxHeartbeats 8000000 in
theorem clients_any (a : Option Addr) (len cap : Nat) (f : Nat → Int × Int × Int × Int) (w : World) (hr : Call4 w a len f) (hlen : (len : Int) ≤ 9223372036854775807) : Calls Try.prog 5 #[.slice a len cap] w (Yes w) := by
  obtain ⟨b, off, ha, hcell⟩ := hr
  have Hcell := Kept.mk hcell
  clear hcell
  obtain ⟨s0, e0, S0⟩ : ∃ s0, Pu.new (fun k => if k = 0 then 500 else 700) 2 = s0 ∧ s0.One := ⟨_, rfl, Pu.One.new⟩
  go_enter Try.func5, Try.ntmps5
  go_wp2_with fail
  refine (purseNew_two 500 700 s0 _ e0).mono ?_
  rintro e w1 ⟨rfl, ⟨h1, z1⟩, k1⟩
  go_wp2_with fail
  have B1 : Below w.heap.size w w1 := k1.below (Nat.le_refl _) (fun _ h => h.elim)
  clear k1 z1
  go_loopw [11] (fun i wr => ∃ (k : Nat) (s : Pu), k ≤ len ∧ i = .int .i64 k ∧ s.One ∧ PuAt wr (w.heap.size + 3) (w.heap.size + 1) (w.heap.size + 2) s ∧ Below w.heap.size w wr) (fun i _ => (len - (intOf i).toNat))
  case atStart => exact ⟨0, s0, by omega, rfl, S0, h1, B1⟩
  case round =>
    clear h1 B1 S0 e0 s0
    obtain ⟨k, s, hk, rfl, hs, hc, hB⟩ := hrel
    have hbw := hB.size
    have HB := Kept.mk hB
    have HS := Kept.mk hs
    clear hB hs
    by_cases hlt : k < len
    · obtain ⟨rfl, hbl⟩ : a = some ⟨b, off, none⟩ ∧ b < w.heap.size := by
        rcases ha with h | h
        · exact h
        · omega
      obtain ⟨c0, c1, c2, c3⟩ := Hcell.out k hlt
      rw [← HB.out.cell (p := ⟨b, off + k * 4, none⟩) hbl] at c0
      rw [← HB.out.cell (p := ⟨b, off + k * 4 + 1, none⟩) hbl] at c1
      rw [← HB.out.cell (p := ⟨b, off + k * 4 + 2, none⟩) hbl] at c2
      rw [← HB.out.cell (p := ⟨b, off + k * 4 + 3, none⟩) hbl] at c3
      generalize (f k).1 = fd at c0
      generalize (f k).2.1 = fi at c1
      generalize (f k).2.2.1 = ft at c2
      generalize (f k).2.2.2 = fq at c3
      by_cases h60 : (60 : Int) ≤ k
      · have hcA := hc.alloc (.cells #[.int .i64 fd, .int .i64 fi, .int .i64 ft, .int .i64 fq] 41)
        have HBA := Kept.mk (HB.out.alloc hbw (.cells #[.int .i64 fd, .int .i64 fi, .int .i64 ft, .int .i64 fq] 41))
        have hn : w.heap.size ≤ (wr.alloc (.cells #[.int .i64 fd, .int .i64 fi, .int .i64 ft, .int .i64 fq] 41)).heap.size := HBA.out.size
        obtain ⟨s9, H9⟩ := HS.out.last
        clear hc
        go_wp2_with fail
        refine (allow_to _ _ _ _ _ _ _ _ _ _ hcA HS.out.ok H9.out).mono ?_
        rintro e w8 ⟨rfl, h8, k8⟩
        have B8 : Below w.heap.size w w8 := HBA.out.trans (k8.below hn (fun k e => by omega))
        clear k8 h8
        go_wp2_with fail
        refine (awake9_any _).mono ?_
        rintro e w9 ⟨rfl, b9⟩
        go_wp2_with fail
        go_ret
        exact ⟨rfl, B8.trans (b9.mono B8.size)⟩
      · have hid0 := mod_above fi 20 1 (by omega) (by omega) (by omega) (by omega)
        have hq0 := mod_above fq 200 1 (by omega) (by omega) (by omega) (by omega)
        obtain ⟨id, HID⟩ : ∃ id, Kept (wrap64 (1 + wrap64 ((IntKind.u64.wrap fi).tmod 20)) = id) := ⟨_, ⟨rfl⟩⟩
        obtain ⟨q, HQ⟩ : ∃ q, Kept (wrap64 (1 + wrap64 ((IntKind.u64.wrap fq).tmod 200)) = q) := ⟨_, ⟨rfl⟩⟩
        have hid := hid0
        rw [HID.out] at hid
        have hcA := hc.alloc (.cells #[.int .i64 fd, .int .i64 fi, .int .i64 ft, .int .i64 fq] 41)
        have HBA := Kept.mk (HB.out.alloc hbw (.cells #[.int .i64 fd, .int .i64 fi, .int .i64 ft, .int .i64 fq] 41))
        clear hc
        by_cases hd0 : fd = 0
        · subst hd0
          obtain ⟨r, s', Hr, hs'⟩ : ∃ r s', Kept (s.capture id = (r, s')) ∧ s'.One := ⟨_, _, ⟨rfl⟩, HS.out.capture (by omega)⟩
          go_wp2_with fail
          rw [HID.out]
          refine (capture_to _ _ _ _ _ _ _ _ hcA HS.out.ok Hr.out).mono ?_
          rintro e w5 ⟨rfl, h5, k5⟩
          have B5 : Below w.heap.size w w5 := HBA.out.trans (k5.below HBA.out.size (fun k e => by omega))
          have HS5 := Kept.mk hs'
          have HB5 := Kept.mk B5
          have hb5 := B5.size
          have hsum := Kept.mk hs'.sum
          have ha1 := Kept.mk hs'.a1
          have hm1 := Kept.mk hs'.m1
          obtain ⟨M, HM⟩ : ∃ M, Kept (s'.money 0 = M) := ⟨_, ⟨rfl⟩⟩
          have hM : 0 ≤ M ∧ M ≤ 500 := by
            have h1 := hs'.ok.al 0 (by omega)
            have h2 := hs'.ok.al0 0
            have h3 := hs'.ok.t0
            have h4 := hs'.sum
            rw [HM.out] at h1 h4
            omega
          have hT : Kept (s'.till = 500 - M) := ⟨by have := hsum.out; rw [HM.out] at this; omega⟩
          clear k5 hs' B5 hcA
          go_wp2_with fail
          refine (money_to _ _ _ _ _ _ 1 _ h5 rfl (by omega) hm1.out).mono ?_
          rintro e _ ⟨rfl, rfl⟩
          go_wp2_with fail
          refine (allowed_to _ _ _ _ _ _ 1 _ h5 HS5.out.ok rfl (by omega) ha1.out).mono ?_
          rintro e w6 ⟨rfl, h6, k6⟩
          have B6 : Below w.heap.size w w6 := HB5.out.trans (k6.below hb5 (fun _ h => h.elim))
          clear k6 h5
          go_wp2_with fail
          refine (money_to _ _ _ _ _ _ 0 _ h6 rfl (by omega) HM.out).mono ?_
          rintro e _ ⟨rfl, rfl⟩
          go_wp2_with fail
          refine (till_to _ _ _ _ _ _ h6 hT.out).mono ?_
          rintro e _ ⟨rfl, rfl⟩
          go_wp2_with fail
          go_roundw
          case rel => exact ⟨k + 1, s', by omega, by go_num, HS5.out, h6, B6⟩
          case measure => simp [intOf]; omega
        · by_cases hd1 : fd = 1
          · subst hd1
            obtain ⟨r, s', Hr, hs'⟩ : ∃ r s', Kept (s.void id = (r, s')) ∧ s'.One := ⟨_, _, ⟨rfl⟩, HS.out.void⟩
            go_wp2_with fail
            rw [HID.out]
            refine (void_to _ _ _ _ _ _ _ _ hcA Hr.out).mono ?_
            rintro e w5 ⟨rfl, h5, k5⟩
            have B5 : Below w.heap.size w w5 := HBA.out.trans (k5.below HBA.out.size (fun k e => by omega))
            have HS5 := Kept.mk hs'
            have HB5 := Kept.mk B5
            have hb5 := B5.size
            have hsum := Kept.mk hs'.sum
            have ha1 := Kept.mk hs'.a1
            have hm1 := Kept.mk hs'.m1
            obtain ⟨M, HM⟩ : ∃ M, Kept (s'.money 0 = M) := ⟨_, ⟨rfl⟩⟩
            have hM : 0 ≤ M ∧ M ≤ 500 := by
              have h1 := hs'.ok.al 0 (by omega)
              have h2 := hs'.ok.al0 0
              have h3 := hs'.ok.t0
              have h4 := hs'.sum
              rw [HM.out] at h1 h4
              omega
            have hT : Kept (s'.till = 500 - M) := ⟨by have := hsum.out; rw [HM.out] at this; omega⟩
            clear k5 hs' B5 hcA
            go_wp2_with fail
            refine (money_to _ _ _ _ _ _ 1 _ h5 rfl (by omega) hm1.out).mono ?_
            rintro e _ ⟨rfl, rfl⟩
            go_wp2_with fail
            refine (allowed_to _ _ _ _ _ _ 1 _ h5 HS5.out.ok rfl (by omega) ha1.out).mono ?_
            rintro e w6 ⟨rfl, h6, k6⟩
            have B6 : Below w.heap.size w w6 := HB5.out.trans (k6.below hb5 (fun _ h => h.elim))
            clear k6 h5
            go_wp2_with fail
            refine (money_to _ _ _ _ _ _ 0 _ h6 rfl (by omega) HM.out).mono ?_
            rintro e _ ⟨rfl, rfl⟩
            go_wp2_with fail
            refine (till_to _ _ _ _ _ _ h6 hT.out).mono ?_
            rintro e _ ⟨rfl, rfl⟩
            go_wp2_with fail
            go_roundw
            case rel => exact ⟨k + 1, s', by omega, by go_num, HS5.out, h6, B6⟩
            case measure => simp [intOf]; omega
          · have e0 : (fd == 0) = false := by simpa using hd0
            have e1 : (fd == 1) = false := by simpa using hd1
            clear hd0 hd1
            obtain ⟨r, s', Hr, hs'⟩ : ∃ r s', Kept (s.allow id 0 q = (r, s')) ∧ s'.One := ⟨_, _, ⟨rfl⟩, HS.out.allow (by omega)⟩
            go_wp2_with fail
            rw [HID.out, HQ.out]
            refine (allow_to _ _ _ _ _ _ _ _ _ _ hcA HS.out.ok Hr.out).mono ?_
            rintro e w5 ⟨rfl, h5, k5⟩
            have B5 : Below w.heap.size w w5 := HBA.out.trans (k5.below HBA.out.size (fun k e => by omega))
            have HS5 := Kept.mk hs'
            have HB5 := Kept.mk B5
            have hb5 := B5.size
            have hsum := Kept.mk hs'.sum
            have ha1 := Kept.mk hs'.a1
            have hm1 := Kept.mk hs'.m1
            obtain ⟨M, HM⟩ : ∃ M, Kept (s'.money 0 = M) := ⟨_, ⟨rfl⟩⟩
            have hM : 0 ≤ M ∧ M ≤ 500 := by
              have h1 := hs'.ok.al 0 (by omega)
              have h2 := hs'.ok.al0 0
              have h3 := hs'.ok.t0
              have h4 := hs'.sum
              rw [HM.out] at h1 h4
              omega
            have hT : Kept (s'.till = 500 - M) := ⟨by have := hsum.out; rw [HM.out] at this; omega⟩
            clear k5 hs' B5 hcA
            go_wp2_with fail
            refine (money_to _ _ _ _ _ _ 1 _ h5 rfl (by omega) hm1.out).mono ?_
            rintro e _ ⟨rfl, rfl⟩
            go_wp2_with fail
            refine (allowed_to _ _ _ _ _ _ 1 _ h5 HS5.out.ok rfl (by omega) ha1.out).mono ?_
            rintro e w6 ⟨rfl, h6, k6⟩
            have B6 : Below w.heap.size w w6 := HB5.out.trans (k6.below hb5 (fun _ h => h.elim))
            clear k6 h5
            go_wp2_with fail
            refine (money_to _ _ _ _ _ _ 0 _ h6 rfl (by omega) HM.out).mono ?_
            rintro e _ ⟨rfl, rfl⟩
            go_wp2_with fail
            refine (till_to _ _ _ _ _ _ h6 hT.out).mono ?_
            rintro e _ ⟨rfl, rfl⟩
            go_wp2_with fail
            go_roundw
            case rel => exact ⟨k + 1, s', by omega, by go_num, HS5.out, h6, B6⟩
            case measure => simp [intOf]; omega
    · have hcA := hc
      have HBA := HB
      have hn := hbw
      obtain ⟨s9, H9⟩ := HS.out.last
      clear hc
      go_wp2_with fail
      refine (allow_to _ _ _ _ _ _ _ _ _ _ hcA HS.out.ok H9.out).mono ?_
      rintro e w8 ⟨rfl, h8, k8⟩
      have B8 : Below w.heap.size w w8 := HBA.out.trans (k8.below hn (fun k e => by omega))
      clear k8 h8
      go_wp2_with fail
      refine (awake9_any _).mono ?_
      rintro e w9 ⟨rfl, b9⟩
      go_wp2_with fail
      go_ret
      exact ⟨rfl, B8.trans (b9.mono B8.size)⟩
end Go.Proofs.Ytdnpeihfpmfmcaa
