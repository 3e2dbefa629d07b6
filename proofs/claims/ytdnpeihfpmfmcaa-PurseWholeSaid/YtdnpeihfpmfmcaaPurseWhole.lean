/- The law PurseWhole, walked. (printed by gen/pursewhole2.py) -/
import Derived.Test.YtdnpeihfpmfmcaaPurseWhole0
namespace Go.Proofs.Ytdnpeihfpmfmcaa
open Go.RowKit
set_option maxRecDepth 100000 in
set_option maxHeartbeats 8000000 in
theorem whole_any (a0 c0 : Int) (a : Option Addr) (len cap : Nat) (f : Nat → Int × Int × Int × Int) (w : World) (hr : Call4 w a len f) (hlen : (len : Int) ≤ 9223372036854775807) : Calls Try.prog 7 #[.int .i64 a0, .int .i64 c0, .slice a len cap] w (Yes w) := by
  obtain ⟨b, off, ha, hcell⟩ := hr
  have Hcell := Kept.mk hcell
  clear hcell
  have hA0 := mod_range a0 100000 (by omega) (by omega)
  have hC0 := mod_range c0 100000 (by omega) (by omega)
  obtain ⟨A, HA⟩ : ∃ A, Kept (wrap64 ((IntKind.u64.wrap a0).tmod 100000) = A) := ⟨_, ⟨rfl⟩⟩
  obtain ⟨C, HC⟩ : ∃ C, Kept (wrap64 ((IntKind.u64.wrap c0).tmod 100000) = C) := ⟨_, ⟨rfl⟩⟩
  have hA := hA0
  have hC := hC0
  rw [HA.out] at hA
  rw [HC.out] at hC
  obtain ⟨s0, e0, S0⟩ : ∃ s0, Pu.new (fun k => if k = 0 then A else C) 2 = s0 ∧ s0.Whole (A + C) := ⟨_, rfl, Pu.Whole.new A C hA hC⟩
  have P0 : s0.P = [] := by rw [← e0]; rfl
  have hmm := @run_makeMap Try.prog
  go_enter Try.func7, Try.ntmps7
  go_wp2_with fail
  rw [HA.out, HC.out]
  clear HA HC hA0 hC0
  refine (purseNew_two A C s0 _ e0).mono ?_
  rintro e w1 ⟨rfl, ⟨h1, z1⟩, k1⟩
  have B1 : Below w.heap.size w (w1.alloc (.map #[] 0)) := (k1.below (Nat.le_refl _) (fun _ h => h.elim)).alloc k1.size _
  have hM1 : MapAt encInt (w1.alloc (.map #[] 0)) (w.heap.size + 4) s0.P := by
    have := MapAt.new encInt w1
    rw [z1] at this
    rw [P0]; exact this
  have h1' := h1.alloc (.map #[] 0)
  clear k1 h1
  go_wp2_with fail
  go_loopw [30] (fun i wr => ∃ (k : Nat) (s : Pu), k ≤ len ∧ i = .int .i64 k ∧ s.Whole (A + C) ∧ PuAt wr (w.heap.size + 3) (w.heap.size + 1) (w.heap.size + 2) s ∧ MapAt encInt wr (w.heap.size + 4) s.P ∧ Below w.heap.size w wr) (fun i _ => (len - (intOf i).toNat))
  case atStart => exact ⟨0, s0, by omega, rfl, S0, h1', hM1, B1⟩
  case round =>
    clear h1' hM1 B1 S0 e0 P0 z1 hmm s0
    obtain ⟨k, s, hk, rfl, hs, hc, hm, hB⟩ := hrel
    have hbw := hB.size
    have HB := Kept.mk hB
    have HS := Kept.mk hs
    clear hB hs
    by_cases hlt : k < len
    · obtain ⟨rfl, hbl⟩ : a = some ⟨b, off, none⟩ ∧ b < w.heap.size := by
        rcases ha with h | h
        · exact h
        · omega
      obtain ⟨c0, c1, c2, c3⟩ := Hcell.out k hlt
      rw [← HB.out.cell (p := ⟨b, off + k * 4, none⟩) hbl] at c0
      rw [← HB.out.cell (p := ⟨b, off + k * 4 + 1, none⟩) hbl] at c1
      rw [← HB.out.cell (p := ⟨b, off + k * 4 + 2, none⟩) hbl] at c2
      rw [← HB.out.cell (p := ⟨b, off + k * 4 + 3, none⟩) hbl] at c3
      generalize (f k).1 = fd at c0
      generalize (f k).2.1 = fi at c1
      generalize (f k).2.2.1 = ft at c2
      generalize (f k).2.2.2 = fq at c3
      by_cases h60 : (80 : Int) ≤ k
      · go_wp2_with fail
        refine (awake9_any _).mono ?_
        rintro e w5 ⟨rfl, b5⟩
        go_wp2_with fail
        go_ret
        exact ⟨rfl, (HB.out.alloc hbw _).trans (b5.mono (by simp; omega))⟩
      · have hid0 := mod_above fi 12 1 (by omega) (by omega) (by omega) (by omega)
        have hq0 := mod_above fq 2000 1 (by omega) (by omega) (by omega) (by omega)
        have ht0 := mod_range ft 2 (by omega) (by omega)
        obtain ⟨id, HID⟩ : ∃ id, Kept (wrap64 (1 + wrap64 ((IntKind.u64.wrap fi).tmod 12)) = id) := ⟨_, ⟨rfl⟩⟩
        obtain ⟨q, HQ⟩ : ∃ q, Kept (wrap64 (1 + wrap64 ((IntKind.u64.wrap fq).tmod 2000)) = q) := ⟨_, ⟨rfl⟩⟩
        obtain ⟨tt, HTT⟩ : ∃ t, Kept (wrap64 ((IntKind.u64.wrap ft).tmod 2) = t) := ⟨_, ⟨rfl⟩⟩
        have hid := hid0
        rw [HID.out] at hid
        have htt := ht0
        rw [HTT.out] at htt
        have hcA := hc.alloc (.cells #[.int .i64 fd, .int .i64 fi, .int .i64 ft, .int .i64 fq] 41)
        have hmA := hm.alloc (.cells #[.int .i64 fd, .int .i64 fi, .int .i64 ft, .int .i64 fq] 41)
        have HBA := Kept.mk (HB.out.alloc hbw (.cells #[.int .i64 fd, .int .i64 fi, .int .i64 ft, .int .i64 fq] 41))
        clear hc hm
        by_cases hd0 : fd = 0
        · subst hd0
          cases hg : MP.get s.A id with
          | none =>
            have Hr := Kept.mk (Pu.capture_none hg)
            clear hg
            go_wp2_with fail
            rw [HID.out]
            refine (capture_to _ _ _ _ _ _ _ _ hcA HS.out.ok Hr.out).mono ?_
            rintro e w5 ⟨rfl, h5, k5⟩
            have B5 : Below w.heap.size w w5 := HBA.out.trans (k5.below HBA.out.size (fun k e => by omega))
            have hm5 := hmA.keeps k5 (fun e => by omega)
            have HS5 := HS
            clear k5 hcA hmA
            obtain ⟨o, hrg, hR⟩ := hm5.range (P := Try.prog) Try.underlying46
            have hb5 := B5.size
            have hmlt := hm5.lt
            have HR := Kept.mk hR
            have HP5 := Kept.mk (h5.alloc o)
            have HB5 := Kept.mk (B5.alloc hb5 o)
            have hqs : Kept (∀ p ∈ s.P, 1 ≤ p.2 ∧ p.2 ≤ 1000000000) := ⟨HS5.out.pays⟩
            have hts := Kept.mk HS5.out.till
            have htu : s.till ≤ 1000000000 := by have h1 := HS5.out.ok.all; have h2 : 0 ≤ resvAll s.A := sumN_nonneg HS5.out.ok.al0 8; omega
            obtain ⟨M0, HM0⟩ : ∃ M, Kept (s.money 0 = M) := ⟨_, ⟨rfl⟩⟩
            obtain ⟨M1, HM1⟩ : ∃ M, Kept (s.money 1 = M) := ⟨_, ⟨rfl⟩⟩
            obtain ⟨Y0, HY0⟩ : ∃ M, Kept (resv s.A 0 = M) := ⟨_, ⟨rfl⟩⟩
            obtain ⟨Y1, HY1⟩ : ∃ M, Kept (resv s.A 1 = M) := ⟨_, ⟨rfl⟩⟩
            obtain ⟨Tl, HTl⟩ : ∃ M, Kept (s.till = M) := ⟨_, ⟨rfl⟩⟩
            have hsum := HS5.out.sum
            have hl0 := HS5.out.ok.al 0 (by omega)
            have hl1 := HS5.out.ok.al 1 (by omega)
            have hz0 := HS5.out.ok.al0 0
            have hz1 := HS5.out.ok.al0 1
            have hz2 := HS5.out.ok.t0
            rw [HM0.out, HM1.out, HTl.out] at hsum
            rw [HM0.out, HY0.out] at hl0
            rw [HM1.out, HY1.out] at hl1
            rw [HY0.out] at hz0
            rw [HY1.out] at hz1
            rw [HTl.out] at hz2 htu
            clear hR B5
            go_wp2_with fail
            go_loopw [12] (fun n wq => ∃ (S : Int) (todo : List (Int × Int)), n = .int .i64 S ∧ Kept (S + sumP todo = Tl) ∧ 0 ≤ S ∧ (∀ p ∈ todo, 1 ≤ p.2 ∧ p.2 ≤ 1000000000) ∧ RangeAt encInt wq w5.heap.size (w.heap.size + 4) s.P todo ∧ PuAt wq (w.heap.size + 3) (w.heap.size + 1) (w.heap.size + 2) s ∧ Below w.heap.size w wq) (fun _ wq => wq.rangeLeft (w.heap.size + 4) w5.heap.size)
            case atStart => exact ⟨0, s.P, rfl, ⟨by rw [hts.out, HTl.out]; omega⟩, by omega, hqs.out, HR.out, HP5.out, HB5.out⟩
            case round =>
              clear HR HP5 HB5
              obtain ⟨S, todo, rfl, hS, S0, hv, hR7, hP7, hB7⟩ := hrel
              have HP7 := Kept.mk hP7
              have HB7 := Kept.mk hB7
              rcases hR7.next (P := Try.prog) 0 (Nat.ne_of_gt hmlt) with ⟨rfl, hnx⟩ | ⟨p1, y9, v9, q1, w9, rfl, hnx, hen, hR9, k9, z9⟩
              · obtain rfl : S = Tl := by have := hS.out; simp only [sumP] at this; omega
                have hm7 := hR7.map
                clear hR7 hB7
                go_wp2_with fail
                refine (till_to _ _ _ _ _ _ HP7.out HTl.out).mono ?_
                rintro e _ ⟨rfl, rfl⟩
                go_wp2_with fail
                refine (money_to _ _ _ _ _ _ 0 _ HP7.out rfl (by omega) HM0.out).mono ?_
                rintro e _ ⟨rfl, rfl⟩
                go_wp2_with fail
                refine (money_to _ _ _ _ _ _ 1 _ HP7.out rfl (by omega) HM1.out).mono ?_
                rintro e _ ⟨rfl, rfl⟩
                go_wp2_with fail
                refine (money_to _ _ _ _ _ _ 0 _ HP7.out rfl (by omega) HM0.out).mono ?_
                rintro e _ ⟨rfl, rfl⟩
                go_wp2_with fail
                refine (allowed_to _ _ _ _ _ _ 0 _ HP7.out HS5.out.ok rfl (by omega) HY0.out).mono ?_
                rintro e wa ⟨rfl, hpa, ka⟩
                have Ba : Below w.heap.size w wa := HB7.out.trans (ka.below HB7.out.size (fun _ h => h.elim))
                have hma := hm7.keeps ka (fun h => h)
                clear ka hm7
                go_wp2_with fail
                refine (money_to _ _ _ _ _ _ 1 _ hpa rfl (by omega) HM1.out).mono ?_
                rintro e _ ⟨rfl, rfl⟩
                go_wp2_with fail
                refine (allowed_to _ _ _ _ _ _ 1 _ hpa HS5.out.ok rfl (by omega) HY1.out).mono ?_
                rintro e wb ⟨rfl, hpb, kb⟩
                have Bb : Below w.heap.size w wb := Ba.trans (kb.below Ba.size (fun _ h => h.elim))
                have hmb := hma.keeps kb (fun h => h)
                clear kb hma hpa
                go_wp2_with fail
                go_roundw
                case rel => exact ⟨k + 1, s, by omega, by go_num, HS5.out, hpb, hmb, Bb⟩
                case measure => simp [intOf]; omega
              · have hv9 := hv (y9, v9) (by simp)
                simp only at hv9
                have hv2 : ∀ z ∈ p1 ++ q1, 1 ≤ z.2 ∧ z.2 ≤ 1000000000 := fun z hz => hv z (by
                  rw [List.mem_append] at hz ⊢
                  rcases hz with h | h
                  · exact .inl h
                  · exact .inr (List.mem_cons_of_mem _ h))
                have hn := sumP_nonneg hv2
                have hS2 := hS.out
                rw [sumP_split] at hS2
                have hS3 : Kept (S + v9 + sumP (p1 ++ q1) = Tl) := ⟨by omega⟩
                have hsq : S + v9 ≤ Tl := by omega
                have hsz := hB7.size
                have B9 : Below w.heap.size w w9 := hB7.trans (k9.below hsz (fun k e => by omega))
                have hP9 := hP7.keeps k9 (fun e => by omega) (fun e => by omega) (fun e => by omega)
                have HL := Kept.mk hR7.left_eq
                have HR9 := Kept.mk hR9
                have HV2 := Kept.mk hv2
                unfold encInt at hnx hen
                clear hR7 hR9 hP7 hB7 hv hv2 hS hS2 k9
                go_wp2_with fail
                go_roundw
                case rel => exact ⟨S + v9, p1 ++ q1, rfl, hS3, by omega, HV2.out, HR9.out, hP9, B9⟩
                case measure => rw [HR9.out.left_eq, HL.out]; simp
          | some v =>
            obtain ⟨j, y⟩ := v
            obtain ⟨s', Hr, hs', Hn, HP⟩ := HS.out.capture hg
            have hx : Kept ((MP.get s'.P id).getD 0 = y) := ⟨by rw [HP.out, MP.get_put, if_pos rfl]; rfl⟩
            have hi : Kept ((MP.get s'.P id).isSome = true) := ⟨by rw [HP.out, MP.get_put, if_pos rfl]; rfl⟩
            have HS5 := Kept.mk hs'
            clear hg hs'
            go_wp2_with fail
            rw [HID.out]
            refine (capture_to _ _ _ _ _ _ _ _ hcA HS.out.ok Hr.out).mono ?_
            rintro e w4 ⟨rfl, h4, k4⟩
            have B4 : Below w.heap.size w w4 := HBA.out.trans (k4.below HBA.out.size (fun k e => by omega))
            have hm4 := hmA.keeps k4 (fun e => by omega)
            have hl4 := look_at hm4 id
            rw [Hn.out] at hl4
            simp only [Option.getD_none] at hl4
            obtain ⟨w5, hup, hm5', k5, z5⟩ := hm4.update (P := Try.prog) Try.underlying46 Try.underlying3 id y
            unfold encInt at hup
            have B5 : Below w.heap.size w w5 := B4.trans (k5.below B4.size (fun k e => by omega))
            have h5 := h4.keeps k5 (fun e => by omega) (fun e => by omega) (fun e => by omega)
            have hm5 : MapAt encInt w5 (w.heap.size + 4) s'.P := by rw [HP.out]; exact hm5'
            clear k4 k5 z5 hcA hmA hm4 B4 hm5'
            go_wp2_with fail
            refine (paid_to _ _ _ _ _ _ _ _ h4 hx.out hi.out).mono ?_
            rintro e _ ⟨rfl, rfl⟩
            obtain ⟨o, hrg, hR⟩ := hm5.range (P := Try.prog) Try.underlying46
            have hb5 := B5.size
            have hmlt := hm5.lt
            have HR := Kept.mk hR
            have HP5 := Kept.mk (h5.alloc o)
            have HB5 := Kept.mk (B5.alloc hb5 o)
            have hqs : Kept (∀ p ∈ s'.P, 1 ≤ p.2 ∧ p.2 ≤ 1000000000) := ⟨HS5.out.pays⟩
            have hts := Kept.mk HS5.out.till
            have htu : s'.till ≤ 1000000000 := by have h1 := HS5.out.ok.all; have h2 : 0 ≤ resvAll s'.A := sumN_nonneg HS5.out.ok.al0 8; omega
            obtain ⟨M0, HM0⟩ : ∃ M, Kept (s'.money 0 = M) := ⟨_, ⟨rfl⟩⟩
            obtain ⟨M1, HM1⟩ : ∃ M, Kept (s'.money 1 = M) := ⟨_, ⟨rfl⟩⟩
            obtain ⟨Y0, HY0⟩ : ∃ M, Kept (resv s'.A 0 = M) := ⟨_, ⟨rfl⟩⟩
            obtain ⟨Y1, HY1⟩ : ∃ M, Kept (resv s'.A 1 = M) := ⟨_, ⟨rfl⟩⟩
            obtain ⟨Tl, HTl⟩ : ∃ M, Kept (s'.till = M) := ⟨_, ⟨rfl⟩⟩
            have hsum := HS5.out.sum
            have hl0 := HS5.out.ok.al 0 (by omega)
            have hl1 := HS5.out.ok.al 1 (by omega)
            have hz0 := HS5.out.ok.al0 0
            have hz1 := HS5.out.ok.al0 1
            have hz2 := HS5.out.ok.t0
            rw [HM0.out, HM1.out, HTl.out] at hsum
            rw [HM0.out, HY0.out] at hl0
            rw [HM1.out, HY1.out] at hl1
            rw [HY0.out] at hz0
            rw [HY1.out] at hz1
            rw [HTl.out] at hz2 htu
            clear hR B5
            go_wp2_with fail
            go_loopw [12] (fun n wq => ∃ (S : Int) (todo : List (Int × Int)), n = .int .i64 S ∧ Kept (S + sumP todo = Tl) ∧ 0 ≤ S ∧ (∀ p ∈ todo, 1 ≤ p.2 ∧ p.2 ≤ 1000000000) ∧ RangeAt encInt wq w5.heap.size (w.heap.size + 4) s'.P todo ∧ PuAt wq (w.heap.size + 3) (w.heap.size + 1) (w.heap.size + 2) s' ∧ Below w.heap.size w wq) (fun _ wq => wq.rangeLeft (w.heap.size + 4) w5.heap.size)
            case atStart => exact ⟨0, s'.P, rfl, ⟨by rw [hts.out, HTl.out]; omega⟩, by omega, hqs.out, HR.out, HP5.out, HB5.out⟩
            case round =>
              clear HR HP5 HB5
              obtain ⟨S, todo, rfl, hS, S0, hv, hR7, hP7, hB7⟩ := hrel
              have HP7 := Kept.mk hP7
              have HB7 := Kept.mk hB7
              rcases hR7.next (P := Try.prog) 0 (Nat.ne_of_gt hmlt) with ⟨rfl, hnx⟩ | ⟨p1, y9, v9, q1, w9, rfl, hnx, hen, hR9, k9, z9⟩
              · obtain rfl : S = Tl := by have := hS.out; simp only [sumP] at this; omega
                have hm7 := hR7.map
                clear hR7 hB7
                go_wp2_with fail
                refine (till_to _ _ _ _ _ _ HP7.out HTl.out).mono ?_
                rintro e _ ⟨rfl, rfl⟩
                go_wp2_with fail
                refine (money_to _ _ _ _ _ _ 0 _ HP7.out rfl (by omega) HM0.out).mono ?_
                rintro e _ ⟨rfl, rfl⟩
                go_wp2_with fail
                refine (money_to _ _ _ _ _ _ 1 _ HP7.out rfl (by omega) HM1.out).mono ?_
                rintro e _ ⟨rfl, rfl⟩
                go_wp2_with fail
                refine (money_to _ _ _ _ _ _ 0 _ HP7.out rfl (by omega) HM0.out).mono ?_
                rintro e _ ⟨rfl, rfl⟩
                go_wp2_with fail
                refine (allowed_to _ _ _ _ _ _ 0 _ HP7.out HS5.out.ok rfl (by omega) HY0.out).mono ?_
                rintro e wa ⟨rfl, hpa, ka⟩
                have Ba : Below w.heap.size w wa := HB7.out.trans (ka.below HB7.out.size (fun _ h => h.elim))
                have hma := hm7.keeps ka (fun h => h)
                clear ka hm7
                go_wp2_with fail
                refine (money_to _ _ _ _ _ _ 1 _ hpa rfl (by omega) HM1.out).mono ?_
                rintro e _ ⟨rfl, rfl⟩
                go_wp2_with fail
                refine (allowed_to _ _ _ _ _ _ 1 _ hpa HS5.out.ok rfl (by omega) HY1.out).mono ?_
                rintro e wb ⟨rfl, hpb, kb⟩
                have Bb : Below w.heap.size w wb := Ba.trans (kb.below Ba.size (fun _ h => h.elim))
                have hmb := hma.keeps kb (fun h => h)
                clear kb hma hpa
                go_wp2_with fail
                go_roundw
                case rel => exact ⟨k + 1, s', by omega, by go_num, HS5.out, hpb, hmb, Bb⟩
                case measure => simp [intOf]; omega
              · have hv9 := hv (y9, v9) (by simp)
                simp only at hv9
                have hv2 : ∀ z ∈ p1 ++ q1, 1 ≤ z.2 ∧ z.2 ≤ 1000000000 := fun z hz => hv z (by
                  rw [List.mem_append] at hz ⊢
                  rcases hz with h | h
                  · exact .inl h
                  · exact .inr (List.mem_cons_of_mem _ h))
                have hn := sumP_nonneg hv2
                have hS2 := hS.out
                rw [sumP_split] at hS2
                have hS3 : Kept (S + v9 + sumP (p1 ++ q1) = Tl) := ⟨by omega⟩
                have hsq : S + v9 ≤ Tl := by omega
                have hsz := hB7.size
                have B9 : Below w.heap.size w w9 := hB7.trans (k9.below hsz (fun k e => by omega))
                have hP9 := hP7.keeps k9 (fun e => by omega) (fun e => by omega) (fun e => by omega)
                have HL := Kept.mk hR7.left_eq
                have HR9 := Kept.mk hR9
                have HV2 := Kept.mk hv2
                unfold encInt at hnx hen
                clear hR7 hR9 hP7 hB7 hv hv2 hS hS2 k9
                go_wp2_with fail
                go_roundw
                case rel => exact ⟨S + v9, p1 ++ q1, rfl, hS3, by omega, HV2.out, HR9.out, hP9, B9⟩
                case measure => rw [HR9.out.left_eq, HL.out]; simp
        · by_cases hd1 : fd = 1
          · subst hd1
            obtain ⟨r, s', Hr, hs', HP⟩ : ∃ r s', Kept (s.void id = (r, s')) ∧ s'.Whole (A + C) ∧ s'.P = s.P := ⟨_, _, ⟨rfl⟩, HS.out.void.1, HS.out.void.2⟩
            have HS5 := Kept.mk hs'
            clear hs'
            go_wp2_with fail
            rw [HID.out]
            refine (void_to _ _ _ _ _ _ _ _ hcA Hr.out).mono ?_
            rintro e w5 ⟨rfl, h5, k5⟩
            have B5 : Below w.heap.size w w5 := HBA.out.trans (k5.below HBA.out.size (fun k e => by omega))
            have hm5 := hmA.keeps k5 (fun e => by omega)
            rw [← HP] at hm5
            clear k5 hcA hmA HP
            obtain ⟨o, hrg, hR⟩ := hm5.range (P := Try.prog) Try.underlying46
            have hb5 := B5.size
            have hmlt := hm5.lt
            have HR := Kept.mk hR
            have HP5 := Kept.mk (h5.alloc o)
            have HB5 := Kept.mk (B5.alloc hb5 o)
            have hqs : Kept (∀ p ∈ s'.P, 1 ≤ p.2 ∧ p.2 ≤ 1000000000) := ⟨HS5.out.pays⟩
            have hts := Kept.mk HS5.out.till
            have htu : s'.till ≤ 1000000000 := by have h1 := HS5.out.ok.all; have h2 : 0 ≤ resvAll s'.A := sumN_nonneg HS5.out.ok.al0 8; omega
            obtain ⟨M0, HM0⟩ : ∃ M, Kept (s'.money 0 = M) := ⟨_, ⟨rfl⟩⟩
            obtain ⟨M1, HM1⟩ : ∃ M, Kept (s'.money 1 = M) := ⟨_, ⟨rfl⟩⟩
            obtain ⟨Y0, HY0⟩ : ∃ M, Kept (resv s'.A 0 = M) := ⟨_, ⟨rfl⟩⟩
            obtain ⟨Y1, HY1⟩ : ∃ M, Kept (resv s'.A 1 = M) := ⟨_, ⟨rfl⟩⟩
            obtain ⟨Tl, HTl⟩ : ∃ M, Kept (s'.till = M) := ⟨_, ⟨rfl⟩⟩
            have hsum := HS5.out.sum
            have hl0 := HS5.out.ok.al 0 (by omega)
            have hl1 := HS5.out.ok.al 1 (by omega)
            have hz0 := HS5.out.ok.al0 0
            have hz1 := HS5.out.ok.al0 1
            have hz2 := HS5.out.ok.t0
            rw [HM0.out, HM1.out, HTl.out] at hsum
            rw [HM0.out, HY0.out] at hl0
            rw [HM1.out, HY1.out] at hl1
            rw [HY0.out] at hz0
            rw [HY1.out] at hz1
            rw [HTl.out] at hz2 htu
            clear hR B5
            go_wp2_with fail
            go_loopw [12] (fun n wq => ∃ (S : Int) (todo : List (Int × Int)), n = .int .i64 S ∧ Kept (S + sumP todo = Tl) ∧ 0 ≤ S ∧ (∀ p ∈ todo, 1 ≤ p.2 ∧ p.2 ≤ 1000000000) ∧ RangeAt encInt wq w5.heap.size (w.heap.size + 4) s'.P todo ∧ PuAt wq (w.heap.size + 3) (w.heap.size + 1) (w.heap.size + 2) s' ∧ Below w.heap.size w wq) (fun _ wq => wq.rangeLeft (w.heap.size + 4) w5.heap.size)
            case atStart => exact ⟨0, s'.P, rfl, ⟨by rw [hts.out, HTl.out]; omega⟩, by omega, hqs.out, HR.out, HP5.out, HB5.out⟩
            case round =>
              clear HR HP5 HB5
              obtain ⟨S, todo, rfl, hS, S0, hv, hR7, hP7, hB7⟩ := hrel
              have HP7 := Kept.mk hP7
              have HB7 := Kept.mk hB7
              rcases hR7.next (P := Try.prog) 0 (Nat.ne_of_gt hmlt) with ⟨rfl, hnx⟩ | ⟨p1, y9, v9, q1, w9, rfl, hnx, hen, hR9, k9, z9⟩
              · obtain rfl : S = Tl := by have := hS.out; simp only [sumP] at this; omega
                have hm7 := hR7.map
                clear hR7 hB7
                go_wp2_with fail
                refine (till_to _ _ _ _ _ _ HP7.out HTl.out).mono ?_
                rintro e _ ⟨rfl, rfl⟩
                go_wp2_with fail
                refine (money_to _ _ _ _ _ _ 0 _ HP7.out rfl (by omega) HM0.out).mono ?_
                rintro e _ ⟨rfl, rfl⟩
                go_wp2_with fail
                refine (money_to _ _ _ _ _ _ 1 _ HP7.out rfl (by omega) HM1.out).mono ?_
                rintro e _ ⟨rfl, rfl⟩
                go_wp2_with fail
                refine (money_to _ _ _ _ _ _ 0 _ HP7.out rfl (by omega) HM0.out).mono ?_
                rintro e _ ⟨rfl, rfl⟩
                go_wp2_with fail
                refine (allowed_to _ _ _ _ _ _ 0 _ HP7.out HS5.out.ok rfl (by omega) HY0.out).mono ?_
                rintro e wa ⟨rfl, hpa, ka⟩
                have Ba : Below w.heap.size w wa := HB7.out.trans (ka.below HB7.out.size (fun _ h => h.elim))
                have hma := hm7.keeps ka (fun h => h)
                clear ka hm7
                go_wp2_with fail
                refine (money_to _ _ _ _ _ _ 1 _ hpa rfl (by omega) HM1.out).mono ?_
                rintro e _ ⟨rfl, rfl⟩
                go_wp2_with fail
                refine (allowed_to _ _ _ _ _ _ 1 _ hpa HS5.out.ok rfl (by omega) HY1.out).mono ?_
                rintro e wb ⟨rfl, hpb, kb⟩
                have Bb : Below w.heap.size w wb := Ba.trans (kb.below Ba.size (fun _ h => h.elim))
                have hmb := hma.keeps kb (fun h => h)
                clear kb hma hpa
                go_wp2_with fail
                go_roundw
                case rel => exact ⟨k + 1, s', by omega, by go_num, HS5.out, hpb, hmb, Bb⟩
                case measure => simp [intOf]; omega
              · have hv9 := hv (y9, v9) (by simp)
                simp only at hv9
                have hv2 : ∀ z ∈ p1 ++ q1, 1 ≤ z.2 ∧ z.2 ≤ 1000000000 := fun z hz => hv z (by
                  rw [List.mem_append] at hz ⊢
                  rcases hz with h | h
                  · exact .inl h
                  · exact .inr (List.mem_cons_of_mem _ h))
                have hn := sumP_nonneg hv2
                have hS2 := hS.out
                rw [sumP_split] at hS2
                have hS3 : Kept (S + v9 + sumP (p1 ++ q1) = Tl) := ⟨by omega⟩
                have hsq : S + v9 ≤ Tl := by omega
                have hsz := hB7.size
                have B9 : Below w.heap.size w w9 := hB7.trans (k9.below hsz (fun k e => by omega))
                have hP9 := hP7.keeps k9 (fun e => by omega) (fun e => by omega) (fun e => by omega)
                have HL := Kept.mk hR7.left_eq
                have HR9 := Kept.mk hR9
                have HV2 := Kept.mk hv2
                unfold encInt at hnx hen
                clear hR7 hR9 hP7 hB7 hv hv2 hS hS2 k9
                go_wp2_with fail
                go_roundw
                case rel => exact ⟨S + v9, p1 ++ q1, rfl, hS3, by omega, HV2.out, HR9.out, hP9, B9⟩
                case measure => rw [HR9.out.left_eq, HL.out]; simp
          · have e0 : (fd == 0) = false := by simpa using hd0
            have e1 : (fd == 1) = false := by simpa using hd1
            clear hd0 hd1
            obtain ⟨r, s', Hr, hs', HP, hn⟩ := HS.out.allow (id := id) (i := tt) (q := q) (by omega)
            have HS5 := Kept.mk hs'
            clear hs'
            by_cases hr0 : r = 0
            · subst hr0
              have Hn := Kept.mk (hn rfl)
              clear hn
              go_wp2_with fail
              rw [HID.out, HQ.out, HTT.out]
              refine (allow_to _ _ _ _ _ _ _ _ _ _ hcA HS.out.ok Hr.out).mono ?_
              rintro e w5 ⟨rfl, h5, k5⟩
              have B5 : Below w.heap.size w w5 := HBA.out.trans (k5.below HBA.out.size (fun k e => by omega))
              have hm5 := hmA.keeps k5 (fun e => by omega)
              have hl5 := look_at hm5 id
              rw [Hn.out] at hl5
              simp only [Option.getD_none] at hl5
              rw [← HP] at hm5
              clear k5 hcA hmA HP
              obtain ⟨o, hrg, hR⟩ := hm5.range (P := Try.prog) Try.underlying46
              have hb5 := B5.size
              have hmlt := hm5.lt
              have HR := Kept.mk hR
              have HP5 := Kept.mk (h5.alloc o)
              have HB5 := Kept.mk (B5.alloc hb5 o)
              have hqs : Kept (∀ p ∈ s'.P, 1 ≤ p.2 ∧ p.2 ≤ 1000000000) := ⟨HS5.out.pays⟩
              have hts := Kept.mk HS5.out.till
              have htu : s'.till ≤ 1000000000 := by have h1 := HS5.out.ok.all; have h2 : 0 ≤ resvAll s'.A := sumN_nonneg HS5.out.ok.al0 8; omega
              obtain ⟨M0, HM0⟩ : ∃ M, Kept (s'.money 0 = M) := ⟨_, ⟨rfl⟩⟩
              obtain ⟨M1, HM1⟩ : ∃ M, Kept (s'.money 1 = M) := ⟨_, ⟨rfl⟩⟩
              obtain ⟨Y0, HY0⟩ : ∃ M, Kept (resv s'.A 0 = M) := ⟨_, ⟨rfl⟩⟩
              obtain ⟨Y1, HY1⟩ : ∃ M, Kept (resv s'.A 1 = M) := ⟨_, ⟨rfl⟩⟩
              obtain ⟨Tl, HTl⟩ : ∃ M, Kept (s'.till = M) := ⟨_, ⟨rfl⟩⟩
              have hsum := HS5.out.sum
              have hl0 := HS5.out.ok.al 0 (by omega)
              have hl1 := HS5.out.ok.al 1 (by omega)
              have hz0 := HS5.out.ok.al0 0
              have hz1 := HS5.out.ok.al0 1
              have hz2 := HS5.out.ok.t0
              rw [HM0.out, HM1.out, HTl.out] at hsum
              rw [HM0.out, HY0.out] at hl0
              rw [HM1.out, HY1.out] at hl1
              rw [HY0.out] at hz0
              rw [HY1.out] at hz1
              rw [HTl.out] at hz2 htu
              clear hR B5
              go_wp2_with fail
              go_loopw [12] (fun n wq => ∃ (S : Int) (todo : List (Int × Int)), n = .int .i64 S ∧ Kept (S + sumP todo = Tl) ∧ 0 ≤ S ∧ (∀ p ∈ todo, 1 ≤ p.2 ∧ p.2 ≤ 1000000000) ∧ RangeAt encInt wq w5.heap.size (w.heap.size + 4) s'.P todo ∧ PuAt wq (w.heap.size + 3) (w.heap.size + 1) (w.heap.size + 2) s' ∧ Below w.heap.size w wq) (fun _ wq => wq.rangeLeft (w.heap.size + 4) w5.heap.size)
              case atStart => exact ⟨0, s'.P, rfl, ⟨by rw [hts.out, HTl.out]; omega⟩, by omega, hqs.out, HR.out, HP5.out, HB5.out⟩
              case round =>
                clear HR HP5 HB5
                obtain ⟨S, todo, rfl, hS, S0, hv, hR7, hP7, hB7⟩ := hrel
                have HP7 := Kept.mk hP7
                have HB7 := Kept.mk hB7
                rcases hR7.next (P := Try.prog) 0 (Nat.ne_of_gt hmlt) with ⟨rfl, hnx⟩ | ⟨p1, y9, v9, q1, w9, rfl, hnx, hen, hR9, k9, z9⟩
                · obtain rfl : S = Tl := by have := hS.out; simp only [sumP] at this; omega
                  have hm7 := hR7.map
                  clear hR7 hB7
                  go_wp2_with fail
                  refine (till_to _ _ _ _ _ _ HP7.out HTl.out).mono ?_
                  rintro e _ ⟨rfl, rfl⟩
                  go_wp2_with fail
                  refine (money_to _ _ _ _ _ _ 0 _ HP7.out rfl (by omega) HM0.out).mono ?_
                  rintro e _ ⟨rfl, rfl⟩
                  go_wp2_with fail
                  refine (money_to _ _ _ _ _ _ 1 _ HP7.out rfl (by omega) HM1.out).mono ?_
                  rintro e _ ⟨rfl, rfl⟩
                  go_wp2_with fail
                  refine (money_to _ _ _ _ _ _ 0 _ HP7.out rfl (by omega) HM0.out).mono ?_
                  rintro e _ ⟨rfl, rfl⟩
                  go_wp2_with fail
                  refine (allowed_to _ _ _ _ _ _ 0 _ HP7.out HS5.out.ok rfl (by omega) HY0.out).mono ?_
                  rintro e wa ⟨rfl, hpa, ka⟩
                  have Ba : Below w.heap.size w wa := HB7.out.trans (ka.below HB7.out.size (fun _ h => h.elim))
                  have hma := hm7.keeps ka (fun h => h)
                  clear ka hm7
                  go_wp2_with fail
                  refine (money_to _ _ _ _ _ _ 1 _ hpa rfl (by omega) HM1.out).mono ?_
                  rintro e _ ⟨rfl, rfl⟩
                  go_wp2_with fail
                  refine (allowed_to _ _ _ _ _ _ 1 _ hpa HS5.out.ok rfl (by omega) HY1.out).mono ?_
                  rintro e wb ⟨rfl, hpb, kb⟩
                  have Bb : Below w.heap.size w wb := Ba.trans (kb.below Ba.size (fun _ h => h.elim))
                  have hmb := hma.keeps kb (fun h => h)
                  clear kb hma hpa
                  go_wp2_with fail
                  go_roundw
                  case rel => exact ⟨k + 1, s', by omega, by go_num, HS5.out, hpb, hmb, Bb⟩
                  case measure => simp [intOf]; omega
                · have hv9 := hv (y9, v9) (by simp)
                  simp only at hv9
                  have hv2 : ∀ z ∈ p1 ++ q1, 1 ≤ z.2 ∧ z.2 ≤ 1000000000 := fun z hz => hv z (by
                    rw [List.mem_append] at hz ⊢
                    rcases hz with h | h
                    · exact .inl h
                    · exact .inr (List.mem_cons_of_mem _ h))
                  have hn := sumP_nonneg hv2
                  have hS2 := hS.out
                  rw [sumP_split] at hS2
                  have hS3 : Kept (S + v9 + sumP (p1 ++ q1) = Tl) := ⟨by omega⟩
                  have hsq : S + v9 ≤ Tl := by omega
                  have hsz := hB7.size
                  have B9 : Below w.heap.size w w9 := hB7.trans (k9.below hsz (fun k e => by omega))
                  have hP9 := hP7.keeps k9 (fun e => by omega) (fun e => by omega) (fun e => by omega)
                  have HL := Kept.mk hR7.left_eq
                  have HR9 := Kept.mk hR9
                  have HV2 := Kept.mk hv2
                  unfold encInt at hnx hen
                  clear hR7 hR9 hP7 hB7 hv hv2 hS hS2 k9
                  go_wp2_with fail
                  go_roundw
                  case rel => exact ⟨S + v9, p1 ++ q1, rfl, hS3, by omega, HV2.out, HR9.out, hP9, B9⟩
                  case measure => rw [HR9.out.left_eq, HL.out]; simp
            · have hr1 : (r == 0) = false := by simpa using hr0
              clear hn hr0
              go_wp2_with fail
              rw [HID.out, HQ.out, HTT.out]
              refine (allow_to _ _ _ _ _ _ _ _ _ _ hcA HS.out.ok Hr.out).mono ?_
              rintro e w5 ⟨rfl, h5, k5⟩
              have B5 : Below w.heap.size w w5 := HBA.out.trans (k5.below HBA.out.size (fun k e => by omega))
              have hm5 := hmA.keeps k5 (fun e => by omega)
              rw [← HP] at hm5
              clear k5 hcA hmA HP
              obtain ⟨o, hrg, hR⟩ := hm5.range (P := Try.prog) Try.underlying46
              have hb5 := B5.size
              have hmlt := hm5.lt
              have HR := Kept.mk hR
              have HP5 := Kept.mk (h5.alloc o)
              have HB5 := Kept.mk (B5.alloc hb5 o)
              have hqs : Kept (∀ p ∈ s'.P, 1 ≤ p.2 ∧ p.2 ≤ 1000000000) := ⟨HS5.out.pays⟩
              have hts := Kept.mk HS5.out.till
              have htu : s'.till ≤ 1000000000 := by have h1 := HS5.out.ok.all; have h2 : 0 ≤ resvAll s'.A := sumN_nonneg HS5.out.ok.al0 8; omega
              obtain ⟨M0, HM0⟩ : ∃ M, Kept (s'.money 0 = M) := ⟨_, ⟨rfl⟩⟩
              obtain ⟨M1, HM1⟩ : ∃ M, Kept (s'.money 1 = M) := ⟨_, ⟨rfl⟩⟩
              obtain ⟨Y0, HY0⟩ : ∃ M, Kept (resv s'.A 0 = M) := ⟨_, ⟨rfl⟩⟩
              obtain ⟨Y1, HY1⟩ : ∃ M, Kept (resv s'.A 1 = M) := ⟨_, ⟨rfl⟩⟩
              obtain ⟨Tl, HTl⟩ : ∃ M, Kept (s'.till = M) := ⟨_, ⟨rfl⟩⟩
              have hsum := HS5.out.sum
              have hl0 := HS5.out.ok.al 0 (by omega)
              have hl1 := HS5.out.ok.al 1 (by omega)
              have hz0 := HS5.out.ok.al0 0
              have hz1 := HS5.out.ok.al0 1
              have hz2 := HS5.out.ok.t0
              rw [HM0.out, HM1.out, HTl.out] at hsum
              rw [HM0.out, HY0.out] at hl0
              rw [HM1.out, HY1.out] at hl1
              rw [HY0.out] at hz0
              rw [HY1.out] at hz1
              rw [HTl.out] at hz2 htu
              clear hR B5
              go_wp2_with fail
              go_loopw [12] (fun n wq => ∃ (S : Int) (todo : List (Int × Int)), n = .int .i64 S ∧ Kept (S + sumP todo = Tl) ∧ 0 ≤ S ∧ (∀ p ∈ todo, 1 ≤ p.2 ∧ p.2 ≤ 1000000000) ∧ RangeAt encInt wq w5.heap.size (w.heap.size + 4) s'.P todo ∧ PuAt wq (w.heap.size + 3) (w.heap.size + 1) (w.heap.size + 2) s' ∧ Below w.heap.size w wq) (fun _ wq => wq.rangeLeft (w.heap.size + 4) w5.heap.size)
              case atStart => exact ⟨0, s'.P, rfl, ⟨by rw [hts.out, HTl.out]; omega⟩, by omega, hqs.out, HR.out, HP5.out, HB5.out⟩
              case round =>
                clear HR HP5 HB5
                obtain ⟨S, todo, rfl, hS, S0, hv, hR7, hP7, hB7⟩ := hrel
                have HP7 := Kept.mk hP7
                have HB7 := Kept.mk hB7
                rcases hR7.next (P := Try.prog) 0 (Nat.ne_of_gt hmlt) with ⟨rfl, hnx⟩ | ⟨p1, y9, v9, q1, w9, rfl, hnx, hen, hR9, k9, z9⟩
                · obtain rfl : S = Tl := by have := hS.out; simp only [sumP] at this; omega
                  have hm7 := hR7.map
                  clear hR7 hB7
                  go_wp2_with fail
                  refine (till_to _ _ _ _ _ _ HP7.out HTl.out).mono ?_
                  rintro e _ ⟨rfl, rfl⟩
                  go_wp2_with fail
                  refine (money_to _ _ _ _ _ _ 0 _ HP7.out rfl (by omega) HM0.out).mono ?_
                  rintro e _ ⟨rfl, rfl⟩
                  go_wp2_with fail
                  refine (money_to _ _ _ _ _ _ 1 _ HP7.out rfl (by omega) HM1.out).mono ?_
                  rintro e _ ⟨rfl, rfl⟩
                  go_wp2_with fail
                  refine (money_to _ _ _ _ _ _ 0 _ HP7.out rfl (by omega) HM0.out).mono ?_
                  rintro e _ ⟨rfl, rfl⟩
                  go_wp2_with fail
                  refine (allowed_to _ _ _ _ _ _ 0 _ HP7.out HS5.out.ok rfl (by omega) HY0.out).mono ?_
                  rintro e wa ⟨rfl, hpa, ka⟩
                  have Ba : Below w.heap.size w wa := HB7.out.trans (ka.below HB7.out.size (fun _ h => h.elim))
                  have hma := hm7.keeps ka (fun h => h)
                  clear ka hm7
                  go_wp2_with fail
                  refine (money_to _ _ _ _ _ _ 1 _ hpa rfl (by omega) HM1.out).mono ?_
                  rintro e _ ⟨rfl, rfl⟩
                  go_wp2_with fail
                  refine (allowed_to _ _ _ _ _ _ 1 _ hpa HS5.out.ok rfl (by omega) HY1.out).mono ?_
                  rintro e wb ⟨rfl, hpb, kb⟩
                  have Bb : Below w.heap.size w wb := Ba.trans (kb.below Ba.size (fun _ h => h.elim))
                  have hmb := hma.keeps kb (fun h => h)
                  clear kb hma hpa
                  go_wp2_with fail
                  go_roundw
                  case rel => exact ⟨k + 1, s', by omega, by go_num, HS5.out, hpb, hmb, Bb⟩
                  case measure => simp [intOf]; omega
                · have hv9 := hv (y9, v9) (by simp)
                  simp only at hv9
                  have hv2 : ∀ z ∈ p1 ++ q1, 1 ≤ z.2 ∧ z.2 ≤ 1000000000 := fun z hz => hv z (by
                    rw [List.mem_append] at hz ⊢
                    rcases hz with h | h
                    · exact .inl h
                    · exact .inr (List.mem_cons_of_mem _ h))
                  have hn := sumP_nonneg hv2
                  have hS2 := hS.out
                  rw [sumP_split] at hS2
                  have hS3 : Kept (S + v9 + sumP (p1 ++ q1) = Tl) := ⟨by omega⟩
                  have hsq : S + v9 ≤ Tl := by omega
                  have hsz := hB7.size
                  have B9 : Below w.heap.size w w9 := hB7.trans (k9.below hsz (fun k e => by omega))
                  have hP9 := hP7.keeps k9 (fun e => by omega) (fun e => by omega) (fun e => by omega)
                  have HL := Kept.mk hR7.left_eq
                  have HR9 := Kept.mk hR9
                  have HV2 := Kept.mk hv2
                  unfold encInt at hnx hen
                  clear hR7 hR9 hP7 hB7 hv hv2 hS hS2 k9
                  go_wp2_with fail
                  go_roundw
                  case rel => exact ⟨S + v9, p1 ++ q1, rfl, hS3, by omega, HV2.out, HR9.out, hP9, B9⟩
                  case measure => rw [HR9.out.left_eq, HL.out]; simp
    · go_wp2_with fail
      refine (awake9_any _).mono ?_
      rintro e w5 ⟨rfl, b5⟩
      go_wp2_with fail
      go_ret
      exact ⟨rfl, HB.out.trans (b5.mono hbw)⟩
end Go.Proofs.Ytdnpeihfpmfmcaa
