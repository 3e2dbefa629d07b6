/- The law HoldPlays, walked. (printed by gen/holdplays.py) -/
import Derived.Test.YtofabbigngmboaaHoldIdsR
import Derived.Test.YtofabbigngmboaaSame
import Derived.Test.YtofabbigngmboaaInts
import Derived.Deep.RegionHeld3
namespace Go.Proofs.Ytofabbigngmboaa
open Go.RowKit
/-- What is left and what is held of N orders. -/
structure Hd.SumN (N : Nat) (s : Hd) (room : Int) : Prop where
  ok : s.Ok
  sum : s.l + sumTo s.at N = room
theorem Hd.SumN.take {N : Nat} {s : Hd} {room : Int} (h : Hd.SumN N s room) (id n : Int) (h1 : 1 ≤ id) (h2 : id ≤ N) : Hd.SumN N (s.take id n).2 room := by
  refine ⟨Hd.take_ok h.ok id n, ?_⟩
  unfold Hd.take
  cases ha : Hd.argOk id n with
  | false => simp only [Bool.false_eq_true, if_false]; exact h.sum
  | true =>
    simp only [if_true]
    by_cases hp : 0 < s.at id
    · rw [if_pos hp]; exact h.sum
    · rw [if_neg hp]
      by_cases hl : s.l < n
      · rw [if_pos hl]; exact h.sum
      · rw [if_neg hl]
        have hz : s.at id = 0 := by have := (h.ok.at_range id).1; omega
        have hu := sumTo_update (f := s.at) (g := (Hd.mk (s.l - n) (MP.put s.L id n)).at) (id := id) (fun k hk => by
          simp only [Hd.at]; rw [MP.get_put, if_neg hk]) h1 N
        have hg : (Hd.mk (s.l - n) (MP.put s.L id n)).at id = n := by simp only [Hd.at]; rw [MP.get_put, if_pos rfl]; rfl
        rw [hg, if_pos (by omega)] at hu
        show s.l - n + sumTo (Hd.mk (s.l - n) (MP.put s.L id n)).at N = room
        have := h.sum
        omega
theorem Hd.SumN.back {N : Nat} {s : Hd} {room : Int} (h : Hd.SumN N s room) (hr : room ≤ 1000000000) (id : Int) (h1 : 1 ≤ id) (h2 : id ≤ N) : Hd.SumN N (s.back id).2 room := by
  have hle := le_sumTo (f := s.at) (fun k => (h.ok.at_range k).1) h1 N (by omega)
  have hs := h.sum
  refine ⟨Hd.back_ok h.ok (by omega), ?_⟩
  unfold Hd.back
  by_cases h0 : s.at id = 0
  · rw [if_pos h0]; exact hs
  · rw [if_neg h0]
    have hu := sumTo_update (f := s.at) (g := (Hd.mk (s.l + s.at id) (MP.del s.L id)).at) (id := id) (fun k hk => by
      simp only [Hd.at]; rw [MP.get_del _ _ h.ok.nodup, if_neg hk]) h1 N
    have hg : (Hd.mk (s.l + s.at id) (MP.del s.L id)).at id = 0 := by simp only [Hd.at]; rw [MP.get_del _ _ h.ok.nodup, if_pos rfl]; rfl
    rw [hg, if_pos (by omega)] at hu
    show s.l + s.at id + sumTo (Hd.mk (s.l + s.at id) (MP.del s.L id)).at N = room
    omega
abbrev Hd.Sum9 (s : Hd) (R : Int) : Prop := Hd.SumN 999 s R
theorem sumTo_zero (l : Int) : ∀ j, sumTo (Hd.mk l []).at j = 0
  | 0 => rfl
  | j + 1 => by simp only [sumTo, at_nil, sumTo_zero l j, Int.add_zero]
theorem Hd.Sum9.takes {s : Hd} {room : Int} (h : s.Sum9 room) (id n : Int) : (s.take id n).2.Sum9 room := by
  by_cases hx : 1 ≤ id ∧ id ≤ 999
  · exact Hd.SumN.take h id n hx.1 hx.2
  · have e : s.take id n = (1, s) := by
      unfold Hd.take
      rw [argOk_eq, idB_no hx]
      simp
    rw [e]
    exact h
theorem Hd.Sum9.backs {s : Hd} {room : Int} (h : s.Sum9 room) (hr : room ≤ 1000000000) (id : Int) : (s.back id).2.Sum9 room := by
  by_cases h0 : s.at id = 0
  · have e : s.back id = (6, s) := by unfold Hd.back; rw [if_pos h0]
    rw [e]
    exact h
  · obtain ⟨h1, h2, _⟩ := h.ok.keys h0
    exact Hd.SumN.back h hr id h1 h2
/-- The two books in one world. -/
structure Two (R : Int) (b : Nat) (W : World) (s : Hd) (B : Nat → Int) : Prop where
  tw : HdAt W (b + 1) b s
  rt : HR W (b + 2) s.l B
  agr : AgH s B
  sum : s.Sum9 R
theorem Two.keeps {R : Int} {b : Nat} {W W' : World} {s : Hd} {B : Nat → Int} (h : Two R b W s B) (k : Keeps (fun _ => False) W W') : Two R b W' s B := ⟨h.tw.keeps k (fun h => h) (fun h => h), h.rt.keeps k (fun h => h), h.agr, h.sum⟩
theorem Two.left {R : Int} {b : Nat} {W : World} {s : Hd} {B : Nat → Int} (h : Two R b W s B) {l : Int} (e : s.l = l) : W.cell? ⟨b + 2, 0, none⟩ = some (.int .i64 l) := by
  rw [← e]
  exact h.rt.at0
theorem Two.ids {R : Int} {b : Nat} {W W' : World} {s : Hd} {B : Nat → Int} (h : Two R b W s B) (k : Keeps (fun _ => False) W W') :
    Calls Try.prog 42 #[.pointer (some ⟨b + 1, 0, none⟩)] W' fun e w2 => ∃ v, e = .returned v ∧ IdsTo W' w2 v (idsN B 1000) := by
  have := ids_book (b + 1) b s W' (h.keeps k).tw h.sum.ok.key_range
  rw [h.agr.ids h.sum.ok] at this
  exact this
set_option linter.unusedSimpArgs false in
set_option linter.unusedVariables false in
set_option maxRecDepth 100000 in
set_option maxHeartbeats 16000000 in
theorem hplays_any (n st : Int) (a : Option Addr) (len cap : Nat) (f : Nat → Bool × Int × Int) (w : World) (hr : CallRow w a len f) (hlen : (len : Int) ≤ 9223372036854775807) : Calls Try.prog 6 #[.int .i64 n, .slice a len cap, .int .i64 st] w (Yes w) := by
  obtain ⟨b, off, ha, hcell⟩ := hr
  have Hcell := Kept.mk hcell
  clear hcell
  have hS := mod_range st 5 (by omega) (by omega)
  obtain ⟨R, HR⟩ : ∃ R, Kept (max 0 (min n 1000000000) = R) := ⟨_, ⟨rfl⟩⟩
  have hR0 : 0 ≤ R ∧ R ≤ 1000000000 := by have := HR.out; omega
  have Hs0 : Kept (Hd.new n = ⟨R, []⟩) := ⟨by simp only [Hd.new, HR.out]⟩
  have Hsum0 : Kept ((Hd.mk R []).Sum9 R) := ⟨⟨by have := Hd.new_ok n; rw [Hs0.out] at this; exact this, by rw [sumTo_zero]; exact Int.add_zero R⟩⟩
  have Hag : Kept (AgH (Hd.mk R []) (fun _ => 0)) := ⟨⟨fun k => by simp [MP.get_nil]⟩⟩
  go_enter Try.func6, Try.ntmps6
  go_wp2_with fail
  refine (holdNew_to n _ _ Hs0.out).mono ?_
  rintro e w1 ⟨rfl, ⟨h1, z1⟩, k1⟩
  go_wp2_with fail
  refine (newHold_to n R (w.heap.size + 2) _ HR.out z1).mono ?_
  rintro e w2 ⟨rfl, ⟨h2, z2⟩, k2⟩
  have G2 : Kept (Two R w.heap.size w2 ⟨R, []⟩ (fun _ => 0)) := ⟨⟨h1.keeps k2 (fun h => h) (fun h => h), h2, Hag.out, Hsum0.out⟩⟩
  have B2 : Kept (Below w.heap.size w w2) := ⟨(k1.trans k2).below (Nat.le_refl _) (fun _ h => h.elim)⟩
  clear h1 z1 k1 h2 z2 k2 Hag Hsum0 HR
  go_wp2_with fail
  generalize wrap64 ((IntKind.u64.wrap st).tmod 5) = S at hS ⊢
  obtain ⟨sn, rfl⟩ : ∃ sn : Nat, S = sn := ⟨S.toNat, by omega⟩
  go_loopw [29] (fun i wr => ∃ (k : Nat) (s : Hd) (B : Nat → Int), k ≤ len ∧ k ≤ 100 ∧ i = .int .i64 k ∧ Kept (Two R w.heap.size wr s B) ∧ Kept (Below w.heap.size w wr)) (fun i _ => (len - (intOf i).toNat))
  case atStart => exact ⟨0, _, _, by omega, by omega, rfl, G2, B2⟩
  case round =>
    clear G2 B2 Hs0
    obtain ⟨k, s, B, hk, hk100, rfl, HT, HB⟩ := hrel
    have hbw := HB.out.size
    have HZ : Kept (w.heap.size + 2 < wr.heap.size) := ⟨Blk.lt HT.out.rt⟩
    by_cases hgo : k < len ∧ (k : Int) < 100
    · obtain ⟨hlt, h100⟩ := hgo
      obtain ⟨rfl, hbl⟩ : a = some ⟨b, off, none⟩ ∧ b < w.heap.size := by
        rcases ha with h | h
        · exact h
        · omega
      obtain ⟨c0, c1, c2⟩ := Hcell.out k hlt
      rw [← HB.out.cell (p := ⟨b, off + k * 3, none⟩) hbl] at c0
      rw [← HB.out.cell (p := ⟨b, off + k * 3 + 1, none⟩) hbl] at c1
      rw [← HB.out.cell (p := ⟨b, off + k * 3 + 2, none⟩) hbl] at c2
      generalize (f k).1 = f1 at c0
      generalize (f k).2.1 = f2 at c1
      generalize (f k).2.2 = f3 at c2
      have HC := Kept.mk (Blk.newAt wr 32 [.bool f1, .int .i64 f2, .int .i64 f3] _ rfl)
      have Ha := Kept.mk (HT.out.keeps ((Keeps.refl _ wr).alloc (.cells #[.bool f1, .int .i64 f2, .int .i64 f3] 32)))
      have HBa := Kept.mk (HB.out.alloc hbw (.cells #[.bool f1, .int .i64 f2, .int .i64 f3] 32))
      have HSC : Kept (¬ (wr.heap.size = w.heap.size + 1 ∨ wr.heap.size = w.heap.size)) := ⟨by have := HZ.out; omega⟩
      have HSQ : Kept (¬ (w.heap.size + 2 = w.heap.size + 1 ∨ w.heap.size + 2 = w.heap.size)) := ⟨by omega⟩
      have HSR : Kept (¬ wr.heap.size = w.heap.size + 2) := ⟨by have := HZ.out; omega⟩
      have HSP : Kept (¬ w.heap.size + 1 = w.heap.size + 2) := ⟨by omega⟩
      have HSM : Kept (¬ w.heap.size = w.heap.size + 2) := ⟨by omega⟩
      cases f1 with
      | true =>
        obtain ⟨r, s', Hs⟩ : ∃ r s', Kept (s.back f2 = (r, s')) := ⟨_, _, ⟨rfl⟩⟩
        have Hsum : Kept (s'.Sum9 R) := ⟨by have := HT.out.sum.backs hR0.2 f2; rw [Hs.out] at this; exact this⟩
        have HZa : Kept (w.heap.size + 2 < (wr.alloc (.cells #[.bool true, .int .i64 f2, .int .i64 f3] 32)).heap.size) := ⟨by have := HZ.out; simp; omega⟩
        go_wp2_with fail
        generalize wr.alloc (.cells #[.bool true, .int .i64 f2, .int .i64 f3] 32) = w9 at HC Ha HBa HZa ⊢
        have s90 := HC.out.drew.cell 1 rfl
        have s91 := HC.out.drew.cell 2 rfl
        go_region_held3 (fun W => W.cell? ⟨wr.heap.size, 1, none⟩ = some (.int .i64 f2) ∧ W.cell? ⟨wr.heap.size, 2, none⟩ = some (.int .i64 f3)) (go_keep) (first | (go_at_call 17; refine (back_to _ _ s s' f2 r _ (Ha.out.tw.drewN 1) Ha.out.sum.ok Hs.out).mono ?_; rintro e w3 ⟨rfl, ⟨h3, z3⟩, k3⟩; have g3 := (HC.out.drewN 1).keeps k3 HSC.out; have d3 := g3.cell 1 rfl; have e3 := g3.cell 2 rfl; have r3 := (Ha.out.rt.drewN 1).keeps k3 HSQ.out) | (go_at_call 22; refine (rback_to _ s s' B f2 r _ r3 Ha.out.agr Ha.out.sum.ok Hs.out).mono ?_; rintro e w4 ⟨B', ag', rfl, ⟨h4, z4⟩, k4⟩; have g4 := g3.keeps k4 HSR.out; have d4 := g4.cell 1 rfl; have e4 := g4.cell 2 rfl; have t4 := h3.keeps k4 HSP.out HSM.out))
        have hz1 := HZa.out
        have G : Kept (Two R w.heap.size w4 s' B') := ⟨⟨t4, h4, ag', Hsum.out⟩⟩
        have GB : Kept (Below w.heap.size w w4) := ⟨((HBa.out.trans (below_draws (Below.refl _ _) 1)).trans (k3.below (by show w.heap.size ≤ w9.heap.size; omega) (fun k e => by omega))).trans (k4.below (by have : w9.heap.size ≤ w3.heap.size := k3.size; omega) (fun k e => by omega))⟩
        have HC4 := Kept.mk g4
        clear h3 z3 k3 g3 d3 e3 r3 h4 z4 k4 g4 d4 e4 t4 ag' s90 s91
        obtain ⟨y, hy⟩ : ∃ y, Kept (s'.at f2 = y) := ⟨_, ⟨rfl⟩⟩
        obtain ⟨bb, hbb⟩ : ∃ bb, Kept ((MP.get s'.L f2).isSome = bb) := ⟨_, ⟨rfl⟩⟩
        have z0 := HC4.out.cell 1 rfl
        go_wp2_with fail
        refine (has_to _ _ _ _ _ _ _ G.out.tw hy.out hbb.out).mono ?_
        rintro e _ ⟨rfl, rfl⟩
        go_wp2_with fail
        refine (rhhas_to _ s' B' f2 y bb _ G.out.rt G.out.agr G.out.sum.ok hy.out hbb.out).mono ?_
        rintro e _ ⟨rfl, rfl⟩
        go_wp2_with fail
        refine (rids_to _ _ _ _ G.out.rt).mono ?_
        rintro e w5 ⟨u5, rfl, hu5, k5⟩
        obtain ⟨M, HMM⟩ : ∃ M, Kept (idsN B' 1000 = M) := ⟨_, ⟨rfl⟩⟩
        rw [HMM.out] at hu5
        obtain ⟨ra, rc, rfl, hrl, hrm⟩ := hu5.slice
        have HU := Kept.mk hu5
        have G5 := Kept.mk (G.out.keeps k5)
        have B5 := Kept.mk (GB.out.trans (k5.below GB.out.size (fun _ h => h.elim)))
        have hM : M.length ≤ 1000 := by rw [← HMM.out]; exact idsN_len B' 1000
        have hM1' : M.length ≤ 100000 := by omega
        have hn1 : sn ≤ 100000 := by omega
        have hn2 : 1000 ≤ 100000 := by omega
        have Hids5 : Kept (∀ wq, Keeps (fun _ => False) w5 wq → Calls Try.prog 42 #[.pointer (some ⟨w.heap.size + 1, 0, none⟩)] wq fun e w2 => ∃ v, e = .returned v ∧ IdsTo wq w2 v M) := ⟨fun wq kq => by have := G5.out.ids kq; rw [HMM.out] at this; exact this⟩
        obtain ⟨l', Hl⟩ : ∃ l', Kept (s'.l = l') := ⟨_, ⟨rfl⟩⟩
        have s50 : w5.drew.cell? ⟨w.heap.size + 2, 0, none⟩ = some (.int .i64 l') := (G5.out.keeps ((Keeps.refl (fun _ => False) w5).drew)).left Hl.out
        obtain ⟨ml, HM⟩ : ∃ ml, Kept (M.length = ml) := ⟨_, ⟨rfl⟩⟩
        have hMi : (ml : Int) ≤ 9223372036854775807 := by have := HM.out; omega
        rw [HM.out]
        clear k5 hu5 z0 HMM G
        by_cases hlt2 : (ml : Int) < sn
        · have Htt : Kept ((M.take sn).length = ml) := ⟨by rw [List.length_take, HM.out]; omega⟩
          have hmn : ((ml : Int) != min (sn : Int) (ml : Int)) = false := by rw [Int.min_eq_right (by omega)]; simp
          go_wp2_with fail
          go_region_held3 (fun W => W.cell? ⟨w.heap.size + 2, 0, none⟩ = some (.int .i64 l')) (go_keep) (first | (go_at_call 18; refine (left_to _ _ s' l' _ (G5.out.tw.drewN 1) Hl.out).mono ?_; rintro e w6 ⟨rfl, rfl⟩; have y6 : (w5.drewN 1).cell? ⟨w.heap.size + 2, 0, none⟩ = some (.int .i64 l') := s50) | (go_at_call 20; refine (ids_to _ sn M (w7.drewN n8) hn1 hM1' (fun wq kq => Hids5.out wq ((kk7.drewN n8).trans kq))).mono ?_; rintro e w9 ⟨⟨u9, rfl, hu9⟩, k9⟩; obtain ⟨ta, tc, rfl, htl, htm⟩ := hu9.slice; have kk9 := (kk7.drewN n8).trans k9; have y9 := (G5.out.keeps kk9).left Hl.out; rw [Htt.out]) | (go_at_call 20; refine (ids_to _ 1000 M (w5.drewN 1) hn2 hM1' (fun wq kq => Hids5.out wq (((Keeps.refl (fun _ => False) w5).drewN 1).trans kq))).mono ?_; rintro e w7 ⟨⟨u7, rfl, hu7⟩, k7⟩; rw [List.take_of_length_le hM] at hu7; obtain ⟨ga, gc, rfl, hgl, hgm⟩ := hu7.slice; have kk7 := ((Keeps.refl (fun _ => False) w5).drewN 1).trans k7; have i7 := ownsRow_ints hu7; have i5 := ownsRow_ints (ownsRow_keeps HU.out kk7 (fun _ _ h => h)); rw [HM.out] at i7 i5; have y7 := (G5.out.keeps kk7).left Hl.out; rw [HM.out]) | (go_at_call 26; refine (same_yes _ _ _ _ _ _ _ i7 i5 hMi).mono ?_; rintro e w8 ⟨rfl, n8, rfl⟩; have y8 := ((G5.out.keeps kk7).keeps ((Keeps.refl (fun _ => False) w7).drewN n8)).left Hl.out))
          all_goals
            have G9 := Kept.mk (G5.out.keeps kk9)
            have B9 := Kept.mk (B5.out.trans (kk9.below B5.out.size (fun _ h => h.elim)))
            try clear hu7 k7 kk7 i7 i5 y6 y7 y8 hu9 k9 kk9 y9
            go_wp2_with fail
            go_roundw
            case rel => exact ⟨k + 1, s', B', by omega, by omega, by go_num, G9, B9⟩
            case measure => simp [intOf]; omega
        · have Htt : Kept ((M.take sn).length = sn) := ⟨by rw [List.length_take, HM.out]; omega⟩
          have hmn : ((sn : Int) != min (sn : Int) (ml : Int)) = false := by rw [Int.min_eq_left (by omega)]; simp
          go_wp2_with fail
          go_region_held3 (fun W => W.cell? ⟨w.heap.size + 2, 0, none⟩ = some (.int .i64 l')) (go_keep) (first | (go_at_call 18; refine (left_to _ _ s' l' _ (G5.out.tw.drewN 1) Hl.out).mono ?_; rintro e w6 ⟨rfl, rfl⟩; have y6 : (w5.drewN 1).cell? ⟨w.heap.size + 2, 0, none⟩ = some (.int .i64 l') := s50) | (go_at_call 20; refine (ids_to _ sn M (w7.drewN n8) hn1 hM1' (fun wq kq => Hids5.out wq ((kk7.drewN n8).trans kq))).mono ?_; rintro e w9 ⟨⟨u9, rfl, hu9⟩, k9⟩; obtain ⟨ta, tc, rfl, htl, htm⟩ := hu9.slice; have kk9 := (kk7.drewN n8).trans k9; have y9 := (G5.out.keeps kk9).left Hl.out; rw [Htt.out]) | (go_at_call 20; refine (ids_to _ 1000 M (w5.drewN 1) hn2 hM1' (fun wq kq => Hids5.out wq (((Keeps.refl (fun _ => False) w5).drewN 1).trans kq))).mono ?_; rintro e w7 ⟨⟨u7, rfl, hu7⟩, k7⟩; rw [List.take_of_length_le hM] at hu7; obtain ⟨ga, gc, rfl, hgl, hgm⟩ := hu7.slice; have kk7 := ((Keeps.refl (fun _ => False) w5).drewN 1).trans k7; have i7 := ownsRow_ints hu7; have i5 := ownsRow_ints (ownsRow_keeps HU.out kk7 (fun _ _ h => h)); rw [HM.out] at i7 i5; have y7 := (G5.out.keeps kk7).left Hl.out; rw [HM.out]) | (go_at_call 26; refine (same_yes _ _ _ _ _ _ _ i7 i5 hMi).mono ?_; rintro e w8 ⟨rfl, n8, rfl⟩; have y8 := ((G5.out.keeps kk7).keeps ((Keeps.refl (fun _ => False) w7).drewN n8)).left Hl.out))
          all_goals
            have G9 := Kept.mk (G5.out.keeps kk9)
            have B9 := Kept.mk (B5.out.trans (kk9.below B5.out.size (fun _ h => h.elim)))
            try clear hu7 k7 kk7 i7 i5 y6 y7 y8 hu9 k9 kk9 y9
            go_wp2_with fail
            go_roundw
            case rel => exact ⟨k + 1, s', B', by omega, by omega, by go_num, G9, B9⟩
            case measure => simp [intOf]; omega
      | false =>
        obtain ⟨r, s', Hs⟩ : ∃ r s', Kept (s.take f2 f3 = (r, s')) := ⟨_, _, ⟨rfl⟩⟩
        have Hsum : Kept (s'.Sum9 R) := ⟨by have := HT.out.sum.takes f2 f3; rw [Hs.out] at this; exact this⟩
        have HZa : Kept (w.heap.size + 2 < (wr.alloc (.cells #[.bool false, .int .i64 f2, .int .i64 f3] 32)).heap.size) := ⟨by have := HZ.out; simp; omega⟩
        go_wp2_with fail
        generalize wr.alloc (.cells #[.bool false, .int .i64 f2, .int .i64 f3] 32) = w9 at HC Ha HBa HZa ⊢
        have s90 := HC.out.drew.cell 1 rfl
        have s91 := HC.out.drew.cell 2 rfl
        go_region_held3 (fun W => W.cell? ⟨wr.heap.size, 1, none⟩ = some (.int .i64 f2) ∧ W.cell? ⟨wr.heap.size, 2, none⟩ = some (.int .i64 f3)) (go_keep) (first | (go_at_call 16; refine (take_to _ _ s s' f2 f3 r _ (Ha.out.tw.drewN 1) Ha.out.sum.ok Hs.out).mono ?_; rintro e w3 ⟨rfl, ⟨h3, z3⟩, k3⟩; have g3 := (HC.out.drewN 1).keeps k3 HSC.out; have d3 := g3.cell 1 rfl; have e3 := g3.cell 2 rfl; have r3 := (Ha.out.rt.drewN 1).keeps k3 HSQ.out) | (go_at_call 23; refine (rtake_to _ s s' B f2 f3 r _ r3 Ha.out.agr Ha.out.sum.ok Hs.out).mono ?_; rintro e w4 ⟨B', ag', rfl, ⟨h4, z4⟩, k4⟩; have g4 := g3.keeps k4 HSR.out; have d4 := g4.cell 1 rfl; have e4 := g4.cell 2 rfl; have t4 := h3.keeps k4 HSP.out HSM.out))
        have hz1 := HZa.out
        have G : Kept (Two R w.heap.size w4 s' B') := ⟨⟨t4, h4, ag', Hsum.out⟩⟩
        have GB : Kept (Below w.heap.size w w4) := ⟨((HBa.out.trans (below_draws (Below.refl _ _) 1)).trans (k3.below (by show w.heap.size ≤ w9.heap.size; omega) (fun k e => by omega))).trans (k4.below (by have : w9.heap.size ≤ w3.heap.size := k3.size; omega) (fun k e => by omega))⟩
        have HC4 := Kept.mk g4
        clear h3 z3 k3 g3 d3 e3 r3 h4 z4 k4 g4 d4 e4 t4 ag' s90 s91
        obtain ⟨y, hy⟩ : ∃ y, Kept (s'.at f2 = y) := ⟨_, ⟨rfl⟩⟩
        obtain ⟨bb, hbb⟩ : ∃ bb, Kept ((MP.get s'.L f2).isSome = bb) := ⟨_, ⟨rfl⟩⟩
        have z0 := HC4.out.cell 1 rfl
        go_wp2_with fail
        refine (has_to _ _ _ _ _ _ _ G.out.tw hy.out hbb.out).mono ?_
        rintro e _ ⟨rfl, rfl⟩
        go_wp2_with fail
        refine (rhhas_to _ s' B' f2 y bb _ G.out.rt G.out.agr G.out.sum.ok hy.out hbb.out).mono ?_
        rintro e _ ⟨rfl, rfl⟩
        go_wp2_with fail
        refine (rids_to _ _ _ _ G.out.rt).mono ?_
        rintro e w5 ⟨u5, rfl, hu5, k5⟩
        obtain ⟨M, HMM⟩ : ∃ M, Kept (idsN B' 1000 = M) := ⟨_, ⟨rfl⟩⟩
        rw [HMM.out] at hu5
        obtain ⟨ra, rc, rfl, hrl, hrm⟩ := hu5.slice
        have HU := Kept.mk hu5
        have G5 := Kept.mk (G.out.keeps k5)
        have B5 := Kept.mk (GB.out.trans (k5.below GB.out.size (fun _ h => h.elim)))
        have hM : M.length ≤ 1000 := by rw [← HMM.out]; exact idsN_len B' 1000
        have hM1' : M.length ≤ 100000 := by omega
        have hn1 : sn ≤ 100000 := by omega
        have hn2 : 1000 ≤ 100000 := by omega
        have Hids5 : Kept (∀ wq, Keeps (fun _ => False) w5 wq → Calls Try.prog 42 #[.pointer (some ⟨w.heap.size + 1, 0, none⟩)] wq fun e w2 => ∃ v, e = .returned v ∧ IdsTo wq w2 v M) := ⟨fun wq kq => by have := G5.out.ids kq; rw [HMM.out] at this; exact this⟩
        obtain ⟨l', Hl⟩ : ∃ l', Kept (s'.l = l') := ⟨_, ⟨rfl⟩⟩
        have s50 : w5.drew.cell? ⟨w.heap.size + 2, 0, none⟩ = some (.int .i64 l') := (G5.out.keeps ((Keeps.refl (fun _ => False) w5).drew)).left Hl.out
        obtain ⟨ml, HM⟩ : ∃ ml, Kept (M.length = ml) := ⟨_, ⟨rfl⟩⟩
        have hMi : (ml : Int) ≤ 9223372036854775807 := by have := HM.out; omega
        rw [HM.out]
        clear k5 hu5 z0 HMM G
        by_cases hlt2 : (ml : Int) < sn
        · have Htt : Kept ((M.take sn).length = ml) := ⟨by rw [List.length_take, HM.out]; omega⟩
          have hmn : ((ml : Int) != min (sn : Int) (ml : Int)) = false := by rw [Int.min_eq_right (by omega)]; simp
          go_wp2_with fail
          go_region_held3 (fun W => W.cell? ⟨w.heap.size + 2, 0, none⟩ = some (.int .i64 l')) (go_keep) (first | (go_at_call 18; refine (left_to _ _ s' l' _ (G5.out.tw.drewN 1) Hl.out).mono ?_; rintro e w6 ⟨rfl, rfl⟩; have y6 : (w5.drewN 1).cell? ⟨w.heap.size + 2, 0, none⟩ = some (.int .i64 l') := s50) | (go_at_call 20; refine (ids_to _ sn M (w7.drewN n8) hn1 hM1' (fun wq kq => Hids5.out wq ((kk7.drewN n8).trans kq))).mono ?_; rintro e w9 ⟨⟨u9, rfl, hu9⟩, k9⟩; obtain ⟨ta, tc, rfl, htl, htm⟩ := hu9.slice; have kk9 := (kk7.drewN n8).trans k9; have y9 := (G5.out.keeps kk9).left Hl.out; rw [Htt.out]) | (go_at_call 20; refine (ids_to _ 1000 M (w5.drewN 1) hn2 hM1' (fun wq kq => Hids5.out wq (((Keeps.refl (fun _ => False) w5).drewN 1).trans kq))).mono ?_; rintro e w7 ⟨⟨u7, rfl, hu7⟩, k7⟩; rw [List.take_of_length_le hM] at hu7; obtain ⟨ga, gc, rfl, hgl, hgm⟩ := hu7.slice; have kk7 := ((Keeps.refl (fun _ => False) w5).drewN 1).trans k7; have i7 := ownsRow_ints hu7; have i5 := ownsRow_ints (ownsRow_keeps HU.out kk7 (fun _ _ h => h)); rw [HM.out] at i7 i5; have y7 := (G5.out.keeps kk7).left Hl.out; rw [HM.out]) | (go_at_call 26; refine (same_yes _ _ _ _ _ _ _ i7 i5 hMi).mono ?_; rintro e w8 ⟨rfl, n8, rfl⟩; have y8 := ((G5.out.keeps kk7).keeps ((Keeps.refl (fun _ => False) w7).drewN n8)).left Hl.out))
          all_goals
            have G9 := Kept.mk (G5.out.keeps kk9)
            have B9 := Kept.mk (B5.out.trans (kk9.below B5.out.size (fun _ h => h.elim)))
            try clear hu7 k7 kk7 i7 i5 y6 y7 y8 hu9 k9 kk9 y9
            go_wp2_with fail
            go_roundw
            case rel => exact ⟨k + 1, s', B', by omega, by omega, by go_num, G9, B9⟩
            case measure => simp [intOf]; omega
        · have Htt : Kept ((M.take sn).length = sn) := ⟨by rw [List.length_take, HM.out]; omega⟩
          have hmn : ((sn : Int) != min (sn : Int) (ml : Int)) = false := by rw [Int.min_eq_left (by omega)]; simp
          go_wp2_with fail
          go_region_held3 (fun W => W.cell? ⟨w.heap.size + 2, 0, none⟩ = some (.int .i64 l')) (go_keep) (first | (go_at_call 18; refine (left_to _ _ s' l' _ (G5.out.tw.drewN 1) Hl.out).mono ?_; rintro e w6 ⟨rfl, rfl⟩; have y6 : (w5.drewN 1).cell? ⟨w.heap.size + 2, 0, none⟩ = some (.int .i64 l') := s50) | (go_at_call 20; refine (ids_to _ sn M (w7.drewN n8) hn1 hM1' (fun wq kq => Hids5.out wq ((kk7.drewN n8).trans kq))).mono ?_; rintro e w9 ⟨⟨u9, rfl, hu9⟩, k9⟩; obtain ⟨ta, tc, rfl, htl, htm⟩ := hu9.slice; have kk9 := (kk7.drewN n8).trans k9; have y9 := (G5.out.keeps kk9).left Hl.out; rw [Htt.out]) | (go_at_call 20; refine (ids_to _ 1000 M (w5.drewN 1) hn2 hM1' (fun wq kq => Hids5.out wq (((Keeps.refl (fun _ => False) w5).drewN 1).trans kq))).mono ?_; rintro e w7 ⟨⟨u7, rfl, hu7⟩, k7⟩; rw [List.take_of_length_le hM] at hu7; obtain ⟨ga, gc, rfl, hgl, hgm⟩ := hu7.slice; have kk7 := ((Keeps.refl (fun _ => False) w5).drewN 1).trans k7; have i7 := ownsRow_ints hu7; have i5 := ownsRow_ints (ownsRow_keeps HU.out kk7 (fun _ _ h => h)); rw [HM.out] at i7 i5; have y7 := (G5.out.keeps kk7).left Hl.out; rw [HM.out]) | (go_at_call 26; refine (same_yes _ _ _ _ _ _ _ i7 i5 hMi).mono ?_; rintro e w8 ⟨rfl, n8, rfl⟩; have y8 := ((G5.out.keeps kk7).keeps ((Keeps.refl (fun _ => False) w7).drewN n8)).left Hl.out))
          all_goals
            have G9 := Kept.mk (G5.out.keeps kk9)
            have B9 := Kept.mk (B5.out.trans (kk9.below B5.out.size (fun _ h => h.elim)))
            try clear hu7 k7 kk7 i7 i5 y6 y7 y8 hu9 k9 kk9 y9
            go_wp2_with fail
            go_roundw
            case rel => exact ⟨k + 1, s', B', by omega, by omega, by go_num, G9, B9⟩
            case measure => simp [intOf]; omega
    · by_cases hend : k < len
      · obtain ⟨rfl, hbl⟩ : a = some ⟨b, off, none⟩ ∧ b < w.heap.size := by
          rcases ha with h | h
          · exact h
          · omega
        obtain ⟨c0, c1, c2⟩ := Hcell.out k hend
        rw [← HB.out.cell (p := ⟨b, off + k * 3, none⟩) hbl] at c0
        rw [← HB.out.cell (p := ⟨b, off + k * 3 + 1, none⟩) hbl] at c1
        rw [← HB.out.cell (p := ⟨b, off + k * 3 + 2, none⟩) hbl] at c2
        generalize (f k).1 = f1 at c0
        generalize (f k).2.1 = f2 at c1
        generalize (f k).2.2 = f3 at c2
        have hk' : (100 : Int) ≤ k := by omega
        clear hgo
        go_wp2_with fail
        refine (awake_any _).mono ?_
        rintro e w5 ⟨rfl, b5⟩
        go_wp2_with fail
        go_ret
        exact ⟨rfl, (HB.out.alloc hbw _).trans (b5.mono (by simp; omega))⟩
      · obtain rfl : k = len := by omega
        clear hgo
        go_wp2_with fail
        refine (awake_any _).mono ?_
        rintro e w5 ⟨rfl, b5⟩
        go_wp2_with fail
        go_ret
        exact ⟨rfl, HB.out.trans (b5.mono hbw)⟩
end Go.Proofs.Ytofabbigngmboaa
