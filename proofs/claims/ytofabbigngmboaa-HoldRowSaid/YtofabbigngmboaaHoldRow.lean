/- The law HoldRow, walked. -/
import Derived.Test.YtofabbigngmboaaBookIds
import Derived.Deep.CutBlock
namespace Go.Proofs.Ytofabbigngmboaa
open Go.RowKit
theorem rise_length {α : Type} (L : List (Int × α)) : (MP.rise L).length = L.length := by
  unfold MP.rise
  rw [List.length_mergeSort]
  simp [MP.keys]
theorem rise_lt {α : Type} {L : List (Int × α)} (hn : (MP.keys L).Nodup) {i : Nat} {x y : Int} (hx : (MP.rise L)[i]? = some x) (hy : (MP.rise L)[i + 1]? = some y) : x < y := by
  have tr : ∀ a b c : Int, leI a b = true → leI b c = true → leI a c = true := fun a b c h1 h2 => by simp only [leI, decide_eq_true_eq] at *; exact Int.le_trans h1 h2
  have tot : ∀ a b : Int, (leI a b || leI b a) = true := fun a b => by simp only [leI, Bool.or_eq_true, decide_eq_true_eq]; exact Int.le_total a b
  have hp := List.pairwise_mergeSort tr tot (MP.keys L)
  have hnd : (MP.rise L).Nodup := (List.mergeSort_perm (MP.keys L) leI).nodup_iff.2 hn
  obtain ⟨h1, e1⟩ := List.getElem?_eq_some_iff.1 hx
  obtain ⟨h2, e2⟩ := List.getElem?_eq_some_iff.1 hy
  have hle := (List.pairwise_iff_getElem.1 hp) i (i + 1) h1 h2 (by omega)
  have hne := (List.pairwise_iff_getElem.1 hnd) i (i + 1) h1 h2 (by omega)
  simp only [leI, decide_eq_true_eq] at hle
  change (MP.rise L)[i] ≤ (MP.rise L)[i + 1] at hle
  rw [e1, e2] at hle hne
  omega
/-- The state of HoldRow's loop: k orders asked. -/
structure HRow (k : Nat) (s : Hd) : Prop where
  ok : s.Ok
  len : s.L.length ≤ k
  keys : ∀ x ∈ MP.keys s.L, 900 - (k : Int) < x ∧ x ≤ 900
  k40 : k ≤ 40
theorem HRow.nil (R : Int) (h : 0 ≤ R ∧ R < 2000) : HRow 0 ⟨R, []⟩ := by
  have := Hd.new_ok R
  have e : Hd.new R = ⟨R, []⟩ := by
    have : max 0 (min R 1000000000) = R := by omega
    simp only [Hd.new, this]
  rw [e] at this
  exact ⟨this, by simp, fun x hx => by simp [MP.keys] at hx, by omega⟩
theorem HRow.step {k : Nat} {s : Hd} (h : HRow k s) (hk : k < 40) {x : Int} (hx : 1 ≤ x) (hx' : x ≤ 300) :
    (x ≤ s.l → ∃ s', s.take (900 - k) x = (0, s') ∧ HRow (k + 1) s' ∧ s'.l = s.l - x ∧ s'.L.length = s.L.length + 1) ∧ (s.l < x → s.take (900 - k) x = (9, s) ∧ HRow (k + 1) s) := by
  have ha : Hd.argOk (900 - k) x = true := (Hd.argOk_iff _ _).2 (by omega)
  have hnm : (900 - (k : Int)) ∉ MP.keys s.L := fun hm => by have := h.keys _ hm; omega
  have hz : s.at (900 - k) = 0 := by unfold Hd.at; rw [MP.get_none_of_not_mem hnm]; rfl
  constructor
  · intro hle
    have e : s.take (900 - k) x = (0, ⟨s.l - x, MP.put s.L (900 - k) x⟩) := by
      unfold Hd.take
      rw [if_pos ha, if_neg (by omega), if_neg (by omega)]
    have hok := Hd.take_ok h.ok (900 - k) x
    rw [e] at hok
    have hput : MP.put s.L (900 - (k : Int)) x = s.L ++ [(900 - (k : Int), x)] := MP.put_new (by
      rcases MP.look_spec (L := s.L) (x := 900 - (k : Int)) with h1 | ⟨j, a, _, h2, _⟩
      · exact h1.1
      · rw [MP.get_none_of_not_mem hnm] at h2; cases h2)
    refine ⟨_, e, ⟨hok, ?_, ?_, by omega⟩, rfl, ?_⟩
    · show (MP.put s.L _ x).length ≤ k + 1
      rw [hput]
      have := h.len
      simp
      omega
    · intro y hy
      rcases MP.mem_keys_put.1 hy with rfl | hy
      · omega
      · have := h.keys y hy
        omega
    · show (MP.put s.L _ x).length = _
      rw [hput]
      simp
  · intro hlt
    refine ⟨?_, ⟨h.ok, by have := h.len; omega, fun y hy => by have := h.keys y hy; omega, by omega⟩⟩
    unfold Hd.take
    rw [if_pos ha, if_neg (by omega), if_pos hlt]
set_option maxRecDepth 100000 in
set_option maxHeartbeats 4000000 in
theorem row_any (n : Int) (a : Option Addr) (len cap : Nat) (zs : Nat → Int) (w : World) (hr : IntRow w a len zs) (hlen : (len : Int) ≤ 9223372036854775807) : Calls Try.prog 5 #[.int .i64 n, .slice a len cap] w (Yes w) := by
  obtain ⟨b, off, ha, hcell⟩ := hr
  have Hcell := Kept.mk (fun i hi => (hcell i hi).1)
  clear hcell
  have hR := mod_range n 2000 (by omega) (by omega)
  go_enter Try.func5, Try.ntmps5
  go_wp2_with fail
  generalize wrap64 ((IntKind.u64.wrap n).tmod 2000) = R at hR ⊢
  have Hs0 : Kept (Hd.new R = ⟨R, []⟩) := ⟨by
    have : max 0 (min R 1000000000) = R := by omega
    simp only [Hd.new, this]⟩
  have row0 := Kept.mk (HRow.nil R hR)
  refine (holdNew_to R _ _ Hs0.out).mono ?_
  rintro e w1 ⟨rfl, ⟨h1, s1⟩, k1⟩
  have H1 := Kept.mk h1
  have B1 : Kept (Below w.heap.size w w1) := ⟨k1.below (Nat.le_refl _) (fun _ h => h.elim)⟩
  clear k1 s1 h1 Hs0
  go_upto_block 0 with fail
  go_cut [6, 7, 8, 9, 10] from 21 to 53 (fun x y _ _ _ wc => ∃ s : Hd, x = .int .i64 s.l ∧ y = .int .i64 s.L.length ∧ Kept (HRow 40 s) ∧ Kept (HdAt wc (w.heap.size + 1) w.heap.size s) ∧ Kept (Below w.heap.size w wc))
  case first =>
    go_wp2_with fail
    go_loopw [6, 7, 8, 9, 10, 23] (fun x y _ _ _ i wr => ∃ (k : Nat) (s : Hd), k ≤ len ∧ i = .int .i64 k ∧ x = .int .i64 s.l ∧ y = .int .i64 s.L.length ∧ Kept (HRow k s) ∧ Kept (HdAt wr (w.heap.size + 1) w.heap.size s) ∧ Kept (Below w.heap.size w wr)) (fun _ _ _ _ _ i _ => (len - (intOf i).toNat))
    case atStart => exact ⟨0, ⟨R, []⟩, by omega, rfl, rfl, rfl, row0, H1, B1⟩
    case round =>
      obtain ⟨k, s, hk, rfl, rfl, rfl, HK, HA, HB⟩ := hrel
      have hbw := HB.out.size
      have hk40 := HK.out.k40
      have hl0 := HK.out.ok.l0
      have hl1 := HK.out.ok.l1
      have hLk := HK.out.len
      by_cases hlt : k < len
      · obtain ⟨rfl, hbl⟩ : a = some ⟨b, off, none⟩ ∧ b < w.heap.size := by
          rcases ha with h | h
          · exact h
          · omega
        have c0 := Hcell.out k hlt
        rw [← HB.out.cell (p := ⟨b, off + k, none⟩) hbl] at c0
        generalize zs k = z at c0
        by_cases h40 : (40 : Int) ≤ k
        · go_wp2_with fail
          go_meet
          case rel =>
            obtain rfl : k = 40 := by omega
            exact ⟨s, rfl, rfl, HK, HA, HB⟩
        · have hx := mod_above z 300 1 (by omega) (by omega) (by omega) (by omega)
          go_wp2_with fail
          generalize wrap64 (1 + wrap64 ((IntKind.u64.wrap z).tmod 300)) = x at hx ⊢
          have hst := HK.out.step (by omega) (x := x) (by omega) (by omega)
          have Hl : Kept (s.l = s.l) := ⟨rfl⟩
          by_cases hle : x ≤ s.l
          · obtain ⟨s', ht, hR', hl', hn'⟩ := hst.1 hle
            have Ht := Kept.mk ht
            have Hn := Kept.mk hn'
            have Hl' := Kept.mk hl'
            clear ht hn' hl' hst
            go_wp2_with fail
            refine (take_to _ _ _ _ _ _ _ _ HA.out HK.out.ok Ht.out).mono ?_
            rintro e w3 ⟨rfl, ⟨h3, z3⟩, k3⟩
            have b3 : Kept (Below w.heap.size w w3) := ⟨HB.out.trans (k3.below (by omega) (fun k e => by omega))⟩
            have HA3 := Kept.mk h3
            have HK3 := Kept.mk hR'
            clear k3 h3 z3 hR'
            go_wp2_with fail
            go_roundw
            case rel => exact ⟨k + 1, s', by omega, by go_num, by rw [Hl'.out], by rw [Hn.out]; go_num, HK3, HA3, b3⟩
            case measure => simp [intOf]; omega
          · obtain ⟨ht, hR'⟩ := hst.2 (by omega)
            have Ht := Kept.mk ht
            clear ht hst
            go_wp2_with fail
            refine (take_to _ _ _ _ _ _ _ _ HA.out HK.out.ok Ht.out).mono ?_
            rintro e w3 ⟨rfl, ⟨h3, z3⟩, k3⟩
            have b3 : Kept (Below w.heap.size w w3) := ⟨HB.out.trans (k3.below (by omega) (fun k e => by omega))⟩
            have HA3 := Kept.mk h3
            have HK3 := Kept.mk hR'
            clear k3 h3 z3 hR'
            go_wp2_with fail
            go_roundw
            case rel => exact ⟨k + 1, s, by omega, by go_num, rfl, rfl, HK3, HA3, b3⟩
            case measure => simp [intOf]; omega
      · go_wp2_with fail
        go_meet
        case rel =>
          exact ⟨s, rfl, rfl, ⟨⟨HK.out.ok, by have := HK.out.len; omega, fun y hy => by have := HK.out.keys y hy; omega, by omega⟩⟩, HA, HB⟩
  case rest =>
    obtain ⟨s, rfl, rfl, HK, HA, HB⟩ := hcut
    have hbw := HB.out.size
    have hll := HK.out.len
    have hl0 := HK.out.ok.l0
    have hl1 := HK.out.ok.l1
    have Hrl := Kept.mk (rise_length s.L)
    go_wp2_with fail
    refine (ids_to _ 100 (MP.rise s.L) _ (by omega) (by rw [Hrl.out]; omega) (fun wq kq => ids_book _ _ s _ (HA.out.keeps kq (fun h => h) (fun h => h)) (fun x hx => by have := HK.out.keys x hx; omega))).mono ?_
    rintro e w4 ⟨⟨v, rfl, hO⟩, k4⟩
    rw [List.take_of_length_le (by rw [Hrl.out]; omega)] at hO
    obtain ⟨va, vc, rfl, hvl, hvm⟩ := hO.slice
    have HO := Kept.mk hO.row
    have HA4 := Kept.mk (HA.out.keeps k4 (fun h => h) (fun h => h))
    have B4 : Kept (Below w.heap.size w w4) := ⟨HB.out.trans (k4.below (by omega) (fun _ h => h.elim))⟩
    have hb4 := B4.out.size
    have Hlt := Kept.mk (fun (i : Nat) (x y : Int) (hx : (MP.rise s.L)[i]? = some x) (hy : (MP.rise s.L)[i + 1]? = some y) => rise_lt HK.out.ok.nodup hx hy)
    have hLn := Hrl.out
    clear hO k4
    generalize MP.rise s.L = M at *
    generalize hMl : M.length = ml at *
    have HMl := Kept.mk hMl
    clear hMl
    subst hLn
    go_wp2_with fail
    go_loopw [12, 13, 58] (fun _ _ i wr => ∃ (k : Nat), k ≤ s.L.length ∧ i = .int .i64 k ∧ ∃ d, wr = w4.drewN d) (fun _ _ i _ => (s.L.length - (intOf i).toNat))
    case atStart => exact ⟨0, by omega, rfl, 0, rfl⟩
    case round =>
      obtain ⟨k, hk, rfl, d, rfl⟩ := hrel
      by_cases hlt : k < s.L.length
      · have hkM : k < M.length := by rw [HMl.out]; exact hlt
        obtain ⟨g, go, rfl, hg, hc⟩ := HO.out k M[k] (List.getElem?_eq_getElem hkM)
        cases k with
        | zero =>
          generalize M[0] = x at hc
          rw [Nat.add_zero] at hc
          change (w4.drewN d).cell? _ = _ at hc
          go_wp2_with fail
          go_roundw
          case rel => exact ⟨1, by omega, by go_num, _, rfl⟩
          case measure => simp [intOf]; omega
        | succ j =>
          obtain ⟨g', go', hgg, _, hc'⟩ := HO.out j M[j] (List.getElem?_eq_getElem (by omega))
          simp only [Option.some.injEq, Addr.mk.injEq] at hgg
          obtain ⟨rfl, rfl, _⟩ := hgg
          have hxy := Hlt.out j M[j] M[j + 1] (List.getElem?_eq_getElem (by omega)) (List.getElem?_eq_getElem (by omega))
          generalize M[j] = y at hc' hxy
          generalize M[j + 1] = x at hc hxy
          change (w4.drewN d).cell? _ = _ at hc hc'
          go_wp2_with fail
          go_roundw
          case rel => exact ⟨j + 1 + 1, by omega, by go_num, _, rfl⟩
          case measure => simp [intOf]; omega
      · obtain rfl : k = s.L.length := by omega
        go_wp2_with fail
        refine (left_to _ _ _ s.l _ (HA4.out.drewN _) rfl).mono ?_
        rintro e _ ⟨rfl, rfl⟩
        go_wp2_with fail
        refine (awake_any _).mono ?_
        rintro e w5 ⟨rfl, b5⟩
        go_wp2_with fail
        go_ret
        exact ⟨rfl, (below_draws B4.out d).trans (b5.mono (by show w.heap.size ≤ w4.heap.size; omega))⟩
end Go.Proofs.Ytofabbigngmboaa
