/- The law PostFull, walked. -/
import Derived.Test.YtkacnogjifhcoaaPAll
namespace Go.Proofs.Ytkacnogjifhcoaa
open Go.RowKit
/-- The message with a number. -/
def mkM (i : Nat) : Ms := ⟨0, 0, 0, i, 0, 0, 0⟩
/-- What is there when k were put. -/
def fullL (most k : Nat) : List Ms := (List.range (min k most)).map (fun j => mkM (k - min k most + j))
theorem fullL_len (most k : Nat) : (fullL most k).length = min k most := by simp [fullL]
theorem fullL_at {most k j : Nat} (h : j < min k most) : (fullL most k)[j]? = some (mkM (k - min k most + j)) := by
  unfold fullL
  rw [List.getElem?_map, List.getElem?_range h]; rfl
theorem full_step {most k : Nat} (hk : k < 1000) : put1 most (fullL most k, k - most) (mkM k) = (fullL most (k + 1), k + 1 - most) := by
  by_cases h : most < (fullL most k).length + 1
  · rw [put1_yes h]
    rw [fullL_len] at h
    have hk2 : most ≤ k := by omega
    have e1 : min (k - most + 1) 1000000 = k + 1 - most := by rw [Nat.min_eq_left (by omega)]; omega
    rw [e1]
    congr 1
    apply List.ext_getElem?
    intro j
    rw [List.getElem?_eraseIdx, if_neg (by omega)]
    by_cases hj : j < most
    · rw [fullL_at (by omega)]
      by_cases hj2 : j + 1 < most
      · rw [List.getElem?_append_left (by rw [fullL_len]; omega), fullL_at (by omega)]
        congr 2
        omega
      · rw [List.getElem?_append_right (by rw [fullL_len]; omega), fullL_len, show j + 1 - min k most = 0 by omega, List.getElem?_cons_zero]
        congr 2
        omega
    · rw [List.getElem?_eq_none (by simp [fullL_len]; omega), List.getElem?_eq_none (by rw [fullL_len]; omega)]
  · rw [put1_no h]
    rw [fullL_len] at h
    have e1 : k - most = k + 1 - most := by omega
    rw [← e1]
    congr 1
    apply List.ext_getElem?
    intro j
    by_cases hj : j < k
    · rw [List.getElem?_append_left (by rw [fullL_len]; omega), fullL_at (by omega), fullL_at (by omega)]
      congr 2
      omega
    · by_cases hj2 : j = k
      · subst hj2
        rw [List.getElem?_append_right (by rw [fullL_len]; omega), fullL_len, show j - min j most = 0 by omega, List.getElem?_cons_zero, fullL_at (by omega)]
        congr 2
        omega
      · rw [List.getElem?_eq_none (by simp [fullL_len]; omega), List.getElem?_eq_none (by rw [fullL_len]; omega)]
theorem mostOf_nat {M : Nat} (h1 : 1 ≤ M) (h2 : M ≤ 256) : mostOf (M : Int) = M := by
  unfold mostOf
  rw [if_neg (by omega), if_neg (by omega)]
  omega
set_option linter.unusedSimpArgs false in
set_option linter.unusedVariables false in
set_option maxRecDepth 100000 in
set_option maxHeartbeats 8000000 in
theorem full_any (x y : Int) (w : World) : Calls Try.prog 8 #[.int .i64 x, .int .i64 y] w (Yes w) := by
  have hT := mod_above x 20 1 (by omega) (by omega) (by omega) (by omega)
  have hR := mod_range y 60 (by omega) (by omega)
  go_enter Try.func8, Try.ntmps8
  go_wp2_with fail
  generalize wrap64 (1 + wrap64 ((IntKind.u64.wrap x).tmod 20)) = T at hT ⊢
  generalize wrap64 ((IntKind.u64.wrap y).tmod 60) = R at hR ⊢
  obtain ⟨M, rfl⟩ := Int.eq_ofNat_of_zero_le (show 0 ≤ T by omega)
  obtain ⟨n, rfl⟩ := Int.eq_ofNat_of_zero_le (show 0 ≤ R by omega)
  have hM1 : 1 ≤ M := by omega
  have hM2 : M ≤ 20 := by omega
  have hn : n < 60 := by omega
  clear hT hR
  refine (pnew_to (M : Int) _).mono ?_
  rintro e w1 ⟨rfl, h1, k1⟩
  rw [mostOf_nat hM1 (by omega)] at h1
  have H1 := Kept.mk h1
  have K1 := Kept.mk k1
  clear h1 k1
  go_wp2_with fail
  go_loopw [22] (fun i wr => ∃ (k : Nat) (v : Value), k ≤ n ∧ i = .int .i64 k ∧ PostAt wr w.heap.size w.heap.size M (k - M) v (fullL M k) ∧ Keeps (fun _ => False) w wr) (fun i _ => n - (intOf i).toNat)
  case atStart => exact ⟨0, _, Nat.zero_le _, rfl, by simpa [fullL] using H1.out, K1.out⟩
  case round =>
    obtain ⟨k, v, hk, rfl, hP, hK⟩ := hrel
    have HP := Kept.mk hP
    have KR := Kept.mk hK
    have hp := hP.blk.lt
    have hvl := hP.own.lt
    clear hP hK
    by_cases hlt : k < n
    · have hki : (k : Int) < n := by omega
      have ka : Keeps (fun _ => False) wr (wr.alloc (.cells #[.int .i64 0, .int .i64 0, .int .i64 0, .int .i64 k, .int .i64 0, .int .i64 0, .int .i64 0] 55)) := (Keeps.refl _ wr).alloc _
      have HPut := Kept.mk (put_to w.heap.size w.heap.size M (k - M) v (fullL M k) [mkM k] (some ⟨wr.heap.size, 0, none⟩) 1 1 _ (HP.out.quiet ka) (msRow_of_blk (Blk.new wr 55 [.int .i64 0, .int .i64 0, .int .i64 0, .int .i64 k, .int .i64 0, .int .i64 0, .int .i64 0])) rfl (by omega) (fun z hz => by cases hz; exact ⟨by show wr.heap.size ≠ w.heap.size; omega, fun e => by have := (hvl _ e).2; simp only at this; omega⟩) (by simp; omega))
      have KA := Kept.mk (KR.out.trans ka)
      clear ka
      go_wp2_with fail
      refine HPut.out.mono ?_
      rintro e w3 ⟨⟨r, rfl⟩, v', h3, k3, n3⟩
      have hf : [mkM k].foldl (put1 M) (fullL M k, k - M) = (fullL M (k + 1), k + 1 - M) := full_step (by omega)
      rw [hf] at h3
      have H3 := Kept.mk h3
      have K3 : Kept (Keeps (fun _ => False) w w3) := ⟨KA.out.then k3 (fun i hi e => by
        rcases e with h | h
        · omega
        · have := (hvl _ h).1; omega)⟩
      clear h3 k3 n3 HPut KA
      go_wp2_with fail
      go_roundw
      case rel => exact ⟨k + 1, v', by omega, by go_num, H3.out, K3.out⟩
      case measure => simp [intOf]; omega
    · obtain rfl : k = n := by omega
      have hkl : ¬ (k : Int) < (k : Int) := by omega
      obtain ⟨w4, rfl⟩ : ∃ x, x = wr := ⟨_, rfl⟩
      go_wp2_with fail
      refine (all_list (.pointer (some ⟨w.heap.size, 0, none⟩)) 100 (fullL M k) _ (by omega) (by rw [fullL_len]; omega) (fun w1 kk => pall_to _ _ _ _ _ _ _ (HP.out.quiet kk))).mono ?_
      rintro e w5 ⟨⟨v5, rfl, h5⟩, k5⟩
      have ht : (fullL M k).take 100 = fullL M k := List.take_of_length_le (by rw [fullL_len]; omega)
      rw [ht] at h5
      obtain ⟨a5, c5, rfl, hlc, _⟩ := h5.slice
      have HR5 := Kept.mk h5.row
      have HP5 := Kept.mk (HP.out.quiet k5)
      have K5 := Kept.mk (KR.out.trans k5)
      obtain ⟨q, hq⟩ : ∃ q, (fullL M k).length = q := ⟨_, rfl⟩
      have hqm : q = min k M := by rw [← hq, fullL_len]
      rw [hq]
      have HE : Kept (∀ j, j < q → (fullL M k)[j]? = some (mkM (k - q + j))) := ⟨fun j hj => by rw [hqm] at hj ⊢; exact fullL_at hj⟩
      obtain ⟨lo, hlo⟩ : ∃ lo, k - M = lo := ⟨_, rfl⟩
      have HLo := Kept.mk hlo
      rw [hlo] at HP5
      have hfin : (lo = 0 ∧ q = k ∧ k ≤ M) ∨ (q = M ∧ M < k ∧ (lo : Int) = (k : Int) - M) := by omega
      clear h5 k5 ht hq hqm hlo HP KR H1 K1 hvl HLo
      rcases hfin with ⟨rfl, rfl, hkM⟩ | ⟨rfl, hkM, hlo⟩
      · have f1 : (q : Int) ≤ M := by omega
        have f2 : ¬ (M : Int) < q := by omega
        have f3 : ¬ (0 : Int) < (q : Int) - M := by omega
        have f4 : (q : Int) - M ≤ 0 := by omega
        go_wp2_with fail
        refine (plost_to _ _ _ _ _ _ _ HP5.out).mono ?_
        rintro e _ ⟨rfl, rfl⟩
        go_wp2_with fail
        go_loopw [50] (fun i wr => ∃ j : Nat, j ≤ q ∧ i = .int .i64 j ∧ Keeps (fun _ => False) w5 wr) (fun i _ => q - (intOf i).toNat)
        case atStart => exact ⟨0, Nat.zero_le _, rfl, Keeps.refl _ _⟩
        case round =>
          obtain ⟨j, hj, rfl, hK⟩ := hrel
          have KJ := Kept.mk hK
          clear hK
          by_cases hlt2 : j < q
          · obtain ⟨g, off, rfl, hgl, c0⟩ := HR5.out j _ (HE.out j hlt2)
            have cc : ∀ i u, (encMs (mkM (q - q + j)))[i]? = some u → wr.cell? ⟨g, off + j * 7 + i, none⟩ = some u := fun i u hu => (KJ.out.cell (p := ⟨g, off + j * 7 + i, none⟩) hgl (fun h => h)).trans (c0 i u hu)
            have e0 : wr.cell? ⟨g, off + j * 7, none⟩ = some (.int .i64 0) := cc 0 _ rfl
            have e1 : wr.cell? ⟨g, off + j * 7 + 1, none⟩ = some (.int .i64 0) := cc 1 _ rfl
            have e2 : wr.cell? ⟨g, off + j * 7 + 2, none⟩ = some (.int .i64 0) := cc 2 _ rfl
            have e3 : wr.cell? ⟨g, off + j * 7 + 3, none⟩ = some (.int .i64 ((j : Int))) := by
              have h1 : wr.cell? ⟨g, off + j * 7 + 3, none⟩ = some (.int .i64 ((q - q + j : Nat) : Int)) := cc 3 _ rfl
              rw [h1, show ((q - q + j : Nat) : Int) = (j : Int) by omega]
            have e4 : wr.cell? ⟨g, off + j * 7 + 4, none⟩ = some (.int .i64 0) := cc 4 _ rfl
            have e5 : wr.cell? ⟨g, off + j * 7 + 5, none⟩ = some (.int .i64 0) := cc 5 _ rfl
            have e6 : wr.cell? ⟨g, off + j * 7 + 6, none⟩ = some (.int .i64 0) := cc 6 _ rfl
            have hji : (j : Int) < (q : Int) := by omega
            clear cc c0
            go_wp2_with fail
            go_roundw
            case rel => exact ⟨j + 1, by omega, by go_num, KJ.out.alloc _⟩
            case measure => simp [intOf]; omega
          · obtain rfl : j = q := by omega
            have hjl : ¬ (j : Int) < (j : Int) := by omega
            go_wp2_with fail
            refine (awake17_any _).mono ?_
            rintro e w9 ⟨rfl, b9⟩
            go_wp2_with fail
            go_ret
            exact ⟨rfl, ((K5.out.trans KJ.out).below (Nat.le_refl _) (fun _ h => h.elim)).trans (b9.mono (K5.out.trans KJ.out).size)⟩
      · have f1 : ¬ (k : Int) ≤ q := by omega
        have f2 : (q : Int) < k := by omega
        have f3 : (0 : Int) < (k : Int) - q := by omega
        have f4 : ¬ (k : Int) - q ≤ 0 := by omega
        have f5 : (q : Int) ≤ k := by omega
        have f6 : ¬ (k : Int) < q := by omega
        have f7 : (0 : Int) ≤ (k : Int) - q := by omega
        go_wp2_with fail
        refine (plost_to _ _ _ _ _ _ _ HP5.out).mono ?_
        rintro e _ ⟨rfl, rfl⟩
        go_wp2_with fail
        go_loopw [50] (fun i wr => ∃ j : Nat, j ≤ q ∧ i = .int .i64 j ∧ Keeps (fun _ => False) w5 wr) (fun i _ => q - (intOf i).toNat)
        case atStart => exact ⟨0, Nat.zero_le _, rfl, Keeps.refl _ _⟩
        case round =>
          obtain ⟨j, hj, rfl, hK⟩ := hrel
          have KJ := Kept.mk hK
          clear hK
          by_cases hlt2 : j < q
          · obtain ⟨g, off, rfl, hgl, c0⟩ := HR5.out j _ (HE.out j hlt2)
            have cc : ∀ i u, (encMs (mkM (k - q + j)))[i]? = some u → wr.cell? ⟨g, off + j * 7 + i, none⟩ = some u := fun i u hu => (KJ.out.cell (p := ⟨g, off + j * 7 + i, none⟩) hgl (fun h => h)).trans (c0 i u hu)
            have e0 : wr.cell? ⟨g, off + j * 7, none⟩ = some (.int .i64 0) := cc 0 _ rfl
            have e1 : wr.cell? ⟨g, off + j * 7 + 1, none⟩ = some (.int .i64 0) := cc 1 _ rfl
            have e2 : wr.cell? ⟨g, off + j * 7 + 2, none⟩ = some (.int .i64 0) := cc 2 _ rfl
            have e3 : wr.cell? ⟨g, off + j * 7 + 3, none⟩ = some (.int .i64 ((k : Int) - q + j)) := by
              have h1 : wr.cell? ⟨g, off + j * 7 + 3, none⟩ = some (.int .i64 ((k - q + j : Nat) : Int)) := cc 3 _ rfl
              rw [h1, show ((k - q + j : Nat) : Int) = (k : Int) - q + j by omega]
            have e4 : wr.cell? ⟨g, off + j * 7 + 4, none⟩ = some (.int .i64 0) := cc 4 _ rfl
            have e5 : wr.cell? ⟨g, off + j * 7 + 5, none⟩ = some (.int .i64 0) := cc 5 _ rfl
            have e6 : wr.cell? ⟨g, off + j * 7 + 6, none⟩ = some (.int .i64 0) := cc 6 _ rfl
            have hji : (j : Int) < (q : Int) := by omega
            clear cc c0
            go_wp2_with fail
            go_roundw
            case rel => exact ⟨j + 1, by omega, by go_num, KJ.out.alloc _⟩
            case measure => simp [intOf]; omega
          · obtain rfl : j = q := by omega
            have hjl : ¬ (j : Int) < (j : Int) := by omega
            go_wp2_with fail
            refine (awake17_any _).mono ?_
            rintro e w9 ⟨rfl, b9⟩
            go_wp2_with fail
            go_ret
            exact ⟨rfl, ((K5.out.trans KJ.out).below (Nat.le_refl _) (fun _ h => h.elim)).trans (b9.mono (K5.out.trans KJ.out).size)⟩
end Go.Proofs.Ytkacnogjifhcoaa
