/- Package purse's book, walked, second part: all, take, Allow, Capture, Void. -/
import Derived.Test.YtdnpeihfpmfmcaaPurse
import Derived.Test.YtdnpeihfpmfmcaaMay
import Derived.Deep.RegionHeld3
namespace Go.Proofs.Ytdnpeihfpmfmcaa
open Go.RowKit
theorem sumN_nonneg {A : List (Int × (Nat × Int))} (h : ∀ i, 0 ≤ resv A i) : ∀ k, 0 ≤ sumN A k
  | 0 => Int.le_refl _
  | k + 1 => by have := sumN_nonneg h k; have := h k; simp only [sumN]; omega
theorem sumN_mono {A : List (Int × (Nat × Int))} (h : ∀ i, 0 ≤ resv A i) {k : Nat} : ∀ n, k ≤ n → sumN A k ≤ sumN A n
  | 0, hk => by obtain rfl : k = 0 := by omega
                exact Int.le_refl _
  | n + 1, hk => by
    by_cases e : k = n + 1
    · rw [e]; exact Int.le_refl _
    · have := sumN_mono h (k := k) n (by omega)
      have := h n
      simp only [sumN]; omega
theorem sumN_put {A : List (Int × (Nat × Int))} {x : Int} {j : Nat} {q : Int} (h : MP.get A x = none) (k : Nat) : sumN (MP.put A x (j, q)) k = sumN A k + (if j < k then q else 0) := by
  induction k with
  | zero => simp [sumN]
  | succ k ih =>
    simp only [sumN, ih, resv_put h]
    by_cases h1 : j < k
    · rw [if_pos h1, if_neg (by omega), if_pos (by omega)]; omega
    · by_cases h2 : j = k
      · rw [if_neg h1, if_pos h2, if_pos (by omega)]; omega
      · rw [if_neg h1, if_neg h2, if_neg (by omega)]; omega
theorem sumN_del {A : List (Int × (Nat × Int))} {x : Int} {j : Nat} {q : Int} (h : MP.get A x = some (j, q)) (k : Nat) : sumN (MP.del A x) k = sumN A k - (if j < k then q else 0) := by
  induction k with
  | zero => simp [sumN]
  | succ k ih =>
    simp only [sumN, ih, resv_del h]
    by_cases h1 : j < k
    · rw [if_pos h1, if_neg (by omega), if_pos (by omega)]; omega
    · by_cases h2 : j = k
      · rw [if_neg h1, if_pos h2, if_pos (by omega)]; omega
      · rw [if_neg h1, if_neg h2, if_neg (by omega)]; omega
set_option maxRecDepth 100000 in
set_option maxHeartbeats 1000000 in
theorem all_to (p ma mp : Nat) (s : Pu) (x : Int) (w : World) (h : PuAt w p ma mp s) (ok : s.Ok) (hx : resvAll s.A = x) : Calls Try.prog 39 #[.pointer (some ⟨p, 0, none⟩)] w
    (Rets w (fun _ => False) (.int .i64 x) fun w' => PuAt w' p ma mp s) := by
  have Hx := Kept.mk hx
  have hall := ok.all
  have ht := ok.t0
  have x1 : x ≤ 1000000000 := by omega
  have H := Kept.mk h
  clear hx h hall ht
  go_enter Try.func39, Try.ntmps39
  go_wp2_with fail
  go_loopw [3, 5] (fun n i wr => ∃ (S : Int) (k : Nat), k ≤ 8 ∧ n = .int .i64 S ∧ i = .int .i64 k ∧ Kept (S = sumN s.A k) ∧ 0 ≤ S ∧ S ≤ x ∧ PuAt wr p ma mp s ∧ Keeps (fun _ => False) w wr) (fun _ i _ => (8 - intOf i).toNat)
  case atStart => exact ⟨0, 0, by omega, rfl, rfl, ⟨rfl⟩, by omega, by rw [← Hx.out]; exact sumN_nonneg ok.al0 8, H.out, Keeps.refl _ _⟩
  case round =>
    obtain ⟨S, k, hk, rfl, rfl, hS, S0, S1, hP, hK⟩ := hrel
    have HP := Kept.mk hP
    have HK := Kept.mk hK
    clear hP hK
    by_cases hlk : k < 8
    · have hr0 := ok.al0 k
      have hS2 : Kept (S + resv s.A k = sumN s.A (k + 1)) := ⟨by rw [hS.out]; rfl⟩
      have hS3 : S + resv s.A k ≤ x := by rw [hS2.out, ← Hx.out]; exact sumN_mono ok.al0 8 (by omega)
      obtain ⟨y, Hy⟩ : ∃ y, Kept (resv s.A k = y) := ⟨_, ⟨rfl⟩⟩
      rw [Hy.out] at hr0 hS2 hS3
      go_wp2_with fail
      refine (allowed_to p ma mp s k y k _ HP.out ok rfl hlk Hy.out).mono ?_
      rintro e w1 ⟨rfl, h1, k1⟩
      have H1 := Kept.mk h1
      have K1 : Kept (Keeps (fun _ => False) w w1) := ⟨HK.out.trans (k1.mono fun _ _ h => h)⟩
      clear h1 k1
      go_wp2_with fail
      go_roundw
      case rel => exact ⟨S + y, k + 1, by omega, rfl, by go_num, hS2, by omega, hS3, H1.out, K1.out⟩
      case measure => simp [intOf]; omega
    · obtain rfl : k = 8 := by omega
      obtain rfl : S = x := by rw [hS.out]; exact Hx.out
      go_wp2_with fail
      go_ret
      exact ⟨rfl, HP.out, HK.out⟩
def Pu.allow (s : Pu) (id i q : Int) : Int × Pu :=
  if 1 ≤ id ∧ id ≤ 999 ∧ 0 ≤ i ∧ i < 8 ∧ q ≠ 0 ∧ 0 ≤ q ∧ q ≤ 1000000000 then
    (if (MP.get s.A id).isSome = true ∨ (MP.get s.P id).isSome = true then (8, s) else if s.money i.toNat - resv s.A i.toNat < q then (9, s) else if 1000000000 - s.till - resvAll s.A < q then (4, s)
      else (0, ⟨s.money, s.till, MP.put s.A id (i.toNat, q), s.P⟩)) else (1, s)
def Pu.capture (s : Pu) (id : Int) : Int × Pu :=
  match MP.get s.A id with
  | none => (6, s)
  | some (j, q) => (0, ⟨upd s.money j (s.money j - q), s.till + q, MP.del s.A id, MP.put s.P id q⟩)
def Pu.void (s : Pu) (id : Int) : Int × Pu :=
  match MP.get s.A id with
  | none => (6, s)
  | some (_, _) => (0, ⟨s.money, s.till, MP.del s.A id, s.P⟩)
theorem Pu.allow_ok {s : Pu} (h : s.Ok) (id i q : Int) : (s.allow id i q).2.Ok := by
  unfold Pu.allow
  split
  · rename_i ha
    split
    · exact h
    · rename_i hn
      split
      · exact h
      · rename_i hm
        split
        · exact h
        · rename_i ht
          have hg : MP.get s.A id = none := by cases hh : MP.get s.A id <;> simp_all
          have hall := h.all
          have ht0 := h.t0
          refine ⟨h.m1, fun k hk => ?_, h.t0, ?_, fun p hp => ?_, h.paid, MP.nodup_put h.na, h.np⟩
          · simp only [resv_put hg]
            have := h.al k hk
            by_cases e : i.toNat = k
            · subst e; rw [if_pos rfl]; omega
            · rw [if_neg e]; omega
          · show s.till + sumN (MP.put s.A id (i.toNat, q)) 8 ≤ _
            rw [sumN_put hg, if_pos (by omega)]
            have : resvAll s.A = sumN s.A 8 := rfl
            omega
          · rcases mem_put hp with rfl | hp
            · exact ⟨by simp only; omega, by simp only; omega, by simp only; omega⟩
            · exact h.vals p hp
  · exact h
theorem Pu.capture_ok {s : Pu} (h : s.Ok) (id : Int) : (s.capture id).2.Ok := by
  unfold Pu.capture
  split
  · exact h
  · rename_i j q hg
    have hm := mem_of_get hg
    obtain ⟨hj, q1, q2⟩ := h.vals _ hm
    simp only at hj q1 q2
    have hall := h.all
    have ht0 := h.t0
    have he : resvAll s.A = sumN s.A 8 := rfl
    refine ⟨fun k hk => ?_, fun k hk => ?_, by simp only; omega, ?_, fun p hp => h.vals p ((MP.del_sublist _ _).subset hp), fun x v hx => ?_, MP.nodup_del h.na, MP.nodup_put h.np⟩
    · simp only [upd]
      have := h.m1 k hk
      split
      · rename_i e; subst e; omega
      · exact this
    · simp only [upd, resv_del hg]
      have := h.al k hk
      by_cases e : k = j
      · subst e; rw [if_pos rfl, if_pos rfl]; omega
      · rw [if_neg e, if_neg (fun h => e h.symm)]; omega
    · show s.till + q + sumN (MP.del s.A id) 8 ≤ _
      rw [sumN_del hg, if_pos hj]; omega
    · simp only [MP.get_put] at hx
      by_cases e : x = id
      · rw [if_pos e] at hx; cases hx; exact ⟨q1, q2⟩
      · rw [if_neg e] at hx; exact h.paid x v hx
theorem Pu.void_ok {s : Pu} (h : s.Ok) (id : Int) : (s.void id).2.Ok := by
  unfold Pu.void
  split
  · exact h
  · rename_i j q hg
    have hm := mem_of_get hg
    obtain ⟨hj, q1, q2⟩ := h.vals _ hm
    simp only at hj q1 q2
    have hall := h.all
    have he : resvAll s.A = sumN s.A 8 := rfl
    refine ⟨h.m1, fun k hk => ?_, h.t0, ?_, fun p hp => h.vals p ((MP.del_sublist _ _).subset hp), h.paid, MP.nodup_del h.na, h.np⟩
    · simp only [resv_del hg]
      have := h.al k hk
      split <;> omega
    · show s.till + sumN (MP.del s.A id) 8 ≤ _
      rw [sumN_del hg, if_pos hj]; omega
end Go.Proofs.Ytdnpeihfpmfmcaa
