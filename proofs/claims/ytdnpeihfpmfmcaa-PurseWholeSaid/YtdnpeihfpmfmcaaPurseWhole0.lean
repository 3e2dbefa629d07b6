/- The law PurseWhole, walked. (printed by gen/pursewhole.py) -/
import Derived.Test.YtdnpeihfpmfmcaaPurseTill
import Derived.Test.YtdnpeihfpmfmcaaCall4
namespace Go.Proofs.Ytdnpeihfpmfmcaa
open Go.RowKit
def sumP : List (Int × Int) → Int
  | [] => 0
  | (_, v) :: r => v + sumP r
theorem sumP_put {L : List (Int × Int)} {x v : Int} (h : MP.get L x = none) : sumP (MP.put L x v) = sumP L + v := by
  induction L with
  | nil => simp [MP.put, sumP]
  | cons p r ih =>
    obtain ⟨y, a⟩ := p
    rw [MP.get_cons] at h
    by_cases hx : x = y
    · rw [if_pos hx] at h; cases h
    · rw [if_neg hx] at h
      simp only [MP.put]
      rw [if_neg hx]
      simp only [sumP, ih h]; omega
theorem sumP_app (p q : List (Int × Int)) : sumP (p ++ q) = sumP p + sumP q := by
  induction p with
  | nil => simp [sumP]
  | cons x r ih => obtain ⟨y, v⟩ := x; simp only [List.cons_append, sumP, ih]; omega
theorem sumP_split (p q : List (Int × Int)) (x v : Int) : sumP (p ++ (x, v) :: q) = v + sumP (p ++ q) := by
  rw [sumP_app, sumP_app]; simp only [sumP]; omega
theorem sumP_nonneg {L : List (Int × Int)} (h : ∀ p ∈ L, 1 ≤ p.2 ∧ p.2 ≤ 1000000000) : 0 ≤ sumP L := by
  induction L with
  | nil => exact Int.le_refl _
  | cons p r ih =>
    have h1 := h p (by simp)
    have h2 := ih (fun p hp => h p (List.mem_cons_of_mem _ hp))
    obtain ⟨y, v⟩ := p
    simp only at h1
    simp only [sumP]; omega
theorem mem_put' {L : List (Int × Int)} {x v : Int} {p : Int × Int} (h : p ∈ MP.put L x v) : p = (x, v) ∨ p ∈ L := by
  induction L with
  | nil => simp [MP.put] at h; exact .inl h
  | cons q r ih =>
    obtain ⟨y, a⟩ := q
    simp only [MP.put] at h
    by_cases hx : x = y
    · rw [if_pos hx] at h
      rcases List.mem_cons.1 h with h | h
      · exact .inl h
      · exact .inr (List.mem_cons_of_mem _ h)
    · rw [if_neg hx] at h
      rcases List.mem_cons.1 h with h | h
      · exact .inr (h ▸ List.mem_cons_self ..)
      · rcases ih h with h | h
        · exact .inl h
        · exact .inr (List.mem_cons_of_mem _ h)
/-- All money together is T. -/
structure Pu.Whole (s : Pu) (T : Int) : Prop where
  ok : s.Ok
  sum : s.money 0 + s.money 1 + s.till = T
  till : sumP s.P = s.till
  two : ∀ p ∈ s.A, p.2.1 < 2
  apart : ∀ x, (MP.get s.A x).isSome = true → MP.get s.P x = none
  pays : ∀ p ∈ s.P, 1 ≤ p.2 ∧ p.2 ≤ 1000000000
theorem Pu.Whole.capture {s : Pu} {T : Int} (h : s.Whole T) {id : Int} {j : Nat} {q : Int} (hg : MP.get s.A id = some (j, q)) : ∃ s', Kept (s.capture id = (0, s')) ∧ s'.Whole T ∧ Kept (MP.get s.P id = none) ∧ Kept (s'.P = MP.put s.P id q) := by
  have ok := Pu.capture_ok h.ok id
  have hj := h.two _ (mem_of_get hg)
  obtain ⟨_, q1, q2⟩ := h.ok.vals _ (mem_of_get hg)
  simp only at hj q1 q2
  have hn := h.apart id (by rw [hg]; rfl)
  have e : s.capture id = (0, ⟨upd s.money j (s.money j - q), s.till + q, MP.del s.A id, MP.put s.P id q⟩) := by unfold Pu.capture; rw [hg]
  rw [e] at ok
  have hs := h.sum
  refine ⟨_, ⟨e⟩, ⟨ok, ?_, ?_, fun p hp => h.two p ((MP.del_sublist _ _).subset hp), fun x hx => ?_, fun p hp => ?_⟩, ⟨hn⟩, ⟨rfl⟩⟩
  · match j, hj with
    | 0, _ => simp only [upd_same, upd_other _ (show (1 : Nat) ≠ 0 by omega)]; omega
    | 1, _ => simp only [upd_same, upd_other _ (show (0 : Nat) ≠ 1 by omega)]; omega
  · simp only [sumP_put hn, h.till]
  · simp only [MP.get_del _ _ h.ok.na] at hx
    by_cases e : x = id
    · rw [if_pos e] at hx; cases hx
    · rw [if_neg e] at hx
      simp only [MP.get_put]; rw [if_neg e]; exact h.apart x hx
  · rcases mem_put' hp with rfl | hp
    · exact ⟨q1, q2⟩
    · exact h.pays p hp
theorem Pu.capture_none {s : Pu} {id : Int} (hg : MP.get s.A id = none) : s.capture id = (6, s) := by unfold Pu.capture; rw [hg]
theorem Pu.Whole.void {s : Pu} {T : Int} (h : s.Whole T) {id : Int} : (s.void id).2.Whole T ∧ (s.void id).2.P = s.P := by
  have ok := Pu.void_ok h.ok id
  unfold Pu.void at ok ⊢
  split
  · exact ⟨h, rfl⟩
  · rename_i j q hg
    rw [hg] at ok
    refine ⟨⟨ok, h.sum, h.till, fun p hp => h.two p ((MP.del_sublist _ _).subset hp), fun x hx => ?_, h.pays⟩, rfl⟩
    simp only [MP.get_del _ _ h.ok.na] at hx
    by_cases e : x = id
    · rw [if_pos e] at hx; cases hx
    · rw [if_neg e] at hx; exact h.apart x hx
theorem Pu.Whole.allow {s : Pu} {T : Int} (h : s.Whole T) {id i q : Int} (hi : i < 2) : ∃ r s', Kept (s.allow id i q = (r, s')) ∧ s'.Whole T ∧ s'.P = s.P ∧ (r = 0 → MP.get s.P id = none) := by
  refine ⟨(s.allow id i q).1, (s.allow id i q).2, ⟨rfl⟩, ?_⟩
  have ok := Pu.allow_ok h.ok id i q
  unfold Pu.allow at ok ⊢
  split
  · rename_i a
    split
    · exact ⟨h, rfl, fun e => by cases e⟩
    · rename_i b
      split
      · exact ⟨h, rfl, fun e => by cases e⟩
      · rename_i c
        split
        · exact ⟨h, rfl, fun e => by cases e⟩
        · rename_i d
          rw [if_pos a, if_neg b, if_neg c, if_neg d] at ok
          have hp : MP.get s.P id = none := by cases hh : MP.get s.P id <;> simp_all
          refine ⟨⟨ok, h.sum, h.till, fun p hp => ?_, fun x hx => ?_, h.pays⟩, rfl, fun _ => hp⟩
          · rcases mem_put hp with rfl | hp
            · show i.toNat < 2; omega
            · exact h.two p hp
          · simp only [MP.get_put] at hx
            by_cases e : x = id
            · rw [e]; exact hp
            · rw [if_neg e] at hx; exact h.apart x hx
  · exact ⟨h, rfl, fun e => by cases e⟩
theorem Pu.Whole.new (a c : Int) (ha : 0 ≤ a ∧ a < 100000) (hc : 0 ≤ c ∧ c < 100000) : (Pu.new (fun k => if k = 0 then a else c) 2).Whole (a + c) := by
  refine ⟨Pu.new_ok _ _, ?_, rfl, fun p hp => by simp [Pu.new] at hp, fun x hx => rfl, fun p hp => by simp [Pu.new] at hp⟩
  show goods (fun k => if k = 0 then a else c) (min 2 8) 0 + goods (fun k => if k = 0 then a else c) (min 2 8) 1 + 0 = a + c
  simp only [goods, clampI, if_true]
  rw [if_pos (by omega), if_pos (by omega), if_neg (by omega)]
  omega
end Go.Proofs.Ytdnpeihfpmfmcaa
