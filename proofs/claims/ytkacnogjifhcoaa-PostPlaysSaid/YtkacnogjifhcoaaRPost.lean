/- The page's post: new; walked. -/
import Derived.Test.YtkacnogjifhcoaaPAll
import Derived.Test.YtkacnogjifhcoaaMsJoin
namespace Go.Proofs.Ytkacnogjifhcoaa
open Go.RowKit
/-- The page's post: its row lies anywhere but in the blocks that F tells (the post's own among them), and is never written. -/
def RPostAt (w : World) (F : Nat → Prop) (p most lost : Nat) (L : List Ms) : Prop := ∃ (a : Option Addr) (c : Nat), Blk w p 72 [.int .i64 most, .slice a L.length c, .int .i64 lost] ∧ MsRow w a L ∧ (∀ z, a = some z → ¬ F z.block ∧ z.block < w.heap.size) ∧ L.length ≤ c ∧ (a = none → c = 0) ∧ L.length ≤ most ∧ most ≤ 1000 ∧ 1 ≤ most ∧ lost ≤ 1000000
theorem RPostAt.keeps {w w' : World} {F G : Nat → Prop} {p most lost : Nat} {L : List Ms} (h : RPostAt w F p most lost L) {S : Nat → Prop} (k : Keeps S w w') (hp : ¬ S p) (hS : ∀ i, i < w.heap.size → S i → F i) (hG : ∀ i, i < w.heap.size → G i → F i) : RPostAt w' G p most lost L := by
  obtain ⟨a, c, h1, h2, h3, h4⟩ := h
  exact ⟨a, c, h1.keeps k hp, h2.keeps k (fun z hz e => (h3 z hz).1 (hS _ (h3 z hz).2 e)), fun z hz => ⟨fun e => (h3 z hz).1 (hG _ (h3 z hz).2 e), Nat.lt_of_lt_of_le (h3 z hz).2 k.size⟩, h4⟩
theorem RPostAt.quiet {w w' : World} {F : Nat → Prop} {p most lost : Nat} {L : List Ms} (h : RPostAt w F p most lost L) (k : Keeps (fun _ => False) w w') : RPostAt w' F p most lost L := h.keeps k (fun h => h) (fun _ _ h => h.elim) (fun _ _ h => h)
/-- A row that lies anywhere, behind an own one; the nil one too. -/
theorem ms_append_opt {w : World} {base : Nat} {v : Value} {L M : List Ms} {a : Option Addr} {l m r cc : Nat} (h : MsOwn w base v L) (hl : L.length = l) (hM : MsRow w a M) (hm : M.length = m) (hcc : a = none → cc = 0) (hr : l + m = r) (hs : r ≤ 100000) (hb : base ≤ w.heap.size) :
    ∃ a' c' w', MsRun v (.slice a m cc) w (.slice a' r c') w' ∧ MsOwn w' base (.slice a' r c') (L ++ M) ∧ Keeps (fun k => v.ownBlock = some k) w w' ∧ NewRow w v (.slice a' r c') := by
  cases a with
  | some p => exact ms_append_at h hl hM hm hr hs hb
  | none =>
    have hM0 : M = [] := by
      cases M with
      | nil => rfl
      | cons x t =>
        obtain ⟨g, off, e, _⟩ := hM 0 x rfl
        cases e
    subst hM0
    obtain rfl := hcc rfl
    obtain rfl : m = 0 := hm.symm
    obtain ⟨a0, c0, hv, _⟩ := h.slice
    obtain ⟨i0, hi, hz0, hz1, hz2⟩ := info_parts infoMsg
    have hrun := run_append_owned_none (P := Try.prog) (w := w) base 49 49 55 i0 7 Try.underlying49 hi v L.length _ h
    have e : v = .slice a0 r c0 := by rw [hv, hl, ← hr]; rfl
    rw [List.append_nil]
    refine ⟨a0, c0, w, ⟨by rw [← e]; exact hrun⟩, by rw [← e]; exact h, Keeps.refl _ _, fun g hg => .inl (by rw [e]; exact hg)⟩
theorem rpnew_to (F : Nat → Prop) (x : Int) (w : World) : Calls Try.prog 33 #[.int .i64 x] w (fun e w' => e = .returned (.pointer (some ⟨w.heap.size, 0, none⟩)) ∧ RPostAt w' F w.heap.size (mostOf x) 0 [] ∧ Keeps (fun _ => False) w w') := by
  have fin : ∀ m : Nat, 1 ≤ m → m ≤ 256 → RPostAt (w.alloc (.cells #[.int .i64 m, .slice none 0 0, .int .i64 0] 72)) F w.heap.size m 0 [] := fun m h1 h2 =>
    ⟨none, 0, Blk.new w 72 [.int .i64 m, .slice none 0 0, .int .i64 0], (fun k x hx => by simp at hx), (fun z hz => by cases hz), Nat.le_refl _, (fun _ => rfl), Nat.zero_le _, by omega, h1, by omega⟩
  unfold mostOf
  by_cases h1 : x < 1
  · rw [if_pos h1]
    have h2 : ¬ 256 < x := by omega
    have h3 : x ≤ 256 := by omega
    have h4 : ¬ 1 ≤ x := by omega
    have h5 : ¬ 1 < x := by omega
    have h6 : x ≤ 1 := by omega
    have F0 := Kept.mk (fin 1 (by omega) (by omega))
    clear fin
    go_enter Try.func33, Try.ntmps33
    go_wp2_with fail
    go_ret
    exact ⟨rfl, F0.out, (Keeps.refl _ w).alloc _⟩
  · rw [if_neg h1]
    by_cases h2 : 256 < x
    · rw [if_pos h2]
      have h3 : ¬ x ≤ 256 := by omega
      have h4 : ¬ x < 256 := by omega
      have h5 : 256 ≤ x := by omega
      have F0 := Kept.mk (fin 256 (by omega) (by omega))
      clear fin
      go_enter Try.func33, Try.ntmps33
      go_wp2_with fail
      go_ret
      exact ⟨rfl, F0.out, (Keeps.refl _ w).alloc _⟩
    · rw [if_neg h2]
      obtain ⟨m, rfl⟩ := Int.eq_ofNat_of_zero_le (show 0 ≤ x by omega)
      rcases Nat.lt_or_ge 1 m with h6 | h6
      · have h3 : (m : Int) ≤ 256 := by omega
        have h4 : ¬ (m : Int) < 1 := by omega
        have h5 : (1 : Int) ≤ m := by omega
        have h7 : (1 : Int) < m := by omega
        have h8 : ¬ (m : Int) ≤ 1 := by omega
        have F0 := Kept.mk (fin m (by omega) (by omega))
        clear fin
        go_enter Try.func33, Try.ntmps33
        go_wp2_with fail
        go_ret
        exact ⟨rfl, F0.out, (Keeps.refl _ w).alloc _⟩
      · obtain rfl : m = 1 := by omega
        have F0 := Kept.mk (fin 1 (by omega) (by omega))
        clear fin
        go_enter Try.func33, Try.ntmps33
        go_wp2_with fail
        go_ret
        exact ⟨rfl, F0.out, (Keeps.refl _ w).alloc _⟩
end Go.Proofs.Ytkacnogjifhcoaa
