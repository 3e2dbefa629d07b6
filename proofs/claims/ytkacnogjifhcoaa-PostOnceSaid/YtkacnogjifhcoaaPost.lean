/- The post: new, has, how many, how many lost, putting; walked. -/
import Derived.Test.YtkacnogjifhcoaaDelete
import Derived.Test.YtkacnogjifhcoaaSay
namespace Go.Proofs.Ytkacnogjifhcoaa
open Go.RowKit
/-- A post: at most so many, those on their way, so many lost. -/
structure PostAt (w : World) (p base most lost : Nat) (v : Value) (L : List Ms) : Prop where
  blk : Blk w p 81 [.int .i64 most, v, .int .i64 lost]
  own : MsOwn w base v L
  ne : v.ownBlock ≠ some p
  full : L.length ≤ most
  small : most ≤ 1000
  pos : 1 ≤ most
  few : lost ≤ 1000000
theorem PostAt.keeps {w w' : World} {p base most lost : Nat} {v : Value} {L : List Ms} (h : PostAt w p base most lost v L) {S : Nat → Prop} (k : Keeps S w w') (hp : ¬ S p) (hv : ∀ g, v.ownBlock = some g → ¬ S g) : PostAt w' p base most lost v L :=
  ⟨h.blk.keeps k hp, h.own.keeps k hv, h.ne, h.full, h.small, h.pos, h.few⟩
theorem PostAt.quiet {w w' : World} {p base most lost : Nat} {v : Value} {L : List Ms} (h : PostAt w p base most lost v L) (k : Keeps (fun _ => False) w w') : PostAt w' p base most lost v L := h.keeps k (fun h => h) (fun _ _ h => h)
/-- A message more: too many: the eldest goes. -/
def put1 (most : Nat) (s : List Ms × Nat) (m : Ms) : List Ms × Nat := if most < s.1.length + 1 then ((s.1 ++ [m]).eraseIdx 0, min (s.2 + 1) 1000000) else (s.1 ++ [m], s.2)
theorem put1_yes {most lost : Nat} {L : List Ms} {m : Ms} (h : most < L.length + 1) : put1 most (L, lost) m = ((L ++ [m]).eraseIdx 0, min (lost + 1) 1000000) := if_pos h
theorem put1_no {most lost : Nat} {L : List Ms} {m : Ms} (h : ¬ most < L.length + 1) : put1 most (L, lost) m = (L ++ [m], lost) := if_neg h
theorem plen_to (p base most lost : Nat) (v : Value) (L : List Ms) (w : World) (h : PostAt w p base most lost v L) : Calls Try.prog 27 #[.pointer (some ⟨p, 0, none⟩)] w (Says w (.int .i64 L.length)) := by
  obtain ⟨a, c, rfl, _⟩ := h.own.slice
  have c1 := h.blk.cell 1 rfl
  clear h
  go_enter Try.func27, Try.ntmps27
  go_wp2_with fail
  go_ret
  exact ⟨rfl, rfl⟩
theorem plost_to (p base most lost : Nat) (v : Value) (L : List Ms) (w : World) (h : PostAt w p base most lost v L) : Calls Try.prog 29 #[.pointer (some ⟨p, 0, none⟩)] w (Says w (.int .i64 lost)) := by
  have c2 := h.blk.cell 2 rfl
  clear h
  go_enter Try.func29, Try.ntmps29
  go_wp2_with fail
  go_ret
  exact ⟨rfl, rfl⟩
theorem phas_to (p base most lost : Nat) (v : Value) (L : List Ms) (x : Int) (r : Bool) (w : World) (h : PostAt w p base most lost v L) (hr : (decide (0 ≤ x) && decide (x < L.length)) = r) : Calls Try.prog 43 #[.pointer (some ⟨p, 0, none⟩), .int .i64 x] w (Says w (.bool r)) := by
  obtain ⟨a, c, rfl, _⟩ := h.own.slice
  have c1 := h.blk.cell 1 rfl
  clear h
  by_cases h0 : 0 ≤ x
  · by_cases h1 : x < L.length
    · obtain rfl : r = true := by rw [← hr, decide_eq_true h0, decide_eq_true h1]; rfl
      clear hr
      go_enter Try.func43, Try.ntmps43
      go_wp2_with fail
      go_ret
      exact ⟨rfl, rfl⟩
    · obtain rfl : r = false := by rw [← hr, decide_eq_false h1]; simp
      clear hr
      go_enter Try.func43, Try.ntmps43
      go_wp2_with fail
      go_ret
      exact ⟨rfl, rfl⟩
  · obtain rfl : r = false := by rw [← hr, decide_eq_false h0]; rfl
    clear hr
    go_enter Try.func43, Try.ntmps43
    go_wp2_with fail
    go_ret
    exact ⟨rfl, rfl⟩
theorem phas_nil (x : Int) (w : World) : Calls Try.prog 43 #[.pointer none, .int .i64 x] w (Says w (.bool false)) := by
  go_enter Try.func43, Try.ntmps43
  go_wp2_with fail
  go_ret
  exact ⟨rfl, rfl⟩
/-- How many it may have. -/
def mostOf (x : Int) : Nat := if x < 1 then 1 else if 256 < x then 256 else x.toNat
theorem pnew_to (x : Int) (w : World) : Calls Try.prog 24 #[.int .i64 x] w (fun e w' => e = .returned (.pointer (some ⟨w.heap.size, 0, none⟩)) ∧ PostAt w' w.heap.size w.heap.size (mostOf x) 0 (.slice none 0 0) [] ∧ Keeps (fun _ => False) w w') := by
  have fin : ∀ m : Nat, 1 ≤ m → m ≤ 256 → PostAt (w.alloc (.cells #[.int .i64 m, .slice none 0 0, .int .i64 0] 81)) w.heap.size w.heap.size m 0 (.slice none 0 0) [] := fun m h1 h2 =>
    ⟨Blk.new w 81 [.int .i64 m, .slice none 0 0, .int .i64 0], MsOwn.nil _ _, by simp [Value.ownBlock], Nat.zero_le _, by omega, h1, by omega⟩
  unfold mostOf
  by_cases h1 : x < 1
  · rw [if_pos h1]
    have h2 : ¬ 256 < x := by omega
    have h3 : x ≤ 256 := by omega
    have h4 : ¬ 1 ≤ x := by omega
    have h5 : ¬ 1 < x := by omega
    have h6 : x ≤ 1 := by omega
    have F := Kept.mk (fin 1 (by omega) (by omega))
    clear fin
    go_enter Try.func24, Try.ntmps24
    go_wp2_with fail
    go_ret
    exact ⟨rfl, F.out, (Keeps.refl _ w).alloc _⟩
  · rw [if_neg h1]
    by_cases h2 : 256 < x
    · rw [if_pos h2]
      have h3 : ¬ x ≤ 256 := by omega
      have h4 : ¬ x < 256 := by omega
      have h5 : 256 ≤ x := by omega
      have F := Kept.mk (fin 256 (by omega) (by omega))
      clear fin
      go_enter Try.func24, Try.ntmps24
      go_wp2_with fail
      go_ret
      exact ⟨rfl, F.out, (Keeps.refl _ w).alloc _⟩
    · rw [if_neg h2]
      obtain ⟨m, rfl⟩ := Int.eq_ofNat_of_zero_le (show 0 ≤ x by omega)
      rcases Nat.lt_or_ge 1 m with h6 | h6
      · have h3 : (m : Int) ≤ 256 := by omega
        have h4 : ¬ (m : Int) < 1 := by omega
        have h5 : (1 : Int) ≤ m := by omega
        have h7 : (1 : Int) < m := by omega
        have h8 : ¬ (m : Int) ≤ 1 := by omega
        have F := Kept.mk (fin m (by omega) (by omega))
        clear fin
        go_enter Try.func24, Try.ntmps24
        go_wp2_with fail
        go_ret
        exact ⟨rfl, F.out, (Keeps.refl _ w).alloc _⟩
      · obtain rfl : m = 1 := by omega
        have F := Kept.mk (fin 1 (by omega) (by omega))
        clear fin
        go_enter Try.func24, Try.ntmps24
        go_wp2_with fail
        go_ret
        exact ⟨rfl, F.out, (Keeps.refl _ w).alloc _⟩
end Go.Proofs.Ytkacnogjifhcoaa
