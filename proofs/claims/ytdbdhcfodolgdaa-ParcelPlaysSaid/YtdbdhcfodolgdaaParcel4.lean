/- Package parcel, walked: Went, Ids. -/
import Derived.Test.YtdbdhcfodolgdaaParcel3
namespace Go.Proofs.Ytdbdhcfodolgdaa
open Go.RowKit
theorem took {α : Type} {L : List α} {k : Nat} {x : α} (h : L[k]? = some x) : L.take (k + 1) = L.take k ++ [x] := by
  rw [List.take_add_one, h]; rfl
theorem went_yes {item n : Int} {L : List Pc} {k : Nat} {x : Pc} (h : L[k]? = some x) (e : x.2.1 = item) : wentP item n (L.take (k + 1)) = wrap64 (wentP item n (L.take k) + x.2.2) := by
  rw [took h]; unfold wentP; rw [List.foldl_append]; simp [e]
theorem went_no {item n : Int} {L : List Pc} {k : Nat} {x : Pc} (h : L[k]? = some x) (e : x.2.1 ≠ item) : wentP item n (L.take (k + 1)) = wentP item n (L.take k) := by
  rw [took h]; unfold wentP; rw [List.foldl_append]; simp [e]
set_option maxRecDepth 100000 in
set_option maxHeartbeats 1000000 in
theorem went_any (p : Nat) (v : Value) (L : List Pc) (item : Int) (w : World) (h : PbAt 77 79 w p v L) :
    Calls Try.prog 27 #[.pointer (some ⟨p, 0, none⟩), .int .i64 item] w (fun e w' => e = .returned (.int .i64 (wentP item 0 L)) ∧ Keeps (fun _ => False) w w') := by
  obtain ⟨a, cap, rfl, hm, hL⟩ := h.open
  unfold maxLen at hm
  have c0 := h.cells.cell 0 rfl
  have HL := Kept.mk hL
  clear hL h
  go_enter Try.func27, Try.ntmps27
  go_wp2
  go_loopw [5, 15] (fun n i wr => ∃ k : Nat, k ≤ L.length ∧ i = .int .i64 k ∧ n = .int .i64 (wentP item 0 (L.take k)) ∧ Below w.heap.size w wr) (fun _ i _ => L.length - (intOf i).toNat)
  case atStart => exact ⟨0, Nat.zero_le _, rfl, rfl, Below.refl _ _⟩
  case round =>
    obtain ⟨k, hk, rfl, rfl, hB⟩ := hrel
    generalize hS : wentP item 0 (L.take k) = S
    have HS := Kept.mk hS
    clear hS
    by_cases hlt : k < L.length
    · obtain ⟨x, hx⟩ : ∃ x, L[k]? = some x := ⟨_, List.getElem?_eq_getElem hlt⟩
      have Hx := Kept.mk hx
      obtain ⟨g, off, rfl, hl, c0, c1, c2⟩ := HL.out k x hx
      rw [← hB.cell (p := ⟨g, off + k * 3, none⟩) hl] at c0
      rw [← hB.cell (p := ⟨g, off + k * 3 + 1, none⟩) hl] at c1
      rw [← hB.cell (p := ⟨g, off + k * 3 + 2, none⟩) hl] at c2
      clear hx
      have hz := hB.size
      have HB := Kept.mk hB
      clear hB
      by_cases e : x.2.1 = item
      · have He := Kept.mk e
        have e1 : (x.2.1 == item) = true := by simpa using e
        clear e
        go_wp2_with fail
        go_roundw
        case rel => exact ⟨k + 1, by omega, by go_num, by rw [went_yes Hx.out He.out, HS.out], HB.out.alloc hz _⟩
        case measure => simp [intOf]; omega
      · have He := Kept.mk e
        have e1 : (x.2.1 == item) = false := by simpa using e
        clear e
        go_wp2_with fail
        go_roundw
        case rel => exact ⟨k + 1, by omega, by go_num, by rw [went_no Hx.out He.out, HS.out], HB.out.alloc hz _⟩
        case measure => simp [intOf]; omega
    · go_wp2_with fail
      go_ret
      exact ⟨by rw [← HS.out, List.take_of_length_le (by omega)]; rfl, Keeps.of_below hB _⟩
/-- The numbers of orders whose parcels went. -/
def idsOf (L : List Pc) : List Value := L.map fun x => .int .i64 x.1
set_option maxRecDepth 100000 in
set_option maxHeartbeats 2000000 in
theorem ids_any (p : Nat) (v : Value) (L : List Pc) (w : World) (h : PbAt 77 79 w p v L) (hlen : L.length ≤ 1000) :
    Calls Try.prog 14 #[.pointer (some ⟨p, 0, none⟩)] w (fun e w' => ∃ u, e = .returned u ∧ w'.ownsRow w.heap.size 3 1 u L.length (idsOf L) ∧ Keeps (fun _ => False) w w') := by
  obtain ⟨a, cap, rfl, hm, hL⟩ := h.open
  unfold maxLen at hm
  have c0 := h.cells.cell 0 rfl
  have HL := Kept.mk hL
  obtain ⟨i0, hi, hz0, hz1, hz2⟩ := info_parts infoInt
  clear hL h
  go_enter Try.func14, Try.ntmps14
  go_wp2
  go_loopw [3, 13] (fun u i wr => ∃ k : Nat, k ≤ L.length ∧ i = .int .i64 k ∧ wr.ownsRow w.heap.size 3 1 u k (idsOf (L.take k)) ∧ Below w.heap.size w wr) (fun _ i _ => L.length - (intOf i).toNat)
  case atStart => exact ⟨0, Nat.zero_le _, rfl, World.ownsRow_nil _ _ _ _, Below.refl _ _⟩
  case round =>
    obtain ⟨k, hk, rfl, hown, hB⟩ := hrel
    have hz := hB.size
    by_cases hlt : k < L.length
    · obtain ⟨x, hx⟩ : ∃ x, L[k]? = some x := ⟨_, List.getElem?_eq_getElem hlt⟩
      have Hx := Kept.mk hx
      obtain ⟨g, off, rfl, hl, c0, c1, c2⟩ := HL.out k x hx
      rw [← hB.cell (p := ⟨g, off + k * 3, none⟩) hl] at c0
      rw [← hB.cell (p := ⟨g, off + k * 3 + 1, none⟩) hl] at c1
      rw [← hB.cell (p := ⟨g, off + k * 3 + 2, none⟩) hl] at c2
      obtain ⟨x1, x2, x3⟩ := x
      simp only at c0 c1 c2
      have hb := (Blk.new (wr.alloc (.cells #[.int .i64 x1, .int .i64 x2, .int .i64 x3] 79)) 3 [.int .i64 x1]).cell 0 rfl
      rw [World.size_alloc] at hb
      obtain ⟨a', c', w2, hrun, hown', k2, _, hnew⟩ := run_append_new (P := Try.prog) ((wr.alloc (.cells #[.int .i64 x1, .int .i64 x2, .int .i64 x3] 79)).alloc (.cells #[.int .i64 x1] 3)) w.heap.size 22 22 3 i0 _ 1 8 Try.underlying22 hi hz0 hz1 hz2 rfl (by omega) _ _ _ ((hown.alloc _).alloc _) ⟨wr.heap.size + 1, 0, none⟩ 1 1 [.int .i64 x1] rfl
        (by
          intro j u hu
          match j, hu with
          | 0, hu => simp at hu; subst hu; exact hb) (by intro u hu; simp at hu; subst hu; rfl) (by unfold maxLen; omega) (by omega) (by simp; omega)
      have Hown := Kept.mk hown'
      have Hlt := Kept.mk hown.lt
      have HB := Kept.mk hB
      have K2 := Kept.mk k2
      obtain ⟨ua, uc, rfl, _⟩ := ownsRow_open hown (by omega)
      clear hx hown' hown hB hnew k2 hb
      go_wp2_with (at_builtin; refine wpList_append_run rfl _ _ _ rfl rfl rfl hrun ?_)
      go_roundw
      case rel =>
        refine ⟨k + 1, by omega, by go_num, ?_, ?_⟩
        · rw [took Hx.out]; unfold idsOf; rw [List.map_append]; exact Hown.out
        · exact ((HB.out.alloc hz _).alloc (by simp; omega) _).trans (K2.out.below (by simp; omega) (fun g hg => (Hlt.out g hg).1))
      case measure => simp [intOf]; omega
    · obtain rfl : k = L.length := by omega
      have Hown := Kept.mk hown
      have HB := Kept.mk hB
      obtain ⟨ua, uc, rfl, _⟩ := ownsRow_open hown (by omega)
      clear hown hB
      go_wp2_with fail
      go_ret
      exact ⟨_, rfl, by have := Hown.out; rw [List.take_of_length_le (Nat.le_refl _)] at this; exact this, Keeps.of_below HB.out _⟩
end Go.Proofs.Ytdbdhcfodolgdaa
