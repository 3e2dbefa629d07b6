/- Package order's At, walked. -/
import Derived.Test.YtjlfkpimjjnolaaRows
import Derived.Test.YtjlfkpimjjnolaaSay
import Derived.Test.YtjlfkpimjjnolaaOrd
namespace Go.Proofs.Ytjlfkpimjjnolaa
open Go.RowKit
theorem stSame_to (x y s : Int) (r : Bool) (b : Nat) (w : World) (h : w.cell? ⟨b, 0, none⟩ = some (.int .i64 s)) (e : svc s (x, y) = r) : Calls Try.prog 46 #[.agg #[.int .i64 x, .int .i64 y], .pointer (some ⟨b, 0, none⟩)] w (fun e w' => e = .returned (.bool r) ∧ Below w.heap.size w w') := by
  have hb := World.block_lt_of_cell? w _ h
  simp only at hb
  have He : Kept ((x == s) = r) := ⟨e⟩
  clear e
  go_enter Try.func46, Try.ntmps46
  go_wp2
  go_ret
  exact ⟨by rw [← He.out]; rfl, (Below.refl _ w).alloc (Nat.le_refl _) _⟩
set_option maxRecDepth 100000 in
set_option maxHeartbeats 1000000 in
theorem stIndex_any (a : Option Addr) (cap : Nat) (L : List St) (s : Int) (b : Nat) (w : World) (hL : StRow w a L) (hm : L.length ≤ maxLen) (h : w.cell? ⟨b, 0, none⟩ = some (.int .i64 s)) :
    Calls Try.prog 45 #[.slice a L.length cap, .func (.func 46) #[] #[.pointer (some ⟨b, 0, none⟩)]] w (fun e w' => e = .returned (.int .i64 (atOf L s)) ∧ Below w.heap.size w w') := by
  unfold maxLen at hm
  have hb := World.block_lt_of_cell? w _ h
  simp only at hb
  have HL := Kept.mk hL
  have H := Kept.mk h
  clear hL h
  go_enter Try.func45, Try.ntmps45
  go_wp2
  go_loopw [8] (fun i wr => ∃ k : Nat, k ≤ L.length ∧ i = .int .i64 k ∧ Kept (atOf L s = up k (atOf (L.drop k) s)) ∧ Below w.heap.size w wr) (fun i _ => L.length - (intOf i).toNat)
  case atStart => exact ⟨0, Nat.zero_le _, rfl, ⟨by rw [List.drop_zero]; exact fAt_zero _ _⟩, Below.refl _ _⟩
  case round =>
    obtain ⟨k, hk, rfl, hf, hB⟩ := hrel
    by_cases hlt : k < L.length
    · obtain ⟨x, hx⟩ : ∃ x, L[k]? = some x := ⟨_, List.getElem?_eq_getElem hlt⟩
      have hd : Kept (L.drop k = x :: L.drop (k + 1)) := ⟨by rw [List.drop_eq_getElem_cons hlt]; rw [List.getElem?_eq_getElem hlt] at hx; simp only [Option.some.injEq] at hx; rw [hx]⟩
      obtain ⟨g, off, rfl, hl, c0, c1⟩ := HL.out k x hx
      rw [← hB.cell (p := ⟨g, off + k * 2, none⟩) hl] at c0
      rw [← hB.cell (p := ⟨g, off + k * 2 + 1, none⟩) hl] at c1
      have cb := (hB.cell (p := ⟨b, 0, none⟩) hb).trans H.out
      clear hx
      have hz := hB.size
      have HB := Kept.mk hB
      clear hB
      cases e : svc s x with
      | true =>
        have He := Kept.mk e
        clear e
        go_wp2_with fail
        refine (stSame_to _ _ _ true _ _ cb He.out).mono ?_
        rintro e w1 ⟨rfl, b1⟩
        go_wp2_with fail
        go_ret
        exact ⟨by rw [hf.out, hd.out]; unfold atOf; rw [fAt_yes _ He.out]; rfl, HB.out.trans (b1.mono hz)⟩
      | false =>
        have He := Kept.mk e
        clear e
        go_wp2_with fail
        refine (stSame_to _ _ _ false _ _ cb He.out).mono ?_
        rintro e w1 ⟨rfl, b1⟩
        go_wp2_with fail
        go_roundw
        case rel => exact ⟨k + 1, by omega, by go_num, ⟨by rw [hf.out, hd.out]; exact fAt_up _ He.out⟩, HB.out.trans (b1.mono hz)⟩
        case measure => simp [intOf]; omega
    · have HB := Kept.mk hB
      clear hB
      go_wp2_with fail
      go_ret
      exact ⟨by rw [hf.out, List.drop_of_length_le (by omega)]; simp [atOf, fAt, up], HB.out⟩
set_option maxHeartbeats 1000000 in
theorem at_to (o : Ord) (a : Option Addr) (c : Nat) (s r : Int) (w : World) (hL : StRow w a o.steps) (hm : o.steps.length ≤ maxLen) (hr : atOf o.steps s = r) :
    Calls Try.prog 36 #[.agg #[.int .i64 o.id, .int .i64 o.item, .int .i64 o.qty, .int .i64 o.client, .int .i64 o.price, .slice a o.steps.length c], .int .i64 s] w (fun e w' => e = .returned (.int .i64 r) ∧ Keeps (fun _ => False) w w') := by
  obtain ⟨i1, i2, i3, i4, i5, L⟩ := o
  simp only at hL hm hr
  simp only
  have HL := Kept.mk ((hL.alloc (.cells #[.int .i64 i1, .int .i64 i2, .int .i64 i3, .int .i64 i4, .int .i64 i5, .slice a L.length c] 24)).alloc (.cells #[.int .i64 s] 3))
  have cn := (Blk.new (w.alloc (.cells #[.int .i64 i1, .int .i64 i2, .int .i64 i3, .int .i64 i4, .int .i64 i5, .slice a L.length c] 24)) 3 [.int .i64 s]).cell 0 rfl
  rw [World.size_alloc] at cn
  have Hr := Kept.mk hr
  clear hL hr
  go_enter Try.func36, Try.ntmps36
  go_wp2_with fail
  refine (stIndex_any a c L s _ _ HL.out hm cn).mono ?_
  rintro e w1 ⟨rfl, b1⟩
  rw [Hr.out]
  go_wp2_with fail
  go_ret
  exact ⟨rfl, (((Keeps.refl _ w).alloc _).alloc _).trans (Keeps.of_below b1 _)⟩
end Go.Proofs.Ytjlfkpimjjnolaa
