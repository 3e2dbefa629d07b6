/- The page's book of parcels, walked: Find, Ship, Went, Ids. -/
import Derived.Test.YtdbdhcfodolgdaaParcel4
namespace Go.Proofs.Ytdbdhcfodolgdaa
open Go.RowKit
def inB (lo hi x : Int) : Bool := decide (lo ≤ x) && decide (x ≤ hi)
theorem inB_iff (lo hi x : Int) : inB lo hi x = true ↔ lo ≤ x ∧ x ≤ hi := by simp [inB]
theorem inB_no {lo hi x : Int} (h : ¬ (lo ≤ x ∧ x ≤ hi)) : inB lo hi x = false := by
  cases e : inB lo hi x with
  | false => rfl
  | true => exact absurd ((inB_iff _ _ _).1 e) h
theorem rid_to (x : Int) (r : Bool) (w : World) (hr : inB 1 999 x = r) : Calls Try.prog 41 #[.int .i64 x] w (Says w (.bool r)) := by
  subst hr
  by_cases h0 : 1 ≤ x
  · have e : Kept (inB 1 999 x = decide (x ≤ 999)) := ⟨by simp [inB, h0]⟩
    go_enter Try.func41, Try.ntmps41
    go_wp2
    go_ret
    exact ⟨by rw [e.out]; rfl, rfl⟩
  · have e : Kept (inB 1 999 x = false) := ⟨by simp [inB, h0]⟩
    go_enter Try.func41, Try.ntmps41
    go_wp2
    go_ret
    exact ⟨by rw [e.out]; rfl, rfl⟩
theorem rplace_to (x : Int) (r : Bool) (w : World) (hr : inB 0 7 x = r) : Calls Try.prog 42 #[.int .i64 x] w (Says w (.bool r)) := by
  subst hr
  by_cases h0 : 0 ≤ x
  · have e : Kept (inB 0 7 x = decide (x < 8)) := ⟨by simp [inB, h0]; omega⟩
    go_enter Try.func42, Try.ntmps42
    go_wp2
    go_ret
    exact ⟨by rw [e.out]; rfl, rfl⟩
  · have e : Kept (inB 0 7 x = false) := ⟨by simp [inB, h0]⟩
    go_enter Try.func42, Try.ntmps42
    go_wp2
    go_ret
    exact ⟨by rw [e.out]; rfl, rfl⟩
theorem rabove_to (x : Int) (r : Bool) (w : World) (hr : inB 1 1000000000 x = r) : Calls Try.prog 43 #[.int .i64 x] w (Says w (.bool r)) := by
  subst hr
  by_cases h0 : 1 ≤ x
  · have e : Kept (inB 1 1000000000 x = decide (x ≤ 1000000000)) := ⟨by simp [inB, h0]⟩
    go_enter Try.func43, Try.ntmps43
    go_wp2
    go_ret
    exact ⟨by rw [e.out]; rfl, rfl⟩
  · have e : Kept (inB 1 1000000000 x = false) := ⟨by simp [inB, h0]⟩
    go_enter Try.func43, Try.ntmps43
    go_wp2
    go_ret
    exact ⟨by rw [e.out]; rfl, rfl⟩
theorem isArg_iff (a b c : Int) : isArg a b c ↔ inB 1 999 a = true ∧ inB 0 7 b = true ∧ inB 1 1000000000 c = true := by
  simp only [isArg, inB_iff]; omega
/-- What Find answers. -/
def foundV (L : List Pc) (id : Int) : Value := match look L id with
  | some y => .tuple #[.agg #[.int .i64 id, .int .i64 y.1, .int .i64 y.2], .bool true]
  | none => .tuple #[.agg #[.int .i64 0, .int .i64 0, .int .i64 0], .bool false]
theorem look_drop {L : List Pc} {k : Nat} {x : Pc} (hd : L.drop k = x :: L.drop (k + 1)) {id : Int} (h : x.1 ≠ id) : look (L.drop k) id = look (L.drop (k + 1)) id := by
  rw [hd]; simp only [look]; rw [if_neg h]
set_option maxRecDepth 100000 in
set_option maxHeartbeats 2000000 in
theorem rfind_any (p : Nat) (v : Value) (L : List Pc) (id : Int) (w : World) (h : PbAt 48 53 w p v L) :
    Calls Try.prog 26 #[.pointer (some ⟨p, 0, none⟩), .int .i64 id] w (fun e w' => e = .returned (foundV L id) ∧ Keeps (fun _ => False) w w') := by
  obtain ⟨a, cap, rfl, hm, hL⟩ := h.open
  unfold maxLen at hm
  have c0 := h.cells.cell 0 rfl
  have hp := h.cells.lt
  have HL := Kept.mk hL
  have hb0 := Kept.mk (Blk.new w 53 [.int .i64 0, .int .i64 0, .int .i64 0])
  clear hL h
  go_enter Try.func26, Try.ntmps26
  go_wp2
  go_loopw [13] (fun i wr => ∃ k : Nat, k ≤ L.length ∧ i = .int .i64 k ∧ Kept (look L id = look (L.drop k) id) ∧ Below w.heap.size w wr ∧ Blk wr w.heap.size 53 [.int .i64 0, .int .i64 0, .int .i64 0]) (fun i _ => L.length - (intOf i).toNat)
  case atStart => exact ⟨0, Nat.zero_le _, rfl, ⟨by rw [List.drop_zero]⟩, (Below.refl _ _).alloc (Nat.le_refl _) _, hb0.out⟩
  case round =>
    obtain ⟨k, hk, rfl, hf, hB, hR⟩ := hrel
    have hRl := hR.lt
    by_cases hlt : k < L.length
    · obtain ⟨x, hx⟩ : ∃ x, L[k]? = some x := ⟨_, List.getElem?_eq_getElem hlt⟩
      have hd : Kept (L.drop k = x :: L.drop (k + 1)) := ⟨by rw [List.drop_eq_getElem_cons hlt]; rw [List.getElem?_eq_getElem hlt] at hx; simp only [Option.some.injEq] at hx; rw [hx]⟩
      obtain ⟨g, off, rfl, hl, c0, c1, c2⟩ := HL.out k x hx
      rw [← hB.cell (p := ⟨g, off + k * 3, none⟩) hl] at c0
      rw [← hB.cell (p := ⟨g, off + k * 3 + 1, none⟩) hl] at c1
      rw [← hB.cell (p := ⟨g, off + k * 3 + 2, none⟩) hl] at c2
      clear hx
      have hz := hB.size
      have HB := Kept.mk hB
      obtain ⟨x1, x2, x3⟩ := x
      simp only at c0 c1 c2
      clear hB
      by_cases e : x1 = id
      · have He := Kept.mk e
        have e1 : (x1 == id) = true := by simpa using e
        have r0 := hR.cell 0 rfl
        have r1 := hR.cell 1 rfl
        have r2 := hR.cell 2 rfl
        have f0 := hR.frozen 0
        have f1 := hR.frozen 1
        have f2 := hR.frozen 2
        have hR2 := (((hR.set 0 (.int .i64 x1)).set 1 (.int .i64 x2)).set 2 (.int .i64 x3)).alloc (.cells #[.int .i64 x1, .int .i64 x2, .int .i64 x3] 53)
        have q0 := hR2.cell 0 rfl
        have q1 := hR2.cell 1 rfl
        have q2 := hR2.cell 2 rfl
        clear e hR hR2
        have Q0 := Kept.mk q0
        have Q1 := Kept.mk q1
        have Q2 := Kept.mk q2
        clear q0 q1 q2
        have hfv : Kept (foundV L id = .tuple #[.agg #[.int .i64 x1, .int .i64 x2, .int .i64 x3], .bool true]) := ⟨by
          unfold foundV; rw [hf.out, hd.out]; simp only [look]; rw [if_pos He.out, He.out]⟩
        have hk3 : Kept (Keeps (fun _ => False) w ((((wr.setCell ⟨w.heap.size, 0, none⟩ (.int .i64 x1)).setCell ⟨w.heap.size, 1, none⟩ (.int .i64 x2)).setCell ⟨w.heap.size, 2, none⟩ (.int .i64 x3)).alloc (.cells #[.int .i64 x1, .int .i64 x2, .int .i64 x3] 53))) := ⟨((((Keeps.of_below HB.out _).setCell (p := ⟨w.heap.size, 0, none⟩) (.inl (Nat.le_refl _)) _).setCell (p := ⟨w.heap.size, 1, none⟩) (.inl (Nat.le_refl _)) _).setCell (p := ⟨w.heap.size, 2, none⟩) (.inl (Nat.le_refl _)) _).alloc _⟩
        go_wp2_with fail
        rw [hfv.out]
        exact bodyPost_ret (v := .tuple #[.agg #[.int .i64 x1, .int .i64 x2, .int .i64 x3], .bool true]) (by simp [results, Try.results26, go_sem, Q0.out, Q1.out, Q2.out]) rfl ⟨rfl, hk3.out⟩
      · have He := Kept.mk e
        have e1 : (x1 == id) = false := by simpa using e
        have HR := Kept.mk hR
        clear e hR
        go_wp2_with fail
        go_roundw
        case rel => exact ⟨k + 1, by omega, by go_num, ⟨by rw [hf.out, look_drop hd.out He.out]⟩, HB.out.alloc hz _, HR.out.alloc _⟩
        case measure => simp [intOf]; omega
    · obtain rfl : k = L.length := by omega
      have r0 := hR.cell 0 rfl
      have r1 := hR.cell 1 rfl
      have r2 := hR.cell 2 rfl
      have f0 := hR.frozen 0
      have f1 := hR.frozen 1
      have f2 := hR.frozen 2
      have hR2 := (((hR.set 0 (.int .i64 0)).set 1 (.int .i64 0)).set 2 (.int .i64 0))
      have Q0 := Kept.mk (hR2.cell 0 rfl)
      have Q1 := Kept.mk (hR2.cell 1 rfl)
      have Q2 := Kept.mk (hR2.cell 2 rfl)
      have HB := Kept.mk hB
      have hfv : Kept (foundV L id = .tuple #[.agg #[.int .i64 0, .int .i64 0, .int .i64 0], .bool false]) := ⟨by
        unfold foundV; rw [hf.out, List.drop_length]; rfl⟩
      have hk3 : Kept (Keeps (fun _ => False) w (((wr.setCell ⟨w.heap.size, 0, none⟩ (.int .i64 0)).setCell ⟨w.heap.size, 1, none⟩ (.int .i64 0)).setCell ⟨w.heap.size, 2, none⟩ (.int .i64 0))) := ⟨((((Keeps.of_below HB.out _).setCell (p := ⟨w.heap.size, 0, none⟩) (.inl (Nat.le_refl _)) _).setCell (p := ⟨w.heap.size, 1, none⟩) (.inl (Nat.le_refl _)) _).setCell (p := ⟨w.heap.size, 2, none⟩) (.inl (Nat.le_refl _)) _)⟩
      clear hR hR2 hB
      go_wp2_with fail
      rw [hfv.out]
      exact bodyPost_ret (v := .tuple #[.agg #[.int .i64 0, .int .i64 0, .int .i64 0], .bool false]) (by simp [results, Try.results26, go_sem, Q0.out, Q1.out, Q2.out]) rfl ⟨rfl, hk3.out⟩
end Go.Proofs.Ytdbdhcfodolgdaa
