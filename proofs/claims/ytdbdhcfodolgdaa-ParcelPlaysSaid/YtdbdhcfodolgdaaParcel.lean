/- Package parcel, walked: find, New, Ship, Has, Went, Ids. -/
import Derived.Test.YtdbdhcfodolgdaaMay
import Derived.Test.YtdbdhcfodolgdaaRow
namespace Go.Proofs.Ytdbdhcfodolgdaa
open Go.RowKit
abbrev Pc := Int × Int × Int
def encPc (x : Pc) : List Value := [.int .i64 x.1, .int .i64 x.2.1, .int .i64 x.2.2]
/-- Where an order's parcel is; -1: nowhere. -/
def findAt : List Pc → Int → Int
  | [], _ => -1
  | x :: r, id => if x.1 = id then 0 else if findAt r id < 0 then -1 else 1 + findAt r id
def look : List Pc → Int → Option (Int × Int)
  | [], _ => none
  | x :: r, id => if x.1 = id then some x.2 else look r id
def up (k : Nat) (r : Int) : Int := if r < 0 then -1 else k + r
theorem findAt_ge : ∀ (L : List Pc) (id : Int), -1 ≤ findAt L id
  | [], _ => by simp [findAt]
  | x :: r, id => by simp only [findAt]; split <;> (try split) <;> omega
theorem findAt_up (k : Nat) (x : Pc) (r : List Pc) (id : Int) (h : x.1 ≠ id) : up k (findAt (x :: r) id) = up (k + 1) (findAt r id) := by
  have e : findAt (x :: r) id = if findAt r id < 0 then -1 else 1 + findAt r id := by show (if x.1 = id then (0 : Int) else _) = _; rw [if_neg h]
  generalize findAt (x :: r) id = A at *
  generalize findAt r id = B at *
  subst e
  unfold up
  split <;> split <;> (try split) <;> omega
theorem findAt_le : ∀ (L : List Pc) (id : Int), findAt L id < L.length
  | [], _ => by simp [findAt]
  | x :: r, id => by
    have := findAt_le r id
    simp only [findAt, List.length_cons]
    split <;> (try split) <;> omega
theorem find_none : ∀ {L : List Pc} {id : Int}, look L id = none → findAt L id = -1
  | [], _, _ => rfl
  | x :: r, id, h => by
    simp only [look] at h
    by_cases e : x.1 = id
    · rw [if_pos e] at h; cases h
    · rw [if_neg e] at h
      simp only [findAt]
      rw [if_neg e, find_none h]; rfl
theorem find_some : ∀ {L : List Pc} {id : Int} {y : Int × Int}, look L id = some y → ∃ k : Nat, findAt L id = k ∧ L[k]? = some (id, y)
  | [], _, _, h => by simp [look] at h
  | x :: r, id, y, h => by
    simp only [look] at h
    by_cases e : x.1 = id
    · rw [if_pos e] at h
      simp only [Option.some.injEq] at h
      obtain ⟨x1, x2⟩ := x
      simp only at e h
      subst h; subst e
      exact ⟨0, by simp [findAt], rfl⟩
    · rw [if_neg e] at h
      obtain ⟨k, h1, h2⟩ := find_some h
      refine ⟨k + 1, ?_, by simpa using h2⟩
      simp only [findAt]
      rw [if_neg e, h1, if_neg (by omega)]; omega
def isArg (id item qty : Int) : Prop := 1 ≤ id ∧ id ≤ 999 ∧ 0 ≤ item ∧ item < 8 ∧ qty ≠ 0 ∧ 0 ≤ qty ∧ qty ≤ 1000000000
instance (a b c : Int) : Decidable (isArg a b c) := by unfold isArg; infer_instance
def shipP (L : List Pc) (id item qty : Int) : Int × List Pc := if isArg id item qty then (if look L id = none then (0, L ++ [(id, item, qty)]) else (8, L)) else (1, L)
def wentP (item : Int) (n : Int) (L : List Pc) : Int := L.foldl (fun n x => if x.2.1 = item then wrap64 (n + x.2.2) else n) n
/-- A book of parcels lies at block p; v is its row. -/
structure PbAt (T E : TypeId) (w : World) (p : Nat) (v : Value) (L : List Pc) : Prop where
  cells : Blk w p T [v]
  row : w.ownsRow 0 E 3 v L.length (L.flatMap encPc)
  ne : v.ownBlock ≠ some p
theorem PbAt.keeps {T E : TypeId} {w w' : World} {p : Nat} {v : Value} {L : List Pc} (h : PbAt T E w p v L) {S : Nat → Prop} (k : Keeps S w w') (hp : ¬ S p) (hv : ∀ g, v.ownBlock = some g → ¬ S g) : PbAt T E w' p v L :=
  ⟨h.cells.keeps k hp, ownsRow_keeps h.row k hv, h.ne⟩
theorem PbAt.quiet {T E : TypeId} {w w' : World} {p : Nat} {v : Value} {L : List Pc} (h : PbAt T E w p v L) (k : Keeps (fun _ => False) w w') : PbAt T E w' p v L := h.keeps k (fun h => h) (fun _ _ h => h)
theorem PbAt.alloc {T E : TypeId} {w : World} {p : Nat} {v : Value} {L : List Pc} (h : PbAt T E w p v L) (o : Obj) : PbAt T E (w.alloc o) p v L := h.quiet ((Keeps.refl _ w).alloc o)
theorem PbAt.drewN {T E : TypeId} {w : World} {p : Nat} {v : Value} {L : List Pc} (h : PbAt T E w p v L) (n : Nat) : PbAt T E (w.drewN n) p v L := h.quiet ((Keeps.refl _ w).drewN n)
/-- A row of parcels, cell by cell. -/
def PcRow (w : World) (a : Option Addr) (L : List Pc) : Prop := ∀ (k : Nat) (x : Pc), L[k]? = some x → ∃ g off, a = some ⟨g, off, none⟩ ∧ g < w.heap.size ∧ w.cell? ⟨g, off + k * 3, none⟩ = some (.int .i64 x.1) ∧ w.cell? ⟨g, off + k * 3 + 1, none⟩ = some (.int .i64 x.2.1) ∧ w.cell? ⟨g, off + k * 3 + 2, none⟩ = some (.int .i64 x.2.2)
theorem PcRow.below {w w' : World} {a : Option Addr} {L : List Pc} (h : PcRow w a L) (hb : Below w.heap.size w w') : PcRow w' a L := by
  intro k x hx
  obtain ⟨g, off, e, hl, h0, h1, h2⟩ := h k x hx
  exact ⟨g, off, e, Nat.lt_of_lt_of_le hl hb.size, (hb.cell (p := ⟨g, off + k * 3, none⟩) hl).trans h0, (hb.cell (p := ⟨g, off + k * 3 + 1, none⟩) hl).trans h1, (hb.cell (p := ⟨g, off + k * 3 + 2, none⟩) hl).trans h2⟩
theorem PbAt.open {T E : TypeId} {w : World} {p : Nat} {v : Value} {L : List Pc} (h : PbAt T E w p v L) : ∃ a cap, v = .slice a L.length cap ∧ L.length ≤ maxLen ∧ PcRow w a L := by
  obtain ⟨a, cap, hv, hm, _, _, _, hx⟩ := ownsRow_open h.row (by omega)
  refine ⟨a, cap, hv, hm, fun k x hk => ?_⟩
  have r := fun j => flat_get encPc 3 (fun _ => rfl) L k x j hk
  obtain ⟨g, off, ha, hl, _, c0⟩ := hx (k * 3 + 0) _ ((r 0 (by omega)).trans rfl)
  obtain ⟨g1, off1, ha1, _, _, c1⟩ := hx (k * 3 + 1) _ ((r 1 (by omega)).trans rfl)
  obtain ⟨g2, off2, ha2, _, _, c2⟩ := hx (k * 3 + 2) _ ((r 2 (by omega)).trans rfl)
  rw [ha] at ha1 ha2
  simp only [Option.some.injEq, Addr.mk.injEq, and_true] at ha1 ha2
  obtain ⟨rfl, rfl⟩ := ha1
  obtain ⟨rfl, rfl⟩ := ha2
  exact ⟨g, off, ha, hl, c0, c1, c2⟩
theorem newP_any (w : World) : Calls Try.prog 12 #[] w (fun e w' => e = .returned (.pointer (some ⟨w.heap.size, 0, none⟩)) ∧ w' = w.alloc (.cells #[.slice none 0 0] 77)) := by
  go_enter Try.func12, Try.ntmps12
  go_wp2
  go_ret
  exact ⟨rfl, rfl⟩
theorem PbAt.new (T E : TypeId) (w : World) : PbAt T E (w.alloc (.cells #[.slice none 0 0] T)) w.heap.size (.slice none 0 0) [] :=
  ⟨Blk.new w T [.slice none 0 0], World.ownsRow_nil _ _ _ _, by simp [Value.ownBlock]⟩
theorem pcSame_yes (x y z id : Int) (b : Nat) (w : World) (h : w.cell? ⟨b, 0, none⟩ = some (.int .i64 id)) (e : x = id) : Calls Try.prog 46 #[.agg #[.int .i64 x, .int .i64 y, .int .i64 z], .pointer (some ⟨b, 0, none⟩)] w (fun e w' => e = .returned (.bool true) ∧ Below w.heap.size w w') := by
  subst e
  have hb := World.block_lt_of_cell? w _ h
  simp only at hb
  go_enter Try.func46, Try.ntmps46
  go_wp2
  go_ret
  exact ⟨rfl, (Below.refl _ w).alloc (Nat.le_refl _) _⟩
theorem pcSame_no (x y z id : Int) (b : Nat) (w : World) (h : w.cell? ⟨b, 0, none⟩ = some (.int .i64 id)) (e : x ≠ id) : Calls Try.prog 46 #[.agg #[.int .i64 x, .int .i64 y, .int .i64 z], .pointer (some ⟨b, 0, none⟩)] w (fun e w' => e = .returned (.bool false) ∧ Below w.heap.size w w') := by
  have hb := World.block_lt_of_cell? w _ h
  simp only at hb
  have e1 : (x == id) = false := by simpa using e
  clear e
  go_enter Try.func46, Try.ntmps46
  go_wp2
  go_ret
  exact ⟨rfl, (Below.refl _ w).alloc (Nat.le_refl _) _⟩
theorem up_le (k : Nat) (r : Int) : -1 ≤ up k r := by unfold up; split <;> omega
set_option maxRecDepth 100000 in
set_option maxHeartbeats 1000000 in
theorem index_any (a : Option Addr) (cap : Nat) (L : List Pc) (id : Int) (b : Nat) (w : World) (hL : PcRow w a L) (hm : L.length ≤ maxLen) (h : w.cell? ⟨b, 0, none⟩ = some (.int .i64 id)) :
    Calls Try.prog 45 #[.slice a L.length cap, .func (.func 46) #[] #[.pointer (some ⟨b, 0, none⟩)]] w (fun e w' => e = .returned (.int .i64 (findAt L id)) ∧ Below w.heap.size w w') := by
  unfold maxLen at hm
  have hb := World.block_lt_of_cell? w _ h
  simp only at hb
  have HL := Kept.mk hL
  have H := Kept.mk h
  clear hL h
  go_enter Try.func45, Try.ntmps45
  go_wp2
  go_loopw [8] (fun i wr => ∃ k : Nat, k ≤ L.length ∧ i = .int .i64 k ∧ Kept (findAt L id = up k (findAt (L.drop k) id)) ∧ Below w.heap.size w wr) (fun i _ => L.length - (intOf i).toNat)
  case atStart => exact ⟨0, Nat.zero_le _, rfl, ⟨by have := findAt_ge L id; unfold up; rw [List.drop_zero]; split <;> omega⟩, Below.refl _ _⟩
  case round =>
    obtain ⟨k, hk, rfl, hf, hB⟩ := hrel
    by_cases hlt : k < L.length
    · obtain ⟨x, hx⟩ : ∃ x, L[k]? = some x := ⟨_, List.getElem?_eq_getElem hlt⟩
      have hd : Kept (L.drop k = x :: L.drop (k + 1)) := ⟨by rw [List.drop_eq_getElem_cons hlt]; rw [List.getElem?_eq_getElem hlt] at hx; simp only [Option.some.injEq] at hx; rw [hx]⟩
      obtain ⟨g, off, rfl, hl, c0, c1, c2⟩ := HL.out k x hx
      rw [← hB.cell (p := ⟨g, off + k * 3, none⟩) hl] at c0
      rw [← hB.cell (p := ⟨g, off + k * 3 + 1, none⟩) hl] at c1
      rw [← hB.cell (p := ⟨g, off + k * 3 + 2, none⟩) hl] at c2
      have cb := (hB.cell (p := ⟨b, 0, none⟩) hb).trans H.out
      clear hx
      have hz := hB.size
      have HB := Kept.mk hB
      clear hB
      by_cases e : x.1 = id
      · have He := Kept.mk e
        clear e
        go_wp2_with fail
        refine (pcSame_yes _ _ _ _ _ _ cb He.out).mono ?_
        rintro e w1 ⟨rfl, b1⟩
        go_wp2_with fail
        go_ret
        exact ⟨by rw [hf.out, hd.out]; simp [findAt, up, He.out], HB.out.trans (b1.mono hz)⟩
      · have He := Kept.mk e
        clear e
        go_wp2_with fail
        refine (pcSame_no _ _ _ _ _ _ cb He.out).mono ?_
        rintro e w1 ⟨rfl, b1⟩
        go_wp2_with fail
        go_roundw
        case rel => exact ⟨k + 1, by omega, by go_num, ⟨by rw [hf.out, hd.out, findAt_up _ _ _ _ He.out]⟩, HB.out.trans (b1.mono hz)⟩
        case measure => simp [intOf]; omega
    · go_wp2_with fail
      go_ret
      exact ⟨by rw [hf.out, List.drop_of_length_le (by omega)]; simp [findAt, up], hB⟩
set_option maxHeartbeats 1000000 in
theorem find_any (E : TypeId) (p : Nat) (v : Value) (L : List Pc) (id r : Int) (w : World) (h : PbAt 77 E w p v L) (hr : findAt L id = r) :
    Calls Try.prog 38 #[.pointer (some ⟨p, 0, none⟩), .int .i64 id] w (fun e w' => e = .returned (.int .i64 r) ∧ Keeps (fun _ => False) w w') := by
  obtain ⟨a, cap, rfl, hm, hL⟩ := h.open
  have c0 := h.cells.cell 0 rfl
  have hb := h.cells.lt
  have HL := Kept.mk (hL.below ((Below.refl _ w).alloc (Nat.le_refl _) (.cells #[.int .i64 id] 3)))
  have cn : (w.alloc (.cells #[.int .i64 id] 3)).cell? ⟨w.heap.size, 0, none⟩ = some (.int .i64 id) := (Blk.new w 3 [.int .i64 id]).cell 0 rfl
  have Hr := Kept.mk hr
  clear hL hr
  go_enter Try.func38, Try.ntmps38
  go_wp2_with fail
  refine (index_any a cap L id _ _ HL.out hm cn).mono ?_
  rintro e w1 ⟨rfl, b1⟩
  rw [Hr.out]
  go_wp2_with fail
  go_ret
  exact ⟨rfl, ((Keeps.refl _ w).alloc _).trans (Keeps.of_below b1 _)⟩
end Go.Proofs.Ytdbdhcfodolgdaa
