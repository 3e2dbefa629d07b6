/- Package hold's book, walked: New, Take, Back, Left and Has answer as the plain 'Hd' does, and turn their own two blocks alone. No condition but that a book lies there whose numbers are in range. -/
import Derived.Test.YtofabbigngmboaaSub
import Derived.Test.YtofabbigngmboaaMap
namespace Go.Proofs.Ytofabbigngmboaa
open Go.RowKit

/-- A book: what is left, and who holds how much. -/
structure Hd where
  l : Int
  L : List (Int × Int)
def Hd.at (s : Hd) (id : Int) : Int := (MP.get s.L id).getD 0
structure Hd.Ok (s : Hd) : Prop where
  l0 : 0 ≤ s.l
  l1 : s.l ≤ 1000000000
  vals : ∀ k v, MP.get s.L k = some v → 1 ≤ k ∧ k ≤ 999 ∧ 1 ≤ v ∧ v ≤ 1000000000
  nodup : (MP.keys s.L).Nodup
/-- Held and left are never more than there may be. -/
def Hd.argOk (id n : Int) : Bool := decide (1 ≤ id) && decide (id ≤ 999) && !(n == 0) && mayB n
def Hd.take (s : Hd) (id n : Int) : Int × Hd :=
  if Hd.argOk id n then (if 0 < s.at id then (8, s) else if s.l < n then (9, s) else (0, ⟨s.l - n, MP.put s.L id n⟩)) else (1, s)
def Hd.back (s : Hd) (id : Int) : Int × Hd := if s.at id = 0 then (6, s) else (0, ⟨s.l + s.at id, MP.del s.L id⟩)
def Hd.new (room : Int) : Hd := ⟨max 0 (min room 1000000000), []⟩
theorem Hd.new_ok (room : Int) : (Hd.new room).Ok := ⟨by simp only [Hd.new]; omega, by simp only [Hd.new]; omega, fun k v h => by simp [Hd.new, MP.get_nil] at h, by simp [Hd.new, MP.keys]⟩
theorem Hd.Ok.at_range {s : Hd} (h : s.Ok) (id : Int) : 0 ≤ s.at id ∧ s.at id ≤ 1000000000 := by
  unfold Hd.at
  cases hg : MP.get s.L id with
  | none => simp
  | some v => have := h.vals id v hg; simp only [Option.getD_some]; omega
theorem Hd.argOk_iff (id n : Int) : Hd.argOk id n = true ↔ 1 ≤ id ∧ id ≤ 999 ∧ n ≠ 0 ∧ 0 ≤ n ∧ n ≤ 1000000000 := by
  simp [Hd.argOk, mayB]
  omega
theorem Hd.take_ok {s : Hd} (h : s.Ok) (id n : Int) : (s.take id n).2.Ok := by
  unfold Hd.take
  cases ha : Hd.argOk id n with
  | false => simp only [Bool.false_eq_true, if_false]; exact h
  | true =>
    have hr := (Hd.argOk_iff id n).1 ha
    simp only [if_true]
    by_cases h1 : 0 < s.at id
    · rw [if_pos h1]; exact h
    · rw [if_neg h1]
      by_cases h2 : s.l < n
      · rw [if_pos h2]; exact h
      · rw [if_neg h2]
        refine ⟨by simp only; omega, by have := h.l1; simp only; omega, fun k v hk => ?_, MP.nodup_put h.nodup⟩
        rw [MP.get_put] at hk
        by_cases hkid : k = id
        · rw [if_pos hkid] at hk
          simp only [Option.some.injEq] at hk
          subst hk; subst hkid
          omega
        · rw [if_neg hkid] at hk
          exact h.vals k v hk
def encInt (x : Int) : Value := .int .i64 x
/-- A book lies at block p, its map at block m. -/
structure HdAt (w : World) (p m : Nat) (s : Hd) : Prop where
  cells : Blk w p 75 [.int .i64 s.l, .map (some m)]
  map : MapAt encInt w m s.L
  ne : m ≠ p
theorem HdAt.keeps {w w' : World} {p m : Nat} {s : Hd} (h : HdAt w p m s) {S : Nat → Prop} (k : Keeps S w w') (hp : ¬ S p) (hm : ¬ S m) : HdAt w' p m s := ⟨h.cells.keeps k hp, h.map.keeps k hm, h.ne⟩
theorem HdAt.drewN {w : World} {p m : Nat} {s : Hd} (h : HdAt w p m s) (n : Nat) : HdAt (w.drewN n) p m s := ⟨h.cells.drewN n, h.map.drewN n, h.ne⟩
theorem HdAt.alloc {w : World} {p m : Nat} {s : Hd} (h : HdAt w p m s) (o : Obj) : HdAt (w.alloc o) p m s := ⟨h.cells.alloc o, h.map.alloc o, h.ne⟩
theorem zeroInt (w : World) : (zeroValue 3).run Try.prog w = .ok (.int .i64 0) w := by kernel_rfl
theorem getD_enc (o : Option Int) : (o.map encInt).getD (.int .i64 0) = .int .i64 (o.getD 0) := by cases o <;> rfl
theorem look_at {w : World} {m : Nat} {L : List (Int × Int)} (h : MapAt encInt w m L) (x : Int) : (Instr.lookup 73 (.map (some m)) (.int .i64 x) false).run Try.prog w = .ok (.int .i64 ((MP.get L x).getD 0)) w := by
  have := h.look (P := Try.prog) Try.underlying73 Try.underlying3 (zeroInt w) x false
  rw [this, getD_enc]; rfl
theorem look_ok {w : World} {m : Nat} {L : List (Int × Int)} (h : MapAt encInt w m L) (x : Int) : (Instr.lookup 73 (.map (some m)) (.int .i64 x) true).run Try.prog w = .ok (.tuple #[.int .i64 ((MP.get L x).getD 0), .bool (MP.get L x).isSome]) w := by
  have := h.look (P := Try.prog) Try.underlying73 Try.underlying3 (zeroInt w) x true
  rw [this, getD_enc]; rfl

set_option maxHeartbeats 400000 in
theorem holdNew_any (a : Int) (w : World) : Calls Try.prog 15 #[.int .i64 a] w (Rets w (fun _ => False) (.pointer (some ⟨w.heap.size + 1, 0, none⟩)) fun w' => HdAt w' (w.heap.size + 1) w.heap.size (Hd.new a) ∧ w'.heap.size = w.heap.size + 2) := by
  have hmm := @run_makeMap Try.prog
  have fin : ∀ x : Int, max 0 (min a 1000000000) = x → HdAt ((w.alloc (.map #[] 0)).alloc (.cells #[.int .i64 x, .map (some w.heap.size)] 75)) (w.heap.size + 1) w.heap.size (Hd.new a) := by
    intro x hx
    have e : Hd.new a = ⟨x, []⟩ := by simp only [Hd.new, hx]
    rw [e]
    have hb := Blk.new (w.alloc (.map #[] 0)) 75 [.int .i64 x, .map (some w.heap.size)]
    rw [World.size_alloc] at hb
    exact ⟨hb, (MapAt.new encInt w).alloc _, by omega⟩
  have Hfin := Kept.mk fin
  clear fin
  go_enter Try.func15, Try.ntmps15
  go_wp2
  all_goals
    go_ret
    exact ⟨rfl, ⟨Hfin.out _ (by omega), by simp⟩, ((Keeps.refl _ w).alloc _).alloc _⟩

theorem left_nil (w : World) : Calls Try.prog 18 #[.pointer none] w (Says w (.int .i64 0)) := by
  go_enter Try.func18, Try.ntmps18
  go_wp2
  go_ret
  exact ⟨rfl, rfl⟩
theorem left_any (p m : Nat) (s : Hd) (w : World) (h : HdAt w p m s) : Calls Try.prog 18 #[.pointer (some ⟨p, 0, none⟩)] w (Says w (.int .i64 s.l)) := by
  have c0 := h.cells.cell 0 rfl
  go_enter Try.func18, Try.ntmps18
  go_wp2
  go_ret
  exact ⟨rfl, rfl⟩
theorem has_nil (id : Int) (w : World) : Calls Try.prog 19 #[.pointer none, .int .i64 id] w (Says w (.tuple #[.int .i64 0, .bool false])) := by
  go_enter Try.func19, Try.ntmps19
  go_wp2
  go_ret2
  exact ⟨rfl, rfl⟩
theorem has_any (p m : Nat) (s : Hd) (id : Int) (w : World) (h : HdAt w p m s) : Calls Try.prog 19 #[.pointer (some ⟨p, 0, none⟩), .int .i64 id] w (Says w (.tuple #[.int .i64 (s.at id), .bool (MP.get s.L id).isSome])) := by
  have c1 := h.cells.cell 1 rfl
  have hl := look_ok h.map id
  have e : s.at id = (MP.get s.L id).getD 0 := rfl
  rw [← e] at hl
  generalize s.at id = v at *
  generalize (MP.get s.L id).isSome = r at *
  clear e
  go_enter Try.func19, Try.ntmps19
  go_wp2
  go_ret2
  exact ⟨rfl, rfl⟩
theorem back_nil (id : Int) (w : World) : Calls Try.prog 17 #[.pointer none, .int .i64 id] w (Says w (.int .i64 1)) := by
  go_enter Try.func17, Try.ntmps17
  go_wp2
  go_ret
  exact ⟨rfl, rfl⟩
theorem take_nil (id n : Int) (w : World) : Calls Try.prog 16 #[.pointer none, .int .i64 id, .int .i64 n] w (Says w (.int .i64 1)) := by
  go_enter Try.func16, Try.ntmps16
  go_wp2
  go_ret
  exact ⟨rfl, rfl⟩
theorem sub_to (a b x y : Int) (w : World) (h : subV a b = (x, y)) : Calls Try.prog 41 #[.int .i64 a, .int .i64 b] w (Says w (.tuple #[.int .i64 x, .int .i64 y])) := by
  have := sub_any a b w
  rw [h] at this
  exact this
/-- What it answers, and the book behind it. -/
def HdTo (w : World) (p m : Nat) (r : Int × Hd) : Ending → World → Prop := Rets w (fun k => k = p ∨ k = m) (.int .i64 r.1) fun w' => HdAt w' p m r.2 ∧ w'.heap.size = w.heap.size
theorem hdTo_same {w : World} {p m : Nat} {s : Hd} (h : HdAt w p m s) (x : Int) {r : Int × Hd} (e : r = (x, s)) : HdTo w p m r (.returned (.int .i64 x)) w := by
  subst e
  exact ⟨rfl, ⟨h, rfl⟩, Keeps.refl _ _⟩

set_option maxRecDepth 100000 in
set_option maxHeartbeats 1000000 in
theorem take_any (p m : Nat) (s : Hd) (id n : Int) (w : World) (h : HdAt w p m s) (ok : s.Ok) : Calls Try.prog 16 #[.pointer (some ⟨p, 0, none⟩), .int .i64 id, .int .i64 n] w (HdTo w p m (s.take id n)) := by
  have H := Kept.mk h
  have c0 := h.cells.cell 0 rfl
  have c1 := h.cells.cell 1 rfl
  have f0 := h.cells.frozen 0
  have hl := look_at h.map id
  have hv := ok.at_range id
  have l0 := ok.l0
  have l1 := ok.l1
  have hmp := h.ne
  have ea : s.at id = (MP.get s.L id).getD 0 := rfl
  rw [← ea] at hl
  have Ea : Kept (s.at id = s.at id) := ⟨rfl⟩
  generalize hg : s.at id = v at hl hv Ea
  have Hg := Kept.mk hg
  clear hg ea Ea h
  by_cases h1 : id < 1
  · have e : Kept (s.take id n = (1, s)) := ⟨by
      have : Hd.argOk id n = false := by rw [Bool.eq_false_iff, ne_eq, Hd.argOk_iff]; omega
      unfold Hd.take; rw [this, if_neg (by simp)]⟩
    go_enter Try.func16, Try.ntmps16
    go_wp2
    go_ret
    exact hdTo_same H.out 1 e.out
  by_cases h2 : 999 < id
  · have e : Kept (s.take id n = (1, s)) := ⟨by
      have : Hd.argOk id n = false := by rw [Bool.eq_false_iff, ne_eq, Hd.argOk_iff]; omega
      unfold Hd.take; rw [this, if_neg (by simp)]⟩
    go_enter Try.func16, Try.ntmps16
    go_wp2
    go_ret
    exact hdTo_same H.out 1 e.out
  by_cases h3 : n = 0
  · subst h3
    have e : Kept (s.take id 0 = (1, s)) := ⟨by
      have : Hd.argOk id 0 = false := by rw [Bool.eq_false_iff, ne_eq, Hd.argOk_iff]; omega
      unfold Hd.take; rw [this, if_neg (by simp)]⟩
    go_enter Try.func16, Try.ntmps16
    go_wp2
    go_ret
    exact hdTo_same H.out 1 e.out
  have hn0 : (n == 0) = false := by simpa using h3
  cases hm : mayB n with
  | false =>
    have Hm := Kept.mk hm
    have e : Kept (s.take id n = (1, s)) := ⟨by
      have : Hd.argOk id n = false := by simp [Hd.argOk, hm]
      unfold Hd.take; rw [this, if_neg (by simp)]⟩
    clear hm h3
    go_enter Try.func16, Try.ntmps16
    go_wp2_with fail
    refine (may_to n false _ Hm.out).mono ?_
    rintro e _ ⟨rfl, rfl⟩
    go_wp2_with fail
    go_ret
    exact hdTo_same H.out 1 e.out
  | true =>
    have Hm := Kept.mk hm
    have hr := (mayB_iff n).1 hm
    obtain ⟨n0, n1⟩ := hr
    have ha : Hd.argOk id n = true := by
      rw [Hd.argOk_iff]; exact ⟨by omega, by omega, h3, n0, n1⟩
    clear hm h3
    by_cases h4 : 0 < v
    · have e : Kept (s.take id n = (8, s)) := ⟨by
        unfold Hd.take; rw [if_pos ha, Hg.out, if_pos h4]⟩
      clear ha
      go_enter Try.func16, Try.ntmps16
      go_wp2_with fail
      refine (may_to n true _ Hm.out).mono ?_
      rintro e _ ⟨rfl, rfl⟩
      go_wp2_with fail
      go_ret
      exact hdTo_same H.out 8 e.out
    · by_cases h5 : s.l < n
      · have e : Kept (s.take id n = (9, s)) := ⟨by
          unfold Hd.take; rw [if_pos ha, Hg.out, if_neg h4, if_pos h5]⟩
        have hs : Kept (subV s.l n = (0, 9)) := ⟨by
          unfold subV; rw [if_pos ((bothB_iff _ _).2 ⟨⟨l0, l1⟩, n0, n1⟩), if_pos h5]⟩
        clear ha
        go_enter Try.func16, Try.ntmps16
        go_wp2_with fail
        refine (may_to n true _ Hm.out).mono ?_
        rintro e _ ⟨rfl, rfl⟩
        go_wp2_with fail
        refine (sub_to _ _ _ _ _ hs.out).mono ?_
        rintro e _ ⟨rfl, rfl⟩
        go_wp2_with fail
        go_ret
        exact hdTo_same H.out 9 e.out
      · have e : Kept (s.take id n = (0, ⟨s.l - n, MP.put s.L id n⟩)) := ⟨by
          unfold Hd.take; rw [if_pos ha, Hg.out, if_neg h4, if_neg h5]⟩
        have hs : Kept (subV s.l n = (s.l - n, 0)) := ⟨by
          unfold subV; rw [if_pos ((bothB_iff _ _).2 ⟨⟨l0, l1⟩, n0, n1⟩), if_neg (by omega)]⟩
        have hB := H.out.cells.set 0 (.int .i64 (s.l - n))
        have hM := H.out.map.other (p := ⟨p, 0, none⟩) hmp (.int .i64 (s.l - n))
        obtain ⟨v0, st, w1, hme, k1, s1, hst⟩ := hM.entry (P := Try.prog) Try.underlying73 Try.underlying3 (z := (0 : Int)) (zeroInt _) id
        obtain ⟨w2, hes, hM2, k2, s2⟩ := hst w1 n rfl
        have hK : Kept (HdTo w p m (s.take id n) (.returned (.int .i64 0)) w2) := ⟨by
          rw [e.out]
          refine ⟨rfl, ⟨⟨(hB.keeps k1 (fun e => hmp e.symm)).keeps k2 (fun e => hmp e.symm), hM2, hmp⟩, ?_⟩, ?_⟩
          · rw [s2, s1]; simp [World.setCell]
          · have q0 : Keeps (fun k => k = p ∨ k = m) w (w.setCell ⟨p, 0, none⟩ (.int .i64 (s.l - n))) := (Keeps.refl _ w).setCell (p := ⟨p, 0, none⟩) (.inr (.inl rfl)) _
            exact (q0.then k1 (fun _ _ h => .inr h)).then k2 (fun _ _ h => .inr h)⟩
        unfold encInt at hes
        clear ha hB hM hst hM2 k1 k2 s1 s2
        go_enter Try.func16, Try.ntmps16
        go_wp2_with fail
        refine (may_to n true _ Hm.out).mono ?_
        rintro e _ ⟨rfl, rfl⟩
        go_wp2_with fail
        refine (sub_to _ _ _ _ _ hs.out).mono ?_
        rintro e _ ⟨rfl, rfl⟩
        go_wp2_with fail
        go_ret
        exact hK.out
theorem Hd.back_ok {s : Hd} {id : Int} (h : s.Ok) (hsum : s.l + s.at id ≤ 1000000000) : (s.back id).2.Ok := by
  unfold Hd.back
  by_cases h0 : s.at id = 0
  · rw [if_pos h0]; exact h
  · rw [if_neg h0]
    have := h.at_range id
    refine ⟨by have := h.l0; simp only; omega, hsum, fun k v hk => ?_, MP.nodup_del h.nodup⟩
    rw [MP.get_del _ _ h.nodup] at hk
    by_cases hkid : k = id
    · rw [if_pos hkid] at hk; cases hk
    · rw [if_neg hkid] at hk
      exact h.vals k v hk
set_option maxRecDepth 100000 in
set_option maxHeartbeats 1000000 in
theorem back_any (p m : Nat) (s : Hd) (id : Int) (w : World) (h : HdAt w p m s) (ok : s.Ok) : Calls Try.prog 17 #[.pointer (some ⟨p, 0, none⟩), .int .i64 id] w (HdTo w p m (s.back id)) := by
  have H := Kept.mk h
  have c0 := h.cells.cell 0 rfl
  have c1 := h.cells.cell 1 rfl
  have f0 := h.cells.frozen 0
  have hl := look_at h.map id
  have hv := ok.at_range id
  have l0 := ok.l0
  have l1 := ok.l1
  have hmp := h.ne
  have ea : s.at id = (MP.get s.L id).getD 0 := rfl
  rw [← ea] at hl
  clear ea
  generalize hg : s.at id = v at hl hv
  have Hg := Kept.mk hg
  clear hg h
  by_cases h0 : v = 0
  · subst h0
    have e : Kept (s.back id = (6, s)) := ⟨by unfold Hd.back; rw [if_pos Hg.out]⟩
    go_enter Try.func17, Try.ntmps17
    go_wp2
    go_ret
    exact hdTo_same H.out 6 e.out
  · have e : Kept (s.back id = (0, ⟨s.l + v, MP.del s.L id⟩)) := ⟨by unfold Hd.back; rw [Hg.out, if_neg h0]⟩
    have hv0 : (v == 0) = false := by simpa using h0
    clear h0
    have hB := (H.out.cells.set 0 (.int .i64 (s.l + v))).drew
    have hM := (H.out.map.other (p := ⟨p, 0, none⟩) hmp (.int .i64 (s.l + v))).drew
    obtain ⟨w1, hd, hM1, k1, s1⟩ := hM.drop (P := Try.prog) Try.underlying73 Try.underlying3 id
    have hK : Kept (HdTo w p m (s.back id) (.returned (.int .i64 0)) w1) := ⟨by
      rw [e.out]
      refine ⟨rfl, ⟨⟨hB.keeps k1 (fun e => hmp e.symm), hM1, hmp⟩, ?_⟩, ?_⟩
      · rw [s1]; simp [World.setCell, World.drew]
      · have q0 : Keeps (fun k => k = p ∨ k = m) w (w.setCell ⟨p, 0, none⟩ (.int .i64 (s.l + v))).drew := ((Keeps.refl _ w).setCell (p := ⟨p, 0, none⟩) (.inr (.inl rfl)) _).drew
        exact q0.then k1 (fun _ _ h => .inr h)⟩
    have hl1 : (Instr.lookup 73 (.map (some m)) (.int .i64 id) false).run Try.prog w.drew = .ok (.int .i64 v) w.drew := by
      have := look_at H.out.map.drew id
      rw [show (MP.get s.L id).getD 0 = v from Hg.out] at this
      exact this
    have cc1 : (w.setCell ⟨p, 0, none⟩ (.int .i64 (s.l + v))).drew.cell? ⟨p, 1, none⟩ = some (.map (some m)) := hB.cell 1 rfl
    clear hB hM hM1 k1 s1
    go_enter Try.func17, Try.ntmps17
    go_wp2
    go_region
    go_wp2
    go_ret
    exact hK.out
end Go.Proofs.Ytofabbigngmboaa
