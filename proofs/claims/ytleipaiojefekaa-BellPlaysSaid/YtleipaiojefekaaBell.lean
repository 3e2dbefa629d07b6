/- Package bell, walked: New, has, Hang, Cut, Ring and Again answer as the plain 'Tw' does, and turn their own two blocks alone. No condition but that a tower lies there whose numbers are in range. -/
import Derived.Test.YtleipaiojefekaaIntMap
namespace Go.Proofs.Ytleipaiojefekaa
open Go.RowKit
/-- A tower: how many tries, and how many each bell has left. -/
structure Tw where
  n : Int
  L : List (Int × Int)
structure Tw.Ok (s : Tw) : Prop where
  n0 : 1 ≤ s.n
  n1 : s.n ≤ 20
  vals : ∀ x v, MP.get s.L x = some v → 0 ≤ v ∧ v ≤ 20
  nodup : (MP.keys s.L).Nodup
def Tw.hang (s : Tw) (id : Int) : Bool × Tw := if 1 ≤ id ∧ id ≤ 999 ∧ MP.get s.L id = none then (true, ⟨s.n, MP.put s.L id s.n⟩) else (false, s)
def Tw.cut (s : Tw) (id : Int) : Bool × Tw := if MP.get s.L id = none then (false, s) else (true, ⟨s.n, MP.del s.L id⟩)
def Tw.again (s : Tw) (id : Int) : Bool × Tw := if MP.get s.L id = none then (false, s) else (true, ⟨s.n, MP.put s.L id s.n⟩)
def Tw.ring (s : Tw) (id : Int) : (Bool × Bool) × Tw := match MP.get s.L id with
  | none => ((false, false), s)
  | some v => if v = 0 then ((true, true), s) else ((true, false), ⟨s.n, MP.put s.L id (v - 1)⟩)
def Tw.new (n : Int) : Tw := ⟨max 1 (min n 20), []⟩
theorem Tw.new_ok (n : Int) : (Tw.new n).Ok := ⟨by simp only [Tw.new]; omega, by simp only [Tw.new]; omega, fun x v h => by simp [Tw.new, MP.get_nil] at h, by simp [Tw.new, MP.keys]⟩
theorem Tw.put_ok {s : Tw} (h : s.Ok) (id v : Int) (h0 : 0 ≤ v) (h1 : v ≤ 20) : (Tw.mk s.n (MP.put s.L id v)).Ok := ⟨h.n0, h.n1, fun x u hx => by
  simp only [MP.get_put] at hx
  by_cases e : x = id
  · rw [if_pos e] at hx; cases hx; exact ⟨h0, h1⟩
  · rw [if_neg e] at hx; exact h.vals x u hx, MP.nodup_put h.nodup⟩
theorem Tw.del_ok {s : Tw} (h : s.Ok) (id : Int) : (Tw.mk s.n (MP.del s.L id)).Ok := ⟨h.n0, h.n1, fun x u hx => by
  simp only [MP.get_del _ _ h.nodup] at hx
  by_cases e : x = id
  · rw [if_pos e] at hx; cases hx
  · rw [if_neg e] at hx; exact h.vals x u hx, MP.nodup_del h.nodup⟩
theorem Tw.hang_ok {s : Tw} (h : s.Ok) (id : Int) : (s.hang id).2.Ok := by
  unfold Tw.hang
  split
  · exact Tw.put_ok h id s.n (by have := h.n0; omega) h.n1
  · exact h
theorem Tw.cut_ok {s : Tw} (h : s.Ok) (id : Int) : (s.cut id).2.Ok := by
  unfold Tw.cut
  split
  · exact h
  · exact Tw.del_ok h id
theorem Tw.again_ok {s : Tw} (h : s.Ok) (id : Int) : (s.again id).2.Ok := by
  unfold Tw.again
  split
  · exact h
  · exact Tw.put_ok h id s.n (by have := h.n0; omega) h.n1
theorem Tw.ring_ok {s : Tw} (h : s.Ok) (id : Int) : (s.ring id).2.Ok := by
  unfold Tw.ring
  split
  · exact h
  · rename_i v hg
    have := h.vals id v hg
    split
    · exact h
    · exact Tw.put_ok h id (v - 1) (by omega) (by omega)
structure TwAt (w : World) (p m : Nat) (s : Tw) : Prop where
  cells : Blk w p 70 [.int .i64 s.n, .map (some m)]
  map : MapAt encInt w m s.L
  ne : m ≠ p
theorem TwAt.keeps {w w' : World} {p m : Nat} {s : Tw} (h : TwAt w p m s) {S : Nat → Prop} (k : Keeps S w w') (hp : ¬ S p) (hm : ¬ S m) : TwAt w' p m s := ⟨h.cells.keeps k hp, h.map.keeps k hm, h.ne⟩
theorem TwAt.drewN {w : World} {p m : Nat} {s : Tw} (h : TwAt w p m s) (n : Nat) : TwAt (w.drewN n) p m s := ⟨h.cells.drewN n, h.map.drewN n, h.ne⟩
theorem TwAt.alloc {w : World} {p m : Nat} {s : Tw} (h : TwAt w p m s) (o : Obj) : TwAt (w.alloc o) p m s := ⟨h.cells.alloc o, h.map.alloc o, h.ne⟩
theorem aNew_any (n : Int) (w : World) : Calls Try.prog 38 #[.int .i64 n] w (fun e w' => e = .returned (.pointer (some ⟨w.heap.size, 0, none⟩)) ∧ w' = w.alloc (.cells #[.int .i64 (max 1 (min n 20)), .int .i64 0, .int .i64 1] 78)) := by
  have fin : ∀ x : Int, max 1 (min n 20) = x → w.alloc (.cells #[.int .i64 x, .int .i64 0, .int .i64 1] 78) = w.alloc (.cells #[.int .i64 (max 1 (min n 20)), .int .i64 0, .int .i64 1] 78) := fun x hx => by rw [hx]
  have Hfin := Kept.mk fin
  clear fin
  go_enter Try.func38, Try.ntmps38
  go_wp2
  all_goals
    go_ret
    exact ⟨rfl, Hfin.out _ (by omega)⟩
theorem aLeft_any (b : Nat) (n x y : Int) (w : World) (h : Blk w b 78 [.int .i64 n, .int .i64 x, .int .i64 y]) : Calls Try.prog 39 #[.pointer (some ⟨b, 0, none⟩)] w (Says w (.int .i64 n)) := by
  have c0 := h.cell 0 rfl
  go_enter Try.func39, Try.ntmps39
  go_wp2
  go_ret
  exact ⟨rfl, rfl⟩
set_option maxHeartbeats 400000 in
theorem bellNew_any (n : Int) (w : World) : Calls Try.prog 20 #[.int .i64 n] w (Rets w (fun _ => False) (.pointer (some ⟨w.heap.size + 2, 0, none⟩)) fun w' => TwAt w' (w.heap.size + 2) (w.heap.size + 1) (Tw.new n) ∧ w'.heap.size = w.heap.size + 3) := by
  have hmm := @run_makeMap Try.prog
  obtain ⟨x, hx⟩ : ∃ x, Kept (max 1 (min n 20) = x) := ⟨_, ⟨rfl⟩⟩
  have hb := Blk.new w 78 [.int .i64 x, .int .i64 0, .int .i64 1]
  have fin : Kept (Rets w (fun _ => False) (.pointer (some ⟨w.heap.size + 2, 0, none⟩)) (fun w' => TwAt w' (w.heap.size + 2) (w.heap.size + 1) (Tw.new n) ∧ w'.heap.size = w.heap.size + 3) (.returned (.pointer (some ⟨w.heap.size + 2, 0, none⟩))) (((w.alloc (.cells #[.int .i64 x, .int .i64 0, .int .i64 1] 78)).alloc (.map #[] 0)).alloc (.cells #[.int .i64 x, .map (some (w.heap.size + 1))] 70))) := ⟨by
    have e : Tw.new n = ⟨x, []⟩ := by simp only [Tw.new, hx.out]
    rw [e]
    have hb := Blk.new ((w.alloc (.cells #[.int .i64 x, .int .i64 0, .int .i64 1] 78)).alloc (.map #[] 0)) 70 [.int .i64 x, .map (some (w.heap.size + 1))]
    have hm := (MapAt.new encInt (w.alloc (.cells #[.int .i64 x, .int .i64 0, .int .i64 1] 78))).alloc (.cells #[.int .i64 x, .map (some (w.heap.size + 1))] 70)
    rw [World.size_alloc, World.size_alloc] at hb
    rw [World.size_alloc] at hm
    exact ⟨rfl, ⟨⟨hb, hm, by omega⟩, by simp⟩, (((Keeps.refl _ w).alloc _).alloc _).alloc _⟩⟩
  have Hb := Kept.mk hb
  clear hb
  go_enter Try.func20, Try.ntmps20
  go_wp2_with fail
  refine (aNew_any n w).mono ?_
  rintro e w1 ⟨rfl, rfl⟩
  rw [hx.out]
  go_wp2_with fail
  refine (aLeft_any _ x 0 1 _ Hb.out).mono ?_
  rintro e _ ⟨rfl, rfl⟩
  go_wp2_with fail
  go_ret
  exact fin.out
theorem has_nil (id : Int) (w : World) : Calls Try.prog 40 #[.pointer none, .int .i64 id] w (Says w (.bool false)) := by
  go_enter Try.func40, Try.ntmps40
  go_wp2
  go_ret
  exact ⟨rfl, rfl⟩
theorem has_any (p m : Nat) (s : Tw) (id : Int) (r : Bool) (w : World) (h : TwAt w p m s) (hr : (MP.get s.L id).isSome = r) : Calls Try.prog 40 #[.pointer (some ⟨p, 0, none⟩), .int .i64 id] w (Says w (.bool r)) := by
  have c1 := h.cells.cell 1 rfl
  have hl := look_ok h.map id
  rw [hr] at hl
  clear hr
  go_enter Try.func40, Try.ntmps40
  go_wp2
  go_ret
  exact ⟨rfl, rfl⟩
def TwTo (w : World) (p m : Nat) (v : Value) (s : Tw) : Ending → World → Prop := Rets w (fun k => k = p ∨ k = m) v fun w' => TwAt w' p m s ∧ w'.heap.size = w.heap.size
theorem twTo_same {w : World} {p m : Nat} {s : Tw} (h : TwAt w p m s) (v : Value) : TwTo w p m v s (.returned v) w := ⟨rfl, ⟨h, rfl⟩, Keeps.refl _ _⟩
/-- Behind a store into the tower's map. -/
theorem TwAt.put {w w0 : World} {p m : Nat} {s : Tw} (h : TwAt w p m s) (k0 : Keeps (fun k => k = p ∨ k = m) w0 w) (z0 : w.heap.size = w0.heap.size) (id v : Int) : ∃ (w2 : World), (Instr.mapUpdate 40 (.map (some m)) (.int .i64 id) (.int .i64 v)).run Try.prog w = .ok () w2 ∧ ∀ u, TwTo w0 p m u ⟨s.n, MP.put s.L id v⟩ (.returned u) w2 := by
  have hmp := h.ne
  obtain ⟨w2, hme, hM2, k1, s1⟩ := h.map.update (P := Try.prog) Try.underlying40 Try.underlying3 id v
  exact ⟨w2, hme, fun u => ⟨rfl, ⟨⟨h.cells.keeps k1 (fun e => hmp e.symm), hM2, hmp⟩, by rw [s1, z0]⟩, k0.then k1 (fun _ _ h => .inr h)⟩⟩
theorem hang_nil (id : Int) (w : World) : Calls Try.prog 21 #[.pointer none, .int .i64 id] w (Says w (.bool false)) := by
  go_enter Try.func21, Try.ntmps21
  go_wp2
  go_ret
  exact ⟨rfl, rfl⟩
theorem cut_nil (id : Int) (w : World) : Calls Try.prog 24 #[.pointer none, .int .i64 id] w (Says w (.bool false)) := by
  go_enter Try.func24, Try.ntmps24
  go_wp2_with fail
  refine (has_nil id w).mono ?_
  rintro e _ ⟨rfl, rfl⟩
  go_wp2_with fail
  go_ret
  exact ⟨rfl, rfl⟩
theorem again_nil (id : Int) (w : World) : Calls Try.prog 23 #[.pointer none, .int .i64 id] w (Says w (.bool false)) := by
  go_enter Try.func23, Try.ntmps23
  go_wp2_with fail
  refine (has_nil id w).mono ?_
  rintro e _ ⟨rfl, rfl⟩
  go_wp2_with fail
  go_ret
  exact ⟨rfl, rfl⟩
theorem ring_nil (id : Int) (w : World) : Calls Try.prog 22 #[.pointer none, .int .i64 id] w (Says w (.tuple #[.bool false, .bool false])) := by
  go_enter Try.func22, Try.ntmps22
  go_wp2_with fail
  refine (has_nil id w).mono ?_
  rintro e _ ⟨rfl, rfl⟩
  go_wp2_with fail
  go_ret2
  exact ⟨rfl, rfl⟩
set_option maxRecDepth 100000 in
set_option maxHeartbeats 1000000 in
theorem hang_to (p m : Nat) (s s' : Tw) (id : Int) (r : Bool) (w : World) (h : TwAt w p m s) (hr : s.hang id = (r, s')) : Calls Try.prog 21 #[.pointer (some ⟨p, 0, none⟩), .int .i64 id] w (TwTo w p m (.bool r) s') := by
  have H := Kept.mk h
  by_cases h1 : id < 1
  · have e : s.hang id = (false, s) := by unfold Tw.hang; rw [if_neg (by omega)]
    rw [e] at hr; cases hr
    clear e
    go_enter Try.func21, Try.ntmps21
    go_wp2_with fail
    go_ret
    exact twTo_same H.out _
  by_cases h2 : 999 < id
  · have e : s.hang id = (false, s) := by unfold Tw.hang; rw [if_neg (by omega)]
    rw [e] at hr; cases hr
    clear e
    go_enter Try.func21, Try.ntmps21
    go_wp2_with fail
    go_ret
    exact twTo_same H.out _
  cases hg : MP.get s.L id with
  | some v =>
    have e : s.hang id = (false, s) := by unfold Tw.hang; rw [if_neg (by rw [hg]; simp)]
    rw [e] at hr; cases hr
    have hi : Kept ((MP.get s.L id).isSome = true) := ⟨by rw [hg]; rfl⟩
    clear e hg
    go_enter Try.func21, Try.ntmps21
    go_wp2_with fail
    refine (has_any _ _ s id true _ H.out hi.out).mono ?_
    rintro e _ ⟨rfl, rfl⟩
    go_wp2_with fail
    go_ret
    exact twTo_same H.out _
  | none =>
    have e : s.hang id = (true, ⟨s.n, MP.put s.L id s.n⟩) := by unfold Tw.hang; rw [if_pos ⟨by omega, by omega, hg⟩]
    rw [e] at hr; cases hr
    have hi : Kept ((MP.get s.L id).isSome = false) := ⟨by rw [hg]; rfl⟩
    obtain ⟨w2, hme, hfin⟩ := (h.drewN 1).put (w0 := w) ((Keeps.refl _ w).drewN 1) rfl id s.n
    have Hfin := Kept.mk (hfin (.bool true))
    have c0 := h.cells.cell 0 rfl
    have c1 := h.cells.cell 1 rfl
    change (Instr.mapUpdate 40 (.map (some m)) (.int .i64 id) (.int .i64 s.n)).run Try.prog w.drew = _ at hme
    clear e hg hfin h
    go_enter Try.func21, Try.ntmps21
    go_wp2_with fail
    refine (has_any _ _ s id false _ H.out hi.out).mono ?_
    rintro e _ ⟨rfl, rfl⟩
    go_wp2_with fail
    go_region
    go_wp2_with fail
    go_ret
    exact Hfin.out
set_option maxRecDepth 100000 in
set_option maxHeartbeats 1000000 in
theorem again_to (p m : Nat) (s s' : Tw) (id : Int) (r : Bool) (w : World) (h : TwAt w p m s) (hr : s.again id = (r, s')) : Calls Try.prog 23 #[.pointer (some ⟨p, 0, none⟩), .int .i64 id] w (TwTo w p m (.bool r) s') := by
  have H := Kept.mk h
  cases hg : MP.get s.L id with
  | none =>
    have e : s.again id = (false, s) := by unfold Tw.again; rw [if_pos hg]
    rw [e] at hr; cases hr
    have hi : Kept ((MP.get s.L id).isSome = false) := ⟨by rw [hg]; rfl⟩
    clear e hg
    go_enter Try.func23, Try.ntmps23
    go_wp2_with fail
    refine (has_any _ _ s id false _ H.out hi.out).mono ?_
    rintro e _ ⟨rfl, rfl⟩
    go_wp2_with fail
    go_ret
    exact twTo_same H.out _
  | some v =>
    have e : s.again id = (true, ⟨s.n, MP.put s.L id s.n⟩) := by unfold Tw.again; rw [if_neg (by rw [hg]; simp)]
    rw [e] at hr; cases hr
    have hi : Kept ((MP.get s.L id).isSome = true) := ⟨by rw [hg]; rfl⟩
    obtain ⟨w2, hme, hfin⟩ := (h.drewN 1).put (w0 := w) ((Keeps.refl _ w).drewN 1) rfl id s.n
    have Hfin := Kept.mk (hfin (.bool true))
    have c0 := h.cells.cell 0 rfl
    have c1 := h.cells.cell 1 rfl
    change (Instr.mapUpdate 40 (.map (some m)) (.int .i64 id) (.int .i64 s.n)).run Try.prog w.drew = _ at hme
    clear e hg hfin h
    go_enter Try.func23, Try.ntmps23
    go_wp2_with fail
    refine (has_any _ _ s id true _ H.out hi.out).mono ?_
    rintro e _ ⟨rfl, rfl⟩
    go_wp2_with fail
    go_region
    go_wp2_with fail
    go_ret
    exact Hfin.out
set_option maxRecDepth 100000 in
set_option maxHeartbeats 1000000 in
theorem cut_to (p m : Nat) (s s' : Tw) (id : Int) (r : Bool) (w : World) (h : TwAt w p m s) (hr : s.cut id = (r, s')) : Calls Try.prog 24 #[.pointer (some ⟨p, 0, none⟩), .int .i64 id] w (TwTo w p m (.bool r) s') := by
  have H := Kept.mk h
  cases hg : MP.get s.L id with
  | none =>
    have e : s.cut id = (false, s) := by unfold Tw.cut; rw [if_pos hg]
    rw [e] at hr; cases hr
    have hi : Kept ((MP.get s.L id).isSome = false) := ⟨by rw [hg]; rfl⟩
    clear e hg
    go_enter Try.func24, Try.ntmps24
    go_wp2_with fail
    refine (has_any _ _ s id false _ H.out hi.out).mono ?_
    rintro e _ ⟨rfl, rfl⟩
    go_wp2_with fail
    go_ret
    exact twTo_same H.out _
  | some v =>
    have e : s.cut id = (true, ⟨s.n, MP.del s.L id⟩) := by unfold Tw.cut; rw [if_neg (by rw [hg]; simp)]
    rw [e] at hr; cases hr
    have hi : Kept ((MP.get s.L id).isSome = true) := ⟨by rw [hg]; rfl⟩
    have hmp := h.ne
    obtain ⟨w1, hd, hM1, k1, s1⟩ := h.map.drop (P := Try.prog) Try.underlying40 Try.underlying3 id
    have Hfin : Kept (TwTo w p m (.bool true) ⟨s.n, MP.del s.L id⟩ (.returned (.bool true)) w1) := ⟨⟨rfl, ⟨⟨h.cells.keeps k1 (fun e => hmp e.symm), hM1, hmp⟩, s1⟩, k1.mono (fun _ _ h => .inr h)⟩⟩
    have c1 := h.cells.cell 1 rfl
    clear e hg h hM1 k1 s1
    go_enter Try.func24, Try.ntmps24
    go_wp2_with fail
    refine (has_any _ _ s id true _ H.out hi.out).mono ?_
    rintro e _ ⟨rfl, rfl⟩
    go_wp2_with fail
    go_ret
    exact Hfin.out
set_option maxRecDepth 100000 in
set_option maxHeartbeats 1000000 in
theorem ring_to (p m : Nat) (s s' : Tw) (id : Int) (r q : Bool) (w : World) (h : TwAt w p m s) (ok : s.Ok) (hr : s.ring id = ((r, q), s')) : Calls Try.prog 22 #[.pointer (some ⟨p, 0, none⟩), .int .i64 id] w (TwTo w p m (.tuple #[.bool r, .bool q]) s') := by
  have H := Kept.mk h
  have c1 := h.cells.cell 1 rfl
  have hl := look_at h.map id
  cases hg : MP.get s.L id with
  | none =>
    have e : s.ring id = ((false, false), s) := by unfold Tw.ring; rw [hg]
    rw [e] at hr; cases hr
    have hi : Kept ((MP.get s.L id).isSome = false) := ⟨by rw [hg]; rfl⟩
    clear e hg
    go_enter Try.func22, Try.ntmps22
    go_wp2_with fail
    refine (has_any _ _ s id false _ H.out hi.out).mono ?_
    rintro e _ ⟨rfl, rfl⟩
    go_wp2_with fail
    go_ret2
    exact twTo_same H.out _
  | some v =>
    have hv := ok.vals id v hg
    rw [hg, Option.getD_some] at hl
    have hi : Kept ((MP.get s.L id).isSome = true) := ⟨by rw [hg]; rfl⟩
    by_cases h0 : v = 0
    · have e : s.ring id = ((true, true), s) := by unfold Tw.ring; rw [hg]; simp only; rw [if_pos h0]
      rw [e] at hr; cases hr
      subst h0
      clear e hg
      go_enter Try.func22, Try.ntmps22
      go_wp2_with fail
      refine (has_any _ _ s id true _ H.out hi.out).mono ?_
      rintro e _ ⟨rfl, rfl⟩
      go_wp2_with fail
      go_ret2
      exact twTo_same H.out _
    · have e : s.ring id = ((true, false), ⟨s.n, MP.put s.L id (v - 1)⟩) := by unfold Tw.ring; rw [hg]; simp only; rw [if_neg h0]
      rw [e] at hr; cases hr
      have hv0 : (v == 0) = false := by simpa using h0
      obtain ⟨w2, hme, hfin⟩ := h.put (w0 := w) (Keeps.refl _ w) rfl id (v - 1)
      have Hfin := Kept.mk (hfin (.tuple #[.bool true, .bool false]))
      clear e hg hfin h h0
      go_enter Try.func22, Try.ntmps22
      go_wp2_with fail
      refine (has_any _ _ s id true _ H.out hi.out).mono ?_
      rintro e _ ⟨rfl, rfl⟩
      go_wp2_with fail
      go_ret2
      exact Hfin.out
end Go.Proofs.Ytleipaiojefekaa
