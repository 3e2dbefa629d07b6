/- A range over a map keyed by ints that is not turned while it runs: each pair comes once, in whatever order. Nothing here speaks of the program. -/
import Derived.Test.YtofabbigngmboaaMap
import Derived.Maps.Range
namespace Go.Proofs.Ytofabbigngmboaa
open Go.RowKit Go.MapKept
section
variable {α : Type} {enc : α → Value} {P : Program} {w : World} {b r : Nat} {L todo : List (Int × α)}
/-- Block r is an iterator over the map at block b; the pairs of 'todo' are still to come. -/
def RangeAt (enc : α → Value) (w : World) (r b : Nat) (L todo : List (Int × α)) : Prop :=
  ∃ es clk seen, w.heap[b]? = some (.map es clk) ∧ MapOk enc es clk L ∧ w.heap[r]? = some (.mapIter (some b) clk seen clk) ∧ RowsAre enc (leftOf es seen).toList todo
theorem RangeAt.left_eq (h : RangeAt enc w r b L todo) : w.rangeLeft b r = todo.length := by
  obtain ⟨es, clk, seen, hb, hm, hr, hx⟩ := h
  simp only [World.rangeLeft, hb, hr]
  have := congrArg List.length hx
  simpa using this
theorem RangeAt.map (h : RangeAt enc w r b L todo) : MapAt enc w b L := by
  obtain ⟨es, clk, seen, hb, hm, _, _⟩ := h
  exact ⟨es, clk, hb, hm⟩
theorem RangeAt.lt (h : RangeAt enc w r b L todo) : r < w.heap.size ∧ b < w.heap.size := by
  obtain ⟨es, clk, seen, hb, hm, hr, _⟩ := h
  exact ⟨(Array.getElem?_eq_some_iff.1 hr).1, (Array.getElem?_eq_some_iff.1 hb).1⟩
theorem RangeAt.keeps {w' : World} {S : Nat → Prop} (h : RangeAt enc w r b L todo) (k : Keeps S w w') (hr : ¬ S r) (hb : ¬ S b) : RangeAt enc w' r b L todo := by
  have hl := h.lt
  obtain ⟨es, clk, seen, h1, hm, h2, hx⟩ := h
  exact ⟨es, clk, seen, (k.block b hl.2 hb).trans h1, hm, (k.block r hl.1 hr).trans h2, hx⟩
theorem RangeAt.alloc (h : RangeAt enc w r b L todo) (o : Obj) : RangeAt enc (w.alloc o) r b L todo := h.keeps ((Keeps.refl (fun _ => False) w).alloc o) (fun h => h) (fun h => h)
theorem MapAt.range {t k e : TypeId} (h : MapAt enc w b L) (ht : P.underlying t = some (.map k e)) :
    ∃ o, (Instr.range t (.map (some b))).run P w = .ok (.pointer (some ⟨w.heap.size, 0, none⟩)) (w.alloc o) ∧ RangeAt enc (w.alloc o) w.heap.size b L L := by
  have hl := h.lt
  obtain ⟨es, clk, hb, hm⟩ := h
  refine ⟨_, run_range_map w t k e b es clk ht hb, es, clk, #[], (Below.heap_alloc _ _ _ hl).trans hb, hm, (MapKept.heap_alloc w _).1, ?_⟩
  have : leftOf es #[] = es := by unfold leftOf; simp
  rw [this]
  exact hm.rows
theorem filter_out {l : List MapEntry} (hn : (l.map (·.born)).Nodup) {x : MapEntry} (hx : x ∈ l) : ∃ p q, l = p ++ x :: q ∧ l.filter (fun y => !(y.born == x.born)) = p ++ q := by
  induction l with
  | nil => simp at hx
  | cons y r ih =>
    simp only [List.map_cons, List.nodup_cons] at hn
    rcases List.mem_cons.1 hx with e | h
    · subst e
      refine ⟨[], r, rfl, ?_⟩
      rw [List.filter_cons]
      simp only [beq_self_eq_true, Bool.not_true, Bool.false_eq_true, if_false, List.nil_append]
      rw [List.filter_eq_self]
      intro z hz
      have : z.born ≠ x.born := fun e => hn.1 (by rw [← e]; exact List.mem_map_of_mem hz)
      simpa using this
    · obtain ⟨p, q, e1, e2⟩ := ih hn.2 h
      have hne : y.born ≠ x.born := fun e => hn.1 (by rw [e]; exact List.mem_map_of_mem h)
      refine ⟨y :: p, q, by rw [e1]; rfl, ?_⟩
      rw [List.filter_cons, if_pos (by simpa using hne), e2]
      rfl
theorem left_push (es : Array MapEntry) (seen : Array Nat) (x : Nat) : (leftOf es (seen.push x)).toList = (leftOf es seen).toList.filter (fun y => !(y.born == x)) := by
  unfold leftOf
  simp only [Array.toList_filter, List.filter_filter]
  apply List.filter_congr
  intro y _
  rw [Bool.eq_iff_iff]
  simp only [Array.contains_eq_mem, Array.mem_push, Bool.not_eq_true', decide_eq_false_iff_not, not_or, Bool.and_eq_true, beq_eq_false_iff_ne]
  exact And.comm
theorem rows_split {l : List MapEntry} {todo : List (Int × α)} (h : RowsAre enc l todo) {p q : List MapEntry} {x : MapEntry} (e : l = p ++ x :: q) : ∃ p' y q', todo = p' ++ y :: q' ∧ RowsAre enc (p ++ q) (p' ++ q') ∧ x.key = .int .i64 y.1 ∧ x.val = enc y.2 := by
  subst e
  unfold RowsAre at h
  rw [List.map_append, List.map_cons] at h
  obtain ⟨p', r', rfl, hp, hr⟩ := List.append_eq_map_iff.1 h
  obtain ⟨y, q', rfl, hy, hq⟩ := List.map_eq_cons_iff.1 hr
  simp only [Prod.mk.injEq] at hy
  refine ⟨p', y, q', rfl, ?_, hy.1.symm, hy.2.symm⟩
  unfold RowsAre
  rw [List.map_append, List.map_append, hp, hq]
theorem keeps_setBlock {o : Obj} (hr : ∃ o', w.heap[r]? = some o') : Keeps (· = r) w (Go.ChangeMaps.setBlock w r o) := by
  obtain ⟨o', h⟩ := hr
  exact keeps_set h
theorem RangeAt.next (h : RangeAt enc w r b L todo) (ty : TypeId) (hne : r ≠ b) :
    (todo = [] ∧ (Instr.next (.pointer (some ⟨r, 0, none⟩)) false ty).run P w = .ok (.tuple #[.bool false]) w) ∨
    ∃ p x v q w2, todo = p ++ (x, v) :: q ∧ (Instr.next (.pointer (some ⟨r, 0, none⟩)) false ty).run P w = .ok (.tuple #[.bool true, .int .i64 x, enc v]) w2 ∧
      (Instr.entry (.pointer (some ⟨r, 0, none⟩))).run P w2 = .ok (.tuple #[.int .i64 x, enc v]) w2 ∧ RangeAt enc w2 r b L (p ++ q) ∧ Keeps (· = r) w w2 ∧ w2.heap.size = w.heap.size := by
  obtain ⟨es, clk, seen, hb, hm, hr, hx⟩ := h
  rcases run_next_at (P := P) w ty r b clk clk seen es clk hr hb hm.lt (Nat.le_refl _) with ⟨h0, hrun⟩ | ⟨e, he, w1, hw1, hrun⟩
  · left
    refine ⟨?_, hrun⟩
    have : (leftOf es seen).toList = [] := by rw [← List.length_eq_zero_iff]; simpa using h0
    unfold RowsAre at hx
    rw [this] at hx
    simpa using hx.symm
  · right
    have hsub : (leftOf es seen).toList.Sublist es.toList := by unfold leftOf; rw [Array.toList_filter]; exact List.filter_sublist
    have hn : ((leftOf es seen).toList.map (·.born)).Nodup := (hsub.map _).nodup hm.born
    obtain ⟨p, q, e1, e2⟩ := filter_out hn he
    obtain ⟨p', y, q', rfl, hrows, hk, hv⟩ := rows_split hx e1
    have hb1 : w1.heap[b]? = some (.map es clk) := by rcases hw1 with rfl | rfl <;> exact hb
    have hr1 : w1.heap[r]? = some (.mapIter (some b) clk seen clk) := by rcases hw1 with rfl | rfl <;> exact hr
    have hK : Keeps (· = r) w w1 := by
      rcases hw1 with e | e
      · rw [e]; exact Keeps.refl _ _
      · rw [e]; exact (Keeps.refl _ w).drew
    have hz : w1.heap.size = w.heap.size := by rcases hw1 with rfl | rfl <;> rfl
    have hset := MapKept.heap_set (o' := .mapIter (some b) clk (seen.push e.born) clk) hr1
    have hb2 : (Go.ChangeMaps.setBlock w1 r (.mapIter (some b) clk (seen.push e.born) clk)).heap[b]? = some (.map es clk) := (hset.2 b (fun h => hne h.symm)).trans hb1
    have hr2 : (Go.ChangeMaps.setBlock w1 r (.mapIter (some b) clk (seen.push e.born) clk)).heap[r]? = some (.mapIter (some b) clk (seen.push e.born) clk) := hset.1
    have hent := run_entry_at (P := P) _ r b clk seen es clk e hr2 hb2 (hsub.subset he) hm.born
    rw [hk, hv] at hrun hent
    refine ⟨p', y.1, y.2, q', _, rfl, hrun, hent, ⟨es, clk, seen.push e.born, hb2, hm, hr2, ?_⟩, hK.trans (keeps_setBlock ⟨_, hr1⟩), ?_⟩
    · rw [left_push, e2]; exact hrows
    · rw [← hz]; simp [Go.ChangeMaps.setBlock]
end
end Go.Proofs.Ytofabbigngmboaa
