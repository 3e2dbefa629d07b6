/- How often each message is in a row; a map that tells it; the post beside it. -/
import Derived.Test.YtkacnogjifhcoaaMsKey
import Derived.Test.YtkacnogjifhcoaaDouble
namespace Go.Proofs.Ytkacnogjifhcoaa
open Go.RowKit
def encInt (x : Int) : Value := .int .i64 x
theorem zeroInt (w : World) : (zeroValue 3).run Try.prog w = .ok (.int .i64 0) w := by kernel_rfl
/-- The map tells how often each message is in the row. -/
def Cnt (M : List (Ms × Int)) (L : List Ms) : Prop := ∀ x, (MP.get M x).getD 0 = (L.count x : Int)
theorem Cnt.nil : Cnt [] [] := fun x => by simp [MP.get_nil]
theorem Cnt.more {M : List (Ms × Int)} {L : List Ms} (h : Cnt M L) (m : Ms) : Cnt (MP.put M m ((L.count m : Int) + 1)) (L ++ [m]) := by
  intro x
  rw [MP.get_put, List.count_append]
  by_cases hx : x = m
  · subst hx
    simp
  · rw [if_neg hx, h x]
    have : List.count x [m] = 0 := List.count_eq_zero.2 (by simpa using hx)
    rw [this]
    simp
theorem Cnt.less {M : List (Ms × Int)} {L : List Ms} (h : Cnt M L) {k : Nat} {m : Ms} (hk : L[k]? = some m) : Cnt (MP.put M m ((L.count m : Int) - 1)) (L.eraseIdx k) := by
  have e : L = L.take k ++ m :: L.drop (k + 1) := by
    have hlt := (List.getElem?_eq_some_iff.1 hk).1
    have h2 := (List.getElem?_eq_some_iff.1 hk).2
    rw [← h2, ← List.drop_eq_getElem_cons hlt, List.take_append_drop]
  have e2 : L.eraseIdx k = L.take k ++ L.drop (k + 1) := List.eraseIdx_eq_take_drop_succ ..
  have hc : ∀ x, L.count x = (L.eraseIdx k).count x + (if m = x then 1 else 0) := by
    intro x
    rw [e2]
    conv => lhs; rw [e]
    rw [List.count_append, List.count_append, List.count_cons]
    simp only [beq_iff_eq]
    omega
  intro x
  rw [MP.get_put]
  by_cases hx : x = m
  · subst hx
    rw [if_pos rfl]
    have := hc x
    rw [if_pos rfl] at this
    simp only [Option.getD_some]
    omega
  · rw [if_neg hx, h x]
    have := hc x
    rw [if_neg (fun e => hx e.symm)] at this
    omega
theorem Cnt.has {M : List (Ms × Int)} {L : List Ms} (h : Cnt M L) {k : Nat} {m : Ms} (hk : L[k]? = some m) : 1 ≤ (MP.get M m).getD 0 := by
  rw [h m]
  have := List.count_pos_iff.2 (List.mem_of_getElem? hk)
  omega
theorem get_of_mem : ∀ {M : List (Ms × Int)} {x : Ms} {v : Int}, (MP.keys M).Nodup → (x, v) ∈ M → MP.get M x = some v
  | (y, u) :: r, x, v, hn, h => by
    rw [MP.get_cons]
    simp only [MP.keys, List.map_cons, List.nodup_cons] at hn
    rcases List.mem_cons.1 h with e | h
    · cases e; rw [if_pos rfl]
    · rw [if_neg (fun e => hn.1 (by rw [← e]; exact List.mem_map.2 ⟨_, h, rfl⟩))]
      exact get_of_mem hn.2 h
theorem Cnt.none {M : List (Ms × Int)} (h : Cnt M []) (hn : (MP.keys M).Nodup) : ∀ q ∈ M, q.2 = 0 := fun q hq => by
  have h1 := get_of_mem (x := q.1) (v := q.2) hn hq
  have h2 := h q.1
  rw [h1] at h2
  simpa using h2
theorem look_ms {w : World} {mb : Nat} {M : List (Ms × Int)} (h : MapAt ekMs encInt w mb M) (m : Ms) : (Instr.lookup 53 (.map (some mb)) (ekMs m) false).run Try.prog w = .ok (.int .i64 ((MP.get M m).getD 0)) w := by
  have := h.look (P := Try.prog) Try.underlying53 keyMs (zeroInt w) m false
  rw [this]
  congr 1
  cases MP.get M m <;> rfl
/-- 'm[x]++' and its like: the look (ahead of the entry or behind it), the entry, the store. -/
theorem inc_at {w : World} {mb : Nat} {M : List (Ms × Int)} (h : MapAt ekMs encInt w mb M) (m : Ms) (d : Int) : ∃ (v0 : Value) (st : Nat) (w1 w2 : World),
    (Instr.lookup 53 (.map (some mb)) (ekMs m) false).run Try.prog w = .ok (.int .i64 ((MP.get M m).getD 0)) w ∧
    (Instr.lookup 53 (.map (some mb)) (ekMs m) false).run Try.prog w1 = .ok (.int .i64 ((MP.get M m).getD 0)) w1 ∧
    (Instr.mapEntry 53 (.map (some mb)) (ekMs m)).run Try.prog w = .ok (.tuple #[v0, .int .i64 st]) w1 ∧
    (Instr.entryStore 53 (.map (some mb)) (.int .i64 st) (.int .i64 d)).run Try.prog w1 = .ok () w2 ∧
    MapAt ekMs encInt w2 mb (MP.put M m d) ∧ Keeps (· = mb) w w2 ∧ w2.heap.size = w.heap.size ∧ w1.heap.size = w.heap.size ∧ Keeps (· = mb) w w1 := by
  obtain ⟨v0, st, w1, hme, k1, s1, ⟨L1, hM1, hL1⟩, hst⟩ := h.entry (P := Try.prog) Try.underlying53 keyMs (z := (0 : Int)) (zeroInt _) m
  obtain ⟨w2, hes, hM2, k2, s2⟩ := hst w1 d rfl
  refine ⟨v0, st, w1, w2, look_ms h m, ?_, hme, hes, hM2, k1.trans k2, by rw [s2, s1], s1, k1⟩
  rw [look_ms hM1 m, hL1]
/-- The post holds L, the map counts Lm; both lie in new memory. -/
structure OnceAt (w wr : World) (p mb : Nat) (L Lm : List Ms) (M : List (Ms × Int)) (v : Value) : Prop where
  post : PostAt wr p p 256 0 v L
  map : MapAt ekMs encInt wr mb M
  cnt : Cnt M Lm
  ne : v.ownBlock ≠ some mb
  pm : p ≠ mb
  bp : w.heap.size ≤ p
  bm : w.heap.size ≤ mb
  below : Below w.heap.size w wr
theorem OnceAt.quiet {w wr wr' : World} {p mb : Nat} {L Lm : List Ms} {M : List (Ms × Int)} {v : Value} (h : OnceAt w wr p mb L Lm M v) (k : Keeps (fun _ => False) wr wr') : OnceAt w wr' p mb L Lm M v :=
  ⟨h.post.quiet k, h.map.keeps k (fun h => h), h.cnt, h.ne, h.pm, h.bp, h.bm, h.below.trans (k.below h.below.size (fun _ h => h.elim))⟩
theorem OnceAt.turn {w wr wr' : World} {p mb : Nat} {L Lm Lm' : List Ms} {M M' : List (Ms × Int)} {v : Value} (h : OnceAt w wr p mb L Lm M v) (hM : MapAt ekMs encInt wr' mb M') (k : Keeps (· = mb) wr wr') (hc : Cnt M' Lm') : OnceAt w wr' p mb L Lm' M' v :=
  ⟨h.post.keeps k h.pm (fun g hg e => h.ne (e ▸ hg)), hM, hc, h.ne, h.pm, h.bp, h.bm, h.below.trans (k.below h.below.size (fun i e => by have := h.bm; omega))⟩
theorem OnceAt.posts {w wr wr' : World} {p mb : Nat} {L L' Lm : List Ms} {M : List (Ms × Int)} {v v' : Value} (h : OnceAt w wr p mb L Lm M v) (hP : PostAt wr' p p 256 0 v' L') (k : Keeps (fun k => k = p ∨ v.ownBlock = some k) wr wr') (hn : NewRow wr v v') : OnceAt w wr' p mb L' Lm M v' :=
  ⟨hP, h.map.keeps k (fun e => e.elim (fun e => h.pm e.symm) (fun e => h.ne e)), h.cnt, fun e => by
    rcases hn mb e with h1 | h1
    · exact h.ne h1
    · have := h.map.lt; omega, h.pm, h.bp, h.bm, h.below.trans (k.below h.below.size (fun i e => by
    rcases e with rfl | e
    · exact h.bp
    · have := (h.post.own.lt i e).1; have := h.bp; omega))⟩
end Go.Proofs.Ytkacnogjifhcoaa
