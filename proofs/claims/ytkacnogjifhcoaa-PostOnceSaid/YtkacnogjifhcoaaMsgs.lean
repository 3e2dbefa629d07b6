/- Rows of messages. -/
import Derived.Test.YtkacnogjifhcoaaRows
import Derived.Test.YtkacnogjifhcoaaRow
import Derived.Laws.OwnMore
namespace Go.Proofs.Ytkacnogjifhcoaa
open Go.RowKit
/-- A message: kind, from, to, id, step, and two numbers. -/
structure Ms where
  kind : Int
  src : Int
  dst : Int
  id : Int
  step : Int
  a : Int
  b : Int
def encMs (m : Ms) : List Value := [.int .i64 m.kind, .int .i64 m.src, .int .i64 m.dst, .int .i64 m.id, .int .i64 m.step, .int .i64 m.a, .int .i64 m.b]
/-- A row of messages of the call's own. -/
def MsOwn (w : World) (base : Nat) (v : Value) (L : List Ms) : Prop := w.ownsRow base 55 7 v L.length (L.flatMap encMs)
theorem Blk.new' (w : World) (T : TypeId) (vs : List Value) (p : Nat) (hp : p = w.heap.size) : Blk (w.alloc (.cells vs.toArray T)) p T vs := by
  subst hp
  exact Blk.new w T vs
theorem infoMsg : (Try.prog.info? 55).map (fun i => (i.zero, i.size, i.bytes)) = some (some (.agg #[.int .i64 0, .int .i64 0, .int .i64 0, .int .i64 0, .int .i64 0, .int .i64 0, .int .i64 0]), 7, 56) := by kernel_rfl
theorem encMs_len (m : Ms) : (encMs m).length = 7 := rfl
theorem Blk.adds {w : World} {b : Nat} {T : TypeId} {vs : List Value} (h : Blk w b T vs) : ∀ j u, vs[j]? = some u → w.cell? ((⟨b, 0, none⟩ : Addr).add j) = some u := by
  intro j u hj
  have hadd : (Addr.mk b 0 none).add j = ⟨b, j, none⟩ := by
    unfold Addr.add
    by_cases hi : j = 0
    · subst hi; simp
    · simp [hi]
  rw [hadd]
  exact h.cell j hj
theorem ms_one (m : Ms) : ∀ u ∈ encMs m, u.oneCell' = true := by
  intro u hu
  simp only [encMs, List.mem_cons, List.not_mem_nil, or_false] at hu
  rcases hu with rfl | rfl | rfl | rfl | rfl | rfl | rfl <;> rfl
theorem ms_ones (L : List Ms) : ∀ u ∈ L.flatMap encMs, u.oneCell' = true := by
  intro u hu
  obtain ⟨m, _, hm⟩ := List.mem_flatMap.1 hu
  exact ms_one m u hm
theorem MsOwn.nil (w : World) (base : Nat) : MsOwn w base (.slice none 0 0) [] := World.ownsRow_nil _ _ _ _
theorem MsOwn.keeps {w w' : World} {base : Nat} {v : Value} {L : List Ms} (h : MsOwn w base v L) {S : Nat → Prop} (k : Keeps S w w') (hs : ∀ g, v.ownBlock = some g → ¬ S g) : MsOwn w' base v L := ownsRow_keeps h k hs
theorem MsOwn.quiet {w w' : World} {base : Nat} {v : Value} {L : List Ms} (h : MsOwn w base v L) (k : Keeps (fun _ => False) w w') : MsOwn w' base v L := h.keeps k (fun _ _ h => h)
theorem MsOwn.mono {w : World} {base base' : Nat} {v : Value} {L : List Ms} (h : MsOwn w base v L) (hb : base' ≤ base) : MsOwn w base' v L := by
  refine ⟨h.1, ?_⟩
  rcases h.2 with h2 | ⟨g, cap, cur, h1, h2, h3⟩
  · exact .inl h2
  · exact .inr ⟨g, cap, cur, h1, by omega, h3⟩
theorem MsOwn.slice {w : World} {base : Nat} {v : Value} {L : List Ms} (h : MsOwn w base v L) : ∃ a c, v = .slice a L.length c ∧ L.length ≤ c ∧ c ≤ maxLen := by
  obtain ⟨a, c, hv, _, hc, hcm, _⟩ := ownsRow_open h (by omega)
  exact ⟨a, c, hv, hc, hcm⟩
/-- A row of messages that lies in memory. -/
def MsRow (w : World) (a : Option Addr) (L : List Ms) : Prop := ∀ (k : Nat) (x : Ms), L[k]? = some x → ∃ g off, a = some ⟨g, off, none⟩ ∧ g < w.heap.size ∧ ∀ j u, (encMs x)[j]? = some u → w.cell? ⟨g, off + k * 7 + j, none⟩ = some u
theorem MsRow.keeps {w w' : World} {a : Option Addr} {L : List Ms} (h : MsRow w a L) {S : Nat → Prop} (k : Keeps S w w') (hs : ∀ x, a = some x → ¬ S x.block) : MsRow w' a L := by
  intro i x hx
  obtain ⟨g, off, e, hl, h0⟩ := h i x hx
  have hg := hs _ e
  exact ⟨g, off, e, Nat.lt_of_lt_of_le hl k.size, fun j u hu => (k.cell (p := ⟨g, off + i * 7 + j, none⟩) hl hg).trans (h0 j u hu)⟩
theorem MsRow.quiet {w w' : World} {a : Option Addr} {L : List Ms} (h : MsRow w a L) (k : Keeps (fun _ => False) w w') : MsRow w' a L := h.keeps k (fun _ _ h => h)
theorem MsOwn.row {w : World} {base : Nat} {a : Option Addr} {n c : Nat} {L : List Ms} (h : MsOwn w base (.slice a n c) L) : MsRow w a L := by
  intro k x hk
  obtain ⟨a', c', hv, _, _, _, _, hx⟩ := ownsRow_open h (by omega)
  simp only [Value.slice.injEq] at hv
  obtain ⟨rfl, _, _⟩ := hv
  have h0 := hx (k * 7 + 0) _ (by rw [flat_get encMs 7 encMs_len L k x 0 hk (by omega)]; rfl)
  obtain ⟨g, off, e, hl, _, _⟩ := h0
  refine ⟨g, off, e, hl, fun j u hu => ?_⟩
  have hj : j < 7 := by have := (List.getElem?_eq_some_iff.1 hu).1; rwa [encMs_len] at this
  obtain ⟨g', off', e', _, _, hc⟩ := hx (k * 7 + j) u (by rw [flat_get encMs 7 encMs_len L k x j hk hj]; exact hu)
  rw [e] at e'
  simp only [Option.some.injEq, Addr.mk.injEq, and_true] at e'
  obtain ⟨rfl, rfl⟩ := e'
  rw [Nat.add_assoc]
  exact hc
/-- A message more, out of a block of its own. -/
theorem ms_append {w : World} {base : Nat} {v : Value} {L : List Ms} {m : Ms} {s : Nat} (h : MsOwn w base v L) (hL : L.length + 1 ≤ 100000) (hb : base ≤ w.heap.size) (hs : Blk w s 55 (encMs m)) :
    ∃ a' c' w', (Builtin.append_ #[49, 49] 49 #[v, .slice (some ⟨s, 0, none⟩) 1 1]).run Try.prog w = .ok (.slice a' (L.length + 1) c') w' ∧ MsOwn w' base (.slice a' (L.length + 1) c') (L ++ [m]) ∧ Keeps (fun k => v.ownBlock = some k) w w' := by
  obtain ⟨i0, hi, hz0, hz1, hz2⟩ := info_parts infoMsg
  obtain ⟨a', c', w', hrun, hown, k, _, _⟩ := run_append_new (P := Try.prog) w base 49 49 55 i0 _ 7 56 Try.underlying49 hi hz0 hz1 hz2 rfl (by omega) v L.length _ h ⟨s, 0, none⟩ 1 1 (encMs m) rfl hs.adds (ms_one m) (by unfold maxLen; omega) (by omega) hb
  refine ⟨a', c', w', hrun, ?_, k⟩
  unfold MsOwn
  rw [List.flatMap_append, List.length_append]
  simpa using hown
/-- A row of messages more. -/
theorem ms_append_row {w : World} {base base2 : Nat} {v v2 : Value} {L M : List Ms} (h : MsOwn w base v L) (hL : L.length + M.length ≤ 100000) (hb : base ≤ w.heap.size) (hs : MsOwn w base2 v2 M) :
    ∃ a' c' w', (Builtin.append_ #[49, 49] 49 #[v, v2]).run Try.prog w = .ok (.slice a' (L.length + M.length) c') w' ∧ MsOwn w' base (.slice a' (L.length + M.length) c') (L ++ M) ∧ Keeps (fun k => v.ownBlock = some k) w w' := by
  obtain ⟨i0, hi, hz0, hz1, hz2⟩ := info_parts infoMsg
  obtain ⟨a0, c0, hv, _⟩ := h.slice
  rcases hs.2 with ⟨rfl, hM⟩ | ⟨g, cap, cur, rfl, hb2, hg, hn, hm, hz, ht⟩
  · have hM : M = [] := List.eq_nil_of_length_eq_zero hM
    subst hM
    have hrun := run_append_owned_none (P := Try.prog) (w := w) base 49 49 55 i0 7 Try.underlying49 hi v L.length _ h
    simp only [List.append_nil, List.length_nil, Nat.add_zero]
    exact ⟨a0, c0, w, by rw [← hv]; exact hrun, by rw [← hv]; exact h, Keeps.refl _ _⟩
  · obtain ⟨a', c', w', hrun, hown, k, _, _⟩ := run_append_new (P := Try.prog) w base 49 49 55 i0 _ 7 56 Try.underlying49 hi hz0 hz1 hz2 rfl (by omega) v L.length _ h ⟨g, 0, none⟩ M.length cap (M.flatMap encMs) hs.1 (hs.cells (g := g) rfl) (ms_ones M) (by unfold maxLen; omega) (by omega) hb
    refine ⟨a', c', w', hrun, ?_, k⟩
    unfold MsOwn
    rw [List.flatMap_append, List.length_append]
    exact hown
end Go.Proofs.Ytkacnogjifhcoaa
