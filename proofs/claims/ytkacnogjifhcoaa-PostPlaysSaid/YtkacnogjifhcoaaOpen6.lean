/- A row of calls of the post's law as an argument: each a number, a place, a row of messages. -/
import Derived.Test.YtkacnogjifhcoaaOpen5
import Derived.Test.YtkacnogjifhcoaaPost
namespace Go.Proofs.Ytkacnogjifhcoaa
open Go.RowKit Go.ChangeShapes Go.WideShapes Go.ChangeAt
/-- A call: what, which, and where its messages lie. -/
structure PCall where
  d : Int
  i : Int
  a : Option Addr
  c : Nat
  L : List Ms
structure PCallAt (w : World) (g off : Nat) (x : PCall) : Prop where
  c0 : w.cell? ⟨g, off, none⟩ = some (.int .i64 x.d)
  c1 : w.cell? ⟨g, off + 1, none⟩ = some (.int .i64 x.i)
  c2 : w.cell? ⟨g, off + 2, none⟩ = some (.slice x.a x.L.length x.c)
  row : MsRow w x.a x.L
  few : x.L.length ≤ 140737488355328
/-- A row of calls that lies in memory. -/
def PCallRow (w : World) (a : Option Addr) (C : List PCall) : Prop := ∀ (k : Nat) (x : PCall), C[k]? = some x → ∃ g off, a = some ⟨g, off, none⟩ ∧ g < w.heap.size ∧ PCallAt w g (off + k * 3) x
theorem weightsAll_mem {H : Type} {P : Program} {e : TypeId} : ∀ {l : List (DataW H)} {d : DataW H}, d ∈ l → ∀ n ∈ d.weights P e, n ∈ DataW.weightsAll P e l
  | x :: r, d, hd, n, hn => by
    simp only [DataW.weightsAll, List.mem_append]
    rcases List.mem_cons.1 hd with rfl | h
    · exact .inl hn
    · exact .inr (weightsAll_mem h n hn)
section
variable {H : Type} {enc : TypeId × Value → H} {w : World} {sp : Nat → Bool} {held : Bool}
theorem open_pcall {fuel : Nat} {cs : List Value} {x : DataW H × List MemPlace} (h : DataW.trod enc Try.prog w 0 sp held fuel 70 cs = some x) (hz : ∀ n ∈ x.1.weights Try.prog 70, n ≤ reachBytes) :
    ∃ y : PCall, cs = [.int .i64 y.d, .int .i64 y.i, .slice y.a y.L.length y.c] ∧ MsRow w y.a y.L ∧ y.L.length ≤ 140737488355328 := by
  obtain ⟨xs, n, _, rfl, hl, hlen, hf⟩ := DataW.trod_struct Try.underlying70 h
  have hc3 : Try.prog.cellsOf 70 = 3 := by kernel_rfl
  have hci : Try.prog.cellsOf 3 = 1 := by kernel_rfl
  have hcm : Try.prog.cellsOf 49 = 1 := by kernel_rfl
  rw [hc3] at hl
  obtain ⟨v0, v1, v2, rfl⟩ : ∃ v0 v1 v2, cs = [v0, v1, v2] := by
    match cs, hl with
    | [v0, v1, v2], _ => exact ⟨v0, v1, v2, rfl⟩
  obtain ⟨x0, x1, x2, rfl⟩ : ∃ x0 x1 x2, xs = [x0, x1, x2] := by
    match xs, hlen with
    | [x0, x1, x2], _ => exact ⟨x0, x1, x2, rfl⟩
  have f0 : DataW.trod enc Try.prog w 0 sp held n 3 (List.take (Try.prog.cellsOf 3) (List.drop 0 [v0, v1, v2])) = some x0 := hf 0 _ rfl
  have f1 : DataW.trod enc Try.prog w 0 sp held n 3 (List.take (Try.prog.cellsOf 3) (List.drop 1 [v0, v1, v2])) = some x1 := hf 1 _ rfl
  have f2 : DataW.trod enc Try.prog w 0 sp held n 49 (List.take (Try.prog.cellsOf 49) (List.drop 2 [v0, v1, v2])) = some x2 := hf 2 _ rfl
  rw [hci] at f0 f1
  rw [hcm] at f2
  replace f0 : DataW.trod enc Try.prog w 0 sp held n 3 [v0] = some x0 := f0
  replace f1 : DataW.trod enc Try.prog w 0 sp held n 3 [v1] = some x1 := f1
  replace f2 : DataW.trod enc Try.prog w 0 sp held n 49 [v2] = some x2 := f2
  obtain ⟨m0, e0, _, _⟩ := DataW.trod_int Try.underlying3 f0
  obtain ⟨m1, e1, _, _⟩ := DataW.trod_int Try.underlying3 f1
  obtain ⟨a, len, cap, e2, hle⟩ : ∃ a len cap, v2 = .slice a len cap ∧ len ≤ 140737488355328 := by
    rcases Go.Deep.open_slice Try.underlying49 f2 with ⟨hcs, _⟩ | ⟨a', len', cap', m, q, D, Pl, hcs, _, _, _, _, hx, _⟩
    · simp only [List.cons.injEq, and_true] at hcs
      exact ⟨_, _, _, hcs, by omega⟩
    · simp only [List.cons.injEq, and_true] at hcs
      refine ⟨_, _, _, hcs, ?_⟩
      have hb : Try.prog.bytesOf 55 = 56 := by kernel_rfl
      have := hz ((((List.range len').map D).length + ((List.range (m - len')).map fun j => D (len' + j)).length) * Try.prog.bytesOf 55) (by
        show _ ∈ DataW.weights Try.prog 70 (.agg [x0.1, x1.1, x2.1])
        simp only [DataW.weights, Try.underlying70]
        refine DataW.weights_mem_each (j := 2) (t := 49) (d := x2.1) rfl rfl _ ?_
        rw [hx]
        simp [DataW.weights, Try.underlying49])
      rw [hb, List.length_map, List.length_range] at this
      have h3 := reachBytes_lt
      have : len' * 56 ≤ reachBytes := Nat.le_trans (Nat.mul_le_mul_right 56 (Nat.le_add_right _ _)) this
      omega
  subst e2
  have r := (open_rows (n := 6) Try.underlying49 (by kernel_rfl : kindsOf Try.prog 6 55 = some [.int .i64, .int .i64, .int .i64, .int .i64, .int .i64, .int .i64, .int .i64]) (by kernel_rfl) (by simp) f2).msgs
  obtain ⟨L, rfl, hL, _, _⟩ := r
  simp only [List.cons.injEq, and_true] at e0 e1
  exact ⟨⟨m0, m1, a, cap, L⟩, by rw [e0, e1], hL, hle⟩
theorem open_pcalls {fuel : Nat} {a : Option Addr} {len cap : Nat} {x : DataW H × List MemPlace} (h : DataW.trod enc Try.prog w 0 sp held fuel 65 [.slice a len cap] = some x) (hz : ∀ n ∈ x.1.weights Try.prog 65, n ≤ reachBytes) :
    ∃ C : List PCall, C.length = len ∧ PCallRow w a C ∧ len ≤ cap ∧ cap ≤ maxLen := by
  rcases Go.Deep.open_slice Try.underlying65 h with ⟨hcs, _⟩ | ⟨a', len', cap', m, q, D, Pl, hcs, _, hl, hm, hmm, rfl, hx⟩
  · simp only [List.cons.injEq, Value.slice.injEq, and_true] at hcs
    obtain ⟨rfl, rfl, rfl⟩ := hcs
    exact ⟨[], rfl, (fun k x hk => by simp at hk), Nat.le_refl _, Nat.zero_le _⟩
  · simp only [List.cons.injEq, Value.slice.injEq, and_true] at hcs
    obtain ⟨rfl, rfl, rfl⟩ := hcs
    have hlm : len ≤ m := by rw [hmm]; split <;> omega
    have hc3 : Try.prog.cellsOf 70 = 3 := by kernel_rfl
    rw [hc3] at hx
    have each : ∀ i, i < len → ∃ y : PCall, (∃ v, w.cell? (a'.add (i * 3)) = some v ∧ v = .int .i64 y.d) ∧ w.cell? (a'.add (i * 3 + 1)) = some (.int .i64 y.i) ∧ w.cell? (a'.add (i * 3 + 2)) = some (.slice y.a y.L.length y.c) ∧ MsRow w y.a y.L ∧ y.L.length ≤ 140737488355328 := by
      intro i hi
      obtain ⟨cs', h1, h2⟩ := hx i (by omega)
      obtain ⟨y, rfl, hy, hyl⟩ := open_pcall h2 (fun n hn => hz n (by
        simp only [DataW.weights, Try.underlying65, List.mem_cons, List.mem_append]
        exact .inr (.inl (weightsAll_mem (List.mem_map.2 ⟨i, List.mem_range.2 hi, rfl⟩) n hn))))
      obtain ⟨_, hlen, hcell⟩ := World.cells?_some h1
      have q0 := hcell 0 (by omega)
      have q1 := hcell 1 (by omega)
      have q2 := hcell 2 (by omega)
      rw [Go.Deep.add_add] at q0 q1 q2
      exact ⟨y, ⟨_, by rw [Nat.add_zero] at q0; exact q0, rfl⟩, q1, q2, hy, hyl⟩
    by_cases h0 : len = 0
    · subst h0
      exact ⟨[], rfl, (fun k x hk => by simp at hk), hl, hm⟩
    obtain ⟨y0, ⟨v0, hv0, _⟩, _⟩ := each 0 (by omega)
    rw [Nat.zero_mul] at hv0
    have hv00 : w.cell? a' = some v0 := by simpa [Addr.add] using hv0
    have hs := cell_spot hv00
    obtain ⟨b, off, spot⟩ := a'
    simp only at hs
    subst hs
    have hblt : b < w.heap.size := World.block_lt_of_cell? w _ hv00
    have hadd : ∀ i, (Addr.mk b off none).add i = ⟨b, off + i, none⟩ := by
      intro i
      unfold Addr.add
      by_cases hi : i = 0
      · subst hi; simp
      · simp [hi]
    have inh : Inhabited PCall := ⟨⟨0, 0, none, 0, []⟩⟩
    obtain ⟨f, hf⟩ := Go.Deep.choose_lt each
    refine ⟨(List.range len).map f, by simp, fun k x hk => ?_, hl, hm⟩
    rw [List.getElem?_map] at hk
    have hkl : k < len := by
      rcases Nat.lt_or_ge k len with h | h
      · exact h
      · rw [List.getElem?_eq_none (by simpa using h)] at hk; simp at hk
    rw [List.getElem?_range hkl] at hk
    simp only [Option.map_some, Option.some.injEq] at hk
    subst hk
    obtain ⟨⟨v, h1, h2⟩, h3, h4, h5, h6⟩ := hf k hkl
    rw [hadd] at h1 h3 h4
    exact ⟨b, off, rfl, hblt, ⟨by rw [h1, h2], h3, h4, h5, h6⟩⟩
end
end Go.Proofs.Ytkacnogjifhcoaa
