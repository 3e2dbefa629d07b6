/- How an argument opens into cells: whole numbers, bools, structs and arrays of these, slices of any of them. Nothing here speaks of the program. No condition. -/
import Derived.Test.YtofabbigngmboaaLib
import Derived.ProofKit
import Derived.OpenShut
import Derived.SizedLaws
import Derived.ChangeOld
import Derived.Deep.Slices
namespace Go.Proofs.Ytofabbigngmboaa
open Go.RowKit Go.ChangeShapes Go.WideShapes Go.ChangeAt

/-- What one cell holds: a whole number, a bool, a slice of type t. -/
inductive Kd where
  | int (k : IntKind)
  | bool
  | sl (t : TypeId)

section
variable {H : Type} (enc : TypeId × Value → H) (P : Program) (w : World) (sp : Nat → Bool) (held : Bool)

def Kd.fits : Kd → Value → Prop
  | .int k, v => ∃ n, v = .int k n ∧ (Lit.int k n).wf = true
  | .bool, v => ∃ b, v = .bool b
  | .sl t, v => ∃ n x, DataW.trod enc P w 0 sp held n t [v] = some x

/-- The fields in their order, laid one behind the other from 'off' on. -/
def fldKinds (P : Program) (kd : TypeId → Option (List Kd)) : List Field → Nat → Option (List Kd)
  | [], _ => some []
  | f :: r, off => match kd f.type with
    | none => none
    | some ks => if f.offset = off ∧ P.cellsOf f.type = ks.length then (fldKinds P kd r (off + ks.length)).map (ks ++ ·) else none
/-- n pieces of one kind, one behind the other. -/
def repKinds (ks : List Kd) : Nat → List Kd
  | 0 => []
  | n + 1 => ks ++ repKinds ks n
def kindsOf (P : Program) : Nat → TypeId → Option (List Kd)
  | 0, _ => none
  | n + 1, t => match P.underlying t with
    | some (.int k) => some [.int k]
    | some .bool => some [.bool]
    | some (.slice _) => some [.sl t]
    | some (.struct fs) => fldKinds P (kindsOf P n) fs.toList 0
    | some (.array m e) => match kindsOf P n e with
      | some ks => if P.cellsOf e = ks.length then some (repKinds ks m) else none
      | none => none
    | _ => none

def FitsAt (ks : List Kd) (cs : List Value) (off : Nat) : Prop := ∀ i k, ks[i]? = some k → ∃ v, cs[off + i]? = some v ∧ k.fits enc P w sp held v

variable {enc P w sp held}
theorem FitsAt.append {ks ls : List Kd} {cs : List Value} {off : Nat} (h : FitsAt enc P w sp held ks cs off) (g : FitsAt enc P w sp held ls cs (off + ks.length)) : FitsAt enc P w sp held (ks ++ ls) cs off := by
  intro i k hk
  by_cases hi : i < ks.length
  · rw [List.getElem?_append_left hi] at hk
    exact h i k hk
  · rw [List.getElem?_append_right (by omega)] at hk
    obtain ⟨v, hv, hf⟩ := g _ k hk
    exact ⟨v, by rw [← hv]; congr 1; omega, hf⟩
theorem FitsAt.piece {ks : List Kd} {cs : List Value} {off m : Nat} (h : FitsAt enc P w sp held ks ((cs.drop off).take m) 0) (hm : m = ks.length) : FitsAt enc P w sp held ks cs off := by
  intro i k hk
  obtain ⟨v, hv, hf⟩ := h i k hk
  have hi : i < ks.length := (List.getElem?_eq_some_iff.1 hk).1
  refine ⟨v, ?_, hf⟩
  rw [Nat.zero_add, List.getElem?_take_of_lt (by omega), List.getElem?_drop] at hv
  exact hv

theorem flds_fit {kd : TypeId → Option (List Kd)} {cs : List Value} : ∀ (fs : List Field) (off : Nat) (ks : List Kd), fldKinds P kd fs off = some ks →
    (∀ f ∈ fs, ∀ l, kd f.type = some l → FitsAt enc P w sp held l ((cs.drop f.offset).take (P.cellsOf f.type)) 0) → FitsAt enc P w sp held ks cs off := by
  intro fs
  induction fs with
  | nil =>
    intro off ks h _ i k hk
    simp only [fldKinds, Option.some.injEq] at h
    subst h
    simp at hk
  | cons f r ih =>
    intro off ks h hf
    simp only [fldKinds] at h
    cases hl : kd f.type with
    | none => rw [hl] at h; simp at h
    | some l =>
      rw [hl] at h
      simp only at h
      split at h
      · rename_i hc
        rw [Option.map_eq_some_iff] at h
        obtain ⟨ls, h1, rfl⟩ := h
        refine FitsAt.append ?_ (ih _ _ h1 (fun g hg => hf g (List.mem_cons_of_mem _ hg)))
        have := hf f (List.mem_cons_self ..) l hl
        rw [hc.1] at this
        exact this.piece hc.2
      · simp at h
theorem rep_fit {ks : List Kd} {cs : List Value} : ∀ (m off : Nat), (∀ i, i < m → FitsAt enc P w sp held ks cs (off + i * ks.length)) → FitsAt enc P w sp held (repKinds ks m) cs off := by
  intro m
  induction m with
  | zero => intro off _ i k hk; simp [repKinds] at hk
  | succ m ih =>
    intro off h
    refine FitsAt.append (by simpa using h 0 (by omega)) (ih _ (fun i hi => ?_))
    have := h (i + 1) (by omega)
    rw [show off + (i + 1) * ks.length = off + ks.length + i * ks.length by rw [Nat.add_mul]; omega] at this
    exact this
theorem kinds_fit : ∀ (n : Nat) (t : TypeId) (ks : List Kd), kindsOf P n t = some ks → ∀ (fuel : Nat) (cs : List Value) (x : DataW H × List MemPlace), DataW.trod enc P w 0 sp held fuel t cs = some x → FitsAt enc P w sp held ks cs 0 := by
  intro n
  induction n with
  | zero => intro t ks h; simp [kindsOf] at h
  | succ n ih =>
    intro t ks h fuel cs x hx
    simp only [kindsOf] at h
    cases hu : P.underlying t with
    | none => rw [hu] at h; simp at h
    | some d =>
      rw [hu] at h
      cases d <;> simp only at h
      case bool =>
        obtain ⟨b, rfl, _⟩ := DataW.trod_bool hu hx
        simp only [Option.some.injEq] at h; subst h
        intro i k hk
        match i, hk with
        | 0, hk => simp at hk; subst hk; exact ⟨_, rfl, b, rfl⟩
      case int q =>
        obtain ⟨m, rfl, _, hw⟩ := DataW.trod_int hu hx
        simp only [Option.some.injEq] at h; subst h
        intro i k hk
        match i, hk with
        | 0, hk => simp at hk; subst hk; exact ⟨_, rfl, m, rfl, hw⟩
      case slice e =>
        simp only [Option.some.injEq] at h; subst h
        intro i k hk
        match i, hk with
        | 0, hk =>
          simp at hk; subst hk
          rcases DataW.trod_slice hu hx with ⟨rfl, _⟩ | ⟨a, len, cap, _, _, _, _, rfl, _⟩
          · exact ⟨_, rfl, fuel, x, hx⟩
          · exact ⟨_, rfl, fuel, x, hx⟩
      case struct fs =>
        obtain ⟨xs, m, _, _, hl, hlen, hf⟩ := DataW.trod_struct hu hx
        refine flds_fit fs.toList 0 ks h (fun f hfm l hkl => ?_)
        obtain ⟨i, hi, hfi⟩ := List.getElem_of_mem hfm
        have hi' : i < fs.size := by simpa using hi
        have g := hf i f (by rw [Array.getElem?_eq_getElem hi']; simpa using hfi)
        have hxi : i < xs.length := by omega
        rw [List.getElem?_eq_getElem hxi] at g
        exact ih f.type l hkl m _ _ g
      case array m e =>
        cases hke : kindsOf P n e with
        | none => rw [hke] at h; simp at h
        | some l =>
          rw [hke] at h
          simp only at h
          split at h
          · rename_i hc
            simp only [Option.some.injEq] at h; subst h
            obtain ⟨xs, q, _, _, hl, hlen, hf⟩ := DataW.trod_array hu hx
            refine rep_fit m 0 (fun i hi => ?_)
            have g := hf i hi
            have hxi : i < xs.length := by omega
            rw [List.getElem?_eq_getElem hxi] at g
            have := (ih e l hke q _ _ g)
            rw [Nat.zero_add, ← hc]
            exact this.piece hc
          · simp at h
      all_goals (exact absurd h (by simp))

theorem cell_spot {a : Addr} {w : World} {v : Value} (h : w.cell? a = some v) : a.spot = none := by
  cases hs : a.spot with
  | none => rfl
  | some s =>
    exfalso
    unfold World.cell? at h
    cases hb : w.heap[a.block]? with
    | none => rw [hb] at h; simp at h
    | some o => rw [hb] at h; cases o <;> simp [hs] at h

/-- A SLICE'S ELEMENTS, CELL BY CELL. -/
def RowFits (enc : TypeId × Value → H) (P : Program) (w : World) (sp : Nat → Bool) (held : Bool) (ks : List Kd) (a : Option Addr) (len cap : Nat) : Prop :=
  ∃ b off, (a = some ⟨b, off, none⟩ ∧ b < w.heap.size ∨ len = 0) ∧ len ≤ cap ∧ cap ≤ maxLen ∧ ∀ i, i < len → ∀ j k, ks[j]? = some k → ∃ v, w.cell? ⟨b, off + (i * ks.length + j), none⟩ = some v ∧ k.fits enc P w sp held v
theorem open_rows {t e : TypeId} {ks : List Kd} {n fuel : Nat} {a : Option Addr} {len cap : Nat} {x : DataW H × List MemPlace} (ht : P.underlying t = some (.slice e)) (hk : kindsOf P n e = some ks) (hc : P.cellsOf e = ks.length) (hks : ks ≠ [])
    (h : DataW.trod enc P w 0 sp held fuel t [.slice a len cap] = some x) : RowFits enc P w sp held ks a len cap := by
  rcases Go.Deep.open_slice ht h with ⟨hcs, _⟩ | ⟨a', len', cap', m, q, D, Pl, hcs, _, hl, hm, hmm, _, hx⟩
  · simp only [List.cons.injEq, Value.slice.injEq, and_true] at hcs
    obtain ⟨rfl, rfl, rfl⟩ := hcs
    exact ⟨0, 0, .inr rfl, Nat.le_refl _, Nat.zero_le _, fun i hi => absurd hi (by omega)⟩
  · simp only [List.cons.injEq, Value.slice.injEq, and_true] at hcs
    obtain ⟨rfl, rfl, rfl⟩ := hcs
    have hlm : len ≤ m := by rw [hmm]; split <;> omega
    by_cases h0 : len = 0
    · exact ⟨0, 0, .inr h0, hl, hm, fun i hi => absurd hi (by omega)⟩
    · have each : ∀ i, i < len → ∀ j k, ks[j]? = some k → ∃ v, w.cell? (a'.add (i * ks.length + j)) = some v ∧ k.fits enc P w sp held v := by
        intro i hi j k hj
        obtain ⟨cs', h1, h2⟩ := hx i (by omega)
        obtain ⟨v, hv, hf⟩ := kinds_fit n e ks hk q cs' _ h2 j k hj
        obtain ⟨_, hlen, hcell⟩ := World.cells?_some h1
        have hjk : j < ks.length := (List.getElem?_eq_some_iff.1 hj).1
        have := hcell j (by omega)
        rw [Go.Deep.add_add, hc] at this
        rw [Nat.zero_add] at hv
        exact ⟨v, by rw [this]; exact hv, hf⟩
      have hk0 : ∃ k, ks[0]? = some k := by
        match ks, hks with
        | k :: _, _ => exact ⟨k, rfl⟩
      obtain ⟨k0, hk0⟩ := hk0
      obtain ⟨v0, hv0, _⟩ := each 0 (by omega) 0 k0 hk0
      have hz : 0 * ks.length + 0 = 0 := by omega
      rw [hz] at hv0
      have hv00 : w.cell? a' = some v0 := by simpa [Addr.add] using hv0
      have hs := cell_spot hv00
      obtain ⟨b, off, spot⟩ := a'
      simp only at hs
      subst hs
      have hadd : ∀ i, (Addr.mk b off none).add i = ⟨b, off + i, none⟩ := by
        intro i
        unfold Addr.add
        by_cases hi : i = 0
        · subst hi; simp
        · simp [hi]
      have hblt : b < w.heap.size := by
        rw [hadd] at hv0
        exact World.block_lt_of_cell? w _ hv0
      refine ⟨b, off, .inl ⟨rfl, hblt⟩, hl, hm, fun i hi j k hj => ?_⟩
      obtain ⟨v, hv, hf⟩ := each i hi j k hj
      rw [hadd] at hv
      exact ⟨v, hv, hf⟩

/-- A ROW OF BOOLS. -/
def BoolRow (w : World) (a : Option Addr) (len : Nat) (bs : Nat → Bool) : Prop :=
  ∃ b off, (a = some ⟨b, off, none⟩ ∧ b < w.heap.size ∨ len = 0) ∧ ∀ i, i < len → w.cell? ⟨b, off + i, none⟩ = some (.bool (bs i))
theorem RowFits.bools {a : Option Addr} {len cap : Nat} (h : RowFits enc P w sp held [.bool] a len cap) : ∃ bs, BoolRow w a len bs := by
  obtain ⟨b, off, ha, _, _, hx⟩ := h
  have : ∀ i, i < len → ∃ c : Bool, w.cell? ⟨b, off + i, none⟩ = some (.bool c) := by
    intro i hi
    obtain ⟨v, hv, c, rfl⟩ := hx i hi 0 .bool rfl
    exact ⟨c, by simpa using hv⟩
  obtain ⟨bs, hbs⟩ := Go.Deep.choose_lt this
  exact ⟨bs, b, off, ha, hbs⟩
/-- A ROW OF WHOLE NUMBERS. -/
def IntRow (w : World) (a : Option Addr) (len : Nat) (zs : Nat → Int) : Prop :=
  ∃ b off, (a = some ⟨b, off, none⟩ ∧ b < w.heap.size ∨ len = 0) ∧ ∀ i, i < len → w.cell? ⟨b, off + i, none⟩ = some (.int .i64 (zs i)) ∧ -9223372036854775808 ≤ zs i ∧ zs i ≤ 9223372036854775807
theorem wf_range {n : Int} (h : (Lit.int .i64 n).wf = true) : -9223372036854775808 ≤ n ∧ n ≤ 9223372036854775807 := by
  simp [Lit.wf, IntKind.signed, IntKind.bits, IntKind.min, IntKind.max] at h
  omega
theorem RowFits.ints {a : Option Addr} {len cap : Nat} (h : RowFits enc P w sp held [.int .i64] a len cap) : ∃ zs, IntRow w a len zs := by
  obtain ⟨b, off, ha, _, _, hx⟩ := h
  have : ∀ i, i < len → ∃ c : Int, w.cell? ⟨b, off + i, none⟩ = some (.int .i64 c) ∧ -9223372036854775808 ≤ c ∧ c ≤ 9223372036854775807 := by
    intro i hi
    obtain ⟨v, hv, c, rfl, hw⟩ := hx i hi 0 (.int .i64) rfl
    exact ⟨c, by simpa using hv, wf_range hw⟩
  obtain ⟨zs, hzs⟩ := Go.Deep.choose_lt this
  exact ⟨zs, b, off, ha, hzs⟩
end
end Go.Proofs.Ytofabbigngmboaa
