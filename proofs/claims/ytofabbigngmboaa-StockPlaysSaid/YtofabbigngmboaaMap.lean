/- Maps keyed by int, as a row of pairs: what look-up, store, delete, len and a range do. Nothing here speaks of the program. No condition. -/
import Derived.Test.YtofabbigngmboaaSay
import Derived.MapKept
import Derived.WideKeyEntry
import Derived.Maps.RangeRun
import Derived.Maps.OwnSet
namespace Go.Proofs.Ytofabbigngmboaa
open Go.RowKit Go.MapKept

namespace MP
variable {α : Type}
/-- Where a key stands, and what stands there. -/
def look : List (Int × α) → Int → Option (Nat × α)
  | [], _ => none
  | (y, a) :: r, x => if x = y then some (0, a) else (look r x).map fun p => (p.1 + 1, p.2)
def get (L : List (Int × α)) (x : Int) : Option α := (look L x).map (·.2)
def put : List (Int × α) → Int → α → List (Int × α)
  | [], x, v => [(x, v)]
  | (y, a) :: r, x, v => if x = y then (x, v) :: r else (y, a) :: put r x v
def del : List (Int × α) → Int → List (Int × α)
  | [], _ => []
  | (y, a) :: r, x => if x = y then r else (y, a) :: del r x
def keys (L : List (Int × α)) : List Int := L.map (·.1)

theorem get_nil (x : Int) : get ([] : List (Int × α)) x = none := rfl
theorem get_cons (y : Int) (a : α) (r : List (Int × α)) (x : Int) : get ((y, a) :: r) x = if x = y then some a else get r x := by
  unfold get
  simp only [look]
  by_cases h : x = y
  · rw [if_pos h, if_pos h]; rfl
  · rw [if_neg h, if_neg h, Option.map_map]
    rfl
theorem get_put (L : List (Int × α)) (x : Int) (v : α) (z : Int) : get (put L x v) z = if z = x then some v else get L z := by
  induction L with
  | nil => simp only [put, get_cons, get_nil]
  | cons p r ih =>
    obtain ⟨y, a⟩ := p
    simp only [put]
    by_cases h : x = y
    · subst h
      rw [if_pos rfl, get_cons, get_cons]
      by_cases hz : z = x
      · rw [if_pos hz, if_pos hz]
      · rw [if_neg hz, if_neg hz, if_neg hz]
    · rw [if_neg h, get_cons, get_cons, ih]
      by_cases hz : z = y
      · subst hz
        rw [if_pos rfl, if_pos rfl, if_neg (fun e => h e.symm)]
      · rw [if_neg hz, if_neg hz]
theorem get_none_of_not_mem {L : List (Int × α)} {x : Int} (h : x ∉ keys L) : get L x = none := by
  induction L with
  | nil => rfl
  | cons p r ih =>
    obtain ⟨y, a⟩ := p
    simp only [keys, List.map_cons, List.mem_cons, not_or] at h
    rw [get_cons, if_neg h.1]
    exact ih h.2
theorem mem_keys_of_get {L : List (Int × α)} {x : Int} {a : α} (h : get L x = some a) : x ∈ keys L := by
  by_cases hm : x ∈ keys L
  · exact hm
  · rw [get_none_of_not_mem hm] at h; cases h
theorem get_del (L : List (Int × α)) (x : Int) (hn : (keys L).Nodup) (z : Int) : get (del L x) z = if z = x then none else get L z := by
  induction L with
  | nil => simp [del, get_nil]
  | cons p r ih =>
    obtain ⟨y, a⟩ := p
    simp only [keys, List.map_cons, List.nodup_cons] at hn
    simp only [del]
    by_cases h : x = y
    · subst h
      rw [if_pos rfl, get_cons]
      by_cases hz : z = x
      · subst hz
        rw [if_pos rfl]
        exact get_none_of_not_mem hn.1
      · rw [if_neg hz, if_neg hz]
    · rw [if_neg h, get_cons, get_cons, ih hn.2]
      by_cases hz : z = y
      · subst hz
        rw [if_pos rfl, if_pos rfl, if_neg (fun e => h e.symm)]
      · rw [if_neg hz, if_neg hz]
theorem mem_keys_put {L : List (Int × α)} {x : Int} {v : α} {z : Int} : z ∈ keys (put L x v) ↔ z = x ∨ z ∈ keys L := by
  induction L with
  | nil => simp [put, keys]
  | cons p r ih =>
    obtain ⟨y, a⟩ := p
    simp only [put]
    by_cases h : x = y
    · subst h
      rw [if_pos rfl]
      simp [keys]
    · rw [if_neg h]
      simp only [keys, List.map_cons, List.mem_cons] at ih ⊢
      rw [ih]
      constructor
      · rintro (h1 | h1 | h1)
        · exact .inr (.inl h1)
        · exact .inl h1
        · exact .inr (.inr h1)
      · rintro (h1 | h1 | h1)
        · exact .inr (.inl h1)
        · exact .inl h1
        · exact .inr (.inr h1)
theorem nodup_put {L : List (Int × α)} {x : Int} {v : α} (hn : (keys L).Nodup) : (keys (put L x v)).Nodup := by
  induction L with
  | nil => simp [put, keys]
  | cons p r ih =>
    obtain ⟨y, a⟩ := p
    simp only [keys, List.map_cons, List.nodup_cons] at hn
    simp only [put]
    by_cases h : x = y
    · subst h
      rw [if_pos rfl]
      simp only [keys, List.map_cons, List.nodup_cons]
      exact hn
    · rw [if_neg h]
      simp only [keys, List.map_cons, List.nodup_cons]
      refine ⟨fun hm => ?_, ih hn.2⟩
      rcases mem_keys_put.1 hm with e | e
      · exact h e.symm
      · exact hn.1 e
theorem del_sublist (L : List (Int × α)) (x : Int) : (del L x).Sublist L := by
  induction L with
  | nil => exact List.Sublist.refl _
  | cons p r ih =>
    obtain ⟨y, a⟩ := p
    simp only [del]
    by_cases h : x = y
    · rw [if_pos h]; exact List.sublist_cons_self _ _
    · rw [if_neg h]; exact ih.cons_cons _
theorem nodup_del {L : List (Int × α)} {x : Int} (hn : (keys L).Nodup) : (keys (del L x)).Nodup := ((del_sublist L x).map _).nodup hn
theorem look_spec {L : List (Int × α)} {x : Int} : (look L x = none ∧ get L x = none) ∨ ∃ j a, look L x = some (j, a) ∧ get L x = some a ∧ L[j]? = some (x, a) := by
  cases h : look L x with
  | none => exact .inl ⟨rfl, by simp [get, h]⟩
  | some p =>
    obtain ⟨j, a⟩ := p
    refine .inr ⟨j, a, rfl, by simp [get, h], ?_⟩
    induction L generalizing j with
    | nil => simp [look] at h
    | cons q r ih =>
      obtain ⟨y, b⟩ := q
      simp only [look] at h
      by_cases hx : x = y
      · rw [if_pos hx] at h
        simp only [Option.some.injEq, Prod.mk.injEq] at h
        obtain ⟨rfl, rfl⟩ := h
        simp [hx]
      · rw [if_neg hx, Option.map_eq_some_iff] at h
        obtain ⟨⟨j', a'⟩, h1, h2⟩ := h
        simp only [Prod.mk.injEq] at h2
        obtain ⟨rfl, rfl⟩ := h2
        simpa using ih j' h1
theorem put_at {L : List (Int × α)} {x : Int} {v : α} {j : Nat} {a : α} (h : look L x = some (j, a)) : put L x v = L.set j (x, v) := by
  induction L generalizing j with
  | nil => simp [look] at h
  | cons q r ih =>
    obtain ⟨y, b⟩ := q
    simp only [look] at h
    simp only [put]
    by_cases hx : x = y
    · rw [if_pos hx] at h
      simp only [Option.some.injEq, Prod.mk.injEq] at h
      obtain ⟨rfl, rfl⟩ := h
      rw [if_pos hx]; rfl
    · rw [if_neg hx, Option.map_eq_some_iff] at h
      obtain ⟨⟨j', a'⟩, h1, h2⟩ := h
      simp only [Prod.mk.injEq] at h2
      obtain ⟨rfl, rfl⟩ := h2
      rw [if_neg hx, ih h1]; rfl
theorem put_new {L : List (Int × α)} {x : Int} {v : α} (h : look L x = none) : put L x v = L ++ [(x, v)] := by
  induction L with
  | nil => rfl
  | cons q r ih =>
    obtain ⟨y, b⟩ := q
    simp only [look] at h
    by_cases hx : x = y
    · rw [if_pos hx] at h; cases h
    · rw [if_neg hx, Option.map_eq_none_iff] at h
      simp only [put]
      rw [if_neg hx, ih h]; rfl
theorem del_at {L : List (Int × α)} {x : Int} {j : Nat} {a : α} (h : look L x = some (j, a)) : del L x = L.eraseIdx j := by
  induction L generalizing j with
  | nil => simp [look] at h
  | cons q r ih =>
    obtain ⟨y, b⟩ := q
    simp only [look] at h
    simp only [del]
    by_cases hx : x = y
    · rw [if_pos hx] at h
      simp only [Option.some.injEq, Prod.mk.injEq] at h
      obtain ⟨rfl, rfl⟩ := h
      rw [if_pos hx]; rfl
    · rw [if_neg hx, Option.map_eq_some_iff] at h
      obtain ⟨⟨j', a'⟩, h1, h2⟩ := h
      simp only [Prod.mk.injEq] at h2
      obtain ⟨rfl, rfl⟩ := h2
      rw [if_neg hx, ih h1]; rfl
theorem del_none {L : List (Int × α)} {x : Int} (h : look L x = none) : del L x = L := by
  induction L with
  | nil => rfl
  | cons q r ih =>
    obtain ⟨y, b⟩ := q
    simp only [look] at h
    by_cases hx : x = y
    · rw [if_pos hx] at h; cases h
    · rw [if_neg hx, Option.map_eq_none_iff] at h
      simp only [del]
      rw [if_neg hx, ih h]
end MP

section
variable {α : Type} (enc : α → Value)
def RowsAre (es : List MapEntry) (L : List (Int × α)) : Prop := es.map (fun e => (e.key, e.val)) = L.map (fun p => (Value.int .i64 p.1, enc p.2))
/-- Block b is a map that holds the pairs of L, in the order in which they came; each key once. -/
structure MapOk (es : Array MapEntry) (clk : Nat) (L : List (Int × α)) : Prop where
  rows : RowsAre enc es.toList L
  nodup : (MP.keys L).Nodup
  born : (es.toList.map (·.born)).Nodup
  lt : ∀ e ∈ es.toList, e.born < clk
def MapAt (w : World) (b : Nat) (L : List (Int × α)) : Prop := ∃ es clk, w.heap[b]? = some (.map es clk) ∧ MapOk enc es clk L
end

section
variable {α : Type} {enc : α → Value} {P : Program} {w : World} {b : Nat} {L : List (Int × α)}
theorem MapAt.lt (h : MapAt enc w b L) : b < w.heap.size := by
  obtain ⟨es, clk, hb, _⟩ := h
  exact (Array.getElem?_eq_some_iff.1 hb).1
theorem MapAt.nodup (h : MapAt enc w b L) : (MP.keys L).Nodup := by
  obtain ⟨es, clk, _, h⟩ := h
  exact h.nodup
theorem MapAt.keeps {w' : World} {S : Nat → Prop} (h : MapAt enc w b L) (k : Keeps S w w') (hs : ¬ S b) : MapAt enc w' b L := by
  have hl := h.lt
  obtain ⟨es, clk, hb, hm⟩ := h
  exact ⟨es, clk, (k.block b hl hs).trans hb, hm⟩
theorem MapAt.other (h : MapAt enc w b L) {p : Addr} (hp : b ≠ p.block) (v : Value) : MapAt enc (w.setCell p v) b L := by
  obtain ⟨es, clk, hb, hm⟩ := h
  exact ⟨es, clk, (Below.heap_setCell _ _ _ _ hp).trans hb, hm⟩
theorem MapAt.alloc (h : MapAt enc w b L) (o : Obj) : MapAt enc (w.alloc o) b L := by
  have hl := h.lt
  obtain ⟨es, clk, hb, hm⟩ := h
  exact ⟨es, clk, (Below.heap_alloc _ _ _ hl).trans hb, hm⟩
theorem MapAt.drew (h : MapAt enc w b L) : MapAt enc w.drew b L := h
theorem MapAt.drewN (h : MapAt enc w b L) (n : Nat) : MapAt enc (w.drewN n) b L := h
theorem MapAt.new (enc : α → Value) (w : World) : MapAt enc (w.alloc (.map #[] 0)) w.heap.size [] :=
  ⟨#[], 0, (MapKept.heap_alloc w _).1, ⟨rfl, by simp [MP.keys], by simp, by simp⟩⟩

theorem findNow_rows (x : Int) : ∀ (es : List MapEntry) (L : List (Int × α)) (i : Nat), RowsAre enc es L →
    Instr.findNow (.int .i64) (.int .i64 x) es i = some ((MP.look L x).map fun p => (i + p.1, enc p.2)) := by
  intro es
  induction es with
  | nil =>
    intro L i h
    cases L with
    | nil => rfl
    | cons p r => simp [RowsAre] at h
  | cons e es ih =>
    intro L i h
    cases L with
    | nil => simp [RowsAre] at h
    | cons p r =>
      obtain ⟨y, a⟩ := p
      simp only [RowsAre, List.map_cons, List.cons.injEq, Prod.mk.injEq] at h
      obtain ⟨⟨hk, hv⟩, hr⟩ := h
      simp only [Instr.findNow, hk, Instr.sameNow, MP.look]
      by_cases hxy : x = y
      · subst hxy
        simp [hv]
      · have : (x == y) = false := by simpa using hxy
        simp only [if_true, this]
        rw [ih r (i + 1) hr, if_neg hxy, Option.map_map]
        congr 1
        cases MP.look r x with
        | none => rfl
        | some p => simp; omega
theorem isKey_int (x : Int) : IsKey (.int .i64) (.int .i64 x) := rfl
theorem run_find {k : TypeId} (hk : P.underlying k = some (.int .i64)) {es : Array MapEntry} {clk : Nat} (h : MapOk enc es clk L) (x : Int) (w : World) :
    (Instr.findKey k (.int .i64 x) es.toList).run P w = .ok ((MP.look L x).map fun p => (p.1, enc p.2)) w := by
  have := findNow_rows (enc := enc) x es.toList L 0 h.rows
  rw [run_findKey hk this]
  simp

/-- 'm[x]' and 'v, ok := m[x]'. -/
theorem MapAt.look {t k e : TypeId} (h : MapAt enc w b L) (ht : P.underlying t = some (.map k e)) (hk : P.underlying k = some (.int .i64)) {z : Value} (hz : (zeroValue e).run P w = .ok z w) (x : Int) (c : Bool) :
    (Instr.lookup t (.map (some b)) (.int .i64 x) c).run P w = .ok (if c then .tuple #[((MP.get L x).map enc).getD z, .bool (MP.get L x).isSome] else ((MP.get L x).map enc).getD z) w := by
  obtain ⟨es, clk, hb, hm⟩ := h
  have hf := run_find (P := P) hk hm x w
  unfold MP.get
  cases hl : MP.look L x with
  | none =>
    rw [hl] at hf
    cases c <;> simp [Instr.lookup, run_underlying ht, MapKept.run_getObj_map hb, run_checkKey hk (isKey_int x), hf, hz, Result.andThen]
  | some p =>
    rw [hl] at hf
    cases c <;> simp [Instr.lookup, run_underlying ht, MapKept.run_getObj_map hb, run_checkKey hk (isKey_int x), hf, Result.andThen]

theorem keeps_set {o o' : Obj} (hb : w.heap[b]? = some o) : Keeps (· = b) w { w with heap := w.heap.setIfInBounds b o' } :=
  ⟨rfl, rfl, rfl, by simp, fun k _ hk => (MapKept.heap_set hb).2 k hk⟩
theorem rows_set {es : List MapEntry} {j : Nat} {x : Int} {a v : α} {f : MapEntry → MapEntry} (hr : RowsAre enc es L) (hj : L[j]? = some (x, a)) (hf : ∀ e, (f e).key = e.key ∧ (f e).val = enc v) :
    RowsAre enc (es.modify j f) (L.set j (x, v)) := by
  unfold RowsAre at hr ⊢
  rw [List.map_set]
  apply List.ext_getElem?
  intro i
  have hi : (es.map fun e => (e.key, e.val))[i]? = (L.map fun p => (Value.int .i64 p.1, enc p.2))[i]? := by rw [hr]
  simp only [List.getElem?_map, List.getElem?_modify, List.getElem?_set] at hi ⊢
  by_cases hij : j = i
  · subst hij
    rw [hj] at hi
    have hlt : j < L.length := (List.getElem?_eq_some_iff.1 hj).1
    cases he : es[j]? with
    | none => rw [he] at hi; simp at hi
    | some e =>
      rw [he] at hi
      simp only [Option.map_some, Option.some.injEq, Prod.mk.injEq] at hi
      simp [hlt, (hf e).1, (hf e).2, hi.1]
  · simp only [hij, if_false]
    cases he : es[i]? with
    | none => rw [he] at hi; simpa using hi
    | some e => rw [he] at hi; simpa using hi
theorem born_modify {es : List MapEntry} {j : Nat} {f : MapEntry → MapEntry} (hf : ∀ e, (f e).born = e.born) : (es.modify j f).map (·.born) = es.map (·.born) := by
  apply List.ext_getElem?
  intro i
  simp only [List.getElem?_map, List.getElem?_modify]
  by_cases hij : j = i
  · subst hij
    cases es[j]? <;> simp [hf]
  · simp [hij]
theorem MapOk.set {es : Array MapEntry} {clk : Nat} (h : MapOk enc es clk L) {x : Int} {j : Nat} {a v : α} (hl : MP.look L x = some (j, a)) {f : MapEntry → MapEntry} (hf : ∀ e, (f e).key = e.key ∧ (f e).val = enc v ∧ (f e).born = e.born) :
    MapOk enc (es.modify j f) clk (MP.put L x v) := by
  obtain ⟨_, a', h1, _, h3⟩ : ∃ j' a', MP.look L x = some (j', a') ∧ MP.get L x = some a' ∧ L[j']? = some (x, a') := by
    rcases MP.look_spec (L := L) (x := x) with ⟨h1, _⟩ | h1
    · rw [hl] at h1; cases h1
    · exact h1
  rw [hl] at h1
  simp only [Option.some.injEq, Prod.mk.injEq] at h1
  obtain ⟨rfl, rfl⟩ := h1
  have hb : (es.modify j f).toList.map (·.born) = es.toList.map (·.born) := by
    rw [Array.toList_modify]
    exact born_modify (fun e => (hf e).2.2)
  refine ⟨?_, MP.nodup_put h.nodup, by rw [hb]; exact h.born, fun e he => ?_⟩
  · rw [Array.toList_modify, MP.put_at hl]
    exact rows_set h.rows h3 (fun e => ⟨(hf e).1, (hf e).2.1⟩)
  · have : e.born ∈ (es.modify j f).toList.map (·.born) := List.mem_map.2 ⟨e, he, rfl⟩
    rw [hb] at this
    obtain ⟨e', he', hb'⟩ := List.mem_map.1 this
    rw [← hb']
    exact h.lt e' he'
theorem MapOk.push {es : Array MapEntry} {clk : Nat} (h : MapOk enc es clk L) {x : Int} (hl : MP.look L x = none) (v : α) : MapOk enc (es.push ⟨.int .i64 x, enc v, clk⟩) (clk + 1) (MP.put L x v) := by
  refine ⟨?_, MP.nodup_put h.nodup, ?_, fun e he => ?_⟩
  · have := h.rows
    unfold RowsAre at this ⊢
    rw [MP.put_new hl, Array.toList_push, List.map_append, List.map_append, this]
    rfl
  · rw [Array.toList_push, List.map_append, List.nodup_append]
    refine ⟨h.born, by simp, ?_⟩
    intro p hp q hq e
    simp only [List.map_cons, List.map_nil, List.mem_singleton] at hq
    obtain ⟨e', he', rfl⟩ := List.mem_map.1 hp
    have := h.lt e' he'
    omega
  · rw [Array.toList_push, List.mem_append, List.mem_singleton] at he
    rcases he with he | rfl
    · have := h.lt e he; omega
    · simp

/-- 'm[x] = v' where it stands in an assignment of several: the entry, then the store. -/
theorem MapAt.entry {t k e : TypeId} (h : MapAt enc w b L) (ht : P.underlying t = some (.map k e)) (hk : P.underlying k = some (.int .i64)) {z : α} (hz : (zeroValue e).run P w = .ok (enc z) w) (x : Int) :
    ∃ (v0 : Value) (st : Nat) (w1 : World), (Instr.mapEntry t (.map (some b)) (.int .i64 x)).run P w = .ok (.tuple #[v0, .int .i64 st]) w1 ∧ Keeps (· = b) w w1 ∧ w1.heap.size = w.heap.size ∧
      ∀ (u : World) (v : α), u.heap[b]? = w1.heap[b]? → ∃ w2, (Instr.entryStore t (.map (some b)) (.int .i64 st) (enc v)).run P u = .ok () w2 ∧ MapAt enc w2 b (MP.put L x v) ∧ Keeps (· = b) u w2 ∧ w2.heap.size = u.heap.size := by
  obtain ⟨es, clk, hb, hm⟩ := h
  have hf := run_find (P := P) hk hm x w
  rcases MP.look_spec (L := L) (x := x) with ⟨hl, _⟩ | ⟨j, a, hl, _, hj⟩
  · rw [hl] at hf
    have hpush := hm.push hl z
    refine ⟨enc z, clk, { w with heap := w.heap.setIfInBounds b (.map (es.push ⟨.int .i64 x, enc z, clk⟩) (clk + 1)) }, ?_, keeps_set hb, by simp, fun u v hu => ?_⟩
    · simp [Instr.mapEntry, run_underlying ht, MapKept.run_getObj_map hb, run_checkKey hk (isKey_int x), hf, hz, MapKept.run_setObj_map _ hb, Result.andThen, goInt]
    · have hb1 : u.heap[b]? = some (.map (es.push ⟨.int .i64 x, enc z, clk⟩) (clk + 1)) := hu.trans (MapKept.heap_set hb).1
      have hidx : (es.push ⟨.int .i64 x, enc z, clk⟩).findIdx? (fun e => ((e.born : Nat) : Int) == ((clk : Nat) : Int)) = some es.size := by
        rw [WideElems.findIdx_arr]
        exact WideElems.findIdx_born (l := (es.push ⟨.int .i64 x, enc z, clk⟩).toList) (j := es.size) (e0 := ⟨.int .i64 x, enc z, clk⟩) hpush.born (by simp)
      refine ⟨{ u with heap := u.heap.setIfInBounds b (.map ((es.push ⟨.int .i64 x, enc z, clk⟩).modify es.size fun e => { e with val := enc v }) (clk + 1)) }, ?_, ⟨_, _, (MapKept.heap_set hb1).1, ?_⟩, keeps_set hb1, by simp⟩
      · simp [Instr.entryStore, MapKept.run_getObj_map hb1, asInt, asIntOf, hidx, MapKept.run_setObj_map _ hb1, Result.andThen]
      · have e1 : (es.push ⟨.int .i64 x, enc z, clk⟩).modify es.size (fun e => { e with val := enc v }) = es.push ⟨.int .i64 x, enc v, clk⟩ := by
          apply Array.ext'
          rw [Array.toList_modify, Array.toList_push, Array.toList_push, ← Array.length_toList]
          exact WideElems.modify_last _ _ _
        rw [e1]
        exact hm.push hl v
  · rw [hl] at hf
    have hej : ∃ e0, es[j]? = some e0 ∧ e0.key = .int .i64 x ∧ e0.val = enc a := by
      have hi : (es.toList.map fun e => (e.key, e.val))[j]? = (L.map fun p => (Value.int .i64 p.1, enc p.2))[j]? := by rw [hm.rows]
      simp only [List.getElem?_map, hj, Option.map_some] at hi
      cases he : es.toList[j]? with
      | none => rw [he] at hi; simp at hi
      | some e0 =>
        rw [he] at hi
        simp only [Option.map_some, Option.some.injEq, Prod.mk.injEq] at hi
        exact ⟨e0, by simpa using he, hi.1, hi.2⟩
    obtain ⟨e0, he0, hkey, hval⟩ := hej
    have hself : es.modify j (fun e => { e with key := .int .i64 x }) = es := by
      apply Array.ext'
      rw [Array.toList_modify]
      apply List.ext_getElem?
      intro i
      simp only [List.getElem?_modify]
      by_cases hij : j = i
      · subst hij
        have : es.toList[j]? = some e0 := by simpa using he0
        rw [this, ← hkey]
        simp
      · simp [hij]
    refine ⟨enc a, e0.born, { w with heap := w.heap.setIfInBounds b (.map es clk) }, ?_, keeps_set hb, by simp, fun u v hu => ?_⟩
    · simp [Instr.mapEntry, run_underlying ht, MapKept.run_getObj_map hb, run_checkKey hk (isKey_int x), hf, he0, hkey, run_keyThatStays (isKey_int x), hself, MapKept.run_setObj_map _ hb, Result.andThen, goInt]
    · have hb1 : u.heap[b]? = some (.map es clk) := hu.trans (MapKept.heap_set hb).1
      have hidx : es.findIdx? (fun e => ((e.born : Nat) : Int) == ((e0.born : Nat) : Int)) = some j := by
        rw [WideElems.findIdx_arr]
        exact WideElems.findIdx_born hm.born (by simpa using he0)
      refine ⟨{ u with heap := u.heap.setIfInBounds b (.map (es.modify j fun e => { e with val := enc v }) clk) }, ?_, ⟨_, _, (MapKept.heap_set hb1).1, hm.set hl (fun _ => ⟨rfl, rfl, rfl⟩)⟩, keeps_set hb1, by simp⟩
      simp [Instr.entryStore, MapKept.run_getObj_map hb1, asInt, asIntOf, hidx, MapKept.run_setObj_map _ hb1, Result.andThen]

/-- 'm[x] = v' alone. -/
theorem MapAt.update {t k e : TypeId} (h : MapAt enc w b L) (ht : P.underlying t = some (.map k e)) (hk : P.underlying k = some (.int .i64)) (x : Int) (v : α) :
    ∃ w1, (Instr.mapUpdate t (.map (some b)) (.int .i64 x) (enc v)).run P w = .ok () w1 ∧ MapAt enc w1 b (MP.put L x v) ∧ Keeps (· = b) w w1 ∧ w1.heap.size = w.heap.size := by
  obtain ⟨es, clk, hb, hm⟩ := h
  have hf := run_find (P := P) hk hm x w
  rcases MP.look_spec (L := L) (x := x) with ⟨hl, _⟩ | ⟨j, a, hl, _, hj⟩
  · rw [hl] at hf
    refine ⟨{ w with heap := w.heap.setIfInBounds b (.map (es.push ⟨.int .i64 x, enc v, clk⟩) (clk + 1)) }, ?_, ⟨_, _, (MapKept.heap_set hb).1, hm.push hl v⟩, keeps_set hb, by simp⟩
    simp [Instr.mapUpdate, run_underlying ht, MapKept.run_getObj_map hb, run_checkKey hk (isKey_int x), hf, MapKept.run_setObj_map _ hb, Result.andThen]
  · rw [hl] at hf
    have hej : ∃ e0, es[j]? = some e0 ∧ e0.key = .int .i64 x := by
      have hi : (es.toList.map fun e => (e.key, e.val))[j]? = (L.map fun p => (Value.int .i64 p.1, enc p.2))[j]? := by rw [hm.rows]
      simp only [List.getElem?_map, hj, Option.map_some] at hi
      cases he : es.toList[j]? with
      | none => rw [he] at hi; simp at hi
      | some e0 =>
        rw [he] at hi
        simp only [Option.map_some, Option.some.injEq, Prod.mk.injEq] at hi
        exact ⟨e0, by simpa using he, hi.1⟩
    obtain ⟨e0, he0, hkey⟩ := hej
    have hmod : es.modify j (fun e => { e with key := .int .i64 x, val := enc v }) = es.modify j (fun e => { e with val := enc v }) := by
      apply Array.ext'
      rw [Array.toList_modify, Array.toList_modify]
      apply List.ext_getElem?
      intro i
      simp only [List.getElem?_modify]
      by_cases hij : j = i
      · subst hij
        have : es.toList[j]? = some e0 := by simpa using he0
        rw [this]
        simp [hkey]
      · simp [hij]
    refine ⟨{ w with heap := w.heap.setIfInBounds b (.map (es.modify j fun e => { e with val := enc v }) clk) }, ?_, ⟨_, _, (MapKept.heap_set hb).1, hm.set hl (fun _ => ⟨rfl, rfl, rfl⟩)⟩, keeps_set hb, by simp⟩
    simp [Instr.mapUpdate, run_underlying ht, MapKept.run_getObj_map hb, run_checkKey hk (isKey_int x), hf, he0, hkey, run_keyThatStays (isKey_int x), hmod, MapKept.run_setObj_map _ hb, Result.andThen]

/-- 'delete(m, x)'. -/
theorem MapAt.drop {t k e : TypeId} (h : MapAt enc w b L) (ht : P.underlying t = some (.map k e)) (hk : P.underlying k = some (.int .i64)) (x : Int) :
    ∃ w1, (∀ ty : TypeId, (Builtin.delete_ #[t, k] ty #[.map (some b), .int .i64 x]).run P w = .ok (.tuple #[]) w1) ∧ MapAt enc w1 b (MP.del L x) ∧ Keeps (· = b) w w1 ∧ w1.heap.size = w.heap.size := by
  obtain ⟨es, clk, hb, hm⟩ := h
  have hf := run_find (P := P) hk hm x w
  rcases MP.look_spec (L := L) (x := x) with ⟨hl, _⟩ | ⟨j, a, hl, _, hj⟩
  · rw [hl] at hf
    refine ⟨{ w with heap := w.heap.setIfInBounds b (.map es clk) }, fun ty => ?_, ⟨_, _, (MapKept.heap_set hb).1, ?_⟩, keeps_set hb, by simp⟩
    · simp [Builtin.delete_, run_underlying ht, MapKept.run_getObj_map hb, run_checkKey hk (isKey_int x), hf, MapKept.run_setObj_map _ hb, Result.andThen]
    · rw [MP.del_none hl]; exact hm
  · rw [hl] at hf
    have hjl : j < es.size := by
      have hi := congrArg List.length hm.rows
      simp only [List.length_map, Array.length_toList] at hi
      have := (List.getElem?_eq_some_iff.1 hj).1
      omega
    have hto : (es.eraseIdxIfInBounds j).toList = es.toList.eraseIdx j := by
      unfold Array.eraseIdxIfInBounds
      rw [dif_pos hjl, Array.toList_eraseIdx]
    have hsub : (es.toList.eraseIdx j).Sublist es.toList := List.eraseIdx_sublist _ _
    refine ⟨{ w with heap := w.heap.setIfInBounds b (.map (es.eraseIdxIfInBounds j) clk) }, fun ty => ?_, ⟨_, _, (MapKept.heap_set hb).1, ?_⟩, keeps_set hb, by simp⟩
    · simp [Builtin.delete_, run_underlying ht, MapKept.run_getObj_map hb, run_checkKey hk (isKey_int x), hf, MapKept.run_setObj_map _ hb, Result.andThen]
    · refine ⟨?_, MP.nodup_del hm.nodup, ?_, fun e he => ?_⟩
      · rw [hto, MP.del_at hl]
        have := hm.rows
        unfold RowsAre at this ⊢
        rw [ChangeMaps.map_eraseIdx, ChangeMaps.map_eraseIdx, this]
      · rw [hto]
        exact (hsub.map _).nodup hm.born
      · rw [hto] at he
        exact hm.lt e (hsub.subset he)
/-- 'len(m)'. -/
theorem MapAt.len {t k e : TypeId} (h : MapAt enc w b L) (ht : P.underlying t = some (.map k e)) (ty : TypeId) : (Builtin.len_ #[t] ty #[.map (some b)]).run P w = .ok (.int .i64 L.length) w := by
  obtain ⟨es, clk, hb, hm⟩ := h
  have hi := congrArg List.length hm.rows
  simp only [List.length_map, Array.length_toList] at hi
  simp [Builtin.len_, run_underlying ht, MapKept.run_getObj_map hb, Result.andThen, goInt, hi]
end
end Go.Proofs.Ytofabbigngmboaa
