/- A book's ids, rising: slices.Sorted(maps.Keys(m)) at a map keyed by int, over the shelf's contracts. -/
import Derived.Test.YtofabbigngmboaaLaysB
import Derived.Test.YtofabbigngmboaaIdsB
import Derived.Test.YtofabbigngmboaaMap
namespace Go.Proofs.Ytofabbigngmboaa
open Go.Proofs
open Go.RowKit Go.Maps Go.Sort Go.Shelf
open Go.WideElems (Fit rd rg rd_val rd_mk rg_of)
/-- The keys, rising. -/
def MP.rise {α : Type} (L : List (Int × α)) : List Int := (MP.keys L).mergeSort leI
theorem nodup_len : ∀ (n : Nat) (l : List Int), l.Nodup → (∀ x ∈ l, 1 ≤ x ∧ x ≤ n) → l.length ≤ n := by
  intro n
  induction n with
  | zero =>
    intro l _ h
    cases l with
    | nil => simp
    | cons x r =>
      have := h x (by simp)
      omega
  | succ n ih =>
    intro l hn h
    have h1 := ih (l.erase ((n + 1 : Nat) : Int)) (hn.erase _) (fun x hx => by
      have hm := (hn.mem_erase_iff).1 hx
      have := h x hm.2
      have := hm.1
      omega)
    have h2 := List.length_erase (a := ((n + 1 : Nat) : Int)) (l := l)
    split at h2 <;> omega
section
variable {α : Type} {enc : α → Value} {L : List (Int × α)}
/-- How a value reads, where only the keys count. -/
def blind : Value → Option (DataW Unit × List MemPlace) := fun _ => some (.nil, [])
theorem wf_small {x : Int} (h0 : 0 ≤ x) (h1 : x ≤ 1000000) : (Lit.int .i64 x).wf = true := by
  simp [Lit.wf, IntKind.signed, IntKind.bits, IntKind.min, IntKind.max]
  omega
theorem keyOf_small {P : Program} {k : TypeId} (hk : P.underlying k = some (.int .i64)) {x : Int} (h0 : 0 ≤ x) (h1 : x ≤ 1000000) : keyOf P k (.int .i64 x) = some (.int .i64 x) := by
  have := wf_small h0 h1
  simp [keyOf, hk, mapKey, this]
theorem MapOk.owns {P : Program} {k : TypeId} (hk : P.underlying k = some (.int .i64)) {es : Array MapEntry} {clk : Nat} (h : MapOk enc es clk L) (hr : ∀ x ∈ MP.keys L, 1 ≤ x ∧ x ≤ 999) :
    Fit P k blind es clk ∧ es.size = L.length ∧ (intKeys (DataW.map ((es.toList.map (rg P k blind)).foldr DataW.insert []))).Perm (MP.keys L) := by
  have hkeys : es.toList.map (·.key) = (MP.keys L).map (Value.int .i64) := by
    have := congrArg (List.map Prod.fst) h.rows
    simpa [MP.keys, List.map_map, Function.comp_def] using this
  have hlen : es.size = L.length := by
    have := congrArg List.length hkeys
    simpa [MP.keys] using this
  have hll : L.length ≤ 999 := by
    have := nodup_len 999 (MP.keys L) h.nodup (fun x hx => hr x hx)
    simpa [MP.keys] using this
  have hread : ∀ e ∈ es.toList, ∃ x, 1 ≤ x ∧ x ≤ 999 ∧ e.key = .int .i64 x ∧ Go.WideElems.rd P k blind e = some (.int .i64 x, .nil) := by
    intro e he
    have hm : e.key ∈ (MP.keys L).map (Value.int .i64) := by rw [← hkeys]; exact List.mem_map_of_mem he
    obtain ⟨x, hx, hxe⟩ := List.mem_map.1 hm
    obtain ⟨h1, h2⟩ := hr x hx
    refine ⟨x, h1, h2, hxe.symm, ?_⟩
    have hko := keyOf_small hk (x := x) (by omega) (by omega)
    unfold Go.WideElems.rd
    rw [← hxe, hko]
    rfl
  refine ⟨⟨by unfold maxLen; omega, ⟨h.lt, h.born, ?_⟩, fun e he => ?_⟩, hlen, ?_⟩
  · rw [hkeys]
    exact h.nodup.map _ (fun a b hab hne => hab (by simpa using hne))
  · obtain ⟨x, _, _, _, hx⟩ := hread e he
    exact ⟨_, hx⟩
  · have hp : ((es.toList.map (rg P k blind)).foldr DataW.insert []).Perm (es.toList.map (rg P k blind)) := Go.WideShapes.sorted_perm _
    have h1 : (intKeys (DataW.map ((es.toList.map (rg P k blind)).foldr DataW.insert []))).Perm ((es.toList.map (rg P k blind)).map fun p => Go.intOf p.1) := hp.map _
    refine h1.trans (List.Perm.of_eq ?_)
    have h2 : ((es.toList.map (rg P k blind)).map fun p => Go.intOf p.1).map (Value.int .i64) = (MP.keys L).map (Value.int .i64) := by
      rw [← hkeys, List.map_map, List.map_map]
      refine List.map_congr_left fun e he => ?_
      obtain ⟨x, _, _, he', hx⟩ := hread e he
      simp only [Function.comp_def, rg_of hx, he', Go.intOf]
    have inj : ∀ (l l' : List Int), l.map (Value.int .i64) = l'.map (Value.int .i64) → l = l' := by
      intro l
      induction l with
      | nil => intro l' e; cases l' with
        | nil => rfl
        | cons => simp at e
      | cons a r ih => intro l' e; cases l' with
        | nil => simp at e
        | cons b s =>
          simp only [List.map_cons, List.cons.injEq, Value.int.injEq, true_and] at e
          rw [e.1, ih s e.2]
    exact inj _ _ h2
end
theorem sortsA (m : Nat) : AnyZI.SortsIn Try.prog Try.sortedA_ren Fence.wide m :=
  ⟨fun blk off cap ss W hH hblk hsz => callsIn_wide.2 (AnyM.slices_Sort_int Try.sortA blk off cap ss W hH hblk hsz),
   fun p cap W => callsIn_wide.2 (AnyM.slices_Sort_int_none Try.sortA p cap W)⟩
theorem keys_to (mb : Option Nat) (W : World) : Calls Try.prog 53 #[.map mb] W fun e w' => e = .returned (.func (.func 57) #[] #[.pointer (some ⟨W.heap.size, 0, none⟩)]) ∧ w' = W.alloc (.cells #[.map mb] 73) :=
  (callsIn_wide (n := 6)).1 (AnyZI.keys_in Try.keysA Fence.wide 6 trivial rfl mb W)
/-- slices.Sorted at what maps.Keys hands back. -/
theorem sorted_to {α : Type} {enc : α → Value} {L : List (Int × α)} (b B : Nat) (w : World) (h : MapAt enc w b L) (hr : ∀ x ∈ MP.keys L, 1 ≤ x ∧ x ≤ 999) (hB : B < w.heap.size) (hc : w.cell? ⟨B, 0, none⟩ = some (.map (some b))) :
    Calls Try.prog 52 #[.func (.func 57) #[] #[.pointer (some ⟨B, 0, none⟩)]] w fun e w' => ∃ v, e = .returned v ∧ NumOwn w' w.heap.size v (MP.rise L) ∧ Keeps (fun _ => False) w w' := by
  obtain ⟨es, clk, hb, hok⟩ := h
  obtain ⟨F, hsz, hp⟩ := hok.owns (P := Try.prog) (k := 3) Try.underlying3 hr
  have hll : L.length ≤ 999 := by
    have := nodup_len 999 (MP.keys L) hok.nodup (fun x hx => hr x hx)
    simpa [MP.keys] using this
  have hsD : Maps.size (DataW.map ((es.toList.map (rg Try.prog 3 blind)).foldr DataW.insert [])) = L.length := by
    rw [Maps.size_eq, length_sorted, List.length_map, Array.length_toList, hsz]
  have hown : w.ownsMap Try.prog 3 blind b es.size (DataW.map ((es.toList.map (rg Try.prog 3 blind)).foldr DataW.insert [])) := ⟨es, clk, hb, F, Nat.le_refl _, rfl⟩
  have hseq := AnyZI.keys_gives (ρ := Try.keysA_ren) { Try.keysA with } Fence.wide 2 trivial rfl (by omega) B b es.size _ w hB hc hown
  have cS := AnyZI.sorted_in Try.sortedA Fence.wide 5 trivial trivial trivial trivial rfl (by omega) (sortsA _) (enters_of Try.func56 (by kernel_rfl) rfl) 57 #[.pointer (some ⟨B, 0, none⟩)] trivial (enters_of Try.func57 (by kernel_rfl) rfl) _ _ (by rw [hsD]; unfold maxLen; omega) (by rw [hsD]; omega) _ hseq
  change CallsIn _ _ Try.prog 52 _ _ _ at cS
  refine ((callsIn_wide (n := 5)).1 cS).mono ?_
  rintro e w' ⟨v, ss, rfl, hS, hrow, hnil, hb⟩
  refine ⟨v, rfl, ?_, Keeps.of_below hb _⟩
  have e1 : ss.mergeSort leI = MP.rise L := mergeSort_of_perm_i (hS.trans hp)
  unfold NumOwn
  rw [← e1]
  have e2 : (ss.mergeSort leI).length = ss.length := List.length_mergeSort ..
  rw [e2]
  exact hrow
end Go.Proofs.Ytofabbigngmboaa
