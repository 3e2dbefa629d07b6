/- Rows of bools as functions; make([]bool, n). (pieces of Bools, Bools2 and Made, for a seat without saga) -/
import Derived.Test.YtjlfkpimjjnolaaRows
import Derived.Test.YtjlfkpimjjnolaaSay
import Derived.Test.YtjlfkpimjjnolaaOrd
import Derived.Deep.OwnRows
namespace Go.Proofs.Ytjlfkpimjjnolaa
open Go.RowKit
def encB (x : Bool) : Value := .bool x
theorem infoB : (Try.prog.info? 4).map (fun i => (i.zero, i.size, i.bytes)) = some (some (.bool false), 1, 1) := by kernel_rfl
def rowF (n : Nat) (h : Nat → Bool) : List Bool := (List.range n).map h
theorem rowF_get (n : Nat) (h : Nat → Bool) {i : Nat} (hi : i < n) : (rowF n h)[i]? = some (h i) := by
  unfold rowF; rw [List.getElem?_map, List.getElem?_range hi]; rfl
theorem rowF_len (n : Nat) (h : Nat → Bool) : (rowF n h).length = n := by simp [rowF]
theorem rowF_congr {n : Nat} {h h' : Nat → Bool} (e : ∀ i, i < n → h i = h' i) : rowF n h = rowF n h' := by
  unfold rowF
  exact List.map_congr_left (fun i hi => e i (List.mem_range.1 hi))
theorem rowF_set (n : Nat) (h : Nat → Bool) (k : Nat) (v : Bool) : (rowF n h).set k v = rowF n (fun i => if i = k then v else h i) := by
  apply List.ext_getElem?
  intro i
  rw [List.getElem?_set]
  by_cases hi : i < n
  · rw [rowF_get _ _ hi, rowF_get _ _ hi, rowF_len]
    by_cases e : k = i
    · subst e; simp [hi]
    · rw [if_neg e]
      have : ¬ i = k := fun h => e h.symm
      simp [this]
  · have h1 : (rowF n h)[i]? = none := List.getElem?_eq_none (by rw [rowF_len]; omega)
    have h2 : (rowF n (fun i => if i = k then v else h i))[i]? = none := List.getElem?_eq_none (by rw [rowF_len]; omega)
    rw [h1, h2, rowF_len]
    by_cases e : k = i
    · subst e; simp [hi]
    · rw [if_neg e]
theorem made_eq (n : Nat) (z : Value) : madeCells #[z] n = (List.replicate n z).toArray := by
  apply Array.ext
  · simp [madeCells]
  · intro i h1 h2
    have h3 : i < n := by simpa using h2
    simp [madeCells, Nat.mod_one]
theorem made_bools (n : Nat) (hn : n ≤ 100000) (w : World) : (Instr.makeSlice 41 (.int .i64 n) (.int .i64 n)).run Try.prog w = .ok (.slice (some ⟨w.heap.size, 0, none⟩) n n) (w.alloc (.cells ((rowF n (fun _ => false)).map encB).toArray 4)) := by
  have h := run_make_row' (P := Try.prog) 41 4 (.bool false) 1 Try.underlying41 infoB rfl .i64 .i64 n (by omega) (by omega) w
  have e : (rowF n (fun _ => false)).map encB = List.replicate n (.bool false) := by
    unfold rowF encB
    rw [List.map_map]
    apply List.ext_getElem?
    intro i
    by_cases hi : i < n
    · rw [List.getElem?_map, List.getElem?_range hi, List.getElem?_replicate, if_pos hi]; rfl
    · rw [List.getElem?_eq_none (by simp; omega), List.getElem?_eq_none (by simp; omega)]
  rw [h, made_eq, e]
theorem rowF_at {n k : Nat} {h : Nat → Bool} (hk : k < n) : ((rowF n h).map encB)[k]? = some (.bool (h k)) := by
  rw [List.getElem?_map, rowF_get n h hk]; rfl
theorem rowF_put (n : Nat) (h : Nat → Bool) (k : Nat) (v : Bool) : ((rowF n h).map encB).set k (.bool v) = (rowF n (fun i => if i = k then v else h i)).map encB := by
  rw [← rowF_set, show (Value.bool v) = encB v from rfl, List.map_set]
end Go.Proofs.Ytjlfkpimjjnolaa
