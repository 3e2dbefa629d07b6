/- make([]bool, n); rows of bools as functions; whole numbers brought into range. -/
import Derived.Test.YtfcnegnkmacajaaDecide
import Derived.Deep.OwnRows
namespace Go.Proofs.Ytfcnegnkmacajaa
open Go.RowKit
theorem made_eq (n : Nat) (z : Value) : madeCells #[z] n = (List.replicate n z).toArray := by
  apply Array.ext
  · simp [madeCells]
  · intro i h1 h2
    have h3 : i < n := by simpa using h2
    simp [madeCells, Nat.mod_one]
theorem made_bools (n : Nat) (hn : n ≤ 100000) (w : World) : (Instr.makeSlice 28 (.int .i64 n) (.int .i64 n)).run Try.prog w = .ok (.slice (some ⟨w.heap.size, 0, none⟩) n n) (w.alloc (.cells ((rowF n (fun _ => false)).map encB).toArray 4)) := by
  have h := run_make_row' (P := Try.prog) 28 4 (.bool false) 1 Try.underlying28 infoB rfl .i64 .i64 n (by omega) (by omega) w
  have e : (rowF n (fun _ => false)).map encB = List.replicate n (.bool false) := by
    unfold rowF encB
    rw [List.map_map]
    apply List.ext_getElem?
    intro i
    by_cases hi : i < n
    · rw [List.getElem?_map, List.getElem?_range hi, List.getElem?_replicate, if_pos hi]; rfl
    · rw [List.getElem?_eq_none (by simp; omega), List.getElem?_eq_none (by simp; omega)]
  rw [h, made_eq, e]
theorem mod_nat (k m : Int) (h0 : 0 < m) (h1 : m ≤ 1000000) : ∃ j : Nat, wrap64 ((IntKind.u64.wrap k).tmod m) = (j : Int) ∧ (j : Int) < m := by
  obtain ⟨h2, h3⟩ := mod_range k m h0 (by omega)
  exact ⟨(wrap64 ((IntKind.u64.wrap k).tmod m)).toNat, by omega, by omega⟩
theorem blRow_of {w : World} {b n : Nat} {T : TypeId} {h : Nat → Bool} (hb : Blk w b T ((rowF n h).map encB)) : BlRow w (some ⟨b, 0, none⟩) (rowF n h) := by
  intro k x hk
  refine ⟨b, 0, rfl, hb.lt, ?_⟩
  rw [Nat.zero_add]
  exact hb.cell k (by rw [List.getElem?_map, hk]; rfl)
theorem rowF_at {n k : Nat} {h : Nat → Bool} (hk : k < n) : ((rowF n h).map encB)[k]? = some (.bool (h k)) := by
  rw [List.getElem?_map, rowF_get n h hk]; rfl
theorem rowF_put (n : Nat) (h : Nat → Bool) (k : Nat) (v : Bool) : ((rowF n h).map encB).set k (.bool v) = (rowF n (fun i => if i = k then v else h i)).map encB := by
  rw [← rowF_set, show (Value.bool v) = encB v from rfl, List.map_set]
theorem hasB_rowF {n : Nat} {h : Nat → Bool} {b : Bool} (hh : ∀ i, i < n → h i = !b) : hasB (rowF n h) b = false := by
  cases e : hasB (rowF n h) b with
  | false => rfl
  | true =>
    obtain ⟨x, hx, hp⟩ := List.any_eq_true.1 e
    obtain ⟨k, hk⟩ := List.mem_iff_getElem?.1 hx
    have hl := (List.getElem?_eq_some_iff.1 hk).1
    rw [rowF_len] at hl
    rw [rowF_get _ _ hl, hh k hl] at hk
    simp only [Option.some.injEq] at hk
    subst hk
    cases b <;> simp [isB] at hp
theorem firstB_rowF {n : Nat} {h : Nat → Bool} (hh : ∀ i, i + 1 < n → h (i + 1) = true → h i = true) : firstB (rowF n h) = true := by
  rw [firstB_iff]
  intro k x y hx hy
  have hl := (List.getElem?_eq_some_iff.1 hy).1
  rw [rowF_len] at hl
  rw [rowF_get _ _ hl] at hy
  rw [rowF_get _ _ (by omega)] at hx
  simp only [Option.some.injEq] at hx hy
  subst hx
  subst hy
  cases e : h (k + 1) with
  | false => rfl
  | true => rw [hh k hl e]; rfl
theorem lastB_rowF {n : Nat} {h : Nat → Bool} (hh : ∀ i, i + 1 < n → h i = true → h (i + 1) = true) : lastB (rowF n h) = true := by
  unfold lastB
  rw [rowF_rev]
  refine (congrArg (fun L => firstB L) (?_ : _ = rowF n (fun i => h (n - 1 - i)))).trans (firstB_rowF (fun i hi he => ?_))
  · rw [rowF_len]
    refine rowF_congr (fun i hi => ?_)
    rw [List.getD_eq_getElem?_getD, rowF_get _ _ (by omega)]; rfl
  · have := hh (n - 1 - (i + 1)) (by omega) he
    rwa [show n - 1 - (i + 1) + 1 = n - 1 - i by omega] at this
end Go.Proofs.Ytfcnegnkmacajaa
