/- Words for a range over a function, at my own 'Keeps'. Nothing here speaks of the program. -/
import Derived.RangeFuncNested
import Derived.RangeFuncBound
import Derived.RangeFuncCalls
import Derived.RangeFuncLeaves
import Derived.Shelf.Abstract
import Derived.Shelf.RegionOpen
import Derived.WalkKit
import Derived.OwnWalkIn
import Derived.TacticsInMore
import Derived.LoopNIn
import Derived.LoopIn
import Derived.Test.YtfcnegnkmacajaaRow
namespace Go.Proofs.Ytfcnegnkmacajaa
open Go.RowKit Go.Shelf
/-- What has come when k rounds are over. -/
def uptoF {α : Type} (f : Nat → α) (k : Nat) : List α := (List.range k).map f
theorem uptoF_succ {α : Type} (f : Nat → α) (k : Nat) : uptoF f (k + 1) = uptoF f k ++ [f k] := by simp [uptoF, List.range_succ]
theorem uptoF_length {α : Type} (f : Nat → α) (k : Nat) : (uptoF f k).length = k := by simp [uptoF]
theorem uptoF_mem {α : Type} {f : Nat → α} {k : Nat} {x : α} : x ∈ uptoF f k ↔ ∃ j, j < k ∧ f j = x := by simp [uptoF]
theorem keepsK_t {T : Nat → Prop} {A B C : World} (h : Keeps T A B) (k : Keeps T B C) : Keeps T A C := h.trans k
theorem keepsK_b {T : Nat → Prop} {w : World} (hT : ∀ k, w.heap.size ≤ k → T k) (W : World) (l : Nat) (o o' : Obj) (hl : w.heap.size ≤ l) (_ : W.heap[l]? = some o) (_ : o.isCells = false) (_ : o.isWalk = false) : Keeps T W (W.putObj l o') :=
  (Keeps.of_grown (grownBy_putObj' W l o')).mono (fun k _ e => by cases e; exact hT _ hl)
theorem keepsQ_b {w0 : World} (W : World) (D : Nat) (o o' : Obj) (hD : w0.heap.size ≤ D) (_ : W.heap[D]? = some o) {S : Nat → Prop} (hk : Keeps S w0 W) : Keeps S w0 (W.putObj D o') :=
  hk.then (Keeps.of_grown (grownBy_putObj' W D o')) (fun i hi e => by cases e; omega)
theorem ownFrom_keeps {β : Type} {B : Nat} {w0 : World} {S : Nat → Prop} (hB : w0.heap.size ≤ B) : OwnFrom B (fun (_ : β) W => Keeps S w0 W) :=
  fun _ X Y row hs hg hr => hs.then (Keeps.of_grown hg) (fun i hi e => by have := (hr i e).1; omega)
theorem ownFrom_blk {β : Type} {B b : Nat} {T : TypeId} (f : β → List Value) : OwnFrom B (fun s W => Blk W b T (f s)) :=
  fun s X Y row hs hg hr => hs.keeps (Keeps.of_grown hg) (fun e => by
    obtain ⟨o, ho, hc⟩ := (hr b e).2
    have h1 : X.heap[b]? = _ := hs
    rw [h1] at ho
    cases ho
    cases hc)
theorem ownFrom_pure' {β : Type} (B : Nat) (p : β → Prop) : OwnFrom B (fun s (_ : World) => p s) := fun _ _ _ _ hs _ _ => hs
theorem row_cells {w : World} {base : Nat} {e : TypeId} {size : Nat} {v : Value} {n : Nat} {xs : List Value} (h : w.ownsRow base e size v n xs) {Y : World} {row : Option Nat} (hg : w.grownBy Y row) (hr : ∀ r, row = some r → ∃ o : Obj, w.heap[r]? = some o ∧ o.isCells = false) : Y.ownsRow base e size v n xs :=
  ownsRow_keeps h (Keeps.of_grown hg) (fun g hgb e => by
    obtain ⟨o, ho, hc⟩ := hr g e
    rcases h.2 with ⟨rfl, _⟩ | ⟨g', cap, cur, rfl, _, hh, _⟩
    · cases hgb
    · simp only [Value.ownBlock, Option.some.injEq] at hgb
      subst hgb
      rw [hh] at ho
      cases ho
      cases hc)
end Go.Proofs.Ytfcnegnkmacajaa
