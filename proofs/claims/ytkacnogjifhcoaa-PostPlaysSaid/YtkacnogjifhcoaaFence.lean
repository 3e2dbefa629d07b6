/- Words for a range over a function, at my own 'Keeps'. Nothing here speaks of the program. -/
import Derived.RangeFuncNested
import Derived.RangeFuncBound
import Derived.RangeFuncCalls
import Derived.RangeFuncLeaves
import Derived.Shelf.Abstract
import Derived.Shelf.RegionOpen
import Derived.WalkKit
import Derived.OwnWalkIn
import Derived.TacticsInMore
import Derived.LoopNIn
import Derived.LoopIn
import Derived.Test.YtkacnogjifhcoaaRow
namespace Go.Proofs.Ytkacnogjifhcoaa
open Go.RowKit Go.Shelf
/-- What has come when k rounds are over. -/
def uptoF {α : Type} (f : Nat → α) (k : Nat) : List α := (List.range k).map f
theorem uptoF_succ {α : Type} (f : Nat → α) (k : Nat) : uptoF f (k + 1) = uptoF f k ++ [f k] := by simp [uptoF, List.range_succ]
theorem uptoF_length {α : Type} (f : Nat → α) (k : Nat) : (uptoF f k).length = k := by simp [uptoF]
theorem uptoF_mem {α : Type} {f : Nat → α} {k : Nat} {x : α} : x ∈ uptoF f k ↔ ∃ j, j < k ∧ f j = x := by simp [uptoF]
theorem keepsK_t {T : Nat → Prop} {A B C : World} (h : Keeps T A B) (k : Keeps T B C) : Keeps T A C := h.trans k
theorem keepsK_b {T : Nat → Prop} {w : World} (hT : ∀ k, w.heap.size ≤ k → T k) (W : World) (l : Nat) (o o' : Obj) (hl : w.heap.size ≤ l) (_ : W.heap[l]? = some o) (_ : o.isCells = false) (_ : o.isWalk = false) : Keeps T W (W.putObj l o') :=
  (Keeps.of_grown (grownBy_putObj' W l o')).mono (fun k _ e => by cases e; exact hT _ hl)
theorem keepsQ_b {w0 : World} (W : World) (D : Nat) (o o' : Obj) (hD : w0.heap.size ≤ D) (_ : W.heap[D]? = some o) {S : Nat → Prop} (hk : Keeps S w0 W) : Keeps S w0 (W.putObj D o') :=
  hk.then (Keeps.of_grown (grownBy_putObj' W D o')) (fun i hi e => by cases e; omega)
theorem ownFrom_keeps {β : Type} {B : Nat} {w0 : World} {S : Nat → Prop} (hB : w0.heap.size ≤ B) : OwnFrom B (fun (_ : β) W => Keeps S w0 W) :=
  fun _ X Y row hs hg hr => hs.then (Keeps.of_grown hg) (fun i hi e => by have := (hr i e).1; omega)
theorem ownFrom_blk {β : Type} {B b : Nat} {T : TypeId} (f : β → List Value) : OwnFrom B (fun s W => Blk W b T (f s)) :=
  fun s X Y row hs hg hr => hs.keeps (Keeps.of_grown hg) (fun e => by
    obtain ⟨o, ho, hc⟩ := (hr b e).2
    have h1 : X.heap[b]? = _ := hs
    rw [h1] at ho
    cases ho
    cases hc)
theorem ownFrom_pure' {β : Type} (B : Nat) (p : β → Prop) : OwnFrom B (fun s (_ : World) => p s) := fun _ _ _ _ hs _ _ => hs
theorem row_cells {w : World} {base : Nat} {e : TypeId} {size : Nat} {v : Value} {n : Nat} {xs : List Value} (h : w.ownsRow base e size v n xs) {Y : World} {row : Option Nat} (hg : w.grownBy Y row) (hr : ∀ r, row = some r → ∃ o : Obj, w.heap[r]? = some o ∧ o.isCells = false) : Y.ownsRow base e size v n xs :=
  ownsRow_keeps h (Keeps.of_grown hg) (fun g hgb e => by
    obtain ⟨o, ho, hc⟩ := hr g e
    rcases h.2 with ⟨rfl, _⟩ | ⟨g', cap, cur, rfl, _, hh, _⟩
    · cases hgb
    · simp only [Value.ownBlock, Option.some.injEq] at hgb
      subst hgb
      rw [hh] at ho
      cases ho
      cases hc)
theorem Keeps.others {S : Nat → Prop} {W W' : World} (k : Keeps S W W') (hS : ∀ j o, S j → W.heap[j]? = some o → o.isCells = true) : KeepsOthers W W' :=
  ⟨k.size, fun j o hj ho => (k.block j (Array.getElem?_eq_some_iff.1 hj).1 (fun s => by rw [hS j o s hj] at ho; cases ho)).trans hj⟩
theorem row_isCells {w : World} {base : Nat} {e : TypeId} {size : Nat} {v : Value} {n : Nat} {xs : List Value} (h : w.ownsRow base e size v n xs) : ∀ j o, v.ownBlock = some j → w.heap[j]? = some o → o.isCells = true := by
  intro j o hj ho
  rcases h.2 with ⟨rfl, _⟩ | ⟨g', cap, cur, rfl, _, hh, _⟩
  · cases hj
  · simp only [Value.ownBlock, Option.some.injEq] at hj
    subst hj
    rw [hh] at ho
    cases ho
    rfl
/-- An append whose run is known, inside a fence. -/
theorem wpListIn_append_run {F : Fence} {n : Nat} {P : Program} {ops : Array Oper} {rest : List Oper} {o : Oper} {a : Act} {Q : Exit → Act → World → Prop} {w w' : World} {v v' u : Value} (hgd : o.guard = none) (s x : Operand) (t : TypeId)
    (ho : o.op = .call { callee := .builtin .append, args := #[s, x], argTypes := #[t, t] }) (hs : a.eval s = v) (hx : a.eval x = u)
    (hr : (Builtin.append_ #[t, t] o.type #[v, u]).run P w = .ok v' w') (h : wpListIn F n P ops Q rest (a.put o.dst v') w') : wpListIn F n P ops Q (o :: rest) a w := by
  refine wpListIn_plain hgd fun K hK => ?_
  unfold Oper.wpIn
  refine ⟨?_, ?_⟩
  · simp [Oper.about, ho, resolve, Target.leads, Sem.run_pure]
  · rw [Oper.semAt_plain F _ _ (by rw [ho]; intro c hc'; cases hc')]
    simp [execOp, ho, resolve, invoke, builtin, hs, hx, hr, Result.andThen]
    exact hK _ _ h
end Go.Proofs.Ytkacnogjifhcoaa
