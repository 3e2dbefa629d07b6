/- Words for what a call answers. Nothing here speaks of the program. No condition. -/
import Derived.Test.YtofabbigngmboaaLib
namespace Go.Proofs.Ytofabbigngmboaa
open Go.RowKit
/-- What a call answers, what it leaves, and that it turned nothing but S. -/
def Rets (w : World) (S : Nat → Prop) (r : Value) (Q : World → Prop) (e : Ending) (w' : World) : Prop := e = .returned r ∧ Q w' ∧ Keeps S w w'
/-- It answers true, and of what lay there nothing has turned. -/
def Yes (w : World) (e : Ending) (w' : World) : Prop := e = .returned (.bool true) ∧ Below w.heap.size w w'
/-- It answers r, and nothing at all has turned. -/
def Says (w : World) (r : Value) (e : Ending) (w' : World) : Prop := e = .returned r ∧ w = w'
theorem quiet_rets {P : Program} {f : FuncId} {args : Array Value} {w : World} {n : Nat} {v : Value} {S : Nat → Prop} (h : Calls P f args (w.drewN n) (Rets (w.drewN n) S v fun w' => w.drewN n = w')) :
    Calls P f args (w.drewN n) fun e w'' => e = .returned v ∧ ∃ m, w'' = w.drewN m := h.mono fun _ _ ⟨he, hm, _⟩ => ⟨he, n, hm.symm⟩
theorem quiet_says {P : Program} {f : FuncId} {args : Array Value} {w : World} {n : Nat} {v : Value} (h : Calls P f args (w.drewN n) (Says (w.drewN n) v)) :
    Calls P f args (w.drewN n) fun e w'' => e = .returned v ∧ ∃ m, w'' = w.drewN m := h.mono fun _ _ ⟨he, hm⟩ => ⟨he, n, hm.symm⟩
theorem below_draws {B : Nat} {a b : World} (h : Below B a b) (n : Nat) : Below B a (b.drewN n) := ⟨h.os, h.tape, h.output, h.size, h.block⟩
/-- A row of ints, cell by cell. -/
def IntCells (w : World) (a : Option Addr) (len : Nat) (zs : Nat → Int) : Prop :=
  ∃ b off, (a = some ⟨b, off, none⟩ ∨ len = 0) ∧ ∀ i, i < len → w.cell? ⟨b, off + i, none⟩ = some (.int .i64 (zs i))
theorem IntCells.drewN {w : World} {a : Option Addr} {len : Nat} {zs : Nat → Int} (h : IntCells w a len zs) (n : Nat) : IntCells (w.drewN n) a len zs := h
/-- It answers r, and only draws. -/
def Draws (w : World) (r : Value) (e : Ending) (w' : World) : Prop := e = .returned r ∧ ∃ n, w' = w.drewN n
theorem quiet_draws {P : Program} {f : FuncId} {args : Array Value} {w : World} {n : Nat} {v : Value} (h : Calls P f args (w.drewN n) (Draws (w.drewN n) v)) :
    Calls P f args (w.drewN n) fun e w'' => e = .returned v ∧ ∃ m, w'' = w.drewN m := Calls.quiet_of (h.mono fun _ _ h => h)
end Go.Proofs.Ytofabbigngmboaa
