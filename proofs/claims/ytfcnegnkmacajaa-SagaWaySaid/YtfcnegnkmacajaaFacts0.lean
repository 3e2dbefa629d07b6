/- The facts of an order, plainly, and package saga's either, both, walked. (printed by gen/sagamay.py) -/
import Derived.Test.YtfcnegnkmacajaaBools2
namespace Go.Proofs.Ytfcnegnkmacajaa
open Go.RowKit
structure Fct where
  done : List Bool
  undone : List Bool
  asked : Bool
  yes : Bool
  turned : Bool
  a0 : Bool
  a1 : Bool
  shipped : Bool
  d0 : Bool
  d1 : Bool
  acc : Bool
def Fct.may (o : Ord) (f : Fct) : Bool := o.may && (f.done.length == o.steps.length) && (f.undone.length == o.steps.length) && !(f.yes && f.turned) && !(f.yes && (hasB f.done false || hasB f.undone true || !f.asked)) &&
  !(hasB f.undone true && !f.turned) && !(f.shipped && !f.yes) && !((f.a0 || f.a1 || f.d0 || f.d1) && !f.yes && !f.turned) && (firstB f.done || f.turned) && lastB f.undone
theorem either_to (x y r : Bool) (w : World) (h : (x || y) = r) : Calls Try.prog 29 #[.agg #[.bool x, .bool y]] w (fun e w' => e = .returned (.bool r) ∧ Keeps (fun _ => False) w w') := by
  subst h
  cases x with
  | true =>
    go_enter Try.func29, Try.ntmps29
    go_wp2
    go_ret
    exact ⟨rfl, (Keeps.refl _ w).alloc _⟩
  | false =>
    go_enter Try.func29, Try.ntmps29
    go_wp2
    go_ret
    exact ⟨rfl, (Keeps.refl _ w).alloc _⟩
theorem both_to (x y r : Bool) (w : World) (h : (x && y) = r) : Calls Try.prog 39 #[.agg #[.bool x, .bool y]] w (fun e w' => e = .returned (.bool r) ∧ Keeps (fun _ => False) w w') := by
  subst h
  cases x with
  | true =>
    go_enter Try.func39, Try.ntmps39
    go_wp2
    go_ret
    exact ⟨rfl, (Keeps.refl _ w).alloc _⟩
  | false =>
    go_enter Try.func39, Try.ntmps39
    go_wp2
    go_ret
    exact ⟨rfl, (Keeps.refl _ w).alloc _⟩
/-- The rows of an order and of its facts lie there. -/
structure FcAt (w : World) (o : Ord) (a : Option Addr) (c : Nat) (f : Fct) (da : Option Addr) (ua : Option Addr) : Prop where
  steps : StRow w a o.steps
  sm : o.steps.length ≤ maxLen
  done : BlRow w da f.done
  dm : f.done.length ≤ maxLen
  undone : BlRow w ua f.undone
  um : f.undone.length ≤ maxLen
theorem FcAt.keeps {w w' : World} {o : Ord} {a da ua : Option Addr} {c : Nat} {f : Fct} (h : FcAt w o a c f da ua) (k : Keeps (fun _ => False) w w') : FcAt w' o a c f da ua :=
  ⟨h.steps.quiet k, h.sm, h.done.quiet k, h.dm, h.undone.quiet k, h.um⟩
theorem FcAt.alloc {w : World} {o : Ord} {a da ua : Option Addr} {c : Nat} {f : Fct} (h : FcAt w o a c f da ua) (x : Obj) : FcAt (w.alloc x) o a c f da ua := h.keeps ((Keeps.refl _ w).alloc x)
theorem blk11 {W : World} {b T : Nat} {v0 v1 v2 v3 v4 v5 v6 v7 v8 v9 v10 : Value} (h : Blk W b T [v0, v1, v2, v3, v4, v5, v6, v7, v8, v9, v10]) :
    W.cell? ⟨b, 0, none⟩ = some v0 ∧ W.cell? ⟨b, 1, none⟩ = some v1 ∧ W.cell? ⟨b, 2, none⟩ = some v2 ∧ W.cell? ⟨b, 3, none⟩ = some v3 ∧ W.cell? ⟨b, 4, none⟩ = some v4 ∧ W.cell? ⟨b, 5, none⟩ = some v5 ∧ W.cell? ⟨b, 6, none⟩ = some v6 ∧ W.cell? ⟨b, 7, none⟩ = some v7 ∧ W.cell? ⟨b, 8, none⟩ = some v8 ∧ W.cell? ⟨b, 9, none⟩ = some v9 ∧ W.cell? ⟨b, 10, none⟩ = some v10 :=
  ⟨h.cell 0 rfl, h.cell 1 rfl, h.cell 2 rfl, h.cell 3 rfl, h.cell 4 rfl, h.cell 5 rfl, h.cell 6 rfl, h.cell 7 rfl, h.cell 8 rfl, h.cell 9 rfl, h.cell 10 rfl⟩
theorem blk6 {W : World} {b T : Nat} {v0 v1 v2 v3 v4 v5 : Value} (h : Blk W b T [v0, v1, v2, v3, v4, v5]) :
    W.cell? ⟨b, 0, none⟩ = some v0 ∧ W.cell? ⟨b, 1, none⟩ = some v1 ∧ W.cell? ⟨b, 2, none⟩ = some v2 ∧ W.cell? ⟨b, 3, none⟩ = some v3 ∧ W.cell? ⟨b, 4, none⟩ = some v4 ∧ W.cell? ⟨b, 5, none⟩ = some v5 :=
  ⟨h.cell 0 rfl, h.cell 1 rfl, h.cell 2 rfl, h.cell 3 rfl, h.cell 4 rfl, h.cell 5 rfl⟩
end Go.Proofs.Ytfcnegnkmacajaa
