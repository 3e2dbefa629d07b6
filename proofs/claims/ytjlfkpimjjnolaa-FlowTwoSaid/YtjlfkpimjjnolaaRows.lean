/-
  No cell of these rows narrows 'for every input' (looked for: loops, veiled, ifaces, maps, wideKeys, modest, calm, conditions, laid).
  DERIVED. THE GIVEN ROWS OF THIS SEAT. 8 by the template 'for every input the law returns true; each argument reads behind the call as it read before'; 0 by the template 'total and deterministic' (their statements: YtjlfkpimjjnolaaTotals.lean).
  GIVEN WITH THE SEED: the statements are not yours to turn. If you find one false, say at which input.
  Laid BY PROGRAM, IN A SANDBOX (cutbox-rows.mjs): the forced cells as the released guide's own fill.sh prints them over the translation d8b53a6288380626… (all of the seat's roots in one cut). By AI agents, Wed Nov 11 2026. No macro, syntax, notation, axiom, sorry.
-/
import Derived.Test.YtjlfkpimjjnolaaChecked
import GoSem.Claim
import GoSem.ClaimJoined
import GoSem.ClaimMapViews
import Derived.JoinedTies
import Derived.KernelRfl
namespace Go.Proofs.Ytjlfkpimjjnolaa
/- THE CELL 'sum', in the pinned program and in every row, IS THE sha256 OF THE DUMP (.gsa) THAT YtjlfkpimjjnolaaProg.lean LOADS. Nothing in Lean hashes anything: it is a label: what it is worth is what the hold of that sum in a sandbox is worth. -/
noncomputable def Try.pinned : Pinned := { name := "ytjlfkpimjjnolaa", sum := "d8b53a6288380626c8f2f9fabdaf8760e195b84b06ef23d20d5fe9e1f62cef46", checked := Try.checked }
namespace Rows
def none {H : Type} : Left H := { results := [], args := [] }

/-- 'wharfingerlaw6.FlowBegins': WHATEVER THE INPUT: true; the input reads as it did. -/
def flowBeginsSpec : ChangeSpec := { name := "flowBegins", fn := fun _ => fun
  | [d1, d2, d3] => { results := [.lit (.bool true)], args := [d1, d2, d3] }
  | _ => none }
def flowBeginsRow : OpenClaim := { program := "ytjlfkpimjjnolaa", sum := "d8b53a6288380626c8f2f9fabdaf8760e195b84b06ef23d20d5fe9e1f62cef46", func := "wharfinger/wharfingerlaw6.FlowBegins", spec := "flowBegins", unfollowed := true, recurses := true, apart := false }
def FlowBeginsSaid : Prop := flowBeginsRow.holds Try.pinned (OpenSpec.ofChange flowBeginsSpec)

/-- ITS FALSE NEIGHBOUR: 'it returns false'. Refute it at one input. -/
def flowBeginsWrong : ChangeSpec := { name := "flowBegins", fn := fun _ => fun
  | [d1, d2, d3] => { results := [.lit (.bool false)], args := [d1, d2, d3] }
  | _ => none }
def FlowBeginsWrongFalsely : Prop := flowBeginsRow.holds Try.pinned (OpenSpec.ofChange flowBeginsWrong)

/-- 'wharfingerlaw6.FlowTwo': WHATEVER THE INPUT: true; the input reads as it did. -/
def flowTwoSpec : ChangeSpec := { name := "flowTwo", fn := fun _ => fun
  | [d1, d2] => { results := [.lit (.bool true)], args := [d1, d2] }
  | _ => none }
def flowTwoRow : OpenClaim := { program := "ytjlfkpimjjnolaa", sum := "d8b53a6288380626c8f2f9fabdaf8760e195b84b06ef23d20d5fe9e1f62cef46", func := "wharfinger/wharfingerlaw6.FlowTwo", spec := "flowTwo", unfollowed := true, recurses := true, apart := false }
def FlowTwoSaid : Prop := flowTwoRow.holds Try.pinned (OpenSpec.ofChange flowTwoSpec)

/-- ITS FALSE NEIGHBOUR: 'it returns false'. Refute it at one input. -/
def flowTwoWrong : ChangeSpec := { name := "flowTwo", fn := fun _ => fun
  | [d1, d2] => { results := [.lit (.bool false)], args := [d1, d2] }
  | _ => none }
def FlowTwoWrongFalsely : Prop := flowTwoRow.holds Try.pinned (OpenSpec.ofChange flowTwoWrong)

/-- 'wharfingerlaw6.FlowMore': WHATEVER THE INPUT: true; the input reads as it did. -/
def flowMoreSpec : ChangeSpec := { name := "flowMore", fn := fun _ => fun
  | [d1, d2, d3] => { results := [.lit (.bool true)], args := [d1, d2, d3] }
  | _ => none }
def flowMoreRow : OpenClaim := { program := "ytjlfkpimjjnolaa", sum := "d8b53a6288380626c8f2f9fabdaf8760e195b84b06ef23d20d5fe9e1f62cef46", func := "wharfinger/wharfingerlaw6.FlowMore", spec := "flowMore", unfollowed := true, recurses := true, apart := false }
def FlowMoreSaid : Prop := flowMoreRow.holds Try.pinned (OpenSpec.ofChange flowMoreSpec)

/-- ITS FALSE NEIGHBOUR: 'it returns false'. Refute it at one input. -/
def flowMoreWrong : ChangeSpec := { name := "flowMore", fn := fun _ => fun
  | [d1, d2, d3] => { results := [.lit (.bool false)], args := [d1, d2, d3] }
  | _ => none }
def FlowMoreWrongFalsely : Prop := flowMoreRow.holds Try.pinned (OpenSpec.ofChange flowMoreWrong)

/-- 'wharfingerlaw6.FlowLate': WHATEVER THE INPUT: true; the input reads as it did. -/
def flowLateSpec : ChangeSpec := { name := "flowLate", fn := fun _ => fun
  | [d] => { results := [.lit (.bool true)], args := [d] }
  | _ => none }
def flowLateRow : OpenClaim := { program := "ytjlfkpimjjnolaa", sum := "d8b53a6288380626c8f2f9fabdaf8760e195b84b06ef23d20d5fe9e1f62cef46", func := "wharfinger/wharfingerlaw6.FlowLate", spec := "flowLate", unfollowed := true, recurses := true, apart := false }
def FlowLateSaid : Prop := flowLateRow.holds Try.pinned (OpenSpec.ofChange flowLateSpec)

/-- ITS FALSE NEIGHBOUR: 'it returns false'. Refute it at one input. -/
def flowLateWrong : ChangeSpec := { name := "flowLate", fn := fun _ => fun
  | [d] => { results := [.lit (.bool false)], args := [d] }
  | _ => none }
def FlowLateWrongFalsely : Prop := flowLateRow.holds Try.pinned (OpenSpec.ofChange flowLateWrong)

/-- 'wharfingerlaw23.ModelSees': WHATEVER THE INPUT: true; the input reads as it did. -/
def modelSeesSpec : ChangeSpec := { name := "modelSees", fn := fun _ => fun
  | [d1, d2] => { results := [.lit (.bool true)], args := [d1, d2] }
  | _ => none }
def modelSeesRow : OpenClaim := { program := "ytjlfkpimjjnolaa", sum := "d8b53a6288380626c8f2f9fabdaf8760e195b84b06ef23d20d5fe9e1f62cef46", func := "wharfinger/wharfingerlaw23.ModelSees", spec := "modelSees", unfollowed := true, recurses := true, apart := false }
def ModelSeesSaid : Prop := modelSeesRow.holds Try.pinned (OpenSpec.ofChange modelSeesSpec)

/-- ITS FALSE NEIGHBOUR: 'it returns false'. Refute it at one input. -/
def modelSeesWrong : ChangeSpec := { name := "modelSees", fn := fun _ => fun
  | [d1, d2] => { results := [.lit (.bool false)], args := [d1, d2] }
  | _ => none }
def ModelSeesWrongFalsely : Prop := modelSeesRow.holds Try.pinned (OpenSpec.ofChange modelSeesWrong)

/-- 'wharfingerlaw23.ModelNil': WHATEVER THE INPUT: true; the input reads as it did. -/
def modelNilSpec : ChangeSpec := { name := "modelNil", fn := fun _ => fun
  | [d] => { results := [.lit (.bool true)], args := [d] }
  | _ => none }
def modelNilRow : OpenClaim := { program := "ytjlfkpimjjnolaa", sum := "d8b53a6288380626c8f2f9fabdaf8760e195b84b06ef23d20d5fe9e1f62cef46", func := "wharfinger/wharfingerlaw23.ModelNil", spec := "modelNil", unfollowed := true, recurses := true, apart := false }
def ModelNilSaid : Prop := modelNilRow.holds Try.pinned (OpenSpec.ofChange modelNilSpec)

/-- ITS FALSE NEIGHBOUR: 'it returns false'. Refute it at one input. -/
def modelNilWrong : ChangeSpec := { name := "modelNil", fn := fun _ => fun
  | [d] => { results := [.lit (.bool false)], args := [d] }
  | _ => none }
def ModelNilWrongFalsely : Prop := modelNilRow.holds Try.pinned (OpenSpec.ofChange modelNilWrong)

/-- 'wharfingerlaw23.ModelGoes': WHATEVER THE INPUT: true; the input reads as it did. -/
def modelGoesSpec : ChangeSpec := { name := "modelGoes", fn := fun _ => fun
  | [d1, d2] => { results := [.lit (.bool true)], args := [d1, d2] }
  | _ => none }
def modelGoesRow : OpenClaim := { program := "ytjlfkpimjjnolaa", sum := "d8b53a6288380626c8f2f9fabdaf8760e195b84b06ef23d20d5fe9e1f62cef46", func := "wharfinger/wharfingerlaw23.ModelGoes", spec := "modelGoes", unfollowed := true, recurses := true, apart := false }
def ModelGoesSaid : Prop := modelGoesRow.holds Try.pinned (OpenSpec.ofChange modelGoesSpec)

/-- ITS FALSE NEIGHBOUR: 'it returns false'. Refute it at one input. -/
def modelGoesWrong : ChangeSpec := { name := "modelGoes", fn := fun _ => fun
  | [d1, d2] => { results := [.lit (.bool false)], args := [d1, d2] }
  | _ => none }
def ModelGoesWrongFalsely : Prop := modelGoesRow.holds Try.pinned (OpenSpec.ofChange modelGoesWrong)

/-- 'wharfingerlaw23.ModelHolds': WHATEVER THE INPUT: true; the input reads as it did. -/
def modelHoldsSpec : ChangeSpec := { name := "modelHolds", fn := fun _ => fun
  | [d1, d2, d3] => { results := [.lit (.bool true)], args := [d1, d2, d3] }
  | _ => none }
def modelHoldsRow : OpenClaim := { program := "ytjlfkpimjjnolaa", sum := "d8b53a6288380626c8f2f9fabdaf8760e195b84b06ef23d20d5fe9e1f62cef46", func := "wharfinger/wharfingerlaw23.ModelHolds", spec := "modelHolds", unfollowed := true, recurses := true, apart := false }
def ModelHoldsSaid : Prop := modelHoldsRow.holds Try.pinned (OpenSpec.ofChange modelHoldsSpec)

/-- ITS FALSE NEIGHBOUR: 'it returns false'. Refute it at one input. -/
def modelHoldsWrong : ChangeSpec := { name := "modelHolds", fn := fun _ => fun
  | [d1, d2, d3] => { results := [.lit (.bool false)], args := [d1, d2, d3] }
  | _ => none }
def ModelHoldsWrongFalsely : Prop := modelHoldsRow.holds Try.pinned (OpenSpec.ofChange modelHoldsWrong)

/- THE SECOND FORM. 'bulk': how many values and letters a reading holds, each counted each time it is reached (what is shared counts as often as it is met; a slice's spare places count too). A statement '..UptoSaid' is the law's where the arguments, and the package variables that the reading takes, are together of bulk at most 1048576: NARROWER than '..Said'. Prove '..Said' where nothing that the law and all that it calls make is longer than what came in: it says more and counts as full. Else prove '..UptoSaid'. A law counts once. -/
mutual
def uptoBulk {H : Type} : DataW H → Nat
  | .lit (.string bytes) => bytes.length + 1
  | .lit _ => 1
  | .nil => 1
  | .ptr d => uptoBulk d + 1
  | .slice elems spare => uptoBulkAll elems + uptoBulkAll spare + 1
  | .agg parts => uptoBulkAll parts + 1
  | .iface _ d => uptoBulk d + 1
  | .map entries => uptoBulkEntries entries + 1
  | .held _ => 1
def uptoBulkAll {H : Type} : List (DataW H) → Nat
  | [] => 0
  | d :: r => uptoBulk d + uptoBulkAll r
def uptoBulkEntries {H : Type} : List (Lit × DataW H) → Nat
  | [] => 0
  | x :: r => uptoBulkEntry x + uptoBulkEntries r
def uptoBulkEntry {H : Type} : Lit × DataW H → Nat
  | (.string bytes, d) => bytes.length + uptoBulk d + 1
  | (_, d) => uptoBulk d + 1
 end
def uptoSmall : (H : Type) → List (DataW H) → Bool := fun _ ds => decide (uptoBulkAll ds ≤ 1048576)
def OpenSpec.upto (s : _root_.Go.ChangeSpec) : _root_.Go.OpenSpec := { _root_.Go.OpenSpec.ofChange s with cond := some uptoSmall }

/-- 'wharfingerlaw6.FlowBegins', WHERE WHAT IT READS IS OF BULK AT MOST 1048576: true; the input reads as it did. -/
def flowBeginsUptoRow : OpenClaim := { program := "ytjlfkpimjjnolaa", sum := "d8b53a6288380626c8f2f9fabdaf8760e195b84b06ef23d20d5fe9e1f62cef46", func := "wharfinger/wharfingerlaw6.FlowBegins", spec := "flowBegins", unfollowed := true, recurses := true, apart := false, narrowed := true }
def FlowBeginsUptoSaid : Prop := flowBeginsUptoRow.holds Try.pinned (OpenSpec.upto flowBeginsSpec)

/-- 'wharfingerlaw6.FlowTwo', WHERE WHAT IT READS IS OF BULK AT MOST 1048576: true; the input reads as it did. -/
def flowTwoUptoRow : OpenClaim := { program := "ytjlfkpimjjnolaa", sum := "d8b53a6288380626c8f2f9fabdaf8760e195b84b06ef23d20d5fe9e1f62cef46", func := "wharfinger/wharfingerlaw6.FlowTwo", spec := "flowTwo", unfollowed := true, recurses := true, apart := false, narrowed := true }
def FlowTwoUptoSaid : Prop := flowTwoUptoRow.holds Try.pinned (OpenSpec.upto flowTwoSpec)

/-- 'wharfingerlaw6.FlowMore', WHERE WHAT IT READS IS OF BULK AT MOST 1048576: true; the input reads as it did. -/
def flowMoreUptoRow : OpenClaim := { program := "ytjlfkpimjjnolaa", sum := "d8b53a6288380626c8f2f9fabdaf8760e195b84b06ef23d20d5fe9e1f62cef46", func := "wharfinger/wharfingerlaw6.FlowMore", spec := "flowMore", unfollowed := true, recurses := true, apart := false, narrowed := true }
def FlowMoreUptoSaid : Prop := flowMoreUptoRow.holds Try.pinned (OpenSpec.upto flowMoreSpec)

/-- 'wharfingerlaw6.FlowLate', WHERE WHAT IT READS IS OF BULK AT MOST 1048576: true; the input reads as it did. -/
def flowLateUptoRow : OpenClaim := { program := "ytjlfkpimjjnolaa", sum := "d8b53a6288380626c8f2f9fabdaf8760e195b84b06ef23d20d5fe9e1f62cef46", func := "wharfinger/wharfingerlaw6.FlowLate", spec := "flowLate", unfollowed := true, recurses := true, apart := false, narrowed := true }
def FlowLateUptoSaid : Prop := flowLateUptoRow.holds Try.pinned (OpenSpec.upto flowLateSpec)

/-- 'wharfingerlaw23.ModelSees', WHERE WHAT IT READS IS OF BULK AT MOST 1048576: true; the input reads as it did. -/
def modelSeesUptoRow : OpenClaim := { program := "ytjlfkpimjjnolaa", sum := "d8b53a6288380626c8f2f9fabdaf8760e195b84b06ef23d20d5fe9e1f62cef46", func := "wharfinger/wharfingerlaw23.ModelSees", spec := "modelSees", unfollowed := true, recurses := true, apart := false, narrowed := true }
def ModelSeesUptoSaid : Prop := modelSeesUptoRow.holds Try.pinned (OpenSpec.upto modelSeesSpec)

/-- 'wharfingerlaw23.ModelNil', WHERE WHAT IT READS IS OF BULK AT MOST 1048576: true; the input reads as it did. -/
def modelNilUptoRow : OpenClaim := { program := "ytjlfkpimjjnolaa", sum := "d8b53a6288380626c8f2f9fabdaf8760e195b84b06ef23d20d5fe9e1f62cef46", func := "wharfinger/wharfingerlaw23.ModelNil", spec := "modelNil", unfollowed := true, recurses := true, apart := false, narrowed := true }
def ModelNilUptoSaid : Prop := modelNilUptoRow.holds Try.pinned (OpenSpec.upto modelNilSpec)

/-- 'wharfingerlaw23.ModelGoes', WHERE WHAT IT READS IS OF BULK AT MOST 1048576: true; the input reads as it did. -/
def modelGoesUptoRow : OpenClaim := { program := "ytjlfkpimjjnolaa", sum := "d8b53a6288380626c8f2f9fabdaf8760e195b84b06ef23d20d5fe9e1f62cef46", func := "wharfinger/wharfingerlaw23.ModelGoes", spec := "modelGoes", unfollowed := true, recurses := true, apart := false, narrowed := true }
def ModelGoesUptoSaid : Prop := modelGoesUptoRow.holds Try.pinned (OpenSpec.upto modelGoesSpec)

/-- 'wharfingerlaw23.ModelHolds', WHERE WHAT IT READS IS OF BULK AT MOST 1048576: true; the input reads as it did. -/
def modelHoldsUptoRow : OpenClaim := { program := "ytjlfkpimjjnolaa", sum := "d8b53a6288380626c8f2f9fabdaf8760e195b84b06ef23d20d5fe9e1f62cef46", func := "wharfinger/wharfingerlaw23.ModelHolds", spec := "modelHolds", unfollowed := true, recurses := true, apart := false, narrowed := true }
def ModelHoldsUptoSaid : Prop := modelHoldsUptoRow.holds Try.pinned (OpenSpec.upto modelHoldsSpec)

end Rows
end Go.Proofs.Ytjlfkpimjjnolaa
