/-
  No cell of these rows narrows 'for every input' (looked for: loops, veiled, ifaces, maps, wideKeys, modest, calm, conditions, laid).
  DERIVED. THE GIVEN ROWS OF THIS SEAT. 11 by the template 'for every input the law returns true; each argument reads behind the call as it read before'; 0 by the template 'total and deterministic' (their statements: YtacnekeakicdeaaTotals.lean).
  GIVEN WITH THE SEED: the statements are not yours to turn. If you find one false, say at which input.
  Laid BY PROGRAM, IN A SANDBOX (cutbox-rows.mjs): the forced cells as the released guide's own fill.sh prints them over the translation cbd1d1d355f08e31… (all of the seat's roots in one cut). By AI agents, Wed Nov 11 2026. No macro, syntax, notation, axiom, sorry.
-/
import Derived.Test.YtacnekeakicdeaaChecked
import GoSem.Claim
import GoSem.ClaimJoined
import GoSem.ClaimMapViews
import Derived.JoinedTies
import Derived.KernelRfl
namespace Go.Proofs.Ytacnekeakicdeaa
/- THE CELL 'sum', in the pinned program and in every row, IS THE sha256 OF THE DUMP (.gsa) THAT YtacnekeakicdeaaProg.lean LOADS. Nothing in Lean hashes anything: it is a label: what it is worth is what the hold of that sum in a sandbox is worth. -/
noncomputable def Try.pinned : Pinned := { name := "ytacnekeakicdeaa", sum := "cbd1d1d355f08e31b92be6118c29740bbc8a03544399626f50ba9766cd98e074", checked := Try.checked }
namespace Rows
def none {H : Type} : Left H := { results := [], args := [] }

/-- 'wharfingerlaw1.AmountSplits': WHATEVER THE INPUT: true; the input reads as it did. -/
def amountSplitsSpec : ChangeSpec := { name := "amountSplits", fn := fun _ => fun
  | [d1, d2] => { results := [.lit (.bool true)], args := [d1, d2] }
  | _ => none }
def amountSplitsRow : OpenClaim := { program := "ytacnekeakicdeaa", sum := "cbd1d1d355f08e31b92be6118c29740bbc8a03544399626f50ba9766cd98e074", func := "wharfinger/wharfingerlaw1.AmountSplits", spec := "amountSplits", apart := false }
def AmountSplitsSaid : Prop := amountSplitsRow.holds Try.pinned (OpenSpec.ofChange amountSplitsSpec)

/-- ITS FALSE NEIGHBOUR: 'it returns false'. Refute it at one input. -/
def amountSplitsWrong : ChangeSpec := { name := "amountSplits", fn := fun _ => fun
  | [d1, d2] => { results := [.lit (.bool false)], args := [d1, d2] }
  | _ => none }
def AmountSplitsWrongFalsely : Prop := amountSplitsRow.holds Try.pinned (OpenSpec.ofChange amountSplitsWrong)

/-- 'wharfingerlaw11.AgainPlays': WHATEVER THE INPUT: true; the input reads as it did. -/
def againPlaysSpec : ChangeSpec := { name := "againPlays", fn := fun _ => fun
  | [d1, d2] => { results := [.lit (.bool true)], args := [d1, d2] }
  | _ => none }
def againPlaysRow : OpenClaim := { program := "ytacnekeakicdeaa", sum := "cbd1d1d355f08e31b92be6118c29740bbc8a03544399626f50ba9766cd98e074", func := "wharfinger/wharfingerlaw11.AgainPlays", spec := "againPlays", apart := false }
def AgainPlaysSaid : Prop := againPlaysRow.holds Try.pinned (OpenSpec.ofChange againPlaysSpec)

/-- ITS FALSE NEIGHBOUR: 'it returns false'. Refute it at one input. -/
def againPlaysWrong : ChangeSpec := { name := "againPlays", fn := fun _ => fun
  | [d1, d2] => { results := [.lit (.bool false)], args := [d1, d2] }
  | _ => none }
def AgainPlaysWrongFalsely : Prop := againPlaysRow.holds Try.pinned (OpenSpec.ofChange againPlaysWrong)

/-- 'wharfingerlaw11.AgainNil': WHATEVER THE INPUT: true; the input reads as it did. -/
def againNilSpec : ChangeSpec := { name := "againNil", fn := fun _ => fun
  | [d] => { results := [.lit (.bool true)], args := [d] }
  | _ => none }
def againNilRow : OpenClaim := { program := "ytacnekeakicdeaa", sum := "cbd1d1d355f08e31b92be6118c29740bbc8a03544399626f50ba9766cd98e074", func := "wharfinger/wharfingerlaw11.AgainNil", spec := "againNil", apart := false }
def AgainNilSaid : Prop := againNilRow.holds Try.pinned (OpenSpec.ofChange againNilSpec)

/-- ITS FALSE NEIGHBOUR: 'it returns false'. Refute it at one input. -/
def againNilWrong : ChangeSpec := { name := "againNil", fn := fun _ => fun
  | [d] => { results := [.lit (.bool false)], args := [d] }
  | _ => none }
def AgainNilWrongFalsely : Prop := againNilRow.holds Try.pinned (OpenSpec.ofChange againNilWrong)

/-- 'wharfingerlaw11.AgainEnds': WHATEVER THE INPUT: true; the input reads as it did. -/
def againEndsSpec : ChangeSpec := { name := "againEnds", fn := fun _ => fun
  | [d] => { results := [.lit (.bool true)], args := [d] }
  | _ => none }
def againEndsRow : OpenClaim := { program := "ytacnekeakicdeaa", sum := "cbd1d1d355f08e31b92be6118c29740bbc8a03544399626f50ba9766cd98e074", func := "wharfinger/wharfingerlaw11.AgainEnds", spec := "againEnds", apart := false }
def AgainEndsSaid : Prop := againEndsRow.holds Try.pinned (OpenSpec.ofChange againEndsSpec)

/-- ITS FALSE NEIGHBOUR: 'it returns false'. Refute it at one input. -/
def againEndsWrong : ChangeSpec := { name := "againEnds", fn := fun _ => fun
  | [d] => { results := [.lit (.bool false)], args := [d] }
  | _ => none }
def AgainEndsWrongFalsely : Prop := againEndsRow.holds Try.pinned (OpenSpec.ofChange againEndsWrong)

/-- 'wharfingerlaw11.AgainWaits': WHATEVER THE INPUT: true; the input reads as it did. -/
def againWaitsSpec : ChangeSpec := { name := "againWaits", fn := fun _ => fun
  | [d1, d2, d3] => { results := [.lit (.bool true)], args := [d1, d2, d3] }
  | _ => none }
def againWaitsRow : OpenClaim := { program := "ytacnekeakicdeaa", sum := "cbd1d1d355f08e31b92be6118c29740bbc8a03544399626f50ba9766cd98e074", func := "wharfinger/wharfingerlaw11.AgainWaits", spec := "againWaits", apart := false }
def AgainWaitsSaid : Prop := againWaitsRow.holds Try.pinned (OpenSpec.ofChange againWaitsSpec)

/-- ITS FALSE NEIGHBOUR: 'it returns false'. Refute it at one input. -/
def againWaitsWrong : ChangeSpec := { name := "againWaits", fn := fun _ => fun
  | [d1, d2, d3] => { results := [.lit (.bool false)], args := [d1, d2, d3] }
  | _ => none }
def AgainWaitsWrongFalsely : Prop := againWaitsRow.holds Try.pinned (OpenSpec.ofChange againWaitsWrong)

/-- 'wharfingerlaw1.AmountRows': WHATEVER THE INPUT: true; the input reads as it did. -/
def amountRowsSpec : ChangeSpec := { name := "amountRows", fn := fun _ => fun
  | [d1, d2, d3] => { results := [.lit (.bool true)], args := [d1, d2, d3] }
  | _ => none }
def amountRowsRow : OpenClaim := { program := "ytacnekeakicdeaa", sum := "cbd1d1d355f08e31b92be6118c29740bbc8a03544399626f50ba9766cd98e074", func := "wharfinger/wharfingerlaw1.AmountRows", spec := "amountRows", apart := false }
def AmountRowsSaid : Prop := amountRowsRow.holds Try.pinned (OpenSpec.ofChange amountRowsSpec)

/-- ITS FALSE NEIGHBOUR: 'it returns false'. Refute it at one input. -/
def amountRowsWrong : ChangeSpec := { name := "amountRows", fn := fun _ => fun
  | [d1, d2, d3] => { results := [.lit (.bool false)], args := [d1, d2, d3] }
  | _ => none }
def AmountRowsWrongFalsely : Prop := amountRowsRow.holds Try.pinned (OpenSpec.ofChange amountRowsWrong)

/-- 'wharfingerlaw1.AmountProducts': WHATEVER THE INPUT: true; the input reads as it did. -/
def amountProductsSpec : ChangeSpec := { name := "amountProducts", fn := fun _ => fun
  | [d1, d2] => { results := [.lit (.bool true)], args := [d1, d2] }
  | _ => none }
def amountProductsRow : OpenClaim := { program := "ytacnekeakicdeaa", sum := "cbd1d1d355f08e31b92be6118c29740bbc8a03544399626f50ba9766cd98e074", func := "wharfinger/wharfingerlaw1.AmountProducts", spec := "amountProducts", apart := false }
def AmountProductsSaid : Prop := amountProductsRow.holds Try.pinned (OpenSpec.ofChange amountProductsSpec)

/-- ITS FALSE NEIGHBOUR: 'it returns false'. Refute it at one input. -/
def amountProductsWrong : ChangeSpec := { name := "amountProducts", fn := fun _ => fun
  | [d1, d2] => { results := [.lit (.bool false)], args := [d1, d2] }
  | _ => none }
def AmountProductsWrongFalsely : Prop := amountProductsRow.holds Try.pinned (OpenSpec.ofChange amountProductsWrong)

/-- 'wharfingerlaw1.AmountSums': WHATEVER THE INPUT: true; the input reads as it did. -/
def amountSumsSpec : ChangeSpec := { name := "amountSums", fn := fun _ => fun
  | [d1, d2] => { results := [.lit (.bool true)], args := [d1, d2] }
  | _ => none }
def amountSumsRow : OpenClaim := { program := "ytacnekeakicdeaa", sum := "cbd1d1d355f08e31b92be6118c29740bbc8a03544399626f50ba9766cd98e074", func := "wharfinger/wharfingerlaw1.AmountSums", spec := "amountSums", apart := false }
def AmountSumsSaid : Prop := amountSumsRow.holds Try.pinned (OpenSpec.ofChange amountSumsSpec)

/-- ITS FALSE NEIGHBOUR: 'it returns false'. Refute it at one input. -/
def amountSumsWrong : ChangeSpec := { name := "amountSums", fn := fun _ => fun
  | [d1, d2] => { results := [.lit (.bool false)], args := [d1, d2] }
  | _ => none }
def AmountSumsWrongFalsely : Prop := amountSumsRow.holds Try.pinned (OpenSpec.ofChange amountSumsWrong)

/-- 'wharfingerlaw1.AmountForms': WHATEVER THE INPUT: true; the input reads as it did. -/
def amountFormsSpec : ChangeSpec := { name := "amountForms", fn := fun _ => fun
  | [d1, d2, d3, d4] => { results := [.lit (.bool true)], args := [d1, d2, d3, d4] }
  | _ => none }
def amountFormsRow : OpenClaim := { program := "ytacnekeakicdeaa", sum := "cbd1d1d355f08e31b92be6118c29740bbc8a03544399626f50ba9766cd98e074", func := "wharfinger/wharfingerlaw1.AmountForms", spec := "amountForms", apart := false }
def AmountFormsSaid : Prop := amountFormsRow.holds Try.pinned (OpenSpec.ofChange amountFormsSpec)

/-- ITS FALSE NEIGHBOUR: 'it returns false'. Refute it at one input. -/
def amountFormsWrong : ChangeSpec := { name := "amountForms", fn := fun _ => fun
  | [d1, d2, d3, d4] => { results := [.lit (.bool false)], args := [d1, d2, d3, d4] }
  | _ => none }
def AmountFormsWrongFalsely : Prop := amountFormsRow.holds Try.pinned (OpenSpec.ofChange amountFormsWrong)

/-- 'wharfingerlaw1.AmountUndone': WHATEVER THE INPUT: true; the input reads as it did. -/
def amountUndoneSpec : ChangeSpec := { name := "amountUndone", fn := fun _ => fun
  | [d1, d2, d3] => { results := [.lit (.bool true)], args := [d1, d2, d3] }
  | _ => none }
def amountUndoneRow : OpenClaim := { program := "ytacnekeakicdeaa", sum := "cbd1d1d355f08e31b92be6118c29740bbc8a03544399626f50ba9766cd98e074", func := "wharfinger/wharfingerlaw1.AmountUndone", spec := "amountUndone", apart := false }
def AmountUndoneSaid : Prop := amountUndoneRow.holds Try.pinned (OpenSpec.ofChange amountUndoneSpec)

/-- ITS FALSE NEIGHBOUR: 'it returns false'. Refute it at one input. -/
def amountUndoneWrong : ChangeSpec := { name := "amountUndone", fn := fun _ => fun
  | [d1, d2, d3] => { results := [.lit (.bool false)], args := [d1, d2, d3] }
  | _ => none }
def AmountUndoneWrongFalsely : Prop := amountUndoneRow.holds Try.pinned (OpenSpec.ofChange amountUndoneWrong)

/-- 'wharfingerlaw1.AmountOrders': WHATEVER THE INPUT: true; the input reads as it did. -/
def amountOrdersSpec : ChangeSpec := { name := "amountOrders", fn := fun _ => fun
  | [d1, d2] => { results := [.lit (.bool true)], args := [d1, d2] }
  | _ => none }
def amountOrdersRow : OpenClaim := { program := "ytacnekeakicdeaa", sum := "cbd1d1d355f08e31b92be6118c29740bbc8a03544399626f50ba9766cd98e074", func := "wharfinger/wharfingerlaw1.AmountOrders", spec := "amountOrders", apart := false }
def AmountOrdersSaid : Prop := amountOrdersRow.holds Try.pinned (OpenSpec.ofChange amountOrdersSpec)

/-- ITS FALSE NEIGHBOUR: 'it returns false'. Refute it at one input. -/
def amountOrdersWrong : ChangeSpec := { name := "amountOrders", fn := fun _ => fun
  | [d1, d2] => { results := [.lit (.bool false)], args := [d1, d2] }
  | _ => none }
def AmountOrdersWrongFalsely : Prop := amountOrdersRow.holds Try.pinned (OpenSpec.ofChange amountOrdersWrong)

/- THE SECOND FORM. 'bulk': how many values and letters a reading holds, each counted each time it is reached (what is shared counts as often as it is met; a slice's spare places count too). A statement '..UptoSaid' is the law's where the arguments, and the package variables that the reading takes, are together of bulk at most 1048576: NARROWER than '..Said'. Prove '..Said' where nothing that the law and all that it calls make is longer than what came in: it says more and counts as full. Else prove '..UptoSaid'. A law counts once. -/
mutual
def uptoBulk {H : Type} : DataW H → Nat
  | .lit (.string bytes) => bytes.length + 1
  | .lit _ => 1
  | .nil => 1
  | .ptr d => uptoBulk d + 1
  | .slice elems spare => uptoBulkAll elems + uptoBulkAll spare + 1
  | .agg parts => uptoBulkAll parts + 1
  | .iface _ d => uptoBulk d + 1
  | .map entries => uptoBulkEntries entries + 1
  | .held _ => 1
def uptoBulkAll {H : Type} : List (DataW H) → Nat
  | [] => 0
  | d :: r => uptoBulk d + uptoBulkAll r
def uptoBulkEntries {H : Type} : List (Lit × DataW H) → Nat
  | [] => 0
  | x :: r => uptoBulkEntry x + uptoBulkEntries r
def uptoBulkEntry {H : Type} : Lit × DataW H → Nat
  | (.string bytes, d) => bytes.length + uptoBulk d + 1
  | (_, d) => uptoBulk d + 1
 end
def uptoSmall : (H : Type) → List (DataW H) → Bool := fun _ ds => decide (uptoBulkAll ds ≤ 1048576)
def OpenSpec.upto (s : _root_.Go.ChangeSpec) : _root_.Go.OpenSpec := { _root_.Go.OpenSpec.ofChange s with cond := some uptoSmall }

/-- 'wharfingerlaw1.AmountSplits', WHERE WHAT IT READS IS OF BULK AT MOST 1048576: true; the input reads as it did. -/
def amountSplitsUptoRow : OpenClaim := { program := "ytacnekeakicdeaa", sum := "cbd1d1d355f08e31b92be6118c29740bbc8a03544399626f50ba9766cd98e074", func := "wharfinger/wharfingerlaw1.AmountSplits", spec := "amountSplits", apart := false, narrowed := true }
def AmountSplitsUptoSaid : Prop := amountSplitsUptoRow.holds Try.pinned (OpenSpec.upto amountSplitsSpec)

/-- 'wharfingerlaw11.AgainPlays', WHERE WHAT IT READS IS OF BULK AT MOST 1048576: true; the input reads as it did. -/
def againPlaysUptoRow : OpenClaim := { program := "ytacnekeakicdeaa", sum := "cbd1d1d355f08e31b92be6118c29740bbc8a03544399626f50ba9766cd98e074", func := "wharfinger/wharfingerlaw11.AgainPlays", spec := "againPlays", apart := false, narrowed := true }
def AgainPlaysUptoSaid : Prop := againPlaysUptoRow.holds Try.pinned (OpenSpec.upto againPlaysSpec)

/-- 'wharfingerlaw11.AgainNil', WHERE WHAT IT READS IS OF BULK AT MOST 1048576: true; the input reads as it did. -/
def againNilUptoRow : OpenClaim := { program := "ytacnekeakicdeaa", sum := "cbd1d1d355f08e31b92be6118c29740bbc8a03544399626f50ba9766cd98e074", func := "wharfinger/wharfingerlaw11.AgainNil", spec := "againNil", apart := false, narrowed := true }
def AgainNilUptoSaid : Prop := againNilUptoRow.holds Try.pinned (OpenSpec.upto againNilSpec)

/-- 'wharfingerlaw11.AgainEnds', WHERE WHAT IT READS IS OF BULK AT MOST 1048576: true; the input reads as it did. -/
def againEndsUptoRow : OpenClaim := { program := "ytacnekeakicdeaa", sum := "cbd1d1d355f08e31b92be6118c29740bbc8a03544399626f50ba9766cd98e074", func := "wharfinger/wharfingerlaw11.AgainEnds", spec := "againEnds", apart := false, narrowed := true }
def AgainEndsUptoSaid : Prop := againEndsUptoRow.holds Try.pinned (OpenSpec.upto againEndsSpec)

/-- 'wharfingerlaw11.AgainWaits', WHERE WHAT IT READS IS OF BULK AT MOST 1048576: true; the input reads as it did. -/
def againWaitsUptoRow : OpenClaim := { program := "ytacnekeakicdeaa", sum := "cbd1d1d355f08e31b92be6118c29740bbc8a03544399626f50ba9766cd98e074", func := "wharfinger/wharfingerlaw11.AgainWaits", spec := "againWaits", apart := false, narrowed := true }
def AgainWaitsUptoSaid : Prop := againWaitsUptoRow.holds Try.pinned (OpenSpec.upto againWaitsSpec)

/-- 'wharfingerlaw1.AmountRows', WHERE WHAT IT READS IS OF BULK AT MOST 1048576: true; the input reads as it did. -/
def amountRowsUptoRow : OpenClaim := { program := "ytacnekeakicdeaa", sum := "cbd1d1d355f08e31b92be6118c29740bbc8a03544399626f50ba9766cd98e074", func := "wharfinger/wharfingerlaw1.AmountRows", spec := "amountRows", apart := false, narrowed := true }
def AmountRowsUptoSaid : Prop := amountRowsUptoRow.holds Try.pinned (OpenSpec.upto amountRowsSpec)

/-- 'wharfingerlaw1.AmountProducts', WHERE WHAT IT READS IS OF BULK AT MOST 1048576: true; the input reads as it did. -/
def amountProductsUptoRow : OpenClaim := { program := "ytacnekeakicdeaa", sum := "cbd1d1d355f08e31b92be6118c29740bbc8a03544399626f50ba9766cd98e074", func := "wharfinger/wharfingerlaw1.AmountProducts", spec := "amountProducts", apart := false, narrowed := true }
def AmountProductsUptoSaid : Prop := amountProductsUptoRow.holds Try.pinned (OpenSpec.upto amountProductsSpec)

/-- 'wharfingerlaw1.AmountSums', WHERE WHAT IT READS IS OF BULK AT MOST 1048576: true; the input reads as it did. -/
def amountSumsUptoRow : OpenClaim := { program := "ytacnekeakicdeaa", sum := "cbd1d1d355f08e31b92be6118c29740bbc8a03544399626f50ba9766cd98e074", func := "wharfinger/wharfingerlaw1.AmountSums", spec := "amountSums", apart := false, narrowed := true }
def AmountSumsUptoSaid : Prop := amountSumsUptoRow.holds Try.pinned (OpenSpec.upto amountSumsSpec)

/-- 'wharfingerlaw1.AmountForms', WHERE WHAT IT READS IS OF BULK AT MOST 1048576: true; the input reads as it did. -/
def amountFormsUptoRow : OpenClaim := { program := "ytacnekeakicdeaa", sum := "cbd1d1d355f08e31b92be6118c29740bbc8a03544399626f50ba9766cd98e074", func := "wharfinger/wharfingerlaw1.AmountForms", spec := "amountForms", apart := false, narrowed := true }
def AmountFormsUptoSaid : Prop := amountFormsUptoRow.holds Try.pinned (OpenSpec.upto amountFormsSpec)

/-- 'wharfingerlaw1.AmountUndone', WHERE WHAT IT READS IS OF BULK AT MOST 1048576: true; the input reads as it did. -/
def amountUndoneUptoRow : OpenClaim := { program := "ytacnekeakicdeaa", sum := "cbd1d1d355f08e31b92be6118c29740bbc8a03544399626f50ba9766cd98e074", func := "wharfinger/wharfingerlaw1.AmountUndone", spec := "amountUndone", apart := false, narrowed := true }
def AmountUndoneUptoSaid : Prop := amountUndoneUptoRow.holds Try.pinned (OpenSpec.upto amountUndoneSpec)

/-- 'wharfingerlaw1.AmountOrders', WHERE WHAT IT READS IS OF BULK AT MOST 1048576: true; the input reads as it did. -/
def amountOrdersUptoRow : OpenClaim := { program := "ytacnekeakicdeaa", sum := "cbd1d1d355f08e31b92be6118c29740bbc8a03544399626f50ba9766cd98e074", func := "wharfinger/wharfingerlaw1.AmountOrders", spec := "amountOrders", apart := false, narrowed := true }
def AmountOrdersUptoSaid : Prop := amountOrdersUptoRow.holds Try.pinned (OpenSpec.upto amountOrdersSpec)

end Rows
end Go.Proofs.Ytacnekeakicdeaa
