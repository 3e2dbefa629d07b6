/-
  No cell of these rows narrows 'for every input' (looked for: loops, veiled, ifaces, maps, wideKeys, modest, calm, conditions, laid).
  DERIVED. THE GIVEN ROWS OF THIS SEAT. 11 by the template 'for every input the law returns true; each argument reads behind the call as it read before'; 0 by the template 'total and deterministic' (their statements: YtofabbigngmboaaTotals.lean).
  GIVEN WITH THE SEED: the statements are not yours to turn. If you find one false, say at which input.
  Laid BY PROGRAM, IN A SANDBOX (cutbox-rows.mjs): the forced cells as the released guide's own fill.sh prints them over the translation 8f990df5305fd261… (all of the seat's roots in one cut). By AI agents, Wed Nov 11 2026. No macro, syntax, notation, axiom, sorry.
-/
import Derived.Test.YtofabbigngmboaaChecked
import GoSem.Claim
import GoSem.ClaimJoined
import GoSem.ClaimMapViews
import Derived.JoinedTies
import Derived.KernelRfl
namespace Go.Proofs.Ytofabbigngmboaa
/- THE CELL 'sum', in the pinned program and in every row, IS THE sha256 OF THE DUMP (.gsa) THAT YtofabbigngmboaaProg.lean LOADS. Nothing in Lean hashes anything: it is a label: what it is worth is what the hold of that sum in a sandbox is worth. -/
noncomputable def Try.pinned : Pinned := { name := "ytofabbigngmboaa", sum := "8f990df5305fd2616d71e56f9ca4eb955e714309b50a8828570df3de853525f5", checked := Try.checked }
namespace Rows
def none {H : Type} : Left H := { results := [], args := [] }

/-- 'wharfingerlaw7.HoldApart': WHATEVER THE INPUT: true; the input reads as it did. -/
def holdApartSpec : ChangeSpec := { name := "holdApart", fn := fun _ => fun
  | [d1, d2, d3, d4] => { results := [.lit (.bool true)], args := [d1, d2, d3, d4] }
  | _ => none }
def holdApartRow : OpenClaim := { program := "ytofabbigngmboaa", sum := "8f990df5305fd2616d71e56f9ca4eb955e714309b50a8828570df3de853525f5", func := "wharfinger/wharfingerlaw7.HoldApart", spec := "holdApart", apart := false }
def HoldApartSaid : Prop := holdApartRow.holds Try.pinned (OpenSpec.ofChange holdApartSpec)

/-- ITS FALSE NEIGHBOUR: 'it returns false'. Refute it at one input. -/
def holdApartWrong : ChangeSpec := { name := "holdApart", fn := fun _ => fun
  | [d1, d2, d3, d4] => { results := [.lit (.bool false)], args := [d1, d2, d3, d4] }
  | _ => none }
def HoldApartWrongFalsely : Prop := holdApartRow.holds Try.pinned (OpenSpec.ofChange holdApartWrong)

/-- 'wharfingerlaw7.HoldSums': WHATEVER THE INPUT: true; the input reads as it did. -/
def holdSumsSpec : ChangeSpec := { name := "holdSums", fn := fun _ => fun
  | [d1, d2] => { results := [.lit (.bool true)], args := [d1, d2] }
  | _ => none }
def holdSumsRow : OpenClaim := { program := "ytofabbigngmboaa", sum := "8f990df5305fd2616d71e56f9ca4eb955e714309b50a8828570df3de853525f5", func := "wharfinger/wharfingerlaw7.HoldSums", spec := "holdSums", apart := false }
def HoldSumsSaid : Prop := holdSumsRow.holds Try.pinned (OpenSpec.ofChange holdSumsSpec)

/-- ITS FALSE NEIGHBOUR: 'it returns false'. Refute it at one input. -/
def holdSumsWrong : ChangeSpec := { name := "holdSums", fn := fun _ => fun
  | [d1, d2] => { results := [.lit (.bool false)], args := [d1, d2] }
  | _ => none }
def HoldSumsWrongFalsely : Prop := holdSumsRow.holds Try.pinned (OpenSpec.ofChange holdSumsWrong)

/-- 'wharfingerlaw7.HoldRow': WHATEVER THE INPUT: true; the input reads as it did. -/
def holdRowSpec : ChangeSpec := { name := "holdRow", fn := fun _ => fun
  | [d1, d2] => { results := [.lit (.bool true)], args := [d1, d2] }
  | _ => none }
def holdRowRow : OpenClaim := { program := "ytofabbigngmboaa", sum := "8f990df5305fd2616d71e56f9ca4eb955e714309b50a8828570df3de853525f5", func := "wharfinger/wharfingerlaw7.HoldRow", spec := "holdRow", unfollowed := true, recurses := true, apart := false }
def HoldRowSaid : Prop := holdRowRow.holds Try.pinned (OpenSpec.ofChange holdRowSpec)

/-- ITS FALSE NEIGHBOUR: 'it returns false'. Refute it at one input. -/
def holdRowWrong : ChangeSpec := { name := "holdRow", fn := fun _ => fun
  | [d1, d2] => { results := [.lit (.bool false)], args := [d1, d2] }
  | _ => none }
def HoldRowWrongFalsely : Prop := holdRowRow.holds Try.pinned (OpenSpec.ofChange holdRowWrong)

/-- 'wharfingerlaw7.HoldPlays': WHATEVER THE INPUT: true; the input reads as it did. -/
def holdPlaysSpec : ChangeSpec := { name := "holdPlays", fn := fun _ => fun
  | [d1, d2, d3] => { results := [.lit (.bool true)], args := [d1, d2, d3] }
  | _ => none }
def holdPlaysRow : OpenClaim := { program := "ytofabbigngmboaa", sum := "8f990df5305fd2616d71e56f9ca4eb955e714309b50a8828570df3de853525f5", func := "wharfinger/wharfingerlaw7.HoldPlays", spec := "holdPlays", unfollowed := true, recurses := true, apart := false }
def HoldPlaysSaid : Prop := holdPlaysRow.holds Try.pinned (OpenSpec.ofChange holdPlaysSpec)

/-- ITS FALSE NEIGHBOUR: 'it returns false'. Refute it at one input. -/
def holdPlaysWrong : ChangeSpec := { name := "holdPlays", fn := fun _ => fun
  | [d1, d2, d3] => { results := [.lit (.bool false)], args := [d1, d2, d3] }
  | _ => none }
def HoldPlaysWrongFalsely : Prop := holdPlaysRow.holds Try.pinned (OpenSpec.ofChange holdPlaysWrong)

/-- 'wharfingerlaw7.HoldNil': WHATEVER THE INPUT: true; the input reads as it did. -/
def holdNilSpec : ChangeSpec := { name := "holdNil", fn := fun _ => fun
  | [d] => { results := [.lit (.bool true)], args := [d] }
  | _ => none }
def holdNilRow : OpenClaim := { program := "ytofabbigngmboaa", sum := "8f990df5305fd2616d71e56f9ca4eb955e714309b50a8828570df3de853525f5", func := "wharfinger/wharfingerlaw7.HoldNil", spec := "holdNil", unfollowed := true, recurses := true, apart := false }
def HoldNilSaid : Prop := holdNilRow.holds Try.pinned (OpenSpec.ofChange holdNilSpec)

/-- ITS FALSE NEIGHBOUR: 'it returns false'. Refute it at one input. -/
def holdNilWrong : ChangeSpec := { name := "holdNil", fn := fun _ => fun
  | [d] => { results := [.lit (.bool false)], args := [d] }
  | _ => none }
def HoldNilWrongFalsely : Prop := holdNilRow.holds Try.pinned (OpenSpec.ofChange holdNilWrong)

/-- 'wharfingerlaw8.StockOnce': WHATEVER THE INPUT: true; the input reads as it did. -/
def stockOnceSpec : ChangeSpec := { name := "stockOnce", fn := fun _ => fun
  | [d1, d2, d3, d4] => { results := [.lit (.bool true)], args := [d1, d2, d3, d4] }
  | _ => none }
def stockOnceRow : OpenClaim := { program := "ytofabbigngmboaa", sum := "8f990df5305fd2616d71e56f9ca4eb955e714309b50a8828570df3de853525f5", func := "wharfinger/wharfingerlaw8.StockOnce", spec := "stockOnce", apart := false }
def StockOnceSaid : Prop := stockOnceRow.holds Try.pinned (OpenSpec.ofChange stockOnceSpec)

/-- ITS FALSE NEIGHBOUR: 'it returns false'. Refute it at one input. -/
def stockOnceWrong : ChangeSpec := { name := "stockOnce", fn := fun _ => fun
  | [d1, d2, d3, d4] => { results := [.lit (.bool false)], args := [d1, d2, d3, d4] }
  | _ => none }
def StockOnceWrongFalsely : Prop := stockOnceRow.holds Try.pinned (OpenSpec.ofChange stockOnceWrong)

/-- 'wharfingerlaw8.StockItems': WHATEVER THE INPUT: true; the input reads as it did. -/
def stockItemsSpec : ChangeSpec := { name := "stockItems", fn := fun _ => fun
  | [d1, d2] => { results := [.lit (.bool true)], args := [d1, d2] }
  | _ => none }
def stockItemsRow : OpenClaim := { program := "ytofabbigngmboaa", sum := "8f990df5305fd2616d71e56f9ca4eb955e714309b50a8828570df3de853525f5", func := "wharfinger/wharfingerlaw8.StockItems", spec := "stockItems", apart := false }
def StockItemsSaid : Prop := stockItemsRow.holds Try.pinned (OpenSpec.ofChange stockItemsSpec)

/-- ITS FALSE NEIGHBOUR: 'it returns false'. Refute it at one input. -/
def stockItemsWrong : ChangeSpec := { name := "stockItems", fn := fun _ => fun
  | [d1, d2] => { results := [.lit (.bool false)], args := [d1, d2] }
  | _ => none }
def StockItemsWrongFalsely : Prop := stockItemsRow.holds Try.pinned (OpenSpec.ofChange stockItemsWrong)

/-- 'wharfingerlaw8.StockLast': WHATEVER THE INPUT: true; the input reads as it did. -/
def stockLastSpec : ChangeSpec := { name := "stockLast", fn := fun _ => fun
  | [d1, d2] => { results := [.lit (.bool true)], args := [d1, d2] }
  | _ => none }
def stockLastRow : OpenClaim := { program := "ytofabbigngmboaa", sum := "8f990df5305fd2616d71e56f9ca4eb955e714309b50a8828570df3de853525f5", func := "wharfinger/wharfingerlaw8.StockLast", spec := "stockLast", apart := false }
def StockLastSaid : Prop := stockLastRow.holds Try.pinned (OpenSpec.ofChange stockLastSpec)

/-- ITS FALSE NEIGHBOUR: 'it returns false'. Refute it at one input. -/
def stockLastWrong : ChangeSpec := { name := "stockLast", fn := fun _ => fun
  | [d1, d2] => { results := [.lit (.bool false)], args := [d1, d2] }
  | _ => none }
def StockLastWrongFalsely : Prop := stockLastRow.holds Try.pinned (OpenSpec.ofChange stockLastWrong)

/-- 'wharfingerlaw8.StockPlays': WHATEVER THE INPUT: true; the input reads as it did. -/
def stockPlaysSpec : ChangeSpec := { name := "stockPlays", fn := fun _ => fun
  | [d1, d2] => { results := [.lit (.bool true)], args := [d1, d2] }
  | _ => none }
def stockPlaysRow : OpenClaim := { program := "ytofabbigngmboaa", sum := "8f990df5305fd2616d71e56f9ca4eb955e714309b50a8828570df3de853525f5", func := "wharfinger/wharfingerlaw8.StockPlays", spec := "stockPlays", apart := false }
def StockPlaysSaid : Prop := stockPlaysRow.holds Try.pinned (OpenSpec.ofChange stockPlaysSpec)

/-- ITS FALSE NEIGHBOUR: 'it returns false'. Refute it at one input. -/
def stockPlaysWrong : ChangeSpec := { name := "stockPlays", fn := fun _ => fun
  | [d1, d2] => { results := [.lit (.bool false)], args := [d1, d2] }
  | _ => none }
def StockPlaysWrongFalsely : Prop := stockPlaysRow.holds Try.pinned (OpenSpec.ofChange stockPlaysWrong)

/-- 'wharfingerlaw8.StockNil': WHATEVER THE INPUT: true; the input reads as it did. -/
def stockNilSpec : ChangeSpec := { name := "stockNil", fn := fun _ => fun
  | [d] => { results := [.lit (.bool true)], args := [d] }
  | _ => none }
def stockNilRow : OpenClaim := { program := "ytofabbigngmboaa", sum := "8f990df5305fd2616d71e56f9ca4eb955e714309b50a8828570df3de853525f5", func := "wharfinger/wharfingerlaw8.StockNil", spec := "stockNil", apart := false }
def StockNilSaid : Prop := stockNilRow.holds Try.pinned (OpenSpec.ofChange stockNilSpec)

/-- ITS FALSE NEIGHBOUR: 'it returns false'. Refute it at one input. -/
def stockNilWrong : ChangeSpec := { name := "stockNil", fn := fun _ => fun
  | [d] => { results := [.lit (.bool false)], args := [d] }
  | _ => none }
def StockNilWrongFalsely : Prop := stockNilRow.holds Try.pinned (OpenSpec.ofChange stockNilWrong)

/-- 'wharfingerlaw8.StockSums': WHATEVER THE INPUT: true; the input reads as it did. -/
def stockSumsSpec : ChangeSpec := { name := "stockSums", fn := fun _ => fun
  | [d1, d2] => { results := [.lit (.bool true)], args := [d1, d2] }
  | _ => none }
def stockSumsRow : OpenClaim := { program := "ytofabbigngmboaa", sum := "8f990df5305fd2616d71e56f9ca4eb955e714309b50a8828570df3de853525f5", func := "wharfinger/wharfingerlaw8.StockSums", spec := "stockSums", apart := false }
def StockSumsSaid : Prop := stockSumsRow.holds Try.pinned (OpenSpec.ofChange stockSumsSpec)

/-- ITS FALSE NEIGHBOUR: 'it returns false'. Refute it at one input. -/
def stockSumsWrong : ChangeSpec := { name := "stockSums", fn := fun _ => fun
  | [d1, d2] => { results := [.lit (.bool false)], args := [d1, d2] }
  | _ => none }
def StockSumsWrongFalsely : Prop := stockSumsRow.holds Try.pinned (OpenSpec.ofChange stockSumsWrong)

/- THE SECOND FORM. 'bulk': how many values and letters a reading holds, each counted each time it is reached (what is shared counts as often as it is met; a slice's spare places count too). A statement '..UptoSaid' is the law's where the arguments, and the package variables that the reading takes, are together of bulk at most 1048576: NARROWER than '..Said'. Prove '..Said' where nothing that the law and all that it calls make is longer than what came in: it says more and counts as full. Else prove '..UptoSaid'. A law counts once. -/
mutual
def uptoBulk {H : Type} : DataW H → Nat
  | .lit (.string bytes) => bytes.length + 1
  | .lit _ => 1
  | .nil => 1
  | .ptr d => uptoBulk d + 1
  | .slice elems spare => uptoBulkAll elems + uptoBulkAll spare + 1
  | .agg parts => uptoBulkAll parts + 1
  | .iface _ d => uptoBulk d + 1
  | .map entries => uptoBulkEntries entries + 1
  | .held _ => 1
def uptoBulkAll {H : Type} : List (DataW H) → Nat
  | [] => 0
  | d :: r => uptoBulk d + uptoBulkAll r
def uptoBulkEntries {H : Type} : List (Lit × DataW H) → Nat
  | [] => 0
  | x :: r => uptoBulkEntry x + uptoBulkEntries r
def uptoBulkEntry {H : Type} : Lit × DataW H → Nat
  | (.string bytes, d) => bytes.length + uptoBulk d + 1
  | (_, d) => uptoBulk d + 1
 end
def uptoSmall : (H : Type) → List (DataW H) → Bool := fun _ ds => decide (uptoBulkAll ds ≤ 1048576)
def OpenSpec.upto (s : _root_.Go.ChangeSpec) : _root_.Go.OpenSpec := { _root_.Go.OpenSpec.ofChange s with cond := some uptoSmall }

/-- 'wharfingerlaw7.HoldApart', WHERE WHAT IT READS IS OF BULK AT MOST 1048576: true; the input reads as it did. -/
def holdApartUptoRow : OpenClaim := { program := "ytofabbigngmboaa", sum := "8f990df5305fd2616d71e56f9ca4eb955e714309b50a8828570df3de853525f5", func := "wharfinger/wharfingerlaw7.HoldApart", spec := "holdApart", apart := false, narrowed := true }
def HoldApartUptoSaid : Prop := holdApartUptoRow.holds Try.pinned (OpenSpec.upto holdApartSpec)

/-- 'wharfingerlaw7.HoldSums', WHERE WHAT IT READS IS OF BULK AT MOST 1048576: true; the input reads as it did. -/
def holdSumsUptoRow : OpenClaim := { program := "ytofabbigngmboaa", sum := "8f990df5305fd2616d71e56f9ca4eb955e714309b50a8828570df3de853525f5", func := "wharfinger/wharfingerlaw7.HoldSums", spec := "holdSums", apart := false, narrowed := true }
def HoldSumsUptoSaid : Prop := holdSumsUptoRow.holds Try.pinned (OpenSpec.upto holdSumsSpec)

/-- 'wharfingerlaw7.HoldRow', WHERE WHAT IT READS IS OF BULK AT MOST 1048576: true; the input reads as it did. -/
def holdRowUptoRow : OpenClaim := { program := "ytofabbigngmboaa", sum := "8f990df5305fd2616d71e56f9ca4eb955e714309b50a8828570df3de853525f5", func := "wharfinger/wharfingerlaw7.HoldRow", spec := "holdRow", unfollowed := true, recurses := true, apart := false, narrowed := true }
def HoldRowUptoSaid : Prop := holdRowUptoRow.holds Try.pinned (OpenSpec.upto holdRowSpec)

/-- 'wharfingerlaw7.HoldPlays', WHERE WHAT IT READS IS OF BULK AT MOST 1048576: true; the input reads as it did. -/
def holdPlaysUptoRow : OpenClaim := { program := "ytofabbigngmboaa", sum := "8f990df5305fd2616d71e56f9ca4eb955e714309b50a8828570df3de853525f5", func := "wharfinger/wharfingerlaw7.HoldPlays", spec := "holdPlays", unfollowed := true, recurses := true, apart := false, narrowed := true }
def HoldPlaysUptoSaid : Prop := holdPlaysUptoRow.holds Try.pinned (OpenSpec.upto holdPlaysSpec)

/-- 'wharfingerlaw7.HoldNil', WHERE WHAT IT READS IS OF BULK AT MOST 1048576: true; the input reads as it did. -/
def holdNilUptoRow : OpenClaim := { program := "ytofabbigngmboaa", sum := "8f990df5305fd2616d71e56f9ca4eb955e714309b50a8828570df3de853525f5", func := "wharfinger/wharfingerlaw7.HoldNil", spec := "holdNil", unfollowed := true, recurses := true, apart := false, narrowed := true }
def HoldNilUptoSaid : Prop := holdNilUptoRow.holds Try.pinned (OpenSpec.upto holdNilSpec)

/-- 'wharfingerlaw8.StockOnce', WHERE WHAT IT READS IS OF BULK AT MOST 1048576: true; the input reads as it did. -/
def stockOnceUptoRow : OpenClaim := { program := "ytofabbigngmboaa", sum := "8f990df5305fd2616d71e56f9ca4eb955e714309b50a8828570df3de853525f5", func := "wharfinger/wharfingerlaw8.StockOnce", spec := "stockOnce", apart := false, narrowed := true }
def StockOnceUptoSaid : Prop := stockOnceUptoRow.holds Try.pinned (OpenSpec.upto stockOnceSpec)

/-- 'wharfingerlaw8.StockItems', WHERE WHAT IT READS IS OF BULK AT MOST 1048576: true; the input reads as it did. -/
def stockItemsUptoRow : OpenClaim := { program := "ytofabbigngmboaa", sum := "8f990df5305fd2616d71e56f9ca4eb955e714309b50a8828570df3de853525f5", func := "wharfinger/wharfingerlaw8.StockItems", spec := "stockItems", apart := false, narrowed := true }
def StockItemsUptoSaid : Prop := stockItemsUptoRow.holds Try.pinned (OpenSpec.upto stockItemsSpec)

/-- 'wharfingerlaw8.StockLast', WHERE WHAT IT READS IS OF BULK AT MOST 1048576: true; the input reads as it did. -/
def stockLastUptoRow : OpenClaim := { program := "ytofabbigngmboaa", sum := "8f990df5305fd2616d71e56f9ca4eb955e714309b50a8828570df3de853525f5", func := "wharfinger/wharfingerlaw8.StockLast", spec := "stockLast", apart := false, narrowed := true }
def StockLastUptoSaid : Prop := stockLastUptoRow.holds Try.pinned (OpenSpec.upto stockLastSpec)

/-- 'wharfingerlaw8.StockPlays', WHERE WHAT IT READS IS OF BULK AT MOST 1048576: true; the input reads as it did. -/
def stockPlaysUptoRow : OpenClaim := { program := "ytofabbigngmboaa", sum := "8f990df5305fd2616d71e56f9ca4eb955e714309b50a8828570df3de853525f5", func := "wharfinger/wharfingerlaw8.StockPlays", spec := "stockPlays", apart := false, narrowed := true }
def StockPlaysUptoSaid : Prop := stockPlaysUptoRow.holds Try.pinned (OpenSpec.upto stockPlaysSpec)

/-- 'wharfingerlaw8.StockNil', WHERE WHAT IT READS IS OF BULK AT MOST 1048576: true; the input reads as it did. -/
def stockNilUptoRow : OpenClaim := { program := "ytofabbigngmboaa", sum := "8f990df5305fd2616d71e56f9ca4eb955e714309b50a8828570df3de853525f5", func := "wharfinger/wharfingerlaw8.StockNil", spec := "stockNil", apart := false, narrowed := true }
def StockNilUptoSaid : Prop := stockNilUptoRow.holds Try.pinned (OpenSpec.upto stockNilSpec)

/-- 'wharfingerlaw8.StockSums', WHERE WHAT IT READS IS OF BULK AT MOST 1048576: true; the input reads as it did. -/
def stockSumsUptoRow : OpenClaim := { program := "ytofabbigngmboaa", sum := "8f990df5305fd2616d71e56f9ca4eb955e714309b50a8828570df3de853525f5", func := "wharfinger/wharfingerlaw8.StockSums", spec := "stockSums", apart := false, narrowed := true }
def StockSumsUptoSaid : Prop := stockSumsUptoRow.holds Try.pinned (OpenSpec.upto stockSumsSpec)

end Rows
end Go.Proofs.Ytofabbigngmboaa
