/-
  No cell of these rows narrows 'for every input' (looked for: loops, veiled, ifaces, maps, wideKeys, modest, calm, conditions, laid).
  DERIVED. THE GIVEN ROWS OF THIS SEAT. 9 by the template 'for every input the law returns true; each argument reads behind the call as it read before'; 0 by the template 'total and deterministic' (their statements: YtkacnogjifhcoaaTotals.lean).
  GIVEN WITH THE SEED: the statements are not yours to turn. If you find one false, say at which input.
  Laid BY PROGRAM, IN A SANDBOX (cutbox-rows.mjs): the forced cells as the released guide's own fill.sh prints them over the translation e9b25ac3c4f1a0eb… (all of the seat's roots in one cut). By AI agents, Wed Nov 11 2026. No macro, syntax, notation, axiom, sorry.
-/
import Derived.Test.YtkacnogjifhcoaaChecked
import GoSem.Claim
import GoSem.ClaimJoined
import GoSem.ClaimMapViews
import Derived.JoinedTies
import Derived.KernelRfl
namespace Go.Proofs.Ytkacnogjifhcoaa
/- THE CELL 'sum', in the pinned program and in every row, IS THE sha256 OF THE DUMP (.gsa) THAT YtkacnogjifhcoaaProg.lean LOADS. Nothing in Lean hashes anything: it is a label: what it is worth is what the hold of that sum in a sandbox is worth. -/
noncomputable def Try.pinned : Pinned := { name := "ytkacnogjifhcoaa", sum := "e9b25ac3c4f1a0eb7fc4c9e45da748ade0f6db7436dadcd55c93bdb0fcce7dac", checked := Try.checked }
namespace Rows
def none {H : Type} : Left H := { results := [], args := [] }

/-- 'wharfingerlaw10.ParcelOrder': WHATEVER THE INPUT: true; the input reads as it did. -/
def parcelOrderSpec : ChangeSpec := { name := "parcelOrder", fn := fun _ => fun
  | [d] => { results := [.lit (.bool true)], args := [d] }
  | _ => none }
def parcelOrderRow : OpenClaim := { program := "ytkacnogjifhcoaa", sum := "e9b25ac3c4f1a0eb7fc4c9e45da748ade0f6db7436dadcd55c93bdb0fcce7dac", func := "wharfinger/wharfingerlaw10.ParcelOrder", spec := "parcelOrder", unfollowed := true, recurses := true, plainKeys := false, apart := false }
def ParcelOrderSaid : Prop := parcelOrderRow.holds Try.pinned (OpenSpec.ofChange parcelOrderSpec)

/-- ITS FALSE NEIGHBOUR: 'it returns false'. Refute it at one input. -/
def parcelOrderWrong : ChangeSpec := { name := "parcelOrder", fn := fun _ => fun
  | [d] => { results := [.lit (.bool false)], args := [d] }
  | _ => none }
def ParcelOrderWrongFalsely : Prop := parcelOrderRow.holds Try.pinned (OpenSpec.ofChange parcelOrderWrong)

/-- 'wharfingerlaw10.ParcelPlays': WHATEVER THE INPUT: true; the input reads as it did. -/
def parcelPlaysSpec : ChangeSpec := { name := "parcelPlays", fn := fun _ => fun
  | [d] => { results := [.lit (.bool true)], args := [d] }
  | _ => none }
def parcelPlaysRow : OpenClaim := { program := "ytkacnogjifhcoaa", sum := "e9b25ac3c4f1a0eb7fc4c9e45da748ade0f6db7436dadcd55c93bdb0fcce7dac", func := "wharfinger/wharfingerlaw10.ParcelPlays", spec := "parcelPlays", unfollowed := true, recurses := true, plainKeys := false, apart := false }
def ParcelPlaysSaid : Prop := parcelPlaysRow.holds Try.pinned (OpenSpec.ofChange parcelPlaysSpec)

/-- ITS FALSE NEIGHBOUR: 'it returns false'. Refute it at one input. -/
def parcelPlaysWrong : ChangeSpec := { name := "parcelPlays", fn := fun _ => fun
  | [d] => { results := [.lit (.bool false)], args := [d] }
  | _ => none }
def ParcelPlaysWrongFalsely : Prop := parcelPlaysRow.holds Try.pinned (OpenSpec.ofChange parcelPlaysWrong)

/-- 'wharfingerlaw10.ParcelNil': WHATEVER THE INPUT: true; the input reads as it did. -/
def parcelNilSpec : ChangeSpec := { name := "parcelNil", fn := fun _ => fun
  | [d] => { results := [.lit (.bool true)], args := [d] }
  | _ => none }
def parcelNilRow : OpenClaim := { program := "ytkacnogjifhcoaa", sum := "e9b25ac3c4f1a0eb7fc4c9e45da748ade0f6db7436dadcd55c93bdb0fcce7dac", func := "wharfinger/wharfingerlaw10.ParcelNil", spec := "parcelNil", unfollowed := true, recurses := true, plainKeys := false, apart := false }
def ParcelNilSaid : Prop := parcelNilRow.holds Try.pinned (OpenSpec.ofChange parcelNilSpec)

/-- ITS FALSE NEIGHBOUR: 'it returns false'. Refute it at one input. -/
def parcelNilWrong : ChangeSpec := { name := "parcelNil", fn := fun _ => fun
  | [d] => { results := [.lit (.bool false)], args := [d] }
  | _ => none }
def ParcelNilWrongFalsely : Prop := parcelNilRow.holds Try.pinned (OpenSpec.ofChange parcelNilWrong)

/-- 'wharfingerlaw10.ParcelOnce': WHATEVER THE INPUT: true; the input reads as it did. -/
def parcelOnceSpec : ChangeSpec := { name := "parcelOnce", fn := fun _ => fun
  | [d] => { results := [.lit (.bool true)], args := [d] }
  | _ => none }
def parcelOnceRow : OpenClaim := { program := "ytkacnogjifhcoaa", sum := "e9b25ac3c4f1a0eb7fc4c9e45da748ade0f6db7436dadcd55c93bdb0fcce7dac", func := "wharfinger/wharfingerlaw10.ParcelOnce", spec := "parcelOnce", unfollowed := true, recurses := true, plainKeys := false, apart := false }
def ParcelOnceSaid : Prop := parcelOnceRow.holds Try.pinned (OpenSpec.ofChange parcelOnceSpec)

/-- ITS FALSE NEIGHBOUR: 'it returns false'. Refute it at one input. -/
def parcelOnceWrong : ChangeSpec := { name := "parcelOnce", fn := fun _ => fun
  | [d] => { results := [.lit (.bool false)], args := [d] }
  | _ => none }
def ParcelOnceWrongFalsely : Prop := parcelOnceRow.holds Try.pinned (OpenSpec.ofChange parcelOnceWrong)

/-- 'wharfingerlaw17.PostOnce': WHATEVER THE INPUT: true; the input reads as it did. -/
def postOnceSpec : ChangeSpec := { name := "postOnce", fn := fun _ => fun
  | [d1, d2, d3] => { results := [.lit (.bool true)], args := [d1, d2, d3] }
  | _ => none }
def postOnceRow : OpenClaim := { program := "ytkacnogjifhcoaa", sum := "e9b25ac3c4f1a0eb7fc4c9e45da748ade0f6db7436dadcd55c93bdb0fcce7dac", func := "wharfinger/wharfingerlaw17.PostOnce", spec := "postOnce", plainKeys := false, apart := false }
def PostOnceSaid : Prop := postOnceRow.holds Try.pinned (OpenSpec.ofChange postOnceSpec)

/-- ITS FALSE NEIGHBOUR: 'it returns false'. Refute it at one input. -/
def postOnceWrong : ChangeSpec := { name := "postOnce", fn := fun _ => fun
  | [d1, d2, d3] => { results := [.lit (.bool false)], args := [d1, d2, d3] }
  | _ => none }
def PostOnceWrongFalsely : Prop := postOnceRow.holds Try.pinned (OpenSpec.ofChange postOnceWrong)

/-- 'wharfingerlaw17.PostFull': WHATEVER THE INPUT: true; the input reads as it did. -/
def postFullSpec : ChangeSpec := { name := "postFull", fn := fun _ => fun
  | [d1, d2] => { results := [.lit (.bool true)], args := [d1, d2] }
  | _ => none }
def postFullRow : OpenClaim := { program := "ytkacnogjifhcoaa", sum := "e9b25ac3c4f1a0eb7fc4c9e45da748ade0f6db7436dadcd55c93bdb0fcce7dac", func := "wharfinger/wharfingerlaw17.PostFull", spec := "postFull", unfollowed := true, recurses := true, plainKeys := false, apart := false }
def PostFullSaid : Prop := postFullRow.holds Try.pinned (OpenSpec.ofChange postFullSpec)

/-- ITS FALSE NEIGHBOUR: 'it returns false'. Refute it at one input. -/
def postFullWrong : ChangeSpec := { name := "postFull", fn := fun _ => fun
  | [d1, d2] => { results := [.lit (.bool false)], args := [d1, d2] }
  | _ => none }
def PostFullWrongFalsely : Prop := postFullRow.holds Try.pinned (OpenSpec.ofChange postFullWrong)

/-- 'wharfingerlaw17.PostTakes': WHATEVER THE INPUT: true; the input reads as it did. -/
def postTakesSpec : ChangeSpec := { name := "postTakes", fn := fun _ => fun
  | [d1, d2] => { results := [.lit (.bool true)], args := [d1, d2] }
  | _ => none }
def postTakesRow : OpenClaim := { program := "ytkacnogjifhcoaa", sum := "e9b25ac3c4f1a0eb7fc4c9e45da748ade0f6db7436dadcd55c93bdb0fcce7dac", func := "wharfinger/wharfingerlaw17.PostTakes", spec := "postTakes", unfollowed := true, recurses := true, plainKeys := false, apart := false }
def PostTakesSaid : Prop := postTakesRow.holds Try.pinned (OpenSpec.ofChange postTakesSpec)

/-- ITS FALSE NEIGHBOUR: 'it returns false'. Refute it at one input. -/
def postTakesWrong : ChangeSpec := { name := "postTakes", fn := fun _ => fun
  | [d1, d2] => { results := [.lit (.bool false)], args := [d1, d2] }
  | _ => none }
def PostTakesWrongFalsely : Prop := postTakesRow.holds Try.pinned (OpenSpec.ofChange postTakesWrong)

/-- 'wharfingerlaw17.PostPlays': WHATEVER THE INPUT: true; the input reads as it did. -/
def postPlaysSpec : ChangeSpec := { name := "postPlays", fn := fun _ => fun
  | [d1, d2, d3] => { results := [.lit (.bool true)], args := [d1, d2, d3] }
  | _ => none }
def postPlaysRow : OpenClaim := { program := "ytkacnogjifhcoaa", sum := "e9b25ac3c4f1a0eb7fc4c9e45da748ade0f6db7436dadcd55c93bdb0fcce7dac", func := "wharfinger/wharfingerlaw17.PostPlays", spec := "postPlays", unfollowed := true, recurses := true, plainKeys := false, apart := false }
def PostPlaysSaid : Prop := postPlaysRow.holds Try.pinned (OpenSpec.ofChange postPlaysSpec)

/-- ITS FALSE NEIGHBOUR: 'it returns false'. Refute it at one input. -/
def postPlaysWrong : ChangeSpec := { name := "postPlays", fn := fun _ => fun
  | [d1, d2, d3] => { results := [.lit (.bool false)], args := [d1, d2, d3] }
  | _ => none }
def PostPlaysWrongFalsely : Prop := postPlaysRow.holds Try.pinned (OpenSpec.ofChange postPlaysWrong)

/-- 'wharfingerlaw17.PostNil': WHATEVER THE INPUT: true; the input reads as it did. -/
def postNilSpec : ChangeSpec := { name := "postNil", fn := fun _ => fun
  | [d] => { results := [.lit (.bool true)], args := [d] }
  | _ => none }
def postNilRow : OpenClaim := { program := "ytkacnogjifhcoaa", sum := "e9b25ac3c4f1a0eb7fc4c9e45da748ade0f6db7436dadcd55c93bdb0fcce7dac", func := "wharfinger/wharfingerlaw17.PostNil", spec := "postNil", unfollowed := true, recurses := true, plainKeys := false, apart := false }
def PostNilSaid : Prop := postNilRow.holds Try.pinned (OpenSpec.ofChange postNilSpec)

/-- ITS FALSE NEIGHBOUR: 'it returns false'. Refute it at one input. -/
def postNilWrong : ChangeSpec := { name := "postNil", fn := fun _ => fun
  | [d] => { results := [.lit (.bool false)], args := [d] }
  | _ => none }
def PostNilWrongFalsely : Prop := postNilRow.holds Try.pinned (OpenSpec.ofChange postNilWrong)

/- THE SECOND FORM. 'bulk': how many values and letters a reading holds, each counted each time it is reached (what is shared counts as often as it is met; a slice's spare places count too). A statement '..UptoSaid' is the law's where the arguments, and the package variables that the reading takes, are together of bulk at most 1048576: NARROWER than '..Said'. Prove '..Said' where nothing that the law and all that it calls make is longer than what came in: it says more and counts as full. Else prove '..UptoSaid'. A law counts once. -/
mutual
def uptoBulk {H : Type} : DataW H → Nat
  | .lit (.string bytes) => bytes.length + 1
  | .lit _ => 1
  | .nil => 1
  | .ptr d => uptoBulk d + 1
  | .slice elems spare => uptoBulkAll elems + uptoBulkAll spare + 1
  | .agg parts => uptoBulkAll parts + 1
  | .iface _ d => uptoBulk d + 1
  | .map entries => uptoBulkEntries entries + 1
  | .held _ => 1
def uptoBulkAll {H : Type} : List (DataW H) → Nat
  | [] => 0
  | d :: r => uptoBulk d + uptoBulkAll r
def uptoBulkEntries {H : Type} : List (Lit × DataW H) → Nat
  | [] => 0
  | x :: r => uptoBulkEntry x + uptoBulkEntries r
def uptoBulkEntry {H : Type} : Lit × DataW H → Nat
  | (.string bytes, d) => bytes.length + uptoBulk d + 1
  | (_, d) => uptoBulk d + 1
 end
def uptoSmall : (H : Type) → List (DataW H) → Bool := fun _ ds => decide (uptoBulkAll ds ≤ 1048576)
def OpenSpec.upto (s : _root_.Go.ChangeSpec) : _root_.Go.OpenSpec := { _root_.Go.OpenSpec.ofChange s with cond := some uptoSmall }

/-- 'wharfingerlaw10.ParcelOrder', WHERE WHAT IT READS IS OF BULK AT MOST 1048576: true; the input reads as it did. -/
def parcelOrderUptoRow : OpenClaim := { program := "ytkacnogjifhcoaa", sum := "e9b25ac3c4f1a0eb7fc4c9e45da748ade0f6db7436dadcd55c93bdb0fcce7dac", func := "wharfinger/wharfingerlaw10.ParcelOrder", spec := "parcelOrder", unfollowed := true, recurses := true, plainKeys := false, apart := false, narrowed := true }
def ParcelOrderUptoSaid : Prop := parcelOrderUptoRow.holds Try.pinned (OpenSpec.upto parcelOrderSpec)

/-- 'wharfingerlaw10.ParcelPlays', WHERE WHAT IT READS IS OF BULK AT MOST 1048576: true; the input reads as it did. -/
def parcelPlaysUptoRow : OpenClaim := { program := "ytkacnogjifhcoaa", sum := "e9b25ac3c4f1a0eb7fc4c9e45da748ade0f6db7436dadcd55c93bdb0fcce7dac", func := "wharfinger/wharfingerlaw10.ParcelPlays", spec := "parcelPlays", unfollowed := true, recurses := true, plainKeys := false, apart := false, narrowed := true }
def ParcelPlaysUptoSaid : Prop := parcelPlaysUptoRow.holds Try.pinned (OpenSpec.upto parcelPlaysSpec)

/-- 'wharfingerlaw10.ParcelNil', WHERE WHAT IT READS IS OF BULK AT MOST 1048576: true; the input reads as it did. -/
def parcelNilUptoRow : OpenClaim := { program := "ytkacnogjifhcoaa", sum := "e9b25ac3c4f1a0eb7fc4c9e45da748ade0f6db7436dadcd55c93bdb0fcce7dac", func := "wharfinger/wharfingerlaw10.ParcelNil", spec := "parcelNil", unfollowed := true, recurses := true, plainKeys := false, apart := false, narrowed := true }
def ParcelNilUptoSaid : Prop := parcelNilUptoRow.holds Try.pinned (OpenSpec.upto parcelNilSpec)

/-- 'wharfingerlaw10.ParcelOnce', WHERE WHAT IT READS IS OF BULK AT MOST 1048576: true; the input reads as it did. -/
def parcelOnceUptoRow : OpenClaim := { program := "ytkacnogjifhcoaa", sum := "e9b25ac3c4f1a0eb7fc4c9e45da748ade0f6db7436dadcd55c93bdb0fcce7dac", func := "wharfinger/wharfingerlaw10.ParcelOnce", spec := "parcelOnce", unfollowed := true, recurses := true, plainKeys := false, apart := false, narrowed := true }
def ParcelOnceUptoSaid : Prop := parcelOnceUptoRow.holds Try.pinned (OpenSpec.upto parcelOnceSpec)

/-- 'wharfingerlaw17.PostOnce', WHERE WHAT IT READS IS OF BULK AT MOST 1048576: true; the input reads as it did. -/
def postOnceUptoRow : OpenClaim := { program := "ytkacnogjifhcoaa", sum := "e9b25ac3c4f1a0eb7fc4c9e45da748ade0f6db7436dadcd55c93bdb0fcce7dac", func := "wharfinger/wharfingerlaw17.PostOnce", spec := "postOnce", plainKeys := false, apart := false, narrowed := true }
def PostOnceUptoSaid : Prop := postOnceUptoRow.holds Try.pinned (OpenSpec.upto postOnceSpec)

/-- 'wharfingerlaw17.PostFull', WHERE WHAT IT READS IS OF BULK AT MOST 1048576: true; the input reads as it did. -/
def postFullUptoRow : OpenClaim := { program := "ytkacnogjifhcoaa", sum := "e9b25ac3c4f1a0eb7fc4c9e45da748ade0f6db7436dadcd55c93bdb0fcce7dac", func := "wharfinger/wharfingerlaw17.PostFull", spec := "postFull", unfollowed := true, recurses := true, plainKeys := false, apart := false, narrowed := true }
def PostFullUptoSaid : Prop := postFullUptoRow.holds Try.pinned (OpenSpec.upto postFullSpec)

/-- 'wharfingerlaw17.PostTakes', WHERE WHAT IT READS IS OF BULK AT MOST 1048576: true; the input reads as it did. -/
def postTakesUptoRow : OpenClaim := { program := "ytkacnogjifhcoaa", sum := "e9b25ac3c4f1a0eb7fc4c9e45da748ade0f6db7436dadcd55c93bdb0fcce7dac", func := "wharfinger/wharfingerlaw17.PostTakes", spec := "postTakes", unfollowed := true, recurses := true, plainKeys := false, apart := false, narrowed := true }
def PostTakesUptoSaid : Prop := postTakesUptoRow.holds Try.pinned (OpenSpec.upto postTakesSpec)

/-- 'wharfingerlaw17.PostPlays', WHERE WHAT IT READS IS OF BULK AT MOST 1048576: true; the input reads as it did. -/
def postPlaysUptoRow : OpenClaim := { program := "ytkacnogjifhcoaa", sum := "e9b25ac3c4f1a0eb7fc4c9e45da748ade0f6db7436dadcd55c93bdb0fcce7dac", func := "wharfinger/wharfingerlaw17.PostPlays", spec := "postPlays", unfollowed := true, recurses := true, plainKeys := false, apart := false, narrowed := true }
def PostPlaysUptoSaid : Prop := postPlaysUptoRow.holds Try.pinned (OpenSpec.upto postPlaysSpec)

/-- 'wharfingerlaw17.PostNil', WHERE WHAT IT READS IS OF BULK AT MOST 1048576: true; the input reads as it did. -/
def postNilUptoRow : OpenClaim := { program := "ytkacnogjifhcoaa", sum := "e9b25ac3c4f1a0eb7fc4c9e45da748ade0f6db7436dadcd55c93bdb0fcce7dac", func := "wharfinger/wharfingerlaw17.PostNil", spec := "postNil", unfollowed := true, recurses := true, plainKeys := false, apart := false, narrowed := true }
def PostNilUptoSaid : Prop := postNilUptoRow.holds Try.pinned (OpenSpec.upto postNilSpec)

end Rows
end Go.Proofs.Ytkacnogjifhcoaa
