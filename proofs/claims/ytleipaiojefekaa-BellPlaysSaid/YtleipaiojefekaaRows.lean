/-
  No cell of these rows narrows 'for every input' (looked for: loops, veiled, ifaces, maps, wideKeys, modest, calm, conditions, laid).
  DERIVED. THE GIVEN ROWS OF THIS SEAT. 8 by the template 'for every input the law returns true; each argument reads behind the call as it read before'; 0 by the template 'total and deterministic' (their statements: YtleipaiojefekaaTotals.lean).
  GIVEN WITH THE SEED: the statements are not yours to turn. If you find one false, say at which input.
  Laid BY PROGRAM, IN A SANDBOX (cutbox-rows.mjs): the forced cells as the released guide's own fill.sh prints them over the translation 075a771a36136b18… (all of the seat's roots in one cut). By AI agents, Wed Nov 11 2026. No macro, syntax, notation, axiom, sorry.
-/
import Derived.Test.YtleipaiojefekaaChecked
import GoSem.Claim
import GoSem.ClaimJoined
import GoSem.ClaimMapViews
import Derived.JoinedTies
import Derived.KernelRfl
namespace Go.Proofs.Ytleipaiojefekaa
/- THE CELL 'sum', in the pinned program and in every row, IS THE sha256 OF THE DUMP (.gsa) THAT YtleipaiojefekaaProg.lean LOADS. Nothing in Lean hashes anything: it is a label: what it is worth is what the hold of that sum in a sandbox is worth. -/
noncomputable def Try.pinned : Pinned := { name := "ytleipaiojefekaa", sum := "075a771a36136b18b0012de2f1b5cd7078680cd54200bc50694f0c18cf2ddda3", checked := Try.checked }
namespace Rows
def none {H : Type} : Left H := { results := [], args := [] }

/-- 'wharfingerlaw9.PurseTill': WHATEVER THE INPUT: true; the input reads as it did. -/
def purseTillSpec : ChangeSpec := { name := "purseTill", fn := fun _ => fun
  | [d1, d2] => { results := [.lit (.bool true)], args := [d1, d2] }
  | _ => none }
def purseTillRow : OpenClaim := { program := "ytleipaiojefekaa", sum := "075a771a36136b18b0012de2f1b5cd7078680cd54200bc50694f0c18cf2ddda3", func := "wharfinger/wharfingerlaw9.PurseTill", spec := "purseTill", apart := false }
def PurseTillSaid : Prop := purseTillRow.holds Try.pinned (OpenSpec.ofChange purseTillSpec)

/-- ITS FALSE NEIGHBOUR: 'it returns false'. Refute it at one input. -/
def purseTillWrong : ChangeSpec := { name := "purseTill", fn := fun _ => fun
  | [d1, d2] => { results := [.lit (.bool false)], args := [d1, d2] }
  | _ => none }
def PurseTillWrongFalsely : Prop := purseTillRow.holds Try.pinned (OpenSpec.ofChange purseTillWrong)

/-- 'wharfingerlaw9.PurseClients': WHATEVER THE INPUT: true; the input reads as it did. -/
def purseClientsSpec : ChangeSpec := { name := "purseClients", fn := fun _ => fun
  | [d] => { results := [.lit (.bool true)], args := [d] }
  | _ => none }
def purseClientsRow : OpenClaim := { program := "ytleipaiojefekaa", sum := "075a771a36136b18b0012de2f1b5cd7078680cd54200bc50694f0c18cf2ddda3", func := "wharfinger/wharfingerlaw9.PurseClients", spec := "purseClients", apart := false }
def PurseClientsSaid : Prop := purseClientsRow.holds Try.pinned (OpenSpec.ofChange purseClientsSpec)

/-- ITS FALSE NEIGHBOUR: 'it returns false'. Refute it at one input. -/
def purseClientsWrong : ChangeSpec := { name := "purseClients", fn := fun _ => fun
  | [d] => { results := [.lit (.bool false)], args := [d] }
  | _ => none }
def PurseClientsWrongFalsely : Prop := purseClientsRow.holds Try.pinned (OpenSpec.ofChange purseClientsWrong)

/-- 'wharfingerlaw9.PurseNil': WHATEVER THE INPUT: true; the input reads as it did. -/
def purseNilSpec : ChangeSpec := { name := "purseNil", fn := fun _ => fun
  | [d] => { results := [.lit (.bool true)], args := [d] }
  | _ => none }
def purseNilRow : OpenClaim := { program := "ytleipaiojefekaa", sum := "075a771a36136b18b0012de2f1b5cd7078680cd54200bc50694f0c18cf2ddda3", func := "wharfinger/wharfingerlaw9.PurseNil", spec := "purseNil", apart := false }
def PurseNilSaid : Prop := purseNilRow.holds Try.pinned (OpenSpec.ofChange purseNilSpec)

/-- ITS FALSE NEIGHBOUR: 'it returns false'. Refute it at one input. -/
def purseNilWrong : ChangeSpec := { name := "purseNil", fn := fun _ => fun
  | [d] => { results := [.lit (.bool false)], args := [d] }
  | _ => none }
def PurseNilWrongFalsely : Prop := purseNilRow.holds Try.pinned (OpenSpec.ofChange purseNilWrong)

/-- 'wharfingerlaw9.PurseWhole': WHATEVER THE INPUT: true; the input reads as it did. -/
def purseWholeSpec : ChangeSpec := { name := "purseWhole", fn := fun _ => fun
  | [d1, d2, d3] => { results := [.lit (.bool true)], args := [d1, d2, d3] }
  | _ => none }
def purseWholeRow : OpenClaim := { program := "ytleipaiojefekaa", sum := "075a771a36136b18b0012de2f1b5cd7078680cd54200bc50694f0c18cf2ddda3", func := "wharfinger/wharfingerlaw9.PurseWhole", spec := "purseWhole", apart := false }
def PurseWholeSaid : Prop := purseWholeRow.holds Try.pinned (OpenSpec.ofChange purseWholeSpec)

/-- ITS FALSE NEIGHBOUR: 'it returns false'. Refute it at one input. -/
def purseWholeWrong : ChangeSpec := { name := "purseWhole", fn := fun _ => fun
  | [d1, d2, d3] => { results := [.lit (.bool false)], args := [d1, d2, d3] }
  | _ => none }
def PurseWholeWrongFalsely : Prop := purseWholeRow.holds Try.pinned (OpenSpec.ofChange purseWholeWrong)

/-- 'wharfingerlaw18.BellOften': WHATEVER THE INPUT: true; the input reads as it did. -/
def bellOftenSpec : ChangeSpec := { name := "bellOften", fn := fun _ => fun
  | [d1, d2, d3, d4] => { results := [.lit (.bool true)], args := [d1, d2, d3, d4] }
  | _ => none }
def bellOftenRow : OpenClaim := { program := "ytleipaiojefekaa", sum := "075a771a36136b18b0012de2f1b5cd7078680cd54200bc50694f0c18cf2ddda3", func := "wharfinger/wharfingerlaw18.BellOften", spec := "bellOften", apart := false }
def BellOftenSaid : Prop := bellOftenRow.holds Try.pinned (OpenSpec.ofChange bellOftenSpec)

/-- ITS FALSE NEIGHBOUR: 'it returns false'. Refute it at one input. -/
def bellOftenWrong : ChangeSpec := { name := "bellOften", fn := fun _ => fun
  | [d1, d2, d3, d4] => { results := [.lit (.bool false)], args := [d1, d2, d3, d4] }
  | _ => none }
def BellOftenWrongFalsely : Prop := bellOftenRow.holds Try.pinned (OpenSpec.ofChange bellOftenWrong)

/-- 'wharfingerlaw18.BellPlays': WHATEVER THE INPUT: true; the input reads as it did. -/
def bellPlaysSpec : ChangeSpec := { name := "bellPlays", fn := fun _ => fun
  | [d1, d2, d3] => { results := [.lit (.bool true)], args := [d1, d2, d3] }
  | _ => none }
def bellPlaysRow : OpenClaim := { program := "ytleipaiojefekaa", sum := "075a771a36136b18b0012de2f1b5cd7078680cd54200bc50694f0c18cf2ddda3", func := "wharfinger/wharfingerlaw18.BellPlays", spec := "bellPlays", unfollowed := true, recurses := true, apart := false }
def BellPlaysSaid : Prop := bellPlaysRow.holds Try.pinned (OpenSpec.ofChange bellPlaysSpec)

/-- ITS FALSE NEIGHBOUR: 'it returns false'. Refute it at one input. -/
def bellPlaysWrong : ChangeSpec := { name := "bellPlays", fn := fun _ => fun
  | [d1, d2, d3] => { results := [.lit (.bool false)], args := [d1, d2, d3] }
  | _ => none }
def BellPlaysWrongFalsely : Prop := bellPlaysRow.holds Try.pinned (OpenSpec.ofChange bellPlaysWrong)

/-- 'wharfingerlaw18.BellNil': WHATEVER THE INPUT: true; the input reads as it did. -/
def bellNilSpec : ChangeSpec := { name := "bellNil", fn := fun _ => fun
  | [d] => { results := [.lit (.bool true)], args := [d] }
  | _ => none }
def bellNilRow : OpenClaim := { program := "ytleipaiojefekaa", sum := "075a771a36136b18b0012de2f1b5cd7078680cd54200bc50694f0c18cf2ddda3", func := "wharfinger/wharfingerlaw18.BellNil", spec := "bellNil", unfollowed := true, recurses := true, apart := false }
def BellNilSaid : Prop := bellNilRow.holds Try.pinned (OpenSpec.ofChange bellNilSpec)

/-- ITS FALSE NEIGHBOUR: 'it returns false'. Refute it at one input. -/
def bellNilWrong : ChangeSpec := { name := "bellNil", fn := fun _ => fun
  | [d] => { results := [.lit (.bool false)], args := [d] }
  | _ => none }
def BellNilWrongFalsely : Prop := bellNilRow.holds Try.pinned (OpenSpec.ofChange bellNilWrong)

/-- 'wharfingerlaw18.BellHangs': WHATEVER THE INPUT: true; the input reads as it did. -/
def bellHangsSpec : ChangeSpec := { name := "bellHangs", fn := fun _ => fun
  | [d1, d2, d3] => { results := [.lit (.bool true)], args := [d1, d2, d3] }
  | _ => none }
def bellHangsRow : OpenClaim := { program := "ytleipaiojefekaa", sum := "075a771a36136b18b0012de2f1b5cd7078680cd54200bc50694f0c18cf2ddda3", func := "wharfinger/wharfingerlaw18.BellHangs", spec := "bellHangs", unfollowed := true, recurses := true, apart := false }
def BellHangsSaid : Prop := bellHangsRow.holds Try.pinned (OpenSpec.ofChange bellHangsSpec)

/-- ITS FALSE NEIGHBOUR: 'it returns false'. Refute it at one input. -/
def bellHangsWrong : ChangeSpec := { name := "bellHangs", fn := fun _ => fun
  | [d1, d2, d3] => { results := [.lit (.bool false)], args := [d1, d2, d3] }
  | _ => none }
def BellHangsWrongFalsely : Prop := bellHangsRow.holds Try.pinned (OpenSpec.ofChange bellHangsWrong)

/- THE SECOND FORM. 'bulk': how many values and letters a reading holds, each counted each time it is reached (what is shared counts as often as it is met; a slice's spare places count too). A statement '..UptoSaid' is the law's where the arguments, and the package variables that the reading takes, are together of bulk at most 1048576: NARROWER than '..Said'. Prove '..Said' where nothing that the law and all that it calls make is longer than what came in: it says more and counts as full. Else prove '..UptoSaid'. A law counts once. -/
mutual
def uptoBulk {H : Type} : DataW H → Nat
  | .lit (.string bytes) => bytes.length + 1
  | .lit _ => 1
  | .nil => 1
  | .ptr d => uptoBulk d + 1
  | .slice elems spare => uptoBulkAll elems + uptoBulkAll spare + 1
  | .agg parts => uptoBulkAll parts + 1
  | .iface _ d => uptoBulk d + 1
  | .map entries => uptoBulkEntries entries + 1
  | .held _ => 1
def uptoBulkAll {H : Type} : List (DataW H) → Nat
  | [] => 0
  | d :: r => uptoBulk d + uptoBulkAll r
def uptoBulkEntries {H : Type} : List (Lit × DataW H) → Nat
  | [] => 0
  | x :: r => uptoBulkEntry x + uptoBulkEntries r
def uptoBulkEntry {H : Type} : Lit × DataW H → Nat
  | (.string bytes, d) => bytes.length + uptoBulk d + 1
  | (_, d) => uptoBulk d + 1
 end
def uptoSmall : (H : Type) → List (DataW H) → Bool := fun _ ds => decide (uptoBulkAll ds ≤ 1048576)
def OpenSpec.upto (s : _root_.Go.ChangeSpec) : _root_.Go.OpenSpec := { _root_.Go.OpenSpec.ofChange s with cond := some uptoSmall }

/-- 'wharfingerlaw9.PurseTill', WHERE WHAT IT READS IS OF BULK AT MOST 1048576: true; the input reads as it did. -/
def purseTillUptoRow : OpenClaim := { program := "ytleipaiojefekaa", sum := "075a771a36136b18b0012de2f1b5cd7078680cd54200bc50694f0c18cf2ddda3", func := "wharfinger/wharfingerlaw9.PurseTill", spec := "purseTill", apart := false, narrowed := true }
def PurseTillUptoSaid : Prop := purseTillUptoRow.holds Try.pinned (OpenSpec.upto purseTillSpec)

/-- 'wharfingerlaw9.PurseClients', WHERE WHAT IT READS IS OF BULK AT MOST 1048576: true; the input reads as it did. -/
def purseClientsUptoRow : OpenClaim := { program := "ytleipaiojefekaa", sum := "075a771a36136b18b0012de2f1b5cd7078680cd54200bc50694f0c18cf2ddda3", func := "wharfinger/wharfingerlaw9.PurseClients", spec := "purseClients", apart := false, narrowed := true }
def PurseClientsUptoSaid : Prop := purseClientsUptoRow.holds Try.pinned (OpenSpec.upto purseClientsSpec)

/-- 'wharfingerlaw9.PurseNil', WHERE WHAT IT READS IS OF BULK AT MOST 1048576: true; the input reads as it did. -/
def purseNilUptoRow : OpenClaim := { program := "ytleipaiojefekaa", sum := "075a771a36136b18b0012de2f1b5cd7078680cd54200bc50694f0c18cf2ddda3", func := "wharfinger/wharfingerlaw9.PurseNil", spec := "purseNil", apart := false, narrowed := true }
def PurseNilUptoSaid : Prop := purseNilUptoRow.holds Try.pinned (OpenSpec.upto purseNilSpec)

/-- 'wharfingerlaw9.PurseWhole', WHERE WHAT IT READS IS OF BULK AT MOST 1048576: true; the input reads as it did. -/
def purseWholeUptoRow : OpenClaim := { program := "ytleipaiojefekaa", sum := "075a771a36136b18b0012de2f1b5cd7078680cd54200bc50694f0c18cf2ddda3", func := "wharfinger/wharfingerlaw9.PurseWhole", spec := "purseWhole", apart := false, narrowed := true }
def PurseWholeUptoSaid : Prop := purseWholeUptoRow.holds Try.pinned (OpenSpec.upto purseWholeSpec)

/-- 'wharfingerlaw18.BellOften', WHERE WHAT IT READS IS OF BULK AT MOST 1048576: true; the input reads as it did. -/
def bellOftenUptoRow : OpenClaim := { program := "ytleipaiojefekaa", sum := "075a771a36136b18b0012de2f1b5cd7078680cd54200bc50694f0c18cf2ddda3", func := "wharfinger/wharfingerlaw18.BellOften", spec := "bellOften", apart := false, narrowed := true }
def BellOftenUptoSaid : Prop := bellOftenUptoRow.holds Try.pinned (OpenSpec.upto bellOftenSpec)

/-- 'wharfingerlaw18.BellPlays', WHERE WHAT IT READS IS OF BULK AT MOST 1048576: true; the input reads as it did. -/
def bellPlaysUptoRow : OpenClaim := { program := "ytleipaiojefekaa", sum := "075a771a36136b18b0012de2f1b5cd7078680cd54200bc50694f0c18cf2ddda3", func := "wharfinger/wharfingerlaw18.BellPlays", spec := "bellPlays", unfollowed := true, recurses := true, apart := false, narrowed := true }
def BellPlaysUptoSaid : Prop := bellPlaysUptoRow.holds Try.pinned (OpenSpec.upto bellPlaysSpec)

/-- 'wharfingerlaw18.BellNil', WHERE WHAT IT READS IS OF BULK AT MOST 1048576: true; the input reads as it did. -/
def bellNilUptoRow : OpenClaim := { program := "ytleipaiojefekaa", sum := "075a771a36136b18b0012de2f1b5cd7078680cd54200bc50694f0c18cf2ddda3", func := "wharfinger/wharfingerlaw18.BellNil", spec := "bellNil", unfollowed := true, recurses := true, apart := false, narrowed := true }
def BellNilUptoSaid : Prop := bellNilUptoRow.holds Try.pinned (OpenSpec.upto bellNilSpec)

/-- 'wharfingerlaw18.BellHangs', WHERE WHAT IT READS IS OF BULK AT MOST 1048576: true; the input reads as it did. -/
def bellHangsUptoRow : OpenClaim := { program := "ytleipaiojefekaa", sum := "075a771a36136b18b0012de2f1b5cd7078680cd54200bc50694f0c18cf2ddda3", func := "wharfinger/wharfingerlaw18.BellHangs", spec := "bellHangs", unfollowed := true, recurses := true, apart := false, narrowed := true }
def BellHangsUptoSaid : Prop := bellHangsUptoRow.holds Try.pinned (OpenSpec.upto bellHangsSpec)

end Rows
end Go.Proofs.Ytleipaiojefekaa
