/-
  No cell of these rows narrows 'for every input' (looked for: loops, veiled, ifaces, maps, wideKeys, modest, calm, conditions, laid).
  DERIVED. THE GIVEN ROWS OF THIS SEAT. 6 by the template 'for every input the law returns true; each argument reads behind the call as it read before'; 0 by the template 'total and deterministic' (their statements: YtfcnegnkmacajaaTotals.lean).
  GIVEN WITH THE SEED: the statements are not yours to turn. If you find one false, say at which input.
  Laid BY PROGRAM, IN A SANDBOX (cutbox-rows.mjs): the forced cells as the released guide's own fill.sh prints them over the translation 1b6bba501354e394… (all of the seat's roots in one cut). By AI agents, Wed Nov 11 2026. No macro, syntax, notation, axiom, sorry.
-/
import Derived.Test.YtfcnegnkmacajaaChecked
import GoSem.Claim
import GoSem.ClaimJoined
import GoSem.ClaimMapViews
import Derived.JoinedTies
import Derived.KernelRfl
namespace Go.Proofs.Ytfcnegnkmacajaa
/- THE CELL 'sum', in the pinned program and in every row, IS THE sha256 OF THE DUMP (.gsa) THAT YtfcnegnkmacajaaProg.lean LOADS. Nothing in Lean hashes anything: it is a label: what it is worth is what the hold of that sum in a sandbox is worth. -/
noncomputable def Try.pinned : Pinned := { name := "ytfcnegnkmacajaa", sum := "1b6bba501354e39481e5ad8cd72316c6a1635e93ab662af605ee0b0dc22b8f04", checked := Try.checked }
namespace Rows
def none {H : Type} : Left H := { results := [], args := [] }

/-- 'wharfingerlaw16.SagaAsks': WHATEVER THE INPUT: true; the input reads as it did. -/
def sagaAsksSpec : ChangeSpec := { name := "sagaAsks", fn := fun _ => fun
  | [d1, d2] => { results := [.lit (.bool true)], args := [d1, d2] }
  | _ => none }
def sagaAsksRow : OpenClaim := { program := "ytfcnegnkmacajaa", sum := "1b6bba501354e39481e5ad8cd72316c6a1635e93ab662af605ee0b0dc22b8f04", func := "wharfinger/wharfingerlaw16.SagaAsks", spec := "sagaAsks", unfollowed := true, recurses := true, apart := false }
def SagaAsksSaid : Prop := sagaAsksRow.holds Try.pinned (OpenSpec.ofChange sagaAsksSpec)

/-- ITS FALSE NEIGHBOUR: 'it returns false'. Refute it at one input. -/
def sagaAsksWrong : ChangeSpec := { name := "sagaAsks", fn := fun _ => fun
  | [d1, d2] => { results := [.lit (.bool false)], args := [d1, d2] }
  | _ => none }
def SagaAsksWrongFalsely : Prop := sagaAsksRow.holds Try.pinned (OpenSpec.ofChange sagaAsksWrong)

/-- 'wharfingerlaw16.SagaTells': WHATEVER THE INPUT: true; the input reads as it did. -/
def sagaTellsSpec : ChangeSpec := { name := "sagaTells", fn := fun _ => fun
  | [d1, d2, d3, d4] => { results := [.lit (.bool true)], args := [d1, d2, d3, d4] }
  | _ => none }
def sagaTellsRow : OpenClaim := { program := "ytfcnegnkmacajaa", sum := "1b6bba501354e39481e5ad8cd72316c6a1635e93ab662af605ee0b0dc22b8f04", func := "wharfinger/wharfingerlaw16.SagaTells", spec := "sagaTells", unfollowed := true, recurses := true, apart := false }
def SagaTellsSaid : Prop := sagaTellsRow.holds Try.pinned (OpenSpec.ofChange sagaTellsSpec)

/-- ITS FALSE NEIGHBOUR: 'it returns false'. Refute it at one input. -/
def sagaTellsWrong : ChangeSpec := { name := "sagaTells", fn := fun _ => fun
  | [d1, d2, d3, d4] => { results := [.lit (.bool false)], args := [d1, d2, d3, d4] }
  | _ => none }
def SagaTellsWrongFalsely : Prop := sagaTellsRow.holds Try.pinned (OpenSpec.ofChange sagaTellsWrong)

/-- 'wharfingerlaw16.SagaForms': WHATEVER THE INPUT: true; the input reads as it did. -/
def sagaFormsSpec : ChangeSpec := { name := "sagaForms", fn := fun _ => fun
  | [d1, d2] => { results := [.lit (.bool true)], args := [d1, d2] }
  | _ => none }
def sagaFormsRow : OpenClaim := { program := "ytfcnegnkmacajaa", sum := "1b6bba501354e39481e5ad8cd72316c6a1635e93ab662af605ee0b0dc22b8f04", func := "wharfinger/wharfingerlaw16.SagaForms", spec := "sagaForms", unfollowed := true, recurses := true, apart := false }
def SagaFormsSaid : Prop := sagaFormsRow.holds Try.pinned (OpenSpec.ofChange sagaFormsSpec)

/-- ITS FALSE NEIGHBOUR: 'it returns false'. Refute it at one input. -/
def sagaFormsWrong : ChangeSpec := { name := "sagaForms", fn := fun _ => fun
  | [d1, d2] => { results := [.lit (.bool false)], args := [d1, d2] }
  | _ => none }
def SagaFormsWrongFalsely : Prop := sagaFormsRow.holds Try.pinned (OpenSpec.ofChange sagaFormsWrong)

/-- 'wharfingerlaw16.SagaWay': WHATEVER THE INPUT: true; the input reads as it did. -/
def sagaWaySpec : ChangeSpec := { name := "sagaWay", fn := fun _ => fun
  | [d1, d2] => { results := [.lit (.bool true)], args := [d1, d2] }
  | _ => none }
def sagaWayRow : OpenClaim := { program := "ytfcnegnkmacajaa", sum := "1b6bba501354e39481e5ad8cd72316c6a1635e93ab662af605ee0b0dc22b8f04", func := "wharfinger/wharfingerlaw16.SagaWay", spec := "sagaWay", unfollowed := true, recurses := true, apart := false }
def SagaWaySaid : Prop := sagaWayRow.holds Try.pinned (OpenSpec.ofChange sagaWaySpec)

/-- ITS FALSE NEIGHBOUR: 'it returns false'. Refute it at one input. -/
def sagaWayWrong : ChangeSpec := { name := "sagaWay", fn := fun _ => fun
  | [d1, d2] => { results := [.lit (.bool false)], args := [d1, d2] }
  | _ => none }
def SagaWayWrongFalsely : Prop := sagaWayRow.holds Try.pinned (OpenSpec.ofChange sagaWayWrong)

/-- 'wharfingerlaw16.SagaDamage': WHATEVER THE INPUT: true; the input reads as it did. -/
def sagaDamageSpec : ChangeSpec := { name := "sagaDamage", fn := fun _ => fun
  | [d1, d2, d3] => { results := [.lit (.bool true)], args := [d1, d2, d3] }
  | _ => none }
def sagaDamageRow : OpenClaim := { program := "ytfcnegnkmacajaa", sum := "1b6bba501354e39481e5ad8cd72316c6a1635e93ab662af605ee0b0dc22b8f04", func := "wharfinger/wharfingerlaw16.SagaDamage", spec := "sagaDamage", unfollowed := true, recurses := true, apart := false }
def SagaDamageSaid : Prop := sagaDamageRow.holds Try.pinned (OpenSpec.ofChange sagaDamageSpec)

/-- ITS FALSE NEIGHBOUR: 'it returns false'. Refute it at one input. -/
def sagaDamageWrong : ChangeSpec := { name := "sagaDamage", fn := fun _ => fun
  | [d1, d2, d3] => { results := [.lit (.bool false)], args := [d1, d2, d3] }
  | _ => none }
def SagaDamageWrongFalsely : Prop := sagaDamageRow.holds Try.pinned (OpenSpec.ofChange sagaDamageWrong)

/-- 'wharfingerlaw16.SagaSpoilt': WHATEVER THE INPUT: true; the input reads as it did. -/
def sagaSpoiltSpec : ChangeSpec := { name := "sagaSpoilt", fn := fun _ => fun
  | [d1, d2, d3] => { results := [.lit (.bool true)], args := [d1, d2, d3] }
  | _ => none }
def sagaSpoiltRow : OpenClaim := { program := "ytfcnegnkmacajaa", sum := "1b6bba501354e39481e5ad8cd72316c6a1635e93ab662af605ee0b0dc22b8f04", func := "wharfinger/wharfingerlaw16.SagaSpoilt", spec := "sagaSpoilt", unfollowed := true, recurses := true, apart := false }
def SagaSpoiltSaid : Prop := sagaSpoiltRow.holds Try.pinned (OpenSpec.ofChange sagaSpoiltSpec)

/-- ITS FALSE NEIGHBOUR: 'it returns false'. Refute it at one input. -/
def sagaSpoiltWrong : ChangeSpec := { name := "sagaSpoilt", fn := fun _ => fun
  | [d1, d2, d3] => { results := [.lit (.bool false)], args := [d1, d2, d3] }
  | _ => none }
def SagaSpoiltWrongFalsely : Prop := sagaSpoiltRow.holds Try.pinned (OpenSpec.ofChange sagaSpoiltWrong)

/- THE SECOND FORM. 'bulk': how many values and letters a reading holds, each counted each time it is reached (what is shared counts as often as it is met; a slice's spare places count too). A statement '..UptoSaid' is the law's where the arguments, and the package variables that the reading takes, are together of bulk at most 1048576: NARROWER than '..Said'. Prove '..Said' where nothing that the law and all that it calls make is longer than what came in: it says more and counts as full. Else prove '..UptoSaid'. A law counts once. -/
mutual
def uptoBulk {H : Type} : DataW H → Nat
  | .lit (.string bytes) => bytes.length + 1
  | .lit _ => 1
  | .nil => 1
  | .ptr d => uptoBulk d + 1
  | .slice elems spare => uptoBulkAll elems + uptoBulkAll spare + 1
  | .agg parts => uptoBulkAll parts + 1
  | .iface _ d => uptoBulk d + 1
  | .map entries => uptoBulkEntries entries + 1
  | .held _ => 1
def uptoBulkAll {H : Type} : List (DataW H) → Nat
  | [] => 0
  | d :: r => uptoBulk d + uptoBulkAll r
def uptoBulkEntries {H : Type} : List (Lit × DataW H) → Nat
  | [] => 0
  | x :: r => uptoBulkEntry x + uptoBulkEntries r
def uptoBulkEntry {H : Type} : Lit × DataW H → Nat
  | (.string bytes, d) => bytes.length + uptoBulk d + 1
  | (_, d) => uptoBulk d + 1
 end
def uptoSmall : (H : Type) → List (DataW H) → Bool := fun _ ds => decide (uptoBulkAll ds ≤ 1048576)
def OpenSpec.upto (s : _root_.Go.ChangeSpec) : _root_.Go.OpenSpec := { _root_.Go.OpenSpec.ofChange s with cond := some uptoSmall }

/-- 'wharfingerlaw16.SagaAsks', WHERE WHAT IT READS IS OF BULK AT MOST 1048576: true; the input reads as it did. -/
def sagaAsksUptoRow : OpenClaim := { program := "ytfcnegnkmacajaa", sum := "1b6bba501354e39481e5ad8cd72316c6a1635e93ab662af605ee0b0dc22b8f04", func := "wharfinger/wharfingerlaw16.SagaAsks", spec := "sagaAsks", unfollowed := true, recurses := true, apart := false, narrowed := true }
def SagaAsksUptoSaid : Prop := sagaAsksUptoRow.holds Try.pinned (OpenSpec.upto sagaAsksSpec)

/-- 'wharfingerlaw16.SagaTells', WHERE WHAT IT READS IS OF BULK AT MOST 1048576: true; the input reads as it did. -/
def sagaTellsUptoRow : OpenClaim := { program := "ytfcnegnkmacajaa", sum := "1b6bba501354e39481e5ad8cd72316c6a1635e93ab662af605ee0b0dc22b8f04", func := "wharfinger/wharfingerlaw16.SagaTells", spec := "sagaTells", unfollowed := true, recurses := true, apart := false, narrowed := true }
def SagaTellsUptoSaid : Prop := sagaTellsUptoRow.holds Try.pinned (OpenSpec.upto sagaTellsSpec)

/-- 'wharfingerlaw16.SagaForms', WHERE WHAT IT READS IS OF BULK AT MOST 1048576: true; the input reads as it did. -/
def sagaFormsUptoRow : OpenClaim := { program := "ytfcnegnkmacajaa", sum := "1b6bba501354e39481e5ad8cd72316c6a1635e93ab662af605ee0b0dc22b8f04", func := "wharfinger/wharfingerlaw16.SagaForms", spec := "sagaForms", unfollowed := true, recurses := true, apart := false, narrowed := true }
def SagaFormsUptoSaid : Prop := sagaFormsUptoRow.holds Try.pinned (OpenSpec.upto sagaFormsSpec)

/-- 'wharfingerlaw16.SagaWay', WHERE WHAT IT READS IS OF BULK AT MOST 1048576: true; the input reads as it did. -/
def sagaWayUptoRow : OpenClaim := { program := "ytfcnegnkmacajaa", sum := "1b6bba501354e39481e5ad8cd72316c6a1635e93ab662af605ee0b0dc22b8f04", func := "wharfinger/wharfingerlaw16.SagaWay", spec := "sagaWay", unfollowed := true, recurses := true, apart := false, narrowed := true }
def SagaWayUptoSaid : Prop := sagaWayUptoRow.holds Try.pinned (OpenSpec.upto sagaWaySpec)

/-- 'wharfingerlaw16.SagaDamage', WHERE WHAT IT READS IS OF BULK AT MOST 1048576: true; the input reads as it did. -/
def sagaDamageUptoRow : OpenClaim := { program := "ytfcnegnkmacajaa", sum := "1b6bba501354e39481e5ad8cd72316c6a1635e93ab662af605ee0b0dc22b8f04", func := "wharfinger/wharfingerlaw16.SagaDamage", spec := "sagaDamage", unfollowed := true, recurses := true, apart := false, narrowed := true }
def SagaDamageUptoSaid : Prop := sagaDamageUptoRow.holds Try.pinned (OpenSpec.upto sagaDamageSpec)

/-- 'wharfingerlaw16.SagaSpoilt', WHERE WHAT IT READS IS OF BULK AT MOST 1048576: true; the input reads as it did. -/
def sagaSpoiltUptoRow : OpenClaim := { program := "ytfcnegnkmacajaa", sum := "1b6bba501354e39481e5ad8cd72316c6a1635e93ab662af605ee0b0dc22b8f04", func := "wharfinger/wharfingerlaw16.SagaSpoilt", spec := "sagaSpoilt", unfollowed := true, recurses := true, apart := false, narrowed := true }
def SagaSpoiltUptoSaid : Prop := sagaSpoiltUptoRow.holds Try.pinned (OpenSpec.upto sagaSpoiltSpec)

end Rows
end Go.Proofs.Ytfcnegnkmacajaa
