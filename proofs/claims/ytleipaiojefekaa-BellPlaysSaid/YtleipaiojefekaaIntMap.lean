/- Maps of ints, keyed by ints. -/
import Derived.Test.YtleipaiojefekaaRows
import Derived.Test.YtleipaiojefekaaMap
import Derived.Test.YtleipaiojefekaaSay
namespace Go.Proofs.Ytleipaiojefekaa
open Go.RowKit
def encInt (x : Int) : Value := .int .i64 x
theorem zeroInt (w : World) : (zeroValue 3).run Try.prog w = .ok (.int .i64 0) w := by kernel_rfl
theorem getD_enc (o : Option Int) : (o.map encInt).getD (.int .i64 0) = .int .i64 (o.getD 0) := by cases o <;> rfl
theorem look_at {w : World} {m : Nat} {L : List (Int × Int)} (h : MapAt encInt w m L) (x : Int) : (Instr.lookup 40 (.map (some m)) (.int .i64 x) false).run Try.prog w = .ok (.int .i64 ((MP.get L x).getD 0)) w := by
  have := h.look (P := Try.prog) Try.underlying40 Try.underlying3 (zeroInt w) x false
  rw [this, getD_enc]; rfl
theorem look_ok {w : World} {m : Nat} {L : List (Int × Int)} (h : MapAt encInt w m L) (x : Int) : (Instr.lookup 40 (.map (some m)) (.int .i64 x) true).run Try.prog w = .ok (.tuple #[.int .i64 ((MP.get L x).getD 0), .bool (MP.get L x).isSome]) w := by
  have := h.look (P := Try.prog) Try.underlying40 Try.underlying3 (zeroInt w) x true
  rw [this, getD_enc]; rfl
end Go.Proofs.Ytleipaiojefekaa
