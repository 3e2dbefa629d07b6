/- The reference's Trace: all, later, walked. -/
import Derived.Test.YtjlfkpimjjnolaaBoolRow
import Derived.Test.YtjlfkpimjjnolaaStory
namespace Go.Proofs.Ytjlfkpimjjnolaa
open Go.RowKit
/-- The first d of n. -/
def rowD (n d : Nat) : List Value := (rowF n (fun i => decide (i < d))).map encB
/-- Of the first d the last u. -/
def rowU (n d u : Nat) : List Value := (rowF n (fun i => decide (d - u ≤ i) && decide (i < d))).map encB
/-- What happened, as the page keeps it: d steps done, u of them undone. -/
structure TrAt (w : World) (p bd bu : Nat) (o : Ord) (a : Option Addr) (c d u : Nat) (x y z : Bool) : Prop where
  pb : Blk w p 43 [.int .i64 o.id, .int .i64 o.item, .int .i64 o.qty, .int .i64 o.client, .int .i64 o.price, .slice a o.steps.length c, .slice (some ⟨bd, 0, none⟩) o.steps.length o.steps.length, .slice (some ⟨bu, 0, none⟩) o.steps.length o.steps.length, .bool x, .bool y, .bool z, .bool (decide (0 < u))]
  db : Blk w bd 4 (rowD o.steps.length d)
  ub : Blk w bu 4 (rowU o.steps.length d u)
  n1 : p ≠ bd
  n2 : p ≠ bu
  n3 : bd ≠ bu
theorem TrAt.keeps {w w' : World} {p bd bu : Nat} {o : Ord} {a : Option Addr} {c d u : Nat} {x y z : Bool} (h : TrAt w p bd bu o a c d u x y z) (k : Keeps (fun _ => False) w w') : TrAt w' p bd bu o a c d u x y z :=
  ⟨h.pb.keeps k (fun h => h), h.db.keeps k (fun h => h), h.ub.keeps k (fun h => h), h.n1, h.n2, h.n3⟩
theorem rowD_at {n d i : Nat} (h : i < n) : (rowD n d)[i]? = some (.bool (decide (i < d))) := rowF_at h
theorem rowU_at {n d u i : Nat} (h : i < n) : (rowU n d u)[i]? = some (.bool (decide (d - u ≤ i) && decide (i < d))) := rowF_at h
set_option linter.unusedSimpArgs false in
set_option maxRecDepth 100000 in
set_option maxHeartbeats 4000000 in
theorem tall_to (p bd bu : Nat) (o : Ord) (a : Option Addr) (c d u : Nat) (x y z r : Bool) (w : World) (h : TrAt w p bd bu o a c d u x y z) (hn : o.steps.length ≤ 1000) (hd : d ≤ o.steps.length) (hr : decide (d = o.steps.length) = r) :
    Calls Try.prog 35 #[.pointer (some ⟨p, 0, none⟩)] w (Says w (.bool r)) := by
  have c6 := h.pb.cell 6 rfl
  have HD := Kept.mk h.db
  have HR := Kept.mk hr
  clear h hr
  go_enter Try.func35, Try.ntmps35
  go_wp2_with fail
  go_loopw [10] (fun i wr => ∃ q : Nat, q ≤ d ∧ i = .int .i64 q ∧ wr = w) (fun i _ => o.steps.length - (intOf i).toNat)
  case atStart => exact ⟨0, Nat.zero_le _, rfl, rfl⟩
  case round =>
    obtain ⟨q, hq, rfl, rfl⟩ := hrel
    by_cases hql : q < o.steps.length
    · have hqi : (q : Int) < (o.steps.length : Int) := by omega
      have cD : wr.cell? ⟨bd, q, none⟩ = some (.bool (decide (q < d))) := HD.out.cell q (rowD_at hql)
      by_cases hqd : q < d
      · have e : decide (q < d) = true := decide_eq_true hqd
        rw [e] at cD
        go_wp2_with fail
        go_roundw
        case rel => exact ⟨q + 1, by omega, by go_num, trivial⟩
        case measure => simp [intOf]; omega
      · have e : decide (q < d) = false := decide_eq_false hqd
        have hr2 : r = false := by rw [← HR.out, decide_eq_false_iff_not]; omega
        subst hr2
        rw [e] at cD
        go_wp2_with fail
        go_ret
        exact ⟨rfl, rfl⟩
    · have hqi : ¬ (q : Int) < (o.steps.length : Int) := by omega
      have hr2 : r = true := by rw [← HR.out, decide_eq_true_eq]; omega
      subst hr2
      go_wp2_with fail
      go_ret
      exact ⟨rfl, rfl⟩
set_option linter.unusedSimpArgs false in
set_option maxRecDepth 100000 in
set_option maxHeartbeats 4000000 in
theorem tlater_to (p bd bu : Nat) (o : Ord) (a : Option Addr) (c d u i : Nat) (x y z r : Bool) (w : World) (h : TrAt w p bd bu o a c d u x y z) (hn : o.steps.length ≤ 1000) (hd : d ≤ o.steps.length) (hi : i < o.steps.length) (hr : decide (d - u ≤ i + 1) = r) :
    Calls Try.prog 34 #[.pointer (some ⟨p, 0, none⟩), .int .i64 i] w (Says w (.bool r)) := by
  have c6 := h.pb.cell 6 rfl
  have c7 := h.pb.cell 7 rfl
  have HD := Kept.mk h.db
  have HU := Kept.mk h.ub
  have HR := Kept.mk hr
  clear h hr
  go_enter Try.func34, Try.ntmps34
  go_wp2_with fail
  go_loopw [5] (fun v wr => ∃ q : Nat, i + 1 ≤ q ∧ q ≤ o.steps.length ∧ (q = i + 1 ∨ d - u ≤ i + 1) ∧ v = .int .i64 q ∧ wr = w) (fun v _ => o.steps.length - (intOf v).toNat)
  case atStart => exact ⟨i + 1, Nat.le_refl _, by omega, .inl rfl, by go_num, rfl⟩
  case round =>
    obtain ⟨q, hq1, hq2, hq3, rfl, rfl⟩ := hrel
    by_cases hql : q < o.steps.length
    · have hqi : (q : Int) < (o.steps.length : Int) := by omega
      have cD : wr.cell? ⟨bd, q, none⟩ = some (.bool (decide (q < d))) := HD.out.cell q (rowD_at hql)
      have cU : wr.cell? ⟨bu, q, none⟩ = some (.bool (decide (d - u ≤ q) && decide (q < d))) := HU.out.cell q (rowU_at hql)
      by_cases hqd : q < d
      · have e : decide (q < d) = true := decide_eq_true hqd
        by_cases hqu : d - u ≤ q
        · have e2 : decide (d - u ≤ q) = true := decide_eq_true hqu
          rw [e] at cD
          rw [e, e2] at cU
          go_wp2_with fail
          go_roundw
          case rel => exact ⟨q + 1, by omega, by omega, .inr (by omega), by go_num, trivial⟩
          case measure => simp [intOf]; omega
        · have e2 : decide (d - u ≤ q) = false := decide_eq_false hqu
          have hr2 : r = false := by rw [← HR.out, decide_eq_false_iff_not]; omega
          subst hr2
          rw [e] at cD
          rw [e, e2] at cU
          go_wp2_with fail
          go_ret
          exact ⟨rfl, rfl⟩
      · have e : decide (q < d) = false := decide_eq_false hqd
        rw [e] at cD
        go_wp2_with fail
        go_roundw
        case rel => exact ⟨q + 1, by omega, by omega, .inr (by omega), by go_num, trivial⟩
        case measure => simp [intOf]; omega
    · have hqi : ¬ (q : Int) < (o.steps.length : Int) := by omega
      have hr2 : r = true := by rw [← HR.out, decide_eq_true_eq]; omega
      subst hr2
      go_wp2_with fail
      go_ret
      exact ⟨rfl, rfl⟩
end Go.Proofs.Ytjlfkpimjjnolaa
