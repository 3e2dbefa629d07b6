/- The page's SameMsgs, walked, at two rows that hold the same; messages held against each other. -/
import Derived.Test.YtkacnogjifhcoaaMsgs
import Derived.Test.YtkacnogjifhcoaaSay
import Derived.Laws.StructEq
import Derived.ChangeKeysEq
namespace Go.Proofs.Ytkacnogjifhcoaa
open Go.RowKit
theorem eqFields_same {xs : Array Value} {n : Nat} (hx : ∀ k, k < n → ∃ a, xs[k]? = some (.int .i64 a)) (w : World) : ∀ (fs : List Field), (fs.all fun f => f.type == 3 && decide (f.offset < n)) = true → (Op.eqFields 9999 xs xs fs).run Try.prog w = .ok true w
  | [], _ => by simp [Op.eqFields]
  | f :: fs, h => by
    simp only [List.all_cons, Bool.and_eq_true, beq_iff_eq, decide_eq_true_eq] at h
    obtain ⟨⟨h1, h2⟩, h3⟩ := h
    obtain ⟨a, ha⟩ := hx f.offset h2
    have hp : (part f.type xs f.offset).run Try.prog w = .ok (.int .i64 a) w := by
      rw [h1]
      exact run_part_plain (P := Try.prog) w (by kernel_rfl) ha
    have hi : (Op.equalIn 9999 f.type (.int .i64 a) (.int .i64 a)).run Try.prog w = .ok true w := by
      rw [h1, run_equalIn_int w 9998 3 .i64 .i64 a a Try.underlying3]
      simp
    have ih := eqFields_same hx w fs (by simpa using h3)
    rw [Op.eqFields]
    by_cases hn : f.name ≠ "_"
    · rw [if_pos hn]
      simp only [Sem.run_bind, hp, hi, Result.andThen_ok]
      simpa using ih
    · rw [if_neg hn]
      exact ih
theorem eqMs (m : Ms) (w : World) : (Op.equalIn 10000 55 (.agg (encMs m).toArray) (.agg (encMs m).toArray)).run Try.prog w = .ok true w := by
  have hu : Try.prog.underlying 55 = some (.struct (Try.prog.fieldsOf 55)) := by kernel_rfl
  have hp : Try.prog.stoodInHeld 55 = false := by kernel_rfl
  rw [run_equalIn_struct (P := Try.prog) w 9999 55 _ _ hu hp]
  refine eqFields_same (n := 7) (fun k hk => ?_) w _ (by kernel_rfl)
  obtain ⟨a, b, c, d, e, f, g⟩ := m
  match k, hk with
  | 0, _ => exact ⟨_, rfl⟩
  | 1, _ => exact ⟨_, rfl⟩
  | 2, _ => exact ⟨_, rfl⟩
  | 3, _ => exact ⟨_, rfl⟩
  | 4, _ => exact ⟨_, rfl⟩
  | 5, _ => exact ⟨_, rfl⟩
  | 6, _ => exact ⟨_, rfl⟩
theorem guardMs : Try.prog.eqGuardType Try.prog.depth 55 = false := by kernel_rfl
set_option maxHeartbeats 4000000 in
theorem sameMs_yes (a b : Option Addr) (cap cap' n : Nat) (L : List Ms) (w : World) (ha : MsRow w a L) (hb : MsRow w b L) (hl : n = L.length) (hm : n ≤ 100000) :
    Calls Try.prog 31 #[.slice a n cap, .slice b n cap'] w (Draws w (.bool true)) := by
  have Ha := Kept.mk ha
  have Hb := Kept.mk hb
  have Hl := Kept.mk hl
  have hg := guardMs
  clear ha hb hl
  go_enter Try.func31, Try.ntmps31
  go_wp2_with fail
  go_loopw [13] (fun i wr => ∃ (k m : Nat), k ≤ n ∧ i = .int .i64 k ∧ wr = w.drewN m) (fun i _ => (n - (intOf i).toNat))
  case atStart => exact ⟨0, 0, by omega, rfl, rfl⟩
  case round =>
    obtain ⟨k, m, hk, rfl, hw⟩ := hrel
    by_cases hlt : k < n
    · obtain ⟨x, hx⟩ : ∃ x, L[k]? = some x := ⟨_, List.getElem?_eq_getElem (by have := Hl.out; omega)⟩
      obtain ⟨g, off, rfl, _, c0⟩ := Ha.out k x hx
      obtain ⟨g2, off2, rfl, _, d0⟩ := Hb.out k x hx
      obtain ⟨x0, x1, x2, x3, x4, x5, x6⟩ := x
      have c1 : wr.cell? ⟨g, off + k * 7, none⟩ = some (.int .i64 x0) := by rw [hw]; exact c0 0 _ rfl
      have c2 : wr.cell? ⟨g, off + k * 7 + 1, none⟩ = some (.int .i64 x1) := by rw [hw]; exact c0 1 _ rfl
      have c3 : wr.cell? ⟨g, off + k * 7 + 2, none⟩ = some (.int .i64 x2) := by rw [hw]; exact c0 2 _ rfl
      have c4 : wr.cell? ⟨g, off + k * 7 + 3, none⟩ = some (.int .i64 x3) := by rw [hw]; exact c0 3 _ rfl
      have c5 : wr.cell? ⟨g, off + k * 7 + 4, none⟩ = some (.int .i64 x4) := by rw [hw]; exact c0 4 _ rfl
      have c6 : wr.cell? ⟨g, off + k * 7 + 5, none⟩ = some (.int .i64 x5) := by rw [hw]; exact c0 5 _ rfl
      have c7 : wr.cell? ⟨g, off + k * 7 + 6, none⟩ = some (.int .i64 x6) := by rw [hw]; exact c0 6 _ rfl
      have d1 : wr.cell? ⟨g2, off2 + k * 7, none⟩ = some (.int .i64 x0) := by rw [hw]; exact d0 0 _ rfl
      have d2 : wr.cell? ⟨g2, off2 + k * 7 + 1, none⟩ = some (.int .i64 x1) := by rw [hw]; exact d0 1 _ rfl
      have d3 : wr.cell? ⟨g2, off2 + k * 7 + 2, none⟩ = some (.int .i64 x2) := by rw [hw]; exact d0 2 _ rfl
      have d4 : wr.cell? ⟨g2, off2 + k * 7 + 3, none⟩ = some (.int .i64 x3) := by rw [hw]; exact d0 3 _ rfl
      have d5 : wr.cell? ⟨g2, off2 + k * 7 + 4, none⟩ = some (.int .i64 x4) := by rw [hw]; exact d0 4 _ rfl
      have d6 : wr.cell? ⟨g2, off2 + k * 7 + 5, none⟩ = some (.int .i64 x5) := by rw [hw]; exact d0 5 _ rfl
      have d7 : wr.cell? ⟨g2, off2 + k * 7 + 6, none⟩ = some (.int .i64 x6) := by rw [hw]; exact d0 6 _ rfl
      have hq : ∀ w, (Op.equalIn 10000 55 (.agg #[.int .i64 x0, .int .i64 x1, .int .i64 x2, .int .i64 x3, .int .i64 x4, .int .i64 x5, .int .i64 x6]) (.agg #[.int .i64 x0, .int .i64 x1, .int .i64 x2, .int .i64 x3, .int .i64 x4, .int .i64 x5, .int .i64 x6])).run Try.prog w = .ok true w := fun w => eqMs ⟨x0, x1, x2, x3, x4, x5, x6⟩ w
      have Hw := Kept.mk hw
      have hki : (k : Int) < (n : Int) := by omega
      clear hw c0 d0 hx
      go_wp2_with fail
      go_quiet (fail)
      go_wp2_with fail
      go_roundw
      case rel => exact ⟨k + 1, m + nq, by omega, by go_num, by rw [Hw.out, World.drewN_drewN]⟩
      case measure => simp [intOf]; omega
    · have Hw := Kept.mk hw
      clear hw
      go_wp2_with fail
      go_ret
      exact ⟨rfl, m, Hw.out⟩
end Go.Proofs.Ytkacnogjifhcoaa
