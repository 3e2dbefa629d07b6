/- For every order and every row of acts: of what may happen nothing is committed that is aborted, nothing undone that was not done, the last step first, nothing shipped that is not committed. No condition. -/
import Derived.Test.YtjlfkpimjjnolaaOpen
import Derived.Test.YtjlfkpimjjnolaaOpen3
import Derived.Test.YtjlfkpimjjnolaaTwo
namespace Go.Proofs.Ytjlfkpimjjnolaa.flowTwo
open Go.ChangeShapes Go.WideShapes Go.ChangeAt Go.RowKit
theorem own : ownKnob Try.prog.godebug = none := by kernel_rfl
theorem laidOut : laidOutB Try.prog = true := by kernel_rfl
set_option maxRecDepth 100000 in
set_option linter.unusedVariables false in
theorem lifted (os : Os) (started : os.Started) (H : Type) (enc : TypeId × Value → H) :
    ReturnsInHanded {} Try.checked os 4 .any (Rows.flowTwoSpec.pre6 enc Try.prog Try.f4 Rows.flowTwoRow.domain false) (Rows.flowTwoSpec.post enc Try.prog Try.f4 false true false false) := by
  refine returnsInHanded_of_change_sized (C := Try.checked) own started (by kernel_rfl) Try.func4
    (ChangeSpec.witness6 (enc := enc) (C := Try.checked) false ⟨#[], #[.agg #[.int .i64 0, .int .i64 0, .int .i64 0, .int .i64 0, .int .i64 0, .slice none 0 0], .slice none 0 0], []⟩ 8 (by kernel_rfl) (by kernel_rfl) (by kernel_rfl) (by kernel_rfl)) ?_
  intro W base args ds gs before hval0 hW hcnd hsz0 _
  have hsz : (DataW.weightsEach Try.prog (Try.f4.params.toList ++ Rows.flowTwoSpec.plain.varTypes Try.prog) (ds ++ gs)).all (· ≤ reachBytes) = true := hsz0
  have hval : ∀ (j : Nat) t v, Try.f4.params[j]? = some t → args[j]? = some v → Value.okWide Try.prog W .any base t v := hval0
  have hW' := hW
  obtain ⟨p, q, hA0, hV, rfl, hfz, hnd⟩ := hW
  have hA : DataW.TrodAll enc Try.prog W 0 (fun _ => true) true Try.f4.params.toList args.toList ds p := hA0
  rw [Try.params4] at hA hval hsz
  obtain ⟨v0, vs0, d0, ds0, p0, q0, hargs, rfl, rfl, h0, k0⟩ := trodAll_cons hA
  obtain ⟨v1, vs1, d1, ds1, p1, q1, rfl, rfl, rfl, h1, k1⟩ := trodAll_cons k0
  obtain ⟨rfl, rfl, rfl⟩ := trodAll_nil k1
  obtain rfl : args = #[v0, v1] := by cases args; simp_all
  obtain ⟨rfl, rfl⟩ := trodVars_none hV
  have t0 := h0
  have lt0 : ∀ x ∈ p0, x.block < W.heap.size := by obtain ⟨m, hm⟩ := t0; exact DataW.trod_lt m _ _ _ hm
  obtain ⟨cs0, rfl, sz0⟩ := okWide_struct Try.underlying24 (hval 0 24 v0 rfl rfl)
  have f0 : FitsAt enc Try.prog W (fun _ => true) true [.int .i64, .int .i64, .int .i64, .int .i64, .int .i64, .sl 22] cs0.toList 0 := by
    obtain ⟨fuel, hf⟩ := h0
    exact kinds_fit 6 24 _ (by kernel_rfl : kindsOf Try.prog 6 24 = some [.int .i64, .int .i64, .int .i64, .int .i64, .int .i64, .sl 22]) _ _ _ (by simpa [Value.cells] using hf)
  have n0 : cs0.size = 6 := sz0.trans (by kernel_rfl)
  have t1 := h1
  have lt1 : ∀ x ∈ p1, x.block < W.heap.size := by obtain ⟨m, hm⟩ := t1; exact DataW.trod_lt m _ _ _ hm
  obtain ⟨a1, len1, cap1, rfl⟩ := okWide_slice Try.underlying25 (hval 1 25 v1 rfl rfl)
  have r1 : RowFits enc Try.prog W (fun _ => true) true [.int .i64, .int .i64] a1 len1 cap1 := by
    obtain ⟨fuel, hf⟩ := h1
    exact open_rows (n := 6) Try.underlying25 (by kernel_rfl : kindsOf Try.prog 6 30 = some [.int .i64, .int .i64]) (by kernel_rfl) (by simp) (by simpa [Value.cells] using hf)
  clear hA0 hval0 hval hA
  obtain ⟨o, a, c, rfl, hL, hc1, hc2⟩ := FitsAt.order (t := 22) (e := 45) Try.underlying22 (by kernel_rfl) (by kernel_rfl) f0 n0
  obtain ⟨L, rfl, hA, hlc, hcm⟩ := r1.steps
  refine (two_any o a a1 c cap1 L W hL hc1 hc2 hA hlc hcm).mono fun e W' ⟨he, bel⟩ => ?_
  subst he
  exact ⟨_, rfl, _, _, _, [], _, [], hW', trodAll_mk1 (shut_bool Try.underlying4 _), (trodAll_cons_mk (Below.trod laidOut (by kernel_rfl) (of_decide_eq_true (by kernel_rfl)) t0 bel lt0) (trodAll_cons_mk (Below.trod laidOut (by kernel_rfl) (of_decide_eq_true (by kernel_rfl)) t1 bel lt1) trodAll_mk0)), rfl, bel.frame _, fun h => by cases h⟩
theorem over : Rows.flowTwoRow.holds Try.pinned (OpenSpec.ofChange Rows.flowTwoSpec) :=
  OpenClaim.holds_of_wide 4 Try.f4 rfl rfl rfl rfl rfl rfl rfl ⟨rfl, rfl, rfl, rfl, rfl⟩ rfl rfl rfl rfl rfl (by kernel_rfl) Try.func4 (by kernel_rfl)
    (of_decide_eq_true (by kernel_rfl)) (by unfold Func.isWrapper; rw [if_neg (of_decide_eq_false (by kernel_rfl))]; exact ⟨rfl, rfl⟩)
    (fun os started H enc _ => lifted os started H enc)
end Go.Proofs.Ytjlfkpimjjnolaa.flowTwo
namespace Go.Proofs.Ytjlfkpimjjnolaa
theorem flowTwo_holds : Rows.FlowTwoSaid := flowTwo.over
#print axioms flowTwo_holds
end Go.Proofs.Ytjlfkpimjjnolaa
