/- For every order: a step that comes late, behind the decision against, may come as long as nothing is undone, and is undone first. No condition. -/
import Derived.Test.YtjlfkpimjjnolaaOpen
import Derived.Test.YtjlfkpimjjnolaaOpen3
import Derived.Test.YtjlfkpimjjnolaaLate
namespace Go.Proofs.Ytjlfkpimjjnolaa.flowLate
open Go.ChangeShapes Go.WideShapes Go.ChangeAt Go.RowKit
theorem own : ownKnob Try.prog.godebug = none := by kernel_rfl
theorem laidOut : laidOutB Try.prog = true := by kernel_rfl
set_option maxRecDepth 100000 in
set_option linter.unusedVariables false in
theorem lifted (os : Os) (started : os.Started) (H : Type) (enc : TypeId × Value → H) :
    ReturnsInHanded {} Try.checked os 6 .any (Rows.flowLateSpec.pre6 enc Try.prog Try.f6 Rows.flowLateRow.domain false) (Rows.flowLateSpec.post enc Try.prog Try.f6 false true false false) := by
  refine returnsInHanded_of_change_sized (C := Try.checked) own started (by kernel_rfl) Try.func6
    (ChangeSpec.witness6 (enc := enc) (C := Try.checked) false ⟨#[], #[.agg #[.int .i64 0, .int .i64 0, .int .i64 0, .int .i64 0, .int .i64 0, .slice none 0 0]], []⟩ 8 (by kernel_rfl) (by kernel_rfl) (by kernel_rfl) (by kernel_rfl)) ?_
  intro W base args ds gs before hval0 hW hcnd hsz0 _
  have hsz : (DataW.weightsEach Try.prog (Try.f6.params.toList ++ Rows.flowLateSpec.plain.varTypes Try.prog) (ds ++ gs)).all (· ≤ reachBytes) = true := hsz0
  have hval : ∀ (j : Nat) t v, Try.f6.params[j]? = some t → args[j]? = some v → Value.okWide Try.prog W .any base t v := hval0
  have hW' := hW
  obtain ⟨p, q, hA0, hV, rfl, hfz, hnd⟩ := hW
  have hA : DataW.TrodAll enc Try.prog W 0 (fun _ => true) true Try.f6.params.toList args.toList ds p := hA0
  rw [Try.params6] at hA hval hsz
  obtain ⟨v0, vs0, d0, ds0, p0, q0, hargs, rfl, rfl, h0, k0⟩ := trodAll_cons hA
  obtain ⟨rfl, rfl, rfl⟩ := trodAll_nil k0
  obtain rfl : args = #[v0] := by cases args; simp_all
  obtain ⟨rfl, rfl⟩ := trodVars_none hV
  have t0 := h0
  have lt0 : ∀ x ∈ p0, x.block < W.heap.size := by obtain ⟨m, hm⟩ := t0; exact DataW.trod_lt m _ _ _ hm
  obtain ⟨cs0, rfl, sz0⟩ := okWide_struct Try.underlying24 (hval 0 24 v0 rfl rfl)
  have f0 : FitsAt enc Try.prog W (fun _ => true) true [.int .i64, .int .i64, .int .i64, .int .i64, .int .i64, .sl 22] cs0.toList 0 := by
    obtain ⟨fuel, hf⟩ := h0
    exact kinds_fit 6 24 _ (by kernel_rfl : kindsOf Try.prog 6 24 = some [.int .i64, .int .i64, .int .i64, .int .i64, .int .i64, .sl 22]) _ _ _ (by simpa [Value.cells] using hf)
  have n0 : cs0.size = 6 := sz0.trans (by kernel_rfl)
  clear hA0 hval0 hval hA
  obtain ⟨o, a, c, rfl, hL, hc1, hc2⟩ := FitsAt.order (t := 22) (e := 45) Try.underlying22 (by kernel_rfl) (by kernel_rfl) f0 n0
  refine (late_any o a c W hL hc1 hc2).mono fun e W' ⟨he, bel⟩ => ?_
  subst he
  exact ⟨_, rfl, _, _, _, [], _, [], hW', trodAll_mk1 (shut_bool Try.underlying4 _), (trodAll_cons_mk (Below.trod laidOut (by kernel_rfl) (of_decide_eq_true (by kernel_rfl)) t0 bel lt0) trodAll_mk0), rfl, bel.frame _, fun h => by cases h⟩
theorem over : Rows.flowLateRow.holds Try.pinned (OpenSpec.ofChange Rows.flowLateSpec) :=
  OpenClaim.holds_of_wide 6 Try.f6 rfl rfl rfl rfl rfl rfl rfl ⟨rfl, rfl, rfl, rfl, rfl⟩ rfl rfl rfl rfl rfl (by kernel_rfl) Try.func6 (by kernel_rfl)
    (of_decide_eq_true (by kernel_rfl)) (by unfold Func.isWrapper; rw [if_neg (of_decide_eq_false (by kernel_rfl))]; exact ⟨rfl, rfl⟩)
    (fun os started H enc _ => lifted os started H enc)
end Go.Proofs.Ytjlfkpimjjnolaa.flowLate
namespace Go.Proofs.Ytjlfkpimjjnolaa
theorem flowLate_holds : Rows.FlowLateSaid := flowLate.over
#print axioms flowLate_holds
end Go.Proofs.Ytjlfkpimjjnolaa
