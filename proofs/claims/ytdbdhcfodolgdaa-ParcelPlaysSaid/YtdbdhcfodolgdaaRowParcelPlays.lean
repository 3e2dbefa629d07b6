/- For every row of calls (those behind the 100th are not made): the program's book of parcels answers each call, and stands behind it, as the page's. No condition. -/
import Derived.Test.YtdbdhcfodolgdaaOpen
import Derived.Test.YtdbdhcfodolgdaaParcelPlays
namespace Go.Proofs.Ytdbdhcfodolgdaa.parcelPlays
open Go.ChangeShapes Go.WideShapes Go.ChangeAt Go.RowKit
theorem own : ownKnob Try.prog.godebug = none := by kernel_rfl
theorem laidOut : laidOutB Try.prog = true := by kernel_rfl
set_option maxRecDepth 100000 in
set_option linter.unusedVariables false in
theorem lifted (os : Os) (started : os.Started) (H : Type) (enc : TypeId × Value → H) :
    ReturnsInHanded {} Try.checked os 5 .any (Rows.parcelPlaysSpec.pre6 enc Try.prog Try.f5 Rows.parcelPlaysRow.domain false) (Rows.parcelPlaysSpec.post enc Try.prog Try.f5 false true false false) := by
  refine returnsInHanded_of_change_sized (C := Try.checked) own started (by kernel_rfl) Try.func5
    (ChangeSpec.witness6 (enc := enc) (C := Try.checked) false ⟨#[], #[.slice none 0 0], []⟩ 8 (by kernel_rfl) (by kernel_rfl) (by kernel_rfl) (by kernel_rfl)) ?_
  intro W base args ds gs before hval0 hW hcnd hsz0 _
  have hsz : (DataW.weightsEach Try.prog (Try.f5.params.toList ++ Rows.parcelPlaysSpec.plain.varTypes Try.prog) (ds ++ gs)).all (· ≤ reachBytes) = true := hsz0
  have hval : ∀ (j : Nat) t v, Try.f5.params[j]? = some t → args[j]? = some v → Value.okWide Try.prog W .any base t v := hval0
  have hW' := hW
  obtain ⟨p, q, hA0, hV, rfl, hfz, hnd⟩ := hW
  have hA : DataW.TrodAll enc Try.prog W 0 (fun _ => true) true Try.f5.params.toList args.toList ds p := hA0
  rw [Try.params5] at hA hval hsz
  obtain ⟨v0, vs0, d0, ds0, p0, q0, hargs, rfl, rfl, h0, k0⟩ := trodAll_cons hA
  obtain ⟨rfl, rfl, rfl⟩ := trodAll_nil k0
  obtain rfl : args = #[v0] := by cases args; simp_all
  obtain ⟨rfl, rfl⟩ := trodVars_none hV
  have t0 := h0
  have lt0 : ∀ x ∈ p0, x.block < W.heap.size := by obtain ⟨m, hm⟩ := t0; exact DataW.trod_lt m _ _ _ hm
  obtain ⟨a0, len0, cap0, rfl⟩ := okWide_slice Try.underlying44 (hval 0 44 v0 rfl rfl)
  have r0 : RowFits enc Try.prog W (fun _ => true) true [.int .i64, .int .i64, .int .i64] a0 len0 cap0 := by
    obtain ⟨fuel, hf⟩ := h0
    exact open_rows (n := 6) Try.underlying44 (by kernel_rfl : kindsOf Try.prog 6 50 = some [.int .i64, .int .i64, .int .i64]) (by kernel_rfl) (by simp) (by simpa [Value.cells] using hf)
  clear hA0 hval0 hval hA
  obtain ⟨f, hf⟩ := r0.call3
  have hl0 : (len0 : Int) ≤ 9223372036854775807 := by
    obtain ⟨_, _, _, hlc, hm, _⟩ := r0
    unfold maxLen at hm
    omega
  refine (plays_any a0 len0 cap0 f W hf hl0).mono fun e W' ⟨he, bel⟩ => ?_
  subst he
  exact ⟨_, rfl, _, _, _, [], _, [], hW', trodAll_mk1 (shut_bool Try.underlying4 _), (trodAll_cons_mk (Below.trod laidOut (by kernel_rfl) (of_decide_eq_true (by kernel_rfl)) t0 bel lt0) trodAll_mk0), rfl, bel.frame _, fun h => by cases h⟩
theorem over : Rows.parcelPlaysRow.holds Try.pinned (OpenSpec.ofChange Rows.parcelPlaysSpec) :=
  OpenClaim.holds_of_wide 5 Try.f5 rfl rfl rfl rfl rfl rfl rfl ⟨rfl, rfl, rfl, rfl, rfl⟩ rfl rfl rfl rfl rfl (by kernel_rfl) Try.func5 (by kernel_rfl)
    (of_decide_eq_true (by kernel_rfl)) (by unfold Func.isWrapper; rw [if_neg (of_decide_eq_false (by kernel_rfl))]; exact ⟨rfl, rfl⟩)
    (fun os started H enc _ => lifted os started H enc)
end Go.Proofs.Ytdbdhcfodolgdaa.parcelPlays
namespace Go.Proofs.Ytdbdhcfodolgdaa
theorem parcelPlays_holds : Rows.ParcelPlaysSaid := parcelPlays.over
#print axioms parcelPlays_holds
end Go.Proofs.Ytdbdhcfodolgdaa
