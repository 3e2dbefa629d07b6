/- For every order, either way and every act: behind all that may happen nothing more may. No condition. -/
import Derived.Test.YtjlfkpimjjnolaaOpen
import Derived.Test.YtjlfkpimjjnolaaOpen2
import Derived.Test.YtjlfkpimjjnolaaOpen3
import Derived.Test.YtjlfkpimjjnolaaMore
namespace Go.Proofs.Ytjlfkpimjjnolaa.flowMore
open Go.ChangeShapes Go.WideShapes Go.ChangeAt Go.RowKit
theorem own : ownKnob Try.prog.godebug = none := by kernel_rfl
theorem laidOut : laidOutB Try.prog = true := by kernel_rfl
set_option maxRecDepth 100000 in
set_option linter.unusedVariables false in
theorem lifted (os : Os) (started : os.Started) (H : Type) (enc : TypeId × Value → H) :
    ReturnsInHanded {} Try.checked os 5 .any (Rows.flowMoreSpec.pre6 enc Try.prog Try.f5 Rows.flowMoreRow.domain false) (Rows.flowMoreSpec.post enc Try.prog Try.f5 false true false false) := by
  refine returnsInHanded_of_change_sized (C := Try.checked) own started (by kernel_rfl) Try.func5
    (ChangeSpec.witness6 (enc := enc) (C := Try.checked) false ⟨#[], #[.agg #[.int .i64 0, .int .i64 0, .int .i64 0, .int .i64 0, .int .i64 0, .slice none 0 0], .bool false, .agg #[.int .i64 0, .int .i64 0]], []⟩ 8 (by kernel_rfl) (by kernel_rfl) (by kernel_rfl) (by kernel_rfl)) ?_
  intro W base args ds gs before hval0 hW hcnd hsz0 _
  have hsz : (DataW.weightsEach Try.prog (Try.f5.params.toList ++ Rows.flowMoreSpec.plain.varTypes Try.prog) (ds ++ gs)).all (· ≤ reachBytes) = true := hsz0
  have hval : ∀ (j : Nat) t v, Try.f5.params[j]? = some t → args[j]? = some v → Value.okWide Try.prog W .any base t v := hval0
  have hW' := hW
  obtain ⟨p, q, hA0, hV, rfl, hfz, hnd⟩ := hW
  have hA : DataW.TrodAll enc Try.prog W 0 (fun _ => true) true Try.f5.params.toList args.toList ds p := hA0
  rw [Try.params5] at hA hval hsz
  obtain ⟨v0, vs0, d0, ds0, p0, q0, hargs, rfl, rfl, h0, k0⟩ := trodAll_cons hA
  obtain ⟨v1, vs1, d1, ds1, p1, q1, rfl, rfl, rfl, h1, k1⟩ := trodAll_cons k0
  obtain ⟨v2, vs2, d2, ds2, p2, q2, rfl, rfl, rfl, h2, k2⟩ := trodAll_cons k1
  obtain ⟨rfl, rfl, rfl⟩ := trodAll_nil k2
  obtain rfl : args = #[v0, v1, v2] := by cases args; simp_all
  obtain ⟨rfl, rfl⟩ := trodVars_none hV
  have t0 := h0
  have lt0 : ∀ x ∈ p0, x.block < W.heap.size := by obtain ⟨m, hm⟩ := t0; exact DataW.trod_lt m _ _ _ hm
  obtain ⟨cs0, rfl, sz0⟩ := okWide_struct Try.underlying24 (hval 0 24 v0 rfl rfl)
  have f0 : FitsAt enc Try.prog W (fun _ => true) true [.int .i64, .int .i64, .int .i64, .int .i64, .int .i64, .sl 22] cs0.toList 0 := by
    obtain ⟨fuel, hf⟩ := h0
    exact kinds_fit 6 24 _ (by kernel_rfl : kindsOf Try.prog 6 24 = some [.int .i64, .int .i64, .int .i64, .int .i64, .int .i64, .sl 22]) _ _ _ (by simpa [Value.cells] using hf)
  have n0 : cs0.size = 6 := sz0.trans (by kernel_rfl)
  have t1 := h1
  have lt1 : ∀ x ∈ p1, x.block < W.heap.size := by obtain ⟨m, hm⟩ := t1; exact DataW.trod_lt m _ _ _ hm
  obtain ⟨a1, rfl, hd1, hp1⟩ := open_bool Try.underlying4 (hval 1 4 v1 rfl rfl) h1
  have t2 := h2
  have lt2 : ∀ x ∈ p2, x.block < W.heap.size := by obtain ⟨m, hm⟩ := t2; exact DataW.trod_lt m _ _ _ hm
  obtain ⟨cs2, rfl, sz2⟩ := okWide_struct Try.underlying30 (hval 2 30 v2 rfl rfl)
  have f2 : FitsAt enc Try.prog W (fun _ => true) true [.int .i64, .int .i64] cs2.toList 0 := by
    obtain ⟨fuel, hf⟩ := h2
    exact kinds_fit 6 30 _ (by kernel_rfl : kindsOf Try.prog 6 30 = some [.int .i64, .int .i64]) _ _ _ (by simpa [Value.cells] using hf)
  have n2 : cs2.size = 2 := sz2.trans (by kernel_rfl)
  clear hA0 hval0 hval hA
  obtain ⟨o, a, c, rfl, hL, hc1, hc2⟩ := FitsAt.order (t := 22) (e := 45) Try.underlying22 (by kernel_rfl) (by kernel_rfl) f0 n0
  obtain ⟨x, y, rfl⟩ := FitsAt.int2 f2 n2
  refine (more_any o a c a1 x y W hL hc1 hc2).mono fun e W' ⟨he, bel⟩ => ?_
  subst he
  exact ⟨_, rfl, _, _, _, [], _, [], hW', trodAll_mk1 (shut_bool Try.underlying4 _), (trodAll_cons_mk (Below.trod laidOut (by kernel_rfl) (of_decide_eq_true (by kernel_rfl)) t0 bel lt0) (trodAll_cons_mk (Below.trod laidOut (by kernel_rfl) (of_decide_eq_true (by kernel_rfl)) t1 bel lt1) (trodAll_cons_mk (Below.trod laidOut (by kernel_rfl) (of_decide_eq_true (by kernel_rfl)) t2 bel lt2) trodAll_mk0))), rfl, bel.frame _, fun h => by cases h⟩
theorem over : Rows.flowMoreRow.holds Try.pinned (OpenSpec.ofChange Rows.flowMoreSpec) :=
  OpenClaim.holds_of_wide 5 Try.f5 rfl rfl rfl rfl rfl rfl rfl ⟨rfl, rfl, rfl, rfl, rfl⟩ rfl rfl rfl rfl rfl (by kernel_rfl) Try.func5 (by kernel_rfl)
    (of_decide_eq_true (by kernel_rfl)) (by unfold Func.isWrapper; rw [if_neg (of_decide_eq_false (by kernel_rfl))]; exact ⟨rfl, rfl⟩)
    (fun os started H enc _ => lifted os started H enc)
end Go.Proofs.Ytjlfkpimjjnolaa.flowMore
namespace Go.Proofs.Ytjlfkpimjjnolaa
theorem flowMore_holds : Rows.FlowMoreSaid := flowMore.over
#print axioms flowMore_holds
end Go.Proofs.Ytjlfkpimjjnolaa
