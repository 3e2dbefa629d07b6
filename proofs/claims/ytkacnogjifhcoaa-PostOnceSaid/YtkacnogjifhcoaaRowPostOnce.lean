/- For every row of messages (those of more than a hundred are not put), every row of doubles (at most sixty) and every row of takes: nothing comes that was not put; what was put comes once, and once more for each time it was doubled. No condition. -/
import Derived.Test.YtkacnogjifhcoaaPostOnce
import Derived.Test.YtkacnogjifhcoaaOpen5
import Derived.Test.YtkacnogjifhcoaaOpen
namespace Go.Proofs.Ytkacnogjifhcoaa.postOnce
open Go.ChangeShapes Go.WideShapes Go.ChangeAt Go.RowKit
theorem own : ownKnob Try.prog.godebug = none := by kernel_rfl
theorem laidOut : laidOutB Try.prog = true := by kernel_rfl
set_option maxRecDepth 100000 in
set_option linter.unusedVariables false in
theorem lifted (os : Os) (started : os.Started) (H : Type) (enc : TypeId × Value → H) :
    ReturnsInHanded {} Try.checked os 7 .any (Rows.postOnceSpec.pre6 enc Try.prog Try.f7 Rows.postOnceRow.domain false) (Rows.postOnceSpec.post enc Try.prog Try.f7 false true false false) := by
  refine returnsInHanded_of_change_sized (C := Try.checked) own started (by kernel_rfl) Try.func7
    (ChangeSpec.witness6 (enc := enc) (C := Try.checked) false ⟨#[], #[.slice none 0 0, .slice none 0 0, .slice none 0 0], []⟩ 8 (by kernel_rfl) (by kernel_rfl) (by kernel_rfl) (by kernel_rfl)) ?_
  intro W base args ds gs before hval0 hW hcnd hsz0 _
  have hsz : (DataW.weightsEach Try.prog (Try.f7.params.toList ++ Rows.postOnceSpec.plain.varTypes Try.prog) (ds ++ gs)).all (· ≤ reachBytes) = true := hsz0
  have hval : ∀ (j : Nat) t v, Try.f7.params[j]? = some t → args[j]? = some v → Value.okWide Try.prog W .any base t v := hval0
  have hW' := hW
  obtain ⟨p, q, hA0, hV, rfl, hfz, hnd⟩ := hW
  have hA : DataW.TrodAll enc Try.prog W 0 (fun _ => true) true Try.f7.params.toList args.toList ds p := hA0
  rw [Try.params7] at hA hval hsz
  obtain ⟨v0, vs0, d0, ds0, p0, q0, hargs, rfl, rfl, h0, k0⟩ := trodAll_cons hA
  obtain ⟨v1, vs1, d1, ds1, p1, q1, rfl, rfl, rfl, h1, k1⟩ := trodAll_cons k0
  obtain ⟨v2, vs2, d2, ds2, p2, q2, rfl, rfl, rfl, h2, k2⟩ := trodAll_cons k1
  obtain ⟨rfl, rfl, rfl⟩ := trodAll_nil k2
  obtain rfl : args = #[v0, v1, v2] := by cases args; simp_all
  obtain ⟨rfl, rfl⟩ := trodVars_none hV
  have t0 := h0
  have lt0 : ∀ x ∈ p0, x.block < W.heap.size := by obtain ⟨m, hm⟩ := t0; exact DataW.trod_lt m _ _ _ hm
  obtain ⟨a0, len0, cap0, rfl⟩ := okWide_slice Try.underlying49 (hval 0 49 v0 rfl rfl)
  have r0 : RowFits enc Try.prog W (fun _ => true) true [.int .i64, .int .i64, .int .i64, .int .i64, .int .i64, .int .i64, .int .i64] a0 len0 cap0 := by
    obtain ⟨fuel, hf⟩ := h0
    exact open_rows (n := 6) Try.underlying49 (by kernel_rfl : kindsOf Try.prog 6 55 = some [.int .i64, .int .i64, .int .i64, .int .i64, .int .i64, .int .i64, .int .i64]) (by kernel_rfl) (by simp) (by simpa [Value.cells] using hf)
  have t1 := h1
  have lt1 : ∀ x ∈ p1, x.block < W.heap.size := by obtain ⟨m, hm⟩ := t1; exact DataW.trod_lt m _ _ _ hm
  obtain ⟨a1, len1, cap1, rfl⟩ := okWide_slice Try.underlying22 (hval 1 22 v1 rfl rfl)
  have r1 : RowFits enc Try.prog W (fun _ => true) true [.int .i64] a1 len1 cap1 := by
    obtain ⟨fuel, hf⟩ := h1
    exact open_rows (n := 6) Try.underlying22 (by kernel_rfl : kindsOf Try.prog 6 3 = some [.int .i64]) (by kernel_rfl) (by simp) (by simpa [Value.cells] using hf)
  have t2 := h2
  have lt2 : ∀ x ∈ p2, x.block < W.heap.size := by obtain ⟨m, hm⟩ := t2; exact DataW.trod_lt m _ _ _ hm
  obtain ⟨a2, len2, cap2, rfl⟩ := okWide_slice Try.underlying22 (hval 2 22 v2 rfl rfl)
  have r2 : RowFits enc Try.prog W (fun _ => true) true [.int .i64] a2 len2 cap2 := by
    obtain ⟨fuel, hf⟩ := h2
    exact open_rows (n := 6) Try.underlying22 (by kernel_rfl : kindsOf Try.prog 6 3 = some [.int .i64]) (by kernel_rfl) (by simp) (by simpa [Value.cells] using hf)
  clear hA0 hval0 hval hA
  have hl1 : (len1 : Int) ≤ 9223372036854775807 := by
    obtain ⟨_, _, _, hlc, hm, _⟩ := r1
    unfold maxLen at hm
    omega
  have hl2 : (len2 : Int) ≤ 9223372036854775807 := by
    obtain ⟨_, _, _, hlc, hm, _⟩ := r2
    unfold maxLen at hm
    omega
  obtain ⟨zd, hd⟩ := r1.ints
  obtain ⟨zt, ht⟩ := r2.ints
  obtain ⟨L, rfl, hL, hlc, hcm⟩ := r0.msgs
  have hl0 : (L.length : Int) ≤ 9223372036854775807 := by
    unfold maxLen at hcm
    omega
  refine (once17_any a0 a1 a2 cap0 cap1 cap2 len1 len2 L zd zt W hL hd ht hl0 hl1 hl2).mono fun e W' ⟨he, bel⟩ => ?_
  subst he
  exact ⟨_, rfl, _, _, _, [], _, [], hW', trodAll_mk1 (shut_bool Try.underlying4 _), (trodAll_cons_mk (Below.trod laidOut (by kernel_rfl) (of_decide_eq_true (by kernel_rfl)) t0 bel lt0) (trodAll_cons_mk (Below.trod laidOut (by kernel_rfl) (of_decide_eq_true (by kernel_rfl)) t1 bel lt1) (trodAll_cons_mk (Below.trod laidOut (by kernel_rfl) (of_decide_eq_true (by kernel_rfl)) t2 bel lt2) trodAll_mk0))), rfl, bel.frame _, fun h => by cases h⟩
theorem over : Rows.postOnceRow.holds Try.pinned (OpenSpec.ofChange Rows.postOnceSpec) :=
  OpenClaim.holds_of_wide 7 Try.f7 rfl rfl rfl rfl rfl rfl rfl ⟨rfl, rfl, rfl, rfl, rfl⟩ rfl rfl rfl rfl rfl (by kernel_rfl) Try.func7 (by kernel_rfl)
    (of_decide_eq_true (by kernel_rfl)) (by unfold Func.isWrapper; rw [if_neg (of_decide_eq_false (by kernel_rfl))]; exact ⟨rfl, rfl⟩)
    (fun os started H enc _ => lifted os started H enc)
end Go.Proofs.Ytkacnogjifhcoaa.postOnce
namespace Go.Proofs.Ytkacnogjifhcoaa
theorem postOnce_holds : Rows.PostOnceSaid := postOnce.over
#print axioms postOnce_holds
end Go.Proofs.Ytkacnogjifhcoaa
