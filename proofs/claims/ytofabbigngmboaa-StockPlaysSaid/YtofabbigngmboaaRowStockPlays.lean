/- For every row of goods (more than fifty are not taken) and every row of calls (those behind the hundredth are not made): the program's book of goods answers each call as the page's; what is there, what is free and who has reserved is the same. No condition. -/
import Derived.Test.YtofabbigngmboaaStockPlays
import Derived.Test.YtofabbigngmboaaOpen
namespace Go.Proofs.Ytofabbigngmboaa.stockPlays
open Go.ChangeShapes Go.WideShapes Go.ChangeAt Go.RowKit
theorem own : ownKnob Try.prog.godebug = none := by kernel_rfl
theorem laidOut : laidOutB Try.prog = true := by kernel_rfl
set_option maxRecDepth 100000 in
set_option linter.unusedVariables false in
theorem lifted (os : Os) (started : os.Started) (H : Type) (enc : TypeId × Value → H) :
    ReturnsInHanded {} Try.checked os 11 .any (Rows.stockPlaysSpec.pre6 enc Try.prog Try.f11 Rows.stockPlaysRow.domain false) (Rows.stockPlaysSpec.post enc Try.prog Try.f11 false true false false) := by
  refine returnsInHanded_of_change_sized (C := Try.checked) own started (by kernel_rfl) Try.func11
    (ChangeSpec.witness6 (enc := enc) (C := Try.checked) false ⟨#[], #[.slice none 0 0, .slice none 0 0], []⟩ 8 (by kernel_rfl) (by kernel_rfl) (by kernel_rfl) (by kernel_rfl)) ?_
  intro W base args ds gs before hval0 hW hcnd hsz0 _
  have hsz : (DataW.weightsEach Try.prog (Try.f11.params.toList ++ Rows.stockPlaysSpec.plain.varTypes Try.prog) (ds ++ gs)).all (· ≤ reachBytes) = true := hsz0
  have hval : ∀ (j : Nat) t v, Try.f11.params[j]? = some t → args[j]? = some v → Value.okWide Try.prog W .any base t v := hval0
  have hW' := hW
  obtain ⟨p, q, hA0, hV, rfl, hfz, hnd⟩ := hW
  have hA : DataW.TrodAll enc Try.prog W 0 (fun _ => true) true Try.f11.params.toList args.toList ds p := hA0
  rw [Try.params11] at hA hval hsz
  obtain ⟨v0, vs0, d0, ds0, p0, q0, hargs, rfl, rfl, h0, k0⟩ := trodAll_cons hA
  obtain ⟨v1, vs1, d1, ds1, p1, q1, rfl, rfl, rfl, h1, k1⟩ := trodAll_cons k0
  obtain ⟨rfl, rfl, rfl⟩ := trodAll_nil k1
  obtain rfl : args = #[v0, v1] := by cases args; simp_all
  obtain ⟨rfl, rfl⟩ := trodVars_none hV
  have t0 := h0
  have lt0 : ∀ x ∈ p0, x.block < W.heap.size := by obtain ⟨m, hm⟩ := t0; exact DataW.trod_lt m _ _ _ hm
  obtain ⟨a0, len0, cap0, rfl⟩ := okWide_slice Try.underlying37 (hval 0 37 v0 rfl rfl)
  have r0 : RowFits enc Try.prog W (fun _ => true) true [.int .i64] a0 len0 cap0 := by
    obtain ⟨fuel, hf⟩ := h0
    exact open_rows (n := 6) Try.underlying37 (by kernel_rfl : kindsOf Try.prog 6 3 = some [.int .i64]) (by kernel_rfl) (by simp) (by simpa [Value.cells] using hf)
  have t1 := h1
  have lt1 : ∀ x ∈ p1, x.block < W.heap.size := by obtain ⟨m, hm⟩ := t1; exact DataW.trod_lt m _ _ _ hm
  obtain ⟨a1, len1, cap1, rfl⟩ := okWide_slice Try.underlying54 (hval 1 54 v1 rfl rfl)
  have r1 : RowFits enc Try.prog W (fun _ => true) true [.int .i64, .int .i64, .int .i64, .int .i64] a1 len1 cap1 := by
    obtain ⟨fuel, hf⟩ := h1
    exact open_rows (n := 6) Try.underlying54 (by kernel_rfl : kindsOf Try.prog 6 56 = some [.int .i64, .int .i64, .int .i64, .int .i64]) (by kernel_rfl) (by simp) (by simpa [Value.cells] using hf)
  clear hA0 hval0 hval hA
  obtain ⟨f, hf⟩ := r1.call4
  have hl1 : (len1 : Int) ≤ 9223372036854775807 := by
    obtain ⟨_, _, _, hlc, hm, _⟩ := r1
    unfold maxLen at hm
    omega
  have hl0 : (len0 : Int) ≤ 9223372036854775807 := by
    obtain ⟨_, _, _, hlc, hm, _⟩ := r0
    unfold maxLen at hm
    omega
  obtain ⟨zs, b, off, ha, hc⟩ := r0.ints
  have hab : 0 < len0 → ∀ x, a0 = some x → x.block < W.heap.size := fun h x hx => by
    rcases ha with ⟨e, hb⟩ | h0
    · rw [e] at hx
      cases hx
      exact hb
    · omega
  have hg : IntCells W a0 len0 zs := ⟨b, off, ha.imp And.left id, fun i hi => (hc i hi).1⟩
  refine (splays_any a0 a1 len0 cap0 len1 cap1 zs f W hg hab hl0 hf hl1).mono fun e W' ⟨he, bel⟩ => ?_
  subst he
  exact ⟨_, rfl, _, _, _, [], _, [], hW', trodAll_mk1 (shut_bool Try.underlying4 _), (trodAll_cons_mk (Below.trod laidOut (by kernel_rfl) (of_decide_eq_true (by kernel_rfl)) t0 bel lt0) (trodAll_cons_mk (Below.trod laidOut (by kernel_rfl) (of_decide_eq_true (by kernel_rfl)) t1 bel lt1) trodAll_mk0)), rfl, bel.frame _, fun h => by cases h⟩
theorem over : Rows.stockPlaysRow.holds Try.pinned (OpenSpec.ofChange Rows.stockPlaysSpec) :=
  OpenClaim.holds_of_wide 11 Try.f11 rfl rfl rfl rfl rfl rfl rfl ⟨rfl, rfl, rfl, rfl, rfl⟩ rfl rfl rfl rfl rfl (by kernel_rfl) Try.func11 (by kernel_rfl)
    (of_decide_eq_true (by kernel_rfl)) (by unfold Func.isWrapper; rw [if_neg (of_decide_eq_false (by kernel_rfl))]; exact ⟨rfl, rfl⟩)
    (fun os started H enc _ => lifted os started H enc)
end Go.Proofs.Ytofabbigngmboaa.stockPlays
namespace Go.Proofs.Ytofabbigngmboaa
theorem stockPlays_holds : Rows.StockPlaysSaid := stockPlays.over
#print axioms stockPlays_holds
end Go.Proofs.Ytofabbigngmboaa
