/- The law's back at 9, walked. (printed by gen/flowlist.py) -/
import Derived.Test.YtjlfkpimjjnolaaBack
import Derived.Test.YtjlfkpimjjnolaaAcApp
import Derived.Test.YtjlfkpimjjnolaaNewTr
namespace Go.Proofs.Ytjlfkpimjjnolaa
open Go.RowKit Go.Shelf
attribute [local go_sem] Oper.semAt_some
theorem keepsT_append {W W' : World} {w0 base : Nat} {v : Value} {n : Nat} {xs : List Value} (h : W.ownsRow base 30 2 v n xs) (hb : w0 ≤ base) (k : Keeps (fun k => v.ownBlock = some k) W W') : KeepsT w0 30 25 W W' :=
  k.mono (fun i _ e => by
    refine ⟨by have := (h.lt i e).1; omega, fun ⟨cs, T, fz, h3, h4, _⟩ => ?_⟩
    rcases h.2 with ⟨rfl, _⟩ | ⟨g, cap, cur, rfl, _, hh, _⟩
    · cases e
    · simp only [Value.ownBlock, Option.some.injEq] at e
      subst e
      rw [hh] at h3
      cases h3
      exact h4 rfl)
theorem keepsT_set {W : World} {w0 p : Nat} {vs : List Value} (h : Blk W p 25 vs) (hp : w0 ≤ p) (i : Nat) (u : Value) : KeepsT w0 30 25 W (W.setCell ⟨p, i, none⟩ u) :=
  (Keeps.refl (fun k => w0 ≤ k ∧ ¬ ∃ cs T fz, W.heap[k]? = some (.cells cs T fz) ∧ T ≠ 30 ∧ T ≠ 25) W).setCell (p := ⟨p, i, none⟩) (.inr ⟨hp, fun ⟨cs, T, fz, h3, _, h5⟩ => by
    have h6 : W.heap[p]? = _ := h
    rw [h6] at h3
    cases h3
    exact h5 rfl⟩) u
theorem back_func_nil (f : Fn) (x y : Array Value) (w : World) : (binOp .eql 66 (.func f x y) .nilFunc).run Try.prog w = .ok (.bool false) w := by kernel_rfl
set_option linter.unusedSimpArgs false in
set_option linter.unusedVariables false in
set_option maxRecDepth 100000 in
set_option maxHeartbeats 16000000 in
theorem back_to (o : Ord) (a : Option Addr) (c : Nat) (w : World) (hL : StRow w a o.steps) (hmay : o.may = true) :
    Calls Try.prog 26 #[.agg #[.int .i64 o.id, .int .i64 o.item, .int .i64 o.qty, .int .i64 o.client, .int .i64 o.price, .slice a o.steps.length c], .int .i64 9] w (fun e w' => (∃ a' c', e = .returned (.slice a' (o.steps.length + 1) c')) ∧ Keeps (fun _ => False) w w') := by
  have hl3 := Ord.may_len hmay
  have Hmay := Kept.mk hmay
  have HL := Kept.mk hL
  have K0 : Kept (Keeps (fun _ => False) w (((w.alloc (.cells #[.int .i64 o.id, .int .i64 o.item, .int .i64 o.qty, .int .i64 o.client, .int .i64 o.price, .slice a o.steps.length c] 24)).alloc (.cells #[.int .i64 9] 3)).alloc (.cells #[.slice none 0 0] 25))) := ⟨(((Keeps.refl _ w).alloc _).alloc _).alloc _⟩
  have HN0 := Kept.mk ((Blk.newT (w.alloc (.cells #[.int .i64 o.id, .int .i64 o.item, .int .i64 o.qty, .int .i64 o.client, .int .i64 o.price, .slice a o.steps.length c] 24)) 3 [.int .i64 9] (w.heap.size + 1) (by simp)).alloc (.cells #[.slice none 0 0] 25))
  have HO0 := Kept.mk (((Blk.newT w 24 [.int .i64 o.id, .int .i64 o.item, .int .i64 o.qty, .int .i64 o.client, .int .i64 o.price, .slice a o.steps.length c] _ rfl).alloc (.cells #[.int .i64 9] 3)).alloc (.cells #[.slice none 0 0] 25))
  have HL0 := Kept.mk (Blk.newT ((w.alloc (.cells #[.int .i64 o.id, .int .i64 o.item, .int .i64 o.qty, .int .i64 o.client, .int .i64 o.price, .slice a o.steps.length c] 24)).alloc (.cells #[.int .i64 9] 3)) 25 [.slice none 0 0] (w.heap.size + 1 + 1) (by simp))
  clear hL hmay
  refine (callsIn_wide (n := 6)).1 ?_
  refine callsIn_of_wp_marks Try.func26 rfl trivial ?_ rfl
  simp only [Try.ntmps26, List.size_toArray, List.length_cons, List.length_nil, Nat.reduceAdd, Nat.reduceSub, Array.replicate_succ, Array.replicate_zero, List.push_toArray, List.append_toArray, List.nil_append, List.cons_append]
  gi_wp2
  refine ⟨trivial, ?_⟩
  gi_at_call 42
  refine (backF_in2 _ o a c _).mono ?_
  rintro e w2 ⟨B, rfl, hB, k2⟩
  have HN2 := Kept.mk (HN0.out.keeps k2 (fun h => h))
  have HL2 := Kept.mk (HL0.out.keeps k2 (fun h => h))
  have K2 := Kept.mk (K0.out.trans k2)
  have hlt := HL2.out.lt
  have hold : ∀ g off, o.steps ≠ [] → a = some ⟨g, off, none⟩ → g < w.heap.size := by
    intro g off hne hg
    obtain ⟨x, hx⟩ : ∃ x, o.steps[0]? = some x := ⟨_, List.getElem?_eq_getElem (List.length_pos_iff.2 hne)⟩
    obtain ⟨g', off', e, hlt', _⟩ := HL.out 0 x hx
    rw [hg] at e
    simp only [Option.some.injEq, Addr.mk.injEq, and_true] at e
    omega
  have hstops := back1_go 5 (by omega) w.heap.size B o a c Hmay.out w2 K2.out.size hB (HL.out.quiet K2.out) hold
  have hnf := back_func_nil
  have hw2 := K2.out.size
  clear hB k2
  gi_wp2
  refine range_goes rfl (by omega) (gf := 49) (lb := #[.pointer (some ⟨B, 0, none⟩)]) rfl trivial (enters_of Try.func49 (by kernel_rfl) rfl) hstops KeepsT.trans (fun W l o o' hl h hc => KeepsT.putObj o' (Nat.le_trans hw2 hl) h hc) (fun _ => rfl)
    (fun pre W => Keeps (fun _ => False) w W ∧ Blk W (w.heap.size + 1) 3 [.int .i64 9] ∧ (∃ v, Blk W (w.heap.size + 1 + 1) 25 [v] ∧ W.ownsRow w2.heap.size 30 2 v pre.length (pre.flatMap encSt)) ∧ w2.heap.size ≤ W.heap.size)
    (fun s X Y row hs hg hr => by
      obtain ⟨h1, h2, ⟨v, h3, h4⟩, h5⟩ := hs
      exact ⟨ownFrom_keeps (by omega) s X Y row h1 hg hr, ownFrom_blk (fun _ => _) s X Y row h2 hg hr, ⟨v, ownFrom_blk (fun _ => _) s X Y row h3 hg hr, row_cells h4 hg (fun r e => (hr r e).2)⟩, Nat.le_trans h5 hg.size⟩)
    ⟨K2.out, HN2.out, ⟨_, HL2.out, World.ownsRow_nil _ _ _ _⟩, Nat.le_refl _⟩
    (fun x a' W => ∃ Bx, w2.heap.size ≤ Bx ∧ Blk W Bx 30 [.int .i64 x.1, .int .i64 x.2] ∧ a' = { tmps := #[.agg #[.int .i64 o.id, .int .i64 o.item, .int .i64 o.qty, .int .i64 o.client, .int .i64 o.price, .slice a o.steps.length c], .int .i64 9, .pointer (some ⟨w.heap.size, 0, none⟩), .pointer (some ⟨w.heap.size + 1, 0, none⟩), .slice none 0 0, .pointer (some ⟨w.heap.size + 1 + 1, 0, none⟩), .func (.func 49) #[] #[.pointer (some ⟨B, 0, none⟩)], .pointer (some ⟨Bx, 0, none⟩), .agg #[.int .i64 o.id, .int .i64 o.item, .int .i64 o.qty, .int .i64 o.client, .int .i64 o.price, .slice a o.steps.length c], .func (.func 49) #[] #[.pointer (some ⟨B, 0, none⟩)], .func (.func 49) #[] #[.pointer (some ⟨B, 0, none⟩)], .bool false, .func (.func 49) #[] #[.pointer (some ⟨B, 0, none⟩)], .agg #[.int .i64 x.1, .int .i64 x.2], undef, undef, undef, undef, undef, undef, undef, undef, undef], defers := [] })
    (fun x a' _ X Y row hs hg hr => by obtain ⟨Bx, h1, h2, h3⟩ := hs; exact ⟨Bx, h1, ownFrom_blk (fun _ => _) () X Y row h2 hg hr, h3⟩)
    ?assign ?body ?done
  case assign =>
    rintro l pre x W K ⟨hK, hN, ⟨v, hV, hO⟩, hz⟩ hk
    have HK := Kept.mk hk
    clear hk
    unfold encA2
    gi_wp2
    exact HK.out _ _ ((KeepsOthers.alloc _ _).from _) (KeepsT.quiet ((Keeps.refl _ W).alloc _)) ⟨hK.alloc _, hN.alloc _, ⟨v, hV.alloc _, ownsRow_keeps hO ((Keeps.refl (fun _ => False) W).alloc _) (fun _ _ h => h)⟩, Nat.le_trans hz (by simp)⟩ ⟨W.heap.size, hz, Blk.newT _ _ _ _ rfl, rfl⟩
  case body =>
    rintro l pre x a' W hl ⟨hK, hN, ⟨v, hV, hO⟩, hz⟩ ⟨Bx, hBx, bX, rfl⟩ hlt2
    obtain ⟨va, vc, rfl, _, _, _, hRv, _⟩ := ownsRow_steps hO
    have n0 := hN.cell 0 rfl
    have v0 := hV.cell 0 rfl
    have x0 := bX.cell 0 rfl
    have x1 := bX.cell 1 rfl
    have HK := Kept.mk hK
    have HN := Kept.mk hN
    have HV := Kept.mk hV
    have HO := Kept.mk hO
    have hvl := hV.lt
    have hxl := bX.lt
    obtain ⟨z1, z2⟩ := x
    dsimp only at x0 x1
    have hgi : ¬ (9 : Int) ≤ (pre.length : Int) := by omega
    clear hK hN hV hO bX hRv
    have K3 : Kept (Keeps (fun _ => False) W (W.alloc (.cells #[.int .i64 z1, .int .i64 z2] 30))) := ⟨(Keeps.refl _ _).alloc _⟩
    have hB3 := Blk.newT W 30 [.int .i64 z1, .int .i64 z2] _ rfl
    have hO3 := ownsRow_keeps HO.out K3.out (fun _ _ h => h)
    obtain ⟨a', c', w3, hrun, hM3, k3, _⟩ := ac_append (x := z1) (y := z2) W.heap.size hO3 (by omega) (by simp; omega) (hB3.cell 0 rfl) (hB3.cell 1 rfl)
    have hlb := fun g e => (HO.out.lt g e).1
    have HM3 := Kept.mk hM3
    have KT : Kept (KeepsT w.heap.size 30 25 W w3) := ⟨(KeepsT.quiet K3.out).trans (keepsT_append hO3 hw2 k3)⟩
    have hsz3 : W.heap.size ≤ w3.heap.size := by have := K3.out.size; have := k3.size; omega
    have HV3 := Kept.mk ((HV.out.keeps K3.out (fun h => h)).keeps k3 (fun e => by have := hlb _ e; omega))
    have HN3 := Kept.mk ((HN.out.keeps K3.out (fun h => h)).keeps k3 (fun e => by have := hlb _ e; omega))
    have HK3 : Kept (Keeps (fun _ => False) w w3) := ⟨(HK.out.trans K3.out).then k3 (fun i hi e => by have := hlb i e; omega)⟩
    have r0 := HV3.out.cell 0 rfl
    have rf := HV3.out.frozen 0
    have hz3 : w2.heap.size ≤ w3.heap.size := by omega
    have HR := Kept.mk hrun
    have HKO : Kept (KeepsOthers W w3) := ⟨(KeepsOthers.alloc W _).trans (k3.others (row_isCells hO3))⟩
    clear hO3 hM3 k3 hrun hB3
    gi_wp2_with (gi_at_builtin; refine wpListIn_append_run rfl _ _ _ rfl rfl rfl HR.out ?_)
    refine ⟨(HKO.out.trans (KeepsOthers.setCell _ _ _)).from _, KT.out.trans (keepsT_set HV3.out (by omega) 0 _), HK3.out.setCell (p := ⟨w.heap.size + 1 + 1, 0, none⟩) (.inl (by show w.heap.size ≤ w.heap.size + 1 + 1; omega)) _, HN3.out.other (p := ⟨w.heap.size + 1 + 1, 0, none⟩) (by show w.heap.size + 1 ≠ w.heap.size + 1 + 1; omega) _, ⟨_, HV3.out.set 0 _, ?_⟩, by rw [size_set]; exact hz3⟩
    exact ownsRow_keeps HM3.out ((Keeps.refl (fun k => k = w.heap.size + 1 + 1) w3).setCell (p := ⟨w.heap.size + 1 + 1, 0, none⟩) (.inr rfl) _) (fun g hg e => by have := (HM3.out.lt g hg).1; omega)
  case done =>
    rintro D ys W hD hys ⟨hK, hN, ⟨v, hV, hO⟩, hz⟩ hKD
    obtain ⟨va, vc, rfl, _⟩ := ownsRow_steps hO
    have v0 := hV.cell 0 rfl
    have HK := Kept.mk hK
    have HD := Kept.mk hKD
    have HY := Kept.mk hys
    clear hK hN hV hO hKD hys
    gi_wp2
    refine ⟨by simp, .inl ⟨_, _, rfl, run_takeDeferred HD.out, ?_⟩⟩
    refine ⟨_, results_tmp rfl _ _ _, ⟨va, vc, by rw [HY.out]; rfl⟩, ?_⟩
    exact keepsQ_b _ D _ _ (by omega) HD.out HK.out
end Go.Proofs.Ytjlfkpimjjnolaa
