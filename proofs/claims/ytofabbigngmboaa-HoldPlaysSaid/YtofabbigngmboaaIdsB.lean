/- The law's ids, walked, over whatever Ids hands back. (made by gen/ids.sh) -/
import Derived.Test.YtofabbigngmboaaValues
namespace Go.Proofs.Ytofabbigngmboaa
open Go.RowKit Go.Shelf
attribute [local go_sem] Oper.semAt_some
theorem Blk.newAt (w : World) (T : TypeId) (vs : List Value) (p : Nat) (hp : p = w.heap.size) : Blk (w.alloc (.cells vs.toArray T)) p T vs := by
  subst hp
  exact Blk.new w T vs
theorem infoInt : (Try.prog.info? 3).map (fun i => (i.zero, i.size, i.bytes)) = some (some (.int .i64 0), 1, 8) := by kernel_rfl
/-- A row of whole numbers of the call's own. -/
def NumOwn (w : World) (base : Nat) (v : Value) (L : List Int) : Prop := w.ownsRow base 3 1 v L.length (L.map encI)
theorem NumOwn.nil (w : World) (base : Nat) : NumOwn w base (.slice none 0 0) [] := World.ownsRow_nil _ _ _ _
theorem NumOwn.slice {w : World} {base : Nat} {v : Value} {L : List Int} (h : NumOwn w base v L) : ∃ a c, v = .slice a L.length c ∧ L.length ≤ c ∧ c ≤ maxLen := by
  obtain ⟨a, c, hv, _, hc, hcm, _⟩ := ownsRow_open h (by omega)
  exact ⟨a, c, hv, hc, hcm⟩
theorem NumOwn.row {w : World} {base : Nat} {a : Option Addr} {n c : Nat} {L : List Int} (h : NumOwn w base (.slice a n c) L) : NumRow w a L := by
  intro k x hk
  obtain ⟨a', c', hv, _, _, _, _, hx⟩ := ownsRow_open h (by omega)
  simp only [Value.slice.injEq] at hv
  obtain ⟨rfl, _, _⟩ := hv
  obtain ⟨g, off, e, hl, _, hc⟩ := hx k (encI x) (by rw [List.getElem?_map, hk]; rfl)
  exact ⟨g, off, e, hl, hc⟩
theorem num_append {w : World} {base : Nat} {v : Value} {L : List Int} {m : Int} {s : Nat} {T : TypeId} (h : NumOwn w base v L) (hL : L.length + 1 ≤ 100000) (hb : base ≤ w.heap.size) (hs : Blk w s T [.int .i64 m]) :
    ∃ a' c' w', (Builtin.append_ #[37, 37] 37 #[v, .slice (some ⟨s, 0, none⟩) 1 1]).run Try.prog w = .ok (.slice a' (L.length + 1) c') w' ∧ NumOwn w' base (.slice a' (L.length + 1) c') (L ++ [m]) ∧ Keeps (fun k => v.ownBlock = some k) w w' := by
  obtain ⟨i0, hi, hz0, hz1, hz2⟩ := info_parts infoInt
  obtain ⟨a', c', w', hrun, hown, k, _, _⟩ := run_append_new (P := Try.prog) w base 37 37 3 i0 _ 1 8 Try.underlying37 hi hz0 hz1 hz2 rfl (by omega) v L.length _ h ⟨s, 0, none⟩ 1 1 [encI m] rfl (fun j u hu => by
      match j, hu with
      | 0, hu =>
        simp only [List.getElem?_cons_zero, Option.some.injEq] at hu
        subst hu
        have h0 := hs.cell 0 rfl
        have e : (⟨s, 0, none⟩ : Addr).add 0 = ⟨s, 0, none⟩ := by simp [Addr.add]
        rw [e]
        exact h0) (fun u hu => by simp only [List.mem_singleton] at hu; subst hu; rfl) (by unfold maxLen; omega) (by omega) hb
  refine ⟨a', c', w', hrun, ?_, k⟩
  unfold NumOwn
  rw [List.map_append, List.length_append]
  simpa using hown
theorem run_func_nil (f : Fn) (x y : Array Value) (w : World) : (binOp .eql 80 (.func f x y) .nilFunc).run Try.prog w = .ok (.bool false) w := by kernel_rfl
/-- What a call of Ids hands back: a loop over L. -/
def IdsTo (w w' : World) (v : Value) (L : List Int) : Prop := ∃ B a c, v = .func (.func 54) #[] #[.pointer (some ⟨B, 0, none⟩)] ∧ Blk w' B 37 [.slice a L.length c] ∧ NumRow w' a L ∧ (∀ x, a = some x → w.heap.size ≤ x.block) ∧ Keeps (fun _ => False) w w'
theorem ownsRow_base {w : World} {base base' : Nat} {e : TypeId} {size : Nat} {v : Value} {n : Nat} {xs : List Value} (h : w.ownsRow base e size v n xs) (hb : base' ≤ base) : w.ownsRow base' e size v n xs := by
  refine ⟨h.1, ?_⟩
  rcases h.2 with h2 | ⟨g, cap, cur, h1, h2, h3⟩
  · exact .inl h2
  · exact .inr ⟨g, cap, cur, h1, by omega, h3⟩
def idsX (n B : Nat) (c : Code) (pre : List Int) (W : World) (v : Value) : Prop := c = .exit 0 ∧ ∃ ini x, pre = ini ++ [x] ∧ n = ini.length ∧ NumOwn W B v ini
set_option linter.unusedSimpArgs false in
set_option maxRecDepth 100000 in
set_option maxHeartbeats 16000000 in
theorem ids_to (p : Value) (n : Nat) (L : List Int) (w : World) (hn : n ≤ 100000) (hL : L.length ≤ 100000)
    (hI : ∀ w1, Keeps (fun _ => False) w w1 → Calls Try.prog 42 #[p] w1 fun e w2 => ∃ v, e = .returned v ∧ IdsTo w1 w2 v L) :
    Calls Try.prog 20 #[p, .int .i64 n] w (fun e w' => (∃ v, e = .returned v ∧ NumOwn w' w.heap.size v (L.take n)) ∧ Keeps (fun _ => False) w w') := by
  have K0 : Kept (Keeps (fun _ => False) w ((w.alloc (.cells #[.int .i64 n] 3)).alloc (.cells #[.slice none 0 0] 37))) := ⟨((Keeps.refl _ w).alloc _).alloc _⟩
  have HN0 := Kept.mk ((Blk.newAt w 3 [.int .i64 n] _ rfl).alloc (.cells #[.slice none 0 0] 37))
  have HL0 := Kept.mk (Blk.newAt (w.alloc (.cells #[.int .i64 n] 3)) 37 [.slice none 0 0] (w.heap.size + 1) (by simp))
  have HI := Kept.mk hI
  clear hI
  refine (callsIn_wide (n := 6)).1 ?_
  refine callsIn_of_wp_marks Try.func20 rfl trivial ?_ rfl
  simp only [Try.ntmps20, List.size_toArray, List.length_cons, List.length_nil, Nat.reduceAdd, Nat.reduceSub, Array.replicate_succ, Array.replicate_zero, List.push_toArray, List.append_toArray, List.nil_append, List.cons_append]
  gi_wp2
  refine ⟨trivial, ?_⟩
  gi_at_call 42
  refine (callsIn_wide.2 (HI.out _ K0.out)).mono ?_
  rintro e w2 ⟨v, rfl, B, a, c, rfl, hB, hR, hab, k2⟩
  have HN2 := Kept.mk (HN0.out.keeps k2 (fun h => h))
  have HL2 := Kept.mk (HL0.out.keeps k2 (fun h => h))
  have K2 := Kept.mk (K0.out.trans k2)
  have hlt := HL2.out.lt
  have hsz0 : ((w.alloc (.cells #[.int .i64 n] 3)).alloc (.cells #[.slice none 0 0] 37)).heap.size = w.heap.size + 1 + 1 := by simp
  rw [hsz0] at hab
  have hTa : ∀ g off, L ≠ [] → a = some ⟨g, off, none⟩ → ¬ (g = w.heap.size + 1 ∨ w2.heap.size ≤ g) := by
    intro g off hne hg
    obtain ⟨x, hx⟩ : ∃ x, L[0]? = some x := ⟨_, List.getElem?_eq_getElem (by cases hs : L with | nil => exact absurd hs hne | cons y r => simp)⟩
    obtain ⟨g', off', e, hlt', _⟩ := hR 0 x hx
    rw [hg] at e
    simp only [Option.some.injEq, Addr.mk.injEq, and_true] at e
    have := hab _ hg
    simp only at this
    omega
  have hstops := vals_stops Fence.wide 5 trivial rfl (by omega) B (fun k => k = w.heap.size + 1 ∨ w2.heap.size ≤ k) a c L hL w2 hB.lt hTa (hB.cell 0 rfl) hR
  have hnf := run_func_nil
  clear hsz0 hab hB hR k2 hTa
  gi_wp2
  refine wpIn_rangeFunc_ownH rfl (by omega) (gf := 54) (lb := #[.pointer (some ⟨B, 0, none⟩)]) rfl trivial (enters_of Try.func54 (by kernel_rfl) rfl) hstops keepsK_t (keepsK_b (T := fun k => k = w.heap.size + 1 ∨ w2.heap.size ≤ k) (w := w2) (fun _ h => Or.inr h)) (Below.refl _ _) (fun _ => rfl)
    (fun pre W => Keeps (fun _ => False) w W ∧ Blk W w.heap.size 3 [.int .i64 n] ∧ (∃ v, Blk W (w.heap.size + 1) 37 [v] ∧ NumOwn W w2.heap.size v pre) ∧ w2.heap.size ≤ W.heap.size ∧ Kept (pre.length ≤ n))
    (fun c pre W => Keeps (fun _ => False) w W ∧ ∃ v, Blk W (w.heap.size + 1) 37 [v] ∧ idsX n w2.heap.size c pre W v)
    (fun s X Y row hs hg hr => by
      obtain ⟨h1, h2, ⟨v, h3, h4⟩, h5, h6⟩ := hs
      exact ⟨ownFrom_keeps (by omega) s X Y row h1 hg hr, ownFrom_blk (fun _ => _) s X Y row h2 hg hr, ⟨v, ownFrom_blk (fun _ => _) s X Y row h3 hg hr, row_cells h4 hg (fun r e => (hr r e).2)⟩, Nat.le_trans h5 hg.size, h6⟩)
    (fun c s X Y row hs hg hr => by
      obtain ⟨h1, v, h2, h3, ini, x, e1, e2, e4⟩ := hs
      exact ⟨ownFrom_keeps (by omega) s X Y row h1 hg hr, v, ownFrom_blk (fun _ => _) s X Y row h2 hg hr, h3, ini, x, e1, e2, row_cells e4 hg (fun r e => (hr r e).2)⟩)
    ⟨K2.out, HN2.out, ⟨_, HL2.out, NumOwn.nil _ _⟩, Nat.le_refl _, ⟨Nat.zero_le _⟩⟩
    (fun x a' _ => a' = { tmps := #[p, .int .i64 n, undef, .pointer (some ⟨w.heap.size, 0, none⟩), .slice none 0 0, .pointer (some ⟨w.heap.size + 1, 0, none⟩), .func (.func 54) #[] #[.pointer (some ⟨B, 0, none⟩)], .int .i64 x, p, .func (.func 54) #[] #[.pointer (some ⟨B, 0, none⟩)], .func (.func 54) #[] #[.pointer (some ⟨B, 0, none⟩)], .bool false, .func (.func 54) #[] #[.pointer (some ⟨B, 0, none⟩)], .int .i64 x, undef, undef, undef, undef, undef, undef, undef, undef, undef], defers := [] })
    (fun x a' _ X Y row hs hg hr => hs)
    ?assign ?body ?done ?stop
  case assign =>
    rintro l pre x W K hi hk
    have HK := Kept.mk hk
    have HI2 := Kept.mk hi
    clear hk hi
    unfold encIs
    gi_wp2
    exact HK.out _ _ (KeepsFrom.refl _ _) (Keeps.refl _ _) HI2.out rfl
  case body =>
    rintro l pre x a' W hl ⟨r, hr⟩ ⟨hK, hN, ⟨v, hV, hO⟩, hz, hp⟩ rfl hlt2
    obtain ⟨va, vc, rfl, _⟩ := hO.slice
    have n0 := hN.cell 0 rfl
    have v0 := hV.cell 0 rfl
    have vf := hV.frozen 0
    have HK := Kept.mk hK
    have HN := Kept.mk hN
    have HV := Kept.mk hV
    have HO := Kept.mk hO
    have hvl := hV.lt
    have hpl := hp.out
    clear hr hK hN hV hO hp
    by_cases hge : n ≤ pre.length
    · have hgi : (n : Int) ≤ (pre.length : Int) := by omega
      gi_wp2
      exact ⟨KeepsFrom.refl _ _, HK.out, _, HV.out, rfl, pre, x, rfl, by omega, HO.out⟩
    · have hgi : ¬ (n : Int) ≤ (pre.length : Int) := by omega
      have K3 : Kept (Keeps (fun _ => False) W (W.alloc (.cells #[.int .i64 x] 3))) := ⟨(Keeps.refl _ _).alloc _⟩
      have hO3 : NumOwn (W.alloc (.cells #[.int .i64 x] 3)) w2.heap.size (.slice va pre.length vc) pre := ownsRow_keeps HO.out K3.out (fun _ _ h => h)
      obtain ⟨a', c', w3, hrun, hM3, k3⟩ := num_append (m := x) (s := W.heap.size) (T := 3) hO3 (by omega) (by simp; omega) (Blk.newAt W 3 [.int .i64 x] _ rfl)
      have hlb := fun g e => (HO.out.lt g e).1
      have HM3 := Kept.mk hM3
      have KT : Kept (Keeps (fun k => k = w.heap.size + 1 ∨ w2.heap.size ≤ k) W w3) := ⟨(K3.out.mono (fun _ _ h => h.elim)).then k3 (fun i _ e => .inr (hlb i e))⟩
      have HV3 := Kept.mk ((HV.out.keeps K3.out (fun h => h)).keeps k3 (fun e => by have := hlb _ e; omega))
      have HN3 := Kept.mk ((HN.out.keeps K3.out (fun h => h)).keeps k3 (fun e => by have := hlb _ e; omega))
      have HK3 : Kept (Keeps (fun _ => False) w w3) := ⟨(HK.out.trans K3.out).then k3 (fun i hi e => by have := hlb i e; omega)⟩
      have r0 := HV3.out.cell 0 rfl
      have rf := HV3.out.frozen 0
      have hz3 : w2.heap.size ≤ w3.heap.size := by have := KT.out.size; omega
      have HR := Kept.mk hrun
      have HKO : Kept (KeepsOthers W w3) := ⟨(KeepsOthers.alloc W _).trans (k3.others (row_isCells hO3))⟩
      clear hO3 hM3 k3 hrun
      gi_wp2_with (gi_at_builtin; refine wpListIn_append_run rfl _ _ _ rfl rfl rfl HR.out ?_)
      refine ⟨(HKO.out.trans (KeepsOthers.setCell _ _ _)).from _, KT.out.trans ((Keeps.refl (fun k => k = w.heap.size + 1 ∨ w2.heap.size ≤ k) w3).setCell (p := ⟨w.heap.size + 1, 0, none⟩) (.inr (.inl rfl)) _), HK3.out.setCell (p := ⟨w.heap.size + 1, 0, none⟩) (.inl (by show w.heap.size ≤ w.heap.size + 1; omega)) _, HN3.out.other (p := ⟨w.heap.size + 1, 0, none⟩) (by show w.heap.size ≠ w.heap.size + 1; omega) _, ⟨_, HV3.out.set 0 _, ?_⟩, by rw [size_set]; exact hz3, ⟨by rw [List.length_append, List.length_singleton]; omega⟩⟩
      exact ownsRow_keeps HM3.out ((Keeps.refl (fun k => k = w.heap.size + 1) w3).setCell (p := ⟨w.heap.size + 1, 0, none⟩) (.inr rfl) _) (fun g hg e => by have := (HM3.out.lt g hg).1; omega)
  case done =>
    rintro D ys W hD rfl ⟨hK, hN, ⟨v, hV, hO⟩, hz, hp⟩ hKD
    obtain ⟨va, vc, rfl, _⟩ := hO.slice
    have v0 := hV.cell 0 rfl
    have HK := Kept.mk hK
    have HO := Kept.mk hO
    have HE : Kept (ys.take n = ys) := ⟨List.take_of_length_le hp.out⟩
    have HD := Kept.mk hKD
    clear hK hN hV hO hp hKD
    gi_wp2
    refine ⟨by simp, .inl ⟨_, _, rfl, run_takeDeferred HD.out, ?_⟩⟩
    refine ⟨_, results_tmp rfl _ _ _, ⟨_, rfl, ?_⟩, ?_⟩
    · rw [HE.out]
      exact (show NumOwn _ w.heap.size _ _ from ownsRow_base (row_cells HO.out (grownBy_putObj' _ D (.deferred none)) (fun r e => by cases e; exact ⟨_, HD.out, rfl⟩)) (by omega))
    · exact keepsQ_b _ D _ _ (by omega) HD.out HK.out
  case stop =>
    rintro D c pre W hD ⟨k, hk, hpre⟩ ⟨hK, v, hV, rfl, ini, x, e1, e2, e3⟩ hKD
    obtain ⟨va, vc, rfl, _⟩ := e3.slice
    have v0 := hV.cell 0 rfl
    have HK := Kept.mk hK
    have HO := Kept.mk e3
    have HE : Kept (L.take n = ini) := ⟨by
      have h1 : ini ++ [x] = L.take k := by rw [← e1]; exact hpre
      have h2 := congrArg List.length h1
      rw [List.length_append, List.length_singleton, List.length_take] at h2
      have h3 : L.take n = (L.take k).take n := by rw [List.take_take]; congr 1; omega
      rw [h3, ← h1, e2, List.take_left']
      rfl⟩
    have HD := Kept.mk hKD
    clear hK hV e3 hKD
    gi_wp2
    refine ⟨by simp, .inl ⟨_, _, rfl, run_takeDeferred HD.out, ?_⟩⟩
    refine ⟨_, results_tmp rfl _ _ _, ⟨_, rfl, ?_⟩, ?_⟩
    · rw [HE.out]
      exact (show NumOwn _ w.heap.size _ _ from ownsRow_base (row_cells HO.out (grownBy_putObj' _ D (.deferred none)) (fun r e => by cases e; exact ⟨_, HD.out, rfl⟩)) (by omega))
    · exact keepsQ_b _ D _ _ (by omega) HD.out HK.out
end Go.Proofs.Ytofabbigngmboaa
