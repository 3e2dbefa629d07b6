/- Package saga's undo, walked. -/
import Derived.Test.YtfcnegnkmacajaaDecide
import Derived.Test.YtfcnegnkmacajaaBackward
import Derived.Scope
namespace Go.Proofs.Ytfcnegnkmacajaa
open Go.RowKit Go.Shelf
attribute [local go_sem] Oper.semAt_some
/-- What is to be undone next: of the first k steps. -/
def undAt (o : Ord) (u : List Bool) : Nat → List Ms
  | 0 => []
  | k + 1 => if u.getD k false then undAt o u k else [⟨4, 0, (stAt o.steps k).1, o.id, k, 0, 0⟩]
theorem undAt_none {o : Ord} {u : List Bool} : ∀ {k : Nat}, (∀ i, i < k → u.getD i false = true) → undAt o u k = []
  | 0, _ => rfl
  | k + 1, h => by
    rw [undAt, h k (by omega)]
    exact undAt_none (fun i hi => h i (by omega))
theorem undAt_some {o : Ord} {u : List Bool} {x : Nat} (hx : u.getD x false = false) : ∀ {k : Nat}, x < k → (∀ i, x < i → i < k → u.getD i false = true) → undAt o u k = [⟨4, 0, (stAt o.steps x).1, o.id, x, 0, 0⟩]
  | 0, h, _ => by omega
  | k + 1, h, h2 => by
    rw [undAt]
    by_cases e : x = k
    · subst e
      rw [hx]; rfl
    · rw [h2 k (by omega) (by omega)]
      exact undAt_some hx (by omega) (fun i hi hi2 => h2 i hi (by omega))
def Und (o : Ord) (u : List Bool) (pre : List (Pl o.steps)) : Prop := ∀ x ∈ pre, u.getD x.1 false = true
theorem Und.more {o : Ord} {u : List Bool} {pre : List (Pl o.steps)} {x : Pl o.steps} (h : Und o u pre) (hx : u.getD x.1 false = true) : Und o u (pre ++ [x]) := fun z hz => by
  rcases List.mem_append.1 hz with h1 | h1
  · exact h z h1
  · simp only [List.mem_singleton] at h1
    subst h1
    exact hx
def UndX (o : Ord) (u : List Bool) (base : Nat) (c : Code) (pre : List (Pl o.steps)) (W : World) (v : Value) : Prop :=
  c = .ret ∧ ∃ ini x, pre = ini ++ [x] ∧ Und o u ini ∧ u.getD x.1 false = false ∧ MsOwn W base v [⟨4, 0, (stAt o.steps x.1).1, o.id, x.1, 0, 0⟩]
theorem Und.at_ {o : Ord} {u : List Bool} {pre : List (Pl o.steps)} {k : Nat} (h : Und o u pre) (hp : pre.map (·.1) = fromBehind o.steps.length k) {i : Nat} (hi : o.steps.length - k ≤ i) (hi2 : i < o.steps.length) : u.getD i false = true := by
  have hm : i ∈ pre.map (·.1) := by
    rw [hp]
    exact uptoF_mem.2 ⟨o.steps.length - 1 - i, by omega, by omega⟩
  obtain ⟨x, hx, rfl⟩ := List.mem_map.1 hm
  exact h x hx
theorem Und.all {o : Ord} {u : List Bool} {pre : List (Pl o.steps)} (h : Und o u pre) (hp : pre.map (·.1) = fromBehind o.steps.length o.steps.length) : undAt o u o.steps.length = [] :=
  undAt_none (fun i hi => h.at_ hp (by omega) hi)
theorem Und.first {o : Ord} {u : List Bool} {ini : List (Pl o.steps)} {x : Pl o.steps} {k : Nat} (h : Und o u ini) (hk : k ≤ o.steps.length) (hp : (ini ++ [x]).map (·.1) = fromBehind o.steps.length k) (hx : u.getD x.1 false = false) : undAt o u o.steps.length = [⟨4, 0, (stAt o.steps x.1).1, o.id, x.1, 0, 0⟩] := by
  obtain ⟨m, rfl⟩ : ∃ m, k = m + 1 := by
    cases k with
    | zero => simp [fromBehind, uptoF] at hp
    | succ m => exact ⟨m, rfl⟩
  rw [List.map_append] at hp
  unfold fromBehind at hp
  rw [uptoF_succ] at hp
  obtain ⟨h1, h2⟩ := List.append_inj' hp rfl
  simp only [List.map_cons, List.map_nil, List.cons.injEq, and_true] at h2
  refine undAt_some hx x.2 (fun i hi hi2 => h.at_ (k := m) h1 (by omega) hi2)
set_option linter.unusedSimpArgs false in
set_option maxRecDepth 100000 in
set_option maxHeartbeats 16000000 in
theorem undo_to (o : Ord) (a da ua : Option Addr) (c dc uc : Nat) (f : Fct) (w : World) (h : FcAt w o a c f da ua) (hl : f.undone.length = o.steps.length) (hl3 : o.steps.length ≤ 3) :
    Calls Try.prog 26 #[.agg #[.int .i64 o.id, .int .i64 o.item, .int .i64 o.qty, .int .i64 o.client, .int .i64 o.price, .slice a o.steps.length c], .agg #[.slice da f.done.length dc, .slice ua f.undone.length uc, .bool f.asked, .bool f.yes, .bool f.turned, .bool f.a0, .bool f.a1, .bool f.shipped, .bool f.d0, .bool f.d1, .bool f.acc]] w (fun e w' => (∃ v, e = .returned v ∧ MsOwn w' w.heap.size v (undAt o f.undone o.steps.length)) ∧ Keeps (fun _ => False) w w') := by
  obtain ⟨W0, hW0⟩ : ∃ W0, ((((w.alloc (.cells #[.int .i64 o.id, .int .i64 o.item, .int .i64 o.qty, .int .i64 o.client, .int .i64 o.price, .slice a o.steps.length c] 24)).alloc (.cells #[.slice da f.done.length dc, .slice ua f.undone.length uc, .bool f.asked, .bool f.yes, .bool f.turned, .bool f.a0, .bool f.a1, .bool f.shipped, .bool f.d0, .bool f.d1, .bool f.acc] 31)).alloc (.cells #[.slice none 0 0] 32)).alloc (.cells #[.slice a o.steps.length c] 22)) = W0 := ⟨_, rfl⟩
  have hsz : W0.heap.size = w.heap.size + 4 := by rw [← hW0]; simp
  have HO0 : Kept (Blk W0 w.heap.size 24 [.int .i64 o.id, .int .i64 o.item, .int .i64 o.qty, .int .i64 o.client, .int .i64 o.price, .slice a o.steps.length c]) := ⟨by rw [← hW0]; exact (((Blk.new' w 24 [.int .i64 o.id, .int .i64 o.item, .int .i64 o.qty, .int .i64 o.client, .int .i64 o.price, .slice a o.steps.length c] _ rfl).alloc _).alloc _).alloc _⟩
  have HF0 : Kept (Blk W0 (w.heap.size + 1) 31 [.slice da f.done.length dc, .slice ua f.undone.length uc, .bool f.asked, .bool f.yes, .bool f.turned, .bool f.a0, .bool f.a1, .bool f.shipped, .bool f.d0, .bool f.d1, .bool f.acc]) := ⟨by rw [← hW0]; exact ((Blk.new' _ 31 [.slice da f.done.length dc, .slice ua f.undone.length uc, .bool f.asked, .bool f.yes, .bool f.turned, .bool f.a0, .bool f.a1, .bool f.shipped, .bool f.d0, .bool f.d1, .bool f.acc] _ (by simp)).alloc _).alloc _⟩
  have HR0 : Kept (Blk W0 (w.heap.size + 1 + 1) 32 [.slice none 0 0]) := ⟨by rw [← hW0]; exact (Blk.new' _ 32 [.slice none 0 0] _ (by simp)).alloc _⟩
  have HS0 : Kept (Blk W0 (w.heap.size + 1 + 1 + 1) 22 [.slice a o.steps.length c]) := ⟨by rw [← hW0]; exact Blk.new' _ 22 [.slice a o.steps.length c] _ (by simp)⟩
  have K0 : Kept (Keeps (fun _ => False) w W0) := ⟨by rw [← hW0]; exact ((((Keeps.refl _ w).alloc _).alloc _).alloc _).alloc _⟩
  have hul : (f.undone.length : Int) ≤ 9223372036854775807 := by have := h.um; unfold maxLen at this; omega
  have HH := Kept.mk h
  have HL := Kept.mk hl
  have hst : StRow W0 a o.steps := h.steps.quiet K0.out
  have hTa : ∀ g off, o.steps ≠ [] → a = some ⟨g, off, none⟩ → ¬ (W0.heap.size ≤ g) := by
    intro g off hne hg
    obtain ⟨x, hx⟩ : ∃ x, o.steps[0]? = some x := ⟨_, List.getElem?_eq_getElem (by cases hs : o.steps with | nil => exact absurd hs hne | cons y r => simp)⟩
    obtain ⟨g', off', e, hlt, _⟩ := h.steps 0 x hx
    rw [hg] at e
    simp only [Option.some.injEq, Addr.mk.injEq, and_true] at e
    omega
  have hstops := bw_stops Fence.wide 5 trivial rfl (by omega) (w.heap.size + 1 + 1 + 1) (fun k => W0.heap.size ≤ k) a c o.steps (by omega) W0 (by omega) (by omega) hTa (HS0.out.cell 0 rfl) hst
  have HW0 := Kept.mk hW0
  clear h hl hW0
  refine (callsIn_wide (n := 6)).1 ?_
  refine callsIn_of_wp_marks Try.func26 rfl trivial ?_ rfl
  simp only [Try.ntmps26, List.size_toArray, List.length_cons, List.length_nil, Nat.reduceAdd, Nat.reduceSub, Array.replicate_succ, Array.replicate_zero, List.push_toArray, List.append_toArray, List.nil_append, List.cons_append]
  gi_wp2
  refine wpIn_wide.2 (wp_scope_straight ((wpIn_wide (n := 6)).1 ?_))
  apply wpIn_seq
  apply wpIn_label
  gi_wp2_with (refine ⟨trivial, ?_⟩; gi_at_call 38; refine (bw_in Fence.wide _ trivial rfl _ _ _ _).mono ?_; rintro e w' ⟨rfl, rfl⟩)
  rw [HW0.out]
  refine wpIn_rangeFunc_ownH rfl (by omega) (gf := 46) (lb := #[.pointer (some ⟨w.heap.size + 1 + 1 + 1, 0, none⟩)]) rfl trivial (enters_of Try.func46 (by kernel_rfl) rfl) hstops keepsK_t (keepsK_b (fun _ h => h)) (Below.refl _ _) (fun _ => rfl)
    (fun pre W => Keeps (fun _ => False) W0 W ∧ Blk W w.heap.size 24 [.int .i64 o.id, .int .i64 o.item, .int .i64 o.qty, .int .i64 o.client, .int .i64 o.price, .slice a o.steps.length c] ∧ Blk W (w.heap.size + 1) 31 [.slice da f.done.length dc, .slice ua f.undone.length uc, .bool f.asked, .bool f.yes, .bool f.turned, .bool f.a0, .bool f.a1, .bool f.shipped, .bool f.d0, .bool f.d1, .bool f.acc] ∧ Blk W (w.heap.size + 1 + 1) 32 [.slice none 0 0] ∧ Und o f.undone pre)
    (fun c pre W => Keeps (fun _ => False) w W ∧ ∃ v, Blk W (w.heap.size + 1 + 1) 32 [v] ∧ UndX o f.undone w.heap.size c pre W v)
    (fun s X Y row hs hg hr => ⟨ownFrom_keeps (by omega) s X Y row hs.1 hg hr, ownFrom_blk (fun _ => _) s X Y row hs.2.1 hg hr, ownFrom_blk (fun _ => _) s X Y row hs.2.2.1 hg hr, ownFrom_blk (fun _ => _) s X Y row hs.2.2.2.1 hg hr, hs.2.2.2.2⟩)
    (fun c s X Y row hs hg hr => by
      obtain ⟨h1, v, h2, h3⟩ := hs
      obtain ⟨hc, ini, x, e1, e2, e3, e4⟩ := h3
      exact ⟨ownFrom_keeps (by omega) s X Y row h1 hg hr, v, ownFrom_blk (fun _ => _) s X Y row h2 hg hr, hc, ini, x, e1, e2, e3, row_cells e4 hg (fun r e => (hr r e).2)⟩)
    ⟨Keeps.refl _ _, HO0.out, HF0.out, HR0.out, fun x hx => by simp at hx⟩
    (fun x a' W => ∃ Bx, W0.heap.size ≤ Bx ∧ Blk W Bx 38 [.int .i64 (stAt o.steps x.1).1, .int .i64 (stAt o.steps x.1).2] ∧ a' = { tmps := #[.agg #[.int .i64 o.id, .int .i64 o.item, .int .i64 o.qty, .int .i64 o.client, .int .i64 o.price, .slice a o.steps.length c], .agg #[.slice da f.done.length dc, .slice ua f.undone.length uc, .bool f.asked, .bool f.yes, .bool f.turned, .bool f.a0, .bool f.a1, .bool f.shipped, .bool f.d0, .bool f.d1, .bool f.acc], .pointer (some ⟨w.heap.size, 0, none⟩), .pointer (some ⟨w.heap.size + 1, 0, none⟩), .pointer (some ⟨w.heap.size + 1 + 1, 0, none⟩), .int .i64 (x.1 : Nat), .pointer (some ⟨Bx, 0, none⟩), undef, .pointer (some ⟨w.heap.size, 5, none⟩), .slice a o.steps.length c, .func (.func 46) #[] #[.pointer (some ⟨w.heap.size + 1 + 1 + 1, 0, none⟩)], .int .i64 (x.1 : Nat), .agg #[.int .i64 (stAt o.steps x.1).1, .int .i64 (stAt o.steps x.1).2], undef, undef, undef, undef, undef, undef, undef, undef, undef, undef, undef, undef, undef, undef], defers := [] })
    (fun x a' _ X Y row hs hg hr => by obtain ⟨Bx, h1, h2, h3⟩ := hs; exact ⟨Bx, h1, ownFrom_blk (fun _ => _) () X Y row h2 hg hr, h3⟩)
    ?assign ?body ?done ?stop
  case assign =>
    rintro l pre x W K ⟨hK, hO, hB, hR, hp⟩ hk
    have HK := Kept.mk hk
    clear hk
    unfold encPl
    gi_wp2
    exact HK.out _ _ ((KeepsOthers.alloc _ _).from _) ((Keeps.refl _ W).alloc _) ⟨hK.alloc _, hO.alloc _, hB.alloc _, hR.alloc _, hp⟩ ⟨W.heap.size, hK.size, Blk.new' _ _ _ _ rfl, rfl⟩
  case body =>
    rintro l pre x a' W hl ⟨r, hr⟩ ⟨hK, hO, hB, hR, hp⟩ ⟨Bx, hBx, bX, rfl⟩ hlt
    obtain ⟨k, hkl⟩ := x
    obtain ⟨y, hy⟩ : ∃ y, f.undone[k]? = some y := ⟨_, List.getElem?_eq_getElem (by rw [HL.out]; exact hkl)⟩
    obtain ⟨g, off, rfl, hgl, d0⟩ := (HH.out.undone.quiet (K0.out.trans hK)) k y hy
    have hgd : f.undone.getD k false = y := by rw [List.getD_eq_getElem?_getD, hy]; rfl
    have hki : (k : Int) < f.undone.length := by rw [HL.out]; omega
    have HGD := Kept.mk hgd
    have b1 := hB.cell 1 rfl
    have HK := Kept.mk hK
    have HO := Kept.mk hO
    have HB := Kept.mk hB
    have HR := Kept.mk hR
    have x0 := bX.cell 0 rfl
    clear hy hgd hr
    dsimp only at x0
    cases y with
    | true =>
      clear hO hB hK
      gi_wp2
      exact ⟨KeepsFrom.refl _ _, Keeps.refl _ _, HK.out, HO.out, HB.out, HR.out, hp.more HGD.out⟩
    | false =>
      obtain ⟨o0, o1, o2, o3, o4, o5⟩ := blk6 hO
      clear hO hB hK
      gi_wp2
      refine ⟨trivial, ?_⟩
      gi_at_call 27
      refine (CallsIn.inRound l (callsIn_wide.2 (tell_to 4 _ o a c _))).mono ?_
      rintro e w2 ⟨rfl, hw2⟩
      have k2 : Keeps (fun _ => False) W w2 := by rw [← hw2]; exact ((Keeps.refl _ _).alloc _).alloc _
      have HW2 := Kept.mk hw2
      have K2 := Kept.mk k2
      have hr2 := HR.out.quiet k2
      have HR2 := Kept.mk hr2
      have hr3 := (hr2.alloc (.cells (encMs ⟨4, 0, (stAt o.steps k).1, o.id, k, 0, 0⟩).toArray 36)).alloc (.cells (encMs ⟨4, 0, (stAt o.steps k).1, o.id, k, 0, 0⟩).toArray 36)
      have HR3 := Kept.mk hr3
      have r0 := hr3.cell 0 rfl
      have rf := hr3.frozen 0
      unfold encMs at r0 rf
      dsimp only at r0 rf
      clear hw2 k2 hr2 hr3 o0 o1 o2 o3 o4 o5 b1 x0 d0
      gi_wp2
      have hm := World.ownsRow_lit (base := w.heap.size) (e := 36) (size := 7) (w2.alloc (.cells (encMs ⟨4, 0, (stAt o.steps k).1, o.id, k, 0, 0⟩).toArray 36)) (encMs ⟨4, 0, (stAt o.steps k).1, o.id, k, 0, 0⟩).toArray 1 (by have := K0.out.size; have := HK.out.size; have := K2.out.size; rw [World.size_alloc]; omega) (by decide) rfl
      rw [World.size_alloc] at hm
      refine ⟨?_, ((((K0.out.trans HK.out).trans K2.out).alloc _).alloc _).setCell (p := ⟨w.heap.size + 1 + 1, 0, none⟩) (.inl (by show w.heap.size ≤ w.heap.size + 1 + 1; omega)) _, _, HR3.out.set 0 _, rfl, pre, ⟨k, hkl⟩, rfl, hp, HGD.out, ?_⟩
      · rw [← HW2.out]
        exact (((((KeepsOthers.alloc _ _).trans (KeepsOthers.alloc _ _)).trans (KeepsOthers.alloc _ _)).trans (KeepsOthers.alloc _ _)).trans (KeepsOthers.setCell _ _ _)).from _
      · exact ownsRow_keeps hm ((Keeps.refl (fun k => k = w.heap.size + 1 + 1) _).setCell (p := ⟨w.heap.size + 1 + 1, 0, none⟩) (.inr rfl) _) (fun g hg e => by
          simp only [Value.ownBlock, Option.some.injEq] at hg
          have := HR2.out.lt
          omega)
  case done =>
    rintro D ys W hD hys ⟨hK, hO, hB, hR, hp⟩ hKD
    have r0 := hR.cell 0 rfl
    have rf := hR.frozen 0
    have HR := Kept.mk hR
    have HK := Kept.mk hK
    have HU := Kept.mk (hp.all hys)
    have HD := Kept.mk hKD
    clear hO hB hR hK hp hys hKD
    gi_wp2
    have hD2 := (KeepsOthers.setCell W ⟨w.heap.size + 1 + 1, 0, none⟩ (.slice none 0 0)).same D _ HD.out rfl
    have hc5 := cell_kept ((HR.out.set 0 (.slice none 0 0)).cell 0 rfl) (grownBy_putObj' _ D (.deferred none)) (fun r e => by cases e; exact ⟨_, hD2, rfl⟩)
    refine ⟨by simp, .inl ⟨_, _, rfl, run_takeDeferred hD2, ?_⟩⟩
    refine ⟨.slice none 0 0, ?_, ⟨_, rfl, ?_⟩, ?_⟩
    · simp [results, Try.f26, go_sem, hc5]
    · rw [HU.out]
      exact MsOwn.nil _ _
    · exact keepsQ_b _ D _ _ (by omega) hD2 ((K0.out.trans HK.out).setCell (p := ⟨w.heap.size + 1 + 1, 0, none⟩) (.inl (by show w.heap.size ≤ w.heap.size + 1 + 1; omega)) _)
  case stop =>
    rintro D c pre W hD ⟨k, hk, hpre⟩ ⟨hK, v, hR, hc, ini, x, e1, e2, e3, e4⟩ hKD
    subst hc
    subst e1
    have HU := Kept.mk (e2.first hk hpre e3)
    have HR := Kept.mk hR
    have HK := Kept.mk hK
    have HM := Kept.mk e4
    have HD := Kept.mk hKD
    have HE := Kept.mk e3
    clear hK hR e2 e3 e4 hpre hKD
    gi_wp2
    have hc5 := cell_kept (HR.out.cell 0 rfl) (grownBy_putObj' _ D (.deferred none)) (fun r e => by cases e; exact ⟨_, HD.out, rfl⟩)
    refine ⟨by simp, .inl ⟨_, _, rfl, run_takeDeferred HD.out, ?_⟩⟩
    refine ⟨v, ?_, ⟨_, rfl, ?_⟩, ?_⟩
    · simp [results, Try.f26, go_sem, hc5]
    · rw [HU.out]
      exact row_cells HM.out (grownBy_putObj' _ D (.deferred none)) (fun r e => by cases e; exact ⟨_, HD.out, rfl⟩)
    · exact keepsQ_b _ D _ _ (by omega) HD.out HK.out
end Go.Proofs.Ytfcnegnkmacajaa
