/- A range over a function whose iterator holds a range over a function itself; the body always goes on. Nothing here speaks of the program. -/
import Derived.Test.YtjlfkpimjjnolaaFence
namespace Go.Proofs.Ytjlfkpimjjnolaa
open Go.RowKit Go.Shelf
variable {F : Fence} {n : Nat} {P : Program}
/-- The iterator hands its elements to whatever body that always goes on. It may lay records of its own: what the body needs abides those. -/
def SeqGoes {α : Type} (F : Fence) (n : Nat) (P : Program) (g : Nat) (lb : Array Value) (encs : α → Array Value) (Kp : World → World → Prop) (S : List α → Prop) (N : Nat) (w : World) : Prop :=
  ∀ (l : Nat) (J : List α → World → Prop) (W : World), Below w.heap.size w W → OwnFrom W.heap.size J →
    (∀ pre x W1, J pre W1 → pre.length < N → YieldAt F (n - 1) P l (encs x) W1 fun e W' => e = .returned (.bool true) ∧ J (pre ++ [x]) W' ∧ Kp W1 W' ∧ KeepsFrom W.heap.size W1 W') →
    J [] W →
    CallsIn F n P g (#[.func (.yield l) #[] #[]] ++ lb) W fun e W' => (∃ v, e = .returned v) ∧ ∃ xs, S xs ∧ J xs W'
/-- The loop's record. -/
def wayRec (fn : FuncId) (a : Act) (ps : Array Tmp) (assign body : Code) (D : Nat) (st : LoopState) : Loop := { state := st, pending := none, fn, tmps := a.tmps, params := ps, assign, body, defers := D }
theorem keepsFrom_up {B B' : Nat} {W W' : World} (h : KeepsFrom B W W') (hb : B ≤ B') : KeepsFrom B' W W' := ⟨h.size, fun k o hk => h.same k o (Nat.le_trans hb hk)⟩
theorem ownFrom_up {β : Type} {B B' : Nat} {I : β → World → Prop} (h : OwnFrom B I) (hb : B ≤ B') : OwnFrom B' I := fun s X Y row hs hg hr => h s X Y row hs hg (fun r e => ⟨Nat.le_trans hb (hr r e).1, (hr r e).2⟩)
theorem ownFrom_obj {β : Type} {B k : Nat} (o : Obj) (hk : k < B) : OwnFrom B (fun (_ : β) W => W.heap[k]? = some o) := fun s X Y row hs hg hr =>
  (hg.block k (Array.getElem?_eq_some_iff.1 hs).1 (fun e => by have := (hr k e.symm).1; omega)).trans hs
theorem range_goes {α : Type} {g : Operand} {ps : Array Tmp} {assign body : Code} {Q : Exit → Act → World → Prop} {a : Act} {w : World}
    (hro : F.round = none) (h1 : 1 ≤ n) {gf : Nat} {lb : Array Value} (hg : a.eval g = .func (.func gf) #[] lb) (hFg : F.fn gf) (eg : ∀ args w, (callFunc gf args).run P w = .ok (.enter gf args) w)
    {encs : α → Array Value} {Kp : World → World → Prop} {S : List α → Prop} {N : Nat} (hseq : SeqGoes F (n - 1) P gf lb encs Kp S N w)
    (hKt : ∀ {A B C : World}, Kp A B → Kp B C → Kp A C) (hKb : ∀ (W : World) (l : Nat) (o o' : Obj), w.heap.size ≤ l → W.heap[l]? = some o → o.isCells = false → Kp W (W.putObj l o')) (hps : ∀ x, (encs x).size = ps.size)
    (I : List α → World → Prop) (hI : OwnFrom w.heap.size I) (h0 : I [] w) (Ax : α → Act → World → Prop) (hAx : ∀ x a', OwnFrom w.heap.size (fun (_ : Unit) W => Ax x a' W))
    (hassign : ∀ (l : Nat) (pre : List α) (x : α) (W : World) (K : Act → World → Prop), I pre W → (∀ a' W', KeepsFrom w.heap.size W W' → Kp W W' → I pre W' → Ax x a' W' → K a' W') →
      assign.wpIn (F.inRound l) (n - 1 - 1) P (Exit.then K (fun _ _ _ => False)) { tmps := (ps.zip (encs x)).foldl (fun t (p, v) => t.setIfInBounds p v) a.tmps, defers := [] } W)
    (hbody : ∀ (l : Nat) (pre : List α) (x : α) (a' : Act) (W : World), w.heap.size ≤ l → I pre W → Ax x a' W → pre.length < N → body.wpIn (F.inRound l) (n - 1 - 1) P (ownPostG w.heap.size Kp I (fun _ _ _ => False) (pre ++ [x]) W) a' W)
    (hdone : ∀ (D : Nat) (xs : List α) (W : World), w.heap.size ≤ D → S xs → I xs W → W.heap[D]? = some (.deferred (some [])) → Q .normal { a with defers := { target := .collected D, args := #[] } :: a.defers } W) :
    (Code.rangeFunc g ps assign body).wpIn F n P Q a w := by
  apply wpIn_rangeFunc
  intro fn hfn
  obtain ⟨W1, hW1⟩ : ∃ W1, (w.alloc (.deferred (some []))).alloc (.loop (wayRec fn a ps assign body w.heap.size .ready)) = W1 := ⟨_, rfl⟩
  have hsz : W1.heap.size = w.heap.size + 2 := by rw [← hW1]; simp
  have hl1 : W1.heap[w.heap.size + 1]? = some (.loop (wayRec fn a ps assign body w.heap.size .ready)) := by
    rw [← hW1]
    have h := World.alloc_heap_new (w.alloc (.deferred (some []))) (.loop (wayRec fn a ps assign body w.heap.size .ready))
    rwa [World.size_alloc] at h
  have hd1 : W1.heap[w.heap.size]? = some (.deferred (some [])) := by
    rw [← hW1]
    exact (Below.heap_alloc _ _ _ (by simp)).trans (World.alloc_heap_new w _)
  have hi1 : I [] W1 := by rw [← hW1]; exact hI.alloc _ (hI.alloc _ h0)
  have hb1 : Below w.heap.size w W1 := by
    rw [← hW1]
    exact ((Below.refl _ w).alloc (Nat.le_refl _) _).alloc (by simp) _
  refine ⟨w.heap.size + 1, [{ target := .collected w.heap.size, args := #[] }], W1, { target := .fn (.func gf) lb, args := #[.func (.yield (w.heap.size + 1)) #[] #[]] }, W1, gf, #[.func (.yield (w.heap.size + 1)) #[] #[]] ++ lb, W1, ?_, ?_, ?_, ?_, fun _ => h1, ?_⟩
  · rw [hro, ← hW1]
    exact run_enterLoop_outer _ _ _ _ _
  · simp only [resolve, hg]
    simp [go_sem]
  · intro f' hf'
    simp [Target.leads] at hf'
    subst hf'
    exact hFg
  · simp [invoke, go_sem, eg]
  refine (hseq (w.heap.size + 1) (fun pre W => I pre W ∧ W.heap[w.heap.size + 1]? = some (.loop (wayRec fn a ps assign body w.heap.size .ready)) ∧ W.heap[w.heap.size]? = some (.deferred (some []))) W1 hb1
    (OwnFrom.and (ownFrom_up hI (by omega)) (OwnFrom.and (ownFrom_obj _ (by omega)) (ownFrom_obj _ (by omega)))) ?_ ⟨hi1, hl1, hd1⟩).mono ?_
  · rintro pre x W ⟨hi, hl, hd⟩ hlen
    refine ⟨fn, _, assign, body, run_yield hl (hps x), roundIn_of_wpIn hfn (hassign _ pre x W _ hi ?_)⟩
    intro a' Wa kfa kpa hia hax
    have hla := kfa.same _ _ (by omega) hl rfl
    have hda := kfa.same _ _ (Nat.le_refl _) hd rfl
    have hlt := (Array.getElem?_eq_some_iff.1 hla).1
    refine ⟨_, run_beginRound hla rfl, ?_⟩
    obtain ⟨Wb, hWb⟩ : ∃ Wb, Wa.putObj (w.heap.size + 1) (.loop (wayRec fn a ps assign body w.heap.size .busy)) = Wb := ⟨_, rfl⟩
    have hlb : Wb.heap[w.heap.size + 1]? = some (.loop (wayRec fn a ps assign body w.heap.size .busy)) := by rw [← hWb]; exact World.putObj_heap_same hlt
    have hdb : Wb.heap[w.heap.size]? = some (.deferred (some [])) := by rw [← hWb]; exact (World.putObj_heap_other (by omega)).trans hda
    have kpb : Kp Wa Wb := by rw [← hWb]; exact hKb _ _ _ _ (by omega) hla rfl
    have kfb : KeepsFrom W1.heap.size Wa Wb := by rw [← hWb]; exact KeepsFrom.of_grownBy (grownBy_putObj' _ _ _) (fun j e => by cases e; omega)
    have hib : I pre Wb := by rw [← hWb]; exact hI.putObj _ hia (by omega) hla rfl
    have haxb : Ax x a' Wb := by rw [← hWb]; exact (hAx x a').putObj (s := ()) _ hax (by omega) hla rfl
    show body.wpIn _ _ _ _ _ (Wa.putObj (w.heap.size + 1) (.loop (wayRec fn a ps assign body w.heap.size .busy)))
    rw [hWb]
    refine wpIn_mono (hbody _ pre x a' Wb (by omega) hib haxb hlen) ?_
    rintro e a3 W3 hp
    cases e with
    | normal =>
      obtain ⟨kf3, kp3, hi3⟩ := hp
      have hl3 := kf3.same _ _ (by omega) hlb rfl
      have hd3 := kf3.same _ _ (Nat.le_refl _) hdb rfl
      have hlt3 := (Array.getElem?_eq_some_iff.1 hl3).1
      refine ⟨_, _, run_endRound none hl3, rfl, ⟨hI.putObj _ hi3 (by omega) hl3 rfl, World.putObj_heap_same hlt3, (World.putObj_heap_other (by omega)).trans hd3⟩, hKt kpa (hKt kpb (hKt kp3 (hKb _ _ _ _ (by omega) hl3 rfl))), ?_⟩
      exact (((keepsFrom_up kfa (by omega)).trans kfb).trans (keepsFrom_up kf3 (by omega))).trans (KeepsFrom.of_grownBy (grownBy_putObj' _ _ _) (fun j e => by cases e; omega))
    | ret => exact hp.2.elim
    | exit id => exact hp.2.elim
    | goto t => exact hp.2.elim
    | panic ch => exact hp.elim
    | outgrown => exact hp.elim
  · rintro e W2 ⟨⟨v, rfl⟩, xs, hS, hi, hl, hd⟩
    exact ⟨none, _, run_endLoop hl (by simp [wayRec]), hdone _ xs _ (Nat.le_refl _) hS (hI.putObj _ hi (by omega) hl rfl) ((World.putObj_heap_other (by omega)).trans hd)⟩
theorem yield_any {m m' l l' : Nat} {args : Array Value} {W : World} {R : Ending → World → Prop} (h : YieldAt Fence.wide m P l args W R) : YieldAt (Fence.wide.inRound l') m' P l args W R := by
  obtain ⟨fn, tmps, assign, body, hy, hR⟩ := h
  exact ⟨fn, tmps, assign, body, hy, hR.1, fun c cs _ => hR.2 c cs (fun d h => by cases h)⟩
theorem yield_any0 {m m' l : Nat} {args : Array Value} {W : World} {R : Ending → World → Prop} (h : YieldAt Fence.wide m P l args W R) : YieldAt Fence.wide m' P l args W R := by
  obtain ⟨fn, tmps, assign, body, hy, hR⟩ := h
  exact ⟨fn, tmps, assign, body, hy, hR.1, fun c cs _ => hR.2 c cs (fun d h => by cases h)⟩
/-- Old blocks lie as they lay, and so do cells of other types than two. -/
def KeepsT (w0 : Nat) (t1 t2 : TypeId) (W W' : World) : Prop := Keeps (fun k => w0 ≤ k ∧ ¬ ∃ cs T fz, W.heap[k]? = some (.cells cs T fz) ∧ T ≠ t1 ∧ T ≠ t2) W W'
theorem KeepsT.trans {w0 : Nat} {t1 t2 : TypeId} {A B C : World} (h : KeepsT w0 t1 t2 A B) (k : KeepsT w0 t1 t2 B C) : KeepsT w0 t1 t2 A C :=
  Keeps.then (S := fun k => w0 ≤ k ∧ ¬ ∃ cs T fz, A.heap[k]? = some (.cells cs T fz) ∧ T ≠ t1 ∧ T ≠ t2) h k (fun i hi ⟨h1, h2⟩ => ⟨h1, fun ⟨cs, T, fz, h3, h4⟩ => h2 ⟨cs, T, fz, (h.block i hi (fun h5 => h5.2 ⟨cs, T, fz, h3, h4⟩)).trans h3, h4⟩⟩)
theorem KeepsT.putObj {w0 : Nat} {t1 t2 : TypeId} {W : World} {l : Nat} {o : Obj} (o' : Obj) (hl : w0 ≤ l) (h : W.heap[l]? = some o) (hc : o.isCells = false) : KeepsT w0 t1 t2 W (W.putObj l o') :=
  (Keeps.of_grown (grownBy_putObj' W l o')).mono (fun k _ e => by
    cases e
    refine ⟨hl, fun ⟨cs, T, fz, h3, _⟩ => ?_⟩
    rw [h] at h3
    cases h3
    cases hc)
theorem KeepsT.blk {w0 : Nat} {t1 t2 : TypeId} {W W' : World} {b : Nat} {T : TypeId} {vs : List Value} (k : KeepsT w0 t1 t2 W W') (h : Blk W b T vs) (h1 : T ≠ t1) (h2 : T ≠ t2) : Blk W' b T vs :=
  h.keeps (S := fun k => w0 ≤ k ∧ ¬ ∃ cs T fz, W.heap[k]? = some (.cells cs T fz) ∧ T ≠ t1 ∧ T ≠ t2) k (fun h3 => h3.2 ⟨_, _, _, h, h1, h2⟩)
theorem KeepsT.refl (w0 : Nat) (t1 t2 : TypeId) (W : World) : KeepsT w0 t1 t2 W W := Keeps.refl _ W
theorem KeepsT.quiet {w0 : Nat} {t1 t2 : TypeId} {A B : World} (k : Keeps (fun _ => False) A B) : KeepsT w0 t1 t2 A B := k.mono (fun _ _ h => h.elim)
end Go.Proofs.Ytjlfkpimjjnolaa
