/- The program's post beside the page's: their calls, one contract for each. -/
import Derived.Test.YtkacnogjifhcoaaRDouble
import Derived.Test.YtkacnogjifhcoaaRTake
import Derived.Test.YtkacnogjifhcoaaRFew
namespace Go.Proofs.Ytkacnogjifhcoaa
open Go.RowKit
def FvP (p q : Nat) (v : Value) (i : Nat) : Prop := i = p ∨ i = q ∨ v.ownBlock = some i
/-- The program's post at p, as s says; the page's at q, as t says; X is a block of neither. -/
structure Two2 (W : World) (p q X most : Nat) (s t : List Ms × Nat) (v : Value) : Prop where
  post : PostAt W p p most s.2 v s.1
  page : RPostAt W (FvP p q v) q most t.2 t.1
  pq : p < q
  vq : v.ownBlock ≠ some q
  px : p ≠ X
  qx : q ≠ X
  vx : v.ownBlock ≠ some X
  xw : X < W.heap.size
  qw : q < W.heap.size
theorem FvP.lt {W : World} {p q X most : Nat} {s t : List Ms × Nat} {v : Value} (h : Two2 W p q X most s t v) : ∀ i, FvP p q v i → i < W.heap.size := by
  rintro i (rfl | rfl | e)
  · exact h.post.blk.lt
  · exact h.qw
  · exact (h.post.own.lt i e).2
theorem Two2.quiet {W W' : World} {p q X most : Nat} {s t : List Ms × Nat} {v : Value} (h : Two2 W p q X most s t v) (k : Keeps (fun _ => False) W W') : Two2 W' p q X most s t v :=
  ⟨h.post.quiet k, h.page.quiet k, h.pq, h.vq, h.px, h.qx, h.vx, Nat.lt_of_lt_of_le h.xw k.size, Nat.lt_of_lt_of_le h.qw k.size⟩
/-- A new block stands beside them. -/
theorem Two2.call {W : World} {p q X most : Nat} {s t : List Ms × Nat} {v : Value} (h : Two2 W p q X most s t v) (o : Obj) : Two2 (W.alloc o) p q W.heap.size most s t v := by
  have h1 := h.quiet ((Keeps.refl (fun _ => False) W).alloc o)
  have hl := FvP.lt h
  have a := hl p (.inl rfl)
  have b := hl q (.inr (.inl rfl))
  exact ⟨h1.post, h1.page, h.pq, h.vq, by omega, by omega, fun e => by have := hl _ (.inr (.inr e)); omega, by simp, h1.qw⟩
/-- What turns: neither X nor what lies before the post. -/
def TurnsP (p X k : Nat) : Prop := p ≤ k ∧ k ≠ X
theorem Two2.mine {W W' : World} {p q X most : Nat} {s t s' : List Ms × Nat} {v v' : Value} (h : Two2 W p q X most s t v) (hP : PostAt W' p p most s'.2 v' s'.1) (k : Keeps (fun k => k = p ∨ v.ownBlock = some k) W W') (hn : NewRow W v v') :
    Two2 W' p q X most s' t v' ∧ Keeps (TurnsP p X) W W' := by
  have hq := h.pq
  refine ⟨⟨hP, h.page.keeps k (fun e => e.elim (fun e => by omega) (fun e => h.vq e)) (fun i _ e => e.elim (fun e => .inl e) (fun e => .inr (.inr e))) (fun i hi e => ?_), hq, fun e => ?_, h.px, h.qx, fun e => ?_, Nat.lt_of_lt_of_le h.xw k.size, Nat.lt_of_lt_of_le h.qw k.size⟩, k.mono (fun i _ e => ?_)⟩
  · rcases e with e | e | e
    · exact .inl e
    · exact .inr (.inl e)
    · rcases hn i e with h1 | h1
      · exact .inr (.inr h1)
      · omega
  · rcases hn q e with h1 | h1
    · exact h.vq h1
    · have := h.qw; omega
  · rcases hn X e with h1 | h1
    · exact h.vx h1
    · have := h.xw; omega
  · rcases e with rfl | e
    · exact ⟨Nat.le_refl _, h.px⟩
    · exact ⟨(h.post.own.lt i e).1, fun e2 => h.vx (e2 ▸ e)⟩
theorem Two2.page' {W W' : World} {p q X most : Nat} {s t t' : List Ms × Nat} {v : Value} (h : Two2 W p q X most s t v) (hP : RPostAt W' (FvP p q v) q most t'.2 t'.1) (k : Keeps (fun k => k = q) W W') :
    Two2 W' p q X most s t' v ∧ Keeps (fun k => k = q) W W' := by
  have hq := h.pq
  refine ⟨⟨h.post.keeps k (by omega) (fun g hg e => h.vq (e ▸ hg)), hP, hq, h.vq, h.px, h.qx, h.vx, Nat.lt_of_lt_of_le h.xw k.size, Nat.lt_of_lt_of_le h.qw k.size⟩, k⟩
/-- The message at a place, where there is one. -/
def inL (L : List Ms) (x : Int) : Option Ms := if 0 ≤ x then L[x.toNat]? else none
theorem inL_some {L : List Ms} {x : Int} {m : Ms} (h : inL L x = some m) : ∃ i : Nat, x = i ∧ L[i]? = some m := by
  unfold inL at h
  split at h
  · exact ⟨x.toNat, by omega, h⟩
  · cases h
theorem inL_none {L : List Ms} {x : Int} (h : inL L x = none) : x < 0 ∨ (L.length : Int) ≤ x := by
  unfold inL at h
  split at h
  · right
    have := List.getElem?_eq_none_iff.1 h
    omega
  · left; omega
def zeroMs : Ms := ⟨0, 0, 0, 0, 0, 0, 0⟩
def tkM (L : List Ms) (x : Int) : Ms := (inL L x).getD zeroMs
def tkS (s : List Ms × Nat) (x : Int) : List Ms × Nat := if (inL s.1 x).isSome then (s.1.eraseIdx x.toNat, s.2) else s
def dbS (most : Nat) (s : List Ms × Nat) (x : Int) : List Ms × Nat := match inL s.1 x with | some m => put1 most s m | none => s
theorem put_zero (p c : Nat) (b : Option Addr) (w : World) : Calls Try.prog 25 #[.pointer (some ⟨p, 0, none⟩), .slice b 0 c] w (fun e w' => (∃ v, e = .returned v) ∧ w = w') := by
  go_enter Try.func25, Try.ntmps25
  go_wp2_with fail
  go_loopw [10] (fun i wr => i = .int .i64 0 ∧ w = wr) (fun _ _ => 0)
  case atStart => exact ⟨rfl, rfl⟩
  case round =>
    obtain ⟨rfl, rfl⟩ := hrel
    go_wp2_with fail
    go_end0
    exact ⟨⟨_, rfl⟩, rfl⟩
theorem rput_zero (p c : Nat) (b : Option Addr) (w : World) : Calls Try.prog 34 #[.pointer (some ⟨p, 0, none⟩), .slice b 0 c] w (fun e w' => (∃ v, e = .returned v) ∧ w = w') := by
  go_enter Try.func34, Try.ntmps34
  go_wp2_with fail
  go_loopw [8] (fun i wr => i = .int .i64 0 ∧ w = wr) (fun _ _ => 0)
  case atStart => exact ⟨rfl, rfl⟩
  case round =>
    obtain ⟨rfl, rfl⟩ := hrel
    go_wp2_with fail
    go_end0
    exact ⟨⟨_, rfl⟩, rfl⟩
theorem t_put (p q X most : Nat) (s t : List Ms × Nat) (v : Value) (M : List Ms) (b : Option Addr) (n c : Nat) (w : World) (h : Two2 w p q X most s t v) (hM : MsRow w b M) (hn : M.length = n) (hm : n ≤ 100000) (hb : M ≠ [] → ∀ x, b = some x → x.block < p) :
    Calls Try.prog 25 #[.pointer (some ⟨p, 0, none⟩), .slice b n c] w (fun e w' => (∃ r, e = .returned r) ∧ ∃ v', Two2 w' p q X most (M.foldl (put1 most) s) t v' ∧ Keeps (TurnsP p X) w w') := by
  by_cases h0 : M = []
  · subst h0
    subst hn
    refine (put_zero p c b w).mono ?_
    rintro e _ ⟨h1, rfl⟩
    exact ⟨h1, v, h, Keeps.refl _ _⟩
  · refine (put_to p p most s.2 v s.1 M b n c w h.post hM hn hm (fun x hx => ?_) (Nat.le_of_lt h.post.blk.lt)).mono ?_
    · have := hb h0 x hx
      exact ⟨by omega, fun e => by have := (h.post.own.lt _ e).1; omega⟩
    · rintro e w' ⟨h1, v', hP, k, hn⟩
      exact ⟨h1, v', h.mine hP k hn⟩
theorem t_rput (p q X most : Nat) (s t : List Ms × Nat) (v : Value) (M : List Ms) (b : Option Addr) (n c : Nat) (w : World) (h : Two2 w p q X most s t v) (hM : MsRow w b M) (hn : M.length = n) (hm : n ≤ 100000) (hb : M ≠ [] → ∀ x, b = some x → x.block < p) :
    Calls Try.prog 34 #[.pointer (some ⟨q, 0, none⟩), .slice b n c] w (fun e w' => (∃ r, e = .returned r) ∧ Two2 w' p q X most s (M.foldl (put1 most) t) v ∧ Keeps (fun k => k = q) w w') := by
  by_cases h0 : M = []
  · subst h0
    subst hn
    refine (rput_zero q c b w).mono ?_
    rintro e _ ⟨h1, rfl⟩
    exact ⟨h1, h, Keeps.refl _ _⟩
  · refine (rput_to (FvP p q v) q most t.2 t.1 M b n c w h.page (.inr (.inl rfl)) (FvP.lt h) hM hn hm (fun x hx => ?_)).mono ?_
    · have := hb h0 x hx
      have := h.pq
      omega
    · rintro e w' ⟨h1, hP, k⟩
      exact ⟨h1, h.page' hP k⟩
theorem t_take (p q X most : Nat) (s t : List Ms × Nat) (v : Value) (x : Int) (w : World) (h : Two2 w p q X most s t v) :
    Calls Try.prog 28 #[.pointer (some ⟨p, 0, none⟩), .int .i64 x] w (fun e w' => e = .returned (.tuple #[.agg (encMs (tkM s.1 x)).toArray, .bool (inL s.1 x).isSome]) ∧ ∃ v', Two2 w' p q X most (tkS s x) t v' ∧ Keeps (TurnsP p X) w w') := by
  cases hx : inL s.1 x with
  | none =>
    refine (take_no p p most s.2 v s.1 x w h.post (inL_none hx)).mono ?_
    rintro e w' ⟨rfl, k⟩
    refine ⟨by unfold tkM; rw [hx]; rfl, v, ?_, k.mono (fun _ _ h => h.elim)⟩
    unfold tkS
    rw [hx]
    exact h.quiet k
  | some m =>
    obtain ⟨i, rfl, hi⟩ := inL_some hx
    refine (take_to p p most s.2 i v s.1 m i w h.post rfl hi).mono ?_
    rintro e w' ⟨rfl, v', hP, k, hn⟩
    have h1 := h.mine (s' := (s.1.eraseIdx i, s.2)) hP k (fun g hg => .inl (hn g hg))
    refine ⟨by unfold tkM; rw [hx]; rfl, v', ?_, h1.2⟩
    unfold tkS
    rw [hx]
    exact h1.1
theorem t_rtake (p q X most : Nat) (s t : List Ms × Nat) (v : Value) (x : Int) (w : World) (h : Two2 w p q X most s t v) :
    Calls Try.prog 35 #[.pointer (some ⟨q, 0, none⟩), .int .i64 x] w (fun e w' => e = .returned (.tuple #[.agg (encMs (tkM t.1 x)).toArray, .bool (inL t.1 x).isSome]) ∧ Two2 w' p q X most s (tkS t x) v ∧ Keeps (fun k => k = q) w w') := by
  cases hx : inL t.1 x with
  | none =>
    refine (rtake_no (FvP p q v) q most t.2 t.1 x w h.page (inL_none hx)).mono ?_
    rintro e w' ⟨rfl, k⟩
    refine ⟨by unfold tkM; rw [hx]; rfl, ?_, k.mono (fun _ _ h => h.elim)⟩
    unfold tkS
    rw [hx]
    exact h.quiet k
  | some m =>
    obtain ⟨i, rfl, hi⟩ := inL_some hx
    refine (rtake_to (FvP p q v) q most t.2 i t.1 m i w h.page (.inr (.inl rfl)) (FvP.lt h) rfl hi).mono ?_
    rintro e w' ⟨rfl, hP, k⟩
    have h1 := h.page' (t' := (t.1.eraseIdx i, t.2)) hP k
    refine ⟨by unfold tkM; rw [hx]; rfl, ?_, h1.2⟩
    unfold tkS
    rw [hx]
    exact h1.1
theorem t_double (p q X most : Nat) (s t : List Ms × Nat) (v : Value) (x : Int) (w : World) (h : Two2 w p q X most s t v) :
    Calls Try.prog 26 #[.pointer (some ⟨p, 0, none⟩), .int .i64 x] w (fun e w' => e = .returned (.bool (inL s.1 x).isSome) ∧ ∃ v', Two2 w' p q X most (dbS most s x) t v' ∧ Keeps (TurnsP p X) w w') := by
  cases hx : inL s.1 x with
  | none =>
    refine (double_no p p most s.2 v s.1 x w h.post (inL_none hx)).mono ?_
    rintro e w' ⟨rfl, rfl⟩
    refine ⟨rfl, v, ?_, Keeps.refl _ _⟩
    unfold dbS
    rw [hx]
    exact h
  | some m =>
    obtain ⟨i, rfl, hi⟩ := inL_some hx
    refine (double_to p p most s.2 i v s.1 m i w h.post rfl hi (Nat.le_of_lt h.post.blk.lt)).mono ?_
    rintro e w' ⟨rfl, v', hP, k, hn⟩
    have h1 := h.mine hP k hn
    refine ⟨rfl, v', ?_, h1.2⟩
    unfold dbS
    rw [hx]
    exact h1.1
theorem t_rdouble (p q X most : Nat) (s t : List Ms × Nat) (v : Value) (x : Int) (w : World) (h : Two2 w p q X most s t v) :
    Calls Try.prog 36 #[.pointer (some ⟨q, 0, none⟩), .int .i64 x] w (fun e w' => e = .returned (.bool (inL t.1 x).isSome) ∧ Two2 w' p q X most s (dbS most t x) v ∧ Keeps (fun k => k = q) w w') := by
  cases hx : inL t.1 x with
  | none =>
    refine (rdouble_no (FvP p q v) q most t.2 t.1 x w h.page (inL_none hx)).mono ?_
    rintro e w' ⟨rfl, rfl⟩
    refine ⟨rfl, ?_, Keeps.refl _ _⟩
    unfold dbS
    rw [hx]
    exact h
  | some m =>
    obtain ⟨i, rfl, hi⟩ := inL_some hx
    refine (rdouble_to (FvP p q v) q most t.2 i t.1 m i w h.page (.inr (.inl rfl)) (FvP.lt h) rfl hi).mono ?_
    rintro e w' ⟨rfl, hP, k⟩
    have h1 := h.page' hP k
    refine ⟨rfl, ?_, h1.2⟩
    unfold dbS
    rw [hx]
    exact h1.1
end Go.Proofs.Ytkacnogjifhcoaa
