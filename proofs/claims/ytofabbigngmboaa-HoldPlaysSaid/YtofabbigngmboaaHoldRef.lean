/- The reference's book of what is held (a row of a thousand), walked. -/
import Derived.Test.YtofabbigngmboaaBookIds
import Derived.Test.YtofabbigngmboaaHoldSums
import Derived.Deep.CutBlock
import Derived.Deep.MidRow
namespace Go.Proofs.Ytofabbigngmboaa
open Go.RowKit
def rowI (B : Nat → Int) : List Value := (List.range 1000).map fun i => .int .i64 (B i)
theorem rowI_at (B : Nat → Int) {k : Nat} (hk : k < 1000) : (rowI B)[k]? = some (.int .i64 (B k)) := by
  unfold rowI
  rw [List.getElem?_map, List.getElem?_range hk]; rfl
theorem rowI_len (B : Nat → Int) : (rowI B).length = 1000 := by simp [rowI]
def upd (B : Nat → Int) (k : Nat) (v : Int) : Nat → Int := fun i => if i = k then v else B i
theorem rowI_set (B : Nat → Int) (k : Nat) (v : Int) : (rowI B).set k (.int .i64 v) = rowI (upd B k v) := by
  unfold rowI upd
  apply List.ext_getElem?
  intro i
  rw [List.getElem?_set]
  by_cases hi : i < 1000
  · rw [List.getElem?_map, List.getElem?_map, List.getElem?_range hi]
    by_cases h : k = i
    · subst h; simp [hi]
    · simp [h, Ne.symm h]
  · by_cases h : k = i
    · subst h; simp [hi]
    · simp [h, hi]
/-- The reference's book: what is left; how much order i holds. -/
def HR (w : World) (q : Nat) (n : Int) (B : Nat → Int) : Prop := Blk w q 45 (.int .i64 n :: rowI B)
theorem HR.at0 {w : World} {q : Nat} {n : Int} {B : Nat → Int} (h : HR w q n B) : w.cell? ⟨q, 0, none⟩ = some (.int .i64 n) := h.cell 0 rfl
theorem HR.cell {w : World} {q : Nat} {n : Int} {B : Nat → Int} (h : HR w q n B) {k : Nat} (hk : k < 1000) : w.cell? ⟨q, 1 + k, none⟩ = some (.int .i64 (B k)) := by
  rw [Nat.add_comm]
  exact Blk.cell h (k + 1) (by rw [List.getElem?_cons_succ]; exact rowI_at B hk)
theorem HR.set {w : World} {q : Nat} {n : Int} {B : Nat → Int} (h : HR w q n B) (k : Nat) (v : Int) : HR (w.setCell ⟨q, 1 + k, none⟩ (.int .i64 v)) q n (upd B k v) := by
  have := Blk.set h (k + 1) (.int .i64 v)
  rw [List.set_cons_succ, rowI_set] at this
  rw [Nat.add_comm]
  exact this
theorem HR.set0 {w : World} {q : Nat} {n : Int} {B : Nat → Int} (h : HR w q n B) (v : Int) : HR (w.setCell ⟨q, 0, none⟩ (.int .i64 v)) q v B := Blk.set h 0 (.int .i64 v)
theorem HR.keeps {w w' : World} {q : Nat} {n : Int} {B : Nat → Int} (h : HR w q n B) {S : Nat → Prop} (k : Keeps S w w') (hs : ¬ S q) : HR w' q n B := Blk.keeps h k hs
theorem HR.drewN {w : World} {q : Nat} {n : Int} {B : Nat → Int} (h : HR w q n B) (d : Nat) : HR (w.drewN d) q n B := h
theorem zeroHold (x : Int) (w : World) : HR (w.alloc (.cells (Try.zeroCells45.setIfInBounds 0 (.int .i64 x)) 45)) w.heap.size x (fun _ => 0) := by
  have e0 : Try.zeroCells45 = (.int .i64 0 :: rowI (fun _ => 0)).toArray := by kernel_rfl
  rw [e0]
  have e1 : ((Value.int .i64 0 :: rowI (fun _ => 0)).toArray.setIfInBounds 0 (.int .i64 x)) = (.int .i64 x :: rowI (fun _ => 0)).toArray := by simp
  rw [e1]
  exact Blk.new w 45 _
theorem clamp_to (n X : Int) (w : World) (hX : max 0 (min n 1000000000) = X) : Calls Try.prog 43 #[.int .i64 n] w (Says w (.int .i64 X)) := by
  have fin : ∀ x : Int, max 0 (min n 1000000000) = x → (.returned (.int .i64 x) : Ending) = .returned (.int .i64 X) := fun x hx => by rw [← hX, hx]
  have Hfin := Kept.mk fin
  clear fin hX
  go_enter Try.func43, Try.ntmps43
  go_wp2
  all_goals
    go_ret
    exact ⟨Hfin.out _ (by omega), rfl⟩
theorem newHold_to (n X : Int) (q : Nat) (w : World) (hX : max 0 (min n 1000000000) = X) (hq : w.heap.size = q) : Calls Try.prog 21 #[.int .i64 n] w (Rets w (fun _ => False) (.pointer (some ⟨q, 0, none⟩)) fun w' => HR w' q X (fun _ => 0) ∧ w'.heap.size = q + 1) := by
  subst hq
  have HX := Kept.mk hX
  clear hX
  go_enter Try.func21, Try.ntmps21
  go_wp2_with fail
  refine (clamp_to _ _ _ HX.out).mono ?_
  rintro e _ ⟨rfl, rfl⟩
  go_wp2_with fail
  go_ret
  exact ⟨rfl, ⟨zeroHold X w, by simp⟩, (Keeps.refl _ w).alloc _⟩
def idB (x : Int) : Bool := decide (1 ≤ x) && decide (x ≤ 999)
theorem rid_to (x : Int) (r : Bool) (w : World) (hr : idB x = r) : Calls Try.prog 44 #[.int .i64 x] w (Says w (.bool r)) := by
  subst hr
  by_cases h0 : 1 ≤ x
  · have e : Kept (idB x = decide (x ≤ 999)) := ⟨by simp [idB, h0]⟩
    go_enter Try.func44, Try.ntmps44
    go_wp2
    go_ret
    exact ⟨by rw [e.out]; rfl, rfl⟩
  · have e : Kept (idB x = false) := ⟨by simp [idB, h0]⟩
    go_enter Try.func44, Try.ntmps44
    go_wp2
    go_ret
    exact ⟨by rw [e.out]; rfl, rfl⟩
theorem idB_no {x : Int} (h : ¬ (1 ≤ x ∧ x ≤ 999)) : idB x = false := by
  cases e : idB x with
  | false => rfl
  | true => exact absurd (by simpa [idB] using e) h
theorem idB_yes {x : Int} (h : 1 ≤ x ∧ x ≤ 999) : idB x = true := by simp [idB, h.1, h.2]
def abB (x : Int) : Bool := decide (1 ≤ x) && decide (x ≤ 1000000000)
theorem rabove_to (x : Int) (r : Bool) (w : World) (hr : abB x = r) : Calls Try.prog 45 #[.int .i64 x] w (Says w (.bool r)) := by
  subst hr
  by_cases h0 : 1 ≤ x
  · have e : Kept (abB x = decide (x ≤ 1000000000)) := ⟨by simp [abB, h0]⟩
    go_enter Try.func45, Try.ntmps45
    go_wp2
    go_ret
    exact ⟨by rw [e.out]; rfl, rfl⟩
  · have e : Kept (abB x = false) := ⟨by simp [abB, h0]⟩
    go_enter Try.func45, Try.ntmps45
    go_wp2
    go_ret
    exact ⟨by rw [e.out]; rfl, rfl⟩
/-- The page's book and the book hold the same. -/
structure AgH (s : Hd) (B : Nat → Int) : Prop where
  get : ∀ k : Nat, B k = (MP.get s.L k).getD 0
theorem AgH.at {s : Hd} {B : Nat → Int} (h : AgH s B) {x : Int} (hx : 1 ≤ x) : B x.toNat = s.at x := by
  have := h.get x.toNat
  rw [show ((x.toNat : Nat) : Int) = x by omega] at this
  exact this
theorem AgH.put {s : Hd} {B : Nat → Int} (h : AgH s B) {x : Int} (hx : 1 ≤ x) (l v : Int) : AgH ⟨l, MP.put s.L x v⟩ (upd B x.toNat v) := by
  refine ⟨fun k => ?_⟩
  rw [MP.get_put]
  unfold upd
  by_cases hk : k = x.toNat
  · rw [if_pos hk, if_pos (by omega)]; rfl
  · rw [if_neg hk, if_neg (by omega)]; exact h.get k
theorem AgH.del {s : Hd} {B : Nat → Int} (h : AgH s B) (ok : s.Ok) {x : Int} (hx : 1 ≤ x) (l : Int) : AgH ⟨l, MP.del s.L x⟩ (upd B x.toNat 0) := by
  refine ⟨fun k => ?_⟩
  rw [MP.get_del _ _ ok.nodup]
  unfold upd
  by_cases hk : k = x.toNat
  · rw [if_pos hk, if_pos (by omega)]; rfl
  · rw [if_neg hk, if_neg (by omega)]; exact h.get k
theorem Hd.Ok.keys {s : Hd} (ok : s.Ok) {x : Int} (h : s.at x ≠ 0) : 1 ≤ x ∧ x ≤ 999 ∧ 1 ≤ s.at x ∧ s.at x ≤ 1000000000 := by
  unfold Hd.at at h ⊢
  cases hg : MP.get s.L x with
  | none => rw [hg] at h; exact absurd rfl h
  | some v => exact ok.vals x v hg
def HRTo (w : World) (q : Nat) (s' : Hd) (v : Value) (e : Ending) (w' : World) : Prop := ∃ B', AgH s' B' ∧ Rets w (· = q) v (fun w' => HR w' q s'.l B' ∧ w'.heap.size = w.heap.size) e w'
theorem hrTo_same {w : World} {q : Nat} {s : Hd} {B : Nat → Int} (h : HR w q s.l B) (ag : AgH s B) (v : Value) : HRTo w q s v (.returned v) w := ⟨B, ag, rfl, ⟨h, rfl⟩, Keeps.refl _ _⟩
set_option maxRecDepth 100000 in
set_option maxHeartbeats 4000000 in
theorem rback_to (q : Nat) (s s' : Hd) (B : Nat → Int) (x r : Int) (w : World) (h : HR w q s.l B) (ag : AgH s B) (ok : s.Ok) (hs : s.back x = (r, s')) : Calls Try.prog 22 #[.pointer (some ⟨q, 0, none⟩), .int .i64 x] w (HRTo w q s' (.int .i64 r)) := by
  have H := Kept.mk h
  have AG := Kept.mk ag
  by_cases hx : 1 ≤ x ∧ x ≤ 999
  · have hat := ag.at hx.1
    have hi := Kept.mk (idB_yes hx)
    obtain ⟨k, rfl⟩ : ∃ k : Nat, x = k := ⟨x.toNat, by omega⟩
    have hk : k < 1000 := by omega
    have hk' : (k : Int) < 1000 := by omega
    have hk0 : (0 : Int) ≤ k := by omega
    have c := h.cell hk
    have c0 := h.at0
    have fz := Blk.frozen h (1 + k)
    have fz0 := Blk.frozen h 0
    rw [show (k : Int).toNat = k from rfl] at hat
    rw [hat] at c
    by_cases h0 : s.at k = 0
    · unfold Hd.back at hs
      rw [if_pos h0] at hs
      obtain ⟨rfl, rfl⟩ := Prod.mk.inj hs
      rw [h0] at c
      clear hs h0 hat h ag
      go_enter Try.func22, Try.ntmps22
      go_wp2_with fail
      refine (rid_to _ _ _ hi.out).mono ?_
      rintro e _ ⟨rfl, rfl⟩
      go_wp2_with fail
      go_ret
      exact hrTo_same H.out AG.out _
    · unfold Hd.back at hs
      rw [if_neg h0] at hs
      obtain ⟨rfl, rfl⟩ := Prod.mk.inj hs
      obtain ⟨_, _, v0, v1⟩ := ok.keys h0
      have l0 := ok.l0
      have l1 := ok.l1
      have AG' := Kept.mk (AG.out.del ok (x := k) hx.1 (s.l + s.at k))
      clear hs hat h ag hx
      generalize s.at k = y at c h0 v0 v1 AG' ⊢
      have fin : ∀ n, HRTo w q ⟨s.l + y, MP.del s.L k⟩ (.int .i64 0) (.returned (.int .i64 0)) (((w.drewN n).setCell ⟨q, 0, none⟩ (.int .i64 (s.l + y))).setCell ⟨q, 1 + k, none⟩ (.int .i64 0)) := fun n =>
        ⟨_, AG'.out, rfl, ⟨((H.out.drewN n).set0 (s.l + y)).set k 0, by rw [size_set, size_set]; rfl⟩, (((Keeps.refl (· = q) w).drewN n).setCell (p := ⟨q, 0, none⟩) (.inr rfl) _).setCell (p := ⟨q, 1 + k, none⟩) (.inr rfl) _⟩
      have Hfin := Kept.mk fin
      have hc2 : ∀ n, ((w.drewN n).setCell ⟨q, 0, none⟩ (.int .i64 (s.l + y))).cell? ⟨q, 1 + k, none⟩ = some (.int .i64 (B k)) := fun n => ((H.out.drewN n).set0 (s.l + y)).cell hk
      have hf2 : ∀ n, ((w.drewN n).setCell ⟨q, 0, none⟩ (.int .i64 (s.l + y))).frozen? ⟨q, 1 + k, none⟩ = false := fun n => Blk.frozen ((H.out.drewN n).set0 (s.l + y)) (1 + k)
      clear fin AG' AG
      go_enter Try.func22, Try.ntmps22
      go_wp2_with fail
      refine (rid_to _ _ _ hi.out).mono ?_
      rintro e _ ⟨rfl, rfl⟩
      have hc3 := hc2 1
      have hf3 := hf2 1
      go_wp2_with fail
      go_region
      all_goals
        go_wp2_with fail
        go_ret
        exact Hfin.out _
  · have h0 : s.at x = 0 := by
      by_cases h0 : s.at x = 0
      · exact h0
      · exact absurd ⟨(ok.keys h0).1, (ok.keys h0).2.1⟩ hx
    have hi := Kept.mk (idB_no hx)
    unfold Hd.back at hs
    rw [if_pos h0] at hs
    obtain ⟨rfl, rfl⟩ := Prod.mk.inj hs
    clear hs h0 h ag hx
    go_enter Try.func22, Try.ntmps22
    go_wp2_with fail
    refine (rid_to _ _ _ hi.out).mono ?_
    rintro e _ ⟨rfl, rfl⟩
    go_wp2_with fail
    go_ret
    exact hrTo_same H.out AG.out _
set_option maxRecDepth 100000 in
set_option maxHeartbeats 4000000 in
theorem rhhas_to (q : Nat) (s : Hd) (B : Nat → Int) (x y : Int) (b : Bool) (w : World) (h : HR w q s.l B) (ag : AgH s B) (ok : s.Ok) (hy : s.at x = y) (hb : (MP.get s.L x).isSome = b) : Calls Try.prog 24 #[.pointer (some ⟨q, 0, none⟩), .int .i64 x] w (Says w (.tuple #[.int .i64 y, .bool b])) := by
  have hsm := ok.some_iff x
  rw [hy, hb] at hsm
  by_cases hx : 1 ≤ x ∧ x ≤ 999
  · have hat := ag.at hx.1
    have hi := Kept.mk (idB_yes hx)
    obtain ⟨k, rfl⟩ : ∃ k : Nat, x = k := ⟨x.toNat, by omega⟩
    have hk : k < 1000 := by omega
    have hk' : (k : Int) < 1000 := by omega
    have hk0 : (0 : Int) ≤ k := by omega
    have c := h.cell hk
    have hr := (ok.at_range k).1
    rw [show (k : Int).toNat = k from rfl] at hat
    rw [hat] at c
    rw [hy] at c hr
    by_cases h0 : y = 0
    · subst h0
      obtain rfl : b = false := by rw [hsm]; rfl
      clear hat hy hb hsm h ag
      go_enter Try.func24, Try.ntmps24
      go_wp2_with fail
      refine (rid_to _ _ _ hi.out).mono ?_
      rintro e _ ⟨rfl, rfl⟩
      go_wp2_with fail
      go_ret2
      exact ⟨rfl, rfl⟩
    · obtain rfl : b = true := by rw [hsm]; simp; omega
      clear hat hy hb hsm h ag
      go_enter Try.func24, Try.ntmps24
      go_wp2_with fail
      refine (rid_to _ _ _ hi.out).mono ?_
      rintro e _ ⟨rfl, rfl⟩
      go_wp2_with fail
      go_ret2
      exact ⟨rfl, rfl⟩
  · have h0 : s.at x = 0 := by
      by_cases h0 : s.at x = 0
      · exact h0
      · exact absurd ⟨(ok.keys h0).1, (ok.keys h0).2.1⟩ hx
    rw [hy] at h0
    subst h0
    obtain rfl : b = false := by rw [hsm]; rfl
    have hi := Kept.mk (idB_no hx)
    clear hy hb hsm h ag hx
    go_enter Try.func24, Try.ntmps24
    go_wp2_with fail
    refine (rid_to _ _ _ hi.out).mono ?_
    rintro e _ ⟨rfl, rfl⟩
    go_wp2_with fail
    go_ret2
    exact ⟨rfl, rfl⟩
theorem argOk_eq (x n : Int) : Hd.argOk x n = (idB x && abB n) := by
  cases h : Hd.argOk x n with
  | true =>
    have := (Hd.argOk_iff x n).1 h
    rw [idB_yes (by omega)]
    simp [abB]
    omega
  | false =>
    cases h2 : (idB x && abB n) with
    | false => rfl
    | true =>
      exfalso
      have : (1 ≤ x ∧ x ≤ 999) ∧ 1 ≤ n ∧ n ≤ 1000000000 := by simpa [idB, abB] using h2
      rw [(Hd.argOk_iff x n).2 (by omega)] at h
      cases h
set_option maxRecDepth 100000 in
set_option maxHeartbeats 4000000 in
theorem rtake_to (q : Nat) (s s' : Hd) (B : Nat → Int) (x n r : Int) (w : World) (h : HR w q s.l B) (ag : AgH s B) (ok : s.Ok) (hs : s.take x n = (r, s')) : Calls Try.prog 23 #[.pointer (some ⟨q, 0, none⟩), .int .i64 x, .int .i64 n] w (HRTo w q s' (.int .i64 r)) := by
  have H := Kept.mk h
  have AG := Kept.mk ag
  unfold Hd.take at hs
  rw [argOk_eq] at hs
  cases hid : idB x with
  | false =>
    have hi := Kept.mk hid
    rw [hid] at hs
    simp only [Bool.false_and, Bool.false_eq_true, if_false] at hs
    obtain ⟨rfl, rfl⟩ := Prod.mk.inj hs
    clear hs hid h ag
    go_enter Try.func23, Try.ntmps23
    go_wp2_with fail
    refine (rid_to _ _ _ hi.out).mono ?_
    rintro e _ ⟨rfl, rfl⟩
    go_wp2_with fail
    go_ret
    exact hrTo_same H.out AG.out _
  | true =>
    have hi := Kept.mk hid
    cases hab : abB n with
    | false =>
      have ha := Kept.mk hab
      rw [hid, hab] at hs
      simp only [Bool.and_false, Bool.false_eq_true, if_false] at hs
      obtain ⟨rfl, rfl⟩ := Prod.mk.inj hs
      clear hs hid hab h ag
      go_enter Try.func23, Try.ntmps23
      go_wp2_with fail
      refine (rid_to _ _ _ hi.out).mono ?_
      rintro e _ ⟨rfl, rfl⟩
      go_wp2_with fail
      refine (rabove_to _ _ _ ha.out).mono ?_
      rintro e _ ⟨rfl, rfl⟩
      go_wp2_with fail
      go_ret
      exact hrTo_same H.out AG.out _
    | true =>
      have ha := Kept.mk hab
      have hx : 1 ≤ x ∧ x ≤ 999 := by simpa [idB] using hid
      have hn : 1 ≤ n ∧ n ≤ 1000000000 := by simpa [abB] using hab
      rw [hid, hab] at hs
      simp only [Bool.and_self, if_true] at hs
      have hat := ag.at hx.1
      obtain ⟨k, rfl⟩ : ∃ k : Nat, x = k := ⟨x.toNat, by omega⟩
      have hk : k < 1000 := by omega
      have hk' : (k : Int) < 1000 := by omega
      have hk0 : (0 : Int) ≤ k := by omega
      have c := h.cell hk
      have c0 := h.at0
      have fz := Blk.frozen h (1 + k)
      have fz0 := Blk.frozen h 0
      rw [show (k : Int).toNat = k from rfl] at hat
      rw [hat] at c
      have hr0 := (ok.at_range k).1
      have l0 := ok.l0
      have l1 := ok.l1
      by_cases hp : 0 < s.at k
      · rw [if_pos hp] at hs
        obtain ⟨rfl, rfl⟩ := Prod.mk.inj hs
        generalize s.at k = y at c hp hr0 hat
        clear hs hid hab h ag hat hx
        go_enter Try.func23, Try.ntmps23
        go_wp2_with fail
        refine (rid_to _ _ _ hi.out).mono ?_
        rintro e _ ⟨rfl, rfl⟩
        go_wp2_with fail
        refine (rabove_to _ _ _ ha.out).mono ?_
        rintro e _ ⟨rfl, rfl⟩
        go_wp2_with fail
        go_ret
        exact hrTo_same H.out AG.out _
      · rw [if_neg hp] at hs
        have hz : s.at k = 0 := by omega
        rw [hz] at c
        by_cases hl : s.l < n
        · rw [if_pos hl] at hs
          obtain ⟨rfl, rfl⟩ := Prod.mk.inj hs
          clear hs hid hab h ag hat hx hp hz hr0
          go_enter Try.func23, Try.ntmps23
          go_wp2_with fail
          refine (rid_to _ _ _ hi.out).mono ?_
          rintro e _ ⟨rfl, rfl⟩
          go_wp2_with fail
          refine (rabove_to _ _ _ ha.out).mono ?_
          rintro e _ ⟨rfl, rfl⟩
          go_wp2_with fail
          go_ret
          exact hrTo_same H.out AG.out _
        · rw [if_neg hl] at hs
          obtain ⟨rfl, rfl⟩ := Prod.mk.inj hs
          have AG' := Kept.mk (AG.out.put (x := k) hx.1 (s.l - n) n)
          have hc3 : (w.setCell ⟨q, 0, none⟩ (.int .i64 (s.l - n))).cell? ⟨q, 1 + k, none⟩ = some (.int .i64 (B k)) := (H.out.set0 (s.l - n)).cell hk
          have hf3 : (w.setCell ⟨q, 0, none⟩ (.int .i64 (s.l - n))).frozen? ⟨q, 1 + k, none⟩ = false := Blk.frozen (H.out.set0 (s.l - n)) (1 + k)
          have fin : HRTo w q ⟨s.l - n, MP.put s.L k n⟩ (.int .i64 0) (.returned (.int .i64 0)) ((w.setCell ⟨q, 0, none⟩ (.int .i64 (s.l - n))).setCell ⟨q, 1 + k, none⟩ (.int .i64 n)) :=
            ⟨_, AG'.out, rfl, ⟨(H.out.set0 (s.l - n)).set k n, by rw [size_set, size_set]⟩, ((Keeps.refl (· = q) w).setCell (p := ⟨q, 0, none⟩) (.inr rfl) _).setCell (p := ⟨q, 1 + k, none⟩) (.inr rfl) _⟩
          have Hfin := Kept.mk fin
          clear fin AG' AG hs hid hab h ag hat hx hp hz hr0
          go_enter Try.func23, Try.ntmps23
          go_wp2_with fail
          refine (rid_to _ _ _ hi.out).mono ?_
          rintro e _ ⟨rfl, rfl⟩
          go_wp2_with fail
          refine (rabove_to _ _ _ ha.out).mono ?_
          rintro e _ ⟨rfl, rfl⟩
          go_wp2_with fail
          go_ret
          exact Hfin.out
end Go.Proofs.Ytofabbigngmboaa
