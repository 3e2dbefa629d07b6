/- Package model, walked: what was seen. -/
import Derived.Test.YtjlfkpimjjnolaaLegal
import Derived.Test.YtjlfkpimjjnolaaClone
namespace Go.Proofs.Ytjlfkpimjjnolaa
open Go.RowKit
def isAct (k s : Int) (x : Act2) : Bool := x.1 == k && x.2 == s
def hasAct (A : List Act2) (k s : Int) : Bool := A.any (isAct k s)
theorem hasAct_at (A : List Act2) (k s : Int) : hasAct A k s = decide (0 ≤ fAt (isAct k s) A) := by
  unfold hasAct
  cases e : A.any (isAct k s) with
  | false =>
    have hn := any_false e
    have : fAt (isAct k s) A = -1 := by
      have := fAt_app (b := []) hn
      rw [List.append_nil] at this
      rw [this]; simp [fAt, up]
    rw [this]; rfl
  | true =>
    obtain ⟨x, hx, hp⟩ := List.any_eq_true.1 e
    rcases Int.lt_or_le (fAt (isAct k s) A) 0 with h | h
    · have := fAt_none h x hx
      rw [this] at hp; cases hp
    · simpa using h
set_option maxRecDepth 100000 in
set_option maxHeartbeats 1000000 in
theorem acIndex_any (a : Option Addr) (cap : Nat) (L : List Act2) (k s : Int) (w : World) (hL : AcRow w a L) (hm : L.length ≤ maxLen) :
    Calls Try.prog 52 #[.slice a L.length cap, .agg #[.int .i64 k, .int .i64 s]] w (fun e w' => e = .returned (.int .i64 (fAt (isAct k s) L)) ∧ Keeps (fun _ => False) w w') := by
  unfold maxLen at hm
  have HL := Kept.mk hL
  have HV := Kept.mk (Blk.new w 30 [.int .i64 k, .int .i64 s])
  clear hL
  go_enter Try.func52, Try.ntmps52
  go_wp2
  go_loopw [8] (fun i wr => ∃ j : Nat, j ≤ L.length ∧ i = .int .i64 j ∧ Kept (fAt (isAct k s) L = up j (fAt (isAct k s) (L.drop j))) ∧ Blk wr w.heap.size 30 [.int .i64 k, .int .i64 s] ∧ Keeps (fun _ => False) w wr) (fun i _ => L.length - (intOf i).toNat)
  case atStart => exact ⟨0, Nat.zero_le _, rfl, ⟨by rw [List.drop_zero]; exact fAt_zero _ _⟩, HV.out, (Keeps.refl _ w).alloc _⟩
  case round =>
    obtain ⟨j, hj, rfl, hf, hV, hB⟩ := hrel
    have HB := Kept.mk hB
    have HV1 := Kept.mk hV
    have v0 := hV.cell 0 rfl
    have v1 := hV.cell 1 rfl
    have hz := hV.lt
    clear hB hV
    by_cases hlt : j < L.length
    · obtain ⟨x, hx⟩ : ∃ x, L[j]? = some x := ⟨_, List.getElem?_eq_getElem hlt⟩
      have hd : Kept (L.drop j = x :: L.drop (j + 1)) := ⟨by rw [List.drop_eq_getElem_cons hlt]; rw [List.getElem?_eq_getElem hlt] at hx; simp only [Option.some.injEq] at hx; rw [hx]⟩
      obtain ⟨g, off, rfl, hl, c0, c1⟩ := HL.out j x hx
      rw [← HB.out.cell (p := ⟨g, off + j * 2, none⟩) hl (fun h => h)] at c0
      rw [← HB.out.cell (p := ⟨g, off + j * 2 + 1, none⟩) hl (fun h => h)] at c1
      obtain ⟨x1, x2⟩ := x
      simp only at c0 c1
      have hji : (j : Int) < L.length := by omega
      clear hx
      cases e : isAct k s (x1, x2) with
      | true =>
        have He := Kept.mk e
        obtain ⟨rfl, rfl⟩ : x1 = k ∧ x2 = s := by simpa [isAct] using e
        clear e
        go_wp2_with fail
        go_region
        go_wp2_with fail
        go_ret
        exact ⟨by rw [hf.out, hd.out, fAt_yes _ He.out]; rfl, HB.out.drew⟩
      | false =>
        have He := Kept.mk e
        by_cases e1 : k = x1
        · subst e1
          have e2 : ¬ s = x2 := by
            intro h
            subst h
            simp [isAct] at e
          clear e
          go_wp2_with fail
          go_region
          go_wp2_with fail
          go_roundw
          case rel => exact ⟨j + 1, by omega, by go_num, ⟨by rw [hf.out, hd.out]; exact fAt_up _ He.out⟩, HV1.out.drew, HB.out.drew⟩
          case measure => simp [intOf]; omega
        · clear e
          go_wp2_with fail
          go_region
          go_wp2_with fail
          go_roundw
          case rel => exact ⟨j + 1, by omega, by go_num, ⟨by rw [hf.out, hd.out]; exact fAt_up _ He.out⟩, HV1.out.drew, HB.out.drew⟩
          case measure => simp [intOf]; omega
    · go_wp2_with fail
      go_ret
      exact ⟨by rw [hf.out, List.drop_of_length_le (by omega)]; simp [fAt, up], HB.out⟩
set_option maxHeartbeats 1000000 in
theorem contains_to (a : Option Addr) (cap : Nat) (L : List Act2) (k s : Int) (r : Bool) (w : World) (hL : AcRow w a L) (hm : L.length ≤ maxLen) (hr : hasAct L k s = r) :
    Calls Try.prog 47 #[.slice a L.length cap, .agg #[.int .i64 k, .int .i64 s]] w (fun e w' => e = .returned (.bool r) ∧ Keeps (fun _ => False) w w') := by
  subst hr
  have He : Kept (hasAct L k s = decide (0 ≤ fAt (isAct k s) L)) := ⟨hasAct_at L k s⟩
  rw [He.out]
  have HL := Kept.mk (hL.alloc (.cells #[.int .i64 k, .int .i64 s] 30))
  have HM := Kept.mk hm
  obtain ⟨q, hq⟩ : ∃ q, Kept (fAt (isAct k s) L = q) := ⟨_, ⟨rfl⟩⟩
  rw [hq.out]
  clear hL hm
  go_enter Try.func47, Try.ntmps47
  go_wp2_with fail
  refine (acIndex_any a cap L k s _ HL.out HM.out).mono ?_
  rintro e w1 ⟨rfl, k1⟩
  rw [hq.out]
  go_wp2_with fail
  go_ret
  exact ⟨rfl, ((Keeps.refl _ w).alloc _).trans k1⟩
/-- A model lies at block p: its order, and what was seen. -/
structure ModAt (w : World) (p : Nat) (a : Option Addr) (c : Nat) (b : Option Addr) (d : Nat) (o : Ord) (A : List Act2) : Prop where
  cells : Blk w p 59 [.int .i64 o.id, .int .i64 o.item, .int .i64 o.qty, .int .i64 o.client, .int .i64 o.price, .slice a o.steps.length c, .slice b A.length d]
  steps : StRow w a o.steps
  acts : AcRow w b A
  sa : ∀ x, a = some x → x.block ≠ p
  sb : ∀ x, b = some x → x.block ≠ p
  may : o.may = true
  len : A.length ≤ 1000
theorem ModAt.keeps {w w' : World} {p : Nat} {a b : Option Addr} {c d : Nat} {o : Ord} {A : List Act2} (h : ModAt w p a c b d o A) (k : Keeps (fun _ => False) w w') : ModAt w' p a c b d o A :=
  ⟨h.cells.keeps k (fun h => h), h.steps.quiet k, h.acts.quiet k, h.sa, h.sb, h.may, h.len⟩
theorem ModAt.drewN {w : World} {p : Nat} {a b : Option Addr} {c d : Nat} {o : Ord} {A : List Act2} (h : ModAt w p a c b d o A) (n : Nat) : ModAt (w.drewN n) p a c b d o A := h.keeps ((Keeps.refl _ w).drewN n)
theorem ModAt.alloc {w : World} {p : Nat} {a b : Option Addr} {c d : Nat} {o : Ord} {A : List Act2} (h : ModAt w p a c b d o A) (x : Obj) : ModAt (w.alloc x) p a c b d o A := h.keeps ((Keeps.refl _ w).alloc x)
theorem saw_nil (k s : Int) (w : World) : Calls Try.prog 37 #[.pointer none, .int .i64 k, .int .i64 s] w (Says w (.bool false)) := by
  go_enter Try.func37, Try.ntmps37
  go_wp2
  go_ret
  exact ⟨rfl, rfl⟩
theorem saw_to (p : Nat) (a b : Option Addr) (c d : Nat) (o : Ord) (A : List Act2) (k s : Int) (r : Bool) (w : World) (h : ModAt w p a c b d o A) (hr : hasAct A k s = r) :
    Calls Try.prog 37 #[.pointer (some ⟨p, 0, none⟩), .int .i64 k, .int .i64 s] w (fun e w' => e = .returned (.bool r) ∧ Keeps (fun _ => False) w w') := by
  have c6 := h.cells.cell 6 rfl
  have HA := Kept.mk h.acts
  have HN : Kept (A.length ≤ maxLen) := ⟨by have := h.len; unfold maxLen; omega⟩
  have Hr := Kept.mk hr
  clear h hr
  go_enter Try.func37, Try.ntmps37
  go_wp2_with fail
  refine (contains_to b d A k s r _ HA.out HN.out Hr.out).mono ?_
  rintro e w1 ⟨rfl, k1⟩
  go_wp2_with fail
  go_ret
  exact ⟨rfl, k1⟩
theorem sold_nil (w : World) : Calls Try.prog 22 #[.pointer none] w (Says w (.bool false)) := by
  go_enter Try.func22, Try.ntmps22
  go_wp2_with fail
  refine (saw_nil _ _ _).mono ?_
  rintro e _ ⟨rfl, rfl⟩
  go_wp2_with fail
  go_ret
  exact ⟨rfl, rfl⟩
theorem sent_nil (w : World) : Calls Try.prog 23 #[.pointer none] w (Says w (.bool false)) := by
  go_enter Try.func23, Try.ntmps23
  go_wp2_with fail
  refine (saw_nil _ _ _).mono ?_
  rintro e _ ⟨rfl, rfl⟩
  go_wp2_with fail
  go_ret
  exact ⟨rfl, rfl⟩
theorem sold_to (p : Nat) (a b : Option Addr) (c d : Nat) (o : Ord) (A : List Act2) (r : Bool) (w : World) (h : ModAt w p a c b d o A) (hr : hasAct A 13 0 = r) :
    Calls Try.prog 22 #[.pointer (some ⟨p, 0, none⟩)] w (fun e w' => e = .returned (.bool r) ∧ Keeps (fun _ => False) w w') := by
  have H := Kept.mk h
  have Hr := Kept.mk hr
  clear h hr
  go_enter Try.func22, Try.ntmps22
  go_wp2_with fail
  refine (saw_to p a b c d o A 13 0 r _ H.out Hr.out).mono ?_
  rintro e w1 ⟨rfl, k1⟩
  go_wp2_with fail
  go_ret
  exact ⟨rfl, k1⟩
theorem sent_to (p : Nat) (a b : Option Addr) (c d : Nat) (o : Ord) (A : List Act2) (r : Bool) (w : World) (h : ModAt w p a c b d o A) (hr : hasAct A 16 0 = r) :
    Calls Try.prog 23 #[.pointer (some ⟨p, 0, none⟩)] w (fun e w' => e = .returned (.bool r) ∧ Keeps (fun _ => False) w w') := by
  have H := Kept.mk h
  have Hr := Kept.mk hr
  clear h hr
  go_enter Try.func23, Try.ntmps23
  go_wp2_with fail
  refine (saw_to p a b c d o A 16 0 r _ H.out Hr.out).mono ?_
  rintro e w1 ⟨rfl, k1⟩
  go_wp2_with fail
  go_ret
  exact ⟨rfl, k1⟩
theorem seen_nil (w : World) : Calls Try.prog 21 #[.pointer none] w (Says w (.slice none 0 0)) := by
  go_enter Try.func21, Try.ntmps21
  go_wp2
  go_ret
  exact ⟨rfl, rfl⟩
theorem seen_to (p : Nat) (a b : Option Addr) (c d : Nat) (o : Ord) (A : List Act2) (w : World) (h : ModAt w p a c b d o A) :
    Calls Try.prog 21 #[.pointer (some ⟨p, 0, none⟩)] w (fun e w' => ∃ v, e = .returned v ∧ w'.ownsRow w.heap.size 30 2 v A.length (A.flatMap encSt) ∧ Keeps (fun _ => False) w w') := by
  have c6 := h.cells.cell 6 rfl
  have HA := Kept.mk h.acts
  have HN : Kept (A.length ≤ 100000) := ⟨by have := h.len; omega⟩
  clear h
  go_enter Try.func21, Try.ntmps21
  go_wp2_with fail
  refine (cloneAct_to b d A _ HA.out HN.out).mono ?_
  rintro e w1 ⟨v, rfl, h1, k1⟩
  go_wp2_with fail
  go_ret
  exact ⟨v, rfl, h1, k1⟩
end Go.Proofs.Ytjlfkpimjjnolaa
