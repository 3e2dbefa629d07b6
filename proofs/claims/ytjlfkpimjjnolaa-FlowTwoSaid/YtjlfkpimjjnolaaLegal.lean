/- Package flow's notes and Legal, walked. -/
import Derived.Test.YtjlfkpimjjnolaaStory
import Derived.Test.YtjlfkpimjjnolaaOrd3
namespace Go.Proofs.Ytjlfkpimjjnolaa
open Go.RowKit
set_option maxRecDepth 100000 in
set_option maxHeartbeats 2000000 in
theorem snotes_to (p : Nat) (s : Sty) (x : Int) (w : World) (h : Blk w p 53 s.cells) (h1 : 0 ≤ s.undone) (h2 : s.undone ≤ s.done) (h3 : s.done ≤ 1000) (hx : x = 2 ∨ x = 5 ∨ x = 13 ∨ x = 14 ∨ x = 16) :
    Calls Try.prog 29 #[.pointer (some ⟨p, 0, none⟩), .int .i64 x] w (fun e w' => (∃ v, e = .returned v) ∧ Blk w' p 53 (s.note x).cells ∧ Keeps (fun k => k = p) w w') := by
  obtain ⟨d, u, c, b, f⟩ := s
  simp only at h1 h2 h3
  have H := Kept.mk h
  have c0 := h.cell 0 rfl
  have c1 := h.cell 1 rfl
  have c2 := h.cell 2 rfl
  have c3 := h.cell 3 rfl
  have c4 := h.cell 4 rfl
  have f0 := h.frozen 0
  have f1 := h.frozen 1
  have f2 := h.frozen 2
  have f3 := h.frozen 3
  have f4 := h.frozen 4
  simp only at c0 c1 c2 c3 c4
  clear h
  rcases hx with rfl | rfl | rfl | rfl | rfl
  · go_enter Try.func29, Try.ntmps29
    go_wp2
    go_end0
    exact ⟨⟨_, rfl⟩, H.out.set 0 _, (Keeps.refl (fun k => k = p) w).setCell (p := ⟨p, 0, none⟩) (.inr rfl) _⟩
  · go_enter Try.func29, Try.ntmps29
    go_wp2
    go_end0
    exact ⟨⟨_, rfl⟩, H.out.set 1 _, (Keeps.refl (fun k => k = p) w).setCell (p := ⟨p, 1, none⟩) (.inr rfl) _⟩
  · go_enter Try.func29, Try.ntmps29
    go_wp2
    go_end0
    exact ⟨⟨_, rfl⟩, H.out.set 2 _, (Keeps.refl (fun k => k = p) w).setCell (p := ⟨p, 2, none⟩) (.inr rfl) _⟩
  · go_enter Try.func29, Try.ntmps29
    go_wp2
    go_end0
    exact ⟨⟨_, rfl⟩, H.out.set 3 _, (Keeps.refl (fun k => k = p) w).setCell (p := ⟨p, 3, none⟩) (.inr rfl) _⟩
  · go_enter Try.func29, Try.ntmps29
    go_wp2
    go_end0
    exact ⟨⟨_, rfl⟩, H.out.set 4 _, (Keeps.refl (fun k => k = p) w).setCell (p := ⟨p, 4, none⟩) (.inr rfl) _⟩
theorem Sty.may_kind {s : Sty} {x y n : Int} (h : s.may (x, y) n = true) : x = 2 ∨ x = 5 ∨ x = 13 ∨ x = 14 ∨ x = 16 := by
  unfold Sty.may at h
  simp only at h
  split at h
  · exact .inl ‹_›
  split at h
  · exact .inr (.inl ‹_›)
  split at h
  · exact .inr (.inr (.inl ‹_›))
  split at h
  · exact .inr (.inr (.inr (.inl ‹_›)))
  split at h
  · exact .inr (.inr (.inr (.inr ‹_›)))
  · cases h
/-- How many may happen, one behind the other. -/
def runN (n : Int) : Sty → List Act2 → Nat
  | _, [] => 0
  | s, a :: r => if s.may a n = true then runN n (s.note a.1) r + 1 else 0
def legalN (o : Ord) (L : List Act2) : Nat := if o.may = true then runN o.steps.length Sty.zero L else 0
theorem runN_le (n : Int) : ∀ (s : Sty) (L : List Act2), runN n s L ≤ L.length
  | _, [] => Nat.le_refl _
  | s, a :: r => by
    have := runN_le n (s.note a.1) r
    simp only [runN, List.length_cons]
    split <;> omega
/-- A row of acts, cell by cell. -/
abbrev AcRow (w : World) (a : Option Addr) (L : List Act2) : Prop := StRow w a L
set_option maxRecDepth 100000 in
set_option maxHeartbeats 4000000 in
theorem legal_to (o : Ord) (a b : Option Addr) (c d : Nat) (L : List Act2) (r : Nat) (w : World) (hL : StRow w a o.steps) (hm : o.steps.length ≤ maxLen) (hA : AcRow w b L) (hma : L.length ≤ maxLen) (hr : legalN o L = r) :
    Calls Try.prog 12 #[.agg #[.int .i64 o.id, .int .i64 o.item, .int .i64 o.qty, .int .i64 o.client, .int .i64 o.price, .slice a o.steps.length c], .slice b L.length d] w (fun e w' => e = .returned (.int .i64 r) ∧ Keeps (fun _ => False) w w') := by
  subst hr
  have HL := Kept.mk hL
  have HA := Kept.mk hA
  have hmi : (o.steps.length : Int) ≤ 9223372036854775807 := by unfold maxLen at hm; omega
  have hmai : (L.length : Int) ≤ 9223372036854775807 := by unfold maxLen at hma; omega
  have HM := Kept.mk hm
  clear hL hA hm hma
  cases hmay : o.may with
  | false =>
    have Hmay := Kept.mk hmay
    have hz : Kept (legalN o L = 0) := ⟨by unfold legalN; rw [hmay]; rfl⟩
    rw [hz.out]
    clear hmay
    go_enter Try.func12, Try.ntmps12
    go_wp2_with fail
    go_step3
    go_wp2_with fail
    refine (omay_to o a c false _ (HL.out.alloc _) HM.out Hmay.out).mono ?_
    rintro e w1 ⟨rfl, k1⟩
    go_wp2_with fail
    rw [Exit.noGoto_ret]
    go_ret
    exact ⟨rfl, ((Keeps.refl _ w).alloc _).trans k1⟩
  | true =>
    have Hmay := Kept.mk hmay
    have hl3 := Ord.may_len hmay
    have hz : Kept (legalN o L = runN o.steps.length Sty.zero L) := ⟨by unfold legalN; rw [hmay]; rfl⟩
    rw [hz.out]
    have hb0 := Kept.mk (Blk.new w 24 [.int .i64 o.id, .int .i64 o.item, .int .i64 o.qty, .int .i64 o.client, .int .i64 o.price, .slice a o.steps.length c])
    clear hmay
    go_enter Try.func12, Try.ntmps12
    go_wp2_with fail
    go_step3
    go_wp2_with fail
    refine (omay_to o a c true _ (HL.out.alloc _) HM.out Hmay.out).mono ?_
    rintro e w1 ⟨rfl, k1⟩
    have K1 := Kept.mk (((Keeps.refl (fun _ => False) w).alloc _).trans k1)
    have hb1 := Kept.mk (hb0.out.keeps k1 (fun h => h))
    have hww := hb1.out.lt
    have hs1 := Kept.mk (Blk.new w1 53 Sty.zero.cells)
    clear k1
    go_wp2_with fail
    go_step3
    go_wp2_with fail
    go_loopw [6, 16] (fun m i wr => ∃ (k : Nat) (s : Sty), k ≤ L.length ∧ i = .int .i64 k ∧ m = .int .i64 k ∧ s.Ok o.steps.length ∧ Blk wr w1.heap.size 53 s.cells ∧ Blk wr w.heap.size 24 [.int .i64 o.id, .int .i64 o.item, .int .i64 o.qty, .int .i64 o.client, .int .i64 o.price, .slice a o.steps.length c] ∧ Kept (runN o.steps.length Sty.zero L = k + runN o.steps.length s (L.drop k)) ∧ Keeps (fun _ => False) w wr) (fun _ i _ => L.length - (intOf i).toNat)
    case atStart => exact ⟨0, Sty.zero, Nat.zero_le _, rfl, rfl, Sty.zero_ok _ (by omega), hs1.out, hb1.out.alloc _, ⟨by rw [List.drop_zero]; omega⟩, K1.out.alloc _⟩
    case round =>
      obtain ⟨k, s, hk, rfl, rfl, hok, hS, hO, hf, hB⟩ := hrel
      have HB := Kept.mk hB
      have HO := Kept.mk hO
      have HS := Kept.mk hS
      have o5 := hO.cell 5 rfl
      have hz1 := hO.lt
      have hz2 := hS.lt
      have HOk := Kept.mk hok
      clear hB hO hS
      by_cases hlt : k < L.length
      · obtain ⟨x, hx⟩ : ∃ x, L[k]? = some x := ⟨_, List.getElem?_eq_getElem hlt⟩
        have hd : Kept (L.drop k = x :: L.drop (k + 1)) := ⟨by rw [List.drop_eq_getElem_cons hlt]; rw [List.getElem?_eq_getElem hlt] at hx; simp only [Option.some.injEq] at hx; rw [hx]⟩
        obtain ⟨g, off, rfl, hl, d0, d1⟩ := HA.out k x hx
        rw [← HB.out.cell (p := ⟨g, off + k * 2, none⟩) hl (fun h => h)] at d0
        rw [← HB.out.cell (p := ⟨g, off + k * 2 + 1, none⟩) hl (fun h => h)] at d1
        obtain ⟨x1, x2⟩ := x
        simp only at d0 d1
        clear hx
        have hn : (o.steps.length : Int) ≤ 1000 := by omega
        have HS2 := Kept.mk (HS.out.alloc (.cells #[.int .i64 x1, .int .i64 x2] 30))
        have HX := Kept.mk (Blk.new wr 30 [.int .i64 x1, .int .i64 x2])
        cases hmx : s.may (x1, x2) o.steps.length with
        | false =>
          have Hmx := Kept.mk hmx
          clear hmx
          go_wp2_with fail
          refine (smay_to _ s x1 x2 _ false _ HS2.out HOk.out hn Hmx.out).mono ?_
          rintro e w2 ⟨rfl, k2⟩
          go_wp2_with fail
          rw [Exit.noGoto_ret]
          go_ret
          exact ⟨by rw [hf.out, hd.out]; simp [runN, Hmx.out], (HB.out.alloc _).trans k2⟩
        | true =>
          have Hmx := Kept.mk hmx
          clear hmx
          go_wp2_with fail
          refine (smay_to _ s x1 x2 _ true _ HS2.out HOk.out hn Hmx.out).mono ?_
          rintro e w2 ⟨rfl, k2⟩
          have hx2 := HX.out.keeps k2 (fun h => h)
          have x20 := hx2.cell 0 rfl
          have hzz := hx2.lt
          have HK2 := Kept.mk k2
          have HS3 := Kept.mk (HS2.out.keeps k2 (fun h => h))
          have HO3 := Kept.mk ((HO.out.alloc (.cells #[.int .i64 x1, .int .i64 x2] 30)).keeps k2 (fun h => h))
          clear k2 hx2
          go_wp2_with fail
          refine (snotes_to _ s x1 _ HS3.out HOk.out.u0 HOk.out.ud (by have := HOk.out.dn; omega) (Sty.may_kind Hmx.out)).mono ?_
          rintro e w3 ⟨⟨v, rfl⟩, h3, k3⟩
          have HO4 := Kept.mk (HO3.out.keeps k3 (by omega))
          have HK3 := Kept.mk ((HB.out.alloc (.cells #[.int .i64 x1, .int .i64 x2] 30)).trans HK2.out)
          have HK4 : Kept (Keeps (fun _ => False) w w3) := ⟨HK3.out.then k3 (fun i hi e => by have := K1.out.size; omega)⟩
          have H3 := Kept.mk h3
          clear k3 h3
          go_wp2_with fail
          go_roundw
          case rel => exact ⟨k + 1, s.note x1, by omega, by go_num, by go_num, Sty.note_ok HOk.out Hmx.out, H3.out, HO4.out, ⟨by rw [hf.out, hd.out]; simp only [runN]; rw [if_pos Hmx.out]; omega⟩, HK4.out⟩
          case measure => simp [intOf]; omega
      · go_wp2_with fail
        rw [Exit.noGoto_ret]
        go_ret
        exact ⟨by rw [hf.out, List.drop_of_length_le (by omega)]; simp [runN], HB.out⟩
theorem legal_of (o : Ord) (a b : Option Addr) (c d n : Nat) (L : List Act2) (r : Nat) (w : World) (hL : StRow w a o.steps) (hm : o.steps.length ≤ maxLen) (hA : AcRow w b L) (hn : L.length = n) (hma : n ≤ maxLen) (hr : legalN o L = r) :
    Calls Try.prog 12 #[.agg #[.int .i64 o.id, .int .i64 o.item, .int .i64 o.qty, .int .i64 o.client, .int .i64 o.price, .slice a o.steps.length c], .slice b n d] w (fun e w' => e = .returned (.int .i64 r) ∧ Keeps (fun _ => False) w w') := by
  subst hn; exact legal_to o a b c d L r w hL hm hA hma hr
end Go.Proofs.Ytjlfkpimjjnolaa
