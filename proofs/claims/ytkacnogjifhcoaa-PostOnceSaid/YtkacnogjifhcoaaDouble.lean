/- Double, walked; the awake of the layer's law. -/
import Derived.Test.YtkacnogjifhcoaaTake
namespace Go.Proofs.Ytkacnogjifhcoaa
open Go.RowKit
theorem msRow_of_blk {w : World} {b : Nat} {A : List Ms} (h : Blk w b 55 (A.flatMap encMs)) : MsRow w (some ⟨b, 0, none⟩) A := by
  intro k x hx
  refine ⟨b, 0, rfl, h.lt, fun j u hu => ?_⟩
  have hj : j < 7 := by have := (List.getElem?_eq_some_iff.1 hu).1; rwa [encMs_len] at this
  refine h.cell (0 + k * 7 + j) ?_
  rw [Nat.zero_add, flat_get encMs 7 encMs_len A k x j hx hj]
  exact hu
theorem double_no (p base most lost : Nat) (v : Value) (L : List Ms) (x : Int) (w : World) (h : PostAt w p base most lost v L) (hx : x < 0 ∨ (L.length : Int) ≤ x) : Calls Try.prog 26 #[.pointer (some ⟨p, 0, none⟩), .int .i64 x] w (Says w (.bool false)) := by
  have hr : (decide (0 ≤ x) && decide (x < L.length)) = false := by
    rcases hx with h | h
    · rw [decide_eq_false (show ¬ 0 ≤ x by omega)]; rfl
    · rw [decide_eq_false (show ¬ x < L.length by omega)]; simp
  have H := Kept.mk h
  clear h hx
  go_enter Try.func26, Try.ntmps26
  go_wp2_with fail
  refine (phas_to p base most lost v L x false _ H.out hr).mono ?_
  rintro e _ ⟨rfl, rfl⟩
  go_wp2_with fail
  go_ret
  exact ⟨rfl, rfl⟩
set_option linter.unusedSimpArgs false in
set_option maxRecDepth 100000 in
set_option maxHeartbeats 4000000 in
theorem double_to (p base most lost i : Nat) (v : Value) (L : List Ms) (m : Ms) (x : Int) (w : World) (h : PostAt w p base most lost v L) (hx : x = i) (hm : L[i]? = some m) (hbp : base ≤ w.heap.size) :
    Calls Try.prog 26 #[.pointer (some ⟨p, 0, none⟩), .int .i64 x] w (fun e w' => e = .returned (.bool true) ∧ PutPost w p base most v (put1 most (L, lost) m) w') := by
  subst hx
  have hi : i < L.length := (List.getElem?_eq_some_iff.1 hm).1
  obtain ⟨a, c, rfl, hlc, hcm⟩ := h.own.slice
  obtain ⟨g, rfl⟩ := h.own.block (by omega)
  have hr : (decide (0 ≤ (i : Int)) && decide ((i : Int) < L.length)) = true := by rw [decide_eq_true (by omega), decide_eq_true (by omega)]; rfl
  have hpw := h.blk.lt
  have hgw : g < w.heap.size := (h.own.lt g rfl).2
  obtain ⟨g', off, eg, hgl, hc⟩ := h.own.row i m hm
  simp only [Option.some.injEq, Addr.mk.injEq, and_true] at eg
  obtain ⟨rfl, rfl⟩ := eg
  have hc' : ∀ j u, (encMs m)[j]? = some u → w.cell? ⟨g, i * 7 + j, none⟩ = some u := fun j u hu => by
    have h1 := hc j u hu
    rwa [Nat.zero_add] at h1
  have k1 := (Keeps.refl (fun _ => False) w).alloc (.cells (encMs m).toArray 55)
  have K1 := Kept.mk k1
  have H := Kept.mk h
  have HM : Kept (MsRow (w.alloc (.cells (encMs m).toArray 55)) (some ⟨w.heap.size, 0, none⟩) [m]) := ⟨msRow_of_blk (by have h1 := Blk.new w 55 (encMs m); simpa using h1)⟩
  have b1 := h.blk.cell 1 rfl
  have e0 : w.cell? ⟨g, i * 7, none⟩ = some (.int .i64 m.kind) := hc' 0 _ rfl
  have e1 : w.cell? ⟨g, i * 7 + 1, none⟩ = some (.int .i64 m.src) := hc' 1 _ rfl
  have e2 : w.cell? ⟨g, i * 7 + 2, none⟩ = some (.int .i64 m.dst) := hc' 2 _ rfl
  have e3 : w.cell? ⟨g, i * 7 + 3, none⟩ = some (.int .i64 m.id) := hc' 3 _ rfl
  have e4 : w.cell? ⟨g, i * 7 + 4, none⟩ = some (.int .i64 m.step) := hc' 4 _ rfl
  have e5 : w.cell? ⟨g, i * 7 + 5, none⟩ = some (.int .i64 m.a) := hc' 5 _ rfl
  have e6 : w.cell? ⟨g, i * 7 + 6, none⟩ = some (.int .i64 m.b) := hc' 6 _ rfl
  have HPut := put_to p base most lost _ L [m] (some ⟨w.heap.size, 0, none⟩) 1 1 _ (h.quiet k1) HM.out rfl (by omega) (fun x hx => by cases hx; exact ⟨by show w.heap.size ≠ p; omega, fun e => by simp only [Value.ownBlock, Option.some.injEq] at e; omega⟩) (by simp; omega)
  have HPut2 := Kept.mk HPut
  obtain ⟨m0, m1, m2, m3, m4, m5, m6⟩ := m
  dsimp only at e0 e1 e2 e3 e4 e5 e6
  have hii : (i : Int) < L.length := by omega
  clear h hc hc' hm k1 HPut
  go_enter Try.func26, Try.ntmps26
  go_wp2_with fail
  refine (phas_to p base most lost _ L i true _ H.out hr).mono ?_
  rintro e _ ⟨rfl, rfl⟩
  go_wp2_with fail
  refine HPut2.out.mono ?_
  rintro e w5 ⟨⟨r, rfl⟩, v', h5, k5, n5⟩
  have H5 := Kept.mk h5
  have K5 := Kept.mk k5
  have N5 := Kept.mk n5
  clear h5 k5 n5 e0 e1 e2 e3 e4 e5 e6 b1
  go_wp2_with fail
  go_ret
  exact ⟨rfl, v', H5.out, (K1.out.mono (fun _ _ h => h.elim)).then K5.out (fun _ _ h => h), fun g hg => by
    rcases N5.out g hg with h | h
    · exact .inl h
    · right; have := K1.out.size; omega⟩
end Go.Proofs.Ytkacnogjifhcoaa
