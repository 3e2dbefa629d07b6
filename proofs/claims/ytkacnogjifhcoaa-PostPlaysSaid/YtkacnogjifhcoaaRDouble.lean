/- The page's Double, walked. -/
import Derived.Test.YtkacnogjifhcoaaRPut
namespace Go.Proofs.Ytkacnogjifhcoaa
open Go.RowKit
theorem rdouble_no (F : Nat → Prop) (p most lost : Nat) (L : List Ms) (x : Int) (w : World) (h : RPostAt w F p most lost L) (hx : x < 0 ∨ (L.length : Int) ≤ x) : Calls Try.prog 36 #[.pointer (some ⟨p, 0, none⟩), .int .i64 x] w (Says w (.bool false)) := by
  obtain ⟨a, c, hB, hR, hne, hlc, hnc, hLm, hms, hps, hlf⟩ := h
  have c1 := hB.cell 1 rfl
  have hp := hB.lt
  clear hB hR hne hnc
  by_cases h0 : x < 0
  · go_enter Try.func36, Try.ntmps36
    go_wp2_with fail
    go_ret
    exact ⟨rfl, rfl⟩
  · have h1 : (L.length : Int) ≤ x := by omega
    clear hx
    go_enter Try.func36, Try.ntmps36
    go_wp2_with fail
    go_ret
    exact ⟨rfl, rfl⟩
set_option linter.unusedSimpArgs false in
set_option maxRecDepth 100000 in
set_option maxHeartbeats 4000000 in
theorem rdouble_to (F : Nat → Prop) (p most lost i : Nat) (L : List Ms) (m : Ms) (x : Int) (w : World) (h : RPostAt w F p most lost L) (hF : F p) (hFl : ∀ i, F i → i < w.heap.size) (hx : x = i) (hm : L[i]? = some m) :
    Calls Try.prog 36 #[.pointer (some ⟨p, 0, none⟩), .int .i64 x] w (fun e w' => e = .returned (.bool true) ∧ RPostAt w' F p most (put1 most (L, lost) m).2 (put1 most (L, lost) m).1 ∧ Keeps (fun k => k = p) w w') := by
  subst hx
  have hi : i < L.length := (List.getElem?_eq_some_iff.1 hm).1
  have H0 := h
  obtain ⟨a, c, hB, hR, hne, hlc, hnc, hLm, hms, hps, hlf⟩ := h
  obtain ⟨n, hn⟩ : ∃ n, L.length = n := ⟨_, rfl⟩
  rw [hn] at hB hlc hi hLm
  obtain ⟨g, off, rfl, hgl, hc⟩ := hR i m hm
  have hp := hB.lt
  have k1 := (Keeps.refl (fun _ => False) w).alloc (.cells (encMs m).toArray 55)
  have K1 := Kept.mk k1
  have H1 : Kept (RPostAt (w.alloc (.cells (encMs m).toArray 55)) F p most lost L) := ⟨⟨some ⟨g, off, none⟩, c, by rw [hn]; exact hB.keeps k1 (fun h => h), hR.quiet k1, (fun z hz => ⟨(hne z hz).1, Nat.lt_of_lt_of_le (hne z hz).2 k1.size⟩), by rw [hn]; exact hlc, hnc, by rw [hn]; exact hLm, hms, hps, hlf⟩⟩
  have HM : Kept (MsRow (w.alloc (.cells (encMs m).toArray 55)) (some ⟨w.heap.size, 0, none⟩) [m]) := ⟨msRow_of_blk (by have h1 := Blk.new w 55 (encMs m); simpa using h1)⟩
  have b1 := hB.cell 1 rfl
  have e0 : w.cell? ⟨g, off + i * 7, none⟩ = some (.int .i64 m.kind) := hc 0 _ rfl
  have e1 : w.cell? ⟨g, off + i * 7 + 1, none⟩ = some (.int .i64 m.src) := hc 1 _ rfl
  have e2 : w.cell? ⟨g, off + i * 7 + 2, none⟩ = some (.int .i64 m.dst) := hc 2 _ rfl
  have e3 : w.cell? ⟨g, off + i * 7 + 3, none⟩ = some (.int .i64 m.id) := hc 3 _ rfl
  have e4 : w.cell? ⟨g, off + i * 7 + 4, none⟩ = some (.int .i64 m.step) := hc 4 _ rfl
  have e5 : w.cell? ⟨g, off + i * 7 + 5, none⟩ = some (.int .i64 m.a) := hc 5 _ rfl
  have e6 : w.cell? ⟨g, off + i * 7 + 6, none⟩ = some (.int .i64 m.b) := hc 6 _ rfl
  have HPut := Kept.mk (rput_to F p most lost L [m] (some ⟨w.heap.size, 0, none⟩) 1 1 _ H1.out hF (fun i hi => Nat.lt_of_lt_of_le (hFl i hi) k1.size) HM.out rfl (by omega) (fun x hx => by cases hx; show w.heap.size ≠ p; omega))
  obtain ⟨m0, m1, m2, m3, m4, m5, m6⟩ := m
  dsimp only at e0 e1 e2 e3 e4 e5 e6
  have hii : (i : Int) < n := by omega
  have hi0 : ¬ (i : Int) < 0 := by omega
  have hni : ¬ (n : Int) ≤ i := by omega
  clear hB hR hne hc hm k1 hnc H0
  go_enter Try.func36, Try.ntmps36
  go_wp2_with fail
  refine HPut.out.mono ?_
  rintro e w5 ⟨⟨r, rfl⟩, h5, k5⟩
  have H5 := Kept.mk h5
  have K5 := Kept.mk k5
  clear h5 k5 e0 e1 e2 e3 e4 e5 e6 b1
  go_wp2_with fail
  go_ret
  exact ⟨rfl, H5.out, (K1.out.mono (fun _ _ h => h.elim)).then K5.out (fun _ _ h => h)⟩
end Go.Proofs.Ytkacnogjifhcoaa
