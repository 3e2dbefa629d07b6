/- The laws of layer 8 that name no row of calls, walked: awake, StockLast, StockNil, StockOnce. -/
import Derived.Test.YtofabbigngmboaaStock4
import Derived.Test.YtofabbigngmboaaOpen
namespace Go.Proofs.Ytofabbigngmboaa
open Go.RowKit
theorem reserve_to (p m : Nat) (s s' : Sk) (id i q r : Int) (w : World) (h : SkAt w p m s) (ok : s.Ok) (hr : s.reserve id i q = (r, s')) : Calls Try.prog 28 #[.pointer (some ⟨p, 0, none⟩), .int .i64 id, .int .i64 i, .int .i64 q] w (SkTo w p m (r, s')) := by
  rw [← hr]; exact reserve_any p m s id i q w h ok
theorem commit_to (p m : Nat) (s s' : Sk) (id r : Int) (w : World) (h : SkAt w p m s) (ok : s.Ok) (hr : s.commit id = (r, s')) : Calls Try.prog 30 #[.pointer (some ⟨p, 0, none⟩), .int .i64 id] w (SkTo w p m (r, s')) := by
  rw [← hr]; exact commit_any p m s id w h ok
theorem release_to (p m : Nat) (s s' : Sk) (id r : Int) (w : World) (h : SkAt w p m s) (ok : s.Ok) (hr : s.release id = (r, s')) : Calls Try.prog 31 #[.pointer (some ⟨p, 0, none⟩), .int .i64 id] w (SkTo w p m (r, s')) := by
  rw [← hr]; exact release_any p m s id w h ok
theorem onHand_to (p m : Nat) (s : Sk) (i x : Int) (w : World) (h : SkAt w p m s) (hx : s.onHand i = x) : Calls Try.prog 32 #[.pointer (some ⟨p, 0, none⟩), .int .i64 i] w (Says w (.int .i64 x)) := by
  subst hx; exact onHand_any p m s i w h
theorem free_to (p m : Nat) (s : Sk) (i x : Int) (w : World) (h : SkAt w p m s) (hx : s.freeOf i = x) : Calls Try.prog 29 #[.pointer (some ⟨p, 0, none⟩), .int .i64 i] w (Says w (.int .i64 x)) := by
  subst hx; exact free_any p m s i w h
theorem Sk.reserve_yes {s : Sk} {id i q : Int} (ha : 1 ≤ id ∧ id ≤ 999 ∧ 0 ≤ i ∧ i < 8 ∧ q ≠ 0 ∧ 0 ≤ q ∧ q ≤ 1000000000) (hg : MP.get s.L id = none) (hf : q ≤ s.free i.toNat) : s.reserve id i q = (0, ⟨s.hand, upd s.free i.toNat (s.free i.toNat - q), MP.put s.L id (i.toNat, q)⟩) := by
  unfold Sk.reserve; rw [if_pos ((Sk.argOk_iff id i q).2 ha), hg, if_neg (by simp), if_neg (by omega)]
theorem Sk.reserve_less {s : Sk} {id i q : Int} (ha : 1 ≤ id ∧ id ≤ 999 ∧ 0 ≤ i ∧ i < 8 ∧ q ≠ 0 ∧ 0 ≤ q ∧ q ≤ 1000000000) (hg : MP.get s.L id = none) (hf : s.free i.toNat < q) : s.reserve id i q = (9, s) := by
  unfold Sk.reserve; rw [if_pos ((Sk.argOk_iff id i q).2 ha), hg, if_neg (by simp), if_pos hf]
theorem Sk.reserve_twice {s : Sk} {id i q : Int} (ha : 1 ≤ id ∧ id ≤ 999 ∧ 0 ≤ i ∧ i < 8 ∧ q ≠ 0 ∧ 0 ≤ q ∧ q ≤ 1000000000) (hg : (MP.get s.L id).isSome = true) : s.reserve id i q = (8, s) := by
  unfold Sk.reserve; rw [if_pos ((Sk.argOk_iff id i q).2 ha), if_pos hg]
theorem Sk.commit_yes {s : Sk} {id q : Int} {j : Nat} (hg : MP.get s.L id = some (j, q)) : s.commit id = (0, ⟨upd s.hand j (s.hand j - q), s.free, MP.del s.L id⟩) := by
  unfold Sk.commit; rw [hg]
theorem Sk.commit_none {s : Sk} {id : Int} (hg : MP.get s.L id = none) : s.commit id = (6, s) := by
  unfold Sk.commit; rw [hg]
theorem Sk.release_yes {s : Sk} {id q : Int} {j : Nat} (hg : MP.get s.L id = some (j, q)) : s.release id = (0, ⟨s.hand, upd s.free j (s.free j + q), MP.del s.L id⟩) := by
  unfold Sk.release; rw [hg]
theorem Sk.release_none {s : Sk} {id : Int} (hg : MP.get s.L id = none) : s.release id = (6, s) := by
  unfold Sk.release; rw [hg]
theorem Sk.onHand_in {s : Sk} {i x : Int} (h0 : 0 ≤ i) (h1 : i < 8) (e : s.hand i.toNat = x) : s.onHand i = x := by
  unfold Sk.onHand; rw [if_pos (by simp [itemB]; omega), e]
theorem Sk.freeOf_in {s : Sk} {i x : Int} (h0 : 0 ≤ i) (h1 : i < 8) (e : s.free i.toNat = x) : s.freeOf i = x := by
  unfold Sk.freeOf; rw [if_pos (by simp [itemB]; omega), e]
theorem row_one {w : World} {T : TypeId} (x : Int) : IntCells (w.alloc (.cells #[.int .i64 x] T)) (some ⟨w.heap.size, 0, none⟩) 1 (fun _ => x) :=
  ⟨w.heap.size, 0, .inl rfl, fun i hi => by
    obtain rfl : i = 0 := by omega
    exact (Blk.new w T [.int .i64 x]).cell 0 rfl⟩
theorem new_one (x : Int) (h0 : 0 ≤ x) (h1 : x ≤ 1000000000) : (Sk.new (fun _ => x) 1).hand 0 = x ∧ (Sk.new (fun _ => x) 1).free 0 = x ∧ (Sk.new (fun _ => x) 1).L = [] := by
  have e : goods (fun _ => x) (min 1 8) 0 = x := by
    simp only [goods, clampI]; rw [if_pos (by omega)]; omega
  exact ⟨e, e, rfl⟩
/-- What the law's book goes through. -/
theorem last_plain (G F : Int) (hF : 1 ≤ F) (hG : F < G) (hx : G ≤ 1000000) : ∃ s0 s1 s2 s3 s4 s5 : Sk, Sk.new (fun _ => G) 1 = s0 ∧ s0.Ok ∧ s1.Ok ∧ s2.Ok ∧ s3.Ok ∧ s4.Ok ∧
    Kept (s0.reserve 1 0 F = (0, s1)) ∧ Kept (s1.reserve 2 0 (G - F + 1) = (9, s1)) ∧ Kept (s1.reserve 3 0 (G - F) = (0, s2)) ∧ Kept (s2.reserve 4 0 1 = (9, s2)) ∧ Kept (s2.commit 1 = (0, s3)) ∧
    Kept (s3.reserve 4 0 1 = (9, s3)) ∧ Kept (s3.release 3 = (0, s4)) ∧ Kept (s4.reserve 4 0 (G - F) = (0, s5)) ∧ Kept (s5.onHand 0 = G - F) := by
  obtain ⟨a1, a2, a3⟩ := new_one G (by omega) (by omega)
  have ok0 := Sk.new_ok (fun _ => G) 1
  generalize Sk.new (fun _ => G) 1 = s0 at *
  obtain ⟨hand, free, L⟩ := s0
  simp only at a1 a2 a3
  subst a3
  have q1 : (Sk.mk hand free []).reserve 1 0 F = (0, ⟨hand, upd free 0 (G - F), [(1, (0, F))]⟩) := by
    rw [Sk.reserve_yes (by omega) rfl (by simp only [Int.toNat_zero]; omega)]
    simp only [Int.toNat_zero, MP.put]
    rw [a2]
  have ok1 := Sk.reserve_ok ok0 1 0 F
  rw [q1] at ok1
  have q2 : (Sk.mk hand (upd free 0 (G - F)) [(1, (0, F))]).reserve 2 0 (G - F + 1) = (9, ⟨hand, upd free 0 (G - F), [(1, (0, F))]⟩) := by
    refine Sk.reserve_less (by omega) rfl ?_
    simp only [Int.toNat_zero, upd_same]; omega
  have q3 : (Sk.mk hand (upd free 0 (G - F)) [(1, (0, F))]).reserve 3 0 (G - F) = (0, ⟨hand, upd (upd free 0 (G - F)) 0 0, [(1, (0, F)), (3, (0, G - F))]⟩) := by
    rw [Sk.reserve_yes (by omega) rfl (by simp only [Int.toNat_zero, upd_same]; omega)]
    simp only [Int.toNat_zero, upd_same, Int.sub_self]
    rfl
  have ok2 := Sk.reserve_ok ok1 3 0 (G - F)
  rw [q3] at ok2
  have q4 : (Sk.mk hand (upd (upd free 0 (G - F)) 0 0) [(1, (0, F)), (3, (0, G - F))]).reserve 4 0 1 = (9, ⟨hand, upd (upd free 0 (G - F)) 0 0, [(1, (0, F)), (3, (0, G - F))]⟩) := by
    refine Sk.reserve_less (by omega) rfl ?_
    simp only [Int.toNat_zero, upd_same]; omega
  have q5 : (Sk.mk hand (upd (upd free 0 (G - F)) 0 0) [(1, (0, F)), (3, (0, G - F))]).commit 1 = (0, ⟨upd hand 0 (G - F), upd (upd free 0 (G - F)) 0 0, [(3, (0, G - F))]⟩) := by
    rw [Sk.commit_yes (j := 0) (q := F) rfl]
    simp only [a1]
    rfl
  have ok3 := Sk.commit_ok ok2 1
  rw [q5] at ok3
  have q6 : (Sk.mk (upd hand 0 (G - F)) (upd (upd free 0 (G - F)) 0 0) [(3, (0, G - F))]).reserve 4 0 1 = (9, ⟨upd hand 0 (G - F), upd (upd free 0 (G - F)) 0 0, [(3, (0, G - F))]⟩) := by
    refine Sk.reserve_less (by omega) rfl ?_
    simp only [Int.toNat_zero, upd_same]; omega
  have q7 : (Sk.mk (upd hand 0 (G - F)) (upd (upd free 0 (G - F)) 0 0) [(3, (0, G - F))]).release 3 = (0, ⟨upd hand 0 (G - F), upd (upd (upd free 0 (G - F)) 0 0) 0 (G - F), []⟩) := by
    rw [Sk.release_yes (j := 0) (q := G - F) rfl]
    simp only [upd_same, Int.zero_add]
    rfl
  have ok4 := Sk.release_ok ok3 3
  rw [q7] at ok4
  have q8 := Sk.reserve_yes (s := ⟨upd hand 0 (G - F), upd (upd (upd free 0 (G - F)) 0 0) 0 (G - F), []⟩) (id := 4) (i := 0) (q := G - F) (by omega) rfl (by simp only [Int.toNat_zero, upd_same]; omega)
  exact ⟨_, _, _, _, _, _, rfl, ok0, ok1, ok2, ok3, ok4, ⟨q1⟩, ⟨q2⟩, ⟨q3⟩, ⟨q4⟩, ⟨q5⟩, ⟨q6⟩, ⟨q7⟩, ⟨q8⟩, ⟨Sk.onHand_in (by omega) (by omega) (by simp only [Int.toNat_zero, upd_same])⟩⟩
theorem awake_plain : ∃ s0 s1 s2 : Sk, Sk.new (fun _ => 5) 1 = s0 ∧ s0.Ok ∧ s1.Ok ∧ Kept (s0.reserve 1 0 2 = (0, s1)) ∧ Kept (s1.freeOf 0 = 3) ∧ Kept (s1.commit 1 = (0, s2)) ∧ Kept (s2.onHand 0 = 3) ∧ Kept (s2.freeOf 0 = 3) := by
  have ok0 := Sk.new_ok (fun _ => 5) 1
  have ok1 := Sk.reserve_ok ok0 1 0 2
  exact ⟨_, _, _, rfl, ok0, ok1, ⟨rfl⟩, ⟨rfl⟩, ⟨rfl⟩, ⟨rfl⟩, ⟨rfl⟩⟩
theorem stockNew_to (a : Option Addr) (len cap : Nat) (f : Nat → Int) (s : Sk) (w : World) (hr : IntCells w a len f) (hlen : (len : Int) ≤ 9223372036854775807) (hab : 0 < len → ∀ x, a = some x → x.block < w.heap.size) (hs : Sk.new f len = s) :
    Calls Try.prog 27 #[.slice a len cap] w (Rets w (fun _ => False) (.pointer (some ⟨w.heap.size + 1, 0, none⟩)) fun w' => SkAt w' (w.heap.size + 1) w.heap.size s ∧ w'.heap.size = w.heap.size + 2) := by
  subst hs; exact stockNew_any a len cap f w hr hlen hab
theorem stockNew_one (x : Int) (s : Sk) (w : World) (hs : Sk.new (fun _ => x) 1 = s) : Calls Try.prog 27 #[.slice (some ⟨w.heap.size, 0, none⟩) 1 1] (w.alloc (.cells #[.int .i64 x] 3)) (Rets w (fun _ => False) (.pointer (some ⟨w.heap.size + 2, 0, none⟩)) fun w' => SkAt w' (w.heap.size + 2) (w.heap.size + 1) s ∧ w'.heap.size = w.heap.size + 3) := by
  refine (stockNew_to _ 1 1 (fun _ => x) s _ (row_one x) (by omega) (fun _ y e => by cases e; simp) hs).mono ?_
  rintro e w1 ⟨rfl, ⟨h1, s1⟩, k1⟩
  rw [World.size_alloc] at h1 s1 ⊢
  exact ⟨rfl, ⟨h1, s1⟩, (((Keeps.refl _ w).alloc _).then k1 (fun _ _ h => h))⟩
set_option maxHeartbeats 1000000 in
theorem awake8_any (w : World) : Calls Try.prog 33 #[] w (Yes w) := by
  obtain ⟨s0, s1, s2, e0, ok0, ok1, H1, H2, H3, H4, H5⟩ := awake_plain
  go_enter Try.func33, Try.ntmps33
  go_wp2_with fail
  refine (stockNew_one 5 s0 _ e0).mono ?_
  rintro e w1 ⟨rfl, ⟨h1, z1⟩, k1⟩
  go_wp2_with fail
  refine (reserve_to _ _ _ _ _ _ _ _ _ h1 ok0 H1.out).mono ?_
  rintro e w2 ⟨rfl, h2, k2⟩
  go_wp2_with fail
  refine (free_to _ _ _ _ _ _ h2 H2.out).mono ?_
  rintro e _ ⟨rfl, rfl⟩
  go_wp2_with fail
  refine (commit_to _ _ _ _ _ _ _ h2 ok1 H3.out).mono ?_
  rintro e w3 ⟨rfl, h3, k3⟩
  go_wp2_with fail
  refine (onHand_to _ _ _ _ _ _ h3 H4.out).mono ?_
  rintro e _ ⟨rfl, rfl⟩
  go_wp2_with fail
  refine (free_to _ _ _ _ _ _ h3 H5.out).mono ?_
  rintro e _ ⟨rfl, rfl⟩
  go_wp2_with fail
  go_ret
  exact ⟨rfl, (k1.below (Nat.le_refl _) (fun _ h => h.elim)).trans ((k2.trans k3).below k1.size (fun k e => by omega))⟩
set_option maxRecDepth 100000 in
set_option maxHeartbeats 8000000 in
theorem last_any (g f : Int) (w : World) : Calls Try.prog 10 #[.int .i64 g, .int .i64 f] w (Yes w) := by
  have hG := mod_above g 1000 2 (by omega) (by omega) (by omega) (by omega)
  have hm := mod_range f (wrap64 (2 + wrap64 ((IntKind.u64.wrap g).tmod 1000)) - 1) (by omega) (by omega)
  obtain ⟨G, HG⟩ : ∃ G, Kept (wrap64 (2 + wrap64 ((IntKind.u64.wrap g).tmod 1000)) = G) := ⟨_, ⟨rfl⟩⟩
  have hG0 := hG
  have hm0 := hm
  rw [HG.out] at hG hm
  obtain ⟨F, HF⟩ : ∃ F, Kept (1 + wrap64 ((IntKind.u64.wrap f).tmod (G - 1)) = F) := ⟨_, ⟨rfl⟩⟩
  have hF : 1 ≤ F ∧ F < G := by have := HF.out; omega
  obtain ⟨s0, s1, s2, s3, s4, s5, e0, ok0, ok1, ok2, ok3, ok4, H1, H2, H3, H4, H5, H6, H7, H8, H9⟩ := last_plain G F (by omega) (by omega) (by omega)
  go_enter Try.func10, Try.ntmps10
  go_wp2_with fail
  rw [HG.out, HF.out]
  clear HG HF hm hG0 hm0
  refine (stockNew_one G s0 _ e0).mono ?_
  rintro e w1 ⟨rfl, ⟨h1, z1⟩, k1⟩
  have B1 : Below w.heap.size w w1 := k1.below (Nat.le_refl _) (fun _ h => h.elim)
  go_wp2_with fail
  refine (reserve_to _ _ _ _ _ _ _ _ _ h1 ok0 H1.out).mono ?_
  rintro e w2 ⟨rfl, h2, k2⟩
  go_wp2_with fail
  refine (reserve_to _ _ _ _ _ _ _ _ _ h2 ok1 H2.out).mono ?_
  rintro e w3 ⟨rfl, h3, k3⟩
  go_wp2_with fail
  refine (reserve_to _ _ _ _ _ _ _ _ _ h3 ok1 H3.out).mono ?_
  rintro e w4 ⟨rfl, h4, k4⟩
  go_wp2_with fail
  refine (reserve_to _ _ _ _ _ _ _ _ _ h4 ok2 H4.out).mono ?_
  rintro e w5 ⟨rfl, h5, k5⟩
  go_wp2_with fail
  refine (commit_to _ _ _ _ _ _ _ h5 ok2 H5.out).mono ?_
  rintro e w6 ⟨rfl, h6, k6⟩
  go_wp2_with fail
  refine (reserve_to _ _ _ _ _ _ _ _ _ h6 ok3 H6.out).mono ?_
  rintro e w7 ⟨rfl, h7, k7⟩
  go_wp2_with fail
  refine (release_to _ _ _ _ _ _ _ h7 ok3 H7.out).mono ?_
  rintro e w8 ⟨rfl, h8, k8⟩
  go_wp2_with fail
  refine (reserve_to _ _ _ _ _ _ _ _ _ h8 ok4 H8.out).mono ?_
  rintro e w9 ⟨rfl, h9, k9⟩
  have K := ((((((k2.trans k3).trans k4).trans k5).trans k6).trans k7).trans k8).trans k9
  have B9 : Below w.heap.size w w9 := B1.trans (K.below k1.size (fun k e => by omega))
  clear k1 k2 k3 k4 k5 k6 k7 k8 k9 K B1 h1 h2 h3 h4 h5 h6 h7 h8 z1
  go_wp2_with fail
  refine (onHand_to _ _ _ _ _ _ h9 H9.out).mono ?_
  rintro e _ ⟨rfl, rfl⟩
  go_wp2_with fail
  refine (awake8_any _).mono ?_
  rintro e w10 ⟨rfl, b10⟩
  go_wp2_with fail
  go_ret
  exact ⟨rfl, B9.trans (b10.mono B9.size)⟩
theorem nil8_any (c0 c1 c2 c3 : Int) (w : World) : Calls Try.prog 12 #[.agg #[.int .i64 c0, .int .i64 c1, .int .i64 c2, .int .i64 c3]] w (Yes w) := by
  go_enter Try.func12, Try.ntmps12
  go_wp2_with fail
  refine (sHas_nil _ _).mono ?_
  rintro e _ ⟨rfl, rfl⟩
  go_wp2_with fail
  refine (reserve_nil _ _ _ _).mono ?_
  rintro e _ ⟨rfl, rfl⟩
  go_wp2_with fail
  refine (commit_nil _ _).mono ?_
  rintro e w2 ⟨rfl, -, k2⟩
  have d1 := ((Blk.new w 56 [.int .i64 c0, .int .i64 c1, .int .i64 c2, .int .i64 c3]).keeps k2 (fun h => h)).cell 1 rfl
  go_wp2_with fail
  refine (release_nil _ _).mono ?_
  rintro e w3 ⟨rfl, -, k3⟩
  have d2 := (((Blk.new w 56 [.int .i64 c0, .int .i64 c1, .int .i64 c2, .int .i64 c3]).keeps k2 (fun h => h)).keeps k3 (fun h => h)).cell 2 rfl
  go_wp2_with fail
  refine (onHand_nil _ _).mono ?_
  rintro e _ ⟨rfl, rfl⟩
  go_wp2_with fail
  refine (free_nil _ _).mono ?_
  rintro e _ ⟨rfl, rfl⟩
  go_wp2_with fail
  refine (awake8_any _).mono ?_
  rintro e w4 ⟨rfl, b4⟩
  have K := (((Keeps.refl (fun _ => False) w).alloc (.cells #[.int .i64 c0, .int .i64 c1, .int .i64 c2, .int .i64 c3] 56)).trans (k2.trans k3 |>.mono (fun _ _ h => h))).below (Nat.le_refl _) (fun _ h => h.elim)
  go_wp2_with fail
  go_ret
  exact ⟨rfl, K.trans (b4.mono K.size)⟩
theorem once_plain (I : Nat) (A Q : Int) (hI : I < 8) (hA : 1 ≤ A ∧ A ≤ 999) (hQ : 1 ≤ Q ∧ Q ≤ 1000) : ∃ s0 s1 s2 s3 : Sk, Sk.new (fun k => if k = I then Q else 0) 8 = s0 ∧ s0.Ok ∧ s1.Ok ∧ s2.Ok ∧ s3.Ok ∧
    Kept (s0.reserve A I Q = (0, s1)) ∧ Kept (s1.freeOf I = 0) ∧ Kept (s1.reserve A I 1 = (8, s1)) ∧ Kept (s1.commit A = (0, s2)) ∧ Kept (s2.commit A = (6, s2)) ∧ Kept (s2.release A = (6, s2)) ∧ Kept (s2.onHand I = 0) ∧
    Kept (s1.release A = (0, s3)) ∧ Kept (s3.release A = (6, s3)) ∧ Kept (s3.commit A = (6, s3)) ∧ Kept (s3.onHand I = Q) ∧ Kept (s3.freeOf I = Q) := by
  have ok0 := Sk.new_ok (fun k => if k = I then Q else 0) 8
  have e : goods (fun k => if k = I then Q else 0) (min 8 8) I = Q := by
    simp only [goods, clampI]; simp only [if_true]; rw [if_pos (by omega)]; omega
  have a1 : (Sk.new (fun k => if k = I then Q else 0) 8).hand I = Q := e
  have a2 : (Sk.new (fun k => if k = I then Q else 0) 8).free I = Q := e
  have a3 : (Sk.new (fun k => if k = I then Q else 0) 8).L = [] := rfl
  generalize Sk.new (fun k => if k = I then Q else 0) 8 = s0 at *
  obtain ⟨hand, free, L⟩ := s0
  simp only at a1 a2 a3
  subst a3
  have tn : ((I : Nat) : Int).toNat = I := by omega
  have q1 : (Sk.mk hand free []).reserve A I Q = (0, ⟨hand, upd free I 0, [(A, (I, Q))]⟩) := by
    rw [Sk.reserve_yes (by omega) rfl (by simp only [tn]; omega)]
    simp only [tn, MP.put, a2, Int.sub_self]
  have ok1 := Sk.reserve_ok ok0 A I Q
  rw [q1] at ok1
  have g1 : MP.get [(A, (I, Q))] A = some (I, Q) := by rw [MP.get_cons, if_pos rfl]
  have d1 : MP.del [(A, (I, Q))] A = [] := by simp [MP.del]
  have q2 : (Sk.mk hand (upd free I 0) [(A, (I, Q))]).commit A = (0, ⟨upd hand I 0, upd free I 0, []⟩) := by
    rw [Sk.commit_yes g1, d1]
    simp only [a1, Int.sub_self]
  have ok2 := Sk.commit_ok ok1 A
  rw [q2] at ok2
  have q3 : (Sk.mk hand (upd free I 0) [(A, (I, Q))]).release A = (0, ⟨hand, upd (upd free I 0) I Q, []⟩) := by
    rw [Sk.release_yes g1, d1]
    simp only [upd_same, Int.zero_add]
  have ok3 := Sk.release_ok ok1 A
  rw [q3] at ok3
  refine ⟨_, _, _, _, rfl, ok0, ok1, ok2, ok3, ⟨q1⟩, ⟨Sk.freeOf_in (by omega) (by omega) (by simp only [tn, upd_same])⟩, ⟨Sk.reserve_twice (by omega) (by rw [g1]; rfl)⟩, ⟨q2⟩, ⟨Sk.commit_none rfl⟩, ⟨Sk.release_none rfl⟩,
    ⟨Sk.onHand_in (by omega) (by omega) (by simp only [tn, upd_same])⟩, ⟨q3⟩, ⟨Sk.release_none rfl⟩, ⟨Sk.commit_none rfl⟩, ⟨Sk.onHand_in (by omega) (by omega) (by simp only [tn]; exact a1)⟩, ⟨Sk.freeOf_in (by omega) (by omega) (by simp only [tn, upd_same])⟩⟩
theorem eights (I : Nat) (h : I < 8) : ([.int .i64 0, .int .i64 0, .int .i64 0, .int .i64 0, .int .i64 0, .int .i64 0, .int .i64 0, .int .i64 0] : List Value)[I]? = some (.int .i64 0) := by
  match I, h with
  | 0, _ => rfl | 1, _ => rfl | 2, _ => rfl | 3, _ => rfl | 4, _ => rfl | 5, _ => rfl | 6, _ => rfl | 7, _ => rfl
theorem eights_set (I k : Nat) (Q : Int) (hI : I < 8) (h : k < 8) : (([.int .i64 0, .int .i64 0, .int .i64 0, .int .i64 0, .int .i64 0, .int .i64 0, .int .i64 0, .int .i64 0] : List Value).set I (.int .i64 Q))[k]? = some (.int .i64 (if k = I then Q else 0)) := by
  rw [List.getElem?_set]
  by_cases e : I = k
  · subst e; rw [if_pos rfl, if_pos (by simpa using hI), if_pos rfl]
  · rw [if_neg e, if_neg (Ne.symm e)]; exact eights k h
theorem stockNew_eight (I : Nat) (Q : Int) (s : Sk) (w : World) (hI : I < 8) (hs : Sk.new (fun k => if k = I then Q else 0) 8 = s) : Calls Try.prog 27 #[.slice (some ⟨w.heap.size, 0, none⟩) 8 8] (w.alloc (.cells ([.int .i64 0, .int .i64 0, .int .i64 0, .int .i64 0, .int .i64 0, .int .i64 0, .int .i64 0, .int .i64 0].set ((I : Nat) : Int).toNat (.int .i64 Q)).toArray 3)) (Rets w (fun _ => False) (.pointer (some ⟨w.heap.size + 2, 0, none⟩)) fun w' => SkAt w' (w.heap.size + 2) (w.heap.size + 1) s ∧ w'.heap.size = w.heap.size + 3) := by
  have hrow : IntCells (w.alloc (.cells ([.int .i64 0, .int .i64 0, .int .i64 0, .int .i64 0, .int .i64 0, .int .i64 0, .int .i64 0, .int .i64 0].set ((I : Nat) : Int).toNat (.int .i64 Q)).toArray 3)) (some ⟨w.heap.size, 0, none⟩) 8 (fun k => if k = I then Q else 0) :=
    ⟨w.heap.size, 0, .inl rfl, fun k hk => by rw [Nat.zero_add]; exact (Blk.new w 3 ([.int .i64 0, .int .i64 0, .int .i64 0, .int .i64 0, .int .i64 0, .int .i64 0, .int .i64 0, .int .i64 0].set ((I : Nat) : Int).toNat (.int .i64 Q))).cell k (eights_set I k Q (by omega) hk)⟩
  refine (stockNew_to _ 8 8 _ s _ hrow (by omega) (fun _ y e => by cases e; simp) hs).mono ?_
  rintro e w1 ⟨rfl, ⟨h1, s1⟩, k1⟩
  rw [World.size_alloc] at h1 s1 ⊢
  exact ⟨rfl, ⟨h1, s1⟩, (((Keeps.refl _ w).alloc _).then k1 (fun _ _ h => h))⟩
set_option maxRecDepth 100000 in
set_option maxHeartbeats 4000000 in
theorem once_true (a i q : Int) (w : World) : Calls Try.prog 8 #[.int .i64 a, .int .i64 i, .int .i64 q, .bool true] w (Yes w) := by
  have hA0 := mod_above a 999 1 (by omega) (by omega) (by omega) (by omega)
  have hI0 := mod_range i 8 (by omega) (by omega)
  have hQ0 := mod_above q 1000 1 (by omega) (by omega) (by omega) (by omega)
  obtain ⟨A, HA⟩ : ∃ A, Kept (wrap64 (1 + wrap64 ((IntKind.u64.wrap a).tmod 999)) = A) := ⟨_, ⟨rfl⟩⟩
  obtain ⟨Q, HQ⟩ : ∃ Q, Kept (wrap64 (1 + wrap64 ((IntKind.u64.wrap q).tmod 1000)) = Q) := ⟨_, ⟨rfl⟩⟩
  obtain ⟨I, HI⟩ : ∃ I : Nat, Kept (wrap64 ((IntKind.u64.wrap i).tmod 8) = I) := ⟨(wrap64 ((IntKind.u64.wrap i).tmod 8)).toNat, ⟨by omega⟩⟩
  have hA := hA0
  have hI := hI0
  have hQ := hQ0
  rw [HA.out] at hA
  rw [HI.out] at hI
  rw [HQ.out] at hQ
  obtain ⟨s0, s1, s2, s3, e0, ok0, ok1, ok2, ok3, H1, H2, H3, H4, H5, H6, H7, H8, H9, H10, H11, H12⟩ := once_plain I A Q (by omega) (by omega) (by omega)
  have hmk : ∀ w, (Instr.makeSlice 37 (.int .i64 8) (.int .i64 8)).run Try.prog w = .ok (.slice (some ⟨w.heap.size, 0, none⟩) 8 8) (w.alloc (.cells #[.int .i64 0, .int .i64 0, .int .i64 0, .int .i64 0, .int .i64 0, .int .i64 0, .int .i64 0, .int .i64 0] 3)) := fun _ => by kernel_rfl
  have hB := Blk.new w 3 [.int .i64 0, .int .i64 0, .int .i64 0, .int .i64 0, .int .i64 0, .int .i64 0, .int .i64 0, .int .i64 0]
  have hc : (w.alloc (.cells #[.int .i64 0, .int .i64 0, .int .i64 0, .int .i64 0, .int .i64 0, .int .i64 0, .int .i64 0, .int .i64 0] 3)).cell? ⟨w.heap.size, I, none⟩ = some (.int .i64 0) := hB.cell I (eights I (by omega))
  have hf : (w.alloc (.cells #[.int .i64 0, .int .i64 0, .int .i64 0, .int .i64 0, .int .i64 0, .int .i64 0, .int .i64 0, .int .i64 0] 3)).frozen? ⟨w.heap.size, I, none⟩ = false := hB.frozen I
  clear hB
  have hI8 : I < 8 := by omega
  go_enter Try.func8, Try.ntmps8
  go_wp2_with fail
  simp only [HA.out, HQ.out, HI.out]
  clear HA HI HQ
  go_wp2_with fail
  refine (stockNew_eight I Q s0 _ hI8 e0).mono ?_
  rintro e w1 ⟨rfl, ⟨h1, z1⟩, k1⟩
  have B1 : Below w.heap.size w w1 := k1.below (Nat.le_refl _) (fun _ h => h.elim)
  have z3 : w.heap.size + 1 ≤ w1.heap.size := by omega
  clear hmk hc hf k1
  go_wp2_with fail
  refine (reserve_to _ _ _ _ _ _ _ _ _ h1 ok0 H1.out).mono ?_
  rintro e w2 ⟨rfl, h2, k2⟩
  go_wp2_with fail
  refine (free_to _ _ _ _ _ _ h2 H2.out).mono ?_
  rintro e _ ⟨rfl, rfl⟩
  go_wp2_with fail
  refine (reserve_to _ _ _ _ _ _ _ _ _ h2 ok1 H3.out).mono ?_
  rintro e w3 ⟨rfl, h3, k3⟩
  go_wp2_with fail
  refine (commit_to _ _ _ _ _ _ _ h3 ok1 H4.out).mono ?_
  rintro e w4 ⟨rfl, h4, k4⟩
  go_wp2_with fail
  refine (commit_to _ _ _ _ _ _ _ h4 ok2 H5.out).mono ?_
  rintro e w5 ⟨rfl, h5, k5⟩
  go_wp2_with fail
  refine (release_to _ _ _ _ _ _ _ h5 ok2 H6.out).mono ?_
  rintro e w6 ⟨rfl, h6, k6⟩
  have B6 : Below w.heap.size w w6 := B1.trans ((((((k2.trans k3).trans k4).trans k5).trans k6)).below (Nat.le_of_succ_le z3) (fun k e => by omega))
  clear k2 k3 k4 k5 k6 h1 h2 h3 h4 h5
  go_wp2_with fail
  refine (onHand_to _ _ _ _ _ _ h6 H7.out).mono ?_
  rintro e _ ⟨rfl, rfl⟩
  go_wp2_with fail
  refine (awake8_any _).mono ?_
  rintro e w10 ⟨rfl, b10⟩
  go_wp2_with fail
  go_ret
  exact ⟨rfl, B6.trans (b10.mono B6.size)⟩
set_option maxRecDepth 100000 in
set_option maxHeartbeats 4000000 in
theorem once_false (a i q : Int) (w : World) : Calls Try.prog 8 #[.int .i64 a, .int .i64 i, .int .i64 q, .bool false] w (Yes w) := by
  have hA0 := mod_above a 999 1 (by omega) (by omega) (by omega) (by omega)
  have hI0 := mod_range i 8 (by omega) (by omega)
  have hQ0 := mod_above q 1000 1 (by omega) (by omega) (by omega) (by omega)
  obtain ⟨A, HA⟩ : ∃ A, Kept (wrap64 (1 + wrap64 ((IntKind.u64.wrap a).tmod 999)) = A) := ⟨_, ⟨rfl⟩⟩
  obtain ⟨Q, HQ⟩ : ∃ Q, Kept (wrap64 (1 + wrap64 ((IntKind.u64.wrap q).tmod 1000)) = Q) := ⟨_, ⟨rfl⟩⟩
  obtain ⟨I, HI⟩ : ∃ I : Nat, Kept (wrap64 ((IntKind.u64.wrap i).tmod 8) = I) := ⟨(wrap64 ((IntKind.u64.wrap i).tmod 8)).toNat, ⟨by omega⟩⟩
  have hA := hA0
  have hI := hI0
  have hQ := hQ0
  rw [HA.out] at hA
  rw [HI.out] at hI
  rw [HQ.out] at hQ
  obtain ⟨s0, s1, s2, s3, e0, ok0, ok1, ok2, ok3, H1, H2, H3, H4, H5, H6, H7, H8, H9, H10, H11, H12⟩ := once_plain I A Q (by omega) (by omega) (by omega)
  have hmk : ∀ w, (Instr.makeSlice 37 (.int .i64 8) (.int .i64 8)).run Try.prog w = .ok (.slice (some ⟨w.heap.size, 0, none⟩) 8 8) (w.alloc (.cells #[.int .i64 0, .int .i64 0, .int .i64 0, .int .i64 0, .int .i64 0, .int .i64 0, .int .i64 0, .int .i64 0] 3)) := fun _ => by kernel_rfl
  have hB := Blk.new w 3 [.int .i64 0, .int .i64 0, .int .i64 0, .int .i64 0, .int .i64 0, .int .i64 0, .int .i64 0, .int .i64 0]
  have hc : (w.alloc (.cells #[.int .i64 0, .int .i64 0, .int .i64 0, .int .i64 0, .int .i64 0, .int .i64 0, .int .i64 0, .int .i64 0] 3)).cell? ⟨w.heap.size, I, none⟩ = some (.int .i64 0) := hB.cell I (eights I (by omega))
  have hf : (w.alloc (.cells #[.int .i64 0, .int .i64 0, .int .i64 0, .int .i64 0, .int .i64 0, .int .i64 0, .int .i64 0, .int .i64 0] 3)).frozen? ⟨w.heap.size, I, none⟩ = false := hB.frozen I
  clear hB
  have hI8 : I < 8 := by omega
  go_enter Try.func8, Try.ntmps8
  go_wp2_with fail
  simp only [HA.out, HQ.out, HI.out]
  clear HA HI HQ
  go_wp2_with fail
  refine (stockNew_eight I Q s0 _ hI8 e0).mono ?_
  rintro e w1 ⟨rfl, ⟨h1, z1⟩, k1⟩
  have B1 : Below w.heap.size w w1 := k1.below (Nat.le_refl _) (fun _ h => h.elim)
  have z3 : w.heap.size + 1 ≤ w1.heap.size := by omega
  clear hmk hc hf k1
  go_wp2_with fail
  refine (reserve_to _ _ _ _ _ _ _ _ _ h1 ok0 H1.out).mono ?_
  rintro e w2 ⟨rfl, h2, k2⟩
  go_wp2_with fail
  refine (free_to _ _ _ _ _ _ h2 H2.out).mono ?_
  rintro e _ ⟨rfl, rfl⟩
  go_wp2_with fail
  refine (reserve_to _ _ _ _ _ _ _ _ _ h2 ok1 H3.out).mono ?_
  rintro e w3 ⟨rfl, h3, k3⟩
  go_wp2_with fail
  refine (release_to _ _ _ _ _ _ _ h3 ok1 H8.out).mono ?_
  rintro e w4 ⟨rfl, h4, k4⟩
  go_wp2_with fail
  refine (release_to _ _ _ _ _ _ _ h4 ok3 H9.out).mono ?_
  rintro e w5 ⟨rfl, h5, k5⟩
  go_wp2_with fail
  refine (commit_to _ _ _ _ _ _ _ h5 ok3 H10.out).mono ?_
  rintro e w6 ⟨rfl, h6, k6⟩
  have B6 : Below w.heap.size w w6 := B1.trans ((((((k2.trans k3).trans k4).trans k5).trans k6)).below (Nat.le_of_succ_le z3) (fun k e => by omega))
  clear k2 k3 k4 k5 k6 h1 h2 h3 h4 h5
  go_wp2_with fail
  refine (onHand_to _ _ _ _ _ _ h6 H11.out).mono ?_
  rintro e _ ⟨rfl, rfl⟩
  go_wp2_with fail
  refine (free_to _ _ _ _ _ _ h6 H12.out).mono ?_
  rintro e _ ⟨rfl, rfl⟩
  go_wp2_with fail
  refine (awake8_any _).mono ?_
  rintro e w10 ⟨rfl, b10⟩
  go_wp2_with fail
  go_ret
  exact ⟨rfl, B6.trans (b10.mono B6.size)⟩
theorem once_any (a i q : Int) (c : Bool) (w : World) : Calls Try.prog 8 #[.int .i64 a, .int .i64 i, .int .i64 q, .bool c] w (Yes w) := by
  cases c with
  | true => exact once_true a i q w
  | false => exact once_false a i q w
end Go.Proofs.Ytofabbigngmboaa
