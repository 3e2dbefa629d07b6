/- Package purse's book, walked, third part: Allow. -/
import Derived.Test.YtdnpeihfpmfmcaaPurse2
namespace Go.Proofs.Ytdnpeihfpmfmcaa
open Go.RowKit
def PuTo (w : World) (p ma mp : Nat) (r : Int) (s : Pu) : Ending → World → Prop := Rets w (fun k => k = p ∨ k = ma ∨ k = mp) (.int .i64 r) fun w' => PuAt w' p ma mp s
theorem lookAl {w : World} {m : Nat} {L : List (Int × (Nat × Int))} (h : MapAt encAl w m L) (x : Int) : (Instr.lookup 62 (.map (some m)) (.int .i64 x) true).run Try.prog w = .ok (.tuple #[encAl ((MP.get L x).getD (0, 0)), .bool (MP.get L x).isSome]) w := by
  have := h.look (P := Try.prog) Try.underlying62 Try.underlying3 (zeroAl w) x true
  rw [this]
  cases MP.get L x <;> rfl
theorem allow_nil (id i q : Int) (w : World) : Calls Try.prog 18 #[.pointer none, .int .i64 id, .int .i64 i, .int .i64 q] w (Says w (.int .i64 1)) := by
  go_enter Try.func18, Try.ntmps18
  go_wp2
  go_ret
  exact ⟨rfl, rfl⟩
theorem Pu.allow_bad {s : Pu} {id i q : Int} (h : ¬ (1 ≤ id ∧ id ≤ 999 ∧ 0 ≤ i ∧ i < 8 ∧ q ≠ 0 ∧ 0 ≤ q ∧ q ≤ 1000000000)) : s.allow id i q = (1, s) := by
  unfold Pu.allow; rw [if_neg h]
theorem puTo_same {w : World} {p ma mp : Nat} {s : Pu} (h : PuAt w p ma mp s) (x : Int) : PuTo w p ma mp x s (.returned (.int .i64 x)) w := ⟨rfl, h, Keeps.refl _ _⟩
set_option maxRecDepth 100000 in
set_option maxHeartbeats 4000000 in
theorem allow_to (p ma mp : Nat) (s s' : Pu) (id i q r : Int) (w : World) (h : PuAt w p ma mp s) (ok : s.Ok) (hr : s.allow id i q = (r, s')) : Calls Try.prog 18 #[.pointer (some ⟨p, 0, none⟩), .int .i64 id, .int .i64 i, .int .i64 q] w (PuTo w p ma mp r s') := by
  have H := Kept.mk h
  by_cases h1 : id < 1
  · rw [Pu.allow_bad (by omega)] at hr; cases hr
    go_enter Try.func18, Try.ntmps18
    go_wp2_with fail
    go_ret
    exact puTo_same H.out 1
  by_cases h2 : 999 < id
  · rw [Pu.allow_bad (by omega)] at hr; cases hr
    go_enter Try.func18, Try.ntmps18
    go_wp2_with fail
    go_ret
    exact puTo_same H.out 1
  cases hi : clientB i with
  | false =>
    rw [Pu.allow_bad (by
      intro hh
      have : clientB i = true := by simp [clientB]; omega
      rw [hi] at this; cases this)] at hr; cases hr
    have Hi := Kept.mk hi
    clear hi
    go_enter Try.func18, Try.ntmps18
    go_wp2_with fail
    refine (client_to _ _ _ Hi.out).mono ?_
    rintro e _ ⟨rfl, rfl⟩
    go_wp2_with fail
    go_ret
    exact puTo_same H.out 1
  | true =>
    have Hi := Kept.mk hi
    obtain ⟨i0, i8⟩ : 0 ≤ i ∧ i < 8 := by simpa [clientB] using hi
    clear hi
    by_cases h3 : q = 0
    · subst h3
      rw [Pu.allow_bad (by omega)] at hr; cases hr
      go_enter Try.func18, Try.ntmps18
      go_wp2_with fail
      refine (client_to _ _ _ Hi.out).mono ?_
      rintro e _ ⟨rfl, rfl⟩
      go_wp2_with fail
      go_ret
      exact puTo_same H.out 1
    have hq0 : (q == 0) = false := by simpa using h3
    cases hm : mayB q with
    | false =>
      rw [Pu.allow_bad (by
        intro hh
        have : mayB q = true := (mayB_iff q).2 (by omega)
        rw [hm] at this; cases this)] at hr; cases hr
      have Hm := Kept.mk hm
      clear hm h3
      go_enter Try.func18, Try.ntmps18
      go_wp2_with fail
      refine (client_to _ _ _ Hi.out).mono ?_
      rintro e _ ⟨rfl, rfl⟩
      go_wp2_with fail
      refine (may_to _ _ _ Hm.out).mono ?_
      rintro e _ ⟨rfl, rfl⟩
      go_wp2_with fail
      go_ret
      exact puTo_same H.out 1
    | true =>
      have Hm := Kept.mk hm
      obtain ⟨q0, q1⟩ := (mayB_iff q).1 hm
      unfold Pu.allow at hr
      rw [if_pos ⟨by omega, by omega, i0, i8, h3, q0, q1⟩] at hr
      clear hm h3
      obtain ⟨k, rfl⟩ := Int.eq_ofNat_of_zero_le i0
      have hk : k < 8 := by omega
      have tn : ((k : Nat) : Int).toNat = k := by omega
      rw [tn] at hr
      have c9 := h.cells.cell 9 rfl
      have hlA := lookAl h.by_ id
      obtain ⟨x0, hx0⟩ : ∃ x, (MP.get s.P id).getD 0 = x := ⟨_, rfl⟩
      have hlP : ∀ o, (Instr.lookup 46 (.map (some mp)) (.int .i64 id) true).run Try.prog (w.alloc o) = .ok (.tuple #[.int .i64 x0, .bool (MP.get s.P id).isSome]) (w.alloc o) := fun o => by rw [← hx0]; exact look_ok (h.paid.alloc o) id
      have c10 : ∀ o, (w.alloc o).cell? ⟨p, 10, none⟩ = some (.map (some mp)) := fun o => (h.cells.alloc o).cell 10 rfl
      cases hgA : MP.get s.A id with
      | some v =>
        rw [if_pos (.inl (by rw [hgA]; rfl))] at hr; cases hr
        obtain ⟨j, y⟩ := v
        rw [hgA] at hlA
        simp only [Option.getD_some, Option.isSome_some, encAl] at hlA
        generalize (MP.get s.P id).isSome = b0 at hlP
        clear hgA h hx0
        go_enter Try.func18, Try.ntmps18
        go_wp2_with fail
        refine (client_to _ _ _ Hi.out).mono ?_
        rintro e _ ⟨rfl, rfl⟩
        go_wp2_with fail
        refine (may_to _ _ _ Hm.out).mono ?_
        rintro e _ ⟨rfl, rfl⟩
        go_wp2_with fail
        go_ret
        exact ⟨rfl, H.out.alloc _, (Keeps.refl _ w).alloc _⟩
      | none =>
        rw [hgA] at hlA
        simp only [Option.getD_none, Option.isSome_none, encAl] at hlA
        cases hgP : MP.get s.P id with
        | some v =>
          rw [if_pos (.inr (by rw [hgP]; rfl))] at hr; cases hr
          rw [hgP] at hlP
          simp only [Option.isSome_some] at hlP
          clear hgA hgP h hx0
          go_enter Try.func18, Try.ntmps18
          go_wp2_with fail
          refine (client_to _ _ _ Hi.out).mono ?_
          rintro e _ ⟨rfl, rfl⟩
          go_wp2_with fail
          refine (may_to _ _ _ Hm.out).mono ?_
          rintro e _ ⟨rfl, rfl⟩
          go_wp2_with fail
          go_ret
          exact ⟨rfl, H.out.alloc _, (Keeps.refl _ w).alloc _⟩
        | none =>
          rw [if_neg (by rw [hgA, hgP]; simp)] at hr
          rw [hgP] at hlP
          simp only [Option.isSome_none] at hlP
          obtain ⟨y, Hy⟩ : ∃ y, Kept (resv s.A k = y) := ⟨_, ⟨rfl⟩⟩
          obtain ⟨M, HM⟩ : ∃ M, Kept (s.money k = M) := ⟨_, ⟨rfl⟩⟩
          obtain ⟨X, HX⟩ : ∃ X, Kept (resvAll s.A = X) := ⟨_, ⟨rfl⟩⟩
          obtain ⟨Tl, HT⟩ : ∃ T, Kept (s.till = T) := ⟨_, ⟨rfl⟩⟩
          have y0 := ok.al0 k
          have yM := ok.al k hk
          have M1 := ok.m1 k hk
          have X0 : 0 ≤ X := by rw [← HX.out]; exact sumN_nonneg ok.al0 8
          have T0 := ok.t0
          have TX := ok.all
          rw [HX.out] at hr TX
          rw [HT.out] at hr T0 TX
          rw [Hy.out] at y0 yM hr
          rw [HM.out] at yM M1 hr
          have cm : ∀ o, (w.alloc o).cell? ⟨p, k, none⟩ = some (.int .i64 M) := fun o => by rw [← HM.out]; exact (h.cells.alloc o).cell k (puCells_money s ma mp hk)
          have Ho : ∀ o, PuAt (w.alloc o) p ma mp s := fun o => h.alloc o
          have HO := Kept.mk Ho
          have hk0 : (0 : Int) ≤ (k : Int) := by omega
          have hk8 : (k : Int) < 8 := by omega
          have hw1 : Kept (IntKind.i64.wrap (M - y) = M - y) := ⟨by rw [IntKind.wrap_i64]; omega⟩
          have hw2 : Kept (IntKind.i64.wrap (1000000000 - Tl) = 1000000000 - Tl) := ⟨by rw [IntKind.wrap_i64]; omega⟩
          have hw3 : Kept (IntKind.i64.wrap (1000000000 - Tl - X) = 1000000000 - Tl - X) := ⟨by rw [IntKind.wrap_i64]; omega⟩
          have hhp := h.cells.lt
          have hha := h.by_.lt
          have hhq := h.paid.lt
          clear Ho hgA hgP h hx0
          by_cases hmq : M - y < q
          · rw [if_pos hmq] at hr; cases hr
            go_enter Try.func18, Try.ntmps18
            go_wp2_with fail
            refine (client_to _ _ _ Hi.out).mono ?_
            rintro e _ ⟨rfl, rfl⟩
            go_wp2_with fail
            refine (may_to _ _ _ Hm.out).mono ?_
            rintro e _ ⟨rfl, rfl⟩
            go_wp2_with fail
            go_region_held3 (fun W => W.cell? ⟨p, k, none⟩ = some (.int .i64 M)) (go_keep) (first | (go_at_call 24; refine (allowed_to p ma mp s k y k _ ((HO.out _).drewN 1) ok rfl hk Hy.out).mono ?_; rintro e w1 ⟨rfl, h1, k1⟩; have c1 := h1.cells.cell k (puCells_money s ma mp hk); rw [HM.out] at c1))
            rename_i w1 h1 k1 _ _
            rw [hw1.out]
            go_wp2_with fail
            go_ret
            exact ⟨rfl, h1, (((Keeps.refl _ w).alloc _).drewN 1).trans (k1.mono (fun _ _ h => h.elim))⟩
          · rw [if_neg hmq] at hr
            by_cases hxq : 1000000000 - Tl - X < q
            · rw [if_pos hxq] at hr; cases hr
              go_enter Try.func18, Try.ntmps18
              go_wp2_with fail
              refine (client_to _ _ _ Hi.out).mono ?_
              rintro e _ ⟨rfl, rfl⟩
              go_wp2_with fail
              refine (may_to _ _ _ Hm.out).mono ?_
              rintro e _ ⟨rfl, rfl⟩
              go_wp2_with fail
              go_region_held3 (fun W => W.cell? ⟨p, k, none⟩ = some (.int .i64 M)) (go_keep) (first | (go_at_call 24; refine (allowed_to p ma mp s k y k _ ((HO.out _).drewN 1) ok rfl hk Hy.out).mono ?_; rintro e w1 ⟨rfl, h1, k1⟩; have c1 := h1.cells.cell k (puCells_money s ma mp hk); rw [HM.out] at c1))
              rename_i w1 h1 k1 _ _
              rw [hw1.out]
              have c8 := h1.cells.cell 8 rfl
              rw [HT.out] at c8
              have K1 : Kept (Keeps (fun _ => False) w w1) := ⟨(((Keeps.refl _ w).alloc _).drewN 1).trans (k1.mono (fun _ _ h => h.elim))⟩
              have H1 := Kept.mk h1
              clear k1 h1
              go_wp2_with fail
              go_region_held3 (fun W => W.cell? ⟨p, 8, none⟩ = some (.int .i64 Tl)) (go_keep) (first | (go_at_call 39; refine (all_to p ma mp s X _ (H1.out.drewN 1) ok HX.out).mono ?_; rintro e w2 ⟨rfl, h2, k2⟩; have c2 := h2.cells.cell 8 rfl; rw [HT.out] at c2))
              rename_i w2 h2 k2 _ _
              rw [hw2.out, hw3.out]
              go_wp2_with fail
              go_ret
              exact ⟨rfl, h2, ((K1.out.drewN 1).trans k2).mono (fun _ _ h => h.elim)⟩
            · rw [if_neg hxq] at hr; cases hr
              go_enter Try.func18, Try.ntmps18
              go_wp2_with fail
              refine (client_to _ _ _ Hi.out).mono ?_
              rintro e _ ⟨rfl, rfl⟩
              go_wp2_with fail
              refine (may_to _ _ _ Hm.out).mono ?_
              rintro e _ ⟨rfl, rfl⟩
              go_wp2_with fail
              go_region_held3 (fun W => W.cell? ⟨p, k, none⟩ = some (.int .i64 M)) (go_keep) (first | (go_at_call 24; refine (allowed_to p ma mp s k y k _ ((HO.out _).drewN 1) ok rfl hk Hy.out).mono ?_; rintro e w1 ⟨rfl, h1, k1⟩; have c1 := h1.cells.cell k (puCells_money s ma mp hk); rw [HM.out] at c1))
              rename_i w1 h1 k1 _ _
              rw [hw1.out]
              have c8 := h1.cells.cell 8 rfl
              rw [HT.out] at c8
              have K1 : Kept (Keeps (fun _ => False) w w1) := ⟨(((Keeps.refl _ w).alloc _).drewN 1).trans (k1.mono (fun _ _ h => h.elim))⟩
              have H1 := Kept.mk h1
              clear k1 h1
              go_wp2_with fail
              go_region_held3 (fun W => W.cell? ⟨p, 8, none⟩ = some (.int .i64 Tl)) (go_keep) (first | (go_at_call 39; refine (all_to p ma mp s X _ (H1.out.drewN 1) ok HX.out).mono ?_; rintro e w2 ⟨rfl, h2, k2⟩; have c2 := h2.cells.cell 8 rfl; rw [HT.out] at c2))
              rename_i w2 h2 k2 _ _
              rw [hw2.out, hw3.out]
              have c9 := h2.cells.cell 9 rfl
              obtain ⟨w3, hme, hM3, k3, z3⟩ := h2.by_.update (P := Try.prog) Try.underlying62 Try.underlying3 id (k, q)
              have hfin : Kept (PuTo w p ma mp 0 ⟨s.money, Tl, MP.put s.A id (k, q), s.P⟩ (.returned (.int .i64 0)) w3) := ⟨by rw [← HT.out]; exact ⟨rfl,
                ⟨h2.cells.keeps k3 (fun e => h2.n1 e.symm), hM3, h2.paid.keeps k3 (fun e => h2.n3 e.symm), h2.n1, h2.n2, h2.n3⟩, (((K1.out.drewN 1).trans k2).mono (fun _ _ h => h.elim)).then k3 (fun _ _ e => .inr (.inl e))⟩⟩
              unfold encAl at hme
              simp only at hme
              clear h2 k2 hM3 k3 z3
              go_wp2_with fail
              go_ret
              exact hfin.out
end Go.Proofs.Ytdnpeihfpmfmcaa
