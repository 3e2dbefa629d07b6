/- The law PostOnce, walked. -/
import Derived.Test.YtkacnogjifhcoaaOnceLaw
import Derived.Test.YtkacnogjifhcoaaAwake17
import Derived.Test.YtkacnogjifhcoaaOpen
import Derived.Deep.CutBlock
import Derived.Deep.CutRange
namespace Go.Proofs.Ytkacnogjifhcoaa
open Go.RowKit Go.MapKept
theorem put_fit {most : Nat} : ∀ (M L : List Ms), L.length + M.length ≤ most → M.foldl (put1 most) (L, 0) = (L ++ M, 0)
  | [], L, _ => by simp
  | m :: r, L, h => by
    simp only [List.length_cons] at h
    rw [List.foldl_cons, put1_no (by omega), put_fit r (L ++ [m]) (by simp; omega)]
    simp
set_option linter.unusedSimpArgs false in
set_option linter.unusedVariables false in
set_option maxRecDepth 100000 in
set_option maxHeartbeats 16000000 in
theorem once17_some (a0 a1 a2 : Option Addr) (c0 c1 c2 nd nt : Nat) (L : List Ms) (zd zt : Nat → Int) (w : World) (hL : MsRow w a0 L) (hd : IntRow w a1 nd zd) (ht : IntRow w a2 nt zt) (hn0 : 0 < L.length) (hn1 : L.length ≤ 100) (hd1 : nd ≤ 60) (ht1 : (nt : Int) ≤ 9223372036854775807) : Calls Try.prog 7 #[.slice a0 L.length c0, .slice a1 nd c1, .slice a2 nt c2] w (Yes w) := by
  obtain ⟨n, hn⟩ : ∃ n, L.length = n := ⟨_, rfl⟩
  have HN := Kept.mk hn
  rw [hn] at hn0 hn1
  rw [hn]
  obtain ⟨g, off, rfl, hgl, _⟩ : ∃ g off, a0 = some ⟨g, off, none⟩ ∧ g < w.heap.size ∧ True := by
    obtain ⟨m, hm⟩ : ∃ m, L[0]? = some m := ⟨_, List.getElem?_eq_getElem (by omega)⟩
    obtain ⟨g, off, h1, h2, _⟩ := hL 0 m hm
    exact ⟨g, off, h1, h2, trivial⟩
  have HL := Kept.mk hL
  have HD := Kept.mk hd
  have HT := Kept.mk ht
  have h100 : ¬ (100 : Int) < n := by omega
  have h60 : ¬ (60 : Int) < nd := by omega
  have hm256 : mostOf 256 = 256 := by decide
  have hnz : ¬ (n : Int) = 0 := by omega
  have HT1 := Kept.mk ht1
  clear hL hd ht hn ht1
  have hmm := @run_makeMap Try.prog
  go_enter Try.func7, Try.ntmps7
  go_wp2_with fail
  refine (pnew_to 256 _).mono ?_
  rintro e w1 ⟨rfl, h1, k1⟩
  rw [hm256] at h1
  have H1 := Kept.mk h1
  have K1 := Kept.mk k1
  have hpl := h1.blk.lt
  clear h1 k1
  go_wp2_with fail
  refine (put_to w.heap.size w.heap.size 256 0 (.slice none 0 0) [] L (some ⟨g, off, none⟩) n c0 _ H1.out (HL.out.quiet K1.out) HN.out (by omega) (fun x hx => by cases hx; exact ⟨by show g ≠ w.heap.size; omega, by simp [Value.ownBlock]⟩) K1.out.size).mono ?_
  rintro e w2 ⟨⟨r, rfl⟩, v2, h2, k2, n2⟩
  rw [put_fit L [] (by rw [HN.out]; simp; omega)] at h2
  dsimp only [List.nil_append] at h2
  have HO2 : Kept (OnceAt w (w2.alloc (.map #[] 0)) w.heap.size w2.heap.size L [] [] v2) := ⟨by
    have hp2 := h2.blk.lt
    have ka := (Keeps.refl (fun _ => False) w2).alloc (.map #[] 0)
    have hs2 : w.heap.size ≤ w2.heap.size := by omega
    exact ⟨h2.quiet ka, MapAt.new _ _ _, Cnt.nil, fun e => by have := (h2.own.lt _ e).2; omega, by omega, Nat.le_refl _, hs2, ((K1.out.below (Nat.le_refl _) (fun _ h => h.elim)).trans (k2.below K1.out.size (fun i e => by rcases e with rfl | e; exact Nat.le_refl _; simp [Value.ownBlock] at e))).trans (ka.below hs2 (fun _ h => h.elim))⟩⟩
  clear h2 k2 n2 H1 K1 hpl
  go_wp2_with fail
  clear hmm
  obtain ⟨p, hp⟩ : ∃ p, w.heap.size = p := ⟨_, rfl⟩
  obtain ⟨mb, hmb⟩ : ∃ mb, w2.heap.size = mb := ⟨_, rfl⟩
  rw [hmb, hp] at HO2
  rw [hmb, hp]
  have HPW := Kept.mk hp
  clear hp hmb
  go_loopw [39] (fun i wr => ∃ (k : Nat) (M : List (Ms × Int)) (v : Value), k ≤ n ∧ i = .int .i64 k ∧ Kept (OnceAt w wr p mb L (L.take k) M v)) (fun i _ => n - (intOf i).toNat)
  case atStart => exact ⟨0, [], v2, Nat.zero_le _, rfl, by simpa using HO2⟩
  case round =>
    clear HO2
    obtain ⟨k, M, v, hk, rfl, HO⟩ := hrel
    by_cases hlt : k < n
    · have hki : (k : Int) < n := by omega
      obtain ⟨m, hm⟩ : ∃ m, L[k]? = some m := ⟨_, List.getElem?_eq_getElem (by rw [HN.out]; exact hlt)⟩
      obtain ⟨g', off', e', hgl', hcc⟩ := (HL.out.keeps (Keeps.of_below HO.out.below (fun _ => False)) (fun _ _ h => h)) k m hm
      simp only [Option.some.injEq, Addr.mk.injEq, and_true] at e'
      obtain ⟨rfl, rfl⟩ := e'
      have HW : Kept (OnceAt w (wr.alloc (.cells (encMs m).toArray 55)).drew p mb L (L.take k) M v) := ⟨HO.out.quiet (((Keeps.refl _ wr).alloc _).drew)⟩
      obtain ⟨cv, hcv⟩ : ∃ cv, (MP.get M m).getD 0 = cv := ⟨_, rfl⟩
      have hcn := HW.out.cnt m
      rw [hcv] at hcn
      have hcl : (L.take k).count m ≤ (L.take k).length := List.count_le_length
      rw [List.length_take, HN.out] at hcl
      obtain ⟨v0, st, w5, w6, hlk, hlk5, hme, hes, hM6, k6, z6, z5, k5⟩ := inc_at HW.out.map m (cv + 1)
      rw [hcv] at hlk hlk5
      have HO6 : Kept (OnceAt w w6 p mb L (L.take (k + 1)) (MP.put M m (cv + 1)) v) := ⟨HW.out.turn hM6 k6 (by rw [List.take_add_one, hm, hcn]; exact HW.out.cnt.more m)⟩
      have e0 : wr.cell? ⟨g, off + k * 7, none⟩ = some (.int .i64 m.kind) := hcc 0 _ rfl
      have e1 : wr.cell? ⟨g, off + k * 7 + 1, none⟩ = some (.int .i64 m.src) := hcc 1 _ rfl
      have e2 : wr.cell? ⟨g, off + k * 7 + 2, none⟩ = some (.int .i64 m.dst) := hcc 2 _ rfl
      have e3 : wr.cell? ⟨g, off + k * 7 + 3, none⟩ = some (.int .i64 m.id) := hcc 3 _ rfl
      have e4 : wr.cell? ⟨g, off + k * 7 + 4, none⟩ = some (.int .i64 m.step) := hcc 4 _ rfl
      have e5 : wr.cell? ⟨g, off + k * 7 + 5, none⟩ = some (.int .i64 m.a) := hcc 5 _ rfl
      have e6 : wr.cell? ⟨g, off + k * 7 + 6, none⟩ = some (.int .i64 m.b) := hcc 6 _ rfl
      have c10 : -9223372036854775808 ≤ cv + 1 ∧ cv + 1 ≤ 9223372036854775807 := by omega
      have hwr : IntKind.i64.wrap (cv + 1) = cv + 1 := by rw [IntKind.wrap_i64]; omega
      obtain ⟨m0, m1, m2, m3, m4, m5, m6⟩ := m
      unfold ekMs encMs at hlk hlk5 hme
      dsimp only at e0 e1 e2 e3 e4 e5 e6 hlk hlk5 hme hes
      clear hM6 k6 z6 hm hcc hcn hcl hcv k5 c10
      go_wp2_with fail
      go_region
      all_goals
        go_wp2_with fail
        go_roundw
        case rel => exact ⟨k + 1, _, v, by omega, by go_num, HO6⟩
        case measure => simp [intOf]; omega
    · obtain rfl : k = n := by omega
      have hkl : ¬ (k : Int) < (k : Int) := by omega
      have HO1 : Kept (OnceAt w wr p mb L L M v) := ⟨by have h1 := HO.out; rwa [List.take_of_length_le (by rw [HN.out]; omega)] at h1⟩
      clear HO
      go_wp2_with fail
      go_loopw [52] (fun i wr => ∃ (j : Nat) (E : List Ms) (M : List (Ms × Int)) (v : Value), j ≤ nd ∧ i = .int .i64 j ∧ E.length = j ∧ Kept (OnceAt w wr p mb (L ++ E) (L ++ E) M v)) (fun i _ => nd - (intOf i).toNat)
      case atStart => exact ⟨0, [], M, v, Nat.zero_le _, rfl, rfl, by simpa using HO1⟩
      case round =>
        clear HO1
        obtain ⟨j, E, M, v, hj, rfl, hE, HO⟩ := hrel
        by_cases hltj : j < nd
        · have hji : (j : Int) < nd := by omega
          obtain ⟨b1, o1, ha1, hc1⟩ := HD.out
          obtain ⟨rfl, hb1⟩ : a1 = some ⟨b1, o1, none⟩ ∧ b1 < w.heap.size := by
            rcases ha1 with h | h
            · exact h
            · omega
          obtain ⟨hz, _, _⟩ := hc1 j hltj
          rw [← HO.out.below.cell (p := ⟨b1, o1 + j, none⟩) hb1] at hz
          generalize zd j = d at hz
          clear hc1 ha1
          have hkk := mod_range d k (by omega) (by omega)
          obtain ⟨qi, Hq⟩ : ∃ q, Kept (wrap64 ((IntKind.u64.wrap d).tmod ↑k) = q) := ⟨_, ⟨rfl⟩⟩
          rw [Hq.out] at hkk
          obtain ⟨i, rfl⟩ := Int.eq_ofNat_of_zero_le hkk.1
          have hi : i < k := by omega
          clear hkk
          obtain ⟨m, hm⟩ : ∃ m, L[i]? = some m := ⟨_, List.getElem?_eq_getElem (by rw [HN.out]; exact hi)⟩
          have HE := Kept.mk hE
          have HDb := Kept.mk (double_to p p 256 0 i v (L ++ E) m i wr HO.out.post rfl (by rw [List.getElem?_append_left (by rw [HN.out]; exact hi)]; exact hm) (Nat.le_of_lt HO.out.post.blk.lt))
          have HM := Kept.mk hm
          clear hm hE
          go_wp2_with fail
          rw [Hq.out]
          clear Hq hz
          refine HDb.out.mono ?_
          rintro e w4 ⟨rfl, v4, h4, k4, n4⟩
          rw [put1_no (by rw [List.length_append, HN.out, HE.out]; omega)] at h4
          have HO4 := Kept.mk (HO.out.posts h4 k4 n4)
          clear h4 k4 n4 HDb HO
          obtain ⟨g', off', e', hgl', hcc⟩ := (HL.out.keeps (Keeps.of_below HO4.out.below (fun _ => False)) (fun _ _ h => h)) i m HM.out
          simp only [Option.some.injEq, Addr.mk.injEq, and_true] at e'
          obtain ⟨rfl, rfl⟩ := e'
          have HW : Kept (OnceAt w w4.drew p mb (L ++ E ++ [m]) (L ++ E) M v4) := ⟨HO4.out.quiet ((Keeps.refl _ w4).drew)⟩
          obtain ⟨cv, hcv⟩ : ∃ cv, (MP.get M m).getD 0 = cv := ⟨_, rfl⟩
          have hcn := HW.out.cnt m
          rw [hcv] at hcn
          have hcl : (L ++ E).count m ≤ (L ++ E).length := List.count_le_length
          rw [List.length_append, HN.out, HE.out] at hcl
          obtain ⟨v0, st, w5, w6, hlk, hlk5, hme, hes, hM6, k6, z6, z5, k5⟩ := inc_at HW.out.map m (cv + 1)
          rw [hcv] at hlk hlk5
          have HO6 : Kept (OnceAt w w6 p mb (L ++ (E ++ [m])) (L ++ (E ++ [m])) (MP.put M m (cv + 1)) v4) := ⟨by
            rw [← List.append_assoc]
            exact HW.out.turn hM6 k6 (by rw [hcn]; exact HW.out.cnt.more m)⟩
          have e0 : w4.drew.cell? ⟨g, off + i * 7, none⟩ = some (.int .i64 m.kind) := hcc 0 _ rfl
          have e1 : w4.drew.cell? ⟨g, off + i * 7 + 1, none⟩ = some (.int .i64 m.src) := hcc 1 _ rfl
          have e2 : w4.drew.cell? ⟨g, off + i * 7 + 2, none⟩ = some (.int .i64 m.dst) := hcc 2 _ rfl
          have e3 : w4.drew.cell? ⟨g, off + i * 7 + 3, none⟩ = some (.int .i64 m.id) := hcc 3 _ rfl
          have e4 : w4.drew.cell? ⟨g, off + i * 7 + 4, none⟩ = some (.int .i64 m.step) := hcc 4 _ rfl
          have e5 : w4.drew.cell? ⟨g, off + i * 7 + 5, none⟩ = some (.int .i64 m.a) := hcc 5 _ rfl
          have e6 : w4.drew.cell? ⟨g, off + i * 7 + 6, none⟩ = some (.int .i64 m.b) := hcc 6 _ rfl
          have hii : (i : Int) < k := by omega
          have hE1 : Kept ((E ++ [m]).length = j + 1) := ⟨by rw [List.length_append, HE.out]; rfl⟩
          have c10 : -9223372036854775808 ≤ cv + 1 ∧ cv + 1 ≤ 9223372036854775807 := by omega
          have hwr : IntKind.i64.wrap (cv + 1) = cv + 1 := by rw [IntKind.wrap_i64]; omega
          obtain ⟨m0, m1, m2, m3, m4, m5, m6⟩ := m
          unfold ekMs encMs at hlk hlk5 hme
          dsimp only at e0 e1 e2 e3 e4 e5 e6 hlk hlk5 hme hes
          clear hM6 k6 z6 hcc hcn hcl hcv k5 c10
          go_wp2_with fail
          go_region
          all_goals
            go_wp2_with fail
            go_roundw
            case rel => exact ⟨j + 1, _, _, v4, by omega, by go_num, hE1.out, HO6⟩
            case measure => simp [intOf]; omega
        · obtain rfl : j = nd := by omega
          have hjl : ¬ (j : Int) < (j : Int) := by omega
          obtain ⟨q, hq⟩ : ∃ q, (L ++ E).length = q := ⟨_, rfl⟩
          have hq160 : q ≤ 160 := by rw [← hq, List.length_append, HN.out]; omega
          have HLen := Kept.mk (plen_to p p 256 0 v (L ++ E) wr HO.out.post)
          rw [hq] at HLen
          have HO0 : Kept (∃ R, 0 + R.length = q ∧ OnceAt w wr p mb R R M v) := ⟨L ++ E, by omega, HO.out⟩
          clear HO hq
          go_wp2_with fail
          refine HLen.out.mono ?_
          rintro e _ ⟨rfl, rfl⟩
          clear HLen
          go_wp2_with fail
          go_loopw [83] (fun i wr => ∃ (j : Nat) (R : List Ms) (M : List (Ms × Int)) (v : Value), j ≤ q ∧ i = .int .i64 j ∧ Kept (j + R.length = q) ∧ Kept (OnceAt w wr p mb R R M v)) (fun i _ => q - (intOf i).toNat)
          case atStart =>
            obtain ⟨R, h1, h2⟩ := HO0.out
            exact ⟨0, R, M, v, Nat.zero_le _, rfl, ⟨h1⟩, ⟨h2⟩⟩
          case round =>
            clear HO0
            obtain ⟨j, R, M, v, hj, rfl, hR, HO⟩ := hrel
            have hRq := hR.out
            clear hR
            by_cases hltj : j < q
            · have hji : (j : Int) < q := by omega
              by_cases hjt : j < nt
              · have hjti : (j : Int) < nt := Int.ofNat_lt.2 hjt
                obtain ⟨b2, o2, ha2, hc2⟩ := HT.out
                obtain ⟨rfl, hb2⟩ : a2 = some ⟨b2, o2, none⟩ ∧ b2 < w.heap.size := ha2.resolve_right (fun h => absurd hjt (by rw [h]; exact Nat.not_lt_zero _))
                obtain ⟨hz, _, _⟩ := hc2 j hjt
                rw [← HO.out.below.cell (p := ⟨b2, o2 + j, none⟩) hb2] at hz
                generalize zt j = d at hz
                clear hc2 ha2
                have hkk := mod_range d ((q : Int) - j) (by omega) (by omega)
                obtain ⟨qi, Hq⟩ : ∃ x, Kept (wrap64 ((IntKind.u64.wrap d).tmod ((q : Int) - j)) = x) := ⟨_, ⟨rfl⟩⟩
                rw [Hq.out] at hkk
                obtain ⟨K, rfl⟩ := Int.eq_ofNat_of_zero_le hkk.1
                have hK : K < R.length := by omega
                clear hkk
                have hqj : ¬ (q : Int) - j = 0 := by omega
                have hqj0 : 0 ≤ (q : Int) - j := by omega
                have hqj1 : (q : Int) - j ≤ 160 := by omega
                go_wp2_with fail
                rw [Hq.out]
                clear Hq hz hqj hqj0 hqj1
                obtain ⟨m, hm⟩ : ∃ m, R[K]? = some m := ⟨_, List.getElem?_eq_getElem (by omega)⟩
                have HTk := Kept.mk (take_to p p 256 0 K v R m K wr HO.out.post rfl hm)
                have HM := Kept.mk hm
                clear hm
                refine HTk.out.mono ?_
                rintro e w4 ⟨rfl, v4, h4, k4, n4⟩
                have HO4 := Kept.mk (HO.out.posts h4 k4 (fun g hg => .inl (n4 g hg)))
                clear h4 k4 n4 HTk
                obtain ⟨cv, hcv⟩ : ∃ cv, (MP.get M m).getD 0 = cv := ⟨_, rfl⟩
                have hcn := HO.out.cnt m
                have hc1 := HO.out.cnt.has HM.out
                rw [hcv] at hcn hc1
                have hcl : R.count m ≤ R.length := List.count_le_length
                have HW7 : Kept (OnceAt w (w4.alloc (.cells (encMs m).toArray 55)) p mb (R.eraseIdx K) R M v4) := ⟨HO4.out.quiet ((Keeps.refl _ w4).alloc _)⟩
                have hlk7 := look_ms HW7.out.map m
                have HW : Kept (OnceAt w (w4.alloc (.cells (encMs m).toArray 55)).drew p mb (R.eraseIdx K) R M v4) := ⟨HW7.out.quiet ((Keeps.refl _ _).drew)⟩
                obtain ⟨v0, st, w5, w6, hlk, hlk5, hme, hes, hM6, k6, z6, z5, k5⟩ := inc_at HW.out.map m (cv - 1)
                rw [hcv] at hlk hlk5 hlk7
                have HO6 : Kept (OnceAt w w6 p mb (R.eraseIdx K) (R.eraseIdx K) (MP.put M m (cv - 1)) v4) := ⟨HW.out.turn hM6 k6 (by rw [hcn]; exact HW.out.cnt.less HM.out)⟩
                have hR1 : Kept ((j + 1) + (R.eraseIdx K).length = q) := ⟨by rw [List.length_eraseIdx, if_pos (by omega)]; omega⟩
                have hcv1 : ¬ cv < 1 := by omega
                have hwr : IntKind.i64.wrap (cv - 1) = cv - 1 := by rw [IntKind.wrap_i64]; omega
                obtain ⟨m0, m1, m2, m3, m4, m5, m6⟩ := m
                unfold ekMs encMs at hlk hlk5 hlk7 hme
                unfold encMs
                dsimp only at hlk hlk5 hlk7 hme hes ⊢
                clear hM6 k6 z6 hcn hcl hcv k5
                go_wp2_with fail
                go_region
                all_goals
                  go_wp2_with fail
                  go_roundw
                  case rel => exact ⟨j + 1, _, _, v4, by omega, by go_num, hR1, HO6⟩
                  case measure => simp [intOf]; omega
              · have hjti : ¬ (j : Int) < nt := fun h => hjt (Int.ofNat_lt.1 h)
                have hK : 0 < R.length := by omega
                go_wp2_with fail
                obtain ⟨m, hm⟩ : ∃ m, R[0]? = some m := ⟨_, List.getElem?_eq_getElem (by omega)⟩
                have HTk := Kept.mk (take_to p p 256 0 0 v R m 0 wr HO.out.post rfl hm)
                have HM := Kept.mk hm
                clear hm
                refine HTk.out.mono ?_
                rintro e w4 ⟨rfl, v4, h4, k4, n4⟩
                have HO4 := Kept.mk (HO.out.posts h4 k4 (fun g hg => .inl (n4 g hg)))
                clear h4 k4 n4 HTk
                obtain ⟨cv, hcv⟩ : ∃ cv, (MP.get M m).getD 0 = cv := ⟨_, rfl⟩
                have hcn := HO.out.cnt m
                have hc1 := HO.out.cnt.has HM.out
                rw [hcv] at hcn hc1
                have hcl : R.count m ≤ R.length := List.count_le_length
                have HW7 : Kept (OnceAt w (w4.alloc (.cells (encMs m).toArray 55)) p mb (R.eraseIdx 0) R M v4) := ⟨HO4.out.quiet ((Keeps.refl _ w4).alloc _)⟩
                have hlk7 := look_ms HW7.out.map m
                have HW : Kept (OnceAt w (w4.alloc (.cells (encMs m).toArray 55)).drew p mb (R.eraseIdx 0) R M v4) := ⟨HW7.out.quiet ((Keeps.refl _ _).drew)⟩
                obtain ⟨v0, st, w5, w6, hlk, hlk5, hme, hes, hM6, k6, z6, z5, k5⟩ := inc_at HW.out.map m (cv - 1)
                rw [hcv] at hlk hlk5 hlk7
                have HO6 : Kept (OnceAt w w6 p mb (R.eraseIdx 0) (R.eraseIdx 0) (MP.put M m (cv - 1)) v4) := ⟨HW.out.turn hM6 k6 (by rw [hcn]; exact HW.out.cnt.less HM.out)⟩
                have hR1 : Kept ((j + 1) + (R.eraseIdx 0).length = q) := ⟨by rw [List.length_eraseIdx, if_pos (by omega)]; omega⟩
                have hcv1 : ¬ cv < 1 := by omega
                have hwr : IntKind.i64.wrap (cv - 1) = cv - 1 := by rw [IntKind.wrap_i64]; omega
                obtain ⟨m0, m1, m2, m3, m4, m5, m6⟩ := m
                unfold ekMs encMs at hlk hlk5 hlk7 hme
                unfold encMs
                dsimp only at hlk hlk5 hlk7 hme hes ⊢
                clear hM6 k6 z6 hcn hcl hcv k5
                go_wp2_with fail
                go_region
                all_goals
                  go_wp2_with fail
                  go_roundw
                  case rel => exact ⟨j + 1, _, _, v4, by omega, by go_num, hR1, HO6⟩
                  case measure => simp [intOf]; omega
            · obtain rfl : j = q := by omega
              have hjl2 : ¬ (j : Int) < (j : Int) := by omega
              obtain rfl : R = [] := List.eq_nil_of_length_eq_zero (by omega)
              have HZ : Kept (∀ z ∈ M, z.2 = 0) := ⟨HO.out.cnt.none HO.out.map.nodup⟩
              obtain ⟨o, hrg, hR0⟩ := HO.out.map.range (P := Try.prog) Try.underlying53
              have hrm : wr.heap.size ≠ mb := by have := HO.out.map.lt; omega
              have HRA := Kept.mk hR0
              have HO5 := Kept.mk (HO.out.quiet ((Keeps.refl _ wr).alloc o))
              have HWR : Kept (w.heap.size ≤ wr.heap.size ∧ wr.heap.size ≠ p ∧ v.ownBlock ≠ some wr.heap.size) := ⟨HO.out.below.size, by have := HO.out.post.blk.lt; omega, fun e => by have := (HO.out.post.own.lt _ e).2; omega⟩
              clear hR0 HO
              go_wp2_with fail
              obtain ⟨rb, hrb⟩ : ∃ rb, wr.heap.size = rb := ⟨_, rfl⟩
              rw [hrb] at HRA HWR hrm
              rw [hrb]
              clear hrb hrg
              go_loopw [20] (fun _ wq => ∃ (todo : List (Ms × Int)), Kept (∀ z ∈ todo, z.2 = 0) ∧ RangeAt ekMs encInt wq rb mb M todo ∧ Kept (OnceAt w wq p mb [] [] M v)) (fun _ wq => wq.rangeLeft mb rb)
              case atStart => exact ⟨M, HZ, HRA.out, HO5⟩
              case round =>
                clear HRA HO5 HZ
                obtain ⟨todo, HZ, hR, HO⟩ := hrel
                rcases hR.next (P := Try.prog) 0 hrm with ⟨rfl, hnx⟩ | ⟨p1, y, vv, q1, w5, rfl, hnx, hen, hR2, k5, z5⟩
                · have HTk := Kept.mk (take_no p p 256 0 v [] 0 _ HO.out.post (.inr (by simp)))
                  clear hR
                  go_wp2_with fail
                  refine HTk.out.mono ?_
                  rintro e w4 ⟨rfl, k4⟩
                  have HO4 := Kept.mk ((HO.out.quiet k4).quiet ((Keeps.refl _ w4).alloc (.cells #[.int .i64 0, .int .i64 0, .int .i64 0, .int .i64 0, .int .i64 0, .int .i64 0, .int .i64 0] 55)))
                  clear k4 HTk hnx
                  go_wp2_with fail
                  refine (plost_to p p 256 0 v [] _ HO4.out.post).mono ?_
                  rintro e _ ⟨rfl, rfl⟩
                  go_wp2_with fail
                  refine (awake17_any _).mono ?_
                  rintro e w6 ⟨rfl, b6⟩
                  go_wp2_with fail
                  go_ret
                  exact ⟨rfl, HO4.out.below.trans (b6.mono HO4.out.below.size)⟩
                · obtain rfl : vv = 0 := HZ.out (y, vv) (by simp)
                  have HZ2 : Kept (∀ z ∈ p1 ++ q1, z.2 = 0) := ⟨fun z hz => HZ.out z (by
                    rw [List.mem_append] at hz ⊢
                    rcases hz with h | h
                    · exact .inl h
                    · exact .inr (List.mem_cons_of_mem _ h))⟩
                  have HO6 : Kept (OnceAt w w5 p mb [] [] M v) := ⟨⟨HO.out.post.keeps k5 (fun e => HWR.out.2.1 e.symm) (fun g hg e => HWR.out.2.2 (e ▸ hg)), hR2.map, HO.out.cnt, HO.out.ne, HO.out.pm, HO.out.bp, HO.out.bm, HO.out.below.trans (k5.below HO.out.below.size (fun i e => by have := HWR.out.1; omega))⟩⟩
                  have HL5 := Kept.mk hR.left_eq
                  have HR2 := Kept.mk hR2
                  unfold ekMs encMs encInt at hnx hen
                  clear hR hR2 k5
                  go_wp2_with fail
                  go_roundw
                  case rel => exact ⟨p1 ++ q1, HZ2, HR2.out, HO6⟩
                  case measure => rw [HR2.out.left_eq, HL5.out]; simp
theorem put_none17 (p c : Nat) (b : Option Addr) (w : World) : Calls Try.prog 25 #[.pointer (some ⟨p, 0, none⟩), .slice b 0 c] w (fun e w' => (∃ v, e = .returned v) ∧ w = w') := by
  go_enter Try.func25, Try.ntmps25
  go_wp2_with fail
  go_loopw [10] (fun i wr => i = .int .i64 0 ∧ w = wr) (fun _ _ => 0)
  case atStart => exact ⟨rfl, rfl⟩
  case round =>
    obtain ⟨rfl, rfl⟩ := hrel
    go_wp2_with fail
    go_end0
    exact ⟨⟨_, rfl⟩, rfl⟩
set_option linter.unusedSimpArgs false in
set_option linter.unusedVariables false in
set_option maxRecDepth 100000 in
set_option maxHeartbeats 16000000 in
theorem once17_nil (a0 a1 a2 : Option Addr) (c0 c1 c2 nd nt : Nat) (zd : Nat → Int) (w : World) (hd : IntRow w a1 nd zd) (hd1 : nd ≤ 60) : Calls Try.prog 7 #[.slice a0 0 c0, .slice a1 nd c1, .slice a2 nt c2] w (Yes w) := by
  have h60 : ¬ (60 : Int) < nd := by omega
  have hm256 : mostOf 256 = 256 := by decide
  have hmm := @run_makeMap Try.prog
  by_cases hz : nd = 0
  · subst hz
    go_enter Try.func7, Try.ntmps7
    go_wp2_with fail
    refine (pnew_to 256 _).mono ?_
    rintro e w1 ⟨rfl, h1, k1⟩
    rw [hm256] at h1
    have H1 := Kept.mk h1
    have K1 := Kept.mk k1
    have hpl := h1.blk.lt
    clear h1 k1
    go_wp2_with fail
    refine (put_none17 _ _ _ _).mono ?_
    rintro e _ ⟨⟨r, rfl⟩, rfl⟩
    have HO : Kept (OnceAt w (w1.alloc (.map #[] 0)) w.heap.size w1.heap.size [] [] [] (.slice none 0 0)) := ⟨by
      have ka := (Keeps.refl (fun _ => False) w1).alloc (.map #[] 0)
      exact ⟨H1.out.quiet ka, MapAt.new _ _ _, Cnt.nil, by simp [Value.ownBlock], by omega, Nat.le_refl _, K1.out.size, (K1.out.trans ka).below (Nat.le_refl _) (fun _ h => h.elim)⟩⟩
    clear H1 K1
    go_wp2_with fail
    obtain ⟨p, hp⟩ : ∃ p, w.heap.size = p := ⟨_, rfl⟩
    obtain ⟨mb, hmb⟩ : ∃ mb, w1.heap.size = mb := ⟨_, rfl⟩
    obtain ⟨w0, hw0⟩ : ∃ w0, w1.alloc (.map #[] 0) = w0 := ⟨_, rfl⟩
    rw [hmb, hp, hw0] at HO
    rw [hmb, hp, hw0]
    clear hmm hpl hmb hw0
    go_loopw [39] (fun i wr => i = .int .i64 0 ∧ w0 = wr) (fun _ _ => 0)
    case atStart => exact ⟨rfl, rfl⟩
    case round =>
      obtain ⟨rfl, rfl⟩ := hrel
      go_wp2_with fail
      go_loopw [52] (fun i wr => i = .int .i64 0 ∧ w0 = wr) (fun _ _ => 0)
      case atStart => exact ⟨rfl, rfl⟩
      case round =>
        obtain ⟨rfl, rfl⟩ := hrel
        go_wp2_with fail
        refine (plen_to p p 256 0 _ [] _ HO.out.post).mono ?_
        rintro e _ ⟨rfl, rfl⟩
        go_wp2_with fail
        go_loopw [83] (fun i wq => i = .int .i64 0 ∧ w0 = wq) (fun _ _ => 0)
        case atStart => exact ⟨rfl, rfl⟩
        case round =>
          obtain ⟨rfl, rfl⟩ := hrel
          obtain ⟨o, hrg, hR0⟩ := HO.out.map.range (P := Try.prog) Try.underlying53
          have hrm : w0.heap.size ≠ mb := by have := HO.out.map.lt; omega
          have HRA := Kept.mk hR0
          have HO5 := Kept.mk (HO.out.quiet ((Keeps.refl _ w0).alloc o))
          clear hR0
          go_wp2_with fail
          obtain ⟨rb, hrb⟩ : ∃ rb, w0.heap.size = rb := ⟨_, rfl⟩
          obtain ⟨w9, hw9⟩ : ∃ w9, w0.alloc o = w9 := ⟨_, rfl⟩
          rw [hrb, hw9] at HRA
          rw [hrb] at hrm
          rw [hw9] at HO5
          rw [hrb, hw9]
          clear hrb hrg hw9 HO
          go_loopw [20] (fun _ wq => w9 = wq) (fun _ wq => 0)
          case atStart => rfl
          case round =>
            obtain rfl := hrel
            rcases HRA.out.next (P := Try.prog) 0 hrm with ⟨_, hnx⟩ | ⟨p1, y, vv, q1, w5, he, _⟩
            · have HTk := Kept.mk (take_no p p 256 0 (.slice none 0 0) [] 0 _ HO5.out.post (.inr (by simp)))
              clear HRA
              go_wp2_with fail
              refine HTk.out.mono ?_
              rintro e w4 ⟨rfl, k4⟩
              have HO4 := Kept.mk ((HO5.out.quiet k4).quiet ((Keeps.refl _ w4).alloc (.cells #[.int .i64 0, .int .i64 0, .int .i64 0, .int .i64 0, .int .i64 0, .int .i64 0, .int .i64 0] 55)))
              clear k4 HTk hnx
              go_wp2_with fail
              refine (plost_to p p 256 0 (.slice none 0 0) [] _ HO4.out.post).mono ?_
              rintro e _ ⟨rfl, rfl⟩
              go_wp2_with fail
              refine (awake17_any _).mono ?_
              rintro e w6 ⟨rfl, b6⟩
              go_wp2_with fail
              go_ret
              exact ⟨rfl, HO4.out.below.trans (b6.mono HO4.out.below.size)⟩
            · simp at he
  · obtain ⟨b1, o1, ha1, hc1⟩ := hd
    obtain ⟨rfl, hb1⟩ : a1 = some ⟨b1, o1, none⟩ ∧ b1 < w.heap.size := ha1.resolve_right (fun h => hz h)
    obtain ⟨hc, _, _⟩ := hc1 0 (by omega)
    generalize zd 0 = d at hc
    have hn0 : (0 : Int) < nd := by omega
    clear hc1 ha1
    go_enter Try.func7, Try.ntmps7
    go_wp2_with fail
    refine (pnew_to 256 _).mono ?_
    rintro e w1 ⟨rfl, h1, k1⟩
    rw [hm256] at h1
    have H1 := Kept.mk h1
    have K1 := Kept.mk k1
    have hpl := h1.blk.lt
    clear h1 k1
    go_wp2_with fail
    refine (put_none17 _ _ _ _).mono ?_
    rintro e _ ⟨⟨r, rfl⟩, rfl⟩
    have HO : Kept (OnceAt w (w1.alloc (.map #[] 0)) w.heap.size w1.heap.size [] [] [] (.slice none 0 0)) := ⟨by
      have ka := (Keeps.refl (fun _ => False) w1).alloc (.map #[] 0)
      exact ⟨H1.out.quiet ka, MapAt.new _ _ _, Cnt.nil, by simp [Value.ownBlock], by omega, Nat.le_refl _, K1.out.size, (K1.out.trans ka).below (Nat.le_refl _) (fun _ h => h.elim)⟩⟩
    clear H1 K1
    go_wp2_with fail
    obtain ⟨p, hp⟩ : ∃ p, w.heap.size = p := ⟨_, rfl⟩
    obtain ⟨mb, hmb⟩ : ∃ mb, w1.heap.size = mb := ⟨_, rfl⟩
    obtain ⟨w0, hw0⟩ : ∃ w0, w1.alloc (.map #[] 0) = w0 := ⟨_, rfl⟩
    rw [hmb, hp, hw0] at HO
    rw [hmb, hp, hw0]
    clear hmm hpl hmb hw0
    have hcc := (HO.out.below.cell (p := ⟨b1, o1 + 0, none⟩) hb1).trans hc
    rw [Nat.add_zero] at hcc
    clear hc
    go_loopw [39] (fun i wr => i = .int .i64 0 ∧ w0 = wr) (fun _ _ => 0)
    case atStart => exact ⟨rfl, rfl⟩
    case round =>
      obtain ⟨rfl, rfl⟩ := hrel
      go_wp2_with fail
      go_loopw [52] (fun i wr => i = .int .i64 0 ∧ w0 = wr) (fun _ _ => 0)
      case atStart => exact ⟨rfl, rfl⟩
      case round =>
        obtain ⟨rfl, rfl⟩ := hrel
        go_wp2_with fail
        refine (plen_to p p 256 0 _ [] _ HO.out.post).mono ?_
        rintro e _ ⟨rfl, rfl⟩
        go_wp2_with fail
        go_loopw [83] (fun i wq => i = .int .i64 0 ∧ w0 = wq) (fun _ _ => 0)
        case atStart => exact ⟨rfl, rfl⟩
        case round =>
          obtain ⟨rfl, rfl⟩ := hrel
          obtain ⟨o, hrg, hR0⟩ := HO.out.map.range (P := Try.prog) Try.underlying53
          have hrm : w0.heap.size ≠ mb := by have := HO.out.map.lt; omega
          have HRA := Kept.mk hR0
          have HO5 := Kept.mk (HO.out.quiet ((Keeps.refl _ w0).alloc o))
          clear hR0
          go_wp2_with fail
          obtain ⟨rb, hrb⟩ : ∃ rb, w0.heap.size = rb := ⟨_, rfl⟩
          obtain ⟨w9, hw9⟩ : ∃ w9, w0.alloc o = w9 := ⟨_, rfl⟩
          rw [hrb, hw9] at HRA
          rw [hrb] at hrm
          rw [hw9] at HO5
          rw [hrb, hw9]
          clear hrb hrg hw9 HO
          go_loopw [20] (fun _ wq => w9 = wq) (fun _ wq => 0)
          case atStart => rfl
          case round =>
            obtain rfl := hrel
            rcases HRA.out.next (P := Try.prog) 0 hrm with ⟨_, hnx⟩ | ⟨p1, y, vv, q1, w5, he, _⟩
            · have HTk := Kept.mk (take_no p p 256 0 (.slice none 0 0) [] 0 _ HO5.out.post (.inr (by simp)))
              clear HRA
              go_wp2_with fail
              refine HTk.out.mono ?_
              rintro e w4 ⟨rfl, k4⟩
              have HO4 := Kept.mk ((HO5.out.quiet k4).quiet ((Keeps.refl _ w4).alloc (.cells #[.int .i64 0, .int .i64 0, .int .i64 0, .int .i64 0, .int .i64 0, .int .i64 0, .int .i64 0] 55)))
              clear k4 HTk hnx
              go_wp2_with fail
              refine (plost_to p p 256 0 (.slice none 0 0) [] _ HO4.out.post).mono ?_
              rintro e _ ⟨rfl, rfl⟩
              go_wp2_with fail
              refine (awake17_any _).mono ?_
              rintro e w6 ⟨rfl, b6⟩
              go_wp2_with fail
              go_ret
              exact ⟨rfl, HO4.out.below.trans (b6.mono HO4.out.below.size)⟩
            · simp at he
theorem once17_any (a0 a1 a2 : Option Addr) (c0 c1 c2 nd nt : Nat) (L : List Ms) (zd zt : Nat → Int) (w : World) (hL : MsRow w a0 L) (hd : IntRow w a1 nd zd) (ht : IntRow w a2 nt zt) (hl : (L.length : Int) ≤ 9223372036854775807) (hd1 : (nd : Int) ≤ 9223372036854775807) (ht1 : (nt : Int) ≤ 9223372036854775807) : Calls Try.prog 7 #[.slice a0 L.length c0, .slice a1 nd c1, .slice a2 nt c2] w (Yes w) := by
  by_cases h1 : L.length ≤ 100
  · by_cases h2 : nd ≤ 60
    · rcases Nat.eq_zero_or_pos L.length with h3 | h3
      · rw [h3]
        exact once17_nil a0 a1 a2 c0 c1 c2 nd nt zd w hd h2
      · exact once17_some a0 a1 a2 c0 c1 c2 nd nt L zd zt w hL hd ht h3 h1 h2 ht1
    · have h3 : ¬ (100 : Int) < L.length := by omega
      have h4 : (60 : Int) < nd := by omega
      clear hL hd ht
      go_enter Try.func7, Try.ntmps7
      go_wp2_with fail
      refine (awake17_any _).mono ?_
      rintro e w6 ⟨rfl, b6⟩
      go_wp2_with fail
      go_ret
      exact ⟨rfl, b6⟩
  · have h3 : (100 : Int) < L.length := by omega
    clear hL hd ht
    go_enter Try.func7, Try.ntmps7
    go_wp2_with fail
    refine (awake17_any _).mono ?_
    rintro e w6 ⟨rfl, b6⟩
    go_wp2_with fail
    go_ret
    exact ⟨rfl, b6⟩
end Go.Proofs.Ytkacnogjifhcoaa
