/- The law PostTakes, walked. (printed by gen/takes.py) -/
import Derived.Test.YtkacnogjifhcoaaPAll
import Derived.Test.YtkacnogjifhcoaaSameMs
import Derived.Test.YtkacnogjifhcoaaMsJoin
import Derived.Deep.RegionHeld3
namespace Go.Proofs.Ytkacnogjifhcoaa
open Go.RowKit
theorem put_small {most : Nat} : ∀ (M L : List Ms), L.length + M.length ≤ most → M.foldl (put1 most) (L, 0) = (L ++ M, 0)
  | [], L, _ => by simp
  | m :: r, L, h => by
    simp only [List.length_cons] at h
    rw [List.foldl_cons, put1_no (by omega), put_small r (L ++ [m]) (by simp; omega)]
    simp
theorem all_list2 (p : Value) (x : Int) (n : Nat) (L : List Ms) (w : World) (hx : x = n) (hn : n ≤ 100000) (hL : L.length ≤ 100000)
    (hI : ∀ w1, Keeps (fun _ => False) w w1 → Calls Try.prog 44 #[p] w1 fun e w2 => ∃ v, e = .returned v ∧ AllTo w1 w2 v L) :
    Calls Try.prog 30 #[p, .int .i64 x] w (fun e w' => (∃ v, e = .returned v ∧ MsOwn w' w.heap.size v (L.take n)) ∧ Keeps (fun _ => False) w w') := by
  subst hx
  exact all_list p n L w hn hL hI
theorem takes_app {W : World} {base eb g off i n c q : Nat} {A : Addr} {L : List Ms} (hE : MsOwn W base (.slice (some ⟨eb, 0, none⟩) 0 0) []) (hL : MsRow W (some ⟨g, off, none⟩) L) (hg : g < base) (hb : base ≤ W.heap.size) (hn : L.length = n) (hn2 : n ≤ 60) (hi : i < n) (hA : i + 1 < n → A = ⟨g, off + (i + 1) * 7, none⟩) (hq : n - 1 = q) :
    ∃ a8 c8 w8 a9 c9 w9, MsRun (.slice (some ⟨eb, 0, none⟩) 0 0) (.slice (some ⟨g, off, none⟩) i c) W (.slice a8 i c8) w8 ∧ MsOwn w8 base (.slice a8 i c8) (L.take i) ∧ Keeps (fun k => k = eb) W w8 ∧
      MsRun (.slice a8 i c8) (.slice (some A) (n - (i + 1)) (c - (i + 1))) w8 (.slice a9 q c9) w9 ∧ MsOwn w9 base (.slice a9 q c9) (L.eraseIdx i) ∧ Keeps (fun k => k = eb) W w9 := by
  have hlt : (L.take i).length = i := by rw [List.length_take]; omega
  obtain ⟨a8, c8, w8, r8, o8, k8, n8⟩ := ms_append_at (cc := c) (l := 0) (m := i) (r := i) hE rfl (msRow_take hL i) hlt (Nat.zero_add i) (by omega) hb
  have heb := (hE.lt eb rfl).1
  have hL8 : MsRow w8 (some ⟨g, off, none⟩) L := hL.keeps k8 (fun x hx e => by cases hx; simp only [Value.ownBlock, Option.some.injEq] at e; omega)
  rw [List.nil_append] at o8
  have hb8 : base ≤ w8.heap.size := by have := k8.size; omega
  obtain ⟨a9, c9, w9, r9, o9, k9, _⟩ := ms_append_at (cc := c - (i + 1)) (l := i) (m := n - (i + 1)) (r := q) o8 hlt (msRow_drop (k := i + 1) hL8 (fun h => hA (by omega))) (by rw [List.length_drop]; omega) (by omega) (by omega) hb8
  rw [← List.eraseIdx_eq_take_drop_succ] at o9
  exact ⟨a8, c8, w8, a9, c9, w9, r8, o8, k8.mono (fun k _ h => by simp only [Value.ownBlock, Option.some.injEq] at h; exact h.symm), r9, o9, (k8.mono (fun k _ h => by simp only [Value.ownBlock, Option.some.injEq] at h; exact h.symm)).then k9 (fun j hj h => by
    rcases n8 j h with h1 | h1
    · simp only [Value.ownBlock, Option.some.injEq] at h1; exact h1.symm
    · omega)⟩
/-- The second append, where the first one's row lies already. -/
theorem takes_app2 {W : World} {base g off i n c8 c q : Nat} {a8 : Option Addr} {A : Addr} {L : List Ms} (o8 : MsOwn W base (.slice a8 i c8) (L.take i)) (hL : MsRow W (some ⟨g, off, none⟩) L) (hb : base ≤ W.heap.size) (hn : L.length = n) (hn2 : n ≤ 60) (hi : i < n) (hA : i + 1 < n → A = ⟨g, off + (i + 1) * 7, none⟩) (hq : n - 1 = q) :
    ∃ a9 c9 w9, MsRun (.slice a8 i c8) (.slice (some A) (n - (i + 1)) (c - (i + 1))) W (.slice a9 q c9) w9 ∧ MsOwn w9 base (.slice a9 q c9) (L.eraseIdx i) ∧ Keeps (fun k => (Value.slice a8 i c8).ownBlock = some k) W w9 := by
  have hlt : (L.take i).length = i := by rw [List.length_take]; omega
  obtain ⟨a9, c9, w9, r9, o9, k9, _⟩ := ms_append_at (cc := c - (i + 1)) (l := i) (m := n - (i + 1)) (r := q) o8 hlt (msRow_drop (k := i + 1) hL (fun h => hA (by omega))) (by rw [List.length_drop]; omega) (by omega) (by omega) hb
  rw [← List.eraseIdx_eq_take_drop_succ] at o9
  exact ⟨a9, c9, w9, r9, o9, k9⟩
theorem takes_kb {w6 W w9 : World} {S : Nat → Prop} (k : Keeps (fun _ => False) w6 W) (k9 : Keeps S W w9) (h : ∀ j, S j → w6.heap.size ≤ j) : Keeps (fun _ => False) w6 w9 := k.then k9 (fun j hj e => by have := h j e; omega)
theorem MsOwn.rowK {w w' : World} {base : Nat} {a : Option Addr} {n c : Nat} {L : List Ms} {S : Nat → Prop} (h : MsOwn w base (.slice a n c) L) (k : Keeps S w w') (hs : ∀ j, S j → j < base) : MsRow w' a L :=
  (h.keeps k (fun g hg e => by have := (h.lt g hg).1; have := hs g e; omega)).row
theorem takes_keep {W : World} {p g o2 : Nat} {T : TypeId} {m : Ms} (h : Blk W p T (encMs m)) (hc : ∀ j u, (encMs m)[j]? = some u → W.cell? ⟨g, o2 + j, none⟩ = some u) : (W.cell? ⟨p, 0, none⟩ = some (.int .i64 m.kind) ∧ W.cell? ⟨p, 1, none⟩ = some (.int .i64 m.src) ∧ W.cell? ⟨p, 2, none⟩ = some (.int .i64 m.dst) ∧ W.cell? ⟨p, 3, none⟩ = some (.int .i64 m.id) ∧ W.cell? ⟨p, 4, none⟩ = some (.int .i64 m.step) ∧ W.cell? ⟨p, 5, none⟩ = some (.int .i64 m.a) ∧ W.cell? ⟨p, 6, none⟩ = some (.int .i64 m.b) ∧ W.cell? ⟨g, o2, none⟩ = some (.int .i64 m.kind) ∧ W.cell? ⟨g, o2 + 1, none⟩ = some (.int .i64 m.src) ∧ W.cell? ⟨g, o2 + 2, none⟩ = some (.int .i64 m.dst) ∧ W.cell? ⟨g, o2 + 3, none⟩ = some (.int .i64 m.id) ∧ W.cell? ⟨g, o2 + 4, none⟩ = some (.int .i64 m.step) ∧ W.cell? ⟨g, o2 + 5, none⟩ = some (.int .i64 m.a) ∧ W.cell? ⟨g, o2 + 6, none⟩ = some (.int .i64 m.b)) :=
  ⟨h.cell 0 rfl, h.cell 1 rfl, h.cell 2 rfl, h.cell 3 rfl, h.cell 4 rfl, h.cell 5 rfl, h.cell 6 rfl, hc 0 _ rfl, hc 1 _ rfl, hc 2 _ rfl, hc 3 _ rfl, hc 4 _ rfl, hc 5 _ rfl, hc 6 _ rfl⟩
set_option linter.unusedSimpArgs false in
set_option linter.unusedVariables false in
set_option maxRecDepth 100000 in
set_option maxHeartbeats 16000000 in
theorem takes_any (a : Option Addr) (c : Nat) (L : List Ms) (x : Int) (w : World) (hR : MsRow w a L) (hlc : L.length ≤ c) (hcm : c ≤ maxLen) : Calls Try.prog 9 #[.slice a L.length c, .int .i64 x] w (Yes w) := by
  have hli : (L.length : Int) ≤ 9223372036854775807 := by unfold maxLen at hcm; omega
  have HR := Kept.mk hR
  clear hR
  by_cases hn0 : L.length = 0
  · have hz : (L.length : Int) = 0 := by omega
    go_enter Try.func9, Try.ntmps9
    go_wp2_with fail
    exact (awake17_any _).mono fun e w5 ⟨he, b5⟩ => by
      subst he
      go_wp2_with fail
      go_ret
      exact ⟨rfl, b5⟩
  have hnz : ¬ (L.length : Int) = 0 := by omega
  by_cases h60 : (60 : Int) < L.length
  · go_enter Try.func9, Try.ntmps9
    go_wp2_with fail
    refine (awake17_any _).mono ?_
    rintro e w5 ⟨rfl, b5⟩
    go_wp2_with fail
    go_ret
    exact ⟨rfl, b5⟩
  have hkk := mod_range x L.length (by omega) (by omega)
  obtain ⟨qi, Hq⟩ : ∃ q, Kept (wrap64 ((IntKind.u64.wrap x).tmod ↑L.length) = q) := ⟨_, ⟨rfl⟩⟩
  rw [Hq.out] at hkk
  obtain ⟨i, rfl⟩ := Int.eq_ofNat_of_zero_le hkk.1
  have hi : i < L.length := by omega
  clear hkk
  obtain ⟨m, hm⟩ : ∃ m, L[i]? = some m := ⟨_, List.getElem?_eq_getElem hi⟩
  obtain ⟨g, off, rfl, hgl, hcm0⟩ := HR.out i m hm
  go_enter Try.func9, Try.ntmps9
  go_wp2_with fail
  rw [Hq.out]
  clear Hq
  refine (pnew_to 256 _).mono ?_
  rintro e w1 ⟨rfl, h1, k1⟩
  have hmo : mostOf 256 = 256 := by decide
  rw [hmo] at h1
  have H1 := Kept.mk h1
  have K1 := Kept.mk k1
  have HPut := Kept.mk (put_to w.heap.size w.heap.size 256 0 _ [] L (some ⟨g, off, none⟩) L.length c _ h1 (HR.out.quiet k1) rfl (by omega) (fun z hz => by cases hz; exact ⟨by show g ≠ w.heap.size; omega, fun e => by simp [Value.ownBlock] at e⟩) k1.size)
  clear h1 k1 hmo
  go_wp2_with fail
  refine HPut.out.mono ?_
  rintro e w2 ⟨⟨r, rfl⟩, v2, h2, k2, n2⟩
  rw [put_small L [] (by simp; omega), List.nil_append] at h2
  have H2 := Kept.mk h2
  have K2 : Kept (Keeps (fun _ => False) w w2) := ⟨K1.out.then k2 (fun j hj e => by
    rcases e with h | h
    · omega
    · simp [Value.ownBlock] at h)⟩
  clear h2 k2 n2 HPut H1 K1
  go_wp2_with fail
  refine (take_to w.heap.size w.heap.size 256 0 i v2 L m _ _ H2.out rfl hm).mono ?_
  rintro e w3 ⟨rfl, v3, h3, k3, n3⟩
  have hv2 := H2.out.own.lt
  have K3 : Kept (Keeps (fun _ => False) w w3) := ⟨K2.out.then k3 (fun j hj e => by
    rcases e with h | h
    · omega
    · have := (hv2 _ h).1; omega)⟩
  have HX3 := Kept.mk (Blk.new w3 55 (encMs m))
  have H3 := Kept.mk (h3.quiet ((Keeps.refl (fun _ => False) w3).alloc (.cells (encMs m).toArray 55)))
  have hs3 : w.heap.size ≤ w3.heap.size := K3.out.size
  obtain ⟨pb, hpb⟩ : ∃ p, p = w3.heap.size := ⟨_, rfl⟩
  have K3b := Kept.mk (K3.out.alloc (.cells (encMs m).toArray 55))
  rw [← hpb] at HX3
  have hlen3 : (L.eraseIdx i).length = L.length - 1 := by rw [List.length_eraseIdx, if_pos hi]
  obtain ⟨m0, m1, m2, m3, m4, m5, m6⟩ := m
  clear h3 k3 n3 H2 K2 hv2
  dsimp only [encMs]
  go_wp2_with fail
  refine (take_no w.heap.size w.heap.size 256 0 v3 _ (-1) _ H3.out (.inl (by omega))).mono ?_
  rintro e w4 ⟨rfl, k4⟩
  have KA4 := (Keeps.refl (fun _ => False) w4).alloc (.cells #[.int .i64 0, .int .i64 0, .int .i64 0, .int .i64 0, .int .i64 0, .int .i64 0, .int .i64 0] 55)
  have H4 := Kept.mk (H3.out.quiet (k4.trans KA4))
  have K4 := Kept.mk (K3b.out.trans (k4.trans KA4))
  have HX4 := Kept.mk (HX3.out.keeps (k4.trans KA4) (fun h => h))
  clear KA4 k4 H3 K3 K3b HX3
  go_wp2_with fail
  refine (take_no w.heap.size w.heap.size 256 0 v3 _ _ _ H4.out (.inr (by rw [hlen3]; omega))).mono ?_
  rintro e w5 ⟨rfl, k5⟩
  go_wp2_with fail
  have KA5 := (Keeps.refl (fun _ => False) w5).alloc (.cells #[.int .i64 0, .int .i64 0, .int .i64 0, .int .i64 0, .int .i64 0, .int .i64 0, .int .i64 0] 55)
  obtain ⟨w6, hw6⟩ : ∃ w6, w5.alloc (.cells #[.int .i64 0, .int .i64 0, .int .i64 0, .int .i64 0, .int .i64 0, .int .i64 0, .int .i64 0] 55) = w6 := ⟨_, rfl⟩
  rw [hw6] at KA5
  have H6 := Kept.mk (H4.out.quiet (k5.trans KA5))
  have K6 := Kept.mk (K4.out.trans (k5.trans KA5))
  have HX6 := Kept.mk (HX4.out.keeps (k5.trans KA5) (fun h => h))
  clear KA5 k5 H4 K4 HX4
  rw [hw6]
  clear hw6
  obtain ⟨q, hq⟩ : ∃ q, L.length - 1 = q := ⟨_, rfl⟩
  have hE100 : (L.eraseIdx i).take 100 = L.eraseIdx i := List.take_of_length_le (by rw [hlen3]; omega)
  have hEq : (L.eraseIdx i).length = q := by rw [hlen3, hq]
  obtain ⟨A, q3, hA⟩ := ms_from g off L.length c i hi hlc
  have q2 := ms_upto (some ⟨g, off, none⟩) L.length i c (by omega)
  have hcmp : ∀ w, (Op.equalIn 10000 55 (.agg #[.int .i64 m0, .int .i64 m1, .int .i64 m2, .int .i64 m3, .int .i64 m4, .int .i64 m5, .int .i64 m6]) (.agg #[.int .i64 m0, .int .i64 m1, .int .i64 m2, .int .i64 m3, .int .i64 m4, .int .i64 m5, .int .i64 m6])).run Try.prog w = .ok true w := fun w => eqMs ⟨m0, m1, m2, m3, m4, m5, m6⟩ w
  have hgm := guardMs
  have hs6 : w.heap.size ≤ w6.heap.size := K6.out.size
  have hgw6 : g < w6.heap.size := by omega
  have hcm6 : Kept (∀ j u, (encMs ⟨m0, m1, m2, m3, m4, m5, m6⟩)[j]? = some u → w6.cell? ⟨g, off + i * 7 + j, none⟩ = some u) := ⟨fun j u hu => (K6.out.cell (p := ⟨g, off + i * 7 + j, none⟩) hgl (fun h => h)).trans (hcm0 j u hu)⟩
  have HX7 : Kept (Blk w6 w3.heap.size 55 (encMs ⟨m0, m1, m2, m3, m4, m5, m6⟩)) := ⟨by rw [← hpb]; exact HX6.out⟩
  have HKP : Kept (∀ W, Keeps (fun _ => False) w6 W → (W.cell? ⟨w3.heap.size, 0, none⟩ = some (.int .i64 m0) ∧ W.cell? ⟨w3.heap.size, 1, none⟩ = some (.int .i64 m1) ∧ W.cell? ⟨w3.heap.size, 2, none⟩ = some (.int .i64 m2) ∧ W.cell? ⟨w3.heap.size, 3, none⟩ = some (.int .i64 m3) ∧ W.cell? ⟨w3.heap.size, 4, none⟩ = some (.int .i64 m4) ∧ W.cell? ⟨w3.heap.size, 5, none⟩ = some (.int .i64 m5) ∧ W.cell? ⟨w3.heap.size, 6, none⟩ = some (.int .i64 m6) ∧ W.cell? ⟨g, off + i * 7, none⟩ = some (.int .i64 m0) ∧ W.cell? ⟨g, off + i * 7 + 1, none⟩ = some (.int .i64 m1) ∧ W.cell? ⟨g, off + i * 7 + 2, none⟩ = some (.int .i64 m2) ∧ W.cell? ⟨g, off + i * 7 + 3, none⟩ = some (.int .i64 m3) ∧ W.cell? ⟨g, off + i * 7 + 4, none⟩ = some (.int .i64 m4) ∧ W.cell? ⟨g, off + i * 7 + 5, none⟩ = some (.int .i64 m5) ∧ W.cell? ⟨g, off + i * 7 + 6, none⟩ = some (.int .i64 m6))) := ⟨fun W kk => takes_keep (HX7.out.keeps kk (fun h => h)) (fun j u hu => (kk.cell (p := ⟨g, off + i * 7 + j, none⟩) hgw6 (fun h => h)).trans (hcm6.out j u hu))⟩
  have KC : Kept (Keeps (fun _ => False) w6 w6.drew) := ⟨(Keeps.refl _ _).drew⟩
  have HL6 := Kept.mk (HR.out.quiet K6.out)
  have HA := Kept.mk hA
  have HEQ := Kept.mk hEq
  have HE100 := Kept.mk hE100
  have hq60 : q ≤ 60 := by omega
  have hn60 : L.length ≤ 60 := by omega
  have hii : (i : Int) < L.length := by omega
  have hil : (i : Int) + 1 ≤ L.length := by omega
  have hic : (i : Int) ≤ c := by omega
  have HQ := Kept.mk hq
  have HE5 : Kept ((L.eraseIdx i).length ≤ 100000) := ⟨by omega⟩
  have HQ5 : Kept (q ≤ 100000) := ⟨by omega⟩
  have hwr : IntKind.i64.wrap ((i : Int) + 1) = (i : Int) + 1 := by rw [IntKind.wrap_i64]; omega
  clear hA hEq hE100 hpb hcm0 hq HX6 hlen3 hm
  have KE : Kept (Keeps (fun _ => False) w6 (w6.alloc (.cells #[] 55)).drew) := ⟨((Keeps.refl _ w6).alloc _).drew⟩
  have OE : Kept (MsOwn (w6.alloc (.cells #[] 55)).drew w6.heap.size (.slice (some ⟨w6.heap.size, 0, none⟩) 0 0) []) := ⟨(msOwn_empty w6).quiet ((Keeps.refl _ _).drew)⟩
  have KEL : Kept (w6.heap.size < (w6.alloc (.cells #[] 55)).drew.heap.size) := ⟨by show _ < (w6.alloc _).heap.size; simp⟩
  obtain ⟨a8e, c8e, w8e, a9e, c9e, w9e, r8e, o8e, k8e, r9e, o9e, k9e⟩ := takes_app (c := c) OE.out (HL6.out.quiet KE.out) hgw6 KE.out.size rfl hn60 hi HA.out HQ.out
  have K8e := Kept.mk (takes_kb KE.out k8e (fun j e => by rw [e]; exact Nat.le_refl _))
  have K9e := Kept.mk (takes_kb KE.out k9e (fun j e => by rw [e]; exact Nat.le_refl _))
  have O8e := Kept.mk o8e
  have O9e := Kept.mk o9e
  clear o8e o9e k8e k9e
  go_region_held3 (fun W => (W.cell? ⟨w3.heap.size, 0, none⟩ = some (.int .i64 m0) ∧ W.cell? ⟨w3.heap.size, 1, none⟩ = some (.int .i64 m1) ∧ W.cell? ⟨w3.heap.size, 2, none⟩ = some (.int .i64 m2) ∧ W.cell? ⟨w3.heap.size, 3, none⟩ = some (.int .i64 m3) ∧ W.cell? ⟨w3.heap.size, 4, none⟩ = some (.int .i64 m4) ∧ W.cell? ⟨w3.heap.size, 5, none⟩ = some (.int .i64 m5) ∧ W.cell? ⟨w3.heap.size, 6, none⟩ = some (.int .i64 m6) ∧ W.cell? ⟨g, off + i * 7, none⟩ = some (.int .i64 m0) ∧ W.cell? ⟨g, off + i * 7 + 1, none⟩ = some (.int .i64 m1) ∧ W.cell? ⟨g, off + i * 7 + 2, none⟩ = some (.int .i64 m2) ∧ W.cell? ⟨g, off + i * 7 + 3, none⟩ = some (.int .i64 m3) ∧ W.cell? ⟨g, off + i * 7 + 4, none⟩ = some (.int .i64 m4) ∧ W.cell? ⟨g, off + i * 7 + 5, none⟩ = some (.int .i64 m5) ∧ W.cell? ⟨g, off + i * 7 + 6, none⟩ = some (.int .i64 m6))) (refine HKP.out _ ?_ <;> (first | exact KC.out | exact KC.out.alloc _ | exact K8a.out | exact K9a.out | exact KE.out | exact K8e.out | exact K9e.out)) (first
    | (go_at_call 31; refine HSame.out.mono ?_; rintro e w' ⟨rfl, nn, rfl⟩; have KC := Kept.mk (K9a.out.drewN nn))
    | (go_at_call 30; (with_reducible refine (all_list2 (.pointer (some ⟨w.heap.size, 0, none⟩)) 100 100 (L.eraseIdx i) _ rfl (by decide) HE5.out (fun w1 kk => pall_to _ _ _ _ _ _ _ (H6.out.quiet (KC.out.trans kk)))).mono ?_); rintro e w7 ⟨⟨v7, rfl, h7⟩, k7⟩; rw [HE100.out] at h7; obtain ⟨a7, c7, rfl, -, -⟩ := h7.slice; rw [HEQ.out]; rw [HEQ.out] at h7; have KC := Kept.mk (KC.out.trans k7); obtain ⟨a8, c8, w8, a9, c9, w9, r8, o8, k8, r9, o9, k9⟩ := takes_app (c := c) (msOwn_empty w7) ((HL6.out.quiet KC.out).quiet ((Keeps.refl (fun _ => False) w7).alloc (.cells #[] 55))) (Nat.lt_of_lt_of_le hgw6 KC.out.size) (by simp) rfl hn60 hi HA.out HQ.out; have K8a := Kept.mk (takes_kb (KC.out.alloc _) k8 (fun j e => by rw [e]; exact KC.out.size)); have K9a := Kept.mk (takes_kb (KC.out.alloc _) k9 (fun j e => by rw [e]; exact KC.out.size)); have HSame := Kept.mk (sameMs_yes a7 a9 c7 c9 q (L.eraseIdx i) w9 ((h7.quiet ((Keeps.refl (fun _ => False) w7).alloc _)).keeps k9 (fun g' hg' e => by have := (h7.lt g' hg').2; omega)).row o9.row HEQ.out.symm HQ5.out); clear o8 o9 k8 k9; clear h7 k7)
    | (go_at_call 30; (with_reducible refine (all_list2 (.pointer (some ⟨w.heap.size, 0, none⟩)) 100 100 (L.eraseIdx i) _ rfl (by decide) HE5.out (fun w1 kk => pall_to _ _ _ _ _ _ _ (H6.out.quiet (KE.out.trans kk)))).mono ?_); rintro e w7 ⟨⟨v7, rfl, h7⟩, k7⟩; rw [HE100.out] at h7; obtain ⟨a7, c7, rfl, -, -⟩ := h7.slice; rw [HEQ.out]; rw [HEQ.out] at h7; have KC := Kept.mk (KE.out.trans k7); obtain ⟨a8, c8, w8, a9, c9, w9, r8, o8, k8, r9, o9, k9⟩ := takes_app (c := c) (OE.out.quiet k7) (HL6.out.quiet KC.out) hgw6 KC.out.size rfl hn60 hi HA.out HQ.out; have K8a := Kept.mk (takes_kb KC.out k8 (fun j e => by rw [e]; exact Nat.le_refl _)); have K9a := Kept.mk (takes_kb KC.out k9 (fun j e => by rw [e]; exact Nat.le_refl _)); have HSame := Kept.mk (sameMs_yes a7 a9 c7 c9 q (L.eraseIdx i) w9 (h7.rowK k9 (fun j e => by rw [e]; exact KEL.out)) o9.row HEQ.out.symm HQ5.out); clear o8 o9 k8 k9; clear h7 k7)
    | (go_at_call 30; (with_reducible refine (all_list2 (.pointer (some ⟨w.heap.size, 0, none⟩)) 100 100 (L.eraseIdx i) _ rfl (by decide) HE5.out (fun w1 kk => pall_to _ _ _ _ _ _ _ (H6.out.quiet (K8e.out.trans kk)))).mono ?_); rintro e w7 ⟨⟨v7, rfl, h7⟩, k7⟩; rw [HE100.out] at h7; obtain ⟨a7, c7, rfl, -, -⟩ := h7.slice; rw [HEQ.out]; rw [HEQ.out] at h7; have KC := Kept.mk (K8e.out.trans k7); obtain ⟨a9, c9, w9, r9, o9, k9⟩ := takes_app2 (c := c) (O8e.out.quiet k7) (HL6.out.quiet KC.out) KC.out.size rfl hn60 hi HA.out HQ.out; have K8a := KC; have K9a := Kept.mk (takes_kb KC.out k9 (fun j e => (O8e.out.lt j e).1)); have HSame := Kept.mk (sameMs_yes a7 a9 c7 c9 q (L.eraseIdx i) w9 (h7.rowK k9 (fun j e => (O8e.out.lt j e).2)) o9.row HEQ.out.symm HQ5.out); clear o9 k9; clear h7 k7)
    | (go_at_call 30; (with_reducible refine (all_list2 (.pointer (some ⟨w.heap.size, 0, none⟩)) 100 100 (L.eraseIdx i) _ rfl (by decide) HE5.out (fun w1 kk => pall_to _ _ _ _ _ _ _ (H6.out.quiet (K9e.out.trans kk)))).mono ?_); rintro e w7 ⟨⟨v7, rfl, h7⟩, k7⟩; rw [HE100.out] at h7; obtain ⟨a7, c7, rfl, -, -⟩ := h7.slice; rw [HEQ.out]; rw [HEQ.out] at h7; have KC := Kept.mk (K9e.out.trans k7); have K8a := KC; have K9a := KC; have HSame := Kept.mk (sameMs_yes a7 a9e c7 c9e q (L.eraseIdx i) w7 h7.row (O9e.out.quiet k7).row HEQ.out.symm HQ5.out); clear h7 k7)
    | (refine step_ms (by simp [Region.wanted, yielded]) _ _ rfl rfl rfl rfl r9 ?_)
    | (refine step_ms (by simp [Region.wanted, yielded]) _ _ rfl rfl rfl rfl r8 ?_)
    | (refine step_ms (by simp [Region.wanted, yielded]) _ _ rfl rfl rfl rfl r9e ?_)
    | (refine step_ms (by simp [Region.wanted, yielded]) _ _ rfl rfl rfl rfl r8e ?_)
    | (go_at_call 23; refine (awake17_any _).mono ?_; rintro e w' ⟨rfl, b'⟩; have KC := Kept.mk (KC.out.trans (Keeps.of_below b' _)); clear b'))
  all_goals
    go_wp2_with fail
    go_ret
    exact ⟨rfl, (K6.out.trans KC.out).below (Nat.le_refl _) (fun _ h => h.elim)⟩
end Go.Proofs.Ytkacnogjifhcoaa
