/- The law ModelSees, walked. (printed by gen/sees.py) -/
import Derived.Test.YtjlfkpimjjnolaaSeesLaw
import Derived.Test.YtjlfkpimjjnolaaAcApp
import Derived.Test.YtjlfkpimjjnolaaTsee
import Derived.Test.YtjlfkpimjjnolaaNewTr
import Derived.Test.YtjlfkpimjjnolaaSameAc
import Derived.Test.YtjlfkpimjjnolaaOrd4
import Derived.Test.YtjlfkpimjjnolaaOpen3
import Derived.Deep.RegionHeld3
namespace Go.Proofs.Ytjlfkpimjjnolaa
open Go.RowKit
theorem ModAt.pastS {w w' : World} {p : Nat} {a b : Option Addr} {c d : Nat} {o : Ord} {A : List Act2} {S : Nat → Prop} (h : ModAt w p a c b d o A) (k : Keeps S w w') (hp : ¬ S p) (ha : ∀ z, a = some z → o.steps ≠ [] → ¬ S z.block) (hb : ∀ z, b = some z → ¬ S z.block) : ModAt w' p a c b d o A :=
  ⟨h.cells.keeps k hp, by
    intro i x hx
    have hne : o.steps ≠ [] := fun e => by rw [e] at hx; simp at hx
    obtain ⟨g, off, e, hl, h0, h1⟩ := h.steps i x hx
    have hg := ha _ e hne
    exact ⟨g, off, e, Nat.lt_of_lt_of_le hl k.size, (k.cell (p := ⟨g, off + i * 2, none⟩) hl hg).trans h0, (k.cell (p := ⟨g, off + i * 2 + 1, none⟩) hl hg).trans h1⟩, h.acts.keeps k hb, h.sa, h.sb, h.may, h.len⟩
theorem TrAt.pastS {w w' : World} {p bd bu : Nat} {o : Ord} {a : Option Addr} {c d u : Nat} {x y z : Bool} {S : Nat → Prop} (h : TrAt w p bd bu o a c d u x y z) (k : Keeps S w w') (h1 : ¬ S p) (h2 : ¬ S bd) (h3 : ¬ S bu) : TrAt w' p bd bu o a c d u x y z :=
  ⟨h.pb.keeps k h1, h.db.keeps k h2, h.ub.keeps k h3, h.n1, h.n2, h.n3⟩
set_option linter.unusedSimpArgs false in
set_option linter.unusedVariables false in
set_option maxRecDepth 100000 in
set_option maxHeartbeats 16000000 in
theorem sees_walk (o : Ord) (a b : Option Addr) (c d : Nat) (L : List Act2) (w : World) (hL : StRow w a o.steps) (hc1 : o.steps.length ≤ c) (hc2 : c ≤ maxLen) (hA : AcRow w b L) (hd1 : L.length ≤ maxLen) :
    Calls Try.prog 7 #[.agg #[.int .i64 o.id, .int .i64 o.item, .int .i64 o.qty, .int .i64 o.client, .int .i64 o.price, .slice a o.steps.length c], .slice b L.length d] w (Yes w) := by
  have hm : o.steps.length ≤ maxLen := Nat.le_trans hc1 hc2
  have hmi : (o.steps.length : Int) ≤ 9223372036854775807 := by unfold maxLen at hm; omega
  have hdi : (L.length : Int) ≤ 9223372036854775807 := by unfold maxLen at hd1; omega
  have HO := Kept.mk (Blk.new w 24 [.int .i64 o.id, .int .i64 o.item, .int .i64 o.qty, .int .i64 o.client, .int .i64 o.price, .slice a o.steps.length c])
  have K0 := Kept.mk ((Keeps.refl (fun _ => False) w).alloc (.cells #[.int .i64 o.id, .int .i64 o.item, .int .i64 o.qty, .int .i64 o.client, .int .i64 o.price, .slice a o.steps.length c] 24))
  have HL := Kept.mk hL
  have HA := Kept.mk hA
  have HC1 := Kept.mk hc1
  have HC2 := Kept.mk hc2
  have HM := Kept.mk hm
  clear hL hA hm hc1 hc2 hd1
  by_cases h10 : (10 : Int) < o.steps.length
  · go_enter Try.func7, Try.ntmps7
    go_wp2_with fail
    refine (awake23_any _).mono ?_
    rintro e w5 ⟨rfl, b5⟩
    go_wp2_with fail
    go_ret
    exact ⟨rfl, ((Below.refl _ w).alloc (Nat.le_refl _) _).trans (b5.mono (by simp))⟩
  by_cases h60 : (60 : Int) < L.length
  · go_enter Try.func7, Try.ntmps7
    go_wp2_with fail
    refine (awake23_any _).mono ?_
    rintro e w5 ⟨rfl, b5⟩
    go_wp2_with fail
    go_ret
    exact ⟨rfl, ((Below.refl _ w).alloc (Nat.le_refl _) _).trans (b5.mono (by simp))⟩
  cases hmay : o.may with
  | false =>
    have Hmay := Kept.mk hmay
    clear hmay
    go_enter Try.func7, Try.ntmps7
    go_wp2_with fail
    refine (newM_no o a c _ (HL.out.alloc _) HM.out Hmay.out).mono ?_
    rintro e w1 ⟨rfl, k1⟩
    have K1 := Kept.mk (K0.out.trans k1)
    have ho1 := HO.out.keeps k1 (fun h => h)
    obtain ⟨x0, x1, x2, x3, x4, x5⟩ : _ ∧ _ ∧ _ ∧ _ ∧ _ ∧ _ := ⟨ho1.cell 0 rfl, ho1.cell 1 rfl, ho1.cell 2 rfl, ho1.cell 3 rfl, ho1.cell 4 rfl, ho1.cell 5 rfl⟩
    clear k1 ho1
    go_wp2_with fail
    refine (romay_to o a c false _ (HL.out.quiet K1.out) HM.out HC1.out HC2.out Hmay.out).mono ?_
    rintro e w2 ⟨rfl, k2⟩
    have B1 := Kept.mk ((K1.out.trans k2).below (Nat.le_refl _) (fun _ h => h.elim))
    clear k2
    go_wp2_with fail
    refine (awake23_any _).mono ?_
    rintro e w5 ⟨rfl, b5⟩
    go_wp2_with fail
    go_ret
    exact ⟨rfl, B1.out.trans (b5.mono B1.out.size)⟩
  | true =>
    have Hmay := Kept.mk hmay
    have hl3 := Ord.may_len hmay
    clear hmay
    go_enter Try.func7, Try.ntmps7
    go_wp2_with fail
    refine (newM_yes o a c _ (HL.out.alloc _) Hmay.out).mono ?_
    rintro e w1 ⟨p, a2, c2, rfl, h1, hp, k1⟩
    have H1 := Kept.mk h1
    have K1 := Kept.mk (K0.out.trans k1)
    have ho1 := HO.out.keeps k1 (fun h => h)
    have HO1 := Kept.mk ho1
    obtain ⟨x0, x1, x2, x3, x4, x5⟩ : _ ∧ _ ∧ _ ∧ _ ∧ _ ∧ _ := ⟨ho1.cell 0 rfl, ho1.cell 1 rfl, ho1.cell 2 rfl, ho1.cell 3 rfl, ho1.cell 4 rfl, ho1.cell 5 rfl⟩
    clear k1 ho1 h1
    go_wp2_with fail
    refine (romay_to o a c true _ (HL.out.quiet K1.out) HM.out HC1.out HC2.out Hmay.out).mono ?_
    rintro e w2 ⟨rfl, k2⟩
    have H2 := Kept.mk (H1.out.keeps k2)
    have K2 := Kept.mk (K1.out.trans k2)
    have ho2 := HO1.out.keeps k2 (fun h => h)
    have HO2 := Kept.mk ho2
    clear x0 x1 x2 x3 x4 x5 k2 H1 HO1 K1
    obtain ⟨x0, x1, x2, x3, x4, x5⟩ : _ ∧ _ ∧ _ ∧ _ ∧ _ ∧ _ := ⟨ho2.cell 0 rfl, ho2.cell 1 rfl, ho2.cell 2 rfl, ho2.cell 3 rfl, ho2.cell 4 rfl, ho2.cell 5 rfl⟩
    clear ho2
    go_wp2_with fail
    refine (newTr_to o a c _ (by omega)).mono ?_
    rintro e w3 ⟨⟨tp, bd, bu, rfl, g1, g2, g3, ht⟩, k3⟩
    have H3 := Kept.mk (H2.out.keeps k3)
    have K3 := Kept.mk (K2.out.trans k3)
    have HO3 := Kept.mk (HO2.out.keeps k3 (fun h => h))
    have HT3 := Kept.mk ht
    have hpw := H2.out.cells.lt
    have hwp : w.heap.size < p := by rw [World.size_alloc] at hp; omega
    have HI0 := Kept.mk (MInv.zero Hmay.out)
    have HS2 := Kept.mk H2.out.steps
    have K23 := Kept.mk k3.size
    clear x0 x1 x2 x3 x4 x5 k3 ht H2 K2 HO2
    go_wp2_with fail
    have HA2 : Kept (∀ q, a2 = some q → o.steps ≠ [] → ¬ (q.block = tp ∨ q.block = bd ∨ q.block = bu) ∧ q.block < w3.heap.size) := ⟨fun q hq hne => by
      have hs2 := H3.out.steps
      obtain ⟨t, ht⟩ : ∃ t, o.steps[0]? = some t := ⟨_, List.getElem?_eq_getElem (List.length_pos_iff.2 hne)⟩
      have hs1 := HS2.out 0 t ht
      obtain ⟨g, off, e, hl, _⟩ := hs1
      rw [hq] at e
      simp only [Option.some.injEq] at e
      subst e
      have hw23 := K23.out
      simp only
      omega⟩
    have tw1 := HT3.out.pb.lt
    have tw2 := HT3.out.db.lt
    have tw3 := HT3.out.ub.lt
    have hqp : ¬ (p = tp ∨ p = bd ∨ p = bu) := by omega
    have hp3 := H3.out.cells.lt
    have hwn : ¬ (w.heap.size = tp ∨ w.heap.size = bd ∨ w.heap.size = bu) := by omega
    have htn : ∀ q, q = w.heap.size ∨ q = p → True := fun _ _ => trivial
    go_loopw [7, 39] (fun v7 i wr => ∃ (k : Nat) (A : List Act2) (d' u : Nat) (x y z : Bool) (b' : Option Addr) (dd : Nat), k ≤ L.length ∧ i = .int .i64 k ∧ wr.ownsRow w3.heap.size 30 2 v7 A.length (A.flatMap encSt) ∧ ModAt wr p a2 c2 b' dd o A ∧ TrAt wr tp bd bu o a c d' u x y z ∧ MInv o A ⟨d', u, x, y, z⟩ ∧ Kept ((0 < u → y = true) ∧ (∀ q, b' = some q → ¬ (q.block = tp ∨ q.block = bd ∨ q.block = bu)) ∧ w3.heap.size ≤ wr.heap.size ∧ (∀ q, b' = some q → q.block < wr.heap.size ∧ v7.ownBlock ≠ some q.block)) ∧ Blk wr w.heap.size 24 [.int .i64 o.id, .int .i64 o.item, .int .i64 o.qty, .int .i64 o.client, .int .i64 o.price, .slice a o.steps.length c] ∧ Keeps (fun _ => False) w wr) (fun _ i _ => L.length - (intOf i).toNat)
    case atStart => exact ⟨0, [], 0, 0, false, false, false, none, 0, Nat.zero_le _, rfl, World.ownsRow_nil _ _ _ _, H3.out, HT3.out, HI0.out, ⟨fun h => absurd h (by omega), (fun q hq => by cases hq), Nat.le_refl _, (fun q hq => by cases hq)⟩, HO3.out, K3.out⟩
    case round =>
      obtain ⟨k, A, d', u, x, y, z, b', dd, hk, rfl, hv, hM, hT, hI, hK2, hO, hK⟩ := hrel
      have HV := Kept.mk hv
      have HM2 := Kept.mk hM
      have HT := Kept.mk hT
      have HI := Kept.mk hI
      have HO4 := Kept.mk hO
      have K4 := Kept.mk hK
      clear hv hM hT hI hO hK H3 HT3 HO3 K3 HI0
      by_cases hlt : k < L.length
      · obtain ⟨t, ht⟩ : ∃ t, L[k]? = some t := ⟨_, List.getElem?_eq_getElem hlt⟩
        obtain ⟨g, off, rfl, hl, e0, e1⟩ := HA.out k t ht
        rw [← K4.out.cell (p := ⟨g, off + k * 2, none⟩) hl (fun h => h)] at e0
        rw [← K4.out.cell (p := ⟨g, off + k * 2 + 1, none⟩) hl (fun h => h)] at e1
        obtain ⟨t1, t2⟩ := t
        simp only at e0 e1
        have hkl : (k : Int) < (L.length : Int) := by omega
        have hA9 := HI.out.small
        have hud : u ≤ d' := by have := HI.out.ok.ud; simp only at this; omega
        have hdn : d' ≤ o.steps.length := by have := HI.out.ok.dn; simp only at this; omega
        have KA := Kept.mk ((Keeps.refl (fun _ => False) wr).alloc (.cells #[.int .i64 t1, .int .i64 t2] 30))
        have HB := Kept.mk (Blk.newT wr 30 [.int .i64 t1, .int .i64 t2] _ rfl)
        have ht1 := HT.out.pb.lt
        have ht2 := HT.out.db.lt
        have ht3 := HT.out.ub.lt
        have hnb : ¬ (wr.heap.size = tp ∨ wr.heap.size = bd ∨ wr.heap.size = bu) := by omega
        cases hr : Sty.may ⟨d', u, x, y, z⟩ (t1, t2) o.steps.length with
        | true =>
          have Hr := Kept.mk hr
          clear hr ht
          go_wp2_with fail
          refine (tsee_to tp bd bu o a c d' u x y z true t1 t2 _ (HT.out.keeps KA.out) (by omega) hdn hud hK2.out.1 Hr.out).mono ?_
          rintro e w5 ⟨rfl, ⟨d2, u2, x2, y2, z2, hT2, hs2⟩, k5⟩
          have HT5 := Kept.mk hT2
          have HS5 := Kept.mk hs2
          have m0 : w5.cell? ⟨wr.heap.size, 0, none⟩ = some (.int .i64 t1) := (k5.cell (p := ⟨wr.heap.size, 0, none⟩) HB.out.lt hnb).trans (HB.out.cell 0 rfl)
          have m1 : w5.cell? ⟨wr.heap.size, 1, none⟩ = some (.int .i64 t2) := (k5.cell (p := ⟨wr.heap.size, 1, none⟩) HB.out.lt hnb).trans (HB.out.cell 1 rfl)
          have HV5 := Kept.mk (ownsRow_keeps HV.out KA.out (fun _ _ h => h))
          have hv6 := ownsRow_keeps HV5.out k5 (fun g hg h => by have := (HV.out.lt g hg).1; omega)
          have k6a := (Keeps.refl (fun _ => False) w5).alloc (.cells #[.int .i64 t1, .int .i64 t2] 30)
          have b6 := Blk.newT w5 30 [.int .i64 t1, .int .i64 t2] _ rfl
          obtain ⟨a6, c6, w6, hrun, hv7, k6, hnr⟩ := ac_append (x := t1) (y := t2) w5.heap.size (ownsRow_keeps hv6 k6a (fun _ _ h => h)) (by omega) (by have := k5.size; have := KA.out.size; have := k6a.size; have := hK2.out.2.2.1; omega) (b6.cell 0 rfl) (b6.cell 1 rfl)
          have hv8 := Kept.mk hv7
          have h30 := hK2.out.2.2.1
          have hge : ∀ g, u7.ownBlock = some g → w3.heap.size ≤ g ∧ g < wr.heap.size := fun g hg => HV.out.lt g hg
          have kS := KA.out.size
          have HM6 : Kept (ModAt w6 p a2 c2 b' dd o A) := ⟨((((HM2.out.keeps KA.out).pastS k5 hqp (fun z hz hne => (HA2.out z hz hne).1) hK2.out.2.1).keeps k6a).pastS k6 (fun h => by have := (hge _ h).1; omega) (fun z hz hne h => by have := (hge _ h).1; have := (HA2.out z hz hne).2; omega) (fun z hz => (hK2.out.2.2.2 z hz).2))⟩
          have HT6 : Kept (TrAt w6 tp bd bu o a c d2 u2 x2 y2 z2) := ⟨(HT5.out.keeps k6a).pastS k6 (fun h => by have := (hge _ h).1; omega) (fun h => by have := (hge _ h).1; omega) (fun h => by have := (hge _ h).1; omega)⟩
          have HO6 : Kept (Blk w6 w.heap.size 24 [.int .i64 o.id, .int .i64 o.item, .int .i64 o.qty, .int .i64 o.client, .int .i64 o.price, .slice a o.steps.length c]) := ⟨(((HO4.out.keeps KA.out (fun h => h)).keeps k5 hwn).keeps k6a (fun h => h)).keeps k6 (fun h => by have := (hge _ h).1; omega)⟩
          have K6 : Kept (Keeps (fun _ => False) w w6) := ⟨(((K4.out.trans KA.out).then k5 (fun i hi h => by omega)).trans k6a).then k6 (fun i hi h => by have := (hge _ h).1; omega)⟩
          have h60 : wr.heap.size ≤ w6.heap.size := by have := k5.size; have := k6a.size; have := k6.size; omega
          have n0 : w6.cell? ⟨wr.heap.size, 0, none⟩ = some (.int .i64 t1) := (k6.cell (p := ⟨wr.heap.size, 0, none⟩) (by have := k5.size; have := k6a.size; have := HB.out.lt; simp only; omega) (fun h => absurd (hge _ h).2 (Nat.lt_irrefl _))).trans ((k6a.cell (p := ⟨wr.heap.size, 0, none⟩) (by have := k5.size; have := HB.out.lt; simp only; omega) (fun h => h)).trans m0)
          have n1 : w6.cell? ⟨wr.heap.size, 1, none⟩ = some (.int .i64 t2) := (k6.cell (p := ⟨wr.heap.size, 1, none⟩) (by have := k5.size; have := k6a.size; have := HB.out.lt; simp only; omega) (fun h => absurd (hge _ h).2 (Nat.lt_irrefl _))).trans ((k6a.cell (p := ⟨wr.heap.size, 1, none⟩) (by have := k5.size; have := HB.out.lt; simp only; omega) (fun h => h)).trans m1)
          have HI6 : Kept (MInv o (A ++ [(t1, t2)]) ⟨d2, u2, x2, y2, z2⟩) := ⟨by rw [HS5.out]; exact HI.out.step Hr.out⟩
          have hua : Kept (0 < u2 → y2 = true) := ⟨by have h9 := Sty.note_ua (s := ⟨d', u, x, y, z⟩) (x := (t1, t2)) (fun h => hK2.out.1 (by simpa using h)) Hr.out; have h8 : (⟨d2, u2, x2, y2, z2⟩ : Sty) = (Sty.mk d' u x y z).note t1 := HS5.out; rw [← h8] at h9; exact fun h => h9 (by simpa using h)⟩
          have HRun := Kept.mk hrun
          clear HM2 HT HO4 K4 HV HV5 hv6 hv7 k6 k6a k5 hT2 hs2 HB b6 hnr HT5 hK2
          go_wp2_with (at_builtin; refine wpList_append_run rfl _ _ _ rfl rfl rfl HRun.out ?_)
          refine (see_yes2 p a2 b' c2 dd o A t1 t2 _ HM6.out (HI.out.goes Hr.out) (by omega)).mono ?_
          rintro e w7 ⟨rfl, ⟨b7, d7, h7, hz7⟩, k7⟩
          have HM7 := Kept.mk h7
          have HT7 : Kept (TrAt w7 tp bd bu o a c d2 u2 x2 y2 z2) := ⟨HT6.out.pastS k7 (by omega) (by omega) (by omega)⟩
          have HO7 := Kept.mk (HO6.out.keeps k7 (by omega))
          have K7 : Kept (Keeps (fun _ => False) w w7) := ⟨K6.out.then k7 (fun i hi h => by omega)⟩
          have HV7 := Kept.mk (ownsRow_keeps hv8.out k7 (fun g hg h => by have := (hv8.out.lt g hg).1; omega))
          have HB7 : Kept ((0 < u2 → y2 = true) ∧ (∀ q, b7 = some q → ¬ (q.block = tp ∨ q.block = bd ∨ q.block = bu)) ∧ w3.heap.size ≤ w7.heap.size ∧ (∀ q, b7 = some q → q.block < w7.heap.size ∧ (Value.slice a6 (A.length + 1) c6).ownBlock ≠ some q.block)) := ⟨hua.out, (fun q hq h => by have := hz7 q hq; omega), (by have := k7.size; omega), fun q hq => ⟨by
            obtain ⟨t, ht⟩ : ∃ t, (A ++ [(t1, t2)])[0]? = some t := ⟨_, List.getElem?_eq_getElem (by simp)⟩
            obtain ⟨g, off, e, hl, _⟩ := h7.acts 0 t ht
            rw [hq] at e
            simp only [Option.some.injEq] at e
            subst e
            exact hl, fun h => by have := (hv8.out.lt _ h).2; have := hz7 q hq; omega⟩⟩
          clear h7 hz7 k7 hv8 HM6 HT6 HO6 K6 hua n0 n1 m0 m1
          go_wp2_with fail
          go_roundw
          case rel => exact ⟨k + 1, A ++ [(t1, t2)], d2, u2, x2, y2, z2, b7, d7, by omega, by go_num, by simpa using HV7.out, HM7.out, HT7.out, HI6.out, HB7, HO7.out, K7.out⟩
          case measure => simp [intOf]; omega
        | false =>
          have Hr := Kept.mk hr
          clear hr ht
          go_wp2_with fail
          refine (tsee_to tp bd bu o a c d' u x y z false t1 t2 _ (HT.out.keeps KA.out) (by omega) hdn hud hK2.out.1 Hr.out).mono ?_
          rintro e w5 ⟨rfl, ⟨d2, u2, x2, y2, z2, hT2, hs2⟩, k5⟩
          have HT5 := Kept.mk hT2
          have HS5 := Kept.mk hs2
          have m0 : w5.cell? ⟨wr.heap.size, 0, none⟩ = some (.int .i64 t1) := (k5.cell (p := ⟨wr.heap.size, 0, none⟩) HB.out.lt hnb).trans (HB.out.cell 0 rfl)
          have m1 : w5.cell? ⟨wr.heap.size, 1, none⟩ = some (.int .i64 t2) := (k5.cell (p := ⟨wr.heap.size, 1, none⟩) HB.out.lt hnb).trans (HB.out.cell 1 rfl)
          have HM5 : Kept (ModAt w5 p a2 c2 b' dd o A) := ⟨(HM2.out.keeps KA.out).pastS k5 hqp (fun z hz hne => (HA2.out z hz hne).1) hK2.out.2.1⟩
          have HO5 := Kept.mk ((HO4.out.keeps KA.out (fun h => h)).keeps k5 hwn)
          have K5 : Kept (Keeps (fun _ => False) w w5) := ⟨(K4.out.trans KA.out).then k5 (fun i hi h => by omega)⟩
          have HV5 := Kept.mk (ownsRow_keeps (ownsRow_keeps HV.out KA.out (fun _ _ h => h)) k5 (fun g hg h => by have := (HV.out.lt g hg).1; omega))
          have HI5 : Kept (MInv o A ⟨d2, u2, x2, y2, z2⟩) := ⟨by rw [HS5.out]; exact HI.out⟩
          have hua : Kept (0 < u2 → y2 = true) := ⟨by have h8 : (⟨d2, u2, x2, y2, z2⟩ : Sty) = ⟨d', u, x, y, z⟩ := HS5.out; have e2 := congrArg Sty.undone h8; have e4 := congrArg Sty.aborts h8; simp only at e2 e4; intro h9; rw [e4]; exact hK2.out.1 (by omega)⟩
          have hw5 : wr.heap.size ≤ w5.heap.size := by have := k5.size; have := KA.out.size; omega
          clear HM2 HT HO4 K4 HV k5 hT2 hs2 HB
          go_wp2_with fail
          refine (see_no p a2 b' c2 dd o A t1 t2 _ _ HM5.out (HI.out.stop Hr.out) (by omega)).mono ?_
          rintro e w7 ⟨rfl, k7⟩
          have HM7 := Kept.mk (HM5.out.keeps k7)
          have HT7 := Kept.mk (HT5.out.keeps k7)
          have HO7 := Kept.mk (HO5.out.keeps k7 (fun h => h))
          have K7 := Kept.mk (K5.out.trans k7)
          have HV7 := Kept.mk (ownsRow_keeps HV5.out k7 (fun _ _ h => h))
          have HB7 : Kept ((0 < u2 → y2 = true) ∧ (∀ q, b' = some q → ¬ (q.block = tp ∨ q.block = bd ∨ q.block = bu)) ∧ w3.heap.size ≤ w7.heap.size ∧ (∀ q, b' = some q → q.block < w7.heap.size ∧ u7.ownBlock ≠ some q.block)) := ⟨hua.out, hK2.out.2.1, (by have := k7.size; have := hK2.out.2.2.1; omega), fun q hq => ⟨by have := (hK2.out.2.2.2 q hq).1; have := k7.size; omega, (hK2.out.2.2.2 q hq).2⟩⟩
          clear k7 HM5 HT5 HO5 K5 HV5 hua m0 m1
          go_wp2_with fail
          go_roundw
          case rel => exact ⟨k + 1, A, d2, u2, x2, y2, z2, b', dd, by omega, by go_num, HV7.out, HM7.out, HT7.out, HI5.out, HB7, HO7.out, K7.out⟩
          case measure => simp [intOf]; omega
      · obtain rfl : k = L.length := by omega
        have kl : ¬ (L.length : Int) < (L.length : Int) := by omega
        obtain ⟨w4, rfl⟩ : ∃ x, x = wr := ⟨_, rfl⟩
        obtain ⟨a7, c7, rfl, _, _, _, hR7, _⟩ := ownsRow_steps HV.out
        have HR7 := Kept.mk hR7
        have HA9 := HI.out.small
        have hud : u ≤ d' := by have := HI.out.ok.ud; simp only at this; omega
        have hdn : d' ≤ o.steps.length := by have := HI.out.ok.dn; simp only at this; omega
        have TH := HT.out
        have q6 := TH.pb.cell 6 rfl
        have q7 := TH.pb.cell 7 rfl
        have q8 := TH.pb.cell 8 rfl
        have q9 := TH.pb.cell 9 rfl
        have q10 := TH.pb.cell 10 rfl
        have o5 := HO4.out.cell 5 rfl
        clear hR7 HV hK2 TH
        go_wp2_with fail
        go_loopw [11, 64] (fun v11 i w8 => ∃ j : Nat, j ≤ o.steps.length ∧ i = .int .i64 j ∧ v11 = .bool (y && (decide (j = 0) || decide (d' - u = 0))) ∧ Keeps (fun _ => False) w4 w8) (fun _ i _ => o.steps.length - (intOf i).toNat)
        case atStart => exact ⟨0, Nat.zero_le _, rfl, by simp, Keeps.refl _ _⟩
        case round =>
          obtain ⟨j, hj, rfl, rfl, hK⟩ := hrel
          have KJ := Kept.mk hK
          clear hK
          by_cases hlt : j < o.steps.length
          · obtain ⟨t, ht⟩ : ∃ t, o.steps[j]? = some t := ⟨_, List.getElem?_eq_getElem hlt⟩
            obtain ⟨g, off, rfl, hl, e0, e1⟩ := HL.out j t ht
            have hlw : g < w4.heap.size := Nat.lt_of_lt_of_le hl K4.out.size
            rw [← K4.out.cell (p := ⟨g, off + j * 2, none⟩) hl (fun h => h), ← KJ.out.cell (p := ⟨g, off + j * 2, none⟩) hlw (fun h => h)] at e0
            rw [← K4.out.cell (p := ⟨g, off + j * 2 + 1, none⟩) hl (fun h => h), ← KJ.out.cell (p := ⟨g, off + j * 2 + 1, none⟩) hlw (fun h => h)] at e1
            obtain ⟨t1, t2⟩ := t
            simp only at e0 e1
            have hji : (j : Int) < (o.steps.length : Int) := by omega
            have hjn : ¬ ((j : Int) < 0) := by omega
            have HTj := Kept.mk (HT.out.keeps KJ.out)
            have z6 := HTj.out.pb.cell 6 rfl
            have z7 := HTj.out.pb.cell 7 rfl
            have HD := HTj.out.db.cell j (rowD_at hlt)
            have HU := HTj.out.ub.cell j (rowU_at hlt)
            have HMj := Kept.mk (HM2.out.keeps KJ.out)
            have HS := Kept.mk (sees_held HI.out ht)
            simp only at HS
            have hgt : tp < wr.heap.size ∧ bd < wr.heap.size ∧ bu < wr.heap.size ∧ g < wr.heap.size := ⟨HTj.out.pb.lt, HTj.out.db.lt, HTj.out.ub.lt, Nat.lt_of_lt_of_le hlw KJ.out.size⟩
            obtain ⟨l1, l2, l3, l4⟩ := hgt
            by_cases hjd : j < d'
            · have f1 : decide (j < d') = true := decide_eq_true hjd
              by_cases hju : d' - u ≤ j
              · have f2 : decide (d' - u ≤ j) = true := decide_eq_true hju
                rw [f1] at HD
                rw [f1, f2] at HU
                simp only [Bool.and_true] at HU
                have HS0 := Kept.mk (HS.out.trans (if_neg (by omega)))
                have fy : Kept ((y && (decide (j = 0) || decide (d' - u = 0))) = (y && (decide (j + 1 = 0) || decide (d' - u = 0)))) := ⟨by
                  congr 1
                  rw [Bool.eq_iff_iff]
                  simp
                  omega⟩
                clear q6 q7 q8 q9 q10 o5 ht
                go_wp2_with fail
                refine (held_to p a2 b' c2 dd o A t1 0 _ (HMj.out.alloc _) HS0.out).mono ?_
                rintro e w9 ⟨rfl, k9⟩
                have K9 := Kept.mk ((KJ.out.alloc (.cells #[.int .i64 t1, .int .i64 t2] 45)).trans k9)
                clear k9
                go_wp2_with fail
                go_roundw
                case rel => exact ⟨j + 1, by omega, by go_num, by rw [fy.out], K9.out⟩
                case measure => simp [intOf]; omega
              · have f2 : decide (d' - u ≤ j) = false := decide_eq_false hju
                rw [f1] at HD
                rw [f1, f2] at HU
                simp only [Bool.and_true] at HU
                have HS0 := Kept.mk (HS.out.trans (if_pos (by omega)))
                have fy : Kept (false = (y && (decide (j + 1 = 0) || decide (d' - u = 0)))) := ⟨by
                  have g1 : decide (j + 1 = 0) = false := decide_eq_false (by omega)
                  have g2 : decide (d' - u = 0) = false := decide_eq_false (by omega)
                  rw [g1, g2]; simp⟩
                clear q6 q7 q8 q9 q10 o5 ht
                go_wp2_with fail
                refine (held_to p a2 b' c2 dd o A t1 t2 _ (HMj.out.alloc _) HS0.out).mono ?_
                rintro e w9 ⟨rfl, k9⟩
                have K9 := Kept.mk ((KJ.out.alloc (.cells #[.int .i64 t1, .int .i64 t2] 45)).trans k9)
                clear k9
                go_wp2_with fail
                go_roundw
                case rel => exact ⟨j + 1, by omega, by go_num, by rw [← fy.out], K9.out⟩
                case measure => simp [intOf]; omega
            · have f1 : decide (j < d') = false := decide_eq_false hjd
              rw [f1] at HD
              have HS0 := Kept.mk (HS.out.trans (if_neg (by omega)))
              have fy : Kept ((y && (decide (j = 0) || decide (d' - u = 0))) = (y && (decide (j + 1 = 0) || decide (d' - u = 0)))) := ⟨by
                congr 1
                rw [Bool.eq_iff_iff]
                simp
                omega⟩
              clear q6 q7 q8 q9 q10 o5 ht
              go_wp2_with fail
              refine (held_to p a2 b' c2 dd o A t1 0 _ (HMj.out.alloc _) HS0.out).mono ?_
              rintro e w9 ⟨rfl, k9⟩
              have K9 := Kept.mk ((KJ.out.alloc (.cells #[.int .i64 t1, .int .i64 t2] 45)).trans k9)
              clear k9
              go_wp2_with fail
              go_roundw
              case rel => exact ⟨j + 1, by omega, by go_num, by rw [fy.out], K9.out⟩
              case measure => simp [intOf]; omega
          · obtain rfl : j = o.steps.length := by omega
            have jl : ¬ (o.steps.length : Int) < (o.steps.length : Int) := by omega
            obtain ⟨r, hr⟩ : ∃ r, (y && decide (d' - u = 0)) = r := ⟨_, rfl⟩
            have fr : (y && (decide (o.steps.length = 0) || decide (d' - u = 0))) = r := by
              cases h0 : decide (o.steps.length = 0) with
              | false => rw [Bool.false_or]; exact hr
              | true =>
                have h1 := of_decide_eq_true h0
                have h2 : decide (d' - u = 0) = true := decide_eq_true (by omega)
                rw [h2] at hr ⊢
                exact hr
            rw [fr]
            have S13 : Kept (hasAct A 13 0 = x) := ⟨by rw [HI.out.h13]; simp⟩
            have S16 : Kept (hasAct A 16 0 = z) := ⟨by rw [HI.out.h16]; simp⟩
            have SC : Kept (cleanB o A = r) := ⟨(sees_clean HI.out).trans hr⟩
            have S1 : Kept (heldN o A 1 = 0) := ⟨sees_stock Hmay.out⟩
            have HMe := Kept.mk (HM2.out.keeps KJ.out)
            have HTe := Kept.mk (HT.out.keeps KJ.out)
            have HRe := Kept.mk (HR7.out.quiet KJ.out)
            have Ke := Kept.mk (K4.out.trans KJ.out)
            have KC : Kept (Keeps (fun _ => False) wr (wr.drewN 1)) := ⟨(Keeps.refl _ _).drewN 1⟩
            have hAl : A.length ≤ 100000 := by omega
            clear fr hr q6 q7 q8 q9 q10 o5 HM2 HT HR7 K4 KJ HI
            go_wp2_with fail
            go_region_held3 (fun W => W.cell? ⟨tp, 8, none⟩ = some (.bool x) ∧ W.cell? ⟨tp, 10, none⟩ = some (.bool z)) ((exact ⟨(HTe.out.keeps KC.out).pb.cell 8 rfl, (HTe.out.keeps KC.out).pb.cell 10 rfl⟩)) (first
              | (go_at_call 21; refine (seen_to p a2 b' c2 dd o A _ (HMe.out.keeps KC.out)).mono ?_; rintro e w' ⟨v, rfl, hv, k'⟩; obtain ⟨va, vc, rfl, _, _, _, hR, _⟩ := ownsRow_steps hv; have HVr := Kept.mk hR; have KC := Kept.mk (KC.out.trans k'); clear k' hv hR)
              | (go_at_call 20; refine (sameAc_yes va a7 _ _ A.length A _ HVr.out (HRe.out.quiet KC.out) rfl hAl).mono ?_; rintro e w' ⟨rfl, n, rfl⟩; have KC := Kept.mk (KC.out.drewN n))
              | (go_at_call 22; refine (sold_to p a2 b' c2 dd o A x _ (HMe.out.keeps KC.out) S13.out).mono ?_; rintro e w' ⟨rfl, k'⟩; have KC := Kept.mk (KC.out.trans k'); clear k')
              | (go_at_call 23; refine (sent_to p a2 b' c2 dd o A z _ (HMe.out.keeps KC.out) S16.out).mono ?_; rintro e w' ⟨rfl, k'⟩; have KC := Kept.mk (KC.out.trans k'); clear k')
              | (go_at_call 24; refine (clean_to p a2 b' c2 dd o A r _ (HMe.out.keeps KC.out) SC.out).mono ?_; rintro e w' ⟨rfl, k'⟩; have KC := Kept.mk (KC.out.trans k'); clear k')
              | (go_at_call 19; refine (held_to p a2 b' c2 dd o A 1 0 _ (HMe.out.keeps KC.out) S1.out).mono ?_; rintro e w' ⟨rfl, k'⟩; have KC := Kept.mk (KC.out.trans k'); clear k')
              | (go_at_call 14; refine (awake23_any _).mono ?_; rintro e w' ⟨rfl, b'⟩; have KC := Kept.mk (KC.out.trans (Keeps.of_below b' _)); clear b'))
            all_goals
              go_wp2_with fail
              go_ret
              exact ⟨rfl, (Ke.out.trans KC.out).below (Nat.le_refl _) (fun _ h => h.elim)⟩
theorem sees_any (o : Ord) (a b : Option Addr) (c d : Nat) (L : List Act2) (w : World) (hL : StRow w a o.steps) (hc1 : o.steps.length ≤ c) (hc2 : c ≤ maxLen) (hA : AcRow w b L) (hd1 : L.length ≤ maxLen) :
    Calls Try.prog 7 #[.agg #[.int .i64 o.id, .int .i64 o.item, .int .i64 o.qty, .int .i64 o.client, .int .i64 o.price, .slice a o.steps.length c], .slice b L.length d] w (Yes w) := sees_walk o a b c d L w hL hc1 hc2 hA hd1
end Go.Proofs.Ytjlfkpimjjnolaa
