/- The law StockItems, walked. (printed by gen/stockitems.py) -/
import Derived.Test.YthiplekpdmdhiaaStockSums
namespace Go.Proofs.Ythiplekpdmdhiaa
open Go.RowKit
def itemAt (id : Int) : Nat := (id % 8).toNat
/-- Two books: of one item they say the same; the second has never heard of another. -/
structure Pair (I : Nat) (a b : Sk) : Prop where
  oka : a.Ok
  okb : b.Ok
  hand : a.hand I = b.hand I
  free : a.free I = b.free I
  get : ∀ x, itemAt x = I → MP.get a.L x = MP.get b.L x
  ina : ∀ p ∈ a.L, p.2.1 = itemAt p.1
  inb : ∀ p ∈ b.L, p.2.1 = I
  rest : ∀ i, i < 8 → i ≠ I → b.hand i = 50
theorem Pair.commit_far {I : Nat} {a b : Sk} (h : Pair I a b) {id : Int} (hn : itemAt id ≠ I) : Pair I (a.commit id).2 b := by
  have ok := Sk.commit_ok h.oka id
  cases hg : MP.get a.L id with
  | none => rw [Sk.commit_none hg]; exact h
  | some v =>
    obtain ⟨j, q⟩ := v
    have hj := h.ina _ (mem_of_get hg)
    simp only at hj
    rw [Sk.commit_yes hg] at ok ⊢
    refine ⟨ok, h.okb, ?_, h.free, fun x hx => ?_, fun p hp => h.ina p ((MP.del_sublist _ _).subset hp), h.inb, h.rest⟩
    · simp only [upd_other _ (show I ≠ j by omega)]; exact h.hand
    · simp only [MP.get_del _ _ h.oka.nodup]
      rw [if_neg (by rintro rfl; exact hn hx)]
      exact h.get x hx
theorem Pair.release_far {I : Nat} {a b : Sk} (h : Pair I a b) {id : Int} (hn : itemAt id ≠ I) : Pair I (a.release id).2 b := by
  have ok := Sk.release_ok h.oka id
  cases hg : MP.get a.L id with
  | none => rw [Sk.release_none hg]; exact h
  | some v =>
    obtain ⟨j, q⟩ := v
    have hj := h.ina _ (mem_of_get hg)
    simp only at hj
    rw [Sk.release_yes hg] at ok ⊢
    refine ⟨ok, h.okb, h.hand, ?_, fun x hx => ?_, fun p hp => h.ina p ((MP.del_sublist _ _).subset hp), h.inb, h.rest⟩
    · simp only [upd_other _ (show I ≠ j by omega)]; exact h.free
    · simp only [MP.get_del _ _ h.oka.nodup]
      rw [if_neg (by rintro rfl; exact hn hx)]
      exact h.get x hx
theorem Pair.commit_near {I : Nat} {a b : Sk} (h : Pair I a b) {id : Int} (hn : itemAt id = I) : Pair I (a.commit id).2 (b.commit id).2 := by
  have ok := Sk.commit_ok h.oka id
  have ok2 := Sk.commit_ok h.okb id
  have he := h.get id hn
  cases hg : MP.get a.L id with
  | none => rw [Sk.commit_none hg, Sk.commit_none (by rw [← he]; exact hg)]; exact h
  | some v =>
    obtain ⟨j, q⟩ := v
    have hg2 : MP.get b.L id = some (j, q) := by rw [← he]; exact hg
    have hj := h.ina _ (mem_of_get hg)
    simp only at hj
    rw [Sk.commit_yes hg] at ok ⊢
    rw [Sk.commit_yes hg2] at ok2 ⊢
    obtain rfl : j = I := by omega
    refine ⟨ok, ok2, ?_, h.free, fun x hx => ?_, fun p hp => h.ina p ((MP.del_sublist _ _).subset hp), fun p hp => h.inb p ((MP.del_sublist _ _).subset hp), fun i h8 hi => ?_⟩
    · simp only [upd_same]; rw [h.hand]
    · simp only [MP.get_del _ _ h.oka.nodup, MP.get_del _ _ h.okb.nodup]
      rw [h.get x hx]
    · simp only [upd_other _ hi]; exact h.rest i h8 hi
theorem Pair.release_near {I : Nat} {a b : Sk} (h : Pair I a b) {id : Int} (hn : itemAt id = I) : Pair I (a.release id).2 (b.release id).2 := by
  have ok := Sk.release_ok h.oka id
  have ok2 := Sk.release_ok h.okb id
  have he := h.get id hn
  cases hg : MP.get a.L id with
  | none => rw [Sk.release_none hg, Sk.release_none (by rw [← he]; exact hg)]; exact h
  | some v =>
    obtain ⟨j, q⟩ := v
    have hg2 : MP.get b.L id = some (j, q) := by rw [← he]; exact hg
    have hj := h.ina _ (mem_of_get hg)
    simp only at hj
    rw [Sk.release_yes hg] at ok ⊢
    rw [Sk.release_yes hg2] at ok2 ⊢
    obtain rfl : j = I := by omega
    refine ⟨ok, ok2, h.hand, ?_, fun x hx => ?_, fun p hp => h.ina p ((MP.del_sublist _ _).subset hp), fun p hp => h.inb p ((MP.del_sublist _ _).subset hp), h.rest⟩
    · simp only [upd_same]; rw [h.free]
    · simp only [MP.get_del _ _ h.oka.nodup, MP.get_del _ _ h.okb.nodup]
      rw [h.get x hx]
theorem Pair.reserve_far {I : Nat} {a b : Sk} (h : Pair I a b) {id i q : Int} (hi : i.toNat = itemAt id) (hn : itemAt id ≠ I) : Pair I (a.reserve id i q).2 b := by
  have ok := Sk.reserve_ok h.oka id i q
  unfold Sk.reserve at ok ⊢
  split
  · split
    · exact h
    · split
      · exact h
      · rename_i x y z
        rw [if_pos x, if_neg y, if_neg z] at ok
        refine ⟨ok, h.okb, h.hand, ?_, fun x hx => ?_, fun p hp => ?_, h.inb, h.rest⟩
        · simp only [upd_other _ (show I ≠ i.toNat by omega)]; exact h.free
        · simp only [MP.get_put]
          rw [if_neg (by rintro rfl; exact hn hx)]
          exact h.get x hx
        · rcases mem_put hp with rfl | hp
          · exact hi
          · exact h.ina p hp
  · exact h
theorem Pair.reserve_near {I : Nat} {a b : Sk} (h : Pair I a b) {id i q : Int} (hi : i.toNat = itemAt id) (hn : itemAt id = I) : Pair I (a.reserve id i q).2 (b.reserve id i q).2 := by
  have ok := Sk.reserve_ok h.oka id i q
  have ok2 := Sk.reserve_ok h.okb id i q
  have he := h.get id hn
  have hf := h.free
  have hiI : i.toNat = I := by omega
  unfold Sk.reserve at ok ok2 ⊢
  rw [← he, hiI, ← hf] at ok2 ⊢
  rw [hiI] at ok
  split
  · split
    · exact h
    · split
      · exact h
      · rename_i x y z
        rw [if_pos x, if_neg y, if_neg z] at ok ok2
        refine ⟨ok, ok2, h.hand, ?_, fun x hx => ?_, fun p hp => ?_, fun p hp => ?_, h.rest⟩
        · simp only [upd_same]
        · simp only [MP.get_put]
          rw [h.get x hx]
        · rcases mem_put hp with rfl | hp
          · exact hn.symm
          · exact h.ina p hp
        · rcases mem_put hp with rfl | hp
          · rfl
          · exact h.inb p hp
  · exact h
theorem Pair.new (I : Nat) : Pair I (Sk.new (fun _ => 50) 8) (Sk.new (fun _ => 50) 8) :=
  ⟨Sk.new_ok _ _, Sk.new_ok _ _, rfl, rfl, fun _ _ => rfl, fun p hp => by simp [Sk.new] at hp, fun p hp => by simp [Sk.new] at hp, fun i hi _ => by
    show goods (fun _ => 50) (min 8 8) i = 50
    simp only [goods, clampI]; rw [if_pos (by omega)]; rfl⟩
theorem fifties (k : Nat) (h : k < 8) : ([.int .i64 50, .int .i64 50, .int .i64 50, .int .i64 50, .int .i64 50, .int .i64 50, .int .i64 50, .int .i64 50] : List Value)[k]? = some (.int .i64 50) := by
  match k, h with
  | 0, _ => rfl | 1, _ => rfl | 2, _ => rfl | 3, _ => rfl | 4, _ => rfl | 5, _ => rfl | 6, _ => rfl | 7, _ => rfl
theorem stockNew_fifty (n p m z : Nat) (s : Sk) (w : World) (hn : w.heap.size = n) (hp : n + 2 = p) (hm : n + 1 = m) (hz : n + 3 = z) (hs : Sk.new (fun _ => 50) 8 = s) : Calls Try.prog 20 #[.slice (some ⟨n, 0, none⟩) 8 8] (w.alloc (.cells #[.int .i64 50, .int .i64 50, .int .i64 50, .int .i64 50, .int .i64 50, .int .i64 50, .int .i64 50, .int .i64 50] 3)) (Rets w (fun _ => False) (.pointer (some ⟨p, 0, none⟩)) fun w' => SkAt w' p m s ∧ w'.heap.size = z) := by
  subst hn; subst hp; subst hm; subst hz
  have hrow : IntCells (w.alloc (.cells #[.int .i64 50, .int .i64 50, .int .i64 50, .int .i64 50, .int .i64 50, .int .i64 50, .int .i64 50, .int .i64 50] 3)) (some ⟨w.heap.size, 0, none⟩) 8 (fun _ => 50) :=
    ⟨w.heap.size, 0, .inl rfl, fun k hk => by rw [Nat.zero_add]; exact (Blk.new w 3 [.int .i64 50, .int .i64 50, .int .i64 50, .int .i64 50, .int .i64 50, .int .i64 50, .int .i64 50, .int .i64 50]).cell k (fifties k hk)⟩
  refine (stockNew_to _ 8 8 _ s _ hrow (by omega) (fun y e => by cases e; simp) hs).mono ?_
  rintro e w1 ⟨rfl, ⟨h1, s1⟩, k1⟩
  rw [World.size_alloc] at h1 s1 ⊢
  exact ⟨rfl, ⟨h1, s1⟩, (((Keeps.refl _ w).alloc _).then k1 (fun _ _ h => h))⟩
set_option maxRecDepth 100000 in
set_option maxHeartbeats 8000000 in
theorem items_any (a : Option Addr) (len cap : Nat) (i : Int) (f : Nat → Int × Int × Int × Int) (w : World) (hr : Call4 w a len f) (hlen : (len : Int) ≤ 9223372036854775807) : Calls Try.prog 6 #[.slice a len cap, .int .i64 i] w (Yes w) := by
  obtain ⟨b, off, ha, hcell⟩ := hr
  have Hcell := Kept.mk hcell
  clear hcell
  have hI0 := mod_range i 8 (by omega) (by omega)
  obtain ⟨I, HI⟩ : ∃ I : Nat, Kept (wrap64 ((IntKind.u64.wrap i).tmod 8) = I) := ⟨(wrap64 ((IntKind.u64.wrap i).tmod 8)).toNat, ⟨by omega⟩⟩
  have hI := hI0
  rw [HI.out] at hI
  have hI8 : I < 8 := by omega
  obtain ⟨s0, e0, P0⟩ : ∃ s0, Sk.new (fun _ => 50) 8 = s0 ∧ Pair I s0 s0 := ⟨_, rfl, Pair.new I⟩
  have hix0 : ∀ (u v : Value) (w : World), (Instr.index 46 (.agg #[u, v]) (.int .i64 0)).run Try.prog w = .ok u w := fun _ _ _ => by kernel_rfl
  have hix1 : ∀ (u v : Value) (w : World), (Instr.index 46 (.agg #[u, v]) (.int .i64 1)).run Try.prog w = .ok v w := fun _ _ _ => by kernel_rfl
  go_enter Try.func6, Try.ntmps6
  go_wp2_with fail
  rw [HI.out]
  clear HI hI0
  refine (stockNew_fifty _ (w.heap.size + 2) (w.heap.size + 1) (w.heap.size + 3) s0 _ rfl rfl rfl rfl e0).mono ?_
  rintro e w1 ⟨rfl, ⟨h1, z1⟩, k1⟩
  go_wp2_with fail
  refine (stockNew_fifty _ (w.heap.size + 5) (w.heap.size + 4) (w.heap.size + 6) s0 _ (by first | rfl | exact z1 | omega) (by omega) (by omega) (by omega) e0).mono ?_
  rintro e w2 ⟨rfl, ⟨h2, z2⟩, k2⟩
  have B2 : Below w.heap.size w w2 := (k1.below (Nat.le_refl _) (fun _ h => h.elim)).trans (k2.below (by omega) (fun _ h => h.elim))
  have h1' := h1.keeps k2 (fun h => h) (fun h => h)
  clear k1 k2 h1
  have z3 : w.heap.size + 6 ≤ w2.heap.size := by omega
  clear z1 z2 e0
  go_wp2_with fail
  go_loopw [24] (fun i wr => ∃ (k : Nat) (sa sb : Sk), k ≤ len ∧ i = .int .i64 k ∧ Pair I sa sb ∧ SkAt wr (w.heap.size + 2) (w.heap.size + 1) sa ∧ SkAt wr (w.heap.size + 5) (w.heap.size + 4) sb ∧ Below w.heap.size w wr) (fun i _ => (len - (intOf i).toNat))
  case atStart => exact ⟨0, s0, s0, by omega, rfl, P0, h1', h2, B2⟩
  case round =>
    clear h1' h2 B2 P0 s0 z3
    obtain ⟨k, sa, sb, hk, rfl, hs, hca, hcb, hB⟩ := hrel
    have hbw := hB.size
    have HB := Kept.mk hB
    have HS := Kept.mk hs
    clear hB hs
    by_cases hlt : k < len
    · obtain ⟨rfl, hbl⟩ : a = some ⟨b, off, none⟩ ∧ b < w.heap.size := by
        rcases ha with h | h
        · exact h
        · omega
      obtain ⟨c0, c1, c2, c3⟩ := Hcell.out k hlt
      rw [← HB.out.cell (p := ⟨b, off + k * 4, none⟩) hbl] at c0
      rw [← HB.out.cell (p := ⟨b, off + k * 4 + 1, none⟩) hbl] at c1
      rw [← HB.out.cell (p := ⟨b, off + k * 4 + 2, none⟩) hbl] at c2
      rw [← HB.out.cell (p := ⟨b, off + k * 4 + 3, none⟩) hbl] at c3
      generalize (f k).1 = fd at c0
      generalize (f k).2.1 = fi at c1
      generalize (f k).2.2.1 = ft at c2
      generalize (f k).2.2.2 = fq at c3
      by_cases h60 : (60 : Int) ≤ k
      · have hcA := hca.alloc (.cells #[.int .i64 fd, .int .i64 fi, .int .i64 ft, .int .i64 fq] 45)
        have hcB := hcb.alloc (.cells #[.int .i64 fd, .int .i64 fi, .int .i64 ft, .int .i64 fq] 45)
        have HBA := Kept.mk (HB.out.alloc hbw (.cells #[.int .i64 fd, .int .i64 fi, .int .i64 ft, .int .i64 fq] 45))
        have hn : w.heap.size ≤ (wr.alloc (.cells #[.int .i64 fd, .int .i64 fi, .int .i64 ft, .int .i64 fq] 45)).heap.size := HBA.out.size
        clear hca hcb
        go_wp2_with fail
        have hab : Kept (sb.onHand I = sa.onHand I) := ⟨by rw [Sk.onHand_in (i := I) (by omega) (by omega) rfl, Sk.onHand_in (i := I) (by omega) (by omega) rfl]; exact HS.out.hand.symm⟩
        have hfb : Kept (sb.freeOf I = sa.freeOf I) := ⟨by rw [Sk.freeOf_in (i := I) (by omega) (by omega) rfl, Sk.freeOf_in (i := I) (by omega) (by omega) rfl]; exact HS.out.free.symm⟩
        have hr50 : Kept (sb.onHand (((I : Int) + 1) % 8) = 50) := ⟨by
          refine Sk.onHand_in (by omega) (by omega) (HS.out.rest _ (by omega) (by omega))⟩
        refine (onHand_to _ _ sa _ (sa.onHand I) _ hcA rfl).mono ?_
        rintro e _ ⟨rfl, rfl⟩
        go_wp2_with fail
        refine (onHand_to _ _ sb _ (sa.onHand I) _ hcB hab.out).mono ?_
        rintro e _ ⟨rfl, rfl⟩
        go_wp2_with fail
        refine (free_to _ _ sa _ (sa.freeOf I) _ hcA rfl).mono ?_
        rintro e _ ⟨rfl, rfl⟩
        go_wp2_with fail
        refine (free_to _ _ sb _ (sa.freeOf I) _ hcB hfb.out).mono ?_
        rintro e _ ⟨rfl, rfl⟩
        go_wp2_with fail
        refine (onHand_to _ _ sb _ 50 _ hcB hr50.out).mono ?_
        rintro e _ ⟨rfl, rfl⟩
        go_wp2_with fail
        refine (awake8_any _).mono ?_
        rintro e w9 ⟨rfl, b9⟩
        go_wp2_with fail
        go_ret
        exact ⟨rfl, HBA.out.trans (b9.mono hn)⟩
      · have hid0 := mod_above fi 20 1 (by omega) (by omega) (by omega) (by omega)
        have hq0 := mod_above fq 20 1 (by omega) (by omega) (by omega) (by omega)
        obtain ⟨id, HID⟩ : ∃ id, Kept (wrap64 (1 + wrap64 ((IntKind.u64.wrap fi).tmod 20)) = id) := ⟨_, ⟨rfl⟩⟩
        obtain ⟨q, HQ⟩ : ∃ q, Kept (wrap64 (1 + wrap64 ((IntKind.u64.wrap fq).tmod 20)) = q) := ⟨_, ⟨rfl⟩⟩
        have hid := hid0
        rw [HID.out] at hid
        obtain ⟨T, HT⟩ : ∃ T, Kept (id % 8 = T) := ⟨_, ⟨rfl⟩⟩
        have hT : 0 ≤ T ∧ T < 8 := by have := HT.out; omega
        have HTn : Kept (T.toNat = itemAt id) := ⟨by rw [← HT.out]; rfl⟩
        have hblk := Blk.new wr 45 [.int .i64 fd, .int .i64 fi, .int .i64 ft, .int .i64 fq]
        have HK := Kept.mk hblk
        have hcA := hca.alloc (.cells #[.int .i64 fd, .int .i64 fi, .int .i64 ft, .int .i64 fq] 45)
        have hcB := hcb.alloc (.cells #[.int .i64 fd, .int .i64 fi, .int .i64 ft, .int .i64 fq] 45)
        have HBA := Kept.mk (HB.out.alloc hbw (.cells #[.int .i64 fd, .int .i64 fi, .int .i64 ft, .int .i64 fq] 45))
        have hla := Kept.mk hca.cells.lt
        have hlb := Kept.mk hcb.cells.lt
        have hma := Kept.mk hca.map.lt
        have hmb := Kept.mk hcb.map.lt
        clear hblk hca hcb
        by_cases htI : T = I
        · by_cases hd0 : fd = 0
          · obtain ⟨ra, sa', rb, sb', Ha, Hb, hs'⟩ : ∃ ra sa' rb sb', Kept (sa.commit id = (ra, sa')) ∧ Kept (sb.commit id = (rb, sb')) ∧ Pair I sa' sb' := ⟨_, _, _, _, ⟨rfl⟩, ⟨rfl⟩, HS.out.commit_near (by have := HTn.out; omega)⟩
            have HS2 := Kept.mk hs'
            clear hs'
            have HtI : Kept (T = I) := ⟨htI⟩
            clear htI
            subst hd0
            go_wp2_with fail
            rw [HID.out, HQ.out, HT.out]
            have HtI2 := HtI.out
            subst HtI2
            go_loopw [50] (fun i wq => ∃ (j : Nat), i = .int .i64 j ∧ ((j = 0 ∧ SkAt wq (w.heap.size + 2) (w.heap.size + 1) sa ∧ SkAt wq (w.heap.size + 5) (w.heap.size + 4) sb) ∨ (j = 1 ∧ SkAt wq (w.heap.size + 2) (w.heap.size + 1) sa' ∧ SkAt wq (w.heap.size + 5) (w.heap.size + 4) sb) ∨ (j = 2 ∧ SkAt wq (w.heap.size + 2) (w.heap.size + 1) sa' ∧ SkAt wq (w.heap.size + 5) (w.heap.size + 4) sb')) ∧ Blk wq wr.heap.size 45 [.int .i64 0, .int .i64 fi, .int .i64 ft, .int .i64 fq] ∧ Below w.heap.size w wq) (fun i _ => (2 - intOf i).toNat)
            case atStart => exact ⟨0, rfl, .inl ⟨rfl, hcA, hcB⟩, HK.out, HBA.out⟩
            case round =>
              clear hcA hcB HK
              obtain ⟨j, rfl, hj, hblk, hB4⟩ := hrel
              have hb4 := hB4.size
              have HB4 := Kept.mk hB4
              have d0 := hblk.cell 0 rfl
              have HK := Kept.mk hblk
              clear hB4 hblk
              rcases hj with ⟨rfl, ha4, hb4'⟩ | ⟨rfl, ha4, hb4'⟩ | ⟨rfl, ha4, hb4'⟩
              · go_wp2_with fail
                refine (commit_to _ _ _ _ _ _ _ ha4 HS.out.oka Ha.out).mono ?_
                rintro e w5 ⟨rfl, h5, k5⟩
                have B5 : Below w.heap.size w w5 := HB4.out.trans (k5.below hb4 (fun k e => by omega))
                have hK5 := HK.out.keeps k5 (fun e => by have := hla.out; have := hma.out; omega)
                have hb5 := hb4'.keeps k5 (fun e => by omega) (fun e => by omega)
                clear k5
                go_wp2_with fail
                go_roundw
                case rel => exact ⟨1, by go_num, .inr (.inl ⟨rfl, h5, hb5⟩), hK5, B5⟩
                case measure => simp [intOf]
              · go_wp2_with fail
                refine (commit_to _ _ _ _ _ _ _ hb4' HS.out.okb Hb.out).mono ?_
                rintro e w5 ⟨rfl, h5, k5⟩
                have B5 : Below w.heap.size w w5 := HB4.out.trans (k5.below hb4 (fun k e => by omega))
                have hK5 := HK.out.keeps k5 (fun e => by have := hlb.out; have := hmb.out; omega)
                have hb5 := ha4.keeps k5 (fun e => by omega) (fun e => by omega)
                clear k5
                go_wp2_with fail
                go_roundw
                case rel => exact ⟨2, by go_num, .inr (.inr ⟨rfl, hb5, h5⟩), hK5, B5⟩
                case measure => simp [intOf]
              · go_wp2_with fail
                go_roundw
                case rel => exact ⟨k + 1, sa', sb', by omega, by go_num, HS2.out, ha4, hb4', HB4.out⟩
                case measure => simp [intOf]; omega
          · by_cases hd1 : fd = 1
            · obtain ⟨ra, sa', rb, sb', Ha, Hb, hs'⟩ : ∃ ra sa' rb sb', Kept (sa.release id = (ra, sa')) ∧ Kept (sb.release id = (rb, sb')) ∧ Pair I sa' sb' := ⟨_, _, _, _, ⟨rfl⟩, ⟨rfl⟩, HS.out.release_near (by have := HTn.out; omega)⟩
              have HS2 := Kept.mk hs'
              clear hs'
              have HtI : Kept (T = I) := ⟨htI⟩
              clear htI
              subst hd1
              go_wp2_with fail
              rw [HID.out, HQ.out, HT.out]
              have HtI2 := HtI.out
              subst HtI2
              go_loopw [50] (fun i wq => ∃ (j : Nat), i = .int .i64 j ∧ ((j = 0 ∧ SkAt wq (w.heap.size + 2) (w.heap.size + 1) sa ∧ SkAt wq (w.heap.size + 5) (w.heap.size + 4) sb) ∨ (j = 1 ∧ SkAt wq (w.heap.size + 2) (w.heap.size + 1) sa' ∧ SkAt wq (w.heap.size + 5) (w.heap.size + 4) sb) ∨ (j = 2 ∧ SkAt wq (w.heap.size + 2) (w.heap.size + 1) sa' ∧ SkAt wq (w.heap.size + 5) (w.heap.size + 4) sb')) ∧ Blk wq wr.heap.size 45 [.int .i64 1, .int .i64 fi, .int .i64 ft, .int .i64 fq] ∧ Below w.heap.size w wq) (fun i _ => (2 - intOf i).toNat)
              case atStart => exact ⟨0, rfl, .inl ⟨rfl, hcA, hcB⟩, HK.out, HBA.out⟩
              case round =>
                clear hcA hcB HK
                obtain ⟨j, rfl, hj, hblk, hB4⟩ := hrel
                have hb4 := hB4.size
                have HB4 := Kept.mk hB4
                have d0 := hblk.cell 0 rfl
                have HK := Kept.mk hblk
                clear hB4 hblk
                rcases hj with ⟨rfl, ha4, hb4'⟩ | ⟨rfl, ha4, hb4'⟩ | ⟨rfl, ha4, hb4'⟩
                · go_wp2_with fail
                  refine (release_to _ _ _ _ _ _ _ ha4 HS.out.oka Ha.out).mono ?_
                  rintro e w5 ⟨rfl, h5, k5⟩
                  have B5 : Below w.heap.size w w5 := HB4.out.trans (k5.below hb4 (fun k e => by omega))
                  have hK5 := HK.out.keeps k5 (fun e => by have := hla.out; have := hma.out; omega)
                  have hb5 := hb4'.keeps k5 (fun e => by omega) (fun e => by omega)
                  clear k5
                  go_wp2_with fail
                  go_roundw
                  case rel => exact ⟨1, by go_num, .inr (.inl ⟨rfl, h5, hb5⟩), hK5, B5⟩
                  case measure => simp [intOf]
                · go_wp2_with fail
                  refine (release_to _ _ _ _ _ _ _ hb4' HS.out.okb Hb.out).mono ?_
                  rintro e w5 ⟨rfl, h5, k5⟩
                  have B5 : Below w.heap.size w w5 := HB4.out.trans (k5.below hb4 (fun k e => by omega))
                  have hK5 := HK.out.keeps k5 (fun e => by have := hlb.out; have := hmb.out; omega)
                  have hb5 := ha4.keeps k5 (fun e => by omega) (fun e => by omega)
                  clear k5
                  go_wp2_with fail
                  go_roundw
                  case rel => exact ⟨2, by go_num, .inr (.inr ⟨rfl, hb5, h5⟩), hK5, B5⟩
                  case measure => simp [intOf]
                · go_wp2_with fail
                  go_roundw
                  case rel => exact ⟨k + 1, sa', sb', by omega, by go_num, HS2.out, ha4, hb4', HB4.out⟩
                  case measure => simp [intOf]; omega
            · obtain ⟨ra, sa', rb, sb', Ha, Hb, hs'⟩ : ∃ ra sa' rb sb', Kept (sa.reserve id T q = (ra, sa')) ∧ Kept (sb.reserve id T q = (rb, sb')) ∧ Pair I sa' sb' := ⟨_, _, _, _, ⟨rfl⟩, ⟨rfl⟩, HS.out.reserve_near HTn.out (by have := HTn.out; omega)⟩
              have HS2 := Kept.mk hs'
              clear hs'
              have HtI : Kept (T = I) := ⟨htI⟩
              clear htI
              have e0 : (fd == 0) = false := by simpa using hd0
              have e1 : (fd == 1) = false := by simpa using hd1
              clear hd0 hd1
              go_wp2_with fail
              rw [HID.out, HQ.out, HT.out]
              have HtI2 := HtI.out
              subst HtI2
              go_loopw [50] (fun i wq => ∃ (j : Nat), i = .int .i64 j ∧ ((j = 0 ∧ SkAt wq (w.heap.size + 2) (w.heap.size + 1) sa ∧ SkAt wq (w.heap.size + 5) (w.heap.size + 4) sb) ∨ (j = 1 ∧ SkAt wq (w.heap.size + 2) (w.heap.size + 1) sa' ∧ SkAt wq (w.heap.size + 5) (w.heap.size + 4) sb) ∨ (j = 2 ∧ SkAt wq (w.heap.size + 2) (w.heap.size + 1) sa' ∧ SkAt wq (w.heap.size + 5) (w.heap.size + 4) sb')) ∧ Blk wq wr.heap.size 45 [.int .i64 fd, .int .i64 fi, .int .i64 ft, .int .i64 fq] ∧ Below w.heap.size w wq) (fun i _ => (2 - intOf i).toNat)
              case atStart => exact ⟨0, rfl, .inl ⟨rfl, hcA, hcB⟩, HK.out, HBA.out⟩
              case round =>
                clear hcA hcB HK
                obtain ⟨j, rfl, hj, hblk, hB4⟩ := hrel
                have hb4 := hB4.size
                have HB4 := Kept.mk hB4
                have d0 := hblk.cell 0 rfl
                have HK := Kept.mk hblk
                clear hB4 hblk
                rcases hj with ⟨rfl, ha4, hb4'⟩ | ⟨rfl, ha4, hb4'⟩ | ⟨rfl, ha4, hb4'⟩
                · go_wp2_with fail
                  refine (reserve_to _ _ _ _ _ _ _ _ _ ha4 HS.out.oka Ha.out).mono ?_
                  rintro e w5 ⟨rfl, h5, k5⟩
                  have B5 : Below w.heap.size w w5 := HB4.out.trans (k5.below hb4 (fun k e => by omega))
                  have hK5 := HK.out.keeps k5 (fun e => by have := hla.out; have := hma.out; omega)
                  have hb5 := hb4'.keeps k5 (fun e => by omega) (fun e => by omega)
                  clear k5
                  go_wp2_with fail
                  go_roundw
                  case rel => exact ⟨1, by go_num, .inr (.inl ⟨rfl, h5, hb5⟩), hK5, B5⟩
                  case measure => simp [intOf]
                · go_wp2_with fail
                  refine (reserve_to _ _ _ _ _ _ _ _ _ hb4' HS.out.okb Hb.out).mono ?_
                  rintro e w5 ⟨rfl, h5, k5⟩
                  have B5 : Below w.heap.size w w5 := HB4.out.trans (k5.below hb4 (fun k e => by omega))
                  have hK5 := HK.out.keeps k5 (fun e => by have := hlb.out; have := hmb.out; omega)
                  have hb5 := ha4.keeps k5 (fun e => by omega) (fun e => by omega)
                  clear k5
                  go_wp2_with fail
                  go_roundw
                  case rel => exact ⟨2, by go_num, .inr (.inr ⟨rfl, hb5, h5⟩), hK5, B5⟩
                  case measure => simp [intOf]
                · go_wp2_with fail
                  go_roundw
                  case rel => exact ⟨k + 1, sa', sb', by omega, by go_num, HS2.out, ha4, hb4', HB4.out⟩
                  case measure => simp [intOf]; omega
        · by_cases hd0 : fd = 0
          · obtain ⟨ra, sa', Ha, hs'⟩ : ∃ ra sa', Kept (sa.commit id = (ra, sa')) ∧ Pair I sa' sb := ⟨_, _, ⟨rfl⟩, HS.out.commit_far (by have := HTn.out; omega)⟩
            have HS2 := Kept.mk hs'
            clear hs'
            have eT : (T == (I : Int)) = false := by simpa using htI
            clear htI
            subst hd0
            go_wp2_with fail
            rw [HID.out, HQ.out, HT.out]
            go_loopw [50] (fun i wq => ∃ (j : Nat), i = .int .i64 j ∧ ((j = 0 ∧ SkAt wq (w.heap.size + 2) (w.heap.size + 1) sa ∧ SkAt wq (w.heap.size + 5) (w.heap.size + 4) sb) ∨ (j = 1 ∧ SkAt wq (w.heap.size + 2) (w.heap.size + 1) sa' ∧ SkAt wq (w.heap.size + 5) (w.heap.size + 4) sb) ∨ (j = 2 ∧ SkAt wq (w.heap.size + 2) (w.heap.size + 1) sa' ∧ SkAt wq (w.heap.size + 5) (w.heap.size + 4) sb)) ∧ Blk wq wr.heap.size 45 [.int .i64 0, .int .i64 fi, .int .i64 ft, .int .i64 fq] ∧ Below w.heap.size w wq) (fun i _ => (2 - intOf i).toNat)
            case atStart => exact ⟨0, rfl, .inl ⟨rfl, hcA, hcB⟩, HK.out, HBA.out⟩
            case round =>
              clear hcA hcB HK
              obtain ⟨j, rfl, hj, hblk, hB4⟩ := hrel
              have hb4 := hB4.size
              have HB4 := Kept.mk hB4
              have d0 := hblk.cell 0 rfl
              have HK := Kept.mk hblk
              clear hB4 hblk
              rcases hj with ⟨rfl, ha4, hb4'⟩ | ⟨rfl, ha4, hb4'⟩ | ⟨rfl, ha4, hb4'⟩
              · go_wp2_with fail
                refine (commit_to _ _ _ _ _ _ _ ha4 HS.out.oka Ha.out).mono ?_
                rintro e w5 ⟨rfl, h5, k5⟩
                have B5 : Below w.heap.size w w5 := HB4.out.trans (k5.below hb4 (fun k e => by omega))
                have hK5 := HK.out.keeps k5 (fun e => by have := hla.out; have := hma.out; omega)
                have hb5 := hb4'.keeps k5 (fun e => by omega) (fun e => by omega)
                clear k5
                go_wp2_with fail
                go_roundw
                case rel => exact ⟨1, by go_num, .inr (.inl ⟨rfl, h5, hb5⟩), hK5, B5⟩
                case measure => simp [intOf]
              · go_wp2_with fail
                go_roundw
                case rel => exact ⟨2, by go_num, .inr (.inr ⟨rfl, ha4, hb4'⟩), HK.out, HB4.out⟩
                case measure => simp [intOf]
              · go_wp2_with fail
                go_roundw
                case rel => exact ⟨k + 1, sa', sb, by omega, by go_num, HS2.out, ha4, hb4', HB4.out⟩
                case measure => simp [intOf]; omega
          · by_cases hd1 : fd = 1
            · obtain ⟨ra, sa', Ha, hs'⟩ : ∃ ra sa', Kept (sa.release id = (ra, sa')) ∧ Pair I sa' sb := ⟨_, _, ⟨rfl⟩, HS.out.release_far (by have := HTn.out; omega)⟩
              have HS2 := Kept.mk hs'
              clear hs'
              have eT : (T == (I : Int)) = false := by simpa using htI
              clear htI
              subst hd1
              go_wp2_with fail
              rw [HID.out, HQ.out, HT.out]
              go_loopw [50] (fun i wq => ∃ (j : Nat), i = .int .i64 j ∧ ((j = 0 ∧ SkAt wq (w.heap.size + 2) (w.heap.size + 1) sa ∧ SkAt wq (w.heap.size + 5) (w.heap.size + 4) sb) ∨ (j = 1 ∧ SkAt wq (w.heap.size + 2) (w.heap.size + 1) sa' ∧ SkAt wq (w.heap.size + 5) (w.heap.size + 4) sb) ∨ (j = 2 ∧ SkAt wq (w.heap.size + 2) (w.heap.size + 1) sa' ∧ SkAt wq (w.heap.size + 5) (w.heap.size + 4) sb)) ∧ Blk wq wr.heap.size 45 [.int .i64 1, .int .i64 fi, .int .i64 ft, .int .i64 fq] ∧ Below w.heap.size w wq) (fun i _ => (2 - intOf i).toNat)
              case atStart => exact ⟨0, rfl, .inl ⟨rfl, hcA, hcB⟩, HK.out, HBA.out⟩
              case round =>
                clear hcA hcB HK
                obtain ⟨j, rfl, hj, hblk, hB4⟩ := hrel
                have hb4 := hB4.size
                have HB4 := Kept.mk hB4
                have d0 := hblk.cell 0 rfl
                have HK := Kept.mk hblk
                clear hB4 hblk
                rcases hj with ⟨rfl, ha4, hb4'⟩ | ⟨rfl, ha4, hb4'⟩ | ⟨rfl, ha4, hb4'⟩
                · go_wp2_with fail
                  refine (release_to _ _ _ _ _ _ _ ha4 HS.out.oka Ha.out).mono ?_
                  rintro e w5 ⟨rfl, h5, k5⟩
                  have B5 : Below w.heap.size w w5 := HB4.out.trans (k5.below hb4 (fun k e => by omega))
                  have hK5 := HK.out.keeps k5 (fun e => by have := hla.out; have := hma.out; omega)
                  have hb5 := hb4'.keeps k5 (fun e => by omega) (fun e => by omega)
                  clear k5
                  go_wp2_with fail
                  go_roundw
                  case rel => exact ⟨1, by go_num, .inr (.inl ⟨rfl, h5, hb5⟩), hK5, B5⟩
                  case measure => simp [intOf]
                · go_wp2_with fail
                  go_roundw
                  case rel => exact ⟨2, by go_num, .inr (.inr ⟨rfl, ha4, hb4'⟩), HK.out, HB4.out⟩
                  case measure => simp [intOf]
                · go_wp2_with fail
                  go_roundw
                  case rel => exact ⟨k + 1, sa', sb, by omega, by go_num, HS2.out, ha4, hb4', HB4.out⟩
                  case measure => simp [intOf]; omega
            · obtain ⟨ra, sa', Ha, hs'⟩ : ∃ ra sa', Kept (sa.reserve id T q = (ra, sa')) ∧ Pair I sa' sb := ⟨_, _, ⟨rfl⟩, HS.out.reserve_far HTn.out (by have := HTn.out; omega)⟩
              have HS2 := Kept.mk hs'
              clear hs'
              have eT : (T == (I : Int)) = false := by simpa using htI
              clear htI
              have e0 : (fd == 0) = false := by simpa using hd0
              have e1 : (fd == 1) = false := by simpa using hd1
              clear hd0 hd1
              go_wp2_with fail
              rw [HID.out, HQ.out, HT.out]
              go_loopw [50] (fun i wq => ∃ (j : Nat), i = .int .i64 j ∧ ((j = 0 ∧ SkAt wq (w.heap.size + 2) (w.heap.size + 1) sa ∧ SkAt wq (w.heap.size + 5) (w.heap.size + 4) sb) ∨ (j = 1 ∧ SkAt wq (w.heap.size + 2) (w.heap.size + 1) sa' ∧ SkAt wq (w.heap.size + 5) (w.heap.size + 4) sb) ∨ (j = 2 ∧ SkAt wq (w.heap.size + 2) (w.heap.size + 1) sa' ∧ SkAt wq (w.heap.size + 5) (w.heap.size + 4) sb)) ∧ Blk wq wr.heap.size 45 [.int .i64 fd, .int .i64 fi, .int .i64 ft, .int .i64 fq] ∧ Below w.heap.size w wq) (fun i _ => (2 - intOf i).toNat)
              case atStart => exact ⟨0, rfl, .inl ⟨rfl, hcA, hcB⟩, HK.out, HBA.out⟩
              case round =>
                clear hcA hcB HK
                obtain ⟨j, rfl, hj, hblk, hB4⟩ := hrel
                have hb4 := hB4.size
                have HB4 := Kept.mk hB4
                have d0 := hblk.cell 0 rfl
                have HK := Kept.mk hblk
                clear hB4 hblk
                rcases hj with ⟨rfl, ha4, hb4'⟩ | ⟨rfl, ha4, hb4'⟩ | ⟨rfl, ha4, hb4'⟩
                · go_wp2_with fail
                  refine (reserve_to _ _ _ _ _ _ _ _ _ ha4 HS.out.oka Ha.out).mono ?_
                  rintro e w5 ⟨rfl, h5, k5⟩
                  have B5 : Below w.heap.size w w5 := HB4.out.trans (k5.below hb4 (fun k e => by omega))
                  have hK5 := HK.out.keeps k5 (fun e => by have := hla.out; have := hma.out; omega)
                  have hb5 := hb4'.keeps k5 (fun e => by omega) (fun e => by omega)
                  clear k5
                  go_wp2_with fail
                  go_roundw
                  case rel => exact ⟨1, by go_num, .inr (.inl ⟨rfl, h5, hb5⟩), hK5, B5⟩
                  case measure => simp [intOf]
                · go_wp2_with fail
                  go_roundw
                  case rel => exact ⟨2, by go_num, .inr (.inr ⟨rfl, ha4, hb4'⟩), HK.out, HB4.out⟩
                  case measure => simp [intOf]
                · go_wp2_with fail
                  go_roundw
                  case rel => exact ⟨k + 1, sa', sb, by omega, by go_num, HS2.out, ha4, hb4', HB4.out⟩
                  case measure => simp [intOf]; omega
    · have hcA := hca
      have hcB := hcb
      have HBA := HB
      have hn := hbw
      clear hca hcb
      go_wp2_with fail
      have hab : Kept (sb.onHand I = sa.onHand I) := ⟨by rw [Sk.onHand_in (i := I) (by omega) (by omega) rfl, Sk.onHand_in (i := I) (by omega) (by omega) rfl]; exact HS.out.hand.symm⟩
      have hfb : Kept (sb.freeOf I = sa.freeOf I) := ⟨by rw [Sk.freeOf_in (i := I) (by omega) (by omega) rfl, Sk.freeOf_in (i := I) (by omega) (by omega) rfl]; exact HS.out.free.symm⟩
      have hr50 : Kept (sb.onHand (((I : Int) + 1) % 8) = 50) := ⟨by
        refine Sk.onHand_in (by omega) (by omega) (HS.out.rest _ (by omega) (by omega))⟩
      refine (onHand_to _ _ sa _ (sa.onHand I) _ hcA rfl).mono ?_
      rintro e _ ⟨rfl, rfl⟩
      go_wp2_with fail
      refine (onHand_to _ _ sb _ (sa.onHand I) _ hcB hab.out).mono ?_
      rintro e _ ⟨rfl, rfl⟩
      go_wp2_with fail
      refine (free_to _ _ sa _ (sa.freeOf I) _ hcA rfl).mono ?_
      rintro e _ ⟨rfl, rfl⟩
      go_wp2_with fail
      refine (free_to _ _ sb _ (sa.freeOf I) _ hcB hfb.out).mono ?_
      rintro e _ ⟨rfl, rfl⟩
      go_wp2_with fail
      refine (onHand_to _ _ sb _ 50 _ hcB hr50.out).mono ?_
      rintro e _ ⟨rfl, rfl⟩
      go_wp2_with fail
      refine (awake8_any _).mono ?_
      rintro e w9 ⟨rfl, b9⟩
      go_wp2_with fail
      go_ret
      exact ⟨rfl, HBA.out.trans (b9.mono hn)⟩
end Go.Proofs.Ythiplekpdmdhiaa
