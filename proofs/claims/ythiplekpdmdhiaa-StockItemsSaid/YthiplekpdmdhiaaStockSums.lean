/- The law StockSums, walked. (printed by gen/stocksums.py) -/
import Derived.Test.YthiplekpdmdhiaaStockLaws
import Derived.Test.YthiplekpdmdhiaaSumTo
namespace Go.Proofs.Ythiplekpdmdhiaa
open Go.RowKit SU
theorem sHas_to (p m : Nat) (s : Sk) (id x q : Int) (r : Bool) (w : World) (h : SkAt w p m s) (hx : ((s.res id).1 : Int) = x) (hq : (s.res id).2 = q) (hr : (MP.get s.L id).isSome = r) : Calls Try.prog 31 #[.pointer (some ⟨p, 0, none⟩), .int .i64 id] w
    (Rets w (fun _ => False) (.tuple #[.int .i64 x, .int .i64 q, .bool r]) fun w' => SkAt w' p m s) := by
  subst hx; subst hq; subst hr; exact sHas_any p m s id w h
/-- A row of calls of four numbers. -/
def Call4 (w : World) (a : Option Addr) (len : Nat) (f : Nat → Int × Int × Int × Int) : Prop :=
  ∃ b off, (a = some ⟨b, off, none⟩ ∧ b < w.heap.size ∨ len = 0) ∧ ∀ i, i < len → w.cell? ⟨b, off + i * 4, none⟩ = some (.int .i64 (f i).1) ∧ w.cell? ⟨b, off + i * 4 + 1, none⟩ = some (.int .i64 (f i).2.1) ∧ w.cell? ⟨b, off + i * 4 + 2, none⟩ = some (.int .i64 (f i).2.2.1) ∧ w.cell? ⟨b, off + i * 4 + 3, none⟩ = some (.int .i64 (f i).2.2.2)
theorem RowFits.call4 {H : Type} {enc : TypeId × Value → H} {P : Program} {w : World} {sp : Nat → Bool} {held : Bool} {a : Option Addr} {len cap : Nat} (h : RowFits enc P w sp held [.int .i64, .int .i64, .int .i64, .int .i64] a len cap) : ∃ f, Call4 w a len f := by
  obtain ⟨b, off, ha, _, _, hx⟩ := h
  have : ∀ i, i < len → ∃ c : Int × Int × Int × Int, w.cell? ⟨b, off + i * 4, none⟩ = some (.int .i64 c.1) ∧ w.cell? ⟨b, off + i * 4 + 1, none⟩ = some (.int .i64 c.2.1) ∧ w.cell? ⟨b, off + i * 4 + 2, none⟩ = some (.int .i64 c.2.2.1) ∧ w.cell? ⟨b, off + i * 4 + 3, none⟩ = some (.int .i64 c.2.2.2) := by
    intro i hi
    obtain ⟨v0, h0, c0, rfl, _⟩ := hx i hi 0 (.int .i64) rfl
    obtain ⟨v1, h1, c1, rfl, _⟩ := hx i hi 1 (.int .i64) rfl
    obtain ⟨v2, h2, c2, rfl, _⟩ := hx i hi 2 (.int .i64) rfl
    obtain ⟨v3, h3, c3, rfl, _⟩ := hx i hi 3 (.int .i64) rfl
    exact ⟨(c0, c1, c2, c3), h0, h1, h2, h3⟩
  obtain ⟨f, hf⟩ := Go.Deep.choose_lt this
  exact ⟨f, b, off, ha, hf⟩
def Sk.qty (s : Sk) (k : Int) : Int := (s.res k).2
/-- Nothing is lost: goods, less what went, less what is reserved. -/
structure Sk.Sums (s : Sk) (G gone : Int) : Prop where
  ok : s.Ok
  h0 : s.hand 0 = 7
  h1 : s.hand 1 = G - gone
  g0 : 0 ≤ gone
  ids : ∀ p ∈ s.L, 1 ≤ p.1 ∧ p.1 ≤ 12 ∧ p.2.1 = 1
theorem get_keys {α : Type} {L : List (Int × α)} {x : Int} (h : x ∉ MP.keys L) : MP.get L x = none := by
  induction L with
  | nil => rfl
  | cons p r ih =>
    obtain ⟨y, v⟩ := p
    simp only [MP.keys, List.map_cons, List.mem_cons, not_or] at h
    rw [MP.get_cons, if_neg h.1]
    exact ih h.2
theorem qty_sum : ∀ (L : List (Int × (Nat × Int))), (MP.keys L).Nodup → (∀ p ∈ L, 1 ≤ p.1 ∧ p.1 ≤ 12 ∧ p.2.1 = 1) → sumTo (fun k => ((MP.get L k).getD (0, 0)).2) 12 = resv L 1
  | [], _, _ => by simp [sumTo, MP.get_nil, resv]
  | (x, (j, q)) :: r, hn, h => by
    obtain ⟨hx1, hx2, hj⟩ := h _ (List.mem_cons_self ..)
    simp only at hx1 hx2 hj
    subst hj
    simp only [MP.keys, List.map_cons, List.nodup_cons] at hn
    have hg : MP.get r x = none := get_keys hn.1
    have hu := sumTo_update (f := fun k => ((MP.get r k).getD (0, 0)).2) (g := fun k => ((MP.get ((x, (1, q)) :: r) k).getD (0, 0)).2) (id := x) (fun k hk => by
      simp only [MP.get_cons]; rw [if_neg hk]) hx1 12
    rw [if_pos (by omega)] at hu
    simp only [MP.get_cons, if_true, hg, Option.getD_some, Option.getD_none] at hu
    have := qty_sum r hn.2 (fun p hp => h p (List.mem_cons_of_mem _ hp))
    simp only [MP.get_cons, resv, if_true]
    omega
theorem Sk.Sums.qty0 {s : Sk} {G gone : Int} (h : s.Sums G gone) (k : Int) : 0 ≤ s.qty k := by
  unfold Sk.qty Sk.res
  cases hg : MP.get s.L k with
  | none => exact Int.le_refl _
  | some v =>
    have := (h.ok.vals _ (mem_of_get hg)).2.1
    simp only at this
    simp only [Option.getD_some]
    omega
theorem Sk.Sums.free1 {s : Sk} {G gone : Int} (h : s.Sums G gone) : s.free 1 = G - gone - sumTo s.qty 12 ∧ 0 ≤ s.free 1 := by
  have h1 := h.ok.sum 1 (by omega)
  have h2 := h.ok.f0 1 (by omega)
  have h3 : sumTo s.qty 12 = resv s.L 1 := qty_sum s.L h.ok.nodup h.ids
  have h4 := h.h1
  omega
theorem Sk.Sums.reserve {s : Sk} {G gone : Int} (h : s.Sums G gone) (id q : Int) (h1 : 1 ≤ id) (h2 : id ≤ 12) : (s.reserve id 1 q).2.Sums G gone := by
  have ok := Sk.reserve_ok h.ok id 1 q
  unfold Sk.reserve at ok ⊢
  split
  · split
    · exact h
    · split
      · exact h
      · rename_i a b c
        rw [if_pos a, if_neg b, if_neg c] at ok
        refine ⟨ok, h.h0, h.h1, h.g0, fun p hp => ?_⟩
        rcases mem_put hp with rfl | hp
        · exact ⟨h1, h2, rfl⟩
        · exact h.ids p hp
  · exact h
theorem Sk.Sums.commit {s : Sk} {G gone q : Int} {j : Nat} {id : Int} (h : s.Sums G gone) (hg : MP.get s.L id = some (j, q)) : j = 1 ∧ 1 ≤ q ∧ q ≤ G - gone ∧ (s.commit id).2.Sums G (gone + q) := by
  have ok := Sk.commit_ok h.ok id
  have hm := mem_of_get hg
  obtain ⟨_, _, hj⟩ := h.ids _ hm
  have hv := h.ok.vals _ hm
  have hr := le_resv (fun p hp => by have := h.ok.vals p hp; omega) hm
  simp only at hj hv
  subst hj
  have hs := h.ok.sum 1 (by omega)
  have hf := h.ok.f0 1 (by omega)
  have hh := h.h1
  have hg0 := h.g0
  rw [Sk.commit_yes hg] at ok ⊢
  refine ⟨rfl, hv.2.1, by omega, ok, ?_, ?_, by omega, fun p hp => h.ids p ((MP.del_sublist _ _).subset hp)⟩
  · simp only [upd_other _ (show (0 : Nat) ≠ 1 by omega)]; exact h.h0
  · simp only [upd_same]; omega
theorem Sk.Sums.release {s : Sk} {G gone : Int} {id : Int} (h : s.Sums G gone) : (s.release id).2.Sums G gone := by
  have ok := Sk.release_ok h.ok id
  unfold Sk.release at ok ⊢
  split
  · exact h
  · rename_i j q hg
    rw [hg] at ok
    exact ⟨ok, h.h0, h.h1, h.g0, fun p hp => h.ids p ((MP.del_sublist _ _).subset hp)⟩
theorem Sk.Sums.new (G : Int) (h0 : 0 ≤ G) (h1 : G ≤ 100000) : (Sk.new (fun k => if k = 0 then 7 else G) 2).Sums G 0 := by
  refine ⟨Sk.new_ok _ 2, by rfl, ?_, by omega, fun p hp => by simp [Sk.new] at hp⟩
  show goods (fun k => if k = 0 then 7 else G) (min 2 8) 1 = G - 0
  simp only [goods, clampI]
  rw [if_pos (by omega), if_neg (by omega)]
  omega
theorem stockNew_two (G : Int) (s : Sk) (w : World) (hs : Sk.new (fun k => if k = 0 then 7 else G) 2 = s) : Calls Try.prog 20 #[.slice (some ⟨w.heap.size, 0, none⟩) 2 2] (w.alloc (.cells #[.int .i64 7, .int .i64 G] 3)) (Rets w (fun _ => False) (.pointer (some ⟨w.heap.size + 2, 0, none⟩)) fun w' => SkAt w' (w.heap.size + 2) (w.heap.size + 1) s ∧ w'.heap.size = w.heap.size + 3) := by
  have hrow : IntCells (w.alloc (.cells #[.int .i64 7, .int .i64 G] 3)) (some ⟨w.heap.size, 0, none⟩) 2 (fun k => if k = 0 then 7 else G) :=
    ⟨w.heap.size, 0, .inl rfl, fun k hk => by
      rw [Nat.zero_add]
      match k, hk with
      | 0, _ => exact (Blk.new w 3 [.int .i64 7, .int .i64 G]).cell 0 rfl
      | 1, _ => exact (Blk.new w 3 [.int .i64 7, .int .i64 G]).cell 1 rfl⟩
  refine (stockNew_to _ 2 2 _ s _ hrow (by omega) (fun y e => by cases e; simp) hs).mono ?_
  rintro e w1 ⟨rfl, ⟨h1, s1⟩, k1⟩
  rw [World.size_alloc] at h1 s1 ⊢
  exact ⟨rfl, ⟨h1, s1⟩, (((Keeps.refl _ w).alloc _).then k1 (fun _ _ h => h))⟩
set_option maxRecDepth 100000 in
set_option maxHeartbeats 8000000 in
theorem ssums_any (g : Int) (a : Option Addr) (len cap : Nat) (f : Nat → Int × Int × Int × Int) (w : World) (hr : Call4 w a len f) (hlen : (len : Int) ≤ 9223372036854775807) : Calls Try.prog 10 #[.int .i64 g, .slice a len cap] w (Yes w) := by
  obtain ⟨b, off, ha, hcell⟩ := hr
  have Hcell := Kept.mk hcell
  clear hcell
  have hG0 := mod_range g 100000 (by omega) (by omega)
  obtain ⟨G, HG⟩ : ∃ G, Kept (wrap64 ((IntKind.u64.wrap g).tmod 100000) = G) := ⟨_, ⟨rfl⟩⟩
  have hG := hG0
  rw [HG.out] at hG
  obtain ⟨s0, e0, S0⟩ : ∃ s0, Sk.new (fun k => if k = 0 then 7 else G) 2 = s0 ∧ s0.Sums G 0 := ⟨_, rfl, Sk.Sums.new G (by omega) (by omega)⟩
  go_enter Try.func10, Try.ntmps10
  go_wp2_with fail
  rw [HG.out]
  clear HG hG0
  refine (stockNew_two G s0 _ e0).mono ?_
  rintro e w1 ⟨rfl, ⟨h1, z1⟩, k1⟩
  go_wp2_with fail
  have B1 : Below w.heap.size w w1 := k1.below (Nat.le_refl _) (fun _ h => h.elim)
  clear k1 z1
  go_loopw [6, 27] (fun u i wr => ∃ (k : Nat) (gone : Int) (s : Sk), k ≤ len ∧ u = .int .i64 gone ∧ i = .int .i64 k ∧ s.Sums G gone ∧ SkAt wr (w.heap.size + 2) (w.heap.size + 1) s ∧ Below w.heap.size w wr) (fun _ i _ => (len - (intOf i).toNat))
  case atStart => exact ⟨0, 0, s0, by omega, rfl, rfl, S0, h1, B1⟩
  case round =>
    clear h1 B1 S0 e0 s0
    obtain ⟨k, gone, s, hk, rfl, rfl, hs, hc, hB⟩ := hrel
    have hbw := hB.size
    by_cases hlt : k < len
    · obtain ⟨rfl, hbl⟩ : a = some ⟨b, off, none⟩ ∧ b < w.heap.size := by
        rcases ha with h | h
        · exact h
        · omega
      obtain ⟨c0, c1, c2, c3⟩ := Hcell.out k hlt
      rw [← hB.cell (p := ⟨b, off + k * 4, none⟩) hbl] at c0
      rw [← hB.cell (p := ⟨b, off + k * 4 + 1, none⟩) hbl] at c1
      rw [← hB.cell (p := ⟨b, off + k * 4 + 2, none⟩) hbl] at c2
      rw [← hB.cell (p := ⟨b, off + k * 4 + 3, none⟩) hbl] at c3
      generalize (f k).1 = fd at c0
      generalize (f k).2.1 = fi at c1
      generalize (f k).2.2.1 = ft at c2
      generalize (f k).2.2.2 = fq at c3
      by_cases h60 : (80 : Int) ≤ k
      · go_wp2_with fail
        refine (awake8_any _).mono ?_
        rintro e w5 ⟨rfl, b5⟩
        go_wp2_with fail
        go_ret
        exact ⟨rfl, (hB.alloc hbw _).trans (b5.mono (by simp; omega))⟩
      · have hid0 := mod_above fi 12 1 (by omega) (by omega) (by omega) (by omega)
        obtain ⟨id, HID⟩ : ∃ id, Kept (wrap64 (1 + wrap64 ((IntKind.u64.wrap fi).tmod 12)) = id) := ⟨_, ⟨rfl⟩⟩
        have hid := hid0
        rw [HID.out] at hid
        have HB := Kept.mk hB
        have HS := Kept.mk hs
        have HC := Kept.mk hc
        have hblk := Blk.new wr 45 [.int .i64 fd, .int .i64 fi, .int .i64 ft, .int .i64 fq]
        have HK := Kept.mk hblk
        clear hblk hB hs
        cases hg : MP.get s.L id with
        | none =>
          have hx : Kept (((s.res id).1 : Int) = 0) := ⟨by simp [Sk.res, hg]⟩
          have hq : Kept ((s.res id).2 = 0) := ⟨by simp [Sk.res, hg]⟩
          have hi : Kept ((MP.get s.L id).isSome = false) := ⟨by rw [hg]; rfl⟩
          have Hg := Kept.mk hg
          clear hg
          by_cases hd0 : fd = 0
          · subst hd0
            obtain ⟨s', Hs', hs'⟩ : ∃ s', Kept (s.commit id = (6, s')) ∧ s'.Sums G gone := ⟨_, ⟨Sk.commit_none Hg.out⟩, HS.out⟩
            go_wp2_with fail
            rw [HID.out]
            refine (sHas_to _ _ s id 0 0 false _ (hc.alloc _) hx.out hq.out hi.out).mono ?_
            rintro e w3 ⟨rfl, h3, k3⟩
            have B3 : Below w.heap.size w w3 := (HB.out.alloc hbw _).trans (k3.below (by simp; omega) (fun _ h => h.elim))
            have d0 := (HK.out.keeps k3 (fun h => h)).cell 0 rfl
            have d3 := (HK.out.keeps k3 (fun h => h)).cell 3 rfl
            have hb3 := B3.size
            have HB3 := Kept.mk B3
            clear k3 B3
            go_wp2_with fail
            refine (commit_to _ _ _ _ _ _ _ h3 HS.out.ok Hs'.out).mono ?_
            rintro e w5 ⟨rfl, h5, k5⟩
            have B5 : Below w.heap.size w w5 := HB3.out.trans (k5.below hb3 (fun k e => by omega))
            clear k5 h3 d0 d3
            have hb5 := B5.size
            have hgh := hs'.free1
            obtain ⟨H, HH⟩ : ∃ H, Kept (sumTo s'.qty 12 = H) := ⟨_, ⟨rfl⟩⟩
            rw [HH.out] at hgh
            have hg0 := hs'.g0
            have hO1 : Kept (s'.onHand 1 = G - gone) := ⟨Sk.onHand_in (by omega) (by omega) hs'.h1⟩
            have hF1 : Kept (s'.freeOf 1 = G - gone - H) := ⟨Sk.freeOf_in (by omega) (by omega) hgh.1⟩
            have hO0 : Kept (s'.onHand 0 = 7) := ⟨Sk.onHand_in (by omega) (by omega) hs'.h0⟩
            have hH0 : 0 ≤ H := by rw [← HH.out]; exact sumTo_nonneg hs'.qty0 12
            have hHG : 0 ≤ G - gone - H := by omega
            have Hnn := Kept.mk hs'.qty0
            have HS5 := Kept.mk hs'
            have HB5 := Kept.mk B5
            clear hgh hs' B5
            go_wp2_with fail
            go_loopw [13, 14] (fun u i wq => ∃ (j : Nat) (S : Int), j ≤ 12 ∧ u = .int .i64 S ∧ i = .int .i64 (j + 1) ∧ Kept (S = sumTo s'.qty j) ∧ 0 ≤ S ∧ S ≤ H ∧ SkAt wq (w.heap.size + 2) (w.heap.size + 1) s' ∧ Below w.heap.size w wq) (fun _ i _ => (13 - intOf i).toNat)
            case atStart => exact ⟨0, 0, by omega, rfl, rfl, ⟨rfl⟩, by omega, hH0, h5, HB5.out⟩
            case round =>
              obtain ⟨j, S, hj, rfl, rfl, hS, S0, S1, hc7, hB7⟩ := hrel
              have HB7 := Kept.mk hB7
              have hb7 := hB7.size
              clear hB7
              by_cases hlj : j < 12
              · have hx0 := Hnn.out (j + 1)
                have hxs : Kept (S + s'.qty (j + 1) = sumTo s'.qty (j + 1)) := ⟨by
                  have ej : ((j + 1 : Nat) : Int) = (j : Int) + 1 := by omega
                  rw [hS.out]; simp only [sumTo, ej]⟩
                have hxR : S + s'.qty (j + 1) ≤ H := by
                  have h1 := sumTo_mono (f := s'.qty) Hnn.out (i := j + 1) 12 (by omega)
                  have h2 := HH.out
                  rw [hxs.out]
                  omega
                generalize hx7 : s'.qty (j + 1) = x at hx0 hxs hxR
                have Hx7 : Kept ((s'.res (j + 1)).2 = x) := ⟨hx7⟩
                clear hx7
                obtain ⟨y7, hy7⟩ : ∃ y, Kept (((s'.res (j + 1)).1 : Int) = y) := ⟨_, ⟨rfl⟩⟩
                obtain ⟨r7, hr7⟩ : ∃ r, Kept ((MP.get s'.L (j + 1)).isSome = r) := ⟨_, ⟨rfl⟩⟩
                go_wp2_with fail
                refine (sHas_to _ _ s' _ y7 x r7 _ hc7 hy7.out Hx7.out hr7.out).mono ?_
                rintro e w8 ⟨rfl, h8, k8⟩
                have B8 : Below w.heap.size w w8 := HB7.out.trans (k8.below hb7 (fun _ h => h.elim))
                clear k8
                go_wp2_with fail
                go_roundw
                case rel => exact ⟨j + 1, S + x, by omega, rfl, by go_num, hxs, by omega, hxR, h8, B8⟩
                case measure => simp [intOf]; omega
              · obtain rfl : j = 12 := by omega
                obtain rfl : S = H := by rw [hS.out]; exact HH.out
                go_wp2_with fail
                refine (onHand_to _ _ _ _ _ _ hc7 hO1.out).mono ?_
                rintro e _ ⟨rfl, rfl⟩
                go_wp2_with fail
                refine (free_to _ _ _ _ _ _ hc7 hF1.out).mono ?_
                rintro e _ ⟨rfl, rfl⟩
                go_wp2_with fail
                refine (free_to _ _ _ _ _ _ hc7 hF1.out).mono ?_
                rintro e _ ⟨rfl, rfl⟩
                go_wp2_with fail
                refine (onHand_to _ _ _ _ _ _ hc7 hO0.out).mono ?_
                rintro e _ ⟨rfl, rfl⟩
                go_wp2_with fail
                go_roundw
                case rel => exact ⟨k + 1, gone, s', by omega, rfl, by go_num, HS5.out, hc7, HB7.out⟩
                case measure => simp [intOf]; omega
          · by_cases hd1 : fd = 1
            · subst hd1
              obtain ⟨s', Hs', hs'⟩ : ∃ s', Kept (s.release id = (6, s')) ∧ s'.Sums G gone := ⟨_, ⟨Sk.release_none Hg.out⟩, HS.out⟩
              go_wp2_with fail
              rw [HID.out]
              refine (sHas_to _ _ s id 0 0 false _ (hc.alloc _) hx.out hq.out hi.out).mono ?_
              rintro e w3 ⟨rfl, h3, k3⟩
              have B3 : Below w.heap.size w w3 := (HB.out.alloc hbw _).trans (k3.below (by simp; omega) (fun _ h => h.elim))
              have d0 := (HK.out.keeps k3 (fun h => h)).cell 0 rfl
              have d3 := (HK.out.keeps k3 (fun h => h)).cell 3 rfl
              have hb3 := B3.size
              have HB3 := Kept.mk B3
              clear k3 B3
              go_wp2_with fail
              refine (release_to _ _ _ _ _ _ _ h3 HS.out.ok Hs'.out).mono ?_
              rintro e w5 ⟨rfl, h5, k5⟩
              have B5 : Below w.heap.size w w5 := HB3.out.trans (k5.below hb3 (fun k e => by omega))
              clear k5 h3 d0 d3
              have hb5 := B5.size
              have hgh := hs'.free1
              obtain ⟨H, HH⟩ : ∃ H, Kept (sumTo s'.qty 12 = H) := ⟨_, ⟨rfl⟩⟩
              rw [HH.out] at hgh
              have hg0 := hs'.g0
              have hO1 : Kept (s'.onHand 1 = G - gone) := ⟨Sk.onHand_in (by omega) (by omega) hs'.h1⟩
              have hF1 : Kept (s'.freeOf 1 = G - gone - H) := ⟨Sk.freeOf_in (by omega) (by omega) hgh.1⟩
              have hO0 : Kept (s'.onHand 0 = 7) := ⟨Sk.onHand_in (by omega) (by omega) hs'.h0⟩
              have hH0 : 0 ≤ H := by rw [← HH.out]; exact sumTo_nonneg hs'.qty0 12
              have hHG : 0 ≤ G - gone - H := by omega
              have Hnn := Kept.mk hs'.qty0
              have HS5 := Kept.mk hs'
              have HB5 := Kept.mk B5
              clear hgh hs' B5
              go_wp2_with fail
              go_loopw [13, 14] (fun u i wq => ∃ (j : Nat) (S : Int), j ≤ 12 ∧ u = .int .i64 S ∧ i = .int .i64 (j + 1) ∧ Kept (S = sumTo s'.qty j) ∧ 0 ≤ S ∧ S ≤ H ∧ SkAt wq (w.heap.size + 2) (w.heap.size + 1) s' ∧ Below w.heap.size w wq) (fun _ i _ => (13 - intOf i).toNat)
              case atStart => exact ⟨0, 0, by omega, rfl, rfl, ⟨rfl⟩, by omega, hH0, h5, HB5.out⟩
              case round =>
                obtain ⟨j, S, hj, rfl, rfl, hS, S0, S1, hc7, hB7⟩ := hrel
                have HB7 := Kept.mk hB7
                have hb7 := hB7.size
                clear hB7
                by_cases hlj : j < 12
                · have hx0 := Hnn.out (j + 1)
                  have hxs : Kept (S + s'.qty (j + 1) = sumTo s'.qty (j + 1)) := ⟨by
                    have ej : ((j + 1 : Nat) : Int) = (j : Int) + 1 := by omega
                    rw [hS.out]; simp only [sumTo, ej]⟩
                  have hxR : S + s'.qty (j + 1) ≤ H := by
                    have h1 := sumTo_mono (f := s'.qty) Hnn.out (i := j + 1) 12 (by omega)
                    have h2 := HH.out
                    rw [hxs.out]
                    omega
                  generalize hx7 : s'.qty (j + 1) = x at hx0 hxs hxR
                  have Hx7 : Kept ((s'.res (j + 1)).2 = x) := ⟨hx7⟩
                  clear hx7
                  obtain ⟨y7, hy7⟩ : ∃ y, Kept (((s'.res (j + 1)).1 : Int) = y) := ⟨_, ⟨rfl⟩⟩
                  obtain ⟨r7, hr7⟩ : ∃ r, Kept ((MP.get s'.L (j + 1)).isSome = r) := ⟨_, ⟨rfl⟩⟩
                  go_wp2_with fail
                  refine (sHas_to _ _ s' _ y7 x r7 _ hc7 hy7.out Hx7.out hr7.out).mono ?_
                  rintro e w8 ⟨rfl, h8, k8⟩
                  have B8 : Below w.heap.size w w8 := HB7.out.trans (k8.below hb7 (fun _ h => h.elim))
                  clear k8
                  go_wp2_with fail
                  go_roundw
                  case rel => exact ⟨j + 1, S + x, by omega, rfl, by go_num, hxs, by omega, hxR, h8, B8⟩
                  case measure => simp [intOf]; omega
                · obtain rfl : j = 12 := by omega
                  obtain rfl : S = H := by rw [hS.out]; exact HH.out
                  go_wp2_with fail
                  refine (onHand_to _ _ _ _ _ _ hc7 hO1.out).mono ?_
                  rintro e _ ⟨rfl, rfl⟩
                  go_wp2_with fail
                  refine (free_to _ _ _ _ _ _ hc7 hF1.out).mono ?_
                  rintro e _ ⟨rfl, rfl⟩
                  go_wp2_with fail
                  refine (free_to _ _ _ _ _ _ hc7 hF1.out).mono ?_
                  rintro e _ ⟨rfl, rfl⟩
                  go_wp2_with fail
                  refine (onHand_to _ _ _ _ _ _ hc7 hO0.out).mono ?_
                  rintro e _ ⟨rfl, rfl⟩
                  go_wp2_with fail
                  go_roundw
                  case rel => exact ⟨k + 1, gone, s', by omega, rfl, by go_num, HS5.out, hc7, HB7.out⟩
                  case measure => simp [intOf]; omega
            · obtain ⟨q9, HQ9⟩ : ∃ q, Kept (wrap64 (1 + wrap64 ((IntKind.u64.wrap fq).tmod 1000)) = q) := ⟨_, ⟨rfl⟩⟩
              have hq9 := mod_above fq 1000 1 (by omega) (by omega) (by omega) (by omega)
              obtain ⟨r9, s', Hs', hs'⟩ : ∃ r s', Kept (s.reserve id 1 q9 = (r, s')) ∧ s'.Sums G gone := ⟨_, _, ⟨rfl⟩, HS.out.reserve id q9 (by omega) (by omega)⟩
              have e0 : (fd == 0) = false := by simpa using hd0
              have e1 : (fd == 1) = false := by simpa using hd1
              clear hd0 hd1
              go_wp2_with fail
              rw [HID.out]
              refine (sHas_to _ _ s id 0 0 false _ (hc.alloc _) hx.out hq.out hi.out).mono ?_
              rintro e w3 ⟨rfl, h3, k3⟩
              have B3 : Below w.heap.size w w3 := (HB.out.alloc hbw _).trans (k3.below (by simp; omega) (fun _ h => h.elim))
              have d0 := (HK.out.keeps k3 (fun h => h)).cell 0 rfl
              have d3 := (HK.out.keeps k3 (fun h => h)).cell 3 rfl
              have hb3 := B3.size
              have HB3 := Kept.mk B3
              clear k3 B3
              go_wp2_with fail
              rw [HQ9.out]
              refine (reserve_to _ _ _ _ _ _ _ _ _ h3 HS.out.ok Hs'.out).mono ?_
              rintro e w5 ⟨rfl, h5, k5⟩
              have B5 : Below w.heap.size w w5 := HB3.out.trans (k5.below hb3 (fun k e => by omega))
              clear k5 h3 d0 d3
              have hb5 := B5.size
              have hgh := hs'.free1
              obtain ⟨H, HH⟩ : ∃ H, Kept (sumTo s'.qty 12 = H) := ⟨_, ⟨rfl⟩⟩
              rw [HH.out] at hgh
              have hg0 := hs'.g0
              have hO1 : Kept (s'.onHand 1 = G - gone) := ⟨Sk.onHand_in (by omega) (by omega) hs'.h1⟩
              have hF1 : Kept (s'.freeOf 1 = G - gone - H) := ⟨Sk.freeOf_in (by omega) (by omega) hgh.1⟩
              have hO0 : Kept (s'.onHand 0 = 7) := ⟨Sk.onHand_in (by omega) (by omega) hs'.h0⟩
              have hH0 : 0 ≤ H := by rw [← HH.out]; exact sumTo_nonneg hs'.qty0 12
              have hHG : 0 ≤ G - gone - H := by omega
              have Hnn := Kept.mk hs'.qty0
              have HS5 := Kept.mk hs'
              have HB5 := Kept.mk B5
              clear hgh hs' B5
              go_wp2_with fail
              go_loopw [13, 14] (fun u i wq => ∃ (j : Nat) (S : Int), j ≤ 12 ∧ u = .int .i64 S ∧ i = .int .i64 (j + 1) ∧ Kept (S = sumTo s'.qty j) ∧ 0 ≤ S ∧ S ≤ H ∧ SkAt wq (w.heap.size + 2) (w.heap.size + 1) s' ∧ Below w.heap.size w wq) (fun _ i _ => (13 - intOf i).toNat)
              case atStart => exact ⟨0, 0, by omega, rfl, rfl, ⟨rfl⟩, by omega, hH0, h5, HB5.out⟩
              case round =>
                obtain ⟨j, S, hj, rfl, rfl, hS, S0, S1, hc7, hB7⟩ := hrel
                have HB7 := Kept.mk hB7
                have hb7 := hB7.size
                clear hB7
                by_cases hlj : j < 12
                · have hx0 := Hnn.out (j + 1)
                  have hxs : Kept (S + s'.qty (j + 1) = sumTo s'.qty (j + 1)) := ⟨by
                    have ej : ((j + 1 : Nat) : Int) = (j : Int) + 1 := by omega
                    rw [hS.out]; simp only [sumTo, ej]⟩
                  have hxR : S + s'.qty (j + 1) ≤ H := by
                    have h1 := sumTo_mono (f := s'.qty) Hnn.out (i := j + 1) 12 (by omega)
                    have h2 := HH.out
                    rw [hxs.out]
                    omega
                  generalize hx7 : s'.qty (j + 1) = x at hx0 hxs hxR
                  have Hx7 : Kept ((s'.res (j + 1)).2 = x) := ⟨hx7⟩
                  clear hx7
                  obtain ⟨y7, hy7⟩ : ∃ y, Kept (((s'.res (j + 1)).1 : Int) = y) := ⟨_, ⟨rfl⟩⟩
                  obtain ⟨r7, hr7⟩ : ∃ r, Kept ((MP.get s'.L (j + 1)).isSome = r) := ⟨_, ⟨rfl⟩⟩
                  go_wp2_with fail
                  refine (sHas_to _ _ s' _ y7 x r7 _ hc7 hy7.out Hx7.out hr7.out).mono ?_
                  rintro e w8 ⟨rfl, h8, k8⟩
                  have B8 : Below w.heap.size w w8 := HB7.out.trans (k8.below hb7 (fun _ h => h.elim))
                  clear k8
                  go_wp2_with fail
                  go_roundw
                  case rel => exact ⟨j + 1, S + x, by omega, rfl, by go_num, hxs, by omega, hxR, h8, B8⟩
                  case measure => simp [intOf]; omega
                · obtain rfl : j = 12 := by omega
                  obtain rfl : S = H := by rw [hS.out]; exact HH.out
                  go_wp2_with fail
                  refine (onHand_to _ _ _ _ _ _ hc7 hO1.out).mono ?_
                  rintro e _ ⟨rfl, rfl⟩
                  go_wp2_with fail
                  refine (free_to _ _ _ _ _ _ hc7 hF1.out).mono ?_
                  rintro e _ ⟨rfl, rfl⟩
                  go_wp2_with fail
                  refine (free_to _ _ _ _ _ _ hc7 hF1.out).mono ?_
                  rintro e _ ⟨rfl, rfl⟩
                  go_wp2_with fail
                  refine (onHand_to _ _ _ _ _ _ hc7 hO0.out).mono ?_
                  rintro e _ ⟨rfl, rfl⟩
                  go_wp2_with fail
                  go_roundw
                  case rel => exact ⟨k + 1, gone, s', by omega, rfl, by go_num, HS5.out, hc7, HB7.out⟩
                  case measure => simp [intOf]; omega
        | some v =>
          obtain ⟨jj, q⟩ := v
          obtain ⟨rfl, hq1, hq2, -⟩ := HS.out.commit hg
          have hg00 := HS.out.g0
          have hx : Kept (((s.res id).1 : Int) = 1) := ⟨by simp [Sk.res, hg]⟩
          have hq : Kept ((s.res id).2 = q) := ⟨by simp [Sk.res, hg]⟩
          have hi : Kept ((MP.get s.L id).isSome = true) := ⟨by rw [hg]; rfl⟩
          have Hg := Kept.mk hg
          clear hg
          by_cases hd0 : fd = 0
          · subst hd0
            obtain ⟨s', Hs', hs'⟩ : ∃ s', Kept (s.commit id = (0, s')) ∧ s'.Sums G (gone + q) := ⟨_, ⟨Sk.commit_yes Hg.out⟩, by have := (HS.out.commit Hg.out).2.2.2; rw [Sk.commit_yes Hg.out] at this; exact this⟩
            go_wp2_with fail
            rw [HID.out]
            refine (sHas_to _ _ s id 1 q true _ (hc.alloc _) hx.out hq.out hi.out).mono ?_
            rintro e w3 ⟨rfl, h3, k3⟩
            have B3 : Below w.heap.size w w3 := (HB.out.alloc hbw _).trans (k3.below (by simp; omega) (fun _ h => h.elim))
            have d0 := (HK.out.keeps k3 (fun h => h)).cell 0 rfl
            have d3 := (HK.out.keeps k3 (fun h => h)).cell 3 rfl
            have hb3 := B3.size
            have HB3 := Kept.mk B3
            clear k3 B3
            go_wp2_with fail
            refine (commit_to _ _ _ _ _ _ _ h3 HS.out.ok Hs'.out).mono ?_
            rintro e w5 ⟨rfl, h5, k5⟩
            have B5 : Below w.heap.size w w5 := HB3.out.trans (k5.below hb3 (fun k e => by omega))
            clear k5 h3 d0 d3
            have hb5 := B5.size
            have hgh := hs'.free1
            obtain ⟨H, HH⟩ : ∃ H, Kept (sumTo s'.qty 12 = H) := ⟨_, ⟨rfl⟩⟩
            rw [HH.out] at hgh
            have hg0 := hs'.g0
            have hO1 : Kept (s'.onHand 1 = G - (gone + q)) := ⟨Sk.onHand_in (by omega) (by omega) hs'.h1⟩
            have hF1 : Kept (s'.freeOf 1 = G - (gone + q) - H) := ⟨Sk.freeOf_in (by omega) (by omega) hgh.1⟩
            have hO0 : Kept (s'.onHand 0 = 7) := ⟨Sk.onHand_in (by omega) (by omega) hs'.h0⟩
            have hH0 : 0 ≤ H := by rw [← HH.out]; exact sumTo_nonneg hs'.qty0 12
            have hHG : 0 ≤ G - (gone + q) - H := by omega
            have Hnn := Kept.mk hs'.qty0
            have HS5 := Kept.mk hs'
            have HB5 := Kept.mk B5
            clear hgh hs' B5
            go_wp2_with fail
            go_loopw [13, 14] (fun u i wq => ∃ (j : Nat) (S : Int), j ≤ 12 ∧ u = .int .i64 S ∧ i = .int .i64 (j + 1) ∧ Kept (S = sumTo s'.qty j) ∧ 0 ≤ S ∧ S ≤ H ∧ SkAt wq (w.heap.size + 2) (w.heap.size + 1) s' ∧ Below w.heap.size w wq) (fun _ i _ => (13 - intOf i).toNat)
            case atStart => exact ⟨0, 0, by omega, rfl, rfl, ⟨rfl⟩, by omega, hH0, h5, HB5.out⟩
            case round =>
              obtain ⟨j, S, hj, rfl, rfl, hS, S0, S1, hc7, hB7⟩ := hrel
              have HB7 := Kept.mk hB7
              have hb7 := hB7.size
              clear hB7
              by_cases hlj : j < 12
              · have hx0 := Hnn.out (j + 1)
                have hxs : Kept (S + s'.qty (j + 1) = sumTo s'.qty (j + 1)) := ⟨by
                  have ej : ((j + 1 : Nat) : Int) = (j : Int) + 1 := by omega
                  rw [hS.out]; simp only [sumTo, ej]⟩
                have hxR : S + s'.qty (j + 1) ≤ H := by
                  have h1 := sumTo_mono (f := s'.qty) Hnn.out (i := j + 1) 12 (by omega)
                  have h2 := HH.out
                  rw [hxs.out]
                  omega
                generalize hx7 : s'.qty (j + 1) = x at hx0 hxs hxR
                have Hx7 : Kept ((s'.res (j + 1)).2 = x) := ⟨hx7⟩
                clear hx7
                obtain ⟨y7, hy7⟩ : ∃ y, Kept (((s'.res (j + 1)).1 : Int) = y) := ⟨_, ⟨rfl⟩⟩
                obtain ⟨r7, hr7⟩ : ∃ r, Kept ((MP.get s'.L (j + 1)).isSome = r) := ⟨_, ⟨rfl⟩⟩
                go_wp2_with fail
                refine (sHas_to _ _ s' _ y7 x r7 _ hc7 hy7.out Hx7.out hr7.out).mono ?_
                rintro e w8 ⟨rfl, h8, k8⟩
                have B8 : Below w.heap.size w w8 := HB7.out.trans (k8.below hb7 (fun _ h => h.elim))
                clear k8
                go_wp2_with fail
                go_roundw
                case rel => exact ⟨j + 1, S + x, by omega, rfl, by go_num, hxs, by omega, hxR, h8, B8⟩
                case measure => simp [intOf]; omega
              · obtain rfl : j = 12 := by omega
                obtain rfl : S = H := by rw [hS.out]; exact HH.out
                go_wp2_with fail
                refine (onHand_to _ _ _ _ _ _ hc7 hO1.out).mono ?_
                rintro e _ ⟨rfl, rfl⟩
                go_wp2_with fail
                refine (free_to _ _ _ _ _ _ hc7 hF1.out).mono ?_
                rintro e _ ⟨rfl, rfl⟩
                go_wp2_with fail
                refine (free_to _ _ _ _ _ _ hc7 hF1.out).mono ?_
                rintro e _ ⟨rfl, rfl⟩
                go_wp2_with fail
                refine (onHand_to _ _ _ _ _ _ hc7 hO0.out).mono ?_
                rintro e _ ⟨rfl, rfl⟩
                go_wp2_with fail
                go_roundw
                case rel => exact ⟨k + 1, (gone + q), s', by omega, rfl, by go_num, HS5.out, hc7, HB7.out⟩
                case measure => simp [intOf]; omega
          · by_cases hd1 : fd = 1
            · subst hd1
              obtain ⟨s', Hs', hs'⟩ : ∃ s', Kept (s.release id = (0, s')) ∧ s'.Sums G gone := ⟨_, ⟨Sk.release_yes Hg.out⟩, by have := HS.out.release (id := id); rw [Sk.release_yes Hg.out] at this; exact this⟩
              go_wp2_with fail
              rw [HID.out]
              refine (sHas_to _ _ s id 1 q true _ (hc.alloc _) hx.out hq.out hi.out).mono ?_
              rintro e w3 ⟨rfl, h3, k3⟩
              have B3 : Below w.heap.size w w3 := (HB.out.alloc hbw _).trans (k3.below (by simp; omega) (fun _ h => h.elim))
              have d0 := (HK.out.keeps k3 (fun h => h)).cell 0 rfl
              have d3 := (HK.out.keeps k3 (fun h => h)).cell 3 rfl
              have hb3 := B3.size
              have HB3 := Kept.mk B3
              clear k3 B3
              go_wp2_with fail
              refine (release_to _ _ _ _ _ _ _ h3 HS.out.ok Hs'.out).mono ?_
              rintro e w5 ⟨rfl, h5, k5⟩
              have B5 : Below w.heap.size w w5 := HB3.out.trans (k5.below hb3 (fun k e => by omega))
              clear k5 h3 d0 d3
              have hb5 := B5.size
              have hgh := hs'.free1
              obtain ⟨H, HH⟩ : ∃ H, Kept (sumTo s'.qty 12 = H) := ⟨_, ⟨rfl⟩⟩
              rw [HH.out] at hgh
              have hg0 := hs'.g0
              have hO1 : Kept (s'.onHand 1 = G - gone) := ⟨Sk.onHand_in (by omega) (by omega) hs'.h1⟩
              have hF1 : Kept (s'.freeOf 1 = G - gone - H) := ⟨Sk.freeOf_in (by omega) (by omega) hgh.1⟩
              have hO0 : Kept (s'.onHand 0 = 7) := ⟨Sk.onHand_in (by omega) (by omega) hs'.h0⟩
              have hH0 : 0 ≤ H := by rw [← HH.out]; exact sumTo_nonneg hs'.qty0 12
              have hHG : 0 ≤ G - gone - H := by omega
              have Hnn := Kept.mk hs'.qty0
              have HS5 := Kept.mk hs'
              have HB5 := Kept.mk B5
              clear hgh hs' B5
              go_wp2_with fail
              go_loopw [13, 14] (fun u i wq => ∃ (j : Nat) (S : Int), j ≤ 12 ∧ u = .int .i64 S ∧ i = .int .i64 (j + 1) ∧ Kept (S = sumTo s'.qty j) ∧ 0 ≤ S ∧ S ≤ H ∧ SkAt wq (w.heap.size + 2) (w.heap.size + 1) s' ∧ Below w.heap.size w wq) (fun _ i _ => (13 - intOf i).toNat)
              case atStart => exact ⟨0, 0, by omega, rfl, rfl, ⟨rfl⟩, by omega, hH0, h5, HB5.out⟩
              case round =>
                obtain ⟨j, S, hj, rfl, rfl, hS, S0, S1, hc7, hB7⟩ := hrel
                have HB7 := Kept.mk hB7
                have hb7 := hB7.size
                clear hB7
                by_cases hlj : j < 12
                · have hx0 := Hnn.out (j + 1)
                  have hxs : Kept (S + s'.qty (j + 1) = sumTo s'.qty (j + 1)) := ⟨by
                    have ej : ((j + 1 : Nat) : Int) = (j : Int) + 1 := by omega
                    rw [hS.out]; simp only [sumTo, ej]⟩
                  have hxR : S + s'.qty (j + 1) ≤ H := by
                    have h1 := sumTo_mono (f := s'.qty) Hnn.out (i := j + 1) 12 (by omega)
                    have h2 := HH.out
                    rw [hxs.out]
                    omega
                  generalize hx7 : s'.qty (j + 1) = x at hx0 hxs hxR
                  have Hx7 : Kept ((s'.res (j + 1)).2 = x) := ⟨hx7⟩
                  clear hx7
                  obtain ⟨y7, hy7⟩ : ∃ y, Kept (((s'.res (j + 1)).1 : Int) = y) := ⟨_, ⟨rfl⟩⟩
                  obtain ⟨r7, hr7⟩ : ∃ r, Kept ((MP.get s'.L (j + 1)).isSome = r) := ⟨_, ⟨rfl⟩⟩
                  go_wp2_with fail
                  refine (sHas_to _ _ s' _ y7 x r7 _ hc7 hy7.out Hx7.out hr7.out).mono ?_
                  rintro e w8 ⟨rfl, h8, k8⟩
                  have B8 : Below w.heap.size w w8 := HB7.out.trans (k8.below hb7 (fun _ h => h.elim))
                  clear k8
                  go_wp2_with fail
                  go_roundw
                  case rel => exact ⟨j + 1, S + x, by omega, rfl, by go_num, hxs, by omega, hxR, h8, B8⟩
                  case measure => simp [intOf]; omega
                · obtain rfl : j = 12 := by omega
                  obtain rfl : S = H := by rw [hS.out]; exact HH.out
                  go_wp2_with fail
                  refine (onHand_to _ _ _ _ _ _ hc7 hO1.out).mono ?_
                  rintro e _ ⟨rfl, rfl⟩
                  go_wp2_with fail
                  refine (free_to _ _ _ _ _ _ hc7 hF1.out).mono ?_
                  rintro e _ ⟨rfl, rfl⟩
                  go_wp2_with fail
                  refine (free_to _ _ _ _ _ _ hc7 hF1.out).mono ?_
                  rintro e _ ⟨rfl, rfl⟩
                  go_wp2_with fail
                  refine (onHand_to _ _ _ _ _ _ hc7 hO0.out).mono ?_
                  rintro e _ ⟨rfl, rfl⟩
                  go_wp2_with fail
                  go_roundw
                  case rel => exact ⟨k + 1, gone, s', by omega, rfl, by go_num, HS5.out, hc7, HB7.out⟩
                  case measure => simp [intOf]; omega
            · obtain ⟨q9, HQ9⟩ : ∃ q, Kept (wrap64 (1 + wrap64 ((IntKind.u64.wrap fq).tmod 1000)) = q) := ⟨_, ⟨rfl⟩⟩
              have hq9 := mod_above fq 1000 1 (by omega) (by omega) (by omega) (by omega)
              obtain ⟨r9, s', Hs', hs'⟩ : ∃ r s', Kept (s.reserve id 1 q9 = (r, s')) ∧ s'.Sums G gone := ⟨_, _, ⟨rfl⟩, HS.out.reserve id q9 (by omega) (by omega)⟩
              have e0 : (fd == 0) = false := by simpa using hd0
              have e1 : (fd == 1) = false := by simpa using hd1
              clear hd0 hd1
              go_wp2_with fail
              rw [HID.out]
              refine (sHas_to _ _ s id 1 q true _ (hc.alloc _) hx.out hq.out hi.out).mono ?_
              rintro e w3 ⟨rfl, h3, k3⟩
              have B3 : Below w.heap.size w w3 := (HB.out.alloc hbw _).trans (k3.below (by simp; omega) (fun _ h => h.elim))
              have d0 := (HK.out.keeps k3 (fun h => h)).cell 0 rfl
              have d3 := (HK.out.keeps k3 (fun h => h)).cell 3 rfl
              have hb3 := B3.size
              have HB3 := Kept.mk B3
              clear k3 B3
              go_wp2_with fail
              rw [HQ9.out]
              refine (reserve_to _ _ _ _ _ _ _ _ _ h3 HS.out.ok Hs'.out).mono ?_
              rintro e w5 ⟨rfl, h5, k5⟩
              have B5 : Below w.heap.size w w5 := HB3.out.trans (k5.below hb3 (fun k e => by omega))
              clear k5 h3 d0 d3
              have hb5 := B5.size
              have hgh := hs'.free1
              obtain ⟨H, HH⟩ : ∃ H, Kept (sumTo s'.qty 12 = H) := ⟨_, ⟨rfl⟩⟩
              rw [HH.out] at hgh
              have hg0 := hs'.g0
              have hO1 : Kept (s'.onHand 1 = G - gone) := ⟨Sk.onHand_in (by omega) (by omega) hs'.h1⟩
              have hF1 : Kept (s'.freeOf 1 = G - gone - H) := ⟨Sk.freeOf_in (by omega) (by omega) hgh.1⟩
              have hO0 : Kept (s'.onHand 0 = 7) := ⟨Sk.onHand_in (by omega) (by omega) hs'.h0⟩
              have hH0 : 0 ≤ H := by rw [← HH.out]; exact sumTo_nonneg hs'.qty0 12
              have hHG : 0 ≤ G - gone - H := by omega
              have Hnn := Kept.mk hs'.qty0
              have HS5 := Kept.mk hs'
              have HB5 := Kept.mk B5
              clear hgh hs' B5
              go_wp2_with fail
              go_loopw [13, 14] (fun u i wq => ∃ (j : Nat) (S : Int), j ≤ 12 ∧ u = .int .i64 S ∧ i = .int .i64 (j + 1) ∧ Kept (S = sumTo s'.qty j) ∧ 0 ≤ S ∧ S ≤ H ∧ SkAt wq (w.heap.size + 2) (w.heap.size + 1) s' ∧ Below w.heap.size w wq) (fun _ i _ => (13 - intOf i).toNat)
              case atStart => exact ⟨0, 0, by omega, rfl, rfl, ⟨rfl⟩, by omega, hH0, h5, HB5.out⟩
              case round =>
                obtain ⟨j, S, hj, rfl, rfl, hS, S0, S1, hc7, hB7⟩ := hrel
                have HB7 := Kept.mk hB7
                have hb7 := hB7.size
                clear hB7
                by_cases hlj : j < 12
                · have hx0 := Hnn.out (j + 1)
                  have hxs : Kept (S + s'.qty (j + 1) = sumTo s'.qty (j + 1)) := ⟨by
                    have ej : ((j + 1 : Nat) : Int) = (j : Int) + 1 := by omega
                    rw [hS.out]; simp only [sumTo, ej]⟩
                  have hxR : S + s'.qty (j + 1) ≤ H := by
                    have h1 := sumTo_mono (f := s'.qty) Hnn.out (i := j + 1) 12 (by omega)
                    have h2 := HH.out
                    rw [hxs.out]
                    omega
                  generalize hx7 : s'.qty (j + 1) = x at hx0 hxs hxR
                  have Hx7 : Kept ((s'.res (j + 1)).2 = x) := ⟨hx7⟩
                  clear hx7
                  obtain ⟨y7, hy7⟩ : ∃ y, Kept (((s'.res (j + 1)).1 : Int) = y) := ⟨_, ⟨rfl⟩⟩
                  obtain ⟨r7, hr7⟩ : ∃ r, Kept ((MP.get s'.L (j + 1)).isSome = r) := ⟨_, ⟨rfl⟩⟩
                  go_wp2_with fail
                  refine (sHas_to _ _ s' _ y7 x r7 _ hc7 hy7.out Hx7.out hr7.out).mono ?_
                  rintro e w8 ⟨rfl, h8, k8⟩
                  have B8 : Below w.heap.size w w8 := HB7.out.trans (k8.below hb7 (fun _ h => h.elim))
                  clear k8
                  go_wp2_with fail
                  go_roundw
                  case rel => exact ⟨j + 1, S + x, by omega, rfl, by go_num, hxs, by omega, hxR, h8, B8⟩
                  case measure => simp [intOf]; omega
                · obtain rfl : j = 12 := by omega
                  obtain rfl : S = H := by rw [hS.out]; exact HH.out
                  go_wp2_with fail
                  refine (onHand_to _ _ _ _ _ _ hc7 hO1.out).mono ?_
                  rintro e _ ⟨rfl, rfl⟩
                  go_wp2_with fail
                  refine (free_to _ _ _ _ _ _ hc7 hF1.out).mono ?_
                  rintro e _ ⟨rfl, rfl⟩
                  go_wp2_with fail
                  refine (free_to _ _ _ _ _ _ hc7 hF1.out).mono ?_
                  rintro e _ ⟨rfl, rfl⟩
                  go_wp2_with fail
                  refine (onHand_to _ _ _ _ _ _ hc7 hO0.out).mono ?_
                  rintro e _ ⟨rfl, rfl⟩
                  go_wp2_with fail
                  go_roundw
                  case rel => exact ⟨k + 1, gone, s', by omega, rfl, by go_num, HS5.out, hc7, HB7.out⟩
                  case measure => simp [intOf]; omega
    · go_wp2_with fail
      refine (awake8_any _).mono ?_
      rintro e w5 ⟨rfl, b5⟩
      go_wp2_with fail
      go_ret
      exact ⟨rfl, hB.trans (b5.mono hbw)⟩
end Go.Proofs.Ythiplekpdmdhiaa
