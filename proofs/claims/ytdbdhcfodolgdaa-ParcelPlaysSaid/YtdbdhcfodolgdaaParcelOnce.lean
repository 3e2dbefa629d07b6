/- The law ParcelOnce, walked. -/
import Derived.Test.YtdbdhcfodolgdaaParcelLaws
import Derived.Test.YtdbdhcfodolgdaaOpen
import Derived.Test.YtdbdhcfodolgdaaMap
namespace Go.Proofs.Ytdbdhcfodolgdaa
open Go.RowKit
/-- A row of calls of three numbers. -/
def Call3 (w : World) (a : Option Addr) (len : Nat) (f : Nat → Int × Int × Int) : Prop :=
  ∃ b off, (a = some ⟨b, off, none⟩ ∧ b < w.heap.size ∨ len = 0) ∧ ∀ i, i < len → w.cell? ⟨b, off + i * 3, none⟩ = some (.int .i64 (f i).1) ∧ w.cell? ⟨b, off + i * 3 + 1, none⟩ = some (.int .i64 (f i).2.1) ∧ w.cell? ⟨b, off + i * 3 + 2, none⟩ = some (.int .i64 (f i).2.2)
theorem RowFits.call3 {H : Type} {enc : TypeId × Value → H} {P : Program} {w : World} {sp : Nat → Bool} {held : Bool} {a : Option Addr} {len cap : Nat} (h : RowFits enc P w sp held [.int .i64, .int .i64, .int .i64] a len cap) : ∃ f, Call3 w a len f := by
  obtain ⟨b, off, ha, _, _, hx⟩ := h
  have : ∀ i, i < len → ∃ c : Int × Int × Int, w.cell? ⟨b, off + i * 3, none⟩ = some (.int .i64 c.1) ∧ w.cell? ⟨b, off + i * 3 + 1, none⟩ = some (.int .i64 c.2.1) ∧ w.cell? ⟨b, off + i * 3 + 2, none⟩ = some (.int .i64 c.2.2) := by
    intro i hi
    obtain ⟨v0, h0, c0, rfl, _⟩ := hx i hi 0 (.int .i64) rfl
    obtain ⟨v1, h1, c1, rfl, _⟩ := hx i hi 1 (.int .i64) rfl
    obtain ⟨v2, h2, c2, rfl, _⟩ := hx i hi 2 (.int .i64) rfl
    exact ⟨(c0, c1, c2), h0, h1, h2⟩
  obtain ⟨f, hf⟩ := Go.Deep.choose_lt this
  exact ⟨f, b, off, ha, hf⟩
def upd (f : Nat → Int) (k : Nat) (v : Int) : Nat → Int := fun i => if i = k then v else f i
def row8 (f : Nat → Int) : List Value := [.int .i64 (f 0), .int .i64 (f 1), .int .i64 (f 2), .int .i64 (f 3), .int .i64 (f 4), .int .i64 (f 5), .int .i64 (f 6), .int .i64 (f 7)]
theorem row8_get (f : Nat → Int) : ∀ k, k < 8 → (row8 f)[k]? = some (.int .i64 (f k))
  | 0, _ | 1, _ | 2, _ | 3, _ | 4, _ | 5, _ | 6, _ | 7, _ => rfl
  | k + 8, h => by omega
theorem row8_set (f : Nat → Int) (v : Int) : ∀ k, k < 8 → (row8 f).set k (.int .i64 v) = row8 (upd f k v)
  | 0, _ | 1, _ | 2, _ | 3, _ | 4, _ | 5, _ | 6, _ | 7, _ => rfl
  | k + 8, h => by omega
theorem index8 (f : Nat → Int) (w : World) : ∀ k : Nat, k < 8 → (Instr.index 60 (.agg #[.int .i64 (f 0), .int .i64 (f 1), .int .i64 (f 2), .int .i64 (f 3), .int .i64 (f 4), .int .i64 (f 5), .int .i64 (f 6), .int .i64 (f 7)]) (.int .i64 k)).run Try.prog w = .ok (.int .i64 (f k)) w
  | 0, _ => by kernel_rfl
  | 1, _ => by kernel_rfl
  | 2, _ => by kernel_rfl
  | 3, _ => by kernel_rfl
  | 4, _ => by kernel_rfl
  | 5, _ => by kernel_rfl
  | 6, _ => by kernel_rfl
  | 7, _ => by kernel_rfl
  | k + 8, h => by omega
def encPc3 (x : Pc) : Value := .agg #[.int .i64 x.1, .int .i64 x.2.1, .int .i64 x.2.2]
theorem lookCall {w : World} {m : Nat} {F : List (Int × Pc)} (h : MapAt encPc3 w m F) (x : Int) (y : Pc) (hy : (MP.get F x).getD (0, 0, 0) = y) : (Instr.lookup 59 (.map (some m)) (.int .i64 x) false).run Try.prog w = .ok (.agg #[.int .i64 y.1, .int .i64 y.2.1, .int .i64 y.2.2]) w := by
  subst hy
  have := h.look (P := Try.prog) Try.underlying59 Try.underlying3 (z := encPc3 (0, 0, 0)) (by kernel_rfl) x false
  rw [this]
  cases MP.get F x <;> rfl
theorem zeroCall (w : World) : (zeroValue 50).run Try.prog w = .ok (encPc3 (0, 0, 0)) w := by kernel_rfl
/-- What the law keeps beside the book. -/
structure OnceOk (L : List Pc) (F : List (Int × Pc)) (f : Nat → Int) : Prop where
  len : F.length = L.length
  get : ∀ id, MP.get F id = (look L id).map fun y => (id, y)
  sums : ∀ i : Nat, i < 8 → f i = wentP i 0 L
  pos : ∀ x ∈ L, x.1 ≠ 0
theorem look_snoc (L : List Pc) (x : Pc) (id : Int) (h : look L x.1 = none) : look (L ++ [x]) id = if id = x.1 then some x.2 else look L id := by
  induction L with
  | nil =>
    simp only [List.nil_append, look]
    by_cases e : x.1 = id
    · rw [if_pos e, if_pos e.symm]
    · rw [if_neg e, if_neg (fun h => e h.symm)]
  | cons y r ih =>
    simp only [look] at h
    by_cases e : y.1 = x.1
    · rw [if_pos e] at h; cases h
    · rw [if_neg e] at h
      simp only [List.cons_append, look, ih h]
      by_cases e2 : y.1 = id
      · rw [if_pos e2, if_pos e2, if_neg (fun h => e (e2.trans h))]
      · rw [if_neg e2, if_neg e2]
theorem went_snoc (i n : Int) (L : List Pc) (x : Pc) : wentP i n (L ++ [x]) = if x.2.1 = i then wrap64 (wentP i n L + x.2.2) else wentP i n L := by
  unfold wentP; rw [List.foldl_append]; rfl
theorem OnceOk.new {L : List Pc} {F : List (Int × Pc)} {f : Nat → Int} (h : OnceOk L F f) {id q : Int} {k : Nat} (hk : k < 8) (hid : 1 ≤ id) (hn : look L id = none) : OnceOk (L ++ [(id, (k : Int), q)]) (MP.put F id (id, (k : Int), q)) (upd f k (wrap64 (f k + q))) := by
  refine ⟨?_, fun z => ?_, fun i hi => ?_, fun x hx => ?_⟩
  · have hg : MP.get F id = none := by rw [h.get, hn]; rfl
    have hl : MP.look F id = none := by
      rcases MP.look_spec (L := F) (x := id) with ⟨h1, _⟩ | ⟨j, a, _, h2, _⟩
      · exact h1
      · rw [hg] at h2; cases h2
    rw [MP.put_new hl, List.length_append, List.length_append, h.len]; rfl
  · rw [MP.get_put, look_snoc _ _ _ hn, h.get]
    by_cases e : z = id
    · rw [if_pos e, if_pos e, e]; rfl
    · rw [if_neg e, if_neg e]
  · rw [went_snoc]
    unfold upd
    by_cases e : i = k
    · subst e; rw [if_pos rfl, if_pos rfl, h.sums i hi]
    · rw [if_neg e, if_neg (by simp only; omega), h.sums i hi]
  · rcases List.mem_append.1 hx with hx | hx
    · exact h.pos x hx
    · simp at hx; subst hx; simp only; omega
theorem OnceOk.nil : OnceOk [] [] (fun _ => 0) := ⟨rfl, fun _ => rfl, fun _ _ => rfl, fun _ h => by simp at h⟩
/-- Between two rounds. -/
structure OnceAt (B : Nat) (w : World) (v : Value) (L : List Pc) (F : List (Int × Pc)) (f : Nat → Int) : Prop where
  book : PbAt 77 79 w B v L
  map : MapAt encPc3 w (B + 1) F
  arr : Blk w (B + 1 + 1) 60 (row8 f)
  vb : ∀ g, v.ownBlock = some g → B + 3 ≤ g
theorem OnceAt.keep {B : Nat} {w w' : World} {v : Value} {L : List Pc} {F : List (Int × Pc)} {f : Nat → Int} (h : OnceAt B w v L F f) (k : Keeps (fun _ => False) w w') : OnceAt B w' v L F f :=
  ⟨h.book.quiet k, h.map.keeps k (fun h => h), h.arr.keeps k (fun h => h), h.vb⟩
theorem OnceAt.shipped {B : Nat} {w w' : World} {v : Value} {L L' : List Pc} {F : List (Int × Pc)} {f : Nat → Int} (h : OnceAt B w v L F f) (hp : PbTo 77 79 w B v L' w') : ∃ v', OnceAt B w' v' L' F f ∧ Below B w w' ∧ Keeps (fun k => k = B ∨ B + 3 ≤ k ∧ v.ownBlock = some k) w w' := by
  obtain ⟨v', h1, hn, k⟩ := hp
  have hB : B < w.heap.size := h.book.cells.lt
  have ha := h.arr.lt
  refine ⟨v', ⟨h1, h.map.keeps k (fun e => ?_), h.arr.keeps k (fun e => ?_), fun g hg => ?_⟩, k.below (Nat.le_of_lt hB) (fun k e => ?_), k.mono (fun g _ e => ?_)⟩
  · rcases e with e | e
    · omega
    · have := h.vb _ e; omega
  · rcases e with e | e
    · omega
    · have := h.vb _ e; omega
  · rcases hn g hg with e | e
    · exact h.vb g e
    · omega
  · rcases e with rfl | e
    · exact Nat.le_refl _
    · have := h.vb k e; omega
  · rcases e with e | e
    · exact .inl e
    · exact .inr ⟨h.vb g e, e⟩
set_option maxRecDepth 100000 in
set_option maxHeartbeats 4000000 in
theorem once_any (a : Option Addr) (len cap : Nat) (fc : Nat → Int × Int × Int) (w : World) (hr : Call3 w a len fc) (hlen : (len : Int) ≤ 9223372036854775807) : Calls Try.prog 7 #[.slice a len cap] w (Yes w) := by
  obtain ⟨b, off, ha, hcell⟩ := hr
  have Hcell := Kept.mk hcell
  clear hcell
  have hmm := @run_makeMap Try.prog
  have hf1 : ∀ (x y z : Value) (w : World), (Instr.field 50 (.agg #[x, y, z]) 1).run Try.prog w = .ok y w := fun _ _ _ _ => by kernel_rfl
  have hf2 : ∀ (x y z : Value) (w : World), (Instr.field 50 (.agg #[x, y, z]) 2).run Try.prog w = .ok z w := fun _ _ _ _ => by kernel_rfl
  have HO : OnceAt w.heap.size (((w.alloc (.cells #[.slice none 0 0] 77)).alloc (.map #[] 0)).alloc (.cells (row8 fun _ => 0).toArray 60)) (.slice none 0 0) [] [] (fun _ => 0) := by
    have h1 := MapAt.new encPc3 (w.alloc (.cells #[.slice none 0 0] 77))
    have h2 := Blk.new ((w.alloc (.cells #[.slice none 0 0] 77)).alloc (.map #[] 0)) 60 (row8 fun _ => 0)
    rw [World.size_alloc] at h1
    rw [World.size_alloc, World.size_alloc] at h2
    exact ⟨((PbAt.new 77 79 w).alloc _).alloc _, h1.alloc _, h2, fun g hg => by simp [Value.ownBlock] at hg⟩
  have HB0 : Below w.heap.size w (((w.alloc (.cells #[.slice none 0 0] 77)).alloc (.map #[] 0)).alloc (.cells (row8 fun _ => 0).toArray 60)) := (((Below.refl _ w).alloc (Nat.le_refl _) _).alloc (by simp) _).alloc (by simp; omega) _
  have H0 := Kept.mk HO
  have HB0' := Kept.mk HB0
  clear HO HB0
  go_enter Try.func7, Try.ntmps7
  go_wp2_with fail
  refine (newP_any _).mono ?_
  rintro e w0 ⟨rfl, rfl⟩
  go_wp2_with fail
  go_loopw [20] (fun i wr => ∃ (k : Nat) (v : Value) (L : List Pc) (F : List (Int × Pc)) (f : Nat → Int), k ≤ len ∧ i = .int .i64 k ∧ L.length ≤ k ∧ k ≤ 80 ∧ OnceAt w.heap.size wr v L F f ∧ OnceOk L F f ∧ Below w.heap.size w wr) (fun i _ => (len - (intOf i).toNat))
  case atStart => exact ⟨0, _, [], [], _, by omega, rfl, by simp, by simp, H0.out, OnceOk.nil, HB0'.out⟩
  case round =>
    clear H0 HB0'
    obtain ⟨k, v, L, F, f, hk, rfl, hLk, hk80, hO, hK, hB⟩ := hrel
    have HB := Kept.mk hB
    have HO := Kept.mk hO
    have HK := Kept.mk hK
    have hbw := hB.size
    have hpw := hO.book.cells.lt
    have hmw := hO.map.lt
    have haw := hO.arr.lt
    clear hB hO hK
    by_cases hgo : k < len ∧ (k : Int) < 80
    · obtain ⟨hlt, h60⟩ := hgo
      obtain ⟨rfl, hbl⟩ : a = some ⟨b, off, none⟩ ∧ b < w.heap.size := by
        rcases ha with h | h
        · exact h
        · omega
      obtain ⟨c0, c1, c2⟩ := Hcell.out k hlt
      rw [← HB.out.cell (p := ⟨b, off + k * 3, none⟩) hbl] at c0
      rw [← HB.out.cell (p := ⟨b, off + k * 3 + 1, none⟩) hbl] at c1
      rw [← HB.out.cell (p := ⟨b, off + k * 3 + 2, none⟩) hbl] at c2
      generalize (fc k).1 = f1 at c0
      generalize (fc k).2.1 = f2 at c1
      generalize (fc k).2.2 = f3 at c2
      have hid0 := mod_above f1 20 1 (by omega) (by omega) (by omega) (by omega)
      have hq0 := mod_above f3 100000 1 (by omega) (by omega) (by omega) (by omega)
      have ht0 := mod_range f2 8 (by omega) (by omega)
      obtain ⟨id, HID⟩ : ∃ id, Kept (wrap64 (1 + wrap64 ((IntKind.u64.wrap f1).tmod 20)) = id) := ⟨_, ⟨rfl⟩⟩
      obtain ⟨q, HQ⟩ : ∃ q, Kept (wrap64 (1 + wrap64 ((IntKind.u64.wrap f3).tmod 100000)) = q) := ⟨_, ⟨rfl⟩⟩
      obtain ⟨it, HIT⟩ : ∃ t, Kept (wrap64 ((IntKind.u64.wrap f2).tmod 8) = t) := ⟨_, ⟨rfl⟩⟩
      rw [HID.out] at hid0
      rw [HQ.out] at hq0
      rw [HIT.out] at ht0
      obtain ⟨t, rfl⟩ := Int.eq_ofNat_of_zero_le ht0.1
      have ht8 : t < 8 := by omega
      cases hg : look L id with
      | none =>
        have hs : Kept (shipP L id t q = (0, L ++ [(id, (t : Int), q)])) := ⟨by unfold shipP; rw [if_pos (by unfold isArg; omega), if_pos hg]⟩
        have HG := Kept.mk hg
        clear hg
        go_wp2_with fail
        rw [HID.out, HIT.out, HQ.out]
        refine (ship_to _ _ _ _ _ _ _ _ _ (HO.out.book.alloc _) (by omega) hs.out).mono ?_
        rintro e w1 ⟨rfl, hp⟩
        obtain ⟨v', hO1, B1, k1⟩ := (HO.out.keep ((Keeps.refl _ wr).alloc _)).shipped hp
        have hbk : Blk w1 wr.heap.size 50 [.int .i64 id, .int .i64 t, .int .i64 q] := (Blk.new wr 50 [.int .i64 id, .int .i64 t, .int .i64 q]).keeps k1 (fun e => by
          rcases e with e | ⟨_, e⟩
          · omega
          · have := ownsRow_lt HO.out.book.row _ e; omega)
        have hl := lookCall hO1.map id (0, 0, 0) (by rw [HK.out.get, HG.out]; rfl)
        clear hp k1
        have e0 := hbk.cell 0 rfl
        have e1 := hbk.cell 1 rfl
        have e2 := hbk.cell 2 rfl
        have hzz := hbk.lt
        have hoa := hO1.keep ((Keeps.refl _ w1).alloc (.cells #[.int .i64 0, .int .i64 0, .int .i64 0] 50))
        obtain ⟨w2, hme, hM2, k2, s2⟩ := hoa.map.update (P := Try.prog) Try.underlying59 Try.underlying3 id (id, (t : Int), q)
        have hbk2 := (hbk.alloc (.cells #[.int .i64 0, .int .i64 0, .int .i64 0] 50)).keeps k2 (by omega)
        have d0 := hbk2.cell 0 rfl
        have d1 := hbk2.cell 1 rfl
        have d2 := hbk2.cell 2 rfl
        have har := hoa.arr.keeps k2 (by omega)
        have a0 := har.cell t (row8_get f t ht8)
        have fz := har.frozen t
        have hv' := hO1.vb
        have hbook := Kept.mk (hoa.book.keeps k2 (by omega) (fun g hg e => by have := hv' g hg; omega))
        have hti : (t : Int) < 8 := by omega
        have Hme := hme
        unfold encPc3 at Hme
        have HM2 := Kept.mk hM2
        have Har := Kept.mk har
        have B2 := Kept.mk (((HB.out.alloc hbw _).trans (B1.alloc (by omega) _)).trans (k2.below (by simp; omega) (fun k e => by omega)))
        have Hv' := Kept.mk hv'
        clear hM2 har hoa hme k2 hv' hbk hbk2 hO1 B1
        go_wp2_with fail
        go_region
        have k3 : Keeps (fun g => g = w.heap.size + 1 + 1) w2 ((w2.setCell ⟨w.heap.size + 1 + 1, t, none⟩ (.int .i64 (wrap64 (f t + q)))).drew) := ((Keeps.refl (fun g => g = w.heap.size + 1 + 1) w2).setCell (p := ⟨w.heap.size + 1 + 1, t, none⟩) (.inr rfl) _).drew
        have har3 := (Har.out.set t (.int .i64 (wrap64 (f t + q)))).drew
        rw [row8_set f _ t ht8] at har3
        have hO3 : OnceAt w.heap.size ((w2.setCell ⟨w.heap.size + 1 + 1, t, none⟩ (.int .i64 (wrap64 (f t + q)))).drew) v' (L ++ [(id, (t : Int), q)]) (MP.put F id (id, (t : Int), q)) (upd f t (wrap64 (f t + q))) :=
          ⟨hbook.out.keeps k3 (by omega) (fun g hg e => by have := Hv'.out g hg; omega), HM2.out.keeps k3 (by omega), har3, Hv'.out⟩
        have B3 := Kept.mk (B2.out.trans (k3.below B2.out.size (fun g e => by omega)))
        have HO3 := Kept.mk hO3
        have hz2 : wr.heap.size < w2.heap.size := by rw [s2]; simp; omega
        have f0 := ((World.cell?_of_block (k3.block wr.heap.size hz2 (by omega))).trans d0 : ((w2.setCell ⟨w.heap.size + 1 + 1, t, none⟩ (.int .i64 (wrap64 (f t + q)))).drew).cell? ⟨wr.heap.size, 0, none⟩ = _)
        have HK3 := Kept.mk (HK.out.new (q := q) ht8 hid0.1 HG.out)
        have hlk : Kept (look (L ++ [(id, (t : Int), q)]) id = some ((t : Int), q)) := ⟨by rw [look_snoc _ _ _ HG.out, if_pos rfl]⟩
        clear har3 hO3 k3 d0 d1 d2 a0 fz Hme e0 e1 e2 hl
        go_wp2_with fail
        refine (has_some _ _ _ _ _ _ _ HO3.out.book hlk.out).mono ?_
        rintro e w4 ⟨rfl, k4⟩
        have hO4 := HO3.out.keep k4
        have hl4 := lookCall hO4.map id (id, (t : Int), q) (by rw [HK3.out.get, hlk.out]; rfl)
        have g0 := (k4.cell (p := ⟨wr.heap.size, 0, none⟩) (by simpa using hz2) (fun h => h)).trans f0
        have B4 := Kept.mk (B3.out.trans (k4.below B3.out.size (fun _ h => h.elim)))
        have HO4 := Kept.mk hO4
        have hz4 := k4.size
        clear k4 hO4 f0
        go_wp2_with fail
        go_roundw
        case rel => exact ⟨k + 1, _, _, _, _, by omega, by go_num, by simp; omega, by omega, HO4.out, HK3.out, B4.out⟩
        case measure => simp [intOf]; omega
      | some y =>
        have hs : Kept (shipP L id t q = (8, L)) := ⟨by unfold shipP; rw [if_pos (by unfold isArg; omega), if_neg (by rw [hg]; simp)]⟩
        have HG := Kept.mk hg
        obtain ⟨y1, y2⟩ := y
        have hidz : (id == 0) = false := by rw [beq_eq_false_iff_ne]; omega
        clear hg
        go_wp2_with fail
        rw [HID.out, HIT.out, HQ.out]
        refine (ship_to _ _ _ _ _ _ _ _ _ (HO.out.book.alloc _) (by omega) hs.out).mono ?_
        rintro e w1 ⟨rfl, hp⟩
        obtain ⟨v', hO1, B1, k1⟩ := (HO.out.keep ((Keeps.refl _ wr).alloc _)).shipped hp
        have hbk : Blk w1 wr.heap.size 50 [.int .i64 id, .int .i64 t, .int .i64 q] := (Blk.new wr 50 [.int .i64 id, .int .i64 t, .int .i64 q]).keeps k1 (fun e => by
          rcases e with e | ⟨_, e⟩
          · omega
          · have := ownsRow_lt HO.out.book.row _ e; omega)
        have hl := lookCall hO1.map id (id, y1, y2) (by rw [HK.out.get, HG.out]; rfl)
        clear hp k1
        have e0 := hbk.cell 0 rfl
        have e1 := hbk.cell 1 rfl
        have e2 := hbk.cell 2 rfl
        have hzz := hbk.lt
        have HO1 := Kept.mk (hO1.keep ((Keeps.refl _ w1).alloc (.cells #[.int .i64 id, .int .i64 y1, .int .i64 y2] 50)))
        have B2 := Kept.mk ((HB.out.alloc hbw _).trans (B1.alloc (by omega) (.cells #[.int .i64 id, .int .i64 y1, .int .i64 y2] 50)))
        clear hbk hO1 B1
        go_wp2_with fail
        refine (has_some _ _ _ _ _ _ _ HO1.out.book HG.out).mono ?_
        rintro e w4 ⟨rfl, k4⟩
        have hO4 := HO1.out.keep k4
        have hl4 := lookCall hO4.map id (id, y1, y2) (by rw [HK.out.get, HG.out]; rfl)
        have g0 := (k4.cell (p := ⟨wr.heap.size, 0, none⟩) (by simp; omega) (fun h => h)).trans ((Below.cell (((Below.refl w1.heap.size w1)).alloc (Nat.le_refl _) _) (p := ⟨wr.heap.size, 0, none⟩) hzz).trans e0)
        have B4 := Kept.mk (B2.out.trans (k4.below B2.out.size (fun _ h => h.elim)))
        have HO4 := Kept.mk hO4
        have hz4 := k4.size
        clear k4 hO4 e0 e1 e2 hl
        go_wp2_with fail
        go_roundw
        case rel => exact ⟨k + 1, _, _, _, _, by omega, by go_num, by omega, by omega, HO4.out, HK.out, B4.out⟩
        case measure => simp [intOf]; omega
    · have hl1 : L.length ≤ 1000 := by omega
      have hO := HO.out.arr
      have a0 := hO.cell 0 rfl
      have a1 := hO.cell 1 rfl
      have a2 := hO.cell 2 rfl
      have a3 := hO.cell 3 rfl
      have a4 := hO.cell 4 rfl
      have a5 := hO.cell 5 rfl
      have a6 := hO.cell 6 rfl
      have a7 := hO.cell 7 rfl
      clear hO
      obtain ⟨wo, rfl⟩ : ∃ wo : World, wo = wr := ⟨_, rfl⟩
      have hin : k < len → ∃ bb oo, a = some ⟨bb, oo, none⟩ ∧ wo.cell? ⟨bb, oo + k * 3, none⟩ = some (.int .i64 (fc k).1) ∧ wo.cell? ⟨bb, oo + k * 3 + 1, none⟩ = some (.int .i64 (fc k).2.1) ∧ wo.cell? ⟨bb, oo + k * 3 + 2, none⟩ = some (.int .i64 (fc k).2.2) := by
        intro hlt
        rcases ha with h | h
        · obtain ⟨c0, c1, c2⟩ := Hcell.out k hlt
          rw [← HB.out.cell (p := ⟨b, off + k * 3, none⟩) h.2] at c0
          rw [← HB.out.cell (p := ⟨b, off + k * 3 + 1, none⟩) h.2] at c1
          rw [← HB.out.cell (p := ⟨b, off + k * 3 + 2, none⟩) h.2] at c2
          exact ⟨b, off, h.1, c0, c1, c2⟩
        · omega
      have tail : k < len ∧ (80 : Int) ≤ k ∨ ¬ k < len := by omega
      clear Hcell ha
      rcases tail with ⟨hlt, h80⟩ | hlt
      all_goals
        try
          have hin' := hin hlt
          obtain ⟨bb, oo, rfl, c0, c1, c2⟩ := hin'
        clear hin
        go_wp2_with fail
        go_loopw [107] (fun i wq => ∃ j : Nat, j ≤ 8 ∧ i = .int .i64 j ∧ OnceAt w.heap.size wq v L F f ∧ Below w.heap.size w wq) (fun i _ => (8 - (intOf i).toNat))
        case atStart => first | exact ⟨0, by omega, rfl, HO.out, HB.out⟩ | exact ⟨0, by omega, rfl, HO.out.keep ((Keeps.refl _ wo).alloc _), HB.out.alloc hbw _⟩
        case round =>
          obtain ⟨j, hj, rfl, hO2, hB2⟩ := hrel
          have HO2 := Kept.mk hO2
          have HB2 := Kept.mk hB2
          have hz2 := hB2.size
          clear hO2 hB2
          by_cases hj8 : j < 8
          · have hix := index8 f wr j hj8
            have hji : (j : Int) < 8 := by omega
            go_wp2_with fail
            refine (went_any _ _ _ _ _ HO2.out.book).mono ?_
            rintro e w4 ⟨rfl, k4⟩
            rw [← HK.out.sums j hj8]
            have HO4 := Kept.mk (HO2.out.keep k4)
            have B4 := Kept.mk (HB2.out.trans (k4.below HB2.out.size (fun _ h => h.elim)))
            clear k4
            go_wp2_with fail
            go_roundw
            case rel => exact ⟨j + 1, by omega, by go_num, HO4.out, B4.out⟩
            case measure => simp [intOf]; omega
          · have hmn := Kept.mk HK.out.len
            go_wp2_with fail
            refine (ids_any _ _ _ _ HO2.out.book hl1).mono ?_
            rintro e w4 ⟨got, rfl, hgot, k4⟩
            obtain ⟨ga, gc, rfl, _⟩ := ownsRow_open hgot (by omega)
            have HO4 := Kept.mk (HO2.out.keep k4)
            have B4 := Kept.mk (HB2.out.trans (k4.below HB2.out.size (fun _ h => h.elim)))
            have hml := HO4.out.map.len (P := Try.prog) Try.underlying59 3
            rw [hmn.out] at hml
            clear k4 hgot
            go_wp2_with fail
            refine (awake10_any _).mono ?_
            rintro e w5 ⟨rfl, k5⟩
            go_wp2_with fail
            go_ret
            exact ⟨rfl, B4.out.trans (k5.mono B4.out.size)⟩
end Go.Proofs.Ytdbdhcfodolgdaa
