/- The law BellPlays, walked. (printed by gen/bellplays.py) -/
import Derived.Test.YtleipaiojefekaaTowerIdsR
import Derived.Test.YtleipaiojefekaaSame
import Derived.Test.YtleipaiojefekaaInts
import Derived.Test.YtleipaiojefekaaOpen
import Derived.Deep.RegionHeld3
namespace Go.Proofs.Ytleipaiojefekaa
open Go.RowKit
theorem newTower_to (n X : Int) (q : Nat) (w : World) (hX : max 1 (min n 20) = X) (hq : w.heap.size = q) : Calls Try.prog 26 #[.int .i64 n] w (Rets w (fun _ => False) (.pointer (some ⟨q, 0, none⟩)) fun w' => RT w' q X (fun _ => -1) ∧ w'.heap.size = q + 1) := by
  subst hX; subst hq
  exact newTower_any n w
theorem Agr.put {s : Tw} {B : Nat → Int} (h : Agr s B) {x : Int} (hx : 1 ≤ x ∧ x ≤ 999) (v : Int) : Agr ⟨s.n, MP.put s.L x v⟩ (upd B x.toNat v) := by
  refine ⟨fun y hy => ?_, fun k => ?_⟩
  · rcases MP.mem_keys_put.1 hy with rfl | hy
    · exact hx
    · exact h.keys y hy
  · rw [MP.get_put]
    unfold upd
    by_cases hk : k = x.toNat
    · rw [if_pos hk, if_pos (by omega)]; rfl
    · rw [if_neg hk, if_neg (by omega)]; exact h.get k
theorem Agr.del {s : Tw} {B : Nat → Int} (h : Agr s B) (ok : s.Ok) {x : Int} (hx : 1 ≤ x ∧ x ≤ 999) : Agr ⟨s.n, MP.del s.L x⟩ (upd B x.toNat (-1)) := by
  refine ⟨fun y hy => h.keys y (((MP.del_sublist s.L x).map _).subset hy), fun k => ?_⟩
  rw [MP.get_del _ _ ok.nodup]
  unfold upd
  by_cases hk : k = x.toNat
  · rw [if_pos hk, if_pos (by omega)]; rfl
  · rw [if_neg hk, if_neg (by omega)]; exact h.get k
theorem Agr.hasnt {s : Tw} {B : Nat → Int} (h : Agr s B) (ok : s.Ok) {x : Int} (hg : MP.get s.L x = none) : hasB B x = false := by rw [h.has ok, hg]; rfl
theorem Agr.hasit {s : Tw} {B : Nat → Int} (h : Agr s B) (ok : s.Ok) {x v : Int} (hg : MP.get s.L x = some v) : hasB B x = true ∧ B x.toNat = v ∧ (1 ≤ x ∧ x ≤ 999) := by
  have hx := h.keys x (MP.mem_keys_of_get hg)
  refine ⟨by rw [h.has ok, hg]; rfl, ?_, hx⟩
  have := h.get x.toNat
  rw [show ((x.toNat : Nat) : Int) = x by omega, hg] at this
  exact this
theorem Agr.hang {s : Tw} {B : Nat → Int} (h : Agr s B) (ok : s.Ok) (x : Int) : ∃ r s' B', Kept (s.hang x = (r, s')) ∧ Kept (hangB s.n B x = (r, B')) ∧ Kept (Agr s' B') ∧ Kept s'.Ok ∧ Kept (s'.n = s.n) := by
  have ok' := Tw.hang_ok ok x
  by_cases hc : 1 ≤ x ∧ x ≤ 999 ∧ MP.get s.L x = none
  · have e : s.hang x = (true, ⟨s.n, MP.put s.L x s.n⟩) := by unfold Tw.hang; rw [if_pos hc]
    rw [e] at ok'
    exact ⟨_, _, _, ⟨e⟩, ⟨by unfold hangB; rw [if_pos ⟨idB_yes ⟨hc.1, hc.2.1⟩, h.hasnt ok hc.2.2⟩]⟩, ⟨h.put ⟨hc.1, hc.2.1⟩ _⟩, ⟨ok'⟩, ⟨rfl⟩⟩
  · have e : s.hang x = (false, s) := by unfold Tw.hang; rw [if_neg hc]
    refine ⟨_, _, _, ⟨e⟩, ⟨?_⟩, ⟨h⟩, ⟨ok⟩, ⟨rfl⟩⟩
    unfold hangB
    rw [if_neg]
    rintro ⟨e1, e2⟩
    have hx : 1 ≤ x ∧ x ≤ 999 := by simpa [idB] using e1
    refine hc ⟨hx.1, hx.2, ?_⟩
    cases hg : MP.get s.L x with
    | none => rfl
    | some v => have := (h.hasit ok hg).1; rw [e2] at this; cases this
theorem Agr.cut {s : Tw} {B : Nat → Int} (h : Agr s B) (ok : s.Ok) (x : Int) : ∃ r s' B', Kept (s.cut x = (r, s')) ∧ Kept (cutB B x = (r, B')) ∧ Kept (Agr s' B') ∧ Kept s'.Ok ∧ Kept (s'.n = s.n) := by
  have ok' := Tw.cut_ok ok x
  cases hg : MP.get s.L x with
  | none =>
    have e : s.cut x = (false, s) := by unfold Tw.cut; rw [if_pos hg]
    exact ⟨_, _, _, ⟨e⟩, ⟨by unfold cutB; rw [if_neg (by rw [h.hasnt ok hg]; simp)]⟩, ⟨h⟩, ⟨ok⟩, ⟨rfl⟩⟩
  | some v =>
    have e : s.cut x = (true, ⟨s.n, MP.del s.L x⟩) := by unfold Tw.cut; rw [if_neg (by rw [hg]; simp)]
    rw [e] at ok'
    obtain ⟨h1, h2, h3⟩ := h.hasit ok hg
    exact ⟨_, _, _, ⟨e⟩, ⟨by unfold cutB; rw [if_pos h1]⟩, ⟨h.del ok h3⟩, ⟨ok'⟩, ⟨rfl⟩⟩
theorem Agr.again {s : Tw} {B : Nat → Int} (h : Agr s B) (ok : s.Ok) (x : Int) : ∃ r s' B', Kept (s.again x = (r, s')) ∧ Kept (againB s.n B x = (r, B')) ∧ Kept (Agr s' B') ∧ Kept s'.Ok ∧ Kept (s'.n = s.n) := by
  have ok' := Tw.again_ok ok x
  cases hg : MP.get s.L x with
  | none =>
    have e : s.again x = (false, s) := by unfold Tw.again; rw [if_pos hg]
    exact ⟨_, _, _, ⟨e⟩, ⟨by unfold againB; rw [if_neg (by rw [h.hasnt ok hg]; simp)]⟩, ⟨h⟩, ⟨ok⟩, ⟨rfl⟩⟩
  | some v =>
    have e : s.again x = (true, ⟨s.n, MP.put s.L x s.n⟩) := by unfold Tw.again; rw [if_neg (by rw [hg]; simp)]
    rw [e] at ok'
    obtain ⟨h1, h2, h3⟩ := h.hasit ok hg
    exact ⟨_, _, _, ⟨e⟩, ⟨by unfold againB; rw [if_pos h1]⟩, ⟨h.put h3 _⟩, ⟨ok'⟩, ⟨rfl⟩⟩
theorem Agr.ring {s : Tw} {B : Nat → Int} (h : Agr s B) (ok : s.Ok) (x : Int) : ∃ r u s' B', Kept (s.ring x = ((r, u), s')) ∧ Kept (ringB B x = ((r, u), B')) ∧ Kept (Agr s' B') ∧ Kept s'.Ok ∧ Kept (s'.n = s.n) ∧ Kept (B x.toNat ≤ 20) := by
  have ok' := Tw.ring_ok ok x
  have hmax : B x.toNat ≤ 20 := by
    rw [h.get]
    cases hg : MP.get s.L ((x.toNat : Nat) : Int) with
    | none => simp
    | some v => have := (ok.vals _ v hg).2; simpa using this
  cases hg : MP.get s.L x with
  | none =>
    have e : s.ring x = ((false, false), s) := by unfold Tw.ring; rw [hg]
    exact ⟨_, _, _, _, ⟨e⟩, ⟨by unfold ringB; rw [if_neg (by rw [h.hasnt ok hg]; simp)]⟩, ⟨h⟩, ⟨ok⟩, ⟨rfl⟩, ⟨hmax⟩⟩
  | some v =>
    obtain ⟨h1, h2, h3⟩ := h.hasit ok hg
    by_cases hv : v = 0
    · have e : s.ring x = ((true, true), s) := by unfold Tw.ring; rw [hg]; simp only; rw [if_pos hv]
      exact ⟨_, _, _, _, ⟨e⟩, ⟨by unfold ringB; rw [if_pos h1, if_pos (by rw [h2]; exact hv)]⟩, ⟨h⟩, ⟨ok⟩, ⟨rfl⟩, ⟨hmax⟩⟩
    · have e : s.ring x = ((true, false), ⟨s.n, MP.put s.L x (v - 1)⟩) := by unfold Tw.ring; rw [hg]; simp only; rw [if_neg hv]
      rw [e] at ok'
      exact ⟨_, _, _, _, ⟨e⟩, ⟨by unfold ringB; rw [if_pos h1, if_neg (by rw [h2]; exact hv), h2]⟩, ⟨h.put h3 _⟩, ⟨ok'⟩, ⟨rfl⟩, ⟨hmax⟩⟩
/-- The two towers in one world. -/
structure Two (b : Nat) (W : World) (s : Tw) (B : Nat → Int) : Prop where
  tw : TwAt W (b + 2) (b + 1) s
  rt : RT W (b + 3) s.n B
  agr : Agr s B
  ok : s.Ok
theorem Two.keeps {b : Nat} {W W' : World} {s : Tw} {B : Nat → Int} (h : Two b W s B) (k : Keeps (fun _ => False) W W') : Two b W' s B := ⟨h.tw.keeps k (fun h => h) (fun h => h), h.rt.keeps k (fun h => h), h.agr, h.ok⟩
theorem Two.ids {b : Nat} {W W' : World} {s : Tw} {B : Nat → Int} (h : Two b W s B) (k : Keeps (fun _ => False) W W') :
    Calls Try.prog 43 #[.pointer (some ⟨b + 2, 0, none⟩)] W' fun e w2 => ∃ v, e = .returned v ∧ IdsTo W' w2 v (idsN B 1000) := by
  have := ids_tower (b + 2) (b + 1) s W' (h.keeps k).tw h.agr.keys
  rw [h.agr.ids h.ok] at this
  exact this
def Call2 (w : World) (a : Option Addr) (len : Nat) (f : Nat → Int × Int) : Prop :=
  ∃ b off, (a = some ⟨b, off, none⟩ ∧ b < w.heap.size ∨ len = 0) ∧ ∀ i, i < len → w.cell? ⟨b, off + i * 2, none⟩ = some (.int .i64 (f i).1) ∧ w.cell? ⟨b, off + i * 2 + 1, none⟩ = some (.int .i64 (f i).2)
open Go.ChangeShapes Go.WideShapes Go.ChangeAt in
theorem RowFits.call2 {H : Type} {enc : TypeId × Value → H} {P : Program} {w : World} {sp : Nat → Bool} {held : Bool} {a : Option Addr} {len cap : Nat} (h : RowFits enc P w sp held [.int .i64, .int .i64] a len cap) : ∃ f, Call2 w a len f := by
  obtain ⟨b, off, ha, _, _, hx⟩ := h
  have : ∀ i, i < len → ∃ c : Int × Int, w.cell? ⟨b, off + i * 2, none⟩ = some (.int .i64 c.1) ∧ w.cell? ⟨b, off + i * 2 + 1, none⟩ = some (.int .i64 c.2) := by
    intro i hi
    obtain ⟨v0, h0, c0, rfl, _⟩ := hx i hi 0 (.int .i64) rfl
    obtain ⟨v1, h1, c1, rfl, _⟩ := hx i hi 1 (.int .i64) rfl
    exact ⟨(c0, c1), h0, h1⟩
  obtain ⟨f, hf⟩ := Go.Deep.choose_lt this
  exact ⟨f, b, off, ha, hf⟩
set_option maxRecDepth 100000 in
set_option maxHeartbeats 16000000 in
theorem bplays_any (n st : Int) (a : Option Addr) (len cap : Nat) (f : Nat → Int × Int) (w : World) (hr : Call2 w a len f) (hlen : (len : Int) ≤ 9223372036854775807) : Calls Try.prog 8 #[.int .i64 n, .slice a len cap, .int .i64 st] w (Yes w) := by
  obtain ⟨b, off, ha, hcell⟩ := hr
  have Hcell := Kept.mk hcell
  clear hcell
  have hS := mod_range st 5 (by omega) (by omega)
  obtain ⟨s0, Hs0⟩ : ∃ s0, Kept (Tw.new n = s0) := ⟨_, ⟨rfl⟩⟩
  have Hn0 : Kept (max 1 (min n 20) = s0.n) := ⟨by rw [← Hs0.out]; rfl⟩
  have Hag : Kept (Agr s0 (fun _ => -1)) := ⟨by rw [← Hs0.out]; exact ⟨fun x hx => by simp [Tw.new, MP.keys] at hx, fun k => by simp [Tw.new, MP.get_nil]⟩⟩
  have Hok : Kept s0.Ok := ⟨by rw [← Hs0.out]; exact Tw.new_ok n⟩
  go_enter Try.func8, Try.ntmps8
  go_wp2_with fail
  refine (bellNew_to n s0 _ Hs0.out).mono ?_
  rintro e w1 ⟨rfl, ⟨h1, z1⟩, k1⟩
  go_wp2_with fail
  refine (newTower_to n s0.n (w.heap.size + 3) _ Hn0.out z1).mono ?_
  rintro e w2 ⟨rfl, ⟨h2, z2⟩, k2⟩
  have G2 : Kept (Two w.heap.size w2 s0 (fun _ => -1)) := ⟨⟨h1.keeps k2 (fun h => h) (fun h => h), h2, Hag.out, Hok.out⟩⟩
  have B2 : Kept (Below w.heap.size w w2) := ⟨(k1.trans k2).below (Nat.le_refl _) (fun _ h => h.elim)⟩
  clear h1 z1 k1 h2 z2 k2 Hag Hok
  go_wp2_with fail
  generalize wrap64 ((IntKind.u64.wrap st).tmod 5) = S at hS ⊢
  obtain ⟨sn, rfl⟩ : ∃ sn : Nat, S = sn := ⟨S.toNat, by omega⟩
  go_loopw [29] (fun i wr => ∃ (k : Nat) (s : Tw) (B : Nat → Int), k ≤ len ∧ k ≤ 100 ∧ i = .int .i64 k ∧ Kept (Two w.heap.size wr s B) ∧ Kept (Below w.heap.size w wr)) (fun i _ => (len - (intOf i).toNat))
  case atStart => exact ⟨0, s0, _, by omega, by omega, rfl, G2, B2⟩
  case round =>
    clear G2 B2 Hs0 Hn0
    obtain ⟨k, s, B, hk, hk100, rfl, HT, HB⟩ := hrel
    have hbw := HB.out.size
    have HZ : Kept (w.heap.size + 3 < wr.heap.size) := ⟨Blk.lt HT.out.rt⟩
    by_cases hgo : k < len ∧ (k : Int) < 100
    · obtain ⟨hlt, h100⟩ := hgo
      obtain ⟨rfl, hbl⟩ : a = some ⟨b, off, none⟩ ∧ b < w.heap.size := by
        rcases ha with h | h
        · exact h
        · omega
      obtain ⟨c0, c1⟩ := Hcell.out k hlt
      rw [← HB.out.cell (p := ⟨b, off + k * 2, none⟩) hbl] at c0
      rw [← HB.out.cell (p := ⟨b, off + k * 2 + 1, none⟩) hbl] at c1
      generalize (f k).1 = f1 at c0
      generalize (f k).2 = f2 at c1
      have HC := Kept.mk (Blk.newAt wr 52 [.int .i64 f1, .int .i64 f2] _ rfl)
      have Ha := Kept.mk (HT.out.keeps ((Keeps.refl _ wr).alloc (.cells #[.int .i64 f1, .int .i64 f2] 52)))
      have HBa := Kept.mk (HB.out.alloc hbw (.cells #[.int .i64 f1, .int .i64 f2] 52))
      have HSC : Kept (¬ (wr.heap.size = w.heap.size + 2 ∨ wr.heap.size = w.heap.size + 1)) := ⟨by have := HZ.out; omega⟩
      have HSQ : Kept (¬ (w.heap.size + 3 = w.heap.size + 2 ∨ w.heap.size + 3 = w.heap.size + 1)) := ⟨by omega⟩
      have HSR : Kept (¬ wr.heap.size = w.heap.size + 3) := ⟨by have := HZ.out; omega⟩
      have HSP : Kept (¬ w.heap.size + 2 = w.heap.size + 3) := ⟨by omega⟩
      have HSM : Kept (¬ w.heap.size + 1 = w.heap.size + 3) := ⟨by omega⟩
      by_cases h0 : f1 = 0
      · subst h0
        obtain ⟨r, s', B', Hs, HB', ag', ok', hn'⟩ := HT.out.agr.hang HT.out.ok f2
        have HZa : Kept (w.heap.size + 3 < (wr.alloc (.cells #[.int .i64 0, .int .i64 f2] 52)).heap.size) := ⟨by have := HZ.out; simp; omega⟩
        go_wp2_with fail
        generalize wr.alloc (.cells #[.int .i64 0, .int .i64 f2] 52) = w9 at HC Ha HBa HZa ⊢
        have s90 := HC.out.drew.cell 1 rfl
        go_region_held3 (fun W => W.cell? ⟨wr.heap.size, 1, none⟩ = some (.int .i64 f2)) (go_keep) (first | (go_at_call 21; refine (hang_to _ _ s s' f2 r _ (Ha.out.tw.drewN 1) Hs.out).mono ?_; rintro e w3 ⟨rfl, ⟨h3, z3⟩, k3⟩; have g3 := (HC.out.drewN 1).keeps k3 HSC.out; have d3 := g3.cell 1 rfl; have r3 := (Ha.out.rt.drewN 1).keeps k3 HSQ.out) | (go_at_call 27; refine (rhang_to _ _ B B' f2 r _ r3 HB'.out).mono ?_; rintro e w4 ⟨rfl, ⟨h4, z4⟩, k4⟩; have g4 := g3.keeps k4 HSR.out; have d4 := g4.cell 1 rfl; have t4 := h3.keeps k4 HSP.out HSM.out))
        have hz1 := HZa.out
        have G : Kept (Two w.heap.size w4 s' B') := ⟨⟨t4, by rw [hn'.out]; exact h4, ag'.out, ok'.out⟩⟩
        have GB : Kept (Below w.heap.size w w4) := ⟨((HBa.out.trans (below_draws (Below.refl _ _) 1)).trans (k3.below (by show w.heap.size ≤ w9.heap.size; omega) (fun k e => by omega))).trans (k4.below (by have : w9.heap.size ≤ w3.heap.size := k3.size; omega) (fun k e => by omega))⟩
        clear h3 z3 k3 g3 d3 r3 h4 z4 k4 g4 d4 t4 ag' ok' hn' s90
        go_wp2_with fail
        refine (rids_to _ _ _ _ G.out.rt).mono ?_
        rintro e w5 ⟨u5, rfl, hu5, k5⟩
        have hz5 := k5.size
        have HU := Kept.mk hu5
        obtain ⟨ra, rc, rfl, hrl, hrm⟩ := hu5.slice
        have G5 := Kept.mk (G.out.keeps k5)
        have B5 := Kept.mk (GB.out.trans (k5.below GB.out.size (fun _ h => h.elim)))
        clear k5 hu5
        go_wp2_with fail
        refine (ids_to _ 1000 (idsN B' 1000) _ (by omega) (by have := idsN_len B' 1000; omega) (fun wq kq => G5.out.ids kq)).mono ?_
        rintro e w6 ⟨⟨u6, rfl, hu6⟩, k6⟩
        rw [List.take_of_length_le (idsN_len B' 1000)] at hu6
        have hz6 := k6.size
        have HU5 := Kept.mk (show NumOwn w6 _ _ _ from ownsRow_keeps HU.out k6 (fun _ _ h => h))
        obtain ⟨ga, gc, rfl, hgl, hgm⟩ := hu6.slice
        have HU6 := Kept.mk hu6
        have G6 := Kept.mk (G5.out.keeps k6)
        have B6 := Kept.mk (B5.out.trans (k6.below B5.out.size (fun _ h => h.elim)))
        clear k6 hu6
        go_wp2_with fail
        refine (same_yes _ _ _ _ _ _ _ (ownsRow_ints HU6.out) (ownsRow_ints HU5.out) (by have := idsN_len B' 1000; omega)).mono ?_
        rintro e w7 ⟨rfl, n7, rfl⟩
        go_wp2_with fail
        refine (ids_to _ sn (idsN B' 1000) _ (by omega) (by have := idsN_len B' 1000; omega) (fun wq kq => G6.out.ids (((Keeps.refl (fun _ => False) w6).drewN n7).trans kq))).mono ?_
        rintro e w8 ⟨⟨u8, rfl, hu8⟩, k8⟩
        obtain ⟨ta, tc, rfl, htl, htm⟩ := hu8.slice
        have G8 := Kept.mk (G6.out.keeps (((Keeps.refl (fun _ => False) w6).drewN n7).trans k8))
        have B8 := Kept.mk (B6.out.trans ((((Keeps.refl (fun _ => False) w6).drewN n7).trans k8).below B6.out.size (fun _ h => h.elim)))
        have hml := idsN_len B' 1000
        have htt : ((idsN B' 1000).take sn).length = min sn (idsN B' 1000).length := List.length_take
        clear k8 hu8 HU HU5 HU6 G5 G6 B5 B6
        generalize ((idsN B' 1000).take sn).length = tl at *
        generalize (idsN B' 1000).length = ml at *
        by_cases hlt2 : (ml : Int) < sn
        · obtain rfl : tl = ml := by omega
          clear htt
          go_wp2_with fail
          go_roundw
          case rel => exact ⟨k + 1, s', B', by omega, by omega, by go_num, G8, B8⟩
          case measure => simp [intOf]; omega
        · obtain rfl : tl = sn := by omega
          clear htt
          go_wp2_with fail
          go_roundw
          case rel => exact ⟨k + 1, s', B', by omega, by omega, by go_num, G8, B8⟩
          case measure => simp [intOf]; omega
      by_cases h1 : f1 = 1
      · subst h1
        obtain ⟨r, s', B', Hs, HB', ag', ok', hn'⟩ := HT.out.agr.cut HT.out.ok f2
        have HZa : Kept (w.heap.size + 3 < (wr.alloc (.cells #[.int .i64 1, .int .i64 f2] 52)).heap.size) := ⟨by have := HZ.out; simp; omega⟩
        go_wp2_with fail
        generalize wr.alloc (.cells #[.int .i64 1, .int .i64 f2] 52) = w9 at HC Ha HBa HZa ⊢
        have s90 := HC.out.drew.cell 1 rfl
        go_region_held3 (fun W => W.cell? ⟨wr.heap.size, 1, none⟩ = some (.int .i64 f2)) (go_keep) (first | (go_at_call 24; refine (cut_to _ _ s s' f2 r _ (Ha.out.tw.drewN 1) Hs.out).mono ?_; rintro e w3 ⟨rfl, ⟨h3, z3⟩, k3⟩; have g3 := (HC.out.drewN 1).keeps k3 HSC.out; have d3 := g3.cell 1 rfl; have r3 := (Ha.out.rt.drewN 1).keeps k3 HSQ.out) | (go_at_call 28; refine (rcut_to _ _ B B' f2 r _ r3 HB'.out).mono ?_; rintro e w4 ⟨rfl, ⟨h4, z4⟩, k4⟩; have g4 := g3.keeps k4 HSR.out; have d4 := g4.cell 1 rfl; have t4 := h3.keeps k4 HSP.out HSM.out))
        have hz1 := HZa.out
        have G : Kept (Two w.heap.size w4 s' B') := ⟨⟨t4, by rw [hn'.out]; exact h4, ag'.out, ok'.out⟩⟩
        have GB : Kept (Below w.heap.size w w4) := ⟨((HBa.out.trans (below_draws (Below.refl _ _) 1)).trans (k3.below (by show w.heap.size ≤ w9.heap.size; omega) (fun k e => by omega))).trans (k4.below (by have : w9.heap.size ≤ w3.heap.size := k3.size; omega) (fun k e => by omega))⟩
        clear h3 z3 k3 g3 d3 r3 h4 z4 k4 g4 d4 t4 ag' ok' hn' s90
        go_wp2_with fail
        refine (rids_to _ _ _ _ G.out.rt).mono ?_
        rintro e w5 ⟨u5, rfl, hu5, k5⟩
        have hz5 := k5.size
        have HU := Kept.mk hu5
        obtain ⟨ra, rc, rfl, hrl, hrm⟩ := hu5.slice
        have G5 := Kept.mk (G.out.keeps k5)
        have B5 := Kept.mk (GB.out.trans (k5.below GB.out.size (fun _ h => h.elim)))
        clear k5 hu5
        go_wp2_with fail
        refine (ids_to _ 1000 (idsN B' 1000) _ (by omega) (by have := idsN_len B' 1000; omega) (fun wq kq => G5.out.ids kq)).mono ?_
        rintro e w6 ⟨⟨u6, rfl, hu6⟩, k6⟩
        rw [List.take_of_length_le (idsN_len B' 1000)] at hu6
        have hz6 := k6.size
        have HU5 := Kept.mk (show NumOwn w6 _ _ _ from ownsRow_keeps HU.out k6 (fun _ _ h => h))
        obtain ⟨ga, gc, rfl, hgl, hgm⟩ := hu6.slice
        have HU6 := Kept.mk hu6
        have G6 := Kept.mk (G5.out.keeps k6)
        have B6 := Kept.mk (B5.out.trans (k6.below B5.out.size (fun _ h => h.elim)))
        clear k6 hu6
        go_wp2_with fail
        refine (same_yes _ _ _ _ _ _ _ (ownsRow_ints HU6.out) (ownsRow_ints HU5.out) (by have := idsN_len B' 1000; omega)).mono ?_
        rintro e w7 ⟨rfl, n7, rfl⟩
        go_wp2_with fail
        refine (ids_to _ sn (idsN B' 1000) _ (by omega) (by have := idsN_len B' 1000; omega) (fun wq kq => G6.out.ids (((Keeps.refl (fun _ => False) w6).drewN n7).trans kq))).mono ?_
        rintro e w8 ⟨⟨u8, rfl, hu8⟩, k8⟩
        obtain ⟨ta, tc, rfl, htl, htm⟩ := hu8.slice
        have G8 := Kept.mk (G6.out.keeps (((Keeps.refl (fun _ => False) w6).drewN n7).trans k8))
        have B8 := Kept.mk (B6.out.trans ((((Keeps.refl (fun _ => False) w6).drewN n7).trans k8).below B6.out.size (fun _ h => h.elim)))
        have hml := idsN_len B' 1000
        have htt : ((idsN B' 1000).take sn).length = min sn (idsN B' 1000).length := List.length_take
        clear k8 hu8 HU HU5 HU6 G5 G6 B5 B6
        generalize ((idsN B' 1000).take sn).length = tl at *
        generalize (idsN B' 1000).length = ml at *
        by_cases hlt2 : (ml : Int) < sn
        · obtain rfl : tl = ml := by omega
          clear htt
          go_wp2_with fail
          go_roundw
          case rel => exact ⟨k + 1, s', B', by omega, by omega, by go_num, G8, B8⟩
          case measure => simp [intOf]; omega
        · obtain rfl : tl = sn := by omega
          clear htt
          go_wp2_with fail
          go_roundw
          case rel => exact ⟨k + 1, s', B', by omega, by omega, by go_num, G8, B8⟩
          case measure => simp [intOf]; omega
      by_cases h2 : f1 = 2
      · subst h2
        obtain ⟨r, s', B', Hs, HB', ag', ok', hn'⟩ := HT.out.agr.again HT.out.ok f2
        have HZa : Kept (w.heap.size + 3 < (wr.alloc (.cells #[.int .i64 2, .int .i64 f2] 52)).heap.size) := ⟨by have := HZ.out; simp; omega⟩
        go_wp2_with fail
        generalize wr.alloc (.cells #[.int .i64 2, .int .i64 f2] 52) = w9 at HC Ha HBa HZa ⊢
        have s90 := HC.out.drew.cell 1 rfl
        go_region_held3 (fun W => W.cell? ⟨wr.heap.size, 1, none⟩ = some (.int .i64 f2)) (go_keep) (first | (go_at_call 23; refine (again_to _ _ s s' f2 r _ (Ha.out.tw.drewN 1) Hs.out).mono ?_; rintro e w3 ⟨rfl, ⟨h3, z3⟩, k3⟩; have g3 := (HC.out.drewN 1).keeps k3 HSC.out; have d3 := g3.cell 1 rfl; have r3 := (Ha.out.rt.drewN 1).keeps k3 HSQ.out) | (go_at_call 29; refine (ragain_to _ _ B B' f2 r _ r3 HB'.out).mono ?_; rintro e w4 ⟨rfl, ⟨h4, z4⟩, k4⟩; have g4 := g3.keeps k4 HSR.out; have d4 := g4.cell 1 rfl; have t4 := h3.keeps k4 HSP.out HSM.out))
        have hz1 := HZa.out
        have G : Kept (Two w.heap.size w4 s' B') := ⟨⟨t4, by rw [hn'.out]; exact h4, ag'.out, ok'.out⟩⟩
        have GB : Kept (Below w.heap.size w w4) := ⟨((HBa.out.trans (below_draws (Below.refl _ _) 1)).trans (k3.below (by show w.heap.size ≤ w9.heap.size; omega) (fun k e => by omega))).trans (k4.below (by have : w9.heap.size ≤ w3.heap.size := k3.size; omega) (fun k e => by omega))⟩
        clear h3 z3 k3 g3 d3 r3 h4 z4 k4 g4 d4 t4 ag' ok' hn' s90
        go_wp2_with fail
        refine (rids_to _ _ _ _ G.out.rt).mono ?_
        rintro e w5 ⟨u5, rfl, hu5, k5⟩
        have hz5 := k5.size
        have HU := Kept.mk hu5
        obtain ⟨ra, rc, rfl, hrl, hrm⟩ := hu5.slice
        have G5 := Kept.mk (G.out.keeps k5)
        have B5 := Kept.mk (GB.out.trans (k5.below GB.out.size (fun _ h => h.elim)))
        clear k5 hu5
        go_wp2_with fail
        refine (ids_to _ 1000 (idsN B' 1000) _ (by omega) (by have := idsN_len B' 1000; omega) (fun wq kq => G5.out.ids kq)).mono ?_
        rintro e w6 ⟨⟨u6, rfl, hu6⟩, k6⟩
        rw [List.take_of_length_le (idsN_len B' 1000)] at hu6
        have hz6 := k6.size
        have HU5 := Kept.mk (show NumOwn w6 _ _ _ from ownsRow_keeps HU.out k6 (fun _ _ h => h))
        obtain ⟨ga, gc, rfl, hgl, hgm⟩ := hu6.slice
        have HU6 := Kept.mk hu6
        have G6 := Kept.mk (G5.out.keeps k6)
        have B6 := Kept.mk (B5.out.trans (k6.below B5.out.size (fun _ h => h.elim)))
        clear k6 hu6
        go_wp2_with fail
        refine (same_yes _ _ _ _ _ _ _ (ownsRow_ints HU6.out) (ownsRow_ints HU5.out) (by have := idsN_len B' 1000; omega)).mono ?_
        rintro e w7 ⟨rfl, n7, rfl⟩
        go_wp2_with fail
        refine (ids_to _ sn (idsN B' 1000) _ (by omega) (by have := idsN_len B' 1000; omega) (fun wq kq => G6.out.ids (((Keeps.refl (fun _ => False) w6).drewN n7).trans kq))).mono ?_
        rintro e w8 ⟨⟨u8, rfl, hu8⟩, k8⟩
        obtain ⟨ta, tc, rfl, htl, htm⟩ := hu8.slice
        have G8 := Kept.mk (G6.out.keeps (((Keeps.refl (fun _ => False) w6).drewN n7).trans k8))
        have B8 := Kept.mk (B6.out.trans ((((Keeps.refl (fun _ => False) w6).drewN n7).trans k8).below B6.out.size (fun _ h => h.elim)))
        have hml := idsN_len B' 1000
        have htt : ((idsN B' 1000).take sn).length = min sn (idsN B' 1000).length := List.length_take
        clear k8 hu8 HU HU5 HU6 G5 G6 B5 B6
        generalize ((idsN B' 1000).take sn).length = tl at *
        generalize (idsN B' 1000).length = ml at *
        by_cases hlt2 : (ml : Int) < sn
        · obtain rfl : tl = ml := by omega
          clear htt
          go_wp2_with fail
          go_roundw
          case rel => exact ⟨k + 1, s', B', by omega, by omega, by go_num, G8, B8⟩
          case measure => simp [intOf]; omega
        · obtain rfl : tl = sn := by omega
          clear htt
          go_wp2_with fail
          go_roundw
          case rel => exact ⟨k + 1, s', B', by omega, by omega, by go_num, G8, B8⟩
          case measure => simp [intOf]; omega
      · have hn0 : (f1 == 0) = false := by simpa using h0
        have hn1 : (f1 == 1) = false := by simpa using h1
        have hn2 : (f1 == 2) = false := by simpa using h2
        obtain ⟨r, u, s', B', Hs, HB', ag', ok', hn', hmax⟩ := HT.out.agr.ring HT.out.ok f2
        have c1a := HC.out.cell 1 rfl
        have hz1 := HZ.out
        go_wp2_with fail
        refine (ring_to _ _ s s' f2 r u _ Ha.out.tw HT.out.ok Hs.out).mono ?_
        rintro e w3 ⟨rfl, ⟨h3, z3⟩, k3⟩
        have g3 := HC.out.keeps k3 HSC.out
        have d3 := g3.cell 1 rfl
        have r3 := Ha.out.rt.keeps k3 HSQ.out
        go_wp2_with fail
        refine (rring_to _ _ B B' f2 r u _ r3 hmax.out HB'.out).mono ?_
        rintro e w4 ⟨rfl, ⟨h4, z4⟩, k4⟩
        have t4 := h3.keeps k4 HSP.out HSM.out
        have G : Kept (Two w.heap.size w4 s' B') := ⟨⟨t4, by rw [hn'.out]; exact h4, ag'.out, ok'.out⟩⟩
        have GB : Kept (Below w.heap.size w w4) := ⟨(HBa.out.trans (k3.below (by simp; omega) (fun k e => by omega))).trans (k4.below (by have := k3.size; simp at this; omega) (fun k e => by omega))⟩
        clear h3 z3 k3 g3 d3 r3 h4 z4 k4 t4 ag' ok' hn' hmax c1a
        cases r <;> cases u
        all_goals
          go_wp2_with fail
          refine (rids_to _ _ _ _ G.out.rt).mono ?_
          rintro e w5 ⟨u5, rfl, hu5, k5⟩
          have hz5 := k5.size
          have HU := Kept.mk hu5
          obtain ⟨ra, rc, rfl, hrl, hrm⟩ := hu5.slice
          have G5 := Kept.mk (G.out.keeps k5)
          have B5 := Kept.mk (GB.out.trans (k5.below GB.out.size (fun _ h => h.elim)))
          clear k5 hu5
          go_wp2_with fail
          refine (ids_to _ 1000 (idsN B' 1000) _ (by omega) (by have := idsN_len B' 1000; omega) (fun wq kq => G5.out.ids kq)).mono ?_
          rintro e w6 ⟨⟨u6, rfl, hu6⟩, k6⟩
          rw [List.take_of_length_le (idsN_len B' 1000)] at hu6
          have hz6 := k6.size
          have HU5 := Kept.mk (show NumOwn w6 _ _ _ from ownsRow_keeps HU.out k6 (fun _ _ h => h))
          obtain ⟨ga, gc, rfl, hgl, hgm⟩ := hu6.slice
          have HU6 := Kept.mk hu6
          have G6 := Kept.mk (G5.out.keeps k6)
          have B6 := Kept.mk (B5.out.trans (k6.below B5.out.size (fun _ h => h.elim)))
          clear k6 hu6
          go_wp2_with fail
          refine (same_yes _ _ _ _ _ _ _ (ownsRow_ints HU6.out) (ownsRow_ints HU5.out) (by have := idsN_len B' 1000; omega)).mono ?_
          rintro e w7 ⟨rfl, n7, rfl⟩
          go_wp2_with fail
          refine (ids_to _ sn (idsN B' 1000) _ (by omega) (by have := idsN_len B' 1000; omega) (fun wq kq => G6.out.ids (((Keeps.refl (fun _ => False) w6).drewN n7).trans kq))).mono ?_
          rintro e w8 ⟨⟨u8, rfl, hu8⟩, k8⟩
          obtain ⟨ta, tc, rfl, htl, htm⟩ := hu8.slice
          have G8 := Kept.mk (G6.out.keeps (((Keeps.refl (fun _ => False) w6).drewN n7).trans k8))
          have B8 := Kept.mk (B6.out.trans ((((Keeps.refl (fun _ => False) w6).drewN n7).trans k8).below B6.out.size (fun _ h => h.elim)))
          have hml := idsN_len B' 1000
          have htt : ((idsN B' 1000).take sn).length = min sn (idsN B' 1000).length := List.length_take
          clear k8 hu8 HU HU5 HU6 G5 G6 B5 B6
          generalize ((idsN B' 1000).take sn).length = tl at *
          generalize (idsN B' 1000).length = ml at *
          by_cases hlt2 : (ml : Int) < sn
          · obtain rfl : tl = ml := by omega
            clear htt
            go_wp2_with fail
            go_roundw
            case rel => exact ⟨k + 1, s', B', by omega, by omega, by go_num, G8, B8⟩
            case measure => simp [intOf]; omega
          · obtain rfl : tl = sn := by omega
            clear htt
            go_wp2_with fail
            go_roundw
            case rel => exact ⟨k + 1, s', B', by omega, by omega, by go_num, G8, B8⟩
            case measure => simp [intOf]; omega
    · by_cases hend : k < len
      · obtain ⟨rfl, hbl⟩ : a = some ⟨b, off, none⟩ ∧ b < w.heap.size := by
          rcases ha with h | h
          · exact h
          · omega
        obtain ⟨c0, c1⟩ := Hcell.out k hend
        rw [← HB.out.cell (p := ⟨b, off + k * 2, none⟩) hbl] at c0
        rw [← HB.out.cell (p := ⟨b, off + k * 2 + 1, none⟩) hbl] at c1
        generalize (f k).1 = f1 at c0
        generalize (f k).2 = f2 at c1
        have hk' : (100 : Int) ≤ k := by omega
        clear hgo
        go_wp2_with fail
        refine (bawake_any _).mono ?_
        rintro e w5 ⟨rfl, b5⟩
        go_wp2_with fail
        go_ret
        exact ⟨rfl, (HB.out.alloc hbw _).trans (b5.mono (by simp; omega))⟩
      · obtain rfl : k = len := by omega
        clear hgo
        go_wp2_with fail
        refine (bawake_any _).mono ?_
        rintro e w5 ⟨rfl, b5⟩
        go_wp2_with fail
        go_ret
        exact ⟨rfl, HB.out.trans (b5.mono hbw)⟩
end Go.Proofs.Ytleipaiojefekaa
