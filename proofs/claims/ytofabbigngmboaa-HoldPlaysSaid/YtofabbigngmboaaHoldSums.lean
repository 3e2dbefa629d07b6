/- The law HoldSums, walked. -/
import Derived.Test.YtofabbigngmboaaHoldLaws
namespace Go.Proofs.Ytofabbigngmboaa
open Go.RowKit
def sumTo (f : Int → Int) : Nat → Int
  | 0 => 0
  | j + 1 => sumTo f j + f ((j + 1 : Nat) : Int)
theorem sumTo_update {f g : Int → Int} {id : Int} (h : ∀ k, k ≠ id → g k = f k) (h1 : 1 ≤ id) : ∀ j : Nat, sumTo g j = sumTo f j + (if id ≤ j then g id - f id else 0)
  | 0 => by
    have : ¬ id ≤ ((0 : Nat) : Int) := by omega
    rw [if_neg this]; rfl
  | j + 1 => by
    simp only [sumTo]
    rw [sumTo_update h h1 j]
    by_cases e : ((j + 1 : Nat) : Int) = id
    · rw [e, if_neg (by omega), if_pos (by omega)]; omega
    · rw [h _ e]
      by_cases hj : id ≤ (j : Int)
      · rw [if_pos hj, if_pos (by omega)]; omega
      · rw [if_neg hj, if_neg (by omega)]; omega
theorem sumTo_nonneg {f : Int → Int} (h : ∀ k, 0 ≤ f k) : ∀ j, 0 ≤ sumTo f j
  | 0 => Int.le_refl _
  | j + 1 => by have := sumTo_nonneg h j; have := h ((j + 1 : Nat) : Int); simp only [sumTo]; omega
theorem le_sumTo {f : Int → Int} (h : ∀ k, 0 ≤ f k) {id : Int} (h1 : 1 ≤ id) : ∀ j : Nat, id ≤ j → f id ≤ sumTo f j
  | 0, hj => by omega
  | j + 1, hj => by
    have hn := sumTo_nonneg h j
    simp only [sumTo]
    by_cases e : ((j + 1 : Nat) : Int) = id
    · rw [e]; omega
    · have := le_sumTo h h1 j (by omega)
      have := h ((j + 1 : Nat) : Int)
      omega
theorem sumTo_mono {f : Int → Int} (h : ∀ k, 0 ≤ f k) {i : Nat} : ∀ j : Nat, i ≤ j → sumTo f i ≤ sumTo f j
  | 0, hj => by obtain rfl : i = 0 := by omega
                exact Int.le_refl _
  | j + 1, hj => by
    by_cases e : i = j + 1
    · rw [e]; exact Int.le_refl _
    · have := sumTo_mono (i := i) h j (by omega)
      have := h ((j + 1 : Nat) : Int)
      simp only [sumTo]
      omega
/-- What is left and what is held of 20 orders. -/
structure Hd.Sums (s : Hd) (room : Int) : Prop where
  ok : s.Ok
  sum : s.l + sumTo s.at 20 = room
theorem Hd.Sums.take {s : Hd} {room : Int} (h : s.Sums room) (id n : Int) (h1 : 1 ≤ id) (h2 : id ≤ 20) : (s.take id n).2.Sums room := by
  refine ⟨Hd.take_ok h.ok id n, ?_⟩
  unfold Hd.take
  cases ha : Hd.argOk id n with
  | false => simp only [Bool.false_eq_true, if_false]; exact h.sum
  | true =>
    simp only [if_true]
    by_cases hp : 0 < s.at id
    · rw [if_pos hp]; exact h.sum
    · rw [if_neg hp]
      by_cases hl : s.l < n
      · rw [if_pos hl]; exact h.sum
      · rw [if_neg hl]
        have hz : s.at id = 0 := by have := (h.ok.at_range id).1; omega
        have hu := sumTo_update (f := s.at) (g := (Hd.mk (s.l - n) (MP.put s.L id n)).at) (id := id) (fun k hk => by
          simp only [Hd.at]; rw [MP.get_put, if_neg hk]) h1 20
        have hg : (Hd.mk (s.l - n) (MP.put s.L id n)).at id = n := by simp only [Hd.at]; rw [MP.get_put, if_pos rfl]; rfl
        rw [hg, if_pos (by omega)] at hu
        show s.l - n + sumTo (Hd.mk (s.l - n) (MP.put s.L id n)).at 20 = room
        have := h.sum
        omega
theorem Hd.Sums.back {s : Hd} {room : Int} (h : s.Sums room) (hr : room ≤ 1000000000) (id : Int) (h1 : 1 ≤ id) (h2 : id ≤ 20) : (s.back id).2.Sums room := by
  have hle := le_sumTo (f := s.at) (fun k => (h.ok.at_range k).1) h1 20 (by omega)
  have hs := h.sum
  refine ⟨Hd.back_ok h.ok (by omega), ?_⟩
  unfold Hd.back
  by_cases h0 : s.at id = 0
  · rw [if_pos h0]; exact hs
  · rw [if_neg h0]
    have hu := sumTo_update (f := s.at) (g := (Hd.mk (s.l + s.at id) (MP.del s.L id)).at) (id := id) (fun k hk => by
      simp only [Hd.at]; rw [MP.get_del _ _ h.ok.nodup, if_neg hk]) h1 20
    have hg : (Hd.mk (s.l + s.at id) (MP.del s.L id)).at id = 0 := by simp only [Hd.at]; rw [MP.get_del _ _ h.ok.nodup, if_pos rfl]; rfl
    rw [hg, if_pos (by omega)] at hu
    show s.l + s.at id + sumTo (Hd.mk (s.l + s.at id) (MP.del s.L id)).at 20 = room
    omega
theorem Hd.Ok.some_iff {s : Hd} (h : s.Ok) (id : Int) : (MP.get s.L id).isSome = decide (0 < s.at id) := by
  unfold Hd.at
  cases hg : MP.get s.L id with
  | none => rfl
  | some v =>
    have := h.vals id v hg
    simp only [Option.isSome_some, Option.getD_some]
    rw [eq_comm, decide_eq_true_iff]
    omega
/-- A row of calls. -/
def CallRow (w : World) (a : Option Addr) (len : Nat) (f : Nat → Bool × Int × Int) : Prop :=
  ∃ b off, (a = some ⟨b, off, none⟩ ∧ b < w.heap.size ∨ len = 0) ∧ ∀ i, i < len → w.cell? ⟨b, off + i * 3, none⟩ = some (.bool (f i).1) ∧ w.cell? ⟨b, off + i * 3 + 1, none⟩ = some (.int .i64 (f i).2.1) ∧ w.cell? ⟨b, off + i * 3 + 2, none⟩ = some (.int .i64 (f i).2.2)
theorem RowFits.calls {H : Type} {enc : TypeId × Value → H} {P : Program} {w : World} {sp : Nat → Bool} {held : Bool} {a : Option Addr} {len cap : Nat} (h : RowFits enc P w sp held [.bool, .int .i64, .int .i64] a len cap) : ∃ f, CallRow w a len f := by
  obtain ⟨b, off, ha, _, _, hx⟩ := h
  have : ∀ i, i < len → ∃ c : Bool × Int × Int, w.cell? ⟨b, off + i * 3, none⟩ = some (.bool c.1) ∧ w.cell? ⟨b, off + i * 3 + 1, none⟩ = some (.int .i64 c.2.1) ∧ w.cell? ⟨b, off + i * 3 + 2, none⟩ = some (.int .i64 c.2.2) := by
    intro i hi
    obtain ⟨v0, h0, c0, rfl⟩ := hx i hi 0 .bool rfl
    obtain ⟨v1, h1, c1, rfl, _⟩ := hx i hi 1 (.int .i64) rfl
    obtain ⟨v2, h2, c2, rfl, _⟩ := hx i hi 2 (.int .i64) rfl
    exact ⟨(c0, c1, c2), h0, h1, h2⟩
  obtain ⟨f, hf⟩ := Go.Deep.choose_lt this
  exact ⟨f, b, off, ha, hf⟩
set_option maxRecDepth 100000 in
set_option maxHeartbeats 4000000 in
theorem sums_any (n : Int) (a : Option Addr) (len cap : Nat) (f : Nat → Bool × Int × Int) (w : World) (hr : CallRow w a len f) (hlen : (len : Int) ≤ 9223372036854775807) : Calls Try.prog 4 #[.int .i64 n, .slice a len cap] w (Yes w) := by
  obtain ⟨b, off, ha, hcell⟩ := hr
  have Hcell := Kept.mk hcell
  clear hcell
  have hR := mod_range n 1000000001 (by omega) (by omega)
  go_enter Try.func4, Try.ntmps4
  go_wp2_with fail
  generalize wrap64 ((IntKind.u64.wrap n).tmod 1000000001) = R at hR ⊢
  have Hs0 : Kept (Hd.new R = ⟨R, []⟩) := ⟨by
    have : max 0 (min R 1000000000) = R := by omega
    simp only [Hd.new, this]⟩
  have sum0 : (Hd.mk R []).Sums R := ⟨by have := Hd.new_ok R; rw [Hs0.out] at this; exact this, by
    have : sumTo (Hd.mk R []).at 20 = 0 := by simp only [sumTo, at_nil, Int.add_zero]
    rw [this]; exact Int.add_zero R⟩
  refine (holdNew_to R _ _ Hs0.out).mono ?_
  rintro e w1 ⟨rfl, ⟨h1, s1⟩, k1⟩
  go_wp2_with fail
  have B1 : Below w.heap.size w w1 := k1.below (Nat.le_refl _) (fun _ h => h.elim)
  generalize Hd.mk R [] = s0 at h1 sum0
  clear k1 s1
  go_loopw [21] (fun i wr => ∃ (k : Nat) (s : Hd), k ≤ len ∧ i = .int .i64 k ∧ s.Sums R ∧ HdAt wr (w.heap.size + 1) w.heap.size s ∧ Below w.heap.size w wr) (fun i _ => (len - (intOf i).toNat))
  case atStart => exact ⟨0, s0, by omega, rfl, sum0, h1, B1⟩
  case round =>
    clear h1 B1 sum0 Hs0 s0
    obtain ⟨k, s, hk, rfl, hs, hc, hB⟩ := hrel
    have hbw := hB.size
    by_cases hlt : k < len
    · obtain ⟨rfl, hbl⟩ : a = some ⟨b, off, none⟩ ∧ b < w.heap.size := by
        rcases ha with h | h
        · exact h
        · omega
      obtain ⟨c0, c1, c2⟩ := Hcell.out k hlt
      rw [← hB.cell (p := ⟨b, off + k * 3, none⟩) hbl] at c0
      rw [← hB.cell (p := ⟨b, off + k * 3 + 1, none⟩) hbl] at c1
      rw [← hB.cell (p := ⟨b, off + k * 3 + 2, none⟩) hbl] at c2
      generalize (f k).1 = fb at c0
      generalize (f k).2.1 = fi at c1
      generalize (f k).2.2 = fn at c2
      by_cases h60 : (60 : Int) ≤ k
      · go_wp2_with fail
        refine (awake_any _).mono ?_
        rintro e w5 ⟨rfl, b5⟩
        go_wp2_with fail
        go_ret
        exact ⟨rfl, (hB.alloc hbw _).trans (b5.mono (by simp; omega))⟩
      · have hid := mod_above fi 20 1 (by omega) (by omega) (by omega) (by omega)
        cases fb with
        | true =>
          go_wp2_with fail
          generalize wrap64 (1 + wrap64 ((IntKind.u64.wrap fi).tmod 20)) = id at hid ⊢
          have hs' := hs.back (by omega) id (by omega) (by omega)
          refine (back_any _ _ _ id _ (hc.alloc _) hs.ok).mono ?_
          rintro e w3 ⟨rfl, ⟨h3, z3⟩, k3⟩
          have B3 : Below w.heap.size w w3 := (hB.alloc hbw _).trans (k3.below (by simp; omega) (fun k e => by omega))
          have hb3 := B3.size
          generalize (s.back id).2 = s' at h3 hs'
          clear k3 z3 hc hB hs
          have hnn := fun k => (hs'.ok.at_range k).1
          have hsum := hs'.sum
          have l0 := hs'.ok.l0
          have Hnn := Kept.mk hnn
          have Hsum := Kept.mk hsum
          clear hnn hsum
          go_wp2_with fail
          refine (left_to _ _ _ s'.l _ h3 rfl).mono ?_
          rintro e _ ⟨rfl, rfl⟩
          go_wp2_with fail
          go_loopw [9, 10] (fun u i wq => ∃ (j : Nat) (S : Int), j ≤ 20 ∧ u = .int .i64 S ∧ i = .int .i64 (j + 1) ∧ Kept (S = s'.l + sumTo s'.at j) ∧ 0 ≤ S ∧ S ≤ R ∧ wq = w3) (fun _ i _ => (21 - intOf i).toNat)
          case atStart => exact ⟨0, s'.l, by omega, rfl, rfl, ⟨(Int.add_zero _).symm⟩, l0, by have := Hsum.out; have := sumTo_nonneg Hnn.out 20; omega, rfl⟩
          case round =>
            obtain ⟨j, S, hj, rfl, rfl, hS, S0, S1, rfl⟩ := hrel
            by_cases hlj : j < 20
            · have hx0 := Hnn.out (j + 1)
              have hxs : Kept (S + s'.at (j + 1) = s'.l + sumTo s'.at (j + 1)) := ⟨by
                have ej : ((j + 1 : Nat) : Int) = (j : Int) + 1 := by omega
                rw [hS.out]; simp only [sumTo, ej]; omega⟩
              have hxR : S + s'.at (j + 1) ≤ R := by
                have h1 := sumTo_mono (f := s'.at) Hnn.out (i := j + 1) 20 (by omega)
                have h2 := Hsum.out
                rw [hxs.out]
                omega
              have hr := hs'.ok.some_iff (j + 1)
              generalize hx : s'.at (j + 1) = x at hx0 hxs hxR hr
              have Hx := Kept.mk hx
              have Hr := Kept.mk hr
              clear hx hr
              go_wp2_with fail
              refine (has_to _ _ _ _ _ _ _ h3 Hx.out Hr.out).mono ?_
              rintro e _ ⟨rfl, rfl⟩
              go_wp2_with fail
              go_roundw
              case rel => exact ⟨j + 1, S + x, by omega, rfl, by go_num, hxs, by omega, hxR, by first | rfl | trivial⟩
              case measure => simp [intOf]; omega
            · obtain rfl : j = 20 := by omega
              obtain rfl : S = R := by rw [hS.out]; exact Hsum.out
              go_wp2_with fail
              refine (left_to _ _ _ s'.l _ h3 rfl).mono ?_
              rintro e _ ⟨rfl, rfl⟩
              go_wp2_with fail
              go_roundw
              case rel => exact ⟨k + 1, s', by omega, by go_num, hs', h3, B3⟩
              case measure => simp [intOf]; omega
        | false =>
          go_wp2_with fail
          generalize wrap64 (1 + wrap64 ((IntKind.u64.wrap fi).tmod 20)) = id at hid ⊢
          have hs' := hs.take id fn (by omega) (by omega)
          refine (take_any _ _ _ id fn _ (hc.alloc _) hs.ok).mono ?_
          rintro e w3 ⟨rfl, ⟨h3, z3⟩, k3⟩
          have B3 : Below w.heap.size w w3 := (hB.alloc hbw _).trans (k3.below (by simp; omega) (fun k e => by omega))
          have hb3 := B3.size
          generalize (s.take id fn).2 = s' at h3 hs'
          clear k3 z3 hc hB hs
          have hnn := fun k => (hs'.ok.at_range k).1
          have hsum := hs'.sum
          have l0 := hs'.ok.l0
          have Hnn := Kept.mk hnn
          have Hsum := Kept.mk hsum
          clear hnn hsum
          go_wp2_with fail
          refine (left_to _ _ _ s'.l _ h3 rfl).mono ?_
          rintro e _ ⟨rfl, rfl⟩
          go_wp2_with fail
          go_loopw [9, 10] (fun u i wq => ∃ (j : Nat) (S : Int), j ≤ 20 ∧ u = .int .i64 S ∧ i = .int .i64 (j + 1) ∧ Kept (S = s'.l + sumTo s'.at j) ∧ 0 ≤ S ∧ S ≤ R ∧ wq = w3) (fun _ i _ => (21 - intOf i).toNat)
          case atStart => exact ⟨0, s'.l, by omega, rfl, rfl, ⟨(Int.add_zero _).symm⟩, l0, by have := Hsum.out; have := sumTo_nonneg Hnn.out 20; omega, rfl⟩
          case round =>
            obtain ⟨j, S, hj, rfl, rfl, hS, S0, S1, rfl⟩ := hrel
            by_cases hlj : j < 20
            · have hx0 := Hnn.out (j + 1)
              have hxs : Kept (S + s'.at (j + 1) = s'.l + sumTo s'.at (j + 1)) := ⟨by
                have ej : ((j + 1 : Nat) : Int) = (j : Int) + 1 := by omega
                rw [hS.out]; simp only [sumTo, ej]; omega⟩
              have hxR : S + s'.at (j + 1) ≤ R := by
                have h1 := sumTo_mono (f := s'.at) Hnn.out (i := j + 1) 20 (by omega)
                have h2 := Hsum.out
                rw [hxs.out]
                omega
              have hr := hs'.ok.some_iff (j + 1)
              generalize hx : s'.at (j + 1) = x at hx0 hxs hxR hr
              have Hx := Kept.mk hx
              have Hr := Kept.mk hr
              clear hx hr
              go_wp2_with fail
              refine (has_to _ _ _ _ _ _ _ h3 Hx.out Hr.out).mono ?_
              rintro e _ ⟨rfl, rfl⟩
              go_wp2_with fail
              go_roundw
              case rel => exact ⟨j + 1, S + x, by omega, rfl, by go_num, hxs, by omega, hxR, by first | rfl | trivial⟩
              case measure => simp [intOf]; omega
            · obtain rfl : j = 20 := by omega
              obtain rfl : S = R := by rw [hS.out]; exact Hsum.out
              go_wp2_with fail
              refine (left_to _ _ _ s'.l _ h3 rfl).mono ?_
              rintro e _ ⟨rfl, rfl⟩
              go_wp2_with fail
              go_roundw
              case rel => exact ⟨k + 1, s', by omega, by go_num, hs', h3, B3⟩
              case measure => simp [intOf]; omega
    · go_wp2_with fail
      refine (awake_any _).mono ?_
      rintro e w5 ⟨rfl, b5⟩
      go_wp2_with fail
      go_ret
      exact ⟨rfl, hB.trans (b5.mono hbw)⟩
end Go.Proofs.Ytofabbigngmboaa
