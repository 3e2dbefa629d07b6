/- Rows of bools: slices.Index, Contains, Clone, Reverse at bools, and saga's first and last, walked. -/
import Derived.Test.YtfcnegnkmacajaaRows
import Derived.Test.YtfcnegnkmacajaaSay
import Derived.Test.YtfcnegnkmacajaaOrd
namespace Go.Proofs.Ytfcnegnkmacajaa
open Go.RowKit
/-- A row of bools, cell by cell. -/
def BlRow (w : World) (a : Option Addr) (L : List Bool) : Prop := ∀ (k : Nat) (x : Bool), L[k]? = some x → ∃ g off, a = some ⟨g, off, none⟩ ∧ g < w.heap.size ∧ w.cell? ⟨g, off + k, none⟩ = some (.bool x)
theorem BlRow.keeps {w w' : World} {a : Option Addr} {L : List Bool} (h : BlRow w a L) {S : Nat → Prop} (k : Keeps S w w') (hs : ∀ x, a = some x → ¬ S x.block) : BlRow w' a L := by
  intro i x hx
  obtain ⟨g, off, e, hl, h0⟩ := h i x hx
  have hg := hs _ e
  exact ⟨g, off, e, Nat.lt_of_lt_of_le hl k.size, (k.cell (p := ⟨g, off + i, none⟩) hl hg).trans h0⟩
theorem BlRow.quiet {w w' : World} {a : Option Addr} {L : List Bool} (h : BlRow w a L) (k : Keeps (fun _ => False) w w') : BlRow w' a L := h.keeps k (fun _ _ h => h)
theorem BlRow.alloc {w : World} {a : Option Addr} {L : List Bool} (h : BlRow w a L) (o : Obj) : BlRow (w.alloc o) a L := h.quiet ((Keeps.refl _ w).alloc o)
def encB (x : Bool) : Value := .bool x
theorem ownsRow_bools {w : World} {base : Nat} {e : TypeId} {v : Value} {n : Nat} {L : List Bool} (h : w.ownsRow base e 1 v n (L.map encB)) : ∃ a c, v = .slice a n c ∧ n = L.length ∧ n ≤ c ∧ c ≤ maxLen ∧ BlRow w a L ∧ ∀ x, a = some x → base ≤ x.block ∧ x.block < w.heap.size := by
  obtain ⟨a, c, hv, _, hc, hcm, hab, hx⟩ := ownsRow_open h (by omega)
  have hn : n = L.length := by
    have := h.1
    rw [List.length_map] at this
    omega
  refine ⟨a, c, hv, hn, hc, hcm, fun k x hk => ?_, fun x hx' => ?_⟩
  · obtain ⟨g, off, ha, hl, _, c0⟩ := hx k (encB x) (by rw [List.getElem?_map, hk]; rfl)
    exact ⟨g, off, ha, hl, c0⟩
  · have := h.lt _ (hab x hx').2
    exact ⟨this.1, this.2⟩
theorem ownsRow_set {w : World} {base : Nat} {e : TypeId} {g n c : Nat} {xs : List Value} (h : w.ownsRow base e 1 (.slice (some ⟨g, 0, none⟩) n c) n xs) (i : Nat) (u : Value) :
    (w.setCell ⟨g, i, none⟩ u).ownsRow base e 1 (.slice (some ⟨g, 0, none⟩) n c) n (xs.set i u) := by
  rcases h.2 with ⟨hv, _⟩ | ⟨g', cap, cur, hv, hb, hg, hn, hm, hz, ht⟩
  · cases hv
  · simp only [Value.slice.injEq, Option.some.injEq, Addr.mk.injEq, and_true, true_and] at hv
    obtain ⟨rfl, rfl⟩ := hv
    refine ⟨by rw [List.length_set]; exact h.1, .inr ⟨g, c, cur.setIfInBounds i u, rfl, hb, ?_, hn, hm, by simpa using hz, ?_⟩⟩
    · simp [World.setCell, Array.getElem?_modify, hg]
    · rw [Array.toList_setIfInBounds, List.take_set, ht]
theorem ownsRow_frozen {w : World} {base : Nat} {e : TypeId} {g n c : Nat} {xs : List Value} (h : w.ownsRow base e 1 (.slice (some ⟨g, 0, none⟩) n c) n xs) (i : Nat) : w.frozen? ⟨g, i, none⟩ = false := by
  rcases h.2 with ⟨hv, _⟩ | ⟨g', cap, cur, hv, hb, hg, hn, hm, hz, ht⟩
  · cases hv
  · simp only [Value.slice.injEq, Option.some.injEq, Addr.mk.injEq, and_true, true_and] at hv
    obtain ⟨rfl, rfl⟩ := hv
    simp [World.frozen?, hg]
theorem ownsRow_cell {w : World} {base : Nat} {e : TypeId} {g n c : Nat} {xs : List Value} (h : w.ownsRow base e 1 (.slice (some ⟨g, 0, none⟩) n c) n xs) {i : Nat} {u : Value} (hu : xs[i]? = some u) : w.cell? ⟨g, i, none⟩ = some u := by
  have := h.cells (g := g) (by simp [Value.ownBlock]) i u hu
  have e1 : (⟨g, 0, none⟩ : Addr).add i = ⟨g, i, none⟩ := by
    unfold Addr.add
    by_cases hi : i = 0
    · subst hi; simp
    · simp [hi]
  rw [e1] at this
  exact this
def isB (b x : Bool) : Bool := b == x
set_option maxRecDepth 100000 in
set_option maxHeartbeats 1000000 in
theorem blIndex_any (a : Option Addr) (cap : Nat) (L : List Bool) (b : Bool) (w : World) (hL : BlRow w a L) (hm : L.length ≤ maxLen) :
    Calls Try.prog 43 #[.slice a L.length cap, .bool b] w (Says w (.int .i64 (fAt (isB b) L))) := by
  unfold maxLen at hm
  have HL := Kept.mk hL
  clear hL
  go_enter Try.func43, Try.ntmps43
  go_wp2
  go_loop [8] (fun i => ∃ j : Nat, j ≤ L.length ∧ i = .int .i64 j ∧ Kept (fAt (isB b) L = up j (fAt (isB b) (L.drop j)))) (fun i => L.length - (intOf i).toNat)
  case atStart => exact ⟨0, Nat.zero_le _, rfl, ⟨by rw [List.drop_zero]; exact fAt_zero _ _⟩⟩
  case round =>
    obtain ⟨j, hj, rfl, hf⟩ := hrel
    by_cases hlt : j < L.length
    · obtain ⟨x, hx⟩ : ∃ x, L[j]? = some x := ⟨_, List.getElem?_eq_getElem hlt⟩
      have hd : Kept (L.drop j = x :: L.drop (j + 1)) := ⟨by rw [List.drop_eq_getElem_cons hlt]; rw [List.getElem?_eq_getElem hlt] at hx; simp only [Option.some.injEq] at hx; rw [hx]⟩
      obtain ⟨g, off, rfl, hl, c0⟩ := HL.out j x hx
      clear hx
      cases e : isB b x with
      | true =>
        have He := Kept.mk e
        have e1 : (b == x) = true := e
        clear e
        go_wp2_with fail
        go_ret
        exact ⟨by rw [hf.out, hd.out, fAt_yes _ He.out]; rfl, rfl⟩
      | false =>
        have He := Kept.mk e
        have e1 : (b == x) = false := e
        clear e
        go_wp2_with fail
        go_round
        case rel => exact ⟨j + 1, by omega, by go_num, ⟨by rw [hf.out, hd.out]; exact fAt_up _ He.out⟩⟩
        case measure => simp [intOf]; omega
    · go_wp2_with fail
      go_ret
      exact ⟨by rw [hf.out, List.drop_of_length_le (by omega)]; simp [fAt, up], rfl⟩
theorem any_at {α : Type} (p : α → Bool) (L : List α) : L.any p = decide (0 ≤ fAt p L) := by
  cases e : L.any p with
  | false =>
    have hn := any_false e
    have : fAt p L = -1 := by
      have := fAt_app (b := []) hn
      rw [List.append_nil] at this
      rw [this]; simp [fAt, up]
    rw [this]; rfl
  | true =>
    obtain ⟨x, hx, hp⟩ := List.any_eq_true.1 e
    rcases Int.lt_or_le (fAt p L) 0 with h | h
    · have := fAt_none h x hx
      rw [this] at hp; cases hp
    · simpa using h
def hasB (L : List Bool) (b : Bool) : Bool := L.any (isB b)
theorem blContains_to (a : Option Addr) (cap n : Nat) (L : List Bool) (b r : Bool) (w : World) (hL : BlRow w a L) (hn : L.length = n) (hm : n ≤ maxLen) (hr : hasB L b = r) :
    Calls Try.prog 32 #[.slice a n cap, .bool b] w (Says w (.bool r)) := by
  subst hr; subst hn
  obtain ⟨q, hq⟩ : ∃ q, Kept (fAt (isB b) L = q) := ⟨_, ⟨rfl⟩⟩
  have he : Kept (hasB L b = decide (0 ≤ q)) := ⟨by unfold hasB; rw [any_at, hq.out]⟩
  rw [he.out]
  have HL := Kept.mk hL
  have HM := Kept.mk hm
  clear hL hm
  go_enter Try.func32, Try.ntmps32
  go_wp2_with fail
  refine (blIndex_any a cap L b _ HL.out HM.out).mono ?_
  rintro e w1 ⟨rfl, rfl⟩
  rw [hq.out]
  go_wp2_with fail
  go_ret
  exact ⟨rfl, rfl⟩
/-- Those that are so are the first ones. -/
def firstB : List Bool → Bool
  | [] => true
  | [_] => true
  | x :: y :: r => !(y && !x) && firstB (y :: r)
theorem firstB_iff : ∀ (L : List Bool), firstB L = true ↔ ∀ k x y, L[k]? = some x → L[k + 1]? = some y → (y && !x) = false
  | [] => by simp [firstB]
  | [a] => by simp [firstB]
  | a :: b :: r => by
    simp only [firstB, Bool.and_eq_true, Bool.not_eq_true']
    rw [firstB_iff (b :: r)]
    constructor
    · rintro ⟨h1, h2⟩ k x y hx hy
      match k, hx, hy with
      | 0, hx, hy => simp at hx hy; subst hx; subst hy; exact h1
      | k + 1, hx, hy => exact h2 k x y (by simpa using hx) (by simpa using hy)
    · intro h
      exact ⟨h 0 a b rfl rfl, fun k x y hx hy => h (k + 1) x y (by simpa using hx) (by simpa using hy)⟩
def lastB (L : List Bool) : Bool := firstB L.reverse
set_option maxRecDepth 100000 in
set_option maxHeartbeats 1000000 in
theorem first_to (a : Option Addr) (cap n : Nat) (L : List Bool) (r : Bool) (w : World) (hL : BlRow w a L) (hn : L.length = n) (hm : n ≤ maxLen) (hr : firstB L = r) :
    Calls Try.prog 33 #[.slice a n cap] w (Says w (.bool r)) := by
  subst hr; subst hn
  unfold maxLen at hm
  have HL := Kept.mk hL
  clear hL
  go_enter Try.func33, Try.ntmps33
  go_wp2
  go_loop [6] (fun i => ∃ j : Nat, j ≤ L.length ∧ i = .int .i64 j ∧ Kept (∀ k x y, k + 1 < j → L[k]? = some x → L[k + 1]? = some y → (y && !x) = false)) (fun i => L.length - (intOf i).toNat)
  case atStart => exact ⟨0, Nat.zero_le _, rfl, ⟨fun k x y h => by omega⟩⟩
  case round =>
    obtain ⟨j, hj, rfl, hf⟩ := hrel
    by_cases hlt : j < L.length
    · obtain ⟨y, hy⟩ : ∃ y, L[j]? = some y := ⟨_, List.getElem?_eq_getElem hlt⟩
      obtain ⟨g, off, rfl, hl, c0⟩ := HL.out j y hy
      have Hy := Kept.mk hy
      clear hy
      by_cases h0 : j = 0
      · subst h0
        go_wp2_with fail
        go_round
        case rel => exact ⟨1, by omega, by go_num, ⟨fun k x y h => by omega⟩⟩
        case measure => simp [intOf]; omega
      · obtain ⟨m, rfl⟩ : ∃ m, j = m + 1 := ⟨j - 1, by omega⟩
        obtain ⟨x, hx⟩ : ∃ x, L[m]? = some x := ⟨_, List.getElem?_eq_getElem (by omega)⟩
        obtain ⟨g', off', e4, _, c1⟩ := HL.out m x hx
        simp only [Option.some.injEq, Addr.mk.injEq, and_true] at e4
        obtain ⟨rfl, rfl⟩ := e4
        have Hx := Kept.mk hx
        have em : ((m + 1 : Nat) : Int) - 1 = (m : Int) := by omega
        have hp : (0 : Int) < ((m + 1 : Nat) : Int) := by omega
        have hml : (m : Int) < L.length := by omega
        clear hx
        cases y with
        | false =>
          go_wp2_with fail
          go_round
          case rel =>
            refine ⟨m + 2, by omega, by go_num, ⟨fun k x' y' h hx' hy' => ?_⟩⟩
            by_cases hk : k + 1 < m + 1
            · exact hf.out k x' y' hk hx' hy'
            · obtain rfl : k = m := by omega
              rw [Hy.out] at hy'
              simp only [Option.some.injEq] at hy'
              subst hy'; rfl
          case measure => simp [intOf]; omega
        | true =>
          cases x with
          | true =>
            go_wp2_with fail
            go_round
            case rel =>
              refine ⟨m + 2, by omega, by go_num, ⟨fun k x' y' h hx' hy' => ?_⟩⟩
              by_cases hk : k + 1 < m + 1
              · exact hf.out k x' y' hk hx' hy'
              · obtain rfl : k = m := by omega
                rw [Hx.out] at hx'
                simp only [Option.some.injEq] at hx'
                subst hx'; simp
            case measure => simp [intOf]; omega
          | false =>
            have hb : Kept (firstB L = false) := ⟨by
              cases e : firstB L with
              | false => rfl
              | true => have := (firstB_iff L).1 e m false true Hx.out Hy.out; simp at this⟩
            go_wp2_with fail
            go_ret
            exact ⟨by rw [hb.out]; rfl, rfl⟩
    · have hb : Kept (firstB L = true) := ⟨(firstB_iff L).2 fun k x y hx hy => hf.out k x y (by have := (List.getElem?_eq_some_iff.1 hy).1; omega) hx hy⟩
      go_wp2_with fail
      go_ret
      exact ⟨by rw [hb.out]; rfl, rfl⟩
end Go.Proofs.Ytfcnegnkmacajaa
