/- Package stock's book, walked: New, Reserve, Commit, Release, OnHand, Free and Has answer as the plain 'Sk' does, and turn their own two blocks alone. No condition but that a book lies there whose numbers are in range. -/
import Derived.Test.YtofabbigngmboaaSub
import Derived.Test.YtofabbigngmboaaMap
namespace Go.Proofs.Ytofabbigngmboaa
open Go.RowKit

/-! ### plain -/
def upd (f : Nat → Int) (k : Nat) (v : Int) : Nat → Int := fun i => if i = k then v else f i
theorem upd_same (f : Nat → Int) (k : Nat) (v : Int) : upd f k v k = v := by simp [upd]
theorem upd_other {f : Nat → Int} {k i : Nat} (v : Int) (h : i ≠ k) : upd f k v i = f i := by simp [upd, h]
/-- How much of item i is reserved. -/
def resv : List (Int × (Nat × Int)) → Nat → Int
  | [], _ => 0
  | (_, (j, q)) :: r, i => (if j = i then q else 0) + resv r i
theorem mem_of_get {α : Type} {L : List (Int × α)} {x : Int} {v : α} (h : MP.get L x = some v) : (x, v) ∈ L := by
  induction L with
  | nil => simp [MP.get_nil] at h
  | cons p r ih =>
    obtain ⟨y, a⟩ := p
    rw [MP.get_cons] at h
    by_cases hx : x = y
    · rw [if_pos hx] at h
      simp only [Option.some.injEq] at h
      subst h; subst hx
      exact List.mem_cons_self ..
    · rw [if_neg hx] at h
      exact List.mem_cons_of_mem _ (ih h)
theorem mem_put {α : Type} {L : List (Int × α)} {x : Int} {v : α} {p : Int × α} (h : p ∈ MP.put L x v) : p = (x, v) ∨ p ∈ L := by
  induction L with
  | nil => simp [MP.put] at h; exact .inl h
  | cons q r ih =>
    obtain ⟨y, a⟩ := q
    simp only [MP.put] at h
    by_cases hx : x = y
    · rw [if_pos hx] at h
      rcases List.mem_cons.1 h with h | h
      · exact .inl h
      · exact .inr (List.mem_cons_of_mem _ h)
    · rw [if_neg hx] at h
      rcases List.mem_cons.1 h with h | h
      · exact .inr (h ▸ List.mem_cons_self ..)
      · rcases ih h with h | h
        · exact .inl h
        · exact .inr (List.mem_cons_of_mem _ h)
theorem resv_put {L : List (Int × (Nat × Int))} {x : Int} {j : Nat} {q : Int} (h : MP.get L x = none) (i : Nat) : resv (MP.put L x (j, q)) i = resv L i + (if j = i then q else 0) := by
  induction L with
  | nil => simp [MP.put, resv]
  | cons p r ih =>
    obtain ⟨y, a, b⟩ := p
    rw [MP.get_cons] at h
    by_cases hx : x = y
    · rw [if_pos hx] at h; cases h
    · rw [if_neg hx] at h
      simp only [MP.put]
      rw [if_neg hx]
      simp only [resv]
      rw [ih h]
      omega
theorem resv_del {L : List (Int × (Nat × Int))} {x : Int} {j : Nat} {q : Int} (h : MP.get L x = some (j, q)) (i : Nat) : resv (MP.del L x) i = resv L i - (if j = i then q else 0) := by
  induction L with
  | nil => simp [MP.get_nil] at h
  | cons p r ih =>
    obtain ⟨y, a, b⟩ := p
    rw [MP.get_cons] at h
    simp only [MP.del]
    by_cases hx : x = y
    · rw [if_pos hx] at h
      simp only [Option.some.injEq, Prod.mk.injEq] at h
      obtain ⟨rfl, rfl⟩ := h
      rw [if_pos hx]
      simp only [resv]
      omega
    · rw [if_neg hx] at h
      rw [if_neg hx]
      simp only [resv]
      rw [ih h]
      omega
theorem resv_nonneg {L : List (Int × (Nat × Int))} (h : ∀ p ∈ L, 0 ≤ p.2.2) (i : Nat) : 0 ≤ resv L i := by
  induction L with
  | nil => exact Int.le_refl _
  | cons p r ih =>
    obtain ⟨y, a, b⟩ := p
    have h1 := h (y, a, b) (List.mem_cons_self ..)
    have h2 := ih (fun p hp => h p (List.mem_cons_of_mem _ hp))
    simp only [resv]
    simp only at h1
    split <;> omega
theorem le_resv {L : List (Int × (Nat × Int))} (h : ∀ p ∈ L, 0 ≤ p.2.2) {x : Int} {j : Nat} {q : Int} (hm : (x, (j, q)) ∈ L) : q ≤ resv L j := by
  induction L with
  | nil => simp at hm
  | cons p r ih =>
    obtain ⟨y, a, b⟩ := p
    have h1 := h (y, a, b) (List.mem_cons_self ..)
    have h2 := resv_nonneg (fun p hp => h p (List.mem_cons_of_mem _ hp)) j
    simp only at h1
    simp only [resv]
    rcases List.mem_cons.1 hm with e | e
    · simp only [Prod.mk.injEq] at e
      obtain ⟨_, rfl, rfl⟩ := e
      rw [if_pos rfl]
      omega
    · have := ih (fun p hp => h p (List.mem_cons_of_mem _ hp)) e
      split <;> omega

/-- A book of goods. -/
structure Sk where
  hand : Nat → Int
  free : Nat → Int
  L : List (Int × (Nat × Int))
structure Sk.Ok (s : Sk) : Prop where
  f0 : ∀ i, i < 8 → 0 ≤ s.free i
  sum : ∀ i, i < 8 → s.hand i = s.free i + resv s.L i
  h1 : ∀ i, i < 8 → s.hand i ≤ 1000000000
  vals : ∀ p ∈ s.L, p.2.1 < 8 ∧ 1 ≤ p.2.2 ∧ p.2.2 ≤ 1000000000
  nodup : (MP.keys s.L).Nodup
theorem Sk.Ok.hand0 {s : Sk} (h : s.Ok) {i : Nat} (hi : i < 8) : 0 ≤ s.hand i ∧ s.free i ≤ s.hand i := by
  have h1 := h.f0 i hi
  have h2 := h.sum i hi
  have h3 := resv_nonneg (L := s.L) (fun p hp => by have := h.vals p hp; omega) i
  omega
def Sk.argOk (id i q : Int) : Bool := decide (1 ≤ id) && decide (id ≤ 999) && (decide (0 ≤ i) && decide (i < 8)) && !(q == 0) && mayB q
theorem Sk.argOk_iff (id i q : Int) : Sk.argOk id i q = true ↔ 1 ≤ id ∧ id ≤ 999 ∧ 0 ≤ i ∧ i < 8 ∧ q ≠ 0 ∧ 0 ≤ q ∧ q ≤ 1000000000 := by
  simp [Sk.argOk, mayB]
  omega
def Sk.reserve (s : Sk) (id i q : Int) : Int × Sk :=
  if Sk.argOk id i q then (if (MP.get s.L id).isSome then (8, s) else if s.free i.toNat < q then (9, s) else (0, ⟨s.hand, upd s.free i.toNat (s.free i.toNat - q), MP.put s.L id (i.toNat, q)⟩)) else (1, s)
def Sk.commit (s : Sk) (id : Int) : Int × Sk :=
  match MP.get s.L id with
  | none => (6, s)
  | some (j, q) => (0, ⟨upd s.hand j (s.hand j - q), s.free, MP.del s.L id⟩)
def Sk.release (s : Sk) (id : Int) : Int × Sk :=
  match MP.get s.L id with
  | none => (6, s)
  | some (j, q) => (0, ⟨s.hand, upd s.free j (s.free j + q), MP.del s.L id⟩)
theorem Sk.reserve_ok {s : Sk} (h : s.Ok) (id i q : Int) : (s.reserve id i q).2.Ok := by
  unfold Sk.reserve
  cases ha : Sk.argOk id i q with
  | false => simp only [Bool.false_eq_true, if_false]; exact h
  | true =>
    obtain ⟨h1, h2, h3, h4, h5, h6, h7⟩ := (Sk.argOk_iff id i q).1 ha
    simp only [if_true]
    cases hg : MP.get s.L id with
    | some v => simp only [Option.isSome_some, if_true]; exact h
    | none =>
      simp only [Option.isSome_none, Bool.false_eq_true, if_false]
      by_cases hf : s.free i.toNat < q
      · rw [if_pos hf]; exact h
      · rw [if_neg hf]
        refine ⟨fun k hk => ?_, fun k hk => ?_, h.h1, fun p hp => ?_, MP.nodup_put h.nodup⟩
        · simp only [upd]
          have := h.f0 k hk
          split
          · omega
          · exact this
        · simp only [upd]
          rw [resv_put hg]
          have := h.sum k hk
          by_cases hki : k = i.toNat
          · subst hki; rw [if_pos rfl, if_pos rfl]; omega
          · rw [if_neg hki, if_neg (fun e => hki e.symm)]; omega
        · rcases mem_put hp with rfl | hp
          · exact ⟨by simp only; omega, by simp only; omega, by simp only; omega⟩
          · exact h.vals p hp
theorem Sk.commit_ok {s : Sk} (h : s.Ok) (id : Int) : (s.commit id).2.Ok := by
  unfold Sk.commit
  cases hg : MP.get s.L id with
  | none => exact h
  | some v =>
    obtain ⟨j, q⟩ := v
    have hm := mem_of_get hg
    have hv := h.vals _ hm
    refine ⟨h.f0, fun k hk => ?_, fun k hk => ?_, fun p hp => h.vals p ((MP.del_sublist _ _).subset hp), MP.nodup_del h.nodup⟩
    · simp only [upd]
      rw [resv_del hg]
      have := h.sum k hk
      by_cases hki : k = j
      · subst hki; rw [if_pos rfl, if_pos rfl]; omega
      · rw [if_neg hki, if_neg (fun e => hki e.symm)]; omega
    · simp only [upd]
      have := h.h1 k hk
      simp only at hv
      split
      · rename_i e; subst e; omega
      · exact this
theorem Sk.release_ok {s : Sk} (h : s.Ok) (id : Int) : (s.release id).2.Ok := by
  unfold Sk.release
  cases hg : MP.get s.L id with
  | none => exact h
  | some v =>
    obtain ⟨j, q⟩ := v
    have hm := mem_of_get hg
    have hv := h.vals _ hm
    simp only at hv
    refine ⟨fun k hk => ?_, fun k hk => ?_, h.h1, fun p hp => h.vals p ((MP.del_sublist _ _).subset hp), MP.nodup_del h.nodup⟩
    · simp only [upd]
      have := h.f0 k hk
      split
      · rename_i e; subst e; omega
      · exact this
    · simp only [upd]
      rw [resv_del hg]
      have := h.sum k hk
      by_cases hki : k = j
      · subst hki; rw [if_pos rfl, if_pos rfl]; omega
      · rw [if_neg hki, if_neg (fun e => hki e.symm)]; omega

/-! ### in memory -/
def encRes (p : Nat × Int) : Value := .agg #[.int .i64 p.1, .int .i64 p.2]
def skCells (s : Sk) (m : Nat) : List Value :=
  [.int .i64 (s.hand 0), .int .i64 (s.hand 1), .int .i64 (s.hand 2), .int .i64 (s.hand 3), .int .i64 (s.hand 4), .int .i64 (s.hand 5), .int .i64 (s.hand 6), .int .i64 (s.hand 7),
   .int .i64 (s.free 0), .int .i64 (s.free 1), .int .i64 (s.free 2), .int .i64 (s.free 3), .int .i64 (s.free 4), .int .i64 (s.free 5), .int .i64 (s.free 6), .int .i64 (s.free 7), .map (some m)]
theorem skCells_hand (s : Sk) (m : Nat) {k : Nat} (h : k < 8) : (skCells s m)[k]? = some (.int .i64 (s.hand k)) := by
  match k, h with
  | 0, _ => rfl | 1, _ => rfl | 2, _ => rfl | 3, _ => rfl | 4, _ => rfl | 5, _ => rfl | 6, _ => rfl | 7, _ => rfl
theorem skCells_free (s : Sk) (m : Nat) {k : Nat} (h : k < 8) : (skCells s m)[8 + k]? = some (.int .i64 (s.free k)) := by
  match k, h with
  | 0, _ => rfl | 1, _ => rfl | 2, _ => rfl | 3, _ => rfl | 4, _ => rfl | 5, _ => rfl | 6, _ => rfl | 7, _ => rfl
theorem skCells_setHand (s : Sk) (m : Nat) {k : Nat} (h : k < 8) (v : Int) : (skCells s m).set k (.int .i64 v) = skCells ⟨upd s.hand k v, s.free, s.L⟩ m := by
  match k, h with
  | 0, _ => rfl | 1, _ => rfl | 2, _ => rfl | 3, _ => rfl | 4, _ => rfl | 5, _ => rfl | 6, _ => rfl | 7, _ => rfl
theorem skCells_setFree (s : Sk) (m : Nat) {k : Nat} (h : k < 8) (v : Int) : (skCells s m).set (8 + k) (.int .i64 v) = skCells ⟨s.hand, upd s.free k v, s.L⟩ m := by
  match k, h with
  | 0, _ => rfl | 1, _ => rfl | 2, _ => rfl | 3, _ => rfl | 4, _ => rfl | 5, _ => rfl | 6, _ => rfl | 7, _ => rfl
structure SkAt (w : World) (p m : Nat) (s : Sk) : Prop where
  cells : Blk w p 84 (skCells s m)
  map : MapAt encRes w m s.L
  ne : m ≠ p
theorem SkAt.keeps {w w' : World} {p m : Nat} {s : Sk} (h : SkAt w p m s) {S : Nat → Prop} (k : Keeps S w w') (hp : ¬ S p) (hm : ¬ S m) : SkAt w' p m s := ⟨h.cells.keeps k hp, h.map.keeps k hm, h.ne⟩
theorem SkAt.drewN {w : World} {p m : Nat} {s : Sk} (h : SkAt w p m s) (n : Nat) : SkAt (w.drewN n) p m s := ⟨h.cells.drewN n, h.map.drewN n, h.ne⟩
theorem SkAt.alloc {w : World} {p m : Nat} {s : Sk} (h : SkAt w p m s) (o : Obj) : SkAt (w.alloc o) p m s := ⟨h.cells.alloc o, h.map.alloc o, h.ne⟩
theorem zeroRes (w : World) : (zeroValue 86).run Try.prog w = .ok (encRes (0, 0)) w := by kernel_rfl
theorem lookRes {w : World} {m : Nat} {L : List (Int × (Nat × Int))} (h : MapAt encRes w m L) (x : Int) : (Instr.lookup 82 (.map (some m)) (.int .i64 x) true).run Try.prog w = .ok (.tuple #[encRes ((MP.get L x).getD (0, 0)), .bool (MP.get L x).isSome]) w := by
  have := h.look (P := Try.prog) Try.underlying82 Try.underlying3 (zeroRes w) x true
  rw [this]
  cases MP.get L x <;> rfl
def itemB (i : Int) : Bool := decide (0 ≤ i) && decide (i < 8)
theorem item_any (i : Int) (w : World) : Calls Try.prog 46 #[.int .i64 i] w (Says w (.bool (itemB i))) := by
  by_cases h0 : 0 ≤ i
  · have e : Kept (itemB i = decide (i < 8)) := ⟨by simp [itemB, h0]⟩
    go_enter Try.func46, Try.ntmps46
    go_wp2
    go_ret
    exact ⟨by rw [e.out]; rfl, rfl⟩
  · have e : Kept (itemB i = false) := ⟨by simp [itemB, h0]⟩
    go_enter Try.func46, Try.ntmps46
    go_wp2
    go_ret
    exact ⟨by rw [e.out]; rfl, rfl⟩
theorem item_to (i : Int) (r : Bool) (w : World) (h : itemB i = r) : Calls Try.prog 46 #[.int .i64 i] w (Says w (.bool r)) := by
  subst h; exact item_any i w
def Sk.onHand (s : Sk) (i : Int) : Int := if itemB i then s.hand i.toNat else 0
def Sk.freeOf (s : Sk) (i : Int) : Int := if itemB i then s.free i.toNat else 0
theorem onHand_nil (i : Int) (w : World) : Calls Try.prog 32 #[.pointer none, .int .i64 i] w (Says w (.int .i64 0)) := by
  go_enter Try.func32, Try.ntmps32
  go_wp2
  go_ret
  exact ⟨rfl, rfl⟩
theorem free_nil (i : Int) (w : World) : Calls Try.prog 29 #[.pointer none, .int .i64 i] w (Says w (.int .i64 0)) := by
  go_enter Try.func29, Try.ntmps29
  go_wp2
  go_ret
  exact ⟨rfl, rfl⟩
theorem onHand_any (p m : Nat) (s : Sk) (i : Int) (w : World) (h : SkAt w p m s) : Calls Try.prog 32 #[.pointer (some ⟨p, 0, none⟩), .int .i64 i] w (Says w (.int .i64 (s.onHand i))) := by
  cases hi : itemB i with
  | false =>
    have e : Kept (s.onHand i = 0) := ⟨by simp [Sk.onHand, hi]⟩
    have Hi := Kept.mk hi
    clear hi
    go_enter Try.func32, Try.ntmps32
    go_wp2_with fail
    refine (item_to _ _ _ Hi.out).mono ?_
    rintro e _ ⟨rfl, rfl⟩
    go_wp2_with fail
    go_ret
    exact ⟨by rw [e.out]; rfl, rfl⟩
  | true =>
    have e : Kept (s.onHand i = s.hand i.toNat) := ⟨by simp [Sk.onHand, hi]⟩
    have Hi := Kept.mk hi
    obtain ⟨i0, i8⟩ : 0 ≤ i ∧ i < 8 := by simpa [itemB] using hi
    have c := h.cells.cell _ (skCells_hand s m (k := i.toNat) (by omega))
    clear hi
    go_enter Try.func32, Try.ntmps32
    go_wp2_with fail
    refine (item_to _ _ _ Hi.out).mono ?_
    rintro e _ ⟨rfl, rfl⟩
    go_wp2_with fail
    go_ret
    exact ⟨by rw [e.out]; rfl, rfl⟩
theorem free_any (p m : Nat) (s : Sk) (i : Int) (w : World) (h : SkAt w p m s) : Calls Try.prog 29 #[.pointer (some ⟨p, 0, none⟩), .int .i64 i] w (Says w (.int .i64 (s.freeOf i))) := by
  cases hi : itemB i with
  | false =>
    have e : Kept (s.freeOf i = 0) := ⟨by simp [Sk.freeOf, hi]⟩
    have Hi := Kept.mk hi
    clear hi
    go_enter Try.func29, Try.ntmps29
    go_wp2_with fail
    refine (item_to _ _ _ Hi.out).mono ?_
    rintro e _ ⟨rfl, rfl⟩
    go_wp2_with fail
    go_ret
    exact ⟨by rw [e.out]; rfl, rfl⟩
  | true =>
    have e : Kept (s.freeOf i = s.free i.toNat) := ⟨by simp [Sk.freeOf, hi]⟩
    have Hi := Kept.mk hi
    obtain ⟨i0, i8⟩ : 0 ≤ i ∧ i < 8 := by simpa [itemB] using hi
    have c := h.cells.cell _ (skCells_free s m (k := i.toNat) (by omega))
    clear hi
    go_enter Try.func29, Try.ntmps29
    go_wp2_with fail
    refine (item_to _ _ _ Hi.out).mono ?_
    rintro e _ ⟨rfl, rfl⟩
    go_wp2_with fail
    go_ret
    exact ⟨by rw [e.out]; rfl, rfl⟩
end Go.Proofs.Ytofabbigngmboaa
