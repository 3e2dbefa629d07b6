/- The page's book of goods, walked. -/
import Derived.Test.YtofabbigngmboaaStockLaws
import Derived.Test.YtofabbigngmboaaRange
namespace Go.Proofs.Ytofabbigngmboaa
open Go.RowKit
/-! ### numbers -/
def inB (lo hi x : Int) : Bool := decide (lo ≤ x) && decide (x ≤ hi)
theorem inB_iff (lo hi x : Int) : inB lo hi x = true ↔ lo ≤ x ∧ x ≤ hi := by simp [inB]
theorem rid_to (x : Int) (r : Bool) (w : World) (hr : inB 1 999 x = r) : Calls Try.prog 44 #[.int .i64 x] w (Says w (.bool r)) := by
  subst hr
  by_cases h0 : 1 ≤ x
  · have e : Kept (inB 1 999 x = decide (x ≤ 999)) := ⟨by simp [inB, h0]⟩
    go_enter Try.func44, Try.ntmps44
    go_wp2
    go_ret
    exact ⟨by rw [e.out]; rfl, rfl⟩
  · have e : Kept (inB 1 999 x = false) := ⟨by simp [inB, h0]⟩
    go_enter Try.func44, Try.ntmps44
    go_wp2
    go_ret
    exact ⟨by rw [e.out]; rfl, rfl⟩
theorem rplace_to (x : Int) (r : Bool) (w : World) (hr : inB 0 7 x = r) : Calls Try.prog 49 #[.int .i64 x] w (Says w (.bool r)) := by
  subst hr
  by_cases h0 : 0 ≤ x
  · have e : Kept (inB 0 7 x = decide (x < 8)) := ⟨by simp [inB, h0]; omega⟩
    go_enter Try.func49, Try.ntmps49
    go_wp2
    go_ret
    exact ⟨by rw [e.out]; rfl, rfl⟩
  · have e : Kept (inB 0 7 x = false) := ⟨by simp [inB, h0]⟩
    go_enter Try.func49, Try.ntmps49
    go_wp2
    go_ret
    exact ⟨by rw [e.out]; rfl, rfl⟩
theorem rabove_to (x : Int) (r : Bool) (w : World) (hr : inB 1 1000000000 x = r) : Calls Try.prog 45 #[.int .i64 x] w (Says w (.bool r)) := by
  subst hr
  by_cases h0 : 1 ≤ x
  · have e : Kept (inB 1 1000000000 x = decide (x ≤ 1000000000)) := ⟨by simp [inB, h0]⟩
    go_enter Try.func45, Try.ntmps45
    go_wp2
    go_ret
    exact ⟨by rw [e.out]; rfl, rfl⟩
  · have e : Kept (inB 1 1000000000 x = false) := ⟨by simp [inB, h0]⟩
    go_enter Try.func45, Try.ntmps45
    go_wp2
    go_ret
    exact ⟨by rw [e.out]; rfl, rfl⟩
/-! ### in memory -/
def rsCells (s : Sk) (m : Nat) : List Value :=
  [.int .i64 (s.hand 0), .int .i64 (s.hand 1), .int .i64 (s.hand 2), .int .i64 (s.hand 3), .int .i64 (s.hand 4), .int .i64 (s.hand 5), .int .i64 (s.hand 6), .int .i64 (s.hand 7), .map (some m)]
theorem rsCells_hand (s : Sk) (m : Nat) {k : Nat} (h : k < 8) : (rsCells s m)[k]? = some (.int .i64 (s.hand k)) := by
  match k, h with
  | 0, _ => rfl | 1, _ => rfl | 2, _ => rfl | 3, _ => rfl | 4, _ => rfl | 5, _ => rfl | 6, _ => rfl | 7, _ => rfl
theorem rsCells_set (s : Sk) (m : Nat) {k : Nat} (h : k < 8) (v : Int) : (rsCells s m).set k (.int .i64 v) = rsCells ⟨upd s.hand k v, s.free, s.L⟩ m := by
  match k, h with
  | 0, _ => rfl | 1, _ => rfl | 2, _ => rfl | 3, _ => rfl | 4, _ => rfl | 5, _ => rfl | 6, _ => rfl | 7, _ => rfl
/-- The page's book: what is there, and the claims. -/
structure RSk (w : World) (p m : Nat) (s : Sk) : Prop where
  cells : Blk w p 69 (rsCells s m)
  map : MapAt encRes w m s.L
  ne : m ≠ p
theorem RSk.keeps {w w' : World} {p m : Nat} {s : Sk} (h : RSk w p m s) {S : Nat → Prop} (k : Keeps S w w') (hp : ¬ S p) (hm : ¬ S m) : RSk w' p m s := ⟨h.cells.keeps k hp, h.map.keeps k hm, h.ne⟩
theorem RSk.quiet {w w' : World} {p m : Nat} {s : Sk} (h : RSk w p m s) (k : Keeps (fun _ => False) w w') : RSk w' p m s := h.keeps k (fun h => h) (fun h => h)
theorem zeroClaim (w : World) : (zeroValue 65).run Try.prog w = .ok (encRes (0, 0)) w := by kernel_rfl
theorem lookClaim {w : World} {m : Nat} {L : List (Int × (Nat × Int))} (h : MapAt encRes w m L) (x : Int) : (Instr.lookup 67 (.map (some m)) (.int .i64 x) false).run Try.prog w = .ok (encRes ((MP.get L x).getD (0, 0))) w := by
  have := h.look (P := Try.prog) Try.underlying67 Try.underlying3 (zeroClaim w) x false
  rw [this]
  cases MP.get L x <;> rfl
theorem resv_mid {p q : List (Int × (Nat × Int))} {y : Int} {j : Nat} {v : Int} (k : Nat) : resv (p ++ (y, (j, v)) :: q) k = (if j = k then v else 0) + resv (p ++ q) k := by
  induction p with
  | nil => simp [resv]
  | cons a r ih =>
    obtain ⟨a1, a2, a3⟩ := a
    simp only [List.cons_append, resv, ih]
    omega
set_option linter.unusedSimpArgs false in
set_option maxRecDepth 100000 in
set_option maxHeartbeats 1000000 in
theorem rsfree_in (p m : Nat) (s : Sk) (i x : Int) (k : Nat) (w : World) (h : RSk w p m s) (ok : s.Ok) (hi : i = k) (hk : k < 8) (hx : s.free k = x) : Calls Try.prog 39 #[.pointer (some ⟨p, 0, none⟩), .int .i64 i] w
    (Rets w (fun _ => False) (.int .i64 x) fun w' => RSk w' p m s) := by
  subst hi
  have x0 := ok.f0 k hk
  have x1 := ok.h1 k hk
  have x2 := ok.sum k hk
  rw [hx] at x0 x2
  have HX := Kept.mk hx
  have Hin : Kept (inB 0 7 (k : Int) = true) := ⟨(inB_iff _ _ _).2 (by omega)⟩
  clear hx
  have c8 := h.cells.cell 8 rfl
  have ck := h.cells.cell k (rsCells_hand s m hk)
  have hki : (k : Int) < 8 := by omega
  have hlt := h.map.lt
  obtain ⟨o, hrg, hR⟩ := h.map.range (P := Try.prog) Try.underlying67
  have HR := Kept.mk hR
  have H := Kept.mk h
  generalize s.hand k = y at x1 x2 ck
  have X2 := Kept.mk x2
  clear hR h x2
  go_enter Try.func39, Try.ntmps39
  go_wp2_with fail
  refine (rplace_to _ _ _ Hin.out).mono ?_
  rintro e _ ⟨rfl, rfl⟩
  go_wp2_with fail
  clear ck c8 hrg
  go_loopw [5] (fun n wr => ∃ (S : Int) (todo : List (Int × (Nat × Int))), n = .int .i64 S ∧ Kept (x + resv todo k = S) ∧ S ≤ 1000000000 ∧ (∀ q ∈ todo, 1 ≤ q.2.2 ∧ q.2.2 ≤ 1000000000) ∧ RangeAt encRes wr w.heap.size m s.L todo ∧ RSk wr p m s ∧ Keeps (fun _ => False) w wr) (fun _ wr => wr.rangeLeft m w.heap.size)
  case atStart => exact ⟨y, s.L, rfl, ⟨X2.out.symm⟩, x1, fun q hq => (ok.vals q hq).2, HR.out, H.out.quiet ((Keeps.refl _ w).alloc _), (Keeps.refl _ w).alloc _⟩
  case round =>
    clear HR
    obtain ⟨S, todo, rfl, hS, S1, hv, hR, hP, hK⟩ := hrel
    rcases hR.next (P := Try.prog) 0 (Nat.ne_of_gt hlt) with ⟨rfl, hnx⟩ | ⟨p1, z, v, q1, w2, rfl, hnx, hen, hR2, k2, z2⟩
    · obtain rfl : S = x := by have := hS.out; simp only [resv] at this; omega
      go_wp2_with fail
      go_ret
      exact ⟨rfl, hP, hK⟩
    · obtain ⟨j, q⟩ := v
      unfold encRes at hnx hen
      simp only at hnx hen
      have hq := hv (z, (j, q)) (by simp)
      simp only at hq
      have hv2 : ∀ z ∈ p1 ++ q1, 1 ≤ z.2.2 ∧ z.2.2 ≤ 1000000000 := fun z hz => hv z (by
        rw [List.mem_append] at hz ⊢
        rcases hz with h | h
        · exact .inl h
        · exact .inr (List.mem_cons_of_mem _ h))
      have hn := resv_nonneg (L := p1 ++ q1) (fun z hz => by have := hv2 z hz; omega) k
      have hS2 := hS.out
      rw [resv_mid] at hS2
      have hsz := hK.size
      have hP2 := hP.keeps k2 (fun e => by have := hP.cells.lt; have := H.out.cells.lt; omega) (fun e => by omega)
      have hK2 : Keeps (fun _ => False) w w2 := hK.then k2 (fun i h e => by omega)
      have HL := Kept.mk hR.left_eq
      have HR2 := Kept.mk hR2
      have HP2 := Kept.mk hP2
      have HK2 := Kept.mk hK2
      have HV2 := Kept.mk hv2
      clear hR hR2 hP2 hK2 hv2 hv hP hK k2 hS
      by_cases hjk : j = k
      · subst hjk
        rw [if_pos rfl] at hS2
        have hS3 : Kept (x + resv (p1 ++ q1) j = S - q) := ⟨by omega⟩
        have hsq : 0 ≤ S - q := by omega
        clear hS2
        go_wp2_with fail
        go_roundw
        case rel => exact ⟨S - q, p1 ++ q1, rfl, hS3, by omega, HV2.out, HR2.out.alloc _, HP2.out.quiet ((Keeps.refl _ _).alloc _), HK2.out.alloc _⟩
        case measure => rw [(HR2.out.alloc _).left_eq, HL.out]; simp
      · rw [if_neg hjk] at hS2
        have hS3 : Kept (x + resv (p1 ++ q1) k = S) := ⟨by omega⟩
        have ejk : ((j : Int) == (k : Int)) = false := by have : (j : Int) ≠ k := by omega
                                                          simpa using this
        clear hS2 hjk
        go_wp2_with fail
        go_roundw
        case rel => exact ⟨S, p1 ++ q1, rfl, hS3, S1, HV2.out, HR2.out.alloc _, HP2.out.quiet ((Keeps.refl _ _).alloc _), HK2.out.alloc _⟩
        case measure => rw [(HR2.out.alloc _).left_eq, HL.out]; simp
theorem rsfree_to (p m : Nat) (s : Sk) (i x : Int) (w : World) (h : RSk w p m s) (ok : s.Ok) (hx : s.freeOf i = x) : Calls Try.prog 39 #[.pointer (some ⟨p, 0, none⟩), .int .i64 i] w
    (Rets w (fun _ => False) (.int .i64 x) fun w' => RSk w' p m s) := by
  by_cases hi : 0 ≤ i ∧ i < 8
  · refine rsfree_in p m s i x i.toNat w h ok (by omega) (by omega) ?_
    rw [← hx]
    unfold Sk.freeOf
    rw [if_pos (by simp [itemB, hi.1, hi.2])]
  · have h0 : x = 0 := by
      rw [← hx]
      unfold Sk.freeOf
      rw [if_neg (by simp [itemB]; omega)]
    subst h0
    have Hin : Kept (inB 0 7 i = false) := ⟨by
      rw [Bool.eq_false_iff, ne_eq, inB_iff]; omega⟩
    have H := Kept.mk h
    clear h hx
    go_enter Try.func39, Try.ntmps39
    go_wp2_with fail
    refine (rplace_to _ _ _ Hin.out).mono ?_
    rintro e _ ⟨rfl, rfl⟩
    go_wp2_with fail
    go_ret
    exact ⟨rfl, H.out, Keeps.refl _ _⟩
end Go.Proofs.Ytofabbigngmboaa
