/- Package purse's book, walked: its plain twin, and what only reads: Money, Till, Paid, Allowed. -/
import Derived.Test.YtdnpeihfpmfmcaaIntMap
import Derived.Test.YtdnpeihfpmfmcaaResv
import Derived.Test.YtdnpeihfpmfmcaaRange
namespace Go.Proofs.Ytdnpeihfpmfmcaa
open Go.RowKit
/-- A purse: each client's money, the till, who is allowed what, who has paid what. -/
structure Pu where
  money : Nat → Int
  till : Int
  A : List (Int × (Nat × Int))
  P : List (Int × Int)
def sumN (A : List (Int × (Nat × Int))) : Nat → Int
  | 0 => 0
  | k + 1 => sumN A k + resv A k
def resvAll (A : List (Int × (Nat × Int))) : Int := sumN A 8
structure Pu.Ok (s : Pu) : Prop where
  m1 : ∀ i, i < 8 → s.money i ≤ 1000000000
  al : ∀ i, i < 8 → resv s.A i ≤ s.money i
  t0 : 0 ≤ s.till
  all : s.till + resvAll s.A ≤ 1000000000
  vals : ∀ p ∈ s.A, p.2.1 < 8 ∧ 1 ≤ p.2.2 ∧ p.2.2 ≤ 1000000000
  paid : ∀ x v, MP.get s.P x = some v → 1 ≤ v ∧ v ≤ 1000000000
  na : (MP.keys s.A).Nodup
  np : (MP.keys s.P).Nodup
theorem Pu.Ok.al0 {s : Pu} (h : s.Ok) (i : Nat) : 0 ≤ resv s.A i := resv_nonneg (fun p hp => by have := h.vals p hp; omega) i
theorem Pu.Ok.alB {s : Pu} (h : s.Ok) (i : Nat) (hi : i < 8) : resv s.A i ≤ 1000000000 := by
  have := h.al i hi; have := h.m1 i hi; omega
def encAl (p : Nat × Int) : Value := .agg #[.int .i64 p.1, .int .i64 p.2]
def puCells (s : Pu) (ma mp : Nat) : List Value :=
  [.int .i64 (s.money 0), .int .i64 (s.money 1), .int .i64 (s.money 2), .int .i64 (s.money 3), .int .i64 (s.money 4), .int .i64 (s.money 5), .int .i64 (s.money 6), .int .i64 (s.money 7), .int .i64 s.till, .map (some ma), .map (some mp)]
theorem puCells_money (s : Pu) (ma mp : Nat) {k : Nat} (h : k < 8) : (puCells s ma mp)[k]? = some (.int .i64 (s.money k)) := by
  match k, h with
  | 0, _ => rfl | 1, _ => rfl | 2, _ => rfl | 3, _ => rfl | 4, _ => rfl | 5, _ => rfl | 6, _ => rfl | 7, _ => rfl
theorem puCells_set (s : Pu) (ma mp : Nat) {k : Nat} (h : k < 8) (v : Int) : (puCells s ma mp).set k (.int .i64 v) = puCells ⟨upd s.money k v, s.till, s.A, s.P⟩ ma mp := by
  match k, h with
  | 0, _ => rfl | 1, _ => rfl | 2, _ => rfl | 3, _ => rfl | 4, _ => rfl | 5, _ => rfl | 6, _ => rfl | 7, _ => rfl
structure PuAt (w : World) (p ma mp : Nat) (s : Pu) : Prop where
  cells : Blk w p 65 (puCells s ma mp)
  by_ : MapAt encAl w ma s.A
  paid : MapAt encInt w mp s.P
  n1 : ma ≠ p
  n2 : mp ≠ p
  n3 : ma ≠ mp
theorem PuAt.keeps {w w' : World} {p ma mp : Nat} {s : Pu} (h : PuAt w p ma mp s) {S : Nat → Prop} (k : Keeps S w w') (hp : ¬ S p) (ha : ¬ S ma) (hq : ¬ S mp) : PuAt w' p ma mp s := ⟨h.cells.keeps k hp, h.by_.keeps k ha, h.paid.keeps k hq, h.n1, h.n2, h.n3⟩
theorem PuAt.alloc {w : World} {p ma mp : Nat} {s : Pu} (h : PuAt w p ma mp s) (o : Obj) : PuAt (w.alloc o) p ma mp s := ⟨h.cells.alloc o, h.by_.alloc o, h.paid.alloc o, h.n1, h.n2, h.n3⟩
theorem PuAt.drewN {w : World} {p ma mp : Nat} {s : Pu} (h : PuAt w p ma mp s) (n : Nat) : PuAt (w.drewN n) p ma mp s := ⟨h.cells.drewN n, h.by_.drewN n, h.paid.drewN n, h.n1, h.n2, h.n3⟩
theorem zeroAl (w : World) : (zeroValue 67).run Try.prog w = .ok (encAl (0, 0)) w := by kernel_rfl
theorem till_nil (w : World) : Calls Try.prog 20 #[.pointer none] w (Says w (.int .i64 0)) := by
  go_enter Try.func20, Try.ntmps20
  go_wp2
  go_ret
  exact ⟨rfl, rfl⟩
theorem till_to (p ma mp : Nat) (s : Pu) (x : Int) (w : World) (h : PuAt w p ma mp s) (hx : s.till = x) : Calls Try.prog 20 #[.pointer (some ⟨p, 0, none⟩)] w (Says w (.int .i64 x)) := by
  have c8 := h.cells.cell 8 rfl
  simp only [hx] at c8
  go_enter Try.func20, Try.ntmps20
  go_wp2
  go_ret
  exact ⟨rfl, rfl⟩
def clientB (i : Int) : Bool := decide (0 ≤ i) && decide (i < 8)
theorem client_to (i : Int) (r : Bool) (w : World) (h : clientB i = r) : Calls Try.prog 37 #[.int .i64 i] w (Says w (.bool r)) := by
  subst h
  by_cases h0 : 0 ≤ i
  · have e : Kept (clientB i = decide (i < 8)) := ⟨by simp [clientB, h0]⟩
    go_enter Try.func37, Try.ntmps37
    go_wp2
    go_ret
    exact ⟨by rw [e.out]; rfl, rfl⟩
  · have e : Kept (clientB i = false) := ⟨by simp [clientB, h0]⟩
    go_enter Try.func37, Try.ntmps37
    go_wp2
    go_ret
    exact ⟨by rw [e.out]; rfl, rfl⟩
theorem money_nil (i : Int) (w : World) : Calls Try.prog 21 #[.pointer none, .int .i64 i] w (Says w (.int .i64 0)) := by
  go_enter Try.func21, Try.ntmps21
  go_wp2
  go_ret
  exact ⟨rfl, rfl⟩
theorem money_to (p ma mp : Nat) (s : Pu) (i x : Int) (k : Nat) (w : World) (h : PuAt w p ma mp s) (hi : i = k) (hk : k < 8) (hx : s.money k = x) : Calls Try.prog 21 #[.pointer (some ⟨p, 0, none⟩), .int .i64 i] w (Says w (.int .i64 x)) := by
  subst hi
  have hc : Kept (clientB k = true) := ⟨by simp [clientB]; omega⟩
  have c := h.cells.cell k (puCells_money s ma mp hk)
  rw [hx] at c
  clear hx h
  go_enter Try.func21, Try.ntmps21
  go_wp2_with fail
  refine (client_to _ _ _ hc.out).mono ?_
  rintro e _ ⟨rfl, rfl⟩
  go_wp2_with fail
  go_ret
  exact ⟨rfl, rfl⟩
theorem paid_nil (id : Int) (w : World) : Calls Try.prog 25 #[.pointer none, .int .i64 id] w (Says w (.tuple #[.int .i64 0, .bool false])) := by
  go_enter Try.func25, Try.ntmps25
  go_wp2
  go_ret2
  exact ⟨rfl, rfl⟩
theorem paid_to (p ma mp : Nat) (s : Pu) (id x : Int) (r : Bool) (w : World) (h : PuAt w p ma mp s) (hx : (MP.get s.P id).getD 0 = x) (hr : (MP.get s.P id).isSome = r) : Calls Try.prog 25 #[.pointer (some ⟨p, 0, none⟩), .int .i64 id] w (Says w (.tuple #[.int .i64 x, .bool r])) := by
  have c := h.cells.cell 10 rfl
  have hl := look_ok h.paid id
  rw [hx, hr] at hl
  clear hx hr h
  go_enter Try.func25, Try.ntmps25
  go_wp2_with fail
  go_ret2
  exact ⟨rfl, rfl⟩
theorem allowed_nil (i : Int) (w : World) : Calls Try.prog 24 #[.pointer none, .int .i64 i] w (Says w (.int .i64 0)) := by
  go_enter Try.func24, Try.ntmps24
  go_wp2
  go_ret
  exact ⟨rfl, rfl⟩
set_option maxRecDepth 100000 in
set_option maxHeartbeats 1000000 in
theorem allowed_to (p ma mp : Nat) (s : Pu) (i x : Int) (k : Nat) (w : World) (h : PuAt w p ma mp s) (ok : s.Ok) (hi : i = k) (hk : k < 8) (hx : resv s.A k = x) : Calls Try.prog 24 #[.pointer (some ⟨p, 0, none⟩), .int .i64 i] w
    (Rets w (fun _ => False) (.int .i64 x) fun w' => PuAt w' p ma mp s) := by
  subst hi
  have Hx := Kept.mk hx
  have x1 := ok.alB k hk
  rw [hx] at x1
  clear hx
  have c := h.cells.cell 9 rfl
  have hlt := h.by_.lt
  obtain ⟨o, hrg, hR⟩ := h.by_.range (P := Try.prog) Try.underlying62
  have HR := Kept.mk hR
  have H := Kept.mk h
  clear hR h
  go_enter Try.func24, Try.ntmps24
  go_wp2_with fail
  go_loopw [5] (fun n wr => ∃ (S : Int) (todo : List (Int × (Nat × Int))), n = .int .i64 S ∧ Kept (S + resv todo k = x) ∧ 0 ≤ S ∧ (∀ q ∈ todo, 1 ≤ q.2.2 ∧ q.2.2 ≤ 1000000000) ∧ RangeAt encAl wr w.heap.size ma s.A todo ∧ PuAt wr p ma mp s ∧ Keeps (fun _ => False) w wr) (fun _ wr => wr.rangeLeft ma w.heap.size)
  case atStart => exact ⟨0, s.A, rfl, ⟨by rw [Hx.out]; omega⟩, by omega, fun q hq => (ok.vals q hq).2, HR.out, H.out.alloc _, (Keeps.refl _ w).alloc _⟩
  case round =>
    clear HR
    obtain ⟨S, todo, rfl, hS, S0, hv, hR, hP, hK⟩ := hrel
    rcases hR.next (P := Try.prog) 0 (Nat.ne_of_gt hlt) with ⟨rfl, hnx⟩ | ⟨p1, y, v, q1, w2, rfl, hnx, hen, hR2, k2, z2⟩
    · obtain rfl : S = x := by have := hS.out; simp only [resv] at this; omega
      go_wp2_with fail
      go_ret
      exact ⟨rfl, hP, hK⟩
    · obtain ⟨j, q⟩ := v
      unfold encAl at hnx hen
      simp only at hnx hen
      have hq := hv (y, (j, q)) (by simp)
      simp only at hq
      have hv2 : ∀ z ∈ p1 ++ q1, 1 ≤ z.2.2 ∧ z.2.2 ≤ 1000000000 := fun z hz => hv z (by
        rw [List.mem_append] at hz ⊢
        rcases hz with h | h
        · exact .inl h
        · exact .inr (List.mem_cons_of_mem _ h))
      have hn := resv_nonneg (L := p1 ++ q1) (fun z hz => by have := hv2 z hz; omega) k
      have hS2 := hS.out
      rw [resv_split] at hS2
      have hsz := hK.size
      have hP2 := hP.keeps k2 (fun e => by have := hP.cells.lt; have := H.out.cells.lt; omega) (fun e => by omega) (fun e => by have := H.out.paid.lt; omega)
      have hK2 : Keeps (fun _ => False) w w2 := hK.then k2 (fun i h e => by omega)
      have HL := Kept.mk hR.left_eq
      have HR2 := Kept.mk hR2
      have HP2 := Kept.mk hP2
      have HK2 := Kept.mk hK2
      have HV2 := Kept.mk hv2
      clear hR hR2 hP2 hK2 hv2 hv hP hK k2 hS
      by_cases hjk : j = k
      · subst hjk
        rw [if_pos rfl] at hS2
        have hS3 : Kept (S + q + resv (p1 ++ q1) j = x) := ⟨by omega⟩
        have hsq : S + q ≤ x := by omega
        clear hS2
        go_wp2_with fail
        go_roundw
        case rel => exact ⟨S + q, p1 ++ q1, rfl, hS3, by omega, HV2.out, HR2.out.alloc _, HP2.out.alloc _, HK2.out.alloc _⟩
        case measure => rw [(HR2.out.alloc _).left_eq, HL.out]; simp
      · rw [if_neg hjk] at hS2
        have hS3 : Kept (S + resv (p1 ++ q1) k = x) := ⟨by omega⟩
        have ejk : ((j : Int) == (k : Int)) = false := by have : (j : Int) ≠ k := by omega
                                                          simpa using this
        clear hS2 hjk
        go_wp2_with fail
        go_roundw
        case rel => exact ⟨S, p1 ++ q1, rfl, hS3, S0, HV2.out, HR2.out.alloc _, HP2.out.alloc _, HK2.out.alloc _⟩
        case measure => rw [(HR2.out.alloc _).left_eq, HL.out]; simp
end Go.Proofs.Ytdnpeihfpmfmcaa
