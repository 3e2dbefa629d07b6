/- The reference's tower of bells (a row of a thousand), walked. -/
import Derived.Test.YtleipaiojefekaaBellLaws
import Derived.Deep.CutBlock
namespace Go.Proofs.Ytleipaiojefekaa
open Go.RowKit
def rowI (B : Nat → Int) : List Value := (List.range 1000).map fun i => .int .i64 (B i)
theorem rowI_at (B : Nat → Int) {k : Nat} (hk : k < 1000) : (rowI B)[k]? = some (.int .i64 (B k)) := by
  unfold rowI
  rw [List.getElem?_map, List.getElem?_range hk]; rfl
theorem rowI_set (B : Nat → Int) (k : Nat) (v : Int) : (rowI B).set k (.int .i64 v) = rowI (fun i => if i = k then v else B i) := by
  unfold rowI
  apply List.ext_getElem?
  intro i
  rw [List.getElem?_set]
  by_cases hi : i < 1000
  · rw [List.getElem?_map, List.getElem?_map, List.getElem?_range hi]
    by_cases h : k = i
    · subst h; simp [hi]
    · simp [h, Ne.symm h]
  · by_cases h : k = i
    · subst h; simp [hi]
    · simp [h, hi]
/-- The reference's tower: n tries; how many bell i has left (-1: there is none). -/
def RT (w : World) (q : Nat) (n : Int) (B : Nat → Int) : Prop := Blk w q 73 (.int .i64 n :: rowI B)
theorem RT.at0 {w : World} {q : Nat} {n : Int} {B : Nat → Int} (h : RT w q n B) : w.cell? ⟨q, 0, none⟩ = some (.int .i64 n) := h.cell 0 rfl
theorem RT.cell {w : World} {q : Nat} {n : Int} {B : Nat → Int} (h : RT w q n B) {k : Nat} (hk : k < 1000) : w.cell? ⟨q, 1 + k, none⟩ = some (.int .i64 (B k)) := by
  rw [Nat.add_comm]
  exact Blk.cell h (k + 1) (by rw [List.getElem?_cons_succ]; exact rowI_at B hk)
theorem RT.set {w : World} {q : Nat} {n : Int} {B : Nat → Int} (h : RT w q n B) (k : Nat) (v : Int) : RT (w.setCell ⟨q, 1 + k, none⟩ (.int .i64 v)) q n (fun i => if i = k then v else B i) := by
  have := Blk.set h (k + 1) (.int .i64 v)
  rw [List.set_cons_succ, rowI_set] at this
  rw [Nat.add_comm]
  exact this
theorem RT.keeps {w w' : World} {q : Nat} {n : Int} {B : Nat → Int} (h : RT w q n B) {S : Nat → Prop} (k : Keeps S w w') (hs : ¬ S q) : RT w' q n B := Blk.keeps h k hs
theorem RT.drewN {w : World} {q : Nat} {n : Int} {B : Nat → Int} (h : RT w q n B) (d : Nat) : RT (w.drewN d) q n B := h
theorem zeroTower (x : Int) (w : World) : RT (w.alloc (.cells (Try.zeroCells73.setIfInBounds 0 (.int .i64 x)) 73)) w.heap.size x (fun _ => 0) := by
  have e0 : Try.zeroCells73 = (.int .i64 0 :: rowI (fun _ => 0)).toArray := by kernel_rfl
  rw [e0]
  have e1 : ((Value.int .i64 0 :: rowI (fun _ => 0)).toArray.setIfInBounds 0 (.int .i64 x)) = (.int .i64 x :: rowI (fun _ => 0)).toArray := by simp
  rw [e1]
  exact Blk.new w 73 _
theorem RT.same {w : World} {q : Nat} {n : Int} {B B' : Nat → Int} (h : RT w q n B) (e : ∀ i, i < 1000 → B i = B' i) : RT w q n B' := by
  have : rowI B = rowI B' := by
    unfold rowI
    refine List.map_congr_left fun i hi => ?_
    rw [e i (List.mem_range.1 hi)]
  unfold RT at h ⊢
  rw [← this]
  exact h
theorem rt_step {w : World} {q : Nat} {n : Int} {k : Nat} (h : RT w q n (fun i => if i < k then -1 else 0)) : RT (w.setCell ⟨q, 1 + k, none⟩ (.int .i64 (-1))) q n (fun i => if i < k + 1 then -1 else 0) := by
  refine (h.set k (-1)).same fun i _ => ?_
  by_cases h1 : i = k
  · subst h1; simp
  · by_cases h2 : i < k
    · simp [h1, h2]; omega
    · simp [h1, h2]; omega
theorem rt_full {w : World} {q : Nat} {n : Int} (h : RT w q n (fun i => if i < 1000 then -1 else 0)) : RT w q n (fun _ => -1) := h.same fun i hi => by simp [hi]
set_option maxRecDepth 100000 in
set_option maxHeartbeats 4000000 in
theorem newTower_any (n : Int) (w : World) : Calls Try.prog 26 #[.int .i64 n] w (Rets w (fun _ => False) (.pointer (some ⟨w.heap.size, 0, none⟩)) fun w' => RT w' w.heap.size (max 1 (min n 20)) (fun _ => -1) ∧ w'.heap.size = w.heap.size + 1) := by
  go_enter Try.func26, Try.ntmps26
  go_upto_region 2 with fail
  have eX : (if 1 < if 20 < n then 20 else n then if 20 < n then 20 else n else 1) = max 1 (min n 20) := by split <;> split <;> omega
  rw [eX]
  obtain ⟨X, HX⟩ : ∃ X, Kept (max 1 (min n 20) = X) := ⟨_, ⟨rfl⟩⟩
  rw [HX.out]
  have H0 := zeroTower X w
  have K0 : Keeps (fun _ => False) w (w.alloc (.cells (Try.zeroCells73.setIfInBounds 0 (.int .i64 X)) 73)) := (Keeps.refl _ w).alloc _
  have Z0 : (w.alloc (.cells (Try.zeroCells73.setIfInBounds 0 (.int .i64 X)) 73)).heap.size = w.heap.size + 1 := by simp
  generalize w.alloc (.cells (Try.zeroCells73.setIfInBounds 0 (.int .i64 X)) 73) = w1 at H0 K0 Z0 ⊢
  generalize (if 20 < n then (20 : Int) else n) = m2
  go_wp2_with fail
  go_loopw [4, 10] (fun _ i wr => ∃ (k : Nat), k ≤ 1000 ∧ i = .int .i64 k ∧ Kept (RT wr w.heap.size X (fun i => if i < k then -1 else 0)) ∧ Kept (Keeps (fun _ => False) w wr) ∧ Kept (wr.heap.size = w.heap.size + 1)) (fun _ i _ => (1000 - (intOf i).toNat))
  case atStart => exact ⟨0, by omega, rfl, ⟨by simpa using H0⟩, ⟨K0⟩, ⟨Z0⟩⟩
  case round =>
    obtain ⟨k, hk, rfl, HT, HK, HZ⟩ := hrel
    by_cases hlt : k < 1000
    · have c := HT.out.cell hlt
      have fz := Blk.frozen HT.out (1 + k)
      have hki : (k : Int) < 1000 := by omega
      generalize (if k < k then (-1 : Int) else 0) = old at c
      go_wp2_with fail
      go_roundw
      case rel => exact ⟨k + 1, by omega, by go_num, ⟨rt_step HT.out⟩, ⟨HK.out.setCell (.inl (Nat.le_refl _)) _⟩, ⟨by rw [size_set]; exact HZ.out⟩⟩
      case measure => simp [intOf]; omega
    · obtain rfl : k = 1000 := by omega
      go_wp2_with fail
      go_ret
      exact ⟨rfl, ⟨by rw [HX.out]; exact rt_full HT.out, HZ.out⟩, HK.out⟩
def idB (x : Int) : Bool := decide (1 ≤ x) && decide (x ≤ 999)
theorem rid_to (x : Int) (r : Bool) (w : World) (hr : idB x = r) : Calls Try.prog 41 #[.int .i64 x] w (Says w (.bool r)) := by
  subst hr
  by_cases h0 : 1 ≤ x
  · have e : Kept (idB x = decide (x ≤ 999)) := ⟨by simp [idB, h0]⟩
    go_enter Try.func41, Try.ntmps41
    go_wp2
    go_ret
    exact ⟨by rw [e.out]; rfl, rfl⟩
  · have e : Kept (idB x = false) := ⟨by simp [idB, h0]⟩
    go_enter Try.func41, Try.ntmps41
    go_wp2
    go_ret
    exact ⟨by rw [e.out]; rfl, rfl⟩
theorem idB_no {x : Int} (h : ¬ (1 ≤ x ∧ x ≤ 999)) : idB x = false := by
  cases e : idB x with
  | false => rfl
  | true => exact absurd (by simpa [idB] using e) h
theorem idB_yes {x : Int} (h : 1 ≤ x ∧ x ≤ 999) : idB x = true := by simp [idB, h.1, h.2]
/-- Is there a bell? -/
def hasB (B : Nat → Int) (x : Int) : Bool := idB x && decide (0 ≤ B x.toNat)
theorem rhas_to (q : Nat) (n : Int) (B : Nat → Int) (x : Int) (r : Bool) (w : World) (h : RT w q n B) (hr : hasB B x = r) : Calls Try.prog 42 #[.pointer (some ⟨q, 0, none⟩), .int .i64 x] w (Says w (.bool r)) := by
  subst hr
  by_cases hx : 1 ≤ x ∧ x ≤ 999
  · obtain ⟨k, rfl⟩ : ∃ k : Nat, x = k := ⟨x.toNat, by omega⟩
    have e : Kept (hasB B k = decide (0 ≤ B k)) := ⟨by simp [hasB, idB_yes hx]⟩
    have hi := Kept.mk (idB_yes hx)
    have c := h.cell (k := k) (by omega)
    have hk : k < 1000 := by omega
    have hk' : (k : Int) < 1000 := by omega
    have hk0 : (0 : Int) ≤ k := by omega
    generalize B k = y at c e
    clear hx
    go_enter Try.func42, Try.ntmps42
    go_wp2_with fail
    refine (rid_to _ _ _ hi.out).mono ?_
    rintro e _ ⟨rfl, rfl⟩
    go_wp2_with fail
    go_ret
    exact ⟨by rw [e.out]; rfl, rfl⟩
  · have e : Kept (hasB B x = false) := ⟨by simp [hasB, idB_no hx]⟩
    have hi := Kept.mk (idB_no hx)
    go_enter Try.func42, Try.ntmps42
    go_wp2_with fail
    refine (rid_to _ _ _ hi.out).mono ?_
    rintro e _ ⟨rfl, rfl⟩
    go_wp2_with fail
    go_ret
    exact ⟨by rw [e.out]; rfl, rfl⟩
def upd (B : Nat → Int) (k : Nat) (v : Int) : Nat → Int := fun i => if i = k then v else B i
def hangB (n : Int) (B : Nat → Int) (x : Int) : Bool × (Nat → Int) := if idB x = true ∧ hasB B x = false then (true, upd B x.toNat n) else (false, B)
def cutB (B : Nat → Int) (x : Int) : Bool × (Nat → Int) := if hasB B x = true then (true, upd B x.toNat (-1)) else (false, B)
def againB (n : Int) (B : Nat → Int) (x : Int) : Bool × (Nat → Int) := if hasB B x = true then (true, upd B x.toNat n) else (false, B)
def ringB (B : Nat → Int) (x : Int) : (Bool × Bool) × (Nat → Int) := if hasB B x = true then (if B x.toNat = 0 then ((true, true), B) else ((true, false), upd B x.toNat (B x.toNat - 1))) else ((false, false), B)
def RTo (w : World) (q : Nat) (n : Int) (v : Value) (B : Nat → Int) : Ending → World → Prop := Rets w (· = q) v fun w' => RT w' q n B ∧ w'.heap.size = w.heap.size
theorem hasB_id {B : Nat → Int} {x : Int} (h : hasB B x = true) : idB x = true ∧ 1 ≤ x ∧ x ≤ 999 ∧ 0 ≤ B x.toNat := by
  have : idB x = true ∧ 0 ≤ B x.toNat := by simpa [hasB] using h
  refine ⟨this.1, ?_, ?_, this.2⟩
  · have := this.1; simp [idB] at this; exact this.1
  · have := this.1; simp [idB] at this; exact this.2
theorem rt_store {w w1 : World} {q : Nat} {n : Int} {B : Nat → Int} (h : RT w1 q n B) (k1 : Keeps (· = q) w w1) (z1 : w1.heap.size = w.heap.size) (v : Value) (k : Nat) (y : Int) : RTo w q n v (upd B k y) (.returned v) (w1.setCell ⟨q, 1 + k, none⟩ (.int .i64 y)) :=
  ⟨rfl, ⟨h.set k y, by rw [size_set]; exact z1⟩, k1.setCell (.inr rfl) _⟩
set_option maxHeartbeats 4000000 in
theorem rcut_to (q : Nat) (n : Int) (B B' : Nat → Int) (x : Int) (r : Bool) (w : World) (h : RT w q n B) (hr : cutB B x = (r, B')) : Calls Try.prog 28 #[.pointer (some ⟨q, 0, none⟩), .int .i64 x] w (RTo w q n (.bool r) B') := by
  by_cases hh : hasB B x = true
  · obtain ⟨hi, x0, x1, hv⟩ := hasB_id hh
    obtain ⟨k, rfl⟩ : ∃ k : Nat, x = k := ⟨x.toNat, by omega⟩
    unfold cutB at hr
    rw [if_pos hh] at hr
    have hf := Kept.mk hh
    have hk : k < 1000 := by omega
    have hk' : (k : Int) < 1000 := by omega
    have hk0 : (0 : Int) ≤ k := by omega
    have H := Kept.mk h
    have c := h.cell hk
    have c0 := h.at0
    have fz := Blk.frozen h (1 + k)
    obtain ⟨rfl, rfl⟩ := Prod.mk.inj hr
    clear hr hh hi hv x0 x1 h
    rw [show (k : Int).toNat = k from rfl]
    generalize B k = y at c
    go_enter Try.func28, Try.ntmps28
    go_wp2_with fail
    refine (rhas_to _ _ _ _ _ _ H.out hf.out).mono ?_
    rintro e _ ⟨rfl, rfl⟩
    go_wp2_with fail
    go_ret
    exact rt_store H.out (Keeps.refl _ _) rfl _ _ _
  · have hf : Kept (hasB B x = false) := ⟨by simpa using hh⟩
    unfold cutB at hr
    rw [if_neg hh] at hr
    obtain ⟨rfl, rfl⟩ := Prod.mk.inj hr
    clear hr hh
    go_enter Try.func28, Try.ntmps28
    go_wp2_with fail
    refine (rhas_to _ _ _ _ _ _ h hf.out).mono ?_
    rintro e _ ⟨rfl, rfl⟩
    go_wp2_with fail
    go_ret
    exact ⟨rfl, ⟨h, rfl⟩, Keeps.refl _ _⟩
set_option maxHeartbeats 4000000 in
theorem ragain_to (q : Nat) (n : Int) (B B' : Nat → Int) (x : Int) (r : Bool) (w : World) (h : RT w q n B) (hr : againB n B x = (r, B')) : Calls Try.prog 29 #[.pointer (some ⟨q, 0, none⟩), .int .i64 x] w (RTo w q n (.bool r) B') := by
  by_cases hh : hasB B x = true
  · obtain ⟨hi, x0, x1, hv⟩ := hasB_id hh
    obtain ⟨k, rfl⟩ : ∃ k : Nat, x = k := ⟨x.toNat, by omega⟩
    unfold againB at hr
    rw [if_pos hh] at hr
    have hf := Kept.mk hh
    have hk : k < 1000 := by omega
    have hk' : (k : Int) < 1000 := by omega
    have hk0 : (0 : Int) ≤ k := by omega
    have H := Kept.mk h
    have c := h.cell hk
    have c0 := h.at0
    have fz := Blk.frozen h (1 + k)
    obtain ⟨rfl, rfl⟩ := Prod.mk.inj hr
    clear hr hh hi hv x0 x1 h
    rw [show (k : Int).toNat = k from rfl]
    generalize B k = y at c
    go_enter Try.func29, Try.ntmps29
    go_wp2_with fail
    refine (rhas_to _ _ _ _ _ _ H.out hf.out).mono ?_
    rintro e _ ⟨rfl, rfl⟩
    go_wp2_with fail
    go_region
    all_goals
      go_wp2_with fail
      go_ret
      exact rt_store (H.out.drewN _) ((Keeps.refl _ _).drewN _) rfl _ _ _
  · have hf : Kept (hasB B x = false) := ⟨by simpa using hh⟩
    unfold againB at hr
    rw [if_neg hh] at hr
    obtain ⟨rfl, rfl⟩ := Prod.mk.inj hr
    clear hr hh
    go_enter Try.func29, Try.ntmps29
    go_wp2_with fail
    refine (rhas_to _ _ _ _ _ _ h hf.out).mono ?_
    rintro e _ ⟨rfl, rfl⟩
    go_wp2_with fail
    go_ret
    exact ⟨rfl, ⟨h, rfl⟩, Keeps.refl _ _⟩
set_option maxHeartbeats 4000000 in
theorem rhang_to (q : Nat) (n : Int) (B B' : Nat → Int) (x : Int) (r : Bool) (w : World) (h : RT w q n B) (hr : hangB n B x = (r, B')) : Calls Try.prog 27 #[.pointer (some ⟨q, 0, none⟩), .int .i64 x] w (RTo w q n (.bool r) B') := by
  have H := Kept.mk h
  cases hid : idB x with
  | false =>
    have hi := Kept.mk hid
    unfold hangB at hr
    rw [if_neg (by simp [hid])] at hr
    obtain ⟨rfl, rfl⟩ := Prod.mk.inj hr
    clear hr hid
    go_enter Try.func27, Try.ntmps27
    go_wp2_with fail
    refine (rid_to _ _ _ hi.out).mono ?_
    rintro e _ ⟨rfl, rfl⟩
    go_wp2_with fail
    go_ret
    exact ⟨rfl, ⟨H.out, rfl⟩, Keeps.refl _ _⟩
  | true =>
    have hi := Kept.mk hid
    cases hh : hasB B x with
    | true =>
      have hf := Kept.mk hh
      unfold hangB at hr
      rw [if_neg (by simp [hh])] at hr
      obtain ⟨rfl, rfl⟩ := Prod.mk.inj hr
      clear hr hid hh
      go_enter Try.func27, Try.ntmps27
      go_wp2_with fail
      refine (rid_to _ _ _ hi.out).mono ?_
      rintro e _ ⟨rfl, rfl⟩
      go_wp2_with fail
      refine (rhas_to _ _ _ _ _ _ H.out hf.out).mono ?_
      rintro e _ ⟨rfl, rfl⟩
      go_wp2_with fail
      go_ret
      exact ⟨rfl, ⟨H.out, rfl⟩, Keeps.refl _ _⟩
    | false =>
      have hx : 1 ≤ x ∧ x ≤ 999 := by simpa [idB] using hid
      obtain ⟨k, rfl⟩ : ∃ k : Nat, x = k := ⟨x.toNat, by omega⟩
      have hf := Kept.mk hh
      have hk : k < 1000 := by omega
      have hk' : (k : Int) < 1000 := by omega
      have hk0 : (0 : Int) ≤ k := by omega
      unfold hangB at hr
      rw [if_pos ⟨hid, hh⟩] at hr
      obtain ⟨rfl, rfl⟩ := Prod.mk.inj hr
      have c := h.cell hk
      have c0 := h.at0
      have fz := Blk.frozen h (1 + k)
      clear hr hid hh hx h
      rw [show (k : Int).toNat = k from rfl]
      generalize B k = y at c
      go_enter Try.func27, Try.ntmps27
      go_wp2_with fail
      refine (rid_to _ _ _ hi.out).mono ?_
      rintro e _ ⟨rfl, rfl⟩
      go_wp2_with fail
      refine (rhas_to _ _ _ _ _ _ H.out hf.out).mono ?_
      rintro e _ ⟨rfl, rfl⟩
      go_wp2_with fail
      go_region
      all_goals
        go_wp2_with fail
        go_ret
        exact rt_store (H.out.drewN _) ((Keeps.refl _ _).drewN _) rfl _ _ _
set_option maxRecDepth 100000 in
set_option maxHeartbeats 4000000 in
theorem rring_to (q : Nat) (n : Int) (B B' : Nat → Int) (x : Int) (r u : Bool) (w : World) (h : RT w q n B) (hmax : B x.toNat ≤ 20) (hr : ringB B x = ((r, u), B')) : Calls Try.prog 30 #[.pointer (some ⟨q, 0, none⟩), .int .i64 x] w (RTo w q n (.tuple #[.bool r, .bool u]) B') := by
  by_cases hh : hasB B x = true
  · obtain ⟨hi, x0, x1, hv⟩ := hasB_id hh
    obtain ⟨k, rfl⟩ : ∃ k : Nat, x = k := ⟨x.toNat, by omega⟩
    unfold ringB at hr
    rw [if_pos hh] at hr
    rw [show (k : Int).toNat = k from rfl] at hr hv hmax
    have hf := Kept.mk hh
    have hk : k < 1000 := by omega
    have hk' : (k : Int) < 1000 := by omega
    have hk0 : (0 : Int) ≤ k := by omega
    have H := Kept.mk h
    have c := h.cell hk
    have c0 := h.at0
    have fz := Blk.frozen h (1 + k)
    clear hh hi x0 x1 h
    by_cases hy : B k = 0
    · rw [if_pos hy] at hr
      obtain ⟨hr1, rfl⟩ := Prod.mk.inj hr
      obtain ⟨rfl, rfl⟩ := Prod.mk.inj hr1
      rw [hy] at c
      clear hr hr1 hy hv hmax
      go_enter Try.func30, Try.ntmps30
      go_wp2_with fail
      refine (rhas_to _ _ _ _ _ _ H.out hf.out).mono ?_
      rintro e _ ⟨rfl, rfl⟩
      go_wp2_with fail
      go_ret2
      exact ⟨rfl, ⟨H.out, rfl⟩, Keeps.refl _ _⟩
    · rw [if_neg hy] at hr
      obtain ⟨hr1, rfl⟩ := Prod.mk.inj hr
      obtain ⟨rfl, rfl⟩ := Prod.mk.inj hr1
      clear hr hr1
      generalize B k = y at c hy hv hmax ⊢
      go_enter Try.func30, Try.ntmps30
      go_wp2_with fail
      refine (rhas_to _ _ _ _ _ _ H.out hf.out).mono ?_
      rintro e _ ⟨rfl, rfl⟩
      go_wp2_with fail
      go_region
      all_goals
        go_wp2_with fail
        go_ret2
        exact rt_store (H.out.drewN _) ((Keeps.refl _ _).drewN _) rfl _ _ _
  · have hf : Kept (hasB B x = false) := ⟨by simpa using hh⟩
    unfold ringB at hr
    rw [if_neg hh] at hr
    obtain ⟨hr1, rfl⟩ := Prod.mk.inj hr
    obtain ⟨rfl, rfl⟩ := Prod.mk.inj hr1
    clear hr hr1 hh hmax
    go_enter Try.func30, Try.ntmps30
    go_wp2_with fail
    refine (rhas_to _ _ _ _ _ _ h hf.out).mono ?_
    rintro e _ ⟨rfl, rfl⟩
    go_wp2_with fail
    go_ret2
    exact ⟨rfl, ⟨h, rfl⟩, Keeps.refl _ _⟩
end Go.Proofs.Ytleipaiojefekaa
