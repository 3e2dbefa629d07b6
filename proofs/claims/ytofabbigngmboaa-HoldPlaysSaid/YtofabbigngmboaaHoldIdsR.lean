/- The reference's row of ids, walked; it is the keys, rising. -/
import Derived.Test.YtofabbigngmboaaHoldRef
namespace Go.Proofs.Ytofabbigngmboaa
open Go.RowKit
def idsN (B : Nat → Int) (k : Nat) : List Int := ((List.range k).filter fun i : Nat => decide (0 < B i)).map fun i : Nat => (i : Int)
theorem idsN_yes {B : Nat → Int} {k : Nat} (h : 0 < B k) : idsN B (k + 1) = idsN B k ++ [(k : Int)] := by
  unfold idsN
  rw [List.range_succ, List.filter_append, List.map_append]
  simp [h]
theorem idsN_no {B : Nat → Int} {k : Nat} (h : ¬ 0 < B k) : idsN B (k + 1) = idsN B k := by
  unfold idsN
  rw [List.range_succ, List.filter_append, List.map_append]
  simp [h]
theorem idsN_len (B : Nat → Int) (k : Nat) : (idsN B k).length ≤ k := by
  unfold idsN
  rw [List.length_map]
  exact Nat.le_trans (List.length_filter_le _ _) (by simp)
theorem idsN_sorted (B : Nat → Int) (k : Nat) : (idsN B k).Pairwise (· < ·) := by
  unfold idsN
  rw [List.pairwise_map]
  exact (List.Pairwise.filter _ List.pairwise_lt_range).imp fun h => by omega
theorem mem_idsN {s : Hd} {B : Nat → Int} (ag : AgH s B) (ok : s.Ok) {x : Int} : x ∈ idsN B 1000 ↔ (MP.get s.L x).isSome = true := by
  rw [ok.some_iff, decide_eq_true_iff]
  unfold idsN
  rw [List.mem_map]
  constructor
  · rintro ⟨i, hi, rfl⟩
    have h1 : 0 < B i := by simpa using (List.mem_filter.1 hi).2
    rw [ag.get i] at h1
    exact h1
  · intro h
    obtain ⟨h0, h1, _⟩ := ok.keys (x := x) (by omega)
    refine ⟨x.toNat, List.mem_filter.2 ⟨List.mem_range.2 (by omega), ?_⟩, by omega⟩
    rw [ag.at h0]
    simpa using h
theorem mem_keys_iff {α : Type} {L : List (Int × α)} {x : Int} : x ∈ MP.keys L ↔ ∃ a, MP.get L x = some a := by
  constructor
  · intro h
    cases e : MP.get L x with
    | some a => exact ⟨a, rfl⟩
    | none =>
      exfalso
      induction L with
      | nil => simp [MP.keys] at h
      | cons p r ih =>
        obtain ⟨y, a⟩ := p
        rw [MP.get_cons] at e
        split at e
        · cases e
        · rename_i hne
          simp only [MP.keys, List.map_cons, List.mem_cons] at h
          rcases h with h | h
          · exact hne h
          · exact ih h e
  · rintro ⟨a, h⟩
    exact MP.mem_keys_of_get h
theorem Hd.Ok.key_range {s : Hd} (ok : s.Ok) : ∀ x ∈ MP.keys s.L, 1 ≤ x ∧ x ≤ 999 := by
  intro x hx
  obtain ⟨v, hv⟩ := mem_keys_iff.1 hx
  have := ok.vals x v hv
  omega
theorem AgH.ids {s : Hd} {B : Nat → Int} (ag : AgH s B) (ok : s.Ok) : MP.rise s.L = idsN B 1000 := by
  have hnd : (idsN B 1000).Nodup := (idsN_sorted B 1000).imp fun h => by omega
  have hp : (MP.keys s.L).Perm (idsN B 1000) := (List.perm_ext_iff_of_nodup ok.nodup hnd).2 fun x => by
    rw [mem_idsN ag ok, mem_keys_iff, Option.isSome_iff_exists]
  unfold MP.rise
  rw [mergeSort_of_perm_i hp]
  exact List.mergeSort_of_pairwise ((idsN_sorted B 1000).imp fun h => by simp only [leI, decide_eq_true_eq]; omega)
theorem run_at (A : Array Value) (k : Nat) (v : Value) (hA : A[k]? = some v) (hk : k < 1000) (w : World) : (Instr.index 43 (.agg A) (.int .i64 (k : Int))).run Try.prog w = .ok v w := by
  have h1 : (0 : Int) ≤ (k : Int) ∧ (k : Int) < ((1000 : Nat) : Int) := by omega
  have hz : (sizeOf 3).run Try.prog w = .ok 1 w := by kernel_rfl
  simp [Instr.index, run_underlying Try.underlying43, asIntOf, h1, hz, hA, go_sem]
  intro h
  omega
theorem HR.range {w : World} {q : Nat} {n : Int} {B : Nat → Int} (h : HR w q n B) : w.rangeAt q 1 (rowI B) := fun j v hv => by
  have hj : j < 1000 := by have := (List.getElem?_eq_some_iff.1 hv).1; rwa [rowI_len] at this
  rw [rowI_at B hj] at hv
  cases hv
  exact h.cell hj
set_option maxRecDepth 100000 in
set_option maxHeartbeats 4000000 in
theorem rids_to (q : Nat) (n : Int) (B : Nat → Int) (w : World) (h : HR w q n B) :
    Calls Try.prog 25 #[.pointer (some ⟨q, 0, none⟩)] w (fun e w' => ∃ u, e = .returned u ∧ NumOwn w' w.heap.size u (idsN B 1000) ∧ Keeps (fun _ => False) w w') := by
  have Hrg := Kept.mk h.range
  have Hat := Kept.mk (fun (k : Nat) (hk : k < 1000) (W : World) => run_at (rowI B).toArray k (.int .i64 (B k)) (by rw [List.getElem?_toArray]; exact rowI_at B hk) hk W)
  have Hsz : Kept ((Try.prog.info? 43).map (·.size) = some (rowI B).length) := ⟨by rw [rowI_len]; kernel_rfl⟩
  clear h
  go_enter Try.func25, Try.ntmps25
  go_wp2_with fail
  refine wp_load_mid 43 (.tmp 8) rfl q 1 rfl (rowI B) _ Hrg.out Try.underlying43 rfl Hsz.out ?_
  generalize (rowI B).toArray = A at Hat ⊢
  clear Hrg Hsz
  go_wp2_with fail
  go_loopw [3, 4, 5, 10] (fun u _ _ i wr => ∃ k : Nat, k ≤ 1000 ∧ i = .int .i64 k ∧ Kept (NumOwn wr w.heap.size u (idsN B k)) ∧ Kept (Keeps (fun _ => False) w wr)) (fun _ _ _ i _ => 1000 - (intOf i).toNat)
  case atStart => exact ⟨0, by omega, rfl, ⟨NumOwn.nil _ _⟩, ⟨Keeps.refl _ _⟩⟩
  case round =>
    obtain ⟨k, hk, rfl, HO, HK⟩ := hrel
    have hz := HK.out.size
    obtain ⟨ua, uc, rfl, hul, hum⟩ := HO.out.slice
    by_cases hlt : k < 1000
    · have hix := Hat.out k hlt wr
      have hki : (k : Int) < 1000 := by omega
      have hlen := idsN_len B k
      have Hy := Kept.mk (@idsN_yes B k)
      have Hn := Kept.mk (@idsN_no B k)
      generalize B k = y at hix Hy Hn
      by_cases hh : 0 < y
      · obtain ⟨a', c', w2, hrun, hown', k2⟩ := num_append (w := wr.alloc (.cells #[.int .i64 (k : Int)] 3)) (m := (k : Int)) (s := wr.heap.size) (T := 3) (World.ownsRow.alloc HO.out _) (by omega) (by simp; omega) (Blk.newAt wr 3 [.int .i64 (k : Int)] _ rfl)
        have Hown := Kept.mk hown'
        have Hlt := Kept.mk HO.out.lt
        have K2 := Kept.mk k2
        clear hown' k2
        go_wp2_with (at_builtin; refine wpList_append_run rfl _ _ _ rfl rfl rfl hrun ?_)
        go_roundw
        case rel =>
          refine ⟨k + 1, by omega, by go_num, ⟨?_⟩, ⟨(HK.out.alloc _).then K2.out (fun i hi e => by have := (Hlt.out i e).1; omega)⟩⟩
          rw [Hy.out hh]
          exact Hown.out
        case measure => simp [intOf]; omega
      · go_wp2_with fail
        go_roundw
        case rel => exact ⟨k + 1, by omega, by go_num, ⟨by rw [Hn.out hh]; exact HO.out⟩, HK⟩
        case measure => simp [intOf]; omega
    · obtain rfl : k = 1000 := by omega
      go_wp2_with fail
      go_ret
      exact ⟨_, rfl, HO.out, HK.out⟩
end Go.Proofs.Ytofabbigngmboaa
