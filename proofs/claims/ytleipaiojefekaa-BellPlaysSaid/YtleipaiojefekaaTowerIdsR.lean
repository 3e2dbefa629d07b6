/- The reference's row of ids, walked; it is the keys, rising. -/
import Derived.Test.YtleipaiojefekaaTowerRef
import Derived.Test.YtleipaiojefekaaTowerIds
namespace Go.Proofs.Ytleipaiojefekaa
open Go.RowKit
def idsN (B : Nat → Int) (k : Nat) : List Int := ((List.range k).filter fun i : Nat => hasB B (i : Int)).map fun i : Nat => (i : Int)
theorem idsN_yes {B : Nat → Int} {k : Nat} (h : hasB B k = true) : idsN B (k + 1) = idsN B k ++ [(k : Int)] := by
  unfold idsN
  rw [List.range_succ, List.filter_append, List.map_append]
  simp [h]
theorem idsN_no {B : Nat → Int} {k : Nat} (h : hasB B k = false) : idsN B (k + 1) = idsN B k := by
  unfold idsN
  rw [List.range_succ, List.filter_append, List.map_append]
  simp [h]
theorem idsN_len (B : Nat → Int) (k : Nat) : (idsN B k).length ≤ k := by
  unfold idsN
  rw [List.length_map]
  exact Nat.le_trans (List.length_filter_le _ _) (by simp)
theorem mem_idsN {B : Nat → Int} {x : Int} : x ∈ idsN B 1000 ↔ hasB B x = true := by
  unfold idsN
  rw [List.mem_map]
  constructor
  · rintro ⟨i, hi, rfl⟩
    exact (List.mem_filter.1 hi).2
  · intro h
    obtain ⟨_, h0, h1, _⟩ := hasB_id h
    refine ⟨x.toNat, List.mem_filter.2 ⟨List.mem_range.2 (by omega), ?_⟩, by omega⟩
    have e : ((x.toNat : Nat) : Int) = x := by omega
    rw [e]
    exact h
theorem idsN_sorted (B : Nat → Int) (k : Nat) : (idsN B k).Pairwise (· < ·) := by
  unfold idsN
  rw [List.pairwise_map]
  exact (List.Pairwise.filter _ List.pairwise_lt_range).imp fun h => by omega
/-- The page's tower and the book hold the same. -/
structure Agr (s : Tw) (B : Nat → Int) : Prop where
  keys : ∀ x ∈ MP.keys s.L, 1 ≤ x ∧ x ≤ 999
  get : ∀ k : Nat, B k = (MP.get s.L k).getD (-1)
theorem mem_keys_iff {α : Type} {L : List (Int × α)} {x : Int} : x ∈ MP.keys L ↔ ∃ a, MP.get L x = some a := by
  constructor
  · intro h
    cases e : MP.get L x with
    | some a => exact ⟨a, rfl⟩
    | none =>
      exfalso
      induction L with
      | nil => simp [MP.keys] at h
      | cons p r ih =>
        obtain ⟨y, a⟩ := p
        rw [MP.get_cons] at e
        split at e
        · cases e
        · rename_i hne
          simp only [MP.keys, List.map_cons, List.mem_cons] at h
          rcases h with h | h
          · exact hne h
          · exact ih h e
  · rintro ⟨a, h⟩
    exact MP.mem_keys_of_get h
theorem Agr.has {s : Tw} {B : Nat → Int} (h : Agr s B) (ok : s.Ok) (x : Int) : hasB B x = (MP.get s.L x).isSome := by
  by_cases hx : 1 ≤ x ∧ x ≤ 999
  · have e : ((x.toNat : Nat) : Int) = x := by omega
    have hg := h.get x.toNat
    rw [e] at hg
    unfold hasB
    rw [idB_yes hx, Bool.true_and, hg]
    cases hl : MP.get s.L x with
    | none => simp
    | some v =>
      have := (ok.vals x v hl).1
      simp [this]
  · unfold hasB
    rw [idB_no hx, Bool.false_and]
    cases hl : MP.get s.L x with
    | none => rfl
    | some v => exact absurd (h.keys x (MP.mem_keys_of_get hl)) hx
theorem Agr.ids {s : Tw} {B : Nat → Int} (h : Agr s B) (ok : s.Ok) : MP.rise s.L = idsN B 1000 := by
  have hnd : (idsN B 1000).Nodup := (idsN_sorted B 1000).imp fun h => by omega
  have hp : (MP.keys s.L).Perm (idsN B 1000) := (List.perm_ext_iff_of_nodup ok.nodup hnd).2 fun x => by
    rw [mem_idsN, h.has ok, mem_keys_iff, Option.isSome_iff_exists]
  unfold MP.rise
  rw [mergeSort_of_perm_i hp]
  exact List.mergeSort_of_pairwise ((idsN_sorted B 1000).imp fun h => by simp only [leI, decide_eq_true_eq]; omega)
set_option maxRecDepth 100000 in
set_option maxHeartbeats 4000000 in
theorem rids_to (q : Nat) (n : Int) (B : Nat → Int) (w : World) (h : RT w q n B) :
    Calls Try.prog 31 #[.pointer (some ⟨q, 0, none⟩)] w (fun e w' => ∃ u, e = .returned u ∧ NumOwn w' w.heap.size u (idsN B 1000) ∧ Keeps (fun _ => False) w w') := by
  have H := Kept.mk h
  clear h
  go_enter Try.func31, Try.ntmps31
  go_wp2_with fail
  go_loopw [3, 4, 5] (fun u _ i wr => ∃ k : Nat, k ≤ 1000 ∧ i = .int .i64 k ∧ Kept (NumOwn wr w.heap.size u (idsN B k)) ∧ Kept (Keeps (fun _ => False) w wr)) (fun _ _ i _ => 1000 - (intOf i).toNat)
  case atStart => exact ⟨0, by omega, rfl, ⟨NumOwn.nil _ _⟩, ⟨Keeps.refl _ _⟩⟩
  case round =>
    obtain ⟨k, hk, rfl, HO, HK⟩ := hrel
    have hz := HK.out.size
    obtain ⟨ua, uc, rfl, hul, hum⟩ := HO.out.slice
    by_cases hlt : k < 1000
    · have HT := Kept.mk (H.out.keeps HK.out (fun h => h))
      have hki : (k : Int) < 1000 := by omega
      have hlen := idsN_len B k
      cases hh : hasB B k with
      | true =>
        have Hh := Kept.mk hh
        have He := Kept.mk (idsN_yes hh)
        clear hh
        go_wp2_with fail
        refine (rhas_to _ _ _ _ _ _ HT.out Hh.out).mono ?_
        rintro e _ ⟨rfl, rfl⟩
        obtain ⟨a', c', w2, hrun, hown', k2⟩ := num_append (w := wr.alloc (.cells #[.int .i64 (k : Int)] 3)) (m := (k : Int)) (s := wr.heap.size) (T := 3) (World.ownsRow.alloc HO.out _) (by omega) (by simp; omega) (Blk.newAt wr 3 [.int .i64 (k : Int)] _ rfl)
        have Hown := Kept.mk hown'
        have Hlt := Kept.mk HO.out.lt
        have K2 := Kept.mk k2
        clear hown' k2
        go_wp2_with (at_builtin; refine wpList_append_run rfl _ _ _ rfl rfl rfl hrun ?_)
        go_roundw
        case rel =>
          refine ⟨k + 1, by omega, by go_num, ⟨?_⟩, ⟨(HK.out.alloc _).then K2.out (fun i hi e => by have := (Hlt.out i e).1; omega)⟩⟩
          rw [He.out]
          exact Hown.out
        case measure => simp [intOf]; omega
      | false =>
        have Hh := Kept.mk hh
        have He := Kept.mk (idsN_no hh)
        clear hh
        go_wp2_with fail
        refine (rhas_to _ _ _ _ _ _ HT.out Hh.out).mono ?_
        rintro e _ ⟨rfl, rfl⟩
        go_wp2_with fail
        go_roundw
        case rel => exact ⟨k + 1, by omega, by go_num, ⟨by rw [He.out]; exact HO.out⟩, HK⟩
        case measure => simp [intOf]; omega
    · obtain rfl : k = 1000 := by omega
      go_wp2_with fail
      go_ret
      exact ⟨_, rfl, HO.out, HK.out⟩
end Go.Proofs.Ytleipaiojefekaa
