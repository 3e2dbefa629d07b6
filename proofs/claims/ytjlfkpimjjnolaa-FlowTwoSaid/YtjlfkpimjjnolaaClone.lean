/- slices.Clone at steps and at acts, walked. -/
import Derived.Test.YtjlfkpimjjnolaaRows
import Derived.Test.YtjlfkpimjjnolaaOrd
namespace Go.Proofs.Ytjlfkpimjjnolaa
open Go.RowKit
theorem infoSt : (Try.prog.info? 45).map (fun i => (i.zero, i.size, i.bytes)) = some (some (.agg #[.int .i64 0, .int .i64 0]), 2, 16) := by kernel_rfl
set_option maxHeartbeats 2000000 in
theorem cloneSt_to (a : Option Addr) (c : Nat) (L : List St) (w : World) (hL : StRow w a L) (hn : L.length ≤ 100000) :
    Calls Try.prog 33 #[.slice a L.length c] w (fun e w' => ∃ v, e = .returned v ∧ w'.ownsRow w.heap.size 45 2 v L.length (L.flatMap encSt) ∧ Keeps (fun _ => False) w w') := by
  cases a with
  | none =>
    have hL0 : L = [] := by
      cases L with
      | nil => rfl
      | cons x r =>
        obtain ⟨g, off, e, _⟩ := hL 0 x rfl
        cases e
    subst hL0
    have hq := @Lib.run_eql_slice_nil
    go_enter Try.func33, Try.ntmps33
    go_wp2
    go_ret
    exact ⟨_, rfl, World.ownsRow_nil _ _ _ _, Keeps.refl _ _⟩
  | some x =>
    have hc := hL.cells
    obtain ⟨i0, hi, hz0, hz1, hz2⟩ := info_parts infoSt
    have hown : (w.alloc (.cells #[] 45)).ownsRow w.heap.size 45 2 (.slice (some ⟨w.heap.size, 0, none⟩) 0 0) 0 [] := World.ownsRow_made w #[] 0 (Nat.le_refl _) (Nat.zero_le _) rfl
    obtain ⟨a', c', w2, hrun, hown', k2, _, hnew⟩ := run_append_new (P := Try.prog) (w.alloc (.cells #[] 45)) w.heap.size 22 22 45 i0 _ 2 16 Try.underlying22 hi hz0 hz1 hz2 rfl (by omega) _ _ _ hown x L.length c (L.flatMap encSt) (flat_len encSt 2 (fun _ => rfl) L)
      (fun j u hu => (((Below.refl w.heap.size w).alloc (Nat.le_refl _) (.cells #[] 45)).cell (World.block_lt_of_cell? w _ (hc j u hu))).trans (hc j u hu)) (encSt_one L) (by unfold maxLen; omega) (by omega) (by simp)
    have HO := Kept.mk hown'
    have hk : Kept (Keeps (fun _ => False) w w2) := ⟨((Keeps.refl (fun _ => False) w).alloc _).then k2 (fun i hi e => by simp only [Value.ownBlock, Option.some.injEq] at e; omega)⟩
    have hq := @Lib.run_eql_slice_nil
    rw [Nat.zero_add, List.nil_append] at hown'
    rw [Nat.zero_add] at hrun
    have HO := Kept.mk hown'
    clear hown hown' k2 hnew hc hL
    go_enter Try.func33, Try.ntmps33
    go_wp2_with (at_builtin; refine wpList_append_run rfl _ _ _ rfl rfl rfl hrun ?_)
    go_ret
    exact ⟨_, rfl, HO.out, hk.out⟩
theorem infoAct : (Try.prog.info? 30).map (fun i => (i.zero, i.size, i.bytes)) = some (some (.agg #[.int .i64 0, .int .i64 0]), 2, 16) := by kernel_rfl
set_option maxHeartbeats 2000000 in
theorem cloneAct_to (a : Option Addr) (c : Nat) (L : List St) (w : World) (hL : StRow w a L) (hn : L.length ≤ 100000) :
    Calls Try.prog 38 #[.slice a L.length c] w (fun e w' => ∃ v, e = .returned v ∧ w'.ownsRow w.heap.size 30 2 v L.length (L.flatMap encSt) ∧ Keeps (fun _ => False) w w') := by
  cases a with
  | none =>
    have hL0 : L = [] := by
      cases L with
      | nil => rfl
      | cons x r =>
        obtain ⟨g, off, e, _⟩ := hL 0 x rfl
        cases e
    subst hL0
    have hq := @Lib.run_eql_slice_nil
    go_enter Try.func38, Try.ntmps38
    go_wp2
    go_ret
    exact ⟨_, rfl, World.ownsRow_nil _ _ _ _, Keeps.refl _ _⟩
  | some x =>
    have hc := hL.cells
    obtain ⟨i0, hi, hz0, hz1, hz2⟩ := info_parts infoAct
    have hown : (w.alloc (.cells #[] 30)).ownsRow w.heap.size 30 2 (.slice (some ⟨w.heap.size, 0, none⟩) 0 0) 0 [] := World.ownsRow_made w #[] 0 (Nat.le_refl _) (Nat.zero_le _) rfl
    obtain ⟨a', c', w2, hrun, hown', k2, _, hnew⟩ := run_append_new (P := Try.prog) (w.alloc (.cells #[] 30)) w.heap.size 25 25 30 i0 _ 2 16 Try.underlying25 hi hz0 hz1 hz2 rfl (by omega) _ _ _ hown x L.length c (L.flatMap encSt) (flat_len encSt 2 (fun _ => rfl) L)
      (fun j u hu => (((Below.refl w.heap.size w).alloc (Nat.le_refl _) (.cells #[] 30)).cell (World.block_lt_of_cell? w _ (hc j u hu))).trans (hc j u hu)) (encSt_one L) (by unfold maxLen; omega) (by omega) (by simp)
    have HO := Kept.mk hown'
    have hk : Kept (Keeps (fun _ => False) w w2) := ⟨((Keeps.refl (fun _ => False) w).alloc _).then k2 (fun i hi e => by simp only [Value.ownBlock, Option.some.injEq] at e; omega)⟩
    have hq := @Lib.run_eql_slice_nil
    rw [Nat.zero_add, List.nil_append] at hown'
    rw [Nat.zero_add] at hrun
    have HO := Kept.mk hown'
    clear hown hown' k2 hnew hc hL
    go_enter Try.func38, Try.ntmps38
    go_wp2_with (at_builtin; refine wpList_append_run rfl _ _ _ rfl rfl rfl hrun ?_)
    go_ret
    exact ⟨_, rfl, HO.out, hk.out⟩
end Go.Proofs.Ytjlfkpimjjnolaa
