/- Clone of messages, and a post's All, walked. -/
import Derived.Test.YtkacnogjifhcoaaAllL
import Derived.Lib.SliceRun
namespace Go.Proofs.Ytkacnogjifhcoaa
open Go.RowKit
set_option maxHeartbeats 1000000 in
theorem clone_to (base : Nat) (v : Value) (L : List Ms) (w : World) (h : MsOwn w base v L) (hL : L.length ≤ 100000) :
    Calls Try.prog 48 #[v] w (fun e w' => ∃ v', e = .returned v' ∧ MsOwn w' w.heap.size v' L ∧ Keeps (fun _ => False) w w') := by
  obtain ⟨a, c, rfl, hlc, hcm⟩ := h.slice
  cases a with
  | none =>
    have hl : L = [] := by
      rcases h.2 with ⟨_, h2⟩ | ⟨g, cap, cur, h1, _⟩
      · exact List.eq_nil_of_length_eq_zero h2
      · simp at h1
    subst hl
    clear h
    have hq := @Lib.run_eql_slice_nil
    go_enter Try.func48, Try.ntmps48
    go_wp2_with fail
    go_ret
    exact ⟨_, rfl, MsOwn.nil _ _, Keeps.refl _ _⟩
  | some x =>
    have ka := (Keeps.refl (fun _ => False) w).alloc (.cells #[] 55)
    have hE : MsOwn (w.alloc (.cells #[] 55)) w.heap.size (.slice (some ⟨w.heap.size, 0, none⟩) 0 0) [] := World.ownsRow_made w #[] 0 (Nat.le_refl _) (Nat.zero_le _) rfl
    obtain ⟨a', c', w3, hrun, hM, k3⟩ := ms_append_row hE (by simpa using hL) (by simp) (h.quiet ka)
    simp only [List.length_nil, Nat.zero_add, List.nil_append] at hrun hM
    have HR := Kept.mk hrun
    have HM := Kept.mk hM
    have K3 : Kept (Keeps (fun _ => False) w w3) := ⟨ka.then k3 (fun i hi e => by simp only [Value.ownBlock, Option.some.injEq] at e; omega)⟩
    clear h hE hrun hM k3 ka
    have hq := @Lib.run_eql_slice_nil
    go_enter Try.func48, Try.ntmps48
    go_wp2_with (at_builtin; refine wpList_append_run rfl _ _ _ rfl rfl rfl HR.out ?_)
    go_ret
    exact ⟨_, rfl, HM.out, K3.out⟩
theorem pall_to (p base most lost : Nat) (v : Value) (L : List Ms) (w : World) (h : PostAt w p base most lost v L) : Calls Try.prog 44 #[.pointer (some ⟨p, 0, none⟩)] w (fun e w' => ∃ v, e = .returned v ∧ AllTo w w' v L) := by
  have b1 := h.blk.cell 1 rfl
  have HO := Kept.mk h.own
  have hl := h.full
  have hs := h.small
  obtain ⟨a, c, rfl, _, _⟩ := h.own.slice
  clear h
  go_enter Try.func44, Try.ntmps44
  go_wp2_with fail
  refine (clone_to base _ L _ HO.out (by omega)).mono ?_
  rintro e w1 ⟨v1, rfl, h1, k1⟩
  obtain ⟨a1, c1, rfl, _, _⟩ := h1.slice
  have hab : ∀ x, a1 = some x → w.heap.size ≤ x.block := fun x hx => by subst hx; exact (h1.lt x.block rfl).1
  have HR := Kept.mk h1.row
  have K1 := Kept.mk k1
  clear h1 k1 b1
  go_wp2_with fail
  refine (all_to a1 L.length c1 _).mono ?_
  rintro e _ ⟨rfl, rfl⟩
  go_wp2_with fail
  go_ret
  exact ⟨_, rfl, w1.heap.size, a1, c1, rfl, Blk.new w1 _ _, HR.out.quiet ((Keeps.refl _ w1).alloc _), hab, K1.out.alloc _⟩
end Go.Proofs.Ytkacnogjifhcoaa
