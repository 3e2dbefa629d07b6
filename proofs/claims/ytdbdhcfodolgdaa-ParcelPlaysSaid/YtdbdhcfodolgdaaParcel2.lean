/- Package parcel, walked: Ship. -/
import Derived.Test.YtdbdhcfodolgdaaParcel
namespace Go.Proofs.Ytdbdhcfodolgdaa
open Go.RowKit
theorem infoPc : (Try.prog.info? 79).map (fun i => (i.zero, i.size, i.bytes)) = some (some (.agg #[.int .i64 0, .int .i64 0, .int .i64 0]), 3, 24) := by kernel_rfl
/-- Behind a Ship. -/
def PbTo (T E : TypeId) (w : World) (p : Nat) (v : Value) (L : List Pc) (w' : World) : Prop := ∃ v', PbAt T E w' p v' L ∧ NewRow w v v' ∧ Keeps (fun k => k = p ∨ v.ownBlock = some k) w w'
theorem pbTo_same {T E : TypeId} {w : World} {p : Nat} {v : Value} {L : List Pc} (h : PbAt T E w p v L) : PbTo T E w p v L w := ⟨v, h, fun _ hg => .inl hg, Keeps.refl _ _⟩
theorem pbTo_quiet {T E : TypeId} {w w' : World} {p : Nat} {v : Value} {L : List Pc} (h : PbAt T E w p v L) (k : Keeps (fun _ => False) w w') : PbTo T E w p v L w' := ⟨v, h.quiet k, fun _ hg => .inl hg, k.mono (fun _ _ h => h.elim)⟩
theorem PbAt.pushed {T E : TypeId} {w w1 w2 : World} {o : Obj} {p : Nat} {v v' : Value} {L : List Pc} {x : Pc} (k1 : Keeps (fun _ => False) w w1) (h1 : PbAt T E w1 p v L) (k2 : Keeps (fun k => v.ownBlock = some k) (w1.alloc o) w2) (ho : w2.ownsRow 0 E 3 v' (L.length + 1) (L.flatMap encPc ++ encPc x)) (hn : NewRow (w1.alloc o) v v') :
    PbTo T E w p v (L ++ [x]) (w2.setCell ⟨p, 0, none⟩ v') := by
  have hp := h1.cells.lt
  have hne : v'.ownBlock ≠ some p := by
    intro e
    rcases hn p e with h | h
    · exact h1.ne h
    · rw [World.size_alloc] at h; omega
  have hc2 : Blk w2 p T [v] := (h1.cells.alloc o).keeps k2 (fun e => h1.ne e)
  have ks : Keeps (fun k => k = p) w2 (w2.setCell ⟨p, 0, none⟩ v') := (Keeps.refl (fun k => k = p) w2).setCell (p := ⟨p, 0, none⟩) (.inr rfl) _
  refine ⟨v', ⟨hc2.set 0 v', ?_, hne⟩, fun g hg => ?_, ?_⟩
  · rw [List.length_append, List.flatMap_append, List.flatMap_cons, List.flatMap_nil, List.append_nil]
    exact ownsRow_keeps ho ks (fun g hg e => hne (by rw [hg, e]))
  · rcases hn g hg with h | h
    · exact .inl h
    · rw [World.size_alloc] at h
      have := k1.size
      exact .inr (by omega)
  · refine (k1.mono (fun _ _ h => h.elim)).trans ((((Keeps.refl _ w1).alloc o).trans (k2.mono (fun _ _ h => .inr h))).trans (ks.mono (fun _ _ h => .inl h)))
set_option maxHeartbeats 1000000 in
theorem ship_nil (id item qty : Int) (w : World) : Calls Try.prog 13 #[.pointer none, .int .i64 id, .int .i64 item, .int .i64 qty] w (Says w (.int .i64 1)) := by
  go_enter Try.func13, Try.ntmps13
  go_wp2
  go_ret
  exact ⟨rfl, rfl⟩
set_option maxHeartbeats 2000000 in
theorem ship_bad (p : Nat) (id item qty : Int) (w : World) (h : ¬ isArg id item qty) : Calls Try.prog 13 #[.pointer (some ⟨p, 0, none⟩), .int .i64 id, .int .i64 item, .int .i64 qty] w (Says w (.int .i64 1)) := by
  unfold isArg at h
  by_cases h1 : id < 1
  · clear h
    go_enter Try.func13, Try.ntmps13
    go_wp2_with fail
    go_ret
    exact ⟨rfl, rfl⟩
  by_cases h2 : 999 < id
  · clear h
    go_enter Try.func13, Try.ntmps13
    go_wp2_with fail
    go_ret
    exact ⟨rfl, rfl⟩
  by_cases h3 : item < 0
  · clear h
    go_enter Try.func13, Try.ntmps13
    go_wp2_with fail
    go_ret
    exact ⟨rfl, rfl⟩
  by_cases h4 : 8 ≤ item
  · clear h
    go_enter Try.func13, Try.ntmps13
    go_wp2_with fail
    go_ret
    exact ⟨rfl, rfl⟩
  by_cases h5 : qty = 0
  · subst h5
    clear h
    go_enter Try.func13, Try.ntmps13
    go_wp2_with fail
    go_ret
    exact ⟨rfl, rfl⟩
  have hm : Kept (mayB qty = false) := ⟨by
    cases hm : mayB qty with
    | false => rfl
    | true => exact absurd ((mayB_iff qty).1 hm) (by omega)⟩
  have h6 : (qty == 0) = false := by simpa using h5
  clear h h5
  go_enter Try.func13, Try.ntmps13
  go_wp2_with fail
  refine (may_to _ _ _ hm.out).mono ?_
  rintro e _ ⟨rfl, rfl⟩
  go_wp2_with fail
  go_ret
  exact ⟨rfl, rfl⟩
set_option maxHeartbeats 2000000 in
theorem ship_twice (p : Nat) (v : Value) (L : List Pc) (id item qty : Int) (y : Int × Int) (w : World) (h : PbAt 77 79 w p v L) (ha : isArg id item qty) (hg : look L id = some y) :
    Calls Try.prog 13 #[.pointer (some ⟨p, 0, none⟩), .int .i64 id, .int .i64 item, .int .i64 qty] w (fun e w' => e = .returned (.int .i64 8) ∧ Keeps (fun _ => False) w w') := by
  obtain ⟨a1, a2, a3, a4, a5, a6, a7⟩ := ha
  have hm : Kept (mayB qty = true) := ⟨(mayB_iff qty).2 ⟨a6, a7⟩⟩
  obtain ⟨k, hk, _⟩ := find_some hg
  have Hk := Kept.mk hk
  have H := Kept.mk h
  have h6 : (qty == 0) = false := by simpa using a5
  clear hg hk h a5
  go_enter Try.func13, Try.ntmps13
  go_wp2_with fail
  refine (may_to _ _ _ hm.out).mono ?_
  rintro e _ ⟨rfl, rfl⟩
  go_wp2_with fail
  refine (find_any _ _ _ _ _ _ _ H.out Hk.out).mono ?_
  rintro e w1 ⟨rfl, k1⟩
  go_wp2_with fail
  go_ret
  exact ⟨rfl, k1⟩
set_option maxHeartbeats 2000000 in
theorem ship_new (p : Nat) (v : Value) (L : List Pc) (id item qty : Int) (w : World) (h : PbAt 77 79 w p v L) (hL : L.length ≤ 1000) (ha : isArg id item qty) (hg : look L id = none) :
    Calls Try.prog 13 #[.pointer (some ⟨p, 0, none⟩), .int .i64 id, .int .i64 item, .int .i64 qty] w (fun e w' => e = .returned (.int .i64 0) ∧ PbTo 77 79 w p v (L ++ [(id, item, qty)]) w') := by
  obtain ⟨a1, a2, a3, a4, a5, a6, a7⟩ := ha
  have hm : Kept (mayB qty = true) := ⟨(mayB_iff qty).2 ⟨a6, a7⟩⟩
  have hf := find_none hg
  have Hf := Kept.mk hf
  have H := Kept.mk h
  have HL := Kept.mk hL
  have h6 : (qty == 0) = false := by simpa using a5
  clear hg hf h a5 hL
  go_enter Try.func13, Try.ntmps13
  go_wp2_with fail
  refine (may_to _ _ _ hm.out).mono ?_
  rintro e _ ⟨rfl, rfl⟩
  go_wp2_with fail
  refine (find_any _ _ _ _ _ _ _ H.out Hf.out).mono ?_
  rintro e w1 ⟨rfl, k1⟩
  obtain ⟨i0, hi, hz0, hz1, hz2⟩ := info_parts infoPc
  have h1 := H.out.quiet k1
  have h1r := (h1.alloc (.cells #[.int .i64 id, .int .i64 item, .int .i64 qty] 79)).row
  have hblk := Blk.new w1 79 [.int .i64 id, .int .i64 item, .int .i64 qty]
  have b0 := hblk.cell 0 rfl
  have b1 := hblk.cell 1 rfl
  have b2 := hblk.cell 2 rfl
  obtain ⟨a, cap, rfl, _, _⟩ := h1.open
  obtain ⟨a', c', w2, hrun, hown', k2, _, hnew⟩ := run_append_new (P := Try.prog) (w1.alloc (.cells #[.int .i64 id, .int .i64 item, .int .i64 qty] 79)) 0 75 75 79 i0 _ 3 24 Try.underlying75 hi hz0 hz1 hz2 rfl (by omega) _ _ _ h1r ⟨w1.heap.size, 0, none⟩ 1 1 [.int .i64 id, .int .i64 item, .int .i64 qty] rfl
    (by
      intro j u hu
      match j, hu with
      | 0, hu => simp at hu; subst hu; exact b0
      | 1, hu => simp at hu; subst hu; exact b1
      | 2, hu => simp at hu; subst hu; exact b2) (by intro u hu; simp at hu; rcases hu with rfl | rfl | rfl <;> rfl) (by have := HL.out; unfold maxLen; omega) (by have := HL.out; omega) (Nat.zero_le _)
  have c0 := (h1.alloc (.cells #[.int .i64 id, .int .i64 item, .int .i64 qty] 79)).cells.cell 0 rfl
  have hp1 := h1.cells.lt
  have hc2 := (h1.alloc (.cells #[.int .i64 id, .int .i64 item, .int .i64 qty] 79)).cells.keeps k2 (fun e => h1.ne e)
  have d0 := hc2.cell 0 rfl
  have f0 := hc2.frozen 0
  have e0 := h1.cells.cell 0 rfl
  have Hn := Kept.mk hnew
  have Ho := Kept.mk hown'
  have Hc := Kept.mk hc2
  have K2 := Kept.mk k2
  have H1 := Kept.mk h1
  clear hnew hown' hc2 k2 h1 h1r hblk
  go_wp2_with (at_builtin; refine wpList_append_run rfl _ _ _ rfl rfl rfl hrun ?_)
  go_ret
  exact ⟨rfl, PbAt.pushed k1 H1.out K2.out Ho.out Hn.out⟩
theorem ship_to (p : Nat) (v : Value) (L L' : List Pc) (id item qty r : Int) (w : World) (h : PbAt 77 79 w p v L) (hL : L.length ≤ 1000) (hr : shipP L id item qty = (r, L')) :
    Calls Try.prog 13 #[.pointer (some ⟨p, 0, none⟩), .int .i64 id, .int .i64 item, .int .i64 qty] w (fun e w' => e = .returned (.int .i64 r) ∧ PbTo 77 79 w p v L' w') := by
  unfold shipP at hr
  by_cases ha : isArg id item qty
  · rw [if_pos ha] at hr
    cases hg : look L id with
    | none =>
      rw [if_pos hg] at hr; cases hr
      exact ship_new p v L id item qty w h hL ha hg
    | some y =>
      rw [if_neg (by rw [hg]; simp)] at hr; cases hr
      exact (ship_twice p v L id item qty y w h ha hg).mono fun _ _ ⟨he, k⟩ => ⟨he, pbTo_quiet h k⟩
  · rw [if_neg ha] at hr; cases hr
    exact (ship_bad p id item qty w ha).mono fun _ _ ⟨he, hw⟩ => ⟨he, by subst hw; exact pbTo_same h⟩
end Go.Proofs.Ytdbdhcfodolgdaa
