/- Package parcel, walked: Has, Went, Ids. -/
import Derived.Test.YtdbdhcfodolgdaaParcel2
namespace Go.Proofs.Ytdbdhcfodolgdaa
open Go.RowKit
theorem infoInt : (Try.prog.info? 3).map (fun i => (i.zero, i.size, i.bytes)) = some (some (.int .i64 0), 1, 8) := by kernel_rfl
theorem has_nil (id : Int) (w : World) : Calls Try.prog 25 #[.pointer none, .int .i64 id] w (Says w (.tuple #[.int .i64 0, .int .i64 0, .bool false])) := by
  go_enter Try.func25, Try.ntmps25
  go_wp2
  go_ret3
  exact ⟨rfl, rfl⟩
theorem went_nil (i : Int) (w : World) : Calls Try.prog 27 #[.pointer none, .int .i64 i] w (Says w (.int .i64 0)) := by
  go_enter Try.func27, Try.ntmps27
  go_wp2
  go_ret
  exact ⟨rfl, rfl⟩
theorem ids_nil (w : World) : Calls Try.prog 14 #[.pointer none] w (Says w (.slice none 0 0)) := by
  go_enter Try.func14, Try.ntmps14
  go_wp2
  go_ret
  exact ⟨rfl, rfl⟩
set_option maxHeartbeats 1000000 in
theorem has_none (p : Nat) (v : Value) (L : List Pc) (id : Int) (w : World) (h : PbAt 77 79 w p v L) (hg : look L id = none) :
    Calls Try.prog 25 #[.pointer (some ⟨p, 0, none⟩), .int .i64 id] w (fun e w' => e = .returned (.tuple #[.int .i64 0, .int .i64 0, .bool false]) ∧ Keeps (fun _ => False) w w') := by
  have Hf := Kept.mk (find_none hg)
  have H := Kept.mk h
  clear hg h
  go_enter Try.func25, Try.ntmps25
  go_wp2_with fail
  refine (find_any _ _ _ _ _ _ _ H.out Hf.out).mono ?_
  rintro e w1 ⟨rfl, k1⟩
  go_wp2_with fail
  go_ret3
  exact ⟨rfl, k1⟩
set_option maxHeartbeats 1000000 in
theorem has_some (p : Nat) (v : Value) (L : List Pc) (id i q : Int) (w : World) (h : PbAt 77 79 w p v L) (hg : look L id = some (i, q)) :
    Calls Try.prog 25 #[.pointer (some ⟨p, 0, none⟩), .int .i64 id] w (fun e w' => e = .returned (.tuple #[.int .i64 i, .int .i64 q, .bool true]) ∧ Keeps (fun _ => False) w w') := by
  obtain ⟨k, hk, hx⟩ := find_some hg
  have Hf := Kept.mk hk
  have H := Kept.mk h
  have hkl : k < L.length := (List.getElem?_eq_some_iff.1 hx).1
  have Hx := Kept.mk hx
  clear hg h hk hx
  go_enter Try.func25, Try.ntmps25
  go_wp2_with fail
  refine (find_any _ _ _ _ _ _ _ H.out Hf.out).mono ?_
  rintro e w1 ⟨rfl, k1⟩
  have h1 := H.out.quiet k1
  obtain ⟨a, cap, rfl, hm, hL⟩ := h1.open
  obtain ⟨g, off, rfl, hl, c0, c1, c2⟩ := hL k _ Hx.out
  have d0 := h1.cells.cell 0 rfl
  unfold maxLen at hm
  have hk0 : 0 ≤ (k : Int) := by omega
  have hk1 : (k : Int) < L.length := by omega
  clear hL h1 c0
  go_wp2_with fail
  go_region
  go_wp2_with fail
  go_ret3
  exact ⟨rfl, k1.drew⟩
end Go.Proofs.Ytdbdhcfodolgdaa
