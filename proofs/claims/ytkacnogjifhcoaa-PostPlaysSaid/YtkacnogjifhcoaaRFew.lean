/- The law's few, walked. -/
import Derived.Test.YtkacnogjifhcoaaOpen6
namespace Go.Proofs.Ytkacnogjifhcoaa
open Go.RowKit
theorem PCallRow.keeps {w w' : World} {a : Option Addr} {C : List PCall} (h : PCallRow w a C) (k : Keeps (fun _ => False) w w') : PCallRow w' a C := by
  intro i x hx
  obtain ⟨g, off, e, hl, h0⟩ := h i x hx
  have h1 := k.cell (p := ⟨g, off + i * 3, none⟩) hl (fun h => h)
  have h2 := k.cell (p := ⟨g, off + i * 3 + 1, none⟩) hl (fun h => h)
  have h3 := k.cell (p := ⟨g, off + i * 3 + 2, none⟩) hl (fun h => h)
  exact ⟨g, off, e, Nat.lt_of_lt_of_le hl k.size, ⟨h1.trans h0.c0, h2.trans h0.c1, h3.trans h0.c2, h0.row.quiet k, h0.few⟩⟩
/-- Few calls of few messages. -/
def FewC (C : List PCall) : Prop := C.length ≤ 100 ∧ ∀ x ∈ C, x.L.length ≤ 600
set_option linter.unusedSimpArgs false in
set_option maxRecDepth 100000 in
set_option maxHeartbeats 4000000 in
theorem few17_to (a : Option Addr) (c : Nat) (C : List PCall) (w : World) (hC : PCallRow w a C) (hl : (C.length : Int) ≤ 9223372036854775807) :
    Calls Try.prog 32 #[.slice a C.length c] w (fun e w' => ∃ r, e = .returned (.bool r) ∧ (r = true → FewC C) ∧ Keeps (fun _ => False) w w') := by
  have HC := Kept.mk hC
  obtain ⟨n, hn⟩ : ∃ n, C.length = n := ⟨_, rfl⟩
  rw [hn] at hl
  have HN := Kept.mk hn
  rw [hn]
  clear hC hn
  go_enter Try.func32, Try.ntmps32
  go_wp2_with fail
  go_loopw [3, 8] (fun s i wr => ∃ (k : Nat) (q : Nat), k ≤ n ∧ k ≤ 100 ∧ q ≤ 600 ∧ s = .int .i64 q ∧ i = .int .i64 k ∧ Kept (∀ x ∈ C.take k, x.L.length ≤ 600) ∧ Keeps (fun _ => False) w wr) (fun _ i _ => n - (intOf i).toNat)
  case atStart => exact ⟨0, 0, Nat.zero_le _, Nat.zero_le _, Nat.zero_le _, rfl, rfl, ⟨fun x hx => by simp at hx⟩, Keeps.refl _ _⟩
  case round =>
    obtain ⟨k, q, hk, hk2, hq, rfl, rfl, hx, hK⟩ := hrel
    have HK := Kept.mk hK
    clear hK
    by_cases hlt : k < n
    · have hki : (k : Int) < n := by omega
      obtain ⟨y, hy⟩ : ∃ y, C[k]? = some y := ⟨_, List.getElem?_eq_getElem (by rw [HN.out]; exact hlt)⟩
      obtain ⟨g, off, rfl, hg, hyy⟩ := HC.out.keeps HK.out k y hy
      have c0 := hyy.c0
      have c1 := hyy.c1
      have c2 := hyy.c2
      have hfew := hyy.few
      have HY := Kept.mk hy
      obtain ⟨yd, yi, ya, yc, yL⟩ := y
      dsimp only at c0 c1 c2 hfew
      obtain ⟨l, hll⟩ : ∃ l, yL.length = l := ⟨_, rfl⟩
      rw [hll] at c2 hfew
      have HL := Kept.mk hll
      clear hyy hy hll
      by_cases h100 : 100 ≤ k
      · have h100i : (100 : Int) ≤ k := by omega
        go_wp2_with fail
        go_ret
        first | exact ⟨false, rfl, (fun e => by cases e), HK.out.alloc _⟩ | exact .inl ⟨rfl, HK.out.alloc _⟩
      · have h100i : ¬ (100 : Int) ≤ k := by omega
        by_cases h600 : 600 < q + l
        · have h6i : (600 : Int) < (q : Int) + l := by omega
          go_wp2_with fail
          go_ret
          first | exact ⟨false, rfl, (fun e => by cases e), HK.out.alloc _⟩ | exact .inl ⟨rfl, HK.out.alloc _⟩
        · have h6i : ¬ (600 : Int) < (q : Int) + l := by omega
          go_wp2_with fail
          go_roundw
          case rel => exact ⟨k + 1, q + l, by omega, by omega, by omega, by go_num, by go_num, ⟨fun x hxm => by
            rw [List.take_add_one, HY.out] at hxm
            rcases List.mem_append.1 hxm with h | h
            · exact hx.out x h
            · simp at h
              subst h
              show yL.length ≤ 600
              rw [HL.out]; omega⟩, HK.out.alloc _⟩
          case measure => simp [intOf]; omega
    · obtain rfl : k = n := by omega
      have hkl : ¬ (k : Int) < (k : Int) := by omega
      have HT : Kept (∀ x ∈ C, x.L.length ≤ 600) := ⟨by have h1 := hx.out; rwa [List.take_of_length_le (by rw [HN.out]; omega)] at h1⟩
      go_wp2_with fail
      go_ret
      exact .inr ⟨rfl, ⟨by rw [HN.out]; exact hk2, HT.out⟩, HK.out⟩
end Go.Proofs.Ytkacnogjifhcoaa
