/- Rows of messages joined; append's run under a name. -/
import Derived.Test.YtkacnogjifhcoaaCutMs
import Derived.Test.YtkacnogjifhcoaaMsDel
namespace Go.Proofs.Ytkacnogjifhcoaa
open Go.RowKit
/-- A run of append at messages, told under a name (that two runs be told apart at once). -/
structure MsRun (v u : Value) (w : World) (v' : Value) (w' : World) : Prop where
  run : (Builtin.append_ #[49, 49] 49 #[v, u]).run Try.prog w = .ok v' w'
theorem step_ms {ops : Array Oper} {o : Oper} {a : Act} {K : Act → World → Prop} {Q : Exit → Act → World → Prop} {E : Prop} {w w' : World} {v v' u : Value} (hw : Region.wanted o (yielded ops a.tmps) = true) (s x : Operand)
    (ho : o.op = .call { callee := .builtin .append, args := #[s, x], argTypes := #[49, 49] }) (ht : o.type = 49) (hs : a.eval s = v) (hx : a.eval x = u)
    (hr : MsRun v u w v' w') (h : K (a.put o.dst v') w') : if Region.wanted o (yielded ops a.tmps) = true then Oper.wp Try.prog o a w K Q else E := by
  rw [if_pos hw]
  have hr2 : (Builtin.append_ #[49, 49] o.type #[v, u]).run Try.prog w = .ok v' w' := by rw [ht]; exact hr.run
  unfold Oper.wp execOp
  simp only [ho, resolve, invoke, builtin, Sem.run_bind, Sem.run_pure, Result.andThen_ok, List.map_toArray, List.map_cons, List.map_nil, hs, hx, hr2]
  exact h
theorem ms_append_at {w : World} {base : Nat} {v : Value} {L M : List Ms} {p : Addr} {l m r cc : Nat} (h : MsOwn w base v L) (hl : L.length = l) (hM : MsRow w (some p) M) (hm : M.length = m) (hr : l + m = r) (hs : r ≤ 100000) (hb : base ≤ w.heap.size) :
    ∃ a' c' w', MsRun v (.slice (some p) m cc) w (.slice a' r c') w' ∧ MsOwn w' base (.slice a' r c') (L ++ M) ∧ Keeps (fun k => v.ownBlock = some k) w w' ∧ NewRow w v (.slice a' r c') := by
  subst hl
  subst hm
  subst hr
  obtain ⟨i0, hi, hz0, hz1, hz2⟩ := info_parts infoMsg
  obtain ⟨a', c', w', hrun, hown, k, _, hnr⟩ := run_append_new (P := Try.prog) w base 49 49 55 i0 _ 7 56 Try.underlying49 hi hz0 hz1 hz2 rfl (by omega) v L.length _ h p M.length cc (M.flatMap encMs) (flat_len encMs 7 encMs_len M) (fun j u hu => by
      have hj := (List.getElem?_eq_some_iff.1 hu).1
      rw [flat_len encMs 7 encMs_len] at hj
      obtain ⟨x, hx⟩ : ∃ x, M[j / 7]? = some x := ⟨_, List.getElem?_eq_getElem (by omega)⟩
      obtain ⟨g, off, e, _, hc⟩ := hM (j / 7) x hx
      simp only [Option.some.injEq] at e
      subst e
      have h1 := flat_get encMs 7 encMs_len M (j / 7) x (j % 7) hx (by omega)
      rw [show j / 7 * 7 + j % 7 = j by omega, hu] at h1
      have h2 := hc (j % 7) u h1.symm
      have e : (Addr.mk g off none).add j = ⟨g, off + j, none⟩ := by
        unfold Addr.add
        by_cases h0 : j = 0
        · subst h0; simp
        · simp [h0]
      rw [e, show off + j = off + j / 7 * 7 + j % 7 by omega]
      exact h2) (ms_ones M) (by unfold maxLen; omega) (by omega) hb
  refine ⟨a', c', w', ⟨hrun⟩, ?_, k, hnr⟩
  unfold MsOwn
  rw [List.flatMap_append, List.length_append]
  exact hown
theorem ms_from (g off n cap i : Nat) (hi : i < n) (hc : n ≤ cap) : ∃ A, (∀ W, (Instr.slice 49 (.slice (some ⟨g, off, none⟩) n cap) (some (.int .i64 ((i : Int) + 1))) none none).run Try.prog W = .ok (.slice (some A) (n - (i + 1)) (cap - (i + 1))) W) ∧ (i + 1 < n → A = ⟨g, off + (i + 1) * 7, none⟩) := by
  have ht : Try.prog.underlying 49 = some (.slice (Try.prog.elem 49)) := by simp [Program.elem, Try.underlying49]
  have he : Try.prog.elem 49 = 55 := by simp [Program.elem, Try.underlying49]
  have hs : ∀ W, (Go.sizeOf 55).run Try.prog W = .ok 7 W := fun W => by kernel_rfl
  have hadd : ∀ k, (Addr.mk g off none).add k = ⟨g, off + k, none⟩ := by
    intro k
    unfold Addr.add
    by_cases h : k = 0
    · subst h; simp
    · simp [h]
  have t1 : ((i : Int) + 1).toNat = i + 1 := by omega
  refine ⟨if cap = i + 1 then ⟨g, off, none⟩ else ⟨g, off + (i + 1) * 7, none⟩, fun W => ?_, fun h => ?_⟩
  · rw [run_slice_l W 49 (some ⟨g, off, none⟩) n cap ht .i64 ((i : Int) + 1) (by omega) (by omega), he, hs]
    simp only [Result.andThen, sliced, t1, Option.map_some, hadd]
    by_cases h : cap = i + 1
    · rw [if_pos h, if_pos h]
    · rw [if_neg h, if_neg h]
  · rw [if_neg (by omega)]
theorem msRow_take {w : World} {a : Option Addr} {L : List Ms} (h : MsRow w a L) (k : Nat) : MsRow w a (L.take k) := by
  intro i x hx
  rw [List.getElem?_take] at hx
  split at hx
  · exact h i x hx
  · cases hx
theorem msRow_drop {w : World} {g off k : Nat} {A : Addr} {L : List Ms} (h : MsRow w (some ⟨g, off, none⟩) L) (hA : k < L.length → A = ⟨g, off + k * 7, none⟩) : MsRow w (some A) (L.drop k) := by
  intro i x hx
  rw [List.getElem?_drop] at hx
  obtain ⟨g', off', e, hl, hc⟩ := h (k + i) x hx
  simp only [Option.some.injEq, Addr.mk.injEq, and_true] at e
  obtain ⟨rfl, rfl⟩ := e
  have hk : k < L.length := by have := (List.getElem?_eq_some_iff.1 hx).1; omega
  refine ⟨g, off + k * 7, by rw [hA hk], hl, fun j u hu => ?_⟩
  have h1 := hc j u hu
  rwa [show off + (k + i) * 7 + j = off + k * 7 + i * 7 + j by omega] at h1
/-- An empty row of one's own. -/
theorem msOwn_empty (w : World) : MsOwn (w.alloc (.cells #[] 55)) w.heap.size (.slice (some ⟨w.heap.size, 0, none⟩) 0 0) [] := World.ownsRow_made w #[] 0 (Nat.le_refl _) (Nat.zero_le _) rfl
end Go.Proofs.Ytkacnogjifhcoaa
