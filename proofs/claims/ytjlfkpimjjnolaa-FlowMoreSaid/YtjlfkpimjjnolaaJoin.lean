/- Acts written as rows; rows of acts joined. -/
import Derived.Test.YtjlfkpimjjnolaaAcApp
import Derived.Test.YtjlfkpimjjnolaaNewTr
namespace Go.Proofs.Ytjlfkpimjjnolaa
open Go.RowKit
/-- A run of append, told under a name (that two runs be told apart at once). -/
structure AppRun (v u : Value) (w : World) (v' : Value) (w' : World) : Prop where
  run : (Builtin.append_ #[25, 25] 25 #[v, u]).run Try.prog w = .ok v' w'
theorem wpList_app {ops : Array Oper} {rest : List Oper} {o : Oper} {a : Act} {Q : Exit → Act → World → Prop} {w w' : World} {v v' u : Value} (hgd : o.guard = none) (s x : Operand)
    (ho : o.op = .call { callee := .builtin .append, args := #[s, x], argTypes := #[25, 25] }) (ht : o.type = 25) (hs : a.eval s = v) (hx : a.eval x = u)
    (hr : AppRun v u w v' w') (h : wpList Try.prog ops Q rest (a.put o.dst v') w') : wpList Try.prog ops Q (o :: rest) a w :=
  wpList_append_run hgd s x 25 ho hs hx (by rw [ht]; exact hr.run) h
theorem step_app {ops : Array Oper} {o : Oper} {a : Act} {K : Act → World → Prop} {Q : Exit → Act → World → Prop} {E : Prop} {w w' : World} {v v' u : Value} (hw : Region.wanted o (yielded ops a.tmps) = true) (s x : Operand)
    (ho : o.op = .call { callee := .builtin .append, args := #[s, x], argTypes := #[25, 25] }) (ht : o.type = 25) (hs : a.eval s = v) (hx : a.eval x = u)
    (hr : AppRun v u w v' w') (h : K (a.put o.dst v') w') : if Region.wanted o (yielded ops a.tmps) = true then Oper.wp Try.prog o a w K Q else E := by
  rw [if_pos hw]
  have hr2 : (Builtin.append_ #[25, 25] o.type #[v, u]).run Try.prog w = .ok v' w' := by rw [ht]; exact hr.run
  unfold Oper.wp execOp
  simp only [ho, resolve, invoke, builtin, Sem.run_bind, Sem.run_pure, Result.andThen_ok, List.map_toArray, List.map_cons, List.map_nil, hs, hx, hr2]
  exact h
theorem acRow_of_blk {w : World} {b : Nat} {A : List Act2} (h : Blk w b 30 (A.flatMap encSt)) : AcRow w (some ⟨b, 0, none⟩) A := by
  intro k x hx
  refine ⟨b, 0, rfl, h.lt, h.cell (0 + k * 2) ?_, h.cell (0 + k * 2 + 1) ?_⟩
  · rw [show 0 + k * 2 = k * 2 + 0 by omega, flat_get encSt 2 (fun _ => rfl) A k x 0 hx (by omega)]
    rfl
  · rw [show 0 + k * 2 + 1 = k * 2 + 1 by omega, flat_get encSt 2 (fun _ => rfl) A k x 1 hx (by omega)]
    rfl
/-- A row of acts behind an own one. -/
theorem acs_append {w : World} {base : Nat} {v : Value} {A B : List Act2} {n m r cc : Nat} {p : Addr} (h : w.ownsRow base 30 2 v n (A.flatMap encSt)) (hB : AcRow w (some p) B) (hm : B.length = m) (hr : n + m = r) (hs : r ≤ 100000) (hb : base ≤ w.heap.size) :
    ∃ a' c' w2, (Builtin.append_ #[25, 25] 25 #[v, .slice (some p) m cc]).run Try.prog w = .ok (.slice a' r c') w2 ∧ w2.ownsRow base 30 2 (.slice a' r c') r ((A ++ B).flatMap encSt) ∧ Keeps (fun k => v.ownBlock = some k) w w2 ∧ NewRow w v (.slice a' r c') := by
  subst hr
  obtain ⟨i0, hi, hz0, hz1, hz2⟩ := info_parts infoAct
  obtain ⟨a', c', w2, hrun, hown', k2, _, hnew⟩ := run_append_new (P := Try.prog) w base 25 25 30 i0 _ 2 16 Try.underlying25 hi hz0 hz1 hz2 rfl (by omega) _ _ _ h p m cc (B.flatMap encSt) (by rw [flat_len encSt 2 (fun _ => rfl), hm]) (fun j u hu => hB.cells j u hu) (encSt_one B) (by unfold maxLen; omega) (by omega) hb
  rw [← List.flatMap_append] at hown'
  exact ⟨a', c', w2, hrun, hown', k2, hnew⟩
/-- A row of acts, copied: append to an empty one. -/
theorem acs_join {w : World} {B : List Act2} {m cc : Nat} {p : Addr} (hB : AcRow w (some p) B) (hm : B.length = m) (hs : m ≤ 100000) :
    ∃ a' c' w2, (Builtin.append_ #[25, 25] 25 #[.slice (some ⟨w.heap.size, 0, none⟩) 0 0, .slice (some p) m cc]).run Try.prog (w.alloc (.cells #[] 30)) = .ok (.slice a' m c') w2 ∧ w2.ownsRow w.heap.size 30 2 (.slice a' m c') m (B.flatMap encSt) ∧ Keeps (fun _ => False) w w2 := by
  have hown : (w.alloc (.cells #[] 30)).ownsRow w.heap.size 30 2 (.slice (some ⟨w.heap.size, 0, none⟩) 0 0) 0 (([] : List Act2).flatMap encSt) := World.ownsRow_made w #[] 0 (Nat.le_refl _) (Nat.zero_le _) rfl
  have ka := (Keeps.refl (fun _ => False) w).alloc (.cells #[] 30)
  obtain ⟨a', c', w2, hrun, h2, k2, _⟩ := acs_append (cc := cc) hown (hB.quiet ka) hm (Nat.zero_add m) hs (by simp)
  exact ⟨a', c', w2, hrun, h2, ka.then k2 (fun i hi e => by simp only [Value.ownBlock, Option.some.injEq] at e; omega)⟩
end Go.Proofs.Ytjlfkpimjjnolaa
