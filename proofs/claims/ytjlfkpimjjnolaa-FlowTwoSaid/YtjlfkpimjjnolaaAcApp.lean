/- An act more, behind an own row of acts. -/
import Derived.Test.YtjlfkpimjjnolaaModelLaws
namespace Go.Proofs.Ytjlfkpimjjnolaa
open Go.RowKit
theorem ac_append {w : World} {base : Nat} {v : Value} {A : List Act2} {x y : Int} (s : Nat) (h : w.ownsRow base 30 2 v A.length (A.flatMap encSt)) (hA : A.length ≤ 1000) (hb : base ≤ w.heap.size)
    (b0 : w.cell? ⟨s, 0, none⟩ = some (.int .i64 x)) (b1 : w.cell? ⟨s, 1, none⟩ = some (.int .i64 y)) :
    ∃ a' c' w2, (Builtin.append_ #[25, 25] 25 #[v, .slice (some ⟨s, 0, none⟩) 1 1]).run Try.prog w = .ok (.slice a' (A.length + 1) c') w2 ∧ w2.ownsRow base 30 2 (.slice a' (A.length + 1) c') (A ++ [(x, y)]).length ((A ++ [(x, y)]).flatMap encSt) ∧ Keeps (fun k => v.ownBlock = some k) w w2 ∧ NewRow w v (.slice a' (A.length + 1) c') := by
  obtain ⟨i0, hi, hz0, hz1, hz2⟩ := info_parts infoAct
  obtain ⟨a', c', w2, hrun, hown', k2, _, hnew⟩ := run_append_new (P := Try.prog) w base 25 25 30 i0 _ 2 16 Try.underlying25 hi hz0 hz1 hz2 rfl (by omega) _ _ _ h ⟨s, 0, none⟩ 1 1 [.int .i64 x, .int .i64 y] rfl
    (by
      intro j u hu
      match j, hu with
      | 0, hu => simp at hu; subst hu; exact b0
      | 1, hu => simp at hu; subst hu; exact b1) (by intro u hu; simp at hu; rcases hu with rfl | rfl <;> rfl) (by unfold maxLen; omega) (by omega) hb
  have e : A.flatMap encSt ++ [.int .i64 x, .int .i64 y] = (A ++ [(x, y)]).flatMap encSt := by rw [List.flatMap_append]; rfl
  rw [e] at hown'
  refine ⟨a', c', w2, hrun, ?_, k2, hnew⟩
  rw [List.length_append]
  exact hown'
end Go.Proofs.Ytjlfkpimjjnolaa
