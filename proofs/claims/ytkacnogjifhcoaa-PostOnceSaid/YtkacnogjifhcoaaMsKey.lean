/- Messages as keys of a map: two of them are the same where all their numbers are. -/
import Derived.Test.YtkacnogjifhcoaaSameMs
import Derived.Test.YtkacnogjifhcoaaRangeK
namespace Go.Proofs.Ytkacnogjifhcoaa
open Go.RowKit Go.MapKept
theorem Ms.same (m n : Ms) : (m.kind = n.kind ∧ m.src = n.src ∧ m.dst = n.dst ∧ m.id = n.id ∧ m.step = n.step ∧ m.a = n.a ∧ m.b = n.b) ↔ m = n := by
  obtain ⟨m0, m1, m2, m3, m4, m5, m6⟩ := m
  obtain ⟨n0, n1, n2, n3, n4, n5, n6⟩ := n
  simp
instance : DecidableEq Ms := fun m n => decidable_of_iff _ (Ms.same m n)
def ekMs (m : Ms) : Value := .agg (encMs m).toArray
theorem eqFields_at {xs ys : Array Value} {n : Nat} (fx fy : Nat → Int) (hx : ∀ k, k < n → xs[k]? = some (.int .i64 (fx k))) (hy : ∀ k, k < n → ys[k]? = some (.int .i64 (fy k))) (w : World) : ∀ (fs : List Field), (fs.all fun f => f.type == 3 && decide (f.offset < n) && !(f.name == "_")) = true →
    (Op.eqFields 9999 xs ys fs).run Try.prog w = .ok (fs.all fun f => fx f.offset == fy f.offset) w
  | [], _ => by simp [Op.eqFields]
  | f :: fs, h => by
    simp only [List.all_cons, Bool.and_eq_true, beq_iff_eq, decide_eq_true_eq, Bool.not_eq_true', beq_eq_false_iff_ne] at h
    obtain ⟨⟨⟨h1, h2⟩, h4⟩, h3⟩ := h
    have hp : (part f.type xs f.offset).run Try.prog w = .ok (.int .i64 (fx f.offset)) w := by
      rw [h1]
      exact run_part_plain (P := Try.prog) w (by kernel_rfl) (hx _ h2)
    have hq : (part f.type ys f.offset).run Try.prog w = .ok (.int .i64 (fy f.offset)) w := by
      rw [h1]
      exact run_part_plain (P := Try.prog) w (by kernel_rfl) (hy _ h2)
    have hi : (Op.equalIn 9999 f.type (.int .i64 (fx f.offset)) (.int .i64 (fy f.offset))).run Try.prog w = .ok (fx f.offset == fy f.offset) w := by
      rw [h1, run_equalIn_int w 9998 3 .i64 .i64 _ _ Try.underlying3]
    have ih := eqFields_at fx fy hx hy w fs (by simpa using h3)
    rw [Op.eqFields, if_pos h4]
    simp only [Sem.run_bind, hp, hq, hi, Result.andThen_ok, List.all_cons]
    cases hb : (fx f.offset == fy f.offset)
    · simp
    · simpa using ih
def Ms.num (m : Ms) : Nat → Int
  | 0 => m.kind
  | 1 => m.src
  | 2 => m.dst
  | 3 => m.id
  | 4 => m.step
  | 5 => m.a
  | _ => m.b
theorem num_at (m : Ms) : ∀ k, k < 7 → (encMs m).toArray[k]? = some (.int .i64 (m.num k)) := by
  intro k hk
  match k, hk with
  | 0, _ => rfl
  | 1, _ => rfl
  | 2, _ => rfl
  | 3, _ => rfl
  | 4, _ => rfl
  | 5, _ => rfl
  | 6, _ => rfl
theorem equalMs (m n : Ms) (w : World) : (Op.equal 55 (ekMs m) (ekMs n)).run Try.prog w = .ok (decide (m = n)) w := by
  have hp : Try.prog.stoodInHeld 55 = false := by kernel_rfl
  have h0 := run_equalIn_struct (P := Try.prog) w 9999 55 (encMs m).toArray (encMs n).toArray Try.underlying55 hp
  have h1 := eqFields_at (n := 7) m.num n.num (num_at m) (num_at n) w _ (show _ = true from by kernel_rfl : ((Try.prog.fieldsOf 55).toList.all fun f => f.type == 3 && decide (f.offset < 7) && !(f.name == "_")) = true)
  have h2 : (Op.equal 55 (ekMs m) (ekMs n)).run Try.prog w = .ok ((Try.prog.fieldsOf 55).toList.all fun f => m.num f.offset == n.num f.offset) w := h0.trans h1
  rw [h2]
  congr 1
  have h3 : ((Try.prog.fieldsOf 55).toList.all fun f => m.num f.offset == n.num f.offset) = (m.kind == n.kind && (m.src == n.src && (m.dst == n.dst && (m.id == n.id && (m.step == n.step && (m.a == n.a && (m.b == n.b && true))))))) := by kernel_rfl
  rw [h3]
  obtain ⟨m0, m1, m2, m3, m4, m5, m6⟩ := m
  obtain ⟨n0, n1, n2, n3, n4, n5, n6⟩ := n
  rw [Bool.eq_iff_iff]
  simp
theorem findAsking_ms {α : Type} {enc : α → Value} (w : World) (x : Ms) : ∀ (es : List MapEntry) (L : List (Ms × α)) (i : Nat), RowsAre ekMs enc es L → (Instr.findAsking 55 (ekMs x) es i).run Try.prog w = .ok ((MP.look L x).map fun p => (i + p.1, enc p.2)) w := by
  intro es
  induction es with
  | nil =>
    intro L i h
    cases L with
    | nil => simp [Instr.findAsking, MP.look]
    | cons p r => simp [RowsAre] at h
  | cons e es ih =>
    intro L i h
    cases L with
    | nil => simp [RowsAre] at h
    | cons p r =>
      obtain ⟨y, a⟩ := p
      simp only [RowsAre, List.map_cons, List.cons.injEq, Prod.mk.injEq] at h
      obtain ⟨⟨hk, hv⟩, hr⟩ := h
      simp only [Instr.findAsking, hk, Sem.run_bind, equalMs, Result.andThen_ok, MP.look]
      by_cases hxy : x = y
      · subst hxy
        simp [hv]
      · rw [decide_eq_false hxy, if_neg hxy]
        simp only [Bool.false_eq_true, if_false]
        rw [ih r (i + 1) hr, Option.map_map]
        congr 1
        cases MP.look r x with
        | none => rfl
        | some p => simp; omega
theorem checkMs (w : World) (em : Bool) (x : Ms) : (Instr.checkKey em 10000 55 (ekMs x)).run Try.prog w = .ok () w := by
  kernel_rfl
theorem staysMs (w : World) (x : Ms) : (Instr.keyThatStays (ekMs x) (ekMs x)).run Try.prog w = .ok (ekMs x) w := by
  have h : Instr.sameBits 10000 (ekMs x) (ekMs x) = true := by
    unfold ekMs encMs
    simp [Instr.sameBits]
  unfold Instr.keyThatStays
  rw [if_pos h]
  rfl
theorem keyMs : KeyR Try.prog 55 ekMs where
  check := fun {w em x} => checkMs w em x
  find := fun w x es L h => by
    have h0 := findAsking_ms w x es L 0 h
    unfold Instr.findKey
    cases es with
    | nil =>
      have hn : L = [] := by
        cases L with
        | nil => rfl
        | cons p r => simp [RowsAre] at h
      subst hn
      simp [run_underlying Try.underlying55, Instr.findNow, MP.look, Result.andThen]
    | cons e es =>
      have hk : Instr.findNow (.struct (Try.prog.fieldsOf 55)) (ekMs x) (e :: es) 0 = none := by
        simp [Instr.findNow, Instr.sameNow]
      have hu : Try.prog.underlying 55 = some (.struct (Try.prog.fieldsOf 55)) := by kernel_rfl
      simp only [Sem.run_bind, run_underlying hu, Result.andThen_ok, hk]
      rw [h0]
      simp
  stays := fun {w x} => staysMs w x
end Go.Proofs.Ytkacnogjifhcoaa
