/- Rows that a call has made: opened, kept, read piece by piece. Nothing here speaks of the program. -/
import Derived.Test.YtkacnogjifhcoaaLib
import Derived.Laws.AppendOwn
namespace Go.Proofs.Ytkacnogjifhcoaa
open Go.RowKit
theorem Keeps.of_grown {w w' : World} {row : Option Nat} (h : w.grownBy w' row) : Keeps (fun k => row = some k) w w' :=
  ⟨h.os, h.tape, h.output, h.size, fun k hk hs => h.block k hk (fun e => hs e.symm)⟩
theorem ownsRow_keeps {w w' : World} {base : Nat} {e : TypeId} {size : Nat} {v : Value} {n : Nat} {xs : List Value} (h : w.ownsRow base e size v n xs) {S : Nat → Prop} (k : Keeps S w w') (hs : ∀ g, v.ownBlock = some g → ¬ S g) : w'.ownsRow base e size v n xs := by
  refine ⟨h.1, ?_⟩
  rcases h.2 with hn | ⟨g, cap, cur, rfl, hb, hg, rest⟩
  · exact .inl hn
  · refine .inr ⟨g, cap, cur, rfl, hb, ?_, rest⟩
    rw [k.block g (Array.getElem?_eq_some_iff.1 hg).1 (hs g (by simp [Value.ownBlock]))]
    exact hg
theorem ownsRow_open {w : World} {base : Nat} {e : TypeId} {size : Nat} {v : Value} {n : Nat} {xs : List Value} (h : w.ownsRow base e size v n xs) (_hs : 0 < size) :
    ∃ a cap, v = .slice a n cap ∧ n ≤ maxLen ∧ n ≤ cap ∧ cap ≤ maxLen ∧ (∀ x, a = some x → x.block < w.heap.size ∧ v.ownBlock = some x.block) ∧ ∀ i u, xs[i]? = some u → ∃ g off, a = some ⟨g, off, none⟩ ∧ g < w.heap.size ∧ v.ownBlock = some g ∧ w.cell? ⟨g, off + i, none⟩ = some u := by
  rcases h.2 with ⟨rfl, rfl⟩ | ⟨g, cap, cur, rfl, hb, hg, hn, hm, hz, ht⟩
  · have : xs = [] := by have := h.1; simpa using this
    subst this
    exact ⟨none, 0, rfl, Nat.zero_le _, Nat.le_refl _, Nat.zero_le _, (fun x hx => by cases hx), (fun i u hu => by simp at hu)⟩
  · have hlt := (Array.getElem?_eq_some_iff.1 hg).1
    refine ⟨_, _, rfl, Nat.le_trans hn hm, hn, hm, fun x hx => by cases hx; exact ⟨hlt, by simp [Value.ownBlock]⟩, fun i u hu => ⟨g, 0, rfl, hlt, by simp [Value.ownBlock], ?_⟩⟩
    have := h.cells (g := g) (by simp [Value.ownBlock]) i u hu
    have e1 : (⟨g, 0, none⟩ : Addr).add i = ⟨g, 0 + i, none⟩ := by
      unfold Addr.add
      by_cases hi : i = 0
      · subst hi; simp
      · simp [hi]
    rw [e1] at this
    exact this
theorem flat_get {α : Type} (f : α → List Value) (c : Nat) (hc : ∀ x, (f x).length = c) : ∀ (L : List α) (k : Nat) (x : α) (j : Nat), L[k]? = some x → j < c → (L.flatMap f)[k * c + j]? = (f x)[j]?
  | [], k, x, j, h, _ => by simp at h
  | y :: r, 0, x, j, h, hj => by
    simp only [List.getElem?_cons_zero, Option.some.injEq] at h
    subst h
    rw [List.flatMap_cons, Nat.zero_mul, Nat.zero_add, List.getElem?_append_left (by rw [hc]; exact hj)]
  | y :: r, k + 1, x, j, h, hj => by
    simp only [List.getElem?_cons_succ] at h
    rw [List.flatMap_cons, List.getElem?_append_right (by rw [hc, Nat.add_mul]; omega), hc]
    have := flat_get f c hc r k x j h hj
    rw [← this]
    congr 1
    rw [Nat.add_mul]; omega
theorem flat_len {α : Type} (f : α → List Value) (c : Nat) (hc : ∀ x, (f x).length = c) (L : List α) : (L.flatMap f).length = L.length * c := by
  induction L with
  | nil => simp
  | cons x r ih => simp [List.flatMap_cons, hc, ih, Nat.add_mul]; omega
/-- The new row is the old one, or lies in a new block. -/
def NewRow (w : World) (v v' : Value) : Prop := ∀ g, v'.ownBlock = some g → v.ownBlock = some g ∨ w.heap.size ≤ g
theorem run_append_new {P : Program} (w : World) (base : Nat) (t ty e : TypeId) (i : TypeInfo) (z : Value) (size bytes : Nat) (ht : P.underlying t = some (.slice e)) (hi : P.info? e = some i) (hz : i.zero = some z)
    (hsize : i.size = size) (hby : i.bytes = bytes) (hzs : z.cells.size = size) (hsz : 0 < size)
    (v : Value) (n : Nat) (xs : List Value) (hown : w.ownsRow base e size v n xs)
    (a : Addr) (m c : Nat) (news : List Value) (hl : news.length = m * size) (hnews : ∀ j u, news[j]? = some u → w.cell? (a.add j) = some u) (h1 : ∀ u ∈ news, u.oneCell' = true)
    (h63 : n + m ≤ maxLen) (hbytes : (n + m) * bytes ≤ 140737488355328) (hbase : base ≤ w.heap.size) :
    ∃ a' c' w', (Builtin.append_ #[t, t] ty #[v, .slice (some a) m c]).run P w = .ok (.slice a' (n + m) c') w' ∧ w'.ownsRow base e size (.slice a' (n + m) c') (n + m) (xs ++ news) ∧ Keeps (fun k => v.ownBlock = some k) w w' ∧ (0 < n + m → ∃ g, a' = some ⟨g, 0, none⟩) ∧
      NewRow w v (.slice a' (n + m) c') := by
  obtain ⟨v', w', hr, hown', hg, _⟩ := run_append_own (P := P) w base t ty e i z size bytes ht hi hz hsize hby hzs hsz v n xs hown a m c news hl hnews h1 h63 hbytes hbase
  obtain ⟨a', c', rfl, _, _, _, hab, _⟩ := ownsRow_open hown' hsz
  refine ⟨a', c', w', hr, hown', Keeps.of_grown hg, fun hp => ?_, fun g hgb => ?_⟩
  · rcases hown'.2 with ⟨h0, h1⟩ | ⟨g, cap, cur, hv, _⟩
    · omega
    · simp only [Value.slice.injEq] at hv
      exact ⟨g, hv.1⟩
  · by_cases e1 : v.ownBlock = some g
    · exact .inl e1
    · right
      rcases hown'.2 with ⟨h0, _⟩ | ⟨g', cap, cur, hv, _, hgg, _⟩
      · rw [h0] at hgb; simp [Value.ownBlock] at hgb
      · rw [hv] at hgb
        simp only [Value.ownBlock, Option.some.injEq] at hgb
        subst hgb
        -- were it an old block, it would be the old row's
        rcases Nat.lt_or_ge g' w.heap.size with hlt | hge
        · exfalso
          rcases hown.2 with ⟨h0, hn0⟩ | ⟨g0, cap0, cur0, hv0, _, hg0, hn0, hm0, hz0, ht0⟩
          · subst h0
            by_cases hm : m = 0
            · subst hm; subst hn0
              have : news = [] := by simpa using hl
              subst this
              simp [Builtin.append_, run_underlying ht, sizeOf, typeInfo, hi, Builtin.lenOf, Builtin.firstCells, loadCells, loadCellsFrom] at hr
              obtain ⟨⟨rfl, _⟩, _⟩ := hr
              simp at hv
            · have hr' := run_append_nil (P := P) w t ty e i z ht hi hz a m c news (by rw [hsize]; exact hl) hnews (by omega) (by subst hn0; simp only [maxLen] at h63; omega) (by rw [hby]; subst hn0; simp only [Nat.zero_add] at hbytes; omega)
              rw [hr'] at hr
              simp only [Result.ok.injEq] at hr
              obtain ⟨hr1, hr2⟩ := hr
              rw [hv] at hr1
              simp only [Value.slice.injEq, Option.some.injEq, Addr.mk.injEq] at hr1
              omega
          · by_cases hroom : n + m ≤ cap0
            · have hfit : n * i.size + news.length ≤ cur0.size := by rw [hl, hz0, hsize, ← Nat.add_mul]; exact Nat.mul_le_mul_right _ hroom
              have hr' := run_append_room (P := P) w t ty e i ht hi g0 n cap0 cur0 hg0 a m c news (by rw [hsize]; exact hl) hnews h1 hroom hfit
              rw [hv0, hr'] at hr
              simp only [Result.ok.injEq] at hr
              obtain ⟨hr1, hr2⟩ := hr
              rw [hv] at hr1
              simp only [Value.slice.injEq, Option.some.injEq, Addr.mk.injEq] at hr1
              exact e1 (by rw [hv0]; simp [Value.ownBlock, hr1.1.1])
            · have holds : ∀ j u, xs[j]? = some u → w.cell? ((⟨g0, 0, none⟩ : Addr).add j) = some u := hown.cells (g := g0) (by rw [hv0]; rfl)
              have hr' := run_append_grow (P := P) w t ty e i z ht hi hz ⟨g0, 0, none⟩ n cap0 xs (by rw [hsize]; exact hown.1) holds a m c news (by rw [hsize]; exact hl) hnews (by omega) (by simp only [maxLen] at h63; omega) (growslice_fits (by omega) (by rw [hby]; exact hbytes))
              rw [hv0, hr'] at hr
              simp only [Result.ok.injEq] at hr
              obtain ⟨hr1, hr2⟩ := hr
              rw [hv] at hr1
              simp only [Value.slice.injEq, Option.some.injEq, Addr.mk.injEq] at hr1
              omega
        · exact hge
/-- An append whose run is known. -/
theorem wpList_append_run {P : Program} {ops : Array Oper} {rest : List Oper} {o : Oper} {a : Act} {Q : Exit → Act → World → Prop} {w w' : World} {v v' u : Value} (hgd : o.guard = none) (s x : Operand) (t : TypeId)
    (ho : o.op = .call { callee := .builtin .append, args := #[s, x], argTypes := #[t, t] }) (hs : a.eval s = v) (hx : a.eval x = u)
    (hr : (Builtin.append_ #[t, t] o.type #[v, u]).run P w = .ok v' w') (h : wpList P ops Q rest (a.put o.dst v') w') : wpList P ops Q (o :: rest) a w := by
  refine wpList_plain hgd fun K hK => ?_
  unfold Oper.wp execOp
  simp only [ho, resolve, invoke, builtin, Sem.run_bind, Sem.run_pure, Result.andThen_ok, List.map_toArray, List.map_cons, List.map_nil, hs, hx, hr]
  exact hK _ _ h
/-- Two rows that lie in blocks of their own. -/
def Apart (u v : Value) : Prop := ∀ g, u.ownBlock = some g → v.ownBlock ≠ some g
theorem Apart.symm {u v : Value} (h : Apart u v) : Apart v u := fun g hg e => h g e hg
theorem Apart.new {w : World} {u v v' : Value} (h : Apart u v) (hn : NewRow w v v') (hu : ∀ g, u.ownBlock = some g → g < w.heap.size) : Apart u v' := fun g hg e => by
  rcases hn g e with h1 | h1
  · exact h g hg h1
  · have := hu g hg; omega
theorem ownsRow_lt {w : World} {base : Nat} {e : TypeId} {size : Nat} {v : Value} {n : Nat} {xs : List Value} (h : w.ownsRow base e size v n xs) : ∀ g, v.ownBlock = some g → g < w.heap.size := fun g hg => (h.lt g hg).2
theorem ownsRow_blk {w : World} {base : Nat} {e : TypeId} {size : Nat} {a : Option Addr} {c n : Nat} {xs : List Value} (h : w.ownsRow base e size (.slice a n c) n xs) (hn : 0 < n) : ∃ g vs, a = some ⟨g, 0, none⟩ ∧ base ≤ g ∧ Blk w g e vs ∧ n * size ≤ vs.length := by
  rcases h.2 with ⟨_, h0⟩ | ⟨g, cap, cur, hv, hb, hg, hnc, _, hz, _⟩
  · omega
  · simp only [Value.slice.injEq, true_and] at hv
    refine ⟨g, cur.toList, hv.1, hb, by unfold Blk; simpa using hg, ?_⟩
    rw [Array.length_toList, hz]
    exact Nat.mul_le_mul_right _ hnc
/-- The same at a step of a region that draws its order. -/
theorem step_append_run {P : Program} {ops : Array Oper} {o : Oper} {a : Act} {K : Act → World → Prop} {Q : Exit → Act → World → Prop} {E : Prop} {w w' : World} {v v' u : Value} (hgd : o.guard = none) (s x : Operand) (t : TypeId)
    (ho : o.op = .call { callee := .builtin .append, args := #[s, x], argTypes := #[t, t] }) (hs : a.eval s = v) (hx : a.eval x = u)
    (hr : (Builtin.append_ #[t, t] o.type #[v, u]).run P w = .ok v' w') (h : K (a.put o.dst v') w') :
    if Region.wanted o (yielded ops a.tmps) = true then Oper.wp P o a w K Q else E := by
  have hw : Region.wanted o (yielded ops a.tmps) = true := by simp [Region.wanted, hgd]
  rw [if_pos hw]
  unfold Oper.wp execOp
  simp only [ho, resolve, invoke, builtin, Sem.run_bind, Sem.run_pure, Result.andThen_ok, List.map_toArray, List.map_cons, List.map_nil, hs, hx, hr]
  exact h
end Go.Proofs.Ytkacnogjifhcoaa
