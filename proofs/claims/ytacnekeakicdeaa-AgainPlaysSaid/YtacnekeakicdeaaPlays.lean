/- The law AgainPlays, walked. -/
import Derived.Test.YtacnekeakicdeaaCount
import Derived.Test.YtacnekeakicdeaaOpen
namespace Go.Proofs.Ytacnekeakicdeaa
open Go.RowKit
theorem quiet_rets {P : Program} {f : FuncId} {args : Array Value} {w : World} {n : Nat} {v : Value} {S : Nat → Prop} (h : Calls P f args (w.drewN n) (Rets (w.drewN n) S v fun w' => w.drewN n = w')) :
    Calls P f args (w.drewN n) fun e w'' => e = .returned v ∧ ∃ m, w'' = w.drewN m := h.mono fun _ _ ⟨he, hm, _⟩ => ⟨he, n, hm.symm⟩
theorem Ct.Ok.tried_ok {c : Ct} (h : c.Ok) : c.tried.Ok := Ct.tried_ok h
theorem Ct.Ok.passed_ok {c : Ct} (h : c.Ok) : c.passed.Ok := Ct.passed_ok h
theorem tryRef_to (b : Nat) (c c' : Ct) (r : Bool) (w : World) (h : CtAt w b 33 c) (ok : c.Ok) (hr : c.may = r) (hc : c.tried = c') : Calls Try.prog 19 #[.pointer (some ⟨b, 0, none⟩)] w (Rets w (· = b) (.bool r) fun w' => CtAt w' b 33 c') := by
  subst hr; subst hc; exact tryRef_any b c w h ok
theorem passRef_to (b : Nat) (c c' : Ct) (r : Bool) (w : World) (h : CtAt w b 33 c) (ok : c.Ok) (hr : c.passed.free = r) (hc : c.passed = c') : Calls Try.prog 21 #[.pointer (some ⟨b, 0, none⟩)] w (Rets w (· = b) (.bool r) fun w' => CtAt w' b 33 c') := by
  subst hr; subst hc; exact passRef_any b c w h ok
set_option maxHeartbeats 2000000 in
theorem plays_any (n : Int) (a : Option Addr) (len cap : Nat) (bs : Nat → Bool) (w : World) (hr : BoolRow w a len bs) (hlen : (len : Int) ≤ 9223372036854775807) : Calls Try.prog 4 #[.int .i64 n, .slice a len cap] w (Yes w) := by
  obtain ⟨b, off, ha, hcell⟩ := hr
  have Hcell := Kept.mk hcell
  clear hcell
  go_enter Try.func4, Try.ntmps4
  go_wp2_with fail
  refine (new_any n _).mono ?_
  rintro e w1 ⟨rfl, ⟨h1, s1⟩, k1⟩
  go_wp2_with fail
  refine (newRef_any n _).mono ?_
  rintro e w2 ⟨rfl, ⟨g2, s2⟩, k2⟩
  have h2 : CtAt w2 w.heap.size 47 (Ct.new n) := h1.keeps k2 (fun h => h.elim)
  have B2 : Below w.heap.size w w2 := (k1.then k2 (fun _ _ h => h)).below (Nat.le_refl _) (fun _ h => h.elim)
  have Hs := Kept.mk s1
  clear s1 k1 k2 h1 s2
  rw [Hs.out] at g2 ⊢
  go_wp2_with fail
  have ok := Ct.new_ok n
  generalize Ct.new n = c at h2 g2 ok
  go_loopw [18] (fun i wr => ∃ (k : Nat) (c : Ct), k ≤ len ∧ i = .int .i64 k ∧ c.Ok ∧ CtAt wr w.heap.size 47 c ∧ CtAt wr (w.heap.size + 1) 33 c ∧ Below w.heap.size w wr) (fun i _ => (len - (intOf i).toNat))
  case atStart => exact ⟨0, c, by omega, rfl, ok, h2, g2, B2⟩
  case round =>
    clear ok h2 g2 B2 c
    obtain ⟨k, c, hk, rfl, ok, hc, hg, hB⟩ := hrel
    have hbw := hB.size
    have hne : ¬ w.heap.size = w.heap.size + 1 := by omega
    by_cases hlt : k < len
    · obtain ⟨rfl, hbl⟩ : a = some ⟨b, off, none⟩ ∧ b < w.heap.size := by
        rcases ha with h | h
        · exact h
        · omega
      have hck : wr.cell? ⟨b, off + k, none⟩ = some (.bool (bs k)) := (hB.cell hbl).trans (Hcell.out k hlt)
      by_cases h300 : (300 : Int) ≤ k
      · go_wp2_with fail
        refine (awake_any _).mono ?_
        rintro e w5 ⟨rfl, b5⟩
        go_wp2_with fail
        go_ret
        exact ⟨rfl, hB.trans (b5.mono hbw)⟩
      · cases hbk : bs k with
        | true =>
          rw [hbk] at hck
          clear hbk
          have ok' := ok.tried_ok
          generalize hm : c.may = r
          generalize hc' : c.tried = c' at ok'
          have Hm := Kept.mk hm
          have Hc := Kept.mk hc'
          clear hm hc'
          go_wp2_with fail
          refine (try_to _ _ _ _ _ hc ok Hm.out Hc.out).mono ?_
          rintro e w3 ⟨rfl, h3, k3⟩
          have g3 : CtAt w3 (w.heap.size + 1) 33 c := hg.keeps k3 (fun e => hne e.symm)
          go_wp2_with fail
          refine (tryRef_to _ _ _ _ _ g3 ok Hm.out Hc.out).mono ?_
          rintro e w4 ⟨rfl, g4, k4⟩
          have h4 : CtAt w4 w.heap.size 47 c' := h3.keeps k4 hne
          have B4 : Below w.heap.size w w4 := (hB.trans (k3.below hbw (fun k e => by omega))).trans (k4.below (Nat.le_trans hbw k3.size) (fun k e => by omega))
          have m0 := g4.cell 0 rfl
          have m1 := g4.cell 1 rfl
          go_wp2_with fail
          go_quiet (first | ((go_at_call 22; exact quiet_rets (wait_any _ _ _ h4))) | ((go_at_call 23; exact quiet_rets (left_any _ _ _ h4))))
          go_wp2_with fail
          go_roundw
          case rel => exact ⟨k + 1, c', by omega, by go_num, ok', Blk.drewN h4 _, Blk.drewN g4 _, ⟨B4.os, B4.tape, B4.output, B4.size, B4.block⟩⟩
          case measure => simp [intOf]; omega
        | false =>
          rw [hbk] at hck
          clear hbk
          have ok' := ok.passed_ok
          generalize hm : c.passed.free = r
          generalize hc' : c.passed = c' at ok'
          have Hm := Kept.mk hm
          have Hc := Kept.mk hc'
          clear hm hc'
          go_wp2_with fail
          refine (pass_to _ _ _ _ _ hc ok Hm.out Hc.out).mono ?_
          rintro e w3 ⟨rfl, h3, k3⟩
          have g3 : CtAt w3 (w.heap.size + 1) 33 c := hg.keeps k3 (fun e => hne e.symm)
          go_wp2_with fail
          refine (passRef_to _ _ _ _ _ g3 ok Hm.out Hc.out).mono ?_
          rintro e w4 ⟨rfl, g4, k4⟩
          have h4 : CtAt w4 w.heap.size 47 c' := h3.keeps k4 hne
          have B4 : Below w.heap.size w w4 := (hB.trans (k3.below hbw (fun k e => by omega))).trans (k4.below (Nat.le_trans hbw k3.size) (fun k e => by omega))
          have m0 := g4.cell 0 rfl
          have m1 := g4.cell 1 rfl
          go_wp2_with fail
          go_quiet (first | ((go_at_call 22; exact quiet_rets (wait_any _ _ _ h4))) | ((go_at_call 23; exact quiet_rets (left_any _ _ _ h4))))
          go_wp2_with fail
          go_roundw
          case rel => exact ⟨k + 1, c', by omega, by go_num, ok', Blk.drewN h4 _, Blk.drewN g4 _, ⟨B4.os, B4.tape, B4.output, B4.size, B4.block⟩⟩
          case measure => simp [intOf]; omega
    · go_wp2_with fail
      refine (awake_any _).mono ?_
      rintro e w5 ⟨rfl, b5⟩
      go_wp2_with fail
      go_ret
      exact ⟨rfl, hB.trans (b5.mono hbw)⟩
end Go.Proofs.Ytacnekeakicdeaa
