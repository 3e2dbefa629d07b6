/- Package saga's decision, walked. -/
import Derived.Test.YtfcnegnkmacajaaTell
namespace Go.Proofs.Ytfcnegnkmacajaa
open Go.RowKit
theorem Blk.quiet {w w' : World} {b : Nat} {T : TypeId} {vs : List Value} (h : Blk w b T vs) (k : Keeps (fun _ => False) w w') : Blk w' b T vs := h.keeps k (fun h => h)
/-- A decision, to the first n of two. -/
def decTo (k : Int) (o : Ord) (a0 a1 : Bool) : Nat → List Ms
  | 0 => []
  | 1 => if a0 then [] else [⟨k, 0, 1, o.id, 0, 0, 0⟩]
  | _ => (if a0 then [] else [⟨k, 0, 1, o.id, 0, 0, 0⟩]) ++ (if a1 then [] else [⟨k, 0, 2, o.id, 0, 0, 0⟩])
theorem decTo_len (k : Int) (o : Ord) (a0 a1 : Bool) (n : Nat) : (decTo k o a0 a1 n).length ≤ 2 := by
  match n with
  | 0 => simp [decTo]
  | 1 => simp only [decTo]; cases a0 <;> simp
  | n + 2 => simp only [decTo]; cases a0 <;> cases a1 <;> simp
set_option linter.unusedSimpArgs false in
set_option maxRecDepth 100000 in
set_option maxHeartbeats 16000000 in
theorem decision_to (kd : Int) (o : Ord) (a da ua : Option Addr) (c dl dc ul uc : Nat) (asked yes turned a0 a1 shipped d0 d1 acc : Bool) (w : World) :
    Calls Try.prog 25 #[.int .i64 kd, .agg #[.int .i64 o.id, .int .i64 o.item, .int .i64 o.qty, .int .i64 o.client, .int .i64 o.price, .slice a o.steps.length c], .agg #[.slice da dl dc, .slice ua ul uc, .bool asked, .bool yes, .bool turned, .bool a0, .bool a1, .bool shipped, .bool d0, .bool d1, .bool acc]] w (fun e w' => (∃ v, e = .returned v ∧ MsOwn w' w.heap.size v (decTo kd o a0 a1 2)) ∧ Keeps (fun _ => False) w w') := by
  have HO := Kept.mk ((Blk.new w 24 [.int .i64 o.id, .int .i64 o.item, .int .i64 o.qty, .int .i64 o.client, .int .i64 o.price, .slice a o.steps.length c]).alloc (.cells #[.slice da dl dc, .slice ua ul uc, .bool asked, .bool yes, .bool turned, .bool a0, .bool a1, .bool shipped, .bool d0, .bool d1, .bool acc] 31))
  have HB := Kept.mk (Blk.new (w.alloc (.cells #[.int .i64 o.id, .int .i64 o.item, .int .i64 o.qty, .int .i64 o.client, .int .i64 o.price, .slice a o.steps.length c] 24)) 31 [.slice da dl dc, .slice ua ul uc, .bool asked, .bool yes, .bool turned, .bool a0, .bool a1, .bool shipped, .bool d0, .bool d1, .bool acc])
  have hbs : (w.alloc (.cells #[.int .i64 o.id, .int .i64 o.item, .int .i64 o.qty, .int .i64 o.client, .int .i64 o.price, .slice a o.steps.length c] 24)).heap.size = w.heap.size + 1 := World.size_alloc _ _
  rw [hbs] at HB
  have K0 : Kept (Keeps (fun _ => False) w ((w.alloc (.cells #[.int .i64 o.id, .int .i64 o.item, .int .i64 o.qty, .int .i64 o.client, .int .i64 o.price, .slice a o.steps.length c] 24)).alloc (.cells #[.slice da dl dc, .slice ua ul uc, .bool asked, .bool yes, .bool turned, .bool a0, .bool a1, .bool shipped, .bool d0, .bool d1, .bool acc] 31))) := ⟨((Keeps.refl _ w).alloc _).alloc _⟩
  clear hbs
  have hix0 : ∀ (u v : Value) (w : World), (Instr.index 59 (.agg #[u, v]) (.int .i64 0)).run Try.prog w = .ok u w := fun _ _ _ => by kernel_rfl
  have hix1 : ∀ (u v : Value) (w : World), (Instr.index 59 (.agg #[u, v]) (.int .i64 1)).run Try.prog w = .ok v w := fun _ _ _ => by kernel_rfl
  go_enter Try.func25, Try.ntmps25
  go_wp2_with fail
  go_loopw [7, 11] (fun v i wr => ∃ n : Nat, n ≤ 2 ∧ i = .int .i64 n ∧ MsOwn wr (w.heap.size + 2) v (decTo kd o a0 a1 n) ∧ Blk wr w.heap.size 24 [.int .i64 o.id, .int .i64 o.item, .int .i64 o.qty, .int .i64 o.client, .int .i64 o.price, .slice a o.steps.length c] ∧ Blk wr (w.heap.size + 1) 31 [.slice da dl dc, .slice ua ul uc, .bool asked, .bool yes, .bool turned, .bool a0, .bool a1, .bool shipped, .bool d0, .bool d1, .bool acc] ∧ Keeps (fun _ => False) w wr) (fun _ i _ => 2 - (intOf i).toNat)
  case atStart => exact ⟨0, by omega, rfl, MsOwn.nil _ _, HO.out, HB.out, K0.out⟩
  case round =>
    obtain ⟨n, hn, rfl, hM, hO, hB, hK⟩ := hrel
    obtain ⟨va, vc, rfl, _⟩ := hM.slice
    have HM := Kept.mk hM
    have HK := Kept.mk hK
    have HO2 := Kept.mk hO
    have HB2 := Kept.mk hB
    have HL := Kept.mk (fun g e => (hM.lt g e).1)
    have hz := hB.lt
    have b5 := hB.cell 5 rfl
    have b6 := hB.cell 6 rfl
    obtain ⟨o0, o1, o2, o3, o4, o5⟩ := blk6 hO
    clear hK hO hB hM
    match n, hn with
    | 2, _ =>
      go_wp2_with fail
      go_ret
      exact ⟨⟨_, rfl, HM.out.mono (by omega)⟩, HK.out⟩
    | 0, _ =>
      cases a0 with
      | true =>
        have HE : Kept (decTo kd o true a1 1 = decTo kd o true a1 0) := ⟨by simp [decTo]⟩
        go_wp2_with fail
        go_roundw
        case rel => exact ⟨1, by omega, by go_num, by rw [HE.out]; exact HM.out, HO2.out, HB2.out, HK.out⟩
        case measure => simp [intOf]
      | false =>
        have HE : Kept (decTo kd o false a1 1 = decTo kd o false a1 0 ++ [⟨kd, 0, 1, o.id, 0, 0, 0⟩]) := ⟨by simp [decTo]⟩
        have HE2 : Kept ((decTo kd o false a1 1).length = (decTo kd o false a1 0).length + 1) := ⟨by rw [HE.out]; simp⟩
        go_wp2_with fail
        refine (tell_to kd 1 o _ c _).mono ?_
        rintro e w2 ⟨rfl, hw2⟩
        have k2 : Keeps (fun _ => False) wr w2 := by rw [← hw2]; exact ((Keeps.refl _ _).alloc _).alloc _
        clear hw2
        have K3 := Kept.mk (k2.alloc (.cells (encMs ⟨kd, 0, 1, o.id, 0, 0, 0⟩).toArray 36))
        obtain ⟨a', c', w3, hrun, hM3, k3⟩ := ms_append (m := ⟨kd, 0, 1, o.id, 0, 0, 0⟩) (s := w2.heap.size) (HM.out.quiet K3.out) (by have := decTo_len kd o false a1 0; omega) (by have := K3.out.size; omega) (Blk.new w2 36 (encMs ⟨kd, 0, 1, o.id, 0, 0, 0⟩))
        rw [← HE.out, ← HE2.out] at hM3
        have HM3 := Kept.mk hM3
        have KF : Kept (Keeps (fun _ => False) w w3) := ⟨(HK.out.trans K3.out).then k3 (fun i hi e => by have := HL.out i e; omega)⟩
        have HO3 := Kept.mk ((HO2.out.quiet K3.out).keeps k3 (fun e => by have := HL.out _ e; omega))
        have HB3 := Kept.mk ((HB2.out.quiet K3.out).keeps k3 (fun e => by have := HL.out _ e; omega))
        clear k2 k3 hM3 b5 b6 o0 o1 o2 o3 o4 o5
        go_wp2_with (at_builtin; refine wpList_append_run rfl _ _ _ rfl rfl rfl hrun ?_)
        go_roundw
        case rel => exact ⟨1, by omega, by go_num, by rw [← HE2.out]; exact HM3.out, HO3.out, HB3.out, KF.out⟩
        case measure => simp [intOf]
    | 1, _ =>
      cases a1 with
      | true =>
        have HE : Kept (decTo kd o a0 true 2 = decTo kd o a0 true 1) := ⟨by simp [decTo]⟩
        go_wp2_with fail
        go_roundw
        case rel => exact ⟨2, by omega, by go_num, by rw [HE.out]; exact HM.out, HO2.out, HB2.out, HK.out⟩
        case measure => simp [intOf]
      | false =>
        have HE : Kept (decTo kd o a0 false 2 = decTo kd o a0 false 1 ++ [⟨kd, 0, 2, o.id, 0, 0, 0⟩]) := ⟨by simp [decTo]⟩
        have HE2 : Kept ((decTo kd o a0 false 2).length = (decTo kd o a0 false 1).length + 1) := ⟨by rw [HE.out]; simp⟩
        go_wp2_with fail
        refine (tell_to kd 2 o _ c _).mono ?_
        rintro e w2 ⟨rfl, hw2⟩
        have k2 : Keeps (fun _ => False) wr w2 := by rw [← hw2]; exact ((Keeps.refl _ _).alloc _).alloc _
        clear hw2
        have K3 := Kept.mk (k2.alloc (.cells (encMs ⟨kd, 0, 2, o.id, 0, 0, 0⟩).toArray 36))
        obtain ⟨a', c', w3, hrun, hM3, k3⟩ := ms_append (m := ⟨kd, 0, 2, o.id, 0, 0, 0⟩) (s := w2.heap.size) (HM.out.quiet K3.out) (by have := decTo_len kd o a0 false 1; omega) (by have := K3.out.size; omega) (Blk.new w2 36 (encMs ⟨kd, 0, 2, o.id, 0, 0, 0⟩))
        rw [← HE.out, ← HE2.out] at hM3
        have HM3 := Kept.mk hM3
        have KF : Kept (Keeps (fun _ => False) w w3) := ⟨(HK.out.trans K3.out).then k3 (fun i hi e => by have := HL.out i e; omega)⟩
        have HO3 := Kept.mk ((HO2.out.quiet K3.out).keeps k3 (fun e => by have := HL.out _ e; omega))
        have HB3 := Kept.mk ((HB2.out.quiet K3.out).keeps k3 (fun e => by have := HL.out _ e; omega))
        clear k2 k3 hM3 b5 b6 o0 o1 o2 o3 o4 o5
        go_wp2_with (at_builtin; refine wpList_append_run rfl _ _ _ rfl rfl rfl hrun ?_)
        go_roundw
        case rel => exact ⟨2, by omega, by go_num, by rw [← HE2.out]; exact HM3.out, HO3.out, HB3.out, KF.out⟩
        case measure => simp [intOf]
end Go.Proofs.Ytfcnegnkmacajaa
