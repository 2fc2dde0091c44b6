/- Part KCA of the proof of spinnakerlaw19.WindowOrders: for every input the law returns true. -/
import Derived.Test.YtfcniikbcjmlcaaGreatDoorPK
section
namespace Go.Proofs.YtfcniikbcjmlcaaGreatDoor
open Go.RowKit Go.Proofs.YtfcniikbcjmlcaaGreatDoorW.PrintWords Go.Proofs.YtfcniikbcjmlcaaGreatDoorW.PrintLast Go.Proofs.YtfcniikbcjmlcaaGreatDoorW.PrintMore
set_option linter.unusedVariables false
set_option linter.unusedSimpArgs false
def regH (R : Nat → Int) (E : Nat → Ent) (r : Int) : Nat → Int × Bool
 | 0 => (R r.toNat, true)
 | k + 1 => if (E k).ins.rd = r then ((E k).v, (E k).d) else regH R E r k
theorem regF_eq (R : Nat → Int) (E : Nat → Ent) (r : Int) (m : Nat) : regF R E r m = (if (regH R E r m).2 = true then (regH R E r m).1 else 0, (regH R E r m).2) := by
 induction m with
 | zero => rfl
 | succ k ih =>
  show (if (E k).ins.rd = r then (if (E k).d = true then ((E k).v, true) else (0, false)) else regF R E r k) = _
  by_cases h : (E k).ins.rd = r
  ·have e : regH R E r (k + 1) = ((E k).v, (E k).d) := if_pos h
   rw [if_pos h, e]
   cases (E k).d <;> rfl
  have e : regH R E r (k + 1) = regH R E r k := if_neg h
  rw [if_neg h, e, ih]
set_option maxHeartbeats 4000000 in
set_option maxRecDepth 100000 in
theorem xReg_calls (w : World) (g B n cap : Nat) (R : Nat → Int) (pc : Nat → Int) (E : Nat → Ent) (hw : WinAt w g B n cap R pc E) (hE : ∀ k, k < n → ∃ hb, Good (E k).ins hb) (hn : n ≤ 100)
  (i : Nat) (hi : i ≤ n) (r : Int) (h0 : 1 ≤ r) (h1 : r ≤ 31) :
  Calls Tryz.prog 35 #[.pointer (some { block := g, off := 0 }), .int .i64 (i : Int), .int .i64 r] w fun e w' => e = .returned (.tuple #[.int .i64 (regF R E r i).1, .bool (regF R E r i).2]) ∧ Below w.heap.size w w' := by
 have hsl := hw.sl
 have hrg := hw.rg r.toNat (by omega)
 have HW := Aside0.mk hw
 have HE := Aside0.mk hE
 clear hw hE
 have d1 : decide (r < 1) = false := decide_eq_false (by omega)
 have d2 : decide (31 < r) = false := decide_eq_false (by omega)
 have q0 : 0 ≤ r := by omega
 have q1 : r < 32 := by omega
 go_enter Tryz.func35, Tryz.ntmps35
 go_wp2
 go_loopg [8, 9, 10] (i + 1) (fun kq v8 v9 v10 w' => ∃ m : Nat, v10 = .int .i64 (m : Int) ∧ v8 = .int .i64 (regH R E r m).1 ∧ v9 = .bool (regH R E r m).2 ∧ Aside0 (kq + m = i + 1 ∧ m ≤ i) ∧ Aside0 (Below w.heap.size w w'))
 case atStart => exact ⟨0, rfl, rfl, rfl, ⟨by omega, by omega⟩, ⟨Below.refl _ _⟩⟩
 case round =>
  obtain ⟨m, rfl, rfl, rfl, HM, HB⟩ := hrel
  have hW := HW.out.below HB.out
  have hsl' := hW.sl
  obtain ⟨hk, hmi⟩ := HM.out
  by_cases hend : m = i
  ·subst hend
   have HF := Aside0.mk (regF_eq R E r m)
   have e1 : decide ((m : Int) < (m : Int)) = false := by simp
   replace hW := Aside0.mk hW
   clear HM hk hmi
   cases hd : (regH R E r m).2
   all_goals
    have HD := Aside0.mk hd
    clear hd
    go_wp2
    go_ret2
    exact ⟨by rw [HF.out, HD.out]; first | rfl | (simp; done), HB.out⟩
  have e1 : decide ((m : Int) < (i : Int)) = true := decide_eq_true (by omega)
  have e2 : decide ((m : Int) < (n : Int)) = true := decide_eq_true (by omega)
  have p0 : (0 : Int) ≤ (m : Int) := by omega
  have p1 : (m : Int) < (n : Int) := by omega
  obtain ⟨hb, hg⟩ := HE.out m (by omega)
  have HI := Aside0.mk (hW.ins m (by omega))
  have HMay := Aside0.mk (fun W => QB.spinnakerref03_May.calls 99 _ _ _ _ _ _ _ _ W hg.rmay)
  have HHas := Aside0.mk (fun W => QB.spinnakerref03_HasRd.calls 99 _ _ W hg.rhas)
  have HK : ∀ W', Below (wr.alloc (.cells (insRow (E m).ins) 31)).heap.size (wr.alloc (.cells (insRow (E m).ins) 31)) W' →
    W'.cell? { block := wr.heap.size, off := 0 } = some (.int .i64 (E m).ins.op) ∧ W'.cell? { block := wr.heap.size, off := 1 } = some (.int .i64 (E m).ins.rd) ∧ W'.cell? { block := g, off := 32 } = some (.slice (some { block := B, off := 0 }) n cap) ∧ W'.cell? { block := B, off := m * 18 + 12 } = some (.int .i64 (E m).v) ∧ W'.cell? { block := B, off := m * 18 + 13 } = some (.bool (E m).d) ∧ Below w.heap.size w W' := by
   intro W' hd
   have v1 := (InsVar.new wr (E m).ins).below hd
   have b1 : Below wr.heap.size wr W' := below_then ((Below.refl _ _).alloc (Nat.le_refl _) _) ((Below.refl _ _).alloc (Nat.le_refl _) _).size hd
   have h' := hW.below b1
   exact ⟨v1.cell 0 _ rfl, v1.cell 1 _ rfl, h'.sl, h'.val m (by omega), h'.ready m (by omega), below_then HB.out HB.out.size b1⟩
  replace HK := Aside0.mk HK
  have HV := Aside0.mk (InsVar.new wr (E m).ins).row
  replace hW := Aside0.mk hW
  obtain ⟨kk, rfl⟩ : ∃ kk, gk = kk + 1 := ⟨gk - 1, by omega⟩
  have hp : wrap64 ((m : Int) + 1) = ((m + 1 : Nat) : Int) := by unfold wrap64; omega
  clear hg
  by_cases hr : (E m).ins.rd = r
  ·have hH : regH R E r (m + 1) = ((E m).v, (E m).d) := if_pos hr
   have b1 : ((E m).ins.rd == r) = true := beq_iff_eq.2 hr
   have HH := Aside0.mk hH
   clear hH hr HM
   go_wp2_with (first | (refine load_ins rfl rfl rfl HI.out ?_) | (refine wpList_load_row rfl 31 _ rfl wr.heap.size rfl 31 (insRow (E m).ins) (0, 0) _ HV.out Tryz.underlying31 rfl instr7 ?_) | (go_at_call 5; (with_reducible refine (HMay.out _).mono ?_); rintro e w2 ⟨rfl, hd'⟩; have hb2 := Aside0.mk hd'; obtain ⟨k1, k2, k3, k4, k5, k6⟩ := HK.out _ hd'; clear hd' k3 k4 k5 k6) | (go_at_call 15; (with_reducible refine (HHas.out _).mono ?_); rintro e w3 ⟨rfl, hd'⟩; obtain ⟨j1, j2, j3, j4, j5, j6⟩ := HK.out _ (below_then hb2.out hb2.out.size hd'.below); clear hd'; replace j6 := Aside0.mk j6))
   go_quiet (fail)
   go_wp2
   go_roundg kk
   case measure => omega
   case rel => exact ⟨m + 1, by first | rfl | (simp; done), by rw [HH.out], by rw [HH.out], ⟨by omega, by omega⟩, ⟨by repeat (first | exact j6.out | apply pw_below_drewN)⟩⟩
  have hH : regH R E r (m + 1) = regH R E r m := if_neg hr
  have b1 : ((E m).ins.rd == r) = false := beq_eq_false_iff_ne.2 hr
  have HH := Aside0.mk hH
  clear hH hr HM
  go_wp2_with (first | (refine load_ins rfl rfl rfl HI.out ?_) | (refine wpList_load_row rfl 31 _ rfl wr.heap.size rfl 31 (insRow (E m).ins) (0, 0) _ HV.out Tryz.underlying31 rfl instr7 ?_) | (go_at_call 5; (with_reducible refine (HMay.out _).mono ?_); rintro e w2 ⟨rfl, hd'⟩; have hb2 := Aside0.mk hd'; obtain ⟨k1, k2, k3, k4, k5, k6⟩ := HK.out _ hd'; clear hd' k3 k4 k5 k6) | (go_at_call 15; (with_reducible refine (HHas.out _).mono ?_); rintro e w3 ⟨rfl, hd'⟩; obtain ⟨j1, j2, j3, j4, j5, j6⟩ := HK.out _ (below_then hb2.out hb2.out.size hd'.below); clear hd'; replace j6 := Aside0.mk j6))
  go_roundg kk
  case measure => omega
  case rel => exact ⟨m + 1, by first | rfl | (simp; done), by rw [HH.out], by rw [HH.out], ⟨by omega, by omega⟩, ⟨j6.out⟩⟩
theorem xReg_any (w : World) (g B n cap : Nat) (R : Nat → Int) (pc : Nat → Int) (E : Nat → Ent) (hw : WinAt w g B n cap R pc E) (hE : ∀ k, k < n → ∃ hb, Good (E k).ins hb) (hn : n ≤ 100)
  (i : Nat) (hi : i ≤ n) (r : Int) (h0 : 0 ≤ r) (h1 : r ≤ 31) :
  Calls Tryz.prog 35 #[.pointer (some { block := g, off := 0 }), .int .i64 (i : Int), .int .i64 r] w fun e w' => e = .returned (.tuple #[.int .i64 (regG R E r i).1, .bool (regG R E r i).2]) ∧ Below w.heap.size w w' := by
 by_cases hz : r = 0
 ·subst hz
  have e : regG R E 0 i = (0, true) := if_pos rfl
  rw [e]
  clear hw hE e
  go_enter Tryz.func35, Tryz.ntmps35
  go_wp2
  go_ret2
  exact ⟨by first | rfl | (simp; done), Below.refl _ _⟩
 have e : regG R E r i = regF R E r i := if_neg hz
 rw [e]
 exact xReg_calls w g B n cap R pc E hw hE hn i hi r (by omega) h1
end Go.Proofs.YtfcniikbcjmlcaaGreatDoor
end
