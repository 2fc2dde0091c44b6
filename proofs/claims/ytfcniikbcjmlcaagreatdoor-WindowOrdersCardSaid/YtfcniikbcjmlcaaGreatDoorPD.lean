/- Part PD of the proof of spinnakerlaw19.WindowOrders: for every input the law returns true. -/
import Derived.ArgAppend
import Derived.Below
import Derived.BigQuiet
import Derived.Deep.AppendLies
import Derived.Deep.CutBlock
import Derived.Deep.DeepCutAuto
import Derived.Deep.Draws
import Derived.Deep.LoopGhost
import Derived.Deep.OwnRows
import Derived.Deep.QuietTactic
import Derived.Deep.RegionHeld3
import Derived.KernelRfl
import Derived.Laws.BitsLemmas
import Derived.Laws.BytesArg
import Derived.Laws.IdiomCopy
import Derived.Laws.MakeOwn
import Derived.Laws.OwnMore
import Derived.Laws.Rows
import Derived.Laws.Slices
import Derived.Laws.StructEq
import Derived.Lib.AppendStr
import Derived.Lib.ConvBytes
import Derived.Maps.AppendAt
import Derived.OrdersHeld
import Derived.OwnWalk
import Derived.RowKit
import Derived.RowKit3
import Derived.Tactics
import Derived.Test.YtfcniikbcjmlcaaGreatDoorProg
import Derived.WalkKit
import Derived.WideLaws
import Derived.Test.YtfcniikbcjmlcaaGreatDoorKM
import Derived.Test.YtfcniikbcjmlcaaGreatDoorKO
import Derived.Test.YtfcniikbcjmlcaaGreatDoorKP
import Derived.Test.YtfcniikbcjmlcaaGreatDoorPA
import Derived.Test.YtfcniikbcjmlcaaGreatDoorPB
import Derived.Test.YtfcniikbcjmlcaaGreatDoorPC
section
namespace Go.Proofs.YtfcniikbcjmlcaaGreatDoor.QB
open Go.RowKit Go.Proofs.YtfcniikbcjmlcaaGreatDoorW.PrintWords Go.Proofs.YtfcniikbcjmlcaaGreatDoorW.PrintLast Go.Proofs.YtfcniikbcjmlcaaGreatDoorW.PrintMore
attribute [local go_sem] max2_int min2_int max_two min_two max_three min_three max_four min_four   -- for this text's walks alone
set_option linter.unusedVariables false
set_option linter.unusedSimpArgs false
theorem info3 : (Tryz.prog.info? 3).map (fun i => (i.zero, i.size, i.bytes)) = some (some (.int .i64 0), 1, 8) := by kernel_rfl
theorem info124 : (Tryz.prog.info? 124).map (fun i => (i.zero, i.size, i.bytes)) = some (some (.agg #[(.int .u32 0), (.int .i64 0), (.int .i64 0)]), 3, 24) := by kernel_rfl
structure S124 where
  f0 : Int
  f1 : Int
  f2 : Int
def z124 : S124 := ⟨(0 : Int), (0 : Int), (0 : Int)⟩
def k124 : Kd S124 := Kd.iso (Kd.pair (Kd.int .u32) (Kd.pair (Kd.int .i64) (Kd.int .i64))) (fun x : S124 => (x.f0, x.f1, x.f2))
theorem k124_open {w : World} {x : S124} {cs : List Value} (h : k124.K w x cs) : cs = [.int .u32 x.f0, .int .i64 x.f1, .int .i64 x.f2] := by
  obtain ⟨_, _, rfl, rfl, ⟨_, _, rfl, rfl, rfl⟩⟩ := h
  exact rfl
theorem k124_mkM (w : World) (base : Nat) (ok : Nat → Prop) (x : S124)  : k124.M w base ok x [.int .u32 x.f0, .int .i64 x.f1, .int .i64 x.f2] := ⟨[.int .u32 x.f0], [.int .i64 x.f1, .int .i64 x.f2], rfl, rfl, ⟨[.int .i64 x.f1], [.int .i64 x.f2], rfl, rfl, rfl⟩⟩
def rd_T124 (xs : List S124) (i : Int) : S124 := xs.getD i.toNat z124
theorem at_T124 {w : World} {A : Option Addr} {n : Nat} {xs : List S124} (h : Kd.C k124 w A n xs) (i : Int) (h0 : 0 ≤ i) (h1 : i < n) : ∃ ad , A = some ad ∧ w.cell? (ad.add (i.toNat * 3)) = some (.int .u32 (rd_T124 xs i).f0) ∧ w.cell? ⟨(ad.add (i.toNat * 3)).block, (ad.add (i.toNat * 3)).off + 1, none⟩ = some (.int .i64 (rd_T124 xs i).f1) ∧ w.cell? ⟨(ad.add (i.toNat * 3)).block, (ad.add (i.toNat * 3)).off + 2, none⟩ = some (.int .i64 (rd_T124 xs i).f2) := by
  obtain ⟨ad, c, e, _, hK, hc0⟩ := Kd.C_get h z124 i h0 h1
  have hc : ∀ j u, c[j]? = some u → w.cell? (ad.add (i.toNat * 3 + j)) = some u := hc0
  obtain rfl := k124_open hK
  exact ⟨ad, e, hc 0 _ rfl, by rw [← add_field _ _ 1 (by omega)]; exact hc 1 _ rfl, by rw [← add_field _ _ 2 (by omega)]; exact hc 2 _ rfl⟩
def isa_in.f (a0 : Int) (a1 : Int) (a2 : Int) : Option (Bool) := if a0 ≥ a1 then (some (decide (a0 ≤ a2))) else (some false)
set_option maxHeartbeats 8000000 in
set_option maxRecDepth 100000 in
theorem isa_in.calls (a0 : Int) (a1 : Int) (a2 : Int) (r : Bool) (w : World) (h : isa_in.f a0 a1 a2 = some r) :
  Calls Tryz.prog 51 #[.int .i64 a0, .int .i64 a1, .int .i64 a2] w fun e w' => e = .returned (.bool r) ∧ Drawn0 w w' := by
 have H : (if a0 ≥ a1 then (some (decide (a0 ≤ a2))) else (some false)) = some r := h
 clear h
 by_cases c4 : a0 ≥ a1
 ·rw [if_pos c4] at H
  have c4b0 : decide (a1 ≤ a0) = true := decide_eq_true c4
  clear c4
  obtain rfl := Option.some.inj H
  go_enter Tryz.func51, Tryz.ntmps51
  go_wp2
  go_ret
  exact ⟨tR, tD⟩
 rw [if_neg c4] at H
 have c4b0 : decide (a1 ≤ a0) = false := decide_eq_false c4
 clear c4
 obtain rfl := Option.some.inj H
 go_enter Tryz.func51, Tryz.ntmps51
 go_wp2
 go_ret
 exact ⟨tR, tD⟩
mutual
def isa_other.j0 : Nat → Int → Int → Bool → Option (Int)
 | 0, _, _, _ => none
 | k + 1, x0, x3, x4 => if x4 = true then (some 7) else (if x3 = 32 then (isa_other.j1 k x0 x3 (x3 == 32)) else (if x3 = 33 then (isa_other.j1 k x0 x3 (x3 == 33)) else (isa_other.j1 k x0 x3 (x3 == 34))))
def isa_other.j1 : Nat → Int → Int → Bool → Option (Int)
 | 0, _, _, _ => none
 | k + 1, x0, x3, x8 => if x8 = true then (some 8) else (if x3 = 63 then (some 9) else (if x3 = 64 then (some 0) else (if x3 = 65 then (some 0) else (if x3 = 66 then (isa_other.j2 k x0 (x3 == 66)) else (isa_other.j2 k x0 (x3 == 77))))))
def isa_other.j2 : Nat → Int → Bool → Option (Int)
 | 0, _, _ => none
 | k + 1, x0, x18 => if x18 = true then (some 10) else (if x0 > 66 then (some 11) else (some 3))
end
def isa_other.f (k : Nat) (a0 : Int) : Option (Int) := if a0 = 28 then (isa_other.j0 k a0 a0 (a0 == 28)) else (if a0 = 29 then (isa_other.j0 k a0 a0 (a0 == 29)) else (isa_other.j0 k a0 a0 (a0 == 30)))
set_option maxHeartbeats 8000000 in
set_option maxRecDepth 100000 in
theorem isa_other.calls (k : Nat) (a0 : Int) (r : Int) (w : World) (h : isa_other.f k a0 = some r) :
  Calls Tryz.prog 72 #[.int .i64 a0] w fun e w' => e = .returned (.int .i64 r) ∧ Drawn0 w w' := by
 unfold isa_other.f at h; have H := h
 clear h
 have HC2 := Aside0.mk H
 clear H
 go_enter Tryz.func72, Tryz.ntmps72
 go_upto_if 4 with (fail)
 go_cut [4] (fun v4 wc => ∃ (kq : Nat) (x4_1 : Bool), v4 = .bool x4_1 ∧ Aside0 (isa_other.j0 kq a0 a0 x4_1 = some r) ∧ Aside0 (kq ≤ k) ∧ Drawn0 w wc)
 case first =>
  have H := HC2.out
  clear HC2
  by_cases c3 : a0 = 28
  ·rw [if_pos c3] at H
   have c3b0 := bT c3; have c3b1 := nF c3
   clear c3
   (first | rw [c3b0] | (simp only [i64_w, i32_w]; rw [c3b0]) | skip)
   have H' := Aside0.mk H
   clear H
   go_wp2
   go_meet
   case rel => exact ⟨_, ((a0 == 28)), tR, H', ⟨tO⟩, tD⟩
  rw [if_neg c3] at H
  have c3b0 := bF c3; have c3b1 := nT c3
  (first | rw [c3b0] | (simp only [i64_w, i32_w]; rw [c3b0]) | skip)
  by_cases c4 : a0 = 29
  ·rw [if_pos c4] at H
   have c4b0 := bT c4; have c4b1 := nF c4
   clear c4
   have H' := Aside0.mk H
   clear H
   go_wp2
   go_meet
   case rel => exact ⟨_, ((a0 == 29)), tR, H', ⟨tO⟩, tD⟩
  rw [if_neg c4] at H
  have c4b0 := bF c4; have c4b1 := nT c4
  have H' := Aside0.mk H
  clear H
  go_wp2
  go_meet
  case rel => exact ⟨_, ((a0 == 30)), tR, H', ⟨tO⟩, tD⟩
 case rest =>
  clear HC2
  (try clear p2); (try clear c3); (try clear c4); (try clear c3b0 c3b1); (try clear c4b0 c4b1)
  obtain ⟨kq, x4_1, rfl, HA, HJ1, ⟨mc1, rfl⟩⟩ := hcut
  cases kq with
  | zero => exact absurd HA.out (by simp [isa_other.j0])
  | succ kj1 =>
   have H := HA.out
   clear HA
   simp only [isa_other.j0] at H
   by_cases c5 : x4_1 = true
   ·subst c5
    rw [if_pos rfl] at H
    obtain rfl := Option.some.inj H
    go_wp2
    go_ret
    exact ⟨tR, tD⟩
   replace c5 := Bool.eq_false_iff.mpr c5
   subst c5
   rw [if_neg nX] at H
   have HC6 := Aside0.mk H
   clear H
   go_upto_if 8 with (fail)
   go_cut [8] (fun v8 wc => ∃ (kq : Nat) (x8_5 : Bool), v8 = .bool x8_5 ∧ Aside0 (isa_other.j1 kq a0 a0 x8_5 = some r) ∧ Aside0 (kq ≤ kj1) ∧ Drawn0 w wc)
   case first =>
    have H := HC6.out
    clear HC6
    by_cases c7 : a0 = 32
    ·rw [if_pos c7] at H
     have c7b0 := bT c7; have c7b1 := nF c7
     clear c7
     (first | rw [c7b0] | (simp only [i64_w, i32_w]; rw [c7b0]) | skip)
     have H' := Aside0.mk H
     clear H
     go_wp2
     go_meet
     case rel => exact ⟨_, ((a0 == 32)), tR, H', ⟨by have := HJ1.out; first | omega | exact Nat.le_refl _⟩, tD⟩
    rw [if_neg c7] at H
    have c7b0 := bF c7; have c7b1 := nT c7
    (first | rw [c7b0] | (simp only [i64_w, i32_w]; rw [c7b0]) | skip)
    by_cases c8 : a0 = 33
    ·rw [if_pos c8] at H
     have c8b0 := bT c8; have c8b1 := nF c8
     clear c8
     have H' := Aside0.mk H
     clear H
     go_wp2
     go_meet
     case rel => exact ⟨_, ((a0 == 33)), tR, H', ⟨by have := HJ1.out; first | omega | exact Nat.le_refl _⟩, tD⟩
    rw [if_neg c8] at H
    have c8b0 := bF c8; have c8b1 := nT c8
    have H' := Aside0.mk H
    clear H
    go_wp2
    go_meet
    case rel => exact ⟨_, ((a0 == 34)), tR, H', ⟨by have := HJ1.out; first | omega | exact Nat.le_refl _⟩, tD⟩
   case rest =>
    clear HC6
    (try clear c1); (try clear p2); (try clear c3); (try clear c4); (try clear c5); (try clear c7); (try clear c8); (try clear p2); (try clear c3b0 c3b1); (try clear c4b0 c4b1); (try clear c7b0 c7b1); (try clear c8b0 c8b1)
    obtain ⟨kq, x8_5, rfl, HA, HJ5, ⟨mc5, rfl⟩⟩ := hcut
    cases kq with
    | zero => exact absurd HA.out (by simp [isa_other.j1])
    | succ kj5 =>
     have H := HA.out
     clear HA
     simp only [isa_other.j1] at H
     by_cases c9 : x8_5 = true
     ·subst c9
      rw [if_pos rfl] at H
      obtain rfl := Option.some.inj H
      go_wp2
      go_ret
      exact ⟨tR, tD⟩
     replace c9 := Bool.eq_false_iff.mpr c9
     subst c9
     rw [if_neg nX] at H
     by_cases c10 : a0 = 63
     ·rw [if_pos c10] at H
      have c10b0 := bT c10; have c10b1 := nF c10
      clear c10
      obtain rfl := Option.some.inj H
      go_wp2
      go_ret
      exact ⟨tR, tD⟩
     rw [if_neg c10] at H
     have c10b0 := bF c10; have c10b1 := nT c10
     by_cases c11 : a0 = 64
     ·rw [if_pos c11] at H
      have c11b0 := bT c11; have c11b1 := nF c11
      clear c11
      obtain rfl := Option.some.inj H
      go_wp2
      go_ret
      exact ⟨tR, tD⟩
     rw [if_neg c11] at H
     have c11b0 := bF c11; have c11b1 := nT c11
     by_cases c12 : a0 = 65
     ·rw [if_pos c12] at H
      have c12b0 := bT c12; have c12b1 := nF c12
      clear c12
      obtain rfl := Option.some.inj H
      go_wp2
      go_ret
      exact ⟨tR, tD⟩
     rw [if_neg c12] at H
     have c12b0 := bF c12; have c12b1 := nT c12
     have HC13 := Aside0.mk H
     clear H
     go_upto_if 18 with (fail)
     go_cut [18] (fun v18 wc => ∃ (kq : Nat) (x18_12 : Bool), v18 = .bool x18_12 ∧ Aside0 (isa_other.j2 kq a0 x18_12 = some r) ∧ Aside0 (kq ≤ kj5) ∧ Drawn0 w wc)
     case first =>
      have H := HC13.out
      clear HC13
      by_cases c14 : a0 = 66
      ·rw [if_pos c14] at H
       have c14b0 := bT c14; have c14b1 := nF c14
       clear c14
       (first | rw [c14b0] | (simp only [i64_w, i32_w]; rw [c14b0]) | skip)
       have H' := Aside0.mk H
       clear H
       go_wp2
       go_meet
       case rel => exact ⟨_, ((a0 == 66)), tR, H', ⟨by have := HJ1.out; have := HJ5.out; first | omega | exact Nat.le_refl _⟩, tD⟩
      rw [if_neg c14] at H
      have c14b0 := bF c14; have c14b1 := nT c14
      (first | rw [c14b0] | (simp only [i64_w, i32_w]; rw [c14b0]) | skip)
      have H' := Aside0.mk H
      clear H
      go_wp2
      go_meet
      case rel => exact ⟨_, ((a0 == 77)), tR, H', ⟨by have := HJ1.out; have := HJ5.out; first | omega | exact Nat.le_refl _⟩, tD⟩
     case rest =>
      clear HC13
      (try clear c1); (try clear p2); (try clear c3); (try clear c4); (try clear c5); (try clear c7); (try clear c8); (try clear c9); (try clear c10); (try clear c11); (try clear c12); (try clear c14); (try clear p2); (try clear c3b0 c3b1); (try clear c4b0 c4b1); (try clear c7b0 c7b1); (try clear c8b0 c8b1); (try clear c10b0 c10b1); (try clear c11b0 c11b1); (try clear c12b0 c12b1); (try clear c14b0 c14b1)
      obtain ⟨kq, x18_12, rfl, HA, HJ12, ⟨mc12, rfl⟩⟩ := hcut
      cases kq with
      | zero => exact absurd HA.out (by simp [isa_other.j2])
      | succ kj12 =>
       have H := HA.out
       clear HA
       simp only [isa_other.j2] at H
       by_cases c15 : x18_12 = true
       ·subst c15
        rw [if_pos rfl] at H
        obtain rfl := Option.some.inj H
        go_wp2
        go_ret
        exact ⟨tR, tD⟩
       replace c15 := Bool.eq_false_iff.mpr c15
       subst c15
       rw [if_neg nX] at H
       by_cases c16 : a0 > 66
       ·rw [if_pos c16] at H
        have c16b0 : decide (66 < a0) = true := decide_eq_true c16
        clear c16
        obtain rfl := Option.some.inj H
        go_wp2
        go_ret
        exact ⟨tR, tD⟩
       rw [if_neg c16] at H
       have c16b0 : decide (66 < a0) = false := decide_eq_false c16
       clear c16
       obtain rfl := Option.some.inj H
       go_wp2
       go_ret
       exact ⟨tR, tD⟩
def isa_Form.f (k : Nat) (a0 : Int) : Option (Int) := (isa_Name.f a0).bind fun t101 => (if t101.toList = ([] : List UInt8) then (some (-1)) else (if a0 ≤ 2 then (some 1) else (if a0 = 3 then (some 2) else ((isa_in.f a0 5 10).bind fun t102 => (if t102 = true then (some 4) else ((isa_in.f a0 18 21).bind fun t103 => (if t103 = true then (some 5) else ((isa_in.f a0 35 62).bind fun t104 => (if t104 = true then (some 6) else ((isa_other.f k a0).bind fun t105 => (some t105)))))))))))
set_option maxHeartbeats 8000000 in
set_option maxRecDepth 100000 in
theorem isa_Form.calls (k : Nat) (a0 : Int) (r : Int) (w : World) (hG : GOK w) (h : isa_Form.f k a0 = some r) :
  Calls Tryz.prog 55 #[.int .i64 a0] w fun e w' => e = .returned (.int .i64 r) ∧ Drawn0 w w' := by
 have HG := Aside0.mk hG
 clear hG
 unfold isa_Form.f at h; have H := h
 clear h
 obtain ⟨t101, A20, H⟩ := Option.bind_eq_some_iff.mp H
 try dsimp only at H
 have A2 := Aside0.mk A20; clear A20
 by_cases c3 : t101.toList = ([] : List UInt8)
 ·rw [if_pos c3] at H
  have c3b0 : (t101.toList == ([] : List UInt8)) = true := beq_iff_eq.mpr c3
  have c3b1 : (t101.toList != ([] : List UInt8)) = false := bne_eq_false_iff_eq.mpr c3
  clear c3
  obtain rfl := Option.some.inj H
  go_enter Tryz.func55, Tryz.ntmps55
  go_wp2_with (first | ((with_reducible refine gate_callee (f := 71) rfl ?_); refine goesL_ (some 5) rfl rfl Tryz.func71 (by kernel_rfl) rfl #[.int .i64 a0] rfl tM ?_; (with_reducible refine (isa_Name.calls a0 t101 _ ?side1 A2.out).mono ?_); (case side1 => repeat (first | exact HG.out | apply GOK.drewN | apply GOK.drew)); rintro e w' ⟨rfl, ⟨nd, rfl⟩⟩; refine ⟨_, rfl, ?_⟩))
  go_ret
  exact ⟨tR, tD⟩
 rw [if_neg c3] at H
 have c3b0 : (t101.toList == ([] : List UInt8)) = false := beq_eq_false_iff_ne.mpr c3
 have c3b1 : (t101.toList != ([] : List UInt8)) = true := bne_iff_ne.mpr c3
 by_cases c4 : a0 ≤ 2
 ·rw [if_pos c4] at H
  have c4b0 : decide (a0 ≤ 2) = true := decide_eq_true c4
  clear c4
  obtain rfl := Option.some.inj H
  go_enter Tryz.func55, Tryz.ntmps55
  go_wp2_with (first | ((with_reducible refine gate_callee (f := 71) rfl ?_); refine goesL_ (some 5) rfl rfl Tryz.func71 (by kernel_rfl) rfl #[.int .i64 a0] rfl tM ?_; (with_reducible refine (isa_Name.calls a0 t101 _ ?side1 A2.out).mono ?_); (case side1 => repeat (first | exact HG.out | apply GOK.drewN | apply GOK.drew)); rintro e w' ⟨rfl, ⟨nd, rfl⟩⟩; refine ⟨_, rfl, ?_⟩))
  go_ret
  exact ⟨tR, tD⟩
 rw [if_neg c4] at H
 have c4b0 : decide (a0 ≤ 2) = false := decide_eq_false c4
 clear c4
 by_cases c5 : a0 = 3
 ·rw [if_pos c5] at H
  have c5b0 := bT c5; have c5b1 := nF c5
  clear c5
  obtain rfl := Option.some.inj H
  go_enter Tryz.func55, Tryz.ntmps55
  go_wp2_with (first | ((with_reducible refine gate_callee (f := 71) rfl ?_); refine goesL_ (some 5) rfl rfl Tryz.func71 (by kernel_rfl) rfl #[.int .i64 a0] rfl tM ?_; (with_reducible refine (isa_Name.calls a0 t101 _ ?side1 A2.out).mono ?_); (case side1 => repeat (first | exact HG.out | apply GOK.drewN | apply GOK.drew)); rintro e w' ⟨rfl, ⟨nd, rfl⟩⟩; refine ⟨_, rfl, ?_⟩))
  go_ret
  exact ⟨tR, tD⟩
 rw [if_neg c5] at H
 have c5b0 := bF c5; have c5b1 := nT c5
 obtain ⟨t102, A60, H⟩ := Option.bind_eq_some_iff.mp H
 try dsimp only at H
 have A6 := Aside0.mk A60; clear A60
 by_cases c7 : t102 = true
 ·subst c7
  rw [if_pos rfl] at H
  obtain rfl := Option.some.inj H
  go_enter Tryz.func55, Tryz.ntmps55
  go_wp2_with (first | ((with_reducible refine gate_callee (f := 71) rfl ?_); refine goesL_ (some 5) rfl rfl Tryz.func71 (by kernel_rfl) rfl #[.int .i64 a0] rfl tM ?_; (with_reducible refine (isa_Name.calls a0 t101 _ ?side1 A2.out).mono ?_); (case side1 => repeat (first | exact HG.out | apply GOK.drewN | apply GOK.drew)); rintro e w' ⟨rfl, ⟨nd, rfl⟩⟩; refine ⟨_, rfl, ?_⟩) | ((with_reducible refine gate_callee (f := 51) rfl ?_); refine goesL_ (some 15) rfl rfl Tryz.func51 (by kernel_rfl) rfl #[.int .i64 a0, .int .i64 5, .int .i64 10] rfl tM ?_; (with_reducible refine (isa_in.calls a0 5 10 true _ A6.out).mono ?_); rintro e w' ⟨rfl, ⟨nd, rfl⟩⟩; refine ⟨_, rfl, ?_⟩))
  go_ret
  exact ⟨tR, tD⟩
 replace c7 := Bool.eq_false_iff.mpr c7
 subst c7
 rw [if_neg nX] at H
 obtain ⟨t103, A80, H⟩ := Option.bind_eq_some_iff.mp H
 try dsimp only at H
 have A8 := Aside0.mk A80; clear A80
 by_cases c9 : t103 = true
 ·subst c9
  rw [if_pos rfl] at H
  obtain rfl := Option.some.inj H
  go_enter Tryz.func55, Tryz.ntmps55
  go_wp2_with (first | ((with_reducible refine gate_callee (f := 71) rfl ?_); refine goesL_ (some 5) rfl rfl Tryz.func71 (by kernel_rfl) rfl #[.int .i64 a0] rfl tM ?_; (with_reducible refine (isa_Name.calls a0 t101 _ ?side1 A2.out).mono ?_); (case side1 => repeat (first | exact HG.out | apply GOK.drewN | apply GOK.drew)); rintro e w' ⟨rfl, ⟨nd, rfl⟩⟩; refine ⟨_, rfl, ?_⟩) | ((with_reducible refine gate_callee (f := 51) rfl ?_); refine goesL_ (some 15) rfl rfl Tryz.func51 (by kernel_rfl) rfl #[.int .i64 a0, .int .i64 5, .int .i64 10] rfl tM ?_; (with_reducible refine (isa_in.calls a0 5 10 false _ A6.out).mono ?_); rintro e w' ⟨rfl, ⟨nd, rfl⟩⟩; refine ⟨_, rfl, ?_⟩) | ((with_reducible refine gate_callee (f := 51) rfl ?_); refine goesL_ (some 18) rfl rfl Tryz.func51 (by kernel_rfl) rfl #[.int .i64 a0, .int .i64 18, .int .i64 21] rfl tM ?_; (with_reducible refine (isa_in.calls a0 18 21 true _ A8.out).mono ?_); rintro e w' ⟨rfl, ⟨nd, rfl⟩⟩; refine ⟨_, rfl, ?_⟩))
  go_ret
  exact ⟨tR, tD⟩
 replace c9 := Bool.eq_false_iff.mpr c9
 subst c9
 rw [if_neg nX] at H
 obtain ⟨t104, A100, H⟩ := Option.bind_eq_some_iff.mp H
 try dsimp only at H
 have A10 := Aside0.mk A100; clear A100
 by_cases c11 : t104 = true
 ·subst c11
  rw [if_pos rfl] at H
  obtain rfl := Option.some.inj H
  go_enter Tryz.func55, Tryz.ntmps55
  go_wp2_with (first | ((with_reducible refine gate_callee (f := 71) rfl ?_); refine goesL_ (some 5) rfl rfl Tryz.func71 (by kernel_rfl) rfl #[.int .i64 a0] rfl tM ?_; (with_reducible refine (isa_Name.calls a0 t101 _ ?side1 A2.out).mono ?_); (case side1 => repeat (first | exact HG.out | apply GOK.drewN | apply GOK.drew)); rintro e w' ⟨rfl, ⟨nd, rfl⟩⟩; refine ⟨_, rfl, ?_⟩) | ((with_reducible refine gate_callee (f := 51) rfl ?_); refine goesL_ (some 15) rfl rfl Tryz.func51 (by kernel_rfl) rfl #[.int .i64 a0, .int .i64 5, .int .i64 10] rfl tM ?_; (with_reducible refine (isa_in.calls a0 5 10 false _ A6.out).mono ?_); rintro e w' ⟨rfl, ⟨nd, rfl⟩⟩; refine ⟨_, rfl, ?_⟩) | ((with_reducible refine gate_callee (f := 51) rfl ?_); refine goesL_ (some 18) rfl rfl Tryz.func51 (by kernel_rfl) rfl #[.int .i64 a0, .int .i64 18, .int .i64 21] rfl tM ?_; (with_reducible refine (isa_in.calls a0 18 21 false _ A8.out).mono ?_); rintro e w' ⟨rfl, ⟨nd, rfl⟩⟩; refine ⟨_, rfl, ?_⟩) | ((with_reducible refine gate_callee (f := 51) rfl ?_); refine goesL_ (some 21) rfl rfl Tryz.func51 (by kernel_rfl) rfl #[.int .i64 a0, .int .i64 35, .int .i64 62] rfl tM ?_; (with_reducible refine (isa_in.calls a0 35 62 true _ A10.out).mono ?_); rintro e w' ⟨rfl, ⟨nd, rfl⟩⟩; refine ⟨_, rfl, ?_⟩))
  go_ret
  exact ⟨tR, tD⟩
 replace c11 := Bool.eq_false_iff.mpr c11
 subst c11
 rw [if_neg nX] at H
 obtain ⟨t105, A120, H⟩ := Option.bind_eq_some_iff.mp H
 try dsimp only at H
 have A12 := Aside0.mk A120; clear A120
 obtain rfl := Option.some.inj H
 go_enter Tryz.func55, Tryz.ntmps55
 go_wp2_with (first | ((with_reducible refine gate_callee (f := 71) rfl ?_); refine goesL_ (some 5) rfl rfl Tryz.func71 (by kernel_rfl) rfl #[.int .i64 a0] rfl tM ?_; (with_reducible refine (isa_Name.calls a0 t101 _ ?side1 A2.out).mono ?_); (case side1 => repeat (first | exact HG.out | apply GOK.drewN | apply GOK.drew)); rintro e w' ⟨rfl, ⟨nd, rfl⟩⟩; refine ⟨_, rfl, ?_⟩) | ((with_reducible refine gate_callee (f := 51) rfl ?_); refine goesL_ (some 15) rfl rfl Tryz.func51 (by kernel_rfl) rfl #[.int .i64 a0, .int .i64 5, .int .i64 10] rfl tM ?_; (with_reducible refine (isa_in.calls a0 5 10 false _ A6.out).mono ?_); rintro e w' ⟨rfl, ⟨nd, rfl⟩⟩; refine ⟨_, rfl, ?_⟩) | ((with_reducible refine gate_callee (f := 51) rfl ?_); refine goesL_ (some 18) rfl rfl Tryz.func51 (by kernel_rfl) rfl #[.int .i64 a0, .int .i64 18, .int .i64 21] rfl tM ?_; (with_reducible refine (isa_in.calls a0 18 21 false _ A8.out).mono ?_); rintro e w' ⟨rfl, ⟨nd, rfl⟩⟩; refine ⟨_, rfl, ?_⟩) | ((with_reducible refine gate_callee (f := 51) rfl ?_); refine goesL_ (some 21) rfl rfl Tryz.func51 (by kernel_rfl) rfl #[.int .i64 a0, .int .i64 35, .int .i64 62] rfl tM ?_; (with_reducible refine (isa_in.calls a0 35 62 false _ A10.out).mono ?_); rintro e w' ⟨rfl, ⟨nd, rfl⟩⟩; refine ⟨_, rfl, ?_⟩) | ((with_reducible refine gate_callee (f := 72) rfl ?_); refine goesL_ (some 23) rfl rfl Tryz.func72 (by kernel_rfl) rfl #[.int .i64 a0] rfl tM ?_; (with_reducible refine (isa_other.calls k a0 t105 _ A12.out).mono ?_); rintro e w' ⟨rfl, ⟨nd, rfl⟩⟩; refine ⟨_, rfl, ?_⟩))
 go_ret
 exact ⟨tR, tD⟩
mutual
def dec_parts.j3 : Nat → Int → Int → Int → Int → Int → Int → Int → Bool → Bool → Option (Int × Int × Int × Int × Int × Bool × Bool)
 | 0, _, _, _, _, _, _, _, _, _ => none
 | k + 1, x0, x5, x110000, x110001, x110002, x110003, x110004, x110005, x110006 => if x5 = 10 then (dec_parts.j4 k x0 true x110000 x110001 x110002 x110003 x110004 x110005 x110006) else (dec_parts.j4 k x0 (x5 == 11) x110000 x110001 x110002 x110003 x110004 x110005 x110006)
def dec_parts.j4 : Nat → Int → Bool → Int → Int → Int → Int → Int → Bool → Bool → Option (Int × Int × Int × Int × Int × Bool × Bool)
 | 0, _, _, _, _, _, _, _, _, _ => none
 | k + 1, x0, x59, x110000, x110001, x110002, x110003, x110004, x110005, x110006 => if x59 = true then ((QA.dec_field.f x0 26 1).bind fun t113 => ((QA.dec_field.f x0 25 1).bind fun t114 => (some (x110000, x110001, x110002, x110003, x110004, (t113 == 1), (t114 == 1))))) else (some (x110000, x110001, x110002, x110003, x110004, x110005, x110006))
def dec_parts.j0 : Nat → Int → Int → Int → Int → Int → Int → Bool → Int → Int → Int → Int → Int → Bool → Bool → Option (Int × Int × Int × Int × Int × Bool × Bool)
 | 0, _, _, _, _, _, _, _, _, _, _, _, _, _, _ => none
 | k + 1, x0, x5, x7, x8, x9, x23, x24, x110000, x110001, x110002, x110003, x110004, x110005, x110006 => if x24 = true then (dec_parts.j3 k x0 x5 x110000 x7 x110002 x110003 x110004 x110005 x110006) else (if x23 = 4 then (dec_parts.j1 k x0 x5 x7 x8 x9 x23 (x23 == 4) x110000 x110001 x110002 x110003 x110004 x110005 x110006) else (dec_parts.j1 k x0 x5 x7 x8 x9 x23 (x23 == 5) x110000 x110001 x110002 x110003 x110004 x110005 x110006))
def dec_parts.j1 : Nat → Int → Int → Int → Int → Int → Int → Bool → Int → Int → Int → Int → Int → Bool → Bool → Option (Int × Int × Int × Int × Int × Bool × Bool)
 | 0, _, _, _, _, _, _, _, _, _, _, _, _, _, _ => none
 | k + 1, x0, x5, x7, x8, x9, x23, x29, x110000, x110001, x110002, x110003, x110004, x110005, x110006 => if x29 = true then (dec_parts.j3 k x0 x5 x110000 x110001 x8 x9 x110004 x110005 x110006) else (if x23 = 6 then (dec_parts.j2 k x0 x5 x7 x8 x9 x23 (x23 == 6) x110000 x110001 x110002 x110003 x110004 x110005 x110006) else (dec_parts.j2 k x0 x5 x7 x8 x9 x23 (x23 == 11) x110000 x110001 x110002 x110003 x110004 x110005 x110006))
def dec_parts.j2 : Nat → Int → Int → Int → Int → Int → Int → Bool → Int → Int → Int → Int → Int → Bool → Bool → Option (Int × Int × Int × Int × Int × Bool × Bool)
 | 0, _, _, _, _, _, _, _, _, _, _, _, _, _, _ => none
 | k + 1, x0, x5, x7, x8, x9, x23, x36, x110000, x110001, x110002, x110003, x110004, x110005, x110006 => if x36 = true then (dec_parts.j3 k x0 x5 x110000 x7 x8 x9 x110004 x110005 x110006) else (if x23 = 3 then (dec_parts.j3 k x0 x5 x110000 x7 x8 x110003 x110004 x110005 x110006) else (if x23 = 7 then (dec_parts.j3 k x0 x5 x110000 x7 x8 x110003 x110004 x110005 x110006) else (if x23 = 8 then (dec_parts.j3 k x0 x5 x110000 x7 x8 x110003 x110004 x110005 x110006) else (if x23 = 10 then (dec_parts.j3 k x0 x5 x110000 x7 x8 x110003 x110004 x110005 x110006) else (dec_parts.j3 k x0 x5 x110000 x110001 x110002 x110003 x110004 x110005 x110006)))))
end
def dec_parts.f (k : Nat) (a0 : Int) (a1 : Int) : Option (Int × Int × Int × Int × Int × Bool × Bool) := (isa_Form.f k a1).bind fun t107 => ((dec_immediate.f a0 t107).bind fun t108 => ((QA.dec_field.f a0 7 5).bind fun t110 => ((QA.dec_field.f a0 15 5).bind fun t111 => ((QA.dec_field.f a0 20 5).bind fun t112 => (if t107 = 1 then (dec_parts.j0 k a0 t107 t110 t111 t112 t107 (t107 == 1) a1 0 0 0 t108 false false) else (dec_parts.j0 k a0 t107 t110 t111 t112 t107 (t107 == 2) a1 0 0 0 t108 false false))))))
set_option maxHeartbeats 8000000 in
set_option maxRecDepth 100000 in
theorem dec_parts.calls (k : Nat) (a0 : Int) (a1 : Int) (r1 : Int) (r2 : Int) (r3 : Int) (r4 : Int) (r5 : Int) (r6 : Bool) (r7 : Bool) (w : World) (hG : GOK w) (h : dec_parts.f k a0 a1 = some (r1, r2, r3, r4, r5, r6, r7)) :
  Calls Tryz.prog 66 #[.int .u32 a0, .int .i64 a1] w fun e w' => e = .returned (.agg #[.int .i64 r1, .int .i64 r2, .int .i64 r3, .int .i64 r4, .int .i64 r5, .bool r6, .bool r7]) ∧ Below w.heap.size w w' := by
 have hu31 := Tryz.underlying31
 have HG := Aside0.mk hG
 clear hG
 have HB := Aside0.mk (Below.refl w.heap.size w)
 unfold dec_parts.f at h; have H := h
 clear h
 obtain ⟨t107, A30, H⟩ := Option.bind_eq_some_iff.mp H
 try dsimp only at H
 have A3 := Aside0.mk A30; clear A30
 obtain ⟨t108, A40, H⟩ := Option.bind_eq_some_iff.mp H
 try dsimp only at H
 have A4 := Aside0.mk A40; clear A40
 obtain ⟨t110, A50, H⟩ := Option.bind_eq_some_iff.mp H
 try dsimp only at H
 have A5 := Aside0.mk A50; clear A50
 obtain ⟨t111, A60, H⟩ := Option.bind_eq_some_iff.mp H
 try dsimp only at H
 have A6 := Aside0.mk A60; clear A60
 obtain ⟨t112, A70, H⟩ := Option.bind_eq_some_iff.mp H
 try dsimp only at H
 have A7 := Aside0.mk A70; clear A70
 have HC8 := Aside0.mk H
 clear H
 go_enter Tryz.func66, Tryz.ntmps66
 go_upto_block 0 with (first | ((with_reducible refine gate_dst (N := 4) rfl ?_); refine box_event ?hg (N := 4) ?hd (cs := #[.int .i64 0, .int .i64 0, .int .i64 0, .int .i64 0, .int .i64 0, .bool false, .bool false]) (t := 31) ?hr ?_; (case hd => rfl); (case hg => rfl); (case hr => first | (go_simp; done) | (go_simp; rfl)); intro gb106 hg w9 hbox hb; have n0_ := Aside0.mk (below_step tB hb); have n1_ := Aside0.mk (hbox); have n2_ := Aside0.mk ((by rw [hg]; exact (below_size tB) : w.heap.size ≤ gb106)); have n3_ := Aside0.mk ((by rw [hg]; exact (below_size tB) : w.heap.size ≤ gb106)); clear HB; have HB := n0_; have BK106 := n1_; have GW106 := n2_; have GE106 := n3_; clear n0_ n1_ n2_ n3_; clear hb hbox hg) | ((with_reducible refine gate_callee (f := 55) rfl ?_); refine goesL_ (some 11) rfl rfl Tryz.func55 (by kernel_rfl) rfl #[.int .i64 a1] rfl tM ?_; (with_reducible refine (isa_Form.calls k a1 t107 _ ?side1 A3.out).mono ?_); (case side1 => exact GOK.below tC HG.out); rintro e w' ⟨rfl, ⟨nd, rfl⟩⟩; refine ⟨_, rfl, ?_⟩; (try (rw [drewN_self w9]; generalize hq_ : World.drewN w9 _ = w9; have n0_ : Aside0 (w9.heap[gb106]? = some (.cells #[.int .i64 0, .int .i64 0, .int .i64 0, .int .i64 0, .int .i64 0, .bool false, .bool false] 31 (0, 0))) := ⟨by rw [← hq_]; exact tP⟩; have n1_ : Aside0 (Below w.heap.size w w9) := ⟨by rw [← hq_]; exact tC⟩; clear BK106 HB hq_; have BK106 := n0_; have HB := n1_; clear n0_ n1_))) | ((with_reducible refine gate_callee (f := 86) rfl ?_); refine goesL_ (some 15) rfl rfl Tryz.func86 (by kernel_rfl) rfl #[.int .u32 a0, .int .i64 t107] rfl tM ?_; (with_reducible refine (dec_immediate.calls a0 t107 t108 _ A4.out).mono ?_); rintro e w10 ⟨rfl, hb⟩; refine ⟨_, rfl, ?_⟩; have n0_ := Aside0.mk (blk_below (g := gb106) (o := .cells #[.int .i64 0, .int .i64 0, .int .i64 0, .int .i64 0, .int .i64 0, .bool false, .bool false] 31 (0, 0)) tP hb); have n1_ := Aside0.mk (below_step tC hb); clear BK106; clear HB; have BK106 := n0_; have HB := n1_; clear n0_ n1_; (try clear hb); (try clear hb2); (try clear hk); (try clear hi)) | ((with_reducible refine gate_dst (N := 6) rfl ?_); refine box_event ?hg (N := 6) ?hd (cs := #[.int .i64 0, .int .i64 0, .int .i64 0, .int .i64 0, .int .i64 0, .bool false, .bool false]) (t := 31) ?hr ?_; (case hd => rfl); (case hg => rfl); (case hr => first | (go_simp; done) | (go_simp; rfl)); intro gb109 hg w11 hbox hb; have n0_ := Aside0.mk (blk_below (g := gb106) (o := .cells #[.int .i64 0, .int .i64 0, .int .i64 0, .int .i64 0, .int .i64 0, .bool false, .bool false] 31 (0, 0)) tP hb); have n1_ := Aside0.mk (below_step tC hb); have n2_ := Aside0.mk (hbox); have n3_ := Aside0.mk ((by rw [hg]; exact (below_size tC) : w.heap.size ≤ gb109)); have n4_ := Aside0.mk ((by rw [hg]; exact (below_size tC) : w.heap.size ≤ gb109)); have n5_ := Aside0.mk ((by rw [hg]; exact Nat.ne_of_lt (blk_lt (g := gb106) (o := .cells #[.int .i64 0, .int .i64 0, .int .i64 0, .int .i64 0, .int .i64 0, .bool false, .bool false] 31 (0, 0)) tP) : gb106 ≠ gb109)); have n6_ := Aside0.mk ((by rw [hg]; exact Nat.ne_of_gt (blk_lt (g := gb106) (o := .cells #[.int .i64 0, .int .i64 0, .int .i64 0, .int .i64 0, .int .i64 0, .bool false, .bool false] 31 (0, 0)) tP) : gb109 ≠ gb106)); clear BK106; clear HB; have BK106 := n0_; have HB := n1_; have BK109 := n2_; have GW109 := n3_; have GE109 := n4_; have NB106_109 := n5_; have NB109_106 := n6_; clear n0_ n1_ n2_ n3_ n4_ n5_ n6_; clear hb hbox hg; have hnb12 := NB109_106.out; have hnc12 := NB106_109.out; have hcz13_0 : w11.cell? ⟨gb109, 0, none⟩ = some (.int .i64 0) := (blk_cell BK109.out 0).trans rfl; have hcz13_1 : w11.cell? ⟨gb109, 1, none⟩ = some (.int .i64 0) := (blk_cell BK109.out 1).trans rfl; have hcz13_2 : w11.cell? ⟨gb109, 2, none⟩ = some (.int .i64 0) := (blk_cell BK109.out 2).trans rfl; have hcz13_3 : w11.cell? ⟨gb109, 3, none⟩ = some (.int .i64 0) := (blk_cell BK109.out 3).trans rfl; have hcz13_4 : w11.cell? ⟨gb109, 4, none⟩ = some (.int .i64 0) := (blk_cell BK109.out 4).trans rfl; have hcz13_5 : w11.cell? ⟨gb109, 5, none⟩ = some (.bool false) := (blk_cell BK109.out 5).trans rfl; have hcz13_6 : w11.cell? ⟨gb109, 6, none⟩ = some (.bool false) := (blk_cell BK109.out 6).trans rfl; have hfz13_0 := blk_frozen BK109.out 0; have hfz13_1 := blk_frozen BK109.out 1; have hfz13_2 := blk_frozen BK109.out 2; have hfz13_3 := blk_frozen BK109.out 3; have hfz13_4 := blk_frozen BK109.out 4; have hfz13_5 := blk_frozen BK109.out 5; have hfz13_6 := blk_frozen BK109.out 6) | ((with_reducible refine gate_callee (f := 87) rfl ?_); refine goesL_ (some 18) rfl rfl Tryz.func87 (by kernel_rfl) rfl #[.int .u32 a0, .int .i64 7, .int .i64 5] rfl tM ?_; (with_reducible refine (QA.dec_field.calls a0 7 5 t110 _ A5.out).mono ?_); rintro e w' ⟨rfl, ⟨nd, rfl⟩⟩; refine ⟨_, rfl, ?_⟩) | ((with_reducible refine gate_callee (f := 87) rfl ?_); refine goesL_ (some 20) rfl rfl Tryz.func87 (by kernel_rfl) rfl #[.int .u32 a0, .int .i64 15, .int .i64 5] rfl tM ?_; (with_reducible refine (QA.dec_field.calls a0 15 5 t111 _ A6.out).mono ?_); rintro e w' ⟨rfl, ⟨nd, rfl⟩⟩; refine ⟨_, rfl, ?_⟩) | ((with_reducible refine gate_callee (f := 87) rfl ?_); refine goesL_ (some 22) rfl rfl Tryz.func87 (by kernel_rfl) rfl #[.int .u32 a0, .int .i64 20, .int .i64 5] rfl tM ?_; (with_reducible refine (QA.dec_field.calls a0 20 5 t112 _ A7.out).mono ?_); rintro e w' ⟨rfl, ⟨nd, rfl⟩⟩; refine ⟨_, rfl, ?_⟩))
 (try simp only [Act.put, sS])
 go_cut [] (fun wc => ∃ (kq : Nat) (x110001_7 : Int) (x110002_7 : Int) (x110003_7 : Int), Aside0 (dec_parts.j3 kq a0 t107 a1 x110001_7 x110002_7 x110003_7 t108 false false = some (r1, r2, r3, r4, r5, r6, r7)) ∧ Aside0 (kq ≤ k) ∧ Aside0 (wc.heap[gb106]? = some (.cells #[.int .i64 0, .int .i64 0, .int .i64 0, .int .i64 0, .int .i64 0, .bool false, .bool false] 31 (0, 0))) ∧ Aside0 (wc.heap[gb109]? = some (.cells #[.int .i64 a1, .int .i64 x110001_7, .int .i64 x110002_7, .int .i64 x110003_7, .int .i64 t108, .bool false, .bool false] 31 (0, 0))) ∧ Aside0 (Below w.heap.size w wc))
 case first =>
  have H := HC8.out
  clear HC8
  have HC14 := Aside0.mk H
  clear H
  go_upto_if 24 with (fail)
  go_cut [24] (fun v24 wc => ∃ (kq : Nat) (x24_13 : Bool), v24 = .bool x24_13 ∧ Aside0 (dec_parts.j0 kq a0 t107 t110 t111 t112 t107 x24_13 a1 0 0 0 t108 false false = some (r1, r2, r3, r4, r5, r6, r7)) ∧ Aside0 (kq ≤ k) ∧ Aside0 (wc.heap[gb106]? = some (.cells #[.int .i64 0, .int .i64 0, .int .i64 0, .int .i64 0, .int .i64 0, .bool false, .bool false] 31 (0, 0))) ∧ Aside0 (wc.heap[gb109]? = some (.cells #[.int .i64 a1, .int .i64 0, .int .i64 0, .int .i64 0, .int .i64 t108, .bool false, .bool false] 31 (0, 0))) ∧ Aside0 (Below w.heap.size w wc))
  case first =>
   have H := HC14.out
   clear HC14
   by_cases c15 : t107 = 1
   ·rw [if_pos c15] at H
    have c15b0 := bT c15; have c15b1 := nF c15
    clear c15
    (first | rw [c15b0] | (simp only [i64_w, i32_w]; rw [c15b0]) | skip)
    have H' := Aside0.mk H
    clear H
    go_wp2
    go_meet
    case rel => exact ⟨_, ((t107 == 1)), tR, H', ⟨tO⟩, ⟨tQ⟩, ⟨by (with_reducible repeat (first | refine blk_drewN ?_ _ | refine blk_drew ?_ | refine blk_alloc ?_ _)); refine blk_put (cs := #[.int .i64 a1, .int .i64 0, .int .i64 0, .int .i64 0, .int .i64 t108, .bool false, .bool false]) ?_ 6 _ rfl; (with_reducible repeat (first | refine blk_drewN ?_ _ | refine blk_drew ?_ | refine blk_alloc ?_ _)); refine blk_put (cs := #[.int .i64 a1, .int .i64 0, .int .i64 0, .int .i64 0, .int .i64 t108, .bool false, .bool false]) ?_ 5 _ rfl; (with_reducible repeat (first | refine blk_drewN ?_ _ | refine blk_drew ?_ | refine blk_alloc ?_ _)); refine blk_put (cs := #[.int .i64 a1, .int .i64 0, .int .i64 0, .int .i64 0, .int .i64 0, .bool false, .bool false]) ?_ 4 _ rfl; (with_reducible repeat (first | refine blk_drewN ?_ _ | refine blk_drew ?_ | refine blk_alloc ?_ _)); refine blk_put (cs := #[.int .i64 a1, .int .i64 0, .int .i64 0, .int .i64 0, .int .i64 0, .bool false, .bool false]) ?_ 3 _ rfl; (with_reducible repeat (first | refine blk_drewN ?_ _ | refine blk_drew ?_ | refine blk_alloc ?_ _)); refine blk_put (cs := #[.int .i64 a1, .int .i64 0, .int .i64 0, .int .i64 0, .int .i64 0, .bool false, .bool false]) ?_ 2 _ rfl; (with_reducible repeat (first | refine blk_drewN ?_ _ | refine blk_drew ?_ | refine blk_alloc ?_ _)); refine blk_put (cs := #[.int .i64 a1, .int .i64 0, .int .i64 0, .int .i64 0, .int .i64 0, .bool false, .bool false]) ?_ 1 _ rfl; (with_reducible repeat (first | refine blk_drewN ?_ _ | refine blk_drew ?_ | refine blk_alloc ?_ _)); refine blk_put (cs := #[.int .i64 0, .int .i64 0, .int .i64 0, .int .i64 0, .int .i64 0, .bool false, .bool false]) ?_ 0 _ rfl; (with_reducible repeat (first | refine blk_drewN ?_ _ | refine blk_drew ?_ | refine blk_alloc ?_ _)); exact BK109.out⟩, ⟨tC⟩⟩
   rw [if_neg c15] at H
   have c15b0 := bF c15; have c15b1 := nT c15
   (first | rw [c15b0] | (simp only [i64_w, i32_w]; rw [c15b0]) | skip)
   have H' := Aside0.mk H
   clear H
   go_wp2
   go_meet
   case rel => exact ⟨_, ((t107 == 2)), tR, H', ⟨tO⟩, ⟨tQ⟩, ⟨by (with_reducible repeat (first | refine blk_drewN ?_ _ | refine blk_drew ?_ | refine blk_alloc ?_ _)); refine blk_put (cs := #[.int .i64 a1, .int .i64 0, .int .i64 0, .int .i64 0, .int .i64 t108, .bool false, .bool false]) ?_ 6 _ rfl; (with_reducible repeat (first | refine blk_drewN ?_ _ | refine blk_drew ?_ | refine blk_alloc ?_ _)); refine blk_put (cs := #[.int .i64 a1, .int .i64 0, .int .i64 0, .int .i64 0, .int .i64 t108, .bool false, .bool false]) ?_ 5 _ rfl; (with_reducible repeat (first | refine blk_drewN ?_ _ | refine blk_drew ?_ | refine blk_alloc ?_ _)); refine blk_put (cs := #[.int .i64 a1, .int .i64 0, .int .i64 0, .int .i64 0, .int .i64 0, .bool false, .bool false]) ?_ 4 _ rfl; (with_reducible repeat (first | refine blk_drewN ?_ _ | refine blk_drew ?_ | refine blk_alloc ?_ _)); refine blk_put (cs := #[.int .i64 a1, .int .i64 0, .int .i64 0, .int .i64 0, .int .i64 0, .bool false, .bool false]) ?_ 3 _ rfl; (with_reducible repeat (first | refine blk_drewN ?_ _ | refine blk_drew ?_ | refine blk_alloc ?_ _)); refine blk_put (cs := #[.int .i64 a1, .int .i64 0, .int .i64 0, .int .i64 0, .int .i64 0, .bool false, .bool false]) ?_ 2 _ rfl; (with_reducible repeat (first | refine blk_drewN ?_ _ | refine blk_drew ?_ | refine blk_alloc ?_ _)); refine blk_put (cs := #[.int .i64 a1, .int .i64 0, .int .i64 0, .int .i64 0, .int .i64 0, .bool false, .bool false]) ?_ 1 _ rfl; (with_reducible repeat (first | refine blk_drewN ?_ _ | refine blk_drew ?_ | refine blk_alloc ?_ _)); refine blk_put (cs := #[.int .i64 0, .int .i64 0, .int .i64 0, .int .i64 0, .int .i64 0, .bool false, .bool false]) ?_ 0 _ rfl; (with_reducible repeat (first | refine blk_drewN ?_ _ | refine blk_drew ?_ | refine blk_alloc ?_ _)); exact BK109.out⟩, ⟨tC⟩⟩
  case rest =>
   clear HC14
   (try clear c1); (try clear p2); (try clear c5); (try clear c6); (try clear c8); (try clear c12); (try clear c15); (try clear c15b0 c15b1); (try clear hcz13_0 hcz13_1 hcz13_2 hcz13_3 hcz13_4 hcz13_5 hcz13_6); (try clear hfz13_0 hfz13_1 hfz13_2 hfz13_3 hfz13_4 hfz13_5 hfz13_6)
   obtain ⟨kq, x24_13, rfl, HA, HJ13, BK106, BK109, HB⟩ := hcut
   cases kq with
   | zero => exact absurd HA.out (by simp [dec_parts.j0])
   | succ kj13 =>
    have H := HA.out
    clear HA
    simp only [dec_parts.j0] at H
    by_cases c16 : x24_13 = true
    ·subst c16
     rw [if_pos rfl] at H
     have H' := Aside0.mk H
     clear H
     have hnb17 := NB109_106.out
     have hnc17 := NB106_109.out
     have hcz18_0 : wc.cell? ⟨gb109, 0, none⟩ = some (.int .i64 a1) := (blk_cell BK109.out 0).trans rfl
     have hcz18_1 : wc.cell? ⟨gb109, 1, none⟩ = some (.int .i64 0) := (blk_cell BK109.out 1).trans rfl
     have hcz18_2 : wc.cell? ⟨gb109, 2, none⟩ = some (.int .i64 0) := (blk_cell BK109.out 2).trans rfl
     have hcz18_3 : wc.cell? ⟨gb109, 3, none⟩ = some (.int .i64 0) := (blk_cell BK109.out 3).trans rfl
     have hcz18_4 : wc.cell? ⟨gb109, 4, none⟩ = some (.int .i64 t108) := (blk_cell BK109.out 4).trans rfl
     have hcz18_5 : wc.cell? ⟨gb109, 5, none⟩ = some (.bool false) := (blk_cell BK109.out 5).trans rfl
     have hcz18_6 : wc.cell? ⟨gb109, 6, none⟩ = some (.bool false) := (blk_cell BK109.out 6).trans rfl
     have hfz18_0 := blk_frozen BK109.out 0
     have hfz18_1 := blk_frozen BK109.out 1
     have hfz18_2 := blk_frozen BK109.out 2
     have hfz18_3 := blk_frozen BK109.out 3
     have hfz18_4 := blk_frozen BK109.out 4
     have hfz18_5 := blk_frozen BK109.out 5
     have hfz18_6 := blk_frozen BK109.out 6
     go_wp2
     go_meet
     case rel => exact ⟨_, (t110), (0), (0), H', ⟨by have := HJ13.out; first | omega | exact Nat.le_refl _⟩, ⟨tQ⟩, ⟨by (with_reducible repeat (first | refine blk_drewN ?_ _ | refine blk_drew ?_ | refine blk_alloc ?_ _)); refine blk_put (cs := #[.int .i64 a1, .int .i64 0, .int .i64 0, .int .i64 0, .int .i64 t108, .bool false, .bool false]) ?_ 1 _ rfl; (with_reducible repeat (first | refine blk_drewN ?_ _ | refine blk_drew ?_ | refine blk_alloc ?_ _)); exact BK109.out⟩, ⟨tC⟩⟩
    replace c16 := Bool.eq_false_iff.mpr c16
    subst c16
    rw [if_neg nX] at H
    have HC19 := Aside0.mk H
    clear H
    go_upto_if 29 with (fail)
    go_cut [29] (fun v29 wc => ∃ (kq : Nat) (x29_18 : Bool), v29 = .bool x29_18 ∧ Aside0 (dec_parts.j1 kq a0 t107 t110 t111 t112 t107 x29_18 a1 0 0 0 t108 false false = some (r1, r2, r3, r4, r5, r6, r7)) ∧ Aside0 (kq ≤ kj13) ∧ Aside0 (wc.heap[gb106]? = some (.cells #[.int .i64 0, .int .i64 0, .int .i64 0, .int .i64 0, .int .i64 0, .bool false, .bool false] 31 (0, 0))) ∧ Aside0 (wc.heap[gb109]? = some (.cells #[.int .i64 a1, .int .i64 0, .int .i64 0, .int .i64 0, .int .i64 t108, .bool false, .bool false] 31 (0, 0))) ∧ Aside0 (Below w.heap.size w wc))
    case first =>
     have H := HC19.out
     clear HC19
     by_cases c20 : t107 = 4
     ·rw [if_pos c20] at H
      have c20b0 := bT c20; have c20b1 := nF c20
      clear c20
      (first | rw [c20b0] | (simp only [i64_w, i32_w]; rw [c20b0]) | skip)
      have H' := Aside0.mk H
      clear H
      go_wp2
      go_meet
      case rel => exact ⟨_, ((t107 == 4)), tR, H', ⟨by have := HJ13.out; first | omega | exact Nat.le_refl _⟩, ⟨tP⟩, ⟨tP⟩, ⟨tC⟩⟩
     rw [if_neg c20] at H
     have c20b0 := bF c20; have c20b1 := nT c20
     (first | rw [c20b0] | (simp only [i64_w, i32_w]; rw [c20b0]) | skip)
     have H' := Aside0.mk H
     clear H
     go_wp2
     go_meet
     case rel => exact ⟨_, ((t107 == 5)), tR, H', ⟨by have := HJ13.out; first | omega | exact Nat.le_refl _⟩, ⟨tP⟩, ⟨tP⟩, ⟨tC⟩⟩
    case rest =>
     clear HC19
     (try clear c1); (try clear c2); (try clear p2); (try clear c5); (try clear c6); (try clear c8); (try clear c12); (try clear c15); (try clear c16); (try clear c17); (try clear c20); (try clear p2); (try clear c15b0 c15b1); (try clear c20b0 c20b1); (try clear hcz13_0 hcz13_1 hcz13_2 hcz13_3 hcz13_4 hcz13_5 hcz13_6); (try clear hcz18_0 hcz18_1 hcz18_2 hcz18_3 hcz18_4 hcz18_5 hcz18_6); (try clear hfz13_0 hfz13_1 hfz13_2 hfz13_3 hfz13_4 hfz13_5 hfz13_6); (try clear hfz18_0 hfz18_1 hfz18_2 hfz18_3 hfz18_4 hfz18_5 hfz18_6)
     obtain ⟨kq, x29_18, rfl, HA, HJ18, BK106, BK109, HB⟩ := hcut
     cases kq with
     | zero => exact absurd HA.out (by simp [dec_parts.j1])
     | succ kj18 =>
      have H := HA.out
      clear HA
      simp only [dec_parts.j1] at H
      by_cases c21 : x29_18 = true
      ·subst c21
       rw [if_pos rfl] at H
       have H' := Aside0.mk H
       clear H
       have hnb22 := NB109_106.out
       have hnc22 := NB106_109.out
       have hcz23_0 : wc.cell? ⟨gb109, 0, none⟩ = some (.int .i64 a1) := (blk_cell BK109.out 0).trans rfl
       have hcz23_1 : wc.cell? ⟨gb109, 1, none⟩ = some (.int .i64 0) := (blk_cell BK109.out 1).trans rfl
       have hcz23_2 : wc.cell? ⟨gb109, 2, none⟩ = some (.int .i64 0) := (blk_cell BK109.out 2).trans rfl
       have hcz23_3 : wc.cell? ⟨gb109, 3, none⟩ = some (.int .i64 0) := (blk_cell BK109.out 3).trans rfl
       have hcz23_4 : wc.cell? ⟨gb109, 4, none⟩ = some (.int .i64 t108) := (blk_cell BK109.out 4).trans rfl
       have hcz23_5 : wc.cell? ⟨gb109, 5, none⟩ = some (.bool false) := (blk_cell BK109.out 5).trans rfl
       have hcz23_6 : wc.cell? ⟨gb109, 6, none⟩ = some (.bool false) := (blk_cell BK109.out 6).trans rfl
       have hfz23_0 := blk_frozen BK109.out 0
       have hfz23_1 := blk_frozen BK109.out 1
       have hfz23_2 := blk_frozen BK109.out 2
       have hfz23_3 := blk_frozen BK109.out 3
       have hfz23_4 := blk_frozen BK109.out 4
       have hfz23_5 := blk_frozen BK109.out 5
       have hfz23_6 := blk_frozen BK109.out 6
       go_wp2
       go_meet
       case rel => exact ⟨_, (0), (t111), (t112), H', ⟨by have := HJ13.out; have := HJ18.out; first | omega | exact Nat.le_refl _⟩, ⟨tQ⟩, ⟨by (with_reducible repeat (first | refine blk_drewN ?_ _ | refine blk_drew ?_ | refine blk_alloc ?_ _)); refine blk_put (cs := #[.int .i64 a1, .int .i64 0, .int .i64 t111, .int .i64 0, .int .i64 t108, .bool false, .bool false]) ?_ 3 _ rfl; (with_reducible repeat (first | refine blk_drewN ?_ _ | refine blk_drew ?_ | refine blk_alloc ?_ _)); refine blk_put (cs := #[.int .i64 a1, .int .i64 0, .int .i64 0, .int .i64 0, .int .i64 t108, .bool false, .bool false]) ?_ 2 _ rfl; (with_reducible repeat (first | refine blk_drewN ?_ _ | refine blk_drew ?_ | refine blk_alloc ?_ _)); exact BK109.out⟩, ⟨tC⟩⟩
      replace c21 := Bool.eq_false_iff.mpr c21
      subst c21
      rw [if_neg nX] at H
      have HC24 := Aside0.mk H
      clear H
      go_upto_if 36 with (fail)
      go_cut [36] (fun v36 wc => ∃ (kq : Nat) (x36_23 : Bool), v36 = .bool x36_23 ∧ Aside0 (dec_parts.j2 kq a0 t107 t110 t111 t112 t107 x36_23 a1 0 0 0 t108 false false = some (r1, r2, r3, r4, r5, r6, r7)) ∧ Aside0 (kq ≤ kj18) ∧ Aside0 (wc.heap[gb106]? = some (.cells #[.int .i64 0, .int .i64 0, .int .i64 0, .int .i64 0, .int .i64 0, .bool false, .bool false] 31 (0, 0))) ∧ Aside0 (wc.heap[gb109]? = some (.cells #[.int .i64 a1, .int .i64 0, .int .i64 0, .int .i64 0, .int .i64 t108, .bool false, .bool false] 31 (0, 0))) ∧ Aside0 (Below w.heap.size w wc))
      case first =>
       have H := HC24.out
       clear HC24
       by_cases c25 : t107 = 6
       ·rw [if_pos c25] at H
        have c25b0 := bT c25; have c25b1 := nF c25
        clear c25
        (first | rw [c25b0] | (simp only [i64_w, i32_w]; rw [c25b0]) | skip)
        have H' := Aside0.mk H
        clear H
        go_wp2
        go_meet
        case rel => exact ⟨_, ((t107 == 6)), tR, H', ⟨by have := HJ13.out; have := HJ18.out; first | omega | exact Nat.le_refl _⟩, ⟨tP⟩, ⟨tP⟩, ⟨tC⟩⟩
       rw [if_neg c25] at H
       have c25b0 := bF c25; have c25b1 := nT c25
       (first | rw [c25b0] | (simp only [i64_w, i32_w]; rw [c25b0]) | skip)
       have H' := Aside0.mk H
       clear H
       go_wp2
       go_meet
       case rel => exact ⟨_, ((t107 == 11)), tR, H', ⟨by have := HJ13.out; have := HJ18.out; first | omega | exact Nat.le_refl _⟩, ⟨tP⟩, ⟨tP⟩, ⟨tC⟩⟩
      case rest =>
       clear HC24
       (try clear c1); (try clear c2); (try clear p2); (try clear c5); (try clear c6); (try clear c8); (try clear c12); (try clear c15); (try clear c16); (try clear c17); (try clear c20); (try clear c21); (try clear c22); (try clear c25); (try clear p2); (try clear c15b0 c15b1); (try clear c20b0 c20b1); (try clear c25b0 c25b1); (try clear hcz13_0 hcz13_1 hcz13_2 hcz13_3 hcz13_4 hcz13_5 hcz13_6); (try clear hcz18_0 hcz18_1 hcz18_2 hcz18_3 hcz18_4 hcz18_5 hcz18_6); (try clear hcz23_0 hcz23_1 hcz23_2 hcz23_3 hcz23_4 hcz23_5 hcz23_6); (try clear hfz13_0 hfz13_1 hfz13_2 hfz13_3 hfz13_4 hfz13_5 hfz13_6); (try clear hfz18_0 hfz18_1 hfz18_2 hfz18_3 hfz18_4 hfz18_5 hfz18_6); (try clear hfz23_0 hfz23_1 hfz23_2 hfz23_3 hfz23_4 hfz23_5 hfz23_6)
       obtain ⟨kq, x36_23, rfl, HA, HJ23, BK106, BK109, HB⟩ := hcut
       cases kq with
       | zero => exact absurd HA.out (by simp [dec_parts.j2])
       | succ kj23 =>
        have H := HA.out
        clear HA
        simp only [dec_parts.j2] at H
        by_cases c26 : x36_23 = true
        ·subst c26
         rw [if_pos rfl] at H
         have H' := Aside0.mk H
         clear H
         have hnb27 := NB109_106.out
         have hnc27 := NB106_109.out
         have hcz28_0 : wc.cell? ⟨gb109, 0, none⟩ = some (.int .i64 a1) := (blk_cell BK109.out 0).trans rfl
         have hcz28_1 : wc.cell? ⟨gb109, 1, none⟩ = some (.int .i64 0) := (blk_cell BK109.out 1).trans rfl
         have hcz28_2 : wc.cell? ⟨gb109, 2, none⟩ = some (.int .i64 0) := (blk_cell BK109.out 2).trans rfl
         have hcz28_3 : wc.cell? ⟨gb109, 3, none⟩ = some (.int .i64 0) := (blk_cell BK109.out 3).trans rfl
         have hcz28_4 : wc.cell? ⟨gb109, 4, none⟩ = some (.int .i64 t108) := (blk_cell BK109.out 4).trans rfl
         have hcz28_5 : wc.cell? ⟨gb109, 5, none⟩ = some (.bool false) := (blk_cell BK109.out 5).trans rfl
         have hcz28_6 : wc.cell? ⟨gb109, 6, none⟩ = some (.bool false) := (blk_cell BK109.out 6).trans rfl
         have hfz28_0 := blk_frozen BK109.out 0
         have hfz28_1 := blk_frozen BK109.out 1
         have hfz28_2 := blk_frozen BK109.out 2
         have hfz28_3 := blk_frozen BK109.out 3
         have hfz28_4 := blk_frozen BK109.out 4
         have hfz28_5 := blk_frozen BK109.out 5
         have hfz28_6 := blk_frozen BK109.out 6
         go_wp2
         go_meet
         case rel => exact ⟨_, (t110), (t111), (t112), H', ⟨by have := HJ13.out; have := HJ18.out; have := HJ23.out; first | omega | exact Nat.le_refl _⟩, ⟨tQ⟩, ⟨by (with_reducible repeat (first | refine blk_drewN ?_ _ | refine blk_drew ?_ | refine blk_alloc ?_ _)); refine blk_put (cs := #[.int .i64 a1, .int .i64 t110, .int .i64 t111, .int .i64 0, .int .i64 t108, .bool false, .bool false]) ?_ 3 _ rfl; (with_reducible repeat (first | refine blk_drewN ?_ _ | refine blk_drew ?_ | refine blk_alloc ?_ _)); refine blk_put (cs := #[.int .i64 a1, .int .i64 t110, .int .i64 0, .int .i64 0, .int .i64 t108, .bool false, .bool false]) ?_ 2 _ rfl; (with_reducible repeat (first | refine blk_drewN ?_ _ | refine blk_drew ?_ | refine blk_alloc ?_ _)); refine blk_put (cs := #[.int .i64 a1, .int .i64 0, .int .i64 0, .int .i64 0, .int .i64 t108, .bool false, .bool false]) ?_ 1 _ rfl; (with_reducible repeat (first | refine blk_drewN ?_ _ | refine blk_drew ?_ | refine blk_alloc ?_ _)); exact BK109.out⟩, ⟨tC⟩⟩
        replace c26 := Bool.eq_false_iff.mpr c26
        subst c26
        rw [if_neg nX] at H
        by_cases c29 : t107 = 3
        ·rw [if_pos c29] at H
         have c29b0 := bT c29; have c29b1 := nF c29
         clear c29
         have H' := Aside0.mk H
         clear H
         have hnb30 := NB109_106.out
         have hnc30 := NB106_109.out
         have hcz31_0 : wc.cell? ⟨gb109, 0, none⟩ = some (.int .i64 a1) := (blk_cell BK109.out 0).trans rfl
         have hcz31_1 : wc.cell? ⟨gb109, 1, none⟩ = some (.int .i64 0) := (blk_cell BK109.out 1).trans rfl
         have hcz31_2 : wc.cell? ⟨gb109, 2, none⟩ = some (.int .i64 0) := (blk_cell BK109.out 2).trans rfl
         have hcz31_3 : wc.cell? ⟨gb109, 3, none⟩ = some (.int .i64 0) := (blk_cell BK109.out 3).trans rfl
         have hcz31_4 : wc.cell? ⟨gb109, 4, none⟩ = some (.int .i64 t108) := (blk_cell BK109.out 4).trans rfl
         have hcz31_5 : wc.cell? ⟨gb109, 5, none⟩ = some (.bool false) := (blk_cell BK109.out 5).trans rfl
         have hcz31_6 : wc.cell? ⟨gb109, 6, none⟩ = some (.bool false) := (blk_cell BK109.out 6).trans rfl
         have hfz31_0 := blk_frozen BK109.out 0
         have hfz31_1 := blk_frozen BK109.out 1
         have hfz31_2 := blk_frozen BK109.out 2
         have hfz31_3 := blk_frozen BK109.out 3
         have hfz31_4 := blk_frozen BK109.out 4
         have hfz31_5 := blk_frozen BK109.out 5
         have hfz31_6 := blk_frozen BK109.out 6
         go_wp2
         go_meet
         case rel => exact ⟨_, (t110), (t111), (0), H', ⟨by have := HJ13.out; have := HJ18.out; have := HJ23.out; first | omega | exact Nat.le_refl _⟩, ⟨tQ⟩, ⟨by (with_reducible repeat (first | refine blk_drewN ?_ _ | refine blk_drew ?_ | refine blk_alloc ?_ _)); refine blk_put (cs := #[.int .i64 a1, .int .i64 t110, .int .i64 0, .int .i64 0, .int .i64 t108, .bool false, .bool false]) ?_ 2 _ rfl; (with_reducible repeat (first | refine blk_drewN ?_ _ | refine blk_drew ?_ | refine blk_alloc ?_ _)); refine blk_put (cs := #[.int .i64 a1, .int .i64 0, .int .i64 0, .int .i64 0, .int .i64 t108, .bool false, .bool false]) ?_ 1 _ rfl; (with_reducible repeat (first | refine blk_drewN ?_ _ | refine blk_drew ?_ | refine blk_alloc ?_ _)); exact BK109.out⟩, ⟨tC⟩⟩
        rw [if_neg c29] at H
        have c29b0 := bF c29; have c29b1 := nT c29
        by_cases c32 : t107 = 7
        ·rw [if_pos c32] at H
         have c32b0 := bT c32; have c32b1 := nF c32
         clear c32
         have H' := Aside0.mk H
         clear H
         have hnb33 := NB109_106.out
         have hnc33 := NB106_109.out
         have hcz34_0 : wc.cell? ⟨gb109, 0, none⟩ = some (.int .i64 a1) := (blk_cell BK109.out 0).trans rfl
         have hcz34_1 : wc.cell? ⟨gb109, 1, none⟩ = some (.int .i64 0) := (blk_cell BK109.out 1).trans rfl
         have hcz34_2 : wc.cell? ⟨gb109, 2, none⟩ = some (.int .i64 0) := (blk_cell BK109.out 2).trans rfl
         have hcz34_3 : wc.cell? ⟨gb109, 3, none⟩ = some (.int .i64 0) := (blk_cell BK109.out 3).trans rfl
         have hcz34_4 : wc.cell? ⟨gb109, 4, none⟩ = some (.int .i64 t108) := (blk_cell BK109.out 4).trans rfl
         have hcz34_5 : wc.cell? ⟨gb109, 5, none⟩ = some (.bool false) := (blk_cell BK109.out 5).trans rfl
         have hcz34_6 : wc.cell? ⟨gb109, 6, none⟩ = some (.bool false) := (blk_cell BK109.out 6).trans rfl
         have hfz34_0 := blk_frozen BK109.out 0
         have hfz34_1 := blk_frozen BK109.out 1
         have hfz34_2 := blk_frozen BK109.out 2
         have hfz34_3 := blk_frozen BK109.out 3
         have hfz34_4 := blk_frozen BK109.out 4
         have hfz34_5 := blk_frozen BK109.out 5
         have hfz34_6 := blk_frozen BK109.out 6
         go_wp2
         go_meet
         case rel => exact ⟨_, (t110), (t111), (0), H', ⟨by have := HJ13.out; have := HJ18.out; have := HJ23.out; first | omega | exact Nat.le_refl _⟩, ⟨tQ⟩, ⟨by (with_reducible repeat (first | refine blk_drewN ?_ _ | refine blk_drew ?_ | refine blk_alloc ?_ _)); refine blk_put (cs := #[.int .i64 a1, .int .i64 t110, .int .i64 0, .int .i64 0, .int .i64 t108, .bool false, .bool false]) ?_ 2 _ rfl; (with_reducible repeat (first | refine blk_drewN ?_ _ | refine blk_drew ?_ | refine blk_alloc ?_ _)); refine blk_put (cs := #[.int .i64 a1, .int .i64 0, .int .i64 0, .int .i64 0, .int .i64 t108, .bool false, .bool false]) ?_ 1 _ rfl; (with_reducible repeat (first | refine blk_drewN ?_ _ | refine blk_drew ?_ | refine blk_alloc ?_ _)); exact BK109.out⟩, ⟨tC⟩⟩
        rw [if_neg c32] at H
        have c32b0 := bF c32; have c32b1 := nT c32
        by_cases c35 : t107 = 8
        ·rw [if_pos c35] at H
         have c35b0 := bT c35; have c35b1 := nF c35
         clear c35
         have H' := Aside0.mk H
         clear H
         have hnb36 := NB109_106.out
         have hnc36 := NB106_109.out
         have hcz37_0 : wc.cell? ⟨gb109, 0, none⟩ = some (.int .i64 a1) := (blk_cell BK109.out 0).trans rfl
         have hcz37_1 : wc.cell? ⟨gb109, 1, none⟩ = some (.int .i64 0) := (blk_cell BK109.out 1).trans rfl
         have hcz37_2 : wc.cell? ⟨gb109, 2, none⟩ = some (.int .i64 0) := (blk_cell BK109.out 2).trans rfl
         have hcz37_3 : wc.cell? ⟨gb109, 3, none⟩ = some (.int .i64 0) := (blk_cell BK109.out 3).trans rfl
         have hcz37_4 : wc.cell? ⟨gb109, 4, none⟩ = some (.int .i64 t108) := (blk_cell BK109.out 4).trans rfl
         have hcz37_5 : wc.cell? ⟨gb109, 5, none⟩ = some (.bool false) := (blk_cell BK109.out 5).trans rfl
         have hcz37_6 : wc.cell? ⟨gb109, 6, none⟩ = some (.bool false) := (blk_cell BK109.out 6).trans rfl
         have hfz37_0 := blk_frozen BK109.out 0
         have hfz37_1 := blk_frozen BK109.out 1
         have hfz37_2 := blk_frozen BK109.out 2
         have hfz37_3 := blk_frozen BK109.out 3
         have hfz37_4 := blk_frozen BK109.out 4
         have hfz37_5 := blk_frozen BK109.out 5
         have hfz37_6 := blk_frozen BK109.out 6
         go_wp2
         go_meet
         case rel => exact ⟨_, (t110), (t111), (0), H', ⟨by have := HJ13.out; have := HJ18.out; have := HJ23.out; first | omega | exact Nat.le_refl _⟩, ⟨tQ⟩, ⟨by (with_reducible repeat (first | refine blk_drewN ?_ _ | refine blk_drew ?_ | refine blk_alloc ?_ _)); refine blk_put (cs := #[.int .i64 a1, .int .i64 t110, .int .i64 0, .int .i64 0, .int .i64 t108, .bool false, .bool false]) ?_ 2 _ rfl; (with_reducible repeat (first | refine blk_drewN ?_ _ | refine blk_drew ?_ | refine blk_alloc ?_ _)); refine blk_put (cs := #[.int .i64 a1, .int .i64 0, .int .i64 0, .int .i64 0, .int .i64 t108, .bool false, .bool false]) ?_ 1 _ rfl; (with_reducible repeat (first | refine blk_drewN ?_ _ | refine blk_drew ?_ | refine blk_alloc ?_ _)); exact BK109.out⟩, ⟨tC⟩⟩
        rw [if_neg c35] at H
        have c35b0 := bF c35; have c35b1 := nT c35
        by_cases c38 : t107 = 10
        ·rw [if_pos c38] at H
         have c38b0 := bT c38; have c38b1 := nF c38
         clear c38
         have H' := Aside0.mk H
         clear H
         have hnb39 := NB109_106.out
         have hnc39 := NB106_109.out
         have hcz40_0 : wc.cell? ⟨gb109, 0, none⟩ = some (.int .i64 a1) := (blk_cell BK109.out 0).trans rfl
         have hcz40_1 : wc.cell? ⟨gb109, 1, none⟩ = some (.int .i64 0) := (blk_cell BK109.out 1).trans rfl
         have hcz40_2 : wc.cell? ⟨gb109, 2, none⟩ = some (.int .i64 0) := (blk_cell BK109.out 2).trans rfl
         have hcz40_3 : wc.cell? ⟨gb109, 3, none⟩ = some (.int .i64 0) := (blk_cell BK109.out 3).trans rfl
         have hcz40_4 : wc.cell? ⟨gb109, 4, none⟩ = some (.int .i64 t108) := (blk_cell BK109.out 4).trans rfl
         have hcz40_5 : wc.cell? ⟨gb109, 5, none⟩ = some (.bool false) := (blk_cell BK109.out 5).trans rfl
         have hcz40_6 : wc.cell? ⟨gb109, 6, none⟩ = some (.bool false) := (blk_cell BK109.out 6).trans rfl
         have hfz40_0 := blk_frozen BK109.out 0
         have hfz40_1 := blk_frozen BK109.out 1
         have hfz40_2 := blk_frozen BK109.out 2
         have hfz40_3 := blk_frozen BK109.out 3
         have hfz40_4 := blk_frozen BK109.out 4
         have hfz40_5 := blk_frozen BK109.out 5
         have hfz40_6 := blk_frozen BK109.out 6
         go_wp2
         go_meet
         case rel => exact ⟨_, (t110), (t111), (0), H', ⟨by have := HJ13.out; have := HJ18.out; have := HJ23.out; first | omega | exact Nat.le_refl _⟩, ⟨tQ⟩, ⟨by (with_reducible repeat (first | refine blk_drewN ?_ _ | refine blk_drew ?_ | refine blk_alloc ?_ _)); refine blk_put (cs := #[.int .i64 a1, .int .i64 t110, .int .i64 0, .int .i64 0, .int .i64 t108, .bool false, .bool false]) ?_ 2 _ rfl; (with_reducible repeat (first | refine blk_drewN ?_ _ | refine blk_drew ?_ | refine blk_alloc ?_ _)); refine blk_put (cs := #[.int .i64 a1, .int .i64 0, .int .i64 0, .int .i64 0, .int .i64 t108, .bool false, .bool false]) ?_ 1 _ rfl; (with_reducible repeat (first | refine blk_drewN ?_ _ | refine blk_drew ?_ | refine blk_alloc ?_ _)); exact BK109.out⟩, ⟨tC⟩⟩
        rw [if_neg c38] at H
        have c38b0 := bF c38; have c38b1 := nT c38
        have H' := Aside0.mk H
        clear H
        go_wp2
        go_meet
        case rel => exact ⟨_, (0), (0), (0), H', ⟨by have := HJ13.out; have := HJ18.out; have := HJ23.out; first | omega | exact Nat.le_refl _⟩, ⟨tP⟩, ⟨tP⟩, ⟨tC⟩⟩
 case rest =>
  clear HC8
  (try clear c1); (try clear c2); (try clear p2); (try clear c3); (try clear c5); (try clear c6); (try clear c8); (try clear c12); (try clear c15); (try clear c16); (try clear c17); (try clear c20); (try clear c21); (try clear c22); (try clear c25); (try clear c26); (try clear c27); (try clear c29); (try clear c30); (try clear c32); (try clear c33); (try clear c35); (try clear c36); (try clear c38); (try clear c39); (try clear p2); (try clear c15b0 c15b1); (try clear c20b0 c20b1); (try clear c25b0 c25b1); (try clear c29b0 c29b1); (try clear c32b0 c32b1); (try clear c35b0 c35b1); (try clear c38b0 c38b1); (try clear hcz13_0 hcz13_1 hcz13_2 hcz13_3 hcz13_4 hcz13_5 hcz13_6); (try clear hcz18_0 hcz18_1 hcz18_2 hcz18_3 hcz18_4 hcz18_5 hcz18_6); (try clear hcz23_0 hcz23_1 hcz23_2 hcz23_3 hcz23_4 hcz23_5 hcz23_6); (try clear hcz28_0 hcz28_1 hcz28_2 hcz28_3 hcz28_4 hcz28_5 hcz28_6); (try clear hcz31_0 hcz31_1 hcz31_2 hcz31_3 hcz31_4 hcz31_5 hcz31_6); (try clear hcz34_0 hcz34_1 hcz34_2 hcz34_3 hcz34_4 hcz34_5 hcz34_6); (try clear hcz37_0 hcz37_1 hcz37_2 hcz37_3 hcz37_4 hcz37_5 hcz37_6); (try clear hcz40_0 hcz40_1 hcz40_2 hcz40_3 hcz40_4 hcz40_5 hcz40_6); (try clear hfz13_0 hfz13_1 hfz13_2 hfz13_3 hfz13_4 hfz13_5 hfz13_6); (try clear hfz18_0 hfz18_1 hfz18_2 hfz18_3 hfz18_4 hfz18_5 hfz18_6); (try clear hfz23_0 hfz23_1 hfz23_2 hfz23_3 hfz23_4 hfz23_5 hfz23_6); (try clear hfz28_0 hfz28_1 hfz28_2 hfz28_3 hfz28_4 hfz28_5 hfz28_6); (try clear hfz31_0 hfz31_1 hfz31_2 hfz31_3 hfz31_4 hfz31_5 hfz31_6); (try clear hfz34_0 hfz34_1 hfz34_2 hfz34_3 hfz34_4 hfz34_5 hfz34_6); (try clear hfz37_0 hfz37_1 hfz37_2 hfz37_3 hfz37_4 hfz37_5 hfz37_6); (try clear hfz40_0 hfz40_1 hfz40_2 hfz40_3 hfz40_4 hfz40_5 hfz40_6)
  obtain ⟨kq, x110001_7, x110002_7, x110003_7, HA, HJ7, BK106, BK109, HB⟩ := hcut
  cases kq with
  | zero => exact absurd HA.out (by simp [dec_parts.j3])
  | succ kj7 =>
   have H := HA.out
   clear HA
   simp only [dec_parts.j3] at H
   have HC41 := Aside0.mk H
   clear H
   go_upto_region 19 with (fail)
   go_cut [59] (fun v59 wc => ∃ (kq : Nat) (x59_40 : Bool), v59 = .bool x59_40 ∧ Aside0 (dec_parts.j4 kq a0 x59_40 a1 x110001_7 x110002_7 x110003_7 t108 false false = some (r1, r2, r3, r4, r5, r6, r7)) ∧ Aside0 (kq ≤ kj7) ∧ Aside0 (wc.heap[gb106]? = some (.cells #[.int .i64 0, .int .i64 0, .int .i64 0, .int .i64 0, .int .i64 0, .bool false, .bool false] 31 (0, 0))) ∧ Aside0 (wc.heap[gb109]? = some (.cells #[.int .i64 a1, .int .i64 x110001_7, .int .i64 x110002_7, .int .i64 x110003_7, .int .i64 t108, .bool false, .bool false] 31 (0, 0))) ∧ Aside0 (Below w.heap.size w wc))
   case first =>
    have H := HC41.out
    clear HC41
    by_cases c42 : t107 = 10
    ·rw [if_pos c42] at H
     have c42b0 := bT c42; have c42b1 := nF c42
     clear c42
     (first | rw [c42b0] | (simp only [i64_w, i32_w]; rw [c42b0]) | skip)
     have H' := Aside0.mk H
     clear H
     go_wp2
     go_meet
     case rel => exact ⟨_, (true), tR, H', ⟨by have := HJ7.out; first | omega | exact Nat.le_refl _⟩, ⟨tP⟩, ⟨tP⟩, ⟨tC⟩⟩
    rw [if_neg c42] at H
    have c42b0 := bF c42; have c42b1 := nT c42
    (first | rw [c42b0] | (simp only [i64_w, i32_w]; rw [c42b0]) | skip)
    have H' := Aside0.mk H
    clear H
    go_wp2
    go_meet
    case rel => exact ⟨_, ((t107 == 11)), tR, H', ⟨by have := HJ7.out; first | omega | exact Nat.le_refl _⟩, ⟨tP⟩, ⟨tP⟩, ⟨tC⟩⟩
   case rest =>
    clear HC41
    (try clear c1); (try clear c2); (try clear p2); (try clear c3); (try clear c4); (try clear c5); (try clear c6); (try clear c8); (try clear c12); (try clear c15); (try clear c16); (try clear c17); (try clear c20); (try clear c21); (try clear c22); (try clear c25); (try clear c26); (try clear c27); (try clear c29); (try clear c30); (try clear c32); (try clear c33); (try clear c35); (try clear c36); (try clear c38); (try clear c39); (try clear c42); (try clear p2); (try clear c15b0 c15b1); (try clear c20b0 c20b1); (try clear c25b0 c25b1); (try clear c29b0 c29b1); (try clear c32b0 c32b1); (try clear c35b0 c35b1); (try clear c38b0 c38b1); (try clear c42b0 c42b1); (try clear hcz13_0 hcz13_1 hcz13_2 hcz13_3 hcz13_4 hcz13_5 hcz13_6); (try clear hcz18_0 hcz18_1 hcz18_2 hcz18_3 hcz18_4 hcz18_5 hcz18_6); (try clear hcz23_0 hcz23_1 hcz23_2 hcz23_3 hcz23_4 hcz23_5 hcz23_6); (try clear hcz28_0 hcz28_1 hcz28_2 hcz28_3 hcz28_4 hcz28_5 hcz28_6); (try clear hcz31_0 hcz31_1 hcz31_2 hcz31_3 hcz31_4 hcz31_5 hcz31_6); (try clear hcz34_0 hcz34_1 hcz34_2 hcz34_3 hcz34_4 hcz34_5 hcz34_6); (try clear hcz37_0 hcz37_1 hcz37_2 hcz37_3 hcz37_4 hcz37_5 hcz37_6); (try clear hcz40_0 hcz40_1 hcz40_2 hcz40_3 hcz40_4 hcz40_5 hcz40_6); (try clear hfz13_0 hfz13_1 hfz13_2 hfz13_3 hfz13_4 hfz13_5 hfz13_6); (try clear hfz18_0 hfz18_1 hfz18_2 hfz18_3 hfz18_4 hfz18_5 hfz18_6); (try clear hfz23_0 hfz23_1 hfz23_2 hfz23_3 hfz23_4 hfz23_5 hfz23_6); (try clear hfz28_0 hfz28_1 hfz28_2 hfz28_3 hfz28_4 hfz28_5 hfz28_6); (try clear hfz31_0 hfz31_1 hfz31_2 hfz31_3 hfz31_4 hfz31_5 hfz31_6); (try clear hfz34_0 hfz34_1 hfz34_2 hfz34_3 hfz34_4 hfz34_5 hfz34_6); (try clear hfz37_0 hfz37_1 hfz37_2 hfz37_3 hfz37_4 hfz37_5 hfz37_6); (try clear hfz40_0 hfz40_1 hfz40_2 hfz40_3 hfz40_4 hfz40_5 hfz40_6)
    obtain ⟨kq, x59_40, rfl, HA, HJ40, BK106, BK109, HB⟩ := hcut
    cases kq with
    | zero => exact absurd HA.out (by simp [dec_parts.j4])
    | succ kj40 =>
     have H := HA.out
     clear HA
     simp only [dec_parts.j4] at H
     by_cases c43 : x59_40 = true
     ·subst c43
      rw [if_pos rfl] at H
      obtain ⟨t113, A440, H⟩ := Option.bind_eq_some_iff.mp H
      try dsimp only at H
      have A44 := Aside0.mk A440; clear A440
      obtain ⟨t114, A450, H⟩ := Option.bind_eq_some_iff.mp H
      try dsimp only at H
      have A45 := Aside0.mk A450; clear A450
      simp only [Option.some.injEq, Prod.mk.injEq] at H
      obtain ⟨rfl, rfl, rfl, rfl, rfl, rfl, rfl⟩ := H
      go_wp2_with (first | ((with_reducible refine gate_callee (f := 87) rfl ?_); refine goesL_ (some 61) rfl rfl Tryz.func87 (by kernel_rfl) rfl #[.int .u32 a0, .int .i64 26, .int .i64 1] rfl tM ?_; (with_reducible refine (QA.dec_field.calls a0 26 1 t113 _ A44.out).mono ?_); rintro e w' ⟨rfl, ⟨nd, rfl⟩⟩; refine ⟨_, rfl, ?_⟩; (try (rw [drewN_self wc]; generalize hq_ : World.drewN wc _ = wc; have n0_ : Aside0 (wc.heap[gb106]? = some (.cells #[.int .i64 0, .int .i64 0, .int .i64 0, .int .i64 0, .int .i64 0, .bool false, .bool false] 31 (0, 0))) := ⟨by rw [← hq_]; exact tP⟩; have n1_ : Aside0 (wc.heap[gb109]? = some (.cells #[.int .i64 a1, .int .i64 x110001_7, .int .i64 x110002_7, .int .i64 x110003_7, .int .i64 t108, .bool false, .bool false] 31 (0, 0))) := ⟨by rw [← hq_]; exact tP⟩; have n2_ : Aside0 (Below w.heap.size w wc) := ⟨by rw [← hq_]; exact tC⟩; clear BK106 BK109 HB hq_; have BK106 := n0_; have BK109 := n1_; have HB := n2_; clear n0_ n1_ n2_))) | ((with_reducible refine gate_callee (f := 87) rfl ?_); refine goesL_ (some 64) rfl rfl Tryz.func87 (by kernel_rfl) rfl #[.int .u32 a0, .int .i64 25, .int .i64 1] rfl tM ?_; (with_reducible refine (QA.dec_field.calls a0 25 1 t114 _ A45.out).mono ?_); rintro e w' ⟨rfl, ⟨nd, rfl⟩⟩; refine ⟨_, rfl, ?_⟩; (try (rw [drewN_self wc]; generalize hq_ : World.drewN wc _ = wc; have n0_ : Aside0 (wc.heap[gb106]? = some (.cells #[.int .i64 0, .int .i64 0, .int .i64 0, .int .i64 0, .int .i64 0, .bool false, .bool false] 31 (0, 0))) := ⟨by rw [← hq_]; exact tP⟩; have n1_ : Aside0 (wc.heap[gb109]? = some (.cells #[.int .i64 a1, .int .i64 x110001_7, .int .i64 x110002_7, .int .i64 x110003_7, .int .i64 t108, .bool false, .bool false] 31 (0, 0))) := ⟨by rw [← hq_]; exact tP⟩; have n2_ : Aside0 (Below w.heap.size w wc) := ⟨by rw [← hq_]; exact tC⟩; clear BK106 BK109 HB hq_; have BK106 := n0_; have BK109 := n1_; have HB := n2_; clear n0_ n1_ n2_)); have hnb46 := NB109_106.out; have hnc46 := NB106_109.out; have hcz47_0 : wc.cell? ⟨gb109, 0, none⟩ = some (.int .i64 a1) := (blk_cell BK109.out 0).trans rfl; have hcz47_1 : wc.cell? ⟨gb109, 1, none⟩ = some (.int .i64 x110001_7) := (blk_cell BK109.out 1).trans rfl; have hcz47_2 : wc.cell? ⟨gb109, 2, none⟩ = some (.int .i64 x110002_7) := (blk_cell BK109.out 2).trans rfl; have hcz47_3 : wc.cell? ⟨gb109, 3, none⟩ = some (.int .i64 x110003_7) := (blk_cell BK109.out 3).trans rfl; have hcz47_4 : wc.cell? ⟨gb109, 4, none⟩ = some (.int .i64 t108) := (blk_cell BK109.out 4).trans rfl; have hcz47_5 : wc.cell? ⟨gb109, 5, none⟩ = some (.bool false) := (blk_cell BK109.out 5).trans rfl; have hcz47_6 : wc.cell? ⟨gb109, 6, none⟩ = some (.bool false) := (blk_cell BK109.out 6).trans rfl; have hfz47_0 := blk_frozen BK109.out 0; have hfz47_1 := blk_frozen BK109.out 1; have hfz47_2 := blk_frozen BK109.out 2; have hfz47_3 := blk_frozen BK109.out 3; have hfz47_4 := blk_frozen BK109.out 4; have hfz47_5 := blk_frozen BK109.out 5; have hfz47_6 := blk_frozen BK109.out 6; have hcz48_0 : wc.cell? ⟨gb106, 0, none⟩ = some (.int .i64 0) := (blk_cell BK106.out 0).trans rfl; have hcz48_1 : wc.cell? ⟨gb106, 1, none⟩ = some (.int .i64 0) := (blk_cell BK106.out 1).trans rfl; have hcz48_2 : wc.cell? ⟨gb106, 2, none⟩ = some (.int .i64 0) := (blk_cell BK106.out 2).trans rfl; have hcz48_3 : wc.cell? ⟨gb106, 3, none⟩ = some (.int .i64 0) := (blk_cell BK106.out 3).trans rfl; have hcz48_4 : wc.cell? ⟨gb106, 4, none⟩ = some (.int .i64 0) := (blk_cell BK106.out 4).trans rfl; have hcz48_5 : wc.cell? ⟨gb106, 5, none⟩ = some (.bool false) := (blk_cell BK106.out 5).trans rfl; have hcz48_6 : wc.cell? ⟨gb106, 6, none⟩ = some (.bool false) := (blk_cell BK106.out 6).trans rfl; have hfz48_0 := blk_frozen BK106.out 0; have hfz48_1 := blk_frozen BK106.out 1; have hfz48_2 := blk_frozen BK106.out 2; have hfz48_3 := blk_frozen BK106.out 3; have hfz48_4 := blk_frozen BK106.out 4; have hfz48_5 := blk_frozen BK106.out 5; have hfz48_6 := blk_frozen BK106.out 6))
      refine bodyPost_ret (results_cell_row rfl _ _ gb106 31 #[.int .i64 a1, .int .i64 x110001_7, .int .i64 x110002_7, .int .i64 x110003_7, .int .i64 t108, .bool (t113 == 1), .bool (t114 == 1)] (0, 0) _ rfl (by (with_reducible repeat (first | refine blk_drewN ?_ _ | refine blk_drew ?_ | refine blk_alloc ?_ _)); refine blk_put (cs := #[.int .i64 a1, .int .i64 x110001_7, .int .i64 x110002_7, .int .i64 x110003_7, .int .i64 t108, .bool (t113 == 1), .bool false]) ?_ 6 _ rfl; (with_reducible repeat (first | refine blk_drewN ?_ _ | refine blk_drew ?_ | refine blk_alloc ?_ _)); refine blk_put (cs := #[.int .i64 a1, .int .i64 x110001_7, .int .i64 x110002_7, .int .i64 x110003_7, .int .i64 t108, .bool false, .bool false]) ?_ 5 _ rfl; (with_reducible repeat (first | refine blk_drewN ?_ _ | refine blk_drew ?_ | refine blk_alloc ?_ _)); refine blk_put (cs := #[.int .i64 a1, .int .i64 x110001_7, .int .i64 x110002_7, .int .i64 x110003_7, .int .i64 0, .bool false, .bool false]) ?_ 4 _ rfl; (with_reducible repeat (first | refine blk_drewN ?_ _ | refine blk_drew ?_ | refine blk_alloc ?_ _)); refine blk_put (cs := #[.int .i64 a1, .int .i64 x110001_7, .int .i64 x110002_7, .int .i64 0, .int .i64 0, .bool false, .bool false]) ?_ 3 _ rfl; (with_reducible repeat (first | refine blk_drewN ?_ _ | refine blk_drew ?_ | refine blk_alloc ?_ _)); refine blk_put (cs := #[.int .i64 a1, .int .i64 x110001_7, .int .i64 0, .int .i64 0, .int .i64 0, .bool false, .bool false]) ?_ 2 _ rfl; (with_reducible repeat (first | refine blk_drewN ?_ _ | refine blk_drew ?_ | refine blk_alloc ?_ _)); refine blk_put (cs := #[.int .i64 a1, .int .i64 0, .int .i64 0, .int .i64 0, .int .i64 0, .bool false, .bool false]) ?_ 1 _ rfl; (with_reducible repeat (first | refine blk_drewN ?_ _ | refine blk_drew ?_ | refine blk_alloc ?_ _)); refine blk_put (cs := #[.int .i64 0, .int .i64 0, .int .i64 0, .int .i64 0, .int .i64 0, .bool false, .bool false]) ?_ 0 _ rfl; (with_reducible repeat (first | refine blk_drewN ?_ _ | refine blk_drew ?_ | refine blk_alloc ?_ _)); refine blk_far ?_ NB106_109.out _; (with_reducible repeat (first | refine blk_drewN ?_ _ | refine blk_drew ?_ | refine blk_alloc ?_ _)); refine blk_far ?_ NB106_109.out _; (with_reducible repeat (first | refine blk_drewN ?_ _ | refine blk_drew ?_ | refine blk_alloc ?_ _)); exact BK106.out) Tryz.underlying31 rfl (by kernel_rfl)) rfl ?_
      exact ⟨tE, tC⟩
     replace c43 := Bool.eq_false_iff.mpr c43
     subst c43
     rw [if_neg nX] at H
     simp only [Option.some.injEq, Prod.mk.injEq] at H
     obtain ⟨rfl, rfl, rfl, rfl, rfl, rfl, rfl⟩ := H
     have hnb49 := NB109_106.out
     have hnc49 := NB106_109.out
     have hcz50_0 : wc.cell? ⟨gb109, 0, none⟩ = some (.int .i64 a1) := (blk_cell BK109.out 0).trans rfl
     have hcz50_1 : wc.cell? ⟨gb109, 1, none⟩ = some (.int .i64 x110001_7) := (blk_cell BK109.out 1).trans rfl
     have hcz50_2 : wc.cell? ⟨gb109, 2, none⟩ = some (.int .i64 x110002_7) := (blk_cell BK109.out 2).trans rfl
     have hcz50_3 : wc.cell? ⟨gb109, 3, none⟩ = some (.int .i64 x110003_7) := (blk_cell BK109.out 3).trans rfl
     have hcz50_4 : wc.cell? ⟨gb109, 4, none⟩ = some (.int .i64 t108) := (blk_cell BK109.out 4).trans rfl
     have hcz50_5 : wc.cell? ⟨gb109, 5, none⟩ = some (.bool false) := (blk_cell BK109.out 5).trans rfl
     have hcz50_6 : wc.cell? ⟨gb109, 6, none⟩ = some (.bool false) := (blk_cell BK109.out 6).trans rfl
     have hfz50_0 := blk_frozen BK109.out 0
     have hfz50_1 := blk_frozen BK109.out 1
     have hfz50_2 := blk_frozen BK109.out 2
     have hfz50_3 := blk_frozen BK109.out 3
     have hfz50_4 := blk_frozen BK109.out 4
     have hfz50_5 := blk_frozen BK109.out 5
     have hfz50_6 := blk_frozen BK109.out 6
     have hcz51_0 : wc.cell? ⟨gb106, 0, none⟩ = some (.int .i64 0) := (blk_cell BK106.out 0).trans rfl
     have hcz51_1 : wc.cell? ⟨gb106, 1, none⟩ = some (.int .i64 0) := (blk_cell BK106.out 1).trans rfl
     have hcz51_2 : wc.cell? ⟨gb106, 2, none⟩ = some (.int .i64 0) := (blk_cell BK106.out 2).trans rfl
     have hcz51_3 : wc.cell? ⟨gb106, 3, none⟩ = some (.int .i64 0) := (blk_cell BK106.out 3).trans rfl
     have hcz51_4 : wc.cell? ⟨gb106, 4, none⟩ = some (.int .i64 0) := (blk_cell BK106.out 4).trans rfl
     have hcz51_5 : wc.cell? ⟨gb106, 5, none⟩ = some (.bool false) := (blk_cell BK106.out 5).trans rfl
     have hcz51_6 : wc.cell? ⟨gb106, 6, none⟩ = some (.bool false) := (blk_cell BK106.out 6).trans rfl
     have hfz51_0 := blk_frozen BK106.out 0
     have hfz51_1 := blk_frozen BK106.out 1
     have hfz51_2 := blk_frozen BK106.out 2
     have hfz51_3 := blk_frozen BK106.out 3
     have hfz51_4 := blk_frozen BK106.out 4
     have hfz51_5 := blk_frozen BK106.out 5
     have hfz51_6 := blk_frozen BK106.out 6
     go_wp2
     refine bodyPost_ret (results_cell_row rfl _ _ gb106 31 #[.int .i64 a1, .int .i64 x110001_7, .int .i64 x110002_7, .int .i64 x110003_7, .int .i64 t108, .bool false, .bool false] (0, 0) _ rfl (by (with_reducible repeat (first | refine blk_drewN ?_ _ | refine blk_drew ?_ | refine blk_alloc ?_ _)); refine blk_put (cs := #[.int .i64 a1, .int .i64 x110001_7, .int .i64 x110002_7, .int .i64 x110003_7, .int .i64 t108, .bool false, .bool false]) ?_ 6 _ rfl; (with_reducible repeat (first | refine blk_drewN ?_ _ | refine blk_drew ?_ | refine blk_alloc ?_ _)); refine blk_put (cs := #[.int .i64 a1, .int .i64 x110001_7, .int .i64 x110002_7, .int .i64 x110003_7, .int .i64 t108, .bool false, .bool false]) ?_ 5 _ rfl; (with_reducible repeat (first | refine blk_drewN ?_ _ | refine blk_drew ?_ | refine blk_alloc ?_ _)); refine blk_put (cs := #[.int .i64 a1, .int .i64 x110001_7, .int .i64 x110002_7, .int .i64 x110003_7, .int .i64 0, .bool false, .bool false]) ?_ 4 _ rfl; (with_reducible repeat (first | refine blk_drewN ?_ _ | refine blk_drew ?_ | refine blk_alloc ?_ _)); refine blk_put (cs := #[.int .i64 a1, .int .i64 x110001_7, .int .i64 x110002_7, .int .i64 0, .int .i64 0, .bool false, .bool false]) ?_ 3 _ rfl; (with_reducible repeat (first | refine blk_drewN ?_ _ | refine blk_drew ?_ | refine blk_alloc ?_ _)); refine blk_put (cs := #[.int .i64 a1, .int .i64 x110001_7, .int .i64 0, .int .i64 0, .int .i64 0, .bool false, .bool false]) ?_ 2 _ rfl; (with_reducible repeat (first | refine blk_drewN ?_ _ | refine blk_drew ?_ | refine blk_alloc ?_ _)); refine blk_put (cs := #[.int .i64 a1, .int .i64 0, .int .i64 0, .int .i64 0, .int .i64 0, .bool false, .bool false]) ?_ 1 _ rfl; (with_reducible repeat (first | refine blk_drewN ?_ _ | refine blk_drew ?_ | refine blk_alloc ?_ _)); refine blk_put (cs := #[.int .i64 0, .int .i64 0, .int .i64 0, .int .i64 0, .int .i64 0, .bool false, .bool false]) ?_ 0 _ rfl; (with_reducible repeat (first | refine blk_drewN ?_ _ | refine blk_drew ?_ | refine blk_alloc ?_ _)); exact BK106.out) Tryz.underlying31 rfl (by kernel_rfl)) rfl ?_
     exact ⟨tE, tC⟩
mutual
def isa_Access.j0 : Nat → Int → Bool → Option (Bool × Bool)
 | 0, _, _ => none
 | k + 1, x0, x9 => if x9 = true then (some (true, false)) else ((isa_in.f x0 18 21).bind fun t268 => (if t268 = true then (isa_Access.j1 k x0 t268) else (if x0 = 67 then (isa_Access.j1 k x0 (x0 == 67)) else (isa_Access.j1 k x0 (x0 == 78)))))
def isa_Access.j1 : Nat → Int → Bool → Option (Bool × Bool)
 | 0, _, _ => none
 | k + 1, x0, x15 => if x15 = true then (some (false, true)) else ((isa_Form.f k x0).bind fun t269 => (some ((t269 == 11), (t269 == 11))))
end
def isa_Access.f (k : Nat) (a0 : Int) : Option (Bool × Bool) := (isa_Name.f a0).bind fun t265 => (if t265.toList = ([] : List UInt8) then (some (false, false)) else ((isa_in.f a0 11 17).bind fun t266 => (if t266 = true then (isa_Access.j0 k a0 t266) else ((isa_Form.f k a0).bind fun t267 => (isa_Access.j0 k a0 (t267 == 10))))))
set_option maxHeartbeats 8000000 in
set_option maxRecDepth 100000 in
theorem isa_Access.calls (k : Nat) (a0 : Int) (r1 : Bool) (r2 : Bool) (w : World) (hG : GOK w) (h : isa_Access.f k a0 = some (r1, r2)) :
  Calls Tryz.prog 69 #[.int .i64 a0] w fun e w' => e = .returned (.tuple #[.bool r1, .bool r2]) ∧ Drawn0 w w' := by
 have HG := Aside0.mk hG
 clear hG
 unfold isa_Access.f at h; have H := h
 clear h
 obtain ⟨t265, A20, H⟩ := Option.bind_eq_some_iff.mp H
 try dsimp only at H
 have A2 := Aside0.mk A20; clear A20
 by_cases c3 : t265.toList = ([] : List UInt8)
 ·rw [if_pos c3] at H
  have c3b0 : (t265.toList == ([] : List UInt8)) = true := beq_iff_eq.mpr c3
  have c3b1 : (t265.toList != ([] : List UInt8)) = false := bne_eq_false_iff_eq.mpr c3
  clear c3
  simp only [Option.some.injEq, Prod.mk.injEq] at H
  obtain ⟨rfl, rfl⟩ := H
  go_enter Tryz.func69, Tryz.ntmps69
  go_wp2_with (first | ((with_reducible refine gate_callee (f := 71) rfl ?_); refine goesL_ (some 7) rfl rfl Tryz.func71 (by kernel_rfl) rfl #[.int .i64 a0] rfl tM ?_; (with_reducible refine (isa_Name.calls a0 t265 _ ?side1 A2.out).mono ?_); (case side1 => repeat (first | exact HG.out | apply GOK.drewN | apply GOK.drew)); rintro e w' ⟨rfl, ⟨nd, rfl⟩⟩; refine ⟨_, rfl, ?_⟩))
  go_ret2
  exact ⟨tR, tD⟩
 rw [if_neg c3] at H
 have c3b0 : (t265.toList == ([] : List UInt8)) = false := beq_eq_false_iff_ne.mpr c3
 have c3b1 : (t265.toList != ([] : List UInt8)) = true := bne_iff_ne.mpr c3
 obtain ⟨t266, A40, H⟩ := Option.bind_eq_some_iff.mp H
 try dsimp only at H
 have A4 := Aside0.mk A40; clear A40
 have HC5 := Aside0.mk H
 clear H
 go_enter Tryz.func69, Tryz.ntmps69
 go_upto_if 9 with (first | ((with_reducible refine gate_callee (f := 71) rfl ?_); refine goesL_ (some 7) rfl rfl Tryz.func71 (by kernel_rfl) rfl #[.int .i64 a0] rfl tM ?_; (with_reducible refine (isa_Name.calls a0 t265 _ ?side1 A2.out).mono ?_); (case side1 => repeat (first | exact HG.out | apply GOK.drewN | apply GOK.drew)); rintro e w' ⟨rfl, ⟨nd, rfl⟩⟩; refine ⟨_, rfl, ?_⟩) | ((with_reducible refine gate_callee (f := 51) rfl ?_); refine goesL_ (some 11) rfl rfl Tryz.func51 (by kernel_rfl) rfl #[.int .i64 a0, .int .i64 11, .int .i64 17] rfl tM ?_; (with_reducible refine (isa_in.calls a0 11 17 t266 _ A4.out).mono ?_); rintro e w' ⟨rfl, ⟨nd, rfl⟩⟩; refine ⟨_, rfl, ?_⟩))
 (try simp only [Act.put, sS])
 go_cut [9] (fun v9 wc => ∃ (kq : Nat) (x9_4 : Bool), v9 = .bool x9_4 ∧ Aside0 (isa_Access.j0 kq a0 x9_4 = some (r1, r2)) ∧ Aside0 (kq ≤ k) ∧ Drawn0 w wc)
 case first =>
  have H := HC5.out
  clear HC5
  by_cases c6 : t266 = true
  ·subst c6
   rw [if_pos rfl] at H
   have H' := Aside0.mk H
   clear H
   go_wp2
   go_meet
   case rel => exact ⟨_, (true), tR, H', ⟨tO⟩, tD⟩
  replace c6 := Bool.eq_false_iff.mpr c6
  subst c6
  rw [if_neg nX] at H
  obtain ⟨t267, A70, H⟩ := Option.bind_eq_some_iff.mp H
  try dsimp only at H
  have A7 := Aside0.mk A70; clear A70
  have H' := Aside0.mk H
  clear H
  go_wp2_with (first | ((with_reducible refine gate_callee (f := 55) rfl ?_); refine goesL_ (some 13) rfl rfl Tryz.func55 (by kernel_rfl) rfl #[.int .i64 a0] rfl tM ?_; (with_reducible refine (isa_Form.calls k a0 t267 _ ?side1 A7.out).mono ?_); (case side1 => repeat (first | exact HG.out | apply GOK.drewN | apply GOK.drew)); rintro e w' ⟨rfl, ⟨nd, rfl⟩⟩; refine ⟨_, rfl, ?_⟩))
  go_meet
  case rel => exact ⟨_, ((t267 == 10)), tR, H', ⟨tO⟩, tD⟩
 case rest =>
  clear HC5
  (try clear p2); (try clear c3); (try clear c5); (try clear c6); (try clear c7); (try clear c3b0 c3b1)
  obtain ⟨kq, x9_4, rfl, HA, HJ4, ⟨mc4, rfl⟩⟩ := hcut
  cases kq with
  | zero => exact absurd HA.out (by simp [isa_Access.j0])
  | succ kj4 =>
   have H := HA.out
   clear HA
   simp only [isa_Access.j0] at H
   by_cases c8 : x9_4 = true
   ·subst c8
    rw [if_pos rfl] at H
    simp only [Option.some.injEq, Prod.mk.injEq] at H
    obtain ⟨rfl, rfl⟩ := H
    go_wp2
    go_ret2
    exact ⟨tR, tD⟩
   replace c8 := Bool.eq_false_iff.mpr c8
   subst c8
   rw [if_neg nX] at H
   obtain ⟨t268, A90, H⟩ := Option.bind_eq_some_iff.mp H
   try dsimp only at H
   have A9 := Aside0.mk A90; clear A90
   have HC10 := Aside0.mk H
   clear H
   go_upto_if 15 with (first | ((with_reducible refine gate_callee (f := 51) rfl ?_); refine goesL_ (some 17) rfl rfl Tryz.func51 (by kernel_rfl) rfl #[.int .i64 a0, .int .i64 18, .int .i64 21] rfl tM ?_; (with_reducible refine (isa_in.calls a0 18 21 t268 _ A9.out).mono ?_); rintro e w' ⟨rfl, ⟨nd, rfl⟩⟩; refine ⟨_, rfl, ?_⟩))
   (try simp only [Act.put, sS])
   go_cut [15] (fun v15 wc => ∃ (kq : Nat) (x15_9 : Bool), v15 = .bool x15_9 ∧ Aside0 (isa_Access.j1 kq a0 x15_9 = some (r1, r2)) ∧ Aside0 (kq ≤ kj4) ∧ Drawn0 w wc)
   case first =>
    have H := HC10.out
    clear HC10
    by_cases c11 : t268 = true
    ·subst c11
     rw [if_pos rfl] at H
     have H' := Aside0.mk H
     clear H
     go_wp2
     go_meet
     case rel => exact ⟨_, (true), tR, H', ⟨by have := HJ4.out; first | omega | exact Nat.le_refl _⟩, tD⟩
    replace c11 := Bool.eq_false_iff.mpr c11
    subst c11
    rw [if_neg nX] at H
    by_cases c12 : a0 = 67
    ·rw [if_pos c12] at H
     have c12b0 := bT c12; have c12b1 := nF c12
     clear c12
     (first | rw [c12b0] | (simp only [i64_w, i32_w]; rw [c12b0]) | skip)
     have H' := Aside0.mk H
     clear H
     go_wp2
     go_meet
     case rel => exact ⟨_, ((a0 == 67)), tR, H', ⟨by have := HJ4.out; first | omega | exact Nat.le_refl _⟩, tD⟩
    rw [if_neg c12] at H
    have c12b0 := bF c12; have c12b1 := nT c12
    (first | rw [c12b0] | (simp only [i64_w, i32_w]; rw [c12b0]) | skip)
    have H' := Aside0.mk H
    clear H
    go_wp2
    go_meet
    case rel => exact ⟨_, ((a0 == 78)), tR, H', ⟨by have := HJ4.out; first | omega | exact Nat.le_refl _⟩, tD⟩
   case rest =>
    clear HC10
    (try clear c1); (try clear p2); (try clear c3); (try clear c4); (try clear c5); (try clear c6); (try clear c7); (try clear c8); (try clear c11); (try clear c12); (try clear p2); (try clear c3b0 c3b1); (try clear c12b0 c12b1)
    obtain ⟨kq, x15_9, rfl, HA, HJ9, ⟨mc9, rfl⟩⟩ := hcut
    cases kq with
    | zero => exact absurd HA.out (by simp [isa_Access.j1])
    | succ kj9 =>
     have H := HA.out
     clear HA
     simp only [isa_Access.j1] at H
     by_cases c13 : x15_9 = true
     ·subst c13
      rw [if_pos rfl] at H
      simp only [Option.some.injEq, Prod.mk.injEq] at H
      obtain ⟨rfl, rfl⟩ := H
      go_wp2
      go_ret2
      exact ⟨tR, tD⟩
     replace c13 := Bool.eq_false_iff.mpr c13
     subst c13
     rw [if_neg nX] at H
     obtain ⟨t269, A140, H⟩ := Option.bind_eq_some_iff.mp H
     try dsimp only at H
     have A14 := Aside0.mk A140; clear A140
     simp only [Option.some.injEq, Prod.mk.injEq] at H
     obtain ⟨rfl, rfl⟩ := H
     go_wp2_with (first | ((with_reducible refine gate_callee (f := 55) rfl ?_); refine goesL_ (some 23) rfl rfl Tryz.func55 (by kernel_rfl) rfl #[.int .i64 a0] rfl tM ?_; (with_reducible refine (isa_Form.calls kj9 a0 t269 _ ?side1 A14.out).mono ?_); (case side1 => repeat (first | exact HG.out | apply GOK.drewN | apply GOK.drew)); rintro e w' ⟨rfl, ⟨nd, rfl⟩⟩; refine ⟨_, rfl, ?_⟩))
     go_ret2
     exact ⟨tR, tD⟩
def window_access.f (k : Nat) (a0 : Int) : Option (Bool) := (isa_Access.f k a0).bind fun bt270 => (if bt270.1 = true then (some true) else (some bt270.2))
set_option maxHeartbeats 8000000 in
set_option maxRecDepth 100000 in
theorem window_access.calls (k : Nat) (a0 : Int) (r : Bool) (w : World) (hG : GOK w) (h : window_access.f k a0 = some r) :
  Calls Tryz.prog 49 #[.int .i64 a0] w fun e w' => e = .returned (.bool r) ∧ Drawn0 w w' := by
 have HG := Aside0.mk hG
 clear hG
 unfold window_access.f at h; have H := h
 clear h
 replace H := Option.bind_eq_some_iff.mp H
 obtain ⟨⟨t270, t271⟩, A20, H⟩ := H
 replace H : (if t270 = true then (some true) else (some t271)) = some r := H
 have A2 := Aside0.mk A20; clear A20
 by_cases c3 : t270 = true
 ·subst c3
  rw [if_pos rfl] at H
  obtain rfl := Option.some.inj H
  go_enter Tryz.func49, Tryz.ntmps49
  go_wp2_with (first | ((with_reducible refine gate_callee (f := 69) rfl ?_); refine goesL_ (some 7) rfl rfl Tryz.func69 (by kernel_rfl) rfl #[.int .i64 a0] rfl tM ?_; (with_reducible refine (isa_Access.calls k a0 true t271 _ ?side1 A2.out).mono ?_); (case side1 => repeat (first | exact HG.out | apply GOK.drewN | apply GOK.drew)); rintro e w' ⟨rfl, ⟨nd, rfl⟩⟩; refine ⟨_, rfl, ?_⟩))
  go_ret
  exact ⟨tR, tD⟩
 replace c3 := Bool.eq_false_iff.mpr c3
 subst c3
 rw [if_neg nX] at H
 obtain rfl := Option.some.inj H
 go_enter Tryz.func49, Tryz.ntmps49
 go_wp2_with (first | ((with_reducible refine gate_callee (f := 69) rfl ?_); refine goesL_ (some 7) rfl rfl Tryz.func69 (by kernel_rfl) rfl #[.int .i64 a0] rfl tM ?_; (with_reducible refine (isa_Access.calls k a0 false t271 _ ?side1 A2.out).mono ?_); (case side1 => repeat (first | exact HG.out | apply GOK.drewN | apply GOK.drew)); rintro e w' ⟨rfl, ⟨nd, rfl⟩⟩; refine ⟨_, rfl, ?_⟩))
 go_ret
 exact ⟨tR, tD⟩
def isa_Wide.f (a0 : Int) : Option (Bool) := if a0 = 14 then (some true) else (if a0 = 21 then (some true) else ((isa_in.f a0 77 87).bind fun t272 => (some t272)))
set_option maxHeartbeats 8000000 in
set_option maxRecDepth 100000 in
theorem isa_Wide.calls (a0 : Int) (r : Bool) (w : World) (h : isa_Wide.f a0 = some r) :
  Calls Tryz.prog 50 #[.int .i64 a0] w fun e w' => e = .returned (.bool r) ∧ Drawn0 w w' := by
 unfold isa_Wide.f at h; have H := h
 clear h
 by_cases c2 : a0 = 14
 ·rw [if_pos c2] at H
  have c2b0 := bT c2; have c2b1 := nF c2
  clear c2
  obtain rfl := Option.some.inj H
  go_enter Tryz.func50, Tryz.ntmps50
  go_wp2
  go_ret
  exact ⟨tR, tD⟩
 rw [if_neg c2] at H
 have c2b0 := bF c2; have c2b1 := nT c2
 by_cases c3 : a0 = 21
 ·rw [if_pos c3] at H
  have c3b0 := bT c3; have c3b1 := nF c3
  clear c3
  obtain rfl := Option.some.inj H
  go_enter Tryz.func50, Tryz.ntmps50
  go_wp2
  go_ret
  exact ⟨tR, tD⟩
 rw [if_neg c3] at H
 have c3b0 := bF c3; have c3b1 := nT c3
 obtain ⟨t272, A40, H⟩ := Option.bind_eq_some_iff.mp H
 try dsimp only at H
 have A4 := Aside0.mk A40; clear A40
 obtain rfl := Option.some.inj H
 go_enter Tryz.func50, Tryz.ntmps50
 go_wp2_with (first | (go_at_call 51; (with_reducible refine (isa_in.calls a0 77 87 t272 _ A4.out).mono ?_); rintro e w' ⟨rfl, ⟨nd, rfl⟩⟩))
 go_ret
 exact ⟨tR, tD⟩
def window_bad.f (k : Nat) (a0_0 : Int) (a0_1 : Int) (a0_2 : Int) (a0_3 : Int) (a0_4 : Int) (a0_5 : Bool) (a0_6 : Bool) (a1 : Bool) : Option (Int) := if a1 = true then (if a0_0 = 0 then (some 4) else (if a0_0 = 65 then (some 7) else ((window_access.f k a0_0).bind fun t274 => (if t274 = true then ((isa_Wide.f a0_0).bind fun t275 => (if t275 = true then (some 0) else (some 6))) else (some 0))))) else (some 5)
set_option maxHeartbeats 8000000 in
set_option maxRecDepth 100000 in
theorem window_bad.calls (k : Nat) (a0_0 : Int) (a0_1 : Int) (a0_2 : Int) (a0_3 : Int) (a0_4 : Int) (a0_5 : Bool) (a0_6 : Bool) (a1 : Bool) (r : Int) (w : World) (hG : GOK w) (h : window_bad.f k a0_0 a0_1 a0_2 a0_3 a0_4 a0_5 a0_6 a1 = some r) :
  Calls Tryz.prog 24 #[.agg #[.int .i64 a0_0, .int .i64 a0_1, .int .i64 a0_2, .int .i64 a0_3, .int .i64 a0_4, .bool a0_5, .bool a0_6], .bool a1] w fun e w' => e = .returned (.int .i64 r) ∧ Below w.heap.size w w' := by
 have hu31 := Tryz.underlying31
 have HG := Aside0.mk hG
 clear hG
 have HB := Aside0.mk (Below.refl w.heap.size w)
 unfold window_bad.f at h; have H := h
 clear h
 by_cases c3 : a1 = true
 ·subst c3
  rw [if_pos rfl] at H
  by_cases c4 : a0_0 = 0
  ·rw [if_pos c4] at H
   have c4b0 := bT c4; have c4b1 := nF c4
   clear c4
   obtain rfl := Option.some.inj H
   go_enter Tryz.func24, Tryz.ntmps24
   go_wp2_with (first | ((with_reducible refine gate_dst (N := 2) rfl ?_); refine box_event ?hg (N := 2) ?hd (cs := #[.int .i64 a0_0, .int .i64 a0_1, .int .i64 a0_2, .int .i64 a0_3, .int .i64 a0_4, .bool a0_5, .bool a0_6]) (t := 31) ?hr ?_; (case hd => rfl); (case hg => rfl); (case hr => first | (go_simp; done) | (go_simp; rfl)); intro gb273 hg w5 hbox hb; have n0_ := Aside0.mk (below_step tB hb); have n1_ := Aside0.mk (hbox); have n2_ := Aside0.mk ((by rw [hg]; exact (below_size tB) : w.heap.size ≤ gb273)); have n3_ := Aside0.mk ((by rw [hg]; exact (below_size tB) : w.heap.size ≤ gb273)); clear HB; have HB := n0_; have BK273 := n1_; have GW273 := n2_; have GE273 := n3_; clear n0_ n1_ n2_ n3_; clear hb hbox hg; have hcz6_0 : w5.cell? ⟨gb273, 0, none⟩ = some (.int .i64 a0_0) := (blk_cell BK273.out 0).trans rfl; have hcz6_1 : w5.cell? ⟨gb273, 1, none⟩ = some (.int .i64 a0_1) := (blk_cell BK273.out 1).trans rfl; have hcz6_2 : w5.cell? ⟨gb273, 2, none⟩ = some (.int .i64 a0_2) := (blk_cell BK273.out 2).trans rfl; have hcz6_3 : w5.cell? ⟨gb273, 3, none⟩ = some (.int .i64 a0_3) := (blk_cell BK273.out 3).trans rfl; have hcz6_4 : w5.cell? ⟨gb273, 4, none⟩ = some (.int .i64 a0_4) := (blk_cell BK273.out 4).trans rfl; have hcz6_5 : w5.cell? ⟨gb273, 5, none⟩ = some (.bool a0_5) := (blk_cell BK273.out 5).trans rfl; have hcz6_6 : w5.cell? ⟨gb273, 6, none⟩ = some (.bool a0_6) := (blk_cell BK273.out 6).trans rfl; have hfz6_0 := blk_frozen BK273.out 0; have hfz6_1 := blk_frozen BK273.out 1; have hfz6_2 := blk_frozen BK273.out 2; have hfz6_3 := blk_frozen BK273.out 3; have hfz6_4 := blk_frozen BK273.out 4; have hfz6_5 := blk_frozen BK273.out 5; have hfz6_6 := blk_frozen BK273.out 6))
   go_ret
   exact ⟨tE, tC⟩
  rw [if_neg c4] at H
  have c4b0 := bF c4; have c4b1 := nT c4
  by_cases c7 : a0_0 = 65
  ·rw [if_pos c7] at H
   have c7b0 := bT c7; have c7b1 := nF c7
   clear c7
   obtain rfl := Option.some.inj H
   go_enter Tryz.func24, Tryz.ntmps24
   go_wp2_with (first | ((with_reducible refine gate_dst (N := 2) rfl ?_); refine box_event ?hg (N := 2) ?hd (cs := #[.int .i64 a0_0, .int .i64 a0_1, .int .i64 a0_2, .int .i64 a0_3, .int .i64 a0_4, .bool a0_5, .bool a0_6]) (t := 31) ?hr ?_; (case hd => rfl); (case hg => rfl); (case hr => first | (go_simp; done) | (go_simp; rfl)); intro gb273 hg w8 hbox hb; have n0_ := Aside0.mk (below_step tB hb); have n1_ := Aside0.mk (hbox); have n2_ := Aside0.mk ((by rw [hg]; exact (below_size tB) : w.heap.size ≤ gb273)); have n3_ := Aside0.mk ((by rw [hg]; exact (below_size tB) : w.heap.size ≤ gb273)); clear HB; have HB := n0_; have BK273 := n1_; have GW273 := n2_; have GE273 := n3_; clear n0_ n1_ n2_ n3_; clear hb hbox hg; have hcz9_0 : w8.cell? ⟨gb273, 0, none⟩ = some (.int .i64 a0_0) := (blk_cell BK273.out 0).trans rfl; have hcz9_1 : w8.cell? ⟨gb273, 1, none⟩ = some (.int .i64 a0_1) := (blk_cell BK273.out 1).trans rfl; have hcz9_2 : w8.cell? ⟨gb273, 2, none⟩ = some (.int .i64 a0_2) := (blk_cell BK273.out 2).trans rfl; have hcz9_3 : w8.cell? ⟨gb273, 3, none⟩ = some (.int .i64 a0_3) := (blk_cell BK273.out 3).trans rfl; have hcz9_4 : w8.cell? ⟨gb273, 4, none⟩ = some (.int .i64 a0_4) := (blk_cell BK273.out 4).trans rfl; have hcz9_5 : w8.cell? ⟨gb273, 5, none⟩ = some (.bool a0_5) := (blk_cell BK273.out 5).trans rfl; have hcz9_6 : w8.cell? ⟨gb273, 6, none⟩ = some (.bool a0_6) := (blk_cell BK273.out 6).trans rfl; have hfz9_0 := blk_frozen BK273.out 0; have hfz9_1 := blk_frozen BK273.out 1; have hfz9_2 := blk_frozen BK273.out 2; have hfz9_3 := blk_frozen BK273.out 3; have hfz9_4 := blk_frozen BK273.out 4; have hfz9_5 := blk_frozen BK273.out 5; have hfz9_6 := blk_frozen BK273.out 6))
   go_ret
   exact ⟨tE, tC⟩
  rw [if_neg c7] at H
  have c7b0 := bF c7; have c7b1 := nT c7
  obtain ⟨t274, A100, H⟩ := Option.bind_eq_some_iff.mp H
  try dsimp only at H
  have A10 := Aside0.mk A100; clear A100
  by_cases c11 : t274 = true
  ·subst c11
   rw [if_pos rfl] at H
   obtain ⟨t275, A120, H⟩ := Option.bind_eq_some_iff.mp H
   try dsimp only at H
   have A12 := Aside0.mk A120; clear A120
   by_cases c13 : t275 = true
   ·subst c13
    rw [if_pos rfl] at H
    obtain rfl := Option.some.inj H
    go_enter Tryz.func24, Tryz.ntmps24
    go_wp2_with (first | ((with_reducible refine gate_dst (N := 2) rfl ?_); refine box_event ?hg (N := 2) ?hd (cs := #[.int .i64 a0_0, .int .i64 a0_1, .int .i64 a0_2, .int .i64 a0_3, .int .i64 a0_4, .bool a0_5, .bool a0_6]) (t := 31) ?hr ?_; (case hd => rfl); (case hg => rfl); (case hr => first | (go_simp; done) | (go_simp; rfl)); intro gb273 hg w14 hbox hb; have n0_ := Aside0.mk (below_step tB hb); have n1_ := Aside0.mk (hbox); have n2_ := Aside0.mk ((by rw [hg]; exact (below_size tB) : w.heap.size ≤ gb273)); have n3_ := Aside0.mk ((by rw [hg]; exact (below_size tB) : w.heap.size ≤ gb273)); clear HB; have HB := n0_; have BK273 := n1_; have GW273 := n2_; have GE273 := n3_; clear n0_ n1_ n2_ n3_; clear hb hbox hg; have hcz15_0 : w14.cell? ⟨gb273, 0, none⟩ = some (.int .i64 a0_0) := (blk_cell BK273.out 0).trans rfl; have hcz15_1 : w14.cell? ⟨gb273, 1, none⟩ = some (.int .i64 a0_1) := (blk_cell BK273.out 1).trans rfl; have hcz15_2 : w14.cell? ⟨gb273, 2, none⟩ = some (.int .i64 a0_2) := (blk_cell BK273.out 2).trans rfl; have hcz15_3 : w14.cell? ⟨gb273, 3, none⟩ = some (.int .i64 a0_3) := (blk_cell BK273.out 3).trans rfl; have hcz15_4 : w14.cell? ⟨gb273, 4, none⟩ = some (.int .i64 a0_4) := (blk_cell BK273.out 4).trans rfl; have hcz15_5 : w14.cell? ⟨gb273, 5, none⟩ = some (.bool a0_5) := (blk_cell BK273.out 5).trans rfl; have hcz15_6 : w14.cell? ⟨gb273, 6, none⟩ = some (.bool a0_6) := (blk_cell BK273.out 6).trans rfl; have hfz15_0 := blk_frozen BK273.out 0; have hfz15_1 := blk_frozen BK273.out 1; have hfz15_2 := blk_frozen BK273.out 2; have hfz15_3 := blk_frozen BK273.out 3; have hfz15_4 := blk_frozen BK273.out 4; have hfz15_5 := blk_frozen BK273.out 5; have hfz15_6 := blk_frozen BK273.out 6) | ((with_reducible refine gate_callee (f := 49) rfl ?_); refine goesL_ (some 19) rfl rfl Tryz.func49 (by kernel_rfl) rfl #[.int .i64 a0_0] rfl tM ?_; (with_reducible refine (window_access.calls k a0_0 true _ ?side1 A10.out).mono ?_); (case side1 => exact GOK.below tC HG.out); rintro e w' ⟨rfl, ⟨nd, rfl⟩⟩; refine ⟨_, rfl, ?_⟩) | (go_at_call 50; (with_reducible refine (isa_Wide.calls a0_0 true _ A12.out).mono ?_); rintro e w' ⟨rfl, ⟨nd, rfl⟩⟩))
    go_ret
    exact ⟨tE, tC⟩
   replace c13 := Bool.eq_false_iff.mpr c13
   subst c13
   rw [if_neg nX] at H
   obtain rfl := Option.some.inj H
   go_enter Tryz.func24, Tryz.ntmps24
   go_wp2_with (first | ((with_reducible refine gate_dst (N := 2) rfl ?_); refine box_event ?hg (N := 2) ?hd (cs := #[.int .i64 a0_0, .int .i64 a0_1, .int .i64 a0_2, .int .i64 a0_3, .int .i64 a0_4, .bool a0_5, .bool a0_6]) (t := 31) ?hr ?_; (case hd => rfl); (case hg => rfl); (case hr => first | (go_simp; done) | (go_simp; rfl)); intro gb273 hg w16 hbox hb; have n0_ := Aside0.mk (below_step tB hb); have n1_ := Aside0.mk (hbox); have n2_ := Aside0.mk ((by rw [hg]; exact (below_size tB) : w.heap.size ≤ gb273)); have n3_ := Aside0.mk ((by rw [hg]; exact (below_size tB) : w.heap.size ≤ gb273)); clear HB; have HB := n0_; have BK273 := n1_; have GW273 := n2_; have GE273 := n3_; clear n0_ n1_ n2_ n3_; clear hb hbox hg; have hcz17_0 : w16.cell? ⟨gb273, 0, none⟩ = some (.int .i64 a0_0) := (blk_cell BK273.out 0).trans rfl; have hcz17_1 : w16.cell? ⟨gb273, 1, none⟩ = some (.int .i64 a0_1) := (blk_cell BK273.out 1).trans rfl; have hcz17_2 : w16.cell? ⟨gb273, 2, none⟩ = some (.int .i64 a0_2) := (blk_cell BK273.out 2).trans rfl; have hcz17_3 : w16.cell? ⟨gb273, 3, none⟩ = some (.int .i64 a0_3) := (blk_cell BK273.out 3).trans rfl; have hcz17_4 : w16.cell? ⟨gb273, 4, none⟩ = some (.int .i64 a0_4) := (blk_cell BK273.out 4).trans rfl; have hcz17_5 : w16.cell? ⟨gb273, 5, none⟩ = some (.bool a0_5) := (blk_cell BK273.out 5).trans rfl; have hcz17_6 : w16.cell? ⟨gb273, 6, none⟩ = some (.bool a0_6) := (blk_cell BK273.out 6).trans rfl; have hfz17_0 := blk_frozen BK273.out 0; have hfz17_1 := blk_frozen BK273.out 1; have hfz17_2 := blk_frozen BK273.out 2; have hfz17_3 := blk_frozen BK273.out 3; have hfz17_4 := blk_frozen BK273.out 4; have hfz17_5 := blk_frozen BK273.out 5; have hfz17_6 := blk_frozen BK273.out 6) | ((with_reducible refine gate_callee (f := 49) rfl ?_); refine goesL_ (some 19) rfl rfl Tryz.func49 (by kernel_rfl) rfl #[.int .i64 a0_0] rfl tM ?_; (with_reducible refine (window_access.calls k a0_0 true _ ?side1 A10.out).mono ?_); (case side1 => exact GOK.below tC HG.out); rintro e w' ⟨rfl, ⟨nd, rfl⟩⟩; refine ⟨_, rfl, ?_⟩) | (go_at_call 50; (with_reducible refine (isa_Wide.calls a0_0 false _ A12.out).mono ?_); rintro e w' ⟨rfl, ⟨nd, rfl⟩⟩))
   go_ret
   exact ⟨tE, tC⟩
  replace c11 := Bool.eq_false_iff.mpr c11
  subst c11
  rw [if_neg nX] at H
  obtain rfl := Option.some.inj H
  go_enter Tryz.func24, Tryz.ntmps24
  go_wp2_with (first | ((with_reducible refine gate_dst (N := 2) rfl ?_); refine box_event ?hg (N := 2) ?hd (cs := #[.int .i64 a0_0, .int .i64 a0_1, .int .i64 a0_2, .int .i64 a0_3, .int .i64 a0_4, .bool a0_5, .bool a0_6]) (t := 31) ?hr ?_; (case hd => rfl); (case hg => rfl); (case hr => first | (go_simp; done) | (go_simp; rfl)); intro gb273 hg w18 hbox hb; have n0_ := Aside0.mk (below_step tB hb); have n1_ := Aside0.mk (hbox); have n2_ := Aside0.mk ((by rw [hg]; exact (below_size tB) : w.heap.size ≤ gb273)); have n3_ := Aside0.mk ((by rw [hg]; exact (below_size tB) : w.heap.size ≤ gb273)); clear HB; have HB := n0_; have BK273 := n1_; have GW273 := n2_; have GE273 := n3_; clear n0_ n1_ n2_ n3_; clear hb hbox hg; have hcz19_0 : w18.cell? ⟨gb273, 0, none⟩ = some (.int .i64 a0_0) := (blk_cell BK273.out 0).trans rfl; have hcz19_1 : w18.cell? ⟨gb273, 1, none⟩ = some (.int .i64 a0_1) := (blk_cell BK273.out 1).trans rfl; have hcz19_2 : w18.cell? ⟨gb273, 2, none⟩ = some (.int .i64 a0_2) := (blk_cell BK273.out 2).trans rfl; have hcz19_3 : w18.cell? ⟨gb273, 3, none⟩ = some (.int .i64 a0_3) := (blk_cell BK273.out 3).trans rfl; have hcz19_4 : w18.cell? ⟨gb273, 4, none⟩ = some (.int .i64 a0_4) := (blk_cell BK273.out 4).trans rfl; have hcz19_5 : w18.cell? ⟨gb273, 5, none⟩ = some (.bool a0_5) := (blk_cell BK273.out 5).trans rfl; have hcz19_6 : w18.cell? ⟨gb273, 6, none⟩ = some (.bool a0_6) := (blk_cell BK273.out 6).trans rfl; have hfz19_0 := blk_frozen BK273.out 0; have hfz19_1 := blk_frozen BK273.out 1; have hfz19_2 := blk_frozen BK273.out 2; have hfz19_3 := blk_frozen BK273.out 3; have hfz19_4 := blk_frozen BK273.out 4; have hfz19_5 := blk_frozen BK273.out 5; have hfz19_6 := blk_frozen BK273.out 6) | ((with_reducible refine gate_callee (f := 49) rfl ?_); refine goesL_ (some 19) rfl rfl Tryz.func49 (by kernel_rfl) rfl #[.int .i64 a0_0] rfl tM ?_; (with_reducible refine (window_access.calls k a0_0 false _ ?side1 A10.out).mono ?_); (case side1 => exact GOK.below tC HG.out); rintro e w' ⟨rfl, ⟨nd, rfl⟩⟩; refine ⟨_, rfl, ?_⟩))
  go_ret
  exact ⟨tE, tC⟩
 replace c3 := Bool.eq_false_iff.mpr c3
 subst c3
 rw [if_neg nX] at H
 obtain rfl := Option.some.inj H
 go_enter Tryz.func24, Tryz.ntmps24
 go_wp2_with (first | ((with_reducible refine gate_dst (N := 2) rfl ?_); refine box_event ?hg (N := 2) ?hd (cs := #[.int .i64 a0_0, .int .i64 a0_1, .int .i64 a0_2, .int .i64 a0_3, .int .i64 a0_4, .bool a0_5, .bool a0_6]) (t := 31) ?hr ?_; (case hd => rfl); (case hg => rfl); (case hr => first | (go_simp; done) | (go_simp; rfl)); intro gb273 hg w20 hbox hb; have n0_ := Aside0.mk (below_step tB hb); have n1_ := Aside0.mk (hbox); have n2_ := Aside0.mk ((by rw [hg]; exact (below_size tB) : w.heap.size ≤ gb273)); have n3_ := Aside0.mk ((by rw [hg]; exact (below_size tB) : w.heap.size ≤ gb273)); clear HB; have HB := n0_; have BK273 := n1_; have GW273 := n2_; have GE273 := n3_; clear n0_ n1_ n2_ n3_; clear hb hbox hg))
 go_ret
 exact ⟨tE, tC⟩
def alu_flag.f (a0 : Bool) : Option (Int) := if a0 = true then (some 1) else (some 0)
set_option maxHeartbeats 8000000 in
set_option maxRecDepth 100000 in
theorem alu_flag.calls (a0 : Bool) (r : Int) (w : World) (h : alu_flag.f a0 = some r) :
  Calls Tryz.prog 99 #[.bool a0] w fun e w' => e = .returned (.int .i64 r) ∧ Drawn0 w w' := by
 have H : (if a0 = true then (some 1) else (some 0)) = some r := h
 clear h
 by_cases c2 : a0 = true
 ·subst c2
  rw [if_pos rfl] at H
  obtain rfl := Option.some.inj H
  go_enter Tryz.func99, Tryz.ntmps99
  go_wp2
  go_ret
  exact ⟨tR, tD⟩
 replace c2 := Bool.eq_false_iff.mpr c2
 subst c2
 rw [if_neg nX] at H
 obtain rfl := Option.some.inj H
 go_enter Tryz.func99, Tryz.ntmps99
 go_wp2
 go_ret
 exact ⟨tR, tD⟩
mutual
def alu_plain.j0 : Nat → Int → Int → Int → Int → Bool → Option (Int)
 | 0, _, _, _, _, _ => none
 | k + 1, x1, x2, x7, x11, x12 => if x12 = true then (some (wrap64 (x1 + x2))) else (if x11 = 36 then (some (wrap64 (x1 - x2))) else (if x11 = 37 then (alu_plain.j1 k x1 x2 x7 x11 (x11 == 37)) else (alu_plain.j1 k x1 x2 x7 x11 (x11 == 28))))
def alu_plain.j1 : Nat → Int → Int → Int → Int → Bool → Option (Int)
 | 0, _, _, _, _, _ => none
 | k + 1, x1, x2, x7, x11, x23 => if x23 = true then (if 0 ≤ x7 then (some (shl .i64 x1 x7)) else (none)) else (if x11 = 38 then (alu_plain.j2 k x1 x2 x7 x11 (x11 == 38)) else (alu_plain.j2 k x1 x2 x7 x11 (x11 == 23)))
def alu_plain.j2 : Nat → Int → Int → Int → Int → Bool → Option (Int)
 | 0, _, _, _, _, _ => none
 | k + 1, x1, x2, x7, x11, x29 => if x29 = true then ((alu_flag.f (decide (x1 < x2))).bind fun t276 => (some t276)) else (if x11 = 39 then (alu_plain.j3 k x1 x2 x7 x11 (x11 == 39)) else (alu_plain.j3 k x1 x2 x7 x11 (x11 == 24)))
def alu_plain.j3 : Nat → Int → Int → Int → Int → Bool → Option (Int)
 | 0, _, _, _, _, _ => none
 | k + 1, x1, x2, x7, x11, x36 => if x36 = true then ((alu_flag.f (decide ((IntKind.u64.wrap (x1)) < (IntKind.u64.wrap (x2))))).bind fun t277 => (some t277)) else (if x11 = 40 then (alu_plain.j4 k x1 x2 x7 x11 (x11 == 40)) else (alu_plain.j4 k x1 x2 x7 x11 (x11 == 25)))
def alu_plain.j4 : Nat → Int → Int → Int → Int → Bool → Option (Int)
 | 0, _, _, _, _, _ => none
 | k + 1, x1, x2, x7, x11, x45 => if x45 = true then (some (Go.bits .xor .i64 x1 x2)) else (if x11 = 41 then (alu_plain.j5 k x1 x2 x7 x11 (x11 == 41)) else (alu_plain.j5 k x1 x2 x7 x11 (x11 == 29)))
def alu_plain.j5 : Nat → Int → Int → Int → Int → Bool → Option (Int)
 | 0, _, _, _, _, _ => none
 | k + 1, x1, x2, x7, x11, x51 => if x51 = true then (if 0 ≤ x7 then (some (wrap64 (shr .u64 (IntKind.u64.wrap (x1)) x7))) else (none)) else (if x11 = 42 then (alu_plain.j6 k x1 x2 x7 x11 (x11 == 42)) else (alu_plain.j6 k x1 x2 x7 x11 (x11 == 30)))
def alu_plain.j6 : Nat → Int → Int → Int → Int → Bool → Option (Int)
 | 0, _, _, _, _, _ => none
 | k + 1, x1, x2, x7, x11, x59 => if x59 = true then (if 0 ≤ x7 then (some (shr .i64 x1 x7)) else (none)) else (if x11 = 43 then (some (Go.bits .or .i64 x1 x2)) else (if x11 = 26 then (some (Go.bits .or .i64 x1 x2)) else (some (Go.bits .and .i64 x1 x2))))
end
def alu_plain.f (k : Nat) (a0 : Int) (a1 : Int) (a2 : Int) : Option (Int) := if a0 = 35 then (alu_plain.j0 k a1 a2 (Go.bits .and .u64 (IntKind.u64.wrap (a2)) 63) a0 (a0 == 35)) else (alu_plain.j0 k a1 a2 (Go.bits .and .u64 (IntKind.u64.wrap (a2)) 63) a0 (a0 == 22))
theorem alu_plain.mono_l : ∀ k, (∀ y0 y1 y2 y3 y4, LeO (alu_plain.j0 k y0 y1 y2 y3 y4) (alu_plain.j0 (k + 1) y0 y1 y2 y3 y4)) ∧ (∀ y0 y1 y2 y3 y4, LeO (alu_plain.j1 k y0 y1 y2 y3 y4) (alu_plain.j1 (k + 1) y0 y1 y2 y3 y4)) ∧ (∀ y0 y1 y2 y3 y4, LeO (alu_plain.j2 k y0 y1 y2 y3 y4) (alu_plain.j2 (k + 1) y0 y1 y2 y3 y4)) ∧ (∀ y0 y1 y2 y3 y4, LeO (alu_plain.j3 k y0 y1 y2 y3 y4) (alu_plain.j3 (k + 1) y0 y1 y2 y3 y4)) ∧ (∀ y0 y1 y2 y3 y4, LeO (alu_plain.j4 k y0 y1 y2 y3 y4) (alu_plain.j4 (k + 1) y0 y1 y2 y3 y4)) ∧ (∀ y0 y1 y2 y3 y4, LeO (alu_plain.j5 k y0 y1 y2 y3 y4) (alu_plain.j5 (k + 1) y0 y1 y2 y3 y4)) ∧ (∀ y0 y1 y2 y3 y4, LeO (alu_plain.j6 k y0 y1 y2 y3 y4) (alu_plain.j6 (k + 1) y0 y1 y2 y3 y4))
 | 0 => ⟨fun _ _ _ _ _ r h => by simp [alu_plain.j0] at h, fun _ _ _ _ _ r h => by simp [alu_plain.j1] at h, fun _ _ _ _ _ r h => by simp [alu_plain.j2] at h, fun _ _ _ _ _ r h => by simp [alu_plain.j3] at h, fun _ _ _ _ _ r h => by simp [alu_plain.j4] at h, fun _ _ _ _ _ r h => by simp [alu_plain.j5] at h, fun _ _ _ _ _ r h => by simp [alu_plain.j6] at h⟩
 | k + 1 => by
  obtain ⟨ih0, ih1, ih2, ih3, ih4, ih5, ih6⟩ := alu_plain.mono_l k
  refine ⟨?_, ?_, ?_, ?_, ?_, ?_, ?_⟩
  ·intro y0 y1 y2 y3 y4
   unfold alu_plain.j0
   repeat' first
   | (with_reducible exact ih0 _ _ _ _ _)
   | (with_reducible exact ih1 _ _ _ _ _)
   | (with_reducible exact ih2 _ _ _ _ _)
   | (with_reducible exact ih3 _ _ _ _ _)
   | (with_reducible exact ih4 _ _ _ _ _)
   | (with_reducible exact ih5 _ _ _ _ _)
   | (with_reducible exact ih6 _ _ _ _ _)
   | (with_reducible exact LeO.refl _)
   | (with_reducible exact LeO.none _)
   | (with_reducible refine LeO.ite ?_ ?_)
   | (with_reducible refine LeO.bind ?_ (fun _ => ?_))
   | exact ih0 _ _ _ _ _
   | exact ih1 _ _ _ _ _
   | exact ih2 _ _ _ _ _
   | exact ih3 _ _ _ _ _
   | exact ih4 _ _ _ _ _
   | exact ih5 _ _ _ _ _
   | exact ih6 _ _ _ _ _
   | exact LeO.none _
   | refine LeO.ite ?_ ?_
   | refine LeO.bind ?_ (fun _ => ?_)
  ·intro y0 y1 y2 y3 y4
   unfold alu_plain.j1
   repeat' first
   | (with_reducible exact ih0 _ _ _ _ _)
   | (with_reducible exact ih1 _ _ _ _ _)
   | (with_reducible exact ih2 _ _ _ _ _)
   | (with_reducible exact ih3 _ _ _ _ _)
   | (with_reducible exact ih4 _ _ _ _ _)
   | (with_reducible exact ih5 _ _ _ _ _)
   | (with_reducible exact ih6 _ _ _ _ _)
   | (with_reducible exact LeO.refl _)
   | (with_reducible exact LeO.none _)
   | (with_reducible refine LeO.ite ?_ ?_)
   | (with_reducible refine LeO.bind ?_ (fun _ => ?_))
   | exact ih0 _ _ _ _ _
   | exact ih1 _ _ _ _ _
   | exact ih2 _ _ _ _ _
   | exact ih3 _ _ _ _ _
   | exact ih4 _ _ _ _ _
   | exact ih5 _ _ _ _ _
   | exact ih6 _ _ _ _ _
   | exact LeO.none _
   | refine LeO.ite ?_ ?_
   | refine LeO.bind ?_ (fun _ => ?_)
  ·intro y0 y1 y2 y3 y4
   unfold alu_plain.j2
   repeat' first
   | (with_reducible exact ih0 _ _ _ _ _)
   | (with_reducible exact ih1 _ _ _ _ _)
   | (with_reducible exact ih2 _ _ _ _ _)
   | (with_reducible exact ih3 _ _ _ _ _)
   | (with_reducible exact ih4 _ _ _ _ _)
   | (with_reducible exact ih5 _ _ _ _ _)
   | (with_reducible exact ih6 _ _ _ _ _)
   | (with_reducible exact LeO.refl _)
   | (with_reducible exact LeO.none _)
   | (with_reducible refine LeO.ite ?_ ?_)
   | (with_reducible refine LeO.bind ?_ (fun _ => ?_))
   | exact ih0 _ _ _ _ _
   | exact ih1 _ _ _ _ _
   | exact ih2 _ _ _ _ _
   | exact ih3 _ _ _ _ _
   | exact ih4 _ _ _ _ _
   | exact ih5 _ _ _ _ _
   | exact ih6 _ _ _ _ _
   | exact LeO.none _
   | refine LeO.ite ?_ ?_
   | refine LeO.bind ?_ (fun _ => ?_)
  ·intro y0 y1 y2 y3 y4
   unfold alu_plain.j3
   repeat' first
   | (with_reducible exact ih0 _ _ _ _ _)
   | (with_reducible exact ih1 _ _ _ _ _)
   | (with_reducible exact ih2 _ _ _ _ _)
   | (with_reducible exact ih3 _ _ _ _ _)
   | (with_reducible exact ih4 _ _ _ _ _)
   | (with_reducible exact ih5 _ _ _ _ _)
   | (with_reducible exact ih6 _ _ _ _ _)
   | (with_reducible exact LeO.refl _)
   | (with_reducible exact LeO.none _)
   | (with_reducible refine LeO.ite ?_ ?_)
   | (with_reducible refine LeO.bind ?_ (fun _ => ?_))
   | exact ih0 _ _ _ _ _
   | exact ih1 _ _ _ _ _
   | exact ih2 _ _ _ _ _
   | exact ih3 _ _ _ _ _
   | exact ih4 _ _ _ _ _
   | exact ih5 _ _ _ _ _
   | exact ih6 _ _ _ _ _
   | exact LeO.none _
   | refine LeO.ite ?_ ?_
   | refine LeO.bind ?_ (fun _ => ?_)
  ·intro y0 y1 y2 y3 y4
   unfold alu_plain.j4
   repeat' first
   | (with_reducible exact ih0 _ _ _ _ _)
   | (with_reducible exact ih1 _ _ _ _ _)
   | (with_reducible exact ih2 _ _ _ _ _)
   | (with_reducible exact ih3 _ _ _ _ _)
   | (with_reducible exact ih4 _ _ _ _ _)
   | (with_reducible exact ih5 _ _ _ _ _)
   | (with_reducible exact ih6 _ _ _ _ _)
   | (with_reducible exact LeO.refl _)
   | (with_reducible exact LeO.none _)
   | (with_reducible refine LeO.ite ?_ ?_)
   | (with_reducible refine LeO.bind ?_ (fun _ => ?_))
   | exact ih0 _ _ _ _ _
   | exact ih1 _ _ _ _ _
   | exact ih2 _ _ _ _ _
   | exact ih3 _ _ _ _ _
   | exact ih4 _ _ _ _ _
   | exact ih5 _ _ _ _ _
   | exact ih6 _ _ _ _ _
   | exact LeO.none _
   | refine LeO.ite ?_ ?_
   | refine LeO.bind ?_ (fun _ => ?_)
  ·intro y0 y1 y2 y3 y4
   unfold alu_plain.j5
   repeat' first
   | (with_reducible exact ih0 _ _ _ _ _)
   | (with_reducible exact ih1 _ _ _ _ _)
   | (with_reducible exact ih2 _ _ _ _ _)
   | (with_reducible exact ih3 _ _ _ _ _)
   | (with_reducible exact ih4 _ _ _ _ _)
   | (with_reducible exact ih5 _ _ _ _ _)
   | (with_reducible exact ih6 _ _ _ _ _)
   | (with_reducible exact LeO.refl _)
   | (with_reducible exact LeO.none _)
   | (with_reducible refine LeO.ite ?_ ?_)
   | (with_reducible refine LeO.bind ?_ (fun _ => ?_))
   | exact ih0 _ _ _ _ _
   | exact ih1 _ _ _ _ _
   | exact ih2 _ _ _ _ _
   | exact ih3 _ _ _ _ _
   | exact ih4 _ _ _ _ _
   | exact ih5 _ _ _ _ _
   | exact ih6 _ _ _ _ _
   | exact LeO.none _
   | refine LeO.ite ?_ ?_
   | refine LeO.bind ?_ (fun _ => ?_)
  intro y0 y1 y2 y3 y4
  unfold alu_plain.j6
  repeat' first
  | (with_reducible exact ih0 _ _ _ _ _)
  | (with_reducible exact ih1 _ _ _ _ _)
  | (with_reducible exact ih2 _ _ _ _ _)
  | (with_reducible exact ih3 _ _ _ _ _)
  | (with_reducible exact ih4 _ _ _ _ _)
  | (with_reducible exact ih5 _ _ _ _ _)
  | (with_reducible exact ih6 _ _ _ _ _)
  | (with_reducible exact LeO.refl _)
  | (with_reducible exact LeO.none _)
  | (with_reducible refine LeO.ite ?_ ?_)
  | (with_reducible refine LeO.bind ?_ (fun _ => ?_))
  | exact ih0 _ _ _ _ _
  | exact ih1 _ _ _ _ _
  | exact ih2 _ _ _ _ _
  | exact ih3 _ _ _ _ _
  | exact ih4 _ _ _ _ _
  | exact ih5 _ _ _ _ _
  | exact ih6 _ _ _ _ _
  | exact LeO.none _
  | refine LeO.ite ?_ ?_
  | refine LeO.bind ?_ (fun _ => ?_)
theorem alu_plain.mono : ∀ a0 a1 a2 k, LeO (alu_plain.f k a0 a1 a2) (alu_plain.f (k + 1) a0 a1 a2) := by
 intro a0 a1 a2 k
 obtain ⟨ih0, ih1, ih2, ih3, ih4, ih5, ih6⟩ := alu_plain.mono_l k
 unfold alu_plain.f
 repeat' first
   | (with_reducible exact ih0 _ _ _ _ _)
   | (with_reducible exact ih1 _ _ _ _ _)
   | (with_reducible exact ih2 _ _ _ _ _)
   | (with_reducible exact ih3 _ _ _ _ _)
   | (with_reducible exact ih4 _ _ _ _ _)
   | (with_reducible exact ih5 _ _ _ _ _)
   | (with_reducible exact ih6 _ _ _ _ _)
   | (with_reducible exact LeO.refl _)
   | (with_reducible exact LeO.none _)
   | (with_reducible refine LeO.ite ?_ ?_)
   | (with_reducible refine LeO.bind ?_ (fun _ => ?_))
   | exact ih0 _ _ _ _ _
   | exact ih1 _ _ _ _ _
   | exact ih2 _ _ _ _ _
   | exact ih3 _ _ _ _ _
   | exact ih4 _ _ _ _ _
   | exact ih5 _ _ _ _ _
   | exact ih6 _ _ _ _ _
   | exact LeO.none _
   | refine LeO.ite ?_ ?_
   | refine LeO.bind ?_ (fun _ => ?_)
set_option maxHeartbeats 8000000 in
set_option maxRecDepth 100000 in
theorem alu_plain.calls (k : Nat) (a0 : Int) (a1 : Int) (a2 : Int) (r : Int) (w : World) (h : alu_plain.f k a0 a1 a2 = some r) :
  Calls Tryz.prog 73 #[.int .i64 a0, .int .i64 a1, .int .i64 a2] w fun e w' => e = .returned (.int .i64 r) ∧ Drawn0 w w' := by
 unfold alu_plain.f at h; have H := h
 clear h
 have HC4 := Aside0.mk H
 clear H
 go_enter Tryz.func73, Tryz.ntmps73
 go_upto_if 12 with (fail)
 go_cut [12] (fun v12 wc => ∃ (kq : Nat) (x12_3 : Bool), v12 = .bool x12_3 ∧ Aside0 (alu_plain.j0 kq a1 a2 (Go.bits .and .u64 (IntKind.u64.wrap (a2)) 63) a0 x12_3 = some r) ∧ Aside0 (kq ≤ k) ∧ Drawn0 w wc)
 case first =>
  have H := HC4.out
  clear HC4
  by_cases c5 : a0 = 35
  ·rw [if_pos c5] at H
   have c5b0 := bT c5; have c5b1 := nF c5
   clear c5
   (first | rw [c5b0] | (simp only [i64_w, i32_w]; rw [c5b0]) | skip)
   have H' := Aside0.mk H
   clear H
   go_wp2
   go_meet
   case rel => exact ⟨_, ((a0 == 35)), tR, H', ⟨tO⟩, tD⟩
  rw [if_neg c5] at H
  have c5b0 := bF c5; have c5b1 := nT c5
  (first | rw [c5b0] | (simp only [i64_w, i32_w]; rw [c5b0]) | skip)
  have H' := Aside0.mk H
  clear H
  go_wp2
  go_meet
  case rel => exact ⟨_, ((a0 == 22)), tR, H', ⟨tO⟩, tD⟩
 case rest =>
  clear HC4
  (try clear p2); (try clear c5); (try clear c5b0 c5b1)
  obtain ⟨kq, x12_3, rfl, HA, HJ3, ⟨mc3, rfl⟩⟩ := hcut
  cases kq with
  | zero => exact absurd HA.out (by simp [alu_plain.j0])
  | succ kj3 =>
   have H := HA.out
   clear HA
   simp only [alu_plain.j0] at H
   by_cases c6 : x12_3 = true
   ·subst c6
    rw [if_pos rfl] at H
    obtain rfl := Option.some.inj H
    go_wp2
    go_ret
    exact ⟨tR, tD⟩
   replace c6 := Bool.eq_false_iff.mpr c6
   subst c6
   rw [if_neg nX] at H
   by_cases c7 : a0 = 36
   ·rw [if_pos c7] at H
    have c7b0 := bT c7; have c7b1 := nF c7
    clear c7
    obtain rfl := Option.some.inj H
    go_wp2
    go_ret
    exact ⟨tR, tD⟩
   rw [if_neg c7] at H
   have c7b0 := bF c7; have c7b1 := nT c7
   have HC8 := Aside0.mk H
   clear H
   go_upto_if 23 with (fail)
   go_cut [23] (fun v23 wc => ∃ (kq : Nat) (x23_7 : Bool), v23 = .bool x23_7 ∧ Aside0 (alu_plain.j1 kq a1 a2 (Go.bits .and .u64 (IntKind.u64.wrap (a2)) 63) a0 x23_7 = some r) ∧ Aside0 (kq ≤ kj3) ∧ Drawn0 w wc)
   case first =>
    have H := HC8.out
    clear HC8
    by_cases c9 : a0 = 37
    ·rw [if_pos c9] at H
     have c9b0 := bT c9; have c9b1 := nF c9
     clear c9
     (first | rw [c9b0] | (simp only [i64_w, i32_w]; rw [c9b0]) | skip)
     have H' := Aside0.mk H
     clear H
     go_wp2
     go_meet
     case rel => exact ⟨_, ((a0 == 37)), tR, H', ⟨by have := HJ3.out; first | omega | exact Nat.le_refl _⟩, tD⟩
    rw [if_neg c9] at H
    have c9b0 := bF c9; have c9b1 := nT c9
    (first | rw [c9b0] | (simp only [i64_w, i32_w]; rw [c9b0]) | skip)
    have H' := Aside0.mk H
    clear H
    go_wp2
    go_meet
    case rel => exact ⟨_, ((a0 == 28)), tR, H', ⟨by have := HJ3.out; first | omega | exact Nat.le_refl _⟩, tD⟩
   case rest =>
    clear HC8
    (try clear p2); (try clear c3); (try clear c5); (try clear c6); (try clear p6); (try clear c7); (try clear c9); (try clear p2); (try clear c5b0 c5b1); (try clear c7b0 c7b1); (try clear c9b0 c9b1)
    obtain ⟨kq, x23_7, rfl, HA, HJ7, ⟨mc7, rfl⟩⟩ := hcut
    cases kq with
    | zero => exact absurd HA.out (by simp [alu_plain.j1])
    | succ kj7 =>
     have H := HA.out
     clear HA
     simp only [alu_plain.j1] at H
     by_cases c10 : x23_7 = true
     ·subst c10
      rw [if_pos rfl] at H
      obtain ⟨ji11, hji11⟩ : ∃ j_ : Int, (Go.bits .and .u64 (IntKind.u64.wrap (a2)) 63) = j_ := ⟨_, rfl⟩
      replace H : (if 0 ≤ (ji11) then (some (shl .i64 a1 (ji11))) else (none)) = some r := by first | (rw [hji11] at H; exact H) | (simp only [hji11] at H ⊢; exact H)
      by_cases c12 : 0 ≤ (ji11)
      ·rw [if_pos c12] at H
       have c12b0 := eq_true c12
       have c12b1 : decide (0 ≤ (ji11)) = true := decide_eq_true c12
       clear c12
       obtain ⟨ji13, hji13⟩ : ∃ j_ : Int, (shl .i64 a1 (ji11)) = j_ := ⟨_, rfl⟩
       replace H : (some ji13) = some r := by first | (rw [hji13] at H; exact H) | (simp only [hji13] at H ⊢; exact H)
       have hji13_ : (IntKind.i64.wrap (a1 * 2 ^ min (ji11).toNat 64)) = ji13 := hji13
       have hji13z : (ji11) ≤ 64 → (IntKind.i64.wrap (a1 * 2 ^ (ji11).toNat)) = ji13 := shl_small hji13
       have hji13y : (wrap64 (a1 * 2 ^ min (ji11).toNat 64)) = ji13 := (i64_w _).symm.trans hji13_
       have hji13x : (ji11) ≤ 64 → (wrap64 (a1 * 2 ^ (ji11).toNat)) = ji13 := fun h_ => (i64_w _).symm.trans (hji13z h_)
       obtain rfl := Option.some.inj H
       go_wp2
       go_ret
       exact ⟨by first | rfl | (simp; done) | (simp only [← hji11, ← hji13] <;> (first | rfl | simp)) | (simp [*]; done), tD⟩
      rw [if_neg c12] at H
      exact absurd H (by simp)
     replace c10 := Bool.eq_false_iff.mpr c10
     subst c10
     rw [if_neg nX] at H
     have HC14 := Aside0.mk H
     clear H
     go_upto_if 29 with (fail)
     go_cut [29] (fun v29 wc => ∃ (kq : Nat) (x29_13 : Bool), v29 = .bool x29_13 ∧ Aside0 (alu_plain.j2 kq a1 a2 (Go.bits .and .u64 (IntKind.u64.wrap (a2)) 63) a0 x29_13 = some r) ∧ Aside0 (kq ≤ kj7) ∧ Drawn0 w wc)
     case first =>
      have H := HC14.out
      clear HC14
      by_cases c15 : a0 = 38
      ·rw [if_pos c15] at H
       have c15b0 := bT c15; have c15b1 := nF c15
       clear c15
       (first | rw [c15b0] | (simp only [i64_w, i32_w]; rw [c15b0]) | skip)
       have H' := Aside0.mk H
       clear H
       go_wp2
       go_meet
       case rel => exact ⟨_, ((a0 == 38)), tR, H', ⟨by have := HJ3.out; have := HJ7.out; first | omega | exact Nat.le_refl _⟩, tD⟩
      rw [if_neg c15] at H
      have c15b0 := bF c15; have c15b1 := nT c15
      (first | rw [c15b0] | (simp only [i64_w, i32_w]; rw [c15b0]) | skip)
      have H' := Aside0.mk H
      clear H
      go_wp2
      go_meet
      case rel => exact ⟨_, ((a0 == 23)), tR, H', ⟨by have := HJ3.out; have := HJ7.out; first | omega | exact Nat.le_refl _⟩, tD⟩
     case rest =>
      clear HC14
      (try clear c1); (try clear p2); (try clear c3); (try clear c5); (try clear c6); (try clear p6); (try clear c7); (try clear c9); (try clear c10); (try clear c12); (try clear c15); (try clear p2); (try clear p6); (try clear c5b0 c5b1); (try clear c7b0 c7b1); (try clear c9b0 c9b1); (try clear c12b0 c12b1); (try clear c15b0 c15b1)
      obtain ⟨kq, x29_13, rfl, HA, HJ13, ⟨mc13, rfl⟩⟩ := hcut
      cases kq with
      | zero => exact absurd HA.out (by simp [alu_plain.j2])
      | succ kj13 =>
       have H := HA.out
       clear HA
       simp only [alu_plain.j2] at H
       by_cases c16 : x29_13 = true
       ·subst c16
        rw [if_pos rfl] at H
        obtain ⟨t276, A170, H⟩ := Option.bind_eq_some_iff.mp H
        try dsimp only at H
        have A17 := Aside0.mk A170; clear A170
        obtain rfl := Option.some.inj H
        go_wp2_with (first | ((with_reducible refine gate_callee (f := 99) rfl ?_); refine goesL_ (some 35) rfl rfl Tryz.func99 (by kernel_rfl) rfl #[.bool (decide (a1 < a2))] rfl tM ?_; (with_reducible refine (alu_flag.calls (decide (a1 < a2)) t276 _ A17.out).mono ?_); rintro e w' ⟨rfl, ⟨nd, rfl⟩⟩; refine ⟨_, rfl, ?_⟩))
        go_ret
        exact ⟨tR, tD⟩
       replace c16 := Bool.eq_false_iff.mpr c16
       subst c16
       rw [if_neg nX] at H
       have HC18 := Aside0.mk H
       clear H
       go_upto_if 36 with (fail)
       go_cut [36] (fun v36 wc => ∃ (kq : Nat) (x36_17 : Bool), v36 = .bool x36_17 ∧ Aside0 (alu_plain.j3 kq a1 a2 (Go.bits .and .u64 (IntKind.u64.wrap (a2)) 63) a0 x36_17 = some r) ∧ Aside0 (kq ≤ kj13) ∧ Drawn0 w wc)
       case first =>
        have H := HC18.out
        clear HC18
        by_cases c19 : a0 = 39
        ·rw [if_pos c19] at H
         have c19b0 := bT c19; have c19b1 := nF c19
         clear c19
         (first | rw [c19b0] | (simp only [i64_w, i32_w]; rw [c19b0]) | skip)
         have H' := Aside0.mk H
         clear H
         go_wp2
         go_meet
         case rel => exact ⟨_, ((a0 == 39)), tR, H', ⟨by have := HJ3.out; have := HJ7.out; have := HJ13.out; first | omega | exact Nat.le_refl _⟩, tD⟩
        rw [if_neg c19] at H
        have c19b0 := bF c19; have c19b1 := nT c19
        (first | rw [c19b0] | (simp only [i64_w, i32_w]; rw [c19b0]) | skip)
        have H' := Aside0.mk H
        clear H
        go_wp2
        go_meet
        case rel => exact ⟨_, ((a0 == 24)), tR, H', ⟨by have := HJ3.out; have := HJ7.out; have := HJ13.out; first | omega | exact Nat.le_refl _⟩, tD⟩
       case rest =>
        clear HC18
        (try clear c1); (try clear p2); (try clear c3); (try clear c5); (try clear c6); (try clear p6); (try clear c7); (try clear c9); (try clear c10); (try clear c12); (try clear c13); (try clear c15); (try clear c16); (try clear c19); (try clear p2); (try clear p6); (try clear c5b0 c5b1); (try clear c7b0 c7b1); (try clear c9b0 c9b1); (try clear c12b0 c12b1); (try clear c15b0 c15b1); (try clear c19b0 c19b1)
        obtain ⟨kq, x36_17, rfl, HA, HJ17, ⟨mc17, rfl⟩⟩ := hcut
        cases kq with
        | zero => exact absurd HA.out (by simp [alu_plain.j3])
        | succ kj17 =>
         have H := HA.out
         clear HA
         simp only [alu_plain.j3] at H
         by_cases c20 : x36_17 = true
         ·subst c20
          rw [if_pos rfl] at H
          obtain ⟨t277, A210, H⟩ := Option.bind_eq_some_iff.mp H
          try dsimp only at H
          have A21 := Aside0.mk A210; clear A210
          obtain rfl := Option.some.inj H
          go_wp2_with (first | ((with_reducible refine gate_callee (f := 99) rfl ?_); refine goesL_ (some 44) rfl rfl Tryz.func99 (by kernel_rfl) rfl #[.bool (decide ((IntKind.u64.wrap (a1)) < (IntKind.u64.wrap (a2))))] rfl tM ?_; (with_reducible refine (alu_flag.calls (decide ((IntKind.u64.wrap (a1)) < (IntKind.u64.wrap (a2)))) t277 _ A21.out).mono ?_); rintro e w' ⟨rfl, ⟨nd, rfl⟩⟩; refine ⟨_, rfl, ?_⟩))
          go_ret
          exact ⟨tR, tD⟩
         replace c20 := Bool.eq_false_iff.mpr c20
         subst c20
         rw [if_neg nX] at H
         have HC22 := Aside0.mk H
         clear H
         go_upto_if 45 with (fail)
         go_cut [45] (fun v45 wc => ∃ (kq : Nat) (x45_21 : Bool), v45 = .bool x45_21 ∧ Aside0 (alu_plain.j4 kq a1 a2 (Go.bits .and .u64 (IntKind.u64.wrap (a2)) 63) a0 x45_21 = some r) ∧ Aside0 (kq ≤ kj17) ∧ Drawn0 w wc)
         case first =>
          have H := HC22.out
          clear HC22
          by_cases c23 : a0 = 40
          ·rw [if_pos c23] at H
           have c23b0 := bT c23; have c23b1 := nF c23
           clear c23
           (first | rw [c23b0] | (simp only [i64_w, i32_w]; rw [c23b0]) | skip)
           have H' := Aside0.mk H
           clear H
           go_wp2
           go_meet
           case rel => exact ⟨_, ((a0 == 40)), tR, H', ⟨by have := HJ3.out; have := HJ7.out; have := HJ13.out; have := HJ17.out; first | omega | exact Nat.le_refl _⟩, tD⟩
          rw [if_neg c23] at H
          have c23b0 := bF c23; have c23b1 := nT c23
          (first | rw [c23b0] | (simp only [i64_w, i32_w]; rw [c23b0]) | skip)
          have H' := Aside0.mk H
          clear H
          go_wp2
          go_meet
          case rel => exact ⟨_, ((a0 == 25)), tR, H', ⟨by have := HJ3.out; have := HJ7.out; have := HJ13.out; have := HJ17.out; first | omega | exact Nat.le_refl _⟩, tD⟩
         case rest =>
          clear HC22
          (try clear c1); (try clear c2); (try clear p2); (try clear c3); (try clear c5); (try clear c6); (try clear p6); (try clear c7); (try clear c9); (try clear c10); (try clear c12); (try clear c13); (try clear c15); (try clear c16); (try clear c17); (try clear c19); (try clear c20); (try clear c23); (try clear p2); (try clear p6); (try clear c5b0 c5b1); (try clear c7b0 c7b1); (try clear c9b0 c9b1); (try clear c12b0 c12b1); (try clear c15b0 c15b1); (try clear c19b0 c19b1); (try clear c23b0 c23b1)
          obtain ⟨kq, x45_21, rfl, HA, HJ21, ⟨mc21, rfl⟩⟩ := hcut
          cases kq with
          | zero => exact absurd HA.out (by simp [alu_plain.j4])
          | succ kj21 =>
           have H := HA.out
           clear HA
           simp only [alu_plain.j4] at H
           by_cases c24 : x45_21 = true
           ·subst c24
            rw [if_pos rfl] at H
            obtain rfl := Option.some.inj H
            go_wp2
            go_ret
            exact ⟨tR, tD⟩
           replace c24 := Bool.eq_false_iff.mpr c24
           subst c24
           rw [if_neg nX] at H
           have HC25 := Aside0.mk H
           clear H
           go_upto_if 51 with (fail)
           go_cut [51] (fun v51 wc => ∃ (kq : Nat) (x51_24 : Bool), v51 = .bool x51_24 ∧ Aside0 (alu_plain.j5 kq a1 a2 (Go.bits .and .u64 (IntKind.u64.wrap (a2)) 63) a0 x51_24 = some r) ∧ Aside0 (kq ≤ kj21) ∧ Drawn0 w wc)
           case first =>
            have H := HC25.out
            clear HC25
            by_cases c26 : a0 = 41
            ·rw [if_pos c26] at H
             have c26b0 := bT c26; have c26b1 := nF c26
             clear c26
             (first | rw [c26b0] | (simp only [i64_w, i32_w]; rw [c26b0]) | skip)
             have H' := Aside0.mk H
             clear H
             go_wp2
             go_meet
             case rel => exact ⟨_, ((a0 == 41)), tR, H', ⟨by have := HJ3.out; have := HJ7.out; have := HJ13.out; have := HJ17.out; have := HJ21.out; first | omega | exact Nat.le_refl _⟩, tD⟩
            rw [if_neg c26] at H
            have c26b0 := bF c26; have c26b1 := nT c26
            (first | rw [c26b0] | (simp only [i64_w, i32_w]; rw [c26b0]) | skip)
            have H' := Aside0.mk H
            clear H
            go_wp2
            go_meet
            case rel => exact ⟨_, ((a0 == 29)), tR, H', ⟨by have := HJ3.out; have := HJ7.out; have := HJ13.out; have := HJ17.out; have := HJ21.out; first | omega | exact Nat.le_refl _⟩, tD⟩
           case rest =>
            clear HC25
            (try clear c1); (try clear c2); (try clear p2); (try clear c3); (try clear c5); (try clear c6); (try clear p6); (try clear c7); (try clear c9); (try clear c10); (try clear c12); (try clear c13); (try clear c15); (try clear c16); (try clear c17); (try clear c19); (try clear c20); (try clear c21); (try clear c23); (try clear c24); (try clear c26); (try clear p2); (try clear p6); (try clear c5b0 c5b1); (try clear c7b0 c7b1); (try clear c9b0 c9b1); (try clear c12b0 c12b1); (try clear c15b0 c15b1); (try clear c19b0 c19b1); (try clear c23b0 c23b1); (try clear c26b0 c26b1)
            obtain ⟨kq, x51_24, rfl, HA, HJ24, ⟨mc24, rfl⟩⟩ := hcut
            cases kq with
            | zero => exact absurd HA.out (by simp [alu_plain.j5])
            | succ kj24 =>
             have H := HA.out
             clear HA
             simp only [alu_plain.j5] at H
             by_cases c27 : x51_24 = true
             ·subst c27
              rw [if_pos rfl] at H
              obtain ⟨ji28, hji28⟩ : ∃ j_ : Int, (Go.bits .and .u64 (IntKind.u64.wrap (a2)) 63) = j_ := ⟨_, rfl⟩
              replace H : (if 0 ≤ (ji28) then (some (wrap64 (shr .u64 (IntKind.u64.wrap (a1)) (ji28)))) else (none)) = some r := by first | (rw [hji28] at H; exact H) | (simp only [hji28] at H ⊢; exact H)
              by_cases c29 : 0 ≤ (ji28)
              ·rw [if_pos c29] at H
               have c29b0 := eq_true c29
               have c29b1 : decide (0 ≤ (ji28)) = true := decide_eq_true c29
               clear c29
               obtain ⟨ji30, hji30⟩ : ∃ j_ : Int, (shr .u64 (IntKind.u64.wrap (a1)) (ji28)) = j_ := ⟨_, rfl⟩
               replace H : (some (wrap64 (ji30))) = some r := by first | (rw [hji30] at H; exact H) | (simp only [hji30] at H ⊢; exact H)
               have hji30_ : ((IntKind.u64.wrap (a1)) / 2 ^ min (ji28).toNat 64) = ji30 := hji30
               have hji30z : (ji28) ≤ 64 → ((IntKind.u64.wrap (a1)) / 2 ^ (ji28).toNat) = ji30 := shr_small hji30
               obtain rfl := Option.some.inj H
               go_wp2
               go_ret
               exact ⟨by first | rfl | (simp; done) | (simp only [← hji28, ← hji30] <;> (first | rfl | simp)) | (simp [*]; done), tD⟩
              rw [if_neg c29] at H
              exact absurd H (by simp)
             replace c27 := Bool.eq_false_iff.mpr c27
             subst c27
             rw [if_neg nX] at H
             have HC31 := Aside0.mk H
             clear H
             go_upto_if 59 with (fail)
             go_cut [59] (fun v59 wc => ∃ (kq : Nat) (x59_30 : Bool), v59 = .bool x59_30 ∧ Aside0 (alu_plain.j6 kq a1 a2 (Go.bits .and .u64 (IntKind.u64.wrap (a2)) 63) a0 x59_30 = some r) ∧ Aside0 (kq ≤ kj24) ∧ Drawn0 w wc)
             case first =>
              have H := HC31.out
              clear HC31
              by_cases c32 : a0 = 42
              ·rw [if_pos c32] at H
               have c32b0 := bT c32; have c32b1 := nF c32
               clear c32
               (first | rw [c32b0] | (simp only [i64_w, i32_w]; rw [c32b0]) | skip)
               have H' := Aside0.mk H
               clear H
               go_wp2
               go_meet
               case rel => exact ⟨_, ((a0 == 42)), tR, H', ⟨by have := HJ3.out; have := HJ7.out; have := HJ13.out; have := HJ17.out; have := HJ21.out; have := HJ24.out; first | omega | exact Nat.le_refl _⟩, tD⟩
              rw [if_neg c32] at H
              have c32b0 := bF c32; have c32b1 := nT c32
              (first | rw [c32b0] | (simp only [i64_w, i32_w]; rw [c32b0]) | skip)
              have H' := Aside0.mk H
              clear H
              go_wp2
              go_meet
              case rel => exact ⟨_, ((a0 == 30)), tR, H', ⟨by have := HJ3.out; have := HJ7.out; have := HJ13.out; have := HJ17.out; have := HJ21.out; have := HJ24.out; first | omega | exact Nat.le_refl _⟩, tD⟩
             case rest =>
              clear HC31
              (try clear c1); (try clear c2); (try clear p2); (try clear c3); (try clear c5); (try clear c6); (try clear p6); (try clear c7); (try clear c9); (try clear c10); (try clear c12); (try clear c13); (try clear c15); (try clear c16); (try clear c17); (try clear c19); (try clear c20); (try clear c21); (try clear c23); (try clear c24); (try clear c26); (try clear c27); (try clear c29); (try clear c32); (try clear p2); (try clear p6); (try clear c5b0 c5b1); (try clear c7b0 c7b1); (try clear c9b0 c9b1); (try clear c12b0 c12b1); (try clear c15b0 c15b1); (try clear c19b0 c19b1); (try clear c23b0 c23b1); (try clear c26b0 c26b1); (try clear c29b0 c29b1); (try clear c32b0 c32b1)
              obtain ⟨kq, x59_30, rfl, HA, HJ30, ⟨mc30, rfl⟩⟩ := hcut
              cases kq with
              | zero => exact absurd HA.out (by simp [alu_plain.j6])
              | succ kj30 =>
               have H := HA.out
               clear HA
               simp only [alu_plain.j6] at H
               by_cases c33 : x59_30 = true
               ·subst c33
                rw [if_pos rfl] at H
                obtain ⟨ji34, hji34⟩ : ∃ j_ : Int, (Go.bits .and .u64 (IntKind.u64.wrap (a2)) 63) = j_ := ⟨_, rfl⟩
                replace H : (if 0 ≤ (ji34) then (some (shr .i64 a1 (ji34))) else (none)) = some r := by first | (rw [hji34] at H; exact H) | (simp only [hji34] at H ⊢; exact H)
                by_cases c35 : 0 ≤ (ji34)
                ·rw [if_pos c35] at H
                 have c35b0 := eq_true c35
                 have c35b1 : decide (0 ≤ (ji34)) = true := decide_eq_true c35
                 clear c35
                 obtain ⟨ji36, hji36⟩ : ∃ j_ : Int, (shr .i64 a1 (ji34)) = j_ := ⟨_, rfl⟩
                 replace H : (some ji36) = some r := by first | (rw [hji36] at H; exact H) | (simp only [hji36] at H ⊢; exact H)
                 have hji36_ : (a1 / 2 ^ min (ji34).toNat 64) = ji36 := hji36
                 have hji36z : (ji34) ≤ 64 → (a1 / 2 ^ (ji34).toNat) = ji36 := shr_small hji36
                 obtain rfl := Option.some.inj H
                 go_wp2
                 go_ret
                 exact ⟨by first | rfl | (simp; done) | (simp only [← hji34, ← hji36] <;> (first | rfl | simp)) | (simp [*]; done), tD⟩
                rw [if_neg c35] at H
                exact absurd H (by simp)
               replace c33 := Bool.eq_false_iff.mpr c33
               subst c33
               rw [if_neg nX] at H
               by_cases c37 : a0 = 43
               ·rw [if_pos c37] at H
                have c37b0 := bT c37; have c37b1 := nF c37
                clear c37
                obtain rfl := Option.some.inj H
                go_wp2
                go_ret
                exact ⟨tR, tD⟩
               rw [if_neg c37] at H
               have c37b0 := bF c37; have c37b1 := nT c37
               by_cases c38 : a0 = 26
               ·rw [if_pos c38] at H
                have c38b0 := bT c38; have c38b1 := nF c38
                clear c38
                obtain rfl := Option.some.inj H
                go_wp2
                go_ret
                exact ⟨tR, tD⟩
               rw [if_neg c38] at H
               have c38b0 := bF c38; have c38b1 := nT c38
               obtain rfl := Option.some.inj H
               go_wp2
               go_ret
               exact ⟨tR, tD⟩
end Go.Proofs.YtfcniikbcjmlcaaGreatDoor.QB
end
