/- Part KQB10 of the proof of spinnakerlaw19.WindowOrders: for every input the law returns true. -/
import Derived.Test.YtfcniikbcjmlcaaGreatDoorPD
section
namespace Go.Proofs.YtfcniikbcjmlcaaGreatDoor.QB
open Go.RowKit Go.Proofs.YtfcniikbcjmlcaaGreatDoorW.PrintWords Go.Proofs.YtfcniikbcjmlcaaGreatDoorW.PrintLast Go.Proofs.YtfcniikbcjmlcaaGreatDoorW.PrintMore
attribute [local go_sem] max2_int min2_int max_two min_two max_three min_three max_four min_four   -- for this text's walks alone
set_option linter.unusedVariables false
set_option linter.unusedSimpArgs false
def alu_quotient.f (a0 : Int) (a1 : Int) : Option (Int × Int) := if a1 = 0 then (some ((-1), a0)) else (if a1 = (-1) then (some (wrap64 (-a0), 0)) else (some (wrap64 (Int.tdiv a0 a1), Int.tmod a0 a1)))
set_option maxHeartbeats 8000000 in
set_option maxRecDepth 100000 in
theorem alu_quotient.calls (a0 : Int) (a1 : Int) (r1 : Int) (r2 : Int) (w : World) (h : alu_quotient.f a0 a1 = some (r1, r2)) :
  Calls Tryz.prog 101 #[.int .i64 a0, .int .i64 a1] w fun e w' => e = .returned (.tuple #[.int .i64 r1, .int .i64 r2]) ∧ Drawn0 w w' := by
 unfold alu_quotient.f at h; have H := h
 clear h
 by_cases c3 : a1 = 0
 ·rw [if_pos c3] at H
  have c3b0 := bT c3; have c3b1 := nF c3
  clear c3
  simp only [Option.some.injEq, Prod.mk.injEq] at H
  obtain ⟨rfl, rfl⟩ := H
  go_enter Tryz.func101, Tryz.ntmps101
  go_wp2
  repeat (go_quiet (fail); try go_wp2)
  go_ret2
  exact ⟨tR, tD⟩
 rw [if_neg c3] at H
 have c3b0 := bF c3; have c3b1 := nT c3
 by_cases c4 : a1 = (-1)
 ·rw [if_pos c4] at H
  have c4b0 : (a1 == (-1)) = true := beq_iff_eq.mpr c4
  have c4b1 : (a1 != (-1)) = false := bne_eq_false_iff_eq.mpr c4
  clear c4
  simp only [Option.some.injEq, Prod.mk.injEq] at H
  obtain ⟨rfl, rfl⟩ := H
  go_enter Tryz.func101, Tryz.ntmps101
  go_wp2
  repeat (go_quiet (fail); try go_wp2)
  go_ret2
  exact ⟨tR, tD⟩
 rw [if_neg c4] at H
 have c4b0 : (a1 == (-1)) = false := beq_eq_false_iff_ne.mpr c4
 have c4b1 : (a1 != (-1)) = true := bne_iff_ne.mpr c4
 simp only [Option.some.injEq, Prod.mk.injEq] at H
 obtain ⟨rfl, rfl⟩ := H
 go_enter Tryz.func101, Tryz.ntmps101
 go_wp2
 repeat (go_quiet (fail); try go_wp2)
 go_ret2
 exact ⟨tR, tD⟩
def alu_quotientU.f (a0 : Int) (a1 : Int) : Option (Int × Int) := if a1 = 0 then (some ((-1), wrap64 (a0))) else (some (wrap64 (IntKind.u64.wrap (Int.tdiv a0 a1)), wrap64 (Int.tmod a0 a1)))
set_option maxHeartbeats 8000000 in
set_option maxRecDepth 100000 in
theorem alu_quotientU.calls (a0 : Int) (a1 : Int) (r1 : Int) (r2 : Int) (w : World) (h : alu_quotientU.f a0 a1 = some (r1, r2)) :
  Calls Tryz.prog 102 #[.int .u64 a0, .int .u64 a1] w fun e w' => e = .returned (.tuple #[.int .i64 r1, .int .i64 r2]) ∧ Drawn0 w w' := by
 unfold alu_quotientU.f at h; have H := h
 clear h
 by_cases c3 : a1 = 0
 ·rw [if_pos c3] at H
  have c3b0 := bT c3; have c3b1 := nF c3
  clear c3
  simp only [Option.some.injEq, Prod.mk.injEq] at H
  obtain ⟨rfl, rfl⟩ := H
  go_enter Tryz.func102, Tryz.ntmps102
  go_wp2
  repeat (go_quiet (fail); try go_wp2)
  go_ret2
  exact ⟨tR, tD⟩
 rw [if_neg c3] at H
 have c3b0 := bF c3; have c3b1 := nT c3
 simp only [Option.some.injEq, Prod.mk.injEq] at H
 obtain ⟨rfl, rfl⟩ := H
 go_enter Tryz.func102, Tryz.ntmps102
 go_wp2
 repeat (go_quiet (fail); try go_wp2)
 go_ret2
 exact ⟨tR, tD⟩
def bits_Mul64.f (a0 : Int) (a1 : Int) : Option (Int × Int) := some (IntKind.u64.wrap ((IntKind.u64.wrap ((IntKind.u64.wrap ((a0 / 4294967296) * (a1 / 4294967296))) + ((IntKind.u64.wrap ((IntKind.u64.wrap ((a0 / 4294967296) * (Go.bits .and .u64 a1 4294967295))) + ((IntKind.u64.wrap ((Go.bits .and .u64 a0 4294967295) * (Go.bits .and .u64 a1 4294967295))) / 4294967296))) / 4294967296))) + ((IntKind.u64.wrap ((Go.bits .and .u64 (IntKind.u64.wrap ((IntKind.u64.wrap ((a0 / 4294967296) * (Go.bits .and .u64 a1 4294967295))) + ((IntKind.u64.wrap ((Go.bits .and .u64 a0 4294967295) * (Go.bits .and .u64 a1 4294967295))) / 4294967296))) 4294967295) + (IntKind.u64.wrap ((Go.bits .and .u64 a0 4294967295) * (a1 / 4294967296))))) / 4294967296)), IntKind.u64.wrap (a0 * a1))
set_option maxHeartbeats 8000000 in
set_option maxRecDepth 100000 in
theorem bits_Mul64.calls (a0 : Int) (a1 : Int) (r1 : Int) (r2 : Int) (w : World) (h : bits_Mul64.f a0 a1 = some (r1, r2)) :
  Calls Tryz.prog 117 #[.int .u64 a0, .int .u64 a1] w fun e w' => e = .returned (.tuple #[.int .u64 r1, .int .u64 r2]) ∧ Drawn0 w w' := by
 unfold bits_Mul64.f at h; have H := h
 clear h
 simp only [Option.some.injEq, Prod.mk.injEq] at H
 obtain ⟨rfl, rfl⟩ := H
 go_enter Tryz.func117, Tryz.ntmps117
 go_wp2
 go_ret2
 exact ⟨tR, tD⟩
def alu_high.j0 : Nat → Int → Int → Bool → Int → Bool → Option (Int)
 | 0, _, _, _, _, _ => none
 | k + 1, x0, x1, x3, x11, x26 => if x26 = true then (if x3 = true then (if x1 < 0 then (some (wrap64 ((wrap64 (x11 - x1)) - x0))) else (some (wrap64 (x11 - x1)))) else (some (wrap64 (x11 - x1)))) else (if x3 = true then (if x1 < 0 then (some (wrap64 (x11 - x0))) else (some x11)) else (some x11))
def alu_high.f (k : Nat) (a0 : Int) (a1 : Int) (a2 : Bool) (a3 : Bool) : Option (Int) := (bits_Mul64.f (IntKind.u64.wrap (a0)) (IntKind.u64.wrap (a1))).bind fun bt278 => (if a2 = true then (alu_high.j0 k a0 a1 a3 (wrap64 (bt278.1)) (decide (a0 < 0))) else (alu_high.j0 k a0 a1 a3 (wrap64 (bt278.1)) false))
theorem alu_high.mono_l : ∀ k, (∀ y0 y1 y2 y3 y4, LeO (alu_high.j0 k y0 y1 y2 y3 y4) (alu_high.j0 (k + 1) y0 y1 y2 y3 y4))
 | 0 => fun _ _ _ _ _ r h => by simp [alu_high.j0] at h
 | k + 1 => by
  have ih0 := alu_high.mono_l k
  intro y0 y1 y2 y3 y4
  unfold alu_high.j0
  repeat' first
  | (with_reducible exact ih0 _ _ _ _ _)
  | (with_reducible exact LeO.refl _)
  | (with_reducible exact LeO.none _)
  | (with_reducible refine LeO.ite ?_ ?_)
  | (with_reducible refine LeO.bind ?_ (fun _ => ?_))
  | exact ih0 _ _ _ _ _
  | exact LeO.none _
  | refine LeO.ite ?_ ?_
  | refine LeO.bind ?_ (fun _ => ?_)
theorem alu_high.mono : ∀ a0 a1 a2 a3 k, LeO (alu_high.f k a0 a1 a2 a3) (alu_high.f (k + 1) a0 a1 a2 a3) := by
 intro a0 a1 a2 a3 k
 have ih0 := alu_high.mono_l k
 unfold alu_high.f
 repeat' first
   | (with_reducible exact ih0 _ _ _ _ _)
   | (with_reducible exact LeO.refl _)
   | (with_reducible exact LeO.none _)
   | (with_reducible refine LeO.ite ?_ ?_)
   | (with_reducible refine LeO.bind ?_ (fun _ => ?_))
   | exact ih0 _ _ _ _ _
   | exact LeO.none _
   | refine LeO.ite ?_ ?_
   | refine LeO.bind ?_ (fun _ => ?_)
set_option maxHeartbeats 8000000 in
set_option maxRecDepth 100000 in
theorem alu_high.calls (k : Nat) (a0 : Int) (a1 : Int) (a2 : Bool) (a3 : Bool) (r : Int) (w : World) (h : alu_high.f k a0 a1 a2 a3 = some r) :
  Calls Tryz.prog 103 #[.int .i64 a0, .int .i64 a1, .bool a2, .bool a3] w fun e w' => e = .returned (.int .i64 r) ∧ Drawn0 w w' := by
 unfold alu_high.f at h; have H := h
 clear h
 replace H := Option.bind_eq_some_iff.mp H
 obtain ⟨⟨t278, t279⟩, A50, H⟩ := H
 replace H : (if a2 = true then (alu_high.j0 k a0 a1 a3 (wrap64 (t278)) (decide (a0 < 0))) else (alu_high.j0 k a0 a1 a3 (wrap64 (t278)) false)) = some r := H
 have A5 := Aside0.mk A50; clear A50
 have HC6 := Aside0.mk H
 clear H
 go_enter Tryz.func103, Tryz.ntmps103
 go_upto_region 3 with (first | ((with_reducible refine gate_callee (f := 117) rfl ?_); refine goesL_ (some 17) rfl rfl Tryz.func117 (by kernel_rfl) rfl #[.int .u64 (IntKind.u64.wrap (a0)), .int .u64 (IntKind.u64.wrap (a1))] rfl tM ?_; (with_reducible refine (bits_Mul64.calls (IntKind.u64.wrap (a0)) (IntKind.u64.wrap (a1)) t278 t279 _ A5.out).mono ?_); rintro e w' ⟨rfl, ⟨nd, rfl⟩⟩; refine ⟨_, rfl, ?_⟩))
 (try simp only [Act.put, sS])
 go_cut [26] (fun v26 wc => ∃ (kq : Nat) (x26_5 : Bool), v26 = .bool x26_5 ∧ Aside0 (alu_high.j0 kq a0 a1 a3 (wrap64 (t278)) x26_5 = some r) ∧ Aside0 (kq ≤ k) ∧ Drawn0 w wc)
 case first =>
  have H := HC6.out
  clear HC6
  by_cases c7 : a2 = true
  ·subst c7
   rw [if_pos rfl] at H
   have H' := Aside0.mk H
   clear H
   go_wp2
   go_meet
   case rel => exact ⟨_, (decide (a0 < 0)), tR, H', ⟨tO⟩, tD⟩
  replace c7 := Bool.eq_false_iff.mpr c7
  subst c7
  rw [if_neg nX] at H
  have H' := Aside0.mk H
  clear H
  go_wp2
  go_meet
  case rel => exact ⟨_, (false), tR, H', ⟨tO⟩, tD⟩
 case rest =>
  clear HC6
  (try clear c1); (try clear p2); (try clear p6); (try clear c7)
  obtain ⟨kq, x26_5, rfl, HA, HJ5, ⟨mc5, rfl⟩⟩ := hcut
  cases kq with
  | zero => exact absurd HA.out (by simp [alu_high.j0])
  | succ kj5 =>
   have H := HA.out
   clear HA
   simp only [alu_high.j0] at H
   by_cases c8 : x26_5 = true
   ·subst c8
    rw [if_pos rfl] at H
    by_cases c9 : a3 = true
    ·subst c9
     rw [if_pos rfl] at H
     by_cases c10 : a1 < 0
     ·rw [if_pos c10] at H
      have c10b0 : decide (a1 < 0) = true := decide_eq_true c10
      clear c10
      obtain rfl := Option.some.inj H
      go_wp2
      go_ret
      exact ⟨tR, tD⟩
     rw [if_neg c10] at H
     have c10b0 : decide (a1 < 0) = false := decide_eq_false c10
     clear c10
     obtain rfl := Option.some.inj H
     go_wp2
     go_ret
     exact ⟨tR, tD⟩
    replace c9 := Bool.eq_false_iff.mpr c9
    subst c9
    rw [if_neg nX] at H
    obtain rfl := Option.some.inj H
    go_wp2
    go_ret
    exact ⟨tR, tD⟩
   replace c8 := Bool.eq_false_iff.mpr c8
   subst c8
   rw [if_neg nX] at H
   by_cases c11 : a3 = true
   ·subst c11
    rw [if_pos rfl] at H
    by_cases c12 : a1 < 0
    ·rw [if_pos c12] at H
     have c12b0 : decide (a1 < 0) = true := decide_eq_true c12
     clear c12
     obtain rfl := Option.some.inj H
     go_wp2
     go_ret
     exact ⟨tR, tD⟩
    rw [if_neg c12] at H
    have c12b0 : decide (a1 < 0) = false := decide_eq_false c12
    clear c12
    obtain rfl := Option.some.inj H
    go_wp2
    go_ret
    exact ⟨tR, tD⟩
   replace c11 := Bool.eq_false_iff.mpr c11
   subst c11
   rw [if_neg nX] at H
   obtain rfl := Option.some.inj H
   go_wp2
   go_ret
   exact ⟨tR, tD⟩
def alu_times.f (k : Nat) (a0 : Int) (a1 : Int) (a2 : Int) : Option (Int) := (alu_quotient.f a1 a2).bind fun bt280 => ((alu_quotientU.f (IntKind.u64.wrap (a1)) (IntKind.u64.wrap (a2))).bind fun bt282 => (if a0 = 50 then (some (wrap64 (a1 * a2))) else (if a0 = 51 then ((alu_high.f k a1 a2 true true).bind fun t284 => (some t284)) else (if a0 = 52 then ((alu_high.f k a1 a2 true false).bind fun t285 => (some t285)) else (if a0 = 53 then ((alu_high.f k a1 a2 false false).bind fun t286 => (some t286)) else (if a0 = 54 then (some bt280.1) else (if a0 = 55 then (some bt282.1) else (if a0 = 56 then (some bt280.2) else (some bt282.2)))))))))
theorem alu_times.mono : ∀ a0 a1 a2 k, LeO (alu_times.f k a0 a1 a2) (alu_times.f (k + 1) a0 a1 a2) := by
 intro a0 a1 a2 k
 unfold alu_times.f
 repeat' first
   | (with_reducible exact alu_high.mono _ _ _ _ _)
   | (with_reducible exact LeO.refl _)
   | (with_reducible exact LeO.none _)
   | (with_reducible refine LeO.ite ?_ ?_)
   | (with_reducible refine LeO.bind ?_ (fun _ => ?_))
   | exact alu_high.mono _ _ _ _ _
   | exact LeO.none _
   | refine LeO.ite ?_ ?_
   | refine LeO.bind ?_ (fun _ => ?_)
set_option maxHeartbeats 8000000 in
set_option maxRecDepth 100000 in
theorem alu_times.calls (k : Nat) (a0 : Int) (a1 : Int) (a2 : Int) (r : Int) (w : World) (h : alu_times.f k a0 a1 a2 = some r) :
  Calls Tryz.prog 75 #[.int .i64 a0, .int .i64 a1, .int .i64 a2] w fun e w' => e = .returned (.int .i64 r) ∧ Drawn0 w w' := by
 unfold alu_times.f at h; have H := h
 clear h
 replace H := Option.bind_eq_some_iff.mp H
 obtain ⟨⟨t280, t281⟩, A40, H⟩ := H
 replace H : ((alu_quotientU.f (IntKind.u64.wrap (a1)) (IntKind.u64.wrap (a2))).bind fun bt282 => (if a0 = 50 then (some (wrap64 (a1 * a2))) else (if a0 = 51 then ((alu_high.f k a1 a2 true true).bind fun t284 => (some t284)) else (if a0 = 52 then ((alu_high.f k a1 a2 true false).bind fun t285 => (some t285)) else (if a0 = 53 then ((alu_high.f k a1 a2 false false).bind fun t286 => (some t286)) else (if a0 = 54 then (some t280) else (if a0 = 55 then (some bt282.1) else (if a0 = 56 then (some t281) else (some bt282.2))))))))) = some r := H
 have A4 := Aside0.mk A40; clear A40
 replace H := Option.bind_eq_some_iff.mp H
 obtain ⟨⟨t282, t283⟩, A50, H⟩ := H
 replace H : (if a0 = 50 then (some (wrap64 (a1 * a2))) else (if a0 = 51 then ((alu_high.f k a1 a2 true true).bind fun t284 => (some t284)) else (if a0 = 52 then ((alu_high.f k a1 a2 true false).bind fun t285 => (some t285)) else (if a0 = 53 then ((alu_high.f k a1 a2 false false).bind fun t286 => (some t286)) else (if a0 = 54 then (some t280) else (if a0 = 55 then (some t282) else (if a0 = 56 then (some t281) else (some t283)))))))) = some r := H
 have A5 := Aside0.mk A50; clear A50
 by_cases c6 : a0 = 50
 ·rw [if_pos c6] at H
  have c6b0 := bT c6; have c6b1 := nF c6
  clear c6
  obtain rfl := Option.some.inj H
  go_enter Tryz.func75, Tryz.ntmps75
  go_wp2_with (first | ((with_reducible refine gate_callee (f := 101) rfl ?_); refine goesL_ (some 14) rfl rfl Tryz.func101 (by kernel_rfl) rfl #[.int .i64 a1, .int .i64 a2] rfl tM ?_; (with_reducible refine (alu_quotient.calls a1 a2 t280 t281 _ A4.out).mono ?_); rintro e w' ⟨rfl, ⟨nd, rfl⟩⟩; refine ⟨_, rfl, ?_⟩) | ((with_reducible refine gate_callee (f := 102) rfl ?_); refine goesL_ (some 22) rfl rfl Tryz.func102 (by kernel_rfl) rfl #[.int .u64 (IntKind.u64.wrap (a1)), .int .u64 (IntKind.u64.wrap (a2))] rfl tM ?_; (with_reducible refine (alu_quotientU.calls (IntKind.u64.wrap (a1)) (IntKind.u64.wrap (a2)) t282 t283 _ A5.out).mono ?_); rintro e w' ⟨rfl, ⟨nd, rfl⟩⟩; refine ⟨_, rfl, ?_⟩))
  go_ret
  exact ⟨tR, tD⟩
 rw [if_neg c6] at H
 have c6b0 := bF c6; have c6b1 := nT c6
 by_cases c7 : a0 = 51
 ·rw [if_pos c7] at H
  have c7b0 := bT c7; have c7b1 := nF c7
  clear c7
  obtain ⟨t284, A80, H⟩ := Option.bind_eq_some_iff.mp H
  try dsimp only at H
  have A8 := Aside0.mk A80; clear A80
  obtain rfl := Option.some.inj H
  go_enter Tryz.func75, Tryz.ntmps75
  go_wp2_with (first | ((with_reducible refine gate_callee (f := 101) rfl ?_); refine goesL_ (some 14) rfl rfl Tryz.func101 (by kernel_rfl) rfl #[.int .i64 a1, .int .i64 a2] rfl tM ?_; (with_reducible refine (alu_quotient.calls a1 a2 t280 t281 _ A4.out).mono ?_); rintro e w' ⟨rfl, ⟨nd, rfl⟩⟩; refine ⟨_, rfl, ?_⟩) | ((with_reducible refine gate_callee (f := 102) rfl ?_); refine goesL_ (some 22) rfl rfl Tryz.func102 (by kernel_rfl) rfl #[.int .u64 (IntKind.u64.wrap (a1)), .int .u64 (IntKind.u64.wrap (a2))] rfl tM ?_; (with_reducible refine (alu_quotientU.calls (IntKind.u64.wrap (a1)) (IntKind.u64.wrap (a2)) t282 t283 _ A5.out).mono ?_); rintro e w' ⟨rfl, ⟨nd, rfl⟩⟩; refine ⟨_, rfl, ?_⟩) | ((with_reducible refine gate_callee (f := 103) rfl ?_); refine goesL_ (some 35) rfl rfl Tryz.func103 (by kernel_rfl) rfl #[.int .i64 a1, .int .i64 a2, .bool true, .bool true] rfl tM ?_; (with_reducible refine (alu_high.calls k a1 a2 true true t284 _ A8.out).mono ?_); rintro e w' ⟨rfl, ⟨nd, rfl⟩⟩; refine ⟨_, rfl, ?_⟩))
  go_ret
  exact ⟨tR, tD⟩
 rw [if_neg c7] at H
 have c7b0 := bF c7; have c7b1 := nT c7
 by_cases c9 : a0 = 52
 ·rw [if_pos c9] at H
  have c9b0 := bT c9; have c9b1 := nF c9
  clear c9
  obtain ⟨t285, A100, H⟩ := Option.bind_eq_some_iff.mp H
  try dsimp only at H
  have A10 := Aside0.mk A100; clear A100
  obtain rfl := Option.some.inj H
  go_enter Tryz.func75, Tryz.ntmps75
  go_wp2_with (first | ((with_reducible refine gate_callee (f := 101) rfl ?_); refine goesL_ (some 14) rfl rfl Tryz.func101 (by kernel_rfl) rfl #[.int .i64 a1, .int .i64 a2] rfl tM ?_; (with_reducible refine (alu_quotient.calls a1 a2 t280 t281 _ A4.out).mono ?_); rintro e w' ⟨rfl, ⟨nd, rfl⟩⟩; refine ⟨_, rfl, ?_⟩) | ((with_reducible refine gate_callee (f := 102) rfl ?_); refine goesL_ (some 22) rfl rfl Tryz.func102 (by kernel_rfl) rfl #[.int .u64 (IntKind.u64.wrap (a1)), .int .u64 (IntKind.u64.wrap (a2))] rfl tM ?_; (with_reducible refine (alu_quotientU.calls (IntKind.u64.wrap (a1)) (IntKind.u64.wrap (a2)) t282 t283 _ A5.out).mono ?_); rintro e w' ⟨rfl, ⟨nd, rfl⟩⟩; refine ⟨_, rfl, ?_⟩) | ((with_reducible refine gate_callee (f := 103) rfl ?_); refine goesL_ (some 40) rfl rfl Tryz.func103 (by kernel_rfl) rfl #[.int .i64 a1, .int .i64 a2, .bool true, .bool false] rfl tM ?_; (with_reducible refine (alu_high.calls k a1 a2 true false t285 _ A10.out).mono ?_); rintro e w' ⟨rfl, ⟨nd, rfl⟩⟩; refine ⟨_, rfl, ?_⟩))
  go_ret
  exact ⟨tR, tD⟩
 rw [if_neg c9] at H
 have c9b0 := bF c9; have c9b1 := nT c9
 by_cases c11 : a0 = 53
 ·rw [if_pos c11] at H
  have c11b0 := bT c11; have c11b1 := nF c11
  clear c11
  obtain ⟨t286, A120, H⟩ := Option.bind_eq_some_iff.mp H
  try dsimp only at H
  have A12 := Aside0.mk A120; clear A120
  obtain rfl := Option.some.inj H
  go_enter Tryz.func75, Tryz.ntmps75
  go_wp2_with (first | ((with_reducible refine gate_callee (f := 101) rfl ?_); refine goesL_ (some 14) rfl rfl Tryz.func101 (by kernel_rfl) rfl #[.int .i64 a1, .int .i64 a2] rfl tM ?_; (with_reducible refine (alu_quotient.calls a1 a2 t280 t281 _ A4.out).mono ?_); rintro e w' ⟨rfl, ⟨nd, rfl⟩⟩; refine ⟨_, rfl, ?_⟩) | ((with_reducible refine gate_callee (f := 102) rfl ?_); refine goesL_ (some 22) rfl rfl Tryz.func102 (by kernel_rfl) rfl #[.int .u64 (IntKind.u64.wrap (a1)), .int .u64 (IntKind.u64.wrap (a2))] rfl tM ?_; (with_reducible refine (alu_quotientU.calls (IntKind.u64.wrap (a1)) (IntKind.u64.wrap (a2)) t282 t283 _ A5.out).mono ?_); rintro e w' ⟨rfl, ⟨nd, rfl⟩⟩; refine ⟨_, rfl, ?_⟩) | ((with_reducible refine gate_callee (f := 103) rfl ?_); refine goesL_ (some 45) rfl rfl Tryz.func103 (by kernel_rfl) rfl #[.int .i64 a1, .int .i64 a2, .bool false, .bool false] rfl tM ?_; (with_reducible refine (alu_high.calls k a1 a2 false false t286 _ A12.out).mono ?_); rintro e w' ⟨rfl, ⟨nd, rfl⟩⟩; refine ⟨_, rfl, ?_⟩))
  go_ret
  exact ⟨tR, tD⟩
 rw [if_neg c11] at H
 have c11b0 := bF c11; have c11b1 := nT c11
 by_cases c13 : a0 = 54
 ·rw [if_pos c13] at H
  have c13b0 := bT c13; have c13b1 := nF c13
  clear c13
  obtain rfl := Option.some.inj H
  go_enter Tryz.func75, Tryz.ntmps75
  go_wp2_with (first | ((with_reducible refine gate_callee (f := 101) rfl ?_); refine goesL_ (some 14) rfl rfl Tryz.func101 (by kernel_rfl) rfl #[.int .i64 a1, .int .i64 a2] rfl tM ?_; (with_reducible refine (alu_quotient.calls a1 a2 t280 t281 _ A4.out).mono ?_); rintro e w' ⟨rfl, ⟨nd, rfl⟩⟩; refine ⟨_, rfl, ?_⟩) | ((with_reducible refine gate_callee (f := 102) rfl ?_); refine goesL_ (some 22) rfl rfl Tryz.func102 (by kernel_rfl) rfl #[.int .u64 (IntKind.u64.wrap (a1)), .int .u64 (IntKind.u64.wrap (a2))] rfl tM ?_; (with_reducible refine (alu_quotientU.calls (IntKind.u64.wrap (a1)) (IntKind.u64.wrap (a2)) t282 t283 _ A5.out).mono ?_); rintro e w' ⟨rfl, ⟨nd, rfl⟩⟩; refine ⟨_, rfl, ?_⟩))
  go_ret
  exact ⟨tR, tD⟩
 rw [if_neg c13] at H
 have c13b0 := bF c13; have c13b1 := nT c13
 by_cases c14 : a0 = 55
 ·rw [if_pos c14] at H
  have c14b0 := bT c14; have c14b1 := nF c14
  clear c14
  obtain rfl := Option.some.inj H
  go_enter Tryz.func75, Tryz.ntmps75
  go_wp2_with (first | ((with_reducible refine gate_callee (f := 101) rfl ?_); refine goesL_ (some 14) rfl rfl Tryz.func101 (by kernel_rfl) rfl #[.int .i64 a1, .int .i64 a2] rfl tM ?_; (with_reducible refine (alu_quotient.calls a1 a2 t280 t281 _ A4.out).mono ?_); rintro e w' ⟨rfl, ⟨nd, rfl⟩⟩; refine ⟨_, rfl, ?_⟩) | ((with_reducible refine gate_callee (f := 102) rfl ?_); refine goesL_ (some 22) rfl rfl Tryz.func102 (by kernel_rfl) rfl #[.int .u64 (IntKind.u64.wrap (a1)), .int .u64 (IntKind.u64.wrap (a2))] rfl tM ?_; (with_reducible refine (alu_quotientU.calls (IntKind.u64.wrap (a1)) (IntKind.u64.wrap (a2)) t282 t283 _ A5.out).mono ?_); rintro e w' ⟨rfl, ⟨nd, rfl⟩⟩; refine ⟨_, rfl, ?_⟩))
  go_ret
  exact ⟨tR, tD⟩
 rw [if_neg c14] at H
 have c14b0 := bF c14; have c14b1 := nT c14
 by_cases c15 : a0 = 56
 ·rw [if_pos c15] at H
  have c15b0 := bT c15; have c15b1 := nF c15
  clear c15
  obtain rfl := Option.some.inj H
  go_enter Tryz.func75, Tryz.ntmps75
  go_wp2_with (first | ((with_reducible refine gate_callee (f := 101) rfl ?_); refine goesL_ (some 14) rfl rfl Tryz.func101 (by kernel_rfl) rfl #[.int .i64 a1, .int .i64 a2] rfl tM ?_; (with_reducible refine (alu_quotient.calls a1 a2 t280 t281 _ A4.out).mono ?_); rintro e w' ⟨rfl, ⟨nd, rfl⟩⟩; refine ⟨_, rfl, ?_⟩) | ((with_reducible refine gate_callee (f := 102) rfl ?_); refine goesL_ (some 22) rfl rfl Tryz.func102 (by kernel_rfl) rfl #[.int .u64 (IntKind.u64.wrap (a1)), .int .u64 (IntKind.u64.wrap (a2))] rfl tM ?_; (with_reducible refine (alu_quotientU.calls (IntKind.u64.wrap (a1)) (IntKind.u64.wrap (a2)) t282 t283 _ A5.out).mono ?_); rintro e w' ⟨rfl, ⟨nd, rfl⟩⟩; refine ⟨_, rfl, ?_⟩))
  go_ret
  exact ⟨tR, tD⟩
 rw [if_neg c15] at H
 have c15b0 := bF c15; have c15b1 := nT c15
 obtain rfl := Option.some.inj H
 go_enter Tryz.func75, Tryz.ntmps75
 go_wp2_with (first | ((with_reducible refine gate_callee (f := 101) rfl ?_); refine goesL_ (some 14) rfl rfl Tryz.func101 (by kernel_rfl) rfl #[.int .i64 a1, .int .i64 a2] rfl tM ?_; (with_reducible refine (alu_quotient.calls a1 a2 t280 t281 _ A4.out).mono ?_); rintro e w' ⟨rfl, ⟨nd, rfl⟩⟩; refine ⟨_, rfl, ?_⟩) | ((with_reducible refine gate_callee (f := 102) rfl ?_); refine goesL_ (some 22) rfl rfl Tryz.func102 (by kernel_rfl) rfl #[.int .u64 (IntKind.u64.wrap (a1)), .int .u64 (IntKind.u64.wrap (a2))] rfl tM ?_; (with_reducible refine (alu_quotientU.calls (IntKind.u64.wrap (a1)) (IntKind.u64.wrap (a2)) t282 t283 _ A5.out).mono ?_); rintro e w' ⟨rfl, ⟨nd, rfl⟩⟩; refine ⟨_, rfl, ?_⟩))
 go_ret
 exact ⟨tR, tD⟩
def alu_half.f (a0 : Int) : Option (Int) := some (wrap64 (wrap32 (a0)))
set_option maxHeartbeats 8000000 in
set_option maxRecDepth 100000 in
theorem alu_half.calls (a0 : Int) (r : Int) (w : World) (h : alu_half.f a0 = some r) :
  Calls Tryz.prog 100 #[.int .i64 a0] w fun e w' => e = .returned (.int .i64 r) ∧ Drawn0 w w' := by
 have H : (some (wrap64 (wrap32 (a0)))) = some r := h
 clear h
 obtain rfl := Option.some.inj H
 go_enter Tryz.func100, Tryz.ntmps100
 go_wp2
 go_ret
 exact ⟨tR, tD⟩
def alu_shortTimes.f (a0 : Int) (a1 : Int) (a2 : Int) : Option (Int) := (alu_half.f a1).bind fun t287 => ((alu_half.f a2).bind fun t288 => ((alu_quotient.f t287 t288).bind fun bt289 => ((alu_quotientU.f ((a1) % 4294967296) ((a2) % 4294967296)).bind fun bt291 => (if a0 = 58 then ((alu_half.f (wrap64 (a1 * a2))).bind fun t293 => (some t293)) else (if a0 = 59 then ((alu_half.f bt289.1).bind fun t294 => (some t294)) else (if a0 = 60 then ((alu_half.f bt291.1).bind fun t295 => (some t295)) else (if a0 = 61 then ((alu_half.f bt289.2).bind fun t296 => (some t296)) else ((alu_half.f bt291.2).bind fun t297 => (some t297)))))))))
set_option maxHeartbeats 8000000 in
set_option maxRecDepth 100000 in
theorem alu_shortTimes.calls (a0 : Int) (a1 : Int) (a2 : Int) (r : Int) (w : World) (h : alu_shortTimes.f a0 a1 a2 = some r) :
  Calls Tryz.prog 76 #[.int .i64 a0, .int .i64 a1, .int .i64 a2] w fun e w' => e = .returned (.int .i64 r) ∧ Drawn0 w w' := by
 unfold alu_shortTimes.f at h; have H := h
 clear h
 obtain ⟨t287, A40, H⟩ := Option.bind_eq_some_iff.mp H
 try dsimp only at H
 have A4 := Aside0.mk A40; clear A40
 obtain ⟨t288, A50, H⟩ := Option.bind_eq_some_iff.mp H
 try dsimp only at H
 have A5 := Aside0.mk A50; clear A50
 replace H := Option.bind_eq_some_iff.mp H
 obtain ⟨⟨t289, t290⟩, A60, H⟩ := H
 replace H : ((alu_quotientU.f ((a1) % 4294967296) ((a2) % 4294967296)).bind fun bt291 => (if a0 = 58 then ((alu_half.f (wrap64 (a1 * a2))).bind fun t293 => (some t293)) else (if a0 = 59 then ((alu_half.f t289).bind fun t294 => (some t294)) else (if a0 = 60 then ((alu_half.f bt291.1).bind fun t295 => (some t295)) else (if a0 = 61 then ((alu_half.f t290).bind fun t296 => (some t296)) else ((alu_half.f bt291.2).bind fun t297 => (some t297))))))) = some r := H
 have A6 := Aside0.mk A60; clear A60
 replace H := Option.bind_eq_some_iff.mp H
 obtain ⟨⟨t291, t292⟩, A70, H⟩ := H
 replace H : (if a0 = 58 then ((alu_half.f (wrap64 (a1 * a2))).bind fun t293 => (some t293)) else (if a0 = 59 then ((alu_half.f t289).bind fun t294 => (some t294)) else (if a0 = 60 then ((alu_half.f t291).bind fun t295 => (some t295)) else (if a0 = 61 then ((alu_half.f t290).bind fun t296 => (some t296)) else ((alu_half.f t292).bind fun t297 => (some t297)))))) = some r := H
 have A7 := Aside0.mk A70; clear A70
 by_cases c8 : a0 = 58
 ·rw [if_pos c8] at H
  have c8b0 := bT c8; have c8b1 := nF c8
  clear c8
  obtain ⟨t293, A90, H⟩ := Option.bind_eq_some_iff.mp H
  try dsimp only at H
  have A9 := Aside0.mk A90; clear A90
  obtain rfl := Option.some.inj H
  go_enter Tryz.func76, Tryz.ntmps76
  go_wp2_with (first | ((with_reducible refine gate_callee (f := 100) rfl ?_); refine goesL_ (some 13) rfl rfl Tryz.func100 (by kernel_rfl) rfl #[.int .i64 a1] rfl tM ?_; (with_reducible refine (alu_half.calls a1 t287 _ A4.out).mono ?_); rintro e w' ⟨rfl, ⟨nd, rfl⟩⟩; refine ⟨_, rfl, ?_⟩) | ((with_reducible refine gate_callee (f := 100) rfl ?_); refine goesL_ (some 15) rfl rfl Tryz.func100 (by kernel_rfl) rfl #[.int .i64 a2] rfl tM ?_; (with_reducible refine (alu_half.calls a2 t288 _ A5.out).mono ?_); rintro e w' ⟨rfl, ⟨nd, rfl⟩⟩; refine ⟨_, rfl, ?_⟩) | ((with_reducible refine gate_callee (f := 101) rfl ?_); refine goesL_ (some 16) rfl rfl Tryz.func101 (by kernel_rfl) rfl #[.int .i64 t287, .int .i64 t288] rfl tM ?_; (with_reducible refine (alu_quotient.calls t287 t288 t289 t290 _ A6.out).mono ?_); rintro e w' ⟨rfl, ⟨nd, rfl⟩⟩; refine ⟨_, rfl, ?_⟩) | ((with_reducible refine gate_callee (f := 102) rfl ?_); refine goesL_ (some 26) rfl rfl Tryz.func102 (by kernel_rfl) rfl #[.int .u64 ((a1) % 4294967296), .int .u64 ((a2) % 4294967296)] rfl tM ?_; (with_reducible refine (alu_quotientU.calls ((a1) % 4294967296) ((a2) % 4294967296) t291 t292 _ A7.out).mono ?_); rintro e w' ⟨rfl, ⟨nd, rfl⟩⟩; refine ⟨_, rfl, ?_⟩) | ((with_reducible refine gate_callee (f := 100) rfl ?_); refine goesL_ (some 35) rfl rfl Tryz.func100 (by kernel_rfl) rfl #[.int .i64 (wrap64 (a1 * a2))] rfl tM ?_; (with_reducible refine (alu_half.calls (wrap64 (a1 * a2)) t293 _ A9.out).mono ?_); rintro e w' ⟨rfl, ⟨nd, rfl⟩⟩; refine ⟨_, rfl, ?_⟩))
  go_ret
  exact ⟨tR, tD⟩
 rw [if_neg c8] at H
 have c8b0 := bF c8; have c8b1 := nT c8
 by_cases c10 : a0 = 59
 ·rw [if_pos c10] at H
  have c10b0 := bT c10; have c10b1 := nF c10
  clear c10
  obtain ⟨t294, A110, H⟩ := Option.bind_eq_some_iff.mp H
  try dsimp only at H
  have A11 := Aside0.mk A110; clear A110
  obtain rfl := Option.some.inj H
  go_enter Tryz.func76, Tryz.ntmps76
  go_wp2_with (first | ((with_reducible refine gate_callee (f := 100) rfl ?_); refine goesL_ (some 13) rfl rfl Tryz.func100 (by kernel_rfl) rfl #[.int .i64 a1] rfl tM ?_; (with_reducible refine (alu_half.calls a1 t287 _ A4.out).mono ?_); rintro e w' ⟨rfl, ⟨nd, rfl⟩⟩; refine ⟨_, rfl, ?_⟩) | ((with_reducible refine gate_callee (f := 100) rfl ?_); refine goesL_ (some 15) rfl rfl Tryz.func100 (by kernel_rfl) rfl #[.int .i64 a2] rfl tM ?_; (with_reducible refine (alu_half.calls a2 t288 _ A5.out).mono ?_); rintro e w' ⟨rfl, ⟨nd, rfl⟩⟩; refine ⟨_, rfl, ?_⟩) | ((with_reducible refine gate_callee (f := 101) rfl ?_); refine goesL_ (some 16) rfl rfl Tryz.func101 (by kernel_rfl) rfl #[.int .i64 t287, .int .i64 t288] rfl tM ?_; (with_reducible refine (alu_quotient.calls t287 t288 t289 t290 _ A6.out).mono ?_); rintro e w' ⟨rfl, ⟨nd, rfl⟩⟩; refine ⟨_, rfl, ?_⟩) | ((with_reducible refine gate_callee (f := 102) rfl ?_); refine goesL_ (some 26) rfl rfl Tryz.func102 (by kernel_rfl) rfl #[.int .u64 ((a1) % 4294967296), .int .u64 ((a2) % 4294967296)] rfl tM ?_; (with_reducible refine (alu_quotientU.calls ((a1) % 4294967296) ((a2) % 4294967296) t291 t292 _ A7.out).mono ?_); rintro e w' ⟨rfl, ⟨nd, rfl⟩⟩; refine ⟨_, rfl, ?_⟩) | ((with_reducible refine gate_callee (f := 100) rfl ?_); refine goesL_ (some 39) rfl rfl Tryz.func100 (by kernel_rfl) rfl #[.int .i64 t289] rfl tM ?_; (with_reducible refine (alu_half.calls t289 t294 _ A11.out).mono ?_); rintro e w' ⟨rfl, ⟨nd, rfl⟩⟩; refine ⟨_, rfl, ?_⟩))
  go_ret
  exact ⟨tR, tD⟩
 rw [if_neg c10] at H
 have c10b0 := bF c10; have c10b1 := nT c10
 by_cases c12 : a0 = 60
 ·rw [if_pos c12] at H
  have c12b0 := bT c12; have c12b1 := nF c12
  clear c12
  obtain ⟨t295, A130, H⟩ := Option.bind_eq_some_iff.mp H
  try dsimp only at H
  have A13 := Aside0.mk A130; clear A130
  obtain rfl := Option.some.inj H
  go_enter Tryz.func76, Tryz.ntmps76
  go_wp2_with (first | ((with_reducible refine gate_callee (f := 100) rfl ?_); refine goesL_ (some 13) rfl rfl Tryz.func100 (by kernel_rfl) rfl #[.int .i64 a1] rfl tM ?_; (with_reducible refine (alu_half.calls a1 t287 _ A4.out).mono ?_); rintro e w' ⟨rfl, ⟨nd, rfl⟩⟩; refine ⟨_, rfl, ?_⟩) | ((with_reducible refine gate_callee (f := 100) rfl ?_); refine goesL_ (some 15) rfl rfl Tryz.func100 (by kernel_rfl) rfl #[.int .i64 a2] rfl tM ?_; (with_reducible refine (alu_half.calls a2 t288 _ A5.out).mono ?_); rintro e w' ⟨rfl, ⟨nd, rfl⟩⟩; refine ⟨_, rfl, ?_⟩) | ((with_reducible refine gate_callee (f := 101) rfl ?_); refine goesL_ (some 16) rfl rfl Tryz.func101 (by kernel_rfl) rfl #[.int .i64 t287, .int .i64 t288] rfl tM ?_; (with_reducible refine (alu_quotient.calls t287 t288 t289 t290 _ A6.out).mono ?_); rintro e w' ⟨rfl, ⟨nd, rfl⟩⟩; refine ⟨_, rfl, ?_⟩) | ((with_reducible refine gate_callee (f := 102) rfl ?_); refine goesL_ (some 26) rfl rfl Tryz.func102 (by kernel_rfl) rfl #[.int .u64 ((a1) % 4294967296), .int .u64 ((a2) % 4294967296)] rfl tM ?_; (with_reducible refine (alu_quotientU.calls ((a1) % 4294967296) ((a2) % 4294967296) t291 t292 _ A7.out).mono ?_); rintro e w' ⟨rfl, ⟨nd, rfl⟩⟩; refine ⟨_, rfl, ?_⟩) | ((with_reducible refine gate_callee (f := 100) rfl ?_); refine goesL_ (some 43) rfl rfl Tryz.func100 (by kernel_rfl) rfl #[.int .i64 t291] rfl tM ?_; (with_reducible refine (alu_half.calls t291 t295 _ A13.out).mono ?_); rintro e w' ⟨rfl, ⟨nd, rfl⟩⟩; refine ⟨_, rfl, ?_⟩))
  go_ret
  exact ⟨tR, tD⟩
 rw [if_neg c12] at H
 have c12b0 := bF c12; have c12b1 := nT c12
 by_cases c14 : a0 = 61
 ·rw [if_pos c14] at H
  have c14b0 := bT c14; have c14b1 := nF c14
  clear c14
  obtain ⟨t296, A150, H⟩ := Option.bind_eq_some_iff.mp H
  try dsimp only at H
  have A15 := Aside0.mk A150; clear A150
  obtain rfl := Option.some.inj H
  go_enter Tryz.func76, Tryz.ntmps76
  go_wp2_with (first | ((with_reducible refine gate_callee (f := 100) rfl ?_); refine goesL_ (some 13) rfl rfl Tryz.func100 (by kernel_rfl) rfl #[.int .i64 a1] rfl tM ?_; (with_reducible refine (alu_half.calls a1 t287 _ A4.out).mono ?_); rintro e w' ⟨rfl, ⟨nd, rfl⟩⟩; refine ⟨_, rfl, ?_⟩) | ((with_reducible refine gate_callee (f := 100) rfl ?_); refine goesL_ (some 15) rfl rfl Tryz.func100 (by kernel_rfl) rfl #[.int .i64 a2] rfl tM ?_; (with_reducible refine (alu_half.calls a2 t288 _ A5.out).mono ?_); rintro e w' ⟨rfl, ⟨nd, rfl⟩⟩; refine ⟨_, rfl, ?_⟩) | ((with_reducible refine gate_callee (f := 101) rfl ?_); refine goesL_ (some 16) rfl rfl Tryz.func101 (by kernel_rfl) rfl #[.int .i64 t287, .int .i64 t288] rfl tM ?_; (with_reducible refine (alu_quotient.calls t287 t288 t289 t290 _ A6.out).mono ?_); rintro e w' ⟨rfl, ⟨nd, rfl⟩⟩; refine ⟨_, rfl, ?_⟩) | ((with_reducible refine gate_callee (f := 102) rfl ?_); refine goesL_ (some 26) rfl rfl Tryz.func102 (by kernel_rfl) rfl #[.int .u64 ((a1) % 4294967296), .int .u64 ((a2) % 4294967296)] rfl tM ?_; (with_reducible refine (alu_quotientU.calls ((a1) % 4294967296) ((a2) % 4294967296) t291 t292 _ A7.out).mono ?_); rintro e w' ⟨rfl, ⟨nd, rfl⟩⟩; refine ⟨_, rfl, ?_⟩) | ((with_reducible refine gate_callee (f := 100) rfl ?_); refine goesL_ (some 47) rfl rfl Tryz.func100 (by kernel_rfl) rfl #[.int .i64 t290] rfl tM ?_; (with_reducible refine (alu_half.calls t290 t296 _ A15.out).mono ?_); rintro e w' ⟨rfl, ⟨nd, rfl⟩⟩; refine ⟨_, rfl, ?_⟩))
  go_ret
  exact ⟨tR, tD⟩
 rw [if_neg c14] at H
 have c14b0 := bF c14; have c14b1 := nT c14
 obtain ⟨t297, A160, H⟩ := Option.bind_eq_some_iff.mp H
 try dsimp only at H
 have A16 := Aside0.mk A160; clear A160
 obtain rfl := Option.some.inj H
 go_enter Tryz.func76, Tryz.ntmps76
 go_wp2_with (first | ((with_reducible refine gate_callee (f := 100) rfl ?_); refine goesL_ (some 13) rfl rfl Tryz.func100 (by kernel_rfl) rfl #[.int .i64 a1] rfl tM ?_; (with_reducible refine (alu_half.calls a1 t287 _ A4.out).mono ?_); rintro e w' ⟨rfl, ⟨nd, rfl⟩⟩; refine ⟨_, rfl, ?_⟩) | ((with_reducible refine gate_callee (f := 100) rfl ?_); refine goesL_ (some 15) rfl rfl Tryz.func100 (by kernel_rfl) rfl #[.int .i64 a2] rfl tM ?_; (with_reducible refine (alu_half.calls a2 t288 _ A5.out).mono ?_); rintro e w' ⟨rfl, ⟨nd, rfl⟩⟩; refine ⟨_, rfl, ?_⟩) | ((with_reducible refine gate_callee (f := 101) rfl ?_); refine goesL_ (some 16) rfl rfl Tryz.func101 (by kernel_rfl) rfl #[.int .i64 t287, .int .i64 t288] rfl tM ?_; (with_reducible refine (alu_quotient.calls t287 t288 t289 t290 _ A6.out).mono ?_); rintro e w' ⟨rfl, ⟨nd, rfl⟩⟩; refine ⟨_, rfl, ?_⟩) | ((with_reducible refine gate_callee (f := 102) rfl ?_); refine goesL_ (some 26) rfl rfl Tryz.func102 (by kernel_rfl) rfl #[.int .u64 ((a1) % 4294967296), .int .u64 ((a2) % 4294967296)] rfl tM ?_; (with_reducible refine (alu_quotientU.calls ((a1) % 4294967296) ((a2) % 4294967296) t291 t292 _ A7.out).mono ?_); rintro e w' ⟨rfl, ⟨nd, rfl⟩⟩; refine ⟨_, rfl, ?_⟩) | ((with_reducible refine gate_callee (f := 100) rfl ?_); refine goesL_ (some 49) rfl rfl Tryz.func100 (by kernel_rfl) rfl #[.int .i64 t292] rfl tM ?_; (with_reducible refine (alu_half.calls t292 t297 _ A16.out).mono ?_); rintro e w' ⟨rfl, ⟨nd, rfl⟩⟩; refine ⟨_, rfl, ?_⟩))
 go_ret
 exact ⟨tR, tD⟩
def alu_Eval.j0 : Nat → Int → Int → Int → Bool → Option (Int × Bool)
 | 0, _, _, _, _ => none
 | k + 1, x0, x1, x2, x8 => if x8 = true then (some (0, false)) else (if x0 ≤ 30 then ((alu_plain.f k x0 x1 x2).bind fun t298 => (some (t298, true))) else (if x0 ≤ 34 then ((alu_short.f x0 x1 x2).bind fun t299 => (some (t299, true))) else (if x0 ≤ 44 then ((alu_plain.f k x0 x1 x2).bind fun t300 => (some (t300, true))) else (if x0 ≤ 49 then ((alu_short.f x0 x1 x2).bind fun t301 => (some (t301, true))) else (if x0 ≤ 57 then ((alu_times.f k x0 x1 x2).bind fun t302 => (some (t302, true))) else ((alu_shortTimes.f x0 x1 x2).bind fun t303 => (some (t303, true))))))))
def alu_Eval.f (k : Nat) (a0 : Int) (a1 : Int) (a2 : Int) : Option (Int × Bool) := if a0 < 22 then (alu_Eval.j0 k a0 a1 a2 true) else (alu_Eval.j0 k a0 a1 a2 (decide (a0 > 62)))
theorem alu_Eval.mono_l : ∀ k, (∀ y0 y1 y2 y3, LeO (alu_Eval.j0 k y0 y1 y2 y3) (alu_Eval.j0 (k + 1) y0 y1 y2 y3))
 | 0 => fun _ _ _ _ r h => by simp [alu_Eval.j0] at h
 | k + 1 => by
  have ih0 := alu_Eval.mono_l k
  intro y0 y1 y2 y3
  unfold alu_Eval.j0
  repeat' first
  | (with_reducible exact ih0 _ _ _ _)
  | (with_reducible exact alu_plain.mono _ _ _ _)
  | (with_reducible exact alu_times.mono _ _ _ _)
  | (with_reducible exact LeO.refl _)
  | (with_reducible exact LeO.none _)
  | (with_reducible refine LeO.ite ?_ ?_)
  | (with_reducible refine LeO.bind ?_ (fun _ => ?_))
  | exact ih0 _ _ _ _
  | exact alu_plain.mono _ _ _ _
  | exact alu_times.mono _ _ _ _
  | exact LeO.none _
  | refine LeO.ite ?_ ?_
  | refine LeO.bind ?_ (fun _ => ?_)
theorem alu_Eval.mono : ∀ a0 a1 a2 k, LeO (alu_Eval.f k a0 a1 a2) (alu_Eval.f (k + 1) a0 a1 a2) := by
 intro a0 a1 a2 k
 have ih0 := alu_Eval.mono_l k
 unfold alu_Eval.f
 repeat' first
   | (with_reducible exact ih0 _ _ _ _)
   | (with_reducible exact alu_plain.mono _ _ _ _)
   | (with_reducible exact alu_times.mono _ _ _ _)
   | (with_reducible exact LeO.refl _)
   | (with_reducible exact LeO.none _)
   | (with_reducible refine LeO.ite ?_ ?_)
   | (with_reducible refine LeO.bind ?_ (fun _ => ?_))
   | exact ih0 _ _ _ _
   | exact alu_plain.mono _ _ _ _
   | exact alu_times.mono _ _ _ _
   | exact LeO.none _
   | refine LeO.ite ?_ ?_
   | refine LeO.bind ?_ (fun _ => ?_)
set_option maxHeartbeats 8000000 in
set_option maxRecDepth 100000 in
theorem alu_Eval.calls (k : Nat) (a0 : Int) (a1 : Int) (a2 : Int) (r1 : Int) (r2 : Bool) (w : World) (h : alu_Eval.f k a0 a1 a2 = some (r1, r2)) :
  Calls Tryz.prog 56 #[.int .i64 a0, .int .i64 a1, .int .i64 a2] w fun e w' => e = .returned (.tuple #[.int .i64 r1, .bool r2]) ∧ Drawn0 w w' := by
 unfold alu_Eval.f at h; have H := h
 clear h
 have HC4 := Aside0.mk H
 clear H
 go_enter Tryz.func56, Tryz.ntmps56
 go_upto_region 1 with (fail)
 go_cut [8] (fun v8 wc => ∃ (kq : Nat) (x8_3 : Bool), v8 = .bool x8_3 ∧ Aside0 (alu_Eval.j0 kq a0 a1 a2 x8_3 = some (r1, r2)) ∧ Aside0 (kq ≤ k) ∧ Drawn0 w wc)
 case first =>
  have H := HC4.out
  clear HC4
  by_cases c5 : a0 < 22
  ·rw [if_pos c5] at H
   have c5b0 : decide (a0 < 22) = true := decide_eq_true c5
   clear c5
   (first | rw [c5b0] | (simp only [i64_w, i32_w]; rw [c5b0]) | skip)
   have H' := Aside0.mk H
   clear H
   go_wp2
   go_meet
   case rel => exact ⟨_, (true), tR, H', ⟨tO⟩, tD⟩
  rw [if_neg c5] at H
  have c5b0 : decide (a0 < 22) = false := decide_eq_false c5
  clear c5
  (first | rw [c5b0] | (simp only [i64_w, i32_w]; rw [c5b0]) | skip)
  have H' := Aside0.mk H
  clear H
  go_wp2
  go_meet
  case rel => exact ⟨_, (decide (a0 > 62)), tR, H', ⟨tO⟩, tD⟩
 case rest =>
  clear HC4
  (try clear p2); (try clear c5); (try clear c5b0)
  obtain ⟨kq, x8_3, rfl, HA, HJ3, ⟨mc3, rfl⟩⟩ := hcut
  cases kq with
  | zero => exact absurd HA.out (by simp [alu_Eval.j0])
  | succ kj3 =>
   have H := HA.out
   clear HA
   simp only [alu_Eval.j0] at H
   by_cases c6 : x8_3 = true
   ·subst c6
    rw [if_pos rfl] at H
    simp only [Option.some.injEq, Prod.mk.injEq] at H
    obtain ⟨rfl, rfl⟩ := H
    go_wp2
    go_ret2
    exact ⟨tR, tD⟩
   replace c6 := Bool.eq_false_iff.mpr c6
   subst c6
   rw [if_neg nX] at H
   by_cases c7 : a0 ≤ 30
   ·rw [if_pos c7] at H
    have c7b0 : decide (a0 ≤ 30) = true := decide_eq_true c7
    clear c7
    obtain ⟨t298, A80, H⟩ := Option.bind_eq_some_iff.mp H
    try dsimp only at H
    have A8 := Aside0.mk A80; clear A80
    simp only [Option.some.injEq, Prod.mk.injEq] at H
    obtain ⟨rfl, rfl⟩ := H
    go_wp2_with (first | ((with_reducible refine gate_callee (f := 73) rfl ?_); refine goesL_ (some 21) rfl rfl Tryz.func73 (by kernel_rfl) rfl #[.int .i64 a0, .int .i64 a1, .int .i64 a2] rfl tM ?_; (with_reducible refine (alu_plain.calls kj3 a0 a1 a2 t298 _ A8.out).mono ?_); rintro e w' ⟨rfl, ⟨nd, rfl⟩⟩; refine ⟨_, rfl, ?_⟩))
    go_ret2
    exact ⟨tR, tD⟩
   rw [if_neg c7] at H
   have c7b0 : decide (a0 ≤ 30) = false := decide_eq_false c7
   clear c7
   by_cases c9 : a0 ≤ 34
   ·rw [if_pos c9] at H
    have c9b0 : decide (a0 ≤ 34) = true := decide_eq_true c9
    clear c9
    obtain ⟨t299, A100, H⟩ := Option.bind_eq_some_iff.mp H
    try dsimp only at H
    have A10 := Aside0.mk A100; clear A100
    simp only [Option.some.injEq, Prod.mk.injEq] at H
    obtain ⟨rfl, rfl⟩ := H
    go_wp2_with (first | ((with_reducible refine gate_callee (f := 74) rfl ?_); refine goesL_ (some 28) rfl rfl Tryz.func74 (by kernel_rfl) rfl #[.int .i64 a0, .int .i64 a1, .int .i64 a2] rfl tM ?_; (with_reducible refine (alu_short.calls a0 a1 a2 t299 _ A10.out).mono ?_); rintro e w' ⟨rfl, ⟨nd, rfl⟩⟩; refine ⟨_, rfl, ?_⟩))
    go_ret2
    exact ⟨tR, tD⟩
   rw [if_neg c9] at H
   have c9b0 : decide (a0 ≤ 34) = false := decide_eq_false c9
   clear c9
   by_cases c11 : a0 ≤ 44
   ·rw [if_pos c11] at H
    have c11b0 : decide (a0 ≤ 44) = true := decide_eq_true c11
    clear c11
    obtain ⟨t300, A120, H⟩ := Option.bind_eq_some_iff.mp H
    try dsimp only at H
    have A12 := Aside0.mk A120; clear A120
    simp only [Option.some.injEq, Prod.mk.injEq] at H
    obtain ⟨rfl, rfl⟩ := H
    go_wp2_with (first | ((with_reducible refine gate_callee (f := 73) rfl ?_); refine goesL_ (some 35) rfl rfl Tryz.func73 (by kernel_rfl) rfl #[.int .i64 a0, .int .i64 a1, .int .i64 a2] rfl tM ?_; (with_reducible refine (alu_plain.calls kj3 a0 a1 a2 t300 _ A12.out).mono ?_); rintro e w' ⟨rfl, ⟨nd, rfl⟩⟩; refine ⟨_, rfl, ?_⟩))
    go_ret2
    exact ⟨tR, tD⟩
   rw [if_neg c11] at H
   have c11b0 : decide (a0 ≤ 44) = false := decide_eq_false c11
   clear c11
   by_cases c13 : a0 ≤ 49
   ·rw [if_pos c13] at H
    have c13b0 : decide (a0 ≤ 49) = true := decide_eq_true c13
    clear c13
    obtain ⟨t301, A140, H⟩ := Option.bind_eq_some_iff.mp H
    try dsimp only at H
    have A14 := Aside0.mk A140; clear A140
    simp only [Option.some.injEq, Prod.mk.injEq] at H
    obtain ⟨rfl, rfl⟩ := H
    go_wp2_with (first | ((with_reducible refine gate_callee (f := 74) rfl ?_); refine goesL_ (some 42) rfl rfl Tryz.func74 (by kernel_rfl) rfl #[.int .i64 a0, .int .i64 a1, .int .i64 a2] rfl tM ?_; (with_reducible refine (alu_short.calls a0 a1 a2 t301 _ A14.out).mono ?_); rintro e w' ⟨rfl, ⟨nd, rfl⟩⟩; refine ⟨_, rfl, ?_⟩))
    go_ret2
    exact ⟨tR, tD⟩
   rw [if_neg c13] at H
   have c13b0 : decide (a0 ≤ 49) = false := decide_eq_false c13
   clear c13
   by_cases c15 : a0 ≤ 57
   ·rw [if_pos c15] at H
    have c15b0 : decide (a0 ≤ 57) = true := decide_eq_true c15
    clear c15
    obtain ⟨t302, A160, H⟩ := Option.bind_eq_some_iff.mp H
    try dsimp only at H
    have A16 := Aside0.mk A160; clear A160
    simp only [Option.some.injEq, Prod.mk.injEq] at H
    obtain ⟨rfl, rfl⟩ := H
    go_wp2_with (first | ((with_reducible refine gate_callee (f := 75) rfl ?_); refine goesL_ (some 49) rfl rfl Tryz.func75 (by kernel_rfl) rfl #[.int .i64 a0, .int .i64 a1, .int .i64 a2] rfl tM ?_; (with_reducible refine (alu_times.calls kj3 a0 a1 a2 t302 _ A16.out).mono ?_); rintro e w' ⟨rfl, ⟨nd, rfl⟩⟩; refine ⟨_, rfl, ?_⟩))
    go_ret2
    exact ⟨tR, tD⟩
   rw [if_neg c15] at H
   have c15b0 : decide (a0 ≤ 57) = false := decide_eq_false c15
   clear c15
   obtain ⟨t303, A170, H⟩ := Option.bind_eq_some_iff.mp H
   try dsimp only at H
   have A17 := Aside0.mk A170; clear A170
   simp only [Option.some.injEq, Prod.mk.injEq] at H
   obtain ⟨rfl, rfl⟩ := H
   go_wp2_with (first | ((with_reducible refine gate_callee (f := 76) rfl ?_); refine goesL_ (some 53) rfl rfl Tryz.func76 (by kernel_rfl) rfl #[.int .i64 a0, .int .i64 a1, .int .i64 a2] rfl tM ?_; (with_reducible refine (alu_shortTimes.calls a0 a1 a2 t303 _ A17.out).mono ?_); rintro e w' ⟨rfl, ⟨nd, rfl⟩⟩; refine ⟨_, rfl, ?_⟩))
   go_ret2
   exact ⟨tR, tD⟩
def window_reckons.f (a0 : Int) : Option (Bool) := if a0 ≥ 22 then (some (decide (a0 ≤ 62))) else (some false)
set_option maxHeartbeats 8000000 in
set_option maxRecDepth 100000 in
theorem window_reckons.calls (a0 : Int) (r : Bool) (w : World) (h : window_reckons.f a0 = some r) :
  Calls Tryz.prog 32 #[.int .i64 a0] w fun e w' => e = .returned (.bool r) ∧ Drawn0 w w' := by
 have H : (if a0 ≥ 22 then (some (decide (a0 ≤ 62))) else (some false)) = some r := h
 clear h
 by_cases c2 : a0 ≥ 22
 ·rw [if_pos c2] at H
  have c2b0 : decide (22 ≤ a0) = true := decide_eq_true c2
  clear c2
  obtain rfl := Option.some.inj H
  go_enter Tryz.func32, Tryz.ntmps32
  go_wp2
  go_ret
  exact ⟨tR, tD⟩
 rw [if_neg c2] at H
 have c2b0 : decide (22 ≤ a0) = false := decide_eq_false c2
 clear c2
 obtain rfl := Option.some.inj H
 go_enter Tryz.func32, Tryz.ntmps32
 go_wp2
 go_ret
 exact ⟨tR, tD⟩
def window_reckon.f (k : Nat) (a0_0 : Int) (a0_1 : Int) (a0_2 : Int) (a0_3 : Int) (a0_4 : Int) (a0_5 : Bool) (a0_6 : Bool) (a1 : Int) (a2 : Int) : Option (Int) := (isa_Form.f k a0_0).bind fun t305 => (if t305 = 6 then ((alu_Eval.f k a0_0 a1 a2).bind fun bt306 => (some bt306.1)) else ((alu_Eval.f k a0_0 a1 a0_4).bind fun bt308 => (some bt308.1)))
set_option maxHeartbeats 8000000 in
set_option maxRecDepth 100000 in
theorem window_reckon.calls (k : Nat) (a0_0 : Int) (a0_1 : Int) (a0_2 : Int) (a0_3 : Int) (a0_4 : Int) (a0_5 : Bool) (a0_6 : Bool) (a1 : Int) (a2 : Int) (r : Int) (w : World) (hG : GOK w) (h : window_reckon.f k a0_0 a0_1 a0_2 a0_3 a0_4 a0_5 a0_6 a1 a2 = some r) :
  Calls Tryz.prog 33 #[.agg #[.int .i64 a0_0, .int .i64 a0_1, .int .i64 a0_2, .int .i64 a0_3, .int .i64 a0_4, .bool a0_5, .bool a0_6], .int .i64 a1, .int .i64 a2] w fun e w' => e = .returned (.int .i64 r) ∧ Below w.heap.size w w' := by
 have hu31 := Tryz.underlying31
 have HG := Aside0.mk hG
 clear hG
 have HB := Aside0.mk (Below.refl w.heap.size w)
 unfold window_reckon.f at h; have H := h
 clear h
 obtain ⟨t305, A40, H⟩ := Option.bind_eq_some_iff.mp H
 try dsimp only at H
 have A4 := Aside0.mk A40; clear A40
 by_cases c5 : t305 = 6
 ·rw [if_pos c5] at H
  have c5b0 := bT c5; have c5b1 := nF c5
  clear c5
  replace H := Option.bind_eq_some_iff.mp H
  obtain ⟨⟨t306, t307⟩, A60, H⟩ := H
  replace H : (some t306) = some r := H
  have A6 := Aside0.mk A60; clear A60
  obtain rfl := Option.some.inj H
  go_enter Tryz.func33, Tryz.ntmps33
  go_wp2_with (first | ((with_reducible refine gate_dst (N := 3) rfl ?_); refine box_event ?hg (N := 3) ?hd (cs := #[.int .i64 a0_0, .int .i64 a0_1, .int .i64 a0_2, .int .i64 a0_3, .int .i64 a0_4, .bool a0_5, .bool a0_6]) (t := 31) ?hr ?_; (case hd => rfl); (case hg => rfl); (case hr => first | (go_simp; done) | (go_simp; rfl)); intro gb304 hg w7 hbox hb; have n0_ := Aside0.mk (below_step tB hb); have n1_ := Aside0.mk (hbox); have n2_ := Aside0.mk ((by rw [hg]; exact (below_size tB) : w.heap.size ≤ gb304)); have n3_ := Aside0.mk ((by rw [hg]; exact (below_size tB) : w.heap.size ≤ gb304)); clear HB; have HB := n0_; have BK304 := n1_; have GW304 := n2_; have GE304 := n3_; clear n0_ n1_ n2_ n3_; clear hb hbox hg; have hcz8_0 : w7.cell? ⟨gb304, 0, none⟩ = some (.int .i64 a0_0) := (blk_cell BK304.out 0).trans rfl; have hcz8_1 : w7.cell? ⟨gb304, 1, none⟩ = some (.int .i64 a0_1) := (blk_cell BK304.out 1).trans rfl; have hcz8_2 : w7.cell? ⟨gb304, 2, none⟩ = some (.int .i64 a0_2) := (blk_cell BK304.out 2).trans rfl; have hcz8_3 : w7.cell? ⟨gb304, 3, none⟩ = some (.int .i64 a0_3) := (blk_cell BK304.out 3).trans rfl; have hcz8_4 : w7.cell? ⟨gb304, 4, none⟩ = some (.int .i64 a0_4) := (blk_cell BK304.out 4).trans rfl; have hcz8_5 : w7.cell? ⟨gb304, 5, none⟩ = some (.bool a0_5) := (blk_cell BK304.out 5).trans rfl; have hcz8_6 : w7.cell? ⟨gb304, 6, none⟩ = some (.bool a0_6) := (blk_cell BK304.out 6).trans rfl; have hfz8_0 := blk_frozen BK304.out 0; have hfz8_1 := blk_frozen BK304.out 1; have hfz8_2 := blk_frozen BK304.out 2; have hfz8_3 := blk_frozen BK304.out 3; have hfz8_4 := blk_frozen BK304.out 4; have hfz8_5 := blk_frozen BK304.out 5; have hfz8_6 := blk_frozen BK304.out 6) | ((with_reducible refine gate_callee (f := 55) rfl ?_); refine goesL_ (some 11) rfl rfl Tryz.func55 (by kernel_rfl) rfl #[.int .i64 a0_0] rfl tM ?_; (with_reducible refine (isa_Form.calls k a0_0 t305 _ ?side1 A4.out).mono ?_); (case side1 => exact GOK.below tC HG.out); rintro e w' ⟨rfl, ⟨nd, rfl⟩⟩; refine ⟨_, rfl, ?_⟩) | ((with_reducible refine gate_callee (f := 56) rfl ?_); refine goesL_ (some 20) rfl rfl Tryz.func56 (by kernel_rfl) rfl #[.int .i64 a0_0, .int .i64 a1, .int .i64 a2] rfl tM ?_; (with_reducible refine (alu_Eval.calls k a0_0 a1 a2 t306 t307 _ A6.out).mono ?_); rintro e w' ⟨rfl, ⟨nd, rfl⟩⟩; refine ⟨_, rfl, ?_⟩))
  go_ret
  exact ⟨tE, tC⟩
 rw [if_neg c5] at H
 have c5b0 := bF c5; have c5b1 := nT c5
 replace H := Option.bind_eq_some_iff.mp H
 obtain ⟨⟨t308, t309⟩, A90, H⟩ := H
 replace H : (some t308) = some r := H
 have A9 := Aside0.mk A90; clear A90
 obtain rfl := Option.some.inj H
 go_enter Tryz.func33, Tryz.ntmps33
 go_wp2_with (first | ((with_reducible refine gate_dst (N := 3) rfl ?_); refine box_event ?hg (N := 3) ?hd (cs := #[.int .i64 a0_0, .int .i64 a0_1, .int .i64 a0_2, .int .i64 a0_3, .int .i64 a0_4, .bool a0_5, .bool a0_6]) (t := 31) ?hr ?_; (case hd => rfl); (case hg => rfl); (case hr => first | (go_simp; done) | (go_simp; rfl)); intro gb304 hg w10 hbox hb; have n0_ := Aside0.mk (below_step tB hb); have n1_ := Aside0.mk (hbox); have n2_ := Aside0.mk ((by rw [hg]; exact (below_size tB) : w.heap.size ≤ gb304)); have n3_ := Aside0.mk ((by rw [hg]; exact (below_size tB) : w.heap.size ≤ gb304)); clear HB; have HB := n0_; have BK304 := n1_; have GW304 := n2_; have GE304 := n3_; clear n0_ n1_ n2_ n3_; clear hb hbox hg; have hcz11_0 : w10.cell? ⟨gb304, 0, none⟩ = some (.int .i64 a0_0) := (blk_cell BK304.out 0).trans rfl; have hcz11_1 : w10.cell? ⟨gb304, 1, none⟩ = some (.int .i64 a0_1) := (blk_cell BK304.out 1).trans rfl; have hcz11_2 : w10.cell? ⟨gb304, 2, none⟩ = some (.int .i64 a0_2) := (blk_cell BK304.out 2).trans rfl; have hcz11_3 : w10.cell? ⟨gb304, 3, none⟩ = some (.int .i64 a0_3) := (blk_cell BK304.out 3).trans rfl; have hcz11_4 : w10.cell? ⟨gb304, 4, none⟩ = some (.int .i64 a0_4) := (blk_cell BK304.out 4).trans rfl; have hcz11_5 : w10.cell? ⟨gb304, 5, none⟩ = some (.bool a0_5) := (blk_cell BK304.out 5).trans rfl; have hcz11_6 : w10.cell? ⟨gb304, 6, none⟩ = some (.bool a0_6) := (blk_cell BK304.out 6).trans rfl; have hfz11_0 := blk_frozen BK304.out 0; have hfz11_1 := blk_frozen BK304.out 1; have hfz11_2 := blk_frozen BK304.out 2; have hfz11_3 := blk_frozen BK304.out 3; have hfz11_4 := blk_frozen BK304.out 4; have hfz11_5 := blk_frozen BK304.out 5; have hfz11_6 := blk_frozen BK304.out 6) | ((with_reducible refine gate_callee (f := 55) rfl ?_); refine goesL_ (some 11) rfl rfl Tryz.func55 (by kernel_rfl) rfl #[.int .i64 a0_0] rfl tM ?_; (with_reducible refine (isa_Form.calls k a0_0 t305 _ ?side1 A4.out).mono ?_); (case side1 => exact GOK.below tC HG.out); rintro e w' ⟨rfl, ⟨nd, rfl⟩⟩; refine ⟨_, rfl, ?_⟩) | ((with_reducible refine gate_callee (f := 56) rfl ?_); refine goesL_ (some 20) rfl rfl Tryz.func56 (by kernel_rfl) rfl #[.int .i64 a0_0, .int .i64 a1, .int .i64 a0_4] rfl tM ?_; (with_reducible refine (alu_Eval.calls k a0_0 a1 a0_4 t308 t309 _ A9.out).mono ?_); rintro e w' ⟨rfl, ⟨nd, rfl⟩⟩; refine ⟨_, rfl, ?_⟩))
 go_ret
 exact ⟨tE, tC⟩
def spinnakerref03_letter.f (a0 : Int) : Option (Int) := if a0 < 1 then (some 0) else (if a0 > 87 then (some 0) else (if 0 ≤ (wrap64 (a0 - 1)) then (if (wrap64 (a0 - 1)) < 87 then (some (bt (⟨#[85, 85, 74, 73, 66, 66, 66, 66, 66, 66, 73, 73, 73, 73, 73, 73, 73, 83, 83, 83, 83, 73, 73, 73, 73, 73, 73, 72, 72, 72, 73, 87, 87, 87, 82, 82, 82, 82, 82, 82, 82, 82, 82, 82, 82, 82, 82, 82, 82, 82, 82, 82, 82, 82, 82, 82, 82, 82, 82, 82, 82, 82, 70, 78, 78, 76, 65, 65, 65, 65, 65, 65, 65, 65, 65, 65, 76, 65, 65, 65, 65, 65, 65, 65, 65, 65, 65]⟩ : ByteArray) (wrap64 (a0 - 1)))) else (none)) else (none)))
set_option maxHeartbeats 8000000 in
set_option maxRecDepth 100000 in
theorem spinnakerref03_letter.calls (a0 : Int) (r : Int) (w : World) (h : spinnakerref03_letter.f a0 = some r) :
  Calls Tryz.prog 13 #[.int .i64 a0] w fun e w' => e = .returned (.int .u8 r) ∧ Drawn0 w w' := by
 unfold spinnakerref03_letter.f at h; have H := h
 clear h
 by_cases c2 : a0 < 1
 ·rw [if_pos c2] at H
  have c2b0 : decide (a0 < 1) = true := decide_eq_true c2
  clear c2
  obtain rfl := Option.some.inj H
  go_enter Tryz.func13, Tryz.ntmps13
  go_wp2
  go_ret
  exact ⟨tR, tD⟩
 rw [if_neg c2] at H
 have c2b0 : decide (a0 < 1) = false := decide_eq_false c2
 clear c2
 by_cases c3 : a0 > 87
 ·rw [if_pos c3] at H
  have c3b0 : decide (87 < a0) = true := decide_eq_true c3
  clear c3
  obtain rfl := Option.some.inj H
  go_enter Tryz.func13, Tryz.ntmps13
  go_wp2
  go_ret
  exact ⟨tR, tD⟩
 rw [if_neg c3] at H
 have c3b0 : decide (87 < a0) = false := decide_eq_false c3
 clear c3
 obtain ⟨ji4, hji4⟩ : ∃ j_ : Int, (wrap64 (a0 - 1)) = j_ := ⟨_, rfl⟩
 replace H : (if 0 ≤ (ji4) then (if (ji4) < 87 then (some (bt (⟨#[85, 85, 74, 73, 66, 66, 66, 66, 66, 66, 73, 73, 73, 73, 73, 73, 73, 83, 83, 83, 83, 73, 73, 73, 73, 73, 73, 72, 72, 72, 73, 87, 87, 87, 82, 82, 82, 82, 82, 82, 82, 82, 82, 82, 82, 82, 82, 82, 82, 82, 82, 82, 82, 82, 82, 82, 82, 82, 82, 82, 82, 82, 70, 78, 78, 76, 65, 65, 65, 65, 65, 65, 65, 65, 65, 65, 76, 65, 65, 65, 65, 65, 65, 65, 65, 65, 65]⟩ : ByteArray) (ji4))) else (none)) else (none)) = some r := by first | (rw [hji4] at H; exact H) | (simp only [hji4] at H ⊢; exact H)
 have hji4w : (IntKind.i64.wrap (a0 - 1)) = ji4 := (i64_w _).trans hji4
 by_cases c5 : 0 ≤ (ji4)
 ·rw [if_pos c5] at H
  have c5b0 : decide (0 ≤ (ji4)) = true := decide_eq_true c5
  clear c5
  by_cases c6 : (ji4) < 87
  ·rw [if_pos c6] at H
   have c6b0 : decide ((ji4) < 87) = true := decide_eq_true c6
   clear c6
   obtain rfl := Option.some.inj H
   have p7 : 0 ≤ ((ji4) : Int) := of_decide_eq_true (by first | (with_reducible assumption) | assumption)
   have q7 : (ji4) < (87 : Int) := of_decide_eq_true (by first | (with_reducible assumption) | assumption)
   have hx7 := bt_at (⟨#[85, 85, 74, 73, 66, 66, 66, 66, 66, 66, 73, 73, 73, 73, 73, 73, 73, 83, 83, 83, 83, 73, 73, 73, 73, 73, 73, 72, 72, 72, 73, 87, 87, 87, 82, 82, 82, 82, 82, 82, 82, 82, 82, 82, 82, 82, 82, 82, 82, 82, 82, 82, 82, 82, 82, 82, 82, 82, 82, 82, 82, 82, 70, 78, 78, 76, 65, 65, 65, 65, 65, 65, 65, 65, 65, 65, 76, 65, 65, 65, 65, 65, 65, 65, 65, 65, 65]⟩ : ByteArray) (ji4)
   replace p7 := eq_true p7
   replace q7 := eq_true q7
   go_enter Tryz.func13, Tryz.ntmps13
   go_wp2
   go_ret
   exact ⟨by first | rfl | (simp; done) | (simp only [← hji4] <;> (first | rfl | simp)) | (simp [*]; done), tD⟩
  rw [if_neg c6] at H
  exact absurd H (by simp)
 rw [if_neg c5] at H
 exact absurd H (by simp)
end Go.Proofs.YtfcniikbcjmlcaaGreatDoor.QB
end
