/- Part KQB11 of the proof of spinnakerlaw19.WindowOrders: for every input the law returns true. -/
import Derived.Test.YtfcniikbcjmlcaaGreatDoorKQB10
import Derived.Test.YtfcniikbcjmlcaaGreatDoorPD
section
namespace Go.Proofs.YtfcniikbcjmlcaaGreatDoor.QB
open Go.RowKit Go.Proofs.YtfcniikbcjmlcaaGreatDoorW.PrintWords Go.Proofs.YtfcniikbcjmlcaaGreatDoorW.PrintLast Go.Proofs.YtfcniikbcjmlcaaGreatDoorW.PrintMore
attribute [local go_sem] max2_int min2_int max_two min_two max_three min_three max_four min_four   -- for this text's walks alone
set_option linter.unusedVariables false
set_option linter.unusedSimpArgs false
def spinnakerref03_register.f (a0 : Int) (a1 : Bool) : Option (Bool) := if a1 = true then (if a0 ≥ 0 then (some (decide (a0 ≤ 31))) else (some false)) else (some (a0 == 0))
set_option maxHeartbeats 8000000 in
set_option maxRecDepth 100000 in
theorem spinnakerref03_register.calls (a0 : Int) (a1 : Bool) (r : Bool) (w : World) (h : spinnakerref03_register.f a0 a1 = some r) :
  Calls Tryz.prog 14 #[.int .i64 a0, .bool a1] w fun e w' => e = .returned (.bool r) ∧ Drawn0 w w' := by
 unfold spinnakerref03_register.f at h; have H := h
 clear h
 by_cases c3 : a1 = true
 ·subst c3
  rw [if_pos rfl] at H
  by_cases c4 : a0 ≥ 0
  ·rw [if_pos c4] at H
   have c4b0 : decide (0 ≤ a0) = true := decide_eq_true c4
   clear c4
   obtain rfl := Option.some.inj H
   go_enter Tryz.func14, Tryz.ntmps14
   go_wp2
   go_ret
   exact ⟨tR, tD⟩
  rw [if_neg c4] at H
  have c4b0 : decide (0 ≤ a0) = false := decide_eq_false c4
  clear c4
  obtain rfl := Option.some.inj H
  go_enter Tryz.func14, Tryz.ntmps14
  go_wp2
  go_ret
  exact ⟨tR, tD⟩
 replace c3 := Bool.eq_false_iff.mpr c3
 subst c3
 rw [if_neg nX] at H
 obtain rfl := Option.some.inj H
 go_enter Tryz.func14, Tryz.ntmps14
 go_wp2
 go_ret
 exact ⟨tR, tD⟩
def spinnakerref03_has.l0 : Nat → Int → ByteArray → Int → Option (Bool)
 | 0, _, _, _ => none
 | k + 1, x0, x1, x5 => if x5 < (x1.size : Int) then ((spinnakerref03_letter.f x0).bind fun t310 => (if 0 ≤ x5 then (if t310 = (bt x1 x5) then (some true) else (spinnakerref03_has.l0 k x0 x1 (wrap64 (x5 + 1)))) else (none))) else (some false)
def spinnakerref03_has.f (k : Nat) (a0 : Int) (a1 : ByteArray) : Option (Bool) := spinnakerref03_has.l0 k a0 a1 0
set_option maxHeartbeats 8000000 in
set_option maxRecDepth 100000 in
theorem spinnakerref03_has.calls (k : Nat) (a0 : Int) (a1 : ByteArray) (r : Bool) (w : World) (h : spinnakerref03_has.f k a0 a1 = some r) :
  Calls Tryz.prog 19 #[.int .i64 a0, .string a1] w fun e w' => e = .returned (.bool r) ∧ Drawn0 w w' := by
 have H : (spinnakerref03_has.l0 k a0 a1 0) = some r := h
 clear h
 have H' := Aside0.mk H
 clear H
 go_enter Tryz.func19, Tryz.ntmps19
 go_wp2
 repeat (go_quiet (fail); try go_wp2)
 go_loopg [5] k (fun kq v5 w' => ∃ (x5_1 : Int), v5 = .int .i64 x5_1 ∧ Aside0 (spinnakerref03_has.l0 kq a0 a1 x5_1 = some r) ∧ Aside0 (kq ≤ k) ∧ Drawn0 w w')
 case atStart => exact ⟨(0), tR, H', ⟨Nat.le_refl _⟩, tD⟩
 case round =>
  clear H'
  (try clear c1); (try clear p2)
  obtain ⟨x5_1, rfl, HA, HK1, ⟨m1, rfl⟩⟩ := hrel
  cases gk with
  | zero => exact absurd HA.out (by simp [spinnakerref03_has.l0])
  | succ k1 =>
   have H := HA.out
   clear HA
   simp only [spinnakerref03_has.l0] at H
   by_cases c3 : x5_1 < (a1.size : Int)
   ·rw [if_pos c3] at H
    have c3b0 : decide (x5_1 < (a1.size : Int)) = true := decide_eq_true c3
    clear c3
    obtain ⟨t310, A40, H⟩ := Option.bind_eq_some_iff.mp H
    try dsimp only at H
    have A4 := Aside0.mk A40; clear A40
    by_cases c5 : 0 ≤ x5_1
    ·rw [if_pos c5] at H
     have c5b0 : decide (0 ≤ x5_1) = true := decide_eq_true c5
     clear c5
     by_cases c7 : t310 = (bt a1 x5_1)
     ·rw [if_pos c7] at H
      have c7b0 : (t310 == (bt a1 x5_1)) = true := beq_iff_eq.mpr c7
      have c7b1 : (t310 != (bt a1 x5_1)) = false := bne_eq_false_iff_eq.mpr c7
      clear c7
      obtain rfl := Option.some.inj H
      go_wp2_with (first | (go_at_call 13; (with_reducible refine (spinnakerref03_letter.calls a0 t310 _ A4.out).mono ?_); rintro e w' ⟨rfl, ⟨nd, rfl⟩⟩; (try first | exact ⟨rfl, _, World.drewN_drewN _ _ _⟩ | exact ⟨rfl, _, Eq.trans (World.drewN_drewN _ _ _) (congrArg (World.drewN _) (Nat.add_assoc _ _ _))⟩); have p6 : 0 ≤ (x5_1 : Int) := of_decide_eq_true (by first | (with_reducible assumption) | assumption); have q6 : x5_1 < (a1.size : Int) := of_decide_eq_true (by first | (with_reducible assumption) | assumption); have hx6 := bt_at a1 x5_1; replace p6 := eq_true p6; replace q6 := eq_true q6))
      repeat (go_quiet (first | (go_at_call 13; (with_reducible refine (spinnakerref03_letter.calls a0 t310 _ A4.out).mono ?_); rintro e w' ⟨rfl, ⟨nd, rfl⟩⟩; (try first | exact ⟨rfl, _, World.drewN_drewN _ _ _⟩ | exact ⟨rfl, _, Eq.trans (World.drewN_drewN _ _ _) (congrArg (World.drewN _) (Nat.add_assoc _ _ _))⟩); have p6 : 0 ≤ (x5_1 : Int) := of_decide_eq_true (by first | (with_reducible assumption) | assumption); have q6 : x5_1 < (a1.size : Int) := of_decide_eq_true (by first | (with_reducible assumption) | assumption); have hx6 := bt_at a1 x5_1; replace p6 := eq_true p6; replace q6 := eq_true q6)); try go_wp2_with (first | (go_at_call 13; (with_reducible refine (spinnakerref03_letter.calls a0 t310 _ A4.out).mono ?_); rintro e w' ⟨rfl, ⟨nd, rfl⟩⟩; (try first | exact ⟨rfl, _, World.drewN_drewN _ _ _⟩ | exact ⟨rfl, _, Eq.trans (World.drewN_drewN _ _ _) (congrArg (World.drewN _) (Nat.add_assoc _ _ _))⟩); have p6 : 0 ≤ (x5_1 : Int) := of_decide_eq_true (by first | (with_reducible assumption) | assumption); have q6 : x5_1 < (a1.size : Int) := of_decide_eq_true (by first | (with_reducible assumption) | assumption); have hx6 := bt_at a1 x5_1; replace p6 := eq_true p6; replace q6 := eq_true q6)))
      go_ret
      exact ⟨tR, tD⟩
     rw [if_neg c7] at H
     have c7b0 : (t310 == (bt a1 x5_1)) = false := beq_eq_false_iff_ne.mpr c7
     have c7b1 : (t310 != (bt a1 x5_1)) = true := bne_iff_ne.mpr c7
     have H' := Aside0.mk H
     clear H
     go_wp2_with (first | (go_at_call 13; (with_reducible refine (spinnakerref03_letter.calls a0 t310 _ A4.out).mono ?_); rintro e w' ⟨rfl, ⟨nd, rfl⟩⟩; (try first | exact ⟨rfl, _, World.drewN_drewN _ _ _⟩ | exact ⟨rfl, _, Eq.trans (World.drewN_drewN _ _ _) (congrArg (World.drewN _) (Nat.add_assoc _ _ _))⟩); have p6 : 0 ≤ (x5_1 : Int) := of_decide_eq_true (by first | (with_reducible assumption) | assumption); have q6 : x5_1 < (a1.size : Int) := of_decide_eq_true (by first | (with_reducible assumption) | assumption); have hx6 := bt_at a1 x5_1; replace p6 := eq_true p6; replace q6 := eq_true q6))
     repeat (go_quiet (first | (go_at_call 13; (with_reducible refine (spinnakerref03_letter.calls a0 t310 _ A4.out).mono ?_); rintro e w' ⟨rfl, ⟨nd, rfl⟩⟩; (try first | exact ⟨rfl, _, World.drewN_drewN _ _ _⟩ | exact ⟨rfl, _, Eq.trans (World.drewN_drewN _ _ _) (congrArg (World.drewN _) (Nat.add_assoc _ _ _))⟩); have p6 : 0 ≤ (x5_1 : Int) := of_decide_eq_true (by first | (with_reducible assumption) | assumption); have q6 : x5_1 < (a1.size : Int) := of_decide_eq_true (by first | (with_reducible assumption) | assumption); have hx6 := bt_at a1 x5_1; replace p6 := eq_true p6; replace q6 := eq_true q6)); try go_wp2_with (first | (go_at_call 13; (with_reducible refine (spinnakerref03_letter.calls a0 t310 _ A4.out).mono ?_); rintro e w' ⟨rfl, ⟨nd, rfl⟩⟩; (try first | exact ⟨rfl, _, World.drewN_drewN _ _ _⟩ | exact ⟨rfl, _, Eq.trans (World.drewN_drewN _ _ _) (congrArg (World.drewN _) (Nat.add_assoc _ _ _))⟩); have p6 : 0 ≤ (x5_1 : Int) := of_decide_eq_true (by first | (with_reducible assumption) | assumption); have q6 : x5_1 < (a1.size : Int) := of_decide_eq_true (by first | (with_reducible assumption) | assumption); have hx6 := bt_at a1 x5_1; replace p6 := eq_true p6; replace q6 := eq_true q6)))
     go_roundg k1
     case measure => have := HK1.out; omega
     case rel => exact ⟨(wrap64 (x5_1 + 1)), tR, H', ⟨by have := HK1.out; omega⟩, tD⟩
    rw [if_neg c5] at H
    exact absurd H (by simp)
   rw [if_neg c3] at H
   have c3b0 : decide (x5_1 < (a1.size : Int)) = false := decide_eq_false c3
   clear c3
   obtain rfl := Option.some.inj H
   go_wp2
   repeat (go_quiet (fail); try go_wp2)
   go_ret
   exact ⟨tR, tD⟩
def spinnakerref03_HasRd.f (k : Nat) (a0 : Int) : Option (Bool) := (spinnakerref03_has.f k a0 (⟨#[85, 74, 73, 82, 72, 87, 76, 65]⟩ : ByteArray)).bind fun t311 => (some t311)
set_option maxHeartbeats 8000000 in
set_option maxRecDepth 100000 in
theorem spinnakerref03_HasRd.calls (k : Nat) (a0 : Int) (r : Bool) (w : World) (h : spinnakerref03_HasRd.f k a0 = some r) :
  Calls Tryz.prog 15 #[.int .i64 a0] w fun e w' => e = .returned (.bool r) ∧ Drawn0 w w' := by
 unfold spinnakerref03_HasRd.f at h; have H := h
 clear h
 obtain ⟨t311, A20, H⟩ := Option.bind_eq_some_iff.mp H
 try dsimp only at H
 have A2 := Aside0.mk A20; clear A20
 obtain rfl := Option.some.inj H
 go_enter Tryz.func15, Tryz.ntmps15
 go_wp2_with (first | ((with_reducible refine gate_callee (f := 19) rfl ?_); refine goesL_ (some 4) rfl rfl Tryz.func19 (by kernel_rfl) rfl #[.int .i64 a0, .string (⟨#[85, 74, 73, 82, 72, 87, 76, 65]⟩ : ByteArray)] rfl tM ?_; (with_reducible refine (spinnakerref03_has.calls k a0 (⟨#[85, 74, 73, 82, 72, 87, 76, 65]⟩ : ByteArray) t311 _ A2.out).mono ?_); rintro e w' ⟨rfl, ⟨nd, rfl⟩⟩; refine ⟨_, rfl, ?_⟩))
 go_ret
 exact ⟨tR, tD⟩
def spinnakerref03_HasA.f (k : Nat) (a0 : Int) : Option (Bool) := (spinnakerref03_has.f k a0 (⟨#[73, 66, 83, 82, 72, 87, 76, 65]⟩ : ByteArray)).bind fun t312 => (some t312)
set_option maxHeartbeats 8000000 in
set_option maxRecDepth 100000 in
theorem spinnakerref03_HasA.calls (k : Nat) (a0 : Int) (r : Bool) (w : World) (h : spinnakerref03_HasA.f k a0 = some r) :
  Calls Tryz.prog 16 #[.int .i64 a0] w fun e w' => e = .returned (.bool r) ∧ Drawn0 w w' := by
 unfold spinnakerref03_HasA.f at h; have H := h
 clear h
 obtain ⟨t312, A20, H⟩ := Option.bind_eq_some_iff.mp H
 try dsimp only at H
 have A2 := Aside0.mk A20; clear A20
 obtain rfl := Option.some.inj H
 go_enter Tryz.func16, Tryz.ntmps16
 go_wp2_with (first | ((with_reducible refine gate_callee (f := 19) rfl ?_); refine goesL_ (some 4) rfl rfl Tryz.func19 (by kernel_rfl) rfl #[.int .i64 a0, .string (⟨#[73, 66, 83, 82, 72, 87, 76, 65]⟩ : ByteArray)] rfl tM ?_; (with_reducible refine (spinnakerref03_has.calls k a0 (⟨#[73, 66, 83, 82, 72, 87, 76, 65]⟩ : ByteArray) t312 _ A2.out).mono ?_); rintro e w' ⟨rfl, ⟨nd, rfl⟩⟩; refine ⟨_, rfl, ?_⟩))
 go_ret
 exact ⟨tR, tD⟩
def spinnakerref03_HasB.f (k : Nat) (a0 : Int) : Option (Bool) := (spinnakerref03_has.f k a0 (⟨#[66, 83, 82, 65]⟩ : ByteArray)).bind fun t313 => (some t313)
set_option maxHeartbeats 8000000 in
set_option maxRecDepth 100000 in
theorem spinnakerref03_HasB.calls (k : Nat) (a0 : Int) (r : Bool) (w : World) (h : spinnakerref03_HasB.f k a0 = some r) :
  Calls Tryz.prog 17 #[.int .i64 a0] w fun e w' => e = .returned (.bool r) ∧ Drawn0 w w' := by
 unfold spinnakerref03_HasB.f at h; have H := h
 clear h
 obtain ⟨t313, A20, H⟩ := Option.bind_eq_some_iff.mp H
 try dsimp only at H
 have A2 := Aside0.mk A20; clear A20
 obtain rfl := Option.some.inj H
 go_enter Tryz.func17, Tryz.ntmps17
 go_wp2_with (first | ((with_reducible refine gate_callee (f := 19) rfl ?_); refine goesL_ (some 4) rfl rfl Tryz.func19 (by kernel_rfl) rfl #[.int .i64 a0, .string (⟨#[66, 83, 82, 65]⟩ : ByteArray)] rfl tM ?_; (with_reducible refine (spinnakerref03_has.calls k a0 (⟨#[66, 83, 82, 65]⟩ : ByteArray) t313 _ A2.out).mono ?_); rintro e w' ⟨rfl, ⟨nd, rfl⟩⟩; refine ⟨_, rfl, ?_⟩))
 go_ret
 exact ⟨tR, tD⟩
def spinnakerref01_Power.l0 : Nat → Int → Int → Int → Option (Int)
 | 0, _, _, _ => none
 | k + 1, x0, x3, x4 => if x4 < x0 then (spinnakerref01_Power.l0 k x0 (IntKind.u64.wrap (2 * x3)) (wrap64 (x4 + 1))) else (some x3)
def spinnakerref01_Power.f (k : Nat) (a0 : Int) : Option (Int) := spinnakerref01_Power.l0 k a0 1 0
set_option maxHeartbeats 8000000 in
set_option maxRecDepth 100000 in
theorem spinnakerref01_Power.calls (k : Nat) (a0 : Int) (r : Int) (w : World) (h : spinnakerref01_Power.f k a0 = some r) :
  Calls Tryz.prog 46 #[.int .i64 a0] w fun e w' => e = .returned (.int .u64 r) ∧ Drawn0 w w' := by
 have H : (spinnakerref01_Power.l0 k a0 1 0) = some r := h
 clear h
 have H' := Aside0.mk H
 clear H
 go_enter Tryz.func46, Tryz.ntmps46
 go_wp2
 go_loopg [3, 4] k (fun kq v3 v4 w' => ∃ (x3_1 : Int) (x4_1 : Int), v3 = .int .u64 x3_1 ∧ v4 = .int .i64 x4_1 ∧ Aside0 (spinnakerref01_Power.l0 kq a0 x3_1 x4_1 = some r) ∧ Aside0 (kq ≤ k) ∧ Drawn0 w w')
 case atStart => exact ⟨(1), (0), tR, tR, H', ⟨Nat.le_refl _⟩, tD⟩
 case round =>
  clear H'
  obtain ⟨x3_1, x4_1, rfl, rfl, HA, HK1, ⟨m1, rfl⟩⟩ := hrel
  cases gk with
  | zero => exact absurd HA.out (by simp [spinnakerref01_Power.l0])
  | succ k1 =>
   have H := HA.out
   clear HA
   simp only [spinnakerref01_Power.l0] at H
   by_cases c2 : x4_1 < a0
   ·rw [if_pos c2] at H
    have c2b0 : decide (x4_1 < a0) = true := decide_eq_true c2
    clear c2
    have H' := Aside0.mk H
    clear H
    go_wp2
    go_roundg k1
    case measure => have := HK1.out; omega
    case rel => exact ⟨(IntKind.u64.wrap (2 * x3_1)), (wrap64 (x4_1 + 1)), tR, tR, H', ⟨by have := HK1.out; omega⟩, tD⟩
   rw [if_neg c2] at H
   have c2b0 : decide (x4_1 < a0) = false := decide_eq_false c2
   clear c2
   obtain rfl := Option.some.inj H
   go_wp2
   go_ret
   exact ⟨tR, tD⟩
def spinnakerref01_Fits.j0 : Nat → Int → Int → Bool → Option (Bool)
 | 0, _, _, _ => none
 | k + 1, x0, x1, x11 => if x11 = true then (some false) else (if x1 = 64 then (some true) else ((spinnakerref01_Power.f k (wrap64 (x1 - 1))).bind fun t314 => (if x0 ≥ (wrap64 (-(wrap64 (t314)))) then (some (decide (x0 ≤ (wrap64 ((wrap64 (t314)) - 1))))) else (some false))))
def spinnakerref01_Fits.f (k : Nat) (a0 : Int) (a1 : Int) : Option (Bool) := if a1 < 1 then (spinnakerref01_Fits.j0 k a0 a1 true) else (spinnakerref01_Fits.j0 k a0 a1 (decide (a1 > 64)))
set_option maxHeartbeats 8000000 in
set_option maxRecDepth 100000 in
theorem spinnakerref01_Fits.calls (k : Nat) (a0 : Int) (a1 : Int) (r : Bool) (w : World) (h : spinnakerref01_Fits.f k a0 a1 = some r) :
  Calls Tryz.prog 43 #[.int .i64 a0, .int .i64 a1] w fun e w' => e = .returned (.bool r) ∧ Drawn0 w w' := by
 unfold spinnakerref01_Fits.f at h; have H := h
 clear h
 have HC3 := Aside0.mk H
 clear H
 go_enter Tryz.func43, Tryz.ntmps43
 go_upto_region 1 with (fail)
 go_cut [11] (fun v11 wc => ∃ (kq : Nat) (x11_2 : Bool), v11 = .bool x11_2 ∧ Aside0 (spinnakerref01_Fits.j0 kq a0 a1 x11_2 = some r) ∧ Aside0 (kq ≤ k) ∧ Drawn0 w wc)
 case first =>
  have H := HC3.out
  clear HC3
  by_cases c4 : a1 < 1
  ·rw [if_pos c4] at H
   have c4b0 : decide (a1 < 1) = true := decide_eq_true c4
   clear c4
   (first | rw [c4b0] | (simp only [i64_w, i32_w]; rw [c4b0]) | skip)
   have H' := Aside0.mk H
   clear H
   go_wp2
   go_meet
   case rel => exact ⟨_, (true), tR, H', ⟨tO⟩, tD⟩
  rw [if_neg c4] at H
  have c4b0 : decide (a1 < 1) = false := decide_eq_false c4
  clear c4
  (first | rw [c4b0] | (simp only [i64_w, i32_w]; rw [c4b0]) | skip)
  have H' := Aside0.mk H
  clear H
  go_wp2
  go_meet
  case rel => exact ⟨_, (decide (a1 > 64)), tR, H', ⟨tO⟩, tD⟩
 case rest =>
  clear HC3
  (try clear p2); (try clear c4); (try clear c4b0)
  obtain ⟨kq, x11_2, rfl, HA, HJ2, ⟨mc2, rfl⟩⟩ := hcut
  cases kq with
  | zero => exact absurd HA.out (by simp [spinnakerref01_Fits.j0])
  | succ kj2 =>
   have H := HA.out
   clear HA
   simp only [spinnakerref01_Fits.j0] at H
   by_cases c5 : x11_2 = true
   ·subst c5
    rw [if_pos rfl] at H
    obtain rfl := Option.some.inj H
    go_wp2
    go_ret
    exact ⟨tR, tD⟩
   replace c5 := Bool.eq_false_iff.mpr c5
   subst c5
   rw [if_neg nX] at H
   by_cases c6 : a1 = 64
   ·rw [if_pos c6] at H
    have c6b0 := bT c6; have c6b1 := nF c6
    clear c6
    obtain rfl := Option.some.inj H
    go_wp2
    go_ret
    exact ⟨tR, tD⟩
   rw [if_neg c6] at H
   have c6b0 := bF c6; have c6b1 := nT c6
   obtain ⟨t314, A70, H⟩ := Option.bind_eq_some_iff.mp H
   try dsimp only at H
   have A7 := Aside0.mk A70; clear A70
   by_cases c8 : a0 ≥ (wrap64 (-(wrap64 (t314))))
   ·rw [if_pos c8] at H
    have c8b0 : decide ((wrap64 (-(wrap64 (t314)))) ≤ a0) = true := decide_eq_true c8
    clear c8
    obtain rfl := Option.some.inj H
    go_wp2_with (first | ((with_reducible refine gate_callee (f := 46) rfl ?_); refine goesL_ (some 16) rfl rfl Tryz.func46 (by kernel_rfl) rfl #[.int .i64 (wrap64 (a1 - 1))] rfl tM ?_; (with_reducible refine (spinnakerref01_Power.calls kj2 (wrap64 (a1 - 1)) t314 _ A7.out).mono ?_); rintro e w' ⟨rfl, ⟨nd, rfl⟩⟩; refine ⟨_, rfl, ?_⟩))
    go_ret
    exact ⟨tR, tD⟩
   rw [if_neg c8] at H
   have c8b0 : decide ((wrap64 (-(wrap64 (t314)))) ≤ a0) = false := decide_eq_false c8
   clear c8
   obtain rfl := Option.some.inj H
   go_wp2_with (first | ((with_reducible refine gate_callee (f := 46) rfl ?_); refine goesL_ (some 16) rfl rfl Tryz.func46 (by kernel_rfl) rfl #[.int .i64 (wrap64 (a1 - 1))] rfl tM ?_; (with_reducible refine (spinnakerref01_Power.calls kj2 (wrap64 (a1 - 1)) t314 _ A7.out).mono ?_); rintro e w' ⟨rfl, ⟨nd, rfl⟩⟩; refine ⟨_, rfl, ?_⟩))
   go_ret
   exact ⟨tR, tD⟩
def spinnakerref03_immediate.j0 : Nat → Int → Int → Bool → Option (Bool)
 | 0, _, _, _ => none
 | k + 1, x1, x6, x37 => if x37 = true then (if x1 ≥ (-2048) then (some (decide (x1 ≤ 2047))) else (some false)) else (if x6 = 72 then (if x1 ≥ 0 then (some (decide (x1 ≤ 63))) else (some false)) else (if x6 = 87 then (if x1 ≥ 0 then (some (decide (x1 ≤ 31))) else (some false)) else (if x6 = 70 then (if x1 ≥ 0 then (some (decide (x1 ≤ 255))) else (some false)) else (some (x1 == 0)))))
def spinnakerref03_immediate.f (k : Nat) (a0 : Int) (a1 : Int) : Option (Bool) := (spinnakerref03_letter.f a0).bind fun t315 => (if t315 = 85 then (if a1 ≥ (-524288) then (some (decide (a1 ≤ 524287))) else (some false)) else (if t315 = 74 then ((spinnakerref01_Fits.f k a1 21).bind fun t316 => (if t316 = true then (some ((Int.tmod a1 2) == 0)) else (some false))) else (if t315 = 66 then (if a1 ≥ (-4096) then (if a1 ≤ 4094 then (some ((Int.tmod a1 2) == 0)) else (some false)) else (some false)) else (if t315 = 73 then (spinnakerref03_immediate.j0 k a1 t315 (t315 == 73)) else (spinnakerref03_immediate.j0 k a1 t315 (t315 == 83))))))
set_option maxHeartbeats 8000000 in
set_option maxRecDepth 100000 in
theorem spinnakerref03_immediate.calls (k : Nat) (a0 : Int) (a1 : Int) (r : Bool) (w : World) (h : spinnakerref03_immediate.f k a0 a1 = some r) :
  Calls Tryz.prog 18 #[.int .i64 a0, .int .i64 a1] w fun e w' => e = .returned (.bool r) ∧ Drawn0 w w' := by
 unfold spinnakerref03_immediate.f at h; have H := h
 clear h
 obtain ⟨t315, A30, H⟩ := Option.bind_eq_some_iff.mp H
 try dsimp only at H
 have A3 := Aside0.mk A30; clear A30
 by_cases c4 : t315 = 85
 ·rw [if_pos c4] at H
  have c4b0 := bT c4; have c4b1 := nF c4
  clear c4
  by_cases c5 : a1 ≥ (-524288)
  ·rw [if_pos c5] at H
   have c5b0 : decide ((-524288) ≤ a1) = true := decide_eq_true c5
   clear c5
   obtain rfl := Option.some.inj H
   go_enter Tryz.func18, Tryz.ntmps18
   go_wp2_with (first | ((with_reducible refine gate_callee (f := 13) rfl ?_); refine goesL_ (some 6) rfl rfl Tryz.func13 (by kernel_rfl) rfl #[.int .i64 a0] rfl tM ?_; (with_reducible refine (spinnakerref03_letter.calls a0 t315 _ A3.out).mono ?_); rintro e w' ⟨rfl, ⟨nd, rfl⟩⟩; refine ⟨_, rfl, ?_⟩))
   go_ret
   exact ⟨tR, tD⟩
  rw [if_neg c5] at H
  have c5b0 : decide ((-524288) ≤ a1) = false := decide_eq_false c5
  clear c5
  obtain rfl := Option.some.inj H
  go_enter Tryz.func18, Tryz.ntmps18
  go_wp2_with (first | ((with_reducible refine gate_callee (f := 13) rfl ?_); refine goesL_ (some 6) rfl rfl Tryz.func13 (by kernel_rfl) rfl #[.int .i64 a0] rfl tM ?_; (with_reducible refine (spinnakerref03_letter.calls a0 t315 _ A3.out).mono ?_); rintro e w' ⟨rfl, ⟨nd, rfl⟩⟩; refine ⟨_, rfl, ?_⟩))
  go_ret
  exact ⟨tR, tD⟩
 rw [if_neg c4] at H
 have c4b0 := bF c4; have c4b1 := nT c4
 by_cases c6 : t315 = 74
 ·rw [if_pos c6] at H
  have c6b0 := bT c6; have c6b1 := nF c6
  clear c6
  obtain ⟨t316, A70, H⟩ := Option.bind_eq_some_iff.mp H
  try dsimp only at H
  have A7 := Aside0.mk A70; clear A70
  by_cases c8 : t316 = true
  ·subst c8
   rw [if_pos rfl] at H
   obtain rfl := Option.some.inj H
   go_enter Tryz.func18, Tryz.ntmps18
   go_wp2_with (first | ((with_reducible refine gate_callee (f := 13) rfl ?_); refine goesL_ (some 6) rfl rfl Tryz.func13 (by kernel_rfl) rfl #[.int .i64 a0] rfl tM ?_; (with_reducible refine (spinnakerref03_letter.calls a0 t315 _ A3.out).mono ?_); rintro e w' ⟨rfl, ⟨nd, rfl⟩⟩; refine ⟨_, rfl, ?_⟩) | ((with_reducible refine gate_callee (f := 43) rfl ?_); refine goesL_ (some 18) rfl rfl Tryz.func43 (by kernel_rfl) rfl #[.int .i64 a1, .int .i64 21] rfl tM ?_; (with_reducible refine (spinnakerref01_Fits.calls k a1 21 true _ A7.out).mono ?_); rintro e w' ⟨rfl, ⟨nd, rfl⟩⟩; refine ⟨_, rfl, ?_⟩))
   go_ret
   exact ⟨tR, tD⟩
  replace c8 := Bool.eq_false_iff.mpr c8
  subst c8
  rw [if_neg nX] at H
  obtain rfl := Option.some.inj H
  go_enter Tryz.func18, Tryz.ntmps18
  go_wp2_with (first | ((with_reducible refine gate_callee (f := 13) rfl ?_); refine goesL_ (some 6) rfl rfl Tryz.func13 (by kernel_rfl) rfl #[.int .i64 a0] rfl tM ?_; (with_reducible refine (spinnakerref03_letter.calls a0 t315 _ A3.out).mono ?_); rintro e w' ⟨rfl, ⟨nd, rfl⟩⟩; refine ⟨_, rfl, ?_⟩) | ((with_reducible refine gate_callee (f := 43) rfl ?_); refine goesL_ (some 18) rfl rfl Tryz.func43 (by kernel_rfl) rfl #[.int .i64 a1, .int .i64 21] rfl tM ?_; (with_reducible refine (spinnakerref01_Fits.calls k a1 21 false _ A7.out).mono ?_); rintro e w' ⟨rfl, ⟨nd, rfl⟩⟩; refine ⟨_, rfl, ?_⟩))
  go_ret
  exact ⟨tR, tD⟩
 rw [if_neg c6] at H
 have c6b0 := bF c6; have c6b1 := nT c6
 by_cases c9 : t315 = 66
 ·rw [if_pos c9] at H
  have c9b0 := bT c9; have c9b1 := nF c9
  clear c9
  by_cases c10 : a1 ≥ (-4096)
  ·rw [if_pos c10] at H
   have c10b0 : decide ((-4096) ≤ a1) = true := decide_eq_true c10
   clear c10
   by_cases c11 : a1 ≤ 4094
   ·rw [if_pos c11] at H
    have c11b0 : decide (a1 ≤ 4094) = true := decide_eq_true c11
    clear c11
    obtain rfl := Option.some.inj H
    go_enter Tryz.func18, Tryz.ntmps18
    go_wp2_with (first | ((with_reducible refine gate_callee (f := 13) rfl ?_); refine goesL_ (some 6) rfl rfl Tryz.func13 (by kernel_rfl) rfl #[.int .i64 a0] rfl tM ?_; (with_reducible refine (spinnakerref03_letter.calls a0 t315 _ A3.out).mono ?_); rintro e w' ⟨rfl, ⟨nd, rfl⟩⟩; refine ⟨_, rfl, ?_⟩))
    go_ret
    exact ⟨tR, tD⟩
   rw [if_neg c11] at H
   have c11b0 : decide (a1 ≤ 4094) = false := decide_eq_false c11
   clear c11
   obtain rfl := Option.some.inj H
   go_enter Tryz.func18, Tryz.ntmps18
   go_wp2_with (first | ((with_reducible refine gate_callee (f := 13) rfl ?_); refine goesL_ (some 6) rfl rfl Tryz.func13 (by kernel_rfl) rfl #[.int .i64 a0] rfl tM ?_; (with_reducible refine (spinnakerref03_letter.calls a0 t315 _ A3.out).mono ?_); rintro e w' ⟨rfl, ⟨nd, rfl⟩⟩; refine ⟨_, rfl, ?_⟩))
   go_ret
   exact ⟨tR, tD⟩
  rw [if_neg c10] at H
  have c10b0 : decide ((-4096) ≤ a1) = false := decide_eq_false c10
  clear c10
  obtain rfl := Option.some.inj H
  go_enter Tryz.func18, Tryz.ntmps18
  go_wp2_with (first | ((with_reducible refine gate_callee (f := 13) rfl ?_); refine goesL_ (some 6) rfl rfl Tryz.func13 (by kernel_rfl) rfl #[.int .i64 a0] rfl tM ?_; (with_reducible refine (spinnakerref03_letter.calls a0 t315 _ A3.out).mono ?_); rintro e w' ⟨rfl, ⟨nd, rfl⟩⟩; refine ⟨_, rfl, ?_⟩))
  go_ret
  exact ⟨tR, tD⟩
 rw [if_neg c9] at H
 have c9b0 := bF c9; have c9b1 := nT c9
 have HC12 := Aside0.mk H
 clear H
 go_enter Tryz.func18, Tryz.ntmps18
 go_upto_if 37 with (first | ((with_reducible refine gate_callee (f := 13) rfl ?_); refine goesL_ (some 6) rfl rfl Tryz.func13 (by kernel_rfl) rfl #[.int .i64 a0] rfl tM ?_; (with_reducible refine (spinnakerref03_letter.calls a0 t315 _ A3.out).mono ?_); rintro e w' ⟨rfl, ⟨nd, rfl⟩⟩; refine ⟨_, rfl, ?_⟩))
 (try simp only [Act.put, sS])
 go_cut [37] (fun v37 wc => ∃ (kq : Nat) (x37_11 : Bool), v37 = .bool x37_11 ∧ Aside0 (spinnakerref03_immediate.j0 kq a1 t315 x37_11 = some r) ∧ Aside0 (kq ≤ k) ∧ Drawn0 w wc)
 case first =>
  have H := HC12.out
  clear HC12
  by_cases c13 : t315 = 73
  ·rw [if_pos c13] at H
   have c13b0 := bT c13; have c13b1 := nF c13
   clear c13
   (first | rw [c13b0] | (simp only [i64_w, i32_w]; rw [c13b0]) | skip)
   have H' := Aside0.mk H
   clear H
   go_wp2
   go_meet
   case rel => exact ⟨_, ((t315 == 73)), tR, H', ⟨tO⟩, tD⟩
  rw [if_neg c13] at H
  have c13b0 := bF c13; have c13b1 := nT c13
  (first | rw [c13b0] | (simp only [i64_w, i32_w]; rw [c13b0]) | skip)
  have H' := Aside0.mk H
  clear H
  go_wp2
  go_meet
  case rel => exact ⟨_, ((t315 == 83)), tR, H', ⟨tO⟩, tD⟩
 case rest =>
  clear HC12
  (try clear c1); (try clear p2); (try clear c4); (try clear c5); (try clear c6); (try clear c8); (try clear c9); (try clear c10); (try clear c11); (try clear c13); (try clear c4b0 c4b1); (try clear c5b0); (try clear c6b0 c6b1); (try clear c9b0 c9b1); (try clear c10b0); (try clear c11b0); (try clear c13b0 c13b1)
  obtain ⟨kq, x37_11, rfl, HA, HJ11, ⟨mc11, rfl⟩⟩ := hcut
  cases kq with
  | zero => exact absurd HA.out (by simp [spinnakerref03_immediate.j0])
  | succ kj11 =>
   have H := HA.out
   clear HA
   simp only [spinnakerref03_immediate.j0] at H
   by_cases c14 : x37_11 = true
   ·subst c14
    rw [if_pos rfl] at H
    by_cases c15 : a1 ≥ (-2048)
    ·rw [if_pos c15] at H
     have c15b0 : decide ((-2048) ≤ a1) = true := decide_eq_true c15
     clear c15
     obtain rfl := Option.some.inj H
     go_wp2
     go_ret
     exact ⟨tR, tD⟩
    rw [if_neg c15] at H
    have c15b0 : decide ((-2048) ≤ a1) = false := decide_eq_false c15
    clear c15
    obtain rfl := Option.some.inj H
    go_wp2
    go_ret
    exact ⟨tR, tD⟩
   replace c14 := Bool.eq_false_iff.mpr c14
   subst c14
   rw [if_neg nX] at H
   by_cases c16 : t315 = 72
   ·rw [if_pos c16] at H
    have c16b0 := bT c16; have c16b1 := nF c16
    clear c16
    by_cases c17 : a1 ≥ 0
    ·rw [if_pos c17] at H
     have c17b0 : decide (0 ≤ a1) = true := decide_eq_true c17
     clear c17
     obtain rfl := Option.some.inj H
     go_wp2
     go_ret
     exact ⟨tR, tD⟩
    rw [if_neg c17] at H
    have c17b0 : decide (0 ≤ a1) = false := decide_eq_false c17
    clear c17
    obtain rfl := Option.some.inj H
    go_wp2
    go_ret
    exact ⟨tR, tD⟩
   rw [if_neg c16] at H
   have c16b0 := bF c16; have c16b1 := nT c16
   by_cases c18 : t315 = 87
   ·rw [if_pos c18] at H
    have c18b0 := bT c18; have c18b1 := nF c18
    clear c18
    by_cases c19 : a1 ≥ 0
    ·rw [if_pos c19] at H
     have c19b0 : decide (0 ≤ a1) = true := decide_eq_true c19
     clear c19
     obtain rfl := Option.some.inj H
     go_wp2
     go_ret
     exact ⟨tR, tD⟩
    rw [if_neg c19] at H
    have c19b0 : decide (0 ≤ a1) = false := decide_eq_false c19
    clear c19
    obtain rfl := Option.some.inj H
    go_wp2
    go_ret
    exact ⟨tR, tD⟩
   rw [if_neg c18] at H
   have c18b0 := bF c18; have c18b1 := nT c18
   by_cases c20 : t315 = 70
   ·rw [if_pos c20] at H
    have c20b0 := bT c20; have c20b1 := nF c20
    clear c20
    by_cases c21 : a1 ≥ 0
    ·rw [if_pos c21] at H
     have c21b0 : decide (0 ≤ a1) = true := decide_eq_true c21
     clear c21
     obtain rfl := Option.some.inj H
     go_wp2
     go_ret
     exact ⟨tR, tD⟩
    rw [if_neg c21] at H
    have c21b0 : decide (0 ≤ a1) = false := decide_eq_false c21
    clear c21
    obtain rfl := Option.some.inj H
    go_wp2
    go_ret
    exact ⟨tR, tD⟩
   rw [if_neg c20] at H
   have c20b0 := bF c20; have c20b1 := nT c20
   obtain rfl := Option.some.inj H
   go_wp2
   go_ret
   exact ⟨tR, tD⟩
end Go.Proofs.YtfcniikbcjmlcaaGreatDoor.QB
end
