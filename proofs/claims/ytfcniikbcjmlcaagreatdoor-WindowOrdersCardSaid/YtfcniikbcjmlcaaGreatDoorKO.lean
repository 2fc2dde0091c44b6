/- Part KO of the proof of spinnakerlaw19.WindowOrders: for every input the law returns true. -/
import Derived.ArgAppend
import Derived.Below
import Derived.BigQuiet
import Derived.Deep.AppendLies
import Derived.Deep.CutBlock
import Derived.Deep.DeepCutAuto
import Derived.Deep.Draws
import Derived.Deep.LoopGhost
import Derived.Deep.OwnRows
import Derived.Deep.QuietTactic
import Derived.Deep.RegionHeld3
import Derived.KernelRfl
import Derived.Laws.BitsLemmas
import Derived.Laws.BytesArg
import Derived.Laws.IdiomCopy
import Derived.Laws.MakeOwn
import Derived.Laws.OwnMore
import Derived.Laws.Rows
import Derived.Laws.Slices
import Derived.Laws.StructEq
import Derived.Lib.AppendStr
import Derived.Lib.ConvBytes
import Derived.Maps.AppendAt
import Derived.OrdersHeld
import Derived.Outline
import Derived.OwnWalk
import Derived.RowKit
import Derived.RowKit3
import Derived.Tactics
import Derived.Test.YtfcniikbcjmlcaaGreatDoorProg
import Derived.WalkKit
import Derived.WideLaws
import Derived.Test.YtfcniikbcjmlcaaGreatDoorPA
import Derived.Test.YtfcniikbcjmlcaaGreatDoorPB
section
namespace Go.Proofs.YtfcniikbcjmlcaaGreatDoor
open Go.RowKit Go.Proofs.YtfcniikbcjmlcaaGreatDoorW.PrintWords Go.Proofs.YtfcniikbcjmlcaaGreatDoorW.PrintLast Go.Proofs.YtfcniikbcjmlcaaGreatDoorW.PrintMore
set_option linter.unusedVariables false
set_option linter.unusedSimpArgs false
theorem fld_any (x a n up : Int) (b : Addr) (r : Int) (w : World) (hc : w.cell? b = some (.int .u32 x)) (h : QA.dec_field.f x a n = some r) (h0 : 0 ≤ up) (h1 : up ≤ 63) :
  Calls Tryz.prog 107 #[.int .i64 a, .int .i64 n, .int .i64 up, .pointer (some b)] w fun e w' => e = .returned (.int .i64 (wrap64 (r * 2 ^ up.toNat))) ∧ Drawn0 w w' := by
 have H := Aside0.mk h
 clear h
 go_enter Tryz.func107, Tryz.ntmps107
 go_wp2_with (first | (go_at_call 87; refine (QA.dec_field.calls _ _ _ _ _ H.out).mono ?_; rintro e w' ⟨rfl, ⟨nd, rfl⟩⟩))
 go_ret
 exact ⟨tR, Drawn0.step (Drawn0.refl _) _⟩
def immF (x a n up : Int) : Option Int := (QA.dec_field.f x a n).bind fun v => some (wrap64 (v * 2 ^ up.toNat))
def dec_immediate.f (x form : Int) : Option Int :=
 if form = 1 then (immF x 12 20 0).bind fun v => QA.dec_signed.f v 20
 else if form = 2 then (immF x 31 1 20).bind fun a => (immF x 21 10 1).bind fun b => (immF x 20 1 11).bind fun c => (immF x 12 8 12).bind fun d => QA.dec_signed.f (bits .or .i64 (bits .or .i64 (bits .or .i64 a b) c) d) 21
 else if form = 3 then (immF x 20 12 0).bind fun v => QA.dec_signed.f v 12
 else if form = 4 then (immF x 31 1 12).bind fun a => (immF x 25 6 5).bind fun b => (immF x 8 4 1).bind fun c => (immF x 7 1 11).bind fun d => QA.dec_signed.f (bits .or .i64 (bits .or .i64 (bits .or .i64 a b) c) d) 13
 else if form = 5 then (immF x 25 7 5).bind fun a => (immF x 7 5 0).bind fun b => QA.dec_signed.f (bits .or .i64 a b) 12
 else if form = 7 then immF x 20 6 0
 else if form = 8 then immF x 20 5 0
 else if form = 9 then immF x 20 8 0
 else some 0
theorem imm_any (x a n up : Int) (b : Addr) (r : Int) (w : World) (hc : w.cell? b = some (.int .u32 x)) (h : immF x a n up = some r) (h0 : 0 ≤ up) (h1 : up ≤ 63) :
  Calls Tryz.prog 107 #[.int .i64 a, .int .i64 n, .int .i64 up, .pointer (some b)] w fun e w' => e = .returned (.int .i64 r) ∧ Drawn0 w w' := by
 obtain ⟨v, hv, hr⟩ := Option.bind_eq_some_iff.1 h
 obtain rfl := Option.some.inj hr
 exact fld_any x a n up b v w hc hv h0 h1
set_option maxHeartbeats 4000000 in
theorem dec_immediate.calls (a0 a1 : Int) (r : Int) (w : World) (h : dec_immediate.f a0 a1 = some r) :
  Calls Tryz.prog 86 #[.int .u32 a0, .int .i64 a1] w fun e w' => e = .returned (.int .i64 r) ∧ Below w.heap.size w w' := by
 unfold dec_immediate.f at h
 by_cases f1 : a1 = 1
 ·subst f1
  rw [if_pos rfl] at h
  replace h := Option.bind_eq_some_iff.1 h
  obtain ⟨x0, h0, h⟩ := h
  have H0 := Aside0.mk h0
  clear h0
  have HS := Aside0.mk h
  clear h
  go_enter Tryz.func86, Tryz.ntmps86
  go_wp2_with (first | ((go_at_call 107; (with_reducible refine (imm_any _ 12 20 0 _ _ _ ?hc H0.out (by decide) (by decide)).mono ?_)); (case hc => simp); rintro e w' ⟨rfl, ⟨nd0, rfl⟩⟩) | (go_at_call 108; refine (QA.dec_signed.calls _ _ _ _ HS.out).mono ?_; rintro e w' ⟨rfl, ⟨ndS, rfl⟩⟩))
  go_ret
  exact ⟨rfl, by repeat (first | exact Below.refl _ _ | apply below_alloc | apply pw_below_drewN)⟩
 rw [if_neg f1] at h
 have b1 : (a1 == 1) = false := beq_eq_false_iff_ne.2 f1
 by_cases f2 : a1 = 2
 ·subst f2
  rw [if_pos rfl] at h
  clear f1 b1
  replace h := Option.bind_eq_some_iff.1 h
  obtain ⟨x0, h0, h⟩ := h
  have H0 := Aside0.mk h0
  clear h0
  replace h := Option.bind_eq_some_iff.1 h
  obtain ⟨x1, h1, h⟩ := h
  have H1 := Aside0.mk h1
  clear h1
  replace h := Option.bind_eq_some_iff.1 h
  obtain ⟨x2, h2, h⟩ := h
  have H2 := Aside0.mk h2
  clear h2
  replace h := Option.bind_eq_some_iff.1 h
  obtain ⟨x3, h3, h⟩ := h
  have H3 := Aside0.mk h3
  clear h3
  have HS := Aside0.mk h
  clear h
  go_enter Tryz.func86, Tryz.ntmps86
  go_wp2_with (first | ((go_at_call 107; (with_reducible refine (imm_any _ 31 1 20 _ _ _ ?hc H0.out (by decide) (by decide)).mono ?_)); (case hc => simp); rintro e w' ⟨rfl, ⟨nd0, rfl⟩⟩) | ((go_at_call 107; (with_reducible refine (imm_any _ 21 10 1 _ _ _ ?hc H1.out (by decide) (by decide)).mono ?_)); (case hc => simp); rintro e w' ⟨rfl, ⟨nd1, rfl⟩⟩) | ((go_at_call 107; (with_reducible refine (imm_any _ 20 1 11 _ _ _ ?hc H2.out (by decide) (by decide)).mono ?_)); (case hc => simp); rintro e w' ⟨rfl, ⟨nd2, rfl⟩⟩) | ((go_at_call 107; (with_reducible refine (imm_any _ 12 8 12 _ _ _ ?hc H3.out (by decide) (by decide)).mono ?_)); (case hc => simp); rintro e w' ⟨rfl, ⟨nd3, rfl⟩⟩) | (go_at_call 108; refine (QA.dec_signed.calls _ _ _ _ HS.out).mono ?_; rintro e w' ⟨rfl, ⟨ndS, rfl⟩⟩))
  go_ret
  exact ⟨rfl, by repeat (first | exact Below.refl _ _ | apply below_alloc | apply pw_below_drewN)⟩
 rw [if_neg f2] at h
 have b2 : (a1 == 2) = false := beq_eq_false_iff_ne.2 f2
 by_cases f3 : a1 = 3
 ·subst f3
  rw [if_pos rfl] at h
  clear f1 b1 f2 b2
  replace h := Option.bind_eq_some_iff.1 h
  obtain ⟨x0, h0, h⟩ := h
  have H0 := Aside0.mk h0
  clear h0
  have HS := Aside0.mk h
  clear h
  go_enter Tryz.func86, Tryz.ntmps86
  go_wp2_with (first | ((go_at_call 107; (with_reducible refine (imm_any _ 20 12 0 _ _ _ ?hc H0.out (by decide) (by decide)).mono ?_)); (case hc => simp); rintro e w' ⟨rfl, ⟨nd0, rfl⟩⟩) | (go_at_call 108; refine (QA.dec_signed.calls _ _ _ _ HS.out).mono ?_; rintro e w' ⟨rfl, ⟨ndS, rfl⟩⟩))
  go_ret
  exact ⟨rfl, by repeat (first | exact Below.refl _ _ | apply below_alloc | apply pw_below_drewN)⟩
 rw [if_neg f3] at h
 have b3 : (a1 == 3) = false := beq_eq_false_iff_ne.2 f3
 by_cases f4 : a1 = 4
 ·subst f4
  rw [if_pos rfl] at h
  clear f1 b1 f2 b2 f3 b3
  replace h := Option.bind_eq_some_iff.1 h
  obtain ⟨x0, h0, h⟩ := h
  have H0 := Aside0.mk h0
  clear h0
  replace h := Option.bind_eq_some_iff.1 h
  obtain ⟨x1, h1, h⟩ := h
  have H1 := Aside0.mk h1
  clear h1
  replace h := Option.bind_eq_some_iff.1 h
  obtain ⟨x2, h2, h⟩ := h
  have H2 := Aside0.mk h2
  clear h2
  replace h := Option.bind_eq_some_iff.1 h
  obtain ⟨x3, h3, h⟩ := h
  have H3 := Aside0.mk h3
  clear h3
  have HS := Aside0.mk h
  clear h
  go_enter Tryz.func86, Tryz.ntmps86
  go_wp2_with (first | ((go_at_call 107; (with_reducible refine (imm_any _ 31 1 12 _ _ _ ?hc H0.out (by decide) (by decide)).mono ?_)); (case hc => simp); rintro e w' ⟨rfl, ⟨nd0, rfl⟩⟩) | ((go_at_call 107; (with_reducible refine (imm_any _ 25 6 5 _ _ _ ?hc H1.out (by decide) (by decide)).mono ?_)); (case hc => simp); rintro e w' ⟨rfl, ⟨nd1, rfl⟩⟩) | ((go_at_call 107; (with_reducible refine (imm_any _ 8 4 1 _ _ _ ?hc H2.out (by decide) (by decide)).mono ?_)); (case hc => simp); rintro e w' ⟨rfl, ⟨nd2, rfl⟩⟩) | ((go_at_call 107; (with_reducible refine (imm_any _ 7 1 11 _ _ _ ?hc H3.out (by decide) (by decide)).mono ?_)); (case hc => simp); rintro e w' ⟨rfl, ⟨nd3, rfl⟩⟩) | (go_at_call 108; refine (QA.dec_signed.calls _ _ _ _ HS.out).mono ?_; rintro e w' ⟨rfl, ⟨ndS, rfl⟩⟩))
  go_ret
  exact ⟨rfl, by repeat (first | exact Below.refl _ _ | apply below_alloc | apply pw_below_drewN)⟩
 rw [if_neg f4] at h
 have b4 : (a1 == 4) = false := beq_eq_false_iff_ne.2 f4
 by_cases f5 : a1 = 5
 ·subst f5
  rw [if_pos rfl] at h
  clear f1 b1 f2 b2 f3 b3 f4 b4
  replace h := Option.bind_eq_some_iff.1 h
  obtain ⟨x0, h0, h⟩ := h
  have H0 := Aside0.mk h0
  clear h0
  replace h := Option.bind_eq_some_iff.1 h
  obtain ⟨x1, h1, h⟩ := h
  have H1 := Aside0.mk h1
  clear h1
  have HS := Aside0.mk h
  clear h
  go_enter Tryz.func86, Tryz.ntmps86
  go_wp2_with (first | ((go_at_call 107; (with_reducible refine (imm_any _ 25 7 5 _ _ _ ?hc H0.out (by decide) (by decide)).mono ?_)); (case hc => simp); rintro e w' ⟨rfl, ⟨nd0, rfl⟩⟩) | ((go_at_call 107; (with_reducible refine (imm_any _ 7 5 0 _ _ _ ?hc H1.out (by decide) (by decide)).mono ?_)); (case hc => simp); rintro e w' ⟨rfl, ⟨nd1, rfl⟩⟩) | (go_at_call 108; refine (QA.dec_signed.calls _ _ _ _ HS.out).mono ?_; rintro e w' ⟨rfl, ⟨ndS, rfl⟩⟩))
  go_ret
  exact ⟨rfl, by repeat (first | exact Below.refl _ _ | apply below_alloc | apply pw_below_drewN)⟩
 rw [if_neg f5] at h
 have b5 : (a1 == 5) = false := beq_eq_false_iff_ne.2 f5
 by_cases f7 : a1 = 7
 ·subst f7
  rw [if_pos rfl] at h
  clear f1 b1 f2 b2 f3 b3 f4 b4 f5 b5
  have H0 := Aside0.mk h
  clear h
  go_enter Tryz.func86, Tryz.ntmps86
  go_wp2_with (first | ((go_at_call 107; (with_reducible refine (imm_any _ 20 6 0 _ _ _ ?hc H0.out (by decide) (by decide)).mono ?_)); (case hc => simp); rintro e w' ⟨rfl, ⟨nd0, rfl⟩⟩))
  go_ret
  exact ⟨rfl, by repeat (first | exact Below.refl _ _ | apply below_alloc | apply pw_below_drewN)⟩
 rw [if_neg f7] at h
 have b7 : (a1 == 7) = false := beq_eq_false_iff_ne.2 f7
 by_cases f8 : a1 = 8
 ·subst f8
  rw [if_pos rfl] at h
  clear f1 b1 f2 b2 f3 b3 f4 b4 f5 b5 f7 b7
  have H0 := Aside0.mk h
  clear h
  go_enter Tryz.func86, Tryz.ntmps86
  go_wp2_with (first | ((go_at_call 107; (with_reducible refine (imm_any _ 20 5 0 _ _ _ ?hc H0.out (by decide) (by decide)).mono ?_)); (case hc => simp); rintro e w' ⟨rfl, ⟨nd0, rfl⟩⟩))
  go_ret
  exact ⟨rfl, by repeat (first | exact Below.refl _ _ | apply below_alloc | apply pw_below_drewN)⟩
 rw [if_neg f8] at h
 have b8 : (a1 == 8) = false := beq_eq_false_iff_ne.2 f8
 by_cases f9 : a1 = 9
 ·subst f9
  rw [if_pos rfl] at h
  clear f1 b1 f2 b2 f3 b3 f4 b4 f5 b5 f7 b7 f8 b8
  have H0 := Aside0.mk h
  clear h
  go_enter Tryz.func86, Tryz.ntmps86
  go_wp2_with (first | ((go_at_call 107; (with_reducible refine (imm_any _ 20 8 0 _ _ _ ?hc H0.out (by decide) (by decide)).mono ?_)); (case hc => simp); rintro e w' ⟨rfl, ⟨nd0, rfl⟩⟩))
  go_ret
  exact ⟨rfl, by repeat (first | exact Below.refl _ _ | apply below_alloc | apply pw_below_drewN)⟩
 rw [if_neg f9] at h
 have b9 : (a1 == 9) = false := beq_eq_false_iff_ne.2 f9
 obtain rfl := Option.some.inj h
 clear h f1 f2 f3 f4 f5 f7 f8 f9
 go_enter Tryz.func86, Tryz.ntmps86
 go_wp2
 go_ret
 exact ⟨rfl, (Below.refl _ _).alloc (Nat.le_refl _) _⟩
end Go.Proofs.YtfcniikbcjmlcaaGreatDoor
end
