/- Part PB of the proof of spinnakerlaw19.WindowOrders: for every input the law returns true. -/
import Derived.ArgAppend
import Derived.Below
import Derived.BigQuiet
import Derived.Deep.AppendLies
import Derived.Deep.CutBlock
import Derived.Deep.DeepCutAuto
import Derived.Deep.Draws
import Derived.Deep.LoopGhost
import Derived.Deep.OwnRows
import Derived.Deep.QuietTactic
import Derived.Deep.RegionHeld3
import Derived.Deep.WholeRow
import Derived.KernelRfl
import Derived.Laws.BitsLemmas
import Derived.Laws.BytesArg
import Derived.Laws.IdiomCopy
import Derived.Laws.MakeOwn
import Derived.Laws.OwnMore
import Derived.Laws.Rows
import Derived.Laws.Slices
import Derived.Laws.StructEq
import Derived.Laws.Tables
import Derived.Lib.AppendStr
import Derived.Lib.ConvBytes
import Derived.Maps.AppendAt
import Derived.OrdersHeld
import Derived.OwnWalk
import Derived.RowKit
import Derived.RowKit3
import Derived.Tactics
import Derived.Test.YtfcniikbcjmlcaaGreatDoorProg
import Derived.WalkKit
import Derived.WideLaws
import Derived.Test.YtfcniikbcjmlcaaGreatDoorPA
section
namespace Go.Proofs.YtfcniikbcjmlcaaGreatDoor
open Go.RowKit Go.Proofs.YtfcniikbcjmlcaaGreatDoorW.PrintWords Go.Proofs.YtfcniikbcjmlcaaGreatDoorW.PrintLast Go.Proofs.YtfcniikbcjmlcaaGreatDoorW.PrintMore
set_option linter.unusedVariables false
set_option linter.unusedSimpArgs false
def nameBytes : List (List UInt8) := [[], [108, 117, 105], [97, 117, 105, 112, 99], [106, 97, 108], [106, 97, 108, 114], [98, 101, 113], [98, 110, 101], [98, 108, 116], [98, 103, 101], [98, 108, 116, 117], [98, 103, 101, 117], [108, 98], [108, 104], [108, 119], [108, 100], [108, 98, 117], [108, 104, 117], [108, 119, 117], [115, 98], [115, 104], [115, 119], [115, 100], [97, 100, 100, 105], [115, 108, 116, 105], [115, 108, 116, 105, 117], [120, 111, 114, 105], [111, 114, 105], [97, 110, 100, 105], [115, 108, 108, 105], [115, 114, 108, 105], [115, 114, 97, 105], [97, 100, 100, 105, 119], [115, 108, 108, 105, 119], [115, 114, 108, 105, 119], [115, 114, 97, 105, 119], [97, 100, 100], [115, 117, 98], [115, 108, 108], [115, 108, 116], [115, 108, 116, 117], [120, 111, 114], [115, 114, 108], [115, 114, 97], [111, 114], [97, 110, 100], [97, 100, 100, 119], [115, 117, 98, 119], [115, 108, 108, 119], [115, 114, 108, 119], [115, 114, 97, 119], [109, 117, 108], [109, 117, 108, 104], [109, 117, 108, 104, 115, 117], [109, 117, 108, 104, 117], [100, 105, 118], [100, 105, 118, 117], [114, 101, 109], [114, 101, 109, 117], [109, 117, 108, 119], [100, 105, 118, 119], [100, 105, 118, 117, 119], [114, 101, 109, 119], [114, 101, 109, 117, 119], [102, 101, 110, 99, 101], [101, 99, 97, 108, 108], [101, 98, 114, 101, 97, 107], [108, 114, 46, 119], [115, 99, 46, 119], [97, 109, 111, 115, 119, 97, 112, 46, 119], [97, 109, 111, 97, 100, 100, 46, 119], [97, 109, 111, 120, 111, 114, 46, 119], [97, 109, 111, 97, 110, 100, 46, 119], [97, 109, 111, 111, 114, 46, 119], [97, 109, 111, 109, 105, 110, 46, 119], [97, 109, 111, 109, 97, 120, 46, 119], [97, 109, 111, 109, 105, 110, 117, 46, 119], [97, 109, 111, 109, 97, 120, 117, 46, 119], [108, 114, 46, 100], [115, 99, 46, 100], [97, 109, 111, 115, 119, 97, 112, 46, 100], [97, 109, 111, 97, 100, 100, 46, 100], [97, 109, 111, 120, 111, 114, 46, 100], [97, 109, 111, 97, 110, 100, 46, 100], [97, 109, 111, 111, 114, 46, 100], [97, 109, 111, 109, 105, 110, 46, 100], [97, 109, 111, 109, 97, 120, 46, 100], [97, 109, 111, 109, 105, 110, 117, 46, 100], [97, 109, 111, 109, 97, 120, 117, 46, 100]]
def nameAt (i : Nat) : ByteArray := ⟨(nameBytes.getD i []).toArray⟩
structure GOK (w : World) : Prop where
 names : ∀ i, i < 88 → w.cell? ⟨0, i, none⟩ = some (.string (nameAt i))
theorem GOK.below {w w' : World} (h : Below w.heap.size w w') (g : GOK w) : GOK w' := ⟨fun i hi => pw_cell_below h (g.names i hi)⟩
theorem GOK.drewN {w : World} (g : GOK w) (n : Nat) : GOK (w.drewN n) := g.below (pw_below_drewN (Below.refl _ _) n)
def isa_Name.f (a0 : Int) : Option ByteArray := if a0 < 1 then some ⟨#[]⟩ else if 87 < a0 then some ⟨#[]⟩ else some (nameAt a0.toNat)
theorem isa_in_any (a b c : Int) (w : World) : Calls Tryz.prog 51 #[.int .i64 a, .int .i64 b, .int .i64 c] w fun e w' => e = .returned (.bool (decide (b ≤ a) && decide (a ≤ c))) ∧ w = w' := by
 by_cases h : b ≤ a
 ·have h1 : decide (b ≤ a) = true := decide_eq_true h
  go_enter Tryz.func51, Tryz.ntmps51
  go_wp2
  go_ret
  exact ⟨by simp [h1], rfl⟩
 have h1 : decide (b ≤ a) = false := decide_eq_false h
 go_enter Tryz.func51, Tryz.ntmps51
 go_wp2
 go_ret
 exact ⟨by simp [h1], rfl⟩
theorem isa_Name.calls (a0 : Int) (r : ByteArray) (w : World) (hG : GOK w) (h : isa_Name.f a0 = some r) :
  Calls Tryz.prog 71 #[.int .i64 a0] w fun e w' => e = .returned (.string r) ∧ Drawn0 w w' := by
 have HG := Aside0.mk hG
 clear hG
 unfold isa_Name.f at h
 by_cases h1 : a0 < 1
 ·rw [if_pos h1] at h
  obtain rfl := Option.some.inj h
  have hd : (decide (1 ≤ a0) && decide (a0 ≤ 87)) = false := by simp; omega
  clear h1 h
  go_enter Tryz.func71, Tryz.ntmps71
  go_wp2_with (go_at_call 51; refine (isa_in_any _ _ _ _).mono ?_; rintro e w' ⟨rfl, rfl⟩; rw [hd])
  go_ret
  exact ⟨rfl, Drawn0.refl _⟩
 rw [if_neg h1] at h
 by_cases h2 : 87 < a0
 ·rw [if_pos h2] at h
  obtain rfl := Option.some.inj h
  have hd : (decide (1 ≤ a0) && decide (a0 ≤ 87)) = false := by simp; omega
  clear h1 h2 h
  go_enter Tryz.func71, Tryz.ntmps71
  go_wp2_with (go_at_call 51; refine (isa_in_any _ _ _ _).mono ?_; rintro e w' ⟨rfl, rfl⟩; rw [hd])
  go_ret
  exact ⟨rfl, Drawn0.refl _⟩
 rw [if_neg h2] at h
 obtain rfl := Option.some.inj h
 have hd : (decide (1 ≤ a0) && decide (a0 ≤ 87)) = true := by simp; omega
 have hc := HG.out.names a0.toNat (by omega)
 have p1 : 0 ≤ a0 := by omega
 have p2 : a0 < 88 := by omega
 clear h1 h2 h
 go_enter Tryz.func71, Tryz.ntmps71
 go_wp2_with (go_at_call 51; refine (isa_in_any _ _ _ _).mono ?_; rintro e w' ⟨rfl, rfl⟩; rw [hd])
 go_ret
 exact ⟨rfl, Drawn0.refl _⟩
end Go.Proofs.YtfcniikbcjmlcaaGreatDoor
end
section
namespace Go.Proofs.YtfcniikbcjmlcaaGreatDoor
open Go.RowKit
variable {P : Program}
theorem wpList_build_to {ops : Array Oper} {rest : List Oper} {o : Oper} {a : Act} {w : World} {Q : Exit → Act → World → Prop} (hg : o.guard = none) (t : TypeId) (parts : Array (Nat × Operand)) (ho : o.op = .build t parts)
    (cells : Array Value) (hc : P.built t (parts.map fun (i, x) => (i, a.eval x)).toList = some cells)
    (h : wpList P ops Q rest (a.put o.dst (.agg cells)) w) : wpList P ops Q (o :: rest) a w :=
  wpList_build hg t parts ho (by rw [hc]; rfl) (by rw [hc]; exact h)
theorem wpList_store_new {ops : Array Oper} {rest : List Oper} {o : Oper} {a : Act} {w : World} {Q : Exit → Act → World → Prop} (hgd : o.guard = none) (ty : TypeId) (x y : Operand) (ho : o.op = .store ty x y)
    (old cells : Array Value) (t : TypeId) (hx : a.eval x = .pointer (some ⟨w.heap.size, 0, none⟩)) (hy : a.eval y = .agg cells) (hi : (P.info? ty).map (·.size) = some cells.size)
    (hold : old.size = cells.size) (h1 : cells.all (·.oneCell') = true)
    (h : wpList P ops Q rest (a.put o.dst undef) (w.alloc (.cells cells t))) : wpList P ops Q (o :: rest) a (w.alloc (.cells old t)) :=
  wpList_store_row hgd ty x y ho w.heap.size cells hx hy t old (heap_alloc_last w _) hi hold h1 (by rw [World.setRow_alloc_new]; exact h)
theorem run_index_arr (w : World) (t e : TypeId) (n : Nat) (cs : Array Value) (k ek : IntKind) (i : Int) (v : Value) (h : P.underlying t = some (.array n e)) (he : P.underlying e = some (.int ek)) (h0 : 0 ≤ i) (h1 : i < n)
    (hsz : (P.info? e).map (·.size) = some 1) (hv : cs[i.toNat]? = some v) : (Instr.index t (.agg cs) (.int k i)).run P w = .ok v w := by
  have hn : (0 ≤ i ∧ i < (n : Int)) := by omega
  cases hq : P.info? e with
  | none => simp [hq] at hsz
  | some z =>
    have hz : z.size = 1 := by simpa [hq] using hsz
    simp [Instr.index, run_underlying h, asIntOf, hn, go_sem, part, isAgg, sizeOf, typeInfo, run_underlying he, hq, hz, hv]
end Go.Proofs.YtfcniikbcjmlcaaGreatDoor
end
section
namespace Go.Proofs.YtfcniikbcjmlcaaGreatDoor.QA
open Go.RowKit Go.Proofs.YtfcniikbcjmlcaaGreatDoorW.PrintWords Go.Proofs.YtfcniikbcjmlcaaGreatDoorW.PrintLast Go.Proofs.YtfcniikbcjmlcaaGreatDoorW.PrintMore
attribute [local go_sem] max2_int min2_int max_two min_two max_three min_three max_four min_four   -- for this text's walks alone
set_option linter.unusedVariables false
set_option linter.unusedSimpArgs false
def word_may.f (a0 : Int) (a1 : Int) : Option (Bool) := if a0 ≥ 0 then (if a1 ≥ 1 then (if a1 ≤ 32 then (some (decide (a0 ≤ (wrap64 (32 - a1))))) else (some false)) else (some false)) else (some false)
set_option maxHeartbeats 8000000 in
set_option maxRecDepth 100000 in
theorem word_may.calls (a0 : Int) (a1 : Int) (r : Bool) (w : World) (h : word_may.f a0 a1 = some r) :
  Calls Tryz.prog 119 #[.int .i64 a0, .int .i64 a1] w fun e w' => e = .returned (.bool r) ∧ Drawn0 w w' := by
 unfold word_may.f at h; have H := h
 clear h
 by_cases c3 : a0 ≥ 0
 ·rw [if_pos c3] at H
  have c3b0 : decide (0 ≤ a0) = true := decide_eq_true c3
  clear c3
  by_cases c4 : a1 ≥ 1
  ·rw [if_pos c4] at H
   have c4b0 : decide (1 ≤ a1) = true := decide_eq_true c4
   clear c4
   by_cases c5 : a1 ≤ 32
   ·rw [if_pos c5] at H
    have c5b0 : decide (a1 ≤ 32) = true := decide_eq_true c5
    clear c5
    obtain rfl := Option.some.inj H
    go_enter Tryz.func119, Tryz.ntmps119
    go_wp2
    go_ret
    exact ⟨tR, tD⟩
   rw [if_neg c5] at H
   have c5b0 : decide (a1 ≤ 32) = false := decide_eq_false c5
   clear c5
   obtain rfl := Option.some.inj H
   go_enter Tryz.func119, Tryz.ntmps119
   go_wp2
   go_ret
   exact ⟨tR, tD⟩
  rw [if_neg c4] at H
  have c4b0 : decide (1 ≤ a1) = false := decide_eq_false c4
  clear c4
  obtain rfl := Option.some.inj H
  go_enter Tryz.func119, Tryz.ntmps119
  go_wp2
  go_ret
  exact ⟨tR, tD⟩
 rw [if_neg c3] at H
 have c3b0 : decide (0 ≤ a0) = false := decide_eq_false c3
 clear c3
 obtain rfl := Option.some.inj H
 go_enter Tryz.func119, Tryz.ntmps119
 go_wp2
 go_ret
 exact ⟨tR, tD⟩
def word_mask.f (a0 : Int) : Option (Int) := if 0 ≤ a0 then (some ((IntKind.u64.wrap ((shl .u64 1 a0) - 1)) % 4294967296)) else (none)
set_option maxHeartbeats 8000000 in
set_option maxRecDepth 100000 in
theorem word_mask.calls (a0 : Int) (r : Int) (w : World) (h : word_mask.f a0 = some r) :
  Calls Tryz.prog 120 #[.int .i64 a0] w fun e w' => e = .returned (.int .u32 r) ∧ Drawn0 w w' := by
 unfold word_mask.f at h; have H := h
 clear h
 by_cases c2 : 0 ≤ a0
 ·rw [if_pos c2] at H
  have c2b0 := eq_true c2
  have c2b1 : decide (0 ≤ a0) = true := decide_eq_true c2
  clear c2
  obtain ⟨ji3, hji3⟩ : ∃ j_ : Int, (shl .u64 1 a0) = j_ := ⟨_, rfl⟩
  replace H : (some ((IntKind.u64.wrap ((ji3) - 1)) % 4294967296)) = some r := by first | (rw [hji3] at H; exact H) | (simp only [hji3] at H ⊢; exact H)
  have hji3_ : (IntKind.u64.wrap (1 * 2 ^ min a0.toNat 64)) = ji3 := hji3
  have hji3z : a0 ≤ 64 → (IntKind.u64.wrap (1 * 2 ^ a0.toNat)) = ji3 := shl_small hji3
  have hji3u : (IntKind.u64.wrap (2 ^ min a0.toNat 64)) = ji3 := by have h_ := hji3_; rw [Int.one_mul] at h_; exact h_
  have hji3v : a0 ≤ 64 → (IntKind.u64.wrap (2 ^ a0.toNat)) = ji3 := fun hle_ => by have h_ := hji3z hle_; rw [Int.one_mul] at h_; exact h_
  obtain rfl := Option.some.inj H
  go_enter Tryz.func120, Tryz.ntmps120
  go_wp2
  go_ret
  exact ⟨by first | rfl | (simp; done) | (simp only [← hji3] <;> (first | rfl | simp)) | (simp [*]; done), tD⟩
 rw [if_neg c2] at H
 exact absurd H (by simp)
def word_Get.f (a0 : Int) (a1 : Int) (a2 : Int) : Option (Int × Int) := (word_may.f a1 a2).bind fun t101 => (if t101 = true then (if 0 ≤ a1 then ((word_mask.f a2).bind fun t102 => (some (Go.bits .and .u32 (shr .u32 a0 a1) t102, 0))) else (none)) else (some (0, 2)))
set_option maxHeartbeats 8000000 in
set_option maxRecDepth 100000 in
theorem word_Get.calls (a0 : Int) (a1 : Int) (a2 : Int) (r1 : Int) (r2 : Int) (w : World) (h : word_Get.f a0 a1 a2 = some (r1, r2)) :
  Calls Tryz.prog 109 #[.int .u32 a0, .int .i64 a1, .int .i64 a2] w fun e w' => e = .returned (.tuple #[.int .u32 r1, .int .i64 r2]) ∧ Drawn0 w w' := by
 unfold word_Get.f at h; have H := h
 clear h
 obtain ⟨t101, A40, H⟩ := Option.bind_eq_some_iff.mp H
 try dsimp only at H
 have A4 := Aside0.mk A40; clear A40
 by_cases c5 : t101 = true
 ·subst c5
  rw [if_pos rfl] at H
  by_cases c6 : 0 ≤ a1
  ·rw [if_pos c6] at H
   have c6b0 := eq_true c6
   have c6b1 : decide (0 ≤ a1) = true := decide_eq_true c6
   clear c6
   obtain ⟨ji7, hji7⟩ : ∃ j_ : Int, (shr .u32 a0 a1) = j_ := ⟨_, rfl⟩
   replace H : ((word_mask.f a2).bind fun t102 => (some (Go.bits .and .u32 (ji7) t102, 0))) = some (r1, r2) := by first | (rw [hji7] at H; exact H) | (simp only [hji7] at H ⊢; exact H)
   (try rw [hji7] at A4)
   have hji7_ : (a0 / 2 ^ min a1.toNat 32) = ji7 := hji7
   have hji7z : a1 ≤ 32 → (a0 / 2 ^ a1.toNat) = ji7 := shr_small hji7
   obtain ⟨t102, A80, H⟩ := Option.bind_eq_some_iff.mp H
   try dsimp only at H
   have A8 := Aside0.mk A80; clear A80
   simp only [Option.some.injEq, Prod.mk.injEq] at H
   obtain ⟨rfl, rfl⟩ := H
   go_enter Tryz.func109, Tryz.ntmps109
   go_wp2_with (first | (go_at_call 119; (with_reducible refine (word_may.calls a1 a2 true _ A4.out).mono ?_); rintro e w' ⟨rfl, ⟨nd, rfl⟩⟩; (try first | exact ⟨rfl, _, World.drewN_drewN _ _ _⟩ | exact ⟨rfl, _, Eq.trans (World.drewN_drewN _ _ _) (congrArg (World.drewN _) (Nat.add_assoc _ _ _))⟩)) | (go_at_call 120; (with_reducible refine (word_mask.calls a2 t102 _ A8.out).mono ?_); rintro e w' ⟨rfl, ⟨nd, rfl⟩⟩; (try first | exact ⟨rfl, _, World.drewN_drewN _ _ _⟩ | exact ⟨rfl, _, Eq.trans (World.drewN_drewN _ _ _) (congrArg (World.drewN _) (Nat.add_assoc _ _ _))⟩)))
   repeat (go_quiet (first | (go_at_call 119; (with_reducible refine (word_may.calls a1 a2 true _ A4.out).mono ?_); rintro e w' ⟨rfl, ⟨nd, rfl⟩⟩; (try first | exact ⟨rfl, _, World.drewN_drewN _ _ _⟩ | exact ⟨rfl, _, Eq.trans (World.drewN_drewN _ _ _) (congrArg (World.drewN _) (Nat.add_assoc _ _ _))⟩)) | (go_at_call 120; (with_reducible refine (word_mask.calls a2 t102 _ A8.out).mono ?_); rintro e w' ⟨rfl, ⟨nd, rfl⟩⟩; (try first | exact ⟨rfl, _, World.drewN_drewN _ _ _⟩ | exact ⟨rfl, _, Eq.trans (World.drewN_drewN _ _ _) (congrArg (World.drewN _) (Nat.add_assoc _ _ _))⟩))); try go_wp2_with (first | (go_at_call 119; (with_reducible refine (word_may.calls a1 a2 true _ A4.out).mono ?_); rintro e w' ⟨rfl, ⟨nd, rfl⟩⟩; (try first | exact ⟨rfl, _, World.drewN_drewN _ _ _⟩ | exact ⟨rfl, _, Eq.trans (World.drewN_drewN _ _ _) (congrArg (World.drewN _) (Nat.add_assoc _ _ _))⟩)) | (go_at_call 120; (with_reducible refine (word_mask.calls a2 t102 _ A8.out).mono ?_); rintro e w' ⟨rfl, ⟨nd, rfl⟩⟩; (try first | exact ⟨rfl, _, World.drewN_drewN _ _ _⟩ | exact ⟨rfl, _, Eq.trans (World.drewN_drewN _ _ _) (congrArg (World.drewN _) (Nat.add_assoc _ _ _))⟩))))
   go_ret2
   exact ⟨by first | rfl | (simp; done) | (simp only [← hji7] <;> (first | rfl | simp)) | (simp [*]; done), tD⟩
  rw [if_neg c6] at H
  exact absurd H (by simp)
 replace c5 := Bool.eq_false_iff.mpr c5
 subst c5
 rw [if_neg nX] at H
 simp only [Option.some.injEq, Prod.mk.injEq] at H
 obtain ⟨rfl, rfl⟩ := H
 go_enter Tryz.func109, Tryz.ntmps109
 go_wp2_with (first | (go_at_call 119; (with_reducible refine (word_may.calls a1 a2 false _ A4.out).mono ?_); rintro e w' ⟨rfl, ⟨nd, rfl⟩⟩; (try first | exact ⟨rfl, _, World.drewN_drewN _ _ _⟩ | exact ⟨rfl, _, Eq.trans (World.drewN_drewN _ _ _) (congrArg (World.drewN _) (Nat.add_assoc _ _ _))⟩)))
 repeat (go_quiet (first | (go_at_call 119; (with_reducible refine (word_may.calls a1 a2 false _ A4.out).mono ?_); rintro e w' ⟨rfl, ⟨nd, rfl⟩⟩; (try first | exact ⟨rfl, _, World.drewN_drewN _ _ _⟩ | exact ⟨rfl, _, Eq.trans (World.drewN_drewN _ _ _) (congrArg (World.drewN _) (Nat.add_assoc _ _ _))⟩))); try go_wp2_with (first | (go_at_call 119; (with_reducible refine (word_may.calls a1 a2 false _ A4.out).mono ?_); rintro e w' ⟨rfl, ⟨nd, rfl⟩⟩; (try first | exact ⟨rfl, _, World.drewN_drewN _ _ _⟩ | exact ⟨rfl, _, Eq.trans (World.drewN_drewN _ _ _) (congrArg (World.drewN _) (Nat.add_assoc _ _ _))⟩))))
 go_ret2
 exact ⟨tR, tD⟩
def dec_field.f (a0 : Int) (a1 : Int) (a2 : Int) : Option (Int) := (word_Get.f a0 a1 a2).bind fun bt103 => (some (wrap64 (bt103.1)))
set_option maxHeartbeats 8000000 in
set_option maxRecDepth 100000 in
theorem dec_field.calls (a0 : Int) (a1 : Int) (a2 : Int) (r : Int) (w : World) (h : dec_field.f a0 a1 a2 = some r) :
  Calls Tryz.prog 87 #[.int .u32 a0, .int .i64 a1, .int .i64 a2] w fun e w' => e = .returned (.int .i64 r) ∧ Drawn0 w w' := by
 unfold dec_field.f at h; have H := h
 clear h
 replace H := Option.bind_eq_some_iff.mp H
 obtain ⟨⟨t103, t104⟩, A40, H⟩ := H
 replace H : (some (wrap64 (t103))) = some r := H
 have A4 := Aside0.mk A40; clear A40
 obtain rfl := Option.some.inj H
 go_enter Tryz.func87, Tryz.ntmps87
 go_wp2_with (first | ((with_reducible refine gate_callee (f := 109) rfl ?_); refine goesL_ (some 13) rfl rfl Tryz.func109 (by kernel_rfl) rfl #[.int .u32 a0, .int .i64 a1, .int .i64 a2] rfl tM ?_; (with_reducible refine (word_Get.calls a0 a1 a2 t103 t104 _ A4.out).mono ?_); rintro e w' ⟨rfl, ⟨nd, rfl⟩⟩; refine ⟨_, rfl, ?_⟩))
 go_ret
 exact ⟨tR, tD⟩
def word_Sign.f (a0 : Int) (a1 : Int) : Option (Int × Int) := (word_may.f 0 a1).bind fun t105 => (if t105 = true then (if 0 ≤ (wrap64 (64 - a1)) then (some (shr .i64 (wrap64 (shl .u64 (IntKind.u64.wrap (a0)) (wrap64 (64 - a1)))) (wrap64 (64 - a1)), 0)) else (none)) else (some (0, 2)))
set_option maxHeartbeats 8000000 in
set_option maxRecDepth 100000 in
theorem word_Sign.calls (a0 : Int) (a1 : Int) (r1 : Int) (r2 : Int) (w : World) (h : word_Sign.f a0 a1 = some (r1, r2)) :
  Calls Tryz.prog 118 #[.int .u32 a0, .int .i64 a1] w fun e w' => e = .returned (.tuple #[.int .i64 r1, .int .i64 r2]) ∧ Drawn0 w w' := by
 unfold word_Sign.f at h; have H := h
 clear h
 obtain ⟨t105, A30, H⟩ := Option.bind_eq_some_iff.mp H
 try dsimp only at H
 have A3 := Aside0.mk A30; clear A30
 by_cases c4 : t105 = true
 ·subst c4
  rw [if_pos rfl] at H
  obtain ⟨ji5, hji5⟩ : ∃ j_ : Int, (wrap64 (64 - a1)) = j_ := ⟨_, rfl⟩
  replace H : (if 0 ≤ (ji5) then (some (shr .i64 (wrap64 (shl .u64 (IntKind.u64.wrap (a0)) (ji5))) (ji5), 0)) else (none)) = some (r1, r2) := by first | (rw [hji5] at H; exact H) | (simp only [hji5] at H ⊢; exact H)
  (try rw [hji5] at A3)
  have hji5w : (IntKind.i64.wrap (64 - a1)) = ji5 := (i64_w _).trans hji5
  by_cases c6 : 0 ≤ (ji5)
  ·rw [if_pos c6] at H
   have c6b0 := eq_true c6
   have c6b1 : decide (0 ≤ (ji5)) = true := decide_eq_true c6
   clear c6
   obtain ⟨ji7, hji7⟩ : ∃ j_ : Int, (shl .u64 (IntKind.u64.wrap (a0)) (ji5)) = j_ := ⟨_, rfl⟩
   replace H : (some (shr .i64 (wrap64 (ji7)) (ji5), 0)) = some (r1, r2) := by first | (rw [hji7] at H; exact H) | (simp only [hji7] at H ⊢; exact H)
   (try rw [hji7] at A3)
   have hji7_ : (IntKind.u64.wrap ((IntKind.u64.wrap (a0)) * 2 ^ min (ji5).toNat 64)) = ji7 := hji7
   have hji7z : (ji5) ≤ 64 → (IntKind.u64.wrap ((IntKind.u64.wrap (a0)) * 2 ^ (ji5).toNat)) = ji7 := shl_small hji7
   have c8b0 := eq_true (of_decide_eq_true (by first | (with_reducible assumption) | assumption) : 0 ≤ (ji5))
   obtain ⟨ji9, hji9⟩ : ∃ j_ : Int, (shr .i64 (wrap64 (ji7)) (ji5)) = j_ := ⟨_, rfl⟩
   replace H : (some (ji9, 0)) = some (r1, r2) := by first | (rw [hji9] at H; exact H) | (simp only [hji9] at H ⊢; exact H)
   (try rw [hji9] at A3)
   have hji9_ : ((wrap64 (ji7)) / 2 ^ min (ji5).toNat 64) = ji9 := hji9
   have hji9z : (ji5) ≤ 64 → ((wrap64 (ji7)) / 2 ^ (ji5).toNat) = ji9 := shr_small hji9
   simp only [Option.some.injEq, Prod.mk.injEq] at H
   obtain ⟨rfl, rfl⟩ := H
   go_enter Tryz.func118, Tryz.ntmps118
   go_wp2_with (first | ((with_reducible refine gate_callee (f := 119) rfl ?_); refine goesL_ (some 8) rfl rfl Tryz.func119 (by kernel_rfl) rfl #[.int .i64 0, .int .i64 a1] rfl tM ?_; (with_reducible refine (word_may.calls 0 a1 true _ A3.out).mono ?_); rintro e w' ⟨rfl, ⟨nd, rfl⟩⟩; refine ⟨_, rfl, ?_⟩))
   go_ret2
   exact ⟨by first | rfl | (simp; done) | (simp only [← hji5, ← hji7, ← hji9] <;> (first | rfl | simp)) | (simp [*]; done), tD⟩
  rw [if_neg c6] at H
  exact absurd H (by simp)
 replace c4 := Bool.eq_false_iff.mpr c4
 subst c4
 rw [if_neg nX] at H
 simp only [Option.some.injEq, Prod.mk.injEq] at H
 obtain ⟨rfl, rfl⟩ := H
 go_enter Tryz.func118, Tryz.ntmps118
 go_wp2_with (first | ((with_reducible refine gate_callee (f := 119) rfl ?_); refine goesL_ (some 8) rfl rfl Tryz.func119 (by kernel_rfl) rfl #[.int .i64 0, .int .i64 a1] rfl tM ?_; (with_reducible refine (word_may.calls 0 a1 false _ A3.out).mono ?_); rintro e w' ⟨rfl, ⟨nd, rfl⟩⟩; refine ⟨_, rfl, ?_⟩))
 go_ret2
 exact ⟨tR, tD⟩
def dec_signed.f (a0 : Int) (a1 : Int) : Option (Int) := (word_Sign.f ((a0) % 4294967296) a1).bind fun bt106 => (some bt106.1)
set_option maxHeartbeats 8000000 in
set_option maxRecDepth 100000 in
theorem dec_signed.calls (a0 : Int) (a1 : Int) (r : Int) (w : World) (h : dec_signed.f a0 a1 = some r) :
  Calls Tryz.prog 108 #[.int .i64 a0, .int .i64 a1] w fun e w' => e = .returned (.int .i64 r) ∧ Drawn0 w w' := by
 unfold dec_signed.f at h; have H := h
 clear h
 replace H := Option.bind_eq_some_iff.mp H
 obtain ⟨⟨t106, t107⟩, A30, H⟩ := H
 replace H : (some t106) = some r := H
 have A3 := Aside0.mk A30; clear A30
 obtain rfl := Option.some.inj H
 go_enter Tryz.func108, Tryz.ntmps108
 go_wp2_with (first | ((with_reducible refine gate_callee (f := 118) rfl ?_); refine goesL_ (some 11) rfl rfl Tryz.func118 (by kernel_rfl) rfl #[.int .u32 ((a0) % 4294967296), .int .i64 a1] rfl tM ?_; (with_reducible refine (word_Sign.calls ((a0) % 4294967296) a1 t106 t107 _ A3.out).mono ?_); rintro e w' ⟨rfl, ⟨nd, rfl⟩⟩; refine ⟨_, rfl, ?_⟩))
 go_ret
 exact ⟨tR, tD⟩
def dec_pick.l0 : Nat → Int → Int → List Int → Int → Int → Option (Int)
 | 0, _, _, _, _, _ => none
 | k + 1, x0, x1, x9, x10, x11 => if x11 < x10 then (if 0 ≤ x11 then (if x11 < (x9.length : Int) then (if (rd x9 x11) = x1 then (some (wrap64 (x0 + x11))) else (dec_pick.l0 k x0 x1 x9 x10 (wrap64 (x11 + 1)))) else (none)) else (none)) else (some 0)
def dec_pick.f (k : Nat) (a0 : Int) (a1 : Int) (l2 : List Int) : Option (Int) := dec_pick.l0 k a0 a1 l2 (l2.length : Int) 0
set_option maxHeartbeats 8000000 in
set_option maxRecDepth 100000 in
theorem dec_pick.calls (k : Nat) (a0 : Int) (a1 : Int) (A2 : Option Addr) (c2 : Nat) (l2 : List Int) (r : Int) (w : World) (hr2 : Kd.C (Kd.int .i64) w A2 l2.length l2) (hc2 : l2.length ≤ c2) (h : dec_pick.f k a0 a1 l2 = some r) :
  Calls Tryz.prog 88 #[.int .i64 a0, .int .i64 a1, .slice A2 l2.length c2] w fun e w' => e = .returned (.int .i64 r) ∧ Drawn0 w w' := by
 have HR2 := Aside0.mk hr2
 have HC2 := Aside0.mk hc2
 clear hr2 hc2
 have H : (dec_pick.l0 k a0 a1 l2 (l2.length : Int) 0) = some r := h
 clear h
 have H' := Aside0.mk H
 clear H
 go_enter Tryz.func88, Tryz.ntmps88
 go_wp2
 go_loopg [11] k (fun kq v11 w' => ∃ (x11_1 : Int), v11 = .int .i64 x11_1 ∧ Aside0 (dec_pick.l0 kq a0 a1 l2 (l2.length : Int) x11_1 = some r) ∧ Aside0 (kq ≤ k) ∧ Drawn0 w w')
 case atStart => exact ⟨(0), tR, H', ⟨Nat.le_refl _⟩, tD⟩
 case round =>
  clear H'
  (try clear c2); (try clear p2)
  obtain ⟨x11_1, rfl, HA, HK1, ⟨m1, rfl⟩⟩ := hrel
  cases gk with
  | zero => exact absurd HA.out (by simp [dec_pick.l0])
  | succ k1 =>
   have H := HA.out
   clear HA
   simp only [dec_pick.l0] at H
   by_cases c4 : x11_1 < (l2.length : Int)
   ·rw [if_pos c4] at H
    have c4b0 : decide (x11_1 < (l2.length : Int)) = true := decide_eq_true c4
    clear c4
    by_cases c5 : 0 ≤ x11_1
    ·rw [if_pos c5] at H
     have c5b0 : decide (0 ≤ x11_1) = true := decide_eq_true c5
     clear c5
     by_cases c6 : x11_1 < (l2.length : Int)
     ·rw [if_pos c6] at H
      have c6b0 : decide (x11_1 < (l2.length : Int)) = true := decide_eq_true c6
      clear c6
      by_cases c7 : (rd l2 x11_1) = a1
      ·rw [if_pos c7] at H
       have c7b0 : ((rd l2 x11_1) == a1) = true := beq_iff_eq.mpr c7
       have c7b1 : ((rd l2 x11_1) != a1) = false := bne_eq_false_iff_eq.mpr c7
       clear c7
       obtain rfl := Option.some.inj H
       have p108 : 0 ≤ (x11_1 : Int) := of_decide_eq_true (by first | (with_reducible assumption) | assumption)
       have q108 : x11_1 < (l2.length : Int) := of_decide_eq_true (by first | (with_reducible assumption) | assumption)
       obtain ⟨ad108, e108, hx108_0⟩ := Kd.at_int HR2.out x11_1 p108 q108
       cases e108
       replace p108 := eq_true p108
       replace q108 := eq_true q108
       go_wp2
       go_ret
       exact ⟨tR, tD⟩
      rw [if_neg c7] at H
      have c7b0 : ((rd l2 x11_1) == a1) = false := beq_eq_false_iff_ne.mpr c7
      have c7b1 : ((rd l2 x11_1) != a1) = true := bne_iff_ne.mpr c7
      have H' := Aside0.mk H
      clear H
      have p108 : 0 ≤ (x11_1 : Int) := of_decide_eq_true (by first | (with_reducible assumption) | assumption)
      have q108 : x11_1 < (l2.length : Int) := of_decide_eq_true (by first | (with_reducible assumption) | assumption)
      obtain ⟨ad108, e108, hx108_0⟩ := Kd.at_int HR2.out x11_1 p108 q108
      cases e108
      replace p108 := eq_true p108
      replace q108 := eq_true q108
      go_wp2
      go_roundg k1
      case measure => have := HK1.out; omega
      case rel => exact ⟨(wrap64 (x11_1 + 1)), tR, H', ⟨by have := HK1.out; omega⟩, tD⟩
     rw [if_neg c6] at H
     exact absurd H (by simp)
    rw [if_neg c5] at H
    exact absurd H (by simp)
   rw [if_neg c4] at H
   have c4b0 : decide (x11_1 < (l2.length : Int)) = false := decide_eq_false c4
   clear c4
   obtain rfl := Option.some.inj H
   go_wp2
   go_ret
   exact ⟨tR, tD⟩
mutual
def enc_arith.j0 : Nat → Int → Bool → Option (Int × Int × Int)
 | 0, _, _ => none
 | k + 1, x3, x4 => if x4 = true then (some (0, 0, 0)) else (if x3 = 36 then (enc_arith.j1 k x3 (x3 == 36)) else (enc_arith.j1 k x3 (x3 == 46)))
def enc_arith.j1 : Nat → Int → Bool → Option (Int × Int × Int)
 | 0, _, _ => none
 | k + 1, x3, x10 => if x10 = true then (some (0, 0, 32)) else (if x3 = 28 then (enc_arith.j2 k x3 (x3 == 28)) else (if x3 = 32 then (enc_arith.j2 k x3 (x3 == 32)) else (if x3 = 37 then (enc_arith.j2 k x3 (x3 == 37)) else (enc_arith.j2 k x3 (x3 == 47)))))
def enc_arith.j2 : Nat → Int → Bool → Option (Int × Int × Int)
 | 0, _, _ => none
 | k + 1, x3, x14 => if x14 = true then (some (0, 1, 0)) else (if x3 = 23 then (enc_arith.j3 k x3 (x3 == 23)) else (enc_arith.j3 k x3 (x3 == 38)))
def enc_arith.j3 : Nat → Int → Bool → Option (Int × Int × Int)
 | 0, _, _ => none
 | k + 1, x3, x20 => if x20 = true then (some (0, 2, 0)) else (if x3 = 24 then (enc_arith.j4 k x3 (x3 == 24)) else (enc_arith.j4 k x3 (x3 == 39)))
def enc_arith.j4 : Nat → Int → Bool → Option (Int × Int × Int)
 | 0, _, _ => none
 | k + 1, x3, x24 => if x24 = true then (some (0, 3, 0)) else (if x3 = 25 then (enc_arith.j5 k x3 (x3 == 25)) else (enc_arith.j5 k x3 (x3 == 40)))
def enc_arith.j5 : Nat → Int → Bool → Option (Int × Int × Int)
 | 0, _, _ => none
 | k + 1, x3, x28 => if x28 = true then (some (0, 4, 0)) else (if x3 = 29 then (enc_arith.j6 k x3 (x3 == 29)) else (if x3 = 33 then (enc_arith.j6 k x3 (x3 == 33)) else (if x3 = 41 then (enc_arith.j6 k x3 (x3 == 41)) else (enc_arith.j6 k x3 (x3 == 48)))))
def enc_arith.j6 : Nat → Int → Bool → Option (Int × Int × Int)
 | 0, _, _ => none
 | k + 1, x3, x32 => if x32 = true then (some (0, 5, 0)) else (if x3 = 30 then (enc_arith.j7 k x3 (x3 == 30)) else (if x3 = 34 then (enc_arith.j7 k x3 (x3 == 34)) else (if x3 = 42 then (enc_arith.j7 k x3 (x3 == 42)) else (enc_arith.j7 k x3 (x3 == 49)))))
def enc_arith.j7 : Nat → Int → Bool → Option (Int × Int × Int)
 | 0, _, _ => none
 | k + 1, x3, x38 => if x38 = true then (some (0, 5, 32)) else (if x3 = 26 then (some (0, 6, 0)) else (if x3 = 43 then (some (0, 6, 0)) else (some (0, 7, 0))))
end
def enc_arith.f (k : Nat) (a0 : Int) : Option (Int × Int × Int) := if a0 = 22 then (enc_arith.j0 k a0 (a0 == 22)) else (if a0 = 31 then (enc_arith.j0 k a0 (a0 == 31)) else (if a0 = 35 then (enc_arith.j0 k a0 (a0 == 35)) else (enc_arith.j0 k a0 (a0 == 45))))
set_option maxHeartbeats 8000000 in
set_option maxRecDepth 100000 in
theorem enc_arith.calls (k : Nat) (a0 : Int) (r1 : Int) (r2 : Int) (r3 : Int) (w : World) (h : enc_arith.f k a0 = some (r1, r2, r3)) :
  Calls Tryz.prog 111 #[.int .i64 a0] w fun e w' => e = .returned (.agg #[.int .u32 r1, .int .u32 r2, .int .u32 r3]) ∧ Below w.heap.size w w' := by
 have hu120 := Tryz.underlying120
 have HB := Aside0.mk (Below.refl w.heap.size w)
 unfold enc_arith.f at h; have H := h
 clear h
 have HC2 := Aside0.mk H
 clear H
 go_enter Tryz.func111, Tryz.ntmps111
 go_upto_if 4 with (first | ((with_reducible refine gate_dst (N := 2) rfl ?_); refine box_event ?hg (N := 2) ?hd (cs := #[.int .u32 0, .int .u32 0, .int .u32 0]) (t := 120) ?hr ?_; (case hd => rfl); (case hg => rfl); (case hr => first | (go_simp; done) | (go_simp; rfl)); intro gb110 hg w3 hbox hb; have n0_ := Aside0.mk (below_step tB hb); have n1_ := Aside0.mk (hbox); have n2_ := Aside0.mk ((by rw [hg]; exact (below_size tB) : w.heap.size ≤ gb110)); have n3_ := Aside0.mk ((by rw [hg]; exact (below_size tB) : w.heap.size ≤ gb110)); clear HB; have HB := n0_; have BK110 := n1_; have GW110 := n2_; have GE110 := n3_; clear n0_ n1_ n2_ n3_; clear hb hbox hg))
 (try simp only [Act.put, sS])
 go_cut [4] (fun v4 wc => ∃ (kq : Nat) (x4_1 : Bool), v4 = .bool x4_1 ∧ Aside0 (enc_arith.j0 kq a0 x4_1 = some (r1, r2, r3)) ∧ Aside0 (kq ≤ k) ∧ Aside0 (wc.heap[gb110]? = some (.cells #[.int .u32 0, .int .u32 0, .int .u32 0] 120 (0, 0))) ∧ Aside0 (Below w.heap.size w wc))
 case first =>
  have H := HC2.out
  clear HC2
  by_cases c4 : a0 = 22
  ·rw [if_pos c4] at H
   have c4b0 := bT c4; have c4b1 := nF c4
   clear c4
   (first | rw [c4b0] | (simp only [i64_w, i32_w]; rw [c4b0]) | skip)
   have H' := Aside0.mk H
   clear H
   go_wp2
   go_meet
   case rel => exact ⟨_, ((a0 == 22)), tR, H', ⟨tO⟩, ⟨tP⟩, ⟨tC⟩⟩
  rw [if_neg c4] at H
  have c4b0 := bF c4; have c4b1 := nT c4
  (first | rw [c4b0] | (simp only [i64_w, i32_w]; rw [c4b0]) | skip)
  by_cases c5 : a0 = 31
  ·rw [if_pos c5] at H
   have c5b0 := bT c5; have c5b1 := nF c5
   clear c5
   have H' := Aside0.mk H
   clear H
   go_wp2
   go_meet
   case rel => exact ⟨_, ((a0 == 31)), tR, H', ⟨tO⟩, ⟨tP⟩, ⟨tC⟩⟩
  rw [if_neg c5] at H
  have c5b0 := bF c5; have c5b1 := nT c5
  by_cases c6 : a0 = 35
  ·rw [if_pos c6] at H
   have c6b0 := bT c6; have c6b1 := nF c6
   clear c6
   have H' := Aside0.mk H
   clear H
   go_wp2
   go_meet
   case rel => exact ⟨_, ((a0 == 35)), tR, H', ⟨tO⟩, ⟨tP⟩, ⟨tC⟩⟩
  rw [if_neg c6] at H
  have c6b0 := bF c6; have c6b1 := nT c6
  have H' := Aside0.mk H
  clear H
  go_wp2
  go_meet
  case rel => exact ⟨_, ((a0 == 45)), tR, H', ⟨tO⟩, ⟨tP⟩, ⟨tC⟩⟩
 case rest =>
  clear HC2
  (try clear c1); (try clear p2); (try clear c4); (try clear c5); (try clear c6); (try clear c4b0 c4b1); (try clear c5b0 c5b1); (try clear c6b0 c6b1)
  obtain ⟨kq, x4_1, rfl, HA, HJ1, BK110, HB⟩ := hcut
  cases kq with
  | zero => exact absurd HA.out (by simp [enc_arith.j0])
  | succ kj1 =>
   have H := HA.out
   clear HA
   simp only [enc_arith.j0] at H
   by_cases c7 : x4_1 = true
   ·subst c7
    rw [if_pos rfl] at H
    simp only [Option.some.injEq, Prod.mk.injEq] at H
    obtain ⟨rfl, rfl, rfl⟩ := H
    have hcz8_0 : wc.cell? ⟨gb110, 0, none⟩ = some (.int .u32 0) := (blk_cell BK110.out 0).trans rfl
    have hcz8_1 : wc.cell? ⟨gb110, 1, none⟩ = some (.int .u32 0) := (blk_cell BK110.out 1).trans rfl
    have hcz8_2 : wc.cell? ⟨gb110, 2, none⟩ = some (.int .u32 0) := (blk_cell BK110.out 2).trans rfl
    have hfz8_0 := blk_frozen BK110.out 0
    have hfz8_1 := blk_frozen BK110.out 1
    have hfz8_2 := blk_frozen BK110.out 2
    go_wp2
    refine bodyPost_ret (results_cell_row rfl _ _ gb110 120 #[.int .u32 0, .int .u32 0, .int .u32 0] (0, 0) _ rfl (by (with_reducible repeat (first | refine blk_drewN ?_ _ | refine blk_drew ?_ | refine blk_alloc ?_ _)); refine blk_put (cs := #[.int .u32 0, .int .u32 0, .int .u32 0]) ?_ 2 _ rfl; (with_reducible repeat (first | refine blk_drewN ?_ _ | refine blk_drew ?_ | refine blk_alloc ?_ _)); refine blk_put (cs := #[.int .u32 0, .int .u32 0, .int .u32 0]) ?_ 1 _ rfl; (with_reducible repeat (first | refine blk_drewN ?_ _ | refine blk_drew ?_ | refine blk_alloc ?_ _)); refine blk_put (cs := #[.int .u32 0, .int .u32 0, .int .u32 0]) ?_ 0 _ rfl; (with_reducible repeat (first | refine blk_drewN ?_ _ | refine blk_drew ?_ | refine blk_alloc ?_ _)); exact BK110.out) Tryz.underlying120 rfl (by kernel_rfl)) rfl ?_
    exact ⟨tE, tC⟩
   replace c7 := Bool.eq_false_iff.mpr c7
   subst c7
   rw [if_neg nX] at H
   have HC9 := Aside0.mk H
   clear H
   go_upto_if 10 with (fail)
   go_cut [10] (fun v10 wc => ∃ (kq : Nat) (x10_8 : Bool), v10 = .bool x10_8 ∧ Aside0 (enc_arith.j1 kq a0 x10_8 = some (r1, r2, r3)) ∧ Aside0 (kq ≤ kj1) ∧ Aside0 (wc.heap[gb110]? = some (.cells #[.int .u32 0, .int .u32 0, .int .u32 0] 120 (0, 0))) ∧ Aside0 (Below w.heap.size w wc))
   case first =>
    have H := HC9.out
    clear HC9
    by_cases c10 : a0 = 36
    ·rw [if_pos c10] at H
     have c10b0 := bT c10; have c10b1 := nF c10
     clear c10
     (first | rw [c10b0] | (simp only [i64_w, i32_w]; rw [c10b0]) | skip)
     have H' := Aside0.mk H
     clear H
     go_wp2
     go_meet
     case rel => exact ⟨_, ((a0 == 36)), tR, H', ⟨by have := HJ1.out; first | omega | exact Nat.le_refl _⟩, ⟨tP⟩, ⟨tC⟩⟩
    rw [if_neg c10] at H
    have c10b0 := bF c10; have c10b1 := nT c10
    (first | rw [c10b0] | (simp only [i64_w, i32_w]; rw [c10b0]) | skip)
    have H' := Aside0.mk H
    clear H
    go_wp2
    go_meet
    case rel => exact ⟨_, ((a0 == 46)), tR, H', ⟨by have := HJ1.out; first | omega | exact Nat.le_refl _⟩, ⟨tP⟩, ⟨tC⟩⟩
   case rest =>
    clear HC9
    (try clear c1); (try clear p2); (try clear c4); (try clear c5); (try clear c6); (try clear c7); (try clear c10); (try clear p2); (try clear c4b0 c4b1); (try clear c5b0 c5b1); (try clear c6b0 c6b1); (try clear c10b0 c10b1); (try clear hcz8_0 hcz8_1 hcz8_2); (try clear hfz8_0 hfz8_1 hfz8_2)
    obtain ⟨kq, x10_8, rfl, HA, HJ8, BK110, HB⟩ := hcut
    cases kq with
    | zero => exact absurd HA.out (by simp [enc_arith.j1])
    | succ kj8 =>
     have H := HA.out
     clear HA
     simp only [enc_arith.j1] at H
     by_cases c11 : x10_8 = true
     ·subst c11
      rw [if_pos rfl] at H
      simp only [Option.some.injEq, Prod.mk.injEq] at H
      obtain ⟨rfl, rfl, rfl⟩ := H
      have hcz12_0 : wc.cell? ⟨gb110, 0, none⟩ = some (.int .u32 0) := (blk_cell BK110.out 0).trans rfl
      have hcz12_1 : wc.cell? ⟨gb110, 1, none⟩ = some (.int .u32 0) := (blk_cell BK110.out 1).trans rfl
      have hcz12_2 : wc.cell? ⟨gb110, 2, none⟩ = some (.int .u32 0) := (blk_cell BK110.out 2).trans rfl
      have hfz12_0 := blk_frozen BK110.out 0
      have hfz12_1 := blk_frozen BK110.out 1
      have hfz12_2 := blk_frozen BK110.out 2
      go_wp2
      refine bodyPost_ret (results_cell_row rfl _ _ gb110 120 #[.int .u32 0, .int .u32 0, .int .u32 32] (0, 0) _ rfl (by (with_reducible repeat (first | refine blk_drewN ?_ _ | refine blk_drew ?_ | refine blk_alloc ?_ _)); refine blk_put (cs := #[.int .u32 0, .int .u32 0, .int .u32 0]) ?_ 2 _ rfl; (with_reducible repeat (first | refine blk_drewN ?_ _ | refine blk_drew ?_ | refine blk_alloc ?_ _)); refine blk_put (cs := #[.int .u32 0, .int .u32 0, .int .u32 0]) ?_ 1 _ rfl; (with_reducible repeat (first | refine blk_drewN ?_ _ | refine blk_drew ?_ | refine blk_alloc ?_ _)); refine blk_put (cs := #[.int .u32 0, .int .u32 0, .int .u32 0]) ?_ 0 _ rfl; (with_reducible repeat (first | refine blk_drewN ?_ _ | refine blk_drew ?_ | refine blk_alloc ?_ _)); exact BK110.out) Tryz.underlying120 rfl (by kernel_rfl)) rfl ?_
      exact ⟨tE, tC⟩
     replace c11 := Bool.eq_false_iff.mpr c11
     subst c11
     rw [if_neg nX] at H
     have HC13 := Aside0.mk H
     clear H
     go_upto_if 14 with (fail)
     go_cut [14] (fun v14 wc => ∃ (kq : Nat) (x14_12 : Bool), v14 = .bool x14_12 ∧ Aside0 (enc_arith.j2 kq a0 x14_12 = some (r1, r2, r3)) ∧ Aside0 (kq ≤ kj8) ∧ Aside0 (wc.heap[gb110]? = some (.cells #[.int .u32 0, .int .u32 0, .int .u32 0] 120 (0, 0))) ∧ Aside0 (Below w.heap.size w wc))
     case first =>
      have H := HC13.out
      clear HC13
      by_cases c14 : a0 = 28
      ·rw [if_pos c14] at H
       have c14b0 := bT c14; have c14b1 := nF c14
       clear c14
       (first | rw [c14b0] | (simp only [i64_w, i32_w]; rw [c14b0]) | skip)
       have H' := Aside0.mk H
       clear H
       go_wp2
       go_meet
       case rel => exact ⟨_, ((a0 == 28)), tR, H', ⟨by have := HJ1.out; have := HJ8.out; first | omega | exact Nat.le_refl _⟩, ⟨tP⟩, ⟨tC⟩⟩
      rw [if_neg c14] at H
      have c14b0 := bF c14; have c14b1 := nT c14
      (first | rw [c14b0] | (simp only [i64_w, i32_w]; rw [c14b0]) | skip)
      by_cases c15 : a0 = 32
      ·rw [if_pos c15] at H
       have c15b0 := bT c15; have c15b1 := nF c15
       clear c15
       have H' := Aside0.mk H
       clear H
       go_wp2
       go_meet
       case rel => exact ⟨_, ((a0 == 32)), tR, H', ⟨by have := HJ1.out; have := HJ8.out; first | omega | exact Nat.le_refl _⟩, ⟨tP⟩, ⟨tC⟩⟩
      rw [if_neg c15] at H
      have c15b0 := bF c15; have c15b1 := nT c15
      by_cases c16 : a0 = 37
      ·rw [if_pos c16] at H
       have c16b0 := bT c16; have c16b1 := nF c16
       clear c16
       have H' := Aside0.mk H
       clear H
       go_wp2
       go_meet
       case rel => exact ⟨_, ((a0 == 37)), tR, H', ⟨by have := HJ1.out; have := HJ8.out; first | omega | exact Nat.le_refl _⟩, ⟨tP⟩, ⟨tC⟩⟩
      rw [if_neg c16] at H
      have c16b0 := bF c16; have c16b1 := nT c16
      have H' := Aside0.mk H
      clear H
      go_wp2
      go_meet
      case rel => exact ⟨_, ((a0 == 47)), tR, H', ⟨by have := HJ1.out; have := HJ8.out; first | omega | exact Nat.le_refl _⟩, ⟨tP⟩, ⟨tC⟩⟩
     case rest =>
      clear HC13
      (try clear c1); (try clear p2); (try clear c4); (try clear c5); (try clear c6); (try clear c7); (try clear c10); (try clear c11); (try clear c14); (try clear c15); (try clear c16); (try clear p2); (try clear c4b0 c4b1); (try clear c5b0 c5b1); (try clear c6b0 c6b1); (try clear c10b0 c10b1); (try clear c14b0 c14b1); (try clear c15b0 c15b1); (try clear c16b0 c16b1); (try clear hcz12_0 hcz12_1 hcz12_2); (try clear hcz8_0 hcz8_1 hcz8_2); (try clear hfz12_0 hfz12_1 hfz12_2); (try clear hfz8_0 hfz8_1 hfz8_2)
      obtain ⟨kq, x14_12, rfl, HA, HJ12, BK110, HB⟩ := hcut
      cases kq with
      | zero => exact absurd HA.out (by simp [enc_arith.j2])
      | succ kj12 =>
       have H := HA.out
       clear HA
       simp only [enc_arith.j2] at H
       by_cases c17 : x14_12 = true
       ·subst c17
        rw [if_pos rfl] at H
        simp only [Option.some.injEq, Prod.mk.injEq] at H
        obtain ⟨rfl, rfl, rfl⟩ := H
        have hcz18_0 : wc.cell? ⟨gb110, 0, none⟩ = some (.int .u32 0) := (blk_cell BK110.out 0).trans rfl
        have hcz18_1 : wc.cell? ⟨gb110, 1, none⟩ = some (.int .u32 0) := (blk_cell BK110.out 1).trans rfl
        have hcz18_2 : wc.cell? ⟨gb110, 2, none⟩ = some (.int .u32 0) := (blk_cell BK110.out 2).trans rfl
        have hfz18_0 := blk_frozen BK110.out 0
        have hfz18_1 := blk_frozen BK110.out 1
        have hfz18_2 := blk_frozen BK110.out 2
        go_wp2
        refine bodyPost_ret (results_cell_row rfl _ _ gb110 120 #[.int .u32 0, .int .u32 1, .int .u32 0] (0, 0) _ rfl (by (with_reducible repeat (first | refine blk_drewN ?_ _ | refine blk_drew ?_ | refine blk_alloc ?_ _)); refine blk_put (cs := #[.int .u32 0, .int .u32 1, .int .u32 0]) ?_ 2 _ rfl; (with_reducible repeat (first | refine blk_drewN ?_ _ | refine blk_drew ?_ | refine blk_alloc ?_ _)); refine blk_put (cs := #[.int .u32 0, .int .u32 0, .int .u32 0]) ?_ 1 _ rfl; (with_reducible repeat (first | refine blk_drewN ?_ _ | refine blk_drew ?_ | refine blk_alloc ?_ _)); refine blk_put (cs := #[.int .u32 0, .int .u32 0, .int .u32 0]) ?_ 0 _ rfl; (with_reducible repeat (first | refine blk_drewN ?_ _ | refine blk_drew ?_ | refine blk_alloc ?_ _)); exact BK110.out) Tryz.underlying120 rfl (by kernel_rfl)) rfl ?_
        exact ⟨tE, tC⟩
       replace c17 := Bool.eq_false_iff.mpr c17
       subst c17
       rw [if_neg nX] at H
       have HC19 := Aside0.mk H
       clear H
       go_upto_if 20 with (fail)
       go_cut [20] (fun v20 wc => ∃ (kq : Nat) (x20_18 : Bool), v20 = .bool x20_18 ∧ Aside0 (enc_arith.j3 kq a0 x20_18 = some (r1, r2, r3)) ∧ Aside0 (kq ≤ kj12) ∧ Aside0 (wc.heap[gb110]? = some (.cells #[.int .u32 0, .int .u32 0, .int .u32 0] 120 (0, 0))) ∧ Aside0 (Below w.heap.size w wc))
       case first =>
        have H := HC19.out
        clear HC19
        by_cases c20 : a0 = 23
        ·rw [if_pos c20] at H
         have c20b0 := bT c20; have c20b1 := nF c20
         clear c20
         (first | rw [c20b0] | (simp only [i64_w, i32_w]; rw [c20b0]) | skip)
         have H' := Aside0.mk H
         clear H
         go_wp2
         go_meet
         case rel => exact ⟨_, ((a0 == 23)), tR, H', ⟨by have := HJ1.out; have := HJ8.out; have := HJ12.out; first | omega | exact Nat.le_refl _⟩, ⟨tP⟩, ⟨tC⟩⟩
        rw [if_neg c20] at H
        have c20b0 := bF c20; have c20b1 := nT c20
        (first | rw [c20b0] | (simp only [i64_w, i32_w]; rw [c20b0]) | skip)
        have H' := Aside0.mk H
        clear H
        go_wp2
        go_meet
        case rel => exact ⟨_, ((a0 == 38)), tR, H', ⟨by have := HJ1.out; have := HJ8.out; have := HJ12.out; first | omega | exact Nat.le_refl _⟩, ⟨tP⟩, ⟨tC⟩⟩
       case rest =>
        clear HC19
        (try clear c1); (try clear c2); (try clear p2); (try clear c4); (try clear c5); (try clear c6); (try clear c7); (try clear c10); (try clear c11); (try clear c14); (try clear c15); (try clear c16); (try clear c17); (try clear c20); (try clear p2); (try clear c4b0 c4b1); (try clear c5b0 c5b1); (try clear c6b0 c6b1); (try clear c10b0 c10b1); (try clear c14b0 c14b1); (try clear c15b0 c15b1); (try clear c16b0 c16b1); (try clear c20b0 c20b1); (try clear hcz12_0 hcz12_1 hcz12_2); (try clear hcz18_0 hcz18_1 hcz18_2); (try clear hcz8_0 hcz8_1 hcz8_2); (try clear hfz12_0 hfz12_1 hfz12_2); (try clear hfz18_0 hfz18_1 hfz18_2); (try clear hfz8_0 hfz8_1 hfz8_2)
        obtain ⟨kq, x20_18, rfl, HA, HJ18, BK110, HB⟩ := hcut
        cases kq with
        | zero => exact absurd HA.out (by simp [enc_arith.j3])
        | succ kj18 =>
         have H := HA.out
         clear HA
         simp only [enc_arith.j3] at H
         by_cases c21 : x20_18 = true
         ·subst c21
          rw [if_pos rfl] at H
          simp only [Option.some.injEq, Prod.mk.injEq] at H
          obtain ⟨rfl, rfl, rfl⟩ := H
          have hcz22_0 : wc.cell? ⟨gb110, 0, none⟩ = some (.int .u32 0) := (blk_cell BK110.out 0).trans rfl
          have hcz22_1 : wc.cell? ⟨gb110, 1, none⟩ = some (.int .u32 0) := (blk_cell BK110.out 1).trans rfl
          have hcz22_2 : wc.cell? ⟨gb110, 2, none⟩ = some (.int .u32 0) := (blk_cell BK110.out 2).trans rfl
          have hfz22_0 := blk_frozen BK110.out 0
          have hfz22_1 := blk_frozen BK110.out 1
          have hfz22_2 := blk_frozen BK110.out 2
          go_wp2
          refine bodyPost_ret (results_cell_row rfl _ _ gb110 120 #[.int .u32 0, .int .u32 2, .int .u32 0] (0, 0) _ rfl (by (with_reducible repeat (first | refine blk_drewN ?_ _ | refine blk_drew ?_ | refine blk_alloc ?_ _)); refine blk_put (cs := #[.int .u32 0, .int .u32 2, .int .u32 0]) ?_ 2 _ rfl; (with_reducible repeat (first | refine blk_drewN ?_ _ | refine blk_drew ?_ | refine blk_alloc ?_ _)); refine blk_put (cs := #[.int .u32 0, .int .u32 0, .int .u32 0]) ?_ 1 _ rfl; (with_reducible repeat (first | refine blk_drewN ?_ _ | refine blk_drew ?_ | refine blk_alloc ?_ _)); refine blk_put (cs := #[.int .u32 0, .int .u32 0, .int .u32 0]) ?_ 0 _ rfl; (with_reducible repeat (first | refine blk_drewN ?_ _ | refine blk_drew ?_ | refine blk_alloc ?_ _)); exact BK110.out) Tryz.underlying120 rfl (by kernel_rfl)) rfl ?_
          exact ⟨tE, tC⟩
         replace c21 := Bool.eq_false_iff.mpr c21
         subst c21
         rw [if_neg nX] at H
         have HC23 := Aside0.mk H
         clear H
         go_upto_if 24 with (fail)
         go_cut [24] (fun v24 wc => ∃ (kq : Nat) (x24_22 : Bool), v24 = .bool x24_22 ∧ Aside0 (enc_arith.j4 kq a0 x24_22 = some (r1, r2, r3)) ∧ Aside0 (kq ≤ kj18) ∧ Aside0 (wc.heap[gb110]? = some (.cells #[.int .u32 0, .int .u32 0, .int .u32 0] 120 (0, 0))) ∧ Aside0 (Below w.heap.size w wc))
         case first =>
          have H := HC23.out
          clear HC23
          by_cases c24 : a0 = 24
          ·rw [if_pos c24] at H
           have c24b0 := bT c24; have c24b1 := nF c24
           clear c24
           (first | rw [c24b0] | (simp only [i64_w, i32_w]; rw [c24b0]) | skip)
           have H' := Aside0.mk H
           clear H
           go_wp2
           go_meet
           case rel => exact ⟨_, ((a0 == 24)), tR, H', ⟨by have := HJ1.out; have := HJ8.out; have := HJ12.out; have := HJ18.out; first | omega | exact Nat.le_refl _⟩, ⟨tP⟩, ⟨tC⟩⟩
          rw [if_neg c24] at H
          have c24b0 := bF c24; have c24b1 := nT c24
          (first | rw [c24b0] | (simp only [i64_w, i32_w]; rw [c24b0]) | skip)
          have H' := Aside0.mk H
          clear H
          go_wp2
          go_meet
          case rel => exact ⟨_, ((a0 == 39)), tR, H', ⟨by have := HJ1.out; have := HJ8.out; have := HJ12.out; have := HJ18.out; first | omega | exact Nat.le_refl _⟩, ⟨tP⟩, ⟨tC⟩⟩
         case rest =>
          clear HC23
          (try clear c1); (try clear c2); (try clear p2); (try clear c4); (try clear c5); (try clear c6); (try clear c7); (try clear c10); (try clear c11); (try clear c14); (try clear c15); (try clear c16); (try clear c17); (try clear c20); (try clear c21); (try clear c24); (try clear p2); (try clear c4b0 c4b1); (try clear c5b0 c5b1); (try clear c6b0 c6b1); (try clear c10b0 c10b1); (try clear c14b0 c14b1); (try clear c15b0 c15b1); (try clear c16b0 c16b1); (try clear c20b0 c20b1); (try clear c24b0 c24b1); (try clear hcz12_0 hcz12_1 hcz12_2); (try clear hcz18_0 hcz18_1 hcz18_2); (try clear hcz22_0 hcz22_1 hcz22_2); (try clear hcz8_0 hcz8_1 hcz8_2); (try clear hfz12_0 hfz12_1 hfz12_2); (try clear hfz18_0 hfz18_1 hfz18_2); (try clear hfz22_0 hfz22_1 hfz22_2); (try clear hfz8_0 hfz8_1 hfz8_2)
          obtain ⟨kq, x24_22, rfl, HA, HJ22, BK110, HB⟩ := hcut
          cases kq with
          | zero => exact absurd HA.out (by simp [enc_arith.j4])
          | succ kj22 =>
           have H := HA.out
           clear HA
           simp only [enc_arith.j4] at H
           by_cases c25 : x24_22 = true
           ·subst c25
            rw [if_pos rfl] at H
            simp only [Option.some.injEq, Prod.mk.injEq] at H
            obtain ⟨rfl, rfl, rfl⟩ := H
            have hcz26_0 : wc.cell? ⟨gb110, 0, none⟩ = some (.int .u32 0) := (blk_cell BK110.out 0).trans rfl
            have hcz26_1 : wc.cell? ⟨gb110, 1, none⟩ = some (.int .u32 0) := (blk_cell BK110.out 1).trans rfl
            have hcz26_2 : wc.cell? ⟨gb110, 2, none⟩ = some (.int .u32 0) := (blk_cell BK110.out 2).trans rfl
            have hfz26_0 := blk_frozen BK110.out 0
            have hfz26_1 := blk_frozen BK110.out 1
            have hfz26_2 := blk_frozen BK110.out 2
            go_wp2
            refine bodyPost_ret (results_cell_row rfl _ _ gb110 120 #[.int .u32 0, .int .u32 3, .int .u32 0] (0, 0) _ rfl (by (with_reducible repeat (first | refine blk_drewN ?_ _ | refine blk_drew ?_ | refine blk_alloc ?_ _)); refine blk_put (cs := #[.int .u32 0, .int .u32 3, .int .u32 0]) ?_ 2 _ rfl; (with_reducible repeat (first | refine blk_drewN ?_ _ | refine blk_drew ?_ | refine blk_alloc ?_ _)); refine blk_put (cs := #[.int .u32 0, .int .u32 0, .int .u32 0]) ?_ 1 _ rfl; (with_reducible repeat (first | refine blk_drewN ?_ _ | refine blk_drew ?_ | refine blk_alloc ?_ _)); refine blk_put (cs := #[.int .u32 0, .int .u32 0, .int .u32 0]) ?_ 0 _ rfl; (with_reducible repeat (first | refine blk_drewN ?_ _ | refine blk_drew ?_ | refine blk_alloc ?_ _)); exact BK110.out) Tryz.underlying120 rfl (by kernel_rfl)) rfl ?_
            exact ⟨tE, tC⟩
           replace c25 := Bool.eq_false_iff.mpr c25
           subst c25
           rw [if_neg nX] at H
           have HC27 := Aside0.mk H
           clear H
           go_upto_if 28 with (fail)
           go_cut [28] (fun v28 wc => ∃ (kq : Nat) (x28_26 : Bool), v28 = .bool x28_26 ∧ Aside0 (enc_arith.j5 kq a0 x28_26 = some (r1, r2, r3)) ∧ Aside0 (kq ≤ kj22) ∧ Aside0 (wc.heap[gb110]? = some (.cells #[.int .u32 0, .int .u32 0, .int .u32 0] 120 (0, 0))) ∧ Aside0 (Below w.heap.size w wc))
           case first =>
            have H := HC27.out
            clear HC27
            by_cases c28 : a0 = 25
            ·rw [if_pos c28] at H
             have c28b0 := bT c28; have c28b1 := nF c28
             clear c28
             (first | rw [c28b0] | (simp only [i64_w, i32_w]; rw [c28b0]) | skip)
             have H' := Aside0.mk H
             clear H
             go_wp2
             go_meet
             case rel => exact ⟨_, ((a0 == 25)), tR, H', ⟨by have := HJ1.out; have := HJ8.out; have := HJ12.out; have := HJ18.out; have := HJ22.out; first | omega | exact Nat.le_refl _⟩, ⟨tP⟩, ⟨tC⟩⟩
            rw [if_neg c28] at H
            have c28b0 := bF c28; have c28b1 := nT c28
            (first | rw [c28b0] | (simp only [i64_w, i32_w]; rw [c28b0]) | skip)
            have H' := Aside0.mk H
            clear H
            go_wp2
            go_meet
            case rel => exact ⟨_, ((a0 == 40)), tR, H', ⟨by have := HJ1.out; have := HJ8.out; have := HJ12.out; have := HJ18.out; have := HJ22.out; first | omega | exact Nat.le_refl _⟩, ⟨tP⟩, ⟨tC⟩⟩
           case rest =>
            clear HC27
            (try clear c1); (try clear c2); (try clear p2); (try clear c4); (try clear c5); (try clear c6); (try clear c7); (try clear c10); (try clear c11); (try clear c14); (try clear c15); (try clear c16); (try clear c17); (try clear c20); (try clear c21); (try clear c24); (try clear c25); (try clear c28); (try clear p2); (try clear c4b0 c4b1); (try clear c5b0 c5b1); (try clear c6b0 c6b1); (try clear c10b0 c10b1); (try clear c14b0 c14b1); (try clear c15b0 c15b1); (try clear c16b0 c16b1); (try clear c20b0 c20b1); (try clear c24b0 c24b1); (try clear c28b0 c28b1); (try clear hcz12_0 hcz12_1 hcz12_2); (try clear hcz18_0 hcz18_1 hcz18_2); (try clear hcz22_0 hcz22_1 hcz22_2); (try clear hcz26_0 hcz26_1 hcz26_2); (try clear hcz8_0 hcz8_1 hcz8_2); (try clear hfz12_0 hfz12_1 hfz12_2); (try clear hfz18_0 hfz18_1 hfz18_2); (try clear hfz22_0 hfz22_1 hfz22_2); (try clear hfz26_0 hfz26_1 hfz26_2); (try clear hfz8_0 hfz8_1 hfz8_2)
            obtain ⟨kq, x28_26, rfl, HA, HJ26, BK110, HB⟩ := hcut
            cases kq with
            | zero => exact absurd HA.out (by simp [enc_arith.j5])
            | succ kj26 =>
             have H := HA.out
             clear HA
             simp only [enc_arith.j5] at H
             by_cases c29 : x28_26 = true
             ·subst c29
              rw [if_pos rfl] at H
              simp only [Option.some.injEq, Prod.mk.injEq] at H
              obtain ⟨rfl, rfl, rfl⟩ := H
              have hcz30_0 : wc.cell? ⟨gb110, 0, none⟩ = some (.int .u32 0) := (blk_cell BK110.out 0).trans rfl
              have hcz30_1 : wc.cell? ⟨gb110, 1, none⟩ = some (.int .u32 0) := (blk_cell BK110.out 1).trans rfl
              have hcz30_2 : wc.cell? ⟨gb110, 2, none⟩ = some (.int .u32 0) := (blk_cell BK110.out 2).trans rfl
              have hfz30_0 := blk_frozen BK110.out 0
              have hfz30_1 := blk_frozen BK110.out 1
              have hfz30_2 := blk_frozen BK110.out 2
              go_wp2
              refine bodyPost_ret (results_cell_row rfl _ _ gb110 120 #[.int .u32 0, .int .u32 4, .int .u32 0] (0, 0) _ rfl (by (with_reducible repeat (first | refine blk_drewN ?_ _ | refine blk_drew ?_ | refine blk_alloc ?_ _)); refine blk_put (cs := #[.int .u32 0, .int .u32 4, .int .u32 0]) ?_ 2 _ rfl; (with_reducible repeat (first | refine blk_drewN ?_ _ | refine blk_drew ?_ | refine blk_alloc ?_ _)); refine blk_put (cs := #[.int .u32 0, .int .u32 0, .int .u32 0]) ?_ 1 _ rfl; (with_reducible repeat (first | refine blk_drewN ?_ _ | refine blk_drew ?_ | refine blk_alloc ?_ _)); refine blk_put (cs := #[.int .u32 0, .int .u32 0, .int .u32 0]) ?_ 0 _ rfl; (with_reducible repeat (first | refine blk_drewN ?_ _ | refine blk_drew ?_ | refine blk_alloc ?_ _)); exact BK110.out) Tryz.underlying120 rfl (by kernel_rfl)) rfl ?_
              exact ⟨tE, tC⟩
             replace c29 := Bool.eq_false_iff.mpr c29
             subst c29
             rw [if_neg nX] at H
             have HC31 := Aside0.mk H
             clear H
             go_upto_if 32 with (fail)
             go_cut [32] (fun v32 wc => ∃ (kq : Nat) (x32_30 : Bool), v32 = .bool x32_30 ∧ Aside0 (enc_arith.j6 kq a0 x32_30 = some (r1, r2, r3)) ∧ Aside0 (kq ≤ kj26) ∧ Aside0 (wc.heap[gb110]? = some (.cells #[.int .u32 0, .int .u32 0, .int .u32 0] 120 (0, 0))) ∧ Aside0 (Below w.heap.size w wc))
             case first =>
              have H := HC31.out
              clear HC31
              by_cases c32 : a0 = 29
              ·rw [if_pos c32] at H
               have c32b0 := bT c32; have c32b1 := nF c32
               clear c32
               (first | rw [c32b0] | (simp only [i64_w, i32_w]; rw [c32b0]) | skip)
               have H' := Aside0.mk H
               clear H
               go_wp2
               go_meet
               case rel => exact ⟨_, ((a0 == 29)), tR, H', ⟨by have := HJ1.out; have := HJ8.out; have := HJ12.out; have := HJ18.out; have := HJ22.out; have := HJ26.out; first | omega | exact Nat.le_refl _⟩, ⟨tP⟩, ⟨tC⟩⟩
              rw [if_neg c32] at H
              have c32b0 := bF c32; have c32b1 := nT c32
              (first | rw [c32b0] | (simp only [i64_w, i32_w]; rw [c32b0]) | skip)
              by_cases c33 : a0 = 33
              ·rw [if_pos c33] at H
               have c33b0 := bT c33; have c33b1 := nF c33
               clear c33
               have H' := Aside0.mk H
               clear H
               go_wp2
               go_meet
               case rel => exact ⟨_, ((a0 == 33)), tR, H', ⟨by have := HJ1.out; have := HJ8.out; have := HJ12.out; have := HJ18.out; have := HJ22.out; have := HJ26.out; first | omega | exact Nat.le_refl _⟩, ⟨tP⟩, ⟨tC⟩⟩
              rw [if_neg c33] at H
              have c33b0 := bF c33; have c33b1 := nT c33
              by_cases c34 : a0 = 41
              ·rw [if_pos c34] at H
               have c34b0 := bT c34; have c34b1 := nF c34
               clear c34
               have H' := Aside0.mk H
               clear H
               go_wp2
               go_meet
               case rel => exact ⟨_, ((a0 == 41)), tR, H', ⟨by have := HJ1.out; have := HJ8.out; have := HJ12.out; have := HJ18.out; have := HJ22.out; have := HJ26.out; first | omega | exact Nat.le_refl _⟩, ⟨tP⟩, ⟨tC⟩⟩
              rw [if_neg c34] at H
              have c34b0 := bF c34; have c34b1 := nT c34
              have H' := Aside0.mk H
              clear H
              go_wp2
              go_meet
              case rel => exact ⟨_, ((a0 == 48)), tR, H', ⟨by have := HJ1.out; have := HJ8.out; have := HJ12.out; have := HJ18.out; have := HJ22.out; have := HJ26.out; first | omega | exact Nat.le_refl _⟩, ⟨tP⟩, ⟨tC⟩⟩
             case rest =>
              clear HC31
              (try clear c1); (try clear c2); (try clear p2); (try clear c3); (try clear c4); (try clear c5); (try clear c6); (try clear c7); (try clear c10); (try clear c11); (try clear c14); (try clear c15); (try clear c16); (try clear c17); (try clear c20); (try clear c21); (try clear c24); (try clear c25); (try clear c28); (try clear c29); (try clear c32); (try clear c33); (try clear c34); (try clear p2); (try clear c4b0 c4b1); (try clear c5b0 c5b1); (try clear c6b0 c6b1); (try clear c10b0 c10b1); (try clear c14b0 c14b1); (try clear c15b0 c15b1); (try clear c16b0 c16b1); (try clear c20b0 c20b1); (try clear c24b0 c24b1); (try clear c28b0 c28b1); (try clear c32b0 c32b1); (try clear c33b0 c33b1); (try clear c34b0 c34b1); (try clear hcz12_0 hcz12_1 hcz12_2); (try clear hcz18_0 hcz18_1 hcz18_2); (try clear hcz22_0 hcz22_1 hcz22_2); (try clear hcz26_0 hcz26_1 hcz26_2); (try clear hcz30_0 hcz30_1 hcz30_2); (try clear hcz8_0 hcz8_1 hcz8_2); (try clear hfz12_0 hfz12_1 hfz12_2); (try clear hfz18_0 hfz18_1 hfz18_2); (try clear hfz22_0 hfz22_1 hfz22_2); (try clear hfz26_0 hfz26_1 hfz26_2); (try clear hfz30_0 hfz30_1 hfz30_2); (try clear hfz8_0 hfz8_1 hfz8_2)
              obtain ⟨kq, x32_30, rfl, HA, HJ30, BK110, HB⟩ := hcut
              cases kq with
              | zero => exact absurd HA.out (by simp [enc_arith.j6])
              | succ kj30 =>
               have H := HA.out
               clear HA
               simp only [enc_arith.j6] at H
               by_cases c35 : x32_30 = true
               ·subst c35
                rw [if_pos rfl] at H
                simp only [Option.some.injEq, Prod.mk.injEq] at H
                obtain ⟨rfl, rfl, rfl⟩ := H
                have hcz36_0 : wc.cell? ⟨gb110, 0, none⟩ = some (.int .u32 0) := (blk_cell BK110.out 0).trans rfl
                have hcz36_1 : wc.cell? ⟨gb110, 1, none⟩ = some (.int .u32 0) := (blk_cell BK110.out 1).trans rfl
                have hcz36_2 : wc.cell? ⟨gb110, 2, none⟩ = some (.int .u32 0) := (blk_cell BK110.out 2).trans rfl
                have hfz36_0 := blk_frozen BK110.out 0
                have hfz36_1 := blk_frozen BK110.out 1
                have hfz36_2 := blk_frozen BK110.out 2
                go_wp2
                refine bodyPost_ret (results_cell_row rfl _ _ gb110 120 #[.int .u32 0, .int .u32 5, .int .u32 0] (0, 0) _ rfl (by (with_reducible repeat (first | refine blk_drewN ?_ _ | refine blk_drew ?_ | refine blk_alloc ?_ _)); refine blk_put (cs := #[.int .u32 0, .int .u32 5, .int .u32 0]) ?_ 2 _ rfl; (with_reducible repeat (first | refine blk_drewN ?_ _ | refine blk_drew ?_ | refine blk_alloc ?_ _)); refine blk_put (cs := #[.int .u32 0, .int .u32 0, .int .u32 0]) ?_ 1 _ rfl; (with_reducible repeat (first | refine blk_drewN ?_ _ | refine blk_drew ?_ | refine blk_alloc ?_ _)); refine blk_put (cs := #[.int .u32 0, .int .u32 0, .int .u32 0]) ?_ 0 _ rfl; (with_reducible repeat (first | refine blk_drewN ?_ _ | refine blk_drew ?_ | refine blk_alloc ?_ _)); exact BK110.out) Tryz.underlying120 rfl (by kernel_rfl)) rfl ?_
                exact ⟨tE, tC⟩
               replace c35 := Bool.eq_false_iff.mpr c35
               subst c35
               rw [if_neg nX] at H
               have HC37 := Aside0.mk H
               clear H
               go_upto_if 38 with (fail)
               go_cut [38] (fun v38 wc => ∃ (kq : Nat) (x38_36 : Bool), v38 = .bool x38_36 ∧ Aside0 (enc_arith.j7 kq a0 x38_36 = some (r1, r2, r3)) ∧ Aside0 (kq ≤ kj30) ∧ Aside0 (wc.heap[gb110]? = some (.cells #[.int .u32 0, .int .u32 0, .int .u32 0] 120 (0, 0))) ∧ Aside0 (Below w.heap.size w wc))
               case first =>
                have H := HC37.out
                clear HC37
                by_cases c38 : a0 = 30
                ·rw [if_pos c38] at H
                 have c38b0 := bT c38; have c38b1 := nF c38
                 clear c38
                 (first | rw [c38b0] | (simp only [i64_w, i32_w]; rw [c38b0]) | skip)
                 have H' := Aside0.mk H
                 clear H
                 go_wp2
                 go_meet
                 case rel => exact ⟨_, ((a0 == 30)), tR, H', ⟨by have := HJ1.out; have := HJ8.out; have := HJ12.out; have := HJ18.out; have := HJ22.out; have := HJ26.out; have := HJ30.out; first | omega | exact Nat.le_refl _⟩, ⟨tP⟩, ⟨tC⟩⟩
                rw [if_neg c38] at H
                have c38b0 := bF c38; have c38b1 := nT c38
                (first | rw [c38b0] | (simp only [i64_w, i32_w]; rw [c38b0]) | skip)
                by_cases c39 : a0 = 34
                ·rw [if_pos c39] at H
                 have c39b0 := bT c39; have c39b1 := nF c39
                 clear c39
                 have H' := Aside0.mk H
                 clear H
                 go_wp2
                 go_meet
                 case rel => exact ⟨_, ((a0 == 34)), tR, H', ⟨by have := HJ1.out; have := HJ8.out; have := HJ12.out; have := HJ18.out; have := HJ22.out; have := HJ26.out; have := HJ30.out; first | omega | exact Nat.le_refl _⟩, ⟨tP⟩, ⟨tC⟩⟩
                rw [if_neg c39] at H
                have c39b0 := bF c39; have c39b1 := nT c39
                by_cases c40 : a0 = 42
                ·rw [if_pos c40] at H
                 have c40b0 := bT c40; have c40b1 := nF c40
                 clear c40
                 have H' := Aside0.mk H
                 clear H
                 go_wp2
                 go_meet
                 case rel => exact ⟨_, ((a0 == 42)), tR, H', ⟨by have := HJ1.out; have := HJ8.out; have := HJ12.out; have := HJ18.out; have := HJ22.out; have := HJ26.out; have := HJ30.out; first | omega | exact Nat.le_refl _⟩, ⟨tP⟩, ⟨tC⟩⟩
                rw [if_neg c40] at H
                have c40b0 := bF c40; have c40b1 := nT c40
                have H' := Aside0.mk H
                clear H
                go_wp2
                go_meet
                case rel => exact ⟨_, ((a0 == 49)), tR, H', ⟨by have := HJ1.out; have := HJ8.out; have := HJ12.out; have := HJ18.out; have := HJ22.out; have := HJ26.out; have := HJ30.out; first | omega | exact Nat.le_refl _⟩, ⟨tP⟩, ⟨tC⟩⟩
               case rest =>
                clear HC37
                (try clear c1); (try clear c2); (try clear p2); (try clear c3); (try clear c4); (try clear c5); (try clear c6); (try clear c7); (try clear c10); (try clear c11); (try clear c14); (try clear c15); (try clear c16); (try clear c17); (try clear c20); (try clear c21); (try clear c24); (try clear c25); (try clear c28); (try clear c29); (try clear c32); (try clear c33); (try clear c34); (try clear c35); (try clear c38); (try clear c39); (try clear c40); (try clear p2); (try clear c4b0 c4b1); (try clear c5b0 c5b1); (try clear c6b0 c6b1); (try clear c10b0 c10b1); (try clear c14b0 c14b1); (try clear c15b0 c15b1); (try clear c16b0 c16b1); (try clear c20b0 c20b1); (try clear c24b0 c24b1); (try clear c28b0 c28b1); (try clear c32b0 c32b1); (try clear c33b0 c33b1); (try clear c34b0 c34b1); (try clear c38b0 c38b1); (try clear c39b0 c39b1); (try clear c40b0 c40b1); (try clear hcz12_0 hcz12_1 hcz12_2); (try clear hcz18_0 hcz18_1 hcz18_2); (try clear hcz22_0 hcz22_1 hcz22_2); (try clear hcz26_0 hcz26_1 hcz26_2); (try clear hcz30_0 hcz30_1 hcz30_2); (try clear hcz36_0 hcz36_1 hcz36_2); (try clear hcz8_0 hcz8_1 hcz8_2); (try clear hfz12_0 hfz12_1 hfz12_2); (try clear hfz18_0 hfz18_1 hfz18_2); (try clear hfz22_0 hfz22_1 hfz22_2); (try clear hfz26_0 hfz26_1 hfz26_2); (try clear hfz30_0 hfz30_1 hfz30_2); (try clear hfz36_0 hfz36_1 hfz36_2); (try clear hfz8_0 hfz8_1 hfz8_2)
                obtain ⟨kq, x38_36, rfl, HA, HJ36, BK110, HB⟩ := hcut
                cases kq with
                | zero => exact absurd HA.out (by simp [enc_arith.j7])
                | succ kj36 =>
                 have H := HA.out
                 clear HA
                 simp only [enc_arith.j7] at H
                 by_cases c41 : x38_36 = true
                 ·subst c41
                  rw [if_pos rfl] at H
                  simp only [Option.some.injEq, Prod.mk.injEq] at H
                  obtain ⟨rfl, rfl, rfl⟩ := H
                  have hcz42_0 : wc.cell? ⟨gb110, 0, none⟩ = some (.int .u32 0) := (blk_cell BK110.out 0).trans rfl
                  have hcz42_1 : wc.cell? ⟨gb110, 1, none⟩ = some (.int .u32 0) := (blk_cell BK110.out 1).trans rfl
                  have hcz42_2 : wc.cell? ⟨gb110, 2, none⟩ = some (.int .u32 0) := (blk_cell BK110.out 2).trans rfl
                  have hfz42_0 := blk_frozen BK110.out 0
                  have hfz42_1 := blk_frozen BK110.out 1
                  have hfz42_2 := blk_frozen BK110.out 2
                  go_wp2
                  refine bodyPost_ret (results_cell_row rfl _ _ gb110 120 #[.int .u32 0, .int .u32 5, .int .u32 32] (0, 0) _ rfl (by (with_reducible repeat (first | refine blk_drewN ?_ _ | refine blk_drew ?_ | refine blk_alloc ?_ _)); refine blk_put (cs := #[.int .u32 0, .int .u32 5, .int .u32 0]) ?_ 2 _ rfl; (with_reducible repeat (first | refine blk_drewN ?_ _ | refine blk_drew ?_ | refine blk_alloc ?_ _)); refine blk_put (cs := #[.int .u32 0, .int .u32 0, .int .u32 0]) ?_ 1 _ rfl; (with_reducible repeat (first | refine blk_drewN ?_ _ | refine blk_drew ?_ | refine blk_alloc ?_ _)); refine blk_put (cs := #[.int .u32 0, .int .u32 0, .int .u32 0]) ?_ 0 _ rfl; (with_reducible repeat (first | refine blk_drewN ?_ _ | refine blk_drew ?_ | refine blk_alloc ?_ _)); exact BK110.out) Tryz.underlying120 rfl (by kernel_rfl)) rfl ?_
                  exact ⟨tE, tC⟩
                 replace c41 := Bool.eq_false_iff.mpr c41
                 subst c41
                 rw [if_neg nX] at H
                 by_cases c43 : a0 = 26
                 ·rw [if_pos c43] at H
                  have c43b0 := bT c43; have c43b1 := nF c43
                  clear c43
                  simp only [Option.some.injEq, Prod.mk.injEq] at H
                  obtain ⟨rfl, rfl, rfl⟩ := H
                  have hcz44_0 : wc.cell? ⟨gb110, 0, none⟩ = some (.int .u32 0) := (blk_cell BK110.out 0).trans rfl
                  have hcz44_1 : wc.cell? ⟨gb110, 1, none⟩ = some (.int .u32 0) := (blk_cell BK110.out 1).trans rfl
                  have hcz44_2 : wc.cell? ⟨gb110, 2, none⟩ = some (.int .u32 0) := (blk_cell BK110.out 2).trans rfl
                  have hfz44_0 := blk_frozen BK110.out 0
                  have hfz44_1 := blk_frozen BK110.out 1
                  have hfz44_2 := blk_frozen BK110.out 2
                  go_wp2
                  refine bodyPost_ret (results_cell_row rfl _ _ gb110 120 #[.int .u32 0, .int .u32 6, .int .u32 0] (0, 0) _ rfl (by (with_reducible repeat (first | refine blk_drewN ?_ _ | refine blk_drew ?_ | refine blk_alloc ?_ _)); refine blk_put (cs := #[.int .u32 0, .int .u32 6, .int .u32 0]) ?_ 2 _ rfl; (with_reducible repeat (first | refine blk_drewN ?_ _ | refine blk_drew ?_ | refine blk_alloc ?_ _)); refine blk_put (cs := #[.int .u32 0, .int .u32 0, .int .u32 0]) ?_ 1 _ rfl; (with_reducible repeat (first | refine blk_drewN ?_ _ | refine blk_drew ?_ | refine blk_alloc ?_ _)); refine blk_put (cs := #[.int .u32 0, .int .u32 0, .int .u32 0]) ?_ 0 _ rfl; (with_reducible repeat (first | refine blk_drewN ?_ _ | refine blk_drew ?_ | refine blk_alloc ?_ _)); exact BK110.out) Tryz.underlying120 rfl (by kernel_rfl)) rfl ?_
                  exact ⟨tE, tC⟩
                 rw [if_neg c43] at H
                 have c43b0 := bF c43; have c43b1 := nT c43
                 by_cases c45 : a0 = 43
                 ·rw [if_pos c45] at H
                  have c45b0 := bT c45; have c45b1 := nF c45
                  clear c45
                  simp only [Option.some.injEq, Prod.mk.injEq] at H
                  obtain ⟨rfl, rfl, rfl⟩ := H
                  have hcz46_0 : wc.cell? ⟨gb110, 0, none⟩ = some (.int .u32 0) := (blk_cell BK110.out 0).trans rfl
                  have hcz46_1 : wc.cell? ⟨gb110, 1, none⟩ = some (.int .u32 0) := (blk_cell BK110.out 1).trans rfl
                  have hcz46_2 : wc.cell? ⟨gb110, 2, none⟩ = some (.int .u32 0) := (blk_cell BK110.out 2).trans rfl
                  have hfz46_0 := blk_frozen BK110.out 0
                  have hfz46_1 := blk_frozen BK110.out 1
                  have hfz46_2 := blk_frozen BK110.out 2
                  go_wp2
                  refine bodyPost_ret (results_cell_row rfl _ _ gb110 120 #[.int .u32 0, .int .u32 6, .int .u32 0] (0, 0) _ rfl (by (with_reducible repeat (first | refine blk_drewN ?_ _ | refine blk_drew ?_ | refine blk_alloc ?_ _)); refine blk_put (cs := #[.int .u32 0, .int .u32 6, .int .u32 0]) ?_ 2 _ rfl; (with_reducible repeat (first | refine blk_drewN ?_ _ | refine blk_drew ?_ | refine blk_alloc ?_ _)); refine blk_put (cs := #[.int .u32 0, .int .u32 0, .int .u32 0]) ?_ 1 _ rfl; (with_reducible repeat (first | refine blk_drewN ?_ _ | refine blk_drew ?_ | refine blk_alloc ?_ _)); refine blk_put (cs := #[.int .u32 0, .int .u32 0, .int .u32 0]) ?_ 0 _ rfl; (with_reducible repeat (first | refine blk_drewN ?_ _ | refine blk_drew ?_ | refine blk_alloc ?_ _)); exact BK110.out) Tryz.underlying120 rfl (by kernel_rfl)) rfl ?_
                  exact ⟨tE, tC⟩
                 rw [if_neg c45] at H
                 have c45b0 := bF c45; have c45b1 := nT c45
                 simp only [Option.some.injEq, Prod.mk.injEq] at H
                 obtain ⟨rfl, rfl, rfl⟩ := H
                 have hcz47_0 : wc.cell? ⟨gb110, 0, none⟩ = some (.int .u32 0) := (blk_cell BK110.out 0).trans rfl
                 have hcz47_1 : wc.cell? ⟨gb110, 1, none⟩ = some (.int .u32 0) := (blk_cell BK110.out 1).trans rfl
                 have hcz47_2 : wc.cell? ⟨gb110, 2, none⟩ = some (.int .u32 0) := (blk_cell BK110.out 2).trans rfl
                 have hfz47_0 := blk_frozen BK110.out 0
                 have hfz47_1 := blk_frozen BK110.out 1
                 have hfz47_2 := blk_frozen BK110.out 2
                 go_wp2
                 refine bodyPost_ret (results_cell_row rfl _ _ gb110 120 #[.int .u32 0, .int .u32 7, .int .u32 0] (0, 0) _ rfl (by (with_reducible repeat (first | refine blk_drewN ?_ _ | refine blk_drew ?_ | refine blk_alloc ?_ _)); refine blk_put (cs := #[.int .u32 0, .int .u32 7, .int .u32 0]) ?_ 2 _ rfl; (with_reducible repeat (first | refine blk_drewN ?_ _ | refine blk_drew ?_ | refine blk_alloc ?_ _)); refine blk_put (cs := #[.int .u32 0, .int .u32 0, .int .u32 0]) ?_ 1 _ rfl; (with_reducible repeat (first | refine blk_drewN ?_ _ | refine blk_drew ?_ | refine blk_alloc ?_ _)); refine blk_put (cs := #[.int .u32 0, .int .u32 0, .int .u32 0]) ?_ 0 _ rfl; (with_reducible repeat (first | refine blk_drewN ?_ _ | refine blk_drew ?_ | refine blk_alloc ?_ _)); exact BK110.out) Tryz.underlying120 rfl (by kernel_rfl)) rfl ?_
                 exact ⟨tE, tC⟩
def enc_code_with.f (a0_0 : Int) (a0_1 : Int) (a0_2 : Int) (a1 : Int) : Option (Int × Int × Int) := some (a1, a0_1, a0_2)
set_option maxHeartbeats 8000000 in
set_option maxRecDepth 100000 in
theorem enc_code_with.calls (a0_0 : Int) (a0_1 : Int) (a0_2 : Int) (a1 : Int) (r1 : Int) (r2 : Int) (r3 : Int) (w : World) (h : enc_code_with.f a0_0 a0_1 a0_2 a1 = some (r1, r2, r3)) :
  Calls Tryz.prog 112 #[.agg #[.int .u32 a0_0, .int .u32 a0_1, .int .u32 a0_2], .int .u32 a1] w fun e w' => e = .returned (.agg #[.int .u32 r1, .int .u32 r2, .int .u32 r3]) ∧ Below w.heap.size w w' := by
 have hu120 := Tryz.underlying120
 have HB := Aside0.mk (Below.refl w.heap.size w)
 have H : (some (a1, a0_1, a0_2)) = some (r1, r2, r3) := h
 clear h
 simp only [Option.some.injEq, Prod.mk.injEq] at H
 obtain ⟨rfl, rfl, rfl⟩ := H
 go_enter Tryz.func112, Tryz.ntmps112
 go_wp2_with (first | ((with_reducible refine gate_dst (N := 2) rfl ?_); refine box_event ?hg (N := 2) ?hd (cs := #[.int .u32 a0_0, .int .u32 a0_1, .int .u32 a0_2]) (t := 120) ?hr ?_; (case hd => rfl); (case hg => rfl); (case hr => first | (go_simp; done) | (go_simp; rfl)); intro gb111 hg w3 hbox hb; have n0_ := Aside0.mk (below_step tB hb); have n1_ := Aside0.mk (hbox); have n2_ := Aside0.mk ((by rw [hg]; exact (below_size tB) : w.heap.size ≤ gb111)); have n3_ := Aside0.mk ((by rw [hg]; exact (below_size tB) : w.heap.size ≤ gb111)); clear HB; have HB := n0_; have BK111 := n1_; have GW111 := n2_; have GE111 := n3_; clear n0_ n1_ n2_ n3_; clear hb hbox hg) | ((with_reducible refine gate_dst (N := 4) rfl ?_); refine box_event ?hg (N := 4) ?hd (cs := #[.int .u32 0, .int .u32 0, .int .u32 0]) (t := 120) ?hr ?_; (case hd => rfl); (case hg => rfl); (case hr => first | (go_simp; done) | (go_simp; rfl)); intro gb112 hg w4 hbox hb; have n0_ := Aside0.mk (blk_below (g := gb111) (o := .cells #[.int .u32 a0_0, .int .u32 a0_1, .int .u32 a0_2] 120 (0, 0)) tP hb); have n1_ := Aside0.mk (below_step tC hb); have n2_ := Aside0.mk (hbox); have n3_ := Aside0.mk ((by rw [hg]; exact (below_size tC) : w.heap.size ≤ gb112)); have n4_ := Aside0.mk ((by rw [hg]; exact (below_size tC) : w.heap.size ≤ gb112)); have n5_ := Aside0.mk ((by rw [hg]; exact Nat.ne_of_lt (blk_lt (g := gb111) (o := .cells #[.int .u32 a0_0, .int .u32 a0_1, .int .u32 a0_2] 120 (0, 0)) tP) : gb111 ≠ gb112)); have n6_ := Aside0.mk ((by rw [hg]; exact Nat.ne_of_gt (blk_lt (g := gb111) (o := .cells #[.int .u32 a0_0, .int .u32 a0_1, .int .u32 a0_2] 120 (0, 0)) tP) : gb112 ≠ gb111)); clear BK111; clear HB; have BK111 := n0_; have HB := n1_; have BK112 := n2_; have GW112 := n3_; have GE112 := n4_; have NB111_112 := n5_; have NB112_111 := n6_; clear n0_ n1_ n2_ n3_ n4_ n5_ n6_; clear hb hbox hg; have hnb5 := NB111_112.out; have hnc5 := NB112_111.out; have hcz6_0 : w4.cell? ⟨gb111, 0, none⟩ = some (.int .u32 a0_0) := (blk_cell BK111.out 0).trans rfl; have hcz6_1 : w4.cell? ⟨gb111, 1, none⟩ = some (.int .u32 a0_1) := (blk_cell BK111.out 1).trans rfl; have hcz6_2 : w4.cell? ⟨gb111, 2, none⟩ = some (.int .u32 a0_2) := (blk_cell BK111.out 2).trans rfl; have hfz6_0 := blk_frozen BK111.out 0; have hfz6_1 := blk_frozen BK111.out 1; have hfz6_2 := blk_frozen BK111.out 2; have hcz7_0 : w4.cell? ⟨gb112, 0, none⟩ = some (.int .u32 0) := (blk_cell BK112.out 0).trans rfl; have hcz7_1 : w4.cell? ⟨gb112, 1, none⟩ = some (.int .u32 0) := (blk_cell BK112.out 1).trans rfl; have hcz7_2 : w4.cell? ⟨gb112, 2, none⟩ = some (.int .u32 0) := (blk_cell BK112.out 2).trans rfl; have hfz7_0 := blk_frozen BK112.out 0; have hfz7_1 := blk_frozen BK112.out 1; have hfz7_2 := blk_frozen BK112.out 2))
 refine bodyPost_ret (results_cell_row rfl _ _ gb112 120 #[.int .u32 a1, .int .u32 a0_1, .int .u32 a0_2] (0, 0) _ rfl (by (with_reducible repeat (first | refine blk_drewN ?_ _ | refine blk_drew ?_ | refine blk_alloc ?_ _)); refine blk_put (cs := #[.int .u32 a1, .int .u32 a0_1, .int .u32 0]) ?_ 2 _ rfl; (with_reducible repeat (first | refine blk_drewN ?_ _ | refine blk_drew ?_ | refine blk_alloc ?_ _)); refine blk_put (cs := #[.int .u32 a1, .int .u32 0, .int .u32 0]) ?_ 1 _ rfl; (with_reducible repeat (first | refine blk_drewN ?_ _ | refine blk_drew ?_ | refine blk_alloc ?_ _)); refine blk_put (cs := #[.int .u32 0, .int .u32 0, .int .u32 0]) ?_ 0 _ rfl; (with_reducible repeat (first | refine blk_drewN ?_ _ | refine blk_drew ?_ | refine blk_alloc ?_ _)); exact BK112.out) Tryz.underlying120 rfl (by kernel_rfl)) rfl ?_
 exact ⟨tE, tC⟩
def image_place.f (a0 : Int) (a1 : Int) (a2 : Int) (a3 : Int) : Option (Int × Bool) := if a0 < a1 then (some (0, false)) else (if a0 ≥ (wrap64 (a1 + (wrap64 (a2 * a3)))) then (some (0, false)) else (if a2 = 0 then (none) else (if (Int.tmod a0 a2) = 0 then (some (wrap64 (Int.tdiv (wrap64 (a0 - a1)) a2), true)) else (some (0, false)))))
set_option maxHeartbeats 8000000 in
set_option maxRecDepth 100000 in
theorem image_place.calls (a0 : Int) (a1 : Int) (a2 : Int) (a3 : Int) (r1 : Int) (r2 : Bool) (w : World) (h : image_place.f a0 a1 a2 a3 = some (r1, r2)) :
  Calls Tryz.prog 47 #[.int .i64 a0, .int .i64 a1, .int .i64 a2, .int .i64 a3] w fun e w' => e = .returned (.tuple #[.int .i64 r1, .bool r2]) ∧ Drawn0 w w' := by
 unfold image_place.f at h; have H := h
 clear h
 by_cases c5 : a0 < a1
 ·rw [if_pos c5] at H
  have c5b0 : decide (a0 < a1) = true := decide_eq_true c5
  clear c5
  simp only [Option.some.injEq, Prod.mk.injEq] at H
  obtain ⟨rfl, rfl⟩ := H
  go_enter Tryz.func47, Tryz.ntmps47
  go_wp2
  go_ret2
  exact ⟨tR, tD⟩
 rw [if_neg c5] at H
 have c5b0 : decide (a0 < a1) = false := decide_eq_false c5
 clear c5
 by_cases c6 : a0 ≥ (wrap64 (a1 + (wrap64 (a2 * a3))))
 ·rw [if_pos c6] at H
  have c6b0 : decide ((wrap64 (a1 + (wrap64 (a2 * a3)))) ≤ a0) = true := decide_eq_true c6
  clear c6
  simp only [Option.some.injEq, Prod.mk.injEq] at H
  obtain ⟨rfl, rfl⟩ := H
  go_enter Tryz.func47, Tryz.ntmps47
  go_wp2
  go_ret2
  exact ⟨tR, tD⟩
 rw [if_neg c6] at H
 have c6b0 : decide ((wrap64 (a1 + (wrap64 (a2 * a3)))) ≤ a0) = false := decide_eq_false c6
 clear c6
 by_cases c7 : a2 = 0
 ·rw [if_pos c7] at H
  exact absurd H (by simp)
 rw [if_neg c7] at H
 have c7b0 := bF c7; have c7b1 := nT c7
 by_cases c8 : (Int.tmod a0 a2) = 0
 ·rw [if_pos c8] at H
  have c8b0 : ((Int.tmod a0 a2) == 0) = true := beq_iff_eq.mpr c8
  have c8b1 : ((Int.tmod a0 a2) != 0) = false := bne_eq_false_iff_eq.mpr c8
  clear c8
  simp only [Option.some.injEq, Prod.mk.injEq] at H
  obtain ⟨rfl, rfl⟩ := H
  go_enter Tryz.func47, Tryz.ntmps47
  go_wp2
  go_ret2
  exact ⟨tR, tD⟩
 rw [if_neg c8] at H
 have c8b0 : ((Int.tmod a0 a2) == 0) = false := beq_eq_false_iff_ne.mpr c8
 have c8b1 : ((Int.tmod a0 a2) != 0) = true := bne_iff_ne.mpr c8
 simp only [Option.some.injEq, Prod.mk.injEq] at H
 obtain ⟨rfl, rfl⟩ := H
 go_enter Tryz.func47, Tryz.ntmps47
 go_wp2
 go_ret2
 exact ⟨tR, tD⟩
def spinnakerref07_abs.f (a0 : Int) : Option (Int) := if a0 < 0 then (some (IntKind.u64.wrap (-(IntKind.u64.wrap (a0))))) else (some (IntKind.u64.wrap (a0)))
set_option maxHeartbeats 8000000 in
set_option maxRecDepth 100000 in
theorem spinnakerref07_abs.calls (a0 : Int) (r : Int) (w : World) (h : spinnakerref07_abs.f a0 = some r) :
  Calls Tryz.prog 104 #[.int .i64 a0] w fun e w' => e = .returned (.int .u64 r) ∧ Drawn0 w w' := by
 unfold spinnakerref07_abs.f at h; have H := h
 clear h
 by_cases c2 : a0 < 0
 ·rw [if_pos c2] at H
  have c2b0 : decide (a0 < 0) = true := decide_eq_true c2
  clear c2
  obtain rfl := Option.some.inj H
  go_enter Tryz.func104, Tryz.ntmps104
  go_wp2
  go_ret
  exact ⟨tR, tD⟩
 rw [if_neg c2] at H
 have c2b0 : decide (a0 < 0) = false := decide_eq_false c2
 clear c2
 obtain rfl := Option.some.inj H
 go_enter Tryz.func104, Tryz.ntmps104
 go_wp2
 go_ret
 exact ⟨tR, tD⟩
end Go.Proofs.YtfcniikbcjmlcaaGreatDoor.QA
end
