/- Part KK of the proof of spinnakerlaw19.WindowOrders: for every input the law returns true. -/
import Derived.Test.YtfcniikbcjmlcaaGreatDoorPC
section
namespace Go.Proofs.YtfcniikbcjmlcaaGreatDoor
open Go.RowKit Go.Proofs.YtfcniikbcjmlcaaGreatDoorW.PrintWords Go.Proofs.YtfcniikbcjmlcaaGreatDoorW.PrintLast Go.Proofs.YtfcniikbcjmlcaaGreatDoorW.PrintMore
set_option linter.unusedVariables false
set_option linter.unusedSimpArgs false
def opcTab : List Int := [0, 55, 23, 111, 103, 99, 99, 99, 99, 99, 99, 3, 3, 3, 3, 3, 3, 3, 35, 35, 35, 35, 19, 19, 19, 19, 19, 19, 19, 19, 19, 27, 27, 27, 27, 51, 51, 51, 51, 51, 51, 51, 51, 51, 51, 59, 59, 59, 59, 59, 51, 51, 51, 51, 51, 51, 51, 51, 59, 59, 59, 59, 59, 15, 115, 115, 47, 47, 47, 47, 47, 47, 47, 47, 47, 47, 47, 47, 47, 47, 47, 47, 47, 47, 47, 47, 47, 47]
def f3Tab : List Int := [0, 0, 0, 0, 0, 0, 1, 4, 5, 6, 7, 0, 1, 2, 3, 4, 5, 6, 0, 1, 2, 3, 0, 2, 3, 4, 6, 7, 1, 5, 5, 0, 1, 5, 5, 0, 0, 1, 2, 3, 4, 5, 5, 6, 7, 0, 0, 1, 5, 5, 0, 1, 2, 3, 4, 5, 6, 7, 0, 4, 5, 6, 7, 0, 0, 0, 2, 2, 2, 2, 2, 2, 2, 2, 2, 2, 2, 3, 3, 3, 3, 3, 3, 3, 3, 3, 3, 3]
def f7Tab : List Int := [0, 0, 0, 0, 0, 0, 0, 0, 0, 0, 0, 0, 0, 0, 0, 0, 0, 0, 0, 0, 0, 0, 0, 0, 0, 0, 0, 0, 0, 0, 32, 0, 0, 0, 32, 0, 32, 0, 0, 0, 0, 0, 32, 0, 0, 0, 32, 0, 0, 32, 1, 1, 1, 1, 1, 1, 1, 1, 1, 1, 1, 1, 1, 0, 0, 0, 8, 12, 4, 0, 16, 48, 32, 64, 80, 96, 112, 8, 12, 4, 0, 16, 48, 32, 64, 80, 96, 112]
def enc_of.f (a0 : Int) : Option (Int × Int × Int) := if 1 ≤ a0 ∧ a0 ≤ 87 then some (opcTab.getD a0.toNat 0, f3Tab.getD a0.toNat 0, f7Tab.getD a0.toNat 0) else none
theorem row_below {w w2 : World} (o : Obj) (hb : Below (w.alloc o).heap.size (w.alloc o) w2) (cs : Array Value) : Below w.heap.size w (w2.setRow w.heap.size cs) :=
 have h0 : Below w.heap.size w w2 := below_then ((Below.refl _ _).alloc (Nat.le_refl _) o) (by simp) hb
 ⟨h0.os, h0.tape, h0.output, by rw [setRow_size]; exact h0.size, fun k hk => by rw [setRow_other _ _ _ _ (by omega)]; exact h0.block k hk⟩
theorem row_kept {w w2 : World} (c : Array Value) (t : TypeId) (hb : Below (w.alloc (.cells c t)).heap.size (w.alloc (.cells c t)) w2) : w2.heap[w.heap.size]? = some (.cells c t (0, 0)) := by
 rw [hb.block _ (by simp)]
 exact heap_alloc_last w _
def Ret3 (w : World) (a b c : Int) (e : Ending) (w' : World) : Prop := e = .returned (.agg #[.int .u32 a, .int .u32 b, .int .u32 c]) ∧ Below w.heap.size w w'
theorem Branch_any (a : Int) (w : World) : Calls Tryz.prog 27 #[.int .i64 a] w fun e w' => e = .returned (.bool (decide (5 ≤ a) && decide (a ≤ 10))) ∧ w = w' := by
 go_enter Tryz.func27, Tryz.ntmps27
 go_wp2_with (first | (go_at_call 51; refine (isa_in_any _ _ _ _).mono ?_; rintro e w' ⟨rfl, rfl⟩))
 go_ret
 exact ⟨rfl, rfl⟩
theorem times_of (o : Int) (a : Int) (w : World) (h : (50 ≤ o ∧ o ≤ 57 ∧ a = o - 50) ∨ (o = 58 ∧ a = 0) ∨ (59 ≤ o ∧ o ≤ 62 ∧ a = o - 55)) :
  Calls Tryz.prog 113 #[.int .i64 o] w (Ret3 w 0 a 1) := by
 rcases h with ⟨h1, h2, rfl⟩ | ⟨rfl, rfl⟩ | ⟨h1, h2, rfl⟩
 ·have hd : decide (o ≤ 57) = true := decide_eq_true h2
  have h3 : 0 ≤ o - 50 := by omega
  have h4 : o - 50 < 4294967296 := by omega
  go_enter Tryz.func113, Tryz.ntmps113
  go_wp2
  exact bodyPost_ret (v := .agg #[.int .u32 0, .int .u32 (o - 50), .int .u32 1]) (by simp [results, Tryz.results113, go_sem]) rfl ⟨rfl, (Below.refl _ _).alloc (Nat.le_refl _) _⟩
 ·go_enter Tryz.func113, Tryz.ntmps113
  go_wp2
  exact bodyPost_ret (v := .agg #[.int .u32 0, .int .u32 0, .int .u32 1]) (by simp [results, Tryz.results113, go_sem]) rfl ⟨rfl, (Below.refl _ _).alloc (Nat.le_refl _) _⟩
 have hd : decide (o ≤ 57) = false := decide_eq_false (by omega)
 have hd2 : decide (58 < o) = true := decide_eq_true (by omega)
 have h3 : 0 ≤ o - 59 := by omega
 have h4 : o - 59 + 4 < 4294967296 := by omega
 go_enter Tryz.func113, Tryz.ntmps113
 go_wp2
 have e : o - 59 + 4 = o - 55 := by omega
 rw [e]
 exact bodyPost_ret (v := .agg #[.int .u32 0, .int .u32 (o - 55), .int .u32 1]) (by simp [results, Tryz.results113, go_sem]) rfl ⟨rfl, (Below.refl _ _).alloc (Nat.le_refl _) _⟩
theorem atomic_cases {o : Int} (h : 66 ≤ o ∧ o ≤ 87) : o = 66 ∨ o = 67 ∨ o = 68 ∨ o = 69 ∨ o = 70 ∨ o = 71 ∨ o = 72 ∨ o = 73 ∨ o = 74 ∨ o = 75 ∨ o = 76 ∨ o = 77 ∨ o = 78 ∨ o = 79 ∨ o = 80 ∨ o = 81 ∨ o = 82 ∨ o = 83 ∨ o = 84 ∨ o = 85 ∨ o = 86 ∨ o = 87 := by omega
set_option maxRecDepth 100000 in
set_option maxHeartbeats 4000000 in
theorem atomic_of (o : Int) (w : World) (h : 66 ≤ o ∧ o ≤ 87) :
  Calls Tryz.prog 114 #[.int .i64 o] w (Ret3 w 47 (f3Tab.getD o.toNat 0) (f7Tab.getD o.toNat 0)) := by
 rcases atomic_cases h with rfl | rfl | rfl | rfl | rfl | rfl | rfl | rfl | rfl | rfl | rfl | rfl | rfl | rfl | rfl | rfl | rfl | rfl | rfl | rfl | rfl | rfl
 all_goals
  clear h
  go_enter Tryz.func114, Tryz.ntmps114
  go_wp2
  exact bodyPost_ret (v := .agg #[.int .u32 47, .int .u32 _, .int .u32 _]) (by simp [results, Tryz.results114, go_sem]; exact ⟨rfl, rfl⟩) rfl ⟨rfl, ((Below.refl _ _).alloc (Nat.le_refl _) _).alloc (by simp) _⟩
end Go.Proofs.YtfcniikbcjmlcaaGreatDoor
end
