/- Part KM of the proof of spinnakerlaw19.WindowOrders: for every input the law returns true. -/
import Derived.Test.YtfcniikbcjmlcaaGreatDoorKK
section
namespace Go.Proofs.YtfcniikbcjmlcaaGreatDoor
open Go.RowKit Go.Proofs.YtfcniikbcjmlcaaGreatDoorW.PrintWords Go.Proofs.YtfcniikbcjmlcaaGreatDoorW.PrintLast Go.Proofs.YtfcniikbcjmlcaaGreatDoorW.PrintMore
set_option linter.unusedVariables false
set_option linter.unusedSimpArgs false
abbrev Of (o : Int) (w : World) : Prop := Calls Tryz.prog 95 #[.int .i64 o] w (Ret3 w (opcTab.getD o.toNat 0) (f3Tab.getD o.toNat 0) (f7Tab.getD o.toNat 0))
theorem arith_tab (o : Int) (h : 22 ≤ o ∧ o ≤ 49) : QA.enc_arith.f 8 o = some (0, f3Tab.getD o.toNat 0, f7Tab.getD o.toNat 0) := by
 have : o = 22 ∨ o = 23 ∨ o = 24 ∨ o = 25 ∨ o = 26 ∨ o = 27 ∨ o = 28 ∨ o = 29 ∨ o = 30 ∨ o = 31 ∨ o = 32 ∨ o = 33 ∨ o = 34 ∨ o = 35 ∨ o = 36 ∨ o = 37 ∨ o = 38 ∨ o = 39 ∨ o = 40 ∨ o = 41 ∨ o = 42 ∨ o = 43 ∨ o = 44 ∨ o = 45 ∨ o = 46 ∨ o = 47 ∨ o = 48 ∨ o = 49 := by omega
 rcases this with rfl | rfl | rfl | rfl | rfl | rfl | rfl | rfl | rfl | rfl | rfl | rfl | rfl | rfl | rfl | rfl | rfl | rfl | rfl | rfl | rfl | rfl | rfl | rfl | rfl | rfl | rfl | rfl
 all_goals (clear h; show _ = _; kernel_rfl)
set_option maxRecDepth 100000 in
set_option maxHeartbeats 4000000 in
theorem of_first (o : Int) (w : World) (h : 1 ≤ o ∧ o ≤ 10) : Of o w := by
 have : o = 1 ∨ o = 2 ∨ o = 3 ∨ o = 4 ∨ o = 5 ∨ o = 6 ∨ o = 7 ∨ o = 8 ∨ o = 9 ∨ o = 10 := by omega
 have i0 : ∀ wx, (Instr.index 133 (.agg #[.int .u32 55, .int .u32 23, .int .u32 111, .int .u32 103]) (.int .i64 0)).run Tryz.prog wx = .ok (.int .u32 55) wx := fun wx => run_index_arr wx _ 32 4 _ _ .u32 _ _ (by kernel_rfl) Tryz.underlying32 (by decide) (by decide) (by kernel_rfl) rfl
 have i1 : ∀ wx, (Instr.index 133 (.agg #[.int .u32 55, .int .u32 23, .int .u32 111, .int .u32 103]) (.int .i64 1)).run Tryz.prog wx = .ok (.int .u32 23) wx := fun wx => run_index_arr wx _ 32 4 _ _ .u32 _ _ (by kernel_rfl) Tryz.underlying32 (by decide) (by decide) (by kernel_rfl) rfl
 have i2 : ∀ wx, (Instr.index 133 (.agg #[.int .u32 55, .int .u32 23, .int .u32 111, .int .u32 103]) (.int .i64 2)).run Tryz.prog wx = .ok (.int .u32 111) wx := fun wx => run_index_arr wx _ 32 4 _ _ .u32 _ _ (by kernel_rfl) Tryz.underlying32 (by decide) (by decide) (by kernel_rfl) rfl
 have i3 : ∀ wx, (Instr.index 133 (.agg #[.int .u32 55, .int .u32 23, .int .u32 111, .int .u32 103]) (.int .i64 3)).run Tryz.prog wx = .ok (.int .u32 103) wx := fun wx => run_index_arr wx _ 32 4 _ _ .u32 _ _ (by kernel_rfl) Tryz.underlying32 (by decide) (by decide) (by kernel_rfl) rfl
 have k0 : ∀ wx, (Instr.index 134 (.agg #[.int .u32 0, .int .u32 1, .int .u32 4, .int .u32 5, .int .u32 6, .int .u32 7]) (.int .i64 0)).run Tryz.prog wx = .ok (.int .u32 0) wx := fun wx => run_index_arr wx _ 32 6 _ _ .u32 _ _ (by kernel_rfl) Tryz.underlying32 (by decide) (by decide) (by kernel_rfl) rfl
 have k1 : ∀ wx, (Instr.index 134 (.agg #[.int .u32 0, .int .u32 1, .int .u32 4, .int .u32 5, .int .u32 6, .int .u32 7]) (.int .i64 1)).run Tryz.prog wx = .ok (.int .u32 1) wx := fun wx => run_index_arr wx _ 32 6 _ _ .u32 _ _ (by kernel_rfl) Tryz.underlying32 (by decide) (by decide) (by kernel_rfl) rfl
 have k2 : ∀ wx, (Instr.index 134 (.agg #[.int .u32 0, .int .u32 1, .int .u32 4, .int .u32 5, .int .u32 6, .int .u32 7]) (.int .i64 2)).run Tryz.prog wx = .ok (.int .u32 4) wx := fun wx => run_index_arr wx _ 32 6 _ _ .u32 _ _ (by kernel_rfl) Tryz.underlying32 (by decide) (by decide) (by kernel_rfl) rfl
 have k3 : ∀ wx, (Instr.index 134 (.agg #[.int .u32 0, .int .u32 1, .int .u32 4, .int .u32 5, .int .u32 6, .int .u32 7]) (.int .i64 3)).run Tryz.prog wx = .ok (.int .u32 5) wx := fun wx => run_index_arr wx _ 32 6 _ _ .u32 _ _ (by kernel_rfl) Tryz.underlying32 (by decide) (by decide) (by kernel_rfl) rfl
 have k4 : ∀ wx, (Instr.index 134 (.agg #[.int .u32 0, .int .u32 1, .int .u32 4, .int .u32 5, .int .u32 6, .int .u32 7]) (.int .i64 4)).run Tryz.prog wx = .ok (.int .u32 6) wx := fun wx => run_index_arr wx _ 32 6 _ _ .u32 _ _ (by kernel_rfl) Tryz.underlying32 (by decide) (by decide) (by kernel_rfl) rfl
 have k5 : ∀ wx, (Instr.index 134 (.agg #[.int .u32 0, .int .u32 1, .int .u32 4, .int .u32 5, .int .u32 6, .int .u32 7]) (.int .i64 5)).run Tryz.prog wx = .ok (.int .u32 7) wx := fun wx => run_index_arr wx _ 32 6 _ _ .u32 _ _ (by kernel_rfl) Tryz.underlying32 (by decide) (by decide) (by kernel_rfl) rfl
 clear h
 rcases this with rfl | rfl | rfl | rfl | rfl | rfl | rfl | rfl | rfl | rfl
 all_goals
  unfold Of
  go_enter Tryz.func95, Tryz.ntmps95
  go_wp2_with (first | (go_at_call 27; refine (Branch_any _ _).mono ?_; rintro e w' ⟨rfl, rfl⟩))
  exact bodyPost_ret (results_cell_row rfl _ _ w.heap.size 120 _ (0, 0) _ rfl (heap_alloc_last w _) Tryz.underlying120 rfl (by kernel_rfl)) rfl ⟨rfl, (Below.refl _ _).alloc (Nat.le_refl _) _⟩
theorem code_info : (Tryz.prog.info? 120).map (·.size) = some 3 := by kernel_rfl
set_option maxRecDepth 100000 in
set_option maxHeartbeats 4000000 in
theorem of_mid (o : Int) (w : World) (h : 11 ≤ o ∧ o ≤ 21) : Of o w := by
 have e : (11 ≤ o ∧ o ≤ 17 ∧ Of o w) ∨ True := .inr trivial
 have d1 : decide (o ≤ 4) = false := decide_eq_false (by omega)
 have d2 : (decide (5 ≤ o) && decide (o ≤ 10)) = false := by simp; omega
 unfold Of
 by_cases h2 : o ≤ 17
 ·have d3 : decide (o ≤ 17) = true := decide_eq_true h2
  have h3 : 0 ≤ o - 11 := by omega
  have h4 : o - 11 < 4294967296 := by omega
  have e1 : opcTab.getD o.toNat 0 = 3 ∧ f3Tab.getD o.toNat 0 = o - 11 ∧ f7Tab.getD o.toNat 0 = 0 := by
   have : o = 11 ∨ o = 12 ∨ o = 13 ∨ o = 14 ∨ o = 15 ∨ o = 16 ∨ o = 17 := by omega
   rcases this with rfl | rfl | rfl | rfl | rfl | rfl | rfl <;> exact ⟨rfl, rfl, rfl⟩
  rw [e1.1, e1.2.1, e1.2.2]
  clear e e1 h h2
  go_enter Tryz.func95, Tryz.ntmps95
  go_wp2_with (first | (go_at_call 27; refine (Branch_any _ _).mono ?_; rintro e w' ⟨rfl, rfl⟩; rw [d2]))
  exact bodyPost_ret (results_cell_row rfl _ _ w.heap.size 120 _ (0, 0) _ rfl (heap_alloc_last w _) Tryz.underlying120 rfl (by kernel_rfl)) rfl ⟨rfl, (Below.refl _ _).alloc (Nat.le_refl _) _⟩
 have d3 : decide (o ≤ 17) = false := decide_eq_false h2
 have d4 : decide (o ≤ 21) = true := decide_eq_true h.2
 have h3 : 0 ≤ o - 18 := by omega
 have h4 : o - 18 < 4294967296 := by omega
 have e1 : opcTab.getD o.toNat 0 = 35 ∧ f3Tab.getD o.toNat 0 = o - 18 ∧ f7Tab.getD o.toNat 0 = 0 := by
  have : o = 18 ∨ o = 19 ∨ o = 20 ∨ o = 21 := by omega
  rcases this with rfl | rfl | rfl | rfl <;> exact ⟨rfl, rfl, rfl⟩
 rw [e1.1, e1.2.1, e1.2.2]
 clear e e1 h h2
 go_enter Tryz.func95, Tryz.ntmps95
 go_wp2_with (first | (go_at_call 27; refine (Branch_any _ _).mono ?_; rintro e w' ⟨rfl, rfl⟩; rw [d2]))
 exact bodyPost_ret (results_cell_row rfl _ _ w.heap.size 120 _ (0, 0) _ rfl (heap_alloc_last w _) Tryz.underlying120 rfl (by kernel_rfl)) rfl ⟨rfl, (Below.refl _ _).alloc (Nat.le_refl _) _⟩
def Sides (o : Int) : Prop := decide (o ≤ 4) = false ∧ (decide (5 ≤ o) && decide (o ≤ 10)) = false ∧ decide (o ≤ 17) = false ∧ decide (o ≤ 21) = false
theorem sides_of (o : Int) (h : 22 ≤ o) : Sides o := ⟨decide_eq_false (by omega), by simp; omega, decide_eq_false (by omega), decide_eq_false (by omega)⟩
theorem codes_then {w w1 w2 : World} {c : Array Value} {t : TypeId} (h1 : Below (w.alloc (.cells c t)).heap.size (w.alloc (.cells c t)) w1) (h2 : Below w1.heap.size w1 w2) : Below (w.alloc (.cells c t)).heap.size (w.alloc (.cells c t)) w2 := below_then h1 h1.size h2
set_option maxRecDepth 100000 in
set_option maxHeartbeats 4000000 in
theorem of_arith (o : Int) (w : World) (h : 22 ≤ o ∧ o ≤ 49) : Of o w := by
 obtain ⟨d1, d2, d3, d4⟩ := sides_of o h.1
 have HA := Aside0.mk (arith_tab o h)
 unfold Of
 generalize f3Tab.getD o.toNat 0 = x at *
 generalize f7Tab.getD o.toNat 0 = y at *
 have e1 : (o ≤ 30 ∧ opcTab.getD o.toNat 0 = 19) ∨ (30 < o ∧ o ≤ 34 ∧ opcTab.getD o.toNat 0 = 27) ∨ (34 < o ∧ o ≤ 44 ∧ opcTab.getD o.toNat 0 = 51) ∨ (44 < o ∧ o ≤ 49 ∧ opcTab.getD o.toNat 0 = 59) := by
  have : o = 22 ∨ o = 23 ∨ o = 24 ∨ o = 25 ∨ o = 26 ∨ o = 27 ∨ o = 28 ∨ o = 29 ∨ o = 30 ∨ o = 31 ∨ o = 32 ∨ o = 33 ∨ o = 34 ∨ o = 35 ∨ o = 36 ∨ o = 37 ∨ o = 38 ∨ o = 39 ∨ o = 40 ∨ o = 41 ∨ o = 42 ∨ o = 43 ∨ o = 44 ∨ o = 45 ∨ o = 46 ∨ o = 47 ∨ o = 48 ∨ o = 49 := by omega
  clear HA d1 d2 d3 d4 h
  rcases this with rfl | rfl | rfl | rfl | rfl | rfl | rfl | rfl | rfl | rfl | rfl | rfl | rfl | rfl | rfl | rfl | rfl | rfl | rfl | rfl | rfl | rfl | rfl | rfl | rfl | rfl | rfl | rfl <;> decide
 rcases e1 with ⟨h1, e⟩ | ⟨h0, h1, e⟩ | ⟨h0, h1, e⟩ | ⟨h0, h1, e⟩
 case' inl => have d5 : decide (o ≤ 30) = true := decide_eq_true h1
 case' inr.inl => have d5 : decide (o ≤ 30) = false := decide_eq_false (by omega); have d6 : decide (o ≤ 34) = true := decide_eq_true h1; clear h0
 case' inr.inr.inl => have d5 : decide (o ≤ 30) = false := decide_eq_false (by omega); have d6 : decide (o ≤ 34) = false := decide_eq_false (by omega); have d7 : decide (o ≤ 44) = true := decide_eq_true h1; clear h0
 case' inr.inr.inr => have d5 : decide (o ≤ 30) = false := decide_eq_false (by omega); have d6 : decide (o ≤ 34) = false := decide_eq_false (by omega); have d7 : decide (o ≤ 44) = false := decide_eq_false (by omega); have d8 : decide (o ≤ 49) = true := decide_eq_true h1; clear h0
 all_goals
  rw [e]
  clear e h h1
  go_enter Tryz.func95, Tryz.ntmps95
  go_wp2_with (first | (go_at_call 27; refine (Branch_any _ _).mono ?_; rintro e w' ⟨rfl, rfl⟩; rw [d2]) | (go_at_call 111; refine (QA.enc_arith.calls 8 _ _ _ _ _ HA.out).mono ?_; rintro e w1 ⟨rfl, hb1⟩) | (go_at_call 112; refine (QA.enc_code_with.calls _ _ _ _ _ _ _ _ rfl).mono ?_; rintro e w2 ⟨rfl, hb2⟩; have HB := Aside0.mk (codes_then hb1 hb2); clear hb1 hb2) | (refine wpList_store_row rfl 120 _ _ rfl w.heap.size _ rfl rfl 120 _ (row_kept _ _ HB.out) code_info rfl (by simp [Value.oneCell']) ?_))
  exact bodyPost_ret (results_cell_row rfl _ _ w.heap.size 120 _ (0, 0) _ rfl (setRow_heap _ _ _ _ _ _ (row_kept _ _ HB.out)) Tryz.underlying120 rfl (by kernel_rfl)) rfl ⟨rfl, row_below _ HB.out _⟩
set_option maxRecDepth 100000 in
set_option maxHeartbeats 4000000 in
theorem of_times (o : Int) (w : World) (h : 50 ≤ o ∧ o ≤ 62) : Of o w := by
 obtain ⟨d1, d2, d3, d4⟩ := sides_of o (by omega)
 have d5 : decide (o ≤ 30) = false := decide_eq_false (by omega)
 have d6 : decide (o ≤ 34) = false := decide_eq_false (by omega)
 have d7 : decide (o ≤ 44) = false := decide_eq_false (by omega)
 have d8 : decide (o ≤ 49) = false := decide_eq_false (by omega)
 have e1 : f7Tab.getD o.toNat 0 = 1 ∧ ((50 ≤ o ∧ o ≤ 57 ∧ f3Tab.getD o.toNat 0 = o - 50) ∨ (o = 58 ∧ f3Tab.getD o.toNat 0 = 0) ∨ (59 ≤ o ∧ o ≤ 62 ∧ f3Tab.getD o.toNat 0 = o - 55)) ∧ ((o ≤ 57 ∧ opcTab.getD o.toNat 0 = 51) ∨ (57 < o ∧ opcTab.getD o.toNat 0 = 59)) := by
  have : o = 50 ∨ o = 51 ∨ o = 52 ∨ o = 53 ∨ o = 54 ∨ o = 55 ∨ o = 56 ∨ o = 57 ∨ o = 58 ∨ o = 59 ∨ o = 60 ∨ o = 61 ∨ o = 62 := by omega
  clear d1 d2 d3 d4 d5 d6 d7 d8 h
  rcases this with rfl | rfl | rfl | rfl | rfl | rfl | rfl | rfl | rfl | rfl | rfl | rfl | rfl <;> decide
 obtain ⟨e7, ht, e2⟩ := e1
 have HT := Aside0.mk ht
 unfold Of
 rw [e7]
 generalize f3Tab.getD o.toNat 0 = x at *
 rcases e2 with ⟨h1, e⟩ | ⟨h1, e⟩
 case' inl => have d9 : decide (o ≤ 57) = true := decide_eq_true h1
 case' inr => have d9 : decide (o ≤ 57) = false := decide_eq_false (by omega); have d10 : decide (o ≤ 62) = true := decide_eq_true h.2
 all_goals
  rw [e]
  clear e h h1 e7 ht
  go_enter Tryz.func95, Tryz.ntmps95
  go_wp2_with (first | (go_at_call 27; refine (Branch_any _ _).mono ?_; rintro e w' ⟨rfl, rfl⟩; rw [d2]) | (go_at_call 113; refine (times_of _ _ _ HT.out).mono ?_; rintro e w1 ⟨rfl, hb1⟩) | (go_at_call 112; refine (QA.enc_code_with.calls _ _ _ _ _ _ _ _ rfl).mono ?_; rintro e w2 ⟨rfl, hb2⟩; have HB := Aside0.mk (codes_then hb1 hb2); clear hb1 hb2) | (refine wpList_store_row rfl 120 _ _ rfl w.heap.size _ rfl rfl 120 _ (row_kept _ _ HB.out) code_info rfl (by simp [Value.oneCell']) ?_))
  exact bodyPost_ret (results_cell_row rfl _ _ w.heap.size 120 _ (0, 0) _ rfl (setRow_heap _ _ _ _ _ _ (row_kept _ _ HB.out)) Tryz.underlying120 rfl (by kernel_rfl)) rfl ⟨rfl, row_below _ HB.out _⟩
set_option maxRecDepth 100000 in
set_option maxHeartbeats 4000000 in
theorem of_last (o : Int) (w : World) (h : 63 ≤ o ∧ o ≤ 87) : Of o w := by
 obtain ⟨d1, d2, d3, d4⟩ := sides_of o (by omega)
 have d5 : decide (o ≤ 30) = false := decide_eq_false (by omega)
 have d6 : decide (o ≤ 34) = false := decide_eq_false (by omega)
 have d7 : decide (o ≤ 44) = false := decide_eq_false (by omega)
 have d8 : decide (o ≤ 49) = false := decide_eq_false (by omega)
 have d9 : decide (o ≤ 57) = false := decide_eq_false (by omega)
 have d10 : decide (o ≤ 62) = false := decide_eq_false (by omega)
 by_cases h1 : o ≤ 65
 ·have d12 : decide (o ≤ 65) = true := decide_eq_true h1
  have : o = 63 ∨ o = 64 ∨ o = 65 := by omega
  clear h h1
  rcases this with rfl | rfl | rfl
  all_goals
   clear d1 d2 d3 d4 d5 d6 d7 d8 d9 d10 d12
   unfold Of
   go_enter Tryz.func95, Tryz.ntmps95
   go_wp2_with (first | (go_at_call 27; refine (Branch_any _ _).mono ?_; rintro e w' ⟨rfl, rfl⟩))
   exact bodyPost_ret (results_cell_row rfl _ _ w.heap.size 120 _ (0, 0) _ rfl (heap_alloc_last w _) Tryz.underlying120 rfl (by kernel_rfl)) rfl ⟨rfl, (Below.refl _ _).alloc (Nat.le_refl _) _⟩
 have d11 : (o == 63) = false := beq_eq_false_iff_ne.2 (by omega)
 have d12 : decide (o ≤ 65) = false := decide_eq_false h1
 have e1 : opcTab.getD o.toNat 0 = 47 := by
  have : o = 66 ∨ o = 67 ∨ o = 68 ∨ o = 69 ∨ o = 70 ∨ o = 71 ∨ o = 72 ∨ o = 73 ∨ o = 74 ∨ o = 75 ∨ o = 76 ∨ o = 77 ∨ o = 78 ∨ o = 79 ∨ o = 80 ∨ o = 81 ∨ o = 82 ∨ o = 83 ∨ o = 84 ∨ o = 85 ∨ o = 86 ∨ o = 87 := by omega
  clear d1 d2 d3 d4 d5 d6 d7 d8 d9 d10 d11 d12 h h1
  rcases this with rfl | rfl | rfl | rfl | rfl | rfl | rfl | rfl | rfl | rfl | rfl | rfl | rfl | rfl | rfl | rfl | rfl | rfl | rfl | rfl | rfl | rfl <;> rfl
 have HT := fun w => Aside0.mk (atomic_of o w (by omega))
 unfold Of
 rw [e1]
 generalize f3Tab.getD o.toNat 0 = x at *
 generalize f7Tab.getD o.toNat 0 = y at *
 clear e1 h h1
 go_enter Tryz.func95, Tryz.ntmps95
 go_wp2_with (first | (go_at_call 27; refine (Branch_any _ _).mono ?_; rintro e w' ⟨rfl, rfl⟩; rw [d2]) | (go_at_call 114; refine (HT _).out.mono ?_; rintro e w2 ⟨rfl, hb1⟩; have HB := Aside0.mk hb1; clear hb1) | (refine wpList_store_row rfl 120 _ _ rfl w.heap.size _ rfl rfl 120 _ (row_kept _ _ HB.out) code_info rfl (by simp [Value.oneCell']) ?_))
 exact bodyPost_ret (results_cell_row rfl _ _ w.heap.size 120 _ (0, 0) _ rfl (setRow_heap _ _ _ _ _ _ (row_kept _ _ HB.out)) Tryz.underlying120 rfl (by kernel_rfl)) rfl ⟨rfl, row_below _ HB.out _⟩
theorem enc_of.calls (a0 : Int) (r1 r2 r3 : Int) (w : World) (h : enc_of.f a0 = some (r1, r2, r3)) :
  Calls Tryz.prog 95 #[.int .i64 a0] w fun e w' => e = .returned (.agg #[.int .u32 r1, .int .u32 r2, .int .u32 r3]) ∧ Below w.heap.size w w' := by
 unfold enc_of.f at h
 by_cases h1 : 1 ≤ a0 ∧ a0 ≤ 87
 case neg => rw [if_neg h1] at h; exact absurd h (by simp)
 rw [if_pos h1] at h
 simp only [Option.some.injEq, Prod.mk.injEq] at h
 obtain ⟨rfl, rfl, rfl⟩ := h
 have z : Of a0 w := by
  by_cases c1 : a0 ≤ 10
  ·exact of_first a0 w ⟨h1.1, c1⟩
  by_cases c2 : a0 ≤ 21
  ·exact of_mid a0 w ⟨by omega, c2⟩
  by_cases c3 : a0 ≤ 49
  ·exact of_arith a0 w ⟨by omega, c3⟩
  by_cases c4 : a0 ≤ 62
  ·exact of_times a0 w ⟨by omega, c4⟩
  exact of_last a0 w ⟨by omega, h1.2⟩
 exact z
end Go.Proofs.YtfcniikbcjmlcaaGreatDoor
end
