/- Part KQB6 of the proof of spinnakerlaw19.WindowOrders: for every input the law returns true. -/
import Derived.Test.YtfcniikbcjmlcaaGreatDoorPD
import Derived.Test.YtfcniikbcjmlcaaGreatDoorPE
section
namespace Go.Proofs.YtfcniikbcjmlcaaGreatDoor.QB
open Go.RowKit Go.Proofs.YtfcniikbcjmlcaaGreatDoorW.PrintWords Go.Proofs.YtfcniikbcjmlcaaGreatDoorW.PrintLast Go.Proofs.YtfcniikbcjmlcaaGreatDoorW.PrintMore
attribute [local go_sem] max2_int min2_int max_two min_two max_three min_three max_four min_four   -- for this text's walks alone
set_option linter.unusedVariables false
set_option linter.unusedSimpArgs false
def enc_immediate.j0 : Nat → Bool → Int → Int → Int → Int → Int → Bool → Bool → Option ((List (S124)))
 | 0, _, _, _, _, _, _, _, _ => none
 | k + 1, x74, x199000, x199001, x199002, x199003, x199004, x199005, x199006 => if x74 = true then ((enc_bit.f x199005).bind fun t224 => ((enc_bit.f x199006).bind fun t225 => (some (([(⟨t224, 26, 1⟩ : S124), (⟨t225, 25, 1⟩ : S124)] : List (S124)))))) else (if x199000 = 65 then (some (([(⟨1, 20, 1⟩ : S124)] : List (S124)))) else (some ([] : List (S124))))
def enc_immediate.f (k : Nat) (a0_0 : Int) (a0_1 : Int) (a0_2 : Int) (a0_3 : Int) (a0_4 : Int) (a0_5 : Bool) (a0_6 : Bool) : Option ((List (S124))) := (isa_Form.f k a0_0).bind fun t199 => (if t199 = 1 then (some (([(⟨(IntKind.u64.wrap (a0_4)) % 4294967296, 12, 20⟩ : S124)] : List (S124)))) else (if t199 = 2 then (some (([(⟨((IntKind.u64.wrap (a0_4)) % 4294967296) / 1048576, 31, 1⟩ : S124), (⟨((IntKind.u64.wrap (a0_4)) % 4294967296) / 2, 21, 10⟩ : S124), (⟨((IntKind.u64.wrap (a0_4)) % 4294967296) / 2048, 20, 1⟩ : S124), (⟨((IntKind.u64.wrap (a0_4)) % 4294967296) / 4096, 12, 8⟩ : S124)] : List (S124)))) else (if t199 = 3 then (some (([(⟨(IntKind.u64.wrap (a0_4)) % 4294967296, 20, 12⟩ : S124)] : List (S124)))) else (if t199 = 4 then (some (([(⟨((IntKind.u64.wrap (a0_4)) % 4294967296) / 4096, 31, 1⟩ : S124), (⟨((IntKind.u64.wrap (a0_4)) % 4294967296) / 32, 25, 6⟩ : S124), (⟨((IntKind.u64.wrap (a0_4)) % 4294967296) / 2, 8, 4⟩ : S124), (⟨((IntKind.u64.wrap (a0_4)) % 4294967296) / 2048, 7, 1⟩ : S124)] : List (S124)))) else (if t199 = 5 then (some (([(⟨((IntKind.u64.wrap (a0_4)) % 4294967296) / 32, 25, 7⟩ : S124), (⟨(IntKind.u64.wrap (a0_4)) % 4294967296, 7, 5⟩ : S124)] : List (S124)))) else (if t199 = 7 then (some (([(⟨(IntKind.u64.wrap (a0_4)) % 4294967296, 20, 6⟩ : S124)] : List (S124)))) else (if t199 = 8 then (some (([(⟨(IntKind.u64.wrap (a0_4)) % 4294967296, 20, 5⟩ : S124)] : List (S124)))) else (if t199 = 9 then (some (([(⟨(IntKind.u64.wrap (a0_4)) % 4294967296, 20, 8⟩ : S124)] : List (S124)))) else (if t199 = 10 then (enc_immediate.j0 k (t199 == 10) a0_0 a0_1 a0_2 a0_3 a0_4 a0_5 a0_6) else (enc_immediate.j0 k (t199 == 11) a0_0 a0_1 a0_2 a0_3 a0_4 a0_5 a0_6))))))))))
def enc_immediate.T21 : Bool × List (List Nat × List Nat) := (true, [([], []), ([0], [0]), ([1], [1]), ([2], [2]), ([], []), ([4], [4]), ([5, 2], [5]), ([6], [6]), ([3, 7], [3, 7]), ([8, 6, 0, 1, 2, 3, 4, 5, 6, 7, 8], [8])])
def enc_immediate.B21 : List Nat := [0, 1, 3, 7, 0, 16, 55, 119, 255, 511]
theorem enc_immediate.tab21 : rtab .any (opsOf Tryz.f98 21) = enc_immediate.T21 := by kernel_rfl
theorem enc_immediate.bits21 : waitsOk enc_immediate.T21.2 enc_immediate.B21 = true := by kernel_rfl
set_option maxHeartbeats 8000000 in
set_option maxRecDepth 100000 in
theorem enc_immediate.calls (k : Nat) (a0_0 : Int) (a0_1 : Int) (a0_2 : Int) (a0_3 : Int) (a0_4 : Int) (a0_5 : Bool) (a0_6 : Bool) (r : List (S124)) (w : World) (hG : GOK w) (h : enc_immediate.f k a0_0 a0_1 a0_2 a0_3 a0_4 a0_5 a0_6 = some r) :
  Calls Tryz.prog 98 #[.agg #[.int .i64 a0_0, .int .i64 a0_1, .int .i64 a0_2, .int .i64 a0_3, .int .i64 a0_4, .bool a0_5, .bool a0_6]] w fun e w' => ∃ v0_ : Value, e = .returned (v0_) ∧ Kd.R k124 124 w' w.heap.size (fun _ => True) v0_ r ∧ Below w.heap.size w w' := by
 have hu31 := Tryz.underlying31
 have hu124 := Tryz.underlying124
 have HG := Aside0.mk hG
 clear hG
 have HB := Aside0.mk (Below.refl w.heap.size w)
 unfold enc_immediate.f at h; have H := h
 clear h
 obtain ⟨t199, A20, H⟩ := Option.bind_eq_some_iff.mp H
 try dsimp only at H
 have A2 := Aside0.mk A20; clear A20
 by_cases c3 : t199 = 1
 ·rw [if_pos c3] at H
  have c3b0 := bT c3; have c3b1 := nF c3
  clear c3
  obtain ⟨y200, hy200⟩ : ∃ y_ : List (S124), y_ = (([(⟨(IntKind.u64.wrap (a0_4)) % 4294967296, 12, 20⟩ : S124)] : List (S124))) := ⟨_, rfl⟩
  replace H : (some y200) = some r := by first | (rw [hy200]; with_reducible exact H) | (have H2_ := (Option.bind_some _ _).symm.trans H; rw [hy200]; with_reducible exact H2_) | (have H2_ := (Option.bind_some _ _).symm.trans H; with_reducible exact H2_) | with_reducible exact H | (rw [hy200]; exact H) | exact H
  have Ny200 := Aside0.mk hy200
  clear hy200
  obtain rfl := Option.some.inj H
  go_enter Tryz.func98, Tryz.ntmps98
  go_wp2_with (first | ((with_reducible refine gate_dst (N := 1) rfl ?_); refine box_event ?hg (N := 1) ?hd (cs := #[.int .i64 a0_0, .int .i64 a0_1, .int .i64 a0_2, .int .i64 a0_3, .int .i64 a0_4, .bool a0_5, .bool a0_6]) (t := 31) ?hr ?_; (case hd => rfl); (case hg => rfl); (case hr => first | (go_simp; done) | (go_simp; rfl)); intro gb198 hg w4 hbox hb; have n0_ := Aside0.mk (below_step tB hb); have n1_ := Aside0.mk (hbox); have n2_ := Aside0.mk ((by rw [hg]; exact (below_size tB) : w.heap.size ≤ gb198)); have n3_ := Aside0.mk ((by rw [hg]; exact (below_size tB) : w.heap.size ≤ gb198)); clear HB; have HB := n0_; have BK198 := n1_; have GW198 := n2_; have GE198 := n3_; clear n0_ n1_ n2_ n3_; clear hb hbox hg; have hcz5_0 : w4.cell? ⟨gb198, 0, none⟩ = some (.int .i64 a0_0) := (blk_cell BK198.out 0).trans rfl; have hcz5_1 : w4.cell? ⟨gb198, 1, none⟩ = some (.int .i64 a0_1) := (blk_cell BK198.out 1).trans rfl; have hcz5_2 : w4.cell? ⟨gb198, 2, none⟩ = some (.int .i64 a0_2) := (blk_cell BK198.out 2).trans rfl; have hcz5_3 : w4.cell? ⟨gb198, 3, none⟩ = some (.int .i64 a0_3) := (blk_cell BK198.out 3).trans rfl; have hcz5_4 : w4.cell? ⟨gb198, 4, none⟩ = some (.int .i64 a0_4) := (blk_cell BK198.out 4).trans rfl; have hcz5_5 : w4.cell? ⟨gb198, 5, none⟩ = some (.bool a0_5) := (blk_cell BK198.out 5).trans rfl; have hcz5_6 : w4.cell? ⟨gb198, 6, none⟩ = some (.bool a0_6) := (blk_cell BK198.out 6).trans rfl; have hfz5_0 := blk_frozen BK198.out 0; have hfz5_1 := blk_frozen BK198.out 1; have hfz5_2 := blk_frozen BK198.out 2; have hfz5_3 := blk_frozen BK198.out 3; have hfz5_4 := blk_frozen BK198.out 4; have hfz5_5 := blk_frozen BK198.out 5; have hfz5_6 := blk_frozen BK198.out 6) | ((with_reducible refine gate_callee (f := 55) rfl ?_); refine goesL_ (some 10) rfl rfl Tryz.func55 (by kernel_rfl) rfl #[.int .i64 a0_0] rfl tM ?_; (with_reducible refine (isa_Form.calls k a0_0 t199 _ ?side1 A2.out).mono ?_); (case side1 => exact GOK.below tC HG.out); rintro e w' ⟨rfl, ⟨nd, rfl⟩⟩; refine ⟨_, rfl, ?_⟩) | ((with_reducible refine gate_dst (N := 15) rfl ?_); refine Kd.R_lit k124 _ 124 ?hg (N := 15) ?hd (xs := ([(⟨(IntKind.u64.wrap (a0_4)) % 4294967296, 12, 20⟩ : S124)] : List (S124))) (inner := [.int .u32 ((IntKind.u64.wrap (a0_4)) % 4294967296), .int .i64 12, .int .i64 20]) (ok := fun _ => True) (okp := fun _ => True) ?hr ?hp (fun _ hk => hk) trivial (Below.refl _ _) (Nat.le_refl _) (by simp) ?_; (case hd => rfl); (case hg => rfl); (case hr => first | (go_simp; done) | (go_simp; rfl)); (case hp => exact (Reps.c3 (show Kd.M k124 _ _ _ (⟨(IntKind.u64.wrap (a0_4)) % 4294967296, 12, 20⟩ : S124) [.int .u32 ((IntKind.u64.wrap (a0_4)) % 4294967296), .int .i64 12, .int .i64 20] from (k124_mkM _ _ _ (⟨(IntKind.u64.wrap (a0_4)) % 4294967296, 12, 20⟩ : S124) )) (Reps.none _ _))); intro v201 w6 ho7 hb hg_ hnew_; clear hg_ hnew_; (first | rw [← Ny200.out] at ho7 | (simp only [Int.reduceToNat] at ho7; rw [← Ny200.out] at ho7)); have n0_ := Aside0.mk (Kd.R_lower ho7 (below_size tC)); have n1_ := Aside0.mk (blk_below (g := gb198) (o := .cells #[.int .i64 a0_0, .int .i64 a0_1, .int .i64 a0_2, .int .i64 a0_3, .int .i64 a0_4, .bool a0_5, .bool a0_6] 31 (0, 0)) tP hb); have n2_ := Aside0.mk (below_step tC hb); clear BK198; clear HB; have HO202 := n0_; have BK198 := n1_; have HB := n2_; clear n0_ n1_ n2_; clear hb ho7))
  go_ret
  exact ⟨_, tE, by (with_reducible repeat (first | apply Kd.R_alloc | apply Kd.R_drewN | apply Kd.R_drew)); exact HO202.out, tC⟩
 rw [if_neg c3] at H
 have c3b0 := bF c3; have c3b1 := nT c3
 by_cases c8 : t199 = 2
 ·rw [if_pos c8] at H
  have c8b0 := bT c8; have c8b1 := nF c8
  clear c8
  obtain ⟨y203, hy203⟩ : ∃ y_ : List (S124), y_ = (([(⟨((IntKind.u64.wrap (a0_4)) % 4294967296) / 1048576, 31, 1⟩ : S124), (⟨((IntKind.u64.wrap (a0_4)) % 4294967296) / 2, 21, 10⟩ : S124), (⟨((IntKind.u64.wrap (a0_4)) % 4294967296) / 2048, 20, 1⟩ : S124), (⟨((IntKind.u64.wrap (a0_4)) % 4294967296) / 4096, 12, 8⟩ : S124)] : List (S124))) := ⟨_, rfl⟩
  replace H : (some y203) = some r := by first | (rw [hy203]; with_reducible exact H) | (have H2_ := (Option.bind_some _ _).symm.trans H; rw [hy203]; with_reducible exact H2_) | (have H2_ := (Option.bind_some _ _).symm.trans H; with_reducible exact H2_) | with_reducible exact H | (rw [hy203]; exact H) | exact H
  have Ny203 := Aside0.mk hy203
  clear hy203
  obtain rfl := Option.some.inj H
  go_enter Tryz.func98, Tryz.ntmps98
  go_wp2_with (first | ((with_reducible refine gate_dst (N := 1) rfl ?_); refine box_event ?hg (N := 1) ?hd (cs := #[.int .i64 a0_0, .int .i64 a0_1, .int .i64 a0_2, .int .i64 a0_3, .int .i64 a0_4, .bool a0_5, .bool a0_6]) (t := 31) ?hr ?_; (case hd => rfl); (case hg => rfl); (case hr => first | (go_simp; done) | (go_simp; rfl)); intro gb198 hg w9 hbox hb; have n0_ := Aside0.mk (below_step tB hb); have n1_ := Aside0.mk (hbox); have n2_ := Aside0.mk ((by rw [hg]; exact (below_size tB) : w.heap.size ≤ gb198)); have n3_ := Aside0.mk ((by rw [hg]; exact (below_size tB) : w.heap.size ≤ gb198)); clear HB; have HB := n0_; have BK198 := n1_; have GW198 := n2_; have GE198 := n3_; clear n0_ n1_ n2_ n3_; clear hb hbox hg; have hcz10_0 : w9.cell? ⟨gb198, 0, none⟩ = some (.int .i64 a0_0) := (blk_cell BK198.out 0).trans rfl; have hcz10_1 : w9.cell? ⟨gb198, 1, none⟩ = some (.int .i64 a0_1) := (blk_cell BK198.out 1).trans rfl; have hcz10_2 : w9.cell? ⟨gb198, 2, none⟩ = some (.int .i64 a0_2) := (blk_cell BK198.out 2).trans rfl; have hcz10_3 : w9.cell? ⟨gb198, 3, none⟩ = some (.int .i64 a0_3) := (blk_cell BK198.out 3).trans rfl; have hcz10_4 : w9.cell? ⟨gb198, 4, none⟩ = some (.int .i64 a0_4) := (blk_cell BK198.out 4).trans rfl; have hcz10_5 : w9.cell? ⟨gb198, 5, none⟩ = some (.bool a0_5) := (blk_cell BK198.out 5).trans rfl; have hcz10_6 : w9.cell? ⟨gb198, 6, none⟩ = some (.bool a0_6) := (blk_cell BK198.out 6).trans rfl; have hfz10_0 := blk_frozen BK198.out 0; have hfz10_1 := blk_frozen BK198.out 1; have hfz10_2 := blk_frozen BK198.out 2; have hfz10_3 := blk_frozen BK198.out 3; have hfz10_4 := blk_frozen BK198.out 4; have hfz10_5 := blk_frozen BK198.out 5; have hfz10_6 := blk_frozen BK198.out 6) | ((with_reducible refine gate_callee (f := 55) rfl ?_); refine goesL_ (some 10) rfl rfl Tryz.func55 (by kernel_rfl) rfl #[.int .i64 a0_0] rfl tM ?_; (with_reducible refine (isa_Form.calls k a0_0 t199 _ ?side1 A2.out).mono ?_); (case side1 => exact GOK.below tC HG.out); rintro e w' ⟨rfl, ⟨nd, rfl⟩⟩; refine ⟨_, rfl, ?_⟩) | ((with_reducible refine gate_dst (N := 30) rfl ?_); refine Kd.R_lit k124 _ 124 ?hg (N := 30) ?hd (xs := ([(⟨((IntKind.u64.wrap (a0_4)) % 4294967296) / 1048576, 31, 1⟩ : S124), (⟨((IntKind.u64.wrap (a0_4)) % 4294967296) / 2, 21, 10⟩ : S124), (⟨((IntKind.u64.wrap (a0_4)) % 4294967296) / 2048, 20, 1⟩ : S124), (⟨((IntKind.u64.wrap (a0_4)) % 4294967296) / 4096, 12, 8⟩ : S124)] : List (S124))) (inner := [.int .u32 (((IntKind.u64.wrap (a0_4)) % 4294967296) / 1048576), .int .i64 31, .int .i64 1, .int .u32 (((IntKind.u64.wrap (a0_4)) % 4294967296) / 2), .int .i64 21, .int .i64 10, .int .u32 (((IntKind.u64.wrap (a0_4)) % 4294967296) / 2048), .int .i64 20, .int .i64 1, .int .u32 (((IntKind.u64.wrap (a0_4)) % 4294967296) / 4096), .int .i64 12, .int .i64 8]) (ok := fun _ => True) (okp := fun _ => True) ?hr ?hp (fun _ hk => hk) trivial (Below.refl _ _) (Nat.le_refl _) (by simp) ?_; (case hd => rfl); (case hg => rfl); (case hr => first | (go_simp; done) | (go_simp; rfl)); (case hp => exact (Reps.c3 (show Kd.M k124 _ _ _ (⟨((IntKind.u64.wrap (a0_4)) % 4294967296) / 1048576, 31, 1⟩ : S124) [.int .u32 (((IntKind.u64.wrap (a0_4)) % 4294967296) / 1048576), .int .i64 31, .int .i64 1] from (k124_mkM _ _ _ (⟨((IntKind.u64.wrap (a0_4)) % 4294967296) / 1048576, 31, 1⟩ : S124) )) (Reps.c3 (show Kd.M k124 _ _ _ (⟨((IntKind.u64.wrap (a0_4)) % 4294967296) / 2, 21, 10⟩ : S124) [.int .u32 (((IntKind.u64.wrap (a0_4)) % 4294967296) / 2), .int .i64 21, .int .i64 10] from (k124_mkM _ _ _ (⟨((IntKind.u64.wrap (a0_4)) % 4294967296) / 2, 21, 10⟩ : S124) )) (Reps.c3 (show Kd.M k124 _ _ _ (⟨((IntKind.u64.wrap (a0_4)) % 4294967296) / 2048, 20, 1⟩ : S124) [.int .u32 (((IntKind.u64.wrap (a0_4)) % 4294967296) / 2048), .int .i64 20, .int .i64 1] from (k124_mkM _ _ _ (⟨((IntKind.u64.wrap (a0_4)) % 4294967296) / 2048, 20, 1⟩ : S124) )) (Reps.c3 (show Kd.M k124 _ _ _ (⟨((IntKind.u64.wrap (a0_4)) % 4294967296) / 4096, 12, 8⟩ : S124) [.int .u32 (((IntKind.u64.wrap (a0_4)) % 4294967296) / 4096), .int .i64 12, .int .i64 8] from (k124_mkM _ _ _ (⟨((IntKind.u64.wrap (a0_4)) % 4294967296) / 4096, 12, 8⟩ : S124) )) (Reps.none _ _)))))); intro v204 w11 ho12 hb hg_ hnew_; clear hg_ hnew_; (first | rw [← Ny203.out] at ho12 | (simp only [Int.reduceToNat] at ho12; rw [← Ny203.out] at ho12)); have n0_ := Aside0.mk (Kd.R_lower ho12 (below_size tC)); have n1_ := Aside0.mk (blk_below (g := gb198) (o := .cells #[.int .i64 a0_0, .int .i64 a0_1, .int .i64 a0_2, .int .i64 a0_3, .int .i64 a0_4, .bool a0_5, .bool a0_6] 31 (0, 0)) tP hb); have n2_ := Aside0.mk (below_step tC hb); clear BK198; clear HB; have HO205 := n0_; have BK198 := n1_; have HB := n2_; clear n0_ n1_ n2_; clear hb ho12))
  go_ret
  exact ⟨_, tE, by (with_reducible repeat (first | apply Kd.R_alloc | apply Kd.R_drewN | apply Kd.R_drew)); exact HO205.out, tC⟩
 rw [if_neg c8] at H
 have c8b0 := bF c8; have c8b1 := nT c8
 by_cases c13 : t199 = 3
 ·rw [if_pos c13] at H
  have c13b0 := bT c13; have c13b1 := nF c13
  clear c13
  obtain ⟨y206, hy206⟩ : ∃ y_ : List (S124), y_ = (([(⟨(IntKind.u64.wrap (a0_4)) % 4294967296, 20, 12⟩ : S124)] : List (S124))) := ⟨_, rfl⟩
  replace H : (some y206) = some r := by first | (rw [hy206]; with_reducible exact H) | (have H2_ := (Option.bind_some _ _).symm.trans H; rw [hy206]; with_reducible exact H2_) | (have H2_ := (Option.bind_some _ _).symm.trans H; with_reducible exact H2_) | with_reducible exact H | (rw [hy206]; exact H) | exact H
  have Ny206 := Aside0.mk hy206
  clear hy206
  obtain rfl := Option.some.inj H
  go_enter Tryz.func98, Tryz.ntmps98
  go_wp2_with (first | ((with_reducible refine gate_dst (N := 1) rfl ?_); refine box_event ?hg (N := 1) ?hd (cs := #[.int .i64 a0_0, .int .i64 a0_1, .int .i64 a0_2, .int .i64 a0_3, .int .i64 a0_4, .bool a0_5, .bool a0_6]) (t := 31) ?hr ?_; (case hd => rfl); (case hg => rfl); (case hr => first | (go_simp; done) | (go_simp; rfl)); intro gb198 hg w14 hbox hb; have n0_ := Aside0.mk (below_step tB hb); have n1_ := Aside0.mk (hbox); have n2_ := Aside0.mk ((by rw [hg]; exact (below_size tB) : w.heap.size ≤ gb198)); have n3_ := Aside0.mk ((by rw [hg]; exact (below_size tB) : w.heap.size ≤ gb198)); clear HB; have HB := n0_; have BK198 := n1_; have GW198 := n2_; have GE198 := n3_; clear n0_ n1_ n2_ n3_; clear hb hbox hg; have hcz15_0 : w14.cell? ⟨gb198, 0, none⟩ = some (.int .i64 a0_0) := (blk_cell BK198.out 0).trans rfl; have hcz15_1 : w14.cell? ⟨gb198, 1, none⟩ = some (.int .i64 a0_1) := (blk_cell BK198.out 1).trans rfl; have hcz15_2 : w14.cell? ⟨gb198, 2, none⟩ = some (.int .i64 a0_2) := (blk_cell BK198.out 2).trans rfl; have hcz15_3 : w14.cell? ⟨gb198, 3, none⟩ = some (.int .i64 a0_3) := (blk_cell BK198.out 3).trans rfl; have hcz15_4 : w14.cell? ⟨gb198, 4, none⟩ = some (.int .i64 a0_4) := (blk_cell BK198.out 4).trans rfl; have hcz15_5 : w14.cell? ⟨gb198, 5, none⟩ = some (.bool a0_5) := (blk_cell BK198.out 5).trans rfl; have hcz15_6 : w14.cell? ⟨gb198, 6, none⟩ = some (.bool a0_6) := (blk_cell BK198.out 6).trans rfl; have hfz15_0 := blk_frozen BK198.out 0; have hfz15_1 := blk_frozen BK198.out 1; have hfz15_2 := blk_frozen BK198.out 2; have hfz15_3 := blk_frozen BK198.out 3; have hfz15_4 := blk_frozen BK198.out 4; have hfz15_5 := blk_frozen BK198.out 5; have hfz15_6 := blk_frozen BK198.out 6) | ((with_reducible refine gate_callee (f := 55) rfl ?_); refine goesL_ (some 10) rfl rfl Tryz.func55 (by kernel_rfl) rfl #[.int .i64 a0_0] rfl tM ?_; (with_reducible refine (isa_Form.calls k a0_0 t199 _ ?side1 A2.out).mono ?_); (case side1 => exact GOK.below tC HG.out); rintro e w' ⟨rfl, ⟨nd, rfl⟩⟩; refine ⟨_, rfl, ?_⟩) | ((with_reducible refine gate_dst (N := 35) rfl ?_); refine Kd.R_lit k124 _ 124 ?hg (N := 35) ?hd (xs := ([(⟨(IntKind.u64.wrap (a0_4)) % 4294967296, 20, 12⟩ : S124)] : List (S124))) (inner := [.int .u32 ((IntKind.u64.wrap (a0_4)) % 4294967296), .int .i64 20, .int .i64 12]) (ok := fun _ => True) (okp := fun _ => True) ?hr ?hp (fun _ hk => hk) trivial (Below.refl _ _) (Nat.le_refl _) (by simp) ?_; (case hd => rfl); (case hg => rfl); (case hr => first | (go_simp; done) | (go_simp; rfl)); (case hp => exact (Reps.c3 (show Kd.M k124 _ _ _ (⟨(IntKind.u64.wrap (a0_4)) % 4294967296, 20, 12⟩ : S124) [.int .u32 ((IntKind.u64.wrap (a0_4)) % 4294967296), .int .i64 20, .int .i64 12] from (k124_mkM _ _ _ (⟨(IntKind.u64.wrap (a0_4)) % 4294967296, 20, 12⟩ : S124) )) (Reps.none _ _))); intro v207 w16 ho17 hb hg_ hnew_; clear hg_ hnew_; (first | rw [← Ny206.out] at ho17 | (simp only [Int.reduceToNat] at ho17; rw [← Ny206.out] at ho17)); have n0_ := Aside0.mk (Kd.R_lower ho17 (below_size tC)); have n1_ := Aside0.mk (blk_below (g := gb198) (o := .cells #[.int .i64 a0_0, .int .i64 a0_1, .int .i64 a0_2, .int .i64 a0_3, .int .i64 a0_4, .bool a0_5, .bool a0_6] 31 (0, 0)) tP hb); have n2_ := Aside0.mk (below_step tC hb); clear BK198; clear HB; have HO208 := n0_; have BK198 := n1_; have HB := n2_; clear n0_ n1_ n2_; clear hb ho17))
  go_ret
  exact ⟨_, tE, by (with_reducible repeat (first | apply Kd.R_alloc | apply Kd.R_drewN | apply Kd.R_drew)); exact HO208.out, tC⟩
 rw [if_neg c13] at H
 have c13b0 := bF c13; have c13b1 := nT c13
 by_cases c18 : t199 = 4
 ·rw [if_pos c18] at H
  have c18b0 := bT c18; have c18b1 := nF c18
  clear c18
  obtain ⟨y209, hy209⟩ : ∃ y_ : List (S124), y_ = (([(⟨((IntKind.u64.wrap (a0_4)) % 4294967296) / 4096, 31, 1⟩ : S124), (⟨((IntKind.u64.wrap (a0_4)) % 4294967296) / 32, 25, 6⟩ : S124), (⟨((IntKind.u64.wrap (a0_4)) % 4294967296) / 2, 8, 4⟩ : S124), (⟨((IntKind.u64.wrap (a0_4)) % 4294967296) / 2048, 7, 1⟩ : S124)] : List (S124))) := ⟨_, rfl⟩
  replace H : (some y209) = some r := by first | (rw [hy209]; with_reducible exact H) | (have H2_ := (Option.bind_some _ _).symm.trans H; rw [hy209]; with_reducible exact H2_) | (have H2_ := (Option.bind_some _ _).symm.trans H; with_reducible exact H2_) | with_reducible exact H | (rw [hy209]; exact H) | exact H
  have Ny209 := Aside0.mk hy209
  clear hy209
  obtain rfl := Option.some.inj H
  go_enter Tryz.func98, Tryz.ntmps98
  go_wp2_with (first | ((with_reducible refine gate_dst (N := 1) rfl ?_); refine box_event ?hg (N := 1) ?hd (cs := #[.int .i64 a0_0, .int .i64 a0_1, .int .i64 a0_2, .int .i64 a0_3, .int .i64 a0_4, .bool a0_5, .bool a0_6]) (t := 31) ?hr ?_; (case hd => rfl); (case hg => rfl); (case hr => first | (go_simp; done) | (go_simp; rfl)); intro gb198 hg w19 hbox hb; have n0_ := Aside0.mk (below_step tB hb); have n1_ := Aside0.mk (hbox); have n2_ := Aside0.mk ((by rw [hg]; exact (below_size tB) : w.heap.size ≤ gb198)); have n3_ := Aside0.mk ((by rw [hg]; exact (below_size tB) : w.heap.size ≤ gb198)); clear HB; have HB := n0_; have BK198 := n1_; have GW198 := n2_; have GE198 := n3_; clear n0_ n1_ n2_ n3_; clear hb hbox hg; have hcz20_0 : w19.cell? ⟨gb198, 0, none⟩ = some (.int .i64 a0_0) := (blk_cell BK198.out 0).trans rfl; have hcz20_1 : w19.cell? ⟨gb198, 1, none⟩ = some (.int .i64 a0_1) := (blk_cell BK198.out 1).trans rfl; have hcz20_2 : w19.cell? ⟨gb198, 2, none⟩ = some (.int .i64 a0_2) := (blk_cell BK198.out 2).trans rfl; have hcz20_3 : w19.cell? ⟨gb198, 3, none⟩ = some (.int .i64 a0_3) := (blk_cell BK198.out 3).trans rfl; have hcz20_4 : w19.cell? ⟨gb198, 4, none⟩ = some (.int .i64 a0_4) := (blk_cell BK198.out 4).trans rfl; have hcz20_5 : w19.cell? ⟨gb198, 5, none⟩ = some (.bool a0_5) := (blk_cell BK198.out 5).trans rfl; have hcz20_6 : w19.cell? ⟨gb198, 6, none⟩ = some (.bool a0_6) := (blk_cell BK198.out 6).trans rfl; have hfz20_0 := blk_frozen BK198.out 0; have hfz20_1 := blk_frozen BK198.out 1; have hfz20_2 := blk_frozen BK198.out 2; have hfz20_3 := blk_frozen BK198.out 3; have hfz20_4 := blk_frozen BK198.out 4; have hfz20_5 := blk_frozen BK198.out 5; have hfz20_6 := blk_frozen BK198.out 6) | ((with_reducible refine gate_callee (f := 55) rfl ?_); refine goesL_ (some 10) rfl rfl Tryz.func55 (by kernel_rfl) rfl #[.int .i64 a0_0] rfl tM ?_; (with_reducible refine (isa_Form.calls k a0_0 t199 _ ?side1 A2.out).mono ?_); (case side1 => exact GOK.below tC HG.out); rintro e w' ⟨rfl, ⟨nd, rfl⟩⟩; refine ⟨_, rfl, ?_⟩) | ((with_reducible refine gate_dst (N := 50) rfl ?_); refine Kd.R_lit k124 _ 124 ?hg (N := 50) ?hd (xs := ([(⟨((IntKind.u64.wrap (a0_4)) % 4294967296) / 4096, 31, 1⟩ : S124), (⟨((IntKind.u64.wrap (a0_4)) % 4294967296) / 32, 25, 6⟩ : S124), (⟨((IntKind.u64.wrap (a0_4)) % 4294967296) / 2, 8, 4⟩ : S124), (⟨((IntKind.u64.wrap (a0_4)) % 4294967296) / 2048, 7, 1⟩ : S124)] : List (S124))) (inner := [.int .u32 (((IntKind.u64.wrap (a0_4)) % 4294967296) / 4096), .int .i64 31, .int .i64 1, .int .u32 (((IntKind.u64.wrap (a0_4)) % 4294967296) / 32), .int .i64 25, .int .i64 6, .int .u32 (((IntKind.u64.wrap (a0_4)) % 4294967296) / 2), .int .i64 8, .int .i64 4, .int .u32 (((IntKind.u64.wrap (a0_4)) % 4294967296) / 2048), .int .i64 7, .int .i64 1]) (ok := fun _ => True) (okp := fun _ => True) ?hr ?hp (fun _ hk => hk) trivial (Below.refl _ _) (Nat.le_refl _) (by simp) ?_; (case hd => rfl); (case hg => rfl); (case hr => first | (go_simp; done) | (go_simp; rfl)); (case hp => exact (Reps.c3 (show Kd.M k124 _ _ _ (⟨((IntKind.u64.wrap (a0_4)) % 4294967296) / 4096, 31, 1⟩ : S124) [.int .u32 (((IntKind.u64.wrap (a0_4)) % 4294967296) / 4096), .int .i64 31, .int .i64 1] from (k124_mkM _ _ _ (⟨((IntKind.u64.wrap (a0_4)) % 4294967296) / 4096, 31, 1⟩ : S124) )) (Reps.c3 (show Kd.M k124 _ _ _ (⟨((IntKind.u64.wrap (a0_4)) % 4294967296) / 32, 25, 6⟩ : S124) [.int .u32 (((IntKind.u64.wrap (a0_4)) % 4294967296) / 32), .int .i64 25, .int .i64 6] from (k124_mkM _ _ _ (⟨((IntKind.u64.wrap (a0_4)) % 4294967296) / 32, 25, 6⟩ : S124) )) (Reps.c3 (show Kd.M k124 _ _ _ (⟨((IntKind.u64.wrap (a0_4)) % 4294967296) / 2, 8, 4⟩ : S124) [.int .u32 (((IntKind.u64.wrap (a0_4)) % 4294967296) / 2), .int .i64 8, .int .i64 4] from (k124_mkM _ _ _ (⟨((IntKind.u64.wrap (a0_4)) % 4294967296) / 2, 8, 4⟩ : S124) )) (Reps.c3 (show Kd.M k124 _ _ _ (⟨((IntKind.u64.wrap (a0_4)) % 4294967296) / 2048, 7, 1⟩ : S124) [.int .u32 (((IntKind.u64.wrap (a0_4)) % 4294967296) / 2048), .int .i64 7, .int .i64 1] from (k124_mkM _ _ _ (⟨((IntKind.u64.wrap (a0_4)) % 4294967296) / 2048, 7, 1⟩ : S124) )) (Reps.none _ _)))))); intro v210 w21 ho22 hb hg_ hnew_; clear hg_ hnew_; (first | rw [← Ny209.out] at ho22 | (simp only [Int.reduceToNat] at ho22; rw [← Ny209.out] at ho22)); have n0_ := Aside0.mk (Kd.R_lower ho22 (below_size tC)); have n1_ := Aside0.mk (blk_below (g := gb198) (o := .cells #[.int .i64 a0_0, .int .i64 a0_1, .int .i64 a0_2, .int .i64 a0_3, .int .i64 a0_4, .bool a0_5, .bool a0_6] 31 (0, 0)) tP hb); have n2_ := Aside0.mk (below_step tC hb); clear BK198; clear HB; have HO211 := n0_; have BK198 := n1_; have HB := n2_; clear n0_ n1_ n2_; clear hb ho22))
  go_ret
  exact ⟨_, tE, by (with_reducible repeat (first | apply Kd.R_alloc | apply Kd.R_drewN | apply Kd.R_drew)); exact HO211.out, tC⟩
 rw [if_neg c18] at H
 have c18b0 := bF c18; have c18b1 := nT c18
 by_cases c23 : t199 = 5
 ·rw [if_pos c23] at H
  have c23b0 := bT c23; have c23b1 := nF c23
  clear c23
  obtain ⟨y212, hy212⟩ : ∃ y_ : List (S124), y_ = (([(⟨((IntKind.u64.wrap (a0_4)) % 4294967296) / 32, 25, 7⟩ : S124), (⟨(IntKind.u64.wrap (a0_4)) % 4294967296, 7, 5⟩ : S124)] : List (S124))) := ⟨_, rfl⟩
  replace H : (some y212) = some r := by first | (rw [hy212]; with_reducible exact H) | (have H2_ := (Option.bind_some _ _).symm.trans H; rw [hy212]; with_reducible exact H2_) | (have H2_ := (Option.bind_some _ _).symm.trans H; with_reducible exact H2_) | with_reducible exact H | (rw [hy212]; exact H) | exact H
  have Ny212 := Aside0.mk hy212
  clear hy212
  obtain rfl := Option.some.inj H
  go_enter Tryz.func98, Tryz.ntmps98
  go_wp2_with (first | ((with_reducible refine gate_dst (N := 1) rfl ?_); refine box_event ?hg (N := 1) ?hd (cs := #[.int .i64 a0_0, .int .i64 a0_1, .int .i64 a0_2, .int .i64 a0_3, .int .i64 a0_4, .bool a0_5, .bool a0_6]) (t := 31) ?hr ?_; (case hd => rfl); (case hg => rfl); (case hr => first | (go_simp; done) | (go_simp; rfl)); intro gb198 hg w24 hbox hb; have n0_ := Aside0.mk (below_step tB hb); have n1_ := Aside0.mk (hbox); have n2_ := Aside0.mk ((by rw [hg]; exact (below_size tB) : w.heap.size ≤ gb198)); have n3_ := Aside0.mk ((by rw [hg]; exact (below_size tB) : w.heap.size ≤ gb198)); clear HB; have HB := n0_; have BK198 := n1_; have GW198 := n2_; have GE198 := n3_; clear n0_ n1_ n2_ n3_; clear hb hbox hg; have hcz25_0 : w24.cell? ⟨gb198, 0, none⟩ = some (.int .i64 a0_0) := (blk_cell BK198.out 0).trans rfl; have hcz25_1 : w24.cell? ⟨gb198, 1, none⟩ = some (.int .i64 a0_1) := (blk_cell BK198.out 1).trans rfl; have hcz25_2 : w24.cell? ⟨gb198, 2, none⟩ = some (.int .i64 a0_2) := (blk_cell BK198.out 2).trans rfl; have hcz25_3 : w24.cell? ⟨gb198, 3, none⟩ = some (.int .i64 a0_3) := (blk_cell BK198.out 3).trans rfl; have hcz25_4 : w24.cell? ⟨gb198, 4, none⟩ = some (.int .i64 a0_4) := (blk_cell BK198.out 4).trans rfl; have hcz25_5 : w24.cell? ⟨gb198, 5, none⟩ = some (.bool a0_5) := (blk_cell BK198.out 5).trans rfl; have hcz25_6 : w24.cell? ⟨gb198, 6, none⟩ = some (.bool a0_6) := (blk_cell BK198.out 6).trans rfl; have hfz25_0 := blk_frozen BK198.out 0; have hfz25_1 := blk_frozen BK198.out 1; have hfz25_2 := blk_frozen BK198.out 2; have hfz25_3 := blk_frozen BK198.out 3; have hfz25_4 := blk_frozen BK198.out 4; have hfz25_5 := blk_frozen BK198.out 5; have hfz25_6 := blk_frozen BK198.out 6) | ((with_reducible refine gate_callee (f := 55) rfl ?_); refine goesL_ (some 10) rfl rfl Tryz.func55 (by kernel_rfl) rfl #[.int .i64 a0_0] rfl tM ?_; (with_reducible refine (isa_Form.calls k a0_0 t199 _ ?side1 A2.out).mono ?_); (case side1 => exact GOK.below tC HG.out); rintro e w' ⟨rfl, ⟨nd, rfl⟩⟩; refine ⟨_, rfl, ?_⟩) | ((with_reducible refine gate_dst (N := 58) rfl ?_); refine Kd.R_lit k124 _ 124 ?hg (N := 58) ?hd (xs := ([(⟨((IntKind.u64.wrap (a0_4)) % 4294967296) / 32, 25, 7⟩ : S124), (⟨(IntKind.u64.wrap (a0_4)) % 4294967296, 7, 5⟩ : S124)] : List (S124))) (inner := [.int .u32 (((IntKind.u64.wrap (a0_4)) % 4294967296) / 32), .int .i64 25, .int .i64 7, .int .u32 ((IntKind.u64.wrap (a0_4)) % 4294967296), .int .i64 7, .int .i64 5]) (ok := fun _ => True) (okp := fun _ => True) ?hr ?hp (fun _ hk => hk) trivial (Below.refl _ _) (Nat.le_refl _) (by simp) ?_; (case hd => rfl); (case hg => rfl); (case hr => first | (go_simp; done) | (go_simp; rfl)); (case hp => exact (Reps.c3 (show Kd.M k124 _ _ _ (⟨((IntKind.u64.wrap (a0_4)) % 4294967296) / 32, 25, 7⟩ : S124) [.int .u32 (((IntKind.u64.wrap (a0_4)) % 4294967296) / 32), .int .i64 25, .int .i64 7] from (k124_mkM _ _ _ (⟨((IntKind.u64.wrap (a0_4)) % 4294967296) / 32, 25, 7⟩ : S124) )) (Reps.c3 (show Kd.M k124 _ _ _ (⟨(IntKind.u64.wrap (a0_4)) % 4294967296, 7, 5⟩ : S124) [.int .u32 ((IntKind.u64.wrap (a0_4)) % 4294967296), .int .i64 7, .int .i64 5] from (k124_mkM _ _ _ (⟨(IntKind.u64.wrap (a0_4)) % 4294967296, 7, 5⟩ : S124) )) (Reps.none _ _)))); intro v213 w26 ho27 hb hg_ hnew_; clear hg_ hnew_; (first | rw [← Ny212.out] at ho27 | (simp only [Int.reduceToNat] at ho27; rw [← Ny212.out] at ho27)); have n0_ := Aside0.mk (Kd.R_lower ho27 (below_size tC)); have n1_ := Aside0.mk (blk_below (g := gb198) (o := .cells #[.int .i64 a0_0, .int .i64 a0_1, .int .i64 a0_2, .int .i64 a0_3, .int .i64 a0_4, .bool a0_5, .bool a0_6] 31 (0, 0)) tP hb); have n2_ := Aside0.mk (below_step tC hb); clear BK198; clear HB; have HO214 := n0_; have BK198 := n1_; have HB := n2_; clear n0_ n1_ n2_; clear hb ho27))
  go_ret
  exact ⟨_, tE, by (with_reducible repeat (first | apply Kd.R_alloc | apply Kd.R_drewN | apply Kd.R_drew)); exact HO214.out, tC⟩
 rw [if_neg c23] at H
 have c23b0 := bF c23; have c23b1 := nT c23
 by_cases c28 : t199 = 7
 ·rw [if_pos c28] at H
  have c28b0 := bT c28; have c28b1 := nF c28
  clear c28
  obtain ⟨y215, hy215⟩ : ∃ y_ : List (S124), y_ = (([(⟨(IntKind.u64.wrap (a0_4)) % 4294967296, 20, 6⟩ : S124)] : List (S124))) := ⟨_, rfl⟩
  replace H : (some y215) = some r := by first | (rw [hy215]; with_reducible exact H) | (have H2_ := (Option.bind_some _ _).symm.trans H; rw [hy215]; with_reducible exact H2_) | (have H2_ := (Option.bind_some _ _).symm.trans H; with_reducible exact H2_) | with_reducible exact H | (rw [hy215]; exact H) | exact H
  have Ny215 := Aside0.mk hy215
  clear hy215
  obtain rfl := Option.some.inj H
  go_enter Tryz.func98, Tryz.ntmps98
  go_wp2_with (first | ((with_reducible refine gate_dst (N := 1) rfl ?_); refine box_event ?hg (N := 1) ?hd (cs := #[.int .i64 a0_0, .int .i64 a0_1, .int .i64 a0_2, .int .i64 a0_3, .int .i64 a0_4, .bool a0_5, .bool a0_6]) (t := 31) ?hr ?_; (case hd => rfl); (case hg => rfl); (case hr => first | (go_simp; done) | (go_simp; rfl)); intro gb198 hg w29 hbox hb; have n0_ := Aside0.mk (below_step tB hb); have n1_ := Aside0.mk (hbox); have n2_ := Aside0.mk ((by rw [hg]; exact (below_size tB) : w.heap.size ≤ gb198)); have n3_ := Aside0.mk ((by rw [hg]; exact (below_size tB) : w.heap.size ≤ gb198)); clear HB; have HB := n0_; have BK198 := n1_; have GW198 := n2_; have GE198 := n3_; clear n0_ n1_ n2_ n3_; clear hb hbox hg; have hcz30_0 : w29.cell? ⟨gb198, 0, none⟩ = some (.int .i64 a0_0) := (blk_cell BK198.out 0).trans rfl; have hcz30_1 : w29.cell? ⟨gb198, 1, none⟩ = some (.int .i64 a0_1) := (blk_cell BK198.out 1).trans rfl; have hcz30_2 : w29.cell? ⟨gb198, 2, none⟩ = some (.int .i64 a0_2) := (blk_cell BK198.out 2).trans rfl; have hcz30_3 : w29.cell? ⟨gb198, 3, none⟩ = some (.int .i64 a0_3) := (blk_cell BK198.out 3).trans rfl; have hcz30_4 : w29.cell? ⟨gb198, 4, none⟩ = some (.int .i64 a0_4) := (blk_cell BK198.out 4).trans rfl; have hcz30_5 : w29.cell? ⟨gb198, 5, none⟩ = some (.bool a0_5) := (blk_cell BK198.out 5).trans rfl; have hcz30_6 : w29.cell? ⟨gb198, 6, none⟩ = some (.bool a0_6) := (blk_cell BK198.out 6).trans rfl; have hfz30_0 := blk_frozen BK198.out 0; have hfz30_1 := blk_frozen BK198.out 1; have hfz30_2 := blk_frozen BK198.out 2; have hfz30_3 := blk_frozen BK198.out 3; have hfz30_4 := blk_frozen BK198.out 4; have hfz30_5 := blk_frozen BK198.out 5; have hfz30_6 := blk_frozen BK198.out 6) | ((with_reducible refine gate_callee (f := 55) rfl ?_); refine goesL_ (some 10) rfl rfl Tryz.func55 (by kernel_rfl) rfl #[.int .i64 a0_0] rfl tM ?_; (with_reducible refine (isa_Form.calls k a0_0 t199 _ ?side1 A2.out).mono ?_); (case side1 => exact GOK.below tC HG.out); rintro e w' ⟨rfl, ⟨nd, rfl⟩⟩; refine ⟨_, rfl, ?_⟩) | ((with_reducible refine gate_dst (N := 63) rfl ?_); refine Kd.R_lit k124 _ 124 ?hg (N := 63) ?hd (xs := ([(⟨(IntKind.u64.wrap (a0_4)) % 4294967296, 20, 6⟩ : S124)] : List (S124))) (inner := [.int .u32 ((IntKind.u64.wrap (a0_4)) % 4294967296), .int .i64 20, .int .i64 6]) (ok := fun _ => True) (okp := fun _ => True) ?hr ?hp (fun _ hk => hk) trivial (Below.refl _ _) (Nat.le_refl _) (by simp) ?_; (case hd => rfl); (case hg => rfl); (case hr => first | (go_simp; done) | (go_simp; rfl)); (case hp => exact (Reps.c3 (show Kd.M k124 _ _ _ (⟨(IntKind.u64.wrap (a0_4)) % 4294967296, 20, 6⟩ : S124) [.int .u32 ((IntKind.u64.wrap (a0_4)) % 4294967296), .int .i64 20, .int .i64 6] from (k124_mkM _ _ _ (⟨(IntKind.u64.wrap (a0_4)) % 4294967296, 20, 6⟩ : S124) )) (Reps.none _ _))); intro v216 w31 ho32 hb hg_ hnew_; clear hg_ hnew_; (first | rw [← Ny215.out] at ho32 | (simp only [Int.reduceToNat] at ho32; rw [← Ny215.out] at ho32)); have n0_ := Aside0.mk (Kd.R_lower ho32 (below_size tC)); have n1_ := Aside0.mk (blk_below (g := gb198) (o := .cells #[.int .i64 a0_0, .int .i64 a0_1, .int .i64 a0_2, .int .i64 a0_3, .int .i64 a0_4, .bool a0_5, .bool a0_6] 31 (0, 0)) tP hb); have n2_ := Aside0.mk (below_step tC hb); clear BK198; clear HB; have HO217 := n0_; have BK198 := n1_; have HB := n2_; clear n0_ n1_ n2_; clear hb ho32))
  go_ret
  exact ⟨_, tE, by (with_reducible repeat (first | apply Kd.R_alloc | apply Kd.R_drewN | apply Kd.R_drew)); exact HO217.out, tC⟩
 rw [if_neg c28] at H
 have c28b0 := bF c28; have c28b1 := nT c28
 by_cases c33 : t199 = 8
 ·rw [if_pos c33] at H
  have c33b0 := bT c33; have c33b1 := nF c33
  clear c33
  obtain ⟨y218, hy218⟩ : ∃ y_ : List (S124), y_ = (([(⟨(IntKind.u64.wrap (a0_4)) % 4294967296, 20, 5⟩ : S124)] : List (S124))) := ⟨_, rfl⟩
  replace H : (some y218) = some r := by first | (rw [hy218]; with_reducible exact H) | (have H2_ := (Option.bind_some _ _).symm.trans H; rw [hy218]; with_reducible exact H2_) | (have H2_ := (Option.bind_some _ _).symm.trans H; with_reducible exact H2_) | with_reducible exact H | (rw [hy218]; exact H) | exact H
  have Ny218 := Aside0.mk hy218
  clear hy218
  obtain rfl := Option.some.inj H
  go_enter Tryz.func98, Tryz.ntmps98
  go_wp2_with (first | ((with_reducible refine gate_dst (N := 1) rfl ?_); refine box_event ?hg (N := 1) ?hd (cs := #[.int .i64 a0_0, .int .i64 a0_1, .int .i64 a0_2, .int .i64 a0_3, .int .i64 a0_4, .bool a0_5, .bool a0_6]) (t := 31) ?hr ?_; (case hd => rfl); (case hg => rfl); (case hr => first | (go_simp; done) | (go_simp; rfl)); intro gb198 hg w34 hbox hb; have n0_ := Aside0.mk (below_step tB hb); have n1_ := Aside0.mk (hbox); have n2_ := Aside0.mk ((by rw [hg]; exact (below_size tB) : w.heap.size ≤ gb198)); have n3_ := Aside0.mk ((by rw [hg]; exact (below_size tB) : w.heap.size ≤ gb198)); clear HB; have HB := n0_; have BK198 := n1_; have GW198 := n2_; have GE198 := n3_; clear n0_ n1_ n2_ n3_; clear hb hbox hg; have hcz35_0 : w34.cell? ⟨gb198, 0, none⟩ = some (.int .i64 a0_0) := (blk_cell BK198.out 0).trans rfl; have hcz35_1 : w34.cell? ⟨gb198, 1, none⟩ = some (.int .i64 a0_1) := (blk_cell BK198.out 1).trans rfl; have hcz35_2 : w34.cell? ⟨gb198, 2, none⟩ = some (.int .i64 a0_2) := (blk_cell BK198.out 2).trans rfl; have hcz35_3 : w34.cell? ⟨gb198, 3, none⟩ = some (.int .i64 a0_3) := (blk_cell BK198.out 3).trans rfl; have hcz35_4 : w34.cell? ⟨gb198, 4, none⟩ = some (.int .i64 a0_4) := (blk_cell BK198.out 4).trans rfl; have hcz35_5 : w34.cell? ⟨gb198, 5, none⟩ = some (.bool a0_5) := (blk_cell BK198.out 5).trans rfl; have hcz35_6 : w34.cell? ⟨gb198, 6, none⟩ = some (.bool a0_6) := (blk_cell BK198.out 6).trans rfl; have hfz35_0 := blk_frozen BK198.out 0; have hfz35_1 := blk_frozen BK198.out 1; have hfz35_2 := blk_frozen BK198.out 2; have hfz35_3 := blk_frozen BK198.out 3; have hfz35_4 := blk_frozen BK198.out 4; have hfz35_5 := blk_frozen BK198.out 5; have hfz35_6 := blk_frozen BK198.out 6) | ((with_reducible refine gate_callee (f := 55) rfl ?_); refine goesL_ (some 10) rfl rfl Tryz.func55 (by kernel_rfl) rfl #[.int .i64 a0_0] rfl tM ?_; (with_reducible refine (isa_Form.calls k a0_0 t199 _ ?side1 A2.out).mono ?_); (case side1 => exact GOK.below tC HG.out); rintro e w' ⟨rfl, ⟨nd, rfl⟩⟩; refine ⟨_, rfl, ?_⟩) | ((with_reducible refine gate_dst (N := 68) rfl ?_); refine Kd.R_lit k124 _ 124 ?hg (N := 68) ?hd (xs := ([(⟨(IntKind.u64.wrap (a0_4)) % 4294967296, 20, 5⟩ : S124)] : List (S124))) (inner := [.int .u32 ((IntKind.u64.wrap (a0_4)) % 4294967296), .int .i64 20, .int .i64 5]) (ok := fun _ => True) (okp := fun _ => True) ?hr ?hp (fun _ hk => hk) trivial (Below.refl _ _) (Nat.le_refl _) (by simp) ?_; (case hd => rfl); (case hg => rfl); (case hr => first | (go_simp; done) | (go_simp; rfl)); (case hp => exact (Reps.c3 (show Kd.M k124 _ _ _ (⟨(IntKind.u64.wrap (a0_4)) % 4294967296, 20, 5⟩ : S124) [.int .u32 ((IntKind.u64.wrap (a0_4)) % 4294967296), .int .i64 20, .int .i64 5] from (k124_mkM _ _ _ (⟨(IntKind.u64.wrap (a0_4)) % 4294967296, 20, 5⟩ : S124) )) (Reps.none _ _))); intro v219 w36 ho37 hb hg_ hnew_; clear hg_ hnew_; (first | rw [← Ny218.out] at ho37 | (simp only [Int.reduceToNat] at ho37; rw [← Ny218.out] at ho37)); have n0_ := Aside0.mk (Kd.R_lower ho37 (below_size tC)); have n1_ := Aside0.mk (blk_below (g := gb198) (o := .cells #[.int .i64 a0_0, .int .i64 a0_1, .int .i64 a0_2, .int .i64 a0_3, .int .i64 a0_4, .bool a0_5, .bool a0_6] 31 (0, 0)) tP hb); have n2_ := Aside0.mk (below_step tC hb); clear BK198; clear HB; have HO220 := n0_; have BK198 := n1_; have HB := n2_; clear n0_ n1_ n2_; clear hb ho37))
  go_ret
  exact ⟨_, tE, by (with_reducible repeat (first | apply Kd.R_alloc | apply Kd.R_drewN | apply Kd.R_drew)); exact HO220.out, tC⟩
 rw [if_neg c33] at H
 have c33b0 := bF c33; have c33b1 := nT c33
 by_cases c38 : t199 = 9
 ·rw [if_pos c38] at H
  have c38b0 := bT c38; have c38b1 := nF c38
  clear c38
  obtain ⟨y221, hy221⟩ : ∃ y_ : List (S124), y_ = (([(⟨(IntKind.u64.wrap (a0_4)) % 4294967296, 20, 8⟩ : S124)] : List (S124))) := ⟨_, rfl⟩
  replace H : (some y221) = some r := by first | (rw [hy221]; with_reducible exact H) | (have H2_ := (Option.bind_some _ _).symm.trans H; rw [hy221]; with_reducible exact H2_) | (have H2_ := (Option.bind_some _ _).symm.trans H; with_reducible exact H2_) | with_reducible exact H | (rw [hy221]; exact H) | exact H
  have Ny221 := Aside0.mk hy221
  clear hy221
  obtain rfl := Option.some.inj H
  go_enter Tryz.func98, Tryz.ntmps98
  go_wp2_with (first | ((with_reducible refine gate_dst (N := 1) rfl ?_); refine box_event ?hg (N := 1) ?hd (cs := #[.int .i64 a0_0, .int .i64 a0_1, .int .i64 a0_2, .int .i64 a0_3, .int .i64 a0_4, .bool a0_5, .bool a0_6]) (t := 31) ?hr ?_; (case hd => rfl); (case hg => rfl); (case hr => first | (go_simp; done) | (go_simp; rfl)); intro gb198 hg w39 hbox hb; have n0_ := Aside0.mk (below_step tB hb); have n1_ := Aside0.mk (hbox); have n2_ := Aside0.mk ((by rw [hg]; exact (below_size tB) : w.heap.size ≤ gb198)); have n3_ := Aside0.mk ((by rw [hg]; exact (below_size tB) : w.heap.size ≤ gb198)); clear HB; have HB := n0_; have BK198 := n1_; have GW198 := n2_; have GE198 := n3_; clear n0_ n1_ n2_ n3_; clear hb hbox hg; have hcz40_0 : w39.cell? ⟨gb198, 0, none⟩ = some (.int .i64 a0_0) := (blk_cell BK198.out 0).trans rfl; have hcz40_1 : w39.cell? ⟨gb198, 1, none⟩ = some (.int .i64 a0_1) := (blk_cell BK198.out 1).trans rfl; have hcz40_2 : w39.cell? ⟨gb198, 2, none⟩ = some (.int .i64 a0_2) := (blk_cell BK198.out 2).trans rfl; have hcz40_3 : w39.cell? ⟨gb198, 3, none⟩ = some (.int .i64 a0_3) := (blk_cell BK198.out 3).trans rfl; have hcz40_4 : w39.cell? ⟨gb198, 4, none⟩ = some (.int .i64 a0_4) := (blk_cell BK198.out 4).trans rfl; have hcz40_5 : w39.cell? ⟨gb198, 5, none⟩ = some (.bool a0_5) := (blk_cell BK198.out 5).trans rfl; have hcz40_6 : w39.cell? ⟨gb198, 6, none⟩ = some (.bool a0_6) := (blk_cell BK198.out 6).trans rfl; have hfz40_0 := blk_frozen BK198.out 0; have hfz40_1 := blk_frozen BK198.out 1; have hfz40_2 := blk_frozen BK198.out 2; have hfz40_3 := blk_frozen BK198.out 3; have hfz40_4 := blk_frozen BK198.out 4; have hfz40_5 := blk_frozen BK198.out 5; have hfz40_6 := blk_frozen BK198.out 6) | ((with_reducible refine gate_callee (f := 55) rfl ?_); refine goesL_ (some 10) rfl rfl Tryz.func55 (by kernel_rfl) rfl #[.int .i64 a0_0] rfl tM ?_; (with_reducible refine (isa_Form.calls k a0_0 t199 _ ?side1 A2.out).mono ?_); (case side1 => exact GOK.below tC HG.out); rintro e w' ⟨rfl, ⟨nd, rfl⟩⟩; refine ⟨_, rfl, ?_⟩) | ((with_reducible refine gate_dst (N := 73) rfl ?_); refine Kd.R_lit k124 _ 124 ?hg (N := 73) ?hd (xs := ([(⟨(IntKind.u64.wrap (a0_4)) % 4294967296, 20, 8⟩ : S124)] : List (S124))) (inner := [.int .u32 ((IntKind.u64.wrap (a0_4)) % 4294967296), .int .i64 20, .int .i64 8]) (ok := fun _ => True) (okp := fun _ => True) ?hr ?hp (fun _ hk => hk) trivial (Below.refl _ _) (Nat.le_refl _) (by simp) ?_; (case hd => rfl); (case hg => rfl); (case hr => first | (go_simp; done) | (go_simp; rfl)); (case hp => exact (Reps.c3 (show Kd.M k124 _ _ _ (⟨(IntKind.u64.wrap (a0_4)) % 4294967296, 20, 8⟩ : S124) [.int .u32 ((IntKind.u64.wrap (a0_4)) % 4294967296), .int .i64 20, .int .i64 8] from (k124_mkM _ _ _ (⟨(IntKind.u64.wrap (a0_4)) % 4294967296, 20, 8⟩ : S124) )) (Reps.none _ _))); intro v222 w41 ho42 hb hg_ hnew_; clear hg_ hnew_; (first | rw [← Ny221.out] at ho42 | (simp only [Int.reduceToNat] at ho42; rw [← Ny221.out] at ho42)); have n0_ := Aside0.mk (Kd.R_lower ho42 (below_size tC)); have n1_ := Aside0.mk (blk_below (g := gb198) (o := .cells #[.int .i64 a0_0, .int .i64 a0_1, .int .i64 a0_2, .int .i64 a0_3, .int .i64 a0_4, .bool a0_5, .bool a0_6] 31 (0, 0)) tP hb); have n2_ := Aside0.mk (below_step tC hb); clear BK198; clear HB; have HO223 := n0_; have BK198 := n1_; have HB := n2_; clear n0_ n1_ n2_; clear hb ho42))
  go_ret
  exact ⟨_, tE, by (with_reducible repeat (first | apply Kd.R_alloc | apply Kd.R_drewN | apply Kd.R_drew)); exact HO223.out, tC⟩
 rw [if_neg c38] at H
 have c38b0 := bF c38; have c38b1 := nT c38
 have HC43 := Aside0.mk H
 clear H
 go_enter Tryz.func98, Tryz.ntmps98
 go_upto_if 74 with (first | ((with_reducible refine gate_dst (N := 1) rfl ?_); refine box_event ?hg (N := 1) ?hd (cs := #[.int .i64 a0_0, .int .i64 a0_1, .int .i64 a0_2, .int .i64 a0_3, .int .i64 a0_4, .bool a0_5, .bool a0_6]) (t := 31) ?hr ?_; (case hd => rfl); (case hg => rfl); (case hr => first | (go_simp; done) | (go_simp; rfl)); intro gb198 hg w44 hbox hb; have n0_ := Aside0.mk (below_step tB hb); have n1_ := Aside0.mk (hbox); have n2_ := Aside0.mk ((by rw [hg]; exact (below_size tB) : w.heap.size ≤ gb198)); have n3_ := Aside0.mk ((by rw [hg]; exact (below_size tB) : w.heap.size ≤ gb198)); clear HB; have HB := n0_; have BK198 := n1_; have GW198 := n2_; have GE198 := n3_; clear n0_ n1_ n2_ n3_; clear hb hbox hg; have hcz45_0 : w44.cell? ⟨gb198, 0, none⟩ = some (.int .i64 a0_0) := (blk_cell BK198.out 0).trans rfl; have hcz45_1 : w44.cell? ⟨gb198, 1, none⟩ = some (.int .i64 a0_1) := (blk_cell BK198.out 1).trans rfl; have hcz45_2 : w44.cell? ⟨gb198, 2, none⟩ = some (.int .i64 a0_2) := (blk_cell BK198.out 2).trans rfl; have hcz45_3 : w44.cell? ⟨gb198, 3, none⟩ = some (.int .i64 a0_3) := (blk_cell BK198.out 3).trans rfl; have hcz45_4 : w44.cell? ⟨gb198, 4, none⟩ = some (.int .i64 a0_4) := (blk_cell BK198.out 4).trans rfl; have hcz45_5 : w44.cell? ⟨gb198, 5, none⟩ = some (.bool a0_5) := (blk_cell BK198.out 5).trans rfl; have hcz45_6 : w44.cell? ⟨gb198, 6, none⟩ = some (.bool a0_6) := (blk_cell BK198.out 6).trans rfl; have hfz45_0 := blk_frozen BK198.out 0; have hfz45_1 := blk_frozen BK198.out 1; have hfz45_2 := blk_frozen BK198.out 2; have hfz45_3 := blk_frozen BK198.out 3; have hfz45_4 := blk_frozen BK198.out 4; have hfz45_5 := blk_frozen BK198.out 5; have hfz45_6 := blk_frozen BK198.out 6) | ((with_reducible refine gate_callee (f := 55) rfl ?_); refine goesL_ (some 10) rfl rfl Tryz.func55 (by kernel_rfl) rfl #[.int .i64 a0_0] rfl tM ?_; (with_reducible refine (isa_Form.calls k a0_0 t199 _ ?side1 A2.out).mono ?_); (case side1 => exact GOK.below tC HG.out); rintro e w' ⟨rfl, ⟨nd, rfl⟩⟩; refine ⟨_, rfl, ?_⟩))
 (try simp only [Act.put, sS])
 go_cut [74] (fun v74 wc => ∃ (kq : Nat) (x74_42 : Bool), v74 = .bool x74_42 ∧ Aside0 (enc_immediate.j0 kq x74_42 a0_0 a0_1 a0_2 a0_3 a0_4 a0_5 a0_6 = some r) ∧ Aside0 (kq ≤ k) ∧ Aside0 (wc.heap[gb198]? = some (.cells #[.int .i64 a0_0, .int .i64 a0_1, .int .i64 a0_2, .int .i64 a0_3, .int .i64 a0_4, .bool a0_5, .bool a0_6] 31 (0, 0))) ∧ Aside0 (Below w.heap.size w wc))
 case first =>
  have H := HC43.out
  clear HC43
  by_cases c46 : t199 = 10
  ·rw [if_pos c46] at H
   have c46b0 := bT c46; have c46b1 := nF c46
   clear c46
   (first | rw [c46b0] | (simp only [i64_w]; rw [c46b0]) | skip)
   have H' := Aside0.mk H
   clear H
   go_wp2
   go_meet
   case rel => exact ⟨_, ((t199 == 10)), tR, H', ⟨tO⟩, ⟨tP⟩, ⟨tC⟩⟩
  rw [if_neg c46] at H
  have c46b0 := bF c46; have c46b1 := nT c46
  (first | rw [c46b0] | (simp only [i64_w]; rw [c46b0]) | skip)
  have H' := Aside0.mk H
  clear H
  go_wp2
  go_meet
  case rel => exact ⟨_, ((t199 == 11)), tR, H', ⟨tO⟩, ⟨tP⟩, ⟨tC⟩⟩
 case rest =>
  clear HC43
  (try clear c1); (try clear c2); (try clear p2); (try clear c3); (try clear c4); (try clear c5); (try clear c8); (try clear c9); (try clear c13); (try clear c18); (try clear c23); (try clear c28); (try clear c33); (try clear c38); (try clear c46); (try clear c3b0 c3b1); (try clear c8b0 c8b1); (try clear c13b0 c13b1); (try clear c18b0 c18b1); (try clear c23b0 c23b1); (try clear c28b0 c28b1); (try clear c33b0 c33b1); (try clear c38b0 c38b1); (try clear c46b0 c46b1); (try clear hcz10_0 hcz10_1 hcz10_2 hcz10_3 hcz10_4 hcz10_5 hcz10_6); (try clear hcz15_0 hcz15_1 hcz15_2 hcz15_3 hcz15_4 hcz15_5 hcz15_6); (try clear hcz20_0 hcz20_1 hcz20_2 hcz20_3 hcz20_4 hcz20_5 hcz20_6); (try clear hcz25_0 hcz25_1 hcz25_2 hcz25_3 hcz25_4 hcz25_5 hcz25_6); (try clear hcz30_0 hcz30_1 hcz30_2 hcz30_3 hcz30_4 hcz30_5 hcz30_6); (try clear hcz35_0 hcz35_1 hcz35_2 hcz35_3 hcz35_4 hcz35_5 hcz35_6); (try clear hcz40_0 hcz40_1 hcz40_2 hcz40_3 hcz40_4 hcz40_5 hcz40_6); (try clear hcz45_0 hcz45_1 hcz45_2 hcz45_3 hcz45_4 hcz45_5 hcz45_6); (try clear hcz5_0 hcz5_1 hcz5_2 hcz5_3 hcz5_4 hcz5_5 hcz5_6); (try clear hfz10_0 hfz10_1 hfz10_2 hfz10_3 hfz10_4 hfz10_5 hfz10_6); (try clear hfz15_0 hfz15_1 hfz15_2 hfz15_3 hfz15_4 hfz15_5 hfz15_6); (try clear hfz20_0 hfz20_1 hfz20_2 hfz20_3 hfz20_4 hfz20_5 hfz20_6); (try clear hfz25_0 hfz25_1 hfz25_2 hfz25_3 hfz25_4 hfz25_5 hfz25_6); (try clear hfz30_0 hfz30_1 hfz30_2 hfz30_3 hfz30_4 hfz30_5 hfz30_6); (try clear hfz35_0 hfz35_1 hfz35_2 hfz35_3 hfz35_4 hfz35_5 hfz35_6); (try clear hfz40_0 hfz40_1 hfz40_2 hfz40_3 hfz40_4 hfz40_5 hfz40_6); (try clear hfz45_0 hfz45_1 hfz45_2 hfz45_3 hfz45_4 hfz45_5 hfz45_6); (try clear hfz5_0 hfz5_1 hfz5_2 hfz5_3 hfz5_4 hfz5_5 hfz5_6)
  obtain ⟨kq, x74_42, rfl, HA, HJ42, BK198, HB⟩ := hcut
  cases kq with
  | zero => exact absurd HA.out (by simp [enc_immediate.j0])
  | succ kj42 =>
   have H := HA.out
   clear HA
   simp only [enc_immediate.j0] at H
   by_cases c47 : x74_42 = true
   ·subst c47
    rw [if_pos rfl] at H
    obtain ⟨t224, A480, H⟩ := Option.bind_eq_some_iff.mp H
    try dsimp only at H
    have A48 := Aside0.mk A480; clear A480
    obtain ⟨t225, A490, H⟩ := Option.bind_eq_some_iff.mp H
    try dsimp only at H
    have A49 := Aside0.mk A490; clear A490
    obtain ⟨y226, hy226⟩ : ∃ y_ : List (S124), y_ = (([(⟨t224, 26, 1⟩ : S124), (⟨t225, 25, 1⟩ : S124)] : List (S124))) := ⟨_, rfl⟩
    replace H : (some y226) = some r := by first | (rw [hy226]; with_reducible exact H) | (have H2_ := (Option.bind_some _ _).symm.trans H; rw [hy226]; with_reducible exact H2_) | (have H2_ := (Option.bind_some _ _).symm.trans H; with_reducible exact H2_) | with_reducible exact H | (rw [hy226]; exact H) | exact H
    have Ny226 := Aside0.mk hy226
    clear hy226
    obtain rfl := Option.some.inj H
    try go_wp2
    have n0_ := Aside0.mk (blk_drew BK198.out)
    have n1_ := Aside0.mk (below_drew1 HB.out)
    clear BK198
    clear HB
    have BK198 := n0_
    have HB := n1_
    clear n0_ n1_
    refine start_ (n := 10) (S := fun w' => w'.cell? ⟨gb198, 0, none⟩ = some (.int .i64 a0_0) ∧ w'.cell? ⟨gb198, 1, none⟩ = some (.int .i64 a0_1) ∧ w'.cell? ⟨gb198, 2, none⟩ = some (.int .i64 a0_2) ∧ w'.cell? ⟨gb198, 3, none⟩ = some (.int .i64 a0_3) ∧ w'.cell? ⟨gb198, 4, none⟩ = some (.int .i64 a0_4) ∧ w'.cell? ⟨gb198, 5, none⟩ = some (.bool a0_5) ∧ w'.cell? ⟨gb198, 6, none⟩ = some (.bool a0_6)) (ds := []) #[O,O,O,O,O,O,O,O,O,O] (by kernel_rfl) rfl rfl ⟨(blk_cell BK198.out 0).trans rfl, (blk_cell BK198.out 1).trans rfl, (blk_cell BK198.out 2).trans rfl, (blk_cell BK198.out 3).trans rfl, (blk_cell BK198.out 4).trans rfl, (blk_cell BK198.out 5).trans rfl, (blk_cell BK198.out 6).trans rfl⟩ (fun hHeld => ?_); refine with_tabW enc_immediate.tab21 enc_immediate.bits21 (fun HT_ HW_ => ?_)
    generalize wc.drew = w50 at BK198 HB hHeld ⊢
    refine pure_ (i := 0) (N := some 77) (v := ?_) (a' := ?_) #[X,O,O,O,O,O,O,O,O,O] rfl rfl (any_of HT_.out (by kernel_rfl)) (fun _ _ _ h => h) (Or.inl ⟨by rfl, ?_⟩) ?_ ?_
    rotate_left
    ·intro w'
     go_simp
     with_reducible rfl
    rotate_left
    ·simp only [Act.put, sS, i64_w]
     rfl
    refine pure_ (i := 4) (N := some 81) (v := ?_) (a' := ?_) #[X,O,O,O,X,O,O,O,O,O] rfl rfl (any_of HT_.out (by kernel_rfl)) (fun _ _ _ h => h) (Or.inl ⟨by rfl, ?_⟩) ?_ ?_
    rotate_left
    ·intro w'
     go_simp
     with_reducible rfl
    rotate_left
    ·simp only [Act.put, sS, i64_w]
     rfl
    refine take_ (i := 1) (N := some 78) (v := ?_) (a' := ?_) #[X,X,O,O,X,O,O,O,O,O] rfl rfl (take_ofW HT_.out HW_.out (by kernel_rfl)) (fun _ _ _ h => h) (Or.inl ⟨by rfl, ?_⟩) hHeld ?_ ?_
    rotate_left
    ·rintro w' ⟨s0, s1, s2, s3, s4, s5, s6⟩
     go_simp
     with_reducible rfl
    rotate_left
    ·simp only [Act.put, sS, i64_w]
     rfl
    refine take_ (i := 5) (N := some 82) (v := ?_) (a' := ?_) #[X,X,O,O,X,X,O,O,O,O] rfl rfl (take_ofW HT_.out HW_.out (by kernel_rfl)) (fun _ _ _ h => h) (Or.inl ⟨by rfl, ?_⟩) hHeld ?_ ?_
    rotate_left
    ·rintro w' ⟨s0, s1, s2, s3, s4, s5, s6⟩
     go_simp
     with_reducible rfl
    rotate_left
    ·simp only [Act.put, sS, i64_w]
     rfl
    refine one_ (i := 2) (N := some 79) #[X,X,X,O,X,X,O,O,O,O] rfl rfl (one_of HT_.out (by kernel_rfl)) (by decide) (fun K hK => ?_)
    refine goes_ Tryz.func116 (by kernel_rfl) rfl #[.bool a0_5] (by rfl) rfl rfl tM ?_
    with_reducible refine (enc_bit.calls a0_5 t224 _ A48.out).mono ?_
    rintro e w' ⟨rfl, ⟨nd, rfl⟩⟩
    refine ⟨_, rfl, ?_⟩
    refine hK.out _ _ ⟨(blk_cell BK198.out 0).trans rfl, (blk_cell BK198.out 1).trans rfl, (blk_cell BK198.out 2).trans rfl, (blk_cell BK198.out 3).trans rfl, (blk_cell BK198.out 4).trans rfl, (blk_cell BK198.out 5).trans rfl, (blk_cell BK198.out 6).trans rfl⟩ (fun hHeld => ?_)
    clear hK K
    refine norm_ (a' := ?_) ?_ ?_
    rotate_left
    ·show Act.put _ (some 79) _ = _
     simp only [Act.put, sS, i64_w]
     rfl
    refine pure_ (i := 3) (N := some 80) (v := ?_) (a' := ?_) #[X,X,X,X,X,X,O,O,O,O] rfl rfl (any_of HT_.out (by kernel_rfl)) (fun _ _ _ h => h) (Or.inl ⟨by rfl, ?_⟩) ?_ ?_
    rotate_left
    ·intro w'
     go_simp
     with_reducible rfl
    rotate_left
    ·simp only [Act.put, sS, i64_w]
     rfl
    refine one_ (i := 6) (N := some 83) #[X,X,X,X,X,X,X,O,O,O] rfl rfl (one_of HT_.out (by kernel_rfl)) (by decide) (fun K hK => ?_)
    refine goes_ Tryz.func116 (by kernel_rfl) rfl #[.bool a0_6] (by rfl) rfl rfl tM ?_
    with_reducible refine (enc_bit.calls a0_6 t225 _ A49.out).mono ?_
    rintro e w' ⟨rfl, ⟨nd, rfl⟩⟩
    refine ⟨_, rfl, ?_⟩
    refine hK.out _ _ ⟨(blk_cell BK198.out 0).trans rfl, (blk_cell BK198.out 1).trans rfl, (blk_cell BK198.out 2).trans rfl, (blk_cell BK198.out 3).trans rfl, (blk_cell BK198.out 4).trans rfl, (blk_cell BK198.out 5).trans rfl, (blk_cell BK198.out 6).trans rfl⟩ (fun hHeld => ?_)
    clear hK K
    refine norm_ (a' := ?_) ?_ ?_
    rotate_left
    ·show Act.put _ (some 83) _ = _
     simp only [Act.put, sS, i64_w]
     rfl
    refine pure_ (i := 7) (N := some 84) (v := ?_) (a' := ?_) #[X,X,X,X,X,X,X,X,O,O] rfl rfl (any_of HT_.out (by kernel_rfl)) (fun _ _ _ h => h) (Or.inl ⟨by rfl, ?_⟩) ?_ ?_
    rotate_left
    ·intro w'
     go_simp
     with_reducible rfl
    rotate_left
    ·simp only [Act.put, sS, i64_w]
     rfl
    refine one_ (i := 8) (N := some 85) #[X,X,X,X,X,X,X,X,X,O] rfl rfl (one_of HT_.out (by kernel_rfl)) (by decide) (fun K hK => ?_)
    refine Kd.R_lit_step k124 _ 124 ?hg (N := 85) ?hd (xs := ([(⟨t224, 26, 1⟩ : S124), (⟨t225, 25, 1⟩ : S124)] : List (S124))) (inner := [.int .u32 t224, .int .i64 26, .int .i64 1, .int .u32 t225, .int .i64 25, .int .i64 1]) (ok := fun _ => True) (okp := fun _ => True) ?hr ?hp (fun _ hk => hk) trivial (Below.refl _ _) (Nat.le_refl _) (by simp) ?_; (case hd => rfl); (case hg => rfl); (case hr => first | (go_simp; done) | (go_simp; rfl)); (case hp => exact (Reps.c3 (show Kd.M k124 _ _ _ (⟨t224, 26, 1⟩ : S124) [.int .u32 t224, .int .i64 26, .int .i64 1] from (k124_mkM _ _ _ (⟨t224, 26, 1⟩ : S124) )) (Reps.c3 (show Kd.M k124 _ _ _ (⟨t225, 25, 1⟩ : S124) [.int .u32 t225, .int .i64 25, .int .i64 1] from (k124_mkM _ _ _ (⟨t225, 25, 1⟩ : S124) )) (Reps.none _ _))))
    intro v227 w51 ho52 hb hg_ hnew_
    clear hg_ hnew_
    (first | rw [← Ny226.out] at ho52 | (simp only [Int.reduceToNat] at ho52; rw [← Ny226.out] at ho52))
    have n0_ := Aside0.mk (Kd.R_lower ho52 (below_size tC))
    have n1_ := Aside0.mk (blk_below (g := gb198) (o := .cells #[.int .i64 a0_0, .int .i64 a0_1, .int .i64 a0_2, .int .i64 a0_3, .int .i64 a0_4, .bool a0_5, .bool a0_6] 31 (0, 0)) tP hb)
    have n2_ := Aside0.mk (below_step tC hb)
    clear BK198
    clear HB
    have HO228 := n0_
    have BK198 := n1_
    have HB := n2_
    clear n0_ n1_ n2_
    clear hb ho52
    refine hK.out _ _ ⟨(blk_cell BK198.out 0).trans rfl, (blk_cell BK198.out 1).trans rfl, (blk_cell BK198.out 2).trans rfl, (blk_cell BK198.out 3).trans rfl, (blk_cell BK198.out 4).trans rfl, (blk_cell BK198.out 5).trans rfl, (blk_cell BK198.out 6).trans rfl⟩ (fun hHeld => ?_)
    clear hK K
    refine norm_ (a' := ?_) ?_ ?_
    rotate_left
    ·show Act.put _ (some 85) _ = _
     simp only [Act.put, sS, i64_w]
     rfl
    refine pure_ (i := 9) (N := some 2) (v := ?_) (a' := ?_) #[X,X,X,X,X,X,X,X,X,X] rfl rfl (any_of HT_.out (by kernel_rfl)) (fun _ _ _ h => h) (Or.inl ⟨by rfl, ?_⟩) ?_ ?_
    rotate_left
    ·intro w'
     go_simp
     with_reducible rfl
    rotate_left
    ·simp only [Act.put, sS, i64_w]
     rfl
    refine done_ (done_of HT_.out (by kernel_rfl)) ?_
    try go_wp2
    go_ret
    exact ⟨_, tE, by (with_reducible repeat (first | apply Kd.R_alloc | apply Kd.R_drewN | apply Kd.R_drew)); exact HO228.out, tC⟩
   replace c47 := Bool.eq_false_iff.mpr c47
   subst c47
   rw [if_neg nX] at H
   by_cases c53 : a0_0 = 65
   ·rw [if_pos c53] at H
    have c53b0 := bT c53; have c53b1 := nF c53
    clear c53
    obtain ⟨y229, hy229⟩ : ∃ y_ : List (S124), y_ = (([(⟨1, 20, 1⟩ : S124)] : List (S124))) := ⟨_, rfl⟩
    replace H : (some y229) = some r := by first | (rw [hy229]; with_reducible exact H) | (have H2_ := (Option.bind_some _ _).symm.trans H; rw [hy229]; with_reducible exact H2_) | (have H2_ := (Option.bind_some _ _).symm.trans H; with_reducible exact H2_) | with_reducible exact H | (rw [hy229]; exact H) | exact H
    have Ny229 := Aside0.mk hy229
    clear hy229
    obtain rfl := Option.some.inj H
    have hcz54_0 : wc.cell? ⟨gb198, 0, none⟩ = some (.int .i64 a0_0) := (blk_cell BK198.out 0).trans rfl
    have hcz54_1 : wc.cell? ⟨gb198, 1, none⟩ = some (.int .i64 a0_1) := (blk_cell BK198.out 1).trans rfl
    have hcz54_2 : wc.cell? ⟨gb198, 2, none⟩ = some (.int .i64 a0_2) := (blk_cell BK198.out 2).trans rfl
    have hcz54_3 : wc.cell? ⟨gb198, 3, none⟩ = some (.int .i64 a0_3) := (blk_cell BK198.out 3).trans rfl
    have hcz54_4 : wc.cell? ⟨gb198, 4, none⟩ = some (.int .i64 a0_4) := (blk_cell BK198.out 4).trans rfl
    have hcz54_5 : wc.cell? ⟨gb198, 5, none⟩ = some (.bool a0_5) := (blk_cell BK198.out 5).trans rfl
    have hcz54_6 : wc.cell? ⟨gb198, 6, none⟩ = some (.bool a0_6) := (blk_cell BK198.out 6).trans rfl
    have hfz54_0 := blk_frozen BK198.out 0
    have hfz54_1 := blk_frozen BK198.out 1
    have hfz54_2 := blk_frozen BK198.out 2
    have hfz54_3 := blk_frozen BK198.out 3
    have hfz54_4 := blk_frozen BK198.out 4
    have hfz54_5 := blk_frozen BK198.out 5
    have hfz54_6 := blk_frozen BK198.out 6
    go_wp2_with (first | ((with_reducible refine gate_dst (N := 90) rfl ?_); refine Kd.R_lit k124 _ 124 ?hg (N := 90) ?hd (xs := ([(⟨1, 20, 1⟩ : S124)] : List (S124))) (inner := [.int .u32 1, .int .i64 20, .int .i64 1]) (ok := fun _ => True) (okp := fun _ => True) ?hr ?hp (fun _ hk => hk) trivial (Below.refl _ _) (Nat.le_refl _) (by simp) ?_; (case hd => rfl); (case hg => rfl); (case hr => first | (go_simp; done) | (go_simp; rfl)); (case hp => exact (Reps.c3 (show Kd.M k124 _ _ _ (⟨1, 20, 1⟩ : S124) [.int .u32 1, .int .i64 20, .int .i64 1] from (k124_mkM _ _ _ (⟨1, 20, 1⟩ : S124) )) (Reps.none _ _))); intro v230 w55 ho56 hb hg_ hnew_; clear hg_ hnew_; (first | rw [← Ny229.out] at ho56 | (simp only [Int.reduceToNat] at ho56; rw [← Ny229.out] at ho56)); have n0_ := Aside0.mk (Kd.R_lower ho56 (below_size tC)); have n1_ := Aside0.mk (blk_below (g := gb198) (o := .cells #[.int .i64 a0_0, .int .i64 a0_1, .int .i64 a0_2, .int .i64 a0_3, .int .i64 a0_4, .bool a0_5, .bool a0_6] 31 (0, 0)) tP hb); have n2_ := Aside0.mk (below_step tC hb); clear BK198; clear HB; have HO231 := n0_; have BK198 := n1_; have HB := n2_; clear n0_ n1_ n2_; clear hb ho56))
    go_ret
    exact ⟨_, tE, by (with_reducible repeat (first | apply Kd.R_alloc | apply Kd.R_drewN | apply Kd.R_drew)); exact HO231.out, tC⟩
   rw [if_neg c53] at H
   have c53b0 := bF c53; have c53b1 := nT c53
   obtain rfl := Option.some.inj H
   have hcz57_0 : wc.cell? ⟨gb198, 0, none⟩ = some (.int .i64 a0_0) := (blk_cell BK198.out 0).trans rfl
   have hcz57_1 : wc.cell? ⟨gb198, 1, none⟩ = some (.int .i64 a0_1) := (blk_cell BK198.out 1).trans rfl
   have hcz57_2 : wc.cell? ⟨gb198, 2, none⟩ = some (.int .i64 a0_2) := (blk_cell BK198.out 2).trans rfl
   have hcz57_3 : wc.cell? ⟨gb198, 3, none⟩ = some (.int .i64 a0_3) := (blk_cell BK198.out 3).trans rfl
   have hcz57_4 : wc.cell? ⟨gb198, 4, none⟩ = some (.int .i64 a0_4) := (blk_cell BK198.out 4).trans rfl
   have hcz57_5 : wc.cell? ⟨gb198, 5, none⟩ = some (.bool a0_5) := (blk_cell BK198.out 5).trans rfl
   have hcz57_6 : wc.cell? ⟨gb198, 6, none⟩ = some (.bool a0_6) := (blk_cell BK198.out 6).trans rfl
   have hfz57_0 := blk_frozen BK198.out 0
   have hfz57_1 := blk_frozen BK198.out 1
   have hfz57_2 := blk_frozen BK198.out 2
   have hfz57_3 := blk_frozen BK198.out 3
   have hfz57_4 := blk_frozen BK198.out 4
   have hfz57_5 := blk_frozen BK198.out 5
   have hfz57_6 := blk_frozen BK198.out 6
   go_wp2
   go_ret
   exact ⟨_, tE, by first | exact Kd.R_nil _ _ _ _ _ | exact Kd.N_nil _ _ _ _ _ | exact Kd.V_nil _ _ _ _ _ | exact Kd.Q_nil _ _ _ _ _ | exact Kd.S_nil _ _ _ _ _, tC⟩
end Go.Proofs.YtfcniikbcjmlcaaGreatDoor.QB
end
