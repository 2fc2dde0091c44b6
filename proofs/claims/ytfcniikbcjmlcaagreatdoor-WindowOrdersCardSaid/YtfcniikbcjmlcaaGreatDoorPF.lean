/- Part PF of the proof of spinnakerlaw19.WindowOrders: for every input the law returns true. -/
import Derived.Test.YtfcniikbcjmlcaaGreatDoorKQB11
import Derived.Test.YtfcniikbcjmlcaaGreatDoorKQB13
import Derived.Test.YtfcniikbcjmlcaaGreatDoorKQB6
import Derived.Test.YtfcniikbcjmlcaaGreatDoorPD
import Derived.Test.YtfcniikbcjmlcaaGreatDoorPE
section
namespace Go.Proofs.YtfcniikbcjmlcaaGreatDoor.QB
open Go.RowKit Go.Proofs.YtfcniikbcjmlcaaGreatDoorW.PrintWords Go.Proofs.YtfcniikbcjmlcaaGreatDoorW.PrintLast Go.Proofs.YtfcniikbcjmlcaaGreatDoorW.PrintMore
attribute [local go_sem] max2_int min2_int max_two min_two max_three min_three max_four min_four   -- for this text's walks alone
set_option linter.unusedVariables false
set_option linter.unusedSimpArgs false
mutual
def enc_Encode.j0 : Nat → Int → Bool → Int → Int → Int → Int → Int → Bool → Bool → Int → Int → Int → Option (Int × Int)
 | 0, _, _, _, _, _, _, _, _, _, _, _, _ => none
 | k + 1, x5, x32, x233000, x233001, x233002, x233003, x233004, x233005, x233006, x238000, x238001, x238002 => if x32 = true then (enc_Encode.j1 k x238000 x233000 x233001 x233002 x233003 x233004 x233005 x233006) else (enc_Encode.j1 k x5 x233000 x233001 x233002 x233003 x233004 x233005 x233006)
def enc_Encode.j1 : Nat → Int → Int → Int → Int → Int → Int → Bool → Bool → Option (Int × Int)
 | 0, _, _, _, _, _, _, _, _ => none
 | k + 1, x5, x233000, x233001, x233002, x233003, x233004, x233005, x233006 => (enc_registers.f k x233000 x233001 x233002 x233003 x233004 x233005 x233006).bind fun t243 => ((enc_immediate.f k x233000 x233001 x233002 x233003 x233004 x233005 x233006).bind fun t246 => (if t243.length + t246.length < 5864062014805 then ((enc_pack.f k (t243 ++ t246)).bind fun t252 => (some (Go.bits .or .u32 x5 t252, 0))) else (none)))
end
def enc_Encode.f (k : Nat) (a0_0 : Int) (a0_1 : Int) (a0_2 : Int) (a0_3 : Int) (a0_4 : Int) (a0_5 : Bool) (a0_6 : Bool) : Option (Int × Int) := (isa_May.f k a0_0 a0_1 a0_2 a0_3 a0_4 a0_5 a0_6).bind fun t233 => (if t233 = true then ((enc_of.f a0_0).bind fun bt234 => ((enc_pack.f k (([(⟨bt234.1, 0, 7⟩ : S124), (⟨bt234.2.1, 12, 3⟩ : S124), (⟨bt234.2.2, 25, 7⟩ : S124)] : List (S124)))).bind fun t241 => ((isa_Form.f k a0_0).bind fun t242 => (if t242 = 1 then (enc_Encode.j0 k t241 true a0_0 a0_1 a0_2 a0_3 a0_4 a0_5 a0_6 bt234.1 bt234.2.1 bt234.2.2) else (enc_Encode.j0 k t241 (t242 == 2) a0_0 a0_1 a0_2 a0_3 a0_4 a0_5 a0_6 bt234.1 bt234.2.1 bt234.2.2))))) else (some (0, 1)))
def enc_Encode.T8 : Bool × List (List Nat × List Nat) := (true, [([], []), ([], []), ([1], [1]), ([], []), ([3, 2], [3]), ([2, 4, 4], [2, 4]), ([5, 5], [5]), ([0, 6], [0, 6]), ([7, 6, 0, 1, 2, 3, 4, 5, 6, 7], [7]), ([8, 0, 1, 2, 3, 4, 5, 6, 7, 8], [])])
def enc_Encode.B8 : List Nat := [0, 0, 2, 0, 14, 30, 62, 127, 255, 511]
theorem enc_Encode.tab8 : rtab .any (opsOf Tryz.f68 8) = enc_Encode.T8 := by kernel_rfl
theorem enc_Encode.bits8 : waitsOk enc_Encode.T8.2 enc_Encode.B8 = true := by kernel_rfl
set_option maxHeartbeats 8000000 in
set_option maxRecDepth 100000 in
theorem enc_Encode.calls (k : Nat) (a0_0 : Int) (a0_1 : Int) (a0_2 : Int) (a0_3 : Int) (a0_4 : Int) (a0_5 : Bool) (a0_6 : Bool) (r1 : Int) (r2 : Int) (w : World) (hG : GOK w) (h : enc_Encode.f k a0_0 a0_1 a0_2 a0_3 a0_4 a0_5 a0_6 = some (r1, r2)) :
  Calls Tryz.prog 68 #[.agg #[.int .i64 a0_0, .int .i64 a0_1, .int .i64 a0_2, .int .i64 a0_3, .int .i64 a0_4, .bool a0_5, .bool a0_6]] w fun e w' => e = .returned (.tuple #[.int .u32 r1, .int .i64 r2]) ∧ Below w.heap.size w w' := by
 have hu31 := Tryz.underlying31
 have hu120 := Tryz.underlying120
 have hu124 := Tryz.underlying124
 have HG := Aside0.mk hG
 clear hG
 have HB := Aside0.mk (Below.refl w.heap.size w)
 unfold enc_Encode.f at h; have H := h
 clear h
 obtain ⟨t233, A20, H⟩ := Option.bind_eq_some_iff.mp H
 try dsimp only at H
 have A2 := Aside0.mk A20; clear A20
 by_cases c3 : t233 = true
 ·subst c3
  rw [if_pos rfl] at H
  replace H := Option.bind_eq_some_iff.mp H
  obtain ⟨⟨t234, t235, t236⟩, A40, H⟩ := H
  replace H : ((enc_pack.f k (([(⟨t234, 0, 7⟩ : S124), (⟨t235, 12, 3⟩ : S124), (⟨t236, 25, 7⟩ : S124)] : List (S124)))).bind fun t241 => ((isa_Form.f k a0_0).bind fun t242 => (if t242 = 1 then (enc_Encode.j0 k t241 true a0_0 a0_1 a0_2 a0_3 a0_4 a0_5 a0_6 t234 t235 t236) else (enc_Encode.j0 k t241 (t242 == 2) a0_0 a0_1 a0_2 a0_3 a0_4 a0_5 a0_6 t234 t235 t236)))) = some (r1, r2) := H
  have A4 := Aside0.mk A40; clear A40
  obtain ⟨y238, hy238⟩ : ∃ y_ : List (S124), y_ = (([(⟨t234, 0, 7⟩ : S124), (⟨t235, 12, 3⟩ : S124), (⟨t236, 25, 7⟩ : S124)] : List (S124))) := ⟨_, rfl⟩
  replace H : ((enc_pack.f k y238).bind fun t241 => ((isa_Form.f k a0_0).bind fun t242 => (if t242 = 1 then (enc_Encode.j0 k t241 true a0_0 a0_1 a0_2 a0_3 a0_4 a0_5 a0_6 t234 t235 t236) else (enc_Encode.j0 k t241 (t242 == 2) a0_0 a0_1 a0_2 a0_3 a0_4 a0_5 a0_6 t234 t235 t236)))) = some (r1, r2) := by first | (rw [hy238]; with_reducible exact H) | (have H2_ := (Option.bind_some _ _).symm.trans H; rw [hy238]; with_reducible exact H2_) | (have H2_ := (Option.bind_some _ _).symm.trans H; with_reducible exact H2_) | with_reducible exact H | (rw [hy238]; exact H) | exact H
  have Ny238 := Aside0.mk hy238
  clear hy238
  obtain ⟨t241, A50, H⟩ := Option.bind_eq_some_iff.mp H
  try dsimp only at H
  have A5 := Aside0.mk A50; clear A50
  obtain ⟨t242, A60, H⟩ := Option.bind_eq_some_iff.mp H
  try dsimp only at H
  have A6 := Aside0.mk A60; clear A60
  have HC7 := Aside0.mk H
  clear H
  go_enter Tryz.func68, Tryz.ntmps68
  go_upto_region 6 with (first | ((with_reducible refine gate_dst (N := 1) rfl ?_); refine box_event ?hg (N := 1) ?hd (cs := #[.int .i64 a0_0, .int .i64 a0_1, .int .i64 a0_2, .int .i64 a0_3, .int .i64 a0_4, .bool a0_5, .bool a0_6]) (t := 31) ?hr ?_; (case hd => rfl); (case hg => rfl); (case hr => first | (go_simp; done) | (go_simp; rfl)); intro gb232 hg w8 hbox hb; have n0_ := Aside0.mk (below_step tB hb); have n1_ := Aside0.mk (hbox); have n2_ := Aside0.mk ((by rw [hg]; exact (below_size tB) : w.heap.size ≤ gb232)); have n3_ := Aside0.mk ((by rw [hg]; exact (below_size tB) : w.heap.size ≤ gb232)); clear HB; have HB := n0_; have BK232 := n1_; have GW232 := n2_; have GE232 := n3_; clear n0_ n1_ n2_ n3_; clear hb hbox hg; have hcz9_0 : w8.cell? ⟨gb232, 0, none⟩ = some (.int .i64 a0_0) := (blk_cell BK232.out 0).trans rfl; have hcz9_1 : w8.cell? ⟨gb232, 1, none⟩ = some (.int .i64 a0_1) := (blk_cell BK232.out 1).trans rfl; have hcz9_2 : w8.cell? ⟨gb232, 2, none⟩ = some (.int .i64 a0_2) := (blk_cell BK232.out 2).trans rfl; have hcz9_3 : w8.cell? ⟨gb232, 3, none⟩ = some (.int .i64 a0_3) := (blk_cell BK232.out 3).trans rfl; have hcz9_4 : w8.cell? ⟨gb232, 4, none⟩ = some (.int .i64 a0_4) := (blk_cell BK232.out 4).trans rfl; have hcz9_5 : w8.cell? ⟨gb232, 5, none⟩ = some (.bool a0_5) := (blk_cell BK232.out 5).trans rfl; have hcz9_6 : w8.cell? ⟨gb232, 6, none⟩ = some (.bool a0_6) := (blk_cell BK232.out 6).trans rfl; have hfz9_0 := blk_frozen BK232.out 0; have hfz9_1 := blk_frozen BK232.out 1; have hfz9_2 := blk_frozen BK232.out 2; have hfz9_3 := blk_frozen BK232.out 3; have hfz9_4 := blk_frozen BK232.out 4; have hfz9_5 := blk_frozen BK232.out 5; have hfz9_6 := blk_frozen BK232.out 6) | ((with_reducible refine gate_callee (f := 65) rfl ?_); refine goesL_ (some 8) rfl rfl Tryz.func65 (by kernel_rfl) rfl #[.agg #[.int .i64 a0_0, .int .i64 a0_1, .int .i64 a0_2, .int .i64 a0_3, .int .i64 a0_4, .bool a0_5, .bool a0_6]] rfl tM ?_; (with_reducible refine (isa_May.calls k a0_0 a0_1 a0_2 a0_3 a0_4 a0_5 a0_6 true _ ?side1 A2.out).mono ?_); (case side1 => exact GOK.below tC HG.out); rintro e w10 ⟨rfl, hb⟩; refine ⟨_, rfl, ?_⟩; have n0_ := Aside0.mk (blk_below (g := gb232) (o := .cells #[.int .i64 a0_0, .int .i64 a0_1, .int .i64 a0_2, .int .i64 a0_3, .int .i64 a0_4, .bool a0_5, .bool a0_6] 31 (0, 0)) tP hb); have n1_ := Aside0.mk (below_step tC hb); clear BK232; clear HB; have BK232 := n0_; have HB := n1_; clear n0_ n1_; (try clear hb); (try clear hb2); (try clear hk); (try clear hi); have hcz11_0 : w10.cell? ⟨gb232, 0, none⟩ = some (.int .i64 a0_0) := (blk_cell BK232.out 0).trans rfl; have hcz11_1 : w10.cell? ⟨gb232, 1, none⟩ = some (.int .i64 a0_1) := (blk_cell BK232.out 1).trans rfl; have hcz11_2 : w10.cell? ⟨gb232, 2, none⟩ = some (.int .i64 a0_2) := (blk_cell BK232.out 2).trans rfl; have hcz11_3 : w10.cell? ⟨gb232, 3, none⟩ = some (.int .i64 a0_3) := (blk_cell BK232.out 3).trans rfl; have hcz11_4 : w10.cell? ⟨gb232, 4, none⟩ = some (.int .i64 a0_4) := (blk_cell BK232.out 4).trans rfl; have hcz11_5 : w10.cell? ⟨gb232, 5, none⟩ = some (.bool a0_5) := (blk_cell BK232.out 5).trans rfl; have hcz11_6 : w10.cell? ⟨gb232, 6, none⟩ = some (.bool a0_6) := (blk_cell BK232.out 6).trans rfl; have hfz11_0 := blk_frozen BK232.out 0; have hfz11_1 := blk_frozen BK232.out 1; have hfz11_2 := blk_frozen BK232.out 2; have hfz11_3 := blk_frozen BK232.out 3; have hfz11_4 := blk_frozen BK232.out 4; have hfz11_5 := blk_frozen BK232.out 5; have hfz11_6 := blk_frozen BK232.out 6) | ((with_reducible refine gate_callee (f := 95) rfl ?_); refine goesL_ (some 12) rfl rfl Tryz.func95 (by kernel_rfl) rfl #[.int .i64 a0_0] rfl tM ?_; (with_reducible refine (enc_of.calls a0_0 t234 t235 t236 _ A4.out).mono ?_); rintro e w12 ⟨rfl, hb⟩; refine ⟨_, rfl, ?_⟩; have n0_ := Aside0.mk (blk_below (g := gb232) (o := .cells #[.int .i64 a0_0, .int .i64 a0_1, .int .i64 a0_2, .int .i64 a0_3, .int .i64 a0_4, .bool a0_5, .bool a0_6] 31 (0, 0)) tP hb); have n1_ := Aside0.mk (below_step tC hb); clear BK232; clear HB; have BK232 := n0_; have HB := n1_; clear n0_ n1_; (try clear hb); (try clear hb2); (try clear hk); (try clear hi)) | ((with_reducible refine gate_dst (N := 4) rfl ?_); refine box_event ?hg (N := 4) ?hd (cs := #[.int .u32 0, .int .u32 0, .int .u32 0]) (t := 120) ?hr ?_; (case hd => rfl); (case hg => rfl); (case hr => first | (go_simp; done) | (go_simp; rfl)); intro gb237 hg w13 hbox hb; have n0_ := Aside0.mk (blk_below (g := gb232) (o := .cells #[.int .i64 a0_0, .int .i64 a0_1, .int .i64 a0_2, .int .i64 a0_3, .int .i64 a0_4, .bool a0_5, .bool a0_6] 31 (0, 0)) tP hb); have n1_ := Aside0.mk (below_step tC hb); have n2_ := Aside0.mk (hbox); have n3_ := Aside0.mk ((by rw [hg]; exact (below_size tC) : w.heap.size ≤ gb237)); have n4_ := Aside0.mk ((by rw [hg]; exact (below_size tC) : w.heap.size ≤ gb237)); have n5_ := Aside0.mk ((by rw [hg]; exact Nat.ne_of_lt (blk_lt (g := gb232) (o := .cells #[.int .i64 a0_0, .int .i64 a0_1, .int .i64 a0_2, .int .i64 a0_3, .int .i64 a0_4, .bool a0_5, .bool a0_6] 31 (0, 0)) tP) : gb232 ≠ gb237)); have n6_ := Aside0.mk ((by rw [hg]; exact Nat.ne_of_gt (blk_lt (g := gb232) (o := .cells #[.int .i64 a0_0, .int .i64 a0_1, .int .i64 a0_2, .int .i64 a0_3, .int .i64 a0_4, .bool a0_5, .bool a0_6] 31 (0, 0)) tP) : gb237 ≠ gb232)); clear BK232; clear HB; have BK232 := n0_; have HB := n1_; have BK237 := n2_; have GW237 := n3_; have GE237 := n4_; have NB232_237 := n5_; have NB237_232 := n6_; clear n0_ n1_ n2_ n3_ n4_ n5_ n6_; clear hb hbox hg; have hnb14 := NB237_232.out; have hnc14 := NB232_237.out; have hcz15_0 : w13.cell? ⟨gb237, 0, none⟩ = some (.int .u32 0) := (blk_cell BK237.out 0).trans rfl; have hcz15_1 : w13.cell? ⟨gb237, 1, none⟩ = some (.int .u32 0) := (blk_cell BK237.out 1).trans rfl; have hcz15_2 : w13.cell? ⟨gb237, 2, none⟩ = some (.int .u32 0) := (blk_cell BK237.out 2).trans rfl; have hfz15_0 := blk_frozen BK237.out 0; have hfz15_1 := blk_frozen BK237.out 1; have hfz15_2 := blk_frozen BK237.out 2) | ((with_reducible refine gate_dst (N := 22) rfl ?_); refine Kd.R_lit k124 _ 124 ?hg (N := 22) ?hd (xs := ([(⟨t234, 0, 7⟩ : S124), (⟨t235, 12, 3⟩ : S124), (⟨t236, 25, 7⟩ : S124)] : List (S124))) (inner := [.int .u32 t234, .int .i64 0, .int .i64 7, .int .u32 t235, .int .i64 12, .int .i64 3, .int .u32 t236, .int .i64 25, .int .i64 7]) (ok := fun _ => True) (okp := fun _ => True) ?hr ?hp (fun _ hk => hk) trivial (Below.refl _ _) (Nat.le_refl _) (by simp) ?_; (case hd => rfl); (case hg => rfl); (case hr => first | (go_simp; done) | (go_simp; rfl)); (case hp => exact (Reps.c3 (show Kd.M k124 _ _ _ (⟨t234, 0, 7⟩ : S124) [.int .u32 t234, .int .i64 0, .int .i64 7] from (k124_mkM _ _ _ (⟨t234, 0, 7⟩ : S124) )) (Reps.c3 (show Kd.M k124 _ _ _ (⟨t235, 12, 3⟩ : S124) [.int .u32 t235, .int .i64 12, .int .i64 3] from (k124_mkM _ _ _ (⟨t235, 12, 3⟩ : S124) )) (Reps.c3 (show Kd.M k124 _ _ _ (⟨t236, 25, 7⟩ : S124) [.int .u32 t236, .int .i64 25, .int .i64 7] from (k124_mkM _ _ _ (⟨t236, 25, 7⟩ : S124) )) (Reps.none _ _))))); intro v239 w16 ho17 hb hg_ hnew_; clear hg_ hnew_; (first | rw [← Ny238.out] at ho17 | (simp only [Int.reduceToNat] at ho17; rw [← Ny238.out] at ho17)); have n0_ := Aside0.mk (Kd.R_lower ho17 (below_size tC)); have n1_ := Aside0.mk (blk_below (g := gb232) (o := .cells #[.int .i64 a0_0, .int .i64 a0_1, .int .i64 a0_2, .int .i64 a0_3, .int .i64 a0_4, .bool a0_5, .bool a0_6] 31 (0, 0)) tQ hb); have n2_ := Aside0.mk (blk_below (g := gb237) (o := .cells #[.int .u32 t234, .int .u32 t235, .int .u32 t236] 120 (0, 0)) (by (with_reducible repeat (first | refine blk_drewN ?_ _ | refine blk_drew ?_ | refine blk_alloc ?_ _)); refine blk_put (cs := #[.int .u32 t234, .int .u32 t235, .int .u32 0]) ?_ 2 _ rfl; (with_reducible repeat (first | refine blk_drewN ?_ _ | refine blk_drew ?_ | refine blk_alloc ?_ _)); refine blk_put (cs := #[.int .u32 t234, .int .u32 0, .int .u32 0]) ?_ 1 _ rfl; (with_reducible repeat (first | refine blk_drewN ?_ _ | refine blk_drew ?_ | refine blk_alloc ?_ _)); refine blk_put (cs := #[.int .u32 0, .int .u32 0, .int .u32 0]) ?_ 0 _ rfl; (with_reducible repeat (first | refine blk_drewN ?_ _ | refine blk_drew ?_ | refine blk_alloc ?_ _)); exact BK237.out) hb); have n3_ := Aside0.mk (below_step tC hb); clear BK232; clear BK237; clear HB; have HO240 := n0_; have BK232 := n1_; have BK237 := n2_; have HB := n3_; clear n0_ n1_ n2_ n3_; clear hb ho17; obtain ⟨Ao18, co18, eo18⟩ := Kd.R_slice HO240.out; subst eo18) | ((with_reducible refine gate_callee (f := 96) rfl ?_); refine goesL_ (some 23) rfl rfl Tryz.func96 (by kernel_rfl) rfl #[.slice Ao18 y238.length co18] rfl tM ?_; (with_reducible refine (enc_pack.calls k _ _ y238 t241 _ ?side1 ?side2 A5.out).mono ?_); (case side1 => repeat (first | exact (Kd.R_reads' HO240.out).2.2 | (with_reducible refine Kd.C_alloc ?_ _) | (with_reducible refine Kd.C_drewN ?_ _) | (with_reducible refine Kd.C_drew ?_))); (case side2 => exact (Kd.R_reads' HO240.out).2.1); rintro e w19 ⟨rfl, hb⟩; refine ⟨_, rfl, ?_⟩; have n0_ := Aside0.mk (Kd.R_below (by (with_reducible repeat (first | apply Kd.R_alloc | apply Kd.R_drewN | apply Kd.R_drew)); exact HO240.out) hb); have n1_ := Aside0.mk (blk_below (g := gb232) (o := .cells #[.int .i64 a0_0, .int .i64 a0_1, .int .i64 a0_2, .int .i64 a0_3, .int .i64 a0_4, .bool a0_5, .bool a0_6] 31 (0, 0)) tP hb); have n2_ := Aside0.mk (blk_below (g := gb237) (o := .cells #[.int .u32 t234, .int .u32 t235, .int .u32 t236] 120 (0, 0)) tP hb); have n3_ := Aside0.mk (below_step tC hb); clear HO240; clear BK232; clear BK237; clear HB; have HO240 := n0_; have BK232 := n1_; have BK237 := n2_; have HB := n3_; clear n0_ n1_ n2_ n3_; (try clear hb); (try clear hb2); (try clear hk); (try clear hi); have hcz20_0 : w19.cell? ⟨gb232, 0, none⟩ = some (.int .i64 a0_0) := (blk_cell BK232.out 0).trans rfl; have hcz20_1 : w19.cell? ⟨gb232, 1, none⟩ = some (.int .i64 a0_1) := (blk_cell BK232.out 1).trans rfl; have hcz20_2 : w19.cell? ⟨gb232, 2, none⟩ = some (.int .i64 a0_2) := (blk_cell BK232.out 2).trans rfl; have hcz20_3 : w19.cell? ⟨gb232, 3, none⟩ = some (.int .i64 a0_3) := (blk_cell BK232.out 3).trans rfl; have hcz20_4 : w19.cell? ⟨gb232, 4, none⟩ = some (.int .i64 a0_4) := (blk_cell BK232.out 4).trans rfl; have hcz20_5 : w19.cell? ⟨gb232, 5, none⟩ = some (.bool a0_5) := (blk_cell BK232.out 5).trans rfl; have hcz20_6 : w19.cell? ⟨gb232, 6, none⟩ = some (.bool a0_6) := (blk_cell BK232.out 6).trans rfl; have hfz20_0 := blk_frozen BK232.out 0; have hfz20_1 := blk_frozen BK232.out 1; have hfz20_2 := blk_frozen BK232.out 2; have hfz20_3 := blk_frozen BK232.out 3; have hfz20_4 := blk_frozen BK232.out 4; have hfz20_5 := blk_frozen BK232.out 5; have hfz20_6 := blk_frozen BK232.out 6) | ((with_reducible refine gate_callee (f := 55) rfl ?_); refine goesL_ (some 26) rfl rfl Tryz.func55 (by kernel_rfl) rfl #[.int .i64 a0_0] rfl tM ?_; (with_reducible refine (isa_Form.calls k a0_0 t242 _ ?side1 A6.out).mono ?_); (case side1 => exact GOK.below tC HG.out); rintro e w' ⟨rfl, ⟨nd, rfl⟩⟩; refine ⟨_, rfl, ?_⟩))
  (try simp only [Act.put, sS])
  go_cut [32] (fun v32 wc => ∃ (kq : Nat) (x32_6 : Bool), v32 = .bool x32_6 ∧ Aside0 (enc_Encode.j0 kq t241 x32_6 a0_0 a0_1 a0_2 a0_3 a0_4 a0_5 a0_6 t234 t235 t236 = some (r1, r2)) ∧ Aside0 (kq ≤ k) ∧ Aside0 (wc.heap[gb232]? = some (.cells #[.int .i64 a0_0, .int .i64 a0_1, .int .i64 a0_2, .int .i64 a0_3, .int .i64 a0_4, .bool a0_5, .bool a0_6] 31 (0, 0))) ∧ Aside0 (wc.heap[gb237]? = some (.cells #[.int .u32 t234, .int .u32 t235, .int .u32 t236] 120 (0, 0))) ∧ Aside0 (Below w.heap.size w wc))
  case first =>
   have H := HC7.out
   clear HC7
   by_cases c21 : t242 = 1
   ·rw [if_pos c21] at H
    have c21b0 := bT c21; have c21b1 := nF c21
    clear c21
    (first | rw [c21b0] | (simp only [i64_w]; rw [c21b0]) | skip)
    have H' := Aside0.mk H
    clear H
    go_wp2
    go_meet
    case rel => exact ⟨_, (true), tR, H', ⟨tO⟩, ⟨tP⟩, ⟨tP⟩, ⟨tC⟩⟩
   rw [if_neg c21] at H
   have c21b0 := bF c21; have c21b1 := nT c21
   (first | rw [c21b0] | (simp only [i64_w]; rw [c21b0]) | skip)
   have H' := Aside0.mk H
   clear H
   go_wp2
   go_meet
   case rel => exact ⟨_, ((t242 == 2)), tR, H', ⟨tO⟩, ⟨tP⟩, ⟨tP⟩, ⟨tC⟩⟩
  case rest =>
   clear HC7
   (try clear c1); (try clear c2); (try clear p2); (try clear c3); (try clear c5); (try clear c6); (try clear c9); (try clear c14); (try clear c21); (try clear c21b0 c21b1); (try clear hcz11_0 hcz11_1 hcz11_2 hcz11_3 hcz11_4 hcz11_5 hcz11_6); (try clear hcz15_0 hcz15_1 hcz15_2); (try clear hcz20_0 hcz20_1 hcz20_2 hcz20_3 hcz20_4 hcz20_5 hcz20_6); (try clear hcz9_0 hcz9_1 hcz9_2 hcz9_3 hcz9_4 hcz9_5 hcz9_6); (try clear hfz11_0 hfz11_1 hfz11_2 hfz11_3 hfz11_4 hfz11_5 hfz11_6); (try clear hfz15_0 hfz15_1 hfz15_2); (try clear hfz20_0 hfz20_1 hfz20_2 hfz20_3 hfz20_4 hfz20_5 hfz20_6); (try clear hfz9_0 hfz9_1 hfz9_2 hfz9_3 hfz9_4 hfz9_5 hfz9_6)
   obtain ⟨kq, x32_6, rfl, HA, HJ6, BK232, BK237, HB⟩ := hcut
   cases kq with
   | zero => exact absurd HA.out (by simp [enc_Encode.j0])
   | succ kj6 =>
    have H := HA.out
    clear HA
    simp only [enc_Encode.j0] at H
    have HC22 := Aside0.mk H
    clear H
    go_upto_if 32 with (fail)
    go_cut [5] (fun v5 wc => ∃ (kq : Nat) (x5_21 : Int), v5 = .int .u32 x5_21 ∧ Aside0 (enc_Encode.j1 kq x5_21 a0_0 a0_1 a0_2 a0_3 a0_4 a0_5 a0_6 = some (r1, r2)) ∧ Aside0 (kq ≤ kj6) ∧ Aside0 (wc.heap[gb232]? = some (.cells #[.int .i64 a0_0, .int .i64 a0_1, .int .i64 a0_2, .int .i64 a0_3, .int .i64 a0_4, .bool a0_5, .bool a0_6] 31 (0, 0))) ∧ Aside0 (wc.heap[gb237]? = some (.cells #[.int .u32 t234, .int .u32 t235, .int .u32 t236] 120 (0, 0))) ∧ Aside0 (Below w.heap.size w wc))
    case first =>
     have H := HC22.out
     clear HC22
     by_cases c23 : x32_6 = true
     ·subst c23
      rw [if_pos rfl] at H
      have H' := Aside0.mk H
      clear H
      have hnb24 := NB237_232.out
      have hnc24 := NB232_237.out
      have hcz25_0 : wc.cell? ⟨gb237, 0, none⟩ = some (.int .u32 t234) := (blk_cell BK237.out 0).trans rfl
      have hcz25_1 : wc.cell? ⟨gb237, 1, none⟩ = some (.int .u32 t235) := (blk_cell BK237.out 1).trans rfl
      have hcz25_2 : wc.cell? ⟨gb237, 2, none⟩ = some (.int .u32 t236) := (blk_cell BK237.out 2).trans rfl
      have hfz25_0 := blk_frozen BK237.out 0
      have hfz25_1 := blk_frozen BK237.out 1
      have hfz25_2 := blk_frozen BK237.out 2
      go_wp2
      go_meet
      case rel => exact ⟨_, (t234), tR, H', ⟨by have := HJ6.out; first | omega | exact Nat.le_refl _⟩, ⟨tP⟩, ⟨tP⟩, ⟨tC⟩⟩
     replace c23 := Bool.eq_false_iff.mpr c23
     subst c23
     rw [if_neg nX] at H
     have H' := Aside0.mk H
     clear H
     go_wp2
     go_meet
     case rel => exact ⟨_, (t241), tR, H', ⟨by have := HJ6.out; first | omega | exact Nat.le_refl _⟩, ⟨tP⟩, ⟨tP⟩, ⟨tC⟩⟩
    case rest =>
     clear HC22
     (try clear c1); (try clear c2); (try clear p2); (try clear c3); (try clear c5); (try clear c6); (try clear c9); (try clear c14); (try clear c21); (try clear c23); (try clear c24); (try clear p2); (try clear c21b0 c21b1); (try clear hcz11_0 hcz11_1 hcz11_2 hcz11_3 hcz11_4 hcz11_5 hcz11_6); (try clear hcz15_0 hcz15_1 hcz15_2); (try clear hcz20_0 hcz20_1 hcz20_2 hcz20_3 hcz20_4 hcz20_5 hcz20_6); (try clear hcz25_0 hcz25_1 hcz25_2); (try clear hcz9_0 hcz9_1 hcz9_2 hcz9_3 hcz9_4 hcz9_5 hcz9_6); (try clear hfz11_0 hfz11_1 hfz11_2 hfz11_3 hfz11_4 hfz11_5 hfz11_6); (try clear hfz15_0 hfz15_1 hfz15_2); (try clear hfz20_0 hfz20_1 hfz20_2 hfz20_3 hfz20_4 hfz20_5 hfz20_6); (try clear hfz25_0 hfz25_1 hfz25_2); (try clear hfz9_0 hfz9_1 hfz9_2 hfz9_3 hfz9_4 hfz9_5 hfz9_6)
     obtain ⟨kq, x5_21, rfl, HA, HJ21, BK232, BK237, HB⟩ := hcut
     cases kq with
     | zero => exact absurd HA.out (by simp [enc_Encode.j1])
     | succ kj21 =>
      have H := HA.out
      clear HA
      simp only [enc_Encode.j1] at H
      obtain ⟨t243, A260, H⟩ := Option.bind_eq_some_iff.mp H
      try dsimp only at H
      have A26 := Aside0.mk A260; clear A260
      obtain ⟨t246, A270, H⟩ := Option.bind_eq_some_iff.mp H
      try dsimp only at H
      have A27 := Aside0.mk A270; clear A270
      by_cases c28 : t243.length + t246.length < 5864062014805
      ·rw [if_pos c28] at H
       have LMc28 := Aside0.mk c28
       clear c28
       obtain ⟨y249, hy249⟩ : ∃ y_ : List (S124), y_ = (t243 ++ t246) := ⟨_, rfl⟩
       replace H : ((enc_pack.f kj21 y249).bind fun t252 => (some (Go.bits .or .u32 x5_21 t252, 0))) = some (r1, r2) := by first | (rw [hy249]; with_reducible exact H) | (have H2_ := (Option.bind_some _ _).symm.trans H; rw [hy249]; with_reducible exact H2_) | (have H2_ := (Option.bind_some _ _).symm.trans H; with_reducible exact H2_) | with_reducible exact H | (rw [hy249]; exact H) | exact H
       have Ny249 := Aside0.mk hy249
       clear hy249
       obtain ⟨t252, A290, H⟩ := Option.bind_eq_some_iff.mp H
       try dsimp only at H
       have A29 := Aside0.mk A290; clear A290
       simp only [Option.some.injEq, Prod.mk.injEq] at H
       obtain ⟨rfl, rfl⟩ := H
       try go_wp2
       have n0_ := Aside0.mk (blk_drew BK232.out)
       have n1_ := Aside0.mk (blk_drew BK237.out)
       have n2_ := Aside0.mk (below_drew1 HB.out)
       clear BK232
       clear BK237
       clear HB
       have BK232 := n0_
       have BK237 := n1_
       have HB := n2_
       clear n0_ n1_ n2_
       refine start_ (n := 10) (S := fun w' => w'.cell? ⟨gb232, 0, none⟩ = some (.int .i64 a0_0) ∧ w'.cell? ⟨gb232, 1, none⟩ = some (.int .i64 a0_1) ∧ w'.cell? ⟨gb232, 2, none⟩ = some (.int .i64 a0_2) ∧ w'.cell? ⟨gb232, 3, none⟩ = some (.int .i64 a0_3) ∧ w'.cell? ⟨gb232, 4, none⟩ = some (.int .i64 a0_4) ∧ w'.cell? ⟨gb232, 5, none⟩ = some (.bool a0_5) ∧ w'.cell? ⟨gb232, 6, none⟩ = some (.bool a0_6)) (ds := []) #[O,O,O,O,O,O,O,O,O,O] (by kernel_rfl) rfl rfl ⟨(blk_cell BK232.out 0).trans rfl, (blk_cell BK232.out 1).trans rfl, (blk_cell BK232.out 2).trans rfl, (blk_cell BK232.out 3).trans rfl, (blk_cell BK232.out 4).trans rfl, (blk_cell BK232.out 5).trans rfl, (blk_cell BK232.out 6).trans rfl⟩ (fun hHeld => ?_); refine with_tabW enc_Encode.tab8 enc_Encode.bits8 (fun HT_ HW_ => ?_)
       generalize wc.drew = w30 at BK232 BK237 HB hHeld ⊢
       refine pure_ (i := 0) (N := some 35) (v := ?_) (a' := ?_) #[X,O,O,O,O,O,O,O,O,O] rfl rfl (any_of HT_.out (by kernel_rfl)) (fun _ _ _ h => h) (Or.inl ⟨by rfl, ?_⟩) ?_ ?_
       rotate_left
       ·intro w'
        go_simp
        with_reducible rfl
       rotate_left
       ·simp only [Act.put, sS, i64_w]
        rfl
       refine take_ (i := 1) (N := some 36) (v := ?_) (a' := ?_) #[X,X,O,O,O,O,O,O,O,O] rfl rfl (take_ofW HT_.out HW_.out (by kernel_rfl)) (fun _ _ _ h => h) (Or.inl ⟨by rfl, ?_⟩) hHeld ?_ ?_
       rotate_left
       ·rintro w' ⟨s0, s1, s2, s3, s4, s5, s6⟩
        go_simp
        with_reducible rfl
       rotate_left
       ·simp only [Act.put, sS, i64_w]
        rfl
       refine take_ (i := 3) (N := some 38) (v := ?_) (a' := ?_) #[X,X,O,X,O,O,O,O,O,O] rfl rfl (take_ofW HT_.out HW_.out (by kernel_rfl)) (fun _ _ _ h => h) (Or.inl ⟨by rfl, ?_⟩) hHeld ?_ ?_
       rotate_left
       ·rintro w' ⟨s0, s1, s2, s3, s4, s5, s6⟩
        go_simp
        with_reducible rfl
       rotate_left
       ·simp only [Act.put, sS, i64_w]
        rfl
       refine one_ (i := 2) (N := some 37) #[X,X,X,X,O,O,O,O,O,O] rfl rfl (one_of HT_.out (by kernel_rfl)) (by decide) (fun K hK => ?_)
       refine goes_ Tryz.func97 (by kernel_rfl) rfl #[.agg #[.int .i64 a0_0, .int .i64 a0_1, .int .i64 a0_2, .int .i64 a0_3, .int .i64 a0_4, .bool a0_5, .bool a0_6]] (by rfl) rfl rfl tM ?_
       with_reducible refine (enc_registers.calls kj21 a0_0 a0_1 a0_2 a0_3 a0_4 a0_5 a0_6 t243 _ ?side1 A26.out).mono ?_
       (case side1 => exact GOK.below tC HG.out)
       rintro e w31 ⟨v244, rfl, ho0, hb⟩
       refine ⟨_, rfl, ?_⟩
       have n0_ := Aside0.mk (Kd.R_lower ho0 (below_size tC))
       have n1_ := Aside0.mk (blk_below (g := gb232) (o := .cells #[.int .i64 a0_0, .int .i64 a0_1, .int .i64 a0_2, .int .i64 a0_3, .int .i64 a0_4, .bool a0_5, .bool a0_6] 31 (0, 0)) tP hb)
       have n2_ := Aside0.mk (blk_below (g := gb237) (o := .cells #[.int .u32 t234, .int .u32 t235, .int .u32 t236] 120 (0, 0)) tP hb)
       have n3_ := Aside0.mk (below_step tC hb)
       clear BK232
       clear BK237
       clear HB
       have HO245 := n0_
       have BK232 := n1_
       have BK237 := n2_
       have HB := n3_
       clear n0_ n1_ n2_ n3_
       (try clear hb)
       (try clear hb2)
       (try clear hk)
       (try clear hi)
       (try clear ho0)
       refine hK.out _ _ ⟨(blk_cell BK232.out 0).trans rfl, (blk_cell BK232.out 1).trans rfl, (blk_cell BK232.out 2).trans rfl, (blk_cell BK232.out 3).trans rfl, (blk_cell BK232.out 4).trans rfl, (blk_cell BK232.out 5).trans rfl, (blk_cell BK232.out 6).trans rfl⟩ (fun hHeld => ?_)
       clear hK K
       refine norm_ (a' := ?_) ?_ ?_
       rotate_left
       ·show Act.put _ (some 37) _ = _
        simp only [Act.put, sS, i64_w]
        rfl
       refine one_ (i := 4) (N := some 39) #[X,X,X,X,X,O,O,O,O,O] rfl rfl (one_of HT_.out (by kernel_rfl)) (by decide) (fun K hK => ?_)
       refine goes_ Tryz.func98 (by kernel_rfl) rfl #[.agg #[.int .i64 a0_0, .int .i64 a0_1, .int .i64 a0_2, .int .i64 a0_3, .int .i64 a0_4, .bool a0_5, .bool a0_6]] (by rfl) rfl rfl tM ?_
       with_reducible refine (enc_immediate.calls kj21 a0_0 a0_1 a0_2 a0_3 a0_4 a0_5 a0_6 t246 _ ?side1 A27.out).mono ?_
       (case side1 => exact GOK.below tC HG.out)
       rintro e w32 ⟨v247, rfl, ho0, hb⟩
       refine ⟨_, rfl, ?_⟩
       have n0_ := Aside0.mk (Kd.R_elder' (by (with_reducible repeat (first | apply Kd.R_alloc | apply Kd.R_drewN | apply Kd.R_drew)); exact HO245.out) (Kd.R_base ho0) hb)
       have n1_ := Aside0.mk (Kd.R_lower (Kd.R_new' ho0 (Kd.R_lt (by (with_reducible repeat (first | apply Kd.R_alloc | apply Kd.R_drewN | apply Kd.R_drew)); exact HO245.out))) (below_size tC))
       have n2_ := Aside0.mk (blk_below (g := gb232) (o := .cells #[.int .i64 a0_0, .int .i64 a0_1, .int .i64 a0_2, .int .i64 a0_3, .int .i64 a0_4, .bool a0_5, .bool a0_6] 31 (0, 0)) tP hb)
       have n3_ := Aside0.mk (blk_below (g := gb237) (o := .cells #[.int .u32 t234, .int .u32 t235, .int .u32 t236] 120 (0, 0)) tP hb)
       have n4_ := Aside0.mk (below_step tC hb)
       clear HO245
       clear BK232
       clear BK237
       clear HB
       have HO245 := n0_
       have HO248 := n1_
       have BK232 := n2_
       have BK237 := n3_
       have HB := n4_
       clear n0_ n1_ n2_ n3_ n4_
       (try clear hb)
       (try clear hb2)
       (try clear hk)
       (try clear hi)
       (try clear ho0)
       obtain ⟨Ao34, co34, eo34⟩ := Kd.R_slice HO248.out
       (first | subst eo34 | (injection eo34 with f1_ f2_ f3_; have f4_ := f1_.symm; have f5_ := f3_.symm; clear f1_ f2_ f3_; subst f4_; subst f5_))
       refine hK.out _ _ ⟨(blk_cell BK232.out 0).trans rfl, (blk_cell BK232.out 1).trans rfl, (blk_cell BK232.out 2).trans rfl, (blk_cell BK232.out 3).trans rfl, (blk_cell BK232.out 4).trans rfl, (blk_cell BK232.out 5).trans rfl, (blk_cell BK232.out 6).trans rfl⟩ (fun hHeld => ?_)
       clear hK K
       refine norm_ (a' := ?_) ?_ ?_
       rotate_left
       ·show Act.put _ (some 39) _ = _
        simp only [Act.put, sS, i64_w]
        rfl
       refine one_ (i := 5) (N := some 40) #[X,X,X,X,X,X,O,O,O,O] rfl rfl (one_of HT_.out (by kernel_rfl)) (by decide) (fun K hK => ?_)
       refine Kd.R_append_rows_step k124 (w0 := w) w.heap.size (by rfl) (.tmp 37) (.tmp 39) 125 124 (.agg #[(.int .u32 0), (.int .i64 0), (.int .i64 0)]) 24 rfl Tryz.underlying125 info124 rfl (by decide) (by omega) v244 t243 t246 _ _ _ (fun k_ => some k_ ≠ (.slice Ao34 t246.length co34 : Value).ownBlock) (fun _ => False) rfl rfl ?aO ?aR (fun _ _ h => h) (fun _ h => h.elim) ?aF ?aB ?aS ?aL ?_
       (case aR => repeat (first | exact (Kd.R_reads' HO248.out).2.2 | (with_reducible refine Kd.C_alloc ?_ _) | (with_reducible refine Kd.C_drewN ?_ _) | (with_reducible refine Kd.C_drew ?_)))
       (case aB => exact tC)
       (case aF => exact (fun k_ hk => Kd.fresh' (Kd.R_lt (by (with_reducible repeat (first | apply Kd.R_alloc | apply Kd.R_drewN | apply Kd.R_drew)); exact HO248.out)) k_ hk))
       (case aO => exact (by (with_reducible repeat (first | apply Kd.R_alloc | apply Kd.R_drewN | apply Kd.R_drew)); exact Kd.R_mono HO245.out (fun _ hk => hk.2)))
       (case aS => exact (below_size tC))
       (case aL => have := LMc28.out; omega)
       intro v250 w33 ho hb hg hat
       rw [← Ny249.out] at ho
       have n0_ := Aside0.mk (blk_grown (g := gb232) (o := .cells #[.int .i64 a0_0, .int .i64 a0_1, .int .i64 a0_2, .int .i64 a0_3, .int .i64 a0_4, .bool a0_5, .bool a0_6] 31 (0, 0)) tP hg (Kd.R_ne HO245.out BK232.out (by decide)))
       have n1_ := Aside0.mk (blk_grown (g := gb237) (o := .cells #[.int .u32 t234, .int .u32 t235, .int .u32 t236] 120 (0, 0)) tP hg (Kd.R_ne HO245.out BK237.out (by decide)))
       have n2_ := Aside0.mk (Kd.R_after (ok := (fun _ => True)) (by (with_reducible repeat (first | apply Kd.R_alloc | apply Kd.R_drewN | apply Kd.R_drew)); exact HO248.out) hg hat)
       have n3_ := Aside0.mk (hb)
       have n4_ := Aside0.mk (ho)
       clear BK232
       clear BK237
       clear HO248
       clear HB
       clear HO245
       have BK232 := n0_
       have BK237 := n1_
       have HO248 := n2_
       have HB := n3_
       have HO251 := n4_
       clear n0_ n1_ n2_ n3_ n4_
       clear ho hb hg hat
       obtain ⟨Ao35, co35, eo35⟩ := Kd.R_slice HO251.out
       (first | subst eo35 | (injection eo35 with f1_ f2_ f3_; have f4_ := f1_.symm; have f5_ := f3_.symm; clear f1_ f2_ f3_; subst f4_; subst f5_))
       refine hK.out _ _ ⟨(blk_cell BK232.out 0).trans rfl, (blk_cell BK232.out 1).trans rfl, (blk_cell BK232.out 2).trans rfl, (blk_cell BK232.out 3).trans rfl, (blk_cell BK232.out 4).trans rfl, (blk_cell BK232.out 5).trans rfl, (blk_cell BK232.out 6).trans rfl⟩ (fun hHeld => ?_)
       clear hK K
       refine norm_ (a' := ?_) ?_ ?_
       rotate_left
       ·show Act.put _ (some 40) _ = _
        simp only [Act.put, sS, i64_w]
        rfl
       refine one_ (i := 6) (N := some 41) #[X,X,X,X,X,X,X,O,O,O] rfl rfl (one_of HT_.out (by kernel_rfl)) (by decide) (fun K hK => ?_)
       refine goes_ Tryz.func96 (by kernel_rfl) rfl #[.slice Ao35 y249.length co35] (by rfl) rfl rfl tM ?_
       with_reducible refine (enc_pack.calls kj21 _ _ y249 t252 _ ?side1 ?side2 A29.out).mono ?_
       (case side1 => repeat (first | exact (Kd.R_reads' HO251.out).2.2 | (with_reducible refine Kd.C_alloc ?_ _) | (with_reducible refine Kd.C_drewN ?_ _) | (with_reducible refine Kd.C_drew ?_)))
       (case side2 => exact (Kd.R_reads' HO251.out).2.1)
       rintro e w36 ⟨rfl, hb⟩
       refine ⟨_, rfl, ?_⟩
       have n0_ := Aside0.mk (Kd.R_below (by (with_reducible repeat (first | apply Kd.R_alloc | apply Kd.R_drewN | apply Kd.R_drew)); exact HO248.out) hb)
       have n1_ := Aside0.mk (Kd.R_below (by (with_reducible repeat (first | apply Kd.R_alloc | apply Kd.R_drewN | apply Kd.R_drew)); exact HO251.out) hb)
       have n2_ := Aside0.mk (blk_below (g := gb232) (o := .cells #[.int .i64 a0_0, .int .i64 a0_1, .int .i64 a0_2, .int .i64 a0_3, .int .i64 a0_4, .bool a0_5, .bool a0_6] 31 (0, 0)) tP hb)
       have n3_ := Aside0.mk (blk_below (g := gb237) (o := .cells #[.int .u32 t234, .int .u32 t235, .int .u32 t236] 120 (0, 0)) tP hb)
       have n4_ := Aside0.mk (below_step tC hb)
       clear HO248
       clear HO251
       clear BK232
       clear BK237
       clear HB
       have HO248 := n0_
       have HO251 := n1_
       have BK232 := n2_
       have BK237 := n3_
       have HB := n4_
       clear n0_ n1_ n2_ n3_ n4_
       (try clear hb)
       (try clear hb2)
       (try clear hk)
       (try clear hi)
       refine hK.out _ _ ⟨(blk_cell BK232.out 0).trans rfl, (blk_cell BK232.out 1).trans rfl, (blk_cell BK232.out 2).trans rfl, (blk_cell BK232.out 3).trans rfl, (blk_cell BK232.out 4).trans rfl, (blk_cell BK232.out 5).trans rfl, (blk_cell BK232.out 6).trans rfl⟩ (fun hHeld => ?_)
       clear hK K
       refine norm_ (a' := ?_) ?_ ?_
       rotate_left
       ·show Act.put _ (some 41) _ = _
        simp only [Act.put, sS, i64_w]
        rfl
       refine pure_ (i := 7) (N := some 42) (v := ?_) (a' := ?_) #[X,X,X,X,X,X,X,X,O,O] rfl rfl (any_of HT_.out (by kernel_rfl)) (fun _ _ _ h => h) (Or.inl ⟨by rfl, ?_⟩) ?_ ?_
       rotate_left
       ·intro w'
        go_simp
        with_reducible rfl
       rotate_left
       ·simp only [Act.put, sS, i64_w]
        rfl
       refine pure_ (i := 8) (N := some 2) (v := ?_) (a' := ?_) #[X,X,X,X,X,X,X,X,X,O] rfl rfl (any_of HT_.out (by kernel_rfl)) (fun _ _ _ h => h) (Or.inl ⟨by rfl, ?_⟩) ?_ ?_
       rotate_left
       ·intro w'
        go_simp
        with_reducible rfl
       rotate_left
       ·simp only [Act.put, sS, i64_w]
        rfl
       refine pure_ (i := 9) (N := some 3) (v := ?_) (a' := ?_) #[X,X,X,X,X,X,X,X,X,X] rfl rfl (any_of HT_.out (by kernel_rfl)) (fun _ _ _ h => h) (Or.inl ⟨by rfl, ?_⟩) ?_ ?_
       rotate_left
       ·intro w'
        go_simp
        with_reducible rfl
       rotate_left
       ·simp only [Act.put, sS, i64_w]
        rfl
       refine done_ (done_of HT_.out (by kernel_rfl)) ?_
       try go_wp2
       go_ret2
       exact ⟨tE, tC⟩
      rw [if_neg c28] at H
      exact absurd H (by simp)
 replace c3 := Bool.eq_false_iff.mpr c3
 subst c3
 rw [if_neg nX] at H
 simp only [Option.some.injEq, Prod.mk.injEq] at H
 obtain ⟨rfl, rfl⟩ := H
 go_enter Tryz.func68, Tryz.ntmps68
 go_wp2_with (first | ((with_reducible refine gate_dst (N := 1) rfl ?_); refine box_event ?hg (N := 1) ?hd (cs := #[.int .i64 a0_0, .int .i64 a0_1, .int .i64 a0_2, .int .i64 a0_3, .int .i64 a0_4, .bool a0_5, .bool a0_6]) (t := 31) ?hr ?_; (case hd => rfl); (case hg => rfl); (case hr => first | (go_simp; done) | (go_simp; rfl)); intro gb232 hg w37 hbox hb; have n0_ := Aside0.mk (below_step tB hb); have n1_ := Aside0.mk (hbox); have n2_ := Aside0.mk ((by rw [hg]; exact (below_size tB) : w.heap.size ≤ gb232)); have n3_ := Aside0.mk ((by rw [hg]; exact (below_size tB) : w.heap.size ≤ gb232)); clear HB; have HB := n0_; have BK232 := n1_; have GW232 := n2_; have GE232 := n3_; clear n0_ n1_ n2_ n3_; clear hb hbox hg; have hcz38_0 : w37.cell? ⟨gb232, 0, none⟩ = some (.int .i64 a0_0) := (blk_cell BK232.out 0).trans rfl; have hcz38_1 : w37.cell? ⟨gb232, 1, none⟩ = some (.int .i64 a0_1) := (blk_cell BK232.out 1).trans rfl; have hcz38_2 : w37.cell? ⟨gb232, 2, none⟩ = some (.int .i64 a0_2) := (blk_cell BK232.out 2).trans rfl; have hcz38_3 : w37.cell? ⟨gb232, 3, none⟩ = some (.int .i64 a0_3) := (blk_cell BK232.out 3).trans rfl; have hcz38_4 : w37.cell? ⟨gb232, 4, none⟩ = some (.int .i64 a0_4) := (blk_cell BK232.out 4).trans rfl; have hcz38_5 : w37.cell? ⟨gb232, 5, none⟩ = some (.bool a0_5) := (blk_cell BK232.out 5).trans rfl; have hcz38_6 : w37.cell? ⟨gb232, 6, none⟩ = some (.bool a0_6) := (blk_cell BK232.out 6).trans rfl; have hfz38_0 := blk_frozen BK232.out 0; have hfz38_1 := blk_frozen BK232.out 1; have hfz38_2 := blk_frozen BK232.out 2; have hfz38_3 := blk_frozen BK232.out 3; have hfz38_4 := blk_frozen BK232.out 4; have hfz38_5 := blk_frozen BK232.out 5; have hfz38_6 := blk_frozen BK232.out 6) | ((with_reducible refine gate_callee (f := 65) rfl ?_); refine goesL_ (some 8) rfl rfl Tryz.func65 (by kernel_rfl) rfl #[.agg #[.int .i64 a0_0, .int .i64 a0_1, .int .i64 a0_2, .int .i64 a0_3, .int .i64 a0_4, .bool a0_5, .bool a0_6]] rfl tM ?_; (with_reducible refine (isa_May.calls k a0_0 a0_1 a0_2 a0_3 a0_4 a0_5 a0_6 false _ ?side1 A2.out).mono ?_); (case side1 => exact GOK.below tC HG.out); rintro e w39 ⟨rfl, hb⟩; refine ⟨_, rfl, ?_⟩; have n0_ := Aside0.mk (blk_below (g := gb232) (o := .cells #[.int .i64 a0_0, .int .i64 a0_1, .int .i64 a0_2, .int .i64 a0_3, .int .i64 a0_4, .bool a0_5, .bool a0_6] 31 (0, 0)) tP hb); have n1_ := Aside0.mk (below_step tC hb); clear BK232; clear HB; have BK232 := n0_; have HB := n1_; clear n0_ n1_; (try clear hb); (try clear hb2); (try clear hk); (try clear hi)))
 go_ret2
 exact ⟨tE, tC⟩
def dec_Decode.f (k : Nat) (a0 : Int) : Option (Int × Int × Int × Int × Int × Bool × Bool) := (dec_operation.f k a0).bind fun t254 => ((dec_parts.f k a0 t254).bind fun bt255 => ((enc_Encode.f k bt255.1 bt255.2.1 bt255.2.2.1 bt255.2.2.2.1 bt255.2.2.2.2.1 bt255.2.2.2.2.2.1 bt255.2.2.2.2.2.2).bind fun bt263 => (if bt263.2 = 0 then (if bt263.1 = a0 then (some (bt255.1, bt255.2.1, bt255.2.2.1, bt255.2.2.2.1, bt255.2.2.2.2.1, bt255.2.2.2.2.2.1, bt255.2.2.2.2.2.2)) else (some (0, 0, 0, 0, wrap64 (a0), false, false))) else (some (0, 0, 0, 0, wrap64 (a0), false, false)))))
set_option maxHeartbeats 8000000 in
set_option maxRecDepth 100000 in
theorem dec_Decode.calls (k : Nat) (a0 : Int) (r1 : Int) (r2 : Int) (r3 : Int) (r4 : Int) (r5 : Int) (r6 : Bool) (r7 : Bool) (w : World) (hG : GOK w) (h : dec_Decode.f k a0 = some (r1, r2, r3, r4, r5, r6, r7)) :
  Calls Tryz.prog 48 #[.int .u32 a0] w fun e w' => e = .returned (.agg #[.int .i64 r1, .int .i64 r2, .int .i64 r3, .int .i64 r4, .int .i64 r5, .bool r6, .bool r7]) ∧ Below w.heap.size w w' := by
 have hu31 := Tryz.underlying31
 have HG := Aside0.mk hG
 clear hG
 have HB := Aside0.mk (Below.refl w.heap.size w)
 unfold dec_Decode.f at h; have H := h
 clear h
 obtain ⟨t254, A20, H⟩ := Option.bind_eq_some_iff.mp H
 try dsimp only at H
 have A2 := Aside0.mk A20; clear A20
 replace H := Option.bind_eq_some_iff.mp H
 obtain ⟨⟨t255, t256, t257, t258, t259, t260, t261⟩, A30, H⟩ := H
 replace H : ((enc_Encode.f k t255 t256 t257 t258 t259 t260 t261).bind fun bt263 => (if bt263.2 = 0 then (if bt263.1 = a0 then (some (t255, t256, t257, t258, t259, t260, t261)) else (some (0, 0, 0, 0, wrap64 (a0), false, false))) else (some (0, 0, 0, 0, wrap64 (a0), false, false)))) = some (r1, r2, r3, r4, r5, r6, r7) := H
 have A3 := Aside0.mk A30; clear A30
 replace H := Option.bind_eq_some_iff.mp H
 obtain ⟨⟨t263, t264⟩, A40, H⟩ := H
 replace H : (if t264 = 0 then (if t263 = a0 then (some (t255, t256, t257, t258, t259, t260, t261)) else (some (0, 0, 0, 0, wrap64 (a0), false, false))) else (some (0, 0, 0, 0, wrap64 (a0), false, false))) = some (r1, r2, r3, r4, r5, r6, r7) := H
 have A4 := Aside0.mk A40; clear A40
 by_cases c5 : t264 = 0
 ·rw [if_pos c5] at H
  have c5b0 := bT c5; have c5b1 := nF c5
  clear c5
  by_cases c6 : t263 = a0
  ·rw [if_pos c6] at H
   have c6b0 := bT c6; have c6b1 := nF c6
   clear c6
   simp only [Option.some.injEq, Prod.mk.injEq] at H
   obtain ⟨rfl, rfl, rfl, rfl, rfl, rfl, rfl⟩ := H
   go_enter Tryz.func48, Tryz.ntmps48
   go_wp2_with (first | ((with_reducible refine gate_dst (N := 2) rfl ?_); refine box_event ?hg (N := 2) ?hd (cs := #[.int .i64 0, .int .i64 0, .int .i64 0, .int .i64 0, .int .i64 0, .bool false, .bool false]) (t := 31) ?hr ?_; (case hd => rfl); (case hg => rfl); (case hr => first | (go_simp; done) | (go_simp; rfl)); intro gb253 hg w7 hbox hb; have n0_ := Aside0.mk (below_step tB hb); have n1_ := Aside0.mk (hbox); have n2_ := Aside0.mk ((by rw [hg]; exact (below_size tB) : w.heap.size ≤ gb253)); have n3_ := Aside0.mk ((by rw [hg]; exact (below_size tB) : w.heap.size ≤ gb253)); clear HB; have HB := n0_; have BK253 := n1_; have GW253 := n2_; have GE253 := n3_; clear n0_ n1_ n2_ n3_; clear hb hbox hg) | ((with_reducible refine gate_callee (f := 67) rfl ?_); refine goesL_ (some 8) rfl rfl Tryz.func67 (by kernel_rfl) rfl #[.int .u32 a0] rfl tM ?_; (with_reducible refine (dec_operation.calls k a0 t254 _ A2.out).mono ?_); rintro e w8 ⟨rfl, hb⟩; refine ⟨_, rfl, ?_⟩; have n0_ := Aside0.mk (blk_below (g := gb253) (o := .cells #[.int .i64 0, .int .i64 0, .int .i64 0, .int .i64 0, .int .i64 0, .bool false, .bool false] 31 (0, 0)) tP hb); have n1_ := Aside0.mk (below_step tC hb); clear BK253; clear HB; have BK253 := n0_; have HB := n1_; clear n0_ n1_; (try clear hb); (try clear hb2); (try clear hk); (try clear hi)) | ((with_reducible refine gate_callee (f := 66) rfl ?_); refine goesL_ (some 9) rfl rfl Tryz.func66 (by kernel_rfl) rfl #[.int .u32 a0, .int .i64 t254] rfl tM ?_; (with_reducible refine (dec_parts.calls k a0 t254 t255 t256 t257 t258 t259 t260 t261 _ ?side1 A3.out).mono ?_); (case side1 => exact GOK.below tC HG.out); rintro e w9 ⟨rfl, hb⟩; refine ⟨_, rfl, ?_⟩; have n0_ := Aside0.mk (blk_below (g := gb253) (o := .cells #[.int .i64 0, .int .i64 0, .int .i64 0, .int .i64 0, .int .i64 0, .bool false, .bool false] 31 (0, 0)) tP hb); have n1_ := Aside0.mk (below_step tC hb); clear BK253; clear HB; have BK253 := n0_; have HB := n1_; clear n0_ n1_; (try clear hb); (try clear hb2); (try clear hk); (try clear hi)) | ((with_reducible refine gate_dst (N := 3) rfl ?_); refine box_event ?hg (N := 3) ?hd (cs := #[.int .i64 0, .int .i64 0, .int .i64 0, .int .i64 0, .int .i64 0, .bool false, .bool false]) (t := 31) ?hr ?_; (case hd => rfl); (case hg => rfl); (case hr => first | (go_simp; done) | (go_simp; rfl)); intro gb262 hg w10 hbox hb; have n0_ := Aside0.mk (blk_below (g := gb253) (o := .cells #[.int .i64 0, .int .i64 0, .int .i64 0, .int .i64 0, .int .i64 0, .bool false, .bool false] 31 (0, 0)) tP hb); have n1_ := Aside0.mk (below_step tC hb); have n2_ := Aside0.mk (hbox); have n3_ := Aside0.mk ((by rw [hg]; exact (below_size tC) : w.heap.size ≤ gb262)); have n4_ := Aside0.mk ((by rw [hg]; exact (below_size tC) : w.heap.size ≤ gb262)); have n5_ := Aside0.mk ((by rw [hg]; exact Nat.ne_of_lt (blk_lt (g := gb253) (o := .cells #[.int .i64 0, .int .i64 0, .int .i64 0, .int .i64 0, .int .i64 0, .bool false, .bool false] 31 (0, 0)) tP) : gb253 ≠ gb262)); have n6_ := Aside0.mk ((by rw [hg]; exact Nat.ne_of_gt (blk_lt (g := gb253) (o := .cells #[.int .i64 0, .int .i64 0, .int .i64 0, .int .i64 0, .int .i64 0, .bool false, .bool false] 31 (0, 0)) tP) : gb262 ≠ gb253)); clear BK253; clear HB; have BK253 := n0_; have HB := n1_; have BK262 := n2_; have GW262 := n3_; have GE262 := n4_; have NB253_262 := n5_; have NB262_253 := n6_; clear n0_ n1_ n2_ n3_ n4_ n5_ n6_; clear hb hbox hg; have hnb11 := NB262_253.out; have hnc11 := NB253_262.out; have hcz12_0 : w10.cell? ⟨gb262, 0, none⟩ = some (.int .i64 0) := (blk_cell BK262.out 0).trans rfl; have hcz12_1 : w10.cell? ⟨gb262, 1, none⟩ = some (.int .i64 0) := (blk_cell BK262.out 1).trans rfl; have hcz12_2 : w10.cell? ⟨gb262, 2, none⟩ = some (.int .i64 0) := (blk_cell BK262.out 2).trans rfl; have hcz12_3 : w10.cell? ⟨gb262, 3, none⟩ = some (.int .i64 0) := (blk_cell BK262.out 3).trans rfl; have hcz12_4 : w10.cell? ⟨gb262, 4, none⟩ = some (.int .i64 0) := (blk_cell BK262.out 4).trans rfl; have hcz12_5 : w10.cell? ⟨gb262, 5, none⟩ = some (.bool false) := (blk_cell BK262.out 5).trans rfl; have hcz12_6 : w10.cell? ⟨gb262, 6, none⟩ = some (.bool false) := (blk_cell BK262.out 6).trans rfl; have hfz12_0 := blk_frozen BK262.out 0; have hfz12_1 := blk_frozen BK262.out 1; have hfz12_2 := blk_frozen BK262.out 2; have hfz12_3 := blk_frozen BK262.out 3; have hfz12_4 := blk_frozen BK262.out 4; have hfz12_5 := blk_frozen BK262.out 5; have hfz12_6 := blk_frozen BK262.out 6) | ((with_reducible refine gate_callee (f := 68) rfl ?_); refine goesL_ (some 12) rfl rfl Tryz.func68 (by kernel_rfl) rfl #[.agg #[.int .i64 t255, .int .i64 t256, .int .i64 t257, .int .i64 t258, .int .i64 t259, .bool t260, .bool t261]] rfl tM ?_; (with_reducible refine (enc_Encode.calls k t255 t256 t257 t258 t259 t260 t261 t263 t264 _ ?side1 A4.out).mono ?_); (case side1 => exact GOK.below tC HG.out); rintro e w13 ⟨rfl, hb⟩; refine ⟨_, rfl, ?_⟩; have n0_ := Aside0.mk (blk_below (g := gb253) (o := .cells #[.int .i64 0, .int .i64 0, .int .i64 0, .int .i64 0, .int .i64 0, .bool false, .bool false] 31 (0, 0)) tQ hb); have n1_ := Aside0.mk (blk_below (g := gb262) (o := .cells #[.int .i64 t255, .int .i64 t256, .int .i64 t257, .int .i64 t258, .int .i64 t259, .bool t260, .bool t261] 31 (0, 0)) (by (with_reducible repeat (first | refine blk_drewN ?_ _ | refine blk_drew ?_ | refine blk_alloc ?_ _)); refine blk_put (cs := #[.int .i64 t255, .int .i64 t256, .int .i64 t257, .int .i64 t258, .int .i64 t259, .bool t260, .bool false]) ?_ 6 _ rfl; (with_reducible repeat (first | refine blk_drewN ?_ _ | refine blk_drew ?_ | refine blk_alloc ?_ _)); refine blk_put (cs := #[.int .i64 t255, .int .i64 t256, .int .i64 t257, .int .i64 t258, .int .i64 t259, .bool false, .bool false]) ?_ 5 _ rfl; (with_reducible repeat (first | refine blk_drewN ?_ _ | refine blk_drew ?_ | refine blk_alloc ?_ _)); refine blk_put (cs := #[.int .i64 t255, .int .i64 t256, .int .i64 t257, .int .i64 t258, .int .i64 0, .bool false, .bool false]) ?_ 4 _ rfl; (with_reducible repeat (first | refine blk_drewN ?_ _ | refine blk_drew ?_ | refine blk_alloc ?_ _)); refine blk_put (cs := #[.int .i64 t255, .int .i64 t256, .int .i64 t257, .int .i64 0, .int .i64 0, .bool false, .bool false]) ?_ 3 _ rfl; (with_reducible repeat (first | refine blk_drewN ?_ _ | refine blk_drew ?_ | refine blk_alloc ?_ _)); refine blk_put (cs := #[.int .i64 t255, .int .i64 t256, .int .i64 0, .int .i64 0, .int .i64 0, .bool false, .bool false]) ?_ 2 _ rfl; (with_reducible repeat (first | refine blk_drewN ?_ _ | refine blk_drew ?_ | refine blk_alloc ?_ _)); refine blk_put (cs := #[.int .i64 t255, .int .i64 0, .int .i64 0, .int .i64 0, .int .i64 0, .bool false, .bool false]) ?_ 1 _ rfl; (with_reducible repeat (first | refine blk_drewN ?_ _ | refine blk_drew ?_ | refine blk_alloc ?_ _)); refine blk_put (cs := #[.int .i64 0, .int .i64 0, .int .i64 0, .int .i64 0, .int .i64 0, .bool false, .bool false]) ?_ 0 _ rfl; (with_reducible repeat (first | refine blk_drewN ?_ _ | refine blk_drew ?_ | refine blk_alloc ?_ _)); exact BK262.out) hb); have n2_ := Aside0.mk (below_step tC hb); clear BK253; clear BK262; clear HB; have BK253 := n0_; have BK262 := n1_; have HB := n2_; clear n0_ n1_ n2_; (try clear hb); (try clear hb2); (try clear hk); (try clear hi); have hcz14_0 : w13.cell? ⟨gb262, 0, none⟩ = some (.int .i64 t255) := (blk_cell BK262.out 0).trans rfl; have hcz14_1 : w13.cell? ⟨gb262, 1, none⟩ = some (.int .i64 t256) := (blk_cell BK262.out 1).trans rfl; have hcz14_2 : w13.cell? ⟨gb262, 2, none⟩ = some (.int .i64 t257) := (blk_cell BK262.out 2).trans rfl; have hcz14_3 : w13.cell? ⟨gb262, 3, none⟩ = some (.int .i64 t258) := (blk_cell BK262.out 3).trans rfl; have hcz14_4 : w13.cell? ⟨gb262, 4, none⟩ = some (.int .i64 t259) := (blk_cell BK262.out 4).trans rfl; have hcz14_5 : w13.cell? ⟨gb262, 5, none⟩ = some (.bool t260) := (blk_cell BK262.out 5).trans rfl; have hcz14_6 : w13.cell? ⟨gb262, 6, none⟩ = some (.bool t261) := (blk_cell BK262.out 6).trans rfl; have hfz14_0 := blk_frozen BK262.out 0; have hfz14_1 := blk_frozen BK262.out 1; have hfz14_2 := blk_frozen BK262.out 2; have hfz14_3 := blk_frozen BK262.out 3; have hfz14_4 := blk_frozen BK262.out 4; have hfz14_5 := blk_frozen BK262.out 5; have hfz14_6 := blk_frozen BK262.out 6; have hcz15_0 : w13.cell? ⟨gb253, 0, none⟩ = some (.int .i64 0) := (blk_cell BK253.out 0).trans rfl; have hcz15_1 : w13.cell? ⟨gb253, 1, none⟩ = some (.int .i64 0) := (blk_cell BK253.out 1).trans rfl; have hcz15_2 : w13.cell? ⟨gb253, 2, none⟩ = some (.int .i64 0) := (blk_cell BK253.out 2).trans rfl; have hcz15_3 : w13.cell? ⟨gb253, 3, none⟩ = some (.int .i64 0) := (blk_cell BK253.out 3).trans rfl; have hcz15_4 : w13.cell? ⟨gb253, 4, none⟩ = some (.int .i64 0) := (blk_cell BK253.out 4).trans rfl; have hcz15_5 : w13.cell? ⟨gb253, 5, none⟩ = some (.bool false) := (blk_cell BK253.out 5).trans rfl; have hcz15_6 : w13.cell? ⟨gb253, 6, none⟩ = some (.bool false) := (blk_cell BK253.out 6).trans rfl; have hfz15_0 := blk_frozen BK253.out 0; have hfz15_1 := blk_frozen BK253.out 1; have hfz15_2 := blk_frozen BK253.out 2; have hfz15_3 := blk_frozen BK253.out 3; have hfz15_4 := blk_frozen BK253.out 4; have hfz15_5 := blk_frozen BK253.out 5; have hfz15_6 := blk_frozen BK253.out 6))
   refine bodyPost_ret (results_cell_row rfl _ _ gb253 31 #[.int .i64 t255, .int .i64 t256, .int .i64 t257, .int .i64 t258, .int .i64 t259, .bool t260, .bool t261] (0, 0) _ rfl (by (with_reducible repeat (first | refine blk_drewN ?_ _ | refine blk_drew ?_ | refine blk_alloc ?_ _)); refine blk_put (cs := #[.int .i64 t255, .int .i64 t256, .int .i64 t257, .int .i64 t258, .int .i64 t259, .bool t260, .bool false]) ?_ 6 _ rfl; (with_reducible repeat (first | refine blk_drewN ?_ _ | refine blk_drew ?_ | refine blk_alloc ?_ _)); refine blk_put (cs := #[.int .i64 t255, .int .i64 t256, .int .i64 t257, .int .i64 t258, .int .i64 t259, .bool false, .bool false]) ?_ 5 _ rfl; (with_reducible repeat (first | refine blk_drewN ?_ _ | refine blk_drew ?_ | refine blk_alloc ?_ _)); refine blk_put (cs := #[.int .i64 t255, .int .i64 t256, .int .i64 t257, .int .i64 t258, .int .i64 0, .bool false, .bool false]) ?_ 4 _ rfl; (with_reducible repeat (first | refine blk_drewN ?_ _ | refine blk_drew ?_ | refine blk_alloc ?_ _)); refine blk_put (cs := #[.int .i64 t255, .int .i64 t256, .int .i64 t257, .int .i64 0, .int .i64 0, .bool false, .bool false]) ?_ 3 _ rfl; (with_reducible repeat (first | refine blk_drewN ?_ _ | refine blk_drew ?_ | refine blk_alloc ?_ _)); refine blk_put (cs := #[.int .i64 t255, .int .i64 t256, .int .i64 0, .int .i64 0, .int .i64 0, .bool false, .bool false]) ?_ 2 _ rfl; (with_reducible repeat (first | refine blk_drewN ?_ _ | refine blk_drew ?_ | refine blk_alloc ?_ _)); refine blk_put (cs := #[.int .i64 t255, .int .i64 0, .int .i64 0, .int .i64 0, .int .i64 0, .bool false, .bool false]) ?_ 1 _ rfl; (with_reducible repeat (first | refine blk_drewN ?_ _ | refine blk_drew ?_ | refine blk_alloc ?_ _)); refine blk_put (cs := #[.int .i64 0, .int .i64 0, .int .i64 0, .int .i64 0, .int .i64 0, .bool false, .bool false]) ?_ 0 _ rfl; (with_reducible repeat (first | refine blk_drewN ?_ _ | refine blk_drew ?_ | refine blk_alloc ?_ _)); exact BK253.out) Tryz.underlying31 rfl (by kernel_rfl)) rfl ?_
   exact ⟨tE, tC⟩
  rw [if_neg c6] at H
  have c6b0 := bF c6; have c6b1 := nT c6
  simp only [Option.some.injEq, Prod.mk.injEq] at H
  obtain ⟨rfl, rfl, rfl, rfl, rfl, rfl, rfl⟩ := H
  go_enter Tryz.func48, Tryz.ntmps48
  go_wp2_with (first | ((with_reducible refine gate_dst (N := 2) rfl ?_); refine box_event ?hg (N := 2) ?hd (cs := #[.int .i64 0, .int .i64 0, .int .i64 0, .int .i64 0, .int .i64 0, .bool false, .bool false]) (t := 31) ?hr ?_; (case hd => rfl); (case hg => rfl); (case hr => first | (go_simp; done) | (go_simp; rfl)); intro gb253 hg w16 hbox hb; have n0_ := Aside0.mk (below_step tB hb); have n1_ := Aside0.mk (hbox); have n2_ := Aside0.mk ((by rw [hg]; exact (below_size tB) : w.heap.size ≤ gb253)); have n3_ := Aside0.mk ((by rw [hg]; exact (below_size tB) : w.heap.size ≤ gb253)); clear HB; have HB := n0_; have BK253 := n1_; have GW253 := n2_; have GE253 := n3_; clear n0_ n1_ n2_ n3_; clear hb hbox hg) | ((with_reducible refine gate_callee (f := 67) rfl ?_); refine goesL_ (some 8) rfl rfl Tryz.func67 (by kernel_rfl) rfl #[.int .u32 a0] rfl tM ?_; (with_reducible refine (dec_operation.calls k a0 t254 _ A2.out).mono ?_); rintro e w17 ⟨rfl, hb⟩; refine ⟨_, rfl, ?_⟩; have n0_ := Aside0.mk (blk_below (g := gb253) (o := .cells #[.int .i64 0, .int .i64 0, .int .i64 0, .int .i64 0, .int .i64 0, .bool false, .bool false] 31 (0, 0)) tP hb); have n1_ := Aside0.mk (below_step tC hb); clear BK253; clear HB; have BK253 := n0_; have HB := n1_; clear n0_ n1_; (try clear hb); (try clear hb2); (try clear hk); (try clear hi)) | ((with_reducible refine gate_callee (f := 66) rfl ?_); refine goesL_ (some 9) rfl rfl Tryz.func66 (by kernel_rfl) rfl #[.int .u32 a0, .int .i64 t254] rfl tM ?_; (with_reducible refine (dec_parts.calls k a0 t254 t255 t256 t257 t258 t259 t260 t261 _ ?side1 A3.out).mono ?_); (case side1 => exact GOK.below tC HG.out); rintro e w18 ⟨rfl, hb⟩; refine ⟨_, rfl, ?_⟩; have n0_ := Aside0.mk (blk_below (g := gb253) (o := .cells #[.int .i64 0, .int .i64 0, .int .i64 0, .int .i64 0, .int .i64 0, .bool false, .bool false] 31 (0, 0)) tP hb); have n1_ := Aside0.mk (below_step tC hb); clear BK253; clear HB; have BK253 := n0_; have HB := n1_; clear n0_ n1_; (try clear hb); (try clear hb2); (try clear hk); (try clear hi)) | ((with_reducible refine gate_dst (N := 3) rfl ?_); refine box_event ?hg (N := 3) ?hd (cs := #[.int .i64 0, .int .i64 0, .int .i64 0, .int .i64 0, .int .i64 0, .bool false, .bool false]) (t := 31) ?hr ?_; (case hd => rfl); (case hg => rfl); (case hr => first | (go_simp; done) | (go_simp; rfl)); intro gb262 hg w19 hbox hb; have n0_ := Aside0.mk (blk_below (g := gb253) (o := .cells #[.int .i64 0, .int .i64 0, .int .i64 0, .int .i64 0, .int .i64 0, .bool false, .bool false] 31 (0, 0)) tP hb); have n1_ := Aside0.mk (below_step tC hb); have n2_ := Aside0.mk (hbox); have n3_ := Aside0.mk ((by rw [hg]; exact (below_size tC) : w.heap.size ≤ gb262)); have n4_ := Aside0.mk ((by rw [hg]; exact (below_size tC) : w.heap.size ≤ gb262)); have n5_ := Aside0.mk ((by rw [hg]; exact Nat.ne_of_lt (blk_lt (g := gb253) (o := .cells #[.int .i64 0, .int .i64 0, .int .i64 0, .int .i64 0, .int .i64 0, .bool false, .bool false] 31 (0, 0)) tP) : gb253 ≠ gb262)); have n6_ := Aside0.mk ((by rw [hg]; exact Nat.ne_of_gt (blk_lt (g := gb253) (o := .cells #[.int .i64 0, .int .i64 0, .int .i64 0, .int .i64 0, .int .i64 0, .bool false, .bool false] 31 (0, 0)) tP) : gb262 ≠ gb253)); clear BK253; clear HB; have BK253 := n0_; have HB := n1_; have BK262 := n2_; have GW262 := n3_; have GE262 := n4_; have NB253_262 := n5_; have NB262_253 := n6_; clear n0_ n1_ n2_ n3_ n4_ n5_ n6_; clear hb hbox hg; have hnb20 := NB262_253.out; have hnc20 := NB253_262.out; have hcz21_0 : w19.cell? ⟨gb262, 0, none⟩ = some (.int .i64 0) := (blk_cell BK262.out 0).trans rfl; have hcz21_1 : w19.cell? ⟨gb262, 1, none⟩ = some (.int .i64 0) := (blk_cell BK262.out 1).trans rfl; have hcz21_2 : w19.cell? ⟨gb262, 2, none⟩ = some (.int .i64 0) := (blk_cell BK262.out 2).trans rfl; have hcz21_3 : w19.cell? ⟨gb262, 3, none⟩ = some (.int .i64 0) := (blk_cell BK262.out 3).trans rfl; have hcz21_4 : w19.cell? ⟨gb262, 4, none⟩ = some (.int .i64 0) := (blk_cell BK262.out 4).trans rfl; have hcz21_5 : w19.cell? ⟨gb262, 5, none⟩ = some (.bool false) := (blk_cell BK262.out 5).trans rfl; have hcz21_6 : w19.cell? ⟨gb262, 6, none⟩ = some (.bool false) := (blk_cell BK262.out 6).trans rfl; have hfz21_0 := blk_frozen BK262.out 0; have hfz21_1 := blk_frozen BK262.out 1; have hfz21_2 := blk_frozen BK262.out 2; have hfz21_3 := blk_frozen BK262.out 3; have hfz21_4 := blk_frozen BK262.out 4; have hfz21_5 := blk_frozen BK262.out 5; have hfz21_6 := blk_frozen BK262.out 6) | ((with_reducible refine gate_callee (f := 68) rfl ?_); refine goesL_ (some 12) rfl rfl Tryz.func68 (by kernel_rfl) rfl #[.agg #[.int .i64 t255, .int .i64 t256, .int .i64 t257, .int .i64 t258, .int .i64 t259, .bool t260, .bool t261]] rfl tM ?_; (with_reducible refine (enc_Encode.calls k t255 t256 t257 t258 t259 t260 t261 t263 t264 _ ?side1 A4.out).mono ?_); (case side1 => exact GOK.below tC HG.out); rintro e w22 ⟨rfl, hb⟩; refine ⟨_, rfl, ?_⟩; have n0_ := Aside0.mk (blk_below (g := gb253) (o := .cells #[.int .i64 0, .int .i64 0, .int .i64 0, .int .i64 0, .int .i64 0, .bool false, .bool false] 31 (0, 0)) tQ hb); have n1_ := Aside0.mk (blk_below (g := gb262) (o := .cells #[.int .i64 t255, .int .i64 t256, .int .i64 t257, .int .i64 t258, .int .i64 t259, .bool t260, .bool t261] 31 (0, 0)) (by (with_reducible repeat (first | refine blk_drewN ?_ _ | refine blk_drew ?_ | refine blk_alloc ?_ _)); refine blk_put (cs := #[.int .i64 t255, .int .i64 t256, .int .i64 t257, .int .i64 t258, .int .i64 t259, .bool t260, .bool false]) ?_ 6 _ rfl; (with_reducible repeat (first | refine blk_drewN ?_ _ | refine blk_drew ?_ | refine blk_alloc ?_ _)); refine blk_put (cs := #[.int .i64 t255, .int .i64 t256, .int .i64 t257, .int .i64 t258, .int .i64 t259, .bool false, .bool false]) ?_ 5 _ rfl; (with_reducible repeat (first | refine blk_drewN ?_ _ | refine blk_drew ?_ | refine blk_alloc ?_ _)); refine blk_put (cs := #[.int .i64 t255, .int .i64 t256, .int .i64 t257, .int .i64 t258, .int .i64 0, .bool false, .bool false]) ?_ 4 _ rfl; (with_reducible repeat (first | refine blk_drewN ?_ _ | refine blk_drew ?_ | refine blk_alloc ?_ _)); refine blk_put (cs := #[.int .i64 t255, .int .i64 t256, .int .i64 t257, .int .i64 0, .int .i64 0, .bool false, .bool false]) ?_ 3 _ rfl; (with_reducible repeat (first | refine blk_drewN ?_ _ | refine blk_drew ?_ | refine blk_alloc ?_ _)); refine blk_put (cs := #[.int .i64 t255, .int .i64 t256, .int .i64 0, .int .i64 0, .int .i64 0, .bool false, .bool false]) ?_ 2 _ rfl; (with_reducible repeat (first | refine blk_drewN ?_ _ | refine blk_drew ?_ | refine blk_alloc ?_ _)); refine blk_put (cs := #[.int .i64 t255, .int .i64 0, .int .i64 0, .int .i64 0, .int .i64 0, .bool false, .bool false]) ?_ 1 _ rfl; (with_reducible repeat (first | refine blk_drewN ?_ _ | refine blk_drew ?_ | refine blk_alloc ?_ _)); refine blk_put (cs := #[.int .i64 0, .int .i64 0, .int .i64 0, .int .i64 0, .int .i64 0, .bool false, .bool false]) ?_ 0 _ rfl; (with_reducible repeat (first | refine blk_drewN ?_ _ | refine blk_drew ?_ | refine blk_alloc ?_ _)); exact BK262.out) hb); have n2_ := Aside0.mk (below_step tC hb); clear BK253; clear BK262; clear HB; have BK253 := n0_; have BK262 := n1_; have HB := n2_; clear n0_ n1_ n2_; (try clear hb); (try clear hb2); (try clear hk); (try clear hi); have hcz23_0 : w22.cell? ⟨gb253, 0, none⟩ = some (.int .i64 0) := (blk_cell BK253.out 0).trans rfl; have hcz23_1 : w22.cell? ⟨gb253, 1, none⟩ = some (.int .i64 0) := (blk_cell BK253.out 1).trans rfl; have hcz23_2 : w22.cell? ⟨gb253, 2, none⟩ = some (.int .i64 0) := (blk_cell BK253.out 2).trans rfl; have hcz23_3 : w22.cell? ⟨gb253, 3, none⟩ = some (.int .i64 0) := (blk_cell BK253.out 3).trans rfl; have hcz23_4 : w22.cell? ⟨gb253, 4, none⟩ = some (.int .i64 0) := (blk_cell BK253.out 4).trans rfl; have hcz23_5 : w22.cell? ⟨gb253, 5, none⟩ = some (.bool false) := (blk_cell BK253.out 5).trans rfl; have hcz23_6 : w22.cell? ⟨gb253, 6, none⟩ = some (.bool false) := (blk_cell BK253.out 6).trans rfl; have hfz23_0 := blk_frozen BK253.out 0; have hfz23_1 := blk_frozen BK253.out 1; have hfz23_2 := blk_frozen BK253.out 2; have hfz23_3 := blk_frozen BK253.out 3; have hfz23_4 := blk_frozen BK253.out 4; have hfz23_5 := blk_frozen BK253.out 5; have hfz23_6 := blk_frozen BK253.out 6))
  refine bodyPost_ret (results_cell_row rfl _ _ gb253 31 #[.int .i64 0, .int .i64 0, .int .i64 0, .int .i64 0, .int .i64 (wrap64 (a0)), .bool false, .bool false] (0, 0) _ rfl (by (with_reducible repeat (first | refine blk_drewN ?_ _ | refine blk_drew ?_ | refine blk_alloc ?_ _)); refine blk_put (cs := #[.int .i64 0, .int .i64 0, .int .i64 0, .int .i64 0, .int .i64 (wrap64 (a0)), .bool false, .bool false]) ?_ 6 _ rfl; (with_reducible repeat (first | refine blk_drewN ?_ _ | refine blk_drew ?_ | refine blk_alloc ?_ _)); refine blk_put (cs := #[.int .i64 0, .int .i64 0, .int .i64 0, .int .i64 0, .int .i64 (wrap64 (a0)), .bool false, .bool false]) ?_ 5 _ rfl; (with_reducible repeat (first | refine blk_drewN ?_ _ | refine blk_drew ?_ | refine blk_alloc ?_ _)); refine blk_put (cs := #[.int .i64 0, .int .i64 0, .int .i64 0, .int .i64 0, .int .i64 0, .bool false, .bool false]) ?_ 4 _ rfl; (with_reducible repeat (first | refine blk_drewN ?_ _ | refine blk_drew ?_ | refine blk_alloc ?_ _)); refine blk_put (cs := #[.int .i64 0, .int .i64 0, .int .i64 0, .int .i64 0, .int .i64 0, .bool false, .bool false]) ?_ 3 _ rfl; (with_reducible repeat (first | refine blk_drewN ?_ _ | refine blk_drew ?_ | refine blk_alloc ?_ _)); refine blk_put (cs := #[.int .i64 0, .int .i64 0, .int .i64 0, .int .i64 0, .int .i64 0, .bool false, .bool false]) ?_ 2 _ rfl; (with_reducible repeat (first | refine blk_drewN ?_ _ | refine blk_drew ?_ | refine blk_alloc ?_ _)); refine blk_put (cs := #[.int .i64 0, .int .i64 0, .int .i64 0, .int .i64 0, .int .i64 0, .bool false, .bool false]) ?_ 1 _ rfl; (with_reducible repeat (first | refine blk_drewN ?_ _ | refine blk_drew ?_ | refine blk_alloc ?_ _)); refine blk_put (cs := #[.int .i64 0, .int .i64 0, .int .i64 0, .int .i64 0, .int .i64 0, .bool false, .bool false]) ?_ 0 _ rfl; (with_reducible repeat (first | refine blk_drewN ?_ _ | refine blk_drew ?_ | refine blk_alloc ?_ _)); exact BK253.out) Tryz.underlying31 rfl (by kernel_rfl)) rfl ?_
  exact ⟨tE, tC⟩
 rw [if_neg c5] at H
 have c5b0 := bF c5; have c5b1 := nT c5
 simp only [Option.some.injEq, Prod.mk.injEq] at H
 obtain ⟨rfl, rfl, rfl, rfl, rfl, rfl, rfl⟩ := H
 go_enter Tryz.func48, Tryz.ntmps48
 go_wp2_with (first | ((with_reducible refine gate_dst (N := 2) rfl ?_); refine box_event ?hg (N := 2) ?hd (cs := #[.int .i64 0, .int .i64 0, .int .i64 0, .int .i64 0, .int .i64 0, .bool false, .bool false]) (t := 31) ?hr ?_; (case hd => rfl); (case hg => rfl); (case hr => first | (go_simp; done) | (go_simp; rfl)); intro gb253 hg w24 hbox hb; have n0_ := Aside0.mk (below_step tB hb); have n1_ := Aside0.mk (hbox); have n2_ := Aside0.mk ((by rw [hg]; exact (below_size tB) : w.heap.size ≤ gb253)); have n3_ := Aside0.mk ((by rw [hg]; exact (below_size tB) : w.heap.size ≤ gb253)); clear HB; have HB := n0_; have BK253 := n1_; have GW253 := n2_; have GE253 := n3_; clear n0_ n1_ n2_ n3_; clear hb hbox hg) | ((with_reducible refine gate_callee (f := 67) rfl ?_); refine goesL_ (some 8) rfl rfl Tryz.func67 (by kernel_rfl) rfl #[.int .u32 a0] rfl tM ?_; (with_reducible refine (dec_operation.calls k a0 t254 _ A2.out).mono ?_); rintro e w25 ⟨rfl, hb⟩; refine ⟨_, rfl, ?_⟩; have n0_ := Aside0.mk (blk_below (g := gb253) (o := .cells #[.int .i64 0, .int .i64 0, .int .i64 0, .int .i64 0, .int .i64 0, .bool false, .bool false] 31 (0, 0)) tP hb); have n1_ := Aside0.mk (below_step tC hb); clear BK253; clear HB; have BK253 := n0_; have HB := n1_; clear n0_ n1_; (try clear hb); (try clear hb2); (try clear hk); (try clear hi)) | ((with_reducible refine gate_callee (f := 66) rfl ?_); refine goesL_ (some 9) rfl rfl Tryz.func66 (by kernel_rfl) rfl #[.int .u32 a0, .int .i64 t254] rfl tM ?_; (with_reducible refine (dec_parts.calls k a0 t254 t255 t256 t257 t258 t259 t260 t261 _ ?side1 A3.out).mono ?_); (case side1 => exact GOK.below tC HG.out); rintro e w26 ⟨rfl, hb⟩; refine ⟨_, rfl, ?_⟩; have n0_ := Aside0.mk (blk_below (g := gb253) (o := .cells #[.int .i64 0, .int .i64 0, .int .i64 0, .int .i64 0, .int .i64 0, .bool false, .bool false] 31 (0, 0)) tP hb); have n1_ := Aside0.mk (below_step tC hb); clear BK253; clear HB; have BK253 := n0_; have HB := n1_; clear n0_ n1_; (try clear hb); (try clear hb2); (try clear hk); (try clear hi)) | ((with_reducible refine gate_dst (N := 3) rfl ?_); refine box_event ?hg (N := 3) ?hd (cs := #[.int .i64 0, .int .i64 0, .int .i64 0, .int .i64 0, .int .i64 0, .bool false, .bool false]) (t := 31) ?hr ?_; (case hd => rfl); (case hg => rfl); (case hr => first | (go_simp; done) | (go_simp; rfl)); intro gb262 hg w27 hbox hb; have n0_ := Aside0.mk (blk_below (g := gb253) (o := .cells #[.int .i64 0, .int .i64 0, .int .i64 0, .int .i64 0, .int .i64 0, .bool false, .bool false] 31 (0, 0)) tP hb); have n1_ := Aside0.mk (below_step tC hb); have n2_ := Aside0.mk (hbox); have n3_ := Aside0.mk ((by rw [hg]; exact (below_size tC) : w.heap.size ≤ gb262)); have n4_ := Aside0.mk ((by rw [hg]; exact (below_size tC) : w.heap.size ≤ gb262)); have n5_ := Aside0.mk ((by rw [hg]; exact Nat.ne_of_lt (blk_lt (g := gb253) (o := .cells #[.int .i64 0, .int .i64 0, .int .i64 0, .int .i64 0, .int .i64 0, .bool false, .bool false] 31 (0, 0)) tP) : gb253 ≠ gb262)); have n6_ := Aside0.mk ((by rw [hg]; exact Nat.ne_of_gt (blk_lt (g := gb253) (o := .cells #[.int .i64 0, .int .i64 0, .int .i64 0, .int .i64 0, .int .i64 0, .bool false, .bool false] 31 (0, 0)) tP) : gb262 ≠ gb253)); clear BK253; clear HB; have BK253 := n0_; have HB := n1_; have BK262 := n2_; have GW262 := n3_; have GE262 := n4_; have NB253_262 := n5_; have NB262_253 := n6_; clear n0_ n1_ n2_ n3_ n4_ n5_ n6_; clear hb hbox hg; have hnb28 := NB262_253.out; have hnc28 := NB253_262.out; have hcz29_0 : w27.cell? ⟨gb262, 0, none⟩ = some (.int .i64 0) := (blk_cell BK262.out 0).trans rfl; have hcz29_1 : w27.cell? ⟨gb262, 1, none⟩ = some (.int .i64 0) := (blk_cell BK262.out 1).trans rfl; have hcz29_2 : w27.cell? ⟨gb262, 2, none⟩ = some (.int .i64 0) := (blk_cell BK262.out 2).trans rfl; have hcz29_3 : w27.cell? ⟨gb262, 3, none⟩ = some (.int .i64 0) := (blk_cell BK262.out 3).trans rfl; have hcz29_4 : w27.cell? ⟨gb262, 4, none⟩ = some (.int .i64 0) := (blk_cell BK262.out 4).trans rfl; have hcz29_5 : w27.cell? ⟨gb262, 5, none⟩ = some (.bool false) := (blk_cell BK262.out 5).trans rfl; have hcz29_6 : w27.cell? ⟨gb262, 6, none⟩ = some (.bool false) := (blk_cell BK262.out 6).trans rfl; have hfz29_0 := blk_frozen BK262.out 0; have hfz29_1 := blk_frozen BK262.out 1; have hfz29_2 := blk_frozen BK262.out 2; have hfz29_3 := blk_frozen BK262.out 3; have hfz29_4 := blk_frozen BK262.out 4; have hfz29_5 := blk_frozen BK262.out 5; have hfz29_6 := blk_frozen BK262.out 6) | ((with_reducible refine gate_callee (f := 68) rfl ?_); refine goesL_ (some 12) rfl rfl Tryz.func68 (by kernel_rfl) rfl #[.agg #[.int .i64 t255, .int .i64 t256, .int .i64 t257, .int .i64 t258, .int .i64 t259, .bool t260, .bool t261]] rfl tM ?_; (with_reducible refine (enc_Encode.calls k t255 t256 t257 t258 t259 t260 t261 t263 t264 _ ?side1 A4.out).mono ?_); (case side1 => exact GOK.below tC HG.out); rintro e w30 ⟨rfl, hb⟩; refine ⟨_, rfl, ?_⟩; have n0_ := Aside0.mk (blk_below (g := gb253) (o := .cells #[.int .i64 0, .int .i64 0, .int .i64 0, .int .i64 0, .int .i64 0, .bool false, .bool false] 31 (0, 0)) tQ hb); have n1_ := Aside0.mk (blk_below (g := gb262) (o := .cells #[.int .i64 t255, .int .i64 t256, .int .i64 t257, .int .i64 t258, .int .i64 t259, .bool t260, .bool t261] 31 (0, 0)) (by (with_reducible repeat (first | refine blk_drewN ?_ _ | refine blk_drew ?_ | refine blk_alloc ?_ _)); refine blk_put (cs := #[.int .i64 t255, .int .i64 t256, .int .i64 t257, .int .i64 t258, .int .i64 t259, .bool t260, .bool false]) ?_ 6 _ rfl; (with_reducible repeat (first | refine blk_drewN ?_ _ | refine blk_drew ?_ | refine blk_alloc ?_ _)); refine blk_put (cs := #[.int .i64 t255, .int .i64 t256, .int .i64 t257, .int .i64 t258, .int .i64 t259, .bool false, .bool false]) ?_ 5 _ rfl; (with_reducible repeat (first | refine blk_drewN ?_ _ | refine blk_drew ?_ | refine blk_alloc ?_ _)); refine blk_put (cs := #[.int .i64 t255, .int .i64 t256, .int .i64 t257, .int .i64 t258, .int .i64 0, .bool false, .bool false]) ?_ 4 _ rfl; (with_reducible repeat (first | refine blk_drewN ?_ _ | refine blk_drew ?_ | refine blk_alloc ?_ _)); refine blk_put (cs := #[.int .i64 t255, .int .i64 t256, .int .i64 t257, .int .i64 0, .int .i64 0, .bool false, .bool false]) ?_ 3 _ rfl; (with_reducible repeat (first | refine blk_drewN ?_ _ | refine blk_drew ?_ | refine blk_alloc ?_ _)); refine blk_put (cs := #[.int .i64 t255, .int .i64 t256, .int .i64 0, .int .i64 0, .int .i64 0, .bool false, .bool false]) ?_ 2 _ rfl; (with_reducible repeat (first | refine blk_drewN ?_ _ | refine blk_drew ?_ | refine blk_alloc ?_ _)); refine blk_put (cs := #[.int .i64 t255, .int .i64 0, .int .i64 0, .int .i64 0, .int .i64 0, .bool false, .bool false]) ?_ 1 _ rfl; (with_reducible repeat (first | refine blk_drewN ?_ _ | refine blk_drew ?_ | refine blk_alloc ?_ _)); refine blk_put (cs := #[.int .i64 0, .int .i64 0, .int .i64 0, .int .i64 0, .int .i64 0, .bool false, .bool false]) ?_ 0 _ rfl; (with_reducible repeat (first | refine blk_drewN ?_ _ | refine blk_drew ?_ | refine blk_alloc ?_ _)); exact BK262.out) hb); have n2_ := Aside0.mk (below_step tC hb); clear BK253; clear BK262; clear HB; have BK253 := n0_; have BK262 := n1_; have HB := n2_; clear n0_ n1_ n2_; (try clear hb); (try clear hb2); (try clear hk); (try clear hi); have hcz31_0 : w30.cell? ⟨gb253, 0, none⟩ = some (.int .i64 0) := (blk_cell BK253.out 0).trans rfl; have hcz31_1 : w30.cell? ⟨gb253, 1, none⟩ = some (.int .i64 0) := (blk_cell BK253.out 1).trans rfl; have hcz31_2 : w30.cell? ⟨gb253, 2, none⟩ = some (.int .i64 0) := (blk_cell BK253.out 2).trans rfl; have hcz31_3 : w30.cell? ⟨gb253, 3, none⟩ = some (.int .i64 0) := (blk_cell BK253.out 3).trans rfl; have hcz31_4 : w30.cell? ⟨gb253, 4, none⟩ = some (.int .i64 0) := (blk_cell BK253.out 4).trans rfl; have hcz31_5 : w30.cell? ⟨gb253, 5, none⟩ = some (.bool false) := (blk_cell BK253.out 5).trans rfl; have hcz31_6 : w30.cell? ⟨gb253, 6, none⟩ = some (.bool false) := (blk_cell BK253.out 6).trans rfl; have hfz31_0 := blk_frozen BK253.out 0; have hfz31_1 := blk_frozen BK253.out 1; have hfz31_2 := blk_frozen BK253.out 2; have hfz31_3 := blk_frozen BK253.out 3; have hfz31_4 := blk_frozen BK253.out 4; have hfz31_5 := blk_frozen BK253.out 5; have hfz31_6 := blk_frozen BK253.out 6))
 refine bodyPost_ret (results_cell_row rfl _ _ gb253 31 #[.int .i64 0, .int .i64 0, .int .i64 0, .int .i64 0, .int .i64 (wrap64 (a0)), .bool false, .bool false] (0, 0) _ rfl (by (with_reducible repeat (first | refine blk_drewN ?_ _ | refine blk_drew ?_ | refine blk_alloc ?_ _)); refine blk_put (cs := #[.int .i64 0, .int .i64 0, .int .i64 0, .int .i64 0, .int .i64 (wrap64 (a0)), .bool false, .bool false]) ?_ 6 _ rfl; (with_reducible repeat (first | refine blk_drewN ?_ _ | refine blk_drew ?_ | refine blk_alloc ?_ _)); refine blk_put (cs := #[.int .i64 0, .int .i64 0, .int .i64 0, .int .i64 0, .int .i64 (wrap64 (a0)), .bool false, .bool false]) ?_ 5 _ rfl; (with_reducible repeat (first | refine blk_drewN ?_ _ | refine blk_drew ?_ | refine blk_alloc ?_ _)); refine blk_put (cs := #[.int .i64 0, .int .i64 0, .int .i64 0, .int .i64 0, .int .i64 0, .bool false, .bool false]) ?_ 4 _ rfl; (with_reducible repeat (first | refine blk_drewN ?_ _ | refine blk_drew ?_ | refine blk_alloc ?_ _)); refine blk_put (cs := #[.int .i64 0, .int .i64 0, .int .i64 0, .int .i64 0, .int .i64 0, .bool false, .bool false]) ?_ 3 _ rfl; (with_reducible repeat (first | refine blk_drewN ?_ _ | refine blk_drew ?_ | refine blk_alloc ?_ _)); refine blk_put (cs := #[.int .i64 0, .int .i64 0, .int .i64 0, .int .i64 0, .int .i64 0, .bool false, .bool false]) ?_ 2 _ rfl; (with_reducible repeat (first | refine blk_drewN ?_ _ | refine blk_drew ?_ | refine blk_alloc ?_ _)); refine blk_put (cs := #[.int .i64 0, .int .i64 0, .int .i64 0, .int .i64 0, .int .i64 0, .bool false, .bool false]) ?_ 1 _ rfl; (with_reducible repeat (first | refine blk_drewN ?_ _ | refine blk_drew ?_ | refine blk_alloc ?_ _)); refine blk_put (cs := #[.int .i64 0, .int .i64 0, .int .i64 0, .int .i64 0, .int .i64 0, .bool false, .bool false]) ?_ 0 _ rfl; (with_reducible repeat (first | refine blk_drewN ?_ _ | refine blk_drew ?_ | refine blk_alloc ?_ _)); exact BK253.out) Tryz.underlying31 rfl (by kernel_rfl)) rfl ?_
 exact ⟨tE, tC⟩
def spinnakerref07_num.l0 : Nat → List Int → Int → Int → Option (Int)
 | 0, _, _, _ => none
 | k + 1, x0, x3, x4 => if x4 < 64 then (if 0 ≤ x4 then (if x4 < (x0.length : Int) then ((spinnakerref01_Power.f k x4).bind fun t350 => (spinnakerref07_num.l0 k x0 (IntKind.u64.wrap (x3 + (IntKind.u64.wrap ((IntKind.u64.wrap (rd x0 x4)) * t350)))) (wrap64 (x4 + 1)))) else (none)) else (none)) else (some (wrap64 (x3)))
def spinnakerref07_num.f (k : Nat) (l0 : List Int) : Option (Int) := spinnakerref07_num.l0 k l0 0 0
set_option maxHeartbeats 8000000 in
set_option maxRecDepth 100000 in
theorem spinnakerref07_num.calls (k : Nat) (A0 : Option Addr) (c0 : Nat) (l0 : List Int) (r : Int) (w : World) (hr0 : Kd.C (Kd.int .i64) w A0 l0.length l0) (hc0 : l0.length ≤ c0) (h : spinnakerref07_num.f k l0 = some r) :
  Calls Tryz.prog 78 #[.slice A0 l0.length c0] w fun e w' => e = .returned (.int .i64 r) ∧ Drawn0 w w' := by
 have HR0 := Aside0.mk hr0
 have HC0 := Aside0.mk hc0
 clear hr0 hc0
 have H : (spinnakerref07_num.l0 k l0 0 0) = some r := h
 clear h
 have H' := Aside0.mk H
 clear H
 go_enter Tryz.func78, Tryz.ntmps78
 go_wp2
 repeat (go_quiet (fail); try go_wp2)
 go_loopg [3, 4] k (fun kq v3 v4 w' => ∃ (x3_1 : Int) (x4_1 : Int), v3 = .int .u64 x3_1 ∧ v4 = .int .i64 x4_1 ∧ Aside0 (spinnakerref07_num.l0 kq l0 x3_1 x4_1 = some r) ∧ Aside0 (kq ≤ k) ∧ Drawn0 w w')
 case atStart => exact ⟨(0), (0), tR, tR, H', ⟨Nat.le_refl _⟩, tD⟩
 case round =>
  clear H'
  obtain ⟨x3_1, x4_1, rfl, rfl, HA, HK1, ⟨m1, rfl⟩⟩ := hrel
  cases gk with
  | zero => exact absurd HA.out (by simp [spinnakerref07_num.l0])
  | succ k1 =>
   have H := HA.out
   clear HA
   simp only [spinnakerref07_num.l0] at H
   by_cases c2 : x4_1 < 64
   ·rw [if_pos c2] at H
    have c2b0 : decide (x4_1 < 64) = true := decide_eq_true c2
    clear c2
    by_cases c3 : 0 ≤ x4_1
    ·rw [if_pos c3] at H
     have c3b0 : decide (0 ≤ x4_1) = true := decide_eq_true c3
     clear c3
     by_cases c4 : x4_1 < (l0.length : Int)
     ·rw [if_pos c4] at H
      have c4b0 : decide (x4_1 < (l0.length : Int)) = true := decide_eq_true c4
      clear c4
      obtain ⟨t350, A50, H⟩ := Option.bind_eq_some_iff.mp H
      try dsimp only at H
      have A5 := Aside0.mk A50; clear A50
      have H' := Aside0.mk H
      clear H
      have p349 : 0 ≤ (x4_1 : Int) := of_decide_eq_true (by first | (with_reducible assumption) | assumption)
      have q349 : x4_1 < (l0.length : Int) := of_decide_eq_true (by first | (with_reducible assumption) | assumption)
      obtain ⟨ad349, e349, hx349_0⟩ := Kd.at_int HR0.out x4_1 p349 q349
      cases e349
      replace p349 := eq_true p349
      replace q349 := eq_true q349
      go_wp2_with (first | (go_at_call 46; (with_reducible refine (spinnakerref01_Power.calls k1 x4_1 t350 _ A5.out).mono ?_); rintro e w' ⟨rfl, ⟨nd, rfl⟩⟩; (try first | exact ⟨rfl, _, World.drewN_drewN _ _ _⟩ | exact ⟨rfl, _, Eq.trans (World.drewN_drewN _ _ _) (congrArg (World.drewN _) (Nat.add_assoc _ _ _))⟩)))
      repeat (go_quiet (first | (go_at_call 46; (with_reducible refine (spinnakerref01_Power.calls k1 x4_1 t350 _ A5.out).mono ?_); rintro e w' ⟨rfl, ⟨nd, rfl⟩⟩; (try first | exact ⟨rfl, _, World.drewN_drewN _ _ _⟩ | exact ⟨rfl, _, Eq.trans (World.drewN_drewN _ _ _) (congrArg (World.drewN _) (Nat.add_assoc _ _ _))⟩))); try go_wp2_with (first | (go_at_call 46; (with_reducible refine (spinnakerref01_Power.calls k1 x4_1 t350 _ A5.out).mono ?_); rintro e w' ⟨rfl, ⟨nd, rfl⟩⟩; (try first | exact ⟨rfl, _, World.drewN_drewN _ _ _⟩ | exact ⟨rfl, _, Eq.trans (World.drewN_drewN _ _ _) (congrArg (World.drewN _) (Nat.add_assoc _ _ _))⟩))))
      go_roundg k1
      case measure => have := HK1.out; omega
      case rel => exact ⟨(IntKind.u64.wrap (x3_1 + (IntKind.u64.wrap ((IntKind.u64.wrap (rd l0 x4_1)) * t350)))), (wrap64 (x4_1 + 1)), tR, tR, H', ⟨by have := HK1.out; omega⟩, tD⟩
     rw [if_neg c4] at H
     exact absurd H (by simp)
    rw [if_neg c3] at H
    exact absurd H (by simp)
   rw [if_neg c2] at H
   have c2b0 : decide (x4_1 < 64) = false := decide_eq_false c2
   clear c2
   obtain rfl := Option.some.inj H
   go_wp2
   repeat (go_quiet (fail); try go_wp2)
   go_ret
   exact ⟨tR, tD⟩
mutual
def spinnakerref07_moved.l0 : Nat → Int → Int → Bool → Int → Int → List Int → Int → Option (Int)
 | 0, _, _, _, _, _, _, _ => none
 | k + 1, x0, x1, x2, x3, x4, x11, x12 => if x12 < x4 then (if x2 = true then (spinnakerref07_moved.j1 k x0 x1 x2 x3 x4 x11 x12 (wrap64 (x12 - x1))) else (spinnakerref07_moved.j1 k x0 x1 x2 x3 x4 x11 x12 (wrap64 (x12 + x1)))) else ((spinnakerref07_num.f k x11).bind fun t354 => (some t354))
def spinnakerref07_moved.j1 : Nat → Int → Int → Bool → Int → Int → List Int → Int → Int → Option (Int)
 | 0, _, _, _, _, _, _, _, _ => none
 | k + 1, x0, x1, x2, x3, x4, x11, x12, x13 => if 0 ≤ x12 then (if x12 < (x11.length : Int) then ((some (x11.set (x12 : Int).toNat x3 : List Int)).bind fun y355 => (if x13 ≥ 0 then (if x13 < x4 then ((spinnakerref01_Bit.f k (IntKind.u64.wrap (x0)) x13).bind fun t356 => (spinnakerref07_moved.l0 k x0 x1 x2 x3 x4 (y355.set (x12 : Int).toNat t356) (wrap64 (x12 + 1)))) else (spinnakerref07_moved.l0 k x0 x1 x2 x3 x4 y355 (wrap64 (x12 + 1)))) else (spinnakerref07_moved.l0 k x0 x1 x2 x3 x4 y355 (wrap64 (x12 + 1))))) else (none)) else (none)
end
def spinnakerref07_moved.f (k : Nat) (a0 : Int) (a1 : Int) (a2 : Bool) (a3 : Int) (a4 : Int) : Option (Int) := if 64 ≤ 35184372088832 then (spinnakerref07_moved.l0 k a0 a1 a2 a3 a4 (List.replicate 64 0) 0) else (none)
set_option maxHeartbeats 8000000 in
set_option maxRecDepth 100000 in
theorem spinnakerref07_moved.calls (k : Nat) (a0 : Int) (a1 : Int) (a2 : Bool) (a3 : Int) (a4 : Int) (r : Int) (w : World) (h : spinnakerref07_moved.f k a0 a1 a2 a3 a4 = some r) :
  Calls Tryz.prog 61 #[.int .i64 a0, .int .i64 a1, .bool a2, .int .i64 a3, .int .i64 a4] w fun e w' => e = .returned (.int .i64 r) ∧ Below w.heap.size w w' := by
 have HB := Aside0.mk (Below.refl w.heap.size w)
 unfold spinnakerref07_moved.f at h; have H := h
 clear h
 by_cases c6 : 64 ≤ 35184372088832
 ·rw [if_pos c6] at H
  have c6b0 := eq_true c6
  have c6b1 : decide (64 ≤ 35184372088832) = true := decide_eq_true c6
  clear c6
  obtain ⟨y351, hy351⟩ : ∃ y_ : List Int, y_ = (List.replicate 64 0) := ⟨_, rfl⟩
  replace H : (spinnakerref07_moved.l0 k a0 a1 a2 a3 a4 y351 0) = some r := by first | (rw [hy351]; with_reducible exact H) | (have H2_ := (Option.bind_some _ _).symm.trans H; rw [hy351]; with_reducible exact H2_) | (have H2_ := (Option.bind_some _ _).symm.trans H; with_reducible exact H2_) | with_reducible exact H | (rw [hy351]; exact H) | exact H
  have Ny351 := Aside0.mk hy351
  clear hy351
  have H' := Aside0.mk H
  clear H
  go_enter Tryz.func61, Tryz.ntmps61
  go_wp2_with (first | ((with_reducible refine gate_dst (N := 14) rfl ?_); refine Kd.R_make (Kd.int .i64) _ 3 rfl (N := 14) rfl 24 _ _ rfl 64 rfl rfl Tryz.underlying24 (.int .i64 0) 8 info3 rfl (by decide) (by omega) 0 (ok := fun _ => True) (okp := fun _ => True) rfl (fun _ hk => hk) trivial (by omega) (by omega) (Below.refl _ _) (Nat.le_refl _) ?_; intro v352 w7 ho8 hb hg_ hnew_; clear hg_ hnew_; (first | rw [← Ny351.out] at ho8 | (simp only [Int.reduceToNat] at ho8; rw [← Ny351.out] at ho8)); have n0_ := Aside0.mk (Kd.R_lower ho8 (below_size tB)); have n1_ := Aside0.mk (below_step tB hb); clear HB; have HO353 := n0_; have HB := n1_; clear n0_ n1_; clear hb ho8))
  go_loopg [12] k (fun kq v12 w' => ∃ (x11_1 : List Int) (x12_1 : Int), v12 = .int .i64 x12_1 ∧ Aside0 (spinnakerref07_moved.l0 kq a0 a1 a2 a3 a4 x11_1 x12_1 = some r) ∧ Aside0 (kq ≤ k) ∧ Aside0 (Kd.R (Kd.int .i64) 3 w' w.heap.size (fun _ => True) v352 x11_1) ∧ Aside0 (Below w.heap.size w w'))
  case atStart => exact ⟨(y351), (0), tR, H', ⟨Nat.le_refl _⟩, ⟨by (with_reducible repeat (first | apply Kd.R_alloc | apply Kd.R_drewN | apply Kd.R_drew)); exact HO353.out⟩, ⟨tB⟩⟩
  case round =>
   clear H'
   (try clear p2); (try clear c6); (try clear c6b0 c6b1)
   obtain ⟨x11_1, x12_1, rfl, HA, HK1, HO_11, HB⟩ := hrel
   cases gk with
   | zero => exact absurd HA.out (by simp [spinnakerref07_moved.l0])
   | succ k1 =>
    have H := HA.out
    clear HA
    simp only [spinnakerref07_moved.l0] at H
    by_cases c9 : x12_1 < a4
    ·rw [if_pos c9] at H
     have c9b0 : decide (x12_1 < a4) = true := decide_eq_true c9
     clear c9
     have HC10 := Aside0.mk H
     clear H
     go_upto_if 23 with (fail)
     go_cut [13] (fun v13 wc => ∃ (kq : Nat) (x13_9 : Int), v13 = .int .i64 x13_9 ∧ Aside0 (spinnakerref07_moved.j1 kq a0 a1 a2 a3 a4 x11_1 x12_1 x13_9 = some r) ∧ Aside0 (kq ≤ k1) ∧ Aside0 (Kd.R (Kd.int .i64) 3 wc w.heap.size (fun _ => True) v352 x11_1) ∧ Aside0 (Below w.heap.size w wc))
     case first =>
      have H := HC10.out
      clear HC10
      by_cases c11 : a2 = true
      ·subst c11
       rw [if_pos rfl] at H
       have H' := Aside0.mk H
       clear H
       go_wp2
       go_meet
       case rel => exact ⟨_, (wrap64 (x12_1 - a1)), tR, H', ⟨by have := HK1.out; first | omega | exact Nat.le_refl _⟩, ⟨by (with_reducible repeat (first | apply Kd.R_alloc | apply Kd.R_drewN | apply Kd.R_drew)); exact HO_11.out⟩, ⟨tB⟩⟩
      replace c11 := Bool.eq_false_iff.mpr c11
      subst c11
      rw [if_neg nX] at H
      have H' := Aside0.mk H
      clear H
      go_wp2
      go_meet
      case rel => exact ⟨_, (wrap64 (x12_1 + a1)), tR, H', ⟨by have := HK1.out; first | omega | exact Nat.le_refl _⟩, ⟨by (with_reducible repeat (first | apply Kd.R_alloc | apply Kd.R_drewN | apply Kd.R_drew)); exact HO_11.out⟩, ⟨tB⟩⟩
     case rest =>
      clear HC10
      (try clear c1); (try clear p2); (try clear c6); (try clear p6); (try clear c9); (try clear c11); (try clear p2); (try clear c6b0 c6b1); (try clear c9b0)
      obtain ⟨kq, x13_9, rfl, HA, HJ9, HO_11, HB⟩ := hcut
      cases kq with
      | zero => exact absurd HA.out (by simp [spinnakerref07_moved.j1])
      | succ kj9 =>
       have H := HA.out
       clear HA
       simp only [spinnakerref07_moved.j1] at H
       by_cases c12 : 0 ≤ x12_1
       ·rw [if_pos c12] at H
        have c12b0 : decide (0 ≤ x12_1) = true := decide_eq_true c12
        clear c12
        by_cases c13 : x12_1 < (x11_1.length : Int)
        ·rw [if_pos c13] at H
         have c13b0 : decide (x12_1 < (x11_1.length : Int)) = true := decide_eq_true c13
         clear c13
         obtain ⟨y355, hy355⟩ : ∃ y_ : List Int, y_ = (x11_1.set (x12_1 : Int).toNat a3) := ⟨_, rfl⟩
         replace H : (if x13_9 ≥ 0 then (if x13_9 < a4 then ((spinnakerref01_Bit.f kj9 (IntKind.u64.wrap (a0)) x13_9).bind fun t356 => (spinnakerref07_moved.l0 kj9 a0 a1 a2 a3 a4 (y355.set (x12_1 : Int).toNat t356) (wrap64 (x12_1 + 1)))) else (spinnakerref07_moved.l0 kj9 a0 a1 a2 a3 a4 y355 (wrap64 (x12_1 + 1)))) else (spinnakerref07_moved.l0 kj9 a0 a1 a2 a3 a4 y355 (wrap64 (x12_1 + 1)))) = some r := by first | (rw [hy355]; with_reducible exact H) | (have H2_ := (Option.bind_some _ _).symm.trans H; rw [hy355]; with_reducible exact H2_) | (have H2_ := (Option.bind_some _ _).symm.trans H; with_reducible exact H2_) | with_reducible exact H | (rw [hy355]; exact H) | exact H
         have Ny355 := Aside0.mk hy355
         clear hy355
         by_cases c15 : x13_9 ≥ 0
         ·rw [if_pos c15] at H
          have c15b0 : decide (0 ≤ x13_9) = true := decide_eq_true c15
          clear c15
          by_cases c16 : x13_9 < a4
          ·rw [if_pos c16] at H
           have c16b0 : decide (x13_9 < a4) = true := decide_eq_true c16
           clear c16
           obtain ⟨t356, A170, H⟩ := Option.bind_eq_some_iff.mp H
           try dsimp only at H
           have A17 := Aside0.mk A170; clear A170
           obtain ⟨y357, hy357⟩ : ∃ y_ : List Int, y_ = (y355.set (x12_1 : Int).toNat t356) := ⟨_, rfl⟩
           replace H : (spinnakerref07_moved.l0 kj9 a0 a1 a2 a3 a4 y357 (wrap64 (x12_1 + 1))) = some r := by first | (rw [hy357]; with_reducible exact H) | (have H2_ := (Option.bind_some _ _).symm.trans H; rw [hy357]; with_reducible exact H2_) | (have H2_ := (Option.bind_some _ _).symm.trans H; with_reducible exact H2_) | with_reducible exact H | (rw [hy357]; exact H) | exact H
           have Ny357 := Aside0.mk hy357
           clear hy357
           have H' := Aside0.mk H
           clear H
           have p14 : 0 ≤ (x12_1 : Int) := of_decide_eq_true (by first | (with_reducible assumption) | assumption)
           have q14 : (x12_1 : Int) < ((x11_1.length : Int) : Int) := of_decide_eq_true (by first | (with_reducible assumption) | assumption)
           obtain ⟨go14, co14, eo14, gb14, gl14, cl14, HG14⟩ := Kd.R_form HO_11.out (by omega)
           (first | cases eo14 | (injection eo14 with ea_ en_ ec_; (first | subst ea_ | (injection ea_ with ea_; subst ea_)); subst ec_; clear en_))
           have GB14 := Aside0.mk gb14
           have GG14 := Aside0.mk HG14
           clear gb14 gl14 HG14
           obtain ⟨hx14_0, hf14_0⟩ := Kd.R_celln 0 HO_11.out (x12_1 : Int) p14 q14
           replace p14 := eq_true p14
           replace q14 := eq_true q14
           have HP19 := Kd.R_putg HO_11.out (x12_1 : Int) a3
           go_wp2_with (first | ((with_reducible refine gate_store (t := 3) (p := 30) rfl ?_); refine store_event (t := 3) (p := 30) (v := ?vo_w20) (w1 := (wc.setCell ⟨go14, (x12_1 : Int).toNat, none⟩ (.int .i64 a3))) ?hg ?ho ?hn ?hr ?_; (case ho => rfl); (case hg => rfl); (case hn => rfl); (case hr => first | (go_simp; done) | (go_simp; rfl)); intro w20 hw; have hg : wc.grownBy w20 (some go14) := (by rw [hw]; exact HP19.2); have hp_ : Kd.R (Kd.int .i64) 3 w20 w.heap.size (fun _ => True) (.slice (some ⟨go14, 0, none⟩) x11_1.length co14) y355 := (by rw [hw, Ny355.out]; exact HP19.1); clear HP19; have n0_ := Aside0.mk (hp_); have n1_ := Aside0.mk ((by rw [hw]; exact below_set (HB.out) GB14.out : Below w.heap.size w w20)); clear HO_11; clear HB; have HO_11 := n0_; have HB := n1_; clear n0_ n1_; clear hg hw hp_) | ((with_reducible refine gate_callee (f := 45) rfl ?_); refine goesL_ (some 43) rfl rfl Tryz.func45 (by kernel_rfl) rfl #[.int .u64 (IntKind.u64.wrap (a0)), .int .i64 x13_9] rfl tM ?_; (with_reducible refine (spinnakerref01_Bit.calls kj9 (IntKind.u64.wrap (a0)) x13_9 t356 _ A17.out).mono ?_); rintro e w' ⟨rfl, ⟨nd, rfl⟩⟩; refine ⟨_, rfl, ?_⟩; (try (rw [drewN_self w20]; generalize hq_ : World.drewN w20 _ = w20; have n0_ : Aside0 (Kd.R (Kd.int .i64) 3 w20 w.heap.size (fun _ => True) (.slice (some ⟨go14, 0, none⟩) x11_1.length co14) y355) := ⟨by rw [← hq_]; exact (by (with_reducible repeat (first | apply Kd.R_alloc | apply Kd.R_drewN | apply Kd.R_drew)); exact HO_11.out)⟩; have n1_ : Aside0 (Below w.heap.size w w20) := ⟨by rw [← hq_]; exact tB⟩; clear HO_11 HB hq_; have HO_11 := n0_; have HB := n1_; clear n0_ n1_)); have p18 : 0 ≤ (x12_1 : Int) := of_decide_eq_true (by first | (with_reducible assumption) | assumption); have q18 : (x12_1 : Int) < ((x11_1.length : Int) : Int) := of_decide_eq_true (by first | (with_reducible assumption) | assumption); obtain ⟨hx18_0, hf18_0⟩ := Kd.R_celln 0 HO_11.out (x12_1 : Int) p18 q18; replace p18 := eq_true p18; replace q18 := eq_true q18; obtain ⟨hy21_, hz21_⟩ := Kd.R_celln 0 HO_11.out (x12_1 : Int) (of_decide_eq_true (by first | (with_reducible assumption) | assumption)) (of_decide_eq_true (by first | (with_reducible assumption) | assumption)); have HP21 := Kd.R_putg HO_11.out (x12_1 : Int) t356) | ((with_reducible refine gate_store (t := 3) (p := 44) rfl ?_); refine store_event (t := 3) (p := 44) (v := ?vo_w22) (w1 := (w20.setCell ⟨go14, (x12_1 : Int).toNat, none⟩ (.int .i64 t356))) ?hg ?ho ?hn ?hr ?_; (case ho => rfl); (case hg => rfl); (case hn => rfl); (case hr => first | (go_simp; done) | (go_simp; rfl)); intro w22 hw; have hg : w20.grownBy w22 (some go14) := (by rw [hw]; exact HP21.2); have hp_ : Kd.R (Kd.int .i64) 3 w22 w.heap.size (fun _ => True) (.slice (some ⟨go14, 0, none⟩) x11_1.length co14) y357 := (by rw [hw, Ny357.out]; exact HP21.1); clear HP21; have n0_ := Aside0.mk (hp_); have n1_ := Aside0.mk ((by rw [hw]; exact below_set (HB.out) GB14.out : Below w.heap.size w w22)); clear HO_11; clear HB; have HO_11 := n0_; have HB := n1_; clear n0_ n1_; clear hg hw hp_))
           go_roundg kj9
           case measure => have := HK1.out; have := HJ9.out; omega
           case rel => exact ⟨(y357), (wrap64 (x12_1 + 1)), tR, H', ⟨by have := HK1.out; have := HJ9.out; omega⟩, ⟨by (with_reducible repeat (first | apply Kd.R_alloc | apply Kd.R_drewN | apply Kd.R_drew)); exact HO_11.out⟩, ⟨tB⟩⟩
          rw [if_neg c16] at H
          have c16b0 : decide (x13_9 < a4) = false := decide_eq_false c16
          clear c16
          have H' := Aside0.mk H
          clear H
          have p14 : 0 ≤ (x12_1 : Int) := of_decide_eq_true (by first | (with_reducible assumption) | assumption)
          have q14 : (x12_1 : Int) < ((x11_1.length : Int) : Int) := of_decide_eq_true (by first | (with_reducible assumption) | assumption)
          obtain ⟨go14, co14, eo14, gb14, gl14, cl14, HG14⟩ := Kd.R_form HO_11.out (by omega)
          (first | cases eo14 | (injection eo14 with ea_ en_ ec_; (first | subst ea_ | (injection ea_ with ea_; subst ea_)); subst ec_; clear en_))
          have GB14 := Aside0.mk gb14
          have GG14 := Aside0.mk HG14
          clear gb14 gl14 HG14
          obtain ⟨hx14_0, hf14_0⟩ := Kd.R_celln 0 HO_11.out (x12_1 : Int) p14 q14
          replace p14 := eq_true p14
          replace q14 := eq_true q14
          have HP23 := Kd.R_putg HO_11.out (x12_1 : Int) a3
          go_wp2_with (first | ((with_reducible refine gate_store (t := 3) (p := 30) rfl ?_); refine store_event (t := 3) (p := 30) (v := ?vo_w24) (w1 := (wc.setCell ⟨go14, (x12_1 : Int).toNat, none⟩ (.int .i64 a3))) ?hg ?ho ?hn ?hr ?_; (case ho => rfl); (case hg => rfl); (case hn => rfl); (case hr => first | (go_simp; done) | (go_simp; rfl)); intro w24 hw; have hg : wc.grownBy w24 (some go14) := (by rw [hw]; exact HP23.2); have hp_ : Kd.R (Kd.int .i64) 3 w24 w.heap.size (fun _ => True) (.slice (some ⟨go14, 0, none⟩) x11_1.length co14) y355 := (by rw [hw, Ny355.out]; exact HP23.1); clear HP23; have n0_ := Aside0.mk (hp_); have n1_ := Aside0.mk ((by rw [hw]; exact below_set (HB.out) GB14.out : Below w.heap.size w w24)); clear HO_11; clear HB; have HO_11 := n0_; have HB := n1_; clear n0_ n1_; clear hg hw hp_))
          go_roundg kj9
          case measure => have := HK1.out; have := HJ9.out; omega
          case rel => exact ⟨(y355), (wrap64 (x12_1 + 1)), tR, H', ⟨by have := HK1.out; have := HJ9.out; omega⟩, ⟨by (with_reducible repeat (first | apply Kd.R_alloc | apply Kd.R_drewN | apply Kd.R_drew)); exact HO_11.out⟩, ⟨tB⟩⟩
         rw [if_neg c15] at H
         have c15b0 : decide (0 ≤ x13_9) = false := decide_eq_false c15
         clear c15
         have H' := Aside0.mk H
         clear H
         have p14 : 0 ≤ (x12_1 : Int) := of_decide_eq_true (by first | (with_reducible assumption) | assumption)
         have q14 : (x12_1 : Int) < ((x11_1.length : Int) : Int) := of_decide_eq_true (by first | (with_reducible assumption) | assumption)
         obtain ⟨go14, co14, eo14, gb14, gl14, cl14, HG14⟩ := Kd.R_form HO_11.out (by omega)
         (first | cases eo14 | (injection eo14 with ea_ en_ ec_; (first | subst ea_ | (injection ea_ with ea_; subst ea_)); subst ec_; clear en_))
         have GB14 := Aside0.mk gb14
         have GG14 := Aside0.mk HG14
         clear gb14 gl14 HG14
         obtain ⟨hx14_0, hf14_0⟩ := Kd.R_celln 0 HO_11.out (x12_1 : Int) p14 q14
         replace p14 := eq_true p14
         replace q14 := eq_true q14
         have HP25 := Kd.R_putg HO_11.out (x12_1 : Int) a3
         go_wp2_with (first | ((with_reducible refine gate_store (t := 3) (p := 30) rfl ?_); refine store_event (t := 3) (p := 30) (v := ?vo_w26) (w1 := (wc.setCell ⟨go14, (x12_1 : Int).toNat, none⟩ (.int .i64 a3))) ?hg ?ho ?hn ?hr ?_; (case ho => rfl); (case hg => rfl); (case hn => rfl); (case hr => first | (go_simp; done) | (go_simp; rfl)); intro w26 hw; have hg : wc.grownBy w26 (some go14) := (by rw [hw]; exact HP25.2); have hp_ : Kd.R (Kd.int .i64) 3 w26 w.heap.size (fun _ => True) (.slice (some ⟨go14, 0, none⟩) x11_1.length co14) y355 := (by rw [hw, Ny355.out]; exact HP25.1); clear HP25; have n0_ := Aside0.mk (hp_); have n1_ := Aside0.mk ((by rw [hw]; exact below_set (HB.out) GB14.out : Below w.heap.size w w26)); clear HO_11; clear HB; have HO_11 := n0_; have HB := n1_; clear n0_ n1_; clear hg hw hp_))
         go_roundg kj9
         case measure => have := HK1.out; have := HJ9.out; omega
         case rel => exact ⟨(y355), (wrap64 (x12_1 + 1)), tR, H', ⟨by have := HK1.out; have := HJ9.out; omega⟩, ⟨by (with_reducible repeat (first | apply Kd.R_alloc | apply Kd.R_drewN | apply Kd.R_drew)); exact HO_11.out⟩, ⟨tB⟩⟩
        rw [if_neg c13] at H
        exact absurd H (by simp)
       rw [if_neg c12] at H
       exact absurd H (by simp)
    rw [if_neg c9] at H
    have c9b0 : decide (x12_1 < a4) = false := decide_eq_false c9
    clear c9
    obtain ⟨t354, A270, H⟩ := Option.bind_eq_some_iff.mp H
    try dsimp only at H
    have A27 := Aside0.mk A270; clear A270
    obtain rfl := Option.some.inj H
    obtain ⟨Ao28, co28, eo28⟩ := Kd.R_slice HO_11.out
    subst eo28
    go_wp2_with (first | ((with_reducible refine gate_callee (f := 78) rfl ?_); refine goesL_ (some 46) rfl rfl Tryz.func78 (by kernel_rfl) rfl #[.slice Ao28 x11_1.length co28] rfl tM ?_; (with_reducible refine (spinnakerref07_num.calls k1 _ _ x11_1 t354 _ ?side1 ?side2 A27.out).mono ?_); (case side1 => repeat (first | exact (Kd.R_reads' HO_11.out).2.2 | (with_reducible refine Kd.C_alloc ?_ _) | (with_reducible refine Kd.C_drewN ?_ _) | (with_reducible refine Kd.C_drew ?_))); (case side2 => exact (Kd.R_reads' HO_11.out).2.1); rintro e w' ⟨rfl, ⟨nd, rfl⟩⟩; refine ⟨_, rfl, ?_⟩))
    go_ret
    exact ⟨tE, tB⟩
 rw [if_neg c6] at H
 exact absurd H (by simp)
def spinnakerref01_Sign.l0 : Nat → Int → Int → Int → Int → Int → Option (Int)
 | 0, _, _, _, _, _ => none
 | k + 1, x0, x1, x5, x6, x7 => if x7 < (wrap64 (x1 - 1)) then ((spinnakerref01_Bit.f k x0 x7).bind fun t358 => (spinnakerref01_Sign.l0 k x0 x1 (wrap64 (x5 + (wrap64 (x6 * t358)))) (wrap64 (2 * x6)) (wrap64 (x7 + 1)))) else ((spinnakerref01_Bit.f k x0 (wrap64 (x1 - 1))).bind fun t359 => (some (wrap64 (x5 - (wrap64 (x6 * t359))))))
def spinnakerref01_Sign.f (k : Nat) (a0 : Int) (a1 : Int) : Option (Int) := spinnakerref01_Sign.l0 k a0 a1 0 1 0
set_option maxHeartbeats 8000000 in
set_option maxRecDepth 100000 in
theorem spinnakerref01_Sign.calls (k : Nat) (a0 : Int) (a1 : Int) (r : Int) (w : World) (h : spinnakerref01_Sign.f k a0 a1 = some r) :
  Calls Tryz.prog 105 #[.int .u64 a0, .int .i64 a1] w fun e w' => e = .returned (.int .i64 r) ∧ Drawn0 w w' := by
 have H : (spinnakerref01_Sign.l0 k a0 a1 0 1 0) = some r := h
 clear h
 have H' := Aside0.mk H
 clear H
 go_enter Tryz.func105, Tryz.ntmps105
 go_wp2
 go_loopg [5, 6, 7] k (fun kq v5 v6 v7 w' => ∃ (x5_1 : Int) (x6_1 : Int) (x7_1 : Int), v5 = .int .i64 x5_1 ∧ v6 = .int .i64 x6_1 ∧ v7 = .int .i64 x7_1 ∧ Aside0 (spinnakerref01_Sign.l0 kq a0 a1 x5_1 x6_1 x7_1 = some r) ∧ Aside0 (kq ≤ k) ∧ Drawn0 w w')
 case atStart => exact ⟨(0), (1), (0), tR, tR, tR, H', ⟨Nat.le_refl _⟩, tD⟩
 case round =>
  clear H'
  (try clear c1); (try clear p2)
  obtain ⟨x5_1, x6_1, x7_1, rfl, rfl, rfl, HA, HK1, ⟨m1, rfl⟩⟩ := hrel
  cases gk with
  | zero => exact absurd HA.out (by simp [spinnakerref01_Sign.l0])
  | succ k1 =>
   have H := HA.out
   clear HA
   simp only [spinnakerref01_Sign.l0] at H
   by_cases c3 : x7_1 < (wrap64 (a1 - 1))
   ·rw [if_pos c3] at H
    have c3b0 : decide (x7_1 < (wrap64 (a1 - 1))) = true := decide_eq_true c3
    clear c3
    obtain ⟨t358, A40, H⟩ := Option.bind_eq_some_iff.mp H
    try dsimp only at H
    have A4 := Aside0.mk A40; clear A40
    have H' := Aside0.mk H
    clear H
    go_wp2_with (first | ((with_reducible refine gate_callee (f := 45) rfl ?_); refine goesL_ (some 18) rfl rfl Tryz.func45 (by kernel_rfl) rfl #[.int .u64 a0, .int .i64 x7_1] rfl tM ?_; (with_reducible refine (spinnakerref01_Bit.calls k1 a0 x7_1 t358 _ A4.out).mono ?_); rintro e w' ⟨rfl, ⟨nd, rfl⟩⟩; refine ⟨_, rfl, ?_⟩))
    go_roundg k1
    case measure => have := HK1.out; omega
    case rel => exact ⟨(wrap64 (x5_1 + (wrap64 (x6_1 * t358)))), (wrap64 (2 * x6_1)), (wrap64 (x7_1 + 1)), tR, tR, tR, H', ⟨by have := HK1.out; omega⟩, tD⟩
   rw [if_neg c3] at H
   have c3b0 : decide (x7_1 < (wrap64 (a1 - 1))) = false := decide_eq_false c3
   clear c3
   obtain ⟨t359, A50, H⟩ := Option.bind_eq_some_iff.mp H
   try dsimp only at H
   have A5 := Aside0.mk A50; clear A50
   obtain rfl := Option.some.inj H
   go_wp2_with (first | ((with_reducible refine gate_callee (f := 45) rfl ?_); refine goesL_ (some 28) rfl rfl Tryz.func45 (by kernel_rfl) rfl #[.int .u64 a0, .int .i64 (wrap64 (a1 - 1))] rfl tM ?_; (with_reducible refine (spinnakerref01_Bit.calls k1 a0 (wrap64 (a1 - 1)) t359 _ A5.out).mono ?_); rintro e w' ⟨rfl, ⟨nd, rfl⟩⟩; refine ⟨_, rfl, ?_⟩))
   go_ret
   exact ⟨tR, tD⟩
def spinnakerref07_Half.f (k : Nat) (a0 : Int) : Option (Int) := (spinnakerref01_Sign.f k (IntKind.u64.wrap (a0)) 32).bind fun t360 => (some t360)
set_option maxHeartbeats 8000000 in
set_option maxRecDepth 100000 in
theorem spinnakerref07_Half.calls (k : Nat) (a0 : Int) (r : Int) (w : World) (h : spinnakerref07_Half.f k a0 = some r) :
  Calls Tryz.prog 80 #[.int .i64 a0] w fun e w' => e = .returned (.int .i64 r) ∧ Drawn0 w w' := by
 unfold spinnakerref07_Half.f at h; have H := h
 clear h
 obtain ⟨t360, A20, H⟩ := Option.bind_eq_some_iff.mp H
 try dsimp only at H
 have A2 := Aside0.mk A20; clear A20
 obtain rfl := Option.some.inj H
 go_enter Tryz.func80, Tryz.ntmps80
 go_wp2_with (first | ((with_reducible refine gate_callee (f := 105) rfl ?_); refine goesL_ (some 5) rfl rfl Tryz.func105 (by kernel_rfl) rfl #[.int .u64 (IntKind.u64.wrap (a0)), .int .i64 32] rfl tM ?_; (with_reducible refine (spinnakerref01_Sign.calls k (IntKind.u64.wrap (a0)) 32 t360 _ A2.out).mono ?_); rintro e w' ⟨rfl, ⟨nd, rfl⟩⟩; refine ⟨_, rfl, ?_⟩))
 go_ret
 exact ⟨tR, tD⟩
def spinnakerref07_DivU.f (a0 : Int) (a1 : Int) : Option (Int × Int) := if a1 = 0 then (some ((-1), wrap64 (a0))) else (some (wrap64 (IntKind.u64.wrap (Int.tdiv a0 a1)), wrap64 (Int.tmod a0 a1)))
set_option maxHeartbeats 8000000 in
set_option maxRecDepth 100000 in
theorem spinnakerref07_DivU.calls (a0 : Int) (a1 : Int) (r1 : Int) (r2 : Int) (w : World) (h : spinnakerref07_DivU.f a0 a1 = some (r1, r2)) :
  Calls Tryz.prog 81 #[.int .u64 a0, .int .u64 a1] w fun e w' => e = .returned (.tuple #[.int .i64 r1, .int .i64 r2]) ∧ Drawn0 w w' := by
 unfold spinnakerref07_DivU.f at h; have H := h
 clear h
 by_cases c3 : a1 = 0
 ·rw [if_pos c3] at H
  have c3b0 := bT c3; have c3b1 := nF c3
  clear c3
  simp only [Option.some.injEq, Prod.mk.injEq] at H
  obtain ⟨rfl, rfl⟩ := H
  go_enter Tryz.func81, Tryz.ntmps81
  go_wp2
  repeat (go_quiet (fail); try go_wp2)
  go_ret2
  exact ⟨tR, tD⟩
 rw [if_neg c3] at H
 have c3b0 := bF c3; have c3b1 := nT c3
 simp only [Option.some.injEq, Prod.mk.injEq] at H
 obtain ⟨rfl, rfl⟩ := H
 go_enter Tryz.func81, Tryz.ntmps81
 go_wp2
 repeat (go_quiet (fail); try go_wp2)
 go_ret2
 exact ⟨tR, tD⟩
def spinnakerref07_one.f (a0 : Bool) : Option (Int) := if a0 = true then (some 1) else (some 0)
set_option maxHeartbeats 8000000 in
set_option maxRecDepth 100000 in
theorem spinnakerref07_one.calls (a0 : Bool) (r : Int) (w : World) (h : spinnakerref07_one.f a0 = some r) :
  Calls Tryz.prog 62 #[.bool a0] w fun e w' => e = .returned (.int .i64 r) ∧ Drawn0 w w' := by
 have H : (if a0 = true then (some 1) else (some 0)) = some r := h
 clear h
 by_cases c2 : a0 = true
 ·subst c2
  rw [if_pos rfl] at H
  obtain rfl := Option.some.inj H
  go_enter Tryz.func62, Tryz.ntmps62
  go_wp2
  go_ret
  exact ⟨tR, tD⟩
 replace c2 := Bool.eq_false_iff.mpr c2
 subst c2
 rw [if_neg nX] at H
 obtain rfl := Option.some.inj H
 go_enter Tryz.func62, Tryz.ntmps62
 go_wp2
 go_ret
 exact ⟨tR, tD⟩
mutual
def spinnakerref07_Upper.j0 : Nat → Int → Int → Bool → Int → Int → Bool → Bool → Option (Int)
 | 0, _, _, _, _, _, _, _ => none
 | k + 1, x0, x1, x3, x9, x10, x11, x22 => if x22 = true then ((QA.spinnakerref07_abs.f x0).bind fun t361 => (spinnakerref07_Upper.j1 k x1 x3 t361 x10 (!x11))) else (spinnakerref07_Upper.j1 k x1 x3 x9 x10 x11)
def spinnakerref07_Upper.j1 : Nat → Int → Bool → Int → Int → Bool → Option (Int)
 | 0, _, _, _, _, _ => none
 | k + 1, x1, x3, x9, x10, x11 => if x3 = true then (spinnakerref07_Upper.j2 k x1 x9 x10 x11 (decide (x1 < 0))) else (spinnakerref07_Upper.j2 k x1 x9 x10 x11 false)
def spinnakerref07_Upper.j2 : Nat → Int → Int → Int → Bool → Bool → Option (Int)
 | 0, _, _, _, _, _ => none
 | k + 1, x1, x9, x10, x11, x31 => if x31 = true then ((QA.spinnakerref07_abs.f x1).bind fun t362 => (spinnakerref07_Upper.j3 k x9 t362 (!x11))) else (spinnakerref07_Upper.j3 k x9 x10 x11)
def spinnakerref07_Upper.j3 : Nat → Int → Int → Bool → Option (Int)
 | 0, _, _, _ => none
 | k + 1, x9, x10, x11 => (ref07_Mul.f x9 x10).bind fun bt363 => (if x11 = true then (if bt363.1 = 0 then (some (wrap64 (IntKind.u64.wrap ((Go.bits .xor .u64 18446744073709551615 bt363.2) + 1)))) else (some (wrap64 (Go.bits .xor .u64 18446744073709551615 bt363.2)))) else (some (wrap64 (bt363.2))))
end
def spinnakerref07_Upper.f (k : Nat) (a0 : Int) (a1 : Int) (a2 : Bool) (a3 : Bool) : Option (Int) := if a2 = true then (spinnakerref07_Upper.j0 k a0 a1 a3 (IntKind.u64.wrap (a0)) (IntKind.u64.wrap (a1)) false (decide (a0 < 0))) else (spinnakerref07_Upper.j0 k a0 a1 a3 (IntKind.u64.wrap (a0)) (IntKind.u64.wrap (a1)) false false)
set_option maxHeartbeats 8000000 in
set_option maxRecDepth 100000 in
theorem spinnakerref07_Upper.calls (k : Nat) (a0 : Int) (a1 : Int) (a2 : Bool) (a3 : Bool) (r : Int) (w : World) (h : spinnakerref07_Upper.f k a0 a1 a2 a3 = some r) :
  Calls Tryz.prog 83 #[.int .i64 a0, .int .i64 a1, .bool a2, .bool a3] w fun e w' => e = .returned (.int .i64 r) ∧ Below w.heap.size w w' := by
 have HB := Aside0.mk (Below.refl w.heap.size w)
 unfold spinnakerref07_Upper.f at h; have H := h
 clear h
 have HC5 := Aside0.mk H
 clear H
 go_enter Tryz.func83, Tryz.ntmps83
 go_upto_region 2 with (fail)
 go_cut [22] (fun v22 wc => ∃ (kq : Nat) (x22_4 : Bool), v22 = .bool x22_4 ∧ Aside0 (spinnakerref07_Upper.j0 kq a0 a1 a3 (IntKind.u64.wrap (a0)) (IntKind.u64.wrap (a1)) false x22_4 = some r) ∧ Aside0 (kq ≤ k) ∧ Aside0 (Below w.heap.size w wc))
 case first =>
  have H := HC5.out
  clear HC5
  by_cases c6 : a2 = true
  ·subst c6
   rw [if_pos rfl] at H
   have H' := Aside0.mk H
   clear H
   go_wp2
   go_meet
   case rel => exact ⟨_, (decide (a0 < 0)), tR, H', ⟨tO⟩, ⟨tB⟩⟩
  replace c6 := Bool.eq_false_iff.mpr c6
  subst c6
  rw [if_neg nX] at H
  have H' := Aside0.mk H
  clear H
  go_wp2
  go_meet
  case rel => exact ⟨_, (false), tR, H', ⟨tO⟩, ⟨tB⟩⟩
 case rest =>
  clear HC5
  (try clear p2); (try clear c6)
  obtain ⟨kq, x22_4, rfl, HA, HJ4, HB⟩ := hcut
  cases kq with
  | zero => exact absurd HA.out (by simp [spinnakerref07_Upper.j0])
  | succ kj4 =>
   have H := HA.out
   clear HA
   simp only [spinnakerref07_Upper.j0] at H
   have HC7 := Aside0.mk H
   clear H
   go_upto_if 22 with (fail)
   go_cut [9, 11] (fun v9 v11 wc => ∃ (kq : Nat) (x9_6 : Int) (x11_6 : Bool), v9 = .int .u64 x9_6 ∧ v11 = .bool x11_6 ∧ Aside0 (spinnakerref07_Upper.j1 kq a1 a3 x9_6 (IntKind.u64.wrap (a1)) x11_6 = some r) ∧ Aside0 (kq ≤ kj4) ∧ Aside0 (Below w.heap.size w wc))
   case first =>
    have H := HC7.out
    clear HC7
    by_cases c8 : x22_4 = true
    ·subst c8
     rw [if_pos rfl] at H
     obtain ⟨t361, A90, H⟩ := Option.bind_eq_some_iff.mp H
     try dsimp only at H
     have A9 := Aside0.mk A90; clear A90
     have H' := Aside0.mk H
     clear H
     go_wp2_with (first | ((with_reducible refine gate_callee (f := 104) rfl ?_); refine goesL_ (some 24) rfl rfl Tryz.func104 (by kernel_rfl) rfl #[.int .i64 a0] rfl tM ?_; (with_reducible refine (QA.spinnakerref07_abs.calls a0 t361 _ A9.out).mono ?_); rintro e w' ⟨rfl, ⟨nd, rfl⟩⟩; refine ⟨_, rfl, ?_⟩))
     go_meet
     case rel => exact ⟨_, (t361), (!false), tR, tR, H', ⟨by have := HJ4.out; first | omega | exact Nat.le_refl _⟩, ⟨tB⟩⟩
    replace c8 := Bool.eq_false_iff.mpr c8
    subst c8
    rw [if_neg nX] at H
    have H' := Aside0.mk H
    clear H
    go_wp2
    go_meet
    case rel => exact ⟨_, ((IntKind.u64.wrap (a0))), (false), tR, tR, H', ⟨by have := HJ4.out; first | omega | exact Nat.le_refl _⟩, ⟨tB⟩⟩
   case rest =>
    clear HC7
    (try clear c1); (try clear p2); (try clear c6); (try clear c8); (try clear p2)
    obtain ⟨kq, x9_6, x11_6, rfl, rfl, HA, HJ6, HB⟩ := hcut
    cases kq with
    | zero => exact absurd HA.out (by simp [spinnakerref07_Upper.j1])
    | succ kj6 =>
     have H := HA.out
     clear HA
     simp only [spinnakerref07_Upper.j1] at H
     have HC10 := Aside0.mk H
     clear H
     go_upto_region 4 with (fail)
     go_cut [31] (fun v31 wc => ∃ (kq : Nat) (x31_9 : Bool), v31 = .bool x31_9 ∧ Aside0 (spinnakerref07_Upper.j2 kq a1 x9_6 (IntKind.u64.wrap (a1)) x11_6 x31_9 = some r) ∧ Aside0 (kq ≤ kj6) ∧ Aside0 (Below w.heap.size w wc))
     case first =>
      have H := HC10.out
      clear HC10
      by_cases c11 : a3 = true
      ·subst c11
       rw [if_pos rfl] at H
       have H' := Aside0.mk H
       clear H
       go_wp2
       go_meet
       case rel => exact ⟨_, (decide (a1 < 0)), tR, H', ⟨by have := HJ4.out; have := HJ6.out; first | omega | exact Nat.le_refl _⟩, ⟨tB⟩⟩
      replace c11 := Bool.eq_false_iff.mpr c11
      subst c11
      rw [if_neg nX] at H
      have H' := Aside0.mk H
      clear H
      go_wp2
      go_meet
      case rel => exact ⟨_, (false), tR, H', ⟨by have := HJ4.out; have := HJ6.out; first | omega | exact Nat.le_refl _⟩, ⟨tB⟩⟩
     case rest =>
      clear HC10
      (try clear c1); (try clear p2); (try clear c6); (try clear c8); (try clear c10); (try clear c11); (try clear p2)
      obtain ⟨kq, x31_9, rfl, HA, HJ9, HB⟩ := hcut
      cases kq with
      | zero => exact absurd HA.out (by simp [spinnakerref07_Upper.j2])
      | succ kj9 =>
       have H := HA.out
       clear HA
       simp only [spinnakerref07_Upper.j2] at H
       have HC12 := Aside0.mk H
       clear H
       go_upto_if 31 with (fail)
       go_cut [10, 11] (fun v10 v11 wc => ∃ (kq : Nat) (x10_11 : Int) (x11_11 : Bool), v10 = .int .u64 x10_11 ∧ v11 = .bool x11_11 ∧ Aside0 (spinnakerref07_Upper.j3 kq x9_6 x10_11 x11_11 = some r) ∧ Aside0 (kq ≤ kj9) ∧ Aside0 (Below w.heap.size w wc))
       case first =>
        have H := HC12.out
        clear HC12
        by_cases c13 : x31_9 = true
        ·subst c13
         rw [if_pos rfl] at H
         obtain ⟨t362, A140, H⟩ := Option.bind_eq_some_iff.mp H
         try dsimp only at H
         have A14 := Aside0.mk A140; clear A140
         have H' := Aside0.mk H
         clear H
         go_wp2_with (first | ((with_reducible refine gate_callee (f := 104) rfl ?_); refine goesL_ (some 33) rfl rfl Tryz.func104 (by kernel_rfl) rfl #[.int .i64 a1] rfl tM ?_; (with_reducible refine (QA.spinnakerref07_abs.calls a1 t362 _ A14.out).mono ?_); rintro e w' ⟨rfl, ⟨nd, rfl⟩⟩; refine ⟨_, rfl, ?_⟩))
         go_meet
         case rel => exact ⟨_, (t362), (!x11_6), tR, tR, H', ⟨by have := HJ4.out; have := HJ6.out; have := HJ9.out; first | omega | exact Nat.le_refl _⟩, ⟨tB⟩⟩
        replace c13 := Bool.eq_false_iff.mpr c13
        subst c13
        rw [if_neg nX] at H
        have H' := Aside0.mk H
        clear H
        go_wp2
        go_meet
        case rel => exact ⟨_, ((IntKind.u64.wrap (a1))), (x11_6), tR, tR, H', ⟨by have := HJ4.out; have := HJ6.out; have := HJ9.out; first | omega | exact Nat.le_refl _⟩, ⟨tB⟩⟩
       case rest =>
        clear HC12
        (try clear c1); (try clear p2); (try clear c6); (try clear c8); (try clear c10); (try clear c11); (try clear c13); (try clear p2)
        obtain ⟨kq, x10_11, x11_11, rfl, rfl, HA, HJ11, HB⟩ := hcut
        cases kq with
        | zero => exact absurd HA.out (by simp [spinnakerref07_Upper.j3])
        | succ kj11 =>
         have H := HA.out
         clear HA
         simp only [spinnakerref07_Upper.j3] at H
         replace H := Option.bind_eq_some_iff.mp H
         obtain ⟨⟨t363, t364⟩, A150, H⟩ := H
         replace H : (if x11_11 = true then (if t363 = 0 then (some (wrap64 (IntKind.u64.wrap ((Go.bits .xor .u64 18446744073709551615 t364) + 1)))) else (some (wrap64 (Go.bits .xor .u64 18446744073709551615 t364)))) else (some (wrap64 (t364)))) = some r := H
         have A15 := Aside0.mk A150; clear A150
         by_cases c16 : x11_11 = true
         ·subst c16
          rw [if_pos rfl] at H
          by_cases c17 : t363 = 0
          ·rw [if_pos c17] at H
           have c17b0 := bT c17; have c17b1 := nF c17
           clear c17
           obtain rfl := Option.some.inj H
           go_wp2_with (first | ((with_reducible refine gate_callee (f := 82) rfl ?_); refine goesL_ (some 39) rfl rfl Tryz.func82 (by kernel_rfl) rfl #[.int .u64 x9_6, .int .u64 x10_11] rfl tM ?_; (with_reducible refine (ref07_Mul.calls x9_6 x10_11 t363 t364 _ A15.out).mono ?_); rintro e w18 ⟨rfl, hb⟩; refine ⟨_, rfl, ?_⟩; have n0_ := Aside0.mk (below_step tB hb); clear HB; have HB := n0_; clear n0_; (try clear hb); (try clear hb2); (try clear hk); (try clear hi)))
           go_ret
           exact ⟨tE, tB⟩
          rw [if_neg c17] at H
          have c17b0 := bF c17; have c17b1 := nT c17
          obtain rfl := Option.some.inj H
          go_wp2_with (first | ((with_reducible refine gate_callee (f := 82) rfl ?_); refine goesL_ (some 39) rfl rfl Tryz.func82 (by kernel_rfl) rfl #[.int .u64 x9_6, .int .u64 x10_11] rfl tM ?_; (with_reducible refine (ref07_Mul.calls x9_6 x10_11 t363 t364 _ A15.out).mono ?_); rintro e w19 ⟨rfl, hb⟩; refine ⟨_, rfl, ?_⟩; have n0_ := Aside0.mk (below_step tB hb); clear HB; have HB := n0_; clear n0_; (try clear hb); (try clear hb2); (try clear hk); (try clear hi)))
          go_ret
          exact ⟨tE, tB⟩
         replace c16 := Bool.eq_false_iff.mpr c16
         subst c16
         rw [if_neg nX] at H
         obtain rfl := Option.some.inj H
         go_wp2_with (first | ((with_reducible refine gate_callee (f := 82) rfl ?_); refine goesL_ (some 39) rfl rfl Tryz.func82 (by kernel_rfl) rfl #[.int .u64 x9_6, .int .u64 x10_11] rfl tM ?_; (with_reducible refine (ref07_Mul.calls x9_6 x10_11 t363 t364 _ A15.out).mono ?_); rintro e w20 ⟨rfl, hb⟩; refine ⟨_, rfl, ?_⟩; have n0_ := Aside0.mk (below_step tB hb); clear HB; have HB := n0_; clear n0_; (try clear hb); (try clear hb2); (try clear hk); (try clear hi)))
         go_ret
         exact ⟨tE, tB⟩
end Go.Proofs.YtfcniikbcjmlcaaGreatDoor.QB
end
