/- Part PC of the proof of spinnakerlaw19.WindowOrders: for every input the law returns true. -/
import Derived.ArgAppend
import Derived.Below
import Derived.BigQuiet
import Derived.Deep.AppendLies
import Derived.Deep.CutBlock
import Derived.Deep.DeepCutAuto
import Derived.Deep.Draws
import Derived.Deep.LoopGhost
import Derived.Deep.OwnRows
import Derived.Deep.QuietTactic
import Derived.Deep.RegionHeld3
import Derived.KernelRfl
import Derived.Laws.BitsAllLaws
import Derived.Laws.BitsLemmas
import Derived.Laws.BytesArg
import Derived.Laws.IdiomCopy
import Derived.Laws.MakeOwn
import Derived.Laws.OwnMore
import Derived.Laws.Rows
import Derived.Laws.Slices
import Derived.Laws.StructEq
import Derived.Lib.AppendStr
import Derived.Lib.ConvBytes
import Derived.Maps.AppendAt
import Derived.OrdersHeld
import Derived.Outline
import Derived.OwnWalk
import Derived.RowKit
import Derived.RowKit3
import Derived.Tactics
import Derived.Test.YtfcniikbcjmlcaaGreatDoorProg
import Derived.WalkKit
import Derived.WideLaws
import Derived.Test.YtfcniikbcjmlcaaGreatDoorPA
import Derived.Test.YtfcniikbcjmlcaaGreatDoorPB
section
namespace Go.Proofs.YtfcniikbcjmlcaaGreatDoor
open Go.RowKit Go.Proofs.YtfcniikbcjmlcaaGreatDoorW.PrintWords Go.Proofs.YtfcniikbcjmlcaaGreatDoorW.PrintLast Go.Proofs.YtfcniikbcjmlcaaGreatDoorW.PrintMore
set_option linter.unusedVariables false
set_option linter.unusedSimpArgs false
def wordNums : List Int := [0x37, 0x17, 0x6f, 0x67, 0x63, 0x1063, 0x4063, 0x5063, 0x6063, 0x7063, 0x3, 0x1003, 0x2003, 0x3003, 0x4003, 0x5003, 0x6003, 0x23, 0x1023, 0x2023, 0x3023, 0x13, 0x2013, 0x3013, 0x4013, 0x6013, 0x7013, 0x1013, 0x5013, 0x40005013, 0x1b, 0x101b, 0x501b, 0x4000501b, 0x33, 0x40000033, 0x1033, 0x2033, 0x3033, 0x4033, 0x5033, 0x40005033, 0x6033, 0x7033, 0x3b, 0x4000003b, 0x103b, 0x503b, 0x4000503b, 0x2000033, 0x2001033, 0x2002033, 0x2003033, 0x2004033, 0x2005033, 0x2006033, 0x2007033, 0x200003b, 0x200403b, 0x200503b, 0x200603b, 0x200703b, 0xf, 0x73, 0x100073, 0x1000202f, 0x1800202f, 0x800202f, 0x202f, 0x2000202f, 0x6000202f, 0x4000202f, 0x8000202f, 0xa000202f, 0xc000202f, 0xe000202f]
def wordArr : Array Value := (wordNums.map fun n => Value.int .u32 n).toArray
theorem wordArr_at (j : Nat) (h : j < 76) : wordArr[j]? = some (.int .u32 (wordNums.getD j 0)) := by
 have : wordNums.length = 76 := by kernel_rfl
 simp [wordArr, List.getD_eq_getElem?_getD, List.getElem?_eq_getElem (show j < wordNums.length by omega)]
set_option maxRecDepth 100000 in
set_option maxHeartbeats 400000 in
theorem words_any (w : World) : Calls Tryz.prog 44 #[] w fun e w' => e = .returned (.agg wordArr) ∧ Below w.heap.size w w' := by
 go_enter Tryz.func44, Tryz.ntmps44
 go_wp2_with (first | (refine wpList_build_to rfl 83 _ rfl wordArr (by kernel_rfl) ?_) | (refine wpList_store_new rfl 83 _ _ rfl Tryz.zeroCells83 wordArr _ rfl rfl (by kernel_rfl) (by kernel_rfl) (by kernel_rfl) ?_))
 exact bodyPost_ret (v := .agg wordArr) (results_cell_row rfl _ _ w.heap.size 83 wordArr (0, 0) _ rfl (heap_alloc_last w _) Tryz.underlying83 rfl (by kernel_rfl)) rfl ⟨rfl, (Below.refl _ _).alloc (Nat.le_refl _) _⟩
def ref04_Word.f (a0 : Int) : Option Int := if 1 ≤ a0 then (if a0 < 77 then some (wordNums.getD (a0.toNat - 1) 0) else if a0 < 88 then some ((wordNums.getD (a0 - 12).toNat 0 + 4096) % 4294967296) else none) else none
set_option maxRecDepth 100000 in
theorem ref04_Word.calls (a0 : Int) (r : Int) (w : World) (h : ref04_Word.f a0 = some r) :
  Calls Tryz.prog 20 #[.int .i64 a0] w fun e w' => e = .returned (.int .u32 r) ∧ Below w.heap.size w w' := by
 unfold ref04_Word.f at h
 by_cases h1 : 1 ≤ a0
 case neg => rw [if_neg h1] at h; exact absurd h (by simp)
 rw [if_pos h1] at h
 by_cases h2 : a0 < 77
 ·rw [if_pos h2] at h
  obtain rfl := Option.some.inj h
  have hd : decide (77 ≤ a0) = false := decide_eq_false (by omega)
  have hx := wordArr_at (a0.toNat - 1) (by omega)
  generalize wordNums.getD (a0.toNat - 1) 0 = x at hx
  clear h
  go_enter Tryz.func20, Tryz.ntmps20
  go_wp2_with (first | (go_at_call 44; refine (words_any _).mono ?_; rintro e w1 ⟨rfl, hb⟩) | (refine wpList_store_new rfl 83 _ _ rfl Tryz.zeroCells83 wordArr _ rfl rfl (by kernel_rfl) (by kernel_rfl) (by kernel_rfl) ?_))
  go_ret
  exact ⟨rfl, hb.alloc hb.size _⟩
 rw [if_neg h2] at h
 by_cases h3 : a0 < 88
 case neg => rw [if_neg h3] at h; exact absurd h (by simp)
 rw [if_pos h3] at h
 obtain rfl := Option.some.inj h
 have h77 : 77 ≤ a0 := by omega
 have hd : decide (77 ≤ a0) = true := decide_eq_true h77
 clear h1 h2
 have hx := wordArr_at (a0 - 12).toNat (by omega)
 generalize wordNums.getD (a0 - 12).toNat 0 = x at hx
 clear h
 go_enter Tryz.func20, Tryz.ntmps20
 go_wp2_with (first | (go_at_call 44; refine (words_any _).mono ?_; rintro e w1 ⟨rfl, hb⟩) | (refine wpList_store_new rfl 83 _ _ rfl Tryz.zeroCells83 wordArr _ rfl rfl (by kernel_rfl) (by kernel_rfl) (by kernel_rfl) ?_))
 go_ret
 exact ⟨rfl, hb.alloc hb.size _⟩
theorem arith_far (f3 : Int) (A B : Array Value) (x : Int) (w : World) (h0 : 0 ≤ f3) (h1 : f3 < 8) (hA : A.size = 8) (hB : B.size = 8) (hx' : B[f3.toNat]? = some (.int .i64 x)) :
  Calls Tryz.prog 110 #[.int .i64 f3, .agg A, .agg B, .bool true] w fun e w' => e = .returned (.int .i64 x) ∧ Below w.heap.size w w' := by
 obtain ⟨hj, hx⟩ := Array.getElem?_eq_some_iff.1 hx'
 clear hx'
 go_enter Tryz.func110, Tryz.ntmps110
 go_wp2
 go_ret
 exact ⟨rfl, ((Below.refl _ _).alloc (Nat.le_refl _) _).alloc (by simp) _⟩
theorem arith_near (f3 : Int) (A B : Array Value) (x : Int) (w : World) (h0 : 0 ≤ f3) (h1 : f3 < 8) (hA : A.size = 8) (hB : B.size = 8) (hx' : A[f3.toNat]? = some (.int .i64 x)) :
  Calls Tryz.prog 110 #[.int .i64 f3, .agg A, .agg B, .bool false] w fun e w' => e = .returned (.int .i64 x) ∧ Below w.heap.size w w' := by
 obtain ⟨hj, hx⟩ := Array.getElem?_eq_some_iff.1 hx'
 clear hx'
 go_enter Tryz.func110, Tryz.ntmps110
 go_wp2
 go_ret
 exact ⟨rfl, ((Below.refl _ _).alloc (Nat.le_refl _) _).alloc (by simp) _⟩
def immTab : List Int := [22, 28, 23, 24, 25, 29, 26, 27]
def dec_immediates.f (w f3 : Int) : Option Int :=
 if 0 ≤ f3 ∧ f3 < 8 then (QA.dec_field.f w 26 6).bind fun top =>
  if f3 = 1 ∨ f3 = 5 then (if top = 0 then some (immTab.getD f3.toNat 0) else if top = 16 then some (if f3 = 5 then 30 else 0) else some 0) else some (immTab.getD f3.toNat 0)
 else none
theorem eight {f3 : Int} (h : 0 ≤ f3 ∧ f3 < 8) : f3 = 0 ∨ f3 = 1 ∨ f3 = 2 ∨ f3 = 3 ∨ f3 = 4 ∨ f3 = 5 ∨ f3 = 6 ∨ f3 = 7 := by omega
theorem below_arr {w w1 w2 : World} (h : Below w.heap.size w w1) (o : Obj) (h2 : Below (w1.alloc o).heap.size (w1.alloc o) w2) : Below w.heap.size w w2 :=
 below_then (h.alloc h.size _) (Nat.le_trans h.size (by simp)) h2
set_option maxRecDepth 100000 in
set_option maxHeartbeats 2000000 in
theorem dec_immediates.calls (a0 a1 : Int) (r : Int) (w : World) (h : dec_immediates.f a0 a1 = some r) :
  Calls Tryz.prog 89 #[.int .u32 a0, .int .i64 a1] w fun e w' => e = .returned (.int .i64 r) ∧ Below w.heap.size w w' := by
 unfold dec_immediates.f at h
 by_cases h1 : 0 ≤ a1 ∧ a1 < 8
 case neg => rw [if_neg h1] at h; exact absurd h (by simp)
 rw [if_pos h1] at h
 replace h := Option.bind_eq_some_iff.1 h
 obtain ⟨top, ht, h⟩ := h
 have HT := Aside0.mk ht
 clear ht
 by_cases hs : a1 = 1 ∨ a1 = 5
 ·rw [if_pos hs] at h
  by_cases t0 : top = 0
  ·subst t0
   rcases hs with rfl | rfl
   all_goals
    simp [immTab] at h
    subst h
    clear h1
    go_enter Tryz.func89, Tryz.ntmps89
    go_wp2_with (first | (go_at_call 87; refine (QA.dec_field.calls _ _ _ _ _ HT.out).mono ?_; rintro e w1 ⟨rfl, hd⟩; have HB := Aside0.mk hd.below; clear hd) | (go_at_call 110; refine (arith_near _ _ _ _ _ (by decide) (by decide) rfl rfl rfl).mono ?_; rintro e w2 ⟨rfl, h2⟩))
    go_ret
    exact ⟨rfl, below_arr HB.out _ h2⟩
  rw [if_neg t0] at h
  by_cases t1 : top = 16
  ·subst t1
   rcases hs with rfl | rfl
   all_goals
    simp at h
    subst h
    clear h1 t0
    go_enter Tryz.func89, Tryz.ntmps89
    go_wp2_with (first | (go_at_call 87; refine (QA.dec_field.calls _ _ _ _ _ HT.out).mono ?_; rintro e w1 ⟨rfl, hd⟩; have HB := Aside0.mk hd.below; clear hd) | (go_at_call 110; refine (arith_far _ _ _ _ _ (by decide) (by decide) rfl rfl rfl).mono ?_; rintro e w2 ⟨rfl, h2⟩))
    go_ret
    exact ⟨rfl, below_arr HB.out _ h2⟩
  rw [if_neg t1] at h
  have b0 : (top == 0) = false := beq_eq_false_iff_ne.2 t0
  have b1 : (top == 16) = false := beq_eq_false_iff_ne.2 t1
  rcases hs with rfl | rfl
  all_goals
   simp at h
   subst h
   clear h1 t0 t1
   go_enter Tryz.func89, Tryz.ntmps89
   go_wp2_with (first | (go_at_call 87; refine (QA.dec_field.calls _ _ _ _ _ HT.out).mono ?_; rintro e w1 ⟨rfl, hd⟩; have HB := Aside0.mk hd.below; clear hd))
   go_ret
   exact ⟨rfl, HB.out.alloc HB.out.size _⟩
 rw [if_neg hs] at h
 rcases eight h1 with rfl | rfl | rfl | rfl | rfl | rfl | rfl | rfl
 case inr.inl => exact absurd (.inl rfl) hs
 case inr.inr.inr.inr.inr.inl => exact absurd (.inr rfl) hs
 all_goals
  simp [immTab] at h
  subst h
  clear h1 hs
  go_enter Tryz.func89, Tryz.ntmps89
  go_wp2_with (first | (go_at_call 87; refine (QA.dec_field.calls _ _ _ _ _ HT.out).mono ?_; rintro e w1 ⟨rfl, hd⟩; have HB := Aside0.mk hd.below; clear hd))
  go_ret
  exact ⟨rfl, HB.out.alloc HB.out.size _⟩
def dec_small.f (f3 f7 : Int) : Option Int :=
 if 0 ≤ f3 ∧ f3 < 8 then (if f3 = 0 then some 31 else if f7 = 0 then some (([0, 32, 0, 0, 0, 33, 0, 0] : List Int).getD f3.toNat 0) else if f7 = 32 then some (([0, 0, 0, 0, 0, 34, 0, 0] : List Int).getD f3.toNat 0) else some 0) else none
set_option maxRecDepth 100000 in
set_option maxHeartbeats 2000000 in
theorem dec_small.calls (a0 a1 : Int) (r : Int) (w : World) (h : dec_small.f a0 a1 = some r) :
  Calls Tryz.prog 90 #[.int .i64 a0, .int .i64 a1] w fun e w' => e = .returned (.int .i64 r) ∧ Below w.heap.size w w' := by
 unfold dec_small.f at h
 by_cases h1 : 0 ≤ a0 ∧ a0 < 8
 case neg => rw [if_neg h1] at h; exact absurd h (by simp)
 rw [if_pos h1] at h
 by_cases t0 : a1 = 0
 ·subst t0
  rcases eight h1 with rfl | rfl | rfl | rfl | rfl | rfl | rfl | rfl
  all_goals
   simp at h
   subst h
   clear h1
   go_enter Tryz.func90, Tryz.ntmps90
   go_wp2_with (first | (go_at_call 110; refine (arith_near _ _ _ _ _ (by decide) (by decide) rfl rfl rfl).mono ?_; rintro e w2 ⟨rfl, h2⟩))
   go_ret
   first | exact ⟨rfl, h2⟩ | exact ⟨rfl, Below.refl _ _⟩
 by_cases t1 : a1 = 32
 ·subst t1
  rcases eight h1 with rfl | rfl | rfl | rfl | rfl | rfl | rfl | rfl
  all_goals
   simp at h
   subst h
   clear h1 t0
   go_enter Tryz.func90, Tryz.ntmps90
   go_wp2_with (first | (go_at_call 110; refine (arith_far _ _ _ _ _ (by decide) (by decide) rfl rfl rfl).mono ?_; rintro e w2 ⟨rfl, h2⟩))
   go_ret
   first | exact ⟨rfl, h2⟩ | exact ⟨rfl, Below.refl _ _⟩
 have b0 : (a1 == 0) = false := beq_eq_false_iff_ne.2 t0
 have b1 : (a1 == 32) = false := beq_eq_false_iff_ne.2 t1
 by_cases z : a0 = 0
 ·subst z
  simp at h
  subst h
  clear h1 t0 t1
  go_enter Tryz.func90, Tryz.ntmps90
  go_wp2
  go_ret
  exact ⟨rfl, Below.refl _ _⟩
 have bz : (a0 == 0) = false := beq_eq_false_iff_ne.2 z
 rw [if_neg z, if_neg t0, if_neg t1] at h
 simp at h
 subst h
 clear h1 t0 t1 z
 go_enter Tryz.func90, Tryz.ntmps90
 go_wp2
 go_ret
 exact ⟨rfl, Below.refl _ _⟩
def dec_whole.f (f3 f7 : Int) : Option Int :=
 if 0 ≤ f3 ∧ f3 < 8 then (if f7 = 0 then some (([35, 37, 38, 39, 40, 41, 43, 44] : List Int).getD f3.toNat 0) else if f7 = 32 then some (([36, 0, 0, 0, 0, 42, 0, 0] : List Int).getD f3.toNat 0) else if f7 = 1 then some (50 + f3) else some 0) else none
set_option maxRecDepth 100000 in
set_option maxHeartbeats 2000000 in
theorem dec_whole.calls (a0 a1 : Int) (r : Int) (w : World) (h : dec_whole.f a0 a1 = some r) :
  Calls Tryz.prog 91 #[.int .i64 a0, .int .i64 a1] w fun e w' => e = .returned (.int .i64 r) ∧ Below w.heap.size w w' := by
 unfold dec_whole.f at h
 by_cases h1 : 0 ≤ a0 ∧ a0 < 8
 case neg => rw [if_neg h1] at h; exact absurd h (by simp)
 rw [if_pos h1] at h
 by_cases t0 : a1 = 0
 ·subst t0
  rcases eight h1 with rfl | rfl | rfl | rfl | rfl | rfl | rfl | rfl
  all_goals
   simp at h
   subst h
   clear h1
   go_enter Tryz.func91, Tryz.ntmps91
   go_wp2_with (first | (go_at_call 110; refine (arith_near _ _ _ _ _ (by decide) (by decide) rfl rfl rfl).mono ?_; rintro e w2 ⟨rfl, h2⟩))
   go_ret
   exact ⟨rfl, h2⟩
 by_cases t1 : a1 = 32
 ·subst t1
  rcases eight h1 with rfl | rfl | rfl | rfl | rfl | rfl | rfl | rfl
  all_goals
   simp at h
   subst h
   clear h1 t0
   go_enter Tryz.func91, Tryz.ntmps91
   go_wp2_with (first | (go_at_call 110; refine (arith_far _ _ _ _ _ (by decide) (by decide) rfl rfl rfl).mono ?_; rintro e w2 ⟨rfl, h2⟩))
   go_ret
   exact ⟨rfl, h2⟩
 have b0 : (a1 == 0) = false := beq_eq_false_iff_ne.2 t0
 have b1 : (a1 == 32) = false := beq_eq_false_iff_ne.2 t1
 rw [if_neg t0, if_neg t1] at h
 by_cases t2 : a1 = 1
 ·subst t2
  simp at h
  subst h
  obtain ⟨p0, p1⟩ := h1
  clear t0 t1
  go_enter Tryz.func91, Tryz.ntmps91
  go_wp2
  go_ret
  exact ⟨rfl, Below.refl _ _⟩
 have b2 : (a1 == 1) = false := beq_eq_false_iff_ne.2 t2
 rw [if_neg t2] at h
 simp at h
 subst h
 clear h1 t0 t1 t2
 go_enter Tryz.func91, Tryz.ntmps91
 go_wp2
 go_ret
 exact ⟨rfl, Below.refl _ _⟩
def dec_half.f (f3 f7 : Int) : Option Int :=
 if 0 ≤ f3 ∧ f3 < 8 then (if f7 = 0 then some (([45, 47, 0, 0, 0, 48, 0, 0] : List Int).getD f3.toNat 0) else if f7 = 32 then some (([46, 0, 0, 0, 0, 49, 0, 0] : List Int).getD f3.toNat 0) else if f7 = 1 then some (([58, 0, 0, 0, 59, 60, 61, 62] : List Int).getD f3.toNat 0) else some 0) else none
theorem five_row (w : World) (t : TypeId) : Kd.C (Kd.int .i64) (w.alloc (.cells #[.int .i64 0, .int .i64 4, .int .i64 5, .int .i64 6, .int .i64 7] t)) (some ⟨w.heap.size, 0, none⟩) ([0, 4, 5, 6, 7] : List Int).length [0, 4, 5, 6, 7] :=
 Kd.C_of_reads (d := (0 : Int)) (h1 := fun _ => rfl) ⟨rfl, by decide, fun _ => ⟨_, rfl, fun j hj => by
  have : j = 0 ∨ j = 1 ∨ j = 2 ∨ j = 3 ∨ j = 4 := by simp at hj; omega
  rw [add_plain, World.cell?_alloc_new]
  rcases this with rfl | rfl | rfl | rfl | rfl <;> rfl⟩⟩
theorem pick_tab (f3 : Int) (h : 0 ≤ f3 ∧ f3 < 8) : QA.dec_pick.f 8 58 f3 [0, 4, 5, 6, 7] = some (([58, 0, 0, 0, 59, 60, 61, 62] : List Int).getD f3.toNat 0) := by
 rcases eight h with rfl | rfl | rfl | rfl | rfl | rfl | rfl | rfl <;> kernel_rfl
set_option maxRecDepth 100000 in
set_option maxHeartbeats 2000000 in
theorem dec_half.calls (a0 a1 : Int) (r : Int) (w : World) (h : dec_half.f a0 a1 = some r) :
  Calls Tryz.prog 92 #[.int .i64 a0, .int .i64 a1] w fun e w' => e = .returned (.int .i64 r) ∧ Below w.heap.size w w' := by
 unfold dec_half.f at h
 by_cases h1 : 0 ≤ a0 ∧ a0 < 8
 case neg => rw [if_neg h1] at h; exact absurd h (by simp)
 rw [if_pos h1] at h
 by_cases t0 : a1 = 0
 ·subst t0
  rcases eight h1 with rfl | rfl | rfl | rfl | rfl | rfl | rfl | rfl
  all_goals
   simp at h
   subst h
   clear h1
   go_enter Tryz.func92, Tryz.ntmps92
   go_wp2_with (first | (go_at_call 110; refine (arith_near _ _ _ _ _ (by decide) (by decide) rfl rfl rfl).mono ?_; rintro e w2 ⟨rfl, h2⟩))
   go_ret
   exact ⟨rfl, h2⟩
 by_cases t1 : a1 = 32
 ·subst t1
  rcases eight h1 with rfl | rfl | rfl | rfl | rfl | rfl | rfl | rfl
  all_goals
   simp at h
   subst h
   clear h1 t0
   go_enter Tryz.func92, Tryz.ntmps92
   go_wp2_with (first | (go_at_call 110; refine (arith_far _ _ _ _ _ (by decide) (by decide) rfl rfl rfl).mono ?_; rintro e w2 ⟨rfl, h2⟩))
   go_ret
   exact ⟨rfl, h2⟩
 have b0 : (a1 == 0) = false := beq_eq_false_iff_ne.2 t0
 have b1 : (a1 == 32) = false := beq_eq_false_iff_ne.2 t1
 rw [if_neg t0, if_neg t1] at h
 by_cases t2 : a1 = 1
 ·subst t2
  rw [if_pos rfl] at h
  obtain rfl := Option.some.inj h
  have HP := Aside0.mk (pick_tab a0 h1)
  generalize (([58, 0, 0, 0, 59, 60, 61, 62] : List Int).getD a0.toNat 0) = r at HP h
  clear h h1 t0 t1
  go_enter Tryz.func92, Tryz.ntmps92
  go_wp2_with (first | (go_at_call 88; refine (QA.dec_pick.calls 8 _ _ _ _ [0, 4, 5, 6, 7] _ _ (five_row _ _) (by decide) HP.out).mono ?_; rintro e w2 ⟨rfl, h2⟩))
  go_ret
  exact ⟨rfl, below_then ((Below.refl _ _).alloc (Nat.le_refl _) _) (by simp) h2.below⟩
 have b2 : (a1 == 1) = false := beq_eq_false_iff_ne.2 t2
 rw [if_neg t2] at h
 simp at h
 subst h
 clear h1 t0 t1 t2
 go_enter Tryz.func92, Tryz.ntmps92
 go_wp2
 go_ret
 exact ⟨rfl, Below.refl _ _⟩
theorem u64_wrap_range (b : Int) : 0 ≤ IntKind.u64.wrap b ∧ IntKind.u64.wrap b < 18446744073709551616 := by
 have : IntKind.u64.wrap b = b % 18446744073709551616 := rfl
 rw [this]; omega
theorem and31 (x : Int) (h0 : 0 ≤ x) (h1 : x < 18446744073709551616) : bits .and .u64 x 31 = x % 32 := by
 rw [u64_and x 31 h0 h1 (by decide) (by decide)]
 have : x.toNat &&& (31 : Int).toNat = x.toNat % 2 ^ 5 := Nat.and_two_pow_sub_one_eq_mod _ 5
 rw [this]
 omega
theorem wrap64_wrap32 (a : Int) : wrap64 (wrap32 a) = wrap32 a := by unfold wrap64 wrap32; omega
theorem half_any (a : Int) (w : World) : Calls Tryz.prog 100 #[.int .i64 a] w fun e w' => e = .returned (.int .i64 (wrap32 a)) ∧ w = w' := by
 go_enter Tryz.func100, Tryz.ntmps100
 go_wp2
 go_ret
 exact ⟨by simp [wrap64_wrap32], rfl⟩
def alu_short.f (op a b : Int) : Option Int :=
 if op = 45 ∨ op = 31 then some (wrap32 (wrap64 (a + b)))
 else if op = 46 then some (wrap32 (wrap64 (a - b)))
 else if op = 47 ∨ op = 32 then some (wrap32 (wrap64 (a * 2 ^ ((IntKind.u64.wrap b) % 32).toNat)))
 else if op = 48 ∨ op = 33 then some (wrap32 (a % 4294967296 / 2 ^ ((IntKind.u64.wrap b) % 32).toNat))
 else some (wrap32 a / 2 ^ ((IntKind.u64.wrap b) % 32).toNat)
set_option maxHeartbeats 1000000 in
theorem alu_short.calls (a0 a1 a2 r : Int) (w : World) (h : alu_short.f a0 a1 a2 = some r) :
  Calls Tryz.prog 74 #[.int .i64 a0, .int .i64 a1, .int .i64 a2] w fun e w' => e = .returned (.int .i64 r) ∧ Drawn0 w w' := by
 unfold alu_short.f at h
 obtain ⟨B, hB⟩ : ∃ B, IntKind.u64.wrap a2 = B := ⟨_, rfl⟩
 have hr := u64_wrap_range a2
 rw [hB] at hr h
 have hn := and31 B hr.1 hr.2
 obtain ⟨n, hN⟩ : ∃ n, B % 32 = n := ⟨_, rfl⟩
 have n0 : 0 ≤ n := by omega
 have n1 : n ≤ 31 := by omega
 rw [hN] at hn h
 clear hr hN
 by_cases c1 : a0 = 45 ∨ a0 = 31
 ·rw [if_pos c1] at h
  obtain rfl := Option.some.inj h
  rcases c1 with rfl | rfl
  all_goals
   clear h
   go_enter Tryz.func74, Tryz.ntmps74
   go_wp2_with (first | (go_at_call 100; refine (half_any _ _).mono ?_; rintro e w' ⟨rfl, rfl⟩))
   go_ret
   exact ⟨rfl, Drawn0.refl _⟩
 rw [if_neg c1] at h
 have d1 : (a0 == 45) = false := beq_eq_false_iff_ne.2 (by omega)
 have d2 : (a0 == 31) = false := beq_eq_false_iff_ne.2 (by omega)
 by_cases c2 : a0 = 46
 ·rw [if_pos c2] at h
  obtain rfl := Option.some.inj h
  subst c2
  clear h c1
  go_enter Tryz.func74, Tryz.ntmps74
  go_wp2_with (first | (go_at_call 100; refine (half_any _ _).mono ?_; rintro e w' ⟨rfl, rfl⟩))
  go_ret
  exact ⟨rfl, Drawn0.refl _⟩
 rw [if_neg c2] at h
 have d3 : (a0 == 46) = false := beq_eq_false_iff_ne.2 c2
 by_cases c3 : a0 = 47 ∨ a0 = 32
 ·rw [if_pos c3] at h
  obtain rfl := Option.some.inj h
  rcases c3 with rfl | rfl
  all_goals
   clear h c1 c2
   go_enter Tryz.func74, Tryz.ntmps74
   go_wp2_with (first | (go_at_call 100; refine (half_any _ _).mono ?_; rintro e w' ⟨rfl, rfl⟩))
   go_ret
   exact ⟨rfl, Drawn0.refl _⟩
 rw [if_neg c3] at h
 have d4 : (a0 == 47) = false := beq_eq_false_iff_ne.2 (by omega)
 have d5 : (a0 == 32) = false := beq_eq_false_iff_ne.2 (by omega)
 by_cases c4 : a0 = 48 ∨ a0 = 33
 ·rw [if_pos c4] at h
  obtain rfl := Option.some.inj h
  have q0 : 0 ≤ a1 % 4294967296 / 2 ^ n.toNat := Int.ediv_nonneg (by omega) (Int.le_of_lt (Int.pow_pos (by decide)))
  have q1 : a1 % 4294967296 / 2 ^ n.toNat ≤ 4294967295 := Int.le_trans (Int.ediv_le_self _ (by omega)) (by omega)
  rcases c4 with rfl | rfl
  all_goals
   clear h c1 c2 c3
   go_enter Tryz.func74, Tryz.ntmps74
   go_wp2_with (first | (go_at_call 100; refine (half_any _ _).mono ?_; rintro e w' ⟨rfl, rfl⟩))
   go_ret
   exact ⟨rfl, Drawn0.refl _⟩
 rw [if_neg c4] at h
 obtain rfl := Option.some.inj h
 have d6 : (a0 == 48) = false := beq_eq_false_iff_ne.2 (by omega)
 have d7 : (a0 == 33) = false := beq_eq_false_iff_ne.2 (by omega)
 clear h c1 c2 c3 c4
 go_enter Tryz.func74, Tryz.ntmps74
 go_wp2_with (first | (go_at_call 100; refine (half_any _ _).mono ?_; rintro e w' ⟨rfl, rfl⟩))
 go_ret
 exact ⟨rfl, Drawn0.refl _⟩
end Go.Proofs.YtfcniikbcjmlcaaGreatDoor
end
