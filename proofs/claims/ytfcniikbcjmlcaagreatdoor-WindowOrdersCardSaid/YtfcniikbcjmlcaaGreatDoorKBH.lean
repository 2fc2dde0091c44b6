/- Part KBH of the proof of spinnakerlaw19.WindowOrders: for every input the law returns true. -/
import Derived.Test.YtfcniikbcjmlcaaGreatDoorPL
section
namespace Go.Proofs.YtfcniikbcjmlcaaGreatDoor
open Go.RowKit Go.Proofs.YtfcniikbcjmlcaaGreatDoorW.PrintWords Go.Proofs.YtfcniikbcjmlcaaGreatDoorW.PrintLast Go.Proofs.YtfcniikbcjmlcaaGreatDoorW.PrintMore
set_option linter.unusedVariables false
set_option linter.unusedSimpArgs false
set_option maxHeartbeats 4000000 in
set_option maxRecDepth 1000000 in
theorem Retire_calls (w : World) (g B n cap : Nat) (R : Nat → Int) (pc : Nat → Int) (E : Nat → Ent) (hG : GOK w) (hw : WinAt w g B n cap R pc E) (h0 : 0 < n) (hn : n ≤ 100) (hcap : cap ≤ 9223372036854775807) (hb : Bool) (hg : Good (E 0).ins hb) (hd : (E 0).d = true) :
  Calls Tryz.prog 10 #[.pointer (some { block := g, off := 0 })] w fun e w' => (∃ v, e = .returned v) ∧ WinAt w' g B (n - 1) cap (retR R (E 0)) (fun k => pc (k + 1)) (fun k => E (k + 1)) ∧ But2 g B w w' := by
 have hat : ∀ W, Below w.heap.size w W → Calls Tryz.prog 40 #[.pointer (some { block := g, off := 0 }), .int .i64 0] W fun e w' => e = .returned (.pointer (some { block := B, off := 0 })) ∧ (w'.cell? { block := B, off := 14 } = some (.bool true) ∧ w'.cell? { block := B, off := 11 } = some (.int .i64 0) ∧ Aside0 (w'.rangeAt B 0 (entCells (pc 0) (E 0))) ∧ Aside0 (Below W.heap.size W w')) := by
  intro W hbW
  have h1 := at_in W g B n cap 0 h0 (hw.below hbW).sl
  refine h1.mono ?_
  rintro e w' ⟨rfl, rfl⟩
  have h2 := (hw.below hbW).en 0 h0
  rw [Nat.zero_mul] at h2
  refine ⟨by rw [Nat.zero_mul], ?_, h2 11 _ rfl, ⟨h2⟩, ⟨Below.refl _ _⟩⟩
  have h3 := h2 14 _ rfl
  rw [hd] at h3
  exact h3
 have HA := Aside0.mk hat
 have hwr := hg.wr
 have r0 := hg.rd0
 have r1 := hg.rd1
 -- behind Writes
 have cW : ∀ W x5, RetSt w W x5 g B n cap R pc E → Below w.heap.size w W → ∀ x y, (if (E 0).ins.rd = 0 then 0 else (E 0).ins.rd, !((E 0).ins.rd == 0)) = (x, y) →
   Calls Tryz.prog 41 #[.agg #[.int .i64 (E 0).ins.op, .int .i64 (E 0).ins.rd, .int .i64 (E 0).ins.a, .int .i64 (E 0).ins.b, .int .i64 (E 0).ins.imm, .bool false, .bool false]] W fun e w' => e = .returned (.tuple #[.int .i64 x, .bool y]) ∧ RetSt w w' x5 g B n cap R pc E := by
  intro W x5 s hbW x y hxy
  exact (QB.isa_Writes.calls 99 _ _ _ _ _ _ _ _ _ _ (GOK.below hbW hG) (hwr.trans (congrArg some hxy))).mono fun e w' ⟨he, hd'⟩ => ⟨he, s.below hd'⟩
 have KB : ∀ W0 w1 W1, W0.heap[w.heap.size]? = some (.cells zeros18.toArray 45 (0, 0)) → Below w.heap.size w W0 → w.heap.size < W0.heap.size → Below W0.heap.size W0 w1 → W1.heap[w1.heap.size]? = some (.cells zeros18.toArray 45 (0, 0)) → Below w1.heap.size w1 W1 → w1.heap.size < W1.heap.size →
   RetSt w (W1.setRow w1.heap.size (entRow (pc 0) (E 0))) w1.heap.size g B n cap R pc E ∧ Below w.heap.size w (W1.setRow w1.heap.size (entRow (pc 0) (E 0))) := fun W0 w1 W1 a b c d e f h =>
  ⟨RetSt.begin hw a b c d e f h, Below.setRow (below_then (below_then b b.size d) (below_then b b.size d).size f) _ (below_then b b.size d).size _⟩
 replace cW := Aside0.mk cW
 replace KB := Aside0.mk KB
 clear hat hG hg hwr hw hd
 by_cases hz : (E 0).ins.rd = 0
 ·have hR : retR R (E 0) = R := by funext r; exact if_pos hz
  rw [hR]
  have hxy : Aside0 ((if (E 0).ins.rd = 0 then 0 else (E 0).ins.rd, !((E 0).ins.rd == 0)) = (0, false)) := ⟨by rw [if_pos hz]; simp [hz]⟩
  clear hz hR r0 r1
  go_enter Tryz.func10, Tryz.ntmps10
  go_wp2_with (first | (refine new_entry (w := w) rfl rfl ?_; intro W0 n0 n1 n2; replace n0 := Aside0.mk n0; replace n1 := Aside0.mk n1; replace n2 := Aside0.mk n2) | (go_at_call 40; (refine (HA.out _ n1.out).mono ?_); rintro e w1 ⟨rfl, a1, a2, a3, a4⟩) | (refine load_ent rfl rfl rfl a3.out ?_) | (refine new_entry (w := w1) rfl rfl ?_; intro W1 m0 m1 m2; replace m0 := Aside0.mk m0; replace m1 := Aside0.mk m1; replace m2 := Aside0.mk m2) | ((refine wpList_store_row rfl 45 _ _ rfl w1.heap.size (entRow (pc 0) (E 0)) rfl rfl 45 _ m0.out entry18 rfl (by simp [Value.oneCell']) ?_); obtain ⟨s1, b1⟩ := KB.out _ _ _ n0.out n1.out n2.out a4.out m0.out m1.out m2.out; generalize W1.setRow w1.heap.size (entRow (pc 0) (E 0)) = w2 at s1 b1 ⊢; generalize w1.heap.size = x5 at s1 ⊢; clear m0 m1 m2 n0 n1 n2 a1 a2 a3 a4; have hev := Aside0.mk s1.ev.ins; replace s1 := Aside0.mk s1; replace b1 := Aside0.mk b1) | (refine load_ins rfl rfl rfl hev.out ?_) | (go_at_call 41; (with_reducible refine (cW.out _ _ s1.out b1.out _ _ hxy.out).mono ?_); rintro e w3 ⟨rfl, s2⟩; have hsl := s2.win.sl; replace s2 := Aside0.mk s2; clear s1 b1 hev) | (go_at_call 42; (with_reducible refine (s2.out.delete h0 hn hcap).mono ?_); rintro e w4 ⟨rfl, s3⟩; obtain ⟨u0, hu0⟩ := Option.isSome_iff_exists.1 s3.sl; have hfg := s3.fg 32; replace s3 := Aside0.mk s3; clear hsl) | (refine wpList_load_row rfl 45 _ rfl x5 rfl 45 (entRow (pc 0) (E 0)) (0, 0) _ (s3.out.ev' _) Tryz.underlying45 rfl entry18 ?_) | (refine wpList_store_row rfl 45 _ _ rfl w.heap.size (entRow (pc 0) (E 0)) rfl rfl 45 _ (s3.out.row' _) entry18 rfl (by simp [Value.oneCell']) ?_))
  refine bodyPost_ret (v := .tuple #[.agg (entRow (pc 0) (E 0)), .bool true]) ?h1 rfl ?h3
  case h1 => exact results_cell_tmp rfl _ _ w.heap.size 45 (entRow (pc 0) (E 0)) (0, 0) _ _ rfl rfl (setRow_heap _ _ _ _ _ _ (s3.out.row' _)) Tryz.underlying45 rfl entry18
  case h3 => exact ⟨⟨_, rfl⟩, s3.out.fin _⟩
 have hR : retR R (E 0) = fun r => if r = (E 0).ins.rd.toNat then (E 0).v else R r := by funext r; exact if_neg hz
 rw [hR]
 have hxy : Aside0 ((if (E 0).ins.rd = 0 then 0 else (E 0).ins.rd, !((E 0).ins.rd == 0)) = ((E 0).ins.rd, true)) := ⟨by rw [if_neg hz]; simp [hz]⟩
 have HQ : Aside0 (0 ≤ (E 0).ins.rd ∧ (E 0).ins.rd < 32) := ⟨r0, by omega⟩
 clear hz hR r0 r1
 go_enter Tryz.func10, Tryz.ntmps10
 go_wp2_with (first | (refine new_entry (w := w) rfl rfl ?_; intro W0 n0 n1 n2; replace n0 := Aside0.mk n0; replace n1 := Aside0.mk n1; replace n2 := Aside0.mk n2) | (go_at_call 40; (refine (HA.out _ n1.out).mono ?_); rintro e w1 ⟨rfl, a1, a2, a3, a4⟩) | (refine load_ent rfl rfl rfl a3.out ?_) | (refine new_entry (w := w1) rfl rfl ?_; intro W1 m0 m1 m2; replace m0 := Aside0.mk m0; replace m1 := Aside0.mk m1; replace m2 := Aside0.mk m2) | ((refine wpList_store_row rfl 45 _ _ rfl w1.heap.size (entRow (pc 0) (E 0)) rfl rfl 45 _ m0.out entry18 rfl (by simp [Value.oneCell']) ?_); obtain ⟨s1, b1⟩ := KB.out _ _ _ n0.out n1.out n2.out a4.out m0.out m1.out m2.out; generalize W1.setRow w1.heap.size (entRow (pc 0) (E 0)) = w2 at s1 b1 ⊢; generalize w1.heap.size = x5 at s1 ⊢; clear m0 m1 m2 n0 n1 n2 a1 a2 a3 a4; have hev := Aside0.mk s1.ev.ins; replace s1 := Aside0.mk s1; replace b1 := Aside0.mk b1) | (refine load_ins rfl rfl rfl hev.out ?_) | (go_at_call 41; (with_reducible refine (cW.out _ _ s1.out b1.out _ _ hxy.out).mono ?_); rintro e w3 ⟨rfl, s2⟩;  replace s2 := Aside0.mk s2; clear s1 b1 hev))
 have hv := s2.out.ev.cell 12 _ rfl
 obtain ⟨q0, q1⟩ := HQ.out
 go_still_tail 7, (by kernel_rfl)
 change wpList _ _ _ _ _ w3.drew
 have s4 := s2.out.drew
 clear s2 hv
 generalize w3.drew = w5 at s4 ⊢
 have hrg := s4.win.rg (E 0).ins.rd.toNat (by omega)
 have hfr := s4.win.fg (E 0).ins.rd.toNat
 have s5 := s4.reg (E 0).ins.rd.toNat (by omega) (E 0).v
 have hsl := s5.win.sl
 replace s5 := Aside0.mk s5
 clear s4
 go_wp2_with (first | (go_at_call 42; (with_reducible refine (s5.out.delete h0 hn hcap).mono ?_); rintro e w4 ⟨rfl, s3⟩; obtain ⟨u0, hu0⟩ := Option.isSome_iff_exists.1 s3.sl; have hfg := s3.fg 32; replace s3 := Aside0.mk s3; clear hsl) | (refine wpList_load_row rfl 45 _ rfl x5 rfl 45 (entRow (pc 0) (E 0)) (0, 0) _ (s3.out.ev' _) Tryz.underlying45 rfl entry18 ?_) | (refine wpList_store_row rfl 45 _ _ rfl w.heap.size (entRow (pc 0) (E 0)) rfl rfl 45 _ (s3.out.row' _) entry18 rfl (by simp [Value.oneCell']) ?_))
 refine bodyPost_ret (v := .tuple #[.agg (entRow (pc 0) (E 0)), .bool true]) ?h1 rfl ?h3
 case h1 => exact results_cell_tmp rfl _ _ w.heap.size 45 (entRow (pc 0) (E 0)) (0, 0) _ _ rfl rfl (setRow_heap _ _ _ _ _ _ (s3.out.row' _)) Tryz.underlying45 rfl entry18
 case h3 => exact ⟨⟨_, rfl⟩, s3.out.fin _⟩
end Go.Proofs.YtfcniikbcjmlcaaGreatDoor
end
