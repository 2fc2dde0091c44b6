/- Part KCF of the proof of spinnakerlaw19.WindowOrders: for every input the law returns true. -/
import Derived.Test.YtfcniikbcjmlcaaGreatDoorKCD
section
namespace Go.Proofs.YtfcniikbcjmlcaaGreatDoor
open Go.RowKit Go.Proofs.YtfcniikbcjmlcaaGreatDoorW.PrintWords Go.Proofs.YtfcniikbcjmlcaaGreatDoorW.PrintLast Go.Proofs.YtfcniikbcjmlcaaGreatDoorW.PrintMore
set_option linter.unusedVariables false
set_option linter.unusedSimpArgs false
set_option maxHeartbeats 4000000 in
set_option maxRecDepth 1000000 in
theorem xRetire_other (w : World) (g B n cap : Nat) (R : Nat → Int) (pc : Nat → Int) (E : Nat → Ent) (hw : WinAt w g B n cap R pc E) (h0 : 0 < n) (hn : n ≤ 100) (hb : Bool) (hg : Good (E 0).ins hb) (hd : (E 0).d = true) (hz : ¬ (E 0).ins.rd = 0) :
  Calls Tryz.prog 11 #[.pointer (some { block := g, off := 0 })] w fun e w' => (∃ v, e = .returned v) ∧ (∃ B' cap', w.heap.size ≤ B' ∧ WinAt w' g B' (n - 1) cap' (retR R (E 0)) (fun k => pc (k + 1)) (fun k => E (k + 1))) ∧ But2 g B w w' := by
 obtain ⟨m, rfl⟩ : ∃ m, n = m + 1 := ⟨n - 1, by omega⟩
 have hm : m ≤ 100 := by omega
 obtain ⟨A, hA⟩ : ∃ A : Addr, (if cap = 1 then (some ⟨B, 0, none⟩ : Option Addr) else some ⟨B, 18, none⟩) = some A := by
  by_cases h : cap = 1
  ·exact ⟨_, if_pos h⟩
  exact ⟨_, if_neg h⟩
 have HAA := Aside0.mk hA
 have q1 : (1 : Int) ≤ (m : Int) + 1 := by omega
 have H0 : ∀ W, Below w.heap.size w W → W.cell? { block := g, off := 32 } = some (.slice (some { block := B, off := 0 }) (m + 1) cap) ∧ W.cell? { block := B, off := 14 } = some (.bool true) ∧ W.cell? { block := B, off := 11 } = some (.int .i64 0) ∧ Aside0 (W.rangeAt B 0 (entCells (pc 0) (E 0))) := by
  intro W hbW
  have h2 := (hw.below hbW).en 0 h0
  rw [Nat.zero_mul] at h2
  refine ⟨(hw.below hbW).sl, ?_, h2 11 _ rfl, ⟨h2⟩⟩
  have h3 := h2 14 _ rfl
  rw [hd] at h3
  exact h3
 have r0 := hg.rd0
 have r1 := hg.rd1
 have HMay := Aside0.mk (fun W => QB.spinnakerref03_May.calls 99 _ _ _ _ _ _ _ _ W hg.rmay)
 have HHas := Aside0.mk (fun W => QB.spinnakerref03_HasRd.calls 99 _ _ W hg.rhas)
 have KB : ∀ W0 W1, W0.heap[w.heap.size]? = some (.cells zeros18.toArray 47 (0, 0)) → Below w.heap.size w W0 → w.heap.size < W0.heap.size → W1.heap[W0.heap.size]? = some (.cells zeros18.toArray 47 (0, 0)) → Below W0.heap.size W0 W1 → W0.heap.size < W1.heap.size →
   xRetSt w (W1.setRow W0.heap.size (entRow (pc 0) (E 0))) W0.heap.size g B (m + 1) cap R pc E := fun W0 W1 a b c e f h =>
  xRetSt.begin hw a b c (Below.refl _ _) e f h
 have z0 : (((m : Int) + 1) == 0) = false := beq_eq_false_iff_ne.2 (by omega)
 have z1 : (0 : Int) < (m : Int) + 1 := by omega
 replace H0 := Aside0.mk H0
 replace KB := Aside0.mk KB
 clear hg hw hd
 have hR : retR R (E 0) = fun r => if r = (E 0).ins.rd.toNat then (E 0).v else R r := by funext r; exact if_neg hz
 rw [hR]
 have y0 : ((E 0).ins.rd != 0) = true := bne_iff_ne.2 hz
 have HQ : Aside0 (0 ≤ (E 0).ins.rd ∧ (E 0).ins.rd < 32) := ⟨r0, by omega⟩
 clear hz hR r0 r1
 go_enter Tryz.func11, Tryz.ntmps11
 go_wp2_with (first | (refine xnew_entry (w := w) rfl rfl ?_; intro W0 n0 n1 n2; obtain ⟨a0, a1, a2, a3⟩ := H0.out _ n1; replace n0 := Aside0.mk n0; replace n1 := Aside0.mk n1; replace n2 := Aside0.mk n2) | (refine xload_ent rfl rfl rfl a3.out ?_) | (refine xnew_entry (w := W0) rfl rfl ?_; intro W1 m0 m1 m2; replace m0 := Aside0.mk m0; replace m1 := Aside0.mk m1; replace m2 := Aside0.mk m2) | ((refine wpList_store_row rfl 47 _ _ rfl W0.heap.size (entRow (pc 0) (E 0)) rfl rfl 47 _ m0.out xentry18 rfl (by simp [Value.oneCell']) ?_); have s1 := KB.out _ _ n0.out n1.out n2.out m0.out m1.out m2.out; generalize W1.setRow W0.heap.size (entRow (pc 0) (E 0)) = w2 at s1 ⊢; generalize W0.heap.size = x5 at s1 ⊢; clear m0 m1 m2 n0 n1 n2 a0 a1 a2 a3; have hev := Aside0.mk s1.ev.ins; replace s1 := Aside0.mk s1) | (refine load_ins rfl rfl rfl hev.out ?_) | (go_at_call 5; (with_reducible refine (HMay.out _).mono ?_); rintro e w3 ⟨rfl, hd'⟩; have s2 := s1.out.below hd'; have c1 := s2.ev.cell 1 _ rfl; replace s2 := Aside0.mk s2; clear hd' s1 hev) | (go_at_call 15; (with_reducible refine (HHas.out _).mono ?_); rintro e w4 ⟨rfl, hd'⟩; have s3 := s2.out.below hd'.below; have c2 := s3.ev.cell 2 _ rfl;  replace s3 := Aside0.mk s3; clear hd' s2 c1))
 have hv := s3.out.ev.cell 12 _ rfl
 obtain ⟨q0, q2⟩ := HQ.out
 go_still_tail 9, (by kernel_rfl)
 change wpList _ _ _ _ _ w4.drew
 have s4 := s3.out.drew
 clear s3 hv c2
 generalize w4.drew = w5 at s4 ⊢
 have hrg := s4.win.rg (E 0).ins.rd.toNat (by omega)
 have hfr := s4.win.fg (E 0).ins.rd.toNat
 have s5 := s4.reg (E 0).ins.rd.toNat (by omega) (E 0).v
 clear s4
 refine wpList_store_int rfl 3 _ _ rfl g (E 0).ins.rd.toNat .i64 (E 0).v _ rfl rfl (by kernel_rfl) hrg hfr ?_
 clear hrg hfr
 generalize w5.setCell { block := g, off := (E 0).ins.rd.toNat } (.int .i64 (E 0).v) = w4 at s5 ⊢
 have s3 := s5
 have hsl := s3.win.sl
 have hgl := s3.win.gB
 clear s5 q0 q2
 replace s3 := Aside0.mk s3
 simp only [Act.put]
 go_wp2_with (first | (refine xappend (W := w4.alloc (.cells #[] 47)) (base := w4.heap.size) rfl rfl rfl rfl (s3.out.win.below ((Below.refl _ _).alloc (Nat.le_refl _) _)) HAA.out hm (heap_alloc_last w4 _) (Nat.le_refl _) ?_; intro B2 cap2 w6 hp; have s6 := s3.out.below (below_then ((Below.refl _ _).alloc (Nat.le_refl _) _) ((Below.refl _ _).alloc (Nat.le_refl _) _).size hp.bel); have hu := s6.win.sl; have hfg := s6.win.fg 32; have hf := s6.fin hp (Nat.lt_trans s3.out.lt s3.out.ev.lt) (entRow (pc 0) (E 0)); replace s6 := Aside0.mk s6; replace hf := Aside0.mk hf; clear hp hsl hgl) | (refine wpList_load_row rfl 47 _ rfl x5 rfl 47 (entRow (pc 0) (E 0)) (0, 0) _ (s6.out.ev' _) Tryz.underlying47 rfl xentry18 ?_) | (refine wpList_store_row rfl 47 _ _ rfl w.heap.size (entRow (pc 0) (E 0)) rfl rfl 47 _ (s6.out.row' _) xentry18 rfl (by simp [Value.oneCell']) ?_))
 refine bodyPost_ret (v := .tuple #[.agg (entRow (pc 0) (E 0)), .bool true]) ?h1 rfl ?h3
 case h1 => exact results_cell_tmp rfl _ _ w.heap.size 47 (entRow (pc 0) (E 0)) (0, 0) _ _ rfl rfl (setRow_heap _ _ _ _ _ _ (s6.out.row' _)) Tryz.underlying47 rfl xentry18
 case h3 => exact ⟨⟨_, rfl⟩, ⟨B2, cap2, hf.out.1, hf.out.2.1⟩, hf.out.2.2⟩
theorem xRetire_calls (w : World) (g B n cap : Nat) (R : Nat → Int) (pc : Nat → Int) (E : Nat → Ent) (hw : WinAt w g B n cap R pc E) (h0 : 0 < n) (hn : n ≤ 100) (hb : Bool) (hg : Good (E 0).ins hb) (hd : (E 0).d = true) :
  Calls Tryz.prog 11 #[.pointer (some { block := g, off := 0 })] w fun e w' => (∃ v, e = .returned v) ∧ (∃ B' cap', w.heap.size ≤ B' ∧ WinAt w' g B' (n - 1) cap' (retR R (E 0)) (fun k => pc (k + 1)) (fun k => E (k + 1))) ∧ But2 g B w w' := by
 by_cases hz : (E 0).ins.rd = 0
 ·exact xRetire_zero w g B n cap R pc E hw h0 hn hb hg hd hz
 exact xRetire_other w g B n cap R pc E hw h0 hn hb hg hd hz
end Go.Proofs.YtfcniikbcjmlcaaGreatDoor
end
