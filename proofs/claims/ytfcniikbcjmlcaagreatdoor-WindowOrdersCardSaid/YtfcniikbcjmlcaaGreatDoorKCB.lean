/- Part KCB of the proof of spinnakerlaw19.WindowOrders: for every input the law returns true. -/
import Derived.Deep.RegionLaw
import Derived.Test.YtfcniikbcjmlcaaGreatDoorKCA
import Derived.Test.YtfcniikbcjmlcaaGreatDoorPK
section
namespace Go.Proofs.YtfcniikbcjmlcaaGreatDoor
open Go.RowKit Go.Proofs.YtfcniikbcjmlcaaGreatDoorW.PrintWords Go.Proofs.YtfcniikbcjmlcaaGreatDoorW.PrintLast Go.Proofs.YtfcniikbcjmlcaaGreatDoorW.PrintMore
set_option linter.unusedVariables false
set_option linter.unusedSimpArgs false
set_option maxHeartbeats 4000000 in
set_option maxRecDepth 1000000 in
theorem xExecute_calls (w : World) (g B n cap : Nat) (R : Nat → Int) (pc : Nat → Int) (E : Nat → Ent) (hw : WinAt w g B n cap R pc E) (hE : ∀ k, k < n → ∃ hb, Good (E k).ins hb) (hn : n ≤ 100)
  (i : Nat) (hi : i < n) (hb : Bool) (hg : Good (E i).ins hb) (va vb : Int) (ka kb : Bool) (hA : regG R E (E i).ins.a i = (va, ka)) (hB : regG R E (E i).ins.b i = (vb, kb)) (ra : Is64 va) (rb : Is64 vb) (A0 A1 A2 : Option Addr) (n0 c0 n1 c1 n2 c2 : Nat) :
  Calls Tryz.prog 9 #[.pointer (some { block := g, off := 0 }), imV A0 A1 A2 n0 c0 n1 c1 n2 c2, .int .i64 (i : Int)] w fun e w' => (∃ v, e = .returned v) ∧ WinAt w' g B n cap R pc (updE E i (evI (E i).ins va vb)) ∧ But B w w' := by
 have hsl := hw.sl
 have gB := hw.gB
 have ne1 := hw.ne
 have ne2 := Ne.symm hw.ne
 have p0 : (0 : Int) ≤ (i : Int) := by omega
 have p1 : (i : Int) < (n : Int) := by omega
 have hb1 : ∀ o, Below w.heap.size w (w.alloc o) := fun o => (Below.refl _ _).alloc (Nat.le_refl _) o
 have hb2 : ∀ o o', Below w.heap.size w ((w.alloc o).alloc o') := fun o o' => (hb1 o).alloc (hb1 o).size o'
 have HI := Aside0.mk (fun o => (hw.below (hb1 o)).ins i hi)
 have cR : ∀ r : Int, 0 ≤ r → r ≤ 31 → ∀ v k, regG R E r i = (v, k) → ∀ W, Below w.heap.size w W → Calls Tryz.prog 35 #[.pointer (some { block := g, off := 0 }), .int .i64 (i : Int), .int .i64 r] W fun e w' => e = .returned (.tuple #[.int .i64 v, .bool k]) ∧ Below W.heap.size W w' := by
  intro r h0 h1 v k hv W hd
  have := xReg_any W g B n cap R pc E (hw.below hd) hE hn i (Nat.le_of_lt hi) r h0 h1
  rw [hv] at this
  exact this
 have cA := Aside0.mk (cR (E i).ins.a hg.a0 hg.a1 va ka hA)
 have cB := Aside0.mk (cR (E i).ins.b hg.b0 hg.b1 vb kb hB)
 have cAc := Aside0.mk (fun W => QB.spinnakerref19_Access.calls 99 _ _ W hg.racc)
 have o4 : ((E i).ins.op == 4) = false := beq_eq_false_iff_ne.2 (by have := hg.op0; omega)
 have F1 : ∀ o W W', W = (w.alloc o).alloc (.cells (insRow (E i).ins) 31) → Below W.heap.size W W' → W'.cell? { block := w.heap.size + 1, off := 3 } = some (.int .i64 (E i).ins.b) ∧ InsVar W' (w.heap.size + 1) (E i).ins ∧ Below w.heap.size w W' := by
  rintro o W W' rfl hd
  have v0 := InsVar.new (w.alloc o) (E i).ins
  have e : (w.alloc o).heap.size = w.heap.size + 1 := by simp [go_sem]
  rw [e] at v0
  exact ⟨(v0.below hd).cell 3 _ rfl, v0.below hd, below_then (hb2 _ _) (hb2 _ _).size hd⟩
 have F2 : ∀ W W', InsVar W (w.heap.size + 1) (E i).ins → Below w.heap.size w W → Below W.heap.size W W' →
   W'.cell? { block := w.heap.size + 1, off := 0 } = some (.int .i64 (E i).ins.op) ∧ W'.cell? { block := w.heap.size + 1, off := 4 } = some (.int .i64 (E i).ins.imm) ∧ W'.cell? { block := g, off := 32 } = some (.slice (some { block := B, off := 0 }) n cap) ∧ W'.cell? { block := B, off := i * 18 } = some (.int .i64 (pc i)) ∧ InsVar W' (w.heap.size + 1) (E i).ins ∧ Below w.heap.size w W' := by
  intro W W' h1 h2 h3
  have v := h1.below h3
  have b := below_then h2 h2.size h3
  have h' := hw.below b
  exact ⟨v.cell 0 _ rfl, v.cell 4 _ rfl, h'.sl, h'.en i hi 0 _ rfl, v, b⟩
 have F3 : ∀ W, Below w.heap.size w W → WinAt W g B n cap R pc E ∧ But B w W := fun W h => ⟨hw.below h, But.of_below h⟩
 replace F1 := Aside0.mk F1
 replace F2 := Aside0.mk F2
 replace F3 := Aside0.mk F3
 have hF : ∃ fm, QB.spinnakerref03_Form.f (E i).ins.op = some fm ∧ (fm == 4) = false ∧ (fm != 6) = !(decide (35 ≤ (E i).ins.op)) := by
  refine ⟨_, hg.rform, ?_⟩
  by_cases h1 : 35 ≤ (E i).ins.op
  ·simp [h1]
  rw [if_neg h1]
  by_cases h2 : (E i).ins.op = 28 ∨ (E i).ins.op = 29 ∨ (E i).ins.op = 30
  ·simp [h1, h2]
  rw [if_neg h2]
  by_cases h3 : (E i).ins.op = 32 ∨ (E i).ins.op = 33 ∨ (E i).ins.op = 34
  ·simp [h1, h3]
  simp [h1, h3]
 obtain ⟨fm, hfm, fm4, fm6⟩ := hF
 have cF := Aside0.mk (fun W => QB.spinnakerref03_Form.calls _ _ W hfm)
 have cE : ∀ b', b' = (if 35 ≤ (E i).ins.op then vb else (E i).ins.imm) → ∀ W, Calls Tryz.prog 39 #[.int .i64 (E i).ins.op, .int .i64 va, .int .i64 b'] W fun e w' => e = .returned (.int .i64 (evI (E i).ins va vb)) ∧ Below W.heap.size W w' := by
  rintro b' rfl W
  exact ref07_Eval.calls _ ⟨hg.op0, hg.op1⟩ va _ ra (by split; exact rb; exact hg.im) W
 generalize evI (E i).ins va vb = V at *
 clear hw hE hg hA hB cR hfm ra rb
 by_cases hR : 35 ≤ (E i).ins.op
 ·rw [if_pos hR] at cE
  rw [decide_eq_true hR, Bool.not_true] at fm6
  have cV := Aside0.mk (cE vb rfl)
  clear cE hR
  go_enter Tryz.func9, Tryz.ntmps9
  go_wp2_with (first | (refine load_ins rfl rfl rfl (HI.out _) ?_) | (go_at_call 35; (with_reducible refine (cA.out _ (hb2 _ _)).mono ?_); rintro e w' ⟨rfl, hd⟩; obtain ⟨f1, f2, f3⟩ := F1.out _ _ _ rfl hd; have HV := Aside0.mk f2; have HB := Aside0.mk f3; clear hd f2 f3) | (go_at_call 35; (with_reducible refine (cB.out _ HB.out).mono ?_); rintro e w' ⟨rfl, hd⟩; obtain ⟨f1, f2, f3, f4, f5, f6⟩ := F2.out _ _ HV.out HB.out hd; replace HV := Aside0.mk f5; replace HB := Aside0.mk f6; clear hd f5 f6) | (go_at_call 36; (with_reducible refine (cAc.out _).mono ?_); rintro e w' ⟨rfl, hd⟩; obtain ⟨f1, f2, f3, f4, f5, f6⟩ := F2.out _ _ HV.out HB.out hd.below; replace HV := Aside0.mk f5; replace HB := Aside0.mk f6; clear hd f5 f6) | (go_at_call 22; (with_reducible refine (cF.out _).mono ?_); rintro e w' ⟨rfl, hd⟩; obtain ⟨f1, f2, f3, f4, f5, f6⟩ := F2.out _ _ HV.out HB.out hd.below; replace HV := Aside0.mk f5; replace HB := Aside0.mk f6; clear hd f5 f6))
  go_region_law (first | (go_simp; go_at_call 39; (refine (cV.out _).mono ?_); rintro e w' ⟨rfl, hd⟩; obtain ⟨g1, g2, g3, g4, g5, g6⟩ := F2.out _ _ HV.out HB.out (below_then (Below.drew (Below.refl _ _)) (Nat.le_refl _) hd); replace HV := Aside0.mk g5; replace HB := Aside0.mk g6; clear hd g5 g6; have hx := F3.out _ HB.out; have s12 := hx.1.en i hi 12 _ rfl; have s13 := hx.1.en i hi 13 _ rfl; have s14 := hx.1.en i hi 14 _ rfl; have z12 := hx.1.fB (i * 18 + 12); have z13 := hx.1.fB (i * 18 + 13); have z14 := hx.1.fB (i * 18 + 14); replace hx := Aside0.mk hx))
  all_goals
   go_wp2
   exact bodyPost_ret (v := .tuple #[]) (by simp [results, Tryz.results9]) rfl ⟨⟨_, rfl⟩, hx.out.1.done i hi V, hx.out.2.trans (set3_but _ _ _ _)⟩
 rw [if_neg hR] at cE
 rw [decide_eq_false hR, Bool.not_false] at fm6
 have cV := Aside0.mk (cE (E i).ins.imm rfl)
 clear cE hR
 go_enter Tryz.func9, Tryz.ntmps9
 go_wp2_with (first | (refine load_ins rfl rfl rfl (HI.out _) ?_) | (go_at_call 35; (with_reducible refine (cA.out _ (hb2 _ _)).mono ?_); rintro e w' ⟨rfl, hd⟩; obtain ⟨f1, f2, f3⟩ := F1.out _ _ _ rfl hd; have HV := Aside0.mk f2; have HB := Aside0.mk f3; clear hd f2 f3) | (go_at_call 35; (with_reducible refine (cB.out _ HB.out).mono ?_); rintro e w' ⟨rfl, hd⟩; obtain ⟨f1, f2, f3, f4, f5, f6⟩ := F2.out _ _ HV.out HB.out hd; replace HV := Aside0.mk f5; replace HB := Aside0.mk f6; clear hd f5 f6) | (go_at_call 36; (with_reducible refine (cAc.out _).mono ?_); rintro e w' ⟨rfl, hd⟩; obtain ⟨f1, f2, f3, f4, f5, f6⟩ := F2.out _ _ HV.out HB.out hd.below; replace HV := Aside0.mk f5; replace HB := Aside0.mk f6; clear hd f5 f6) | (go_at_call 22; (with_reducible refine (cF.out _).mono ?_); rintro e w' ⟨rfl, hd⟩; obtain ⟨f1, f2, f3, f4, f5, f6⟩ := F2.out _ _ HV.out HB.out hd.below; replace HV := Aside0.mk f5; replace HB := Aside0.mk f6; clear hd f5 f6))
 go_region_law (first | (go_simp; go_at_call 39; (refine (cV.out _).mono ?_); rintro e w' ⟨rfl, hd⟩; obtain ⟨g1, g2, g3, g4, g5, g6⟩ := F2.out _ _ HV.out HB.out (below_then (Below.drew (Below.refl _ _)) (Nat.le_refl _) hd); replace HV := Aside0.mk g5; replace HB := Aside0.mk g6; clear hd g5 g6; have hx := F3.out _ HB.out; have s12 := hx.1.en i hi 12 _ rfl; have s13 := hx.1.en i hi 13 _ rfl; have s14 := hx.1.en i hi 14 _ rfl; have z12 := hx.1.fB (i * 18 + 12); have z13 := hx.1.fB (i * 18 + 13); have z14 := hx.1.fB (i * 18 + 14); replace hx := Aside0.mk hx))
 all_goals
  go_wp2
  exact bodyPost_ret (v := .tuple #[]) (by simp [results, Tryz.results9]) rfl ⟨⟨_, rfl⟩, hx.out.1.done i hi V, hx.out.2.trans (set3_but _ _ _ _)⟩
end Go.Proofs.YtfcniikbcjmlcaaGreatDoor
end
