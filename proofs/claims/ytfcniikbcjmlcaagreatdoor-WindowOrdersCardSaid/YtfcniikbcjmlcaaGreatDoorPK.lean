/- Part PK of the proof of spinnakerlaw19.WindowOrders: for every input the law returns true. -/
import Derived.Test.YtfcniikbcjmlcaaGreatDoorPB
import Derived.Test.YtfcniikbcjmlcaaGreatDoorPI
section
namespace Go.Proofs.YtfcniikbcjmlcaaGreatDoor
open Go.RowKit Go.Proofs.YtfcniikbcjmlcaaGreatDoorW.PrintWords Go.Proofs.YtfcniikbcjmlcaaGreatDoorW.PrintLast Go.Proofs.YtfcniikbcjmlcaaGreatDoorW.PrintMore
set_option linter.unusedVariables false
set_option linter.unusedSimpArgs false
def regG (R : Nat → Int) (E : Nat → Ent) (r : Int) (i : Nat) : Int × Bool := if r = 0 then (0, true) else regF R E r i
theorem Reg_any (w : World) (g B n cap : Nat) (R : Nat → Int) (pc : Nat → Int) (E : Nat → Ent) (hG : GOK w) (hw : WinAt w g B n cap R pc E) (hE : ∀ k, k < n → ∃ hb, Good (E k).ins hb) (hn : n ≤ 100)
  (i : Nat) (hi : i ≤ n) (r : Int) (h0 : 0 ≤ r) (h1 : r ≤ 31) :
  Calls Tryz.prog 12 #[.pointer (some { block := g, off := 0 }), .int .i64 (i : Int), .int .i64 r] w fun e w' => e = .returned (.tuple #[.int .i64 (regG R E r i).1, .bool (regG R E r i).2]) ∧ Below w.heap.size w w' := by
 by_cases hz : r = 0
 ·subst hz
  have e : regG R E 0 i = (0, true) := if_pos rfl
  rw [e]
  clear hG hw hE e
  go_enter Tryz.func12, Tryz.ntmps12
  go_wp2
  go_ret2
  exact ⟨by first | rfl | (simp; done), Below.refl _ _⟩
 have e : regG R E r i = regF R E r i := if_neg hz
 rw [e]
 exact Reg_calls w g B n cap R pc E hG hw hE hn i hi r (by omega) h1 _ _ rfl
abbrev insRow (I : Ins) : Array Value := #[.int .i64 I.op, .int .i64 I.rd, .int .i64 I.a, .int .i64 I.b, .int .i64 I.imm, .bool false, .bool false]
structure InsVar (W : World) (g : Nat) (I : Ins) : Prop where
 row : W.heap[g]? = some (.cells (insRow I) 31 (0, 0))
 lt : g < W.heap.size
theorem InsVar.cell {W : World} {g : Nat} {I : Ins} (h : InsVar W g I) (j : Nat) (v : Value) (hv : (insRow I)[j]? = some v) : W.cell? { block := g, off := j } = some v := by
 have h1 := h.row
 simp only [World.cell?, h1]
 exact hv
theorem InsVar.below {W W' : World} {g : Nat} {I : Ins} (h : InsVar W g I) (hb : Below W.heap.size W W') : InsVar W' g I := ⟨by rw [hb.block _ h.lt]; exact h.row, Nat.lt_of_lt_of_le h.lt hb.size⟩
theorem InsVar.new (w : World) (I : Ins) : InsVar (w.alloc (.cells (insRow I) 31)) w.heap.size I := ⟨heap_alloc_last w _, by simp [go_sem]⟩
set_option maxHeartbeats 4000000 in
set_option maxRecDepth 100000 in
theorem operands_calls (w : World) (g B n cap : Nat) (R : Nat → Int) (pc : Nat → Int) (E : Nat → Ent) (hG : GOK w) (hw : WinAt w g B n cap R pc E) (hE : ∀ k, k < n → ∃ hb, Good (E k).ins hb) (hn : n ≤ 100)
  (i : Nat) (hi : i < n) (hb : Bool) (hg : Good (E i).ins hb) (va vb : Int) (ka kb : Bool) (hA : regG R E (E i).ins.a i = (va, ka)) (hB : regG R E (E i).ins.b i = (vb, kb)) :
  Calls Tryz.prog 29 #[.pointer (some { block := g, off := 0 }), .int .i64 (i : Int)] w fun e w' => e = .returned (.tuple #[.int .i64 va, .int .i64 vb, .bool (ka && (kb || !hb))]) ∧ Below w.heap.size w w' := by
 have hsl := hw.sl
 have p0 : (0 : Int) ≤ (i : Int) := by omega
 have p1 : (i : Int) < (n : Int) := by omega
 have HI := Aside0.mk (hw.ins i hi)
 have cR : ∀ W, Below w.heap.size w W → ∀ r : Int, 0 ≤ r → r ≤ 31 → ∀ v k, regG R E r i = (v, k) → Calls Tryz.prog 12 #[.pointer (some { block := g, off := 0 }), .int .i64 (i : Int), .int .i64 r] W fun e w' => e = .returned (.tuple #[.int .i64 v, .bool k]) ∧ Below W.heap.size W w' := by
  intro W hd r h0 h1 v k hv
  have := Reg_any W g B n cap R pc E (GOK.below hd hG) (hw.below hd) hE hn i (Nat.le_of_lt hi) r h0 h1
  rw [hv] at this
  exact this
 have cA := fun W hd => cR W hd (E i).ins.a hg.a0 hg.a1 va ka hA
 have cB := fun W hd => cR W hd (E i).ins.b hg.b0 hg.b1 vb kb hB
 have cD := fun W hd => QB.isa_Reads.calls 99 _ _ _ _ _ _ _ _ _ W (GOK.below hd hG) hg.rds
 have F : ∀ W, w.alloc (.cells (insRow (E i).ins) 31) = W → W.cell? { block := w.heap.size, off := 2 } = some (.int .i64 (E i).ins.a) ∧ InsVar W w.heap.size (E i).ins ∧ Below w.heap.size w W := by
  rintro W rfl
  exact ⟨(InsVar.new w _).cell 2 _ rfl, InsVar.new w _, (Below.refl _ _).alloc (Nat.le_refl _) _⟩
 have F2 : ∀ W W', InsVar W w.heap.size (E i).ins → Below w.heap.size w W → Below W.heap.size W W' → W'.cell? { block := w.heap.size, off := 3 } = some (.int .i64 (E i).ins.b) ∧ InsVar W' w.heap.size (E i).ins ∧ Below w.heap.size w W' := fun W W' h1 h2 h3 =>
  ⟨(h1.below h3).cell 3 _ rfl, h1.below h3, below_then h2 h2.size h3⟩
 replace cA := Aside0.mk cA
 replace cB := Aside0.mk cB
 replace cD := Aside0.mk cD
 replace F := Aside0.mk F
 replace F2 := Aside0.mk F2
 clear hw hG hE hg cR hA hB
 cases ka <;> cases kb <;> cases hb
 all_goals
  go_enter Tryz.func29, Tryz.ntmps29
  go_wp2_with (first | (refine load_ins rfl rfl rfl HI.out ?_) | (go_at_call 12; (with_reducible refine (cA.out _ (F.out _ rfl).2.2).mono ?_); rintro e w1 ⟨rfl, hd⟩; obtain ⟨f1, f2, f3⟩ := F2.out _ _ (F.out _ rfl).2.1 (F.out _ rfl).2.2 hd; clear hd; replace f2 := Aside0.mk f2; replace f3 := Aside0.mk f3) | (go_at_call 12; (with_reducible refine (cB.out _ f3.out).mono ?_); rintro e w2 ⟨rfl, hd⟩; obtain ⟨g1, g2, g3⟩ := F2.out _ _ f2.out f3.out hd; clear hd; replace g2 := Aside0.mk g2; replace g3 := Aside0.mk g3) | (refine wpList_load_row rfl 31 _ rfl w.heap.size rfl 31 (insRow (E i).ins) (0, 0) _ g2.out.row Tryz.underlying31 rfl instr7 ?_) | (go_at_call 52; (with_reducible refine (cD.out _ g3.out).mono ?_); rintro e w3 ⟨rfl, hd⟩; have k3 := Aside0.mk (F2.out _ _ g2.out g3.out hd).2.2; clear hd))
  go_ret3
  exact ⟨by first | rfl | (simp; done), k3.out⟩
theorem at_in (w : World) (g B n cap i : Nat) (hi : i < n) (hsl : w.cell? { block := g, off := 32 } = some (.slice (some { block := B, off := 0 }) n cap)) :
  Calls Tryz.prog 40 #[.pointer (some { block := g, off := 0 }), .int .i64 (i : Int)] w fun e w' => e = .returned (.pointer (some { block := B, off := i * 18 })) ∧ w = w' := by
 have p0 : (0 : Int) ≤ (i : Int) := by omega
 have p1 : (i : Int) < (n : Int) := by omega
 have d0 : decide ((i : Int) < 0) = false := decide_eq_false (by omega)
 have d1 : decide ((n : Int) ≤ (i : Int)) = false := decide_eq_false (by omega)
 go_enter Tryz.func40, Tryz.ntmps40
 go_wp2
 go_ret
 exact ⟨by first | rfl | (simp; done), rfl⟩
set_option maxHeartbeats 4000000 in
set_option maxRecDepth 100000 in
theorem Can_in (w : World) (g B n cap : Nat) (R : Nat → Int) (pc : Nat → Int) (E : Nat → Ent) (hG : GOK w) (hw : WinAt w g B n cap R pc E) (hE : ∀ k, k < n → ∃ hb, Good (E k).ins hb) (hn : n ≤ 100)
  (i : Nat) (hi : i < n) (hb : Bool) (hg : Good (E i).ins hb) (va vb : Int) (ka kb : Bool) (hA : regG R E (E i).ins.a i = (va, ka)) (hB : regG R E (E i).ins.b i = (vb, kb)) :
  Calls Tryz.prog 28 #[.pointer (some { block := g, off := 0 }), .int .i64 (i : Int)] w fun e w' => e = .returned (.bool (!(E i).d && (ka && (kb || !hb)))) ∧ Below w.heap.size w w' := by
 have hat := at_in w g B n cap i hi hw.sl
 have c1 : w.cell? { block := B, off := i * 18 + 11 } = some (.int .i64 0) := hw.en i hi 11 _ rfl
 have c2 : w.cell? { block := B, off := i * 18 + 14 } = some (.bool (E i).d) := hw.en i hi 14 _ rfl
 have c3 : w.cell? { block := B, off := i * 18 + 1 } = some (.int .i64 (E i).ins.op) := hw.en i hi 1 _ rfl
 have hop := operands_calls w g B n cap R pc E hG hw hE hn i hi hb hg va vb ka kb hA hB
 have hac := fun w hG => QB.window_access.calls 99 _ _ w hG hg.acc
 have hre := fun w => QB.window_reckons.calls (E i).ins.op true w (by unfold QB.window_reckons.f; rw [if_pos hg.op0, decide_eq_true hg.op1])
 cases hd : (E i).d
 ·rw [hd] at c2
  have hacc := hac w hG
  have HR := Aside0.mk hre
  have HO := Aside0.mk (fun W (h : Below w.heap.size w W) => operands_calls W g B n cap R pc E (GOK.below h hG) (hw.below h) hE hn i hi hb hg va vb ka kb hA hB)
  generalize (ka && (kb || !hb)) = q at *
  clear hre hop hA hB hac hE hw hG hg
  go_enter Tryz.func28, Tryz.ntmps28
  go_wp2_with (first | (go_at_call 40; (with_reducible refine hat.mono ?_); rintro e w1 ⟨rfl, rfl⟩) | (go_at_call 49; (with_reducible refine hacc.mono ?_); rintro e w1 ⟨rfl, ha⟩; have HB1 := Aside0.mk ha.below; clear ha) | (go_at_call 32; (with_reducible refine (HR.out _).mono ?_); rintro e w2 ⟨rfl, ha⟩; have HB2 := Aside0.mk (below_then HB1.out HB1.out.size ha.below); clear ha) | (go_at_call 29; (with_reducible refine (HO.out _ HB2.out).mono ?_); rintro e w3 ⟨rfl, ha⟩; have HB3 := Aside0.mk (below_then HB2.out HB2.out.size ha); clear ha))
  go_ret
  exact ⟨by first | rfl | (simp; done), HB3.out⟩
 rw [hd] at c2
 clear hre hop hA hB hac hE hw hG hg
 go_enter Tryz.func28, Tryz.ntmps28
 go_wp2_with (first | (go_at_call 40; (with_reducible refine hat.mono ?_); rintro e w1 ⟨rfl, rfl⟩))
 go_ret
 exact ⟨by first | rfl | (simp; done), Below.refl _ _⟩
theorem value_calls (w : World) (B o : Nat) (v : Int) (u1 u2 u3 : Value) (h1 : w.cell? { block := B, off := o + 12 } = some u1) (h2 : w.cell? { block := B, off := o + 13 } = some u2) (h3 : w.cell? { block := B, off := o + 14 } = some u3)
    (f1 : w.frozen? { block := B, off := o + 12 } = false) (f2 : w.frozen? { block := B, off := o + 13 } = false) (f3 : w.frozen? { block := B, off := o + 14 } = false) :
    Calls Tryz.prog 25 #[.pointer (some { block := B, off := o }), .int .i64 v] w fun e w' => e = .returned (.tuple #[]) ∧ w' = ((w.setCell { block := B, off := o + 12 } (.int .i64 v)).setCell { block := B, off := o + 13 } (.bool true)).setCell { block := B, off := o + 14 } (.bool true) := by
  go_enter Tryz.func25, Tryz.ntmps25
  go_wp2
  exact bodyPost_end (v := .tuple #[]) (by simp [results, Tryz.results25]) rfl ⟨rfl, rfl⟩
def updE (E : Nat → Ent) (i : Nat) (v : Int) : Nat → Ent := fun k => if k = i then ⟨(E i).ins, v, true⟩ else E k
structure But (B : Nat) (w w' : World) : Prop where
  os : w'.os = w.os
  tape : w'.tape = w.tape
  output : w'.output = w.output
  size : w.heap.size ≤ w'.heap.size
  block : ∀ k, k < w.heap.size → k ≠ B → w'.heap[k]? = w.heap[k]?
theorem cell_set_ne (w : World) (B o : Nat) (u : Value) (b' o' : Nat) (h : b' ≠ B ∨ o' ≠ o) : (w.setCell { block := B, off := o } u).cell? { block := b', off := o' } = w.cell? { block := b', off := o' } :=
  World.cell?_setCell_other _ _ _ _ (by
    intro e
    have h1 : B = b' := congrArg Addr.block e
    have h2 : o = o' := congrArg Addr.off e
    omega)
abbrev set3 (w : World) (B o : Nat) (v : Int) : World := ((w.setCell { block := B, off := o + 12 } (.int .i64 v)).setCell { block := B, off := o + 13 } (.bool true)).setCell { block := B, off := o + 14 } (.bool true)
theorem set3_far (w : World) (B o : Nat) (v : Int) (b' o' : Nat) (h : b' ≠ B ∨ o' < o + 12 ∨ o + 14 < o') : (set3 w B o v).cell? { block := b', off := o' } = w.cell? { block := b', off := o' } := by
  unfold set3
  rw [cell_set_ne _ _ _ _ _ _ (by omega), cell_set_ne _ _ _ _ _ _ (by omega), cell_set_ne _ _ _ _ _ _ (by omega)]
theorem set3_size (w : World) (B o : Nat) (v : Int) : (set3 w B o v).heap.size = w.heap.size := by simp [set3, World.setCell]
theorem set3_frozen (w : World) (B o : Nat) (v : Int) (a : Addr) : (set3 w B o v).frozen? a = w.frozen? a := by simp [set3]
theorem set3_but (w : World) (B o : Nat) (v : Int) : But B w (set3 w B o v) where
  os := rfl
  tape := rfl
  output := rfl
  size := Nat.le_of_eq (set3_size w B o v).symm
  block k hk hB := by
    unfold set3
    rw [Below.heap_setCell _ _ _ _ hB, Below.heap_setCell _ _ _ _ hB, Below.heap_setCell _ _ _ _ hB]
theorem WinAt.done {W : World} {g B n cap : Nat} {R : Nat → Int} {pc : Nat → Int} {E : Nat → Ent} (h : WinAt W g B n cap R pc E) (i : Nat) (hi : i < n) (v : Int) : WinAt (set3 W B (i * 18) v) g B n cap R pc (updE E i v) where
  sl := by rw [set3_far _ _ _ _ _ _ (.inl h.ne)]; exact h.sl
  rg r hr := by rw [set3_far _ _ _ _ _ _ (.inl h.ne)]; exact h.rg r hr
  gB := by rw [set3_size]; exact h.gB
  BB := by rw [set3_size]; exact h.BB
  ne := h.ne
  nc := h.nc
  fg o := by rw [set3_frozen]; exact h.fg o
  fB o := by rw [set3_frozen]; exact h.fB o
  en k hk j u hj := by
    have hj18 : j < 18 := by
      have := (List.getElem?_eq_some_iff.1 hj).1
      simpa [entCells] using this
    by_cases hki : k = i
    · subst hki
      have e : updE E k v k = ⟨(E k).ins, v, true⟩ := if_pos rfl
      rw [e] at hj
      have c1 := h.en k hk 12 _ rfl
      have c2 := h.en k hk 13 _ rfl
      have c3 := h.en k hk 14 _ rfl
      by_cases j12 : j = 12
      · subst j12
        obtain rfl := Option.some.inj hj
        unfold set3
        rw [cell_set_ne _ _ _ _ _ _ (by omega), cell_set_ne _ _ _ _ _ _ (by omega)]
        exact World.cell?_setCell_same _ _ _ c1
      · by_cases j13 : j = 13
        · subst j13
          obtain rfl := Option.some.inj hj
          unfold set3
          rw [cell_set_ne _ _ _ _ _ _ (by omega)]
          exact World.cell?_setCell_same _ _ _ (by rw [cell_set_ne _ _ _ _ _ _ (by omega)]; exact c2)
        · by_cases j14 : j = 14
          · subst j14
            obtain rfl := Option.some.inj hj
            unfold set3
            exact World.cell?_setCell_same _ _ _ (by rw [cell_set_ne _ _ _ _ _ _ (by omega), cell_set_ne _ _ _ _ _ _ (by omega)]; exact c3)
          · rw [set3_far _ _ _ _ _ _ (by omega)]
            refine h.en k hk j u ?_
            rcases j with _ | _ | _ | _ | _ | _ | _ | _ | _ | _ | _ | _ | _ | _ | _ | _ | _ | _ | j
            all_goals first | exact hj | omega
    · have e : updE E i v k = E k := if_neg hki
      rw [e] at hj
      rw [set3_far _ _ _ _ _ _ (by omega)]
      exact h.en k hk j u hj
theorem But.of_below {B : Nat} {w w' : World} (h : Below w.heap.size w w') : But B w w' := ⟨h.os, h.tape, h.output, h.size, fun k hk _ => h.block k hk⟩
theorem But.trans {B : Nat} {w w1 w2 : World} (h : But B w w1) (k : But B w1 w2) : But B w w2 :=
 ⟨k.os.trans h.os, k.tape.trans h.tape, k.output.trans h.output, Nat.le_trans h.size k.size, fun i hi hB => (k.block i (Nat.lt_of_lt_of_le hi h.size) hB).trans (h.block i hi hB)⟩
abbrev imV (A0 A1 A2 : Option Addr) (n0 c0 n1 c1 n2 c2 : Nat) : Value := .agg #[.slice A0 n0 c0, .slice A1 n1 c1, .slice A2 n2 c2]
def canF (E : Nat → Ent) (i : Nat) (hb ka kb : Bool) : Bool := !(E i).d && (ka && (kb || !hb))
set_option maxHeartbeats 4000000 in
set_option maxRecDepth 100000 in
theorem Execute_no (w : World) (g B n cap : Nat) (R : Nat → Int) (pc : Nat → Int) (E : Nat → Ent) (hG : GOK w) (hw : WinAt w g B n cap R pc E) (hE : ∀ k, k < n → ∃ hb, Good (E k).ins hb) (hn : n ≤ 100)
  (i : Nat) (hi : i < n) (hb : Bool) (hg : Good (E i).ins hb) (va vb : Int) (ka kb : Bool) (hA : regG R E (E i).ins.a i = (va, ka)) (hB : regG R E (E i).ins.b i = (vb, kb)) (hc : canF E i hb ka kb = false) (A0 A1 A2 : Option Addr) (n0 c0 n1 c1 n2 c2 : Nat) :
  Calls Tryz.prog 8 #[.pointer (some { block := g, off := 0 }), imV A0 A1 A2 n0 c0 n1 c1 n2 c2, .int .i64 (i : Int)] w fun e w' => e = .returned (.bool false) ∧ Below w.heap.size w w' := by
 have hb1 : ∀ o, Below w.heap.size w (w.alloc o) := fun o => (Below.refl _ _).alloc (Nat.le_refl _) o
 have hC := fun W (h : Below w.heap.size w W) => Can_in W g B n cap R pc E (GOK.below h hG) (hw.below h) hE hn i hi hb hg va vb ka kb hA hB
 unfold canF at hc
 rw [hc] at hC
 replace hC := Aside0.mk hC
 clear hi hw hG hE hg hA hB hc
 go_enter Tryz.func8, Tryz.ntmps8
 go_wp2_with (first | (go_at_call 28; (with_reducible refine (hC.out _ (hb1 _)).mono ?_); rintro e w1 ⟨rfl, hd⟩; have HB := Aside0.mk (below_then (hb1 _) (hb1 _).size hd); clear hd))
 go_ret
 exact ⟨by first | rfl | (simp; done), HB.out⟩
set_option maxHeartbeats 4000000 in
set_option maxRecDepth 100000 in
theorem Execute_yes (w : World) (g B n cap : Nat) (R : Nat → Int) (pc : Nat → Int) (E : Nat → Ent) (hG : GOK w) (hw : WinAt w g B n cap R pc E) (hE : ∀ k, k < n → ∃ hb, Good (E k).ins hb) (hn : n ≤ 100)
  (i : Nat) (hi : i < n) (hb : Bool) (hg : Good (E i).ins hb) (va vb : Int) (ka kb : Bool) (hA : regG R E (E i).ins.a i = (va, ka)) (hB : regG R E (E i).ins.b i = (vb, kb)) (hc : canF E i hb ka kb = true) (ra : Is64 va) (rb : Is64 vb) (A0 A1 A2 : Option Addr) (n0 c0 n1 c1 n2 c2 : Nat) :
  Calls Tryz.prog 8 #[.pointer (some { block := g, off := 0 }), imV A0 A1 A2 n0 c0 n1 c1 n2 c2, .int .i64 (i : Int)] w fun e w' => e = .returned (.bool true) ∧ WinAt w' g B n cap R pc (updE E i (evI (E i).ins va vb)) ∧ But B w w' := by
 have hb1 : ∀ o, Below w.heap.size w (w.alloc o) := fun o => (Below.refl _ _).alloc (Nat.le_refl _) o
 have hC := fun W (h : Below w.heap.size w W) => Can_in W g B n cap R pc E (GOK.below h hG) (hw.below h) hE hn i hi hb hg va vb ka kb hA hB
 have hO := fun W (h : Below w.heap.size w W) => operands_calls W g B n cap R pc E (GOK.below h hG) (hw.below h) hE hn i hi hb hg va vb ka kb hA hB
 unfold canF at hc
 rw [hc] at hC
 have hc2 : (ka && (kb || !hb)) = true := by
  revert hc
  cases (E i).d <;> simp
 rw [hc2] at hO
 have p0 : (0 : Int) ≤ (i : Int) := by omega
 have p1 : (i : Int) < (n : Int) := by omega
 have o4 : ((E i).ins.op == 4) = false := beq_eq_false_iff_ne.2 (by have := hg.op0; omega)
 have obr : (decide (5 ≤ (E i).ins.op) && decide ((E i).ins.op ≤ 10)) = false := by have := hg.op0; simp; omega
 have hre := fun w => QB.window_reckons.calls (E i).ins.op true w (by unfold QB.window_reckons.f; rw [if_pos hg.op0, decide_eq_true hg.op1])
 have hrk := fun W (h : Below w.heap.size w W) => QB.window_reckon.calls 99 _ _ _ _ _ _ _ _ _ _ W (GOK.below h hG) (hg.rk va vb ra rb)
 have K1 : ∀ W W', Below w.heap.size w W → Below W.heap.size W W' → W'.cell? { block := g, off := 32 } = some (.slice (some { block := B, off := 0 }) n cap) ∧ W'.rangeAt B (i * 18 + 1) (insCells (E i).ins) ∧ Below w.heap.size w W' := fun W W' h1 h2 =>
  have h' := (hw.below h1).below h2
  ⟨h'.sl, h'.ins i hi, below_then h1 h1.size h2⟩
 have K2 : ∀ W, Below w.heap.size w W → InsVar (W.alloc (.cells (insRow (E i).ins) 31)) W.heap.size (E i).ins ∧ Below w.heap.size w (W.alloc (.cells (insRow (E i).ins) 31)) := fun W h => ⟨InsVar.new W _, h.alloc h.size _⟩
 have K3 : ∀ x W W', InsVar W x (E i).ins → Below w.heap.size w W → Below W.heap.size W W' → W'.cell? { block := x, off := 0 } = some (.int .i64 (E i).ins.op) ∧ InsVar W' x (E i).ins ∧ Below w.heap.size w W' := fun x W W' h1 h2 h3 =>
  ⟨(h1.below h3).cell 0 _ rfl, h1.below h3, below_then h2 h2.size h3⟩
 have K4 : ∀ W, Below w.heap.size w W → Calls Tryz.prog 25 #[.pointer (some { block := B, off := i * 18 }), .int .i64 (evI (E i).ins va vb)] W fun e w' => e = .returned (.tuple #[]) ∧ WinAt w' g B n cap R pc (updE E i (evI (E i).ins va vb)) ∧ But B w w' := fun W h =>
  have h' := hw.below h
  (value_calls W B (i * 18) _ _ _ _ (h'.en i hi 12 _ rfl) (h'.en i hi 13 _ rfl) (h'.en i hi 14 _ rfl) (h'.fB _) (h'.fB _) (h'.fB _)).mono fun e w' ⟨he, hw'⟩ => ⟨he, by rw [hw']; exact h'.done i hi _, by rw [hw']; exact (But.of_below h).trans (set3_but _ _ _ _)⟩
 replace hC := Aside0.mk hC
 replace hO := Aside0.mk hO
 replace hre := Aside0.mk hre
 replace hrk := Aside0.mk hrk
 replace K1 := Aside0.mk K1
 replace K2 := Aside0.mk K2
 replace K3 := Aside0.mk K3
 replace K4 := Aside0.mk K4
 clear hi hw hG hE hg hA hB hc hc2 ra rb
 generalize evI (E i).ins va vb = V at *
 go_enter Tryz.func8, Tryz.ntmps8
 go_wp2_with (first | (go_at_call 28; (with_reducible refine (hC.out _ (hb1 _)).mono ?_); rintro e w1 ⟨rfl, hd⟩; obtain ⟨a1, a2, a3⟩ := K1.out _ _ (hb1 _) hd; clear hd; replace a2 := Aside0.mk a2; replace a3 := Aside0.mk a3) | (refine load_ins rfl rfl rfl a2.out ?_) | (go_at_call 29; (with_reducible refine (hO.out _ (K2.out _ a3.out).2).mono ?_); rintro e w2 ⟨rfl, hd⟩; obtain ⟨b1, b2, b3⟩ := K3.out _ _ _ (K2.out _ a3.out).1 (K2.out _ a3.out).2 hd; clear hd; replace b2 := Aside0.mk b2; replace b3 := Aside0.mk b3) | (go_at_call 27; refine (Branch_any _ _).mono ?_; rintro e w' ⟨rfl, rfl⟩; rw [obr]) | (go_at_call 32; (with_reducible refine (hre.out _).mono ?_); rintro e w3 ⟨rfl, hd⟩; obtain ⟨d1, d2, d3⟩ := K3.out _ _ _ b2.out b3.out hd.below; clear hd; replace d2 := Aside0.mk d2; replace d3 := Aside0.mk d3) | (refine wpList_load_row rfl 31 _ rfl w1.heap.size rfl 31 (insRow (E i).ins) (0, 0) _ d2.out.row Tryz.underlying31 rfl instr7 ?_) | (go_at_call 33; (with_reducible refine (hrk.out _ d3.out).mono ?_); rintro e w4 ⟨rfl, hd⟩; have e3 := Aside0.mk (below_then d3.out d3.out.size hd); clear hd) | (go_at_call 25; (with_reducible refine (K4.out _ e3.out).mono ?_); rintro e w5 ⟨rfl, z1, z2⟩; replace z1 := Aside0.mk z1; replace z2 := Aside0.mk z2))
 go_ret
 exact ⟨by first | rfl | (simp; done), z1.out, z2.out⟩
end Go.Proofs.YtfcniikbcjmlcaaGreatDoor
end
