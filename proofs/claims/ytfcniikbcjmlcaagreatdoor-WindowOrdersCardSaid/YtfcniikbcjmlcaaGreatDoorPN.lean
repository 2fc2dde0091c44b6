/- Part PN of the proof of spinnakerlaw19.WindowOrders: for every input the law returns true. -/
import Derived.ChangeKeysEq
import Derived.Deep.AppendLies
import Derived.Deep.DeepCutAuto
import Derived.Great.BuildSlice
import Derived.Stop.BytesEq
import Derived.Test.YtfcniikbcjmlcaaGreatDoorKCB
import Derived.Test.YtfcniikbcjmlcaaGreatDoorKCF
import Derived.Test.YtfcniikbcjmlcaaGreatDoorPL
import Derived.Test.YtfcniikbcjmlcaaGreatDoorPM
section
namespace Go.Proofs.YtfcniikbcjmlcaaGreatDoor
open Go.RowKit Go.Proofs.YtfcniikbcjmlcaaGreatDoorW.PrintWords Go.Proofs.YtfcniikbcjmlcaaGreatDoorW.PrintLast Go.Proofs.YtfcniikbcjmlcaaGreatDoorW.PrintMore
set_option linter.unusedVariables false
set_option linter.unusedSimpArgs false
abbrev regArr (R : Nat → Int) : Array Value := #[.int .i64 (R 0), .int .i64 (R 1), .int .i64 (R 2), .int .i64 (R 3), .int .i64 (R 4), .int .i64 (R 5), .int .i64 (R 6), .int .i64 (R 7), .int .i64 (R 8), .int .i64 (R 9), .int .i64 (R 10), .int .i64 (R 11), .int .i64 (R 12), .int .i64 (R 13), .int .i64 (R 14), .int .i64 (R 15), .int .i64 (R 16), .int .i64 (R 17), .int .i64 (R 18), .int .i64 (R 19), .int .i64 (R 20), .int .i64 (R 21), .int .i64 (R 22), .int .i64 (R 23), .int .i64 (R 24), .int .i64 (R 25), .int .i64 (R 26), .int .i64 (R 27), .int .i64 (R 28), .int .i64 (R 29), .int .i64 (R 30), .int .i64 (R 31)]
abbrev insCellsB (I : Ins) (q1 q2 : Bool) : List Value := [.int .i64 I.op, .int .i64 I.rd, .int .i64 I.a, .int .i64 I.b, .int .i64 I.imm, .bool q1, .bool q2]
def codes (c : Nat → Int) (k : Nat) : List Value := (List.range k).map fun j => Value.int .u32 (c j)
theorem codes_succ (c : Nat → Int) (k : Nat) : codes c k ++ [Value.int .u32 (c k)] = codes c (k + 1) := by simp [codes, List.range_succ]
structure L1 (w W : World) (rb bm : Nat) (R : Nat → Int) (v ent : Value) (k : Nat) (c : Nat → Int) : Prop where
  bel : Below w.heap.size w W
  im : W.heap[bm]? = some (.cells #[v, .slice none 0 0, ent] 28 (0, 0))
  rg : W.heap[rb]? = some (.cells (regArr R) 23 (0, 0))
  ow : W.ownsRow w.heap.size 32 1 v k (codes c k)
  bv : ∀ b, v.ownBlock = some b → b ≠ bm ∧ b ≠ rb
  lm : w.heap.size ≤ bm
  lr : w.heap.size ≤ rb
  ne : rb ≠ bm
theorem L1.below {w W W' : World} {rb bm : Nat} {R : Nat → Int} {v ent : Value} {k : Nat} {c : Nat → Int} (s : L1 w W rb bm R v ent k c) (h : Below W.heap.size W W') : L1 w W' rb bm R v ent k c :=
  { s with
    bel := below_then s.bel s.bel.size h
    im := by rw [h.block _ (blk_lt s.im)]; exact s.im
    rg := by rw [h.block _ (blk_lt s.rg)]; exact s.rg
    ow := s.ow.kept (row := none) ⟨h.os, h.tape, h.output, h.size, fun k hk _ => h.block k hk⟩ (by cases v.ownBlock <;> simp) }
theorem cell_row {W : World} {b : Nat} {cs : Array Value} {t : TypeId} (h : W.heap[b]? = some (.cells cs t (0, 0))) (j : Nat) (u : Value) (hu : cs[j]? = some u) : W.cell? { block := b, off := j } = some u := by
  simp only [World.cell?, h]
  exact hu
theorem frozen_row {W : World} {b : Nat} {cs : Array Value} {t : TypeId} (h : W.heap[b]? = some (.cells cs t (0, 0))) (j : Nat) : W.frozen? { block := b, off := j } = false := by
  simp [World.frozen?, h]
structure L1a (w W : World) (rb bm : Nat) (R : Nat → Int) (v v' ent : Value) (k : Nat) (c : Nat → Int) : Prop where
  bel : Below w.heap.size w W
  im : W.heap[bm]? = some (.cells #[v, .slice none 0 0, ent] 28 (0, 0))
  rg : W.heap[rb]? = some (.cells (regArr R) 23 (0, 0))
  ow : W.ownsRow w.heap.size 32 1 v' (k + 1) (codes c (k + 1))
  bv : ∀ b, v'.ownBlock = some b → b ≠ bm ∧ b ≠ rb
theorem below_grown {w W W' : World} {v : Value} {e : TypeId} {size n : Nat} {xs : List Value} (h : Below w.heap.size w W) (ow : W.ownsRow w.heap.size e size v n xs) (hg : W.grownBy W' v.ownBlock) : Below w.heap.size w W' :=
  ⟨hg.os.trans h.os, hg.tape.trans h.tape, hg.output.trans h.output, Nat.le_trans h.size hg.size, fun i hi => (hg.block i (Nat.lt_of_lt_of_le hi h.size) (fun he => by have := (ow.lt i he.symm).1; omega)).trans (h.block i hi)⟩
theorem L1.app {w W W' : World} {rb bm : Nat} {R : Nat → Int} {v ent : Value} {k : Nat} {c : Nat → Int} (s : L1 w W rb bm R v ent k c) {g cap : Nat} (hown : W'.ownsRow w.heap.size 32 1 (.slice (some ⟨g, 0, none⟩) (k + 1) cap) (k + 1) (codes c k ++ [Value.int .u32 (c k)]))
    (hg : W.grownBy W' v.ownBlock) (hat : v.ownBlock = some g ∨ g = W.heap.size) : L1a w W' rb bm R v (.slice (some ⟨g, 0, none⟩) (k + 1) cap) ent k c where
  bel := below_grown s.bel s.ow hg
  im := by rw [hg.block _ (blk_lt s.im) (fun he => (s.bv _ he.symm).1 rfl)]; exact s.im
  rg := by rw [hg.block _ (blk_lt s.rg) (fun he => (s.bv _ he.symm).2 rfl)]; exact s.rg
  ow := by rw [codes_succ] at hown; exact hown
  bv := by
    intro b hb
    have hb' : g = b := by simpa [Value.ownBlock] using hb
    subst hb'
    rcases hat with h | h
    · exact s.bv _ h
    · have h1 := blk_lt s.im
      have h2 := blk_lt s.rg
      omega
theorem L1a.store {w W : World} {rb bm : Nat} {R : Nat → Int} {v v' ent : Value} {k : Nat} {c : Nat → Int} (s : L1a w W rb bm R v v' ent k c) (lm : w.heap.size ≤ bm) (lr : w.heap.size ≤ rb) (ne : rb ≠ bm) : L1 w (W.setCell { block := bm, off := 0 } v') rb bm R v' ent (k + 1) c where
  bel := s.bel.setCell lm v'
  im := heap_setCell_same W bm 0 _ _ v' s.im
  rg := by rw [Below.heap_setCell _ _ _ _ ne]; exact s.rg
  ow := by
    refine s.ow.kept (row := some bm) ⟨rfl, rfl, rfl, by simp [World.setCell], fun k hk hne => Below.heap_setCell _ _ _ _ (fun he => hne (by rw [he]))⟩ ?_
    rcases hv : v'.ownBlock with _ | b
    · exact .inl rfl
    · exact .inr (fun he => (s.bv b hv).1 (by simpa using he))
  bv := s.bv
  lm := lm
  lr := lr
  ne := ne
theorem u32_info : ∃ i0, Tryz.prog.info? 32 = some i0 ∧ i0.zero = some (.int .u32 0) ∧ i0.size = 1 ∧ i0.bytes = 4 := by
  have h1 : (Tryz.prog.info? 32).map (fun i => (i.zero, i.size, i.bytes)) = some (some (.int .u32 0), 1, 4) := by kernel_rfl
  cases hi : Tryz.prog.info? 32 with
  | none => rw [hi] at h1; cases h1
  | some i =>
    rw [hi] at h1
    simp only [Option.map_some, Option.some.injEq, Prod.mk.injEq] at h1
    exact ⟨i, rfl, h1.1, h1.2.1, h1.2.2⟩
theorem step_app_word {ops : Array Oper} {o : Oper} {a : Act} {w W : World} {K : Act → World → Prop} {Q : Exit → Act → World → Prop} {F : Prop} {rb bm b : Nat} {R : Nat → Int} {v ent : Value} {k : Nat} {c : Nat → Int} {s x : Operand}
    (hg : o.guard = none) (ho : o.op = .call { callee := .builtin .append, args := #[s, x], argTypes := #[26, 26] }) (hk : k ≤ 100) (hs : a.eval s = v) (st : L1 w W rb bm R v ent k c)
    (hx : a.eval x = .slice (some ⟨b, 0, none⟩) 1 1) (hb : W.heap[b]? = some (.cells #[.int .u32 (c k)] 32 (0, 0)))
    (h : ∀ g cap W', L1a w W' rb bm R v (.slice (some ⟨g, 0, none⟩) (k + 1) cap) ent k c → K (a.put o.dst (.slice (some ⟨g, 0, none⟩) (k + 1) cap)) W') : if Region.wanted o (yielded ops a.tmps) = true then Oper.wp Tryz.prog o a W K Q else F := by
  obtain ⟨i0, hi, hz, h1, hby⟩ := u32_info
  refine step_append_lies W hg s x 26 ho w.heap.size 32 i0 (.int .u32 0) 1 4 Tryz.underlying26 hi hz h1 hby rfl (by decide) v k (codes c k) hs st.ow ⟨b, 0, none⟩ 1 1 [.int .u32 (c k)] hx rfl ?_ ?_ (by decide) (by simp only [maxLen]; omega) (by omega) st.bel.size _ rfl ?_
  · intro j u hj
    rcases j with _ | j
    · have e : (⟨b, 0, none⟩ : Addr).add 0 = ⟨b, 0, none⟩ := by simp [Addr.add]
      rw [e]
      exact cell_row hb 0 _ hj
    · simp at hj
  · intro u hu
    simp at hu
    subst hu
    rfl
  · intro g cap W' hown hgr hat _
    exact h _ _ _ (st.app hown hgr hat)
theorem at_outA (w : World) (g n cap : Nat) (A : Option Addr) (i : Int) (hi : i < 0 ∨ (n : Int) ≤ i) (hsl : w.cell? { block := g, off := 32 } = some (.slice A n cap)) :
  Calls Tryz.prog 40 #[.pointer (some { block := g, off := 0 }), .int .i64 i] w fun e w' => e = .returned (.pointer none) ∧ w = w' := by
 by_cases h : i < 0
 ·have d0 : decide (i < 0) = true := decide_eq_true h
  clear hi h
  go_enter Tryz.func40, Tryz.ntmps40
  go_wp2
  go_ret
  exact ⟨by first | rfl | (simp; done), rfl⟩
 have d0 : decide (i < 0) = false := decide_eq_false h
 have d1 : decide ((n : Int) ≤ i) = true := decide_eq_true (by omega)
 clear hi h
 go_enter Tryz.func40, Tryz.ntmps40
 go_wp2
 go_ret
 exact ⟨by first | rfl | (simp; done), rfl⟩
theorem Can_outA (w : World) (g n cap : Nat) (A : Option Addr) (i : Int) (hi : i < 0 ∨ (n : Int) ≤ i) (hsl : w.cell? { block := g, off := 32 } = some (.slice A n cap)) :
  Calls Tryz.prog 28 #[.pointer (some { block := g, off := 0 }), .int .i64 i] w fun e w' => e = .returned (.bool false) ∧ Below w.heap.size w w' := by
 have hat := at_outA w g n cap A i hi hsl
 clear hi
 go_enter Tryz.func28, Tryz.ntmps28
 go_wp2_with (first | (go_at_call 40; (with_reducible refine hat.mono ?_); rintro e w1 ⟨rfl, rfl⟩))
 go_ret
 exact ⟨by first | rfl | (simp; done), Below.refl _ _⟩
theorem Execute_outA (w : World) (g n cap : Nat) (A : Option Addr) (hg : g < w.heap.size) (hsl : w.cell? { block := g, off := 32 } = some (.slice A n cap)) (i : Int) (hi : i < 0 ∨ (n : Int) ≤ i) (A0 A1 A2 : Option Addr) (n0 c0 n1 c1 n2 c2 : Nat) :
  Calls Tryz.prog 8 #[.pointer (some { block := g, off := 0 }), imV A0 A1 A2 n0 c0 n1 c1 n2 c2, .int .i64 i] w fun e w' => e = .returned (.bool false) ∧ Below w.heap.size w w' := by
 have hb1 : ∀ o, Below w.heap.size w (w.alloc o) := fun o => (Below.refl _ _).alloc (Nat.le_refl _) o
 have hC := Aside0.mk (fun W (h : Below w.heap.size w W) => Can_outA W g n cap A i hi (by rw [h.cell (by exact hg)]; exact hsl))
 clear hi hsl hg
 go_enter Tryz.func8, Tryz.ntmps8
 go_wp2_with (first | (go_at_call 28; (with_reducible refine (hC.out _ (hb1 _)).mono ?_); rintro e w1 ⟨rfl, hd⟩; have HB := Aside0.mk (below_then (hb1 _) (hb1 _).size hd); clear hd))
 go_ret
 exact ⟨by first | rfl | (simp; done), HB.out⟩
theorem WinAt.kept {W W' : World} {g B n cap : Nat} {R : Nat → Int} {pc : Nat → Int} {E : Nat → Ent} (h : WinAt W g B n cap R pc E) (kg : W'.heap[g]? = W.heap[g]?) (kB : W'.heap[B]? = W.heap[B]?) (ks : W.heap.size ≤ W'.heap.size) : WinAt W' g B n cap R pc E :=
 ⟨by rw [cell_of_heap kg]; exact h.sl, fun r hr => by rw [cell_of_heap kg]; exact h.rg r hr, fun k hk j v hj => by rw [cell_of_heap kB]; exact h.en k hk j v hj, Nat.lt_of_lt_of_le h.gB ks, Nat.lt_of_lt_of_le h.BB ks, h.ne, h.nc, fun o => by rw [frozen_of_heap kg]; exact h.fg o, fun o => by rw [frozen_of_heap kB]; exact h.fB o⟩
structure WinQ (q : Prop) (W : World) (g B n : Nat) (R : Nat → Int) (pc : Nat → Int) (E : Nat → Ent) : Prop where
 rg : ∀ r, r < 32 → W.cell? { block := g, off := r } = some (.int .i64 (R r))
 lt : g < W.heap.size
 fg : ∀ o, W.frozen? { block := g, off := o } = false
 sl : ∃ A cap, W.cell? { block := g, off := 32 } = some (.slice A n cap)
 win : 0 < n → ∃ cap, (q → cap ≤ 9223372036854775807) ∧ WinAt W g B n cap R pc E
theorem WinQ.of_win {q : Prop} {W : World} {g B n cap : Nat} {R : Nat → Int} {pc : Nat → Int} {E : Nat → Ent} (h : WinAt W g B n cap R pc E) (hc : q → cap ≤ 9223372036854775807) : WinQ q W g B n R pc E := ⟨h.rg, h.gB, h.fg, ⟨_, _, h.sl⟩, fun _ => ⟨cap, hc, h⟩⟩
theorem WinQ.kept {q : Prop} {W W' : World} {g B n : Nat} {R : Nat → Int} {pc : Nat → Int} {E : Nat → Ent} (h : WinQ q W g B n R pc E) (kg : W'.heap[g]? = W.heap[g]?) (kB : B < W.heap.size → W'.heap[B]? = W.heap[B]?) (ks : W.heap.size ≤ W'.heap.size) : WinQ q W' g B n R pc E :=
 ⟨fun r hr => by rw [cell_of_heap kg]; exact h.rg r hr, Nat.lt_of_lt_of_le h.lt ks, fun o => by rw [frozen_of_heap kg]; exact h.fg o, by obtain ⟨A, c, hs⟩ := h.sl; exact ⟨A, c, by rw [cell_of_heap kg]; exact hs⟩, fun h0 => by obtain ⟨cap, hc, hw⟩ := h.win h0; exact ⟨cap, hc, hw.kept kg (kB hw.BB) ks⟩⟩
theorem WinQ.congr {q : Prop} {W : World} {g B n : Nat} {R : Nat → Int} {pc : Nat → Int} {E E2 : Nat → Ent} (h : WinQ q W g B n R pc E) (he : ∀ k, k < n → E k = E2 k) : WinQ q W g B n R pc E2 :=
 ⟨h.rg, h.lt, h.fg, h.sl, fun h0 => by obtain ⟨cap, hc, hw⟩ := h.win h0; exact ⟨cap, hc, hw.congr he⟩⟩
structure LSt (w W : World) (bm g x B B' : Nat) (cs : Array Value) (n : Nat) (R R' : Nat → Int) (pc : Nat → Int) (E E' : Nat → Ent) : Prop where
 bel : Below w.heap.size w W
 im : W.heap[bm]? = some (.cells cs 28 (0, 0))
 win : WinQ True W g B n R pc E
 xwin : WinQ False W x B' n R' pc E'
 lm : w.heap.size ≤ bm
 lg : w.heap.size ≤ g
 lx : w.heap.size ≤ x
 lB : w.heap.size ≤ B
 lB' : w.heap.size ≤ B'
 n1 : bm ≠ g
 n2 : bm ≠ x
 n3 : bm ≠ B
 n4 : bm ≠ B'
 n5 : g ≠ x
 n6 : g ≠ B
 n7 : g ≠ B'
 n8 : x ≠ B
 n9 : x ≠ B'
 n10 : B ≠ B'
theorem LSt.below {w W W' : World} {bm g x B B' : Nat} {cs : Array Value} {n : Nat} {R R' : Nat → Int} {pc : Nat → Int} {E E' : Nat → Ent} (s : LSt w W bm g x B B' cs n R R' pc E E') (h : Below W.heap.size W W') : LSt w W' bm g x B B' cs n R R' pc E E' :=
 { s with
  bel := below_then s.bel s.bel.size h
  im := by rw [h.block _ (blk_lt s.im)]; exact s.im
  win := s.win.kept (h.block _ s.win.lt) (fun hb => h.block _ hb) h.size
  xwin := s.xwin.kept (h.block _ s.xwin.lt) (fun hb => h.block _ hb) h.size }
theorem below_but {w W W' : World} {B : Nat} (h : Below w.heap.size w W) (hB : w.heap.size ≤ B) (k : But B W W') : Below w.heap.size w W' :=
 ⟨k.os.trans h.os, k.tape.trans h.tape, k.output.trans h.output, Nat.le_trans h.size k.size, fun i hi => (k.block i (Nat.lt_of_lt_of_le hi h.size) (by omega)).trans (h.block i hi)⟩
theorem below_but2 {w W W' : World} {g B : Nat} (h : Below w.heap.size w W) (hg : w.heap.size ≤ g) (hB : w.heap.size ≤ B) (k : But2 g B W W') : Below w.heap.size w W' :=
 ⟨k.os.trans h.os, k.tape.trans h.tape, k.output.trans h.output, Nat.le_trans h.size k.size, fun i hi => (k.block i (Nat.lt_of_lt_of_le hi h.size) (by omega) (by omega)).trans (h.block i hi)⟩
structure LawI (I : Nat → Ins) (R0 : Nat → Int) (n : Nat) : Prop where
 good : ∀ k, k < n → Good (I k) (decide (35 ≤ (I k).op))
 reg : ∀ r, Is64 (R0 r)
 len : n ≤ 12
theorem LSt.exec {w W : World} {bm g x B B' n : Nat} {R' : Nat → Int} {pc : Nat → Int} {E E' : Nat → Ent} {I : Nat → Ins} {R0 : Nat → Int} (A0 A1 A2 : Option Addr) (n0 c0 n1 c1 n2 c2 : Nat) (hG : GOK w) (hI : LawI I R0 n)
  (s : LSt w W bm g x B B' #[.slice A0 n0 c0, .slice A1 n1 c1, .slice A2 n2 c2] n R0 R' pc E E') (hv : Inv I R0 n E) (i : Int) :
  Calls Tryz.prog 8 #[.pointer (some { block := g, off := 0 }), imV A0 A1 A2 n0 c0 n1 c1 n2 c2, .int .i64 i] W fun e w' => (∃ b, e = .returned (.bool b)) ∧ ∃ E2, LSt w w' bm g x B B' #[.slice A0 n0 c0, .slice A1 n1 c1, .slice A2 n2 c2] n R0 R' pc E2 E' ∧ Inv I R0 n E2 ∧ (∀ k, k < n → (E k).d = true → (E2 k).d = true) ∧ (∀ j : Nat, i = j → j < n → (∀ k, k < j → (E k).d = true) → (E2 j).d = true) := by
 have hG' := GOK.below s.bel hG
 by_cases hr : 0 ≤ i ∧ i < n
 ·obtain ⟨j, rfl⟩ : ∃ j : Nat, i = j := ⟨i.toNat, by omega⟩
  have hj : j < n := by omega
  obtain ⟨cap, hcap, hw⟩ := s.win.win (by omega)
  have hE : ∀ k, k < n → ∃ hb, Good (E k).ins hb := fun k hk => ⟨_, by rw [(hv k hk).1]; exact hI.good k hk⟩
  have hg : Good (E j).ins (decide (35 ≤ (I j).op)) := by rw [(hv j hj).1]; exact hI.good j hj
  have hn := hI.len
  have hrd : ∀ k, k < n → 0 ≤ (I k).rd := fun k hk => (hI.good k hk).rd0
  have hij := (hv j hj).1
  have ha := (hI.good j hj).a0
  have hb := (hI.good j hj).b0
  have va := regG_is64 hv hrd hI.reg (I j).a ha j (by omega)
  have vb := regG_is64 hv hrd hI.reg (I j).b hb j (by omega)
  cases hc : canF E j (decide (35 ≤ (I j).op)) (regG R0 E (E j).ins.a j).2 (regG R0 E (E j).ins.b j).2
  ·refine (Execute_no W g B n cap R0 pc E hG' hw hE (by omega) j hj _ hg (regG R0 E (E j).ins.a j).1 (regG R0 E (E j).ins.b j).1 (regG R0 E (E j).ins.a j).2 (regG R0 E (E j).ins.b j).2 rfl rfl hc A0 A1 A2 n0 c0 n1 c1 n2 c2).mono ?_
   rintro e w' ⟨rfl, hd⟩
   refine ⟨⟨_, rfl⟩, E, s.below hd, hv, fun k _ h => h, fun j' hjj _ hall => ?_⟩
   obtain rfl : j = j' := by omega
   unfold canF at hc
   rw [regG_all _ j hall, regG_all _ j hall] at hc
   simpa using hc
  refine (Execute_yes W g B n cap R0 pc E hG' hw hE (by omega) j hj _ hg (regG R0 E (E j).ins.a j).1 (regG R0 E (E j).ins.b j).1 (regG R0 E (E j).ins.a j).2 (regG R0 E (E j).ins.b j).2 rfl rfl hc (by rw [hij]; exact va) (by rw [hij]; exact vb) A0 A1 A2 n0 c0 n1 c1 n2 c2).mono ?_
  rintro e w' ⟨rfl, hw', hbut⟩
  have hval : evI (E j).ins (regG R0 E (E j).ins.a j).1 (regG R0 E (E j).ins.b j).1 = seqV I R0 j := by
   rw [hij]
   refine exec_val hv hrd j hj ha hb ?_
   unfold canF at hc
   rw [hij] at hc
   revert hc
   cases (E j).d <;> simp
  refine ⟨⟨_, rfl⟩, _, { s with bel := below_but s.bel s.lB hbut, im := ?_, win := WinQ.of_win hw' hcap, xwin := ?_ }, inv_upd hv j hj _ hval, fun k _ h => ?_, fun j' hjj _ _ => ?_⟩
  ·rw [hbut.block _ (blk_lt s.im) s.n3]; exact s.im
  ·exact s.xwin.kept (hbut.block _ s.xwin.lt s.n8) (fun hb => hbut.block _ hb (Ne.symm s.n10)) hbut.size
  ·unfold updE
   split
   ·rfl
   exact h
  obtain rfl : j = j' := by omega
  unfold updE
  rw [if_pos rfl]
 obtain ⟨A, cap, hsl⟩ := s.win.sl
 refine (Execute_outA W g n cap A s.win.lt hsl i (by omega) A0 A1 A2 n0 c0 n1 c1 n2 c2).mono ?_
 rintro e w' ⟨rfl, hd⟩
 exact ⟨⟨_, rfl⟩, E, s.below hd, hv, fun k _ h => h, fun j hj hl _ => absurd hj (by omega)⟩
theorem LSt.xexec {w W : World} {bm g x B B' n : Nat} {R : Nat → Int} {pc : Nat → Int} {E : Nat → Ent} {I : Nat → Ins} {R0 : Nat → Int} (A0 A1 A2 : Option Addr) (n0 c0 n1 c1 n2 c2 : Nat) (hI : LawI I R0 n) (j : Nat) (hj : j < n)
  (s : LSt w W bm g x B B' #[.slice A0 n0 c0, .slice A1 n1 c1, .slice A2 n2 c2] n R R0 pc E (seqE I R0 j)) :
  Calls Tryz.prog 9 #[.pointer (some { block := x, off := 0 }), imV A0 A1 A2 n0 c0 n1 c1 n2 c2, .int .i64 (j : Int)] W fun e w' => (∃ v, e = .returned v) ∧ LSt w w' bm g x B B' #[.slice A0 n0 c0, .slice A1 n1 c1, .slice A2 n2 c2] n R R0 pc E (seqE I R0 (j + 1)) := by
 obtain ⟨cap, hcap, hw⟩ := s.xwin.win (by omega)
 have hv := seqE_inv I R0 n j
 have hE : ∀ k, k < n → ∃ hb, Good ((seqE I R0 j) k).ins hb := fun k hk => ⟨_, by rw [(hv k hk).1]; exact hI.good k hk⟩
 have hg : Good ((seqE I R0 j) j).ins (decide (35 ≤ (I j).op)) := by rw [(hv j hj).1]; exact hI.good j hj
 have hn := hI.len
 have hrd : ∀ k, k < n → 0 ≤ (I k).rd := fun k hk => (hI.good k hk).rd0
 have hij := (hv j hj).1
 have ha := (hI.good j hj).a0
 have hb := (hI.good j hj).b0
 have va := regG_is64 hv hrd hI.reg (I j).a ha j (by omega)
 have vb := regG_is64 hv hrd hI.reg (I j).b hb j (by omega)
 have hall : ∀ k, k < j → ((seqE I R0 j) k).d = true := fun k hk => by unfold seqE; rw [if_pos hk]
 refine (xExecute_calls W x B' n cap R0 pc (seqE I R0 j) hw hE (by omega) j hj _ hg (regG R0 (seqE I R0 j) ((seqE I R0 j) j).ins.a j).1 (regG R0 (seqE I R0 j) ((seqE I R0 j) j).ins.b j).1 (regG R0 (seqE I R0 j) ((seqE I R0 j) j).ins.a j).2 (regG R0 (seqE I R0 j) ((seqE I R0 j) j).ins.b j).2 rfl rfl (by rw [hij]; exact va) (by rw [hij]; exact vb) A0 A1 A2 n0 c0 n1 c1 n2 c2).mono ?_
 rintro e w' ⟨he, hw', hbut⟩
 have hval : evI ((seqE I R0 j) j).ins (regG R0 (seqE I R0 j) ((seqE I R0 j) j).ins.a j).1 (regG R0 (seqE I R0 j) ((seqE I R0 j) j).ins.b j).1 = seqV I R0 j := by
  rw [hij]
  refine exec_val hv hrd j hj ha hb ?_
  rw [regG_all _ j hall, regG_all _ j hall]
  rfl
 rw [hval, seqE_upd] at hw'
 refine ⟨he, { s with bel := below_but s.bel s.lB' hbut, im := ?_, win := ?_, xwin := WinQ.of_win hw' hcap }⟩
 ·rw [hbut.block _ (blk_lt s.im) s.n4]; exact s.im
 exact s.win.kept (hbut.block _ s.win.lt s.n7) (fun hb => hbut.block _ hb s.n10) hbut.size
def pcs (j : Nat) : Nat → Int := fun k => 65536 + 4 * ((j + k : Nat) : Int)
theorem pcs_succ (j : Nat) : (fun k => pcs j (k + 1)) = pcs (j + 1) := by funext k; unfold pcs; omega
def doneF (I : Nat → Ins) (R0 : Nat → Int) (j : Nat) : Nat → Ent := fun k => doneE I R0 (j + k)
theorem doneF_succ (I : Nat → Ins) (R0 : Nat → Int) (j : Nat) : (fun k => doneF I R0 j (k + 1)) = doneF I R0 (j + 1) := by funext k; unfold doneF; rw [show j + (k + 1) = j + 1 + k by omega]
theorem LSt.retire {w W : World} {bm g x B B' n : Nat} {cs : Array Value} {R' : Nat → Int} {E' : Nat → Ent} {I : Nat → Ins} {R0 : Nat → Int} (hG : GOK w) (hI : LawI I R0 n) (j : Nat) (hj : j < n)
  (s : LSt w W bm g x B B' cs (n - j) (seqR I R0 j) R' (pcs j) (doneF I R0 j) E') :
  Calls Tryz.prog 10 #[.pointer (some { block := g, off := 0 })] W fun e w' => (∃ v, e = .returned v) ∧ WinQ True w' g B (n - j - 1) (seqR I R0 (j + 1)) (pcs (j + 1)) (doneF I R0 (j + 1)) ∧ WinQ False w' x B' (n - j) R' (pcs j) E' ∧ But2 g B W w' := by
 obtain ⟨cap, hcap, hw⟩ := s.win.win (by omega)
 have hn := hI.len
 refine (Retire_calls W g B (n - j) cap (seqR I R0 j) (pcs j) (doneF I R0 j) (GOK.below s.bel hG) hw (by omega) (by omega) (hcap trivial) _ (hI.good (j + 0) (by omega)) rfl).mono ?_
 rintro e w' ⟨he, hw', hbut⟩
 refine ⟨he, ?_, s.xwin.kept (hbut.block _ s.xwin.lt (Ne.symm s.n5) s.n8) (fun hb => hbut.block _ hb (Ne.symm s.n7) (Ne.symm s.n10)) hbut.size, hbut⟩
 have e1 : retR (seqR I R0 j) (doneF I R0 j 0) = seqR I R0 (j + 1) := rfl
 rw [e1, pcs_succ, doneF_succ] at hw'
 exact WinQ.of_win hw' hcap
theorem LSt.xretire {w W : World} {bm g x B B' n : Nat} {cs : Array Value} {R : Nat → Int} {pc : Nat → Int} {E : Nat → Ent} {I : Nat → Ins} {R0 : Nat → Int} (hI : LawI I R0 n) (j m : Nat) (hj : j < n) (w1 : World) (hw1 : Below w.heap.size w w1) (im1 : w1.heap[bm]? = some (.cells cs 28 (0, 0)))
  (s1 : WinQ True w1 g B m R pc E) (s2 : WinQ False w1 x B' (n - j) (seqR I R0 j) (pcs j) (doneF I R0 j))
  (s : LSt w W bm g x B B' cs (n - j) (seqR I R0 j) (seqR I R0 j) (pcs j) (doneF I R0 j) (doneF I R0 j)) :
  Calls Tryz.prog 11 #[.pointer (some { block := x, off := 0 })] w1 fun e w' => (∃ v, e = .returned v) ∧ ∃ B2, Below w.heap.size w w' ∧ w'.heap[bm]? = some (.cells cs 28 (0, 0)) ∧ WinQ True w' g B m R pc E ∧ WinQ False w' x B2 (n - j - 1) (seqR I R0 (j + 1)) (pcs (j + 1)) (doneF I R0 (j + 1)) ∧ w1.heap.size ≤ B2 := by
 obtain ⟨cap, hcap, hw⟩ := s2.win (by omega)
 have hn := hI.len
 refine (xRetire_calls w1 x B' (n - j) cap (seqR I R0 j) (pcs j) (doneF I R0 j) hw (by omega) (by omega) _ (hI.good (j + 0) (by omega)) rfl).mono ?_
 rintro e w' ⟨he, ⟨B2, cap2, hB2, hw'⟩, hbut⟩
 have e1 : retR (seqR I R0 j) (doneF I R0 j 0) = seqR I R0 (j + 1) := rfl
 rw [e1, pcs_succ, doneF_succ] at hw'
 refine ⟨he, B2, below_but2 hw1 s.lx s.lB' hbut, ?_, s1.kept (hbut.block _ s1.lt s.n5 s.n7) (fun hb => hbut.block _ hb (Ne.symm s.n8) s.n10) hbut.size, ⟨hw'.rg, hw'.gB, hw'.fg, ⟨_, _, hw'.sl⟩, fun h0 => ⟨cap2, False.elim, hw'⟩⟩, hB2⟩
 rw [hbut.block _ (blk_lt im1) s.n2 s.n4]; exact im1
abbrev winArr (R : Nat → Int) : Array Value := #[.int .i64 (R 0), .int .i64 (R 1), .int .i64 (R 2), .int .i64 (R 3), .int .i64 (R 4), .int .i64 (R 5), .int .i64 (R 6), .int .i64 (R 7), .int .i64 (R 8), .int .i64 (R 9), .int .i64 (R 10), .int .i64 (R 11), .int .i64 (R 12), .int .i64 (R 13), .int .i64 (R 14), .int .i64 (R 15), .int .i64 (R 16), .int .i64 (R 17), .int .i64 (R 18), .int .i64 (R 19), .int .i64 (R 20), .int .i64 (R 21), .int .i64 (R 22), .int .i64 (R 23), .int .i64 (R 24), .int .i64 (R 25), .int .i64 (R 26), .int .i64 (R 27), .int .i64 (R 28), .int .i64 (R 29), .int .i64 (R 30), .int .i64 (R 31), .slice none 0 0]
def ents (I : Nat → Ins) : Nat → List Value
  | 0 => []
  | k + 1 => ents I k ++ entCells (pcs 0 k) ⟨I k, 0, false⟩
theorem ents_len (I : Nat → Ins) (k : Nat) : (ents I k).length = k * 18 := by
  induction k with
  | zero => rfl
  | succ k ih => show (ents I k ++ entCells (pcs 0 k) ⟨I k, 0, false⟩).length = _; rw [List.length_append, ih, entCells_len]; omega
theorem ents_get (I : Nat → Ins) (k j i : Nat) (hj : j < k) (hi : i < 18) : (ents I k)[j * 18 + i]? = (entCells (pcs 0 j) ⟨I j, 0, false⟩)[i]? := by
  induction k with
  | zero => omega
  | succ k ih =>
    show (ents I k ++ entCells (pcs 0 k) ⟨I k, 0, false⟩)[j * 18 + i]? = _
    have hl := ents_len I k
    by_cases h : j = k
    · subst h
      rw [List.getElem?_append_right (by omega), hl, show j * 18 + i - j * 18 = i by omega]
    · rw [List.getElem?_append_left (by omega)]
      exact ih (by omega)
theorem pcs0 (k : Nat) : 65536 + 4 * (k : Int) = pcs 0 k := by unfold pcs; rw [Nat.zero_add]
structure L3 (w W : World) (bm g x : Nat) (R : Nat → Int) (v ent : Value) (n : Nat) (c : Nat → Int) (I : Nat → Ins) (u1 v1 u2 v2 : Value) (k1 k2 : Nat) : Prop where
  bel : Below w.heap.size w W
  im : W.heap[bm]? = some (.cells #[v, .slice none 0 0, ent] 28 (0, 0))
  ow : W.ownsRow w.heap.size 32 1 v n (codes c n)
  bv : ∀ b, v.ownBlock = some b → b ≠ bm ∧ b ≠ g ∧ b ≠ x
  rg : ∀ r, r < 32 → W.cell? { block := g, off := r } = some (.int .i64 (R r))
  sl : W.cell? { block := g, off := 32 } = some u1
  gl : g < W.heap.size
  fg : ∀ o, W.frozen? { block := g, off := o } = false
  xrg : ∀ r, r < 32 → W.cell? { block := x, off := r } = some (.int .i64 (R r))
  xsl : W.cell? { block := x, off := 32 } = some u2
  xl : x < W.heap.size
  fx : ∀ o, W.frozen? { block := x, off := o } = false
  ow1 : W.ownsRow w.heap.size 45 18 v1 k1 (ents I k1)
  ow2 : W.ownsRow w.heap.size 47 18 v2 k2 (ents I k2)
  b1 : ∀ b, v1.ownBlock = some b → b ≠ bm ∧ b ≠ g ∧ b ≠ x ∧ v.ownBlock ≠ some b
  b2 : ∀ b, v2.ownBlock = some b → b ≠ bm ∧ b ≠ g ∧ b ≠ x ∧ v.ownBlock ≠ some b
  b12 : ∀ b, v1.ownBlock = some b → v2.ownBlock ≠ some b
  lm : w.heap.size ≤ bm
  lg : w.heap.size ≤ g
  lx : w.heap.size ≤ x
  n1 : bm ≠ g
  n2 : bm ≠ x
  n5 : g ≠ x
theorem own_none_or {v : Value} {row : Option Nat} (h : ∀ b, v.ownBlock = some b → row ≠ some b) : v.ownBlock = none ∨ v.ownBlock ≠ row := by
  rcases hv : v.ownBlock with _ | b
  · exact .inl rfl
  · exact .inr (fun he => h b hv he.symm)
theorem grown_of_below {W W' : World} (h : Below W.heap.size W W') (row : Option Nat) : W.grownBy W' row := ⟨h.os, h.tape, h.output, h.size, fun k hk _ => h.block k hk⟩
theorem grown_setCell (W : World) (b o : Nat) (u : Value) : W.grownBy (W.setCell { block := b, off := o } u) (some b) :=
  ⟨rfl, rfl, rfl, by simp [World.setCell], fun k hk hne => Below.heap_setCell _ _ _ _ (fun he => hne (by rw [he]))⟩
section
variable {w W W' : World} {bm g x : Nat} {R : Nat → Int} {v ent : Value} {n : Nat} {c : Nat → Int} {I : Nat → Ins} {u1 v1 u2 v2 : Value} {k1 k2 : Nat}
theorem L3.keep (s : L3 w W bm g x R v ent n c I u1 v1 u2 v2 k1 k2) {row : Option Nat} (hg : W.grownBy W' row) (hrow : ∀ b, row = some b → w.heap.size ≤ b) :
    Below w.heap.size w W' ∧ (row ≠ some bm → W'.heap[bm]? = some (.cells #[v, .slice none 0 0, ent] 28 (0, 0))) ∧ ((∀ b, v.ownBlock = some b → row ≠ some b) → W'.ownsRow w.heap.size 32 1 v n (codes c n)) ∧
    (row ≠ some g → W'.heap[g]? = W.heap[g]?) ∧ (row ≠ some x → W'.heap[x]? = W.heap[x]?) ∧ ((∀ b, v1.ownBlock = some b → row ≠ some b) → W'.ownsRow w.heap.size 45 18 v1 k1 (ents I k1)) ∧ ((∀ b, v2.ownBlock = some b → row ≠ some b) → W'.ownsRow w.heap.size 47 18 v2 k2 (ents I k2)) :=
  ⟨⟨hg.os.trans s.bel.os, hg.tape.trans s.bel.tape, hg.output.trans s.bel.output, Nat.le_trans s.bel.size hg.size, fun i hi => (hg.block i (Nat.lt_of_lt_of_le hi s.bel.size) (fun he => by have := hrow i he.symm; omega)).trans (s.bel.block i hi)⟩,
   fun h => by rw [hg.block _ (blk_lt s.im) (fun he => h he.symm)]; exact s.im,
   fun h => s.ow.kept hg (own_none_or h),
   fun h => hg.block _ s.gl (fun he => h he.symm),
   fun h => hg.block _ s.xl (fun he => h he.symm),
   fun h => s.ow1.kept hg (own_none_or h),
   fun h => s.ow2.kept hg (own_none_or h)⟩
theorem L3.below (s : L3 w W bm g x R v ent n c I u1 v1 u2 v2 k1 k2) (h : Below W.heap.size W W') : L3 w W' bm g x R v ent n c I u1 v1 u2 v2 k1 k2 := by
  obtain ⟨h1, h2, h3, h4, h5, h6, h7⟩ := s.keep (grown_of_below h none) (fun b hb => by cases hb)
  have h4 := h4 (by simp)
  have h5 := h5 (by simp)
  exact { s with
    bel := h1
    im := h2 (by simp)
    ow := h3 (by simp)
    rg := fun r hr => by rw [cell_of_heap h4]; exact s.rg r hr
    sl := by rw [cell_of_heap h4]; exact s.sl
    gl := Nat.lt_of_lt_of_le s.gl h.size
    fg := fun o => by rw [frozen_of_heap h4]; exact s.fg o
    xrg := fun r hr => by rw [cell_of_heap h5]; exact s.xrg r hr
    xsl := by rw [cell_of_heap h5]; exact s.xsl
    xl := Nat.lt_of_lt_of_le s.xl h.size
    fx := fun o => by rw [frozen_of_heap h5]; exact s.fx o
    ow1 := h6 (by simp)
    ow2 := h7 (by simp) }
theorem L3.app1 (s : L3 w W bm g x R v ent n c I u1 v1 u2 v2 k1 k2) {B cap : Nat} (hown : W'.ownsRow w.heap.size 45 18 (.slice (some ⟨B, 0, none⟩) (k1 + 1) cap) (k1 + 1) (ents I k1 ++ entCells (pcs 0 k1) ⟨I k1, 0, false⟩))
    (hg : W.grownBy W' v1.ownBlock) (hat : v1.ownBlock = some B ∨ B = W.heap.size) : L3 w W' bm g x R v ent n c I u1 (.slice (some ⟨B, 0, none⟩) (k1 + 1) cap) u2 v2 (k1 + 1) k2 := by
  obtain ⟨h1, h2, h3, h4, h5, _, h7⟩ := s.keep hg (fun b hb => (s.ow1.lt b hb).1)
  have h4 := h4 (fun he => (s.b1 g he).2.1 rfl)
  have h5 := h5 (fun he => (s.b1 x he).2.2.1 rfl)
  have hB : ∀ b, (Value.slice (some ⟨B, 0, none⟩) (k1 + 1) cap).ownBlock = some b → B = b := fun b hb => by simpa [Value.ownBlock] using hb
  have hv : ∀ b, v.ownBlock = some b → b < W.heap.size := fun b hb => (s.ow.lt b hb).2
  have hv2 : ∀ b, v2.ownBlock = some b → b < W.heap.size := fun b hb => (s.ow2.lt b hb).2
  exact { s with
    bel := h1
    im := h2 (fun he => (s.b1 bm he).1 rfl)
    ow := h3 (fun b hb he => (s.b1 b he).2.2.2 hb)
    rg := fun r hr => by rw [cell_of_heap h4]; exact s.rg r hr
    sl := by rw [cell_of_heap h4]; exact s.sl
    gl := Nat.lt_of_lt_of_le s.gl hg.size
    fg := fun o => by rw [frozen_of_heap h4]; exact s.fg o
    xrg := fun r hr => by rw [cell_of_heap h5]; exact s.xrg r hr
    xsl := by rw [cell_of_heap h5]; exact s.xsl
    xl := Nat.lt_of_lt_of_le s.xl hg.size
    fx := fun o => by rw [frozen_of_heap h5]; exact s.fx o
    ow1 := hown
    ow2 := h7 (fun b hb he => s.b12 b he hb)
    b1 := fun b hb => by
      obtain rfl := hB b hb
      rcases hat with h | h
      · exact s.b1 _ h
      · have e1 := blk_lt s.im
        have e2 := s.gl
        have e3 := s.xl
        exact ⟨by omega, by omega, by omega, fun he => by have := hv _ he; omega⟩
    b12 := fun b hb => by
      obtain rfl := hB b hb
      rcases hat with h | h
      · exact s.b12 _ h
      · exact fun he => by have := hv2 _ he; omega }
theorem L3.app2 (s : L3 w W bm g x R v ent n c I u1 v1 u2 v2 k1 k2) {B cap : Nat} (hown : W'.ownsRow w.heap.size 47 18 (.slice (some ⟨B, 0, none⟩) (k2 + 1) cap) (k2 + 1) (ents I k2 ++ entCells (pcs 0 k2) ⟨I k2, 0, false⟩))
    (hg : W.grownBy W' v2.ownBlock) (hat : v2.ownBlock = some B ∨ B = W.heap.size) : L3 w W' bm g x R v ent n c I u1 v1 u2 (.slice (some ⟨B, 0, none⟩) (k2 + 1) cap) k1 (k2 + 1) := by
  obtain ⟨h1, h2, h3, h4, h5, h6, _⟩ := s.keep hg (fun b hb => (s.ow2.lt b hb).1)
  have h4 := h4 (fun he => (s.b2 g he).2.1 rfl)
  have h5 := h5 (fun he => (s.b2 x he).2.2.1 rfl)
  have hB : ∀ b, (Value.slice (some ⟨B, 0, none⟩) (k2 + 1) cap).ownBlock = some b → B = b := fun b hb => by simpa [Value.ownBlock] using hb
  have hv : ∀ b, v.ownBlock = some b → b < W.heap.size := fun b hb => (s.ow.lt b hb).2
  have hv1 : ∀ b, v1.ownBlock = some b → b < W.heap.size := fun b hb => (s.ow1.lt b hb).2
  exact { s with
    bel := h1
    im := h2 (fun he => (s.b2 bm he).1 rfl)
    ow := h3 (fun b hb he => (s.b2 b he).2.2.2 hb)
    rg := fun r hr => by rw [cell_of_heap h4]; exact s.rg r hr
    sl := by rw [cell_of_heap h4]; exact s.sl
    gl := Nat.lt_of_lt_of_le s.gl hg.size
    fg := fun o => by rw [frozen_of_heap h4]; exact s.fg o
    xrg := fun r hr => by rw [cell_of_heap h5]; exact s.xrg r hr
    xsl := by rw [cell_of_heap h5]; exact s.xsl
    xl := Nat.lt_of_lt_of_le s.xl hg.size
    fx := fun o => by rw [frozen_of_heap h5]; exact s.fx o
    ow1 := h6 (fun b hb he => s.b12 b hb he)
    ow2 := hown
    b2 := fun b hb => by
      obtain rfl := hB b hb
      rcases hat with h | h
      · exact s.b2 _ h
      · have e1 := blk_lt s.im
        have e2 := s.gl
        have e3 := s.xl
        exact ⟨by omega, by omega, by omega, fun he => by have := hv _ he; omega⟩
    b12 := fun b hb he => by
      obtain rfl := hB b he
      rcases hat with h | h
      · exact s.b12 _ hb h
      · have := hv1 _ hb; omega }
theorem L3.store1 (s : L3 w W bm g x R v ent n c I u1 v1 u2 v2 k1 k2) : L3 w (W.setCell { block := g, off := 32 } v1) bm g x R v ent n c I v1 v1 u2 v2 k1 k2 := by
  obtain ⟨h1, h2, h3, _, h5, h6, h7⟩ := s.keep (grown_setCell W g 32 v1) (fun b hb => by obtain rfl := Option.some.inj hb; exact s.lg)
  have h5 := h5 (fun he => s.n5 (Option.some.inj he))
  have hs : (W.setCell { block := g, off := 32 } v1).heap.size = W.heap.size := by simp [World.setCell]
  exact { s with
    bel := h1
    im := h2 (fun he => s.n1 (Option.some.inj he).symm)
    ow := h3 (fun b hb he => (s.bv b hb).2.1 (Option.some.inj he).symm)
    rg := fun r hr => by rw [cell_set_ne _ _ _ _ _ _ (by omega)]; exact s.rg r hr
    sl := World.cell?_setCell_same _ _ _ s.sl
    gl := by rw [hs]; exact s.gl
    fg := fun o => by rw [World.frozen?_setCell]; exact s.fg o
    xrg := fun r hr => by rw [cell_of_heap h5]; exact s.xrg r hr
    xsl := by rw [cell_of_heap h5]; exact s.xsl
    xl := by rw [hs]; exact s.xl
    fx := fun o => by rw [frozen_of_heap h5]; exact s.fx o
    ow1 := h6 (fun b hb he => (s.b1 b hb).2.1 (Option.some.inj he).symm)
    ow2 := h7 (fun b hb he => (s.b2 b hb).2.1 (Option.some.inj he).symm) }
theorem L3.store2 (s : L3 w W bm g x R v ent n c I u1 v1 u2 v2 k1 k2) : L3 w (W.setCell { block := x, off := 32 } v2) bm g x R v ent n c I u1 v1 v2 v2 k1 k2 := by
  obtain ⟨h1, h2, h3, h4, _, h6, h7⟩ := s.keep (grown_setCell W x 32 v2) (fun b hb => by obtain rfl := Option.some.inj hb; exact s.lx)
  have h4 := h4 (fun he => s.n5 (Option.some.inj he).symm)
  have hs : (W.setCell { block := x, off := 32 } v2).heap.size = W.heap.size := by simp [World.setCell]
  exact { s with
    bel := h1
    im := h2 (fun he => s.n2 (Option.some.inj he).symm)
    ow := h3 (fun b hb he => (s.bv b hb).2.2 (Option.some.inj he).symm)
    rg := fun r hr => by rw [cell_of_heap h4]; exact s.rg r hr
    sl := by rw [cell_of_heap h4]; exact s.sl
    gl := by rw [hs]; exact s.gl
    fg := fun o => by rw [frozen_of_heap h4]; exact s.fg o
    xrg := fun r hr => by rw [cell_set_ne _ _ _ _ _ _ (by omega)]; exact s.xrg r hr
    xsl := World.cell?_setCell_same _ _ _ s.xsl
    xl := by rw [hs]; exact s.xl
    fx := fun o => by rw [World.frozen?_setCell]; exact s.fx o
    ow1 := h6 (fun b hb he => (s.b1 b hb).2.2.1 (Option.some.inj he).symm)
    ow2 := h7 (fun b hb he => (s.b2 b hb).2.2.1 (Option.some.inj he).symm) }
theorem winArr_rg {b : Nat} {t : TypeId} (h : W.heap[b]? = some (.cells (winArr R) t (0, 0))) (r : Nat) (hr : r < 32) : W.cell? { block := b, off := r } = some (.int .i64 (R r)) := by
  refine cell_row h r _ ?_
  rcases r with _ | _ | _ | _ | _ | _ | _ | _ | _ | _ | _ | _ | _ | _ | _ | _ | _ | _ | _ | _ | _ | _ | _ | _ | _ | _ | _ | _ | _ | _ | _ | _ | r
  all_goals first | rfl | omega
theorem L1.start {rb : Nat} (s : L1 w W rb bm R v ent n c) (hd : Below W.heap.size W W') {tg tx : TypeId} (h1 : W'.heap[g]? = some (.cells (winArr R) tg (0, 0))) (h2 : W'.heap[x]? = some (.cells (winArr R) tx (0, 0))) (lg : W.heap.size ≤ g) (lx : W.heap.size ≤ x) (ne : g ≠ x) :
    L3 w W' bm g x R v ent n c I (.slice none 0 0) (.slice none 0 0) (.slice none 0 0) (.slice none 0 0) 0 0 := by
  have s' := s.below hd
  have e1 := blk_lt s.im
  have hv : ∀ b, v.ownBlock = some b → b < W.heap.size := fun b hb => (s.ow.lt b hb).2
  have sz := s.bel.size
  exact { bel := s'.bel, im := s'.im, ow := s'.ow, bv := fun b hb => ⟨(s.bv b hb).1, by have := hv b hb; omega, by have := hv b hb; omega⟩,
          rg := winArr_rg h1, sl := cell_row h1 32 _ rfl, gl := blk_lt h1, fg := frozen_row h1, xrg := winArr_rg h2, xsl := cell_row h2 32 _ rfl, xl := blk_lt h2, fx := frozen_row h2,
          ow1 := World.ownsRow_nil _ _ _ _, ow2 := World.ownsRow_nil _ _ _ _, b1 := fun b hb => by simp [Value.ownBlock] at hb, b2 := fun b hb => by simp [Value.ownBlock] at hb, b12 := fun b hb => by simp [Value.ownBlock] at hb,
          lm := s.lm, lg := Nat.le_trans sz lg, lx := Nat.le_trans sz lx, n1 := by omega, n2 := by omega, n5 := ne }
theorem L3.code (s : L3 w W bm g x R v ent n c I u1 v1 u2 v2 k1 k2) (k : Nat) (hk : k < n) : ∃ cb cap, v = .slice (some ⟨cb, 0, none⟩) n cap ∧ cb < W.heap.size ∧ W.cell? { block := cb, off := k } = some (.int .u32 (c k)) := by
  obtain ⟨cb, cap, hv, _, hlt⟩ := s.ow.form (by omega)
  refine ⟨cb, cap, hv, hlt, ?_⟩
  have h := s.ow.cells (g := cb) (by rw [hv]; rfl) k (.int .u32 (c k)) (by simp [codes, hk])
  have e : (⟨cb, 0, none⟩ : Addr).add k = ⟨cb, k, none⟩ := by rw [Addr.add_lit, Nat.zero_add]
  rw [e] at h
  exact h
theorem win_of_own {b : Nat} {vv : Value} {T : TypeId} {q : Prop} {R0 : Nat → Int} (hn : 0 < n) (ow : W.ownsRow w.heap.size T 18 vv n (ents I n)) (rg : ∀ r, r < 32 → W.cell? { block := b, off := r } = some (.int .i64 (R r))) (sl : W.cell? { block := b, off := 32 } = some vv) (gl : b < W.heap.size) (fg : ∀ o, W.frozen? { block := b, off := o } = false) (hne : ∀ k, vv.ownBlock = some k → k ≠ b) :
    ∃ B, vv.ownBlock = some B ∧ w.heap.size ≤ B ∧ WinQ q W b B n R (pcs 0) (seqE I R0 0) := by
  obtain ⟨B, cap, cur, hv, hlo, hB, hnc, hmx⟩ : ∃ B cap cur, vv = .slice (some ⟨B, 0, none⟩) n cap ∧ w.heap.size ≤ B ∧ W.heap[B]? = some (.cells cur T (0, 0)) ∧ n ≤ cap ∧ cap ≤ maxLen := by
    rcases ow.2 with ⟨_, h0⟩ | ⟨B, cap, cur, hv, hlo, hB, hnc, hmx, _⟩
    · omega
    · exact ⟨B, cap, cur, hv, hlo, hB, hnc, hmx⟩
  have hob : vv.ownBlock = some B := by rw [hv]; rfl
  refine ⟨B, hob, hlo, WinQ.of_win (cap := cap) ⟨by rw [sl, hv], rg, fun k hk j u hj => ?_, gl, blk_lt hB, fun he => hne B hob he.symm, hnc, fg, frozen_row hB⟩ (fun _ => by unfold maxLen at hmx; exact hmx)⟩
  have hj18 : j < 18 := (List.getElem?_eq_some_iff.1 hj).1
  have e0 : seqE I R0 0 k = ⟨I k, 0, false⟩ := if_neg (by omega)
  rw [e0] at hj
  have h := ow.cells hob (k * 18 + j) u (by rw [ents_get I n k j hk hj18]; exact hj)
  rw [Addr.add_lit, Nat.zero_add] at h
  exact h
theorem L3.fin {R0 : Nat → Int} (s : L3 w W bm g x R v ent n c I v1 v1 v2 v2 n n) (hv1 : ∃ A cap, v1 = .slice A n cap) (hv2 : ∃ A cap, v2 = .slice A n cap) : ∃ B B', LSt w W bm g x B B' #[v, .slice none 0 0, ent] n R R (pcs 0) (seqE I R0 0) (seqE I R0 0) := by
  by_cases hn : 0 < n
  · obtain ⟨B, hB, lB, q1⟩ := win_of_own (q := True) (R0 := R0) hn s.ow1 s.rg s.sl s.gl s.fg (fun k hk => (s.b1 k hk).2.1)
    obtain ⟨B', hB', lB', q2⟩ := win_of_own (q := False) (R0 := R0) hn s.ow2 s.xrg s.xsl s.xl s.fx (fun k hk => (s.b2 k hk).2.2.1)
    obtain ⟨z1, z2, z3, _⟩ := s.b1 B hB
    obtain ⟨y1, y2, y3, _⟩ := s.b2 B' hB'
    exact ⟨B, B', { bel := s.bel, im := s.im, win := q1, xwin := q2, lm := s.lm, lg := s.lg, lx := s.lx, lB := lB, lB' := lB', n1 := s.n1, n2 := s.n2, n3 := Ne.symm z1, n4 := Ne.symm y1, n5 := s.n5, n6 := Ne.symm z2, n7 := Ne.symm y2, n8 := Ne.symm z3, n9 := Ne.symm y3, n10 := fun he => s.b12 B hB (by rw [he]; exact hB') }⟩
  · obtain ⟨A1, c1, e1⟩ := hv1
    obtain ⟨A2, c2, e2⟩ := hv2
    have lm := s.lm
    have lg := s.lg
    have lx := s.lx
    exact ⟨bm + g + x + 1, bm + g + x + 2, { bel := s.bel, im := s.im, win := ⟨s.rg, s.gl, s.fg, ⟨A1, c1, by rw [s.sl, e1]⟩, fun h => absurd h hn⟩, xwin := ⟨s.xrg, s.xl, s.fx, ⟨A2, c2, by rw [s.xsl, e2]⟩, fun h => absurd h hn⟩, lm := lm, lg := lg, lx := lx, lB := by omega, lB' := by omega, n1 := s.n1, n2 := s.n2, n3 := by omega, n4 := by omega, n5 := s.n5, n6 := by omega, n7 := by omega, n8 := by omega, n9 := by omega, n10 := by omega }⟩
end
theorem ent_info (T : TypeId) (h : (Tryz.prog.info? T).map (fun i => (i.zero, i.size, decide (i.bytes ≤ 1000))) = some (some (.agg zeros18.toArray), 18, true)) : ∃ i0, Tryz.prog.info? T = some i0 ∧ i0.zero = some (.agg zeros18.toArray) ∧ i0.size = 18 ∧ i0.bytes ≤ 1000 := by
  cases hi : Tryz.prog.info? T with
  | none => rw [hi] at h; cases h
  | some i =>
    rw [hi] at h
    simp only [Option.map_some, Option.some.injEq, Prod.mk.injEq] at h
    exact ⟨i, rfl, h.1, h.2.1, of_decide_eq_true h.2.2⟩
structure L3E (w W : World) (bm g x eb : Nat) (R : Nat → Int) (v ent : Value) (n : Nat) (c : Nat → Int) (I : Nat → Ins) (u1 v1 u2 v2 : Value) (k1 k2 : Nat) (pc : Int) (e : Ent) : Prop where
  st : L3 w W bm g x R v ent n c I u1 v1 u2 v2 k1 k2
  ev : EntVar W eb pc e
  e1 : v1.ownBlock ≠ some eb
  e2 : v2.ownBlock ≠ some eb
  eg : eb ≠ g
  ex : eb ≠ x
section
variable {w W W' : World} {bm g x eb : Nat} {R : Nat → Int} {v ent : Value} {n : Nat} {c : Nat → Int} {I : Nat → Ins} {u1 v1 u2 v2 : Value} {k1 k2 : Nat} {pc : Int} {e : Ent}
theorem L3E.below (s : L3E w W bm g x eb R v ent n c I u1 v1 u2 v2 k1 k2 pc e) (h : Below W.heap.size W W') : L3E w W' bm g x eb R v ent n c I u1 v1 u2 v2 k1 k2 pc e :=
  { s with st := s.st.below h, ev := s.ev.below h }
theorem EntVar.kept {row : Option Nat} (s : EntVar W eb pc e) (h : W.grownBy W' row) (hne : row ≠ some eb) : EntVar W' eb pc e :=
  ⟨by rw [h.block _ s.lt (fun he => hne he.symm)]; exact s.row, Nat.lt_of_lt_of_le s.lt h.size⟩
theorem L3E.app1 (s : L3E w W bm g x eb R v ent n c I u1 v1 u2 v2 k1 k2 pc e) {B cap : Nat} (hown : W'.ownsRow w.heap.size 45 18 (.slice (some ⟨B, 0, none⟩) (k1 + 1) cap) (k1 + 1) (ents I k1 ++ entCells (pcs 0 k1) ⟨I k1, 0, false⟩))
    (hg : W.grownBy W' v1.ownBlock) (hat : v1.ownBlock = some B ∨ B = W.heap.size) : L3E w W' bm g x eb R v ent n c I u1 (.slice (some ⟨B, 0, none⟩) (k1 + 1) cap) u2 v2 (k1 + 1) k2 pc e :=
  { s with
    st := s.st.app1 hown hg hat
    ev := s.ev.kept hg s.e1
    e1 := fun he => by
      have hb : B = eb := by simpa [Value.ownBlock] using he
      subst hb
      rcases hat with h | h
      · exact s.e1 h
      · have := s.ev.lt; omega }
theorem L3E.app2 (s : L3E w W bm g x eb R v ent n c I u1 v1 u2 v2 k1 k2 pc e) {B cap : Nat} (hown : W'.ownsRow w.heap.size 47 18 (.slice (some ⟨B, 0, none⟩) (k2 + 1) cap) (k2 + 1) (ents I k2 ++ entCells (pcs 0 k2) ⟨I k2, 0, false⟩))
    (hg : W.grownBy W' v2.ownBlock) (hat : v2.ownBlock = some B ∨ B = W.heap.size) : L3E w W' bm g x eb R v ent n c I u1 v1 u2 (.slice (some ⟨B, 0, none⟩) (k2 + 1) cap) k1 (k2 + 1) pc e :=
  { s with
    st := s.st.app2 hown hg hat
    ev := s.ev.kept hg s.e2
    e2 := fun he => by
      have hb : B = eb := by simpa [Value.ownBlock] using he
      subst hb
      rcases hat with h | h
      · exact s.e2 h
      · have := s.ev.lt; omega }
theorem L3E.store1 (s : L3E w W bm g x eb R v ent n c I u1 v1 u2 v2 k1 k2 pc e) : L3E w (W.setCell { block := g, off := 32 } v1) bm g x eb R v ent n c I v1 v1 u2 v2 k1 k2 pc e :=
  { s with st := s.st.store1, ev := s.ev.kept (grown_setCell W g 32 v1) (fun he => s.eg (Option.some.inj he).symm) }
theorem L3E.store2 (s : L3E w W bm g x eb R v ent n c I u1 v1 u2 v2 k1 k2 pc e) : L3E w (W.setCell { block := x, off := 32 } v2) bm g x eb R v ent n c I u1 v1 v2 v2 k1 k2 pc e :=
  { s with st := s.st.store2, ev := s.ev.kept (grown_setCell W x 32 v2) (fun he => s.ex (Option.some.inj he).symm) }
theorem L3E.start (s : L3 w W bm g x R v ent n c I u1 v1 u2 v2 k1 k2) (h : Below W.heap.size W W') (hev : EntVar W' eb pc e) (he : W.heap.size ≤ eb) : L3E w W' bm g x eb R v ent n c I u1 v1 u2 v2 k1 k2 pc e :=
  ⟨s.below h, hev, fun hh => by have := (s.ow1.lt _ hh).2; omega, fun hh => by have := (s.ow2.lt _ hh).2; omega, by have := s.gl; omega, by have := s.xl; omega⟩
theorem ent_news {b : Nat} {t : TypeId} (hb : W.heap[b]? = some (.cells (entRow pc e) t (0, 0))) (j : Nat) (u : Value) (hj : (entCells pc e)[j]? = some u) : W.cell? ((⟨b, 0, none⟩ : Addr).add j) = some u := by
  rw [Addr.add_lit, Nat.zero_add]
  refine cell_row hb j u ?_
  rcases j with _ | _ | _ | _ | _ | _ | _ | _ | _ | _ | _ | _ | _ | _ | _ | _ | _ | _ | j
  all_goals first | exact hj | (simp [entCells] at hj)
theorem ent_one (u : Value) (hu : u ∈ entCells pc e) : u.oneCell' = true := by
  simp only [entCells, List.mem_cons, List.not_mem_nil, or_false] at hu
  rcases hu with rfl | rfl | rfl | rfl | rfl | rfl | rfl | rfl | rfl | rfl | rfl | rfl | rfl | rfl | rfl | rfl | rfl | rfl <;> rfl
theorem step_app_ent1 {ops : Array Oper} {o : Oper} {a : Act} {K : Act → World → Prop} {Q : Exit → Act → World → Prop} {F : Prop} {b : Nat} {s y : Operand}
    (hg : o.guard = none) (ho : o.op = .call { callee := .builtin .append, args := #[s, y], argTypes := #[35, 35] }) (hk : k1 ≤ 100) (hs : a.eval s = v1) (st : L3E w W bm g x eb R v ent n c I u1 v1 u2 v2 k1 k2 pc e)
    (hx : a.eval y = .slice (some ⟨b, 0, none⟩) 1 1) (hb : W.heap[b]? = some (.cells (entRow (pcs 0 k1) ⟨I k1, 0, false⟩) 45 (0, 0)))
    (h : ∀ B cap W', L3E w W' bm g x eb R v ent n c I u1 (.slice (some ⟨B, 0, none⟩) (k1 + 1) cap) u2 v2 (k1 + 1) k2 pc e → K (a.put o.dst (.slice (some ⟨B, 0, none⟩) (k1 + 1) cap)) W') : if Region.wanted o (yielded ops a.tmps) = true then Oper.wp Tryz.prog o a W K Q else F := by
  obtain ⟨i0, hi, hz, h18, hby⟩ := ent_info 45 (by kernel_rfl)
  have hbs : (k1 + 1) * i0.bytes ≤ 101 * 1000 := Nat.mul_le_mul (by omega) hby
  refine step_append_lies W hg s y 35 ho w.heap.size 45 i0 _ 18 i0.bytes Tryz.underlying35 hi hz h18 rfl rfl (by decide) v1 k1 (ents I k1) hs st.st.ow1 ⟨b, 0, none⟩ 1 1 (entCells (pcs 0 k1) ⟨I k1, 0, false⟩) hx rfl (ent_news hb) ent_one (by decide) (by simp only [maxLen]; omega) (by omega) st.st.bel.size _ rfl ?_
  intro B cap W' hown hgr hat _
  exact h _ _ _ (st.app1 hown hgr hat)
theorem step_app_ent2 {ops : Array Oper} {o : Oper} {a : Act} {K : Act → World → Prop} {Q : Exit → Act → World → Prop} {F : Prop} {b : Nat} {s y : Operand}
    (hg : o.guard = none) (ho : o.op = .call { callee := .builtin .append, args := #[s, y], argTypes := #[39, 39] }) (hk : k2 ≤ 100) (hs : a.eval s = v2) (st : L3E w W bm g x eb R v ent n c I u1 v1 u2 v2 k1 k2 pc e)
    (hx : a.eval y = .slice (some ⟨b, 0, none⟩) 1 1) (hb : W.heap[b]? = some (.cells (entRow (pcs 0 k2) ⟨I k2, 0, false⟩) 47 (0, 0)))
    (h : ∀ B cap W', L3E w W' bm g x eb R v ent n c I u1 v1 u2 (.slice (some ⟨B, 0, none⟩) (k2 + 1) cap) k1 (k2 + 1) pc e → K (a.put o.dst (.slice (some ⟨B, 0, none⟩) (k2 + 1) cap)) W') : if Region.wanted o (yielded ops a.tmps) = true then Oper.wp Tryz.prog o a W K Q else F := by
  obtain ⟨i0, hi, hz, h18, hby⟩ := ent_info 47 (by kernel_rfl)
  have hbs : (k2 + 1) * i0.bytes ≤ 101 * 1000 := Nat.mul_le_mul (by omega) hby
  refine step_append_lies W hg s y 39 ho w.heap.size 47 i0 _ 18 i0.bytes Tryz.underlying39 hi hz h18 rfl rfl (by decide) v2 k2 (ents I k2) hs st.st.ow2 ⟨b, 0, none⟩ 1 1 (entCells (pcs 0 k2) ⟨I k2, 0, false⟩) hx rfl (ent_news hb) ent_one (by decide) (by simp only [maxLen]; omega) (by omega) st.st.bel.size _ rfl ?_
  intro B cap W' hown hgr hat _
  exact h _ _ _ (st.app2 hown hgr hat)
theorem fill_ent (row : Array Value) (h : row.size = 18) (z : Array Value) (hz : z.size = 18) : Instr.fill (fun i => some (i * 18, 18)) z [(0, .agg row)] = some row := by
  have := Great.fill_whole (s := 18) (by decide) [Value.agg row] z (fun v hv => by simp at hv; subst hv; exact h) (by simp [hz])
  simpa [Value.cells] using this
theorem step_bs_ent {ops : Array Oper} {o : Oper} {a : Act} {W : World} {K : Act → World → Prop} {Q : Exit → Act → World → Prop} {F : Prop} {t : TypeId} (T : TypeId) {y : Operand} (hg : o.guard = none) (ho : o.op = .buildSlice t 1 #[(0, y)]) (ht : Tryz.prog.underlying t = some (.slice T))
    (hT : (Tryz.prog.info? T).map (fun i => (i.zero, i.size, decide (i.bytes ≤ 1000))) = some (some (.agg zeros18.toArray), 18, true)) (row : Array Value) (hr : row.size = 18) (hy : a.eval y = .agg row)
    (h : ∀ W', W'.heap[W.heap.size]? = some (.cells row T (0, 0)) → Below W.heap.size W W' → K (a.put o.dst (.slice (some ⟨W.heap.size, 0, none⟩) 1 1)) W') : if Region.wanted o (yielded ops a.tmps) = true then Oper.wp Tryz.prog o a W K Q else F := by
  obtain ⟨i0, hi, hz, h18, hby⟩ := ent_info T hT
  have hw : Region.wanted o (yielded ops a.tmps) = true := by simp [Region.wanted, hg]
  rw [if_pos hw]
  refine wp_buildSlice t T 1 #[(0, y)] ho row i0 _ ht hi hz (by rw [h18]; decide) (by rw [h18]; decide) ?_ (h _ (heap_alloc_last W _) ((Below.refl _ _).alloc (Nat.le_refl _) _))
  rw [h18]
  simp only [List.map_toArray, List.map_cons, List.map_nil, hy]
  exact fill_ent row hr _ (by simp)
end
theorem own_form {w : World} {base : Nat} {e : TypeId} {size : Nat} {v : Value} {n : Nat} {xs : List Value} (h : w.ownsRow base e size v n xs) : ∃ A cap, v = .slice A n cap := by
  rcases h.2 with ⟨rfl, rfl⟩ | ⟨g, cap, _, rfl, _⟩
  · exact ⟨_, _, rfl⟩
  · exact ⟨_, _, rfl⟩
section
variable {w W W' : World} {bm g x B B' n : Nat} {cs : Array Value} {R R' : Nat → Int} {pc : Nat → Int} {E E' : Nat → Ent} {I : Nat → Ins} {R0 : Nat → Int}
theorem LSt.toRet (s : LSt w W bm g x B B' cs n R0 R0 (pcs 0) E (seqE I R0 n)) (hv : Inv I R0 n E) (hd : ∀ k, k < n → (E k).d = true) : LSt w W bm g x B B' cs (n - 0) (seqR I R0 0) (seqR I R0 0) (pcs 0) (doneF I R0 0) (doneF I R0 0) :=
  { s with
    win := s.win.congr (fun k hk => by rw [inv_done hv hd k hk]; unfold doneF; rw [Nat.zero_add])
    xwin := s.xwin.congr (fun k hk => by unfold seqE doneF doneE; rw [if_pos hk, Nat.zero_add]) }
theorem LSt.next {W1 : World} {j B2 : Nat} (hj : j < n) (s : LSt w W bm g x B B' cs (n - j) (seqR I R0 j) (seqR I R0 j) (pcs j) (doneF I R0 j) (doneF I R0 j)) (hs : W.heap.size ≤ W1.heap.size)
    (h : Below w.heap.size w W' ∧ W'.heap[bm]? = some (.cells cs 28 (0, 0)) ∧ WinQ True W' g B (n - j - 1) (seqR I R0 (j + 1)) (pcs (j + 1)) (doneF I R0 (j + 1)) ∧ WinQ False W' x B2 (n - j - 1) (seqR I R0 (j + 1)) (pcs (j + 1)) (doneF I R0 (j + 1)) ∧ W1.heap.size ≤ B2) :
    LSt w W' bm g x B B2 cs (n - (j + 1)) (seqR I R0 (j + 1)) (seqR I R0 (j + 1)) (pcs (j + 1)) (doneF I R0 (j + 1)) (doneF I R0 (j + 1)) := by
  obtain ⟨h1, h2, h3, h4, h5⟩ := h
  rw [show n - j - 1 = n - (j + 1) by omega] at h3 h4
  obtain ⟨_, _, hw⟩ := s.win.win (by omega)
  have e1 := hw.BB
  have e2 := blk_lt s.im
  have e3 := s.win.lt
  have e4 := s.xwin.lt
  have e5 := s.bel.size
  exact { bel := h1, im := h2, win := h3, xwin := h4, lm := s.lm, lg := s.lg, lx := s.lx, lB := s.lB, lB' := by omega, n1 := s.n1, n2 := s.n2, n3 := s.n3, n4 := by omega, n5 := s.n5, n6 := s.n6, n7 := by omega, n8 := s.n8, n9 := by omega, n10 := by omega }
theorem regs_range {q : Prop} {b C : Nat} (s : WinQ q W b C n R pc E) : W.rangeAt b 0 (regArr R).toList := fun j u hj => by
  have hj32 : j < 32 := (List.getElem?_eq_some_iff.1 hj).1
  rw [Nat.zero_add, s.rg j hj32, ← hj]
  rcases j with _ | _ | _ | _ | _ | _ | _ | _ | _ | _ | _ | _ | _ | _ | _ | _ | _ | _ | _ | _ | _ | _ | _ | _ | _ | _ | _ | _ | _ | _ | _ | _ | j
  all_goals first | rfl | omega
end
theorem part_reg (w : World) (S : Nat → Int) (i : Nat) (hi : i < 32) : (part 3 (regArr S) i).run Tryz.prog w = .ok (.int .i64 (S i)) w := by
  have h : (regArr S)[i]? = some (.int .i64 (S i)) := by
    rcases i with _ | _ | _ | _ | _ | _ | _ | _ | _ | _ | _ | _ | _ | _ | _ | _ | _ | _ | _ | _ | _ | _ | _ | _ | _ | _ | _ | _ | _ | _ | _ | _ | i
    all_goals first | rfl | omega
  generalize regArr S = cs at h ⊢
  simp [part, isAgg, run_underlying Tryz.underlying3, h]
theorem items_regs (w : World) (d : Nat) (S : Nat → Int) : ∀ is : List Nat, (∀ i ∈ is, i < 32) → (Op.eqItems (d + 1) 3 1 (regArr S) (regArr S) is).run Tryz.prog w = .ok true w
  | [], _ => by simp [Op.eqItems]
  | i :: is, h => by
    have hi := h i (by simp)
    have ih := items_regs w d S is (fun j hj => h j (by simp [hj]))
    simp only [Op.eqItems, Sem.run_bind, Nat.mul_one, part_reg w S i hi, Result.andThen_ok, run_equalIn_int w d 3 .i64 .i64 _ _ Tryz.underlying3]
    simpa using ih
theorem eq_in_regs (w : World) (S : Nat → Int) : (Op.equalIn 10000 23 (.agg (regArr S)) (.agg (regArr S))).run Tryz.prog w = .ok true w := by
  obtain ⟨i0, hi⟩ : ∃ i0, Tryz.prog.info? 3 = some i0 := by
    have h1 : (Tryz.prog.info? 3).isSome = true := by kernel_rfl
    exact Option.isSome_iff_exists.1 h1
  rw [run_equalIn_array w 9999 _ _ Tryz.underlying23 hi, show Tryz.prog.cellsOf 3 = 1 from by kernel_rfl, items_regs w 9998 S (List.range 32) (fun i hi => List.mem_range.1 hi)]
end Go.Proofs.YtfcniikbcjmlcaaGreatDoor
end
