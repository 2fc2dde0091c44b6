/- Part KCC of the proof of spinnakerlaw19.WindowOrders: for every input the law returns true. -/
import Derived.ArgAppend
import Derived.Test.YtfcniikbcjmlcaaGreatDoorKCA
import Derived.Test.YtfcniikbcjmlcaaGreatDoorPL
section
namespace Go.Proofs.YtfcniikbcjmlcaaGreatDoor
open Go.RowKit Go.Proofs.YtfcniikbcjmlcaaGreatDoorW.PrintWords Go.Proofs.YtfcniikbcjmlcaaGreatDoorW.PrintLast Go.Proofs.YtfcniikbcjmlcaaGreatDoorW.PrintMore
set_option linter.unusedVariables false
set_option linter.unusedSimpArgs false
theorem xentry_zero (w : World) : (zeroValue 47).run Tryz.prog w = .ok (.agg zeros18.toArray) w := by
  have h : (Tryz.prog.info? 47).map (·.zero) = some (some (.agg zeros18.toArray)) := by kernel_rfl
  cases hi : Tryz.prog.info? 47 with
  | none => rw [hi] at h; cases h
  | some i =>
    rw [hi] at h
    have hz : i.zero = some (.agg zeros18.toArray) := by simpa using h
    simp [zeroValue, typeInfo, hi, hz]
theorem xentry18 : (Tryz.prog.info? 47).map (·.size) = some 18 := by kernel_rfl
theorem xload_ent {ops : Array Oper} {rest : List Oper} {op : Oper} {a : Act} {w : World} {Q : Exit → Act → World → Prop} {x : Operand} {b o : Nat} {pc : Int} {e : Ent} (hgd : op.guard = none) (ho : op.op = .load 47 x)
    (hx : a.eval x = .pointer (some ⟨b, o, none⟩)) (hc : w.rangeAt b o (entCells pc e))
    (h : wpList Tryz.prog ops Q rest (a.put op.dst (.agg (entRow pc e))) w) : wpList Tryz.prog ops Q (op :: rest) a w :=
  wpList_load_mid hgd 47 x ho b o hx (entCells pc e) _ hc Tryz.underlying47 rfl xentry18 h
structure xEntVar (W : World) (g : Nat) (pc : Int) (e : Ent) : Prop where
  row : W.heap[g]? = some (.cells (entRow pc e) 47 (0, 0))
  lt : g < W.heap.size
theorem xEntVar.cell {W : World} {g : Nat} {pc : Int} {e : Ent} (h : xEntVar W g pc e) (j : Nat) (v : Value) (hv : (entRow pc e)[j]? = some v) : W.cell? { block := g, off := j } = some v := by
  have h1 := h.row
  simp only [World.cell?, h1]
  exact hv
theorem xEntVar.ins {W : World} {g : Nat} {pc : Int} {e : Ent} (h : xEntVar W g pc e) : W.rangeAt g 1 (insCells e.ins) := by
  intro j v hv
  refine h.cell _ _ ?_
  rcases j with _ | _ | _ | _ | _ | _ | _ | j
  all_goals first | exact hv | (simp [insCells] at hv)
theorem xEntVar.below {W W' : World} {g : Nat} {pc : Int} {e : Ent} (h : xEntVar W g pc e) (hb : Below W.heap.size W W') : xEntVar W' g pc e := ⟨by rw [hb.block _ h.lt]; exact h.row, Nat.lt_of_lt_of_le h.lt hb.size⟩
theorem xnew_entry {ops : Array Oper} {rest : List Oper} {o : Oper} {a : Act} {w : World} {Q : Exit → Act → World → Prop} (hg : o.guard = none) (ho : o.op = .alloc 47)
    (h : ∀ W1, W1.heap[w.heap.size]? = some (.cells zeros18.toArray 47 (0, 0)) → Below w.heap.size w W1 → w.heap.size < W1.heap.size → wpList Tryz.prog ops Q rest (a.put o.dst (.pointer (some ⟨w.heap.size, 0, none⟩))) W1) : wpList Tryz.prog ops Q (o :: rest) a w :=
  wpList_newvar hg _ ho zeros18.toArray xentry_zero (h _ (heap_alloc_last w _) ((Below.refl _ _).alloc (Nat.le_refl _) _) (by simp [go_sem]))
structure xRetSt (w W : World) (x5 : Nat) (g B n cap : Nat) (R : Nat → Int) (pc : Nat → Int) (E : Nat → Ent) : Prop where
  win : WinAt W g B n cap R pc E
  ev : xEntVar W x5 (pc 0) (E 0)
  row : W.heap[w.heap.size]? = some (.cells zeros18.toArray 47 (0, 0))
  bel : But2 g B w W
  lt : w.heap.size < x5
  gB : g < w.heap.size
  BB : B < w.heap.size
theorem xRetSt.below {w W W' : World} {x5 g B n cap : Nat} {R : Nat → Int} {pc : Nat → Int} {E : Nat → Ent} (s : xRetSt w W x5 g B n cap R pc E) (hb : Below W.heap.size W W') : xRetSt w W' x5 g B n cap R pc E :=
  ⟨s.win.below hb, s.ev.below hb, by rw [hb.block _ (Nat.lt_trans s.lt s.ev.lt)]; exact s.row, s.bel.trans (But2.of_below hb), s.lt, s.gB, s.BB⟩
theorem xRetSt.begin {w W0 w1 W1 : World} {g B n cap : Nat} {R : Nat → Int} {pc : Nat → Int} {E : Nat → Ent} (hw : WinAt w g B n cap R pc E)
    (r0 : W0.heap[w.heap.size]? = some (.cells zeros18.toArray 47 (0, 0))) (b0 : Below w.heap.size w W0) (s0 : w.heap.size < W0.heap.size) (h1 : Below W0.heap.size W0 w1)
    (r1 : W1.heap[w1.heap.size]? = some (.cells zeros18.toArray 47 (0, 0))) (b1 : Below w1.heap.size w1 W1) (s1 : w1.heap.size < W1.heap.size) :
    xRetSt w (W1.setRow w1.heap.size (entRow (pc 0) (E 0))) w1.heap.size g B n cap R pc E := by
  have c1 : Below w.heap.size w w1 := below_then b0 b0.size h1
  have l1 : w.heap.size < w1.heap.size := Nat.lt_of_lt_of_le s0 h1.size
  have c2 : Below w1.heap.size w1 (W1.setRow w1.heap.size (entRow (pc 0) (E 0))) := Below.setRow b1 _ (Nat.le_refl _) _
  refine ⟨(hw.below c1).below c2, ⟨setRow_heap _ _ _ _ _ _ r1, by rw [setRow_size]; exact s1⟩, ?_, But2.of_below (below_then c1 c1.size c2), l1, hw.gB, hw.BB⟩
  rw [c2.block _ l1, h1.block _ s0]
  exact r0
theorem xRetSt.drew {w W : World} {x5 g B n cap : Nat} {R : Nat → Int} {pc : Nat → Int} {E : Nat → Ent} (s : xRetSt w W x5 g B n cap R pc E) : xRetSt w W.drew x5 g B n cap R pc E :=
  have hb : Below W.heap.size W W.drew := (Below.refl _ _).drew
  ⟨s.win.below hb, s.ev.below hb, s.row, s.bel.trans (But2.of_below hb), s.lt, s.gB, s.BB⟩
theorem xRetSt.reg {w W : World} {x5 g B n cap : Nat} {R : Nat → Int} {pc : Nat → Int} {E : Nat → Ent} (s : xRetSt w W x5 g B n cap R pc E) (q : Nat) (hq : q < 32) (v : Int) : xRetSt w (W.setCell { block := g, off := q } (.int .i64 v)) x5 g B n cap (fun r => if r = q then v else R r) pc E where
  win := s.win.setReg q hq v
  ev := ⟨by rw [Below.heap_setCell _ _ _ _ (by show x5 ≠ g; have := s.lt; have := s.gB; omega)]; exact s.ev.row, by simp [World.setCell]; exact s.ev.lt⟩
  row := by rw [Below.heap_setCell _ _ _ _ (by show w.heap.size ≠ g; have := s.gB; omega)]; exact s.row
  bel := s.bel.trans (But2.cell W _ _)
  lt := s.lt
  gB := s.gB
  BB := s.BB
theorem wpList_store_int {P : Program} {ops : Array Oper} {rest : List Oper} {o : Oper} {a : Act} {w : World} {Q : Exit → Act → World → Prop} (hgd : o.guard = none) (ty : TypeId) (x y : Operand) (ho : o.op = .store ty x y)
    (b f : Nat) (k : IntKind) (n : Int) (old : Value) (hx : a.eval x = .pointer (some ⟨b, f, none⟩)) (hy : a.eval y = .int k n) (hi : (P.info? ty).map (·.size) = some 1) (hc : w.cell? ⟨b, f, none⟩ = some old) (hf : w.frozen? ⟨b, f, none⟩ = false)
    (h : wpList P ops Q rest (a.put o.dst undef) (w.setCell ⟨b, f, none⟩ (.int k n))) : wpList P ops Q (o :: rest) a w :=
  wpList_plain hgd fun K hK => by
    cases hq : P.info? ty with
    | none => simp [hq] at hi
    | some i =>
      have hs : i.size = 1 := by simpa [hq] using hi
      have hr : (storeVar ty ⟨b, f, none⟩ (.int k n)).run P w = .ok () (w.setCell ⟨b, f, none⟩ (.int k n)) := by
        simp [storeVar, Go.sizeOf, typeInfo, hq, hs, Value.cells, storeCells, hc, hf, go_sem]
      unfold Oper.wp execOp
      simp only [ho, hx, hy, Instr.storeAt, Instr.sureAddr, Sem.run_bind, Sem.run_pure, Result.andThen_ok, hr]
      exact hK _ _ h
theorem WinAt.rest {W : World} {g B m cap : Nat} {R : Nat → Int} {pc : Nat → Int} {E : Nat → Ent} (h : WinAt W g B (m + 1) cap R pc E) (A : Addr) (hA : (if cap = 1 then (some ⟨B, 0, none⟩ : Option Addr) else some ⟨B, 18, none⟩) = some A) (j : Nat) (u : Value) (hj : (restCells pc E m)[j]? = some u) : W.cell? (A.add j) = some u := by
  have ht : j < m * 18 := by
    have := (List.getElem?_eq_some_iff.1 hj).1
    rwa [restCells_len] at this
  rw [restCells_get pc E m j ht] at hj
  have hc : cap ≠ 1 := by have := h.nc; omega
  rw [if_neg hc] at hA
  obtain rfl := Option.some.inj hA
  have := h.en (j / 18 + 1) (by omega) (j % 18) u hj
  rw [Addr.add_lit]
  rw [show (j / 18 + 1) * 18 + j % 18 = 18 + j by omega] at this
  exact this
structure xApp (W w' : World) (base B' cap' m : Nat) (pc : Nat → Int) (E : Nat → Ent) : Prop where
  bel : Below W.heap.size W w'
  lo : base ≤ B'
  hi : B' < w'.heap.size
  en : ∀ k, k < m → w'.rangeAt B' (k * 18) (entCells (pc (k + 1)) (E (k + 1)))
  fz : ∀ o, w'.frozen? { block := B', off := o } = false
  nc : m ≤ cap'
theorem xappend {ops : Array Oper} {rest : List Oper} {o : Oper} {a : Act} {W : World} {Q : Exit → Act → World → Prop} {s x : Operand} {b m c : Nat} {A : Addr} {base g B cap : Nat} {R : Nat → Int} {pc : Nat → Int} {E : Nat → Ent} {d : Array Value} {td : TypeId}
    (hg : o.guard = none) (hop : o.op = Op.call { callee := Callee.builtin Builtin.append, args := #[s, x], argTypes := #[39, 39] })
    (hs : a.eval s = .slice (some ⟨b, 0, none⟩) 0 0) (hx : a.eval x = .slice (some A) m c) (hw : WinAt W g B (m + 1) cap R pc E) (hA : (if cap = 1 then (some ⟨B, 0, none⟩ : Option Addr) else some ⟨B, 18, none⟩) = some A) (hm : m ≤ 100)
    (hb : W.heap[b]? = some (.cells d td (0, 0))) (hbase : base ≤ b)
    (hK : ∀ B' cap' w', xApp W w' base B' cap' m pc E → wpList Tryz.prog ops Q rest (a.put o.dst (.slice (some ⟨B', 0, none⟩) m cap')) w') : wpList Tryz.prog ops Q (o :: rest) a W := by
  have hblt : b < W.heap.size := blk_lt hb
  obtain ⟨i0, hi0, hz, h18, hby⟩ : ∃ i0, Tryz.prog.info? 47 = some i0 ∧ i0.zero = some (.agg zeros18.toArray) ∧ i0.size = 18 ∧ i0.bytes ≤ 1000 := by
    have h1 : (Tryz.prog.info? 47).map (fun i => (i.zero, i.size, decide (i.bytes ≤ 1000))) = some (some (.agg zeros18.toArray), 18, true) := by kernel_rfl
    cases hi : Tryz.prog.info? 47 with
    | none => rw [hi] at h1; cases h1
    | some i =>
      rw [hi] at h1
      simp only [Option.map_some, Option.some.injEq, Prod.mk.injEq] at h1
      exact ⟨i, rfl, h1.1, h1.2.1, of_decide_eq_true h1.2.2⟩
  refine wpList_append_arg W hg s x 39 hop 47 i0 _ 18 i0.bytes Tryz.underlying39 hi0 hz h18 rfl rfl (by decide) b 0 0 0 [] hs rfl (fun j u hj => by simp at hj) A m c (restCells pc E m) hx (restCells_len pc E m) (fun j u hj => hw.rest A hA j u hj) (restCells_one pc E m) ?_ (by simp only [maxLen]; omega) ?_ ?_ ?_
  · intro h j hj
    rw [restCells_len] at hj
    omega
  · have : (0 + m) * i0.bytes ≤ 100 * 1000 := Nat.mul_le_mul (by omega) hby
    omega
  · intro h
    obtain rfl : m = 0 := by omega
    exact hK b 0 W ⟨Below.refl _ _, hbase, hblt, fun k hk => absurd hk (by omega), fun o => by simp [World.frozen?, hb], Nat.le_refl _⟩
  · intro h v' w' hown hgr
    rw [List.nil_append, Nat.zero_add] at hown
    obtain ⟨hl, ⟨_, hn⟩ | ⟨G, cap', cur, rfl, hG, hcur, hnc, _, hsz, htk⟩⟩ := hown
    · omega
    refine hK G cap' w' ⟨Below.grown (Below.refl _ _) hgr (Nat.le_refl _) (fun k hk => by cases hk), Nat.le_trans (Nat.le_trans hbase (Nat.le_of_lt hblt)) hG, blk_lt hcur, fun k hk j v hj => ?_, fun o => by simp [World.frozen?, hcur], hnc⟩
    have hj18 : j < 18 := (List.getElem?_eq_some_iff.1 hj).1
    have h1 : (restCells pc E m)[k * 18 + j]? = some v := by
      rw [restCells_get pc E m _ (by omega), show (k * 18 + j) / 18 = k by omega, show (k * 18 + j) % 18 = j by omega]
      exact hj
    rw [← htk, List.getElem?_take_of_lt (by omega)] at h1
    simp only [World.cell?, hcur]
    simpa using h1
theorem xRetSt.fin {w W : World} {x5 g B m cap : Nat} {R : Nat → Int} {pc : Nat → Int} {E : Nat → Ent} {W0 : World} {base B' cap' : Nat} (s : xRetSt w W x5 g B (m + 1) cap R pc E) (p : xApp W0 W base B' cap' m pc E) (hlt : w.heap.size < base) (cs : Array Value) :
    w.heap.size ≤ B' ∧ WinAt ((W.setCell { block := g, off := 32 } (.slice (some { block := B', off := 0 }) m cap')).setRow w.heap.size cs) g B' m cap' R (fun k => pc (k + 1)) (fun k => E (k + 1)) ∧
    But2 g B w ((W.setCell { block := g, off := 32 } (.slice (some { block := B', off := 0 }) m cap')).setRow w.heap.size cs) := by
  have gB := s.gB
  have BB := s.BB
  have lo := p.lo
  have hi := p.hi
  obtain ⟨W1, hW1⟩ : ∃ W1, W1 = W.setCell { block := g, off := 32 } (.slice (some { block := B', off := 0 }) m cap') := ⟨_, rfl⟩
  have k1 : ∀ b, b ≠ w.heap.size → (W1.setRow w.heap.size cs).heap[b]? = W1.heap[b]? := fun b hb => setRow_other _ _ _ _ hb
  have k2 : ∀ b, b ≠ g → W1.heap[b]? = W.heap[b]? := fun b hb => by rw [hW1]; exact Below.heap_setCell _ _ _ _ hb
  have sz : (W1.setRow w.heap.size cs).heap.size = W.heap.size := by rw [setRow_size, hW1]; simp [World.setCell]
  have hws := s.bel.size
  rw [← hW1]
  have f1 : ∀ b o, b ≠ w.heap.size → (W1.setRow w.heap.size cs).frozen? { block := b, off := o } = W.frozen? { block := b, off := o } := fun b o hb => by
    rw [frozen_of_heap (k1 b hb), hW1]; exact World.frozen?_setCell _ _ _ _
  refine ⟨by omega, ⟨?_, fun r hr => ?_, fun k hk j v hj => ?_, by rw [sz]; omega, by rw [sz]; exact hi, by omega, p.nc, fun o => by rw [f1 _ _ (by omega)]; exact s.win.fg o, fun o => by rw [f1 _ _ (by omega)]; exact p.fz o⟩, ?_⟩
  · rw [cell_of_heap (k1 g (by omega)), hW1]
    exact World.cell?_setCell_same _ _ _ s.win.sl
  · rw [cell_of_heap (k1 g (by omega)), hW1, cell_set_ne _ _ _ _ _ _ (by omega)]
    exact s.win.rg r hr
  · rw [cell_of_heap (k1 B' (by omega)), cell_of_heap (k2 B' (by omega))]
    exact p.en k hk j v hj
  · exact ⟨by rw [← s.bel.os, hW1]; rfl, by rw [← s.bel.tape, hW1]; rfl, by rw [← s.bel.output, hW1]; rfl, by rw [sz]; exact hws, fun k hk hg hB => by rw [k1 k (by omega), k2 k hg]; exact s.bel.block k hk hg hB⟩
theorem xRetSt.ev' {w W : World} {x5 g B n cap : Nat} {R : Nat → Int} {pc : Nat → Int} {E : Nat → Ent} (s : xRetSt w W x5 g B n cap R pc E) (u : Value) : (W.setCell { block := g, off := 32 } u).heap[x5]? = some (.cells (entRow (pc 0) (E 0)) 47 (0, 0)) := by
  rw [Below.heap_setCell _ _ _ _ (by show x5 ≠ g; have := s.lt; have := s.gB; omega)]; exact s.ev.row
theorem xRetSt.row' {w W : World} {x5 g B n cap : Nat} {R : Nat → Int} {pc : Nat → Int} {E : Nat → Ent} (s : xRetSt w W x5 g B n cap R pc E) (u : Value) : (W.setCell { block := g, off := 32 } u).heap[w.heap.size]? = some (.cells zeros18.toArray 47 (0, 0)) := by
  rw [Below.heap_setCell _ _ _ _ (by show w.heap.size ≠ g; have := s.gB; omega)]; exact s.row
end Go.Proofs.YtfcniikbcjmlcaaGreatDoor
end
