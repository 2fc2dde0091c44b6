/- Part KCE of the proof of spinnakerlaw19.WindowOrders: for every input the law returns true. -/
import Derived.Deep.RegionHeld3
import Derived.Test.YtfcniikbcjmlcaaGreatDoorPL
section
namespace Go.Proofs.YtfcniikbcjmlcaaGreatDoor
open Go.RowKit Go.Proofs.YtfcniikbcjmlcaaGreatDoorW.PrintWords Go.Proofs.YtfcniikbcjmlcaaGreatDoorW.PrintLast Go.Proofs.YtfcniikbcjmlcaaGreatDoorW.PrintMore
set_option linter.unusedVariables false
set_option linter.unusedSimpArgs false
structure FSt (w W : World) (x7 : Nat) (I : Ins) : Prop where
  row : W.heap[w.heap.size + 1]? = some (.cells zeros18.toArray 45 (0, 0))
  iv : InsVar W x7 I
  bel : Below w.heap.size w W
  lt : w.heap.size + 1 < x7
theorem FSt.below {w W W' : World} {x7 : Nat} {I : Ins} (s : FSt w W x7 I) (h : Below W.heap.size W W') : FSt w W' x7 I :=
  ⟨by rw [h.block _ (blk_lt s.row)]; exact s.row, s.iv.below h, below_then s.bel s.bel.size h, s.lt⟩
theorem FSt.setRow {w W : World} {x7 g : Nat} {I : Ins} (s : FSt w W x7 I) (h : W.heap[g]? = some (.cells zeros18.toArray 45 (0, 0))) (hx : x7 < g) (cs : Array Value) : FSt w (W.setRow g cs) x7 I :=
  ⟨by rw [setRow_other _ _ _ _ (by have := s.lt; omega)]; exact s.row, ⟨by rw [setRow_other _ _ _ _ (by omega)]; exact s.iv.row, by rw [setRow_size]; exact s.iv.lt⟩, Below.setRow s.bel _ (by have := s.lt; omega) _, s.lt⟩
theorem step_new_entry {ops : Array Oper} {o : Oper} {a : Act} {w : World} {K : Act → World → Prop} {Q : Exit → Act → World → Prop} {F : Prop} (hg : o.guard = none) (ho : o.op = .alloc 45)
    (h : ∀ W1, W1.heap[w.heap.size]? = some (.cells zeros18.toArray 45 (0, 0)) → Below w.heap.size w W1 → K (a.put o.dst (.pointer (some ⟨w.heap.size, 0, none⟩))) W1) :
    if Region.wanted o (yielded ops a.tmps) = true then Oper.wp Tryz.prog o a w K Q else F := by
  have hw : Region.wanted o (yielded ops a.tmps) = true := by simp [Region.wanted, hg]
  rw [if_pos hw]
  have := h _ (heap_alloc_last w _) ((Below.refl _ _).alloc (Nat.le_refl _) _)
  unfold Oper.wp
  simp [execOp, ho, Instr.alloc, entry_zero, newVar, go_sem]
  exact this
theorem step_store_row {P : Program} {ops : Array Oper} {o : Oper} {a : Act} {w : World} {K : Act → World → Prop} {Q : Exit → Act → World → Prop} {F : Prop} (hgd : o.guard = none) (ty : TypeId) (x y : Operand) (ho : o.op = .store ty x y)
    (g : Nat) (cells : Array Value) (hx : a.eval x = .pointer (some ⟨g, 0, none⟩)) (hy : a.eval y = .agg cells)
    (t : TypeId) (old : Array Value) (hg : w.heap[g]? = some (.cells old t (0, 0))) (hi : (P.info? ty).map (·.size) = some cells.size)
    (hold : old.size = cells.size) (h1 : cells.all (·.oneCell') = true) (h : K (a.put o.dst undef) (w.setRow g cells)) :
    if Region.wanted o (yielded ops a.tmps) = true then Oper.wp P o a w K Q else F := by
  have hw : Region.wanted o (yielded ops a.tmps) = true := by simp [Region.wanted, hgd]
  rw [if_pos hw]
  exact wp_store_row ty x y ho g cells hx hy t old hg hi hold h1 h
set_option maxHeartbeats 4000000 in
set_option maxRecDepth 1000000 in
theorem Fetch_calls (k b i n cap n1 c1 n2 c2 : Nat) (A1 A2 : Option Addr) (c : Int) (I : Ins) (hb : Bool) (w : World) (hG : GOK w) (hi : i < n) (hn : n ≤ 12) (hbl : b < w.heap.size)
    (hc : w.cell? { block := b, off := i } = some (.int .u32 c)) (hD : QB.dec_Decode.f k c = some (I.op, I.rd, I.a, I.b, I.imm, false, false)) (hg : Good I hb) (hbad : QB.window_bad.f 99 I.op I.rd I.a I.b I.imm false false true = some 0) :
    Calls Tryz.prog 7 #[.agg #[.slice (some { block := b, off := 0 }) n cap, .slice A1 n1 c1, .slice A2 n2 c2], .int .i64 (65536 + 4 * (i : Int)), .int .i64 0] w fun e w' => e = .returned (.agg (entRow (65536 + 4 * (i : Int)) ⟨I, 0, false⟩)) ∧ Below w.heap.size w w' := by
  have HF : ∀ W, Below w.heap.size w W → Calls Tryz.prog 23 #[.agg #[.slice (some { block := b, off := 0 }) n cap, .slice A1 n1 c1, .slice A2 n2 c2], .int .i64 (65536 + 4 * (i : Int))] W fun e w' => e = .returned (.tuple #[.agg #[.int .i64 I.op, .int .i64 I.rd, .int .i64 I.a, .int .i64 I.b, .int .i64 I.imm, .bool false, .bool false], .bool true]) ∧ Below W.heap.size W w' := fun W h =>
    image_Fetch.calls k b i n cap n1 c1 n2 c2 A1 A2 c _ _ _ _ _ _ _ W (GOK.below h hG) hi hn (Nat.lt_of_lt_of_le hbl h.size) (by rw [h.cell (by exact hbl)]; exact hc) hD
  have HBd : ∀ W, Below w.heap.size w W → Calls Tryz.prog 24 #[.agg #[.int .i64 I.op, .int .i64 I.rd, .int .i64 I.a, .int .i64 I.b, .int .i64 I.imm, .bool false, .bool false], .bool true] W fun e w' => e = .returned (.int .i64 0) ∧ Below W.heap.size W w' := fun W h =>
    QB.window_bad.calls 99 _ _ _ _ _ _ _ _ _ W (GOK.below h hG) hbad
  have o1 : (I.op == 63) = false := beq_eq_false_iff_ne.2 (by have := hg.op1; omega)
  have o2 : (I.op == 1) = false := beq_eq_false_iff_ne.2 (by have := hg.op0; omega)
  have o3 : (I.op == 2) = false := beq_eq_false_iff_ne.2 (by have := hg.op0; omega)
  have o4 : (I.op == 3) = false := beq_eq_false_iff_ne.2 (by have := hg.op0; omega)
  have o5 : (I.op == 4) = false := beq_eq_false_iff_ne.2 (by have := hg.op0; omega)
  have obr : (decide (5 ≤ I.op) && decide (I.op ≤ 10)) = false := by have := hg.op0; simp; omega
  have hp4 : wrap64 (65536 + 4 * (i : Int) + 4) = 65536 + 4 * (i : Int) + 4 := by unfold wrap64; omega
  have hp5 : IntKind.i64.wrap (65536 + 4 * (i : Int) + 4) = 65536 + 4 * (i : Int) + 4 := by rw [IntKind.wrap_i64]; omega
  have F0 : ∀ W0, Below (w.alloc (.cells #[.slice (some { block := b, off := 0 }) n cap, .slice A1 n1 c1, .slice A2 n2 c2] 28)).heap.size (w.alloc (.cells #[.slice (some { block := b, off := 0 }) n cap, .slice A1 n1 c1, .slice A2 n2 c2] 28)) W0 →
      W0.heap[w.heap.size]? = some (.cells #[.slice (some { block := b, off := 0 }) n cap, .slice A1 n1 c1, .slice A2 n2 c2] 28 (0, 0)) ∧ Below w.heap.size w W0 := by
    intro W0 h
    exact ⟨by rw [h.block _ (by simp [go_sem])]; exact heap_alloc_last w _, below_then ((Below.refl _ _).alloc (Nat.le_refl _) _) ((Below.refl _ _).alloc (Nat.le_refl _) _).size h⟩
  replace HF := Aside0.mk HF
  replace HBd := Aside0.mk HBd
  replace F0 := Aside0.mk F0
  have im3 : (Tryz.prog.info? 28).map (·.size) = some 3 := by kernel_rfl
  replace im3 := Aside0.mk im3
  clear hG hD hg hbad hc hbl
  go_enter Tryz.func7, Tryz.ntmps7
  go_wp2_with (first | (refine new_entry rfl rfl ?_; intro W0 m0 m1 m2; obtain ⟨r0, r1⟩ := F0.out _ m1; replace m0 := Aside0.mk m0; replace m1 := Aside0.mk m1; replace m2 := Aside0.mk m2; replace r0 := Aside0.mk r0; replace r1 := Aside0.mk r1) | (refine wpList_load_row rfl 28 _ rfl w.heap.size rfl 28 _ (0, 0) _ r0.out Tryz.underlying28 rfl im3.out ?_) | (go_at_call 23; (with_reducible refine (HF.out _ r1.out).mono ?_); rintro e w1 ⟨rfl, hd⟩; have b1 := Aside0.mk (below_then r1.out r1.out.size hd); have b2 := Aside0.mk hd; clear hd))
  have hres : FSt w (w1.alloc (.cells (insRow I) 31)) w1.heap.size I := by
    have e : (w.alloc (.cells #[.slice (some { block := b, off := 0 }) n cap, .slice A1 n1 c1, .slice A2 n2 c2] 28)).heap.size = w.heap.size + 1 := by simp [go_sem]
    have h0 := m0.out
    have h2 := m2.out
    rw [e] at h0 h2
    have h1 : w1.heap[w.heap.size + 1]? = some (.cells zeros18.toArray 45 (0, 0)) := by rw [b2.out.block _ h2]; exact h0
    exact ⟨blk_alloc h1 _, InsVar.new w1 I, b1.out.alloc b1.out.size _, Nat.lt_of_lt_of_le h2 b2.out.size⟩
  generalize w1.alloc _ = w2 at hres ⊢
  generalize w1.heap.size = x7 at hres ⊢
  have hres' : FSt w w2.drew x7 I := hres.below (Below.drew (Below.refl _ _))
  clear b1 b2 m0 m1 m2 r0 r1 hres
  refine wp_region_held (S := fun W => FSt w W x7 I) rfl ?_
  change wpAnyH _ _ _ _ _ _ _ _ w2.drew
  refine wpAnyH_take (i := 0) (v := ?_) rfl (by kernel_rfl) (by kernel_rfl) (by kernel_rfl) (fun _ _ _ h => h) (Or.inl ⟨by rfl, ?_⟩) hres' ?_
  case refine_2 => (intro W hS; clear hS; go_simp; try with_reducible rfl)
  try simp only [List.getElem_toArray, List.getElem_cons_zero, List.getElem_cons_succ, Act.put]
  try simp only [List.setIfInBounds_toArray, List.set_cons_zero, List.set_cons_succ]
  refine wpAnyH_take (i := 1) (v := ?_) rfl (by kernel_rfl) (by kernel_rfl) (by kernel_rfl) (fun _ _ _ h => h) (Or.inl ⟨by rfl, ?_⟩) hres' ?_
  case refine_2 => (intro W hS; have k0 := hS.iv.cell 0 _ rfl; have k1 := hS.iv.cell 1 _ rfl; have k2 := hS.iv.cell 2 _ rfl; have k3 := hS.iv.cell 3 _ rfl; have k4 := hS.iv.cell 4 _ rfl; have k5 := hS.iv.cell 5 _ rfl; have k6 := hS.iv.cell 6 _ rfl; clear hS; go_simp; try with_reducible rfl)
  try simp only [List.getElem_toArray, List.getElem_cons_zero, List.getElem_cons_succ, Act.put]
  try simp only [List.setIfInBounds_toArray, List.set_cons_zero, List.set_cons_succ]
  refine wpAnyH_take (i := 2) (v := ?_) rfl (by kernel_rfl) (by kernel_rfl) (by kernel_rfl) (fun _ _ _ h => h) (Or.inl ⟨by rfl, ?_⟩) hres' ?_
  case refine_2 => (intro W hS; clear hS; go_simp; try with_reducible rfl)
  try simp only [List.getElem_toArray, List.getElem_cons_zero, List.getElem_cons_succ, Act.put]
  try simp only [List.setIfInBounds_toArray, List.set_cons_zero, List.set_cons_succ]
  refine wpAnyH_take (i := 3) (v := ?_) rfl (by kernel_rfl) (by kernel_rfl) (by kernel_rfl) (fun _ _ _ h => h) (Or.inl ⟨by rfl, ?_⟩) hres' ?_
  case refine_2 => (intro W hS; clear hS; go_simp; try with_reducible rfl)
  try simp only [List.getElem_toArray, List.getElem_cons_zero, List.getElem_cons_succ, Act.put]
  try simp only [List.setIfInBounds_toArray, List.set_cons_zero, List.set_cons_succ]
  refine wpAnyH_take (i := 4) (v := ?_) rfl (by kernel_rfl) (by kernel_rfl) (by kernel_rfl) (fun _ _ _ h => h) (Or.inl ⟨by rfl, ?_⟩) hres' ?_
  case refine_2 => (intro W hS; have k0 := hS.iv.cell 0 _ rfl; have k1 := hS.iv.cell 1 _ rfl; have k2 := hS.iv.cell 2 _ rfl; have k3 := hS.iv.cell 3 _ rfl; have k4 := hS.iv.cell 4 _ rfl; have k5 := hS.iv.cell 5 _ rfl; have k6 := hS.iv.cell 6 _ rfl; clear hS; go_simp; try with_reducible rfl)
  try simp only [List.getElem_toArray, List.getElem_cons_zero, List.getElem_cons_succ, Act.put]
  try simp only [List.setIfInBounds_toArray, List.set_cons_zero, List.set_cons_succ]
  refine wpAnyH_take (i := 5) (v := ?_) rfl (by kernel_rfl) (by kernel_rfl) (by kernel_rfl) (fun _ _ _ h => h) (Or.inl ⟨by rfl, ?_⟩) hres' ?_
  case refine_2 => (intro W hS; clear hS; go_simp; try with_reducible rfl)
  try simp only [List.getElem_toArray, List.getElem_cons_zero, List.getElem_cons_succ, Act.put]
  try simp only [List.setIfInBounds_toArray, List.set_cons_zero, List.set_cons_succ]
  refine wpAnyH_take (i := 7) (v := ?_) rfl (by kernel_rfl) (by kernel_rfl) (by kernel_rfl) (fun _ _ _ h => h) (Or.inl ⟨by rfl, ?_⟩) hres' ?_
  case refine_2 => (intro W hS; clear hS; go_simp; try with_reducible rfl)
  try simp only [List.getElem_toArray, List.getElem_cons_zero, List.getElem_cons_succ, Act.put]
  try simp only [List.setIfInBounds_toArray, List.set_cons_zero, List.set_cons_succ]
  refine wpAnyH_ready (rs := [6, 9]) (by kernel_rfl) (by simp) ?_
  refine AllReadyH.cons rfl (fun K hK => ?_) (AllReadyH.cons rfl (fun K hK => ?_) AllReadyH.nil)
  · simp only [List.getElem_toArray, List.getElem_cons_zero, List.getElem_cons_succ]
    go_simp
    go_at_call 24
    refine (HBd.out _ hres'.bel).mono ?_
    rintro e w' ⟨rfl, hd⟩
    have s1 := hres'.below hd
    refine hK.out _ _ s1 (fun hHeld => ?_)
    try simp only [List.getElem_toArray, List.getElem_cons_zero, List.getElem_cons_succ, Act.put]
    try simp only [List.setIfInBounds_toArray, List.set_cons_zero, List.set_cons_succ]
    refine wpAnyH_take (i := 8) (v := ?_) rfl (by kernel_rfl) (by kernel_rfl) (by kernel_rfl) (fun _ _ _ h => h) (Or.inl ⟨by rfl, ?_⟩) s1 ?_
    case refine_2 => (intro W hS; clear hS; go_simp; try with_reducible rfl)
    try simp only [List.getElem_toArray, List.getElem_cons_zero, List.getElem_cons_succ, Act.put]
    try simp only [List.setIfInBounds_toArray, List.set_cons_zero, List.set_cons_succ]
    refine wpAnyH_ready (rs := [9]) (by kernel_rfl) (by simp) ?_
    refine AllReadyH.cons rfl (fun K hK => ?_) AllReadyH.nil
    refine step_new_entry rfl rfl ?_
    intro W9 h9 hb9
    have s2 := s1.below hb9
    refine hK.out _ _ s2 (fun hHeld => ?_)
    try simp only [List.getElem_toArray, List.getElem_cons_zero, List.getElem_cons_succ, Act.put]
    try simp only [List.setIfInBounds_toArray, List.set_cons_zero, List.set_cons_succ]
    refine wpAnyH_ready (rs := [10]) (by kernel_rfl) (by simp) ?_
    refine AllReadyH.cons rfl (fun K hK => ?_) AllReadyH.nil
    refine step_store_row rfl 45 _ _ rfl w'.heap.size _ rfl rfl 45 zeros18.toArray h9 entry18 rfl (by simp [Value.oneCell']) ?_
    refine hK.out _ _ (FSt.setRow s2 h9 s1.iv.lt _) (fun hHeld => ?_)
    refine wpAnyH_done (by kernel_rfl) ?_ _
    have RW := setRow_heap _ _ _ (entRow (65536 + 4 * (i : Int)) ⟨I, 0, false⟩) _ _ h9
    have hbad : ((W9).setRow w'.heap.size (entRow (65536 + 4 * (i : Int)) ⟨I, 0, false⟩)).cell? { block := w'.heap.size, off := 11 } = some (.int .i64 0) := by simp only [World.cell?, RW]; rfl
    have SS := FSt.setRow s2 h9 s1.iv.lt (entRow (65536 + 4 * (i : Int)) ⟨I, 0, false⟩)
    have hop := SS.iv.cell 0 _ rfl
    generalize (W9).setRow w'.heap.size (entRow (65536 + 4 * (i : Int)) ⟨I, 0, false⟩) = WF at RW hbad SS hop ⊢
    have hrw := Aside0.mk RW
    have hss := Aside0.mk SS
    clear RW SS
    go_wp2_with (first | (go_at_call 27; refine (Branch_any _ _).mono ?_; rintro e w' ⟨rfl, rfl⟩; rw [obr]) | (refine wpList_load_row rfl 45 _ rfl w'.heap.size rfl 45 _ (0, 0) _ hrw.out Tryz.underlying45 rfl entry18 ?_) | (refine wpList_store_row rfl 45 _ _ rfl (w.heap.size + 1) _ rfl rfl 45 _ hss.out.row entry18 rfl (by simp [Value.oneCell']) ?_))
    refine bodyPost_ret (v := .agg (entRow (65536 + 4 * (i : Int)) ⟨I, 0, false⟩)) ?h1 rfl ?h3
    case h1 => exact results_cell_row rfl _ _ (w.heap.size + 1) 45 (entRow (65536 + 4 * (i : Int)) ⟨I, 0, false⟩) (0, 0) _ rfl (setRow_heap _ _ _ _ _ _ hss.out.row) Tryz.underlying45 rfl entry18
    case h3 => exact ⟨rfl, Below.setRow hss.out.bel _ (Nat.le_succ _) _⟩
  · refine step_new_entry rfl rfl ?_
    intro W9 h9 hb9
    have s1 := hres'.below hb9
    refine hK.out _ _ s1 (fun hHeld => ?_)
    try simp only [List.getElem_toArray, List.getElem_cons_zero, List.getElem_cons_succ, Act.put]
    try simp only [List.setIfInBounds_toArray, List.set_cons_zero, List.set_cons_succ]
    refine wpAnyH_ready (rs := [6]) (by kernel_rfl) (by simp) ?_
    refine AllReadyH.cons rfl (fun K hK => ?_) AllReadyH.nil
    simp only [List.getElem_toArray, List.getElem_cons_zero, List.getElem_cons_succ]
    go_simp
    go_at_call 24
    refine (HBd.out _ s1.bel).mono ?_
    rintro e w' ⟨rfl, hd⟩
    have s2 := s1.below hd
    have h8 : w'.heap[w2.heap.size]? = some (.cells zeros18.toArray 45 (0, 0)) := (hd.block _ (blk_lt h9)).trans h9
    refine hK.out _ _ s2 (fun hHeld => ?_)
    try simp only [List.getElem_toArray, List.getElem_cons_zero, List.getElem_cons_succ, Act.put]
    try simp only [List.setIfInBounds_toArray, List.set_cons_zero, List.set_cons_succ]
    refine wpAnyH_take (i := 8) (v := ?_) rfl (by kernel_rfl) (by kernel_rfl) (by kernel_rfl) (fun _ _ _ h => h) (Or.inl ⟨by rfl, ?_⟩) s2 ?_
    case refine_2 => (intro W hS; clear hS; go_simp; try with_reducible rfl)
    try simp only [List.getElem_toArray, List.getElem_cons_zero, List.getElem_cons_succ, Act.put]
    try simp only [List.setIfInBounds_toArray, List.set_cons_zero, List.set_cons_succ]
    refine wpAnyH_ready (rs := [10]) (by kernel_rfl) (by simp) ?_
    refine AllReadyH.cons rfl (fun K hK => ?_) AllReadyH.nil
    refine step_store_row rfl 45 _ _ rfl w2.heap.size _ rfl rfl 45 zeros18.toArray h8 entry18 rfl (by simp [Value.oneCell']) ?_
    refine hK.out _ _ (FSt.setRow s2 h8 hres'.iv.lt _) (fun hHeld => ?_)
    refine wpAnyH_done (by kernel_rfl) ?_ _
    have RW := setRow_heap _ _ _ (entRow (65536 + 4 * (i : Int)) ⟨I, 0, false⟩) _ _ h8
    have hbad : (w'.setRow w2.heap.size (entRow (65536 + 4 * (i : Int)) ⟨I, 0, false⟩)).cell? { block := w2.heap.size, off := 11 } = some (.int .i64 0) := by simp only [World.cell?, RW]; rfl
    have SS := FSt.setRow s2 h8 hres'.iv.lt (entRow (65536 + 4 * (i : Int)) ⟨I, 0, false⟩)
    have hop := SS.iv.cell 0 _ rfl
    generalize w'.setRow w2.heap.size (entRow (65536 + 4 * (i : Int)) ⟨I, 0, false⟩) = WF at RW hbad SS hop ⊢
    have hrw := Aside0.mk RW
    have hss := Aside0.mk SS
    clear RW SS
    go_wp2_with (first | (go_at_call 27; refine (Branch_any _ _).mono ?_; rintro e w' ⟨rfl, rfl⟩; rw [obr]) | (refine wpList_load_row rfl 45 _ rfl w2.heap.size rfl 45 _ (0, 0) _ hrw.out Tryz.underlying45 rfl entry18 ?_) | (refine wpList_store_row rfl 45 _ _ rfl (w.heap.size + 1) _ rfl rfl 45 _ hss.out.row entry18 rfl (by simp [Value.oneCell']) ?_))
    refine bodyPost_ret (v := .agg (entRow (65536 + 4 * (i : Int)) ⟨I, 0, false⟩)) ?h1 rfl ?h3
    case h1 => exact results_cell_row rfl _ _ (w.heap.size + 1) 45 (entRow (65536 + 4 * (i : Int)) ⟨I, 0, false⟩) (0, 0) _ rfl (setRow_heap _ _ _ _ _ _ hss.out.row) Tryz.underlying45 rfl entry18
    case h3 => exact ⟨rfl, Below.setRow hss.out.bel _ (Nat.le_succ _) _⟩
end Go.Proofs.YtfcniikbcjmlcaaGreatDoor
end
