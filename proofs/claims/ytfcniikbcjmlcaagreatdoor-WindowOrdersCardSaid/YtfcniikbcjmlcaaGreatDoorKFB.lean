/- Part KFB of the proof of spinnakerlaw19.WindowOrders: for every input the law returns true. -/
import Derived.Deep.MidRow
import Derived.Deep.RegionHeld3
import Derived.Test.YtfcniikbcjmlcaaGreatDoorPN
section
namespace Go.Proofs.YtfcniikbcjmlcaaGreatDoor
open Go.RowKit Go.Proofs.YtfcniikbcjmlcaaGreatDoorW.PrintWords Go.Proofs.YtfcniikbcjmlcaaGreatDoorW.PrintLast Go.Proofs.YtfcniikbcjmlcaaGreatDoorW.PrintMore
set_option linter.unusedVariables false
set_option linter.unusedSimpArgs false
structure LawIn (w : World) (lA oA : Option Addr) (n m lb lo ob oo : Nat) (L : Nat → Ins) (q1 q2 : Nat → Bool) (O : Nat → Int) (c : Nat → Int) (mb : Nat → Bool) : Prop where
  hG : GOK w
  hl : 0 < n → lA = some ⟨lb, lo, none⟩
  ho : 0 < m → oA = some ⟨ob, oo, none⟩
  cl : ∀ k, k < n → w.rangeAt lb (lo + k * 7) (insCellsB (L k) (q1 k) (q2 k))
  co : ∀ k, k < m → w.cell? { block := ob, off := oo + k } = some (.int .i64 (O k))
  may : ∀ k, k < n → ∀ W, Calls Tryz.prog 5 #[.agg #[.int .i64 (L k).op, .int .i64 (L k).rd, .int .i64 (L k).a, .int .i64 (L k).b, .int .i64 (L k).imm, .bool (q1 k), .bool (q2 k)]] W fun e w' => e = .returned (.bool (mb k)) ∧ Below W.heap.size W w'
  ok : ∀ k, k < n → mb k = true → 22 ≤ (L k).op → (L k).op ≤ 62 → q1 k = false ∧ q2 k = false ∧ InsOK (L k) (c k)
  aw : ∀ W, GOK W → Calls Tryz.prog 4 #[] W fun e w' => e = .returned (.bool true) ∧ Below W.heap.size W w'
set_option maxHeartbeats 4000000 in
set_option maxRecDepth 1000000 in
theorem law_far (w : World) (lA oA : Option Addr) (n m lb lo ob oo lc oc : Nat) (L : Nat → Ins) (q1 q2 : Nat → Bool) (O : Nat → Int) (c : Nat → Int) (mb : Nat → Bool) (R : Nat → Int) (h : LawIn w lA oA n m lb lo ob oo L q1 q2 O c mb) (hf : 12 < n ∨ 60 < m) :
    Calls Tryz.prog 3 #[.slice lA n lc, .agg (regArr R), .slice oA m oc] w fun e w' => e = .returned (.bool true) ∧ Below w.heap.size w w' := by
  have HA : ∀ W, Below w.heap.size w W → Calls Tryz.prog 4 #[] W fun e w' => e = .returned (.bool true) ∧ Below w.heap.size w w' := fun W hb => (h.aw W (GOK.below hb h.hG)).mono fun e w' ⟨a, b⟩ => ⟨a, below_then hb hb.size b⟩
  have hb1 : ∀ o, Below w.heap.size w (w.alloc o) := fun o => (Below.refl _ _).alloc (Nat.le_refl _) o
  replace HA := Aside0.mk HA
  clear h
  by_cases h1 : 12 < n
  · have d1 : decide ((12 : Int) < (n : Int)) = true := decide_eq_true (by omega)
    clear hf h1
    go_enter Tryz.func3, Tryz.ntmps3
    go_wp2_with (first | (go_at_call 4; (with_reducible refine (HA.out _ (hb1 _)).mono ?_); rintro e w1 ⟨rfl, hd⟩; replace hd := Aside0.mk hd))
    go_ret
    exact ⟨by first | rfl | (simp; done), hd.out⟩
  · have d1 : decide ((12 : Int) < (n : Int)) = false := decide_eq_false (by omega)
    have d2 : decide ((60 : Int) < (m : Int)) = true := decide_eq_true (by omega)
    clear hf h1
    go_enter Tryz.func3, Tryz.ntmps3
    go_wp2_with (first | (go_at_call 4; (with_reducible refine (HA.out _ (hb1 _)).mono ?_); rintro e w1 ⟨rfl, hd⟩; replace hd := Aside0.mk hd))
    go_ret
    exact ⟨by first | rfl | (simp; done), hd.out⟩
theorem L1.zero {w W : World} {rb bm : Nat} {R : Nat → Int} {v ent : Value} {k : Nat} {c : Nat → Int} (s : L1 w W rb bm R v ent k c) : L1 w (W.setCell { block := rb, off := 0 } (.int .i64 0)) rb bm (fun r => if r = 0 then 0 else R r) v ent k c where
  bel := s.bel.setCell s.lr _
  im := by rw [Below.heap_setCell _ _ _ _ (Ne.symm s.ne)]; exact s.im
  rg := heap_setCell_same W rb 0 _ _ _ s.rg
  ow := s.ow.kept (grown_setCell W rb 0 _) (own_none_or fun b hb he => (s.bv b hb).2 (Option.some.inj he).symm)
  bv := s.bv
  lm := s.lm
  lr := s.lr
  ne := s.ne
theorem row_range {W : World} {b : Nat} {cs : Array Value} {t : TypeId} (h : W.heap[b]? = some (.cells cs t (0, 0))) : W.rangeAt b 0 cs.toList := fun j u hj => by
  rw [Nat.zero_add]
  exact cell_row h j u (by rw [← Array.getElem?_toList]; exact hj)
theorem l3_start1 {w W : World} {rb bm : Nat} {R : Nat → Int} {v ent : Value} {n : Nat} {c : Nat → Int} {I : Nat → Ins} (s : L1 w W rb bm R v ent n c) :
    L3 w ((W.alloc (Obj.cells (winArr R) 37)).alloc (Obj.cells (winArr R) 41)) bm W.heap.size (W.heap.size + 1) R v ent n c I (.slice none 0 0) (.slice none 0 0) (.slice none 0 0) (.slice none 0 0) 0 0 := by
  refine s.start (tg := 37) (tx := 41) (((Below.refl _ _).alloc (Nat.le_refl _) _).alloc (by simp [go_sem]) _) (blk_alloc (heap_alloc_last W _) _) ?_ (Nat.le_refl _) (Nat.le_succ _) (by omega)
  have := heap_alloc_last (W.alloc (Obj.cells (winArr R) 37)) (Obj.cells (winArr R) 41)
  simpa [go_sem] using this
theorem l3_start2 {w W : World} {rb bm : Nat} {R : Nat → Int} {v ent : Value} {n : Nat} {c : Nat → Int} {I : Nat → Ins} (s : L1 w W rb bm R v ent n c) :
    L3 w ((W.alloc (Obj.cells (winArr R) 41)).alloc (Obj.cells (winArr R) 37)) bm (W.heap.size + 1) W.heap.size R v ent n c I (.slice none 0 0) (.slice none 0 0) (.slice none 0 0) (.slice none 0 0) 0 0 := by
  refine s.start (tg := 37) (tx := 41) (((Below.refl _ _).alloc (Nat.le_refl _) _).alloc (by simp [go_sem]) _) ?_ (blk_alloc (heap_alloc_last W _) _) (Nat.le_succ _) (Nat.le_refl _) (by omega)
  have := heap_alloc_last (W.alloc (Obj.cells (winArr R) 41)) (Obj.cells (winArr R) 37)
  simpa [go_sem] using this
theorem l1_start (w : World) (R : Nat → Int) {c : Nat → Int} : L1 w (((w.alloc (Obj.cells (regArr R) 23)).alloc (Obj.cells #[.int .i64 0] 3)).alloc (Obj.cells #[.slice none 0 0, .slice none 0 0, .slice (some { block := w.heap.size + 1, off := 0 }) 1 1] 28)) w.heap.size (w.heap.size + 1 + 1) R (.slice none 0 0) (.slice (some { block := w.heap.size + 1, off := 0 }) 1 1) 0 c where
  bel := (((Below.refl _ _).alloc (Nat.le_refl _) _).alloc (by simp [go_sem]) _).alloc (by simp [go_sem]; omega) _
  im := by
    have := heap_alloc_last ((w.alloc (Obj.cells (regArr R) 23)).alloc (Obj.cells #[.int .i64 0] 3)) (Obj.cells #[.slice none 0 0, .slice none 0 0, .slice (some { block := w.heap.size + 1, off := 0 }) 1 1] 28)
    simpa [go_sem] using this
  rg := blk_alloc (blk_alloc (heap_alloc_last w _) _) _
  ow := World.ownsRow_nil _ _ _ _
  bv := fun b hb => by simp [Value.ownBlock] at hb
  lm := by omega
  lr := Nat.le_refl _
  ne := by omega
theorem load_insB {ops : Array Oper} {rest : List Oper} {op : Oper} {a : Act} {w : World} {Q : Exit → Act → World → Prop} {x : Operand} {b o : Nat} {I : Ins} {q1 q2 : Bool} (hgd : op.guard = none) (ho : op.op = .load 31 x)
    (hx : a.eval x = .pointer (some ⟨b, o, none⟩)) (hc : w.rangeAt b o (insCellsB I q1 q2))
    (h : wpList Tryz.prog ops Q rest (a.put op.dst (.agg #[.int .i64 I.op, .int .i64 I.rd, .int .i64 I.a, .int .i64 I.b, .int .i64 I.imm, .bool q1, .bool q2])) w) : wpList Tryz.prog ops Q (op :: rest) a w :=
  wpList_load_mid hgd 31 x ho b o hx (insCellsB I q1 q2) _ hc Tryz.underlying31 rfl instr7 h
def Val (L : Nat → Ins) (mb : Nat → Bool) (j : Nat) : Prop := mb j = true ∧ 22 ≤ (L j).op ∧ (L j).op ≤ 62
theorem val_succ {L : Nat → Ins} {mb : Nat → Bool} {k : Nat} (h : ∀ j, j < k → Val L mb j) (hk : Val L mb k) (j : Nat) (hj : j < k + 1) : Val L mb j := by
  rcases Nat.lt_or_ge j k with h1 | h1
  · exact h j h1
  · obtain rfl : j = k := by omega
    exact hk
set_option maxHeartbeats 4000000 in
set_option maxRecDepth 1000000 in
theorem law_near (w : World) (lA oA : Option Addr) (n m lb lo ob oo lc oc : Nat) (L : Nat → Ins) (q1 q2 : Nat → Bool) (O : Nat → Int) (c : Nat → Int) (mb : Nat → Bool) (R : Nat → Int) (h : LawIn w lA oA n m lb lo ob oo L q1 q2 O c mb) (hn : n ≤ 12) (hm : m ≤ 60) (hR : ∀ r, Is64 (R r)) :
    Calls Tryz.prog 3 #[.slice lA n lc, .agg (regArr R), .slice oA m oc] w fun e w' => e = .returned (.bool true) ∧ Below w.heap.size w w' := by
  have HA : ∀ W, Below w.heap.size w W → Calls Tryz.prog 4 #[] W fun e w' => e = .returned (.bool true) ∧ Below w.heap.size w w' := fun W hb => (h.aw W (GOK.below hb h.hG)).mono fun e w' ⟨a, b⟩ => ⟨a, below_then hb hb.size b⟩
  replace HA := Aside0.mk HA
  have hL := Aside0.mk h
  have HR := Aside0.mk hR
  clear h hR
  have d1 : decide ((12 : Int) < (n : Int)) = false := decide_eq_false (by omega)
  have d2 : decide ((60 : Int) < (m : Int)) = false := decide_eq_false (by omega)
  go_enter Tryz.func3, Tryz.ntmps3
  go_wp2_with fail
  clear d1 d2
  go_loopg [8] (n + 1) (fun kq v8 w' => ∃ k : Nat, v8 = .int .i64 (k : Int) ∧ Aside0 (kq + k = n + 1 ∧ k ≤ n ∧ ∀ j, j < k → Val L mb j) ∧ Aside0 (∃ v, L1 w w' w.heap.size (w.heap.size + 1 + 1) R v (.slice (some { block := w.heap.size + 1, off := 0 }) 1 1) k c))
  case atStart =>
    refine ⟨0, rfl, ⟨by omega, by omega, fun j hj => absurd hj (by omega)⟩, ⟨.slice none 0 0, ?_⟩⟩
    exact l1_start w R
  case round =>
    obtain ⟨k, rfl, HM, HS⟩ := hrel
    obtain ⟨hk, hkn', hall⟩ := HM.out
    obtain ⟨v, hs⟩ := HS.out
    have s0 := Aside0.mk hs
    clear HS
    by_cases hend : k = n
    · obtain rfl : n = k := hend.symm
      have HAll := Aside0.mk hall
      have e1 : decide ((n : Int) < (n : Int)) = false := by simp
      have hc10 := cell_row hs.rg 0 _ rfl
      have hf10 := frozen_row hs.rg 0
      have s1 := hs.zero
      clear hs hk hkn' hall HM s0
      go_upto_region 11 with (fail)
      generalize wr.setCell { block := w.heap.size, off := 0 } _ = w3 at s1 ⊢
      clear hc10 hf10 e1
      generalize hR0 : (fun r => if r = 0 then 0 else R r) = R0 at s1
      have HR0 : Aside0 (∀ r, Is64 (R0 r)) := ⟨fun r => by rw [← hR0]; show Is64 (if r = 0 then 0 else R r); split; exact ⟨by decide, by decide⟩; exact HR.out r⟩
      clear hR0 HR
      go_cut [9, 10] (fun s9 s10 wc => ∃ g x : Nat, s9 = .pointer (some { block := g, off := 0 }) ∧ s10 = .pointer (some { block := x, off := 0 }) ∧ Aside0 (L3 w wc (w.heap.size + 1 + 1) g x R0 v (.slice (some { block := w.heap.size + 1, off := 0 }) 1 1) n c L (.slice none 0 0) (.slice none 0 0) (.slice none 0 0) (.slice none 0 0) 0 0))
      case first =>
        refine wp_region_held (S := fun W => L1 w W w.heap.size (w.heap.size + 1 + 1) R0 v (.slice (some { block := w.heap.size + 1, off := 0 }) 1 1) n c) rfl ?_
        have s2 := s1.below (Below.drew (Below.refl _ _))
        change wpAnyH _ _ _ _ _ _ _ _ w3.drew
        generalize w3.drew = w4 at s2 ⊢
        clear s1
        refine wpAnyH_take (i := 0) (v := .agg (regArr R0)) rfl (by kernel_rfl) (by kernel_rfl) (by kernel_rfl) (fun _ _ _ h => h) (yieldsIf_load_mid (by rfl) 23 _ rfl w.heap.size 0 rfl (regArr R0).toList _ (fun W hS => row_range hS.rg) Tryz.underlying23 rfl (by kernel_rfl)) s2 ?_
        try simp only [List.getElem_toArray, List.getElem_cons_zero, List.getElem_cons_succ, Act.put]
        try simp only [List.setIfInBounds_toArray, List.set_cons_zero, List.set_cons_succ]
        refine wpAnyH_take (i := 1) (v := ?_) rfl (by kernel_rfl) (by kernel_rfl) (by kernel_rfl) (fun _ _ _ h => h) (Or.inl ⟨by rfl, ?_⟩) s2 ?_
        case refine_2 => (intro W hS; clear hS; go_simp; try with_reducible rfl)
        try simp only [List.getElem_toArray, List.getElem_cons_zero, List.getElem_cons_succ, Act.put]
        try simp only [List.setIfInBounds_toArray, List.set_cons_zero, List.set_cons_succ]
        refine wpAnyH_take (i := 3) (v := .agg (regArr R0)) rfl (by kernel_rfl) (by kernel_rfl) (by kernel_rfl) (fun _ _ _ h => h) (yieldsIf_load_mid (by rfl) 23 _ rfl w.heap.size 0 rfl (regArr R0).toList _ (fun W hS => row_range hS.rg) Tryz.underlying23 rfl (by kernel_rfl)) s2 ?_
        try simp only [List.getElem_toArray, List.getElem_cons_zero, List.getElem_cons_succ, Act.put]
        try simp only [List.setIfInBounds_toArray, List.set_cons_zero, List.set_cons_succ]
        refine wpAnyH_take (i := 4) (v := ?_) rfl (by kernel_rfl) (by kernel_rfl) (by kernel_rfl) (fun _ _ _ h => h) (Or.inl ⟨by rfl, ?_⟩) s2 ?_
        case refine_2 => (intro W hS; clear hS; go_simp; try with_reducible rfl)
        try simp only [List.getElem_toArray, List.getElem_cons_zero, List.getElem_cons_succ, Act.put]
        try simp only [List.setIfInBounds_toArray, List.set_cons_zero, List.set_cons_succ]
        refine wpAnyH_ready (rs := [2, 5]) (by kernel_rfl) (by simp) ?_
        refine AllReadyH.cons rfl (fun K hK => ?_) (AllReadyH.cons rfl (fun K hK => ?_) AllReadyH.nil)
        · have s3 := s2.below ((Below.refl _ _).alloc (Nat.le_refl _) (Obj.cells (winArr R0) 37))
          simp only [List.getElem_toArray, List.getElem_cons_zero, List.getElem_cons_succ]
          go_simp
          refine hK.out _ _ s3 (fun hHeld => ?_)
          try simp only [List.getElem_toArray, List.getElem_cons_zero, List.getElem_cons_succ, Act.put]
          try simp only [List.setIfInBounds_toArray, List.set_cons_zero, List.set_cons_succ]
          refine wpAnyH_take (i := 6) (v := ?_) rfl (by kernel_rfl) (by kernel_rfl) (by kernel_rfl) (fun _ _ _ h => h) (Or.inl ⟨by rfl, ?_⟩) s3 ?_
          case refine_2 => (intro W hS; clear hS; go_simp; try with_reducible rfl)
          try simp only [List.getElem_toArray, List.getElem_cons_zero, List.getElem_cons_succ, Act.put]
          try simp only [List.setIfInBounds_toArray, List.set_cons_zero, List.set_cons_succ]
          refine wpAnyH_ready (rs := [5]) (by kernel_rfl) (by simp) ?_
          refine AllReadyH.cons rfl (fun K hK => ?_) AllReadyH.nil
          have s4 := s3.below ((Below.refl _ _).alloc (Nat.le_refl _) (Obj.cells (winArr R0) 41))
          simp only [List.getElem_toArray, List.getElem_cons_zero, List.getElem_cons_succ]
          go_simp
          refine hK.out _ _ s4 (fun hHeld => ?_)
          try simp only [List.getElem_toArray, List.getElem_cons_zero, List.getElem_cons_succ, Act.put]
          try simp only [List.setIfInBounds_toArray, List.set_cons_zero, List.set_cons_succ]
          refine wpAnyH_take (i := 7) (v := ?_) rfl (by kernel_rfl) (by kernel_rfl) (by kernel_rfl) (fun _ _ _ h => h) (Or.inl ⟨by rfl, ?_⟩) s4 ?_
          case refine_2 => (intro W hS; clear hS; go_simp; try with_reducible rfl)
          try simp only [List.getElem_toArray, List.getElem_cons_zero, List.getElem_cons_succ, Act.put]
          try simp only [List.setIfInBounds_toArray, List.set_cons_zero, List.set_cons_succ]
          refine wpAnyH_done (by kernel_rfl) ?_ _
          go_wp2_with fail
          go_meet
          case rel => exact ⟨w4.heap.size, w4.heap.size + 1, rfl, rfl, ⟨l3_start1 s2⟩⟩

        · have s3 := s2.below ((Below.refl _ _).alloc (Nat.le_refl _) (Obj.cells (winArr R0) 41))
          simp only [List.getElem_toArray, List.getElem_cons_zero, List.getElem_cons_succ]
          go_simp
          refine hK.out _ _ s3 (fun hHeld => ?_)
          try simp only [List.getElem_toArray, List.getElem_cons_zero, List.getElem_cons_succ, Act.put]
          try simp only [List.setIfInBounds_toArray, List.set_cons_zero, List.set_cons_succ]
          refine wpAnyH_ready (rs := [2]) (by kernel_rfl) (by simp) ?_
          refine AllReadyH.cons rfl (fun K hK => ?_) AllReadyH.nil
          have s4 := s3.below ((Below.refl _ _).alloc (Nat.le_refl _) (Obj.cells (winArr R0) 37))
          simp only [List.getElem_toArray, List.getElem_cons_zero, List.getElem_cons_succ]
          go_simp
          refine hK.out _ _ s4 (fun hHeld => ?_)
          try simp only [List.getElem_toArray, List.getElem_cons_zero, List.getElem_cons_succ, Act.put]
          try simp only [List.setIfInBounds_toArray, List.set_cons_zero, List.set_cons_succ]
          refine wpAnyH_take (i := 6) (v := ?_) rfl (by kernel_rfl) (by kernel_rfl) (by kernel_rfl) (fun _ _ _ h => h) (Or.inl ⟨by rfl, ?_⟩) s4 ?_
          case refine_2 => (intro W hS; clear hS; go_simp; try with_reducible rfl)
          try simp only [List.getElem_toArray, List.getElem_cons_zero, List.getElem_cons_succ, Act.put]
          try simp only [List.setIfInBounds_toArray, List.set_cons_zero, List.set_cons_succ]
          refine wpAnyH_take (i := 7) (v := ?_) rfl (by kernel_rfl) (by kernel_rfl) (by kernel_rfl) (fun _ _ _ h => h) (Or.inl ⟨by rfl, ?_⟩) s4 ?_
          case refine_2 => (intro W hS; clear hS; go_simp; try with_reducible rfl)
          try simp only [List.getElem_toArray, List.getElem_cons_zero, List.getElem_cons_succ, Act.put]
          try simp only [List.setIfInBounds_toArray, List.set_cons_zero, List.set_cons_succ]
          refine wpAnyH_done (by kernel_rfl) ?_ _
          go_wp2_with fail
          go_meet
          case rel => exact ⟨w4.heap.size + 1, w4.heap.size, rfl, rfl, ⟨l3_start2 s2⟩⟩
      case rest =>
        obtain ⟨g, x, rfl, rfl, H3⟩ := hcut
        go_wp2_with fail
        go_loopg [11] (n + 1) (fun kq v11 w' => ∃ k : Nat, v11 = .int .i64 (k : Int) ∧ Aside0 (kq + k = n + 1 ∧ k ≤ n) ∧ Aside0 (∃ v1 v2, L3 w w' (w.heap.size + 1 + 1) g x R0 v (.slice (some { block := w.heap.size + 1, off := 0 }) 1 1) n c L v1 v1 v2 v2 k k ∧ (∃ A cap, v1 = .slice A k cap) ∧ (∃ A cap, v2 = .slice A k cap)))
        case atStart => exact ⟨0, rfl, ⟨by omega, by omega⟩, ⟨_, _, H3.out, ⟨_, _, rfl⟩, ⟨_, _, rfl⟩⟩⟩
        case round =>
          obtain ⟨k, rfl, HM, HS⟩ := hrel
          obtain ⟨v1, v2, s3, f1, f2⟩ := HS.out
          obtain ⟨hk, hkn'⟩ := HM.out
          clear HS
          by_cases hend : k = n
          · obtain rfl : n = k := hend.symm
            obtain ⟨A0, c0, rfl⟩ := own_form s3.ow
            obtain ⟨B, B', s4⟩ := s3.fin (R0 := R0) f1 f2
            have hI : Aside0 (LawI L R0 n) := ⟨⟨fun k hk => (hL.out.ok k hk (HAll.out k hk).1 (HAll.out k hk).2.1 (HAll.out k hk).2.2).2.2.good, HR0.out, hn⟩⟩
            have im3 : Aside0 ((Tryz.prog.info? 28).map (·.size) = some 3) := ⟨by kernel_rfl⟩
            have e1 : decide ((n : Int) < (n : Int)) = false := by simp
            clear H3 s3 f1 f2 hk hkn' HM
            replace s4 := Aside0.mk s4
            go_wp2_with fail
            clear e1
            go_loopg [13] (m + 1) (fun kq v13 w' => ∃ k : Nat, v13 = .int .i64 (k : Int) ∧ Aside0 (kq + k = m + 1 ∧ k ≤ m) ∧ Aside0 (∃ E, LSt w w' (w.heap.size + 1 + 1) g x B B' #[.slice A0 n c0, .slice none 0 0, .slice (some { block := w.heap.size + 1, off := 0 }) 1 1] n R0 R0 (pcs 0) E (seqE L R0 0) ∧ Inv L R0 n E))
            case atStart => exact ⟨0, rfl, ⟨by omega, by omega⟩, ⟨_, s4.out, seqE_inv L R0 n 0⟩⟩
            case round =>
              clear s4
              obtain ⟨k, rfl, HM, HS⟩ := hrel
              obtain ⟨E, s4, hv⟩ := HS.out
              obtain ⟨hk, hkm⟩ := HM.out
              clear HS
              replace s4 := Aside0.mk s4
              replace hv := Aside0.mk hv
              by_cases hend : k = m
              · obtain rfl : m = k := hend.symm
                have e1 : decide ((m : Int) < (m : Int)) = false := by simp
                clear hk hkm HM
                go_wp2_with fail
                clear e1
                go_loopg [14] (n + 1) (fun kq v14 w' => ∃ k : Nat, v14 = .int .i64 (k : Int) ∧ Aside0 (kq + k = n + 1 ∧ k ≤ n) ∧ Aside0 (∃ E, LSt w w' (w.heap.size + 1 + 1) g x B B' #[.slice A0 n c0, .slice none 0 0, .slice (some { block := w.heap.size + 1, off := 0 }) 1 1] n R0 R0 (pcs 0) E (seqE L R0 k) ∧ Inv L R0 n E ∧ ∀ j, j < k → (E j).d = true))
                case atStart => exact ⟨0, rfl, ⟨by omega, by omega⟩, ⟨E, s4.out, hv.out, fun j hj => absurd hj (by omega)⟩⟩
                case round =>
                  clear s4 hv
                  clear E
                  obtain ⟨k, rfl, HM, HS⟩ := hrel
                  obtain ⟨E, s4, hv, hdn⟩ := HS.out
                  obtain ⟨hk, hkn⟩ := HM.out
                  clear HS
                  by_cases hend : k = n
                  · obtain rfl : n = k := hend.symm
                    have s5 := Aside0.mk (s4.toRet hv hdn)
                    have e1 : decide ((n : Int) < (n : Int)) = false := by simp
                    clear hk hkn HM s4 hv hdn
                    clear E
                    go_wp2_with fail
                    clear e1
                    go_loopg [15] (n + 1) (fun kq v15 w' => ∃ k : Nat, v15 = .int .i64 (k : Int) ∧ Aside0 (kq + k = n + 1 ∧ k ≤ n) ∧ Aside0 (∃ B2, LSt w w' (w.heap.size + 1 + 1) g x B B2 #[.slice A0 n c0, .slice none 0 0, .slice (some { block := w.heap.size + 1, off := 0 }) 1 1] (n - k) (seqR L R0 k) (seqR L R0 k) (pcs k) (doneF L R0 k) (doneF L R0 k)))
                    case atStart => exact ⟨0, rfl, ⟨by omega, by omega⟩, ⟨_, s5.out⟩⟩
                    case round =>
                      clear s5
                      obtain ⟨k, rfl, HM, HS⟩ := hrel
                      obtain ⟨B2, s5⟩ := HS.out
                      obtain ⟨hk, hkn⟩ := HM.out
                      clear HS
                      replace s5 := Aside0.mk s5
                      by_cases hend : k = n
                      · obtain rfl : n = k := hend.symm
                        have e1 : decide ((n : Int) < (n : Int)) = false := by simp
                        clear hk hkn HM
                        go_upto_region 32 with (fail)
                        clear e1
                        obtain ⟨A, cap, hsl⟩ := s5.out.win.sl
                        rw [Nat.sub_self] at hsl
                        refine wp_region_held (S := fun W => LSt w W (w.heap.size + 1 + 1) g x B B2 #[.slice A0 n c0, .slice none 0 0, .slice (some { block := w.heap.size + 1, off := 0 }) 1 1] (n - n) (seqR L R0 n) (seqR L R0 n) (pcs n) (doneF L R0 n) (doneF L R0 n) ∧ W.cell? { block := g, off := 32 } = some (.slice A 0 cap)) rfl ?_
                        have s6 := s5.out.below (Below.drew (Below.refl _ _))
                        change wpAnyH _ _ _ _ _ _ _ _ wr.drew
                        have hS6 := And.intro s6 (show wr.drew.cell? { block := g, off := 32 } = some (.slice A 0 cap) from hsl)
                        generalize wr.drew = w6 at s6 hS6 ⊢
                        clear s5 hsl
                        refine wpAnyH_take (i := 0) (v := ?_) rfl (by kernel_rfl) (by kernel_rfl) (by kernel_rfl) (fun _ _ _ h => h) (Or.inl ⟨by rfl, ?_⟩) hS6 ?_
                        case refine_2 => (intro W hS; clear hS; go_simp; try with_reducible rfl)
                        try simp only [List.getElem_toArray, List.getElem_cons_zero, List.getElem_cons_succ, Act.put]
                        try simp only [List.setIfInBounds_toArray, List.set_cons_zero, List.set_cons_succ]
                        refine wpAnyH_take (i := 1) (v := ?_) rfl (by kernel_rfl) (by kernel_rfl) (by kernel_rfl) (fun _ _ _ h => h) (Or.inl ⟨by rfl, ?_⟩) hS6 ?_
                        case refine_2 => (intro W hS; clear hS; go_simp; try with_reducible rfl)
                        try simp only [List.getElem_toArray, List.getElem_cons_zero, List.getElem_cons_succ, Act.put]
                        try simp only [List.setIfInBounds_toArray, List.set_cons_zero, List.set_cons_succ]
                        refine wpAnyH_take (i := 2) (v := ?_) rfl (by kernel_rfl) (by kernel_rfl) (by kernel_rfl) (fun _ _ _ h => h) (Or.inl ⟨by rfl, ?_⟩) hS6 ?_
                        case refine_2 => (intro W hS; clear hS; go_simp; try with_reducible rfl)
                        try simp only [List.getElem_toArray, List.getElem_cons_zero, List.getElem_cons_succ, Act.put]
                        try simp only [List.setIfInBounds_toArray, List.set_cons_zero, List.set_cons_succ]
                        refine wpAnyH_take (i := 3) (v := ?_) rfl (by kernel_rfl) (by kernel_rfl) (by kernel_rfl) (fun _ _ _ h => h) (Or.inl ⟨by rfl, ?_⟩) hS6 ?_
                        case refine_2 => (intro W hS; have k3 := hS.2; clear hS; go_simp; try with_reducible rfl)
                        try simp only [List.getElem_toArray, List.getElem_cons_zero, List.getElem_cons_succ, Act.put]
                        try simp only [List.setIfInBounds_toArray, List.set_cons_zero, List.set_cons_succ]
                        refine wpAnyH_take (i := 4) (v := ?_) rfl (by kernel_rfl) (by kernel_rfl) (by kernel_rfl) (fun _ _ _ h => h) (Or.inl ⟨by rfl, ?_⟩) hS6 ?_
                        case refine_2 => (intro W hS; clear hS; go_simp; try with_reducible rfl)
                        try simp only [List.getElem_toArray, List.getElem_cons_zero, List.getElem_cons_succ, Act.put]
                        try simp only [List.setIfInBounds_toArray, List.set_cons_zero, List.set_cons_succ]
                        refine wpAnyH_take (i := 5) (v := ?_) rfl (by kernel_rfl) (by kernel_rfl) (by kernel_rfl) (fun _ _ _ h => h) (Or.inl ⟨by rfl, ?_⟩) hS6 ?_
                        case refine_2 => (intro W hS; clear hS; go_simp; try with_reducible rfl)
                        try simp only [List.getElem_toArray, List.getElem_cons_zero, List.getElem_cons_succ, Act.put]
                        try simp only [List.setIfInBounds_toArray, List.set_cons_zero, List.set_cons_succ]
                        refine wpAnyH_take (i := 6) (v := ?_) rfl (by kernel_rfl) (by kernel_rfl) (by kernel_rfl) (fun _ _ _ h => h) (Or.inl ⟨by rfl, ?_⟩) hS6 ?_
                        case refine_2 => (intro W hS; clear hS; go_simp; try with_reducible rfl)
                        try simp only [List.getElem_toArray, List.getElem_cons_zero, List.getElem_cons_succ, Act.put]
                        try simp only [List.setIfInBounds_toArray, List.set_cons_zero, List.set_cons_succ]
                        refine wpAnyH_take (i := 7) (v := ?_) rfl (by kernel_rfl) (by kernel_rfl) (by kernel_rfl) (fun _ _ _ h => h) (Or.inl ⟨by rfl, ?_⟩) hS6 ?_
                        case refine_2 => (intro W hS; clear hS; go_simp; try with_reducible rfl)
                        try simp only [List.getElem_toArray, List.getElem_cons_zero, List.getElem_cons_succ, Act.put]
                        try simp only [List.setIfInBounds_toArray, List.set_cons_zero, List.set_cons_succ]
                        refine wpAnyH_take (i := 8) (v := ?_) rfl (by kernel_rfl) (by kernel_rfl) (by kernel_rfl) (fun _ _ _ h => h) (Or.inl ⟨by rfl, ?_⟩) hS6 ?_
                        case refine_2 => (intro W hS; clear hS; go_simp; try with_reducible rfl)
                        try simp only [List.getElem_toArray, List.getElem_cons_zero, List.getElem_cons_succ, Act.put]
                        try simp only [List.setIfInBounds_toArray, List.set_cons_zero, List.set_cons_succ]
                        refine wpAnyH_take (i := 9) (v := ?_) rfl (by kernel_rfl) (by kernel_rfl) (by kernel_rfl) (fun _ _ _ h => h) (Or.inl ⟨by rfl, ?_⟩) hS6 ?_
                        case refine_2 => (intro W hS; clear hS; go_simp; try with_reducible rfl)
                        try simp only [List.getElem_toArray, List.getElem_cons_zero, List.getElem_cons_succ, Act.put]
                        try simp only [List.setIfInBounds_toArray, List.set_cons_zero, List.set_cons_succ]
                        refine wpAnyH_take (i := 10) (v := .agg (regArr (seqR L R0 n))) rfl (by kernel_rfl) (by kernel_rfl) (by kernel_rfl) (fun _ _ _ h => h) (yieldsIf_load_mid (by rfl) 23 _ rfl g 0 rfl (regArr (seqR L R0 n)).toList _ (fun W hS => regs_range hS.1.win) Tryz.underlying23 rfl (by kernel_rfl)) hS6 ?_
                        try simp only [List.getElem_toArray, List.getElem_cons_zero, List.getElem_cons_succ, Act.put]
                        try simp only [List.setIfInBounds_toArray, List.set_cons_zero, List.set_cons_succ]
                        refine wpAnyH_take (i := 11) (v := ?_) rfl (by kernel_rfl) (by kernel_rfl) (by kernel_rfl) (fun _ _ _ h => h) (Or.inl ⟨by rfl, ?_⟩) hS6 ?_
                        case refine_2 => (intro W hS; clear hS; go_simp; try with_reducible rfl)
                        try simp only [List.getElem_toArray, List.getElem_cons_zero, List.getElem_cons_succ, Act.put]
                        try simp only [List.setIfInBounds_toArray, List.set_cons_zero, List.set_cons_succ]
                        refine wpAnyH_take (i := 12) (v := ?_) rfl (by kernel_rfl) (by kernel_rfl) (by kernel_rfl) (fun _ _ _ h => h) (Or.inl ⟨by rfl, ?_⟩) hS6 ?_
                        case refine_2 => (intro W hS; clear hS; go_simp; try with_reducible rfl)
                        try simp only [List.getElem_toArray, List.getElem_cons_zero, List.getElem_cons_succ, Act.put]
                        try simp only [List.setIfInBounds_toArray, List.set_cons_zero, List.set_cons_succ]
                        refine wpAnyH_take (i := 13) (v := ?_) rfl (by kernel_rfl) (by kernel_rfl) (by kernel_rfl) (fun _ _ _ h => h) (Or.inl ⟨by rfl, ?_⟩) hS6 ?_
                        case refine_2 => (intro W hS; clear hS; go_simp; try with_reducible rfl)
                        try simp only [List.getElem_toArray, List.getElem_cons_zero, List.getElem_cons_succ, Act.put]
                        try simp only [List.setIfInBounds_toArray, List.set_cons_zero, List.set_cons_succ]
                        refine wpAnyH_take (i := 14) (v := .agg (regArr (seqR L R0 n))) rfl (by kernel_rfl) (by kernel_rfl) (by kernel_rfl) (fun _ _ _ h => h) (yieldsIf_load_mid (by rfl) 23 _ rfl x 0 rfl (regArr (seqR L R0 n)).toList _ (fun W hS => regs_range hS.1.xwin) Tryz.underlying23 rfl (by kernel_rfl)) hS6 ?_
                        try simp only [List.getElem_toArray, List.getElem_cons_zero, List.getElem_cons_succ, Act.put]
                        try simp only [List.setIfInBounds_toArray, List.set_cons_zero, List.set_cons_succ]
                        refine wpAnyH_take (i := 15) (v := ?_) rfl (by kernel_rfl) (by kernel_rfl) (by kernel_rfl) (fun _ _ _ h => h) (Or.inl ⟨by rfl, ?_⟩) hS6 ?_
                        case refine_2 => (intro W hS; clear hS; have hq := eq_in_regs W (seqR L R0 n); go_simp; try with_reducible rfl)
                        try simp only [List.getElem_toArray, List.getElem_cons_zero, List.getElem_cons_succ, Act.put]
                        try simp only [List.setIfInBounds_toArray, List.set_cons_zero, List.set_cons_succ]
                        refine wpAnyH_take (i := 16) (v := ?_) rfl (by kernel_rfl) (by kernel_rfl) (by kernel_rfl) (fun _ _ _ h => h) (Or.inl ⟨by rfl, ?_⟩) hS6 ?_
                        case refine_2 => (intro W hS; clear hS; go_simp; try with_reducible rfl)
                        try simp only [List.getElem_toArray, List.getElem_cons_zero, List.getElem_cons_succ, Act.put]
                        try simp only [List.setIfInBounds_toArray, List.set_cons_zero, List.set_cons_succ]
                        refine wpAnyH_take (i := 17) (v := ?_) rfl (by kernel_rfl) (by kernel_rfl) (by kernel_rfl) (fun _ _ _ h => h) (Or.inl ⟨by rfl, ?_⟩) hS6 ?_
                        case refine_2 => (intro W hS; clear hS; go_simp; try with_reducible rfl)
                        try simp only [List.getElem_toArray, List.getElem_cons_zero, List.getElem_cons_succ, Act.put]
                        try simp only [List.setIfInBounds_toArray, List.set_cons_zero, List.set_cons_succ]
                        refine wpAnyH_ready (rs := [18]) (by kernel_rfl) (by simp) ?_
                        refine AllReadyH.cons rfl (fun K hK => ?_) AllReadyH.nil
                        simp only [List.getElem_toArray, List.getElem_cons_zero, List.getElem_cons_succ]
                        go_simp
                        go_at_call 4
                        refine (hL.out.aw w6 (GOK.below s6.bel hL.out.hG)).mono ?_
                        rintro e w7 ⟨rfl, hd⟩
                        have hS7 := And.intro (s6.below hd) ((hd.cell (p := { block := g, off := 32 }) (by exact s6.win.lt)).trans hS6.2)
                        refine hK.out _ _ hS7 (fun hHeld => ?_)
                        try simp only [List.getElem_toArray, List.getElem_cons_zero, List.getElem_cons_succ, Act.put]
                        try simp only [List.setIfInBounds_toArray, List.set_cons_zero, List.set_cons_succ]
                        refine wpAnyH_take (i := 19) (v := ?_) rfl (by kernel_rfl) (by kernel_rfl) (by kernel_rfl) (fun _ _ _ h => h) (Or.inl ⟨by rfl, ?_⟩) hS7 ?_
                        case refine_2 => (intro W hS; clear hS; go_simp; try with_reducible rfl)
                        try simp only [List.getElem_toArray, List.getElem_cons_zero, List.getElem_cons_succ, Act.put]
                        try simp only [List.setIfInBounds_toArray, List.set_cons_zero, List.set_cons_succ]
                        refine wpAnyH_take (i := 20) (v := ?_) rfl (by kernel_rfl) (by kernel_rfl) (by kernel_rfl) (fun _ _ _ h => h) (Or.inl ⟨by rfl, ?_⟩) hS7 ?_
                        case refine_2 => (intro W hS; clear hS; go_simp; try with_reducible rfl)
                        try simp only [List.getElem_toArray, List.getElem_cons_zero, List.getElem_cons_succ, Act.put]
                        try simp only [List.setIfInBounds_toArray, List.set_cons_zero, List.set_cons_succ]
                        refine wpAnyH_done (by kernel_rfl) ?_ _
                        have hbf := Aside0.mk hS7.1.bel
                        clear hS6 hS7 hd s6
                        go_wp2_with fail
                        go_ret
                        exact ⟨by first | rfl | (simp; done), hbf.out⟩

                      · have hkn' : k < n := by omega
                        have e1 : decide ((k : Int) < (n : Int)) = true := decide_eq_true (by omega)
                        have p0 : (0 : Int) ≤ (k : Int) := by omega
                        have p1 : (k : Int) ≤ 12 := by omega
                        have hp : wrap64 ((k : Int) + 1) = ((k + 1 : Nat) : Int) := by unfold wrap64; omega
                        obtain ⟨kk, rfl⟩ : ∃ kk, gk = kk + 1 := ⟨gk - 1, by omega⟩
                        have HX := Aside0.mk (s5.out.retire hL.out.hG hI.out k hkn')
                        have HY : Aside0 (∀ w1, WinQ True w1 g B (n - k - 1) (seqR L R0 (k + 1)) (pcs (k + 1)) (doneF L R0 (k + 1)) → WinQ False w1 x B2 (n - k) (seqR L R0 k) (pcs k) (doneF L R0 k) → But2 g B wr w1 → Calls Tryz.prog 11 #[.pointer (some { block := x, off := 0 })] w1 fun e w' => (∃ v, e = .returned v) ∧ ∃ B3, LSt w w' (w.heap.size + 1 + 1) g x B B3 #[.slice A0 n c0, .slice none 0 0, .slice (some { block := w.heap.size + 1, off := 0 }) 1 1] (n - (k + 1)) (seqR L R0 (k + 1)) (seqR L R0 (k + 1)) (pcs (k + 1)) (doneF L R0 (k + 1)) (doneF L R0 (k + 1))) :=
                          ⟨fun w1 q1 q2 hb => (LSt.xretire hI.out k _ hkn' w1 (below_but2 s5.out.bel s5.out.lg s5.out.lB hb) (by rw [hb.block _ (blk_lt s5.out.im) s5.out.n1 s5.out.n3]; exact s5.out.im) q1 q2 s5.out).mono fun e w' ⟨he, B3, hh⟩ => ⟨he, B3, LSt.next hkn' s5.out hb.size hh⟩⟩
                        clear hend
                        go_wp2_with (first | (go_at_call 10; (with_reducible refine HX.out.mono ?_); rintro e w5 ⟨⟨b5, rfl⟩, q1, q2, q3⟩; replace HY := Aside0.mk (HY.out w5 q1 q2 q3); clear q1 q2 q3) | (go_at_call 11; (with_reducible refine HY.out.mono ?_); rintro e w6 ⟨⟨b6, rfl⟩, B3, s6⟩; replace s6 := Aside0.mk s6))
                        go_roundg kk
                        case measure => omega
                        case rel => exact ⟨k + 1, by first | rfl | (simp; done), ⟨by omega, by omega⟩, ⟨B3, s6.out⟩⟩
                  · have hkn' : k < n := by omega
                    have e1 : decide ((k : Int) < (n : Int)) = true := decide_eq_true (by omega)
                    have p0 : (0 : Int) ≤ (k : Int) := by omega
                    have p1 : (k : Int) ≤ 12 := by omega
                    have hp : wrap64 ((k : Int) + 1) = ((k + 1 : Nat) : Int) := by unfold wrap64; omega
                    obtain ⟨kk, rfl⟩ : ∃ kk, gk = kk + 1 := ⟨gk - 1, by omega⟩
                    have him := Aside0.mk s4.im
                    have HX := Aside0.mk (s4.exec A0 none (some { block := w.heap.size + 1, off := 0 }) n c0 0 0 1 1 hL.out.hG hI.out hv (k : Int))
                    clear hend s4 hv
                    replace hdn := Aside0.mk hdn
                    go_wp2_with (first | (refine wpList_load_row rfl 28 _ rfl (w.heap.size + 1 + 1) rfl 28 _ (0, 0) _ him.out Tryz.underlying28 rfl im3.out ?_) | (go_at_call 8; (with_reducible refine HX.out.mono ?_); rintro e w5 ⟨⟨b5, rfl⟩, E2, s5, hv2, hmo, hnew⟩; clear him HX; have him := Aside0.mk s5.im; replace s5 := Aside0.mk s5; replace hv2 := Aside0.mk hv2; replace hmo := Aside0.mk hmo; replace hnew := Aside0.mk hnew) | (go_at_call 9; (with_reducible refine (s5.out.xexec A0 none (some { block := w.heap.size + 1, off := 0 }) n c0 0 0 1 1 hI.out k hkn').mono ?_); rintro e w6 ⟨⟨b6, rfl⟩, s6⟩; clear s5 him; replace s6 := Aside0.mk s6))
                    go_roundg kk
                    case measure => omega
                    case rel => exact ⟨k + 1, by first | rfl | (simp; done), ⟨by omega, by omega⟩, ⟨E2, s6.out, hv2.out, fun j hj => by rcases Nat.lt_or_ge j k with h | h; exact (hmo.out j (by omega) (hdn.out j h)); exact (hnew.out j (by omega) (by omega) (fun i hi => hdn.out i (by omega)))⟩⟩
              · have hkm' : k < m := by omega
                obtain rfl := hL.out.ho (by omega)
                have hco := hL.out.co k hkm'
                have hob : ob < w.heap.size := World.block_lt_of_cell? w _ hco
                have e1 : decide ((k : Int) < (m : Int)) = true := decide_eq_true (by omega)
                have p0 : (0 : Int) ≤ (k : Int) := by omega
                have p1 : (k : Int) < (m : Int) := by omega
                have hp : wrap64 ((k : Int) + 1) = ((k + 1 : Nat) : Int) := by unfold wrap64; omega
                obtain ⟨kk, rfl⟩ : ∃ kk, gk = kk + 1 := ⟨gk - 1, by omega⟩
                clear hend
                go_wp2_with fail
                refine wp_region_held (S := fun W => W.heap[w.heap.size + 1 + 1]? = some (Obj.cells #[.slice A0 n c0, .slice none 0 0, .slice (some { block := w.heap.size + 1, off := 0 }) 1 1] 28 (0, 0)) ∧ Below w.heap.size w W) rfl ?_
                have s6 := s4.out.below (Below.drew (Below.refl _ _))
                change wpAnyH _ _ _ _ _ _ _ _ wr.drew
                generalize wr.drew = w6 at s6 ⊢
                clear s4
                have hS6 := And.intro s6.im s6.bel
                refine wpAnyH_take (i := 0) (v := ?_) rfl (by kernel_rfl) (by kernel_rfl) (by kernel_rfl) (fun _ _ _ h => h) (Or.inl ⟨by rfl, ?_⟩) hS6 ?_
                case refine_2 => (intro W hS; clear hS; go_simp; try with_reducible rfl)
                try simp only [List.getElem_toArray, List.getElem_cons_zero, List.getElem_cons_succ, Act.put]
                try simp only [List.setIfInBounds_toArray, List.set_cons_zero, List.set_cons_succ]
                refine wpAnyH_take (i := 1) (v := .agg #[.slice A0 n c0, .slice none 0 0, .slice (some { block := w.heap.size + 1, off := 0 }) 1 1]) rfl (by kernel_rfl) (by kernel_rfl) (by kernel_rfl) (fun _ _ _ h => h) (yieldsIf_load_mid (by rfl) 28 _ rfl (w.heap.size + 1 + 1) 0 rfl #[.slice A0 n c0, .slice none 0 0, .slice (some { block := w.heap.size + 1, off := 0 }) 1 1].toList _ (fun W hS => row_range hS.1) Tryz.underlying28 rfl im3.out) hS6 ?_
                try simp only [List.getElem_toArray, List.getElem_cons_zero, List.getElem_cons_succ, Act.put]
                try simp only [List.setIfInBounds_toArray, List.set_cons_zero, List.set_cons_succ]
                refine wpAnyH_take (i := 2) (v := ?_) rfl (by kernel_rfl) (by kernel_rfl) (by kernel_rfl) (fun _ _ _ h => h) (Or.inl ⟨by rfl, ?_⟩) hS6 ?_
                case refine_2 => (intro W hS; clear hS; go_simp; try with_reducible rfl)
                try simp only [List.getElem_toArray, List.getElem_cons_zero, List.getElem_cons_succ, Act.put]
                try simp only [List.setIfInBounds_toArray, List.set_cons_zero, List.set_cons_succ]
                refine wpAnyH_take (i := 3) (v := ?_) rfl (by kernel_rfl) (by kernel_rfl) (by kernel_rfl) (fun _ _ _ h => h) (Or.inl ⟨by rfl, ?_⟩) hS6 ?_
                case refine_2 => (intro W hS; clear hS; go_simp; try with_reducible rfl)
                try simp only [List.getElem_toArray, List.getElem_cons_zero, List.getElem_cons_succ, Act.put]
                try simp only [List.setIfInBounds_toArray, List.set_cons_zero, List.set_cons_succ]
                refine wpAnyH_take (i := 4) (v := ?_) rfl (by kernel_rfl) (by kernel_rfl) (by kernel_rfl) (fun _ _ _ h => h) (Or.inl ⟨by rfl, ?_⟩) hS6 ?_
                case refine_2 => (intro W hS; clear hS; go_simp; try with_reducible rfl)
                try simp only [List.getElem_toArray, List.getElem_cons_zero, List.getElem_cons_succ, Act.put]
                try simp only [List.setIfInBounds_toArray, List.set_cons_zero, List.set_cons_succ]
                refine wpAnyH_take (i := 5) (v := ?_) rfl (by kernel_rfl) (by kernel_rfl) (by kernel_rfl) (fun _ _ _ h => h) (Or.inl ⟨by rfl, ?_⟩) hS6 ?_
                case refine_2 => (intro W hS; have k5 := hco; rw [← hS.2.cell (by exact hob)] at k5; clear hS; go_simp; try with_reducible rfl)
                try simp only [List.getElem_toArray, List.getElem_cons_zero, List.getElem_cons_succ, Act.put]
                try simp only [List.setIfInBounds_toArray, List.set_cons_zero, List.set_cons_succ]
                refine wpAnyH_ready (rs := [6]) (by kernel_rfl) (by simp) ?_
                refine AllReadyH.cons rfl (fun K hK => ?_) AllReadyH.nil
                simp only [List.getElem_toArray, List.getElem_cons_zero, List.getElem_cons_succ]
                go_simp
                go_at_call 8
                refine (s6.exec A0 none (some { block := w.heap.size + 1, off := 0 }) n c0 0 0 1 1 hL.out.hG hI.out hv.out (O k)).mono ?_
                rintro e w' ⟨⟨b, rfl⟩, E2, s7, hv2, _, _⟩
                refine hK.out _ _ ⟨s7.im, s7.bel⟩ (fun hHeld => ?_)
                refine wpAnyH_done (by kernel_rfl) ?_ _
                clear s6 hv hS6
                replace s7 := Aside0.mk s7
                replace hv2 := Aside0.mk hv2
                go_wp2_with fail
                go_roundg kk
                case measure => omega
                case rel => exact ⟨k + 1, by first | rfl | (simp; done), ⟨by omega, by omega⟩, ⟨E2, s7.out, hv2.out⟩⟩

          · have hkn : k < n := by omega
            obtain ⟨y1, y2, y3⟩ := HAll.out k hkn
            obtain ⟨z1, z2, z3⟩ := hL.out.ok k hkn y1 y2 y3
            obtain ⟨cb, cp, rfl, hcb, hcd⟩ := s3.code k hkn
            have him := Aside0.mk s3.im
            have HF := Aside0.mk (z3.fetch cb k n cp 0 0 1 1 none (some { block := w.heap.size + 1, off := 0 }) wr (GOK.below s3.bel hL.out.hG) hkn hn hcb hcd)
            have im3 : Aside0 ((Tryz.prog.info? 28).map (·.size) = some 3) := ⟨by kernel_rfl⟩
            have e1 : decide ((k : Int) < (n : Int)) = true := decide_eq_true (by omega)
            have p0 : (0 : Int) ≤ (k : Int) := by omega
            have p1 : (k : Int) ≤ 12 := by omega
            have hp : wrap64 ((k : Int) + 1) = ((k + 1 : Nat) : Int) := by unfold wrap64; omega
            have hk12 : k ≤ 100 := by omega
            obtain ⟨kk, rfl⟩ : ∃ kk, gk = kk + 1 := ⟨gk - 1, by omega⟩
            replace s3 := Aside0.mk s3
            clear y1 y2 y3 z1 z2 z3 hcb hcd hend f1 f2 H3
            go_upto_region 16 with (first | (refine wpList_load_row rfl 28 _ rfl (w.heap.size + 1 + 1) rfl 28 _ (0, 0) _ him.out Tryz.underlying28 rfl im3.out ?_) | (go_at_call 7; (with_reducible refine HF.out.mono ?_); rintro e w1 ⟨rfl, hd⟩; have s4 := Aside0.mk (s3.out.below hd); clear hd) | (refine new_entry (w := w1) rfl rfl ?_; intro W1 m0 m1 m2; replace m0 := Aside0.mk m0; replace m1 := Aside0.mk m1; replace m2 := Aside0.mk m2) | ((refine wpList_store_row rfl 45 _ _ rfl w1.heap.size (entRow (65536 + 4 * (k : Int)) ⟨L k, 0, false⟩) rfl rfl 45 _ m0.out entry18 rfl (by simp [Value.oneCell']) ?_); have s5 : L3E w (W1.setRow w1.heap.size (entRow (65536 + 4 * (k : Int)) ⟨L k, 0, false⟩)) (w.heap.size + 1 + 1) g x w1.heap.size R0 (.slice (some { block := cb, off := 0 }) n cp) (.slice (some { block := w.heap.size + 1, off := 0 }) 1 1) n c L v1 v1 v2 v2 k k (65536 + 4 * (k : Int)) ⟨L k, 0, false⟩ := L3E.start s4.out (Below.setRow m1.out _ (Nat.le_refl _) _) ⟨setRow_heap _ _ _ _ _ _ m0.out, by rw [setRow_size]; exact m2.out⟩ (Nat.le_refl _); generalize W1.setRow w1.heap.size (entRow (65536 + 4 * (k : Int)) ⟨L k, 0, false⟩) = W2 at s5 ⊢; generalize w1.heap.size = eb at s5 ⊢; clear m0 m1 m2 s4; replace s5 := Aside0.mk s5))
            simp only [Act.put]
            simp only [List.setIfInBounds_toArray, List.set_cons_zero, List.set_cons_succ]
            go_cut [12] (fun s12 wc => s12 = .pointer (some { block := eb, off := 0 }) ∧ Aside0 (∃ B1 cap1, L3E w wc (w.heap.size + 1 + 1) g x eb R0 (.slice (some { block := cb, off := 0 }) n cp) (.slice (some { block := w.heap.size + 1, off := 0 }) 1 1) n c L (.slice (some { block := B1, off := 0 }) (k + 1) cap1) (.slice (some { block := B1, off := 0 }) (k + 1) cap1) v2 v2 (k + 1) k (65536 + 4 * (k : Int)) ⟨L k, 0, false⟩))
            case first =>
              refine wp_region_held (S := fun W => EntVar W eb (65536 + 4 * (k : Int)) ⟨L k, 0, false⟩) rfl ?_
              have s6 := s5.out.below (Below.drew (Below.refl _ _))
              change wpAnyH _ _ _ _ _ _ _ _ W2.drew
              generalize W2.drew = w6 at s6 ⊢
              clear s5
              refine wpAnyH_take (i := 0) (v := ?_) rfl (by kernel_rfl) (by kernel_rfl) (by kernel_rfl) (fun _ _ _ h => h) (Or.inl ⟨by rfl, ?_⟩) s6.ev ?_
              case refine_2 => (intro W hS; clear hS; go_simp; try with_reducible rfl)
              try simp only [List.getElem_toArray, List.getElem_cons_zero, List.getElem_cons_succ, Act.put]
              try simp only [List.setIfInBounds_toArray, List.set_cons_zero, List.set_cons_succ]
              refine wpAnyH_take (i := 1) (v := ?_) rfl (by kernel_rfl) (by kernel_rfl) (by kernel_rfl) (fun _ _ _ h => h) (Or.inl ⟨by rfl, ?_⟩) s6.ev ?_
              case refine_2 => (intro W hS; clear hS; go_simp; try with_reducible rfl)
              try simp only [List.getElem_toArray, List.getElem_cons_zero, List.getElem_cons_succ, Act.put]
              try simp only [List.setIfInBounds_toArray, List.set_cons_zero, List.set_cons_succ]
              refine wpAnyH_take (i := 2) (v := ?_) rfl (by kernel_rfl) (by kernel_rfl) (by kernel_rfl) (fun _ _ _ h => h) (Or.inl ⟨by rfl, ?_⟩) s6.ev ?_
              case refine_2 => (intro W hS; clear hS; go_simp; try with_reducible rfl)
              try simp only [List.getElem_toArray, List.getElem_cons_zero, List.getElem_cons_succ, Act.put]
              try simp only [List.setIfInBounds_toArray, List.set_cons_zero, List.set_cons_succ]
              refine wpAnyH_take (i := 3) (v := ?_) rfl (by kernel_rfl) (by kernel_rfl) (by kernel_rfl) (fun _ _ _ h => h) (Or.inl ⟨by rfl, ?_⟩) s6.ev ?_
              case refine_2 => (intro W hS; clear hS; go_simp; try with_reducible rfl)
              try simp only [List.getElem_toArray, List.getElem_cons_zero, List.getElem_cons_succ, Act.put]
              try simp only [List.setIfInBounds_toArray, List.set_cons_zero, List.set_cons_succ]
              refine wpAnyH_take (i := 5) (v := .agg (entRow (65536 + 4 * (k : Int)) ⟨L k, 0, false⟩)) rfl (by kernel_rfl) (by kernel_rfl) (by kernel_rfl) (fun _ _ _ h => h) (yieldsIf_load_mid (by rfl) 45 _ rfl eb 0 rfl (entRow (65536 + 4 * (k : Int)) ⟨L k, 0, false⟩).toList _ (fun W hS => row_range hS.row) Tryz.underlying45 rfl entry18) s6.ev ?_
              try simp only [List.getElem_toArray, List.getElem_cons_zero, List.getElem_cons_succ, Act.put]
              try simp only [List.setIfInBounds_toArray, List.set_cons_zero, List.set_cons_succ]
              refine wpAnyH_ready (rs := [4, 6]) (by kernel_rfl) (by simp) ?_
              refine AllReadyH.cons rfl (fun K hK => ?_) (AllReadyH.cons rfl (fun K hK => ?_) AllReadyH.nil)
              · have hc4 := s6.st.sl
                simp only [List.getElem_toArray, List.getElem_cons_zero, List.getElem_cons_succ]
                go_simp
                refine hK.out _ _ s6.ev (fun hHeld => ?_)
                clear hc4
                try simp only [List.getElem_toArray, List.getElem_cons_zero, List.getElem_cons_succ, Act.put]
                try simp only [List.setIfInBounds_toArray, List.set_cons_zero, List.set_cons_succ]
                refine wpAnyH_ready (rs := [6]) (by kernel_rfl) (by simp) ?_
                refine AllReadyH.cons rfl (fun K hK => ?_) AllReadyH.nil
                refine step_bs_ent 45 rfl rfl Tryz.underlying35 (by kernel_rfl) (entRow (65536 + 4 * (k : Int)) ⟨L k, 0, false⟩) rfl rfl ?_
                intro W7 h7 hb7
                have s7 := s6.below hb7
                clear hb7
                refine hK.out _ _ s7.ev (fun hHeld => ?_)
                try simp only [List.getElem_toArray, List.getElem_cons_zero, List.getElem_cons_succ, Act.put]
                try simp only [List.setIfInBounds_toArray, List.set_cons_zero, List.set_cons_succ]
                refine wpAnyH_ready (rs := [7]) (by kernel_rfl) (by simp) ?_
                refine AllReadyH.cons rfl (fun K hK => ?_) AllReadyH.nil
                refine step_app_ent1 rfl rfl (by omega) rfl s7 rfl (by rw [← pcs0]; exact h7) ?_
                clear h7
                intro gb cp7 W8 s8
                refine hK.out _ _ s8.ev (fun hHeld => ?_)
                try simp only [List.getElem_toArray, List.getElem_cons_zero, List.getElem_cons_succ, Act.put]
                try simp only [List.setIfInBounds_toArray, List.set_cons_zero, List.set_cons_succ]
                refine wpAnyH_take (i := 8) (v := ?_) rfl (by kernel_rfl) (by kernel_rfl) (by kernel_rfl) (fun _ _ _ h => h) (Or.inl ⟨by rfl, ?_⟩) s8.ev ?_
                case refine_2 => (intro W hS; clear hS; go_simp; try with_reducible rfl)
                try simp only [List.getElem_toArray, List.getElem_cons_zero, List.getElem_cons_succ, Act.put]
                try simp only [List.setIfInBounds_toArray, List.set_cons_zero, List.set_cons_succ]
                refine wpAnyH_take (i := 9) (v := ?_) rfl (by kernel_rfl) (by kernel_rfl) (by kernel_rfl) (fun _ _ _ h => h) (Or.inl ⟨by rfl, ?_⟩) s8.ev ?_
                case refine_2 => (intro W hS; clear hS; go_simp; try with_reducible rfl)
                try simp only [List.getElem_toArray, List.getElem_cons_zero, List.getElem_cons_succ, Act.put]
                try simp only [List.setIfInBounds_toArray, List.set_cons_zero, List.set_cons_succ]
                refine wpAnyH_ready (rs := [10]) (by kernel_rfl) (by simp) ?_
                refine AllReadyH.cons rfl (fun K hK => ?_) AllReadyH.nil
                have hc2 := s8.st.sl
                have hf2 := s8.st.fg 32
                simp only [List.getElem_toArray, List.getElem_cons_zero, List.getElem_cons_succ]
                go_simp
                have s9 := s8.store1
                refine hK.out _ _ s9.ev (fun hHeld => ?_)
                refine wpAnyH_done (by kernel_rfl) ?_ _
                clear hc2 hf2 s8
                replace s9 := Aside0.mk s9
                go_wp2_with fail
                go_meet
                case rel => exact ⟨rfl, ⟨_, _, s9.out⟩⟩

              · refine step_bs_ent 45 rfl rfl Tryz.underlying35 (by kernel_rfl) (entRow (65536 + 4 * (k : Int)) ⟨L k, 0, false⟩) rfl rfl ?_
                intro W7 h7 hb7
                have s7 := s6.below hb7
                clear hb7
                refine hK.out _ _ s7.ev (fun hHeld => ?_)
                try simp only [List.getElem_toArray, List.getElem_cons_zero, List.getElem_cons_succ, Act.put]
                try simp only [List.setIfInBounds_toArray, List.set_cons_zero, List.set_cons_succ]
                refine wpAnyH_ready (rs := [4]) (by kernel_rfl) (by simp) ?_
                refine AllReadyH.cons rfl (fun K hK => ?_) AllReadyH.nil
                have hc4 := s7.st.sl
                simp only [List.getElem_toArray, List.getElem_cons_zero, List.getElem_cons_succ]
                go_simp
                refine hK.out _ _ s7.ev (fun hHeld => ?_)
                clear hc4
                try simp only [List.getElem_toArray, List.getElem_cons_zero, List.getElem_cons_succ, Act.put]
                try simp only [List.setIfInBounds_toArray, List.set_cons_zero, List.set_cons_succ]
                refine wpAnyH_ready (rs := [7]) (by kernel_rfl) (by simp) ?_
                refine AllReadyH.cons rfl (fun K hK => ?_) AllReadyH.nil
                refine step_app_ent1 rfl rfl (by omega) rfl s7 rfl (by rw [← pcs0]; exact h7) ?_
                clear h7
                intro gb cp7 W8 s8
                refine hK.out _ _ s8.ev (fun hHeld => ?_)
                try simp only [List.getElem_toArray, List.getElem_cons_zero, List.getElem_cons_succ, Act.put]
                try simp only [List.setIfInBounds_toArray, List.set_cons_zero, List.set_cons_succ]
                refine wpAnyH_take (i := 8) (v := ?_) rfl (by kernel_rfl) (by kernel_rfl) (by kernel_rfl) (fun _ _ _ h => h) (Or.inl ⟨by rfl, ?_⟩) s8.ev ?_
                case refine_2 => (intro W hS; clear hS; go_simp; try with_reducible rfl)
                try simp only [List.getElem_toArray, List.getElem_cons_zero, List.getElem_cons_succ, Act.put]
                try simp only [List.setIfInBounds_toArray, List.set_cons_zero, List.set_cons_succ]
                refine wpAnyH_take (i := 9) (v := ?_) rfl (by kernel_rfl) (by kernel_rfl) (by kernel_rfl) (fun _ _ _ h => h) (Or.inl ⟨by rfl, ?_⟩) s8.ev ?_
                case refine_2 => (intro W hS; clear hS; go_simp; try with_reducible rfl)
                try simp only [List.getElem_toArray, List.getElem_cons_zero, List.getElem_cons_succ, Act.put]
                try simp only [List.setIfInBounds_toArray, List.set_cons_zero, List.set_cons_succ]
                refine wpAnyH_ready (rs := [10]) (by kernel_rfl) (by simp) ?_
                refine AllReadyH.cons rfl (fun K hK => ?_) AllReadyH.nil
                have hc2 := s8.st.sl
                have hf2 := s8.st.fg 32
                simp only [List.getElem_toArray, List.getElem_cons_zero, List.getElem_cons_succ]
                go_simp
                have s9 := s8.store1
                refine hK.out _ _ s9.ev (fun hHeld => ?_)
                refine wpAnyH_done (by kernel_rfl) ?_ _
                clear hc2 hf2 s8
                replace s9 := Aside0.mk s9
                go_wp2_with fail
                go_meet
                case rel => exact ⟨rfl, ⟨_, _, s9.out⟩⟩


            case rest =>
              obtain ⟨rfl, HB⟩ := hcut
              obtain ⟨B1, cap1, s5⟩ := HB.out
              clear HB
              replace s5 := Aside0.mk s5
              go_upto_region 17 with (fail)
              generalize wc = W2 at s5 ⊢
              refine wp_region_held (S := fun W => EntVar W eb (65536 + 4 * (k : Int)) ⟨L k, 0, false⟩) rfl ?_
              have s6 := s5.out.below (Below.drew (Below.refl _ _))
              change wpAnyH _ _ _ _ _ _ _ _ W2.drew
              generalize W2.drew = w6 at s6 ⊢
              clear s5
              refine wpAnyH_take (i := 0) (v := ?_) rfl (by kernel_rfl) (by kernel_rfl) (by kernel_rfl) (fun _ _ _ h => h) (Or.inl ⟨by rfl, ?_⟩) s6.ev ?_
              case refine_2 => (intro W hS; clear hS; go_simp; try with_reducible rfl)
              try simp only [List.getElem_toArray, List.getElem_cons_zero, List.getElem_cons_succ, Act.put]
              try simp only [List.setIfInBounds_toArray, List.set_cons_zero, List.set_cons_succ]
              refine wpAnyH_take (i := 1) (v := ?_) rfl (by kernel_rfl) (by kernel_rfl) (by kernel_rfl) (fun _ _ _ h => h) (Or.inl ⟨by rfl, ?_⟩) s6.ev ?_
              case refine_2 => (intro W hS; clear hS; go_simp; try with_reducible rfl)
              try simp only [List.getElem_toArray, List.getElem_cons_zero, List.getElem_cons_succ, Act.put]
              try simp only [List.setIfInBounds_toArray, List.set_cons_zero, List.set_cons_succ]
              refine wpAnyH_take (i := 2) (v := ?_) rfl (by kernel_rfl) (by kernel_rfl) (by kernel_rfl) (fun _ _ _ h => h) (Or.inl ⟨by rfl, ?_⟩) s6.ev ?_
              case refine_2 => (intro W hS; clear hS; go_simp; try with_reducible rfl)
              try simp only [List.getElem_toArray, List.getElem_cons_zero, List.getElem_cons_succ, Act.put]
              try simp only [List.setIfInBounds_toArray, List.set_cons_zero, List.set_cons_succ]
              refine wpAnyH_take (i := 3) (v := ?_) rfl (by kernel_rfl) (by kernel_rfl) (by kernel_rfl) (fun _ _ _ h => h) (Or.inl ⟨by rfl, ?_⟩) s6.ev ?_
              case refine_2 => (intro W hS; clear hS; go_simp; try with_reducible rfl)
              try simp only [List.getElem_toArray, List.getElem_cons_zero, List.getElem_cons_succ, Act.put]
              try simp only [List.setIfInBounds_toArray, List.set_cons_zero, List.set_cons_succ]
              refine wpAnyH_take (i := 5) (v := .agg (entRow (65536 + 4 * (k : Int)) ⟨L k, 0, false⟩)) rfl (by kernel_rfl) (by kernel_rfl) (by kernel_rfl) (fun _ _ _ h => h) (yieldsIf_load_mid (by rfl) 45 _ rfl eb 0 rfl (entRow (65536 + 4 * (k : Int)) ⟨L k, 0, false⟩).toList _ (fun W hS => row_range hS.row) Tryz.underlying45 rfl entry18) s6.ev ?_
              try simp only [List.getElem_toArray, List.getElem_cons_zero, List.getElem_cons_succ, Act.put]
              try simp only [List.setIfInBounds_toArray, List.set_cons_zero, List.set_cons_succ]
              refine wpAnyH_ready (rs := [4, 6]) (by kernel_rfl) (by simp) ?_
              refine AllReadyH.cons rfl (fun K hK => ?_) (AllReadyH.cons rfl (fun K hK => ?_) AllReadyH.nil)
              · have hc4 := s6.st.xsl
                simp only [List.getElem_toArray, List.getElem_cons_zero, List.getElem_cons_succ]
                go_simp
                refine hK.out _ _ s6.ev (fun hHeld => ?_)
                clear hc4
                try simp only [List.getElem_toArray, List.getElem_cons_zero, List.getElem_cons_succ, Act.put]
                try simp only [List.setIfInBounds_toArray, List.set_cons_zero, List.set_cons_succ]
                refine wpAnyH_ready (rs := [6]) (by kernel_rfl) (by simp) ?_
                refine AllReadyH.cons rfl (fun K hK => ?_) AllReadyH.nil
                refine step_bs_ent 47 rfl rfl Tryz.underlying39 (by kernel_rfl) (entRow (65536 + 4 * (k : Int)) ⟨L k, 0, false⟩) rfl rfl ?_
                intro W7 h7 hb7
                have s7 := s6.below hb7
                clear hb7
                refine hK.out _ _ s7.ev (fun hHeld => ?_)
                try simp only [List.getElem_toArray, List.getElem_cons_zero, List.getElem_cons_succ, Act.put]
                try simp only [List.setIfInBounds_toArray, List.set_cons_zero, List.set_cons_succ]
                refine wpAnyH_ready (rs := [7]) (by kernel_rfl) (by simp) ?_
                refine AllReadyH.cons rfl (fun K hK => ?_) AllReadyH.nil
                refine step_app_ent2 rfl rfl (by omega) rfl s7 rfl (by rw [← pcs0]; exact h7) ?_
                clear h7
                intro gb cp7 W8 s8
                refine hK.out _ _ s8.ev (fun hHeld => ?_)
                try simp only [List.getElem_toArray, List.getElem_cons_zero, List.getElem_cons_succ, Act.put]
                try simp only [List.setIfInBounds_toArray, List.set_cons_zero, List.set_cons_succ]
                refine wpAnyH_take (i := 8) (v := ?_) rfl (by kernel_rfl) (by kernel_rfl) (by kernel_rfl) (fun _ _ _ h => h) (Or.inl ⟨by rfl, ?_⟩) s8.ev ?_
                case refine_2 => (intro W hS; clear hS; go_simp; try with_reducible rfl)
                try simp only [List.getElem_toArray, List.getElem_cons_zero, List.getElem_cons_succ, Act.put]
                try simp only [List.setIfInBounds_toArray, List.set_cons_zero, List.set_cons_succ]
                refine wpAnyH_take (i := 9) (v := ?_) rfl (by kernel_rfl) (by kernel_rfl) (by kernel_rfl) (fun _ _ _ h => h) (Or.inl ⟨by rfl, ?_⟩) s8.ev ?_
                case refine_2 => (intro W hS; clear hS; go_simp; try with_reducible rfl)
                try simp only [List.getElem_toArray, List.getElem_cons_zero, List.getElem_cons_succ, Act.put]
                try simp only [List.setIfInBounds_toArray, List.set_cons_zero, List.set_cons_succ]
                refine wpAnyH_ready (rs := [10]) (by kernel_rfl) (by simp) ?_
                refine AllReadyH.cons rfl (fun K hK => ?_) AllReadyH.nil
                have hc2 := s8.st.xsl
                have hf2 := s8.st.fx 32
                simp only [List.getElem_toArray, List.getElem_cons_zero, List.getElem_cons_succ]
                go_simp
                have s9 := s8.store2
                refine hK.out _ _ s9.ev (fun hHeld => ?_)
                refine wpAnyH_done (by kernel_rfl) ?_ _
                clear hc2 hf2 s8
                replace s9 := Aside0.mk s9
                go_wp2_with fail
                go_roundg kk
                case measure => omega
                case rel => exact ⟨k + 1, by first | rfl | (simp; done), ⟨by omega, by omega⟩, ⟨_, _, s9.out.st, ⟨_, _, rfl⟩, ⟨_, _, rfl⟩⟩⟩

              · refine step_bs_ent 47 rfl rfl Tryz.underlying39 (by kernel_rfl) (entRow (65536 + 4 * (k : Int)) ⟨L k, 0, false⟩) rfl rfl ?_
                intro W7 h7 hb7
                have s7 := s6.below hb7
                clear hb7
                refine hK.out _ _ s7.ev (fun hHeld => ?_)
                try simp only [List.getElem_toArray, List.getElem_cons_zero, List.getElem_cons_succ, Act.put]
                try simp only [List.setIfInBounds_toArray, List.set_cons_zero, List.set_cons_succ]
                refine wpAnyH_ready (rs := [4]) (by kernel_rfl) (by simp) ?_
                refine AllReadyH.cons rfl (fun K hK => ?_) AllReadyH.nil
                have hc4 := s7.st.xsl
                simp only [List.getElem_toArray, List.getElem_cons_zero, List.getElem_cons_succ]
                go_simp
                refine hK.out _ _ s7.ev (fun hHeld => ?_)
                clear hc4
                try simp only [List.getElem_toArray, List.getElem_cons_zero, List.getElem_cons_succ, Act.put]
                try simp only [List.setIfInBounds_toArray, List.set_cons_zero, List.set_cons_succ]
                refine wpAnyH_ready (rs := [7]) (by kernel_rfl) (by simp) ?_
                refine AllReadyH.cons rfl (fun K hK => ?_) AllReadyH.nil
                refine step_app_ent2 rfl rfl (by omega) rfl s7 rfl (by rw [← pcs0]; exact h7) ?_
                clear h7
                intro gb cp7 W8 s8
                refine hK.out _ _ s8.ev (fun hHeld => ?_)
                try simp only [List.getElem_toArray, List.getElem_cons_zero, List.getElem_cons_succ, Act.put]
                try simp only [List.setIfInBounds_toArray, List.set_cons_zero, List.set_cons_succ]
                refine wpAnyH_take (i := 8) (v := ?_) rfl (by kernel_rfl) (by kernel_rfl) (by kernel_rfl) (fun _ _ _ h => h) (Or.inl ⟨by rfl, ?_⟩) s8.ev ?_
                case refine_2 => (intro W hS; clear hS; go_simp; try with_reducible rfl)
                try simp only [List.getElem_toArray, List.getElem_cons_zero, List.getElem_cons_succ, Act.put]
                try simp only [List.setIfInBounds_toArray, List.set_cons_zero, List.set_cons_succ]
                refine wpAnyH_take (i := 9) (v := ?_) rfl (by kernel_rfl) (by kernel_rfl) (by kernel_rfl) (fun _ _ _ h => h) (Or.inl ⟨by rfl, ?_⟩) s8.ev ?_
                case refine_2 => (intro W hS; clear hS; go_simp; try with_reducible rfl)
                try simp only [List.getElem_toArray, List.getElem_cons_zero, List.getElem_cons_succ, Act.put]
                try simp only [List.setIfInBounds_toArray, List.set_cons_zero, List.set_cons_succ]
                refine wpAnyH_ready (rs := [10]) (by kernel_rfl) (by simp) ?_
                refine AllReadyH.cons rfl (fun K hK => ?_) AllReadyH.nil
                have hc2 := s8.st.xsl
                have hf2 := s8.st.fx 32
                simp only [List.getElem_toArray, List.getElem_cons_zero, List.getElem_cons_succ]
                go_simp
                have s9 := s8.store2
                refine hK.out _ _ s9.ev (fun hHeld => ?_)
                refine wpAnyH_done (by kernel_rfl) ?_ _
                clear hc2 hf2 s8
                replace s9 := Aside0.mk s9
                go_wp2_with fail
                go_roundg kk
                case measure => omega
                case rel => exact ⟨k + 1, by first | rfl | (simp; done), ⟨by omega, by omega⟩, ⟨_, _, s9.out.st, ⟨_, _, rfl⟩, ⟨_, _, rfl⟩⟩⟩


    · have hkn : k < n := by omega
      clear hend hall
      obtain rfl := hL.out.hl (by omega)
      have hrow := hL.out.cl k hkn
      have hlb : lb < w.heap.size := World.block_lt_of_cell? w _ (hrow 0 _ rfl)
      have hbel := hs.bel
      have e1 : decide ((k : Int) < (n : Int)) = true := decide_eq_true (by omega)
      have p0 : (0 : Int) ≤ (k : Int) := by omega
      have p1 : (k : Int) < (n : Int) := by omega
      have hp : wrap64 ((k : Int) + 1) = ((k + 1 : Nat) : Int) := by unfold wrap64; omega
      have HI : Aside0 (wr.rangeAt lb (lo + k * 7) (insCellsB (L k) (q1 k) (q2 k))) := ⟨fun j u hj => by rw [hbel.cell (by exact hlb)]; exact hrow j u hj⟩
      have HMay := Aside0.mk (hL.out.may k hkn wr)
      have HK : Aside0 (∀ W, Below wr.heap.size wr W → W.cell? { block := lb, off := lo + k * 7 } = some (.int .i64 (L k).op) ∧ L1 w W w.heap.size (w.heap.size + 1 + 1) R v (.slice (some { block := w.heap.size + 1, off := 0 }) 1 1) k c) := ⟨fun W hd => ⟨by
        have := hrow 0 _ rfl
        rw [← (hs.below hd).bel.cell (by exact hlb)] at this
        exact this, hs.below hd⟩⟩
      obtain ⟨kk, rfl⟩ : ∃ kk, gk = kk + 1 := ⟨gk - 1, by omega⟩
      clear hs hbel hrow
      by_cases hval : Val L mb k
      · obtain ⟨v1, v2, v3⟩ := hval
        have b1 : decide ((L k).op < 22) = false := decide_eq_false (by omega)
        have b2 : decide (62 < (L k).op) = false := decide_eq_false (by omega)
        have HVal : Aside0 (Val L mb k) := ⟨v1, v2, v3⟩
        obtain ⟨z1, z2, z3⟩ := hL.out.ok k hkn v1 v2 v3
        have HQ1 := Aside0.mk z1
        have HQ2 := Aside0.mk z2
        have HC := Aside0.mk z3
        rw [v1] at HMay
        clear v1 v2 v3 z1 z2 z3
        go_wp2_with (first | (refine load_insB rfl rfl rfl HI.out ?_) | (go_at_call 5; (with_reducible refine HMay.out.mono ?_); rintro e wq ⟨rfl, hd'⟩; obtain ⟨c1, s0⟩ := HK.out _ hd'; replace s0 := Aside0.mk s0; clear hd'))
        clear c1
        refine wp_region_held (S := fun W => Below w.heap.size w W) rfl ?_
        have s1 := s0.out.below (Below.drew (Below.refl _ _))
        change wpAnyH _ _ _ _ _ _ _ _ wq.drew
        generalize wq.drew = w5 at s1 ⊢
        clear s0
        refine wpAnyH_take (i := 0) (v := ?_) rfl (by kernel_rfl) (by kernel_rfl) (by kernel_rfl) (fun _ _ _ h => h) (Or.inl ⟨by rfl, ?_⟩) s1.bel ?_
        case refine_2 => (intro W hS; clear hS; go_simp; try with_reducible rfl)
        try simp only [List.getElem_toArray, List.getElem_cons_zero, List.getElem_cons_succ, Act.put]
        try simp only [List.setIfInBounds_toArray, List.set_cons_zero, List.set_cons_succ]
        refine wpAnyH_take (i := 2) (v := ?_) rfl (by kernel_rfl) (by kernel_rfl) (by kernel_rfl) (fun _ _ _ h => h) (Or.inl ⟨by rfl, ?_⟩) s1.bel ?_
        case refine_2 => (intro W hS; clear hS; go_simp; try with_reducible rfl)
        try simp only [List.getElem_toArray, List.getElem_cons_zero, List.getElem_cons_succ, Act.put]
        try simp only [List.setIfInBounds_toArray, List.set_cons_zero, List.set_cons_succ]
        refine wpAnyH_take (i := 3) (v := ?_) rfl (by kernel_rfl) (by kernel_rfl) (by kernel_rfl) (fun _ _ _ h => h) (Or.inl ⟨by rfl, ?_⟩) s1.bel ?_
        case refine_2 => (intro W hS; clear hS; go_simp; try with_reducible rfl)
        try simp only [List.getElem_toArray, List.getElem_cons_zero, List.getElem_cons_succ, Act.put]
        try simp only [List.setIfInBounds_toArray, List.set_cons_zero, List.set_cons_succ]
        refine wpAnyH_take (i := 4) (v := ?_) rfl (by kernel_rfl) (by kernel_rfl) (by kernel_rfl) (fun _ _ _ h => h) (Or.inl ⟨by rfl, ?_⟩) s1.bel ?_
        case refine_2 => (intro W hS; clear hS; go_simp; try with_reducible rfl)
        try simp only [List.getElem_toArray, List.getElem_cons_zero, List.getElem_cons_succ, Act.put]
        try simp only [List.setIfInBounds_toArray, List.set_cons_zero, List.set_cons_succ]
        refine wpAnyH_take (i := 5) (v := ?_) rfl (by kernel_rfl) (by kernel_rfl) (by kernel_rfl) (fun _ _ _ h => h) (Or.inl ⟨by rfl, ?_⟩) s1.bel ?_
        case refine_2 => (intro W hS; have hrow := hL.out.cl k hkn; have k0 := (hrow 0 _ rfl); have k1 := (hrow 1 _ rfl); have k2 := (hrow 2 _ rfl); have k3 := (hrow 3 _ rfl); have k4 := (hrow 4 _ rfl); have k5 := (hrow 5 _ rfl); have k6 := (hrow 6 _ rfl); clear hrow; rw [Nat.add_zero] at k0; rw [← hS.cell (by exact hlb)] at k0 k1 k2 k3 k4 k5 k6; simp only [HQ1.out, HQ2.out] at k5 k6; clear hS; go_simp; try with_reducible rfl)
        try simp only [List.getElem_toArray, List.getElem_cons_zero, List.getElem_cons_succ, Act.put]
        try simp only [List.setIfInBounds_toArray, List.set_cons_zero, List.set_cons_succ]
        refine wpAnyH_ready (rs := [1, 6]) (by kernel_rfl) (by simp) ?_
        refine AllReadyH.cons rfl (fun K hK => ?_) (AllReadyH.cons rfl (fun K hK => ?_) AllReadyH.nil)
        · have hc1 := cell_row s1.im 0 _ rfl
          simp only [List.getElem_toArray, List.getElem_cons_zero, List.getElem_cons_succ]
          go_simp
          refine hK.out _ _ s1.bel (fun hHeld => ?_)
          clear hc1
          try simp only [List.getElem_toArray, List.getElem_cons_zero, List.getElem_cons_succ, Act.put]
          try simp only [List.setIfInBounds_toArray, List.set_cons_zero, List.set_cons_succ]
          refine wpAnyH_ready (rs := [6]) (by kernel_rfl) (by simp) ?_
          refine AllReadyH.cons rfl (fun K hK => ?_) AllReadyH.nil
          simp only [List.getElem_toArray, List.getElem_cons_zero, List.getElem_cons_succ]
          go_simp
          go_at_call 6
          refine (HC.out.enc _).mono ?_
          rintro e w' ⟨rfl, hd⟩
          have s2 := s1.below hd
          clear hd
          refine hK.out _ _ s2.bel (fun hHeld => ?_)
          try simp only [List.getElem_toArray, List.getElem_cons_zero, List.getElem_cons_succ, Act.put]
          try simp only [List.setIfInBounds_toArray, List.set_cons_zero, List.set_cons_succ]
          refine wpAnyH_ready (rs := [7]) (by kernel_rfl) (by simp) ?_
          refine AllReadyH.cons rfl (fun K hK => ?_) AllReadyH.nil
          have hb7 := heap_alloc_last w' (Obj.cells #[.int .u32 (c k)] 32)
          have s3 := s2.below ((Below.refl _ _).alloc (Nat.le_refl _) (Obj.cells #[.int .u32 (c k)] 32))
          simp only [List.getElem_toArray, List.getElem_cons_zero, List.getElem_cons_succ]
          go_simp
          refine hK.out _ _ s3.bel (fun hHeld => ?_)
          try simp only [List.getElem_toArray, List.getElem_cons_zero, List.getElem_cons_succ, Act.put]
          try simp only [List.setIfInBounds_toArray, List.set_cons_zero, List.set_cons_succ]
          refine wpAnyH_ready (rs := [8]) (by kernel_rfl) (by simp) ?_
          refine AllReadyH.cons rfl (fun K hK => ?_) AllReadyH.nil
          refine step_app_word rfl rfl (by omega) rfl s3 rfl hb7 ?_
          clear hb7
          intro gb cp W' sa
          refine hK.out _ _ sa.bel (fun hHeld => ?_)
          try simp only [List.getElem_toArray, List.getElem_cons_zero, List.getElem_cons_succ, Act.put]
          try simp only [List.setIfInBounds_toArray, List.set_cons_zero, List.set_cons_succ]
          refine wpAnyH_take (i := 9) (v := ?_) rfl (by kernel_rfl) (by kernel_rfl) (by kernel_rfl) (fun _ _ _ h => h) (Or.inl ⟨by rfl, ?_⟩) sa.bel ?_
          case refine_2 => (intro W hS; clear hS; go_simp; try with_reducible rfl)
          try simp only [List.getElem_toArray, List.getElem_cons_zero, List.getElem_cons_succ, Act.put]
          try simp only [List.setIfInBounds_toArray, List.set_cons_zero, List.set_cons_succ]
          refine wpAnyH_ready (rs := [10]) (by kernel_rfl) (by simp) ?_
          refine AllReadyH.cons rfl (fun K hK => ?_) AllReadyH.nil
          have hc2 := cell_row sa.im 0 _ rfl
          have hf2 := frozen_row sa.im 0
          simp only [List.getElem_toArray, List.getElem_cons_zero, List.getElem_cons_succ]
          go_simp
          have st := sa.store (Nat.le_trans (Nat.le_succ _) (Nat.le_succ _)) (Nat.le_refl _) (by omega)
          refine hK.out _ _ st.bel (fun hHeld => ?_)
          refine wpAnyH_done (by kernel_rfl) ?_ _
          clear hc2 hf2 sa
          replace st := Aside0.mk st
          go_wp2_with fail
          go_roundg kk
          case measure => omega
          case rel => exact ⟨k + 1, by first | rfl | (simp; done), ⟨by omega, by omega, val_succ HM.out.2.2 HVal.out⟩, ⟨_, st.out⟩⟩

        · simp only [List.getElem_toArray, List.getElem_cons_zero, List.getElem_cons_succ]
          go_simp
          go_at_call 6
          refine (HC.out.enc _).mono ?_
          rintro e w' ⟨rfl, hd⟩
          have s2 := s1.below hd
          clear hd
          refine hK.out _ _ s2.bel (fun hHeld => ?_)
          try simp only [List.getElem_toArray, List.getElem_cons_zero, List.getElem_cons_succ, Act.put]
          try simp only [List.setIfInBounds_toArray, List.set_cons_zero, List.set_cons_succ]
          refine wpAnyH_ready (rs := [1, 7]) (by kernel_rfl) (by simp) ?_
          refine AllReadyH.cons rfl (fun K hK => ?_) (AllReadyH.cons rfl (fun K hK => ?_) AllReadyH.nil)
          · have hc1 := cell_row s2.im 0 _ rfl
            simp only [List.getElem_toArray, List.getElem_cons_zero, List.getElem_cons_succ]
            go_simp
            refine hK.out _ _ s2.bel (fun hHeld => ?_)
            clear hc1
            try simp only [List.getElem_toArray, List.getElem_cons_zero, List.getElem_cons_succ, Act.put]
            try simp only [List.setIfInBounds_toArray, List.set_cons_zero, List.set_cons_succ]
            refine wpAnyH_ready (rs := [7]) (by kernel_rfl) (by simp) ?_
            refine AllReadyH.cons rfl (fun K hK => ?_) AllReadyH.nil
            have hb7 := heap_alloc_last w' (Obj.cells #[.int .u32 (c k)] 32)
            have s3 := s2.below ((Below.refl _ _).alloc (Nat.le_refl _) (Obj.cells #[.int .u32 (c k)] 32))
            simp only [List.getElem_toArray, List.getElem_cons_zero, List.getElem_cons_succ]
            go_simp
            refine hK.out _ _ s3.bel (fun hHeld => ?_)
            try simp only [List.getElem_toArray, List.getElem_cons_zero, List.getElem_cons_succ, Act.put]
            try simp only [List.setIfInBounds_toArray, List.set_cons_zero, List.set_cons_succ]
            refine wpAnyH_ready (rs := [8]) (by kernel_rfl) (by simp) ?_
            refine AllReadyH.cons rfl (fun K hK => ?_) AllReadyH.nil
            refine step_app_word rfl rfl (by omega) rfl s3 rfl hb7 ?_
            clear hb7
            intro gb cp W' sa
            refine hK.out _ _ sa.bel (fun hHeld => ?_)
            try simp only [List.getElem_toArray, List.getElem_cons_zero, List.getElem_cons_succ, Act.put]
            try simp only [List.setIfInBounds_toArray, List.set_cons_zero, List.set_cons_succ]
            refine wpAnyH_take (i := 9) (v := ?_) rfl (by kernel_rfl) (by kernel_rfl) (by kernel_rfl) (fun _ _ _ h => h) (Or.inl ⟨by rfl, ?_⟩) sa.bel ?_
            case refine_2 => (intro W hS; clear hS; go_simp; try with_reducible rfl)
            try simp only [List.getElem_toArray, List.getElem_cons_zero, List.getElem_cons_succ, Act.put]
            try simp only [List.setIfInBounds_toArray, List.set_cons_zero, List.set_cons_succ]
            refine wpAnyH_ready (rs := [10]) (by kernel_rfl) (by simp) ?_
            refine AllReadyH.cons rfl (fun K hK => ?_) AllReadyH.nil
            have hc2 := cell_row sa.im 0 _ rfl
            have hf2 := frozen_row sa.im 0
            simp only [List.getElem_toArray, List.getElem_cons_zero, List.getElem_cons_succ]
            go_simp
            have st := sa.store (Nat.le_trans (Nat.le_succ _) (Nat.le_succ _)) (Nat.le_refl _) (by omega)
            refine hK.out _ _ st.bel (fun hHeld => ?_)
            refine wpAnyH_done (by kernel_rfl) ?_ _
            clear hc2 hf2 sa
            replace st := Aside0.mk st
            go_wp2_with fail
            go_roundg kk
            case measure => omega
            case rel => exact ⟨k + 1, by first | rfl | (simp; done), ⟨by omega, by omega, val_succ HM.out.2.2 HVal.out⟩, ⟨_, st.out⟩⟩

          · have hb7 := heap_alloc_last w' (Obj.cells #[.int .u32 (c k)] 32)
            have s3 := s2.below ((Below.refl _ _).alloc (Nat.le_refl _) (Obj.cells #[.int .u32 (c k)] 32))
            simp only [List.getElem_toArray, List.getElem_cons_zero, List.getElem_cons_succ]
            go_simp
            refine hK.out _ _ s3.bel (fun hHeld => ?_)
            try simp only [List.getElem_toArray, List.getElem_cons_zero, List.getElem_cons_succ, Act.put]
            try simp only [List.setIfInBounds_toArray, List.set_cons_zero, List.set_cons_succ]
            refine wpAnyH_ready (rs := [1]) (by kernel_rfl) (by simp) ?_
            refine AllReadyH.cons rfl (fun K hK => ?_) AllReadyH.nil
            have hc1 := cell_row s3.im 0 _ rfl
            simp only [List.getElem_toArray, List.getElem_cons_zero, List.getElem_cons_succ]
            go_simp
            refine hK.out _ _ s3.bel (fun hHeld => ?_)
            clear hc1
            try simp only [List.getElem_toArray, List.getElem_cons_zero, List.getElem_cons_succ, Act.put]
            try simp only [List.setIfInBounds_toArray, List.set_cons_zero, List.set_cons_succ]
            refine wpAnyH_ready (rs := [8]) (by kernel_rfl) (by simp) ?_
            refine AllReadyH.cons rfl (fun K hK => ?_) AllReadyH.nil
            refine step_app_word rfl rfl (by omega) rfl s3 rfl hb7 ?_
            clear hb7
            intro gb cp W' sa
            refine hK.out _ _ sa.bel (fun hHeld => ?_)
            try simp only [List.getElem_toArray, List.getElem_cons_zero, List.getElem_cons_succ, Act.put]
            try simp only [List.setIfInBounds_toArray, List.set_cons_zero, List.set_cons_succ]
            refine wpAnyH_take (i := 9) (v := ?_) rfl (by kernel_rfl) (by kernel_rfl) (by kernel_rfl) (fun _ _ _ h => h) (Or.inl ⟨by rfl, ?_⟩) sa.bel ?_
            case refine_2 => (intro W hS; clear hS; go_simp; try with_reducible rfl)
            try simp only [List.getElem_toArray, List.getElem_cons_zero, List.getElem_cons_succ, Act.put]
            try simp only [List.setIfInBounds_toArray, List.set_cons_zero, List.set_cons_succ]
            refine wpAnyH_ready (rs := [10]) (by kernel_rfl) (by simp) ?_
            refine AllReadyH.cons rfl (fun K hK => ?_) AllReadyH.nil
            have hc2 := cell_row sa.im 0 _ rfl
            have hf2 := frozen_row sa.im 0
            simp only [List.getElem_toArray, List.getElem_cons_zero, List.getElem_cons_succ]
            go_simp
            have st := sa.store (Nat.le_trans (Nat.le_succ _) (Nat.le_succ _)) (Nat.le_refl _) (by omega)
            refine hK.out _ _ st.bel (fun hHeld => ?_)
            refine wpAnyH_done (by kernel_rfl) ?_ _
            clear hc2 hf2 sa
            replace st := Aside0.mk st
            go_wp2_with fail
            go_roundg kk
            case measure => omega
            case rel => exact ⟨k + 1, by first | rfl | (simp; done), ⟨by omega, by omega, val_succ HM.out.2.2 HVal.out⟩, ⟨_, st.out⟩⟩


      · have HSB : Aside0 (∀ W, L1 w W w.heap.size (w.heap.size + 1 + 1) R v (.slice (some { block := w.heap.size + 1, off := 0 }) 1 1) k c → Calls Tryz.prog 4 #[] W fun e w' => e = .returned (.bool true) ∧ Below w.heap.size w w') := ⟨fun W s => HA.out W s.bel⟩
        cases hmb : mb k
        · rw [hmb] at HMay
          clear hval hmb
          go_wp2_with (first | (refine load_insB rfl rfl rfl HI.out ?_) | (go_at_call 5; (with_reducible refine HMay.out.mono ?_); rintro e wq ⟨rfl, hd'⟩; obtain ⟨c1, s0⟩ := HK.out _ hd'; replace s0 := Aside0.mk s0; clear hd') | (go_at_call 4; (with_reducible refine (HSB.out _ s0.out).mono ?_); rintro e wz ⟨rfl, hd⟩; replace hd := Aside0.mk hd))
          go_ret
          exact ⟨by first | rfl | (simp; done), hd.out⟩
        · rw [hmb] at HMay
          by_cases hlo : (L k).op < 22
          · have b1 : decide ((L k).op < 22) = true := decide_eq_true hlo
            clear hval hmb hlo
            go_wp2_with (first | (refine load_insB rfl rfl rfl HI.out ?_) | (go_at_call 5; (with_reducible refine HMay.out.mono ?_); rintro e wq ⟨rfl, hd'⟩; obtain ⟨c1, s0⟩ := HK.out _ hd'; replace s0 := Aside0.mk s0; clear hd') | (go_at_call 4; (with_reducible refine (HSB.out _ s0.out).mono ?_); rintro e wz ⟨rfl, hd⟩; replace hd := Aside0.mk hd))
            go_ret
            exact ⟨by first | rfl | (simp; done), hd.out⟩
          · have b1 : decide ((L k).op < 22) = false := decide_eq_false hlo
            have b2 : decide (62 < (L k).op) = true := decide_eq_true (by have : ¬ (L k).op ≤ 62 := fun h => hval ⟨hmb, by omega, h⟩; omega)
            clear hval hmb hlo
            go_wp2_with (first | (refine load_insB rfl rfl rfl HI.out ?_) | (go_at_call 5; (with_reducible refine HMay.out.mono ?_); rintro e wq ⟨rfl, hd'⟩; obtain ⟨c1, s0⟩ := HK.out _ hd'; replace s0 := Aside0.mk s0; clear hd') | (go_at_call 4; (with_reducible refine (HSB.out _ s0.out).mono ?_); rintro e wz ⟨rfl, hd⟩; replace hd := Aside0.mk hd))
            go_ret
            exact ⟨by first | rfl | (simp; done), hd.out⟩
end Go.Proofs.YtfcniikbcjmlcaaGreatDoor
end
