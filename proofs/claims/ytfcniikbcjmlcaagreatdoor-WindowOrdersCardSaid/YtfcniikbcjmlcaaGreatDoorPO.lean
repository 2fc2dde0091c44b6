/- Part PO of the proof of spinnakerlaw19.WindowOrders: for every input the law returns true. -/
import Derived.Carry
import Derived.Deep.DeepHandedRow
import Derived.Deep.Slices
import Derived.Lib.LaidTab
import Derived.OpenShut
import Derived.ProofKit
import Derived.Test.YtfcniikbcjmlcaaGreatDoorCards
import Derived.Test.YtfcniikbcjmlcaaGreatDoorTie
import Derived.Test.YtfcniikbcjmlcaaGreatDoorKFB
import Derived.Test.YtfcniikbcjmlcaaGreatDoorPJ
section
namespace Go.Proofs.YtfcniikbcjmlcaaGreatDoor
open Go.RowKit Go.Proofs.YtfcniikbcjmlcaaGreatDoorW.PrintWords Go.Proofs.YtfcniikbcjmlcaaGreatDoorW.PrintLast Go.Proofs.YtfcniikbcjmlcaaGreatDoorW.PrintMore
set_option linter.unusedVariables false
set_option linter.unusedSimpArgs false
set_option maxRecDepth 100000
theorem good_of {op rd a b imm : Int} (F : Fields op rd a b imm) (hm : QB.spinnakerref03_May.f 99 op rd a b imm false false = some true) : Good ⟨op, rd, a, b, imm⟩ (decide (35 ≤ op)) := by
  have hop : 22 ≤ op ∧ op ≤ 62 := ⟨F.op0, F.op1⟩
  have hr := immOK_range F.im
  have him : Is64 imm := by
    rcases fm_some op with ⟨e, _⟩ | ⟨e, _⟩ | ⟨e, _⟩ | ⟨e, _⟩
    · have := hr.1 e; constructor <;> omega
    · have := hr.2.1 e; constructor <;> omega
    · have := hr.2.2.1 e; constructor <;> omega
    · have := hr.2.2.2 e; constructor <;> omega
  refine ⟨F.op0, F.op1, F.rd0, F.rd1, F.a0, F.a1, F.b0, F.b1, him, isa_writes 79 F, access_op op hop, fun x y hx hy => ?_, hm, hasRd_op op hop, acc19_op op hop, form3_op op hop, isa_reads 79 F⟩
  have he : ∀ v, Is64 v → QB.alu_Eval.f 99 op x v = some (evT (opTab.getD (op - 22).toNat 0) x v, true) := fun v hv => at_rounds (QB.alu_Eval.mono op x v) (by decide) (alu_eval op hop x v hx hv)
  unfold QB.window_reckon.f
  rw [show QB.isa_Form.f 99 op = some (fmOf op) from formK_op 95 op hop, Option.bind_some, he y hy, he imm him, Option.bind_some, Option.bind_some]
  rcases fm_some op with ⟨e, h35⟩ | ⟨e, h35⟩ | ⟨e, h35⟩ | ⟨e, h35⟩
  · rw [e, if_pos rfl]
    show some (evT _ x y) = some (evT _ x (if 35 ≤ op then y else imm))
    rw [if_pos h35]
  all_goals
    rw [e, if_neg (by decide)]
    show some (evT _ x imm) = some (evT _ x (if 35 ≤ op then y else imm))
    rw [if_neg h35]
theorem insOK_of {op rd a b imm : Int} (F : Fields op rd a b imm) (hm : QB.spinnakerref03_May.f 99 op rd a b imm false false = some true) : InsOK ⟨op, rd, a, b, imm⟩ (wordI op rd a b imm : Nat) := by
  have hop : 22 ≤ op ∧ op ≤ 62 := ⟨F.op0, F.op1⟩
  refine ⟨good_of F hm, enc_ref F, dec_back F, ?_⟩
  have h0 : ¬ op = 0 := by omega
  have h65 : ¬ op = 65 := by omega
  unfold QB.window_bad.f
  rw [if_pos rfl, if_neg h0, if_neg h65, access_op op hop, Option.bind_some, if_neg (by decide)]
theorem awF : Fields 22 5 0 0 7 := ⟨by decide, by decide, by decide, by decide, by decide, by decide, by decide, by decide, fun _ => rfl, by show (-2048 : Int) ≤ 7 ∧ (7 : Int) ≤ 2047; decide⟩
theorem awM : QB.spinnakerref03_May.f 99 22 5 0 0 7 false false = some true := by show _ = _; kernel_rfl
theorem aw_true (W : World) (hG : GOK W) : Calls Tryz.prog 4 #[] W fun e w' => e = .returned (.bool true) ∧ Below W.heap.size W w' := awake_calls _ (insOK_of awF awM) W hG
theorem law_true (w : World) (hG : GOK w) (lA oA : Option Addr) (n m lb lo ob oo lc oc : Nat) (L : Nat → Ins) (q1 q2 : Nat → Bool) (O : Nat → Int) (R : Nat → Int) (hR : ∀ r, Is64 (R r)) (hl : 0 < n → lA = some ⟨lb, lo, none⟩) (ho : 0 < m → oA = some ⟨ob, oo, none⟩)
    (cl : ∀ k, k < n → w.rangeAt lb (lo + k * 7) (insCellsB (L k) (q1 k) (q2 k))) (co : ∀ k, k < m → w.cell? { block := ob, off := oo + k } = some (.int .i64 (O k))) :
    Calls Tryz.prog 3 #[.slice lA n lc, .agg (regArr R), .slice oA m oc] w fun e w' => e = .returned (.bool true) ∧ Below w.heap.size w w' := by
  have hm : ∀ k, ∃ r, QB.spinnakerref03_May.f 99 (L k).op (L k).rd (L k).a (L k).b (L k).imm (q1 k) (q2 k) = some r := fun k => may_total _ _ _ _ _ _ _
  have hin : LawIn w lA oA n m lb lo ob oo L q1 q2 O (fun k => ((wordI (L k).op (L k).rd (L k).a (L k).b (L k).imm : Nat) : Int)) (fun k => Classical.choose (hm k)) := by
    refine ⟨hG, hl, ho, cl, co, fun k hk W => QB.spinnakerref03_May.calls 99 _ _ _ _ _ _ _ _ W (Classical.choose_spec (hm k)), fun k hk h1 h2 h3 => ?_, aw_true⟩
    have hs := Classical.choose_spec (hm k)
    have h1' : Classical.choose (hm k) = true := h1
    rw [h1'] at hs
    obtain ⟨F, e1, e2⟩ := may_true ⟨h2, h3⟩ hs
    rw [e1, e2] at hs
    exact ⟨e1, e2, insOK_of F hs⟩
  by_cases hf : 12 < n ∨ 60 < m
  · exact law_far w lA oA n m lb lo ob oo lc oc L q1 q2 O _ _ R hin hf
  · exact law_near w lA oA n m lb lo ob oo lc oc L q1 q2 O _ _ R hin (by omega) (by omega) hR
end Go.Proofs.YtfcniikbcjmlcaaGreatDoor
end
section
namespace Go.Proofs.YtfcniikbcjmlcaaGreatDoor
open Go.ChangeShapes Go.WideShapes Go.ChangeAt Go.RowKit
set_option linter.unusedVariables false
set_option linter.unusedSimpArgs false
set_option maxRecDepth 100000
theorem own : ownKnob Tryz.prog.godebug = none := by kernel_rfl
theorem laidOut : laidOutB Tryz.prog = true := by kernel_rfl
theorem gNames : Tryz.prog.globalNamed "spinnaker/isa.names" = some 0 := by kernel_rfl
theorem namesType : (Tryz.prog.globals[0]?).map (·.type) = some 127 := by kernel_rfl
theorem cellsString : Tryz.prog.cellsOf 9 = 1 := by kernel_rfl
theorem cellsInt : Tryz.prog.cellsOf 3 = 1 := by kernel_rfl
theorem cellsBool : Tryz.prog.cellsOf 4 = 1 := by kernel_rfl
theorem cellsInstr : Tryz.prog.cellsOf 31 = 7 := by kernel_rfl
theorem cellsRegs : Tryz.prog.cellsOf 23 = 32 := by kernel_rfl
theorem names_data {H : Type} : (Rows.laid_spinnaker_isa_names : DataW H) = .agg (nameBytes.map fun l => .lit (.string l)) := rfl
theorem one_cell {c : Value} {l : List Value} (h : l = [c]) {cs : List Value} {i : Nat} (hl : l = (cs.drop (i * 1)).take 1) : cs[i]? = some c := by
  have := congrArg (·[0]?) (hl.symm.trans h)
  simpa [List.getElem?_take, List.getElem?_drop] using this
theorem names_of_laid {W : World} (h : laidMetH Tryz.prog Rows.windowOrdersRow.laid W) : GOK W := by
  have h' : laidMet Tryz.prog [("spinnaker/isa.names", Rows.laid_spinnaker_isa_names)] W := h
  obtain ⟨ps, ⟨g', t', cs, fuel, p, q, hg', ht', hvar, hd, _, _⟩, _⟩ := h'
  obtain rfl := Option.some.inj (gNames.symm.trans hg')
  obtain rfl := Option.some.inj (namesType.symm.trans ht')
  rw [names_data] at hd
  obtain ⟨xs, m, rfl, hx, hl, hxl, hat⟩ := DataW.trod_array Tryz.underlying127 hd
  refine ⟨fun i hi => ?_⟩
  have hc := World.var?_cell gNames hvar i
  have hxi : ∃ y, xs[i]? = some y := ⟨xs[i], List.getElem?_eq_getElem (by omega)⟩
  obtain ⟨y, hy⟩ := hxi
  have h1 := hat i hi
  rw [cellsString, hy] at h1
  obtain ⟨s, hs, rfl, _⟩ := DataW.trod_string Tryz.underlying9 h1
  have h2 : cs.toList[i]? = some (.string s) := one_cell hs rfl
  rw [hc, ← Array.getElem?_toList, h2]
  have h3 : (nameBytes.map fun l => (DataW.lit (.string l) : DataW Unit)) = xs.map (·.1) := by
    have := congrArg Prod.fst hx
    simpa using this
  have h4 : (nameBytes.map fun l => (DataW.lit (.string l) : DataW Unit))[i]? = some (.lit (.string s.data.toList)) := by
    rw [h3, List.getElem?_map, hy]
    rfl
  rw [List.getElem?_map] at h4
  obtain ⟨l, hl2, hl3⟩ := Option.map_eq_some_iff.1 h4
  have hl4 : l = s.data.toList := by simpa using hl3
  unfold nameAt
  rw [List.getD_eq_getElem?_getD, hl2, Option.getD_some, hl4]
section
variable {H : Type} {enc : TypeId × Value → H} {w : World} {base : Nat} {sp : Nat → Bool} {held : Bool}
theorem int_of {n : Nat} {cs : List Value} {y : DataW H × List MemPlace} (h : DataW.trod enc Tryz.prog w base sp held n 3 cs = some y) : ∃ k, cs = [.int .i64 k] ∧ Is64 k := by
  obtain ⟨k, h1, _, h2⟩ := DataW.trod_int Tryz.underlying3 h
  have h3 := bounds_i64 h2
  exact ⟨k, h1, by omega, by omega⟩
theorem bool_of {n : Nat} {cs : List Value} {y : DataW H × List MemPlace} (h : DataW.trod enc Tryz.prog w base sp held n 4 cs = some y) : ∃ k, cs = [.bool k] := by
  obtain ⟨k, h1, _⟩ := DataW.trod_bool Tryz.underlying4 h
  exact ⟨k, h1⟩
theorem ins_of {n : Nat} {cs : List Value} {y : DataW H × List MemPlace} (h : DataW.trod enc Tryz.prog w base sp held n 31 cs = some y) : ∃ I q1 q2, cs = insCellsB I q1 q2 := by
  obtain ⟨xs, m, rfl, _, hl, hxl, hat⟩ := DataW.trod_struct Tryz.underlying31 h
  rw [cellsInstr] at hl
  have hx : ∀ i, i < 7 → ∃ y, xs[i]? = some y := fun i hi => ⟨xs[i]'(by rw [hxl]; exact hi), List.getElem?_eq_getElem _⟩
  match cs, hl with
  | [c0, c1, c2, c3, c4, c5, c6], _ =>
    obtain ⟨y0, e0⟩ := hx 0 (by decide)
    obtain ⟨y1, e1⟩ := hx 1 (by decide)
    obtain ⟨y2, e2⟩ := hx 2 (by decide)
    obtain ⟨y3, e3⟩ := hx 3 (by decide)
    obtain ⟨y4, e4⟩ := hx 4 (by decide)
    obtain ⟨y5, e5⟩ := hx 5 (by decide)
    obtain ⟨y6, e6⟩ := hx 6 (by decide)
    have f0 : DataW.trod enc Tryz.prog w base sp held m 3 (([c0, c1, c2, c3, c4, c5, c6].drop 0).take (Tryz.prog.cellsOf 3)) = some y0 := (hat 0 _ rfl).trans e0
    rw [cellsInt] at f0
    have f1 : DataW.trod enc Tryz.prog w base sp held m 3 (([c0, c1, c2, c3, c4, c5, c6].drop 1).take (Tryz.prog.cellsOf 3)) = some y1 := (hat 1 _ rfl).trans e1
    rw [cellsInt] at f1
    have f2 : DataW.trod enc Tryz.prog w base sp held m 3 (([c0, c1, c2, c3, c4, c5, c6].drop 2).take (Tryz.prog.cellsOf 3)) = some y2 := (hat 2 _ rfl).trans e2
    rw [cellsInt] at f2
    have f3 : DataW.trod enc Tryz.prog w base sp held m 3 (([c0, c1, c2, c3, c4, c5, c6].drop 3).take (Tryz.prog.cellsOf 3)) = some y3 := (hat 3 _ rfl).trans e3
    rw [cellsInt] at f3
    have f4 : DataW.trod enc Tryz.prog w base sp held m 3 (([c0, c1, c2, c3, c4, c5, c6].drop 4).take (Tryz.prog.cellsOf 3)) = some y4 := (hat 4 _ rfl).trans e4
    rw [cellsInt] at f4
    have f5 : DataW.trod enc Tryz.prog w base sp held m 4 (([c0, c1, c2, c3, c4, c5, c6].drop 5).take (Tryz.prog.cellsOf 4)) = some y5 := (hat 5 _ rfl).trans e5
    rw [cellsBool] at f5
    have f6 : DataW.trod enc Tryz.prog w base sp held m 4 (([c0, c1, c2, c3, c4, c5, c6].drop 6).take (Tryz.prog.cellsOf 4)) = some y6 := (hat 6 _ rfl).trans e6
    rw [cellsBool] at f6
    obtain ⟨k0, g0, _⟩ := int_of f0
    obtain ⟨k1, g1, _⟩ := int_of f1
    obtain ⟨k2, g2, _⟩ := int_of f2
    obtain ⟨k3, g3, _⟩ := int_of f3
    obtain ⟨k4, g4, _⟩ := int_of f4
    obtain ⟨k5, g5⟩ := bool_of f5
    obtain ⟨k6, g6⟩ := bool_of f6
    simp at g0 g1 g2 g3 g4 g5 g6
    subst g0 g1 g2 g3 g4 g5 g6
    exact ⟨⟨k0, k1, k2, k3, k4⟩, k5, k6, rfl⟩
theorem regs_of {n : Nat} {cs : List Value} {y : DataW H × List MemPlace} (h : DataW.trod enc Tryz.prog w base sp held n 23 cs = some y) : ∃ R : Nat → Int, cs = (regArr R).toList ∧ ∀ r, Is64 (R r) := by
  obtain ⟨xs, m, rfl, _, hl, hxl, hat⟩ := DataW.trod_array Tryz.underlying23 h
  rw [cellsRegs] at hl
  have hx : ∀ i, ∃ k : Int, Is64 k ∧ (i < 32 → cs[i]? = some (.int .i64 k)) := by
    intro i
    by_cases hi : i < 32
    · have h1 := hat i hi
      rw [cellsInt, List.getElem?_eq_getElem (by rw [hxl]; exact hi)] at h1
      obtain ⟨k, hk, hr⟩ := int_of h1
      exact ⟨k, hr, fun _ => one_cell hk rfl⟩
    · exact ⟨0, ⟨by decide, by decide⟩, fun h => absurd h hi⟩
  refine ⟨fun i => Classical.choose (hx i), ?_, fun i => (Classical.choose_spec (hx i)).1⟩
  apply List.ext_getElem?
  intro i
  by_cases hi : i < 32
  · rw [(Classical.choose_spec (hx i)).2 hi]
    rcases i with _ | _ | _ | _ | _ | _ | _ | _ | _ | _ | _ | _ | _ | _ | _ | _ | _ | _ | _ | _ | _ | _ | _ | _ | _ | _ | _ | _ | _ | _ | _ | _ | i
    all_goals first | rfl | omega
  · rw [List.getElem?_eq_none (by omega), List.getElem?_eq_none (by simp; omega)]
end
theorem okWide_arr {P : Program} {w : World} {r : Reach} {base : Nat} {t e : TypeId} {n : Nat} {v : Value} (ht : P.underlying t = some (.array n e)) (h : Value.okWide P w r base t v) : ∃ cs, v = .agg cs := by
  simp only [Value.okWide, ht] at h
  obtain ⟨cs, h1, _⟩ := h
  exact ⟨cs, h1⟩
theorem post_below {H : Type} {enc : TypeId × Value → H} {P : Program} {f : Func} {s : ChangeSpec} {apart fresh handsOn again : Bool} {W W' : World} {args : Array Value} {v : Value} {ds gs : List (DataW H)} {before pa pv : List MemPlace}
    (hW : DataW.Whole enc P f.params.toList s.vars apart W args.toList ds gs before)
    (hres : ∀ (b : Nat) (sp : Nat → Bool) (hd : Bool), DataW.TrodAll enc P W' b sp hd f.resultTypes.toList (v.resultList f.resultTypes.size) (s.fn H (ds ++ gs)).results [])
    (hargs : ∀ sp : Nat → Bool, (∀ p ∈ before, sp p.block = true) → DataW.TrodAll enc P W' 0 sp true f.params.toList args.toList (s.fn H (ds ++ gs)).args pa)
    (hvars : ∀ sp : Nat → Bool, (∀ p ∈ before, sp p.block = true) → DataW.TrodVars enc P W' sp s.vars (s.fn H (ds ++ gs)).vars pv)
    (hps : before = pa ++ pv) (hb : Below W.heap.size W W')
    (hok : ∀ (j : Nat) (t : TypeId) (r : Value), f.resultTypes[j]? = some t → (v.resultList f.resultTypes.size)[j]? = some r → Value.okWide P W' .any 0 t r) :
    s.post enc P f apart fresh handsOn again W args v W' := by
  have hlt : ∀ p ∈ before, p.block < W.heap.size := fun p hp => hW.lt p hp
  have hold : ∀ p ∈ before, (fun b => decide (b < W.heap.size)) p.block = true := fun p hp => by simpa using hlt p hp
  refine ⟨ds, gs, before, [], pa, pv, hW, hres _ _ _, hargs _ hold, hvars _ hold, World.keptBut_mono (fun p hp => ⟨hp, by rw [hps, List.mem_append] at hp; exact Or.inr hp⟩) (hb.frame (· ∈ before)), fun _ => ?_⟩
  obtain ⟨_, _, _, _, _, hz, hn⟩ := hW
  refine ⟨hok, _, _, ([] ++ pa) ++ pv, ⟨[] ++ pa, pv, trodAll_append (hargs _ (fun _ _ => rfl)) (hres _ _ _), hvars _ (fun _ _ => rfl), rfl, fun b off hp => ?_, fun ha => ?_⟩, fun p hp _ => by rw [hps]; simpa using hp⟩
  · have hin : MemPlace.cell b off ∈ before := by rw [hps]; simpa using hp
    rw [hb.frozen (hlt _ hin)]
    exact hz b off hin
  · have := hn ha
    rw [hps] at this
    simpa using this
theorem spot_none {w : World} {a : Addr} {u : Value} (h : w.cell? (a.add 0) = some u) : ∃ b o, a = ⟨b, o, none⟩ := by
  obtain ⟨b, o, s⟩ := a
  have hs : s = none := by simpa [Addr.add] using World.cell?_spot h
  exact ⟨b, o, by rw [hs]⟩
theorem open_code {H : Type} {enc : TypeId × Value → H} {w : World} {base : Nat} {sp : Nat → Bool} {held : Bool} {fuel : Nat} {A : Option Addr} {n cap : Nat} {y : DataW H × List MemPlace} (h : DataW.trod enc Tryz.prog w base sp held fuel 22 [.slice A n cap] = some y) :
    ∃ lb lo, (0 < n → A = some ⟨lb, lo, none⟩) ∧ ∃ (L : Nat → Ins) (q1 q2 : Nat → Bool), ∀ k, k < n → w.rangeAt lb (lo + k * 7) (insCellsB (L k) (q1 k) (q2 k)) := by
  rcases Go.Deep.open_slice Tryz.underlying22 h with ⟨h1, _⟩ | ⟨a, len, cap', m, fu, D, Pl, h1, _, hlc, _, hm, _, hel⟩
  · simp at h1
    obtain ⟨rfl, rfl, rfl⟩ := h1
    exact ⟨0, 0, fun h => absurd h (by omega), fun _ => ⟨0, 0, 0, 0, 0⟩, fun _ => false, fun _ => false, fun k hk => absurd hk (by omega)⟩
  · simp at h1
    obtain ⟨rfl, rfl, rfl⟩ := h1
    have hnm : n ≤ m := by rw [hm]; split <;> omega
    by_cases h0 : 0 < n
    · have hk : ∀ k, k < n → ∃ I q1 q2, ∀ j u, (insCellsB I q1 q2)[j]? = some u → w.cell? (a.add (k * 7 + j)) = some u := by
        intro k hk
        obtain ⟨cs', hc, ht⟩ := hel k (by omega)
        obtain ⟨I, q1, q2, rfl⟩ := ins_of ht
        rw [cellsInstr] at hc
        obtain ⟨_, _, hcell⟩ := World.cells?_some hc
        refine ⟨I, q1, q2, fun j u hj => ?_⟩
        have hj7 : j < 7 := (List.getElem?_eq_some_iff.1 hj).1
        rw [← Go.Deep.add_add, hcell j hj7]
        exact hj
      obtain ⟨I0, p1, p2, hk0⟩ := hk 0 h0
      obtain ⟨lb, lo, rfl⟩ := spot_none (show w.cell? (a.add 0) = _ from hk0 0 _ rfl)
      have hk' : ∀ k, ∃ I : Ins, ∃ q1 q2 : Bool, k < n → w.rangeAt lb (lo + k * 7) (insCellsB I q1 q2) := by
        intro k
        by_cases hkn : k < n
        · obtain ⟨I, q1, q2, hh⟩ := hk k hkn
          refine ⟨I, q1, q2, fun _ j u hj => ?_⟩
          have := hh j u hj
          rw [Addr.add_lit] at this
          rw [Nat.add_assoc]
          exact this
        · exact ⟨⟨0, 0, 0, 0, 0⟩, false, false, fun h => absurd h hkn⟩
      refine ⟨lb, lo, fun _ => rfl, fun k => Classical.choose (hk' k), fun k => Classical.choose (Classical.choose_spec (hk' k)), fun k => Classical.choose (Classical.choose_spec (Classical.choose_spec (hk' k))), fun k hkn => Classical.choose_spec (Classical.choose_spec (Classical.choose_spec (hk' k))) hkn⟩
    · exact ⟨0, 0, fun h => absurd h h0, fun _ => ⟨0, 0, 0, 0, 0⟩, fun _ => false, fun _ => false, fun k hk => absurd hk (by omega)⟩
theorem open_order {H : Type} {enc : TypeId × Value → H} {w : World} {base : Nat} {sp : Nat → Bool} {held : Bool} {fuel : Nat} {A : Option Addr} {n cap : Nat} {y : DataW H × List MemPlace} (h : DataW.trod enc Tryz.prog w base sp held fuel 24 [.slice A n cap] = some y) :
    ∃ ob oo, (0 < n → A = some ⟨ob, oo, none⟩) ∧ ∃ (O : Nat → Int), ∀ k, k < n → w.cell? { block := ob, off := oo + k } = some (.int .i64 (O k)) := by
  rcases open_ints Tryz.underlying24 Tryz.underlying3 cellsInt h with ⟨h1, _⟩ | ⟨a, len, cap', zs, h1, _, hlc, _, hz, _, hcell, _⟩
  · simp at h1
    obtain ⟨rfl, rfl, rfl⟩ := h1
    exact ⟨0, 0, fun h => absurd h (by omega), fun _ => 0, fun k hk => absurd hk (by omega)⟩
  · simp at h1
    obtain ⟨rfl, rfl, rfl⟩ := h1
    have hnm : n ≤ zs.length := by rw [hz]; split <;> omega
    by_cases h0 : 0 < n
    · obtain ⟨b, off, rfl, hc⟩ := ints_at hcell (by omega)
      exact ⟨b, off, fun _ => rfl, fun k => zs.getD k 0, fun k hk => hc k (by omega)⟩
    · exact ⟨0, 0, fun h => absurd h h0, fun _ => 0, fun k hk => absurd hk (by omega)⟩
theorem contract (H : Type) (enc : TypeId × Value → H) (W : World) (base : Nat) (args : Array Value) (ds gs : List (DataW H)) (before : List MemPlace)
    (hval : ∀ (j : Nat) t v, Tryz.f3.params[j]? = some t → args[j]? = some v → Value.okWide Tryz.prog W .any base t v)
    (hW : DataW.Whole enc Tryz.prog Tryz.f3.params.toList Rows.windowOrdersSpec.vars false W args.toList ds gs before) (hL : laidMetH Tryz.prog Rows.windowOrdersRow.laid W) :
    Calls Tryz.prog 3 args W fun e W' => ∃ v, e = .returned v ∧ Rows.windowOrdersSpec.post enc Tryz.prog Tryz.f3 false true false false W args v W' := by
  have hW' := hW
  have hlt := hW.lt
  obtain ⟨p, q, hA0, hV, rfl, hfz, hnd⟩ := hW
  have hA : DataW.TrodAll enc Tryz.prog W 0 (fun _ => true) true Tryz.f3.params.toList args.toList ds p := hA0
  rw [Tryz.params3] at hA hval
  obtain ⟨v0, vs0, d0, ds0, p0, q0, hargs, rfl, rfl, h0, r0⟩ := trodAll_cons hA
  obtain ⟨v1, vs1, d1, ds1, p1, q1, rfl, rfl, rfl, h1, r1⟩ := trodAll_cons r0
  obtain ⟨v2, vs2, d2, ds2, p2, q2, rfl, rfl, rfl, h2, r2⟩ := trodAll_cons r1
  obtain ⟨rfl, rfl, rfl⟩ := trodAll_nil r2
  obtain rfl : args = #[v0, v1, v2] := by cases args; simp_all
  obtain ⟨rfl, rfl⟩ := trodVars_none hV
  clear hA0
  simp only [List.append_nil] at hW' hlt
  obtain ⟨A0, n, c0, rfl⟩ := okWide_slice Tryz.underlying22 (hval 0 22 v0 rfl rfl)
  obtain ⟨cs, rfl⟩ := okWide_arr Tryz.underlying23 (hval 1 23 v1 rfl rfl)
  obtain ⟨A2, m, c2, rfl⟩ := okWide_slice Tryz.underlying24 (hval 2 24 v2 rfl rfl)
  obtain ⟨f0, t0⟩ := h0
  obtain ⟨f1, t1⟩ := h1
  obtain ⟨f2, t2⟩ := h2
  obtain ⟨lb, lo, hlA, L, u1, u2, hcl⟩ := open_code (show DataW.trod enc Tryz.prog W 0 (fun _ => true) true f0 22 [.slice A0 n c0] = _ from t0)
  obtain ⟨R, hcs, hR⟩ := regs_of (show DataW.trod enc Tryz.prog W 0 (fun _ => true) true f1 23 cs.toList = _ from t1)
  obtain ⟨ob, oo, hoA, O, hco⟩ := open_order (show DataW.trod enc Tryz.prog W 0 (fun _ => true) true f2 24 [.slice A2 m c2] = _ from t2)
  obtain rfl : cs = regArr R := Array.toList_inj.1 hcs
  refine (law_true W (names_of_laid hL) A0 A2 n m lb lo ob oo c0 c2 L u1 u2 O R hR hlA hoA hcl hco).mono fun e W' ⟨he, hb⟩ => ?_
  subst he
  refine ⟨_, rfl, post_below (pa := p0 ++ (p1 ++ p2)) (pv := []) hW' (fun _ _ _ => trodAll_cons_mk (shut_bool Tryz.underlying4 _) trodAll_mk0) (fun sp hsp => ?_) (fun _ _ => rfl) (by simp) hb (ok_one (by kernel_rfl) rfl (okWide_bool_mk Tryz.underlying4 _))⟩
  have st : ∀ {t : TypeId} {v : Value} {d : DataW H} {ps : List MemPlace}, Tryz.prog.readableRec t = true → t < Tryz.prog.types.size → (∀ x ∈ ps, x ∈ p0 ++ (p1 ++ p2)) → DataW.Trod enc Tryz.prog W 0 (fun _ => true) true t v d ps → DataW.Trod enc Tryz.prog W' 0 sp true t v d ps :=
    fun hr hs hin ht => WideElems.Trod_stays laidOut hr hs ht (fun x hx => hb.same (hlt x (by simpa using hin x hx))) (fun x hx => hsp x (by simpa using hin x hx))
  have hres := trodAll_cons_mk (st (by kernel_rfl) (of_decide_eq_true (by kernel_rfl)) (fun x hx => by simp [hx]) ⟨f0, t0⟩) (trodAll_cons_mk (st (by kernel_rfl) (of_decide_eq_true (by kernel_rfl)) (fun x hx => by simp [hx]) ⟨f1, t1⟩) (trodAll_cons_mk (st (by kernel_rfl) (of_decide_eq_true (by kernel_rfl)) (fun x hx => by simp [hx]) ⟨f2, t2⟩) trodAll_mk0))
  rw [List.append_nil] at hres
  exact hres
def nameCells : Array Value := (nameBytes.map fun l => Value.string ⟨l.toArray⟩).toArray
def zeroRegs : Array Value := #[.int .i64 0, .int .i64 0, .int .i64 0, .int .i64 0, .int .i64 0, .int .i64 0, .int .i64 0, .int .i64 0, .int .i64 0, .int .i64 0, .int .i64 0, .int .i64 0, .int .i64 0, .int .i64 0, .int .i64 0, .int .i64 0, .int .i64 0, .int .i64 0, .int .i64 0, .int .i64 0, .int .i64 0, .int .i64 0, .int .i64 0, .int .i64 0, .int .i64 0, .int .i64 0, .int .i64 0, .int .i64 0, .int .i64 0, .int .i64 0, .int .i64 0, .int .i64 0]
noncomputable def laidWorld (os : Os) : World :=
  { World.holding Tryz.prog os ⟨#[], #[], []⟩ with heap := (World.holding Tryz.prog os ⟨#[], #[], []⟩).heap.modify 0 fun
      | .cells _ t frozen => .cells nameCells t frozen
      | o => o }
theorem laid_met (os : Os) : laidMet Tryz.prog Rows.windowOrdersRow.laid ((laidWorld os).forCall (fun _ _ => 0) ⟨#[], #[.slice none 0 0, .agg zeroRegs, .slice none 0 0], []⟩).memory :=
  laidMet_of_run' 8 (by kernel_rfl) (by kernel_rfl)
theorem reads (os : Os) {H : Type} (enc : TypeId × Value → H) : ∃ places, DataW.whole enc Tryz.prog ((laidWorld os).forCall (fun _ _ => 0) ⟨#[], #[.slice none 0 0, .agg zeroRegs, .slice none 0 0], []⟩).memory Tryz.f3.params.toList Rows.windowOrdersSpec.vars false #[Value.slice none 0 0, .agg zeroRegs, .slice none 0 0].toList 8 = some ([.nil, .agg (List.replicate 32 (.lit (.int .i64 0))), .nil], [], places) :=
  ⟨[], by kernel_rfl⟩
theorem lifted (os : Os) (started : os.Started) (H : Type) (enc : TypeId × Value → H) (F : Stop.Interp) :
    ReturnsInHanded {} Tryz.checked os 3 .any ((OpenSpec.ofChange Rows.windowOrdersSpec).preRow enc Tryz.prog Tryz.f3 Rows.windowOrdersRow.domain false Rows.windowOrdersRow.laid) (((OpenSpec.ofChange Rows.windowOrdersSpec).at F).post enc Tryz.prog Tryz.f3 false true false false) := by
  obtain ⟨places, hx⟩ := reads os enc
  refine returnsInHanded_of_row (C := Tryz.checked) (s := OpenSpec.ofChange Rows.windowOrdersSpec) own started (by kernel_rfl) Tryz.func3
    (witness_row_at (enc := enc) (C := Tryz.checked) false (laidWorld os) #[.slice none 0 0, .agg zeroRegs, .slice none 0 0] rfl (by kernel_rfl) (by kernel_rfl) (by kernel_rfl)
      (OpenSpec.preRow_of_cond 8 hx (by kernel_rfl) (fun k hk => by cases hk) (by kernel_rfl) (laid_met os))) ?_
  intro W base args ds gs before hval hW _ _ _ hL _ _
  exact contract H enc W base args ds gs before hval hW hL
theorem said : Rows.WindowOrdersSaid :=
  OpenClaim.holds_of_cond 3 Tryz.f3 rfl rfl rfl rfl rfl rfl rfl ⟨rfl, rfl, rfl, rfl, rfl⟩ rfl rfl rfl rfl rfl (by kernel_rfl) Tryz.func3 (by kernel_rfl)
    (of_decide_eq_true (by kernel_rfl)) (by unfold Func.isWrapper; first | (rw [if_pos (by decide +kernel)]; kernel_rfl) | (rw [if_neg (by decide +kernel)]; exact ⟨rfl, rfl⟩))
    (fun os started H enc _ F => by rw [OpenClaim.pre_eq_preRow]; exact lifted os started H enc F)
theorem plain (f : FuncId) (fn : Func) (hf : Tryz.pinned.checked.prog.funcNamed "spinnaker/spinnakerlaw19.WindowOrders" = some f) (hfn : Tryz.pinned.checked.prog.funcs[f]? = some fn) :
    false = Tryz.pinned.checked.prog.looks [] ∧ ∀ (j : Nat) t, fn.params[j]? = some t → Tryz.pinned.checked.prog.wantsStandIn t = false := by
  obtain rfl : f = 3 := Option.some.inj ((show Tryz.prog.funcNamed "spinnaker/spinnakerlaw19.WindowOrders" = some 3 by kernel_rfl).symm.trans hf) |>.symm
  obtain rfl : fn = Tryz.f3 := (Option.some.inj (Tryz.func3.symm.trans hfn)).symm
  refine ⟨by kernel_rfl, fun j t ht => ?_⟩
  rw [Tryz.params3] at ht
  have hm : t = 22 ∨ t = 23 ∨ t = 24 := by simpa using Array.mem_of_getElem? ht
  rcases hm with rfl | rfl | rfl
  · exact (show Tryz.prog.wantsStandIn 22 = false by kernel_rfl)
  · exact (show Tryz.prog.wantsStandIn 23 = false by kernel_rfl)
  · exact (show Tryz.prog.wantsStandIn 24 = false by kernel_rfl)
theorem windowOrders_card : Rows.WindowOrdersCardSaid :=
  Claim7.holds_tied_plain_at .later [] _ _ _ _ said (fun _ h => by cases h) (by kernel_rfl) (fun _ h => by cases h) windowOrders_row_tie rfl ⟨rfl, rfl⟩ (by kernel_rfl) rfl plain (by kernel_rfl)
#print axioms windowOrders_card
end Go.Proofs.YtfcniikbcjmlcaaGreatDoor
end
