/- Part PJ of the proof of spinnakerlaw19.WindowOrders: for every input the law returns true. -/
import Derived.Deep.RegionHeld3
import Derived.Test.YtfcniikbcjmlcaaGreatDoorKQB10
import Derived.Test.YtfcniikbcjmlcaaGreatDoorKQB11
import Derived.Test.YtfcniikbcjmlcaaGreatDoorKQB12
import Derived.Test.YtfcniikbcjmlcaaGreatDoorKQB13
import Derived.Test.YtfcniikbcjmlcaaGreatDoorKQB6
import Derived.Test.YtfcniikbcjmlcaaGreatDoorPC
import Derived.Test.YtfcniikbcjmlcaaGreatDoorPD
import Derived.Test.YtfcniikbcjmlcaaGreatDoorPE
import Derived.Test.YtfcniikbcjmlcaaGreatDoorPF
import Derived.Test.YtfcniikbcjmlcaaGreatDoorPI
section
namespace Go.Proofs.YtfcniikbcjmlcaaGreatDoor
open Go.RowKit Go.Proofs.YtfcniikbcjmlcaaGreatDoorW.PrintWords Go.Proofs.YtfcniikbcjmlcaaGreatDoorW.PrintLast Go.Proofs.YtfcniikbcjmlcaaGreatDoorW.PrintMore
set_option linter.unusedVariables false
set_option linter.unusedSimpArgs false
def tail4 (k : Nat) (fm imm w : Int) : Option Int :=
  if fm = 3 then (QB.spinnakerref04_bits.f k imm 0 12 20).map (fun b => bits .or .u32 w b)
  else if fm = 7 then (QB.spinnakerref04_bits.f k imm 0 6 20).map (fun b => bits .or .u32 w b)
  else if fm = 8 then (QB.spinnakerref04_bits.f k imm 0 5 20).map (fun b => bits .or .u32 w b)
  else if fm = 6 then some w else none
set_option maxHeartbeats 4000000 in
set_option maxRecDepth 100000 in
theorem ref04_Encode.calls (k : Nat) (op rd a b imm w0 b1 b2 b3 fm r : Int) (w : World)
    (hW : ref04_Word.f op = some w0) (h1 : QB.spinnakerref04_bits.f k rd 0 5 7 = some b1) (h2 : QB.spinnakerref04_bits.f k a 0 5 15 = some b2) (h3 : QB.spinnakerref04_bits.f k b 0 5 20 = some b3)
    (hF : QB.spinnakerref03_Form.f op = some fm) (hr : tail4 k fm imm (bits .or .u32 (bits .or .u32 (bits .or .u32 w0 b1) b2) b3) = some r) :
    Calls Tryz.prog 6 #[.agg #[.int .i64 op, .int .i64 rd, .int .i64 a, .int .i64 b, .int .i64 imm, .bool false, .bool false]] w fun e w' => e = .returned (.int .u32 r) ∧ Below w.heap.size w w' := by
  have hf : fm = 3 ∨ fm = 7 ∨ fm = 8 ∨ fm = 6 := by
    unfold tail4 at hr
    by_cases f3 : fm = 3
    · exact .inl f3
    by_cases f7 : fm = 7
    · exact .inr (.inl f7)
    by_cases f8 : fm = 8
    · exact .inr (.inr (.inl f8))
    by_cases f6 : fm = 6
    · exact .inr (.inr (.inr f6))
    rw [if_neg f3, if_neg f7, if_neg f8, if_neg f6] at hr
    cases hr
  obtain ⟨S, hS⟩ : ∃ S : World → Prop, ∀ w', S w' ↔ ( w'.cell? { block := w.heap.size, off := 0 } = some (.int .i64 op) ∧ w'.cell? { block := w.heap.size, off := 1 } = some (.int .i64 rd) ∧ w'.cell? { block := w.heap.size, off := 2 } = some (.int .i64 a) ∧ w'.cell? { block := w.heap.size, off := 3 } = some (.int .i64 b) ∧ w'.cell? { block := w.heap.size, off := 4 } = some (.int .i64 imm) ∧ w'.cell? { block := w.heap.size, off := 5 } = some (.bool false) ∧ w'.cell? { block := w.heap.size, off := 6 } = some (.bool false) ∧ Below w.heap.size w w' ∧ w.heap.size < w'.heap.size) := ⟨_, fun _ => Iff.rfl⟩
  have keep : ∀ W W', S W → Below W.heap.size W W' → S W' := by
    intro W W' h hd
    obtain ⟨c0, c1, c2, c3, c4, c5, c6, hB, hs⟩ := (hS _).1 h
    refine (hS _).2 ⟨?_, ?_, ?_, ?_, ?_, ?_, ?_, hB.trans (hd.mono (Nat.le_of_lt hs)), Nat.lt_of_lt_of_le hs hd.size⟩
    all_goals rw [hd.cell (by exact hs)]; assumption
  have cW : ∀ W, S W → Calls Tryz.prog 20 #[.int .i64 op] W fun e w' => e = .returned (.int .u32 w0) ∧ S w' := fun W h =>
    (ref04_Word.calls op w0 W hW).mono fun e w' ⟨he, hd⟩ => ⟨he, keep _ _ h hd⟩
  have cb : ∀ (n f c t r : Int), QB.spinnakerref04_bits.f k n f c t = some r → ∀ W, S W → Calls Tryz.prog 21 #[.int .i64 n, .int .i64 f, .int .i64 c, .int .i64 t] W fun e w' => e = .returned (.int .u32 r) ∧ S w' := fun n f c t r h W hS =>
    (QB.spinnakerref04_bits.calls k n f c t r W h).mono fun e w' ⟨he, hd⟩ => ⟨he, keep _ _ hS hd.below⟩
  have cF : ∀ W, S W → Calls Tryz.prog 22 #[.int .i64 op] W fun e w' => e = .returned (.int .i64 fm) ∧ S w' := fun W h =>
    (QB.spinnakerref03_Form.calls op fm W hF).mono fun e w' ⟨he, hd⟩ => ⟨he, keep _ _ h hd.below⟩
  have begins : ∀ W, W = w.alloc (.cells #[.int .i64 op, .int .i64 rd, .int .i64 a, .int .i64 b, .int .i64 imm, .bool false, .bool false] 31) → S W := by
    rintro W rfl
    exact (hS _).2 ⟨by simp [go_sem], by simp [go_sem], by simp [go_sem], by simp [go_sem], by simp [go_sem], by simp [go_sem], by simp [go_sem], (Below.refl _ _).alloc (Nat.le_refl _) _, by simp [go_sem]⟩
  go_enter Tryz.func6, Tryz.ntmps6
  go_wp2
  generalize hW0 : w.alloc _ = W
  obtain ⟨c0, c1, c2, c3, c4, c5, c6, hB, hs⟩ := (hS _).1 (begins W hW0.symm)
  clear hW0 begins
  go_region_held3 (fun w' => w'.cell? { block := w.heap.size, off := 0 } = some (.int .i64 op) ∧ w'.cell? { block := w.heap.size, off := 1 } = some (.int .i64 rd) ∧ w'.cell? { block := w.heap.size, off := 2 } = some (.int .i64 a) ∧ w'.cell? { block := w.heap.size, off := 3 } = some (.int .i64 b) ∧ w'.cell? { block := w.heap.size, off := 4 } = some (.int .i64 imm) ∧ w'.cell? { block := w.heap.size, off := 5 } = some (.bool false) ∧ w'.cell? { block := w.heap.size, off := 6 } = some (.bool false) ∧ Below w.heap.size w w' ∧ w.heap.size < w'.heap.size)
    (first | exact ⟨by assumption, by assumption, by assumption, by assumption, by assumption, by assumption, by assumption, by assumption, by assumption⟩ | exact ⟨c0, c1, c2, c3, c4, c5, c6, hB.drew, hs⟩)
    (first | (go_at_call 20; refine (cW _ ((hS _).2 ⟨by assumption, by assumption, by assumption, by assumption, by assumption, by assumption, by assumption, by first | assumption | exact Below.drew (by assumption), by assumption⟩)).mono ?_; rintro e w' ⟨rfl, dd⟩; obtain ⟨d0, d1, d2, d3, d4, d5, d6, d7, d8⟩ := (hS _).1 dd; clear dd)
           | (go_at_call 21; refine (cb _ _ _ _ _ (by first | with_reducible exact h1 | with_reducible exact h2 | with_reducible exact h3) _ ((hS _).2 ⟨by assumption, by assumption, by assumption, by assumption, by assumption, by assumption, by assumption, by first | assumption | exact Below.drew (by assumption), by assumption⟩)).mono ?_; rintro e w' ⟨rfl, dd⟩; obtain ⟨d0, d1, d2, d3, d4, d5, d6, d7, d8⟩ := (hS _).1 dd; clear dd))
  rcases hf with rfl | rfl | rfl | rfl
  case' inr.inr.inr =>
    simp only [tail4, if_neg (by decide : ¬ (6 : Int) = 3), if_neg (by decide : ¬ (6 : Int) = 7), if_neg (by decide : ¬ (6 : Int) = 8), if_true] at hr
    obtain rfl := Option.some.inj hr
    go_wp2_with (first | (go_at_call 22; refine (cF _ ((hS _).2 ⟨by assumption, by assumption, by assumption, by assumption, by assumption, by assumption, by assumption, by first | assumption | exact Below.drew (by assumption), by assumption⟩)).mono ?_; rintro e w' ⟨rfl, dd⟩; obtain ⟨d0, d1, d2, d3, d4, d5, d6, d7, d8⟩ := (hS _).1 dd; clear dd))
    go_ret
    exact ⟨rfl, by assumption⟩
  all_goals
    simp only [tail4, if_true, if_neg (by decide : ¬ (7 : Int) = 3), if_neg (by decide : ¬ (8 : Int) = 3), if_neg (by decide : ¬ (8 : Int) = 7), Option.map_eq_some_iff] at hr
    obtain ⟨b4, h4, rfl⟩ := hr
    go_wp2_with (first | (go_at_call 22; refine (cF _ ((hS _).2 ⟨by assumption, by assumption, by assumption, by assumption, by assumption, by assumption, by assumption, by first | assumption | exact Below.drew (by assumption), by assumption⟩)).mono ?_; rintro e w' ⟨rfl, dd⟩; obtain ⟨d0, d1, d2, d3, d4, d5, d6, d7, d8⟩ := (hS _).1 dd; clear dd) | (go_at_call 21; refine (cb _ _ _ _ _ h4 _ ((hS _).2 ⟨by assumption, by assumption, by assumption, by assumption, by assumption, by assumption, by assumption, by first | assumption | exact Below.drew (by assumption), by assumption⟩)).mono ?_; rintro e w' ⟨rfl, dd⟩; obtain ⟨d0, d1, d2, d3, d4, d5, d6, d7, d8⟩ := (hS _).1 dd; clear dd))
    go_ret
    exact ⟨rfl, by assumption⟩
end Go.Proofs.YtfcniikbcjmlcaaGreatDoor
end
section
namespace Go.Proofs.YtfcniikbcjmlcaaGreatDoor
open Go.RowKit Go.Proofs.YtfcniikbcjmlcaaGreatDoorW.PrintWords Go.Proofs.YtfcniikbcjmlcaaGreatDoorW.PrintLast Go.Proofs.YtfcniikbcjmlcaaGreatDoorW.PrintMore
set_option linter.unusedVariables false
set_option linter.unusedSimpArgs false
set_option maxRecDepth 100000
def wO (op : Int) : Nat := (opcTab.getD op.toNat 0).toNat
def wF3 (op : Int) : Nat := (f3Tab.getD op.toNat 0).toNat
def wF7 (op : Int) : Nat := (f7Tab.getD op.toNat 0).toNat
def fldN (op b imm : Int) : Nat := if fmOf op = 6 then b.toNat else (imm % 4096).toNat
def wordN (o f3 f7 r a f : Nat) : Nat := o + r * 128 + f3 * 4096 + a * 32768 + f * 1048576 + f7 * 33554432
def wordI (op rd a b imm : Int) : Nat := wordN (wO op) (wF3 op) (wF7 op) rd.toNat a.toNat (fldN op b imm)
structure Parts (op : Int) (o f3 f7 : Nat) : Prop where
  o1 : o < 128
  g1 : f3 < 8
  s1 : f7 < 128
  e1 : opcTab.getD op.toNat 0 = (o : Int)
  e2 : f3Tab.getD op.toNat 0 = (f3 : Int)
  e3 : f7Tab.getD op.toNat 0 = (f7 : Int)
  ew : wordNums.getD (op.toNat - 1) 0 = ((o + f3 * 4096 + f7 * 33554432 : Nat) : Int)
  z3 : fmOf op = 3 → f7 = 0
  z7 : fmOf op = 7 → f7 = 0 ∨ f7 = 32
theorem parts_op (op : Int) (h : 22 ≤ op ∧ op ≤ 62) : Parts op (wO op) (wF3 op) (wF7 op) := by
  rcases op_cases h with rfl | rfl | rfl | rfl | rfl | rfl | rfl | rfl | rfl | rfl | rfl | rfl | rfl | rfl | rfl | rfl | rfl | rfl | rfl | rfl | rfl | rfl | rfl | rfl | rfl | rfl | rfl | rfl | rfl | rfl | rfl | rfl | rfl | rfl | rfl | rfl | rfl | rfl | rfl | rfl | rfl
  all_goals exact ⟨by decide, by decide, by decide, by decide, by decide, by decide, by decide, by decide, by decide⟩
structure WOk (o f3 f7 r a f : Nat) : Prop where
  o1 : o < 128
  g1 : f3 < 8
  r1 : r < 32
  a1 : a < 32
  f1 : f + f7 * 32 < 4096
theorem immOK_range {op imm : Int} (h : immOK (fmOf op) imm) : (fmOf op = 6 → imm = 0) ∧ (fmOf op = 7 → 0 ≤ imm ∧ imm ≤ 63) ∧ (fmOf op = 8 → 0 ≤ imm ∧ imm ≤ 31) ∧ (fmOf op = 3 → -2048 ≤ imm ∧ imm ≤ 2047) := by
  unfold immOK at h
  refine ⟨fun e => ?_, fun e => ?_, fun e => ?_, fun e => ?_⟩
  all_goals (rw [e] at h; simpa using h)
theorem fm_some (op : Int) : fmOf op = 6 ∧ 35 ≤ op ∨ fmOf op = 7 ∧ ¬ 35 ≤ op ∨ fmOf op = 8 ∧ ¬ 35 ≤ op ∨ fmOf op = 3 ∧ ¬ 35 ≤ op := by
  rcases fm_cases op with ⟨e1, e2, _⟩ | ⟨e1, e2, _⟩ | ⟨e1, e2, _⟩ | ⟨e1, e2, _⟩
  · exact .inl ⟨e1, e2⟩
  · exact .inr (.inl ⟨e1, e2⟩)
  · exact .inr (.inr (.inl ⟨e1, e2⟩))
  · exact .inr (.inr (.inr ⟨e1, e2⟩))
theorem f8_op (op : Int) (h : 22 ≤ op ∧ op ≤ 62) : fmOf op = 8 → wF7 op = 0 ∨ wF7 op = 32 := by
  rcases op_cases h with rfl | rfl | rfl | rfl | rfl | rfl | rfl | rfl | rfl | rfl | rfl | rfl | rfl | rfl | rfl | rfl | rfl | rfl | rfl | rfl | rfl | rfl | rfl | rfl | rfl | rfl | rfl | rfl | rfl | rfl | rfl | rfl | rfl | rfl | rfl | rfl | rfl | rfl | rfl | rfl | rfl
  all_goals decide
theorem wok_of {op rd a b imm : Int} (F : Fields op rd a b imm) : WOk (wO op) (wF3 op) (wF7 op) rd.toNat a.toNat (fldN op b imm) := by
  have P := parts_op op ⟨F.op0, F.op1⟩
  have hr := immOK_range F.im
  have h0 := F.rd0
  have h1 := F.rd1
  have h2 := F.a0
  have h3 := F.a1
  have h4 := F.b0
  have h5 := F.b1
  have h6 := f8_op op ⟨F.op0, F.op1⟩
  refine ⟨P.o1, P.g1, by omega, by omega, ?_⟩
  have z3 := P.z3
  have z7 := P.z7
  have s1 := P.s1
  unfold fldN
  generalize wF7 op = f7 at *
  rcases fm_some op with ⟨e, _⟩ | ⟨e, _⟩ | ⟨e, _⟩ | ⟨e, _⟩
  · rw [if_pos e]; omega
  · rw [if_neg (by rw [e]; decide)]; have := hr.2.1 e; have := z7 e; omega
  · rw [if_neg (by rw [e]; decide)]; have := hr.2.2.1 e; have := h6 e; omega
  · rw [if_neg (by rw [e]; decide)]; have := hr.2.2.2 e; have := z3 e; omega
theorem w64_nat {x : Int} (h0 : 0 ≤ x) (h1 : x ≤ 31) : W64 x = ((x.toNat : Nat) : Int) := by rw [W64_eq]; omega
theorem enc_ref {op rd a b imm : Int} (F : Fields op rd a b imm) (w : World) :
    Calls Tryz.prog 6 #[.agg #[.int .i64 op, .int .i64 rd, .int .i64 a, .int .i64 b, .int .i64 imm, .bool false, .bool false]] w fun e w' => e = .returned (.int .u32 (wordI op rd a b imm : Nat)) ∧ Below w.heap.size w w' := by
  have hop : 22 ≤ op ∧ op ≤ 62 := ⟨F.op0, F.op1⟩
  have P := parts_op op hop
  have K := wok_of F
  have hr := immOK_range F.im
  have h4 := F.b0
  have h5 := F.b1
  have h6 := f8_op op hop
  have z3 := P.z3
  have z7 := P.z7
  refine ref04_Encode.calls 300 op rd a b imm _ _ _ _ _ _ w (word_op op hop) (bits_f 300 rd rd.toNat 7 5 (w64_nat F.rd0 F.rd1) (by decide) (by decide)) (bits_f 300 a a.toNat 15 5 (w64_nat F.a0 F.a1) (by decide) (by decide)) (bits_f 300 b b.toNat 20 5 (w64_nat F.b0 F.b1) (by decide) (by decide)) (form3_op op hop) ?_
  rw [P.ew]
  unfold wordI
  unfold fldN at *
  have o1 := P.o1
  have g1 := P.g1
  have s1 := P.s1
  generalize wO op = o at *
  generalize wF3 op = f3 at *
  generalize wF7 op = f7 at *
  obtain ⟨ko, kg, kr, ka, kf⟩ := K
  have erd : rd.toNat % 2 ^ 5 = rd.toNat := Nat.mod_eq_of_lt kr
  have ea : a.toNat % 2 ^ 5 = a.toNat := Nat.mod_eq_of_lt ka
  have eb : b.toNat % 2 ^ 5 = b.toNat := Nat.mod_eq_of_lt (by omega)
  rw [erd, ea, eb]
  generalize rd.toNat = r at *
  generalize a.toNat = x at *
  rw [or_pow _ r 7 5 (by omega) (by decide) kr (by show _ / 128 % 32 = 0; omega), or_pow _ x 15 5 (by show _ + r * 128 < _; omega) (by decide) ka (by show (_ + r * 128) / 32768 % 32 = 0; omega)]
  have hbb : b.toNat < 32 := by omega
  rw [or_pow _ b.toNat 20 5 (by show _ + r * 128 + x * 32768 < _; omega) (by decide) hbb (by show (_ + r * 128 + x * 32768) / 1048576 % 32 = 0; rcases fm_some op with ⟨e, _⟩ | ⟨e, _⟩ | ⟨e, _⟩ | ⟨e, _⟩ <;> omega)]
  unfold wordN
  rcases fm_some op with ⟨e, e35⟩ | ⟨e, e35⟩ | ⟨e, e35⟩ | ⟨e, e35⟩
  · rw [e]
    show some _ = some _
    congr 2
    rw [if_pos rfl]
    show _ + r * 128 + x * 32768 + b.toNat * 1048576 = _
    omega
  · have hb0 := F.bz e35
    have hi := hr.2.1 e
    have hz := z7 e
    have hv : W64 imm = ((imm.toNat : Nat) : Int) := by rw [W64_eq]; omega
    rw [e, hb0, show (0 : Int).toNat = 0 from rfl]
    show (QB.spinnakerref04_bits.f 300 imm 0 6 20).map (fun b => bits .or .u32 _ b) = _
    rw [show QB.spinnakerref04_bits.f 300 imm 0 6 20 = _ from bits_f 300 imm imm.toNat 20 6 hv (by decide) (by decide)]
    have em : imm.toNat % 2 ^ 6 = imm.toNat := Nat.mod_eq_of_lt (by show _ < 64; omega)
    rw [em, Option.map_some]
    show some (bits .or .u32 _ _) = some _
    rw [or_pow _ imm.toNat 20 6 (by show _ + r * 128 + x * 32768 + 0 * 1048576 < _; omega) (by decide) (by show _ < 64; omega) (by show (_ + r * 128 + x * 32768 + 0 * 1048576) / 1048576 % 64 = 0; omega)]
    congr 2
    rw [if_neg (by decide)]
    show _ + r * 128 + x * 32768 + 0 * 1048576 + imm.toNat * 1048576 = _
    omega
  · have hb0 := F.bz e35
    have hi := hr.2.2.1 e
    have hz := h6 e
    have hv : W64 imm = ((imm.toNat : Nat) : Int) := by rw [W64_eq]; omega
    rw [e, hb0, show (0 : Int).toNat = 0 from rfl]
    show (QB.spinnakerref04_bits.f 300 imm 0 5 20).map (fun b => bits .or .u32 _ b) = _
    rw [show QB.spinnakerref04_bits.f 300 imm 0 5 20 = _ from bits_f 300 imm imm.toNat 20 5 hv (by decide) (by decide)]
    have em : imm.toNat % 2 ^ 5 = imm.toNat := Nat.mod_eq_of_lt (by show _ < 32; omega)
    rw [em, Option.map_some]
    show some (bits .or .u32 _ _) = some _
    rw [or_pow _ imm.toNat 20 5 (by show _ + r * 128 + x * 32768 + 0 * 1048576 < _; omega) (by decide) (by show _ < 32; omega) (by show (_ + r * 128 + x * 32768 + 0 * 1048576) / 1048576 % 32 = 0; omega)]
    congr 2
    rw [if_neg (by decide)]
    show _ + r * 128 + x * 32768 + 0 * 1048576 + imm.toNat * 1048576 = _
    omega
  · have hb0 := F.bz e35
    have hi := hr.2.2.2 e
    have hz := z3 e
    have hv : W64 imm = (((imm % 18446744073709551616).toNat : Nat) : Int) := by rw [W64_eq]; omega
    rw [e, hb0, show (0 : Int).toNat = 0 from rfl]
    show (QB.spinnakerref04_bits.f 300 imm 0 12 20).map (fun b => bits .or .u32 _ b) = _
    rw [show QB.spinnakerref04_bits.f 300 imm 0 12 20 = _ from bits_f 300 imm _ 20 12 hv (by decide) (by decide)]
    have em : (imm % 18446744073709551616).toNat % 2 ^ 12 = (imm % 4096).toNat := by show _ % 4096 = _; omega
    rw [em, Option.map_some]
    show some (bits .or .u32 _ _) = some _
    rw [or_pow _ (imm % 4096).toNat 20 12 (by show _ + r * 128 + x * 32768 + 0 * 1048576 < _; omega) (by decide) (by show _ < 4096; omega) (by show (_ + r * 128 + x * 32768 + 0 * 1048576) / 1048576 % 4096 = 0; omega)]
    congr 2
    rw [if_neg (by decide)]
    show _ + r * 128 + x * 32768 + 0 * 1048576 + (imm % 4096).toNat * 1048576 = _
    omega
theorem wordN_lt {o f3 f7 r a f : Nat} (K : WOk o f3 f7 r a f) : wordN o f3 f7 r a f < 4294967296 := by
  obtain ⟨k1, k2, k3, k4, k5⟩ := K
  unfold wordN
  omega
section
variable {o f3 f7 r a f : Nat}
theorem fld_f3 (K : WOk o f3 f7 r a f) : QA.dec_field.f (wordN o f3 f7 r a f : Nat) 12 3 = some (f3 : Int) := by
  have h := field_f (wordN o f3 f7 r a f) 12 3 (wordN_lt K) (by decide) (by decide)
  have e : wordN o f3 f7 r a f / 2 ^ 12 % 2 ^ 3 = f3 := by obtain ⟨k1, k2, k3, k4, k5⟩ := K; show wordN o f3 f7 r a f / 4096 % 8 = f3; unfold wordN; omega
  rw [e] at h
  exact h
theorem fld_o (K : WOk o f3 f7 r a f) : QA.dec_field.f (wordN o f3 f7 r a f : Nat) 0 7 = some (o : Int) := by
  have h := field_f (wordN o f3 f7 r a f) 0 7 (wordN_lt K) (by decide) (by decide)
  have e : wordN o f3 f7 r a f / 2 ^ 0 % 2 ^ 7 = o := by obtain ⟨k1, k2, k3, k4, k5⟩ := K; show wordN o f3 f7 r a f / 1 % 128 = o; unfold wordN; omega
  rw [e] at h
  exact h
theorem fld_r (K : WOk o f3 f7 r a f) : QA.dec_field.f (wordN o f3 f7 r a f : Nat) 7 5 = some (r : Int) := by
  have h := field_f (wordN o f3 f7 r a f) 7 5 (wordN_lt K) (by decide) (by decide)
  have e : wordN o f3 f7 r a f / 2 ^ 7 % 2 ^ 5 = r := by obtain ⟨k1, k2, k3, k4, k5⟩ := K; show wordN o f3 f7 r a f / 128 % 32 = r; unfold wordN; omega
  rw [e] at h
  exact h
theorem fld_a (K : WOk o f3 f7 r a f) : QA.dec_field.f (wordN o f3 f7 r a f : Nat) 15 5 = some (a : Int) := by
  have h := field_f (wordN o f3 f7 r a f) 15 5 (wordN_lt K) (by decide) (by decide)
  have e : wordN o f3 f7 r a f / 2 ^ 15 % 2 ^ 5 = a := by obtain ⟨k1, k2, k3, k4, k5⟩ := K; show wordN o f3 f7 r a f / 32768 % 32 = a; unfold wordN; omega
  rw [e] at h
  exact h
theorem fld_f7 (K : WOk o f3 f7 r a f) : QA.dec_field.f (wordN o f3 f7 r a f : Nat) 25 7 = some ((f / 32 + f7 : Nat) : Int) := by
  have h := field_f (wordN o f3 f7 r a f) 25 7 (wordN_lt K) (by decide) (by decide)
  have e : wordN o f3 f7 r a f / 2 ^ 25 % 2 ^ 7 = f / 32 + f7 := by obtain ⟨k1, k2, k3, k4, k5⟩ := K; show wordN o f3 f7 r a f / 33554432 % 128 = _; unfold wordN; omega
  rw [e] at h
  exact h
theorem fld_top (K : WOk o f3 f7 r a f) : QA.dec_field.f (wordN o f3 f7 r a f : Nat) 26 6 = some (((f / 32 + f7) / 2 : Nat) : Int) := by
  have h := field_f (wordN o f3 f7 r a f) 26 6 (wordN_lt K) (by decide) (by decide)
  have e : wordN o f3 f7 r a f / 2 ^ 26 % 2 ^ 6 = (f / 32 + f7) / 2 := by obtain ⟨k1, k2, k3, k4, k5⟩ := K; show wordN o f3 f7 r a f / 67108864 % 64 = _; unfold wordN; omega
  rw [e] at h
  exact h
theorem fld_5 (K : WOk o f3 f7 r a f) : QA.dec_field.f (wordN o f3 f7 r a f : Nat) 20 5 = some ((f % 32 : Nat) : Int) := by
  have h := field_f (wordN o f3 f7 r a f) 20 5 (wordN_lt K) (by decide) (by decide)
  have e : wordN o f3 f7 r a f / 2 ^ 20 % 2 ^ 5 = f % 32 := by obtain ⟨k1, k2, k3, k4, k5⟩ := K; show wordN o f3 f7 r a f / 1048576 % 32 = _; unfold wordN; omega
  rw [e] at h
  exact h
theorem fld_6 (K : WOk o f3 f7 r a f) : QA.dec_field.f (wordN o f3 f7 r a f : Nat) 20 6 = some (((f + f7 * 32) % 64 : Nat) : Int) := by
  have h := field_f (wordN o f3 f7 r a f) 20 6 (wordN_lt K) (by decide) (by decide)
  have e : wordN o f3 f7 r a f / 2 ^ 20 % 2 ^ 6 = (f + f7 * 32) % 64 := by obtain ⟨k1, k2, k3, k4, k5⟩ := K; show wordN o f3 f7 r a f / 1048576 % 64 = _; unfold wordN; omega
  rw [e] at h
  exact h
theorem fld_12 (K : WOk o f3 f7 r a f) : QA.dec_field.f (wordN o f3 f7 r a f : Nat) 20 12 = some ((f + f7 * 32 : Nat) : Int) := by
  have h := field_f (wordN o f3 f7 r a f) 20 12 (wordN_lt K) (by decide) (by decide)
  have e : wordN o f3 f7 r a f / 2 ^ 20 % 2 ^ 12 = f + f7 * 32 := by obtain ⟨k1, k2, k3, k4, k5⟩ := K; show wordN o f3 f7 r a f / 1048576 % 4096 = _; unfold wordN; omega
  rw [e] at h
  exact h
end
def opT (c o f3 x top : Int) : Option Int :=
  if o = 55 then some 1 else if o = 23 then some 2 else if o = 111 then some 3 else if o = 103 then QA.dec_pick.f 99 4 f3 [0] else if o = 99 then QA.dec_pick.f 99 5 f3 [0, 1, 4, 5, 6, 7]
  else if o = 3 then QA.dec_pick.f 99 11 f3 [0, 1, 2, 3, 4, 5, 6] else if o = 35 then QA.dec_pick.f 99 18 f3 [0, 1, 2, 3]
  else if o = 19 then (if 0 ≤ f3 ∧ f3 < 8 then (if f3 = 1 ∨ f3 = 5 then (if top = 0 then some (immTab.getD f3.toNat 0) else if top = 16 then some (if f3 = 5 then 30 else 0) else some 0) else some (immTab.getD f3.toNat 0)) else none)
  else if o = 27 then dec_small.f f3 x else if o = 51 then dec_whole.f f3 x else if o = 59 then dec_half.f f3 x else if o = 47 then QB.dec_atomic.f 99 c f3 else if o = 115 then QB.dec_system.f 99 c else if o = 15 then QA.dec_pick.f 99 63 f3 [0] else some 0
theorem dec_op_eq (c o f3 x top : Int) (h1 : QA.dec_field.f c 12 3 = some f3) (h2 : QA.dec_field.f c 25 7 = some x) (h3 : QA.dec_field.f c 0 7 = some o) (h4 : QA.dec_field.f c 26 6 = some top) : QB.dec_operation.f 99 c = opT c o f3 x top := by
  unfold QB.dec_operation.f dec_immediates.f opT
  rw [h1, h2, h3, h4]
  simp only [Option.bind_some, Option.bind_fun_some]
theorem dec_op {op rd a b imm : Int} (F : Fields op rd a b imm) : QB.dec_operation.f 99 (wordI op rd a b imm : Nat) = some op := by
  have K := wok_of F
  have hr := immOK_range F.im
  have h4 := F.b0
  have h5 := F.b1
  rw [dec_op_eq (wordI op rd a b imm : Nat) _ _ _ _ (fld_f3 K) (fld_f7 K) (fld_o K) (fld_top K)]
  have hx : (fmOf op = 6 ∨ fmOf op = 8 → fldN op b imm / 32 = 0) ∧ (fmOf op = 7 → fldN op b imm / 32 ≤ 1) := by
    unfold fldN
    refine ⟨fun h => ?_, fun h => ?_⟩
    · rcases h with h | h
      · rw [if_pos h]; omega
      · rw [if_neg (by rw [h]; decide)]; have := hr.2.2.1 h; omega
    · rw [if_neg (by rw [h]; decide)]; have := hr.2.1 h; omega
  clear hr
  obtain ⟨hx1, hx2⟩ := hx
  generalize ((wordI op rd a b imm : Nat) : Int) = c
  generalize fldN op b imm / 32 = q at *
  have hop : 22 ≤ op ∧ op ≤ 62 := ⟨F.op0, F.op1⟩
  clear F K h4 h5
  rcases op_cases hop with rfl | rfl | rfl | rfl | rfl | rfl | rfl | rfl | rfl | rfl | rfl | rfl | rfl | rfl | rfl | rfl | rfl | rfl | rfl | rfl | rfl | rfl | rfl | rfl | rfl | rfl | rfl | rfl | rfl | rfl | rfl | rfl | rfl | rfl | rfl | rfl | rfl | rfl | rfl | rfl | rfl
  all_goals first | rfl | (have hq := hx1 (Or.inl rfl); subst hq; rfl) | (have hq := hx1 (Or.inr rfl); subst hq; rfl) | (have h2 := hx2 rfl; (obtain rfl | rfl : q = 0 ∨ q = 1 := by omega) <;> rfl)
theorem sign12 (v : Nat) (hv : v < 4096) : QA.dec_signed.f (v : Int) 12 = some (if v < 2048 then (v : Int) else v - 4096) := by
  unfold QA.dec_signed.f QA.word_Sign.f
  have e0 : QA.word_may.f 0 12 = some true := by show _ = _; kernel_rfl
  have e1 : wrap64 (64 - 12) = 52 := by unfold wrap64; decide
  have e2 : IntKind.u64.wrap ((v : Int) % 4294967296) = v := by rw [show IntKind.u64.wrap ((v : Int) % 4294967296) = W64 ((v : Int) % 4294967296) from rfl, W64_eq]; omega
  rw [e0]
  simp only [Option.bind_some, if_true]
  rw [e1, if_pos (by decide), e2]
  have e3 : shl .u64 (v : Int) 52 = (v : Int) * 4503599627370496 := by
    show W64 ((v : Int) * 2 ^ min (52 : Int).toNat 64) = _
    rw [show (2 : Int) ^ min (52 : Int).toNat 64 = 4503599627370496 from by decide, W64_eq]
    omega
  have e4 : shr .i64 (wrap64 ((v : Int) * 4503599627370496)) 52 = if v < 2048 then (v : Int) else v - 4096 := by
    show wrap64 ((v : Int) * 4503599627370496) / 2 ^ min (52 : Int).toNat 64 = _
    rw [show (2 : Int) ^ min (52 : Int).toNat 64 = 4503599627370496 from by decide]
    unfold wrap64
    split <;> omega
  rw [e3]
  simp only [Option.bind_some]
  rw [e4]
theorem immF0 {c : Int} {n v : Nat} (h : QA.dec_field.f c 20 (n : Int) = some ((v : Nat) : Int)) (hv : v < 4294967296) : immF c 20 n 0 = some ((v : Nat) : Int) := by
  unfold immF
  rw [h]
  simp only [Option.bind_some]
  congr 1
  rw [show (2 : Int) ^ (0 : Int).toNat = 1 from rfl, Int.mul_one]
  unfold wrap64
  omega
theorem dec_imm {op rd a b imm : Int} (F : Fields op rd a b imm) : dec_immediate.f (wordI op rd a b imm : Nat) (fmOf op) = some imm := by
  have hop : 22 ≤ op ∧ op ≤ 62 := ⟨F.op0, F.op1⟩
  have K := wok_of F
  have P := parts_op op hop
  have hr := immOK_range F.im
  have z3 := P.z3
  have z7 := P.z7
  have g12 := fld_12 K
  have g6 := fld_6 K
  have g5 := fld_5 K
  have kf := K.f1
  unfold wordI
  generalize ((wordN (wO op) (wF3 op) (wF7 op) rd.toNat a.toNat (fldN op b imm) : Nat) : Int) = c at *
  clear K P F
  unfold fldN at *
  generalize wF7 op = f7 at *
  rcases fm_some op with ⟨e, _⟩ | ⟨e, _⟩ | ⟨e, _⟩ | ⟨e, _⟩
  · rw [e, hr.1 e]; rfl
  · have hi := hr.2.1 e
    have hz := z7 e
    rw [e] at g6 kf ⊢
    rw [if_neg (by decide)] at g6 kf
    rw [show ((imm % 4096).toNat + f7 * 32) % 64 = imm.toNat by omega] at g6
    show immF c 20 6 0 = _
    rw [show immF c 20 6 0 = _ from immF0 (n := 6) g6 (by omega)]
    congr 1
    omega
  · have hi := hr.2.2.1 e
    rw [e] at g5 kf ⊢
    rw [if_neg (by decide)] at g5 kf
    rw [show (imm % 4096).toNat % 32 = imm.toNat by omega] at g5
    show immF c 20 5 0 = _
    rw [show immF c 20 5 0 = _ from immF0 (n := 5) g5 (by omega)]
    congr 1
    omega
  · have hi := hr.2.2.2 e
    have hz := z3 e
    rw [e] at g12 kf ⊢
    rw [if_neg (by decide)] at g12 kf
    rw [hz, Nat.zero_mul, Nat.add_zero] at g12
    show (immF c 20 12 0).bind (fun v => QA.dec_signed.f v 12) = _
    rw [show immF c 20 12 0 = _ from immF0 (n := 12) g12 (by omega)]
    simp only [Option.bind_some]
    rw [sign12 _ (by omega)]
    congr 1
    split <;> omega
theorem fields_of {op rd a b imm : Int} (F : Fields op rd a b imm) : ((rd.toNat : Nat) : Int) = rd ∧ ((a.toNat : Nat) : Int) = a ∧ (fmOf op = 6 → (((fldN op b imm) % 32 : Nat) : Int) = b) ∧ (¬ fmOf op = 6 → b = 0) := by
  have h0 := F.rd0
  have h1 := F.a0
  have h4 := F.b0
  have h5 := F.b1
  refine ⟨by omega, by omega, fun e => ?_, fun e => ?_⟩
  · unfold fldN
    rw [if_pos e]
    omega
  · rcases fm_some op with ⟨e1, _⟩ | ⟨_, e2⟩ | ⟨_, e2⟩ | ⟨_, e2⟩
    · exact absurd e1 e
    · exact F.bz e2
    · exact F.bz e2
    · exact F.bz e2
theorem parts_core6 (c op rd a b imm : Int) (hf : QB.isa_Form.f 99 op = some 6) (hi : dec_immediate.f c 6 = some imm) (g1 : QA.dec_field.f c 7 5 = some rd) (g2 : QA.dec_field.f c 15 5 = some a) (g3 : QA.dec_field.f c 20 5 = some b) :
    QB.dec_parts.f 99 c op = some (op, rd, a, b, imm, false, false) := by
  unfold QB.dec_parts.f
  rw [hf, Option.bind_some, hi, Option.bind_some, g1, Option.bind_some, g2, Option.bind_some, g3, Option.bind_some]
  rw [if_neg (by decide), QB.dec_parts.j0, if_neg (by decide), if_neg (by decide), QB.dec_parts.j1, if_neg (by decide), if_pos rfl, QB.dec_parts.j2, if_pos (by decide), QB.dec_parts.j3, if_neg (by decide), QB.dec_parts.j4, if_neg (by decide)]
theorem parts_core7 (c op rd a b imm : Int) (hf : QB.isa_Form.f 99 op = some 7) (hi : dec_immediate.f c 7 = some imm) (g1 : QA.dec_field.f c 7 5 = some rd) (g2 : QA.dec_field.f c 15 5 = some a) (g3 : QA.dec_field.f c 20 5 = some b) :
    QB.dec_parts.f 99 c op = some (op, rd, a, 0, imm, false, false) := by
  unfold QB.dec_parts.f
  rw [hf, Option.bind_some, hi, Option.bind_some, g1, Option.bind_some, g2, Option.bind_some, g3, Option.bind_some]
  rw [if_neg (by decide), QB.dec_parts.j0, if_neg (by decide), if_neg (by decide), QB.dec_parts.j1, if_neg (by decide), if_neg (by decide), QB.dec_parts.j2, if_neg (by decide), if_neg (by decide), if_pos rfl, QB.dec_parts.j3, if_neg (by decide), QB.dec_parts.j4, if_neg (by decide)]
theorem parts_core8 (c op rd a b imm : Int) (hf : QB.isa_Form.f 99 op = some 8) (hi : dec_immediate.f c 8 = some imm) (g1 : QA.dec_field.f c 7 5 = some rd) (g2 : QA.dec_field.f c 15 5 = some a) (g3 : QA.dec_field.f c 20 5 = some b) :
    QB.dec_parts.f 99 c op = some (op, rd, a, 0, imm, false, false) := by
  unfold QB.dec_parts.f
  rw [hf, Option.bind_some, hi, Option.bind_some, g1, Option.bind_some, g2, Option.bind_some, g3, Option.bind_some]
  rw [if_neg (by decide), QB.dec_parts.j0, if_neg (by decide), if_neg (by decide), QB.dec_parts.j1, if_neg (by decide), if_neg (by decide), QB.dec_parts.j2, if_neg (by decide), if_neg (by decide), if_neg (by decide), if_pos rfl, QB.dec_parts.j3, if_neg (by decide), QB.dec_parts.j4, if_neg (by decide)]
theorem parts_core3 (c op rd a b imm : Int) (hf : QB.isa_Form.f 99 op = some 3) (hi : dec_immediate.f c 3 = some imm) (g1 : QA.dec_field.f c 7 5 = some rd) (g2 : QA.dec_field.f c 15 5 = some a) (g3 : QA.dec_field.f c 20 5 = some b) :
    QB.dec_parts.f 99 c op = some (op, rd, a, 0, imm, false, false) := by
  unfold QB.dec_parts.f
  rw [hf, Option.bind_some, hi, Option.bind_some, g1, Option.bind_some, g2, Option.bind_some, g3, Option.bind_some]
  rw [if_neg (by decide), QB.dec_parts.j0, if_neg (by decide), if_neg (by decide), QB.dec_parts.j1, if_neg (by decide), if_neg (by decide), QB.dec_parts.j2, if_neg (by decide), if_pos rfl, QB.dec_parts.j3, if_neg (by decide), QB.dec_parts.j4, if_neg (by decide)]
theorem dec_parts_eq {op rd a b imm : Int} (F : Fields op rd a b imm) : QB.dec_parts.f 99 (wordI op rd a b imm : Nat) op = some (op, rd, a, b, imm, false, false) := by
  have hop : 22 ≤ op ∧ op ≤ 62 := ⟨F.op0, F.op1⟩
  have K := wok_of F
  have hi := dec_imm F
  obtain ⟨q1, q2, q3, q4⟩ := fields_of F
  have g1 := fld_r K
  have g2 := fld_a K
  have g3 := fld_5 K
  have hf : QB.isa_Form.f 99 op = some (fmOf op) := formK_op 95 op hop
  rw [q1] at g1
  rw [q2] at g2
  rcases fm_some op with ⟨e, _⟩ | ⟨e, _⟩ | ⟨e, _⟩ | ⟨e, _⟩
  · rw [q3 e] at g3
    rw [e] at hi hf
    exact parts_core6 _ op rd a b imm hf hi g1 g2 g3
  · have hb := q4 (by rw [e]; decide)
    rw [e] at hi hf
    rw [hb] at hi g1 g2 g3 ⊢
    exact parts_core7 _ op rd a _ imm hf hi g1 g2 g3
  · have hb := q4 (by rw [e]; decide)
    rw [e] at hi hf
    rw [hb] at hi g1 g2 g3 ⊢
    exact parts_core8 _ op rd a _ imm hf hi g1 g2 g3
  · have hb := q4 (by rw [e]; decide)
    rw [e] at hi hf
    rw [hb] at hi g1 g2 g3 ⊢
    exact parts_core3 _ op rd a _ imm hf hi g1 g2 g3
theorem fields6 (k : Nat) : QB.isa_fields.f (k + 4) 6 = some (true, true, true) := rfl
theorem fields7 (k : Nat) : QB.isa_fields.f (k + 4) 7 = some (true, true, false) := rfl
theorem fields8 (k : Nat) : QB.isa_fields.f (k + 4) 8 = some (true, true, false) := rfl
theorem fields3 (k : Nat) : QB.isa_fields.f (k + 4) 3 = some (true, true, false) := rfl
theorem fields_op (k : Nat) (op : Int) : QB.isa_fields.f (k + 4) (fmOf op) = some (true, true, decide (35 ≤ op)) := by
  rcases fm_some op with ⟨e, h⟩ | ⟨e, h⟩ | ⟨e, h⟩ | ⟨e, h⟩
  · rw [e, decide_eq_true h]; exact fields6 k
  · rw [e, decide_eq_false h]; exact fields7 k
  · rw [e, decide_eq_false h]; exact fields8 k
  · rw [e, decide_eq_false h]; exact fields3 k
theorem regi_true {r : Int} (h0 : 0 ≤ r) (h1 : r ≤ 31) : QB.isa_register.f r true = some true := by
  unfold QB.isa_register.f
  rw [if_pos h0, if_pos (by omega), if_pos rfl]
theorem regi_b {op b : Int} (h0 : 0 ≤ b) (h1 : b ≤ 31) (hz : ¬ 35 ≤ op → b = 0) : QB.isa_register.f b (decide (35 ≤ op)) = some true := by
  by_cases h : 35 ≤ op
  · rw [decide_eq_true h]; exact regi_true h0 h1
  · rw [decide_eq_false h, hz h]; rfl
theorem fits12 (imm : Int) (h : -2048 ≤ imm ∧ imm ≤ 2047) : QB.word_Fits.f imm 12 = some true := by
  unfold QB.word_Fits.f
  have e1 : wrap64 (64 - 12) = 52 := by unfold wrap64; decide
  rw [if_neg (by decide), if_neg (by decide), e1, if_pos (by decide)]
  have e3 : wrap64 (shl .u64 (IntKind.u64.wrap imm) 52) = imm * 4503599627370496 := by
    show wrap64 (W64 (W64 imm * 2 ^ min (52 : Int).toNat 64)) = _
    rw [show (2 : Int) ^ min (52 : Int).toNat 64 = 4503599627370496 from by decide, W64_eq, W64_eq]
    unfold wrap64
    omega
  have e4 : shr .i64 (imm * 4503599627370496) 52 = imm := by
    show imm * 4503599627370496 / 2 ^ min (52 : Int).toNat 64 = _
    rw [show (2 : Int) ^ min (52 : Int).toNat 64 = 4503599627370496 from by decide]
    omega
  rw [e3, e4]
  simp
theorem immi_op (k : Nat) {op imm : Int} (h : immOK (fmOf op) imm) : QB.isa_immediate.f (k + 1) (fmOf op) imm = some true := by
  obtain ⟨h6, h7, h8, h3⟩ := immOK_range h
  unfold QB.isa_immediate.f
  rcases fm_some op with ⟨e, _⟩ | ⟨e, _⟩ | ⟨e, _⟩ | ⟨e, _⟩
  · rw [e, h6 e]; rfl
  · have := h7 e
    rw [e, if_neg (by decide), if_neg (by decide), if_neg (by decide), if_neg (by decide), QB.isa_immediate.j0, if_neg (by decide), if_pos rfl]
    unfold QB.isa_in.f
    rw [if_pos this.1, Option.bind_some, decide_eq_true this.2]
  · have := h8 e
    rw [e, if_neg (by decide), if_neg (by decide), if_neg (by decide), if_neg (by decide), QB.isa_immediate.j0, if_neg (by decide), if_neg (by decide), if_pos rfl]
    unfold QB.isa_in.f
    rw [if_pos this.1, Option.bind_some, decide_eq_true this.2]
  · rw [e, if_neg (by decide), if_neg (by decide), if_neg (by decide), if_pos rfl, QB.isa_immediate.j0, if_pos (by decide), fits12 imm (h3 e), Option.bind_some]
theorem isa_may (k : Nat) {op rd a b imm : Int} (F : Fields op rd a b imm) : QB.isa_May.f (k + 20) op rd a b imm false false = some true := by
  have hop : 22 ≤ op ∧ op ≤ 62 := ⟨F.op0, F.op1⟩
  have hneg : ¬ fmOf op < 0 := by rcases fm_some op with ⟨e, _⟩ | ⟨e, _⟩ | ⟨e, _⟩ | ⟨e, _⟩ <;> rw [e] <;> decide
  have h10 : ¬ fmOf op = 10 := by rcases fm_some op with ⟨e, _⟩ | ⟨e, _⟩ | ⟨e, _⟩ | ⟨e, _⟩ <;> rw [e] <;> decide
  have h11 : (fmOf op == 11) = false := by rcases fm_some op with ⟨e, _⟩ | ⟨e, _⟩ | ⟨e, _⟩ | ⟨e, _⟩ <;> rw [e] <;> decide
  unfold QB.isa_May.f
  rw [show QB.isa_Form.f (k + 20) op = some (fmOf op) from formK_op (k + 16) op hop, Option.bind_some, if_neg hneg, show QB.isa_fields.f (k + 20) (fmOf op) = _ from fields_op (k + 16) op, Option.bind_some, if_neg h10, h11, QB.isa_May.j0,
    regi_true F.rd0 F.rd1, Option.bind_some, if_pos rfl, regi_true F.a0 F.a1, Option.bind_some, if_pos rfl, regi_b F.b0 F.b1 F.bz, Option.bind_some, if_pos rfl, show QB.isa_immediate.f (k + 19) (fmOf op) imm = some true from immi_op (k + 18) F.im, Option.bind_some, if_pos rfl, if_neg (by decide), if_neg (by decide)]
  rfl
theorem isa_reads (k : Nat) {op rd a b imm : Int} (F : Fields op rd a b imm) : QB.isa_Reads.f (k + 20) op rd a b imm false false = some (true, decide (35 ≤ op)) := by
  have hop : 22 ≤ op ∧ op ≤ 62 := ⟨F.op0, F.op1⟩
  unfold QB.isa_Reads.f
  rw [isa_may k F, Option.bind_some, if_pos rfl, show QB.isa_Form.f (k + 20) op = some (fmOf op) from formK_op (k + 16) op hop, Option.bind_some, show QB.isa_fields.f (k + 20) (fmOf op) = _ from fields_op (k + 16) op, Option.bind_some]
theorem isa_writes (k : Nat) {op rd a b imm : Int} (F : Fields op rd a b imm) : QB.isa_Writes.f (k + 20) op rd a b imm false false = some (if rd = 0 then 0 else rd, !(rd == 0)) := by
  unfold QB.isa_Writes.f
  rw [isa_may k F, Option.bind_some, if_pos rfl]
  by_cases h : rd = 0
  · subst h
    rfl
  · have hb : (rd == 0) = false := beq_eq_false_iff_ne.2 h
    rw [if_neg h, if_neg h, hb]
    rfl
inductive Pk : Nat → List QB.S124 → Nat → Prop
  | nil (x : Nat) : Pk x [] x
  | cons (x v t n : Nat) (ps : List QB.S124) (y : Nat) (hx : x < 4294967296) (hv : v < 4294967296) (h1 : 1 ≤ n) (h2 : t + n ≤ 32) (h0 : x / 2 ^ t % 2 ^ n = 0) (h : Pk (x + v % 2 ^ n * 2 ^ t) ps y) : Pk x (⟨v, t, n⟩ :: ps) y
theorem pk_l0 {x : Nat} {ps : List QB.S124} {y : Nat} (h : Pk x ps y) : ∀ (k : Nat) (pre : List QB.S124), (pre ++ ps).length ≤ 100 → ps.length < k → QB.enc_pack.l0 k x (pre ++ ps) ((pre ++ ps).length : Int) (pre.length : Int) = some (y : Int) := by
  induction h with
  | nil x =>
    intro k pre hl hk
    obtain ⟨k, rfl⟩ : ∃ m, k = m + 1 := ⟨k - 1, by omega⟩
    rw [List.append_nil, QB.enc_pack.l0, if_neg (by omega)]
  | cons x v t n ps y hx hv h1 h2 h0 h ih =>
    intro k pre hl hk
    have hk' : ps.length < k - 1 := by rw [List.length_cons] at hk; clear hx h0 h ih; omega
    have hkp : 0 < k := by clear hx h0 h ih; omega
    obtain ⟨k, rfl⟩ : ∃ m, k = m + 1 := ⟨k - 1, by clear hx h0 h ih; omega⟩
    have hlen : (pre ++ (⟨v, t, n⟩ :: ps)).length = pre.length + (ps.length + 1) := by rw [List.length_append, List.length_cons]
    have hget : QB.rd_T124 (pre ++ (⟨v, t, n⟩ :: ps)) (pre.length : Int) = ⟨v, t, n⟩ := by
      unfold QB.rd_T124
      rw [Int.toNat_natCast, List.getD_eq_getElem?_getD, List.getElem?_append_right (Nat.le_refl _), Nat.sub_self]
      rfl
    have h3 : (pre.length : Int) < ((pre ++ (⟨v, t, n⟩ :: ps)).length : Int) := by rw [hlen]; clear hx h0 h ih; omega
    have h4 : wrap64 ((pre.length : Int) + 1) = ((pre ++ [(⟨v, t, n⟩ : QB.S124)]).length : Int) := by
      rw [List.length_append, List.length_singleton]
      rw [hlen] at hl
      clear hx h0 h ih
      unfold wrap64
      omega
    rw [QB.enc_pack.l0, if_pos h3, if_pos (Int.natCast_nonneg _), if_pos h3, hget, put_f x t n v hx hv h1 h2 h0, Option.bind_some, h4]
    have e : pre ++ (⟨v, t, n⟩ :: ps) = (pre ++ [(⟨v, t, n⟩ : QB.S124)]) ++ ps := by rw [List.append_assoc, List.singleton_append]
    rw [e]
    exact ih k (pre ++ [⟨v, t, n⟩]) (by rw [← e]; exact hl) hk'
theorem pk_pack {ps : List QB.S124} {y : Nat} (h : Pk 0 ps y) (k : Nat) (hk : ps.length < k) (hl : ps.length ≤ 100) : QB.enc_pack.f k ps = some (y : Int) := pk_l0 h k [] hl hk
def regsP (op rd a b : Int) : List QB.S124 :=
  (([(⟨a, 15, 5⟩ : QB.S124)] ++ (if 35 ≤ op then [(⟨b, 20, 5⟩ : QB.S124)] else [])) ++ (if rd = 0 then [] else [(⟨rd, 7, 5⟩ : QB.S124)]))
theorem regsP_eq (k : Nat) {op rd a b imm : Int} (F : Fields op rd a b imm) : QB.enc_registers.f (k + 40) op rd a b imm false false = some (regsP op rd a b) := by
  have h0 := F.rd0
  have h1 := F.rd1
  have h2 := F.a0
  have h3 := F.a1
  have h4 := F.b0
  have h5 := F.b1
  have ea : a % 4294967296 = a := by omega
  have eb : b % 4294967296 = b := by omega
  have er : rd % 4294967296 = rd := by omega
  unfold QB.enc_registers.f
  rw [show QB.isa_Reads.f (k + 40) op rd a b imm false false = _ from isa_reads (k + 20) F, Option.bind_some, if_pos rfl, if_pos (by decide), ea, QB.enc_registers.j0]
  unfold regsP
  have tail : ∀ xs : List QB.S124, xs.length ≤ 10 → QB.enc_registers.j1 (k + 39) xs op rd a b imm false false = some (xs ++ (if rd = 0 then [] else [(⟨rd, 7, 5⟩ : QB.S124)])) := by
    intro xs hxs
    rw [QB.enc_registers.j1, show QB.isa_Writes.f (k + 38) op rd a b imm false false = _ from isa_writes (k + 18) F, Option.bind_some]
    by_cases hz : rd = 0
    · subst hz
      rw [if_neg (by decide), if_pos rfl, List.append_nil]
    · have hb : (rd == 0) = false := beq_eq_false_iff_ne.2 hz
      rw [hb, if_neg hz, if_neg hz]
      show (if xs.length < 5864062014805 then some (xs ++ [(⟨rd % 4294967296, 7, 5⟩ : QB.S124)]) else none) = _
      rw [if_pos (by omega), er]
  by_cases h35 : 35 ≤ op
  · rw [decide_eq_true h35, if_pos rfl, if_pos (by simp), eb, if_pos h35]
    exact tail _ (by simp)
  · rw [decide_eq_false h35, if_neg (by decide), if_neg h35, List.append_nil]
    exact tail _ (by simp)
def immP (op imm : Int) : List QB.S124 := if fmOf op = 6 then [] else [(⟨imm % 4294967296, 20, if fmOf op = 3 then 12 else if fmOf op = 7 then 6 else 5⟩ : QB.S124)]
theorem immP_eq (k : Nat) {op rd a b imm : Int} (F : Fields op rd a b imm) : QB.enc_immediate.f (k + 20) op rd a b imm false false = some (immP op imm) := by
  have hop : 22 ≤ op ∧ op ≤ 62 := ⟨F.op0, F.op1⟩
  have ei : IntKind.u64.wrap imm % 4294967296 = imm % 4294967296 := by show W64 imm % 4294967296 = _; rw [W64_eq]; omega
  have h65 : ¬ op = 65 := by omega
  unfold QB.enc_immediate.f
  rw [show QB.isa_Form.f (k + 20) op = some (fmOf op) from formK_op (k + 16) op hop, Option.bind_some, ei]
  unfold immP
  rcases fm_some op with ⟨e, _⟩ | ⟨e, _⟩ | ⟨e, _⟩ | ⟨e, _⟩
  · rw [e, if_neg (by decide), if_neg (by decide), if_neg (by decide), if_neg (by decide), if_neg (by decide), if_neg (by decide), if_neg (by decide), if_neg (by decide), if_neg (by decide), QB.enc_immediate.j0, if_neg (by decide), if_neg h65]
    rfl
  · rw [e]; rfl
  · rw [e]; rfl
  · rw [e]; rfl
theorem and_sum (x p q : Nat) (hp : p < 4294967296) (hq : q < 4294967296) (h1 : x &&& p = 0) (h2 : x &&& q = 0) (h3 : p &&& q = 0) : x &&& (p + q) = 0 := by
  rw [← (or_add p q hp hq h3).1, Nat.and_or_distrib_left, h1, h2]
  rfl
theorem pk_all {op rd a b imm : Int} (F : Fields op rd a b imm) : Pk 0 (regsP op rd a b ++ immP op imm) (a.toNat * 32768 + rd.toNat * 128 + fldN op b imm * 1048576) := by
  have hr := immOK_range F.im
  have h0 := F.rd0
  have h1 := F.rd1
  have h2 := F.a0
  have h3 := F.a1
  have h4 := F.b0
  have h5 := F.b1
  obtain ⟨r, rfl⟩ : ∃ r : Nat, rd = r := ⟨rd.toNat, by omega⟩
  obtain ⟨x, rfl⟩ : ∃ x : Nat, a = x := ⟨a.toNat, by omega⟩
  obtain ⟨y, rfl⟩ : ∃ y : Nat, b = y := ⟨b.toNat, by omega⟩
  rw [Int.toNat_natCast, Int.toNat_natCast]
  have r32 : r < 32 := by omega
  have x32 : x < 32 := by omega
  have y32 : y < 32 := by omega
  obtain ⟨v, hv⟩ : ∃ v : Nat, imm % 4294967296 = v := ⟨(imm % 4294967296).toNat, by omega⟩
  have v32 : v < 4294967296 := by omega
  -- the immediate's piece, behind whatever has been put
  have tl : ∀ z : Nat, z < 1048576 → ¬ fmOf op = 6 → Pk z (immP op imm) (z + fldN op (y : Int) imm * 1048576) := by
    intro z hz hf
    unfold immP fldN
    rw [if_neg hf, if_neg hf, hv]
    rcases fm_some op with ⟨e, _⟩ | ⟨e, _⟩ | ⟨e, _⟩ | ⟨e, _⟩
    · exact absurd e hf
    · have hi := hr.2.1 e
      rw [e, if_neg (by decide), if_pos rfl]
      have ev : v % 2 ^ 6 * 2 ^ 20 = (imm % 4096).toNat * 1048576 := by show v % 64 * 1048576 = _; omega
      rw [← ev]
      exact Pk.cons z v 20 6 [] _ (by omega) v32 (by decide) (by decide) (by show z / 1048576 % 64 = 0; omega) (Pk.nil _)
    · have hi := hr.2.2.1 e
      rw [e, if_neg (by decide), if_neg (by decide)]
      have ev : v % 2 ^ 5 * 2 ^ 20 = (imm % 4096).toNat * 1048576 := by show v % 32 * 1048576 = _; omega
      rw [← ev]
      exact Pk.cons z v 20 5 [] _ (by omega) v32 (by decide) (by decide) (by show z / 1048576 % 32 = 0; omega) (Pk.nil _)
    · have hi := hr.2.2.2 e
      rw [e, if_pos rfl]
      have ev : v % 2 ^ 12 * 2 ^ 20 = (imm % 4096).toNat * 1048576 := by show v % 4096 * 1048576 = _; omega
      rw [← ev]
      exact Pk.cons z v 20 12 [] _ (by omega) v32 (by decide) (by decide) (by show z / 1048576 % 4096 = 0; omega) (Pk.nil _)
  have ex : x % 2 ^ 5 * 2 ^ 15 = x * 32768 := by show x % 32 * 32768 = _; omega
  have er : r % 2 ^ 5 * 2 ^ 7 = r * 128 := by show r % 32 * 128 = _; omega
  have ey : y % 2 ^ 5 * 2 ^ 20 = y * 1048576 := by show y % 32 * 1048576 = _; omega
  unfold regsP
  by_cases h35 : 35 ≤ op
  · have e6 : fmOf op = 6 := by rcases fm_some op with ⟨e, _⟩ | ⟨_, e⟩ | ⟨_, e⟩ | ⟨_, e⟩; exact e; all_goals exact absurd h35 e
    have ei : immP op imm = [] := if_pos e6
    have ef : fldN op (y : Int) imm = y := by unfold fldN; rw [if_pos e6, Int.toNat_natCast]
    rw [if_pos h35, ei, ef, List.append_nil]
    refine Pk.cons 0 x 15 5 _ _ (by decide) (by omega) (by decide) (by decide) (by decide) ?_
    rw [ex, Nat.zero_add]
    refine Pk.cons (x * 32768) y 20 5 _ _ (by omega) (by omega) (by decide) (by decide) (by show x * 32768 / 1048576 % 32 = 0; omega) ?_
    rw [ey]
    by_cases hz : (r : Int) = 0
    · have hz' : r = 0 := by omega
      subst hz'
      rw [if_pos hz, Nat.zero_mul, Nat.add_zero]
      exact Pk.nil _
    · rw [if_neg hz]
      refine Pk.cons (x * 32768 + y * 1048576) r 7 5 _ _ (by omega) (by omega) (by decide) (by decide) (by show (x * 32768 + y * 1048576) / 128 % 32 = 0; omega) ?_
      rw [er, show x * 32768 + y * 1048576 + r * 128 = x * 32768 + r * 128 + y * 1048576 by omega]
      exact Pk.nil _
  · have e6 : ¬ fmOf op = 6 := by rcases fm_some op with ⟨_, e⟩ | ⟨e, _⟩ | ⟨e, _⟩ | ⟨e, _⟩; exact absurd e h35; all_goals (rw [e]; decide)
    rw [if_neg h35, List.append_nil]
    refine Pk.cons 0 x 15 5 _ _ (by decide) (by omega) (by decide) (by decide) (by decide) ?_
    rw [ex, Nat.zero_add]
    by_cases hz : (r : Int) = 0
    · have hz' : r = 0 := by omega
      subst hz'
      rw [if_pos hz, Nat.zero_mul, Nat.add_zero]
      exact tl (x * 32768) (by omega) e6
    · rw [if_neg hz]
      refine Pk.cons (x * 32768) r 7 5 _ _ (by omega) (by omega) (by decide) (by decide) (by show x * 32768 / 128 % 32 = 0; omega) ?_
      rw [er]
      exact tl (x * 32768 + r * 128) (by omega) e6
theorem enc_prog {op rd a b imm : Int} (F : Fields op rd a b imm) : QB.enc_Encode.f 99 op rd a b imm false false = some (((wordI op rd a b imm : Nat) : Int), 0) := by
  have hop : 22 ≤ op ∧ op ≤ 62 := ⟨F.op0, F.op1⟩
  have P := parts_op op hop
  have K := wok_of F
  have hp := pk_pack (pk_all F) 97 (by
    have h1 : (regsP op rd a b).length ≤ 3 := by unfold regsP; split <;> split <;> simp
    have h2 : (immP op imm).length ≤ 1 := by unfold immP; split <;> simp
    rw [List.length_append]; omega) (by
    have h1 : (regsP op rd a b).length ≤ 3 := by unfold regsP; split <;> split <;> simp
    have h2 : (immP op imm).length ≤ 1 := by unfold immP; split <;> simp
    rw [List.length_append]; omega)
  have hlen : (regsP op rd a b).length + (immP op imm).length < 5864062014805 := by
    have h1 : (regsP op rd a b).length ≤ 3 := by unfold regsP; split <;> split <;> simp
    have h2 : (immP op imm).length ≤ 1 := by unfold immP; split <;> simp
    omega
  have h1 : ¬ fmOf op = 1 := by rcases fm_some op with ⟨e, _⟩ | ⟨e, _⟩ | ⟨e, _⟩ | ⟨e, _⟩ <;> rw [e] <;> decide
  have h2 : (fmOf op == 2) = false := by rcases fm_some op with ⟨e, _⟩ | ⟨e, _⟩ | ⟨e, _⟩ | ⟨e, _⟩ <;> rw [e] <;> decide
  unfold QB.enc_Encode.f
  rw [show QB.isa_May.f 99 op rd a b imm false false = _ from isa_may 79 F, Option.bind_some, if_pos rfl, of_op op hop, Option.bind_some, pack_op op hop, Option.bind_some, show QB.isa_Form.f 99 op = some (fmOf op) from formK_op 95 op hop, Option.bind_some, if_neg h1, h2, QB.enc_Encode.j0, if_neg (by decide), QB.enc_Encode.j1,
    show QB.enc_registers.f 97 op rd a b imm false false = _ from regsP_eq 57 F, Option.bind_some, show QB.enc_immediate.f 97 op rd a b imm false false = _ from immP_eq 77 F, Option.bind_some, if_pos hlen, hp, Option.bind_some, P.ew]
  have ks := P.s1
  obtain ⟨ko, kg, kr, ka, kf⟩ := K
  unfold wordI
  generalize wO op = o at *
  generalize wF3 op = f3 at *
  generalize wF7 op = f7 at *
  have hf6 : (fmOf op = 6 ∨ fmOf op = 8 → fldN op b imm < 32) ∧ (fmOf op = 7 → fldN op b imm < 64 ∧ (f7 = 0 ∨ f7 = 32)) ∧ (fmOf op = 3 → fldN op b imm < 4096 ∧ f7 = 0) := by
    have hr := immOK_range F.im
    have h4 := F.b0
    have h5 := F.b1
    unfold fldN
    refine ⟨fun h => ?_, fun h => ⟨?_, P.z7 h⟩, fun h => ⟨?_, P.z3 h⟩⟩
    · rcases h with h | h
      · rw [if_pos h]; omega
      · rw [if_neg (by rw [h]; decide)]; have := hr.2.2.1 h; omega
    · rw [if_neg (by rw [h]; decide)]; have := hr.2.1 h; omega
    · rw [if_neg (by rw [h]; decide)]; omega
  clear hp hlen
  generalize rd.toNat = r at *
  generalize a.toNat = x at *
  generalize fldN op b imm = f at *
  have w32 : o + f3 * 4096 + f7 * 33554432 < 4294967296 := by omega
  have f12 : f < 4096 := by omega
  have a1 : (o + f3 * 4096 + f7 * 33554432) &&& (r * 128) = 0 := and_field _ r 7 5 (by show _ / 128 % 32 = 0; omega) kr
  have a2 : (o + f3 * 4096 + f7 * 33554432) &&& (x * 32768) = 0 := and_field _ x 15 5 (by show _ / 32768 % 32 = 0; omega) ka
  have a3 : (o + f3 * 4096 + f7 * 33554432) &&& (f * 1048576) = 0 := by
    rcases fm_some op with ⟨e, _⟩ | ⟨e, _⟩ | ⟨e, _⟩ | ⟨e, _⟩
    · exact and_field _ f 20 5 (by show _ / 1048576 % 32 = 0; omega) (hf6.1 (.inl e))
    · have := hf6.2.1 e; exact and_field _ f 20 6 (by show _ / 1048576 % 64 = 0; omega) this.1
    · exact and_field _ f 20 5 (by show _ / 1048576 % 32 = 0; omega) (hf6.1 (.inr e))
    · have := hf6.2.2 e; exact and_field _ f 20 12 (by show _ / 1048576 % 4096 = 0; omega) this.1
  have b1 : (x * 32768) &&& (r * 128) = 0 := and_field _ r 7 5 (by show x * 32768 / 128 % 32 = 0; omega) kr
  have b2 : (x * 32768 + r * 128) &&& (f * 1048576) = 0 := and_field _ f 20 12 (by show (x * 32768 + r * 128) / 1048576 % 4096 = 0; omega) f12
  have c1 : (o + f3 * 4096 + f7 * 33554432) &&& (x * 32768 + r * 128) = 0 := and_sum _ _ _ (by omega) (by omega) a2 a1 b1
  have c2 : (o + f3 * 4096 + f7 * 33554432) &&& (x * 32768 + r * 128 + f * 1048576) = 0 := and_sum _ _ _ (by omega) (by omega) c1 a3 b2
  rw [or_u32 _ _ w32 (by omega) c2]
  unfold wordN
  congr 3
  omega
theorem dec_back {op rd a b imm : Int} (F : Fields op rd a b imm) : QB.dec_Decode.f 99 (wordI op rd a b imm : Nat) = some (op, rd, a, b, imm, false, false) := by
  unfold QB.dec_Decode.f
  rw [dec_op F, Option.bind_some, dec_parts_eq F, Option.bind_some]
  show (QB.enc_Encode.f 99 op rd a b imm false false).bind _ = _
  rw [enc_prog F, Option.bind_some, if_pos rfl, if_pos rfl]
end Go.Proofs.YtfcniikbcjmlcaaGreatDoor
end
