/- Part PM of the proof of spinnakerlaw19.WindowOrders: for every input the law returns true. -/
import Derived.Test.YtfcniikbcjmlcaaGreatDoorKBH
import Derived.Test.YtfcniikbcjmlcaaGreatDoorKCA
import Derived.Test.YtfcniikbcjmlcaaGreatDoorKCE
import Derived.Test.YtfcniikbcjmlcaaGreatDoorPB
import Derived.Test.YtfcniikbcjmlcaaGreatDoorPJ
import Derived.Test.YtfcniikbcjmlcaaGreatDoorPK
section
namespace Go.Proofs.YtfcniikbcjmlcaaGreatDoor
open Go.RowKit Go.Proofs.YtfcniikbcjmlcaaGreatDoorW.PrintWords Go.Proofs.YtfcniikbcjmlcaaGreatDoorW.PrintLast Go.Proofs.YtfcniikbcjmlcaaGreatDoorW.PrintMore
set_option linter.unusedVariables false
set_option linter.unusedSimpArgs false
structure InsOK (I : Ins) (c : Int) : Prop where
  good : Good I (decide (35 ≤ I.op))
  enc : ∀ w, Calls Tryz.prog 6 #[.agg #[.int .i64 I.op, .int .i64 I.rd, .int .i64 I.a, .int .i64 I.b, .int .i64 I.imm, .bool false, .bool false]] w fun e w' => e = .returned (.int .u32 c) ∧ Below w.heap.size w w'
  dec : QB.dec_Decode.f 99 c = some (I.op, I.rd, I.a, I.b, I.imm, false, false)
  bad : QB.window_bad.f 99 I.op I.rd I.a I.b I.imm false false true = some 0
theorem InsOK.fetch {I : Ins} {c : Int} (h : InsOK I c) (b i n cap n1 c1 n2 c2 : Nat) (A1 A2 : Option Addr) (w : World) (hG : GOK w) (hi : i < n) (hn : n ≤ 12) (hbl : b < w.heap.size) (hc : w.cell? { block := b, off := i } = some (.int .u32 c)) :
    Calls Tryz.prog 7 #[.agg #[.slice (some { block := b, off := 0 }) n cap, .slice A1 n1 c1, .slice A2 n2 c2], .int .i64 (65536 + 4 * (i : Int)), .int .i64 0] w fun e w' => e = .returned (.agg (entRow (65536 + 4 * (i : Int)) ⟨I, 0, false⟩)) ∧ Below w.heap.size w w' :=
  Fetch_calls 99 b i n cap n1 c1 n2 c2 A1 A2 c I _ w hG hi hn hbl hc h.dec h.good h.bad
theorem is64_wrap (x : Int) : Is64 (wrap64 x) := by unfold Is64 wrap64; omega
theorem bits_is64 (o : BinOp) (a b : Int) : Is64 (bits o .i64 a b) := by
  unfold bits
  rw [IntKind.wrap_i64]
  constructor <;> omega
theorem ediv_is64 (a : Int) (n : Nat) (h : Is64 a) : Is64 (a / 2 ^ n) := by
  have hp := two_pow_pos n
  obtain ⟨h0, h1⟩ := h
  constructor
  · refine Int.le_ediv_of_mul_le hp ?_
    have : (-9223372036854775808 : Int) * 2 ^ n ≤ -9223372036854775808 * 1 := Int.mul_le_mul_of_nonpos_left (by decide) (by omega)
    omega
  · refine Int.ediv_lt_of_lt_mul hp ?_
    have : (9223372036854775808 : Int) * 1 ≤ 9223372036854775808 * 2 ^ n := Int.mul_le_mul_of_nonneg_left (by omega) (by decide)
    omega
theorem divQ_is64 (a b : Int) : Is64 (divQ a b) := by unfold divQ; split; exact ⟨by decide, by decide⟩; exact is64_wrap _
theorem tmod_is64 (a b : Int) (h : Is64 a) : Is64 (Int.tmod a b) := by
  obtain ⟨h0, h1⟩ := h
  by_cases hs : 0 ≤ a
  · have k0 := Int.tmod_nonneg b hs
    have k1 : Int.tmod a b ≤ a := by
      rw [Int.tmod_def]
      have := Int.mul_tdiv_self_le (x := a) (k := b) hs
      have h2 : 0 ≤ b * (a.tdiv b) := by
        rcases Int.le_total 0 b with hb | hb
        · exact Int.mul_nonneg hb (Int.tdiv_nonneg hs hb)
        · exact Int.mul_nonneg_of_nonpos_of_nonpos hb (Int.tdiv_nonpos_of_nonneg_of_nonpos hs hb)
      omega
    constructor <;> omega
  · have e : Int.tmod a b = -Int.tmod (-a) b := by rw [Int.neg_tmod]; omega
    have k0 := Int.tmod_nonneg (a := -a) b (by omega)
    have k1 : Int.tmod (-a) b ≤ -a := by
      rw [Int.tmod_def]
      have h2 : 0 ≤ b * ((-a).tdiv b) := by
        rcases Int.le_total 0 b with hb | hb
        · exact Int.mul_nonneg hb (Int.tdiv_nonneg (by omega) hb)
        · exact Int.mul_nonneg_of_nonpos_of_nonpos hb (Int.tdiv_nonpos_of_nonneg_of_nonpos (by omega) hb)
      omega
    constructor <;> omega
theorem divR_is64 (a b : Int) (h : Is64 a) : Is64 (divR a b) := by unfold divR; split; exact h; exact tmod_is64 a b h
theorem evE_is64 (c : Nat) (a b : Int) (h : Is64 a) : Is64 (evE c a b) := by
  rcases c with _ | _ | _ | _ | _ | _ | _ | _ | _ | c
  · exact is64_wrap _
  · exact is64_wrap _
  · exact is64_wrap _
  · show Is64 (if decide (a < b) = true then 1 else 0); split <;> exact ⟨by decide, by decide⟩
  · show Is64 (if decide (W64 a < W64 b) = true then 1 else 0); split <;> exact ⟨by decide, by decide⟩
  · exact bits_is64 .xor a b
  · exact is64_wrap _
  · exact ediv_is64 a _ h
  · exact bits_is64 .or a b
  · exact bits_is64 .and a b
theorem evS_is64 (c : Nat) (a b : Int) : Is64 (evS c a b) := by
  rcases c with _ | _ | _ | _ | _ | _ | _ | _ | _ | c
  all_goals first | exact is32 _ | exact ediv_is64 _ _ (is32 _)
theorem evP_is64 (c : Nat) (a b : Int) (h : Is64 a) : Is64 (evP c a b) := by
  rcases c with _ | _ | _ | _ | _ | _ | _ | c
  · exact is64_wrap _
  · exact is64_wrap _
  · exact is64_wrap _
  · exact is64_wrap _
  · exact divQ_is64 a b
  · show Is64 (if W64 b = 0 then -1 else wrap64 (W64 (Int.tdiv (W64 a) (W64 b)))); split; exact ⟨by decide, by decide⟩; exact is64_wrap _
  · exact divR_is64 a b h
  · show Is64 (if W64 b = 0 then wrap64 (W64 a) else wrap64 (Int.tmod (W64 a) (W64 b))); split <;> exact is64_wrap _
theorem evT_is64 (c : Nat) (a b : Int) (h : Is64 a) : Is64 (evT c a b) := by
  rw [show evT c a b = if c < 10 then evE c a b else if c < 20 then evS (c - 10) a b else evP (c - 20) a b from rfl]
  split
  · exact evE_is64 _ _ _ h
  · split
    · exact evS_is64 _ _ _
    · exact evP_is64 _ _ _ h
theorem evI_is64 (I : Ins) (x y : Int) (h : Is64 x) : Is64 (evI I x y) := evT_is64 _ _ _ h
def getR (s : Nat → Int) (r : Int) : Int := if r = 0 then 0 else s r.toNat
def stepV (I : Ins) (s : Nat → Int) : Int := evI I (getR s I.a) (getR s I.b)
def seqR (I : Nat → Ins) (R0 : Nat → Int) : Nat → Nat → Int
  | 0 => R0
  | k + 1 => retR (seqR I R0 k) ⟨I k, stepV (I k) (seqR I R0 k), true⟩
def seqV (I : Nat → Ins) (R0 : Nat → Int) (k : Nat) : Int := stepV (I k) (seqR I R0 k)
theorem getR_is64 {s : Nat → Int} (h : ∀ r, Is64 (s r)) (r : Int) : Is64 (getR s r) := by unfold getR; split; exact ⟨by decide, by decide⟩; exact h _
theorem seqR_is64 (I : Nat → Ins) (R0 : Nat → Int) (h : ∀ r, Is64 (R0 r)) (k : Nat) : ∀ r, Is64 (seqR I R0 k r) := by
  induction k with
  | zero => exact h
  | succ k ih =>
    intro r
    show Is64 (if (I k).rd = 0 then seqR I R0 k r else if r = (I k).rd.toNat then stepV (I k) (seqR I R0 k) else seqR I R0 k r)
    split
    · exact ih r
    · split
      · exact evI_is64 _ _ _ (getR_is64 ih _)
      · exact ih r
def Inv (I : Nat → Ins) (R0 : Nat → Int) (n : Nat) (E : Nat → Ent) : Prop := ∀ k, k < n → (E k).ins = I k ∧ ((E k).d = true → (E k).v = seqV I R0 k)
theorem regF_inv {I : Nat → Ins} {R0 : Nat → Int} {n : Nat} {E : Nat → Ent} (h : Inv I R0 n E) (hrd : ∀ k, k < n → 0 ≤ (I k).rd) (r : Int) (hr : 1 ≤ r) : ∀ i, i ≤ n → (regF R0 E r i).2 = true → (regF R0 E r i).1 = seqR I R0 i r.toNat := by
  intro i
  induction i with
  | zero => intro _ _; rfl
  | succ k ih =>
    intro hk hd
    obtain ⟨h1, h2⟩ := h k (by omega)
    have h3 : 0 ≤ (I k).rd := hrd k (by omega)
    generalize hq0 : (I k).rd = q at h3
    have ih' := ih (by omega)
    have es : seqR I R0 (k + 1) r.toNat = if q = 0 then seqR I R0 k r.toNat else if r.toNat = q.toNat then seqV I R0 k else seqR I R0 k r.toNat := by rw [← hq0]; rfl
    rw [es]
    have ef : regF R0 E r (k + 1) = if q = r then (if (E k).d = true then ((E k).v, true) else (0, false)) else regF R0 E r k := by rw [← hq0, ← h1]; rfl
    rw [ef] at hd ⊢
    clear es ef hq0 h1
    by_cases hq : q = r
    · rw [if_pos hq] at hd ⊢
      have z1 : ¬ q = 0 := by omega
      have z2 : r.toNat = q.toNat := by rw [hq]
      rw [if_neg z1, if_pos z2]
      cases hx : (E k).d
      · rw [hx] at hd; cases hd
      · exact h2 hx
    · rw [if_neg hq] at hd ⊢
      rw [ih' hd]
      by_cases hz : q = 0
      · rw [if_pos hz]
      · have z2 : ¬ r.toNat = q.toNat := by omega
        rw [if_neg hz, if_neg z2]
theorem regG_inv {I : Nat → Ins} {R0 : Nat → Int} {n : Nat} {E : Nat → Ent} (h : Inv I R0 n E) (hrd : ∀ k, k < n → 0 ≤ (I k).rd) (r : Int) (hr : 0 ≤ r) (i : Nat) (hi : i ≤ n) (hd : (regG R0 E r i).2 = true) : (regG R0 E r i).1 = getR (seqR I R0 i) r := by
  unfold regG at hd ⊢
  unfold getR
  by_cases hz : r = 0
  · rw [if_pos hz, if_pos hz]
  · rw [if_neg hz] at hd ⊢
    rw [if_neg hz]
    exact regF_inv h hrd r (by omega) i hi hd
theorem regF_off {R0 : Nat → Int} {E : Nat → Ent} (r : Int) : ∀ i, (regF R0 E r i).2 = false → (regF R0 E r i).1 = 0 := by
  intro i
  induction i with
  | zero => intro h; cases h
  | succ k ih =>
    show (if (E k).ins.rd = r then (if (E k).d = true then ((E k).v, true) else (0, false)) else regF R0 E r k).2 = false → (if (E k).ins.rd = r then (if (E k).d = true then ((E k).v, true) else (0, false)) else regF R0 E r k).1 = 0
    split
    · cases (E k).d <;> simp
    · exact ih
theorem regG_is64 {I : Nat → Ins} {R0 : Nat → Int} {n : Nat} {E : Nat → Ent} (h : Inv I R0 n E) (hrd : ∀ k, k < n → 0 ≤ (I k).rd) (hR : ∀ r, Is64 (R0 r)) (r : Int) (hr : 0 ≤ r) (i : Nat) (hi : i ≤ n) : Is64 (regG R0 E r i).1 := by
  cases hd : (regG R0 E r i).2
  · have : (regG R0 E r i).1 = 0 := by
      unfold regG at hd ⊢
      by_cases hz : r = 0
      · rw [if_pos hz]
      · rw [if_neg hz] at hd ⊢
        exact regF_off r i hd
    rw [this]
    exact ⟨by decide, by decide⟩
  · rw [regG_inv h hrd r hr i hi hd]
    exact getR_is64 (seqR_is64 I R0 hR i) r
theorem regG_all {R0 : Nat → Int} {E : Nat → Ent} (r : Int) : ∀ i, (∀ k, k < i → (E k).d = true) → (regG R0 E r i).2 = true := by
  intro i h
  unfold regG
  split
  · rfl
  · induction i with
    | zero => rfl
    | succ k ih =>
      show (if (E k).ins.rd = r then (if (E k).d = true then ((E k).v, true) else (0, false)) else regF R0 E r k).2 = true
      split
      · rw [if_pos (h k (by omega))]
      · exact ih (fun j hj => h j (by omega))
theorem exec_val {I : Nat → Ins} {R0 : Nat → Int} {n : Nat} {E : Nat → Ent} (h : Inv I R0 n E) (hrd : ∀ k, k < n → 0 ≤ (I k).rd) (i : Nat) (hi : i < n) (ha : 0 ≤ (I i).a) (hb : 0 ≤ (I i).b)
    (hc : ((regG R0 E (I i).a i).2 && ((regG R0 E (I i).b i).2 || !(decide (35 ≤ (I i).op)))) = true) : evI (I i) (regG R0 E (I i).a i).1 (regG R0 E (I i).b i).1 = seqV I R0 i := by
  have hka : (regG R0 E (I i).a i).2 = true := by revert hc; cases (regG R0 E (I i).a i).2 <;> simp
  rw [hka] at hc
  rw [regG_inv h hrd _ ha i (by omega) hka]
  by_cases ho : 35 ≤ (I i).op
  · have hkb : (regG R0 E (I i).b i).2 = true := by revert hc; cases (regG R0 E (I i).b i).2 <;> simp [ho]
    rw [regG_inv h hrd _ hb i (by omega) hkb]
    rfl
  · unfold seqV stepV evI
    rw [if_neg ho, if_neg ho]
theorem inv_upd {I : Nat → Ins} {R0 : Nat → Int} {n : Nat} {E : Nat → Ent} (h : Inv I R0 n E) (i : Nat) (hi : i < n) (v : Int) (hv : v = seqV I R0 i) : Inv I R0 n (updE E i v) := by
  intro k hk
  obtain ⟨h1, h2⟩ := h k hk
  unfold updE
  by_cases he : k = i
  · subst he
    rw [if_pos rfl]
    exact ⟨h1, fun _ => hv⟩
  · rw [if_neg he]
    exact ⟨h1, h2⟩
def seqE (I : Nat → Ins) (R0 : Nat → Int) (j : Nat) : Nat → Ent := fun k => if k < j then ⟨I k, seqV I R0 k, true⟩ else ⟨I k, 0, false⟩
theorem seqE_inv (I : Nat → Ins) (R0 : Nat → Int) (n j : Nat) : Inv I R0 n (seqE I R0 j) := by
  intro k hk
  unfold seqE
  split
  · exact ⟨rfl, fun _ => rfl⟩
  · exact ⟨rfl, fun h => by cases h⟩
theorem seqE_upd (I : Nat → Ins) (R0 : Nat → Int) (j : Nat) : updE (seqE I R0 j) j (seqV I R0 j) = seqE I R0 (j + 1) := by
  funext k
  unfold updE seqE
  by_cases h : k = j
  · subst h
    rw [if_pos rfl, if_neg (by omega), if_pos (by omega)]
  · rw [if_neg h]
    by_cases h2 : k < j
    · rw [if_pos h2, if_pos (by omega)]
    · rw [if_neg h2, if_neg (by omega)]
def doneE (I : Nat → Ins) (R0 : Nat → Int) : Nat → Ent := fun k => ⟨I k, seqV I R0 k, true⟩
theorem inv_done {I : Nat → Ins} {R0 : Nat → Int} {n : Nat} {E : Nat → Ent} (h : Inv I R0 n E) (hd : ∀ k, k < n → (E k).d = true) (k : Nat) (hk : k < n) : E k = doneE I R0 k := by
  obtain ⟨h1, h2⟩ := h k hk
  have h3 := hd k hk
  cases he : E k with
  | mk i v d =>
    rw [he] at h1 h2 h3
    simp only at h1 h2 h3
    subst h1 h3
    rw [h2 rfl]
    rfl
theorem WinAt.congr {W : World} {g B n cap : Nat} {R : Nat → Int} {pc : Nat → Int} {E E2 : Nat → Ent} (h : WinAt W g B n cap R pc E) (he : ∀ k, k < n → E k = E2 k) : WinAt W g B n cap R pc E2 :=
  ⟨h.sl, h.rg, fun k hk => by rw [← he k hk]; exact h.en k hk, h.gB, h.BB, h.ne, h.nc, h.fg, h.fB⟩
abbrev awI : Ins := ⟨22, 5, 0, 0, 7⟩
theorem aw_fetch {c : Int} (h : InsOK awI c) (b n1 c1 n2 c2 : Nat) (A1 A2 : Option Addr) (w : World) (hG : GOK w) (hbl : b < w.heap.size) (hc : w.cell? { block := b, off := 0 } = some (.int .u32 c)) :
  Calls Tryz.prog 7 #[.agg #[.slice (some { block := b, off := 0 }) 1 1, .slice A1 n1 c1, .slice A2 n2 c2], .int .i64 65536, .int .i64 0] w fun e w' => e = .returned (.agg (entRow 65536 ⟨awI, 0, false⟩)) ∧ Below w.heap.size w w' :=
 h.fetch b 0 1 1 n1 c1 n2 c2 A1 A2 w hG (by decide) (by decide) hbl hc
theorem aw_win (w2 : World) : WinAt ((w2.alloc (Obj.cells #[.int .i64 65536, .int .i64 22, .int .i64 5, .int .i64 0, .int .i64 0, .int .i64 7, .bool false, .bool false, .int .i64 65540, .int .i64 0, .bool false, .int .i64 0, .int .i64 0, .bool false, .bool false, .bool false, .int .i64 (-1), .int .i64 0] 45)).alloc (Obj.cells #[.int .i64 0, .int .i64 0, .int .i64 0, .int .i64 0, .int .i64 0, .int .i64 0, .int .i64 0, .int .i64 0, .int .i64 0, .int .i64 0, .int .i64 0, .int .i64 0, .int .i64 0, .int .i64 0, .int .i64 0, .int .i64 0, .int .i64 0, .int .i64 0, .int .i64 0, .int .i64 0, .int .i64 0, .int .i64 0, .int .i64 0, .int .i64 0, .int .i64 0, .int .i64 0, .int .i64 0, .int .i64 0, .int .i64 0, .int .i64 0, .int .i64 0, .int .i64 0, .slice (some { block := w2.heap.size, off := 0 }) 1 1] 37)) (w2.heap.size + 1) w2.heap.size 1 1 (fun _ => 0) (fun _ => 65536) (fun _ => ⟨awI, 0, false⟩) := by
 have h1 : ((w2.alloc (Obj.cells #[.int .i64 65536, .int .i64 22, .int .i64 5, .int .i64 0, .int .i64 0, .int .i64 7, .bool false, .bool false, .int .i64 65540, .int .i64 0, .bool false, .int .i64 0, .int .i64 0, .bool false, .bool false, .bool false, .int .i64 (-1), .int .i64 0] 45)).alloc (Obj.cells #[.int .i64 0, .int .i64 0, .int .i64 0, .int .i64 0, .int .i64 0, .int .i64 0, .int .i64 0, .int .i64 0, .int .i64 0, .int .i64 0, .int .i64 0, .int .i64 0, .int .i64 0, .int .i64 0, .int .i64 0, .int .i64 0, .int .i64 0, .int .i64 0, .int .i64 0, .int .i64 0, .int .i64 0, .int .i64 0, .int .i64 0, .int .i64 0, .int .i64 0, .int .i64 0, .int .i64 0, .int .i64 0, .int .i64 0, .int .i64 0, .int .i64 0, .int .i64 0, .slice (some { block := w2.heap.size, off := 0 }) 1 1] 37)).heap[w2.heap.size]? = some (Obj.cells #[.int .i64 65536, .int .i64 22, .int .i64 5, .int .i64 0, .int .i64 0, .int .i64 7, .bool false, .bool false, .int .i64 65540, .int .i64 0, .bool false, .int .i64 0, .int .i64 0, .bool false, .bool false, .bool false, .int .i64 (-1), .int .i64 0] 45 (0, 0)) := blk_alloc (heap_alloc_last w2 _) _
 have h2 : ((w2.alloc (Obj.cells #[.int .i64 65536, .int .i64 22, .int .i64 5, .int .i64 0, .int .i64 0, .int .i64 7, .bool false, .bool false, .int .i64 65540, .int .i64 0, .bool false, .int .i64 0, .int .i64 0, .bool false, .bool false, .bool false, .int .i64 (-1), .int .i64 0] 45)).alloc (Obj.cells #[.int .i64 0, .int .i64 0, .int .i64 0, .int .i64 0, .int .i64 0, .int .i64 0, .int .i64 0, .int .i64 0, .int .i64 0, .int .i64 0, .int .i64 0, .int .i64 0, .int .i64 0, .int .i64 0, .int .i64 0, .int .i64 0, .int .i64 0, .int .i64 0, .int .i64 0, .int .i64 0, .int .i64 0, .int .i64 0, .int .i64 0, .int .i64 0, .int .i64 0, .int .i64 0, .int .i64 0, .int .i64 0, .int .i64 0, .int .i64 0, .int .i64 0, .int .i64 0, .slice (some { block := w2.heap.size, off := 0 }) 1 1] 37)).heap[w2.heap.size + 1]? = some (Obj.cells #[.int .i64 0, .int .i64 0, .int .i64 0, .int .i64 0, .int .i64 0, .int .i64 0, .int .i64 0, .int .i64 0, .int .i64 0, .int .i64 0, .int .i64 0, .int .i64 0, .int .i64 0, .int .i64 0, .int .i64 0, .int .i64 0, .int .i64 0, .int .i64 0, .int .i64 0, .int .i64 0, .int .i64 0, .int .i64 0, .int .i64 0, .int .i64 0, .int .i64 0, .int .i64 0, .int .i64 0, .int .i64 0, .int .i64 0, .int .i64 0, .int .i64 0, .int .i64 0, .slice (some { block := w2.heap.size, off := 0 }) 1 1] 37 (0, 0)) := by
  have := heap_alloc_last (w2.alloc (Obj.cells #[.int .i64 65536, .int .i64 22, .int .i64 5, .int .i64 0, .int .i64 0, .int .i64 7, .bool false, .bool false, .int .i64 65540, .int .i64 0, .bool false, .int .i64 0, .int .i64 0, .bool false, .bool false, .bool false, .int .i64 (-1), .int .i64 0] 45)) (Obj.cells #[.int .i64 0, .int .i64 0, .int .i64 0, .int .i64 0, .int .i64 0, .int .i64 0, .int .i64 0, .int .i64 0, .int .i64 0, .int .i64 0, .int .i64 0, .int .i64 0, .int .i64 0, .int .i64 0, .int .i64 0, .int .i64 0, .int .i64 0, .int .i64 0, .int .i64 0, .int .i64 0, .int .i64 0, .int .i64 0, .int .i64 0, .int .i64 0, .int .i64 0, .int .i64 0, .int .i64 0, .int .i64 0, .int .i64 0, .int .i64 0, .int .i64 0, .int .i64 0, .slice (some { block := w2.heap.size, off := 0 }) 1 1] 37)
  simpa [go_sem] using this
 have hs : ((w2.alloc (Obj.cells #[.int .i64 65536, .int .i64 22, .int .i64 5, .int .i64 0, .int .i64 0, .int .i64 7, .bool false, .bool false, .int .i64 65540, .int .i64 0, .bool false, .int .i64 0, .int .i64 0, .bool false, .bool false, .bool false, .int .i64 (-1), .int .i64 0] 45)).alloc (Obj.cells #[.int .i64 0, .int .i64 0, .int .i64 0, .int .i64 0, .int .i64 0, .int .i64 0, .int .i64 0, .int .i64 0, .int .i64 0, .int .i64 0, .int .i64 0, .int .i64 0, .int .i64 0, .int .i64 0, .int .i64 0, .int .i64 0, .int .i64 0, .int .i64 0, .int .i64 0, .int .i64 0, .int .i64 0, .int .i64 0, .int .i64 0, .int .i64 0, .int .i64 0, .int .i64 0, .int .i64 0, .int .i64 0, .int .i64 0, .int .i64 0, .int .i64 0, .int .i64 0, .slice (some { block := w2.heap.size, off := 0 }) 1 1] 37)).heap.size = w2.heap.size + 2 := by simp [go_sem]
 generalize ((w2.alloc (Obj.cells #[.int .i64 65536, .int .i64 22, .int .i64 5, .int .i64 0, .int .i64 0, .int .i64 7, .bool false, .bool false, .int .i64 65540, .int .i64 0, .bool false, .int .i64 0, .int .i64 0, .bool false, .bool false, .bool false, .int .i64 (-1), .int .i64 0] 45)).alloc (Obj.cells #[.int .i64 0, .int .i64 0, .int .i64 0, .int .i64 0, .int .i64 0, .int .i64 0, .int .i64 0, .int .i64 0, .int .i64 0, .int .i64 0, .int .i64 0, .int .i64 0, .int .i64 0, .int .i64 0, .int .i64 0, .int .i64 0, .int .i64 0, .int .i64 0, .int .i64 0, .int .i64 0, .int .i64 0, .int .i64 0, .int .i64 0, .int .i64 0, .int .i64 0, .int .i64 0, .int .i64 0, .int .i64 0, .int .i64 0, .int .i64 0, .int .i64 0, .int .i64 0, .slice (some { block := w2.heap.size, off := 0 }) 1 1] 37)) = W at *
 refine ⟨?_, fun r hr => ?_, fun k hk j v hj => ?_, by omega, by omega, by omega, Nat.le_refl _, fun o => ?_, fun o => ?_⟩
 ·simp only [World.cell?, h2]; rfl
 ·simp only [World.cell?, h2]
  rcases r with _ | _ | _ | _ | _ | _ | _ | _ | _ | _ | _ | _ | _ | _ | _ | _ | _ | _ | _ | _ | _ | _ | _ | _ | _ | _ | _ | _ | _ | _ | _ | _ | r
  all_goals first | rfl | omega
 ·obtain rfl : k = 0 := by omega
  simp only [World.cell?, h1]
  rw [Nat.zero_mul, Nat.zero_add]
  rcases j with _ | _ | _ | _ | _ | _ | _ | _ | _ | _ | _ | _ | _ | _ | _ | _ | _ | _ | j
  all_goals first | exact hj | (simp [entCells] at hj)
 ·simp [World.frozen?, h2]
 simp [World.frozen?, h1]
theorem aw_exec {c : Int} (h : InsOK awI c) (w2 : World) (hG : GOK w2) (A0 A1 A2 : Option Addr) (n0 c0 n1 c1 n2 c2 : Nat) :
  Calls Tryz.prog 8 #[.pointer (some { block := w2.heap.size + 1, off := 0 }), imV A0 A1 A2 n0 c0 n1 c1 n2 c2, .int .i64 0] ((w2.alloc (Obj.cells #[.int .i64 65536, .int .i64 22, .int .i64 5, .int .i64 0, .int .i64 0, .int .i64 7, .bool false, .bool false, .int .i64 65540, .int .i64 0, .bool false, .int .i64 0, .int .i64 0, .bool false, .bool false, .bool false, .int .i64 (-1), .int .i64 0] 45)).alloc (Obj.cells #[.int .i64 0, .int .i64 0, .int .i64 0, .int .i64 0, .int .i64 0, .int .i64 0, .int .i64 0, .int .i64 0, .int .i64 0, .int .i64 0, .int .i64 0, .int .i64 0, .int .i64 0, .int .i64 0, .int .i64 0, .int .i64 0, .int .i64 0, .int .i64 0, .int .i64 0, .int .i64 0, .int .i64 0, .int .i64 0, .int .i64 0, .int .i64 0, .int .i64 0, .int .i64 0, .int .i64 0, .int .i64 0, .int .i64 0, .int .i64 0, .int .i64 0, .int .i64 0, .slice (some { block := w2.heap.size, off := 0 }) 1 1] 37)) fun e w' => e = .returned (.bool true) ∧ WinAt w' (w2.heap.size + 1) w2.heap.size 1 1 (fun _ => 0) (fun _ => 65536) (fun _ => ⟨awI, 7, true⟩) ∧ Below w2.heap.size w2 w' := by
 have hb : Below w2.heap.size w2 ((w2.alloc (Obj.cells #[.int .i64 65536, .int .i64 22, .int .i64 5, .int .i64 0, .int .i64 0, .int .i64 7, .bool false, .bool false, .int .i64 65540, .int .i64 0, .bool false, .int .i64 0, .int .i64 0, .bool false, .bool false, .bool false, .int .i64 (-1), .int .i64 0] 45)).alloc (Obj.cells #[.int .i64 0, .int .i64 0, .int .i64 0, .int .i64 0, .int .i64 0, .int .i64 0, .int .i64 0, .int .i64 0, .int .i64 0, .int .i64 0, .int .i64 0, .int .i64 0, .int .i64 0, .int .i64 0, .int .i64 0, .int .i64 0, .int .i64 0, .int .i64 0, .int .i64 0, .int .i64 0, .int .i64 0, .int .i64 0, .int .i64 0, .int .i64 0, .int .i64 0, .int .i64 0, .int .i64 0, .int .i64 0, .int .i64 0, .int .i64 0, .int .i64 0, .int .i64 0, .slice (some { block := w2.heap.size, off := 0 }) 1 1] 37)) := ((Below.refl _ _).alloc (Nat.le_refl _) _).alloc (by simp [go_sem]) _
 have hw := aw_win w2
 have hG' := GOK.below hb hG
 generalize ((w2.alloc (Obj.cells #[.int .i64 65536, .int .i64 22, .int .i64 5, .int .i64 0, .int .i64 0, .int .i64 7, .bool false, .bool false, .int .i64 65540, .int .i64 0, .bool false, .int .i64 0, .int .i64 0, .bool false, .bool false, .bool false, .int .i64 (-1), .int .i64 0] 45)).alloc (Obj.cells #[.int .i64 0, .int .i64 0, .int .i64 0, .int .i64 0, .int .i64 0, .int .i64 0, .int .i64 0, .int .i64 0, .int .i64 0, .int .i64 0, .int .i64 0, .int .i64 0, .int .i64 0, .int .i64 0, .int .i64 0, .int .i64 0, .int .i64 0, .int .i64 0, .int .i64 0, .int .i64 0, .int .i64 0, .int .i64 0, .int .i64 0, .int .i64 0, .int .i64 0, .int .i64 0, .int .i64 0, .int .i64 0, .int .i64 0, .int .i64 0, .int .i64 0, .int .i64 0, .slice (some { block := w2.heap.size, off := 0 }) 1 1] 37)) = W at *
 have hE : ∀ k, k < 1 → ∃ hb, Good ((fun _ => ⟨awI, 0, false⟩ : Nat → Ent) k).ins hb := fun k _ => ⟨_, h.good⟩
 refine (Execute_yes W (w2.heap.size + 1) w2.heap.size 1 1 (fun _ => 0) (fun _ => 65536) (fun _ => ⟨awI, 0, false⟩) hG' hw hE (by decide) 0 (by decide) _ h.good 0 0 true true rfl rfl rfl (by decide) (by decide) A0 A1 A2 n0 c0 n1 c1 n2 c2).mono ?_
 rintro e w' ⟨he, hw', hbut⟩
 refine ⟨he, hw'.congr (fun k hk => ?_), ⟨hbut.os.trans hb.os, hbut.tape.trans hb.tape, hbut.output.trans hb.output, Nat.le_trans hb.size hbut.size, fun i hi => (hbut.block i (Nat.lt_of_lt_of_le hi hb.size) (by omega)).trans (hb.block i hi)⟩⟩
 obtain rfl : k = 0 := by omega
 have h7 : evI awI 0 0 = 7 := by show wrap64 (0 + 7) = 7; unfold wrap64; decide
 show (⟨awI, evI awI 0 0, true⟩ : Ent) = ⟨awI, 7, true⟩
 rw [h7]
theorem aw_reg {c : Int} (h : InsOK awI c) (g B : Nat) (W : World) (hG : GOK W) (hw : WinAt W g B 1 1 (fun _ => 0) (fun _ => 65536) (fun _ => ⟨awI, 7, true⟩)) :
  Calls Tryz.prog 12 #[.pointer (some { block := g, off := 0 }), .int .i64 1, .int .i64 5] W fun e w' => e = .returned (.tuple #[.int .i64 7, .bool true]) ∧ Below W.heap.size W w' :=
 Reg_calls W g B 1 1 (fun _ => 0) (fun _ => 65536) (fun _ => ⟨awI, 7, true⟩) hG hw (fun k _ => ⟨_, h.good⟩) (by decide) 1 (by decide) 5 (by decide) (by decide) 7 true rfl
set_option maxHeartbeats 4000000 in
set_option maxRecDepth 1000000 in
theorem awake_calls (c : Int) (hI : InsOK awI c) (w : World) (hG : GOK w) : Calls Tryz.prog 4 #[] w fun e w' => e = .returned (.bool true) ∧ Below w.heap.size w w' := by
 have HE := Aside0.mk hI.enc
 have HG := Aside0.mk hG
 have HI := Aside0.mk hI
 clear hI hG
 have HF : ∀ w1, Below w.heap.size w w1 → Calls Tryz.prog 7 #[.agg #[.slice (some { block := w1.heap.size, off := 0 }) 1 1, .slice none 0 0, .slice (some { block := w1.heap.size + 1, off := 0 }) 1 1], .int .i64 65536, .int .i64 0] (((w1.alloc (Obj.cells #[.int .u32 c] 32)).alloc (Obj.cells #[.int .i64 0] 3)).alloc (Obj.cells #[.slice (some { block := w1.heap.size, off := 0 }) 1 1, .slice none 0 0, .slice (some { block := w1.heap.size + 1, off := 0 }) 1 1] 28)) fun e w' => e = .returned (.agg (entRow 65536 ⟨awI, 0, false⟩)) ∧ Below w.heap.size w w' ∧ w1.heap.size + 3 ≤ w'.heap.size ∧ w'.heap[w1.heap.size + 1 + 1]? = some (.cells #[.slice (some { block := w1.heap.size, off := 0 }) 1 1, .slice none 0 0, .slice (some { block := w1.heap.size + 1, off := 0 }) 1 1] 28 (0, 0)) := by
  intro w1 hb
  have hb2 : Below w.heap.size w (((w1.alloc (Obj.cells #[.int .u32 c] 32)).alloc (Obj.cells #[.int .i64 0] 3)).alloc (Obj.cells #[.slice (some { block := w1.heap.size, off := 0 }) 1 1, .slice none 0 0, .slice (some { block := w1.heap.size + 1, off := 0 }) 1 1] 28)) := ((hb.alloc hb.size _).alloc (by have := hb.size; simp [go_sem]; omega) _).alloc (by have := hb.size; simp [go_sem]; omega) _
  refine (aw_fetch HI.out w1.heap.size 0 0 1 1 none _ _ (GOK.below hb2 HG.out) (by simp [go_sem]) (by simp [go_sem])).mono ?_
  rintro e w' ⟨he, hd⟩
  have hs := hd.size
  refine ⟨he, below_then hb2 hb2.size hd, by simp [go_sem] at hs; omega, ?_⟩
  rw [hd.block _ (by simp [go_sem])]
  have := heap_alloc_last ((w1.alloc (Obj.cells #[.int .u32 c] 32)).alloc (Obj.cells #[.int .i64 0] 3)) (Obj.cells #[.slice (some { block := w1.heap.size, off := 0 }) 1 1, .slice none 0 0, .slice (some { block := w1.heap.size + 1, off := 0 }) 1 1] 28)
  simpa [go_sem] using this
 replace HF := Aside0.mk HF
 have im3 : (Tryz.prog.info? 28).map (·.size) = some 3 := by kernel_rfl
 replace im3 := Aside0.mk im3
 go_enter Tryz.func4, Tryz.ntmps4
 go_wp2_with (first | (go_at_call 6; (with_reducible refine (HE.out _).mono ?_); rintro e w1 ⟨rfl, hd⟩; replace hd := Aside0.mk hd) | (go_at_call 7; (with_reducible refine (HF.out _ hd.out).mono ?_); rintro e w2 ⟨rfl, hd2, hz2, him⟩; replace hd2 := Aside0.mk hd2; replace him := Aside0.mk him; replace hz2 := Aside0.mk hz2) | (refine wpList_load_row rfl 28 _ rfl (w1.heap.size + 1 + 1) rfl 28 _ (0, 0) _ (blk_alloc (blk_alloc him.out _) _) Tryz.underlying28 rfl im3.out ?_) | (go_at_call 8; (refine (aw_exec HI.out w2 (GOK.below hd2.out HG.out) _ _ _ _ _ _ _ _ _).mono ?_); rintro e w3 ⟨rfl, hw3, hd3⟩; replace hw3 := Aside0.mk hw3; have hd4 := Aside0.mk (below_then hd2.out hd2.out.size hd3); clear hd3) | (go_at_call 12; (refine (aw_reg HI.out _ _ _ (GOK.below hd4.out HG.out) hw3.out).mono ?_); rintro e w4 ⟨rfl, hd5⟩; have hd6 := Aside0.mk (below_then hd4.out hd4.out.size hd5); clear hd5))
 go_ret
 exact ⟨by first | rfl | (simp; done), hd6.out⟩
end Go.Proofs.YtfcniikbcjmlcaaGreatDoor
end
