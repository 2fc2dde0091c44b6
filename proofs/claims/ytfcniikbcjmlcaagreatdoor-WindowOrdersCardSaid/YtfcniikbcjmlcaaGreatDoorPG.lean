/- Part PG of the proof of spinnakerlaw19.WindowOrders: for every input the law returns true. -/
import Derived.Deep.QuietTactic
import Derived.Test.YtfcniikbcjmlcaaGreatDoorKK
import Derived.Test.YtfcniikbcjmlcaaGreatDoorKP
import Derived.Test.YtfcniikbcjmlcaaGreatDoorKQB10
import Derived.Test.YtfcniikbcjmlcaaGreatDoorKQB11
import Derived.Test.YtfcniikbcjmlcaaGreatDoorKQB12
import Derived.Test.YtfcniikbcjmlcaaGreatDoorKQB13
import Derived.Test.YtfcniikbcjmlcaaGreatDoorKQB6
import Derived.Test.YtfcniikbcjmlcaaGreatDoorPC
import Derived.Test.YtfcniikbcjmlcaaGreatDoorPD
import Derived.Test.YtfcniikbcjmlcaaGreatDoorPE
import Derived.Test.YtfcniikbcjmlcaaGreatDoorPF
section
namespace Go.Proofs.YtfcniikbcjmlcaaGreatDoor
open Go.RowKit Go.Proofs.YtfcniikbcjmlcaaGreatDoorW.PrintWords
open QB
set_option linter.unusedVariables false
abbrev W64 (x : Int) : Int := IntKind.u64.wrap x
theorem W64_eq (x : Int) : W64 x = x % 18446744073709551616 := rfl
theorem W64_id {x : Int} (h0 : 0 ≤ x) (h1 : x < 18446744073709551616) : W64 x = x := by rw [W64_eq]; omega
theorem W64_range (x : Int) : 0 ≤ W64 x ∧ W64 x < 18446744073709551616 := by rw [W64_eq]; omega
theorem wrap64_id {x : Int} (h0 : -9223372036854775808 ≤ x) (h1 : x < 9223372036854775808) : wrap64 x = x := by unfold wrap64; omega
theorem two_pow_pos (n : Nat) : 0 < (2 : Int) ^ n := Int.pow_pos (by decide)
theorem two_pow_le {m n : Nat} (h : m ≤ n) : (2 : Int) ^ m ≤ 2 ^ n := by
  obtain ⟨d, rfl⟩ := Nat.exists_eq_add_of_le h
  rw [Int.pow_add]
  have h1 := two_pow_pos m
  have h2 := two_pow_pos d
  have := Int.mul_le_mul_of_nonneg_left (show (1 : Int) ≤ 2 ^ d by omega) (Int.le_of_lt h1)
  omega
theorem two_pow_succ (n : Nat) : (2 : Int) ^ (n + 1) = 2 * 2 ^ n := by rw [Int.pow_succ, Int.mul_comm]
theorem div_div_pow (x : Int) (m n : Nat) : x / 2 ^ m / 2 ^ n = x / 2 ^ (m + n) := by
  rw [Int.ediv_ediv_of_nonneg (Int.le_of_lt (two_pow_pos m)), ← Int.pow_add]
theorem mod_succ (y : Int) (i : Nat) : y % 2 ^ (i + 1) = y % 2 ^ i + y / 2 ^ i % 2 * 2 ^ i := by
  have hp := two_pow_pos i
  have h1 := Int.mul_ediv_add_emod y (2 ^ i)
  have h2 := Int.mul_ediv_add_emod (y / 2 ^ i) 2
  have r0 := Int.emod_nonneg y (Int.ne_of_gt hp)
  have r1 := Int.emod_lt_of_pos y hp
  generalize y % 2 ^ i = r at *
  generalize y / 2 ^ i = q at *
  have t0 := Int.emod_nonneg q (by decide : (2 : Int) ≠ 0)
  have t1 := Int.emod_lt_of_pos q (by decide : (0 : Int) < 2)
  generalize q / 2 = s at *
  generalize q % 2 = t at *
  have e : y = (r + t * 2 ^ i) + 2 ^ (i + 1) * s := by
    rw [← h1, ← h2, two_pow_succ]
    grind
  rw [e, Int.add_mul_emod_self_left]
  refine Int.emod_eq_of_lt ?_ ?_
  · have : 0 ≤ t * 2 ^ i := Int.mul_nonneg t0 (Int.le_of_lt hp)
    omega
  · rw [two_pow_succ]
    have : t = 0 ∨ t = 1 := by omega
    rcases this with rfl | rfl <;> omega
theorem bit_l0 (d : Nat) : ∀ (k : Nat) (v i j : Int), 0 ≤ v → v < 18446744073709551616 → 0 ≤ j → j ≤ i → i ≤ 1000 → i - j = d → d < k → spinnakerref01_Bit.l0 k v i j = some (v / 2 ^ d % 2) := by
  induction d with
  | zero =>
    intro k v i j h0 h1 hj hi hm hd hk
    obtain ⟨k, rfl⟩ : ∃ m, k = m + 1 := ⟨k - 1, by omega⟩
    simp only [spinnakerref01_Bit.l0]
    rw [if_neg (by omega)]
    have : Int.tmod v 2 = v % 2 := Int.tmod_eq_emod_of_nonneg h0
    rw [this, wrap64_id (by omega) (by omega)]
    simp
  | succ d ih =>
    intro k v i j h0 h1 hj hi hm hd hk
    obtain ⟨k, rfl⟩ : ∃ m, k = m + 1 := ⟨k - 1, by omega⟩
    simp only [spinnakerref01_Bit.l0]
    rw [if_pos (by omega)]
    have : Int.tdiv v 2 = v / 2 := Int.tdiv_eq_ediv_of_nonneg h0
    rw [this, show IntKind.u64.wrap (v / 2) = v / 2 from W64_id (by omega) (by omega), wrap64_id (by omega) (by omega)]
    rw [ih k (v / 2) i (j + 1) (by omega) (by omega) (by omega) (by omega) hm (by omega) (by omega)]
    have := div_div_pow v 1 d
    rw [Nat.add_comm 1 d] at this
    rw [← this]
    rfl
theorem bit_f {k : Nat} {v i : Int} (h0 : 0 ≤ v) (h1 : v < 18446744073709551616) (hi : 0 ≤ i) (hm : i ≤ 1000) (hk : i.toNat < k) : spinnakerref01_Bit.f k v i = some (v / 2 ^ i.toNat % 2) :=
  bit_l0 i.toNat k v i 0 h0 h1 (by omega) hi hm (by omega) hk
theorem power_l0 (d : Nat) : ∀ (k : Nat) (n p j : Int), 0 ≤ j → j ≤ n → n ≤ 63 → p = 2 ^ j.toNat → n - j = d → d < k → spinnakerref01_Power.l0 k n p j = some (2 ^ n.toNat) := by
  induction d with
  | zero =>
    intro k n p j hj hn hm hp hd hk
    obtain ⟨k, rfl⟩ : ∃ m, k = m + 1 := ⟨k - 1, by omega⟩
    simp only [spinnakerref01_Power.l0]
    rw [if_neg (by omega), hp, show j = n by omega]
  | succ d ih =>
    intro k n p j hj hn hm hp hd hk
    obtain ⟨k, rfl⟩ : ∃ m, k = m + 1 := ⟨k - 1, by omega⟩
    simp only [spinnakerref01_Power.l0]
    have e : 2 * p = 2 ^ (j + 1).toNat := by rw [hp, show (j + 1).toNat = j.toNat + 1 by omega, two_pow_succ]
    have hb : (2 : Int) ^ (j + 1).toNat ≤ 2 ^ 63 := two_pow_le (by omega)
    have hp0 := two_pow_pos (j + 1).toNat
    rw [if_pos (by omega), wrap64_id (by omega) (by omega), show IntKind.u64.wrap (2 * p) = 2 * p from W64_id (by omega) (by rw [e]; exact Int.lt_of_le_of_lt hb (by decide))]
    exact ih k n (2 * p) (j + 1) (by omega) (by omega) hm e (by omega) (by omega)
theorem power_f {k : Nat} {n : Int} (h0 : 0 ≤ n) (h1 : n ≤ 63) (hk : n.toNat < k) : spinnakerref01_Power.f k n = some (2 ^ n.toNat) :=
  power_l0 n.toNat k n 1 0 (by omega) h0 h1 rfl (by omega) hk
theorem w31 : wrap64 (32 - 1) = 31 := by unfold wrap64; omega
theorem sign_l0 (d : Nat) : ∀ (k : Nat) (v j : Int), 0 ≤ v → v < 18446744073709551616 → 0 ≤ j → 31 - j = d → d + 32 < k →
    spinnakerref01_Sign.l0 k v 32 (v % 2 ^ j.toNat) (2 ^ j.toNat) j = some (wrap32 v) := by
  induction d with
  | zero =>
    intro k v j h0 h1 hj hd hk
    obtain ⟨k, rfl⟩ : ∃ m, k = m + 1 := ⟨k - 1, by omega⟩
    obtain rfl : j = 31 := by omega
    simp only [spinnakerref01_Sign.l0]
    rw [w31, if_neg (by decide), bit_f h0 h1 (by decide) (by decide) (by show 31 < k; omega)]
    simp only [Option.bind_some]
    have e : (2 : Int) ^ (31 : Int).toNat = 2147483648 := by decide
    rw [e]
    congr 1
    unfold wrap64 wrap32
    omega
  | succ d ih =>
    intro k v j h0 h1 hj hd hk
    obtain ⟨k, rfl⟩ : ∃ m, k = m + 1 := ⟨k - 1, by omega⟩
    simp only [spinnakerref01_Sign.l0]
    have hb : (2 : Int) ^ (j.toNat + 1) ≤ 2 ^ 31 := two_pow_le (by omega)
    have hp := two_pow_pos j.toNat
    have hs := two_pow_succ j.toNat
    have hm := mod_succ v j.toNat
    have r0 := Int.emod_nonneg v (Int.ne_of_gt hp)
    have r1 := Int.emod_lt_of_pos v hp
    rw [w31, if_pos (by omega), bit_f h0 h1 hj (by omega) (by omega)]
    simp only [Option.bind_some]
    have t : v / 2 ^ j.toNat % 2 = 0 ∨ v / 2 ^ j.toNat % 2 = 1 := by omega
    have hb' : (2 : Int) ^ (j.toNat + 1) ≤ 2147483648 := hb
    rw [wrap64_id (x := j + 1) (by omega) (by omega), wrap64_id (x := 2 * 2 ^ j.toNat) (by omega) (by omega)]
    have e1 : wrap64 (2 ^ j.toNat * (v / 2 ^ j.toNat % 2)) = v / 2 ^ j.toNat % 2 * 2 ^ j.toNat := by
      rw [Int.mul_comm]
      rcases t with t | t <;> rw [t] <;> exact wrap64_id (by omega) (by omega)
    have m0 : 0 ≤ v / 2 ^ j.toNat % 2 * 2 ^ j.toNat ∧ v / 2 ^ j.toNat % 2 * 2 ^ j.toNat ≤ 2 ^ j.toNat := by
      rcases t with t | t <;> rw [t] <;> omega
    rw [e1, wrap64_id (x := v % 2 ^ j.toNat + v / 2 ^ j.toNat % 2 * 2 ^ j.toNat) (by omega) (by omega), ← hm, ← hs]
    have := ih k v (j + 1) h0 h1 (by omega) (by omega) (by omega)
    rw [show (j + 1).toNat = j.toNat + 1 by omega] at this
    exact this
theorem half_f {k : Nat} (a : Int) (hk : 64 < k) : spinnakerref07_Half.f k a = some (wrap32 a) := by
  unfold spinnakerref07_Half.f spinnakerref01_Sign.f
  have h := W64_range a
  have := sign_l0 31 k (W64 a) 0 h.1 h.2 (by decide) (by decide) (by omega)
  rw [show W64 a % 2 ^ (0 : Int).toNat = 0 from by simp [Int.emod_one], show (2 : Int) ^ (0 : Int).toNat = 1 from rfl] at this
  rw [this]
  simp only [Option.bind_some]
  congr 1
  rw [W64_eq]
  unfold wrap32
  omega
def valF (f : Nat → Int) : Nat → Int
  | 0 => 0
  | n + 1 => valF f n + f n * 2 ^ n
theorem valF_congr {f g : Nat → Int} (n : Nat) (h : ∀ i, i < n → f i = g i) : valF f n = valF g n := by
  induction n with
  | zero => rfl
  | succ n ih => simp only [valF]; rw [ih (fun i hi => h i (by omega)), h n (by omega)]
theorem valF_bits (y : Int) (n : Nat) : valF (fun i => y / 2 ^ i % 2) n = y % 2 ^ n := by
  induction n with
  | zero => simp [valF, Int.emod_one]
  | succ n ih => simp only [valF]; rw [ih, mod_succ]
theorem valF_cut (f : Nat → Int) (m : Nat) : ∀ n, m ≤ n → valF (fun i => if i < m then f i else 0) n = valF f m := by
  intro n hn
  obtain ⟨d, rfl⟩ := Nat.exists_eq_add_of_le hn
  clear hn
  induction d with
  | zero => exact valF_congr m fun i hi => by simp [hi]
  | succ d ih =>
    show valF _ (m + d) + (if m + d < m then f (m + d) else 0) * 2 ^ (m + d) = _
    rw [ih, if_neg (by omega)]; omega
theorem valF_range {f : Nat → Int} (n : Nat) (h : ∀ i, i < n → 0 ≤ f i ∧ f i ≤ 1) : 0 ≤ valF f n ∧ valF f n < 2 ^ n := by
  induction n with
  | zero => exact ⟨Int.le_refl _, by show (0 : Int) < 1; decide⟩
  | succ n ih =>
    obtain ⟨h0, h1⟩ := ih fun i hi => h i (by omega)
    have hp := two_pow_pos n
    have hs := two_pow_succ n
    simp only [valF]
    have : f n = 0 ∨ f n = 1 := by have := h n (by omega); omega
    rcases this with e | e <;> rw [e] <;> omega
theorem num_l0 (d : Nat) : ∀ (k : Nat) (l : List Int) (j : Int), l.length = 64 → (∀ i, i < 64 → 0 ≤ l.getD i 0 ∧ l.getD i 0 ≤ 1) → 0 ≤ j → 64 - j = d → d + 64 < k →
    spinnakerref07_num.l0 k l (valF (fun i => l.getD i 0) j.toNat) j = some (wrap64 (valF (fun i => l.getD i 0) 64)) := by
  induction d with
  | zero =>
    intro k l j hl hb hj hd hk
    obtain ⟨k, rfl⟩ : ∃ m, k = m + 1 := ⟨k - 1, by omega⟩
    obtain rfl : j = 64 := by omega
    simp only [spinnakerref07_num.l0]
    rw [if_neg (by decide)]
    rfl
  | succ d ih =>
    intro k l j hl hb hj hd hk
    obtain ⟨k, rfl⟩ : ∃ m, k = m + 1 := ⟨k - 1, by omega⟩
    simp only [spinnakerref07_num.l0]
    rw [if_pos (by omega), if_pos hj, if_pos (by omega), power_f hj (by omega) (by omega)]
    simp only [Option.bind_some]
    have hv := valF_range (f := fun i => l.getD i 0) j.toNat fun i hi => hb i (by omega)
    have hv1 := valF_range (f := fun i => l.getD i 0) (j.toNat + 1) fun i hi => hb i (by omega)
    have hlt : (2 : Int) ^ (j.toNat + 1) ≤ 2 ^ 64 := two_pow_le (by omega)
    have hlt' : (2 : Int) ^ (j.toNat + 1) ≤ 18446744073709551616 := hlt
    have e0 : rd l j = l.getD j.toNat 0 := rfl
    have hb0 := hb j.toNat (by omega)
    have hp := two_pow_pos j.toNat
    have hs := two_pow_succ j.toNat
    have e1 : IntKind.u64.wrap (IntKind.u64.wrap (rd l j) * 2 ^ j.toNat) = l.getD j.toNat 0 * 2 ^ j.toNat := by
      rw [e0, show IntKind.u64.wrap (l.getD j.toNat 0) = l.getD j.toNat 0 from W64_id (by omega) (by omega)]
      have : l.getD j.toNat 0 = 0 ∨ l.getD j.toNat 0 = 1 := by omega
      rcases this with e | e <;> rw [e] <;> exact W64_id (by omega) (by omega)
    have e2 : valF (fun i => l.getD i 0) j.toNat + l.getD j.toNat 0 * 2 ^ j.toNat = valF (fun i => l.getD i 0) (j.toNat + 1) := rfl
    rw [e1, e2, show IntKind.u64.wrap (valF (fun i => l.getD i 0) (j.toNat + 1)) = _ from W64_id hv1.1 (by omega), wrap64_id (by omega) (by omega)]
    have := ih k l (j + 1) hl hb (by omega) (by omega) (by omega)
    rw [show (j + 1).toNat = j.toNat + 1 by omega] at this
    exact this
theorem num_f {k : Nat} (l : List Int) (hl : l.length = 64) (hb : ∀ i, i < 64 → 0 ≤ l.getD i 0 ∧ l.getD i 0 ≤ 1) (hk : 128 < k) : spinnakerref07_num.f k l = some (wrap64 (valF (fun i => l.getD i 0) 64)) :=
  num_l0 64 k l 0 hl hb (by omega) (by omega) (by omega)
def movB (a n : Int) (up : Bool) (s width : Int) (i : Int) : Int :=
  let from_ := if up = true then i - n else i + n
  if 0 ≤ from_ ∧ from_ < width then W64 a / 2 ^ from_.toNat % 2 else s
theorem movB_range (a n : Int) (up : Bool) {s : Int} (width i : Int) (hs : s = 0 ∨ s = 1) : 0 ≤ movB a n up s width i ∧ movB a n up s width i ≤ 1 := by
  unfold movB
  simp only
  split
  · omega
  · omega
theorem moved_l0 (d : Nat) : ∀ (k : Nat) (a n : Int) (up : Bool) (s width : Int) (l : List Int) (j : Int), 0 ≤ n → n ≤ 63 → (s = 0 ∨ s = 1) → 0 ≤ width → width ≤ 64 → l.length = 64 → 0 ≤ j → j ≤ width →
    (∀ i : Nat, i < 64 → l.getD i 0 = if (i : Int) < j then movB a n up s width i else 0) → width - j = d → 2 * d + 200 < k →
    spinnakerref07_moved.l0 k a n up s width l j = some (wrap64 (valF (fun i => if i < width.toNat then movB a n up s width i else 0) 64)) := by
  induction d with
  | zero =>
    intro k a n up s width l j hn0 hn1 hs hw0 hw1 hl hj hjw hb hd hk
    obtain ⟨k, rfl⟩ : ∃ m, k = m + 1 := ⟨k - 1, by omega⟩
    obtain rfl : j = width := by omega
    simp only [spinnakerref07_moved.l0]
    rw [if_neg (by omega), num_f l hl (fun i hi => by rw [hb i hi]; split; exact movB_range _ _ _ _ _ hs; omega) (by omega)]
    simp only [Option.bind_some]
    congr 2
    exact valF_congr 64 fun i hi => by
      rw [hb i hi]
      by_cases h : (i : Int) < j
      · rw [if_pos h, if_pos (by omega)]
      · rw [if_neg h, if_neg (by omega)]
  | succ d ih =>
    intro k a n up s width l j hn0 hn1 hs hw0 hw1 hl hj hjw hb hd hk
    obtain ⟨k, rfl⟩ : ∃ m, k = m + 2 := ⟨k - 2, by omega⟩
    have key : ∀ x13 : Int, x13 = (if up = true then j - n else j + n) → spinnakerref07_moved.j1 (k + 1) a n up s width l j x13 = some (wrap64 (valF (fun i => if i < width.toNat then movB a n up s width i else 0) 64)) := by
      intro x13 hx
      simp only [spinnakerref07_moved.j1]
      rw [if_pos hj, if_pos (by omega)]
      simp only [Option.bind_some]
      have hset : ∀ v : Int, v = movB a n up s width j → ∀ l' : List Int, l'.length = 64 → (∀ i : Nat, i < 64 → l'.getD i 0 = if i = j.toNat then v else l.getD i 0) →
          spinnakerref07_moved.l0 k a n up s width l' (wrap64 (j + 1)) = some (wrap64 (valF (fun i => if i < width.toNat then movB a n up s width i else 0) 64)) := by
        intro v hv l' hl' hg
        rw [wrap64_id (by omega) (by omega)]
        refine ih k a n up s width l' (j + 1) hn0 hn1 hs hw0 hw1 hl' (by omega) (by omega) (fun i hi => ?_) (by omega) (by omega)
        rw [hg i hi]
        by_cases e : i = j.toNat
        · subst e
          rw [if_pos rfl, if_pos (by omega), hv, show ((j.toNat : Nat) : Int) = j by omega]
        · rw [if_neg e, hb i hi]
          by_cases e2 : (i : Int) < j
          · rw [if_pos e2, if_pos (by omega)]
          · rw [if_neg e2, if_neg (by omega)]
      have g1 : ∀ v : Int, ∀ i : Nat, i < 64 → (l.set j.toNat v).getD i 0 = if i = j.toNat then v else l.getD i 0 := by
        intro v i hi
        simp only [List.getD_eq_getElem?_getD, List.getElem?_set]
        by_cases e : j.toNat = i
        · subst e; simp [hl, hi]
        · rw [if_neg e, if_neg (fun h => e h.symm)]
      by_cases c1 : x13 ≥ 0
      · rw [if_pos c1]
        by_cases c2 : x13 < width
        · rw [if_pos c2]
          have hr := W64_range a
          rw [show IntKind.u64.wrap a = W64 a from rfl, bit_f hr.1 hr.2 c1 (by omega) (by omega)]
          simp only [Option.bind_some]
          refine hset (W64 a / 2 ^ x13.toNat % 2) ?_ _ (by simp [hl]) ?_
          · unfold movB
            simp only
            rw [← hx, if_pos ⟨c1, c2⟩]
          · intro i hi
            simp only [List.getD_eq_getElem?_getD, List.getElem?_set]
            by_cases e : j.toNat = i
            · subst e; simp [hl, hi]
            · rw [if_neg e, if_neg e, if_neg (fun h => e h.symm)]
        · rw [if_neg c2]
          exact hset s (by unfold movB; simp only; rw [← hx, if_neg (by omega)]) _ (by simp [hl]) (g1 s)
      · rw [if_neg c1]
        exact hset s (by unfold movB; simp only; rw [← hx, if_neg (by omega)]) _ (by simp [hl]) (g1 s)
    rw [show spinnakerref07_moved.l0 (k + 2) a n up s width l j = _ from by simp only [spinnakerref07_moved.l0]; rfl]
    rw [if_pos (by omega)]
    cases up with
    | true => rw [if_pos rfl, wrap64_id (by omega) (by omega)]; exact key _ (by simp)
    | false => rw [if_neg (by decide), wrap64_id (by omega) (by omega)]; exact key _ (by simp)
theorem moved_f {k : Nat} (a n : Int) (up : Bool) (s width : Int) (hn0 : 0 ≤ n) (hn1 : n ≤ 63) (hs : s = 0 ∨ s = 1) (hw0 : 0 ≤ width) (hw1 : width ≤ 64) (hk : 400 < k) :
    spinnakerref07_moved.f k a n up s width = some (wrap64 (valF (fun i => movB a n up s width i) width.toNat)) := by
  unfold spinnakerref07_moved.f
  rw [if_pos (by decide)]
  rw [moved_l0 width.toNat k a n up s width (List.replicate 64 0) 0 hn0 hn1 hs hw0 hw1 (by simp) (by omega) hw0 (fun i hi => by rw [if_neg (by omega), List.getD_eq_getElem?_getD, List.getElem?_replicate, if_pos hi]; rfl) (by omega) (by omega)]
  rw [valF_cut (fun i => movB a n up s width i) width.toNat 64 (by omega)]
theorem moved_up {k : Nat} (a n width : Int) (hn0 : 0 ≤ n) (hn1 : n ≤ 63) (hw0 : 0 ≤ width) (hw1 : width ≤ 64) (hk : 400 < k) :
    spinnakerref07_moved.f k a n true 0 width = some (wrap64 (W64 a * 2 ^ n.toNat % 2 ^ width.toNat)) := by
  rw [moved_f a n true 0 width hn0 hn1 (.inl rfl) hw0 hw1 hk, ← valF_bits]
  congr 2
  refine valF_congr _ fun i hi => ?_
  unfold movB
  simp only [if_true]
  have hp := two_pow_pos n.toNat
  by_cases h : 0 ≤ (i : Int) - n
  · rw [if_pos ⟨h, by omega⟩]
    have e : i = n.toNat + ((i : Int) - n).toNat := by omega
    conv => rhs; rw [e, ← div_div_pow, Int.mul_ediv_cancel _ (Int.ne_of_gt hp)]
  · rw [if_neg (by omega)]
    have e : n.toNat = i + ((n.toNat - i - 1) + 1) := by omega
    rw [e, Int.pow_add, Int.mul_comm (2 ^ i) _, ← Int.mul_assoc, Int.mul_ediv_cancel _ (Int.ne_of_gt (two_pow_pos i)), two_pow_succ, Int.mul_comm 2, ← Int.mul_assoc]
    simp
theorem moved_down {k : Nat} (a n s width : Int) (hn0 : 0 ≤ n) (hn1 : n ≤ 63) (hs : s = 0 ∨ s = 1) (hw0 : 0 ≤ width) (hw1 : width ≤ 64) (hk : 400 < k) :
    spinnakerref07_moved.f k a n false s width = some (wrap64 ((W64 a % 2 ^ width.toNat - 2 ^ width.toNat * s) / 2 ^ n.toNat % 2 ^ width.toNat)) := by
  rw [moved_f a n false s width hn0 hn1 hs hw0 hw1 hk, ← valF_bits]
  congr 2
  refine valF_congr _ fun i hi => ?_
  unfold movB
  simp only [Bool.false_eq_true, if_false]
  rw [div_div_pow]
  have hp := two_pow_pos width.toNat
  have r0 := Int.emod_nonneg (W64 a) (Int.ne_of_gt hp)
  have r1 := Int.emod_lt_of_pos (W64 a) hp
  by_cases h : (i : Int) + n < width
  · rw [if_pos ⟨by omega, h⟩]
    have e : ((i : Int) + n).toNat = n.toNat + i := by omega
    rw [e]
    generalize hm : n.toNat + i = m
    have hw : width.toNat = m + ((width.toNat - m - 1) + 1) := by omega
    have hq := Int.mul_ediv_add_emod (W64 a) (2 ^ width.toNat)
    have e2 : W64 a % 2 ^ width.toNat - 2 ^ width.toNat * s = W64 a + 2 ^ m * (2 * (2 ^ (width.toNat - m - 1) * (-(W64 a / 2 ^ width.toNat) - s))) := by
      have : (2 : Int) ^ width.toNat = 2 ^ m * (2 * 2 ^ (width.toNat - m - 1)) := by
        conv => lhs; rw [hw]
        rw [Int.pow_add, two_pow_succ]
      generalize W64 a / 2 ^ width.toNat = q at *
      generalize W64 a % 2 ^ width.toNat = r at *
      rw [← hq, this]
      grind
    rw [e2, Int.add_mul_ediv_left _ _ (Int.ne_of_gt (two_pow_pos m))]
    omega
  · rw [if_neg (by omega)]
    have hle : (2 : Int) ^ width.toNat ≤ 2 ^ (n.toNat + i) := two_pow_le (by omega)
    have hp2 := two_pow_pos (n.toNat + i)
    rcases hs with rfl | rfl
    · rw [Int.mul_zero, Int.sub_zero, Int.ediv_eq_zero_of_lt r0 (by omega)]
      rfl
    · rw [Int.mul_one]
      have : (W64 a % 2 ^ width.toNat - 2 ^ width.toNat) / 2 ^ (n.toNat + i) = -1 := by
        have h1 : (W64 a % 2 ^ width.toNat - 2 ^ width.toNat) / 2 ^ (n.toNat + i) < 0 := Int.ediv_neg_of_neg_of_pos (by omega) hp2
        have h2 : -1 ≤ (W64 a % 2 ^ width.toNat - 2 ^ width.toNat) / 2 ^ (n.toNat + i) := (Int.le_ediv_iff_mul_le hp2).2 (by omega)
        omega
      rw [this]
      rfl
end Go.Proofs.YtfcniikbcjmlcaaGreatDoor
end
section
namespace Go.Proofs.YtfcniikbcjmlcaaGreatDoor
open Go.RowKit Go.Proofs.YtfcniikbcjmlcaaGreatDoorW.PrintWords Go.Proofs.YtfcniikbcjmlcaaGreatDoorW.PrintLast Go.Proofs.YtfcniikbcjmlcaaGreatDoorW.PrintMore
set_option linter.unusedVariables false
set_option linter.unusedSimpArgs false
abbrev Is64 (a : Int) : Prop := -9223372036854775808 ≤ a ∧ a < 9223372036854775808
theorem abs_any (a : Int) (h : Is64 a) (w : World) : Calls Tryz.prog 104 #[.int .i64 a] w fun e w' => e = .returned (.int .u64 (if a < 0 then -a else a)) ∧ w' = w := by
  obtain ⟨h0, h1⟩ := h
  have e1 : IntKind.u64.wrap a = a % 18446744073709551616 := rfl
  have e2 : IntKind.u64.wrap (-(IntKind.u64.wrap a)) = (-(a % 18446744073709551616)) % 18446744073709551616 := rfl
  by_cases c : a < 0
  · have d : decide (a < 0) = true := decide_eq_true c
    have e3 : IntKind.u64.wrap (-(IntKind.u64.wrap a)) = -a := by rw [e2]; omega
    rw [if_pos c]
    clear e1 e2 h0 h1 c
    go_enter Tryz.func104, Tryz.ntmps104
    go_wp2
    go_ret
    exact ⟨by simp [e3], rfl⟩
  · have d : decide (a < 0) = false := decide_eq_false c
    have e3 : IntKind.u64.wrap a = a := by rw [e1]; omega
    rw [if_neg c]
    clear e1 e2 h0 h1 c
    go_enter Tryz.func104, Tryz.ntmps104
    go_wp2
    go_ret
    exact ⟨by simp [e3], rfl⟩
def divQ (a b : Int) : Int := if b = 0 then -1 else wrap64 (Int.tdiv a b)
def divR (a b : Int) : Int := if b = 0 then a else Int.tmod a b
set_option maxRecDepth 100000 in
set_option maxHeartbeats 1000000 in
theorem ref07_Div.calls (a b : Int) (ha : Is64 a) (hb : Is64 b) (w : World) : Calls Tryz.prog 79 #[.int .i64 a, .int .i64 b] w fun e w' => e = .returned (.tuple #[.int .i64 (divQ a b), .int .i64 (divR a b)]) ∧ Drawn0 w w' := by
  by_cases z : b = 0
  · subst z
    go_enter Tryz.func79, Tryz.ntmps79
    go_wp2
    go_ret2
    exact ⟨by simp [divQ, divR], Drawn0.refl _⟩
  obtain ⟨x, hx⟩ : ∃ x, (if a < 0 then -a else a) = x := ⟨_, rfl⟩
  obtain ⟨y, hy⟩ : ∃ y, (if b < 0 then -b else b) = y := ⟨_, rfl⟩
  have ax : ∀ w, Calls Tryz.prog 104 #[.int .i64 a] w fun e w' => e = .returned (.int .u64 x) ∧ w' = w := fun w => hx ▸ abs_any a ha w
  have ay : ∀ w, Calls Tryz.prog 104 #[.int .i64 b] w fun e w' => e = .returned (.int .u64 y) ∧ w' = w := fun w => hy ▸ abs_any b hb w
  obtain ⟨a0, a1⟩ := ha
  obtain ⟨b0, b1⟩ := hb
  have x0 : 0 ≤ x ∧ x ≤ 9223372036854775808 := by rw [← hx]; split <;> omega
  have y0 : 0 < y ∧ y ≤ 9223372036854775808 := by rw [← hy]; split <;> omega
  have yb : (y == 0) = false := beq_eq_false_iff_ne.2 (by omega)
  have yn : y ≠ 0 := by omega
  have zb : (b == 0) = false := beq_eq_false_iff_ne.2 z
  obtain ⟨Q, hQ⟩ : ∃ Q, Int.tdiv x y = Q := ⟨_, rfl⟩
  obtain ⟨R, hR⟩ : ∃ R, Int.tmod x y = R := ⟨_, rfl⟩
  have Q0 : 0 ≤ Q ∧ Q ≤ x := by
    rw [← hQ, Int.tdiv_eq_ediv_of_nonneg x0.1]
    exact ⟨Int.ediv_nonneg x0.1 (by omega), Int.ediv_le_self _ x0.1⟩
  have R0 : 0 ≤ R ∧ R < y := by
    rw [← hR, Int.tmod_eq_emod_of_nonneg x0.1]
    exact ⟨Int.emod_nonneg _ (by omega), Int.emod_lt_of_pos _ y0.1⟩
  have wQ : IntKind.u64.wrap Q = Q := by show Q % 18446744073709551616 = Q; omega
  have tq : divQ a b = wrap64 (if decide (a < 0) = decide (b < 0) then Q else -Q) := by
    rw [divQ, if_neg z, ← hQ, ← hx, ← hy]
    by_cases ca : a < 0 <;> by_cases cb : b < 0 <;> simp [ca, cb]
  have tr : divR a b = if decide (a < 0) = true then -R else R := by
    rw [divR, if_neg z, ← hR, ← hx, ← hy]
    by_cases ca : a < 0 <;> by_cases cb : b < 0 <;> simp [ca, cb]
  have eQ : ∀ z, wrap64 (IntKind.u64.wrap z) = wrap64 z := fun z => by
    show wrap64 (z % 18446744073709551616) = wrap64 z
    unfold wrap64; omega
  have eR : wrap64 R = R := by unfold wrap64; omega
  have eR' : wrap64 (-R) = -R := by unfold wrap64; omega
  rw [tq, tr]
  clear tq tr
  have HX := Aside0.mk (And.intro x0 (And.intro y0 (And.intro Q0 R0)))
  clear x0 y0 Q0 R0 hx hy a0 a1 b0 b1
  generalize da : decide (a < 0) = pa
  generalize db : decide (b < 0) = pb
  cases pa <;> cases pb
  all_goals
    simp only [if_true, if_false, eq_self_iff_true, Bool.false_eq_true, Bool.true_eq_false, reduceCtorEq]
    go_enter Tryz.func79, Tryz.ntmps79
    go_wp2
    go_quiet (first | (go_at_call 104; with_reducible exact Calls.quiet_of_same (ax _)) | (go_at_call 104; with_reducible exact Calls.quiet_of_same (ay _)))
    go_wp2
    go_ret2
    exact ⟨by simp [eQ, eR, eR', wQ], Drawn0.step (Drawn0.refl _) _⟩
end Go.Proofs.YtfcniikbcjmlcaaGreatDoor
end
section
namespace Go.Proofs.YtfcniikbcjmlcaaGreatDoor
open Go.RowKit Go.Proofs.YtfcniikbcjmlcaaGreatDoorW.PrintWords Go.Proofs.YtfcniikbcjmlcaaGreatDoorW.PrintLast Go.Proofs.YtfcniikbcjmlcaaGreatDoorW.PrintMore
set_option linter.unusedVariables false
set_option linter.unusedSimpArgs false
set_option maxRecDepth 100000
abbrev Base (s t : Array UInt8) (w : World) : Prop := Calls Tryz.prog 60 #[.string ⟨s⟩] w fun e w' => e = .returned (.string ⟨t⟩) ∧ w = w'
theorem base_cut (s t : Array UInt8) (h : (s, t) ∈ [(#[97, 100, 100, 105], #[97, 100, 100]), (#[115, 108, 116, 105], #[115, 108, 116]), (#[120, 111, 114, 105], #[120, 111, 114]), (#[111, 114, 105], #[111, 114]), (#[97, 110, 100, 105], #[97, 110, 100]), (#[115, 108, 108, 105], #[115, 108, 108]), (#[115, 114, 108, 105], #[115, 114, 108]), (#[115, 114, 97, 105], #[115, 114, 97]), (#[115, 108, 116, 105, 117], #[115, 108, 116, 117]), (#[97, 100, 100, 105, 119], #[97, 100, 100, 119]), (#[115, 108, 108, 105, 119], #[115, 108, 108, 119]), (#[115, 114, 108, 105, 119], #[115, 114, 108, 119]), (#[115, 114, 97, 105, 119], #[115, 114, 97, 119])]) (w : World) : Base s t w := by
  simp only [List.mem_cons, Prod.mk.injEq, List.not_mem_nil, or_false] at h
  unfold Base
  rcases h with ⟨rfl, rfl⟩ | ⟨rfl, rfl⟩ | ⟨rfl, rfl⟩ | ⟨rfl, rfl⟩ | ⟨rfl, rfl⟩ | ⟨rfl, rfl⟩ | ⟨rfl, rfl⟩ | ⟨rfl, rfl⟩ | ⟨rfl, rfl⟩ | ⟨rfl, rfl⟩ | ⟨rfl, rfl⟩ | ⟨rfl, rfl⟩ | ⟨rfl, rfl⟩
  all_goals
    go_enter Tryz.func60, Tryz.ntmps60
    go_wp2
    go_ret
    exact ⟨by first | rfl | (simp; done) | (simp; rfl), rfl⟩
end Go.Proofs.YtfcniikbcjmlcaaGreatDoor
end
section
namespace Go.Proofs.YtfcniikbcjmlcaaGreatDoor
open Go.RowKit Go.Proofs.YtfcniikbcjmlcaaGreatDoorW.PrintWords Go.Proofs.YtfcniikbcjmlcaaGreatDoorW.PrintLast Go.Proofs.YtfcniikbcjmlcaaGreatDoorW.PrintMore
set_option linter.unusedVariables false
set_option linter.unusedSimpArgs false
theorem c_half (x : Int) (w : World) : Calls Tryz.prog 80 #[.int .i64 x] w fun e w' => e = .returned (.int .i64 (wrap32 x)) ∧ Below w.heap.size w w' :=
  (QB.spinnakerref07_Half.calls 65 x _ w (half_f x (by decide))).mono fun e w' ⟨h, hd⟩ => ⟨h, hd.below⟩
theorem c_bit (v i : Int) (h0 : 0 ≤ v) (h1 : v < 18446744073709551616) (hi : 0 ≤ i) (hm : i ≤ 1000) (w : World) : Calls Tryz.prog 45 #[.int .u64 v, .int .i64 i] w fun e w' => e = .returned (.int .i64 (v / 2 ^ i.toNat % 2)) ∧ Below w.heap.size w w' :=
  (QB.spinnakerref01_Bit.calls 1001 v i _ w (bit_f h0 h1 hi hm (by omega))).mono fun e w' ⟨h, hd⟩ => ⟨h, hd.below⟩
theorem c_up (a n width : Int) (hn0 : 0 ≤ n) (hn1 : n ≤ 63) (hw0 : 0 ≤ width) (hw1 : width ≤ 64) (w : World) : Calls Tryz.prog 61 #[.int .i64 a, .int .i64 n, .bool true, .int .i64 0, .int .i64 width] w fun e w' => e = .returned (.int .i64 (wrap64 (W64 a * 2 ^ n.toNat % 2 ^ width.toNat))) ∧ Below w.heap.size w w' :=
  QB.spinnakerref07_moved.calls 401 a n true 0 width _ w (moved_up a n width hn0 hn1 hw0 hw1 (by decide))
theorem c_down (a n s width : Int) (hn0 : 0 ≤ n) (hn1 : n ≤ 63) (hs : s = 0 ∨ s = 1) (hw0 : 0 ≤ width) (hw1 : width ≤ 64) (w : World) : Calls Tryz.prog 61 #[.int .i64 a, .int .i64 n, .bool false, .int .i64 s, .int .i64 width] w fun e w' => e = .returned (.int .i64 (wrap64 ((W64 a % 2 ^ width.toNat - 2 ^ width.toNat * s) / 2 ^ n.toNat % 2 ^ width.toNat))) ∧ Below w.heap.size w w' :=
  QB.spinnakerref07_moved.calls 401 a n false s width _ w (moved_down a n s width hn0 hn1 hs hw0 hw1 (by decide))
theorem c_div (a b : Int) (ha : Is64 a) (hb : Is64 b) (w : World) : Calls Tryz.prog 79 #[.int .i64 a, .int .i64 b] w fun e w' => e = .returned (.tuple #[.int .i64 (divQ a b), .int .i64 (divR a b)]) ∧ Below w.heap.size w w' :=
  (ref07_Div.calls a b ha hb w).mono fun e w' ⟨h, hd⟩ => ⟨h, hd.below⟩
def duQ (a b : Int) : Int := if b = 0 then -1 else wrap64 (W64 (Int.tdiv a b))
def duR (a b : Int) : Int := if b = 0 then wrap64 a else wrap64 (Int.tmod a b)
theorem c_divU (a b : Int) (w : World) : Calls Tryz.prog 81 #[.int .u64 a, .int .u64 b] w fun e w' => e = .returned (.tuple #[.int .i64 (duQ a b), .int .i64 (duR a b)]) ∧ Below w.heap.size w w' :=
  (QB.spinnakerref07_DivU.calls a b _ _ w (by unfold QB.spinnakerref07_DivU.f duQ duR; by_cases h : b = 0 <;> simp [h])).mono fun e w' ⟨h, hd⟩ => ⟨h, hd.below⟩
theorem c_one (p : Bool) (w : World) : Calls Tryz.prog 62 #[.bool p] w fun e w' => e = .returned (.int .i64 (if p = true then 1 else 0)) ∧ Below w.heap.size w w' :=
  (QB.spinnakerref07_one.calls p _ w (by unfold QB.spinnakerref07_one.f; cases p <;> rfl)).mono fun e w' ⟨h, hd⟩ => ⟨h, hd.below⟩
theorem c_mul (a b : Int) (w : World) : Calls Tryz.prog 82 #[.int .u64 (W64 a), .int .u64 (W64 b)] w fun e w' => e = .returned (.tuple #[.int .u64 (W64 a * W64 b % M64), .int .u64 (W64 a * W64 b / M64)]) ∧ Below w.heap.size w w' :=
  ref07_Mul.calls _ _ _ _ w (by unfold ref07_Mul.f; rw [if_pos ⟨(W64_range a).1, (W64_range a).2, (W64_range b).1, (W64_range b).2⟩])
def hiF (x y : Int) : Int := wrap64 (x * y / 18446744073709551616)
theorem xor_all (h : Int) (h0 : 0 ≤ h) (h1 : h < 18446744073709551616) : bits .xor .u64 18446744073709551615 h = 18446744073709551615 - h := by
  rw [u64_xor _ _ (by decide) (by decide) h0 h1]
  have e : (BitVec.allOnes 64 ^^^ BitVec.ofNat 64 h.toNat).toNat = (~~~ BitVec.ofNat 64 h.toNat).toNat := by rw [BitVec.allOnes_xor]
  rw [BitVec.toNat_xor, BitVec.toNat_not, BitVec.toNat_allOnes, BitVec.toNat_ofNat, Nat.mod_eq_of_lt (by omega)] at e
  have e2 : (18446744073709551615 : Int).toNat = 2 ^ 64 - 1 := by decide
  rw [e2, e]
  omega
theorem upper_j3 (k : Nat) (x y : Int) (neg : Bool) (hx : 0 ≤ x ∧ x < M64) (hy : 0 ≤ y ∧ y < M64) :
    QB.spinnakerref07_Upper.j3 (k + 1) x y neg = some (hiF (if neg = true then -x else x) y) := by
  rw [QB.spinnakerref07_Upper.j3]
  unfold ref07_Mul.f
  rw [if_pos ⟨hx.1, hx.2, hy.1, hy.2⟩]
  have hp : 0 ≤ x * y := Int.mul_nonneg hx.1 hy.1
  have hp1 : x * y / M64 < M64 := by
    have : x * y < M64 * M64 := by
      have h1 : x * y ≤ x * M64 := Int.mul_le_mul_of_nonneg_left (Int.le_of_lt hy.2) hx.1
      have h2 : x * M64 < M64 * M64 := Int.mul_lt_mul_of_pos_right hx.2 (by decide)
      omega
    exact Int.ediv_lt_of_lt_mul (by decide) this
  have hp0 : 0 ≤ x * y / M64 := Int.ediv_nonneg hp (by decide)
  show (if neg = true then (if x * y % M64 = 0 then some (wrap64 (IntKind.u64.wrap (bits .xor .u64 18446744073709551615 (x * y / M64) + 1))) else some (wrap64 (bits .xor .u64 18446744073709551615 (x * y / M64)))) else some (wrap64 (x * y / M64))) = _
  rw [xor_all _ hp0 hp1]
  unfold hiF
  cases neg
  · simp only [Bool.false_eq_true, if_false]
    rfl
  · simp only [if_true, Int.neg_mul]
    generalize x * y = p at *
    have e1 : IntKind.u64.wrap (18446744073709551615 - p / M64 + 1) = (18446744073709551615 - p / M64 + 1) % 18446744073709551616 := rfl
    rw [e1]
    have eM : M64 = 18446744073709551616 := rfl
    rw [eM] at *
    split
    · congr 1; unfold wrap64; omega
    · congr 1; unfold wrap64; omega
theorem abs_f (a : Int) (h : Is64 a) (hn : a < 0) : QA.spinnakerref07_abs.f a = some (-a) := by
  obtain ⟨h0, h1⟩ := h
  unfold QA.spinnakerref07_abs.f
  rw [if_pos hn]
  have e2 : IntKind.u64.wrap (-(IntKind.u64.wrap a)) = (-(a % 18446744073709551616)) % 18446744073709551616 := rfl
  rw [e2]
  congr 1
  omega
theorem wrapu_id (a : Int) (h0 : 0 ≤ a) (h1 : a < 9223372036854775808) : IntKind.u64.wrap a = a := by
  show a % 18446744073709551616 = a
  omega
theorem wrapu_r (a : Int) : 0 ≤ IntKind.u64.wrap a ∧ IntKind.u64.wrap a < M64 := u64_wrap_range a
theorem upper_f (k : Nat) (a b : Int) (ha : Is64 a) (hb : Is64 b) (sa sb : Bool) :
    QB.spinnakerref07_Upper.f (k + 4) a b sa sb = some (hiF (if sa = true then a else W64 a) (if sb = true then b else W64 b)) := by
  have key : ∀ (x : Int) (neg : Bool), 0 ≤ x ∧ x < M64 → QB.spinnakerref07_Upper.j1 (k + 3) b sb x (IntKind.u64.wrap b) neg = some (hiF (if neg = true then -x else x) (if sb = true then b else W64 b)) := by
    intro x neg hx
    rw [QB.spinnakerref07_Upper.j1]
    cases sb
    · simp only [Bool.false_eq_true, if_false]
      rw [QB.spinnakerref07_Upper.j2]
      simp only [Bool.false_eq_true, if_false]
      exact upper_j3 k x _ neg hx (wrapu_r b)
    · simp only [if_true]
      rw [QB.spinnakerref07_Upper.j2]
      by_cases hn : b < 0
      · simp only [hn, decide_true, if_true]
        rw [abs_f b hb hn]
        show QB.spinnakerref07_Upper.j3 (k + 1) x (-b) (!neg) = _
        rw [upper_j3 k x (-b) (!neg) hx ⟨by omega, by have := hb.1; show _ < (18446744073709551616 : Int); omega⟩]
        unfold hiF
        cases neg
        · simp only [Bool.not_false, if_true, Bool.false_eq_true, if_false, Int.neg_mul_neg]
        · simp only [Bool.not_true, if_true, Bool.false_eq_true, if_false, Int.neg_mul, Int.mul_neg]
      · simp only [hn, decide_false, Bool.false_eq_true, if_false]
        rw [upper_j3 k x _ neg hx (wrapu_r b), wrapu_id b (by omega) hb.2]
  unfold QB.spinnakerref07_Upper.f
  cases sa
  · simp only [Bool.false_eq_true, if_false]
    rw [QB.spinnakerref07_Upper.j0]
    simp only [Bool.false_eq_true, if_false]
    rw [key _ _ (wrapu_r a)]
    simp only [Bool.false_eq_true, if_false]
  · simp only [if_true]
    rw [QB.spinnakerref07_Upper.j0]
    by_cases hn : a < 0
    · simp only [hn, decide_true, if_true]
      rw [abs_f a ha hn]
      show QB.spinnakerref07_Upper.j1 (k + 3) b sb (-a) (IntKind.u64.wrap b) (!false) = _
      rw [key (-a) _ ⟨by omega, by have := ha.1; show _ < (18446744073709551616 : Int); omega⟩]
      simp
    · simp only [hn, decide_false, Bool.false_eq_true, if_false]
      rw [key _ _ (wrapu_r a), wrapu_id a (by omega) ha.2]
      simp
theorem c_upper (a b : Int) (ha : Is64 a) (hb : Is64 b) (sa sb : Bool) (w : World) : Calls Tryz.prog 83 #[.int .i64 a, .int .i64 b, .bool sa, .bool sb] w fun e w' => e = .returned (.int .i64 (hiF (if sa = true then a else W64 a) (if sb = true then b else W64 b))) ∧ Below w.heap.size w w' :=
  QB.spinnakerref07_Upper.calls 4 a b sa sb _ w (upper_f 0 a b ha hb sa sb)
end Go.Proofs.YtfcniikbcjmlcaaGreatDoor
end
