/- Part PH of the proof of spinnakerlaw19.WindowOrders: for every input the law returns true. -/
import Derived.Test.YtfcniikbcjmlcaaGreatDoorPG
section
namespace Go.Proofs.YtfcniikbcjmlcaaGreatDoor
open Go.RowKit Go.Proofs.YtfcniikbcjmlcaaGreatDoorW.PrintWords Go.Proofs.YtfcniikbcjmlcaaGreatDoorW.PrintLast Go.Proofs.YtfcniikbcjmlcaaGreatDoorW.PrintMore
set_option linter.unusedVariables false
set_option linter.unusedSimpArgs false
set_option maxRecDepth 100000
def evS (t : Nat) (a b : Int) : Int := match t with
 | 0 => wrap32 (wrap64 (a + b))
 | 1 => wrap32 (wrap64 (a - b))
 | 2 => wrap32 (wrap64 (a * 2 ^ (W64 b % 32).toNat))
 | 3 => wrap32 (a % 4294967296 / 2 ^ (W64 b % 32).toNat)
 | 4 => wrap32 a / 2 ^ (W64 b % 32).toNat
 | 5 => wrap32 (wrap64 (a * b))
 | 6 => wrap32 (divQ (wrap32 a) (wrap32 b))
 | 7 => wrap32 (duQ (a % 4294967296) (b % 4294967296))
 | 8 => wrap32 (divR (wrap32 a) (wrap32 b))
 | _ => wrap32 (duR (a % 4294967296) (b % 4294967296))
def nmS (t : Nat) : Array UInt8 := match t with
 | 0 => #[97, 100, 100, 119]
 | 1 => #[115, 117, 98, 119]
 | 2 => #[115, 108, 108, 119]
 | 3 => #[115, 114, 108, 119]
 | 4 => #[115, 114, 97, 119]
 | 5 => #[109, 117, 108, 119]
 | 6 => #[100, 105, 118, 119]
 | 7 => #[100, 105, 118, 117, 119]
 | 8 => #[114, 101, 109, 119]
 | _ => #[114, 101, 109, 117, 119]
theorem is32 (a : Int) : Is64 (wrap32 a) := by unfold Is64 wrap32; omega
theorem u32_of (a : Int) : W64 a % 4294967296 = a % 4294967296 := by rw [W64_eq]; omega
theorem s31 (a : Int) : IntKind.u64.wrap a / 2 ^ (31 : Int).toNat % 2 = 0 ∨ IntKind.u64.wrap a / 2 ^ (31 : Int).toNat % 2 = 1 := by omega
theorem sllw_eq (a n : Int) (h0 : 0 ≤ n) (h1 : n ≤ 31) : wrap32 (wrap64 (W64 a * 2 ^ n.toNat % 2 ^ (32 : Int).toNat)) = wrap32 (wrap64 (a * 2 ^ n.toNat)) := by
 rw [W64_eq]
 have e : a % 18446744073709551616 * 2 ^ n.toNat = a * 2 ^ n.toNat - 18446744073709551616 * (a / 18446744073709551616 * 2 ^ n.toNat) := by
  have : a % 18446744073709551616 = a - 18446744073709551616 * (a / 18446744073709551616) := by omega
  rw [this, Int.sub_mul, Int.mul_assoc]
 rw [e]
 have e2 : (2 : Int) ^ (32 : Int).toNat = 4294967296 := by decide
 rw [e2]
 unfold wrap32 wrap64
 omega
theorem srlw_eq (a n : Int) (h0 : 0 ≤ n) (h1 : n ≤ 31) : wrap32 (wrap64 ((W64 a % 2 ^ (32 : Int).toNat - 2 ^ (32 : Int).toNat * 0) / 2 ^ n.toNat % 2 ^ (32 : Int).toNat)) = wrap32 (a % 4294967296 / 2 ^ n.toNat) := by
 have e2 : (2 : Int) ^ (32 : Int).toNat = 4294967296 := by decide
 rw [e2, u32_of, Int.mul_zero, Int.sub_zero]
 unfold wrap32 wrap64
 omega
theorem sraw_eq (a n : Int) (h0 : 0 ≤ n) (h1 : n ≤ 31) : wrap32 (wrap64 ((W64 a % 2 ^ (32 : Int).toNat - 2 ^ (32 : Int).toNat * (IntKind.u64.wrap a / 2 ^ (31 : Int).toNat % 2)) / 2 ^ n.toNat % 2 ^ (32 : Int).toNat)) = wrap32 a / 2 ^ n.toNat := by
 have e2 : (2 : Int) ^ (32 : Int).toNat = 4294967296 := by decide
 have e1 : (2 : Int) ^ (31 : Int).toNat = 2147483648 := by decide
 have e3 : IntKind.u64.wrap a = a % 18446744073709551616 := rfl
 have e4 : a % 4294967296 - 4294967296 * (a % 18446744073709551616 / 2147483648 % 2) = wrap32 a := by unfold wrap32; omega
 rw [e2, u32_of, e1, e3, e4]
 have hp := two_pow_pos n.toNat
 have b := is32 a
 have lo : -2147483648 ≤ wrap32 a ∧ wrap32 a < 2147483648 := by unfold wrap32; omega
 generalize wrap32 a = x at *
 have q1 : x / 2 ^ n.toNat < 2147483648 := Int.ediv_lt_of_lt_mul hp (by
  have : (2147483648 : Int) * 1 ≤ 2147483648 * 2 ^ n.toNat := Int.mul_le_mul_of_nonneg_left (by omega) (by decide)
  omega)
 have q0 : -2147483648 ≤ x / 2 ^ n.toNat := (Int.le_ediv_iff_mul_le hp).2 (by
  have : (2147483648 : Int) * 1 ≤ 2147483648 * 2 ^ n.toNat := Int.mul_le_mul_of_nonneg_left (by omega) (by decide)
  omega)
 unfold wrap32 wrap64
 omega
theorem shorts_calls (t : Nat) (ht : t ≤ 9) (a b : Int) (w : World) : Calls Tryz.prog 63 #[.string ⟨nmS t⟩, .int .i64 a, .int .i64 b] w fun e w' => e = .returned (.int .i64 (evS t a b)) ∧ Below w.heap.size w w' := by
 have ra := u64_wrap_range a
 have rb := u64_wrap_range b
 have ua : (IntKind.u64.wrap a).tmod 4294967296 = a % 4294967296 := by rw [Int.tmod_eq_emod_of_nonneg ra.1]; exact u32_of a
 have ub : (IntKind.u64.wrap b).tmod 4294967296 = b % 4294967296 := by rw [Int.tmod_eq_emod_of_nonneg rb.1]; exact u32_of b
 have hd := c_div (wrap32 a) (wrap32 b) (is32 a) (is32 b)
 have hu := c_divU (a % 4294967296) (b % 4294967296)
 obtain ⟨n, hn⟩ : ∃ n, W64 b % 32 = n := ⟨_, rfl⟩
 have hn0 : 0 ≤ n := by rw [← hn]; exact Int.emod_nonneg _ (by decide)
 have hn1 : n ≤ 31 := by omega
 have hwb : wrap64 ((IntKind.u64.wrap b).tmod 32) = n := by rw [Int.tmod_eq_emod_of_nonneg rb.1]; show wrap64 (W64 b % 32) = n; rw [hn]; unfold wrap64; omega
 have hup := c_up a n 32 hn0 (by omega) (by decide) (by decide)
 have hdn := fun s hs => c_down a n s 32 hn0 (by omega) hs (by decide) (by decide)
 have hbt := c_bit (IntKind.u64.wrap a) 31 ra.1 ra.2 (by decide) (by decide)
 have e2 := sllw_eq a n hn0 hn1
 have e3 := srlw_eq a n hn0 hn1
 have e4 := sraw_eq a n hn0 hn1
 have hs := s31 a
 have hd0 := hdn 0 (.inl rfl)
 have hd1 := hdn _ hs
 generalize IntKind.u64.wrap a / 2 ^ (31 : Int).toNat % 2 = s at hbt hd1 e4
 generalize wrap64 (W64 a * 2 ^ n.toNat % 2 ^ (32 : Int).toNat) = V2 at hup e2
 generalize wrap64 ((W64 a % 2 ^ (32 : Int).toNat - 2 ^ (32 : Int).toNat * 0) / 2 ^ n.toNat % 2 ^ (32 : Int).toNat) = V3 at hd0 e3
 generalize wrap64 ((W64 a % 2 ^ (32 : Int).toNat - 2 ^ (32 : Int).toNat * s) / 2 ^ n.toNat % 2 ^ (32 : Int).toNat) = V4 at hd1 e4
 clear hdn hs
 have E2 := Aside0.mk e2
 have E3 := Aside0.mk e3
 have E4 := Aside0.mk e4
 have : t = 0 ∨ t = 1 ∨ t = 2 ∨ t = 3 ∨ t = 4 ∨ t = 5 ∨ t = 6 ∨ t = 7 ∨ t = 8 ∨ t = 9 := by omega
 have HB := Aside0.mk (Below.refl w.heap.size w)
 clear ht ra rb e2 e3 e4
 rcases this with rfl | rfl | rfl | rfl | rfl | rfl | rfl | rfl | rfl | rfl
 all_goals
  simp only [nmS, evS, hn]
  clear hn
  go_enter Tryz.func63, Tryz.ntmps63
  go_wp2_with (first | (go_at_call 80; (with_reducible refine (c_half _ _).mono ?_); rintro e w' ⟨rfl, hd'⟩; replace HB := Aside0.mk (below_then HB.out HB.out.size hd'); clear hd') | (go_at_call 79; (with_reducible refine (hd _).mono ?_); rintro e w' ⟨rfl, hd'⟩; replace HB := Aside0.mk (below_then HB.out HB.out.size hd'); clear hd') | (go_at_call 81; (with_reducible refine (hu _).mono ?_); rintro e w' ⟨rfl, hd'⟩; replace HB := Aside0.mk (below_then HB.out HB.out.size hd'); clear hd') | (go_at_call 61; (with_reducible refine (hup _).mono ?_); rintro e w' ⟨rfl, hd'⟩; replace HB := Aside0.mk (below_then HB.out HB.out.size hd'); clear hd') | (go_at_call 45; (with_reducible refine (hbt _).mono ?_); rintro e w' ⟨rfl, hd'⟩; replace HB := Aside0.mk (below_then HB.out HB.out.size hd'); clear hd') | (go_at_call 61; (with_reducible refine (hd0 _).mono ?_); rintro e w' ⟨rfl, hd'⟩; replace HB := Aside0.mk (below_then HB.out HB.out.size hd'); clear hd') | (go_at_call 61; (with_reducible refine (hd1 _).mono ?_); rintro e w' ⟨rfl, hd'⟩; replace HB := Aside0.mk (below_then HB.out HB.out.size hd'); clear hd'))
  go_ret
  exact ⟨by first | rfl | exact congrArg (fun v => Ending.returned (.int .i64 v)) E2.out | exact congrArg (fun v => Ending.returned (.int .i64 v)) E3.out | exact congrArg (fun v => Ending.returned (.int .i64 v)) E4.out, HB.out⟩
def evP (t : Nat) (a b : Int) : Int := match t with
 | 0 => wrap64 (a * b)
 | 1 => hiF a b
 | 2 => hiF a (W64 b)
 | 3 => hiF (W64 a) (W64 b)
 | 4 => divQ a b
 | 5 => duQ (W64 a) (W64 b)
 | 6 => divR a b
 | _ => duR (W64 a) (W64 b)
def nmP (t : Nat) : Array UInt8 := match t with
 | 0 => #[109, 117, 108]
 | 1 => #[109, 117, 108, 104]
 | 2 => #[109, 117, 108, 104, 115, 117]
 | 3 => #[109, 117, 108, 104, 117]
 | 4 => #[100, 105, 118]
 | 5 => #[100, 105, 118, 117]
 | 6 => #[114, 101, 109]
 | _ => #[114, 101, 109, 117]
theorem mul_lo (a b : Int) : wrap64 (W64 a * W64 b % M64) = wrap64 (a * b) := by
 have e : W64 a * W64 b = a * b - 18446744073709551616 * (a / 18446744073709551616 * b + W64 a * (b / 18446744073709551616)) := by
  have h1 : W64 a = a - 18446744073709551616 * (a / 18446744073709551616) := by rw [W64_eq]; omega
  have h2 : W64 b = b - 18446744073709551616 * (b / 18446744073709551616) := by rw [W64_eq]; omega
  rw [h1, h2]
  grind
 rw [e]
 show wrap64 (_ % 18446744073709551616) = _
 unfold wrap64
 omega
theorem products_calls (t : Nat) (ht : t ≤ 7) (a b : Int) (ha : Is64 a) (hb : Is64 b) (w : World) : Calls Tryz.prog 64 #[.string ⟨nmP t⟩, .int .i64 a, .int .i64 b] w fun e w' => e = .returned (.int .i64 (evP t a b)) ∧ Below w.heap.size w w' := by
 have hd := c_div a b ha hb
 have hu := c_divU (W64 a) (W64 b)
 have hm := c_mul a b
 have e0 := mul_lo a b
 have h1 := c_upper a b ha hb true true
 have h2 := c_upper a b ha hb true false
 have h3 := c_upper a b ha hb false false
 simp only [if_true, Bool.false_eq_true, if_false] at h1 h2 h3
 generalize W64 a * W64 b % M64 = V0 at hm e0
 have E0 := Aside0.mk e0
 have : t = 0 ∨ t = 1 ∨ t = 2 ∨ t = 3 ∨ t = 4 ∨ t = 5 ∨ t = 6 ∨ t = 7 := by omega
 have HB := Aside0.mk (Below.refl w.heap.size w)
 clear ht e0 ha hb
 rcases this with rfl | rfl | rfl | rfl | rfl | rfl | rfl | rfl
 all_goals
  simp only [nmP, evP]
  go_enter Tryz.func64, Tryz.ntmps64
  go_wp2_with (first | (go_at_call 79; (with_reducible refine (hd _).mono ?_); rintro e w' ⟨rfl, hd'⟩; replace HB := Aside0.mk (below_then HB.out HB.out.size hd'); clear hd') | (go_at_call 81; (with_reducible refine (hu _).mono ?_); rintro e w' ⟨rfl, hd'⟩; replace HB := Aside0.mk (below_then HB.out HB.out.size hd'); clear hd') | (go_at_call 82; (with_reducible refine (hm _).mono ?_); rintro e w' ⟨rfl, hd'⟩; replace HB := Aside0.mk (below_then HB.out HB.out.size hd'); clear hd') | (go_at_call 83; (with_reducible refine (h1 _).mono ?_); rintro e w' ⟨rfl, hd'⟩; replace HB := Aside0.mk (below_then HB.out HB.out.size hd'); clear hd') | (go_at_call 83; (with_reducible refine (h2 _).mono ?_); rintro e w' ⟨rfl, hd'⟩; replace HB := Aside0.mk (below_then HB.out HB.out.size hd'); clear hd') | (go_at_call 83; (with_reducible refine (h3 _).mono ?_); rintro e w' ⟨rfl, hd'⟩; replace HB := Aside0.mk (below_then HB.out HB.out.size hd'); clear hd'))
  go_ret
  exact ⟨by first | rfl | exact congrArg (fun v => Ending.returned (.int .i64 v)) E0.out, HB.out⟩
def evE (t : Nat) (a b : Int) : Int := match t with
 | 0 => wrap64 (a + b)
 | 1 => wrap64 (a - b)
 | 2 => wrap64 (a * 2 ^ (W64 b % 64).toNat)
 | 3 => if decide (a < b) = true then 1 else 0
 | 4 => if decide (W64 a < W64 b) = true then 1 else 0
 | 5 => bits .xor .i64 a b
 | 6 => wrap64 (W64 a / 2 ^ (W64 b % 64).toNat)
 | 7 => a / 2 ^ (W64 b % 64).toNat
 | 8 => bits .or .i64 a b
 | _ => bits .and .i64 a b
def nmE (t : Nat) : Array UInt8 := match t with
 | 0 => #[97, 100, 100]
 | 1 => #[115, 117, 98]
 | 2 => #[115, 108, 108]
 | 3 => #[115, 108, 116]
 | 4 => #[115, 108, 116, 117]
 | 5 => #[120, 111, 114]
 | 6 => #[115, 114, 108]
 | 7 => #[115, 114, 97]
 | 8 => #[111, 114]
 | _ => #[97, 110, 100]
theorem s63 (a : Int) : IntKind.u64.wrap a / 2 ^ (63 : Int).toNat % 2 = 0 ∨ IntKind.u64.wrap a / 2 ^ (63 : Int).toNat % 2 = 1 := by omega
theorem sll_eq (a n : Int) (h0 : 0 ≤ n) (h1 : n ≤ 63) : wrap64 (W64 a * 2 ^ n.toNat % 2 ^ (64 : Int).toNat) = wrap64 (a * 2 ^ n.toNat) := by
 rw [W64_eq]
 have e : a % 18446744073709551616 * 2 ^ n.toNat = a * 2 ^ n.toNat - 18446744073709551616 * (a / 18446744073709551616 * 2 ^ n.toNat) := by
  have : a % 18446744073709551616 = a - 18446744073709551616 * (a / 18446744073709551616) := by omega
  rw [this, Int.sub_mul, Int.mul_assoc]
 rw [e]
 have e2 : (2 : Int) ^ (64 : Int).toNat = 18446744073709551616 := by decide
 rw [e2]
 unfold wrap64
 omega
theorem srl_eq (a n : Int) (h0 : 0 ≤ n) (h1 : n ≤ 63) : wrap64 ((W64 a % 2 ^ (64 : Int).toNat - 2 ^ (64 : Int).toNat * 0) / 2 ^ n.toNat % 2 ^ (64 : Int).toNat) = wrap64 (W64 a / 2 ^ n.toNat) := by
 have e2 : (2 : Int) ^ (64 : Int).toNat = 18446744073709551616 := by decide
 have e3 : W64 a % 18446744073709551616 = W64 a := by rw [W64_eq]; omega
 rw [e2, e3, Int.mul_zero, Int.sub_zero]
 unfold wrap64
 omega
theorem sra_eq (a n : Int) (ha : Is64 a) (h0 : 0 ≤ n) (h1 : n ≤ 63) : wrap64 ((W64 a % 2 ^ (64 : Int).toNat - 2 ^ (64 : Int).toNat * (IntKind.u64.wrap a / 2 ^ (63 : Int).toNat % 2)) / 2 ^ n.toNat % 2 ^ (64 : Int).toNat) = a / 2 ^ n.toNat := by
 have e2 : (2 : Int) ^ (64 : Int).toNat = 18446744073709551616 := by decide
 have e1 : (2 : Int) ^ (63 : Int).toNat = 9223372036854775808 := by decide
 have e3 : IntKind.u64.wrap a = a % 18446744073709551616 := rfl
 obtain ⟨lo, hi⟩ := ha
 have e4 : a % 18446744073709551616 % 18446744073709551616 - 18446744073709551616 * (a % 18446744073709551616 / 9223372036854775808 % 2) = a := by omega
 rw [e2, e1, W64_eq, e3, e4]
 have hp := two_pow_pos n.toNat
 have q1 : a / 2 ^ n.toNat < 9223372036854775808 := Int.ediv_lt_of_lt_mul hp (by
  have : (9223372036854775808 : Int) * 1 ≤ 9223372036854775808 * 2 ^ n.toNat := Int.mul_le_mul_of_nonneg_left (by omega) (by decide)
  omega)
 have q0 : -9223372036854775808 ≤ a / 2 ^ n.toNat := (Int.le_ediv_iff_mul_le hp).2 (by
  have : (9223372036854775808 : Int) * 1 ≤ 9223372036854775808 * 2 ^ n.toNat := Int.mul_le_mul_of_nonneg_left (by omega) (by decide)
  omega)
 unfold wrap64
 omega
abbrev NameIs (op : Int) (nm : Array UInt8) : Prop := QB.spinnakerref03_Name.f op = some ⟨nm⟩
theorem base_b {s t : Array UInt8} (h : ∀ w, Base s t w) (w : World) : Calls Tryz.prog 60 #[.string ⟨s⟩] w fun e w' => e = .returned (.string ⟨t⟩) ∧ Below w.heap.size w w' :=
 (h w).mono fun e w' ⟨h1, h2⟩ => ⟨h1, h2 ▸ Below.refl _ _⟩
theorem eval_plain (t : Nat) (ht : t ≤ 9) (op : Int) (nm : Array UInt8) (hN : NameIs op nm) (hB : ∀ w, Base nm (nmE t) w) (a b : Int) (ha : Is64 a) (w : World) :
  Calls Tryz.prog 39 #[.int .i64 op, .int .i64 a, .int .i64 b] w fun e w' => e = .returned (.int .i64 (evE t a b)) ∧ Below w.heap.size w w' := by
 have ra := u64_wrap_range a
 have rb := u64_wrap_range b
 obtain ⟨n, hn⟩ : ∃ n, W64 b % 64 = n := ⟨_, rfl⟩
 have hn0 : 0 ≤ n := by rw [← hn]; exact Int.emod_nonneg _ (by decide)
 have hn1 : n ≤ 63 := by omega
 have hwb : wrap64 ((IntKind.u64.wrap b).tmod 64) = n := by rw [Int.tmod_eq_emod_of_nonneg rb.1]; show wrap64 (W64 b % 64) = n; rw [hn]; unfold wrap64; omega
 have hN' := fun w => QB.spinnakerref03_Name.calls op _ w hN
 have hB' := base_b hB
 have h1 := c_one (decide (a < b))
 have h2 := c_one (decide (W64 a < W64 b))
 have hup := c_up a n 64 hn0 hn1 (by decide) (by decide)
 have hdn := fun s hs => c_down a n s 64 hn0 hn1 hs (by decide) (by decide)
 have hbt := c_bit (IntKind.u64.wrap a) 63 ra.1 ra.2 (by decide) (by decide)
 have e2 := sll_eq a n hn0 hn1
 have e3 := srl_eq a n hn0 hn1
 have e4 := sra_eq a n ha hn0 hn1
 have hs := s63 a
 have hd0 := hdn 0 (.inl rfl)
 have hd1 := hdn _ hs
 generalize IntKind.u64.wrap a / 2 ^ (63 : Int).toNat % 2 = s at hbt hd1 e4
 generalize wrap64 (W64 a * 2 ^ n.toNat % 2 ^ (64 : Int).toNat) = V2 at hup e2
 generalize wrap64 ((W64 a % 2 ^ (64 : Int).toNat - 2 ^ (64 : Int).toNat * 0) / 2 ^ n.toNat % 2 ^ (64 : Int).toNat) = V3 at hd0 e3
 generalize wrap64 ((W64 a % 2 ^ (64 : Int).toNat - 2 ^ (64 : Int).toNat * s) / 2 ^ n.toNat % 2 ^ (64 : Int).toNat) = V4 at hd1 e4
 have hR : ∀ c : Bool, ∃ V : Int, (if c = true then (1 : Int) else 0) = V := fun c => ⟨_, rfl⟩
 obtain ⟨V5, e5⟩ := hR (decide (a < b))
 obtain ⟨V6, e6⟩ := hR (decide (W64 a < W64 b))
 rw [e5] at h1
 rw [e6] at h2
 have E2 := Aside0.mk e2
 have E3 := Aside0.mk e3
 have E4 := Aside0.mk e4
 have : t = 0 ∨ t = 1 ∨ t = 2 ∨ t = 3 ∨ t = 4 ∨ t = 5 ∨ t = 6 ∨ t = 7 ∨ t = 8 ∨ t = 9 := by omega
 have HB := Aside0.mk (Below.refl w.heap.size w)
 clear ht ra rb e2 e3 e4 hdn hs hR hN hB ha
 rcases this with rfl | rfl | rfl | rfl | rfl | rfl | rfl | rfl | rfl | rfl
 all_goals
  simp only [nmE] at hB'
  simp only [evE, hn, e5, e6]
  clear hn e5 e6
  go_enter Tryz.func39, Tryz.ntmps39
  go_wp2_with (first | (go_at_call 59; (with_reducible refine (hN' _).mono ?_); rintro e w' ⟨rfl, hd'⟩; replace HB := Aside0.mk (below_then HB.out HB.out.size hd'); clear hd') | (go_at_call 60; (with_reducible refine (hB' _).mono ?_); rintro e w' ⟨rfl, hd'⟩; replace HB := Aside0.mk (below_then HB.out HB.out.size hd'); clear hd') | (go_at_call 61; (with_reducible refine (hup _).mono ?_); rintro e w' ⟨rfl, hd'⟩; replace HB := Aside0.mk (below_then HB.out HB.out.size hd'); clear hd') | (go_at_call 45; (with_reducible refine (hbt _).mono ?_); rintro e w' ⟨rfl, hd'⟩; replace HB := Aside0.mk (below_then HB.out HB.out.size hd'); clear hd') | (go_at_call 61; (with_reducible refine (hd0 _).mono ?_); rintro e w' ⟨rfl, hd'⟩; replace HB := Aside0.mk (below_then HB.out HB.out.size hd'); clear hd') | (go_at_call 61; (with_reducible refine (hd1 _).mono ?_); rintro e w' ⟨rfl, hd'⟩; replace HB := Aside0.mk (below_then HB.out HB.out.size hd'); clear hd') | (go_at_call 62; (with_reducible refine (h1 _).mono ?_); rintro e w' ⟨rfl, hd'⟩; replace HB := Aside0.mk (below_then HB.out HB.out.size hd'); clear hd') | (go_at_call 62; (with_reducible refine (h2 _).mono ?_); rintro e w' ⟨rfl, hd'⟩; replace HB := Aside0.mk (below_then HB.out HB.out.size hd'); clear hd'))
  go_ret
  exact ⟨by first | rfl | exact congrArg (fun v => Ending.returned (.int .i64 v)) E2.out | exact congrArg (fun v => Ending.returned (.int .i64 v)) E3.out | exact congrArg (fun v => Ending.returned (.int .i64 v)) E4.out, HB.out⟩
theorem eval_short (t : Nat) (ht : t ≤ 9) (op : Int) (nm : Array UInt8) (hN : NameIs op nm) (hB : ∀ w, Base nm (nmS t) w) (a b : Int) (w : World) :
  Calls Tryz.prog 39 #[.int .i64 op, .int .i64 a, .int .i64 b] w fun e w' => e = .returned (.int .i64 (evS t a b)) ∧ Below w.heap.size w w' := by
 have hN' := fun w => QB.spinnakerref03_Name.calls op _ w hN
 have hB' := base_b hB
 have hS := shorts_calls t ht a b
 generalize evS t a b = V at hS ⊢
 have : t = 0 ∨ t = 1 ∨ t = 2 ∨ t = 3 ∨ t = 4 ∨ t = 5 ∨ t = 6 ∨ t = 7 ∨ t = 8 ∨ t = 9 := by omega
 have HB := Aside0.mk (Below.refl w.heap.size w)
 clear ht hN hB
 rcases this with rfl | rfl | rfl | rfl | rfl | rfl | rfl | rfl | rfl | rfl
 all_goals
  simp only [nmS] at hB' hS
  go_enter Tryz.func39, Tryz.ntmps39
  go_wp2_with (first | (go_at_call 59; (with_reducible refine (hN' _).mono ?_); rintro e w' ⟨rfl, hd'⟩; replace HB := Aside0.mk (below_then HB.out HB.out.size hd'); clear hd') | (go_at_call 60; (with_reducible refine (hB' _).mono ?_); rintro e w' ⟨rfl, hd'⟩; replace HB := Aside0.mk (below_then HB.out HB.out.size hd'); clear hd') | (go_at_call 63; (with_reducible refine (hS _).mono ?_); rintro e w' ⟨rfl, hd'⟩; replace HB := Aside0.mk (below_then HB.out HB.out.size hd'); clear hd'))
  go_ret
  exact ⟨rfl, HB.out⟩
theorem eval_product (t : Nat) (ht : t ≤ 7) (op : Int) (nm : Array UInt8) (hN : NameIs op nm) (hB : ∀ w, Base nm (nmP t) w) (a b : Int) (ha : Is64 a) (hb : Is64 b) (w : World) :
  Calls Tryz.prog 39 #[.int .i64 op, .int .i64 a, .int .i64 b] w fun e w' => e = .returned (.int .i64 (evP t a b)) ∧ Below w.heap.size w w' := by
 have hN' := fun w => QB.spinnakerref03_Name.calls op _ w hN
 have hB' := base_b hB
 have hS := products_calls t ht a b ha hb
 generalize evP t a b = V at hS ⊢
 have : t = 0 ∨ t = 1 ∨ t = 2 ∨ t = 3 ∨ t = 4 ∨ t = 5 ∨ t = 6 ∨ t = 7 := by omega
 have HB := Aside0.mk (Below.refl w.heap.size w)
 clear ht hN hB ha hb
 rcases this with rfl | rfl | rfl | rfl | rfl | rfl | rfl | rfl
 all_goals
  simp only [nmP] at hB' hS
  go_enter Tryz.func39, Tryz.ntmps39
  go_wp2_with (first | (go_at_call 59; (with_reducible refine (hN' _).mono ?_); rintro e w' ⟨rfl, hd'⟩; replace HB := Aside0.mk (below_then HB.out HB.out.size hd'); clear hd') | (go_at_call 60; (with_reducible refine (hB' _).mono ?_); rintro e w' ⟨rfl, hd'⟩; replace HB := Aside0.mk (below_then HB.out HB.out.size hd'); clear hd') | (go_at_call 64; (with_reducible refine (hS _).mono ?_); rintro e w' ⟨rfl, hd'⟩; replace HB := Aside0.mk (below_then HB.out HB.out.size hd'); clear hd'))
  go_ret
  exact ⟨rfl, HB.out⟩
theorem base_same (s : Array UInt8) (h : s ∈ [#[97, 100, 100], #[115, 117, 98], #[115, 108, 108], #[115, 108, 116], #[115, 108, 116, 117], #[120, 111, 114], #[115, 114, 108], #[115, 114, 97], #[111, 114], #[97, 110, 100], #[97, 100, 100, 119], #[115, 117, 98, 119], #[115, 108, 108, 119], #[115, 114, 108, 119], #[115, 114, 97, 119], #[109, 117, 108], #[109, 117, 108, 104], #[109, 117, 108, 104, 115, 117], #[109, 117, 108, 104, 117], #[100, 105, 118], #[100, 105, 118, 117], #[114, 101, 109], #[114, 101, 109, 117], #[109, 117, 108, 119], #[100, 105, 118, 119], #[100, 105, 118, 117, 119], #[114, 101, 109, 119], #[114, 101, 109, 117, 119]]) (w : World) : Base s s w := by
  simp only [List.mem_cons, List.not_mem_nil, or_false] at h
  unfold Base
  rcases h with rfl | rfl | rfl | rfl | rfl | rfl | rfl | rfl | rfl | rfl | rfl | rfl | rfl | rfl | rfl | rfl | rfl | rfl | rfl | rfl | rfl | rfl | rfl | rfl | rfl | rfl | rfl | rfl
  all_goals
    go_enter Tryz.func60, Tryz.ntmps60
    go_wp2
    go_ret
    exact ⟨rfl, rfl⟩
def opTab : List Nat := [0, 3, 4, 5, 8, 9, 2, 6, 7, 10, 12, 13, 14, 0, 1, 2, 3, 4, 5, 6, 7, 8, 9, 10, 11, 12, 13, 14, 20, 21, 22, 23, 24, 25, 26, 27, 15, 16, 17, 18, 19]
def evT (c : Nat) (a b : Int) : Int := if c < 10 then evE c a b else if c < 20 then evS (c - 10) a b else evP (c - 20) a b
theorem ref07_Eval.calls (op : Int) (h : 22 ≤ op ∧ op ≤ 62) (a b : Int) (ha : Is64 a) (hb : Is64 b) (w : World) :
    Calls Tryz.prog 39 #[.int .i64 op, .int .i64 a, .int .i64 b] w fun e w' => e = .returned (.int .i64 (evT (opTab.getD (op - 22).toNat 0) a b)) ∧ Below w.heap.size w w' := by
  have : op = 22 ∨ op = 23 ∨ op = 24 ∨ op = 25 ∨ op = 26 ∨ op = 27 ∨ op = 28 ∨ op = 29 ∨ op = 30 ∨ op = 31 ∨ op = 32 ∨ op = 33 ∨ op = 34 ∨ op = 35 ∨ op = 36 ∨ op = 37 ∨ op = 38 ∨ op = 39 ∨ op = 40 ∨ op = 41 ∨ op = 42 ∨ op = 43 ∨ op = 44 ∨ op = 45 ∨ op = 46 ∨ op = 47 ∨ op = 48 ∨ op = 49 ∨ op = 50 ∨ op = 51 ∨ op = 52 ∨ op = 53 ∨ op = 54 ∨ op = 55 ∨ op = 56 ∨ op = 57 ∨ op = 58 ∨ op = 59 ∨ op = 60 ∨ op = 61 ∨ op = 62 := by omega
  rcases this with rfl | rfl | rfl | rfl | rfl | rfl | rfl | rfl | rfl | rfl | rfl | rfl | rfl | rfl | rfl | rfl | rfl | rfl | rfl | rfl | rfl | rfl | rfl | rfl | rfl | rfl | rfl | rfl | rfl | rfl | rfl | rfl | rfl | rfl | rfl | rfl | rfl | rfl | rfl | rfl | rfl
  · exact eval_plain 0 (by decide) 22 #[97, 100, 100, 105] (by show _ = _; kernel_rfl) (base_cut #[97, 100, 100, 105] #[97, 100, 100] (by simp)) a b ha w
  · exact eval_plain 3 (by decide) 23 #[115, 108, 116, 105] (by show _ = _; kernel_rfl) (base_cut #[115, 108, 116, 105] #[115, 108, 116] (by simp)) a b ha w
  · exact eval_plain 4 (by decide) 24 #[115, 108, 116, 105, 117] (by show _ = _; kernel_rfl) (base_cut #[115, 108, 116, 105, 117] #[115, 108, 116, 117] (by simp)) a b ha w
  · exact eval_plain 5 (by decide) 25 #[120, 111, 114, 105] (by show _ = _; kernel_rfl) (base_cut #[120, 111, 114, 105] #[120, 111, 114] (by simp)) a b ha w
  · exact eval_plain 8 (by decide) 26 #[111, 114, 105] (by show _ = _; kernel_rfl) (base_cut #[111, 114, 105] #[111, 114] (by simp)) a b ha w
  · exact eval_plain 9 (by decide) 27 #[97, 110, 100, 105] (by show _ = _; kernel_rfl) (base_cut #[97, 110, 100, 105] #[97, 110, 100] (by simp)) a b ha w
  · exact eval_plain 2 (by decide) 28 #[115, 108, 108, 105] (by show _ = _; kernel_rfl) (base_cut #[115, 108, 108, 105] #[115, 108, 108] (by simp)) a b ha w
  · exact eval_plain 6 (by decide) 29 #[115, 114, 108, 105] (by show _ = _; kernel_rfl) (base_cut #[115, 114, 108, 105] #[115, 114, 108] (by simp)) a b ha w
  · exact eval_plain 7 (by decide) 30 #[115, 114, 97, 105] (by show _ = _; kernel_rfl) (base_cut #[115, 114, 97, 105] #[115, 114, 97] (by simp)) a b ha w
  · exact eval_short 0 (by decide) 31 #[97, 100, 100, 105, 119] (by show _ = _; kernel_rfl) (base_cut #[97, 100, 100, 105, 119] #[97, 100, 100, 119] (by simp)) a b w
  · exact eval_short 2 (by decide) 32 #[115, 108, 108, 105, 119] (by show _ = _; kernel_rfl) (base_cut #[115, 108, 108, 105, 119] #[115, 108, 108, 119] (by simp)) a b w
  · exact eval_short 3 (by decide) 33 #[115, 114, 108, 105, 119] (by show _ = _; kernel_rfl) (base_cut #[115, 114, 108, 105, 119] #[115, 114, 108, 119] (by simp)) a b w
  · exact eval_short 4 (by decide) 34 #[115, 114, 97, 105, 119] (by show _ = _; kernel_rfl) (base_cut #[115, 114, 97, 105, 119] #[115, 114, 97, 119] (by simp)) a b w
  · exact eval_plain 0 (by decide) 35 #[97, 100, 100] (by show _ = _; kernel_rfl) (base_same #[97, 100, 100] (by simp)) a b ha w
  · exact eval_plain 1 (by decide) 36 #[115, 117, 98] (by show _ = _; kernel_rfl) (base_same #[115, 117, 98] (by simp)) a b ha w
  · exact eval_plain 2 (by decide) 37 #[115, 108, 108] (by show _ = _; kernel_rfl) (base_same #[115, 108, 108] (by simp)) a b ha w
  · exact eval_plain 3 (by decide) 38 #[115, 108, 116] (by show _ = _; kernel_rfl) (base_same #[115, 108, 116] (by simp)) a b ha w
  · exact eval_plain 4 (by decide) 39 #[115, 108, 116, 117] (by show _ = _; kernel_rfl) (base_same #[115, 108, 116, 117] (by simp)) a b ha w
  · exact eval_plain 5 (by decide) 40 #[120, 111, 114] (by show _ = _; kernel_rfl) (base_same #[120, 111, 114] (by simp)) a b ha w
  · exact eval_plain 6 (by decide) 41 #[115, 114, 108] (by show _ = _; kernel_rfl) (base_same #[115, 114, 108] (by simp)) a b ha w
  · exact eval_plain 7 (by decide) 42 #[115, 114, 97] (by show _ = _; kernel_rfl) (base_same #[115, 114, 97] (by simp)) a b ha w
  · exact eval_plain 8 (by decide) 43 #[111, 114] (by show _ = _; kernel_rfl) (base_same #[111, 114] (by simp)) a b ha w
  · exact eval_plain 9 (by decide) 44 #[97, 110, 100] (by show _ = _; kernel_rfl) (base_same #[97, 110, 100] (by simp)) a b ha w
  · exact eval_short 0 (by decide) 45 #[97, 100, 100, 119] (by show _ = _; kernel_rfl) (base_same #[97, 100, 100, 119] (by simp)) a b w
  · exact eval_short 1 (by decide) 46 #[115, 117, 98, 119] (by show _ = _; kernel_rfl) (base_same #[115, 117, 98, 119] (by simp)) a b w
  · exact eval_short 2 (by decide) 47 #[115, 108, 108, 119] (by show _ = _; kernel_rfl) (base_same #[115, 108, 108, 119] (by simp)) a b w
  · exact eval_short 3 (by decide) 48 #[115, 114, 108, 119] (by show _ = _; kernel_rfl) (base_same #[115, 114, 108, 119] (by simp)) a b w
  · exact eval_short 4 (by decide) 49 #[115, 114, 97, 119] (by show _ = _; kernel_rfl) (base_same #[115, 114, 97, 119] (by simp)) a b w
  · exact eval_product 0 (by decide) 50 #[109, 117, 108] (by show _ = _; kernel_rfl) (base_same #[109, 117, 108] (by simp)) a b ha hb w
  · exact eval_product 1 (by decide) 51 #[109, 117, 108, 104] (by show _ = _; kernel_rfl) (base_same #[109, 117, 108, 104] (by simp)) a b ha hb w
  · exact eval_product 2 (by decide) 52 #[109, 117, 108, 104, 115, 117] (by show _ = _; kernel_rfl) (base_same #[109, 117, 108, 104, 115, 117] (by simp)) a b ha hb w
  · exact eval_product 3 (by decide) 53 #[109, 117, 108, 104, 117] (by show _ = _; kernel_rfl) (base_same #[109, 117, 108, 104, 117] (by simp)) a b ha hb w
  · exact eval_product 4 (by decide) 54 #[100, 105, 118] (by show _ = _; kernel_rfl) (base_same #[100, 105, 118] (by simp)) a b ha hb w
  · exact eval_product 5 (by decide) 55 #[100, 105, 118, 117] (by show _ = _; kernel_rfl) (base_same #[100, 105, 118, 117] (by simp)) a b ha hb w
  · exact eval_product 6 (by decide) 56 #[114, 101, 109] (by show _ = _; kernel_rfl) (base_same #[114, 101, 109] (by simp)) a b ha hb w
  · exact eval_product 7 (by decide) 57 #[114, 101, 109, 117] (by show _ = _; kernel_rfl) (base_same #[114, 101, 109, 117] (by simp)) a b ha hb w
  · exact eval_short 5 (by decide) 58 #[109, 117, 108, 119] (by show _ = _; kernel_rfl) (base_same #[109, 117, 108, 119] (by simp)) a b w
  · exact eval_short 6 (by decide) 59 #[100, 105, 118, 119] (by show _ = _; kernel_rfl) (base_same #[100, 105, 118, 119] (by simp)) a b w
  · exact eval_short 7 (by decide) 60 #[100, 105, 118, 117, 119] (by show _ = _; kernel_rfl) (base_same #[100, 105, 118, 117, 119] (by simp)) a b w
  · exact eval_short 8 (by decide) 61 #[114, 101, 109, 119] (by show _ = _; kernel_rfl) (base_same #[114, 101, 109, 119] (by simp)) a b w
  · exact eval_short 9 (by decide) 62 #[114, 101, 109, 117, 119] (by show _ = _; kernel_rfl) (base_same #[114, 101, 109, 117, 119] (by simp)) a b w
end Go.Proofs.YtfcniikbcjmlcaaGreatDoor
end
section
namespace Go.Proofs.YtfcniikbcjmlcaaGreatDoor
open Go.RowKit Go.Proofs.YtfcniikbcjmlcaaGreatDoorW.PrintWords Go.Proofs.YtfcniikbcjmlcaaGreatDoorW.PrintLast Go.Proofs.YtfcniikbcjmlcaaGreatDoorW.PrintMore
set_option linter.unusedVariables false
set_option linter.unusedSimpArgs false
theorem and_mask (x : Int) (m : Nat) (M : Int) (hM : M = 2 ^ m - 1) (hm : m ≤ 63) (h0 : 0 ≤ x) (h1 : x < 18446744073709551616) : bits .and .u64 x M = x % 2 ^ m := by
  have hp : (2 : Nat) ^ m ≤ 2 ^ 63 := Nat.pow_le_pow_right (by decide) hm
  have hp0 : 0 < (2 : Nat) ^ m := Nat.pow_pos (by decide)
  have hc : (2 : Int) ^ m = ((2 ^ m : Nat) : Int) := by simp
  rw [u64_and x M h0 h1 (by rw [hM, hc]; omega) (by rw [hM, hc]; omega)]
  have e : M.toNat = 2 ^ m - 1 := by rw [hM, hc]; omega
  rw [e, Nat.and_two_pow_sub_one_eq_mod, hc, Int.natCast_emod, Int.toNat_of_nonneg h0]
theorem and32 (x : Int) (h0 : 0 ≤ x) (h1 : x < 18446744073709551616) : bits .and .u64 x 4294967295 = x % 4294967296 := and_mask x 32 _ (by decide) (by decide) h0 h1
theorem and63 (x : Int) (h0 : 0 ≤ x) (h1 : x < 18446744073709551616) : bits .and .u64 x 63 = x % 64 := and_mask x 6 _ (by decide) (by decide) h0 h1
theorem prod32_le (a b : Int) (h0 : 0 ≤ a) (h1 : a ≤ 4294967295) (h2 : 0 ≤ b) (h3 : b ≤ 4294967295) : 0 ≤ a * b ∧ a * b ≤ 18446744065119617025 := by
  refine ⟨Int.mul_nonneg h0 h2, ?_⟩
  have : a * b ≤ 4294967295 * 4294967295 := Int.mul_le_mul h1 h3 h2 (by decide)
  omega
theorem mul64_f (x y : Int) (hx : 0 ≤ x ∧ x < 18446744073709551616) (hy : 0 ≤ y ∧ y < 18446744073709551616) : ∃ lo, QB.bits_Mul64.f x y = some (x * y / 18446744073709551616, lo) := by
  have e : ∀ z, IntKind.u64.wrap z = z % 18446744073709551616 := fun _ => rfl
  obtain ⟨x0, hx0⟩ : ∃ v, x % 4294967296 = v := ⟨_, rfl⟩
  obtain ⟨x1, hx1⟩ : ∃ v, x / 4294967296 = v := ⟨_, rfl⟩
  obtain ⟨y0, hy0⟩ : ∃ v, y % 4294967296 = v := ⟨_, rfl⟩
  obtain ⟨y1, hy1⟩ : ∃ v, y / 4294967296 = v := ⟨_, rfl⟩
  have b0 := prod32_le x0 y0 (by omega) (by omega) (by omega) (by omega)
  have b1 := prod32_le x1 y0 (by omega) (by omega) (by omega) (by omega)
  have b2 := prod32_le x0 y1 (by omega) (by omega) (by omega) (by omega)
  have b3 := prod32_le x1 y1 (by omega) (by omega) (by omega) (by omega)
  have hp : x * y = x1 * y1 * 18446744073709551616 + (x1 * y0 + x0 * y1) * 4294967296 + x0 * y0 := by
    have e1 : x = x1 * 4294967296 + x0 := by omega
    have e2 : y = y1 * 4294967296 + y0 := by omega
    rw [e1, e2]
    clear hx0 hx1 hy0 hy1 b0 b1 b2 b3 hx hy e e1 e2
    grind
  unfold QB.bits_Mul64.f
  rw [and32 x hx.1 hx.2, and32 y hy.1 hy.2, hx0, hx1, hy0, hy1, hp]
  generalize x0 * y0 = p0 at *
  generalize x1 * y0 = p1 at *
  generalize x0 * y1 = p2 at *
  generalize x1 * y1 = p3 at *
  clear hx0 hx1 hy0 hy1 hp
  have w0 : IntKind.u64.wrap p0 = p0 := by rw [e]; omega
  have w1 : IntKind.u64.wrap p1 = p1 := by rw [e]; omega
  have w2 : IntKind.u64.wrap p2 = p2 := by rw [e]; omega
  have w3 : IntKind.u64.wrap p3 = p3 := by rw [e]; omega
  rw [w0, w1, w2, w3]
  have t1 : IntKind.u64.wrap (p1 + p0 / 4294967296) = p1 + p0 / 4294967296 := by rw [e]; omega
  rw [t1, and32 _ (by omega) (by omega)]
  refine ⟨_, congrArg (fun v => some (v, IntKind.u64.wrap _)) ?_⟩
  rw [e, e, e]
  omega
theorem high_f (k : Nat) (a b : Int) (ha : Is64 a) (hb : Is64 b) (sa sb : Bool) :
    QB.alu_high.f (k + 1) a b sa sb = some (hiF (if sa = true then a else W64 a) (if sb = true then b else W64 b)) := by
  obtain ⟨lo, hm⟩ := mul64_f (W64 a) (W64 b) (W64_range a) (W64_range b)
  unfold QB.alu_high.f
  rw [show QB.bits_Mul64.f (IntKind.u64.wrap a) (IntKind.u64.wrap b) = _ from hm]
  have e1 : W64 a = if a < 0 then a + 18446744073709551616 else a := by rw [W64_eq]; obtain ⟨h1, h2⟩ := ha; split <;> omega
  have e2 : W64 b = if b < 0 then b + 18446744073709551616 else b := by rw [W64_eq]; obtain ⟨h1, h2⟩ := hb; split <;> omega
  have g1 : ∀ x y : Int, (x + 18446744073709551616) * y = x * y + 18446744073709551616 * y := fun x y => by grind
  have g2 : ∀ x y : Int, x * (y + 18446744073709551616) = x * y + 18446744073709551616 * x := fun x y => by grind
  unfold hiF
  simp only [Option.bind_some]
  rw [QB.alu_high.j0, QB.alu_high.j0]
  rw [e1, e2]
  by_cases ca : a < 0 <;> by_cases cb : b < 0 <;> cases sa <;> cases sb <;> simp only [ca, cb, if_true, if_false, decide_true, decide_false, Bool.false_eq_true, Option.some.injEq, g1, g2] <;> (try generalize a * b = p) <;> (unfold wrap64; omega)
theorem quotient_f (a b : Int) : QB.alu_quotient.f a b = some (divQ a b, divR a b) := by
  unfold QB.alu_quotient.f divQ divR
  by_cases h : b = 0
  · simp [h]
  · by_cases h1 : b = -1
    · subst h1
      simp
    · simp [h, h1]
theorem quotientU_f (a b : Int) : QB.alu_quotientU.f a b = some (duQ a b, duR a b) := by
  unfold QB.alu_quotientU.f duQ duR
  by_cases h : b = 0 <;> simp [h]
end Go.Proofs.YtfcniikbcjmlcaaGreatDoor
end
section
namespace Go.Proofs.YtfcniikbcjmlcaaGreatDoor
open Go.RowKit Go.Proofs.YtfcniikbcjmlcaaGreatDoorW.PrintWords Go.Proofs.YtfcniikbcjmlcaaGreatDoorW.PrintLast Go.Proofs.YtfcniikbcjmlcaaGreatDoorW.PrintMore
set_option linter.unusedVariables false
set_option linter.unusedSimpArgs false
set_option maxRecDepth 100000
theorem flag_some (p : Bool) : ((QB.alu_flag.f p).bind fun t => some t) = some (if p = true then 1 else 0) := by cases p <;> rfl
theorem n_of (b : Int) : bits .and .u64 (W64 b) 63 = W64 b % 64 := and63 _ (W64_range b).1 (W64_range b).2
theorem n_min (b : Int) : min (W64 b % 64).toNat 64 = (W64 b % 64).toNat := by have := W64_range b; omega
theorem n_pos (b : Int) : 0 ≤ W64 b % 64 := by omega
theorem sh_up (a b : Int) : (if 0 ≤ bits .and .u64 (W64 b) 63 then some (shl .i64 a (bits .and .u64 (W64 b) 63)) else none) = some (evE 2 a b) := by
  rw [n_of, if_pos (n_pos b)]
  show some (IntKind.i64.wrap (a * 2 ^ min (W64 b % 64).toNat 64)) = _
  rw [n_min, IntKind.wrap_i64]
  show _ = some (wrap64 (a * 2 ^ (W64 b % 64).toNat))
  unfold wrap64
  rfl
theorem sh_down (a b : Int) : (if 0 ≤ bits .and .u64 (W64 b) 63 then some (wrap64 (shr .u64 (W64 a) (bits .and .u64 (W64 b) 63))) else none) = some (evE 6 a b) := by
  rw [n_of, if_pos (n_pos b)]
  show some (wrap64 (W64 a / 2 ^ min (W64 b % 64).toNat 64)) = _
  rw [n_min]; rfl
theorem sh_sign (a b : Int) : (if 0 ≤ bits .and .u64 (W64 b) 63 then some (shr .i64 a (bits .and .u64 (W64 b) 63)) else none) = some (evE 7 a b) := by
  rw [n_of, if_pos (n_pos b)]
  show some (a / 2 ^ min (W64 b % 64).toNat 64) = _
  rw [n_min]; rfl
theorem times_f (op a b : Int) (ha : Is64 a) (hb : Is64 b) : QB.alu_times.f 16 op a b = (if op = 50 then some (wrap64 (a * b)) else if op = 51 then some (hiF a b) else if op = 52 then some (hiF a (W64 b)) else if op = 53 then some (hiF (W64 a) (W64 b)) else if op = 54 then some (divQ a b) else if op = 55 then some (duQ (W64 a) (W64 b)) else if op = 56 then some (divR a b) else some (duR (W64 a) (W64 b))) := by
  unfold QB.alu_times.f
  rw [quotient_f, quotientU_f, high_f 15 a b ha hb true true, high_f 15 a b ha hb true false, high_f 15 a b ha hb false false]
  rfl
theorem half_w (x : Int) : QB.alu_half.f x = some (wrap32 x) := by unfold QB.alu_half.f; rw [wrap64_wrap32]
theorem shortTimes_f (op a b : Int) : QB.alu_shortTimes.f op a b = (if op = 58 then some (wrap32 (wrap64 (a * b))) else if op = 59 then some (wrap32 (divQ (wrap32 a) (wrap32 b))) else if op = 60 then some (wrap32 (duQ (a % 4294967296) (b % 4294967296))) else if op = 61 then some (wrap32 (divR (wrap32 a) (wrap32 b))) else some (wrap32 (duR (a % 4294967296) (b % 4294967296)))) := by
  unfold QB.alu_shortTimes.f
  simp only [half_w, quotient_f, quotientU_f, Option.bind_some]
theorem alu_eval (op : Int) (h : 22 ≤ op ∧ op ≤ 62) (a b : Int) (ha : Is64 a) (hb : Is64 b) : QB.alu_Eval.f 20 op a b = some (evT (opTab.getD (op - 22).toNat 0) a b, true) := by
  have : op = 22 ∨ op = 23 ∨ op = 24 ∨ op = 25 ∨ op = 26 ∨ op = 27 ∨ op = 28 ∨ op = 29 ∨ op = 30 ∨ op = 31 ∨ op = 32 ∨ op = 33 ∨ op = 34 ∨ op = 35 ∨ op = 36 ∨ op = 37 ∨ op = 38 ∨ op = 39 ∨ op = 40 ∨ op = 41 ∨ op = 42 ∨ op = 43 ∨ op = 44 ∨ op = 45 ∨ op = 46 ∨ op = 47 ∨ op = 48 ∨ op = 49 ∨ op = 50 ∨ op = 51 ∨ op = 52 ∨ op = 53 ∨ op = 54 ∨ op = 55 ∨ op = 56 ∨ op = 57 ∨ op = 58 ∨ op = 59 ∨ op = 60 ∨ op = 61 ∨ op = 62 := by omega
  rcases this with rfl | rfl | rfl | rfl | rfl | rfl | rfl | rfl | rfl | rfl | rfl | rfl | rfl | rfl | rfl | rfl | rfl | rfl | rfl | rfl | rfl | rfl | rfl | rfl | rfl | rfl | rfl | rfl | rfl | rfl | rfl | rfl | rfl | rfl | rfl | rfl | rfl | rfl | rfl | rfl | rfl
  · rfl
  · exact congrArg (fun o : Option Int => o.bind fun t => some (t, true)) (flag_some (decide (a < b)))
  · exact congrArg (fun o : Option Int => o.bind fun t => some (t, true)) (flag_some (decide (W64 a < W64 b)))
  · rfl
  · rfl
  · rfl
  · exact congrArg (fun o : Option Int => o.bind fun t => some (t, true)) (sh_up a b)
  · exact congrArg (fun o : Option Int => o.bind fun t => some (t, true)) (sh_down a b)
  · exact congrArg (fun o : Option Int => o.bind fun t => some (t, true)) (sh_sign a b)
  · rfl
  · rfl
  · rfl
  · rfl
  · rfl
  · rfl
  · exact congrArg (fun o : Option Int => o.bind fun t => some (t, true)) (sh_up a b)
  · exact congrArg (fun o : Option Int => o.bind fun t => some (t, true)) (flag_some (decide (a < b)))
  · exact congrArg (fun o : Option Int => o.bind fun t => some (t, true)) (flag_some (decide (W64 a < W64 b)))
  · rfl
  · exact congrArg (fun o : Option Int => o.bind fun t => some (t, true)) (sh_down a b)
  · exact congrArg (fun o : Option Int => o.bind fun t => some (t, true)) (sh_sign a b)
  · rfl
  · rfl
  · rfl
  · rfl
  · rfl
  · rfl
  · rfl
  · exact congrArg (fun o : Option Int => o.bind fun t => some (t, true)) (times_f 50 a b ha hb)
  · exact congrArg (fun o : Option Int => o.bind fun t => some (t, true)) (times_f 51 a b ha hb)
  · exact congrArg (fun o : Option Int => o.bind fun t => some (t, true)) (times_f 52 a b ha hb)
  · exact congrArg (fun o : Option Int => o.bind fun t => some (t, true)) (times_f 53 a b ha hb)
  · exact congrArg (fun o : Option Int => o.bind fun t => some (t, true)) (times_f 54 a b ha hb)
  · exact congrArg (fun o : Option Int => o.bind fun t => some (t, true)) (times_f 55 a b ha hb)
  · exact congrArg (fun o : Option Int => o.bind fun t => some (t, true)) (times_f 56 a b ha hb)
  · exact congrArg (fun o : Option Int => o.bind fun t => some (t, true)) (times_f 57 a b ha hb)
  · exact congrArg (fun o : Option Int => o.bind fun t => some (t, true)) (shortTimes_f 58 a b)
  · exact congrArg (fun o : Option Int => o.bind fun t => some (t, true)) (shortTimes_f 59 a b)
  · exact congrArg (fun o : Option Int => o.bind fun t => some (t, true)) (shortTimes_f 60 a b)
  · exact congrArg (fun o : Option Int => o.bind fun t => some (t, true)) (shortTimes_f 61 a b)
  · exact congrArg (fun o : Option Int => o.bind fun t => some (t, true)) (shortTimes_f 62 a b)
end Go.Proofs.YtfcniikbcjmlcaaGreatDoor
end
