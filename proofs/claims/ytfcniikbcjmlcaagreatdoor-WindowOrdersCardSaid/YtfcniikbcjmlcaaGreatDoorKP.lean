/- Part KP of the proof of spinnakerlaw19.WindowOrders: for every input the law returns true. -/
import Derived.BigQuiet
import Derived.Deep.QuietTactic
import Derived.Outline
import Derived.Test.YtfcniikbcjmlcaaGreatDoorPB
section
namespace Go.Proofs.YtfcniikbcjmlcaaGreatDoor
open Go.RowKit Go.Proofs.YtfcniikbcjmlcaaGreatDoorW.PrintWords Go.Proofs.YtfcniikbcjmlcaaGreatDoorW.PrintLast Go.Proofs.YtfcniikbcjmlcaaGreatDoorW.PrintMore
set_option linter.unusedVariables false
set_option linter.unusedSimpArgs false
def M64 : Int := 18446744073709551616
def ref07_Mul.f (a b : Int) : Option (Int × Int) := if 0 ≤ a ∧ a < M64 ∧ 0 ≤ b ∧ b < M64 then some ((a * b) % M64, (a * b) / M64) else none
abbrev u (n : Int) : Value := .int .u64 n
structure MulW (w wr : World) (x y s : Array Value) : Prop where
  hd : wr.heap[w.heap.size]? = some (.cells #[u 0, u 0, u 0, u 0] 128 (0, 0))
  hx : wr.heap[w.heap.size + 1]? = some (.cells x 128 (0, 0))
  hy : wr.heap[w.heap.size + 1 + 1]? = some (.cells y 128 (0, 0))
  hs : wr.heap[w.heap.size + 1 + 1 + 1]? = some (.cells s 129 (0, 0))
  hb : Below w.heap.size w wr
  hz : wr.heap.size = w.heap.size + 1 + 1 + 1 + 1
theorem MulW.drewN {w wr : World} {x y s : Array Value} (h : MulW w wr x y s) (n : Nat) : MulW w (wr.drewN n) x y s := ⟨h.hd, h.hx, h.hy, h.hs, pw_below_drewN h.hb n, h.hz⟩
theorem MulW.setS {w wr : World} {x y s : Array Value} (h : MulW w wr x y s) (j : Nat) (v : Value) : MulW w (wr.setCell ⟨w.heap.size + 1 + 1 + 1, j, none⟩ v) x y (s.setIfInBounds j v) :=
  ⟨by rw [heap_setCell_other _ _ _ _ (by dsimp only; omega)]; exact h.hd, by rw [heap_setCell_other _ _ _ _ (by dsimp only; omega)]; exact h.hx, by rw [heap_setCell_other _ _ _ _ (by dsimp only; omega)]; exact h.hy,
   heap_setCell_same _ _ _ _ _ _ h.hs, h.hb.setCell (by dsimp only; omega) _, by rw [World.size_setCell]; exact h.hz⟩
def mulC : List Int := [1, 65536, 4294967296, 281474976710656, 65536, 4294967296, 281474976710656, 18446744073709551616, 4294967296, 281474976710656, 18446744073709551616, 1208925819614629174706176, 281474976710656, 18446744073709551616, 1208925819614629174706176, 79228162514264337593543950336]
def mulT (Q : List Int) : Nat → Int
  | 0 => 0
  | n + 1 => mulT Q n + Q.getD n 0 * mulC.getD n 0
structure Sums (Q : List Int) (n : Nat) (s0 s1 s2 s3 s4 s5 s6 s7 : Int) : Prop where
  lo : 0 ≤ s0 ∧ 0 ≤ s1 ∧ 0 ≤ s2 ∧ 0 ≤ s3 ∧ 0 ≤ s4 ∧ 0 ≤ s5 ∧ 0 ≤ s6 ∧ 0 ≤ s7
  hi : s0 ≤ 131072 * n ∧ s1 ≤ 131072 * n ∧ s2 ≤ 131072 * n ∧ s3 ≤ 131072 * n ∧ s4 ≤ 131072 * n ∧ s5 ≤ 131072 * n ∧ s6 ≤ 131072 * n ∧ s7 ≤ 131072 * n
  sum : s0 + 65536 * s1 + 4294967296 * s2 + 281474976710656 * s3 + 18446744073709551616 * s4 + 1208925819614629174706176 * s5 + 79228162514264337593543950336 * s6 + 5192296858534827628530496329220096 * s7 = mulT Q n
theorem Sums.step0 {Q : List Int} {s0 s1 s2 s3 s4 s5 s6 s7 q : Int} (h : Sums Q 0 s0 s1 s2 s3 s4 s5 s6 s7) (hq : q = Q.getD 0 0) (h0 : 0 ≤ q) (h1 : q ≤ 4294836225) : Sums Q 1 (s0 + q % 65536) (s1 + q / 65536) s2 s3 s4 s5 s6 s7 := by
  obtain ⟨lo, hi, sum⟩ := h
  refine ⟨by omega, by omega, ?_⟩
  have e : mulT Q 1 = mulT Q 0 + q * 1 := by rw [hq]; rfl
  rw [e, ← sum]
  omega
theorem Sums.step1 {Q : List Int} {s0 s1 s2 s3 s4 s5 s6 s7 q : Int} (h : Sums Q 1 s0 s1 s2 s3 s4 s5 s6 s7) (hq : q = Q.getD 1 0) (h0 : 0 ≤ q) (h1 : q ≤ 4294836225) : Sums Q 2 s0 (s1 + q % 65536) (s2 + q / 65536) s3 s4 s5 s6 s7 := by
  obtain ⟨lo, hi, sum⟩ := h
  refine ⟨by omega, by omega, ?_⟩
  have e : mulT Q 2 = mulT Q 1 + q * 65536 := by rw [hq]; rfl
  rw [e, ← sum]
  omega
theorem Sums.step2 {Q : List Int} {s0 s1 s2 s3 s4 s5 s6 s7 q : Int} (h : Sums Q 2 s0 s1 s2 s3 s4 s5 s6 s7) (hq : q = Q.getD 2 0) (h0 : 0 ≤ q) (h1 : q ≤ 4294836225) : Sums Q 3 s0 s1 (s2 + q % 65536) (s3 + q / 65536) s4 s5 s6 s7 := by
  obtain ⟨lo, hi, sum⟩ := h
  refine ⟨by omega, by omega, ?_⟩
  have e : mulT Q 3 = mulT Q 2 + q * 4294967296 := by rw [hq]; rfl
  rw [e, ← sum]
  omega
theorem Sums.step3 {Q : List Int} {s0 s1 s2 s3 s4 s5 s6 s7 q : Int} (h : Sums Q 3 s0 s1 s2 s3 s4 s5 s6 s7) (hq : q = Q.getD 3 0) (h0 : 0 ≤ q) (h1 : q ≤ 4294836225) : Sums Q 4 s0 s1 s2 (s3 + q % 65536) (s4 + q / 65536) s5 s6 s7 := by
  obtain ⟨lo, hi, sum⟩ := h
  refine ⟨by omega, by omega, ?_⟩
  have e : mulT Q 4 = mulT Q 3 + q * 281474976710656 := by rw [hq]; rfl
  rw [e, ← sum]
  omega
theorem Sums.step4 {Q : List Int} {s0 s1 s2 s3 s4 s5 s6 s7 q : Int} (h : Sums Q 4 s0 s1 s2 s3 s4 s5 s6 s7) (hq : q = Q.getD 4 0) (h0 : 0 ≤ q) (h1 : q ≤ 4294836225) : Sums Q 5 s0 (s1 + q % 65536) (s2 + q / 65536) s3 s4 s5 s6 s7 := by
  obtain ⟨lo, hi, sum⟩ := h
  refine ⟨by omega, by omega, ?_⟩
  have e : mulT Q 5 = mulT Q 4 + q * 65536 := by rw [hq]; rfl
  rw [e, ← sum]
  omega
theorem Sums.step5 {Q : List Int} {s0 s1 s2 s3 s4 s5 s6 s7 q : Int} (h : Sums Q 5 s0 s1 s2 s3 s4 s5 s6 s7) (hq : q = Q.getD 5 0) (h0 : 0 ≤ q) (h1 : q ≤ 4294836225) : Sums Q 6 s0 s1 (s2 + q % 65536) (s3 + q / 65536) s4 s5 s6 s7 := by
  obtain ⟨lo, hi, sum⟩ := h
  refine ⟨by omega, by omega, ?_⟩
  have e : mulT Q 6 = mulT Q 5 + q * 4294967296 := by rw [hq]; rfl
  rw [e, ← sum]
  omega
theorem Sums.step6 {Q : List Int} {s0 s1 s2 s3 s4 s5 s6 s7 q : Int} (h : Sums Q 6 s0 s1 s2 s3 s4 s5 s6 s7) (hq : q = Q.getD 6 0) (h0 : 0 ≤ q) (h1 : q ≤ 4294836225) : Sums Q 7 s0 s1 s2 (s3 + q % 65536) (s4 + q / 65536) s5 s6 s7 := by
  obtain ⟨lo, hi, sum⟩ := h
  refine ⟨by omega, by omega, ?_⟩
  have e : mulT Q 7 = mulT Q 6 + q * 281474976710656 := by rw [hq]; rfl
  rw [e, ← sum]
  omega
theorem Sums.step7 {Q : List Int} {s0 s1 s2 s3 s4 s5 s6 s7 q : Int} (h : Sums Q 7 s0 s1 s2 s3 s4 s5 s6 s7) (hq : q = Q.getD 7 0) (h0 : 0 ≤ q) (h1 : q ≤ 4294836225) : Sums Q 8 s0 s1 s2 s3 (s4 + q % 65536) (s5 + q / 65536) s6 s7 := by
  obtain ⟨lo, hi, sum⟩ := h
  refine ⟨by omega, by omega, ?_⟩
  have e : mulT Q 8 = mulT Q 7 + q * 18446744073709551616 := by rw [hq]; rfl
  rw [e, ← sum]
  omega
theorem Sums.step8 {Q : List Int} {s0 s1 s2 s3 s4 s5 s6 s7 q : Int} (h : Sums Q 8 s0 s1 s2 s3 s4 s5 s6 s7) (hq : q = Q.getD 8 0) (h0 : 0 ≤ q) (h1 : q ≤ 4294836225) : Sums Q 9 s0 s1 (s2 + q % 65536) (s3 + q / 65536) s4 s5 s6 s7 := by
  obtain ⟨lo, hi, sum⟩ := h
  refine ⟨by omega, by omega, ?_⟩
  have e : mulT Q 9 = mulT Q 8 + q * 4294967296 := by rw [hq]; rfl
  rw [e, ← sum]
  omega
theorem Sums.step9 {Q : List Int} {s0 s1 s2 s3 s4 s5 s6 s7 q : Int} (h : Sums Q 9 s0 s1 s2 s3 s4 s5 s6 s7) (hq : q = Q.getD 9 0) (h0 : 0 ≤ q) (h1 : q ≤ 4294836225) : Sums Q 10 s0 s1 s2 (s3 + q % 65536) (s4 + q / 65536) s5 s6 s7 := by
  obtain ⟨lo, hi, sum⟩ := h
  refine ⟨by omega, by omega, ?_⟩
  have e : mulT Q 10 = mulT Q 9 + q * 281474976710656 := by rw [hq]; rfl
  rw [e, ← sum]
  omega
theorem Sums.step10 {Q : List Int} {s0 s1 s2 s3 s4 s5 s6 s7 q : Int} (h : Sums Q 10 s0 s1 s2 s3 s4 s5 s6 s7) (hq : q = Q.getD 10 0) (h0 : 0 ≤ q) (h1 : q ≤ 4294836225) : Sums Q 11 s0 s1 s2 s3 (s4 + q % 65536) (s5 + q / 65536) s6 s7 := by
  obtain ⟨lo, hi, sum⟩ := h
  refine ⟨by omega, by omega, ?_⟩
  have e : mulT Q 11 = mulT Q 10 + q * 18446744073709551616 := by rw [hq]; rfl
  rw [e, ← sum]
  omega
theorem Sums.step11 {Q : List Int} {s0 s1 s2 s3 s4 s5 s6 s7 q : Int} (h : Sums Q 11 s0 s1 s2 s3 s4 s5 s6 s7) (hq : q = Q.getD 11 0) (h0 : 0 ≤ q) (h1 : q ≤ 4294836225) : Sums Q 12 s0 s1 s2 s3 s4 (s5 + q % 65536) (s6 + q / 65536) s7 := by
  obtain ⟨lo, hi, sum⟩ := h
  refine ⟨by omega, by omega, ?_⟩
  have e : mulT Q 12 = mulT Q 11 + q * 1208925819614629174706176 := by rw [hq]; rfl
  rw [e, ← sum]
  omega
theorem Sums.step12 {Q : List Int} {s0 s1 s2 s3 s4 s5 s6 s7 q : Int} (h : Sums Q 12 s0 s1 s2 s3 s4 s5 s6 s7) (hq : q = Q.getD 12 0) (h0 : 0 ≤ q) (h1 : q ≤ 4294836225) : Sums Q 13 s0 s1 s2 (s3 + q % 65536) (s4 + q / 65536) s5 s6 s7 := by
  obtain ⟨lo, hi, sum⟩ := h
  refine ⟨by omega, by omega, ?_⟩
  have e : mulT Q 13 = mulT Q 12 + q * 281474976710656 := by rw [hq]; rfl
  rw [e, ← sum]
  omega
theorem Sums.step13 {Q : List Int} {s0 s1 s2 s3 s4 s5 s6 s7 q : Int} (h : Sums Q 13 s0 s1 s2 s3 s4 s5 s6 s7) (hq : q = Q.getD 13 0) (h0 : 0 ≤ q) (h1 : q ≤ 4294836225) : Sums Q 14 s0 s1 s2 s3 (s4 + q % 65536) (s5 + q / 65536) s6 s7 := by
  obtain ⟨lo, hi, sum⟩ := h
  refine ⟨by omega, by omega, ?_⟩
  have e : mulT Q 14 = mulT Q 13 + q * 18446744073709551616 := by rw [hq]; rfl
  rw [e, ← sum]
  omega
theorem Sums.step14 {Q : List Int} {s0 s1 s2 s3 s4 s5 s6 s7 q : Int} (h : Sums Q 14 s0 s1 s2 s3 s4 s5 s6 s7) (hq : q = Q.getD 14 0) (h0 : 0 ≤ q) (h1 : q ≤ 4294836225) : Sums Q 15 s0 s1 s2 s3 s4 (s5 + q % 65536) (s6 + q / 65536) s7 := by
  obtain ⟨lo, hi, sum⟩ := h
  refine ⟨by omega, by omega, ?_⟩
  have e : mulT Q 15 = mulT Q 14 + q * 1208925819614629174706176 := by rw [hq]; rfl
  rw [e, ← sum]
  omega
theorem Sums.step15 {Q : List Int} {s0 s1 s2 s3 s4 s5 s6 s7 q : Int} (h : Sums Q 15 s0 s1 s2 s3 s4 s5 s6 s7) (hq : q = Q.getD 15 0) (h0 : 0 ≤ q) (h1 : q ≤ 4294836225) : Sums Q 16 s0 s1 s2 s3 s4 s5 (s6 + q % 65536) (s7 + q / 65536) := by
  obtain ⟨lo, hi, sum⟩ := h
  refine ⟨by omega, by omega, ?_⟩
  have e : mulT Q 16 = mulT Q 15 + q * 79228162514264337593543950336 := by rw [hq]; rfl
  rw [e, ← sum]
  omega
def mulQ (x0 x1 x2 x3 y0 y1 y2 y3 : Int) : List Int := [x0 * y0, x0 * y1, x0 * y2, x0 * y3, x1 * y0, x1 * y1, x1 * y2, x1 * y3, x2 * y0, x2 * y1, x2 * y2, x2 * y3, x3 * y0, x3 * y1, x3 * y2, x3 * y3]
theorem prod_le {x y : Int} (hx0 : 0 ≤ x) (hx1 : x ≤ 65535) (hy0 : 0 ≤ y) (hy1 : y ≤ 65535) : 0 ≤ x * y ∧ x * y ≤ 4294836225 :=
  ⟨Int.mul_nonneg hx0 hy0, by have := Int.mul_le_mul hx1 hy1 hy0 (by decide : (0 : Int) ≤ 65535); omega⟩
theorem wrap_prod {q : Int} (h0 : 0 ≤ q) (h1 : q ≤ 4294836225) : IntKind.u64.wrap q = q := by
  exact IntWalk.u64_in q ⟨h0, by omega⟩
structure Dig (x0 x1 x2 x3 : Int) : Prop where
  d0 : 0 ≤ x0 ∧ x0 ≤ 65535
  d1 : 0 ≤ x1 ∧ x1 ≤ 65535
  d2 : 0 ≤ x2 ∧ x2 ≤ 65535
  d3 : 0 ≤ x3 ∧ x3 ≤ 65535
def MulI (w wr : World) (x0 x1 x2 x3 y0 y1 y2 y3 : Int) (n : Nat) : Prop := ∃ s0 s1 s2 s3 s4 s5 s6 s7 : Int, MulW w wr #[u x0, u x1, u x2, u x3] #[u y0, u y1, u y2, u y3] #[u s0, u s1, u s2, u s3, u s4, u s5, u s6, u s7] ∧ Sums (mulQ x0 x1 x2 x3 y0 y1 y2 y3) n s0 s1 s2 s3 s4 s5 s6 s7
theorem mulQ_at0 (x0 x1 x2 x3 y0 y1 y2 y3 : Int) : x0 * y0 = (mulQ x0 x1 x2 x3 y0 y1 y2 y3).getD 0 0 := rfl
theorem mulQ_at1 (x0 x1 x2 x3 y0 y1 y2 y3 : Int) : x0 * y1 = (mulQ x0 x1 x2 x3 y0 y1 y2 y3).getD 1 0 := rfl
theorem mulQ_at2 (x0 x1 x2 x3 y0 y1 y2 y3 : Int) : x0 * y2 = (mulQ x0 x1 x2 x3 y0 y1 y2 y3).getD 2 0 := rfl
theorem mulQ_at3 (x0 x1 x2 x3 y0 y1 y2 y3 : Int) : x0 * y3 = (mulQ x0 x1 x2 x3 y0 y1 y2 y3).getD 3 0 := rfl
theorem mulQ_at4 (x0 x1 x2 x3 y0 y1 y2 y3 : Int) : x1 * y0 = (mulQ x0 x1 x2 x3 y0 y1 y2 y3).getD 4 0 := rfl
theorem mulQ_at5 (x0 x1 x2 x3 y0 y1 y2 y3 : Int) : x1 * y1 = (mulQ x0 x1 x2 x3 y0 y1 y2 y3).getD 5 0 := rfl
theorem mulQ_at6 (x0 x1 x2 x3 y0 y1 y2 y3 : Int) : x1 * y2 = (mulQ x0 x1 x2 x3 y0 y1 y2 y3).getD 6 0 := rfl
theorem mulQ_at7 (x0 x1 x2 x3 y0 y1 y2 y3 : Int) : x1 * y3 = (mulQ x0 x1 x2 x3 y0 y1 y2 y3).getD 7 0 := rfl
theorem mulQ_at8 (x0 x1 x2 x3 y0 y1 y2 y3 : Int) : x2 * y0 = (mulQ x0 x1 x2 x3 y0 y1 y2 y3).getD 8 0 := rfl
theorem mulQ_at9 (x0 x1 x2 x3 y0 y1 y2 y3 : Int) : x2 * y1 = (mulQ x0 x1 x2 x3 y0 y1 y2 y3).getD 9 0 := rfl
theorem mulQ_at10 (x0 x1 x2 x3 y0 y1 y2 y3 : Int) : x2 * y2 = (mulQ x0 x1 x2 x3 y0 y1 y2 y3).getD 10 0 := rfl
theorem mulQ_at11 (x0 x1 x2 x3 y0 y1 y2 y3 : Int) : x2 * y3 = (mulQ x0 x1 x2 x3 y0 y1 y2 y3).getD 11 0 := rfl
theorem mulQ_at12 (x0 x1 x2 x3 y0 y1 y2 y3 : Int) : x3 * y0 = (mulQ x0 x1 x2 x3 y0 y1 y2 y3).getD 12 0 := rfl
theorem mulQ_at13 (x0 x1 x2 x3 y0 y1 y2 y3 : Int) : x3 * y1 = (mulQ x0 x1 x2 x3 y0 y1 y2 y3).getD 13 0 := rfl
theorem mulQ_at14 (x0 x1 x2 x3 y0 y1 y2 y3 : Int) : x3 * y2 = (mulQ x0 x1 x2 x3 y0 y1 y2 y3).getD 14 0 := rfl
theorem mulQ_at15 (x0 x1 x2 x3 y0 y1 y2 y3 : Int) : x3 * y3 = (mulQ x0 x1 x2 x3 y0 y1 y2 y3).getD 15 0 := rfl
structure MulV (w wr : World) (g : Nat) (s d h : Array Value) : Prop where
  hg : w.heap.size + 1 + 1 + 1 + 1 ≤ g
  hd : wr.heap[w.heap.size]? = some (.cells d 128 (0, 0))
  hs : wr.heap[w.heap.size + 1 + 1 + 1]? = some (.cells s 129 (0, 0))
  hh : wr.heap[g]? = some (.cells h 128 (0, 0))
  hb : Below w.heap.size w wr
theorem MulV.setD {w wr : World} {g : Nat} {s d h : Array Value} (m : MulV w wr g s d h) (j : Nat) (v : Value) : MulV w (wr.setCell ⟨w.heap.size, j, none⟩ v) g s (d.setIfInBounds j v) h :=
  have hg := m.hg
  ⟨hg, heap_setCell_same _ _ _ _ _ _ m.hd, by rw [heap_setCell_other _ _ _ _ (by dsimp only; omega)]; exact m.hs, by rw [heap_setCell_other _ _ _ _ (by dsimp only; omega)]; exact m.hh, m.hb.setCell (by dsimp only; omega) _⟩
theorem MulV.setH {w wr : World} {g : Nat} {s d h : Array Value} (m : MulV w wr g s d h) (j : Nat) (v : Value) : MulV w (wr.setCell ⟨g, j, none⟩ v) g s d (h.setIfInBounds j v) :=
  have hg := m.hg
  ⟨hg, by rw [heap_setCell_other _ _ _ _ (by dsimp only; omega)]; exact m.hd, by rw [heap_setCell_other _ _ _ _ (by dsimp only; omega)]; exact m.hs, heap_setCell_same _ _ _ _ _ _ m.hh, m.hb.setCell (by dsimp only; omega) _⟩
theorem MulV.of {w wr : World} {x y s : Array Value} (m : MulW w wr x y s) : MulV w (wr.alloc (.cells #[u 0, u 0, u 0, u 0] 128)) wr.heap.size s #[u 0, u 0, u 0, u 0] #[u 0, u 0, u 0, u 0] :=
  have hz := m.hz
  ⟨by omega, by rw [heap_alloc_old _ _ (by omega)]; exact m.hd, by rw [heap_alloc_old _ _ (by omega)]; exact m.hs, heap_alloc_last _ _, m.hb.alloc m.hb.size _⟩
theorem MulW.start (w : World) (x y s : Array Value) : MulW w ((((w.alloc (.cells #[u 0, u 0, u 0, u 0] 128)).alloc (.cells x 128)).alloc (.cells y 128)).alloc (.cells s 129)) x y s := by
  have z1 : (w.alloc (.cells #[u 0, u 0, u 0, u 0] 128)).heap.size = w.heap.size + 1 := World.size_alloc _ _
  have z2 : ((w.alloc (.cells #[u 0, u 0, u 0, u 0] 128)).alloc (.cells x 128)).heap.size = w.heap.size + 1 + 1 := by rw [World.size_alloc, z1]
  have z3 : (((w.alloc (.cells #[u 0, u 0, u 0, u 0] 128)).alloc (.cells x 128)).alloc (.cells y 128)).heap.size = w.heap.size + 1 + 1 + 1 := by rw [World.size_alloc, z2]
  refine ⟨?_, ?_, ?_, ?_, ?_, by rw [World.size_alloc, z3]⟩
  · rw [heap_alloc_old _ _ (by omega), heap_alloc_old _ _ (by omega), heap_alloc_old _ _ (by omega)]; exact heap_alloc_last _ _
  · rw [heap_alloc_old _ _ (by omega), heap_alloc_old _ _ (by omega), ← z1]; exact heap_alloc_last _ _
  · rw [heap_alloc_old _ _ (by omega), ← z2]; exact heap_alloc_last _ _
  · rw [← z3]; exact heap_alloc_last _ _
  · exact ((((Below.refl _ _).alloc (by omega) _).alloc (by omega) _).alloc (by omega) _).alloc (by omega) _
def outSum (s0 s1 s2 s3 s4 s5 s6 s7 o0 o1 o2 o3 o4 o5 o6 o7 c : Int) : Nat → Int
  | 0 => s0 + s1 * 65536 + s2 * 4294967296 + s3 * 281474976710656 + s4 * 18446744073709551616 + s5 * 1208925819614629174706176 + s6 * 79228162514264337593543950336 + s7 * 5192296858534827628530496329220096 + c
  | 1 => o0 + s1 * 65536 + s2 * 4294967296 + s3 * 281474976710656 + s4 * 18446744073709551616 + s5 * 1208925819614629174706176 + s6 * 79228162514264337593543950336 + s7 * 5192296858534827628530496329220096 + c * 65536
  | 2 => o0 + o1 * 65536 + s2 * 4294967296 + s3 * 281474976710656 + s4 * 18446744073709551616 + s5 * 1208925819614629174706176 + s6 * 79228162514264337593543950336 + s7 * 5192296858534827628530496329220096 + c * 4294967296
  | 3 => o0 + o1 * 65536 + o2 * 4294967296 + s3 * 281474976710656 + s4 * 18446744073709551616 + s5 * 1208925819614629174706176 + s6 * 79228162514264337593543950336 + s7 * 5192296858534827628530496329220096 + c * 281474976710656
  | 4 => o0 + o1 * 65536 + o2 * 4294967296 + o3 * 281474976710656 + s4 * 18446744073709551616 + s5 * 1208925819614629174706176 + s6 * 79228162514264337593543950336 + s7 * 5192296858534827628530496329220096 + c * 18446744073709551616
  | 5 => o0 + o1 * 65536 + o2 * 4294967296 + o3 * 281474976710656 + o4 * 18446744073709551616 + s5 * 1208925819614629174706176 + s6 * 79228162514264337593543950336 + s7 * 5192296858534827628530496329220096 + c * 1208925819614629174706176
  | 6 => o0 + o1 * 65536 + o2 * 4294967296 + o3 * 281474976710656 + o4 * 18446744073709551616 + o5 * 1208925819614629174706176 + s6 * 79228162514264337593543950336 + s7 * 5192296858534827628530496329220096 + c * 79228162514264337593543950336
  | 7 => o0 + o1 * 65536 + o2 * 4294967296 + o3 * 281474976710656 + o4 * 18446744073709551616 + o5 * 1208925819614629174706176 + o6 * 79228162514264337593543950336 + s7 * 5192296858534827628530496329220096 + c * 5192296858534827628530496329220096
  | 8 => o0 + o1 * 65536 + o2 * 4294967296 + o3 * 281474976710656 + o4 * 18446744073709551616 + o5 * 1208925819614629174706176 + o6 * 79228162514264337593543950336 + o7 * 5192296858534827628530496329220096 + c * 340282366920938463463374607431768211456
  | _ => 0
structure Outs (t : Int) (i : Nat) (s0 s1 s2 s3 s4 s5 s6 s7 o0 o1 o2 o3 o4 o5 o6 o7 c : Int) : Prop where
  lo : 0 ≤ o0 ∧ 0 ≤ o1 ∧ 0 ≤ o2 ∧ 0 ≤ o3 ∧ 0 ≤ o4 ∧ 0 ≤ o5 ∧ 0 ≤ o6 ∧ 0 ≤ o7 ∧ 0 ≤ c
  hi : o0 ≤ 65535 ∧ o1 ≤ 65535 ∧ o2 ≤ 65535 ∧ o3 ≤ 65535 ∧ o4 ≤ 65535 ∧ o5 ≤ 65535 ∧ o6 ≤ 65535 ∧ o7 ≤ 65535 ∧ c ≤ 65535
  sl : 0 ≤ s0 ∧ 0 ≤ s1 ∧ 0 ≤ s2 ∧ 0 ≤ s3 ∧ 0 ≤ s4 ∧ 0 ≤ s5 ∧ 0 ≤ s6 ∧ 0 ≤ s7
  sh : s0 ≤ 2097152 ∧ s1 ≤ 2097152 ∧ s2 ≤ 2097152 ∧ s3 ≤ 2097152 ∧ s4 ≤ 2097152 ∧ s5 ≤ 2097152 ∧ s6 ≤ 2097152 ∧ s7 ≤ 2097152
  sum : outSum s0 s1 s2 s3 s4 s5 s6 s7 o0 o1 o2 o3 o4 o5 o6 o7 c i = t
theorem Outs.step0 {t s0 s1 s2 s3 s4 s5 s6 s7 o0 o1 o2 o3 o4 o5 o6 o7 c : Int} (h : Outs t 0 s0 s1 s2 s3 s4 s5 s6 s7 o0 o1 o2 o3 o4 o5 o6 o7 c) : Outs t 1 s0 s1 s2 s3 s4 s5 s6 s7 ((s0 + c) % 65536) o1 o2 o3 o4 o5 o6 o7 ((s0 + c) / 65536) := by
  obtain ⟨lo, hi, sl, sh, sum⟩ := h
  refine ⟨by omega, by omega, sl, sh, ?_⟩
  simp only [outSum] at sum ⊢
  omega
theorem Outs.step1 {t s0 s1 s2 s3 s4 s5 s6 s7 o0 o1 o2 o3 o4 o5 o6 o7 c : Int} (h : Outs t 1 s0 s1 s2 s3 s4 s5 s6 s7 o0 o1 o2 o3 o4 o5 o6 o7 c) : Outs t 2 s0 s1 s2 s3 s4 s5 s6 s7 o0 ((s1 + c) % 65536) o2 o3 o4 o5 o6 o7 ((s1 + c) / 65536) := by
  obtain ⟨lo, hi, sl, sh, sum⟩ := h
  refine ⟨by omega, by omega, sl, sh, ?_⟩
  simp only [outSum] at sum ⊢
  omega
theorem Outs.step2 {t s0 s1 s2 s3 s4 s5 s6 s7 o0 o1 o2 o3 o4 o5 o6 o7 c : Int} (h : Outs t 2 s0 s1 s2 s3 s4 s5 s6 s7 o0 o1 o2 o3 o4 o5 o6 o7 c) : Outs t 3 s0 s1 s2 s3 s4 s5 s6 s7 o0 o1 ((s2 + c) % 65536) o3 o4 o5 o6 o7 ((s2 + c) / 65536) := by
  obtain ⟨lo, hi, sl, sh, sum⟩ := h
  refine ⟨by omega, by omega, sl, sh, ?_⟩
  simp only [outSum] at sum ⊢
  omega
theorem Outs.step3 {t s0 s1 s2 s3 s4 s5 s6 s7 o0 o1 o2 o3 o4 o5 o6 o7 c : Int} (h : Outs t 3 s0 s1 s2 s3 s4 s5 s6 s7 o0 o1 o2 o3 o4 o5 o6 o7 c) : Outs t 4 s0 s1 s2 s3 s4 s5 s6 s7 o0 o1 o2 ((s3 + c) % 65536) o4 o5 o6 o7 ((s3 + c) / 65536) := by
  obtain ⟨lo, hi, sl, sh, sum⟩ := h
  refine ⟨by omega, by omega, sl, sh, ?_⟩
  simp only [outSum] at sum ⊢
  omega
theorem Outs.step4 {t s0 s1 s2 s3 s4 s5 s6 s7 o0 o1 o2 o3 o4 o5 o6 o7 c : Int} (h : Outs t 4 s0 s1 s2 s3 s4 s5 s6 s7 o0 o1 o2 o3 o4 o5 o6 o7 c) : Outs t 5 s0 s1 s2 s3 s4 s5 s6 s7 o0 o1 o2 o3 ((s4 + c) % 65536) o5 o6 o7 ((s4 + c) / 65536) := by
  obtain ⟨lo, hi, sl, sh, sum⟩ := h
  refine ⟨by omega, by omega, sl, sh, ?_⟩
  simp only [outSum] at sum ⊢
  omega
theorem Outs.step5 {t s0 s1 s2 s3 s4 s5 s6 s7 o0 o1 o2 o3 o4 o5 o6 o7 c : Int} (h : Outs t 5 s0 s1 s2 s3 s4 s5 s6 s7 o0 o1 o2 o3 o4 o5 o6 o7 c) : Outs t 6 s0 s1 s2 s3 s4 s5 s6 s7 o0 o1 o2 o3 o4 ((s5 + c) % 65536) o6 o7 ((s5 + c) / 65536) := by
  obtain ⟨lo, hi, sl, sh, sum⟩ := h
  refine ⟨by omega, by omega, sl, sh, ?_⟩
  simp only [outSum] at sum ⊢
  omega
theorem Outs.step6 {t s0 s1 s2 s3 s4 s5 s6 s7 o0 o1 o2 o3 o4 o5 o6 o7 c : Int} (h : Outs t 6 s0 s1 s2 s3 s4 s5 s6 s7 o0 o1 o2 o3 o4 o5 o6 o7 c) : Outs t 7 s0 s1 s2 s3 s4 s5 s6 s7 o0 o1 o2 o3 o4 o5 ((s6 + c) % 65536) o7 ((s6 + c) / 65536) := by
  obtain ⟨lo, hi, sl, sh, sum⟩ := h
  refine ⟨by omega, by omega, sl, sh, ?_⟩
  simp only [outSum] at sum ⊢
  omega
theorem Outs.step7 {t s0 s1 s2 s3 s4 s5 s6 s7 o0 o1 o2 o3 o4 o5 o6 o7 c : Int} (h : Outs t 7 s0 s1 s2 s3 s4 s5 s6 s7 o0 o1 o2 o3 o4 o5 o6 o7 c) : Outs t 8 s0 s1 s2 s3 s4 s5 s6 s7 o0 o1 o2 o3 o4 o5 o6 ((s7 + c) % 65536) ((s7 + c) / 65536) := by
  obtain ⟨lo, hi, sl, sh, sum⟩ := h
  refine ⟨by omega, by omega, sl, sh, ?_⟩
  simp only [outSum] at sum ⊢
  omega
theorem Sums.outs {Q : List Int} {s0 s1 s2 s3 s4 s5 s6 s7 : Int} (h : Sums Q 16 s0 s1 s2 s3 s4 s5 s6 s7) : Outs (mulT Q 16) 0 s0 s1 s2 s3 s4 s5 s6 s7 0 0 0 0 0 0 0 0 0 := by
  obtain ⟨lo, hi, sum⟩ := h
  refine ⟨by omega, by omega, lo, by omega, ?_⟩
  simp only [outSum]
  omega
def MulO (w wr : World) (g : Nat) (t : Int) (i : Nat) (cv : Value) : Prop := ∃ s0 s1 s2 s3 s4 s5 s6 s7 o0 o1 o2 o3 o4 o5 o6 o7 c : Int, MulV w wr g #[u s0, u s1, u s2, u s3, u s4, u s5, u s6, u s7] #[u o0, u o1, u o2, u o3] #[u o4, u o5, u o6, u o7] ∧ Outs t i s0 s1 s2 s3 s4 s5 s6 s7 o0 o1 o2 o3 o4 o5 o6 o7 c ∧ cv = .int .u64 c
set_option maxRecDepth 100000 in
set_option maxHeartbeats 16000000 in
theorem mul_any (a b : Int) (w : World) (ha : 0 ≤ a) (hb : 0 ≤ b) (A1 A2 B1 B2 x0 x1 x2 x3 y0 y1 y2 y3 : Int) (hx0 : a % 65536 = x0) (ea1 : IntKind.u64.wrap (a.tdiv 65536) = A1) (ea2 : IntKind.u64.wrap (a.tdiv 4294967296) = A2) (pa1 : 0 ≤ A1) (pa2 : 0 ≤ A2)
    (hx1 : A1 % 65536 = x1) (hx2 : A2 % 65536 = x2) (hx3 : IntKind.u64.wrap (a.tdiv 281474976710656) = x3)
    (hy0 : b % 65536 = y0) (eb1 : IntKind.u64.wrap (b.tdiv 65536) = B1) (eb2 : IntKind.u64.wrap (b.tdiv 4294967296) = B2) (pb1 : 0 ≤ B1) (pb2 : 0 ≤ B2)
    (hy1 : B1 % 65536 = y1) (hy2 : B2 % 65536 = y2) (hy3 : IntKind.u64.wrap (b.tdiv 281474976710656) = y3) (dx : Dig x0 x1 x2 x3) (dy : Dig y0 y1 y2 y3) :
    Calls Tryz.prog 82 #[.int .u64 a, .int .u64 b] w fun e w' => (∃ s0 s1 s2 s3 s4 s5 s6 s7 o0 o1 o2 o3 o4 o5 o6 o7 c : Int, e = .returned (.tuple #[.int .u64 (o0 + o1 * 65536 + o2 * 4294967296 + o3 * 281474976710656), .int .u64 (o4 + o5 * 65536 + o6 * 4294967296 + o7 * 281474976710656)]) ∧ Outs (mulT (mulQ x0 x1 x2 x3 y0 y1 y2 y3) 16) 8 s0 s1 s2 s3 s4 s5 s6 s7 o0 o1 o2 o3 o4 o5 o6 o7 c) ∧ Below w.heap.size w w' := by
  go_enter Tryz.func82, Tryz.ntmps82
  go_wp2
  clear hx0 ea1 ea2 hx1 hx2 hx3 hy0 eb1 eb2 hy1 hy2 hy3 ha hb pa1 pa2 pb1 pb2
  go_loopw [10] (fun v wr => ∃ i : Int, 0 ≤ i ∧ i ≤ 4 ∧ v = .int .i64 i ∧ MulI w wr x0 x1 x2 x3 y0 y1 y2 y3 (4 * i.toNat)) (fun v _ => 4 - (intOf v).toNat)
  case atStart => exact ⟨0, by omega, by omega, rfl, 0, 0, 0, 0, 0, 0, 0, 0, MulW.start _ _ _ _, ⟨by decide, by decide, rfl⟩⟩
  case round =>
    obtain ⟨i, hi0, hi, rfl, hI⟩ := hrel
    have HI := Aside0.mk hI
    clear hI
    have : i = 0 ∨ i = 1 ∨ i = 2 ∨ i = 3 ∨ i = 4 := by omega
    rcases this with rfl | rfl | rfl | rfl | rfl
    case inl =>
      clear hi hi0
      obtain ⟨wo, rfl⟩ : ∃ wo : World, wo = wr := ⟨_, rfl⟩
      go_wp2
      go_loopw [11] (fun v wr => ∃ k : Int, 0 ≤ k ∧ k ≤ 4 ∧ v = .int .i64 k ∧ MulI w wr x0 x1 x2 x3 y0 y1 y2 y3 (0 + k.toNat)) (fun v _ => 4 - (intOf v).toNat)
      case atStart => exact ⟨0, by omega, by omega, rfl, HI.out⟩
      case round =>
        clear HI
        obtain ⟨k, hk0, hk, rfl, hI⟩ := hrel
        have HI := Aside0.mk hI
        clear hI
        have : k = 0 ∨ k = 1 ∨ k = 2 ∨ k = 3 ∨ k = 4 := by omega
        rcases this with rfl | rfl | rfl | rfl | rfl
        case inl =>
          clear hk hk0
          obtain ⟨s0, s1, s2, s3, s4, s5, s6, s7, hM, hS⟩ := HI.out
          have cx : wr.cell? ⟨w.heap.size + 1, 0, none⟩ = some (.int .u64 x0) := (cell_of_row _ _ 0 _ _ _ hM.hx).trans rfl
          have cy : wr.cell? ⟨w.heap.size + 1 + 1, 0, none⟩ = some (.int .u64 y0) := (cell_of_row _ _ 0 _ _ _ hM.hy).trans rfl
          have c0 : wr.cell? ⟨w.heap.size + 1 + 1 + 1, 0, none⟩ = some (.int .u64 s0) := (cell_of_row _ _ 0 _ _ _ hM.hs).trans rfl
          have c1 : wr.cell? ⟨w.heap.size + 1 + 1 + 1, 1, none⟩ = some (.int .u64 s1) := (cell_of_row _ _ 1 _ _ _ hM.hs).trans rfl
          have f0 := frozen_of_row _ _ 0 _ _ hM.hs
          have f1 := frozen_of_row _ _ 1 _ _ hM.hs
          have b0 : 0 ≤ s0 := hS.lo.1
          have b1 : 0 ≤ s1 := hS.lo.2.1
          have b2 : s0 ≤ 2097152 := by have := hS.hi; omega
          have b3 : s1 ≤ 2097152 := by have := hS.hi; omega
          have hp := prod_le dx.d0.1 dx.d0.2 dy.d0.1 dy.d0.2
          obtain ⟨q, hq⟩ : ∃ q, q = x0 * y0 := ⟨_, rfl⟩
          rw [← hq] at hp
          have hw : IntKind.u64.wrap (x0 * y0) = q := by rw [← hq]; exact wrap_prod hp.1 hp.2
          have q0 := hp.1
          have q1 := hp.2
          have HM := Aside0.mk hM
          have HS := Aside0.mk (hS.step0 (hq.trans (mulQ_at0 _ _ _ _ _ _ _ _)) q0 q1)
          clear hM hS hp hq HI
          go_wp2
          go_quiet (fail)
          go_wp2
          go_roundw
          case rel => exact ⟨1, by omega, by omega, rfl, _, _, _, _, _, _, _, _, ((HM.out.drewN _).setS 0 _).setS 1 _, HS.out⟩
          case measure => simp [intOf]
        case inr.inl =>
          clear hk hk0
          obtain ⟨s0, s1, s2, s3, s4, s5, s6, s7, hM, hS⟩ := HI.out
          have cx : wr.cell? ⟨w.heap.size + 1, 0, none⟩ = some (.int .u64 x0) := (cell_of_row _ _ 0 _ _ _ hM.hx).trans rfl
          have cy : wr.cell? ⟨w.heap.size + 1 + 1, 1, none⟩ = some (.int .u64 y1) := (cell_of_row _ _ 1 _ _ _ hM.hy).trans rfl
          have c0 : wr.cell? ⟨w.heap.size + 1 + 1 + 1, 1, none⟩ = some (.int .u64 s1) := (cell_of_row _ _ 1 _ _ _ hM.hs).trans rfl
          have c1 : wr.cell? ⟨w.heap.size + 1 + 1 + 1, 2, none⟩ = some (.int .u64 s2) := (cell_of_row _ _ 2 _ _ _ hM.hs).trans rfl
          have f0 := frozen_of_row _ _ 1 _ _ hM.hs
          have f1 := frozen_of_row _ _ 2 _ _ hM.hs
          have b0 : 0 ≤ s1 := hS.lo.2.1
          have b1 : 0 ≤ s2 := hS.lo.2.2.1
          have b2 : s1 ≤ 2097152 := by have := hS.hi; omega
          have b3 : s2 ≤ 2097152 := by have := hS.hi; omega
          have hp := prod_le dx.d0.1 dx.d0.2 dy.d1.1 dy.d1.2
          obtain ⟨q, hq⟩ : ∃ q, q = x0 * y1 := ⟨_, rfl⟩
          rw [← hq] at hp
          have hw : IntKind.u64.wrap (x0 * y1) = q := by rw [← hq]; exact wrap_prod hp.1 hp.2
          have q0 := hp.1
          have q1 := hp.2
          have HM := Aside0.mk hM
          have HS := Aside0.mk (hS.step1 (hq.trans (mulQ_at1 _ _ _ _ _ _ _ _)) q0 q1)
          clear hM hS hp hq HI
          go_wp2
          go_quiet (fail)
          go_wp2
          go_roundw
          case rel => exact ⟨2, by omega, by omega, rfl, _, _, _, _, _, _, _, _, ((HM.out.drewN _).setS 1 _).setS 2 _, HS.out⟩
          case measure => simp [intOf]
        case inr.inr.inl =>
          clear hk hk0
          obtain ⟨s0, s1, s2, s3, s4, s5, s6, s7, hM, hS⟩ := HI.out
          have cx : wr.cell? ⟨w.heap.size + 1, 0, none⟩ = some (.int .u64 x0) := (cell_of_row _ _ 0 _ _ _ hM.hx).trans rfl
          have cy : wr.cell? ⟨w.heap.size + 1 + 1, 2, none⟩ = some (.int .u64 y2) := (cell_of_row _ _ 2 _ _ _ hM.hy).trans rfl
          have c0 : wr.cell? ⟨w.heap.size + 1 + 1 + 1, 2, none⟩ = some (.int .u64 s2) := (cell_of_row _ _ 2 _ _ _ hM.hs).trans rfl
          have c1 : wr.cell? ⟨w.heap.size + 1 + 1 + 1, 3, none⟩ = some (.int .u64 s3) := (cell_of_row _ _ 3 _ _ _ hM.hs).trans rfl
          have f0 := frozen_of_row _ _ 2 _ _ hM.hs
          have f1 := frozen_of_row _ _ 3 _ _ hM.hs
          have b0 : 0 ≤ s2 := hS.lo.2.2.1
          have b1 : 0 ≤ s3 := hS.lo.2.2.2.1
          have b2 : s2 ≤ 2097152 := by have := hS.hi; omega
          have b3 : s3 ≤ 2097152 := by have := hS.hi; omega
          have hp := prod_le dx.d0.1 dx.d0.2 dy.d2.1 dy.d2.2
          obtain ⟨q, hq⟩ : ∃ q, q = x0 * y2 := ⟨_, rfl⟩
          rw [← hq] at hp
          have hw : IntKind.u64.wrap (x0 * y2) = q := by rw [← hq]; exact wrap_prod hp.1 hp.2
          have q0 := hp.1
          have q1 := hp.2
          have HM := Aside0.mk hM
          have HS := Aside0.mk (hS.step2 (hq.trans (mulQ_at2 _ _ _ _ _ _ _ _)) q0 q1)
          clear hM hS hp hq HI
          go_wp2
          go_quiet (fail)
          go_wp2
          go_roundw
          case rel => exact ⟨3, by omega, by omega, rfl, _, _, _, _, _, _, _, _, ((HM.out.drewN _).setS 2 _).setS 3 _, HS.out⟩
          case measure => simp [intOf]
        case inr.inr.inr.inl =>
          clear hk hk0
          obtain ⟨s0, s1, s2, s3, s4, s5, s6, s7, hM, hS⟩ := HI.out
          have cx : wr.cell? ⟨w.heap.size + 1, 0, none⟩ = some (.int .u64 x0) := (cell_of_row _ _ 0 _ _ _ hM.hx).trans rfl
          have cy : wr.cell? ⟨w.heap.size + 1 + 1, 3, none⟩ = some (.int .u64 y3) := (cell_of_row _ _ 3 _ _ _ hM.hy).trans rfl
          have c0 : wr.cell? ⟨w.heap.size + 1 + 1 + 1, 3, none⟩ = some (.int .u64 s3) := (cell_of_row _ _ 3 _ _ _ hM.hs).trans rfl
          have c1 : wr.cell? ⟨w.heap.size + 1 + 1 + 1, 4, none⟩ = some (.int .u64 s4) := (cell_of_row _ _ 4 _ _ _ hM.hs).trans rfl
          have f0 := frozen_of_row _ _ 3 _ _ hM.hs
          have f1 := frozen_of_row _ _ 4 _ _ hM.hs
          have b0 : 0 ≤ s3 := hS.lo.2.2.2.1
          have b1 : 0 ≤ s4 := hS.lo.2.2.2.2.1
          have b2 : s3 ≤ 2097152 := by have := hS.hi; omega
          have b3 : s4 ≤ 2097152 := by have := hS.hi; omega
          have hp := prod_le dx.d0.1 dx.d0.2 dy.d3.1 dy.d3.2
          obtain ⟨q, hq⟩ : ∃ q, q = x0 * y3 := ⟨_, rfl⟩
          rw [← hq] at hp
          have hw : IntKind.u64.wrap (x0 * y3) = q := by rw [← hq]; exact wrap_prod hp.1 hp.2
          have q0 := hp.1
          have q1 := hp.2
          have HM := Aside0.mk hM
          have HS := Aside0.mk (hS.step3 (hq.trans (mulQ_at3 _ _ _ _ _ _ _ _)) q0 q1)
          clear hM hS hp hq HI
          go_wp2
          go_quiet (fail)
          go_wp2
          go_roundw
          case rel => exact ⟨4, by omega, by omega, rfl, _, _, _, _, _, _, _, _, ((HM.out.drewN _).setS 3 _).setS 4 _, HS.out⟩
          case measure => simp [intOf]
        case inr.inr.inr.inr =>
          clear hk hk0
          go_wp2
          go_roundw
          case rel => exact ⟨1, by omega, by omega, rfl, HI.out⟩
          case measure => simp [intOf]
    case inr.inl =>
      clear hi hi0
      obtain ⟨wo, rfl⟩ : ∃ wo : World, wo = wr := ⟨_, rfl⟩
      go_wp2
      go_loopw [11] (fun v wr => ∃ k : Int, 0 ≤ k ∧ k ≤ 4 ∧ v = .int .i64 k ∧ MulI w wr x0 x1 x2 x3 y0 y1 y2 y3 (4 + k.toNat)) (fun v _ => 4 - (intOf v).toNat)
      case atStart => exact ⟨0, by omega, by omega, rfl, HI.out⟩
      case round =>
        clear HI
        obtain ⟨k, hk0, hk, rfl, hI⟩ := hrel
        have HI := Aside0.mk hI
        clear hI
        have : k = 0 ∨ k = 1 ∨ k = 2 ∨ k = 3 ∨ k = 4 := by omega
        rcases this with rfl | rfl | rfl | rfl | rfl
        case inl =>
          clear hk hk0
          obtain ⟨s0, s1, s2, s3, s4, s5, s6, s7, hM, hS⟩ := HI.out
          have cx : wr.cell? ⟨w.heap.size + 1, 1, none⟩ = some (.int .u64 x1) := (cell_of_row _ _ 1 _ _ _ hM.hx).trans rfl
          have cy : wr.cell? ⟨w.heap.size + 1 + 1, 0, none⟩ = some (.int .u64 y0) := (cell_of_row _ _ 0 _ _ _ hM.hy).trans rfl
          have c0 : wr.cell? ⟨w.heap.size + 1 + 1 + 1, 1, none⟩ = some (.int .u64 s1) := (cell_of_row _ _ 1 _ _ _ hM.hs).trans rfl
          have c1 : wr.cell? ⟨w.heap.size + 1 + 1 + 1, 2, none⟩ = some (.int .u64 s2) := (cell_of_row _ _ 2 _ _ _ hM.hs).trans rfl
          have f0 := frozen_of_row _ _ 1 _ _ hM.hs
          have f1 := frozen_of_row _ _ 2 _ _ hM.hs
          have b0 : 0 ≤ s1 := hS.lo.2.1
          have b1 : 0 ≤ s2 := hS.lo.2.2.1
          have b2 : s1 ≤ 2097152 := by have := hS.hi; omega
          have b3 : s2 ≤ 2097152 := by have := hS.hi; omega
          have hp := prod_le dx.d1.1 dx.d1.2 dy.d0.1 dy.d0.2
          obtain ⟨q, hq⟩ : ∃ q, q = x1 * y0 := ⟨_, rfl⟩
          rw [← hq] at hp
          have hw : IntKind.u64.wrap (x1 * y0) = q := by rw [← hq]; exact wrap_prod hp.1 hp.2
          have q0 := hp.1
          have q1 := hp.2
          have HM := Aside0.mk hM
          have HS := Aside0.mk (hS.step4 (hq.trans (mulQ_at4 _ _ _ _ _ _ _ _)) q0 q1)
          clear hM hS hp hq HI
          go_wp2
          go_quiet (fail)
          go_wp2
          go_roundw
          case rel => exact ⟨1, by omega, by omega, rfl, _, _, _, _, _, _, _, _, ((HM.out.drewN _).setS 1 _).setS 2 _, HS.out⟩
          case measure => simp [intOf]
        case inr.inl =>
          clear hk hk0
          obtain ⟨s0, s1, s2, s3, s4, s5, s6, s7, hM, hS⟩ := HI.out
          have cx : wr.cell? ⟨w.heap.size + 1, 1, none⟩ = some (.int .u64 x1) := (cell_of_row _ _ 1 _ _ _ hM.hx).trans rfl
          have cy : wr.cell? ⟨w.heap.size + 1 + 1, 1, none⟩ = some (.int .u64 y1) := (cell_of_row _ _ 1 _ _ _ hM.hy).trans rfl
          have c0 : wr.cell? ⟨w.heap.size + 1 + 1 + 1, 2, none⟩ = some (.int .u64 s2) := (cell_of_row _ _ 2 _ _ _ hM.hs).trans rfl
          have c1 : wr.cell? ⟨w.heap.size + 1 + 1 + 1, 3, none⟩ = some (.int .u64 s3) := (cell_of_row _ _ 3 _ _ _ hM.hs).trans rfl
          have f0 := frozen_of_row _ _ 2 _ _ hM.hs
          have f1 := frozen_of_row _ _ 3 _ _ hM.hs
          have b0 : 0 ≤ s2 := hS.lo.2.2.1
          have b1 : 0 ≤ s3 := hS.lo.2.2.2.1
          have b2 : s2 ≤ 2097152 := by have := hS.hi; omega
          have b3 : s3 ≤ 2097152 := by have := hS.hi; omega
          have hp := prod_le dx.d1.1 dx.d1.2 dy.d1.1 dy.d1.2
          obtain ⟨q, hq⟩ : ∃ q, q = x1 * y1 := ⟨_, rfl⟩
          rw [← hq] at hp
          have hw : IntKind.u64.wrap (x1 * y1) = q := by rw [← hq]; exact wrap_prod hp.1 hp.2
          have q0 := hp.1
          have q1 := hp.2
          have HM := Aside0.mk hM
          have HS := Aside0.mk (hS.step5 (hq.trans (mulQ_at5 _ _ _ _ _ _ _ _)) q0 q1)
          clear hM hS hp hq HI
          go_wp2
          go_quiet (fail)
          go_wp2
          go_roundw
          case rel => exact ⟨2, by omega, by omega, rfl, _, _, _, _, _, _, _, _, ((HM.out.drewN _).setS 2 _).setS 3 _, HS.out⟩
          case measure => simp [intOf]
        case inr.inr.inl =>
          clear hk hk0
          obtain ⟨s0, s1, s2, s3, s4, s5, s6, s7, hM, hS⟩ := HI.out
          have cx : wr.cell? ⟨w.heap.size + 1, 1, none⟩ = some (.int .u64 x1) := (cell_of_row _ _ 1 _ _ _ hM.hx).trans rfl
          have cy : wr.cell? ⟨w.heap.size + 1 + 1, 2, none⟩ = some (.int .u64 y2) := (cell_of_row _ _ 2 _ _ _ hM.hy).trans rfl
          have c0 : wr.cell? ⟨w.heap.size + 1 + 1 + 1, 3, none⟩ = some (.int .u64 s3) := (cell_of_row _ _ 3 _ _ _ hM.hs).trans rfl
          have c1 : wr.cell? ⟨w.heap.size + 1 + 1 + 1, 4, none⟩ = some (.int .u64 s4) := (cell_of_row _ _ 4 _ _ _ hM.hs).trans rfl
          have f0 := frozen_of_row _ _ 3 _ _ hM.hs
          have f1 := frozen_of_row _ _ 4 _ _ hM.hs
          have b0 : 0 ≤ s3 := hS.lo.2.2.2.1
          have b1 : 0 ≤ s4 := hS.lo.2.2.2.2.1
          have b2 : s3 ≤ 2097152 := by have := hS.hi; omega
          have b3 : s4 ≤ 2097152 := by have := hS.hi; omega
          have hp := prod_le dx.d1.1 dx.d1.2 dy.d2.1 dy.d2.2
          obtain ⟨q, hq⟩ : ∃ q, q = x1 * y2 := ⟨_, rfl⟩
          rw [← hq] at hp
          have hw : IntKind.u64.wrap (x1 * y2) = q := by rw [← hq]; exact wrap_prod hp.1 hp.2
          have q0 := hp.1
          have q1 := hp.2
          have HM := Aside0.mk hM
          have HS := Aside0.mk (hS.step6 (hq.trans (mulQ_at6 _ _ _ _ _ _ _ _)) q0 q1)
          clear hM hS hp hq HI
          go_wp2
          go_quiet (fail)
          go_wp2
          go_roundw
          case rel => exact ⟨3, by omega, by omega, rfl, _, _, _, _, _, _, _, _, ((HM.out.drewN _).setS 3 _).setS 4 _, HS.out⟩
          case measure => simp [intOf]
        case inr.inr.inr.inl =>
          clear hk hk0
          obtain ⟨s0, s1, s2, s3, s4, s5, s6, s7, hM, hS⟩ := HI.out
          have cx : wr.cell? ⟨w.heap.size + 1, 1, none⟩ = some (.int .u64 x1) := (cell_of_row _ _ 1 _ _ _ hM.hx).trans rfl
          have cy : wr.cell? ⟨w.heap.size + 1 + 1, 3, none⟩ = some (.int .u64 y3) := (cell_of_row _ _ 3 _ _ _ hM.hy).trans rfl
          have c0 : wr.cell? ⟨w.heap.size + 1 + 1 + 1, 4, none⟩ = some (.int .u64 s4) := (cell_of_row _ _ 4 _ _ _ hM.hs).trans rfl
          have c1 : wr.cell? ⟨w.heap.size + 1 + 1 + 1, 5, none⟩ = some (.int .u64 s5) := (cell_of_row _ _ 5 _ _ _ hM.hs).trans rfl
          have f0 := frozen_of_row _ _ 4 _ _ hM.hs
          have f1 := frozen_of_row _ _ 5 _ _ hM.hs
          have b0 : 0 ≤ s4 := hS.lo.2.2.2.2.1
          have b1 : 0 ≤ s5 := hS.lo.2.2.2.2.2.1
          have b2 : s4 ≤ 2097152 := by have := hS.hi; omega
          have b3 : s5 ≤ 2097152 := by have := hS.hi; omega
          have hp := prod_le dx.d1.1 dx.d1.2 dy.d3.1 dy.d3.2
          obtain ⟨q, hq⟩ : ∃ q, q = x1 * y3 := ⟨_, rfl⟩
          rw [← hq] at hp
          have hw : IntKind.u64.wrap (x1 * y3) = q := by rw [← hq]; exact wrap_prod hp.1 hp.2
          have q0 := hp.1
          have q1 := hp.2
          have HM := Aside0.mk hM
          have HS := Aside0.mk (hS.step7 (hq.trans (mulQ_at7 _ _ _ _ _ _ _ _)) q0 q1)
          clear hM hS hp hq HI
          go_wp2
          go_quiet (fail)
          go_wp2
          go_roundw
          case rel => exact ⟨4, by omega, by omega, rfl, _, _, _, _, _, _, _, _, ((HM.out.drewN _).setS 4 _).setS 5 _, HS.out⟩
          case measure => simp [intOf]
        case inr.inr.inr.inr =>
          clear hk hk0
          go_wp2
          go_roundw
          case rel => exact ⟨2, by omega, by omega, rfl, HI.out⟩
          case measure => simp [intOf]
    case inr.inr.inl =>
      clear hi hi0
      obtain ⟨wo, rfl⟩ : ∃ wo : World, wo = wr := ⟨_, rfl⟩
      go_wp2
      go_loopw [11] (fun v wr => ∃ k : Int, 0 ≤ k ∧ k ≤ 4 ∧ v = .int .i64 k ∧ MulI w wr x0 x1 x2 x3 y0 y1 y2 y3 (8 + k.toNat)) (fun v _ => 4 - (intOf v).toNat)
      case atStart => exact ⟨0, by omega, by omega, rfl, HI.out⟩
      case round =>
        clear HI
        obtain ⟨k, hk0, hk, rfl, hI⟩ := hrel
        have HI := Aside0.mk hI
        clear hI
        have : k = 0 ∨ k = 1 ∨ k = 2 ∨ k = 3 ∨ k = 4 := by omega
        rcases this with rfl | rfl | rfl | rfl | rfl
        case inl =>
          clear hk hk0
          obtain ⟨s0, s1, s2, s3, s4, s5, s6, s7, hM, hS⟩ := HI.out
          have cx : wr.cell? ⟨w.heap.size + 1, 2, none⟩ = some (.int .u64 x2) := (cell_of_row _ _ 2 _ _ _ hM.hx).trans rfl
          have cy : wr.cell? ⟨w.heap.size + 1 + 1, 0, none⟩ = some (.int .u64 y0) := (cell_of_row _ _ 0 _ _ _ hM.hy).trans rfl
          have c0 : wr.cell? ⟨w.heap.size + 1 + 1 + 1, 2, none⟩ = some (.int .u64 s2) := (cell_of_row _ _ 2 _ _ _ hM.hs).trans rfl
          have c1 : wr.cell? ⟨w.heap.size + 1 + 1 + 1, 3, none⟩ = some (.int .u64 s3) := (cell_of_row _ _ 3 _ _ _ hM.hs).trans rfl
          have f0 := frozen_of_row _ _ 2 _ _ hM.hs
          have f1 := frozen_of_row _ _ 3 _ _ hM.hs
          have b0 : 0 ≤ s2 := hS.lo.2.2.1
          have b1 : 0 ≤ s3 := hS.lo.2.2.2.1
          have b2 : s2 ≤ 2097152 := by have := hS.hi; omega
          have b3 : s3 ≤ 2097152 := by have := hS.hi; omega
          have hp := prod_le dx.d2.1 dx.d2.2 dy.d0.1 dy.d0.2
          obtain ⟨q, hq⟩ : ∃ q, q = x2 * y0 := ⟨_, rfl⟩
          rw [← hq] at hp
          have hw : IntKind.u64.wrap (x2 * y0) = q := by rw [← hq]; exact wrap_prod hp.1 hp.2
          have q0 := hp.1
          have q1 := hp.2
          have HM := Aside0.mk hM
          have HS := Aside0.mk (hS.step8 (hq.trans (mulQ_at8 _ _ _ _ _ _ _ _)) q0 q1)
          clear hM hS hp hq HI
          go_wp2
          go_quiet (fail)
          go_wp2
          go_roundw
          case rel => exact ⟨1, by omega, by omega, rfl, _, _, _, _, _, _, _, _, ((HM.out.drewN _).setS 2 _).setS 3 _, HS.out⟩
          case measure => simp [intOf]
        case inr.inl =>
          clear hk hk0
          obtain ⟨s0, s1, s2, s3, s4, s5, s6, s7, hM, hS⟩ := HI.out
          have cx : wr.cell? ⟨w.heap.size + 1, 2, none⟩ = some (.int .u64 x2) := (cell_of_row _ _ 2 _ _ _ hM.hx).trans rfl
          have cy : wr.cell? ⟨w.heap.size + 1 + 1, 1, none⟩ = some (.int .u64 y1) := (cell_of_row _ _ 1 _ _ _ hM.hy).trans rfl
          have c0 : wr.cell? ⟨w.heap.size + 1 + 1 + 1, 3, none⟩ = some (.int .u64 s3) := (cell_of_row _ _ 3 _ _ _ hM.hs).trans rfl
          have c1 : wr.cell? ⟨w.heap.size + 1 + 1 + 1, 4, none⟩ = some (.int .u64 s4) := (cell_of_row _ _ 4 _ _ _ hM.hs).trans rfl
          have f0 := frozen_of_row _ _ 3 _ _ hM.hs
          have f1 := frozen_of_row _ _ 4 _ _ hM.hs
          have b0 : 0 ≤ s3 := hS.lo.2.2.2.1
          have b1 : 0 ≤ s4 := hS.lo.2.2.2.2.1
          have b2 : s3 ≤ 2097152 := by have := hS.hi; omega
          have b3 : s4 ≤ 2097152 := by have := hS.hi; omega
          have hp := prod_le dx.d2.1 dx.d2.2 dy.d1.1 dy.d1.2
          obtain ⟨q, hq⟩ : ∃ q, q = x2 * y1 := ⟨_, rfl⟩
          rw [← hq] at hp
          have hw : IntKind.u64.wrap (x2 * y1) = q := by rw [← hq]; exact wrap_prod hp.1 hp.2
          have q0 := hp.1
          have q1 := hp.2
          have HM := Aside0.mk hM
          have HS := Aside0.mk (hS.step9 (hq.trans (mulQ_at9 _ _ _ _ _ _ _ _)) q0 q1)
          clear hM hS hp hq HI
          go_wp2
          go_quiet (fail)
          go_wp2
          go_roundw
          case rel => exact ⟨2, by omega, by omega, rfl, _, _, _, _, _, _, _, _, ((HM.out.drewN _).setS 3 _).setS 4 _, HS.out⟩
          case measure => simp [intOf]
        case inr.inr.inl =>
          clear hk hk0
          obtain ⟨s0, s1, s2, s3, s4, s5, s6, s7, hM, hS⟩ := HI.out
          have cx : wr.cell? ⟨w.heap.size + 1, 2, none⟩ = some (.int .u64 x2) := (cell_of_row _ _ 2 _ _ _ hM.hx).trans rfl
          have cy : wr.cell? ⟨w.heap.size + 1 + 1, 2, none⟩ = some (.int .u64 y2) := (cell_of_row _ _ 2 _ _ _ hM.hy).trans rfl
          have c0 : wr.cell? ⟨w.heap.size + 1 + 1 + 1, 4, none⟩ = some (.int .u64 s4) := (cell_of_row _ _ 4 _ _ _ hM.hs).trans rfl
          have c1 : wr.cell? ⟨w.heap.size + 1 + 1 + 1, 5, none⟩ = some (.int .u64 s5) := (cell_of_row _ _ 5 _ _ _ hM.hs).trans rfl
          have f0 := frozen_of_row _ _ 4 _ _ hM.hs
          have f1 := frozen_of_row _ _ 5 _ _ hM.hs
          have b0 : 0 ≤ s4 := hS.lo.2.2.2.2.1
          have b1 : 0 ≤ s5 := hS.lo.2.2.2.2.2.1
          have b2 : s4 ≤ 2097152 := by have := hS.hi; omega
          have b3 : s5 ≤ 2097152 := by have := hS.hi; omega
          have hp := prod_le dx.d2.1 dx.d2.2 dy.d2.1 dy.d2.2
          obtain ⟨q, hq⟩ : ∃ q, q = x2 * y2 := ⟨_, rfl⟩
          rw [← hq] at hp
          have hw : IntKind.u64.wrap (x2 * y2) = q := by rw [← hq]; exact wrap_prod hp.1 hp.2
          have q0 := hp.1
          have q1 := hp.2
          have HM := Aside0.mk hM
          have HS := Aside0.mk (hS.step10 (hq.trans (mulQ_at10 _ _ _ _ _ _ _ _)) q0 q1)
          clear hM hS hp hq HI
          go_wp2
          go_quiet (fail)
          go_wp2
          go_roundw
          case rel => exact ⟨3, by omega, by omega, rfl, _, _, _, _, _, _, _, _, ((HM.out.drewN _).setS 4 _).setS 5 _, HS.out⟩
          case measure => simp [intOf]
        case inr.inr.inr.inl =>
          clear hk hk0
          obtain ⟨s0, s1, s2, s3, s4, s5, s6, s7, hM, hS⟩ := HI.out
          have cx : wr.cell? ⟨w.heap.size + 1, 2, none⟩ = some (.int .u64 x2) := (cell_of_row _ _ 2 _ _ _ hM.hx).trans rfl
          have cy : wr.cell? ⟨w.heap.size + 1 + 1, 3, none⟩ = some (.int .u64 y3) := (cell_of_row _ _ 3 _ _ _ hM.hy).trans rfl
          have c0 : wr.cell? ⟨w.heap.size + 1 + 1 + 1, 5, none⟩ = some (.int .u64 s5) := (cell_of_row _ _ 5 _ _ _ hM.hs).trans rfl
          have c1 : wr.cell? ⟨w.heap.size + 1 + 1 + 1, 6, none⟩ = some (.int .u64 s6) := (cell_of_row _ _ 6 _ _ _ hM.hs).trans rfl
          have f0 := frozen_of_row _ _ 5 _ _ hM.hs
          have f1 := frozen_of_row _ _ 6 _ _ hM.hs
          have b0 : 0 ≤ s5 := hS.lo.2.2.2.2.2.1
          have b1 : 0 ≤ s6 := hS.lo.2.2.2.2.2.2.1
          have b2 : s5 ≤ 2097152 := by have := hS.hi; omega
          have b3 : s6 ≤ 2097152 := by have := hS.hi; omega
          have hp := prod_le dx.d2.1 dx.d2.2 dy.d3.1 dy.d3.2
          obtain ⟨q, hq⟩ : ∃ q, q = x2 * y3 := ⟨_, rfl⟩
          rw [← hq] at hp
          have hw : IntKind.u64.wrap (x2 * y3) = q := by rw [← hq]; exact wrap_prod hp.1 hp.2
          have q0 := hp.1
          have q1 := hp.2
          have HM := Aside0.mk hM
          have HS := Aside0.mk (hS.step11 (hq.trans (mulQ_at11 _ _ _ _ _ _ _ _)) q0 q1)
          clear hM hS hp hq HI
          go_wp2
          go_quiet (fail)
          go_wp2
          go_roundw
          case rel => exact ⟨4, by omega, by omega, rfl, _, _, _, _, _, _, _, _, ((HM.out.drewN _).setS 5 _).setS 6 _, HS.out⟩
          case measure => simp [intOf]
        case inr.inr.inr.inr =>
          clear hk hk0
          go_wp2
          go_roundw
          case rel => exact ⟨3, by omega, by omega, rfl, HI.out⟩
          case measure => simp [intOf]
    case inr.inr.inr.inl =>
      clear hi hi0
      obtain ⟨wo, rfl⟩ : ∃ wo : World, wo = wr := ⟨_, rfl⟩
      go_wp2
      go_loopw [11] (fun v wr => ∃ k : Int, 0 ≤ k ∧ k ≤ 4 ∧ v = .int .i64 k ∧ MulI w wr x0 x1 x2 x3 y0 y1 y2 y3 (12 + k.toNat)) (fun v _ => 4 - (intOf v).toNat)
      case atStart => exact ⟨0, by omega, by omega, rfl, HI.out⟩
      case round =>
        clear HI
        obtain ⟨k, hk0, hk, rfl, hI⟩ := hrel
        have HI := Aside0.mk hI
        clear hI
        have : k = 0 ∨ k = 1 ∨ k = 2 ∨ k = 3 ∨ k = 4 := by omega
        rcases this with rfl | rfl | rfl | rfl | rfl
        case inl =>
          clear hk hk0
          obtain ⟨s0, s1, s2, s3, s4, s5, s6, s7, hM, hS⟩ := HI.out
          have cx : wr.cell? ⟨w.heap.size + 1, 3, none⟩ = some (.int .u64 x3) := (cell_of_row _ _ 3 _ _ _ hM.hx).trans rfl
          have cy : wr.cell? ⟨w.heap.size + 1 + 1, 0, none⟩ = some (.int .u64 y0) := (cell_of_row _ _ 0 _ _ _ hM.hy).trans rfl
          have c0 : wr.cell? ⟨w.heap.size + 1 + 1 + 1, 3, none⟩ = some (.int .u64 s3) := (cell_of_row _ _ 3 _ _ _ hM.hs).trans rfl
          have c1 : wr.cell? ⟨w.heap.size + 1 + 1 + 1, 4, none⟩ = some (.int .u64 s4) := (cell_of_row _ _ 4 _ _ _ hM.hs).trans rfl
          have f0 := frozen_of_row _ _ 3 _ _ hM.hs
          have f1 := frozen_of_row _ _ 4 _ _ hM.hs
          have b0 : 0 ≤ s3 := hS.lo.2.2.2.1
          have b1 : 0 ≤ s4 := hS.lo.2.2.2.2.1
          have b2 : s3 ≤ 2097152 := by have := hS.hi; omega
          have b3 : s4 ≤ 2097152 := by have := hS.hi; omega
          have hp := prod_le dx.d3.1 dx.d3.2 dy.d0.1 dy.d0.2
          obtain ⟨q, hq⟩ : ∃ q, q = x3 * y0 := ⟨_, rfl⟩
          rw [← hq] at hp
          have hw : IntKind.u64.wrap (x3 * y0) = q := by rw [← hq]; exact wrap_prod hp.1 hp.2
          have q0 := hp.1
          have q1 := hp.2
          have HM := Aside0.mk hM
          have HS := Aside0.mk (hS.step12 (hq.trans (mulQ_at12 _ _ _ _ _ _ _ _)) q0 q1)
          clear hM hS hp hq HI
          go_wp2
          go_quiet (fail)
          go_wp2
          go_roundw
          case rel => exact ⟨1, by omega, by omega, rfl, _, _, _, _, _, _, _, _, ((HM.out.drewN _).setS 3 _).setS 4 _, HS.out⟩
          case measure => simp [intOf]
        case inr.inl =>
          clear hk hk0
          obtain ⟨s0, s1, s2, s3, s4, s5, s6, s7, hM, hS⟩ := HI.out
          have cx : wr.cell? ⟨w.heap.size + 1, 3, none⟩ = some (.int .u64 x3) := (cell_of_row _ _ 3 _ _ _ hM.hx).trans rfl
          have cy : wr.cell? ⟨w.heap.size + 1 + 1, 1, none⟩ = some (.int .u64 y1) := (cell_of_row _ _ 1 _ _ _ hM.hy).trans rfl
          have c0 : wr.cell? ⟨w.heap.size + 1 + 1 + 1, 4, none⟩ = some (.int .u64 s4) := (cell_of_row _ _ 4 _ _ _ hM.hs).trans rfl
          have c1 : wr.cell? ⟨w.heap.size + 1 + 1 + 1, 5, none⟩ = some (.int .u64 s5) := (cell_of_row _ _ 5 _ _ _ hM.hs).trans rfl
          have f0 := frozen_of_row _ _ 4 _ _ hM.hs
          have f1 := frozen_of_row _ _ 5 _ _ hM.hs
          have b0 : 0 ≤ s4 := hS.lo.2.2.2.2.1
          have b1 : 0 ≤ s5 := hS.lo.2.2.2.2.2.1
          have b2 : s4 ≤ 2097152 := by have := hS.hi; omega
          have b3 : s5 ≤ 2097152 := by have := hS.hi; omega
          have hp := prod_le dx.d3.1 dx.d3.2 dy.d1.1 dy.d1.2
          obtain ⟨q, hq⟩ : ∃ q, q = x3 * y1 := ⟨_, rfl⟩
          rw [← hq] at hp
          have hw : IntKind.u64.wrap (x3 * y1) = q := by rw [← hq]; exact wrap_prod hp.1 hp.2
          have q0 := hp.1
          have q1 := hp.2
          have HM := Aside0.mk hM
          have HS := Aside0.mk (hS.step13 (hq.trans (mulQ_at13 _ _ _ _ _ _ _ _)) q0 q1)
          clear hM hS hp hq HI
          go_wp2
          go_quiet (fail)
          go_wp2
          go_roundw
          case rel => exact ⟨2, by omega, by omega, rfl, _, _, _, _, _, _, _, _, ((HM.out.drewN _).setS 4 _).setS 5 _, HS.out⟩
          case measure => simp [intOf]
        case inr.inr.inl =>
          clear hk hk0
          obtain ⟨s0, s1, s2, s3, s4, s5, s6, s7, hM, hS⟩ := HI.out
          have cx : wr.cell? ⟨w.heap.size + 1, 3, none⟩ = some (.int .u64 x3) := (cell_of_row _ _ 3 _ _ _ hM.hx).trans rfl
          have cy : wr.cell? ⟨w.heap.size + 1 + 1, 2, none⟩ = some (.int .u64 y2) := (cell_of_row _ _ 2 _ _ _ hM.hy).trans rfl
          have c0 : wr.cell? ⟨w.heap.size + 1 + 1 + 1, 5, none⟩ = some (.int .u64 s5) := (cell_of_row _ _ 5 _ _ _ hM.hs).trans rfl
          have c1 : wr.cell? ⟨w.heap.size + 1 + 1 + 1, 6, none⟩ = some (.int .u64 s6) := (cell_of_row _ _ 6 _ _ _ hM.hs).trans rfl
          have f0 := frozen_of_row _ _ 5 _ _ hM.hs
          have f1 := frozen_of_row _ _ 6 _ _ hM.hs
          have b0 : 0 ≤ s5 := hS.lo.2.2.2.2.2.1
          have b1 : 0 ≤ s6 := hS.lo.2.2.2.2.2.2.1
          have b2 : s5 ≤ 2097152 := by have := hS.hi; omega
          have b3 : s6 ≤ 2097152 := by have := hS.hi; omega
          have hp := prod_le dx.d3.1 dx.d3.2 dy.d2.1 dy.d2.2
          obtain ⟨q, hq⟩ : ∃ q, q = x3 * y2 := ⟨_, rfl⟩
          rw [← hq] at hp
          have hw : IntKind.u64.wrap (x3 * y2) = q := by rw [← hq]; exact wrap_prod hp.1 hp.2
          have q0 := hp.1
          have q1 := hp.2
          have HM := Aside0.mk hM
          have HS := Aside0.mk (hS.step14 (hq.trans (mulQ_at14 _ _ _ _ _ _ _ _)) q0 q1)
          clear hM hS hp hq HI
          go_wp2
          go_quiet (fail)
          go_wp2
          go_roundw
          case rel => exact ⟨3, by omega, by omega, rfl, _, _, _, _, _, _, _, _, ((HM.out.drewN _).setS 5 _).setS 6 _, HS.out⟩
          case measure => simp [intOf]
        case inr.inr.inr.inl =>
          clear hk hk0
          obtain ⟨s0, s1, s2, s3, s4, s5, s6, s7, hM, hS⟩ := HI.out
          have cx : wr.cell? ⟨w.heap.size + 1, 3, none⟩ = some (.int .u64 x3) := (cell_of_row _ _ 3 _ _ _ hM.hx).trans rfl
          have cy : wr.cell? ⟨w.heap.size + 1 + 1, 3, none⟩ = some (.int .u64 y3) := (cell_of_row _ _ 3 _ _ _ hM.hy).trans rfl
          have c0 : wr.cell? ⟨w.heap.size + 1 + 1 + 1, 6, none⟩ = some (.int .u64 s6) := (cell_of_row _ _ 6 _ _ _ hM.hs).trans rfl
          have c1 : wr.cell? ⟨w.heap.size + 1 + 1 + 1, 7, none⟩ = some (.int .u64 s7) := (cell_of_row _ _ 7 _ _ _ hM.hs).trans rfl
          have f0 := frozen_of_row _ _ 6 _ _ hM.hs
          have f1 := frozen_of_row _ _ 7 _ _ hM.hs
          have b0 : 0 ≤ s6 := hS.lo.2.2.2.2.2.2.1
          have b1 : 0 ≤ s7 := hS.lo.2.2.2.2.2.2.2
          have b2 : s6 ≤ 2097152 := by have := hS.hi; omega
          have b3 : s7 ≤ 2097152 := by have := hS.hi; omega
          have hp := prod_le dx.d3.1 dx.d3.2 dy.d3.1 dy.d3.2
          obtain ⟨q, hq⟩ : ∃ q, q = x3 * y3 := ⟨_, rfl⟩
          rw [← hq] at hp
          have hw : IntKind.u64.wrap (x3 * y3) = q := by rw [← hq]; exact wrap_prod hp.1 hp.2
          have q0 := hp.1
          have q1 := hp.2
          have HM := Aside0.mk hM
          have HS := Aside0.mk (hS.step15 (hq.trans (mulQ_at15 _ _ _ _ _ _ _ _)) q0 q1)
          clear hM hS hp hq HI
          go_wp2
          go_quiet (fail)
          go_wp2
          go_roundw
          case rel => exact ⟨4, by omega, by omega, rfl, _, _, _, _, _, _, _, _, ((HM.out.drewN _).setS 6 _).setS 7 _, HS.out⟩
          case measure => simp [intOf]
        case inr.inr.inr.inr =>
          clear hk hk0
          go_wp2
          go_roundw
          case rel => exact ⟨4, by omega, by omega, rfl, HI.out⟩
          case measure => simp [intOf]
    case inr.inr.inr.inr =>
      obtain ⟨s0, s1, s2, s3, s4, s5, s6, s7, hM, hS⟩ := HI.out
      clear HI hi hi0
      have HV := Aside0.mk (MulV.of hM)
      have HO := Aside0.mk hS.outs
      clear hM hS
      obtain ⟨wo, rfl⟩ : ∃ wo : World, wo = wr := ⟨_, rfl⟩
      go_wp2
      go_loopw [14, 15] (fun cv v w2 => ∃ i : Int, 0 ≤ i ∧ i ≤ 8 ∧ v = .int .i64 i ∧ MulO w w2 wo.heap.size (mulT (mulQ x0 x1 x2 x3 y0 y1 y2 y3) 16) i.toNat cv) (fun _ v _ => 8 - (intOf v).toNat)
      case atStart => exact ⟨0, by omega, by omega, rfl, _, _, _, _, _, _, _, _, _, _, _, _, _, _, _, _, _, HV.out, HO.out, rfl⟩
      case round =>
        clear HV HO
        obtain ⟨i, hi0, hi, rfl, s0, s1, s2, s3, s4, s5, s6, s7, o0, o1, o2, o3, o4, o5, o6, o7, c, hV, hO, rfl⟩ := hrel
        have : i = 0 ∨ i = 1 ∨ i = 2 ∨ i = 3 ∨ i = 4 ∨ i = 5 ∨ i = 6 ∨ i = 7 ∨ i = 8 := by omega
        rcases this with rfl | rfl | rfl | rfl | rfl | rfl | rfl | rfl | rfl
        case inl =>
          clear hi hi0
          have c0 : wr.cell? ⟨w.heap.size + 1 + 1 + 1, 0, none⟩ = some (.int .u64 s0) := (cell_of_row _ _ 0 _ _ _ hV.hs).trans rfl
          have c1 : wr.cell? ⟨w.heap.size, 0, none⟩ = some (.int .u64 o0) := (cell_of_row _ _ 0 _ _ _ hV.hd).trans rfl
          have f1 := frozen_of_row _ _ 0 _ _ hV.hd
          have b0 : 0 ≤ s0 := hO.sl.1
          have b1 : s0 ≤ 2097152 := hO.sh.1
          have b2 : 0 ≤ c := by have := hO.lo; omega
          have b3 : c ≤ 65535 := by have := hO.hi; omega
          have HV := Aside0.mk hV
          have HO := Aside0.mk hO.step0
          clear hV hO
          go_wp2
          go_roundw
          case rel => exact ⟨1, by omega, by omega, rfl, _, _, _, _, _, _, _, _, _, _, _, _, _, _, _, _, _, HV.out.setD 0 _, HO.out, rfl⟩
          case measure => simp [intOf]
        case inr.inl =>
          clear hi hi0
          have c0 : wr.cell? ⟨w.heap.size + 1 + 1 + 1, 1, none⟩ = some (.int .u64 s1) := (cell_of_row _ _ 1 _ _ _ hV.hs).trans rfl
          have c1 : wr.cell? ⟨w.heap.size, 1, none⟩ = some (.int .u64 o1) := (cell_of_row _ _ 1 _ _ _ hV.hd).trans rfl
          have f1 := frozen_of_row _ _ 1 _ _ hV.hd
          have b0 : 0 ≤ s1 := hO.sl.2.1
          have b1 : s1 ≤ 2097152 := hO.sh.2.1
          have b2 : 0 ≤ c := by have := hO.lo; omega
          have b3 : c ≤ 65535 := by have := hO.hi; omega
          have HV := Aside0.mk hV
          have HO := Aside0.mk hO.step1
          clear hV hO
          go_wp2
          go_roundw
          case rel => exact ⟨2, by omega, by omega, rfl, _, _, _, _, _, _, _, _, _, _, _, _, _, _, _, _, _, HV.out.setD 1 _, HO.out, rfl⟩
          case measure => simp [intOf]
        case inr.inr.inl =>
          clear hi hi0
          have c0 : wr.cell? ⟨w.heap.size + 1 + 1 + 1, 2, none⟩ = some (.int .u64 s2) := (cell_of_row _ _ 2 _ _ _ hV.hs).trans rfl
          have c1 : wr.cell? ⟨w.heap.size, 2, none⟩ = some (.int .u64 o2) := (cell_of_row _ _ 2 _ _ _ hV.hd).trans rfl
          have f1 := frozen_of_row _ _ 2 _ _ hV.hd
          have b0 : 0 ≤ s2 := hO.sl.2.2.1
          have b1 : s2 ≤ 2097152 := hO.sh.2.2.1
          have b2 : 0 ≤ c := by have := hO.lo; omega
          have b3 : c ≤ 65535 := by have := hO.hi; omega
          have HV := Aside0.mk hV
          have HO := Aside0.mk hO.step2
          clear hV hO
          go_wp2
          go_roundw
          case rel => exact ⟨3, by omega, by omega, rfl, _, _, _, _, _, _, _, _, _, _, _, _, _, _, _, _, _, HV.out.setD 2 _, HO.out, rfl⟩
          case measure => simp [intOf]
        case inr.inr.inr.inl =>
          clear hi hi0
          have c0 : wr.cell? ⟨w.heap.size + 1 + 1 + 1, 3, none⟩ = some (.int .u64 s3) := (cell_of_row _ _ 3 _ _ _ hV.hs).trans rfl
          have c1 : wr.cell? ⟨w.heap.size, 3, none⟩ = some (.int .u64 o3) := (cell_of_row _ _ 3 _ _ _ hV.hd).trans rfl
          have f1 := frozen_of_row _ _ 3 _ _ hV.hd
          have b0 : 0 ≤ s3 := hO.sl.2.2.2.1
          have b1 : s3 ≤ 2097152 := hO.sh.2.2.2.1
          have b2 : 0 ≤ c := by have := hO.lo; omega
          have b3 : c ≤ 65535 := by have := hO.hi; omega
          have HV := Aside0.mk hV
          have HO := Aside0.mk hO.step3
          clear hV hO
          go_wp2
          go_roundw
          case rel => exact ⟨4, by omega, by omega, rfl, _, _, _, _, _, _, _, _, _, _, _, _, _, _, _, _, _, HV.out.setD 3 _, HO.out, rfl⟩
          case measure => simp [intOf]
        case inr.inr.inr.inr.inl =>
          clear hi hi0
          have c0 : wr.cell? ⟨w.heap.size + 1 + 1 + 1, 4, none⟩ = some (.int .u64 s4) := (cell_of_row _ _ 4 _ _ _ hV.hs).trans rfl
          have c1 : wr.cell? ⟨wo.heap.size, 0, none⟩ = some (.int .u64 o4) := (cell_of_row _ _ 0 _ _ _ hV.hh).trans rfl
          have f1 := frozen_of_row _ _ 0 _ _ hV.hh
          have b0 : 0 ≤ s4 := hO.sl.2.2.2.2.1
          have b1 : s4 ≤ 2097152 := hO.sh.2.2.2.2.1
          have b2 : 0 ≤ c := by have := hO.lo; omega
          have b3 : c ≤ 65535 := by have := hO.hi; omega
          have HV := Aside0.mk hV
          have HO := Aside0.mk hO.step4
          clear hV hO
          go_wp2
          go_roundw
          case rel => exact ⟨5, by omega, by omega, rfl, _, _, _, _, _, _, _, _, _, _, _, _, _, _, _, _, _, HV.out.setH 0 _, HO.out, rfl⟩
          case measure => simp [intOf]
        case inr.inr.inr.inr.inr.inl =>
          clear hi hi0
          have c0 : wr.cell? ⟨w.heap.size + 1 + 1 + 1, 5, none⟩ = some (.int .u64 s5) := (cell_of_row _ _ 5 _ _ _ hV.hs).trans rfl
          have c1 : wr.cell? ⟨wo.heap.size, 1, none⟩ = some (.int .u64 o5) := (cell_of_row _ _ 1 _ _ _ hV.hh).trans rfl
          have f1 := frozen_of_row _ _ 1 _ _ hV.hh
          have b0 : 0 ≤ s5 := hO.sl.2.2.2.2.2.1
          have b1 : s5 ≤ 2097152 := hO.sh.2.2.2.2.2.1
          have b2 : 0 ≤ c := by have := hO.lo; omega
          have b3 : c ≤ 65535 := by have := hO.hi; omega
          have HV := Aside0.mk hV
          have HO := Aside0.mk hO.step5
          clear hV hO
          go_wp2
          go_roundw
          case rel => exact ⟨6, by omega, by omega, rfl, _, _, _, _, _, _, _, _, _, _, _, _, _, _, _, _, _, HV.out.setH 1 _, HO.out, rfl⟩
          case measure => simp [intOf]
        case inr.inr.inr.inr.inr.inr.inl =>
          clear hi hi0
          have c0 : wr.cell? ⟨w.heap.size + 1 + 1 + 1, 6, none⟩ = some (.int .u64 s6) := (cell_of_row _ _ 6 _ _ _ hV.hs).trans rfl
          have c1 : wr.cell? ⟨wo.heap.size, 2, none⟩ = some (.int .u64 o6) := (cell_of_row _ _ 2 _ _ _ hV.hh).trans rfl
          have f1 := frozen_of_row _ _ 2 _ _ hV.hh
          have b0 : 0 ≤ s6 := hO.sl.2.2.2.2.2.2.1
          have b1 : s6 ≤ 2097152 := hO.sh.2.2.2.2.2.2.1
          have b2 : 0 ≤ c := by have := hO.lo; omega
          have b3 : c ≤ 65535 := by have := hO.hi; omega
          have HV := Aside0.mk hV
          have HO := Aside0.mk hO.step6
          clear hV hO
          go_wp2
          go_roundw
          case rel => exact ⟨7, by omega, by omega, rfl, _, _, _, _, _, _, _, _, _, _, _, _, _, _, _, _, _, HV.out.setH 2 _, HO.out, rfl⟩
          case measure => simp [intOf]
        case inr.inr.inr.inr.inr.inr.inr.inl =>
          clear hi hi0
          have c0 : wr.cell? ⟨w.heap.size + 1 + 1 + 1, 7, none⟩ = some (.int .u64 s7) := (cell_of_row _ _ 7 _ _ _ hV.hs).trans rfl
          have c1 : wr.cell? ⟨wo.heap.size, 3, none⟩ = some (.int .u64 o7) := (cell_of_row _ _ 3 _ _ _ hV.hh).trans rfl
          have f1 := frozen_of_row _ _ 3 _ _ hV.hh
          have b0 : 0 ≤ s7 := hO.sl.2.2.2.2.2.2.2
          have b1 : s7 ≤ 2097152 := hO.sh.2.2.2.2.2.2.2
          have b2 : 0 ≤ c := by have := hO.lo; omega
          have b3 : c ≤ 65535 := by have := hO.hi; omega
          have HV := Aside0.mk hV
          have HO := Aside0.mk hO.step7
          clear hV hO
          go_wp2
          go_roundw
          case rel => exact ⟨8, by omega, by omega, rfl, _, _, _, _, _, _, _, _, _, _, _, _, _, _, _, _, _, HV.out.setH 3 _, HO.out, rfl⟩
          case measure => simp [intOf]
        case inr.inr.inr.inr.inr.inr.inr.inr =>
          clear hi hi0
          have c0 : wr.cell? ⟨w.heap.size, 0, none⟩ = some (.int .u64 o0) := (cell_of_row _ _ 0 _ _ _ hV.hd).trans rfl
          have e0 : wr.cell? ⟨wo.heap.size, 0, none⟩ = some (.int .u64 o4) := (cell_of_row _ _ 0 _ _ _ hV.hh).trans rfl
          have c1 : wr.cell? ⟨w.heap.size, 1, none⟩ = some (.int .u64 o1) := (cell_of_row _ _ 1 _ _ _ hV.hd).trans rfl
          have e1 : wr.cell? ⟨wo.heap.size, 1, none⟩ = some (.int .u64 o5) := (cell_of_row _ _ 1 _ _ _ hV.hh).trans rfl
          have c2 : wr.cell? ⟨w.heap.size, 2, none⟩ = some (.int .u64 o2) := (cell_of_row _ _ 2 _ _ _ hV.hd).trans rfl
          have e2 : wr.cell? ⟨wo.heap.size, 2, none⟩ = some (.int .u64 o6) := (cell_of_row _ _ 2 _ _ _ hV.hh).trans rfl
          have c3 : wr.cell? ⟨w.heap.size, 3, none⟩ = some (.int .u64 o3) := (cell_of_row _ _ 3 _ _ _ hV.hd).trans rfl
          have e3 : wr.cell? ⟨wo.heap.size, 3, none⟩ = some (.int .u64 o7) := (cell_of_row _ _ 3 _ _ _ hV.hh).trans rfl
          have l0 : 0 ≤ o0 := hO.lo.1
          have m0 : o0 ≤ 65535 := hO.hi.1
          have l1 : 0 ≤ o1 := hO.lo.2.1
          have m1 : o1 ≤ 65535 := hO.hi.2.1
          have l2 : 0 ≤ o2 := hO.lo.2.2.1
          have m2 : o2 ≤ 65535 := hO.hi.2.2.1
          have l3 : 0 ≤ o3 := hO.lo.2.2.2.1
          have m3 : o3 ≤ 65535 := hO.hi.2.2.2.1
          have l4 : 0 ≤ o4 := hO.lo.2.2.2.2.1
          have m4 : o4 ≤ 65535 := hO.hi.2.2.2.2.1
          have l5 : 0 ≤ o5 := hO.lo.2.2.2.2.2.1
          have m5 : o5 ≤ 65535 := hO.hi.2.2.2.2.2.1
          have l6 : 0 ≤ o6 := hO.lo.2.2.2.2.2.2.1
          have m6 : o6 ≤ 65535 := hO.hi.2.2.2.2.2.2.1
          have l7 : 0 ≤ o7 := hO.lo.2.2.2.2.2.2.2.1
          have m7 : o7 ≤ 65535 := hO.hi.2.2.2.2.2.2.2.1
          have HV := Aside0.mk hV
          have HO := Aside0.mk hO
          clear hV hO
          go_wp2
          go_quiet (fail)
          go_wp2
          go_ret2
          exact ⟨⟨_, _, _, _, _, _, _, _, _, _, _, _, _, _, _, _, _, rfl, HO.out⟩, pw_below_drewN HV.out.hb _⟩
theorem mulT_16 (x0 x1 x2 x3 y0 y1 y2 y3 : Int) : mulT (mulQ x0 x1 x2 x3 y0 y1 y2 y3) 16 = (x0 + 65536 * x1 + 4294967296 * x2 + 281474976710656 * x3) * (y0 + 65536 * y1 + 4294967296 * y2 + 281474976710656 * y3) := by
  simp only [mulT, mulQ, mulC, List.getD_cons_zero, List.getD_cons_succ]
  grind
theorem dig_of {a : Int} (h0 : 0 ≤ a) (h1 : a < 18446744073709551616) : Dig (a % 65536) (a / 65536 % 65536) (a / 4294967296 % 65536) (a / 281474976710656) ∧ a % 65536 + 65536 * (a / 65536 % 65536) + 4294967296 * (a / 4294967296 % 65536) + 281474976710656 * (a / 281474976710656) = a :=
  ⟨⟨by omega, by omega, by omega, by omega⟩, by omega⟩
theorem outs_end {t s0 s1 s2 s3 s4 s5 s6 s7 o0 o1 o2 o3 o4 o5 o6 o7 c : Int} (h : Outs t 8 s0 s1 s2 s3 s4 s5 s6 s7 o0 o1 o2 o3 o4 o5 o6 o7 c) (ht : t < 340282366920938463463374607431768211456) : o0 + o1 * 65536 + o2 * 4294967296 + o3 * 281474976710656 = t % 18446744073709551616 ∧ o4 + o5 * 65536 + o6 * 4294967296 + o7 * 281474976710656 = t / 18446744073709551616 := by
  obtain ⟨lo, hi, _, _, sum⟩ := h
  simp only [outSum] at sum
  omega
theorem ref07_Mul.calls (a0 a1 r1 r2 : Int) (w : World) (h : ref07_Mul.f a0 a1 = some (r1, r2)) :
    Calls Tryz.prog 82 #[.int .u64 a0, .int .u64 a1] w fun e w' => e = .returned (.tuple #[.int .u64 r1, .int .u64 r2]) ∧ Below w.heap.size w w' := by
  unfold ref07_Mul.f at h
  by_cases hh : 0 ≤ a0 ∧ a0 < M64 ∧ 0 ≤ a1 ∧ a1 < M64
  case neg => rw [if_neg hh] at h; exact absurd h (by simp)
  rw [if_pos hh] at h
  simp only [Option.some.injEq, Prod.mk.injEq] at h
  obtain ⟨rfl, rfl⟩ := h
  unfold M64 at *
  obtain ⟨h0, h1, h2, h3⟩ := hh
  obtain ⟨da, ea⟩ := dig_of h0 h1
  obtain ⟨db, eb⟩ := dig_of h2 h3
  have q : ∀ x y : Int, 0 ≤ x → x < 18446744073709551616 → 1 ≤ y → IntKind.u64.wrap (x.tdiv y) = x / y := fun x y hx hy hz => IntWalk.u64_quo x y ⟨hx, by omega, hz⟩
  refine (mul_any a0 a1 w h0 h2 (a0 / 65536) (a0 / 4294967296) (a1 / 65536) (a1 / 4294967296) _ _ _ _ _ _ _ _ rfl (q _ _ h0 h1 (by decide)) (q _ _ h0 h1 (by decide)) (by omega) (by omega) rfl rfl (q _ _ h0 h1 (by decide)) rfl (q _ _ h2 h3 (by decide)) (q _ _ h2 h3 (by decide)) (by omega) (by omega) rfl rfl (q _ _ h2 h3 (by decide)) da db).mono ?_
  rintro e w' ⟨⟨s0, s1, s2, s3, s4, s5, s6, s7, o0, o1, o2, o3, o4, o5, o6, o7, c, rfl, hO⟩, hb⟩
  rw [mulT_16, ea, eb] at hO
  have hlt : a0 * a1 < 340282366920938463463374607431768211456 := by
    have := Int.mul_le_mul (show a0 ≤ 18446744073709551615 by omega) (show a1 ≤ 18446744073709551615 by omega) h2 (by decide)
    omega
  obtain ⟨e1, e2⟩ := outs_end hO hlt
  exact ⟨by rw [e1, e2], hb⟩
end Go.Proofs.YtfcniikbcjmlcaaGreatDoor
end
