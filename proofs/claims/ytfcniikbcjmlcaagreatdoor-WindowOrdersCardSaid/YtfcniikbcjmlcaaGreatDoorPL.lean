/- Part PL of the proof of spinnakerlaw19.WindowOrders: for every input the law returns true. -/
import Derived.Deep.MidRow
import Derived.Deep.RegionHeld3
import Derived.Deep.RegionLaw
import Derived.Deep.Upon
import Derived.Lib.SliceRun
import Derived.StillTailTactics
import Derived.Test.YtfcniikbcjmlcaaGreatDoorKK
import Derived.Test.YtfcniikbcjmlcaaGreatDoorKQB10
import Derived.Test.YtfcniikbcjmlcaaGreatDoorKQB11
import Derived.Test.YtfcniikbcjmlcaaGreatDoorKQB12
import Derived.Test.YtfcniikbcjmlcaaGreatDoorKQB13
import Derived.Test.YtfcniikbcjmlcaaGreatDoorKQB6
import Derived.Test.YtfcniikbcjmlcaaGreatDoorPD
import Derived.Test.YtfcniikbcjmlcaaGreatDoorPE
import Derived.Test.YtfcniikbcjmlcaaGreatDoorPF
import Derived.Test.YtfcniikbcjmlcaaGreatDoorPK
section
namespace Go.Proofs.YtfcniikbcjmlcaaGreatDoor
open Go.RowKit Go.Proofs.YtfcniikbcjmlcaaGreatDoorW.PrintWords Go.Proofs.YtfcniikbcjmlcaaGreatDoorW.PrintLast Go.Proofs.YtfcniikbcjmlcaaGreatDoorW.PrintMore
set_option linter.unusedVariables false
set_option linter.unusedSimpArgs false
theorem run_clear_one {P : Program} (w : World) (t e ty : TypeId) (z : Value) (zs : List Value) (ht : P.underlying t = some (.slice e)) (hv : ∀ w, (zeroValue e).run P w = .ok z w) (hz : (Builtin.zeroCells z.cells 1).toList = zs) (h1 : ∀ v ∈ zs, v.oneCell' = true) (b o c : Nat)
  (hc : ∀ j, j < zs.length → (w.cell? ⟨b, o + j, none⟩).isSome = true) (hf : ∀ j, j < zs.length → w.frozen? ⟨b, o + j, none⟩ = false) :
  (Builtin.clear_ #[t] ty #[.slice (some ⟨b, o, none⟩) 1 c]).run P w = .ok (.tuple #[]) (w.setCells b o zs) := by
 have hst := run_storeCells_cells (P := P) b o zs 0 w (by simpa using hc) (by simpa using hf) h1
 simp only [Nat.add_zero] at hst
 simp [Builtin.clear_, run_underlying ht, hv, hz, hst]
def restCells (pc : Nat → Int) (E : Nat → Ent) (m : Nat) : List Value := (List.range (m * 18)).map fun j => ((entCells (pc (j / 18 + 1)) (E (j / 18 + 1)))[j % 18]?).getD undef
theorem entCells_len (pc : Int) (e : Ent) : (entCells pc e).length = 18 := rfl
theorem restCells_get (pc : Nat → Int) (E : Nat → Ent) (m j : Nat) (hj : j < m * 18) : (restCells pc E m)[j]? = (entCells (pc (j / 18 + 1)) (E (j / 18 + 1)))[j % 18]? := by
 unfold restCells
 rw [List.getElem?_map, List.getElem?_range hj]
 have : j % 18 < (entCells (pc (j / 18 + 1)) (E (j / 18 + 1))).length := by rw [entCells_len]; omega
 rw [List.getElem?_eq_getElem this, Option.map_some, List.getElem?_eq_getElem this, Option.getD_some]
theorem restCells_len (pc : Nat → Int) (E : Nat → Ent) (m : Nat) : (restCells pc E m).length = m * 18 := by simp [restCells]
abbrev zeros18 : List Value := [.int .i64 0, .int .i64 0, .int .i64 0, .int .i64 0, .int .i64 0, .int .i64 0, .bool false, .bool false, .int .i64 0, .int .i64 0, .bool false, .int .i64 0, .int .i64 0, .bool false, .bool false, .bool false, .int .i64 0, .int .i64 0]
theorem entry_zero (w : World) : (zeroValue 45).run Tryz.prog w = .ok (.agg zeros18.toArray) w := by
 have h : (Tryz.prog.info? 45).map (·.zero) = some (some (.agg zeros18.toArray)) := by kernel_rfl
 cases hi : Tryz.prog.info? 45 with
 | none => rw [hi] at h; cases h
 | some i =>
  rw [hi] at h
  have hz : i.zero = some (.agg zeros18.toArray) := by simpa using h
  simp [zeroValue, typeInfo, hi, hz]
theorem entCells_one (pc : Int) (e : Ent) : ∀ v ∈ entCells pc e, v.oneCell' = true := by
 intro v hv
 simp only [entCells, List.mem_cons, List.not_mem_nil, or_false] at hv
 rcases hv with rfl | rfl | rfl | rfl | rfl | rfl | rfl | rfl | rfl | rfl | rfl | rfl | rfl | rfl | rfl | rfl | rfl | rfl <;> rfl
theorem restCells_one (pc : Nat → Int) (E : Nat → Ent) (m : Nat) : ∀ v ∈ restCells pc E m, v.oneCell' = true := by
 intro v hv
 obtain ⟨j, hj, rfl⟩ := List.mem_iff_getElem.1 hv
 rw [restCells_len] at hj
 have h1 : (restCells pc E m)[j]? = some ((restCells pc E m)[j]'(by rw [restCells_len]; exact hj)) := List.getElem?_eq_getElem _
 rw [restCells_get pc E m j hj] at h1
 exact entCells_one _ _ _ (List.mem_of_getElem? h1)
theorem But.set (W : World) (B o : Nat) (vs : List Value) : But B W (W.setCells B o vs) where
 os := by induction vs generalizing W o with
  | nil => rfl
  | cons v r ih => exact (ih _ _).trans rfl
 tape := by induction vs generalizing W o with
  | nil => rfl
  | cons v r ih => exact (ih _ _).trans rfl
 output := by induction vs generalizing W o with
  | nil => rfl
  | cons v r ih => exact (ih _ _).trans rfl
 size := by
  induction vs generalizing W o with
  | nil => exact Nat.le_refl _
  | cons v r ih => exact Nat.le_trans (Nat.le_of_eq (by simp [World.setCell])) (ih (W.setCell ⟨B, o, none⟩ v) (o + 1))
 block k hk hB := World.heap_setCells_other W B o vs hk hB
set_option maxHeartbeats 4000000 in
set_option maxRecDepth 1000000 in
theorem Delete_calls (w : World) (B n cap : Nat) (pc : Nat → Int) (E : Nat → Ent) (h0 : 0 < n) (hn : n ≤ 100) (hnc : n ≤ cap) (hcap : cap ≤ 9223372036854775807) (hBl : B < w.heap.size) (hen : ∀ k, k < n → w.rangeAt B (k * 18) (entCells (pc k) (E k))) (hfz : ∀ o, w.frozen? { block := B, off := o } = false) :
  Calls Tryz.prog 42 #[.slice (some { block := B, off := 0 }) n cap, .int .i64 0, .int .i64 1] w fun e w' => e = .returned (.slice (some { block := B, off := 0 }) (n - 1) cap) ∧ But B w w' ∧ (∀ k, k < n - 1 → w'.rangeAt B (k * 18) (entCells (pc (k + 1)) (E (k + 1)))) ∧ (∀ o, w'.frozen? { block := B, off := o } = false) := by
 obtain ⟨m, rfl⟩ : ∃ m, n = m + 1 := ⟨n - 1, by omega⟩
 have hcell : ∀ j, j < (m + 1) * 18 → (w.cell? { block := B, off := j }).isSome = true := by
  intro j hj
  have h1 : j % 18 < (entCells (pc (j / 18)) (E (j / 18))).length := by rw [entCells_len]; omega
  have := hen (j / 18) (by omega) (j % 18) _ (List.getElem?_eq_getElem h1)
  rw [show j / 18 * 18 + j % 18 = j by omega] at this
  rw [this]; rfl
 obtain ⟨news, hnews⟩ : ∃ news, news = restCells pc E m := ⟨_, rfl⟩
 have hlen : news.length = m * 18 := by rw [hnews, restCells_len]
 obtain ⟨A, hA, hsrc⟩ : ∃ A : Addr, (if cap = 1 then (some ⟨B, 0, none⟩ : Option Addr) else some ⟨B, 18, none⟩) = some A ∧ Hid (∀ t u, news[t]? = some u → w.drew.cell? (A.add t) = some u) := by
  by_cases h : cap = 1
  ·refine ⟨⟨B, 0, none⟩, by simp [h], fun t u hu => ?_⟩
   have h0 : news.length = 0 := by rw [hlen]; omega
   rw [List.length_eq_zero_iff.1 h0] at hu
   simp at hu
  refine ⟨⟨B, 18, none⟩, by simp [h], fun t u hu => ?_⟩
  have ht : t < m * 18 := by
   have := (List.getElem?_eq_some_iff.1 hu).1
   rwa [hlen] at this
  rw [hnews, restCells_get pc E m t ht] at hu
  have := hen (t / 18 + 1) (by omega) (t % 18) u hu
  rw [Addr.add_lit]
  rw [show (t / 18 + 1) * 18 + t % 18 = 18 + t by omega] at this
  exact this
 have s1 : Hid (news.length = m * 18) := hlen
 have s2 : Hid (∀ u ∈ news, u.oneCell' = true) := by rw [hnews]; exact restCells_one pc E m
 have s3 : Hid (∀ t, t < news.length → (w.drew.cell? ⟨B, 0 + 0 * 18 + t, none⟩).isSome = true ∧ w.drew.frozen? ⟨B, 0 + 0 * 18 + t, none⟩ = false) := by
  intro t ht
  rw [hlen] at ht
  rw [Nat.zero_mul, Nat.add_zero, Nat.zero_add]
  exact ⟨hcell t (by omega), hfz t⟩
 obtain ⟨W1, hW1⟩ : ∃ W1, W1 = w.drew.setCells B (0 + 0 * 18) news := ⟨_, rfl⟩
 have hf1 : ∀ o, W1.frozen? { block := B, off := o } = false := fun o => by rw [hW1, World.frozen?_setCells]; exact hfz o
 have hc1 : ∀ j, j < (m + 1) * 18 → (W1.cell? { block := B, off := j }).isSome = true := fun j hj => by
  rw [hW1]
  exact World.isSome_setCells B news _ _ _ (hcell j hj)
 have hcl : ∀ ty, (Builtin.clear_ #[35] ty #[.slice (some ⟨B, m * 18, none⟩) 1 (cap - m)]).run Tryz.prog W1 = .ok (.tuple #[]) (W1.setCells B (m * 18) zeros18) :=
  fun ty => run_clear_one W1 _ _ ty _ zeros18 Tryz.underlying35 entry_zero (by kernel_rfl) (by decide) B (m * 18) _ (fun j hj => hc1 _ (by have : j < 18 := hj; omega)) (fun j hj => hf1 _)
 have hfin : But B w (W1.setCells B (m * 18) zeros18) ∧ (∀ k, k < m → (W1.setCells B (m * 18) zeros18).rangeAt B (k * 18) (entCells (pc (k + 1)) (E (k + 1)))) ∧ (∀ o, (W1.setCells B (m * 18) zeros18).frozen? { block := B, off := o } = false) := by
  have b1 : But B w W1 := by
   rw [hW1]
   have := But.set w.drew B (0 + 0 * 18) news
   exact ⟨this.os, this.tape, this.output, this.size, this.block⟩
  refine ⟨b1.trans (But.set _ _ _ _), fun k hk => ?_, fun o => by rw [World.frozen?_setCells]; exact hf1 o⟩
  refine World.rangeAt_setCells_apart (fun j v hv => ?_) _ _ _ (.inr (.inl (by rw [entCells_len]; omega)))
  have hj : j < 18 := (List.getElem?_eq_some_iff.1 hv).1
  have hin := World.cell?_setCells_in B news 0 w.drew (fun t ht => by rw [hlen] at ht; rw [Nat.zero_add]; exact hcell t (by omega)) (k * 18 + j) (by rw [hlen]; omega)
  rw [hW1, Nat.zero_mul, Nat.add_zero]
  rw [Nat.zero_add] at hin
  rw [hin, ← List.getElem?_eq_getElem, hnews, restCells_get pc E m _ (by omega), show (k * 18 + j) / 18 = k by omega, show (k * 18 + j) % 18 = j by omega]
  exact hv
 have X := Aside0.mk hfin
 have hW : Hid (W1 = w.drew.setCells B (0 + 0 * 18) news) := hW1
 obtain ⟨i0, hi0, hz1⟩ : ∃ i0, Tryz.prog.info? 45 = some i0 ∧ i0.size = 18 := by
  have h : (Tryz.prog.info? 45).map (·.size) = some 18 := by kernel_rfl
  cases hi : Tryz.prog.info? 45 with
  | none => rw [hi] at h; cases h
  | some i => rw [hi] at h; exact ⟨i, rfl, by simpa using h⟩
 have q1 : (1 : Int) ≤ (m : Int) + 1 := by omega
 have q2 : (m : Int) ≤ (m : Int) + 1 := by omega
 have q3 : (m : Int) + 1 ≤ (cap : Int) := by omega
 clear hW1 hf1 hc1 hnews hlen hfin hcell hen hfz
 go_enter Tryz.func42, Tryz.ntmps42
 go_wp2_with fail
 go_region_law (refine step_append_room rfl (.tmp 22) (.tmp 25) 35 rfl 45 i0 18 Tryz.underlying35 hi0 hz1 B 0 0 cap (by simp [Act.eval, Act.put]) A m (cap - 1) news (by simp [Act.eval, Act.put]) s1.out hsrc.out s2.out (by omega) s3.out ?_; rw [← hW.out])
 go_wp2
 go_ret
 exact ⟨by first | rfl | (simp; done), X.out⟩
theorem place_at (i n : Nat) (hi : i < n) (hn : n ≤ 12) : QA.image_place.f (65536 + 4 * (i : Int)) 65536 4 (n : Int) = some ((i : Int), true) := by
 have h1 : wrap64 (4 * (n : Int)) = 4 * n := by unfold wrap64; omega
 have h2 : wrap64 (65536 + 4 * (n : Int)) = 65536 + 4 * n := by unfold wrap64; omega
 have h3 : wrap64 (65536 + 4 * (i : Int) - 65536) = 4 * i := by unfold wrap64; omega
 have h4 : Int.tmod (65536 + 4 * (i : Int)) 4 = 0 := by rw [Int.tmod_eq_emod_of_nonneg (by omega)]; omega
 have h5 : wrap64 (Int.tdiv (4 * (i : Int)) 4) = i := by rw [Int.tdiv_eq_ediv_of_nonneg (by omega)]; unfold wrap64; omega
 unfold QA.image_place.f
 rw [if_neg (by omega), h1, h2, if_neg (by omega), if_neg (by omega), if_pos h4, h3, h5]
theorem results_cell_tmp {P : Program} {fn : Func} {p q : Tmp} {ty : TypeId} (h : fn.results = #[.cell p ty, .tmp q]) (tmps : Array Value) (w : World) (g : Nat) (t : TypeId) (cs : Array Value) (fr : Nat × Nat) (d : TypeDesc) (v : Value)
  (hp : tmps.getD p undef = .pointer (some ⟨g, 0, none⟩)) (hq : tmps.getD q undef = v) (hg : w.heap[g]? = some (.cells cs t fr))
  (hu : P.underlying ty = some d) (hd : (match d with | .struct _ | .array _ _ => true | _ => false) = true) (hi : (P.info? ty).map (·.size) = some cs.size) :
  (results fn tmps).run P w = .ok (.tuple #[.agg cs, v]) w := by
 have hp' : tmps[p]?.getD undef = .pointer (some ⟨g, 0, none⟩) := by simpa using hp
 have hq' : tmps[q]?.getD undef = v := by simpa using hq
 simp [results, h, hp', hq', asAddr, run_loadVar_row w g t ty cs fr d hg hu hd hi]
theorem instr_info : (Tryz.prog.info? 31).map (·.size) = some 7 := by kernel_rfl
abbrev instrZ : Array Value := #[.int .i64 0, .int .i64 0, .int .i64 0, .int .i64 0, .int .i64 0, .bool false, .bool false]
set_option maxHeartbeats 4000000 in
set_option maxRecDepth 100000 in
theorem image_Fetch.calls (k b i n cap n1 c1 n2 c2 : Nat) (A1 A2 : Option Addr) (c r1 r2 r3 r4 r5 : Int) (r6 r7 : Bool) (w : World) (hG : GOK w) (hi : i < n) (hn : n ≤ 12) (hb : b < w.heap.size)
  (hc : w.cell? { block := b, off := i } = some (.int .u32 c)) (hD : QB.dec_Decode.f k c = some (r1, r2, r3, r4, r5, r6, r7)) :
  Calls Tryz.prog 23 #[.agg #[.slice (some { block := b, off := 0 }) n cap, .slice A1 n1 c1, .slice A2 n2 c2], .int .i64 (65536 + 4 * (i : Int))] w fun e w' => e = .returned (.tuple #[.agg #[.int .i64 r1, .int .i64 r2, .int .i64 r3, .int .i64 r4, .int .i64 r5, .bool r6, .bool r7], .bool true]) ∧ Below w.heap.size w w' := by
 have hp := Aside0.mk (place_at i n hi hn)
 have HG := Aside0.mk hG
 have HD := Aside0.mk hD
 clear hG hD
 have F1 : ∀ W, Drawn0 ((w.alloc (.cells #[.slice (some { block := b, off := 0 }) n cap, .slice A1 n1 c1, .slice A2 n2 c2] 28)).alloc (.cells instrZ 31)) W →
   W.cell? { block := w.heap.size, off := 0 } = some (.slice (some { block := b, off := 0 }) n cap) ∧ W.cell? { block := b, off := i } = some (.int .u32 c) ∧ W.heap[w.heap.size + 1]? = some (.cells instrZ 31 (0, 0)) ∧ Below w.heap.size w W ∧ w.heap.size + 1 < W.heap.size := by
  intro W hd
  have hb' := hd.below
  have hsz : ((w.alloc (.cells #[.slice (some { block := b, off := 0 }) n cap, .slice A1 n1 c1, .slice A2 n2 c2] 28)).alloc (.cells instrZ 31)).heap.size = w.heap.size + 2 := by simp [go_sem]
  have hB : Below w.heap.size w W := (((Below.refl _ _).alloc (Nat.le_refl _) _).alloc (by simp [go_sem]) _).trans (hb'.mono (by rw [hsz]; omega))
  refine ⟨?_, ?_, ?_, hB, ?_⟩
  ·rw [hb'.cell (by show w.heap.size < _; rw [hsz]; omega)]; simp [go_sem]
  ·rw [hB.cell (by exact hb)]; exact hc
  ·rw [hb'.block _ (by rw [hsz]; omega)]
   exact heap_alloc2_new _ _ _
  have := hb'.size; rw [hsz] at this; omega
 have F2 : ∀ W W', Below W.heap.size W W' → W.heap[w.heap.size + 1]? = some (.cells instrZ 31 (0, 0)) → Below w.heap.size w W → w.heap.size + 1 < W.heap.size → W'.heap[w.heap.size + 1]? = some (.cells instrZ 31 (0, 0)) ∧ Below w.heap.size w W' := by
  intro W W' h1 h2 h3 h4
  exact ⟨by rw [h1.block _ h4]; exact h2, h3.trans (h1.mono (by omega))⟩
 have F3 : ∀ W cs, Below w.heap.size w W → Below w.heap.size w (W.setRow (w.heap.size + 1) cs) := fun W cs h =>
  ⟨h.os, h.tape, h.output, by rw [setRow_size]; exact h.size, fun k hk => by rw [setRow_other _ _ _ _ (by omega)]; exact h.block k hk⟩
 clear hb
 go_enter Tryz.func23, Tryz.ntmps23
 go_wp2_with (first | (go_at_call 47; refine (QA.image_place.calls _ _ _ _ _ _ _ hp.out).mono ?_; rintro e w1 ⟨rfl, hd⟩; obtain ⟨d0, d1, d2, d3, d4⟩ := F1 _ hd; clear hd; replace d2 := Aside0.mk d2; replace d3 := Aside0.mk d3; replace d4 := Aside0.mk d4) | (go_at_call 48; (refine (QB.dec_Decode.calls k _ _ _ _ _ _ _ _ _ (GOK.below (Below.mono d3.out (Nat.le_refl _)) HG.out) HD.out).mono ?_); rintro e w2 ⟨rfl, hd⟩; obtain ⟨e2, e3⟩ := F2 _ _ hd d2.out d3.out d4.out; replace e2 := Aside0.mk e2; replace e3 := Aside0.mk e3; clear hd) | (refine wpList_store_row rfl 31 _ _ rfl (w.heap.size + 1) _ rfl rfl 31 _ e2.out instr_info rfl (by simp [Value.oneCell']) ?_))
 exact bodyPost_ret (results_cell_tmp rfl _ _ (w.heap.size + 1) 31 _ (0, 0) _ _ rfl rfl (setRow_heap _ _ _ _ _ _ e2.out) Tryz.underlying31 rfl (by kernel_rfl)) rfl ⟨rfl, F3 _ _ e3.out⟩
structure But2 (g B : Nat) (w w' : World) : Prop where
  os : w'.os = w.os
  tape : w'.tape = w.tape
  output : w'.output = w.output
  size : w.heap.size ≤ w'.heap.size
  block : ∀ k, k < w.heap.size → k ≠ g → k ≠ B → w'.heap[k]? = w.heap[k]?
theorem But2.of_but {g B : Nat} {w w' : World} (h : But B w w') : But2 g B w w' := ⟨h.os, h.tape, h.output, h.size, fun k hk _ hB => h.block k hk hB⟩
theorem But2.of_below {g B : Nat} {w w' : World} (h : Below w.heap.size w w') : But2 g B w w' := ⟨h.os, h.tape, h.output, h.size, fun k hk _ _ => h.block k hk⟩
theorem But2.trans {g B : Nat} {w w1 w2 : World} (h : But2 g B w w1) (k : But2 g B w1 w2) : But2 g B w w2 :=
  ⟨k.os.trans h.os, k.tape.trans h.tape, k.output.trans h.output, Nat.le_trans h.size k.size, fun i hi hg hB => (k.block i (Nat.lt_of_lt_of_le hi h.size) hg hB).trans (h.block i hi hg hB)⟩
theorem But2.cell {g B : Nat} (w : World) (o : Nat) (u : Value) : But2 g B w (w.setCell { block := g, off := o } u) :=
  ⟨rfl, rfl, rfl, by simp [World.setCell], fun k _ hg _ => Below.heap_setCell _ _ _ _ hg⟩
abbrev entRow (pc : Int) (e : Ent) : Array Value := #[.int .i64 pc, .int .i64 e.ins.op, .int .i64 e.ins.rd, .int .i64 e.ins.a, .int .i64 e.ins.b, .int .i64 e.ins.imm, .bool false, .bool false, .int .i64 (pc + 4), .int .i64 0, .bool false, .int .i64 0, .int .i64 e.v, .bool e.d, .bool e.d, .bool false, .int .i64 (-1), .int .i64 0]
theorem entry18 : (Tryz.prog.info? 45).map (·.size) = some 18 := by kernel_rfl
theorem load_ent {ops : Array Oper} {rest : List Oper} {op : Oper} {a : Act} {w : World} {Q : Exit → Act → World → Prop} {x : Operand} {b o : Nat} {pc : Int} {e : Ent} (hgd : op.guard = none) (ho : op.op = .load 45 x)
    (hx : a.eval x = .pointer (some ⟨b, o, none⟩)) (hc : w.rangeAt b o (entCells pc e))
    (h : wpList Tryz.prog ops Q rest (a.put op.dst (.agg (entRow pc e))) w) : wpList Tryz.prog ops Q (op :: rest) a w :=
  wpList_load_mid hgd 45 x ho b o hx (entCells pc e) _ hc Tryz.underlying45 rfl entry18 h
structure EntVar (W : World) (g : Nat) (pc : Int) (e : Ent) : Prop where
  row : W.heap[g]? = some (.cells (entRow pc e) 45 (0, 0))
  lt : g < W.heap.size
theorem EntVar.cell {W : World} {g : Nat} {pc : Int} {e : Ent} (h : EntVar W g pc e) (j : Nat) (v : Value) (hv : (entRow pc e)[j]? = some v) : W.cell? { block := g, off := j } = some v := by
  have h1 := h.row
  simp only [World.cell?, h1]
  exact hv
theorem EntVar.ins {W : World} {g : Nat} {pc : Int} {e : Ent} (h : EntVar W g pc e) : W.rangeAt g 1 (insCells e.ins) := by
  intro j v hv
  refine h.cell _ _ ?_
  rcases j with _ | _ | _ | _ | _ | _ | _ | j
  all_goals first | exact hv | (simp [insCells] at hv)
theorem EntVar.below {W W' : World} {g : Nat} {pc : Int} {e : Ent} (h : EntVar W g pc e) (hb : Below W.heap.size W W') : EntVar W' g pc e := ⟨by rw [hb.block _ h.lt]; exact h.row, Nat.lt_of_lt_of_le h.lt hb.size⟩
def retR (R : Nat → Int) (e : Ent) : Nat → Int := fun r => if e.ins.rd = 0 then R r else if r = e.ins.rd.toNat then e.v else R r
structure RetSt (w W : World) (x5 : Nat) (g B n cap : Nat) (R : Nat → Int) (pc : Nat → Int) (E : Nat → Ent) : Prop where
  win : WinAt W g B n cap R pc E
  ev : EntVar W x5 (pc 0) (E 0)
  row : W.heap[w.heap.size]? = some (.cells zeros18.toArray 45 (0, 0))
  bel : But2 g B w W
  lt : w.heap.size < x5
  gB : g < w.heap.size
  BB : B < w.heap.size
structure RetDl (w W : World) (x5 : Nat) (g B n cap : Nat) (R : Nat → Int) (pc : Nat → Int) (E : Nat → Ent) : Prop where
  ev : EntVar W x5 (pc 0) (E 0)
  row : W.heap[w.heap.size]? = some (.cells zeros18.toArray 45 (0, 0))
  sl : (W.cell? { block := g, off := 32 }).isSome = true
  rg : ∀ r, r < 32 → W.cell? { block := g, off := r } = some (.int .i64 (R r))
  en : ∀ k, k < n - 1 → W.rangeAt B (k * 18) (entCells (pc (k + 1)) (E (k + 1)))
  fg : ∀ o, W.frozen? { block := g, off := o } = false
  fB : ∀ o, W.frozen? { block := B, off := o } = false
  but : But2 g B w W
  lt : w.heap.size < x5
  gB : g < w.heap.size
  BB : B < w.heap.size
  ne : g ≠ B
  nc : n ≤ cap
theorem cell_of_heap {W W' : World} {b : Nat} (h : W'.heap[b]? = W.heap[b]?) (o : Nat) : W'.cell? { block := b, off := o } = W.cell? { block := b, off := o } := by
  simp only [World.cell?, h]
theorem frozen_of_heap {W W' : World} {b : Nat} (h : W'.heap[b]? = W.heap[b]?) (o : Nat) : W'.frozen? { block := b, off := o } = W.frozen? { block := b, off := o } := by
  simp only [World.frozen?, h]
theorem wpList_newvar {P : Program} {ops : Array Oper} {rest : List Oper} {o : Oper} {a : Act} {w : World} {Q : Exit → Act → World → Prop} (hg : o.guard = none) (ty : TypeId) (ho : o.op = .alloc ty) (z : Array Value) (hz : ∀ w, (zeroValue ty).run P w = .ok (.agg z) w)
    (h : wpList P ops Q rest (a.put o.dst (.pointer (some ⟨w.heap.size, 0, none⟩))) (w.alloc (.cells z ty))) : wpList P ops Q (o :: rest) a w := by
  refine wpList_plain hg fun K hK => ?_
  unfold Oper.wp
  simp [execOp, ho, Instr.alloc, hz, newVar, go_sem]
  exact hK _ _ h
theorem new_entry {ops : Array Oper} {rest : List Oper} {o : Oper} {a : Act} {w : World} {Q : Exit → Act → World → Prop} (hg : o.guard = none) (ho : o.op = .alloc 45)
    (h : ∀ W1, W1.heap[w.heap.size]? = some (.cells zeros18.toArray 45 (0, 0)) → Below w.heap.size w W1 → w.heap.size < W1.heap.size → wpList Tryz.prog ops Q rest (a.put o.dst (.pointer (some ⟨w.heap.size, 0, none⟩))) W1) : wpList Tryz.prog ops Q (o :: rest) a w :=
  wpList_newvar hg _ ho zeros18.toArray entry_zero (h _ (heap_alloc_last w _) ((Below.refl _ _).alloc (Nat.le_refl _) _) (by simp [go_sem]))
theorem RetSt.below {w W W' : World} {x5 g B n cap : Nat} {R : Nat → Int} {pc : Nat → Int} {E : Nat → Ent} (s : RetSt w W x5 g B n cap R pc E) (hb : Below W.heap.size W W') : RetSt w W' x5 g B n cap R pc E :=
  ⟨s.win.below hb, s.ev.below hb, by rw [hb.block _ (Nat.lt_trans s.lt s.ev.lt)]; exact s.row, s.bel.trans (But2.of_below hb), s.lt, s.gB, s.BB⟩
theorem Below.setRow {B : Nat} {a W : World} (h : Below B a W) (g : Nat) (hg : B ≤ g) (cs : Array Value) : Below B a (W.setRow g cs) :=
  ⟨h.os, h.tape, h.output, by rw [setRow_size]; exact h.size, fun k hk => by rw [setRow_other _ _ _ _ (by omega)]; exact h.block k hk⟩
theorem RetSt.begin {w W0 w1 W1 : World} {g B n cap : Nat} {R : Nat → Int} {pc : Nat → Int} {E : Nat → Ent} (hw : WinAt w g B n cap R pc E)
    (r0 : W0.heap[w.heap.size]? = some (.cells zeros18.toArray 45 (0, 0))) (b0 : Below w.heap.size w W0) (s0 : w.heap.size < W0.heap.size) (h1 : Below W0.heap.size W0 w1)
    (r1 : W1.heap[w1.heap.size]? = some (.cells zeros18.toArray 45 (0, 0))) (b1 : Below w1.heap.size w1 W1) (s1 : w1.heap.size < W1.heap.size) :
    RetSt w (W1.setRow w1.heap.size (entRow (pc 0) (E 0))) w1.heap.size g B n cap R pc E := by
  have c1 : Below w.heap.size w w1 := below_then b0 b0.size h1
  have l1 : w.heap.size < w1.heap.size := Nat.lt_of_lt_of_le s0 h1.size
  have c2 : Below w1.heap.size w1 (W1.setRow w1.heap.size (entRow (pc 0) (E 0))) := Below.setRow b1 _ (Nat.le_refl _) _
  refine ⟨(hw.below c1).below c2, ⟨setRow_heap _ _ _ _ _ _ r1, by rw [setRow_size]; exact s1⟩, ?_, But2.of_below (below_then c1 c1.size c2), l1, hw.gB, hw.BB⟩
  rw [c2.block _ l1, h1.block _ s0]
  exact r0
theorem RetSt.dl {w W W' : World} {x5 g B n cap : Nat} {R : Nat → Int} {pc : Nat → Int} {E : Nat → Ent} (s : RetSt w W x5 g B n cap R pc E) (hb : But B W W')
    (en : ∀ k, k < n - 1 → W'.rangeAt B (k * 18) (entCells (pc (k + 1)) (E (k + 1)))) (fB : ∀ o, W'.frozen? { block := B, off := o } = false) : RetDl w W' x5 g B n cap R pc E := by
  have hg := hb.block g s.win.gB s.win.ne
  have e5 : x5 ≠ B := by have := s.BB; have := s.lt; omega
  have e2 : w.heap.size ≠ B := by have := s.BB; omega
  refine ⟨⟨by rw [hb.block _ s.ev.lt e5]; exact s.ev.row, Nat.lt_of_lt_of_le s.ev.lt hb.size⟩, by rw [hb.block _ (Nat.lt_trans s.lt s.ev.lt) e2]; exact s.row, by rw [cell_of_heap hg, s.win.sl]; rfl, fun r hr => by rw [cell_of_heap hg]; exact s.win.rg r hr, en, fun o => by rw [frozen_of_heap hg]; exact s.win.fg o, fB, s.bel.trans (But2.of_but hb), s.lt, s.gB, s.BB, s.win.ne, s.win.nc⟩
theorem RetDl.fin {w W : World} {x5 g B n cap : Nat} {R : Nat → Int} {pc : Nat → Int} {E : Nat → Ent} (s : RetDl w W x5 g B n cap R pc E) (cs : Array Value) :
    WinAt ((W.setCell { block := g, off := 32 } (.slice (some { block := B, off := 0 }) (n - 1) cap)).setRow w.heap.size cs) g B (n - 1) cap R (fun k => pc (k + 1)) (fun k => E (k + 1)) ∧
    But2 g B w ((W.setCell { block := g, off := 32 } (.slice (some { block := B, off := 0 }) (n - 1) cap)).setRow w.heap.size cs) := by
  have gB := s.gB
  have BB := s.BB
  have ne := s.ne
  obtain ⟨W1, hW1⟩ : ∃ W1, W1 = W.setCell { block := g, off := 32 } (.slice (some { block := B, off := 0 }) (n - 1) cap) := ⟨_, rfl⟩
  have k1 : ∀ b, b ≠ w.heap.size → (W1.setRow w.heap.size cs).heap[b]? = W1.heap[b]? := fun b hb => setRow_other _ _ _ _ hb
  have k2 : ∀ b, b ≠ g → W1.heap[b]? = W.heap[b]? := fun b hb => by rw [hW1]; exact Below.heap_setCell _ _ _ _ hb
  have sz : (W1.setRow w.heap.size cs).heap.size = W.heap.size := by rw [setRow_size, hW1]; simp [World.setCell]
  have hws := s.but.size
  rw [← hW1]
  have f1 : ∀ b o, b ≠ w.heap.size → (W1.setRow w.heap.size cs).frozen? { block := b, off := o } = W.frozen? { block := b, off := o } := fun b o hb => by
    rw [frozen_of_heap (k1 b hb), hW1]; exact World.frozen?_setCell _ _ _ _
  obtain ⟨u0, hu0⟩ := Option.isSome_iff_exists.1 s.sl
  refine ⟨⟨?_, fun r hr => ?_, fun k hk j v hj => ?_, by rw [sz]; omega, by rw [sz]; omega, ne, by have := s.nc; omega, fun o => by rw [f1 _ _ (by omega)]; exact s.fg o, fun o => by rw [f1 _ _ (by omega)]; exact s.fB o⟩, ?_⟩
  · rw [cell_of_heap (k1 g (by omega)), hW1]
    exact World.cell?_setCell_same _ _ _ hu0
  · rw [cell_of_heap (k1 g (by omega)), hW1, cell_set_ne _ _ _ _ _ _ (by omega)]
    exact s.rg r hr
  · rw [cell_of_heap (k1 B (by omega)), cell_of_heap (k2 B (Ne.symm ne))]
    exact s.en k hk j v hj
  · exact ⟨by rw [← s.but.os, hW1]; rfl, by rw [← s.but.tape, hW1]; rfl, by rw [← s.but.output, hW1]; rfl, by rw [sz]; exact hws, fun k hk hg hB => by rw [k1 k (by omega), k2 k hg]; exact s.but.block k hk hg hB⟩
theorem RetSt.drew {w W : World} {x5 g B n cap : Nat} {R : Nat → Int} {pc : Nat → Int} {E : Nat → Ent} (s : RetSt w W x5 g B n cap R pc E) : RetSt w W.drew x5 g B n cap R pc E :=
  have hb : Below W.heap.size W W.drew := (Below.refl _ _).drew
  ⟨s.win.below hb, s.ev.below hb, s.row, s.bel.trans (But2.of_below hb), s.lt, s.gB, s.BB⟩
theorem RetSt.delete {w W : World} {x5 g B n cap : Nat} {R : Nat → Int} {pc : Nat → Int} {E : Nat → Ent} (s : RetSt w W x5 g B n cap R pc E) (h0 : 0 < n) (hn : n ≤ 100) (hcap : cap ≤ 9223372036854775807) :
    Calls Tryz.prog 42 #[.slice (some { block := B, off := 0 }) n cap, .int .i64 0, .int .i64 1] W fun e w' => e = .returned (.slice (some { block := B, off := 0 }) (n - 1) cap) ∧ RetDl w w' x5 g B n cap R pc E :=
  (Delete_calls W B n cap pc E h0 hn s.win.nc hcap s.win.BB s.win.en s.win.fB).mono fun e w' ⟨he, hb, hen, hfz⟩ => ⟨he, s.dl hb hen hfz⟩
theorem WinAt.setReg {W : World} {g B n cap : Nat} {R : Nat → Int} {pc : Nat → Int} {E : Nat → Ent} (h : WinAt W g B n cap R pc E) (q : Nat) (hq : q < 32) (v : Int) : WinAt (W.setCell { block := g, off := q } (.int .i64 v)) g B n cap (fun r => if r = q then v else R r) pc E where
  sl := by rw [cell_set_ne _ _ _ _ _ _ (by omega)]; exact h.sl
  rg r hr := by
    by_cases e : r = q
    · subst e
      rw [if_pos rfl]
      exact World.cell?_setCell_same _ _ _ (h.rg r hr)
    · rw [if_neg e, cell_set_ne _ _ _ _ _ _ (by omega)]
      exact h.rg r hr
  en k hk j u hj := by rw [cell_set_ne _ _ _ _ _ _ (.inl (Ne.symm h.ne))]; exact h.en k hk j u hj
  gB := by simp [World.setCell]; exact h.gB
  BB := by simp [World.setCell]; exact h.BB
  ne := h.ne
  nc := h.nc
  fg o := by rw [World.frozen?_setCell]; exact h.fg o
  fB o := by rw [World.frozen?_setCell]; exact h.fB o
theorem RetSt.reg {w W : World} {x5 g B n cap : Nat} {R : Nat → Int} {pc : Nat → Int} {E : Nat → Ent} (s : RetSt w W x5 g B n cap R pc E) (q : Nat) (hq : q < 32) (v : Int) : RetSt w (W.setCell { block := g, off := q } (.int .i64 v)) x5 g B n cap (fun r => if r = q then v else R r) pc E where
  win := s.win.setReg q hq v
  ev := ⟨by rw [Below.heap_setCell _ _ _ _ (by show x5 ≠ g; have := s.lt; have := s.gB; omega)]; exact s.ev.row, by simp [World.setCell]; exact s.ev.lt⟩
  row := by rw [Below.heap_setCell _ _ _ _ (by show w.heap.size ≠ g; have := s.gB; omega)]; exact s.row
  bel := s.bel.trans (But2.cell W _ _)
  lt := s.lt
  gB := s.gB
  BB := s.BB
theorem RetDl.ev' {w W : World} {x5 g B n cap : Nat} {R : Nat → Int} {pc : Nat → Int} {E : Nat → Ent} (s : RetDl w W x5 g B n cap R pc E) (u : Value) : (W.setCell { block := g, off := 32 } u).heap[x5]? = some (.cells (entRow (pc 0) (E 0)) 45 (0, 0)) := by
  rw [Below.heap_setCell _ _ _ _ (by show x5 ≠ g; have := s.lt; have := s.gB; omega)]; exact s.ev.row
theorem RetDl.row' {w W : World} {x5 g B n cap : Nat} {R : Nat → Int} {pc : Nat → Int} {E : Nat → Ent} (s : RetDl w W x5 g B n cap R pc E) (u : Value) : (W.setCell { block := g, off := 32 } u).heap[w.heap.size]? = some (.cells zeros18.toArray 45 (0, 0)) := by
  rw [Below.heap_setCell _ _ _ _ (by show w.heap.size ≠ g; have := s.gB; omega)]; exact s.row
end Go.Proofs.YtfcniikbcjmlcaaGreatDoor
end
