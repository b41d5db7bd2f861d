/- Gas: the walk of Do. -/
import Derived.Test.YtdilgjhdimlbkaaDof
import Derived.Test.YtdilgjhdimlbkaaA3
import Derived.Test.YtdilgjhdimlbkaaSto
set_option linter.unusedVariables false
set_option linter.unusedSimpArgs false
namespace Go.Proofs.Ytdilgjhdimlbkaa
open Go.RowKit Go.Sd Gas

theorem validT {c : Cav} {t : Bool} (w : World) (h : c.ok = t) : Calls Try.prog 17 #[cavV c] w fun e w' => e = .returned (.bool t) ∧ Below w.heap.size w w' :=
  (progValid c w).mono fun e w' ⟨t', he, ht, hb⟩ => ⟨by rw [he, ← h, ← ht.out], hb⟩
theorem stateT {s : St} {t : Bool} (w : World) (h : s.ok = t) : Calls Try.prog 29 #[stV s] w fun e w' => e = .returned (.bool t) ∧ Below w.heap.size w w' :=
  (progState s w).mono fun e w' ⟨t', he, ht, hb⟩ => ⟨by rw [he, ← h, ← ht.out], hb⟩
theorem opT {o : Gas.Op} {t : Bool} (w : World) (h : o.ok = t) : Calls Try.prog 34 #[opV o] w fun e w' => e = .returned (.bool t) ∧ Below w.heap.size w w' :=
  (progOp o w).mono fun e w' ⟨t', he, ht, hb⟩ => ⟨by rw [he, ← h, ← ht.out], hb⟩

set_option maxRecDepth 100000 in
set_option maxHeartbeats 4000000 in
theorem progDoBad1 {c : Cav} {s : St} {o : Gas.Op} (w : World) (hc : c.ok = false) :
    Calls Try.prog 14 #[cavV c, stV s, opV o] w fun e w' => e = .returned (.tuple #[stV st0, outV out0, .int .i64 2]) ∧ Below w.heap.size w w' := by
  obtain ⟨W1, hW1⟩ : ∃ W1, w.alloc (.cells #[.int .i64 c.vlo, .int .i64 c.vhi, .int .i64 c.least, .int .i64 c.most, .int .i64 c.f0, .int .i64 c.f1, .int .i64 c.h0, .int .i64 c.h1, .int .i64 c.rock, .int .i64 c.plo, .int .i64 c.phi] 26) = W1 := ⟨_, rfl⟩
  obtain ⟨eW0, bW0, sW0⟩ := boxed hW1
  have yW0_0 : w.heap.size < W1.heap.size := by omega
  obtain ⟨mW0_0_0, mW0_0_1, mW0_0_2, mW0_0_3, mW0_0_4, mW0_0_5, mW0_0_6, mW0_0_7, mW0_0_8, mW0_0_9, mW0_0_10⟩ := rc11 eW0
  obtain ⟨W2, hW2⟩ : ∃ W2, W1.alloc (.cells #[.int .i64 s.glo, .int .i64 s.ghi, .int .i64 s.ylo, .int .i64 s.yhi, .int .i64 s.tlo, .int .i64 s.thi, .int .i64 s.wlo, .int .i64 s.whi] 48) = W2 := ⟨_, rfl⟩
  obtain ⟨eW1, bW1, sW1⟩ := boxed hW2
  have yW1_0 : w.heap.size < W2.heap.size := by omega
  replace eW0 := (bW1.block _ (Array.getElem?_eq_some_iff.1 eW0).1).trans eW0
  obtain ⟨mW1_0_0, mW1_0_1, mW1_0_2, mW1_0_3, mW1_0_4, mW1_0_5, mW1_0_6, mW1_0_7, mW1_0_8, mW1_0_9, mW1_0_10⟩ := rc11 eW0
  have yW1_1 : W1.heap.size < W2.heap.size := by omega
  obtain ⟨mW1_1_0, mW1_1_1, mW1_1_2, mW1_1_3, mW1_1_4, mW1_1_5, mW1_1_6, mW1_1_7⟩ := rc8 eW1
  obtain ⟨W3, hW3⟩ : ∃ W3, W2.alloc (.cells #[.int .i64 o.kind, .int .i64 o.lg, .int .i64 o.ly, .int .i64 o.lt, .int .i64 o.lw, .int .i64 o.moles, .int .i64 o.slo, .int .i64 o.shi, .int .i64 o.wlo, .int .i64 o.whi] 57) = W3 := ⟨_, rfl⟩
  obtain ⟨eW2, bW2, sW2⟩ := boxed hW3
  have yW2_0 : w.heap.size < W3.heap.size := by omega
  replace eW0 := (bW2.block _ (Array.getElem?_eq_some_iff.1 eW0).1).trans eW0
  obtain ⟨mW2_0_0, mW2_0_1, mW2_0_2, mW2_0_3, mW2_0_4, mW2_0_5, mW2_0_6, mW2_0_7, mW2_0_8, mW2_0_9, mW2_0_10⟩ := rc11 eW0
  have yW2_1 : W1.heap.size < W3.heap.size := by omega
  replace eW1 := (bW2.block _ (Array.getElem?_eq_some_iff.1 eW1).1).trans eW1
  obtain ⟨mW2_1_0, mW2_1_1, mW2_1_2, mW2_1_3, mW2_1_4, mW2_1_5, mW2_1_6, mW2_1_7⟩ := rc8 eW1
  have yW2_2 : W2.heap.size < W3.heap.size := by omega
  obtain ⟨mW2_2_0, mW2_2_1, mW2_2_2, mW2_2_3, mW2_2_4, mW2_2_5, mW2_2_6, mW2_2_7, mW2_2_8, mW2_2_9⟩ := rc10 eW2
  obtain ⟨W4, hW4⟩ : ∃ W4, W3.alloc (.cells #[.int .i64 0, .int .i64 0, .int .i64 0, .int .i64 0, .int .i64 0, .int .i64 0, .int .i64 0, .int .i64 0] 48) = W4 := ⟨_, rfl⟩
  obtain ⟨eW3, bW3, sW3⟩ := boxed hW4
  have yW3_0 : w.heap.size < W4.heap.size := by omega
  replace eW0 := (bW3.block _ (Array.getElem?_eq_some_iff.1 eW0).1).trans eW0
  obtain ⟨mW3_0_0, mW3_0_1, mW3_0_2, mW3_0_3, mW3_0_4, mW3_0_5, mW3_0_6, mW3_0_7, mW3_0_8, mW3_0_9, mW3_0_10⟩ := rc11 eW0
  have yW3_1 : W1.heap.size < W4.heap.size := by omega
  replace eW1 := (bW3.block _ (Array.getElem?_eq_some_iff.1 eW1).1).trans eW1
  obtain ⟨mW3_1_0, mW3_1_1, mW3_1_2, mW3_1_3, mW3_1_4, mW3_1_5, mW3_1_6, mW3_1_7⟩ := rc8 eW1
  have yW3_2 : W2.heap.size < W4.heap.size := by omega
  replace eW2 := (bW3.block _ (Array.getElem?_eq_some_iff.1 eW2).1).trans eW2
  obtain ⟨mW3_2_0, mW3_2_1, mW3_2_2, mW3_2_3, mW3_2_4, mW3_2_5, mW3_2_6, mW3_2_7, mW3_2_8, mW3_2_9⟩ := rc10 eW2
  have yW3_3 : W3.heap.size < W4.heap.size := by omega
  obtain ⟨mW3_3_0, mW3_3_1, mW3_3_2, mW3_3_3, mW3_3_4, mW3_3_5, mW3_3_6, mW3_3_7⟩ := rc8 eW3
  obtain ⟨W5, hW5⟩ : ∃ W5, W4.alloc (.cells #[.int .i64 0, .int .i64 0, .int .i64 0, .int .i64 0, .int .i64 0, .int .i64 0] 51) = W5 := ⟨_, rfl⟩
  obtain ⟨eW4, bW4, sW4⟩ := boxed hW5
  have yW4_0 : w.heap.size < W5.heap.size := by omega
  replace eW0 := (bW4.block _ (Array.getElem?_eq_some_iff.1 eW0).1).trans eW0
  obtain ⟨mW4_0_0, mW4_0_1, mW4_0_2, mW4_0_3, mW4_0_4, mW4_0_5, mW4_0_6, mW4_0_7, mW4_0_8, mW4_0_9, mW4_0_10⟩ := rc11 eW0
  have yW4_1 : W1.heap.size < W5.heap.size := by omega
  replace eW1 := (bW4.block _ (Array.getElem?_eq_some_iff.1 eW1).1).trans eW1
  obtain ⟨mW4_1_0, mW4_1_1, mW4_1_2, mW4_1_3, mW4_1_4, mW4_1_5, mW4_1_6, mW4_1_7⟩ := rc8 eW1
  have yW4_2 : W2.heap.size < W5.heap.size := by omega
  replace eW2 := (bW4.block _ (Array.getElem?_eq_some_iff.1 eW2).1).trans eW2
  obtain ⟨mW4_2_0, mW4_2_1, mW4_2_2, mW4_2_3, mW4_2_4, mW4_2_5, mW4_2_6, mW4_2_7, mW4_2_8, mW4_2_9⟩ := rc10 eW2
  have yW4_3 : W3.heap.size < W5.heap.size := by omega
  replace eW3 := (bW4.block _ (Array.getElem?_eq_some_iff.1 eW3).1).trans eW3
  obtain ⟨mW4_3_0, mW4_3_1, mW4_3_2, mW4_3_3, mW4_3_4, mW4_3_5, mW4_3_6, mW4_3_7⟩ := rc8 eW3
  have yW4_4 : W4.heap.size < W5.heap.size := by omega
  obtain ⟨mW4_4_0, mW4_4_1, mW4_4_2, mW4_4_3, mW4_4_4, mW4_4_5⟩ := rc6 eW4
  obtain ⟨W, hW⟩ : ∃ W, W5.alloc (.cells #[.int .i64 c.vlo, .int .i64 c.vhi, .int .i64 c.least, .int .i64 c.most, .int .i64 c.f0, .int .i64 c.f1, .int .i64 c.h0, .int .i64 c.h1, .int .i64 c.rock, .int .i64 c.plo, .int .i64 c.phi] 59) = W := ⟨_, rfl⟩
  obtain ⟨eW5, bW5, sW5⟩ := boxed hW
  replace eW0 := (bW5.block _ (Array.getElem?_eq_some_iff.1 eW0).1).trans eW0
  replace eW1 := (bW5.block _ (Array.getElem?_eq_some_iff.1 eW1).1).trans eW1
  replace eW2 := (bW5.block _ (Array.getElem?_eq_some_iff.1 eW2).1).trans eW2
  replace eW3 := (bW5.block _ (Array.getElem?_eq_some_iff.1 eW3).1).trans eW3
  replace eW4 := (bW5.block _ (Array.getElem?_eq_some_iff.1 eW4).1).trans eW4
  have hBw : Below w.heap.size w W := (by have := sW0; have := sW1; have := sW2; have := sW3; have := sW4; have := sW5; exact (((((bW0.trans (bW1.mono (by omega))).trans (bW2.mono (by omega))).trans (bW3.mono (by omega))).trans (bW4.mono (by omega))).trans (bW5.mono (by omega))))
  obtain ⟨zW0, rW0, tW0⟩ := row_cells eW0
  obtain ⟨qW0_0, qW0_1, qW0_2, qW0_3, qW0_4, qW0_5, qW0_6, qW0_7, qW0_8, qW0_9, qW0_10⟩ := rc11 eW0
  obtain ⟨fW0_0, fW0_1, fW0_2, fW0_3, fW0_4, fW0_5, fW0_6, fW0_7, fW0_8, fW0_9, fW0_10⟩ := rf11 eW0
  have EW0 := Lib.hid eW0
  clear rW0 tW0 eW0
  obtain ⟨zW1, rW1, tW1⟩ := row_cells eW1
  obtain ⟨qW1_0, qW1_1, qW1_2, qW1_3, qW1_4, qW1_5, qW1_6, qW1_7⟩ := rc8 eW1
  obtain ⟨fW1_0, fW1_1, fW1_2, fW1_3, fW1_4, fW1_5, fW1_6, fW1_7⟩ := rf8 eW1
  have EW1 := Lib.hid eW1
  clear rW1 tW1 eW1
  obtain ⟨zW2, rW2, tW2⟩ := row_cells eW2
  obtain ⟨qW2_0, qW2_1, qW2_2, qW2_3, qW2_4, qW2_5, qW2_6, qW2_7, qW2_8, qW2_9⟩ := rc10 eW2
  obtain ⟨fW2_0, fW2_1, fW2_2, fW2_3, fW2_4, fW2_5, fW2_6, fW2_7, fW2_8, fW2_9⟩ := rf10 eW2
  have EW2 := Lib.hid eW2
  clear rW2 tW2 eW2
  obtain ⟨zW3, rW3, tW3⟩ := row_cells eW3
  obtain ⟨qW3_0, qW3_1, qW3_2, qW3_3, qW3_4, qW3_5, qW3_6, qW3_7⟩ := rc8 eW3
  obtain ⟨fW3_0, fW3_1, fW3_2, fW3_3, fW3_4, fW3_5, fW3_6, fW3_7⟩ := rf8 eW3
  have EW3 := Lib.hid eW3
  clear rW3 tW3 eW3
  obtain ⟨zW4, rW4, tW4⟩ := row_cells eW4
  obtain ⟨qW4_0, qW4_1, qW4_2, qW4_3, qW4_4, qW4_5⟩ := rc6 eW4
  obtain ⟨fW4_0, fW4_1, fW4_2, fW4_3, fW4_4, fW4_5⟩ := rf6 eW4
  have EW4 := Lib.hid eW4
  clear rW4 tW4 eW4
  obtain ⟨zW5, rW5, tW5⟩ := row_cells eW5
  obtain ⟨qW5_0, qW5_1, qW5_2, qW5_3, qW5_4, qW5_5, qW5_6, qW5_7, qW5_8, qW5_9, qW5_10⟩ := rc11 eW5
  obtain ⟨fW5_0, fW5_1, fW5_2, fW5_3, fW5_4, fW5_5, fW5_6, fW5_7, fW5_8, fW5_9, fW5_10⟩ := rf11 eW5
  have EW5 := Lib.hid eW5
  clear rW5 tW5 eW5
  have xW0 : w.heap.size ≤ w.heap.size := by omega
  have xW1 : w.heap.size ≤ W1.heap.size := by omega
  have xW2 : w.heap.size ≤ W2.heap.size := by omega
  have xW3 : w.heap.size ≤ W3.heap.size := by omega
  have xW4 : w.heap.size ≤ W4.heap.size := by omega
  have xW5 : w.heap.size ≤ W5.heap.size := by omega
  clear bW0 sW0 bW1 sW1 bW2 sW2 bW3 sW3 bW4 sW4 bW5 sW5
  have hg := grow_cell W
  have hgf := grow_frozen W
  clear EW0 EW1 EW2 EW3 EW4 EW5
  go_enter Try.func14, Try.ntmps14
  go_wp2_with (first | (go_at_call 17; (with_reducible refine Calls.mono (validT _ hc) ?_); rintro e w1 ⟨rfl, hB⟩; (first | (obtain ⟨g, rfl⟩ := g.next hB) | (obtain ⟨g, rfl⟩ : ∃ g : Grow W, w1 = g.x := ⟨⟨w1, hB⟩, rfl⟩)); clear hB))
  refine bodyPost_ret (v := .tuple #[stV st0, outV out0, .int .i64 2]) (by simp [results, Try.results14, go_sem, *]) rfl ⟨rfl, ?_⟩
  have hfin : Below w.heap.size w g.x := hBw.trans (g.h.mono hBw.size)
  repeat' (first | (with_reducible exact hfin) | (with_reducible exact xW3) | (with_reducible exact xW4) | refine Below.setCell ?_ ?_ _)

set_option maxRecDepth 100000 in
set_option maxHeartbeats 4000000 in
theorem progDoBad2 {c : Cav} {s : St} {o : Gas.Op} (w : World) (hc : c.ok = true) (hs : s.ok = false) :
    Calls Try.prog 14 #[cavV c, stV s, opV o] w fun e w' => e = .returned (.tuple #[stV st0, outV out0, .int .i64 2]) ∧ Below w.heap.size w w' := by
  obtain ⟨W1, hW1⟩ : ∃ W1, w.alloc (.cells #[.int .i64 c.vlo, .int .i64 c.vhi, .int .i64 c.least, .int .i64 c.most, .int .i64 c.f0, .int .i64 c.f1, .int .i64 c.h0, .int .i64 c.h1, .int .i64 c.rock, .int .i64 c.plo, .int .i64 c.phi] 26) = W1 := ⟨_, rfl⟩
  obtain ⟨eW0, bW0, sW0⟩ := boxed hW1
  have yW0_0 : w.heap.size < W1.heap.size := by omega
  obtain ⟨mW0_0_0, mW0_0_1, mW0_0_2, mW0_0_3, mW0_0_4, mW0_0_5, mW0_0_6, mW0_0_7, mW0_0_8, mW0_0_9, mW0_0_10⟩ := rc11 eW0
  obtain ⟨W2, hW2⟩ : ∃ W2, W1.alloc (.cells #[.int .i64 s.glo, .int .i64 s.ghi, .int .i64 s.ylo, .int .i64 s.yhi, .int .i64 s.tlo, .int .i64 s.thi, .int .i64 s.wlo, .int .i64 s.whi] 48) = W2 := ⟨_, rfl⟩
  obtain ⟨eW1, bW1, sW1⟩ := boxed hW2
  have yW1_0 : w.heap.size < W2.heap.size := by omega
  replace eW0 := (bW1.block _ (Array.getElem?_eq_some_iff.1 eW0).1).trans eW0
  obtain ⟨mW1_0_0, mW1_0_1, mW1_0_2, mW1_0_3, mW1_0_4, mW1_0_5, mW1_0_6, mW1_0_7, mW1_0_8, mW1_0_9, mW1_0_10⟩ := rc11 eW0
  have yW1_1 : W1.heap.size < W2.heap.size := by omega
  obtain ⟨mW1_1_0, mW1_1_1, mW1_1_2, mW1_1_3, mW1_1_4, mW1_1_5, mW1_1_6, mW1_1_7⟩ := rc8 eW1
  obtain ⟨W3, hW3⟩ : ∃ W3, W2.alloc (.cells #[.int .i64 o.kind, .int .i64 o.lg, .int .i64 o.ly, .int .i64 o.lt, .int .i64 o.lw, .int .i64 o.moles, .int .i64 o.slo, .int .i64 o.shi, .int .i64 o.wlo, .int .i64 o.whi] 57) = W3 := ⟨_, rfl⟩
  obtain ⟨eW2, bW2, sW2⟩ := boxed hW3
  have yW2_0 : w.heap.size < W3.heap.size := by omega
  replace eW0 := (bW2.block _ (Array.getElem?_eq_some_iff.1 eW0).1).trans eW0
  obtain ⟨mW2_0_0, mW2_0_1, mW2_0_2, mW2_0_3, mW2_0_4, mW2_0_5, mW2_0_6, mW2_0_7, mW2_0_8, mW2_0_9, mW2_0_10⟩ := rc11 eW0
  have yW2_1 : W1.heap.size < W3.heap.size := by omega
  replace eW1 := (bW2.block _ (Array.getElem?_eq_some_iff.1 eW1).1).trans eW1
  obtain ⟨mW2_1_0, mW2_1_1, mW2_1_2, mW2_1_3, mW2_1_4, mW2_1_5, mW2_1_6, mW2_1_7⟩ := rc8 eW1
  have yW2_2 : W2.heap.size < W3.heap.size := by omega
  obtain ⟨mW2_2_0, mW2_2_1, mW2_2_2, mW2_2_3, mW2_2_4, mW2_2_5, mW2_2_6, mW2_2_7, mW2_2_8, mW2_2_9⟩ := rc10 eW2
  obtain ⟨W4, hW4⟩ : ∃ W4, W3.alloc (.cells #[.int .i64 0, .int .i64 0, .int .i64 0, .int .i64 0, .int .i64 0, .int .i64 0, .int .i64 0, .int .i64 0] 48) = W4 := ⟨_, rfl⟩
  obtain ⟨eW3, bW3, sW3⟩ := boxed hW4
  have yW3_0 : w.heap.size < W4.heap.size := by omega
  replace eW0 := (bW3.block _ (Array.getElem?_eq_some_iff.1 eW0).1).trans eW0
  obtain ⟨mW3_0_0, mW3_0_1, mW3_0_2, mW3_0_3, mW3_0_4, mW3_0_5, mW3_0_6, mW3_0_7, mW3_0_8, mW3_0_9, mW3_0_10⟩ := rc11 eW0
  have yW3_1 : W1.heap.size < W4.heap.size := by omega
  replace eW1 := (bW3.block _ (Array.getElem?_eq_some_iff.1 eW1).1).trans eW1
  obtain ⟨mW3_1_0, mW3_1_1, mW3_1_2, mW3_1_3, mW3_1_4, mW3_1_5, mW3_1_6, mW3_1_7⟩ := rc8 eW1
  have yW3_2 : W2.heap.size < W4.heap.size := by omega
  replace eW2 := (bW3.block _ (Array.getElem?_eq_some_iff.1 eW2).1).trans eW2
  obtain ⟨mW3_2_0, mW3_2_1, mW3_2_2, mW3_2_3, mW3_2_4, mW3_2_5, mW3_2_6, mW3_2_7, mW3_2_8, mW3_2_9⟩ := rc10 eW2
  have yW3_3 : W3.heap.size < W4.heap.size := by omega
  obtain ⟨mW3_3_0, mW3_3_1, mW3_3_2, mW3_3_3, mW3_3_4, mW3_3_5, mW3_3_6, mW3_3_7⟩ := rc8 eW3
  obtain ⟨W5, hW5⟩ : ∃ W5, W4.alloc (.cells #[.int .i64 0, .int .i64 0, .int .i64 0, .int .i64 0, .int .i64 0, .int .i64 0] 51) = W5 := ⟨_, rfl⟩
  obtain ⟨eW4, bW4, sW4⟩ := boxed hW5
  have yW4_0 : w.heap.size < W5.heap.size := by omega
  replace eW0 := (bW4.block _ (Array.getElem?_eq_some_iff.1 eW0).1).trans eW0
  obtain ⟨mW4_0_0, mW4_0_1, mW4_0_2, mW4_0_3, mW4_0_4, mW4_0_5, mW4_0_6, mW4_0_7, mW4_0_8, mW4_0_9, mW4_0_10⟩ := rc11 eW0
  have yW4_1 : W1.heap.size < W5.heap.size := by omega
  replace eW1 := (bW4.block _ (Array.getElem?_eq_some_iff.1 eW1).1).trans eW1
  obtain ⟨mW4_1_0, mW4_1_1, mW4_1_2, mW4_1_3, mW4_1_4, mW4_1_5, mW4_1_6, mW4_1_7⟩ := rc8 eW1
  have yW4_2 : W2.heap.size < W5.heap.size := by omega
  replace eW2 := (bW4.block _ (Array.getElem?_eq_some_iff.1 eW2).1).trans eW2
  obtain ⟨mW4_2_0, mW4_2_1, mW4_2_2, mW4_2_3, mW4_2_4, mW4_2_5, mW4_2_6, mW4_2_7, mW4_2_8, mW4_2_9⟩ := rc10 eW2
  have yW4_3 : W3.heap.size < W5.heap.size := by omega
  replace eW3 := (bW4.block _ (Array.getElem?_eq_some_iff.1 eW3).1).trans eW3
  obtain ⟨mW4_3_0, mW4_3_1, mW4_3_2, mW4_3_3, mW4_3_4, mW4_3_5, mW4_3_6, mW4_3_7⟩ := rc8 eW3
  have yW4_4 : W4.heap.size < W5.heap.size := by omega
  obtain ⟨mW4_4_0, mW4_4_1, mW4_4_2, mW4_4_3, mW4_4_4, mW4_4_5⟩ := rc6 eW4
  obtain ⟨W, hW⟩ : ∃ W, W5.alloc (.cells #[.int .i64 c.vlo, .int .i64 c.vhi, .int .i64 c.least, .int .i64 c.most, .int .i64 c.f0, .int .i64 c.f1, .int .i64 c.h0, .int .i64 c.h1, .int .i64 c.rock, .int .i64 c.plo, .int .i64 c.phi] 59) = W := ⟨_, rfl⟩
  obtain ⟨eW5, bW5, sW5⟩ := boxed hW
  replace eW0 := (bW5.block _ (Array.getElem?_eq_some_iff.1 eW0).1).trans eW0
  replace eW1 := (bW5.block _ (Array.getElem?_eq_some_iff.1 eW1).1).trans eW1
  replace eW2 := (bW5.block _ (Array.getElem?_eq_some_iff.1 eW2).1).trans eW2
  replace eW3 := (bW5.block _ (Array.getElem?_eq_some_iff.1 eW3).1).trans eW3
  replace eW4 := (bW5.block _ (Array.getElem?_eq_some_iff.1 eW4).1).trans eW4
  have hBw : Below w.heap.size w W := (by have := sW0; have := sW1; have := sW2; have := sW3; have := sW4; have := sW5; exact (((((bW0.trans (bW1.mono (by omega))).trans (bW2.mono (by omega))).trans (bW3.mono (by omega))).trans (bW4.mono (by omega))).trans (bW5.mono (by omega))))
  obtain ⟨zW0, rW0, tW0⟩ := row_cells eW0
  obtain ⟨qW0_0, qW0_1, qW0_2, qW0_3, qW0_4, qW0_5, qW0_6, qW0_7, qW0_8, qW0_9, qW0_10⟩ := rc11 eW0
  obtain ⟨fW0_0, fW0_1, fW0_2, fW0_3, fW0_4, fW0_5, fW0_6, fW0_7, fW0_8, fW0_9, fW0_10⟩ := rf11 eW0
  have EW0 := Lib.hid eW0
  clear rW0 tW0 eW0
  obtain ⟨zW1, rW1, tW1⟩ := row_cells eW1
  obtain ⟨qW1_0, qW1_1, qW1_2, qW1_3, qW1_4, qW1_5, qW1_6, qW1_7⟩ := rc8 eW1
  obtain ⟨fW1_0, fW1_1, fW1_2, fW1_3, fW1_4, fW1_5, fW1_6, fW1_7⟩ := rf8 eW1
  have EW1 := Lib.hid eW1
  clear rW1 tW1 eW1
  obtain ⟨zW2, rW2, tW2⟩ := row_cells eW2
  obtain ⟨qW2_0, qW2_1, qW2_2, qW2_3, qW2_4, qW2_5, qW2_6, qW2_7, qW2_8, qW2_9⟩ := rc10 eW2
  obtain ⟨fW2_0, fW2_1, fW2_2, fW2_3, fW2_4, fW2_5, fW2_6, fW2_7, fW2_8, fW2_9⟩ := rf10 eW2
  have EW2 := Lib.hid eW2
  clear rW2 tW2 eW2
  obtain ⟨zW3, rW3, tW3⟩ := row_cells eW3
  obtain ⟨qW3_0, qW3_1, qW3_2, qW3_3, qW3_4, qW3_5, qW3_6, qW3_7⟩ := rc8 eW3
  obtain ⟨fW3_0, fW3_1, fW3_2, fW3_3, fW3_4, fW3_5, fW3_6, fW3_7⟩ := rf8 eW3
  have EW3 := Lib.hid eW3
  clear rW3 tW3 eW3
  obtain ⟨zW4, rW4, tW4⟩ := row_cells eW4
  obtain ⟨qW4_0, qW4_1, qW4_2, qW4_3, qW4_4, qW4_5⟩ := rc6 eW4
  obtain ⟨fW4_0, fW4_1, fW4_2, fW4_3, fW4_4, fW4_5⟩ := rf6 eW4
  have EW4 := Lib.hid eW4
  clear rW4 tW4 eW4
  obtain ⟨zW5, rW5, tW5⟩ := row_cells eW5
  obtain ⟨qW5_0, qW5_1, qW5_2, qW5_3, qW5_4, qW5_5, qW5_6, qW5_7, qW5_8, qW5_9, qW5_10⟩ := rc11 eW5
  obtain ⟨fW5_0, fW5_1, fW5_2, fW5_3, fW5_4, fW5_5, fW5_6, fW5_7, fW5_8, fW5_9, fW5_10⟩ := rf11 eW5
  have EW5 := Lib.hid eW5
  clear rW5 tW5 eW5
  have xW0 : w.heap.size ≤ w.heap.size := by omega
  have xW1 : w.heap.size ≤ W1.heap.size := by omega
  have xW2 : w.heap.size ≤ W2.heap.size := by omega
  have xW3 : w.heap.size ≤ W3.heap.size := by omega
  have xW4 : w.heap.size ≤ W4.heap.size := by omega
  have xW5 : w.heap.size ≤ W5.heap.size := by omega
  clear bW0 sW0 bW1 sW1 bW2 sW2 bW3 sW3 bW4 sW4 bW5 sW5
  have hg := grow_cell W
  have hgf := grow_frozen W
  clear EW0 EW1 EW2 EW3 EW4 EW5
  go_enter Try.func14, Try.ntmps14
  go_wp2_with (first | (go_at_call 17; (with_reducible refine Calls.mono (validT _ hc) ?_); rintro e w1 ⟨rfl, hB⟩; (first | (obtain ⟨g, rfl⟩ := g.next hB) | (obtain ⟨g, rfl⟩ : ∃ g : Grow W, w1 = g.x := ⟨⟨w1, hB⟩, rfl⟩)); clear hB) | (go_at_call 29; (with_reducible refine Calls.mono (stateT _ hs) ?_); rintro e w1 ⟨rfl, hB⟩; (first | (obtain ⟨g, rfl⟩ := g.next hB) | (obtain ⟨g, rfl⟩ : ∃ g : Grow W, w1 = g.x := ⟨⟨w1, hB⟩, rfl⟩)); clear hB))
  refine bodyPost_ret (v := .tuple #[stV st0, outV out0, .int .i64 2]) (by simp [results, Try.results14, go_sem, *]) rfl ⟨rfl, ?_⟩
  have hfin : Below w.heap.size w g.x := hBw.trans (g.h.mono hBw.size)
  repeat' (first | (with_reducible exact hfin) | (with_reducible exact xW3) | (with_reducible exact xW4) | refine Below.setCell ?_ ?_ _)

set_option maxRecDepth 100000 in
set_option maxHeartbeats 4000000 in
theorem progDoBad3 {c : Cav} {s : St} {o : Gas.Op} (w : World) (hc : c.ok = true) (hs : s.ok = true) (ho : o.ok = false) :
    Calls Try.prog 14 #[cavV c, stV s, opV o] w fun e w' => e = .returned (.tuple #[stV st0, outV out0, .int .i64 2]) ∧ Below w.heap.size w w' := by
  obtain ⟨W1, hW1⟩ : ∃ W1, w.alloc (.cells #[.int .i64 c.vlo, .int .i64 c.vhi, .int .i64 c.least, .int .i64 c.most, .int .i64 c.f0, .int .i64 c.f1, .int .i64 c.h0, .int .i64 c.h1, .int .i64 c.rock, .int .i64 c.plo, .int .i64 c.phi] 26) = W1 := ⟨_, rfl⟩
  obtain ⟨eW0, bW0, sW0⟩ := boxed hW1
  have yW0_0 : w.heap.size < W1.heap.size := by omega
  obtain ⟨mW0_0_0, mW0_0_1, mW0_0_2, mW0_0_3, mW0_0_4, mW0_0_5, mW0_0_6, mW0_0_7, mW0_0_8, mW0_0_9, mW0_0_10⟩ := rc11 eW0
  obtain ⟨W2, hW2⟩ : ∃ W2, W1.alloc (.cells #[.int .i64 s.glo, .int .i64 s.ghi, .int .i64 s.ylo, .int .i64 s.yhi, .int .i64 s.tlo, .int .i64 s.thi, .int .i64 s.wlo, .int .i64 s.whi] 48) = W2 := ⟨_, rfl⟩
  obtain ⟨eW1, bW1, sW1⟩ := boxed hW2
  have yW1_0 : w.heap.size < W2.heap.size := by omega
  replace eW0 := (bW1.block _ (Array.getElem?_eq_some_iff.1 eW0).1).trans eW0
  obtain ⟨mW1_0_0, mW1_0_1, mW1_0_2, mW1_0_3, mW1_0_4, mW1_0_5, mW1_0_6, mW1_0_7, mW1_0_8, mW1_0_9, mW1_0_10⟩ := rc11 eW0
  have yW1_1 : W1.heap.size < W2.heap.size := by omega
  obtain ⟨mW1_1_0, mW1_1_1, mW1_1_2, mW1_1_3, mW1_1_4, mW1_1_5, mW1_1_6, mW1_1_7⟩ := rc8 eW1
  obtain ⟨W3, hW3⟩ : ∃ W3, W2.alloc (.cells #[.int .i64 o.kind, .int .i64 o.lg, .int .i64 o.ly, .int .i64 o.lt, .int .i64 o.lw, .int .i64 o.moles, .int .i64 o.slo, .int .i64 o.shi, .int .i64 o.wlo, .int .i64 o.whi] 57) = W3 := ⟨_, rfl⟩
  obtain ⟨eW2, bW2, sW2⟩ := boxed hW3
  have yW2_0 : w.heap.size < W3.heap.size := by omega
  replace eW0 := (bW2.block _ (Array.getElem?_eq_some_iff.1 eW0).1).trans eW0
  obtain ⟨mW2_0_0, mW2_0_1, mW2_0_2, mW2_0_3, mW2_0_4, mW2_0_5, mW2_0_6, mW2_0_7, mW2_0_8, mW2_0_9, mW2_0_10⟩ := rc11 eW0
  have yW2_1 : W1.heap.size < W3.heap.size := by omega
  replace eW1 := (bW2.block _ (Array.getElem?_eq_some_iff.1 eW1).1).trans eW1
  obtain ⟨mW2_1_0, mW2_1_1, mW2_1_2, mW2_1_3, mW2_1_4, mW2_1_5, mW2_1_6, mW2_1_7⟩ := rc8 eW1
  have yW2_2 : W2.heap.size < W3.heap.size := by omega
  obtain ⟨mW2_2_0, mW2_2_1, mW2_2_2, mW2_2_3, mW2_2_4, mW2_2_5, mW2_2_6, mW2_2_7, mW2_2_8, mW2_2_9⟩ := rc10 eW2
  obtain ⟨W4, hW4⟩ : ∃ W4, W3.alloc (.cells #[.int .i64 0, .int .i64 0, .int .i64 0, .int .i64 0, .int .i64 0, .int .i64 0, .int .i64 0, .int .i64 0] 48) = W4 := ⟨_, rfl⟩
  obtain ⟨eW3, bW3, sW3⟩ := boxed hW4
  have yW3_0 : w.heap.size < W4.heap.size := by omega
  replace eW0 := (bW3.block _ (Array.getElem?_eq_some_iff.1 eW0).1).trans eW0
  obtain ⟨mW3_0_0, mW3_0_1, mW3_0_2, mW3_0_3, mW3_0_4, mW3_0_5, mW3_0_6, mW3_0_7, mW3_0_8, mW3_0_9, mW3_0_10⟩ := rc11 eW0
  have yW3_1 : W1.heap.size < W4.heap.size := by omega
  replace eW1 := (bW3.block _ (Array.getElem?_eq_some_iff.1 eW1).1).trans eW1
  obtain ⟨mW3_1_0, mW3_1_1, mW3_1_2, mW3_1_3, mW3_1_4, mW3_1_5, mW3_1_6, mW3_1_7⟩ := rc8 eW1
  have yW3_2 : W2.heap.size < W4.heap.size := by omega
  replace eW2 := (bW3.block _ (Array.getElem?_eq_some_iff.1 eW2).1).trans eW2
  obtain ⟨mW3_2_0, mW3_2_1, mW3_2_2, mW3_2_3, mW3_2_4, mW3_2_5, mW3_2_6, mW3_2_7, mW3_2_8, mW3_2_9⟩ := rc10 eW2
  have yW3_3 : W3.heap.size < W4.heap.size := by omega
  obtain ⟨mW3_3_0, mW3_3_1, mW3_3_2, mW3_3_3, mW3_3_4, mW3_3_5, mW3_3_6, mW3_3_7⟩ := rc8 eW3
  obtain ⟨W5, hW5⟩ : ∃ W5, W4.alloc (.cells #[.int .i64 0, .int .i64 0, .int .i64 0, .int .i64 0, .int .i64 0, .int .i64 0] 51) = W5 := ⟨_, rfl⟩
  obtain ⟨eW4, bW4, sW4⟩ := boxed hW5
  have yW4_0 : w.heap.size < W5.heap.size := by omega
  replace eW0 := (bW4.block _ (Array.getElem?_eq_some_iff.1 eW0).1).trans eW0
  obtain ⟨mW4_0_0, mW4_0_1, mW4_0_2, mW4_0_3, mW4_0_4, mW4_0_5, mW4_0_6, mW4_0_7, mW4_0_8, mW4_0_9, mW4_0_10⟩ := rc11 eW0
  have yW4_1 : W1.heap.size < W5.heap.size := by omega
  replace eW1 := (bW4.block _ (Array.getElem?_eq_some_iff.1 eW1).1).trans eW1
  obtain ⟨mW4_1_0, mW4_1_1, mW4_1_2, mW4_1_3, mW4_1_4, mW4_1_5, mW4_1_6, mW4_1_7⟩ := rc8 eW1
  have yW4_2 : W2.heap.size < W5.heap.size := by omega
  replace eW2 := (bW4.block _ (Array.getElem?_eq_some_iff.1 eW2).1).trans eW2
  obtain ⟨mW4_2_0, mW4_2_1, mW4_2_2, mW4_2_3, mW4_2_4, mW4_2_5, mW4_2_6, mW4_2_7, mW4_2_8, mW4_2_9⟩ := rc10 eW2
  have yW4_3 : W3.heap.size < W5.heap.size := by omega
  replace eW3 := (bW4.block _ (Array.getElem?_eq_some_iff.1 eW3).1).trans eW3
  obtain ⟨mW4_3_0, mW4_3_1, mW4_3_2, mW4_3_3, mW4_3_4, mW4_3_5, mW4_3_6, mW4_3_7⟩ := rc8 eW3
  have yW4_4 : W4.heap.size < W5.heap.size := by omega
  obtain ⟨mW4_4_0, mW4_4_1, mW4_4_2, mW4_4_3, mW4_4_4, mW4_4_5⟩ := rc6 eW4
  obtain ⟨W, hW⟩ : ∃ W, W5.alloc (.cells #[.int .i64 c.vlo, .int .i64 c.vhi, .int .i64 c.least, .int .i64 c.most, .int .i64 c.f0, .int .i64 c.f1, .int .i64 c.h0, .int .i64 c.h1, .int .i64 c.rock, .int .i64 c.plo, .int .i64 c.phi] 59) = W := ⟨_, rfl⟩
  obtain ⟨eW5, bW5, sW5⟩ := boxed hW
  replace eW0 := (bW5.block _ (Array.getElem?_eq_some_iff.1 eW0).1).trans eW0
  replace eW1 := (bW5.block _ (Array.getElem?_eq_some_iff.1 eW1).1).trans eW1
  replace eW2 := (bW5.block _ (Array.getElem?_eq_some_iff.1 eW2).1).trans eW2
  replace eW3 := (bW5.block _ (Array.getElem?_eq_some_iff.1 eW3).1).trans eW3
  replace eW4 := (bW5.block _ (Array.getElem?_eq_some_iff.1 eW4).1).trans eW4
  have hBw : Below w.heap.size w W := (by have := sW0; have := sW1; have := sW2; have := sW3; have := sW4; have := sW5; exact (((((bW0.trans (bW1.mono (by omega))).trans (bW2.mono (by omega))).trans (bW3.mono (by omega))).trans (bW4.mono (by omega))).trans (bW5.mono (by omega))))
  obtain ⟨zW0, rW0, tW0⟩ := row_cells eW0
  obtain ⟨qW0_0, qW0_1, qW0_2, qW0_3, qW0_4, qW0_5, qW0_6, qW0_7, qW0_8, qW0_9, qW0_10⟩ := rc11 eW0
  obtain ⟨fW0_0, fW0_1, fW0_2, fW0_3, fW0_4, fW0_5, fW0_6, fW0_7, fW0_8, fW0_9, fW0_10⟩ := rf11 eW0
  have EW0 := Lib.hid eW0
  clear rW0 tW0 eW0
  obtain ⟨zW1, rW1, tW1⟩ := row_cells eW1
  obtain ⟨qW1_0, qW1_1, qW1_2, qW1_3, qW1_4, qW1_5, qW1_6, qW1_7⟩ := rc8 eW1
  obtain ⟨fW1_0, fW1_1, fW1_2, fW1_3, fW1_4, fW1_5, fW1_6, fW1_7⟩ := rf8 eW1
  have EW1 := Lib.hid eW1
  clear rW1 tW1 eW1
  obtain ⟨zW2, rW2, tW2⟩ := row_cells eW2
  obtain ⟨qW2_0, qW2_1, qW2_2, qW2_3, qW2_4, qW2_5, qW2_6, qW2_7, qW2_8, qW2_9⟩ := rc10 eW2
  obtain ⟨fW2_0, fW2_1, fW2_2, fW2_3, fW2_4, fW2_5, fW2_6, fW2_7, fW2_8, fW2_9⟩ := rf10 eW2
  have EW2 := Lib.hid eW2
  clear rW2 tW2 eW2
  obtain ⟨zW3, rW3, tW3⟩ := row_cells eW3
  obtain ⟨qW3_0, qW3_1, qW3_2, qW3_3, qW3_4, qW3_5, qW3_6, qW3_7⟩ := rc8 eW3
  obtain ⟨fW3_0, fW3_1, fW3_2, fW3_3, fW3_4, fW3_5, fW3_6, fW3_7⟩ := rf8 eW3
  have EW3 := Lib.hid eW3
  clear rW3 tW3 eW3
  obtain ⟨zW4, rW4, tW4⟩ := row_cells eW4
  obtain ⟨qW4_0, qW4_1, qW4_2, qW4_3, qW4_4, qW4_5⟩ := rc6 eW4
  obtain ⟨fW4_0, fW4_1, fW4_2, fW4_3, fW4_4, fW4_5⟩ := rf6 eW4
  have EW4 := Lib.hid eW4
  clear rW4 tW4 eW4
  obtain ⟨zW5, rW5, tW5⟩ := row_cells eW5
  obtain ⟨qW5_0, qW5_1, qW5_2, qW5_3, qW5_4, qW5_5, qW5_6, qW5_7, qW5_8, qW5_9, qW5_10⟩ := rc11 eW5
  obtain ⟨fW5_0, fW5_1, fW5_2, fW5_3, fW5_4, fW5_5, fW5_6, fW5_7, fW5_8, fW5_9, fW5_10⟩ := rf11 eW5
  have EW5 := Lib.hid eW5
  clear rW5 tW5 eW5
  have xW0 : w.heap.size ≤ w.heap.size := by omega
  have xW1 : w.heap.size ≤ W1.heap.size := by omega
  have xW2 : w.heap.size ≤ W2.heap.size := by omega
  have xW3 : w.heap.size ≤ W3.heap.size := by omega
  have xW4 : w.heap.size ≤ W4.heap.size := by omega
  have xW5 : w.heap.size ≤ W5.heap.size := by omega
  clear bW0 sW0 bW1 sW1 bW2 sW2 bW3 sW3 bW4 sW4 bW5 sW5
  have hg := grow_cell W
  have hgf := grow_frozen W
  clear EW0 EW1 EW2 EW3 EW4 EW5
  go_enter Try.func14, Try.ntmps14
  go_wp2_with (first | (go_at_call 17; (with_reducible refine Calls.mono (validT _ hc) ?_); rintro e w1 ⟨rfl, hB⟩; (first | (obtain ⟨g, rfl⟩ := g.next hB) | (obtain ⟨g, rfl⟩ : ∃ g : Grow W, w1 = g.x := ⟨⟨w1, hB⟩, rfl⟩)); clear hB) | (go_at_call 29; (with_reducible refine Calls.mono (stateT _ hs) ?_); rintro e w1 ⟨rfl, hB⟩; (first | (obtain ⟨g, rfl⟩ := g.next hB) | (obtain ⟨g, rfl⟩ : ∃ g : Grow W, w1 = g.x := ⟨⟨w1, hB⟩, rfl⟩)); clear hB) | (go_at_call 34; (with_reducible refine Calls.mono (opT _ ho) ?_); rintro e w1 ⟨rfl, hB⟩; (first | (obtain ⟨g, rfl⟩ := g.next hB) | (obtain ⟨g, rfl⟩ : ∃ g : Grow W, w1 = g.x := ⟨⟨w1, hB⟩, rfl⟩)); clear hB))
  refine bodyPost_ret (v := .tuple #[stV st0, outV out0, .int .i64 2]) (by simp [results, Try.results14, go_sem, *]) rfl ⟨rfl, ?_⟩
  have hfin : Below w.heap.size w g.x := hBw.trans (g.h.mono hBw.size)
  repeat' (first | (with_reducible exact hfin) | (with_reducible exact xW3) | (with_reducible exact xW4) | refine Below.setCell ?_ ?_ _)

theorem progDoBad {c : Cav} {s : St} {o : Gas.Op} (w : World) (h : (c.ok && s.ok && o.ok) = false) :
    Calls Try.prog 14 #[cavV c, stV s, opV o] w fun e w' => e = .returned (.tuple #[stV st0, outV out0, .int .i64 2]) ∧ Below w.heap.size w w' := by
  cases hc : c.ok
  · exact progDoBad1 w hc
  · cases hs : s.ok
    · exact progDoBad2 w hc hs
    · cases ho : o.ok
      · exact progDoBad3 w hc hs ho
      · rw [hc, hs, ho] at h; cases h

end Go.Proofs.Ytdilgjhdimlbkaa
