/- Gas: walks: the pressure of a state, and of a content; the rule that a content breaks. -/
import Derived.Test.YtdilgjhdimlbkaaPrs
set_option linter.unusedVariables false
set_option linter.unusedSimpArgs false
namespace Go.Proofs.Ytdilgjhdimlbkaa
open Go.RowKit Go.Sd Gas
theorem force_bd4 {c : Cav} {p : Pt} (hc : c.Ok) (hg : 0 ≤ p.g ∧ p.g ≤ 1000000) (hy : 0 ≤ p.y ∧ p.y ≤ 1000000) (ht : 0 ≤ p.t ∧ p.t ≤ 5000) : 0 ≤ force c p ∧ force c p ≤ 4000000000000000000 := by
  have := force_nn hc hg hy ht; omega
/-- The pressure of a content in a volume. -/
def presF (c : Cav) (p : Pt) (v : Int) : Fr := frac (force c p) (v * 10000000)

set_option maxRecDepth 100000 in
set_option maxHeartbeats 4000000 in
theorem progPressureBad1 {c : Cav} {s : St} (w : World) (hc : c.ok = false) : Calls Try.prog 11 #[cavV c, stV s] w fun e w' => e = .returned (.tuple #[frV ⟨0, 0⟩, frV ⟨0, 0⟩, .int .i64 2]) ∧ Below w.heap.size w w' := by
  obtain ⟨W1, hW1⟩ : ∃ W1, w.alloc (.cells #[.int .i64 c.vlo, .int .i64 c.vhi, .int .i64 c.least, .int .i64 c.most, .int .i64 c.f0, .int .i64 c.f1, .int .i64 c.h0, .int .i64 c.h1, .int .i64 c.rock, .int .i64 c.plo, .int .i64 c.phi] 26) = W1 := ⟨_, rfl⟩
  obtain ⟨eW0, bW0, sW0⟩ := boxed hW1
  have yW0_0 : w.heap.size < W1.heap.size := by omega
  obtain ⟨mW0_0_0, mW0_0_1, mW0_0_2, mW0_0_3, mW0_0_4, mW0_0_5, mW0_0_6, mW0_0_7, mW0_0_8, mW0_0_9, mW0_0_10⟩ := rc11 eW0
  obtain ⟨W2, hW2⟩ : ∃ W2, W1.alloc (.cells #[.int .i64 s.glo, .int .i64 s.ghi, .int .i64 s.ylo, .int .i64 s.yhi, .int .i64 s.tlo, .int .i64 s.thi, .int .i64 s.wlo, .int .i64 s.whi] 48) = W2 := ⟨_, rfl⟩
  obtain ⟨eW1, bW1, sW1⟩ := boxed hW2
  have yW1_0 : w.heap.size < W2.heap.size := by omega
  replace eW0 := (bW1.block _ (Array.getElem?_eq_some_iff.1 eW0).1).trans eW0
  obtain ⟨mW1_0_0, mW1_0_1, mW1_0_2, mW1_0_3, mW1_0_4, mW1_0_5, mW1_0_6, mW1_0_7, mW1_0_8, mW1_0_9, mW1_0_10⟩ := rc11 eW0
  have yW1_1 : W1.heap.size < W2.heap.size := by omega
  obtain ⟨mW1_1_0, mW1_1_1, mW1_1_2, mW1_1_3, mW1_1_4, mW1_1_5, mW1_1_6, mW1_1_7⟩ := rc8 eW1
  obtain ⟨W3, hW3⟩ : ∃ W3, W2.alloc (.cells #[.int .i64 0, .int .i64 0] 43) = W3 := ⟨_, rfl⟩
  obtain ⟨eW2, bW2, sW2⟩ := boxed hW3
  have yW2_0 : w.heap.size < W3.heap.size := by omega
  replace eW0 := (bW2.block _ (Array.getElem?_eq_some_iff.1 eW0).1).trans eW0
  obtain ⟨mW2_0_0, mW2_0_1, mW2_0_2, mW2_0_3, mW2_0_4, mW2_0_5, mW2_0_6, mW2_0_7, mW2_0_8, mW2_0_9, mW2_0_10⟩ := rc11 eW0
  have yW2_1 : W1.heap.size < W3.heap.size := by omega
  replace eW1 := (bW2.block _ (Array.getElem?_eq_some_iff.1 eW1).1).trans eW1
  obtain ⟨mW2_1_0, mW2_1_1, mW2_1_2, mW2_1_3, mW2_1_4, mW2_1_5, mW2_1_6, mW2_1_7⟩ := rc8 eW1
  have yW2_2 : W2.heap.size < W3.heap.size := by omega
  obtain ⟨mW2_2_0, mW2_2_1⟩ := rc2 eW2
  obtain ⟨W4, hW4⟩ : ∃ W4, W3.alloc (.cells #[.int .i64 0, .int .i64 0] 43) = W4 := ⟨_, rfl⟩
  obtain ⟨eW3, bW3, sW3⟩ := boxed hW4
  have yW3_0 : w.heap.size < W4.heap.size := by omega
  replace eW0 := (bW3.block _ (Array.getElem?_eq_some_iff.1 eW0).1).trans eW0
  obtain ⟨mW3_0_0, mW3_0_1, mW3_0_2, mW3_0_3, mW3_0_4, mW3_0_5, mW3_0_6, mW3_0_7, mW3_0_8, mW3_0_9, mW3_0_10⟩ := rc11 eW0
  have yW3_1 : W1.heap.size < W4.heap.size := by omega
  replace eW1 := (bW3.block _ (Array.getElem?_eq_some_iff.1 eW1).1).trans eW1
  obtain ⟨mW3_1_0, mW3_1_1, mW3_1_2, mW3_1_3, mW3_1_4, mW3_1_5, mW3_1_6, mW3_1_7⟩ := rc8 eW1
  have yW3_2 : W2.heap.size < W4.heap.size := by omega
  replace eW2 := (bW3.block _ (Array.getElem?_eq_some_iff.1 eW2).1).trans eW2
  obtain ⟨mW3_2_0, mW3_2_1⟩ := rc2 eW2
  have yW3_3 : W3.heap.size < W4.heap.size := by omega
  obtain ⟨mW3_3_0, mW3_3_1⟩ := rc2 eW3
  obtain ⟨W, hW⟩ : ∃ W, W4.alloc (.cells #[.int .i64 c.vlo, .int .i64 c.vhi, .int .i64 c.least, .int .i64 c.most, .int .i64 c.f0, .int .i64 c.f1, .int .i64 c.h0, .int .i64 c.h1, .int .i64 c.rock, .int .i64 c.plo, .int .i64 c.phi] 59) = W := ⟨_, rfl⟩
  obtain ⟨eW4, bW4, sW4⟩ := boxed hW
  replace eW0 := (bW4.block _ (Array.getElem?_eq_some_iff.1 eW0).1).trans eW0
  replace eW1 := (bW4.block _ (Array.getElem?_eq_some_iff.1 eW1).1).trans eW1
  replace eW2 := (bW4.block _ (Array.getElem?_eq_some_iff.1 eW2).1).trans eW2
  replace eW3 := (bW4.block _ (Array.getElem?_eq_some_iff.1 eW3).1).trans eW3
  have hBw : Below w.heap.size w W := (by have := sW0; have := sW1; have := sW2; have := sW3; have := sW4; exact ((((bW0.trans (bW1.mono (by omega))).trans (bW2.mono (by omega))).trans (bW3.mono (by omega))).trans (bW4.mono (by omega))))
  obtain ⟨zW0, rW0, tW0⟩ := row_cells eW0
  obtain ⟨qW0_0, qW0_1, qW0_2, qW0_3, qW0_4, qW0_5, qW0_6, qW0_7, qW0_8, qW0_9, qW0_10⟩ := rc11 eW0
  obtain ⟨fW0_0, fW0_1, fW0_2, fW0_3, fW0_4, fW0_5, fW0_6, fW0_7, fW0_8, fW0_9, fW0_10⟩ := rf11 eW0
  clear rW0 tW0 eW0
  obtain ⟨zW1, rW1, tW1⟩ := row_cells eW1
  obtain ⟨qW1_0, qW1_1, qW1_2, qW1_3, qW1_4, qW1_5, qW1_6, qW1_7⟩ := rc8 eW1
  obtain ⟨fW1_0, fW1_1, fW1_2, fW1_3, fW1_4, fW1_5, fW1_6, fW1_7⟩ := rf8 eW1
  clear rW1 tW1 eW1
  obtain ⟨zW2, rW2, tW2⟩ := row_cells eW2
  obtain ⟨qW2_0, qW2_1⟩ := rc2 eW2
  obtain ⟨fW2_0, fW2_1⟩ := rf2 eW2
  clear rW2 tW2 eW2
  obtain ⟨zW3, rW3, tW3⟩ := row_cells eW3
  obtain ⟨qW3_0, qW3_1⟩ := rc2 eW3
  obtain ⟨fW3_0, fW3_1⟩ := rf2 eW3
  clear rW3 tW3 eW3
  obtain ⟨zW4, rW4, tW4⟩ := row_cells eW4
  obtain ⟨qW4_0, qW4_1, qW4_2, qW4_3, qW4_4, qW4_5, qW4_6, qW4_7, qW4_8, qW4_9, qW4_10⟩ := rc11 eW4
  obtain ⟨fW4_0, fW4_1, fW4_2, fW4_3, fW4_4, fW4_5, fW4_6, fW4_7, fW4_8, fW4_9, fW4_10⟩ := rf11 eW4
  clear rW4 tW4 eW4
  have xW0 : w.heap.size ≤ w.heap.size := by omega
  have xW1 : w.heap.size ≤ W1.heap.size := by omega
  have xW2 : w.heap.size ≤ W2.heap.size := by omega
  have xW3 : w.heap.size ≤ W3.heap.size := by omega
  have xW4 : w.heap.size ≤ W4.heap.size := by omega
  clear bW0 sW0 bW1 sW1 bW2 sW2 bW3 sW3 bW4 sW4
  have hgc := grow_cell W
  have hgf := grow_frozen W
  have kV := Lib.hid (fun w => (progValid c w).mono fun e w' hb => BoolB.lit hb hc)
  go_enter Try.func11, Try.ntmps11
  go_wp2_with (first | (go_at_call 17; (with_reducible refine Calls.mono (kV.out _) ?_); rintro e w1 ⟨rfl, hB⟩; (first | (obtain ⟨g, rfl⟩ := g.next hB) | (obtain ⟨g, rfl⟩ : ∃ g : Grow W, w1 = g.x := ⟨⟨w1, hB⟩, rfl⟩)); clear hB))
  refine bodyPost_ret (v := .tuple #[frV ⟨0, 0⟩, frV ⟨0, 0⟩, .int .i64 2]) (by simp [results, Try.results11, go_sem, *]) rfl ⟨rfl, ?_⟩
  have hfin : Below w.heap.size w g.x := hBw.trans (g.h.mono hBw.size)
  repeat' (first | (with_reducible exact hfin) | (with_reducible exact xW2) | (with_reducible exact xW3) | (with_reducible refine Below.setCell ?_ ?_ _))

set_option maxRecDepth 100000 in
set_option maxHeartbeats 4000000 in
theorem progPressureBad2 {c : Cav} {s : St} (w : World) (hc : c.ok = true) (hs : s.ok = false) : Calls Try.prog 11 #[cavV c, stV s] w fun e w' => e = .returned (.tuple #[frV ⟨0, 0⟩, frV ⟨0, 0⟩, .int .i64 2]) ∧ Below w.heap.size w w' := by
  obtain ⟨W1, hW1⟩ : ∃ W1, w.alloc (.cells #[.int .i64 c.vlo, .int .i64 c.vhi, .int .i64 c.least, .int .i64 c.most, .int .i64 c.f0, .int .i64 c.f1, .int .i64 c.h0, .int .i64 c.h1, .int .i64 c.rock, .int .i64 c.plo, .int .i64 c.phi] 26) = W1 := ⟨_, rfl⟩
  obtain ⟨eW0, bW0, sW0⟩ := boxed hW1
  have yW0_0 : w.heap.size < W1.heap.size := by omega
  obtain ⟨mW0_0_0, mW0_0_1, mW0_0_2, mW0_0_3, mW0_0_4, mW0_0_5, mW0_0_6, mW0_0_7, mW0_0_8, mW0_0_9, mW0_0_10⟩ := rc11 eW0
  obtain ⟨W2, hW2⟩ : ∃ W2, W1.alloc (.cells #[.int .i64 s.glo, .int .i64 s.ghi, .int .i64 s.ylo, .int .i64 s.yhi, .int .i64 s.tlo, .int .i64 s.thi, .int .i64 s.wlo, .int .i64 s.whi] 48) = W2 := ⟨_, rfl⟩
  obtain ⟨eW1, bW1, sW1⟩ := boxed hW2
  have yW1_0 : w.heap.size < W2.heap.size := by omega
  replace eW0 := (bW1.block _ (Array.getElem?_eq_some_iff.1 eW0).1).trans eW0
  obtain ⟨mW1_0_0, mW1_0_1, mW1_0_2, mW1_0_3, mW1_0_4, mW1_0_5, mW1_0_6, mW1_0_7, mW1_0_8, mW1_0_9, mW1_0_10⟩ := rc11 eW0
  have yW1_1 : W1.heap.size < W2.heap.size := by omega
  obtain ⟨mW1_1_0, mW1_1_1, mW1_1_2, mW1_1_3, mW1_1_4, mW1_1_5, mW1_1_6, mW1_1_7⟩ := rc8 eW1
  obtain ⟨W3, hW3⟩ : ∃ W3, W2.alloc (.cells #[.int .i64 0, .int .i64 0] 43) = W3 := ⟨_, rfl⟩
  obtain ⟨eW2, bW2, sW2⟩ := boxed hW3
  have yW2_0 : w.heap.size < W3.heap.size := by omega
  replace eW0 := (bW2.block _ (Array.getElem?_eq_some_iff.1 eW0).1).trans eW0
  obtain ⟨mW2_0_0, mW2_0_1, mW2_0_2, mW2_0_3, mW2_0_4, mW2_0_5, mW2_0_6, mW2_0_7, mW2_0_8, mW2_0_9, mW2_0_10⟩ := rc11 eW0
  have yW2_1 : W1.heap.size < W3.heap.size := by omega
  replace eW1 := (bW2.block _ (Array.getElem?_eq_some_iff.1 eW1).1).trans eW1
  obtain ⟨mW2_1_0, mW2_1_1, mW2_1_2, mW2_1_3, mW2_1_4, mW2_1_5, mW2_1_6, mW2_1_7⟩ := rc8 eW1
  have yW2_2 : W2.heap.size < W3.heap.size := by omega
  obtain ⟨mW2_2_0, mW2_2_1⟩ := rc2 eW2
  obtain ⟨W4, hW4⟩ : ∃ W4, W3.alloc (.cells #[.int .i64 0, .int .i64 0] 43) = W4 := ⟨_, rfl⟩
  obtain ⟨eW3, bW3, sW3⟩ := boxed hW4
  have yW3_0 : w.heap.size < W4.heap.size := by omega
  replace eW0 := (bW3.block _ (Array.getElem?_eq_some_iff.1 eW0).1).trans eW0
  obtain ⟨mW3_0_0, mW3_0_1, mW3_0_2, mW3_0_3, mW3_0_4, mW3_0_5, mW3_0_6, mW3_0_7, mW3_0_8, mW3_0_9, mW3_0_10⟩ := rc11 eW0
  have yW3_1 : W1.heap.size < W4.heap.size := by omega
  replace eW1 := (bW3.block _ (Array.getElem?_eq_some_iff.1 eW1).1).trans eW1
  obtain ⟨mW3_1_0, mW3_1_1, mW3_1_2, mW3_1_3, mW3_1_4, mW3_1_5, mW3_1_6, mW3_1_7⟩ := rc8 eW1
  have yW3_2 : W2.heap.size < W4.heap.size := by omega
  replace eW2 := (bW3.block _ (Array.getElem?_eq_some_iff.1 eW2).1).trans eW2
  obtain ⟨mW3_2_0, mW3_2_1⟩ := rc2 eW2
  have yW3_3 : W3.heap.size < W4.heap.size := by omega
  obtain ⟨mW3_3_0, mW3_3_1⟩ := rc2 eW3
  obtain ⟨W, hW⟩ : ∃ W, W4.alloc (.cells #[.int .i64 c.vlo, .int .i64 c.vhi, .int .i64 c.least, .int .i64 c.most, .int .i64 c.f0, .int .i64 c.f1, .int .i64 c.h0, .int .i64 c.h1, .int .i64 c.rock, .int .i64 c.plo, .int .i64 c.phi] 59) = W := ⟨_, rfl⟩
  obtain ⟨eW4, bW4, sW4⟩ := boxed hW
  replace eW0 := (bW4.block _ (Array.getElem?_eq_some_iff.1 eW0).1).trans eW0
  replace eW1 := (bW4.block _ (Array.getElem?_eq_some_iff.1 eW1).1).trans eW1
  replace eW2 := (bW4.block _ (Array.getElem?_eq_some_iff.1 eW2).1).trans eW2
  replace eW3 := (bW4.block _ (Array.getElem?_eq_some_iff.1 eW3).1).trans eW3
  have hBw : Below w.heap.size w W := (by have := sW0; have := sW1; have := sW2; have := sW3; have := sW4; exact ((((bW0.trans (bW1.mono (by omega))).trans (bW2.mono (by omega))).trans (bW3.mono (by omega))).trans (bW4.mono (by omega))))
  obtain ⟨zW0, rW0, tW0⟩ := row_cells eW0
  obtain ⟨qW0_0, qW0_1, qW0_2, qW0_3, qW0_4, qW0_5, qW0_6, qW0_7, qW0_8, qW0_9, qW0_10⟩ := rc11 eW0
  obtain ⟨fW0_0, fW0_1, fW0_2, fW0_3, fW0_4, fW0_5, fW0_6, fW0_7, fW0_8, fW0_9, fW0_10⟩ := rf11 eW0
  clear rW0 tW0 eW0
  obtain ⟨zW1, rW1, tW1⟩ := row_cells eW1
  obtain ⟨qW1_0, qW1_1, qW1_2, qW1_3, qW1_4, qW1_5, qW1_6, qW1_7⟩ := rc8 eW1
  obtain ⟨fW1_0, fW1_1, fW1_2, fW1_3, fW1_4, fW1_5, fW1_6, fW1_7⟩ := rf8 eW1
  clear rW1 tW1 eW1
  obtain ⟨zW2, rW2, tW2⟩ := row_cells eW2
  obtain ⟨qW2_0, qW2_1⟩ := rc2 eW2
  obtain ⟨fW2_0, fW2_1⟩ := rf2 eW2
  clear rW2 tW2 eW2
  obtain ⟨zW3, rW3, tW3⟩ := row_cells eW3
  obtain ⟨qW3_0, qW3_1⟩ := rc2 eW3
  obtain ⟨fW3_0, fW3_1⟩ := rf2 eW3
  clear rW3 tW3 eW3
  obtain ⟨zW4, rW4, tW4⟩ := row_cells eW4
  obtain ⟨qW4_0, qW4_1, qW4_2, qW4_3, qW4_4, qW4_5, qW4_6, qW4_7, qW4_8, qW4_9, qW4_10⟩ := rc11 eW4
  obtain ⟨fW4_0, fW4_1, fW4_2, fW4_3, fW4_4, fW4_5, fW4_6, fW4_7, fW4_8, fW4_9, fW4_10⟩ := rf11 eW4
  clear rW4 tW4 eW4
  have xW0 : w.heap.size ≤ w.heap.size := by omega
  have xW1 : w.heap.size ≤ W1.heap.size := by omega
  have xW2 : w.heap.size ≤ W2.heap.size := by omega
  have xW3 : w.heap.size ≤ W3.heap.size := by omega
  have xW4 : w.heap.size ≤ W4.heap.size := by omega
  clear bW0 sW0 bW1 sW1 bW2 sW2 bW3 sW3 bW4 sW4
  have hgc := grow_cell W
  have hgf := grow_frozen W
  have kV := Lib.hid (fun w => (progValid c w).mono fun e w' hb => BoolB.lit hb hc)
  have kS := Lib.hid (fun w => (progState s w).mono fun e w' hb => BoolB.lit hb hs)
  go_enter Try.func11, Try.ntmps11
  go_wp2_with (first | (go_at_call 17; (with_reducible refine Calls.mono (kV.out _) ?_); rintro e w1 ⟨rfl, hB⟩; (first | (obtain ⟨g, rfl⟩ := g.next hB) | (obtain ⟨g, rfl⟩ : ∃ g : Grow W, w1 = g.x := ⟨⟨w1, hB⟩, rfl⟩)); clear hB) | (go_at_call 29; (with_reducible refine Calls.mono (kS.out _) ?_); rintro e w1 ⟨rfl, hB⟩; (first | (obtain ⟨g, rfl⟩ := g.next hB) | (obtain ⟨g, rfl⟩ : ∃ g : Grow W, w1 = g.x := ⟨⟨w1, hB⟩, rfl⟩)); clear hB))
  refine bodyPost_ret (v := .tuple #[frV ⟨0, 0⟩, frV ⟨0, 0⟩, .int .i64 2]) (by simp [results, Try.results11, go_sem, *]) rfl ⟨rfl, ?_⟩
  have hfin : Below w.heap.size w g.x := hBw.trans (g.h.mono hBw.size)
  repeat' (first | (with_reducible exact hfin) | (with_reducible exact xW2) | (with_reducible exact xW3) | (with_reducible refine Below.setCell ?_ ?_ _))

set_option maxRecDepth 100000 in
set_option maxHeartbeats 4000000 in
theorem progPressureOk {c : Cav} {s : St} (w : World) (hc : c.ok = true) (hs : s.ok = true) : Calls Try.prog 11 #[cavV c, stV s] w fun e w' => e = .returned (.tuple #[frV (presF c s.low c.vhi), frV (presF c s.high c.vlo), .int .i64 0]) ∧ Below w.heap.size w w' := by
  obtain ⟨W1, hW1⟩ : ∃ W1, w.alloc (.cells #[.int .i64 c.vlo, .int .i64 c.vhi, .int .i64 c.least, .int .i64 c.most, .int .i64 c.f0, .int .i64 c.f1, .int .i64 c.h0, .int .i64 c.h1, .int .i64 c.rock, .int .i64 c.plo, .int .i64 c.phi] 26) = W1 := ⟨_, rfl⟩
  obtain ⟨eW0, bW0, sW0⟩ := boxed hW1
  have yW0_0 : w.heap.size < W1.heap.size := by omega
  obtain ⟨mW0_0_0, mW0_0_1, mW0_0_2, mW0_0_3, mW0_0_4, mW0_0_5, mW0_0_6, mW0_0_7, mW0_0_8, mW0_0_9, mW0_0_10⟩ := rc11 eW0
  obtain ⟨W2, hW2⟩ : ∃ W2, W1.alloc (.cells #[.int .i64 s.glo, .int .i64 s.ghi, .int .i64 s.ylo, .int .i64 s.yhi, .int .i64 s.tlo, .int .i64 s.thi, .int .i64 s.wlo, .int .i64 s.whi] 48) = W2 := ⟨_, rfl⟩
  obtain ⟨eW1, bW1, sW1⟩ := boxed hW2
  have yW1_0 : w.heap.size < W2.heap.size := by omega
  replace eW0 := (bW1.block _ (Array.getElem?_eq_some_iff.1 eW0).1).trans eW0
  obtain ⟨mW1_0_0, mW1_0_1, mW1_0_2, mW1_0_3, mW1_0_4, mW1_0_5, mW1_0_6, mW1_0_7, mW1_0_8, mW1_0_9, mW1_0_10⟩ := rc11 eW0
  have yW1_1 : W1.heap.size < W2.heap.size := by omega
  obtain ⟨mW1_1_0, mW1_1_1, mW1_1_2, mW1_1_3, mW1_1_4, mW1_1_5, mW1_1_6, mW1_1_7⟩ := rc8 eW1
  obtain ⟨W3, hW3⟩ : ∃ W3, W2.alloc (.cells #[.int .i64 0, .int .i64 0] 43) = W3 := ⟨_, rfl⟩
  obtain ⟨eW2, bW2, sW2⟩ := boxed hW3
  have yW2_0 : w.heap.size < W3.heap.size := by omega
  replace eW0 := (bW2.block _ (Array.getElem?_eq_some_iff.1 eW0).1).trans eW0
  obtain ⟨mW2_0_0, mW2_0_1, mW2_0_2, mW2_0_3, mW2_0_4, mW2_0_5, mW2_0_6, mW2_0_7, mW2_0_8, mW2_0_9, mW2_0_10⟩ := rc11 eW0
  have yW2_1 : W1.heap.size < W3.heap.size := by omega
  replace eW1 := (bW2.block _ (Array.getElem?_eq_some_iff.1 eW1).1).trans eW1
  obtain ⟨mW2_1_0, mW2_1_1, mW2_1_2, mW2_1_3, mW2_1_4, mW2_1_5, mW2_1_6, mW2_1_7⟩ := rc8 eW1
  have yW2_2 : W2.heap.size < W3.heap.size := by omega
  obtain ⟨mW2_2_0, mW2_2_1⟩ := rc2 eW2
  obtain ⟨W4, hW4⟩ : ∃ W4, W3.alloc (.cells #[.int .i64 0, .int .i64 0] 43) = W4 := ⟨_, rfl⟩
  obtain ⟨eW3, bW3, sW3⟩ := boxed hW4
  have yW3_0 : w.heap.size < W4.heap.size := by omega
  replace eW0 := (bW3.block _ (Array.getElem?_eq_some_iff.1 eW0).1).trans eW0
  obtain ⟨mW3_0_0, mW3_0_1, mW3_0_2, mW3_0_3, mW3_0_4, mW3_0_5, mW3_0_6, mW3_0_7, mW3_0_8, mW3_0_9, mW3_0_10⟩ := rc11 eW0
  have yW3_1 : W1.heap.size < W4.heap.size := by omega
  replace eW1 := (bW3.block _ (Array.getElem?_eq_some_iff.1 eW1).1).trans eW1
  obtain ⟨mW3_1_0, mW3_1_1, mW3_1_2, mW3_1_3, mW3_1_4, mW3_1_5, mW3_1_6, mW3_1_7⟩ := rc8 eW1
  have yW3_2 : W2.heap.size < W4.heap.size := by omega
  replace eW2 := (bW3.block _ (Array.getElem?_eq_some_iff.1 eW2).1).trans eW2
  obtain ⟨mW3_2_0, mW3_2_1⟩ := rc2 eW2
  have yW3_3 : W3.heap.size < W4.heap.size := by omega
  obtain ⟨mW3_3_0, mW3_3_1⟩ := rc2 eW3
  obtain ⟨W, hW⟩ : ∃ W, W4.alloc (.cells #[.int .i64 c.vlo, .int .i64 c.vhi, .int .i64 c.least, .int .i64 c.most, .int .i64 c.f0, .int .i64 c.f1, .int .i64 c.h0, .int .i64 c.h1, .int .i64 c.rock, .int .i64 c.plo, .int .i64 c.phi] 59) = W := ⟨_, rfl⟩
  obtain ⟨eW4, bW4, sW4⟩ := boxed hW
  replace eW0 := (bW4.block _ (Array.getElem?_eq_some_iff.1 eW0).1).trans eW0
  replace eW1 := (bW4.block _ (Array.getElem?_eq_some_iff.1 eW1).1).trans eW1
  replace eW2 := (bW4.block _ (Array.getElem?_eq_some_iff.1 eW2).1).trans eW2
  replace eW3 := (bW4.block _ (Array.getElem?_eq_some_iff.1 eW3).1).trans eW3
  have hBw : Below w.heap.size w W := (by have := sW0; have := sW1; have := sW2; have := sW3; have := sW4; exact ((((bW0.trans (bW1.mono (by omega))).trans (bW2.mono (by omega))).trans (bW3.mono (by omega))).trans (bW4.mono (by omega))))
  obtain ⟨zW0, rW0, tW0⟩ := row_cells eW0
  obtain ⟨qW0_0, qW0_1, qW0_2, qW0_3, qW0_4, qW0_5, qW0_6, qW0_7, qW0_8, qW0_9, qW0_10⟩ := rc11 eW0
  obtain ⟨fW0_0, fW0_1, fW0_2, fW0_3, fW0_4, fW0_5, fW0_6, fW0_7, fW0_8, fW0_9, fW0_10⟩ := rf11 eW0
  clear rW0 tW0 eW0
  obtain ⟨zW1, rW1, tW1⟩ := row_cells eW1
  obtain ⟨qW1_0, qW1_1, qW1_2, qW1_3, qW1_4, qW1_5, qW1_6, qW1_7⟩ := rc8 eW1
  obtain ⟨fW1_0, fW1_1, fW1_2, fW1_3, fW1_4, fW1_5, fW1_6, fW1_7⟩ := rf8 eW1
  clear rW1 tW1 eW1
  obtain ⟨zW2, rW2, tW2⟩ := row_cells eW2
  obtain ⟨qW2_0, qW2_1⟩ := rc2 eW2
  obtain ⟨fW2_0, fW2_1⟩ := rf2 eW2
  clear rW2 tW2 eW2
  obtain ⟨zW3, rW3, tW3⟩ := row_cells eW3
  obtain ⟨qW3_0, qW3_1⟩ := rc2 eW3
  obtain ⟨fW3_0, fW3_1⟩ := rf2 eW3
  clear rW3 tW3 eW3
  obtain ⟨zW4, rW4, tW4⟩ := row_cells eW4
  obtain ⟨qW4_0, qW4_1, qW4_2, qW4_3, qW4_4, qW4_5, qW4_6, qW4_7, qW4_8, qW4_9, qW4_10⟩ := rc11 eW4
  obtain ⟨fW4_0, fW4_1, fW4_2, fW4_3, fW4_4, fW4_5, fW4_6, fW4_7, fW4_8, fW4_9, fW4_10⟩ := rf11 eW4
  clear rW4 tW4 eW4
  have xW0 : w.heap.size ≤ w.heap.size := by omega
  have xW1 : w.heap.size ≤ W1.heap.size := by omega
  have xW2 : w.heap.size ≤ W2.heap.size := by omega
  have xW3 : w.heap.size ≤ W3.heap.size := by omega
  have xW4 : w.heap.size ≤ W4.heap.size := by omega
  clear bW0 sW0 bW1 sW1 bW2 sW2 bW3 sW3 bW4 sW4
  have hgc := grow_cell W
  have hgf := grow_frozen W
  have hc' := Cav.ok_iff.1 hc
  have hs' := St.ok_iff.1 hs
  obtain ⟨g1, g2, g3, g4⟩ := gas_bd hs'
  obtain ⟨t1, t2⟩ := lowT hs'
  have hv := hc'.v
  have kV := Lib.hid (fun w => (progValid c w).mono fun e w' hb => BoolB.lit hb hc)
  have kS := Lib.hid (fun w => (progState s w).mono fun e w' hb => BoolB.lit hb hs)
  have kL := Lib.hid (fun w => progLowest s w)
  have kH := Lib.hid (fun w => progHighest s w)
  have kP1 := Lib.hid (fun w => progPress c s.low c.vhi w hc' g1 g3 t1 (by omega))
  have kP2 := Lib.hid (fun w => progPress c s.high c.vlo w hc' g2 g4 t2 (by omega))
  have kR1 := Lib.hid (fun w => progReduced (force c s.low) (c.vhi * 10000000) w (force_bd4 hc' g1 g3 t1) (by omega))
  have kR2 := Lib.hid (fun w => progReduced (force c s.high) (c.vlo * 10000000) w (force_bd4 hc' g2 g4 t2) (by omega))
  go_enter Try.func11, Try.ntmps11
  go_wp2_with (first | (go_at_call 17; (with_reducible refine Calls.mono (kV.out _) ?_); rintro e w1 ⟨rfl, hB⟩; (first | (obtain ⟨g, rfl⟩ := g.next hB) | (obtain ⟨g, rfl⟩ : ∃ g : Grow W, w1 = g.x := ⟨⟨w1, hB⟩, rfl⟩)); clear hB) | (go_at_call 29; (with_reducible refine Calls.mono (kS.out _) ?_); rintro e w1 ⟨rfl, hB⟩; (first | (obtain ⟨g, rfl⟩ := g.next hB) | (obtain ⟨g, rfl⟩ : ∃ g : Grow W, w1 = g.x := ⟨⟨w1, hB⟩, rfl⟩)); clear hB))
  have hgg : ∀ (h : Grow g.x) (b o : Nat), b < W.heap.size → h.x.cell? ⟨b, o, none⟩ = W.cell? ⟨b, o, none⟩ := fun h b o hb => (grow_cell g.x h b o (Nat.lt_of_lt_of_le hb g.size)).trans (grow_cell W g b o hb)
  refine wp_region_grow (by kernel_rfl) (by kernel_rfl) ?_
  repeat (go_big_quiet_step ((first | (go_at_call 31; with_reducible exact Calls.grow (kL.out _)) | (go_at_call 30; with_reducible exact Calls.grow (kP1.out _)))))
  refine wpQuiet_nil ?_
  rintro _ ⟨gx, rfl⟩
  clear hgg
  obtain ⟨g, hg⟩ := g.next gx.h
  rw [hg]
  clear hg gx
  go_wp2
  have hgg : ∀ (h : Grow g.x) (b o : Nat), b < W.heap.size → h.x.cell? ⟨b, o, none⟩ = W.cell? ⟨b, o, none⟩ := fun h b o hb => (grow_cell g.x h b o (Nat.lt_of_lt_of_le hb g.size)).trans (grow_cell W g b o hb)
  refine wp_region_grow (by kernel_rfl) (by kernel_rfl) ?_
  repeat (go_big_quiet_step ((first | (go_at_call 32; with_reducible exact Calls.grow (kH.out _)) | (go_at_call 30; with_reducible exact Calls.grow (kP2.out _)))))
  refine wpQuiet_nil ?_
  rintro _ ⟨gx, rfl⟩
  clear hgg
  obtain ⟨g, hg⟩ := g.next gx.h
  rw [hg]
  clear hg gx
  go_wp2_with (first | (go_at_call 33; (with_reducible refine Calls.mono (kR1.out _) ?_); rintro e w1 ⟨rfl, hB⟩; (first | (obtain ⟨g, rfl⟩ := g.next hB) | (obtain ⟨g, rfl⟩ : ∃ g : Grow W, w1 = g.x := ⟨⟨w1, hB⟩, rfl⟩)); clear hB) | (go_at_call 33; (with_reducible refine Calls.mono (kR2.out _) ?_); rintro e w1 ⟨rfl, hB⟩; (first | (obtain ⟨g, rfl⟩ := g.next hB) | (obtain ⟨g, rfl⟩ : ∃ g : Grow W, w1 = g.x := ⟨⟨w1, hB⟩, rfl⟩)); clear hB))
  refine bodyPost_ret (v := .tuple #[frV (presF c s.low c.vhi), frV (presF c s.high c.vlo), .int .i64 0]) (by simp [results, Try.results11, go_sem, *, presF]) rfl ⟨rfl, ?_⟩
  have hfin : Below w.heap.size w g.x := hBw.trans (g.h.mono hBw.size)
  repeat' (first | (with_reducible exact hfin) | (with_reducible exact xW2) | (with_reducible exact xW3) | (with_reducible refine Below.setCell ?_ ?_ _))

end Go.Proofs.Ytdilgjhdimlbkaa
