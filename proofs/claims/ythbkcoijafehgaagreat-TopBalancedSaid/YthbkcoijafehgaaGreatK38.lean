/- Laws and walks: Tbg. -/
import Derived.Deep.Cut
import Derived.Deep.CutRange
import Derived.Test.YthbkcoijafehgaaGreatK28
import Derived.Test.YthbkcoijafehgaaGreatK35
import Derived.Test.YthbkcoijafehgaaGreatK36
import Derived.Test.YthbkcoijafehgaaGreatK37
set_option linter.unusedVariables false
set_option linter.unusedSimpArgs false
namespace Go.Proofs.YthbkcoijafehgaaGreat.L
open Go.RowKit Go.Sd Lk Lc
set_option maxRecDepth 100000 in
set_option maxHeartbeats 16000000 in
theorem gateBalanced0 (c : Gas.Cav) (s : Gas.St) (lv : Value) (xs : List Gas.Op) (p : Gas.Pt) (av : Value) (xa : List Int) (bv : Value) (xb : List Int) (dv : Value) (wd : List Int) (size since : Int) (w : World)
    (hl : G.OpsAt w lv xs) (hfl : G.Fits lv) (ha : G.IntsAt w av xa) (hfa : G.Fits av) (hb : G.IntsAt w bv xb) (hfb : G.Fits bv) (hd : G.IntsAt w dv wd) (t0 : ¬ xs.length ≤ 12) :
    Calls Tryz.prog 3 #[G.cavV c, G.stV s, lv, G.ptV p, av, bv, dv, .int .i64 size, .int .i64 since] w fun e w' => e = .returned (.bool true) ∧ Below w.heap.size w w' := by
  have kK := Lib.hid (fun X => known11 X)
  have hfl' := hfl
  obtain ⟨la, ln, lc, rfl, hlc1, hlc2⟩ := hfl'
  obtain rfl : ln = xs.length := by obtain ⟨a', c', e, -⟩ := hl; simp only [Value.slice.injEq] at e; exact e.2.1
  obtain ⟨aa, an, ac, rfl, hac1, hac2⟩ := hfa
  obtain rfl : an = xa.length := by obtain ⟨a', c', e, -⟩ := ha; simp only [Value.slice.injEq] at e; exact e.2.1
  obtain ⟨ba, bn, bc, rfl, hbc1, hbc2⟩ := hfb
  obtain rfl : bn = xb.length := by obtain ⟨a', c', e, -⟩ := hb; simp only [Value.slice.injEq] at e; exact e.2.1
  have hd' := hd
  obtain ⟨da, dc, rfl, hdm, -⟩ := hd'
  unfold maxLen at hlc2 hac2 hbc2 hdm
  obtain ⟨W1, hW1⟩ : ∃ W1, w.alloc (.cells #[.int .i64 c.vlo, .int .i64 c.vhi, .int .i64 c.least, .int .i64 c.most, .int .i64 c.f0, .int .i64 c.f1, .int .i64 c.h0, .int .i64 c.h1, .int .i64 c.rock, .int .i64 c.plo, .int .i64 c.phi] 26) = W1 := ⟨_, rfl⟩
  obtain ⟨eW0, bW0, sW0⟩ := boxed hW1
  have yW0_0 : w.heap.size < W1.heap.size := by omega
  obtain ⟨mW0_0_0, mW0_0_1, mW0_0_2, mW0_0_3, mW0_0_4, mW0_0_5, mW0_0_6, mW0_0_7, mW0_0_8, mW0_0_9, mW0_0_10⟩ := rc11 eW0
  obtain ⟨W2, hW2⟩ : ∃ W2, W1.alloc (.cells #[.int .i64 s.glo, .int .i64 s.ghi, .int .i64 s.ylo, .int .i64 s.yhi, .int .i64 s.tlo, .int .i64 s.thi, .int .i64 s.wlo, .int .i64 s.whi] 28) = W2 := ⟨_, rfl⟩
  obtain ⟨eW1, bW1, sW1⟩ := boxed hW2
  have yW1_0 : w.heap.size < W2.heap.size := by omega
  replace eW0 := (bW1.block _ (Array.getElem?_eq_some_iff.1 eW0).1).trans eW0
  obtain ⟨mW1_0_0, mW1_0_1, mW1_0_2, mW1_0_3, mW1_0_4, mW1_0_5, mW1_0_6, mW1_0_7, mW1_0_8, mW1_0_9, mW1_0_10⟩ := rc11 eW0
  have yW1_1 : W1.heap.size < W2.heap.size := by omega
  obtain ⟨mW1_1_0, mW1_1_1, mW1_1_2, mW1_1_3, mW1_1_4, mW1_1_5, mW1_1_6, mW1_1_7⟩ := rc8 eW1
  obtain ⟨W, hW⟩ : ∃ W, W2.alloc (.cells #[.int .i64 p.g, .int .i64 p.y, .int .i64 p.t, .int .i64 p.w] 31) = W := ⟨_, rfl⟩
  obtain ⟨eW2, bW2, sW2⟩ := boxed hW
  replace eW0 := (bW2.block _ (Array.getElem?_eq_some_iff.1 eW0).1).trans eW0
  replace eW1 := (bW2.block _ (Array.getElem?_eq_some_iff.1 eW1).1).trans eW1
  have hBw : Below w.heap.size w W := (by have := sW0; have := sW1; have := sW2; exact ((bW0.trans (bW1.mono (by omega))).trans (bW2.mono (by omega))))
  obtain ⟨zW0, rW0, tW0⟩ := row_cells eW0
  obtain ⟨qW0_0, qW0_1, qW0_2, qW0_3, qW0_4, qW0_5, qW0_6, qW0_7, qW0_8, qW0_9, qW0_10⟩ := rc11 eW0
  obtain ⟨fW0_0, fW0_1, fW0_2, fW0_3, fW0_4, fW0_5, fW0_6, fW0_7, fW0_8, fW0_9, fW0_10⟩ := rf11 eW0
  have EW0 := Lib.hid eW0
  clear rW0 tW0 eW0
  obtain ⟨zW1, rW1, tW1⟩ := row_cells eW1
  obtain ⟨qW1_0, qW1_1, qW1_2, qW1_3, qW1_4, qW1_5, qW1_6, qW1_7⟩ := rc8 eW1
  obtain ⟨fW1_0, fW1_1, fW1_2, fW1_3, fW1_4, fW1_5, fW1_6, fW1_7⟩ := rf8 eW1
  have EW1 := Lib.hid eW1
  clear rW1 tW1 eW1
  obtain ⟨zW2, rW2, tW2⟩ := row_cells eW2
  obtain ⟨qW2_0, qW2_1, qW2_2, qW2_3⟩ := rc4 eW2
  obtain ⟨fW2_0, fW2_1, fW2_2, fW2_3⟩ := rf4 eW2
  have EW2 := Lib.hid eW2
  clear rW2 tW2 eW2
  have xW0 : w.heap.size ≤ w.heap.size := by omega
  have xW1 : w.heap.size ≤ W1.heap.size := by omega
  have xW2 : w.heap.size ≤ W2.heap.size := by omega
  clear bW0 sW0 bW1 sW1 bW2 sW2
  have hlW := hl.mono hBw
  have haW := ha.mono hBw
  have hbW := hb.mono hBw
  have hdW := hd.mono hBw
  have hl9 : (xs.length : Int) ≤ 9223372036854775807 := by omega
  have ha9 : (xa.length : Int) ≤ 9223372036854775807 := by omega
  have hb9 : (xb.length : Int) ≤ 9223372036854775807 := by omega
  have hd9 : (wd.length : Int) ≤ 9223372036854775807 := by omega
  have i0 : (12 : Int) < xs.length := by omega
  replace t0 := Lib.hid t0
  clear hl ha hb hd hlW haW hbW hdW hfl
  have hgW := grow_cell W
  go_enter Tryz.func3, Tryz.ntmps3
  go_wp2_with (first | (go_at_call 9; (with_reducible refine Calls.mono (kK.out _) ?_); rintro e w9 ⟨rfl, hB9⟩))
  go_ret
  exact ⟨rfl, below_tr hBw (hB9)⟩
set_option maxRecDepth 100000 in
set_option maxHeartbeats 16000000 in
theorem gateBalanced1 (c : Gas.Cav) (s : Gas.St) (lv : Value) (xs : List Gas.Op) (p : Gas.Pt) (av : Value) (xa : List Int) (bv : Value) (xb : List Int) (dv : Value) (wd : List Int) (size since : Int) (w : World)
    (hl : G.OpsAt w lv xs) (hfl : G.Fits lv) (ha : G.IntsAt w av xa) (hfa : G.Fits av) (hb : G.IntsAt w bv xb) (hfb : G.Fits bv) (hd : G.IntsAt w dv wd) (t0 : xs.length ≤ 12) (t1 : ¬ 1 ≤ xs.length) :
    Calls Tryz.prog 3 #[G.cavV c, G.stV s, lv, G.ptV p, av, bv, dv, .int .i64 size, .int .i64 since] w fun e w' => e = .returned (.bool true) ∧ Below w.heap.size w w' := by
  have kK := Lib.hid (fun X => known11 X)
  have hfl' := hfl
  obtain ⟨la, ln, lc, rfl, hlc1, hlc2⟩ := hfl'
  obtain rfl : ln = xs.length := by obtain ⟨a', c', e, -⟩ := hl; simp only [Value.slice.injEq] at e; exact e.2.1
  obtain ⟨aa, an, ac, rfl, hac1, hac2⟩ := hfa
  obtain rfl : an = xa.length := by obtain ⟨a', c', e, -⟩ := ha; simp only [Value.slice.injEq] at e; exact e.2.1
  obtain ⟨ba, bn, bc, rfl, hbc1, hbc2⟩ := hfb
  obtain rfl : bn = xb.length := by obtain ⟨a', c', e, -⟩ := hb; simp only [Value.slice.injEq] at e; exact e.2.1
  have hd' := hd
  obtain ⟨da, dc, rfl, hdm, -⟩ := hd'
  unfold maxLen at hlc2 hac2 hbc2 hdm
  obtain ⟨W1, hW1⟩ : ∃ W1, w.alloc (.cells #[.int .i64 c.vlo, .int .i64 c.vhi, .int .i64 c.least, .int .i64 c.most, .int .i64 c.f0, .int .i64 c.f1, .int .i64 c.h0, .int .i64 c.h1, .int .i64 c.rock, .int .i64 c.plo, .int .i64 c.phi] 26) = W1 := ⟨_, rfl⟩
  obtain ⟨eW0, bW0, sW0⟩ := boxed hW1
  have yW0_0 : w.heap.size < W1.heap.size := by omega
  obtain ⟨mW0_0_0, mW0_0_1, mW0_0_2, mW0_0_3, mW0_0_4, mW0_0_5, mW0_0_6, mW0_0_7, mW0_0_8, mW0_0_9, mW0_0_10⟩ := rc11 eW0
  obtain ⟨W2, hW2⟩ : ∃ W2, W1.alloc (.cells #[.int .i64 s.glo, .int .i64 s.ghi, .int .i64 s.ylo, .int .i64 s.yhi, .int .i64 s.tlo, .int .i64 s.thi, .int .i64 s.wlo, .int .i64 s.whi] 28) = W2 := ⟨_, rfl⟩
  obtain ⟨eW1, bW1, sW1⟩ := boxed hW2
  have yW1_0 : w.heap.size < W2.heap.size := by omega
  replace eW0 := (bW1.block _ (Array.getElem?_eq_some_iff.1 eW0).1).trans eW0
  obtain ⟨mW1_0_0, mW1_0_1, mW1_0_2, mW1_0_3, mW1_0_4, mW1_0_5, mW1_0_6, mW1_0_7, mW1_0_8, mW1_0_9, mW1_0_10⟩ := rc11 eW0
  have yW1_1 : W1.heap.size < W2.heap.size := by omega
  obtain ⟨mW1_1_0, mW1_1_1, mW1_1_2, mW1_1_3, mW1_1_4, mW1_1_5, mW1_1_6, mW1_1_7⟩ := rc8 eW1
  obtain ⟨W, hW⟩ : ∃ W, W2.alloc (.cells #[.int .i64 p.g, .int .i64 p.y, .int .i64 p.t, .int .i64 p.w] 31) = W := ⟨_, rfl⟩
  obtain ⟨eW2, bW2, sW2⟩ := boxed hW
  replace eW0 := (bW2.block _ (Array.getElem?_eq_some_iff.1 eW0).1).trans eW0
  replace eW1 := (bW2.block _ (Array.getElem?_eq_some_iff.1 eW1).1).trans eW1
  have hBw : Below w.heap.size w W := (by have := sW0; have := sW1; have := sW2; exact ((bW0.trans (bW1.mono (by omega))).trans (bW2.mono (by omega))))
  obtain ⟨zW0, rW0, tW0⟩ := row_cells eW0
  obtain ⟨qW0_0, qW0_1, qW0_2, qW0_3, qW0_4, qW0_5, qW0_6, qW0_7, qW0_8, qW0_9, qW0_10⟩ := rc11 eW0
  obtain ⟨fW0_0, fW0_1, fW0_2, fW0_3, fW0_4, fW0_5, fW0_6, fW0_7, fW0_8, fW0_9, fW0_10⟩ := rf11 eW0
  have EW0 := Lib.hid eW0
  clear rW0 tW0 eW0
  obtain ⟨zW1, rW1, tW1⟩ := row_cells eW1
  obtain ⟨qW1_0, qW1_1, qW1_2, qW1_3, qW1_4, qW1_5, qW1_6, qW1_7⟩ := rc8 eW1
  obtain ⟨fW1_0, fW1_1, fW1_2, fW1_3, fW1_4, fW1_5, fW1_6, fW1_7⟩ := rf8 eW1
  have EW1 := Lib.hid eW1
  clear rW1 tW1 eW1
  obtain ⟨zW2, rW2, tW2⟩ := row_cells eW2
  obtain ⟨qW2_0, qW2_1, qW2_2, qW2_3⟩ := rc4 eW2
  obtain ⟨fW2_0, fW2_1, fW2_2, fW2_3⟩ := rf4 eW2
  have EW2 := Lib.hid eW2
  clear rW2 tW2 eW2
  have xW0 : w.heap.size ≤ w.heap.size := by omega
  have xW1 : w.heap.size ≤ W1.heap.size := by omega
  have xW2 : w.heap.size ≤ W2.heap.size := by omega
  clear bW0 sW0 bW1 sW1 bW2 sW2
  have hlW := hl.mono hBw
  have haW := ha.mono hBw
  have hbW := hb.mono hBw
  have hdW := hd.mono hBw
  have hl9 : (xs.length : Int) ≤ 9223372036854775807 := by omega
  have ha9 : (xa.length : Int) ≤ 9223372036854775807 := by omega
  have hb9 : (xb.length : Int) ≤ 9223372036854775807 := by omega
  have hd9 : (wd.length : Int) ≤ 9223372036854775807 := by omega
  have i0 : ¬ (12 : Int) < xs.length := by omega
  have i1 : (xs.length : Int) = 0 := by omega
  have j1 : xs.length = 0 := by omega
  have l1 : xs = [] := by exact List.eq_nil_of_length_eq_zero j1
  replace t0 := Lib.hid t0; replace t1 := Lib.hid t1
  clear hl ha hb hd hlW haW hbW hdW hfl
  have hgW := grow_cell W
  go_enter Tryz.func3, Tryz.ntmps3
  go_wp2_with (first | (go_at_call 9; (with_reducible refine Calls.mono (kK.out _) ?_); rintro e w9 ⟨rfl, hB9⟩))
  go_ret
  exact ⟨rfl, below_tr hBw (hB9)⟩
set_option maxRecDepth 100000 in
set_option maxHeartbeats 16000000 in
theorem gateBalanced2 (c : Gas.Cav) (s : Gas.St) (lv : Value) (xs : List Gas.Op) (p : Gas.Pt) (av : Value) (xa : List Int) (bv : Value) (xb : List Int) (dv : Value) (wd : List Int) (size since : Int) (w : World)
    (hl : G.OpsAt w lv xs) (hfl : G.Fits lv) (ha : G.IntsAt w av xa) (hfa : G.Fits av) (hb : G.IntsAt w bv xb) (hfb : G.Fits bv) (hd : G.IntsAt w dv wd) (t0 : xs.length ≤ 12) (t1 : 1 ≤ xs.length) (t2 : ¬ xa.length ≤ 20) :
    Calls Tryz.prog 3 #[G.cavV c, G.stV s, lv, G.ptV p, av, bv, dv, .int .i64 size, .int .i64 since] w fun e w' => e = .returned (.bool true) ∧ Below w.heap.size w w' := by
  have kK := Lib.hid (fun X => known11 X)
  have hfl' := hfl
  obtain ⟨la, ln, lc, rfl, hlc1, hlc2⟩ := hfl'
  obtain rfl : ln = xs.length := by obtain ⟨a', c', e, -⟩ := hl; simp only [Value.slice.injEq] at e; exact e.2.1
  obtain ⟨aa, an, ac, rfl, hac1, hac2⟩ := hfa
  obtain rfl : an = xa.length := by obtain ⟨a', c', e, -⟩ := ha; simp only [Value.slice.injEq] at e; exact e.2.1
  obtain ⟨ba, bn, bc, rfl, hbc1, hbc2⟩ := hfb
  obtain rfl : bn = xb.length := by obtain ⟨a', c', e, -⟩ := hb; simp only [Value.slice.injEq] at e; exact e.2.1
  have hd' := hd
  obtain ⟨da, dc, rfl, hdm, -⟩ := hd'
  unfold maxLen at hlc2 hac2 hbc2 hdm
  obtain ⟨W1, hW1⟩ : ∃ W1, w.alloc (.cells #[.int .i64 c.vlo, .int .i64 c.vhi, .int .i64 c.least, .int .i64 c.most, .int .i64 c.f0, .int .i64 c.f1, .int .i64 c.h0, .int .i64 c.h1, .int .i64 c.rock, .int .i64 c.plo, .int .i64 c.phi] 26) = W1 := ⟨_, rfl⟩
  obtain ⟨eW0, bW0, sW0⟩ := boxed hW1
  have yW0_0 : w.heap.size < W1.heap.size := by omega
  obtain ⟨mW0_0_0, mW0_0_1, mW0_0_2, mW0_0_3, mW0_0_4, mW0_0_5, mW0_0_6, mW0_0_7, mW0_0_8, mW0_0_9, mW0_0_10⟩ := rc11 eW0
  obtain ⟨W2, hW2⟩ : ∃ W2, W1.alloc (.cells #[.int .i64 s.glo, .int .i64 s.ghi, .int .i64 s.ylo, .int .i64 s.yhi, .int .i64 s.tlo, .int .i64 s.thi, .int .i64 s.wlo, .int .i64 s.whi] 28) = W2 := ⟨_, rfl⟩
  obtain ⟨eW1, bW1, sW1⟩ := boxed hW2
  have yW1_0 : w.heap.size < W2.heap.size := by omega
  replace eW0 := (bW1.block _ (Array.getElem?_eq_some_iff.1 eW0).1).trans eW0
  obtain ⟨mW1_0_0, mW1_0_1, mW1_0_2, mW1_0_3, mW1_0_4, mW1_0_5, mW1_0_6, mW1_0_7, mW1_0_8, mW1_0_9, mW1_0_10⟩ := rc11 eW0
  have yW1_1 : W1.heap.size < W2.heap.size := by omega
  obtain ⟨mW1_1_0, mW1_1_1, mW1_1_2, mW1_1_3, mW1_1_4, mW1_1_5, mW1_1_6, mW1_1_7⟩ := rc8 eW1
  obtain ⟨W, hW⟩ : ∃ W, W2.alloc (.cells #[.int .i64 p.g, .int .i64 p.y, .int .i64 p.t, .int .i64 p.w] 31) = W := ⟨_, rfl⟩
  obtain ⟨eW2, bW2, sW2⟩ := boxed hW
  replace eW0 := (bW2.block _ (Array.getElem?_eq_some_iff.1 eW0).1).trans eW0
  replace eW1 := (bW2.block _ (Array.getElem?_eq_some_iff.1 eW1).1).trans eW1
  have hBw : Below w.heap.size w W := (by have := sW0; have := sW1; have := sW2; exact ((bW0.trans (bW1.mono (by omega))).trans (bW2.mono (by omega))))
  obtain ⟨zW0, rW0, tW0⟩ := row_cells eW0
  obtain ⟨qW0_0, qW0_1, qW0_2, qW0_3, qW0_4, qW0_5, qW0_6, qW0_7, qW0_8, qW0_9, qW0_10⟩ := rc11 eW0
  obtain ⟨fW0_0, fW0_1, fW0_2, fW0_3, fW0_4, fW0_5, fW0_6, fW0_7, fW0_8, fW0_9, fW0_10⟩ := rf11 eW0
  have EW0 := Lib.hid eW0
  clear rW0 tW0 eW0
  obtain ⟨zW1, rW1, tW1⟩ := row_cells eW1
  obtain ⟨qW1_0, qW1_1, qW1_2, qW1_3, qW1_4, qW1_5, qW1_6, qW1_7⟩ := rc8 eW1
  obtain ⟨fW1_0, fW1_1, fW1_2, fW1_3, fW1_4, fW1_5, fW1_6, fW1_7⟩ := rf8 eW1
  have EW1 := Lib.hid eW1
  clear rW1 tW1 eW1
  obtain ⟨zW2, rW2, tW2⟩ := row_cells eW2
  obtain ⟨qW2_0, qW2_1, qW2_2, qW2_3⟩ := rc4 eW2
  obtain ⟨fW2_0, fW2_1, fW2_2, fW2_3⟩ := rf4 eW2
  have EW2 := Lib.hid eW2
  clear rW2 tW2 eW2
  have xW0 : w.heap.size ≤ w.heap.size := by omega
  have xW1 : w.heap.size ≤ W1.heap.size := by omega
  have xW2 : w.heap.size ≤ W2.heap.size := by omega
  clear bW0 sW0 bW1 sW1 bW2 sW2
  have hlW := hl.mono hBw
  have haW := ha.mono hBw
  have hbW := hb.mono hBw
  have hdW := hd.mono hBw
  have hl9 : (xs.length : Int) ≤ 9223372036854775807 := by omega
  have ha9 : (xa.length : Int) ≤ 9223372036854775807 := by omega
  have hb9 : (xb.length : Int) ≤ 9223372036854775807 := by omega
  have hd9 : (wd.length : Int) ≤ 9223372036854775807 := by omega
  have i0 : ¬ (12 : Int) < xs.length := by omega
  have i1 : ¬ (xs.length : Int) = 0 := by omega
  have j1 : ¬ xs.length = 0 := by omega
  have l1 : ¬ xs = [] := by intro h; rw [h] at j1; exact j1 rfl
  have i2 : (20 : Int) < xa.length := by omega
  replace t0 := Lib.hid t0; replace t1 := Lib.hid t1; replace t2 := Lib.hid t2
  clear hl ha hb hd hlW haW hbW hdW hfl
  have hgW := grow_cell W
  go_enter Tryz.func3, Tryz.ntmps3
  go_wp2_with (first | (go_at_call 9; (with_reducible refine Calls.mono (kK.out _) ?_); rintro e w9 ⟨rfl, hB9⟩))
  go_ret
  exact ⟨rfl, below_tr hBw (hB9)⟩
set_option maxRecDepth 100000 in
set_option maxHeartbeats 16000000 in
theorem gateBalanced3 (c : Gas.Cav) (s : Gas.St) (lv : Value) (xs : List Gas.Op) (p : Gas.Pt) (av : Value) (xa : List Int) (bv : Value) (xb : List Int) (dv : Value) (wd : List Int) (size since : Int) (w : World)
    (hl : G.OpsAt w lv xs) (hfl : G.Fits lv) (ha : G.IntsAt w av xa) (hfa : G.Fits av) (hb : G.IntsAt w bv xb) (hfb : G.Fits bv) (hd : G.IntsAt w dv wd) (t0 : xs.length ≤ 12) (t1 : 1 ≤ xs.length) (t2 : xa.length ≤ 20) (t3 : ¬ xb.length ≤ 20) :
    Calls Tryz.prog 3 #[G.cavV c, G.stV s, lv, G.ptV p, av, bv, dv, .int .i64 size, .int .i64 since] w fun e w' => e = .returned (.bool true) ∧ Below w.heap.size w w' := by
  have kK := Lib.hid (fun X => known11 X)
  have hfl' := hfl
  obtain ⟨la, ln, lc, rfl, hlc1, hlc2⟩ := hfl'
  obtain rfl : ln = xs.length := by obtain ⟨a', c', e, -⟩ := hl; simp only [Value.slice.injEq] at e; exact e.2.1
  obtain ⟨aa, an, ac, rfl, hac1, hac2⟩ := hfa
  obtain rfl : an = xa.length := by obtain ⟨a', c', e, -⟩ := ha; simp only [Value.slice.injEq] at e; exact e.2.1
  obtain ⟨ba, bn, bc, rfl, hbc1, hbc2⟩ := hfb
  obtain rfl : bn = xb.length := by obtain ⟨a', c', e, -⟩ := hb; simp only [Value.slice.injEq] at e; exact e.2.1
  have hd' := hd
  obtain ⟨da, dc, rfl, hdm, -⟩ := hd'
  unfold maxLen at hlc2 hac2 hbc2 hdm
  obtain ⟨W1, hW1⟩ : ∃ W1, w.alloc (.cells #[.int .i64 c.vlo, .int .i64 c.vhi, .int .i64 c.least, .int .i64 c.most, .int .i64 c.f0, .int .i64 c.f1, .int .i64 c.h0, .int .i64 c.h1, .int .i64 c.rock, .int .i64 c.plo, .int .i64 c.phi] 26) = W1 := ⟨_, rfl⟩
  obtain ⟨eW0, bW0, sW0⟩ := boxed hW1
  have yW0_0 : w.heap.size < W1.heap.size := by omega
  obtain ⟨mW0_0_0, mW0_0_1, mW0_0_2, mW0_0_3, mW0_0_4, mW0_0_5, mW0_0_6, mW0_0_7, mW0_0_8, mW0_0_9, mW0_0_10⟩ := rc11 eW0
  obtain ⟨W2, hW2⟩ : ∃ W2, W1.alloc (.cells #[.int .i64 s.glo, .int .i64 s.ghi, .int .i64 s.ylo, .int .i64 s.yhi, .int .i64 s.tlo, .int .i64 s.thi, .int .i64 s.wlo, .int .i64 s.whi] 28) = W2 := ⟨_, rfl⟩
  obtain ⟨eW1, bW1, sW1⟩ := boxed hW2
  have yW1_0 : w.heap.size < W2.heap.size := by omega
  replace eW0 := (bW1.block _ (Array.getElem?_eq_some_iff.1 eW0).1).trans eW0
  obtain ⟨mW1_0_0, mW1_0_1, mW1_0_2, mW1_0_3, mW1_0_4, mW1_0_5, mW1_0_6, mW1_0_7, mW1_0_8, mW1_0_9, mW1_0_10⟩ := rc11 eW0
  have yW1_1 : W1.heap.size < W2.heap.size := by omega
  obtain ⟨mW1_1_0, mW1_1_1, mW1_1_2, mW1_1_3, mW1_1_4, mW1_1_5, mW1_1_6, mW1_1_7⟩ := rc8 eW1
  obtain ⟨W, hW⟩ : ∃ W, W2.alloc (.cells #[.int .i64 p.g, .int .i64 p.y, .int .i64 p.t, .int .i64 p.w] 31) = W := ⟨_, rfl⟩
  obtain ⟨eW2, bW2, sW2⟩ := boxed hW
  replace eW0 := (bW2.block _ (Array.getElem?_eq_some_iff.1 eW0).1).trans eW0
  replace eW1 := (bW2.block _ (Array.getElem?_eq_some_iff.1 eW1).1).trans eW1
  have hBw : Below w.heap.size w W := (by have := sW0; have := sW1; have := sW2; exact ((bW0.trans (bW1.mono (by omega))).trans (bW2.mono (by omega))))
  obtain ⟨zW0, rW0, tW0⟩ := row_cells eW0
  obtain ⟨qW0_0, qW0_1, qW0_2, qW0_3, qW0_4, qW0_5, qW0_6, qW0_7, qW0_8, qW0_9, qW0_10⟩ := rc11 eW0
  obtain ⟨fW0_0, fW0_1, fW0_2, fW0_3, fW0_4, fW0_5, fW0_6, fW0_7, fW0_8, fW0_9, fW0_10⟩ := rf11 eW0
  have EW0 := Lib.hid eW0
  clear rW0 tW0 eW0
  obtain ⟨zW1, rW1, tW1⟩ := row_cells eW1
  obtain ⟨qW1_0, qW1_1, qW1_2, qW1_3, qW1_4, qW1_5, qW1_6, qW1_7⟩ := rc8 eW1
  obtain ⟨fW1_0, fW1_1, fW1_2, fW1_3, fW1_4, fW1_5, fW1_6, fW1_7⟩ := rf8 eW1
  have EW1 := Lib.hid eW1
  clear rW1 tW1 eW1
  obtain ⟨zW2, rW2, tW2⟩ := row_cells eW2
  obtain ⟨qW2_0, qW2_1, qW2_2, qW2_3⟩ := rc4 eW2
  obtain ⟨fW2_0, fW2_1, fW2_2, fW2_3⟩ := rf4 eW2
  have EW2 := Lib.hid eW2
  clear rW2 tW2 eW2
  have xW0 : w.heap.size ≤ w.heap.size := by omega
  have xW1 : w.heap.size ≤ W1.heap.size := by omega
  have xW2 : w.heap.size ≤ W2.heap.size := by omega
  clear bW0 sW0 bW1 sW1 bW2 sW2
  have hlW := hl.mono hBw
  have haW := ha.mono hBw
  have hbW := hb.mono hBw
  have hdW := hd.mono hBw
  have hl9 : (xs.length : Int) ≤ 9223372036854775807 := by omega
  have ha9 : (xa.length : Int) ≤ 9223372036854775807 := by omega
  have hb9 : (xb.length : Int) ≤ 9223372036854775807 := by omega
  have hd9 : (wd.length : Int) ≤ 9223372036854775807 := by omega
  have i0 : ¬ (12 : Int) < xs.length := by omega
  have i1 : ¬ (xs.length : Int) = 0 := by omega
  have j1 : ¬ xs.length = 0 := by omega
  have l1 : ¬ xs = [] := by intro h; rw [h] at j1; exact j1 rfl
  have i2 : ¬ (20 : Int) < xa.length := by omega
  have i3 : (20 : Int) < xb.length := by omega
  replace t0 := Lib.hid t0; replace t1 := Lib.hid t1; replace t2 := Lib.hid t2; replace t3 := Lib.hid t3
  clear hl ha hb hd hlW haW hbW hdW hfl
  have hgW := grow_cell W
  go_enter Tryz.func3, Tryz.ntmps3
  go_wp2_with (first | (go_at_call 9; (with_reducible refine Calls.mono (kK.out _) ?_); rintro e w9 ⟨rfl, hB9⟩))
  go_ret
  exact ⟨rfl, below_tr hBw (hB9)⟩
set_option maxRecDepth 100000 in
set_option maxHeartbeats 16000000 in
theorem gateBalanced4 (c : Gas.Cav) (s : Gas.St) (lv : Value) (xs : List Gas.Op) (p : Gas.Pt) (av : Value) (xa : List Int) (bv : Value) (xb : List Int) (dv : Value) (wd : List Int) (size since : Int) (w : World)
    (hl : G.OpsAt w lv xs) (hfl : G.Fits lv) (ha : G.IntsAt w av xa) (hfa : G.Fits av) (hb : G.IntsAt w bv xb) (hfb : G.Fits bv) (hd : G.IntsAt w dv wd) (t0 : xs.length ≤ 12) (t1 : 1 ≤ xs.length) (t2 : xa.length ≤ 20) (t3 : xb.length ≤ 20) (t4 : ¬ wd.length = xs.length) :
    Calls Tryz.prog 3 #[G.cavV c, G.stV s, lv, G.ptV p, av, bv, dv, .int .i64 size, .int .i64 since] w fun e w' => e = .returned (.bool true) ∧ Below w.heap.size w w' := by
  have kK := Lib.hid (fun X => known11 X)
  have hfl' := hfl
  obtain ⟨la, ln, lc, rfl, hlc1, hlc2⟩ := hfl'
  obtain rfl : ln = xs.length := by obtain ⟨a', c', e, -⟩ := hl; simp only [Value.slice.injEq] at e; exact e.2.1
  obtain ⟨aa, an, ac, rfl, hac1, hac2⟩ := hfa
  obtain rfl : an = xa.length := by obtain ⟨a', c', e, -⟩ := ha; simp only [Value.slice.injEq] at e; exact e.2.1
  obtain ⟨ba, bn, bc, rfl, hbc1, hbc2⟩ := hfb
  obtain rfl : bn = xb.length := by obtain ⟨a', c', e, -⟩ := hb; simp only [Value.slice.injEq] at e; exact e.2.1
  have hd' := hd
  obtain ⟨da, dc, rfl, hdm, -⟩ := hd'
  unfold maxLen at hlc2 hac2 hbc2 hdm
  obtain ⟨W1, hW1⟩ : ∃ W1, w.alloc (.cells #[.int .i64 c.vlo, .int .i64 c.vhi, .int .i64 c.least, .int .i64 c.most, .int .i64 c.f0, .int .i64 c.f1, .int .i64 c.h0, .int .i64 c.h1, .int .i64 c.rock, .int .i64 c.plo, .int .i64 c.phi] 26) = W1 := ⟨_, rfl⟩
  obtain ⟨eW0, bW0, sW0⟩ := boxed hW1
  have yW0_0 : w.heap.size < W1.heap.size := by omega
  obtain ⟨mW0_0_0, mW0_0_1, mW0_0_2, mW0_0_3, mW0_0_4, mW0_0_5, mW0_0_6, mW0_0_7, mW0_0_8, mW0_0_9, mW0_0_10⟩ := rc11 eW0
  obtain ⟨W2, hW2⟩ : ∃ W2, W1.alloc (.cells #[.int .i64 s.glo, .int .i64 s.ghi, .int .i64 s.ylo, .int .i64 s.yhi, .int .i64 s.tlo, .int .i64 s.thi, .int .i64 s.wlo, .int .i64 s.whi] 28) = W2 := ⟨_, rfl⟩
  obtain ⟨eW1, bW1, sW1⟩ := boxed hW2
  have yW1_0 : w.heap.size < W2.heap.size := by omega
  replace eW0 := (bW1.block _ (Array.getElem?_eq_some_iff.1 eW0).1).trans eW0
  obtain ⟨mW1_0_0, mW1_0_1, mW1_0_2, mW1_0_3, mW1_0_4, mW1_0_5, mW1_0_6, mW1_0_7, mW1_0_8, mW1_0_9, mW1_0_10⟩ := rc11 eW0
  have yW1_1 : W1.heap.size < W2.heap.size := by omega
  obtain ⟨mW1_1_0, mW1_1_1, mW1_1_2, mW1_1_3, mW1_1_4, mW1_1_5, mW1_1_6, mW1_1_7⟩ := rc8 eW1
  obtain ⟨W, hW⟩ : ∃ W, W2.alloc (.cells #[.int .i64 p.g, .int .i64 p.y, .int .i64 p.t, .int .i64 p.w] 31) = W := ⟨_, rfl⟩
  obtain ⟨eW2, bW2, sW2⟩ := boxed hW
  replace eW0 := (bW2.block _ (Array.getElem?_eq_some_iff.1 eW0).1).trans eW0
  replace eW1 := (bW2.block _ (Array.getElem?_eq_some_iff.1 eW1).1).trans eW1
  have hBw : Below w.heap.size w W := (by have := sW0; have := sW1; have := sW2; exact ((bW0.trans (bW1.mono (by omega))).trans (bW2.mono (by omega))))
  obtain ⟨zW0, rW0, tW0⟩ := row_cells eW0
  obtain ⟨qW0_0, qW0_1, qW0_2, qW0_3, qW0_4, qW0_5, qW0_6, qW0_7, qW0_8, qW0_9, qW0_10⟩ := rc11 eW0
  obtain ⟨fW0_0, fW0_1, fW0_2, fW0_3, fW0_4, fW0_5, fW0_6, fW0_7, fW0_8, fW0_9, fW0_10⟩ := rf11 eW0
  have EW0 := Lib.hid eW0
  clear rW0 tW0 eW0
  obtain ⟨zW1, rW1, tW1⟩ := row_cells eW1
  obtain ⟨qW1_0, qW1_1, qW1_2, qW1_3, qW1_4, qW1_5, qW1_6, qW1_7⟩ := rc8 eW1
  obtain ⟨fW1_0, fW1_1, fW1_2, fW1_3, fW1_4, fW1_5, fW1_6, fW1_7⟩ := rf8 eW1
  have EW1 := Lib.hid eW1
  clear rW1 tW1 eW1
  obtain ⟨zW2, rW2, tW2⟩ := row_cells eW2
  obtain ⟨qW2_0, qW2_1, qW2_2, qW2_3⟩ := rc4 eW2
  obtain ⟨fW2_0, fW2_1, fW2_2, fW2_3⟩ := rf4 eW2
  have EW2 := Lib.hid eW2
  clear rW2 tW2 eW2
  have xW0 : w.heap.size ≤ w.heap.size := by omega
  have xW1 : w.heap.size ≤ W1.heap.size := by omega
  have xW2 : w.heap.size ≤ W2.heap.size := by omega
  clear bW0 sW0 bW1 sW1 bW2 sW2
  have hlW := hl.mono hBw
  have haW := ha.mono hBw
  have hbW := hb.mono hBw
  have hdW := hd.mono hBw
  have hl9 : (xs.length : Int) ≤ 9223372036854775807 := by omega
  have ha9 : (xa.length : Int) ≤ 9223372036854775807 := by omega
  have hb9 : (xb.length : Int) ≤ 9223372036854775807 := by omega
  have hd9 : (wd.length : Int) ≤ 9223372036854775807 := by omega
  have i0 : ¬ (12 : Int) < xs.length := by omega
  have i1 : ¬ (xs.length : Int) = 0 := by omega
  have j1 : ¬ xs.length = 0 := by omega
  have l1 : ¬ xs = [] := by intro h; rw [h] at j1; exact j1 rfl
  have i2 : ¬ (20 : Int) < xa.length := by omega
  have i3 : ¬ (20 : Int) < xb.length := by omega
  have i4 : ¬ (wd.length : Int) = xs.length := by omega
  replace t0 := Lib.hid t0; replace t1 := Lib.hid t1; replace t2 := Lib.hid t2; replace t3 := Lib.hid t3; replace t4 := Lib.hid t4
  clear hl ha hb hd hlW haW hbW hdW hfl
  have hgW := grow_cell W
  go_enter Tryz.func3, Tryz.ntmps3
  go_wp2_with (first | (go_at_call 9; (with_reducible refine Calls.mono (kK.out _) ?_); rintro e w9 ⟨rfl, hB9⟩))
  go_ret
  exact ⟨rfl, below_tr hBw (hB9)⟩
set_option maxRecDepth 100000 in
set_option maxHeartbeats 16000000 in
theorem gateBalanced5 (c : Gas.Cav) (s : Gas.St) (lv : Value) (xs : List Gas.Op) (p : Gas.Pt) (av : Value) (xa : List Int) (bv : Value) (xb : List Int) (dv : Value) (wd : List Int) (size since : Int) (w : World)
    (hl : G.OpsAt w lv xs) (hfl : G.Fits lv) (ha : G.IntsAt w av xa) (hfa : G.Fits av) (hb : G.IntsAt w bv xb) (hfb : G.Fits bv) (hd : G.IntsAt w dv wd) (t0 : xs.length ≤ 12) (t1 : 1 ≤ xs.length) (t2 : xa.length ≤ 20) (t3 : xb.length ≤ 20) (t4 : wd.length = xs.length) (t5 : c.ok = false) :
    Calls Tryz.prog 3 #[G.cavV c, G.stV s, lv, G.ptV p, av, bv, dv, .int .i64 size, .int .i64 since] w fun e w' => e = .returned (.bool true) ∧ Below w.heap.size w w' := by
  have kK := Lib.hid (fun X => known11 X)
  have hfl' := hfl
  obtain ⟨la, ln, lc, rfl, hlc1, hlc2⟩ := hfl'
  obtain rfl : ln = xs.length := by obtain ⟨a', c', e, -⟩ := hl; simp only [Value.slice.injEq] at e; exact e.2.1
  obtain ⟨aa, an, ac, rfl, hac1, hac2⟩ := hfa
  obtain rfl : an = xa.length := by obtain ⟨a', c', e, -⟩ := ha; simp only [Value.slice.injEq] at e; exact e.2.1
  obtain ⟨ba, bn, bc, rfl, hbc1, hbc2⟩ := hfb
  obtain rfl : bn = xb.length := by obtain ⟨a', c', e, -⟩ := hb; simp only [Value.slice.injEq] at e; exact e.2.1
  have hd' := hd
  obtain ⟨da, dc, rfl, hdm, -⟩ := hd'
  unfold maxLen at hlc2 hac2 hbc2 hdm
  obtain ⟨W1, hW1⟩ : ∃ W1, w.alloc (.cells #[.int .i64 c.vlo, .int .i64 c.vhi, .int .i64 c.least, .int .i64 c.most, .int .i64 c.f0, .int .i64 c.f1, .int .i64 c.h0, .int .i64 c.h1, .int .i64 c.rock, .int .i64 c.plo, .int .i64 c.phi] 26) = W1 := ⟨_, rfl⟩
  obtain ⟨eW0, bW0, sW0⟩ := boxed hW1
  have yW0_0 : w.heap.size < W1.heap.size := by omega
  obtain ⟨mW0_0_0, mW0_0_1, mW0_0_2, mW0_0_3, mW0_0_4, mW0_0_5, mW0_0_6, mW0_0_7, mW0_0_8, mW0_0_9, mW0_0_10⟩ := rc11 eW0
  obtain ⟨W2, hW2⟩ : ∃ W2, W1.alloc (.cells #[.int .i64 s.glo, .int .i64 s.ghi, .int .i64 s.ylo, .int .i64 s.yhi, .int .i64 s.tlo, .int .i64 s.thi, .int .i64 s.wlo, .int .i64 s.whi] 28) = W2 := ⟨_, rfl⟩
  obtain ⟨eW1, bW1, sW1⟩ := boxed hW2
  have yW1_0 : w.heap.size < W2.heap.size := by omega
  replace eW0 := (bW1.block _ (Array.getElem?_eq_some_iff.1 eW0).1).trans eW0
  obtain ⟨mW1_0_0, mW1_0_1, mW1_0_2, mW1_0_3, mW1_0_4, mW1_0_5, mW1_0_6, mW1_0_7, mW1_0_8, mW1_0_9, mW1_0_10⟩ := rc11 eW0
  have yW1_1 : W1.heap.size < W2.heap.size := by omega
  obtain ⟨mW1_1_0, mW1_1_1, mW1_1_2, mW1_1_3, mW1_1_4, mW1_1_5, mW1_1_6, mW1_1_7⟩ := rc8 eW1
  obtain ⟨W, hW⟩ : ∃ W, W2.alloc (.cells #[.int .i64 p.g, .int .i64 p.y, .int .i64 p.t, .int .i64 p.w] 31) = W := ⟨_, rfl⟩
  obtain ⟨eW2, bW2, sW2⟩ := boxed hW
  replace eW0 := (bW2.block _ (Array.getElem?_eq_some_iff.1 eW0).1).trans eW0
  replace eW1 := (bW2.block _ (Array.getElem?_eq_some_iff.1 eW1).1).trans eW1
  have hBw : Below w.heap.size w W := (by have := sW0; have := sW1; have := sW2; exact ((bW0.trans (bW1.mono (by omega))).trans (bW2.mono (by omega))))
  obtain ⟨zW0, rW0, tW0⟩ := row_cells eW0
  obtain ⟨qW0_0, qW0_1, qW0_2, qW0_3, qW0_4, qW0_5, qW0_6, qW0_7, qW0_8, qW0_9, qW0_10⟩ := rc11 eW0
  obtain ⟨fW0_0, fW0_1, fW0_2, fW0_3, fW0_4, fW0_5, fW0_6, fW0_7, fW0_8, fW0_9, fW0_10⟩ := rf11 eW0
  have EW0 := Lib.hid eW0
  clear rW0 tW0 eW0
  obtain ⟨zW1, rW1, tW1⟩ := row_cells eW1
  obtain ⟨qW1_0, qW1_1, qW1_2, qW1_3, qW1_4, qW1_5, qW1_6, qW1_7⟩ := rc8 eW1
  obtain ⟨fW1_0, fW1_1, fW1_2, fW1_3, fW1_4, fW1_5, fW1_6, fW1_7⟩ := rf8 eW1
  have EW1 := Lib.hid eW1
  clear rW1 tW1 eW1
  obtain ⟨zW2, rW2, tW2⟩ := row_cells eW2
  obtain ⟨qW2_0, qW2_1, qW2_2, qW2_3⟩ := rc4 eW2
  obtain ⟨fW2_0, fW2_1, fW2_2, fW2_3⟩ := rf4 eW2
  have EW2 := Lib.hid eW2
  clear rW2 tW2 eW2
  have xW0 : w.heap.size ≤ w.heap.size := by omega
  have xW1 : w.heap.size ≤ W1.heap.size := by omega
  have xW2 : w.heap.size ≤ W2.heap.size := by omega
  clear bW0 sW0 bW1 sW1 bW2 sW2
  have hlW := hl.mono hBw
  have haW := ha.mono hBw
  have hbW := hb.mono hBw
  have hdW := hd.mono hBw
  have hl9 : (xs.length : Int) ≤ 9223372036854775807 := by omega
  have ha9 : (xa.length : Int) ≤ 9223372036854775807 := by omega
  have hb9 : (xb.length : Int) ≤ 9223372036854775807 := by omega
  have hd9 : (wd.length : Int) ≤ 9223372036854775807 := by omega
  have i0 : ¬ (12 : Int) < xs.length := by omega
  have i1 : ¬ (xs.length : Int) = 0 := by omega
  have j1 : ¬ xs.length = 0 := by omega
  have l1 : ¬ xs = [] := by intro h; rw [h] at j1; exact j1 rfl
  have i2 : ¬ (20 : Int) < xa.length := by omega
  have i3 : ¬ (20 : Int) < xb.length := by omega
  have i4 : (wd.length : Int) = xs.length := by omega
  have kC : Hid (∀ X, Calls Tryz.prog 4 #[G.cavV c] X fun e w' => e = .returned (.bool false) ∧ Below X.heap.size X w') := Lib.hid (fun X => (G.refCavern c X).mono (fun e w' (h : G.BoolB _ _ e w') => h.lit t5))
  replace t0 := Lib.hid t0; replace t1 := Lib.hid t1; replace t2 := Lib.hid t2; replace t3 := Lib.hid t3; replace t4 := Lib.hid t4; replace t5 := Lib.hid t5
  clear hl ha hb hd hlW haW hbW hdW hfl
  have hgW := grow_cell W
  go_enter Tryz.func3, Tryz.ntmps3
  go_wp2_with (first | (go_at_call 4; refine Calls.mono (kC.out _) ?_; rintro e w1 ⟨rfl, hB⟩; (first | (obtain ⟨g, rfl⟩ := g.next hB) | (obtain ⟨g, rfl⟩ : ∃ g : Grow W, w1 = g.x := ⟨⟨w1, hB⟩, rfl⟩)); clear hB) | (go_at_call 9; (with_reducible refine Calls.mono (kK.out _) ?_); rintro e w9 ⟨rfl, hB9⟩))
  go_ret
  exact ⟨rfl, below_tr hBw (below_tr g.h hB9)⟩
set_option maxRecDepth 100000 in
set_option maxHeartbeats 16000000 in
theorem gateBalanced6 (c : Gas.Cav) (s : Gas.St) (lv : Value) (xs : List Gas.Op) (p : Gas.Pt) (av : Value) (xa : List Int) (bv : Value) (xb : List Int) (dv : Value) (wd : List Int) (size since : Int) (w : World)
    (hl : G.OpsAt w lv xs) (hfl : G.Fits lv) (ha : G.IntsAt w av xa) (hfa : G.Fits av) (hb : G.IntsAt w bv xb) (hfb : G.Fits bv) (hd : G.IntsAt w dv wd) (t0 : xs.length ≤ 12) (t1 : 1 ≤ xs.length) (t2 : xa.length ≤ 20) (t3 : xb.length ≤ 20) (t4 : wd.length = xs.length) (t5 : c.ok = true) (t6 : s.ok = false) :
    Calls Tryz.prog 3 #[G.cavV c, G.stV s, lv, G.ptV p, av, bv, dv, .int .i64 size, .int .i64 since] w fun e w' => e = .returned (.bool true) ∧ Below w.heap.size w w' := by
  have kK := Lib.hid (fun X => known11 X)
  have hfl' := hfl
  obtain ⟨la, ln, lc, rfl, hlc1, hlc2⟩ := hfl'
  obtain rfl : ln = xs.length := by obtain ⟨a', c', e, -⟩ := hl; simp only [Value.slice.injEq] at e; exact e.2.1
  obtain ⟨aa, an, ac, rfl, hac1, hac2⟩ := hfa
  obtain rfl : an = xa.length := by obtain ⟨a', c', e, -⟩ := ha; simp only [Value.slice.injEq] at e; exact e.2.1
  obtain ⟨ba, bn, bc, rfl, hbc1, hbc2⟩ := hfb
  obtain rfl : bn = xb.length := by obtain ⟨a', c', e, -⟩ := hb; simp only [Value.slice.injEq] at e; exact e.2.1
  have hd' := hd
  obtain ⟨da, dc, rfl, hdm, -⟩ := hd'
  unfold maxLen at hlc2 hac2 hbc2 hdm
  obtain ⟨W1, hW1⟩ : ∃ W1, w.alloc (.cells #[.int .i64 c.vlo, .int .i64 c.vhi, .int .i64 c.least, .int .i64 c.most, .int .i64 c.f0, .int .i64 c.f1, .int .i64 c.h0, .int .i64 c.h1, .int .i64 c.rock, .int .i64 c.plo, .int .i64 c.phi] 26) = W1 := ⟨_, rfl⟩
  obtain ⟨eW0, bW0, sW0⟩ := boxed hW1
  have yW0_0 : w.heap.size < W1.heap.size := by omega
  obtain ⟨mW0_0_0, mW0_0_1, mW0_0_2, mW0_0_3, mW0_0_4, mW0_0_5, mW0_0_6, mW0_0_7, mW0_0_8, mW0_0_9, mW0_0_10⟩ := rc11 eW0
  obtain ⟨W2, hW2⟩ : ∃ W2, W1.alloc (.cells #[.int .i64 s.glo, .int .i64 s.ghi, .int .i64 s.ylo, .int .i64 s.yhi, .int .i64 s.tlo, .int .i64 s.thi, .int .i64 s.wlo, .int .i64 s.whi] 28) = W2 := ⟨_, rfl⟩
  obtain ⟨eW1, bW1, sW1⟩ := boxed hW2
  have yW1_0 : w.heap.size < W2.heap.size := by omega
  replace eW0 := (bW1.block _ (Array.getElem?_eq_some_iff.1 eW0).1).trans eW0
  obtain ⟨mW1_0_0, mW1_0_1, mW1_0_2, mW1_0_3, mW1_0_4, mW1_0_5, mW1_0_6, mW1_0_7, mW1_0_8, mW1_0_9, mW1_0_10⟩ := rc11 eW0
  have yW1_1 : W1.heap.size < W2.heap.size := by omega
  obtain ⟨mW1_1_0, mW1_1_1, mW1_1_2, mW1_1_3, mW1_1_4, mW1_1_5, mW1_1_6, mW1_1_7⟩ := rc8 eW1
  obtain ⟨W, hW⟩ : ∃ W, W2.alloc (.cells #[.int .i64 p.g, .int .i64 p.y, .int .i64 p.t, .int .i64 p.w] 31) = W := ⟨_, rfl⟩
  obtain ⟨eW2, bW2, sW2⟩ := boxed hW
  replace eW0 := (bW2.block _ (Array.getElem?_eq_some_iff.1 eW0).1).trans eW0
  replace eW1 := (bW2.block _ (Array.getElem?_eq_some_iff.1 eW1).1).trans eW1
  have hBw : Below w.heap.size w W := (by have := sW0; have := sW1; have := sW2; exact ((bW0.trans (bW1.mono (by omega))).trans (bW2.mono (by omega))))
  obtain ⟨zW0, rW0, tW0⟩ := row_cells eW0
  obtain ⟨qW0_0, qW0_1, qW0_2, qW0_3, qW0_4, qW0_5, qW0_6, qW0_7, qW0_8, qW0_9, qW0_10⟩ := rc11 eW0
  obtain ⟨fW0_0, fW0_1, fW0_2, fW0_3, fW0_4, fW0_5, fW0_6, fW0_7, fW0_8, fW0_9, fW0_10⟩ := rf11 eW0
  have EW0 := Lib.hid eW0
  clear rW0 tW0 eW0
  obtain ⟨zW1, rW1, tW1⟩ := row_cells eW1
  obtain ⟨qW1_0, qW1_1, qW1_2, qW1_3, qW1_4, qW1_5, qW1_6, qW1_7⟩ := rc8 eW1
  obtain ⟨fW1_0, fW1_1, fW1_2, fW1_3, fW1_4, fW1_5, fW1_6, fW1_7⟩ := rf8 eW1
  have EW1 := Lib.hid eW1
  clear rW1 tW1 eW1
  obtain ⟨zW2, rW2, tW2⟩ := row_cells eW2
  obtain ⟨qW2_0, qW2_1, qW2_2, qW2_3⟩ := rc4 eW2
  obtain ⟨fW2_0, fW2_1, fW2_2, fW2_3⟩ := rf4 eW2
  have EW2 := Lib.hid eW2
  clear rW2 tW2 eW2
  have xW0 : w.heap.size ≤ w.heap.size := by omega
  have xW1 : w.heap.size ≤ W1.heap.size := by omega
  have xW2 : w.heap.size ≤ W2.heap.size := by omega
  clear bW0 sW0 bW1 sW1 bW2 sW2
  have hlW := hl.mono hBw
  have haW := ha.mono hBw
  have hbW := hb.mono hBw
  have hdW := hd.mono hBw
  have hl9 : (xs.length : Int) ≤ 9223372036854775807 := by omega
  have ha9 : (xa.length : Int) ≤ 9223372036854775807 := by omega
  have hb9 : (xb.length : Int) ≤ 9223372036854775807 := by omega
  have hd9 : (wd.length : Int) ≤ 9223372036854775807 := by omega
  have i0 : ¬ (12 : Int) < xs.length := by omega
  have i1 : ¬ (xs.length : Int) = 0 := by omega
  have j1 : ¬ xs.length = 0 := by omega
  have l1 : ¬ xs = [] := by intro h; rw [h] at j1; exact j1 rfl
  have i2 : ¬ (20 : Int) < xa.length := by omega
  have i3 : ¬ (20 : Int) < xb.length := by omega
  have i4 : (wd.length : Int) = xs.length := by omega
  have kC : Hid (∀ X, Calls Tryz.prog 4 #[G.cavV c] X fun e w' => e = .returned (.bool true) ∧ Below X.heap.size X w') := Lib.hid (fun X => (G.refCavern c X).mono (fun e w' (h : G.BoolB _ _ e w') => h.lit t5))
  have kS : Hid (∀ X, Calls Tryz.prog 5 #[G.stV s] X fun e w' => e = .returned (.bool false) ∧ Below X.heap.size X w') := Lib.hid (fun X => (G.refState s X).mono (fun e w' (h : G.BoolB _ _ e w') => h.lit t6))
  replace t0 := Lib.hid t0; replace t1 := Lib.hid t1; replace t2 := Lib.hid t2; replace t3 := Lib.hid t3; replace t4 := Lib.hid t4; replace t5 := Lib.hid t5; replace t6 := Lib.hid t6
  clear hl ha hb hd hlW haW hbW hdW hfl
  have hgW := grow_cell W
  go_enter Tryz.func3, Tryz.ntmps3
  go_wp2_with (first | (go_at_call 4; refine Calls.mono (kC.out _) ?_; rintro e w1 ⟨rfl, hB⟩; (first | (obtain ⟨g, rfl⟩ := g.next hB) | (obtain ⟨g, rfl⟩ : ∃ g : Grow W, w1 = g.x := ⟨⟨w1, hB⟩, rfl⟩)); clear hB) | (go_at_call 5; refine Calls.mono (kS.out _) ?_; rintro e w1 ⟨rfl, hB⟩; (first | (obtain ⟨g, rfl⟩ := g.next hB) | (obtain ⟨g, rfl⟩ : ∃ g : Grow W, w1 = g.x := ⟨⟨w1, hB⟩, rfl⟩)); clear hB) | (go_at_call 9; (with_reducible refine Calls.mono (kK.out _) ?_); rintro e w9 ⟨rfl, hB9⟩))
  go_ret
  exact ⟨rfl, below_tr hBw (below_tr g.h hB9)⟩
set_option maxRecDepth 100000 in
set_option maxHeartbeats 16000000 in
theorem gateBalanced7 (c : Gas.Cav) (s : Gas.St) (lv : Value) (xs : List Gas.Op) (p : Gas.Pt) (av : Value) (xa : List Int) (bv : Value) (xb : List Int) (dv : Value) (wd : List Int) (size since : Int) (w : World)
    (hl : G.OpsAt w lv xs) (hfl : G.Fits lv) (ha : G.IntsAt w av xa) (hfa : G.Fits av) (hb : G.IntsAt w bv xb) (hfb : G.Fits bv) (hd : G.IntsAt w dv wd) (t0 : xs.length ≤ 12) (t1 : 1 ≤ xs.length) (t2 : xa.length ≤ 20) (t3 : xb.length ≤ 20) (t4 : wd.length = xs.length) (t5 : c.ok = true) (t6 : s.ok = true) (t7 : Gas.opsB xs = false) :
    Calls Tryz.prog 3 #[G.cavV c, G.stV s, lv, G.ptV p, av, bv, dv, .int .i64 size, .int .i64 since] w fun e w' => e = .returned (.bool true) ∧ Below w.heap.size w w' := by
  have kK := Lib.hid (fun X => known11 X)
  have hfl' := hfl
  obtain ⟨la, ln, lc, rfl, hlc1, hlc2⟩ := hfl'
  obtain rfl : ln = xs.length := by obtain ⟨a', c', e, -⟩ := hl; simp only [Value.slice.injEq] at e; exact e.2.1
  obtain ⟨aa, an, ac, rfl, hac1, hac2⟩ := hfa
  obtain rfl : an = xa.length := by obtain ⟨a', c', e, -⟩ := ha; simp only [Value.slice.injEq] at e; exact e.2.1
  obtain ⟨ba, bn, bc, rfl, hbc1, hbc2⟩ := hfb
  obtain rfl : bn = xb.length := by obtain ⟨a', c', e, -⟩ := hb; simp only [Value.slice.injEq] at e; exact e.2.1
  have hd' := hd
  obtain ⟨da, dc, rfl, hdm, -⟩ := hd'
  unfold maxLen at hlc2 hac2 hbc2 hdm
  obtain ⟨W1, hW1⟩ : ∃ W1, w.alloc (.cells #[.int .i64 c.vlo, .int .i64 c.vhi, .int .i64 c.least, .int .i64 c.most, .int .i64 c.f0, .int .i64 c.f1, .int .i64 c.h0, .int .i64 c.h1, .int .i64 c.rock, .int .i64 c.plo, .int .i64 c.phi] 26) = W1 := ⟨_, rfl⟩
  obtain ⟨eW0, bW0, sW0⟩ := boxed hW1
  have yW0_0 : w.heap.size < W1.heap.size := by omega
  obtain ⟨mW0_0_0, mW0_0_1, mW0_0_2, mW0_0_3, mW0_0_4, mW0_0_5, mW0_0_6, mW0_0_7, mW0_0_8, mW0_0_9, mW0_0_10⟩ := rc11 eW0
  obtain ⟨W2, hW2⟩ : ∃ W2, W1.alloc (.cells #[.int .i64 s.glo, .int .i64 s.ghi, .int .i64 s.ylo, .int .i64 s.yhi, .int .i64 s.tlo, .int .i64 s.thi, .int .i64 s.wlo, .int .i64 s.whi] 28) = W2 := ⟨_, rfl⟩
  obtain ⟨eW1, bW1, sW1⟩ := boxed hW2
  have yW1_0 : w.heap.size < W2.heap.size := by omega
  replace eW0 := (bW1.block _ (Array.getElem?_eq_some_iff.1 eW0).1).trans eW0
  obtain ⟨mW1_0_0, mW1_0_1, mW1_0_2, mW1_0_3, mW1_0_4, mW1_0_5, mW1_0_6, mW1_0_7, mW1_0_8, mW1_0_9, mW1_0_10⟩ := rc11 eW0
  have yW1_1 : W1.heap.size < W2.heap.size := by omega
  obtain ⟨mW1_1_0, mW1_1_1, mW1_1_2, mW1_1_3, mW1_1_4, mW1_1_5, mW1_1_6, mW1_1_7⟩ := rc8 eW1
  obtain ⟨W, hW⟩ : ∃ W, W2.alloc (.cells #[.int .i64 p.g, .int .i64 p.y, .int .i64 p.t, .int .i64 p.w] 31) = W := ⟨_, rfl⟩
  obtain ⟨eW2, bW2, sW2⟩ := boxed hW
  replace eW0 := (bW2.block _ (Array.getElem?_eq_some_iff.1 eW0).1).trans eW0
  replace eW1 := (bW2.block _ (Array.getElem?_eq_some_iff.1 eW1).1).trans eW1
  have hBw : Below w.heap.size w W := (by have := sW0; have := sW1; have := sW2; exact ((bW0.trans (bW1.mono (by omega))).trans (bW2.mono (by omega))))
  obtain ⟨zW0, rW0, tW0⟩ := row_cells eW0
  obtain ⟨qW0_0, qW0_1, qW0_2, qW0_3, qW0_4, qW0_5, qW0_6, qW0_7, qW0_8, qW0_9, qW0_10⟩ := rc11 eW0
  obtain ⟨fW0_0, fW0_1, fW0_2, fW0_3, fW0_4, fW0_5, fW0_6, fW0_7, fW0_8, fW0_9, fW0_10⟩ := rf11 eW0
  have EW0 := Lib.hid eW0
  clear rW0 tW0 eW0
  obtain ⟨zW1, rW1, tW1⟩ := row_cells eW1
  obtain ⟨qW1_0, qW1_1, qW1_2, qW1_3, qW1_4, qW1_5, qW1_6, qW1_7⟩ := rc8 eW1
  obtain ⟨fW1_0, fW1_1, fW1_2, fW1_3, fW1_4, fW1_5, fW1_6, fW1_7⟩ := rf8 eW1
  have EW1 := Lib.hid eW1
  clear rW1 tW1 eW1
  obtain ⟨zW2, rW2, tW2⟩ := row_cells eW2
  obtain ⟨qW2_0, qW2_1, qW2_2, qW2_3⟩ := rc4 eW2
  obtain ⟨fW2_0, fW2_1, fW2_2, fW2_3⟩ := rf4 eW2
  have EW2 := Lib.hid eW2
  clear rW2 tW2 eW2
  have xW0 : w.heap.size ≤ w.heap.size := by omega
  have xW1 : w.heap.size ≤ W1.heap.size := by omega
  have xW2 : w.heap.size ≤ W2.heap.size := by omega
  clear bW0 sW0 bW1 sW1 bW2 sW2
  have hlW := hl.mono hBw
  have haW := ha.mono hBw
  have hbW := hb.mono hBw
  have hdW := hd.mono hBw
  have hl9 : (xs.length : Int) ≤ 9223372036854775807 := by omega
  have ha9 : (xa.length : Int) ≤ 9223372036854775807 := by omega
  have hb9 : (xb.length : Int) ≤ 9223372036854775807 := by omega
  have hd9 : (wd.length : Int) ≤ 9223372036854775807 := by omega
  have i0 : ¬ (12 : Int) < xs.length := by omega
  have i1 : ¬ (xs.length : Int) = 0 := by omega
  have j1 : ¬ xs.length = 0 := by omega
  have l1 : ¬ xs = [] := by intro h; rw [h] at j1; exact j1 rfl
  have i2 : ¬ (20 : Int) < xa.length := by omega
  have i3 : ¬ (20 : Int) < xb.length := by omega
  have i4 : (wd.length : Int) = xs.length := by omega
  have kC : Hid (∀ X, Calls Tryz.prog 4 #[G.cavV c] X fun e w' => e = .returned (.bool true) ∧ Below X.heap.size X w') := Lib.hid (fun X => (G.refCavern c X).mono (fun e w' (h : G.BoolB _ _ e w') => h.lit t5))
  have kS : Hid (∀ X, Calls Tryz.prog 5 #[G.stV s] X fun e w' => e = .returned (.bool true) ∧ Below X.heap.size X w') := Lib.hid (fun X => (G.refState s X).mono (fun e w' (h : G.BoolB _ _ e w') => h.lit t6))
  have kO : Hid (∀ g : Grow W, Calls Tryz.prog 6 #[.slice la xs.length lc] g.x fun e w' => e = .returned (.bool false) ∧ Below g.x.heap.size g.x w') := Lib.hid (fun g => (G.refOps _ xs g.x (hlW.mono g.h)).mono (fun e w' h => ⟨h.1.trans (bool_ret t7), h.2⟩))
  replace t0 := Lib.hid t0; replace t1 := Lib.hid t1; replace t2 := Lib.hid t2; replace t3 := Lib.hid t3; replace t4 := Lib.hid t4; replace t5 := Lib.hid t5; replace t6 := Lib.hid t6; replace t7 := Lib.hid t7
  clear hl ha hb hd hlW haW hbW hdW hfl
  have hgW := grow_cell W
  go_enter Tryz.func3, Tryz.ntmps3
  go_wp2_with (first | (go_at_call 4; refine Calls.mono (kC.out _) ?_; rintro e w1 ⟨rfl, hB⟩; (first | (obtain ⟨g, rfl⟩ := g.next hB) | (obtain ⟨g, rfl⟩ : ∃ g : Grow W, w1 = g.x := ⟨⟨w1, hB⟩, rfl⟩)); clear hB) | (go_at_call 5; refine Calls.mono (kS.out _) ?_; rintro e w1 ⟨rfl, hB⟩; (first | (obtain ⟨g, rfl⟩ := g.next hB) | (obtain ⟨g, rfl⟩ : ∃ g : Grow W, w1 = g.x := ⟨⟨w1, hB⟩, rfl⟩)); clear hB) | (go_at_call 6; refine Calls.mono (kO.out _) ?_; rintro e w1 ⟨rfl, hB⟩; (first | (obtain ⟨g, rfl⟩ := g.next hB) | (obtain ⟨g, rfl⟩ : ∃ g : Grow W, w1 = g.x := ⟨⟨w1, hB⟩, rfl⟩)); clear hB) | (go_at_call 9; (with_reducible refine Calls.mono (kK.out _) ?_); rintro e w9 ⟨rfl, hB9⟩))
  go_ret
  exact ⟨rfl, below_tr hBw (below_tr g.h hB9)⟩
set_option maxRecDepth 100000 in
set_option maxHeartbeats 16000000 in
theorem gateBalanced8 (c : Gas.Cav) (s : Gas.St) (lv : Value) (xs : List Gas.Op) (p : Gas.Pt) (av : Value) (xa : List Int) (bv : Value) (xb : List Int) (dv : Value) (wd : List Int) (size since : Int) (w : World)
    (hl : G.OpsAt w lv xs) (hfl : G.Fits lv) (ha : G.IntsAt w av xa) (hfa : G.Fits av) (hb : G.IntsAt w bv xb) (hfb : G.Fits bv) (hd : G.IntsAt w dv wd) (t0 : xs.length ≤ 12) (t1 : 1 ≤ xs.length) (t2 : xa.length ≤ 20) (t3 : xb.length ≤ 20) (t4 : wd.length = xs.length) (t5 : c.ok = true) (t6 : s.ok = true) (t7 : Gas.opsB xs = true) (t8 : Gas.hasB s p = false) :
    Calls Tryz.prog 3 #[G.cavV c, G.stV s, lv, G.ptV p, av, bv, dv, .int .i64 size, .int .i64 since] w fun e w' => e = .returned (.bool true) ∧ Below w.heap.size w w' := by
  have kK := Lib.hid (fun X => known11 X)
  have hfl' := hfl
  obtain ⟨la, ln, lc, rfl, hlc1, hlc2⟩ := hfl'
  obtain rfl : ln = xs.length := by obtain ⟨a', c', e, -⟩ := hl; simp only [Value.slice.injEq] at e; exact e.2.1
  obtain ⟨aa, an, ac, rfl, hac1, hac2⟩ := hfa
  obtain rfl : an = xa.length := by obtain ⟨a', c', e, -⟩ := ha; simp only [Value.slice.injEq] at e; exact e.2.1
  obtain ⟨ba, bn, bc, rfl, hbc1, hbc2⟩ := hfb
  obtain rfl : bn = xb.length := by obtain ⟨a', c', e, -⟩ := hb; simp only [Value.slice.injEq] at e; exact e.2.1
  have hd' := hd
  obtain ⟨da, dc, rfl, hdm, -⟩ := hd'
  unfold maxLen at hlc2 hac2 hbc2 hdm
  obtain ⟨W1, hW1⟩ : ∃ W1, w.alloc (.cells #[.int .i64 c.vlo, .int .i64 c.vhi, .int .i64 c.least, .int .i64 c.most, .int .i64 c.f0, .int .i64 c.f1, .int .i64 c.h0, .int .i64 c.h1, .int .i64 c.rock, .int .i64 c.plo, .int .i64 c.phi] 26) = W1 := ⟨_, rfl⟩
  obtain ⟨eW0, bW0, sW0⟩ := boxed hW1
  have yW0_0 : w.heap.size < W1.heap.size := by omega
  obtain ⟨mW0_0_0, mW0_0_1, mW0_0_2, mW0_0_3, mW0_0_4, mW0_0_5, mW0_0_6, mW0_0_7, mW0_0_8, mW0_0_9, mW0_0_10⟩ := rc11 eW0
  obtain ⟨W2, hW2⟩ : ∃ W2, W1.alloc (.cells #[.int .i64 s.glo, .int .i64 s.ghi, .int .i64 s.ylo, .int .i64 s.yhi, .int .i64 s.tlo, .int .i64 s.thi, .int .i64 s.wlo, .int .i64 s.whi] 28) = W2 := ⟨_, rfl⟩
  obtain ⟨eW1, bW1, sW1⟩ := boxed hW2
  have yW1_0 : w.heap.size < W2.heap.size := by omega
  replace eW0 := (bW1.block _ (Array.getElem?_eq_some_iff.1 eW0).1).trans eW0
  obtain ⟨mW1_0_0, mW1_0_1, mW1_0_2, mW1_0_3, mW1_0_4, mW1_0_5, mW1_0_6, mW1_0_7, mW1_0_8, mW1_0_9, mW1_0_10⟩ := rc11 eW0
  have yW1_1 : W1.heap.size < W2.heap.size := by omega
  obtain ⟨mW1_1_0, mW1_1_1, mW1_1_2, mW1_1_3, mW1_1_4, mW1_1_5, mW1_1_6, mW1_1_7⟩ := rc8 eW1
  obtain ⟨W, hW⟩ : ∃ W, W2.alloc (.cells #[.int .i64 p.g, .int .i64 p.y, .int .i64 p.t, .int .i64 p.w] 31) = W := ⟨_, rfl⟩
  obtain ⟨eW2, bW2, sW2⟩ := boxed hW
  replace eW0 := (bW2.block _ (Array.getElem?_eq_some_iff.1 eW0).1).trans eW0
  replace eW1 := (bW2.block _ (Array.getElem?_eq_some_iff.1 eW1).1).trans eW1
  have hBw : Below w.heap.size w W := (by have := sW0; have := sW1; have := sW2; exact ((bW0.trans (bW1.mono (by omega))).trans (bW2.mono (by omega))))
  obtain ⟨zW0, rW0, tW0⟩ := row_cells eW0
  obtain ⟨qW0_0, qW0_1, qW0_2, qW0_3, qW0_4, qW0_5, qW0_6, qW0_7, qW0_8, qW0_9, qW0_10⟩ := rc11 eW0
  obtain ⟨fW0_0, fW0_1, fW0_2, fW0_3, fW0_4, fW0_5, fW0_6, fW0_7, fW0_8, fW0_9, fW0_10⟩ := rf11 eW0
  have EW0 := Lib.hid eW0
  clear rW0 tW0 eW0
  obtain ⟨zW1, rW1, tW1⟩ := row_cells eW1
  obtain ⟨qW1_0, qW1_1, qW1_2, qW1_3, qW1_4, qW1_5, qW1_6, qW1_7⟩ := rc8 eW1
  obtain ⟨fW1_0, fW1_1, fW1_2, fW1_3, fW1_4, fW1_5, fW1_6, fW1_7⟩ := rf8 eW1
  have EW1 := Lib.hid eW1
  clear rW1 tW1 eW1
  obtain ⟨zW2, rW2, tW2⟩ := row_cells eW2
  obtain ⟨qW2_0, qW2_1, qW2_2, qW2_3⟩ := rc4 eW2
  obtain ⟨fW2_0, fW2_1, fW2_2, fW2_3⟩ := rf4 eW2
  have EW2 := Lib.hid eW2
  clear rW2 tW2 eW2
  have xW0 : w.heap.size ≤ w.heap.size := by omega
  have xW1 : w.heap.size ≤ W1.heap.size := by omega
  have xW2 : w.heap.size ≤ W2.heap.size := by omega
  clear bW0 sW0 bW1 sW1 bW2 sW2
  have hlW := hl.mono hBw
  have haW := ha.mono hBw
  have hbW := hb.mono hBw
  have hdW := hd.mono hBw
  have hl9 : (xs.length : Int) ≤ 9223372036854775807 := by omega
  have ha9 : (xa.length : Int) ≤ 9223372036854775807 := by omega
  have hb9 : (xb.length : Int) ≤ 9223372036854775807 := by omega
  have hd9 : (wd.length : Int) ≤ 9223372036854775807 := by omega
  have i0 : ¬ (12 : Int) < xs.length := by omega
  have i1 : ¬ (xs.length : Int) = 0 := by omega
  have j1 : ¬ xs.length = 0 := by omega
  have l1 : ¬ xs = [] := by intro h; rw [h] at j1; exact j1 rfl
  have i2 : ¬ (20 : Int) < xa.length := by omega
  have i3 : ¬ (20 : Int) < xb.length := by omega
  have i4 : (wd.length : Int) = xs.length := by omega
  have kC : Hid (∀ X, Calls Tryz.prog 4 #[G.cavV c] X fun e w' => e = .returned (.bool true) ∧ Below X.heap.size X w') := Lib.hid (fun X => (G.refCavern c X).mono (fun e w' (h : G.BoolB _ _ e w') => h.lit t5))
  have kS : Hid (∀ X, Calls Tryz.prog 5 #[G.stV s] X fun e w' => e = .returned (.bool true) ∧ Below X.heap.size X w') := Lib.hid (fun X => (G.refState s X).mono (fun e w' (h : G.BoolB _ _ e w') => h.lit t6))
  have kO : Hid (∀ g : Grow W, Calls Tryz.prog 6 #[.slice la xs.length lc] g.x fun e w' => e = .returned (.bool true) ∧ Below g.x.heap.size g.x w') := Lib.hid (fun g => (G.refOps _ xs g.x (hlW.mono g.h)).mono (fun e w' h => ⟨h.1.trans (bool_ret t7), h.2⟩))
  have kH : Hid (∀ X, Calls Tryz.prog 7 #[G.stV s, G.ptV p] X fun e w' => e = .returned (.bool false) ∧ Below X.heap.size X w') := Lib.hid (fun X => (G.refHas s p X).mono (fun e w' (h : G.BoolB _ _ e w') => h.lit t8))
  replace t0 := Lib.hid t0; replace t1 := Lib.hid t1; replace t2 := Lib.hid t2; replace t3 := Lib.hid t3; replace t4 := Lib.hid t4; replace t5 := Lib.hid t5; replace t6 := Lib.hid t6; replace t7 := Lib.hid t7; replace t8 := Lib.hid t8
  clear hl ha hb hd hlW haW hbW hdW hfl
  have hgW := grow_cell W
  go_enter Tryz.func3, Tryz.ntmps3
  go_wp2_with (first | (go_at_call 4; refine Calls.mono (kC.out _) ?_; rintro e w1 ⟨rfl, hB⟩; (first | (obtain ⟨g, rfl⟩ := g.next hB) | (obtain ⟨g, rfl⟩ : ∃ g : Grow W, w1 = g.x := ⟨⟨w1, hB⟩, rfl⟩)); clear hB) | (go_at_call 5; refine Calls.mono (kS.out _) ?_; rintro e w1 ⟨rfl, hB⟩; (first | (obtain ⟨g, rfl⟩ := g.next hB) | (obtain ⟨g, rfl⟩ : ∃ g : Grow W, w1 = g.x := ⟨⟨w1, hB⟩, rfl⟩)); clear hB) | (go_at_call 6; refine Calls.mono (kO.out _) ?_; rintro e w1 ⟨rfl, hB⟩; (first | (obtain ⟨g, rfl⟩ := g.next hB) | (obtain ⟨g, rfl⟩ : ∃ g : Grow W, w1 = g.x := ⟨⟨w1, hB⟩, rfl⟩)); clear hB) | (go_at_call 7; refine Calls.mono (kH.out _) ?_; rintro e w1 ⟨rfl, hB⟩; (first | (obtain ⟨g, rfl⟩ := g.next hB) | (obtain ⟨g, rfl⟩ : ∃ g : Grow W, w1 = g.x := ⟨⟨w1, hB⟩, rfl⟩)); clear hB) | (go_at_call 9; (with_reducible refine Calls.mono (kK.out _) ?_); rintro e w9 ⟨rfl, hB9⟩))
  go_ret
  exact ⟨rfl, below_tr hBw (below_tr g.h hB9)⟩
set_option maxRecDepth 100000 in
set_option maxHeartbeats 16000000 in
theorem gateBalanced9 (c : Gas.Cav) (s : Gas.St) (lv : Value) (xs : List Gas.Op) (p : Gas.Pt) (av : Value) (xa : List Int) (bv : Value) (xb : List Int) (dv : Value) (wd : List Int) (size since : Int) (w : World)
    (hl : G.OpsAt w lv xs) (hfl : G.Fits lv) (ha : G.IntsAt w av xa) (hfa : G.Fits av) (hb : G.IntsAt w bv xb) (hfb : G.Fits bv) (hd : G.IntsAt w dv wd) (t0 : xs.length ≤ 12) (t1 : 1 ≤ xs.length) (t2 : xa.length ≤ 20) (t3 : xb.length ≤ 20) (t4 : wd.length = xs.length) (t5 : c.ok = true) (t6 : s.ok = true) (t7 : Gas.opsB xs = true) (t8 : Gas.hasB s p = true) (t9 : Gas.truthB xs xa xb = false) :
    Calls Tryz.prog 3 #[G.cavV c, G.stV s, lv, G.ptV p, av, bv, dv, .int .i64 size, .int .i64 since] w fun e w' => e = .returned (.bool true) ∧ Below w.heap.size w w' := by
  have kK := Lib.hid (fun X => known11 X)
  have hfl' := hfl
  obtain ⟨la, ln, lc, rfl, hlc1, hlc2⟩ := hfl'
  obtain rfl : ln = xs.length := by obtain ⟨a', c', e, -⟩ := hl; simp only [Value.slice.injEq] at e; exact e.2.1
  obtain ⟨aa, an, ac, rfl, hac1, hac2⟩ := hfa
  obtain rfl : an = xa.length := by obtain ⟨a', c', e, -⟩ := ha; simp only [Value.slice.injEq] at e; exact e.2.1
  obtain ⟨ba, bn, bc, rfl, hbc1, hbc2⟩ := hfb
  obtain rfl : bn = xb.length := by obtain ⟨a', c', e, -⟩ := hb; simp only [Value.slice.injEq] at e; exact e.2.1
  have hd' := hd
  obtain ⟨da, dc, rfl, hdm, -⟩ := hd'
  unfold maxLen at hlc2 hac2 hbc2 hdm
  obtain ⟨W1, hW1⟩ : ∃ W1, w.alloc (.cells #[.int .i64 c.vlo, .int .i64 c.vhi, .int .i64 c.least, .int .i64 c.most, .int .i64 c.f0, .int .i64 c.f1, .int .i64 c.h0, .int .i64 c.h1, .int .i64 c.rock, .int .i64 c.plo, .int .i64 c.phi] 26) = W1 := ⟨_, rfl⟩
  obtain ⟨eW0, bW0, sW0⟩ := boxed hW1
  have yW0_0 : w.heap.size < W1.heap.size := by omega
  obtain ⟨mW0_0_0, mW0_0_1, mW0_0_2, mW0_0_3, mW0_0_4, mW0_0_5, mW0_0_6, mW0_0_7, mW0_0_8, mW0_0_9, mW0_0_10⟩ := rc11 eW0
  obtain ⟨W2, hW2⟩ : ∃ W2, W1.alloc (.cells #[.int .i64 s.glo, .int .i64 s.ghi, .int .i64 s.ylo, .int .i64 s.yhi, .int .i64 s.tlo, .int .i64 s.thi, .int .i64 s.wlo, .int .i64 s.whi] 28) = W2 := ⟨_, rfl⟩
  obtain ⟨eW1, bW1, sW1⟩ := boxed hW2
  have yW1_0 : w.heap.size < W2.heap.size := by omega
  replace eW0 := (bW1.block _ (Array.getElem?_eq_some_iff.1 eW0).1).trans eW0
  obtain ⟨mW1_0_0, mW1_0_1, mW1_0_2, mW1_0_3, mW1_0_4, mW1_0_5, mW1_0_6, mW1_0_7, mW1_0_8, mW1_0_9, mW1_0_10⟩ := rc11 eW0
  have yW1_1 : W1.heap.size < W2.heap.size := by omega
  obtain ⟨mW1_1_0, mW1_1_1, mW1_1_2, mW1_1_3, mW1_1_4, mW1_1_5, mW1_1_6, mW1_1_7⟩ := rc8 eW1
  obtain ⟨W, hW⟩ : ∃ W, W2.alloc (.cells #[.int .i64 p.g, .int .i64 p.y, .int .i64 p.t, .int .i64 p.w] 31) = W := ⟨_, rfl⟩
  obtain ⟨eW2, bW2, sW2⟩ := boxed hW
  replace eW0 := (bW2.block _ (Array.getElem?_eq_some_iff.1 eW0).1).trans eW0
  replace eW1 := (bW2.block _ (Array.getElem?_eq_some_iff.1 eW1).1).trans eW1
  have hBw : Below w.heap.size w W := (by have := sW0; have := sW1; have := sW2; exact ((bW0.trans (bW1.mono (by omega))).trans (bW2.mono (by omega))))
  obtain ⟨zW0, rW0, tW0⟩ := row_cells eW0
  obtain ⟨qW0_0, qW0_1, qW0_2, qW0_3, qW0_4, qW0_5, qW0_6, qW0_7, qW0_8, qW0_9, qW0_10⟩ := rc11 eW0
  obtain ⟨fW0_0, fW0_1, fW0_2, fW0_3, fW0_4, fW0_5, fW0_6, fW0_7, fW0_8, fW0_9, fW0_10⟩ := rf11 eW0
  have EW0 := Lib.hid eW0
  clear rW0 tW0 eW0
  obtain ⟨zW1, rW1, tW1⟩ := row_cells eW1
  obtain ⟨qW1_0, qW1_1, qW1_2, qW1_3, qW1_4, qW1_5, qW1_6, qW1_7⟩ := rc8 eW1
  obtain ⟨fW1_0, fW1_1, fW1_2, fW1_3, fW1_4, fW1_5, fW1_6, fW1_7⟩ := rf8 eW1
  have EW1 := Lib.hid eW1
  clear rW1 tW1 eW1
  obtain ⟨zW2, rW2, tW2⟩ := row_cells eW2
  obtain ⟨qW2_0, qW2_1, qW2_2, qW2_3⟩ := rc4 eW2
  obtain ⟨fW2_0, fW2_1, fW2_2, fW2_3⟩ := rf4 eW2
  have EW2 := Lib.hid eW2
  clear rW2 tW2 eW2
  have xW0 : w.heap.size ≤ w.heap.size := by omega
  have xW1 : w.heap.size ≤ W1.heap.size := by omega
  have xW2 : w.heap.size ≤ W2.heap.size := by omega
  clear bW0 sW0 bW1 sW1 bW2 sW2
  have hlW := hl.mono hBw
  have haW := ha.mono hBw
  have hbW := hb.mono hBw
  have hdW := hd.mono hBw
  have hl9 : (xs.length : Int) ≤ 9223372036854775807 := by omega
  have ha9 : (xa.length : Int) ≤ 9223372036854775807 := by omega
  have hb9 : (xb.length : Int) ≤ 9223372036854775807 := by omega
  have hd9 : (wd.length : Int) ≤ 9223372036854775807 := by omega
  have i0 : ¬ (12 : Int) < xs.length := by omega
  have i1 : ¬ (xs.length : Int) = 0 := by omega
  have j1 : ¬ xs.length = 0 := by omega
  have l1 : ¬ xs = [] := by intro h; rw [h] at j1; exact j1 rfl
  have i2 : ¬ (20 : Int) < xa.length := by omega
  have i3 : ¬ (20 : Int) < xb.length := by omega
  have i4 : (wd.length : Int) = xs.length := by omega
  have kC : Hid (∀ X, Calls Tryz.prog 4 #[G.cavV c] X fun e w' => e = .returned (.bool true) ∧ Below X.heap.size X w') := Lib.hid (fun X => (G.refCavern c X).mono (fun e w' (h : G.BoolB _ _ e w') => h.lit t5))
  have kS : Hid (∀ X, Calls Tryz.prog 5 #[G.stV s] X fun e w' => e = .returned (.bool true) ∧ Below X.heap.size X w') := Lib.hid (fun X => (G.refState s X).mono (fun e w' (h : G.BoolB _ _ e w') => h.lit t6))
  have kO : Hid (∀ g : Grow W, Calls Tryz.prog 6 #[.slice la xs.length lc] g.x fun e w' => e = .returned (.bool true) ∧ Below g.x.heap.size g.x w') := Lib.hid (fun g => (G.refOps _ xs g.x (hlW.mono g.h)).mono (fun e w' h => ⟨h.1.trans (bool_ret t7), h.2⟩))
  have kH : Hid (∀ X, Calls Tryz.prog 7 #[G.stV s, G.ptV p] X fun e w' => e = .returned (.bool true) ∧ Below X.heap.size X w') := Lib.hid (fun X => (G.refHas s p X).mono (fun e w' (h : G.BoolB _ _ e w') => h.lit t8))
  have kT : Hid (∀ g : Grow W, Calls Tryz.prog 8 #[.slice la xs.length lc, .slice aa xa.length ac, .slice ba xb.length bc] g.x fun e w' => e = .returned (.bool false) ∧ Below g.x.heap.size g.x w') := Lib.hid (fun g => (G.refTruth _ _ _ xs xa xb g.x (hlW.mono g.h) (haW.mono g.h) (hbW.mono g.h)).mono (fun e w' h => ⟨h.1.trans (bool_ret t9), h.2⟩))
  replace t0 := Lib.hid t0; replace t1 := Lib.hid t1; replace t2 := Lib.hid t2; replace t3 := Lib.hid t3; replace t4 := Lib.hid t4; replace t5 := Lib.hid t5; replace t6 := Lib.hid t6; replace t7 := Lib.hid t7; replace t8 := Lib.hid t8; replace t9 := Lib.hid t9
  clear hl ha hb hd hlW haW hbW hdW hfl
  have hgW := grow_cell W
  go_enter Tryz.func3, Tryz.ntmps3
  go_wp2_with (first | (go_at_call 4; refine Calls.mono (kC.out _) ?_; rintro e w1 ⟨rfl, hB⟩; (first | (obtain ⟨g, rfl⟩ := g.next hB) | (obtain ⟨g, rfl⟩ : ∃ g : Grow W, w1 = g.x := ⟨⟨w1, hB⟩, rfl⟩)); clear hB) | (go_at_call 5; refine Calls.mono (kS.out _) ?_; rintro e w1 ⟨rfl, hB⟩; (first | (obtain ⟨g, rfl⟩ := g.next hB) | (obtain ⟨g, rfl⟩ : ∃ g : Grow W, w1 = g.x := ⟨⟨w1, hB⟩, rfl⟩)); clear hB) | (go_at_call 6; refine Calls.mono (kO.out _) ?_; rintro e w1 ⟨rfl, hB⟩; (first | (obtain ⟨g, rfl⟩ := g.next hB) | (obtain ⟨g, rfl⟩ : ∃ g : Grow W, w1 = g.x := ⟨⟨w1, hB⟩, rfl⟩)); clear hB) | (go_at_call 7; refine Calls.mono (kH.out _) ?_; rintro e w1 ⟨rfl, hB⟩; (first | (obtain ⟨g, rfl⟩ := g.next hB) | (obtain ⟨g, rfl⟩ : ∃ g : Grow W, w1 = g.x := ⟨⟨w1, hB⟩, rfl⟩)); clear hB) | (go_at_call 8; refine Calls.mono (kT.out _) ?_; rintro e w1 ⟨rfl, hB⟩; (first | (obtain ⟨g, rfl⟩ := g.next hB) | (obtain ⟨g, rfl⟩ : ∃ g : Grow W, w1 = g.x := ⟨⟨w1, hB⟩, rfl⟩)); clear hB) | (go_at_call 9; (with_reducible refine Calls.mono (kK.out _) ?_); rintro e w9 ⟨rfl, hB9⟩))
  go_ret
  exact ⟨rfl, below_tr hBw (below_tr g.h hB9)⟩
set_option maxRecDepth 100000 in
set_option maxHeartbeats 16000000 in
theorem gateBalanced10 (c : Gas.Cav) (s : Gas.St) (lv : Value) (xs : List Gas.Op) (p : Gas.Pt) (av : Value) (xa : List Int) (bv : Value) (xb : List Int) (dv : Value) (wd : List Int) (size since : Int) (w : World)
    (hl : G.OpsAt w lv xs) (hfl : G.Fits lv) (ha : G.IntsAt w av xa) (hfa : G.Fits av) (hb : G.IntsAt w bv xb) (hfb : G.Fits bv) (hd : G.IntsAt w dv wd) (t0 : xs.length ≤ 12) (t1 : 1 ≤ xs.length) (t2 : xa.length ≤ 20) (t3 : xb.length ≤ 20) (t4 : wd.length = xs.length) (t5 : c.ok = true) (t6 : s.ok = true) (t7 : Gas.opsB xs = true) (t8 : Gas.hasB s p = true) (t9 : Gas.truthB xs xa xb = true) (t10 : ¬ 1 ≤ size) :
    Calls Tryz.prog 3 #[G.cavV c, G.stV s, lv, G.ptV p, av, bv, dv, .int .i64 size, .int .i64 since] w fun e w' => e = .returned (.bool true) ∧ Below w.heap.size w w' := by
  have kK := Lib.hid (fun X => known11 X)
  have hfl' := hfl
  obtain ⟨la, ln, lc, rfl, hlc1, hlc2⟩ := hfl'
  obtain rfl : ln = xs.length := by obtain ⟨a', c', e, -⟩ := hl; simp only [Value.slice.injEq] at e; exact e.2.1
  obtain ⟨aa, an, ac, rfl, hac1, hac2⟩ := hfa
  obtain rfl : an = xa.length := by obtain ⟨a', c', e, -⟩ := ha; simp only [Value.slice.injEq] at e; exact e.2.1
  obtain ⟨ba, bn, bc, rfl, hbc1, hbc2⟩ := hfb
  obtain rfl : bn = xb.length := by obtain ⟨a', c', e, -⟩ := hb; simp only [Value.slice.injEq] at e; exact e.2.1
  have hd' := hd
  obtain ⟨da, dc, rfl, hdm, -⟩ := hd'
  unfold maxLen at hlc2 hac2 hbc2 hdm
  obtain ⟨W1, hW1⟩ : ∃ W1, w.alloc (.cells #[.int .i64 c.vlo, .int .i64 c.vhi, .int .i64 c.least, .int .i64 c.most, .int .i64 c.f0, .int .i64 c.f1, .int .i64 c.h0, .int .i64 c.h1, .int .i64 c.rock, .int .i64 c.plo, .int .i64 c.phi] 26) = W1 := ⟨_, rfl⟩
  obtain ⟨eW0, bW0, sW0⟩ := boxed hW1
  have yW0_0 : w.heap.size < W1.heap.size := by omega
  obtain ⟨mW0_0_0, mW0_0_1, mW0_0_2, mW0_0_3, mW0_0_4, mW0_0_5, mW0_0_6, mW0_0_7, mW0_0_8, mW0_0_9, mW0_0_10⟩ := rc11 eW0
  obtain ⟨W2, hW2⟩ : ∃ W2, W1.alloc (.cells #[.int .i64 s.glo, .int .i64 s.ghi, .int .i64 s.ylo, .int .i64 s.yhi, .int .i64 s.tlo, .int .i64 s.thi, .int .i64 s.wlo, .int .i64 s.whi] 28) = W2 := ⟨_, rfl⟩
  obtain ⟨eW1, bW1, sW1⟩ := boxed hW2
  have yW1_0 : w.heap.size < W2.heap.size := by omega
  replace eW0 := (bW1.block _ (Array.getElem?_eq_some_iff.1 eW0).1).trans eW0
  obtain ⟨mW1_0_0, mW1_0_1, mW1_0_2, mW1_0_3, mW1_0_4, mW1_0_5, mW1_0_6, mW1_0_7, mW1_0_8, mW1_0_9, mW1_0_10⟩ := rc11 eW0
  have yW1_1 : W1.heap.size < W2.heap.size := by omega
  obtain ⟨mW1_1_0, mW1_1_1, mW1_1_2, mW1_1_3, mW1_1_4, mW1_1_5, mW1_1_6, mW1_1_7⟩ := rc8 eW1
  obtain ⟨W, hW⟩ : ∃ W, W2.alloc (.cells #[.int .i64 p.g, .int .i64 p.y, .int .i64 p.t, .int .i64 p.w] 31) = W := ⟨_, rfl⟩
  obtain ⟨eW2, bW2, sW2⟩ := boxed hW
  replace eW0 := (bW2.block _ (Array.getElem?_eq_some_iff.1 eW0).1).trans eW0
  replace eW1 := (bW2.block _ (Array.getElem?_eq_some_iff.1 eW1).1).trans eW1
  have hBw : Below w.heap.size w W := (by have := sW0; have := sW1; have := sW2; exact ((bW0.trans (bW1.mono (by omega))).trans (bW2.mono (by omega))))
  obtain ⟨zW0, rW0, tW0⟩ := row_cells eW0
  obtain ⟨qW0_0, qW0_1, qW0_2, qW0_3, qW0_4, qW0_5, qW0_6, qW0_7, qW0_8, qW0_9, qW0_10⟩ := rc11 eW0
  obtain ⟨fW0_0, fW0_1, fW0_2, fW0_3, fW0_4, fW0_5, fW0_6, fW0_7, fW0_8, fW0_9, fW0_10⟩ := rf11 eW0
  have EW0 := Lib.hid eW0
  clear rW0 tW0 eW0
  obtain ⟨zW1, rW1, tW1⟩ := row_cells eW1
  obtain ⟨qW1_0, qW1_1, qW1_2, qW1_3, qW1_4, qW1_5, qW1_6, qW1_7⟩ := rc8 eW1
  obtain ⟨fW1_0, fW1_1, fW1_2, fW1_3, fW1_4, fW1_5, fW1_6, fW1_7⟩ := rf8 eW1
  have EW1 := Lib.hid eW1
  clear rW1 tW1 eW1
  obtain ⟨zW2, rW2, tW2⟩ := row_cells eW2
  obtain ⟨qW2_0, qW2_1, qW2_2, qW2_3⟩ := rc4 eW2
  obtain ⟨fW2_0, fW2_1, fW2_2, fW2_3⟩ := rf4 eW2
  have EW2 := Lib.hid eW2
  clear rW2 tW2 eW2
  have xW0 : w.heap.size ≤ w.heap.size := by omega
  have xW1 : w.heap.size ≤ W1.heap.size := by omega
  have xW2 : w.heap.size ≤ W2.heap.size := by omega
  clear bW0 sW0 bW1 sW1 bW2 sW2
  have hlW := hl.mono hBw
  have haW := ha.mono hBw
  have hbW := hb.mono hBw
  have hdW := hd.mono hBw
  have hl9 : (xs.length : Int) ≤ 9223372036854775807 := by omega
  have ha9 : (xa.length : Int) ≤ 9223372036854775807 := by omega
  have hb9 : (xb.length : Int) ≤ 9223372036854775807 := by omega
  have hd9 : (wd.length : Int) ≤ 9223372036854775807 := by omega
  have i0 : ¬ (12 : Int) < xs.length := by omega
  have i1 : ¬ (xs.length : Int) = 0 := by omega
  have j1 : ¬ xs.length = 0 := by omega
  have l1 : ¬ xs = [] := by intro h; rw [h] at j1; exact j1 rfl
  have i2 : ¬ (20 : Int) < xa.length := by omega
  have i3 : ¬ (20 : Int) < xb.length := by omega
  have i4 : (wd.length : Int) = xs.length := by omega
  have kC : Hid (∀ X, Calls Tryz.prog 4 #[G.cavV c] X fun e w' => e = .returned (.bool true) ∧ Below X.heap.size X w') := Lib.hid (fun X => (G.refCavern c X).mono (fun e w' (h : G.BoolB _ _ e w') => h.lit t5))
  have kS : Hid (∀ X, Calls Tryz.prog 5 #[G.stV s] X fun e w' => e = .returned (.bool true) ∧ Below X.heap.size X w') := Lib.hid (fun X => (G.refState s X).mono (fun e w' (h : G.BoolB _ _ e w') => h.lit t6))
  have kO : Hid (∀ g : Grow W, Calls Tryz.prog 6 #[.slice la xs.length lc] g.x fun e w' => e = .returned (.bool true) ∧ Below g.x.heap.size g.x w') := Lib.hid (fun g => (G.refOps _ xs g.x (hlW.mono g.h)).mono (fun e w' h => ⟨h.1.trans (bool_ret t7), h.2⟩))
  have kH : Hid (∀ X, Calls Tryz.prog 7 #[G.stV s, G.ptV p] X fun e w' => e = .returned (.bool true) ∧ Below X.heap.size X w') := Lib.hid (fun X => (G.refHas s p X).mono (fun e w' (h : G.BoolB _ _ e w') => h.lit t8))
  have kT : Hid (∀ g : Grow W, Calls Tryz.prog 8 #[.slice la xs.length lc, .slice aa xa.length ac, .slice ba xb.length bc] g.x fun e w' => e = .returned (.bool true) ∧ Below g.x.heap.size g.x w') := Lib.hid (fun g => (G.refTruth _ _ _ xs xa xb g.x (hlW.mono g.h) (haW.mono g.h) (hbW.mono g.h)).mono (fun e w' h => ⟨h.1.trans (bool_ret t9), h.2⟩))
  have i10 : size < 1 := by omega
  replace t0 := Lib.hid t0; replace t1 := Lib.hid t1; replace t2 := Lib.hid t2; replace t3 := Lib.hid t3; replace t4 := Lib.hid t4; replace t5 := Lib.hid t5; replace t6 := Lib.hid t6; replace t7 := Lib.hid t7; replace t8 := Lib.hid t8; replace t9 := Lib.hid t9; replace t10 := Lib.hid t10
  clear hl ha hb hd hlW haW hbW hdW hfl
  have hgW := grow_cell W
  go_enter Tryz.func3, Tryz.ntmps3
  go_wp2_with (first | (go_at_call 4; refine Calls.mono (kC.out _) ?_; rintro e w1 ⟨rfl, hB⟩; (first | (obtain ⟨g, rfl⟩ := g.next hB) | (obtain ⟨g, rfl⟩ : ∃ g : Grow W, w1 = g.x := ⟨⟨w1, hB⟩, rfl⟩)); clear hB) | (go_at_call 5; refine Calls.mono (kS.out _) ?_; rintro e w1 ⟨rfl, hB⟩; (first | (obtain ⟨g, rfl⟩ := g.next hB) | (obtain ⟨g, rfl⟩ : ∃ g : Grow W, w1 = g.x := ⟨⟨w1, hB⟩, rfl⟩)); clear hB) | (go_at_call 6; refine Calls.mono (kO.out _) ?_; rintro e w1 ⟨rfl, hB⟩; (first | (obtain ⟨g, rfl⟩ := g.next hB) | (obtain ⟨g, rfl⟩ : ∃ g : Grow W, w1 = g.x := ⟨⟨w1, hB⟩, rfl⟩)); clear hB) | (go_at_call 7; refine Calls.mono (kH.out _) ?_; rintro e w1 ⟨rfl, hB⟩; (first | (obtain ⟨g, rfl⟩ := g.next hB) | (obtain ⟨g, rfl⟩ : ∃ g : Grow W, w1 = g.x := ⟨⟨w1, hB⟩, rfl⟩)); clear hB) | (go_at_call 8; refine Calls.mono (kT.out _) ?_; rintro e w1 ⟨rfl, hB⟩; (first | (obtain ⟨g, rfl⟩ := g.next hB) | (obtain ⟨g, rfl⟩ : ∃ g : Grow W, w1 = g.x := ⟨⟨w1, hB⟩, rfl⟩)); clear hB) | (go_at_call 9; (with_reducible refine Calls.mono (kK.out _) ?_); rintro e w9 ⟨rfl, hB9⟩))
  go_ret
  exact ⟨rfl, below_tr hBw (below_tr g.h hB9)⟩
set_option maxRecDepth 100000 in
set_option maxHeartbeats 16000000 in
theorem gateBalanced11 (c : Gas.Cav) (s : Gas.St) (lv : Value) (xs : List Gas.Op) (p : Gas.Pt) (av : Value) (xa : List Int) (bv : Value) (xb : List Int) (dv : Value) (wd : List Int) (size since : Int) (w : World)
    (hl : G.OpsAt w lv xs) (hfl : G.Fits lv) (ha : G.IntsAt w av xa) (hfa : G.Fits av) (hb : G.IntsAt w bv xb) (hfb : G.Fits bv) (hd : G.IntsAt w dv wd) (t0 : xs.length ≤ 12) (t1 : 1 ≤ xs.length) (t2 : xa.length ≤ 20) (t3 : xb.length ≤ 20) (t4 : wd.length = xs.length) (t5 : c.ok = true) (t6 : s.ok = true) (t7 : Gas.opsB xs = true) (t8 : Gas.hasB s p = true) (t9 : Gas.truthB xs xa xb = true) (t10 : 1 ≤ size) (t11 : ¬ size ≤ 1000) :
    Calls Tryz.prog 3 #[G.cavV c, G.stV s, lv, G.ptV p, av, bv, dv, .int .i64 size, .int .i64 since] w fun e w' => e = .returned (.bool true) ∧ Below w.heap.size w w' := by
  have kK := Lib.hid (fun X => known11 X)
  have hfl' := hfl
  obtain ⟨la, ln, lc, rfl, hlc1, hlc2⟩ := hfl'
  obtain rfl : ln = xs.length := by obtain ⟨a', c', e, -⟩ := hl; simp only [Value.slice.injEq] at e; exact e.2.1
  obtain ⟨aa, an, ac, rfl, hac1, hac2⟩ := hfa
  obtain rfl : an = xa.length := by obtain ⟨a', c', e, -⟩ := ha; simp only [Value.slice.injEq] at e; exact e.2.1
  obtain ⟨ba, bn, bc, rfl, hbc1, hbc2⟩ := hfb
  obtain rfl : bn = xb.length := by obtain ⟨a', c', e, -⟩ := hb; simp only [Value.slice.injEq] at e; exact e.2.1
  have hd' := hd
  obtain ⟨da, dc, rfl, hdm, -⟩ := hd'
  unfold maxLen at hlc2 hac2 hbc2 hdm
  obtain ⟨W1, hW1⟩ : ∃ W1, w.alloc (.cells #[.int .i64 c.vlo, .int .i64 c.vhi, .int .i64 c.least, .int .i64 c.most, .int .i64 c.f0, .int .i64 c.f1, .int .i64 c.h0, .int .i64 c.h1, .int .i64 c.rock, .int .i64 c.plo, .int .i64 c.phi] 26) = W1 := ⟨_, rfl⟩
  obtain ⟨eW0, bW0, sW0⟩ := boxed hW1
  have yW0_0 : w.heap.size < W1.heap.size := by omega
  obtain ⟨mW0_0_0, mW0_0_1, mW0_0_2, mW0_0_3, mW0_0_4, mW0_0_5, mW0_0_6, mW0_0_7, mW0_0_8, mW0_0_9, mW0_0_10⟩ := rc11 eW0
  obtain ⟨W2, hW2⟩ : ∃ W2, W1.alloc (.cells #[.int .i64 s.glo, .int .i64 s.ghi, .int .i64 s.ylo, .int .i64 s.yhi, .int .i64 s.tlo, .int .i64 s.thi, .int .i64 s.wlo, .int .i64 s.whi] 28) = W2 := ⟨_, rfl⟩
  obtain ⟨eW1, bW1, sW1⟩ := boxed hW2
  have yW1_0 : w.heap.size < W2.heap.size := by omega
  replace eW0 := (bW1.block _ (Array.getElem?_eq_some_iff.1 eW0).1).trans eW0
  obtain ⟨mW1_0_0, mW1_0_1, mW1_0_2, mW1_0_3, mW1_0_4, mW1_0_5, mW1_0_6, mW1_0_7, mW1_0_8, mW1_0_9, mW1_0_10⟩ := rc11 eW0
  have yW1_1 : W1.heap.size < W2.heap.size := by omega
  obtain ⟨mW1_1_0, mW1_1_1, mW1_1_2, mW1_1_3, mW1_1_4, mW1_1_5, mW1_1_6, mW1_1_7⟩ := rc8 eW1
  obtain ⟨W, hW⟩ : ∃ W, W2.alloc (.cells #[.int .i64 p.g, .int .i64 p.y, .int .i64 p.t, .int .i64 p.w] 31) = W := ⟨_, rfl⟩
  obtain ⟨eW2, bW2, sW2⟩ := boxed hW
  replace eW0 := (bW2.block _ (Array.getElem?_eq_some_iff.1 eW0).1).trans eW0
  replace eW1 := (bW2.block _ (Array.getElem?_eq_some_iff.1 eW1).1).trans eW1
  have hBw : Below w.heap.size w W := (by have := sW0; have := sW1; have := sW2; exact ((bW0.trans (bW1.mono (by omega))).trans (bW2.mono (by omega))))
  obtain ⟨zW0, rW0, tW0⟩ := row_cells eW0
  obtain ⟨qW0_0, qW0_1, qW0_2, qW0_3, qW0_4, qW0_5, qW0_6, qW0_7, qW0_8, qW0_9, qW0_10⟩ := rc11 eW0
  obtain ⟨fW0_0, fW0_1, fW0_2, fW0_3, fW0_4, fW0_5, fW0_6, fW0_7, fW0_8, fW0_9, fW0_10⟩ := rf11 eW0
  have EW0 := Lib.hid eW0
  clear rW0 tW0 eW0
  obtain ⟨zW1, rW1, tW1⟩ := row_cells eW1
  obtain ⟨qW1_0, qW1_1, qW1_2, qW1_3, qW1_4, qW1_5, qW1_6, qW1_7⟩ := rc8 eW1
  obtain ⟨fW1_0, fW1_1, fW1_2, fW1_3, fW1_4, fW1_5, fW1_6, fW1_7⟩ := rf8 eW1
  have EW1 := Lib.hid eW1
  clear rW1 tW1 eW1
  obtain ⟨zW2, rW2, tW2⟩ := row_cells eW2
  obtain ⟨qW2_0, qW2_1, qW2_2, qW2_3⟩ := rc4 eW2
  obtain ⟨fW2_0, fW2_1, fW2_2, fW2_3⟩ := rf4 eW2
  have EW2 := Lib.hid eW2
  clear rW2 tW2 eW2
  have xW0 : w.heap.size ≤ w.heap.size := by omega
  have xW1 : w.heap.size ≤ W1.heap.size := by omega
  have xW2 : w.heap.size ≤ W2.heap.size := by omega
  clear bW0 sW0 bW1 sW1 bW2 sW2
  have hlW := hl.mono hBw
  have haW := ha.mono hBw
  have hbW := hb.mono hBw
  have hdW := hd.mono hBw
  have hl9 : (xs.length : Int) ≤ 9223372036854775807 := by omega
  have ha9 : (xa.length : Int) ≤ 9223372036854775807 := by omega
  have hb9 : (xb.length : Int) ≤ 9223372036854775807 := by omega
  have hd9 : (wd.length : Int) ≤ 9223372036854775807 := by omega
  have i0 : ¬ (12 : Int) < xs.length := by omega
  have i1 : ¬ (xs.length : Int) = 0 := by omega
  have j1 : ¬ xs.length = 0 := by omega
  have l1 : ¬ xs = [] := by intro h; rw [h] at j1; exact j1 rfl
  have i2 : ¬ (20 : Int) < xa.length := by omega
  have i3 : ¬ (20 : Int) < xb.length := by omega
  have i4 : (wd.length : Int) = xs.length := by omega
  have kC : Hid (∀ X, Calls Tryz.prog 4 #[G.cavV c] X fun e w' => e = .returned (.bool true) ∧ Below X.heap.size X w') := Lib.hid (fun X => (G.refCavern c X).mono (fun e w' (h : G.BoolB _ _ e w') => h.lit t5))
  have kS : Hid (∀ X, Calls Tryz.prog 5 #[G.stV s] X fun e w' => e = .returned (.bool true) ∧ Below X.heap.size X w') := Lib.hid (fun X => (G.refState s X).mono (fun e w' (h : G.BoolB _ _ e w') => h.lit t6))
  have kO : Hid (∀ g : Grow W, Calls Tryz.prog 6 #[.slice la xs.length lc] g.x fun e w' => e = .returned (.bool true) ∧ Below g.x.heap.size g.x w') := Lib.hid (fun g => (G.refOps _ xs g.x (hlW.mono g.h)).mono (fun e w' h => ⟨h.1.trans (bool_ret t7), h.2⟩))
  have kH : Hid (∀ X, Calls Tryz.prog 7 #[G.stV s, G.ptV p] X fun e w' => e = .returned (.bool true) ∧ Below X.heap.size X w') := Lib.hid (fun X => (G.refHas s p X).mono (fun e w' (h : G.BoolB _ _ e w') => h.lit t8))
  have kT : Hid (∀ g : Grow W, Calls Tryz.prog 8 #[.slice la xs.length lc, .slice aa xa.length ac, .slice ba xb.length bc] g.x fun e w' => e = .returned (.bool true) ∧ Below g.x.heap.size g.x w') := Lib.hid (fun g => (G.refTruth _ _ _ xs xa xb g.x (hlW.mono g.h) (haW.mono g.h) (hbW.mono g.h)).mono (fun e w' h => ⟨h.1.trans (bool_ret t9), h.2⟩))
  have i10 : ¬ size < 1 := by omega
  have i11 : (1000 : Int) < size := by omega
  replace t0 := Lib.hid t0; replace t1 := Lib.hid t1; replace t2 := Lib.hid t2; replace t3 := Lib.hid t3; replace t4 := Lib.hid t4; replace t5 := Lib.hid t5; replace t6 := Lib.hid t6; replace t7 := Lib.hid t7; replace t8 := Lib.hid t8; replace t9 := Lib.hid t9; replace t10 := Lib.hid t10; replace t11 := Lib.hid t11
  clear hl ha hb hd hlW haW hbW hdW hfl
  have hgW := grow_cell W
  go_enter Tryz.func3, Tryz.ntmps3
  go_wp2_with (first | (go_at_call 4; refine Calls.mono (kC.out _) ?_; rintro e w1 ⟨rfl, hB⟩; (first | (obtain ⟨g, rfl⟩ := g.next hB) | (obtain ⟨g, rfl⟩ : ∃ g : Grow W, w1 = g.x := ⟨⟨w1, hB⟩, rfl⟩)); clear hB) | (go_at_call 5; refine Calls.mono (kS.out _) ?_; rintro e w1 ⟨rfl, hB⟩; (first | (obtain ⟨g, rfl⟩ := g.next hB) | (obtain ⟨g, rfl⟩ : ∃ g : Grow W, w1 = g.x := ⟨⟨w1, hB⟩, rfl⟩)); clear hB) | (go_at_call 6; refine Calls.mono (kO.out _) ?_; rintro e w1 ⟨rfl, hB⟩; (first | (obtain ⟨g, rfl⟩ := g.next hB) | (obtain ⟨g, rfl⟩ : ∃ g : Grow W, w1 = g.x := ⟨⟨w1, hB⟩, rfl⟩)); clear hB) | (go_at_call 7; refine Calls.mono (kH.out _) ?_; rintro e w1 ⟨rfl, hB⟩; (first | (obtain ⟨g, rfl⟩ := g.next hB) | (obtain ⟨g, rfl⟩ : ∃ g : Grow W, w1 = g.x := ⟨⟨w1, hB⟩, rfl⟩)); clear hB) | (go_at_call 8; refine Calls.mono (kT.out _) ?_; rintro e w1 ⟨rfl, hB⟩; (first | (obtain ⟨g, rfl⟩ := g.next hB) | (obtain ⟨g, rfl⟩ : ∃ g : Grow W, w1 = g.x := ⟨⟨w1, hB⟩, rfl⟩)); clear hB) | (go_at_call 9; (with_reducible refine Calls.mono (kK.out _) ?_); rintro e w9 ⟨rfl, hB9⟩))
  go_ret
  exact ⟨rfl, below_tr hBw (below_tr g.h hB9)⟩
set_option maxRecDepth 100000 in
set_option maxHeartbeats 16000000 in
theorem gateBalanced12 (c : Gas.Cav) (s : Gas.St) (lv : Value) (xs : List Gas.Op) (p : Gas.Pt) (av : Value) (xa : List Int) (bv : Value) (xb : List Int) (dv : Value) (wd : List Int) (size since : Int) (w : World)
    (hl : G.OpsAt w lv xs) (hfl : G.Fits lv) (ha : G.IntsAt w av xa) (hfa : G.Fits av) (hb : G.IntsAt w bv xb) (hfb : G.Fits bv) (hd : G.IntsAt w dv wd) (t0 : xs.length ≤ 12) (t1 : 1 ≤ xs.length) (t2 : xa.length ≤ 20) (t3 : xb.length ≤ 20) (t4 : wd.length = xs.length) (t5 : c.ok = true) (t6 : s.ok = true) (t7 : Gas.opsB xs = true) (t8 : Gas.hasB s p = true) (t9 : Gas.truthB xs xa xb = true) (t10 : 1 ≤ size) (t11 : size ≤ 1000) (t12 : ¬ 0 ≤ since) :
    Calls Tryz.prog 3 #[G.cavV c, G.stV s, lv, G.ptV p, av, bv, dv, .int .i64 size, .int .i64 since] w fun e w' => e = .returned (.bool true) ∧ Below w.heap.size w w' := by
  have kK := Lib.hid (fun X => known11 X)
  have hfl' := hfl
  obtain ⟨la, ln, lc, rfl, hlc1, hlc2⟩ := hfl'
  obtain rfl : ln = xs.length := by obtain ⟨a', c', e, -⟩ := hl; simp only [Value.slice.injEq] at e; exact e.2.1
  obtain ⟨aa, an, ac, rfl, hac1, hac2⟩ := hfa
  obtain rfl : an = xa.length := by obtain ⟨a', c', e, -⟩ := ha; simp only [Value.slice.injEq] at e; exact e.2.1
  obtain ⟨ba, bn, bc, rfl, hbc1, hbc2⟩ := hfb
  obtain rfl : bn = xb.length := by obtain ⟨a', c', e, -⟩ := hb; simp only [Value.slice.injEq] at e; exact e.2.1
  have hd' := hd
  obtain ⟨da, dc, rfl, hdm, -⟩ := hd'
  unfold maxLen at hlc2 hac2 hbc2 hdm
  obtain ⟨W1, hW1⟩ : ∃ W1, w.alloc (.cells #[.int .i64 c.vlo, .int .i64 c.vhi, .int .i64 c.least, .int .i64 c.most, .int .i64 c.f0, .int .i64 c.f1, .int .i64 c.h0, .int .i64 c.h1, .int .i64 c.rock, .int .i64 c.plo, .int .i64 c.phi] 26) = W1 := ⟨_, rfl⟩
  obtain ⟨eW0, bW0, sW0⟩ := boxed hW1
  have yW0_0 : w.heap.size < W1.heap.size := by omega
  obtain ⟨mW0_0_0, mW0_0_1, mW0_0_2, mW0_0_3, mW0_0_4, mW0_0_5, mW0_0_6, mW0_0_7, mW0_0_8, mW0_0_9, mW0_0_10⟩ := rc11 eW0
  obtain ⟨W2, hW2⟩ : ∃ W2, W1.alloc (.cells #[.int .i64 s.glo, .int .i64 s.ghi, .int .i64 s.ylo, .int .i64 s.yhi, .int .i64 s.tlo, .int .i64 s.thi, .int .i64 s.wlo, .int .i64 s.whi] 28) = W2 := ⟨_, rfl⟩
  obtain ⟨eW1, bW1, sW1⟩ := boxed hW2
  have yW1_0 : w.heap.size < W2.heap.size := by omega
  replace eW0 := (bW1.block _ (Array.getElem?_eq_some_iff.1 eW0).1).trans eW0
  obtain ⟨mW1_0_0, mW1_0_1, mW1_0_2, mW1_0_3, mW1_0_4, mW1_0_5, mW1_0_6, mW1_0_7, mW1_0_8, mW1_0_9, mW1_0_10⟩ := rc11 eW0
  have yW1_1 : W1.heap.size < W2.heap.size := by omega
  obtain ⟨mW1_1_0, mW1_1_1, mW1_1_2, mW1_1_3, mW1_1_4, mW1_1_5, mW1_1_6, mW1_1_7⟩ := rc8 eW1
  obtain ⟨W, hW⟩ : ∃ W, W2.alloc (.cells #[.int .i64 p.g, .int .i64 p.y, .int .i64 p.t, .int .i64 p.w] 31) = W := ⟨_, rfl⟩
  obtain ⟨eW2, bW2, sW2⟩ := boxed hW
  replace eW0 := (bW2.block _ (Array.getElem?_eq_some_iff.1 eW0).1).trans eW0
  replace eW1 := (bW2.block _ (Array.getElem?_eq_some_iff.1 eW1).1).trans eW1
  have hBw : Below w.heap.size w W := (by have := sW0; have := sW1; have := sW2; exact ((bW0.trans (bW1.mono (by omega))).trans (bW2.mono (by omega))))
  obtain ⟨zW0, rW0, tW0⟩ := row_cells eW0
  obtain ⟨qW0_0, qW0_1, qW0_2, qW0_3, qW0_4, qW0_5, qW0_6, qW0_7, qW0_8, qW0_9, qW0_10⟩ := rc11 eW0
  obtain ⟨fW0_0, fW0_1, fW0_2, fW0_3, fW0_4, fW0_5, fW0_6, fW0_7, fW0_8, fW0_9, fW0_10⟩ := rf11 eW0
  have EW0 := Lib.hid eW0
  clear rW0 tW0 eW0
  obtain ⟨zW1, rW1, tW1⟩ := row_cells eW1
  obtain ⟨qW1_0, qW1_1, qW1_2, qW1_3, qW1_4, qW1_5, qW1_6, qW1_7⟩ := rc8 eW1
  obtain ⟨fW1_0, fW1_1, fW1_2, fW1_3, fW1_4, fW1_5, fW1_6, fW1_7⟩ := rf8 eW1
  have EW1 := Lib.hid eW1
  clear rW1 tW1 eW1
  obtain ⟨zW2, rW2, tW2⟩ := row_cells eW2
  obtain ⟨qW2_0, qW2_1, qW2_2, qW2_3⟩ := rc4 eW2
  obtain ⟨fW2_0, fW2_1, fW2_2, fW2_3⟩ := rf4 eW2
  have EW2 := Lib.hid eW2
  clear rW2 tW2 eW2
  have xW0 : w.heap.size ≤ w.heap.size := by omega
  have xW1 : w.heap.size ≤ W1.heap.size := by omega
  have xW2 : w.heap.size ≤ W2.heap.size := by omega
  clear bW0 sW0 bW1 sW1 bW2 sW2
  have hlW := hl.mono hBw
  have haW := ha.mono hBw
  have hbW := hb.mono hBw
  have hdW := hd.mono hBw
  have hl9 : (xs.length : Int) ≤ 9223372036854775807 := by omega
  have ha9 : (xa.length : Int) ≤ 9223372036854775807 := by omega
  have hb9 : (xb.length : Int) ≤ 9223372036854775807 := by omega
  have hd9 : (wd.length : Int) ≤ 9223372036854775807 := by omega
  have i0 : ¬ (12 : Int) < xs.length := by omega
  have i1 : ¬ (xs.length : Int) = 0 := by omega
  have j1 : ¬ xs.length = 0 := by omega
  have l1 : ¬ xs = [] := by intro h; rw [h] at j1; exact j1 rfl
  have i2 : ¬ (20 : Int) < xa.length := by omega
  have i3 : ¬ (20 : Int) < xb.length := by omega
  have i4 : (wd.length : Int) = xs.length := by omega
  have kC : Hid (∀ X, Calls Tryz.prog 4 #[G.cavV c] X fun e w' => e = .returned (.bool true) ∧ Below X.heap.size X w') := Lib.hid (fun X => (G.refCavern c X).mono (fun e w' (h : G.BoolB _ _ e w') => h.lit t5))
  have kS : Hid (∀ X, Calls Tryz.prog 5 #[G.stV s] X fun e w' => e = .returned (.bool true) ∧ Below X.heap.size X w') := Lib.hid (fun X => (G.refState s X).mono (fun e w' (h : G.BoolB _ _ e w') => h.lit t6))
  have kO : Hid (∀ g : Grow W, Calls Tryz.prog 6 #[.slice la xs.length lc] g.x fun e w' => e = .returned (.bool true) ∧ Below g.x.heap.size g.x w') := Lib.hid (fun g => (G.refOps _ xs g.x (hlW.mono g.h)).mono (fun e w' h => ⟨h.1.trans (bool_ret t7), h.2⟩))
  have kH : Hid (∀ X, Calls Tryz.prog 7 #[G.stV s, G.ptV p] X fun e w' => e = .returned (.bool true) ∧ Below X.heap.size X w') := Lib.hid (fun X => (G.refHas s p X).mono (fun e w' (h : G.BoolB _ _ e w') => h.lit t8))
  have kT : Hid (∀ g : Grow W, Calls Tryz.prog 8 #[.slice la xs.length lc, .slice aa xa.length ac, .slice ba xb.length bc] g.x fun e w' => e = .returned (.bool true) ∧ Below g.x.heap.size g.x w') := Lib.hid (fun g => (G.refTruth _ _ _ xs xa xb g.x (hlW.mono g.h) (haW.mono g.h) (hbW.mono g.h)).mono (fun e w' h => ⟨h.1.trans (bool_ret t9), h.2⟩))
  have i10 : ¬ size < 1 := by omega
  have i11 : ¬ (1000 : Int) < size := by omega
  have i12 : since < 0 := by omega
  replace t0 := Lib.hid t0; replace t1 := Lib.hid t1; replace t2 := Lib.hid t2; replace t3 := Lib.hid t3; replace t4 := Lib.hid t4; replace t5 := Lib.hid t5; replace t6 := Lib.hid t6; replace t7 := Lib.hid t7; replace t8 := Lib.hid t8; replace t9 := Lib.hid t9; replace t10 := Lib.hid t10; replace t11 := Lib.hid t11; replace t12 := Lib.hid t12
  clear hl ha hb hd hlW haW hbW hdW hfl
  have hgW := grow_cell W
  go_enter Tryz.func3, Tryz.ntmps3
  go_wp2_with (first | (go_at_call 4; refine Calls.mono (kC.out _) ?_; rintro e w1 ⟨rfl, hB⟩; (first | (obtain ⟨g, rfl⟩ := g.next hB) | (obtain ⟨g, rfl⟩ : ∃ g : Grow W, w1 = g.x := ⟨⟨w1, hB⟩, rfl⟩)); clear hB) | (go_at_call 5; refine Calls.mono (kS.out _) ?_; rintro e w1 ⟨rfl, hB⟩; (first | (obtain ⟨g, rfl⟩ := g.next hB) | (obtain ⟨g, rfl⟩ : ∃ g : Grow W, w1 = g.x := ⟨⟨w1, hB⟩, rfl⟩)); clear hB) | (go_at_call 6; refine Calls.mono (kO.out _) ?_; rintro e w1 ⟨rfl, hB⟩; (first | (obtain ⟨g, rfl⟩ := g.next hB) | (obtain ⟨g, rfl⟩ : ∃ g : Grow W, w1 = g.x := ⟨⟨w1, hB⟩, rfl⟩)); clear hB) | (go_at_call 7; refine Calls.mono (kH.out _) ?_; rintro e w1 ⟨rfl, hB⟩; (first | (obtain ⟨g, rfl⟩ := g.next hB) | (obtain ⟨g, rfl⟩ : ∃ g : Grow W, w1 = g.x := ⟨⟨w1, hB⟩, rfl⟩)); clear hB) | (go_at_call 8; refine Calls.mono (kT.out _) ?_; rintro e w1 ⟨rfl, hB⟩; (first | (obtain ⟨g, rfl⟩ := g.next hB) | (obtain ⟨g, rfl⟩ : ∃ g : Grow W, w1 = g.x := ⟨⟨w1, hB⟩, rfl⟩)); clear hB) | (go_at_call 9; (with_reducible refine Calls.mono (kK.out _) ?_); rintro e w9 ⟨rfl, hB9⟩))
  go_ret
  exact ⟨rfl, below_tr hBw (below_tr g.h hB9)⟩
set_option maxRecDepth 100000 in
set_option maxHeartbeats 16000000 in
theorem gateBalanced13 (c : Gas.Cav) (s : Gas.St) (lv : Value) (xs : List Gas.Op) (p : Gas.Pt) (av : Value) (xa : List Int) (bv : Value) (xb : List Int) (dv : Value) (wd : List Int) (size since : Int) (w : World)
    (hl : G.OpsAt w lv xs) (hfl : G.Fits lv) (ha : G.IntsAt w av xa) (hfa : G.Fits av) (hb : G.IntsAt w bv xb) (hfb : G.Fits bv) (hd : G.IntsAt w dv wd) (t0 : xs.length ≤ 12) (t1 : 1 ≤ xs.length) (t2 : xa.length ≤ 20) (t3 : xb.length ≤ 20) (t4 : wd.length = xs.length) (t5 : c.ok = true) (t6 : s.ok = true) (t7 : Gas.opsB xs = true) (t8 : Gas.hasB s p = true) (t9 : Gas.truthB xs xa xb = true) (t10 : 1 ≤ size) (t11 : size ≤ 1000) (t12 : 0 ≤ since) (t13 : ¬ since < xs.length) :
    Calls Tryz.prog 3 #[G.cavV c, G.stV s, lv, G.ptV p, av, bv, dv, .int .i64 size, .int .i64 since] w fun e w' => e = .returned (.bool true) ∧ Below w.heap.size w w' := by
  have kK := Lib.hid (fun X => known11 X)
  have hfl' := hfl
  obtain ⟨la, ln, lc, rfl, hlc1, hlc2⟩ := hfl'
  obtain rfl : ln = xs.length := by obtain ⟨a', c', e, -⟩ := hl; simp only [Value.slice.injEq] at e; exact e.2.1
  obtain ⟨aa, an, ac, rfl, hac1, hac2⟩ := hfa
  obtain rfl : an = xa.length := by obtain ⟨a', c', e, -⟩ := ha; simp only [Value.slice.injEq] at e; exact e.2.1
  obtain ⟨ba, bn, bc, rfl, hbc1, hbc2⟩ := hfb
  obtain rfl : bn = xb.length := by obtain ⟨a', c', e, -⟩ := hb; simp only [Value.slice.injEq] at e; exact e.2.1
  have hd' := hd
  obtain ⟨da, dc, rfl, hdm, -⟩ := hd'
  unfold maxLen at hlc2 hac2 hbc2 hdm
  obtain ⟨W1, hW1⟩ : ∃ W1, w.alloc (.cells #[.int .i64 c.vlo, .int .i64 c.vhi, .int .i64 c.least, .int .i64 c.most, .int .i64 c.f0, .int .i64 c.f1, .int .i64 c.h0, .int .i64 c.h1, .int .i64 c.rock, .int .i64 c.plo, .int .i64 c.phi] 26) = W1 := ⟨_, rfl⟩
  obtain ⟨eW0, bW0, sW0⟩ := boxed hW1
  have yW0_0 : w.heap.size < W1.heap.size := by omega
  obtain ⟨mW0_0_0, mW0_0_1, mW0_0_2, mW0_0_3, mW0_0_4, mW0_0_5, mW0_0_6, mW0_0_7, mW0_0_8, mW0_0_9, mW0_0_10⟩ := rc11 eW0
  obtain ⟨W2, hW2⟩ : ∃ W2, W1.alloc (.cells #[.int .i64 s.glo, .int .i64 s.ghi, .int .i64 s.ylo, .int .i64 s.yhi, .int .i64 s.tlo, .int .i64 s.thi, .int .i64 s.wlo, .int .i64 s.whi] 28) = W2 := ⟨_, rfl⟩
  obtain ⟨eW1, bW1, sW1⟩ := boxed hW2
  have yW1_0 : w.heap.size < W2.heap.size := by omega
  replace eW0 := (bW1.block _ (Array.getElem?_eq_some_iff.1 eW0).1).trans eW0
  obtain ⟨mW1_0_0, mW1_0_1, mW1_0_2, mW1_0_3, mW1_0_4, mW1_0_5, mW1_0_6, mW1_0_7, mW1_0_8, mW1_0_9, mW1_0_10⟩ := rc11 eW0
  have yW1_1 : W1.heap.size < W2.heap.size := by omega
  obtain ⟨mW1_1_0, mW1_1_1, mW1_1_2, mW1_1_3, mW1_1_4, mW1_1_5, mW1_1_6, mW1_1_7⟩ := rc8 eW1
  obtain ⟨W, hW⟩ : ∃ W, W2.alloc (.cells #[.int .i64 p.g, .int .i64 p.y, .int .i64 p.t, .int .i64 p.w] 31) = W := ⟨_, rfl⟩
  obtain ⟨eW2, bW2, sW2⟩ := boxed hW
  replace eW0 := (bW2.block _ (Array.getElem?_eq_some_iff.1 eW0).1).trans eW0
  replace eW1 := (bW2.block _ (Array.getElem?_eq_some_iff.1 eW1).1).trans eW1
  have hBw : Below w.heap.size w W := (by have := sW0; have := sW1; have := sW2; exact ((bW0.trans (bW1.mono (by omega))).trans (bW2.mono (by omega))))
  obtain ⟨zW0, rW0, tW0⟩ := row_cells eW0
  obtain ⟨qW0_0, qW0_1, qW0_2, qW0_3, qW0_4, qW0_5, qW0_6, qW0_7, qW0_8, qW0_9, qW0_10⟩ := rc11 eW0
  obtain ⟨fW0_0, fW0_1, fW0_2, fW0_3, fW0_4, fW0_5, fW0_6, fW0_7, fW0_8, fW0_9, fW0_10⟩ := rf11 eW0
  have EW0 := Lib.hid eW0
  clear rW0 tW0 eW0
  obtain ⟨zW1, rW1, tW1⟩ := row_cells eW1
  obtain ⟨qW1_0, qW1_1, qW1_2, qW1_3, qW1_4, qW1_5, qW1_6, qW1_7⟩ := rc8 eW1
  obtain ⟨fW1_0, fW1_1, fW1_2, fW1_3, fW1_4, fW1_5, fW1_6, fW1_7⟩ := rf8 eW1
  have EW1 := Lib.hid eW1
  clear rW1 tW1 eW1
  obtain ⟨zW2, rW2, tW2⟩ := row_cells eW2
  obtain ⟨qW2_0, qW2_1, qW2_2, qW2_3⟩ := rc4 eW2
  obtain ⟨fW2_0, fW2_1, fW2_2, fW2_3⟩ := rf4 eW2
  have EW2 := Lib.hid eW2
  clear rW2 tW2 eW2
  have xW0 : w.heap.size ≤ w.heap.size := by omega
  have xW1 : w.heap.size ≤ W1.heap.size := by omega
  have xW2 : w.heap.size ≤ W2.heap.size := by omega
  clear bW0 sW0 bW1 sW1 bW2 sW2
  have hlW := hl.mono hBw
  have haW := ha.mono hBw
  have hbW := hb.mono hBw
  have hdW := hd.mono hBw
  have hl9 : (xs.length : Int) ≤ 9223372036854775807 := by omega
  have ha9 : (xa.length : Int) ≤ 9223372036854775807 := by omega
  have hb9 : (xb.length : Int) ≤ 9223372036854775807 := by omega
  have hd9 : (wd.length : Int) ≤ 9223372036854775807 := by omega
  have i0 : ¬ (12 : Int) < xs.length := by omega
  have i1 : ¬ (xs.length : Int) = 0 := by omega
  have j1 : ¬ xs.length = 0 := by omega
  have l1 : ¬ xs = [] := by intro h; rw [h] at j1; exact j1 rfl
  have i2 : ¬ (20 : Int) < xa.length := by omega
  have i3 : ¬ (20 : Int) < xb.length := by omega
  have i4 : (wd.length : Int) = xs.length := by omega
  have kC : Hid (∀ X, Calls Tryz.prog 4 #[G.cavV c] X fun e w' => e = .returned (.bool true) ∧ Below X.heap.size X w') := Lib.hid (fun X => (G.refCavern c X).mono (fun e w' (h : G.BoolB _ _ e w') => h.lit t5))
  have kS : Hid (∀ X, Calls Tryz.prog 5 #[G.stV s] X fun e w' => e = .returned (.bool true) ∧ Below X.heap.size X w') := Lib.hid (fun X => (G.refState s X).mono (fun e w' (h : G.BoolB _ _ e w') => h.lit t6))
  have kO : Hid (∀ g : Grow W, Calls Tryz.prog 6 #[.slice la xs.length lc] g.x fun e w' => e = .returned (.bool true) ∧ Below g.x.heap.size g.x w') := Lib.hid (fun g => (G.refOps _ xs g.x (hlW.mono g.h)).mono (fun e w' h => ⟨h.1.trans (bool_ret t7), h.2⟩))
  have kH : Hid (∀ X, Calls Tryz.prog 7 #[G.stV s, G.ptV p] X fun e w' => e = .returned (.bool true) ∧ Below X.heap.size X w') := Lib.hid (fun X => (G.refHas s p X).mono (fun e w' (h : G.BoolB _ _ e w') => h.lit t8))
  have kT : Hid (∀ g : Grow W, Calls Tryz.prog 8 #[.slice la xs.length lc, .slice aa xa.length ac, .slice ba xb.length bc] g.x fun e w' => e = .returned (.bool true) ∧ Below g.x.heap.size g.x w') := Lib.hid (fun g => (G.refTruth _ _ _ xs xa xb g.x (hlW.mono g.h) (haW.mono g.h) (hbW.mono g.h)).mono (fun e w' h => ⟨h.1.trans (bool_ret t9), h.2⟩))
  have i10 : ¬ size < 1 := by omega
  have i11 : ¬ (1000 : Int) < size := by omega
  have i12 : ¬ since < 0 := by omega
  have i13 : (xs.length : Int) ≤ since := by omega
  replace t0 := Lib.hid t0; replace t1 := Lib.hid t1; replace t2 := Lib.hid t2; replace t3 := Lib.hid t3; replace t4 := Lib.hid t4; replace t5 := Lib.hid t5; replace t6 := Lib.hid t6; replace t7 := Lib.hid t7; replace t8 := Lib.hid t8; replace t9 := Lib.hid t9; replace t10 := Lib.hid t10; replace t11 := Lib.hid t11; replace t12 := Lib.hid t12; replace t13 := Lib.hid t13
  clear hl ha hb hd hlW haW hbW hdW hfl
  have hgW := grow_cell W
  go_enter Tryz.func3, Tryz.ntmps3
  go_wp2_with (first | (go_at_call 4; refine Calls.mono (kC.out _) ?_; rintro e w1 ⟨rfl, hB⟩; (first | (obtain ⟨g, rfl⟩ := g.next hB) | (obtain ⟨g, rfl⟩ : ∃ g : Grow W, w1 = g.x := ⟨⟨w1, hB⟩, rfl⟩)); clear hB) | (go_at_call 5; refine Calls.mono (kS.out _) ?_; rintro e w1 ⟨rfl, hB⟩; (first | (obtain ⟨g, rfl⟩ := g.next hB) | (obtain ⟨g, rfl⟩ : ∃ g : Grow W, w1 = g.x := ⟨⟨w1, hB⟩, rfl⟩)); clear hB) | (go_at_call 6; refine Calls.mono (kO.out _) ?_; rintro e w1 ⟨rfl, hB⟩; (first | (obtain ⟨g, rfl⟩ := g.next hB) | (obtain ⟨g, rfl⟩ : ∃ g : Grow W, w1 = g.x := ⟨⟨w1, hB⟩, rfl⟩)); clear hB) | (go_at_call 7; refine Calls.mono (kH.out _) ?_; rintro e w1 ⟨rfl, hB⟩; (first | (obtain ⟨g, rfl⟩ := g.next hB) | (obtain ⟨g, rfl⟩ : ∃ g : Grow W, w1 = g.x := ⟨⟨w1, hB⟩, rfl⟩)); clear hB) | (go_at_call 8; refine Calls.mono (kT.out _) ?_; rintro e w1 ⟨rfl, hB⟩; (first | (obtain ⟨g, rfl⟩ := g.next hB) | (obtain ⟨g, rfl⟩ : ∃ g : Grow W, w1 = g.x := ⟨⟨w1, hB⟩, rfl⟩)); clear hB) | (go_at_call 9; (with_reducible refine Calls.mono (kK.out _) ?_); rintro e w9 ⟨rfl, hB9⟩))
  go_ret
  exact ⟨rfl, below_tr hBw (below_tr g.h hB9)⟩
end Go.Proofs.YthbkcoijafehgaaGreat.L
