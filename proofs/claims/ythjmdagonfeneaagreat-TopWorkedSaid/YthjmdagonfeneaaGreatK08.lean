/- Laws and walks: GA5, GA6. -/
import Derived.Test.YthjmdagonfeneaaGreatK04
set_option maxRecDepth 100000
set_option maxHeartbeats 16000000
set_option linter.unusedVariables false
set_option linter.unusedSimpArgs false
namespace Go.Proofs.YthjmdagonfeneaaGreat.G
open Go.RowKit Go.Sd Gas
def GaveUp (w : World) (e : Ending) (w' : World) : Prop := ∃ s : ByteArray, e = .panicked [{ v := .iface 165 (.agg #[.string s]), recovered := false }] ∧ Below w.heap.size w w'
theorem GaveUp.mk {s : ByteArray} {w w' : World} (h : Below w.heap.size w w') : GaveUp w (.panicked [{ v := .iface 165 (.agg #[.string s]), recovered := false }]) w' := ⟨s, rfl, h⟩
theorem progPointT {p : Pt} {t : Bool} (w : World) (h : p.ok = t) : Calls Tryz.prog 31 #[ptV p] w fun e w' => e = .returned (.bool t) ∧ Below w.heap.size w w' :=
 (progPoint p w).mono fun e w' ⟨t', he, ht, hb⟩ => ⟨by rw [he, ← h, ← ht.out], hb⟩
theorem grow_of {W V w : World} (hb : Below W.heap.size W V) (h : w.heap.size < W.heap.size) : w.heap.size < V.heap.size := Nat.lt_of_lt_of_le h hb.size
theorem inject_nums {c : Cav} {p l : Pt} (hc : c.Ok) (hp : p.Ok) (hl : l.Wide) :
    (0 ≤ p.g * c.h0 ∧ p.g * c.h0 ≤ 100000000) ∧ (0 ≤ p.y * c.h1 ∧ p.y * c.h1 ≤ 100000000) ∧ (0 ≤ l.g * c.h0 ∧ l.g * c.h0 ≤ 10000000000) ∧ (0 ≤ l.y * c.h1 ∧ l.y * c.h1 ≤ 10000000000) ∧
    (0 ≤ (p.g * c.h0 + p.y * c.h1) * p.t ∧ (p.g * c.h0 + p.y * c.h1) * p.t ≤ 1000000000000) ∧ (0 ≤ (l.g * c.h0 + l.y * c.h1) * l.t ∧ (l.g * c.h0 + l.y * c.h1) * l.t ≤ 100000000000000) := by
 have a := bd_mul (B := 100) hp.g ⟨by have := hc.h0; omega, hc.h0.2⟩
 have b := bd_mul (B := 100) hp.y ⟨by have := hc.h1; omega, hc.h1.2⟩
 have d := bd_mul (B := 100) hl.g ⟨by have := hc.h0; omega, hc.h0.2⟩
 have e := bd_mul (B := 100) hl.y ⟨by have := hc.h1; omega, hc.h1.2⟩
 have hpt := hp.t
 have hlt := hl.t
 have f := bd_mul (A := 200000000) (B := 5000) (a := p.g * c.h0 + p.y * c.h1) (b := p.t) ⟨by omega, by omega⟩ ⟨by omega, by omega⟩
 have g := bd_mul (A := 20000000000) (B := 5000) (a := l.g * c.h0 + l.y * c.h1) (b := l.t) ⟨by omega, by omega⟩ ⟨by omega, by omega⟩
 exact ⟨⟨a.1, by omega⟩, ⟨b.1, by omega⟩, ⟨d.1, by omega⟩, ⟨e.1, by omega⟩, ⟨f.1, by omega⟩, ⟨g.1, by omega⟩⟩
theorem progInjectZY (c : Cav) (p l : Pt) (w : World) (hc : c.Ok) (hp : p.Ok) (hl : l.Wide) (hz : p.g * c.h0 + p.y * c.h1 + (l.g * c.h0 + l.y * c.h1) = 0) (hok : Pt.ok ⟨p.g + l.g, p.y + l.y, p.t, p.w + l.w⟩ = true) :
    Calls Tryz.prog 81 #[cavV c, ptV p, ptV l] w fun e w' => e = .returned (ptV ⟨p.g + l.g, p.y + l.y, p.t, p.w + l.w⟩) ∧ Below w.heap.size w w' := by
 obtain ⟨b1, b2, b3, b4, b5, b6⟩ := inject_nums hc hp hl
 have b7 := hp.g; have b8 := hp.y; have b9 := hp.w; have b10 := hl.g; have b11 := hl.y; have b12 := hl.w
 clear hc hp hl
 have hz' : decide (0 < p.g * c.h0 + p.y * c.h1 + (l.g * c.h0 + l.y * c.h1)) = false := by simp; omega
 replace hz := Lib.hid hz
 obtain ⟨W1, hW1⟩ : ∃ W1, w.alloc (.cells #[.int .i64 c.vlo, .int .i64 c.vhi, .int .i64 c.least, .int .i64 c.most, .int .i64 c.f0, .int .i64 c.f1, .int .i64 c.h0, .int .i64 c.h1, .int .i64 c.rock, .int .i64 c.plo, .int .i64 c.phi] 89) = W1 := ⟨_, rfl⟩
 obtain ⟨eW0, bW0, sW0⟩ := boxed hW1
 obtain ⟨W2, hW2⟩ : ∃ W2, W1.alloc (.cells #[.int .i64 p.g, .int .i64 p.y, .int .i64 p.t, .int .i64 p.w] 35) = W2 := ⟨_, rfl⟩
 obtain ⟨eW1, bW1, sW1⟩ := boxed hW2
 obtain ⟨W3, hW3⟩ : ∃ W3, W2.alloc (.cells #[.int .i64 l.g, .int .i64 l.y, .int .i64 l.t, .int .i64 l.w] 35) = W3 := ⟨_, rfl⟩
 obtain ⟨eW2, bW2, sW2⟩ := boxed hW3
 obtain ⟨W, hW⟩ : ∃ W, W3.alloc (.cells #[.int .i64 0, .int .i64 0, .int .i64 0, .int .i64 0] 35) = W := ⟨_, rfl⟩
 obtain ⟨eW3, bW3, sW3⟩ := boxed hW
 replace eW0 := (bW1.block _ (zqo eW0)).trans eW0
 replace eW0 := (bW2.block _ (zqo eW0)).trans eW0
 replace eW0 := (bW3.block _ (zqo eW0)).trans eW0
 replace eW1 := (bW2.block _ (zqo eW1)).trans eW1
 replace eW1 := (bW3.block _ (zqo eW1)).trans eW1
 replace eW2 := (bW3.block _ (zqo eW2)).trans eW2
 have hBw : Below w.heap.size w W := (by have := sW0; have := sW1; have := sW2; have := sW3; exact (((bW0.trans (bW1.mono (by omega))).trans (bW2.mono (by omega))).trans (bW3.mono (by omega))))
 obtain ⟨zW0, rW0, tW0⟩ := row_cells eW0
 obtain ⟨qW0_0, qW0_1, qW0_2, qW0_3, qW0_4, qW0_5, qW0_6, qW0_7, qW0_8, qW0_9, qW0_10⟩ := rc11 eW0
 obtain ⟨fW0_0, fW0_1, fW0_2, fW0_3, fW0_4, fW0_5, fW0_6, fW0_7, fW0_8, fW0_9, fW0_10⟩ := rf11 eW0
 clear rW0 tW0 eW0
 obtain ⟨zW1, rW1, tW1⟩ := row_cells eW1
 obtain ⟨qW1_0, qW1_1, qW1_2, qW1_3⟩ := rc4 eW1
 obtain ⟨fW1_0, fW1_1, fW1_2, fW1_3⟩ := rf4 eW1
 clear rW1 tW1 eW1
 obtain ⟨zW2, rW2, tW2⟩ := row_cells eW2
 obtain ⟨qW2_0, qW2_1, qW2_2, qW2_3⟩ := rc4 eW2
 obtain ⟨fW2_0, fW2_1, fW2_2, fW2_3⟩ := rf4 eW2
 clear rW2 tW2 eW2
 obtain ⟨zW3, rW3, tW3⟩ := row_cells eW3
 obtain ⟨qW3_0, qW3_1, qW3_2, qW3_3⟩ := rc4 eW3
 obtain ⟨fW3_0, fW3_1, fW3_2, fW3_3⟩ := rf4 eW3
 clear rW3 tW3 eW3
 have xW0 : w.heap.size ≤ w.heap.size := by omega
 have xW1 : w.heap.size ≤ W1.heap.size := by omega
 have xW2 : w.heap.size ≤ W2.heap.size := by omega
 have xW3 : w.heap.size ≤ W3.heap.size := by omega
 clear bW0 sW0 bW1 sW1 bW2 sW2 bW3 sW3
 have hg := grow_cell W
 go_enter Tryz.func81, Tryz.ntmps81
 go_wp2
 refine wp_region_grow (by kernel_rfl) (by kernel_rfl) ?_
 repeat (go_big_quiet_step (fail))
 refine wpQuiet_nil ?_
 rintro _ ⟨g, rfl⟩
 have hWg := g.h
 have y0 := g.lt zW0
 have y1 := g.lt zW1
 have y2 := g.lt zW2
 have y3 := g.lt zW3
 obtain ⟨V, hV⟩ : ∃ V, g.x.alloc (.cells #[.int .i64 (p.g + l.g), .int .i64 (p.y + l.y), .int .i64 (p.t), .int .i64 (p.w + l.w)] 35) = V := ⟨_, rfl⟩
 obtain ⟨eV0, bV0, sV0⟩ := boxed hV
 have hBV : Below g.x.heap.size g.x V := bV0
 obtain ⟨zV0, rV0, tV0⟩ := row_cells eV0
 obtain ⟨qV0_0, qV0_1, qV0_2, qV0_3⟩ := rc4 eV0
 obtain ⟨fV0_0, fV0_1, fV0_2, fV0_3⟩ := rf4 eV0
 clear rV0 tV0 eV0
 have xV0 : g.x.heap.size ≤ g.x.heap.size := by omega
 clear bV0 sV0
 have hWV : Below W.heap.size W V := hWg.trans (hBV.mono g.size)
 have v0 := grow_of hWV zW0
 have v1 := grow_of hWV zW1
 have v2 := grow_of hWV zW2
 have v3 := grow_of hWV zW3
 have hVc := below_cell hWV
 have hVf := below_frozen hWV
 have hgV := grow_cell V
 have hgF := grow_frozen V
 have hP := Lib.hid (fun (w' : World) => progPointT w' hok)
 clear hok
 go_wp2_with (go_at_call 31; refine Calls.mono (hP.out _) ?_; rintro e w1 ⟨rfl, hB⟩; obtain ⟨g', rfl⟩ : ∃ g' : Grow V, w1 = g'.x := ⟨⟨w1, hB⟩, rfl⟩; clear hB)
 refine bodyPost_ret (v := ptV ⟨p.g + l.g, p.y + l.y, p.t, p.w + l.w⟩) (by simp [results, Tryz.results81, go_sem, *]) rfl ⟨rfl, ?_⟩
 have hfin : Below w.heap.size w g'.x := hBw.trans ((hWV.trans (g'.h.mono hWV.size)).mono hBw.size)
 have hle : w.heap.size ≤ W3.heap.size := xW3
 repeat' (first | exact hfin | exact hle | refine Below.setCell ?_ ?_ _)
theorem progInjectZN (c : Cav) (p l : Pt) (w : World) (hc : c.Ok) (hp : p.Ok) (hl : l.Wide) (hz : p.g * c.h0 + p.y * c.h1 + (l.g * c.h0 + l.y * c.h1) = 0) (hok : Pt.ok ⟨p.g + l.g, p.y + l.y, p.t, p.w + l.w⟩ = false) :
    Calls Tryz.prog 81 #[cavV c, ptV p, ptV l] w (GaveUp w) := by
 obtain ⟨b1, b2, b3, b4, b5, b6⟩ := inject_nums hc hp hl
 have b7 := hp.g; have b8 := hp.y; have b9 := hp.w; have b10 := hl.g; have b11 := hl.y; have b12 := hl.w
 clear hc hp hl
 have hz' : decide (0 < p.g * c.h0 + p.y * c.h1 + (l.g * c.h0 + l.y * c.h1)) = false := by simp; omega
 replace hz := Lib.hid hz
 obtain ⟨W1, hW1⟩ : ∃ W1, w.alloc (.cells #[.int .i64 c.vlo, .int .i64 c.vhi, .int .i64 c.least, .int .i64 c.most, .int .i64 c.f0, .int .i64 c.f1, .int .i64 c.h0, .int .i64 c.h1, .int .i64 c.rock, .int .i64 c.plo, .int .i64 c.phi] 89) = W1 := ⟨_, rfl⟩
 obtain ⟨eW0, bW0, sW0⟩ := boxed hW1
 obtain ⟨W2, hW2⟩ : ∃ W2, W1.alloc (.cells #[.int .i64 p.g, .int .i64 p.y, .int .i64 p.t, .int .i64 p.w] 35) = W2 := ⟨_, rfl⟩
 obtain ⟨eW1, bW1, sW1⟩ := boxed hW2
 obtain ⟨W3, hW3⟩ : ∃ W3, W2.alloc (.cells #[.int .i64 l.g, .int .i64 l.y, .int .i64 l.t, .int .i64 l.w] 35) = W3 := ⟨_, rfl⟩
 obtain ⟨eW2, bW2, sW2⟩ := boxed hW3
 obtain ⟨W, hW⟩ : ∃ W, W3.alloc (.cells #[.int .i64 0, .int .i64 0, .int .i64 0, .int .i64 0] 35) = W := ⟨_, rfl⟩
 obtain ⟨eW3, bW3, sW3⟩ := boxed hW
 replace eW0 := (bW1.block _ (zqo eW0)).trans eW0
 replace eW0 := (bW2.block _ (zqo eW0)).trans eW0
 replace eW0 := (bW3.block _ (zqo eW0)).trans eW0
 replace eW1 := (bW2.block _ (zqo eW1)).trans eW1
 replace eW1 := (bW3.block _ (zqo eW1)).trans eW1
 replace eW2 := (bW3.block _ (zqo eW2)).trans eW2
 have hBw : Below w.heap.size w W := (by have := sW0; have := sW1; have := sW2; have := sW3; exact (((bW0.trans (bW1.mono (by omega))).trans (bW2.mono (by omega))).trans (bW3.mono (by omega))))
 obtain ⟨zW0, rW0, tW0⟩ := row_cells eW0
 obtain ⟨qW0_0, qW0_1, qW0_2, qW0_3, qW0_4, qW0_5, qW0_6, qW0_7, qW0_8, qW0_9, qW0_10⟩ := rc11 eW0
 obtain ⟨fW0_0, fW0_1, fW0_2, fW0_3, fW0_4, fW0_5, fW0_6, fW0_7, fW0_8, fW0_9, fW0_10⟩ := rf11 eW0
 clear rW0 tW0 eW0
 obtain ⟨zW1, rW1, tW1⟩ := row_cells eW1
 obtain ⟨qW1_0, qW1_1, qW1_2, qW1_3⟩ := rc4 eW1
 obtain ⟨fW1_0, fW1_1, fW1_2, fW1_3⟩ := rf4 eW1
 clear rW1 tW1 eW1
 obtain ⟨zW2, rW2, tW2⟩ := row_cells eW2
 obtain ⟨qW2_0, qW2_1, qW2_2, qW2_3⟩ := rc4 eW2
 obtain ⟨fW2_0, fW2_1, fW2_2, fW2_3⟩ := rf4 eW2
 clear rW2 tW2 eW2
 obtain ⟨zW3, rW3, tW3⟩ := row_cells eW3
 obtain ⟨qW3_0, qW3_1, qW3_2, qW3_3⟩ := rc4 eW3
 obtain ⟨fW3_0, fW3_1, fW3_2, fW3_3⟩ := rf4 eW3
 clear rW3 tW3 eW3
 have xW0 : w.heap.size ≤ w.heap.size := by omega
 have xW1 : w.heap.size ≤ W1.heap.size := by omega
 have xW2 : w.heap.size ≤ W2.heap.size := by omega
 have xW3 : w.heap.size ≤ W3.heap.size := by omega
 clear bW0 sW0 bW1 sW1 bW2 sW2 bW3 sW3
 have hg := grow_cell W
 go_enter Tryz.func81, Tryz.ntmps81
 go_wp2
 refine wp_region_grow (by kernel_rfl) (by kernel_rfl) ?_
 repeat (go_big_quiet_step (fail))
 refine wpQuiet_nil ?_
 rintro _ ⟨g, rfl⟩
 have hWg := g.h
 have y0 := g.lt zW0
 have y1 := g.lt zW1
 have y2 := g.lt zW2
 have y3 := g.lt zW3
 obtain ⟨V, hV⟩ : ∃ V, g.x.alloc (.cells #[.int .i64 (p.g + l.g), .int .i64 (p.y + l.y), .int .i64 (p.t), .int .i64 (p.w + l.w)] 35) = V := ⟨_, rfl⟩
 obtain ⟨eV0, bV0, sV0⟩ := boxed hV
 have hBV : Below g.x.heap.size g.x V := bV0
 obtain ⟨zV0, rV0, tV0⟩ := row_cells eV0
 obtain ⟨qV0_0, qV0_1, qV0_2, qV0_3⟩ := rc4 eV0
 obtain ⟨fV0_0, fV0_1, fV0_2, fV0_3⟩ := rf4 eV0
 clear rV0 tV0 eV0
 have xV0 : g.x.heap.size ≤ g.x.heap.size := by omega
 clear bV0 sV0
 have hWV : Below W.heap.size W V := hWg.trans (hBV.mono g.size)
 have v0 := grow_of hWV zW0
 have v1 := grow_of hWV zW1
 have v2 := grow_of hWV zW2
 have v3 := grow_of hWV zW3
 have hVc := below_cell hWV
 have hVf := below_frozen hWV
 have hgV := grow_cell V
 have hgF := grow_frozen V
 have hP := Lib.hid (fun (w' : World) => progPointT w' hok)
 clear hok
 go_wp2_with (go_at_call 31; refine Calls.mono (hP.out _) ?_; rintro e w1 ⟨rfl, hB⟩; obtain ⟨g', rfl⟩ : ∃ g' : Grow V, w1 = g'.x := ⟨⟨w1, hB⟩, rfl⟩; clear hB)
 exact ⟨rfl, GaveUp.mk (hBw.trans ((hWV.trans (g'.h.mono hWV.size)).mono hBw.size))⟩
theorem progInjectPY (c : Cav) (p l : Pt) (w : World) (hc : c.Ok) (hp : p.Ok) (hl : l.Wide) (hz : 0 < p.g * c.h0 + p.y * c.h1 + (l.g * c.h0 + l.y * c.h1)) (hok : Pt.ok ⟨p.g + l.g, p.y + l.y, ((p.g * c.h0 + p.y * c.h1) * p.t + (l.g * c.h0 + l.y * c.h1) * l.t) / (p.g * c.h0 + p.y * c.h1 + (l.g * c.h0 + l.y * c.h1)), p.w + l.w⟩ = true) :
    Calls Tryz.prog 81 #[cavV c, ptV p, ptV l] w fun e w' => e = .returned (ptV ⟨p.g + l.g, p.y + l.y, ((p.g * c.h0 + p.y * c.h1) * p.t + (l.g * c.h0 + l.y * c.h1) * l.t) / (p.g * c.h0 + p.y * c.h1 + (l.g * c.h0 + l.y * c.h1)), p.w + l.w⟩) ∧ Below w.heap.size w w' := by
 obtain ⟨b1, b2, b3, b4, b5, b6⟩ := inject_nums hc hp hl
 have b7 := hp.g; have b8 := hp.y; have b9 := hp.w; have b10 := hl.g; have b11 := hl.y; have b12 := hl.w
 clear hc hp hl
 have hq0 : 0 ≤ ((p.g * c.h0 + p.y * c.h1) * p.t + (l.g * c.h0 + l.y * c.h1) * l.t) / (p.g * c.h0 + p.y * c.h1 + (l.g * c.h0 + l.y * c.h1)) := Int.ediv_nonneg (by omega) (by omega)
 have hq1 : ((p.g * c.h0 + p.y * c.h1) * p.t + (l.g * c.h0 + l.y * c.h1) * l.t) / (p.g * c.h0 + p.y * c.h1 + (l.g * c.h0 + l.y * c.h1)) ≤ (p.g * c.h0 + p.y * c.h1) * p.t + (l.g * c.h0 + l.y * c.h1) * l.t := Int.ediv_le_self _ (by omega)
 obtain ⟨W1, hW1⟩ : ∃ W1, w.alloc (.cells #[.int .i64 c.vlo, .int .i64 c.vhi, .int .i64 c.least, .int .i64 c.most, .int .i64 c.f0, .int .i64 c.f1, .int .i64 c.h0, .int .i64 c.h1, .int .i64 c.rock, .int .i64 c.plo, .int .i64 c.phi] 89) = W1 := ⟨_, rfl⟩
 obtain ⟨eW0, bW0, sW0⟩ := boxed hW1
 obtain ⟨W2, hW2⟩ : ∃ W2, W1.alloc (.cells #[.int .i64 p.g, .int .i64 p.y, .int .i64 p.t, .int .i64 p.w] 35) = W2 := ⟨_, rfl⟩
 obtain ⟨eW1, bW1, sW1⟩ := boxed hW2
 obtain ⟨W3, hW3⟩ : ∃ W3, W2.alloc (.cells #[.int .i64 l.g, .int .i64 l.y, .int .i64 l.t, .int .i64 l.w] 35) = W3 := ⟨_, rfl⟩
 obtain ⟨eW2, bW2, sW2⟩ := boxed hW3
 obtain ⟨W, hW⟩ : ∃ W, W3.alloc (.cells #[.int .i64 0, .int .i64 0, .int .i64 0, .int .i64 0] 35) = W := ⟨_, rfl⟩
 obtain ⟨eW3, bW3, sW3⟩ := boxed hW
 replace eW0 := (bW1.block _ (zqo eW0)).trans eW0
 replace eW0 := (bW2.block _ (zqo eW0)).trans eW0
 replace eW0 := (bW3.block _ (zqo eW0)).trans eW0
 replace eW1 := (bW2.block _ (zqo eW1)).trans eW1
 replace eW1 := (bW3.block _ (zqo eW1)).trans eW1
 replace eW2 := (bW3.block _ (zqo eW2)).trans eW2
 have hBw : Below w.heap.size w W := (by have := sW0; have := sW1; have := sW2; have := sW3; exact (((bW0.trans (bW1.mono (by omega))).trans (bW2.mono (by omega))).trans (bW3.mono (by omega))))
 obtain ⟨zW0, rW0, tW0⟩ := row_cells eW0
 obtain ⟨qW0_0, qW0_1, qW0_2, qW0_3, qW0_4, qW0_5, qW0_6, qW0_7, qW0_8, qW0_9, qW0_10⟩ := rc11 eW0
 obtain ⟨fW0_0, fW0_1, fW0_2, fW0_3, fW0_4, fW0_5, fW0_6, fW0_7, fW0_8, fW0_9, fW0_10⟩ := rf11 eW0
 clear rW0 tW0 eW0
 obtain ⟨zW1, rW1, tW1⟩ := row_cells eW1
 obtain ⟨qW1_0, qW1_1, qW1_2, qW1_3⟩ := rc4 eW1
 obtain ⟨fW1_0, fW1_1, fW1_2, fW1_3⟩ := rf4 eW1
 clear rW1 tW1 eW1
 obtain ⟨zW2, rW2, tW2⟩ := row_cells eW2
 obtain ⟨qW2_0, qW2_1, qW2_2, qW2_3⟩ := rc4 eW2
 obtain ⟨fW2_0, fW2_1, fW2_2, fW2_3⟩ := rf4 eW2
 clear rW2 tW2 eW2
 obtain ⟨zW3, rW3, tW3⟩ := row_cells eW3
 obtain ⟨qW3_0, qW3_1, qW3_2, qW3_3⟩ := rc4 eW3
 obtain ⟨fW3_0, fW3_1, fW3_2, fW3_3⟩ := rf4 eW3
 clear rW3 tW3 eW3
 have xW0 : w.heap.size ≤ w.heap.size := by omega
 have xW1 : w.heap.size ≤ W1.heap.size := by omega
 have xW2 : w.heap.size ≤ W2.heap.size := by omega
 have xW3 : w.heap.size ≤ W3.heap.size := by omega
 clear bW0 sW0 bW1 sW1 bW2 sW2 bW3 sW3
 have hg := grow_cell W
 go_enter Tryz.func81, Tryz.ntmps81
 go_wp2
 refine wp_region_grow (by kernel_rfl) (by kernel_rfl) ?_
 repeat (go_big_quiet_step (fail))
 refine wpQuiet_nil ?_
 rintro _ ⟨g, rfl⟩
 have hWg := g.h
 have y0 := g.lt zW0
 have y1 := g.lt zW1
 have y2 := g.lt zW2
 have y3 := g.lt zW3
 obtain ⟨V, hV⟩ : ∃ V, g.x.alloc (.cells #[.int .i64 (p.g + l.g), .int .i64 (p.y + l.y), .int .i64 (((p.g * c.h0 + p.y * c.h1) * p.t + (l.g * c.h0 + l.y * c.h1) * l.t) / (p.g * c.h0 + p.y * c.h1 + (l.g * c.h0 + l.y * c.h1))), .int .i64 (p.w + l.w)] 35) = V := ⟨_, rfl⟩
 obtain ⟨eV0, bV0, sV0⟩ := boxed hV
 have hBV : Below g.x.heap.size g.x V := bV0
 obtain ⟨zV0, rV0, tV0⟩ := row_cells eV0
 obtain ⟨qV0_0, qV0_1, qV0_2, qV0_3⟩ := rc4 eV0
 obtain ⟨fV0_0, fV0_1, fV0_2, fV0_3⟩ := rf4 eV0
 clear rV0 tV0 eV0
 have xV0 : g.x.heap.size ≤ g.x.heap.size := by omega
 clear bV0 sV0
 have hWV : Below W.heap.size W V := hWg.trans (hBV.mono g.size)
 have v0 := grow_of hWV zW0
 have v1 := grow_of hWV zW1
 have v2 := grow_of hWV zW2
 have v3 := grow_of hWV zW3
 have hVc := below_cell hWV
 have hVf := below_frozen hWV
 have hgV := grow_cell V
 have hgF := grow_frozen V
 have hP := Lib.hid (fun (w' : World) => progPointT w' hok)
 clear hok
 go_wp2_with (go_at_call 31; refine Calls.mono (hP.out _) ?_; rintro e w1 ⟨rfl, hB⟩; obtain ⟨g', rfl⟩ : ∃ g' : Grow V, w1 = g'.x := ⟨⟨w1, hB⟩, rfl⟩; clear hB)
 refine bodyPost_ret (v := ptV ⟨p.g + l.g, p.y + l.y, ((p.g * c.h0 + p.y * c.h1) * p.t + (l.g * c.h0 + l.y * c.h1) * l.t) / (p.g * c.h0 + p.y * c.h1 + (l.g * c.h0 + l.y * c.h1)), p.w + l.w⟩) (by simp [results, Tryz.results81, go_sem, *]) rfl ⟨rfl, ?_⟩
 have hfin : Below w.heap.size w g'.x := hBw.trans ((hWV.trans (g'.h.mono hWV.size)).mono hBw.size)
 have hle : w.heap.size ≤ W3.heap.size := xW3
 repeat' (first | exact hfin | exact hle | refine Below.setCell ?_ ?_ _)
theorem progInjectPN (c : Cav) (p l : Pt) (w : World) (hc : c.Ok) (hp : p.Ok) (hl : l.Wide) (hz : 0 < p.g * c.h0 + p.y * c.h1 + (l.g * c.h0 + l.y * c.h1)) (hok : Pt.ok ⟨p.g + l.g, p.y + l.y, ((p.g * c.h0 + p.y * c.h1) * p.t + (l.g * c.h0 + l.y * c.h1) * l.t) / (p.g * c.h0 + p.y * c.h1 + (l.g * c.h0 + l.y * c.h1)), p.w + l.w⟩ = false) :
    Calls Tryz.prog 81 #[cavV c, ptV p, ptV l] w (GaveUp w) := by
 obtain ⟨b1, b2, b3, b4, b5, b6⟩ := inject_nums hc hp hl
 have b7 := hp.g; have b8 := hp.y; have b9 := hp.w; have b10 := hl.g; have b11 := hl.y; have b12 := hl.w
 clear hc hp hl
 have hq0 : 0 ≤ ((p.g * c.h0 + p.y * c.h1) * p.t + (l.g * c.h0 + l.y * c.h1) * l.t) / (p.g * c.h0 + p.y * c.h1 + (l.g * c.h0 + l.y * c.h1)) := Int.ediv_nonneg (by omega) (by omega)
 have hq1 : ((p.g * c.h0 + p.y * c.h1) * p.t + (l.g * c.h0 + l.y * c.h1) * l.t) / (p.g * c.h0 + p.y * c.h1 + (l.g * c.h0 + l.y * c.h1)) ≤ (p.g * c.h0 + p.y * c.h1) * p.t + (l.g * c.h0 + l.y * c.h1) * l.t := Int.ediv_le_self _ (by omega)
 obtain ⟨W1, hW1⟩ : ∃ W1, w.alloc (.cells #[.int .i64 c.vlo, .int .i64 c.vhi, .int .i64 c.least, .int .i64 c.most, .int .i64 c.f0, .int .i64 c.f1, .int .i64 c.h0, .int .i64 c.h1, .int .i64 c.rock, .int .i64 c.plo, .int .i64 c.phi] 89) = W1 := ⟨_, rfl⟩
 obtain ⟨eW0, bW0, sW0⟩ := boxed hW1
 obtain ⟨W2, hW2⟩ : ∃ W2, W1.alloc (.cells #[.int .i64 p.g, .int .i64 p.y, .int .i64 p.t, .int .i64 p.w] 35) = W2 := ⟨_, rfl⟩
 obtain ⟨eW1, bW1, sW1⟩ := boxed hW2
 obtain ⟨W3, hW3⟩ : ∃ W3, W2.alloc (.cells #[.int .i64 l.g, .int .i64 l.y, .int .i64 l.t, .int .i64 l.w] 35) = W3 := ⟨_, rfl⟩
 obtain ⟨eW2, bW2, sW2⟩ := boxed hW3
 obtain ⟨W, hW⟩ : ∃ W, W3.alloc (.cells #[.int .i64 0, .int .i64 0, .int .i64 0, .int .i64 0] 35) = W := ⟨_, rfl⟩
 obtain ⟨eW3, bW3, sW3⟩ := boxed hW
 replace eW0 := (bW1.block _ (zqo eW0)).trans eW0
 replace eW0 := (bW2.block _ (zqo eW0)).trans eW0
 replace eW0 := (bW3.block _ (zqo eW0)).trans eW0
 replace eW1 := (bW2.block _ (zqo eW1)).trans eW1
 replace eW1 := (bW3.block _ (zqo eW1)).trans eW1
 replace eW2 := (bW3.block _ (zqo eW2)).trans eW2
 have hBw : Below w.heap.size w W := (by have := sW0; have := sW1; have := sW2; have := sW3; exact (((bW0.trans (bW1.mono (by omega))).trans (bW2.mono (by omega))).trans (bW3.mono (by omega))))
 obtain ⟨zW0, rW0, tW0⟩ := row_cells eW0
 obtain ⟨qW0_0, qW0_1, qW0_2, qW0_3, qW0_4, qW0_5, qW0_6, qW0_7, qW0_8, qW0_9, qW0_10⟩ := rc11 eW0
 obtain ⟨fW0_0, fW0_1, fW0_2, fW0_3, fW0_4, fW0_5, fW0_6, fW0_7, fW0_8, fW0_9, fW0_10⟩ := rf11 eW0
 clear rW0 tW0 eW0
 obtain ⟨zW1, rW1, tW1⟩ := row_cells eW1
 obtain ⟨qW1_0, qW1_1, qW1_2, qW1_3⟩ := rc4 eW1
 obtain ⟨fW1_0, fW1_1, fW1_2, fW1_3⟩ := rf4 eW1
 clear rW1 tW1 eW1
 obtain ⟨zW2, rW2, tW2⟩ := row_cells eW2
 obtain ⟨qW2_0, qW2_1, qW2_2, qW2_3⟩ := rc4 eW2
 obtain ⟨fW2_0, fW2_1, fW2_2, fW2_3⟩ := rf4 eW2
 clear rW2 tW2 eW2
 obtain ⟨zW3, rW3, tW3⟩ := row_cells eW3
 obtain ⟨qW3_0, qW3_1, qW3_2, qW3_3⟩ := rc4 eW3
 obtain ⟨fW3_0, fW3_1, fW3_2, fW3_3⟩ := rf4 eW3
 clear rW3 tW3 eW3
 have xW0 : w.heap.size ≤ w.heap.size := by omega
 have xW1 : w.heap.size ≤ W1.heap.size := by omega
 have xW2 : w.heap.size ≤ W2.heap.size := by omega
 have xW3 : w.heap.size ≤ W3.heap.size := by omega
 clear bW0 sW0 bW1 sW1 bW2 sW2 bW3 sW3
 have hg := grow_cell W
 go_enter Tryz.func81, Tryz.ntmps81
 go_wp2
 refine wp_region_grow (by kernel_rfl) (by kernel_rfl) ?_
 repeat (go_big_quiet_step (fail))
 refine wpQuiet_nil ?_
 rintro _ ⟨g, rfl⟩
 have hWg := g.h
 have y0 := g.lt zW0
 have y1 := g.lt zW1
 have y2 := g.lt zW2
 have y3 := g.lt zW3
 obtain ⟨V, hV⟩ : ∃ V, g.x.alloc (.cells #[.int .i64 (p.g + l.g), .int .i64 (p.y + l.y), .int .i64 (((p.g * c.h0 + p.y * c.h1) * p.t + (l.g * c.h0 + l.y * c.h1) * l.t) / (p.g * c.h0 + p.y * c.h1 + (l.g * c.h0 + l.y * c.h1))), .int .i64 (p.w + l.w)] 35) = V := ⟨_, rfl⟩
 obtain ⟨eV0, bV0, sV0⟩ := boxed hV
 have hBV : Below g.x.heap.size g.x V := bV0
 obtain ⟨zV0, rV0, tV0⟩ := row_cells eV0
 obtain ⟨qV0_0, qV0_1, qV0_2, qV0_3⟩ := rc4 eV0
 obtain ⟨fV0_0, fV0_1, fV0_2, fV0_3⟩ := rf4 eV0
 clear rV0 tV0 eV0
 have xV0 : g.x.heap.size ≤ g.x.heap.size := by omega
 clear bV0 sV0
 have hWV : Below W.heap.size W V := hWg.trans (hBV.mono g.size)
 have v0 := grow_of hWV zW0
 have v1 := grow_of hWV zW1
 have v2 := grow_of hWV zW2
 have v3 := grow_of hWV zW3
 have hVc := below_cell hWV
 have hVf := below_frozen hWV
 have hgV := grow_cell V
 have hgF := grow_frozen V
 have hP := Lib.hid (fun (w' : World) => progPointT w' hok)
 clear hok
 go_wp2_with (go_at_call 31; refine Calls.mono (hP.out _) ?_; rintro e w1 ⟨rfl, hB⟩; obtain ⟨g', rfl⟩ : ∃ g' : Grow V, w1 = g'.x := ⟨⟨w1, hB⟩, rfl⟩; clear hB)
 exact ⟨rfl, GaveUp.mk (hBw.trans ((hWV.trans (g'.h.mono hWV.size)).mono hBw.size))⟩
end Go.Proofs.YthjmdagonfeneaaGreat.G
set_option linter.unusedVariables false
set_option linter.unusedSimpArgs false
namespace Go.Proofs.YthjmdagonfeneaaGreat.G
open Go.RowKit Go.Sd Gas
theorem progWithdrawN (c : Cav) (p : Pt) (m : Int) (w : World) (hp : p.Ok) (hm : 0 ≤ m ∧ m ≤ 100000000) (h : p.g + p.y < m) :
    Calls Tryz.prog 82 #[cavV c, ptV p, .int .i64 m] w (GaveUp w) := by
 have b7 := hp.g; have b8 := hp.y; have b9 := hp.w
 clear hp
 obtain ⟨W1, hW1⟩ : ∃ W1, w.alloc (.cells #[.int .i64 c.vlo, .int .i64 c.vhi, .int .i64 c.least, .int .i64 c.most, .int .i64 c.f0, .int .i64 c.f1, .int .i64 c.h0, .int .i64 c.h1, .int .i64 c.rock, .int .i64 c.plo, .int .i64 c.phi] 89) = W1 := ⟨_, rfl⟩
 obtain ⟨eW0, bW0, sW0⟩ := boxed hW1
 obtain ⟨W2, hW2⟩ : ∃ W2, W1.alloc (.cells #[.int .i64 p.g, .int .i64 p.y, .int .i64 p.t, .int .i64 p.w] 35) = W2 := ⟨_, rfl⟩
 obtain ⟨eW1, bW1, sW1⟩ := boxed hW2
 obtain ⟨W3, hW3⟩ : ∃ W3, W2.alloc (.cells #[.int .i64 0, .int .i64 0, .int .i64 0, .int .i64 0] 35) = W3 := ⟨_, rfl⟩
 obtain ⟨eW2, bW2, sW2⟩ := boxed hW3
 obtain ⟨W, hW⟩ : ∃ W, W3.alloc (.cells #[.int .i64 0, .int .i64 0, .int .i64 0, .int .i64 0] 35) = W := ⟨_, rfl⟩
 obtain ⟨eW3, bW3, sW3⟩ := boxed hW
 replace eW0 := (bW1.block _ (zqo eW0)).trans eW0
 replace eW0 := (bW2.block _ (zqo eW0)).trans eW0
 replace eW0 := (bW3.block _ (zqo eW0)).trans eW0
 replace eW1 := (bW2.block _ (zqo eW1)).trans eW1
 replace eW1 := (bW3.block _ (zqo eW1)).trans eW1
 replace eW2 := (bW3.block _ (zqo eW2)).trans eW2
 have hBw : Below w.heap.size w W := (by have := sW0; have := sW1; have := sW2; have := sW3; exact (((bW0.trans (bW1.mono (by omega))).trans (bW2.mono (by omega))).trans (bW3.mono (by omega))))
 obtain ⟨zW0, rW0, tW0⟩ := row_cells eW0
 obtain ⟨qW0_0, qW0_1, qW0_2, qW0_3, qW0_4, qW0_5, qW0_6, qW0_7, qW0_8, qW0_9, qW0_10⟩ := rc11 eW0
 clear rW0 tW0 eW0
 obtain ⟨zW1, rW1, tW1⟩ := row_cells eW1
 obtain ⟨qW1_0, qW1_1, qW1_2, qW1_3⟩ := rc4 eW1
 clear rW1 tW1 eW1
 obtain ⟨zW2, rW2, tW2⟩ := row_cells eW2
 obtain ⟨qW2_0, qW2_1, qW2_2, qW2_3⟩ := rc4 eW2
 clear rW2 tW2 eW2
 obtain ⟨zW3, rW3, tW3⟩ := row_cells eW3
 obtain ⟨qW3_0, qW3_1, qW3_2, qW3_3⟩ := rc4 eW3
 clear rW3 tW3 eW3
 have xW0 : w.heap.size ≤ w.heap.size := by omega
 have xW1 : w.heap.size ≤ W1.heap.size := by omega
 have xW2 : w.heap.size ≤ W2.heap.size := by omega
 have xW3 : w.heap.size ≤ W3.heap.size := by omega
 clear bW0 sW0 bW1 sW1 bW2 sW2 bW3 sW3
 go_enter Tryz.func82, Tryz.ntmps82
 go_wp2
 exact ⟨rfl, GaveUp.mk hBw⟩
theorem progRestY (c : Cav) (p : Pt) (s x : Int) (w : World) (hc : c.Ok) (hp : p.Ok) (hs : 0 ≤ s ∧ s ≤ 1000) (hx : 0 ≤ x ∧ x ≤ 1000000) (hok : (rest c p s x).ok = true) :
    Calls Tryz.prog 83 #[cavV c, ptV p, .int .i64 s, .int .i64 x] w fun e w' => e = .returned (ptV (rest c p s x)) ∧ Below w.heap.size w w' := by
 have b7 := hp.g; have b8 := hp.y; have b9 := hp.w; have b10 := hp.t; have b11 := hc.rock
 have m1 : -3000000 ≤ (c.rock - p.t) * s ∧ (c.rock - p.t) * s ≤ 3000000 := by
  have a := Int.mul_le_mul_of_nonneg_right (show c.rock - p.t ≤ 3000 by omega) hs.1
  have b := Int.mul_le_mul_of_nonneg_right (show -3000 ≤ c.rock - p.t by omega) hs.1
  omega
 have hq : -3000 ≤ ((c.rock - p.t) * s).tdiv 1000 ∧ ((c.rock - p.t) * s).tdiv 1000 ≤ 3000 := by rw [tdiv_k]; split <;> omega
 have hR : Hid (rest c p s x = ⟨p.g, p.y, p.t + ((c.rock - p.t) * s).tdiv 1000, p.w + x⟩) := rfl
 rw [hR.out] at hok
 clear hc hp
 obtain ⟨V1, hV1⟩ : ∃ V1, w.alloc (.cells #[.int .i64 c.vlo, .int .i64 c.vhi, .int .i64 c.least, .int .i64 c.most, .int .i64 c.f0, .int .i64 c.f1, .int .i64 c.h0, .int .i64 c.h1, .int .i64 c.rock, .int .i64 c.plo, .int .i64 c.phi] 89) = V1 := ⟨_, rfl⟩
 obtain ⟨eV0, bV0, sV0⟩ := boxed hV1
 have yV0_0 : w.heap.size < V1.heap.size := by omega
 obtain ⟨mV0_0_0, mV0_0_1, mV0_0_2, mV0_0_3, mV0_0_4, mV0_0_5, mV0_0_6, mV0_0_7, mV0_0_8, mV0_0_9, mV0_0_10⟩ := rc11 eV0
 obtain ⟨V2, hV2⟩ : ∃ V2, V1.alloc (.cells #[.int .i64 p.g, .int .i64 p.y, .int .i64 (p.t + ((c.rock - p.t) * s).tdiv 1000), .int .i64 (p.w + x)] 35) = V2 := ⟨_, rfl⟩
 obtain ⟨eV1, bV1, sV1⟩ := boxed hV2
 have yV1_0 : w.heap.size < V2.heap.size := by omega
 replace eV0 := (bV1.block _ (zqo eV0)).trans eV0
 obtain ⟨mV1_0_0, mV1_0_1, mV1_0_2, mV1_0_3, mV1_0_4, mV1_0_5, mV1_0_6, mV1_0_7, mV1_0_8, mV1_0_9, mV1_0_10⟩ := rc11 eV0
 have yV1_1 : V1.heap.size < V2.heap.size := by omega
 obtain ⟨mV1_1_0, mV1_1_1, mV1_1_2, mV1_1_3⟩ := rc4 eV1
 obtain ⟨V, hV⟩ : ∃ V, V2.alloc (.cells #[.int .i64 0, .int .i64 0, .int .i64 0, .int .i64 0] 35) = V := ⟨_, rfl⟩
 obtain ⟨eV2, bV2, sV2⟩ := boxed hV
 replace eV0 := (bV2.block _ (zqo eV0)).trans eV0
 replace eV1 := (bV2.block _ (zqo eV1)).trans eV1
 have hBV : Below w.heap.size w V := (by have := sV0; have := sV1; have := sV2; exact ((bV0.trans (bV1.mono (by omega))).trans (bV2.mono (by omega))))
 obtain ⟨zV0, rV0, tV0⟩ := row_cells eV0
 obtain ⟨qV0_0, qV0_1, qV0_2, qV0_3, qV0_4, qV0_5, qV0_6, qV0_7, qV0_8, qV0_9, qV0_10⟩ := rc11 eV0
 obtain ⟨fV0_0, fV0_1, fV0_2, fV0_3, fV0_4, fV0_5, fV0_6, fV0_7, fV0_8, fV0_9, fV0_10⟩ := rf11 eV0
 clear rV0 tV0 eV0
 obtain ⟨zV1, rV1, tV1⟩ := row_cells eV1
 obtain ⟨qV1_0, qV1_1, qV1_2, qV1_3⟩ := rc4 eV1
 obtain ⟨fV1_0, fV1_1, fV1_2, fV1_3⟩ := rf4 eV1
 clear rV1 tV1 eV1
 obtain ⟨zV2, rV2, tV2⟩ := row_cells eV2
 obtain ⟨qV2_0, qV2_1, qV2_2, qV2_3⟩ := rc4 eV2
 obtain ⟨fV2_0, fV2_1, fV2_2, fV2_3⟩ := rf4 eV2
 clear rV2 tV2 eV2
 have xV0 : w.heap.size ≤ w.heap.size := by omega
 have xV1 : w.heap.size ≤ V1.heap.size := by omega
 have xV2 : w.heap.size ≤ V2.heap.size := by omega
 clear bV0 sV0 bV1 sV1 bV2 sV2
 have e2 : V2.heap.size = V1.heap.size + 1 := by rw [← hV2]; simp
 rw [e2] at qV2_0 qV2_1 qV2_2 qV2_3 fV2_0 fV2_1 fV2_2 fV2_3 zV2 xV2
 clear e2
 have hgV := grow_cell V
 have hgF := grow_frozen V
 have hP := Lib.hid (fun (w' : World) => progPointT w' hok)
 clear hok
 go_enter Tryz.func83, Tryz.ntmps83
 go_wp2_with (go_at_call 31; refine Calls.mono (hP.out _) ?_; rintro e w1 ⟨rfl, hB⟩; obtain ⟨g', rfl⟩ : ∃ g' : Grow V, w1 = g'.x := ⟨⟨w1, hB⟩, rfl⟩; clear hB)
 refine bodyPost_ret (v := ptV (rest c p s x)) (by rw [hR.out]; simp [results, Tryz.results83, go_sem, *]) rfl ⟨rfl, ?_⟩
 have hfin : Below w.heap.size w g'.x := hBV.trans (g'.h.mono hBV.size)
 repeat' (first | exact hfin | exact xV2 | refine Below.setCell ?_ ?_ _)
theorem progRestN (c : Cav) (p : Pt) (s x : Int) (w : World) (hc : c.Ok) (hp : p.Ok) (hs : 0 ≤ s ∧ s ≤ 1000) (hx : 0 ≤ x ∧ x ≤ 1000000) (hok : (rest c p s x).ok = false) :
    Calls Tryz.prog 83 #[cavV c, ptV p, .int .i64 s, .int .i64 x] w (GaveUp w) := by
 have b7 := hp.g; have b8 := hp.y; have b9 := hp.w; have b10 := hp.t; have b11 := hc.rock
 have m1 : -3000000 ≤ (c.rock - p.t) * s ∧ (c.rock - p.t) * s ≤ 3000000 := by
  have a := Int.mul_le_mul_of_nonneg_right (show c.rock - p.t ≤ 3000 by omega) hs.1
  have b := Int.mul_le_mul_of_nonneg_right (show -3000 ≤ c.rock - p.t by omega) hs.1
  omega
 have hq : -3000 ≤ ((c.rock - p.t) * s).tdiv 1000 ∧ ((c.rock - p.t) * s).tdiv 1000 ≤ 3000 := by rw [tdiv_k]; split <;> omega
 have hR : Hid (rest c p s x = ⟨p.g, p.y, p.t + ((c.rock - p.t) * s).tdiv 1000, p.w + x⟩) := rfl
 rw [hR.out] at hok
 clear hc hp
 obtain ⟨V1, hV1⟩ : ∃ V1, w.alloc (.cells #[.int .i64 c.vlo, .int .i64 c.vhi, .int .i64 c.least, .int .i64 c.most, .int .i64 c.f0, .int .i64 c.f1, .int .i64 c.h0, .int .i64 c.h1, .int .i64 c.rock, .int .i64 c.plo, .int .i64 c.phi] 89) = V1 := ⟨_, rfl⟩
 obtain ⟨eV0, bV0, sV0⟩ := boxed hV1
 have yV0_0 : w.heap.size < V1.heap.size := by omega
 obtain ⟨mV0_0_0, mV0_0_1, mV0_0_2, mV0_0_3, mV0_0_4, mV0_0_5, mV0_0_6, mV0_0_7, mV0_0_8, mV0_0_9, mV0_0_10⟩ := rc11 eV0
 obtain ⟨V2, hV2⟩ : ∃ V2, V1.alloc (.cells #[.int .i64 p.g, .int .i64 p.y, .int .i64 (p.t + ((c.rock - p.t) * s).tdiv 1000), .int .i64 (p.w + x)] 35) = V2 := ⟨_, rfl⟩
 obtain ⟨eV1, bV1, sV1⟩ := boxed hV2
 have yV1_0 : w.heap.size < V2.heap.size := by omega
 replace eV0 := (bV1.block _ (zqo eV0)).trans eV0
 obtain ⟨mV1_0_0, mV1_0_1, mV1_0_2, mV1_0_3, mV1_0_4, mV1_0_5, mV1_0_6, mV1_0_7, mV1_0_8, mV1_0_9, mV1_0_10⟩ := rc11 eV0
 have yV1_1 : V1.heap.size < V2.heap.size := by omega
 obtain ⟨mV1_1_0, mV1_1_1, mV1_1_2, mV1_1_3⟩ := rc4 eV1
 obtain ⟨V, hV⟩ : ∃ V, V2.alloc (.cells #[.int .i64 0, .int .i64 0, .int .i64 0, .int .i64 0] 35) = V := ⟨_, rfl⟩
 obtain ⟨eV2, bV2, sV2⟩ := boxed hV
 replace eV0 := (bV2.block _ (zqo eV0)).trans eV0
 replace eV1 := (bV2.block _ (zqo eV1)).trans eV1
 have hBV : Below w.heap.size w V := (by have := sV0; have := sV1; have := sV2; exact ((bV0.trans (bV1.mono (by omega))).trans (bV2.mono (by omega))))
 obtain ⟨zV0, rV0, tV0⟩ := row_cells eV0
 obtain ⟨qV0_0, qV0_1, qV0_2, qV0_3, qV0_4, qV0_5, qV0_6, qV0_7, qV0_8, qV0_9, qV0_10⟩ := rc11 eV0
 obtain ⟨fV0_0, fV0_1, fV0_2, fV0_3, fV0_4, fV0_5, fV0_6, fV0_7, fV0_8, fV0_9, fV0_10⟩ := rf11 eV0
 clear rV0 tV0 eV0
 obtain ⟨zV1, rV1, tV1⟩ := row_cells eV1
 obtain ⟨qV1_0, qV1_1, qV1_2, qV1_3⟩ := rc4 eV1
 obtain ⟨fV1_0, fV1_1, fV1_2, fV1_3⟩ := rf4 eV1
 clear rV1 tV1 eV1
 obtain ⟨zV2, rV2, tV2⟩ := row_cells eV2
 obtain ⟨qV2_0, qV2_1, qV2_2, qV2_3⟩ := rc4 eV2
 obtain ⟨fV2_0, fV2_1, fV2_2, fV2_3⟩ := rf4 eV2
 clear rV2 tV2 eV2
 have xV0 : w.heap.size ≤ w.heap.size := by omega
 have xV1 : w.heap.size ≤ V1.heap.size := by omega
 have xV2 : w.heap.size ≤ V2.heap.size := by omega
 clear bV0 sV0 bV1 sV1 bV2 sV2
 have e2 : V2.heap.size = V1.heap.size + 1 := by rw [← hV2]; simp
 rw [e2] at qV2_0 qV2_1 qV2_2 qV2_3 fV2_0 fV2_1 fV2_2 fV2_3 zV2 xV2
 clear e2
 have hgV := grow_cell V
 have hgF := grow_frozen V
 have hP := Lib.hid (fun (w' : World) => progPointT w' hok)
 clear hok
 go_enter Tryz.func83, Tryz.ntmps83
 go_wp2_with (go_at_call 31; refine Calls.mono (hP.out _) ?_; rintro e w1 ⟨rfl, hB⟩; obtain ⟨g', rfl⟩ : ∃ g' : Grow V, w1 = g'.x := ⟨⟨w1, hB⟩, rfl⟩; clear hB)
 exact ⟨rfl, GaveUp.mk (hBV.trans (g'.h.mono hBV.size))⟩
end Go.Proofs.YthjmdagonfeneaaGreat.G
