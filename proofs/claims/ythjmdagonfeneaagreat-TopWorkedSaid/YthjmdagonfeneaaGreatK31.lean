/- Laws and walks: GPr2, GDo, GDo2, GTru. -/
import Derived.Test.YthjmdagonfeneaaGreatK15
set_option maxRecDepth 100000
set_option maxHeartbeats 16000000
set_option linter.unusedVariables false
set_option linter.unusedSimpArgs false
namespace Go.Proofs.YthjmdagonfeneaaGreat.G
open Go.RowKit Go.Sd Gas
theorem refKeeps (c : Cav) (p : Pt) (v : Int) (w : World) (hc : c.Ok) (hp : p.Ok) (hv : 1 ≤ v ∧ v ≤ 1000000) :
    Calls Tryz.prog 50 #[cavV c, ptV p, .int .i64 v] w fun e w' => e = .returned (.int .i64 (keeps c p v)) ∧ Below w.heap.size w w' := by
 have hg := hp.g; have hy := hp.y
 have ht : 0 ≤ p.t ∧ p.t ≤ 5000 := by have := hp.t; omega
 have kF := Lib.hid (fun w => refForce c p w hc hg hy ht)
 have n1 := force_nn hc hg hy ht
 obtain ⟨m1, m2⟩ := mul_bd hc hv
 have hpu := hc.pur
 have m3 : 0 ≤ c.plo * (p.g + p.y) ∧ c.plo * (p.g + p.y) ≤ 2000000000 := by
  have := bd_mul (A := 1000) (B := 2000000) (a := c.plo) (b := p.g + p.y) ⟨by omega, by omega⟩ ⟨by omega, by omega⟩
  exact ⟨this.1, by omega⟩
 have m4 : 0 ≤ c.phi * (p.g + p.y) ∧ c.phi * (p.g + p.y) ≤ 2000000000 := by
  have := bd_mul (A := 1000) (B := 2000000) (a := c.phi) (b := p.g + p.y) ⟨by omega, by omega⟩ ⟨by omega, by omega⟩
  exact ⟨this.1, by omega⟩
 have hk : Hid (keeps c p v = if force c p < c.least * v * 10000000 then 2 else if force c p > c.most * v * 10000000 then 3 else if 1000 * p.y < c.plo * (p.g + p.y) then 4 else if 1000 * p.y > c.phi * (p.g + p.y) then 5 else 1) := Lib.hid rfl
 clear hc hp ht
 generalize force c p = F at *
 rw [hk.out]
 clear hk
 obtain ⟨W1, hW1⟩ : ∃ W1, w.alloc (.cells #[.int .i64 c.vlo, .int .i64 c.vhi, .int .i64 c.least, .int .i64 c.most, .int .i64 c.f0, .int .i64 c.f1, .int .i64 c.h0, .int .i64 c.h1, .int .i64 c.rock, .int .i64 c.plo, .int .i64 c.phi] 31) = W1 := ⟨_, rfl⟩
 obtain ⟨eW0, bW0, sW0⟩ := boxed hW1
 obtain ⟨W, hW⟩ : ∃ W, W1.alloc (.cells #[.int .i64 p.g, .int .i64 p.y, .int .i64 p.t, .int .i64 p.w] 35) = W := ⟨_, rfl⟩
 obtain ⟨eW1, bW1, sW1⟩ := boxed hW
 replace eW0 := (bW1.block _ (zqo eW0)).trans eW0
 have hBw : Below w.heap.size w W := (by have := sW0; have := sW1; exact (bW0.trans (bW1.mono (by omega))))
 obtain ⟨zW0, rW0, tW0⟩ := row_cells eW0
 obtain ⟨qW0_0, qW0_1, qW0_2, qW0_3, qW0_4, qW0_5, qW0_6, qW0_7, qW0_8, qW0_9, qW0_10⟩ := rc11 eW0
 clear rW0 tW0 eW0
 obtain ⟨zW1, rW1, tW1⟩ := row_cells eW1
 obtain ⟨qW1_0, qW1_1, qW1_2, qW1_3⟩ := rc4 eW1
 clear rW1 tW1 eW1
 have xW0 : w.heap.size ≤ w.heap.size := by omega
 have xW1 : w.heap.size ≤ W1.heap.size := by omega
 clear bW0 sW0 bW1 sW1
 have hgc := grow_cell W
 by_cases h1 : F < c.least * v * 10000000
 · rw [if_pos h1]
   go_enter Tryz.func50, Tryz.ntmps50
   go_wp2
   refine wp_region_grow (by kernel_rfl) (by kernel_rfl) ?_
   repeat (go_big_quiet_step ((first | (go_at_call 84; with_reducible exact Calls.grow (kF.out _)))))
   refine wpQuiet_nil ?_
   rintro _ ⟨g, rfl⟩
   go_wp2
   go_ret
   exact ⟨rfl, hBw.trans (g.h.mono hBw.size)⟩
 rw [if_neg h1]
 by_cases h2 : F > c.most * v * 10000000
 · rw [if_pos h2]
   go_enter Tryz.func50, Tryz.ntmps50
   go_wp2
   refine wp_region_grow (by kernel_rfl) (by kernel_rfl) ?_
   repeat (go_big_quiet_step ((first | (go_at_call 84; with_reducible exact Calls.grow (kF.out _)))))
   refine wpQuiet_nil ?_
   rintro _ ⟨g, rfl⟩
   go_wp2
   have hgg : ∀ (h : Grow g.x) (b o : Nat), b < W.heap.size → h.x.cell? ⟨b, o, none⟩ = W.cell? ⟨b, o, none⟩ := fun h b o hb => (grow_cell g.x h b o (Nat.lt_of_lt_of_le hb g.size)).trans (grow_cell W g b o hb)
   refine wp_region_grow (by kernel_rfl) (by kernel_rfl) ?_
   repeat (go_big_quiet_step ((first | (go_at_call 84; with_reducible exact Calls.grow (kF.out _)))))
   refine wpQuiet_nil ?_
   rintro _ ⟨gx, rfl⟩
   clear hgg
   obtain ⟨g, hg⟩ := g.next gx.h
   rw [hg]
   clear hg gx
   go_wp2
   go_ret
   exact ⟨rfl, hBw.trans (g.h.mono hBw.size)⟩
 rw [if_neg h2]
 by_cases h3 : 1000 * p.y < c.plo * (p.g + p.y)
 · rw [if_pos h3]
   go_enter Tryz.func50, Tryz.ntmps50
   go_wp2
   refine wp_region_grow (by kernel_rfl) (by kernel_rfl) ?_
   repeat (go_big_quiet_step ((first | (go_at_call 84; with_reducible exact Calls.grow (kF.out _)))))
   refine wpQuiet_nil ?_
   rintro _ ⟨g, rfl⟩
   go_wp2
   have hgg : ∀ (h : Grow g.x) (b o : Nat), b < W.heap.size → h.x.cell? ⟨b, o, none⟩ = W.cell? ⟨b, o, none⟩ := fun h b o hb => (grow_cell g.x h b o (Nat.lt_of_lt_of_le hb g.size)).trans (grow_cell W g b o hb)
   refine wp_region_grow (by kernel_rfl) (by kernel_rfl) ?_
   repeat (go_big_quiet_step ((first | (go_at_call 84; with_reducible exact Calls.grow (kF.out _)))))
   refine wpQuiet_nil ?_
   rintro _ ⟨gx, rfl⟩
   clear hgg
   obtain ⟨g, hg⟩ := g.next gx.h
   rw [hg]
   clear hg gx
   go_wp2
   go_ret
   exact ⟨rfl, hBw.trans (g.h.mono hBw.size)⟩
 rw [if_neg h3]
 by_cases h4 : 1000 * p.y > c.phi * (p.g + p.y)
 · rw [if_pos h4]
   go_enter Tryz.func50, Tryz.ntmps50
   go_wp2
   refine wp_region_grow (by kernel_rfl) (by kernel_rfl) ?_
   repeat (go_big_quiet_step ((first | (go_at_call 84; with_reducible exact Calls.grow (kF.out _)))))
   refine wpQuiet_nil ?_
   rintro _ ⟨g, rfl⟩
   go_wp2
   have hgg : ∀ (h : Grow g.x) (b o : Nat), b < W.heap.size → h.x.cell? ⟨b, o, none⟩ = W.cell? ⟨b, o, none⟩ := fun h b o hb => (grow_cell g.x h b o (Nat.lt_of_lt_of_le hb g.size)).trans (grow_cell W g b o hb)
   refine wp_region_grow (by kernel_rfl) (by kernel_rfl) ?_
   repeat (go_big_quiet_step ((first | (go_at_call 84; with_reducible exact Calls.grow (kF.out _)))))
   refine wpQuiet_nil ?_
   rintro _ ⟨gx, rfl⟩
   clear hgg
   obtain ⟨g, hg⟩ := g.next gx.h
   rw [hg]
   clear hg gx
   go_wp2
   go_ret
   exact ⟨rfl, hBw.trans (g.h.mono hBw.size)⟩
 · rw [if_neg h4]
   go_enter Tryz.func50, Tryz.ntmps50
   go_wp2
   refine wp_region_grow (by kernel_rfl) (by kernel_rfl) ?_
   repeat (go_big_quiet_step ((first | (go_at_call 84; with_reducible exact Calls.grow (kF.out _)))))
   refine wpQuiet_nil ?_
   rintro _ ⟨g, rfl⟩
   go_wp2
   have hgg : ∀ (h : Grow g.x) (b o : Nat), b < W.heap.size → h.x.cell? ⟨b, o, none⟩ = W.cell? ⟨b, o, none⟩ := fun h b o hb => (grow_cell g.x h b o (Nat.lt_of_lt_of_le hb g.size)).trans (grow_cell W g b o hb)
   refine wp_region_grow (by kernel_rfl) (by kernel_rfl) ?_
   repeat (go_big_quiet_step ((first | (go_at_call 84; with_reducible exact Calls.grow (kF.out _)))))
   refine wpQuiet_nil ?_
   rintro _ ⟨gx, rfl⟩
   clear hgg
   obtain ⟨g, hg⟩ := g.next gx.h
   rw [hg]
   clear hg gx
   go_wp2
   go_ret
   exact ⟨rfl, hBw.trans (g.h.mono hBw.size)⟩
end Go.Proofs.YthjmdagonfeneaaGreat.G
set_option linter.unusedVariables false
set_option linter.unusedSimpArgs false
namespace Go.Proofs.YthjmdagonfeneaaGreat.G
open Go.RowKit Go.Sd Gas
theorem validT {c : Cav} {t : Bool} (w : World) (h : c.ok = t) : Calls Tryz.prog 29 #[cavV c] w fun e w' => e = .returned (.bool t) ∧ Below w.heap.size w w' :=
 (progValid c w).mono fun e w' ⟨t', he, ht, hb⟩ => ⟨by rw [he, ← h, ← ht.out], hb⟩
theorem stateT {s : St} {t : Bool} (w : World) (h : s.ok = t) : Calls Tryz.prog 30 #[stV s] w fun e w' => e = .returned (.bool t) ∧ Below w.heap.size w w' :=
 (progState s w).mono fun e w' ⟨t', he, ht, hb⟩ => ⟨by rw [he, ← h, ← ht.out], hb⟩
theorem opT {o : Gas.Op} {t : Bool} (w : World) (h : o.ok = t) : Calls Tryz.prog 59 #[opV o] w fun e w' => e = .returned (.bool t) ∧ Below w.heap.size w w' :=
 (progOp o w).mono fun e w' ⟨t', he, ht, hb⟩ => ⟨by rw [he, ← h, ← ht.out], hb⟩
end Go.Proofs.YthjmdagonfeneaaGreat.G
set_option linter.unusedVariables false
set_option linter.unusedSimpArgs false
namespace Go.Proofs.YthjmdagonfeneaaGreat.G
open Go.RowKit Go.Sd Gas
theorem progDoSome {c : Cav} {s : St} {o : Gas.Op} {n : St} {q : Gas.Out} (w : World) (hc : c.ok = true) (hs : s.ok = true) (ho : o.ok = true) (ha : act c s o = some (n, q)) :
    Calls Tryz.prog 25 #[cavV c, stV s, opV o] w fun e w' => e = .returned (.tuple #[stV n, outV q, .int .i64 0]) ∧ Below w.heap.size w w' := by
 obtain ⟨W1, hW1⟩ : ∃ W1, w.alloc (.cells #[.int .i64 c.vlo, .int .i64 c.vhi, .int .i64 c.least, .int .i64 c.most, .int .i64 c.f0, .int .i64 c.f1, .int .i64 c.h0, .int .i64 c.h1, .int .i64 c.rock, .int .i64 c.plo, .int .i64 c.phi] 31) = W1 := ⟨_, rfl⟩
 obtain ⟨eW0, bW0, sW0⟩ := boxed hW1
 have yW0_0 : w.heap.size < W1.heap.size := by omega
 obtain ⟨mW0_0_0, mW0_0_1, mW0_0_2, mW0_0_3, mW0_0_4, mW0_0_5, mW0_0_6, mW0_0_7, mW0_0_8, mW0_0_9, mW0_0_10⟩ := rc11 eW0
 obtain ⟨W2, hW2⟩ : ∃ W2, W1.alloc (.cells #[.int .i64 s.glo, .int .i64 s.ghi, .int .i64 s.ylo, .int .i64 s.yhi, .int .i64 s.tlo, .int .i64 s.thi, .int .i64 s.wlo, .int .i64 s.whi] 33) = W2 := ⟨_, rfl⟩
 obtain ⟨eW1, bW1, sW1⟩ := boxed hW2
 have yW1_0 : w.heap.size < W2.heap.size := by omega
 replace eW0 := (bW1.block _ (zqo eW0)).trans eW0
 obtain ⟨mW1_0_0, mW1_0_1, mW1_0_2, mW1_0_3, mW1_0_4, mW1_0_5, mW1_0_6, mW1_0_7, mW1_0_8, mW1_0_9, mW1_0_10⟩ := rc11 eW0
 have yW1_1 : W1.heap.size < W2.heap.size := by omega
 obtain ⟨mW1_1_0, mW1_1_1, mW1_1_2, mW1_1_3, mW1_1_4, mW1_1_5, mW1_1_6, mW1_1_7⟩ := rc8 eW1
 obtain ⟨W3, hW3⟩ : ∃ W3, W2.alloc (.cells #[.int .i64 o.kind, .int .i64 o.lg, .int .i64 o.ly, .int .i64 o.lt, .int .i64 o.lw, .int .i64 o.moles, .int .i64 o.slo, .int .i64 o.shi, .int .i64 o.wlo, .int .i64 o.whi] 83) = W3 := ⟨_, rfl⟩
 obtain ⟨eW2, bW2, sW2⟩ := boxed hW3
 have yW2_0 : w.heap.size < W3.heap.size := by omega
 replace eW0 := (bW2.block _ (zqo eW0)).trans eW0
 obtain ⟨mW2_0_0, mW2_0_1, mW2_0_2, mW2_0_3, mW2_0_4, mW2_0_5, mW2_0_6, mW2_0_7, mW2_0_8, mW2_0_9, mW2_0_10⟩ := rc11 eW0
 have yW2_1 : W1.heap.size < W3.heap.size := by omega
 replace eW1 := (bW2.block _ (zqo eW1)).trans eW1
 obtain ⟨mW2_1_0, mW2_1_1, mW2_1_2, mW2_1_3, mW2_1_4, mW2_1_5, mW2_1_6, mW2_1_7⟩ := rc8 eW1
 have yW2_2 : W2.heap.size < W3.heap.size := by omega
 obtain ⟨mW2_2_0, mW2_2_1, mW2_2_2, mW2_2_3, mW2_2_4, mW2_2_5, mW2_2_6, mW2_2_7, mW2_2_8, mW2_2_9⟩ := rc10 eW2
 obtain ⟨W4, hW4⟩ : ∃ W4, W3.alloc (.cells #[.int .i64 0, .int .i64 0, .int .i64 0, .int .i64 0, .int .i64 0, .int .i64 0, .int .i64 0, .int .i64 0] 33) = W4 := ⟨_, rfl⟩
 obtain ⟨eW3, bW3, sW3⟩ := boxed hW4
 have yW3_0 : w.heap.size < W4.heap.size := by omega
 replace eW0 := (bW3.block _ (zqo eW0)).trans eW0
 obtain ⟨mW3_0_0, mW3_0_1, mW3_0_2, mW3_0_3, mW3_0_4, mW3_0_5, mW3_0_6, mW3_0_7, mW3_0_8, mW3_0_9, mW3_0_10⟩ := rc11 eW0
 have yW3_1 : W1.heap.size < W4.heap.size := by omega
 replace eW1 := (bW3.block _ (zqo eW1)).trans eW1
 obtain ⟨mW3_1_0, mW3_1_1, mW3_1_2, mW3_1_3, mW3_1_4, mW3_1_5, mW3_1_6, mW3_1_7⟩ := rc8 eW1
 have yW3_2 : W2.heap.size < W4.heap.size := by omega
 replace eW2 := (bW3.block _ (zqo eW2)).trans eW2
 obtain ⟨mW3_2_0, mW3_2_1, mW3_2_2, mW3_2_3, mW3_2_4, mW3_2_5, mW3_2_6, mW3_2_7, mW3_2_8, mW3_2_9⟩ := rc10 eW2
 have yW3_3 : W3.heap.size < W4.heap.size := by omega
 obtain ⟨mW3_3_0, mW3_3_1, mW3_3_2, mW3_3_3, mW3_3_4, mW3_3_5, mW3_3_6, mW3_3_7⟩ := rc8 eW3
 obtain ⟨W5, hW5⟩ : ∃ W5, W4.alloc (.cells #[.int .i64 0, .int .i64 0, .int .i64 0, .int .i64 0, .int .i64 0, .int .i64 0] 76) = W5 := ⟨_, rfl⟩
 obtain ⟨eW4, bW4, sW4⟩ := boxed hW5
 have yW4_0 : w.heap.size < W5.heap.size := by omega
 replace eW0 := (bW4.block _ (zqo eW0)).trans eW0
 obtain ⟨mW4_0_0, mW4_0_1, mW4_0_2, mW4_0_3, mW4_0_4, mW4_0_5, mW4_0_6, mW4_0_7, mW4_0_8, mW4_0_9, mW4_0_10⟩ := rc11 eW0
 have yW4_1 : W1.heap.size < W5.heap.size := by omega
 replace eW1 := (bW4.block _ (zqo eW1)).trans eW1
 obtain ⟨mW4_1_0, mW4_1_1, mW4_1_2, mW4_1_3, mW4_1_4, mW4_1_5, mW4_1_6, mW4_1_7⟩ := rc8 eW1
 have yW4_2 : W2.heap.size < W5.heap.size := by omega
 replace eW2 := (bW4.block _ (zqo eW2)).trans eW2
 obtain ⟨mW4_2_0, mW4_2_1, mW4_2_2, mW4_2_3, mW4_2_4, mW4_2_5, mW4_2_6, mW4_2_7, mW4_2_8, mW4_2_9⟩ := rc10 eW2
 have yW4_3 : W3.heap.size < W5.heap.size := by omega
 replace eW3 := (bW4.block _ (zqo eW3)).trans eW3
 obtain ⟨mW4_3_0, mW4_3_1, mW4_3_2, mW4_3_3, mW4_3_4, mW4_3_5, mW4_3_6, mW4_3_7⟩ := rc8 eW3
 have yW4_4 : W4.heap.size < W5.heap.size := by omega
 obtain ⟨mW4_4_0, mW4_4_1, mW4_4_2, mW4_4_3, mW4_4_4, mW4_4_5⟩ := rc6 eW4
 obtain ⟨W, hW⟩ : ∃ W, W5.alloc (.cells #[.int .i64 c.vlo, .int .i64 c.vhi, .int .i64 c.least, .int .i64 c.most, .int .i64 c.f0, .int .i64 c.f1, .int .i64 c.h0, .int .i64 c.h1, .int .i64 c.rock, .int .i64 c.plo, .int .i64 c.phi] 89) = W := ⟨_, rfl⟩
 obtain ⟨eW5, bW5, sW5⟩ := boxed hW
 replace eW0 := (bW5.block _ (zqo eW0)).trans eW0
 replace eW1 := (bW5.block _ (zqo eW1)).trans eW1
 replace eW2 := (bW5.block _ (zqo eW2)).trans eW2
 replace eW3 := (bW5.block _ (zqo eW3)).trans eW3
 replace eW4 := (bW5.block _ (zqo eW4)).trans eW4
 have hBw : Below w.heap.size w W := (by have := sW0; have := sW1; have := sW2; have := sW3; have := sW4; have := sW5; exact (((((bW0.trans (bW1.mono (by omega))).trans (bW2.mono (by omega))).trans (bW3.mono (by omega))).trans (bW4.mono (by omega))).trans (bW5.mono (by omega))))
 obtain ⟨zW0, rW0, tW0⟩ := row_cells eW0
 obtain ⟨qW0_0, qW0_1, qW0_2, qW0_3, qW0_4, qW0_5, qW0_6, qW0_7, qW0_8, qW0_9, qW0_10⟩ := rc11 eW0
 obtain ⟨fW0_0, fW0_1, fW0_2, fW0_3, fW0_4, fW0_5, fW0_6, fW0_7, fW0_8, fW0_9, fW0_10⟩ := rf11 eW0
 have EW0 := Lib.hid eW0
 clear rW0 tW0 eW0
 obtain ⟨zW1, rW1, tW1⟩ := row_cells eW1
 obtain ⟨qW1_0, qW1_1, qW1_2, qW1_3, qW1_4, qW1_5, qW1_6, qW1_7⟩ := rc8 eW1
 obtain ⟨fW1_0, fW1_1, fW1_2, fW1_3, fW1_4, fW1_5, fW1_6, fW1_7⟩ := rf8 eW1
 have EW1 := Lib.hid eW1
 clear rW1 tW1 eW1
 obtain ⟨zW2, rW2, tW2⟩ := row_cells eW2
 obtain ⟨qW2_0, qW2_1, qW2_2, qW2_3, qW2_4, qW2_5, qW2_6, qW2_7, qW2_8, qW2_9⟩ := rc10 eW2
 obtain ⟨fW2_0, fW2_1, fW2_2, fW2_3, fW2_4, fW2_5, fW2_6, fW2_7, fW2_8, fW2_9⟩ := rf10 eW2
 have EW2 := Lib.hid eW2
 clear rW2 tW2 eW2
 obtain ⟨zW3, rW3, tW3⟩ := row_cells eW3
 obtain ⟨qW3_0, qW3_1, qW3_2, qW3_3, qW3_4, qW3_5, qW3_6, qW3_7⟩ := rc8 eW3
 obtain ⟨fW3_0, fW3_1, fW3_2, fW3_3, fW3_4, fW3_5, fW3_6, fW3_7⟩ := rf8 eW3
 have EW3 := Lib.hid eW3
 clear rW3 tW3 eW3
 obtain ⟨zW4, rW4, tW4⟩ := row_cells eW4
 obtain ⟨qW4_0, qW4_1, qW4_2, qW4_3, qW4_4, qW4_5⟩ := rc6 eW4
 obtain ⟨fW4_0, fW4_1, fW4_2, fW4_3, fW4_4, fW4_5⟩ := rf6 eW4
 have EW4 := Lib.hid eW4
 clear rW4 tW4 eW4
 obtain ⟨zW5, rW5, tW5⟩ := row_cells eW5
 obtain ⟨qW5_0, qW5_1, qW5_2, qW5_3, qW5_4, qW5_5, qW5_6, qW5_7, qW5_8, qW5_9, qW5_10⟩ := rc11 eW5
 obtain ⟨fW5_0, fW5_1, fW5_2, fW5_3, fW5_4, fW5_5, fW5_6, fW5_7, fW5_8, fW5_9, fW5_10⟩ := rf11 eW5
 have EW5 := Lib.hid eW5
 clear rW5 tW5 eW5
 have xW0 : w.heap.size ≤ w.heap.size := by omega
 have xW1 : w.heap.size ≤ W1.heap.size := by omega
 have xW2 : w.heap.size ≤ W2.heap.size := by omega
 have xW3 : w.heap.size ≤ W3.heap.size := by omega
 have xW4 : w.heap.size ≤ W4.heap.size := by omega
 have xW5 : w.heap.size ≤ W5.heap.size := by omega
 clear bW0 sW0 bW1 sW1 bW2 sW2 bW3 sW3 bW4 sW4 bW5 sW5
 have hD := Lib.hid (fun w => progDoesSome w (Cav.ok_iff.1 hc) (St.ok_iff.1 hs) (Op.ok_is ho).fit ha)
 have hg := grow_cell W
 have hgf := grow_frozen W
 clear EW0 EW1 EW2 EW5 ha
 go_enter Tryz.func25, Tryz.ntmps25
 go_wp2_with (first | (go_at_call 29; (with_reducible refine Calls.mono (validT _ hc) ?_); rintro e w1 ⟨rfl, hB⟩; (first | (obtain ⟨g, rfl⟩ := g.next hB) | (obtain ⟨g, rfl⟩ : ∃ g : Grow W, w1 = g.x := ⟨⟨w1, hB⟩, rfl⟩)); clear hB) | (go_at_call 30; (with_reducible refine Calls.mono (stateT _ hs) ?_); rintro e w1 ⟨rfl, hB⟩; (first | (obtain ⟨g, rfl⟩ := g.next hB) | (obtain ⟨g, rfl⟩ : ∃ g : Grow W, w1 = g.x := ⟨⟨w1, hB⟩, rfl⟩)); clear hB) | (go_at_call 59; (with_reducible refine Calls.mono (opT _ ho) ?_); rintro e w1 ⟨rfl, hB⟩; (first | (obtain ⟨g, rfl⟩ := g.next hB) | (obtain ⟨g, rfl⟩ : ∃ g : Grow W, w1 = g.x := ⟨⟨w1, hB⟩, rfl⟩)); clear hB) | (go_at_call 60; (with_reducible refine Calls.mono (hD.out _) ?_); rintro e w1 ⟨rfl, hB⟩; (first | (obtain ⟨g, rfl⟩ := g.next hB) | (obtain ⟨g, rfl⟩ : ∃ g : Grow W, w1 = g.x := ⟨⟨w1, hB⟩, rfl⟩)); clear hB; have y3 := g.lt zW3; have y4 := g.lt zW4))
 obtain ⟨V, hV⟩ : ∃ V, World.alloc (World.alloc g.x (.cells #[.int .i64 n.glo, .int .i64 n.ghi, .int .i64 n.ylo, .int .i64 n.yhi, .int .i64 n.tlo, .int .i64 n.thi, .int .i64 n.wlo, .int .i64 n.whi] 33)) (.cells #[.int .i64 q.glo, .int .i64 q.ghi, .int .i64 q.ylo, .int .i64 q.yhi, .int .i64 q.wlo, .int .i64 q.whi] 76) = V := ⟨_, rfl⟩
 rw [hV]
 obtain ⟨v1, v2, vs, vB⟩ := two_new hV
 clear hV
 have gs := g.size
 have d3 := (vB.block _ (Nat.lt_of_lt_of_le zW3 gs)).trans ((g.h.block _ zW3).trans EW3.out)
 have d4 := (vB.block _ (Nat.lt_of_lt_of_le zW4 gs)).trans ((g.h.block _ zW4).trans EW4.out)
 have hBV : Below w.heap.size w V := hBw.trans ((g.h.trans (vB.mono gs)).mono hBw.size)
 refine wp_region_noPanic ?_
 refine wp_region_held_drew (S := (fun U => (∃ a0 a1 a2 a3 a4 a5 a6 a7 : Value, U.heap[W3.heap.size]? = some (.cells #[a0, a1, a2, a3, a4, a5, a6, a7] 33 (0, 0))) ∧ (∃ a0 a1 a2 a3 a4 a5 : Value, U.heap[W4.heap.size]? = some (.cells #[a0, a1, a2, a3, a4, a5] 76 (0, 0))) ∧ U.heap[g.x.heap.size]? = some (.cells #[.int .i64 n.glo, .int .i64 n.ghi, .int .i64 n.ylo, .int .i64 n.yhi, .int .i64 n.tlo, .int .i64 n.thi, .int .i64 n.wlo, .int .i64 n.whi] 33 (0, 0)) ∧ U.heap[g.x.heap.size + 1]? = some (.cells #[.int .i64 q.glo, .int .i64 q.ghi, .int .i64 q.ylo, .int .i64 q.yhi, .int .i64 q.wlo, .int .i64 q.whi] 76 (0, 0)) ∧ Below w.heap.size w U)) (by kernel_rfl) ⟨⟨_, _, _, _, _, _, _, _, d3⟩, ⟨_, _, _, _, _, _, d4⟩, v1, v2, hBV.drew⟩ (fun hHeld => ?_)
 generalize V.drew = Y at hHeld ⊢
 refine wpAnyH_take (i := 0) (v := stV n) rfl (by kernel_rfl) (by kernel_rfl) (by kernel_rfl) (fun _ _ _ h => h) (Or.inl ⟨by rfl, ?_⟩) hHeld ?_
 · intro w' hSw; have cr := (row_cells (hSw.2.2.1)).2.1; have c0 := cr 0; simp only [List.getElem?_toArray, List.getElem?_cons_zero, List.getElem?_cons_succ] at c0; have c1 := cr 1; simp only [List.getElem?_toArray, List.getElem?_cons_zero, List.getElem?_cons_succ] at c1; have c2 := cr 2; simp only [List.getElem?_toArray, List.getElem?_cons_zero, List.getElem?_cons_succ] at c2; have c3 := cr 3; simp only [List.getElem?_toArray, List.getElem?_cons_zero, List.getElem?_cons_succ] at c3; have c4 := cr 4; simp only [List.getElem?_toArray, List.getElem?_cons_zero, List.getElem?_cons_succ] at c4; have c5 := cr 5; simp only [List.getElem?_toArray, List.getElem?_cons_zero, List.getElem?_cons_succ] at c5; have c6 := cr 6; simp only [List.getElem?_toArray, List.getElem?_cons_zero, List.getElem?_cons_succ] at c6; have c7 := cr 7; simp only [List.getElem?_toArray, List.getElem?_cons_zero, List.getElem?_cons_succ] at c7; go_simp; (try with_reducible rfl)
 try simp only [Act.put, List.setIfInBounds_toArray, List.set_cons_zero, List.set_cons_succ]
 refine wpAnyH_take (i := 1) (v := outV q) rfl (by kernel_rfl) (by kernel_rfl) (by kernel_rfl) (fun _ _ _ h => h) (Or.inl ⟨by rfl, ?_⟩) hHeld ?_
 · intro w' hSw; have cr := (row_cells (hSw.2.2.2.1)).2.1; have c0 := cr 0; simp only [List.getElem?_toArray, List.getElem?_cons_zero, List.getElem?_cons_succ] at c0; have c1 := cr 1; simp only [List.getElem?_toArray, List.getElem?_cons_zero, List.getElem?_cons_succ] at c1; have c2 := cr 2; simp only [List.getElem?_toArray, List.getElem?_cons_zero, List.getElem?_cons_succ] at c2; have c3 := cr 3; simp only [List.getElem?_toArray, List.getElem?_cons_zero, List.getElem?_cons_succ] at c3; have c4 := cr 4; simp only [List.getElem?_toArray, List.getElem?_cons_zero, List.getElem?_cons_succ] at c4; have c5 := cr 5; simp only [List.getElem?_toArray, List.getElem?_cons_zero, List.getElem?_cons_succ] at c5; go_simp; (try with_reducible rfl)
 try simp only [Act.put, List.setIfInBounds_toArray, List.set_cons_zero, List.set_cons_succ]
 have ne0_1 : (W4.heap.size : Nat) ≠ W3.heap.size := by omega
 have ne0_2 : (g.x.heap.size : Nat) ≠ W3.heap.size := by omega
 have ne0_3 : (g.x.heap.size + 1 : Nat) ≠ W3.heap.size := by omega
 have zd0 : w.heap.size ≤ W3.heap.size := by omega
 have ne1_0 : (W3.heap.size : Nat) ≠ W4.heap.size := by omega
 have ne1_2 : (g.x.heap.size : Nat) ≠ W4.heap.size := by omega
 have ne1_3 : (g.x.heap.size + 1 : Nat) ≠ W4.heap.size := by omega
 have zd1 : w.heap.size ≤ W4.heap.size := by omega
 obtain ⟨o0_0, o0_1, o0_2, o0_3, o0_4, o0_5, o0_6, o0_7, od0⟩ := hHeld.1
 have oy0 := row_cells od0
 have q0_0 : Y.cell? ⟨W3.heap.size, 0, none⟩ = some o0_0 := oy0.2.1 0
 have f0_0 : Y.frozen? ⟨W3.heap.size, 0, none⟩ = false := oy0.2.2 0
 have q0_1 : Y.cell? ⟨W3.heap.size, 1, none⟩ = some o0_1 := oy0.2.1 1
 have f0_1 : Y.frozen? ⟨W3.heap.size, 1, none⟩ = false := oy0.2.2 1
 have q0_2 : Y.cell? ⟨W3.heap.size, 2, none⟩ = some o0_2 := oy0.2.1 2
 have f0_2 : Y.frozen? ⟨W3.heap.size, 2, none⟩ = false := oy0.2.2 2
 have q0_3 : Y.cell? ⟨W3.heap.size, 3, none⟩ = some o0_3 := oy0.2.1 3
 have f0_3 : Y.frozen? ⟨W3.heap.size, 3, none⟩ = false := oy0.2.2 3
 have q0_4 : Y.cell? ⟨W3.heap.size, 4, none⟩ = some o0_4 := oy0.2.1 4
 have f0_4 : Y.frozen? ⟨W3.heap.size, 4, none⟩ = false := oy0.2.2 4
 have q0_5 : Y.cell? ⟨W3.heap.size, 5, none⟩ = some o0_5 := oy0.2.1 5
 have f0_5 : Y.frozen? ⟨W3.heap.size, 5, none⟩ = false := oy0.2.2 5
 have q0_6 : Y.cell? ⟨W3.heap.size, 6, none⟩ = some o0_6 := oy0.2.1 6
 have f0_6 : Y.frozen? ⟨W3.heap.size, 6, none⟩ = false := oy0.2.2 6
 have q0_7 : Y.cell? ⟨W3.heap.size, 7, none⟩ = some o0_7 := oy0.2.1 7
 have f0_7 : Y.frozen? ⟨W3.heap.size, 7, none⟩ = false := oy0.2.2 7
 obtain ⟨o1_0, o1_1, o1_2, o1_3, o1_4, o1_5, od1⟩ := hHeld.2.1
 have oy1 := row_cells od1
 have q1_0 : Y.cell? ⟨W4.heap.size, 0, none⟩ = some o1_0 := oy1.2.1 0
 have f1_0 : Y.frozen? ⟨W4.heap.size, 0, none⟩ = false := oy1.2.2 0
 have q1_1 : Y.cell? ⟨W4.heap.size, 1, none⟩ = some o1_1 := oy1.2.1 1
 have f1_1 : Y.frozen? ⟨W4.heap.size, 1, none⟩ = false := oy1.2.2 1
 have q1_2 : Y.cell? ⟨W4.heap.size, 2, none⟩ = some o1_2 := oy1.2.1 2
 have f1_2 : Y.frozen? ⟨W4.heap.size, 2, none⟩ = false := oy1.2.2 2
 have q1_3 : Y.cell? ⟨W4.heap.size, 3, none⟩ = some o1_3 := oy1.2.1 3
 have f1_3 : Y.frozen? ⟨W4.heap.size, 3, none⟩ = false := oy1.2.2 3
 have q1_4 : Y.cell? ⟨W4.heap.size, 4, none⟩ = some o1_4 := oy1.2.1 4
 have f1_4 : Y.frozen? ⟨W4.heap.size, 4, none⟩ = false := oy1.2.2 4
 have q1_5 : Y.cell? ⟨W4.heap.size, 5, none⟩ = some o1_5 := oy1.2.1 5
 have f1_5 : Y.frozen? ⟨W4.heap.size, 5, none⟩ = false := oy1.2.2 5
 refine wpAnyH_ready (rs := [2]) (by kernel_rfl) (by simp) ?_
 refine AllReadyH.cons rfl (fun K hK => ?_) AllReadyH.nil
 go_simp
 refine hK.out _ _ ⟨cells8_ex (hHeld.1) _ _ _ _ _ _ _ _, other8_ex6 (hHeld.2.1) _ _ _ _ _ _ _ _ ne0_1, (set_other8 _ _ _ _ _ _ _ _ ne0_2).trans hHeld.2.2.1, (set_other8 _ _ _ _ _ _ _ _ ne0_3).trans hHeld.2.2.2.1, set_below8 hHeld.2.2.2.2 zd0 _ _ _ _ _ _ _ _⟩ (fun hNow => ?_)
 clear hK K hHeld
 have hHeld := hNow
 clear hNow
 try simp only [Act.put, List.setIfInBounds_toArray, List.set_cons_zero, List.set_cons_succ]
 refine wpAnyH_ready (rs := [3]) (by kernel_rfl) (by simp) ?_
 refine AllReadyH.cons rfl (fun K hK => ?_) AllReadyH.nil
 go_simp
 refine hK.out _ _ ⟨other6_ex8 (hHeld.1) _ _ _ _ _ _ ne1_0, cells6_ex (hHeld.2.1) _ _ _ _ _ _, (set_other6 _ _ _ _ _ _ ne1_2).trans hHeld.2.2.1, (set_other6 _ _ _ _ _ _ ne1_3).trans hHeld.2.2.2.1, set_below6 hHeld.2.2.2.2 zd1 _ _ _ _ _ _⟩ (fun hNow => ?_)
 clear hK K hHeld
 have hHeld := hNow
 clear hNow
 try simp only [Act.put, List.setIfInBounds_toArray, List.set_cons_zero, List.set_cons_succ]
 refine wpAnyH_ready (rs := [4]) (by kernel_rfl) (by simp) ?_
 refine AllReadyH.cons rfl (fun K hK => ?_) AllReadyH.nil
 go_simp
 refine hK.out _ _ hHeld (fun hNow => ?_)
 clear hK K hHeld
 have hHeld := hNow
 clear hNow
 try simp only [Act.put, List.setIfInBounds_toArray, List.set_cons_zero, List.set_cons_succ]
 refine wpAnyH_done (by kernel_rfl) ?_ _
 refine NoPanic.normal ?_
 have G0 := ((set_other6 (.int .i64 q.glo) (.int .i64 q.ghi) (.int .i64 q.ylo) (.int .i64 q.yhi) (.int .i64 q.wlo) (.int .i64 q.whi) ne1_0).trans (set_cells8 od0 (.int .i64 n.glo) (.int .i64 n.ghi) (.int .i64 n.ylo) (.int .i64 n.yhi) (.int .i64 n.tlo) (.int .i64 n.thi) (.int .i64 n.wlo) (.int .i64 n.whi)))
 have G1 := (set_cells6 ((set_other8 (.int .i64 n.glo) (.int .i64 n.ghi) (.int .i64 n.ylo) (.int .i64 n.yhi) (.int .i64 n.tlo) (.int .i64 n.thi) (.int .i64 n.wlo) (.int .i64 n.whi) ne0_1).trans od1) (.int .i64 q.glo) (.int .i64 q.ghi) (.int .i64 q.ylo) (.int .i64 q.yhi) (.int .i64 q.wlo) (.int .i64 q.whi))
 have hfin := Lib.hid hHeld.2.2.2.2
 clear q0_0 f0_0 q0_1 f0_1 q0_2 f0_2 q0_3 f0_3 q0_4 f0_4 q0_5 f0_5 q0_6 f0_6 q0_7 f0_7 q1_0 f1_0 q1_1 f1_1 q1_2 f1_2 q1_3 f1_3 q1_4 f1_4 q1_5 f1_5 oy0 od0 oy1 od1 hHeld
 generalize hV : World.setCell _ ⟨W4.heap.size, 5, none⟩ _ = Vf at G0 G1 hfin ⊢
 clear hV
 have k0 := (row_cells G0).2.1
 have k0_0 := k0 0; have k0_1 := k0 1; have k0_2 := k0 2; have k0_3 := k0 3; have k0_4 := k0 4; have k0_5 := k0 5; have k0_6 := k0 6; have k0_7 := k0 7
 simp only [List.getElem?_toArray, List.getElem?_cons_zero, List.getElem?_cons_succ] at k0_0 k0_1 k0_2 k0_3 k0_4 k0_5 k0_6 k0_7
 clear k0 G0
 have k1 := (row_cells G1).2.1
 have k1_0 := k1 0; have k1_1 := k1 1; have k1_2 := k1 2; have k1_3 := k1 3; have k1_4 := k1 4; have k1_5 := k1 5
 simp only [List.getElem?_toArray, List.getElem?_cons_zero, List.getElem?_cons_succ] at k1_0 k1_1 k1_2 k1_3 k1_4 k1_5
 clear k1 G1
 go_wp2
 refine bodyPost_ret (v := .tuple #[stV n, outV q, .int .i64 0]) (by simp [results, Tryz.results25, go_sem, *]) rfl ⟨rfl, hfin.out⟩
end Go.Proofs.YthjmdagonfeneaaGreat.G
set_option linter.unusedVariables false
set_option linter.unusedSimpArgs false
namespace Gas
theorem truth_not1 {l : List Op} {a b : List Int} (h : a.length ≠ l.length) : truthB l a b = false := by simp [truthB, h]
theorem truth_not2 {l : List Op} {a b : List Int} (h : b.length ≠ l.length) : truthB l a b = false := by simp [truthB, h]
def trueAt (l : List Op) (a b : List Int) (k : Nat) : Bool := inB (at0 a k) (theOp l k).slo (theOp l k).shi && inB (at0 b k) (theOp l k).wlo (theOp l k).whi
theorem truth_iff {l : List Op} {a b : List Int} : truthB l a b = true ↔ a.length = l.length ∧ b.length = l.length ∧ ∀ k, k < l.length → trueAt l a b k = true := by
 simp [truthB, trueAt, and_assoc]
theorem truth_not3 {l : List Op} {a b : List Int} {k : Nat} (hk : k < l.length) (h : trueAt l a b k = false) : truthB l a b = false := by
 cases hb : truthB l a b
 · rfl
 · rw [(truth_iff.1 hb).2.2 k hk] at h; cases h
end Gas
namespace Go.Proofs.YthjmdagonfeneaaGreat.G
open Go.RowKit Go.Sd Gas
theorem BoolS.lit {b t : Bool} {w w' : World} {e : Ending} (h : BoolS b w e w') (hb : b = t) : e = .returned (.bool t) ∧ w = w' := by
 obtain ⟨t', rfl, ht, hB⟩ := h
 exact ⟨by rw [← hb, ← ht.out], hB⟩
theorem progTruth (lv av bv : Value) (xs : List Gas.Op) (xa xb : List Int) (w : World) (hx : OpsAt w lv xs) (ha : IntsAt w av xa) (hb : IntsAt w bv xb) :
    Calls Tryz.prog 78 #[lv, av, bv] w fun e w' => e = .returned (.bool (truthB xs xa xb)) ∧ Below w.heap.size w w' := by
 obtain ⟨a, cap, rfl, hm, hc⟩ := hx
 obtain ⟨a1, cap1, rfl, hm1, hc1⟩ := ha
 obtain ⟨a2, cap2, rfl, hm2, hc2⟩ := hb
 unfold maxLen at hm hm1 hm2
 have hm' : xs.length ≤ 9223372036854775807 := by omega
 have hm1' : xa.length ≤ 9223372036854775807 := by omega
 have hm2' : xb.length ≤ 9223372036854775807 := by omega
 have hcW := Lib.hid hc; have hcA := Lib.hid hc1; have hcB := Lib.hid hc2
 clear hc hc1 hc2
 obtain ⟨r, hr⟩ : ∃ r, truthB xs xa xb = r := ⟨_, rfl⟩
 rw [hr]
 replace hr := Lib.hid hr
 by_cases hl1 : xa.length = xs.length
 case neg =>
  have hres : Hid (truthB xs xa xb = false) := Lib.hid (truth_not1 hl1)
  have hd : ¬ (xa.length : Int) = (xs.length : Int) := by omega
  replace hl1 := Lib.hid hl1
  go_enter Tryz.func78, Tryz.ntmps78
  go_wp2
  go_ret
  exact ⟨by rw [← hr.out, hres.out]; rfl, Below.refl _ _⟩
 have hd : (xa.length : Int) = (xs.length : Int) := by omega
 by_cases hl2 : xb.length = xs.length
 case neg =>
  have hres : Hid (truthB xs xa xb = false) := Lib.hid (truth_not2 hl2)
  have hd2 : ¬ (xb.length : Int) = (xs.length : Int) := by omega
  replace hl1 := Lib.hid hl1
  replace hl2 := Lib.hid hl2
  go_enter Tryz.func78, Tryz.ntmps78
  go_wp2
  go_ret
  exact ⟨by rw [← hr.out, hres.out]; rfl, Below.refl _ _⟩
 have hd2 : (xb.length : Int) = (xs.length : Int) := by omega
 go_enter Tryz.func78, Tryz.ntmps78
 go_wp2
 go_loopw [23] (fun i wr => ∃ g : Grow w, wr = g.x ∧ ∃ k : Nat, k ≤ xs.length ∧ i = .int .i64 k ∧ Hid (∀ j, j < k → trueAt xs xa xb j = true)) (fun i _ => xs.length - (intOf i).toNat)
 case atStart => exact ⟨Grow.self w, rfl, 0, Nat.zero_le _, rfl, fun j hj => absurd hj (by omega)⟩
 case round =>
  obtain ⟨g, rfl, k, hk, rfl, hH⟩ := hrel
  by_cases hlt : k < xs.length
  · obtain ⟨b, off, rfl, hb, hcell⟩ := hcW.out (by omega)
    obtain ⟨b1, off1, rfl, hb1, hcell1⟩ := hcA.out (by omega)
    obtain ⟨b2, off2, rfl, hb2, hcell2⟩ := hcB.out (by omega)
    obtain ⟨c0, c1, c2, c3, c4, c5, c6, c7, c8, c9⟩ := (hcell k hlt).mono g.h
    have d1 := kept_cell g.h (hcell1 k (by omega))
    have d2 := kept_cell g.h (hcell2 k (by omega))
    clear hcell hcell1 hcell2
    have hki : (k : Int) < (xs.length : Int) := by omega
    have hka : (k : Int) < (xa.length : Int) := by omega
    have hkb : (k : Int) < (xb.length : Int) := by omega
    have hta : Hid (trueAt xs xa xb k = (inB (at0 xa k) (theOp xs k).slo (theOp xs k).shi && inB (at0 xb k) (theOp xs k).wlo (theOp xs k).whi)) := Lib.hid rfl
    obtain ⟨x, hxe⟩ : ∃ x, theOp xs k = x := ⟨_, rfl⟩
    simp only [hxe] at c0 c1 c2 c3 c4 c5 c6 c7 c8 c9 hta
    obtain ⟨u, hue⟩ : ∃ u, at0 xa k = u := ⟨_, rfl⟩
    obtain ⟨v, hve⟩ : ∃ v, at0 xb k = v := ⟨_, rfl⟩
    simp only [hue] at d1 hta
    simp only [hve] at d2 hta
    clear hue hve hxe
    obtain ⟨V, hV⟩ : ∃ V, g.x.alloc (.cells #[.int .i64 x.kind, .int .i64 x.lg, .int .i64 x.ly, .int .i64 x.lt, .int .i64 x.lw, .int .i64 x.moles, .int .i64 x.slo, .int .i64 x.shi, .int .i64 x.wlo, .int .i64 x.whi] 83) = V := ⟨_, rfl⟩
    obtain ⟨e2, bV, s2⟩ := boxed hV
    obtain ⟨z2, r2, -⟩ := row_cells e2
    have q0 := r2 0
    have q1 := r2 1
    have q2 := r2 2
    have q3 := r2 3
    have q4 := r2 4
    have q5 := r2 5
    have q6 := r2 6
    have q7 := r2 7
    have q8 := r2 8
    have q9 := r2 9
    simp only [List.getElem?_toArray, List.getElem?_cons_zero, List.getElem?_cons_succ] at q0 q1 q2 q3 q4 q5 q6 q7 q8 q9
    have y1 := kept_cell bV d1
    have y2 := kept_cell bV d2
    clear r2 e2 s2
    have hBV : Below w.heap.size w V := g.h.trans (bV.mono g.size)
    have zb1 := World.block_lt_of_cell? _ ⟨b1, _, none⟩ y1
    have zb2 := World.block_lt_of_cell? _ ⟨b2, _, none⟩ y2
    simp only at zb1 zb2
    have hgc := grow_cell V
    cases h1 : inB u x.slo x.shi
    · have k1 := Lib.hid (fun w => (progIn u x.slo x.shi w).mono fun e w' hb => BoolS.lit hb h1)
      have hres : Hid (truthB xs xa xb = false) := Lib.hid (truth_not3 hlt (by rw [hta.out, h1]; rfl))
      clear h1
      go_wp2
      refine wp_region_grow (by kernel_rfl) (by kernel_rfl) ?_
      repeat (go_big_quiet_step ((first | (go_at_call 64; with_reducible exact Calls.grow_same (k1.out _)))))
      refine wpQuiet_nil ?_
      rintro _ ⟨g, rfl⟩
      go_wp2
      go_ret
      exact ⟨by rw [← hr.out, hres.out]; rfl, hBV.trans (g.h.mono hBV.size)⟩
    · have k1 := Lib.hid (fun w => (progIn u x.slo x.shi w).mono fun e w' hb => BoolS.lit hb h1)
      cases h2 : inB v x.wlo x.whi
      · have k2 := Lib.hid (fun w => (progIn v x.wlo x.whi w).mono fun e w' hb => BoolS.lit hb h2)
        have hres : Hid (truthB xs xa xb = false) := Lib.hid (truth_not3 hlt (by rw [hta.out, h1, h2]; rfl))
        clear h1 h2
        go_wp2
        refine wp_region_grow (by kernel_rfl) (by kernel_rfl) ?_
        repeat (go_big_quiet_step ((first | (go_at_call 64; with_reducible exact Calls.grow_same (k1.out _)) | (go_at_call 64; with_reducible exact Calls.grow_same (k2.out _)))))
        refine wpQuiet_nil ?_
        rintro _ ⟨g, rfl⟩
        go_wp2
        go_ret
        exact ⟨by rw [← hr.out, hres.out]; rfl, hBV.trans (g.h.mono hBV.size)⟩
      · have k2 := Lib.hid (fun w => (progIn v x.wlo x.whi w).mono fun e w' hb => BoolS.lit hb h2)
        replace hH : Hid (∀ j, j < k + 1 → trueAt xs xa xb j = true) := Lib.hid (fun j hj => by
         by_cases e : j = k
         · rw [e, hta.out, h1, h2]; rfl
         · exact hH.out j (by omega))
        clear h1 h2
        go_wp2
        refine wp_region_grow (by kernel_rfl) (by kernel_rfl) ?_
        repeat (go_big_quiet_step ((first | (go_at_call 64; with_reducible exact Calls.grow_same (k1.out _)) | (go_at_call 64; with_reducible exact Calls.grow_same (k2.out _)))))
        refine wpQuiet_nil ?_
        rintro _ ⟨g, rfl⟩
        go_wp2
        obtain ⟨g3, hg3⟩ : ∃ g3 : Grow w, g.x = g3.x := ⟨⟨g.x, hBV.trans (g.h.mono hBV.size)⟩, rfl⟩
        exact ⟨⟨g3, hg3, k + 1, by omega, by go_num, hH⟩, by simp [intOf]; omega⟩
  · obtain rfl : k = xs.length := by omega
    have hres : Hid (truthB xs xa xb = true) := Lib.hid (truth_iff.2 ⟨hl1, hl2, hH.out⟩)
    go_wp2
    go_ret
    exact ⟨by rw [← hr.out, hres.out]; rfl, g.h⟩
end Go.Proofs.YthjmdagonfeneaaGreat.G
