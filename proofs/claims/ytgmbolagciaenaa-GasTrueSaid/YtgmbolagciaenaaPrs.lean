/- Gas: walks: the pressure, the rule of a state and of a content, and whether a cavern is as defined. -/
import Derived.Test.YtgmbolagciaenaaGcd
import Derived.Test.YtgmbolagciaenaaRul
import Derived.Test.YtgmbolagciaenaaDof
set_option linter.unusedVariables false
set_option linter.unusedSimpArgs false
namespace Go.Proofs.Ytgmbolagciaenaa
open Go.RowKit Go.Sd Gas

theorem mul_bd {c : Cav} (hc : c.Ok) {v : Int} (hv : 1 ≤ v ∧ v ≤ 1000000) : (0 ≤ c.least * v ∧ c.least * v ≤ 100000000000) ∧ (0 ≤ c.most * v ∧ c.most * v ≤ 100000000000) := by
  have := hc.p
  have a := bd_mul (A := 100000) (B := 1000000) (a := c.least) (b := v) ⟨by omega, by omega⟩ ⟨by omega, hv.2⟩
  have b := bd_mul (A := 100000) (B := 1000000) (a := c.most) (b := v) ⟨by omega, by omega⟩ ⟨by omega, hv.2⟩
  exact ⟨⟨a.1, by omega⟩, ⟨b.1, by omega⟩⟩
theorem force_nn {c : Cav} {p : Pt} (hc : c.Ok) (hg : 0 ≤ p.g ∧ p.g ≤ 1000000) (hy : 0 ≤ p.y ∧ p.y ≤ 1000000) (ht : 0 ≤ p.t ∧ p.t ≤ 5000) : 0 ≤ force c p ∧ force c p ≤ 400000000000000000 := by
  have := force_bd hc hg hy ht; unfold force; omega
theorem lowT {s : St} (hs : s.Ok) : (0 ≤ s.low.t ∧ s.low.t ≤ 5000) ∧ (0 ≤ s.high.t ∧ s.high.t ≤ 5000) := by have := hs.t; simp only [St.low, St.high]; omega

set_option maxRecDepth 100000 in
set_option maxHeartbeats 4000000 in
theorem refSure (c : Cav) (s : St) (w : World) (hc : c.Ok) (hs : s.Ok) :
    Calls Try.prog 44 #[cavV c, stV s] w fun e w' => e = .returned (.int .i64 (sure c s)) ∧ Below w.heap.size w w' := by
  obtain ⟨g1, g2, g3, g4⟩ := gas_bd hs
  obtain ⟨t1, t2⟩ := lowT hs
  have hv := hc.v
  obtain ⟨m1, -⟩ := mul_bd hc (v := c.vhi) (by omega)
  obtain ⟨-, m2⟩ := mul_bd hc (v := c.vlo) (by omega)
  have n1 := force_nn (p := s.low) hc g1 g3 t1
  have n2 := force_nn (p := s.high) hc g2 g4 t2
  have kL := Lib.hid (fun w => refLow s w)
  have kH := Lib.hid (fun w => refHigh s w)
  have kF1 := Lib.hid (fun w => refForce c s.low w hc g1 g3 t1)
  have kF2 := Lib.hid (fun w => refForce c s.high w hc g2 g4 t2)
  have kT := Lib.hid (fun w => refThin c s w hc hs)
  have kR := Lib.hid (fun w => refRich c s w hc hs)
  have hsu : Hid (sure c s = if force c s.low < c.least * c.vhi * 10000000 then 2 else if force c s.high > c.most * c.vlo * 10000000 then 3 else if thin c s = true then 4 else if rich c s = true then 5 else 1) := Lib.hid rfl
  clear hc hs hv g1 g2 g3 g4 t1 t2
  generalize force c s.low = F1 at *
  generalize force c s.high = F2 at *
  rw [hsu.out]
  clear hsu
  obtain ⟨W1, hW1⟩ : ∃ W1, w.alloc (.cells #[.int .i64 c.vlo, .int .i64 c.vhi, .int .i64 c.least, .int .i64 c.most, .int .i64 c.f0, .int .i64 c.f1, .int .i64 c.h0, .int .i64 c.h1, .int .i64 c.rock, .int .i64 c.plo, .int .i64 c.phi] 26) = W1 := ⟨_, rfl⟩
  obtain ⟨eW0, bW0, sW0⟩ := boxed hW1
  obtain ⟨W, hW⟩ : ∃ W, W1.alloc (.cells #[.int .i64 s.glo, .int .i64 s.ghi, .int .i64 s.ylo, .int .i64 s.yhi, .int .i64 s.tlo, .int .i64 s.thi, .int .i64 s.wlo, .int .i64 s.whi] 28) = W := ⟨_, rfl⟩
  obtain ⟨eW1, bW1, sW1⟩ := boxed hW
  replace eW0 := (bW1.block _ (Array.getElem?_eq_some_iff.1 eW0).1).trans eW0
  have hBw : Below w.heap.size w W := (by have := sW0; have := sW1; exact (bW0.trans (bW1.mono (by omega))))
  obtain ⟨zW0, rW0, tW0⟩ := row_cells eW0
  obtain ⟨qW0_0, qW0_1, qW0_2, qW0_3, qW0_4, qW0_5, qW0_6, qW0_7, qW0_8, qW0_9, qW0_10⟩ := rc11 eW0
  clear rW0 tW0 eW0
  obtain ⟨zW1, rW1, tW1⟩ := row_cells eW1
  obtain ⟨qW1_0, qW1_1, qW1_2, qW1_3, qW1_4, qW1_5, qW1_6, qW1_7⟩ := rc8 eW1
  clear rW1 tW1 eW1
  have xW0 : w.heap.size ≤ w.heap.size := by omega
  have xW1 : w.heap.size ≤ W1.heap.size := by omega
  clear bW0 sW0 bW1 sW1
  have hgc := grow_cell W
  by_cases h1 : F1 < c.least * c.vhi * 10000000
  · rw [if_pos h1]
    go_enter Try.func44, Try.ntmps44
    go_wp2
    refine wp_region_grow (by kernel_rfl) (by kernel_rfl) ?_
    repeat (go_big_quiet_step ((first | (go_at_call 38; with_reducible exact Calls.grow (kL.out _)) | (go_at_call 79; with_reducible exact Calls.grow (kF1.out _)))))
    refine wpQuiet_nil ?_
    rintro _ ⟨g, rfl⟩
    go_wp2
    go_ret
    exact ⟨rfl, hBw.trans (g.h.mono hBw.size)⟩
  rw [if_neg h1]
  by_cases h2 : F2 > c.most * c.vlo * 10000000
  · rw [if_pos h2]
    go_enter Try.func44, Try.ntmps44
    go_wp2
    refine wp_region_grow (by kernel_rfl) (by kernel_rfl) ?_
    repeat (go_big_quiet_step ((first | (go_at_call 38; with_reducible exact Calls.grow (kL.out _)) | (go_at_call 79; with_reducible exact Calls.grow (kF1.out _)))))
    refine wpQuiet_nil ?_
    rintro _ ⟨g, rfl⟩
    go_wp2
    have hgg : ∀ (h : Grow g.x) (b o : Nat), b < W.heap.size → h.x.cell? ⟨b, o, none⟩ = W.cell? ⟨b, o, none⟩ := fun h b o hb => (grow_cell g.x h b o (Nat.lt_of_lt_of_le hb g.size)).trans (grow_cell W g b o hb)
    refine wp_region_grow (by kernel_rfl) (by kernel_rfl) ?_
    repeat (go_big_quiet_step ((first | (go_at_call 39; with_reducible exact Calls.grow (kH.out _)) | (go_at_call 79; with_reducible exact Calls.grow (kF2.out _)))))
    refine wpQuiet_nil ?_
    rintro _ ⟨gx, rfl⟩
    clear hgg
    obtain ⟨g, hg⟩ := g.next gx.h
    rw [hg]
    clear hg gx
    go_wp2
    go_ret
    exact ⟨rfl, hBw.trans (g.h.mono hBw.size)⟩
  rw [if_neg h2]
  cases h3 : thin c s
  · have kT2 := Lib.hid (fun w => (kT.out w).mono fun e w' h => BoolB.lit h h3)
    cases h4 : rich c s
    · have kR2 := Lib.hid (fun w => (kR.out w).mono fun e w' h => BoolB.lit h h4)
      simp only [Bool.false_eq_true, if_false]
      clear kT kR
      go_enter Try.func44, Try.ntmps44
      go_wp2
      refine wp_region_grow (by kernel_rfl) (by kernel_rfl) ?_
      repeat (go_big_quiet_step ((first | (go_at_call 38; with_reducible exact Calls.grow (kL.out _)) | (go_at_call 79; with_reducible exact Calls.grow (kF1.out _)))))
      refine wpQuiet_nil ?_
      rintro _ ⟨g, rfl⟩
      go_wp2
      have hgg : ∀ (h : Grow g.x) (b o : Nat), b < W.heap.size → h.x.cell? ⟨b, o, none⟩ = W.cell? ⟨b, o, none⟩ := fun h b o hb => (grow_cell g.x h b o (Nat.lt_of_lt_of_le hb g.size)).trans (grow_cell W g b o hb)
      refine wp_region_grow (by kernel_rfl) (by kernel_rfl) ?_
      repeat (go_big_quiet_step ((first | (go_at_call 39; with_reducible exact Calls.grow (kH.out _)) | (go_at_call 79; with_reducible exact Calls.grow (kF2.out _)))))
      refine wpQuiet_nil ?_
      rintro _ ⟨gx, rfl⟩
      clear hgg
      obtain ⟨g, hg⟩ := g.next gx.h
      rw [hg]
      clear hg gx
      go_wp2_with (first | (go_at_call 85; (with_reducible refine Calls.mono (kT2.out _) ?_); rintro e w1 ⟨rfl, hB⟩; (first | (obtain ⟨g, rfl⟩ := g.next hB) | (obtain ⟨g, rfl⟩ : ∃ g : Grow W, w1 = g.x := ⟨⟨w1, hB⟩, rfl⟩)); clear hB) | (go_at_call 86; (with_reducible refine Calls.mono (kR2.out _) ?_); rintro e w1 ⟨rfl, hB⟩; (first | (obtain ⟨g, rfl⟩ := g.next hB) | (obtain ⟨g, rfl⟩ : ∃ g : Grow W, w1 = g.x := ⟨⟨w1, hB⟩, rfl⟩)); clear hB))
      go_ret
      exact ⟨rfl, hBw.trans (g.h.mono hBw.size)⟩
    · have kR2 := Lib.hid (fun w => (kR.out w).mono fun e w' h => BoolB.lit h h4)
      simp only [Bool.false_eq_true, if_false, if_true]
      clear kT kR
      go_enter Try.func44, Try.ntmps44
      go_wp2
      refine wp_region_grow (by kernel_rfl) (by kernel_rfl) ?_
      repeat (go_big_quiet_step ((first | (go_at_call 38; with_reducible exact Calls.grow (kL.out _)) | (go_at_call 79; with_reducible exact Calls.grow (kF1.out _)))))
      refine wpQuiet_nil ?_
      rintro _ ⟨g, rfl⟩
      go_wp2
      have hgg : ∀ (h : Grow g.x) (b o : Nat), b < W.heap.size → h.x.cell? ⟨b, o, none⟩ = W.cell? ⟨b, o, none⟩ := fun h b o hb => (grow_cell g.x h b o (Nat.lt_of_lt_of_le hb g.size)).trans (grow_cell W g b o hb)
      refine wp_region_grow (by kernel_rfl) (by kernel_rfl) ?_
      repeat (go_big_quiet_step ((first | (go_at_call 39; with_reducible exact Calls.grow (kH.out _)) | (go_at_call 79; with_reducible exact Calls.grow (kF2.out _)))))
      refine wpQuiet_nil ?_
      rintro _ ⟨gx, rfl⟩
      clear hgg
      obtain ⟨g, hg⟩ := g.next gx.h
      rw [hg]
      clear hg gx
      go_wp2_with (first | (go_at_call 85; (with_reducible refine Calls.mono (kT2.out _) ?_); rintro e w1 ⟨rfl, hB⟩; (first | (obtain ⟨g, rfl⟩ := g.next hB) | (obtain ⟨g, rfl⟩ : ∃ g : Grow W, w1 = g.x := ⟨⟨w1, hB⟩, rfl⟩)); clear hB) | (go_at_call 86; (with_reducible refine Calls.mono (kR2.out _) ?_); rintro e w1 ⟨rfl, hB⟩; (first | (obtain ⟨g, rfl⟩ := g.next hB) | (obtain ⟨g, rfl⟩ : ∃ g : Grow W, w1 = g.x := ⟨⟨w1, hB⟩, rfl⟩)); clear hB))
      go_ret
      exact ⟨rfl, hBw.trans (g.h.mono hBw.size)⟩
  · have kT2 := Lib.hid (fun w => (kT.out w).mono fun e w' h => BoolB.lit h h3)
    simp only [if_true]
    clear kT kR
    go_enter Try.func44, Try.ntmps44
    go_wp2
    refine wp_region_grow (by kernel_rfl) (by kernel_rfl) ?_
    repeat (go_big_quiet_step ((first | (go_at_call 38; with_reducible exact Calls.grow (kL.out _)) | (go_at_call 79; with_reducible exact Calls.grow (kF1.out _)))))
    refine wpQuiet_nil ?_
    rintro _ ⟨g, rfl⟩
    go_wp2
    have hgg : ∀ (h : Grow g.x) (b o : Nat), b < W.heap.size → h.x.cell? ⟨b, o, none⟩ = W.cell? ⟨b, o, none⟩ := fun h b o hb => (grow_cell g.x h b o (Nat.lt_of_lt_of_le hb g.size)).trans (grow_cell W g b o hb)
    refine wp_region_grow (by kernel_rfl) (by kernel_rfl) ?_
    repeat (go_big_quiet_step ((first | (go_at_call 39; with_reducible exact Calls.grow (kH.out _)) | (go_at_call 79; with_reducible exact Calls.grow (kF2.out _)))))
    refine wpQuiet_nil ?_
    rintro _ ⟨gx, rfl⟩
    clear hgg
    obtain ⟨g, hg⟩ := g.next gx.h
    rw [hg]
    clear hg gx
    go_wp2_with (go_at_call 85; (with_reducible refine Calls.mono (kT2.out _) ?_); rintro e w1 ⟨rfl, hB⟩; (first | (obtain ⟨g, rfl⟩ := g.next hB) | (obtain ⟨g, rfl⟩ : ∃ g : Grow W, w1 = g.x := ⟨⟨w1, hB⟩, rfl⟩)); clear hB)
    go_ret
    exact ⟨rfl, hBw.trans (g.h.mono hBw.size)⟩


set_option maxRecDepth 100000 in
set_option maxHeartbeats 4000000 in
theorem progCheckT {c : Cav} {t : Bool} (w : World) (h : c.ok = t) : Calls Try.prog 41 #[cavV c] w fun e w' => e = .returned (.int .i64 (if t = true then 0 else 2)) ∧ Below w.heap.size w w' := by
  obtain ⟨W, hW⟩ : ∃ W, w.alloc (.cells #[.int .i64 c.vlo, .int .i64 c.vhi, .int .i64 c.least, .int .i64 c.most, .int .i64 c.f0, .int .i64 c.f1, .int .i64 c.h0, .int .i64 c.h1, .int .i64 c.rock, .int .i64 c.plo, .int .i64 c.phi] 26) = W := ⟨_, rfl⟩
  obtain ⟨eW0, bW0, sW0⟩ := boxed hW
  have hBw : Below w.heap.size w W := bW0
  obtain ⟨zW0, rW0, tW0⟩ := row_cells eW0
  obtain ⟨qW0_0, qW0_1, qW0_2, qW0_3, qW0_4, qW0_5, qW0_6, qW0_7, qW0_8, qW0_9, qW0_10⟩ := rc11 eW0
  clear rW0 tW0 eW0
  have xW0 : w.heap.size ≤ w.heap.size := by omega
  clear bW0 sW0
  cases t
  · have kV := Lib.hid (fun w => (progValid c w).mono fun e w' hb => BoolB.lit hb h)
    clear h
    go_enter Try.func41, Try.ntmps41
    go_wp2_with (go_at_call 53; (with_reducible refine Calls.mono (kV.out _) ?_); rintro e w1 ⟨rfl, hB⟩; (first | (obtain ⟨g, rfl⟩ := g.next hB) | (obtain ⟨g, rfl⟩ : ∃ g : Grow W, w1 = g.x := ⟨⟨w1, hB⟩, rfl⟩)); clear hB)
    go_ret
    exact ⟨rfl, hBw.trans (g.h.mono hBw.size)⟩
  · have kV := Lib.hid (fun w => (progValid c w).mono fun e w' hb => BoolB.lit hb h)
    clear h
    go_enter Try.func41, Try.ntmps41
    go_wp2_with (go_at_call 53; (with_reducible refine Calls.mono (kV.out _) ?_); rintro e w1 ⟨rfl, hB⟩; (first | (obtain ⟨g, rfl⟩ := g.next hB) | (obtain ⟨g, rfl⟩ : ∃ g : Grow W, w1 = g.x := ⟨⟨w1, hB⟩, rfl⟩)); clear hB)
    go_ret
    exact ⟨rfl, hBw.trans (g.h.mono hBw.size)⟩

set_option maxRecDepth 100000 in
set_option maxHeartbeats 4000000 in
theorem progSureBad1 {c : Cav} {s : St} (w : World) (hc : c.ok = false) : Calls Try.prog 36 #[cavV c, stV s] w fun e w' => e = .returned (.tuple #[.int .i64 0, .int .i64 2]) ∧ Below w.heap.size w w' := by
  obtain ⟨W1, hW1⟩ : ∃ W1, w.alloc (.cells #[.int .i64 c.vlo, .int .i64 c.vhi, .int .i64 c.least, .int .i64 c.most, .int .i64 c.f0, .int .i64 c.f1, .int .i64 c.h0, .int .i64 c.h1, .int .i64 c.rock, .int .i64 c.plo, .int .i64 c.phi] 26) = W1 := ⟨_, rfl⟩
  obtain ⟨eW0, bW0, sW0⟩ := boxed hW1
  have yW0_0 : w.heap.size < W1.heap.size := by omega
  obtain ⟨mW0_0_0, mW0_0_1, mW0_0_2, mW0_0_3, mW0_0_4, mW0_0_5, mW0_0_6, mW0_0_7, mW0_0_8, mW0_0_9, mW0_0_10⟩ := rc11 eW0
  obtain ⟨W2, hW2⟩ : ∃ W2, W1.alloc (.cells #[.int .i64 s.glo, .int .i64 s.ghi, .int .i64 s.ylo, .int .i64 s.yhi, .int .i64 s.tlo, .int .i64 s.thi, .int .i64 s.wlo, .int .i64 s.whi] 28) = W2 := ⟨_, rfl⟩
  obtain ⟨eW1, bW1, sW1⟩ := boxed hW2
  have yW1_0 : w.heap.size < W2.heap.size := by omega
  replace eW0 := (bW1.block _ (Array.getElem?_eq_some_iff.1 eW0).1).trans eW0
  obtain ⟨mW1_0_0, mW1_0_1, mW1_0_2, mW1_0_3, mW1_0_4, mW1_0_5, mW1_0_6, mW1_0_7, mW1_0_8, mW1_0_9, mW1_0_10⟩ := rc11 eW0
  have yW1_1 : W1.heap.size < W2.heap.size := by omega
  obtain ⟨mW1_1_0, mW1_1_1, mW1_1_2, mW1_1_3, mW1_1_4, mW1_1_5, mW1_1_6, mW1_1_7⟩ := rc8 eW1
  obtain ⟨W, hW⟩ : ∃ W, W2.alloc (.cells #[.int .i64 c.vlo, .int .i64 c.vhi, .int .i64 c.least, .int .i64 c.most, .int .i64 c.f0, .int .i64 c.f1, .int .i64 c.h0, .int .i64 c.h1, .int .i64 c.rock, .int .i64 c.plo, .int .i64 c.phi] 96) = W := ⟨_, rfl⟩
  obtain ⟨eW2, bW2, sW2⟩ := boxed hW
  replace eW0 := (bW2.block _ (Array.getElem?_eq_some_iff.1 eW0).1).trans eW0
  replace eW1 := (bW2.block _ (Array.getElem?_eq_some_iff.1 eW1).1).trans eW1
  have hBw : Below w.heap.size w W := (by have := sW0; have := sW1; have := sW2; exact ((bW0.trans (bW1.mono (by omega))).trans (bW2.mono (by omega))))
  obtain ⟨zW0, rW0, tW0⟩ := row_cells eW0
  obtain ⟨qW0_0, qW0_1, qW0_2, qW0_3, qW0_4, qW0_5, qW0_6, qW0_7, qW0_8, qW0_9, qW0_10⟩ := rc11 eW0
  obtain ⟨fW0_0, fW0_1, fW0_2, fW0_3, fW0_4, fW0_5, fW0_6, fW0_7, fW0_8, fW0_9, fW0_10⟩ := rf11 eW0
  clear rW0 tW0 eW0
  obtain ⟨zW1, rW1, tW1⟩ := row_cells eW1
  obtain ⟨qW1_0, qW1_1, qW1_2, qW1_3, qW1_4, qW1_5, qW1_6, qW1_7⟩ := rc8 eW1
  obtain ⟨fW1_0, fW1_1, fW1_2, fW1_3, fW1_4, fW1_5, fW1_6, fW1_7⟩ := rf8 eW1
  clear rW1 tW1 eW1
  obtain ⟨zW2, rW2, tW2⟩ := row_cells eW2
  obtain ⟨qW2_0, qW2_1, qW2_2, qW2_3, qW2_4, qW2_5, qW2_6, qW2_7, qW2_8, qW2_9, qW2_10⟩ := rc11 eW2
  obtain ⟨fW2_0, fW2_1, fW2_2, fW2_3, fW2_4, fW2_5, fW2_6, fW2_7, fW2_8, fW2_9, fW2_10⟩ := rf11 eW2
  clear rW2 tW2 eW2
  have xW0 : w.heap.size ≤ w.heap.size := by omega
  have xW1 : w.heap.size ≤ W1.heap.size := by omega
  have xW2 : w.heap.size ≤ W2.heap.size := by omega
  clear bW0 sW0 bW1 sW1 bW2 sW2
  have hgc := grow_cell W
  have kV := Lib.hid (fun w => (progValid c w).mono fun e w' hb => BoolB.lit hb hc)
  go_enter Try.func36, Try.ntmps36
  go_wp2_with (first | (go_at_call 53; (with_reducible refine Calls.mono (kV.out _) ?_); rintro e w1 ⟨rfl, hB⟩; (first | (obtain ⟨g, rfl⟩ := g.next hB) | (obtain ⟨g, rfl⟩ : ∃ g : Grow W, w1 = g.x := ⟨⟨w1, hB⟩, rfl⟩)); clear hB))
  go_ret2
  exact ⟨rfl, hBw.trans (g.h.mono hBw.size)⟩

set_option maxRecDepth 100000 in
set_option maxHeartbeats 4000000 in
theorem progSureBad2 {c : Cav} {s : St} (w : World) (hc : c.ok = true) (hs : s.ok = false) : Calls Try.prog 36 #[cavV c, stV s] w fun e w' => e = .returned (.tuple #[.int .i64 0, .int .i64 2]) ∧ Below w.heap.size w w' := by
  obtain ⟨W1, hW1⟩ : ∃ W1, w.alloc (.cells #[.int .i64 c.vlo, .int .i64 c.vhi, .int .i64 c.least, .int .i64 c.most, .int .i64 c.f0, .int .i64 c.f1, .int .i64 c.h0, .int .i64 c.h1, .int .i64 c.rock, .int .i64 c.plo, .int .i64 c.phi] 26) = W1 := ⟨_, rfl⟩
  obtain ⟨eW0, bW0, sW0⟩ := boxed hW1
  have yW0_0 : w.heap.size < W1.heap.size := by omega
  obtain ⟨mW0_0_0, mW0_0_1, mW0_0_2, mW0_0_3, mW0_0_4, mW0_0_5, mW0_0_6, mW0_0_7, mW0_0_8, mW0_0_9, mW0_0_10⟩ := rc11 eW0
  obtain ⟨W2, hW2⟩ : ∃ W2, W1.alloc (.cells #[.int .i64 s.glo, .int .i64 s.ghi, .int .i64 s.ylo, .int .i64 s.yhi, .int .i64 s.tlo, .int .i64 s.thi, .int .i64 s.wlo, .int .i64 s.whi] 28) = W2 := ⟨_, rfl⟩
  obtain ⟨eW1, bW1, sW1⟩ := boxed hW2
  have yW1_0 : w.heap.size < W2.heap.size := by omega
  replace eW0 := (bW1.block _ (Array.getElem?_eq_some_iff.1 eW0).1).trans eW0
  obtain ⟨mW1_0_0, mW1_0_1, mW1_0_2, mW1_0_3, mW1_0_4, mW1_0_5, mW1_0_6, mW1_0_7, mW1_0_8, mW1_0_9, mW1_0_10⟩ := rc11 eW0
  have yW1_1 : W1.heap.size < W2.heap.size := by omega
  obtain ⟨mW1_1_0, mW1_1_1, mW1_1_2, mW1_1_3, mW1_1_4, mW1_1_5, mW1_1_6, mW1_1_7⟩ := rc8 eW1
  obtain ⟨W, hW⟩ : ∃ W, W2.alloc (.cells #[.int .i64 c.vlo, .int .i64 c.vhi, .int .i64 c.least, .int .i64 c.most, .int .i64 c.f0, .int .i64 c.f1, .int .i64 c.h0, .int .i64 c.h1, .int .i64 c.rock, .int .i64 c.plo, .int .i64 c.phi] 96) = W := ⟨_, rfl⟩
  obtain ⟨eW2, bW2, sW2⟩ := boxed hW
  replace eW0 := (bW2.block _ (Array.getElem?_eq_some_iff.1 eW0).1).trans eW0
  replace eW1 := (bW2.block _ (Array.getElem?_eq_some_iff.1 eW1).1).trans eW1
  have hBw : Below w.heap.size w W := (by have := sW0; have := sW1; have := sW2; exact ((bW0.trans (bW1.mono (by omega))).trans (bW2.mono (by omega))))
  obtain ⟨zW0, rW0, tW0⟩ := row_cells eW0
  obtain ⟨qW0_0, qW0_1, qW0_2, qW0_3, qW0_4, qW0_5, qW0_6, qW0_7, qW0_8, qW0_9, qW0_10⟩ := rc11 eW0
  obtain ⟨fW0_0, fW0_1, fW0_2, fW0_3, fW0_4, fW0_5, fW0_6, fW0_7, fW0_8, fW0_9, fW0_10⟩ := rf11 eW0
  clear rW0 tW0 eW0
  obtain ⟨zW1, rW1, tW1⟩ := row_cells eW1
  obtain ⟨qW1_0, qW1_1, qW1_2, qW1_3, qW1_4, qW1_5, qW1_6, qW1_7⟩ := rc8 eW1
  obtain ⟨fW1_0, fW1_1, fW1_2, fW1_3, fW1_4, fW1_5, fW1_6, fW1_7⟩ := rf8 eW1
  clear rW1 tW1 eW1
  obtain ⟨zW2, rW2, tW2⟩ := row_cells eW2
  obtain ⟨qW2_0, qW2_1, qW2_2, qW2_3, qW2_4, qW2_5, qW2_6, qW2_7, qW2_8, qW2_9, qW2_10⟩ := rc11 eW2
  obtain ⟨fW2_0, fW2_1, fW2_2, fW2_3, fW2_4, fW2_5, fW2_6, fW2_7, fW2_8, fW2_9, fW2_10⟩ := rf11 eW2
  clear rW2 tW2 eW2
  have xW0 : w.heap.size ≤ w.heap.size := by omega
  have xW1 : w.heap.size ≤ W1.heap.size := by omega
  have xW2 : w.heap.size ≤ W2.heap.size := by omega
  clear bW0 sW0 bW1 sW1 bW2 sW2
  have hgc := grow_cell W
  have kV := Lib.hid (fun w => (progValid c w).mono fun e w' hb => BoolB.lit hb hc)
  have kS := Lib.hid (fun w => (progState s w).mono fun e w' hb => BoolB.lit hb hs)
  go_enter Try.func36, Try.ntmps36
  go_wp2_with (first | (go_at_call 53; (with_reducible refine Calls.mono (kV.out _) ?_); rintro e w1 ⟨rfl, hB⟩; (first | (obtain ⟨g, rfl⟩ := g.next hB) | (obtain ⟨g, rfl⟩ : ∃ g : Grow W, w1 = g.x := ⟨⟨w1, hB⟩, rfl⟩)); clear hB) | (go_at_call 54; (with_reducible refine Calls.mono (kS.out _) ?_); rintro e w1 ⟨rfl, hB⟩; (first | (obtain ⟨g, rfl⟩ := g.next hB) | (obtain ⟨g, rfl⟩ : ∃ g : Grow W, w1 = g.x := ⟨⟨w1, hB⟩, rfl⟩)); clear hB))
  go_ret2
  exact ⟨rfl, hBw.trans (g.h.mono hBw.size)⟩

set_option maxRecDepth 100000 in
set_option maxHeartbeats 4000000 in
theorem progSureOk {c : Cav} {s : St} (w : World) (hc : c.ok = true) (hs : s.ok = true) : Calls Try.prog 36 #[cavV c, stV s] w fun e w' => e = .returned (.tuple #[.int .i64 (sure c s), .int .i64 0]) ∧ Below w.heap.size w w' := by
  obtain ⟨W1, hW1⟩ : ∃ W1, w.alloc (.cells #[.int .i64 c.vlo, .int .i64 c.vhi, .int .i64 c.least, .int .i64 c.most, .int .i64 c.f0, .int .i64 c.f1, .int .i64 c.h0, .int .i64 c.h1, .int .i64 c.rock, .int .i64 c.plo, .int .i64 c.phi] 26) = W1 := ⟨_, rfl⟩
  obtain ⟨eW0, bW0, sW0⟩ := boxed hW1
  have yW0_0 : w.heap.size < W1.heap.size := by omega
  obtain ⟨mW0_0_0, mW0_0_1, mW0_0_2, mW0_0_3, mW0_0_4, mW0_0_5, mW0_0_6, mW0_0_7, mW0_0_8, mW0_0_9, mW0_0_10⟩ := rc11 eW0
  obtain ⟨W2, hW2⟩ : ∃ W2, W1.alloc (.cells #[.int .i64 s.glo, .int .i64 s.ghi, .int .i64 s.ylo, .int .i64 s.yhi, .int .i64 s.tlo, .int .i64 s.thi, .int .i64 s.wlo, .int .i64 s.whi] 28) = W2 := ⟨_, rfl⟩
  obtain ⟨eW1, bW1, sW1⟩ := boxed hW2
  have yW1_0 : w.heap.size < W2.heap.size := by omega
  replace eW0 := (bW1.block _ (Array.getElem?_eq_some_iff.1 eW0).1).trans eW0
  obtain ⟨mW1_0_0, mW1_0_1, mW1_0_2, mW1_0_3, mW1_0_4, mW1_0_5, mW1_0_6, mW1_0_7, mW1_0_8, mW1_0_9, mW1_0_10⟩ := rc11 eW0
  have yW1_1 : W1.heap.size < W2.heap.size := by omega
  obtain ⟨mW1_1_0, mW1_1_1, mW1_1_2, mW1_1_3, mW1_1_4, mW1_1_5, mW1_1_6, mW1_1_7⟩ := rc8 eW1
  obtain ⟨W, hW⟩ : ∃ W, W2.alloc (.cells #[.int .i64 c.vlo, .int .i64 c.vhi, .int .i64 c.least, .int .i64 c.most, .int .i64 c.f0, .int .i64 c.f1, .int .i64 c.h0, .int .i64 c.h1, .int .i64 c.rock, .int .i64 c.plo, .int .i64 c.phi] 96) = W := ⟨_, rfl⟩
  obtain ⟨eW2, bW2, sW2⟩ := boxed hW
  replace eW0 := (bW2.block _ (Array.getElem?_eq_some_iff.1 eW0).1).trans eW0
  replace eW1 := (bW2.block _ (Array.getElem?_eq_some_iff.1 eW1).1).trans eW1
  have hBw : Below w.heap.size w W := (by have := sW0; have := sW1; have := sW2; exact ((bW0.trans (bW1.mono (by omega))).trans (bW2.mono (by omega))))
  obtain ⟨zW0, rW0, tW0⟩ := row_cells eW0
  obtain ⟨qW0_0, qW0_1, qW0_2, qW0_3, qW0_4, qW0_5, qW0_6, qW0_7, qW0_8, qW0_9, qW0_10⟩ := rc11 eW0
  obtain ⟨fW0_0, fW0_1, fW0_2, fW0_3, fW0_4, fW0_5, fW0_6, fW0_7, fW0_8, fW0_9, fW0_10⟩ := rf11 eW0
  clear rW0 tW0 eW0
  obtain ⟨zW1, rW1, tW1⟩ := row_cells eW1
  obtain ⟨qW1_0, qW1_1, qW1_2, qW1_3, qW1_4, qW1_5, qW1_6, qW1_7⟩ := rc8 eW1
  obtain ⟨fW1_0, fW1_1, fW1_2, fW1_3, fW1_4, fW1_5, fW1_6, fW1_7⟩ := rf8 eW1
  clear rW1 tW1 eW1
  obtain ⟨zW2, rW2, tW2⟩ := row_cells eW2
  obtain ⟨qW2_0, qW2_1, qW2_2, qW2_3, qW2_4, qW2_5, qW2_6, qW2_7, qW2_8, qW2_9, qW2_10⟩ := rc11 eW2
  obtain ⟨fW2_0, fW2_1, fW2_2, fW2_3, fW2_4, fW2_5, fW2_6, fW2_7, fW2_8, fW2_9, fW2_10⟩ := rf11 eW2
  clear rW2 tW2 eW2
  have xW0 : w.heap.size ≤ w.heap.size := by omega
  have xW1 : w.heap.size ≤ W1.heap.size := by omega
  have xW2 : w.heap.size ≤ W2.heap.size := by omega
  clear bW0 sW0 bW1 sW1 bW2 sW2
  have hgc := grow_cell W
  have kV := Lib.hid (fun w => (progValid c w).mono fun e w' hb => BoolB.lit hb hc)
  have kS := Lib.hid (fun w => (progState s w).mono fun e w' hb => BoolB.lit hb hs)
  have kR := Lib.hid (fun w => progRule c s w (Cav.ok_iff.1 hc) (St.ok_iff.1 hs))
  go_enter Try.func36, Try.ntmps36
  go_wp2_with (first | (go_at_call 53; (with_reducible refine Calls.mono (kV.out _) ?_); rintro e w1 ⟨rfl, hB⟩; (first | (obtain ⟨g, rfl⟩ := g.next hB) | (obtain ⟨g, rfl⟩ : ∃ g : Grow W, w1 = g.x := ⟨⟨w1, hB⟩, rfl⟩)); clear hB) | (go_at_call 54; (with_reducible refine Calls.mono (kS.out _) ?_); rintro e w1 ⟨rfl, hB⟩; (first | (obtain ⟨g, rfl⟩ := g.next hB) | (obtain ⟨g, rfl⟩ : ∃ g : Grow W, w1 = g.x := ⟨⟨w1, hB⟩, rfl⟩)); clear hB) | (go_at_call 78; (with_reducible refine Calls.mono (kR.out _) ?_); rintro e w1 ⟨rfl, hB⟩; (first | (obtain ⟨g, rfl⟩ := g.next hB) | (obtain ⟨g, rfl⟩ : ∃ g : Grow W, w1 = g.x := ⟨⟨w1, hB⟩, rfl⟩)); clear hB))
  go_ret2
  exact ⟨rfl, hBw.trans (g.h.mono hBw.size)⟩
end Go.Proofs.Ytgmbolagciaenaa
