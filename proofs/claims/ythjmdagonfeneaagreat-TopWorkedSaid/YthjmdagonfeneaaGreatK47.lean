/- Laws and walks: Twt. -/
import Derived.Test.YthjmdagonfeneaaGreatK46
set_option maxRecDepth 100000
set_option maxHeartbeats 16000000
set_option linter.unusedVariables false
set_option linter.unusedSimpArgs false
namespace Go.Proofs.YthjmdagonfeneaaGreat.W
open Go.RowKit Go.Sd Gas G
theorem below_trg {w X y : World} (h : Below w.heap.size w X) (k : Below X.heap.size X y) : Below w.heap.size w y := h.trans (k.mono h.size)
theorem lawWorked (s : Sea.S) (sv nv : Value) (noms : List Int) (c : Cav) (x : St) (l p : Pt) (v : Int) (w : World)
    (hs : S.SeasonAt w sv s) (hn : S.IntsAt w nv noms) :
    Calls Tryz.prog 3 #[sv, nv, cavV c, stV x, ptV l, ptV p, .int .i64 v] w fun e w' => e = .returned (.bool true) ∧ Below w.heap.size w w' := by
 have kK := Lib.hid (fun X => L.known11 X)
 obtain ⟨rv, dv, rfl, hr, hd⟩ := hs
 have hr' := hr
 obtain ⟨ra, rcap, rfl, hrm, -⟩ := hr'
 have hd' := hd
 obtain ⟨da, dcap, rfl, hdm, hdc⟩ := hd'
 have hs : S.SeasonAt w (.agg #[.int .i64 s.space, .int .i64 s.start, .int .i64 s.elo, .int .i64 s.ehi, .slice ra s.rows.length rcap, .slice da s.days.length dcap]) s := ⟨_, _, rfl, hr, hd⟩
 have hn' := hn
 obtain ⟨na, ncap, rfl, hnm, hnc⟩ := hn'
 unfold maxLen at hrm hdm hnm
 obtain ⟨W1, hW1⟩ : ∃ W1, w.alloc (.cells #[.int .i64 s.space, .int .i64 s.start, .int .i64 s.elo, .int .i64 s.ehi, .slice ra s.rows.length rcap, .slice da s.days.length dcap] 27) = W1 := ⟨_, rfl⟩
 obtain ⟨eW0, bW0, sW0⟩ := boxed hW1
 have yW0_0 : w.heap.size < W1.heap.size := by omega
 obtain ⟨mW0_0_0, mW0_0_1, mW0_0_2, mW0_0_3, mW0_0_4, mW0_0_5⟩ := rc6 eW0
 obtain ⟨W2, hW2⟩ : ∃ W2, W1.alloc (.cells #[.int .i64 c.vlo, .int .i64 c.vhi, .int .i64 c.least, .int .i64 c.most, .int .i64 c.f0, .int .i64 c.f1, .int .i64 c.h0, .int .i64 c.h1, .int .i64 c.rock, .int .i64 c.plo, .int .i64 c.phi] 31) = W2 := ⟨_, rfl⟩
 obtain ⟨eW1, bW1, sW1⟩ := boxed hW2
 have yW1_0 : w.heap.size < W2.heap.size := by omega
 replace eW0 := (bW1.block _ (zqo eW0)).trans eW0
 obtain ⟨mW1_0_0, mW1_0_1, mW1_0_2, mW1_0_3, mW1_0_4, mW1_0_5⟩ := rc6 eW0
 have yW1_1 : W1.heap.size < W2.heap.size := by omega
 obtain ⟨mW1_1_0, mW1_1_1, mW1_1_2, mW1_1_3, mW1_1_4, mW1_1_5, mW1_1_6, mW1_1_7, mW1_1_8, mW1_1_9, mW1_1_10⟩ := rc11 eW1
 obtain ⟨W3, hW3⟩ : ∃ W3, W2.alloc (.cells #[.int .i64 x.glo, .int .i64 x.ghi, .int .i64 x.ylo, .int .i64 x.yhi, .int .i64 x.tlo, .int .i64 x.thi, .int .i64 x.wlo, .int .i64 x.whi] 33) = W3 := ⟨_, rfl⟩
 obtain ⟨eW2, bW2, sW2⟩ := boxed hW3
 have yW2_0 : w.heap.size < W3.heap.size := by omega
 replace eW0 := (bW2.block _ (zqo eW0)).trans eW0
 obtain ⟨mW2_0_0, mW2_0_1, mW2_0_2, mW2_0_3, mW2_0_4, mW2_0_5⟩ := rc6 eW0
 have yW2_1 : W1.heap.size < W3.heap.size := by omega
 replace eW1 := (bW2.block _ (zqo eW1)).trans eW1
 obtain ⟨mW2_1_0, mW2_1_1, mW2_1_2, mW2_1_3, mW2_1_4, mW2_1_5, mW2_1_6, mW2_1_7, mW2_1_8, mW2_1_9, mW2_1_10⟩ := rc11 eW1
 have yW2_2 : W2.heap.size < W3.heap.size := by omega
 obtain ⟨mW2_2_0, mW2_2_1, mW2_2_2, mW2_2_3, mW2_2_4, mW2_2_5, mW2_2_6, mW2_2_7⟩ := rc8 eW2
 obtain ⟨W4, hW4⟩ : ∃ W4, W3.alloc (.cells #[.int .i64 l.g, .int .i64 l.y, .int .i64 l.t, .int .i64 l.w] 35) = W4 := ⟨_, rfl⟩
 obtain ⟨eW3, bW3, sW3⟩ := boxed hW4
 have yW3_0 : w.heap.size < W4.heap.size := by omega
 replace eW0 := (bW3.block _ (zqo eW0)).trans eW0
 obtain ⟨mW3_0_0, mW3_0_1, mW3_0_2, mW3_0_3, mW3_0_4, mW3_0_5⟩ := rc6 eW0
 have yW3_1 : W1.heap.size < W4.heap.size := by omega
 replace eW1 := (bW3.block _ (zqo eW1)).trans eW1
 obtain ⟨mW3_1_0, mW3_1_1, mW3_1_2, mW3_1_3, mW3_1_4, mW3_1_5, mW3_1_6, mW3_1_7, mW3_1_8, mW3_1_9, mW3_1_10⟩ := rc11 eW1
 have yW3_2 : W2.heap.size < W4.heap.size := by omega
 replace eW2 := (bW3.block _ (zqo eW2)).trans eW2
 obtain ⟨mW3_2_0, mW3_2_1, mW3_2_2, mW3_2_3, mW3_2_4, mW3_2_5, mW3_2_6, mW3_2_7⟩ := rc8 eW2
 have yW3_3 : W3.heap.size < W4.heap.size := by omega
 obtain ⟨mW3_3_0, mW3_3_1, mW3_3_2, mW3_3_3⟩ := rc4 eW3
 obtain ⟨W, hW⟩ : ∃ W, W4.alloc (.cells #[.int .i64 p.g, .int .i64 p.y, .int .i64 p.t, .int .i64 p.w] 35) = W := ⟨_, rfl⟩
 obtain ⟨eW4, bW4, sW4⟩ := boxed hW
 replace eW0 := (bW4.block _ (zqo eW0)).trans eW0
 replace eW1 := (bW4.block _ (zqo eW1)).trans eW1
 replace eW2 := (bW4.block _ (zqo eW2)).trans eW2
 replace eW3 := (bW4.block _ (zqo eW3)).trans eW3
 have hBw : Below w.heap.size w W := (by have := sW0; have := sW1; have := sW2; have := sW3; have := sW4; exact ((((bW0.trans (bW1.mono (by omega))).trans (bW2.mono (by omega))).trans (bW3.mono (by omega))).trans (bW4.mono (by omega))))
 obtain ⟨zW0, rW0, tW0⟩ := row_cells eW0
 obtain ⟨qW0_0, qW0_1, qW0_2, qW0_3, qW0_4, qW0_5⟩ := rc6 eW0
 obtain ⟨fW0_0, fW0_1, fW0_2, fW0_3, fW0_4, fW0_5⟩ := rf6 eW0
 have EW0 := Lib.hid eW0
 clear rW0 tW0 eW0
 obtain ⟨zW1, rW1, tW1⟩ := row_cells eW1
 obtain ⟨qW1_0, qW1_1, qW1_2, qW1_3, qW1_4, qW1_5, qW1_6, qW1_7, qW1_8, qW1_9, qW1_10⟩ := rc11 eW1
 obtain ⟨fW1_0, fW1_1, fW1_2, fW1_3, fW1_4, fW1_5, fW1_6, fW1_7, fW1_8, fW1_9, fW1_10⟩ := rf11 eW1
 have EW1 := Lib.hid eW1
 clear rW1 tW1 eW1
 obtain ⟨zW2, rW2, tW2⟩ := row_cells eW2
 obtain ⟨qW2_0, qW2_1, qW2_2, qW2_3, qW2_4, qW2_5, qW2_6, qW2_7⟩ := rc8 eW2
 obtain ⟨fW2_0, fW2_1, fW2_2, fW2_3, fW2_4, fW2_5, fW2_6, fW2_7⟩ := rf8 eW2
 have EW2 := Lib.hid eW2
 clear rW2 tW2 eW2
 obtain ⟨zW3, rW3, tW3⟩ := row_cells eW3
 obtain ⟨qW3_0, qW3_1, qW3_2, qW3_3⟩ := rc4 eW3
 obtain ⟨fW3_0, fW3_1, fW3_2, fW3_3⟩ := rf4 eW3
 have EW3 := Lib.hid eW3
 clear rW3 tW3 eW3
 obtain ⟨zW4, rW4, tW4⟩ := row_cells eW4
 obtain ⟨qW4_0, qW4_1, qW4_2, qW4_3⟩ := rc4 eW4
 obtain ⟨fW4_0, fW4_1, fW4_2, fW4_3⟩ := rf4 eW4
 have EW4 := Lib.hid eW4
 clear rW4 tW4 eW4
 have xW0 : w.heap.size ≤ w.heap.size := by omega
 have xW1 : w.heap.size ≤ W1.heap.size := by omega
 have xW2 : w.heap.size ≤ W2.heap.size := by omega
 have xW3 : w.heap.size ≤ W3.heap.size := by omega
 have xW4 : w.heap.size ≤ W4.heap.size := by omega
 clear bW0 sW0 bW1 sW1 bW2 sW2 bW3 sW3 bW4 sW4
 have hsW := hs.mono hBw
 have hnW := hn.mono hBw
 have hr9 : (s.rows.length : Int) ≤ 9223372036854775807 := by omega
 have hd9 : (s.days.length : Int) ≤ 9223372036854775807 := by omega
 have hn9 : (noms.length : Int) ≤ 9223372036854775807 := by omega
 have hgW := grow_cell W
 by_cases t0 : s.rows.length ≤ 12
 case neg =>
  have i0 : (12 : Int) < s.rows.length := by omega
  replace t0 := Lib.hid t0
  clear hs hn hsW hnW hr hd hdc hnc
  go_enter Tryz.func3, Tryz.ntmps3
  go_wp2_with (first | (go_at_call 10; (with_reducible refine Calls.mono (kK.out _) ?_); rintro e w9 ⟨rfl, hB9⟩))
  go_ret
  exact ⟨rfl, below_trg hBw (hB9)⟩
 have i0 : ¬ (12 : Int) < s.rows.length := by omega
 by_cases t1 : s.days.length ≤ 6
 case neg =>
  have i1 : (6 : Int) < s.days.length := by omega
  replace t0 := Lib.hid t0; replace t1 := Lib.hid t1
  clear hs hn hsW hnW hr hd hdc hnc
  go_enter Tryz.func3, Tryz.ntmps3
  go_wp2_with (first | (go_at_call 10; (with_reducible refine Calls.mono (kK.out _) ?_); rintro e w9 ⟨rfl, hB9⟩))
  go_ret
  exact ⟨rfl, below_trg hBw (hB9)⟩
 have i1 : ¬ (6 : Int) < s.days.length := by omega
 by_cases t2 : noms.length ≤ 20
 case neg =>
  have i2 : (20 : Int) < noms.length := by omega
  replace t0 := Lib.hid t0; replace t1 := Lib.hid t1; replace t2 := Lib.hid t2
  clear hs hn hsW hnW hr hd hdc hnc
  go_enter Tryz.func3, Tryz.ntmps3
  go_wp2_with (first | (go_at_call 10; (with_reducible refine Calls.mono (kK.out _) ?_); rintro e w9 ⟨rfl, hB9⟩))
  go_ret
  exact ⟨rfl, below_trg hBw (hB9)⟩
 have i2 : ¬ (20 : Int) < noms.length := by omega
 cases t3 : Sea.validB s
 case false =>
  have kV : Hid (∀ X, Below W.heap.size W X → Calls Tryz.prog 4 #[.agg #[.int .i64 s.space, .int .i64 s.start, .int .i64 s.elo, .int .i64 s.ehi, .slice ra s.rows.length rcap, .slice da s.days.length dcap]] X fun e w' => e = .returned (.bool false) ∧ Below X.heap.size X w') := Lib.hid (fun X hX => S.refSeasonT X (hsW.mono hX) t3)
  replace t0 := Lib.hid t0; replace t1 := Lib.hid t1; replace t2 := Lib.hid t2; replace t3 := Lib.hid t3
  clear hs hn hsW hnW hr hd hdc hnc
  go_enter Tryz.func3, Tryz.ntmps3
  go_wp2_with (first | (go_at_call 4; refine Calls.mono (kV.out _ (Below.refl _ _)) ?_; rintro e w1 ⟨rfl, hB⟩; (first | (obtain ⟨g, rfl⟩ := g.next hB) | (obtain ⟨g, rfl⟩ : ∃ g : Grow W, w1 = g.x := ⟨⟨w1, hB⟩, rfl⟩)); clear hB) | (go_at_call 10; (with_reducible refine Calls.mono (kK.out _) ?_); rintro e w9 ⟨rfl, hB9⟩))
  go_ret
  exact ⟨rfl, below_trg hBw (below_trg g.h hB9)⟩
 have kV : Hid (∀ X, Below W.heap.size W X → Calls Tryz.prog 4 #[.agg #[.int .i64 s.space, .int .i64 s.start, .int .i64 s.elo, .int .i64 s.ehi, .slice ra s.rows.length rcap, .slice da s.days.length dcap]] X fun e w' => e = .returned (.bool true) ∧ Below X.heap.size X w') := Lib.hid (fun X hX => S.refSeasonT X (hsW.mono hX) t3)
 by_cases t4 : s.space ≤ 30
 case neg =>
  have i4 : (30 : Int) < s.space := by omega
  replace t0 := Lib.hid t0; replace t1 := Lib.hid t1; replace t2 := Lib.hid t2; replace t3 := Lib.hid t3; replace t4 := Lib.hid t4
  clear hs hn hsW hnW hr hd hdc hnc
  go_enter Tryz.func3, Tryz.ntmps3
  go_wp2_with (first | (go_at_call 4; refine Calls.mono (kV.out _ (Below.refl _ _)) ?_; rintro e w1 ⟨rfl, hB⟩; (first | (obtain ⟨g, rfl⟩ := g.next hB) | (obtain ⟨g, rfl⟩ : ∃ g : Grow W, w1 = g.x := ⟨⟨w1, hB⟩, rfl⟩)); clear hB) | (go_at_call 10; (with_reducible refine Calls.mono (kK.out _) ?_); rintro e w9 ⟨rfl, hB9⟩))
  go_ret
  exact ⟨rfl, below_trg hBw (below_trg g.h hB9)⟩
 have i4 : ¬ (30 : Int) < s.space := by omega
 cases t5 : s.nomsB noms
 case false =>
  have kN : Hid (∀ X, Below W.heap.size W X → Calls Tryz.prog 5 #[.agg #[.int .i64 s.space, .int .i64 s.start, .int .i64 s.elo, .int .i64 s.ehi, .slice ra s.rows.length rcap, .slice da s.days.length dcap], .slice na noms.length ncap] X fun e w' => e = .returned (.bool false) ∧ Below X.heap.size X w') := Lib.hid (fun X hX => S.refNomsT X (hsW.mono hX) (hnW.mono hX) t5)
  replace t0 := Lib.hid t0; replace t1 := Lib.hid t1; replace t2 := Lib.hid t2; replace t3 := Lib.hid t3; replace t4 := Lib.hid t4; replace t5 := Lib.hid t5
  clear hs hn hsW hnW hr hd hdc hnc
  go_enter Tryz.func3, Tryz.ntmps3
  go_wp2_with (first | (go_at_call 4; refine Calls.mono (kV.out _ (Below.refl _ _)) ?_; rintro e w1 ⟨rfl, hB⟩; (first | (obtain ⟨g, rfl⟩ := g.next hB) | (obtain ⟨g, rfl⟩ : ∃ g : Grow W, w1 = g.x := ⟨⟨w1, hB⟩, rfl⟩)); clear hB) | (go_at_call 5; refine Calls.mono (kN.out _ g.h) ?_; rintro e w1 ⟨rfl, hB⟩; (first | (obtain ⟨g, rfl⟩ := g.next hB) | (obtain ⟨g, rfl⟩ : ∃ g : Grow W, w1 = g.x := ⟨⟨w1, hB⟩, rfl⟩)); clear hB) | (go_at_call 10; (with_reducible refine Calls.mono (kK.out _) ?_); rintro e w9 ⟨rfl, hB9⟩))
  go_ret
  exact ⟨rfl, below_trg hBw (below_trg g.h hB9)⟩
 have kN : Hid (∀ X, Below W.heap.size W X → Calls Tryz.prog 5 #[.agg #[.int .i64 s.space, .int .i64 s.start, .int .i64 s.elo, .int .i64 s.ehi, .slice ra s.rows.length rcap, .slice da s.days.length dcap], .slice na noms.length ncap] X fun e w' => e = .returned (.bool true) ∧ Below X.heap.size X w') := Lib.hid (fun X hX => S.refNomsT X (hsW.mono hX) (hnW.mono hX) t5)
 cases t6 : c.ok
 case false =>
  have kC : Hid (∀ X, Calls Tryz.prog 6 #[cavV c] X fun e w' => e = .returned (.bool false) ∧ Below X.heap.size X w') := Lib.hid (fun X => (refCavern c X).mono (fun e w' (h : BoolB _ _ e w') => h.lit t6))
  replace t0 := Lib.hid t0; replace t1 := Lib.hid t1; replace t2 := Lib.hid t2; replace t3 := Lib.hid t3; replace t4 := Lib.hid t4; replace t5 := Lib.hid t5; replace t6 := Lib.hid t6
  clear hs hn hsW hnW hr hd hdc hnc
  go_enter Tryz.func3, Tryz.ntmps3
  go_wp2_with (first | (go_at_call 4; refine Calls.mono (kV.out _ (Below.refl _ _)) ?_; rintro e w1 ⟨rfl, hB⟩; (first | (obtain ⟨g, rfl⟩ := g.next hB) | (obtain ⟨g, rfl⟩ : ∃ g : Grow W, w1 = g.x := ⟨⟨w1, hB⟩, rfl⟩)); clear hB) | (go_at_call 5; refine Calls.mono (kN.out _ g.h) ?_; rintro e w1 ⟨rfl, hB⟩; (first | (obtain ⟨g, rfl⟩ := g.next hB) | (obtain ⟨g, rfl⟩ : ∃ g : Grow W, w1 = g.x := ⟨⟨w1, hB⟩, rfl⟩)); clear hB) | (go_at_call 6; refine Calls.mono (kC.out _) ?_; rintro e w1 ⟨rfl, hB⟩; (first | (obtain ⟨g, rfl⟩ := g.next hB) | (obtain ⟨g, rfl⟩ : ∃ g : Grow W, w1 = g.x := ⟨⟨w1, hB⟩, rfl⟩)); clear hB) | (go_at_call 10; (with_reducible refine Calls.mono (kK.out _) ?_); rintro e w9 ⟨rfl, hB9⟩))
  go_ret
  exact ⟨rfl, below_trg hBw (below_trg g.h hB9)⟩
 have kC : Hid (∀ X, Calls Tryz.prog 6 #[cavV c] X fun e w' => e = .returned (.bool true) ∧ Below X.heap.size X w') := Lib.hid (fun X => (refCavern c X).mono (fun e w' (h : BoolB _ _ e w') => h.lit t6))
 cases t7 : x.ok
 case false =>
  have kX : Hid (∀ X, Calls Tryz.prog 7 #[stV x] X fun e w' => e = .returned (.bool false) ∧ Below X.heap.size X w') := Lib.hid (fun X => (refState x X).mono (fun e w' (h : BoolB _ _ e w') => h.lit t7))
  replace t0 := Lib.hid t0; replace t1 := Lib.hid t1; replace t2 := Lib.hid t2; replace t3 := Lib.hid t3; replace t4 := Lib.hid t4; replace t5 := Lib.hid t5; replace t6 := Lib.hid t6; replace t7 := Lib.hid t7
  clear hs hn hsW hnW hr hd hdc hnc
  go_enter Tryz.func3, Tryz.ntmps3
  go_wp2_with (first | (go_at_call 4; refine Calls.mono (kV.out _ (Below.refl _ _)) ?_; rintro e w1 ⟨rfl, hB⟩; (first | (obtain ⟨g, rfl⟩ := g.next hB) | (obtain ⟨g, rfl⟩ : ∃ g : Grow W, w1 = g.x := ⟨⟨w1, hB⟩, rfl⟩)); clear hB) | (go_at_call 5; refine Calls.mono (kN.out _ g.h) ?_; rintro e w1 ⟨rfl, hB⟩; (first | (obtain ⟨g, rfl⟩ := g.next hB) | (obtain ⟨g, rfl⟩ : ∃ g : Grow W, w1 = g.x := ⟨⟨w1, hB⟩, rfl⟩)); clear hB) | (go_at_call 6; refine Calls.mono (kC.out _) ?_; rintro e w1 ⟨rfl, hB⟩; (first | (obtain ⟨g, rfl⟩ := g.next hB) | (obtain ⟨g, rfl⟩ : ∃ g : Grow W, w1 = g.x := ⟨⟨w1, hB⟩, rfl⟩)); clear hB) | (go_at_call 7; refine Calls.mono (kX.out _) ?_; rintro e w1 ⟨rfl, hB⟩; (first | (obtain ⟨g, rfl⟩ := g.next hB) | (obtain ⟨g, rfl⟩ : ∃ g : Grow W, w1 = g.x := ⟨⟨w1, hB⟩, rfl⟩)); clear hB) | (go_at_call 10; (with_reducible refine Calls.mono (kK.out _) ?_); rintro e w9 ⟨rfl, hB9⟩))
  go_ret
  exact ⟨rfl, below_trg hBw (below_trg g.h hB9)⟩
 have kX : Hid (∀ X, Calls Tryz.prog 7 #[stV x] X fun e w' => e = .returned (.bool true) ∧ Below X.heap.size X w') := Lib.hid (fun X => (refState x X).mono (fun e w' (h : BoolB _ _ e w') => h.lit t7))
 cases t8 : l.ok
 case false =>
  have kP : Hid (∀ X, Calls Tryz.prog 8 #[ptV l] X fun e w' => e = .returned (.bool false) ∧ Below X.heap.size X w') := Lib.hid (fun X => (refPoint l X).mono (fun e w' (h : BoolB _ _ e w') => h.lit t8))
  replace t0 := Lib.hid t0; replace t1 := Lib.hid t1; replace t2 := Lib.hid t2; replace t3 := Lib.hid t3; replace t4 := Lib.hid t4; replace t5 := Lib.hid t5; replace t6 := Lib.hid t6; replace t7 := Lib.hid t7; replace t8 := Lib.hid t8
  clear hs hn hsW hnW hr hd hdc hnc
  go_enter Tryz.func3, Tryz.ntmps3
  go_wp2_with (first | (go_at_call 4; refine Calls.mono (kV.out _ (Below.refl _ _)) ?_; rintro e w1 ⟨rfl, hB⟩; (first | (obtain ⟨g, rfl⟩ := g.next hB) | (obtain ⟨g, rfl⟩ : ∃ g : Grow W, w1 = g.x := ⟨⟨w1, hB⟩, rfl⟩)); clear hB) | (go_at_call 5; refine Calls.mono (kN.out _ g.h) ?_; rintro e w1 ⟨rfl, hB⟩; (first | (obtain ⟨g, rfl⟩ := g.next hB) | (obtain ⟨g, rfl⟩ : ∃ g : Grow W, w1 = g.x := ⟨⟨w1, hB⟩, rfl⟩)); clear hB) | (go_at_call 6; refine Calls.mono (kC.out _) ?_; rintro e w1 ⟨rfl, hB⟩; (first | (obtain ⟨g, rfl⟩ := g.next hB) | (obtain ⟨g, rfl⟩ : ∃ g : Grow W, w1 = g.x := ⟨⟨w1, hB⟩, rfl⟩)); clear hB) | (go_at_call 7; refine Calls.mono (kX.out _) ?_; rintro e w1 ⟨rfl, hB⟩; (first | (obtain ⟨g, rfl⟩ := g.next hB) | (obtain ⟨g, rfl⟩ : ∃ g : Grow W, w1 = g.x := ⟨⟨w1, hB⟩, rfl⟩)); clear hB) | (go_at_call 8; refine Calls.mono (kP.out _) ?_; rintro e w1 ⟨rfl, hB⟩; (first | (obtain ⟨g, rfl⟩ := g.next hB) | (obtain ⟨g, rfl⟩ : ∃ g : Grow W, w1 = g.x := ⟨⟨w1, hB⟩, rfl⟩)); clear hB) | (go_at_call 10; (with_reducible refine Calls.mono (kK.out _) ?_); rintro e w9 ⟨rfl, hB9⟩))
  go_ret
  exact ⟨rfl, below_trg hBw (below_trg g.h hB9)⟩
 have kP : Hid (∀ X, Calls Tryz.prog 8 #[ptV l] X fun e w' => e = .returned (.bool true) ∧ Below X.heap.size X w') := Lib.hid (fun X => (refPoint l X).mono (fun e w' (h : BoolB _ _ e w') => h.lit t8))
 cases t9 : hasB x p
 case false =>
  have kH : Hid (∀ X, Calls Tryz.prog 9 #[stV x, ptV p] X fun e w' => e = .returned (.bool false) ∧ Below X.heap.size X w') := Lib.hid (fun X => (refHas x p X).mono (fun e w' (h : BoolB _ _ e w') => h.lit t9))
  replace t0 := Lib.hid t0; replace t1 := Lib.hid t1; replace t2 := Lib.hid t2; replace t3 := Lib.hid t3; replace t4 := Lib.hid t4; replace t5 := Lib.hid t5; replace t6 := Lib.hid t6; replace t7 := Lib.hid t7; replace t8 := Lib.hid t8; replace t9 := Lib.hid t9
  clear hs hn hsW hnW hr hd hdc hnc
  go_enter Tryz.func3, Tryz.ntmps3
  go_wp2_with (first | (go_at_call 4; refine Calls.mono (kV.out _ (Below.refl _ _)) ?_; rintro e w1 ⟨rfl, hB⟩; (first | (obtain ⟨g, rfl⟩ := g.next hB) | (obtain ⟨g, rfl⟩ : ∃ g : Grow W, w1 = g.x := ⟨⟨w1, hB⟩, rfl⟩)); clear hB) | (go_at_call 5; refine Calls.mono (kN.out _ g.h) ?_; rintro e w1 ⟨rfl, hB⟩; (first | (obtain ⟨g, rfl⟩ := g.next hB) | (obtain ⟨g, rfl⟩ : ∃ g : Grow W, w1 = g.x := ⟨⟨w1, hB⟩, rfl⟩)); clear hB) | (go_at_call 6; refine Calls.mono (kC.out _) ?_; rintro e w1 ⟨rfl, hB⟩; (first | (obtain ⟨g, rfl⟩ := g.next hB) | (obtain ⟨g, rfl⟩ : ∃ g : Grow W, w1 = g.x := ⟨⟨w1, hB⟩, rfl⟩)); clear hB) | (go_at_call 7; refine Calls.mono (kX.out _) ?_; rintro e w1 ⟨rfl, hB⟩; (first | (obtain ⟨g, rfl⟩ := g.next hB) | (obtain ⟨g, rfl⟩ : ∃ g : Grow W, w1 = g.x := ⟨⟨w1, hB⟩, rfl⟩)); clear hB) | (go_at_call 8; refine Calls.mono (kP.out _) ?_; rintro e w1 ⟨rfl, hB⟩; (first | (obtain ⟨g, rfl⟩ := g.next hB) | (obtain ⟨g, rfl⟩ : ∃ g : Grow W, w1 = g.x := ⟨⟨w1, hB⟩, rfl⟩)); clear hB) | (go_at_call 9; refine Calls.mono (kH.out _) ?_; rintro e w1 ⟨rfl, hB⟩; (first | (obtain ⟨g, rfl⟩ := g.next hB) | (obtain ⟨g, rfl⟩ : ∃ g : Grow W, w1 = g.x := ⟨⟨w1, hB⟩, rfl⟩)); clear hB) | (go_at_call 10; (with_reducible refine Calls.mono (kK.out _) ?_); rintro e w9 ⟨rfl, hB9⟩))
  go_ret
  exact ⟨rfl, below_trg hBw (below_trg g.h hB9)⟩
 have kH : Hid (∀ X, Calls Tryz.prog 9 #[stV x, ptV p] X fun e w' => e = .returned (.bool true) ∧ Below X.heap.size X w') := Lib.hid (fun X => (refHas x p X).mono (fun e w' (h : BoolB _ _ e w') => h.lit t9))
 by_cases t10 : c.vlo ≤ v
 case neg =>
  have i10 : v < c.vlo := by omega
  replace t0 := Lib.hid t0; replace t1 := Lib.hid t1; replace t2 := Lib.hid t2; replace t3 := Lib.hid t3; replace t4 := Lib.hid t4; replace t5 := Lib.hid t5; replace t6 := Lib.hid t6; replace t7 := Lib.hid t7; replace t8 := Lib.hid t8; replace t9 := Lib.hid t9; replace t10 := Lib.hid t10
  clear hs hn hsW hnW hr hd hdc hnc
  go_enter Tryz.func3, Tryz.ntmps3
  go_wp2_with (first | (go_at_call 4; refine Calls.mono (kV.out _ (Below.refl _ _)) ?_; rintro e w1 ⟨rfl, hB⟩; (first | (obtain ⟨g, rfl⟩ := g.next hB) | (obtain ⟨g, rfl⟩ : ∃ g : Grow W, w1 = g.x := ⟨⟨w1, hB⟩, rfl⟩)); clear hB) | (go_at_call 5; refine Calls.mono (kN.out _ g.h) ?_; rintro e w1 ⟨rfl, hB⟩; (first | (obtain ⟨g, rfl⟩ := g.next hB) | (obtain ⟨g, rfl⟩ : ∃ g : Grow W, w1 = g.x := ⟨⟨w1, hB⟩, rfl⟩)); clear hB) | (go_at_call 6; refine Calls.mono (kC.out _) ?_; rintro e w1 ⟨rfl, hB⟩; (first | (obtain ⟨g, rfl⟩ := g.next hB) | (obtain ⟨g, rfl⟩ : ∃ g : Grow W, w1 = g.x := ⟨⟨w1, hB⟩, rfl⟩)); clear hB) | (go_at_call 7; refine Calls.mono (kX.out _) ?_; rintro e w1 ⟨rfl, hB⟩; (first | (obtain ⟨g, rfl⟩ := g.next hB) | (obtain ⟨g, rfl⟩ : ∃ g : Grow W, w1 = g.x := ⟨⟨w1, hB⟩, rfl⟩)); clear hB) | (go_at_call 8; refine Calls.mono (kP.out _) ?_; rintro e w1 ⟨rfl, hB⟩; (first | (obtain ⟨g, rfl⟩ := g.next hB) | (obtain ⟨g, rfl⟩ : ∃ g : Grow W, w1 = g.x := ⟨⟨w1, hB⟩, rfl⟩)); clear hB) | (go_at_call 9; refine Calls.mono (kH.out _) ?_; rintro e w1 ⟨rfl, hB⟩; (first | (obtain ⟨g, rfl⟩ := g.next hB) | (obtain ⟨g, rfl⟩ : ∃ g : Grow W, w1 = g.x := ⟨⟨w1, hB⟩, rfl⟩)); clear hB) | (go_at_call 10; (with_reducible refine Calls.mono (kK.out _) ?_); rintro e w9 ⟨rfl, hB9⟩))
  go_ret
  exact ⟨rfl, below_trg hBw (below_trg g.h hB9)⟩
 have i10 : ¬ v < c.vlo := by omega
 by_cases t11 : v ≤ c.vhi
 case neg =>
  have i11 : c.vhi < v := by omega
  replace t0 := Lib.hid t0; replace t1 := Lib.hid t1; replace t2 := Lib.hid t2; replace t3 := Lib.hid t3; replace t4 := Lib.hid t4; replace t5 := Lib.hid t5; replace t6 := Lib.hid t6; replace t7 := Lib.hid t7; replace t8 := Lib.hid t8; replace t9 := Lib.hid t9; replace t10 := Lib.hid t10; replace t11 := Lib.hid t11
  clear hs hn hsW hnW hr hd hdc hnc
  go_enter Tryz.func3, Tryz.ntmps3
  go_wp2_with (first | (go_at_call 4; refine Calls.mono (kV.out _ (Below.refl _ _)) ?_; rintro e w1 ⟨rfl, hB⟩; (first | (obtain ⟨g, rfl⟩ := g.next hB) | (obtain ⟨g, rfl⟩ : ∃ g : Grow W, w1 = g.x := ⟨⟨w1, hB⟩, rfl⟩)); clear hB) | (go_at_call 5; refine Calls.mono (kN.out _ g.h) ?_; rintro e w1 ⟨rfl, hB⟩; (first | (obtain ⟨g, rfl⟩ := g.next hB) | (obtain ⟨g, rfl⟩ : ∃ g : Grow W, w1 = g.x := ⟨⟨w1, hB⟩, rfl⟩)); clear hB) | (go_at_call 6; refine Calls.mono (kC.out _) ?_; rintro e w1 ⟨rfl, hB⟩; (first | (obtain ⟨g, rfl⟩ := g.next hB) | (obtain ⟨g, rfl⟩ : ∃ g : Grow W, w1 = g.x := ⟨⟨w1, hB⟩, rfl⟩)); clear hB) | (go_at_call 7; refine Calls.mono (kX.out _) ?_; rintro e w1 ⟨rfl, hB⟩; (first | (obtain ⟨g, rfl⟩ := g.next hB) | (obtain ⟨g, rfl⟩ : ∃ g : Grow W, w1 = g.x := ⟨⟨w1, hB⟩, rfl⟩)); clear hB) | (go_at_call 8; refine Calls.mono (kP.out _) ?_; rintro e w1 ⟨rfl, hB⟩; (first | (obtain ⟨g, rfl⟩ := g.next hB) | (obtain ⟨g, rfl⟩ : ∃ g : Grow W, w1 = g.x := ⟨⟨w1, hB⟩, rfl⟩)); clear hB) | (go_at_call 9; refine Calls.mono (kH.out _) ?_; rintro e w1 ⟨rfl, hB⟩; (first | (obtain ⟨g, rfl⟩ := g.next hB) | (obtain ⟨g, rfl⟩ : ∃ g : Grow W, w1 = g.x := ⟨⟨w1, hB⟩, rfl⟩)); clear hB) | (go_at_call 10; (with_reducible refine Calls.mono (kK.out _) ?_); rintro e w9 ⟨rfl, hB9⟩))
  go_ret
  exact ⟨rfl, below_trg hBw (below_trg g.h hB9)⟩
 have i11 : ¬ c.vhi < v := by omega
 exact mainWorked s _ _ noms c x l p v w hs hn t0 t1 t2 t3 t4 t5 t6 t7 t8 t9 t10 t11
end Go.Proofs.YthjmdagonfeneaaGreat.W
