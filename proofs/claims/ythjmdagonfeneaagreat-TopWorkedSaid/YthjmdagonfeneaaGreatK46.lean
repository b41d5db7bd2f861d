/- Laws and walks: Twl. -/
import Derived.Deep.CutRange
import Derived.Test.YthjmdagonfeneaaGreatK38
import Derived.Test.YthjmdagonfeneaaGreatK45
set_option maxRecDepth 100000
set_option maxHeartbeats 16000000
set_option linter.unusedVariables false
set_option linter.unusedSimpArgs false
namespace Go.Proofs.YthjmdagonfeneaaGreat.W
open Go.RowKit Go.Sd Gas G
theorem below_tr {w X y : World} (h : Below w.heap.size w X) (k : Below X.heap.size X y) : Below w.heap.size w y := h.trans (k.mono h.size)
theorem bds_snoc {fs : List Int} {y m : Int} (h : ∀ k, k < fs.length → 0 ≤ Sea.at0 fs k ∧ Sea.at0 fs k ≤ m) (hy : 0 ≤ y ∧ y ≤ m) : ∀ k, k < (fs ++ [y]).length → 0 ≤ Sea.at0 (fs ++ [y]) k ∧ Sea.at0 (fs ++ [y]) k ≤ m := by
 intro k hk
 unfold Sea.at0 at h ⊢
 by_cases e : k < fs.length
 · rw [List.getD_eq_getElem?_getD, List.getElem?_append_left e, ← List.getD_eq_getElem?_getD]; exact h k e
 · obtain rfl : k = fs.length := by simp at hk; omega
   rw [List.getD_eq_getElem?_getD, List.getElem?_append_right (by omega)]; simpa using hy
theorem kept_blk {w X : World} {n : Nat} {o : Obj} (hB : Below w.heap.size w X) (h : w.heap[n]? = some o) : X.heap[n]? = some o := (hB.block _ (zqo h)).trans h
theorem mainWorked (s : Sea.S) (sv nv : Value) (noms : List Int) (c : Cav) (x : St) (l p : Pt) (v : Int) (w : World)
    (hs : S.SeasonAt w sv s) (hn : S.IntsAt w nv noms) (t0 : s.rows.length ≤ 12) (t1 : s.days.length ≤ 6) (t2 : noms.length ≤ 20) (t3 : Sea.validB s = true) (t4 : s.space ≤ 30) (t5 : s.nomsB noms = true) (t6 : c.ok = true) (t7 : x.ok = true) (t8 : l.ok = true) (t9 : hasB x p = true) (t10 : c.vlo ≤ v) (t11 : v ≤ c.vhi) :
    Calls Tryz.prog 3 #[sv, nv, cavV c, stV x, ptV l, ptV p, .int .i64 v] w fun e w' => e = .returned (.bool true) ∧ Below w.heap.size w w' := by
 have kK := Lib.hid (fun X => L.known11 X)
 obtain ⟨rv, dv, rfl, hr, hd⟩ := hs
 have hr' := hr
 obtain ⟨ra, rcap, rfl, hrm, -⟩ := hr'
 have hd' := hd
 obtain ⟨da, dcap, rfl, hdm, hdc⟩ := hd'
 have hs : S.SeasonAt w (.agg #[.int .i64 s.space, .int .i64 s.start, .int .i64 s.elo, .int .i64 s.ehi, .slice ra s.rows.length rcap, .slice da s.days.length dcap]) s := ⟨_, _, rfl, hr, hd⟩
 have hn' := hn
 obtain ⟨na, ncap, rfl, hnm, hnc⟩ := hn'
 unfold maxLen at hrm hdm hnm
 obtain ⟨W1, hW1⟩ : ∃ W1, w.alloc (.cells #[.int .i64 s.space, .int .i64 s.start, .int .i64 s.elo, .int .i64 s.ehi, .slice ra s.rows.length rcap, .slice da s.days.length dcap] 27) = W1 := ⟨_, rfl⟩
 obtain ⟨eW0, bW0, sW0⟩ := boxed hW1
 have yW0_0 : w.heap.size < W1.heap.size := by omega
 obtain ⟨mW0_0_0, mW0_0_1, mW0_0_2, mW0_0_3, mW0_0_4, mW0_0_5⟩ := rc6 eW0
 obtain ⟨W2, hW2⟩ : ∃ W2, W1.alloc (.cells #[.int .i64 c.vlo, .int .i64 c.vhi, .int .i64 c.least, .int .i64 c.most, .int .i64 c.f0, .int .i64 c.f1, .int .i64 c.h0, .int .i64 c.h1, .int .i64 c.rock, .int .i64 c.plo, .int .i64 c.phi] 31) = W2 := ⟨_, rfl⟩
 obtain ⟨eW1, bW1, sW1⟩ := boxed hW2
 have yW1_0 : w.heap.size < W2.heap.size := by omega
 replace eW0 := (bW1.block _ (zqo eW0)).trans eW0
 obtain ⟨mW1_0_0, mW1_0_1, mW1_0_2, mW1_0_3, mW1_0_4, mW1_0_5⟩ := rc6 eW0
 have yW1_1 : W1.heap.size < W2.heap.size := by omega
 obtain ⟨mW1_1_0, mW1_1_1, mW1_1_2, mW1_1_3, mW1_1_4, mW1_1_5, mW1_1_6, mW1_1_7, mW1_1_8, mW1_1_9, mW1_1_10⟩ := rc11 eW1
 obtain ⟨W3, hW3⟩ : ∃ W3, W2.alloc (.cells #[.int .i64 x.glo, .int .i64 x.ghi, .int .i64 x.ylo, .int .i64 x.yhi, .int .i64 x.tlo, .int .i64 x.thi, .int .i64 x.wlo, .int .i64 x.whi] 33) = W3 := ⟨_, rfl⟩
 obtain ⟨eW2, bW2, sW2⟩ := boxed hW3
 have yW2_0 : w.heap.size < W3.heap.size := by omega
 replace eW0 := (bW2.block _ (zqo eW0)).trans eW0
 obtain ⟨mW2_0_0, mW2_0_1, mW2_0_2, mW2_0_3, mW2_0_4, mW2_0_5⟩ := rc6 eW0
 have yW2_1 : W1.heap.size < W3.heap.size := by omega
 replace eW1 := (bW2.block _ (zqo eW1)).trans eW1
 obtain ⟨mW2_1_0, mW2_1_1, mW2_1_2, mW2_1_3, mW2_1_4, mW2_1_5, mW2_1_6, mW2_1_7, mW2_1_8, mW2_1_9, mW2_1_10⟩ := rc11 eW1
 have yW2_2 : W2.heap.size < W3.heap.size := by omega
 obtain ⟨mW2_2_0, mW2_2_1, mW2_2_2, mW2_2_3, mW2_2_4, mW2_2_5, mW2_2_6, mW2_2_7⟩ := rc8 eW2
 obtain ⟨W4, hW4⟩ : ∃ W4, W3.alloc (.cells #[.int .i64 l.g, .int .i64 l.y, .int .i64 l.t, .int .i64 l.w] 35) = W4 := ⟨_, rfl⟩
 obtain ⟨eW3, bW3, sW3⟩ := boxed hW4
 have yW3_0 : w.heap.size < W4.heap.size := by omega
 replace eW0 := (bW3.block _ (zqo eW0)).trans eW0
 obtain ⟨mW3_0_0, mW3_0_1, mW3_0_2, mW3_0_3, mW3_0_4, mW3_0_5⟩ := rc6 eW0
 have yW3_1 : W1.heap.size < W4.heap.size := by omega
 replace eW1 := (bW3.block _ (zqo eW1)).trans eW1
 obtain ⟨mW3_1_0, mW3_1_1, mW3_1_2, mW3_1_3, mW3_1_4, mW3_1_5, mW3_1_6, mW3_1_7, mW3_1_8, mW3_1_9, mW3_1_10⟩ := rc11 eW1
 have yW3_2 : W2.heap.size < W4.heap.size := by omega
 replace eW2 := (bW3.block _ (zqo eW2)).trans eW2
 obtain ⟨mW3_2_0, mW3_2_1, mW3_2_2, mW3_2_3, mW3_2_4, mW3_2_5, mW3_2_6, mW3_2_7⟩ := rc8 eW2
 have yW3_3 : W3.heap.size < W4.heap.size := by omega
 obtain ⟨mW3_3_0, mW3_3_1, mW3_3_2, mW3_3_3⟩ := rc4 eW3
 obtain ⟨W, hW⟩ : ∃ W, W4.alloc (.cells #[.int .i64 p.g, .int .i64 p.y, .int .i64 p.t, .int .i64 p.w] 35) = W := ⟨_, rfl⟩
 obtain ⟨eW4, bW4, sW4⟩ := boxed hW
 replace eW0 := (bW4.block _ (zqo eW0)).trans eW0
 replace eW1 := (bW4.block _ (zqo eW1)).trans eW1
 replace eW2 := (bW4.block _ (zqo eW2)).trans eW2
 replace eW3 := (bW4.block _ (zqo eW3)).trans eW3
 have hBw : Below w.heap.size w W := (by have := sW0; have := sW1; have := sW2; have := sW3; have := sW4; exact ((((bW0.trans (bW1.mono (by omega))).trans (bW2.mono (by omega))).trans (bW3.mono (by omega))).trans (bW4.mono (by omega))))
 obtain ⟨zW0, rW0, tW0⟩ := row_cells eW0
 obtain ⟨qW0_0, qW0_1, qW0_2, qW0_3, qW0_4, qW0_5⟩ := rc6 eW0
 obtain ⟨fW0_0, fW0_1, fW0_2, fW0_3, fW0_4, fW0_5⟩ := rf6 eW0
 have EW0 := Lib.hid eW0
 clear rW0 tW0 eW0
 obtain ⟨zW1, rW1, tW1⟩ := row_cells eW1
 obtain ⟨qW1_0, qW1_1, qW1_2, qW1_3, qW1_4, qW1_5, qW1_6, qW1_7, qW1_8, qW1_9, qW1_10⟩ := rc11 eW1
 obtain ⟨fW1_0, fW1_1, fW1_2, fW1_3, fW1_4, fW1_5, fW1_6, fW1_7, fW1_8, fW1_9, fW1_10⟩ := rf11 eW1
 have EW1 := Lib.hid eW1
 clear rW1 tW1 eW1
 obtain ⟨zW2, rW2, tW2⟩ := row_cells eW2
 obtain ⟨qW2_0, qW2_1, qW2_2, qW2_3, qW2_4, qW2_5, qW2_6, qW2_7⟩ := rc8 eW2
 obtain ⟨fW2_0, fW2_1, fW2_2, fW2_3, fW2_4, fW2_5, fW2_6, fW2_7⟩ := rf8 eW2
 have EW2 := Lib.hid eW2
 clear rW2 tW2 eW2
 obtain ⟨zW3, rW3, tW3⟩ := row_cells eW3
 obtain ⟨qW3_0, qW3_1, qW3_2, qW3_3⟩ := rc4 eW3
 obtain ⟨fW3_0, fW3_1, fW3_2, fW3_3⟩ := rf4 eW3
 have EW3 := Lib.hid eW3
 clear rW3 tW3 eW3
 obtain ⟨zW4, rW4, tW4⟩ := row_cells eW4
 obtain ⟨qW4_0, qW4_1, qW4_2, qW4_3⟩ := rc4 eW4
 obtain ⟨fW4_0, fW4_1, fW4_2, fW4_3⟩ := rf4 eW4
 have EW4 := Lib.hid eW4
 clear rW4 tW4 eW4
 have xW0 : w.heap.size ≤ w.heap.size := by omega
 have xW1 : w.heap.size ≤ W1.heap.size := by omega
 have xW2 : w.heap.size ≤ W2.heap.size := by omega
 have xW3 : w.heap.size ≤ W3.heap.size := by omega
 have xW4 : w.heap.size ≤ W4.heap.size := by omega
 clear bW0 sW0 bW1 sW1 bW2 sW2 bW3 sW3 bW4 sW4
 have hsW := hs.mono hBw
 have hnW := hn.mono hBw
 have hr9 : (s.rows.length : Int) ≤ 9223372036854775807 := by omega
 have hd9 : (s.days.length : Int) ≤ 9223372036854775807 := by omega
 have hn9 : (noms.length : Int) ≤ 9223372036854775807 := by omega
 have i0 : ¬ (12 : Int) < s.rows.length := by omega
 have i1 : ¬ (6 : Int) < s.days.length := by omega
 have i2 : ¬ (20 : Int) < noms.length := by omega
 have kV : Hid (∀ X, Below W.heap.size W X → Calls Tryz.prog 4 #[.agg #[.int .i64 s.space, .int .i64 s.start, .int .i64 s.elo, .int .i64 s.ehi, .slice ra s.rows.length rcap, .slice da s.days.length dcap]] X fun e w' => e = .returned (.bool true) ∧ Below X.heap.size X w') := Lib.hid (fun X hX => S.refSeasonT X (hsW.mono hX) t3)
 have i4 : ¬ (30 : Int) < s.space := by omega
 have kN : Hid (∀ X, Below W.heap.size W X → Calls Tryz.prog 5 #[.agg #[.int .i64 s.space, .int .i64 s.start, .int .i64 s.elo, .int .i64 s.ehi, .slice ra s.rows.length rcap, .slice da s.days.length dcap], .slice na noms.length ncap] X fun e w' => e = .returned (.bool true) ∧ Below X.heap.size X w') := Lib.hid (fun X hX => S.refNomsT X (hsW.mono hX) (hnW.mono hX) t5)
 have kC : Hid (∀ X, Calls Tryz.prog 6 #[cavV c] X fun e w' => e = .returned (.bool true) ∧ Below X.heap.size X w') := Lib.hid (fun X => (refCavern c X).mono (fun e w' (h : BoolB _ _ e w') => h.lit t6))
 have kX : Hid (∀ X, Calls Tryz.prog 7 #[stV x] X fun e w' => e = .returned (.bool true) ∧ Below X.heap.size X w') := Lib.hid (fun X => (refState x X).mono (fun e w' (h : BoolB _ _ e w') => h.lit t7))
 have kP : Hid (∀ X, Calls Tryz.prog 8 #[ptV l] X fun e w' => e = .returned (.bool true) ∧ Below X.heap.size X w') := Lib.hid (fun X => (refPoint l X).mono (fun e w' (h : BoolB _ _ e w') => h.lit t8))
 have kH : Hid (∀ X, Calls Tryz.prog 9 #[stV x, ptV p] X fun e w' => e = .returned (.bool true) ∧ Below X.heap.size X w') := Lib.hid (fun X => (refHas x p X).mono (fun e w' (h : BoolB _ _ e w') => h.lit t9))
 have i10 : ¬ v < c.vlo := by omega
 have i11 : ¬ c.vhi < v := by omega
 replace t0 := Lib.hid t0; replace t1 := Lib.hid t1; replace t2 := Lib.hid t2; replace t3 := Lib.hid t3; replace t4 := Lib.hid t4; replace t5 := Lib.hid t5; replace t6 := Lib.hid t6; replace t7 := Lib.hid t7; replace t8 := Lib.hid t8; replace t9 := Lib.hid t9; replace t10 := Lib.hid t10; replace t11 := Lib.hid t11
 have hsh := Lib.hid hsW
 have hnh := Lib.hid hnW
 have hBh := Lib.hid hBw
 have hdc0 := Lib.hid hdc
 have hnc0 := Lib.hid hnc
 have hgW := grow_cell W
 clear hs hn hsW hnW hr hd hdc hnc hBw
 go_enter Tryz.func3, Tryz.ntmps3
 go_upto_region 1 with fail
 go_cut [97] from 32 to 97 (fun c0 wx => c0 = .bool false ∧ Hid (Below W.heap.size W wx))
 case first =>
  go_wp2_with (first | (go_at_call 4; refine Calls.mono (kV.out _ (Below.refl _ _)) ?_; rintro e w1 ⟨rfl, hB⟩; (first | (obtain ⟨g, rfl⟩ := g.next hB) | (obtain ⟨g, rfl⟩ : ∃ g : Grow W, w1 = g.x := ⟨⟨w1, hB⟩, rfl⟩)); clear hB) | (go_at_call 5; refine Calls.mono (kN.out _ g.h) ?_; rintro e w1 ⟨rfl, hB⟩; (first | (obtain ⟨g, rfl⟩ := g.next hB) | (obtain ⟨g, rfl⟩ : ∃ g : Grow W, w1 = g.x := ⟨⟨w1, hB⟩, rfl⟩)); clear hB) | (go_at_call 6; refine Calls.mono (kC.out _) ?_; rintro e w1 ⟨rfl, hB⟩; (first | (obtain ⟨g, rfl⟩ := g.next hB) | (obtain ⟨g, rfl⟩ : ∃ g : Grow W, w1 = g.x := ⟨⟨w1, hB⟩, rfl⟩)); clear hB) | (go_at_call 7; refine Calls.mono (kX.out _) ?_; rintro e w1 ⟨rfl, hB⟩; (first | (obtain ⟨g, rfl⟩ := g.next hB) | (obtain ⟨g, rfl⟩ : ∃ g : Grow W, w1 = g.x := ⟨⟨w1, hB⟩, rfl⟩)); clear hB) | (go_at_call 8; refine Calls.mono (kP.out _) ?_; rintro e w1 ⟨rfl, hB⟩; (first | (obtain ⟨g, rfl⟩ := g.next hB) | (obtain ⟨g, rfl⟩ : ∃ g : Grow W, w1 = g.x := ⟨⟨w1, hB⟩, rfl⟩)); clear hB) | (go_at_call 9; refine Calls.mono (kH.out _) ?_; rintro e w1 ⟨rfl, hB⟩; (first | (obtain ⟨g, rfl⟩ := g.next hB) | (obtain ⟨g, rfl⟩ : ∃ g : Grow W, w1 = g.x := ⟨⟨w1, hB⟩, rfl⟩)); clear hB))
  go_meet
  exact ⟨congrArg Value.bool (by simp only [Bool.or_eq_false_iff, decide_eq_false_iff_not, beq_eq_false_iff_ne, ne_eq]; omega), Lib.hid g.h⟩
 case rest =>
  obtain ⟨rfl, hH⟩ := hcut
  have hBV := hH.out
  clear hH kV kN kC kX kP kH i0 i1 i2 i4 i10 i11 hgW
  have hV0 := Lib.hid (below_tr hBh.out hBV)
  have ES := Lib.hid (kept_blk hBV EW0.out)
  have EC := Lib.hid (kept_blk hBV EW1.out)
  have EX := Lib.hid (kept_blk hBV EW2.out)
  have EL := Lib.hid (kept_blk hBV EW3.out)
  have EP := Lib.hid (kept_blk hBV EW4.out)
  have hsV := Lib.hid (hsh.out.mono hBV)
  have hnV := Lib.hid (hnh.out.mono hBV)
  clear mW0_0_0 mW0_0_1 mW0_0_2 mW0_0_3 mW0_0_4 mW0_0_5 mW1_0_0 mW1_0_1 mW1_0_2 mW1_0_3 mW1_0_4 mW1_0_5 mW1_1_0 mW1_1_1 mW1_1_2 mW1_1_3 mW1_1_4 mW1_1_5 mW1_1_6 mW1_1_7 mW1_1_8 mW1_1_9 mW1_1_10 mW2_0_0 mW2_0_1 mW2_0_2 mW2_0_3 mW2_0_4 mW2_0_5 mW2_1_0 mW2_1_1 mW2_1_2 mW2_1_3 mW2_1_4 mW2_1_5 mW2_1_6 mW2_1_7 mW2_1_8 mW2_1_9 mW2_1_10 mW2_2_0 mW2_2_1 mW2_2_2 mW2_2_3 mW2_2_4 mW2_2_5 mW2_2_6 mW2_2_7 mW3_0_0 mW3_0_1 mW3_0_2 mW3_0_3 mW3_0_4 mW3_0_5 mW3_1_0 mW3_1_1 mW3_1_2 mW3_1_3 mW3_1_4 mW3_1_5 mW3_1_6 mW3_1_7 mW3_1_8 mW3_1_9 mW3_1_10 mW3_2_0 mW3_2_1 mW3_2_2 mW3_2_3 mW3_2_4 mW3_2_5 mW3_2_6 mW3_2_7 mW3_3_0 mW3_3_1 mW3_3_2 mW3_3_3 qW0_0 qW0_1 qW0_2 qW0_3 qW0_4 qW0_5 fW0_0 fW0_1 fW0_2 fW0_3 fW0_4 fW0_5 qW1_0 qW1_1 qW1_2 qW1_3 qW1_4 qW1_5 qW1_6 qW1_7 qW1_8 qW1_9 qW1_10 fW1_0 fW1_1 fW1_2 fW1_3 fW1_4 fW1_5 fW1_6 fW1_7 fW1_8 fW1_9 fW1_10 qW2_0 qW2_1 qW2_2 qW2_3 qW2_4 qW2_5 qW2_6 qW2_7 fW2_0 fW2_1 fW2_2 fW2_3 fW2_4 fW2_5 fW2_6 fW2_7 qW3_0 qW3_1 qW3_2 qW3_3 fW3_0 fW3_1 fW3_2 fW3_3 qW4_0 qW4_1 qW4_2 qW4_3 fW4_0 fW4_1 fW4_2 fW4_3 hW1 hW2 hW3 hW4 hW
  have zs := Nat.lt_of_lt_of_le zW0 hBV.size
  have zc := Nat.lt_of_lt_of_le zW1 hBV.size
  have zx := Nat.lt_of_lt_of_le zW2 hBV.size
  have zl := Nat.lt_of_lt_of_le zW3 hBV.size
  have zp := Nat.lt_of_lt_of_le zW4 hBV.size
  clear EW0 EW1 EW2 EW3 EW4 hsh hnh hBh zW0 zW1 zW2 zW3 zW4 hBV
  have hdd := Lib.hid (Sea.ok_of_valid t3.out).days
  have hst := Lib.hid (Sea.ok_of_valid t3.out).start
  have hsp := t4.out
  have hspc := Lib.hid (Sea.ok_of_valid t3.out).space
  have hnl : noms.length = s.days.length := (S.noms_bd (Sea.ok_of_valid t3.out) t5.out).1
  have hnb := Lib.hid (S.noms_bd (Sea.ok_of_valid t3.out) t5.out).2
  replace hnl := Lib.hid hnl
  have hck := Cav.ok_iff.1 t6.out
  have hvv : 1 ≤ v ∧ v ≤ 1000000 := by have := hck.v; have := t10.out; have := t11.out; omega
  have hxk := St.ok_iff.1 t7.out
  have hlk := Pt.ok_iff.1 t8.out
  have hhas := hasB_iff.1 t9.out
  have hpk := Pt.ok_iff.2 (hhas.ok hxk)
  obtain ⟨R, hR⟩ : ∃ R : Nat, roomOf (fun n : Nat => fineOp c x (lotsOp l (n : Int))) = R := ⟨_, rfl⟩
  have kR := Lib.hid (fun X => progRoom3 c x l X t6.out t7.out t8.out)
  rw [hR] at kR
  have kE : Hid (s.space ≤ (R : Int) → ∀ (fv : Value) (fs : List Int) (X : World), Below wc.heap.size wc X → S.IntsAt X fv fs → fs.length ≤ 20 → (∀ k, k < fs.length → 0 ≤ Sea.at0 fs k ∧ Sea.at0 fs k ≤ s.space) →
      Calls Tryz.prog 14 #[.agg #[.int .i64 s.space, .int .i64 s.start, .int .i64 s.elo, .int .i64 s.ehi, .slice ra s.rows.length rcap, .slice da s.days.length dcap], fv, cavV c, ptV l, ptV p, .int .i64 v] X fun e w' => e = .returned (.bool true) ∧ Below X.heap.size X w') :=
   Lib.hid (fun hm fv fs X hX hf hl0 hb => kept11All s _ fv fs c l p v X (hsV.out.mono hX) hf (by omega) (by omega) hb (lots_kept hck hxk hlk hhas ⟨t10.out, t11.out⟩ (by rw [hR]; exact hm)) t6.out hpk hlk hvv)
  have kB : Hid (∀ X, Below wc.heap.size wc X → ∀ (m : List Int) (cs fe : Int), S.bestOf s noms = (m, cs, fe) → Calls Tryz.prog 12 #[.agg #[.int .i64 s.space, .int .i64 s.start, .int .i64 s.elo, .int .i64 s.ehi, .slice ra s.rows.length rcap, .slice da s.days.length dcap], .slice na noms.length ncap] X
      fun e w' => (∃ a cap, e = .returned (.tuple #[.slice a m.length cap, .int .i64 cs, .int .i64 fe]) ∧ S.IntsAt w' (.slice a m.length cap) m) ∧ Below X.heap.size X w') := Lib.hid (fun X hX m cs fe h => S.progBestT X (hsV.out.mono hX) (hnV.out.mono hX) h)
  have kP : Hid (∀ X, Below wc.heap.size wc X → ∀ (pv : Value) (m fs : List Int) (cost : Int), S.IntsAt X pv m → S.planB s m = true → S.playOf s noms m = (fs, cost, 0, 1) → Calls Tryz.prog 13 #[.agg #[.int .i64 s.space, .int .i64 s.start, .int .i64 s.elo, .int .i64 s.ehi, .slice ra s.rows.length rcap, .slice da s.days.length dcap], .slice na noms.length ncap, pv] X
      fun e w' => (∃ a cap, e = .returned (.tuple #[.slice a fs.length cap, .int .i64 cost, .agg #[.int .i64 0, .int .i64 1], .int .i64 0]) ∧ S.IntsAt w' (.slice a fs.length cap) fs) ∧ Below X.heap.size X w') := Lib.hid (fun X hX pv m fs cost hp hpl h => S.progPlayT X (hsV.out.mono hX) (hnV.out.mono hX) hp t3.out t5.out hpl h)
  have kA : Hid (∀ X, Below wc.heap.size wc X → ∀ (t : Nat) (f a b e : Int), S.adviseErr s t f (Sea.at0 noms t) = (a, b, e) → Calls Tryz.prog 15 #[.agg #[.int .i64 s.space, .int .i64 s.start, .int .i64 s.elo, .int .i64 s.ehi, .slice ra s.rows.length rcap, .slice da s.days.length dcap], .int .i64 t, .int .i64 f, .int .i64 (Sea.at0 noms t)] X
      fun e' w' => e' = .returned (.tuple #[.int .i64 a, .int .i64 b, .int .i64 e]) ∧ Below X.heap.size X w') := Lib.hid (fun X hX t f a b e h => S.progAdviseT X (hsV.out.mono hX) h)
  have kF : Hid (∀ X, Below wc.heap.size wc X → ∀ f : Int, 0 ≤ f ∧ f ≤ s.space → Calls Tryz.prog 16 #[.agg #[.int .i64 s.space, .int .i64 s.start, .int .i64 s.elo, .int .i64 s.ehi, .slice ra s.rows.length rcap, .slice da s.days.length dcap], .int .i64 f] X
      fun e w' => e = .returned (.bool true) ∧ Below X.heap.size X w') := Lib.hid (fun X hX f hf => S.refFillT X (hsV.out.mono hX) (Sea.inB_iff.2 hf))
  have kG : Hid (∀ (m : List Int) (cs fe : Int), S.bestOf s noms = (m, cs, fe) → fe = 0 → S.planB s m = true ∧ ∃ fs cost, S.playOf s noms m = (fs, cost, 0, 1) ∧ fs.length = s.days.length ∧ ∀ k, k < fs.length → 0 ≤ Sea.at0 fs k ∧ Sea.at0 fs k ≤ s.space) := Lib.hid (fun m cs fe h hf => best_fills t3.out t5.out h hf)
  have kI : Hid (∀ (t : Nat) (f a b e : Int), t < s.days.length → 0 ≤ f ∧ f ≤ s.space → S.adviseErr s t f (Sea.at0 noms t) = (a, b, e) → e = 5 ∨ (e = 0 ∧ -100 ≤ a ∧ a ≤ 100 ∧ 0 ≤ f + Sea.at0 noms t + a ∧ f + Sea.at0 noms t + a ≤ s.space)) := Lib.hid (fun t f a b e ht hf h => advise_is t3.out t5.out ht hf h)
  have hd6 : s.days.length ≤ 6 := t1.out
  clear hck hxk hlk hhas hpk hvv hR hsV hnV
  replace hsp := Lib.hid hsp
  obtain ⟨s0, s1, s2, s3, s4, s5⟩ := rc6 ES.out
  obtain ⟨V, hVV⟩ : ∃ V, wc = V := ⟨_, rfl⟩
  subst hVV
  go_wp2_with fail
  go_loopw [15] (fun i wr => ∃ k : Nat, k ≤ s.days.length ∧ i = .int .i64 k ∧ Hid (Below wc.heap.size wc wr)) (fun i _ => s.days.length - (intOf i).toNat)
  case atStart => exact ⟨0, by omega, rfl, Lib.hid (Below.refl _ _)⟩
  case round =>
   obtain ⟨k, hk, rfl, hH⟩ := hrel
   clear s0 s1 s2 s3 s4 s5
   obtain ⟨s0, s1, s2, s3, s4, s5⟩ := rc6 (kept_blk hH.out ES.out)
   have zs1 := Nat.lt_of_lt_of_le zs hH.out.size
   have hVr := Lib.hid (below_tr hV0.out hH.out)
   by_cases hlt : k < s.days.length
   · have hki : (k : Int) < (s.days.length : Int) := by omega
     obtain ⟨db, doff, rfl, hdb, hdx⟩ : ∃ b o, da = some ⟨b, o, none⟩ ∧ b < w.heap.size ∧ S.DayCells w b (o + k * 8) (Sea.dayAt s.days k) := by
      obtain ⟨b, o, rfl, h1, h2⟩ := hdc0.out (by omega)
      exact ⟨b, o, rfl, h1, h2 k hlt⟩
     have hdr := hdx.mono hVr.out
     have dz : db < wr.heap.size := Nat.lt_of_lt_of_le hdb hVr.out.size
     obtain ⟨d0, d1, d2, d3, d4, d5, d6, d7⟩ := hdr
     obtain ⟨b0, b1, b2, b3, b4, b5, b6, b7, b8, b9, b10, b11, b12, b13⟩ := hdd.out k hlt
     clear hdx
     generalize Sea.dayAt s.days k = d at *
     by_cases e1 : 40 < d.offer + d.take
     · go_wp2_with (go_at_call 10; (with_reducible refine Calls.mono (kK.out _) ?_); rintro e w9 ⟨rfl, hB9⟩)
       go_ret
       exact ⟨rfl, below_tr (hVr.out.alloc hVr.out.size _) hB9⟩
     · by_cases e2 : 12 < d.nhi - d.nlo
       · go_wp2_with (go_at_call 10; (with_reducible refine Calls.mono (kK.out _) ?_); rintro e w9 ⟨rfl, hB9⟩)
         go_ret
         exact ⟨rfl, below_tr (hVr.out.alloc hVr.out.size _) hB9⟩
       · go_wp2
         exact ⟨⟨k + 1, by omega, by go_num, Lib.hid (hH.out.alloc hH.out.size _)⟩, by simp [intOf]; omega⟩
   · have hki : ¬ (k : Int) < (s.days.length : Int) := by omega
     have hkk : k = s.days.length := by omega
     subst hkk
     obtain ⟨c0, c1, c2, c3, c4, c5, c6, c7, c8, c9, c10⟩ := rc11 (kept_blk hH.out EC.out)
     obtain ⟨x0, x1, x2, x3, x4, x5, x6, x7⟩ := rc8 (kept_blk hH.out EX.out)
     obtain ⟨l0, l1, l2, l3⟩ := rc4 (kept_blk hH.out EL.out)
     have zc1 := Nat.lt_of_lt_of_le zc hH.out.size
     have zx1 := Nat.lt_of_lt_of_le zx hH.out.size
     have zl1 := Nat.lt_of_lt_of_le zl hH.out.size
     have hgr := grow_cell wr
     by_cases hsr : s.space ≤ (R : Int)
     case neg =>
      go_wp2_with (first
       | (go_at_call 11; (with_reducible refine Calls.mono (kR.out _) ?_); rintro e w1 ⟨rfl, hB⟩; obtain ⟨g, rfl⟩ : ∃ g : Grow wr, w1 = g.x := ⟨⟨w1, hB⟩, rfl⟩; clear hB)
       | (go_at_call 10; (with_reducible refine Calls.mono (kK.out _) ?_); rintro e w9 ⟨rfl, hB9⟩))
      go_ret
      exact ⟨rfl, below_tr (below_tr hVr.out g.h) hB9⟩
     case pos =>
      replace kE := Lib.hid (kE.out hsr)
      obtain ⟨m, cs, fe, hbo⟩ : ∃ m cs fe, S.bestOf s noms = (m, cs, fe) := ⟨_, _, _, rfl⟩
      have kB1 := Lib.hid (fun X hX => kB.out X hX m cs fe hbo)
      have kG1 := Lib.hid (kG.out m cs fe hbo)
      clear hbo
      go_upto_if 150 with (first
       | (go_at_call 11; (with_reducible refine Calls.mono (kR.out _) ?_); rintro e w1 ⟨rfl, hB⟩; obtain ⟨g, rfl⟩ : ∃ g : Grow wr, w1 = g.x := ⟨⟨w1, hB⟩, rfl⟩; clear hB)
       | (go_at_call 12; (with_reducible refine Calls.mono (kB1.out _ (below_tr hH.out g.h)) ?_); rintro e w2 ⟨⟨pa, pcap, rfl, hpl⟩, hB2⟩))
      have hX2 := Lib.hid (below_tr (below_tr hH.out g.h) hB2)
      clear s0 s1 s2 s3 s4 s5 c0 c1 c2 c3 c4 c5 c6 c7 c8 c9 c10 x0 x1 x2 x3 x4 x5 x6 x7 l0 l1 l2 l3 hgr zs1 zc1 zx1 zl1
      obtain ⟨W0, hW0⟩ : ∃ Z, wc = Z := ⟨_, rfl⟩
      go_cut [22, 23, 24, 25] from 149 to 184 (fun _ _ _ _ wx => Hid (Below W0.heap.size W0 wx))
      case first =>
       subst hW0
       by_cases hf0 : fe = 0
       case neg =>
        have hfb : (fe == 0) = false := by simpa using hf0
        go_wp2_with fail
        go_meet
        exact hX2
       case pos =>
        obtain ⟨hpB, fs, cost, hpo, hfl, hfb⟩ := kG1.out hf0
        subst hf0
        replace hfl := Lib.hid hfl
        have kP1 := Lib.hid (fun X hX pv h => kP.out X hX pv m fs cost h hpB hpo)
        clear hpB hpo
        obtain ⟨s0, s1, s2, s3, s4, s5⟩ := rc6 (kept_blk hX2.out ES.out)
        have zs2 := Nat.lt_of_lt_of_le zs hX2.out.size
        go_upto_region 17 with (go_at_call 13; (with_reducible refine Calls.mono (kP1.out _ hX2.out _ hpl) ?_); rintro e w3 ⟨⟨qa, qcap, rfl, hql⟩, hB3⟩)
        obtain ⟨Y, hY⟩ : ∃ Y, w3.alloc (.cells #[.int .i64 0, .int .i64 1] 52) = Y := ⟨_, rfl⟩
        obtain ⟨eY, bY, sY⟩ := boxed hY
        rw [hY]
        have hX4 := below_tr (below_tr hX2.out hB3) bY
        clear s0 s1 s2 s3 s4 s5
        obtain ⟨s0, s1, s2, s3, s4, s5⟩ := rc6 (kept_blk hX4 ES.out)
        obtain ⟨c0, c1, c2, c3, c4, c5, c6, c7, c8, c9, c10⟩ := rc11 (kept_blk hX4 EC.out)
        obtain ⟨l0, l1, l2, l3⟩ := rc4 (kept_blk hX4 EL.out)
        obtain ⟨p0, p1, p2, p3⟩ := rc4 (kept_blk hX4 EP.out)
        obtain ⟨y0, y1⟩ := rc2 eY
        have zs4 := Nat.lt_of_lt_of_le zs hX4.size
        have zc4 := Nat.lt_of_lt_of_le zc hX4.size
        have zl4 := Nat.lt_of_lt_of_le zl hX4.size
        have zp4 := Nat.lt_of_lt_of_le zp hX4.size
        have zy4 := (zqo eY)
        have hfn : ((fs.length : Int) != (s.days.length : Int)) = false := by rw [hfl.out]; simp
        have hd9' : (s.days.length : Int) ≤ 6 := by omega
        have kE1 := Lib.hid (kE.out _ fs Y hX4 (hql.mono bY) (by rw [hfl.out]; omega) hfb)
        have hX4h := Lib.hid hX4
        clear hfb hql hpl hB2 hB3 hY sY bY hX4
        go_wp2_with (go_at_call 14; (with_reducible refine Calls.mono kE1.out ?_); rintro e w5 ⟨rfl, hB5⟩)
        go_meet
        exact Lib.hid (below_tr hX4h.out hB5)
      case rest =>
       have hW1 := hW0.symm
       subst hW1
       have hX5 := Lib.hid hcut.out
       clear hcut hX2 hB2 hpl kB1 kG1 hH hVr
       obtain ⟨s0, s1, s2, s3, s4, s5⟩ := rc6 (kept_blk hX5.out ES.out)
       have zs5 := Nat.lt_of_lt_of_le zs hX5.out.size
       go_wp2_with fail
       clear s0 s1 s2 s3 s4 s5 zs5
       go_loopw [26, 27, 28] (fun f0 v0 i0 wr => ∃ (t : Nat) (f : Int) (fs : List Int) (fv : Value), t ≤ noms.length ∧ f0 = .int .i64 f ∧ fv = v0 ∧ i0 = .int .i64 t ∧ Hid ((0 ≤ f ∧ f ≤ s.space) ∧ fs.length = t ∧
        (∀ k, k < fs.length → 0 ≤ Sea.at0 fs k ∧ Sea.at0 fs k ≤ s.space) ∧ S.OwnInts wc.heap.size wr fv fs ∧ Below wc.heap.size wc wr)) (fun _ _ i _ => noms.length - (intOf i).toNat)
       case atStart => exact ⟨0, s.start, [], _, by omega, rfl, rfl, rfl, Lib.hid ⟨hst.out, rfl, fun k hk => by simp at hk, S.OwnInts.nil _ _, Below.refl _ _⟩⟩
       case round =>
        obtain ⟨t, f, fs, fv, ht, rfl, rfl, rfl, hQ⟩ := hrel
        obtain ⟨hf, hfl, hfb, hfo, hBr⟩ := hQ.out
        clear hQ
        have hWr := Lib.hid (below_tr hX5.out hBr)
        have hVw := Lib.hid (below_tr hV0.out hWr.out)
        obtain ⟨s0, s1, s2, s3, s4, s5⟩ := rc6 (kept_blk hWr.out ES.out)
        have zs6 := Nat.lt_of_lt_of_le zs hWr.out.size
        have hgr := grow_cell wr
        have hfoh := Lib.hid hfo
        have hBrh := Lib.hid hBr
        have hfbh := Lib.hid hfb
        have hflh := Lib.hid hfl
        have hfl20 : fs.length ≤ 20 := by have := hnl.out; omega
        clear hfo hBr hfb hfl
        by_cases hlt : t < noms.length
        · have hki : (t : Int) < (noms.length : Int) := by omega
          have htd : t < s.days.length := by rw [← hnl.out]; exact hlt
          obtain ⟨nb, no, rfl, hnb2, hnx⟩ : ∃ b o, na = some ⟨b, o, none⟩ ∧ b < w.heap.size ∧ w.cell? ⟨b, o + t, none⟩ = some (.int .i64 (Sea.at0 noms t)) := by
           obtain ⟨b, o, rfl, h1, h2⟩ := hnc0.out (by omega)
           exact ⟨b, o, rfl, h1, h2 t hlt⟩
          have nx := S.kept_cell hVw.out hnx
          have nz := Nat.lt_of_lt_of_le hnb2 hVw.out.size
          have hnbb := hnb.out t htd
          obtain ⟨a, b, e, had⟩ : ∃ a b e, S.adviseErr s t f (Sea.at0 noms t) = (a, b, e) := ⟨_, _, _, rfl⟩
          have hI1 := kI.out t f a b e htd hf had
          have kA1 := Lib.hid (fun g : Grow wr => kA.out g.x (below_tr hWr.out g.h) t f a b e had)
          obtain ⟨n, hn⟩ : ∃ n, Sea.at0 noms t = n := ⟨_, rfl⟩
          rw [hn] at hnx nx hnbb hI1 kA1
          clear had hnx
          replace hn := Lib.hid hn
          go_wp2_with fail
          refine wp_region_grow (by kernel_rfl) (by kernel_rfl) ?_
          repeat (go_big_quiet_step ((first | (go_at_call 15; with_reducible exact Calls.grow (kA1.out _)))))
          refine wpQuiet_nil ?_
          rintro _ ⟨g, rfl⟩
          rcases hI1 with rfl | ⟨rfl, h1, h2, h3, h4⟩
          · obtain ⟨c0, c1, c2, c3, c4, c5, c6, c7, c8, c9, c10⟩ := rc11 (kept_blk hWr.out EC.out)
            obtain ⟨l0, l1, l2, l3⟩ := rc4 (kept_blk hWr.out EL.out)
            obtain ⟨p0, p1, p2, p3⟩ := rc4 (kept_blk hWr.out EP.out)
            have zc6 := Nat.lt_of_lt_of_le zc hWr.out.size
            have zl6 := Nat.lt_of_lt_of_le zl hWr.out.size
            have zp6 := Nat.lt_of_lt_of_le zp hWr.out.size
            have kE1 := Lib.hid (kE.out fv fs g.x (below_tr hWr.out g.h) (hfoh.out.at.mono g.h) hfl20 hfbh.out)
            go_wp2_with (first
             | (go_at_call 14; (with_reducible refine Calls.mono kE1.out ?_); rintro e w5 ⟨rfl, hB5⟩)
             | (go_at_call 10; (with_reducible refine Calls.mono (kK.out _) ?_); rintro e w9 ⟨rfl, hB9⟩))
            go_ret
            exact ⟨rfl, below_tr (below_tr hVw.out g.h) (below_tr hB5 hB9)⟩
          · have hda : decide (a < -100) = false := decide_eq_false (by omega)
            have hdb : decide (100 < a) = false := decide_eq_false (by omega)
            have hda' : ¬ a < -100 := by omega
            have hdb' : ¬ 100 < a := by omega
            have hspq := hspc.out
            have hsg := g.size
            have kF1 := Lib.hid (kF.out g.x (below_tr hWr.out g.h) (f + n + a) ⟨h3, h4⟩)
            have hlen : fs.length ≤ 1000000 := by omega
            have hgs := Lib.hid (Nat.le_trans hBrh.out.size g.size)
            go_wp2_with (first
             | (go_at_call 16; (with_reducible refine Calls.mono kF1.out ?_); rintro e w5 ⟨rfl, hB5⟩; have hfo5 := Lib.hid ((hfoh.out.mono g.h).mono hB5); have hgs5 := Nat.le_trans hgs.out hB5.size)
             | (at_builtin; refine S.wpList_app_int (by rfl) _ _ (by rfl) wc.heap.size w5 fv _ (f + n + a) (by rfl) hfo5.out (by rfl) hlen hgs5 ?_; intro v1 w6 ho1 hg1 hn1 hat1; replace ho1 := Lib.hid ho1; replace hg1 := Lib.hid hg1; clear hn1 hat1))
            exact ⟨⟨t + 1, f + n + a, fs ++ [f + n + a], v1, by omega, rfl, rfl, by go_num, Lib.hid ⟨⟨h3, h4⟩, by simp [hflh.out], bds_snoc hfbh.out ⟨h3, h4⟩, ho1.out, S.below_append (below_tr hBrh.out (below_tr g.h hB5)) hgs5 hfo5.out hg1.out⟩⟩, by simp [intOf]; omega⟩
        · have hki : ¬ (t : Int) < (noms.length : Int) := by omega
          obtain ⟨c0, c1, c2, c3, c4, c5, c6, c7, c8, c9, c10⟩ := rc11 (kept_blk hWr.out EC.out)
          obtain ⟨l0, l1, l2, l3⟩ := rc4 (kept_blk hWr.out EL.out)
          obtain ⟨p0, p1, p2, p3⟩ := rc4 (kept_blk hWr.out EP.out)
          have zc6 := Nat.lt_of_lt_of_le zc hWr.out.size
          have zl6 := Nat.lt_of_lt_of_le zl hWr.out.size
          have zp6 := Nat.lt_of_lt_of_le zp hWr.out.size
          have kE1 := Lib.hid (kE.out fv fs wr hWr.out hfoh.out.at hfl20 hfbh.out)
          go_wp2_with (first
           | (go_at_call 14; (with_reducible refine Calls.mono kE1.out ?_); rintro e w5 ⟨rfl, hB5⟩)
           | (go_at_call 10; (with_reducible refine Calls.mono (kK.out _) ?_); rintro e w9 ⟨rfl, hB9⟩))
          go_ret
          exact ⟨rfl, below_tr hVw.out (below_tr hB5 hB9)⟩
end Go.Proofs.YthjmdagonfeneaaGreat.W
