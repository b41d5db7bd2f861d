/- Laws and walks: Tbl. -/
import Derived.Deep.Cut
import Derived.Deep.CutRange
import Derived.Test.YthbkcoijafehgaaGreatK28
import Derived.Test.YthbkcoijafehgaaGreatK35
import Derived.Test.YthbkcoijafehgaaGreatK36
import Derived.Test.YthbkcoijafehgaaGreatK37
import Derived.Test.YthbkcoijafehgaaGreatK39
set_option linter.unusedVariables false
set_option linter.unusedSimpArgs false
namespace Go.Proofs.YthbkcoijafehgaaGreat.L
open Go.RowKit Go.Sd Lk Lc
set_option maxRecDepth 100000 in
set_option maxHeartbeats 800000000 in
theorem mainBalanced (c : Gas.Cav) (s : Gas.St) (lv : Value) (xs : List Gas.Op) (p : Gas.Pt) (av : Value) (xa : List Int) (bv : Value) (xb : List Int) (dv : Value) (wd : List Int) (size since : Int) (w : World)
    (hl : G.OpsAt w lv xs) (hfl : G.Fits lv) (ha : G.IntsAt w av xa) (hfa : G.Fits av) (hb : G.IntsAt w bv xb) (hfb : G.Fits bv) (hd : G.IntsAt w dv wd) (t0 : xs.length ≤ 12) (t1 : 1 ≤ xs.length) (t2 : xa.length ≤ 20) (t3 : xb.length ≤ 20) (t4 : wd.length = xs.length) (t5 : c.ok = true) (t6 : s.ok = true) (t7 : Gas.opsB xs = true) (t8 : Gas.hasB s p = true) (t9 : Gas.truthB xs xa xb = true) (t10 : 1 ≤ size) (t11 : size ≤ 1000) (t12 : 0 ≤ since) (t13 : since < xs.length) :
    Calls Tryz.prog 3 #[G.cavV c, G.stV s, lv, G.ptV p, av, bv, dv, .int .i64 size, .int .i64 since] w fun e w' => e = .returned (.bool true) ∧ Below w.heap.size w w' := by
  have kK := Lib.hid (fun X => known11 X)
  have hfl' := hfl
  obtain ⟨la, ln, lc, rfl, hlc1, hlc2⟩ := hfl'
  obtain rfl : ln = xs.length := by obtain ⟨a', c', e, -⟩ := hl; simp only [Value.slice.injEq] at e; exact e.2.1
  obtain ⟨aa, an, ac, rfl, hac1, hac2⟩ := hfa
  obtain rfl : an = xa.length := by obtain ⟨a', c', e, -⟩ := ha; simp only [Value.slice.injEq] at e; exact e.2.1
  obtain ⟨ba, bn, bc, rfl, hbc1, hbc2⟩ := hfb
  obtain rfl : bn = xb.length := by obtain ⟨a', c', e, -⟩ := hb; simp only [Value.slice.injEq] at e; exact e.2.1
  have hd' := hd
  obtain ⟨da, dc, rfl, hdm, -⟩ := hd'
  unfold maxLen at hlc2 hac2 hbc2 hdm
  obtain ⟨W1, hW1⟩ : ∃ W1, w.alloc (.cells #[.int .i64 c.vlo, .int .i64 c.vhi, .int .i64 c.least, .int .i64 c.most, .int .i64 c.f0, .int .i64 c.f1, .int .i64 c.h0, .int .i64 c.h1, .int .i64 c.rock, .int .i64 c.plo, .int .i64 c.phi] 26) = W1 := ⟨_, rfl⟩
  obtain ⟨eW0, bW0, sW0⟩ := boxed hW1
  have yW0_0 : w.heap.size < W1.heap.size := by omega
  obtain ⟨mW0_0_0, mW0_0_1, mW0_0_2, mW0_0_3, mW0_0_4, mW0_0_5, mW0_0_6, mW0_0_7, mW0_0_8, mW0_0_9, mW0_0_10⟩ := rc11 eW0
  obtain ⟨W2, hW2⟩ : ∃ W2, W1.alloc (.cells #[.int .i64 s.glo, .int .i64 s.ghi, .int .i64 s.ylo, .int .i64 s.yhi, .int .i64 s.tlo, .int .i64 s.thi, .int .i64 s.wlo, .int .i64 s.whi] 28) = W2 := ⟨_, rfl⟩
  obtain ⟨eW1, bW1, sW1⟩ := boxed hW2
  have yW1_0 : w.heap.size < W2.heap.size := by omega
  replace eW0 := (bW1.block _ (Array.getElem?_eq_some_iff.1 eW0).1).trans eW0
  obtain ⟨mW1_0_0, mW1_0_1, mW1_0_2, mW1_0_3, mW1_0_4, mW1_0_5, mW1_0_6, mW1_0_7, mW1_0_8, mW1_0_9, mW1_0_10⟩ := rc11 eW0
  have yW1_1 : W1.heap.size < W2.heap.size := by omega
  obtain ⟨mW1_1_0, mW1_1_1, mW1_1_2, mW1_1_3, mW1_1_4, mW1_1_5, mW1_1_6, mW1_1_7⟩ := rc8 eW1
  obtain ⟨W, hW⟩ : ∃ W, W2.alloc (.cells #[.int .i64 p.g, .int .i64 p.y, .int .i64 p.t, .int .i64 p.w] 31) = W := ⟨_, rfl⟩
  obtain ⟨eW2, bW2, sW2⟩ := boxed hW
  replace eW0 := (bW2.block _ (Array.getElem?_eq_some_iff.1 eW0).1).trans eW0
  replace eW1 := (bW2.block _ (Array.getElem?_eq_some_iff.1 eW1).1).trans eW1
  have hBw : Below w.heap.size w W := (by have := sW0; have := sW1; have := sW2; exact ((bW0.trans (bW1.mono (by omega))).trans (bW2.mono (by omega))))
  obtain ⟨zW0, rW0, tW0⟩ := row_cells eW0
  obtain ⟨qW0_0, qW0_1, qW0_2, qW0_3, qW0_4, qW0_5, qW0_6, qW0_7, qW0_8, qW0_9, qW0_10⟩ := rc11 eW0
  obtain ⟨fW0_0, fW0_1, fW0_2, fW0_3, fW0_4, fW0_5, fW0_6, fW0_7, fW0_8, fW0_9, fW0_10⟩ := rf11 eW0
  have EW0 := Lib.hid eW0
  clear rW0 tW0 eW0
  obtain ⟨zW1, rW1, tW1⟩ := row_cells eW1
  obtain ⟨qW1_0, qW1_1, qW1_2, qW1_3, qW1_4, qW1_5, qW1_6, qW1_7⟩ := rc8 eW1
  obtain ⟨fW1_0, fW1_1, fW1_2, fW1_3, fW1_4, fW1_5, fW1_6, fW1_7⟩ := rf8 eW1
  have EW1 := Lib.hid eW1
  clear rW1 tW1 eW1
  obtain ⟨zW2, rW2, tW2⟩ := row_cells eW2
  obtain ⟨qW2_0, qW2_1, qW2_2, qW2_3⟩ := rc4 eW2
  obtain ⟨fW2_0, fW2_1, fW2_2, fW2_3⟩ := rf4 eW2
  have EW2 := Lib.hid eW2
  clear rW2 tW2 eW2
  have xW0 : w.heap.size ≤ w.heap.size := by omega
  have xW1 : w.heap.size ≤ W1.heap.size := by omega
  have xW2 : w.heap.size ≤ W2.heap.size := by omega
  clear bW0 sW0 bW1 sW1 bW2 sW2
  have hlW := hl.mono hBw
  have haW := ha.mono hBw
  have hbW := hb.mono hBw
  have hdW := hd.mono hBw
  have hl9 : (xs.length : Int) ≤ 9223372036854775807 := by omega
  have ha9 : (xa.length : Int) ≤ 9223372036854775807 := by omega
  have hb9 : (xb.length : Int) ≤ 9223372036854775807 := by omega
  have hd9 : (wd.length : Int) ≤ 9223372036854775807 := by omega
  have i0 : ¬ (12 : Int) < xs.length := by omega
  have i1 : ¬ (xs.length : Int) = 0 := by omega
  have j1 : ¬ xs.length = 0 := by omega
  have l1 : ¬ xs = [] := by intro h; rw [h] at j1; exact j1 rfl
  have i2 : ¬ (20 : Int) < xa.length := by omega
  have i3 : ¬ (20 : Int) < xb.length := by omega
  have i4 : (wd.length : Int) = xs.length := by omega
  have kC : Hid (∀ X, Calls Tryz.prog 4 #[G.cavV c] X fun e w' => e = .returned (.bool true) ∧ Below X.heap.size X w') := Lib.hid (fun X => (G.refCavern c X).mono (fun e w' (h : G.BoolB _ _ e w') => h.lit t5))
  have kS : Hid (∀ X, Calls Tryz.prog 5 #[G.stV s] X fun e w' => e = .returned (.bool true) ∧ Below X.heap.size X w') := Lib.hid (fun X => (G.refState s X).mono (fun e w' (h : G.BoolB _ _ e w') => h.lit t6))
  have kO : Hid (∀ g : Grow W, Calls Tryz.prog 6 #[.slice la xs.length lc] g.x fun e w' => e = .returned (.bool true) ∧ Below g.x.heap.size g.x w') := Lib.hid (fun g => (G.refOps _ xs g.x (hlW.mono g.h)).mono (fun e w' h => ⟨h.1.trans (bool_ret t7), h.2⟩))
  have kH : Hid (∀ X, Calls Tryz.prog 7 #[G.stV s, G.ptV p] X fun e w' => e = .returned (.bool true) ∧ Below X.heap.size X w') := Lib.hid (fun X => (G.refHas s p X).mono (fun e w' (h : G.BoolB _ _ e w') => h.lit t8))
  have kT : Hid (∀ g : Grow W, Calls Tryz.prog 8 #[.slice la xs.length lc, .slice aa xa.length ac, .slice ba xb.length bc] g.x fun e w' => e = .returned (.bool true) ∧ Below g.x.heap.size g.x w') := Lib.hid (fun g => (G.refTruth _ _ _ xs xa xb g.x (hlW.mono g.h) (haW.mono g.h) (hbW.mono g.h)).mono (fun e w' h => ⟨h.1.trans (bool_ret t9), h.2⟩))
  have i10 : ¬ size < 1 := by omega
  have i11 : ¬ (1000 : Int) < size := by omega
  have i12 : ¬ since < 0 := by omega
  have i13 : ¬ (xs.length : Int) ≤ since := by omega
  replace t0 := Lib.hid t0; replace t1 := Lib.hid t1; replace t2 := Lib.hid t2; replace t3 := Lib.hid t3; replace t4 := Lib.hid t4; replace t5 := Lib.hid t5; replace t6 := Lib.hid t6; replace t7 := Lib.hid t7; replace t8 := Lib.hid t8; replace t9 := Lib.hid t9; replace t10 := Lib.hid t10; replace t11 := Lib.hid t11; replace t12 := Lib.hid t12; replace t13 := Lib.hid t13
  have hl0 := Lib.hid hl
  have ha0 := Lib.hid ha
  have hb0 := Lib.hid hb
  have hd0 := Lib.hid hd
  have hlh := Lib.hid hlW
  have hah := Lib.hid haW
  have hbh := Lib.hid hbW
  have hdh := Lib.hid hdW
  have hBh := Lib.hid hBw
  have hgW := grow_cell W
  clear hl ha hb hd hlW haW hbW hdW hfl hBw
  go_enter Tryz.func3, Tryz.ntmps3
  go_upto_region 1 with fail
  go_cut [108] from 38 to 108 (fun c0 wx => c0 = .bool false ∧ Hid (Below W.heap.size W wx))
  case first =>
    go_wp2_with (first | (go_at_call 4; refine Calls.mono (kC.out _) ?_; rintro e w1 ⟨rfl, hB⟩; (first | (obtain ⟨g, rfl⟩ := g.next hB) | (obtain ⟨g, rfl⟩ : ∃ g : Grow W, w1 = g.x := ⟨⟨w1, hB⟩, rfl⟩)); clear hB) | (go_at_call 5; refine Calls.mono (kS.out _) ?_; rintro e w1 ⟨rfl, hB⟩; (first | (obtain ⟨g, rfl⟩ := g.next hB) | (obtain ⟨g, rfl⟩ : ∃ g : Grow W, w1 = g.x := ⟨⟨w1, hB⟩, rfl⟩)); clear hB) | (go_at_call 6; refine Calls.mono (kO.out _) ?_; rintro e w1 ⟨rfl, hB⟩; (first | (obtain ⟨g, rfl⟩ := g.next hB) | (obtain ⟨g, rfl⟩ : ∃ g : Grow W, w1 = g.x := ⟨⟨w1, hB⟩, rfl⟩)); clear hB) | (go_at_call 7; refine Calls.mono (kH.out _) ?_; rintro e w1 ⟨rfl, hB⟩; (first | (obtain ⟨g, rfl⟩ := g.next hB) | (obtain ⟨g, rfl⟩ : ∃ g : Grow W, w1 = g.x := ⟨⟨w1, hB⟩, rfl⟩)); clear hB) | (go_at_call 8; refine Calls.mono (kT.out _) ?_; rintro e w1 ⟨rfl, hB⟩; (first | (obtain ⟨g, rfl⟩ := g.next hB) | (obtain ⟨g, rfl⟩ : ∃ g : Grow W, w1 = g.x := ⟨⟨w1, hB⟩, rfl⟩)); clear hB))
    go_meet
    exact ⟨congrArg Value.bool (by simp only [Bool.or_eq_false_iff, decide_eq_false_iff_not, beq_eq_false_iff_ne, ne_eq]; omega), Lib.hid g.h⟩
  case rest =>
    obtain ⟨rfl, hH⟩ := hcut
    have hBV := hH.out
    clear hH kC kS kO kH kT i0 i1 j1 l1 i2 i3 i4 i10 i11 i12 i13 hgW
    have hV0 := Lib.hid (hBh.out.trans (hBV.mono hBh.out.size))
    have EC := Lib.hid (kept_block hBV EW0.out)
    have ES := Lib.hid (kept_block hBV EW1.out)
    have EP := Lib.hid (kept_block hBV EW2.out)
    have hlV := Lib.hid (hlh.out.mono hBV)
    have haV := Lib.hid (hah.out.mono hBV)
    have hbV := Lib.hid (hbh.out.mono hBV)
    have hdV := Lib.hid (hdh.out.mono hBV)
    clear mW0_0_0 mW0_0_1 mW0_0_2 mW0_0_3 mW0_0_4 mW0_0_5 mW0_0_6 mW0_0_7 mW0_0_8 mW0_0_9 mW0_0_10 mW1_0_0 mW1_0_1 mW1_0_2 mW1_0_3 mW1_0_4 mW1_0_5 mW1_0_6 mW1_0_7 mW1_0_8 mW1_0_9 mW1_0_10 mW1_1_0 mW1_1_1 mW1_1_2 mW1_1_3 mW1_1_4 mW1_1_5 mW1_1_6 mW1_1_7 qW0_0 qW0_1 qW0_2 qW0_3 qW0_4 qW0_5 qW0_6 qW0_7 qW0_8 qW0_9 qW0_10 fW0_0 fW0_1 fW0_2 fW0_3 fW0_4 fW0_5 fW0_6 fW0_7 fW0_8 fW0_9 fW0_10 qW1_0 qW1_1 qW1_2 qW1_3 qW1_4 qW1_5 qW1_6 qW1_7 fW1_0 fW1_1 fW1_2 fW1_3 fW1_4 fW1_5 fW1_6 fW1_7 qW2_0 qW2_1 qW2_2 qW2_3 fW2_0 fW2_1 fW2_2 fW2_3 hW1 hW2 hW
    have z0 := Nat.lt_of_lt_of_le zW0 hBV.size
    have z1 := Nat.lt_of_lt_of_le zW1 hBV.size
    have z2 := Nat.lt_of_lt_of_le zW2 hBV.size
    have hc := Gas.Cav.ok_iff.1 t5.out
    have hs := Gas.St.ok_iff.1 t6.out
    have hp := Gas.hasB_iff.1 t8.out
    clear EW0 EW1 EW2 hlh hah hbh hdh hBh zW0 zW1 zW2 hBV
    obtain ⟨⟨R1, R2⟩, hR⟩ : ∃ R, Gas.steps c s xs = R := ⟨_, rfl⟩
    obtain ⟨hRn, hact⟩ := Gas.steps_spec hR
    have kS : Hid (∀ X, Below wc.heap.size wc X → Calls Tryz.prog 10 #[G.cavV c, G.stV s, .slice la xs.length lc] X fun e w'' => (∃ v, e = .returned (.tuple #[v, .int .i64 R2, .int .i64 0]) ∧ G.OwnSts X.heap.size w'' v R1) ∧ Below X.heap.size X w'') := Lib.hid fun X hX => by
      have := G.progStepsOwn X (hlV.out.mono hX) hc hs t7.out (by have := t0.out; omega)
      rw [hR] at this
      exact this
    clear hR
    obtain ⟨c0, c1, c2, c3, c4, c5, c6, c7, c8, c9, c10⟩ := rc11 EC.out
    obtain ⟨s0, s1, s2, s3, s4, s5, s6, s7⟩ := rc8 ES.out
    rcases hRn with ⟨rfl, hRl⟩ | ⟨rfl, hRl⟩
    case inr =>
      --CUT
      as_aux_lemma =>
        have j4 : (0 : Int) ≤ (R1.length : Int) := by omega
        obtain ⟨R2, hR2⟩ : ∃ R2 : Int, R2 = (R1.length : Int) := ⟨_, rfl⟩
        rw [← hR2] at kS j4
        replace hR2 := Lib.hid hR2
        replace hact := Lib.hid hact
        replace hRl := Lib.hid hRl
        replace hc := Lib.hid hc
        replace hs := Lib.hid hs
        replace hp := Lib.hid hp
        go_wp2_with (first
          | (go_at_call 10; (with_reducible refine Calls.mono (kS.out _ (Below.refl _ _)) ?_); rintro e w2 ⟨⟨v, rfl, hv⟩, hB2⟩)
          | (go_at_call 9; (with_reducible refine Calls.mono (kK.out _) ?_); rintro e w9 ⟨rfl, hB9⟩))
        go_ret
        exact ⟨rfl, below_tr hV0.out (below_tr hB2 hB9)⟩
      --END
    case inl =>
      have j4 : ¬ (0 : Int) ≤ (-1 : Int) := by omega
      replace hact := Lib.hid hact
      replace hc := Lib.hid hc
      replace hs := Lib.hid hs
      replace hp := Lib.hid hp
      have hRi : (R1.length : Int) = (xs.length : Int) := by omega
      have hsb := hs.out.g
      have hsc := hs.out.y
      go_upto_region 10 with (go_at_call 10; (with_reducible refine Calls.mono (kS.out _ (Below.refl _ _)) ?_); rintro e w2 ⟨⟨v, rfl, hv⟩, hB2⟩; obtain ⟨va, vc, hve⟩ := hv.slice; subst hve)
      have hl2 := below_tr hV0.out hB2
      have EC2 := Lib.hid (kept_block hB2 EC.out)
      have EP2 := Lib.hid (kept_block hB2 EP.out)
      have hlV2 := Lib.hid (hlV.out.mono hB2)
      have haV2 := Lib.hid (haV.out.mono hB2)
      have hbV2 := Lib.hid (hbV.out.mono hB2)
      have hdV2 := Lib.hid (hdV.out.mono hB2)
      obtain ⟨p0, p1, p2, p3, p4, p5, p6, p7⟩ := rc8 (kept_block hB2 ES.out)
      have zs := Nat.lt_of_lt_of_le z1 hB2.size
      have zc := Nat.lt_of_lt_of_le z0 hB2.size
      have zp := Nat.lt_of_lt_of_le z2 hB2.size
      have hsts := Lib.hid hv
      have hwcs : W2.heap.size < wc.heap.size := by omega
      have hwc2 : W2.heap.size < w2.heap.size := by have := hB2.size; omega
      clear s0 s1 s2 s3 s4 s5 s6 s7 c0 c1 c2 c3 c4 c5 c6 c7 c8 c9 c10 EC ES EP hlV haV hbV hdV hB2 hv z0 z1 z2 kS j4
      replace hl2 := Lib.hid hl2
      obtain ⟨U, hU⟩ : ∃ U, ((w2.alloc (spO ⟨s.glo + s.ylo, s.ghi + s.yhi⟩)).alloc (bkA (.slice (some ⟨w2.heap.size, 0, none⟩) 1 1) (.slice none 0 0) (.slice none 0 0))).alloc (bkA (.slice (some ⟨w2.heap.size, 0, none⟩) 1 1) (.slice none 0 0) (.slice none 0 0)) = U := ⟨_, rfl⟩
      replace hU := Lib.hid hU
      go_wp2_with fail
      rw [hU.out]
      obtain ⟨e0, e1, e2, sU, bU⟩ := three_new hU.out
      have ECU := kept_block bU EC2.out
      have EPU := kept_block bU EP2.out
      have hwU := Lib.hid (below_tr hl2.out bU)
      obtain ⟨vb, rfl, hvb1, hvb2, hvc⟩ := sts_block hsts.out (by have := t1.out; omega)
      have hS0 : Hid (TbSt U W2.heap.size (w2.heap.size + 1) (w2.heap.size + 1 + 1) (.slice (some ⟨w2.heap.size, 0, none⟩) 1 1) (.slice none 0 0) (.slice none 0 0) (.slice none 0 0) (.slice none 0 0) p [] [] [] [] U) := Lib.hid
        ⟨Kept.refl _ _, EPU, e1, e2, fun _ => 0, ⟨OwnSt.nil _ _ _ _ _, fun k e => by cases e⟩, ⟨[], ⟨OwnSt.nil _ _ _ _ _, fun k e => by cases e⟩, rfl, fun i hi => by simp at hi⟩, ⟨OwnSt.nil _ _ _ _ _, fun k e => by cases e⟩, ⟨OwnSt.nil _ _ _ _ _, fun k e => by cases e⟩⟩
      have hTB : Hid (TbB U W2.heap.size (w2.heap.size + 1) (w2.heap.size + 1 + 1)) := Lib.hid ⟨by omega, by omega, by omega, by omega, by omega, by omega⟩
      have hfU : Hid (SpsAt U (.slice (some ⟨w2.heap.size, 0, none⟩) 1 1) [⟨s.glo + s.ylo, s.ghi + s.yhi⟩] ∧ ∀ X, X.heap[w2.heap.size]? = U.heap[w2.heap.size]? → SpsAt X (.slice (some ⟨w2.heap.size, 0, none⟩) 1 1) [⟨s.glo + s.ylo, s.ghi + s.yhi⟩]) :=
        Lib.hid ⟨elsBlk spEnc_len _ [⟨s.glo + s.ylo, s.ghi + s.yhi⟩] e0 rfl (by simp [maxLen]) 1, fun X hX => elsBlk spEnc_len _ [⟨s.glo + s.ylo, s.ghi + s.yhi⟩] (hX.trans e0) rfl (by simp [maxLen]) 1⟩
      have hvU : Hid (vb < U.heap.size ∧ vb ≠ W2.heap.size ∧ vb ≠ w2.heap.size + 1 ∧ vb ≠ w2.heap.size + 1 + 1 ∧ ∀ k, k < R1.length → G.StCells U vb (k * 8) (Gas.theSt R1 k)) := Lib.hid ⟨by omega, by omega, by omega, by omega, fun k hk => (hvc k hk).mono bU⟩
      have hcU : Hid (w.heap.size < U.heap.size ∧ w.heap.size ≠ W2.heap.size ∧ w.heap.size ≠ w2.heap.size + 1 ∧ w.heap.size ≠ w2.heap.size + 1 + 1 ∧ w.heap.size ≤ w2.heap.size + 1 ∧ w.heap.size ≤ w2.heap.size + 1 + 1) := Lib.hid ⟨by omega, by omega, by omega, by omega, by omega, by omega⟩
      have hEC := Lib.hid ECU
      have hnxt := Lib.hid (fun k (hk : k < xs.length) => Gas.pt_next (p := p) hc.out hs.out hp.out t7.out t9.out (by omega) hact.out hk)
      have htr := Lib.hid (Gas.truth_iff.1 t9.out)
      clear e0 e1 e2 sU bU ECU EPU hvb1 hvb2 hvc p0 p1 p2 p3 p4 p5 p6 p7 zs zc zp hsts hl2 EC2 EP2 hlV2 haV2 hbV2 hdV2 hU hV0
      obtain ⟨pb, hpb⟩ : ∃ b, b = W2.heap.size := ⟨_, rfl⟩
      obtain ⟨fb, hfb⟩ : ∃ b, b = w2.heap.size := ⟨_, rfl⟩
      rw [← hpb] at hS0 hTB hvU hcU xW2 ⊢
      rw [← hfb] at hS0 hTB hvU hcU hfU ⊢
      obtain ⟨bb, hbb⟩ : ∃ b, b = fb + 1 := ⟨_, rfl⟩
      rw [← hbb] at hS0 hTB hvU hcU ⊢
      obtain ⟨lb, hlb⟩ : ∃ b, b = bb + 1 := ⟨_, rfl⟩
      rw [← hlb] at hS0 hTB hvU hcU ⊢
      have hfne : Hid (fb < U.heap.size ∧ fb ≠ pb ∧ fb ≠ bb ∧ fb ≠ lb) := Lib.hid (by
        have h1 := hTB.out.b
        have h2 := hTB.out.p
        have h3 := hTB.out.npb
        refine ⟨by omega, ?_, by omega, by omega⟩
        omega)
      clear hpb hfb hbb hlb hwcs hwc2 yW0_0 yW1_0 yW1_1 xW0 xW1
      have hbl : Hid (w.heap.size ≤ bb ∧ w.heap.size ≤ lb) := Lib.hid ⟨hcU.out.2.2.2.2.1, hcU.out.2.2.2.2.2⟩
      obtain ⟨fv, hfv⟩ : ∃ v : Value, v = .slice (some ⟨fb, 0, none⟩) 1 1 := ⟨_, rfl⟩
      rw [← hfv] at hS0 hfU
      clear hfv
      go_loopw [24, 25] (fun h0 i wr => ∃ (k : Nat) (hv wv rv qv : Value), k ≤ xs.length ∧ hv = h0 ∧ i = .int .i64 k ∧ Hid (TbSt U pb bb lb fv hv wv rv qv (Gas.ptAt c xs xa xb p k) ((List.range k).map (Tb.mOf c xs xa xb p)) (Tb.book c s xs xa xb wd p k).flows (Tb.book c s xs xa xb wd p k).reads (Tb.lacks c s xs xa xb wd p size since k).reads wr ∧
          (∀ d, d < k → 0 ≤ Gas.at0 wd d ∧ Gas.at0 wd d ≤ 1000))) (fun _ i _ => xs.length - (intOf i).toNat)
      case atStart => exact ⟨0, _, _, _, _, by omega, rfl, rfl, hS0.out, fun d hd => by omega⟩
      case round =>
        obtain ⟨k, hv, wv, rv, qv, hk, rfl, rfl, hH⟩ := hrel
        obtain ⟨hS, hwd⟩ := hH.out
        clear hH hS0
        have hBw := hS.below hwU.out xW2 hbl.out.1 hbl.out.2
        by_cases hlt : k < xs.length
        · have hki : (k : Int) < (xs.length : Int) := by omega
          --ROUND
          as_aux_lemma =>
            have hkd : (k : Int) < (wd.length : Int) := by have := t4.out; omega
            obtain ⟨db, dof, hda, hdb, hdx⟩ : ∃ b o, da = some ⟨b, o, none⟩ ∧ b < w.heap.size ∧ w.cell? ⟨b, o + k, none⟩ = some (.int .i64 (Gas.at0 wd k)) := by
              obtain ⟨a', c', e, -, hc⟩ := hd0.out
              simp only [Value.slice.injEq] at e
              obtain ⟨rfl, -, rfl⟩ := e
              obtain ⟨b, o, rfl, h1, h2⟩ := hc (by have := t4.out; omega)
              exact ⟨b, o, rfl, h1, h2 k (by have := t4.out; omega)⟩
            subst hda
            have dx := kept_cell hBw hdx
            have dz := Nat.lt_of_lt_of_le hdb hBw.size
            obtain ⟨u, hu⟩ : ∃ u, u = Gas.at0 wd k := ⟨_, rfl⟩
            rw [← hu] at dx
            replace hBw := Lib.hid hBw
            have hSh := Lib.hid hS
            clear hS
            by_cases hu0 : u < 0
            · skip
              --CUT
              as_aux_lemma =>
                clear hRi hsb hsc
                go_wp2_with (go_at_call 9; (with_reducible refine Calls.mono (kK.out _) ?_); rintro e w9 ⟨rfl, hB9⟩)
                go_ret
                exact ⟨rfl, below_tr hBw.out hB9⟩
              --END
            · by_cases hu1 : 1000 < u
              · skip
                --CUT
                as_aux_lemma =>
                  clear hRi hsb hsc
                  go_wp2_with (go_at_call 9; (with_reducible refine Calls.mono (kK.out _) ?_); rintro e w9 ⟨rfl, hB9⟩)
                  go_ret
                  exact ⟨rfl, below_tr hBw.out hB9⟩
                --END
              · go_upto_region 18 with fail
                obtain ⟨⟨g, h1⟩, hpk, hnk, hhk, hcon⟩ := hnxt.out k hlt
                obtain ⟨ob, oo, rfl, hob, hoc⟩ : ∃ b o, la = some ⟨b, o, none⟩ ∧ b < w.heap.size ∧ G.OpCells w b (o + k * 10) (Gas.theOp xs k) := by
                  obtain ⟨a', c', e, -, hc⟩ := hl0.out
                  simp only [Value.slice.injEq] at e
                  obtain ⟨rfl, -, rfl⟩ := e
                  obtain ⟨b, o, rfl, h1, h2⟩ := hc (by omega)
                  exact ⟨b, o, rfl, h1, h2 k hlt⟩
                obtain ⟨ab, ao, rfl, hab, hax⟩ : ∃ b o, aa = some ⟨b, o, none⟩ ∧ b < w.heap.size ∧ w.cell? ⟨b, o + k, none⟩ = some (.int .i64 (Gas.at0 xa k)) := by
                  obtain ⟨a', c', e, -, hc⟩ := ha0.out
                  simp only [Value.slice.injEq] at e
                  obtain ⟨rfl, -, rfl⟩ := e
                  obtain ⟨b, o, rfl, h1, h2⟩ := hc (by have := htr.out.1; omega)
                  exact ⟨b, o, rfl, h1, h2 k (by have := htr.out.1; omega)⟩
                obtain ⟨bq, bo, rfl, hbq, hbx⟩ : ∃ b o, ba = some ⟨b, o, none⟩ ∧ b < w.heap.size ∧ w.cell? ⟨b, o + k, none⟩ = some (.int .i64 (Gas.at0 xb k)) := by
                  obtain ⟨a', c', e, -, hc⟩ := hb0.out
                  simp only [Value.slice.injEq] at e
                  obtain ⟨rfl, -, rfl⟩ := e
                  obtain ⟨b, o, rfl, h1, h2⟩ := hc (by have := htr.out.2.1; omega)
                  exact ⟨b, o, rfl, h1, h2 k (by have := htr.out.2.1; omega)⟩
                have htk := htr.out.2.2 k hlt
                simp only [Gas.trueAt, Bool.and_eq_true] at htk
                have hok := Gas.opsB_iff.1 t7.out k hlt
                have hmx : xs.length ≤ maxLen := by unfold maxLen; have := t0.out; omega
                have kP : Hid (∀ X, Below w.heap.size w X → Calls Tryz.prog 11 #[G.cavV c, G.ptV (Gas.ptAt c xs xa xb p k), G.oneV ob oo 10 k lc, G.oneI ab ao k ac, G.oneI bq bo k bc] X fun e w' => e = .returned (.tuple #[G.ptV (Gas.ptAt c xs xa xb p (k + 1)), G.ptV (Gas.addPt ⟨0, 0, 0, 0⟩ g), .int .i64 0]) ∧ Below X.heap.size X w') := Lib.hid fun X hX =>
                  playOne t5.out hpk hok htk.1 htk.2 h1 _ _ _ X (G.ops_one hmx (hoc.mono hX) (Nat.lt_of_lt_of_le hob hX.size)) (G.ints_one (kept_cell hX hax) (Nat.lt_of_lt_of_le hab hX.size)) (G.ints_one (kept_cell hX hbx) (Nat.lt_of_lt_of_le hbq hX.size))
                have kH : Hid (∀ X, Calls Tryz.prog 7 #[G.stV (Gas.theSt R1 k), G.ptV (Gas.ptAt c xs xa xb p (k + 1))] X fun e w' => e = .returned (.bool true) ∧ Below X.heap.size X w') := Lib.hid fun X =>
                  (G.refHas (Gas.theSt R1 k) (Gas.ptAt c xs xa xb p (k + 1)) X).mono fun e w' (h : G.BoolB _ _ e w') => h.lit (Gas.hasB_iff.2 hhk)
                have hmd : Hid (Tb.mOf c xs xa xb p k = (Gas.ptAt c xs xa xb p (k + 1)).g + (Gas.ptAt c xs xa xb p (k + 1)).y) := Lib.hid rfl
                have hcd : Hid (Tb.cOf xs k = Gas.cameOf (Gas.theOp xs k)) := Lib.hid rfl
                have hcb := Gas.came_bd (Gas.Op.ok_is hok)
                have hzg := hhk.g
                have hzy := hhk.y
                have hng := hnk.g
                have hny := hnk.y
                have hux : Hid (0 ≤ Gas.at0 wd k ∧ Gas.at0 wd k ≤ 1000) := Lib.hid (by omega)
                have hlcb : (k : Int) + 1 ≤ (lc : Int) := by omega
                have hacb : (k : Int) + 1 ≤ (ac : Int) := by have := htr.out.1; omega
                have hbcb : (k : Int) + 1 ≤ (bc : Int) := by have := htr.out.2.1; omega
                have hk1 : ¬ lc = k := by omega
                have hk2 : ¬ ac = k := by omega
                have hk3 : ¬ bc = k := by omega
                have hwr : IntKind.i64.wrap ((k : Int) + 1) = (k : Int) + 1 := IntWalk.i64_in _ (by omega)
                have hka : (k : Int) < (xa.length : Int) := by have := htr.out.1; omega
                have hkb : (k : Int) < (xb.length : Int) := by have := htr.out.2.1; omega
                have hoc0 := Lib.hid hoc
                have hob0 := Lib.hid hob
                clear hax hbx hab hbq hoc hob h1 hpk hnk hhk hcon htk hok hmx
                obtain ⟨y, hy⟩ : ∃ y, y = Gas.ptAt c xs xa xb p k := ⟨_, rfl⟩
                obtain ⟨z, hz⟩ : ∃ z, z = Gas.ptAt c xs xa xb p (k + 1) := ⟨_, rfl⟩
                obtain ⟨sm, hsm⟩ : ∃ sm, sm = Gas.addPt ⟨0, 0, 0, 0⟩ g := ⟨_, rfl⟩
                obtain ⟨n, hn⟩ : ∃ n, n = Gas.theSt R1 k := ⟨_, rfl⟩
                obtain ⟨ox, hox⟩ : ∃ o, o = Gas.theOp xs k := ⟨_, rfl⟩
                rw [← hy, ← hz, ← hsm] at kP
                rw [← hz, ← hn] at kH
                rw [← hy] at hSh
                rw [← hz] at hmd hzg hzy
                rw [← hn] at hng hny hzg hzy
                rw [← hox] at hcd hcb hoc0
                replace hy := Lib.hid hy
                replace hz := Lib.hid hz
                replace hn := Lib.hid hn
                replace hox := Lib.hid hox
                clear hsm dx
                have hEX : Hid (∀ X, Below wr.heap.size wr X → X.heap[w.heap.size]? = some (.cells #[.int .i64 c.vlo, .int .i64 c.vhi, .int .i64 c.least, .int .i64 c.most, .int .i64 c.f0, .int .i64 c.f1, .int .i64 c.h0, .int .i64 c.h1, .int .i64 c.rock, .int .i64 c.plo, .int .i64 c.phi] 26)) := Lib.hid fun X hX =>
                  kept_block hX ((hSh.out.keep.block _ hcU.out.1 ⟨hcU.out.1, hcU.out.2.1, hcU.out.2.2.1, hcU.out.2.2.2.1⟩).trans hEC.out)
                go_cut [26, 27, 28] from 146 to 286 (fun c26 c27 c28 wx => ∃ b26 : Nat, c26 = .pointer (some ⟨b26, 0, none⟩) ∧ c28 = .int .i64 0 ∧ Hid (TbSt U pb bb lb fv hv wv rv qv y ((List.range k).map (Tb.mOf c xs xa xb p)) (Tb.book c s xs xa xb wd p k).flows (Tb.book c s xs xa xb wd p k).reads (Tb.lacks c s xs xa xb wd p size since k).reads wx ∧ wx.heap[b26]? = some (ptO z) ∧ U.heap.size ≤ b26 ∧ Below w.heap.size w wx))
                case first =>
                 skip
                 --CUT
                 as_aux_lemma =>
                   refine plain_region (by kernel_rfl) (any_region_locN 24 416 [20, 21] [166, 167, 168, 169, 170, 171, 172, 173, 174, 175, 176, 177, 178, 179, 180, 181, 182, 183, 165, 184, 185, 186, 26, 27] [[], [], [], [], [], [4], [2, 3, 5], [], [], [], [9], [7, 8, 10], [], [], [], [14], [12, 13, 15], [0, 1, 6, 11, 16], [17], [18], [18], [18], [], []] [IsV (G.cavV c), IsV (G.ptV y), IsV (.slice (some ⟨ob, oo, none⟩) xs.length lc), IsV (.int .i64 k), IsV (.int .i64 k), IsV (.int .i64 ((k : Int) + 1)), IsV (G.oneV ob oo 10 k lc), IsV (.slice (some ⟨ab, ao, none⟩) xa.length ac), IsV (.int .i64 k), IsV (.int .i64 k), IsV (.int .i64 ((k : Int) + 1)), IsV (G.oneI ab ao k ac), IsV (.slice (some ⟨bq, bo, none⟩) xb.length bc), IsV (.int .i64 k), IsV (.int .i64 k), IsV (.int .i64 ((k : Int) + 1)), IsV (G.oneI bq bo k bc), IsV (.tuple #[G.ptV z, G.ptV sm, .int .i64 0]), IsV (.tuple #[G.ptV z, G.ptV sm, .int .i64 0]), IsV (G.ptV z), IsV (G.ptV sm), IsV (.int .i64 0), NewAt wr.heap.size #[.int .i64 0, .int .i64 0, .int .i64 0, .int .i64 0] 31, NewAt wr.heap.size #[.int .i64 0, .int .i64 0, .int .i64 0, .int .i64 0] 31] [22, 23] (by kernel_rfl) (by kernel_rfl) (by kernel_rfl) (by kernel_rfl) (by kernel_rfl) rfl OnlyN.panic ?_ ?_ ?_ ?_ ?_)
                   · exact List.forall_mem_cons.2 ⟨pers_v _, List.forall_mem_cons.2 ⟨pers_v _, List.forall_mem_cons.2 ⟨pers_v _, List.forall_mem_cons.2 ⟨pers_v _, List.forall_mem_cons.2 ⟨pers_v _, List.forall_mem_cons.2 ⟨pers_v _, List.forall_mem_cons.2 ⟨pers_v _, List.forall_mem_cons.2 ⟨pers_v _, List.forall_mem_cons.2 ⟨pers_v _, List.forall_mem_cons.2 ⟨pers_v _, List.forall_mem_cons.2 ⟨pers_v _, List.forall_mem_cons.2 ⟨pers_v _, List.forall_mem_cons.2 ⟨pers_v _, List.forall_mem_cons.2 ⟨pers_v _, List.forall_mem_cons.2 ⟨pers_v _, List.forall_mem_cons.2 ⟨pers_v _, List.forall_mem_cons.2 ⟨pers_v _, List.forall_mem_cons.2 ⟨pers_v _, List.forall_mem_cons.2 ⟨pers_v _, List.forall_mem_cons.2 ⟨pers_v _, List.forall_mem_cons.2 ⟨pers_v _, List.forall_mem_cons.2 ⟨pers_v _, List.forall_mem_cons.2 ⟨pers_new _ _ _, List.forall_mem_cons.2 ⟨pers_new _ _ _, fun f h => nomatch h⟩⟩⟩⟩⟩⟩⟩⟩⟩⟩⟩⟩⟩⟩⟩⟩⟩⟩⟩⟩⟩⟩⟩⟩
                   · intro k hk u x hu
                     rcases List.mem_cons.1 hk with rfl | hk
                     · exact NewAt.isNew (show NewAt _ _ _ u x from hu)
                     obtain rfl : k = 23 := by simpa using hk
                     exact NewAt.isNew (show NewAt _ _ _ u x from hu)
                   · refine ⟨?_, ?_, ?_, ?_, ?_, ?_, ?_, ?_, ?_, ?_, ?_, ?_, ?_, ?_, ?_, ?_, ?_, ?_, ?_, ?_, ?_, ?_, ?_, ?_, trivial⟩
                     · intro vals x hb hf
                       simp only [fillS, List.getD_cons_succ, List.getD_cons_zero, Act.put, List.setIfInBounds_toArray, List.set_cons_zero, List.set_cons_succ]
                       clear hf
                       obtain ⟨a0, a1, a2, a3, a4, a5, a6, a7, a8, a9, a10⟩ := rc11 (hEX.out x hb)
                       obtain ⟨b0, b1, b2, b3⟩ := rc4 (kept_block hb hSh.out.gp)
                       have za := (Array.getElem?_eq_some_iff.1 (hEX.out x hb)).1
                       have zb := (Array.getElem?_eq_some_iff.1 (kept_block hb hSh.out.gp)).1
                       go_wp2
                       exact ⟨rfl, rfl, Below.refl _ _, _, rfl, rfl, (fun h => absurd h (by decide))⟩
                     · intro vals x hb hf
                       simp only [fillS, List.getD_cons_succ, List.getD_cons_zero, Act.put, List.setIfInBounds_toArray, List.set_cons_zero, List.set_cons_succ]
                       clear hf
                       obtain ⟨a0, a1, a2, a3, a4, a5, a6, a7, a8, a9, a10⟩ := rc11 (hEX.out x hb)
                       obtain ⟨b0, b1, b2, b3⟩ := rc4 (kept_block hb hSh.out.gp)
                       have za := (Array.getElem?_eq_some_iff.1 (hEX.out x hb)).1
                       have zb := (Array.getElem?_eq_some_iff.1 (kept_block hb hSh.out.gp)).1
                       go_wp2
                       exact ⟨rfl, rfl, Below.refl _ _, _, rfl, rfl, (fun h => absurd h (by decide))⟩
                     · intro vals x hb hf
                       simp only [fillS, List.getD_cons_succ, List.getD_cons_zero, Act.put, List.setIfInBounds_toArray, List.set_cons_zero, List.set_cons_succ]
                       clear hf
                       obtain ⟨a0, a1, a2, a3, a4, a5, a6, a7, a8, a9, a10⟩ := rc11 (hEX.out x hb)
                       obtain ⟨b0, b1, b2, b3⟩ := rc4 (kept_block hb hSh.out.gp)
                       have za := (Array.getElem?_eq_some_iff.1 (hEX.out x hb)).1
                       have zb := (Array.getElem?_eq_some_iff.1 (kept_block hb hSh.out.gp)).1
                       go_wp2
                       exact ⟨rfl, rfl, Below.refl _ _, _, rfl, rfl, (fun h => absurd h (by decide))⟩
                     · intro vals x hb hf
                       simp only [fillS, List.getD_cons_succ, List.getD_cons_zero, Act.put, List.setIfInBounds_toArray, List.set_cons_zero, List.set_cons_succ]
                       clear hf
                       obtain ⟨a0, a1, a2, a3, a4, a5, a6, a7, a8, a9, a10⟩ := rc11 (hEX.out x hb)
                       obtain ⟨b0, b1, b2, b3⟩ := rc4 (kept_block hb hSh.out.gp)
                       have za := (Array.getElem?_eq_some_iff.1 (hEX.out x hb)).1
                       have zb := (Array.getElem?_eq_some_iff.1 (kept_block hb hSh.out.gp)).1
                       go_wp2
                       exact ⟨rfl, rfl, Below.refl _ _, _, rfl, rfl, (fun h => absurd h (by decide))⟩
                     · intro vals x hb hf
                       simp only [fillS, List.getD_cons_succ, List.getD_cons_zero, Act.put, List.setIfInBounds_toArray, List.set_cons_zero, List.set_cons_succ]
                       clear hf
                       obtain ⟨a0, a1, a2, a3, a4, a5, a6, a7, a8, a9, a10⟩ := rc11 (hEX.out x hb)
                       obtain ⟨b0, b1, b2, b3⟩ := rc4 (kept_block hb hSh.out.gp)
                       have za := (Array.getElem?_eq_some_iff.1 (hEX.out x hb)).1
                       have zb := (Array.getElem?_eq_some_iff.1 (kept_block hb hSh.out.gp)).1
                       go_wp2
                       exact ⟨rfl, rfl, Below.refl _ _, _, rfl, rfl, (fun h => absurd h (by decide))⟩
                     · intro vals x hb hf
                       simp only [fillS, List.getD_cons_succ, List.getD_cons_zero, Act.put, List.setIfInBounds_toArray, List.set_cons_zero, List.set_cons_succ]
                       have h4 : vals 4 = .int .i64 k := hf.1
                       rw [h4]
                       clear h4
                       clear hf
                       obtain ⟨a0, a1, a2, a3, a4, a5, a6, a7, a8, a9, a10⟩ := rc11 (hEX.out x hb)
                       obtain ⟨b0, b1, b2, b3⟩ := rc4 (kept_block hb hSh.out.gp)
                       have za := (Array.getElem?_eq_some_iff.1 (hEX.out x hb)).1
                       have zb := (Array.getElem?_eq_some_iff.1 (kept_block hb hSh.out.gp)).1
                       go_wp2
                       exact ⟨rfl, rfl, Below.refl _ _, _, rfl, rfl, (fun h => absurd h (by decide))⟩
                     · intro vals x hb hf
                       simp only [fillS, List.getD_cons_succ, List.getD_cons_zero, Act.put, List.setIfInBounds_toArray, List.set_cons_zero, List.set_cons_succ]
                       have h2 : vals 2 = .slice (some ⟨ob, oo, none⟩) xs.length lc := hf.1
                       rw [h2]
                       clear h2
                       have h3 : vals 3 = .int .i64 k := hf.2.1
                       rw [h3]
                       clear h3
                       have h5 : vals 5 = .int .i64 ((k : Int) + 1) := hf.2.2.1
                       rw [h5]
                       clear h5
                       clear hf
                       obtain ⟨a0, a1, a2, a3, a4, a5, a6, a7, a8, a9, a10⟩ := rc11 (hEX.out x hb)
                       obtain ⟨b0, b1, b2, b3⟩ := rc4 (kept_block hb hSh.out.gp)
                       have za := (Array.getElem?_eq_some_iff.1 (hEX.out x hb)).1
                       have zb := (Array.getElem?_eq_some_iff.1 (kept_block hb hSh.out.gp)).1
                       go_wp2
                       exact ⟨rfl, rfl, Below.refl _ _, _, rfl, rfl, (fun h => absurd h (by decide))⟩
                     · intro vals x hb hf
                       simp only [fillS, List.getD_cons_succ, List.getD_cons_zero, Act.put, List.setIfInBounds_toArray, List.set_cons_zero, List.set_cons_succ]
                       clear hf
                       obtain ⟨a0, a1, a2, a3, a4, a5, a6, a7, a8, a9, a10⟩ := rc11 (hEX.out x hb)
                       obtain ⟨b0, b1, b2, b3⟩ := rc4 (kept_block hb hSh.out.gp)
                       have za := (Array.getElem?_eq_some_iff.1 (hEX.out x hb)).1
                       have zb := (Array.getElem?_eq_some_iff.1 (kept_block hb hSh.out.gp)).1
                       go_wp2
                       exact ⟨rfl, rfl, Below.refl _ _, _, rfl, rfl, (fun h => absurd h (by decide))⟩
                     · intro vals x hb hf
                       simp only [fillS, List.getD_cons_succ, List.getD_cons_zero, Act.put, List.setIfInBounds_toArray, List.set_cons_zero, List.set_cons_succ]
                       clear hf
                       obtain ⟨a0, a1, a2, a3, a4, a5, a6, a7, a8, a9, a10⟩ := rc11 (hEX.out x hb)
                       obtain ⟨b0, b1, b2, b3⟩ := rc4 (kept_block hb hSh.out.gp)
                       have za := (Array.getElem?_eq_some_iff.1 (hEX.out x hb)).1
                       have zb := (Array.getElem?_eq_some_iff.1 (kept_block hb hSh.out.gp)).1
                       go_wp2
                       exact ⟨rfl, rfl, Below.refl _ _, _, rfl, rfl, (fun h => absurd h (by decide))⟩
                     · intro vals x hb hf
                       simp only [fillS, List.getD_cons_succ, List.getD_cons_zero, Act.put, List.setIfInBounds_toArray, List.set_cons_zero, List.set_cons_succ]
                       clear hf
                       obtain ⟨a0, a1, a2, a3, a4, a5, a6, a7, a8, a9, a10⟩ := rc11 (hEX.out x hb)
                       obtain ⟨b0, b1, b2, b3⟩ := rc4 (kept_block hb hSh.out.gp)
                       have za := (Array.getElem?_eq_some_iff.1 (hEX.out x hb)).1
                       have zb := (Array.getElem?_eq_some_iff.1 (kept_block hb hSh.out.gp)).1
                       go_wp2
                       exact ⟨rfl, rfl, Below.refl _ _, _, rfl, rfl, (fun h => absurd h (by decide))⟩
                     · intro vals x hb hf
                       simp only [fillS, List.getD_cons_succ, List.getD_cons_zero, Act.put, List.setIfInBounds_toArray, List.set_cons_zero, List.set_cons_succ]
                       have h9 : vals 9 = .int .i64 k := hf.1
                       rw [h9]
                       clear h9
                       clear hf
                       obtain ⟨a0, a1, a2, a3, a4, a5, a6, a7, a8, a9, a10⟩ := rc11 (hEX.out x hb)
                       obtain ⟨b0, b1, b2, b3⟩ := rc4 (kept_block hb hSh.out.gp)
                       have za := (Array.getElem?_eq_some_iff.1 (hEX.out x hb)).1
                       have zb := (Array.getElem?_eq_some_iff.1 (kept_block hb hSh.out.gp)).1
                       go_wp2
                       exact ⟨rfl, rfl, Below.refl _ _, _, rfl, rfl, (fun h => absurd h (by decide))⟩
                     · intro vals x hb hf
                       simp only [fillS, List.getD_cons_succ, List.getD_cons_zero, Act.put, List.setIfInBounds_toArray, List.set_cons_zero, List.set_cons_succ]
                       have h7 : vals 7 = .slice (some ⟨ab, ao, none⟩) xa.length ac := hf.1
                       rw [h7]
                       clear h7
                       have h8 : vals 8 = .int .i64 k := hf.2.1
                       rw [h8]
                       clear h8
                       have h10 : vals 10 = .int .i64 ((k : Int) + 1) := hf.2.2.1
                       rw [h10]
                       clear h10
                       clear hf
                       obtain ⟨a0, a1, a2, a3, a4, a5, a6, a7, a8, a9, a10⟩ := rc11 (hEX.out x hb)
                       obtain ⟨b0, b1, b2, b3⟩ := rc4 (kept_block hb hSh.out.gp)
                       have za := (Array.getElem?_eq_some_iff.1 (hEX.out x hb)).1
                       have zb := (Array.getElem?_eq_some_iff.1 (kept_block hb hSh.out.gp)).1
                       go_wp2
                       exact ⟨rfl, rfl, Below.refl _ _, _, rfl, rfl, (fun h => absurd h (by decide))⟩
                     · intro vals x hb hf
                       simp only [fillS, List.getD_cons_succ, List.getD_cons_zero, Act.put, List.setIfInBounds_toArray, List.set_cons_zero, List.set_cons_succ]
                       clear hf
                       obtain ⟨a0, a1, a2, a3, a4, a5, a6, a7, a8, a9, a10⟩ := rc11 (hEX.out x hb)
                       obtain ⟨b0, b1, b2, b3⟩ := rc4 (kept_block hb hSh.out.gp)
                       have za := (Array.getElem?_eq_some_iff.1 (hEX.out x hb)).1
                       have zb := (Array.getElem?_eq_some_iff.1 (kept_block hb hSh.out.gp)).1
                       go_wp2
                       exact ⟨rfl, rfl, Below.refl _ _, _, rfl, rfl, (fun h => absurd h (by decide))⟩
                     · intro vals x hb hf
                       simp only [fillS, List.getD_cons_succ, List.getD_cons_zero, Act.put, List.setIfInBounds_toArray, List.set_cons_zero, List.set_cons_succ]
                       clear hf
                       obtain ⟨a0, a1, a2, a3, a4, a5, a6, a7, a8, a9, a10⟩ := rc11 (hEX.out x hb)
                       obtain ⟨b0, b1, b2, b3⟩ := rc4 (kept_block hb hSh.out.gp)
                       have za := (Array.getElem?_eq_some_iff.1 (hEX.out x hb)).1
                       have zb := (Array.getElem?_eq_some_iff.1 (kept_block hb hSh.out.gp)).1
                       go_wp2
                       exact ⟨rfl, rfl, Below.refl _ _, _, rfl, rfl, (fun h => absurd h (by decide))⟩
                     · intro vals x hb hf
                       simp only [fillS, List.getD_cons_succ, List.getD_cons_zero, Act.put, List.setIfInBounds_toArray, List.set_cons_zero, List.set_cons_succ]
                       clear hf
                       obtain ⟨a0, a1, a2, a3, a4, a5, a6, a7, a8, a9, a10⟩ := rc11 (hEX.out x hb)
                       obtain ⟨b0, b1, b2, b3⟩ := rc4 (kept_block hb hSh.out.gp)
                       have za := (Array.getElem?_eq_some_iff.1 (hEX.out x hb)).1
                       have zb := (Array.getElem?_eq_some_iff.1 (kept_block hb hSh.out.gp)).1
                       go_wp2
                       exact ⟨rfl, rfl, Below.refl _ _, _, rfl, rfl, (fun h => absurd h (by decide))⟩
                     · intro vals x hb hf
                       simp only [fillS, List.getD_cons_succ, List.getD_cons_zero, Act.put, List.setIfInBounds_toArray, List.set_cons_zero, List.set_cons_succ]
                       have h14 : vals 14 = .int .i64 k := hf.1
                       rw [h14]
                       clear h14
                       clear hf
                       obtain ⟨a0, a1, a2, a3, a4, a5, a6, a7, a8, a9, a10⟩ := rc11 (hEX.out x hb)
                       obtain ⟨b0, b1, b2, b3⟩ := rc4 (kept_block hb hSh.out.gp)
                       have za := (Array.getElem?_eq_some_iff.1 (hEX.out x hb)).1
                       have zb := (Array.getElem?_eq_some_iff.1 (kept_block hb hSh.out.gp)).1
                       go_wp2
                       exact ⟨rfl, rfl, Below.refl _ _, _, rfl, rfl, (fun h => absurd h (by decide))⟩
                     · intro vals x hb hf
                       simp only [fillS, List.getD_cons_succ, List.getD_cons_zero, Act.put, List.setIfInBounds_toArray, List.set_cons_zero, List.set_cons_succ]
                       have h12 : vals 12 = .slice (some ⟨bq, bo, none⟩) xb.length bc := hf.1
                       rw [h12]
                       clear h12
                       have h13 : vals 13 = .int .i64 k := hf.2.1
                       rw [h13]
                       clear h13
                       have h15 : vals 15 = .int .i64 ((k : Int) + 1) := hf.2.2.1
                       rw [h15]
                       clear h15
                       clear hf
                       obtain ⟨a0, a1, a2, a3, a4, a5, a6, a7, a8, a9, a10⟩ := rc11 (hEX.out x hb)
                       obtain ⟨b0, b1, b2, b3⟩ := rc4 (kept_block hb hSh.out.gp)
                       have za := (Array.getElem?_eq_some_iff.1 (hEX.out x hb)).1
                       have zb := (Array.getElem?_eq_some_iff.1 (kept_block hb hSh.out.gp)).1
                       go_wp2
                       exact ⟨rfl, rfl, Below.refl _ _, _, rfl, rfl, (fun h => absurd h (by decide))⟩
                     · intro vals x hb hf
                       simp only [fillS, List.getD_cons_succ, List.getD_cons_zero, Act.put, List.setIfInBounds_toArray, List.set_cons_zero, List.set_cons_succ]
                       have h0 : vals 0 = G.cavV c := hf.1
                       rw [h0]
                       clear h0
                       have h1 : vals 1 = G.ptV y := hf.2.1
                       rw [h1]
                       clear h1
                       have f6 : (IsV (G.oneV ob oo 10 k lc)) (vals 6) x := hf.2.2.1
                       have f11 : (IsV (G.oneI ab ao k ac)) (vals 11) x := hf.2.2.2.1
                       have f16 : (IsV (G.oneI bq bo k bc)) (vals 16) x := hf.2.2.2.2.1
                       clear hf
                       obtain ⟨a0, a1, a2, a3, a4, a5, a6, a7, a8, a9, a10⟩ := rc11 (hEX.out x hb)
                       obtain ⟨b0, b1, b2, b3⟩ := rc4 (kept_block hb hSh.out.gp)
                       have za := (Array.getElem?_eq_some_iff.1 (hEX.out x hb)).1
                       have zb := (Array.getElem?_eq_some_iff.1 (kept_block hb hSh.out.gp)).1
                       rw [show vals 6 = G.oneV ob oo 10 k lc from f6, show vals 11 = G.oneI ab ao k ac from f11, show vals 16 = G.oneI bq bo k bc from f16]
                       go_wp2_with (go_at_call 11; (with_reducible refine Calls.mono (kP.out x (below_tr hBw.out hb)) ?_); rintro e yy ⟨rfl, hB⟩)
                       exact ⟨rfl, rfl, hB, _, rfl, rfl, (fun h => absurd h (by decide))⟩
                     · intro vals x hb hf
                       simp only [fillS, List.getD_cons_succ, List.getD_cons_zero, Act.put, List.setIfInBounds_toArray, List.set_cons_zero, List.set_cons_succ]
                       have f17 : (IsV (.tuple #[G.ptV z, G.ptV sm, .int .i64 0])) (vals 17) x := hf.1
                       clear hf
                       obtain ⟨a0, a1, a2, a3, a4, a5, a6, a7, a8, a9, a10⟩ := rc11 (hEX.out x hb)
                       obtain ⟨b0, b1, b2, b3⟩ := rc4 (kept_block hb hSh.out.gp)
                       have za := (Array.getElem?_eq_some_iff.1 (hEX.out x hb)).1
                       have zb := (Array.getElem?_eq_some_iff.1 (kept_block hb hSh.out.gp)).1
                       rw [show vals 17 = .tuple #[G.ptV z, G.ptV sm, .int .i64 0] from f17]
                       go_wp2
                       exact ⟨rfl, rfl, Below.refl _ _, _, rfl, rfl, (fun h => absurd h (by decide))⟩
                     · intro vals x hb hf
                       simp only [fillS, List.getD_cons_succ, List.getD_cons_zero, Act.put, List.setIfInBounds_toArray, List.set_cons_zero, List.set_cons_succ]
                       have f18 : (IsV (.tuple #[G.ptV z, G.ptV sm, .int .i64 0])) (vals 18) x := hf.1
                       clear hf
                       obtain ⟨a0, a1, a2, a3, a4, a5, a6, a7, a8, a9, a10⟩ := rc11 (hEX.out x hb)
                       obtain ⟨b0, b1, b2, b3⟩ := rc4 (kept_block hb hSh.out.gp)
                       have za := (Array.getElem?_eq_some_iff.1 (hEX.out x hb)).1
                       have zb := (Array.getElem?_eq_some_iff.1 (kept_block hb hSh.out.gp)).1
                       rw [show vals 18 = .tuple #[G.ptV z, G.ptV sm, .int .i64 0] from f18]
                       go_wp2
                       exact ⟨rfl, rfl, Below.refl _ _, _, rfl, rfl, (fun h => absurd h (by decide))⟩
                     · intro vals x hb hf
                       simp only [fillS, List.getD_cons_succ, List.getD_cons_zero, Act.put, List.setIfInBounds_toArray, List.set_cons_zero, List.set_cons_succ]
                       have f18 : (IsV (.tuple #[G.ptV z, G.ptV sm, .int .i64 0])) (vals 18) x := hf.1
                       clear hf
                       rw [show vals 18 = .tuple #[G.ptV z, G.ptV sm, .int .i64 0] from f18]
                       go_wp2
                       exact ⟨rfl, rfl, Below.refl _ _, _, rfl, rfl, (fun h => absurd h (by decide))⟩
                     · intro vals x hb hf
                       simp only [fillS, List.getD_cons_succ, List.getD_cons_zero, Act.put, List.setIfInBounds_toArray, List.set_cons_zero, List.set_cons_succ]
                       have f18 : (IsV (.tuple #[G.ptV z, G.ptV sm, .int .i64 0])) (vals 18) x := hf.1
                       clear hf
                       rw [show vals 18 = .tuple #[G.ptV z, G.ptV sm, .int .i64 0] from f18]
                       go_wp2
                       exact ⟨rfl, rfl, Below.refl _ _, _, rfl, rfl, (fun h => absurd h (by decide))⟩
                     · intro vals x hb hf
                       simp only [fillS, List.getD_cons_succ, List.getD_cons_zero, Act.put, List.setIfInBounds_toArray, List.set_cons_zero, List.set_cons_succ]
                       clear hf
                       go_wp2
                       exact ⟨rfl, rfl, (Below.refl _ _).alloc (Nat.le_refl _) _, _, rfl, ⟨_, rfl, hb.size, World.alloc_heap_new _ _⟩, fun _ => rfl⟩
                     · intro vals x hb hf
                       simp only [fillS, List.getD_cons_succ, List.getD_cons_zero, Act.put, List.setIfInBounds_toArray, List.set_cons_zero, List.set_cons_succ]
                       clear hf
                       go_wp2
                       exact ⟨rfl, rfl, (Below.refl _ _).alloc (Nat.le_refl _) _, _, rfl, ⟨_, rfl, hb.size, World.alloc_heap_new _ _⟩, fun _ => rfl⟩
                   · intro j hj o ho vals x hb hf
                     simp only [List.mem_cons, List.not_mem_nil, or_false] at hj
                     rcases hj with rfl | rfl
                     · obtain rfl := Option.some.inj ho
                       simp only [fillS, List.getD_cons_succ, List.getD_cons_zero, Act.put, List.setIfInBounds_toArray, List.set_cons_zero, List.set_cons_succ]
                       have f18 : (IsV (.tuple #[G.ptV z, G.ptV sm, .int .i64 0])) (vals 18) x := hf.1
                       rw [show vals 18 = .tuple #[G.ptV z, G.ptV sm, .int .i64 0] from f18]
                       exact ⟨G.ptV sm, .inl ⟨rfl, fun w => (by first | rfl | (go_simp; done) | (go_simp; exact IntWalk.i64_in _ (by omega)))⟩, rfl, (fun h => absurd h (by decide))⟩
                     · obtain rfl := Option.some.inj ho
                       simp only [fillS, List.getD_cons_succ, List.getD_cons_zero, Act.put, List.setIfInBounds_toArray, List.set_cons_zero, List.set_cons_succ]
                       have f18 : (IsV (.tuple #[G.ptV z, G.ptV sm, .int .i64 0])) (vals 18) x := hf.1
                       rw [show vals 18 = .tuple #[G.ptV z, G.ptV sm, .int .i64 0] from f18]
                       exact ⟨.int .i64 0, .inl ⟨rfl, fun w => (by first | rfl | (go_simp; done) | (go_simp; exact IntWalk.i64_in _ (by omega)))⟩, rfl, (fun h => absurd h (by decide))⟩
                   intro vals x hb hf hp
                   have hrange : List.range 24 = [0, 1, 2, 3, 4, 5, 6, 7, 8, 9, 10, 11, 12, 13, 14, 15, 16, 17, 18, 19, 20, 21, 22, 23] := by rfl
                   rw [hrange]
                   simp only [fillS, List.getD_cons_succ, List.getD_cons_zero, Act.put, List.setIfInBounds_toArray, List.set_cons_zero, List.set_cons_succ]
                   have h0 : vals 0 = G.cavV c := hf 0 (by omega)
                   have h1 : vals 1 = G.ptV y := hf 1 (by omega)
                   have h2 : vals 2 = .slice (some ⟨ob, oo, none⟩) xs.length lc := hf 2 (by omega)
                   have h3 : vals 3 = .int .i64 k := hf 3 (by omega)
                   have h4 : vals 4 = .int .i64 k := hf 4 (by omega)
                   have h5 : vals 5 = .int .i64 ((k : Int) + 1) := hf 5 (by omega)
                   have f6 : (IsV (G.oneV ob oo 10 k lc)) (vals 6) x := hf 6 (by omega)
                   have h7 : vals 7 = .slice (some ⟨ab, ao, none⟩) xa.length ac := hf 7 (by omega)
                   have h8 : vals 8 = .int .i64 k := hf 8 (by omega)
                   have h9 : vals 9 = .int .i64 k := hf 9 (by omega)
                   have h10 : vals 10 = .int .i64 ((k : Int) + 1) := hf 10 (by omega)
                   have f11 : (IsV (G.oneI ab ao k ac)) (vals 11) x := hf 11 (by omega)
                   have h12 : vals 12 = .slice (some ⟨bq, bo, none⟩) xb.length bc := hf 12 (by omega)
                   have h13 : vals 13 = .int .i64 k := hf 13 (by omega)
                   have h14 : vals 14 = .int .i64 k := hf 14 (by omega)
                   have h15 : vals 15 = .int .i64 ((k : Int) + 1) := hf 15 (by omega)
                   have f16 : (IsV (G.oneI bq bo k bc)) (vals 16) x := hf 16 (by omega)
                   have f17 : (IsV (.tuple #[G.ptV z, G.ptV sm, .int .i64 0])) (vals 17) x := hf 17 (by omega)
                   have f18 : (IsV (.tuple #[G.ptV z, G.ptV sm, .int .i64 0])) (vals 18) x := hf 18 (by omega)
                   have f19 : (IsV (G.ptV z)) (vals 19) x := hf 19 (by omega)
                   have h20 : vals 20 = G.ptV sm := hf 20 (by omega)
                   have h21 : vals 21 = .int .i64 0 := hf 21 (by omega)
                   obtain ⟨blk26, hv26, l26, A26⟩ : NewAt wr.heap.size #[.int .i64 0, .int .i64 0, .int .i64 0, .int .i64 0] 31 (vals 22) x := hf 22 (by omega)
                   obtain ⟨blk27, hv27, l27, A27⟩ : NewAt wr.heap.size #[.int .i64 0, .int .i64 0, .int .i64 0, .int .i64 0] 31 (vals 23) x := hf 23 (by omega)
                   have ne26_27 : (blk26 : Nat) ≠ blk27 := by
                     intro h
                     have h1 := hp 22 23 (by omega) (by omega) (by omega) rfl rfl
                     rw [hv26, hv27, h] at h1
                     exact h1 rfl
                   rw [h0, h1, h2, h3, h4, h5, h7, h8, h9, h10, h12, h13, h14, h15, h20, h21, hv26, hv27]
                   clear h0 h1 h2 h3 h4 h5 h7 h8 h9 h10 h12 h13 h14 h15 h20 h21 hv26 hv27 hf hp hrange
                   obtain ⟨p26_0, p26_1, p26_2, p26_3⟩ := rc4 A26
                   obtain ⟨g26_0, g26_1, g26_2, g26_3⟩ := rf4 A26
                   obtain ⟨p27_0, p27_1, p27_2, p27_3⟩ := rc4 A27
                   obtain ⟨g27_0, g27_1, g27_2, g27_3⟩ := rf4 A27
                   simp only [List.drop_succ_cons, List.drop_zero]
                   rw [show vals 19 = G.ptV z from f19]
                   have hUw : U.heap.size ≤ wr.heap.size := hSh.out.keep.size
                   have hB1 : Below wr.heap.size wr (setPt (setPt x blk26 z) blk27 sm) := setPt_below (setPt_below hb l26 z) l27 sm
                   have e26 : (setPt (setPt x blk26 z) blk27 sm).heap[blk26]? = some (ptO z) := setPt_far (setPt_at A26 z) ne26_27 sm
                   have hres : Hid (TbSt U pb bb lb fv hv wv rv qv y ((List.range k).map (Tb.mOf c xs xa xb p)) (Tb.book c s xs xa xb wd p k).flows (Tb.book c s xs xa xb wd p k).reads (Tb.lacks c s xs xa xb wd p size since k).reads (setPt (setPt x blk26 z) blk27 sm) ∧ (setPt (setPt x blk26 z) blk27 sm).heap[blk26]? = some (ptO z) ∧ U.heap.size ≤ blk26 ∧ Below w.heap.size w (setPt (setPt x blk26 z) blk27 sm)) := Lib.hid ⟨hSh.out.mono hB1, e26, Nat.le_trans hUw l26, below_tr hBw.out hB1⟩
                   have z26 := (Array.getElem?_eq_some_iff.1 A26).1
                   have z27 := (Array.getElem?_eq_some_iff.1 A27).1
                   clear hB1 e26 f6 f11 f16 f17 f18 f19 kP kH A26 A27
                   go_wp2_with fail
                   refine OnlyN.mk ?_
                   go_wp2_with fail
                   go_meet
                   exact ⟨blk26, rfl, rfl, hres⟩
                 --END
                case rest =>
                  obtain ⟨b26, rfl, rfl, hH⟩ := hcut
                  obtain ⟨hSx, h26, hU26, hBx⟩ := hH.out
                  clear hH hSh hEX hBw kP hlcb hacb hbcb hk1 hk2 hk3 hwr hka hkb dz
                  have hUx := hSx.keep.size
                  have hn' := hn.out
                  have hst := stc_same (hvU.out.2.2.2.2 k (by omega)) (hSx.keep.block vb hvU.out.1 ⟨hvU.out.1, hvU.out.2.1, hvU.out.2.2.1, hvU.out.2.2.2.1⟩)
                  rw [← hn'] at hst
                  have zv := Nat.lt_of_lt_of_le hvU.out.1 hUx
                  obtain ⟨n0, n1, n2, n3, n4, n5, n6, n7⟩ := hst
                  obtain ⟨y0, y1, y2, y3⟩ := rc4 h26
                  have z26 := (Array.getElem?_eq_some_iff.1 h26).1
                  have hgx := grow_cell wc
                  obtain ⟨X, hX⟩ : ∃ X, X = wc := ⟨_, rfl⟩
                  clear hn'
                  go_upto_region 19 with fail
                  go_cut [197] from 146 to 286 (fun c0 wx => c0 = .bool false ∧ Hid (Below X.heap.size X wx))
                  case first =>
                    skip
                    --CUT
                    as_aux_lemma =>
                      go_wp2_with fail
                      refine wp_region_grow (by kernel_rfl) (by kernel_rfl) ?_
                      repeat (go_big_quiet_step ((first | (with_reducible exact Calls.grow (kH.out _)))))
                      refine wpQuiet_nil ?_
                      rintro _ ⟨g, rfl⟩
                      go_wp2_with fail
                      go_meet
                      rw [hX]
                      exact ⟨rfl, Lib.hid g.h⟩
                    --END
                  case rest =>
                    obtain ⟨rfl, hH⟩ := hcut
                    subst hX
                    have hSy := hSx.mono hH.out
                    have h26y := kept_block hH.out h26
                    have hBy : Below w.heap.size w wc := below_tr hBx hH.out
                    clear hH hSx h26 hU26 hBx hUx n0 n1 n2 n3 n4 n5 n6 n7 y0 y1 y2 y3 z26 hgx kH zv
                    obtain ⟨y0, y1, y2, y3⟩ := rc4 h26y
                    have z26 := (Array.getElem?_eq_some_iff.1 h26y).1
                    obtain ⟨q0, q1, q2, q3⟩ := rc4 hSy.gp
                    obtain ⟨f0, f1, f2, f3⟩ := rf4 hSy.gp
                    have zp := (Array.getElem?_eq_some_iff.1 hSy.gp).1
                    have hSz := Lib.hid (hSy.setp hTB.out z)
                    have hBz := Lib.hid (setPt_below hBy xW2 z)
                    clear hSy hBy h26y
                    go_upto_region 22 with fail
                    obtain ⟨Z, hZ⟩ : ∃ Z, (((wc.setCell ⟨pb, 0, none⟩ (.int .i64 z.g)).setCell ⟨pb, 1, none⟩ (.int .i64 z.y)).setCell ⟨pb, 2, none⟩ (.int .i64 z.t)).setCell ⟨pb, 3, none⟩ (.int .i64 z.w) = Z := ⟨_, rfl⟩
                    replace hSz : Hid (TbSt U pb bb lb fv hv wv rv qv z ((List.range k).map (Tb.mOf c xs xa xb p)) (Tb.book c s xs xa xb wd p k).flows (Tb.book c s xs xa xb wd p k).reads (Tb.lacks c s xs xa xb wd p size since k).reads Z) := by rw [← hZ]; exact hSz
                    replace hBz : Hid (Below w.heap.size w Z) := by rw [← hZ]; exact hBz
                    rw [hZ]
                    clear hZ y0 y1 y2 y3 z26 q0 q1 q2 q3 f0 f1 f2 f3 zp
                    obtain ⟨q0, q1, q2, q3⟩ := rc4 hSz.out.gp
                    have zp := (Array.getElem?_eq_some_iff.1 hSz.out.gp).1
                    obtain ⟨d0, d1, d2, d3, d4, d5, d6, d7, d8, d9⟩ := hoc0.out.mono hBz.out
                    have zo := Nat.lt_of_lt_of_le hob0.out hBz.out.size
                    have hgz := grow_cell Z
                    obtain ⟨X, hX⟩ : ∃ X, X = Z := ⟨_, rfl⟩
                    go_cut [29, 30] from 146 to 286 (fun c29 c30 wx => c29 = .int .i64 (Tb.mOf c xs xa xb p k) ∧ c30 = .int .i64 (Tb.cOf xs k) ∧ Hid (Below X.heap.size X wx))
                    case first =>
                      skip
                      --CUT
                      as_aux_lemma =>
                        go_wp2_with fail
                        refine wp_region_grow (by kernel_rfl) (by kernel_rfl) ?_
                        repeat (go_big_quiet_step (fail))
                        refine wpQuiet_nil ?_
                        rintro _ ⟨g, rfl⟩
                        go_wp2_with fail
                        go_meet
                        rw [hX]
                        exact ⟨by rw [hmd.out], by rw [hcd.out]; rfl, Lib.hid g.h⟩
                      --END
                    case rest =>
                      obtain ⟨rfl, rfl, hH⟩ := hcut
                      subst hX
                      have hS2 := hSz.out.mono hH.out
                      have hB2 := below_tr hBz.out hH.out
                      clear hH hSz hBz q0 q1 q2 q3 zp d0 d1 d2 d3 d4 d5 d6 d7 d8 d9 zo hgz
                      have hMb : 0 ≤ Tb.mOf c xs xa xb p k ∧ Tb.mOf c xs xa xb p k ≤ 2000000 := by have := hmd.out; omega
                      have hCb : -2000000 ≤ Tb.cOf xs k ∧ Tb.cOf xs k ≤ 2000000 := by have := hcd.out; omega
                      have hF1 : Hid ((Tb.book c s xs xa xb wd p (k + 1)).flows = (Tb.book c s xs xa xb wd p k).flows ++ [[⟨Tb.cOf xs k, Tb.cOf xs k⟩]]) := Lib.hid flows_succ
                      have hR1 : Hid ((Tb.book c s xs xa xb wd p (k + 1)).reads = (Tb.book c s xs xa xb wd p k).reads ++ [⟨(k : Int), 0, ⟨Tb.mOf c xs xa xb p k - Lk.at0 wd k, Tb.mOf c xs xa xb p k + Lk.at0 wd k⟩⟩]) := Lib.hid reads_succ
                      have hQ1 : Hid ((Tb.lacks c s xs xa xb wd p size since (k + 1)).reads = (Tb.lacks c s xs xa xb wd p size since k).reads ++ [⟨(k : Int), 0, ⟨Tb.less (Tb.mOf c xs xa xb p) size since k - Lk.at0 wd k, Tb.less (Tb.mOf c xs xa xb p) size since k + Lk.at0 wd k⟩⟩]) := Lib.hid reads_succ
                      have hL1 : Hid ((List.range (k + 1)).map (Tb.mOf c xs xa xb p) = (List.range k).map (Tb.mOf c xs xa xb p) ++ [Tb.mOf c xs xa xb p k]) := Lib.hid (by simp [List.range_succ])
                      have hlF : (Tb.book c s xs xa xb wd p k).flows.length = k := flows_len
                      have hlR : (Tb.book c s xs xa xb wd p k).reads.length = k := reads_len
                      have hlQ : (Tb.lacks c s xs xa xb wd p size since k).reads.length = k := reads_len
                      have hlL : ((List.range k).map (Tb.mOf c xs xa xb p)).length = k := by simp
                      have hless : Hid (Tb.less (Tb.mOf c xs xa xb p) size since k = if since ≤ (k : Int) then Tb.mOf c xs xa xb p k - size * ((k : Int) - since + 1) else Tb.mOf c xs xa xb p k) := Lib.hid rfl
                      have hat : Lk.at0 wd k = u := hu.symm
                      rw [hat] at hR1 hQ1
                      have hub : 0 ≤ u ∧ u ≤ 1000 := by omega
                      have hk12 : k ≤ 12 := by have := t0.out; omega
                      generalize hMe : Tb.mOf c xs xa xb p k = M at *
                      generalize hCe : Tb.cOf xs k = CC at *
                      generalize hLe : Tb.less (Tb.mOf c xs xa xb p) size since k = LL at *
                      generalize hFe : (Tb.book c s xs xa xb wd p k).flows = FF at *
                      generalize hRe : (Tb.book c s xs xa xb wd p k).reads = RR at *
                      generalize hQe : (Tb.lacks c s xs xa xb wd p size since k).reads = QQ at *
                      generalize hHe : (List.range k).map (Tb.mOf c xs xa xb p) = HH at *
                      replace hMe := Lib.hid hMe
                      replace hCe := Lib.hid hCe
                      replace hLe := Lib.hid hLe
                      clear hFe hRe hQe hHe hat
                      replace hu := Lib.hid hu
                      have hO := Lib.hid (hS2.own.choose_spec.has.1)
                      have hUz := hS2.keep.size
                      have hHl : HH.length ≤ 1000000 := by omega
                      have hFl : FF.length ≤ 1000000 := by omega
                      have hRl2 : RR.length ≤ 1000000 := by omega
                      have hQl : QQ.length ≤ 1000000 := by omega
                      have hS2h := Lib.hid hS2
                      have hB2h := Lib.hid hB2
                      clear hS2 hB2 hmd hcd hng hny hzg hzy hcb
                      obtain ⟨X, hX⟩ : ∃ X, X = wc := ⟨_, rfl⟩
                      rw [← hX] at hO hUz hS2h hB2h ⊢
                      clear hX
                      go_upto_region 24 with (at_builtin; refine wpList_app_st (enc := intEnc) intEnc_len 32 3 _ 8 Tryz.underlying32 infoInt1 rfl (by omega) (by omega) int_one (by rfl) _ _ (by rfl) U.heap.size X hv HH M (by rfl) hO.out (by rfl) hHl hUz ?_; intro v1 w2 ho1 hg1 hat1)
                      have hS3 := Lib.hid (hS2h.out.apph hTB.out hg1 ho1 hat1)
                      have hB3 : Hid (Below w.heap.size w w2) := Lib.hid (hB2h.out.grown hg1 hB2h.out.size (fun j e => by have := (hO.out.lt j e).1; have := hwU.out.size; omega))
                      clear hS2h hB2h hO hg1 ho1 hat1
                      obtain ⟨X2, hX2⟩ : ∃ X2, (w2.alloc (.cells #[.int .i64 CC, .int .i64 CC] 23)).alloc (.cells #[.slice (some ⟨w2.heap.size, 0, none⟩) 1 1] 43) = X2 := ⟨_, rfl⟩
                      obtain ⟨ss, hss1, hss2, hss3, hss4⟩ := hS3.out.appf hTB.out hS3.out.keep.size CC hX2
                      have bX2 : Below w2.heap.size w2 X2 := (two_new hX2).2.2.2
                      obtain ⟨wv', w3, hrun, ho2, hg2, hat2⟩ := run_app1 slEnc_len 44 43 (.slice none 0 0) 24 Tryz.underlying44 infoSlS1 rfl (by omega) (by omega) slEnc_one 44 U.heap.size X2 wv ss ⟨some ⟨w2.heap.size, 0, none⟩, 1, 1⟩ (w2.heap.size + 1) hss1 (by omega) (Nat.le_trans hS3.out.keep.size bX2.size) hss3
                      obtain ⟨sn, hsn⟩ : ∃ sn, sn = (ss ++ [(⟨some ⟨w2.heap.size, 0, none⟩, 1, 1⟩ : Slc)]).length := ⟨_, rfl⟩
                      obtain ⟨wa', wc', hwe⟩ := ho2.slice
                      rw [← hsn] at hwe
                      subst hwe
                      have hS4 := Lib.hid (hss4 w3 _ ho2 hg2 hat2)
                      have hB4 : Hid (Below w.heap.size w (w3.setCell ⟨bb, 1, none⟩ (.slice wa' sn wc'))) := Lib.hid (((below_tr hB3.out bX2).grown hg2 (below_tr hB3.out bX2).size (fun j e => by have := (hss1.lt j e).1; have := hwU.out.size; omega)).setCell (p := ⟨bb, 1, none⟩) hbl.out.1 _)
                      obtain ⟨p0, p1, p2⟩ := rc3 (kept_block bX2 hS3.out.gb)
                      have hgb3 := grown_old hg2 (fun j e => (hss1.lt j e).1) (kept_block bX2 hS3.out.gb) hTB.out.b
                      obtain ⟨r0, r1, r2⟩ := rf3 hgb3
                      obtain ⟨q0, q1, q2⟩ := rc3 hgb3
                      obtain ⟨p3, p4, p5⟩ := rc3 hS3.out.gb
                      have zb := (Array.getElem?_eq_some_iff.1 hS3.out.gb).1
                      have zb3 := (Array.getElem?_eq_some_iff.1 hgb3).1
                      clear hss1 hss2 hss3 hss4 ho2 hg2 hat2 hsn hgb3 bX2 hS3 hB3
                      replace hX2 := Lib.hid hX2
                      go_upto_region 25 with (at_builtin; (try rw [hX2.out]); refine wpList_app_run rfl _ _ _ rfl _ _ _ _ rfl rfl hrun ?_)
                      clear p0 p1 p2 p3 p4 p5 q0 q1 q2 r0 r1 r2 zb zb3 hrun
                      obtain ⟨X4, hX4⟩ : ∃ X4, X4 = w3.setCell ⟨bb, 1, none⟩ (.slice wa' sn wc') := ⟨_, rfl⟩
                      rw [← hX4] at hS4 hB4 ⊢
                      clear hX4
                      obtain ⟨q0, q1, q2⟩ := rc3 hS4.out.gb
                      have zb := (Array.getElem?_eq_some_iff.1 hS4.out.gb).1
                      have dx := kept_cell hB4.out hdx
                      rw [← hu.out] at dx
                      have dz := Nat.lt_of_lt_of_le hdb hB4.out.size
                      go_cut [] from 146 to 286 (fun wx => ∃ nv : Value, Hid (TbSt U pb bb lb fv v1 (.slice wa' sn wc') nv qv z (HH ++ [M]) (FF ++ [[⟨CC, CC⟩]]) (RR ++ [⟨(k : Int), 0, ⟨M - u, M + u⟩⟩]) QQ wx ∧ Below w.heap.size w wx))
                      case first =>
                        skip
                        --CUT
                        as_aux_lemma =>
                          go_wp2_with fail
                          refine plain_region (by kernel_rfl) (any_region_locN 18 416 [] [236, 237, 238, 239, 240, 241, 242, 243, 244, 245, 246, 247, 248, 249, 250, 251, 252, 253] [[], [0], [], [], [], [], [4, 5], [6], [3, 7], [], [], [], [10, 11], [12], [9, 13], [8, 14], [2, 15], [16]] [IsV (.pointer (some ⟨bb, 2, none⟩)), IsV (rv), IsV (.int .i64 k), IsV (.int .i64 M), IsV (.slice (some ⟨db, dof, none⟩) wd.length dc), IsV (.int .i64 k), IsV (.pointer (some ⟨db, dof + k, none⟩)), IsV (.int .i64 u), IsV (.int .i64 (M - u)), IsV (.int .i64 M), IsV (.slice (some ⟨db, dof, none⟩) wd.length dc), IsV (.int .i64 k), IsV (.pointer (some ⟨db, dof + k, none⟩)), IsV (.int .i64 u), IsV (.int .i64 (M + u)), IsV (.agg #[.int .i64 (M - u), .int .i64 (M + u)]), IsV (.agg #[.int .i64 k, .int .i64 0, .int .i64 (M - u), .int .i64 (M + u)]), SlIs X4.heap.size [.int .i64 k, .int .i64 0, .int .i64 (M - u), .int .i64 (M + u)] 54] [] (by kernel_rfl) (by kernel_rfl) (by kernel_rfl) (by kernel_rfl) (by kernel_rfl) rfl OnlyN.panic ?_ ?_ ?_ (fun j hj => nomatch hj) ?_)
                          · exact List.forall_mem_cons.2 ⟨pers_v _, List.forall_mem_cons.2 ⟨pers_v _, List.forall_mem_cons.2 ⟨pers_v _, List.forall_mem_cons.2 ⟨pers_v _, List.forall_mem_cons.2 ⟨pers_v _, List.forall_mem_cons.2 ⟨pers_v _, List.forall_mem_cons.2 ⟨pers_v _, List.forall_mem_cons.2 ⟨pers_v _, List.forall_mem_cons.2 ⟨pers_v _, List.forall_mem_cons.2 ⟨pers_v _, List.forall_mem_cons.2 ⟨pers_v _, List.forall_mem_cons.2 ⟨pers_v _, List.forall_mem_cons.2 ⟨pers_v _, List.forall_mem_cons.2 ⟨pers_v _, List.forall_mem_cons.2 ⟨pers_v _, List.forall_mem_cons.2 ⟨pers_v _, List.forall_mem_cons.2 ⟨pers_v _, List.forall_mem_cons.2 ⟨pers_sl _ _ _, fun f h => nomatch h⟩⟩⟩⟩⟩⟩⟩⟩⟩⟩⟩⟩⟩⟩⟩⟩⟩⟩
                          · intro k hk; cases hk
                          · refine ⟨?_, ?_, ?_, ?_, ?_, ?_, ?_, ?_, ?_, ?_, ?_, ?_, ?_, ?_, ?_, ?_, ?_, ?_, trivial⟩
                            · intro vals x hb hf
                              simp only [fillS, List.getD_cons_succ, List.getD_cons_zero, Act.put, List.setIfInBounds_toArray, List.set_cons_zero, List.set_cons_succ]
                              clear hf
                              have w0 := kept_cell hb q2
                              have w1 := kept_cell hb dx
                              have wz := Nat.lt_of_lt_of_le zb hb.size
                              have wo := Nat.lt_of_lt_of_le dz hb.size
                              go_wp2
                              exact ⟨rfl, rfl, Below.refl _ _, _, rfl, rfl, (fun h => absurd h (by decide))⟩
                            · intro vals x hb hf
                              simp only [fillS, List.getD_cons_succ, List.getD_cons_zero, Act.put, List.setIfInBounds_toArray, List.set_cons_zero, List.set_cons_succ]
                              have h0 : vals 0 = .pointer (some ⟨bb, 2, none⟩) := hf.1
                              rw [h0]
                              clear h0
                              clear hf
                              have w0 := kept_cell hb q2
                              have w1 := kept_cell hb dx
                              have wz := Nat.lt_of_lt_of_le zb hb.size
                              have wo := Nat.lt_of_lt_of_le dz hb.size
                              go_wp2
                              exact ⟨rfl, rfl, Below.refl _ _, _, rfl, rfl, (fun h => absurd h (by decide))⟩
                            · intro vals x hb hf
                              simp only [fillS, List.getD_cons_succ, List.getD_cons_zero, Act.put, List.setIfInBounds_toArray, List.set_cons_zero, List.set_cons_succ]
                              clear hf
                              have w0 := kept_cell hb q2
                              have w1 := kept_cell hb dx
                              have wz := Nat.lt_of_lt_of_le zb hb.size
                              have wo := Nat.lt_of_lt_of_le dz hb.size
                              go_wp2
                              exact ⟨rfl, rfl, Below.refl _ _, _, rfl, rfl, (fun h => absurd h (by decide))⟩
                            · intro vals x hb hf
                              simp only [fillS, List.getD_cons_succ, List.getD_cons_zero, Act.put, List.setIfInBounds_toArray, List.set_cons_zero, List.set_cons_succ]
                              clear hf
                              have w0 := kept_cell hb q2
                              have w1 := kept_cell hb dx
                              have wz := Nat.lt_of_lt_of_le zb hb.size
                              have wo := Nat.lt_of_lt_of_le dz hb.size
                              go_wp2
                              exact ⟨rfl, rfl, Below.refl _ _, _, rfl, rfl, (fun h => absurd h (by decide))⟩
                            · intro vals x hb hf
                              simp only [fillS, List.getD_cons_succ, List.getD_cons_zero, Act.put, List.setIfInBounds_toArray, List.set_cons_zero, List.set_cons_succ]
                              clear hf
                              have w0 := kept_cell hb q2
                              have w1 := kept_cell hb dx
                              have wz := Nat.lt_of_lt_of_le zb hb.size
                              have wo := Nat.lt_of_lt_of_le dz hb.size
                              go_wp2
                              exact ⟨rfl, rfl, Below.refl _ _, _, rfl, rfl, (fun h => absurd h (by decide))⟩
                            · intro vals x hb hf
                              simp only [fillS, List.getD_cons_succ, List.getD_cons_zero, Act.put, List.setIfInBounds_toArray, List.set_cons_zero, List.set_cons_succ]
                              clear hf
                              have w0 := kept_cell hb q2
                              have w1 := kept_cell hb dx
                              have wz := Nat.lt_of_lt_of_le zb hb.size
                              have wo := Nat.lt_of_lt_of_le dz hb.size
                              go_wp2
                              exact ⟨rfl, rfl, Below.refl _ _, _, rfl, rfl, (fun h => absurd h (by decide))⟩
                            · intro vals x hb hf
                              simp only [fillS, List.getD_cons_succ, List.getD_cons_zero, Act.put, List.setIfInBounds_toArray, List.set_cons_zero, List.set_cons_succ]
                              have h4 : vals 4 = .slice (some ⟨db, dof, none⟩) wd.length dc := hf.1
                              rw [h4]
                              clear h4
                              have h5 : vals 5 = .int .i64 k := hf.2.1
                              rw [h5]
                              clear h5
                              clear hf
                              have w0 := kept_cell hb q2
                              have w1 := kept_cell hb dx
                              have wz := Nat.lt_of_lt_of_le zb hb.size
                              have wo := Nat.lt_of_lt_of_le dz hb.size
                              go_wp2
                              exact ⟨rfl, rfl, Below.refl _ _, _, rfl, rfl, (fun h => absurd h (by decide))⟩
                            · intro vals x hb hf
                              simp only [fillS, List.getD_cons_succ, List.getD_cons_zero, Act.put, List.setIfInBounds_toArray, List.set_cons_zero, List.set_cons_succ]
                              have h6 : vals 6 = .pointer (some ⟨db, dof + k, none⟩) := hf.1
                              rw [h6]
                              clear h6
                              clear hf
                              have w0 := kept_cell hb q2
                              have w1 := kept_cell hb dx
                              have wz := Nat.lt_of_lt_of_le zb hb.size
                              have wo := Nat.lt_of_lt_of_le dz hb.size
                              go_wp2
                              exact ⟨rfl, rfl, Below.refl _ _, _, rfl, rfl, (fun h => absurd h (by decide))⟩
                            · intro vals x hb hf
                              simp only [fillS, List.getD_cons_succ, List.getD_cons_zero, Act.put, List.setIfInBounds_toArray, List.set_cons_zero, List.set_cons_succ]
                              have h3 : vals 3 = .int .i64 M := hf.1
                              rw [h3]
                              clear h3
                              have h7 : vals 7 = .int .i64 u := hf.2.1
                              rw [h7]
                              clear h7
                              clear hf
                              have w0 := kept_cell hb q2
                              have w1 := kept_cell hb dx
                              have wz := Nat.lt_of_lt_of_le zb hb.size
                              have wo := Nat.lt_of_lt_of_le dz hb.size
                              go_wp2
                              exact ⟨rfl, rfl, Below.refl _ _, _, rfl, rfl, (fun h => absurd h (by decide))⟩
                            · intro vals x hb hf
                              simp only [fillS, List.getD_cons_succ, List.getD_cons_zero, Act.put, List.setIfInBounds_toArray, List.set_cons_zero, List.set_cons_succ]
                              clear hf
                              have w0 := kept_cell hb q2
                              have w1 := kept_cell hb dx
                              have wz := Nat.lt_of_lt_of_le zb hb.size
                              have wo := Nat.lt_of_lt_of_le dz hb.size
                              go_wp2
                              exact ⟨rfl, rfl, Below.refl _ _, _, rfl, rfl, (fun h => absurd h (by decide))⟩
                            · intro vals x hb hf
                              simp only [fillS, List.getD_cons_succ, List.getD_cons_zero, Act.put, List.setIfInBounds_toArray, List.set_cons_zero, List.set_cons_succ]
                              clear hf
                              have w0 := kept_cell hb q2
                              have w1 := kept_cell hb dx
                              have wz := Nat.lt_of_lt_of_le zb hb.size
                              have wo := Nat.lt_of_lt_of_le dz hb.size
                              go_wp2
                              exact ⟨rfl, rfl, Below.refl _ _, _, rfl, rfl, (fun h => absurd h (by decide))⟩
                            · intro vals x hb hf
                              simp only [fillS, List.getD_cons_succ, List.getD_cons_zero, Act.put, List.setIfInBounds_toArray, List.set_cons_zero, List.set_cons_succ]
                              clear hf
                              have w0 := kept_cell hb q2
                              have w1 := kept_cell hb dx
                              have wz := Nat.lt_of_lt_of_le zb hb.size
                              have wo := Nat.lt_of_lt_of_le dz hb.size
                              go_wp2
                              exact ⟨rfl, rfl, Below.refl _ _, _, rfl, rfl, (fun h => absurd h (by decide))⟩
                            · intro vals x hb hf
                              simp only [fillS, List.getD_cons_succ, List.getD_cons_zero, Act.put, List.setIfInBounds_toArray, List.set_cons_zero, List.set_cons_succ]
                              have h10 : vals 10 = .slice (some ⟨db, dof, none⟩) wd.length dc := hf.1
                              rw [h10]
                              clear h10
                              have h11 : vals 11 = .int .i64 k := hf.2.1
                              rw [h11]
                              clear h11
                              clear hf
                              have w0 := kept_cell hb q2
                              have w1 := kept_cell hb dx
                              have wz := Nat.lt_of_lt_of_le zb hb.size
                              have wo := Nat.lt_of_lt_of_le dz hb.size
                              go_wp2
                              exact ⟨rfl, rfl, Below.refl _ _, _, rfl, rfl, (fun h => absurd h (by decide))⟩
                            · intro vals x hb hf
                              simp only [fillS, List.getD_cons_succ, List.getD_cons_zero, Act.put, List.setIfInBounds_toArray, List.set_cons_zero, List.set_cons_succ]
                              have h12 : vals 12 = .pointer (some ⟨db, dof + k, none⟩) := hf.1
                              rw [h12]
                              clear h12
                              clear hf
                              have w0 := kept_cell hb q2
                              have w1 := kept_cell hb dx
                              have wz := Nat.lt_of_lt_of_le zb hb.size
                              have wo := Nat.lt_of_lt_of_le dz hb.size
                              go_wp2
                              exact ⟨rfl, rfl, Below.refl _ _, _, rfl, rfl, (fun h => absurd h (by decide))⟩
                            · intro vals x hb hf
                              simp only [fillS, List.getD_cons_succ, List.getD_cons_zero, Act.put, List.setIfInBounds_toArray, List.set_cons_zero, List.set_cons_succ]
                              have h9 : vals 9 = .int .i64 M := hf.1
                              rw [h9]
                              clear h9
                              have h13 : vals 13 = .int .i64 u := hf.2.1
                              rw [h13]
                              clear h13
                              clear hf
                              have w0 := kept_cell hb q2
                              have w1 := kept_cell hb dx
                              have wz := Nat.lt_of_lt_of_le zb hb.size
                              have wo := Nat.lt_of_lt_of_le dz hb.size
                              go_wp2
                              exact ⟨rfl, rfl, Below.refl _ _, _, rfl, rfl, (fun h => absurd h (by decide))⟩
                            · intro vals x hb hf
                              simp only [fillS, List.getD_cons_succ, List.getD_cons_zero, Act.put, List.setIfInBounds_toArray, List.set_cons_zero, List.set_cons_succ]
                              have h8 : vals 8 = .int .i64 (M - u) := hf.1
                              rw [h8]
                              clear h8
                              have h14 : vals 14 = .int .i64 (M + u) := hf.2.1
                              rw [h14]
                              clear h14
                              clear hf
                              have w0 := kept_cell hb q2
                              have w1 := kept_cell hb dx
                              have wz := Nat.lt_of_lt_of_le zb hb.size
                              have wo := Nat.lt_of_lt_of_le dz hb.size
                              go_wp2
                              exact ⟨rfl, rfl, Below.refl _ _, _, rfl, rfl, (fun h => absurd h (by decide))⟩
                            · intro vals x hb hf
                              simp only [fillS, List.getD_cons_succ, List.getD_cons_zero, Act.put, List.setIfInBounds_toArray, List.set_cons_zero, List.set_cons_succ]
                              have h2 : vals 2 = .int .i64 k := hf.1
                              rw [h2]
                              clear h2
                              have h15 : vals 15 = .agg #[.int .i64 (M - u), .int .i64 (M + u)] := hf.2.1
                              rw [h15]
                              clear h15
                              clear hf
                              have w0 := kept_cell hb q2
                              have w1 := kept_cell hb dx
                              have wz := Nat.lt_of_lt_of_le zb hb.size
                              have wo := Nat.lt_of_lt_of_le dz hb.size
                              go_wp2
                              exact ⟨rfl, rfl, Below.refl _ _, _, rfl, rfl, (fun h => absurd h (by decide))⟩
                            · intro vals x hb hf
                              simp only [fillS, List.getD_cons_succ, List.getD_cons_zero, Act.put, List.setIfInBounds_toArray, List.set_cons_zero, List.set_cons_succ]
                              have h16 : vals 16 = .agg #[.int .i64 k, .int .i64 0, .int .i64 (M - u), .int .i64 (M + u)] := hf.1
                              rw [h16]
                              clear h16
                              clear hf
                              have w0 := kept_cell hb q2
                              have w1 := kept_cell hb dx
                              have wz := Nat.lt_of_lt_of_le zb hb.size
                              have wo := Nat.lt_of_lt_of_le dz hb.size
                              go_wp2
                              exact ⟨rfl, rfl, (Below.refl _ _).alloc (Nat.le_refl _) _, _, rfl, ⟨_, rfl, hb.size, World.alloc_heap_new _ _⟩, (fun h => absurd h (by decide))⟩
                          intro vals x hb hf hp
                          have hrange : List.range 18 = [0, 1, 2, 3, 4, 5, 6, 7, 8, 9, 10, 11, 12, 13, 14, 15, 16, 17] := by rfl
                          rw [hrange]
                          simp only [fillS, List.getD_cons_succ, List.getD_cons_zero, Act.put, List.setIfInBounds_toArray, List.set_cons_zero, List.set_cons_succ]
                          have h0 : vals 0 = .pointer (some ⟨bb, 2, none⟩) := hf 0 (by omega)
                          have h1 : vals 1 = rv := hf 1 (by omega)
                          have h2 : vals 2 = .int .i64 k := hf 2 (by omega)
                          have h3 : vals 3 = .int .i64 M := hf 3 (by omega)
                          have h4 : vals 4 = .slice (some ⟨db, dof, none⟩) wd.length dc := hf 4 (by omega)
                          have h5 : vals 5 = .int .i64 k := hf 5 (by omega)
                          have h6 : vals 6 = .pointer (some ⟨db, dof + k, none⟩) := hf 6 (by omega)
                          have h7 : vals 7 = .int .i64 u := hf 7 (by omega)
                          have h8 : vals 8 = .int .i64 (M - u) := hf 8 (by omega)
                          have h9 : vals 9 = .int .i64 M := hf 9 (by omega)
                          have h10 : vals 10 = .slice (some ⟨db, dof, none⟩) wd.length dc := hf 10 (by omega)
                          have h11 : vals 11 = .int .i64 k := hf 11 (by omega)
                          have h12 : vals 12 = .pointer (some ⟨db, dof + k, none⟩) := hf 12 (by omega)
                          have h13 : vals 13 = .int .i64 u := hf 13 (by omega)
                          have h14 : vals 14 = .int .i64 (M + u) := hf 14 (by omega)
                          have h15 : vals 15 = .agg #[.int .i64 (M - u), .int .i64 (M + u)] := hf 15 (by omega)
                          have h16 : vals 16 = .agg #[.int .i64 k, .int .i64 0, .int .i64 (M - u), .int .i64 (M + u)] := hf 16 (by omega)
                          have f17 : (SlIs X4.heap.size [.int .i64 k, .int .i64 0, .int .i64 (M - u), .int .i64 (M + u)] 54) (vals 17) x := hf 17 (by omega)
                          rw [h0, h1, h2, h3, h4, h5, h6, h7, h8, h9, h10, h11, h12, h13, h14, h15, h16]
                          clear h0 h1 h2 h3 h4 h5 h6 h7 h8 h9 h10 h11 h12 h13 h14 h15 h16 hf hp hrange
                          simp only [List.drop_succ_cons, List.drop_zero]
                          obtain ⟨b1, hv17, hq1, hk1⟩ := f17
                          rw [show vals 17 = _ from hv17]
                          have hSx := hS4.out.mono hb
                          obtain ⟨col, hOw⟩ := hSx.own
                          have hown := hOw.reads.1
                          have hUx := hSx.keep.size
                          have hBx := below_tr hB4.out hb
                          obtain ⟨nv, w5, hrun, ho, hg, hat⟩ := run_app1 rdEnc_len 45 54 (.agg #[.int .i64 0, .int .i64 0, .int .i64 0, .int .i64 0]) 32 Tryz.underlying45 infoRd rfl (by omega) (by omega) rdEnc_one1 45 U.heap.size x rv RR ⟨(k : Int), 0, ⟨M - u, M + u⟩⟩ b1 hown (by omega) hUx hk1
                          have hgo := grown_old hg (fun j e => (hown.lt j e).1) hSx.gb hTB.out.b
                          obtain ⟨r0, r1, r2⟩ := rf3 hgo
                          obtain ⟨p0, p1, p2⟩ := rc3 hgo
                          have zg := (Array.getElem?_eq_some_iff.1 hgo).1
                          have hS5 := hSx.appr hTB.out hg ho (hat.imp id fun e => ⟨_, e, Nat.le_refl _⟩)
                          have hB5 := (hBx.grown hg hBx.size (fun j e => by have := (hown.lt j e).1; have := hwU.out.size; omega)).setCell (p := ⟨bb, 2, none⟩) hbl.out.1 nv
                          have hfin := Lib.hid (And.intro hS5 hB5)
                          obtain ⟨na, nc, hne⟩ := ho.slice
                          obtain ⟨nl, hnl⟩ : ∃ nl, nl = (RR ++ [(⟨(k : Int), 0, ⟨M - u, M + u⟩⟩ : Rd)]).length := ⟨_, rfl⟩
                          rw [← hnl] at hne
                          subst hne
                          clear hv17 hSx hOw hown hBx hgo ho hg hat hnl hS5 hB5 q0 q1 q2 zb dx dz hk1 hq1
                          go_wp2_with (at_builtin; refine wpList_app_run rfl _ _ _ rfl _ _ _ _ rfl rfl hrun ?_)
                          refine OnlyN.mk ?_
                          go_wp2_with fail
                          go_meet
                          exact ⟨_, hfin⟩
                        --END
                      case rest =>
                        obtain ⟨rw, hH⟩ := hcut
                        have hS6 := Lib.hid hH.out.1
                        have hB6 := Lib.hid hH.out.2
                        clear hH hS4 hB4 q0 q1 q2 zb dx dz
                        have hpr : 0 ≤ size * ((k : Int) - since + 1) ∨ (k : Int) < since := by
                          rcases Int.lt_or_le (k : Int) since with h | h
                          · exact .inr h
                          · exact .inl (Int.mul_nonneg (by have := t10.out; omega) (by omega))
                        have hpr2 : since ≤ (k : Int) → size * ((k : Int) - since + 1) ≤ 1000 * 13 := fun h => Int.mul_le_mul t11.out (by have := t12.out; omega) (by omega) (by omega)
                        have hsz := t11.out
                        have hsz0 := t10.out
                        have hsi0 := t12.out
                        go_upto_if 258 with fail
                        go_cut [29] from 146 to 286 (fun c29 wx => c29 = .int .i64 LL ∧ wx = wc)
                        case first =>
                          skip
                          --CUT
                          as_aux_lemma =>
                            by_cases hsi : since ≤ (k : Int)
                            · have d1 : decide (since ≤ (k : Int)) = true := decide_eq_true hsi
                              have h2 := hless.out
                              rw [if_pos hsi] at h2
                              have h3 := hpr2 hsi
                              replace hpr : 0 ≤ size * ((k : Int) - since + 1) := by omega
                              replace h2 := Lib.hid h2
                              clear hpr2
                              go_wp2_with fail
                              go_meet
                              exact ⟨by rw [h2.out], rfl⟩
                            · have d1 : decide (since ≤ (k : Int)) = false := decide_eq_false hsi
                              have h2 := hless.out
                              rw [if_neg hsi] at h2
                              replace h2 := Lib.hid h2
                              clear hpr2 hpr
                              go_wp2_with fail
                              go_meet
                              exact ⟨by rw [h2.out], rfl⟩
                          --END
                        case rest =>
                          obtain ⟨rfl, hwe⟩ := hcut
                          subst hwe
                          have hLLb : -20000 ≤ LL ∧ LL ≤ 2000000 := by
                            have h2 := hless.out
                            rw [h2]
                            split
                            · rename_i h
                              have := hpr2 h
                              omega
                            · omega
                          clear hpr hpr2 hsz hsz0 hsi0
                          go_upto_region 28 with fail
                          obtain ⟨X4, hX4⟩ : ∃ X4, X4 = wc := ⟨_, rfl⟩
                          rw [← hX4] at hS6 hB6 ⊢
                          clear hX4
                          obtain ⟨q0, q1, q2⟩ := rc3 hS6.out.gl
                          have zb := (Array.getElem?_eq_some_iff.1 hS6.out.gl).1
                          have dx := kept_cell hB6.out hdx
                          rw [← hu.out] at dx
                          have dz := Nat.lt_of_lt_of_le hdb hB6.out.size
                          skip
                          go_wp2_with fail
                          refine plain_region (by kernel_rfl) (any_region_locN 18 416 [] [267, 268, 269, 270, 271, 272, 273, 274, 275, 276, 277, 278, 279, 280, 281, 282, 283, 284] [[], [0], [], [], [], [], [4, 5], [6], [3, 7], [], [], [], [10, 11], [12], [9, 13], [8, 14], [2, 15], [16]] [IsV (.pointer (some ⟨lb, 2, none⟩)), IsV (qv), IsV (.int .i64 k), IsV (.int .i64 LL), IsV (.slice (some ⟨db, dof, none⟩) wd.length dc), IsV (.int .i64 k), IsV (.pointer (some ⟨db, dof + k, none⟩)), IsV (.int .i64 u), IsV (.int .i64 (LL - u)), IsV (.int .i64 LL), IsV (.slice (some ⟨db, dof, none⟩) wd.length dc), IsV (.int .i64 k), IsV (.pointer (some ⟨db, dof + k, none⟩)), IsV (.int .i64 u), IsV (.int .i64 (LL + u)), IsV (.agg #[.int .i64 (LL - u), .int .i64 (LL + u)]), IsV (.agg #[.int .i64 k, .int .i64 0, .int .i64 (LL - u), .int .i64 (LL + u)]), SlIs X4.heap.size [.int .i64 k, .int .i64 0, .int .i64 (LL - u), .int .i64 (LL + u)] 54] [] (by kernel_rfl) (by kernel_rfl) (by kernel_rfl) (by kernel_rfl) (by kernel_rfl) rfl OnlyN.panic ?_ ?_ ?_ (fun j hj => nomatch hj) ?_)
                          · exact List.forall_mem_cons.2 ⟨pers_v _, List.forall_mem_cons.2 ⟨pers_v _, List.forall_mem_cons.2 ⟨pers_v _, List.forall_mem_cons.2 ⟨pers_v _, List.forall_mem_cons.2 ⟨pers_v _, List.forall_mem_cons.2 ⟨pers_v _, List.forall_mem_cons.2 ⟨pers_v _, List.forall_mem_cons.2 ⟨pers_v _, List.forall_mem_cons.2 ⟨pers_v _, List.forall_mem_cons.2 ⟨pers_v _, List.forall_mem_cons.2 ⟨pers_v _, List.forall_mem_cons.2 ⟨pers_v _, List.forall_mem_cons.2 ⟨pers_v _, List.forall_mem_cons.2 ⟨pers_v _, List.forall_mem_cons.2 ⟨pers_v _, List.forall_mem_cons.2 ⟨pers_v _, List.forall_mem_cons.2 ⟨pers_v _, List.forall_mem_cons.2 ⟨pers_sl _ _ _, fun f h => nomatch h⟩⟩⟩⟩⟩⟩⟩⟩⟩⟩⟩⟩⟩⟩⟩⟩⟩⟩
                          · intro k hk; cases hk
                          · refine ⟨?_, ?_, ?_, ?_, ?_, ?_, ?_, ?_, ?_, ?_, ?_, ?_, ?_, ?_, ?_, ?_, ?_, ?_, trivial⟩
                            · intro vals x hb hf
                              simp only [fillS, List.getD_cons_succ, List.getD_cons_zero, Act.put, List.setIfInBounds_toArray, List.set_cons_zero, List.set_cons_succ]
                              clear hf
                              have w0 := kept_cell hb q2
                              have w1 := kept_cell hb dx
                              have wz := Nat.lt_of_lt_of_le zb hb.size
                              have wo := Nat.lt_of_lt_of_le dz hb.size
                              go_wp2
                              exact ⟨rfl, rfl, Below.refl _ _, _, rfl, rfl, (fun h => absurd h (by decide))⟩
                            · intro vals x hb hf
                              simp only [fillS, List.getD_cons_succ, List.getD_cons_zero, Act.put, List.setIfInBounds_toArray, List.set_cons_zero, List.set_cons_succ]
                              have h0 : vals 0 = .pointer (some ⟨lb, 2, none⟩) := hf.1
                              rw [h0]
                              clear h0
                              clear hf
                              have w0 := kept_cell hb q2
                              have w1 := kept_cell hb dx
                              have wz := Nat.lt_of_lt_of_le zb hb.size
                              have wo := Nat.lt_of_lt_of_le dz hb.size
                              go_wp2
                              exact ⟨rfl, rfl, Below.refl _ _, _, rfl, rfl, (fun h => absurd h (by decide))⟩
                            · intro vals x hb hf
                              simp only [fillS, List.getD_cons_succ, List.getD_cons_zero, Act.put, List.setIfInBounds_toArray, List.set_cons_zero, List.set_cons_succ]
                              clear hf
                              have w0 := kept_cell hb q2
                              have w1 := kept_cell hb dx
                              have wz := Nat.lt_of_lt_of_le zb hb.size
                              have wo := Nat.lt_of_lt_of_le dz hb.size
                              go_wp2
                              exact ⟨rfl, rfl, Below.refl _ _, _, rfl, rfl, (fun h => absurd h (by decide))⟩
                            · intro vals x hb hf
                              simp only [fillS, List.getD_cons_succ, List.getD_cons_zero, Act.put, List.setIfInBounds_toArray, List.set_cons_zero, List.set_cons_succ]
                              clear hf
                              have w0 := kept_cell hb q2
                              have w1 := kept_cell hb dx
                              have wz := Nat.lt_of_lt_of_le zb hb.size
                              have wo := Nat.lt_of_lt_of_le dz hb.size
                              go_wp2
                              exact ⟨rfl, rfl, Below.refl _ _, _, rfl, rfl, (fun h => absurd h (by decide))⟩
                            · intro vals x hb hf
                              simp only [fillS, List.getD_cons_succ, List.getD_cons_zero, Act.put, List.setIfInBounds_toArray, List.set_cons_zero, List.set_cons_succ]
                              clear hf
                              have w0 := kept_cell hb q2
                              have w1 := kept_cell hb dx
                              have wz := Nat.lt_of_lt_of_le zb hb.size
                              have wo := Nat.lt_of_lt_of_le dz hb.size
                              go_wp2
                              exact ⟨rfl, rfl, Below.refl _ _, _, rfl, rfl, (fun h => absurd h (by decide))⟩
                            · intro vals x hb hf
                              simp only [fillS, List.getD_cons_succ, List.getD_cons_zero, Act.put, List.setIfInBounds_toArray, List.set_cons_zero, List.set_cons_succ]
                              clear hf
                              have w0 := kept_cell hb q2
                              have w1 := kept_cell hb dx
                              have wz := Nat.lt_of_lt_of_le zb hb.size
                              have wo := Nat.lt_of_lt_of_le dz hb.size
                              go_wp2
                              exact ⟨rfl, rfl, Below.refl _ _, _, rfl, rfl, (fun h => absurd h (by decide))⟩
                            · intro vals x hb hf
                              simp only [fillS, List.getD_cons_succ, List.getD_cons_zero, Act.put, List.setIfInBounds_toArray, List.set_cons_zero, List.set_cons_succ]
                              have h4 : vals 4 = .slice (some ⟨db, dof, none⟩) wd.length dc := hf.1
                              rw [h4]
                              clear h4
                              have h5 : vals 5 = .int .i64 k := hf.2.1
                              rw [h5]
                              clear h5
                              clear hf
                              have w0 := kept_cell hb q2
                              have w1 := kept_cell hb dx
                              have wz := Nat.lt_of_lt_of_le zb hb.size
                              have wo := Nat.lt_of_lt_of_le dz hb.size
                              go_wp2
                              exact ⟨rfl, rfl, Below.refl _ _, _, rfl, rfl, (fun h => absurd h (by decide))⟩
                            · intro vals x hb hf
                              simp only [fillS, List.getD_cons_succ, List.getD_cons_zero, Act.put, List.setIfInBounds_toArray, List.set_cons_zero, List.set_cons_succ]
                              have h6 : vals 6 = .pointer (some ⟨db, dof + k, none⟩) := hf.1
                              rw [h6]
                              clear h6
                              clear hf
                              have w0 := kept_cell hb q2
                              have w1 := kept_cell hb dx
                              have wz := Nat.lt_of_lt_of_le zb hb.size
                              have wo := Nat.lt_of_lt_of_le dz hb.size
                              go_wp2
                              exact ⟨rfl, rfl, Below.refl _ _, _, rfl, rfl, (fun h => absurd h (by decide))⟩
                            · intro vals x hb hf
                              simp only [fillS, List.getD_cons_succ, List.getD_cons_zero, Act.put, List.setIfInBounds_toArray, List.set_cons_zero, List.set_cons_succ]
                              have h3 : vals 3 = .int .i64 LL := hf.1
                              rw [h3]
                              clear h3
                              have h7 : vals 7 = .int .i64 u := hf.2.1
                              rw [h7]
                              clear h7
                              clear hf
                              have w0 := kept_cell hb q2
                              have w1 := kept_cell hb dx
                              have wz := Nat.lt_of_lt_of_le zb hb.size
                              have wo := Nat.lt_of_lt_of_le dz hb.size
                              go_wp2
                              exact ⟨rfl, rfl, Below.refl _ _, _, rfl, rfl, (fun h => absurd h (by decide))⟩
                            · intro vals x hb hf
                              simp only [fillS, List.getD_cons_succ, List.getD_cons_zero, Act.put, List.setIfInBounds_toArray, List.set_cons_zero, List.set_cons_succ]
                              clear hf
                              have w0 := kept_cell hb q2
                              have w1 := kept_cell hb dx
                              have wz := Nat.lt_of_lt_of_le zb hb.size
                              have wo := Nat.lt_of_lt_of_le dz hb.size
                              go_wp2
                              exact ⟨rfl, rfl, Below.refl _ _, _, rfl, rfl, (fun h => absurd h (by decide))⟩
                            · intro vals x hb hf
                              simp only [fillS, List.getD_cons_succ, List.getD_cons_zero, Act.put, List.setIfInBounds_toArray, List.set_cons_zero, List.set_cons_succ]
                              clear hf
                              have w0 := kept_cell hb q2
                              have w1 := kept_cell hb dx
                              have wz := Nat.lt_of_lt_of_le zb hb.size
                              have wo := Nat.lt_of_lt_of_le dz hb.size
                              go_wp2
                              exact ⟨rfl, rfl, Below.refl _ _, _, rfl, rfl, (fun h => absurd h (by decide))⟩
                            · intro vals x hb hf
                              simp only [fillS, List.getD_cons_succ, List.getD_cons_zero, Act.put, List.setIfInBounds_toArray, List.set_cons_zero, List.set_cons_succ]
                              clear hf
                              have w0 := kept_cell hb q2
                              have w1 := kept_cell hb dx
                              have wz := Nat.lt_of_lt_of_le zb hb.size
                              have wo := Nat.lt_of_lt_of_le dz hb.size
                              go_wp2
                              exact ⟨rfl, rfl, Below.refl _ _, _, rfl, rfl, (fun h => absurd h (by decide))⟩
                            · intro vals x hb hf
                              simp only [fillS, List.getD_cons_succ, List.getD_cons_zero, Act.put, List.setIfInBounds_toArray, List.set_cons_zero, List.set_cons_succ]
                              have h10 : vals 10 = .slice (some ⟨db, dof, none⟩) wd.length dc := hf.1
                              rw [h10]
                              clear h10
                              have h11 : vals 11 = .int .i64 k := hf.2.1
                              rw [h11]
                              clear h11
                              clear hf
                              have w0 := kept_cell hb q2
                              have w1 := kept_cell hb dx
                              have wz := Nat.lt_of_lt_of_le zb hb.size
                              have wo := Nat.lt_of_lt_of_le dz hb.size
                              go_wp2
                              exact ⟨rfl, rfl, Below.refl _ _, _, rfl, rfl, (fun h => absurd h (by decide))⟩
                            · intro vals x hb hf
                              simp only [fillS, List.getD_cons_succ, List.getD_cons_zero, Act.put, List.setIfInBounds_toArray, List.set_cons_zero, List.set_cons_succ]
                              have h12 : vals 12 = .pointer (some ⟨db, dof + k, none⟩) := hf.1
                              rw [h12]
                              clear h12
                              clear hf
                              have w0 := kept_cell hb q2
                              have w1 := kept_cell hb dx
                              have wz := Nat.lt_of_lt_of_le zb hb.size
                              have wo := Nat.lt_of_lt_of_le dz hb.size
                              go_wp2
                              exact ⟨rfl, rfl, Below.refl _ _, _, rfl, rfl, (fun h => absurd h (by decide))⟩
                            · intro vals x hb hf
                              simp only [fillS, List.getD_cons_succ, List.getD_cons_zero, Act.put, List.setIfInBounds_toArray, List.set_cons_zero, List.set_cons_succ]
                              have h9 : vals 9 = .int .i64 LL := hf.1
                              rw [h9]
                              clear h9
                              have h13 : vals 13 = .int .i64 u := hf.2.1
                              rw [h13]
                              clear h13
                              clear hf
                              have w0 := kept_cell hb q2
                              have w1 := kept_cell hb dx
                              have wz := Nat.lt_of_lt_of_le zb hb.size
                              have wo := Nat.lt_of_lt_of_le dz hb.size
                              go_wp2
                              exact ⟨rfl, rfl, Below.refl _ _, _, rfl, rfl, (fun h => absurd h (by decide))⟩
                            · intro vals x hb hf
                              simp only [fillS, List.getD_cons_succ, List.getD_cons_zero, Act.put, List.setIfInBounds_toArray, List.set_cons_zero, List.set_cons_succ]
                              have h8 : vals 8 = .int .i64 (LL - u) := hf.1
                              rw [h8]
                              clear h8
                              have h14 : vals 14 = .int .i64 (LL + u) := hf.2.1
                              rw [h14]
                              clear h14
                              clear hf
                              have w0 := kept_cell hb q2
                              have w1 := kept_cell hb dx
                              have wz := Nat.lt_of_lt_of_le zb hb.size
                              have wo := Nat.lt_of_lt_of_le dz hb.size
                              go_wp2
                              exact ⟨rfl, rfl, Below.refl _ _, _, rfl, rfl, (fun h => absurd h (by decide))⟩
                            · intro vals x hb hf
                              simp only [fillS, List.getD_cons_succ, List.getD_cons_zero, Act.put, List.setIfInBounds_toArray, List.set_cons_zero, List.set_cons_succ]
                              have h2 : vals 2 = .int .i64 k := hf.1
                              rw [h2]
                              clear h2
                              have h15 : vals 15 = .agg #[.int .i64 (LL - u), .int .i64 (LL + u)] := hf.2.1
                              rw [h15]
                              clear h15
                              clear hf
                              have w0 := kept_cell hb q2
                              have w1 := kept_cell hb dx
                              have wz := Nat.lt_of_lt_of_le zb hb.size
                              have wo := Nat.lt_of_lt_of_le dz hb.size
                              go_wp2
                              exact ⟨rfl, rfl, Below.refl _ _, _, rfl, rfl, (fun h => absurd h (by decide))⟩
                            · intro vals x hb hf
                              simp only [fillS, List.getD_cons_succ, List.getD_cons_zero, Act.put, List.setIfInBounds_toArray, List.set_cons_zero, List.set_cons_succ]
                              have h16 : vals 16 = .agg #[.int .i64 k, .int .i64 0, .int .i64 (LL - u), .int .i64 (LL + u)] := hf.1
                              rw [h16]
                              clear h16
                              clear hf
                              have w0 := kept_cell hb q2
                              have w1 := kept_cell hb dx
                              have wz := Nat.lt_of_lt_of_le zb hb.size
                              have wo := Nat.lt_of_lt_of_le dz hb.size
                              go_wp2
                              exact ⟨rfl, rfl, (Below.refl _ _).alloc (Nat.le_refl _) _, _, rfl, ⟨_, rfl, hb.size, World.alloc_heap_new _ _⟩, (fun h => absurd h (by decide))⟩
                          intro vals x hb hf hp
                          have hrange : List.range 18 = [0, 1, 2, 3, 4, 5, 6, 7, 8, 9, 10, 11, 12, 13, 14, 15, 16, 17] := by rfl
                          rw [hrange]
                          simp only [fillS, List.getD_cons_succ, List.getD_cons_zero, Act.put, List.setIfInBounds_toArray, List.set_cons_zero, List.set_cons_succ]
                          have h0 : vals 0 = .pointer (some ⟨lb, 2, none⟩) := hf 0 (by omega)
                          have h1 : vals 1 = qv := hf 1 (by omega)
                          have h2 : vals 2 = .int .i64 k := hf 2 (by omega)
                          have h3 : vals 3 = .int .i64 LL := hf 3 (by omega)
                          have h4 : vals 4 = .slice (some ⟨db, dof, none⟩) wd.length dc := hf 4 (by omega)
                          have h5 : vals 5 = .int .i64 k := hf 5 (by omega)
                          have h6 : vals 6 = .pointer (some ⟨db, dof + k, none⟩) := hf 6 (by omega)
                          have h7 : vals 7 = .int .i64 u := hf 7 (by omega)
                          have h8 : vals 8 = .int .i64 (LL - u) := hf 8 (by omega)
                          have h9 : vals 9 = .int .i64 LL := hf 9 (by omega)
                          have h10 : vals 10 = .slice (some ⟨db, dof, none⟩) wd.length dc := hf 10 (by omega)
                          have h11 : vals 11 = .int .i64 k := hf 11 (by omega)
                          have h12 : vals 12 = .pointer (some ⟨db, dof + k, none⟩) := hf 12 (by omega)
                          have h13 : vals 13 = .int .i64 u := hf 13 (by omega)
                          have h14 : vals 14 = .int .i64 (LL + u) := hf 14 (by omega)
                          have h15 : vals 15 = .agg #[.int .i64 (LL - u), .int .i64 (LL + u)] := hf 15 (by omega)
                          have h16 : vals 16 = .agg #[.int .i64 k, .int .i64 0, .int .i64 (LL - u), .int .i64 (LL + u)] := hf 16 (by omega)
                          have f17 : (SlIs X4.heap.size [.int .i64 k, .int .i64 0, .int .i64 (LL - u), .int .i64 (LL + u)] 54) (vals 17) x := hf 17 (by omega)
                          rw [h0, h1, h2, h3, h4, h5, h6, h7, h8, h9, h10, h11, h12, h13, h14, h15, h16]
                          clear h0 h1 h2 h3 h4 h5 h6 h7 h8 h9 h10 h11 h12 h13 h14 h15 h16 hf hp hrange
                          simp only [List.drop_succ_cons, List.drop_zero]
                          obtain ⟨b1, hv17, hq1, hk1⟩ := f17
                          rw [show vals 17 = _ from hv17]
                          have hSx := hS6.out.mono hb
                          obtain ⟨col, hOw⟩ := hSx.own
                          have hown := hOw.lacks.1
                          have hUx := hSx.keep.size
                          have hBx := below_tr hB6.out hb
                          obtain ⟨nv, w5, hrun, ho, hg, hat⟩ := run_app1 rdEnc_len 45 54 (.agg #[.int .i64 0, .int .i64 0, .int .i64 0, .int .i64 0]) 32 Tryz.underlying45 infoRd rfl (by omega) (by omega) rdEnc_one1 45 U.heap.size x qv QQ ⟨(k : Int), 0, ⟨LL - u, LL + u⟩⟩ b1 hown (by omega) hUx hk1
                          have hgo := grown_old hg (fun j e => (hown.lt j e).1) hSx.gl hTB.out.l
                          obtain ⟨r0, r1, r2⟩ := rf3 hgo
                          obtain ⟨p0, p1, p2⟩ := rc3 hgo
                          have zg := (Array.getElem?_eq_some_iff.1 hgo).1
                          have hS5 := hSx.appq hTB.out hg ho (hat.imp id fun e => ⟨_, e, Nat.le_refl _⟩)
                          have hB5 := (hBx.grown hg hBx.size (fun j e => by have := (hown.lt j e).1; have := hwU.out.size; omega)).setCell (p := ⟨lb, 2, none⟩) hbl.out.2 nv
                          have hfin := Lib.hid (And.intro hS5 hB5)
                          obtain ⟨na, nc, hne⟩ := ho.slice
                          obtain ⟨nl, hnl⟩ : ∃ nl, nl = (QQ ++ [(⟨(k : Int), 0, ⟨LL - u, LL + u⟩⟩ : Rd)]).length := ⟨_, rfl⟩
                          rw [← hnl] at hne
                          subst hne
                          clear hv17 hSx hOw hown hBx hgo ho hg hat hnl hS5 hB5 q0 q1 q2 zb dx dz hk1 hq1
                          go_upto_region 15 with (at_builtin; refine wpList_app_run rfl _ _ _ rfl _ _ _ _ rfl rfl hrun ?_)
                          clear r0 r1 r2 p0 p1 p2 zg hrun
                          obtain ⟨Z, hZ⟩ : ∃ Z, w5.setCell ⟨lb, 2, none⟩ (.slice na nl nc) = Z := ⟨_, rfl⟩
                          rw [hZ] at hfin ⊢
                          clear hZ
                          refine OnlyN.mk ?_
                          go_wp2_with fail
                          exact ⟨⟨k + 1, v1, .slice wa' sn wc', rw, .slice na nl nc, by omega, rfl, by go_num, Lib.hid ⟨by rw [hL1.out, hF1.out, hR1.out, hQ1.out, ← hz.out]; exact hfin.out.1, fun d hd => by
                            by_cases e : d = k
                            · subst e; exact hux.out
                            · exact hwd d (by omega)⟩⟩, by simp only [intOf]; omega⟩
          --ROUNDEND
        · obtain rfl : k = xs.length := by omega
          --EXITPART
          as_aux_lemma =>
            clear hdm hl9 ha9 hb9 hd9 hlc1 hlc2 hac1 hac2 hbc1 hbc2
            obtain ⟨hE, hA, hE2, hG2, hA2, hfin⟩ := Tb.balanced (size := size) (since := since) hc.out hs.out hp.out t7.out t9.out (by omega) hact.out ⟨by have := t1.out; omega, t0.out⟩ hwd ⟨t10.out, t11.out⟩ ⟨t12.out, t13.out⟩
            have hrow : (Tb.book c s xs xa xb wd p xs.length).bounds noGs = (List.range xs.length).map fun d => [(Tb.book c s xs xa xb wd p xs.length).bnd noGs 0 d] := Tb.bk_bounds
            have hbf : (Tb.book c s xs xa xb wd p xs.length).first = [⟨s.glo + s.ylo, s.ghi + s.yhi⟩] := rfl
            have hlf : (Tb.lacks c s xs xa xb wd p size since xs.length).first = [⟨s.glo + s.ylo, s.ghi + s.yhi⟩] := rfl
            have hlw : (Tb.lacks c s xs xa xb wd p size since xs.length).flows = (Tb.book c s xs xa xb wd p xs.length).flows := rfl
            have hflen : (Tb.book c s xs xa xb wd p xs.length).flows.length = xs.length := flows_len
            have hrdl1 : (Tb.book c s xs xa xb wd p xs.length).reads.length = xs.length := reads_len
            have hrdl2 : (Tb.lacks c s xs xa xb wd p size since xs.length).reads.length = xs.length := reads_len
            have hki : ¬ (xs.length : Int) < (xs.length : Int) := by omega
            have hn0 : 1 ≤ xs.length ∧ xs.length ≤ 12 := ⟨by have := t1.out; omega, t0.out⟩
            generalize Tb.book c s xs xa xb wd p xs.length = b at *
            generalize Tb.lacks c s xs xa xb wd p size since xs.length = l2 at *
            obtain ⟨HH, hHH⟩ : ∃ HH, HH = (List.range xs.length).map (Tb.mOf c xs xa xb p) := ⟨_, rfl⟩
            have hHl : HH.length = xs.length := by rw [hHH]; simp
            rw [← hHH] at hS
            obtain ⟨q0, q1, q2⟩ := rc3 hS.gb
            obtain ⟨p0, p1, p2⟩ := rc3 hS.gl
            obtain ⟨r0, r1, r2⟩ := rf3 hS.gl
            have zb := (Array.getElem?_eq_some_iff.1 hS.gb).1
            have zl := (Array.getElem?_eq_some_iff.1 hS.gl).1
            obtain ⟨V, hV⟩ : ∃ V, wr.setCell ⟨lb, 1, none⟩ wv = V := ⟨_, rfl⟩
            obtain ⟨g1, g2, g3, g4, g5, g6, g7⟩ := hS.close hTB.out hV
            have hwV : Below w.heap.size w V := by rw [← hV]; exact hBw.setCell (p := ⟨lb, 1, none⟩) hbl.out.2 wv
            have hUV : U.heap.size ≤ V.heap.size := by rw [← hV]; exact Nat.le_trans hS.keep.size ((Below.refl 0 wr).setCell (p := ⟨lb, 1, none⟩) (Nat.zero_le _) wv).size
            have hfV : SpsAt V fv b.first := by rw [hbf]; exact hfU.out.2 V (g7 fb hfne.out.1 hfne.out.2.1 hfne.out.2.2.1 hfne.out.2.2.2)
            have hst : ∀ k, k < xs.length → G.StCells V vb (k * 8) (Gas.theSt R1 k) := fun k hk => stc_same (hvU.out.2.2.2.2 k (by omega)) (g7 vb hvU.out.1 hvU.out.2.1 hvU.out.2.2.1 hvU.out.2.2.2.1)
            have zv := Nat.lt_of_lt_of_le hvU.out.1 hUV
            obtain ⟨fa, fc, hfe, -, -⟩ := hfV.form
            obtain ⟨wa, wcp, hwe, -, -⟩ := g1.form
            obtain ⟨ra, rcp, hre, -, -⟩ := g2.form
            obtain ⟨qa, qcp, hqe, -, -⟩ := g3.form
            obtain ⟨ha', hcp, hhe, -, hhc⟩ := g4.form
            obtain ⟨hb2, hof, rfl, hbl2, hhx⟩ := hhc (by omega)
            have hB1 := Lib.hid (show BookAt V fv wv rv b from ⟨hfV, g1, g2⟩)
            have hB2 := Lib.hid (show BookAt V fv wv qv l2 from ⟨by rw [hlf, ← hbf]; exact hfV, by rw [hlw]; exact g1, g3⟩)
            have hbfl : b.first.length = 1 := by rw [hbf]; rfl
            have hbrl : b.reads.length = xs.length := hrdl1
            have hlrl : l2.reads.length = xs.length := hrdl2
            rw [hbfl] at hfe
            rw [hflen] at hwe
            rw [hbrl] at hre
            rw [hlrl] at hqe
            rw [hHl] at hhe
            subst hfe hwe hre hqe hhe
            replace hV := Lib.hid hV
            have hHk : Hid (∀ k, k < xs.length → V.cell? ⟨hb2, hof + k, none⟩ = some (.int .i64 (Tb.mOf c xs xa xb p k))) := Lib.hid (fun k hk => by
              have := hhx k 0 (.int .i64 (HH.getD k 0)) (by omega) rfl
              rw [Nat.mul_one, Nat.add_zero] at this
              rw [this, hHH]
              simp [hk])
            have hfr : Hid (∀ rows, rows = b.bounds noGs → rows = (List.range xs.length).map fun d => [b.bnd noGs 0 d]) := Lib.hid (fun rows e => e.trans hrow)
            have kA := Lib.hid (fun X (h : Below V.heap.size V X) => (progAgree _ _ _ b noGs X (hB1.out.mono h)).mono (fun e w' (h : AgreePost _ _ _ e w') => (by
              unfold AgreePost at h
              rw [agr_none, hE, hA] at h
              simpa using h : e = .returned (.tuple #[.bool true, .int .i64 0]) ∧ Below X.heap.size X w')))
            have kB := Lib.hid (fun X (h : Below V.heap.size V X) => (progBounds _ _ _ b noGs X (hB1.out.mono h)).mono (fun e w' (h : BoundsPost _ _ _ e w') => (by
              obtain ⟨hB, h⟩ := h
              rw [agr_none, hE, hA] at h
              rcases h with ⟨h, -⟩ | ⟨-, h, -⟩ | ⟨-, -, v, rfl, h⟩
              · exact absurd rfl h
              · cases h
              · rw [hrow] at h
                exact ⟨⟨v, rfl, h⟩, hB⟩ : (∃ v, e = .returned (.tuple #[v, .int .i64 0]) ∧ SpRowsAt w' v ((List.range xs.length).map fun d => [b.bnd noGs 0 d])) ∧ Below X.heap.size X w')))
            have kY := Lib.hid (fun X (h : Below V.heap.size V X) => (progAgree _ _ _ l2 ⟨0, size, since⟩ X (hB2.out.mono h)).mono (fun e w' (h : AgreePost _ _ _ e w') => (by
              unfold AgreePost at h
              rw [hG2, hE2, hA2] at h
              simpa using h : e = .returned (.tuple #[.bool true, .int .i64 0]) ∧ Below X.heap.size X w')))
            have g5h := Lib.hid g5
            have g6h := Lib.hid g6
            have hsth := Lib.hid hst
            have hfinh := Lib.hid hfin
            have hwVh := Lib.hid hwV
            have hRl1 : Hid (R1.length = xs.length) := Lib.hid (by omega)
            clear hE hA hE2 hG2 hA2 hfin hrow hbf hlf hlw hflen hHl hbfl hbrl hlrl hrdl1 hrdl2 hHH hS g1 g2 g3 g4 g5 g6 g7 hwV hUV hfV hst hhc hhx hB1 hB2 hRi
            go_upto_region 30 with fail
            rw [hV.out]
            clear q0 q1 q2 p0 p1 p2 r0 r1 r2 zb zl
            go_cut [31, 32] from 290 to 296 (fun c31 c32 wx => c31 = .bool true ∧ c32 = .int .i64 0 ∧ Hid (Below V.heap.size V wx))
            case first =>
              skip
              --CUT
              as_aux_lemma =>
                refine plain_region (by kernel_rfl) (any_region_locN 6 416 [5] [291, 292, 293, 290, 294, 295] [[], [], [0, 1], [2], [3], [3]] [IsV (bkV (.slice fa 1 fc) (.slice wa xs.length wcp) (.slice ra xs.length rcp)), IsV (gsV noGs), IsV (.tuple #[.bool true, .int .i64 0]), IsV (.tuple #[.bool true, .int .i64 0]), IsV (.bool true), IsV (.int .i64 0)] [] (by kernel_rfl) (by kernel_rfl) (by kernel_rfl) (by kernel_rfl) (by kernel_rfl) rfl OnlyN.panic ?_ ?_ ?_ ?_ ?_)
                · exact List.forall_mem_cons.2 ⟨pers_v _, List.forall_mem_cons.2 ⟨pers_v _, List.forall_mem_cons.2 ⟨pers_v _, List.forall_mem_cons.2 ⟨pers_v _, List.forall_mem_cons.2 ⟨pers_v _, List.forall_mem_cons.2 ⟨pers_v _, fun f h => nomatch h⟩⟩⟩⟩⟩⟩
                · intro k hk; cases hk
                · refine ⟨?_, ?_, ?_, ?_, ?_, ?_, trivial⟩
                  · intro vals x hb hf
                    simp only [fillS, List.getD_cons_succ, List.getD_cons_zero, Act.put, List.setIfInBounds_toArray, List.set_cons_zero, List.set_cons_succ]
                    clear hf
                    obtain ⟨p0, p1, p2⟩ := rc3 (kept_block hb g5h.out)
                    have zw := (Array.getElem?_eq_some_iff.1 (kept_block hb g5h.out)).1
                    go_wp2
                    exact ⟨rfl, rfl, Below.refl _ _, _, rfl, rfl, (fun h => absurd h (by decide))⟩
                  · intro vals x hb hf
                    simp only [fillS, List.getD_cons_succ, List.getD_cons_zero, Act.put, List.setIfInBounds_toArray, List.set_cons_zero, List.set_cons_succ]
                    clear hf
                    obtain ⟨p0, p1, p2⟩ := rc3 (kept_block hb g5h.out)
                    have zw := (Array.getElem?_eq_some_iff.1 (kept_block hb g5h.out)).1
                    go_wp2_with (go_at_call 13; (with_reducible refine Calls.mono (refNone x) ?_); rintro e y ⟨rfl, hB⟩)
                    exact ⟨rfl, rfl, hB, _, rfl, rfl, (fun h => absurd h (by decide))⟩
                  · intro vals x hb hf
                    simp only [fillS, List.getD_cons_succ, List.getD_cons_zero, Act.put, List.setIfInBounds_toArray, List.set_cons_zero, List.set_cons_succ]
                    have h0 : vals 0 = bkV (.slice fa 1 fc) (.slice wa xs.length wcp) (.slice ra xs.length rcp) := hf.1
                    rw [h0]
                    clear h0
                    have f1 : (IsV (gsV noGs)) (vals 1) x := hf.2.1
                    clear hf
                    obtain ⟨p0, p1, p2⟩ := rc3 (kept_block hb g5h.out)
                    have zw := (Array.getElem?_eq_some_iff.1 (kept_block hb g5h.out)).1
                    rw [show vals 1 = gsV noGs from f1]
                    go_wp2_with (go_at_call 12; (with_reducible refine Calls.mono (kA.out x hb) ?_); rintro e y ⟨rfl, hB⟩)
                    exact ⟨rfl, rfl, hB, _, rfl, rfl, (fun h => absurd h (by decide))⟩
                  · intro vals x hb hf
                    simp only [fillS, List.getD_cons_succ, List.getD_cons_zero, Act.put, List.setIfInBounds_toArray, List.set_cons_zero, List.set_cons_succ]
                    have f2 : (IsV (.tuple #[.bool true, .int .i64 0])) (vals 2) x := hf.1
                    clear hf
                    obtain ⟨p0, p1, p2⟩ := rc3 (kept_block hb g5h.out)
                    have zw := (Array.getElem?_eq_some_iff.1 (kept_block hb g5h.out)).1
                    rw [show vals 2 = .tuple #[.bool true, .int .i64 0] from f2]
                    go_wp2
                    exact ⟨rfl, rfl, Below.refl _ _, _, rfl, rfl, (fun h => absurd h (by decide))⟩
                  · intro vals x hb hf
                    simp only [fillS, List.getD_cons_succ, List.getD_cons_zero, Act.put, List.setIfInBounds_toArray, List.set_cons_zero, List.set_cons_succ]
                    have f3 : (IsV (.tuple #[.bool true, .int .i64 0])) (vals 3) x := hf.1
                    clear hf
                    obtain ⟨p0, p1, p2⟩ := rc3 (kept_block hb g5h.out)
                    have zw := (Array.getElem?_eq_some_iff.1 (kept_block hb g5h.out)).1
                    rw [show vals 3 = .tuple #[.bool true, .int .i64 0] from f3]
                    go_wp2
                    exact ⟨rfl, rfl, Below.refl _ _, _, rfl, rfl, (fun h => absurd h (by decide))⟩
                  · intro vals x hb hf
                    simp only [fillS, List.getD_cons_succ, List.getD_cons_zero, Act.put, List.setIfInBounds_toArray, List.set_cons_zero, List.set_cons_succ]
                    have f3 : (IsV (.tuple #[.bool true, .int .i64 0])) (vals 3) x := hf.1
                    clear hf
                    rw [show vals 3 = .tuple #[.bool true, .int .i64 0] from f3]
                    go_wp2
                    exact ⟨rfl, rfl, Below.refl _ _, _, rfl, rfl, (fun h => absurd h (by decide))⟩
                · intro j hj o ho vals x hb hf
                  obtain rfl : j = 5 := by simpa using hj
                  obtain rfl := Option.some.inj ho
                  simp only [fillS, List.getD_cons_succ, List.getD_cons_zero, Act.put, List.setIfInBounds_toArray, List.set_cons_zero, List.set_cons_succ]
                  have f3 : (IsV (.tuple #[.bool true, .int .i64 0])) (vals 3) x := hf.1
                  rw [show vals 3 = .tuple #[.bool true, .int .i64 0] from f3]
                  exact ⟨_, .inl ⟨rfl, fun w => rfl⟩, rfl, (fun h => absurd h (by decide))⟩
                intro vals x hb hf hp
                have hrange : List.range 6 = [0, 1, 2, 3, 4, 5] := by rfl
                rw [hrange]
                simp only [fillS, List.getD_cons_succ, List.getD_cons_zero, Act.put, List.setIfInBounds_toArray, List.set_cons_zero, List.set_cons_succ]
                have h0 : vals 0 = bkV (.slice fa 1 fc) (.slice wa xs.length wcp) (.slice ra xs.length rcp) := hf 0 (by omega)
                have f1 : (IsV (gsV noGs)) (vals 1) x := hf 1 (by omega)
                have f2 : (IsV (.tuple #[.bool true, .int .i64 0])) (vals 2) x := hf 2 (by omega)
                have f3 : (IsV (.tuple #[.bool true, .int .i64 0])) (vals 3) x := hf 3 (by omega)
                have f4 : (IsV (.bool true)) (vals 4) x := hf 4 (by omega)
                have h5 : vals 5 = .int .i64 0 := hf 5 (by omega)
                rw [h0, h5]
                clear h0 h5 hf hp hrange
                simp only [List.drop_succ_cons, List.drop_zero]
                rw [show vals 4 = .bool true from f4]
                have hbx := Lib.hid hb
                clear f1 f2 f3 f4
                go_wp2_with fail
                refine OnlyN.mk ?_
                go_wp2_with fail
                go_meet
                exact ⟨rfl, rfl, hbx⟩
              --END
            case rest =>
              obtain ⟨rfl, rfl, hH⟩ := hcut
              obtain ⟨V1, hV1⟩ : ∃ V1, V1 = wc := ⟨_, rfl⟩
              rw [← hV1] at hH ⊢
              clear hV1 kA
              go_upto_region 31 with fail
              go_cut [33, 34] from 296 to 302 (fun c33 c34 wx => c34 = .int .i64 0 ∧ Hid (SpRowsAt wx c33 ((List.range xs.length).map fun d => [b.bnd noGs 0 d]) ∧ Below V.heap.size V wx))
              case first =>
                skip
                --CUT
                as_aux_lemma =>
                  obtain ⟨rows, hrows⟩ : ∃ rows, rows = (List.range xs.length).map fun d => [b.bnd noGs 0 d] := ⟨_, rfl⟩
                  rw [← hrows] at kB
                  replace hrows := Lib.hid hrows
                  refine plain_region (by kernel_rfl) (any_region_locN 6 416 [5] [297, 298, 299, 296, 300, 301] [[], [], [0, 1], [2], [3], [3]] [IsV (bkV (.slice fa 1 fc) (.slice wa xs.length wcp) (.slice ra xs.length rcp)), IsV (gsV noGs), RwIs rows, RwIs rows, RwV rows, IsV (.int .i64 0)] [] (by kernel_rfl) (by kernel_rfl) (by kernel_rfl) (by kernel_rfl) (by kernel_rfl) rfl OnlyN.panic ?_ ?_ ?_ ?_ ?_)
                  · exact List.forall_mem_cons.2 ⟨pers_v _, List.forall_mem_cons.2 ⟨pers_v _, List.forall_mem_cons.2 ⟨pers_rwis _, List.forall_mem_cons.2 ⟨pers_rwis _, List.forall_mem_cons.2 ⟨pers_rwv _, List.forall_mem_cons.2 ⟨pers_v _, fun f h => nomatch h⟩⟩⟩⟩⟩⟩
                  · intro k hk; cases hk
                  · refine ⟨?_, ?_, ?_, ?_, ?_, ?_, trivial⟩
                    · intro vals x hb hf
                      simp only [fillS, List.getD_cons_succ, List.getD_cons_zero, Act.put, List.setIfInBounds_toArray, List.set_cons_zero, List.set_cons_succ]
                      clear hf
                      have hVx := below_tr hH.out hb
                      obtain ⟨p0, p1, p2⟩ := rc3 (kept_block hVx g5h.out)
                      have zw := (Array.getElem?_eq_some_iff.1 (kept_block hVx g5h.out)).1
                      go_wp2
                      exact ⟨rfl, rfl, Below.refl _ _, _, rfl, rfl, (fun h => absurd h (by decide))⟩
                    · intro vals x hb hf
                      simp only [fillS, List.getD_cons_succ, List.getD_cons_zero, Act.put, List.setIfInBounds_toArray, List.set_cons_zero, List.set_cons_succ]
                      clear hf
                      have hVx := below_tr hH.out hb
                      obtain ⟨p0, p1, p2⟩ := rc3 (kept_block hVx g5h.out)
                      have zw := (Array.getElem?_eq_some_iff.1 (kept_block hVx g5h.out)).1
                      go_wp2_with (go_at_call 13; (with_reducible refine Calls.mono (refNone x) ?_); rintro e y ⟨rfl, hB⟩)
                      exact ⟨rfl, rfl, hB, _, rfl, rfl, (fun h => absurd h (by decide))⟩
                    · intro vals x hb hf
                      simp only [fillS, List.getD_cons_succ, List.getD_cons_zero, Act.put, List.setIfInBounds_toArray, List.set_cons_zero, List.set_cons_succ]
                      have h0 : vals 0 = bkV (.slice fa 1 fc) (.slice wa xs.length wcp) (.slice ra xs.length rcp) := hf.1
                      rw [h0]
                      clear h0
                      have f1 : (IsV (gsV noGs)) (vals 1) x := hf.2.1
                      clear hf
                      have hVx := below_tr hH.out hb
                      obtain ⟨p0, p1, p2⟩ := rc3 (kept_block hVx g5h.out)
                      have zw := (Array.getElem?_eq_some_iff.1 (kept_block hVx g5h.out)).1
                      rw [show vals 1 = gsV noGs from f1]
                      go_wp2_with (go_at_call 14; (with_reducible refine Calls.mono (kB.out x hVx) ?_); rintro e y ⟨⟨u, rfl, hu⟩, hB⟩)
                      exact ⟨rfl, rfl, hB, _, rfl, ⟨u, rfl, hu⟩, (fun h => absurd h (by decide))⟩
                    · intro vals x hb hf
                      simp only [fillS, List.getD_cons_succ, List.getD_cons_zero, Act.put, List.setIfInBounds_toArray, List.set_cons_zero, List.set_cons_succ]
                      have f2 : (RwIs rows) (vals 2) x := hf.1
                      clear hf
                      have hVx := below_tr hH.out hb
                      obtain ⟨p0, p1, p2⟩ := rc3 (kept_block hVx g5h.out)
                      have zw := (Array.getElem?_eq_some_iff.1 (kept_block hVx g5h.out)).1
                      obtain ⟨u, e2, h2⟩ := f2
                      rw [e2]
                      go_wp2
                      exact ⟨rfl, rfl, Below.refl _ _, _, rfl, ⟨u, rfl, h2⟩, (fun h => absurd h (by decide))⟩
                    · intro vals x hb hf
                      simp only [fillS, List.getD_cons_succ, List.getD_cons_zero, Act.put, List.setIfInBounds_toArray, List.set_cons_zero, List.set_cons_succ]
                      have f3 : (RwIs rows) (vals 3) x := hf.1
                      clear hf
                      have hVx := below_tr hH.out hb
                      obtain ⟨p0, p1, p2⟩ := rc3 (kept_block hVx g5h.out)
                      have zw := (Array.getElem?_eq_some_iff.1 (kept_block hVx g5h.out)).1
                      obtain ⟨u, e2, h2⟩ := f3
                      rw [e2]
                      go_wp2
                      exact ⟨rfl, rfl, Below.refl _ _, _, rfl, h2, (fun h => absurd h (by decide))⟩
                    · intro vals x hb hf
                      simp only [fillS, List.getD_cons_succ, List.getD_cons_zero, Act.put, List.setIfInBounds_toArray, List.set_cons_zero, List.set_cons_succ]
                      have f3 : (RwIs rows) (vals 3) x := hf.1
                      clear hf
                      obtain ⟨u, e2, h2⟩ := f3
                      rw [e2]
                      go_wp2
                      exact ⟨rfl, rfl, Below.refl _ _, _, rfl, rfl, (fun h => absurd h (by decide))⟩
                  · intro j hj o ho vals x hb hf
                    obtain rfl : j = 5 := by simpa using hj
                    obtain rfl := Option.some.inj ho
                    simp only [fillS, List.getD_cons_succ, List.getD_cons_zero, Act.put, List.setIfInBounds_toArray, List.set_cons_zero, List.set_cons_succ]
                    have f3 : (RwIs rows) (vals 3) x := hf.1
                    obtain ⟨u, e2, h2⟩ := f3
                    rw [e2]
                    exact ⟨_, .inl ⟨rfl, fun w => rfl⟩, rfl, (fun h => absurd h (by decide))⟩
                  intro vals x hb hf hp
                  have hrange : List.range 6 = [0, 1, 2, 3, 4, 5] := by rfl
                  rw [hrange]
                  simp only [fillS, List.getD_cons_succ, List.getD_cons_zero, Act.put, List.setIfInBounds_toArray, List.set_cons_zero, List.set_cons_succ]
                  have h0 : vals 0 = bkV (.slice fa 1 fc) (.slice wa xs.length wcp) (.slice ra xs.length rcp) := hf 0 (by omega)
                  have f1 : (IsV (gsV noGs)) (vals 1) x := hf 1 (by omega)
                  have f2 : (RwIs rows) (vals 2) x := hf 2 (by omega)
                  have f3 : (RwIs rows) (vals 3) x := hf 3 (by omega)
                  have f4 : (RwV rows) (vals 4) x := hf 4 (by omega)
                  have h5 : vals 5 = .int .i64 0 := hf 5 (by omega)
                  rw [h0, h5]
                  clear h0 h5 hf hp hrange
                  simp only [List.drop_succ_cons, List.drop_zero]
                  have hbx := Lib.hid (And.intro (show SpRowsAt x (vals 4) rows from f4) (below_tr hH.out hb))
                  obtain ⟨va4, h4⟩ : ∃ v4, v4 = vals 4 := ⟨_, rfl⟩
                  rw [← h4] at hbx ⊢
                  obtain ⟨xa4, xc4, hx4, -, -⟩ := hbx.out.1.form
                  subst hx4
                  clear f1 f2 f3 f4
                  go_wp2_with fail
                  refine OnlyN.mk ?_
                  go_wp2_with fail
                  go_meet
                  exact ⟨rfl, by rw [← hrows.out, ← h4]; exact hbx⟩
                --END
              case rest =>
                obtain ⟨rfl, hH2⟩ := hcut
                obtain ⟨hX, hVX⟩ := hH2.out
                obtain ⟨xva, xcp, rfl⟩ := rows_len hX
                replace hX := Lib.hid hX
                replace hVX := Lib.hid hVX
                clear hH hH2 kB
                obtain ⟨V1, hV1⟩ : ∃ V1, V1 = wc := ⟨_, rfl⟩
                rw [← hV1] at hX hVX ⊢
                clear hV1
                obtain ⟨p0, p1, p2⟩ := rc3 (kept_block hVX.out g6h.out)
                have zl := (Array.getElem?_eq_some_iff.1 (kept_block hVX.out g6h.out)).1
                go_upto_region 33 with (go_at_call 12; (with_reducible refine Calls.mono (kY.out _ hVX.out) ?_); rintro e w6 ⟨rfl, hB6⟩)
                clear p0 p1 p2 zl kY
                have hX6 := Lib.hid (hX.out.mono hB6)
                have hV6 := Lib.hid (below_tr hVX.out hB6)
                clear hX hVX hB6
                obtain ⟨V1, hV1⟩ : ∃ V1, V1 = w6 := ⟨_, rfl⟩
                rw [← hV1] at hX6 hV6 ⊢
                clear hV1
                go_upto_region 35 with fail
                go_wp2_with fail
                go_loopw [37] (fun i wr => ∃ k : Nat, k ≤ xs.length ∧ i = .int .i64 k ∧ Hid (Below V1.heap.size V1 wr)) (fun i _ => xs.length - (intOf i).toNat)
                case atStart => exact ⟨0, by omega, rfl, Lib.hid (Below.refl _ _)⟩
                case round =>
                  obtain ⟨k, hk, rfl, hH⟩ := hrel
                  have hBw := hH.out
                  clear hH
                  by_cases hlt : k < xs.length
                  · have hki : (k : Int) < (xs.length : Int) := by omega
                    obtain ⟨xb0, xo, rb, ro, rc, rfl, hx1, hx2, hx3, hx4, hx5⟩ := row_at (hX6.out.mono hBw) hlt
                    obtain ⟨n0, n1, n2, n3, n4, n5, n6, n7⟩ := (hsth.out k hlt).mono (below_tr hV6.out hBw)
                    have zz := below_tr hV6.out hBw
                    have zv' := Nat.lt_of_lt_of_le zv zz.size
                    have hh1 := kept_cell zz (hHk.out k hlt)
                    have hh2 := Nat.lt_of_lt_of_le hbl2 zz.size
                    obtain ⟨-, -, hnk, -, -⟩ := hnxt.out k hlt
                    have hng := hnk.g
                    have hny := hnk.y
                    obtain ⟨hf1, hf2, hf3, hf4⟩ := hfinh.out k hlt
                    clear hnk zz
                    obtain ⟨n, hn⟩ : ∃ n, n = Gas.theSt R1 k := ⟨_, rfl⟩
                    obtain ⟨M, hM⟩ : ∃ M, M = Tb.mOf c xs xa xb p k := ⟨_, rfl⟩
                    obtain ⟨lo, hlo⟩ : ∃ lo, lo = (b.bnd noGs 0 k).lo := ⟨_, rfl⟩
                    obtain ⟨hi, hhi⟩ : ∃ hi, hi = (b.bnd noGs 0 k).hi := ⟨_, rfl⟩
                    rw [← hn] at n0 n1 n2 n3 n4 n5 n6 n7 hng hny hf3 hf4
                    rw [← hM] at hh1 hf1 hf2 hf3 hf4
                    rw [← hlo] at hx4 hf1
                    rw [← hhi] at hx5 hf2
                    clear hn hM hlo hhi
                    have d1 : decide (M < lo) = false := decide_eq_false (by omega)
                    have d2 : decide (hi < M) = false := decide_eq_false (by omega)
                    have d3 : decide (M < n.glo + n.ylo) = false := decide_eq_false (by omega)
                    have d4 : decide (n.ghi + n.yhi < M) = false := decide_eq_false (by omega)
                    have hgz := grow_cell wr
                    have hBwh := Lib.hid hBw
                    clear hBw
                    obtain ⟨X, hX⟩ : ∃ X, X = wr := ⟨_, rfl⟩
                    go_upto_region 38 with fail
                    go_cut [414] from 335 to 414 (fun c0 wx => c0 = .bool false ∧ Hid (Below X.heap.size X wx))
                    case first =>
                      skip
                      --CUT
                      as_aux_lemma =>
                        go_wp2_with fail
                        simp only [List.append]
                        refine wp_region_grow (by kernel_rfl) (by kernel_rfl) ?_
                        repeat (go_big_quiet_step (fail))
                        refine wpQuiet_nil ?_
                        rintro _ ⟨g, rfl⟩
                        go_wp2_with fail
                        go_meet
                        rw [hX]
                        exact ⟨rfl, Lib.hid g.h⟩
                      --END
                    case rest =>
                      obtain ⟨rfl, hH⟩ := hcut
                      subst hX
                      have hB9 := Lib.hid (below_tr hBwh.out hH.out)
                      clear hH hBwh hx1 hx2 hx3 hx4 hx5 n0 n1 n2 n3 n4 n5 n6 n7 hh1 hh2 zv'
                      go_wp2_with fail
                      exact ⟨⟨k + 1, by omega, by go_num, hB9⟩, by simp only [intOf]; omega⟩
                  · obtain rfl : k = xs.length := by omega
                    replace hBw := Lib.hid hBw
                    go_wp2_with (go_at_call 9; (with_reducible refine Calls.mono (kK.out _) ?_); rintro e w9 ⟨rfl, hB9⟩)
                    go_ret
                    exact ⟨rfl, below_tr hwVh.out (below_tr hV6.out (below_tr hBw.out hB9))⟩
          --EXITEND
end Go.Proofs.YthbkcoijafehgaaGreat.L
