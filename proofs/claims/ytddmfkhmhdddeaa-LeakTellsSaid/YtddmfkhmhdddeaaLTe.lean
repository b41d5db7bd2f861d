/- Walks: the law LeakTells. -/
import Derived.Test.YtddmfkhmhdddeaaLCk
import Derived.Test.YtddmfkhmhdddeaaRTe
set_option linter.unusedVariables false
set_option linter.unusedSimpArgs false
namespace Lk
theorem err_false {b : Bk} : b.err false ≠ 0 := by unfold Bk.err; split <;> simp
theorem tl_bad {b : Bk} {g h : Gs} {wrong : Int} (hf : (b.gsB g && b.gsB h && inB wrong 0 10000000) = false) : b.tlR g h wrong = (0, 0, b.err false) := by
  cases hg : (b.gsB g && b.gsB h)
  · rw [tlR_err (by rw [hg]; exact err_false), hg]
  · rw [hg, Bool.true_and] at hf
    by_cases he : b.err true = 0
    · unfold Bk.tlR
      rw [hg, if_neg (by simp [he]), if_pos hf]
      have : b.err false = 2 := by
        unfold Bk.err at he ⊢
        split at he
        · cases he
        · rename_i hl; rw [if_neg hl]; simp
      rw [this]
    · rw [tlR_err (by rw [hg]; exact he), hg]
      unfold Bk.err at he ⊢
      by_cases hl : b.longB = true
      · rw [if_pos hl, if_pos hl]
      · rw [if_neg hl] at he ⊢
        rw [if_neg hl]
        split at he
        · exact (he rfl).elim
        · rename_i hb; rw [if_neg hb]; simp
theorem tl_err {b : Bk} {g h : Gs} {wrong : Int} (hf : (b.gsB g && b.gsB h) = true) (he : b.err true ≠ 0) : b.tlR g h wrong = (0, 0, b.err true) := by rw [tlR_err (by rw [hf]; exact he), hf]
theorem tl_no {b : Bk} {g h : Gs} {wrong : Int} (hf : (b.gsB g && b.gsB h) = true) (hw : inB wrong 0 10000000 = true) (he : b.err true = 0) (ha : (b.agreeB g && b.agreeB h) = false) : b.tlR g h wrong = (0, 0, 7) := by
  unfold Bk.tlR; rw [hf, if_neg (by simp [he]), if_neg (by simp [hw]), if_pos ha]
theorem tl_yes {b : Bk} {g h : Gs} {wrong : Int} (hf : (b.gsB g && b.gsB h) = true) (hw : inB wrong 0 10000000 = true) (he : b.err true = 0) (ha : (b.agreeB g && b.agreeB h) = true) : b.tlR g h wrong = match b.tellD g h wrong with
  | some p => ((p.1 : Int), (p.2 : Int), 0)
  | none => (0, 0, 5) := by
  unfold Bk.tlR; rw [hf, if_neg (by simp [he]), if_neg (by simp [hw]), if_neg (by simp [ha])]
  cases b.tellD g h wrong <;> rfl
end Lk
namespace Go.Proofs.Ytddmfkhmhdddeaa
open Go.RowKit Go.Sd Lk

set_option maxRecDepth 100000 in
set_option maxHeartbeats 4000000 in
theorem lawTells (fv wv rv : Value) (b : Bk) (ga gb : Gs) (wrong : Int) (w : World) (hb : BookAt w fv wv rv b) :
    Calls Try.prog 6 #[bkV fv wv rv, gsV ga, gsV gb, .int .i64 wrong] w fun e w' => e = .returned (.bool true) ∧ Below w.heap.size w w' := by
  have kK := Lib.hid (fun X => progKnown X)
  obtain ⟨W, hW⟩ : ∃ W, ((w.alloc (bkA fv wv rv)).alloc (gsO ga)).alloc (gsO gb) = W := ⟨_, rfl⟩
  obtain ⟨e0, e1, e2, s1, B1⟩ := three_new hW
  have hbW := hb.mono B1
  have kS0 := lawShort fv wv rv b W hbW
  have kT0 := fun X (hX : Below W.heap.size W X) => progTell fv wv rv b ga gb wrong X (hbW.mono hX)
  have kB0 := fun f X (hX : Below W.heap.size W X) => lawBooked fv wv rv b f X (hbW.mono hX)
  have kG0 := fun X (hX : Below W.heap.size W X) => (refGuess fv wv rv b ga X (hbW.mono hX)).mono (fun e w' (h : BoolB _ _ e w') => h.lit rfl)
  have kH0 := fun X (hX : Below W.heap.size W X) => (refGuess fv wv rv b gb X (hbW.mono hX)).mono (fun e w' (h : BoolB _ _ e w') => h.lit rfl)
  have kR0 := fun (ok : Ok b) (hg : b.gsB ga = true) X (hX : Below W.heap.size W X) => refAgree fv wv rv b ga X (hbW.mono hX) (fwdOk fv wv rv ok hg)
  have kQ0 := fun (ok : Ok b) (hg : b.gsB gb = true) X (hX : Below W.heap.size W X) => refAgree fv wv rv b gb X (hbW.mono hX) (fwdOk fv wv rv ok hg)
  have kU0 := fun (ok : Ok b) (hg : b.gsB ga = true) (hh : b.gsB gb = true) (ag : b.agreeB ga = true) (ah : b.agreeB gb = true) (hw : 0 ≤ wrong ∧ wrong ≤ 10000000) X (hX : Below W.heap.size W X) => refTell fv wv rv b ga gb wrong X (hbW.mono hX) ok hg hh ag ah hw
  unfold TellPost at kT0
  have hez := Lib.hid (err_zero (b := b) (f := true))
  obtain ⟨fa, fc, rfl, hfm, -⟩ := hb.first.form
  obtain ⟨wa, wc, rfl, hwm, -⟩ := hb.flows.form
  obtain ⟨ra, rc, rfl, hrm, -⟩ := hb.reads.form
  obtain ⟨q0, q1, q2⟩ := rc3 e0
  obtain ⟨g0, g1, g2⟩ := rc3 e1
  obtain ⟨p0, p1, p2⟩ := rc3 e2
  have z0 := (Array.getElem?_eq_some_iff.1 e0).1
  have z1 := (Array.getElem?_eq_some_iff.1 e1).1
  have z2 := (Array.getElem?_eq_some_iff.1 e2).1
  have hwB := Lib.hid B1
  have he0 := Lib.hid e0
  have he1 := Lib.hid e1
  have he2 := Lib.hid e2
  replace hW := Lib.hid hW
  clear hb hbW e0 e1 e2 s1 B1
  cases hs : b.shortB
  · rw [hs] at kS0
    have kS := Lib.hid kS0
    clear kS0 kT0 kB0 kG0 kH0 kR0 kQ0 kU0 hez hs
    go_enter Try.func6, Try.ntmps6
    go_wp2_with (first
      | (go_at_call 17; rw [hW.out]; (with_reducible refine Calls.mono kS.out ?_); rintro e w1 ⟨rfl, h1⟩)
      | (go_at_call 18; (with_reducible refine Calls.mono (kK.out _) ?_); rintro e w3 ⟨rfl, hB3⟩))
    go_ret
    exact ⟨rfl, below_tr hwB.out (below_tr h1 hB3)⟩
  · rw [hs] at kS0
    have kS := Lib.hid kS0
    obtain ⟨D, Z, E, hT⟩ : ∃ D Z E, b.tlR ga gb wrong = (D, Z, E) := ⟨_, _, _, rfl⟩
    rw [hT] at kT0
    have kT := Lib.hid kT0
    replace kB0 := Lib.hid kB0
    replace kR0 := Lib.hid kR0
    replace kQ0 := Lib.hid kQ0
    replace kU0 := Lib.hid kU0
    replace hT := Lib.hid hT
    clear kS0 kT0 hs
    go_enter Try.func6, Try.ntmps6
    go_upto_region 4 with (first
      | (go_at_call 17; rw [hW.out]; (with_reducible refine Calls.mono kS.out ?_); rintro e w1 ⟨rfl, h1⟩; obtain ⟨q0, q1, q2⟩ := rc3 (kept_block h1 he0.out); obtain ⟨g0, g1, g2⟩ := rc3 (kept_block h1 he1.out); obtain ⟨p0, p1, p2⟩ := rc3 (kept_block h1 he2.out); have z0 := (Array.getElem?_eq_some_iff.1 (kept_block h1 he0.out)).1; have z1 := (Array.getElem?_eq_some_iff.1 (kept_block h1 he1.out)).1; have z2 := (Array.getElem?_eq_some_iff.1 (kept_block h1 he2.out)).1)
      | (go_at_call 31; (with_reducible refine Calls.mono (kT.out w1 h1) ?_); rintro e w2 ⟨rfl, hB⟩; have h2 := below_tr h1 hB))
    have hi2 := Lib.hid h2
    clear h1 h2 hB kS kT q0 q1 q2 g0 g1 g2 p0 p1 p2 z0 z1 z2
    obtain ⟨V, rfl⟩ : ∃ V : World, V = w2 := ⟨_, rfl⟩
    have hV0 := Lib.hid (kept_block hi2.out he0.out)
    have hV1 := Lib.hid (kept_block hi2.out he1.out)
    have hV2 := Lib.hid (kept_block hi2.out he2.out)
    obtain ⟨q0, q1, q2⟩ := rc3 hV0.out
    obtain ⟨g0, g1, g2⟩ := rc3 hV1.out
    obtain ⟨p0, p1, p2⟩ := rc3 hV2.out
    have z0 := (Array.getElem?_eq_some_iff.1 hV0.out).1
    have z1 := (Array.getElem?_eq_some_iff.1 hV1.out).1
    have z2 := (Array.getElem?_eq_some_iff.1 hV2.out).1
    have hwx := Lib.hid (below_tr hwB.out hi2.out)
    have hgV := grow_cell V
    have hbad : Hid ((b.gsB ga && b.gsB gb && inB wrong 0 10000000) = false → b.tlR ga gb wrong = (0, 0, b.err false)) := Lib.hid tl_bad
    cases hg1 : b.gsB ga
    · have hne : Hid ((b.gsB ga && b.gsB gb && inB wrong 0 10000000) = false) := Lib.hid (by rw [hg1]; rfl)
      have hT2 := hT.out
      rw [hbad.out hne.out] at hT2
      simp only [Prod.mk.injEq] at hT2
      obtain ⟨rfl, rfl, rfl⟩ := hT2
      have hE2 : Hid (b.err false ≠ 0) := Lib.hid err_false
      have kB1 := Lib.hid (fun gx : Grow V => kB0.out false gx.x (below_tr hi2.out gx.h))
      rw [hg1] at kG0
      have kG := Lib.hid (fun gx : Grow V => kG0 gx.x (below_tr hi2.out gx.h))
      have kH := Lib.hid (fun gx : Grow V => kH0 gx.x (below_tr hi2.out gx.h))
      clear kG0 kH0 kB0 kR0 kQ0 kU0 hT hbad hne hez
      generalize b.err false = E2 at *
      have hd : decide (E2 = 0) = false := by simpa using hE2.out
      go_wp2
      refine wp_region_grow (by kernel_rfl) (by kernel_rfl) ?_
      repeat (go_big_quiet_step ((first | (with_reducible exact Calls.grow (kG.out _)) | (with_reducible exact Calls.grow (kH.out _)) | (with_reducible exact Calls.grow (kB1.out _)))))
      refine wpQuiet_nil ?_
      rintro _ ⟨g, rfl⟩
      have hgB := Lib.hid g.h
      generalize g.x = Y at *
      go_wp2_with (go_at_call 18; (with_reducible refine Calls.mono (kK.out _) ?_); rintro e w6 ⟨rfl, hB6⟩)
      go_ret
      exact ⟨rfl, below_tr hwx.out (below_tr hgB.out hB6)⟩
    · cases hg2 : b.gsB gb
      · have hne : Hid ((b.gsB ga && b.gsB gb && inB wrong 0 10000000) = false) := Lib.hid (by rw [hg1, hg2]; rfl)
        have hT2 := hT.out
        rw [hbad.out hne.out] at hT2
        simp only [Prod.mk.injEq] at hT2
        obtain ⟨rfl, rfl, rfl⟩ := hT2
        have hE2 : Hid (b.err false ≠ 0) := Lib.hid err_false
        have kB1 := Lib.hid (fun gx : Grow V => kB0.out false gx.x (below_tr hi2.out gx.h))
        rw [hg1] at kG0
        rw [hg2] at kH0
        have kG := Lib.hid (fun gx : Grow V => kG0 gx.x (below_tr hi2.out gx.h))
        have kH := Lib.hid (fun gx : Grow V => kH0 gx.x (below_tr hi2.out gx.h))
        clear kG0 kH0 kB0 kR0 kQ0 kU0 hT hbad hne hez
        generalize b.err false = E2 at *
        have hd : decide (E2 = 0) = false := by simpa using hE2.out
        go_wp2
        refine wp_region_grow (by kernel_rfl) (by kernel_rfl) ?_
        repeat (go_big_quiet_step ((first | (with_reducible exact Calls.grow (kG.out _)) | (with_reducible exact Calls.grow (kH.out _)) | (with_reducible exact Calls.grow (kB1.out _)))))
        refine wpQuiet_nil ?_
        rintro _ ⟨g, rfl⟩
        have hgB := Lib.hid g.h
        generalize g.x = Y at *
        go_wp2_with (go_at_call 18; (with_reducible refine Calls.mono (kK.out _) ?_); rintro e w6 ⟨rfl, hB6⟩)
        go_ret
        exact ⟨rfl, below_tr hwx.out (below_tr hgB.out hB6)⟩
      · rcases Int.lt_or_le wrong 0 with hw1 | hw1
        · have hne : Hid ((b.gsB ga && b.gsB gb && inB wrong 0 10000000) = false) := Lib.hid (by rw [hg1, hg2, Bool.true_and, Bool.true_and, inB_not]; omega)
          have hT2 := hT.out
          rw [hbad.out hne.out] at hT2
          simp only [Prod.mk.injEq] at hT2
          obtain ⟨rfl, rfl, rfl⟩ := hT2
          have hE2 : Hid (b.err false ≠ 0) := Lib.hid err_false
          have kB1 := Lib.hid (fun gx : Grow V => kB0.out false gx.x (below_tr hi2.out gx.h))
          rw [hg1] at kG0
          rw [hg2] at kH0
          have kG := Lib.hid (fun gx : Grow V => kG0 gx.x (below_tr hi2.out gx.h))
          have kH := Lib.hid (fun gx : Grow V => kH0 gx.x (below_tr hi2.out gx.h))
          clear kG0 kH0 kB0 kR0 kQ0 kU0 hT hbad hne hez
          generalize b.err false = E2 at *
          have hd : decide (E2 = 0) = false := by simpa using hE2.out
          have hd2 : decide (0 ≤ wrong) = false := by simpa using hw1
          go_wp2
          refine wp_region_grow (by kernel_rfl) (by kernel_rfl) ?_
          repeat (go_big_quiet_step ((first | (with_reducible exact Calls.grow (kG.out _)) | (with_reducible exact Calls.grow (kH.out _)) | (with_reducible exact Calls.grow (kB1.out _)))))
          refine wpQuiet_nil ?_
          rintro _ ⟨g, rfl⟩
          have hgB := Lib.hid g.h
          generalize g.x = Y at *
          go_wp2_with (go_at_call 18; (with_reducible refine Calls.mono (kK.out _) ?_); rintro e w6 ⟨rfl, hB6⟩)
          go_ret
          exact ⟨rfl, below_tr hwx.out (below_tr hgB.out hB6)⟩
        · rcases Int.lt_or_le 10000000 wrong with hw2 | hw2
          · have hne : Hid ((b.gsB ga && b.gsB gb && inB wrong 0 10000000) = false) := Lib.hid (by rw [hg1, hg2, Bool.true_and, Bool.true_and, inB_not]; omega)
            have hT2 := hT.out
            rw [hbad.out hne.out] at hT2
            simp only [Prod.mk.injEq] at hT2
            obtain ⟨rfl, rfl, rfl⟩ := hT2
            have hE2 : Hid (b.err false ≠ 0) := Lib.hid err_false
            have kB1 := Lib.hid (fun gx : Grow V => kB0.out false gx.x (below_tr hi2.out gx.h))
            rw [hg1] at kG0
            rw [hg2] at kH0
            have kG := Lib.hid (fun gx : Grow V => kG0 gx.x (below_tr hi2.out gx.h))
            have kH := Lib.hid (fun gx : Grow V => kH0 gx.x (below_tr hi2.out gx.h))
            clear kG0 kH0 kB0 kR0 kQ0 kU0 hT hbad hne hez
            generalize b.err false = E2 at *
            have hd : decide (E2 = 0) = false := by simpa using hE2.out
            have hd2 : decide (0 ≤ wrong) = true := by simpa using hw1
            have hd3 : decide (wrong ≤ 10000000) = false := by simpa using hw2
            go_wp2
            refine wp_region_grow (by kernel_rfl) (by kernel_rfl) ?_
            repeat (go_big_quiet_step ((first | (with_reducible exact Calls.grow (kG.out _)) | (with_reducible exact Calls.grow (kH.out _)) | (with_reducible exact Calls.grow (kB1.out _)))))
            refine wpQuiet_nil ?_
            rintro _ ⟨g, rfl⟩
            have hgB := Lib.hid g.h
            generalize g.x = Y at *
            go_wp2_with (go_at_call 18; (with_reducible refine Calls.mono (kK.out _) ?_); rintro e w6 ⟨rfl, hB6⟩)
            go_ret
            exact ⟨rfl, below_tr hwx.out (below_tr hgB.out hB6)⟩
          · have hwb : inB wrong 0 10000000 = true := by rw [inB_iff]; omega
            have hgg : (b.gsB ga && b.gsB gb) = true := by rw [hg1, hg2]; rfl
            have hd2 : decide (0 ≤ wrong) = true := by simpa using hw1
            have hd3 : decide (wrong ≤ 10000000) = true := by simpa using hw2
            have kB1 := Lib.hid (fun gx : Grow V => kB0.out true gx.x (below_tr hi2.out gx.h))
            have hT2 := hT.out
            rw [hg1] at kG0
            rw [hg2] at kH0
            have kG := Lib.hid (fun gx : Grow V => kG0 gx.x (below_tr hi2.out gx.h))
            have kH := Lib.hid (fun gx : Grow V => kH0 gx.x (below_tr hi2.out gx.h))
            clear kG0 kH0 kB0 hbad hT
            by_cases he : b.err true = 0
            · have h0 := hez.out he
              have ok := Lib.hid (ok_of h0.2.1 h0.1)
              have hyes := tl_yes (g := ga) (h := gb) hgg hwb he
              have hnon := tl_no (g := ga) (h := gb) hgg hwb he
              rw [he] at kB1
              have kR1 := fun X hX => kR0.out ok.out hg1 X hX
              have kQ1 := fun X hX => kQ0.out ok.out hg2 X hX
              have kU1 := fun ag ah X hX => kU0.out ok.out hg1 hg2 ag ah ⟨hw1, hw2⟩ X hX
              clear kR0 kQ0 kU0 h0 hez he
              cases ha : b.agreeB ga
              · rw [ha] at kR1
                have kR := Lib.hid kR1
                rw [hnon (by rw [ha]; rfl)] at hT2
                simp only [Prod.mk.injEq] at hT2
                obtain ⟨rfl, rfl, rfl⟩ := hT2
                clear hyes hnon kR1 kQ1 kU1 ha
                go_wp2
                refine wp_region_grow (by kernel_rfl) (by kernel_rfl) ?_
                repeat (go_big_quiet_step ((first | (with_reducible exact Calls.grow (kG.out _)) | (with_reducible exact Calls.grow (kH.out _)) | (with_reducible exact Calls.grow (kB1.out _)))))
                refine wpQuiet_nil ?_
                rintro _ ⟨g, rfl⟩
                have hgB := Lib.hid g.h
                generalize g.x = Y at *
                obtain ⟨q0, q1, q2⟩ := rc3 (kept_block hgB.out hV0.out)
                have z0 := (Array.getElem?_eq_some_iff.1 (kept_block hgB.out hV0.out)).1
                obtain ⟨g0, g1, g2⟩ := rc3 (kept_block hgB.out hV1.out)
                have z1 := (Array.getElem?_eq_some_iff.1 (kept_block hgB.out hV1.out)).1
                obtain ⟨p0, p1, p2⟩ := rc3 (kept_block hgB.out hV2.out)
                have z2 := (Array.getElem?_eq_some_iff.1 (kept_block hgB.out hV2.out)).1
                go_wp2_with (first
                  | (go_at_call 22; (with_reducible refine Calls.mono (kR.out _ (below_tr hi2.out hgB.out)) ?_); rintro e w5 ⟨rfl, hB5⟩)
                  | (go_at_call 18; (with_reducible refine Calls.mono (kK.out _) ?_); rintro e w6 ⟨rfl, hB6⟩))
                go_ret
                exact ⟨rfl, below_tr hwx.out (below_tr hgB.out (below_tr hB5 hB6))⟩
              · rw [ha] at kR1
                have kR := Lib.hid kR1
                cases hc : b.agreeB gb
                · rw [hc] at kQ1
                  have kQ := Lib.hid kQ1
                  rw [hnon (by rw [ha, hc]; rfl)] at hT2
                  simp only [Prod.mk.injEq] at hT2
                  obtain ⟨rfl, rfl, rfl⟩ := hT2
                  clear hyes hnon kR1 kQ1 kU1 ha hc
                  go_wp2
                  refine wp_region_grow (by kernel_rfl) (by kernel_rfl) ?_
                  repeat (go_big_quiet_step ((first | (with_reducible exact Calls.grow (kG.out _)) | (with_reducible exact Calls.grow (kH.out _)) | (with_reducible exact Calls.grow (kB1.out _)))))
                  refine wpQuiet_nil ?_
                  rintro _ ⟨g, rfl⟩
                  have hgB := Lib.hid g.h
                  generalize g.x = Y at *
                  obtain ⟨q0, q1, q2⟩ := rc3 (kept_block hgB.out hV0.out)
                  have z0 := (Array.getElem?_eq_some_iff.1 (kept_block hgB.out hV0.out)).1
                  obtain ⟨g0, g1, g2⟩ := rc3 (kept_block hgB.out hV1.out)
                  have z1 := (Array.getElem?_eq_some_iff.1 (kept_block hgB.out hV1.out)).1
                  obtain ⟨p0, p1, p2⟩ := rc3 (kept_block hgB.out hV2.out)
                  have z2 := (Array.getElem?_eq_some_iff.1 (kept_block hgB.out hV2.out)).1
                  go_wp2_with (first
                    | (go_at_call 22; (with_reducible refine Calls.mono (kR.out _ (below_tr hi2.out hgB.out)) ?_); rintro e w5 ⟨rfl, hB5⟩; obtain ⟨q0, q1, q2⟩ := rc3 (kept_block (below_tr hgB.out hB5) hV0.out); have z0 := (Array.getElem?_eq_some_iff.1 (kept_block (below_tr hgB.out hB5) hV0.out)).1; obtain ⟨g0, g1, g2⟩ := rc3 (kept_block (below_tr hgB.out hB5) hV1.out); have z1 := (Array.getElem?_eq_some_iff.1 (kept_block (below_tr hgB.out hB5) hV1.out)).1; obtain ⟨p0, p1, p2⟩ := rc3 (kept_block (below_tr hgB.out hB5) hV2.out); have z2 := (Array.getElem?_eq_some_iff.1 (kept_block (below_tr hgB.out hB5) hV2.out)).1)
                    | (go_at_call 22; (with_reducible refine Calls.mono (kQ.out _ (below_tr hi2.out (below_tr hgB.out hB5))) ?_); rintro e w7 ⟨rfl, hB7⟩)
                    | (go_at_call 18; (with_reducible refine Calls.mono (kK.out _) ?_); rintro e w6 ⟨rfl, hB6⟩))
                  go_ret
                  exact ⟨rfl, below_tr hwx.out (below_tr hgB.out (below_tr hB5 (below_tr hB7 hB6)))⟩
                · rw [hc] at kQ1
                  have kQ := Lib.hid kQ1
                  have kU2 := kU1 ha hc
                  rw [hyes (by rw [ha, hc]; rfl)] at hT2
                  unfold Bk.rtR at kU2
                  cases hf : b.tellD ga gb wrong with
                  | none =>
                    rw [hf] at hT2 kU2
                    simp only [Prod.mk.injEq] at hT2
                    obtain ⟨rfl, rfl, rfl⟩ := hT2
                    have kU := Lib.hid kU2
                    clear hyes hnon kR1 kQ1 kU1 kU2 ha hc hf
                    go_wp2
                    refine wp_region_grow (by kernel_rfl) (by kernel_rfl) ?_
                    repeat (go_big_quiet_step ((first | (with_reducible exact Calls.grow (kG.out _)) | (with_reducible exact Calls.grow (kH.out _)) | (with_reducible exact Calls.grow (kB1.out _)))))
                    refine wpQuiet_nil ?_
                    rintro _ ⟨g, rfl⟩
                    have hgB := Lib.hid g.h
                    generalize g.x = Y at *
                    obtain ⟨q0, q1, q2⟩ := rc3 (kept_block hgB.out hV0.out)
                    have z0 := (Array.getElem?_eq_some_iff.1 (kept_block hgB.out hV0.out)).1
                    obtain ⟨g0, g1, g2⟩ := rc3 (kept_block hgB.out hV1.out)
                    have z1 := (Array.getElem?_eq_some_iff.1 (kept_block hgB.out hV1.out)).1
                    obtain ⟨p0, p1, p2⟩ := rc3 (kept_block hgB.out hV2.out)
                    have z2 := (Array.getElem?_eq_some_iff.1 (kept_block hgB.out hV2.out)).1
                    go_wp2_with (first
                      | (go_at_call 22; (with_reducible refine Calls.mono (kR.out _ (below_tr hi2.out hgB.out)) ?_); rintro e w5 ⟨rfl, hB5⟩; obtain ⟨q0, q1, q2⟩ := rc3 (kept_block (below_tr hgB.out hB5) hV0.out); have z0 := (Array.getElem?_eq_some_iff.1 (kept_block (below_tr hgB.out hB5) hV0.out)).1; obtain ⟨g0, g1, g2⟩ := rc3 (kept_block (below_tr hgB.out hB5) hV1.out); have z1 := (Array.getElem?_eq_some_iff.1 (kept_block (below_tr hgB.out hB5) hV1.out)).1; obtain ⟨p0, p1, p2⟩ := rc3 (kept_block (below_tr hgB.out hB5) hV2.out); have z2 := (Array.getElem?_eq_some_iff.1 (kept_block (below_tr hgB.out hB5) hV2.out)).1)
                      | (go_at_call 22; (with_reducible refine Calls.mono (kQ.out _ (below_tr hi2.out (below_tr hgB.out hB5))) ?_); rintro e w7 ⟨rfl, hB7⟩; obtain ⟨q0, q1, q2⟩ := rc3 (kept_block (below_tr hgB.out (below_tr hB5 hB7)) hV0.out); have z0 := (Array.getElem?_eq_some_iff.1 (kept_block (below_tr hgB.out (below_tr hB5 hB7)) hV0.out)).1; obtain ⟨g0, g1, g2⟩ := rc3 (kept_block (below_tr hgB.out (below_tr hB5 hB7)) hV1.out); have z1 := (Array.getElem?_eq_some_iff.1 (kept_block (below_tr hgB.out (below_tr hB5 hB7)) hV1.out)).1; obtain ⟨p0, p1, p2⟩ := rc3 (kept_block (below_tr hgB.out (below_tr hB5 hB7)) hV2.out); have z2 := (Array.getElem?_eq_some_iff.1 (kept_block (below_tr hgB.out (below_tr hB5 hB7)) hV2.out)).1)
                      | (go_at_call 32; (with_reducible refine Calls.mono (kU.out _ (below_tr hi2.out (below_tr hgB.out (below_tr hB5 hB7)))) ?_); rintro e w8 ⟨rfl, hB8⟩)
                      | (go_at_call 18; (with_reducible refine Calls.mono (kK.out _) ?_); rintro e w6 ⟨rfl, hB6⟩))
                    go_ret
                    exact ⟨rfl, below_tr hwx.out (below_tr hgB.out (below_tr hB5 (below_tr hB7 (below_tr hB8 hB6))))⟩
                  | some p =>
                    rw [hf] at hT2 kU2
                    obtain ⟨pd, pz⟩ := p
                    simp only [Prod.mk.injEq] at hT2
                    obtain ⟨rfl, rfl, rfl⟩ := hT2
                    have kU := Lib.hid kU2
                    clear hyes hnon kR1 kQ1 kU1 kU2 ha hc hf
                    go_wp2
                    refine wp_region_grow (by kernel_rfl) (by kernel_rfl) ?_
                    repeat (go_big_quiet_step ((first | (with_reducible exact Calls.grow (kG.out _)) | (with_reducible exact Calls.grow (kH.out _)) | (with_reducible exact Calls.grow (kB1.out _)))))
                    refine wpQuiet_nil ?_
                    rintro _ ⟨g, rfl⟩
                    have hgB := Lib.hid g.h
                    generalize g.x = Y at *
                    obtain ⟨q0, q1, q2⟩ := rc3 (kept_block hgB.out hV0.out)
                    have z0 := (Array.getElem?_eq_some_iff.1 (kept_block hgB.out hV0.out)).1
                    obtain ⟨g0, g1, g2⟩ := rc3 (kept_block hgB.out hV1.out)
                    have z1 := (Array.getElem?_eq_some_iff.1 (kept_block hgB.out hV1.out)).1
                    obtain ⟨p0, p1, p2⟩ := rc3 (kept_block hgB.out hV2.out)
                    have z2 := (Array.getElem?_eq_some_iff.1 (kept_block hgB.out hV2.out)).1
                    go_wp2_with (first
                      | (go_at_call 22; (with_reducible refine Calls.mono (kR.out _ (below_tr hi2.out hgB.out)) ?_); rintro e w5 ⟨rfl, hB5⟩; obtain ⟨q0, q1, q2⟩ := rc3 (kept_block (below_tr hgB.out hB5) hV0.out); have z0 := (Array.getElem?_eq_some_iff.1 (kept_block (below_tr hgB.out hB5) hV0.out)).1; obtain ⟨g0, g1, g2⟩ := rc3 (kept_block (below_tr hgB.out hB5) hV1.out); have z1 := (Array.getElem?_eq_some_iff.1 (kept_block (below_tr hgB.out hB5) hV1.out)).1; obtain ⟨p0, p1, p2⟩ := rc3 (kept_block (below_tr hgB.out hB5) hV2.out); have z2 := (Array.getElem?_eq_some_iff.1 (kept_block (below_tr hgB.out hB5) hV2.out)).1)
                      | (go_at_call 22; (with_reducible refine Calls.mono (kQ.out _ (below_tr hi2.out (below_tr hgB.out hB5))) ?_); rintro e w7 ⟨rfl, hB7⟩; obtain ⟨q0, q1, q2⟩ := rc3 (kept_block (below_tr hgB.out (below_tr hB5 hB7)) hV0.out); have z0 := (Array.getElem?_eq_some_iff.1 (kept_block (below_tr hgB.out (below_tr hB5 hB7)) hV0.out)).1; obtain ⟨g0, g1, g2⟩ := rc3 (kept_block (below_tr hgB.out (below_tr hB5 hB7)) hV1.out); have z1 := (Array.getElem?_eq_some_iff.1 (kept_block (below_tr hgB.out (below_tr hB5 hB7)) hV1.out)).1; obtain ⟨p0, p1, p2⟩ := rc3 (kept_block (below_tr hgB.out (below_tr hB5 hB7)) hV2.out); have z2 := (Array.getElem?_eq_some_iff.1 (kept_block (below_tr hgB.out (below_tr hB5 hB7)) hV2.out)).1)
                      | (go_at_call 32; (with_reducible refine Calls.mono (kU.out _ (below_tr hi2.out (below_tr hgB.out (below_tr hB5 hB7)))) ?_); rintro e w8 ⟨rfl, hB8⟩)
                      | (go_at_call 18; (with_reducible refine Calls.mono (kK.out _) ?_); rintro e w6 ⟨rfl, hB6⟩))
                    go_ret
                    exact ⟨rfl, below_tr hwx.out (below_tr hgB.out (below_tr hB5 (below_tr hB7 (below_tr hB8 hB6))))⟩
            · rw [tl_err hgg he] at hT2
              simp only [Prod.mk.injEq] at hT2
              obtain ⟨rfl, rfl, rfl⟩ := hT2
              clear kR0 kQ0 kU0 hez
              generalize b.err true = E2 at *
              have hd : decide (E2 = 0) = false := by simpa using he
              go_wp2
              refine wp_region_grow (by kernel_rfl) (by kernel_rfl) ?_
              repeat (go_big_quiet_step ((first | (with_reducible exact Calls.grow (kG.out _)) | (with_reducible exact Calls.grow (kH.out _)) | (with_reducible exact Calls.grow (kB1.out _)))))
              refine wpQuiet_nil ?_
              rintro _ ⟨g, rfl⟩
              have hgB := Lib.hid g.h
              generalize g.x = Y at *
              obtain ⟨q0, q1, q2⟩ := rc3 (kept_block hgB.out hV0.out)
              have z0 := (Array.getElem?_eq_some_iff.1 (kept_block hgB.out hV0.out)).1
              obtain ⟨g0, g1, g2⟩ := rc3 (kept_block hgB.out hV1.out)
              have z1 := (Array.getElem?_eq_some_iff.1 (kept_block hgB.out hV1.out)).1
              obtain ⟨p0, p1, p2⟩ := rc3 (kept_block hgB.out hV2.out)
              have z2 := (Array.getElem?_eq_some_iff.1 (kept_block hgB.out hV2.out)).1
              go_wp2_with (go_at_call 18; (with_reducible refine Calls.mono (kK.out _) ?_); rintro e w6 ⟨rfl, hB6⟩)
              go_ret
              exact ⟨rfl, below_tr hwx.out (below_tr hgB.out hB6)⟩
end Go.Proofs.Ytddmfkhmhdddeaa
