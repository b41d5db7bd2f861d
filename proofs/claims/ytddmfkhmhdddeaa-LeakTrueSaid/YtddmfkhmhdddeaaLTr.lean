/- Walks: the law LeakTrue. -/
import Derived.Test.YtddmfkhmhdddeaaTru
import Derived.Test.YtddmfkhmhdddeaaKno
import Derived.Test.YtddmfkhmhdddeaaBok
import Derived.Deep.Cut
set_option linter.unusedVariables false
set_option linter.unusedSimpArgs false
namespace Go.Proofs.Ytddmfkhmhdddeaa
open Go.RowKit Go.Sd Lk

/-- What Bounds tells, in one form. -/
theorem boundsForm0 (fv wv rv : Value) (b : Bk) (g : Gs) (w : World) (hb : BookAt w fv wv rv b) :
    Calls Try.prog 19 #[bkV fv wv rv, gsV g] w fun e w' => ∃ a n c E, e = .returned (.tuple #[.slice a n c, .int .i64 E]) ∧ Below w.heap.size w w' ∧
      Hid ((b.err (b.gsB g) ≠ 0 ∧ n = 0 ∧ E = b.err (b.gsB g)) ∨ (b.err (b.gsB g) = 0 ∧ b.agreeB g = false ∧ n = 0 ∧ E = 5) ∨ (b.err (b.gsB g) = 0 ∧ b.agreeB g = true ∧ E = 0 ∧ SpRowsAt w' (.slice a n c) (b.bounds g))) :=
  (progBounds fv wv rv b g w hb).mono (by
    rintro e w' ⟨hB, ⟨h, rfl⟩ | ⟨h, h2, rfl⟩ | ⟨h, h2, v, rfl, hv⟩⟩
    · exact ⟨_, _, _, _, rfl, hB, Lib.hid (.inl ⟨h, rfl, rfl⟩)⟩
    · exact ⟨_, _, _, _, rfl, hB, Lib.hid (.inr (.inl ⟨h, h2, rfl, rfl⟩))⟩
    · have hv0 := hv
      obtain ⟨a, c, rfl, -, -⟩ := hv.form
      exact ⟨_, _, _, _, rfl, hB, Lib.hid (.inr (.inr ⟨h, h2, rfl, hv0⟩))⟩)

/-- What Suspects tells of a book without an error. -/
theorem susForm0 (fv wv rv : Value) (b : Bk) (w : World) (hb : BookAt w fv wv rv b) :
    Calls Try.prog 33 #[bkV fv wv rv] w fun e w' => ∃ a n c, e = .returned (.tuple #[.slice a n c, .int .i64 (b.err true)]) ∧ Below w.heap.size w w' ∧
      Hid ((b.err true ≠ 0 ∧ n = 0) ∨ (b.err true = 0 ∧ SusAt w' (.slice a n c) b.susL)) :=
  (progSuspects fv wv rv b w hb).mono (by
    rintro e w' ⟨hB, ⟨h, rfl⟩ | ⟨h, a, c, rfl, hv⟩⟩
    · exact ⟨_, _, _, rfl, hB, Lib.hid (.inl ⟨h, rfl⟩)⟩
    · exact ⟨_, _, _, by rw [h], hB, Lib.hid (.inr ⟨h, hv⟩)⟩)

set_option maxRecDepth 100000 in
set_option maxHeartbeats 4000000 in
theorem lawTruths (fv wv rv : Value) (b : Bk) (ga : Gs) (xv : Value) (xs : List Int) (yv : Value) (ys : List (List Int)) (w : World) (hb : BookAt w fv wv rv b) (hx : IntsAt w xv xs) (hy : ListsAt w yv ys) :
    Calls Try.prog 8 #[bkV fv wv rv, gsV ga, xv, yv] w fun e w' => e = .returned (.bool true) ∧ Below w.heap.size w w' := by
  have kK := Lib.hid (fun X => progKnown X)
  obtain ⟨W, hW⟩ : ∃ W, (w.alloc (bkA fv wv rv)).alloc (gsO ga) = W := ⟨_, rfl⟩
  obtain ⟨e0, e1, s1, B1⟩ := two_new hW
  have hbW := hb.mono B1
  have hxW := hx.mono B1
  have hyW := hy.mono B1
  have kS0 := fun X (h : Below W.heap.size W X) => lawShort fv wv rv b X (hbW.mono h)
  have kI0 := fun X (h : Below W.heap.size W X) => lawSlim xv yv xs ys X (hxW.mono h) (hyW.mono h)
  have kG0 := fun X (h : Below W.heap.size W X) => (refGuess fv wv rv b ga X (hbW.mono h)).mono (fun e w' (h : BoolB _ _ e w') => h.lit rfl)
  have kB0 := fun X (h : Below W.heap.size W X) => lawBooked fv wv rv b (b.gsB ga) X (hbW.mono h)
  have kT0 := fun (ok : Ok b) X (h : Below W.heap.size W X) => refTruth fv wv rv xv yv b xs ys X (hbW.mono h) ok (hxW.mono h) (hyW.mono h)
  have hez := Lib.hid (err_zero (b := b) (f := b.gsB ga))
  have hxH := Lib.hid hxW
  have hyH := Lib.hid hyW
  have hbH := Lib.hid hbW
  obtain ⟨fa, fc, rfl, hfm, -⟩ := hb.first.form
  obtain ⟨wa, wc, rfl, hwm, -⟩ := hb.flows.form
  obtain ⟨ra, rc, rfl, hrm, -⟩ := hb.reads.form
  obtain ⟨xa, xc, rfl, hxm, -⟩ := hx.form
  obtain ⟨ya, yc, rfl, hym, -⟩ := hy.form
  obtain ⟨q0, q1, q2⟩ := rc3 e0
  obtain ⟨g0, g1, g2⟩ := rc3 e1
  have z0 := (Array.getElem?_eq_some_iff.1 e0).1
  have z1 := (Array.getElem?_eq_some_iff.1 e1).1
  have hwB := Lib.hid B1
  have he0 := Lib.hid e0
  have he1 := Lib.hid e1
  have hgW := grow_cell W
  clear hb hx hy hbW hxW hyW e0 e1 s1 B1
  have up : ∀ {P : World → Prop}, (∀ X, Below W.heap.size W X → P X) → Hid (∀ g : Grow W, P g.x) := fun h => Lib.hid fun g => h g.x g.h
  cases hs : b.shortB
  · simp only [hs] at kS0
    have kS := Lib.hid (fun g : Grow W => kS0 g.x g.h)
    clear kS0 kI0 kB0 kG0 kT0 hez hs up
    go_enter Try.func8, Try.ntmps8
    go_wp2
    refine wp_region_grow (by kernel_rfl) (by kernel_rfl) ?_
    repeat (go_big_quiet_step ((first | (with_reducible exact Calls.grow (kS.out _)))))
    refine wpQuiet_nil ?_
    rintro _ ⟨g, rfl⟩
    have hgB := Lib.hid g.h
    generalize g.x = Y at *
    go_wp2_with (go_at_call 18; (with_reducible refine Calls.mono (kK.out _) ?_); rintro e w3 ⟨rfl, hB3⟩)
    go_ret
    exact ⟨rfl, below_tr hwB.out (below_tr hgB.out hB3)⟩
  · simp only [hs] at kS0
    have kS := Lib.hid (fun g : Grow W => kS0 g.x g.h)
    clear kS0 hs up
    cases hl : slimB xs ys
    · simp only [hl] at kI0
      have kI := Lib.hid (fun g : Grow W => kI0 g.x g.h)
      clear kI0 kB0 kG0 kT0 hez hl
      go_enter Try.func8, Try.ntmps8
      go_wp2
      refine wp_region_grow (by kernel_rfl) (by kernel_rfl) ?_
      repeat (go_big_quiet_step ((first | (with_reducible exact Calls.grow (kS.out _)) | (with_reducible exact Calls.grow (kI.out _)))))
      refine wpQuiet_nil ?_
      rintro _ ⟨g, rfl⟩
      have hgB := Lib.hid g.h
      generalize g.x = Y at *
      go_wp2_with (go_at_call 18; (with_reducible refine Calls.mono (kK.out _) ?_); rintro e w3 ⟨rfl, hB3⟩)
      go_ret
      exact ⟨rfl, below_tr hwB.out (below_tr hgB.out hB3)⟩
    · simp only [hl] at kI0
      have kI := Lib.hid (fun g : Grow W => kI0 g.x g.h)
      have kG := Lib.hid (fun g : Grow W => kG0 g.x g.h)
      have kB := Lib.hid (fun g : Grow W => kB0 g.x g.h)
      clear kI0 kB0 kG0
      by_cases hE : b.err (b.gsB ga) = 0
      · rw [hE] at kB
        have h0 := hez.out hE
        have ok := Lib.hid (ok_of h0.2.1 h0.1)
        have hgs := Lib.hid h0.2.2
        have hgsT := Lib.hid h0.2.2
        have herr : Hid (b.err true = 0) := Lib.hid (by rw [← hE, h0.2.2])
        have kT1 := kT0 ok.out
        clear hez h0 hE kT0
        cases ht : b.truthB xs ys
        · simp only [ht] at kT1
          have kT := Lib.hid (fun g : Grow W => kT1 g.x g.h)
          clear kT1 ht
          generalize b.gsB ga = G at *
          go_enter Try.func8, Try.ntmps8
          go_wp2
          refine wp_region_grow (by kernel_rfl) (by kernel_rfl) ?_
          repeat (go_big_quiet_step ((first | (with_reducible exact Calls.grow (kS.out _)) | (with_reducible exact Calls.grow (kI.out _)) | (with_reducible exact Calls.grow (kG.out _)) | (with_reducible exact Calls.grow (kB.out _)) | (with_reducible exact Calls.grow (kT.out _)))))
          refine wpQuiet_nil ?_
          rintro _ ⟨g, rfl⟩
          have hgB := Lib.hid g.h
          generalize g.x = Y at *
          go_wp2_with (go_at_call 18; (with_reducible refine Calls.mono (kK.out _) ?_); rintro e w3 ⟨rfl, hB3⟩)
          go_ret
          exact ⟨rfl, below_tr hwB.out (below_tr hgB.out hB3)⟩
        · simp only [ht] at kT1
          have kT := Lib.hid (fun g : Grow W => kT1 g.x g.h)
          have htr := Lib.hid ht
          clear kT1 ht
          obtain ⟨hl1, hl2, hl3, hl4⟩ := truthB_iff htr.out
          have hnd := ok.out.nd
          have hnz := ok.out.nz
          have kC0 := fun X (h : Below W.heap.size W X) => refContents ga _ _ xs ys X (hxH.out.mono h) (hyH.out.mono h) ⟨by omega, by omega⟩ (by omega) (fun d hd => (hl4 d hd).1)
            (fun i d hi hd => by have := conN_bd ok.out hgs.out htr.out (i := i) (by omega) d hd; omega)
            (fun d i hd hi => by have a := (hl4 d hd).2 i hi; have f := ok.out.flows d i (by omega) (by omega); unfold Bk.flowAt at a; omega)
            (by
              have hg := hgs.out
              simp only [Bk.gsB, Bool.or_eq_true, decide_eq_true_eq, Bool.and_eq_true, inB_iff] at hg
              rcases hg with rfl | hg
              · simp [noGs]
              · omega)
          have kH0 := fun cv X (h : Below W.heap.size W X) (hc : ListsAt X cv (conL ga xs ys ys.length)) => refHolds _ _ _ cv b (conL ga xs ys ys.length) X (hbH.out.mono h) ok.out hc (by rw [conL_len]; omega) (fun d hd => by rw [conL_len] at hd; rw [conL_at hd, rowC_len]; omega)
          have kA0 := fun g X (h : Below W.heap.size W X) => progAgree _ _ _ b g X (hbH.out.mono h)
          unfold AgreePost at kA0
          have kA1 := kA0 ga
          have kN1 := kA0 noGs
          rw [hgs.out, herr.out] at kA1
          rw [agr_none, herr.out] at kN1
          simp only [decide_true, Bool.true_and] at kA1 kN1
          have kL0 := fun X (h : Below W.heap.size W X) => boundsForm0 _ _ _ b ga X (hbH.out.mono h)
          rw [hgs.out, herr.out] at kL0
          have kU0 := fun X (h : Below W.heap.size W X) => susForm0 _ _ _ b X (hbH.out.mono h)
          rw [herr.out] at kU0
          have kD0 := fun X (h : Below W.heap.size W X) => progCertain _ _ _ b X (hbH.out.mono h)
          unfold CertPost at kD0
          rw [herr.out] at kD0
          simp only [decide_true, Bool.true_and] at kD0
          have kC := Lib.hid kC0
          clear kC0 kA0
          obtain ⟨G, hGe⟩ : ∃ G, b.gsB ga = G := ⟨_, rfl⟩
          rw [hGe] at kG kB
          clear hGe
          cases hho : b.holdsB (conL ga xs ys ys.length)
          · simp only [hho] at kH0
            have kH := Lib.hid kH0
            clear kH0 kA1 kN1 kL0 kU0 kD0 hho hl3 hl4 hgs
            replace hl1 := Lib.hid hl1
            replace hl2 := Lib.hid hl2
            go_enter Try.func8, Try.ntmps8
            go_wp2
            refine wp_region_grow (by kernel_rfl) (by kernel_rfl) ?_
            repeat (go_big_quiet_step ((first | (with_reducible exact Calls.grow (kS.out _)) | (with_reducible exact Calls.grow (kI.out _)) | (with_reducible exact Calls.grow (kG.out _)) | (with_reducible exact Calls.grow (kB.out _)) | (with_reducible exact Calls.grow (kT.out _)))))
            refine wpQuiet_nil ?_
            rintro _ ⟨g, rfl⟩
            have hgB := Lib.hid g.h
            generalize g.x = Y at *
            obtain ⟨q0, q1, q2⟩ := rc3 (kept_block hgB.out he0.out)
            obtain ⟨g0, g1, g2⟩ := rc3 (kept_block hgB.out he1.out)
            have z0 := (Array.getElem?_eq_some_iff.1 (kept_block hgB.out he0.out)).1
            have z1 := (Array.getElem?_eq_some_iff.1 (kept_block hgB.out he1.out)).1
            go_wp2_with (first
              | (go_at_call 37; (with_reducible refine Calls.mono (kC.out _ hgB.out) ?_); rintro e w2 ⟨hB, cv, rfl, hcv⟩; have h2 := below_tr hgB.out hB; obtain ⟨q0, q1, q2⟩ := rc3 (kept_block h2 he0.out); have z0 := (Array.getElem?_eq_some_iff.1 (kept_block h2 he0.out)).1)
              | (go_at_call 38; (with_reducible refine Calls.mono (kH.out _ _ h2 hcv) ?_); rintro e w4 ⟨rfl, hB4⟩)
              | (go_at_call 18; (with_reducible refine Calls.mono (kK.out _) ?_); rintro e w3 ⟨rfl, hB3⟩))
            go_ret
            exact ⟨rfl, below_tr hwB.out (below_tr h2 (below_tr hB4 hB3))⟩
          · simp only [hho] at kH0
            have kH := Lib.hid kH0
            have hag := true_agree ok.out htr.out hho
            have hce := agree_cert ok.out (g := ga) hgsT.out hag
            have hbn := Lib.hid (fun z d hz hd => true_bnd ok.out htr.out hho (z := z) (d := d) hz hd)
            have hsu := Lib.hid (fun hz => agree_sus ok.out (g := ga) hgsT.out hz hag)
            rw [hag] at kA1
            rw [hce] at kD0
            have hcl := conL_len (g := ga) (xs := xs) (ys := ys) (d := ys.length)
            have kC2 : Hid (∀ X, Below W.heap.size W X → Calls Try.prog 37 _ X fun e w' => ∃ ca cc, e = .returned (.slice ca ys.length cc) ∧ Below X.heap.size X w' ∧ ListsAt w' (.slice ca ys.length cc) (conL ga xs ys ys.length)) := Lib.hid fun X h => (kC.out X h).mono (by
              rintro e w' ⟨hB, v, rfl, hv⟩
              have hv0 := hv
              obtain ⟨ca, cc, rfl, -, -⟩ := hv.form
              rw [hcl] at hv0 ⊢
              exact ⟨ca, cc, rfl, hB, hv0⟩)
            have kL2 : Hid (∀ X, Below W.heap.size W X → Calls Try.prog 19 _ X fun e w' => ∃ ca cc, e = .returned (.tuple #[.slice ca ys.length cc, .int .i64 0]) ∧ Below X.heap.size X w' ∧ SpRowsAt w' (.slice ca ys.length cc) (b.bounds ga)) := Lib.hid fun X h => (kL0 X h).mono (by
              rintro e w' ⟨a, n, c, E, rfl, hB, hor⟩
              rcases hor.out with ⟨h', -⟩ | ⟨-, h', -⟩ | ⟨-, -, rfl, hv⟩
              · exact absurd rfl h'
              · rw [hag] at h'; cases h'
              · have hn : n = ys.length := by
                  obtain ⟨a', c', e', -, -⟩ := hv.form
                  rw [bounds_len] at e'
                  cases e'; omega
                subst hn
                exact ⟨_, _, rfl, hB, hv⟩)
            have kU2 : Hid (∀ X, Below W.heap.size W X → Calls Try.prog 33 _ X fun e w' => ∃ ca cc, e = .returned (.tuple #[.slice ca b.susL.length cc, .int .i64 0]) ∧ Below X.heap.size X w' ∧ SusAt w' (.slice ca b.susL.length cc) b.susL) := Lib.hid fun X h => (kU0 X h).mono (by
              rintro e w' ⟨a, n, c, rfl, hB, hor⟩
              rcases hor.out with ⟨h', -⟩ | ⟨-, hv⟩
              · exact absurd rfl h'
              · have hn : n = b.susL.length := by
                  obtain ⟨a', c', e', -, -⟩ := hv.form
                  cases e'; rfl
                subst hn
                exact ⟨_, _, rfl, hB, hv⟩)
            have kA := Lib.hid kA1
            have kN := Lib.hid kN1
            have kD := Lib.hid kD0
            clear kH0 kA1 kN1 kL0 kU0 kD0 hho hl3 hl4 hag hce hcl kC
            replace hl1 := Lib.hid hl1
            replace hl2 := Lib.hid hl2
            generalize b.agreeB noGs = N at *
            go_enter Try.func8, Try.ntmps8
            go_wp2
            refine wp_region_grow (by kernel_rfl) (by kernel_rfl) ?_
            repeat (go_big_quiet_step ((first | (with_reducible exact Calls.grow (kS.out _)) | (with_reducible exact Calls.grow (kI.out _)) | (with_reducible exact Calls.grow (kG.out _)) | (with_reducible exact Calls.grow (kB.out _)) | (with_reducible exact Calls.grow (kT.out _)))))
            refine wpQuiet_nil ?_
            rintro _ ⟨g, rfl⟩
            have hgB := Lib.hid g.h
            generalize g.x = Y at *
            clear kS kI kG kB kT hgW
            obtain ⟨q0, q1, q2⟩ := rc3 (kept_block hgB.out he0.out)
            obtain ⟨g0, g1, g2⟩ := rc3 (kept_block hgB.out he1.out)
            have z0 := (Array.getElem?_eq_some_iff.1 (kept_block hgB.out he0.out)).1
            have z1 := (Array.getElem?_eq_some_iff.1 (kept_block hgB.out he1.out)).1
            go_upto_region 10 with (first
              | (go_at_call 37; (with_reducible refine Calls.mono (kC2.out _ hgB.out) ?_); rintro e w2 ⟨ca, cc, rfl, hB, hcv⟩; have h2 := below_tr hgB.out hB; obtain ⟨q0, q1, q2⟩ := rc3 (kept_block h2 he0.out); have z0 := (Array.getElem?_eq_some_iff.1 (kept_block h2 he0.out)).1; obtain ⟨g0, g1, g2⟩ := rc3 (kept_block h2 he1.out); have z1 := (Array.getElem?_eq_some_iff.1 (kept_block h2 he1.out)).1)
              | (go_at_call 38; (with_reducible refine Calls.mono (kH.out _ _ h2 hcv) ?_); rintro e w3 ⟨rfl, hB3⟩; have h3 := below_tr h2 hB3; obtain ⟨q0, q1, q2⟩ := rc3 (kept_block h3 he0.out); have z0 := (Array.getElem?_eq_some_iff.1 (kept_block h3 he0.out)).1; obtain ⟨g0, g1, g2⟩ := rc3 (kept_block h3 he1.out); have z1 := (Array.getElem?_eq_some_iff.1 (kept_block h3 he1.out)).1)
              | (go_at_call 39; (with_reducible refine Calls.mono (kA.out _ h3) ?_); rintro e w4 ⟨rfl, hB4⟩; have h4 := below_tr h3 hB4; obtain ⟨q0, q1, q2⟩ := rc3 (kept_block h4 he0.out); have z0 := (Array.getElem?_eq_some_iff.1 (kept_block h4 he0.out)).1; obtain ⟨g0, g1, g2⟩ := rc3 (kept_block h4 he1.out); have z1 := (Array.getElem?_eq_some_iff.1 (kept_block h4 he1.out)).1)
              | (go_at_call 19; (with_reducible refine Calls.mono (kL2.out _ h4) ?_); rintro e w5 ⟨la, lc, rfl, hB5, hlv⟩; have h5 := below_tr h4 hB5; obtain ⟨q0, q1, q2⟩ := rc3 (kept_block h5 he0.out); have z0 := (Array.getElem?_eq_some_iff.1 (kept_block h5 he0.out)).1; obtain ⟨g0, g1, g2⟩ := rc3 (kept_block h5 he1.out); have z1 := (Array.getElem?_eq_some_iff.1 (kept_block h5 he1.out)).1)
              | (go_at_call 33; (with_reducible refine Calls.mono (kU2.out _ h5) ?_); rintro e w6 ⟨sa, sc, rfl, hB6, hsv⟩; have h6 := below_tr h5 hB6; obtain ⟨q0, q1, q2⟩ := rc3 (kept_block h6 he0.out); have z0 := (Array.getElem?_eq_some_iff.1 (kept_block h6 he0.out)).1; obtain ⟨g0, g1, g2⟩ := rc3 (kept_block h6 he1.out); have z1 := (Array.getElem?_eq_some_iff.1 (kept_block h6 he1.out)).1)
              | (go_at_call 34; (with_reducible refine Calls.mono (kD.out _ h6) ?_); rintro e w7 ⟨rfl, hB7⟩; have h7 := below_tr h6 hB7))
            have hcv7 := Lib.hid (hcv.mono (below_tr hB3 (below_tr hB4 (below_tr hB5 (below_tr hB6 hB7)))))
            have hlv7 := Lib.hid (hlv.mono (below_tr hB6 hB7))
            have hsv7 := Lib.hid (hsv.mono hB7)
            have hi7 := Lib.hid h7
            clear h2 h3 h4 h5 h6 h7 hB hB3 hB4 hB5 hB6 hB7 hcv hlv hsv kH kA kD kC2 kL2 kU2 q0 q1 q2 g0 g1 g2 z0 z1
            refine plain_region (by kernel_rfl) (any_region_locN 6 236 [5] [81, 82, 83, 80, 84, 85] [[], [], [0, 1], [2], [3], [3]] [IsV (bkV (.slice fa b.first.length fc) (.slice wa b.flows.length wc) (.slice ra b.reads.length rc)), IsV (gsV noGs), IsV (.tuple #[.bool N, .int .i64 0]), IsV (.tuple #[.bool N, .int .i64 0]), IsV (.bool N), IsV (.int .i64 0)] [] (by kernel_rfl) (by kernel_rfl) (by kernel_rfl) (by kernel_rfl) (by kernel_rfl) rfl OnlyN.panic ?_ ?_ ?_ ?_ ?_)
            · exact List.forall_mem_cons.2 ⟨pers_v _, List.forall_mem_cons.2 ⟨pers_v _, List.forall_mem_cons.2 ⟨pers_v _, List.forall_mem_cons.2 ⟨pers_v _, List.forall_mem_cons.2 ⟨pers_v _, List.forall_mem_cons.2 ⟨pers_v _, fun f h => nomatch h⟩⟩⟩⟩⟩⟩
            · intro k hk; cases hk
            · refine ⟨?_, ?_, ?_, ?_, ?_, ?_, trivial⟩
              · intro vals x hb hf
                simp only [fillS, List.getD_cons_succ, List.getD_cons_zero, Act.put, List.setIfInBounds_toArray, List.set_cons_zero, List.set_cons_succ]
                clear hf
                have hWx := below_tr hi7.out hb
                obtain ⟨p0, p1, p2⟩ := rc3 (kept_block hWx he0.out)
                have zw := (Array.getElem?_eq_some_iff.1 (kept_block hWx he0.out)).1
                go_wp2
                exact ⟨rfl, rfl, Below.refl _ _, _, rfl, rfl, (fun h => absurd h (by decide))⟩
              · intro vals x hb hf
                simp only [fillS, List.getD_cons_succ, List.getD_cons_zero, Act.put, List.setIfInBounds_toArray, List.set_cons_zero, List.set_cons_succ]
                clear hf
                have hWx := below_tr hi7.out hb
                obtain ⟨p0, p1, p2⟩ := rc3 (kept_block hWx he0.out)
                have zw := (Array.getElem?_eq_some_iff.1 (kept_block hWx he0.out)).1
                go_wp2_with (go_at_call 40; (with_reducible refine Calls.mono (refNone x) ?_); rintro e y ⟨rfl, hB⟩)
                exact ⟨rfl, rfl, hB, _, rfl, rfl, (fun h => absurd h (by decide))⟩
              · intro vals x hb hf
                simp only [fillS, List.getD_cons_succ, List.getD_cons_zero, Act.put, List.setIfInBounds_toArray, List.set_cons_zero, List.set_cons_succ]
                have h0 : vals 0 = bkV (.slice fa b.first.length fc) (.slice wa b.flows.length wc) (.slice ra b.reads.length rc) := hf.1
                rw [h0]
                clear h0
                have f1 : (IsV (gsV noGs)) (vals 1) x := hf.2.1
                clear hf
                have hWx := below_tr hi7.out hb
                obtain ⟨p0, p1, p2⟩ := rc3 (kept_block hWx he0.out)
                have zw := (Array.getElem?_eq_some_iff.1 (kept_block hWx he0.out)).1
                rw [show vals 1 = gsV noGs from f1]
                go_wp2_with (go_at_call 39; (with_reducible refine Calls.mono (kN.out x hWx) ?_); rintro e y ⟨rfl, hB⟩)
                exact ⟨rfl, rfl, hB, _, rfl, rfl, (fun h => absurd h (by decide))⟩
              · intro vals x hb hf
                simp only [fillS, List.getD_cons_succ, List.getD_cons_zero, Act.put, List.setIfInBounds_toArray, List.set_cons_zero, List.set_cons_succ]
                have f2 : (IsV (.tuple #[.bool N, .int .i64 0])) (vals 2) x := hf.1
                clear hf
                have hWx := below_tr hi7.out hb
                obtain ⟨p0, p1, p2⟩ := rc3 (kept_block hWx he0.out)
                have zw := (Array.getElem?_eq_some_iff.1 (kept_block hWx he0.out)).1
                rw [show vals 2 = .tuple #[.bool N, .int .i64 0] from f2]
                go_wp2
                exact ⟨rfl, rfl, Below.refl _ _, _, rfl, rfl, (fun h => absurd h (by decide))⟩
              · intro vals x hb hf
                simp only [fillS, List.getD_cons_succ, List.getD_cons_zero, Act.put, List.setIfInBounds_toArray, List.set_cons_zero, List.set_cons_succ]
                have f3 : (IsV (.tuple #[.bool N, .int .i64 0])) (vals 3) x := hf.1
                clear hf
                have hWx := below_tr hi7.out hb
                obtain ⟨p0, p1, p2⟩ := rc3 (kept_block hWx he0.out)
                have zw := (Array.getElem?_eq_some_iff.1 (kept_block hWx he0.out)).1
                rw [show vals 3 = .tuple #[.bool N, .int .i64 0] from f3]
                go_wp2
                exact ⟨rfl, rfl, Below.refl _ _, _, rfl, rfl, (fun h => absurd h (by decide))⟩
              · intro vals x hb hf
                simp only [fillS, List.getD_cons_succ, List.getD_cons_zero, Act.put, List.setIfInBounds_toArray, List.set_cons_zero, List.set_cons_succ]
                have f3 : (IsV (.tuple #[.bool N, .int .i64 0])) (vals 3) x := hf.1
                clear hf
                rw [show vals 3 = .tuple #[.bool N, .int .i64 0] from f3]
                go_wp2
                exact ⟨rfl, rfl, Below.refl _ _, _, rfl, rfl, (fun h => absurd h (by decide))⟩
            · intro j hj o ho vals x hb hf
              obtain rfl : j = 5 := by simpa using hj
              obtain rfl := Option.some.inj ho
              simp only [fillS, List.getD_cons_succ, List.getD_cons_zero, Act.put, List.setIfInBounds_toArray, List.set_cons_zero, List.set_cons_succ]
              have f3 : (IsV (.tuple #[.bool N, .int .i64 0])) (vals 3) x := hf.1
              rw [show vals 3 = .tuple #[.bool N, .int .i64 0] from f3]
              exact ⟨_, .inl ⟨rfl, fun w => rfl⟩, rfl, (fun h => absurd h (by decide))⟩
            intro vals x hb hf hp
            have hrange : List.range 6 = [0, 1, 2, 3, 4, 5] := by rfl
            rw [hrange]
            simp only [fillS, List.getD_cons_succ, List.getD_cons_zero, Act.put, List.setIfInBounds_toArray, List.set_cons_zero, List.set_cons_succ]
            have h0 : vals 0 = bkV (.slice fa b.first.length fc) (.slice wa b.flows.length wc) (.slice ra b.reads.length rc) := hf 0 (by omega)
            have f1 : (IsV (gsV noGs)) (vals 1) x := hf 1 (by omega)
            have f2 : (IsV (.tuple #[.bool N, .int .i64 0])) (vals 2) x := hf 2 (by omega)
            have f3 : (IsV (.tuple #[.bool N, .int .i64 0])) (vals 3) x := hf 3 (by omega)
            have f4 : (IsV (.bool N)) (vals 4) x := hf 4 (by omega)
            have h5 : vals 5 = .int .i64 0 := hf 5 (by omega)
            rw [h0, h5]
            clear h0 h5 hf hp hrange
            simp only [List.drop_succ_cons, List.drop_zero]
            rw [show vals 4 = .bool N from f4]
            have hWx := Lib.hid (below_tr hi7.out hb)
            have hcx := Lib.hid (hcv7.out.mono hb)
            have hlx := Lib.hid (hlv7.out.mono hb)
            have hsx := Lib.hid (hsv7.out.mono hb)
            have hwx := Lib.hid (below_tr hwB.out hWx.out)
            clear f1 f2 f3 f4 hb hcv7 hlv7 hsv7 hi7 kN
            obtain ⟨g0, g1, g2⟩ := rc3 (kept_block hWx.out he1.out)
            have z1 := (Array.getElem?_eq_some_iff.1 (kept_block hWx.out he1.out)).1
            cases N
            all_goals
              go_wp2
              refine OnlyN.mk ?_
              go_wp2
              have hgx := grow_cell x
              have hgz := Lib.hid (kept_block hWx.out he1.out)
              clear g0 g1 g2 z1
              go_loopw [20] (fun i wr => ∃ gg : Grow x, wr = gg.x ∧ ∃ d : Nat, d ≤ ys.length ∧ i = .int .i64 d) (fun i _ => ys.length - (intOf i).toNat)
              case atStart => exact ⟨Grow.self x, rfl, 0, by omega, rfl⟩
              case round =>
                obtain ⟨u1, rfl, d, hd, rfl⟩ := hrel
                by_cases hdl : d < ys.length
                · have hdi : (d : Int) < (ys.length : Int) := by omega
                  obtain ⟨c1, o1, k1, ev1, hv1, hw1, -, y0, hrow1⟩ := list_cell hcx.out (k := d) (by rw [conL_len]; exact hdl)
                  obtain ⟨c2, o2, k2, ev2, hv2, hw2, -, y1, hrow2⟩ := sprow_cell hlx.out (k := d) (by rw [bounds_len]; have := hl2.out; omega)
                  rw [conL_len] at hv1
                  rw [bounds_len, ← hl2.out] at hv2
                  obtain ⟨rfl, rfl⟩ : ca = some ⟨c1, o1, none⟩ ∧ cc = k1 := by simpa using hv1
                  obtain ⟨rfl, rfl⟩ : la = some ⟨c2, o2, none⟩ ∧ lc = k2 := by simpa using hv2
                  rw [conL_at hdl] at hrow1
                  rw [show rwAt (b.bounds ga) d = (List.range b.first.length).map fun z => b.bnd ga z d from rwAt_range (by have := hl2.out; omega)] at hrow2
                  obtain ⟨r1, n1, rfl, hrm1, -⟩ := hrow1.form
                  obtain ⟨r2, n2, rfl, hrm2, -⟩ := hrow2.form
                  rw [rowC_len] at y0
                  rw [show ((List.range b.first.length).map fun z => b.bnd ga z d).length = xs.length by simp; exact hl1.out.symm] at y1
                  have hrw1 := Lib.hid hrow1
                  have hrw2 := Lib.hid hrow2
                  clear hrow1 hrow2 hv1 hv2 hrm1 hrm2
                  go_wp2
                  have hgg : ∀ (h : Grow u1.x) (b o : Nat), b < x.heap.size → h.x.cell? ⟨b, o, none⟩ = x.cell? ⟨b, o, none⟩ := fun h b o hb => (grow_cell u1.x h b o (Nat.lt_of_lt_of_le hb u1.size)).trans (grow_cell x u1 b o hb)
                  refine wp_region_grow (by kernel_rfl) (by kernel_rfl) ?_
                  repeat (go_big_quiet_step (fail))
                  refine wpQuiet_nil ?_
                  rintro _ ⟨gx, rfl⟩
                  clear hgg
                  obtain ⟨u2, hu2⟩ := u1.next gx.h
                  rw [hu2]
                  clear hu2 gx
                  go_wp2
                  go_loopw [21] (fun i wr => ∃ gg : Grow x, wr = gg.x ∧ ∃ k : Nat, k ≤ xs.length ∧ i = .int .i64 k) (fun i _ => xs.length - (intOf i).toNat)
                  case atStart => exact ⟨u2, rfl, 0, by omega, rfl⟩
                  case round =>
                    obtain ⟨u3, rfl, k, hk, rfl⟩ := hrel
                    by_cases hkl : k < xs.length
                    · have hki : (k : Int) < (xs.length : Int) := by omega
                      obtain ⟨e1, p1, j1, hx1, hcl1, -, x0⟩ := int_cells hrw1.out (k := k) (by rw [rowC_len]; exact hkl)
                      obtain ⟨e2, p2, j2, hx2, hcl2, -, x1, x2⟩ := sp_cells hrw2.out (k := k) (by simp; have := hl1.out; omega)
                      rw [rowC_len] at hx1
                      rw [show ((List.range b.first.length).map fun z => b.bnd ga z d).length = xs.length by simp; exact hl1.out.symm] at hx2
                      obtain ⟨rfl, rfl⟩ : r1 = some ⟨e1, p1, none⟩ ∧ n1 = j1 := by simpa using hx1
                      obtain ⟨rfl, rfl⟩ : r2 = some ⟨e2, p2, none⟩ ∧ n2 = j2 := by simpa using hx2
                      rw [rowC_at hkl] at x0
                      rw [show spAt ((List.range b.first.length).map fun z => b.bnd ga z d) k = b.bnd ga k d from spAt_range (by have := hl1.out; omega)] at x1 x2
                      have hin := hbn.out k d (by have := hl1.out; omega) (by have := hl2.out; omega)
                      clear hx1 hx2
                      generalize conN ga xs ys k (d + 1) = a at *
                      generalize b.bnd ga k d = s at *
                      have hd1 : decide (a < s.lo) = false := by simp; omega
                      have hd2 : decide (s.hi < a) = false := by simp; omega
                      go_wp2
                      have hgg : ∀ (h : Grow u3.x) (b o : Nat), b < x.heap.size → h.x.cell? ⟨b, o, none⟩ = x.cell? ⟨b, o, none⟩ := fun h b o hb => (grow_cell u3.x h b o (Nat.lt_of_lt_of_le hb u3.size)).trans (grow_cell x u3 b o hb)
                      refine wp_region_grow (by kernel_rfl) (by kernel_rfl) ?_
                      repeat (go_big_quiet_step (fail))
                      refine wpQuiet_nil ?_
                      rintro _ ⟨gx, rfl⟩
                      clear hgg
                      obtain ⟨u4, hu4⟩ := u3.next gx.h
                      rw [hu4]
                      clear hu4 gx
                      go_wp2
                      exact ⟨⟨u4, rfl, k + 1, by omega, by go_num⟩, by simp [intOf]; omega⟩
                    · obtain rfl : k = xs.length := by omega
                      go_wp2
                      exact ⟨⟨u3, rfl, d + 1, by omega, by go_num⟩, by simp [intOf]; omega⟩
                · obtain rfl : d = ys.length := by omega
                  obtain ⟨gz, gn, gsn⟩ := ga
                  obtain ⟨g0, g1, g2⟩ := rc3 hgz.out
                  have z1 := (Array.getElem?_eq_some_iff.1 hgz.out).1
                  simp only at g0 g1 g2
                  have g0' := kept_cell u1.h g0
                  have z1' := Nat.lt_of_lt_of_le z1 u1.h.size
                  go_wp2
                  obtain ⟨-, -, -, hsl, -⟩ := hsx.out.form
                  go_loopw [22, 23] (fun th i wr => ∃ gg : Grow x, wr = gg.x ∧ ∃ (k : Nat) (t : Bool), k ≤ b.susL.length ∧ th = .bool t ∧ i = .int .i64 k ∧ Hid (t = false → 0 ≤ gz ∧ ∀ j, j < k → ¬ ((suAt b.susL j).zone = gz ∧ (suAt b.susL j).since = gsn ∧ (suAt b.susL j).s.lo ≤ gn ∧ gn ≤ (suAt b.susL j).s.hi))) (fun _ i _ => b.susL.length - (intOf i).toNat)
                  case atStart => exact ⟨u1, rfl, 0, decide (gz < 0), by omega, rfl, rfl, fun h => ⟨by simpa using h, fun j hj => absurd hj (Nat.not_lt_zero _)⟩⟩
                  case round =>
                    obtain ⟨u5, rfl, k, t, hk, rfl, rfl, hT⟩ := hrel
                    clear g0' z1'
                    by_cases hkl : k < b.susL.length
                    · have hki : (k : Int) < (b.susL.length : Int) := by omega
                      obtain ⟨a6, cap6, hv6, hm6, hc6⟩ := hsx.out
                      obtain ⟨b6, off6, rfl, hb6, hc7⟩ := hc6 (by omega)
                      obtain ⟨rfl, rfl⟩ : sa = some ⟨b6, off6, none⟩ ∧ sc = cap6 := by simpa using hv6
                      have s0 : x.cell? ⟨b6, off6 + k * 4, none⟩ = some (.int .i64 (suAt b.susL k).zone) := hc7 k 0 _ hkl rfl
                      have s1 : x.cell? ⟨b6, off6 + k * 4 + 1, none⟩ = some (.int .i64 (suAt b.susL k).since) := hc7 k 1 _ hkl rfl
                      have s2 : x.cell? ⟨b6, off6 + k * 4 + 2, none⟩ = some (.int .i64 (suAt b.susL k).s.lo) := hc7 k 2 _ hkl rfl
                      have s3 : x.cell? ⟨b6, off6 + k * 4 + 3, none⟩ = some (.int .i64 (suAt b.susL k).s.hi) := hc7 k 3 _ hkl rfl
                      have hno : Hid (¬ ((suAt b.susL k).zone = gz ∧ (suAt b.susL k).since = gsn ∧ (suAt b.susL k).s.lo ≤ gn ∧ gn ≤ (suAt b.susL k).s.hi) → t = false → 0 ≤ gz ∧ ∀ j, j < k + 1 → ¬ ((suAt b.susL j).zone = gz ∧ (suAt b.susL j).since = gsn ∧ (suAt b.susL j).s.lo ≤ gn ∧ gn ≤ (suAt b.susL j).s.hi)) := Lib.hid fun h ht => ⟨(hT.out ht).1, fun j hj => by
                        rcases Nat.lt_succ_iff_lt_or_eq.1 hj with h' | rfl
                        · exact (hT.out ht).2 j h'
                        · exact h⟩
                      clear hv6 hm6 hc6 hc7 hT
                      generalize suAt b.susL k = s at *
                      obtain ⟨sz, ss, ⟨slo, shi⟩⟩ := s
                      dsimp only at s0 s1 s2 s3 hno
                      cases t
                      · by_cases h1 : sz = gz
                        · subst h1
                          by_cases h2 : ss = gsn
                          · subst h2
                            by_cases h3 : slo ≤ gn
                            · have hd3 : decide (slo ≤ gn) = true := by simpa using h3
                              by_cases h4 : gn ≤ shi
                              · have hd4 : decide (gn ≤ shi) = true := by simpa using h4
                                clear hno
                                go_wp2
                                have hgg : ∀ (h : Grow u5.x) (b o : Nat), b < x.heap.size → h.x.cell? ⟨b, o, none⟩ = x.cell? ⟨b, o, none⟩ := fun h b o hb => (grow_cell u5.x h b o (Nat.lt_of_lt_of_le hb u5.size)).trans (grow_cell x u5 b o hb)
                                refine wp_region_grow (by kernel_rfl) (by kernel_rfl) ?_
                                repeat (go_big_quiet_step (fail))
                                refine wpQuiet_nil ?_
                                rintro _ ⟨gx, rfl⟩
                                clear hgg
                                obtain ⟨u6, hu6⟩ := u5.next gx.h
                                rw [hu6]
                                clear hu6 gx
                                go_wp2
                                exact ⟨⟨u6, rfl, k + 1, true, by omega, rfl, by go_num, Lib.hid fun h => by cases h⟩, by simp [intOf]; omega⟩
                              · have hd4 : decide (gn ≤ shi) = false := by simpa using h4
                                have hn := Lib.hid (hno.out (fun h => h4 h.2.2.2) rfl)
                                clear hno
                                go_wp2
                                have hgg : ∀ (h : Grow u5.x) (b o : Nat), b < x.heap.size → h.x.cell? ⟨b, o, none⟩ = x.cell? ⟨b, o, none⟩ := fun h b o hb => (grow_cell u5.x h b o (Nat.lt_of_lt_of_le hb u5.size)).trans (grow_cell x u5 b o hb)
                                refine wp_region_grow (by kernel_rfl) (by kernel_rfl) ?_
                                repeat (go_big_quiet_step (fail))
                                refine wpQuiet_nil ?_
                                rintro _ ⟨gx, rfl⟩
                                clear hgg
                                obtain ⟨u6, hu6⟩ := u5.next gx.h
                                rw [hu6]
                                clear hu6 gx
                                go_wp2
                                exact ⟨⟨u6, rfl, k + 1, false, by omega, rfl, by go_num, Lib.hid fun _ => hn.out⟩, by simp [intOf]; omega⟩
                            · have hd3 : decide (slo ≤ gn) = false := by simpa using h3
                              have hn := Lib.hid (hno.out (fun h => h3 h.2.2.1) rfl)
                              clear hno
                              go_wp2
                              have hgg : ∀ (h : Grow u5.x) (b o : Nat), b < x.heap.size → h.x.cell? ⟨b, o, none⟩ = x.cell? ⟨b, o, none⟩ := fun h b o hb => (grow_cell u5.x h b o (Nat.lt_of_lt_of_le hb u5.size)).trans (grow_cell x u5 b o hb)
                              refine wp_region_grow (by kernel_rfl) (by kernel_rfl) ?_
                              repeat (go_big_quiet_step (fail))
                              refine wpQuiet_nil ?_
                              rintro _ ⟨gx, rfl⟩
                              clear hgg
                              obtain ⟨u6, hu6⟩ := u5.next gx.h
                              rw [hu6]
                              clear hu6 gx
                              go_wp2
                              exact ⟨⟨u6, rfl, k + 1, false, by omega, rfl, by go_num, Lib.hid fun _ => hn.out⟩, by simp [intOf]; omega⟩
                          · have hd2 : (ss == gsn) = false := by simpa using h2
                            have hn := Lib.hid (hno.out (fun h => h2 h.2.1) rfl)
                            clear hno
                            go_wp2
                            have hgg : ∀ (h : Grow u5.x) (b o : Nat), b < x.heap.size → h.x.cell? ⟨b, o, none⟩ = x.cell? ⟨b, o, none⟩ := fun h b o hb => (grow_cell u5.x h b o (Nat.lt_of_lt_of_le hb u5.size)).trans (grow_cell x u5 b o hb)
                            refine wp_region_grow (by kernel_rfl) (by kernel_rfl) ?_
                            repeat (go_big_quiet_step (fail))
                            refine wpQuiet_nil ?_
                            rintro _ ⟨gx, rfl⟩
                            clear hgg
                            obtain ⟨u6, hu6⟩ := u5.next gx.h
                            rw [hu6]
                            clear hu6 gx
                            go_wp2
                            exact ⟨⟨u6, rfl, k + 1, false, by omega, rfl, by go_num, Lib.hid fun _ => hn.out⟩, by simp [intOf]; omega⟩
                        · have hd1 : (sz == gz) = false := by simpa using h1
                          have hn := Lib.hid (hno.out (fun h => h1 h.1) rfl)
                          clear hno
                          go_wp2
                          have hgg : ∀ (h : Grow u5.x) (b o : Nat), b < x.heap.size → h.x.cell? ⟨b, o, none⟩ = x.cell? ⟨b, o, none⟩ := fun h b o hb => (grow_cell u5.x h b o (Nat.lt_of_lt_of_le hb u5.size)).trans (grow_cell x u5 b o hb)
                          refine wp_region_grow (by kernel_rfl) (by kernel_rfl) ?_
                          repeat (go_big_quiet_step (fail))
                          refine wpQuiet_nil ?_
                          rintro _ ⟨gx, rfl⟩
                          clear hgg
                          obtain ⟨u6, hu6⟩ := u5.next gx.h
                          rw [hu6]
                          clear hu6 gx
                          go_wp2
                          exact ⟨⟨u6, rfl, k + 1, false, by omega, rfl, by go_num, Lib.hid fun _ => hn.out⟩, by simp [intOf]; omega⟩
                      · clear hno
                        go_wp2
                        have hgg : ∀ (h : Grow u5.x) (b o : Nat), b < x.heap.size → h.x.cell? ⟨b, o, none⟩ = x.cell? ⟨b, o, none⟩ := fun h b o hb => (grow_cell u5.x h b o (Nat.lt_of_lt_of_le hb u5.size)).trans (grow_cell x u5 b o hb)
                        refine wp_region_grow (by kernel_rfl) (by kernel_rfl) ?_
                        repeat (go_big_quiet_step (fail))
                        refine wpQuiet_nil ?_
                        rintro _ ⟨gx, rfl⟩
                        clear hgg
                        obtain ⟨u6, hu6⟩ := u5.next gx.h
                        rw [hu6]
                        clear hu6 gx
                        go_wp2
                        exact ⟨⟨u6, rfl, k + 1, true, by omega, rfl, by go_num, Lib.hid fun h => by cases h⟩, by simp [intOf]; omega⟩
                    · obtain rfl : k = b.susL.length := by omega
                      have htt : t = true := by
                        cases t
                        · exfalso
                          obtain ⟨hp, hall⟩ := hT.out rfl
                          obtain ⟨y, hy, e1, e2, e3, e4⟩ := hsu.out hp
                          obtain ⟨j, hj, rfl⟩ := List.getElem_of_mem hy
                          have ej : suAt b.susL j = b.susL[j] := by simp [suAt, hj]
                          exact hall j hj (by rw [ej]; exact ⟨e1, e2, e3, e4⟩)
                        · rfl
                      subst htt
                      clear hT
                      go_wp2_with (go_at_call 18; (with_reducible refine Calls.mono (kK.out _) ?_); rintro e w3 ⟨rfl, hB3⟩)
                      go_ret
                      exact ⟨rfl, below_tr hwx.out (below_tr u5.h hB3)⟩
      · have h23 : b.err (b.gsB ga) = 2 ∨ b.err (b.gsB ga) = 3 := by
          unfold Bk.err at hE ⊢
          split
          · exact .inr rfl
          · rename_i hl
            rw [if_neg hl] at hE
            split
            · rename_i h2; rw [if_pos h2] at hE; exact absurd rfl hE
            · exact .inl rfl
        clear hez kT0 hE
        rcases h23 with h23 | h23
        all_goals
          rw [h23] at kB
          clear h23
          generalize b.gsB ga = G at *
          go_enter Try.func8, Try.ntmps8
          go_wp2
          refine wp_region_grow (by kernel_rfl) (by kernel_rfl) ?_
          repeat (go_big_quiet_step ((first | (with_reducible exact Calls.grow (kS.out _)) | (with_reducible exact Calls.grow (kI.out _)) | (with_reducible exact Calls.grow (kG.out _)) | (with_reducible exact Calls.grow (kB.out _)))))
          refine wpQuiet_nil ?_
          rintro _ ⟨g, rfl⟩
          have hgB := Lib.hid g.h
          generalize g.x = Y at *
          go_wp2_with (go_at_call 18; (with_reducible refine Calls.mono (kK.out _) ?_); rintro e w3 ⟨rfl, hB3⟩)
          go_ret
          exact ⟨rfl, below_tr hwB.out (below_tr hgB.out hB3)⟩
end Go.Proofs.Ytddmfkhmhdddeaa
