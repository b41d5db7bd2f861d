/- Walks: the law LeakTold. -/
import Derived.Test.YtddmfkhmhdddeaaTol
import Derived.Test.YtddmfkhmhdddeaaApm
import Derived.Test.YtddmfkhmhdddeaaKno
import Derived.Test.YtddmfkhmhdddeaaSho
import Derived.Test.YtddmfkhmhdddeaaBok
import Derived.Deep.Cut
import Derived.Deep.CutRange
set_option linter.unusedVariables false
set_option linter.unusedSimpArgs false
namespace Go.Proofs.Ytddmfkhmhdddeaa
open Go.RowKit Go.Sd Lk

theorem agreeFormT (fv wv rv : Value) (b : Bk) (g : Gs) (w : World) (hb : BookAt w fv wv rv b) (h0 : b.err true = 0) (hg : b.gsB g = true) {t : Bool} (ht : b.agreeB g = t) :
    Calls Try.prog 39 #[bkV fv wv rv, gsV g] w fun e w' => e = .returned (.tuple #[.bool t, .int .i64 0]) ∧ Below w.heap.size w w' := by
  have h := progAgree fv wv rv b g w hb
  unfold AgreePost at h
  rw [hg, h0, ht] at h
  simpa using h
theorem grown0T {B : Nat} {w w1 w2 : World} (h : Below B w w1) (hB : B ≤ w1.heap.size) (hg : w1.grownBy w2 none) : Below B w w2 :=
  h.grown hg hB (fun k e => by cases e)
theorem gsB_size {b : Bk} {g : Gs} (h : b.gsB g = true) : 0 ≤ g.size ∧ g.size ≤ 1000000000000 := by
  simp only [Bk.gsB, Bool.or_eq_true, decide_eq_true_eq, Bool.and_eq_true, inB_iff] at h
  rcases h with rfl | h
  · simp [noGs]
  · omega

set_option maxRecDepth 100000 in
set_option maxHeartbeats 4000000 in
theorem lawTold (fv wv rv : Value) (b : Bk) (ga gb : Gs) (wrong : Int) (xv : Value) (xs : List Int) (yv : Value) (ys : List (List Int)) (y : Int) (w : World) (hb : BookAt w fv wv rv b) (hx : IntsAt w xv xs) (hy : ListsAt w yv ys) :
    Calls Try.prog 13 #[bkV fv wv rv, gsV ga, gsV gb, .int .i64 wrong, xv, yv, .int .i64 y] w fun e w' => e = .returned (.bool true) ∧ Below w.heap.size w w' := by
  have kK := Lib.hid (fun X => progKnown X)
  obtain ⟨W1, hW1⟩ : ∃ W1, w.alloc (bkA fv wv rv) = W1 := ⟨_, rfl⟩
  obtain ⟨W2, hW2⟩ : ∃ W2, W1.alloc (gsO ga) = W2 := ⟨_, rfl⟩
  obtain ⟨W, hW⟩ : ∃ W, W2.alloc (gsO gb) = W := ⟨_, rfl⟩
  obtain ⟨e0, b0, s0⟩ := boxed hW1
  obtain ⟨e1, b1, s1⟩ := boxed hW2
  obtain ⟨e2, b2, s2⟩ := boxed hW
  have B2 := below_tr b0 b1
  have BW := below_tr B2 b2
  have hE0 := Lib.hid (kept_block b2 (kept_block b1 e0))
  have hE1 := Lib.hid (kept_block b2 e1)
  have hE2 := Lib.hid e2
  have hbW := hb.mono BW
  have hxW := hx.mono BW
  have hyW := hy.mono BW
  obtain ⟨fa, fc, rfl, hfm, -⟩ := hb.first.form
  obtain ⟨wa, ww, rfl, hwm, -⟩ := hb.flows.form
  obtain ⟨ra, rc, rfl, hrm, -⟩ := hb.reads.form
  obtain ⟨xa, xc, rfl, hxm, -⟩ := hx.form
  obtain ⟨ya, yc, rfl, hym, -⟩ := hy.form
  obtain ⟨q0, q1, q2⟩ := rc3 hE0.out
  obtain ⟨g0, g1, g2⟩ := rc3 hE1.out
  obtain ⟨j0, j1, j2⟩ := rc3 hE2.out
  have z0 := (Array.getElem?_eq_some_iff.1 hE0.out).1
  have z1 := (Array.getElem?_eq_some_iff.1 hE1.out).1
  have z2 := (Array.getElem?_eq_some_iff.1 hE2.out).1
  have kS0 := fun g : Grow W => lawShort _ _ _ b g.x (hbW.mono g.h)
  have kI0 := fun g : Grow W => lawSlim _ _ xs ys g.x (hxW.mono g.h) (hyW.mono g.h)
  have kG0 := fun g : Grow W => (refGuess _ _ _ b ga g.x (hbW.mono g.h)).mono (fun e w' (h : BoolB _ _ e w') => h.lit rfl)
  have kH0 := fun g : Grow W => (refGuess _ _ _ b gb g.x (hbW.mono g.h)).mono (fun e w' (h : BoolB _ _ e w') => h.lit rfl)
  have kB0 := fun g : Grow W => lawBooked _ _ _ b (b.gsB ga && b.gsB gb) g.x (hbW.mono g.h)
  have kT1 := fun (ok : Ok b) (g : Grow W) => refTruth _ _ _ _ _ b xs ys g.x (hbW.mono g.h) ok (hxW.mono g.h) (hyW.mono g.h)
  have hez := Lib.hid (err_zero (b := b) (f := b.gsB ga && b.gsB gb))
  have hBW := Lib.hid BW
  have hbh := Lib.hid hbW
  have hxh := Lib.hid hxW
  have hyh := Lib.hid hyW
  clear s0 s1 s2 hb hx hy hbW hxW hyW e0 e1 e2 b0 b1 b2 B2 BW
  go_enter Try.func13, Try.ntmps13
  go_upto_region 1 with fail
  clear hW hW1 hW2
  have hgW := grow_cell W
  go_cut [78] from 25 to 78 (fun c wx => ∃ G : Bool, c = .bool G ∧ Hid (Below W.heap.size W wx ∧ (G = false → b.shortB = true ∧ slimB xs ys = true ∧ b.reads.length < 40 ∧ b.err (b.gsB ga && b.gsB gb) = 0 ∧ 0 ≤ wrong ∧ wrong ≤ 10000000 ∧ b.truthB xs ys = true ∧ -wrong ≤ y ∧ y ≤ wrong)))
  case first =>
    cases hb0 : b.shortB
    · simp only [hb0] at kS0
      have kS := Lib.hid kS0
      go_wp2_with fail
      refine wp_region_grow (by kernel_rfl) (by kernel_rfl) ?_
      repeat (go_big_quiet_step ((first | (with_reducible exact Calls.grow (kS.out _)))))
      refine wpQuiet_nil ?_
      rintro _ ⟨g, rfl⟩
      go_wp2_with fail
      go_meet
      exact ⟨true, rfl, Lib.hid ⟨g.h, fun h => (by cases h)⟩⟩
    · simp only [hb0] at kS0
      have kS := Lib.hid kS0
      cases hb1 : slimB xs ys
      · simp only [hb1] at kI0
        have kI := Lib.hid kI0
        go_wp2_with fail
        refine wp_region_grow (by kernel_rfl) (by kernel_rfl) ?_
        repeat (go_big_quiet_step ((first | (with_reducible exact Calls.grow (kS.out _)) | (with_reducible exact Calls.grow (kI.out _)))))
        refine wpQuiet_nil ?_
        rintro _ ⟨g, rfl⟩
        go_wp2_with fail
        go_meet
        exact ⟨true, rfl, Lib.hid ⟨g.h, fun h => (by cases h)⟩⟩
      · simp only [hb1] at kI0
        have kI := Lib.hid kI0
        by_cases hp2 : 40 ≤ b.reads.length
        · have hd2 : decide ((40 : Int) ≤ (b.reads.length : Int)) = true := decide_eq_true (by omega)
          have hd3 : decide (40 ≤ b.reads.length) = true := decide_eq_true hp2
          go_wp2_with fail
          refine wp_region_grow (by kernel_rfl) (by kernel_rfl) ?_
          repeat (go_big_quiet_step ((first | (with_reducible exact Calls.grow (kS.out _)) | (with_reducible exact Calls.grow (kI.out _)))))
          refine wpQuiet_nil ?_
          rintro _ ⟨g, rfl⟩
          go_wp2_with fail
          go_meet
          exact ⟨true, rfl, Lib.hid ⟨g.h, fun h => (by cases h)⟩⟩
        · have hd2 : decide ((40 : Int) ≤ (b.reads.length : Int)) = false := decide_eq_false (by omega)
          have hd3 : decide (40 ≤ b.reads.length) = false := decide_eq_false hp2
          by_cases he : b.err (b.gsB ga && b.gsB gb) = 0
          · rw [he] at kB0
            have hok := ok_of (hez.out he).2.1 (hez.out he).1
            have hgg := (hez.out he).2.2
            rw [Bool.and_eq_true] at hgg
            rw [hgg.1] at kG0 kB0
            rw [hgg.2] at kH0 kB0
            simp only [Bool.and_true] at kB0
            have kG := Lib.hid kG0
            have kH := Lib.hid kH0
            have kB := Lib.hid kB0
            have kT0 := kT1 hok
            clear kG0 kH0 kB0 kT1 hez hgg hok
            by_cases hp10 : wrong < 0
            · have hd10 : decide (wrong < 0) = true := decide_eq_true hp10
              go_wp2_with fail
              refine wp_region_grow (by kernel_rfl) (by kernel_rfl) ?_
              repeat (go_big_quiet_step ((first | (with_reducible exact Calls.grow (kS.out _)) | (with_reducible exact Calls.grow (kI.out _)) | (with_reducible exact Calls.grow (kG.out _)) | (with_reducible exact Calls.grow (kH.out _)) | (with_reducible exact Calls.grow (kB.out _)))))
              refine wpQuiet_nil ?_
              rintro _ ⟨g, rfl⟩
              go_wp2_with fail
              go_meet
              exact ⟨true, rfl, Lib.hid ⟨g.h, fun h => (by cases h)⟩⟩
            · have hd10 : decide (wrong < 0) = false := decide_eq_false hp10
              by_cases hp11 : 10000000 < wrong
              · have hd11 : decide (10000000 < wrong) = true := decide_eq_true hp11
                go_wp2_with fail
                refine wp_region_grow (by kernel_rfl) (by kernel_rfl) ?_
                repeat (go_big_quiet_step ((first | (with_reducible exact Calls.grow (kS.out _)) | (with_reducible exact Calls.grow (kI.out _)) | (with_reducible exact Calls.grow (kG.out _)) | (with_reducible exact Calls.grow (kH.out _)) | (with_reducible exact Calls.grow (kB.out _)))))
                refine wpQuiet_nil ?_
                rintro _ ⟨g, rfl⟩
                go_wp2_with fail
                go_meet
                exact ⟨true, rfl, Lib.hid ⟨g.h, fun h => (by cases h)⟩⟩
              · have hd11 : decide (10000000 < wrong) = false := decide_eq_false hp11
                cases hb12 : b.truthB xs ys
                · simp only [hb12] at kT0
                  have kT := Lib.hid kT0
                  go_wp2_with fail
                  refine wp_region_grow (by kernel_rfl) (by kernel_rfl) ?_
                  repeat (go_big_quiet_step ((first | (with_reducible exact Calls.grow (kS.out _)) | (with_reducible exact Calls.grow (kI.out _)) | (with_reducible exact Calls.grow (kG.out _)) | (with_reducible exact Calls.grow (kH.out _)) | (with_reducible exact Calls.grow (kB.out _)) | (with_reducible exact Calls.grow (kT.out _)))))
                  refine wpQuiet_nil ?_
                  rintro _ ⟨g, rfl⟩
                  go_wp2_with fail
                  go_meet
                  exact ⟨true, rfl, Lib.hid ⟨g.h, fun h => (by cases h)⟩⟩
                · simp only [hb12] at kT0
                  have kT := Lib.hid kT0
                  by_cases hp13 : y < -wrong
                  · have hd13 : decide (y < -wrong) = true := decide_eq_true hp13
                    go_wp2_with fail
                    refine wp_region_grow (by kernel_rfl) (by kernel_rfl) ?_
                    repeat (go_big_quiet_step ((first | (with_reducible exact Calls.grow (kS.out _)) | (with_reducible exact Calls.grow (kI.out _)) | (with_reducible exact Calls.grow (kG.out _)) | (with_reducible exact Calls.grow (kH.out _)) | (with_reducible exact Calls.grow (kB.out _)) | (with_reducible exact Calls.grow (kT.out _)))))
                    refine wpQuiet_nil ?_
                    rintro _ ⟨g, rfl⟩
                    go_wp2_with fail
                    go_meet
                    exact ⟨true, rfl, Lib.hid ⟨g.h, fun h => (by cases h)⟩⟩
                  · have hd13 : decide (y < -wrong) = false := decide_eq_false hp13
                    by_cases hp14 : wrong < y
                    · have hd14 : decide (wrong < y) = true := decide_eq_true hp14
                      go_wp2_with fail
                      refine wp_region_grow (by kernel_rfl) (by kernel_rfl) ?_
                      repeat (go_big_quiet_step ((first | (with_reducible exact Calls.grow (kS.out _)) | (with_reducible exact Calls.grow (kI.out _)) | (with_reducible exact Calls.grow (kG.out _)) | (with_reducible exact Calls.grow (kH.out _)) | (with_reducible exact Calls.grow (kB.out _)) | (with_reducible exact Calls.grow (kT.out _)))))
                      refine wpQuiet_nil ?_
                      rintro _ ⟨g, rfl⟩
                      go_wp2_with fail
                      go_meet
                      exact ⟨true, rfl, Lib.hid ⟨g.h, fun h => (by cases h)⟩⟩
                    · have hd14 : decide (wrong < y) = false := decide_eq_false hp14
                      go_wp2_with fail
                      refine wp_region_grow (by kernel_rfl) (by kernel_rfl) ?_
                      repeat (go_big_quiet_step ((first | (with_reducible exact Calls.grow (kS.out _)) | (with_reducible exact Calls.grow (kI.out _)) | (with_reducible exact Calls.grow (kG.out _)) | (with_reducible exact Calls.grow (kH.out _)) | (with_reducible exact Calls.grow (kB.out _)) | (with_reducible exact Calls.grow (kT.out _)))))
                      refine wpQuiet_nil ?_
                      rintro _ ⟨g, rfl⟩
                      go_wp2_with fail
                      go_meet
                      exact ⟨false, rfl, Lib.hid ⟨g.h, fun _ => ⟨hb0, hb1, by omega, he, by omega, by omega, hb12, by omega, by omega⟩⟩⟩
          · have h23 : b.err (b.gsB ga && b.gsB gb) = 2 ∨ b.err (b.gsB ga && b.gsB gb) = 3 := by have := err_cases b (b.gsB ga && b.gsB gb); omega
            clear he hez kT1
            cases hg1 : b.gsB ga
            · simp only [hg1, Bool.false_and] at kB0 h23 kG0
              have kG := Lib.hid kG0
              generalize b.err false = er at *
              rcases h23 with rfl | rfl
              all_goals
                have kB := Lib.hid kB0
                go_wp2_with fail
                refine wp_region_grow (by kernel_rfl) (by kernel_rfl) ?_
                repeat (go_big_quiet_step ((first | (with_reducible exact Calls.grow (kS.out _)) | (with_reducible exact Calls.grow (kI.out _)) | (with_reducible exact Calls.grow (kG.out _)) | (with_reducible exact Calls.grow (kB.out _)))))
                refine wpQuiet_nil ?_
                rintro _ ⟨g, rfl⟩
                go_wp2_with fail
                go_meet
                exact ⟨true, rfl, Lib.hid ⟨g.h, fun h => (by cases h)⟩⟩
            · simp only [hg1, Bool.true_and] at kB0 h23 kG0
              have kG := Lib.hid kG0
              generalize b.gsB gb = G2 at *
              have kH := Lib.hid kH0
              generalize b.err G2 = er at *
              rcases h23 with rfl | rfl
              all_goals
                have kB := Lib.hid kB0
                go_wp2_with fail
                refine wp_region_grow (by kernel_rfl) (by kernel_rfl) ?_
                repeat (go_big_quiet_step ((first | (with_reducible exact Calls.grow (kS.out _)) | (with_reducible exact Calls.grow (kI.out _)) | (with_reducible exact Calls.grow (kG.out _)) | (with_reducible exact Calls.grow (kH.out _)) | (with_reducible exact Calls.grow (kB.out _)))))
                refine wpQuiet_nil ?_
                rintro _ ⟨g, rfl⟩
                go_wp2_with fail
                go_meet
                exact ⟨true, rfl, Lib.hid ⟨g.h, fun h => (by cases h)⟩⟩
  case rest =>
  obtain ⟨G, rfl, hH⟩ := hcut
  obtain ⟨hBV, hF⟩ := hH.out
  have hV0 := hBV
  clear hH kS0 kI0 kG0 kH0 kB0 kT1 q0 q1 q2 g0 g1 g2 j0 j1 j2 z0 z1 z2 hgW
  have hwx := Lib.hid (below_tr hBW.out hBV)
  have hC0 := Lib.hid (kept_block hBV hE0.out)
  have hC1 := Lib.hid (kept_block hBV hE1.out)
  have hC2 := Lib.hid (kept_block hBV hE2.out)
  have hbV := hbh.out.mono hBV
  have hxV := hxh.out.mono hBV
  have hyV := hyh.out.mono hBV
  clear hE0 hE1 hE2 hbh hxh hyh hBW hBV hV0
  cases G
  · obtain ⟨hs, hsl, hl40, hE, hw0, hw1, htr, hy0, hy1⟩ := hF rfl
    have h0 := hez.out hE
    have ok := ok_of h0.2.1 h0.1
    have hgg := h0.2.2
    rw [Bool.and_eq_true] at hgg
    have herr : b.err true = 0 := by rw [← hE, h0.2.2]
    obtain ⟨hl1, hl2, hl3, hl4⟩ := truthB_iff htr
    have hnd := ok.nd
    have hnz := ok.nz
    have hcb : ∀ i, i < b.first.length → ∀ d, d ≤ ys.length → -1000000000 - 110000000 * (d : Int) ≤ conN ga xs ys i d ∧ conN ga xs ys i d ≤ 1000000000 + 110000000 * (d : Int) := fun i hi => conN_bd (g := ga) ok hgg.1 htr hi
    have kC0 := fun X (h : Below wc.heap.size wc X) => refContents ga _ _ xs ys X (hxV.mono h) (hyV.mono h) ⟨by omega, by omega⟩ (by omega) (fun d hd => (hl4 d hd).1)
      (fun i d hi hd => by have := hcb i (by omega) d hd; omega)
      (fun d i hd hi => by have a := (hl4 d hd).2 i hi; have f := ok.flows d i (by omega) (by omega); unfold Bk.flowAt at a; omega) (gsB_size hgg.1)
    have kD0 := fun cv X (h : Below wc.heap.size wc X) (hc : ListsAt X cv (conL ga xs ys ys.length)) => refHolds _ _ _ cv b (conL ga xs ys ys.length) X (hbV.mono h) ok hc (by rw [conL_len]; omega) (fun d hd => by rw [conL_len] at hd; rw [conL_at hd, rowC_len]; omega)
    have kT0 := fun X (h : Below wc.heap.size wc X) => progTell _ _ _ b ga gb wrong X (hbV.mono h)
    unfold TellPost at kT0
    have htz := tl_zero (g := ga) (h := gb) (wrong := wrong) h0.2.2 (inB_iff.2 ⟨hw0, hw1⟩) herr
    have hcl := conL_len (g := ga) (xs := xs) (ys := ys) (d := ys.length)
    have kC : Hid (∀ X, Below wc.heap.size wc X → Calls Try.prog 37 _ X fun e w' => ∃ ca cc, e = .returned (.slice ca ys.length cc) ∧ Below X.heap.size X w' ∧ ListsAt w' (.slice ca ys.length cc) (conL ga xs ys ys.length)) := Lib.hid fun X h => (kC0 X h).mono (by
      rintro e w' ⟨hB, v, rfl, hv⟩
      have hv0 := hv
      obtain ⟨ca, cc, rfl, -, -⟩ := hv.form
      rw [hcl] at hv0 ⊢
      exact ⟨ca, cc, rfl, hB, hv0⟩)
    clear kC0
    replace hF := Lib.hid hF
    cases hho : b.holdsB (conL ga xs ys ys.length)
    · simp only [hho] at kD0
      have kD := Lib.hid kD0
      clear kD0 kT0 htz hcl hho hl3 hl4 hs hsl hE herr h0 hgg hez
      replace ok := Lib.hid ok
      replace hcb := Lib.hid hcb
      replace hl1 := Lib.hid hl1
      replace hl2 := Lib.hid hl2
      obtain ⟨q0, q1, q2⟩ := rc3 hC0.out
      obtain ⟨g0, g1, g2⟩ := rc3 hC1.out
      have z0 := (Array.getElem?_eq_some_iff.1 hC0.out).1
      have z1 := (Array.getElem?_eq_some_iff.1 hC1.out).1
      go_wp2_with (first
        | (go_at_call 37; (with_reducible refine Calls.mono (kC.out _ (Below.refl _ _)) ?_); rintro e w2 ⟨ca, cc, rfl, h2, hcv⟩; obtain ⟨q0, q1, q2⟩ := rc3 (kept_block h2 hC0.out); have z0 := (Array.getElem?_eq_some_iff.1 (kept_block h2 hC0.out)).1)
        | (go_at_call 38; (with_reducible refine Calls.mono (kD.out _ _ h2 hcv) ?_); rintro e w4 ⟨rfl, hB4⟩)
        | (go_at_call 18; (with_reducible refine Calls.mono (kK.out _) ?_); rintro e w3 ⟨rfl, hB3⟩))
      go_ret
      exact ⟨rfl, below_tr hwx.out (below_tr h2 (below_tr hB4 hB3))⟩
    · simp only [hho] at kD0
      have kD := Lib.hid kD0
      have hyr : -wrong ≤ y ∧ y ≤ wrong := ⟨hy0, hy1⟩
      have htold := fun d z n hd hz ht hn ok2 => told_agree ok (g := ga) (h := gb) (wrong := wrong) (y := y) (n := n) (xs := xs) (ys := ys) (d := d) (z := z) htr hho hd hz ht hyr hn ok2
      have htold' := Lib.hid htold
      have herr' := Lib.hid herr
      have hgg' := Lib.hid hgg
      have hcb' := Lib.hid hcb
      have hl1' := Lib.hid hl1
      have hl2' := Lib.hid hl2
      clear kD0 hcl hho hl3 hl4 hs hsl hE herr h0 hgg hez htold hcb hl1 hl2
      replace ok := Lib.hid ok
      obtain ⟨D, Z, E, hT⟩ : ∃ D Z E, b.tlR ga gb wrong = (D, Z, E) := ⟨_, _, _, rfl⟩
      rw [hT] at kT0 htz
      simp only at kT0 htz
      have kT := Lib.hid kT0
      clear kT0 hT
      obtain ⟨q0, q1, q2⟩ := rc3 hC0.out
      obtain ⟨g0, g1, g2⟩ := rc3 hC1.out
      obtain ⟨j0, j1, j2⟩ := rc3 hC2.out
      have z0 := (Array.getElem?_eq_some_iff.1 hC0.out).1
      have z1 := (Array.getElem?_eq_some_iff.1 hC1.out).1
      have z2 := (Array.getElem?_eq_some_iff.1 hC2.out).1
      rcases htz with ⟨rfl, d, z, rfl, rfl, hd, hz, htl⟩ | htz
      · replace htl := Lib.hid htl
        go_upto_region 9 with (first | (go_at_call 37; (with_reducible refine Calls.mono (kC.out _ (Below.refl _ _)) ?_); rintro e w2 ⟨ca, cc, rfl, h2, hcv⟩; obtain ⟨q0, q1, q2⟩ := rc3 (kept_block h2 hC0.out); obtain ⟨g0, g1, g2⟩ := rc3 (kept_block h2 hC1.out); obtain ⟨j0, j1, j2⟩ := rc3 (kept_block h2 hC2.out); have z0 := (Array.getElem?_eq_some_iff.1 (kept_block h2 hC0.out)).1; have z1 := (Array.getElem?_eq_some_iff.1 (kept_block h2 hC1.out)).1; have z2 := (Array.getElem?_eq_some_iff.1 (kept_block h2 hC2.out)).1) | (go_at_call 38; (with_reducible refine Calls.mono (kD.out _ _ h2 hcv) ?_); rintro e w4 ⟨rfl, hB4⟩; have h4 := below_tr h2 hB4; obtain ⟨q0, q1, q2⟩ := rc3 (kept_block h4 hC0.out); obtain ⟨g0, g1, g2⟩ := rc3 (kept_block h4 hC1.out); obtain ⟨j0, j1, j2⟩ := rc3 (kept_block h4 hC2.out); have z0 := (Array.getElem?_eq_some_iff.1 (kept_block h4 hC0.out)).1; have z1 := (Array.getElem?_eq_some_iff.1 (kept_block h4 hC1.out)).1; have z2 := (Array.getElem?_eq_some_iff.1 (kept_block h4 hC2.out)).1) | (go_at_call 31; (with_reducible refine Calls.mono (kT.out _ h4) ?_); rintro e w5 ⟨rfl, hB5⟩; have h5 := below_tr h4 hB5; obtain ⟨q0, q1, q2⟩ := rc3 (kept_block h5 hC0.out); obtain ⟨g0, g1, g2⟩ := rc3 (kept_block h5 hC1.out); obtain ⟨j0, j1, j2⟩ := rc3 (kept_block h5 hC2.out); have z0 := (Array.getElem?_eq_some_iff.1 (kept_block h5 hC0.out)).1; have z1 := (Array.getElem?_eq_some_iff.1 (kept_block h5 hC1.out)).1; have z2 := (Array.getElem?_eq_some_iff.1 (kept_block h5 hC2.out)).1))
        have hcv5 := hcv.mono (below_tr hB4 hB5)
        obtain ⟨c1, o1, k1, ev1, hv1, hw1, -, y0, hrow1⟩ := list_cell hcv5 (k := d) (by rw [conL_len]; have := hl2'.out; omega)
        rw [conL_len] at hv1
        obtain ⟨rfl, rfl⟩ : ca = some ⟨c1, o1, none⟩ ∧ cc = k1 := by simpa using hv1
        rw [conL_at (by have := hl2'.out; omega)] at hrow1
        obtain ⟨r1, n1, rfl, hrm1, -⟩ := hrow1.form
        rw [rowC_len] at y0
        obtain ⟨e1, p1, m1, hx1, hcl1, -, x0⟩ := int_cells hrow1 (k := z) (by rw [rowC_len]; have := hl1'.out; omega)
        rw [rowC_len] at hx1
        obtain ⟨rfl, rfl⟩ : r1 = some ⟨e1, p1, none⟩ ∧ n1 = m1 := by simpa using hx1
        rw [rowC_at (by have := hl1'.out; omega)] at x0
        have hb1 := hcb'.out z hz (d + 1) (by have := hl2'.out; omega)
        obtain ⟨C, hC⟩ : ∃ C, conN ga xs ys z (d + 1) = C := ⟨_, rfl⟩
        rw [hC] at x0 hb1
        replace hC := Lib.hid hC
        have hdi : (d : Int) < (ys.length : Int) := by have := hl2'.out; omega
        have hzi : (z : Int) < (xs.length : Int) := by have := hl1'.out; omega
        have d1 : decide ((d : Int) < 0) = false := decide_eq_false (by omega)
        have d2 : decide ((ys.length : Int) ≤ (d : Int)) = false := decide_eq_false (by omega)
        have d3 : decide ((z : Int) < 0) = false := decide_eq_false (by omega)
        have d4 : decide ((xs.length : Int) ≤ (z : Int)) = false := decide_eq_false (by omega)
        have hb2 : -5000000000 ≤ C ∧ C ≤ 5000000000 := by push_cast at hb1; omega
        have hbx := Lib.hid (hbV.mono h5)
        have h5' := Lib.hid h5
        clear hv1 hrow1 hrm1 hx1 hcl1 hcv5 hcv hB4 hB5 h2 h4 kC kD kT hb1 hbV hxV hyV
        go_upto_region 12 with fail
        by_cases hlo : C + y - wrong < -1000000000
        · have d5 : decide (C + y - wrong < -1000000000) = true := decide_eq_true hlo
          go_wp2_with (go_at_call 18; (with_reducible refine Calls.mono (kK.out _) ?_); rintro e w9 ⟨rfl, hB9⟩)
          go_ret
          exact ⟨rfl, below_tr hwx.out (below_tr h5'.out hB9)⟩
        · have d5 : decide (C + y - wrong < -1000000000) = false := decide_eq_false hlo
          by_cases hhi : 1000000000 < C + y + wrong
          · have d6 : decide (1000000000 < C + y + wrong) = true := decide_eq_true hhi
            go_wp2_with (go_at_call 18; (with_reducible refine Calls.mono (kK.out _) ?_); rintro e w9 ⟨rfl, hB9⟩)
            go_ret
            exact ⟨rfl, below_tr hwx.out (below_tr h5'.out hB9)⟩
          · have d6 : decide (1000000000 < C + y + wrong) = false := decide_eq_false hhi
            have her2 : (b.more ⟨d, z, ⟨C + y - wrong, C + y + wrong⟩⟩).err true = 0 := more_err herr'.out hl40 (by
              simp only [Bk.rdB, Bool.and_eq_true, inB_iff, spB_iff]; omega)
            have hez2 := err_zero her2
            have hag := htold'.out d z (C + y) hd hz htl.out (by rw [hC.out]) (ok_of hez2.2.1 hez2.1)
            have hl32 : b.reads.length * 32 ≤ 140737488351232 := by omega
            obtain ⟨V, hV⟩ : ∃ V, w5.alloc (bkA (.slice fa b.first.length fc) (.slice wa b.flows.length ww) (.slice ra b.reads.length rc)) = V := ⟨_, rfl⟩
            obtain ⟨eV, bV, sV⟩ := boxed hV
            have hVlt : w5.heap.size < V.heap.size := by omega
            have hV5 := Lib.hid (below_tr h5'.out bV)
            have hrdV := (hbx.out.mono bV).reads
            go_upto_region 15 with fail
            clear hV sV y0 x0 d1 d2 d3 d4 d5 d6
            obtain ⟨q0, q1, q2⟩ := rc3 (kept_block hV5.out hC0.out)
            have z0 := (Array.getElem?_eq_some_iff.1 (kept_block hV5.out hC0.out)).1
            have hEV := Lib.hid eV
            clear eV
            go_upto_region 16 with (first
              | (at_builtin; refine wpList_app_rds (by rfl) _ _ (by rfl) V.heap.size V (.slice ra b.reads.length rc) b.reads (by rfl) (by rfl) hrdV hl32 (Nat.le_refl _) ?_; intro v1 w1 ho1 hg1 hat1; obtain ⟨a1, c4, he1⟩ := ho1.slice; subst he1; have hB1 := grown0T (Below.refl V.heap.size V) (Nat.le_refl _) hg1)
              | (at_builtin; refine wpList_app_rd (by rfl) _ _ (by rfl) V.heap.size _ (.slice a1 b.reads.length c4) b.reads ⟨d, z, ⟨C + y - wrong, C + y + wrong⟩⟩ w1.heap.size (by rfl) (by rfl) (ho1.mono ((Below.refl _ _).alloc (Nat.le_refl _) _)) hl32 (hB1.alloc hB1.size _).size (World.alloc_heap_new _ _) ?_; intro v3 w3 ho3 hg3 hat3; obtain ⟨a3, c5, he3⟩ := ho3.slice; subst he3; have hB3 := (hB1.alloc hB1.size (.cells #[.int .i64 d, .int .i64 z, .int .i64 (C + y - wrong), .int .i64 (C + y + wrong)] 57)).grown hg3 (hB1.alloc hB1.size _).size (fun k e => (ho1.lt k e).1); obtain ⟨p0, p1, p2⟩ := rc3 (kept_block hB3 hEV.out); obtain ⟨f0, f1, f2⟩ := rf3 (kept_block hB3 hEV.out); have zx := (Array.getElem?_eq_some_iff.1 (kept_block hB3 hEV.out)).1))
            obtain ⟨R, hR⟩ : ∃ R : Rd, (⟨d, z, ⟨C + y - wrong, C + y + wrong⟩⟩ : Rd) = R := ⟨_, rfl⟩
            rw [hR] at her2 hag ho3
            have hll : (b.reads ++ [R]).length = b.reads.length + 1 := by simp
            rw [hll] at ho3
            obtain ⟨U, hU⟩ : ∃ U, w3.setCell ⟨w5.heap.size, 2, none⟩ (.slice a3 (b.reads.length + 1) c5) = U := ⟨_, rfl⟩
            have eU := set_one (kept_block hB3 hEV.out) 2 (.slice a3 (b.reads.length + 1) c5)
            simp only [List.setIfInBounds_toArray, List.set_cons_succ, List.set_cons_zero] at eU
            rw [hU] at eU ⊢
            have hBU : Below w5.heap.size w5 U := by rw [← hU]; exact (below_tr bV hB3).setCell (p := ⟨w5.heap.size, 2, none⟩) (Nat.le_refl _) _
            have hrU : RdsAt U (.slice a3 (b.reads.length + 1) c5) (b.reads ++ [R]) := by rw [← hU]; exact OwnRds.rds (OwnSt.cellset ho3 (p := ⟨w5.heap.size, 2, none⟩) hVlt _)
            have hx5 := hbx.out.mono hBU
            have hxU : BookAt U (.slice fa b.first.length fc) (.slice wa b.flows.length ww) (.slice a3 (b.reads.length + 1) c5) (b.more R) := ⟨hx5.first, hx5.flows, hrU⟩
            have hwU := Lib.hid (below_tr h5'.out hBU)
            have kA := Lib.hid (fun X (h : Below U.heap.size U X) => agreeFormT _ _ _ (b.more R) ga X (hxU.mono h) her2 (show (b.more R).gsB ga = true from hgg'.out.1) hag.1)
            have kO := Lib.hid (fun X (h : Below U.heap.size U X) => agreeFormT _ _ _ (b.more R) gb X (hxU.mono h) her2 (show (b.more R).gsB gb = true from hgg'.out.2) hag.2)
            have hEU := Lib.hid eU
            clear hU ho1 ho3 hg1 hg3 hat1 hat3 hB1 hB3 hBU hrU hx5 hxU her2 hag hez2 p0 p1 p2 f0 f1 f2 zx eU hR hll q0 q1 q2 z0 hV5 hEV bV hVlt hrdV hbx h5' htold' hcb' hl32
            obtain ⟨q0, q1, q2⟩ := rc3 (kept_block hwU.out hC0.out)
            obtain ⟨g0, g1, g2⟩ := rc3 (kept_block hwU.out hC1.out)
            obtain ⟨j0, j1, j2⟩ := rc3 (kept_block hwU.out hC2.out)
            have z0 := (Array.getElem?_eq_some_iff.1 (kept_block hwU.out hC0.out)).1
            have z1 := (Array.getElem?_eq_some_iff.1 (kept_block hwU.out hC1.out)).1
            have z2 := (Array.getElem?_eq_some_iff.1 (kept_block hwU.out hC2.out)).1
            obtain ⟨x0, x1, x2⟩ := rc3 hEU.out
            have zx := (Array.getElem?_eq_some_iff.1 hEU.out).1
            go_wp2_with (first
              | (go_at_call 39; (with_reducible refine Calls.mono (kA.out _ (Below.refl _ _)) ?_); rintro e w6 ⟨rfl, hB6⟩; have h6 := below_tr hwU.out hB6; obtain ⟨q0, q1, q2⟩ := rc3 (kept_block h6 hC0.out); obtain ⟨g0, g1, g2⟩ := rc3 (kept_block h6 hC1.out); obtain ⟨j0, j1, j2⟩ := rc3 (kept_block h6 hC2.out); have z0 := (Array.getElem?_eq_some_iff.1 (kept_block h6 hC0.out)).1; have z1 := (Array.getElem?_eq_some_iff.1 (kept_block h6 hC1.out)).1; have z2 := (Array.getElem?_eq_some_iff.1 (kept_block h6 hC2.out)).1; obtain ⟨x0, x1, x2⟩ := rc3 (kept_block hB6 hEU.out); have zx := (Array.getElem?_eq_some_iff.1 (kept_block hB6 hEU.out)).1)
              | (go_at_call 39; (with_reducible refine Calls.mono (kO.out _ hB6) ?_); rintro e w7 ⟨rfl, hB7⟩)
              | (go_at_call 18; (with_reducible refine Calls.mono (kK.out _) ?_); rintro e w9 ⟨rfl, hB9⟩))
            go_ret
            exact ⟨rfl, below_tr hwx.out (below_tr h6 (below_tr hB7 hB9))⟩
      · rcases htz with rfl | rfl
        all_goals
          go_wp2_with (first | (go_at_call 37; (with_reducible refine Calls.mono (kC.out _ (Below.refl _ _)) ?_); rintro e w2 ⟨ca, cc, rfl, h2, hcv⟩; obtain ⟨q0, q1, q2⟩ := rc3 (kept_block h2 hC0.out); obtain ⟨g0, g1, g2⟩ := rc3 (kept_block h2 hC1.out); obtain ⟨j0, j1, j2⟩ := rc3 (kept_block h2 hC2.out); have z0 := (Array.getElem?_eq_some_iff.1 (kept_block h2 hC0.out)).1; have z1 := (Array.getElem?_eq_some_iff.1 (kept_block h2 hC1.out)).1; have z2 := (Array.getElem?_eq_some_iff.1 (kept_block h2 hC2.out)).1) | (go_at_call 38; (with_reducible refine Calls.mono (kD.out _ _ h2 hcv) ?_); rintro e w4 ⟨rfl, hB4⟩; have h4 := below_tr h2 hB4; obtain ⟨q0, q1, q2⟩ := rc3 (kept_block h4 hC0.out); obtain ⟨g0, g1, g2⟩ := rc3 (kept_block h4 hC1.out); obtain ⟨j0, j1, j2⟩ := rc3 (kept_block h4 hC2.out); have z0 := (Array.getElem?_eq_some_iff.1 (kept_block h4 hC0.out)).1; have z1 := (Array.getElem?_eq_some_iff.1 (kept_block h4 hC1.out)).1; have z2 := (Array.getElem?_eq_some_iff.1 (kept_block h4 hC2.out)).1) | (go_at_call 31; (with_reducible refine Calls.mono (kT.out _ h4) ?_); rintro e w5 ⟨rfl, hB5⟩; have h5 := below_tr h4 hB5; obtain ⟨q0, q1, q2⟩ := rc3 (kept_block h5 hC0.out); obtain ⟨g0, g1, g2⟩ := rc3 (kept_block h5 hC1.out); obtain ⟨j0, j1, j2⟩ := rc3 (kept_block h5 hC2.out); have z0 := (Array.getElem?_eq_some_iff.1 (kept_block h5 hC0.out)).1; have z1 := (Array.getElem?_eq_some_iff.1 (kept_block h5 hC1.out)).1; have z2 := (Array.getElem?_eq_some_iff.1 (kept_block h5 hC2.out)).1) | (go_at_call 18; (with_reducible refine Calls.mono (kK.out _) ?_); rintro e w9 ⟨rfl, hB9⟩))
          go_ret
          exact ⟨rfl, below_tr hwx.out (below_tr h5 hB9)⟩
  · clear hF hbV hxV hyV hC0 hC1 hC2
    go_wp2_with (go_at_call 18; (with_reducible refine Calls.mono (kK.out _) ?_); rintro e w3 ⟨rfl, hB3⟩)
    go_ret
    exact ⟨rfl, below_tr hwx.out hB3⟩
end Go.Proofs.Ytddmfkhmhdddeaa
