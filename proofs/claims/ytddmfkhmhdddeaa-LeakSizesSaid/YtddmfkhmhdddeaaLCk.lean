/- Walks: the law LeakChecks. -/
import Derived.Test.YtddmfkhmhdddeaaRFo
import Derived.Test.YtddmfkhmhdddeaaRAg
import Derived.Test.YtddmfkhmhdddeaaBok
import Derived.Test.YtddmfkhmhdddeaaKno
set_option linter.unusedVariables false
set_option linter.unusedSimpArgs false
namespace Go.Proofs.Ytddmfkhmhdddeaa
open Go.RowKit Go.Sd Lk

theorem fwdOk {b : Bk} {g : Gs} (fv wv rv : Value) (ok : Ok b) (hg : b.gsB g = true) : FwdOk b g fv wv rv := by
  intro z w hz hb
  refine (refForward fv wv rv b g z w hb ok hg hz).mono ?_
  rintro e w' ⟨hB, ⟨h, a, cap, rfl, ho⟩ | ⟨h, rfl⟩⟩
  · exact ⟨hB, _, by rw [h], fun _ => ho.sps⟩
  · exact ⟨hB, _, by rw [h], fun h' => by rw [h] at h'; cases h'⟩

set_option maxRecDepth 100000 in
set_option maxHeartbeats 4000000 in
theorem lawChecks (fv wv rv : Value) (b : Bk) (g : Gs) (w : World) (hb : BookAt w fv wv rv b) :
    Calls Try.prog 14 #[bkV fv wv rv, gsV g] w fun e w' => e = .returned (.bool true) ∧ Below w.heap.size w w' := by
  have kK := Lib.hid (fun X => progKnown X)
  obtain ⟨W, hW⟩ : ∃ W, (w.alloc (bkA fv wv rv)).alloc (gsO g) = W := ⟨_, rfl⟩
  obtain ⟨e0, e1, s1, B1⟩ := two_new hW
  have hbW := hb.mono B1
  have kS0 := lawShort fv wv rv b W hbW
  have kA0 := fun X (h : Below W.heap.size W X) => progAgree fv wv rv b g X (hbW.mono h)
  have kC0 := fun X (h : Below W.heap.size W X) => progCheck fv wv rv b X (hbW.mono h)
  have kB0 := fun f X (h : Below W.heap.size W X) => lawBooked fv wv rv b f X (hbW.mono h)
  have kG0 := fun X (h : Below W.heap.size W X) => (refGuess fv wv rv b g X (hbW.mono h)).mono (fun e w' (h : BoolB _ _ e w') => h.lit rfl)
  have kR0 := fun (ok : Ok b) (hg : b.gsB g = true) X (h : Below W.heap.size W X) => refAgree fv wv rv b g X (hbW.mono h) (fwdOk fv wv rv ok hg)
  unfold AgreePost at kA0
  have hez := Lib.hid (err_zero (b := b) (f := b.gsB g))
  obtain ⟨fa, fc, rfl, hfm, -⟩ := hb.first.form
  obtain ⟨wa, wc, rfl, hwm, -⟩ := hb.flows.form
  obtain ⟨ra, rc, rfl, hrm, -⟩ := hb.reads.form
  obtain ⟨q0, q1, q2⟩ := rc3 e0
  obtain ⟨g0, g1, g2⟩ := rc3 e1
  have z0 := (Array.getElem?_eq_some_iff.1 e0).1
  have z1 := (Array.getElem?_eq_some_iff.1 e1).1
  have hwB := Lib.hid B1
  have he0 := Lib.hid e0
  have he1 := Lib.hid e1
  replace hW := Lib.hid hW
  clear hb hbW e0 e1 s1 B1
  cases hs : b.shortB
  · rw [hs] at kS0
    have kS := Lib.hid kS0
    clear kS0 kA0 kC0 kB0 kG0 kR0 hez hs
    go_enter Try.func14, Try.ntmps14
    go_wp2_with (first
      | (go_at_call 17; rw [hW.out]; (with_reducible refine Calls.mono kS.out ?_); rintro e w1 ⟨rfl, h1⟩)
      | (go_at_call 18; (with_reducible refine Calls.mono (kK.out _) ?_); rintro e w3 ⟨rfl, hB3⟩))
    go_ret
    exact ⟨rfl, below_tr hwB.out (below_tr h1 hB3)⟩
  · rw [hs] at kS0
    have kS := Lib.hid kS0
    have kC := Lib.hid kC0
    have kB1 := Lib.hid (kB0 true)
    obtain ⟨I, hI⟩ : ∃ I, (decide (b.err (b.gsB g) = 0) && b.agreeB g) = I := ⟨_, rfl⟩
    rw [hI] at kA0
    have kA := Lib.hid kA0
    have kB2 := Lib.hid (kB0 (b.gsB g))
    have kG := Lib.hid kG0
    replace kR0 := Lib.hid kR0
    clear kS0 kA0 kC0 kB0 kG0 hs
    generalize b.err (b.gsB g) = E2 at *
    generalize b.err true = E1 at *
    generalize hGe : b.gsB g = G at *
    replace hGe := Lib.hid hGe
    replace hI := Lib.hid hI
    go_enter Try.func14, Try.ntmps14
    go_upto_region 7 with (first
      | (go_at_call 17; rw [hW.out]; (with_reducible refine Calls.mono kS.out ?_); rintro e w1 ⟨rfl, h1⟩; obtain ⟨q0, q1, q2⟩ := rc3 (kept_block h1 he0.out); obtain ⟨g0, g1, g2⟩ := rc3 (kept_block h1 he1.out); have z0 := (Array.getElem?_eq_some_iff.1 (kept_block h1 he0.out)).1; have z1 := (Array.getElem?_eq_some_iff.1 (kept_block h1 he1.out)).1)
      | (go_at_call 39; (with_reducible refine Calls.mono (kA.out w1 h1) ?_); rintro e w2 ⟨rfl, hB⟩; have h2 := below_tr h1 hB; obtain ⟨q0, q1, q2⟩ := rc3 (kept_block h2 he0.out); obtain ⟨g0, g1, g2⟩ := rc3 (kept_block h2 he1.out); have z0 := (Array.getElem?_eq_some_iff.1 (kept_block h2 he0.out)).1; have z1 := (Array.getElem?_eq_some_iff.1 (kept_block h2 he1.out)).1)
      | (go_at_call 43; (with_reducible refine Calls.mono (kC.out w2 h2) ?_); rintro e w3 ⟨rfl, hB⟩; have h3 := below_tr h2 hB; obtain ⟨q0, q1, q2⟩ := rc3 (kept_block h3 he0.out); obtain ⟨g0, g1, g2⟩ := rc3 (kept_block h3 he1.out); have z0 := (Array.getElem?_eq_some_iff.1 (kept_block h3 he0.out)).1; have z1 := (Array.getElem?_eq_some_iff.1 (kept_block h3 he1.out)).1)
      | (go_at_call 20; (with_reducible refine Calls.mono (kB1.out w3 h3) ?_); rintro e w4 ⟨rfl, hB⟩; have h4 := below_tr h3 hB))
    have hi4 := Lib.hid h4
    clear h1 h2 h3 h4 kS kA kC kB1
    refine plain_region (by kernel_rfl) (any_region_locN 5 54 [] [25, 26, 27, 28, 29] [[], [], [], [1, 2], [0, 3]] [IsV (bkV (.slice fa b.first.length fc) (.slice wa b.flows.length wc) (.slice ra b.reads.length rc)), IsV (bkV (.slice fa b.first.length fc) (.slice wa b.flows.length wc) (.slice ra b.reads.length rc)), IsV (gsV g), IsV (.bool G), IsV (.int .i64 E2)] [] (by kernel_rfl) (by kernel_rfl) (by kernel_rfl) (by kernel_rfl) (by kernel_rfl) rfl OnlyN.panic ?_ ?_ ?_ (fun j hj => nomatch hj) ?_)
    · exact List.forall_mem_cons.2 ⟨pers_v _, List.forall_mem_cons.2 ⟨pers_v _, List.forall_mem_cons.2 ⟨pers_v _, List.forall_mem_cons.2 ⟨pers_v _, List.forall_mem_cons.2 ⟨pers_v _, fun f h => nomatch h⟩⟩⟩⟩⟩
    · intro k hk; cases hk
    · refine ⟨?_, ?_, ?_, ?_, ?_, trivial⟩
      · intro vals x hb hf
        simp only [fillS, List.getD_cons_succ, List.getD_cons_zero, Act.put, List.setIfInBounds_toArray, List.set_cons_zero, List.set_cons_succ]
        clear hf
        have hWx := below_tr hi4.out hb
        obtain ⟨p0, p1, p2⟩ := rc3 (kept_block hWx he0.out)
        obtain ⟨p3, p4, p5⟩ := rc3 (kept_block hWx he1.out)
        have zw := (Array.getElem?_eq_some_iff.1 (kept_block hWx he0.out)).1
        have zg := (Array.getElem?_eq_some_iff.1 (kept_block hWx he1.out)).1
        go_wp2
        exact ⟨rfl, rfl, Below.refl _ _, _, rfl, rfl, (fun h => absurd h (by decide))⟩
      · intro vals x hb hf
        simp only [fillS, List.getD_cons_succ, List.getD_cons_zero, Act.put, List.setIfInBounds_toArray, List.set_cons_zero, List.set_cons_succ]
        clear hf
        have hWx := below_tr hi4.out hb
        obtain ⟨p0, p1, p2⟩ := rc3 (kept_block hWx he0.out)
        obtain ⟨p3, p4, p5⟩ := rc3 (kept_block hWx he1.out)
        have zw := (Array.getElem?_eq_some_iff.1 (kept_block hWx he0.out)).1
        have zg := (Array.getElem?_eq_some_iff.1 (kept_block hWx he1.out)).1
        go_wp2
        exact ⟨rfl, rfl, Below.refl _ _, _, rfl, rfl, (fun h => absurd h (by decide))⟩
      · intro vals x hb hf
        simp only [fillS, List.getD_cons_succ, List.getD_cons_zero, Act.put, List.setIfInBounds_toArray, List.set_cons_zero, List.set_cons_succ]
        clear hf
        have hWx := below_tr hi4.out hb
        obtain ⟨p0, p1, p2⟩ := rc3 (kept_block hWx he0.out)
        obtain ⟨p3, p4, p5⟩ := rc3 (kept_block hWx he1.out)
        have zw := (Array.getElem?_eq_some_iff.1 (kept_block hWx he0.out)).1
        have zg := (Array.getElem?_eq_some_iff.1 (kept_block hWx he1.out)).1
        go_wp2
        exact ⟨rfl, rfl, Below.refl _ _, _, rfl, rfl, (fun h => absurd h (by decide))⟩
      · intro vals x hb hf
        simp only [fillS, List.getD_cons_succ, List.getD_cons_zero, Act.put, List.setIfInBounds_toArray, List.set_cons_zero, List.set_cons_succ]
        have h1 : vals 1 = bkV (.slice fa b.first.length fc) (.slice wa b.flows.length wc) (.slice ra b.reads.length rc) := hf.1
        rw [h1]
        clear h1
        have h2 : vals 2 = gsV g := hf.2.1
        rw [h2]
        clear h2
        clear hf
        have hWx := below_tr hi4.out hb
        obtain ⟨p0, p1, p2⟩ := rc3 (kept_block hWx he0.out)
        obtain ⟨p3, p4, p5⟩ := rc3 (kept_block hWx he1.out)
        have zw := (Array.getElem?_eq_some_iff.1 (kept_block hWx he0.out)).1
        have zg := (Array.getElem?_eq_some_iff.1 (kept_block hWx he1.out)).1
        go_wp2_with (go_at_call 21; (with_reducible refine Calls.mono (kG.out x hWx) ?_); rintro e y ⟨rfl, hB⟩)
        exact ⟨rfl, rfl, hB, _, rfl, rfl, (fun h => absurd h (by decide))⟩
      · intro vals x hb hf
        simp only [fillS, List.getD_cons_succ, List.getD_cons_zero, Act.put, List.setIfInBounds_toArray, List.set_cons_zero, List.set_cons_succ]
        have h0 : vals 0 = bkV (.slice fa b.first.length fc) (.slice wa b.flows.length wc) (.slice ra b.reads.length rc) := hf.1
        rw [h0]
        clear h0
        have f3 : (IsV (.bool G)) (vals 3) x := hf.2.1
        clear hf
        have hWx := below_tr hi4.out hb
        obtain ⟨p0, p1, p2⟩ := rc3 (kept_block hWx he0.out)
        obtain ⟨p3, p4, p5⟩ := rc3 (kept_block hWx he1.out)
        have zw := (Array.getElem?_eq_some_iff.1 (kept_block hWx he0.out)).1
        have zg := (Array.getElem?_eq_some_iff.1 (kept_block hWx he1.out)).1
        rw [show vals 3 = .bool G from f3]
        go_wp2_with (go_at_call 20; (with_reducible refine Calls.mono (kB2.out x hWx) ?_); rintro e y ⟨rfl, hB⟩)
        exact ⟨rfl, rfl, hB, _, rfl, rfl, (fun h => absurd h (by decide))⟩
    intro vals x hb hf hp
    have hrange : List.range 5 = [0, 1, 2, 3, 4] := by rfl
    rw [hrange]
    simp only [fillS, List.getD_cons_succ, List.getD_cons_zero, Act.put, List.setIfInBounds_toArray, List.set_cons_zero, List.set_cons_succ]
    have h0 : vals 0 = bkV (.slice fa b.first.length fc) (.slice wa b.flows.length wc) (.slice ra b.reads.length rc) := hf 0 (by omega)
    have h1 : vals 1 = bkV (.slice fa b.first.length fc) (.slice wa b.flows.length wc) (.slice ra b.reads.length rc) := hf 1 (by omega)
    have h2 : vals 2 = gsV g := hf 2 (by omega)
    have f3 : (IsV (.bool G)) (vals 3) x := hf 3 (by omega)
    have f4 : (IsV (.int .i64 E2)) (vals 4) x := hf 4 (by omega)
    rw [h0, h1, h2]
    clear h0 h1 h2 hf hp hrange
    simp only [List.drop_succ_cons, List.drop_zero]
    rw [show vals 4 = .int .i64 E2 from f4]
    have hWx := below_tr hi4.out hb
    clear f3 f4 kB2 kG
    obtain ⟨q0, q1, q2⟩ := rc3 (kept_block hWx he0.out)
    obtain ⟨g0, g1, g2⟩ := rc3 (kept_block hWx he1.out)
    have z0 := (Array.getElem?_eq_some_iff.1 (kept_block hWx he0.out)).1
    have z1 := (Array.getElem?_eq_some_iff.1 (kept_block hWx he1.out)).1
    have hwx := Lib.hid (below_tr hwB.out hWx)
    by_cases h : E2 = 0
    · have h0 := hez.out h
      have kR := kR0.out (ok_of h0.2.1 h0.1) h0.2.2
      have hIa : b.agreeB g = I := by rw [← hI.out, h]; simp
      rw [hIa] at kR
      replace kR := Lib.hid (kR x hWx)
      subst h
      clear hez h0 hIa hI kR0
      cases I
      all_goals
        go_wp2
        refine OnlyN.mk ?_
        go_wp2_with (first
          | (go_at_call 22; (with_reducible refine Calls.mono kR.out ?_); rintro e w5 ⟨rfl, hB5⟩)
          | (go_at_call 18; (with_reducible refine Calls.mono (kK.out _) ?_); rintro e w6 ⟨rfl, hB6⟩))
        go_ret
        exact ⟨rfl, below_tr hwx.out (below_tr hB5 hB6)⟩
    · have hIf : I = false := by rw [← hI.out]; simp [h]
      subst hIf
      have hd : decide (E2 = 0) = false := by simpa using h
      clear hez hI kR0
      go_wp2
      refine OnlyN.mk ?_
      go_wp2_with (go_at_call 18; (with_reducible refine Calls.mono (kK.out _) ?_); rintro e w6 ⟨rfl, hB6⟩)
      go_ret
      exact ⟨rfl, below_tr hwx.out hB6⟩
end Go.Proofs.Ytddmfkhmhdddeaa
