/- Walks: the law LeakSizes. -/
import Derived.Test.YtddmfkhmhdddeaaRSu
set_option linter.unusedVariables false
set_option linter.unusedSimpArgs false
namespace Go.Proofs.Ytddmfkhmhdddeaa
open Go.RowKit Go.Sd Lk

/-- What Suspects tells, in one form. -/
theorem susForm (fv wv rv : Value) (b : Bk) (w : World) (hb : BookAt w fv wv rv b) :
    Calls Try.prog 33 #[bkV fv wv rv] w fun e w' => ∃ a n c, e = .returned (.tuple #[.slice a n c, .int .i64 (b.err true)]) ∧ Below w.heap.size w w' ∧
      Hid ((b.err true ≠ 0 ∧ n = 0) ∨ (b.err true = 0 ∧ SusAt w' (.slice a n c) b.susL)) :=
  (progSuspects fv wv rv b w hb).mono (by
    rintro e w' ⟨hB, ⟨h, rfl⟩ | ⟨h, a, c, rfl, hv⟩⟩
    · exact ⟨_, _, _, rfl, hB, Lib.hid (.inl ⟨h, rfl⟩)⟩
    · exact ⟨_, _, _, by rw [h], hB, Lib.hid (.inr ⟨h, hv⟩)⟩)

set_option maxRecDepth 100000 in
set_option maxHeartbeats 4000000 in
theorem lawSizes (fv wv rv : Value) (b : Bk) (zone since : Int) (w : World) (hb : BookAt w fv wv rv b) :
    Calls Try.prog 15 #[bkV fv wv rv, .int .i64 zone, .int .i64 since] w fun e w' => e = .returned (.bool true) ∧ Below w.heap.size w w' := by
  have kK := Lib.hid (fun X => progKnown X)
  obtain ⟨W, hW⟩ : ∃ W, w.alloc (bkA fv wv rv) = W := ⟨_, rfl⟩
  obtain ⟨e0, B1, s1⟩ := boxed hW
  have hbW := hb.mono B1
  have kS0 := lawShort fv wv rv b W hbW
  have kZ0 := fun X (h : Below W.heap.size W X) => progSizes fv wv rv b zone since X (hbW.mono h)
  have kL0 := fun X (h : Below W.heap.size W X) => susForm fv wv rv b X (hbW.mono h)
  have kC0 := fun X (h : Below W.heap.size W X) => progCertain fv wv rv b X (hbW.mono h)
  have kB0 := fun X (h : Below W.heap.size W X) => lawBooked fv wv rv b true X (hbW.mono h)
  have kP0 := fun (ok : Ok b) X (h : Below W.heap.size W X) => refSuspects fv wv rv b X (hbW.mono h) ok
  have kD0 := fun (ok : Ok b) X (h : Below W.heap.size W X) => refCertain fv wv rv b X (hbW.mono h) ok
  have kQ0 := fun (ok : Ok b) (z : Nat) (hz : z < b.first.length) (hs : 0 ≤ since ∧ since ≤ 1000) X (h : Below W.heap.size W X) => sizesForm fv wv rv b z since X (hbW.mono h) ok hz hs
  unfold CertPost at kC0
  have hez := Lib.hid (err_zero (b := b) (f := true))
  obtain ⟨fa, fc, rfl, hfm, -⟩ := hb.first.form
  obtain ⟨wa, wc, rfl, hwm, -⟩ := hb.flows.form
  obtain ⟨ra, rc, rfl, hrm, -⟩ := hb.reads.form
  obtain ⟨q0, q1, q2⟩ := rc3 e0
  have z0 := (Array.getElem?_eq_some_iff.1 e0).1
  have hwB := Lib.hid B1
  have he0 := Lib.hid e0
  replace hW := Lib.hid hW
  clear hb hbW e0 s1 B1
  cases hs : b.shortB
  · rw [hs] at kS0
    have kS := Lib.hid kS0
    clear kS0 kZ0 kL0 kC0 kB0 kP0 kD0 kQ0 hez hs
    go_enter Try.func15, Try.ntmps15
    go_wp2_with (first
      | (go_at_call 17; rw [hW.out]; (with_reducible refine Calls.mono kS.out ?_); rintro e w1 ⟨rfl, h1⟩)
      | (go_at_call 18; (with_reducible refine Calls.mono (kK.out _) ?_); rintro e w3 ⟨rfl, hB3⟩))
    go_ret
    exact ⟨rfl, below_tr hwB.out (below_tr h1 hB3)⟩
  · rw [hs] at kS0
    have kS := Lib.hid kS0
    have hszr := Lib.hid (⟨szR_err (b := b) (z := zone) (since := since), szR_arg (b := b) (z := zone) (since := since), szR_none (b := b) (z := zone) (since := since), szR_ok (b := b) (z := zone) (since := since)⟩ : _ ∧ _ ∧ _ ∧ _)
    obtain ⟨S, E, hSE⟩ : ∃ S E, b.szR zone since = (S, E) := ⟨_, _, rfl⟩
    rw [hSE] at kZ0
    have kZ := Lib.hid kZ0
    replace hSE := Lib.hid hSE
    obtain ⟨C, hC⟩ : ∃ C, (decide (b.err true = 0) && b.certB) = C := ⟨_, rfl⟩
    rw [hC] at kC0
    have kC := Lib.hid kC0
    replace hC := Lib.hid hC
    have kL := Lib.hid kL0
    have kB := Lib.hid kB0
    replace kP0 := Lib.hid kP0
    replace kD0 := Lib.hid kD0
    replace kQ0 := Lib.hid kQ0
    clear kS0 kZ0 kL0 kC0 kB0 hs
    generalize b.err true = ET at *
    go_enter Try.func15, Try.ntmps15
    go_upto_region 7 with (first
      | (go_at_call 17; rw [hW.out]; (with_reducible refine Calls.mono kS.out ?_); rintro e w1 ⟨rfl, h1⟩; obtain ⟨q0, q1, q2⟩ := rc3 (kept_block h1 he0.out); have z0 := (Array.getElem?_eq_some_iff.1 (kept_block h1 he0.out)).1)
      | (go_at_call 44; (with_reducible refine Calls.mono (kZ.out w1 h1) ?_); rintro e w2 ⟨rfl, hB⟩; obtain ⟨N, hN⟩ : ∃ N, w2.alloc (spO S) = N := ⟨_, rfl⟩; obtain ⟨en, BN, sN⟩ := boxed hN; obtain ⟨n0, n1⟩ := rc2 en; have zn := (Array.getElem?_eq_some_iff.1 en).1; have h2 := below_tr h1 (below_tr hB BN); clear sN; obtain ⟨q0, q1, q2⟩ := rc3 (kept_block h2 he0.out); have z0 := (Array.getElem?_eq_some_iff.1 (kept_block h2 he0.out)).1)
      | (go_at_call 33; (with_reducible refine Calls.mono (kL.out N h2) ?_); rintro e w3 ⟨la, ln, lc, rfl, hB3, hor⟩; have h3 := below_tr h2 hB3; obtain ⟨q0, q1, q2⟩ := rc3 (kept_block h3 he0.out); have z0 := (Array.getElem?_eq_some_iff.1 (kept_block h3 he0.out)).1)
      | (go_at_call 34; (with_reducible refine Calls.mono (kC.out w3 h3) ?_); rintro e w4 ⟨rfl, hB4⟩; have h4 := below_tr h3 hB4; obtain ⟨q0, q1, q2⟩ := rc3 (kept_block h4 he0.out); have z0 := (Array.getElem?_eq_some_iff.1 (kept_block h4 he0.out)).1)
      | (go_at_call 20; (with_reducible refine Calls.mono (kB.out w4 h4) ?_); rintro e w5 ⟨rfl, hB5⟩; have h5 := below_tr h4 hB5))
    have en5 := Lib.hid (kept_block (below_tr hB3 (below_tr hB4 hB5)) en)
    have h35 := Lib.hid (below_tr hB4 hB5)
    have hi5 := Lib.hid h5
    clear h1 h2 h3 h4 h5 hB hB3 hB4 hB5 en BN n0 n1 zn hN q0 q1 q2 z0 kS kZ kC kL kB
    obtain ⟨V, rfl⟩ : ∃ V : World, V = w5 := ⟨_, rfl⟩
    obtain ⟨q0, q1, q2⟩ := rc3 (kept_block hi5.out he0.out)
    have z0 := (Array.getElem?_eq_some_iff.1 (kept_block hi5.out he0.out)).1
    obtain ⟨n0, n1⟩ := rc2 en5.out
    have zn := (Array.getElem?_eq_some_iff.1 en5.out).1
    have hwx := Lib.hid (below_tr hwB.out hi5.out)
    by_cases h : ET = 0
    · rcases hor.out with ⟨h', -⟩ | ⟨-, hv⟩
      · exact absurd h h'
      have h0 := hez.out h
      have ok := Lib.hid (ok_of h0.2.1 h0.1)
      have hCb : b.certB = C := by rw [← hC.out, h]; simp
      have kP := Lib.hid (kP0.out ok.out)
      have kD1 := kD0.out ok.out
      rw [hCb] at kD1
      have kD := Lib.hid kD1
      have hv5 := Lib.hid (hv.mono h35.out)
      have kQ := Lib.hid (kQ0.out ok.out)
      have hz1 := Lib.hid (hszr.out.2.1 h)
      have hz2 := Lib.hid (hszr.out.2.2.1 h)
      have hz3 := Lib.hid (hszr.out.2.2.2 h)
      have hnd := ok.out.nd
      have hnz := ok.out.nz
      subst h
      clear hez h0 hC hCb kP0 kD0 kQ0 kD1 hor hv hszr
      have hC2 : decide (C = C) = true := by simp
      go_upto_region 11 with (first
        | (go_at_call 46; (with_reducible refine Calls.mono (kP.out V hi5.out) ?_); rintro e w6 ⟨⟨a6, c6, rfl, hv6⟩, hB6⟩; have h6 := below_tr hi5.out hB6; obtain ⟨q0, q1, q2⟩ := rc3 (kept_block h6 he0.out); have z0 := (Array.getElem?_eq_some_iff.1 (kept_block h6 he0.out)).1)
        | (go_at_call 45; (with_reducible refine Calls.mono (refSameSus _ _ _ w6 (hv5.out.mono hB6) hv6) ?_); rintro e w7 ⟨rfl, hB7⟩; have h7 := below_tr h6 hB7; obtain ⟨q0, q1, q2⟩ := rc3 (kept_block h7 he0.out); have z0 := (Array.getElem?_eq_some_iff.1 (kept_block h7 he0.out)).1)
        | (go_at_call 47; (with_reducible refine Calls.mono (kD.out w7 h7) ?_); rintro e w8 ⟨rfl, hB8⟩; have h8 := below_tr h7 hB8))
      have en8 := Lib.hid (kept_block (below_tr hB6 (below_tr hB7 hB8)) en5.out)
      have hi8 := Lib.hid h8
      have hwy := Lib.hid (below_tr hwB.out h8)
      clear h6 h7 h8 hB6 hB7 hB8 hv6 kP kD hv5 n0 n1 zn en5 hi5 hwx q0 q1 q2 z0 hC2 h35
      obtain ⟨q0, q1, q2⟩ := rc3 (kept_block hi8.out he0.out)
      have z0 := (Array.getElem?_eq_some_iff.1 (kept_block hi8.out he0.out)).1
      obtain ⟨n0, n1⟩ := rc2 en8.out
      have zn := (Array.getElem?_eq_some_iff.1 en8.out).1
      rcases Int.lt_or_le zone 0 with hc1 | hc1
      · have hS := hSE.out
        rw [hz1.out (by rw [show inB zone 0 (b.first.length - 1) = false from inB_not.2 (by omega)]; rfl)] at hS
        obtain ⟨rfl, rfl⟩ : (⟨0, 0⟩ : Sp) = S ∧ 2 = E := by simpa using hS
        clear hz1 hz2 hz3 hSE hS kQ
        go_wp2_with (go_at_call 18; (with_reducible refine Calls.mono (kK.out _) ?_); rintro e w9 ⟨rfl, hB9⟩)
        go_ret
        exact ⟨rfl, below_tr hwy.out hB9⟩
      · rcases Int.lt_or_le zone b.first.length with hc2 | hc2
        · rcases Int.lt_or_le since 0 with hc3 | hc3
          · have hS := hSE.out
            rw [hz1.out (by rw [show inB since 0 (b.flows.length - 1) = false from inB_not.2 (by omega), Bool.and_false])] at hS
            obtain ⟨rfl, rfl⟩ : (⟨0, 0⟩ : Sp) = S ∧ 2 = E := by simpa using hS
            clear hz1 hz2 hz3 hSE hS kQ
            go_wp2_with (go_at_call 18; (with_reducible refine Calls.mono (kK.out _) ?_); rintro e w9 ⟨rfl, hB9⟩)
            go_ret
            exact ⟨rfl, below_tr hwy.out hB9⟩
          · rcases Int.lt_or_le since b.flows.length with hc4 | hc4
            · have hin : (inB zone 0 (b.first.length - 1) && inB since 0 (b.flows.length - 1)) = true := by rw [Bool.and_eq_true, inB_iff, inB_iff]; omega
              obtain ⟨z, rfl⟩ : ∃ z : Nat, zone = z := ⟨zone.toNat, by omega⟩
              have kQ1 := kQ.out z (by omega) ⟨hc3, by omega⟩ w8 hi8.out
              have hz2' := hz2.out hin
              have hz3' := hz3.out hin
              rw [Int.toNat_natCast] at hz2' hz3'
              generalize b.sizesK z since = s at *
              by_cases hs : s.lo ≤ s.hi
              · have hS := hSE.out
                rw [hz3' (by omega)] at hS
                obtain ⟨rfl, rfl⟩ : s = S ∧ 0 = E := by simpa using hS
                have kX : Hid (Calls Try.prog 48 _ w8 fun e w' => e = .returned (.tuple #[spV s, .bool true]) ∧ Below w8.heap.size w8 w') := Lib.hid (kQ1.mono (by
                  rintro e w' ⟨⟨x, rfl, hx⟩, hB⟩
                  refine ⟨?_, hB⟩
                  rw [hx hs, decide_eq_true hs]))
                clear hz1 hz2 hz3 hz2' hz3' hSE hS kQ kQ1 hin
                go_wp2_with (first
                  | (go_at_call 48; (with_reducible refine Calls.mono kX.out ?_); rintro e w10 ⟨rfl, hB10⟩; obtain ⟨M, hM⟩ : ∃ M, w10.alloc (spO s) = M := ⟨_, rfl⟩; obtain ⟨em, bM, sM⟩ := boxed hM; obtain ⟨m0, m1⟩ := rc2 em; have zm := (Array.getElem?_eq_some_iff.1 em).1; have hBM := below_tr hB10 bM; obtain ⟨n0, n1⟩ := rc2 (kept_block hBM en8.out); have zn := (Array.getElem?_eq_some_iff.1 (kept_block hBM en8.out)).1; clear sM)
                  | (go_at_call 18; (with_reducible refine Calls.mono (kK.out _) ?_); rintro e w9 ⟨rfl, hB9⟩))
                go_ret
                exact ⟨rfl, below_tr hwy.out (below_tr hBM hB9)⟩
              · have hS := hSE.out
                rw [hz2' (by omega)] at hS
                obtain ⟨rfl, rfl⟩ : (⟨0, 0⟩ : Sp) = S ∧ 5 = E := by simpa using hS
                have kX : Hid (Calls Try.prog 48 _ w8 fun e w' => (∃ x : Sp, e = .returned (.tuple #[spV x, .bool false])) ∧ Below w8.heap.size w8 w') := Lib.hid (kQ1.mono (by
                  rintro e w' ⟨⟨x, rfl, -⟩, hB⟩
                  exact ⟨⟨x, by rw [decide_eq_false hs]⟩, hB⟩))
                clear hz1 hz2 hz3 hz2' hz3' hSE hS kQ kQ1 hin
                go_wp2_with (first
                  | (go_at_call 48; (with_reducible refine Calls.mono kX.out ?_); rintro e w10 ⟨⟨x, rfl⟩, hB10⟩; obtain ⟨M, hM⟩ : ∃ M, w10.alloc (spO x) = M := ⟨_, rfl⟩; obtain ⟨em, bM, sM⟩ := boxed hM; obtain ⟨m0, m1⟩ := rc2 em; have zm := (Array.getElem?_eq_some_iff.1 em).1; have hBM := below_tr hB10 bM; obtain ⟨n0, n1⟩ := rc2 (kept_block hBM en8.out); have zn := (Array.getElem?_eq_some_iff.1 (kept_block hBM en8.out)).1; clear sM)
                  | (go_at_call 18; (with_reducible refine Calls.mono (kK.out _) ?_); rintro e w9 ⟨rfl, hB9⟩))
                go_ret
                exact ⟨rfl, below_tr hwy.out (below_tr hBM hB9)⟩
            · have hS := hSE.out
              rw [hz1.out (by rw [show inB since 0 (b.flows.length - 1) = false from inB_not.2 (by omega), Bool.and_false])] at hS
              obtain ⟨rfl, rfl⟩ : (⟨0, 0⟩ : Sp) = S ∧ 2 = E := by simpa using hS
              clear hz1 hz2 hz3 hSE hS kQ
              go_wp2_with (go_at_call 18; (with_reducible refine Calls.mono (kK.out _) ?_); rintro e w9 ⟨rfl, hB9⟩)
              go_ret
              exact ⟨rfl, below_tr hwy.out hB9⟩
        · have hS := hSE.out
          rw [hz1.out (by rw [show inB zone 0 (b.first.length - 1) = false from inB_not.2 (by omega)]; rfl)] at hS
          obtain ⟨rfl, rfl⟩ : (⟨0, 0⟩ : Sp) = S ∧ 2 = E := by simpa using hS
          clear hz1 hz2 hz3 hSE hS kQ
          go_wp2_with (go_at_call 18; (with_reducible refine Calls.mono (kK.out _) ?_); rintro e w9 ⟨rfl, hB9⟩)
          go_ret
          exact ⟨rfl, below_tr hwy.out hB9⟩
    · rcases hor.out with ⟨-, rfl⟩ | ⟨h', -⟩
      · have hCf : C = false := by rw [← hC.out]; simp [h]
        subst hCf
        have hS := hSE.out
        rw [hszr.out.1 h] at hS
        obtain ⟨rfl, rfl⟩ : (⟨0, 0⟩ : Sp) = S ∧ ET = E := by simpa using hS
        have hd : decide (ET = 0) = false := by simpa using h
        clear hez hC kP0 kD0 kQ0 hor hszr hSE hS
        go_wp2_with (go_at_call 18; (with_reducible refine Calls.mono (kK.out _) ?_); rintro e w6 ⟨rfl, hB6⟩)
        go_ret
        exact ⟨rfl, below_tr hwx.out hB6⟩
      · exact absurd h' h
end Go.Proofs.Ytddmfkhmhdddeaa
