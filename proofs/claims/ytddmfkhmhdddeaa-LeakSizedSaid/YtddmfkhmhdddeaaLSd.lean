/- Walks: the law LeakSized. -/
import Derived.Test.YtddmfkhmhdddeaaSzl
import Derived.Test.YtddmfkhmhdddeaaCer
import Derived.Test.YtddmfkhmhdddeaaBok
import Derived.Test.YtddmfkhmhdddeaaKno
import Derived.Test.YtddmfkhmhdddeaaLoc
import Derived.Deep.Cut
set_option linter.unusedVariables false
set_option linter.unusedSimpArgs false
namespace Lk
theorem gsB_leak {b : Bk} {g : Gs} (h : b.gsB g = true) (hz : 0 ≤ g.zone) : g.zone < b.first.length ∧ (1 ≤ g.size ∧ g.size ≤ 10000000) ∧ (0 ≤ g.since ∧ g.since < b.flows.length) := by
  simp only [Bk.gsB, Bool.or_eq_true, decide_eq_true_eq, Bool.and_eq_true, inB_iff] at h
  rcases h with rfl | h
  · simp [noGs] at hz
  · omega
theorem gsB_lk {b : Bk} {z n s : Int} (hz : 0 ≤ z ∧ z < b.first.length) (hn : 1 ≤ n ∧ n ≤ 10000000) (hs : 0 ≤ s ∧ s < b.flows.length) : b.gsB ⟨z, n, s⟩ = true := by
  simp only [Bk.gsB, Bool.or_eq_true, decide_eq_true_eq, Bool.and_eq_true, inB_iff]
  right; omega
theorem err_two {b : Bk} {f : Bool} (h : b.err f ≠ 0) : b.err f = 2 ∨ b.err f = 3 := by
  unfold Bk.err at h ⊢
  split
  · exact .inr rfl
  · rename_i hl
    rw [if_neg hl] at h
    split
    · rename_i h2; rw [if_pos h2] at h; exact absurd rfl h
    · exact .inl rfl
def szTry (s : Sp) : List Int := [s.lo, s.hi, s.lo - 1, s.hi + 1]
theorem szTry_ok {b : Bk} (ok : Ok b) {z : Nat} (hz : z < b.first.length) {since : Int} (hs : 0 ≤ since) (h : (b.sizesK z since).lo ≤ (b.sizesK z since).hi) {k : Nat} (hk : k < 4) (hm : 1 ≤ at0 (szTry (b.sizesK z since)) k ∧ at0 (szTry (b.sizesK z since)) k ≤ 10000000) :
    b.agreeB ⟨z, at0 (szTry (b.sizesK z since)) k, since⟩ = decide ((k : Int) < 2) := by
  have hin := sizes_agree ok hz (n := at0 (szTry (b.sizesK z since)) k) hs hm
  rw [Bool.eq_iff_iff, ← hin, decide_eq_true_eq]
  generalize b.sizesK z since = s at *
  match k, hk with
  | 0, _ => simp [szTry, at0]; omega
  | 1, _ => simp [szTry, at0]; omega
  | 2, _ => simp [szTry, at0]; omega
  | 3, _ => simp [szTry, at0]; omega
end Lk
namespace Go.Proofs.Ytddmfkhmhdddeaa
open Go.RowKit Go.Sd Lk

set_option maxRecDepth 100000 in
set_option maxHeartbeats 4000000 in
theorem lawSized (fv wv rv : Value) (b : Bk) (ga : Gs) (w : World) (hb : BookAt w fv wv rv b) :
    Calls Try.prog 16 #[bkV fv wv rv, gsV ga] w fun e w' => e = .returned (.bool true) ∧ Below w.heap.size w w' := by
  have kK := Lib.hid (fun X => progKnown X)
  obtain ⟨W, hW⟩ : ∃ W, (w.alloc (bkA fv wv rv)).alloc (gsO ga) = W := ⟨_, rfl⟩
  obtain ⟨e0, e1, s1, B1⟩ := two_new hW
  have hbW := hb.mono B1
  have kS0 := fun gg : Grow W => lawShort fv wv rv b gg.x (hbW.mono gg.h)
  have kG0 := fun gg : Grow W => (refGuess fv wv rv b ga gg.x (hbW.mono gg.h)).mono (fun e w' (h : BoolB _ _ e w') => h.lit rfl)
  have kB0 := fun gg : Grow W => lawBooked fv wv rv b (b.gsB ga) gg.x (hbW.mono gg.h)
  have kZ0 := fun X (h : Below W.heap.size W X) => progSizes fv wv rv b ga.zone ga.since X (hbW.mono h)
  have kA0 := fun (g : Gs) X (h : Below W.heap.size W X) => progAgree fv wv rv b g X (hbW.mono h)
  unfold AgreePost at kA0
  have hez := Lib.hid (err_zero (b := b) (f := b.gsB ga))
  obtain ⟨fa, fc, rfl, hfm, -⟩ := hb.first.form
  obtain ⟨wa, wc, rfl, hwm, -⟩ := hb.flows.form
  obtain ⟨ra, rc, rfl, hrm, -⟩ := hb.reads.form
  obtain ⟨q0, q1, q2⟩ := rc3 e0
  obtain ⟨g0, g1, g2⟩ := rc3 e1
  have z0 := (Array.getElem?_eq_some_iff.1 e0).1
  have z1 := (Array.getElem?_eq_some_iff.1 e1).1
  have hwB := Lib.hid B1
  have he0 := Lib.hid e0
  have he1 := Lib.hid e1
  have hgW := grow_cell W
  have kA := Lib.hid kA0
  have kZ := Lib.hid kZ0
  have hEG : Hid (∀ E2, b.err (b.gsB ga) = E2 → E2 ≠ 0 ∨ E2 = 0) := Lib.hid fun E2 _ => by omega
  clear hb hbW e0 e1 s1 B1 kA0 kZ0 hEG
  cases hs : b.shortB
  · rw [hs] at kS0
    have kS := Lib.hid kS0
    clear kS0 kB0 kG0 hez hs kA kZ
    go_enter Try.func16, Try.ntmps16
    go_wp2
    refine wp_region_grow (by kernel_rfl) (by kernel_rfl) ?_
    repeat (go_big_quiet_step ((first | (with_reducible exact Calls.grow (kS.out _)))))
    refine wpQuiet_nil ?_
    rintro _ ⟨g, rfl⟩
    have hgB := Lib.hid g.h
    generalize g.x = Y at *
    go_wp2_with (go_at_call 18; (with_reducible refine Calls.mono (kK.out _) ?_); rintro e w3 ⟨rfl, hB3⟩)
    go_ret
    exact ⟨rfl, below_tr hwB.out (below_tr hgB.out hB3)⟩
  · rw [hs] at kS0
    have kS := Lib.hid kS0
    have kB := Lib.hid kB0
    have kG := Lib.hid kG0
    clear kS0 kB0 kG0 hs
    by_cases hE : b.err (b.gsB ga) = 0
    · have h0 := hez.out hE
      have ok := Lib.hid (ok_of h0.2.1 h0.1)
      have hgs := h0.2.2
      rw [hE] at kB
      have herr : Hid (b.err true = 0) := Lib.hid (by rw [← hE, hgs])
      rcases Int.lt_or_le ga.zone 0 with hneg | hpos
      · obtain ⟨gz, gn, gs⟩ := ga
        have hnd : decide (gz < 0) = true := by simpa using hneg
        simp only at g0 g1 g2
        clear hez h0 kA kZ hneg hgs hE herr ok
        generalize b.gsB ⟨gz, gn, gs⟩ = G at *
        go_enter Try.func16, Try.ntmps16
        go_wp2
        refine wp_region_grow (by kernel_rfl) (by kernel_rfl) ?_
        repeat (go_big_quiet_step ((first | (with_reducible exact Calls.grow (kS.out _)) | (with_reducible exact Calls.grow (kG.out _)) | (with_reducible exact Calls.grow (kB.out _)))))
        refine wpQuiet_nil ?_
        rintro _ ⟨g, rfl⟩
        have hgB := Lib.hid g.h
        generalize g.x = Y at *
        go_wp2_with (go_at_call 18; (with_reducible refine Calls.mono (kK.out _) ?_); rintro e w3 ⟨rfl, hB3⟩)
        go_ret
        exact ⟨rfl, below_tr hwB.out (below_tr hgB.out hB3)⟩
      · have hnd : decide (ga.zone < 0) = false := by simp; omega
        have hlk := gsB_leak hgs hpos
        obtain ⟨gz, n, since⟩ := ga
        simp only at hpos hlk hnd
        obtain ⟨z, rfl⟩ : ∃ z : Nat, gz = z := ⟨gz.toNat, by omega⟩
        have hz : z < b.first.length := by omega
        have hag := sizes_agree ok.out hz (n := n) hlk.2.2.1 hlk.2.1
        have hrg := sizes_range (b := b) (z := z) (since := since)
        have hin : (inB (z : Int) 0 (b.first.length - 1) && inB since 0 (b.flows.length - 1)) = true := by rw [Bool.and_eq_true, inB_iff, inB_iff]; omega
        have hz2 := szR_none (b := b) (z := z) (since := since) herr.out hin
        have hz3 := szR_ok (b := b) (z := z) (since := since) herr.out hin
        rw [Int.toNat_natCast] at hz2 hz3
        have hty : Hid (∀ k, k < 4 → (b.sizesK z since).lo ≤ (b.sizesK z since).hi → 1 ≤ at0 (szTry (b.sizesK z since)) k ∧ at0 (szTry (b.sizesK z since)) k ≤ 10000000 → ∀ X, Below W.heap.size W X → Calls Try.prog 39 #[bkV (.slice fa b.first.length fc) (.slice wa b.flows.length wc) (.slice ra b.reads.length rc), gsV ⟨z, at0 (szTry (b.sizesK z since)) k, since⟩] X fun e w' => e = .returned (.tuple #[.bool (decide ((k : Int) < 2)), .int .i64 0]) ∧ Below X.heap.size X w') := Lib.hid (by
          intro k hk hs hm X hX
          have := kA.out ⟨z, at0 (szTry (b.sizesK z since)) k, since⟩ X hX
          rw [gsB_lk ⟨by omega, by omega⟩ hm hlk.2.2, herr.out, szTry_ok ok.out hz hlk.2.2.1 hs hk hm] at this
          simpa using this)
        have kA1 := kA.out ⟨z, n, since⟩
        rw [hgs, herr.out] at kA1
        simp only [decide_true, Bool.true_and] at kA1
        have kZ1 := kZ.out
        generalize hI : b.agreeB ⟨z, n, since⟩ = I at *
        generalize b.gsB ⟨z, n, since⟩ = G at *
        by_cases hs : (b.sizesK z since).lo ≤ (b.sizesK z since).hi
        · rw [hz3 (by omega)] at kZ1
          have hr := hrg hs
          have hll : Hid ((szTry (b.sizesK z since)).length = 4) := Lib.hid rfl
          have hty2 := Lib.hid (fun k hk => hty.out k hk hs)
          generalize b.sizesK z since = s at *
          have kA2 := Lib.hid kA1
          have kZ2 := Lib.hid kZ1
          clear kA kZ kA1 kZ1 hz2 hz3 hrg hin herr h0 hez hty hgs hE ok
          go_enter Try.func16, Try.ntmps16
          go_wp2
          refine wp_region_grow (by kernel_rfl) (by kernel_rfl) ?_
          repeat (go_big_quiet_step ((first | (with_reducible exact Calls.grow (kS.out _)) | (with_reducible exact Calls.grow (kG.out _)) | (with_reducible exact Calls.grow (kB.out _)))))
          refine wpQuiet_nil ?_
          rintro _ ⟨g, rfl⟩
          have hgB := Lib.hid g.h
          generalize g.x = Y at *
          obtain ⟨q0, q1, q2⟩ := rc3 (kept_block hgB.out he0.out)
          obtain ⟨g0, g1, g2⟩ := rc3 (kept_block hgB.out he1.out)
          have z0 := (Array.getElem?_eq_some_iff.1 (kept_block hgB.out he0.out)).1
          have z1 := (Array.getElem?_eq_some_iff.1 (kept_block hgB.out he1.out)).1
          go_upto_region 9 with (first
            | (go_at_call 44; (with_reducible refine Calls.mono (kZ2.out _ hgB.out) ?_); rintro e w2 ⟨rfl, hB⟩; obtain ⟨N, hN⟩ : ∃ N, w2.alloc (spO s) = N := ⟨_, rfl⟩; obtain ⟨en, BN, sN⟩ := boxed hN; obtain ⟨n0, n1⟩ := rc2 en; have zn := (Array.getElem?_eq_some_iff.1 en).1; have h2 := below_tr hgB.out (below_tr hB BN); clear sN; obtain ⟨q0, q1, q2⟩ := rc3 (kept_block h2 he0.out); obtain ⟨g0, g1, g2⟩ := rc3 (kept_block h2 he1.out); have z0 := (Array.getElem?_eq_some_iff.1 (kept_block h2 he0.out)).1; have z1 := (Array.getElem?_eq_some_iff.1 (kept_block h2 he1.out)).1)
            | (go_at_call 39; (with_reducible refine Calls.mono (kA2.out _ h2) ?_); rintro e w4 ⟨rfl, hB4⟩))
          have h4 := Lib.hid (below_tr h2 hB4)
          have en4 := Lib.hid (kept_block hB4 en)
          clear n0 n1 zn en BN hN h2 hB hB4 q0 q1 q2 g0 g1 g2 z0 z1
          obtain ⟨q0, q1, q2⟩ := rc3 (kept_block h4.out he0.out)
          obtain ⟨g0, g1, g2⟩ := rc3 (kept_block h4.out he1.out)
          have z0 := (Array.getElem?_eq_some_iff.1 (kept_block h4.out he0.out)).1
          have z1 := (Array.getElem?_eq_some_iff.1 (kept_block h4.out he1.out)).1
          obtain ⟨n0, n1⟩ := rc2 en4.out
          have zn := (Array.getElem?_eq_some_iff.1 en4.out).1
          have hI2 : Hid ((s.lo ≤ n ∧ n ≤ s.hi) ↔ I = true) := Lib.hid hag
          obtain ⟨X, hX⟩ : ∃ X, w4.alloc (.cells #[.int .i64 s.lo, .int .i64 s.hi, .int .i64 (s.lo - 1), .int .i64 (s.hi + 1)] 3) = X := ⟨_, rfl⟩
          obtain ⟨ex, BX, sX⟩ := boxed hX
          have hels := Lib.hid (els_blk intEnc_len 0 (szTry s) ex rfl (by simp [szTry, maxLen]) 4)
          have h5 := Lib.hid (below_tr h4.out BX)
          have hwx := Lib.hid (below_tr hwB.out h5.out)
          clear sX ex BX hag hI
          have hlo1 : decide (s.lo < 1) = false := by simp; omega
          have hlo2 : decide (s.hi < s.lo) = false := by simp; omega
          have hlo3 : decide (10000000 < s.hi) = false := by simp; omega
          rcases Int.lt_or_le n s.lo with hn1 | hn1
          · have hIf : I = false := by
              cases I
              · rfl
              · exact absurd (hI2.out.2 rfl) (by omega)
            subst hIf
            clear hI2
            go_upto_region 11 with fail
            go_wp2
            clear q0 q1 q2 g0 g1 g2 z0 z1 n0 n1 zn hX
            go_loopw [10] (fun i wr => ∃ gg : Grow X, wr = gg.x ∧ ∃ k : Nat, k ≤ 4 ∧ i = .int .i64 k) (fun i _ => 4 - (intOf i).toNat)
            case atStart => exact ⟨Grow.self X, rfl, 0, by omega, rfl⟩
            case round =>
              obtain ⟨gg, rfl, k, hk, rfl⟩ := hrel
              obtain ⟨U, hU⟩ : ∃ U, gg.x = U := ⟨_, rfl⟩
              have hXU : Below X.heap.size X U := by rw [← hU]; exact gg.h
              rw [hU]
              clear hU gg
              have hWU := Lib.hid (below_tr h5.out hXU)
              obtain ⟨q0, q1, q2⟩ := rc3 (kept_block hWU.out he0.out)
              obtain ⟨g0, g1, g2⟩ := rc3 (kept_block hWU.out he1.out)
              have z0 := (Array.getElem?_eq_some_iff.1 (kept_block hWU.out he0.out)).1
              have z1 := (Array.getElem?_eq_some_iff.1 (kept_block hWU.out he1.out)).1
              by_cases hlt : k < 4
              · have hki : (k : Int) < 4 := by omega
                obtain ⟨c1, p1, d1, hw1, hcl1, -, x0⟩ := int_cells (hels.out.mono hXU) (k := k) (by rw [hll.out]; exact hlt)
                obtain ⟨⟨rfl, rfl⟩, rfl⟩ : (w4.heap.size = c1 ∧ 0 = p1) ∧ 4 = d1 := by simpa [hll.out] using hw1
                rw [Nat.zero_add] at x0
                have hty3 := Lib.hid (hty2.out k hlt)
                clear hw1
                generalize at0 (szTry s) k = m at *
                have hXU' := Lib.hid hXU
                clear hXU
                rcases Int.lt_or_le m 1 with hm1 | hm1
                · go_wp2
                  exact ⟨⟨⟨U, hXU'.out⟩, rfl, k + 1, by omega, by go_num⟩, by simp [intOf]; omega⟩
                · rcases Int.lt_or_le 10000000 m with hm2 | hm2
                  · go_wp2
                    exact ⟨⟨⟨U, hXU'.out⟩, rfl, k + 1, by omega, by go_num⟩, by simp [intOf]; omega⟩
                  · have hty4 := Lib.hid (hty3.out ⟨hm1, hm2⟩)
                    obtain ⟨V, hV⟩ : ∃ V, U.alloc (gsO ⟨z, n, since⟩) = V := ⟨_, rfl⟩
                    obtain ⟨ev, BV, sV⟩ := boxed hV
                    obtain ⟨v0, v1, v2⟩ := rc3 ev
                    obtain ⟨o0, o1, o2⟩ := rf3 ev
                    have zv := (Array.getElem?_eq_some_iff.1 ev).1
                    have x0' := kept_cell BV x0
                    go_upto_region 18 with fail
                    obtain ⟨Z, hZ⟩ : ∃ Z, V.setCell ⟨U.heap.size, 1, none⟩ (.int .i64 m) = Z := ⟨_, rfl⟩
                    have eZ := set_one ev 1 (.int .i64 m)
                    simp only [List.setIfInBounds_toArray, List.set_cons_succ, List.set_cons_zero] at eZ
                    have hBZ : Below U.heap.size U Z := by rw [← hZ]; exact BV.setCell (p := ⟨U.heap.size, 1, none⟩) (by show U.heap.size ≤ U.heap.size; omega) _
                    rw [hZ] at eZ ⊢
                    clear hZ hV v0 v1 v2 o0 o1 o2 zv x0 x0' sV BV ev q0 q1 q2 g0 g1 g2 z0 z1
                    have hWZ := Lib.hid (below_tr hWU.out hBZ)
                    obtain ⟨q0, q1, q2⟩ := rc3 (kept_block hWZ.out he0.out)
                    have z0 := (Array.getElem?_eq_some_iff.1 (kept_block hWZ.out he0.out)).1
                    obtain ⟨v0, v1, v2⟩ := rc3 eZ
                    have zv := (Array.getElem?_eq_some_iff.1 eZ).1
                    have hXZ := Lib.hid (below_tr hXU'.out hBZ)
                    have kY0 := hty4.out Z hWZ.out
                    by_cases hk2 : (k : Int) < 2
                    · rw [decide_eq_true hk2] at kY0
                      have kY := Lib.hid kY0
                      clear kY0
                      go_wp2_with (go_at_call 39; (with_reducible refine Calls.mono kY.out ?_); rintro e w6 ⟨rfl, hB6⟩)
                      exact ⟨⟨⟨w6, below_tr hXZ.out hB6⟩, rfl, k + 1, by omega, by go_num⟩, by simp [intOf]; omega⟩
                    · rw [decide_eq_false hk2] at kY0
                      have kY := Lib.hid kY0
                      have hk2d : decide ((k : Int) < 2) = false := by simpa using hk2
                      clear kY0
                      go_wp2_with (go_at_call 39; (with_reducible refine Calls.mono kY.out ?_); rintro e w6 ⟨rfl, hB6⟩)
                      exact ⟨⟨⟨w6, below_tr hXZ.out hB6⟩, rfl, k + 1, by omega, by go_num⟩, by simp [intOf]; omega⟩
              · obtain rfl : k = 4 := by omega
                have hwU := Lib.hid (below_tr hwx.out hXU)
                clear hXU
                go_wp2_with (go_at_call 18; (with_reducible refine Calls.mono (kK.out _) ?_); rintro e w3 ⟨rfl, hB3⟩)
                go_ret
                exact ⟨rfl, below_tr hwU.out hB3⟩
          · rcases Int.lt_or_le s.hi n with hn2 | hn2
            · have hIf : I = false := by
                cases I
                · rfl
                · exact absurd (hI2.out.2 rfl) (by omega)
              subst hIf
              clear hI2
              go_upto_region 11 with fail
              go_wp2
              clear q0 q1 q2 g0 g1 g2 z0 z1 n0 n1 zn hX
              go_loopw [10] (fun i wr => ∃ gg : Grow X, wr = gg.x ∧ ∃ k : Nat, k ≤ 4 ∧ i = .int .i64 k) (fun i _ => 4 - (intOf i).toNat)
              case atStart => exact ⟨Grow.self X, rfl, 0, by omega, rfl⟩
              case round =>
                obtain ⟨gg, rfl, k, hk, rfl⟩ := hrel
                obtain ⟨U, hU⟩ : ∃ U, gg.x = U := ⟨_, rfl⟩
                have hXU : Below X.heap.size X U := by rw [← hU]; exact gg.h
                rw [hU]
                clear hU gg
                have hWU := Lib.hid (below_tr h5.out hXU)
                obtain ⟨q0, q1, q2⟩ := rc3 (kept_block hWU.out he0.out)
                obtain ⟨g0, g1, g2⟩ := rc3 (kept_block hWU.out he1.out)
                have z0 := (Array.getElem?_eq_some_iff.1 (kept_block hWU.out he0.out)).1
                have z1 := (Array.getElem?_eq_some_iff.1 (kept_block hWU.out he1.out)).1
                by_cases hlt : k < 4
                · have hki : (k : Int) < 4 := by omega
                  obtain ⟨c1, p1, d1, hw1, hcl1, -, x0⟩ := int_cells (hels.out.mono hXU) (k := k) (by rw [hll.out]; exact hlt)
                  obtain ⟨⟨rfl, rfl⟩, rfl⟩ : (w4.heap.size = c1 ∧ 0 = p1) ∧ 4 = d1 := by simpa [hll.out] using hw1
                  rw [Nat.zero_add] at x0
                  have hty3 := Lib.hid (hty2.out k hlt)
                  clear hw1
                  generalize at0 (szTry s) k = m at *
                  have hXU' := Lib.hid hXU
                  clear hXU
                  rcases Int.lt_or_le m 1 with hm1 | hm1
                  · go_wp2
                    exact ⟨⟨⟨U, hXU'.out⟩, rfl, k + 1, by omega, by go_num⟩, by simp [intOf]; omega⟩
                  · rcases Int.lt_or_le 10000000 m with hm2 | hm2
                    · go_wp2
                      exact ⟨⟨⟨U, hXU'.out⟩, rfl, k + 1, by omega, by go_num⟩, by simp [intOf]; omega⟩
                    · have hty4 := Lib.hid (hty3.out ⟨hm1, hm2⟩)
                      obtain ⟨V, hV⟩ : ∃ V, U.alloc (gsO ⟨z, n, since⟩) = V := ⟨_, rfl⟩
                      obtain ⟨ev, BV, sV⟩ := boxed hV
                      obtain ⟨v0, v1, v2⟩ := rc3 ev
                      obtain ⟨o0, o1, o2⟩ := rf3 ev
                      have zv := (Array.getElem?_eq_some_iff.1 ev).1
                      have x0' := kept_cell BV x0
                      go_upto_region 18 with fail
                      obtain ⟨Z, hZ⟩ : ∃ Z, V.setCell ⟨U.heap.size, 1, none⟩ (.int .i64 m) = Z := ⟨_, rfl⟩
                      have eZ := set_one ev 1 (.int .i64 m)
                      simp only [List.setIfInBounds_toArray, List.set_cons_succ, List.set_cons_zero] at eZ
                      have hBZ : Below U.heap.size U Z := by rw [← hZ]; exact BV.setCell (p := ⟨U.heap.size, 1, none⟩) (by show U.heap.size ≤ U.heap.size; omega) _
                      rw [hZ] at eZ ⊢
                      clear hZ hV v0 v1 v2 o0 o1 o2 zv x0 x0' sV BV ev q0 q1 q2 g0 g1 g2 z0 z1
                      have hWZ := Lib.hid (below_tr hWU.out hBZ)
                      obtain ⟨q0, q1, q2⟩ := rc3 (kept_block hWZ.out he0.out)
                      have z0 := (Array.getElem?_eq_some_iff.1 (kept_block hWZ.out he0.out)).1
                      obtain ⟨v0, v1, v2⟩ := rc3 eZ
                      have zv := (Array.getElem?_eq_some_iff.1 eZ).1
                      have hXZ := Lib.hid (below_tr hXU'.out hBZ)
                      have kY0 := hty4.out Z hWZ.out
                      by_cases hk2 : (k : Int) < 2
                      · rw [decide_eq_true hk2] at kY0
                        have kY := Lib.hid kY0
                        clear kY0
                        go_wp2_with (go_at_call 39; (with_reducible refine Calls.mono kY.out ?_); rintro e w6 ⟨rfl, hB6⟩)
                        exact ⟨⟨⟨w6, below_tr hXZ.out hB6⟩, rfl, k + 1, by omega, by go_num⟩, by simp [intOf]; omega⟩
                      · rw [decide_eq_false hk2] at kY0
                        have kY := Lib.hid kY0
                        have hk2d : decide ((k : Int) < 2) = false := by simpa using hk2
                        clear kY0
                        go_wp2_with (go_at_call 39; (with_reducible refine Calls.mono kY.out ?_); rintro e w6 ⟨rfl, hB6⟩)
                        exact ⟨⟨⟨w6, below_tr hXZ.out hB6⟩, rfl, k + 1, by omega, by go_num⟩, by simp [intOf]; omega⟩
                · obtain rfl : k = 4 := by omega
                  have hwU := Lib.hid (below_tr hwx.out hXU)
                  clear hXU
                  go_wp2_with (go_at_call 18; (with_reducible refine Calls.mono (kK.out _) ?_); rintro e w3 ⟨rfl, hB3⟩)
                  go_ret
                  exact ⟨rfl, below_tr hwU.out hB3⟩
            · have hIt : I = true := hI2.out.1 ⟨hn1, hn2⟩
              subst hIt
              clear hI2
              go_upto_region 11 with fail
              go_wp2
              clear q0 q1 q2 g0 g1 g2 z0 z1 n0 n1 zn hX
              go_loopw [10] (fun i wr => ∃ gg : Grow X, wr = gg.x ∧ ∃ k : Nat, k ≤ 4 ∧ i = .int .i64 k) (fun i _ => 4 - (intOf i).toNat)
              case atStart => exact ⟨Grow.self X, rfl, 0, by omega, rfl⟩
              case round =>
                obtain ⟨gg, rfl, k, hk, rfl⟩ := hrel
                obtain ⟨U, hU⟩ : ∃ U, gg.x = U := ⟨_, rfl⟩
                have hXU : Below X.heap.size X U := by rw [← hU]; exact gg.h
                rw [hU]
                clear hU gg
                have hWU := Lib.hid (below_tr h5.out hXU)
                obtain ⟨q0, q1, q2⟩ := rc3 (kept_block hWU.out he0.out)
                obtain ⟨g0, g1, g2⟩ := rc3 (kept_block hWU.out he1.out)
                have z0 := (Array.getElem?_eq_some_iff.1 (kept_block hWU.out he0.out)).1
                have z1 := (Array.getElem?_eq_some_iff.1 (kept_block hWU.out he1.out)).1
                by_cases hlt : k < 4
                · have hki : (k : Int) < 4 := by omega
                  obtain ⟨c1, p1, d1, hw1, hcl1, -, x0⟩ := int_cells (hels.out.mono hXU) (k := k) (by rw [hll.out]; exact hlt)
                  obtain ⟨⟨rfl, rfl⟩, rfl⟩ : (w4.heap.size = c1 ∧ 0 = p1) ∧ 4 = d1 := by simpa [hll.out] using hw1
                  rw [Nat.zero_add] at x0
                  have hty3 := Lib.hid (hty2.out k hlt)
                  clear hw1
                  generalize at0 (szTry s) k = m at *
                  have hXU' := Lib.hid hXU
                  clear hXU
                  rcases Int.lt_or_le m 1 with hm1 | hm1
                  · go_wp2
                    exact ⟨⟨⟨U, hXU'.out⟩, rfl, k + 1, by omega, by go_num⟩, by simp [intOf]; omega⟩
                  · rcases Int.lt_or_le 10000000 m with hm2 | hm2
                    · go_wp2
                      exact ⟨⟨⟨U, hXU'.out⟩, rfl, k + 1, by omega, by go_num⟩, by simp [intOf]; omega⟩
                    · have hty4 := Lib.hid (hty3.out ⟨hm1, hm2⟩)
                      obtain ⟨V, hV⟩ : ∃ V, U.alloc (gsO ⟨z, n, since⟩) = V := ⟨_, rfl⟩
                      obtain ⟨ev, BV, sV⟩ := boxed hV
                      obtain ⟨v0, v1, v2⟩ := rc3 ev
                      obtain ⟨o0, o1, o2⟩ := rf3 ev
                      have zv := (Array.getElem?_eq_some_iff.1 ev).1
                      have x0' := kept_cell BV x0
                      go_upto_region 18 with fail
                      obtain ⟨Z, hZ⟩ : ∃ Z, V.setCell ⟨U.heap.size, 1, none⟩ (.int .i64 m) = Z := ⟨_, rfl⟩
                      have eZ := set_one ev 1 (.int .i64 m)
                      simp only [List.setIfInBounds_toArray, List.set_cons_succ, List.set_cons_zero] at eZ
                      have hBZ : Below U.heap.size U Z := by rw [← hZ]; exact BV.setCell (p := ⟨U.heap.size, 1, none⟩) (by show U.heap.size ≤ U.heap.size; omega) _
                      rw [hZ] at eZ ⊢
                      clear hZ hV v0 v1 v2 o0 o1 o2 zv x0 x0' sV BV ev q0 q1 q2 g0 g1 g2 z0 z1
                      have hWZ := Lib.hid (below_tr hWU.out hBZ)
                      obtain ⟨q0, q1, q2⟩ := rc3 (kept_block hWZ.out he0.out)
                      have z0 := (Array.getElem?_eq_some_iff.1 (kept_block hWZ.out he0.out)).1
                      obtain ⟨v0, v1, v2⟩ := rc3 eZ
                      have zv := (Array.getElem?_eq_some_iff.1 eZ).1
                      have hXZ := Lib.hid (below_tr hXU'.out hBZ)
                      have kY0 := hty4.out Z hWZ.out
                      by_cases hk2 : (k : Int) < 2
                      · rw [decide_eq_true hk2] at kY0
                        have kY := Lib.hid kY0
                        clear kY0
                        go_wp2_with (go_at_call 39; (with_reducible refine Calls.mono kY.out ?_); rintro e w6 ⟨rfl, hB6⟩)
                        exact ⟨⟨⟨w6, below_tr hXZ.out hB6⟩, rfl, k + 1, by omega, by go_num⟩, by simp [intOf]; omega⟩
                      · rw [decide_eq_false hk2] at kY0
                        have kY := Lib.hid kY0
                        have hk2d : decide ((k : Int) < 2) = false := by simpa using hk2
                        clear kY0
                        go_wp2_with (go_at_call 39; (with_reducible refine Calls.mono kY.out ?_); rintro e w6 ⟨rfl, hB6⟩)
                        exact ⟨⟨⟨w6, below_tr hXZ.out hB6⟩, rfl, k + 1, by omega, by go_num⟩, by simp [intOf]; omega⟩
                · obtain rfl : k = 4 := by omega
                  have hwU := Lib.hid (below_tr hwx.out hXU)
                  clear hXU
                  go_wp2_with (go_at_call 18; (with_reducible refine Calls.mono (kK.out _) ?_); rintro e w3 ⟨rfl, hB3⟩)
                  go_ret
                  exact ⟨rfl, below_tr hwU.out hB3⟩
        · rw [hz2 (by omega)] at kZ1
          have hIf : I = false := by
            cases I
            · rfl
            · exact absurd (hag.2 rfl) (by omega)
          subst hIf
          obtain ⟨S0, hS0⟩ : ∃ S0 : Sp, (⟨0, 0⟩ : Sp) = S0 := ⟨_, rfl⟩
          rw [hS0] at kZ1
          have kA2 := Lib.hid kA1
          have kZ2 := Lib.hid kZ1
          clear kA kZ kA1 kZ1 hz2 hz3 hrg hin herr h0 hez hty hgs hE ok hag hI hS0
          generalize b.sizesK z since = s at *
          go_enter Try.func16, Try.ntmps16
          go_wp2
          refine wp_region_grow (by kernel_rfl) (by kernel_rfl) ?_
          repeat (go_big_quiet_step ((first | (with_reducible exact Calls.grow (kS.out _)) | (with_reducible exact Calls.grow (kG.out _)) | (with_reducible exact Calls.grow (kB.out _)))))
          refine wpQuiet_nil ?_
          rintro _ ⟨g, rfl⟩
          have hgB := Lib.hid g.h
          generalize g.x = Y at *
          obtain ⟨q0, q1, q2⟩ := rc3 (kept_block hgB.out he0.out)
          obtain ⟨g0, g1, g2⟩ := rc3 (kept_block hgB.out he1.out)
          have z0 := (Array.getElem?_eq_some_iff.1 (kept_block hgB.out he0.out)).1
          have z1 := (Array.getElem?_eq_some_iff.1 (kept_block hgB.out he1.out)).1
          go_wp2_with (first
            | (go_at_call 44; (with_reducible refine Calls.mono (kZ2.out _ hgB.out) ?_); rintro e w2 ⟨rfl, hB⟩; obtain ⟨N, hN⟩ : ∃ N, w2.alloc (spO S0) = N := ⟨_, rfl⟩; obtain ⟨en, BN, sN⟩ := boxed hN; obtain ⟨n0, n1⟩ := rc2 en; obtain ⟨n2, n3⟩ := rf2 en; have zn := (Array.getElem?_eq_some_iff.1 en).1; have h2 := below_tr hgB.out (below_tr hB BN); clear sN; obtain ⟨q0, q1, q2⟩ := rc3 (kept_block h2 he0.out); obtain ⟨g0, g1, g2⟩ := rc3 (kept_block h2 he1.out); have z0 := (Array.getElem?_eq_some_iff.1 (kept_block h2 he0.out)).1; have z1 := (Array.getElem?_eq_some_iff.1 (kept_block h2 he1.out)).1)
            | (go_at_call 39; (with_reducible refine Calls.mono (kA2.out _ h2) ?_); rintro e w4 ⟨rfl, hB4⟩)
            | (go_at_call 18; (with_reducible refine Calls.mono (kK.out _) ?_); rintro e w3 ⟨rfl, hB3⟩))
          go_ret
          exact ⟨rfl, below_tr hwB.out (below_tr h2 (below_tr hB4 hB3))⟩
    · have h23 : b.err (b.gsB ga) = 2 ∨ b.err (b.gsB ga) = 3 := err_two hE
      clear hez kA kZ hE
      rcases h23 with h23 | h23
      all_goals
        rw [h23] at kB
        clear h23
        generalize b.gsB ga = G at *
        go_enter Try.func16, Try.ntmps16
        go_wp2
        refine wp_region_grow (by kernel_rfl) (by kernel_rfl) ?_
        repeat (go_big_quiet_step ((first | (with_reducible exact Calls.grow (kS.out _)) | (with_reducible exact Calls.grow (kG.out _)) | (with_reducible exact Calls.grow (kB.out _)))))
        refine wpQuiet_nil ?_
        rintro _ ⟨g, rfl⟩
        have hgB := Lib.hid g.h
        generalize g.x = Y at *
        go_wp2_with (go_at_call 18; (with_reducible refine Calls.mono (kK.out _) ?_); rintro e w3 ⟨rfl, hB3⟩)
        go_ret
        exact ⟨rfl, below_tr hwB.out (below_tr hgB.out hB3)⟩
end Go.Proofs.Ytddmfkhmhdddeaa
