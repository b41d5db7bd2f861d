/- Walks: the law LeakFound. -/
import Derived.Test.YtddmfkhmhdddeaaRSd
import Derived.Test.YtddmfkhmhdddeaaRWa
import Derived.Deep.Cut
import Derived.Deep.CutRange
set_option linter.unusedVariables false
set_option linter.unusedSimpArgs false
namespace Lk
theorem said_err {w : List Dy} {first : Int} {fl : List Int} {size since : Int} {wrg : List Int} {n : Nat} (h : SaidOk w first fl size since wrg n) : (saidB w first fl size since wrg n).err true = 0 := by
  have ok := said_ok h
  have hl := ok.long
  have hn := h.n
  have hb : (saidB w first fl size since wrg n).bookB = true := by
    simp only [Bk.bookB, Bool.and_eq_true, List.all_eq_true, inB_iff, decide_eq_true_eq, spB_iff, Bk.flowB, Bk.rdB]
    refine ⟨⟨⟨fun x hx => ?_, fun x hx => ?_⟩, fun x hx => ?_⟩, by have := ok.nz; omega, by have := ok.nd; omega⟩
    · obtain ⟨k, hk, rfl⟩ := List.getElem_of_mem hx
      have := ok.first k hk
      simpa [spAt, hk] using this
    · obtain ⟨d, hd, rfl⟩ := List.getElem_of_mem hx
      have e : rwAt (saidB w first fl size since wrg n).flows d = (saidB w first fl size since wrg n).flows[d] := by simp [rwAt, hd]
      have hr := ok.rows d hd
      rw [e] at hr
      refine ⟨hr, fun s hs => ?_⟩
      obtain ⟨k, hk, rfl⟩ := List.getElem_of_mem hs
      have := ok.flows d k hd (by omega)
      rw [e] at this
      simpa [spAt, hk] using this
    · obtain ⟨k, hk, rfl⟩ := List.getElem_of_mem hx
      have := ok.reads k hk
      simp only [rdAt, List.getD_eq_getElem?_getD, List.getElem?_eq_getElem hk, Option.getD_some] at this
      omega
  unfold Bk.err
  rw [hl, hb]
  rfl
theorem said_gs {w : List Dy} {first : Int} {fl : List Int} {size since : Int} {wrg : List Int} {n : Nat} (h : SaidOk w first fl size since wrg n) (hs : since < n) : (saidB w first fl size since wrg n).gsB ⟨0, size, since⟩ = true := by
  have hl : (saidB w first fl size since wrg n).flows.length = n := by simp [saidB]
  have h1 := h.size
  have h2 := h.since
  simp only [Bk.gsB, Bool.or_eq_true, decide_eq_true_eq, Bool.and_eq_true, inB_iff, hl]
  right
  simp [saidB]; omega
theorem apart_nn {w : List Dy} (h : WOk w) {t : Nat} (ht : t < w.length) : ∀ j, 0 ≤ apart w t j
  | 0 => by have := h.day t ht; simp only [apart]; omega
  | j + 1 => by
    have ih := apart_nn h ht j
    have := h.day (t - j) (by omega)
    simp only [apart]; omega
theorem fd_cases {w : List Dy} {size since : Int} (h : Go.Proofs.Ytddmfkhmhdddeaa.wdE w size since = 0) (hl : w.length ≤ 20) : WOk w ∧ (1 ≤ size ∧ size ≤ 10000000) ∧ (0 ≤ since ∧ since < w.length) ∧
    ((∃ n : Nat, fdR w size since = ((n : Int), 0) ∧ since ≤ n ∧ n < w.length ∧ foundB w size since n = true) ∨ fdR w size since = (0, 5)) := by
  have hw : watchB w size since = true := by
    unfold Go.Proofs.Ytddmfkhmhdddeaa.wdE at h
    rw [if_neg (by omega)] at h
    cases hc : watchB w size since
    · rw [hc] at h; simp at h
    · rfl
  obtain ⟨wok, hs, hsi⟩ := watch_ok hw (by omega)
  refine ⟨wok, hs, hsi, ?_⟩
  unfold fdR
  rw [if_neg (by omega), if_neg (by simp [hw])]
  cases hf : foundD w size since with
  | none => exact .inr rfl
  | some n =>
    refine .inl ⟨n, rfl, ?_, ?_⟩
    · have hfb := List.find?_some hf
      have hn := List.mem_range.1 (List.mem_of_find?_eq_some hf)
      simp only [foundB, Bool.and_eq_true, List.any_eq_true, List.mem_range, hitB, decide_eq_true_eq] at hfb
      obtain ⟨-, j, hj, -, hlt⟩ := hfb
      have ha := apart_nn wok hn (j + 1)
      have hd := wok.day (n - 1 - j) (by omega)
      rcases Int.lt_or_le (n : Int) since with hc | hc
      · exfalso
        have hm : missing size since (n - 1 - j) n = 0 := by
          unfold missing
          rw [show max (0 : Int) ((n : Int) - max (((n - 1 - j : Nat)) : Int) (since - 1)) = 0 by omega, Int.mul_zero]
        omega
      · exact hc
    · exact ⟨List.mem_range.1 (List.mem_of_find?_eq_some hf), List.find?_some hf⟩
end Lk
namespace Go.Proofs.Ytddmfkhmhdddeaa
open Go.RowKit Go.Sd Lk

set_option maxRecDepth 100000 in
set_option maxHeartbeats 4000000 in
theorem lawFound (lv : Value) (l : List Dy) (size since first : Int) (fv : Value) (fl : List Int) (gv : Value) (wrg : List Int) (w : World) (hl : DysAt w lv l) (hf : IntsAt w fv fl) (hg : IntsAt w gv wrg) :
    Calls Try.prog 11 #[lv, .int .i64 size, .int .i64 since, .int .i64 first, fv, gv] w fun e w' => e = .returned (.bool true) ∧ Below w.heap.size w w' := by
  have kK := Lib.hid (fun X => progKnown X)
  have kT0 := lawWatched lv l size since w hl
  have hlh := Lib.hid hl
  have hfh := Lib.hid hf
  have hgh := Lib.hid hg
  obtain ⟨la, lc, rfl, hlm, -⟩ := hl.form
  obtain ⟨fa, fc, rfl, hfm, -⟩ := hf.form
  obtain ⟨ga, gc, rfl, hgm, -⟩ := hg.form
  have hw23 : Hid (wdE l size since = 0 ∨ wdE l size since = 2 ∨ wdE l size since = 3) := Lib.hid (by unfold wdE; split; exact .inr (.inr rfl); split; exact .inl rfl; exact .inr (.inl rfl))
  clear hl hf hg
  go_enter Try.func11, Try.ntmps11
  go_upto_region 1 with fail
  go_cut [52] from 21 to 52 (fun c wx => ∃ G : Bool, c = .bool G ∧ Hid (wx = w ∧ (G = false → l.length ≤ 20 ∧ wdE l size since = 0 ∧ fl.length = l.length ∧ wrg.length = l.length ∧ -10000 ≤ first ∧ first ≤ 10000)))
  case first =>
    by_cases hp0 : 20 < l.length
    · have d0 : decide ((20 : Int) < (l.length : Int)) = true := decide_eq_true (by omega)
      have d1 : decide (20 < l.length) = true := decide_eq_true hp0
      go_wp2_with fail
      go_meet
      exact ⟨true, rfl, Lib.hid ⟨rfl, fun h => (by cases h)⟩⟩
    · have d0 : decide ((20 : Int) < (l.length : Int)) = false := decide_eq_false (by omega)
      have d1 : decide (20 < l.length) = false := decide_eq_false hp0
      rcases hw23.out with he | he | he
      · rw [he] at kT0
        have kT := Lib.hid kT0
        have heh := Lib.hid he
        clear kT0 he
        go_wp2_with (go_at_call 29; (with_reducible refine Calls.mono kT.out ?_); rintro e w1 ⟨rfl, rfl⟩)
        all_goals
          go_meet
          first
          | exact ⟨true, rfl, Lib.hid ⟨rfl, fun h => (by cases h)⟩⟩
          | exact ⟨false, rfl, Lib.hid ⟨rfl, fun _ => ⟨by omega, heh.out, by omega, by omega, by omega, by omega⟩⟩⟩
          | exact ⟨(decide (first < -10000) || decide (10000 < first)), rfl, Lib.hid ⟨rfl, fun h => by
              simp only [Bool.or_eq_false_iff, decide_eq_false_iff_not] at h
              exact ⟨by omega, heh.out, by omega, by omega, by omega, by omega⟩⟩⟩
      · rw [he] at kT0
        have kT := Lib.hid kT0
        clear kT0 he
        go_wp2_with (go_at_call 29; (with_reducible refine Calls.mono kT.out ?_); rintro e w1 ⟨rfl, rfl⟩)
        go_meet
        exact ⟨true, rfl, Lib.hid ⟨rfl, fun h => (by cases h)⟩⟩
      · rw [he] at kT0
        have kT := Lib.hid kT0
        clear kT0 he
        go_wp2_with (go_at_call 29; (with_reducible refine Calls.mono kT.out ?_); rintro e w1 ⟨rfl, rfl⟩)
        go_meet
        exact ⟨true, rfl, Lib.hid ⟨rfl, fun h => (by cases h)⟩⟩
  case rest =>
  obtain ⟨G, rfl, hH⟩ := hcut
  obtain ⟨rfl, hF⟩ := hH.out
  clear hH kT0
  cases G
  · obtain ⟨h20, hwd, hfl, hgl, hf0, hf1⟩ := hF rfl
    clear hF
    have hfl' := Lib.hid hfl
    have hgl' := Lib.hid hgl
    clear hfl hgl
    go_wp2_with fail
    go_loopw [13] (fun i wr => wr = wc ∧ ∃ d : Nat, d ≤ l.length ∧ i = .int .i64 d ∧ Hid (∀ j, j < d → (-10000 ≤ at0 fl j ∧ at0 fl j ≤ 10000) ∧ (-100000000 ≤ at0 wrg j ∧ at0 wrg j ≤ 100000000))) (fun i _ => l.length - (intOf i).toNat)
    case atStart => exact ⟨rfl, 0, by omega, rfl, Lib.hid fun j hj => absurd hj (Nat.not_lt_zero _)⟩
    case round =>
      obtain ⟨rfl, d, hd, rfl, hB⟩ := hrel
      by_cases hdl : d < l.length
      · have hdi : (d : Int) < (l.length : Int) := by omega
        have hdf : (d : Int) < (fl.length : Int) := by rw [hfl'.out]; exact hdi
        have hdg : (d : Int) < (wrg.length : Int) := by rw [hgl'.out]; exact hdi
        obtain ⟨c1, p1, m1, hv1, hc1, -, x0⟩ := int_cells hfh.out (k := d) (by rw [hfl'.out]; exact hdl)
        obtain ⟨rfl, rfl⟩ : fa = some ⟨c1, p1, none⟩ ∧ fc = m1 := by simpa using hv1
        obtain ⟨c2, p2, m2, hv2, hc2, -, x1⟩ := int_cells hgh.out (k := d) (by rw [hgl'.out]; exact hdl)
        obtain ⟨rfl, rfl⟩ : ga = some ⟨c2, p2, none⟩ ∧ gc = m2 := by simpa using hv2
        have hB2 : Hid ((-10000 ≤ at0 fl d ∧ at0 fl d ≤ 10000) → (-100000000 ≤ at0 wrg d ∧ at0 wrg d ≤ 100000000) → ∀ j, j < d + 1 → (-10000 ≤ at0 fl j ∧ at0 fl j ≤ 10000) ∧ (-100000000 ≤ at0 wrg j ∧ at0 wrg j ≤ 100000000)) := Lib.hid fun h1 h2 j hj => by
          rcases Nat.lt_succ_iff_lt_or_eq.1 hj with h' | rfl
          · exact hB.out j h'
          · exact ⟨h1, h2⟩
        clear hv1 hv2 hB
        generalize at0 fl d = f at *
        generalize at0 wrg d = g at *
        by_cases h1 : f < -10000
        · have d1 : decide (f < -10000) = true := decide_eq_true h1
          go_wp2_with (go_at_call 18; (with_reducible refine Calls.mono (kK.out _) ?_); rintro e w9 ⟨rfl, hB9⟩)
          go_ret
          exact ⟨rfl, hB9⟩
        · have d1 : decide (f < -10000) = false := decide_eq_false h1
          by_cases h2 : 10000 < f
          · have d2 : decide (10000 < f) = true := decide_eq_true h2
            go_wp2_with (go_at_call 18; (with_reducible refine Calls.mono (kK.out _) ?_); rintro e w9 ⟨rfl, hB9⟩)
            go_ret
            exact ⟨rfl, hB9⟩
          · have d2 : decide (10000 < f) = false := decide_eq_false h2
            by_cases h3 : g < -100000000
            · have d3 : decide (g < -100000000) = true := decide_eq_true h3
              go_wp2_with (go_at_call 18; (with_reducible refine Calls.mono (kK.out _) ?_); rintro e w9 ⟨rfl, hB9⟩)
              go_ret
              exact ⟨rfl, hB9⟩
            · have d3 : decide (g < -100000000) = false := decide_eq_false h3
              by_cases h4 : 100000000 < g
              · have d4 : decide (100000000 < g) = true := decide_eq_true h4
                go_wp2_with (go_at_call 18; (with_reducible refine Calls.mono (kK.out _) ?_); rintro e w9 ⟨rfl, hB9⟩)
                go_ret
                exact ⟨rfl, hB9⟩
              · have d4 : decide (100000000 < g) = false := decide_eq_false h4
                have hB3 := Lib.hid (hB2.out ⟨by omega, by omega⟩ ⟨by omega, by omega⟩)
                clear hB2 h1 h2 h3 h4
                go_wp2_with fail
                exact ⟨⟨trivial, d + 1, by omega, by go_num, hB3⟩, by simp [intOf]; omega⟩
      · obtain rfl : d = l.length := by omega
        obtain ⟨wok, hsz, hsi, hcs⟩ := fd_cases hwd h20
        have kF0 := progFound (.slice la l.length lc) l size since wr hlh.out
        unfold FoundPost at kF0
        rcases hcs with ⟨n, hr, hn1, hn2, hfb⟩ | hr
        · rw [hr] at kF0
          have kF := Lib.hid kF0
          have hok : SaidOk l first fl size since wrg (n + 1) := ⟨wok, hsz, hsi.1, ⟨hf0, hf1⟩, fun d hd => (hB.out d (by omega)).1, by omega, by omega, by omega⟩
          have kS := Lib.hid (fun X (h : Below wr.heap.size wr X) => lawSaid (.slice la l.length lc) l first (.slice fa fl.length fc) fl size since (.slice ga wrg.length gc) wrg n X (hlh.out.mono h) (hfh.out.mono h) (hgh.out.mono h) hfl'.out hgl'.out hok (fun d hd => (hB.out d hd).2))
          have her := Lib.hid (said_err hok)
          have hgs := Lib.hid (said_gs hok (show since < ((n + 1 : Nat) : Int) by omega))
          have hno := Lib.hid (said_none hok hfb)
          have hye := Lib.hid (said_leak hok)
          have d1 : decide ((n : Int) < since) = false := decide_eq_false (by omega)
          have d2 : decide ((l.length : Int) ≤ (n : Int)) = false := decide_eq_false (by omega)
          clear kF0 hr hok hB wok
          go_upto_region 13 with (go_at_call 28; (with_reducible refine Calls.mono kF.out ?_); rintro e w2 ⟨rfl, h2⟩)
          go_upto_region 14 with (go_at_call 42; (with_reducible refine Calls.mono (kS.out _ h2) ?_); rintro e w3 ⟨sa, sf, sr, rfl, hB3, hbk⟩; obtain ⟨a1, a2, rfl, -, -⟩ := hbk.first.form; obtain ⟨a3, a4, rfl, -, -⟩ := hbk.flows.form; obtain ⟨a5, a6, rfl, -, -⟩ := hbk.reads.form; obtain ⟨V, hV⟩ : ∃ V, w3.alloc (bkA (.slice a1 (saidB l first fl size since wrg (n + 1)).first.length a2) (.slice a3 (saidB l first fl size since wrg (n + 1)).flows.length a4) (.slice a5 (saidB l first fl size since wrg (n + 1)).reads.length a6)) = V := ⟨_, rfl⟩; obtain ⟨eV, bV, sV⟩ := boxed hV)
          have hEV := Lib.hid eV
          have hbV := Lib.hid (hbk.mono bV)
          have hwV := Lib.hid (below_tr (below_tr h2 hB3) bV)
          obtain ⟨v0, v1, v2⟩ := rc3 eV
          have zv := (Array.getElem?_eq_some_iff.1 eV).1
          generalize saidB l first fl size since wrg (n + 1) = b at *
          have kN := Lib.hid (fun X (h : Below V.heap.size V X) => (progAgree _ _ _ b noGs X (hbV.out.mono h)).mono (fun e w' (h : AgreePost _ _ _ e w') => (by
            unfold AgreePost at h
            rw [agr_none, her.out, hno.out] at h
            simpa using h : e = .returned (.tuple #[.bool false, .int .i64 0]) ∧ Below X.heap.size X w')))
          have kY := Lib.hid (fun X (h : Below V.heap.size V X) => (progAgree _ _ _ b ⟨0, size, since⟩ X (hbV.out.mono h)).mono (fun e w' (h : AgreePost _ _ _ e w') => (by
            unfold AgreePost at h
            rw [hgs.out, her.out, hye.out] at h
            simpa using h : e = .returned (.tuple #[.bool true, .int .i64 0]) ∧ Below X.heap.size X w')))
          clear hV sV eV bV hbk hB3 h2 kS kF d1 d2 hgs hno hye her
          refine plain_region (by kernel_rfl) (any_region_locN 6 148 [5] [119, 120, 121, 118, 122, 123] [[], [], [0, 1], [2], [3], [3]] [IsV (bkV (.slice a1 b.first.length a2) (.slice a3 b.flows.length a4) (.slice a5 b.reads.length a6)), IsV (gsV noGs), IsV (.tuple #[.bool false, .int .i64 0]), IsV (.tuple #[.bool false, .int .i64 0]), IsV (.bool false), IsV (.int .i64 0)] [] (by kernel_rfl) (by kernel_rfl) (by kernel_rfl) (by kernel_rfl) (by kernel_rfl) rfl OnlyN.panic ?_ ?_ ?_ ?_ ?_)
          · exact List.forall_mem_cons.2 ⟨pers_v _, List.forall_mem_cons.2 ⟨pers_v _, List.forall_mem_cons.2 ⟨pers_v _, List.forall_mem_cons.2 ⟨pers_v _, List.forall_mem_cons.2 ⟨pers_v _, List.forall_mem_cons.2 ⟨pers_v _, fun f h => nomatch h⟩⟩⟩⟩⟩⟩
          · intro k hk; cases hk
          · refine ⟨?_, ?_, ?_, ?_, ?_, ?_, trivial⟩
            · intro vals x hb hf
              simp only [fillS, List.getD_cons_succ, List.getD_cons_zero, Act.put, List.setIfInBounds_toArray, List.set_cons_zero, List.set_cons_succ]
              clear hf
              obtain ⟨p0, p1, p2⟩ := rc3 (kept_block hb hEV.out)
              have zw := (Array.getElem?_eq_some_iff.1 (kept_block hb hEV.out)).1
              go_wp2
              exact ⟨rfl, rfl, Below.refl _ _, _, rfl, rfl, (fun h => absurd h (by decide))⟩
            · intro vals x hb hf
              simp only [fillS, List.getD_cons_succ, List.getD_cons_zero, Act.put, List.setIfInBounds_toArray, List.set_cons_zero, List.set_cons_succ]
              clear hf
              obtain ⟨p0, p1, p2⟩ := rc3 (kept_block hb hEV.out)
              have zw := (Array.getElem?_eq_some_iff.1 (kept_block hb hEV.out)).1
              go_wp2_with (go_at_call 40; (with_reducible refine Calls.mono (refNone x) ?_); rintro e y ⟨rfl, hB⟩)
              exact ⟨rfl, rfl, hB, _, rfl, rfl, (fun h => absurd h (by decide))⟩
            · intro vals x hb hf
              simp only [fillS, List.getD_cons_succ, List.getD_cons_zero, Act.put, List.setIfInBounds_toArray, List.set_cons_zero, List.set_cons_succ]
              have h0 : vals 0 = bkV (.slice a1 b.first.length a2) (.slice a3 b.flows.length a4) (.slice a5 b.reads.length a6) := hf.1
              rw [h0]
              clear h0
              have f1 : (IsV (gsV noGs)) (vals 1) x := hf.2.1
              clear hf
              obtain ⟨p0, p1, p2⟩ := rc3 (kept_block hb hEV.out)
              have zw := (Array.getElem?_eq_some_iff.1 (kept_block hb hEV.out)).1
              rw [show vals 1 = gsV noGs from f1]
              go_wp2_with (go_at_call 39; (with_reducible refine Calls.mono (kN.out x hb) ?_); rintro e y ⟨rfl, hB⟩)
              exact ⟨rfl, rfl, hB, _, rfl, rfl, (fun h => absurd h (by decide))⟩
            · intro vals x hb hf
              simp only [fillS, List.getD_cons_succ, List.getD_cons_zero, Act.put, List.setIfInBounds_toArray, List.set_cons_zero, List.set_cons_succ]
              have f2 : (IsV (.tuple #[.bool false, .int .i64 0])) (vals 2) x := hf.1
              clear hf
              obtain ⟨p0, p1, p2⟩ := rc3 (kept_block hb hEV.out)
              have zw := (Array.getElem?_eq_some_iff.1 (kept_block hb hEV.out)).1
              rw [show vals 2 = .tuple #[.bool false, .int .i64 0] from f2]
              go_wp2
              exact ⟨rfl, rfl, Below.refl _ _, _, rfl, rfl, (fun h => absurd h (by decide))⟩
            · intro vals x hb hf
              simp only [fillS, List.getD_cons_succ, List.getD_cons_zero, Act.put, List.setIfInBounds_toArray, List.set_cons_zero, List.set_cons_succ]
              have f3 : (IsV (.tuple #[.bool false, .int .i64 0])) (vals 3) x := hf.1
              clear hf
              obtain ⟨p0, p1, p2⟩ := rc3 (kept_block hb hEV.out)
              have zw := (Array.getElem?_eq_some_iff.1 (kept_block hb hEV.out)).1
              rw [show vals 3 = .tuple #[.bool false, .int .i64 0] from f3]
              go_wp2
              exact ⟨rfl, rfl, Below.refl _ _, _, rfl, rfl, (fun h => absurd h (by decide))⟩
            · intro vals x hb hf
              simp only [fillS, List.getD_cons_succ, List.getD_cons_zero, Act.put, List.setIfInBounds_toArray, List.set_cons_zero, List.set_cons_succ]
              have f3 : (IsV (.tuple #[.bool false, .int .i64 0])) (vals 3) x := hf.1
              clear hf
              rw [show vals 3 = .tuple #[.bool false, .int .i64 0] from f3]
              go_wp2
              exact ⟨rfl, rfl, Below.refl _ _, _, rfl, rfl, (fun h => absurd h (by decide))⟩
          · intro j hj o ho vals x hb hf
            obtain rfl : j = 5 := by simpa using hj
            obtain rfl := Option.some.inj ho
            simp only [fillS, List.getD_cons_succ, List.getD_cons_zero, Act.put, List.setIfInBounds_toArray, List.set_cons_zero, List.set_cons_succ]
            have f3 : (IsV (.tuple #[.bool false, .int .i64 0])) (vals 3) x := hf.1
            rw [show vals 3 = .tuple #[.bool false, .int .i64 0] from f3]
            exact ⟨_, .inl ⟨rfl, fun w => rfl⟩, rfl, (fun h => absurd h (by decide))⟩
          intro vals x hb hf hp
          have hrange : List.range 6 = [0, 1, 2, 3, 4, 5] := by rfl
          rw [hrange]
          simp only [fillS, List.getD_cons_succ, List.getD_cons_zero, Act.put, List.setIfInBounds_toArray, List.set_cons_zero, List.set_cons_succ]
          have h0 : vals 0 = bkV (.slice a1 b.first.length a2) (.slice a3 b.flows.length a4) (.slice a5 b.reads.length a6) := hf 0 (by omega)
          have f1 : (IsV (gsV noGs)) (vals 1) x := hf 1 (by omega)
          have f2 : (IsV (.tuple #[.bool false, .int .i64 0])) (vals 2) x := hf 2 (by omega)
          have f3 : (IsV (.tuple #[.bool false, .int .i64 0])) (vals 3) x := hf 3 (by omega)
          have f4 : (IsV (.bool false)) (vals 4) x := hf 4 (by omega)
          have h5 : vals 5 = .int .i64 0 := hf 5 (by omega)
          rw [h0, h5]
          clear h0 h5 hf hp hrange
          simp only [List.drop_succ_cons, List.drop_zero]
          rw [show vals 4 = .bool false from f4]
          have hbx := Lib.hid hb
          clear f1 f2 f3 f4 v0 v1 v2 zv
          obtain ⟨v0, v1, v2⟩ := rc3 (kept_block hbx.out hEV.out)
          have zv := (Array.getElem?_eq_some_iff.1 (kept_block hbx.out hEV.out)).1
          go_wp2_with fail
          refine OnlyN.mk ?_
          go_wp2_with (first | (go_at_call 39; (with_reducible refine Calls.mono (kY.out _ hbx.out) ?_); rintro e w6 ⟨rfl, hB6⟩) | (go_at_call 18; (with_reducible refine Calls.mono (kK.out _) ?_); rintro e w9 ⟨rfl, hB9⟩))
          go_ret
          exact ⟨rfl, below_tr hwV.out (below_tr hbx.out (below_tr hB6 hB9))⟩
        · rw [hr] at kF0
          have kF := Lib.hid kF0
          clear kF0 hr hB wok
          go_wp2_with (first | (go_at_call 28; (with_reducible refine Calls.mono kF.out ?_); rintro e w2 ⟨rfl, h2⟩) | (go_at_call 18; (with_reducible refine Calls.mono (kK.out _) ?_); rintro e w9 ⟨rfl, hB9⟩))
          go_ret
          exact ⟨rfl, below_tr h2 hB9⟩
  · clear hF
    go_wp2_with (go_at_call 18; (with_reducible refine Calls.mono (kK.out _) ?_); rintro e w9 ⟨rfl, hB9⟩)
    go_ret
    exact ⟨rfl, hB9⟩
end Go.Proofs.Ytddmfkhmhdddeaa
