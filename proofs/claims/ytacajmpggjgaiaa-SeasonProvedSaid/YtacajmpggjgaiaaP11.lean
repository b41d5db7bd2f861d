/- Walks: the safe fills. -/
import Derived.Test.YtacajmpggjgaiaaOwnSp
set_option linter.unusedVariables false
set_option linter.unusedSimpArgs false
namespace Go.Proofs.Ytacajmpggjgaiaa
open Go.RowKit Go.Sd

set_option maxRecDepth 100000 in
set_option maxHeartbeats 2000000 in
theorem progSafeNo (sv : Value) (s : Sea.S) (w : World) (hs : SeasonAt w sv s) (ht : Sea.validB s = false) :
    Calls Try.prog 25 #[sv] w fun e w' => e = .returned (.tuple #[.slice none 0 0, .int .i64 2]) ∧ Below w.heap.size w w' := by
  have hs' := hs
  obtain ⟨rv, dv, rfl, hr, hd⟩ := hs'
  have hBw : Below w.heap.size w (w.alloc (sBox s rv dv)) := (Below.refl _ _).alloc (Nat.le_refl _) _
  have hv := Lib.hid (progValidT _ (hs.mono hBw) ht)
  replace ht := Lib.hid ht
  go_enter Try.func25, Try.ntmps25
  go_wp2_with (go_at_call 51; refine Calls.mono hv.out ?_; rintro e w' ⟨rfl, hb⟩)
  go_ret2
  exact ⟨rfl, hBw.trans (hb.mono hBw.size)⟩

/-- What Safe leaves. -/
def SafePost (s : Sea.S) (w : World) (e : Ending) (w' : World) : Prop := ∃ v, e = .returned (.tuple #[v, .int .i64 0]) ∧ OwnSpanRows w.heap.size w' v (safeRows s) ∧ Below w.heap.size w w'
theorem SafePost.of {s : Sea.S} {w w' : World} {v : Value} (h : OwnSpanRows w.heap.size w' v (safeRows s)) (hb : Below w.heap.size w w') : SafePost s w (.returned (.tuple #[v, .int .i64 0])) w' := ⟨v, rfl, h, hb⟩

/-- The rows of the first d days. -/
def safeTo (s : Sea.S) (d : Nat) : List (List Sea.Span) := (List.range d).map fun d => spansTo (wrow s (s.days.length - d)) (s.space + 1).toNat
theorem safeTo_succ (s : Sea.S) (d : Nat) : safeTo s (d + 1) = safeTo s d ++ [spansTo (wrow s (s.days.length - d)) (s.space + 1).toNat] := by
  unfold safeTo; rw [List.range_succ, List.map_append]; rfl

set_option maxRecDepth 100000 in
set_option maxHeartbeats 6000000 in
theorem progSafe (sv : Value) (s : Sea.S) (w : World) (hs : SeasonAt w sv s) (ht : Sea.validB s = true) :
    Calls Try.prog 25 #[sv] w (SafePost s w) := by
  have hs' := hs
  obtain ⟨rv, dv, rfl, hr, hd⟩ := hs'
  have ok := Sea.ok_of_valid ht
  have hsp := ok.space
  have hnd := ok.ndays
  have hBw : Below w.heap.size w (w.alloc (sBox s rv dv)) := (Below.refl _ _).alloc (Nat.le_refl _) _
  have hg := grow_cell (w.alloc (sBox s rv dv))
  have hv := Lib.hid (progValidT _ (hs.mono hBw) ht)
  have hlo := fun g : Grow (w.alloc (sBox s rv dv)) => progLooking _ s g.x ((hs.mono hBw).mono g.h)
  replace hlo := Lib.hid hlo
  replace ht := Lib.hid ht
  obtain ⟨da, dcap, rfl, hdm, -⟩ := hd
  unfold maxLen at hdm
  clear hs
  go_enter Try.func25, Try.ntmps25
  go_wp2_with (first
    | (go_at_call 51; refine Calls.mono hv.out ?_; rintro e w' ⟨rfl, hb⟩; obtain ⟨g1, rfl⟩ : ∃ g1 : Grow (w.alloc (sBox s rv (.slice da s.days.length dcap))), w' = g1.x := ⟨⟨w', hb⟩, rfl⟩)
    | (go_at_call 63; refine Calls.mono (hlo.out g1) ?_; rintro e X ⟨lv, mb, rfl, hl, hm, hmb, hb1⟩; obtain ⟨g2, rfl⟩ := g1.next hb1))
  have hBX : Below w.heap.size w g2.x := hBw.trans (g2.h.mono hBw.size)
  have hmw : w.heap.size ≤ mb := by have := (hBw.trans (g1.h.mono hBw.size)).size; omega
  have q0 : g2.x.cell? ⟨w.heap.size, 0, none⟩ = some (.int .i64 s.space) := g2.cell ((row_cells (World.alloc_heap_new w (sBox s rv (.slice da s.days.length dcap)))).2.1 0)
  have hW := progWorstAll s lv mb ok
  replace hW := Lib.hid hW
  generalize g2.x = X at *
  have hneq : w.heap.size ≠ mb := hm.no_cell q0
  clear hg hb1
  go_loopw [5, 19] (fun p i wr => ∃ (d : Nat) (v : Value), d ≤ s.days.length + 1 ∧ v = p ∧ i = .int .i64 d ∧ Hid (OwnSpanRows X.heap.size wr v (safeTo s d) ∧ Memo wr mb s ∧ Kept (fun k => k ≠ mb) X wr)) (fun _ i _ => s.days.length + 1 - (intOf i).toNat)
  case atStart => exact ⟨0, _, by omega, rfl, rfl, OwnSpanRows.nil _ _, hm, Kept.refl _ _⟩
  case round =>
    obtain ⟨d, ov, hd2, rfl, rfl, hI⟩ := hrel
    have hq0 := hm.kc hI.out.2.2
    have hq := hq0.cell _ _ _ q0
    have hlU := hl.kc hq0
    obtain ⟨hO, hmU, hKU⟩ := hI.out
    have hXU := hKU.size
    clear hI q0 hq0
    replace hKU := Lib.hid hKU
    replace hO := Lib.hid hO
    by_cases hlt : d < s.days.length + 1
    · obtain ⟨j, hj⟩ : ∃ j, d + j = s.days.length := ⟨s.days.length - d, by omega⟩
      obtain ⟨U, rfl⟩ : ∃ U : World, U = wr := ⟨_, rfl⟩
      have hWd := hW.out j d hj
      have hwb := fun i => (wrow_bd ok j (by omega) i).2
      replace hwb := Lib.hid hwb
      have hdl : (d : Int) < (s.days.length : Int) + 1 := by omega
      go_wp2_with (fail)
      go_loopw [7, 25] (fun p i wr => ∃ (f : Nat) (v : Value), (f : Int) ≤ s.space + 1 ∧ v = p ∧ i = .int .i64 f ∧ Hid (OwnSpans U.heap.size wr v (spansTo (wrow s j) f) ∧ Memo wr mb s ∧ Kept (fun k => k ≠ mb) U wr)) (fun _ i _ => (s.space + 1 - intOf i).toNat)
      case atStart => exact ⟨0, _, by omega, rfl, rfl, OwnSpans.nil _ _, hmU, Kept.refl _ _⟩
      case round =>
        obtain ⟨f, sp, hf, rfl, rfl, hI⟩ := hrel
        obtain ⟨hS, hm2, hK⟩ := hI.out
        clear hI
        have hl2 := hlU.kc (hmU.kc hK)
        by_cases hlt2 : (f : Int) ≤ s.space
        · have hWf := hWd f wr hlt2 hl2 hm2
          have hstep : Hid (spansTo (wrow s j) (f + 1) = if Sea.at0 (wrow s j) f = Sea.never then spansTo (wrow s j) f else addSpan (spansTo (wrow s j) f) f) := rfl
          have hlen := spansTo_len (wrow s j) f
          generalize hc : Sea.at0 (wrow s j) f = c at *
          replace hc := Lib.hid hc
          replace hWf := Lib.hid hWf
          generalize hxs : spansTo (wrow s j) f = xs at *
          replace hxs := Lib.hid hxs
          have hstep' : Hid (spansTo (wrow s j) (f + 1) = if c = Sea.never then xs else addSpan xs f) := hstep
          clear hstep
          replace hS := Lib.hid hS
          have hdw : (0 : Int) ≤ (d : Int) := Int.natCast_nonneg _
          by_cases hcn : c = 1000000000000000
          · have hs2 : Hid (spansTo (wrow s j) (f + 1) = xs) := by show _ = _; rw [hstep'.out, if_pos (by rw [hcn]; rfl)]
            rw [hcn] at hWf
            clear hcn
            go_wp2_with (first | (go_at_call 64; refine Calls.mono hWf.out ?_; rintro e w1 ⟨rfl, hk1, hm1⟩))
            exact ⟨⟨f + 1, sp, by omega, rfl, by go_num, by show OwnSpans _ _ _ (spansTo (wrow s j) (f + 1)); rw [hs2.out]; exact hS.out.keptM hm2 hk1, hm1, hK.trans ⟨hk1.os, hk1.tape, hk1.output, hk1.size, fun i hi hs => hk1.block i hi hs⟩⟩, by simp [intOf]; omega⟩
          · have hs2 : Hid (spansTo (wrow s j) (f + 1) = addSpan xs f) := by show _ = _; rw [hstep'.out, if_neg (show ¬ c = Sea.never from hcn)]
            have hcne : (c == 1000000000000000) = false := by simpa using hcn
            replace hcn := Lib.hid hcn
            obtain ⟨sa, scap, hsp2, hsl⟩ := hS.out.slice
            by_cases hz : xs.length = 0
            · have hap : Hid (addSpan xs f = xs ++ [⟨f, f⟩]) := addSpan_app (.inl hz)
              rw [hz] at hsp2
              subst hsp2
              replace hz := Lib.hid hz
              go_wp2_with (first | (go_at_call 64; refine Calls.mono hWf.out ?_; rintro e w1 ⟨rfl, hk1, hm1⟩; have hS1 := Lib.hid (hS.out.keptM hm2 hk1); have hK1 : Kept (fun k => k ≠ mb) U w1 := hK.trans ⟨hk1.os, hk1.tape, hk1.output, hk1.size, fun i hi hs => hk1.block i hi hs⟩; have hU1 : U.heap.size ≤ w1.heap.size := hK1.size; replace hK1 := Lib.hid hK1) | (at_builtin; refine wpList_app_span rfl _ _ rfl U.heap.size w1 _ xs ⟨f, f⟩ (by rfl) hS1.out (by rfl) (by omega) hU1 ?_; intro v2 w2 ho2 hg2 hat2))
              have hno := hS1.out.no_map hm1
              have hlo2 := hS1.out.lt
              exact ⟨⟨f + 1, v2, by omega, rfl, by go_num, by show OwnSpans _ _ _ (spansTo (wrow s j) (f + 1)); rw [hs2.out, hap.out]; exact ho2, MemoAt.tail hm1 hg2 hno, Kept.tail hK1.out hg2 fun k e => (hlo2 k e).1⟩, by simp [intOf]; omega⟩
            · clear hsp2 sa scap
              obtain ⟨sg, scap, rfl, hsg1, hsg2, -, hcells, hfr⟩ := hS.out.form (by omega)
              have hc1 := (hcells (xs.length - 1) (by omega)).2
              have hpos : 0 < xs.length := by omega
              have hposd : decide (0 < xs.length) = true := by simpa using hpos
              have hidx : (0 : Int) ≤ (xs.length : Int) - 1 ∧ (xs.length : Int) - 1 < (xs.length : Int) := by omega
              have hsgm : sg ≠ mb := fun e => hS.out.no_map hm2 (by rw [← e]; rfl)
              have hfr1 := hfr ((xs.length - 1) * 2 + 1)
              clear hcells hfr
              generalize hh : (Sea.spanAt xs (xs.length - 1)).hi = hi at *
              by_cases hhi : hi = f - 1
              · have hap : Hid (addSpan xs f = xs.set (xs.length - 1) ⟨(Sea.spanAt xs (xs.length - 1)).lo, f⟩) := addSpan_set hpos (by rw [hh]; exact hhi)
                have hhe : (hi == (f : Int) - 1) = true := by simpa using hhi
                replace hhi := Lib.hid hhi
                replace hh := Lib.hid hh
                go_wp2_with (first | (go_at_call 64; refine Calls.mono hWf.out ?_; rintro e w1 ⟨rfl, hk1, hm1⟩; have hS1 := Lib.hid (hS.out.keptM hm2 hk1); have hK1 : Kept (fun k => k ≠ mb) U w1 := hK.trans ⟨hk1.os, hk1.tape, hk1.output, hk1.size, fun i hi hs => hk1.block i hi hs⟩; have hU1 : U.heap.size ≤ w1.heap.size := hK1.size; replace hK1 := Lib.hid hK1; have hc2 := hk1.cell hsgm hc1; have hfr2 := (hS1.out.form hpos); obtain ⟨sg', scap', hse, -, -, -, -, hfr3⟩ := hfr2; cases hse; have hfr4 := hfr3 ((xs.length - 1) * 2 + 1); clear hfr3))
                have hst := hS1.out.high (xs.length - 1) (by omega) f
                have hno := hS1.out.no_map hm1
                have hlo2 := hS1.out.lt
                exact ⟨⟨f + 1, _, by omega, rfl, by go_num, by show OwnSpans _ _ _ (spansTo (wrow s j) (f + 1)); rw [hs2.out, hap.out]; exact hst.1, MemoAt.tail hm1 hst.2 hno, Kept.tail hK1.out hst.2 fun k e => (hlo2 k e).1⟩, by simp [intOf]; omega⟩
              · have hap : Hid (addSpan xs f = xs ++ [⟨f, f⟩]) := addSpan_app (.inr (by rw [hh]; exact hhi))
                have hhe : (hi == (f : Int) - 1) = false := by simpa using hhi
                replace hhi := Lib.hid hhi
                replace hh := Lib.hid hh
                go_wp2_with (first | (go_at_call 64; refine Calls.mono hWf.out ?_; rintro e w1 ⟨rfl, hk1, hm1⟩; have hS1 := Lib.hid (hS.out.keptM hm2 hk1); have hK1 : Kept (fun k => k ≠ mb) U w1 := hK.trans ⟨hk1.os, hk1.tape, hk1.output, hk1.size, fun i hi hs => hk1.block i hi hs⟩; have hU1 : U.heap.size ≤ w1.heap.size := hK1.size; replace hK1 := Lib.hid hK1; have hc2 := hk1.cell hsgm hc1) | (at_builtin; refine wpList_app_span rfl _ _ rfl U.heap.size w1 _ xs ⟨f, f⟩ (by rfl) hS1.out (by rfl) (by omega) hU1 ?_; intro v2 w2 ho2 hg2 hat2))
                have hno := hS1.out.no_map hm1
                have hlo2 := hS1.out.lt
                exact ⟨⟨f + 1, v2, by omega, rfl, by go_num, by show OwnSpans _ _ _ (spansTo (wrow s j) (f + 1)); rw [hs2.out, hap.out]; exact ho2, MemoAt.tail hm1 hg2 hno, Kept.tail hK1.out hg2 fun k e => (hlo2 k e).1⟩, by simp [intOf]; omega⟩
        · have hfe : f = (s.space + 1).toNat := by omega
          have hrow : Hid (safeTo s (d + 1) = safeTo s d ++ [spansTo (wrow s j) f]) := by show _ = _; rw [safeTo_succ, show s.days.length - d = j by omega, hfe]
          replace hfe := Lib.hid hfe
          obtain ⟨sa, scap, hsp2, hsl⟩ := hS.slice
          subst hsp2
          have hlenr : (safeTo s d).length ≤ 1000000 := by unfold safeTo; simp; omega
          have hO2 := Lib.hid (hO.out.keptM hmU hK)
          have hlo1 := hO.out.lt
          have hlo2 := hS.lt
          have hS2 := Lib.hid (hS.from hXU)
          have hyv : Hid ((Value.slice sa (spansTo (wrow s j) f).length scap).ownBlock = none ∨ (Value.slice sa (spansTo (wrow s j) f).length scap).ownBlock ≠ ov.ownBlock) := by
            show _ ∨ _
            cases hq : (Value.slice sa (spansTo (wrow s j) f).length scap).ownBlock with
            | none => exact .inl rfl
            | some q => refine .inr fun e => ?_
                        have h1 := (hlo2 q hq).1
                        have h2 := (hlo1 q e.symm).2
                        omega
          have hXr : X.heap.size ≤ wr.heap.size := Nat.le_trans hXU hK.size
          have hKX : Kept (fun k => k ≠ mb) X wr := hKU.out.trans ⟨hK.os, hK.tape, hK.output, hK.size, fun i hi hs => hK.block i hi hs⟩
          replace hKX := Lib.hid hKX
          replace hlo1 := Lib.hid hlo1
          replace hlo2 := Lib.hid hlo2
          clear hS hK
          go_wp2_with (at_builtin; refine wpList_app_spans rfl _ _ rfl X.heap.size wr ov _ _ _ (by rfl) hO2.out hS2.out hyv.out (by rfl) hlenr hXr ?_; intro v2 w2 ho2 hg2 hbl2)
          have hno := hO2.out.no_map hm2
          exact ⟨⟨d + 1, v2, by omega, rfl, by go_num, by rw [hrow.out]; exact ho2, MemoAt.tail hm2 hg2 hno, Kept.tail hKX.out hg2 fun k e => hbl2 k e⟩, by simp [intOf]; omega⟩
    · have hde : d = s.days.length + 1 := by omega
      have hsr : Hid (safeTo s d = safeRows s) := by show _ = _; rw [hde]; rfl
      have hfin : Below w.heap.size w wr := below_of_kept hBX hmw hKU.out
      have hXw := hBX.size
      go_wp2
      go_ret2
      refine SafePost.of ?_ hfin
      have := hO.out.from hXw
      rwa [hsr.out] at this
end Go.Proofs.Ytacajmpggjgaiaa
