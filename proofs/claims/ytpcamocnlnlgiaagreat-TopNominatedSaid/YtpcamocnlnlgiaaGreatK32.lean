/- Laws and walks: SR1, SS1, SR5, SPly, SQ3. -/
import Derived.Test.YtpcamocnlnlgiaaGreatK31
set_option maxRecDepth 100000
set_option maxHeartbeats 16000000
set_option linter.unusedVariables false
set_option linter.unusedSimpArgs false
namespace Go.Proofs.YtpcamocnlnlgiaaGreat.S
open Go.RowKit Go.Sd
theorem refSpan (lo hi a b : Int) (w : World) :
    Calls Tryz.prog 28 #[.agg #[.int .i64 lo, .int .i64 hi], .int .i64 a, .int .i64 b] w fun e w' => e = .returned (.bool (Sea.spanB lo hi a b)) ∧ Below w.heap.size w w' := by
 by_cases h1 : a ≤ lo
 · by_cases h2 : lo ≤ hi
   · by_cases h3 : hi ≤ b
     · have hf : Hid (Sea.spanB lo hi a b = true) := Sea.spanB_iff.2 ⟨h1, h2, h3⟩
       go_enter Tryz.func28, Tryz.ntmps28
       go_wp2
       go_ret
       exact ⟨bool_ret (by rw [hf.out]), (Below.refl _ _).alloc (Nat.le_refl _) _⟩
     · have hf : Hid (Sea.spanB lo hi a b = false) := spanB_false (by omega)
       have h3' : b < hi := by omega
       go_enter Tryz.func28, Tryz.ntmps28
       go_wp2
       go_ret
       exact ⟨bool_ret (by rw [hf.out]), (Below.refl _ _).alloc (Nat.le_refl _) _⟩
   · have hf : Hid (Sea.spanB lo hi a b = false) := spanB_false (by omega)
     have h2' : hi < lo := by omega
     go_enter Tryz.func28, Tryz.ntmps28
     go_wp2
     go_ret
     exact ⟨bool_ret hf.out.symm, (Below.refl _ _).alloc (Nat.le_refl _) _⟩
 · have hf : Hid (Sea.spanB lo hi a b = false) := spanB_false (by omega)
   have h1' : lo < a := by omega
   go_enter Tryz.func28, Tryz.ntmps28
   go_wp2
   go_ret
   exact ⟨bool_ret hf.out.symm, (Below.refl _ _).alloc (Nat.le_refl _) _⟩
theorem refInT {a b c : Int} {t : Bool} (h : Sea.inB a b c = t) (w : World) : Calls Tryz.prog 27 #[.int .i64 a, .int .i64 b, .int .i64 c] w fun e w' => e = .returned (.bool t) ∧ w = w' := by
 rw [← h]; exact refIn a b c w
theorem refSpanT {a b l h : Int} {t : Bool} (ht : Sea.spanB a b l h = t) (w : World) : Calls Tryz.prog 28 #[.agg #[.int .i64 a, .int .i64 b], .int .i64 l, .int .i64 h] w fun e w' => e = .returned (.bool t) ∧ Below w.heap.size w w' := by
 rw [← ht]; exact refSpan a b l h w
def BoolPost (b : Bool) (w : World) (e : Ending) (w' : World) : Prop := e = .returned (.bool b) ∧ Below w.heap.size w w'
theorem BoolPost.of {b c : Bool} {w w' : World} (h : b = c) (hb : Below w.heap.size w w') : BoolPost b w (.returned (.bool c)) w' := ⟨by rw [h], hb⟩
theorem refSeason (sv : Value) (s : Sea.S) (w : World) (hs : SeasonAt w sv s) :
    Calls Tryz.prog 7 #[sv] w (BoolPost (Sea.validB s) w) := by
 have hs' := hs
 obtain ⟨rv, dv, rfl, hr, hd⟩ := hs'
 obtain ⟨ra, rcap, rfl, hrm, hrc⟩ := hr
 obtain ⟨da, dcap, rfl, hdm, hdc⟩ := hd
 unfold maxLen at hrm hdm
 have hf0 : Hid (Sea.validB s = (Sea.headB s && Sea.rowsB s.rows && Sea.daysB s)) := rfl
 have hBw : Below w.heap.size w (w.alloc (sBox s (.slice ra s.rows.length rcap) (.slice da s.days.length dcap))) := (Below.refl _ _).alloc (Nat.le_refl _) _
 have hg := grow_cell (w.alloc (sBox s (.slice ra s.rows.length rcap) (.slice da s.days.length dcap)))
 clear hs
 cases h1 : Sea.inB s.space 1 100
 · have hf : Hid (Sea.validB s = false) := by show _ = _; rw [hf0.out]; unfold Sea.headB; simp [h1]
   go_enter Tryz.func7, Tryz.ntmps7
   go_wp2_with (first | (go_at_call 27; refine (refInT (by assumption) _).mono ?_; rintro e w' ⟨rfl, rfl⟩) | (go_at_call 28; refine (refSpanT (by assumption) _).mono ?_; rintro e w' ⟨rfl, hbS⟩; obtain ⟨g1, rfl⟩ : ∃ g1 : Grow (w.alloc (sBox s (.slice ra s.rows.length rcap) (.slice da s.days.length dcap))), w' = g1.x := ⟨⟨w', hbS⟩, rfl⟩))
   go_ret
   exact BoolPost.of hf.out hBw
 · skip
   cases h2 : Sea.inB s.start 0 s.space
   · have hf : Hid (Sea.validB s = false) := by show _ = _; rw [hf0.out]; unfold Sea.headB; simp [h1, h2]
     go_enter Tryz.func7, Tryz.ntmps7
     go_wp2_with (first | (go_at_call 27; refine (refInT (by assumption) _).mono ?_; rintro e w' ⟨rfl, rfl⟩) | (go_at_call 28; refine (refSpanT (by assumption) _).mono ?_; rintro e w' ⟨rfl, hbS⟩; obtain ⟨g1, rfl⟩ : ∃ g1 : Grow (w.alloc (sBox s (.slice ra s.rows.length rcap) (.slice da s.days.length dcap))), w' = g1.x := ⟨⟨w', hbS⟩, rfl⟩))
     go_ret
     exact BoolPost.of hf.out hBw
   · skip
     cases h3 : Sea.spanB s.elo s.ehi 0 s.space
     · have hf : Hid (Sea.validB s = false) := by show _ = _; rw [hf0.out]; unfold Sea.headB; simp [h1, h2, h3]
       go_enter Tryz.func7, Tryz.ntmps7
       go_wp2_with (first | (go_at_call 27; refine (refInT (by assumption) _).mono ?_; rintro e w' ⟨rfl, rfl⟩) | (go_at_call 28; refine (refSpanT (by assumption) _).mono ?_; rintro e w' ⟨rfl, hbS⟩; obtain ⟨g1, rfl⟩ : ∃ g1 : Grow (w.alloc (sBox s (.slice ra s.rows.length rcap) (.slice da s.days.length dcap))), w' = g1.x := ⟨⟨w', hbS⟩, rfl⟩))
       go_ret
       exact BoolPost.of hf.out (hBw.trans (g1.h.mono hBw.size))
     · skip
       cases h4 : Sea.inB s.rows.length 1 8
       · have hf : Hid (Sea.validB s = false) := by show _ = _; rw [hf0.out]; unfold Sea.headB; simp [h1, h2, h3, h4]
         go_enter Tryz.func7, Tryz.ntmps7
         go_wp2_with (first | (go_at_call 27; refine (refInT (by assumption) _).mono ?_; rintro e w' ⟨rfl, rfl⟩) | (go_at_call 28; refine (refSpanT (by assumption) _).mono ?_; rintro e w' ⟨rfl, hbS⟩; obtain ⟨g1, rfl⟩ : ∃ g1 : Grow (w.alloc (sBox s (.slice ra s.rows.length rcap) (.slice da s.days.length dcap))), w' = g1.x := ⟨⟨w', hbS⟩, rfl⟩))
         go_ret
         exact BoolPost.of hf.out (hBw.trans (g1.h.mono hBw.size))
       · skip
         cases h5 : Sea.inB s.days.length 1 20
         · have hf : Hid (Sea.validB s = false) := by show _ = _; rw [hf0.out]; unfold Sea.headB; simp [h1, h2, h3, h4, h5]
           go_enter Tryz.func7, Tryz.ntmps7
           go_wp2_with (first | (go_at_call 27; refine (refInT (by assumption) _).mono ?_; rintro e w' ⟨rfl, rfl⟩) | (go_at_call 28; refine (refSpanT (by assumption) _).mono ?_; rintro e w' ⟨rfl, hbS⟩; obtain ⟨g1, rfl⟩ : ∃ g1 : Grow (w.alloc (sBox s (.slice ra s.rows.length rcap) (.slice da s.days.length dcap))), w' = g1.x := ⟨⟨w', hbS⟩, rfl⟩))
           go_ret
           exact BoolPost.of hf.out (hBw.trans (g1.h.mono hBw.size))
         · skip
           have hf1 : Hid (Sea.validB s = (Sea.rowsB s.rows && Sea.daysB s)) := by show _ = _; rw [hf0.out]; unfold Sea.headB; simp [h1, h2, h3, h4, h5]
           go_enter Tryz.func7, Tryz.ntmps7
           go_wp2_with (first | (go_at_call 27; refine (refInT (by assumption) _).mono ?_; rintro e w' ⟨rfl, rfl⟩) | (go_at_call 28; refine (refSpanT (by assumption) _).mono ?_; rintro e w' ⟨rfl, hbS⟩; obtain ⟨g1, rfl⟩ : ∃ g1 : Grow (w.alloc (sBox s (.slice ra s.rows.length rcap) (.slice da s.days.length dcap))), w' = g1.x := ⟨⟨w', hbS⟩, rfl⟩))
           clear h1 h2 h3 h4 h5
           obtain ⟨hszW, -, q0, q1, q2, q3, q4, q5⟩ := box_season (w := w) (s := s) (rv := .slice ra s.rows.length rcap) (dv := .slice da s.days.length dcap) rfl
           generalize w.alloc (sBox s (.slice ra s.rows.length rcap) (.slice da s.days.length dcap)) = W at *
           go_loopw [3] (fun i wr => ∃ k : Nat, k ≤ s.rows.length ∧ i = .int .i64 k ∧ Hid (∀ j, j < k → Sea.rowB s.rows j = true) ∧ ∃ g : Grow W, wr = g.x) (fun i _ => s.rows.length - (intOf i).toNat)
           case atStart => exact ⟨0, by omega, rfl, (fun j h => by omega : ∀ j, j < 0 → Sea.rowB s.rows j = true), g1, rfl⟩
           case round =>
            obtain ⟨k, hk, rfl, hH, g, rfl⟩ := hrel
            by_cases hlt : k < s.rows.length
            · obtain ⟨rb, off, rfl, hrl, hrk⟩ := hrc (by omega)
              obtain ⟨c0, c1, c2⟩ := (hrk k hlt).mono hBw
              have hrbW : rb < W.heap.size := Nat.lt_of_lt_of_le hrl hBw.size
              have hki : (0 : Int) ≤ (k : Int) ∧ (k : Int) < s.rows.length := by omega
              obtain ⟨t, ht⟩ : ∃ t, Sea.rowB s.rows k = t := ⟨_, rfl⟩
              have ht0 := ht
              unfold Sea.rowB at ht
              replace ht0 := Lib.hid ht0
              obtain ⟨g2, hg2⟩ := g.alloc (.cells #[.int .i64 (Sea.rowAt s.rows k).fill, .int .i64 (Sea.rowAt s.rows k).inn, .int .i64 (Sea.rowAt s.rows k).out] 37)
              have hn := World.alloc_heap_new g.x (.cells #[.int .i64 (Sea.rowAt s.rows k).fill, .int .i64 (Sea.rowAt s.rows k).inn, .int .i64 (Sea.rowAt s.rows k).out] 37)
              rw [hg2] at hn
              obtain ⟨zn, dn, fn⟩ := row_cells hn
              have n0 := dn 0
              have n1 := dn 1
              have n2 := dn 2
              simp only [List.getElem?_toArray, List.getElem?_cons_zero, List.getElem?_cons_succ] at n0 n1 n2
              have hrc2 := Lib.hid hrk
              clear dn fn hrk hrc
              cases h1 : Sea.inB (Sea.rowAt s.rows k).fill 0 100
              · have ht1 : Hid (Sea.rowB s.rows k = false) := by show _ = _; rw [ht0.out, ← ht]; simp [h1]
                replace ht := Lib.hid ht
                go_wp2_with (fail)
                go_quiet ((go_at_call 27; exact Calls.quiet_of_same ((refInT (by assumption) _).mono (by rintro e w' ⟨rfl, rfl⟩; exact ⟨rfl, rfl⟩))))
                go_wp2_with (fail)
                go_ret
                refine BoolPost.of ?_ (below_drewN (hBw.trans (g2.h.mono hBw.size)) _)
                rw [hf1.out]; unfold Sea.rowsB; rw [all_range_not hlt ht1.out]; rfl
              · cases h2 : Sea.inB (Sea.rowAt s.rows k).inn 0 100
                · have ht1 : Hid (Sea.rowB s.rows k = false) := by show _ = _; rw [ht0.out, ← ht]; simp [h1, h2]
                  replace ht := Lib.hid ht
                  go_wp2_with (fail)
                  go_quiet ((go_at_call 27; exact Calls.quiet_of_same ((refInT (by assumption) _).mono (by rintro e w' ⟨rfl, rfl⟩; exact ⟨rfl, rfl⟩))))
                  go_wp2_with (fail)
                  go_ret
                  refine BoolPost.of ?_ (below_drewN (hBw.trans (g2.h.mono hBw.size)) _)
                  rw [hf1.out]; unfold Sea.rowsB; rw [all_range_not hlt ht1.out]; rfl
                · cases h3 : Sea.inB (Sea.rowAt s.rows k).out 0 100
                  · have ht1 : Hid (Sea.rowB s.rows k = false) := by show _ = _; rw [ht0.out, ← ht]; simp [h1, h2, h3]
                    replace ht := Lib.hid ht
                    go_wp2_with (fail)
                    go_quiet ((go_at_call 27; exact Calls.quiet_of_same ((refInT (by assumption) _).mono (by rintro e w' ⟨rfl, rfl⟩; exact ⟨rfl, rfl⟩))))
                    go_wp2_with (fail)
                    go_ret
                    refine BoolPost.of ?_ (below_drewN (hBw.trans (g2.h.mono hBw.size)) _)
                    rw [hf1.out]; unfold Sea.rowsB; rw [all_range_not hlt ht1.out]; rfl
                  · by_cases hk0 : k = 0
                    · subst hk0
                      simp only [Nat.zero_mul, Nat.add_zero] at c0 c1 c2
                      by_cases hf0 : (Sea.rowAt s.rows 0).fill = 0
                      · have ht1 : Hid (Sea.rowB s.rows 0 = true) := by show _ = _; rw [ht0.out, ← ht]; simp [h1, h2, h3, hf0, show Sea.inB 0 0 100 = true from rfl]
                        have hb0 : ((Sea.rowAt s.rows 0).fill != 0) = false := by rw [hf0]; rfl
                        replace hf0 := Lib.hid hf0
                        replace ht := Lib.hid ht
                        go_wp2_with (fail)
                        go_quiet ((go_at_call 27; exact Calls.quiet_of_same ((refInT (by assumption) _).mono (by rintro e w' ⟨rfl, rfl⟩; exact ⟨rfl, rfl⟩))))
                        go_wp2_with (fail)
                        have hH' : Hid (∀ j, j < 0 + 1 → Sea.rowB s.rows j = true) := upto_succ hH.out ht1.out
                        obtain ⟨g3, hg3⟩ := g2.next (below_drewN (Below.refl _ _) nq)
                        exact ⟨⟨0 + 1, by omega, by go_num, hH', g3, hg3⟩, by simp [intOf]; omega⟩
                      · have ht1 : Hid (Sea.rowB s.rows 0 = false) := by show _ = _; rw [ht0.out, ← ht]; simp [h1, h2, h3, hf0]
                        have hb0 : ((Sea.rowAt s.rows 0).fill != 0) = true := by simpa using hf0
                        replace hf0 := Lib.hid hf0
                        replace ht := Lib.hid ht
                        go_wp2_with (fail)
                        go_quiet ((go_at_call 27; exact Calls.quiet_of_same ((refInT (by assumption) _).mono (by rintro e w' ⟨rfl, rfl⟩; exact ⟨rfl, rfl⟩))))
                        go_wp2_with (fail)
                        go_ret
                        refine BoolPost.of ?_ (below_drewN (hBw.trans (g2.h.mono hBw.size)) _)
                        rw [hf1.out]; unfold Sea.rowsB; rw [all_range_not hlt ht1.out]; rfl
                    · obtain ⟨p0, -, -⟩ := RowCells.mono ((hrc2.out (k - 1) (by omega))) hBw
                      have hkz : ((k : Int) == 0) = false := by simp; omega
                      have hkp : 0 < k := by omega
                      have hkq : decide (0 < k) = true := by simpa using hkp
                      have hk1 : (0 : Int) < (k : Int) ∧ (0 : Int) ≤ (k : Int) - 1 ∧ (k : Int) - 1 < s.rows.length := by omega
                      by_cases hf0 : (Sea.rowAt s.rows k).fill ≤ (Sea.rowAt s.rows (k - 1)).fill
                      · have ht1 : Hid (Sea.rowB s.rows k = false) := by show _ = _; rw [ht0.out, ← ht]; simp [h1, h2, h3, hf0, hk0, show 0 < k by omega]
                        replace ht := Lib.hid ht
                        go_wp2_with (fail)
                        go_quiet ((go_at_call 27; exact Calls.quiet_of_same ((refInT (by assumption) _).mono (by rintro e w' ⟨rfl, rfl⟩; exact ⟨rfl, rfl⟩))))
                        go_wp2_with (fail)
                        go_ret
                        refine BoolPost.of ?_ (below_drewN (hBw.trans (g2.h.mono hBw.size)) _)
                        rw [hf1.out]; unfold Sea.rowsB; rw [all_range_not hlt ht1.out]; rfl
                      · have hf1' : (Sea.rowAt s.rows (k - 1)).fill < (Sea.rowAt s.rows k).fill := by omega
                        have ht1 : Hid (Sea.rowB s.rows k = true) := by show _ = _; rw [ht0.out, ← ht]; simp [h1, h2, h3, hf1', hk0, show 0 < k by omega]
                        replace ht := Lib.hid ht
                        go_wp2_with (fail)
                        go_quiet ((go_at_call 27; exact Calls.quiet_of_same ((refInT (by assumption) _).mono (by rintro e w' ⟨rfl, rfl⟩; exact ⟨rfl, rfl⟩))))
                        go_wp2_with (fail)
                        have hH' : Hid (∀ j, j < k + 1 → Sea.rowB s.rows j = true) := upto_succ hH.out ht1.out
                        obtain ⟨g3, hg3⟩ := g2.next (below_drewN (Below.refl _ _) nq)
                        exact ⟨⟨k + 1, by omega, by go_num, hH', g3, hg3⟩, by simp [intOf]; omega⟩
            · have hrows : Hid (Sea.rowsB s.rows = true) := all_range fun j hj => hH.out j (by omega)
              have hf2 : Hid (Sea.validB s = Sea.daysB s) := by show _ = _; rw [hf1.out, hrows.out]; rfl
              obtain ⟨gd, hgd⟩ : ∃ gd : Grow W, gd = g := ⟨_, rfl⟩
              clear hrc hH
              go_wp2_with (fail)
              go_loopw [5] (fun i wr => ∃ k : Nat, k ≤ s.days.length ∧ i = .int .i64 k ∧ Hid (∀ j, j < k → Sea.dayB s.space (Sea.dayAt s.days j) = true) ∧ ∃ g : Grow W, wr = g.x) (fun i _ => s.days.length - (intOf i).toNat)
              case atStart => exact ⟨0, by omega, rfl, (fun j h => by omega : ∀ j, j < 0 → Sea.dayB s.space (Sea.dayAt s.days j) = true), g, rfl⟩
              case round =>
               clear hgd gd hlt
               obtain ⟨m, hm, rfl, hH, g, rfl⟩ := hrel
               by_cases hlt : m < s.days.length
               · obtain ⟨db, off, rfl, hdl, hdk⟩ := hdc (by omega)
                 obtain ⟨c0, c1, c2, c3, c4, c5, c6, c7⟩ := (hdk m hlt).mono hBw
                 have hdbW : db < W.heap.size := Nat.lt_of_lt_of_le hdl hBw.size
                 have hmi : (0 : Int) ≤ (m : Int) ∧ (m : Int) < s.days.length := by omega
                 obtain ⟨t, ht⟩ : ∃ t, Sea.dayB s.space (Sea.dayAt s.days m) = t := ⟨_, rfl⟩
                 have ht0 := ht
                 unfold Sea.dayB at ht
                 replace ht0 := Lib.hid ht0
                 generalize hde : Sea.dayAt s.days m = d at *
                 replace hde := Lib.hid hde
                 obtain ⟨g2, hg2⟩ := g.alloc (dayO d)
                 have hn := World.alloc_heap_new g.x (dayO d)
                 rw [hg2] at hn
                 obtain ⟨zn, dn, fn⟩ := row_cells hn
                 have hgy := grow_cell g2.x
                 have n0 := dn 0
                 have n1 := dn 1
                 have n2 := dn 2
                 have n3 := dn 3
                 have n4 := dn 4
                 have n5 := dn 5
                 have n6 := dn 6
                 have n7 := dn 7
                 simp only [List.getElem?_toArray, List.getElem?_cons_zero, List.getElem?_cons_succ] at n0 n1 n2 n3 n4 n5 n6 n7
                 have s0 : g2.x.cell? ⟨w.heap.size, 0, none⟩ = some (.int .i64 s.space) := g2.cell q0
                 have hsw : w.heap.size < g2.x.heap.size := World.block_lt_of_cell? _ ⟨_, _, none⟩ s0
                 clear dn fn hdk hdc
                 cases h1 : Sea.inB d.buy 0 1000000
                 · skip
                   have ht1 : Hid (t = false) := by show _ = _; rw [← ht]; simp [h1]
                   replace ht := Lib.hid ht
                   go_wp2_with (first | (go_at_call 27; refine (refInT (by assumption) _).mono ?_; rintro e w' ⟨rfl, rfl⟩) | (go_at_call 28; ((with_reducible refine Calls.mono (refSpanT h5 _) ?_); rintro e w' ⟨rfl, hbS⟩); obtain ⟨g3, rfl⟩ : ∃ g3 : Grow g2.x, w' = g3.x := ⟨⟨w', hbS⟩, rfl⟩) | (go_at_call 28; ((with_reducible refine Calls.mono (refSpanT h6 _) ?_); rintro e w' ⟨rfl, hbS2⟩); obtain ⟨g4, rfl⟩ := g3.next hbS2))
                   go_ret
                   refine BoolPost.of ?_ (hBw.trans (Below.mono g2.h hBw.size))
                   rw [hf2.out]; unfold Sea.daysB; rw [all_range_not hlt (by rw [hde.out]; exact ht0.out.trans ht1.out)]
                 · skip
                   cases h2 : Sea.inB d.sell 0 1000000
                   · skip
                     have ht1 : Hid (t = false) := by show _ = _; rw [← ht]; simp [h1, h2]
                     replace ht := Lib.hid ht
                     go_wp2_with (first | (go_at_call 27; refine (refInT (by assumption) _).mono ?_; rintro e w' ⟨rfl, rfl⟩) | (go_at_call 28; ((with_reducible refine Calls.mono (refSpanT h5 _) ?_); rintro e w' ⟨rfl, hbS⟩); obtain ⟨g3, rfl⟩ : ∃ g3 : Grow g2.x, w' = g3.x := ⟨⟨w', hbS⟩, rfl⟩) | (go_at_call 28; ((with_reducible refine Calls.mono (refSpanT h6 _) ?_); rintro e w' ⟨rfl, hbS2⟩); obtain ⟨g4, rfl⟩ := g3.next hbS2))
                     go_ret
                     refine BoolPost.of ?_ (hBw.trans (Below.mono g2.h hBw.size))
                     rw [hf2.out]; unfold Sea.daysB; rw [all_range_not hlt (by rw [hde.out]; exact ht0.out.trans ht1.out)]
                   · skip
                     cases h3 : Sea.inB d.offer 0 100
                     · skip
                       have ht1 : Hid (t = false) := by show _ = _; rw [← ht]; simp [h1, h2, h3]
                       replace ht := Lib.hid ht
                       go_wp2_with (first | (go_at_call 27; refine (refInT (by assumption) _).mono ?_; rintro e w' ⟨rfl, rfl⟩) | (go_at_call 28; ((with_reducible refine Calls.mono (refSpanT h5 _) ?_); rintro e w' ⟨rfl, hbS⟩); obtain ⟨g3, rfl⟩ : ∃ g3 : Grow g2.x, w' = g3.x := ⟨⟨w', hbS⟩, rfl⟩) | (go_at_call 28; ((with_reducible refine Calls.mono (refSpanT h6 _) ?_); rintro e w' ⟨rfl, hbS2⟩); obtain ⟨g4, rfl⟩ := g3.next hbS2))
                       go_ret
                       refine BoolPost.of ?_ (hBw.trans (Below.mono g2.h hBw.size))
                       rw [hf2.out]; unfold Sea.daysB; rw [all_range_not hlt (by rw [hde.out]; exact ht0.out.trans ht1.out)]
                     · skip
                       cases h4 : Sea.inB d.take 0 100
                       · skip
                         have ht1 : Hid (t = false) := by show _ = _; rw [← ht]; simp [h1, h2, h3, h4]
                         replace ht := Lib.hid ht
                         go_wp2_with (first | (go_at_call 27; refine (refInT (by assumption) _).mono ?_; rintro e w' ⟨rfl, rfl⟩) | (go_at_call 28; ((with_reducible refine Calls.mono (refSpanT h5 _) ?_); rintro e w' ⟨rfl, hbS⟩); obtain ⟨g3, rfl⟩ : ∃ g3 : Grow g2.x, w' = g3.x := ⟨⟨w', hbS⟩, rfl⟩) | (go_at_call 28; ((with_reducible refine Calls.mono (refSpanT h6 _) ?_); rintro e w' ⟨rfl, hbS2⟩); obtain ⟨g4, rfl⟩ := g3.next hbS2))
                         go_ret
                         refine BoolPost.of ?_ (hBw.trans (Below.mono g2.h hBw.size))
                         rw [hf2.out]; unfold Sea.daysB; rw [all_range_not hlt (by rw [hde.out]; exact ht0.out.trans ht1.out)]
                       · skip
                         cases h5 : Sea.spanB d.glo d.ghi 0 s.space
                         · skip
                           have ht1 : Hid (t = false) := by show _ = _; rw [← ht]; simp [h1, h2, h3, h4, h5]
                           replace ht := Lib.hid ht
                           go_wp2_with (first | (go_at_call 27; refine (refInT (by assumption) _).mono ?_; rintro e w' ⟨rfl, rfl⟩) | (go_at_call 28; ((with_reducible refine Calls.mono (refSpanT h5 _) ?_); rintro e w' ⟨rfl, hbS⟩); obtain ⟨g3, rfl⟩ : ∃ g3 : Grow g2.x, w' = g3.x := ⟨⟨w', hbS⟩, rfl⟩) | (go_at_call 28; ((with_reducible refine Calls.mono (refSpanT h6 _) ?_); rintro e w' ⟨rfl, hbS2⟩); obtain ⟨g4, rfl⟩ := g3.next hbS2))
                           go_ret
                           refine BoolPost.of ?_ (hBw.trans (Below.mono (g2.h.trans (g3.h.mono g2.size)) hBw.size))
                           rw [hf2.out]; unfold Sea.daysB; rw [all_range_not hlt (by rw [hde.out]; exact ht0.out.trans ht1.out)]
                         · skip
                           cases h6 : Sea.spanB d.nlo d.nhi (-100) 100
                           · skip
                             have ht1 : Hid (t = false) := by show _ = _; rw [← ht]; simp [h1, h2, h3, h4, h5, h6]
                             replace ht := Lib.hid ht
                             go_wp2_with (first | (go_at_call 27; refine (refInT (by assumption) _).mono ?_; rintro e w' ⟨rfl, rfl⟩) | (go_at_call 28; ((with_reducible refine Calls.mono (refSpanT h5 _) ?_); rintro e w' ⟨rfl, hbS⟩); obtain ⟨g3, rfl⟩ : ∃ g3 : Grow g2.x, w' = g3.x := ⟨⟨w', hbS⟩, rfl⟩) | (go_at_call 28; ((with_reducible refine Calls.mono (refSpanT h6 _) ?_); rintro e w' ⟨rfl, hbS2⟩); obtain ⟨g4, rfl⟩ := g3.next hbS2))
                             go_ret
                             refine BoolPost.of ?_ (hBw.trans (Below.mono (g2.h.trans (g4.h.mono g2.size)) hBw.size))
                             rw [hf2.out]; unfold Sea.daysB; rw [all_range_not hlt (by rw [hde.out]; exact ht0.out.trans ht1.out)]
                           · skip
                             have ht1 : Hid (t = true) := by show _ = _; rw [← ht]; simp [h1, h2, h3, h4, h5, h6]
                             replace ht := Lib.hid ht
                             go_wp2_with (first | (go_at_call 27; refine (refInT (by assumption) _).mono ?_; rintro e w' ⟨rfl, rfl⟩) | (go_at_call 28; ((with_reducible refine Calls.mono (refSpanT h5 _) ?_); rintro e w' ⟨rfl, hbS⟩); obtain ⟨g3, rfl⟩ : ∃ g3 : Grow g2.x, w' = g3.x := ⟨⟨w', hbS⟩, rfl⟩) | (go_at_call 28; ((with_reducible refine Calls.mono (refSpanT h6 _) ?_); rintro e w' ⟨rfl, hbS2⟩); obtain ⟨g4, rfl⟩ := g3.next hbS2))
                             have hH' : Hid (∀ j, j < m + 1 → Sea.dayB s.space (Sea.dayAt s.days j) = true) := upto_succ hH.out (by rw [hde.out]; exact ht0.out.trans ht1.out)
                             exact ⟨⟨m + 1, by omega, by go_num, hH', ⟨g4.x, (g2.h.trans (g4.h.mono g2.size))⟩, rfl⟩, by simp [intOf]; omega⟩
               · have hdays : Hid (Sea.daysB s = true) := all_range fun j hj => hH.out j (by omega)
                 go_wp2_with (fail)
                 go_ret
                 exact BoolPost.of (by rw [hf2.out, hdays.out]) (hBw.trans (g.h.mono hBw.size))
end Go.Proofs.YtpcamocnlnlgiaaGreat.S
set_option linter.unusedVariables false
set_option linter.unusedSimpArgs false
namespace Go.Proofs.YtpcamocnlnlgiaaGreat.S
open Go.RowKit Go.Sd
theorem refSeasonT {sv : Value} {s : Sea.S} {t : Bool} (w : World) (hs : SeasonAt w sv s) (h : Sea.validB s = t) :
    Calls Tryz.prog 7 #[sv] w fun e w' => e = .returned (.bool t) ∧ Below w.heap.size w w' := by
 rw [← h]; exact refSeason sv s w hs
end Go.Proofs.YtpcamocnlnlgiaaGreat.S
namespace Go.Proofs.YtpcamocnlnlgiaaGreat.S
open Go.RowKit Go.Sd
end Go.Proofs.YtpcamocnlnlgiaaGreat.S
set_option linter.unusedVariables false
set_option linter.unusedSimpArgs false
namespace Go.Proofs.YtpcamocnlnlgiaaGreat.S
open Go.RowKit Go.Sd
def planB (s : Sea.S) (l : List Int) : Bool := (List.range l.length).all (fun k => Sea.inB (Sea.at0 l k) (-100) 100) && decide (l.length = s.days.length)
theorem refPlan (sv lv : Value) (s : Sea.S) (l : List Int) (w : World) (hs : SeasonAt w sv s) (hl : IntsAt w lv l) :
    Calls Tryz.prog 10 #[sv, lv] w (BoolPost (planB s l) w) := by
 have hs' := hs
 obtain ⟨rv, dv, rfl, -, ⟨da, dcap, rfl, hdm, -⟩⟩ := hs'
 obtain ⟨aa, ac, rfl, ham, hac⟩ := hl
 unfold maxLen at ham hdm
 go_enter Tryz.func10, Tryz.ntmps10
 go_wp2
 generalize hW : w.alloc (sBox s rv (.slice da s.days.length dcap)) = W
 obtain ⟨hsz, hBw, q0, q1, q2, q3, q4, q5⟩ := box_season hW
 clear hW
 go_loopw [5] (fun i wr => ∃ k : Nat, k ≤ l.length ∧ i = .int .i64 k ∧ Hid (∀ j, j < k → Sea.inB (Sea.at0 l j) (-100) 100 = true) ∧ wr = W) (fun i _ => l.length - (intOf i).toNat)
 case atStart => exact ⟨0, by omega, rfl, (fun j h => by omega : ∀ j, j < 0 → Sea.inB (Sea.at0 l j) (-100) 100 = true), rfl⟩
 case round =>
  obtain ⟨k, hk, rfl, hH, rfl⟩ := hrel
  by_cases hlt : k < l.length
  · obtain ⟨ab, ao, rfl, hal, hak⟩ := hac (by omega)
    have ca := kept_cell hBw (hak k hlt)
    clear hak hac
    have hlt' : (0 : Int) ≤ (k : Int) ∧ (k : Int) < l.length := by omega
    cases he : Sea.inB (Sea.at0 l k) (-100) 100
    · have Hf : Hid (planB s l = false) := by show _ = _; unfold planB; rw [all_range_not hlt he, Bool.false_and]
      go_wp2_with (go_at_call 27; refine (refInT he _).mono ?_; rintro e w' ⟨rfl, rfl⟩)
      go_ret
      exact BoolPost.of Hf.out hBw
    · have hH' : Hid (∀ j, j < k + 1 → Sea.inB (Sea.at0 l j) (-100) 100 = true) := upto_succ hH.out he
      go_wp2_with (go_at_call 27; refine (refInT he _).mono ?_; rintro e w' ⟨rfl, rfl⟩)
      exact ⟨⟨k + 1, by omega, by go_num, hH', trivial⟩, by simp [intOf]; omega⟩
  · have hall : Hid ((List.range l.length).all (fun k => Sea.inB (Sea.at0 l k) (-100) 100) = true) := all_range fun j hj => hH.out j (by omega)
    by_cases hlen : l.length = s.days.length
    · have hbe : ((l.length : Int) == (s.days.length : Int)) = true := by rw [hlen]; simp
      have Hf : Hid (planB s l = true) := by show _ = _; unfold planB; rw [hall.out, decide_eq_true hlen]; rfl
      replace hlen := Lib.hid hlen
      go_wp2
      go_ret
      exact BoolPost.of (by first | exact Hf.out | (rw [Hf.out]; simp [hbe])) hBw
    · have hbe : ((l.length : Int) == (s.days.length : Int)) = false := beq_eq_false_iff_ne.2 (fun h => hlen (by omega))
      have Hf : Hid (planB s l = false) := by show _ = _; unfold planB; rw [decide_eq_false hlen, Bool.and_false]
      replace hlen := Lib.hid hlen
      go_wp2
      go_ret
      exact BoolPost.of (by first | exact Hf.out | (rw [Hf.out]; simp [hbe])) hBw
theorem refPlanT {sv lv : Value} {s : Sea.S} {l : List Int} {t : Bool} (w : World) (hs : SeasonAt w sv s) (hl : IntsAt w lv l) (h : planB s l = t) :
    Calls Tryz.prog 10 #[sv, lv] w fun e w' => e = .returned (.bool t) ∧ Below w.heap.size w w' := by
 rw [← h]; exact refPlan sv lv s l w hs hl
end Go.Proofs.YtpcamocnlnlgiaaGreat.S
set_option linter.unusedVariables false
set_option linter.unusedSimpArgs false
namespace Go.Proofs.YtpcamocnlnlgiaaGreat.S
open Go.Sd
def playTo (s : Sea.S) (noms plan : List Int) : Nat → List Int × Int × Int
 | 0 => ([], s.start, 0)
 | t + 1 => ((playTo s noms plan t).1 ++ [(playTo s noms plan t).2.1 + Sea.at0 noms t + Sea.at0 plan t], (playTo s noms plan t).2.1 + Sea.at0 noms t + Sea.at0 plan t, (playTo s noms plan t).2.2 + s.cost t (Sea.at0 plan t))
def ruleOn (s : Sea.S) (noms plan : List Int) (t : Nat) : Int := s.rule t (playTo s noms plan t).2.1 (Sea.at0 noms t) (Sea.at0 plan t)
def faultTo (s : Sea.S) (noms plan : List Int) : Nat → Option Nat
 | 0 => none
 | t + 1 => match faultTo s noms plan t with
  | some d => some d
  | none => if ruleOn s noms plan t = 1 then none else some t
def playOf (s : Sea.S) (noms plan : List Int) : List Int × Int × Int × Int :=
 match faultTo s noms plan plan.length with
 | some d => ((playTo s noms plan d).1, (playTo s noms plan d).2.2, (d : Int), ruleOn s noms plan d)
 | none => ((playTo s noms plan plan.length).1, (playTo s noms plan plan.length).2.2, 0, 1)
theorem playTo_len (s : Sea.S) (noms plan : List Int) : ∀ t, (playTo s noms plan t).1.length = t
 | 0 => rfl
 | t + 1 => by simp [playTo, playTo_len s noms plan t]
theorem faultTo_stay {s : Sea.S} {noms plan : List Int} {k d : Nat} (h : faultTo s noms plan k = some d) : ∀ n, k ≤ n → faultTo s noms plan n = some d := by
 intro n
 induction n with
 | zero => intro hk; obtain rfl : k = 0 := by omega
           exact h
 | succ n ih =>
  intro hk
  by_cases e : k = n + 1
  · rw [← e]; exact h
  · have := ih (by omega)
    simp only [faultTo, this]
theorem faultTo_hit {s : Sea.S} {noms plan : List Int} {t n : Nat} (h : faultTo s noms plan t = none) (hr : ¬ ruleOn s noms plan t = 1) (hn : t < n) : faultTo s noms plan n = some t :=
 faultTo_stay (k := t + 1) (by simp only [faultTo, h, if_neg hr]) n hn
theorem faultTo_miss {s : Sea.S} {noms plan : List Int} {t : Nat} (h : faultTo s noms plan t = none) (hr : ruleOn s noms plan t = 1) : faultTo s noms plan (t + 1) = none := by
 simp only [faultTo, h, if_pos hr]
theorem faultTo_none {s : Sea.S} {noms plan : List Int} {t : Nat} (h : faultTo s noms plan (t + 1) = none) : faultTo s noms plan t = none ∧ ruleOn s noms plan t = 1 := by
 simp only [faultTo] at h
 cases h1 : faultTo s noms plan t with
 | some d => simp [h1] at h
 | none => simp only [h1] at h
           refine ⟨rfl, ?_⟩
           by_cases hr : ruleOn s noms plan t = 1
           · exact hr
           · simp [hr] at h
theorem playOf_hit {s : Sea.S} {noms plan : List Int} {t : Nat} (h : faultTo s noms plan t = none) (hr : ¬ ruleOn s noms plan t = 1) (hn : t < plan.length) : playOf s noms plan = ((playTo s noms plan t).1, (playTo s noms plan t).2.2, (t : Int), ruleOn s noms plan t) := by
 simp only [playOf, faultTo_hit h hr hn]
theorem playOf_fine {s : Sea.S} {noms plan : List Int} (h : faultTo s noms plan plan.length = none) : playOf s noms plan = ((playTo s noms plan plan.length).1, (playTo s noms plan plan.length).2.2, 0, 1) := by
 simp only [playOf, h]
theorem planB_at {s : Sea.S} {plan : List Int} (h : planB s plan = true) : plan.length = s.days.length ∧ ∀ k, k < plan.length → -100 ≤ Sea.at0 plan k ∧ Sea.at0 plan k ≤ 100 := by
 unfold planB at h
 rw [Bool.and_eq_true] at h
 refine ⟨by simpa using h.2, fun k hk => ?_⟩
 have := List.all_eq_true.1 h.1 k (List.mem_range.2 hk)
 exact Sea.inB_iff.1 this
theorem play_inv {s : Sea.S} (ok : Sea.Ok s) {noms plan : List Int} (hp : planB s plan = true) : ∀ t, t ≤ s.days.length → faultTo s noms plan t = none →
    (0 ≤ (playTo s noms plan t).2.1 ∧ (playTo s noms plan t).2.1 ≤ s.space) ∧ -(100000000 * (t : Int)) ≤ (playTo s noms plan t).2.2 ∧ (playTo s noms plan t).2.2 ≤ 100000000 * (t : Int)
 | 0, _, _ => ⟨ok.start, by simp [playTo], by simp [playTo]⟩
 | t + 1, ht, h => by
  obtain ⟨h1, h2⟩ := faultTo_none h
  obtain ⟨i1, i2, i3⟩ := play_inv ok hp t (by omega) h1
  have hd := ok.days t (by omega)
  have hb := planB_at hp
  have hr := rule_fine h2 (by omega) (by omega)
  have hc := cost_bd ok (d := t) (by omega) (hb.2 t (by omega))
  simp only [playTo]
  refine ⟨hr, ?_, ?_⟩ <;> omega
end Go.Proofs.YtpcamocnlnlgiaaGreat.S
set_option linter.unusedVariables false
set_option linter.unusedSimpArgs false
namespace Go.Proofs.YtpcamocnlnlgiaaGreat.S
open Go.RowKit Go.Sd
theorem progPlay1 (d : Int) (w : World) : Calls Tryz.prog 38 #[.int .i64 d] w fun e w' => e = .returned (.bool (!Sea.inB d (-100) 100)) ∧ Below w.heap.size w w' := by
 cases ht : Sea.inB d (-100) 100
 all_goals
  replace ht := Lib.hid ht
  go_enter Tryz.func38, Tryz.ntmps38
  go_wp2_with (go_at_call 39; refine (progInT ht.out _).mono ?_; rintro e w' ⟨rfl, rfl⟩)
  go_ret
  exact ⟨rfl, Below.refl _ _⟩
theorem enter_play1 : ∀ (args : Array Value) (w : World), (callFunc 38 args).run Tryz.prog w = .ok (.enter 38 args) w := fun _ _ => by kernel_rfl
theorem planAny (s : Sea.S) (plan : List Int) : planB s plan = (!(plan.any fun d => !Sea.inB d (-100) 100) && decide (plan.length = s.days.length)) := by
 unfold planB
 congr 1
 rw [Bool.eq_iff_iff]
 simp only [List.all_eq_true, List.mem_range, Bool.not_eq_true', List.any_eq_false]
 constructor
 · intro h x hx
   obtain ⟨i, hi, rfl⟩ := List.getElem_of_mem hx
   have := h i hi
   rw [at0_eq hi] at this
   simp [this]
 · intro h i hi
   have := h _ (List.getElem_mem hi)
   rw [at0_eq hi]
   simpa using this
end Go.Proofs.YtpcamocnlnlgiaaGreat.S
