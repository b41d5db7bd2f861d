/- Walks: which seasons are as defined (the program). -/
import Derived.Test.YtacajmpggjgaiaaV1
import Derived.Test.YtacajmpggjgaiaaP5
set_option linter.unusedVariables false
set_option linter.unusedSimpArgs false
namespace Go.Proofs.Ytacajmpggjgaiaa
open Go.RowKit Go.Sd

theorem enter_dayNot : ∀ (args : Array Value) (w : World), (callFunc 82 args).run Try.prog w = .ok (.enter 82 args) w := fun _ _ => by kernel_rfl

theorem any_not_all {α : Type} (l : List α) (p : α → Bool) : (!l.any fun x => !p x) = l.all p := by
  induction l with
  | nil => rfl
  | cons x xs ih => simp only [List.any_cons, List.all_cons, Bool.not_or, Bool.not_not, ih]

theorem daysB_all (s : Sea.S) : Sea.daysB s = s.days.all (Sea.dayB s.space) := by
  unfold Sea.daysB
  rw [Bool.eq_iff_iff, List.all_eq_true, List.all_eq_true]
  constructor
  · intro h d hd
    obtain ⟨i, hi, rfl⟩ := List.getElem_of_mem hd
    have := h i (List.mem_range.2 hi)
    rwa [dayAt_eq hi] at this
  · intro h i hi
    have hi := List.mem_range.1 hi
    rw [dayAt_eq hi]
    exact h _ (List.getElem_mem hi)

theorem rowAt_cells {w : World} {v : Value} {xs : List Sea.Row} (h : RowsAt w v xs) (hn : 0 < xs.length) : ∃ b off cap, v = .slice (some ⟨b, off, none⟩) xs.length cap ∧ b < w.heap.size ∧ xs.length ≤ 9223372036854775807 ∧
    ∀ k, k < xs.length → RowCells w b (off + k * 3) (Sea.rowAt xs k) := by
  obtain ⟨a, cap, rfl, hm, hc⟩ := h
  obtain ⟨b, off, rfl, hlt, hk⟩ := hc hn
  unfold maxLen at hm
  exact ⟨b, off, cap, rfl, hlt, by omega, hk⟩

theorem progInT {a b c : Int} {t : Bool} (h : Sea.inB a b c = t) (w : World) : Calls Try.prog 68 #[.int .i64 a, .int .i64 b, .int .i64 c] w fun e w' => e = .returned (.bool t) ∧ w = w' := by
  rw [← h]; exact progIn a b c w
theorem progSpanT {a b l h : Int} {t : Bool} (ht : Sea.spanB a b l h = t) (w : World) : Calls Try.prog 80 #[.agg #[.int .i64 a, .int .i64 b], .int .i64 l, .int .i64 h] w fun e w' => e = .returned (.bool t) ∧ Below w.heap.size w w' := by
  rw [← ht]; exact progSpan a b l h w

set_option maxRecDepth 100000 in
set_option maxHeartbeats 6000000 in
theorem progValid (sv : Value) (s : Sea.S) (w : World) (hs : SeasonAt w sv s) :
    Calls Try.prog 51 #[sv] w fun e w' => e = .returned (.bool (Sea.validB s)) ∧ Below w.heap.size w w' := by
  have hs' := hs
  obtain ⟨rv, dv, rfl, hr, hd⟩ := hs'
  obtain ⟨ra, rcap, rfl, hrm, hrc⟩ := hr
  have hd' := hd
  obtain ⟨da, dcap, rfl, hdm, -⟩ := hd'
  unfold maxLen at hrm hdm
  go_enter Try.func51, Try.ntmps51
  go_wp2_with (fail)
  generalize hW : w.alloc (sBox s _ _) = W
  obtain ⟨hsz, hBw, q0, q1, q2, q3, q4, q5⟩ := box_season hW
  have hd2 := hd.mono hBw
  have hbs : w.heap.size < W.heap.size := hsz
  clear hW hs hd
  have hg := grow_cell W
  go_loopw [9] (fun i wr => ∃ k : Nat, k ≤ s.rows.length ∧ i = .int .i64 k ∧ Hid (∀ j, j < k → Sea.rowB s.rows j = true) ∧ ∃ g : Grow W, wr = g.x) (fun i _ => s.rows.length - (intOf i).toNat)
  case atStart => exact ⟨0, by omega, rfl, (fun j h => by omega : ∀ j, j < 0 → Sea.rowB s.rows j = true), Grow.self W, rfl⟩
  case round =>
    obtain ⟨k, hk, rfl, hH, g, rfl⟩ := hrel
    by_cases hlt : k < s.rows.length
    · obtain ⟨rb, off, rfl, hrl, hrk⟩ := hrc (by omega)
      obtain ⟨c0, c1, c2⟩ := (hrk k hlt).mono hBw
      have hrbW : rb < W.heap.size := by omega
      have hki : (0 : Int) ≤ (k : Int) ∧ (k : Int) < s.rows.length := by omega
      obtain ⟨t, ht⟩ : ∃ t, Sea.rowB s.rows k = t := ⟨_, rfl⟩
      have ht0 := ht
      unfold Sea.rowB at ht
      replace ht0 := Lib.hid ht0
      obtain ⟨g1, hg1⟩ := g.alloc (.cells #[.int .i64 (Sea.rowAt s.rows k).fill, .int .i64 (Sea.rowAt s.rows k).inn, .int .i64 (Sea.rowAt s.rows k).out] 65)
      have hn := World.alloc_heap_new g.x (.cells #[.int .i64 (Sea.rowAt s.rows k).fill, .int .i64 (Sea.rowAt s.rows k).inn, .int .i64 (Sea.rowAt s.rows k).out] 65)
      rw [hg1] at hn
      obtain ⟨zn, dn, fn⟩ := row_cells hn
      have n0 := dn 0
      have n1 := dn 1
      have n2 := dn 2
      simp only [List.getElem?_toArray, List.getElem?_cons_zero, List.getElem?_cons_succ] at n0 n1 n2
      have hrc2 := hrk
      clear dn fn hrk
      replace hrc2 := Lib.hid hrc2
      cases h1 : Sea.inB (Sea.rowAt s.rows k).fill 0 100
      · have ht1 : Hid (Sea.rowB s.rows k = false) := by show _ = _; rw [ht0.out, ← ht]; simp [h1]
        replace ht := Lib.hid ht
        go_wp2_with (fail)
        go_quiet ((go_at_call 68; exact Calls.quiet_of_same ((progInT (by assumption) _).mono (by rintro e w' ⟨rfl, rfl⟩; exact ⟨rfl, rfl⟩))))
        go_wp2_with (fail)
        go_ret
        refine ⟨bool_ret ?_, below_drewN (hBw.trans (g1.h.mono hBw.size)) _⟩
        have := ht1.out
        unfold Sea.validB Sea.rowsB
        rw [all_range_not hlt this]; simp
      · cases h2 : Sea.inB (Sea.rowAt s.rows k).inn 0 100
        · have ht1 : Hid (Sea.rowB s.rows k = false) := by show _ = _; rw [ht0.out, ← ht]; simp [h1, h2]
          replace ht := Lib.hid ht
          go_wp2_with (fail)
          go_quiet ((go_at_call 68; exact Calls.quiet_of_same ((progInT (by assumption) _).mono (by rintro e w' ⟨rfl, rfl⟩; exact ⟨rfl, rfl⟩))))
          go_wp2_with (fail)
          go_ret
          refine ⟨bool_ret ?_, below_drewN (hBw.trans (g1.h.mono hBw.size)) _⟩
          have := ht1.out
          unfold Sea.validB Sea.rowsB
          rw [all_range_not hlt this]; simp
        · cases h3 : Sea.inB (Sea.rowAt s.rows k).out 0 100
          · have ht1 : Hid (Sea.rowB s.rows k = false) := by show _ = _; rw [ht0.out, ← ht]; simp [h1, h2, h3]
            replace ht := Lib.hid ht
            go_wp2_with (fail)
            go_quiet ((go_at_call 68; exact Calls.quiet_of_same ((progInT (by assumption) _).mono (by rintro e w' ⟨rfl, rfl⟩; exact ⟨rfl, rfl⟩))))
            go_wp2_with (fail)
            go_ret
            refine ⟨bool_ret ?_, below_drewN (hBw.trans (g1.h.mono hBw.size)) _⟩
            have := ht1.out
            unfold Sea.validB Sea.rowsB
            rw [all_range_not hlt this]; simp
          · by_cases hk0 : k = 0
            · subst hk0
              simp only [Nat.zero_mul, Nat.add_zero] at c0 c1 c2
              by_cases hf0 : (Sea.rowAt s.rows 0).fill = 0
              · have ht1 : Hid (Sea.rowB s.rows 0 = true) := by show _ = _; rw [ht0.out, ← ht]; simp [h1, h2, h3, hf0, show Sea.inB 0 0 100 = true from rfl]
                have hb0 : ((Sea.rowAt s.rows 0).fill != 0) = false := by rw [hf0]; rfl
                replace hf0 := Lib.hid hf0
                replace ht := Lib.hid ht
                go_wp2_with (fail)
                go_quiet ((go_at_call 68; exact Calls.quiet_of_same ((progInT (by assumption) _).mono (by rintro e w' ⟨rfl, rfl⟩; exact ⟨rfl, rfl⟩))))
                go_wp2_with (fail)
                have hH' : Hid (∀ j, j < 0 + 1 → Sea.rowB s.rows j = true) := upto_succ hH.out ht1.out
                obtain ⟨g2, hg2⟩ := g1.next (below_drewN (Below.refl _ _) nq)
                exact ⟨⟨0 + 1, by omega, by go_num, hH', g2, hg2⟩, by simp [intOf]; omega⟩
              · have ht1 : Hid (Sea.rowB s.rows 0 = false) := by show _ = _; rw [ht0.out, ← ht]; simp [h1, h2, h3, hf0]
                have hb0 : ((Sea.rowAt s.rows 0).fill != 0) = true := by simpa using hf0
                replace hf0 := Lib.hid hf0
                replace ht := Lib.hid ht
                go_wp2_with (fail)
                go_quiet ((go_at_call 68; exact Calls.quiet_of_same ((progInT (by assumption) _).mono (by rintro e w' ⟨rfl, rfl⟩; exact ⟨rfl, rfl⟩))))
                go_wp2_with (fail)
                go_ret
                refine ⟨bool_ret ?_, below_drewN (hBw.trans (g1.h.mono hBw.size)) _⟩
                have := ht1.out
                unfold Sea.validB Sea.rowsB
                rw [all_range_not hlt this]; simp
            · obtain ⟨p0, -, -⟩ := RowCells.mono ((hrc2.out (k - 1) (by omega))) hBw
              have hkz : ((k : Int) == 0) = false := by simp; omega
              have hkp : 0 < k := by omega
              have hkq : decide (0 < k) = true := by simpa using hkp
              have hk1 : (0 : Int) < (k : Int) ∧ (0 : Int) ≤ (k : Int) - 1 ∧ (k : Int) - 1 < s.rows.length := by omega
              by_cases hf0 : (Sea.rowAt s.rows k).fill ≤ (Sea.rowAt s.rows (k - 1)).fill
              · have ht1 : Hid (Sea.rowB s.rows k = false) := by show _ = _; rw [ht0.out, ← ht]; simp [h1, h2, h3, hf0, hk0, show 0 < k by omega]
                replace ht := Lib.hid ht
                go_wp2_with (fail)
                go_quiet ((go_at_call 68; exact Calls.quiet_of_same ((progInT (by assumption) _).mono (by rintro e w' ⟨rfl, rfl⟩; exact ⟨rfl, rfl⟩))))
                go_wp2_with (fail)
                go_ret
                refine ⟨bool_ret ?_, below_drewN (hBw.trans (g1.h.mono hBw.size)) _⟩
                have := ht1.out
                unfold Sea.validB Sea.rowsB
                rw [all_range_not hlt this]; simp
              · have hf1 : (Sea.rowAt s.rows (k - 1)).fill < (Sea.rowAt s.rows k).fill := by omega
                have ht1 : Hid (Sea.rowB s.rows k = true) := by show _ = _; rw [ht0.out, ← ht]; simp [h1, h2, h3, hf1, hk0, show 0 < k by omega]
                replace ht := Lib.hid ht
                go_wp2_with (fail)
                go_quiet ((go_at_call 68; exact Calls.quiet_of_same ((progInT (by assumption) _).mono (by rintro e w' ⟨rfl, rfl⟩; exact ⟨rfl, rfl⟩))))
                go_wp2_with (fail)
                have hH' : Hid (∀ j, j < k + 1 → Sea.rowB s.rows j = true) := upto_succ hH.out ht1.out
                obtain ⟨g2, hg2⟩ := g1.next (below_drewN (Below.refl _ _) nq)
                exact ⟨⟨k + 1, by omega, by go_num, hH', g2, hg2⟩, by simp [intOf]; omega⟩
    · have hrows : Hid (Sea.rowsB s.rows = true) := all_range fun j hj => hH.out j (by omega)
      have hdays := Lib.hid (daysB_all s)
      have hf0 : Hid (Sea.validB s = (Sea.headB s && s.days.all (Sea.dayB s.space))) := by show _ = _; unfold Sea.validB; rw [hrows.out, daysB_all, Bool.and_true]
      obtain ⟨g1, hg1⟩ := g.alloc (.cells #[.func (.func 79) #[] #[.pointer (some ⟨w.heap.size, 0, none⟩)]] 116)
      have hn := World.alloc_heap_new g.x (.cells #[.func (.func 79) #[] #[.pointer (some ⟨w.heap.size, 0, none⟩)]] 116)
      rw [hg1] at hn
      obtain ⟨zn, dn, -⟩ := row_cells hn
      have n0 := dn 0
      simp only [List.getElem?_toArray, List.getElem?_cons_zero] at n0
      have n1 := g1.cell q0
      have hgs := g1.size
      clear dn hH hn
      cases h1 : Sea.inB s.space 1 100
      · skip
        have hf : Hid (Sea.validB s = false) := by show _ = _; rw [hf0.out]; unfold Sea.headB; simp [h1]
        go_wp2_with (first | (go_at_call 68; refine (progInT (by assumption) _).mono ?_; rintro e w' ⟨rfl, rfl⟩) | (go_at_call 80; refine (progSpanT (by assumption) _).mono ?_; rintro e w' ⟨rfl, hbS⟩; obtain ⟨g2, rfl⟩ := g1.next hbS))
        go_ret
        exact ⟨bool_ret hf.out.symm, hBw.trans ((Grow.h _).mono hBw.size)⟩
      · skip
        cases h2 : Sea.inB s.start 0 s.space
        · skip
          have hf : Hid (Sea.validB s = false) := by show _ = _; rw [hf0.out]; unfold Sea.headB; simp [h1, h2]
          go_wp2_with (first | (go_at_call 68; refine (progInT (by assumption) _).mono ?_; rintro e w' ⟨rfl, rfl⟩) | (go_at_call 80; refine (progSpanT (by assumption) _).mono ?_; rintro e w' ⟨rfl, hbS⟩; obtain ⟨g2, rfl⟩ := g1.next hbS))
          go_ret
          exact ⟨bool_ret hf.out.symm, hBw.trans ((Grow.h _).mono hBw.size)⟩
        · skip
          cases h3 : Sea.spanB s.elo s.ehi 0 s.space
          · skip
            have hf : Hid (Sea.validB s = false) := by show _ = _; rw [hf0.out]; unfold Sea.headB; simp [h1, h2, h3]
            go_wp2_with (first | (go_at_call 68; refine (progInT (by assumption) _).mono ?_; rintro e w' ⟨rfl, rfl⟩) | (go_at_call 80; refine (progSpanT (by assumption) _).mono ?_; rintro e w' ⟨rfl, hbS⟩; obtain ⟨g2, rfl⟩ := g1.next hbS))
            go_ret
            exact ⟨bool_ret hf.out.symm, hBw.trans ((Grow.h _).mono hBw.size)⟩
          · skip
            cases h4 : Sea.inB s.rows.length 1 8
            · skip
              have hf : Hid (Sea.validB s = false) := by show _ = _; rw [hf0.out]; unfold Sea.headB; simp [h1, h2, h3, h4]
              go_wp2_with (first | (go_at_call 68; refine (progInT (by assumption) _).mono ?_; rintro e w' ⟨rfl, rfl⟩) | (go_at_call 80; refine (progSpanT (by assumption) _).mono ?_; rintro e w' ⟨rfl, hbS⟩; obtain ⟨g2, rfl⟩ := g1.next hbS))
              go_ret
              exact ⟨bool_ret hf.out.symm, hBw.trans ((Grow.h _).mono hBw.size)⟩
            · skip
              cases h5 : Sea.inB s.days.length 1 20
              · skip
                have hf : Hid (Sea.validB s = false) := by show _ = _; rw [hf0.out]; unfold Sea.headB; simp [h1, h2, h3, h4, h5]
                go_wp2_with (first | (go_at_call 68; refine (progInT (by assumption) _).mono ?_; rintro e w' ⟨rfl, rfl⟩) | (go_at_call 80; refine (progSpanT (by assumption) _).mono ?_; rintro e w' ⟨rfl, hbS⟩; obtain ⟨g2, rfl⟩ := g1.next hbS))
                go_ret
                exact ⟨bool_ret hf.out.symm, hBw.trans ((Grow.h _).mono hBw.size)⟩
              · skip
                have hcon : ∀ (X : World), Below g1.x.heap.size g1.x X → Calls Try.prog 81 #[.slice da s.days.length dcap, .func (.func 82) #[] #[.pointer (some ⟨g.x.heap.size, 0, none⟩)]] X fun e w' => e = .returned (.bool (s.days.any fun d => !Sea.dayB s.space d)) ∧ Below X.heap.size X w' := fun X hX =>
                  containsDays _ s.days _ _ _ X ((hd2.mono g1.h).mono hX) enter_dayNot fun d Y hY => progDayNot s.space d Y _ _ (kept_cell hY (kept_cell hX n1)) (kept_cell hY (kept_cell hX n0))
                have hf : Hid (Sea.validB s = !(s.days.any fun d => !Sea.dayB s.space d)) := by show _ = _; rw [hf0.out, any_not_all]; unfold Sea.headB; simp [h1, h2, h3, h4, h5]
                generalize (s.days.any fun d => !Sea.dayB s.space d) = tt at hcon hf
                replace hcon := Lib.hid hcon
                go_wp2_with (first | (go_at_call 68; refine (progInT (by assumption) _).mono ?_; rintro e w' ⟨rfl, rfl⟩) | (go_at_call 80; refine (progSpanT (by assumption) _).mono ?_; rintro e w' ⟨rfl, hbS⟩; obtain ⟨g2, rfl⟩ := g1.next hbS) | (go_at_call 81; refine Calls.mono (hcon.out _ hbS) ?_; rintro e w' ⟨rfl, hbC⟩))
                go_ret
                exact ⟨bool_ret hf.out.symm, hBw.trans ((below_tr g2.h hbC).mono hBw.size)⟩
end Go.Proofs.Ytacajmpggjgaiaa
