/- Walks: the law of the worst nomination and of the advice. -/
import Derived.Test.YtacajmpggjgaiaaS1
import Derived.Test.YtacajmpggjgaiaaR4
set_option linter.unusedVariables false
set_option linter.unusedSimpArgs false
namespace Go.Proofs.Ytacajmpggjgaiaa
open Go.RowKit Go.Sd

theorem progWorstT {sv : Value} {s : Sea.S} {day fill a b c : Int} (w : World) (hs : SeasonAt w sv s) (h : worstErr s day fill = (a, b, c)) :
    Calls Try.prog 28 #[sv, .int .i64 day, .int .i64 fill] w fun e w' => e = .returned (.tuple #[.int .i64 a, .int .i64 b, .int .i64 c]) ∧ Below w.heap.size w w' := by
  have := progWorstErr sv s day fill w hs
  rw [h] at this
  exact this
theorem progAdviseT {sv : Value} {s : Sea.S} {day fill nom a b c : Int} (w : World) (hs : SeasonAt w sv s) (h : adviseErr s day fill nom = (a, b, c)) :
    Calls Try.prog 29 #[sv, .int .i64 day, .int .i64 fill, .int .i64 nom] w fun e w' => e = .returned (.tuple #[.int .i64 a, .int .i64 b, .int .i64 c]) ∧ Below w.heap.size w w' := by
  have := progAdviseErr sv s day fill nom w hs
  rw [h] at this
  exact this
theorem refDayT {sv : Value} {s : Sea.S} {n : Int} {t : Bool} (w : World) (hs : SeasonAt w sv s) (h : Sea.inB n 0 (s.days.length - 1) = t) :
    Calls Try.prog 30 #[sv, .int .i64 n] w fun e w' => e = .returned (.bool t) ∧ Below w.heap.size w w' := by
  rw [← h]; exact refDay sv s n w hs
theorem refNomT {sv : Value} {s : Sea.S} {d : Nat} {n : Int} {t : Bool} (w : World) (hs : SeasonAt w sv s) (hd : d < s.days.length) (h : Sea.inB n (Sea.dayAt s.days d).nlo (Sea.dayAt s.days d).nhi = t) :
    Calls Try.prog 33 #[sv, .int .i64 d, .int .i64 n] w fun e w' => e = .returned (.bool t) ∧ Below w.heap.size w w' := by
  have := refNom sv s d n w hs (by omega) (by omega)
  rw [Int.toNat_natCast, h] at this
  exact this

set_option maxRecDepth 100000 in
set_option maxHeartbeats 8000000 in
/-- The law of the worst nomination and of the advice. -/
theorem lawAdvises (sv : Value) (s : Sea.S) (day fill nom : Int) (w : World) (hs : SeasonAt w sv s) :
    Calls Try.prog 5 #[sv, .int .i64 day, .int .i64 fill, .int .i64 nom] w fun e w' => e = .returned (.bool true) ∧ Below w.heap.size w w' := by
  have hs' := hs
  obtain ⟨rv, dv, rfl, hr, hd⟩ := hs'
  obtain ⟨W, hW⟩ : ∃ W, w.alloc (sBox s rv dv) = W := ⟨_, rfl⟩
  obtain ⟨hsz, hBw, q0, q1, q2, q3, q4, q5⟩ := box_season hW
  have hg := grow_cell W
  have hK : Hid (∀ (w : World), Calls Try.prog 16 #[] w fun e w' => e = .returned (.bool true) ∧ Below w.heap.size w w') := progKnown
  have hsg : ∀ g : Grow W, SeasonAt g.x (.agg #[.int .i64 s.space, .int .i64 s.start, .int .i64 s.elo, .int .i64 s.ehi, rv, dv]) s := fun g => (hs.mono hBw).mono g.h
  cases hsm : smallB s
  · skip
    have hS : Hid (Calls Try.prog 14 #[.agg #[.int .i64 s.space, .int .i64 s.start, .int .i64 s.elo, .int .i64 s.ehi, rv, dv]] W fun e w' => e = .returned (.bool false) ∧ Below W.heap.size W w') := lawSmallT W (hs.mono hBw) hsm
    replace hsm := Lib.hid hsm
    clear hsg
    go_enter Try.func5, Try.ntmps5
    go_wp2_with (first | (go_at_call 14; refine Calls.mono hS.out ?_; rintro e w' ⟨rfl, hb⟩; obtain ⟨g1, rfl⟩ : ∃ g1 : Grow W, w' = g1.x := ⟨⟨w', hb⟩, rfl⟩) | (go_at_call 16; refine Calls.mono (hK.out _) ?_; rintro e w' ⟨rfl, hb2⟩; obtain ⟨g2, rfl⟩ := g1.next hb2))
    go_ret
    exact ⟨rfl, hBw.trans (g2.h.mono (Nat.le_of_lt hsz))⟩
  · skip
    have hS : Hid (Calls Try.prog 14 #[.agg #[.int .i64 s.space, .int .i64 s.start, .int .i64 s.elo, .int .i64 s.ehi, rv, dv]] W fun e w' => e = .returned (.bool true) ∧ Below W.heap.size W w') := lawSmallT W (hs.mono hBw) hsm
    replace hsm := Lib.hid hsm
    have hno : askedB s day fill = false → Hid (worstErr s day fill = (0, 0, 2)) ∧ Hid (adviseErr s day fill nom = (0, 0, 2)) := fun h => ⟨worstErr_no h, adviseErr_no h⟩
    cases hvb : Sea.validB s
    · skip
      have hR : Hid (∀ g : Grow W, Calls Try.prog 19 #[.agg #[.int .i64 s.space, .int .i64 s.start, .int .i64 s.elo, .int .i64 s.ehi, rv, dv]] g.x fun e w' => e = .returned (.bool false) ∧ Below g.x.heap.size g.x w') := fun g => refSeasonT g.x (hsg g) hvb
      obtain ⟨h1, h2⟩ := hno (by unfold askedB; rw [hvb]; rfl)
      have hA : Hid (∀ g : Grow W, Calls Try.prog 28 #[.agg #[.int .i64 s.space, .int .i64 s.start, .int .i64 s.elo, .int .i64 s.ehi, rv, dv], .int .i64 day, .int .i64 fill] g.x fun e w' => e = .returned (.tuple #[.int .i64 0, .int .i64 0, .int .i64 2]) ∧ Below g.x.heap.size g.x w') := fun g => progWorstT g.x (hsg g) h1.out
      have hB : Hid (∀ g : Grow W, Calls Try.prog 29 #[.agg #[.int .i64 s.space, .int .i64 s.start, .int .i64 s.elo, .int .i64 s.ehi, rv, dv], .int .i64 day, .int .i64 fill, .int .i64 nom] g.x fun e w' => e = .returned (.tuple #[.int .i64 0, .int .i64 0, .int .i64 2]) ∧ Below g.x.heap.size g.x w') := fun g => progAdviseT g.x (hsg g) h2.out
      clear hno
      replace hvb := Lib.hid hvb
      clear hsg
      go_enter Try.func5, Try.ntmps5
      go_wp2_with (first | (go_at_call 14; refine Calls.mono hS.out ?_; rintro e w' ⟨rfl, hb⟩; obtain ⟨g1, rfl⟩ : ∃ g1 : Grow W, w' = g1.x := ⟨⟨w', hb⟩, rfl⟩) | (go_at_call 28; refine Calls.mono (hA.out g1) ?_; rintro e w' ⟨rfl, hb2⟩; obtain ⟨g2, rfl⟩ := g1.next hb2) | (go_at_call 29; refine Calls.mono (hB.out g2) ?_; rintro e w' ⟨rfl, hb3⟩; obtain ⟨g3, rfl⟩ := g2.next hb3) | (go_at_call 19; refine Calls.mono (hR.out g3) ?_; rintro e w' ⟨rfl, hb4⟩; obtain ⟨g4, rfl⟩ := g3.next hb4) | (go_at_call 16; refine Calls.mono (hK.out _) ?_; rintro e w' ⟨rfl, hb5⟩; obtain ⟨g5, rfl⟩ := g4.next hb5))
      go_ret
      exact ⟨rfl, hBw.trans (g5.h.mono (Nat.le_of_lt hsz))⟩
    · skip
      have hR : Hid (∀ g : Grow W, Calls Try.prog 19 #[.agg #[.int .i64 s.space, .int .i64 s.start, .int .i64 s.elo, .int .i64 s.ehi, rv, dv]] g.x fun e w' => e = .returned (.bool true) ∧ Below g.x.heap.size g.x w') := fun g => refSeasonT g.x (hsg g) hvb
      cases hda : Sea.inB day 0 (s.days.length - 1)
      · skip
        have hD : Hid (∀ g : Grow W, Calls Try.prog 30 #[.agg #[.int .i64 s.space, .int .i64 s.start, .int .i64 s.elo, .int .i64 s.ehi, rv, dv], .int .i64 day] g.x fun e w' => e = .returned (.bool false) ∧ Below g.x.heap.size g.x w') := fun g => refDayT g.x (hsg g) hda
        obtain ⟨h1, h2⟩ := hno (by unfold askedB; rw [hvb, hda]; rfl)
        have hA : Hid (∀ g : Grow W, Calls Try.prog 28 #[.agg #[.int .i64 s.space, .int .i64 s.start, .int .i64 s.elo, .int .i64 s.ehi, rv, dv], .int .i64 day, .int .i64 fill] g.x fun e w' => e = .returned (.tuple #[.int .i64 0, .int .i64 0, .int .i64 2]) ∧ Below g.x.heap.size g.x w') := fun g => progWorstT g.x (hsg g) h1.out
        have hB : Hid (∀ g : Grow W, Calls Try.prog 29 #[.agg #[.int .i64 s.space, .int .i64 s.start, .int .i64 s.elo, .int .i64 s.ehi, rv, dv], .int .i64 day, .int .i64 fill, .int .i64 nom] g.x fun e w' => e = .returned (.tuple #[.int .i64 0, .int .i64 0, .int .i64 2]) ∧ Below g.x.heap.size g.x w') := fun g => progAdviseT g.x (hsg g) h2.out
        clear hno
        replace hvb := Lib.hid hvb
        replace hda := Lib.hid hda
        clear hsg
        go_enter Try.func5, Try.ntmps5
        go_wp2_with (first | (go_at_call 14; refine Calls.mono hS.out ?_; rintro e w' ⟨rfl, hb⟩; obtain ⟨g1, rfl⟩ : ∃ g1 : Grow W, w' = g1.x := ⟨⟨w', hb⟩, rfl⟩) | (go_at_call 28; refine Calls.mono (hA.out g1) ?_; rintro e w' ⟨rfl, hb2⟩; obtain ⟨g2, rfl⟩ := g1.next hb2) | (go_at_call 29; refine Calls.mono (hB.out g2) ?_; rintro e w' ⟨rfl, hb3⟩; obtain ⟨g3, rfl⟩ := g2.next hb3) | (go_at_call 19; refine Calls.mono (hR.out g3) ?_; rintro e w' ⟨rfl, hb4⟩; obtain ⟨g4, rfl⟩ := g3.next hb4) | (go_at_call 30; refine Calls.mono (hD.out g4) ?_; rintro e w' ⟨rfl, hb5⟩; obtain ⟨g5, rfl⟩ := g4.next hb5) | (go_at_call 16; refine Calls.mono (hK.out _) ?_; rintro e w' ⟨rfl, hb6⟩; obtain ⟨g6, rfl⟩ := g5.next hb6))
        go_ret
        exact ⟨rfl, hBw.trans (g6.h.mono (Nat.le_of_lt hsz))⟩
      · skip
        have hD : Hid (∀ g : Grow W, Calls Try.prog 30 #[.agg #[.int .i64 s.space, .int .i64 s.start, .int .i64 s.elo, .int .i64 s.ehi, rv, dv], .int .i64 day] g.x fun e w' => e = .returned (.bool true) ∧ Below g.x.heap.size g.x w') := fun g => refDayT g.x (hsg g) hda
        cases hfi : Sea.inB fill 0 s.space
        · skip
          have hF : Hid (∀ g : Grow W, Calls Try.prog 31 #[.agg #[.int .i64 s.space, .int .i64 s.start, .int .i64 s.elo, .int .i64 s.ehi, rv, dv], .int .i64 fill] g.x fun e w' => e = .returned (.bool false) ∧ Below g.x.heap.size g.x w') := fun g => refFillT g.x (hsg g) hfi
          obtain ⟨h1, h2⟩ := hno (by unfold askedB; rw [hvb, hda, hfi]; rfl)
          have hA : Hid (∀ g : Grow W, Calls Try.prog 28 #[.agg #[.int .i64 s.space, .int .i64 s.start, .int .i64 s.elo, .int .i64 s.ehi, rv, dv], .int .i64 day, .int .i64 fill] g.x fun e w' => e = .returned (.tuple #[.int .i64 0, .int .i64 0, .int .i64 2]) ∧ Below g.x.heap.size g.x w') := fun g => progWorstT g.x (hsg g) h1.out
          have hB : Hid (∀ g : Grow W, Calls Try.prog 29 #[.agg #[.int .i64 s.space, .int .i64 s.start, .int .i64 s.elo, .int .i64 s.ehi, rv, dv], .int .i64 day, .int .i64 fill, .int .i64 nom] g.x fun e w' => e = .returned (.tuple #[.int .i64 0, .int .i64 0, .int .i64 2]) ∧ Below g.x.heap.size g.x w') := fun g => progAdviseT g.x (hsg g) h2.out
          clear hno
          replace hvb := Lib.hid hvb
          replace hda := Lib.hid hda
          replace hfi := Lib.hid hfi
          clear hsg
          go_enter Try.func5, Try.ntmps5
          go_wp2_with (first | (go_at_call 14; refine Calls.mono hS.out ?_; rintro e w' ⟨rfl, hb⟩; obtain ⟨g1, rfl⟩ : ∃ g1 : Grow W, w' = g1.x := ⟨⟨w', hb⟩, rfl⟩) | (go_at_call 28; refine Calls.mono (hA.out g1) ?_; rintro e w' ⟨rfl, hb2⟩; obtain ⟨g2, rfl⟩ := g1.next hb2) | (go_at_call 29; refine Calls.mono (hB.out g2) ?_; rintro e w' ⟨rfl, hb3⟩; obtain ⟨g3, rfl⟩ := g2.next hb3) | (go_at_call 19; refine Calls.mono (hR.out g3) ?_; rintro e w' ⟨rfl, hb4⟩; obtain ⟨g4, rfl⟩ := g3.next hb4) | (go_at_call 30; refine Calls.mono (hD.out g4) ?_; rintro e w' ⟨rfl, hb5⟩; obtain ⟨g5, rfl⟩ := g4.next hb5) | (go_at_call 31; refine Calls.mono (hF.out g5) ?_; rintro e w' ⟨rfl, hb6⟩; obtain ⟨g6, rfl⟩ := g5.next hb6) | (go_at_call 16; refine Calls.mono (hK.out _) ?_; rintro e w' ⟨rfl, hb7⟩; obtain ⟨g7, rfl⟩ := g6.next hb7))
          go_ret
          exact ⟨rfl, hBw.trans (g7.h.mono (Nat.le_of_lt hsz))⟩
        · skip
          have hF : Hid (∀ g : Grow W, Calls Try.prog 31 #[.agg #[.int .i64 s.space, .int .i64 s.start, .int .i64 s.elo, .int .i64 s.ehi, rv, dv], .int .i64 fill] g.x fun e w' => e = .returned (.bool true) ∧ Below g.x.heap.size g.x w') := fun g => refFillT g.x (hsg g) hfi
          clear hno
          have hask : askedB s day fill = true := by unfold askedB; rw [hvb, hda, hfi]; rfl
          obtain ⟨-, d, f, rfl, rfl, hd1, hf1⟩ := asked_yes hask
          have ok := Sea.ok_of_valid hvb
          have hdk := ok.days d hd1
          have hwe := worstErr_yes hask
          have hrw := fun g : Grow W => refWorst _ s d (s.days.length - 1 - d) f g.x (hsg g) ok (by omega) hf1
          have hra := fun (h : -100 ≤ nom ∧ nom ≤ 100) (g : Grow W) => refAdvise _ s d (s.days.length - 1 - d) f nom g.x (hsg g) ok (by omega) hf1 h
          have hae := fun h => adviseErr_yes (nom := nom) hask h
          have hnl := fun (t : Bool) h (g : Grow W) => refNomT (t := t) (n := nom) g.x (hsg g) hd1 h
          obtain ⟨wo, hwo⟩ : ∃ x, worstOf s d f (wrow s (s.days.length - 1 - d)) = x := ⟨_, rfl⟩
          obtain ⟨le, hle⟩ : ∃ x, s.least d f nom (wrow s (s.days.length - 1 - d)) = x := ⟨_, rfl⟩
          rw [hwo] at hwe
          simp only [hwo] at hrw
          simp only [hle] at hra hae
          clear hwo hle ok
          have hA : Hid (∀ g : Grow W, Calls Try.prog 28 #[.agg #[.int .i64 s.space, .int .i64 s.start, .int .i64 s.elo, .int .i64 s.ehi, rv, dv], .int .i64 d, .int .i64 f] g.x fun e w' => e = .returned (.tuple #[.int .i64 wo.1, .int .i64 wo.2, .int .i64 0]) ∧ Below g.x.heap.size g.x w') := fun g => progWorstT g.x (hsg g) hwe
          have hX : Hid (∀ g : Grow W, Calls Try.prog 32 #[.agg #[.int .i64 s.space, .int .i64 s.start, .int .i64 s.elo, .int .i64 s.ehi, rv, dv], .int .i64 d, .int .i64 f] g.x fun e w' => e = .returned (.tuple #[.int .i64 wo.1, .int .i64 wo.2]) ∧ Below g.x.heap.size g.x w') := fun g => hrw g
          clear hrw hwe
          cases hnm : Sea.inB nom (Sea.dayAt s.days d).nlo (Sea.dayAt s.days d).nhi
          · skip
            have hN : Hid (∀ g : Grow W, Calls Try.prog 33 #[.agg #[.int .i64 s.space, .int .i64 s.start, .int .i64 s.elo, .int .i64 s.ehi, rv, dv], .int .i64 d, .int .i64 nom] g.x fun e w' => e = .returned (.bool false) ∧ Below g.x.heap.size g.x w') := fun g => hnl false hnm g
            have hB : Hid (∀ g : Grow W, Calls Try.prog 29 #[.agg #[.int .i64 s.space, .int .i64 s.start, .int .i64 s.elo, .int .i64 s.ehi, rv, dv], .int .i64 d, .int .i64 f, .int .i64 nom] g.x fun e w' => e = .returned (.tuple #[.int .i64 0, .int .i64 0, .int .i64 2]) ∧ Below g.x.heap.size g.x w') := fun g => progAdviseT g.x (hsg g) (adviseErr_nom hnm)
            clear hnl hae hra hdk
            replace hvb := Lib.hid hvb
            replace hda := Lib.hid hda
            replace hfi := Lib.hid hfi
            replace hask := Lib.hid hask
            replace hnm := Lib.hid hnm
            clear hsg
            go_enter Try.func5, Try.ntmps5
            go_wp2_with (first | (go_at_call 14; refine Calls.mono hS.out ?_; rintro e w' ⟨rfl, hb⟩; obtain ⟨g1, rfl⟩ : ∃ g1 : Grow W, w' = g1.x := ⟨⟨w', hb⟩, rfl⟩) | (go_at_call 28; refine Calls.mono (hA.out g1) ?_; rintro e w' ⟨rfl, hb2⟩; obtain ⟨g2, rfl⟩ := g1.next hb2) | (go_at_call 29; refine Calls.mono (hB.out g2) ?_; rintro e w' ⟨rfl, hb3⟩; obtain ⟨g3, rfl⟩ := g2.next hb3) | (go_at_call 19; refine Calls.mono (hR.out g3) ?_; rintro e w' ⟨rfl, hb4⟩; obtain ⟨g4, rfl⟩ := g3.next hb4) | (go_at_call 30; refine Calls.mono (hD.out g4) ?_; rintro e w' ⟨rfl, hb5⟩; obtain ⟨g5, rfl⟩ := g4.next hb5) | (go_at_call 31; refine Calls.mono (hF.out g5) ?_; rintro e w' ⟨rfl, hb6⟩; obtain ⟨g6, rfl⟩ := g5.next hb6) | (go_at_call 32; refine Calls.mono (hX.out g6) ?_; rintro e w' ⟨rfl, hb7⟩; obtain ⟨g7, rfl⟩ := g6.next hb7) | (go_at_call 33; refine Calls.mono (hN.out g7) ?_; rintro e w' ⟨rfl, hb8⟩; obtain ⟨g8, rfl⟩ := g7.next hb8) | (go_at_call 16; refine Calls.mono (hK.out _) ?_; rintro e w' ⟨rfl, hb9⟩; obtain ⟨g9, rfl⟩ := g8.next hb9))
            go_ret
            exact ⟨rfl, hBw.trans (g9.h.mono (Nat.le_of_lt hsz))⟩
          · skip
            have hN : Hid (∀ g : Grow W, Calls Try.prog 33 #[.agg #[.int .i64 s.space, .int .i64 s.start, .int .i64 s.elo, .int .i64 s.ehi, rv, dv], .int .i64 d, .int .i64 nom] g.x fun e w' => e = .returned (.bool true) ∧ Below g.x.heap.size g.x w') := fun g => hnl true hnm g
            replace hae := hae hnm
            replace hra := hra (by have := (Sea.inB_iff.1 hnm); omega)
            have hY : Hid (∀ g : Grow W, Calls Try.prog 34 #[.agg #[.int .i64 s.space, .int .i64 s.start, .int .i64 s.elo, .int .i64 s.ehi, rv, dv], .int .i64 d, .int .i64 f, .int .i64 nom] g.x fun e w' => e = .returned (.tuple #[.int .i64 le.2, .int .i64 le.1]) ∧ Below g.x.heap.size g.x w') := fun g => hra g
            clear hra hnl hdk
            by_cases hlt : le.1 < Sea.never
            · skip
              rw [if_pos hlt] at hae
              have hB : Hid (∀ g : Grow W, Calls Try.prog 29 #[.agg #[.int .i64 s.space, .int .i64 s.start, .int .i64 s.elo, .int .i64 s.ehi, rv, dv], .int .i64 d, .int .i64 f, .int .i64 nom] g.x fun e w' => e = .returned (.tuple #[.int .i64 le.2, .int .i64 le.1, .int .i64 0]) ∧ Below g.x.heap.size g.x w') := fun g => progAdviseT g.x (hsg g) hae
              clear hae
              have hlt2 : le.1 < 1000000000000000 := hlt
              clear hlt
              replace hvb := Lib.hid hvb
              replace hda := Lib.hid hda
              replace hfi := Lib.hid hfi
              replace hask := Lib.hid hask
              replace hnm := Lib.hid hnm
              clear hsg
              go_enter Try.func5, Try.ntmps5
              go_wp2_with (first | (go_at_call 14; refine Calls.mono hS.out ?_; rintro e w' ⟨rfl, hb⟩; obtain ⟨g1, rfl⟩ : ∃ g1 : Grow W, w' = g1.x := ⟨⟨w', hb⟩, rfl⟩) | (go_at_call 28; refine Calls.mono (hA.out g1) ?_; rintro e w' ⟨rfl, hb2⟩; obtain ⟨g2, rfl⟩ := g1.next hb2) | (go_at_call 29; refine Calls.mono (hB.out g2) ?_; rintro e w' ⟨rfl, hb3⟩; obtain ⟨g3, rfl⟩ := g2.next hb3) | (go_at_call 19; refine Calls.mono (hR.out g3) ?_; rintro e w' ⟨rfl, hb4⟩; obtain ⟨g4, rfl⟩ := g3.next hb4) | (go_at_call 30; refine Calls.mono (hD.out g4) ?_; rintro e w' ⟨rfl, hb5⟩; obtain ⟨g5, rfl⟩ := g4.next hb5) | (go_at_call 31; refine Calls.mono (hF.out g5) ?_; rintro e w' ⟨rfl, hb6⟩; obtain ⟨g6, rfl⟩ := g5.next hb6) | (go_at_call 32; refine Calls.mono (hX.out g6) ?_; rintro e w' ⟨rfl, hb7⟩; obtain ⟨g7, rfl⟩ := g6.next hb7) | (go_at_call 33; refine Calls.mono (hN.out g7) ?_; rintro e w' ⟨rfl, hb8⟩; obtain ⟨g8, rfl⟩ := g7.next hb8) | (go_at_call 34; refine Calls.mono (hY.out g8) ?_; rintro e w' ⟨rfl, hb9⟩; obtain ⟨g9, rfl⟩ := g8.next hb9) | (go_at_call 16; refine Calls.mono (hK.out _) ?_; rintro e w' ⟨rfl, hb10⟩; obtain ⟨g10, rfl⟩ := g9.next hb10))
              go_ret
              exact ⟨rfl, hBw.trans (g10.h.mono (Nat.le_of_lt hsz))⟩
            · skip
              rw [if_neg hlt] at hae
              have hB : Hid (∀ g : Grow W, Calls Try.prog 29 #[.agg #[.int .i64 s.space, .int .i64 s.start, .int .i64 s.elo, .int .i64 s.ehi, rv, dv], .int .i64 d, .int .i64 f, .int .i64 nom] g.x fun e w' => e = .returned (.tuple #[.int .i64 0, .int .i64 0, .int .i64 5]) ∧ Below g.x.heap.size g.x w') := fun g => progAdviseT g.x (hsg g) hae
              clear hae
              have hlt2 : 1000000000000000 ≤ le.1 := by unfold Sea.never at hlt; omega
              clear hlt
              replace hvb := Lib.hid hvb
              replace hda := Lib.hid hda
              replace hfi := Lib.hid hfi
              replace hask := Lib.hid hask
              replace hnm := Lib.hid hnm
              clear hsg
              go_enter Try.func5, Try.ntmps5
              go_wp2_with (first | (go_at_call 14; refine Calls.mono hS.out ?_; rintro e w' ⟨rfl, hb⟩; obtain ⟨g1, rfl⟩ : ∃ g1 : Grow W, w' = g1.x := ⟨⟨w', hb⟩, rfl⟩) | (go_at_call 28; refine Calls.mono (hA.out g1) ?_; rintro e w' ⟨rfl, hb2⟩; obtain ⟨g2, rfl⟩ := g1.next hb2) | (go_at_call 29; refine Calls.mono (hB.out g2) ?_; rintro e w' ⟨rfl, hb3⟩; obtain ⟨g3, rfl⟩ := g2.next hb3) | (go_at_call 19; refine Calls.mono (hR.out g3) ?_; rintro e w' ⟨rfl, hb4⟩; obtain ⟨g4, rfl⟩ := g3.next hb4) | (go_at_call 30; refine Calls.mono (hD.out g4) ?_; rintro e w' ⟨rfl, hb5⟩; obtain ⟨g5, rfl⟩ := g4.next hb5) | (go_at_call 31; refine Calls.mono (hF.out g5) ?_; rintro e w' ⟨rfl, hb6⟩; obtain ⟨g6, rfl⟩ := g5.next hb6) | (go_at_call 32; refine Calls.mono (hX.out g6) ?_; rintro e w' ⟨rfl, hb7⟩; obtain ⟨g7, rfl⟩ := g6.next hb7) | (go_at_call 33; refine Calls.mono (hN.out g7) ?_; rintro e w' ⟨rfl, hb8⟩; obtain ⟨g8, rfl⟩ := g7.next hb8) | (go_at_call 34; refine Calls.mono (hY.out g8) ?_; rintro e w' ⟨rfl, hb9⟩; obtain ⟨g9, rfl⟩ := g8.next hb9) | (go_at_call 16; refine Calls.mono (hK.out _) ?_; rintro e w' ⟨rfl, hb10⟩; obtain ⟨g10, rfl⟩ := g9.next hb10))
              go_ret
              exact ⟨rfl, hBw.trans (g10.h.mono (Nat.le_of_lt hsz))⟩
end Go.Proofs.Ytacajmpggjgaiaa
