/- Walks: the theorem of floors. -/
import Derived.Test.YtacajmpggjgaiaaS9
import Derived.Test.YtacajmpggjgaiaaQ6
import Derived.Test.YtacajmpggjgaiaaR10
set_option linter.unusedVariables false
set_option linter.unusedSimpArgs false
namespace Go.Proofs.Ytacajmpggjgaiaa
open Go.RowKit Go.Sd

/-- Whether lists are not much too long. -/
def listed2B (l : List (List Int)) : Bool := (List.range l.length).all (fun i => decide ((Sea.lstAt l i).length ≤ 50)) && decide (l.length ≤ 30)
theorem listed2_no {l : List (List Int)} {i : Nat} (hi : i < l.length) (h : ¬ (Sea.lstAt l i).length ≤ 50) : listed2B l = false := by
  unfold listed2B
  rw [all_range_not hi (decide_eq_false h), Bool.false_and]
theorem listed2_all {l : List (List Int)} (h : ∀ i, i < l.length → (Sea.lstAt l i).length ≤ 50) : listed2B l = decide ((l.length : Int) ≤ 30) := by
  unfold listed2B
  rw [all_range fun i hi => decide_eq_true (h i hi), Bool.true_and]
  exact decide_eq_decide.2 (by omega)
set_option maxRecDepth 100000 in
set_option maxHeartbeats 4000000 in
theorem lawListed2 {lv : Value} {l : List (List Int)} {t : Bool} (w : World) (hl : ListsAt w lv l) (h : listed2B l = t) :
    Calls Try.prog 41 #[lv] w fun e w' => e = .returned (.bool t) ∧ w' = w := by
  obtain ⟨a, cap, rfl, hm, hc⟩ := hl
  unfold maxLen at hm
  replace h := Lib.hid h
  go_enter Try.func41, Try.ntmps41
  go_wp2
  go_loopw [3] (fun vi wr => ∃ i : Nat, i ≤ l.length ∧ vi = .int .i64 i ∧ Hid (∀ j, j < i → (Sea.lstAt l j).length ≤ 50) ∧ wr = w) (fun vi _ => (l.length - (intOf vi)).toNat)
  case atStart => exact ⟨0, by omega, rfl, (fun j h => by omega : ∀ j : Nat, j < 0 → (Sea.lstAt l j).length ≤ 50), rfl⟩
  case round =>
    obtain ⟨i, hi, rfl, hH, rfl⟩ := hrel
    by_cases hil : (i : Int) < l.length
    · obtain ⟨b, off, rfl, hlt, hk⟩ := hc (by omega)
      obtain ⟨ev, c1, c2⟩ := hk i (by omega)
      obtain ⟨ea, ecap, rfl, hem, -⟩ := c2
      unfold maxLen at hem
      clear hk hc
      have hii : (0 : Int) ≤ (i : Int) ∧ (i : Int) < (l.length : Int) := by omega
      by_cases hle : 50 < ((Sea.lstAt l i).length : Int)
      · have hf := Lib.hid (listed2_no (l := l) (i := i) (by omega) (by omega))
        go_wp2
        go_ret
        exact ⟨by rw [← h.out, hf.out]; rfl, rfl⟩
      · have hH2 : Hid (∀ j, j < i + 1 → (Sea.lstAt l j).length ≤ 50) := upto_succ hH.out (by omega)
        go_wp2
        exact ⟨⟨i + 1, by omega, by go_num, hH2, trivial⟩, by simp [intOf]; omega⟩
    · have hf := Lib.hid (listed2_all (l := l) fun j hj => hH.out j (by omega))
      go_wp2
      go_ret
      exact ⟨by rw [← h.out, hf.out]; rfl, rfl⟩

set_option maxRecDepth 100000 in
set_option maxHeartbeats 16000000 in
/-- The theorem of floors. -/
theorem lawFloors (sv nv vv : Value) (s : Sea.S) (noms : List Int) (l : List (List Int)) (w : World) (hs : SeasonAt w sv s) (hn : IntsAt w nv noms) (hl : ListsAt w vv l) :
    Calls Try.prog 8 #[sv, nv, vv] w fun e w' => e = .returned (.bool true) ∧ Below w.heap.size w w' := by
  have hs' := hs
  obtain ⟨rv, dv, rfl, hr, hd⟩ := hs'
  obtain ⟨W, hW⟩ : ∃ W, w.alloc (sBox s rv dv) = W := ⟨_, rfl⟩
  obtain ⟨hsz, hBw, q0, q1, q2, q3, q4, q5⟩ := box_season hW
  have hg := grow_cell W
  have hK : Hid (∀ (w : World), Calls Try.prog 16 #[] w fun e w' => e = .returned (.bool true) ∧ Below w.heap.size w w') := progKnown
  have hsg : ∀ g : Grow W, SeasonAt g.x (.agg #[.int .i64 s.space, .int .i64 s.start, .int .i64 s.elo, .int .i64 s.ehi, rv, dv]) s := fun g => (hs.mono hBw).mono g.h
  have hng : ∀ g : Grow W, IntsAt g.x nv noms := fun g => (hn.mono hBw).mono g.h
  have hlg : ∀ g : Grow W, ListsAt g.x vv l := fun g => (hl.mono hBw).mono g.h
  cases hsm : smallB s
  · skip
    have hS : Hid (Calls Try.prog 14 #[.agg #[.int .i64 s.space, .int .i64 s.start, .int .i64 s.elo, .int .i64 s.ehi, rv, dv]] W fun e w' => e = .returned (.bool false) ∧ Below W.heap.size W w') := lawSmallT W (hs.mono hBw) hsm
    replace hsm := Lib.hid hsm
    clear hng hlg
    clear hsg
    go_enter Try.func8, Try.ntmps8
    go_wp2_with (first
      | (go_at_call 14; ((with_reducible refine Calls.mono (hS.out) ?_); rintro e w' ⟨rfl, hb1⟩; obtain ⟨g1, rfl⟩ : ∃ g1 : Grow W, w' = g1.x := ⟨⟨w', hb1⟩, rfl⟩))
      | (go_at_call 16; ((with_reducible refine Calls.mono (hK.out _) ?_); rintro e w' ⟨rfl, hb2⟩; obtain ⟨g2, rfl⟩ := g1.next hb2)))
    go_ret
    exact ⟨rfl, hBw.trans (g2.h.mono (Nat.le_of_lt hsz))⟩
  · skip
    have hS : Hid (Calls Try.prog 14 #[.agg #[.int .i64 s.space, .int .i64 s.start, .int .i64 s.elo, .int .i64 s.ehi, rv, dv]] W fun e w' => e = .returned (.bool true) ∧ Below W.heap.size W w') := lawSmallT W (hs.mono hBw) hsm
    replace hsm := Lib.hid hsm
    cases hli : decide (noms.length ≤ 25)
    · skip
      have hL : Hid (∀ g : Grow W, Calls Try.prog 15 #[nv] g.x fun e w' => e = .returned (.bool false) ∧ Below g.x.heap.size g.x w') := fun g => (lawListed g.x (hng g) hli).mono fun _ _ ⟨h1, h2⟩ => ⟨h1, by rw [h2]; exact Below.refl _ _⟩
      replace hli := Lib.hid hli
      clear hng hlg
      clear hsg
      go_enter Try.func8, Try.ntmps8
      go_wp2_with (first
        | (go_at_call 14; ((with_reducible refine Calls.mono (hS.out) ?_); rintro e w' ⟨rfl, hb1⟩; obtain ⟨g1, rfl⟩ : ∃ g1 : Grow W, w' = g1.x := ⟨⟨w', hb1⟩, rfl⟩))
        | (go_at_call 15; ((with_reducible refine Calls.mono (hL.out g1) ?_); rintro e w' ⟨rfl, hb2⟩; obtain ⟨g2, rfl⟩ := g1.next hb2))
        | (go_at_call 16; ((with_reducible refine Calls.mono (hK.out _) ?_); rintro e w' ⟨rfl, hb3⟩; obtain ⟨g3, rfl⟩ := g2.next hb3)))
      go_ret
      exact ⟨rfl, hBw.trans (g3.h.mono (Nat.le_of_lt hsz))⟩
    · skip
      have hL : Hid (∀ g : Grow W, Calls Try.prog 15 #[nv] g.x fun e w' => e = .returned (.bool true) ∧ Below g.x.heap.size g.x w') := fun g => (lawListed g.x (hng g) hli).mono fun _ _ ⟨h1, h2⟩ => ⟨h1, by rw [h2]; exact Below.refl _ _⟩
      replace hli := Lib.hid hli
      cases hl2 : listed2B l
      · skip
        have hM : Hid (∀ g : Grow W, Calls Try.prog 41 #[vv] g.x fun e w' => e = .returned (.bool false) ∧ Below g.x.heap.size g.x w') := fun g => (lawListed2 g.x (hlg g) hl2).mono fun _ _ ⟨h1, h2⟩ => ⟨h1, by rw [h2]; exact Below.refl _ _⟩
        replace hl2 := Lib.hid hl2
        clear hng hlg
        clear hsg
        go_enter Try.func8, Try.ntmps8
        go_wp2_with (first
          | (go_at_call 14; ((with_reducible refine Calls.mono (hS.out) ?_); rintro e w' ⟨rfl, hb1⟩; obtain ⟨g1, rfl⟩ : ∃ g1 : Grow W, w' = g1.x := ⟨⟨w', hb1⟩, rfl⟩))
          | (go_at_call 15; ((with_reducible refine Calls.mono (hL.out g1) ?_); rintro e w' ⟨rfl, hb2⟩; obtain ⟨g2, rfl⟩ := g1.next hb2))
          | (go_at_call 41; ((with_reducible refine Calls.mono (hM.out g2) ?_); rintro e w' ⟨rfl, hb3⟩; obtain ⟨g3, rfl⟩ := g2.next hb3))
          | (go_at_call 16; ((with_reducible refine Calls.mono (hK.out _) ?_); rintro e w' ⟨rfl, hb4⟩; obtain ⟨g4, rfl⟩ := g3.next hb4)))
        go_ret
        exact ⟨rfl, hBw.trans (g4.h.mono (Nat.le_of_lt hsz))⟩
      · skip
        have hM : Hid (∀ g : Grow W, Calls Try.prog 41 #[vv] g.x fun e w' => e = .returned (.bool true) ∧ Below g.x.heap.size g.x w') := fun g => (lawListed2 g.x (hlg g) hl2).mono fun _ _ ⟨h1, h2⟩ => ⟨h1, by rw [h2]; exact Below.refl _ _⟩
        replace hl2 := Lib.hid hl2
        cases hvb : Sea.validB s
        · skip
          have hF : Hid (∀ g : Grow W, Calls Try.prog 42 #[.agg #[.int .i64 s.space, .int .i64 s.start, .int .i64 s.elo, .int .i64 s.ehi, rv, dv], nv, vv] g.x fun e w' => e = .returned (.tuple #[.int .i64 0, .int .i64 2]) ∧ Below g.x.heap.size g.x w') := fun g => progFloorNo _ _ _ _ _ _ g.x (hsg g) (hng g) (hlg g) (.inl hvb)
          have hR : Hid (∀ g : Grow W, Calls Try.prog 19 #[.agg #[.int .i64 s.space, .int .i64 s.start, .int .i64 s.elo, .int .i64 s.ehi, rv, dv]] g.x fun e w' => e = .returned (.bool false) ∧ Below g.x.heap.size g.x w') := fun g => refSeasonT g.x (hsg g) hvb
          replace hvb := Lib.hid hvb
          clear hng hlg
          clear hsg
          go_enter Try.func8, Try.ntmps8
          go_wp2_with (first
            | (go_at_call 14; ((with_reducible refine Calls.mono (hS.out) ?_); rintro e w' ⟨rfl, hb1⟩; obtain ⟨g1, rfl⟩ : ∃ g1 : Grow W, w' = g1.x := ⟨⟨w', hb1⟩, rfl⟩))
            | (go_at_call 15; ((with_reducible refine Calls.mono (hL.out g1) ?_); rintro e w' ⟨rfl, hb2⟩; obtain ⟨g2, rfl⟩ := g1.next hb2))
            | (go_at_call 41; ((with_reducible refine Calls.mono (hM.out g2) ?_); rintro e w' ⟨rfl, hb3⟩; obtain ⟨g3, rfl⟩ := g2.next hb3))
            | (go_at_call 42; ((with_reducible refine Calls.mono (hF.out g3) ?_); rintro e w' ⟨rfl, hb4⟩; obtain ⟨g4, rfl⟩ := g3.next hb4))
            | (go_at_call 19; ((with_reducible refine Calls.mono (hR.out g4) ?_); rintro e w' ⟨rfl, hb5⟩; obtain ⟨g5, rfl⟩ := g4.next hb5))
            | (go_at_call 16; ((with_reducible refine Calls.mono (hK.out _) ?_); rintro e w' ⟨rfl, hb6⟩; obtain ⟨g6, rfl⟩ := g5.next hb6)))
          go_ret
          exact ⟨rfl, hBw.trans (g6.h.mono (Nat.le_of_lt hsz))⟩
        · skip
          cases hno : s.nomsB noms
          · skip
            have hF : Hid (∀ g : Grow W, Calls Try.prog 42 #[.agg #[.int .i64 s.space, .int .i64 s.start, .int .i64 s.elo, .int .i64 s.ehi, rv, dv], nv, vv] g.x fun e w' => e = .returned (.tuple #[.int .i64 0, .int .i64 2]) ∧ Below g.x.heap.size g.x w') := fun g => progFloorNo _ _ _ _ _ _ g.x (hsg g) (hng g) (hlg g) (.inr (.inl hno))
            have hR : Hid (∀ g : Grow W, Calls Try.prog 19 #[.agg #[.int .i64 s.space, .int .i64 s.start, .int .i64 s.elo, .int .i64 s.ehi, rv, dv]] g.x fun e w' => e = .returned (.bool true) ∧ Below g.x.heap.size g.x w') := fun g => refSeasonT g.x (hsg g) hvb
            have hN : Hid (∀ g : Grow W, Calls Try.prog 20 #[.agg #[.int .i64 s.space, .int .i64 s.start, .int .i64 s.elo, .int .i64 s.ehi, rv, dv], nv] g.x fun e w' => e = .returned (.bool false) ∧ Below g.x.heap.size g.x w') := fun g => refNomsT g.x (hsg g) (hng g) hno
            replace hvb := Lib.hid hvb
            replace hno := Lib.hid hno
            clear hng hlg
            clear hsg
            go_enter Try.func8, Try.ntmps8
            go_wp2_with (first
              | (go_at_call 14; ((with_reducible refine Calls.mono (hS.out) ?_); rintro e w' ⟨rfl, hb1⟩; obtain ⟨g1, rfl⟩ : ∃ g1 : Grow W, w' = g1.x := ⟨⟨w', hb1⟩, rfl⟩))
              | (go_at_call 15; ((with_reducible refine Calls.mono (hL.out g1) ?_); rintro e w' ⟨rfl, hb2⟩; obtain ⟨g2, rfl⟩ := g1.next hb2))
              | (go_at_call 41; ((with_reducible refine Calls.mono (hM.out g2) ?_); rintro e w' ⟨rfl, hb3⟩; obtain ⟨g3, rfl⟩ := g2.next hb3))
              | (go_at_call 42; ((with_reducible refine Calls.mono (hF.out g3) ?_); rintro e w' ⟨rfl, hb4⟩; obtain ⟨g4, rfl⟩ := g3.next hb4))
              | (go_at_call 19; ((with_reducible refine Calls.mono (hR.out g4) ?_); rintro e w' ⟨rfl, hb5⟩; obtain ⟨g5, rfl⟩ := g4.next hb5))
              | (go_at_call 20; ((with_reducible refine Calls.mono (hN.out g5) ?_); rintro e w' ⟨rfl, hb6⟩; obtain ⟨g6, rfl⟩ := g5.next hb6))
              | (go_at_call 16; ((with_reducible refine Calls.mono (hK.out _) ?_); rintro e w' ⟨rfl, hb7⟩; obtain ⟨g7, rfl⟩ := g6.next hb7)))
            go_ret
            exact ⟨rfl, hBw.trans (g7.h.mono (Nat.le_of_lt hsz))⟩
          · skip
            cases hva : valsB s l
            · skip
              have hF : Hid (∀ g : Grow W, Calls Try.prog 42 #[.agg #[.int .i64 s.space, .int .i64 s.start, .int .i64 s.elo, .int .i64 s.ehi, rv, dv], nv, vv] g.x fun e w' => e = .returned (.tuple #[.int .i64 0, .int .i64 2]) ∧ Below g.x.heap.size g.x w') := fun g => progFloorNo _ _ _ _ _ _ g.x (hsg g) (hng g) (hlg g) (.inr (.inr hva))
              have hR : Hid (∀ g : Grow W, Calls Try.prog 19 #[.agg #[.int .i64 s.space, .int .i64 s.start, .int .i64 s.elo, .int .i64 s.ehi, rv, dv]] g.x fun e w' => e = .returned (.bool true) ∧ Below g.x.heap.size g.x w') := fun g => refSeasonT g.x (hsg g) hvb
              have hN : Hid (∀ g : Grow W, Calls Try.prog 20 #[.agg #[.int .i64 s.space, .int .i64 s.start, .int .i64 s.elo, .int .i64 s.ehi, rv, dv], nv] g.x fun e w' => e = .returned (.bool true) ∧ Below g.x.heap.size g.x w') := fun g => refNomsT g.x (hsg g) (hng g) hno
              have hV : Hid (∀ g : Grow W, Calls Try.prog 43 #[.agg #[.int .i64 s.space, .int .i64 s.start, .int .i64 s.elo, .int .i64 s.ehi, rv, dv], vv] g.x fun e w' => e = .returned (.bool false) ∧ Below g.x.heap.size g.x w') := fun g => (by have h := refValues _ _ _ _ g.x (hsg g) (hlg g) (Sea.ok_of_valid hvb); rw [hva] at h; exact h)
              replace hvb := Lib.hid hvb
              replace hno := Lib.hid hno
              replace hva := Lib.hid hva
              clear hng hlg
              clear hsg
              go_enter Try.func8, Try.ntmps8
              go_wp2_with (first
                | (go_at_call 14; ((with_reducible refine Calls.mono (hS.out) ?_); rintro e w' ⟨rfl, hb1⟩; obtain ⟨g1, rfl⟩ : ∃ g1 : Grow W, w' = g1.x := ⟨⟨w', hb1⟩, rfl⟩))
                | (go_at_call 15; ((with_reducible refine Calls.mono (hL.out g1) ?_); rintro e w' ⟨rfl, hb2⟩; obtain ⟨g2, rfl⟩ := g1.next hb2))
                | (go_at_call 41; ((with_reducible refine Calls.mono (hM.out g2) ?_); rintro e w' ⟨rfl, hb3⟩; obtain ⟨g3, rfl⟩ := g2.next hb3))
                | (go_at_call 42; ((with_reducible refine Calls.mono (hF.out g3) ?_); rintro e w' ⟨rfl, hb4⟩; obtain ⟨g4, rfl⟩ := g3.next hb4))
                | (go_at_call 19; ((with_reducible refine Calls.mono (hR.out g4) ?_); rintro e w' ⟨rfl, hb5⟩; obtain ⟨g5, rfl⟩ := g4.next hb5))
                | (go_at_call 20; ((with_reducible refine Calls.mono (hN.out g5) ?_); rintro e w' ⟨rfl, hb6⟩; obtain ⟨g6, rfl⟩ := g5.next hb6))
                | (go_at_call 43; ((with_reducible refine Calls.mono (hV.out g6) ?_); rintro e w' ⟨rfl, hb7⟩; obtain ⟨g7, rfl⟩ := g6.next hb7))
                | (go_at_call 16; ((with_reducible refine Calls.mono (hK.out _) ?_); rintro e w' ⟨rfl, hb8⟩; obtain ⟨g8, rfl⟩ := g7.next hb8)))
              go_ret
              exact ⟨rfl, hBw.trans (g8.h.mono (Nat.le_of_lt hsz))⟩
            · skip
              cases hfb : fairB s noms l
              · skip
                have hF : Hid (∀ g : Grow W, Calls Try.prog 42 #[.agg #[.int .i64 s.space, .int .i64 s.start, .int .i64 s.elo, .int .i64 s.ehi, rv, dv], nv, vv] g.x fun e w' => e = .returned (.tuple #[.int .i64 0, .int .i64 7]) ∧ Below g.x.heap.size g.x w') := fun g => (by have h := progFloorYes _ _ _ _ _ _ g.x (hsg g) (hng g) (hlg g) hvb hno hva; rw [hfb] at h; exact h)
                have hR : Hid (∀ g : Grow W, Calls Try.prog 19 #[.agg #[.int .i64 s.space, .int .i64 s.start, .int .i64 s.elo, .int .i64 s.ehi, rv, dv]] g.x fun e w' => e = .returned (.bool true) ∧ Below g.x.heap.size g.x w') := fun g => refSeasonT g.x (hsg g) hvb
                have hN : Hid (∀ g : Grow W, Calls Try.prog 20 #[.agg #[.int .i64 s.space, .int .i64 s.start, .int .i64 s.elo, .int .i64 s.ehi, rv, dv], nv] g.x fun e w' => e = .returned (.bool true) ∧ Below g.x.heap.size g.x w') := fun g => refNomsT g.x (hsg g) (hng g) hno
                have hV : Hid (∀ g : Grow W, Calls Try.prog 43 #[.agg #[.int .i64 s.space, .int .i64 s.start, .int .i64 s.elo, .int .i64 s.ehi, rv, dv], vv] g.x fun e w' => e = .returned (.bool true) ∧ Below g.x.heap.size g.x w') := fun g => (by have h := refValues _ _ _ _ g.x (hsg g) (hlg g) (Sea.ok_of_valid hvb); rw [hva] at h; exact h)
                have hA : Hid (∀ g : Grow W, Calls Try.prog 44 #[.agg #[.int .i64 s.space, .int .i64 s.start, .int .i64 s.elo, .int .i64 s.ehi, rv, dv], nv, vv] g.x fun e w' => e = .returned (.bool false) ∧ Below g.x.heap.size g.x w') := fun g => (by have h := refFair _ _ _ _ _ _ g.x (hsg g) (hng g) (hlg g) (Sea.ok_of_valid hvb) hno hva; rw [hfb] at h; exact h)
                replace hvb := Lib.hid hvb
                replace hno := Lib.hid hno
                replace hva := Lib.hid hva
                replace hfb := Lib.hid hfb
                clear hng hlg
                clear hsg
                go_enter Try.func8, Try.ntmps8
                go_wp2_with (first
                  | (go_at_call 14; ((with_reducible refine Calls.mono (hS.out) ?_); rintro e w' ⟨rfl, hb1⟩; obtain ⟨g1, rfl⟩ : ∃ g1 : Grow W, w' = g1.x := ⟨⟨w', hb1⟩, rfl⟩))
                  | (go_at_call 15; ((with_reducible refine Calls.mono (hL.out g1) ?_); rintro e w' ⟨rfl, hb2⟩; obtain ⟨g2, rfl⟩ := g1.next hb2))
                  | (go_at_call 41; ((with_reducible refine Calls.mono (hM.out g2) ?_); rintro e w' ⟨rfl, hb3⟩; obtain ⟨g3, rfl⟩ := g2.next hb3))
                  | (go_at_call 42; ((with_reducible refine Calls.mono (hF.out g3) ?_); rintro e w' ⟨rfl, hb4⟩; obtain ⟨g4, rfl⟩ := g3.next hb4))
                  | (go_at_call 19; ((with_reducible refine Calls.mono (hR.out g4) ?_); rintro e w' ⟨rfl, hb5⟩; obtain ⟨g5, rfl⟩ := g4.next hb5))
                  | (go_at_call 20; ((with_reducible refine Calls.mono (hN.out g5) ?_); rintro e w' ⟨rfl, hb6⟩; obtain ⟨g6, rfl⟩ := g5.next hb6))
                  | (go_at_call 43; ((with_reducible refine Calls.mono (hV.out g6) ?_); rintro e w' ⟨rfl, hb7⟩; obtain ⟨g7, rfl⟩ := g6.next hb7))
                  | (go_at_call 44; ((with_reducible refine Calls.mono (hA.out g7) ?_); rintro e w' ⟨rfl, hb8⟩; obtain ⟨g8, rfl⟩ := g7.next hb8))
                  | (go_at_call 16; ((with_reducible refine Calls.mono (hK.out _) ?_); rintro e w' ⟨rfl, hb9⟩; obtain ⟨g9, rfl⟩ := g8.next hb9)))
                go_ret
                exact ⟨rfl, hBw.trans (g9.h.mono (Nat.le_of_lt hsz))⟩
              · skip
                have ok := Sea.ok_of_valid hvb
                have hst := ok.start
                have hsp := ok.space
                have hnd := ok.ndays
                have hR : Hid (∀ g : Grow W, Calls Try.prog 19 #[.agg #[.int .i64 s.space, .int .i64 s.start, .int .i64 s.elo, .int .i64 s.ehi, rv, dv]] g.x fun e w' => e = .returned (.bool true) ∧ Below g.x.heap.size g.x w') := fun g => refSeasonT g.x (hsg g) hvb
                have hN : Hid (∀ g : Grow W, Calls Try.prog 20 #[.agg #[.int .i64 s.space, .int .i64 s.start, .int .i64 s.elo, .int .i64 s.ehi, rv, dv], nv] g.x fun e w' => e = .returned (.bool true) ∧ Below g.x.heap.size g.x w') := fun g => refNomsT g.x (hsg g) (hng g) hno
                have hV : Hid (∀ g : Grow W, Calls Try.prog 43 #[.agg #[.int .i64 s.space, .int .i64 s.start, .int .i64 s.elo, .int .i64 s.ehi, rv, dv], vv] g.x fun e w' => e = .returned (.bool true) ∧ Below g.x.heap.size g.x w') := fun g => (by have h := refValues _ _ _ _ g.x (hsg g) (hlg g) (Sea.ok_of_valid hvb); rw [hva] at h; exact h)
                have hA : Hid (∀ g : Grow W, Calls Try.prog 44 #[.agg #[.int .i64 s.space, .int .i64 s.start, .int .i64 s.elo, .int .i64 s.ehi, rv, dv], nv, vv] g.x fun e w' => e = .returned (.bool true) ∧ Below g.x.heap.size g.x w') := fun g => (by have h := refFair _ _ _ _ _ _ g.x (hsg g) (hng g) (hlg g) (Sea.ok_of_valid hvb) hno hva; rw [hfb] at h; exact h)
                obtain ⟨z, hz⟩ : ∃ z, Sea.at0 (Sea.lstAt l 0) s.start.toNat = z := ⟨_, rfl⟩
                have hF : Hid (∀ g : Grow W, Calls Try.prog 42 #[.agg #[.int .i64 s.space, .int .i64 s.start, .int .i64 s.elo, .int .i64 s.ehi, rv, dv], nv, vv] g.x fun e w' => e = .returned (.tuple #[.int .i64 z, .int .i64 0]) ∧ Below g.x.heap.size g.x w') := fun g => (by have h := progFloorYes _ _ _ _ _ _ g.x (hsg g) (hng g) (hlg g) hvb hno hva; rw [hfb, hz] at h; exact h)
                obtain ⟨b, off, cap, rfl, hbl, hrows⟩ := rows_in ok hva hl
                obtain ⟨eb, eo, ec, h1, h2, h3, -⟩ := hrows 0 (by omega)
                have e1 := h3 s.start.toNat (by omega)
                have h1w := kept_cell hBw h1
                have e1w := kept_cell hBw e1
                rw [Nat.add_zero] at h1w
                rw [hz] at e1w
                replace hz := Lib.hid hz
                have hbB := World.block_lt_of_cell? _ ⟨_, _, none⟩ h1w
                have hebB := World.block_lt_of_cell? _ ⟨_, _, none⟩ e1w
                simp only at hbB hebB
                have i0 : (0 : Int) < (s.days.length : Int) + 1 := by omega
                have i1 : (0 : Int) ≤ s.start ∧ s.start < ((s.space + 1).toNat : Int) := by omega
                clear h1 h2 h3 e1 hrows
                replace hvb := Lib.hid hvb
                replace hno := Lib.hid hno
                replace hva := Lib.hid hva
                replace hfb := Lib.hid hfb
                clear hng hlg ok
                clear hsg
                go_enter Try.func8, Try.ntmps8
                go_wp2_with (first
                  | (go_at_call 14; ((with_reducible refine Calls.mono (hS.out) ?_); rintro e w' ⟨rfl, hb1⟩; obtain ⟨g1, rfl⟩ : ∃ g1 : Grow W, w' = g1.x := ⟨⟨w', hb1⟩, rfl⟩))
                  | (go_at_call 15; ((with_reducible refine Calls.mono (hL.out g1) ?_); rintro e w' ⟨rfl, hb2⟩; obtain ⟨g2, rfl⟩ := g1.next hb2))
                  | (go_at_call 41; ((with_reducible refine Calls.mono (hM.out g2) ?_); rintro e w' ⟨rfl, hb3⟩; obtain ⟨g3, rfl⟩ := g2.next hb3))
                  | (go_at_call 42; ((with_reducible refine Calls.mono (hF.out g3) ?_); rintro e w' ⟨rfl, hb4⟩; obtain ⟨g4, rfl⟩ := g3.next hb4))
                  | (go_at_call 19; ((with_reducible refine Calls.mono (hR.out g4) ?_); rintro e w' ⟨rfl, hb5⟩; obtain ⟨g5, rfl⟩ := g4.next hb5))
                  | (go_at_call 20; ((with_reducible refine Calls.mono (hN.out g5) ?_); rintro e w' ⟨rfl, hb6⟩; obtain ⟨g6, rfl⟩ := g5.next hb6))
                  | (go_at_call 43; ((with_reducible refine Calls.mono (hV.out g6) ?_); rintro e w' ⟨rfl, hb7⟩; obtain ⟨g7, rfl⟩ := g6.next hb7))
                  | (go_at_call 44; ((with_reducible refine Calls.mono (hA.out g7) ?_); rintro e w' ⟨rfl, hb8⟩; obtain ⟨g8, rfl⟩ := g7.next hb8)))
                have hgg : ∀ (h : Grow g8.x) (b o : Nat), b < W.heap.size → h.x.cell? ⟨b, o, none⟩ = W.cell? ⟨b, o, none⟩ := fun h b o hb => (grow_cell g8.x h b o (Nat.lt_of_lt_of_le hb g8.size)).trans (grow_cell W g8 b o hb)
                refine wp_region_grow (by kernel_rfl) (by kernel_rfl) ?_
                repeat (go_big_quiet_step ((first | (go_at_call 16; exact Calls.grow (hK.out _)))))
                refine wpQuiet_nil ?_
                rintro _ ⟨gx, rfl⟩
                clear hgg
                obtain ⟨g8, hg8⟩ := g8.next gx.h
                rw [hg8]
                clear hg8 gx
                go_wp2_with (fail)
                go_ret
                exact ⟨rfl, hBw.trans (g8.h.mono (Nat.le_of_lt hsz))⟩
end Go.Proofs.Ytacajmpggjgaiaa
