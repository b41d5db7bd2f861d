/- Walks: the theorem of wider seasons. -/
import Derived.Test.YtacajmpggjgaiaaS10
import Derived.Test.YtacajmpggjgaiaaS9
set_option linter.unusedVariables false
set_option linter.unusedSimpArgs false
namespace Go.Proofs.Ytacajmpggjgaiaa
open Go.RowKit Go.Sd

theorem lawWiderT {sv : Value} {s : Sea.S} {byN less : Int} (w : World) (hs : SeasonAt w sv s) (ok : Sea.Ok s) (hb : 0 ≤ byN ∧ byN ≤ 10) (hl : 0 ≤ less ∧ less ≤ 20) :
    Calls Try.prog 35 #[sv, .int .i64 byN, .int .i64 less] w fun e w' => (∃ xa xc xb xd, e = .returned (.agg #[.int .i64 s.space, .int .i64 s.start, .int .i64 s.elo, .int .i64 s.ehi, .slice xa s.rows.length xc, .slice xb s.days.length xd]) ∧
      SeasonAt w' (.agg #[.int .i64 s.space, .int .i64 s.start, .int .i64 s.elo, .int .i64 s.ehi, .slice xa s.rows.length xc, .slice xb s.days.length xd]) (wid s byN less)) ∧ Below w.heap.size w w' := by
  refine (lawWider sv s byN less w hs ok hb hl).mono fun e w' hp => ?_
  obtain ⟨⟨v, he, hv⟩, hbw⟩ := hp
  have hv' := hv
  obtain ⟨rv, dv, rfl, ⟨a, c, rfl, -⟩, ⟨a2, c2, rfl, -⟩⟩ := hv'
  rw [wid_nrows, wid_ndays] at he hv
  exact ⟨⟨a, c, a2, c2, he, hv⟩, hbw⟩

set_option maxRecDepth 100000 in
set_option maxHeartbeats 16000000 in
/-- The theorem of wider seasons. -/
theorem lawMore (sv nv : Value) (s : Sea.S) (noms : List Int) (byN less day fill : Int) (w : World) (hs : SeasonAt w sv s) (hn : IntsAt w nv noms) :
    Calls Try.prog 6 #[sv, nv, .int .i64 byN, .int .i64 less, .int .i64 day, .int .i64 fill] w fun e w' => e = .returned (.bool true) ∧ Below w.heap.size w w' := by
  have hs' := hs
  obtain ⟨rv, dv, rfl, hr, hd⟩ := hs'
  obtain ⟨W, hW⟩ : ∃ W, w.alloc (sBox s rv dv) = W := ⟨_, rfl⟩
  obtain ⟨hsz, hBw, q0, q1, q2, q3, q4, q5⟩ := box_season hW
  have hg := grow_cell W
  have hK : Hid (∀ (w : World), Calls Try.prog 16 #[] w fun e w' => e = .returned (.bool true) ∧ Below w.heap.size w w') := progKnown
  have hsg : ∀ g : Grow W, SeasonAt g.x (.agg #[.int .i64 s.space, .int .i64 s.start, .int .i64 s.elo, .int .i64 s.ehi, rv, dv]) s := fun g => (hs.mono hBw).mono g.h
  have hng : ∀ g : Grow W, IntsAt g.x nv noms := fun g => (hn.mono hBw).mono g.h
  obtain ⟨da, dcap, rfl, hdm, -⟩ := hd
  unfold maxLen at hdm
  cases hsm : smallB s
  · skip
    have hS : Hid (Calls Try.prog 14 #[.agg #[.int .i64 s.space, .int .i64 s.start, .int .i64 s.elo, .int .i64 s.ehi, rv, .slice da s.days.length dcap]] W fun e w' => e = .returned (.bool false) ∧ Below W.heap.size W w') := lawSmallT W (hs.mono hBw) hsm
    replace hsm := Lib.hid hsm
    clear hng
    clear hsg
    go_enter Try.func6, Try.ntmps6
    go_wp2_with (first
      | (go_at_call 14; ((with_reducible refine Calls.mono (hS.out) ?_); rintro e w' ⟨rfl, hb1⟩; obtain ⟨g1, rfl⟩ : ∃ g1 : Grow W, w' = g1.x := ⟨⟨w', hb1⟩, rfl⟩))
      | (go_at_call 16; ((with_reducible refine Calls.mono (hK.out _) ?_); rintro e w' ⟨rfl, hb2⟩; obtain ⟨g2, rfl⟩ := g1.next hb2)))
    go_ret
    exact ⟨rfl, hBw.trans (g2.h.mono (Nat.le_of_lt hsz))⟩
  · skip
    have hS : Hid (Calls Try.prog 14 #[.agg #[.int .i64 s.space, .int .i64 s.start, .int .i64 s.elo, .int .i64 s.ehi, rv, .slice da s.days.length dcap]] W fun e w' => e = .returned (.bool true) ∧ Below W.heap.size W w') := lawSmallT W (hs.mono hBw) hsm
    replace hsm := Lib.hid hsm
    cases hli : decide (noms.length ≤ 25)
    · skip
      have hL : Hid (∀ g : Grow W, Calls Try.prog 15 #[nv] g.x fun e w' => e = .returned (.bool false) ∧ Below g.x.heap.size g.x w') := fun g => (lawListed g.x (hng g) hli).mono fun _ _ ⟨h1, h2⟩ => ⟨h1, by rw [h2]; exact Below.refl _ _⟩
      replace hli := Lib.hid hli
      clear hng
      clear hsg
      go_enter Try.func6, Try.ntmps6
      go_wp2_with (first
        | (go_at_call 14; ((with_reducible refine Calls.mono (hS.out) ?_); rintro e w' ⟨rfl, hb1⟩; obtain ⟨g1, rfl⟩ : ∃ g1 : Grow W, w' = g1.x := ⟨⟨w', hb1⟩, rfl⟩))
        | (go_at_call 15; ((with_reducible refine Calls.mono (hL.out g1) ?_); rintro e w' ⟨rfl, hb2⟩; obtain ⟨g2, rfl⟩ := g1.next hb2))
        | (go_at_call 16; ((with_reducible refine Calls.mono (hK.out _) ?_); rintro e w' ⟨rfl, hb3⟩; obtain ⟨g3, rfl⟩ := g2.next hb3)))
      go_ret
      exact ⟨rfl, hBw.trans (g3.h.mono (Nat.le_of_lt hsz))⟩
    · skip
      have hL : Hid (∀ g : Grow W, Calls Try.prog 15 #[nv] g.x fun e w' => e = .returned (.bool true) ∧ Below g.x.heap.size g.x w') := fun g => (lawListed g.x (hng g) hli).mono fun _ _ ⟨h1, h2⟩ => ⟨h1, by rw [h2]; exact Below.refl _ _⟩
      replace hli := Lib.hid hli
      cases hvb : Sea.validB s
      · skip
        have hR : Hid (∀ g : Grow W, Calls Try.prog 19 #[.agg #[.int .i64 s.space, .int .i64 s.start, .int .i64 s.elo, .int .i64 s.ehi, rv, .slice da s.days.length dcap]] g.x fun e w' => e = .returned (.bool false) ∧ Below g.x.heap.size g.x w') := fun g => refSeasonT g.x (hsg g) hvb
        replace hvb := Lib.hid hvb
        clear hng
        clear hsg
        go_enter Try.func6, Try.ntmps6
        go_wp2_with (first
          | (go_at_call 14; ((with_reducible refine Calls.mono (hS.out) ?_); rintro e w' ⟨rfl, hb1⟩; obtain ⟨g1, rfl⟩ : ∃ g1 : Grow W, w' = g1.x := ⟨⟨w', hb1⟩, rfl⟩))
          | (go_at_call 15; ((with_reducible refine Calls.mono (hL.out g1) ?_); rintro e w' ⟨rfl, hb2⟩; obtain ⟨g2, rfl⟩ := g1.next hb2))
          | (go_at_call 19; ((with_reducible refine Calls.mono (hR.out g2) ?_); rintro e w' ⟨rfl, hb3⟩; obtain ⟨g3, rfl⟩ := g2.next hb3))
          | (go_at_call 16; ((with_reducible refine Calls.mono (hK.out _) ?_); rintro e w' ⟨rfl, hb4⟩; obtain ⟨g4, rfl⟩ := g3.next hb4)))
        go_ret
        exact ⟨rfl, hBw.trans (g4.h.mono (Nat.le_of_lt hsz))⟩
      · skip
        have hR : Hid (∀ g : Grow W, Calls Try.prog 19 #[.agg #[.int .i64 s.space, .int .i64 s.start, .int .i64 s.elo, .int .i64 s.ehi, rv, .slice da s.days.length dcap]] g.x fun e w' => e = .returned (.bool true) ∧ Below g.x.heap.size g.x w') := fun g => refSeasonT g.x (hsg g) hvb
        cases hno : s.nomsB noms
        · skip
          have hN : Hid (∀ g : Grow W, Calls Try.prog 20 #[.agg #[.int .i64 s.space, .int .i64 s.start, .int .i64 s.elo, .int .i64 s.ehi, rv, .slice da s.days.length dcap], nv] g.x fun e w' => e = .returned (.bool false) ∧ Below g.x.heap.size g.x w') := fun g => refNomsT g.x (hsg g) (hng g) hno
          replace hno := Lib.hid hno
          clear hng
          clear hsg
          go_enter Try.func6, Try.ntmps6
          go_wp2_with (first
            | (go_at_call 14; ((with_reducible refine Calls.mono (hS.out) ?_); rintro e w' ⟨rfl, hb1⟩; obtain ⟨g1, rfl⟩ : ∃ g1 : Grow W, w' = g1.x := ⟨⟨w', hb1⟩, rfl⟩))
            | (go_at_call 15; ((with_reducible refine Calls.mono (hL.out g1) ?_); rintro e w' ⟨rfl, hb2⟩; obtain ⟨g2, rfl⟩ := g1.next hb2))
            | (go_at_call 19; ((with_reducible refine Calls.mono (hR.out g2) ?_); rintro e w' ⟨rfl, hb3⟩; obtain ⟨g3, rfl⟩ := g2.next hb3))
            | (go_at_call 20; ((with_reducible refine Calls.mono (hN.out g3) ?_); rintro e w' ⟨rfl, hb4⟩; obtain ⟨g4, rfl⟩ := g3.next hb4))
            | (go_at_call 16; ((with_reducible refine Calls.mono (hK.out _) ?_); rintro e w' ⟨rfl, hb5⟩; obtain ⟨g5, rfl⟩ := g4.next hb5)))
          go_ret
          exact ⟨rfl, hBw.trans (g5.h.mono (Nat.le_of_lt hsz))⟩
        · skip
          have hN : Hid (∀ g : Grow W, Calls Try.prog 20 #[.agg #[.int .i64 s.space, .int .i64 s.start, .int .i64 s.elo, .int .i64 s.ehi, rv, .slice da s.days.length dcap], nv] g.x fun e w' => e = .returned (.bool true) ∧ Below g.x.heap.size g.x w') := fun g => refNomsT g.x (hsg g) (hng g) hno
          by_cases hc1 : 20 < s.space
          · skip
            replace hvb := Lib.hid hvb
            replace hno := Lib.hid hno
            clear hng
            clear hsg
            go_enter Try.func6, Try.ntmps6
            go_wp2_with (first
              | (go_at_call 14; ((with_reducible refine Calls.mono (hS.out) ?_); rintro e w' ⟨rfl, hb1⟩; obtain ⟨g1, rfl⟩ : ∃ g1 : Grow W, w' = g1.x := ⟨⟨w', hb1⟩, rfl⟩))
              | (go_at_call 15; ((with_reducible refine Calls.mono (hL.out g1) ?_); rintro e w' ⟨rfl, hb2⟩; obtain ⟨g2, rfl⟩ := g1.next hb2))
              | (go_at_call 19; ((with_reducible refine Calls.mono (hR.out g2) ?_); rintro e w' ⟨rfl, hb3⟩; obtain ⟨g3, rfl⟩ := g2.next hb3))
              | (go_at_call 20; ((with_reducible refine Calls.mono (hN.out g3) ?_); rintro e w' ⟨rfl, hb4⟩; obtain ⟨g4, rfl⟩ := g3.next hb4))
              | (go_at_call 16; ((with_reducible refine Calls.mono (hK.out _) ?_); rintro e w' ⟨rfl, hb5⟩; obtain ⟨g5, rfl⟩ := g4.next hb5)))
            go_ret
            exact ⟨rfl, hBw.trans (g5.h.mono (Nat.le_of_lt hsz))⟩
          · skip
            by_cases hc2 : (6 : Int) < s.days.length
            · skip
              replace hvb := Lib.hid hvb
              replace hno := Lib.hid hno
              clear hng
              clear hsg
              go_enter Try.func6, Try.ntmps6
              go_wp2_with (first
                | (go_at_call 14; ((with_reducible refine Calls.mono (hS.out) ?_); rintro e w' ⟨rfl, hb1⟩; obtain ⟨g1, rfl⟩ : ∃ g1 : Grow W, w' = g1.x := ⟨⟨w', hb1⟩, rfl⟩))
                | (go_at_call 15; ((with_reducible refine Calls.mono (hL.out g1) ?_); rintro e w' ⟨rfl, hb2⟩; obtain ⟨g2, rfl⟩ := g1.next hb2))
                | (go_at_call 19; ((with_reducible refine Calls.mono (hR.out g2) ?_); rintro e w' ⟨rfl, hb3⟩; obtain ⟨g3, rfl⟩ := g2.next hb3))
                | (go_at_call 20; ((with_reducible refine Calls.mono (hN.out g3) ?_); rintro e w' ⟨rfl, hb4⟩; obtain ⟨g4, rfl⟩ := g3.next hb4))
                | (go_at_call 16; ((with_reducible refine Calls.mono (hK.out _) ?_); rintro e w' ⟨rfl, hb5⟩; obtain ⟨g5, rfl⟩ := g4.next hb5)))
              go_ret
              exact ⟨rfl, hBw.trans (g5.h.mono (Nat.le_of_lt hsz))⟩
            · skip
              by_cases hc3 : byN < 0
              · skip
                replace hvb := Lib.hid hvb
                replace hno := Lib.hid hno
                clear hng
                clear hsg
                go_enter Try.func6, Try.ntmps6
                go_wp2_with (first
                  | (go_at_call 14; ((with_reducible refine Calls.mono (hS.out) ?_); rintro e w' ⟨rfl, hb1⟩; obtain ⟨g1, rfl⟩ : ∃ g1 : Grow W, w' = g1.x := ⟨⟨w', hb1⟩, rfl⟩))
                  | (go_at_call 15; ((with_reducible refine Calls.mono (hL.out g1) ?_); rintro e w' ⟨rfl, hb2⟩; obtain ⟨g2, rfl⟩ := g1.next hb2))
                  | (go_at_call 19; ((with_reducible refine Calls.mono (hR.out g2) ?_); rintro e w' ⟨rfl, hb3⟩; obtain ⟨g3, rfl⟩ := g2.next hb3))
                  | (go_at_call 20; ((with_reducible refine Calls.mono (hN.out g3) ?_); rintro e w' ⟨rfl, hb4⟩; obtain ⟨g4, rfl⟩ := g3.next hb4))
                  | (go_at_call 16; ((with_reducible refine Calls.mono (hK.out _) ?_); rintro e w' ⟨rfl, hb5⟩; obtain ⟨g5, rfl⟩ := g4.next hb5)))
                go_ret
                exact ⟨rfl, hBw.trans (g5.h.mono (Nat.le_of_lt hsz))⟩
              · skip
                by_cases hc4 : 10 < byN
                · skip
                  replace hvb := Lib.hid hvb
                  replace hno := Lib.hid hno
                  clear hng
                  clear hsg
                  go_enter Try.func6, Try.ntmps6
                  go_wp2_with (first
                    | (go_at_call 14; ((with_reducible refine Calls.mono (hS.out) ?_); rintro e w' ⟨rfl, hb1⟩; obtain ⟨g1, rfl⟩ : ∃ g1 : Grow W, w' = g1.x := ⟨⟨w', hb1⟩, rfl⟩))
                    | (go_at_call 15; ((with_reducible refine Calls.mono (hL.out g1) ?_); rintro e w' ⟨rfl, hb2⟩; obtain ⟨g2, rfl⟩ := g1.next hb2))
                    | (go_at_call 19; ((with_reducible refine Calls.mono (hR.out g2) ?_); rintro e w' ⟨rfl, hb3⟩; obtain ⟨g3, rfl⟩ := g2.next hb3))
                    | (go_at_call 20; ((with_reducible refine Calls.mono (hN.out g3) ?_); rintro e w' ⟨rfl, hb4⟩; obtain ⟨g4, rfl⟩ := g3.next hb4))
                    | (go_at_call 16; ((with_reducible refine Calls.mono (hK.out _) ?_); rintro e w' ⟨rfl, hb5⟩; obtain ⟨g5, rfl⟩ := g4.next hb5)))
                  go_ret
                  exact ⟨rfl, hBw.trans (g5.h.mono (Nat.le_of_lt hsz))⟩
                · skip
                  by_cases hc5 : less < 0
                  · skip
                    replace hvb := Lib.hid hvb
                    replace hno := Lib.hid hno
                    clear hng
                    clear hsg
                    go_enter Try.func6, Try.ntmps6
                    go_wp2_with (first
                      | (go_at_call 14; ((with_reducible refine Calls.mono (hS.out) ?_); rintro e w' ⟨rfl, hb1⟩; obtain ⟨g1, rfl⟩ : ∃ g1 : Grow W, w' = g1.x := ⟨⟨w', hb1⟩, rfl⟩))
                      | (go_at_call 15; ((with_reducible refine Calls.mono (hL.out g1) ?_); rintro e w' ⟨rfl, hb2⟩; obtain ⟨g2, rfl⟩ := g1.next hb2))
                      | (go_at_call 19; ((with_reducible refine Calls.mono (hR.out g2) ?_); rintro e w' ⟨rfl, hb3⟩; obtain ⟨g3, rfl⟩ := g2.next hb3))
                      | (go_at_call 20; ((with_reducible refine Calls.mono (hN.out g3) ?_); rintro e w' ⟨rfl, hb4⟩; obtain ⟨g4, rfl⟩ := g3.next hb4))
                      | (go_at_call 16; ((with_reducible refine Calls.mono (hK.out _) ?_); rintro e w' ⟨rfl, hb5⟩; obtain ⟨g5, rfl⟩ := g4.next hb5)))
                    go_ret
                    exact ⟨rfl, hBw.trans (g5.h.mono (Nat.le_of_lt hsz))⟩
                  · skip
                    by_cases hc6 : 20 < less
                    · skip
                      replace hvb := Lib.hid hvb
                      replace hno := Lib.hid hno
                      clear hng
                      clear hsg
                      go_enter Try.func6, Try.ntmps6
                      go_wp2_with (first
                        | (go_at_call 14; ((with_reducible refine Calls.mono (hS.out) ?_); rintro e w' ⟨rfl, hb1⟩; obtain ⟨g1, rfl⟩ : ∃ g1 : Grow W, w' = g1.x := ⟨⟨w', hb1⟩, rfl⟩))
                        | (go_at_call 15; ((with_reducible refine Calls.mono (hL.out g1) ?_); rintro e w' ⟨rfl, hb2⟩; obtain ⟨g2, rfl⟩ := g1.next hb2))
                        | (go_at_call 19; ((with_reducible refine Calls.mono (hR.out g2) ?_); rintro e w' ⟨rfl, hb3⟩; obtain ⟨g3, rfl⟩ := g2.next hb3))
                        | (go_at_call 20; ((with_reducible refine Calls.mono (hN.out g3) ?_); rintro e w' ⟨rfl, hb4⟩; obtain ⟨g4, rfl⟩ := g3.next hb4))
                        | (go_at_call 16; ((with_reducible refine Calls.mono (hK.out _) ?_); rintro e w' ⟨rfl, hb5⟩; obtain ⟨g5, rfl⟩ := g4.next hb5)))
                      go_ret
                      exact ⟨rfl, hBw.trans (g5.h.mono (Nat.le_of_lt hsz))⟩
                    · skip
                      cases hda : Sea.inB day 0 (s.days.length - 1)
                      · skip
                        have hD : Hid (∀ g : Grow W, Calls Try.prog 30 #[.agg #[.int .i64 s.space, .int .i64 s.start, .int .i64 s.elo, .int .i64 s.ehi, rv, .slice da s.days.length dcap], .int .i64 day] g.x fun e w' => e = .returned (.bool false) ∧ Below g.x.heap.size g.x w') := fun g => refDayT g.x (hsg g) hda
                        replace hda := Lib.hid hda
                        replace hvb := Lib.hid hvb
                        replace hno := Lib.hid hno
                        clear hng
                        clear hsg
                        go_enter Try.func6, Try.ntmps6
                        go_wp2_with (first
                          | (go_at_call 14; ((with_reducible refine Calls.mono (hS.out) ?_); rintro e w' ⟨rfl, hb1⟩; obtain ⟨g1, rfl⟩ : ∃ g1 : Grow W, w' = g1.x := ⟨⟨w', hb1⟩, rfl⟩))
                          | (go_at_call 15; ((with_reducible refine Calls.mono (hL.out g1) ?_); rintro e w' ⟨rfl, hb2⟩; obtain ⟨g2, rfl⟩ := g1.next hb2))
                          | (go_at_call 19; ((with_reducible refine Calls.mono (hR.out g2) ?_); rintro e w' ⟨rfl, hb3⟩; obtain ⟨g3, rfl⟩ := g2.next hb3))
                          | (go_at_call 20; ((with_reducible refine Calls.mono (hN.out g3) ?_); rintro e w' ⟨rfl, hb4⟩; obtain ⟨g4, rfl⟩ := g3.next hb4))
                          | (go_at_call 30; ((with_reducible refine Calls.mono (hD.out g4) ?_); rintro e w' ⟨rfl, hb5⟩; obtain ⟨g5, rfl⟩ := g4.next hb5))
                          | (go_at_call 16; ((with_reducible refine Calls.mono (hK.out _) ?_); rintro e w' ⟨rfl, hb6⟩; obtain ⟨g6, rfl⟩ := g5.next hb6)))
                        go_ret
                        exact ⟨rfl, hBw.trans (g6.h.mono (Nat.le_of_lt hsz))⟩
                      · skip
                        have hD : Hid (∀ g : Grow W, Calls Try.prog 30 #[.agg #[.int .i64 s.space, .int .i64 s.start, .int .i64 s.elo, .int .i64 s.ehi, rv, .slice da s.days.length dcap], .int .i64 day] g.x fun e w' => e = .returned (.bool true) ∧ Below g.x.heap.size g.x w') := fun g => refDayT g.x (hsg g) hda
                        cases hfi : Sea.inB fill 0 s.space
                        · skip
                          have hF : Hid (∀ g : Grow W, Calls Try.prog 31 #[.agg #[.int .i64 s.space, .int .i64 s.start, .int .i64 s.elo, .int .i64 s.ehi, rv, .slice da s.days.length dcap], .int .i64 fill] g.x fun e w' => e = .returned (.bool false) ∧ Below g.x.heap.size g.x w') := fun g => refFillT g.x (hsg g) hfi
                          replace hfi := Lib.hid hfi
                          replace hvb := Lib.hid hvb
                          replace hno := Lib.hid hno
                          clear hng
                          clear hsg
                          go_enter Try.func6, Try.ntmps6
                          go_wp2_with (first
                            | (go_at_call 14; ((with_reducible refine Calls.mono (hS.out) ?_); rintro e w' ⟨rfl, hb1⟩; obtain ⟨g1, rfl⟩ : ∃ g1 : Grow W, w' = g1.x := ⟨⟨w', hb1⟩, rfl⟩))
                            | (go_at_call 15; ((with_reducible refine Calls.mono (hL.out g1) ?_); rintro e w' ⟨rfl, hb2⟩; obtain ⟨g2, rfl⟩ := g1.next hb2))
                            | (go_at_call 19; ((with_reducible refine Calls.mono (hR.out g2) ?_); rintro e w' ⟨rfl, hb3⟩; obtain ⟨g3, rfl⟩ := g2.next hb3))
                            | (go_at_call 20; ((with_reducible refine Calls.mono (hN.out g3) ?_); rintro e w' ⟨rfl, hb4⟩; obtain ⟨g4, rfl⟩ := g3.next hb4))
                            | (go_at_call 30; ((with_reducible refine Calls.mono (hD.out g4) ?_); rintro e w' ⟨rfl, hb5⟩; obtain ⟨g5, rfl⟩ := g4.next hb5))
                            | (go_at_call 31; ((with_reducible refine Calls.mono (hF.out g5) ?_); rintro e w' ⟨rfl, hb6⟩; obtain ⟨g6, rfl⟩ := g5.next hb6))
                            | (go_at_call 16; ((with_reducible refine Calls.mono (hK.out _) ?_); rintro e w' ⟨rfl, hb7⟩; obtain ⟨g7, rfl⟩ := g6.next hb7)))
                          go_ret
                          exact ⟨rfl, hBw.trans (g7.h.mono (Nat.le_of_lt hsz))⟩
                        · skip
                          have hF : Hid (∀ g : Grow W, Calls Try.prog 31 #[.agg #[.int .i64 s.space, .int .i64 s.start, .int .i64 s.elo, .int .i64 s.ehi, rv, .slice da s.days.length dcap], .int .i64 fill] g.x fun e w' => e = .returned (.bool true) ∧ Below g.x.heap.size g.x w') := fun g => refFillT g.x (hsg g) hfi
                          have ok := Sea.ok_of_valid hvb
                          have hst := ok.start
                          have hnd := ok.ndays
                          obtain ⟨d, rfl⟩ := Int.eq_ofNat_of_zero_le (Sea.inB_iff.1 hda).1
                          have hdl : d < s.days.length := by have := (Sea.inB_iff.1 hda).2; omega
                          have hf := Sea.inB_iff.1 hfi
                          have hb : 0 ≤ byN ∧ byN ≤ 10 := by omega
                          have hl : 0 ≤ less ∧ less ≤ 20 := by omega
                          have hvx := wid_valid hvb hb.1 hl.1
                          have hxn := wid_ndays s byN less
                          have hle : (worstOf (wid s byN less) d fill (wrow (wid s byN less) ((wid s byN less).days.length - 1 - d))).2 ≤ (worstOf s d fill (wrow s (s.days.length - 1 - d))).2 := by
                            have h1 := wid_le hvb hb.1 hl.1 (s.days.length - 1 - d + 1) (by omega) fill hf
                            rw [wrow_step (d := d) ok (by omega) hf, wrow_step (d := d) (Sea.ok_of_valid hvx) (by rw [hxn]; omega) hf] at h1
                            rw [hxn]; exact h1
                          have hsafe := fun h => wid_safe hvb hb.1 hl.1 (t := d) (by omega) hf h
                          have hbw := fun h => best_worst ok hno h
                          have hW0 : Hid (∀ g : Grow W, Calls Try.prog 28 #[.agg #[.int .i64 s.space, .int .i64 s.start, .int .i64 s.elo, .int .i64 s.ehi, rv, .slice da s.days.length dcap], .int .i64 0, .int .i64 s.start] g.x fun e w' => e = .returned (.tuple #[.int .i64 (worstOf s 0 s.start (wrow s (s.days.length - 1))).1, .int .i64 (worstCost s), .int .i64 0]) ∧ Below g.x.heap.size g.x w') := fun g => by rw [worstCost_eq ok]; exact progWorstAt (t := 0) g.x (hsg g) hvb (by omega) hst
                          have hWi : Hid (∀ g : Grow W, Calls Try.prog 35 #[.agg #[.int .i64 s.space, .int .i64 s.start, .int .i64 s.elo, .int .i64 s.ehi, rv, .slice da s.days.length dcap], .int .i64 byN, .int .i64 less] g.x fun e w' => (∃ xa xc xb xd, e = .returned (.agg #[.int .i64 s.space, .int .i64 s.start, .int .i64 s.elo, .int .i64 s.ehi, .slice xa s.rows.length xc, .slice xb s.days.length xd]) ∧ SeasonAt w' (.agg #[.int .i64 s.space, .int .i64 s.start, .int .i64 s.elo, .int .i64 s.ehi, .slice xa s.rows.length xc, .slice xb s.days.length xd]) (wid s byN less)) ∧ Below g.x.heap.size g.x w') := fun g => lawWiderT g.x (hsg g) ok hb hl
                          have hW1 : Hid (∀ g : Grow W, Calls Try.prog 28 #[.agg #[.int .i64 s.space, .int .i64 s.start, .int .i64 s.elo, .int .i64 s.ehi, rv, .slice da s.days.length dcap], .int .i64 d, .int .i64 fill] g.x fun e w' => e = .returned (.tuple #[.int .i64 (worstOf s d fill (wrow s (s.days.length - 1 - d))).1, .int .i64 (worstOf s d fill (wrow s (s.days.length - 1 - d))).2, .int .i64 0]) ∧ Below g.x.heap.size g.x w') := fun g => progWorstAt g.x (hsg g) hvb hdl hf
                          have hW2 : Hid (∀ g : Grow W, ∀ xv, SeasonAt g.x xv (wid s byN less) → Calls Try.prog 28 #[xv, .int .i64 d, .int .i64 fill] g.x fun e w' => e = .returned (.tuple #[.int .i64 (worstOf (wid s byN less) d fill (wrow (wid s byN less) ((wid s byN less).days.length - 1 - d))).1, .int .i64 (worstOf (wid s byN less) d fill (wrow (wid s byN less) ((wid s byN less).days.length - 1 - d))).2, .int .i64 0]) ∧ Below g.x.heap.size g.x w') := fun g xv hx => progWorstAt g.x hx hvx (by rw [hxn]; exact hdl) hf
                          have hS1 : Hid (∀ g : Grow W, Calls Try.prog 25 #[.agg #[.int .i64 s.space, .int .i64 s.start, .int .i64 s.elo, .int .i64 s.ehi, rv, .slice da s.days.length dcap]] g.x fun e w' => (∃ b off cap, e = .returned (.tuple #[.slice (some ⟨b, off, none⟩) (s.days.length + 1) cap, .int .i64 0]) ∧ b < w'.heap.size ∧ ∀ k, k ≤ s.days.length → ∃ ev, w'.cell? ⟨b, off + k, none⟩ = some ev ∧ SpansAt w' ev (Sea.spansAt (safeRows (s)) k)) ∧ Below g.x.heap.size g.x w') := fun g => progSafeAt g.x (hsg g) hvb
                          have hS2 : Hid (∀ g : Grow W, ∀ xv, SeasonAt g.x xv (wid s byN less) → Calls Try.prog 25 #[xv] g.x fun e w' => (∃ b off cap, e = .returned (.tuple #[.slice (some ⟨b, off, none⟩) (s.days.length + 1) cap, .int .i64 0]) ∧ b < w'.heap.size ∧ ∀ k, k ≤ s.days.length → ∃ ev, w'.cell? ⟨b, off + k, none⟩ = some ev ∧ SpansAt w' ev (Sea.spansAt (safeRows (wid s byN less)) k)) ∧ Below g.x.heap.size g.x w') := fun g xv hx => by have h := progSafeAt g.x hx hvx; rw [hxn] at h; exact h
                          have hI1 : Hid (∀ g : Grow W, ∀ v, SpansAt g.x v (Sea.spansAt (safeRows s) d) → Calls Try.prog 36 #[v, .int .i64 fill] g.x fun e w' => e = .returned (.bool (Sea.isSafe (Sea.spansAt (safeRows s) d) fill)) ∧ Below g.x.heap.size g.x w') := fun g v hv => refIsSafe v _ fill g.x hv
                          have hI2 : Hid (∀ g : Grow W, ∀ v, SpansAt g.x v (Sea.spansAt (safeRows (wid s byN less)) d) → Calls Try.prog 36 #[v, .int .i64 fill] g.x fun e w' => e = .returned (.bool (Sea.isSafe (Sea.spansAt (safeRows (wid s byN less)) d) fill)) ∧ Below g.x.heap.size g.x w') := fun g v hv => refIsSafe v _ fill g.x hv
                          have hdi : (0 : Int) ≤ (d : Int) ∧ (d : Int) < (s.days.length : Int) + 1 := by omega
                          generalize (worstOf s d fill (wrow s (s.days.length - 1 - d))).2 = wa at *
                          generalize (worstOf s d fill (wrow s (s.days.length - 1 - d))).1 = na at *
                          generalize (worstOf (wid s byN less) d fill (wrow (wid s byN less) ((wid s byN less).days.length - 1 - d))).2 = wb at *
                          generalize (worstOf (wid s byN less) d fill (wrow (wid s byN less) ((wid s byN less).days.length - 1 - d))).1 = nx at *
                          by_cases hwn : worstCost s < 1000000000000000
                          · skip
                            obtain ⟨hbc1, hbc2⟩ := hbw hwn
                            have hbo := bestOf_yes (s := s) (noms := noms) hvb hno (Int.ne_of_lt hbc2)
                            clear hbw
                            generalize bestCost s noms = bc at *
                            generalize worstCost s = wco at *
                            generalize (planTo s noms s.days.length).1 = pl at *
                            have hA : Hid (∀ g : Grow W, Calls Try.prog 17 #[.agg #[.int .i64 s.space, .int .i64 s.start, .int .i64 s.elo, .int .i64 s.ehi, rv, .slice da s.days.length dcap], nv] g.x fun e w' => (∃ a cap, e = .returned (.tuple #[.slice a pl.length cap, .int .i64 bc, .int .i64 0]) ∧ IntsAt w' (.slice a pl.length cap) pl) ∧ Below g.x.heap.size g.x w') := fun g => progBestT g.x (hsg g) (hng g) hbo
                            replace hbo := Lib.hid hbo
                            replace hbc2 := Lib.hid hbc2
                            cases htk : Sea.isSafe (Sea.spansAt (safeRows s) d) fill
                            · skip
                              rw [htk] at hI1
                              replace hvb := Lib.hid hvb
                              replace hno := Lib.hid hno
                              replace hda := Lib.hid hda
                              replace hfi := Lib.hid hfi
                              replace hvx := Lib.hid hvx
                              replace hxn := Lib.hid hxn
                              replace htk := Lib.hid htk
                              clear hng ok hsafe
                              clear hsg
                              go_enter Try.func6, Try.ntmps6
                              go_wp2_with (first
                                | (go_at_call 14; ((with_reducible refine Calls.mono (hS.out) ?_); rintro e w' ⟨rfl, hb1⟩; obtain ⟨g1, rfl⟩ : ∃ g1 : Grow W, w' = g1.x := ⟨⟨w', hb1⟩, rfl⟩))
                                | (go_at_call 15; ((with_reducible refine Calls.mono (hL.out g1) ?_); rintro e w' ⟨rfl, hb2⟩; obtain ⟨g2, rfl⟩ := g1.next hb2))
                                | (go_at_call 19; ((with_reducible refine Calls.mono (hR.out g2) ?_); rintro e w' ⟨rfl, hb3⟩; obtain ⟨g3, rfl⟩ := g2.next hb3))
                                | (go_at_call 20; ((with_reducible refine Calls.mono (hN.out g3) ?_); rintro e w' ⟨rfl, hb4⟩; obtain ⟨g4, rfl⟩ := g3.next hb4))
                                | (go_at_call 30; ((with_reducible refine Calls.mono (hD.out g4) ?_); rintro e w' ⟨rfl, hb5⟩; obtain ⟨g5, rfl⟩ := g4.next hb5))
                                | (go_at_call 31; ((with_reducible refine Calls.mono (hF.out g5) ?_); rintro e w' ⟨rfl, hb6⟩; obtain ⟨g6, rfl⟩ := g5.next hb6))
                                | (go_at_call 28; ((with_reducible refine Calls.mono (hW0.out g6) ?_); rintro e w' ⟨rfl, hb7⟩; obtain ⟨g7, rfl⟩ := g6.next hb7))
                                | (go_at_call 17; ((with_reducible refine Calls.mono (hA.out g7) ?_); rintro e w' ⟨⟨pa, pcap, rfl, -⟩, hb8⟩; obtain ⟨g8, rfl⟩ := g7.next hb8))
                                | (go_at_call 35; ((with_reducible refine Calls.mono (hWi.out g8) ?_); rintro e w' ⟨⟨xa, xc, xb, xd, rfl, hx9⟩, hb9⟩; obtain ⟨g9, rfl⟩ := g8.next hb9); obtain ⟨g10, hg10⟩ := g9.alloc (.cells #[.int .i64 s.space, .int .i64 s.start, .int .i64 s.elo, .int .i64 s.ehi, .slice xa s.rows.length xc, .slice xb s.days.length xd] 27); have hnw10 := World.alloc_heap_new g9.x (.cells #[.int .i64 s.space, .int .i64 s.start, .int .i64 s.elo, .int .i64 s.ehi, .slice xa s.rows.length xc, .slice xb s.days.length xd] 27); rw [hg10] at hnw10; have hb10 : Below g9.x.heap.size g9.x g10.x := (by rw [← hg10]; exact below_al (Below.refl _ _) _); have dn10 := (row_cells hnw10).2.1; clear hnw10; have cx0 := dn10 0; have cx1 := dn10 1; have cx2 := dn10 2; have cx3 := dn10 3; have cx4 := dn10 4; have cx5 := dn10 5; simp only [List.getElem?_toArray, List.getElem?_cons_zero, List.getElem?_cons_succ] at cx0 cx1 cx2 cx3 cx4 cx5; clear dn10)
                                | (go_at_call 28; ((with_reducible refine Calls.mono (hW1.out g10) ?_); rintro e w' ⟨rfl, hb11⟩; obtain ⟨g11, rfl⟩ := g10.next hb11; have cx0 := kept_cell hb11 cx0; have cx1 := kept_cell hb11 cx1; have cx2 := kept_cell hb11 cx2; have cx3 := kept_cell hb11 cx3; have cx4 := kept_cell hb11 cx4; have cx5 := kept_cell hb11 cx5))
                                | (go_at_call 28; ((with_reducible refine Calls.mono (hW2.out g11 _ (hx9.mono (below_tr hb10 hb11))) ?_); rintro e w' ⟨rfl, hb12⟩; obtain ⟨g12, rfl⟩ := g11.next hb12; have cx0 := kept_cell hb12 cx0; have cx1 := kept_cell hb12 cx1; have cx2 := kept_cell hb12 cx2; have cx3 := kept_cell hb12 cx3; have cx4 := kept_cell hb12 cx4; have cx5 := kept_cell hb12 cx5))
                                | (go_at_call 25; ((with_reducible refine Calls.mono (hS1.out g12) ?_); rintro e w' ⟨⟨sb1, so1, sc1, rfl, hl1, hk1⟩, hb13⟩; obtain ⟨g13, rfl⟩ := g12.next hb13; have cx0 := kept_cell hb13 cx0; have cx1 := kept_cell hb13 cx1; have cx2 := kept_cell hb13 cx2; have cx3 := kept_cell hb13 cx3; have cx4 := kept_cell hb13 cx4; have cx5 := kept_cell hb13 cx5; obtain ⟨e1, y1, s1⟩ := hk1 d (by omega); clear hk1; replace s1 := Lib.hid s1))
                                | (go_at_call 25; ((with_reducible refine Calls.mono (hS2.out g13 _ (hx9.mono (below_tr (below_tr (below_tr hb10 hb11) hb12) hb13))) ?_); rintro e w' ⟨⟨sb2, so2, sc2, rfl, hl2, hk2⟩, hb14⟩; obtain ⟨g14, rfl⟩ := g13.next hb14; have cx0 := kept_cell hb14 cx0; have cx1 := kept_cell hb14 cx1; have cx2 := kept_cell hb14 cx2; have cx3 := kept_cell hb14 cx3; have cx4 := kept_cell hb14 cx4; have cx5 := kept_cell hb14 cx5; obtain ⟨e2, y2, s2⟩ := hk2 d (by omega); clear hk2; replace s2 := Lib.hid s2; have y1 := kept_cell hb14 y1))
                                | (go_at_call 36; ((with_reducible refine Calls.mono (hI1.out g14 _ (s1.out.mono hb14)) ?_); rintro e w' ⟨rfl, hb15⟩; obtain ⟨g15, rfl⟩ := g14.next hb15; have cx0 := kept_cell hb15 cx0; have cx1 := kept_cell hb15 cx1; have cx2 := kept_cell hb15 cx2; have cx3 := kept_cell hb15 cx3; have cx4 := kept_cell hb15 cx4; have cx5 := kept_cell hb15 cx5; have y2 := kept_cell hb15 y2))
                                | (go_at_call 16; ((with_reducible refine Calls.mono (hK.out _) ?_); rintro e w' ⟨rfl, hb16⟩; obtain ⟨g16, rfl⟩ := g15.next hb16; have cx0 := kept_cell hb16 cx0; have cx1 := kept_cell hb16 cx1; have cx2 := kept_cell hb16 cx2; have cx3 := kept_cell hb16 cx3; have cx4 := kept_cell hb16 cx4; have cx5 := kept_cell hb16 cx5)))
                              go_ret
                              exact ⟨rfl, hBw.trans (g16.h.mono (Nat.le_of_lt hsz))⟩
                            · skip
                              have htl := hsafe htk
                              rw [htk] at hI1
                              rw [htl] at hI2
                              replace hvb := Lib.hid hvb
                              replace hno := Lib.hid hno
                              replace hda := Lib.hid hda
                              replace hfi := Lib.hid hfi
                              replace hvx := Lib.hid hvx
                              replace hxn := Lib.hid hxn
                              replace htk := Lib.hid htk
                              replace htl := Lib.hid htl
                              clear hng ok hsafe
                              clear hsg
                              go_enter Try.func6, Try.ntmps6
                              go_wp2_with (first
                                | (go_at_call 14; ((with_reducible refine Calls.mono (hS.out) ?_); rintro e w' ⟨rfl, hb1⟩; obtain ⟨g1, rfl⟩ : ∃ g1 : Grow W, w' = g1.x := ⟨⟨w', hb1⟩, rfl⟩))
                                | (go_at_call 15; ((with_reducible refine Calls.mono (hL.out g1) ?_); rintro e w' ⟨rfl, hb2⟩; obtain ⟨g2, rfl⟩ := g1.next hb2))
                                | (go_at_call 19; ((with_reducible refine Calls.mono (hR.out g2) ?_); rintro e w' ⟨rfl, hb3⟩; obtain ⟨g3, rfl⟩ := g2.next hb3))
                                | (go_at_call 20; ((with_reducible refine Calls.mono (hN.out g3) ?_); rintro e w' ⟨rfl, hb4⟩; obtain ⟨g4, rfl⟩ := g3.next hb4))
                                | (go_at_call 30; ((with_reducible refine Calls.mono (hD.out g4) ?_); rintro e w' ⟨rfl, hb5⟩; obtain ⟨g5, rfl⟩ := g4.next hb5))
                                | (go_at_call 31; ((with_reducible refine Calls.mono (hF.out g5) ?_); rintro e w' ⟨rfl, hb6⟩; obtain ⟨g6, rfl⟩ := g5.next hb6))
                                | (go_at_call 28; ((with_reducible refine Calls.mono (hW0.out g6) ?_); rintro e w' ⟨rfl, hb7⟩; obtain ⟨g7, rfl⟩ := g6.next hb7))
                                | (go_at_call 17; ((with_reducible refine Calls.mono (hA.out g7) ?_); rintro e w' ⟨⟨pa, pcap, rfl, -⟩, hb8⟩; obtain ⟨g8, rfl⟩ := g7.next hb8))
                                | (go_at_call 35; ((with_reducible refine Calls.mono (hWi.out g8) ?_); rintro e w' ⟨⟨xa, xc, xb, xd, rfl, hx9⟩, hb9⟩; obtain ⟨g9, rfl⟩ := g8.next hb9); obtain ⟨g10, hg10⟩ := g9.alloc (.cells #[.int .i64 s.space, .int .i64 s.start, .int .i64 s.elo, .int .i64 s.ehi, .slice xa s.rows.length xc, .slice xb s.days.length xd] 27); have hnw10 := World.alloc_heap_new g9.x (.cells #[.int .i64 s.space, .int .i64 s.start, .int .i64 s.elo, .int .i64 s.ehi, .slice xa s.rows.length xc, .slice xb s.days.length xd] 27); rw [hg10] at hnw10; have hb10 : Below g9.x.heap.size g9.x g10.x := (by rw [← hg10]; exact below_al (Below.refl _ _) _); have dn10 := (row_cells hnw10).2.1; clear hnw10; have cx0 := dn10 0; have cx1 := dn10 1; have cx2 := dn10 2; have cx3 := dn10 3; have cx4 := dn10 4; have cx5 := dn10 5; simp only [List.getElem?_toArray, List.getElem?_cons_zero, List.getElem?_cons_succ] at cx0 cx1 cx2 cx3 cx4 cx5; clear dn10)
                                | (go_at_call 28; ((with_reducible refine Calls.mono (hW1.out g10) ?_); rintro e w' ⟨rfl, hb11⟩; obtain ⟨g11, rfl⟩ := g10.next hb11; have cx0 := kept_cell hb11 cx0; have cx1 := kept_cell hb11 cx1; have cx2 := kept_cell hb11 cx2; have cx3 := kept_cell hb11 cx3; have cx4 := kept_cell hb11 cx4; have cx5 := kept_cell hb11 cx5))
                                | (go_at_call 28; ((with_reducible refine Calls.mono (hW2.out g11 _ (hx9.mono (below_tr hb10 hb11))) ?_); rintro e w' ⟨rfl, hb12⟩; obtain ⟨g12, rfl⟩ := g11.next hb12; have cx0 := kept_cell hb12 cx0; have cx1 := kept_cell hb12 cx1; have cx2 := kept_cell hb12 cx2; have cx3 := kept_cell hb12 cx3; have cx4 := kept_cell hb12 cx4; have cx5 := kept_cell hb12 cx5))
                                | (go_at_call 25; ((with_reducible refine Calls.mono (hS1.out g12) ?_); rintro e w' ⟨⟨sb1, so1, sc1, rfl, hl1, hk1⟩, hb13⟩; obtain ⟨g13, rfl⟩ := g12.next hb13; have cx0 := kept_cell hb13 cx0; have cx1 := kept_cell hb13 cx1; have cx2 := kept_cell hb13 cx2; have cx3 := kept_cell hb13 cx3; have cx4 := kept_cell hb13 cx4; have cx5 := kept_cell hb13 cx5; obtain ⟨e1, y1, s1⟩ := hk1 d (by omega); clear hk1; replace s1 := Lib.hid s1))
                                | (go_at_call 25; ((with_reducible refine Calls.mono (hS2.out g13 _ (hx9.mono (below_tr (below_tr (below_tr hb10 hb11) hb12) hb13))) ?_); rintro e w' ⟨⟨sb2, so2, sc2, rfl, hl2, hk2⟩, hb14⟩; obtain ⟨g14, rfl⟩ := g13.next hb14; have cx0 := kept_cell hb14 cx0; have cx1 := kept_cell hb14 cx1; have cx2 := kept_cell hb14 cx2; have cx3 := kept_cell hb14 cx3; have cx4 := kept_cell hb14 cx4; have cx5 := kept_cell hb14 cx5; obtain ⟨e2, y2, s2⟩ := hk2 d (by omega); clear hk2; replace s2 := Lib.hid s2; have y1 := kept_cell hb14 y1))
                                | (go_at_call 36; ((with_reducible refine Calls.mono (hI1.out g14 _ (s1.out.mono hb14)) ?_); rintro e w' ⟨rfl, hb15⟩; obtain ⟨g15, rfl⟩ := g14.next hb15; have cx0 := kept_cell hb15 cx0; have cx1 := kept_cell hb15 cx1; have cx2 := kept_cell hb15 cx2; have cx3 := kept_cell hb15 cx3; have cx4 := kept_cell hb15 cx4; have cx5 := kept_cell hb15 cx5; have y2 := kept_cell hb15 y2))
                                | (go_at_call 36; ((with_reducible refine Calls.mono (hI2.out g15 _ (s2.out.mono hb15)) ?_); rintro e w' ⟨rfl, hb16⟩; obtain ⟨g16, rfl⟩ := g15.next hb16; have cx0 := kept_cell hb16 cx0; have cx1 := kept_cell hb16 cx1; have cx2 := kept_cell hb16 cx2; have cx3 := kept_cell hb16 cx3; have cx4 := kept_cell hb16 cx4; have cx5 := kept_cell hb16 cx5))
                                | (go_at_call 16; ((with_reducible refine Calls.mono (hK.out _) ?_); rintro e w' ⟨rfl, hb17⟩; obtain ⟨g17, rfl⟩ := g16.next hb17; have cx0 := kept_cell hb17 cx0; have cx1 := kept_cell hb17 cx1; have cx2 := kept_cell hb17 cx2; have cx3 := kept_cell hb17 cx3; have cx4 := kept_cell hb17 cx4; have cx5 := kept_cell hb17 cx5)))
                              go_ret
                              exact ⟨rfl, hBw.trans (g17.h.mono (Nat.le_of_lt hsz))⟩
                          · skip
                            obtain ⟨⟨pl, bc, be⟩, hbo⟩ : ∃ x, bestOf s noms = x := ⟨_, rfl⟩
                            clear hbw
                            generalize worstCost s = wco at *
                            have hA : Hid (∀ g : Grow W, Calls Try.prog 17 #[.agg #[.int .i64 s.space, .int .i64 s.start, .int .i64 s.elo, .int .i64 s.ehi, rv, .slice da s.days.length dcap], nv] g.x fun e w' => (∃ a cap, e = .returned (.tuple #[.slice a pl.length cap, .int .i64 bc, .int .i64 be]) ∧ IntsAt w' (.slice a pl.length cap) pl) ∧ Below g.x.heap.size g.x w') := fun g => progBestT g.x (hsg g) (hng g) hbo
                            replace hbo := Lib.hid hbo
                            cases htk : Sea.isSafe (Sea.spansAt (safeRows s) d) fill
                            · skip
                              rw [htk] at hI1
                              replace hvb := Lib.hid hvb
                              replace hno := Lib.hid hno
                              replace hda := Lib.hid hda
                              replace hfi := Lib.hid hfi
                              replace hvx := Lib.hid hvx
                              replace hxn := Lib.hid hxn
                              replace htk := Lib.hid htk
                              clear hng ok hsafe
                              clear hsg
                              go_enter Try.func6, Try.ntmps6
                              go_wp2_with (first
                                | (go_at_call 14; ((with_reducible refine Calls.mono (hS.out) ?_); rintro e w' ⟨rfl, hb1⟩; obtain ⟨g1, rfl⟩ : ∃ g1 : Grow W, w' = g1.x := ⟨⟨w', hb1⟩, rfl⟩))
                                | (go_at_call 15; ((with_reducible refine Calls.mono (hL.out g1) ?_); rintro e w' ⟨rfl, hb2⟩; obtain ⟨g2, rfl⟩ := g1.next hb2))
                                | (go_at_call 19; ((with_reducible refine Calls.mono (hR.out g2) ?_); rintro e w' ⟨rfl, hb3⟩; obtain ⟨g3, rfl⟩ := g2.next hb3))
                                | (go_at_call 20; ((with_reducible refine Calls.mono (hN.out g3) ?_); rintro e w' ⟨rfl, hb4⟩; obtain ⟨g4, rfl⟩ := g3.next hb4))
                                | (go_at_call 30; ((with_reducible refine Calls.mono (hD.out g4) ?_); rintro e w' ⟨rfl, hb5⟩; obtain ⟨g5, rfl⟩ := g4.next hb5))
                                | (go_at_call 31; ((with_reducible refine Calls.mono (hF.out g5) ?_); rintro e w' ⟨rfl, hb6⟩; obtain ⟨g6, rfl⟩ := g5.next hb6))
                                | (go_at_call 28; ((with_reducible refine Calls.mono (hW0.out g6) ?_); rintro e w' ⟨rfl, hb7⟩; obtain ⟨g7, rfl⟩ := g6.next hb7))
                                | (go_at_call 17; ((with_reducible refine Calls.mono (hA.out g7) ?_); rintro e w' ⟨⟨pa, pcap, rfl, -⟩, hb8⟩; obtain ⟨g8, rfl⟩ := g7.next hb8))
                                | (go_at_call 35; ((with_reducible refine Calls.mono (hWi.out g8) ?_); rintro e w' ⟨⟨xa, xc, xb, xd, rfl, hx9⟩, hb9⟩; obtain ⟨g9, rfl⟩ := g8.next hb9); obtain ⟨g10, hg10⟩ := g9.alloc (.cells #[.int .i64 s.space, .int .i64 s.start, .int .i64 s.elo, .int .i64 s.ehi, .slice xa s.rows.length xc, .slice xb s.days.length xd] 27); have hnw10 := World.alloc_heap_new g9.x (.cells #[.int .i64 s.space, .int .i64 s.start, .int .i64 s.elo, .int .i64 s.ehi, .slice xa s.rows.length xc, .slice xb s.days.length xd] 27); rw [hg10] at hnw10; have hb10 : Below g9.x.heap.size g9.x g10.x := (by rw [← hg10]; exact below_al (Below.refl _ _) _); have dn10 := (row_cells hnw10).2.1; clear hnw10; have cx0 := dn10 0; have cx1 := dn10 1; have cx2 := dn10 2; have cx3 := dn10 3; have cx4 := dn10 4; have cx5 := dn10 5; simp only [List.getElem?_toArray, List.getElem?_cons_zero, List.getElem?_cons_succ] at cx0 cx1 cx2 cx3 cx4 cx5; clear dn10)
                                | (go_at_call 28; ((with_reducible refine Calls.mono (hW1.out g10) ?_); rintro e w' ⟨rfl, hb11⟩; obtain ⟨g11, rfl⟩ := g10.next hb11; have cx0 := kept_cell hb11 cx0; have cx1 := kept_cell hb11 cx1; have cx2 := kept_cell hb11 cx2; have cx3 := kept_cell hb11 cx3; have cx4 := kept_cell hb11 cx4; have cx5 := kept_cell hb11 cx5))
                                | (go_at_call 28; ((with_reducible refine Calls.mono (hW2.out g11 _ (hx9.mono (below_tr hb10 hb11))) ?_); rintro e w' ⟨rfl, hb12⟩; obtain ⟨g12, rfl⟩ := g11.next hb12; have cx0 := kept_cell hb12 cx0; have cx1 := kept_cell hb12 cx1; have cx2 := kept_cell hb12 cx2; have cx3 := kept_cell hb12 cx3; have cx4 := kept_cell hb12 cx4; have cx5 := kept_cell hb12 cx5))
                                | (go_at_call 25; ((with_reducible refine Calls.mono (hS1.out g12) ?_); rintro e w' ⟨⟨sb1, so1, sc1, rfl, hl1, hk1⟩, hb13⟩; obtain ⟨g13, rfl⟩ := g12.next hb13; have cx0 := kept_cell hb13 cx0; have cx1 := kept_cell hb13 cx1; have cx2 := kept_cell hb13 cx2; have cx3 := kept_cell hb13 cx3; have cx4 := kept_cell hb13 cx4; have cx5 := kept_cell hb13 cx5; obtain ⟨e1, y1, s1⟩ := hk1 d (by omega); clear hk1; replace s1 := Lib.hid s1))
                                | (go_at_call 25; ((with_reducible refine Calls.mono (hS2.out g13 _ (hx9.mono (below_tr (below_tr (below_tr hb10 hb11) hb12) hb13))) ?_); rintro e w' ⟨⟨sb2, so2, sc2, rfl, hl2, hk2⟩, hb14⟩; obtain ⟨g14, rfl⟩ := g13.next hb14; have cx0 := kept_cell hb14 cx0; have cx1 := kept_cell hb14 cx1; have cx2 := kept_cell hb14 cx2; have cx3 := kept_cell hb14 cx3; have cx4 := kept_cell hb14 cx4; have cx5 := kept_cell hb14 cx5; obtain ⟨e2, y2, s2⟩ := hk2 d (by omega); clear hk2; replace s2 := Lib.hid s2; have y1 := kept_cell hb14 y1))
                                | (go_at_call 36; ((with_reducible refine Calls.mono (hI1.out g14 _ (s1.out.mono hb14)) ?_); rintro e w' ⟨rfl, hb15⟩; obtain ⟨g15, rfl⟩ := g14.next hb15; have cx0 := kept_cell hb15 cx0; have cx1 := kept_cell hb15 cx1; have cx2 := kept_cell hb15 cx2; have cx3 := kept_cell hb15 cx3; have cx4 := kept_cell hb15 cx4; have cx5 := kept_cell hb15 cx5; have y2 := kept_cell hb15 y2))
                                | (go_at_call 16; ((with_reducible refine Calls.mono (hK.out _) ?_); rintro e w' ⟨rfl, hb16⟩; obtain ⟨g16, rfl⟩ := g15.next hb16; have cx0 := kept_cell hb16 cx0; have cx1 := kept_cell hb16 cx1; have cx2 := kept_cell hb16 cx2; have cx3 := kept_cell hb16 cx3; have cx4 := kept_cell hb16 cx4; have cx5 := kept_cell hb16 cx5)))
                              go_ret
                              exact ⟨rfl, hBw.trans (g16.h.mono (Nat.le_of_lt hsz))⟩
                            · skip
                              have htl := hsafe htk
                              rw [htk] at hI1
                              rw [htl] at hI2
                              replace hvb := Lib.hid hvb
                              replace hno := Lib.hid hno
                              replace hda := Lib.hid hda
                              replace hfi := Lib.hid hfi
                              replace hvx := Lib.hid hvx
                              replace hxn := Lib.hid hxn
                              replace htk := Lib.hid htk
                              replace htl := Lib.hid htl
                              clear hng ok hsafe
                              clear hsg
                              go_enter Try.func6, Try.ntmps6
                              go_wp2_with (first
                                | (go_at_call 14; ((with_reducible refine Calls.mono (hS.out) ?_); rintro e w' ⟨rfl, hb1⟩; obtain ⟨g1, rfl⟩ : ∃ g1 : Grow W, w' = g1.x := ⟨⟨w', hb1⟩, rfl⟩))
                                | (go_at_call 15; ((with_reducible refine Calls.mono (hL.out g1) ?_); rintro e w' ⟨rfl, hb2⟩; obtain ⟨g2, rfl⟩ := g1.next hb2))
                                | (go_at_call 19; ((with_reducible refine Calls.mono (hR.out g2) ?_); rintro e w' ⟨rfl, hb3⟩; obtain ⟨g3, rfl⟩ := g2.next hb3))
                                | (go_at_call 20; ((with_reducible refine Calls.mono (hN.out g3) ?_); rintro e w' ⟨rfl, hb4⟩; obtain ⟨g4, rfl⟩ := g3.next hb4))
                                | (go_at_call 30; ((with_reducible refine Calls.mono (hD.out g4) ?_); rintro e w' ⟨rfl, hb5⟩; obtain ⟨g5, rfl⟩ := g4.next hb5))
                                | (go_at_call 31; ((with_reducible refine Calls.mono (hF.out g5) ?_); rintro e w' ⟨rfl, hb6⟩; obtain ⟨g6, rfl⟩ := g5.next hb6))
                                | (go_at_call 28; ((with_reducible refine Calls.mono (hW0.out g6) ?_); rintro e w' ⟨rfl, hb7⟩; obtain ⟨g7, rfl⟩ := g6.next hb7))
                                | (go_at_call 17; ((with_reducible refine Calls.mono (hA.out g7) ?_); rintro e w' ⟨⟨pa, pcap, rfl, -⟩, hb8⟩; obtain ⟨g8, rfl⟩ := g7.next hb8))
                                | (go_at_call 35; ((with_reducible refine Calls.mono (hWi.out g8) ?_); rintro e w' ⟨⟨xa, xc, xb, xd, rfl, hx9⟩, hb9⟩; obtain ⟨g9, rfl⟩ := g8.next hb9); obtain ⟨g10, hg10⟩ := g9.alloc (.cells #[.int .i64 s.space, .int .i64 s.start, .int .i64 s.elo, .int .i64 s.ehi, .slice xa s.rows.length xc, .slice xb s.days.length xd] 27); have hnw10 := World.alloc_heap_new g9.x (.cells #[.int .i64 s.space, .int .i64 s.start, .int .i64 s.elo, .int .i64 s.ehi, .slice xa s.rows.length xc, .slice xb s.days.length xd] 27); rw [hg10] at hnw10; have hb10 : Below g9.x.heap.size g9.x g10.x := (by rw [← hg10]; exact below_al (Below.refl _ _) _); have dn10 := (row_cells hnw10).2.1; clear hnw10; have cx0 := dn10 0; have cx1 := dn10 1; have cx2 := dn10 2; have cx3 := dn10 3; have cx4 := dn10 4; have cx5 := dn10 5; simp only [List.getElem?_toArray, List.getElem?_cons_zero, List.getElem?_cons_succ] at cx0 cx1 cx2 cx3 cx4 cx5; clear dn10)
                                | (go_at_call 28; ((with_reducible refine Calls.mono (hW1.out g10) ?_); rintro e w' ⟨rfl, hb11⟩; obtain ⟨g11, rfl⟩ := g10.next hb11; have cx0 := kept_cell hb11 cx0; have cx1 := kept_cell hb11 cx1; have cx2 := kept_cell hb11 cx2; have cx3 := kept_cell hb11 cx3; have cx4 := kept_cell hb11 cx4; have cx5 := kept_cell hb11 cx5))
                                | (go_at_call 28; ((with_reducible refine Calls.mono (hW2.out g11 _ (hx9.mono (below_tr hb10 hb11))) ?_); rintro e w' ⟨rfl, hb12⟩; obtain ⟨g12, rfl⟩ := g11.next hb12; have cx0 := kept_cell hb12 cx0; have cx1 := kept_cell hb12 cx1; have cx2 := kept_cell hb12 cx2; have cx3 := kept_cell hb12 cx3; have cx4 := kept_cell hb12 cx4; have cx5 := kept_cell hb12 cx5))
                                | (go_at_call 25; ((with_reducible refine Calls.mono (hS1.out g12) ?_); rintro e w' ⟨⟨sb1, so1, sc1, rfl, hl1, hk1⟩, hb13⟩; obtain ⟨g13, rfl⟩ := g12.next hb13; have cx0 := kept_cell hb13 cx0; have cx1 := kept_cell hb13 cx1; have cx2 := kept_cell hb13 cx2; have cx3 := kept_cell hb13 cx3; have cx4 := kept_cell hb13 cx4; have cx5 := kept_cell hb13 cx5; obtain ⟨e1, y1, s1⟩ := hk1 d (by omega); clear hk1; replace s1 := Lib.hid s1))
                                | (go_at_call 25; ((with_reducible refine Calls.mono (hS2.out g13 _ (hx9.mono (below_tr (below_tr (below_tr hb10 hb11) hb12) hb13))) ?_); rintro e w' ⟨⟨sb2, so2, sc2, rfl, hl2, hk2⟩, hb14⟩; obtain ⟨g14, rfl⟩ := g13.next hb14; have cx0 := kept_cell hb14 cx0; have cx1 := kept_cell hb14 cx1; have cx2 := kept_cell hb14 cx2; have cx3 := kept_cell hb14 cx3; have cx4 := kept_cell hb14 cx4; have cx5 := kept_cell hb14 cx5; obtain ⟨e2, y2, s2⟩ := hk2 d (by omega); clear hk2; replace s2 := Lib.hid s2; have y1 := kept_cell hb14 y1))
                                | (go_at_call 36; ((with_reducible refine Calls.mono (hI1.out g14 _ (s1.out.mono hb14)) ?_); rintro e w' ⟨rfl, hb15⟩; obtain ⟨g15, rfl⟩ := g14.next hb15; have cx0 := kept_cell hb15 cx0; have cx1 := kept_cell hb15 cx1; have cx2 := kept_cell hb15 cx2; have cx3 := kept_cell hb15 cx3; have cx4 := kept_cell hb15 cx4; have cx5 := kept_cell hb15 cx5; have y2 := kept_cell hb15 y2))
                                | (go_at_call 36; ((with_reducible refine Calls.mono (hI2.out g15 _ (s2.out.mono hb15)) ?_); rintro e w' ⟨rfl, hb16⟩; obtain ⟨g16, rfl⟩ := g15.next hb16; have cx0 := kept_cell hb16 cx0; have cx1 := kept_cell hb16 cx1; have cx2 := kept_cell hb16 cx2; have cx3 := kept_cell hb16 cx3; have cx4 := kept_cell hb16 cx4; have cx5 := kept_cell hb16 cx5))
                                | (go_at_call 16; ((with_reducible refine Calls.mono (hK.out _) ?_); rintro e w' ⟨rfl, hb17⟩; obtain ⟨g17, rfl⟩ := g16.next hb17; have cx0 := kept_cell hb17 cx0; have cx1 := kept_cell hb17 cx1; have cx2 := kept_cell hb17 cx2; have cx3 := kept_cell hb17 cx3; have cx4 := kept_cell hb17 cx4; have cx5 := kept_cell hb17 cx5)))
                              go_ret
                              exact ⟨rfl, hBw.trans (g17.h.mono (Nat.le_of_lt hsz))⟩
end Go.Proofs.Ytacajmpggjgaiaa
