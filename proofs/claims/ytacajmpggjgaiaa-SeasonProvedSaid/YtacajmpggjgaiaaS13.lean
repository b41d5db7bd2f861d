/- Walks: the theorem of proofs. -/
import Derived.Test.YtacajmpggjgaiaaS12
import Derived.Test.YtacajmpggjgaiaaPrv
import Derived.Test.YtacajmpggjgaiaaS7
set_option linter.unusedVariables false
set_option linter.unusedSimpArgs false
namespace Go.Proofs.Ytacajmpggjgaiaa
open Go.RowKit Go.Sd

theorem refValuesT {sv lv : Value} {s : Sea.S} {l : List (List Int)} {t : Bool} (w : World) (hs : SeasonAt w sv s) (hl : ListsAt w lv l) (ok : Sea.Ok s) (h : valsB s l = t) :
    Calls Try.prog 43 #[sv, lv] w fun e w' => e = .returned (.bool t) ∧ Below w.heap.size w w' := by
  subst h; exact refValues sv lv s l w hs hl ok
theorem progFloorT {sv nv vv : Value} {s : Sea.S} {noms : List Int} {l : List (List Int)} {t : Bool} {z n e : Int} (w : World) (hs : SeasonAt w sv s) (hn : IntsAt w nv noms) (hl : ListsAt w vv l)
    (ht : Sea.validB s = true) (hno : s.nomsB noms = true) (hva : valsB s l = true) (hfb : fairB s noms l = t) (hz : Sea.at0 (Sea.lstAt l 0) s.start.toNat = z) (hn2 : (if t = true then z else 0) = n) (he : (if t = true then 0 else 7) = e) :
    Calls Try.prog 42 #[sv, nv, vv] w fun e' w' => e' = .returned (.tuple #[.int .i64 n, .int .i64 e]) ∧ Below w.heap.size w w' := by
  subst hfb hz hn2 he
  exact progFloorYes sv nv vv s noms l w hs hn hl ht hno hva

set_option maxRecDepth 100000 in
set_option maxHeartbeats 16000000 in
/-- The theorem of proofs. -/
theorem lawProved (sv nv vv ov : Value) (s : Sea.S) (noms : List Int) (l : List (List Int)) (other : List Int) (w : World) (hs : SeasonAt w sv s) (hn : IntsAt w nv noms) (hl : ListsAt w vv l) (ho : IntsAt w ov other) :
    Calls Try.prog 13 #[sv, nv, vv, ov] w fun e w' => e = .returned (.bool true) ∧ Below w.heap.size w w' := by
  have hs' := hs
  obtain ⟨rv, dv, rfl, hr, hd⟩ := hs'
  obtain ⟨W, hW⟩ : ∃ W, w.alloc (sBox s rv dv) = W := ⟨_, rfl⟩
  obtain ⟨hsz, hBw, q0, q1, q2, q3, q4, q5⟩ := box_season hW
  have hg := grow_cell W
  have hK : Hid (∀ (w : World), Calls Try.prog 16 #[] w fun e w' => e = .returned (.bool true) ∧ Below w.heap.size w w') := progKnown
  have hsg : ∀ g : Grow W, SeasonAt g.x (.agg #[.int .i64 s.space, .int .i64 s.start, .int .i64 s.elo, .int .i64 s.ehi, rv, dv]) s := fun g => (hs.mono hBw).mono g.h
  have hng : ∀ g : Grow W, IntsAt g.x nv noms := fun g => (hn.mono hBw).mono g.h
  have hlg : ∀ g : Grow W, ListsAt g.x vv l := fun g => (hl.mono hBw).mono g.h
  have hog : ∀ g : Grow W, IntsAt g.x ov other := fun g => (ho.mono hBw).mono g.h
  have hrn := run_neq_fault
  cases hsm : smallB s
  · skip
    have hS : Hid (Calls Try.prog 14 #[.agg #[.int .i64 s.space, .int .i64 s.start, .int .i64 s.elo, .int .i64 s.ehi, rv, dv]] W fun e w' => e = .returned (.bool false) ∧ Below W.heap.size W w') := lawSmallT W (hs.mono hBw) hsm
    replace hsm := Lib.hid hsm
    clear hng hlg hog
    clear hsg
    go_enter Try.func13, Try.ntmps13
    go_wp2_with (first
      | (go_at_call 14; ((with_reducible refine Calls.mono (hS.out) ?_); rintro e w' ⟨rfl, hb1⟩; obtain ⟨g1, rfl⟩ : ∃ g1 : Grow W, w' = g1.x := ⟨⟨w', hb1⟩, rfl⟩))
      | (go_at_call 16; ((with_reducible refine Calls.mono (hK.out _) ?_); rintro e w' ⟨rfl, hb2⟩; obtain ⟨g2, rfl⟩ := g1.next hb2)))
    go_ret
    exact ⟨rfl, hBw.trans (g2.h.mono (Nat.le_of_lt hsz))⟩
  · skip
    have hS : Hid (Calls Try.prog 14 #[.agg #[.int .i64 s.space, .int .i64 s.start, .int .i64 s.elo, .int .i64 s.ehi, rv, dv]] W fun e w' => e = .returned (.bool true) ∧ Below W.heap.size W w') := lawSmallT W (hs.mono hBw) hsm
    replace hsm := Lib.hid hsm
    cases hli : decide (noms.length ≤ 25)
    · skip
      have hL : Hid (∀ g : Grow W, Calls Try.prog 15 #[nv] g.x fun e w' => e = .returned (.bool false) ∧ Below g.x.heap.size g.x w') := fun g => (lawListed g.x (hng g) hli).mono fun _ _ ⟨h1, h2⟩ => ⟨h1, by rw [h2]; exact Below.refl _ _⟩
      replace hli := Lib.hid hli
      clear hng hlg hog
      clear hsg
      go_enter Try.func13, Try.ntmps13
      go_wp2_with (first
        | (go_at_call 14; ((with_reducible refine Calls.mono (hS.out) ?_); rintro e w' ⟨rfl, hb1⟩; obtain ⟨g1, rfl⟩ : ∃ g1 : Grow W, w' = g1.x := ⟨⟨w', hb1⟩, rfl⟩))
        | (go_at_call 15; ((with_reducible refine Calls.mono (hL.out g1) ?_); rintro e w' ⟨rfl, hb2⟩; obtain ⟨g2, rfl⟩ := g1.next hb2))
        | (go_at_call 16; ((with_reducible refine Calls.mono (hK.out _) ?_); rintro e w' ⟨rfl, hb3⟩; obtain ⟨g3, rfl⟩ := g2.next hb3)))
      go_ret
      exact ⟨rfl, hBw.trans (g3.h.mono (Nat.le_of_lt hsz))⟩
    · skip
      have hL : Hid (∀ g : Grow W, Calls Try.prog 15 #[nv] g.x fun e w' => e = .returned (.bool true) ∧ Below g.x.heap.size g.x w') := fun g => (lawListed g.x (hng g) hli).mono fun _ _ ⟨h1, h2⟩ => ⟨h1, by rw [h2]; exact Below.refl _ _⟩
      replace hli := Lib.hid hli
      cases hlo : decide (other.length ≤ 25)
      · skip
        have hO : Hid (∀ g : Grow W, Calls Try.prog 15 #[ov] g.x fun e w' => e = .returned (.bool false) ∧ Below g.x.heap.size g.x w') := fun g => (lawListed g.x (hog g) hlo).mono fun _ _ ⟨h1, h2⟩ => ⟨h1, by rw [h2]; exact Below.refl _ _⟩
        replace hlo := Lib.hid hlo
        clear hng hlg hog
        clear hsg
        go_enter Try.func13, Try.ntmps13
        go_wp2_with (first
          | (go_at_call 14; ((with_reducible refine Calls.mono (hS.out) ?_); rintro e w' ⟨rfl, hb1⟩; obtain ⟨g1, rfl⟩ : ∃ g1 : Grow W, w' = g1.x := ⟨⟨w', hb1⟩, rfl⟩))
          | (go_at_call 15; ((with_reducible refine Calls.mono (hL.out g1) ?_); rintro e w' ⟨rfl, hb2⟩; obtain ⟨g2, rfl⟩ := g1.next hb2))
          | (go_at_call 15; ((with_reducible refine Calls.mono (hO.out g2) ?_); rintro e w' ⟨rfl, hb3⟩; obtain ⟨g3, rfl⟩ := g2.next hb3))
          | (go_at_call 16; ((with_reducible refine Calls.mono (hK.out _) ?_); rintro e w' ⟨rfl, hb4⟩; obtain ⟨g4, rfl⟩ := g3.next hb4)))
        go_ret
        exact ⟨rfl, hBw.trans (g4.h.mono (Nat.le_of_lt hsz))⟩
      · skip
        have hO : Hid (∀ g : Grow W, Calls Try.prog 15 #[ov] g.x fun e w' => e = .returned (.bool true) ∧ Below g.x.heap.size g.x w') := fun g => (lawListed g.x (hog g) hlo).mono fun _ _ ⟨h1, h2⟩ => ⟨h1, by rw [h2]; exact Below.refl _ _⟩
        replace hlo := Lib.hid hlo
        cases hl2 : listed2B l
        · skip
          have hM : Hid (∀ g : Grow W, Calls Try.prog 41 #[vv] g.x fun e w' => e = .returned (.bool false) ∧ Below g.x.heap.size g.x w') := fun g => (lawListed2 g.x (hlg g) hl2).mono fun _ _ ⟨h1, h2⟩ => ⟨h1, by rw [h2]; exact Below.refl _ _⟩
          replace hl2 := Lib.hid hl2
          clear hng hlg hog
          clear hsg
          go_enter Try.func13, Try.ntmps13
          go_wp2_with (first
            | (go_at_call 14; ((with_reducible refine Calls.mono (hS.out) ?_); rintro e w' ⟨rfl, hb1⟩; obtain ⟨g1, rfl⟩ : ∃ g1 : Grow W, w' = g1.x := ⟨⟨w', hb1⟩, rfl⟩))
            | (go_at_call 15; ((with_reducible refine Calls.mono (hL.out g1) ?_); rintro e w' ⟨rfl, hb2⟩; obtain ⟨g2, rfl⟩ := g1.next hb2))
            | (go_at_call 15; ((with_reducible refine Calls.mono (hO.out g2) ?_); rintro e w' ⟨rfl, hb3⟩; obtain ⟨g3, rfl⟩ := g2.next hb3))
            | (go_at_call 41; ((with_reducible refine Calls.mono (hM.out g3) ?_); rintro e w' ⟨rfl, hb4⟩; obtain ⟨g4, rfl⟩ := g3.next hb4))
            | (go_at_call 16; ((with_reducible refine Calls.mono (hK.out _) ?_); rintro e w' ⟨rfl, hb5⟩; obtain ⟨g5, rfl⟩ := g4.next hb5)))
          go_ret
          exact ⟨rfl, hBw.trans (g5.h.mono (Nat.le_of_lt hsz))⟩
        · skip
          have hM : Hid (∀ g : Grow W, Calls Try.prog 41 #[vv] g.x fun e w' => e = .returned (.bool true) ∧ Below g.x.heap.size g.x w') := fun g => (lawListed2 g.x (hlg g) hl2).mono fun _ _ ⟨h1, h2⟩ => ⟨h1, by rw [h2]; exact Below.refl _ _⟩
          replace hl2 := Lib.hid hl2
          cases hvb : Sea.validB s
          · skip
            have hR : Hid (∀ g : Grow W, Calls Try.prog 19 #[.agg #[.int .i64 s.space, .int .i64 s.start, .int .i64 s.elo, .int .i64 s.ehi, rv, dv]] g.x fun e w' => e = .returned (.bool false) ∧ Below g.x.heap.size g.x w') := fun g => refSeasonT g.x (hsg g) hvb
            replace hvb := Lib.hid hvb
            clear hng hlg hog
            clear hsg
            go_enter Try.func13, Try.ntmps13
            go_wp2_with (first
              | (go_at_call 14; ((with_reducible refine Calls.mono (hS.out) ?_); rintro e w' ⟨rfl, hb1⟩; obtain ⟨g1, rfl⟩ : ∃ g1 : Grow W, w' = g1.x := ⟨⟨w', hb1⟩, rfl⟩))
              | (go_at_call 15; ((with_reducible refine Calls.mono (hL.out g1) ?_); rintro e w' ⟨rfl, hb2⟩; obtain ⟨g2, rfl⟩ := g1.next hb2))
              | (go_at_call 15; ((with_reducible refine Calls.mono (hO.out g2) ?_); rintro e w' ⟨rfl, hb3⟩; obtain ⟨g3, rfl⟩ := g2.next hb3))
              | (go_at_call 41; ((with_reducible refine Calls.mono (hM.out g3) ?_); rintro e w' ⟨rfl, hb4⟩; obtain ⟨g4, rfl⟩ := g3.next hb4))
              | (go_at_call 19; ((with_reducible refine Calls.mono (hR.out g4) ?_); rintro e w' ⟨rfl, hb5⟩; obtain ⟨g5, rfl⟩ := g4.next hb5))
              | (go_at_call 16; ((with_reducible refine Calls.mono (hK.out _) ?_); rintro e w' ⟨rfl, hb6⟩; obtain ⟨g6, rfl⟩ := g5.next hb6)))
            go_ret
            exact ⟨rfl, hBw.trans (g6.h.mono (Nat.le_of_lt hsz))⟩
          · skip
            have hR : Hid (∀ g : Grow W, Calls Try.prog 19 #[.agg #[.int .i64 s.space, .int .i64 s.start, .int .i64 s.elo, .int .i64 s.ehi, rv, dv]] g.x fun e w' => e = .returned (.bool true) ∧ Below g.x.heap.size g.x w') := fun g => refSeasonT g.x (hsg g) hvb
            cases hno : s.nomsB noms
            · skip
              have hN : Hid (∀ g : Grow W, Calls Try.prog 20 #[.agg #[.int .i64 s.space, .int .i64 s.start, .int .i64 s.elo, .int .i64 s.ehi, rv, dv], nv] g.x fun e w' => e = .returned (.bool false) ∧ Below g.x.heap.size g.x w') := fun g => refNomsT g.x (hsg g) (hng g) hno
              replace hno := Lib.hid hno
              clear hng hlg hog
              clear hsg
              go_enter Try.func13, Try.ntmps13
              go_wp2_with (first
                | (go_at_call 14; ((with_reducible refine Calls.mono (hS.out) ?_); rintro e w' ⟨rfl, hb1⟩; obtain ⟨g1, rfl⟩ : ∃ g1 : Grow W, w' = g1.x := ⟨⟨w', hb1⟩, rfl⟩))
                | (go_at_call 15; ((with_reducible refine Calls.mono (hL.out g1) ?_); rintro e w' ⟨rfl, hb2⟩; obtain ⟨g2, rfl⟩ := g1.next hb2))
                | (go_at_call 15; ((with_reducible refine Calls.mono (hO.out g2) ?_); rintro e w' ⟨rfl, hb3⟩; obtain ⟨g3, rfl⟩ := g2.next hb3))
                | (go_at_call 41; ((with_reducible refine Calls.mono (hM.out g3) ?_); rintro e w' ⟨rfl, hb4⟩; obtain ⟨g4, rfl⟩ := g3.next hb4))
                | (go_at_call 19; ((with_reducible refine Calls.mono (hR.out g4) ?_); rintro e w' ⟨rfl, hb5⟩; obtain ⟨g5, rfl⟩ := g4.next hb5))
                | (go_at_call 20; ((with_reducible refine Calls.mono (hN.out g5) ?_); rintro e w' ⟨rfl, hb6⟩; obtain ⟨g6, rfl⟩ := g5.next hb6))
                | (go_at_call 16; ((with_reducible refine Calls.mono (hK.out _) ?_); rintro e w' ⟨rfl, hb7⟩; obtain ⟨g7, rfl⟩ := g6.next hb7)))
              go_ret
              exact ⟨rfl, hBw.trans (g7.h.mono (Nat.le_of_lt hsz))⟩
            · skip
              have hN : Hid (∀ g : Grow W, Calls Try.prog 20 #[.agg #[.int .i64 s.space, .int .i64 s.start, .int .i64 s.elo, .int .i64 s.ehi, rv, dv], nv] g.x fun e w' => e = .returned (.bool true) ∧ Below g.x.heap.size g.x w') := fun g => refNomsT g.x (hsg g) (hng g) hno
              cases hva : valsB s l
              · skip
                have hV : Hid (∀ g : Grow W, Calls Try.prog 43 #[.agg #[.int .i64 s.space, .int .i64 s.start, .int .i64 s.elo, .int .i64 s.ehi, rv, dv], vv] g.x fun e w' => e = .returned (.bool false) ∧ Below g.x.heap.size g.x w') := fun g => refValuesT g.x (hsg g) (hlg g) (Sea.ok_of_valid hvb) hva
                replace hva := Lib.hid hva
                clear hng hlg hog
                clear hsg
                go_enter Try.func13, Try.ntmps13
                go_wp2_with (first
                  | (go_at_call 14; ((with_reducible refine Calls.mono (hS.out) ?_); rintro e w' ⟨rfl, hb1⟩; obtain ⟨g1, rfl⟩ : ∃ g1 : Grow W, w' = g1.x := ⟨⟨w', hb1⟩, rfl⟩))
                  | (go_at_call 15; ((with_reducible refine Calls.mono (hL.out g1) ?_); rintro e w' ⟨rfl, hb2⟩; obtain ⟨g2, rfl⟩ := g1.next hb2))
                  | (go_at_call 15; ((with_reducible refine Calls.mono (hO.out g2) ?_); rintro e w' ⟨rfl, hb3⟩; obtain ⟨g3, rfl⟩ := g2.next hb3))
                  | (go_at_call 41; ((with_reducible refine Calls.mono (hM.out g3) ?_); rintro e w' ⟨rfl, hb4⟩; obtain ⟨g4, rfl⟩ := g3.next hb4))
                  | (go_at_call 19; ((with_reducible refine Calls.mono (hR.out g4) ?_); rintro e w' ⟨rfl, hb5⟩; obtain ⟨g5, rfl⟩ := g4.next hb5))
                  | (go_at_call 20; ((with_reducible refine Calls.mono (hN.out g5) ?_); rintro e w' ⟨rfl, hb6⟩; obtain ⟨g6, rfl⟩ := g5.next hb6))
                  | (go_at_call 43; ((with_reducible refine Calls.mono (hV.out g6) ?_); rintro e w' ⟨rfl, hb7⟩; obtain ⟨g7, rfl⟩ := g6.next hb7))
                  | (go_at_call 16; ((with_reducible refine Calls.mono (hK.out _) ?_); rintro e w' ⟨rfl, hb8⟩; obtain ⟨g8, rfl⟩ := g7.next hb8)))
                go_ret
                exact ⟨rfl, hBw.trans (g8.h.mono (Nat.le_of_lt hsz))⟩
              · skip
                have hV : Hid (∀ g : Grow W, Calls Try.prog 43 #[.agg #[.int .i64 s.space, .int .i64 s.start, .int .i64 s.elo, .int .i64 s.ehi, rv, dv], vv] g.x fun e w' => e = .returned (.bool true) ∧ Below g.x.heap.size g.x w') := fun g => refValuesT g.x (hsg g) (hlg g) (Sea.ok_of_valid hvb) hva
                cases hpl : planB s other
                · skip
                  have hQ : Hid (∀ g : Grow W, Calls Try.prog 46 #[.agg #[.int .i64 s.space, .int .i64 s.start, .int .i64 s.elo, .int .i64 s.ehi, rv, dv], ov] g.x fun e w' => e = .returned (.bool false) ∧ Below g.x.heap.size g.x w') := fun g => refPlanT g.x (hsg g) (hog g) hpl
                  replace hpl := Lib.hid hpl
                  clear hng hlg hog
                  clear hsg
                  go_enter Try.func13, Try.ntmps13
                  go_wp2_with (first
                    | (go_at_call 14; ((with_reducible refine Calls.mono (hS.out) ?_); rintro e w' ⟨rfl, hb1⟩; obtain ⟨g1, rfl⟩ : ∃ g1 : Grow W, w' = g1.x := ⟨⟨w', hb1⟩, rfl⟩))
                    | (go_at_call 15; ((with_reducible refine Calls.mono (hL.out g1) ?_); rintro e w' ⟨rfl, hb2⟩; obtain ⟨g2, rfl⟩ := g1.next hb2))
                    | (go_at_call 15; ((with_reducible refine Calls.mono (hO.out g2) ?_); rintro e w' ⟨rfl, hb3⟩; obtain ⟨g3, rfl⟩ := g2.next hb3))
                    | (go_at_call 41; ((with_reducible refine Calls.mono (hM.out g3) ?_); rintro e w' ⟨rfl, hb4⟩; obtain ⟨g4, rfl⟩ := g3.next hb4))
                    | (go_at_call 19; ((with_reducible refine Calls.mono (hR.out g4) ?_); rintro e w' ⟨rfl, hb5⟩; obtain ⟨g5, rfl⟩ := g4.next hb5))
                    | (go_at_call 20; ((with_reducible refine Calls.mono (hN.out g5) ?_); rintro e w' ⟨rfl, hb6⟩; obtain ⟨g6, rfl⟩ := g5.next hb6))
                    | (go_at_call 43; ((with_reducible refine Calls.mono (hV.out g6) ?_); rintro e w' ⟨rfl, hb7⟩; obtain ⟨g7, rfl⟩ := g6.next hb7))
                    | (go_at_call 46; ((with_reducible refine Calls.mono (hQ.out g7) ?_); rintro e w' ⟨rfl, hb8⟩; obtain ⟨g8, rfl⟩ := g7.next hb8))
                    | (go_at_call 16; ((with_reducible refine Calls.mono (hK.out _) ?_); rintro e w' ⟨rfl, hb9⟩; obtain ⟨g9, rfl⟩ := g8.next hb9)))
                  go_ret
                  exact ⟨rfl, hBw.trans (g9.h.mono (Nat.le_of_lt hsz))⟩
                · skip
                  have hQ : Hid (∀ g : Grow W, Calls Try.prog 46 #[.agg #[.int .i64 s.space, .int .i64 s.start, .int .i64 s.elo, .int .i64 s.ehi, rv, dv], ov] g.x fun e w' => e = .returned (.bool true) ∧ Below g.x.heap.size g.x w') := fun g => refPlanT g.x (hsg g) (hog g) hpl
                  have ok := Sea.ok_of_valid hvb
                  have hP : Hid (∀ g : Grow W, Calls Try.prog 18 #[.agg #[.int .i64 s.space, .int .i64 s.start, .int .i64 s.elo, .int .i64 s.ehi, rv, dv], nv] g.x fun e w' => (∃ v, e = .returned (.tuple #[v, .int .i64 0]) ∧ ListsAt w' v (s.proof noms)) ∧ Below g.x.heap.size g.x w') := fun g => progProofT g.x (hsg g) (hng g) hvb hno
                  have hU : Hid (∀ g : Grow W, ∀ v, ListsAt g.x v (s.proof noms) → Calls Try.prog 43 #[.agg #[.int .i64 s.space, .int .i64 s.start, .int .i64 s.elo, .int .i64 s.ehi, rv, dv], v] g.x fun e w' => e = .returned (.bool true) ∧ Below g.x.heap.size g.x w') := fun g v hv => refValuesT g.x (hsg g) hv ok (proof_valsB ok noms)
                  obtain ⟨z, hz⟩ : ∃ z, Sea.at0 (Sea.lstAt l 0) s.start.toNat = z := ⟨_, rfl⟩
                  by_cases hne : bestCost s noms = Sea.never
                  · skip
                    have hA : Hid (∀ g : Grow W, Calls Try.prog 17 #[.agg #[.int .i64 s.space, .int .i64 s.start, .int .i64 s.elo, .int .i64 s.ehi, rv, dv], nv] g.x fun e w' => (∃ a cap, e = .returned (.tuple #[.slice a 0 cap, .int .i64 0, .int .i64 5]) ∧ IntsAt w' (.slice a 0 cap) []) ∧ Below g.x.heap.size g.x w') := fun g => progBestT g.x (hsg g) (hng g) (bestOf_none hvb hno hne)
                    have hX : Hid (∀ g : Grow W, ∀ v, ListsAt g.x v (s.proof noms) → Calls Try.prog 42 #[.agg #[.int .i64 s.space, .int .i64 s.start, .int .i64 s.elo, .int .i64 s.ehi, rv, dv], nv, v] g.x fun e w' => e = .returned (.tuple #[.int .i64 1000000000000000, .int .i64 0]) ∧ Below g.x.heap.size g.x w') := fun g v hv => progFloorT g.x (hsg g) (hng g) hv hvb hno (proof_valsB ok noms) (proof_fairB ok noms) (proof_floor s noms) (by simp [hne, Sea.never]) (by simp)
                    obtain ⟨q, c, d, r, hpo, hr1⟩ : ∃ q c d r, playOf s noms other = (q, c, d, r) ∧ r ≠ 1 := by
                      rcases play_two (noms := noms) hpl with h | ⟨h, -⟩
                      · exact h
                      · have := (best_le ok hpl h).2; omega
                    have hrb : (r != 1) = true := by simpa using hr1
                    replace hr1 := Lib.hid hr1
                    have hB : Hid (∀ g : Grow W, Calls Try.prog 45 #[.agg #[.int .i64 s.space, .int .i64 s.start, .int .i64 s.elo, .int .i64 s.ehi, rv, dv], nv, ov] g.x fun e w' => (∃ a cap, e = .returned (.tuple #[.slice a (q).length cap, .int .i64 c, .agg #[.int .i64 d, .int .i64 r], .int .i64 0]) ∧ IntsAt w' (.slice a (q).length cap) (q)) ∧ Below g.x.heap.size g.x w') := fun g => progPlayT g.x (hsg g) (hng g) (hog g) hvb hno hpl hpo
                    cases hfb : fairB s noms l
                    · skip
                      have hF : Hid (∀ g : Grow W, Calls Try.prog 42 #[.agg #[.int .i64 s.space, .int .i64 s.start, .int .i64 s.elo, .int .i64 s.ehi, rv, dv], nv, vv] g.x fun e w' => e = .returned (.tuple #[.int .i64 0, .int .i64 7]) ∧ Below g.x.heap.size g.x w') := fun g => progFloorT g.x (hsg g) (hng g) (hlg g) hvb hno hva hfb hz (by simp) (by simp)
                      replace hvb := Lib.hid hvb
                      replace hno := Lib.hid hno
                      replace hpl := Lib.hid hpl
                      replace hva := Lib.hid hva
                      replace hne := Lib.hid hne
                      replace hz := Lib.hid hz
                      replace hfb := Lib.hid hfb
                      replace hpo := Lib.hid hpo
                      clear hng hlg hog ok
                      clear hsg
                      go_enter Try.func13, Try.ntmps13
                      go_wp2_with (first
                        | (go_at_call 14; ((with_reducible refine Calls.mono (hS.out) ?_); rintro e w' ⟨rfl, hb1⟩; obtain ⟨g1, rfl⟩ : ∃ g1 : Grow W, w' = g1.x := ⟨⟨w', hb1⟩, rfl⟩))
                        | (go_at_call 15; ((with_reducible refine Calls.mono (hL.out g1) ?_); rintro e w' ⟨rfl, hb2⟩; obtain ⟨g2, rfl⟩ := g1.next hb2))
                        | (go_at_call 15; ((with_reducible refine Calls.mono (hO.out g2) ?_); rintro e w' ⟨rfl, hb3⟩; obtain ⟨g3, rfl⟩ := g2.next hb3))
                        | (go_at_call 41; ((with_reducible refine Calls.mono (hM.out g3) ?_); rintro e w' ⟨rfl, hb4⟩; obtain ⟨g4, rfl⟩ := g3.next hb4))
                        | (go_at_call 19; ((with_reducible refine Calls.mono (hR.out g4) ?_); rintro e w' ⟨rfl, hb5⟩; obtain ⟨g5, rfl⟩ := g4.next hb5))
                        | (go_at_call 20; ((with_reducible refine Calls.mono (hN.out g5) ?_); rintro e w' ⟨rfl, hb6⟩; obtain ⟨g6, rfl⟩ := g5.next hb6))
                        | (go_at_call 43; ((with_reducible refine Calls.mono (hV.out g6) ?_); rintro e w' ⟨rfl, hb7⟩; obtain ⟨g7, rfl⟩ := g6.next hb7))
                        | (go_at_call 46; ((with_reducible refine Calls.mono (hQ.out g7) ?_); rintro e w' ⟨rfl, hb8⟩; obtain ⟨g8, rfl⟩ := g7.next hb8))
                        | (go_at_call 18; ((with_reducible refine Calls.mono (hP.out g8) ?_); rintro e w' ⟨⟨pv, rfl, hpv⟩, hb9⟩; obtain ⟨g9, rfl⟩ := g8.next hb9))
                        | (go_at_call 17; ((with_reducible refine Calls.mono (hA.out g9) ?_); rintro e w' ⟨⟨pa, pcap, rfl, -⟩, hb10⟩; obtain ⟨g10, rfl⟩ := g9.next hb10))
                        | (go_at_call 43; ((with_reducible refine Calls.mono (hU.out g10 _ (hpv.mono hb10)) ?_); rintro e w' ⟨rfl, hb11⟩; obtain ⟨g11, rfl⟩ := g10.next hb11))
                        | (go_at_call 42; ((with_reducible refine Calls.mono (hX.out g11 _ (hpv.mono (below_tr hb10 hb11))) ?_); rintro e w' ⟨rfl, hb12⟩; obtain ⟨g12, rfl⟩ := g11.next hb12))
                        | (go_at_call 42; ((with_reducible refine Calls.mono (hF.out g12) ?_); rintro e w' ⟨rfl, hb13⟩; obtain ⟨g13, rfl⟩ := g12.next hb13))
                        | (go_at_call 45; ((with_reducible refine Calls.mono (hB.out g13) ?_); rintro e w' ⟨⟨oa, ocap, rfl, -⟩, hb14⟩; obtain ⟨g14, rfl⟩ := g13.next hb14); obtain ⟨g15, hg15⟩ := g14.alloc (.cells #[.int .i64 d, .int .i64 r] 74); have hnw15 := World.alloc_heap_new g14.x (.cells #[.int .i64 d, .int .i64 r] 74); rw [hg15] at hnw15; have hb15 : Below g14.x.heap.size g14.x g15.x := (by rw [← hg15]; exact below_al (Below.refl _ _) _); have dn15 := (row_cells hnw15).2.1; clear hnw15; have cx0 := dn15 0; have cx1 := dn15 1; simp only [List.getElem?_toArray, List.getElem?_cons_zero, List.getElem?_cons_succ] at cx0 cx1; clear dn15)
                        | (go_at_call 16; ((with_reducible refine Calls.mono (hK.out _) ?_); rintro e w' ⟨rfl, hb16⟩; obtain ⟨g16, rfl⟩ := g15.next hb16; have cx0 := kept_cell hb16 cx0; have cx1 := kept_cell hb16 cx1)))
                      go_ret
                      exact ⟨rfl, hBw.trans (g16.h.mono (Nat.le_of_lt hsz))⟩
                    · skip
                      have hF : Hid (∀ g : Grow W, Calls Try.prog 42 #[.agg #[.int .i64 s.space, .int .i64 s.start, .int .i64 s.elo, .int .i64 s.ehi, rv, dv], nv, vv] g.x fun e w' => e = .returned (.tuple #[.int .i64 z, .int .i64 0]) ∧ Below g.x.heap.size g.x w') := fun g => progFloorT g.x (hsg g) (hng g) (hlg g) hvb hno hva hfb hz (by simp) (by simp)
                      replace hvb := Lib.hid hvb
                      replace hno := Lib.hid hno
                      replace hpl := Lib.hid hpl
                      replace hva := Lib.hid hva
                      replace hne := Lib.hid hne
                      replace hz := Lib.hid hz
                      replace hfb := Lib.hid hfb
                      replace hpo := Lib.hid hpo
                      clear hng hlg hog ok
                      clear hsg
                      go_enter Try.func13, Try.ntmps13
                      go_wp2_with (first
                        | (go_at_call 14; ((with_reducible refine Calls.mono (hS.out) ?_); rintro e w' ⟨rfl, hb1⟩; obtain ⟨g1, rfl⟩ : ∃ g1 : Grow W, w' = g1.x := ⟨⟨w', hb1⟩, rfl⟩))
                        | (go_at_call 15; ((with_reducible refine Calls.mono (hL.out g1) ?_); rintro e w' ⟨rfl, hb2⟩; obtain ⟨g2, rfl⟩ := g1.next hb2))
                        | (go_at_call 15; ((with_reducible refine Calls.mono (hO.out g2) ?_); rintro e w' ⟨rfl, hb3⟩; obtain ⟨g3, rfl⟩ := g2.next hb3))
                        | (go_at_call 41; ((with_reducible refine Calls.mono (hM.out g3) ?_); rintro e w' ⟨rfl, hb4⟩; obtain ⟨g4, rfl⟩ := g3.next hb4))
                        | (go_at_call 19; ((with_reducible refine Calls.mono (hR.out g4) ?_); rintro e w' ⟨rfl, hb5⟩; obtain ⟨g5, rfl⟩ := g4.next hb5))
                        | (go_at_call 20; ((with_reducible refine Calls.mono (hN.out g5) ?_); rintro e w' ⟨rfl, hb6⟩; obtain ⟨g6, rfl⟩ := g5.next hb6))
                        | (go_at_call 43; ((with_reducible refine Calls.mono (hV.out g6) ?_); rintro e w' ⟨rfl, hb7⟩; obtain ⟨g7, rfl⟩ := g6.next hb7))
                        | (go_at_call 46; ((with_reducible refine Calls.mono (hQ.out g7) ?_); rintro e w' ⟨rfl, hb8⟩; obtain ⟨g8, rfl⟩ := g7.next hb8))
                        | (go_at_call 18; ((with_reducible refine Calls.mono (hP.out g8) ?_); rintro e w' ⟨⟨pv, rfl, hpv⟩, hb9⟩; obtain ⟨g9, rfl⟩ := g8.next hb9))
                        | (go_at_call 17; ((with_reducible refine Calls.mono (hA.out g9) ?_); rintro e w' ⟨⟨pa, pcap, rfl, -⟩, hb10⟩; obtain ⟨g10, rfl⟩ := g9.next hb10))
                        | (go_at_call 43; ((with_reducible refine Calls.mono (hU.out g10 _ (hpv.mono hb10)) ?_); rintro e w' ⟨rfl, hb11⟩; obtain ⟨g11, rfl⟩ := g10.next hb11))
                        | (go_at_call 42; ((with_reducible refine Calls.mono (hX.out g11 _ (hpv.mono (below_tr hb10 hb11))) ?_); rintro e w' ⟨rfl, hb12⟩; obtain ⟨g12, rfl⟩ := g11.next hb12))
                        | (go_at_call 42; ((with_reducible refine Calls.mono (hF.out g12) ?_); rintro e w' ⟨rfl, hb13⟩; obtain ⟨g13, rfl⟩ := g12.next hb13))
                        | (go_at_call 45; ((with_reducible refine Calls.mono (hB.out g13) ?_); rintro e w' ⟨⟨oa, ocap, rfl, -⟩, hb14⟩; obtain ⟨g14, rfl⟩ := g13.next hb14); obtain ⟨g15, hg15⟩ := g14.alloc (.cells #[.int .i64 d, .int .i64 r] 74); have hnw15 := World.alloc_heap_new g14.x (.cells #[.int .i64 d, .int .i64 r] 74); rw [hg15] at hnw15; have hb15 : Below g14.x.heap.size g14.x g15.x := (by rw [← hg15]; exact below_al (Below.refl _ _) _); have dn15 := (row_cells hnw15).2.1; clear hnw15; have cx0 := dn15 0; have cx1 := dn15 1; simp only [List.getElem?_toArray, List.getElem?_cons_zero, List.getElem?_cons_succ] at cx0 cx1; clear dn15)
                        | (go_at_call 16; ((with_reducible refine Calls.mono (hK.out _) ?_); rintro e w' ⟨rfl, hb16⟩; obtain ⟨g16, rfl⟩ := g15.next hb16; have cx0 := kept_cell hb16 cx0; have cx1 := kept_cell hb16 cx1)))
                      go_ret
                      exact ⟨rfl, hBw.trans (g16.h.mono (Nat.le_of_lt hsz))⟩
                  · skip
                    have hbst := bestOf_yes hvb hno hne
                    have hble := fun hF => (best_le ok (noms := noms) hpl hF).1
                    have hfle := fun hfb hF => fair_le ok (noms := noms) (l := l) hfb hpl hF
                    rw [hz] at hfle
                    have hbb : ∃ bc, bestCost s noms = bc := ⟨_, rfl⟩
                    have hflo := proof_floor s noms
                    generalize (planTo s noms s.days.length).1 = pl at *
                    obtain ⟨bc, hbc⟩ := hbb
                    rw [hbc] at hflo hble hbst
                    have hA : Hid (∀ g : Grow W, Calls Try.prog 17 #[.agg #[.int .i64 s.space, .int .i64 s.start, .int .i64 s.elo, .int .i64 s.ehi, rv, dv], nv] g.x fun e w' => (∃ a cap, e = .returned (.tuple #[.slice a pl.length cap, .int .i64 bc, .int .i64 0]) ∧ IntsAt w' (.slice a pl.length cap) pl) ∧ Below g.x.heap.size g.x w') := fun g => progBestT g.x (hsg g) (hng g) hbst
                    have hX : Hid (∀ g : Grow W, ∀ v, ListsAt g.x v (s.proof noms) → Calls Try.prog 42 #[.agg #[.int .i64 s.space, .int .i64 s.start, .int .i64 s.elo, .int .i64 s.ehi, rv, dv], nv, v] g.x fun e w' => e = .returned (.tuple #[.int .i64 bc, .int .i64 0]) ∧ Below g.x.heap.size g.x w') := fun g v hv => progFloorT g.x (hsg g) (hng g) hv hvb hno (proof_valsB ok noms) (proof_fairB ok noms) hflo (by simp) (by simp)
                    rcases play_two (noms := noms) hpl with ⟨q, c, d, r, hpo, hr1⟩ | ⟨hFt, hpo⟩
                    · skip
                      have hrb : (r != 1) = true := by simpa using hr1
                      replace hr1 := Lib.hid hr1
                      have hB : Hid (∀ g : Grow W, Calls Try.prog 45 #[.agg #[.int .i64 s.space, .int .i64 s.start, .int .i64 s.elo, .int .i64 s.ehi, rv, dv], nv, ov] g.x fun e w' => (∃ a cap, e = .returned (.tuple #[.slice a (q).length cap, .int .i64 c, .agg #[.int .i64 d, .int .i64 r], .int .i64 0]) ∧ IntsAt w' (.slice a (q).length cap) (q)) ∧ Below g.x.heap.size g.x w') := fun g => progPlayT g.x (hsg g) (hng g) (hog g) hvb hno hpl hpo
                      cases hfb : fairB s noms l
                      · skip
                        have hF : Hid (∀ g : Grow W, Calls Try.prog 42 #[.agg #[.int .i64 s.space, .int .i64 s.start, .int .i64 s.elo, .int .i64 s.ehi, rv, dv], nv, vv] g.x fun e w' => e = .returned (.tuple #[.int .i64 0, .int .i64 7]) ∧ Below g.x.heap.size g.x w') := fun g => progFloorT g.x (hsg g) (hng g) (hlg g) hvb hno hva hfb hz (by simp) (by simp)
                        replace hvb := Lib.hid hvb
                        replace hno := Lib.hid hno
                        replace hpl := Lib.hid hpl
                        replace hva := Lib.hid hva
                        replace hne := Lib.hid hne
                        replace hz := Lib.hid hz
                        replace hfb := Lib.hid hfb
                        replace hpo := Lib.hid hpo
                        replace hbst := Lib.hid hbst
                        replace hbc := Lib.hid hbc
                        replace hflo := Lib.hid hflo
                        clear hng hlg hog ok hble hfle
                        clear hsg
                        go_enter Try.func13, Try.ntmps13
                        go_wp2_with (first
                          | (go_at_call 14; ((with_reducible refine Calls.mono (hS.out) ?_); rintro e w' ⟨rfl, hb1⟩; obtain ⟨g1, rfl⟩ : ∃ g1 : Grow W, w' = g1.x := ⟨⟨w', hb1⟩, rfl⟩))
                          | (go_at_call 15; ((with_reducible refine Calls.mono (hL.out g1) ?_); rintro e w' ⟨rfl, hb2⟩; obtain ⟨g2, rfl⟩ := g1.next hb2))
                          | (go_at_call 15; ((with_reducible refine Calls.mono (hO.out g2) ?_); rintro e w' ⟨rfl, hb3⟩; obtain ⟨g3, rfl⟩ := g2.next hb3))
                          | (go_at_call 41; ((with_reducible refine Calls.mono (hM.out g3) ?_); rintro e w' ⟨rfl, hb4⟩; obtain ⟨g4, rfl⟩ := g3.next hb4))
                          | (go_at_call 19; ((with_reducible refine Calls.mono (hR.out g4) ?_); rintro e w' ⟨rfl, hb5⟩; obtain ⟨g5, rfl⟩ := g4.next hb5))
                          | (go_at_call 20; ((with_reducible refine Calls.mono (hN.out g5) ?_); rintro e w' ⟨rfl, hb6⟩; obtain ⟨g6, rfl⟩ := g5.next hb6))
                          | (go_at_call 43; ((with_reducible refine Calls.mono (hV.out g6) ?_); rintro e w' ⟨rfl, hb7⟩; obtain ⟨g7, rfl⟩ := g6.next hb7))
                          | (go_at_call 46; ((with_reducible refine Calls.mono (hQ.out g7) ?_); rintro e w' ⟨rfl, hb8⟩; obtain ⟨g8, rfl⟩ := g7.next hb8))
                          | (go_at_call 18; ((with_reducible refine Calls.mono (hP.out g8) ?_); rintro e w' ⟨⟨pv, rfl, hpv⟩, hb9⟩; obtain ⟨g9, rfl⟩ := g8.next hb9))
                          | (go_at_call 17; ((with_reducible refine Calls.mono (hA.out g9) ?_); rintro e w' ⟨⟨pa, pcap, rfl, -⟩, hb10⟩; obtain ⟨g10, rfl⟩ := g9.next hb10))
                          | (go_at_call 43; ((with_reducible refine Calls.mono (hU.out g10 _ (hpv.mono hb10)) ?_); rintro e w' ⟨rfl, hb11⟩; obtain ⟨g11, rfl⟩ := g10.next hb11))
                          | (go_at_call 42; ((with_reducible refine Calls.mono (hX.out g11 _ (hpv.mono (below_tr hb10 hb11))) ?_); rintro e w' ⟨rfl, hb12⟩; obtain ⟨g12, rfl⟩ := g11.next hb12))
                          | (go_at_call 42; ((with_reducible refine Calls.mono (hF.out g12) ?_); rintro e w' ⟨rfl, hb13⟩; obtain ⟨g13, rfl⟩ := g12.next hb13))
                          | (go_at_call 45; ((with_reducible refine Calls.mono (hB.out g13) ?_); rintro e w' ⟨⟨oa, ocap, rfl, -⟩, hb14⟩; obtain ⟨g14, rfl⟩ := g13.next hb14); obtain ⟨g15, hg15⟩ := g14.alloc (.cells #[.int .i64 d, .int .i64 r] 74); have hnw15 := World.alloc_heap_new g14.x (.cells #[.int .i64 d, .int .i64 r] 74); rw [hg15] at hnw15; have hb15 : Below g14.x.heap.size g14.x g15.x := (by rw [← hg15]; exact below_al (Below.refl _ _) _); have dn15 := (row_cells hnw15).2.1; clear hnw15; have cx0 := dn15 0; have cx1 := dn15 1; simp only [List.getElem?_toArray, List.getElem?_cons_zero, List.getElem?_cons_succ] at cx0 cx1; clear dn15)
                          | (go_at_call 16; ((with_reducible refine Calls.mono (hK.out _) ?_); rintro e w' ⟨rfl, hb16⟩; obtain ⟨g16, rfl⟩ := g15.next hb16; have cx0 := kept_cell hb16 cx0; have cx1 := kept_cell hb16 cx1)))
                        go_ret
                        exact ⟨rfl, hBw.trans (g16.h.mono (Nat.le_of_lt hsz))⟩
                      · skip
                        have hF : Hid (∀ g : Grow W, Calls Try.prog 42 #[.agg #[.int .i64 s.space, .int .i64 s.start, .int .i64 s.elo, .int .i64 s.ehi, rv, dv], nv, vv] g.x fun e w' => e = .returned (.tuple #[.int .i64 z, .int .i64 0]) ∧ Below g.x.heap.size g.x w') := fun g => progFloorT g.x (hsg g) (hng g) (hlg g) hvb hno hva hfb hz (by simp) (by simp)
                        replace hvb := Lib.hid hvb
                        replace hno := Lib.hid hno
                        replace hpl := Lib.hid hpl
                        replace hva := Lib.hid hva
                        replace hne := Lib.hid hne
                        replace hz := Lib.hid hz
                        replace hfb := Lib.hid hfb
                        replace hpo := Lib.hid hpo
                        replace hbst := Lib.hid hbst
                        replace hbc := Lib.hid hbc
                        replace hflo := Lib.hid hflo
                        clear hng hlg hog ok hble hfle
                        clear hsg
                        go_enter Try.func13, Try.ntmps13
                        go_wp2_with (first
                          | (go_at_call 14; ((with_reducible refine Calls.mono (hS.out) ?_); rintro e w' ⟨rfl, hb1⟩; obtain ⟨g1, rfl⟩ : ∃ g1 : Grow W, w' = g1.x := ⟨⟨w', hb1⟩, rfl⟩))
                          | (go_at_call 15; ((with_reducible refine Calls.mono (hL.out g1) ?_); rintro e w' ⟨rfl, hb2⟩; obtain ⟨g2, rfl⟩ := g1.next hb2))
                          | (go_at_call 15; ((with_reducible refine Calls.mono (hO.out g2) ?_); rintro e w' ⟨rfl, hb3⟩; obtain ⟨g3, rfl⟩ := g2.next hb3))
                          | (go_at_call 41; ((with_reducible refine Calls.mono (hM.out g3) ?_); rintro e w' ⟨rfl, hb4⟩; obtain ⟨g4, rfl⟩ := g3.next hb4))
                          | (go_at_call 19; ((with_reducible refine Calls.mono (hR.out g4) ?_); rintro e w' ⟨rfl, hb5⟩; obtain ⟨g5, rfl⟩ := g4.next hb5))
                          | (go_at_call 20; ((with_reducible refine Calls.mono (hN.out g5) ?_); rintro e w' ⟨rfl, hb6⟩; obtain ⟨g6, rfl⟩ := g5.next hb6))
                          | (go_at_call 43; ((with_reducible refine Calls.mono (hV.out g6) ?_); rintro e w' ⟨rfl, hb7⟩; obtain ⟨g7, rfl⟩ := g6.next hb7))
                          | (go_at_call 46; ((with_reducible refine Calls.mono (hQ.out g7) ?_); rintro e w' ⟨rfl, hb8⟩; obtain ⟨g8, rfl⟩ := g7.next hb8))
                          | (go_at_call 18; ((with_reducible refine Calls.mono (hP.out g8) ?_); rintro e w' ⟨⟨pv, rfl, hpv⟩, hb9⟩; obtain ⟨g9, rfl⟩ := g8.next hb9))
                          | (go_at_call 17; ((with_reducible refine Calls.mono (hA.out g9) ?_); rintro e w' ⟨⟨pa, pcap, rfl, -⟩, hb10⟩; obtain ⟨g10, rfl⟩ := g9.next hb10))
                          | (go_at_call 43; ((with_reducible refine Calls.mono (hU.out g10 _ (hpv.mono hb10)) ?_); rintro e w' ⟨rfl, hb11⟩; obtain ⟨g11, rfl⟩ := g10.next hb11))
                          | (go_at_call 42; ((with_reducible refine Calls.mono (hX.out g11 _ (hpv.mono (below_tr hb10 hb11))) ?_); rintro e w' ⟨rfl, hb12⟩; obtain ⟨g12, rfl⟩ := g11.next hb12))
                          | (go_at_call 42; ((with_reducible refine Calls.mono (hF.out g12) ?_); rintro e w' ⟨rfl, hb13⟩; obtain ⟨g13, rfl⟩ := g12.next hb13))
                          | (go_at_call 45; ((with_reducible refine Calls.mono (hB.out g13) ?_); rintro e w' ⟨⟨oa, ocap, rfl, -⟩, hb14⟩; obtain ⟨g14, rfl⟩ := g13.next hb14); obtain ⟨g15, hg15⟩ := g14.alloc (.cells #[.int .i64 d, .int .i64 r] 74); have hnw15 := World.alloc_heap_new g14.x (.cells #[.int .i64 d, .int .i64 r] 74); rw [hg15] at hnw15; have hb15 : Below g14.x.heap.size g14.x g15.x := (by rw [← hg15]; exact below_al (Below.refl _ _) _); have dn15 := (row_cells hnw15).2.1; clear hnw15; have cx0 := dn15 0; have cx1 := dn15 1; simp only [List.getElem?_toArray, List.getElem?_cons_zero, List.getElem?_cons_succ] at cx0 cx1; clear dn15)
                          | (go_at_call 16; ((with_reducible refine Calls.mono (hK.out _) ?_); rintro e w' ⟨rfl, hb16⟩; obtain ⟨g16, rfl⟩ := g15.next hb16; have cx0 := kept_cell hb16 cx0; have cx1 := kept_cell hb16 cx1)))
                        go_ret
                        exact ⟨rfl, hBw.trans (g16.h.mono (Nat.le_of_lt hsz))⟩
                    · skip
                      have hge := hble hFt
                      have hfl2 := fun h => hfle h hFt
                      clear hble hfle
                      generalize (playTo s noms other s.days.length).2.2 = c at *
                      generalize (playTo s noms other s.days.length).1 = q at *
                      replace hFt := Lib.hid hFt
                      have hB : Hid (∀ g : Grow W, Calls Try.prog 45 #[.agg #[.int .i64 s.space, .int .i64 s.start, .int .i64 s.elo, .int .i64 s.ehi, rv, dv], nv, ov] g.x fun e w' => (∃ a cap, e = .returned (.tuple #[.slice a (q).length cap, .int .i64 c, .agg #[.int .i64 0, .int .i64 1], .int .i64 0]) ∧ IntsAt w' (.slice a (q).length cap) (q)) ∧ Below g.x.heap.size g.x w') := fun g => progPlayT g.x (hsg g) (hng g) (hog g) hvb hno hpl hpo
                      cases hfb : fairB s noms l
                      · skip
                        have hF : Hid (∀ g : Grow W, Calls Try.prog 42 #[.agg #[.int .i64 s.space, .int .i64 s.start, .int .i64 s.elo, .int .i64 s.ehi, rv, dv], nv, vv] g.x fun e w' => e = .returned (.tuple #[.int .i64 0, .int .i64 7]) ∧ Below g.x.heap.size g.x w') := fun g => progFloorT g.x (hsg g) (hng g) (hlg g) hvb hno hva hfb hz (by simp) (by simp)
                        clear hfl2
                        replace hvb := Lib.hid hvb
                        replace hno := Lib.hid hno
                        replace hpl := Lib.hid hpl
                        replace hva := Lib.hid hva
                        replace hne := Lib.hid hne
                        replace hz := Lib.hid hz
                        replace hfb := Lib.hid hfb
                        replace hpo := Lib.hid hpo
                        replace hbst := Lib.hid hbst
                        replace hbc := Lib.hid hbc
                        replace hflo := Lib.hid hflo
                        clear hng hlg hog ok
                        clear hsg
                        go_enter Try.func13, Try.ntmps13
                        go_wp2_with (first
                          | (go_at_call 14; ((with_reducible refine Calls.mono (hS.out) ?_); rintro e w' ⟨rfl, hb1⟩; obtain ⟨g1, rfl⟩ : ∃ g1 : Grow W, w' = g1.x := ⟨⟨w', hb1⟩, rfl⟩))
                          | (go_at_call 15; ((with_reducible refine Calls.mono (hL.out g1) ?_); rintro e w' ⟨rfl, hb2⟩; obtain ⟨g2, rfl⟩ := g1.next hb2))
                          | (go_at_call 15; ((with_reducible refine Calls.mono (hO.out g2) ?_); rintro e w' ⟨rfl, hb3⟩; obtain ⟨g3, rfl⟩ := g2.next hb3))
                          | (go_at_call 41; ((with_reducible refine Calls.mono (hM.out g3) ?_); rintro e w' ⟨rfl, hb4⟩; obtain ⟨g4, rfl⟩ := g3.next hb4))
                          | (go_at_call 19; ((with_reducible refine Calls.mono (hR.out g4) ?_); rintro e w' ⟨rfl, hb5⟩; obtain ⟨g5, rfl⟩ := g4.next hb5))
                          | (go_at_call 20; ((with_reducible refine Calls.mono (hN.out g5) ?_); rintro e w' ⟨rfl, hb6⟩; obtain ⟨g6, rfl⟩ := g5.next hb6))
                          | (go_at_call 43; ((with_reducible refine Calls.mono (hV.out g6) ?_); rintro e w' ⟨rfl, hb7⟩; obtain ⟨g7, rfl⟩ := g6.next hb7))
                          | (go_at_call 46; ((with_reducible refine Calls.mono (hQ.out g7) ?_); rintro e w' ⟨rfl, hb8⟩; obtain ⟨g8, rfl⟩ := g7.next hb8))
                          | (go_at_call 18; ((with_reducible refine Calls.mono (hP.out g8) ?_); rintro e w' ⟨⟨pv, rfl, hpv⟩, hb9⟩; obtain ⟨g9, rfl⟩ := g8.next hb9))
                          | (go_at_call 17; ((with_reducible refine Calls.mono (hA.out g9) ?_); rintro e w' ⟨⟨pa, pcap, rfl, -⟩, hb10⟩; obtain ⟨g10, rfl⟩ := g9.next hb10))
                          | (go_at_call 43; ((with_reducible refine Calls.mono (hU.out g10 _ (hpv.mono hb10)) ?_); rintro e w' ⟨rfl, hb11⟩; obtain ⟨g11, rfl⟩ := g10.next hb11))
                          | (go_at_call 42; ((with_reducible refine Calls.mono (hX.out g11 _ (hpv.mono (below_tr hb10 hb11))) ?_); rintro e w' ⟨rfl, hb12⟩; obtain ⟨g12, rfl⟩ := g11.next hb12))
                          | (go_at_call 42; ((with_reducible refine Calls.mono (hF.out g12) ?_); rintro e w' ⟨rfl, hb13⟩; obtain ⟨g13, rfl⟩ := g12.next hb13))
                          | (go_at_call 45; ((with_reducible refine Calls.mono (hB.out g13) ?_); rintro e w' ⟨⟨oa, ocap, rfl, -⟩, hb14⟩; obtain ⟨g14, rfl⟩ := g13.next hb14); obtain ⟨g15, hg15⟩ := g14.alloc (.cells #[.int .i64 0, .int .i64 1] 74); have hnw15 := World.alloc_heap_new g14.x (.cells #[.int .i64 0, .int .i64 1] 74); rw [hg15] at hnw15; have hb15 : Below g14.x.heap.size g14.x g15.x := (by rw [← hg15]; exact below_al (Below.refl _ _) _); have dn15 := (row_cells hnw15).2.1; clear hnw15; have cx0 := dn15 0; have cx1 := dn15 1; simp only [List.getElem?_toArray, List.getElem?_cons_zero, List.getElem?_cons_succ] at cx0 cx1; clear dn15)
                          | (go_at_call 16; ((with_reducible refine Calls.mono (hK.out _) ?_); rintro e w' ⟨rfl, hb16⟩; obtain ⟨g16, rfl⟩ := g15.next hb16; have cx0 := kept_cell hb16 cx0; have cx1 := kept_cell hb16 cx1)))
                        go_ret
                        exact ⟨rfl, hBw.trans (g16.h.mono (Nat.le_of_lt hsz))⟩
                      · skip
                        have hF : Hid (∀ g : Grow W, Calls Try.prog 42 #[.agg #[.int .i64 s.space, .int .i64 s.start, .int .i64 s.elo, .int .i64 s.ehi, rv, dv], nv, vv] g.x fun e w' => e = .returned (.tuple #[.int .i64 z, .int .i64 0]) ∧ Below g.x.heap.size g.x w') := fun g => progFloorT g.x (hsg g) (hng g) (hlg g) hvb hno hva hfb hz (by simp) (by simp)
                        obtain ⟨hz1, hz2⟩ := hfl2 hfb
                        have hz3 : z < 1000000000000000 := hz2
                        clear hfl2
                        replace hvb := Lib.hid hvb
                        replace hno := Lib.hid hno
                        replace hpl := Lib.hid hpl
                        replace hva := Lib.hid hva
                        replace hne := Lib.hid hne
                        replace hz := Lib.hid hz
                        replace hfb := Lib.hid hfb
                        replace hpo := Lib.hid hpo
                        replace hbst := Lib.hid hbst
                        replace hbc := Lib.hid hbc
                        replace hflo := Lib.hid hflo
                        clear hng hlg hog ok
                        clear hsg
                        go_enter Try.func13, Try.ntmps13
                        go_wp2_with (first
                          | (go_at_call 14; ((with_reducible refine Calls.mono (hS.out) ?_); rintro e w' ⟨rfl, hb1⟩; obtain ⟨g1, rfl⟩ : ∃ g1 : Grow W, w' = g1.x := ⟨⟨w', hb1⟩, rfl⟩))
                          | (go_at_call 15; ((with_reducible refine Calls.mono (hL.out g1) ?_); rintro e w' ⟨rfl, hb2⟩; obtain ⟨g2, rfl⟩ := g1.next hb2))
                          | (go_at_call 15; ((with_reducible refine Calls.mono (hO.out g2) ?_); rintro e w' ⟨rfl, hb3⟩; obtain ⟨g3, rfl⟩ := g2.next hb3))
                          | (go_at_call 41; ((with_reducible refine Calls.mono (hM.out g3) ?_); rintro e w' ⟨rfl, hb4⟩; obtain ⟨g4, rfl⟩ := g3.next hb4))
                          | (go_at_call 19; ((with_reducible refine Calls.mono (hR.out g4) ?_); rintro e w' ⟨rfl, hb5⟩; obtain ⟨g5, rfl⟩ := g4.next hb5))
                          | (go_at_call 20; ((with_reducible refine Calls.mono (hN.out g5) ?_); rintro e w' ⟨rfl, hb6⟩; obtain ⟨g6, rfl⟩ := g5.next hb6))
                          | (go_at_call 43; ((with_reducible refine Calls.mono (hV.out g6) ?_); rintro e w' ⟨rfl, hb7⟩; obtain ⟨g7, rfl⟩ := g6.next hb7))
                          | (go_at_call 46; ((with_reducible refine Calls.mono (hQ.out g7) ?_); rintro e w' ⟨rfl, hb8⟩; obtain ⟨g8, rfl⟩ := g7.next hb8))
                          | (go_at_call 18; ((with_reducible refine Calls.mono (hP.out g8) ?_); rintro e w' ⟨⟨pv, rfl, hpv⟩, hb9⟩; obtain ⟨g9, rfl⟩ := g8.next hb9))
                          | (go_at_call 17; ((with_reducible refine Calls.mono (hA.out g9) ?_); rintro e w' ⟨⟨pa, pcap, rfl, -⟩, hb10⟩; obtain ⟨g10, rfl⟩ := g9.next hb10))
                          | (go_at_call 43; ((with_reducible refine Calls.mono (hU.out g10 _ (hpv.mono hb10)) ?_); rintro e w' ⟨rfl, hb11⟩; obtain ⟨g11, rfl⟩ := g10.next hb11))
                          | (go_at_call 42; ((with_reducible refine Calls.mono (hX.out g11 _ (hpv.mono (below_tr hb10 hb11))) ?_); rintro e w' ⟨rfl, hb12⟩; obtain ⟨g12, rfl⟩ := g11.next hb12))
                          | (go_at_call 42; ((with_reducible refine Calls.mono (hF.out g12) ?_); rintro e w' ⟨rfl, hb13⟩; obtain ⟨g13, rfl⟩ := g12.next hb13))
                          | (go_at_call 45; ((with_reducible refine Calls.mono (hB.out g13) ?_); rintro e w' ⟨⟨oa, ocap, rfl, -⟩, hb14⟩; obtain ⟨g14, rfl⟩ := g13.next hb14); obtain ⟨g15, hg15⟩ := g14.alloc (.cells #[.int .i64 0, .int .i64 1] 74); have hnw15 := World.alloc_heap_new g14.x (.cells #[.int .i64 0, .int .i64 1] 74); rw [hg15] at hnw15; have hb15 : Below g14.x.heap.size g14.x g15.x := (by rw [← hg15]; exact below_al (Below.refl _ _) _); have dn15 := (row_cells hnw15).2.1; clear hnw15; have cx0 := dn15 0; have cx1 := dn15 1; simp only [List.getElem?_toArray, List.getElem?_cons_zero, List.getElem?_cons_succ] at cx0 cx1; clear dn15)
                          | (go_at_call 16; ((with_reducible refine Calls.mono (hK.out _) ?_); rintro e w' ⟨rfl, hb16⟩; obtain ⟨g16, rfl⟩ := g15.next hb16; have cx0 := kept_cell hb16 cx0; have cx1 := kept_cell hb16 cx1)))
                        go_ret
                        exact ⟨rfl, hBw.trans (g16.h.mono (Nat.le_of_lt hsz))⟩
end Go.Proofs.Ytacajmpggjgaiaa
