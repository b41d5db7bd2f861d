/- Walks: the law of the safe fills. -/
import Derived.Test.YtacajmpggjgaiaaR7
import Derived.Test.YtacajmpggjgaiaaS1
set_option linter.unusedVariables false
set_option linter.unusedSimpArgs false
namespace Go.Proofs.Ytacajmpggjgaiaa
open Go.RowKit Go.Sd

theorem progSafeT {sv : Value} {s : Sea.S} (w : World) (hs : SeasonAt w sv s) (ht : Sea.validB s = true) :
    Calls Try.prog 25 #[sv] w fun e w' => (∃ v, e = .returned (.tuple #[v, .int .i64 0]) ∧ SpanListsAt w' v (safeRows s)) ∧ Below w.heap.size w w' :=
  (progSafe sv s w hs ht).mono fun e w' ⟨v, he, ho, hb⟩ => ⟨⟨v, he, ho.at⟩, hb⟩
theorem refSameSpansT {av bv : Value} {a : List (List Sea.Span)} (w : World) (ha : SpanListsAt w av a) (hb : SpanListsAt w bv a) :
    Calls Try.prog 26 #[av, bv] w fun e w' => e = .returned (.bool true) ∧ Below w.heap.size w w' := by
  have := refSameSpans av bv a a w ha hb
  simpa using this

set_option maxRecDepth 100000 in
set_option maxHeartbeats 16000000 in
/-- The law of the safe fills. -/
theorem lawSafes (sv : Value) (s : Sea.S) (w : World) (hs : SeasonAt w sv s) :
    Calls Try.prog 4 #[sv] w fun e w' => e = .returned (.bool true) ∧ Below w.heap.size w w' := by
  have hs' := hs
  obtain ⟨rv, dv, rfl, hr, hd⟩ := hs'
  obtain ⟨W, hW⟩ : ∃ W, w.alloc (sBox s rv dv) = W := ⟨_, rfl⟩
  obtain ⟨hsz, hBw, q0, q1, q2, q3, q4, q5⟩ := box_season hW
  have hg := grow_cell W
  have hK : Hid (∀ (w : World), Calls Try.prog 16 #[] w fun e w' => e = .returned (.bool true) ∧ Below w.heap.size w w') := progKnown
  have hsg : ∀ g : Grow W, SeasonAt g.x (.agg #[.int .i64 s.space, .int .i64 s.start, .int .i64 s.elo, .int .i64 s.ehi, rv, dv]) s := fun g => (hs.mono hBw).mono g.h
  cases hsm : smallB s
  · skip
    have hS : Hid (Calls Try.prog 14 #[.agg #[.int .i64 s.space, .int .i64 s.start, .int .i64 s.elo, .int .i64 s.ehi, rv, dv]] W fun e w' => e = .returned (.bool false) ∧ Below W.heap.size W w') := lawSmallT W (hs.mono hBw) hsm
    replace hsm := Lib.hid hsm
    clear hsg
    go_enter Try.func4, Try.ntmps4
    go_wp2_with (first
      | (go_at_call 14; ((with_reducible refine Calls.mono (hS.out) ?_); rintro e w' ⟨rfl, hb1⟩; obtain ⟨g1, rfl⟩ : ∃ g1 : Grow W, w' = g1.x := ⟨⟨w', hb1⟩, rfl⟩))
      | (go_at_call 16; ((with_reducible refine Calls.mono (hK.out _) ?_); rintro e w' ⟨rfl, hb2⟩; obtain ⟨g2, rfl⟩ := g1.next hb2)))
    go_ret
    exact ⟨rfl, hBw.trans (g2.h.mono (Nat.le_of_lt hsz))⟩
  · skip
    have hS : Hid (Calls Try.prog 14 #[.agg #[.int .i64 s.space, .int .i64 s.start, .int .i64 s.elo, .int .i64 s.ehi, rv, dv]] W fun e w' => e = .returned (.bool true) ∧ Below W.heap.size W w') := lawSmallT W (hs.mono hBw) hsm
    replace hsm := Lib.hid hsm
    cases hvb : Sea.validB s
    · skip
      have hR : Hid (∀ g : Grow W, Calls Try.prog 19 #[.agg #[.int .i64 s.space, .int .i64 s.start, .int .i64 s.elo, .int .i64 s.ehi, rv, dv]] g.x fun e w' => e = .returned (.bool false) ∧ Below g.x.heap.size g.x w') := fun g => refSeasonT g.x (hsg g) hvb
      have hA : Hid (∀ g : Grow W, Calls Try.prog 25 #[.agg #[.int .i64 s.space, .int .i64 s.start, .int .i64 s.elo, .int .i64 s.ehi, rv, dv]] g.x fun e w' => e = .returned (.tuple #[.slice none 0 0, .int .i64 2]) ∧ Below g.x.heap.size g.x w') := fun g => progSafeNo _ s g.x (hsg g) hvb
      replace hvb := Lib.hid hvb
      clear hsg
      go_enter Try.func4, Try.ntmps4
      go_wp2_with (first
        | (go_at_call 14; ((with_reducible refine Calls.mono (hS.out) ?_); rintro e w' ⟨rfl, hb1⟩; obtain ⟨g1, rfl⟩ : ∃ g1 : Grow W, w' = g1.x := ⟨⟨w', hb1⟩, rfl⟩))
        | (go_at_call 25; ((with_reducible refine Calls.mono (hA.out g1) ?_); rintro e w' ⟨rfl, hb2⟩; obtain ⟨g2, rfl⟩ := g1.next hb2))
        | (go_at_call 19; ((with_reducible refine Calls.mono (hR.out g2) ?_); rintro e w' ⟨rfl, hb3⟩; obtain ⟨g3, rfl⟩ := g2.next hb3))
        | (go_at_call 16; ((with_reducible refine Calls.mono (hK.out _) ?_); rintro e w' ⟨rfl, hb4⟩; obtain ⟨g4, rfl⟩ := g3.next hb4)))
      go_ret
      exact ⟨rfl, hBw.trans (g4.h.mono (Nat.le_of_lt hsz))⟩
    · skip
      have hR : Hid (∀ g : Grow W, Calls Try.prog 19 #[.agg #[.int .i64 s.space, .int .i64 s.start, .int .i64 s.elo, .int .i64 s.ehi, rv, dv]] g.x fun e w' => e = .returned (.bool true) ∧ Below g.x.heap.size g.x w') := fun g => refSeasonT g.x (hsg g) hvb
      have ok := Sea.ok_of_valid hvb
      have hA : Hid (∀ g : Grow W, Calls Try.prog 25 #[.agg #[.int .i64 s.space, .int .i64 s.start, .int .i64 s.elo, .int .i64 s.ehi, rv, dv]] g.x fun e w' => (∃ v, e = .returned (.tuple #[v, .int .i64 0]) ∧ SpanListsAt w' v (safeRows s)) ∧ Below g.x.heap.size g.x w') := fun g => progSafeT g.x (hsg g) hvb
      have hX : Hid (∀ g : Grow W, Calls Try.prog 27 #[.agg #[.int .i64 s.space, .int .i64 s.start, .int .i64 s.elo, .int .i64 s.ehi, rv, dv]] g.x fun e w' => (∃ v, e = .returned v ∧ SpanListsAt w' v (safeRows s)) ∧ Below g.x.heap.size g.x w') := fun g => refSafe _ s g.x (hsg g) ok
      replace hvb := Lib.hid hvb
      clear ok
      clear hsg
      go_enter Try.func4, Try.ntmps4
      go_wp2_with (first
        | (go_at_call 14; ((with_reducible refine Calls.mono (hS.out) ?_); rintro e w' ⟨rfl, hb1⟩; obtain ⟨g1, rfl⟩ : ∃ g1 : Grow W, w' = g1.x := ⟨⟨w', hb1⟩, rfl⟩))
        | (go_at_call 25; ((with_reducible refine Calls.mono (hA.out g1) ?_); rintro e w' ⟨⟨pv, rfl, hpv⟩, hb2⟩; obtain ⟨g2, rfl⟩ := g1.next hb2))
        | (go_at_call 19; ((with_reducible refine Calls.mono (hR.out g2) ?_); rintro e w' ⟨rfl, hb3⟩; obtain ⟨g3, rfl⟩ := g2.next hb3))
        | (go_at_call 27; ((with_reducible refine Calls.mono (hX.out g3) ?_); rintro e w' ⟨⟨rpv, rfl, hrpv⟩, hb4⟩; obtain ⟨g4, rfl⟩ := g3.next hb4))
        | (go_at_call 26; ((with_reducible refine Calls.mono (refSameSpansT g4.x (hpv.mono (below_tr hb3 hb4)) hrpv) ?_); rintro e w' ⟨rfl, hb5⟩; obtain ⟨g5, rfl⟩ := g4.next hb5))
        | (go_at_call 16; ((with_reducible refine Calls.mono (hK.out _) ?_); rintro e w' ⟨rfl, hb6⟩; obtain ⟨g6, rfl⟩ := g5.next hb6)))
      go_ret
      exact ⟨rfl, hBw.trans (g6.h.mono (Nat.le_of_lt hsz))⟩
end Go.Proofs.Ytacajmpggjgaiaa
