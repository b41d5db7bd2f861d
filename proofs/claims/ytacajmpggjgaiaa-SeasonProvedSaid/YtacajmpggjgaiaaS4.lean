/- Walks: the law of the cheapest plan and of the proof. -/
import Derived.Test.YtacajmpggjgaiaaR6
import Derived.Test.YtacajmpggjgaiaaOwnSp
set_option linter.unusedVariables false
set_option linter.unusedSimpArgs false
namespace Go.Proofs.Ytacajmpggjgaiaa
open Go.RowKit Go.Sd

theorem IntsAt.nil (w : World) : IntsAt w (.slice none 0 0) [] := ⟨none, 0, rfl, by simp, fun h => absurd h (by simp)⟩
theorem IntsAt.form {w : World} {v : Value} {l : List Int} (h : IntsAt w v l) : ∃ a cap, v = .slice a l.length cap := by
  obtain ⟨a, cap, rfl, -⟩ := h
  exact ⟨a, cap, rfl⟩

/-- The cheapest plan with its cost, or the error. -/
theorem progBestT {sv nv : Value} {s : Sea.S} {noms l : List Int} {c f : Int} (w : World) (hs : SeasonAt w sv s) (hn : IntsAt w nv noms) (h : bestOf s noms = (l, c, f)) :
    Calls Try.prog 17 #[sv, nv] w fun e w' => (∃ a cap, e = .returned (.tuple #[.slice a l.length cap, .int .i64 c, .int .i64 f]) ∧ IntsAt w' (.slice a l.length cap) l) ∧ Below w.heap.size w w' := by
  cases ht : Sea.validB s
  · rw [bestOf_no (.inl ht)] at h
    cases h
    exact (progBestNo sv nv s noms w hs hn (.inl ht)).mono fun e w' ⟨he, hb⟩ => ⟨⟨none, 0, he, IntsAt.nil _⟩, hb⟩
  · cases hno : s.nomsB noms
    · rw [bestOf_no (.inr hno)] at h
      cases h
      exact (progBestNo sv nv s noms w hs hn (.inr hno)).mono fun e w' ⟨he, hb⟩ => ⟨⟨none, 0, he, IntsAt.nil _⟩, hb⟩
    · refine (progBestYes sv nv s noms w hs hn ht hno).mono fun e w' hp => ?_
      obtain ⟨v, he, ho, hb⟩ := hp
      rw [h] at he ho
      obtain ⟨a, cap, rfl⟩ := ho.at.form
      exact ⟨⟨a, cap, he, ho.at⟩, hb⟩

/-- The proof. -/
theorem progProofT {sv nv : Value} {s : Sea.S} {noms : List Int} (w : World) (hs : SeasonAt w sv s) (hn : IntsAt w nv noms) (ht : Sea.validB s = true) (hno : s.nomsB noms = true) :
    Calls Try.prog 18 #[sv, nv] w fun e w' => (∃ v, e = .returned (.tuple #[v, .int .i64 0]) ∧ ListsAt w' v (s.proof noms)) ∧ Below w.heap.size w w' := by
  have hnd := (Sea.ok_of_valid ht).ndays
  refine (progProofYes sv nv s noms w hs hn ht hno).mono fun e w' hp => ?_
  obtain ⟨b, vs, cap, he, ho, hb⟩ := hp
  have := ho.at (by rw [proof_len]; unfold maxLen; omega) cap
  rw [proof_len] at this
  exact ⟨⟨_, he, this⟩, hb⟩
theorem refProofT {sv nv : Value} {s : Sea.S} {noms : List Int} (w : World) (hs : SeasonAt w sv s) (hn : IntsAt w nv noms) (ok : Sea.Ok s) (hno : s.nomsB noms = true) :
    Calls Try.prog 22 #[sv, nv] w fun e w' => (∃ v, e = .returned v ∧ ListsAt w' v (s.proof noms)) ∧ Below w.heap.size w w' := by
  have hnd := ok.ndays
  refine (refProof sv nv noms s w hs ok hn hno).mono fun e w' hp => ?_
  obtain ⟨b, vs, cap, he, ho, hb⟩ := hp
  have := OwnMat.at (rows := s.proof noms) ho (by rw [proof_len]; unfold maxLen; omega) cap
  rw [proof_len] at this
  exact ⟨⟨_, he, this⟩, hb⟩
theorem refBestT {sv nv : Value} {s : Sea.S} {noms : List Int} (w : World) (hs : SeasonAt w sv s) (hn : IntsAt w nv noms) (ok : Sea.Ok s) (hno : s.nomsB noms = true) (h : ¬ bestCost s noms = Sea.never) :
    Calls Try.prog 23 #[sv, nv] w fun e w' => (∃ v, e = .returned (.tuple #[v, .int .i64 (bestCost s noms), .bool true]) ∧ IntsAt w' v (planTo s noms s.days.length).1) ∧ Below w.heap.size w w' :=
  (refBestYes sv nv s noms w hs hn ok hno h).mono fun e w' ⟨v, he, ho, hb⟩ => ⟨⟨v, he, ho.at⟩, hb⟩
theorem refSameT {av bv : Value} {a : List Int} (w : World) (ha : IntsAt w av a) (hb : IntsAt w bv a) :
    Calls Try.prog 24 #[av, bv] w fun e w' => e = .returned (.bool true) ∧ Below w.heap.size w w' := by
  have := refSame av bv a a w ha hb
  simpa using this
theorem refSameListsT {av bv : Value} {a : List (List Int)} (w : World) (ha : ListsAt w av a) (hb : ListsAt w bv a) :
    Calls Try.prog 21 #[av, bv] w fun e w' => e = .returned (.bool true) ∧ Below w.heap.size w w' := by
  have := refSameLists av bv a a w ha hb
  simpa using this

set_option maxRecDepth 100000 in
set_option maxHeartbeats 16000000 in
/-- The law of the cheapest plan and of the proof. -/
theorem lawBest (sv nv : Value) (s : Sea.S) (noms : List Int) (w : World) (hs : SeasonAt w sv s) (hn : IntsAt w nv noms) :
    Calls Try.prog 3 #[sv, nv] w fun e w' => e = .returned (.bool true) ∧ Below w.heap.size w w' := by
  have hs' := hs
  obtain ⟨rv, dv, rfl, hr, hd⟩ := hs'
  obtain ⟨W, hW⟩ : ∃ W, w.alloc (sBox s rv dv) = W := ⟨_, rfl⟩
  obtain ⟨hsz, hBw, q0, q1, q2, q3, q4, q5⟩ := box_season hW
  have hg := grow_cell W
  have hK : Hid (∀ (w : World), Calls Try.prog 16 #[] w fun e w' => e = .returned (.bool true) ∧ Below w.heap.size w w') := progKnown
  have hsg : ∀ g : Grow W, SeasonAt g.x (.agg #[.int .i64 s.space, .int .i64 s.start, .int .i64 s.elo, .int .i64 s.ehi, rv, dv]) s := fun g => (hs.mono hBw).mono g.h
  have hng : ∀ g : Grow W, IntsAt g.x nv noms := fun g => (hn.mono hBw).mono g.h
  cases hsm : smallB s
  · skip
    have hS : Hid (Calls Try.prog 14 #[.agg #[.int .i64 s.space, .int .i64 s.start, .int .i64 s.elo, .int .i64 s.ehi, rv, dv]] W fun e w' => e = .returned (.bool false) ∧ Below W.heap.size W w') := lawSmallT W (hs.mono hBw) hsm
    replace hsm := Lib.hid hsm
    clear hng
    clear hsg
    go_enter Try.func3, Try.ntmps3
    go_wp2_with (first
      | (go_at_call 14; ((with_reducible refine Calls.mono (hS.out) ?_); rintro e w' ⟨rfl, hb1⟩; obtain ⟨g1, rfl⟩ : ∃ g1 : Grow W, w' = g1.x := ⟨⟨w', hb1⟩, rfl⟩))
      | (go_at_call 16; ((with_reducible refine Calls.mono (hK.out _) ?_); rintro e w' ⟨rfl, hb2⟩; obtain ⟨g2, rfl⟩ := g1.next hb2)))
    go_ret
    exact ⟨rfl, hBw.trans (g2.h.mono (Nat.le_of_lt hsz))⟩
  · skip
    have hS : Hid (Calls Try.prog 14 #[.agg #[.int .i64 s.space, .int .i64 s.start, .int .i64 s.elo, .int .i64 s.ehi, rv, dv]] W fun e w' => e = .returned (.bool true) ∧ Below W.heap.size W w') := lawSmallT W (hs.mono hBw) hsm
    replace hsm := Lib.hid hsm
    cases hli : decide (noms.length ≤ 25)
    · skip
      have hL : Hid (∀ g : Grow W, Calls Try.prog 15 #[nv] g.x fun e w' => e = .returned (.bool false) ∧ Below g.x.heap.size g.x w') := fun g => (lawListed g.x (hng g) hli).mono fun _ _ ⟨h1, h2⟩ => ⟨h1, by rw [h2]; exact Below.refl _ _⟩
      replace hli := Lib.hid hli
      clear hng
      clear hsg
      go_enter Try.func3, Try.ntmps3
      go_wp2_with (first
        | (go_at_call 14; ((with_reducible refine Calls.mono (hS.out) ?_); rintro e w' ⟨rfl, hb1⟩; obtain ⟨g1, rfl⟩ : ∃ g1 : Grow W, w' = g1.x := ⟨⟨w', hb1⟩, rfl⟩))
        | (go_at_call 15; ((with_reducible refine Calls.mono (hL.out g1) ?_); rintro e w' ⟨rfl, hb2⟩; obtain ⟨g2, rfl⟩ := g1.next hb2))
        | (go_at_call 16; ((with_reducible refine Calls.mono (hK.out _) ?_); rintro e w' ⟨rfl, hb3⟩; obtain ⟨g3, rfl⟩ := g2.next hb3)))
      go_ret
      exact ⟨rfl, hBw.trans (g3.h.mono (Nat.le_of_lt hsz))⟩
    · skip
      have hL : Hid (∀ g : Grow W, Calls Try.prog 15 #[nv] g.x fun e w' => e = .returned (.bool true) ∧ Below g.x.heap.size g.x w') := fun g => (lawListed g.x (hng g) hli).mono fun _ _ ⟨h1, h2⟩ => ⟨h1, by rw [h2]; exact Below.refl _ _⟩
      replace hli := Lib.hid hli
      cases hvb : Sea.validB s
      · skip
        have hR : Hid (∀ g : Grow W, Calls Try.prog 19 #[.agg #[.int .i64 s.space, .int .i64 s.start, .int .i64 s.elo, .int .i64 s.ehi, rv, dv]] g.x fun e w' => e = .returned (.bool false) ∧ Below g.x.heap.size g.x w') := fun g => refSeasonT g.x (hsg g) hvb
        have hbad : Sea.validB s = false ∨ s.nomsB noms = false := .inl hvb
        have hA : Hid (∀ g : Grow W, Calls Try.prog 17 #[.agg #[.int .i64 s.space, .int .i64 s.start, .int .i64 s.elo, .int .i64 s.ehi, rv, dv], nv] g.x fun e w' => e = .returned (.tuple #[.slice none 0 0, .int .i64 0, .int .i64 2]) ∧ Below g.x.heap.size g.x w') := fun g => progBestNo _ _ s noms g.x (hsg g) (hng g) hbad
        have hB : Hid (∀ g : Grow W, Calls Try.prog 18 #[.agg #[.int .i64 s.space, .int .i64 s.start, .int .i64 s.elo, .int .i64 s.ehi, rv, dv], nv] g.x fun e w' => e = .returned (.tuple #[.slice none 0 0, .int .i64 2]) ∧ Below g.x.heap.size g.x w') := fun g => progProofNo _ _ s noms g.x (hsg g) (hng g) hbad
        replace hvb := Lib.hid hvb
        replace hbad := Lib.hid hbad
        clear hng
        clear hsg
        go_enter Try.func3, Try.ntmps3
        go_wp2_with (first
          | (go_at_call 14; ((with_reducible refine Calls.mono (hS.out) ?_); rintro e w' ⟨rfl, hb1⟩; obtain ⟨g1, rfl⟩ : ∃ g1 : Grow W, w' = g1.x := ⟨⟨w', hb1⟩, rfl⟩))
          | (go_at_call 15; ((with_reducible refine Calls.mono (hL.out g1) ?_); rintro e w' ⟨rfl, hb2⟩; obtain ⟨g2, rfl⟩ := g1.next hb2))
          | (go_at_call 17; ((with_reducible refine Calls.mono (hA.out g2) ?_); rintro e w' ⟨rfl, hb3⟩; obtain ⟨g3, rfl⟩ := g2.next hb3))
          | (go_at_call 18; ((with_reducible refine Calls.mono (hB.out g3) ?_); rintro e w' ⟨rfl, hb4⟩; obtain ⟨g4, rfl⟩ := g3.next hb4))
          | (go_at_call 19; ((with_reducible refine Calls.mono (hR.out g4) ?_); rintro e w' ⟨rfl, hb5⟩; obtain ⟨g5, rfl⟩ := g4.next hb5))
          | (go_at_call 16; ((with_reducible refine Calls.mono (hK.out _) ?_); rintro e w' ⟨rfl, hb6⟩; obtain ⟨g6, rfl⟩ := g5.next hb6)))
        go_ret
        exact ⟨rfl, hBw.trans (g6.h.mono (Nat.le_of_lt hsz))⟩
      · skip
        have hR : Hid (∀ g : Grow W, Calls Try.prog 19 #[.agg #[.int .i64 s.space, .int .i64 s.start, .int .i64 s.elo, .int .i64 s.ehi, rv, dv]] g.x fun e w' => e = .returned (.bool true) ∧ Below g.x.heap.size g.x w') := fun g => refSeasonT g.x (hsg g) hvb
        cases hno : s.nomsB noms
        · skip
          have hN : Hid (∀ g : Grow W, Calls Try.prog 20 #[.agg #[.int .i64 s.space, .int .i64 s.start, .int .i64 s.elo, .int .i64 s.ehi, rv, dv], nv] g.x fun e w' => e = .returned (.bool false) ∧ Below g.x.heap.size g.x w') := fun g => refNomsT g.x (hsg g) (hng g) hno
          have hbad : Sea.validB s = false ∨ s.nomsB noms = false := .inr hno
          have hA : Hid (∀ g : Grow W, Calls Try.prog 17 #[.agg #[.int .i64 s.space, .int .i64 s.start, .int .i64 s.elo, .int .i64 s.ehi, rv, dv], nv] g.x fun e w' => e = .returned (.tuple #[.slice none 0 0, .int .i64 0, .int .i64 2]) ∧ Below g.x.heap.size g.x w') := fun g => progBestNo _ _ s noms g.x (hsg g) (hng g) hbad
          have hB : Hid (∀ g : Grow W, Calls Try.prog 18 #[.agg #[.int .i64 s.space, .int .i64 s.start, .int .i64 s.elo, .int .i64 s.ehi, rv, dv], nv] g.x fun e w' => e = .returned (.tuple #[.slice none 0 0, .int .i64 2]) ∧ Below g.x.heap.size g.x w') := fun g => progProofNo _ _ s noms g.x (hsg g) (hng g) hbad
          replace hvb := Lib.hid hvb
          replace hno := Lib.hid hno
          replace hbad := Lib.hid hbad
          clear hng
          clear hsg
          go_enter Try.func3, Try.ntmps3
          go_wp2_with (first
            | (go_at_call 14; ((with_reducible refine Calls.mono (hS.out) ?_); rintro e w' ⟨rfl, hb1⟩; obtain ⟨g1, rfl⟩ : ∃ g1 : Grow W, w' = g1.x := ⟨⟨w', hb1⟩, rfl⟩))
            | (go_at_call 15; ((with_reducible refine Calls.mono (hL.out g1) ?_); rintro e w' ⟨rfl, hb2⟩; obtain ⟨g2, rfl⟩ := g1.next hb2))
            | (go_at_call 17; ((with_reducible refine Calls.mono (hA.out g2) ?_); rintro e w' ⟨rfl, hb3⟩; obtain ⟨g3, rfl⟩ := g2.next hb3))
            | (go_at_call 18; ((with_reducible refine Calls.mono (hB.out g3) ?_); rintro e w' ⟨rfl, hb4⟩; obtain ⟨g4, rfl⟩ := g3.next hb4))
            | (go_at_call 19; ((with_reducible refine Calls.mono (hR.out g4) ?_); rintro e w' ⟨rfl, hb5⟩; obtain ⟨g5, rfl⟩ := g4.next hb5))
            | (go_at_call 20; ((with_reducible refine Calls.mono (hN.out g5) ?_); rintro e w' ⟨rfl, hb6⟩; obtain ⟨g6, rfl⟩ := g5.next hb6))
            | (go_at_call 16; ((with_reducible refine Calls.mono (hK.out _) ?_); rintro e w' ⟨rfl, hb7⟩; obtain ⟨g7, rfl⟩ := g6.next hb7)))
          go_ret
          exact ⟨rfl, hBw.trans (g7.h.mono (Nat.le_of_lt hsz))⟩
        · skip
          have hN : Hid (∀ g : Grow W, Calls Try.prog 20 #[.agg #[.int .i64 s.space, .int .i64 s.start, .int .i64 s.elo, .int .i64 s.ehi, rv, dv], nv] g.x fun e w' => e = .returned (.bool true) ∧ Below g.x.heap.size g.x w') := fun g => refNomsT g.x (hsg g) (hng g) hno
          have ok := Sea.ok_of_valid hvb
          have hB : Hid (∀ g : Grow W, Calls Try.prog 18 #[.agg #[.int .i64 s.space, .int .i64 s.start, .int .i64 s.elo, .int .i64 s.ehi, rv, dv], nv] g.x fun e w' => (∃ v, e = .returned (.tuple #[v, .int .i64 0]) ∧ ListsAt w' v (s.proof noms)) ∧ Below g.x.heap.size g.x w') := fun g => progProofT g.x (hsg g) (hng g) hvb hno
          have hX : Hid (∀ g : Grow W, Calls Try.prog 22 #[.agg #[.int .i64 s.space, .int .i64 s.start, .int .i64 s.elo, .int .i64 s.ehi, rv, dv], nv] g.x fun e w' => (∃ v, e = .returned v ∧ ListsAt w' v (s.proof noms)) ∧ Below g.x.heap.size g.x w') := fun g => refProofT g.x (hsg g) (hng g) ok hno
          by_cases hne : bestCost s noms = Sea.never
          · skip
            have hA : Hid (∀ g : Grow W, Calls Try.prog 17 #[.agg #[.int .i64 s.space, .int .i64 s.start, .int .i64 s.elo, .int .i64 s.ehi, rv, dv], nv] g.x fun e w' => (∃ a cap, e = .returned (.tuple #[.slice a 0 cap, .int .i64 0, .int .i64 5]) ∧ IntsAt w' (.slice a 0 cap) []) ∧ Below g.x.heap.size g.x w') := fun g => progBestT g.x (hsg g) (hng g) (bestOf_none hvb hno hne)
            have hY : Hid (∀ g : Grow W, Calls Try.prog 23 #[.agg #[.int .i64 s.space, .int .i64 s.start, .int .i64 s.elo, .int .i64 s.ehi, rv, dv], nv] g.x fun e w' => e = .returned (.tuple #[.slice none 0 0, .int .i64 0, .bool false]) ∧ Below g.x.heap.size g.x w') := fun g => refBestNone _ _ s noms g.x (hsg g) (hng g) ok hno hne
            replace hvb := Lib.hid hvb
            replace hno := Lib.hid hno
            replace hne := Lib.hid hne
            clear hng ok
            clear hsg
            go_enter Try.func3, Try.ntmps3
            go_wp2_with (first
              | (go_at_call 14; ((with_reducible refine Calls.mono (hS.out) ?_); rintro e w' ⟨rfl, hb1⟩; obtain ⟨g1, rfl⟩ : ∃ g1 : Grow W, w' = g1.x := ⟨⟨w', hb1⟩, rfl⟩))
              | (go_at_call 15; ((with_reducible refine Calls.mono (hL.out g1) ?_); rintro e w' ⟨rfl, hb2⟩; obtain ⟨g2, rfl⟩ := g1.next hb2))
              | (go_at_call 17; ((with_reducible refine Calls.mono (hA.out g2) ?_); rintro e w' ⟨⟨pa, pcap, rfl, hp⟩, hb3⟩; obtain ⟨g3, rfl⟩ := g2.next hb3))
              | (go_at_call 18; ((with_reducible refine Calls.mono (hB.out g3) ?_); rintro e w' ⟨⟨pv, rfl, hpv⟩, hb4⟩; obtain ⟨g4, rfl⟩ := g3.next hb4))
              | (go_at_call 19; ((with_reducible refine Calls.mono (hR.out g4) ?_); rintro e w' ⟨rfl, hb5⟩; obtain ⟨g5, rfl⟩ := g4.next hb5))
              | (go_at_call 20; ((with_reducible refine Calls.mono (hN.out g5) ?_); rintro e w' ⟨rfl, hb6⟩; obtain ⟨g6, rfl⟩ := g5.next hb6))
              | (go_at_call 22; ((with_reducible refine Calls.mono (hX.out g6) ?_); rintro e w' ⟨⟨rpv, rfl, hrpv⟩, hb7⟩; obtain ⟨g7, rfl⟩ := g6.next hb7))
              | (go_at_call 21; ((with_reducible refine Calls.mono (refSameListsT g7.x (hpv.mono (below_tr (below_tr hb5 hb6) hb7)) hrpv) ?_); rintro e w' ⟨rfl, hb8⟩; obtain ⟨g8, rfl⟩ := g7.next hb8))
              | (go_at_call 23; ((with_reducible refine Calls.mono (hY.out g8) ?_); rintro e w' ⟨rfl, hb9⟩; obtain ⟨g9, rfl⟩ := g8.next hb9))
              | (go_at_call 16; ((with_reducible refine Calls.mono (hK.out _) ?_); rintro e w' ⟨rfl, hb10⟩; obtain ⟨g10, rfl⟩ := g9.next hb10)))
            go_ret
            exact ⟨rfl, hBw.trans (g10.h.mono (Nat.le_of_lt hsz))⟩
          · skip
            have hA : Hid (∀ g : Grow W, Calls Try.prog 17 #[.agg #[.int .i64 s.space, .int .i64 s.start, .int .i64 s.elo, .int .i64 s.ehi, rv, dv], nv] g.x fun e w' => (∃ a cap, e = .returned (.tuple #[.slice a (planTo s noms s.days.length).1.length cap, .int .i64 (bestCost s noms), .int .i64 0]) ∧ IntsAt w' (.slice a (planTo s noms s.days.length).1.length cap) (planTo s noms s.days.length).1) ∧ Below g.x.heap.size g.x w') := fun g => progBestT g.x (hsg g) (hng g) (bestOf_yes hvb hno hne)
            have hY : Hid (∀ g : Grow W, Calls Try.prog 23 #[.agg #[.int .i64 s.space, .int .i64 s.start, .int .i64 s.elo, .int .i64 s.ehi, rv, dv], nv] g.x fun e w' => (∃ v, e = .returned (.tuple #[v, .int .i64 (bestCost s noms), .bool true]) ∧ IntsAt w' v (planTo s noms s.days.length).1) ∧ Below g.x.heap.size g.x w') := fun g => refBestT g.x (hsg g) (hng g) ok hno hne
            generalize (planTo s noms s.days.length).1 = pl at hA hY
            generalize bestCost s noms = bc at hA hY
            replace hvb := Lib.hid hvb
            replace hno := Lib.hid hno
            replace hne := Lib.hid hne
            clear hng ok
            clear hsg
            go_enter Try.func3, Try.ntmps3
            go_wp2_with (first
              | (go_at_call 14; ((with_reducible refine Calls.mono (hS.out) ?_); rintro e w' ⟨rfl, hb1⟩; obtain ⟨g1, rfl⟩ : ∃ g1 : Grow W, w' = g1.x := ⟨⟨w', hb1⟩, rfl⟩))
              | (go_at_call 15; ((with_reducible refine Calls.mono (hL.out g1) ?_); rintro e w' ⟨rfl, hb2⟩; obtain ⟨g2, rfl⟩ := g1.next hb2))
              | (go_at_call 17; ((with_reducible refine Calls.mono (hA.out g2) ?_); rintro e w' ⟨⟨pa, pcap, rfl, hp⟩, hb3⟩; obtain ⟨g3, rfl⟩ := g2.next hb3))
              | (go_at_call 18; ((with_reducible refine Calls.mono (hB.out g3) ?_); rintro e w' ⟨⟨pv, rfl, hpv⟩, hb4⟩; obtain ⟨g4, rfl⟩ := g3.next hb4))
              | (go_at_call 19; ((with_reducible refine Calls.mono (hR.out g4) ?_); rintro e w' ⟨rfl, hb5⟩; obtain ⟨g5, rfl⟩ := g4.next hb5))
              | (go_at_call 20; ((with_reducible refine Calls.mono (hN.out g5) ?_); rintro e w' ⟨rfl, hb6⟩; obtain ⟨g6, rfl⟩ := g5.next hb6))
              | (go_at_call 22; ((with_reducible refine Calls.mono (hX.out g6) ?_); rintro e w' ⟨⟨rpv, rfl, hrpv⟩, hb7⟩; obtain ⟨g7, rfl⟩ := g6.next hb7))
              | (go_at_call 21; ((with_reducible refine Calls.mono (refSameListsT g7.x (hpv.mono (below_tr (below_tr hb5 hb6) hb7)) hrpv) ?_); rintro e w' ⟨rfl, hb8⟩; obtain ⟨g8, rfl⟩ := g7.next hb8))
              | (go_at_call 23; ((with_reducible refine Calls.mono (hY.out g8) ?_); rintro e w' ⟨⟨rv2, rfl, hrp⟩, hb9⟩; obtain ⟨g9, rfl⟩ := g8.next hb9))
              | (go_at_call 24; ((with_reducible refine Calls.mono (refSameT g9.x (hp.mono (below_tr (below_tr (below_tr (below_tr (below_tr hb4 hb5) hb6) hb7) hb8) hb9)) hrp) ?_); rintro e w' ⟨rfl, hb10⟩; obtain ⟨g10, rfl⟩ := g9.next hb10))
              | (go_at_call 16; ((with_reducible refine Calls.mono (hK.out _) ?_); rintro e w' ⟨rfl, hb11⟩; obtain ⟨g11, rfl⟩ := g10.next hb11)))
            go_ret
            exact ⟨rfl, hBw.trans (g11.h.mono (Nat.le_of_lt hsz))⟩
end Go.Proofs.Ytacajmpggjgaiaa
