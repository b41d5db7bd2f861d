/- Walks: the theorem of plans. -/
import Derived.Test.YtacajmpggjgaiaaS6
import Derived.Test.YtacajmpggjgaiaaOpt
set_option linter.unusedVariables false
set_option linter.unusedSimpArgs false
namespace Go.Proofs.Ytacajmpggjgaiaa
open Go.RowKit Go.Sd

theorem run_neq_fault (a b : Int) (w : World) : (binOp .neq 74 (.agg #[.int .i64 a, .int .i64 b]) (.agg #[.int .i64 a, .int .i64 b])).run Try.prog w = .ok (.bool false) w := by
  rw [run_neq_struct, run_equalIn_struct w 9999 74 _ _ (by kernel_rfl) (by kernel_rfl), fields_fault]
  simp only [Op.eqFields]
  rw [if_pos (by decide), if_pos (by decide)]
  simp [Sem.run_bind, Sem.run_ite, part0, partRule, eqInt9, eqRule9, Sem.run]

theorem faultTo_some {s : Sea.S} {noms plan : List Int} {d : Nat} : ∀ k, faultTo s noms plan k = some d → d < k ∧ ruleOn s noms plan d ≠ 1
  | 0, h => by cases h
  | k + 1, h => by
    simp only [faultTo] at h
    cases h1 : faultTo s noms plan k with
    | some e => simp only [h1] at h; cases h
                have := faultTo_some k h1
                exact ⟨by omega, this.2⟩
    | none => simp only [h1] at h
              by_cases hr : ruleOn s noms plan k = 1
              · simp [hr] at h
              · simp [hr] at h
                subst h
                exact ⟨by omega, hr⟩
/-- A plan breaks a rule, or holds. -/
theorem play_two {s : Sea.S} {noms plan : List Int} (hp : planB s plan = true) : (∃ l c d r, playOf s noms plan = (l, c, d, r) ∧ r ≠ 1) ∨
    (faultTo s noms plan s.days.length = none ∧ playOf s noms plan = ((playTo s noms plan s.days.length).1, (playTo s noms plan s.days.length).2.2, 0, 1)) := by
  have hl := (planB_at hp).1
  cases h : faultTo s noms plan plan.length with
  | some d =>
    have := faultTo_some _ h
    exact .inl ⟨_, _, _, _, playOf_hit (by
      cases h2 : faultTo s noms plan d with
      | none => rfl
      | some e => have h3 := faultTo_stay h2 plan.length (by omega)
                  rw [h] at h3; cases h3
                  have := (faultTo_some _ h2).1; omega) this.2 this.1, this.2⟩
  | none => exact .inr ⟨by rw [← hl]; exact h, by rw [playOf_fine h, hl]⟩

set_option maxRecDepth 100000 in
set_option maxHeartbeats 16000000 in
/-- The theorem of plans. -/
theorem lawCheapest (sv nv ov : Value) (s : Sea.S) (noms other : List Int) (w : World) (hs : SeasonAt w sv s) (hn : IntsAt w nv noms) (ho : IntsAt w ov other) :
    Calls Try.prog 10 #[sv, nv, ov] w fun e w' => e = .returned (.bool true) ∧ Below w.heap.size w w' := by
  have hs' := hs
  obtain ⟨rv, dv, rfl, hr, hd⟩ := hs'
  obtain ⟨W, hW⟩ : ∃ W, w.alloc (sBox s rv dv) = W := ⟨_, rfl⟩
  obtain ⟨hsz, hBw, q0, q1, q2, q3, q4, q5⟩ := box_season hW
  have hg := grow_cell W
  have hK : Hid (∀ (w : World), Calls Try.prog 16 #[] w fun e w' => e = .returned (.bool true) ∧ Below w.heap.size w w') := progKnown
  have hsg : ∀ g : Grow W, SeasonAt g.x (.agg #[.int .i64 s.space, .int .i64 s.start, .int .i64 s.elo, .int .i64 s.ehi, rv, dv]) s := fun g => (hs.mono hBw).mono g.h
  have hng : ∀ g : Grow W, IntsAt g.x nv noms := fun g => (hn.mono hBw).mono g.h
  have hog : ∀ g : Grow W, IntsAt g.x ov other := fun g => (ho.mono hBw).mono g.h
  have hrn := run_neq_fault
  cases hsm : smallB s
  · skip
    have hS : Hid (Calls Try.prog 14 #[.agg #[.int .i64 s.space, .int .i64 s.start, .int .i64 s.elo, .int .i64 s.ehi, rv, dv]] W fun e w' => e = .returned (.bool false) ∧ Below W.heap.size W w') := lawSmallT W (hs.mono hBw) hsm
    replace hsm := Lib.hid hsm
    clear hng hog
    clear hsg
    go_enter Try.func10, Try.ntmps10
    go_wp2_with (first
      | (go_at_call 14; ((with_reducible refine Calls.mono (hS.out) ?_); rintro e w' ⟨rfl, hb1⟩; obtain ⟨g1, rfl⟩ : ∃ g1 : Grow W, w' = g1.x := ⟨⟨w', hb1⟩, rfl⟩))
      | (go_at_call 16; ((with_reducible refine Calls.mono (hK.out _) ?_); rintro e w' ⟨rfl, hb2⟩; obtain ⟨g2, rfl⟩ := g1.next hb2)))
    go_ret
    exact ⟨rfl, hBw.trans (g2.h.mono (Nat.le_of_lt hsz))⟩
  · skip
    have hS : Hid (Calls Try.prog 14 #[.agg #[.int .i64 s.space, .int .i64 s.start, .int .i64 s.elo, .int .i64 s.ehi, rv, dv]] W fun e w' => e = .returned (.bool true) ∧ Below W.heap.size W w') := lawSmallT W (hs.mono hBw) hsm
    replace hsm := Lib.hid hsm
    cases hli : decide (noms.length ≤ 25)
    · skip
      have hL : Hid (∀ g : Grow W, Calls Try.prog 15 #[nv] g.x fun e w' => e = .returned (.bool false) ∧ Below g.x.heap.size g.x w') := fun g => (lawListed g.x (hng g) hli).mono fun _ _ ⟨h1, h2⟩ => ⟨h1, by rw [h2]; exact Below.refl _ _⟩
      replace hli := Lib.hid hli
      clear hng hog
      clear hsg
      go_enter Try.func10, Try.ntmps10
      go_wp2_with (first
        | (go_at_call 14; ((with_reducible refine Calls.mono (hS.out) ?_); rintro e w' ⟨rfl, hb1⟩; obtain ⟨g1, rfl⟩ : ∃ g1 : Grow W, w' = g1.x := ⟨⟨w', hb1⟩, rfl⟩))
        | (go_at_call 15; ((with_reducible refine Calls.mono (hL.out g1) ?_); rintro e w' ⟨rfl, hb2⟩; obtain ⟨g2, rfl⟩ := g1.next hb2))
        | (go_at_call 16; ((with_reducible refine Calls.mono (hK.out _) ?_); rintro e w' ⟨rfl, hb3⟩; obtain ⟨g3, rfl⟩ := g2.next hb3)))
      go_ret
      exact ⟨rfl, hBw.trans (g3.h.mono (Nat.le_of_lt hsz))⟩
    · skip
      have hL : Hid (∀ g : Grow W, Calls Try.prog 15 #[nv] g.x fun e w' => e = .returned (.bool true) ∧ Below g.x.heap.size g.x w') := fun g => (lawListed g.x (hng g) hli).mono fun _ _ ⟨h1, h2⟩ => ⟨h1, by rw [h2]; exact Below.refl _ _⟩
      replace hli := Lib.hid hli
      cases hlo : decide (other.length ≤ 25)
      · skip
        have hM : Hid (∀ g : Grow W, Calls Try.prog 15 #[ov] g.x fun e w' => e = .returned (.bool false) ∧ Below g.x.heap.size g.x w') := fun g => (lawListed g.x (hog g) hlo).mono fun _ _ ⟨h1, h2⟩ => ⟨h1, by rw [h2]; exact Below.refl _ _⟩
        replace hlo := Lib.hid hlo
        clear hng hog
        clear hsg
        go_enter Try.func10, Try.ntmps10
        go_wp2_with (first
          | (go_at_call 14; ((with_reducible refine Calls.mono (hS.out) ?_); rintro e w' ⟨rfl, hb1⟩; obtain ⟨g1, rfl⟩ : ∃ g1 : Grow W, w' = g1.x := ⟨⟨w', hb1⟩, rfl⟩))
          | (go_at_call 15; ((with_reducible refine Calls.mono (hL.out g1) ?_); rintro e w' ⟨rfl, hb2⟩; obtain ⟨g2, rfl⟩ := g1.next hb2))
          | (go_at_call 15; ((with_reducible refine Calls.mono (hM.out g2) ?_); rintro e w' ⟨rfl, hb3⟩; obtain ⟨g3, rfl⟩ := g2.next hb3))
          | (go_at_call 16; ((with_reducible refine Calls.mono (hK.out _) ?_); rintro e w' ⟨rfl, hb4⟩; obtain ⟨g4, rfl⟩ := g3.next hb4)))
        go_ret
        exact ⟨rfl, hBw.trans (g4.h.mono (Nat.le_of_lt hsz))⟩
      · skip
        have hM : Hid (∀ g : Grow W, Calls Try.prog 15 #[ov] g.x fun e w' => e = .returned (.bool true) ∧ Below g.x.heap.size g.x w') := fun g => (lawListed g.x (hog g) hlo).mono fun _ _ ⟨h1, h2⟩ => ⟨h1, by rw [h2]; exact Below.refl _ _⟩
        replace hlo := Lib.hid hlo
        cases hvb : Sea.validB s
        · skip
          have hR : Hid (∀ g : Grow W, Calls Try.prog 19 #[.agg #[.int .i64 s.space, .int .i64 s.start, .int .i64 s.elo, .int .i64 s.ehi, rv, dv]] g.x fun e w' => e = .returned (.bool false) ∧ Below g.x.heap.size g.x w') := fun g => refSeasonT g.x (hsg g) hvb
          replace hvb := Lib.hid hvb
          clear hng hog
          clear hsg
          go_enter Try.func10, Try.ntmps10
          go_wp2_with (first
            | (go_at_call 14; ((with_reducible refine Calls.mono (hS.out) ?_); rintro e w' ⟨rfl, hb1⟩; obtain ⟨g1, rfl⟩ : ∃ g1 : Grow W, w' = g1.x := ⟨⟨w', hb1⟩, rfl⟩))
            | (go_at_call 15; ((with_reducible refine Calls.mono (hL.out g1) ?_); rintro e w' ⟨rfl, hb2⟩; obtain ⟨g2, rfl⟩ := g1.next hb2))
            | (go_at_call 15; ((with_reducible refine Calls.mono (hM.out g2) ?_); rintro e w' ⟨rfl, hb3⟩; obtain ⟨g3, rfl⟩ := g2.next hb3))
            | (go_at_call 19; ((with_reducible refine Calls.mono (hR.out g3) ?_); rintro e w' ⟨rfl, hb4⟩; obtain ⟨g4, rfl⟩ := g3.next hb4))
            | (go_at_call 16; ((with_reducible refine Calls.mono (hK.out _) ?_); rintro e w' ⟨rfl, hb5⟩; obtain ⟨g5, rfl⟩ := g4.next hb5)))
          go_ret
          exact ⟨rfl, hBw.trans (g5.h.mono (Nat.le_of_lt hsz))⟩
        · skip
          have hR : Hid (∀ g : Grow W, Calls Try.prog 19 #[.agg #[.int .i64 s.space, .int .i64 s.start, .int .i64 s.elo, .int .i64 s.ehi, rv, dv]] g.x fun e w' => e = .returned (.bool true) ∧ Below g.x.heap.size g.x w') := fun g => refSeasonT g.x (hsg g) hvb
          cases hno : s.nomsB noms
          · skip
            have hN : Hid (∀ g : Grow W, Calls Try.prog 20 #[.agg #[.int .i64 s.space, .int .i64 s.start, .int .i64 s.elo, .int .i64 s.ehi, rv, dv], nv] g.x fun e w' => e = .returned (.bool false) ∧ Below g.x.heap.size g.x w') := fun g => refNomsT g.x (hsg g) (hng g) hno
            replace hno := Lib.hid hno
            clear hng hog
            clear hsg
            go_enter Try.func10, Try.ntmps10
            go_wp2_with (first
              | (go_at_call 14; ((with_reducible refine Calls.mono (hS.out) ?_); rintro e w' ⟨rfl, hb1⟩; obtain ⟨g1, rfl⟩ : ∃ g1 : Grow W, w' = g1.x := ⟨⟨w', hb1⟩, rfl⟩))
              | (go_at_call 15; ((with_reducible refine Calls.mono (hL.out g1) ?_); rintro e w' ⟨rfl, hb2⟩; obtain ⟨g2, rfl⟩ := g1.next hb2))
              | (go_at_call 15; ((with_reducible refine Calls.mono (hM.out g2) ?_); rintro e w' ⟨rfl, hb3⟩; obtain ⟨g3, rfl⟩ := g2.next hb3))
              | (go_at_call 19; ((with_reducible refine Calls.mono (hR.out g3) ?_); rintro e w' ⟨rfl, hb4⟩; obtain ⟨g4, rfl⟩ := g3.next hb4))
              | (go_at_call 20; ((with_reducible refine Calls.mono (hN.out g4) ?_); rintro e w' ⟨rfl, hb5⟩; obtain ⟨g5, rfl⟩ := g4.next hb5))
              | (go_at_call 16; ((with_reducible refine Calls.mono (hK.out _) ?_); rintro e w' ⟨rfl, hb6⟩; obtain ⟨g6, rfl⟩ := g5.next hb6)))
            go_ret
            exact ⟨rfl, hBw.trans (g6.h.mono (Nat.le_of_lt hsz))⟩
          · skip
            have hN : Hid (∀ g : Grow W, Calls Try.prog 20 #[.agg #[.int .i64 s.space, .int .i64 s.start, .int .i64 s.elo, .int .i64 s.ehi, rv, dv], nv] g.x fun e w' => e = .returned (.bool true) ∧ Below g.x.heap.size g.x w') := fun g => refNomsT g.x (hsg g) (hng g) hno
            cases hpl : planB s other
            · skip
              have hQ : Hid (∀ g : Grow W, Calls Try.prog 46 #[.agg #[.int .i64 s.space, .int .i64 s.start, .int .i64 s.elo, .int .i64 s.ehi, rv, dv], ov] g.x fun e w' => e = .returned (.bool false) ∧ Below g.x.heap.size g.x w') := fun g => refPlanT g.x (hsg g) (hog g) hpl
              replace hpl := Lib.hid hpl
              clear hng hog
              clear hsg
              go_enter Try.func10, Try.ntmps10
              go_wp2_with (first
                | (go_at_call 14; ((with_reducible refine Calls.mono (hS.out) ?_); rintro e w' ⟨rfl, hb1⟩; obtain ⟨g1, rfl⟩ : ∃ g1 : Grow W, w' = g1.x := ⟨⟨w', hb1⟩, rfl⟩))
                | (go_at_call 15; ((with_reducible refine Calls.mono (hL.out g1) ?_); rintro e w' ⟨rfl, hb2⟩; obtain ⟨g2, rfl⟩ := g1.next hb2))
                | (go_at_call 15; ((with_reducible refine Calls.mono (hM.out g2) ?_); rintro e w' ⟨rfl, hb3⟩; obtain ⟨g3, rfl⟩ := g2.next hb3))
                | (go_at_call 19; ((with_reducible refine Calls.mono (hR.out g3) ?_); rintro e w' ⟨rfl, hb4⟩; obtain ⟨g4, rfl⟩ := g3.next hb4))
                | (go_at_call 20; ((with_reducible refine Calls.mono (hN.out g4) ?_); rintro e w' ⟨rfl, hb5⟩; obtain ⟨g5, rfl⟩ := g4.next hb5))
                | (go_at_call 46; ((with_reducible refine Calls.mono (hQ.out g5) ?_); rintro e w' ⟨rfl, hb6⟩; obtain ⟨g6, rfl⟩ := g5.next hb6))
                | (go_at_call 16; ((with_reducible refine Calls.mono (hK.out _) ?_); rintro e w' ⟨rfl, hb7⟩; obtain ⟨g7, rfl⟩ := g6.next hb7)))
              go_ret
              exact ⟨rfl, hBw.trans (g7.h.mono (Nat.le_of_lt hsz))⟩
            · skip
              have hQ : Hid (∀ g : Grow W, Calls Try.prog 46 #[.agg #[.int .i64 s.space, .int .i64 s.start, .int .i64 s.elo, .int .i64 s.ehi, rv, dv], ov] g.x fun e w' => e = .returned (.bool true) ∧ Below g.x.heap.size g.x w') := fun g => refPlanT g.x (hsg g) (hog g) hpl
              have ok := Sea.ok_of_valid hvb
              by_cases hne : bestCost s noms = Sea.never
              · skip
                have hA : Hid (∀ g : Grow W, Calls Try.prog 17 #[.agg #[.int .i64 s.space, .int .i64 s.start, .int .i64 s.elo, .int .i64 s.ehi, rv, dv], nv] g.x fun e w' => (∃ a cap, e = .returned (.tuple #[.slice a 0 cap, .int .i64 0, .int .i64 5]) ∧ IntsAt w' (.slice a 0 cap) []) ∧ Below g.x.heap.size g.x w') := fun g => progBestT g.x (hsg g) (hng g) (bestOf_none hvb hno hne)
                obtain ⟨l, c, d, r, hpo, hr1⟩ : ∃ l c d r, playOf s noms other = (l, c, d, r) ∧ r ≠ 1 := by
                  rcases play_two (noms := noms) hpl with h | ⟨h, -⟩
                  · exact h
                  · have := (best_le ok hpl h).2; omega
                have hrb : (r != 1) = true := by simpa using hr1
                replace hr1 := Lib.hid hr1
                have hB : Hid (∀ g : Grow W, Calls Try.prog 45 #[.agg #[.int .i64 s.space, .int .i64 s.start, .int .i64 s.elo, .int .i64 s.ehi, rv, dv], nv, ov] g.x fun e w' => (∃ a cap, e = .returned (.tuple #[.slice a (l).length cap, .int .i64 c, .agg #[.int .i64 d, .int .i64 r], .int .i64 0]) ∧ IntsAt w' (.slice a (l).length cap) (l)) ∧ Below g.x.heap.size g.x w') := fun g => progPlayT g.x (hsg g) (hng g) (hog g) hvb hno hpl hpo
                replace hvb := Lib.hid hvb
                replace hno := Lib.hid hno
                replace hpl := Lib.hid hpl
                replace hne := Lib.hid hne
                replace hpo := Lib.hid hpo
                clear hng hog ok
                clear hsg
                go_enter Try.func10, Try.ntmps10
                go_wp2_with (first
                  | (go_at_call 14; ((with_reducible refine Calls.mono (hS.out) ?_); rintro e w' ⟨rfl, hb1⟩; obtain ⟨g1, rfl⟩ : ∃ g1 : Grow W, w' = g1.x := ⟨⟨w', hb1⟩, rfl⟩))
                  | (go_at_call 15; ((with_reducible refine Calls.mono (hL.out g1) ?_); rintro e w' ⟨rfl, hb2⟩; obtain ⟨g2, rfl⟩ := g1.next hb2))
                  | (go_at_call 15; ((with_reducible refine Calls.mono (hM.out g2) ?_); rintro e w' ⟨rfl, hb3⟩; obtain ⟨g3, rfl⟩ := g2.next hb3))
                  | (go_at_call 19; ((with_reducible refine Calls.mono (hR.out g3) ?_); rintro e w' ⟨rfl, hb4⟩; obtain ⟨g4, rfl⟩ := g3.next hb4))
                  | (go_at_call 20; ((with_reducible refine Calls.mono (hN.out g4) ?_); rintro e w' ⟨rfl, hb5⟩; obtain ⟨g5, rfl⟩ := g4.next hb5))
                  | (go_at_call 46; ((with_reducible refine Calls.mono (hQ.out g5) ?_); rintro e w' ⟨rfl, hb6⟩; obtain ⟨g6, rfl⟩ := g5.next hb6))
                  | (go_at_call 17; ((with_reducible refine Calls.mono (hA.out g6) ?_); rintro e w' ⟨⟨pa, pcap, rfl, hp⟩, hb7⟩; obtain ⟨g7, rfl⟩ := g6.next hb7))
                  | (go_at_call 45; ((with_reducible refine Calls.mono (hB.out g7) ?_); rintro e w' ⟨⟨oa, ocap, rfl, -⟩, hb8⟩; obtain ⟨g8, rfl⟩ := g7.next hb8); obtain ⟨g9, hg9⟩ := g8.alloc (.cells #[.int .i64 d, .int .i64 r] 74); have hnw9 := World.alloc_heap_new g8.x (.cells #[.int .i64 d, .int .i64 r] 74); rw [hg9] at hnw9; have hb9 : Below g8.x.heap.size g8.x g9.x := (by rw [← hg9]; exact below_al (Below.refl _ _) _); have dn9 := (row_cells hnw9).2.1; clear hnw9; have cx0 := dn9 0; have cx1 := dn9 1; simp only [List.getElem?_toArray, List.getElem?_cons_zero, List.getElem?_cons_succ] at cx0 cx1; clear dn9)
                  | (go_at_call 16; ((with_reducible refine Calls.mono (hK.out _) ?_); rintro e w' ⟨rfl, hb10⟩; obtain ⟨g10, rfl⟩ := g9.next hb10; have cx0 := kept_cell hb10 cx0; have cx1 := kept_cell hb10 cx1)))
                go_ret
                exact ⟨rfl, hBw.trans (g10.h.mono (Nat.le_of_lt hsz))⟩
              · skip
                obtain ⟨hbp, hbf, hbc⟩ := best_plan ok hne
                have hbo : playOf s noms (planTo s noms s.days.length).1 = ((playTo s noms (planTo s noms s.days.length).1 s.days.length).1, bestCost s noms, 0, 1) := by
                  have hl := (planB_at hbp).1
                  rw [playOf_fine (by rw [hl]; exact hbf), hl, hbc]
                have hfl : (playTo s noms (planTo s noms s.days.length).1 s.days.length).1.length = s.days.length := playTo_len _ _ _ _
                have htie := fun (hF : faultTo s noms other s.days.length = none) hc => best_tie ok hne hpl hF hc
                have hbst := bestOf_yes hvb hno hne
                have hble := fun hF => (best_le ok (noms := noms) hpl hF).1
                generalize hpp : (planTo s noms s.days.length).1 = pl at *
                generalize hff : (playTo s noms pl s.days.length).1 = fl at *
                generalize hbb : bestCost s noms = bc at *
                have hlr : ((fl.length : Int) != (s.days.length : Int)) = false := by rw [hfl]; simp
                obtain ⟨da, dcap, rfl, hdm, -⟩ := hd
                unfold maxLen at hdm
                have hA : Hid (∀ g : Grow W, Calls Try.prog 17 #[.agg #[.int .i64 s.space, .int .i64 s.start, .int .i64 s.elo, .int .i64 s.ehi, rv, .slice da s.days.length dcap], nv] g.x fun e w' => (∃ a cap, e = .returned (.tuple #[.slice a pl.length cap, .int .i64 bc, .int .i64 0]) ∧ IntsAt w' (.slice a pl.length cap) pl) ∧ Below g.x.heap.size g.x w') := fun g => progBestT g.x (hsg g) (hng g) hbst
                have hP : Hid (∀ g : Grow W, ∀ v, IntsAt g.x v pl → Calls Try.prog 46 #[.agg #[.int .i64 s.space, .int .i64 s.start, .int .i64 s.elo, .int .i64 s.ehi, rv, .slice da s.days.length dcap], v] g.x fun e w' => e = .returned (.bool true) ∧ Below g.x.heap.size g.x w') := fun g v hv => refPlanT g.x (hsg g) hv hbp
                have hC : Hid (∀ g : Grow W, ∀ v, IntsAt g.x v pl → Calls Try.prog 45 #[.agg #[.int .i64 s.space, .int .i64 s.start, .int .i64 s.elo, .int .i64 s.ehi, rv, .slice da s.days.length dcap], nv, v] g.x fun e w' => (∃ a cap, e = .returned (.tuple #[.slice a (fl).length cap, .int .i64 bc, .agg #[.int .i64 0, .int .i64 1], .int .i64 0]) ∧ IntsAt w' (.slice a (fl).length cap) (fl)) ∧ Below g.x.heap.size g.x w') := fun g v hv => progPlayT g.x (hsg g) (hng g) hv hvb hno hbp hbo
                rcases play_two (noms := noms) hpl with ⟨l, c, d, r, hpo, hr1⟩ | ⟨hF, hpo⟩
                · skip
                  have hrb : (r != 1) = true := by simpa using hr1
                  replace hr1 := Lib.hid hr1
                  have hB : Hid (∀ g : Grow W, Calls Try.prog 45 #[.agg #[.int .i64 s.space, .int .i64 s.start, .int .i64 s.elo, .int .i64 s.ehi, rv, .slice da s.days.length dcap], nv, ov] g.x fun e w' => (∃ a cap, e = .returned (.tuple #[.slice a (l).length cap, .int .i64 c, .agg #[.int .i64 d, .int .i64 r], .int .i64 0]) ∧ IntsAt w' (.slice a (l).length cap) (l)) ∧ Below g.x.heap.size g.x w') := fun g => progPlayT g.x (hsg g) (hng g) (hog g) hvb hno hpl hpo
                  replace hvb := Lib.hid hvb
                  replace hno := Lib.hid hno
                  replace hpl := Lib.hid hpl
                  replace hne := Lib.hid hne
                  replace hpo := Lib.hid hpo
                  replace hbp := Lib.hid hbp
                  replace hbf := Lib.hid hbf
                  replace hbc := Lib.hid hbc
                  replace hbo := Lib.hid hbo
                  replace hfl := Lib.hid hfl
                  replace hbst := Lib.hid hbst
                  replace hpp := Lib.hid hpp
                  replace hff := Lib.hid hff
                  replace hbb := Lib.hid hbb
                  clear hng hog ok htie hble
                  clear hsg
                  go_enter Try.func10, Try.ntmps10
                  go_wp2_with (first
                    | (go_at_call 14; ((with_reducible refine Calls.mono (hS.out) ?_); rintro e w' ⟨rfl, hb1⟩; obtain ⟨g1, rfl⟩ : ∃ g1 : Grow W, w' = g1.x := ⟨⟨w', hb1⟩, rfl⟩))
                    | (go_at_call 15; ((with_reducible refine Calls.mono (hL.out g1) ?_); rintro e w' ⟨rfl, hb2⟩; obtain ⟨g2, rfl⟩ := g1.next hb2))
                    | (go_at_call 15; ((with_reducible refine Calls.mono (hM.out g2) ?_); rintro e w' ⟨rfl, hb3⟩; obtain ⟨g3, rfl⟩ := g2.next hb3))
                    | (go_at_call 19; ((with_reducible refine Calls.mono (hR.out g3) ?_); rintro e w' ⟨rfl, hb4⟩; obtain ⟨g4, rfl⟩ := g3.next hb4))
                    | (go_at_call 20; ((with_reducible refine Calls.mono (hN.out g4) ?_); rintro e w' ⟨rfl, hb5⟩; obtain ⟨g5, rfl⟩ := g4.next hb5))
                    | (go_at_call 46; ((with_reducible refine Calls.mono (hQ.out g5) ?_); rintro e w' ⟨rfl, hb6⟩; obtain ⟨g6, rfl⟩ := g5.next hb6))
                    | (go_at_call 17; ((with_reducible refine Calls.mono (hA.out g6) ?_); rintro e w' ⟨⟨pa, pcap, rfl, hp⟩, hb7⟩; obtain ⟨g7, rfl⟩ := g6.next hb7))
                    | (go_at_call 45; ((with_reducible refine Calls.mono (hB.out g7) ?_); rintro e w' ⟨⟨oa, ocap, rfl, -⟩, hb8⟩; obtain ⟨g8, rfl⟩ := g7.next hb8); obtain ⟨g9, hg9⟩ := g8.alloc (.cells #[.int .i64 d, .int .i64 r] 74); have hnw9 := World.alloc_heap_new g8.x (.cells #[.int .i64 d, .int .i64 r] 74); rw [hg9] at hnw9; have hb9 : Below g8.x.heap.size g8.x g9.x := (by rw [← hg9]; exact below_al (Below.refl _ _) _); have dn9 := (row_cells hnw9).2.1; clear hnw9; have cx0 := dn9 0; have cx1 := dn9 1; simp only [List.getElem?_toArray, List.getElem?_cons_zero, List.getElem?_cons_succ] at cx0 cx1; clear dn9)
                    | (go_at_call 46; ((with_reducible refine Calls.mono (hP.out g9 _ (hp.mono (below_tr hb8 hb9))) ?_); rintro e w' ⟨rfl, hb10⟩; obtain ⟨g10, rfl⟩ := g9.next hb10; have cx0 := kept_cell hb10 cx0; have cx1 := kept_cell hb10 cx1))
                    | (go_at_call 45; ((with_reducible refine Calls.mono (hC.out g10 _ (hp.mono (below_tr (below_tr hb8 hb9) hb10))) ?_); rintro e w' ⟨⟨qa, qcap, rfl, -⟩, hb11⟩; obtain ⟨g11, rfl⟩ := g10.next hb11; have cx0 := kept_cell hb11 cx0; have cx1 := kept_cell hb11 cx1); obtain ⟨g12, hg12⟩ := g11.alloc (.cells #[.int .i64 0, .int .i64 1] 74); have hnw12 := World.alloc_heap_new g11.x (.cells #[.int .i64 0, .int .i64 1] 74); rw [hg12] at hnw12; have hb12 : Below g11.x.heap.size g11.x g12.x := (by rw [← hg12]; exact below_al (Below.refl _ _) _); have dn12 := (row_cells hnw12).2.1; clear hnw12; have cx0 := kept_cell hb12 cx0; have cx1 := kept_cell hb12 cx1; have cy0 := dn12 0; have cy1 := dn12 1; simp only [List.getElem?_toArray, List.getElem?_cons_zero, List.getElem?_cons_succ] at cy0 cy1; clear dn12)
                    | (go_at_call 16; ((with_reducible refine Calls.mono (hK.out _) ?_); rintro e w' ⟨rfl, hb13⟩; obtain ⟨g13, rfl⟩ := g12.next hb13; have cx0 := kept_cell hb13 cx0; have cx1 := kept_cell hb13 cx1; have cy0 := kept_cell hb13 cy0; have cy1 := kept_cell hb13 cy1)))
                  go_ret
                  exact ⟨rfl, hBw.trans (g13.h.mono (Nat.le_of_lt hsz))⟩
                · skip
                  have hge := hble hF
                  have htie2 := htie hF
                  clear htie hble
                  generalize (playTo s noms other s.days.length).2.2 = c at *
                  generalize (playTo s noms other s.days.length).1 = l at *
                  replace hF := Lib.hid hF
                  have hB : Hid (∀ g : Grow W, Calls Try.prog 45 #[.agg #[.int .i64 s.space, .int .i64 s.start, .int .i64 s.elo, .int .i64 s.ehi, rv, .slice da s.days.length dcap], nv, ov] g.x fun e w' => (∃ a cap, e = .returned (.tuple #[.slice a (l).length cap, .int .i64 c, .agg #[.int .i64 0, .int .i64 1], .int .i64 0]) ∧ IntsAt w' (.slice a (l).length cap) (l)) ∧ Below g.x.heap.size g.x w') := fun g => progPlayT g.x (hsg g) (hng g) (hog g) hvb hno hpl hpo
                  by_cases hgt : bc < c
                  · skip
                    replace hvb := Lib.hid hvb
                    replace hno := Lib.hid hno
                    replace hpl := Lib.hid hpl
                    replace hne := Lib.hid hne
                    replace hpo := Lib.hid hpo
                    replace hbp := Lib.hid hbp
                    replace hbf := Lib.hid hbf
                    replace hbc := Lib.hid hbc
                    replace hbo := Lib.hid hbo
                    replace hfl := Lib.hid hfl
                    replace hbst := Lib.hid hbst
                    replace hpp := Lib.hid hpp
                    replace hff := Lib.hid hff
                    replace hbb := Lib.hid hbb
                    replace htie2 := Lib.hid htie2
                    clear hng hog ok
                    clear hsg
                    go_enter Try.func10, Try.ntmps10
                    go_wp2_with (first
                      | (go_at_call 14; ((with_reducible refine Calls.mono (hS.out) ?_); rintro e w' ⟨rfl, hb1⟩; obtain ⟨g1, rfl⟩ : ∃ g1 : Grow W, w' = g1.x := ⟨⟨w', hb1⟩, rfl⟩))
                      | (go_at_call 15; ((with_reducible refine Calls.mono (hL.out g1) ?_); rintro e w' ⟨rfl, hb2⟩; obtain ⟨g2, rfl⟩ := g1.next hb2))
                      | (go_at_call 15; ((with_reducible refine Calls.mono (hM.out g2) ?_); rintro e w' ⟨rfl, hb3⟩; obtain ⟨g3, rfl⟩ := g2.next hb3))
                      | (go_at_call 19; ((with_reducible refine Calls.mono (hR.out g3) ?_); rintro e w' ⟨rfl, hb4⟩; obtain ⟨g4, rfl⟩ := g3.next hb4))
                      | (go_at_call 20; ((with_reducible refine Calls.mono (hN.out g4) ?_); rintro e w' ⟨rfl, hb5⟩; obtain ⟨g5, rfl⟩ := g4.next hb5))
                      | (go_at_call 46; ((with_reducible refine Calls.mono (hQ.out g5) ?_); rintro e w' ⟨rfl, hb6⟩; obtain ⟨g6, rfl⟩ := g5.next hb6))
                      | (go_at_call 17; ((with_reducible refine Calls.mono (hA.out g6) ?_); rintro e w' ⟨⟨pa, pcap, rfl, hp⟩, hb7⟩; obtain ⟨g7, rfl⟩ := g6.next hb7))
                      | (go_at_call 45; ((with_reducible refine Calls.mono (hB.out g7) ?_); rintro e w' ⟨⟨oa, ocap, rfl, -⟩, hb8⟩; obtain ⟨g8, rfl⟩ := g7.next hb8); obtain ⟨g9, hg9⟩ := g8.alloc (.cells #[.int .i64 0, .int .i64 1] 74); have hnw9 := World.alloc_heap_new g8.x (.cells #[.int .i64 0, .int .i64 1] 74); rw [hg9] at hnw9; have hb9 : Below g8.x.heap.size g8.x g9.x := (by rw [← hg9]; exact below_al (Below.refl _ _) _); have dn9 := (row_cells hnw9).2.1; clear hnw9; have cx0 := dn9 0; have cx1 := dn9 1; simp only [List.getElem?_toArray, List.getElem?_cons_zero, List.getElem?_cons_succ] at cx0 cx1; clear dn9)
                      | (go_at_call 46; ((with_reducible refine Calls.mono (hP.out g9 _ (hp.mono (below_tr hb8 hb9))) ?_); rintro e w' ⟨rfl, hb10⟩; obtain ⟨g10, rfl⟩ := g9.next hb10; have cx0 := kept_cell hb10 cx0; have cx1 := kept_cell hb10 cx1))
                      | (go_at_call 45; ((with_reducible refine Calls.mono (hC.out g10 _ (hp.mono (below_tr (below_tr hb8 hb9) hb10))) ?_); rintro e w' ⟨⟨qa, qcap, rfl, -⟩, hb11⟩; obtain ⟨g11, rfl⟩ := g10.next hb11; have cx0 := kept_cell hb11 cx0; have cx1 := kept_cell hb11 cx1); obtain ⟨g12, hg12⟩ := g11.alloc (.cells #[.int .i64 0, .int .i64 1] 74); have hnw12 := World.alloc_heap_new g11.x (.cells #[.int .i64 0, .int .i64 1] 74); rw [hg12] at hnw12; have hb12 : Below g11.x.heap.size g11.x g12.x := (by rw [← hg12]; exact below_al (Below.refl _ _) _); have dn12 := (row_cells hnw12).2.1; clear hnw12; have cx0 := kept_cell hb12 cx0; have cx1 := kept_cell hb12 cx1; have cy0 := dn12 0; have cy1 := dn12 1; simp only [List.getElem?_toArray, List.getElem?_cons_zero, List.getElem?_cons_succ] at cy0 cy1; clear dn12)
                      | (go_at_call 16; ((with_reducible refine Calls.mono (hK.out _) ?_); rintro e w' ⟨rfl, hb13⟩; obtain ⟨g13, rfl⟩ := g12.next hb13; have cx0 := kept_cell hb13 cx0; have cx1 := kept_cell hb13 cx1; have cy0 := kept_cell hb13 cy0; have cy1 := kept_cell hb13 cy1)))
                    go_ret
                    exact ⟨rfl, hBw.trans (g13.h.mono (Nat.le_of_lt hsz))⟩
                  · skip
                    obtain rfl : c = bc := by omega
                    have hbf2 := htie2 rfl
                    have hD : Hid (∀ g : Grow W, ∀ v, IntsAt g.x v pl → Calls Try.prog 48 #[ov, v] g.x fun e w' => e = .returned (.bool false) ∧ Below g.x.heap.size g.x w') := fun g v hv => by have := refBefore ov v other pl g.x (hog g) hv; rw [hbf2] at this; exact this
                    replace hvb := Lib.hid hvb
                    replace hno := Lib.hid hno
                    replace hpl := Lib.hid hpl
                    replace hne := Lib.hid hne
                    replace hpo := Lib.hid hpo
                    replace hbp := Lib.hid hbp
                    replace hbf := Lib.hid hbf
                    replace hbc := Lib.hid hbc
                    replace hbo := Lib.hid hbo
                    replace hfl := Lib.hid hfl
                    replace hbst := Lib.hid hbst
                    replace hpp := Lib.hid hpp
                    replace hff := Lib.hid hff
                    replace hbb := Lib.hid hbb
                    replace htie2 := Lib.hid htie2
                    replace hbf2 := Lib.hid hbf2
                    clear hng hog ok
                    clear hsg
                    go_enter Try.func10, Try.ntmps10
                    go_wp2_with (first
                      | (go_at_call 14; ((with_reducible refine Calls.mono (hS.out) ?_); rintro e w' ⟨rfl, hb1⟩; obtain ⟨g1, rfl⟩ : ∃ g1 : Grow W, w' = g1.x := ⟨⟨w', hb1⟩, rfl⟩))
                      | (go_at_call 15; ((with_reducible refine Calls.mono (hL.out g1) ?_); rintro e w' ⟨rfl, hb2⟩; obtain ⟨g2, rfl⟩ := g1.next hb2))
                      | (go_at_call 15; ((with_reducible refine Calls.mono (hM.out g2) ?_); rintro e w' ⟨rfl, hb3⟩; obtain ⟨g3, rfl⟩ := g2.next hb3))
                      | (go_at_call 19; ((with_reducible refine Calls.mono (hR.out g3) ?_); rintro e w' ⟨rfl, hb4⟩; obtain ⟨g4, rfl⟩ := g3.next hb4))
                      | (go_at_call 20; ((with_reducible refine Calls.mono (hN.out g4) ?_); rintro e w' ⟨rfl, hb5⟩; obtain ⟨g5, rfl⟩ := g4.next hb5))
                      | (go_at_call 46; ((with_reducible refine Calls.mono (hQ.out g5) ?_); rintro e w' ⟨rfl, hb6⟩; obtain ⟨g6, rfl⟩ := g5.next hb6))
                      | (go_at_call 17; ((with_reducible refine Calls.mono (hA.out g6) ?_); rintro e w' ⟨⟨pa, pcap, rfl, hp⟩, hb7⟩; obtain ⟨g7, rfl⟩ := g6.next hb7))
                      | (go_at_call 45; ((with_reducible refine Calls.mono (hB.out g7) ?_); rintro e w' ⟨⟨oa, ocap, rfl, -⟩, hb8⟩; obtain ⟨g8, rfl⟩ := g7.next hb8); obtain ⟨g9, hg9⟩ := g8.alloc (.cells #[.int .i64 0, .int .i64 1] 74); have hnw9 := World.alloc_heap_new g8.x (.cells #[.int .i64 0, .int .i64 1] 74); rw [hg9] at hnw9; have hb9 : Below g8.x.heap.size g8.x g9.x := (by rw [← hg9]; exact below_al (Below.refl _ _) _); have dn9 := (row_cells hnw9).2.1; clear hnw9; have cx0 := dn9 0; have cx1 := dn9 1; simp only [List.getElem?_toArray, List.getElem?_cons_zero, List.getElem?_cons_succ] at cx0 cx1; clear dn9)
                      | (go_at_call 46; ((with_reducible refine Calls.mono (hP.out g9 _ (hp.mono (below_tr hb8 hb9))) ?_); rintro e w' ⟨rfl, hb10⟩; obtain ⟨g10, rfl⟩ := g9.next hb10; have cx0 := kept_cell hb10 cx0; have cx1 := kept_cell hb10 cx1))
                      | (go_at_call 45; ((with_reducible refine Calls.mono (hC.out g10 _ (hp.mono (below_tr (below_tr hb8 hb9) hb10))) ?_); rintro e w' ⟨⟨qa, qcap, rfl, -⟩, hb11⟩; obtain ⟨g11, rfl⟩ := g10.next hb11; have cx0 := kept_cell hb11 cx0; have cx1 := kept_cell hb11 cx1); obtain ⟨g12, hg12⟩ := g11.alloc (.cells #[.int .i64 0, .int .i64 1] 74); have hnw12 := World.alloc_heap_new g11.x (.cells #[.int .i64 0, .int .i64 1] 74); rw [hg12] at hnw12; have hb12 : Below g11.x.heap.size g11.x g12.x := (by rw [← hg12]; exact below_al (Below.refl _ _) _); have dn12 := (row_cells hnw12).2.1; clear hnw12; have cx0 := kept_cell hb12 cx0; have cx1 := kept_cell hb12 cx1; have cy0 := dn12 0; have cy1 := dn12 1; simp only [List.getElem?_toArray, List.getElem?_cons_zero, List.getElem?_cons_succ] at cy0 cy1; clear dn12)
                      | (go_at_call 48; ((with_reducible refine Calls.mono (hD.out g12 _ (hp.mono (below_tr (below_tr (below_tr (below_tr hb8 hb9) hb10) hb11) hb12))) ?_); rintro e w' ⟨rfl, hb13⟩; obtain ⟨g13, rfl⟩ := g12.next hb13; have cx0 := kept_cell hb13 cx0; have cx1 := kept_cell hb13 cx1; have cy0 := kept_cell hb13 cy0; have cy1 := kept_cell hb13 cy1))
                      | (go_at_call 16; ((with_reducible refine Calls.mono (hK.out _) ?_); rintro e w' ⟨rfl, hb14⟩; obtain ⟨g14, rfl⟩ := g13.next hb14; have cx0 := kept_cell hb14 cx0; have cx1 := kept_cell hb14 cx1; have cy0 := kept_cell hb14 cy0; have cy1 := kept_cell hb14 cy1)))
                    go_ret
                    exact ⟨rfl, hBw.trans (g14.h.mono (Nat.le_of_lt hsz))⟩
end Go.Proofs.Ytacajmpggjgaiaa
