/- Walks: the law of plans. -/
import Derived.Test.YtacajmpggjgaiaaQ4
import Derived.Test.YtacajmpggjgaiaaS4
set_option linter.unusedVariables false
set_option linter.unusedSimpArgs false
namespace Go.Proofs.Ytacajmpggjgaiaa
open Go.RowKit Go.Sd

theorem fields_fault : (Try.prog.fieldsOf 74).toList = [⟨"Day", 3, 0, false, "", "", 0⟩, ⟨"Rule", 72, 1, false, "", "", 8⟩] := by kernel_rfl
theorem eqRule (d : Nat) (a b : Int) (w : World) : (Op.equalIn (d + 1) 72 (.int .i64 a) (.int .i64 b)).run Try.prog w = .ok (a == b) w := by
  simp [Op.equalIn, run_underlying Try.underlying72]
theorem eqRule9 (a b : Int) (w : World) : (Op.equalIn 9999 72 (.int .i64 a) (.int .i64 b)).run Try.prog w = .ok (a == b) w := eqRule 9998 a b w
theorem partRule (x y : Value) (w : World) : (part 72 #[x, y] 1).run Try.prog w = .ok y w := by
  simp [part, isAgg, run_underlying Try.underlying72]
theorem run_eql_fault (a b : Int) (w : World) : (binOp .eql 74 (.agg #[.int .i64 a, .int .i64 b]) (.agg #[.int .i64 a, .int .i64 b])).run Try.prog w = .ok (.bool true) w := by
  rw [run_eql_struct, run_equalIn_struct w 9999 74 _ _ (by kernel_rfl) (by kernel_rfl), fields_fault]
  simp only [Op.eqFields]
  rw [if_pos (by decide), if_pos (by decide)]
  simp [Sem.run_bind, Sem.run_ite, part0, partRule, eqInt9, eqRule9, Sem.run]

theorem progPlayT {sv nv pv : Value} {s : Sea.S} {noms plan l : List Int} {c d r : Int} (w : World) (hs : SeasonAt w sv s) (hn : IntsAt w nv noms) (hp : IntsAt w pv plan) (ht : Sea.validB s = true) (hno : s.nomsB noms = true) (hpl : planB s plan = true) (h : playOf s noms plan = (l, c, d, r)) :
    Calls Try.prog 45 #[sv, nv, pv] w fun e w' => (∃ a cap, e = .returned (.tuple #[.slice a l.length cap, .int .i64 c, .agg #[.int .i64 d, .int .i64 r], .int .i64 0]) ∧ IntsAt w' (.slice a l.length cap) l) ∧ Below w.heap.size w w' := by
  refine (progPlayYes sv nv pv s noms plan w hs hn hp ht hno hpl).mono fun e w' hpo => ?_
  unfold PlayPost at hpo
  rw [h] at hpo
  obtain ⟨⟨v, he, ho⟩, hb⟩ := hpo
  obtain ⟨a, cap, rfl⟩ := ho.form
  exact ⟨⟨a, cap, he, ho⟩, hb⟩
theorem refPlayT {sv nv pv : Value} {s : Sea.S} {noms plan l : List Int} {c d r : Int} (w : World) (hs : SeasonAt w sv s) (hn : IntsAt w nv noms) (hp : IntsAt w pv plan) (ok : Sea.Ok s) (hno : s.nomsB noms = true) (hpl : planB s plan = true) (h : playOf s noms plan = (l, c, d, r)) :
    Calls Try.prog 47 #[sv, nv, pv] w fun e w' => (∃ v, e = .returned (.tuple #[v, .int .i64 c, .agg #[.int .i64 d, .int .i64 r]]) ∧ IntsAt w' v l) ∧ Below w.heap.size w w' := by
  refine (refPlay sv nv pv s noms plan w hs hn hp ok hno hpl).mono fun e w' hpo => ?_
  unfold RefPlayPost at hpo
  rw [h] at hpo
  exact hpo

set_option maxRecDepth 100000 in
set_option maxHeartbeats 16000000 in
/-- The law of plans. -/
theorem lawPlays (sv nv pv : Value) (s : Sea.S) (noms plan : List Int) (w : World) (hs : SeasonAt w sv s) (hn : IntsAt w nv noms) (hp : IntsAt w pv plan) :
    Calls Try.prog 9 #[sv, nv, pv] w fun e w' => e = .returned (.bool true) ∧ Below w.heap.size w w' := by
  have hs' := hs
  obtain ⟨rv, dv, rfl, hr, hd⟩ := hs'
  obtain ⟨W, hW⟩ : ∃ W, w.alloc (sBox s rv dv) = W := ⟨_, rfl⟩
  obtain ⟨hsz, hBw, q0, q1, q2, q3, q4, q5⟩ := box_season hW
  have hg := grow_cell W
  have hK : Hid (∀ (w : World), Calls Try.prog 16 #[] w fun e w' => e = .returned (.bool true) ∧ Below w.heap.size w w') := progKnown
  have hsg : ∀ g : Grow W, SeasonAt g.x (.agg #[.int .i64 s.space, .int .i64 s.start, .int .i64 s.elo, .int .i64 s.ehi, rv, dv]) s := fun g => (hs.mono hBw).mono g.h
  have hng : ∀ g : Grow W, IntsAt g.x nv noms := fun g => (hn.mono hBw).mono g.h
  have hpg : ∀ g : Grow W, IntsAt g.x pv plan := fun g => (hp.mono hBw).mono g.h
  have hre := run_eql_fault
  cases hsm : shortB s
  · skip
    have hS : Hid (Calls Try.prog 37 #[.agg #[.int .i64 s.space, .int .i64 s.start, .int .i64 s.elo, .int .i64 s.ehi, rv, dv]] W fun e w' => e = .returned (.bool false) ∧ Below W.heap.size W w') := lawShort W (hs.mono hBw) hsm
    replace hsm := Lib.hid hsm
    clear hng hpg
    clear hsg
    go_enter Try.func9, Try.ntmps9
    go_wp2_with (first
      | (go_at_call 37; ((with_reducible refine Calls.mono (hS.out) ?_); rintro e w' ⟨rfl, hb1⟩; obtain ⟨g1, rfl⟩ : ∃ g1 : Grow W, w' = g1.x := ⟨⟨w', hb1⟩, rfl⟩))
      | (go_at_call 16; ((with_reducible refine Calls.mono (hK.out _) ?_); rintro e w' ⟨rfl, hb2⟩; obtain ⟨g2, rfl⟩ := g1.next hb2)))
    go_ret
    exact ⟨rfl, hBw.trans (g2.h.mono (Nat.le_of_lt hsz))⟩
  · skip
    have hS : Hid (Calls Try.prog 37 #[.agg #[.int .i64 s.space, .int .i64 s.start, .int .i64 s.elo, .int .i64 s.ehi, rv, dv]] W fun e w' => e = .returned (.bool true) ∧ Below W.heap.size W w') := lawShort W (hs.mono hBw) hsm
    replace hsm := Lib.hid hsm
    cases hli : decide (noms.length ≤ 25)
    · skip
      have hL : Hid (∀ g : Grow W, Calls Try.prog 15 #[nv] g.x fun e w' => e = .returned (.bool false) ∧ Below g.x.heap.size g.x w') := fun g => (lawListed g.x (hng g) hli).mono fun _ _ ⟨h1, h2⟩ => ⟨h1, by rw [h2]; exact Below.refl _ _⟩
      replace hli := Lib.hid hli
      clear hng hpg
      clear hsg
      go_enter Try.func9, Try.ntmps9
      go_wp2_with (first
        | (go_at_call 37; ((with_reducible refine Calls.mono (hS.out) ?_); rintro e w' ⟨rfl, hb1⟩; obtain ⟨g1, rfl⟩ : ∃ g1 : Grow W, w' = g1.x := ⟨⟨w', hb1⟩, rfl⟩))
        | (go_at_call 15; ((with_reducible refine Calls.mono (hL.out g1) ?_); rintro e w' ⟨rfl, hb2⟩; obtain ⟨g2, rfl⟩ := g1.next hb2))
        | (go_at_call 16; ((with_reducible refine Calls.mono (hK.out _) ?_); rintro e w' ⟨rfl, hb3⟩; obtain ⟨g3, rfl⟩ := g2.next hb3)))
      go_ret
      exact ⟨rfl, hBw.trans (g3.h.mono (Nat.le_of_lt hsz))⟩
    · skip
      have hL : Hid (∀ g : Grow W, Calls Try.prog 15 #[nv] g.x fun e w' => e = .returned (.bool true) ∧ Below g.x.heap.size g.x w') := fun g => (lawListed g.x (hng g) hli).mono fun _ _ ⟨h1, h2⟩ => ⟨h1, by rw [h2]; exact Below.refl _ _⟩
      replace hli := Lib.hid hli
      cases hlp : decide (plan.length ≤ 25)
      · skip
        have hM : Hid (∀ g : Grow W, Calls Try.prog 15 #[pv] g.x fun e w' => e = .returned (.bool false) ∧ Below g.x.heap.size g.x w') := fun g => (lawListed g.x (hpg g) hlp).mono fun _ _ ⟨h1, h2⟩ => ⟨h1, by rw [h2]; exact Below.refl _ _⟩
        replace hlp := Lib.hid hlp
        clear hng hpg
        clear hsg
        go_enter Try.func9, Try.ntmps9
        go_wp2_with (first
          | (go_at_call 37; ((with_reducible refine Calls.mono (hS.out) ?_); rintro e w' ⟨rfl, hb1⟩; obtain ⟨g1, rfl⟩ : ∃ g1 : Grow W, w' = g1.x := ⟨⟨w', hb1⟩, rfl⟩))
          | (go_at_call 15; ((with_reducible refine Calls.mono (hL.out g1) ?_); rintro e w' ⟨rfl, hb2⟩; obtain ⟨g2, rfl⟩ := g1.next hb2))
          | (go_at_call 15; ((with_reducible refine Calls.mono (hM.out g2) ?_); rintro e w' ⟨rfl, hb3⟩; obtain ⟨g3, rfl⟩ := g2.next hb3))
          | (go_at_call 16; ((with_reducible refine Calls.mono (hK.out _) ?_); rintro e w' ⟨rfl, hb4⟩; obtain ⟨g4, rfl⟩ := g3.next hb4)))
        go_ret
        exact ⟨rfl, hBw.trans (g4.h.mono (Nat.le_of_lt hsz))⟩
      · skip
        have hM : Hid (∀ g : Grow W, Calls Try.prog 15 #[pv] g.x fun e w' => e = .returned (.bool true) ∧ Below g.x.heap.size g.x w') := fun g => (lawListed g.x (hpg g) hlp).mono fun _ _ ⟨h1, h2⟩ => ⟨h1, by rw [h2]; exact Below.refl _ _⟩
        replace hlp := Lib.hid hlp
        cases hvb : Sea.validB s
        · skip
          have hR : Hid (∀ g : Grow W, Calls Try.prog 19 #[.agg #[.int .i64 s.space, .int .i64 s.start, .int .i64 s.elo, .int .i64 s.ehi, rv, dv]] g.x fun e w' => e = .returned (.bool false) ∧ Below g.x.heap.size g.x w') := fun g => refSeasonT g.x (hsg g) hvb
          have hbad : Sea.validB s = false ∨ s.nomsB noms = false ∨ planB s plan = false := .inl hvb
          have hA : Hid (∀ g : Grow W, Calls Try.prog 45 #[.agg #[.int .i64 s.space, .int .i64 s.start, .int .i64 s.elo, .int .i64 s.ehi, rv, dv], nv, pv] g.x fun e w' => e = .returned (.tuple #[.slice none 0 0, .int .i64 0, .agg #[.int .i64 0, .int .i64 0], .int .i64 2]) ∧ Below g.x.heap.size g.x w') := fun g => progPlayNo _ _ _ s noms plan g.x (hsg g) (hng g) (hpg g) hbad
          replace hvb := Lib.hid hvb
          replace hbad := Lib.hid hbad
          clear hng hpg
          clear hsg
          go_enter Try.func9, Try.ntmps9
          go_wp2_with (first
            | (go_at_call 37; ((with_reducible refine Calls.mono (hS.out) ?_); rintro e w' ⟨rfl, hb1⟩; obtain ⟨g1, rfl⟩ : ∃ g1 : Grow W, w' = g1.x := ⟨⟨w', hb1⟩, rfl⟩))
            | (go_at_call 15; ((with_reducible refine Calls.mono (hL.out g1) ?_); rintro e w' ⟨rfl, hb2⟩; obtain ⟨g2, rfl⟩ := g1.next hb2))
            | (go_at_call 15; ((with_reducible refine Calls.mono (hM.out g2) ?_); rintro e w' ⟨rfl, hb3⟩; obtain ⟨g3, rfl⟩ := g2.next hb3))
            | (go_at_call 45; ((with_reducible refine Calls.mono (hA.out g3) ?_); rintro e w' ⟨rfl, hb4⟩; obtain ⟨g4, rfl⟩ := g3.next hb4); obtain ⟨g5, hg5⟩ := g4.alloc (.cells #[.int .i64 0, .int .i64 0] 74); have hld5 : ∀ (b o : Nat), b < W.heap.size → (g4.x.alloc (.cells #[.int .i64 0, .int .i64 0] 74)).cell? ⟨b, o, none⟩ = W.cell? ⟨b, o, none⟩ := (fun b o h => by rw [hg5]; exact hg g5 b o h); replace hg5 := Lib.hid hg5)
            | (go_at_call 19; have hnw5 := World.alloc_heap_new g4.x (.cells #[.int .i64 0, .int .i64 0] 74); rw [hg5.out] at hnw5; have hb5 : Below g4.x.heap.size g4.x g5.x := (by rw [← hg5.out]; exact below_al (Below.refl _ _) _); have dn5 := (row_cells hnw5).2.1; clear hnw5; have cx0 := dn5 0; have cx1 := dn5 1; simp only [List.getElem?_toArray, List.getElem?_cons_zero, List.getElem?_cons_succ] at cx0 cx1; clear dn5; rw [hg5.out]; clear hld5; ((with_reducible refine Calls.mono (hR.out g5) ?_); rintro e w' ⟨rfl, hb6⟩; obtain ⟨g6, rfl⟩ := g5.next hb6; have cx0 := kept_cell hb6 cx0; have cx1 := kept_cell hb6 cx1))
            | (go_at_call 16; ((with_reducible refine Calls.mono (hK.out _) ?_); rintro e w' ⟨rfl, hb7⟩; obtain ⟨g7, rfl⟩ := g6.next hb7; have cx0 := kept_cell hb7 cx0; have cx1 := kept_cell hb7 cx1)))
          go_ret
          exact ⟨rfl, hBw.trans (g7.h.mono (Nat.le_of_lt hsz))⟩
        · skip
          have hR : Hid (∀ g : Grow W, Calls Try.prog 19 #[.agg #[.int .i64 s.space, .int .i64 s.start, .int .i64 s.elo, .int .i64 s.ehi, rv, dv]] g.x fun e w' => e = .returned (.bool true) ∧ Below g.x.heap.size g.x w') := fun g => refSeasonT g.x (hsg g) hvb
          cases hno : s.nomsB noms
          · skip
            have hN : Hid (∀ g : Grow W, Calls Try.prog 20 #[.agg #[.int .i64 s.space, .int .i64 s.start, .int .i64 s.elo, .int .i64 s.ehi, rv, dv], nv] g.x fun e w' => e = .returned (.bool false) ∧ Below g.x.heap.size g.x w') := fun g => refNomsT g.x (hsg g) (hng g) hno
            have hbad : Sea.validB s = false ∨ s.nomsB noms = false ∨ planB s plan = false := .inr (.inl hno)
            have hA : Hid (∀ g : Grow W, Calls Try.prog 45 #[.agg #[.int .i64 s.space, .int .i64 s.start, .int .i64 s.elo, .int .i64 s.ehi, rv, dv], nv, pv] g.x fun e w' => e = .returned (.tuple #[.slice none 0 0, .int .i64 0, .agg #[.int .i64 0, .int .i64 0], .int .i64 2]) ∧ Below g.x.heap.size g.x w') := fun g => progPlayNo _ _ _ s noms plan g.x (hsg g) (hng g) (hpg g) hbad
            replace hvb := Lib.hid hvb
            replace hno := Lib.hid hno
            replace hbad := Lib.hid hbad
            clear hng hpg
            clear hsg
            go_enter Try.func9, Try.ntmps9
            go_wp2_with (first
              | (go_at_call 37; ((with_reducible refine Calls.mono (hS.out) ?_); rintro e w' ⟨rfl, hb1⟩; obtain ⟨g1, rfl⟩ : ∃ g1 : Grow W, w' = g1.x := ⟨⟨w', hb1⟩, rfl⟩))
              | (go_at_call 15; ((with_reducible refine Calls.mono (hL.out g1) ?_); rintro e w' ⟨rfl, hb2⟩; obtain ⟨g2, rfl⟩ := g1.next hb2))
              | (go_at_call 15; ((with_reducible refine Calls.mono (hM.out g2) ?_); rintro e w' ⟨rfl, hb3⟩; obtain ⟨g3, rfl⟩ := g2.next hb3))
              | (go_at_call 45; ((with_reducible refine Calls.mono (hA.out g3) ?_); rintro e w' ⟨rfl, hb4⟩; obtain ⟨g4, rfl⟩ := g3.next hb4); obtain ⟨g5, hg5⟩ := g4.alloc (.cells #[.int .i64 0, .int .i64 0] 74); have hld5 : ∀ (b o : Nat), b < W.heap.size → (g4.x.alloc (.cells #[.int .i64 0, .int .i64 0] 74)).cell? ⟨b, o, none⟩ = W.cell? ⟨b, o, none⟩ := (fun b o h => by rw [hg5]; exact hg g5 b o h); replace hg5 := Lib.hid hg5)
              | (go_at_call 19; have hnw5 := World.alloc_heap_new g4.x (.cells #[.int .i64 0, .int .i64 0] 74); rw [hg5.out] at hnw5; have hb5 : Below g4.x.heap.size g4.x g5.x := (by rw [← hg5.out]; exact below_al (Below.refl _ _) _); have dn5 := (row_cells hnw5).2.1; clear hnw5; have cx0 := dn5 0; have cx1 := dn5 1; simp only [List.getElem?_toArray, List.getElem?_cons_zero, List.getElem?_cons_succ] at cx0 cx1; clear dn5; rw [hg5.out]; clear hld5; ((with_reducible refine Calls.mono (hR.out g5) ?_); rintro e w' ⟨rfl, hb6⟩; obtain ⟨g6, rfl⟩ := g5.next hb6; have cx0 := kept_cell hb6 cx0; have cx1 := kept_cell hb6 cx1))
              | (go_at_call 20; ((with_reducible refine Calls.mono (hN.out g6) ?_); rintro e w' ⟨rfl, hb7⟩; obtain ⟨g7, rfl⟩ := g6.next hb7; have cx0 := kept_cell hb7 cx0; have cx1 := kept_cell hb7 cx1))
              | (go_at_call 16; ((with_reducible refine Calls.mono (hK.out _) ?_); rintro e w' ⟨rfl, hb8⟩; obtain ⟨g8, rfl⟩ := g7.next hb8; have cx0 := kept_cell hb8 cx0; have cx1 := kept_cell hb8 cx1)))
            go_ret
            exact ⟨rfl, hBw.trans (g8.h.mono (Nat.le_of_lt hsz))⟩
          · skip
            have hN : Hid (∀ g : Grow W, Calls Try.prog 20 #[.agg #[.int .i64 s.space, .int .i64 s.start, .int .i64 s.elo, .int .i64 s.ehi, rv, dv], nv] g.x fun e w' => e = .returned (.bool true) ∧ Below g.x.heap.size g.x w') := fun g => refNomsT g.x (hsg g) (hng g) hno
            cases hpl : planB s plan
            · skip
              have hQ : Hid (∀ g : Grow W, Calls Try.prog 46 #[.agg #[.int .i64 s.space, .int .i64 s.start, .int .i64 s.elo, .int .i64 s.ehi, rv, dv], pv] g.x fun e w' => e = .returned (.bool false) ∧ Below g.x.heap.size g.x w') := fun g => refPlanT g.x (hsg g) (hpg g) hpl
              have hbad : Sea.validB s = false ∨ s.nomsB noms = false ∨ planB s plan = false := .inr (.inr hpl)
              have hA : Hid (∀ g : Grow W, Calls Try.prog 45 #[.agg #[.int .i64 s.space, .int .i64 s.start, .int .i64 s.elo, .int .i64 s.ehi, rv, dv], nv, pv] g.x fun e w' => e = .returned (.tuple #[.slice none 0 0, .int .i64 0, .agg #[.int .i64 0, .int .i64 0], .int .i64 2]) ∧ Below g.x.heap.size g.x w') := fun g => progPlayNo _ _ _ s noms plan g.x (hsg g) (hng g) (hpg g) hbad
              replace hvb := Lib.hid hvb
              replace hno := Lib.hid hno
              replace hpl := Lib.hid hpl
              replace hbad := Lib.hid hbad
              clear hng hpg
              clear hsg
              go_enter Try.func9, Try.ntmps9
              go_wp2_with (first
                | (go_at_call 37; ((with_reducible refine Calls.mono (hS.out) ?_); rintro e w' ⟨rfl, hb1⟩; obtain ⟨g1, rfl⟩ : ∃ g1 : Grow W, w' = g1.x := ⟨⟨w', hb1⟩, rfl⟩))
                | (go_at_call 15; ((with_reducible refine Calls.mono (hL.out g1) ?_); rintro e w' ⟨rfl, hb2⟩; obtain ⟨g2, rfl⟩ := g1.next hb2))
                | (go_at_call 15; ((with_reducible refine Calls.mono (hM.out g2) ?_); rintro e w' ⟨rfl, hb3⟩; obtain ⟨g3, rfl⟩ := g2.next hb3))
                | (go_at_call 45; ((with_reducible refine Calls.mono (hA.out g3) ?_); rintro e w' ⟨rfl, hb4⟩; obtain ⟨g4, rfl⟩ := g3.next hb4); obtain ⟨g5, hg5⟩ := g4.alloc (.cells #[.int .i64 0, .int .i64 0] 74); have hld5 : ∀ (b o : Nat), b < W.heap.size → (g4.x.alloc (.cells #[.int .i64 0, .int .i64 0] 74)).cell? ⟨b, o, none⟩ = W.cell? ⟨b, o, none⟩ := (fun b o h => by rw [hg5]; exact hg g5 b o h); replace hg5 := Lib.hid hg5)
                | (go_at_call 19; have hnw5 := World.alloc_heap_new g4.x (.cells #[.int .i64 0, .int .i64 0] 74); rw [hg5.out] at hnw5; have hb5 : Below g4.x.heap.size g4.x g5.x := (by rw [← hg5.out]; exact below_al (Below.refl _ _) _); have dn5 := (row_cells hnw5).2.1; clear hnw5; have cx0 := dn5 0; have cx1 := dn5 1; simp only [List.getElem?_toArray, List.getElem?_cons_zero, List.getElem?_cons_succ] at cx0 cx1; clear dn5; rw [hg5.out]; clear hld5; ((with_reducible refine Calls.mono (hR.out g5) ?_); rintro e w' ⟨rfl, hb6⟩; obtain ⟨g6, rfl⟩ := g5.next hb6; have cx0 := kept_cell hb6 cx0; have cx1 := kept_cell hb6 cx1))
                | (go_at_call 20; ((with_reducible refine Calls.mono (hN.out g6) ?_); rintro e w' ⟨rfl, hb7⟩; obtain ⟨g7, rfl⟩ := g6.next hb7; have cx0 := kept_cell hb7 cx0; have cx1 := kept_cell hb7 cx1))
                | (go_at_call 46; ((with_reducible refine Calls.mono (hQ.out g7) ?_); rintro e w' ⟨rfl, hb8⟩; obtain ⟨g8, rfl⟩ := g7.next hb8; have cx0 := kept_cell hb8 cx0; have cx1 := kept_cell hb8 cx1))
                | (go_at_call 16; ((with_reducible refine Calls.mono (hK.out _) ?_); rintro e w' ⟨rfl, hb9⟩; obtain ⟨g9, rfl⟩ := g8.next hb9; have cx0 := kept_cell hb9 cx0; have cx1 := kept_cell hb9 cx1)))
              go_ret
              exact ⟨rfl, hBw.trans (g9.h.mono (Nat.le_of_lt hsz))⟩
            · skip
              have hQ : Hid (∀ g : Grow W, Calls Try.prog 46 #[.agg #[.int .i64 s.space, .int .i64 s.start, .int .i64 s.elo, .int .i64 s.ehi, rv, dv], pv] g.x fun e w' => e = .returned (.bool true) ∧ Below g.x.heap.size g.x w') := fun g => refPlanT g.x (hsg g) (hpg g) hpl
              have ok := Sea.ok_of_valid hvb
              obtain ⟨⟨l, c, d, r⟩, hpo⟩ : ∃ x, playOf s noms plan = x := ⟨_, rfl⟩
              have hA : Hid (∀ g : Grow W, Calls Try.prog 45 #[.agg #[.int .i64 s.space, .int .i64 s.start, .int .i64 s.elo, .int .i64 s.ehi, rv, dv], nv, pv] g.x fun e w' => (∃ a cap, e = .returned (.tuple #[.slice a l.length cap, .int .i64 c, .agg #[.int .i64 d, .int .i64 r], .int .i64 0]) ∧ IntsAt w' (.slice a l.length cap) l) ∧ Below g.x.heap.size g.x w') := fun g => progPlayT g.x (hsg g) (hng g) (hpg g) hvb hno hpl hpo
              have hX : Hid (∀ g : Grow W, Calls Try.prog 47 #[.agg #[.int .i64 s.space, .int .i64 s.start, .int .i64 s.elo, .int .i64 s.ehi, rv, dv], nv, pv] g.x fun e w' => (∃ v, e = .returned (.tuple #[v, .int .i64 c, .agg #[.int .i64 d, .int .i64 r]]) ∧ IntsAt w' v l) ∧ Below g.x.heap.size g.x w') := fun g => refPlayT g.x (hsg g) (hng g) (hpg g) ok hno hpl hpo
              replace hvb := Lib.hid hvb
              replace hno := Lib.hid hno
              replace hpl := Lib.hid hpl
              replace hpo := Lib.hid hpo
              clear hng hpg ok
              clear hsg
              go_enter Try.func9, Try.ntmps9
              go_wp2_with (first
                | (go_at_call 37; ((with_reducible refine Calls.mono (hS.out) ?_); rintro e w' ⟨rfl, hb1⟩; obtain ⟨g1, rfl⟩ : ∃ g1 : Grow W, w' = g1.x := ⟨⟨w', hb1⟩, rfl⟩))
                | (go_at_call 15; ((with_reducible refine Calls.mono (hL.out g1) ?_); rintro e w' ⟨rfl, hb2⟩; obtain ⟨g2, rfl⟩ := g1.next hb2))
                | (go_at_call 15; ((with_reducible refine Calls.mono (hM.out g2) ?_); rintro e w' ⟨rfl, hb3⟩; obtain ⟨g3, rfl⟩ := g2.next hb3))
                | (go_at_call 45; ((with_reducible refine Calls.mono (hA.out g3) ?_); rintro e w' ⟨⟨pa, pcap, rfl, hpv⟩, hb4⟩; obtain ⟨g4, rfl⟩ := g3.next hb4); obtain ⟨g5, hg5⟩ := g4.alloc (.cells #[.int .i64 d, .int .i64 r] 74); have hnw5 := World.alloc_heap_new g4.x (.cells #[.int .i64 d, .int .i64 r] 74); rw [hg5] at hnw5; have hb5 : Below g4.x.heap.size g4.x g5.x := (by rw [← hg5]; exact below_al (Below.refl _ _) _); have dn5 := (row_cells hnw5).2.1; clear hnw5; have cx0 := dn5 0; have cx1 := dn5 1; simp only [List.getElem?_toArray, List.getElem?_cons_zero, List.getElem?_cons_succ] at cx0 cx1; clear dn5)
                | (go_at_call 19; ((with_reducible refine Calls.mono (hR.out g5) ?_); rintro e w' ⟨rfl, hb6⟩; obtain ⟨g6, rfl⟩ := g5.next hb6; have cx0 := kept_cell hb6 cx0; have cx1 := kept_cell hb6 cx1))
                | (go_at_call 20; ((with_reducible refine Calls.mono (hN.out g6) ?_); rintro e w' ⟨rfl, hb7⟩; obtain ⟨g7, rfl⟩ := g6.next hb7; have cx0 := kept_cell hb7 cx0; have cx1 := kept_cell hb7 cx1))
                | (go_at_call 46; ((with_reducible refine Calls.mono (hQ.out g7) ?_); rintro e w' ⟨rfl, hb8⟩; obtain ⟨g8, rfl⟩ := g7.next hb8; have cx0 := kept_cell hb8 cx0; have cx1 := kept_cell hb8 cx1))
                | (go_at_call 47; ((with_reducible refine Calls.mono (hX.out g8) ?_); rintro e w' ⟨⟨rpv, rfl, hrpv⟩, hb9⟩; obtain ⟨g9, rfl⟩ := g8.next hb9; have cx0 := kept_cell hb9 cx0; have cx1 := kept_cell hb9 cx1); obtain ⟨g10, hg10⟩ := g9.alloc (.cells #[.int .i64 d, .int .i64 r] 74); have hnw10 := World.alloc_heap_new g9.x (.cells #[.int .i64 d, .int .i64 r] 74); rw [hg10] at hnw10; have hb10 : Below g9.x.heap.size g9.x g10.x := (by rw [← hg10]; exact below_al (Below.refl _ _) _); have dn10 := (row_cells hnw10).2.1; clear hnw10; have cx0 := kept_cell hb10 cx0; have cx1 := kept_cell hb10 cx1; have cy0 := dn10 0; have cy1 := dn10 1; simp only [List.getElem?_toArray, List.getElem?_cons_zero, List.getElem?_cons_succ] at cy0 cy1; clear dn10)
                | (go_at_call 24; ((with_reducible refine Calls.mono (refSameT g10.x (hpv.mono (below_tr (below_tr (below_tr (below_tr (below_tr hb5 hb6) hb7) hb8) hb9) hb10)) (hrpv.mono hb10)) ?_); rintro e w' ⟨rfl, hb11⟩; obtain ⟨g11, rfl⟩ := g10.next hb11; have cx0 := kept_cell hb11 cx0; have cx1 := kept_cell hb11 cx1; have cy0 := kept_cell hb11 cy0; have cy1 := kept_cell hb11 cy1))
                | (go_at_call 16; ((with_reducible refine Calls.mono (hK.out _) ?_); rintro e w' ⟨rfl, hb12⟩; obtain ⟨g12, rfl⟩ := g11.next hb12; have cx0 := kept_cell hb12 cx0; have cx1 := kept_cell hb12 cx1; have cy0 := kept_cell hb12 cy0; have cy1 := kept_cell hb12 cy1)))
              go_ret
              exact ⟨rfl, hBw.trans (g12.h.mono (Nat.le_of_lt hsz))⟩
end Go.Proofs.Ytacajmpggjgaiaa
