/- Walks: the theorem of seasons that nobody knows. -/
import Derived.Test.YtacajmpggjgaiaaS8
set_option linter.unusedVariables false
set_option linter.unusedSimpArgs false
namespace Go.Proofs.Ytacajmpggjgaiaa
open Go.RowKit Go.Sd

theorem progSafeAt {sv : Value} {s : Sea.S} (w : World) (hs : SeasonAt w sv s) (ht : Sea.validB s = true) :
    Calls Try.prog 25 #[sv] w fun e w' => (∃ b off cap, e = .returned (.tuple #[.slice (some ⟨b, off, none⟩) (s.days.length + 1) cap, .int .i64 0]) ∧ b < w'.heap.size ∧ ∀ k, k ≤ s.days.length → ∃ ev, w'.cell? ⟨b, off + k, none⟩ = some ev ∧ SpansAt w' ev (Sea.spansAt (safeRows s) k)) ∧ Below w.heap.size w w' := by
  refine (progSafe sv s w hs ht).mono fun e w' hp => ?_
  obtain ⟨v, he, ho, hb⟩ := hp
  obtain ⟨a, cap, hv, -, hk⟩ := ho.at
  rw [safe_len] at hv hk
  obtain ⟨b, off, rfl, hlt, hc⟩ := hk (by omega)
  exact ⟨⟨b, off, cap, by rw [he, hv], hlt, fun k hk => hc k (by omega)⟩, hb⟩
theorem progAdviseAt {sv : Value} {s : Sea.S} {t : Nat} {f nom : Int} (w : World) (hs : SeasonAt w sv s) (hv : Sea.validB s = true) (ht : t < s.days.length) (hf : 0 ≤ f ∧ f ≤ s.space) (hn : (Sea.dayAt s.days t).nlo ≤ nom ∧ nom ≤ (Sea.dayAt s.days t).nhi)
    (hlt : (s.least t f nom (wrow s (s.days.length - 1 - t))).1 < Sea.never) :
    Calls Try.prog 29 #[sv, .int .i64 t, .int .i64 f, .int .i64 nom] w fun e w' => e = .returned (.tuple #[.int .i64 (s.least t f nom (wrow s (s.days.length - 1 - t))).2, .int .i64 (s.least t f nom (wrow s (s.days.length - 1 - t))).1, .int .i64 0]) ∧ Below w.heap.size w w' := by
  obtain ⟨k, rfl⟩ := Int.eq_ofNat_of_zero_le hf.1
  have ha : askedB s t k = true := by unfold askedB; rw [hv, Sea.inB_iff.2 (show (0 : Int) ≤ (t : Int) ∧ (t : Int) ≤ s.days.length - 1 by omega), Sea.inB_iff.2 hf]; rfl
  exact progAdviseT w hs ((adviseErr_yes ha (Sea.inB_iff.2 hn)).trans (if_pos hlt))

set_option maxRecDepth 100000 in
set_option maxHeartbeats 16000000 in
/-- The theorem of seasons that nobody knows. -/
theorem lawServes (sv nv : Value) (s : Sea.S) (noms : List Int) (w : World) (hs : SeasonAt w sv s) (hn : IntsAt w nv noms) :
    Calls Try.prog 11 #[sv, nv] w fun e w' => e = .returned (.bool true) ∧ Below w.heap.size w w' := by
  have hs' := hs
  obtain ⟨rv, dv, rfl, hr, hd⟩ := hs'
  obtain ⟨W, hW⟩ : ∃ W, w.alloc (sBox s rv dv) = W := ⟨_, rfl⟩
  obtain ⟨hsz, hBw, q0, q1, q2, q3, q4, q5⟩ := box_season hW
  have hg := grow_cell W
  have hK : Hid (∀ (w : World), Calls Try.prog 16 #[] w fun e w' => e = .returned (.bool true) ∧ Below w.heap.size w w') := progKnown
  have hsg : ∀ g : Grow W, SeasonAt g.x (.agg #[.int .i64 s.space, .int .i64 s.start, .int .i64 s.elo, .int .i64 s.ehi, rv, dv]) s := fun g => (hs.mono hBw).mono g.h
  have hng : ∀ g : Grow W, IntsAt g.x nv noms := fun g => (hn.mono hBw).mono g.h
  cases hsm : smallB s
  · skip
    have hS : Hid (Calls Try.prog 14 #[.agg #[.int .i64 s.space, .int .i64 s.start, .int .i64 s.elo, .int .i64 s.ehi, rv, dv]] W fun e w' => e = .returned (.bool false) ∧ Below W.heap.size W w') := lawSmallT W (hs.mono hBw) hsm
    replace hsm := Lib.hid hsm
    clear hng
    clear hsg
    go_enter Try.func11, Try.ntmps11
    go_wp2_with (first
      | (go_at_call 14; ((with_reducible refine Calls.mono (hS.out) ?_); rintro e w' ⟨rfl, hb1⟩; obtain ⟨g1, rfl⟩ : ∃ g1 : Grow W, w' = g1.x := ⟨⟨w', hb1⟩, rfl⟩))
      | (go_at_call 16; ((with_reducible refine Calls.mono (hK.out _) ?_); rintro e w' ⟨rfl, hb2⟩; obtain ⟨g2, rfl⟩ := g1.next hb2)))
    go_ret
    exact ⟨rfl, hBw.trans (g2.h.mono (Nat.le_of_lt hsz))⟩
  · skip
    have hS : Hid (Calls Try.prog 14 #[.agg #[.int .i64 s.space, .int .i64 s.start, .int .i64 s.elo, .int .i64 s.ehi, rv, dv]] W fun e w' => e = .returned (.bool true) ∧ Below W.heap.size W w') := lawSmallT W (hs.mono hBw) hsm
    replace hsm := Lib.hid hsm
    cases hli : decide (noms.length ≤ 25)
    · skip
      have hL : Hid (∀ g : Grow W, Calls Try.prog 15 #[nv] g.x fun e w' => e = .returned (.bool false) ∧ Below g.x.heap.size g.x w') := fun g => (lawListed g.x (hng g) hli).mono fun _ _ ⟨h1, h2⟩ => ⟨h1, by rw [h2]; exact Below.refl _ _⟩
      replace hli := Lib.hid hli
      clear hng
      clear hsg
      go_enter Try.func11, Try.ntmps11
      go_wp2_with (first
        | (go_at_call 14; ((with_reducible refine Calls.mono (hS.out) ?_); rintro e w' ⟨rfl, hb1⟩; obtain ⟨g1, rfl⟩ : ∃ g1 : Grow W, w' = g1.x := ⟨⟨w', hb1⟩, rfl⟩))
        | (go_at_call 15; ((with_reducible refine Calls.mono (hL.out g1) ?_); rintro e w' ⟨rfl, hb2⟩; obtain ⟨g2, rfl⟩ := g1.next hb2))
        | (go_at_call 16; ((with_reducible refine Calls.mono (hK.out _) ?_); rintro e w' ⟨rfl, hb3⟩; obtain ⟨g3, rfl⟩ := g2.next hb3)))
      go_ret
      exact ⟨rfl, hBw.trans (g3.h.mono (Nat.le_of_lt hsz))⟩
    · skip
      have hL : Hid (∀ g : Grow W, Calls Try.prog 15 #[nv] g.x fun e w' => e = .returned (.bool true) ∧ Below g.x.heap.size g.x w') := fun g => (lawListed g.x (hng g) hli).mono fun _ _ ⟨h1, h2⟩ => ⟨h1, by rw [h2]; exact Below.refl _ _⟩
      replace hli := Lib.hid hli
      cases hvb : Sea.validB s
      · skip
        have hR : Hid (∀ g : Grow W, Calls Try.prog 19 #[.agg #[.int .i64 s.space, .int .i64 s.start, .int .i64 s.elo, .int .i64 s.ehi, rv, dv]] g.x fun e w' => e = .returned (.bool false) ∧ Below g.x.heap.size g.x w') := fun g => refSeasonT g.x (hsg g) hvb
        replace hvb := Lib.hid hvb
        clear hng
        clear hsg
        go_enter Try.func11, Try.ntmps11
        go_wp2_with (first
          | (go_at_call 14; ((with_reducible refine Calls.mono (hS.out) ?_); rintro e w' ⟨rfl, hb1⟩; obtain ⟨g1, rfl⟩ : ∃ g1 : Grow W, w' = g1.x := ⟨⟨w', hb1⟩, rfl⟩))
          | (go_at_call 15; ((with_reducible refine Calls.mono (hL.out g1) ?_); rintro e w' ⟨rfl, hb2⟩; obtain ⟨g2, rfl⟩ := g1.next hb2))
          | (go_at_call 19; ((with_reducible refine Calls.mono (hR.out g2) ?_); rintro e w' ⟨rfl, hb3⟩; obtain ⟨g3, rfl⟩ := g2.next hb3))
          | (go_at_call 16; ((with_reducible refine Calls.mono (hK.out _) ?_); rintro e w' ⟨rfl, hb4⟩; obtain ⟨g4, rfl⟩ := g3.next hb4)))
        go_ret
        exact ⟨rfl, hBw.trans (g4.h.mono (Nat.le_of_lt hsz))⟩
      · skip
        have hR : Hid (∀ g : Grow W, Calls Try.prog 19 #[.agg #[.int .i64 s.space, .int .i64 s.start, .int .i64 s.elo, .int .i64 s.ehi, rv, dv]] g.x fun e w' => e = .returned (.bool true) ∧ Below g.x.heap.size g.x w') := fun g => refSeasonT g.x (hsg g) hvb
        cases hno : s.nomsB noms
        · skip
          have hN : Hid (∀ g : Grow W, Calls Try.prog 20 #[.agg #[.int .i64 s.space, .int .i64 s.start, .int .i64 s.elo, .int .i64 s.ehi, rv, dv], nv] g.x fun e w' => e = .returned (.bool false) ∧ Below g.x.heap.size g.x w') := fun g => refNomsT g.x (hsg g) (hng g) hno
          replace hno := Lib.hid hno
          clear hng
          clear hsg
          go_enter Try.func11, Try.ntmps11
          go_wp2_with (first
            | (go_at_call 14; ((with_reducible refine Calls.mono (hS.out) ?_); rintro e w' ⟨rfl, hb1⟩; obtain ⟨g1, rfl⟩ : ∃ g1 : Grow W, w' = g1.x := ⟨⟨w', hb1⟩, rfl⟩))
            | (go_at_call 15; ((with_reducible refine Calls.mono (hL.out g1) ?_); rintro e w' ⟨rfl, hb2⟩; obtain ⟨g2, rfl⟩ := g1.next hb2))
            | (go_at_call 19; ((with_reducible refine Calls.mono (hR.out g2) ?_); rintro e w' ⟨rfl, hb3⟩; obtain ⟨g3, rfl⟩ := g2.next hb3))
            | (go_at_call 20; ((with_reducible refine Calls.mono (hN.out g3) ?_); rintro e w' ⟨rfl, hb4⟩; obtain ⟨g4, rfl⟩ := g3.next hb4))
            | (go_at_call 16; ((with_reducible refine Calls.mono (hK.out _) ?_); rintro e w' ⟨rfl, hb5⟩; obtain ⟨g5, rfl⟩ := g4.next hb5)))
          go_ret
          exact ⟨rfl, hBw.trans (g5.h.mono (Nat.le_of_lt hsz))⟩
        · skip
          have hN : Hid (∀ g : Grow W, Calls Try.prog 20 #[.agg #[.int .i64 s.space, .int .i64 s.start, .int .i64 s.elo, .int .i64 s.ehi, rv, dv], nv] g.x fun e w' => e = .returned (.bool true) ∧ Below g.x.heap.size g.x w') := fun g => refNomsT g.x (hsg g) (hng g) hno
          have ok := Sea.ok_of_valid hvb
          have hsp := ok.space
          have hnd := ok.ndays
          have hst := ok.start
          have hnl := Lib.hid (noms_bd ok hno).1
          have hnb := Lib.hid (noms_bd ok hno).2
          have hnW := hn.mono hBw
          obtain ⟨nb, noff, ncap, rfl, hnlt, hnm, hnk⟩ := int_cell hnW (by rw [hnl.out]; omega)
          obtain ⟨da, dcap, rfl, hdm, -⟩ := hd
          unfold maxLen at hdm
          replace hnk := Lib.hid hnk
          have hSa : Hid (∀ g : Grow W, Calls Try.prog 25 #[.agg #[.int .i64 s.space, .int .i64 s.start, .int .i64 s.elo, .int .i64 s.ehi, rv, .slice da s.days.length dcap]] g.x fun e w' => (∃ b off cap, e = .returned (.tuple #[.slice (some ⟨b, off, none⟩) (s.days.length + 1) cap, .int .i64 0]) ∧ b < w'.heap.size ∧ ∀ k, k ≤ s.days.length → ∃ ev, w'.cell? ⟨b, off + k, none⟩ = some ev ∧ SpansAt w' ev (Sea.spansAt (safeRows s) k)) ∧ Below g.x.heap.size g.x w') := fun g => progSafeAt g.x (hsg g) hvb
          have hW0 : Hid (∀ g : Grow W, Calls Try.prog 28 #[.agg #[.int .i64 s.space, .int .i64 s.start, .int .i64 s.elo, .int .i64 s.ehi, rv, .slice da s.days.length dcap], .int .i64 0, .int .i64 s.start] g.x fun e w' => e = .returned (.tuple #[.int .i64 (worstOf s 0 s.start (wrow s (s.days.length - 1))).1, .int .i64 (worstCost s), .int .i64 0]) ∧ Below g.x.heap.size g.x w') := fun g => by
            rw [worstCost_eq ok]
            exact progWorstAt (t := 0) g.x (hsg g) hvb (by omega) hst
          have hIs : Hid (∀ (t : Nat) (f : Int) (v : Value) (X : World), t ≤ s.days.length → 0 ≤ f ∧ f ≤ s.space → SpansAt X v (Sea.spansAt (safeRows s) t) → Calls Try.prog 36 #[v, .int .i64 f] X fun e w' => e = .returned (.bool (decide (Sea.at0 (wrow s (s.days.length - t)) f.toNat < Sea.never))) ∧ Below X.heap.size X w') := fun t f v X ht hf hv => by
            rw [← safe_iff ok ht hf]; exact refIsSafe v _ f X hv
          have hAd : Hid (∀ (t : Nat) (f : Int) (X : World), Below w.heap.size w X → t < s.days.length → 0 ≤ f ∧ f ≤ s.space → (s.least t f (Sea.at0 noms t) (wrow s (s.days.length - 1 - t))).1 < Sea.never → Calls Try.prog 29 #[.agg #[.int .i64 s.space, .int .i64 s.start, .int .i64 s.elo, .int .i64 s.ehi, rv, .slice da s.days.length dcap], .int .i64 t, .int .i64 f, .int .i64 (Sea.at0 noms t)] X fun e w' => e = .returned (.tuple #[.int .i64 (s.least t f (Sea.at0 noms t) (wrow s (s.days.length - 1 - t))).2, .int .i64 (s.least t f (Sea.at0 noms t) (wrow s (s.days.length - 1 - t))).1, .int .i64 0]) ∧ Below X.heap.size X w') := fun t f X hX ht hf hl => progAdviseAt X (hs.mono hX) hvb ht hf (noms_in hno ht) hl
          have hCo : Hid (∀ (t : Nat) (x : Int) (X : World), Below w.heap.size w X → t < s.days.length → -100 ≤ x ∧ x ≤ 100 → Calls Try.prog 49 #[.agg #[.int .i64 s.space, .int .i64 s.start, .int .i64 s.elo, .int .i64 s.ehi, rv, .slice da s.days.length dcap], .int .i64 t, .int .i64 x] X fun e w' => e = .returned (.int .i64 (s.cost t x)) ∧ Below X.heap.size X w') := fun t x X hX ht hx => by
            have h := refCost _ s t x X (hs.mono hX) ok (by omega) (by omega) hx
            rw [Int.toNat_natCast] at h
            exact h
          have hFi : Hid (∀ (f : Int) (X : World), Below w.heap.size w X → 0 ≤ f ∧ f ≤ s.space → Calls Try.prog 31 #[.agg #[.int .i64 s.space, .int .i64 s.start, .int .i64 s.elo, .int .i64 s.ehi, rv, .slice da s.days.length dcap], .int .i64 f] X fun e w' => e = .returned (.bool true) ∧ Below X.heap.size X w') := fun f X hX hf => refFillT X (hs.mono hX) (Sea.inB_iff.2 hf)
          have hPl : Hid (∀ (pl l : List Int) (c d r : Int) (v : Value) (X : World), Below w.heap.size w X → IntsAt X v pl → planB s pl = true → playOf s noms pl = (l, c, d, r) → Calls Try.prog 45 #[.agg #[.int .i64 s.space, .int .i64 s.start, .int .i64 s.elo, .int .i64 s.ehi, rv, .slice da s.days.length dcap], .slice (some ⟨nb, noff, none⟩) noms.length ncap, v] X fun e w' => (∃ a cap, e = .returned (.tuple #[.slice a l.length cap, .int .i64 c, .agg #[.int .i64 d, .int .i64 r], .int .i64 0]) ∧ IntsAt w' (.slice a l.length cap) l) ∧ Below X.heap.size X w') := fun pl l c d r v X hX hv hpb h => progPlayT X (hs.mono hX) (hn.mono hX) hv hvb hno hpb h
          have hinv := fun (h : worstCost s < Sea.never) t ht => serve_inv ok hno h t ht
          have hsrv := fun (h : worstCost s < Sea.never) => serve_play ok hno h
          have hday := fun (t j : Nat) (hj : t + 1 + j = s.days.length) (f : Int) (hf : 0 ≤ f ∧ f ≤ s.space) h => serve_day ok hno hj hf h
          have hhit := fun (t : Nat) (ht : t < s.days.length) (f nom : Int) (next : List Int) h => least_hit (f := f) (nom := nom) (next := next) ok ht h
          have hcb : Hid (∀ t x, t < s.days.length → -100 ≤ x ∧ x ≤ 100 → -100000000 ≤ s.cost t x ∧ s.cost t x ≤ 100000000) := fun t x ht hx => cost_bd ok ht hx
          have hwrb : Hid (∀ j, j ≤ s.days.length → ∀ i, -(100000000 * (j : Int)) ≤ Sea.at0 (wrow s j) i ∧ Sea.at0 (wrow s j) i ≤ Sea.never) := fun j hj => wrow_bd ok j hj
          have hw0 : Hid (Sea.at0 (wrow s (s.days.length - 0)) s.start.toNat = worstCost s) := by show _ = _; rw [Nat.sub_zero]; rfl
          replace hinv := Lib.hid hinv
          replace hsrv := Lib.hid hsrv
          replace hday := Lib.hid hday
          replace hhit := Lib.hid hhit
          replace hvb := Lib.hid hvb
          replace hno := Lib.hid hno
          clear hs hn hnW hng hsg ok hr
          by_cases hwn : worstCost s < 1000000000000000
          · skip
            go_enter Try.func11, Try.ntmps11
            go_wp2_with (first
              | (go_at_call 14; ((with_reducible refine Calls.mono (hS.out) ?_); rintro e w' ⟨rfl, hb1⟩; obtain ⟨g1, rfl⟩ : ∃ g1 : Grow W, w' = g1.x := ⟨⟨w', hb1⟩, rfl⟩))
              | (go_at_call 15; ((with_reducible refine Calls.mono (hL.out g1) ?_); rintro e w' ⟨rfl, hb2⟩; obtain ⟨g2, rfl⟩ := g1.next hb2))
              | (go_at_call 19; ((with_reducible refine Calls.mono (hR.out g2) ?_); rintro e w' ⟨rfl, hb3⟩; obtain ⟨g3, rfl⟩ := g2.next hb3))
              | (go_at_call 20; ((with_reducible refine Calls.mono (hN.out g3) ?_); rintro e w' ⟨rfl, hb4⟩; obtain ⟨g4, rfl⟩ := g3.next hb4))
              | (go_at_call 25; ((with_reducible refine Calls.mono (hSa.out g4) ?_); rintro e w' ⟨⟨sb, soff, scap, rfl, hsb, hsafe⟩, hb5⟩; obtain ⟨g5, rfl⟩ := g4.next hb5; replace hsafe := Lib.hid hsafe))
              | (go_at_call 28; ((with_reducible refine Calls.mono (hW0.out g5) ?_); rintro e w' ⟨rfl, hb6⟩; obtain ⟨g6, rfl⟩ := g5.next hb6)))
            have hw0s := hw0.out
            generalize worstCost s = wco at *
            replace hw0s := Lib.hid hw0s
            have hsafe6 : Hid (∀ k, k ≤ s.days.length → ∃ ev, g6.x.cell? ⟨sb, soff + k, none⟩ = some ev ∧ SpansAt g6.x ev (Sea.spansAt (safeRows s) k)) := fun k hk => by
              obtain ⟨ev, h1, h2⟩ := hsafe.out k hk
              exact ⟨ev, kept_cell hb6 h1, h2.mono hb6⟩
            have hsb6 : sb < g6.x.heap.size := Nat.lt_of_lt_of_le hsb hb6.size
            obtain ⟨ev0, z0, z1⟩ := hsafe6.out 0 (by omega)
            rw [Nat.add_zero] at z0
            have p0 := g6.cell q0
            have p1 := g6.cell q1
            have p2 := g6.cell q2
            have p3 := g6.cell q3
            have p4 := g6.cell q4
            have p5 := g6.cell q5
            have hX0 : Below w.heap.size w g6.x := hBw.trans (g6.h.mono (Nat.le_of_lt hsz))
            have hbX : w.heap.size < g6.x.heap.size := Nat.lt_of_lt_of_le hsz g6.size
            have hnkX : Hid (∀ k, k < noms.length → g6.x.cell? ⟨nb, noff + k, none⟩ = some (.int .i64 (Sea.at0 noms k))) := fun k hk => g6.cell (hnk.out k hk)
            have hnbX : nb < g6.x.heap.size := Nat.lt_of_lt_of_le hnlt g6.size
            have hn1 : (0 : Int) < (s.days.length : Int) + 1 := by omega
            have hI0 : Hid (∀ g : Grow g6.x, Calls Try.prog 36 #[ev0, .int .i64 s.start] g.x fun e w' => e = .returned (.bool true) ∧ Below g.x.heap.size g.x w') := fun g => by
              have h := hIs.out 0 s.start ev0 g.x (by omega) hst (z1.mono g.h)
              rw [hw0s.out, decide_eq_true (show wco < Sea.never from hwn)] at h
              exact h
            generalize g6.x = X at *
            clear hb1 hb2 hb3 hb4 hb5 hb6 hS hL hR hN hSa hW0 hg q0 q1 q2 q3 q4 q5 hnk hsafe z1 hW hsb
            have hg := grow_cell X
            refine wp_region_grow (by kernel_rfl) (by kernel_rfl) ?_
            repeat (go_big_quiet_step ((first | (go_at_call 36; exact Calls.grow (hI0.out _)))))
            refine wpQuiet_nil ?_
            rintro _ ⟨g, rfl⟩
            have hXg := g.h
            have hwg : Below w.heap.size w g.x := hX0.trans (hXg.mono hX0.size)
            obtain ⟨Y, hY⟩ : ∃ Y, Y = g.x := ⟨_, rfl⟩
            rw [← hY] at hXg hwg ⊢
            have hXs := hXg.size
            have p0 := kept_cell hXg p0
            have p1 := kept_cell hXg p1
            have p2 := kept_cell hXg p2
            have p3 := kept_cell hXg p3
            have p4 := kept_cell hXg p4
            have p5 := kept_cell hXg p5
            have hsafeY : Hid (∀ k, k ≤ s.days.length → ∃ ev, Y.cell? ⟨sb, soff + k, none⟩ = some ev ∧ SpansAt Y ev (Sea.spansAt (safeRows s) k)) := fun k hk => by
              obtain ⟨ev, h1, h2⟩ := hsafe6.out k hk
              exact ⟨ev, kept_cell hXg h1, h2.mono hXg⟩
            have hnkY : Hid (∀ k, k < noms.length → Y.cell? ⟨nb, noff + k, none⟩ = some (.int .i64 (Sea.at0 noms k))) := fun k hk => kept_cell hXg (hnkX.out k hk)
            have hsbY : sb < Y.heap.size := Nat.lt_of_lt_of_le hsb6 hXs
            have hnbY : nb < Y.heap.size := Nat.lt_of_lt_of_le hnbX hXs
            have hbY : w.heap.size < Y.heap.size := Nat.lt_of_lt_of_le hbX hXs
            clear hg hI0 z0 hsafe6 hnkX hY hXg
            have hwl := hinv.out hwn
            have hsr := hsrv.out hwn
            replace hwl := Lib.hid hwl
            replace hsr := Lib.hid hsr
            clear hinv hsrv
            go_wp2_with (fail)
            go_loopw [10, 11, 12, 13] (fun fill paid p i wr => ∃ (t : Nat) (v : Value), t ≤ s.days.length ∧ v = p ∧ i = .int .i64 t ∧ fill = .int .i64 (serveTo s noms t).2.1 ∧ paid = .int .i64 (serveTo s noms t).2.2 ∧
              OwnInts Y.heap.size wr v (serveTo s noms t).1 ∧ Below Y.heap.size Y wr) (fun _ _ _ i _ => s.days.length - (intOf i).toNat)
            case atStart => exact ⟨0, _, by omega, rfl, rfl, rfl, rfl, OwnInts.nil _ _, Below.refl _ _⟩
            case round =>
              obtain ⟨t, v, ht, rfl, rfl, rfl, rfl, ho, hB⟩ := hrel
              have m0 := kept_cell hB p0
              have m1 := kept_cell hB p1
              have m2 := kept_cell hB p2
              have m3 := kept_cell hB p3
              have m4 := kept_cell hB p4
              have m5 := kept_cell hB p5
              have hBs := hB.size
              have hwwr : Below w.heap.size w wr := hwg.trans (hB.mono hwg.size)
              by_cases htl : t < s.days.length
              · obtain ⟨j, hj⟩ : ∃ j, t + 1 + j = s.days.length := ⟨s.days.length - t - 1, by omega⟩
                obtain ⟨i1, i2, i3, i4, -, -, -, -⟩ := hwl.out t ht
                obtain ⟨-, i6, -, -, -, -, -, -⟩ := hwl.out (t + 1) (by omega)
                rw [show s.days.length - t = j + 1 by omega] at i2 i3
                have hle := hday.out t j hj _ i1 i2
                have hlt2 : (s.least t (serveTo s noms t).2.1 (Sea.at0 noms t) (wrow s j)).1 < Sea.never := by omega
                obtain ⟨-, k2, k3, k4, k5⟩ := hhit.out t htl _ _ _ hlt2
                have hAt := fun Z hZ => hAd.out t (serveTo s noms t).2.1 Z hZ htl i1 (by rw [show s.days.length - 1 - t = j by omega]; exact hlt2)
                rw [show s.days.length - 1 - t = j by omega] at hAt
                have hnext : Hid (serveTo s noms (t + 1) = ((serveTo s noms t).1 ++ [(s.least t (serveTo s noms t).2.1 (Sea.at0 noms t) (wrow s j)).2], (serveTo s noms t).2.1 + Sea.at0 noms t + (s.least t (serveTo s noms t).2.1 (Sea.at0 noms t) (wrow s j)).2, (serveTo s noms t).2.2 + s.cost t (s.least t (serveTo s noms t).2.1 (Sea.at0 noms t) (wrow s j)).2)) := by
                  show _ = _
                  simp only [serveTo, show s.days.length - 1 - t = j by omega]
                have hCt := fun Z hZ => hCo.out t (s.least t (serveTo s noms t).2.1 (Sea.at0 noms t) (wrow s j)).2 Z hZ htl k2
                have hct := hcb.out t _ htl k2
                have hnt := hnb.out t htl
                have e0 := kept_cell hB (hnkY.out t (by rw [hnl.out]; exact htl))
                have hlen : (serveTo s noms t).1.length ≤ 1000 := by rw [serveTo_len]; omega
                have hpay : (serveTo s noms t).2.2 + (s.least t (serveTo s noms t).2.1 (Sea.at0 noms t) (wrow s j)).1 ≤ wco := by omega
                have hpay2 : -1000000000000 ≤ (s.least t (serveTo s noms t).2.1 (Sea.at0 noms t) (wrow s j)).1 ∧ (s.least t (serveTo s noms t).2.1 (Sea.at0 noms t) (wrow s j)).1 ≤ 1000000000000000 := by
                  have hwb := (hwrb.out j (by omega) ((serveTo s noms t).2.1 + Sea.at0 noms t + (s.least t (serveTo s noms t).2.1 (Sea.at0 noms t) (wrow s j)).2).toNat)
                  unfold Sea.never at hlt2
                  omega
                have hFt := fun Z hZ => hFi.out _ Z hZ k3
                obtain ⟨ev, z0, z1⟩ := hsafeY.out (t + 1) (by omega)
                have hIt := fun (Z : World) (hZ : Below Y.heap.size Y Z) => hIs.out (t + 1) ((serveTo s noms t).2.1 + Sea.at0 noms t + (s.least t (serveTo s noms t).2.1 (Sea.at0 noms t) (wrow s j)).2) ev Z (by omega) k3 (z1.mono hZ)
                rw [show s.days.length - (t + 1) = j by omega, decide_eq_true k4] at hIt
                have zt := kept_cell hB z0
                generalize hx : (s.least t (serveTo s noms t).2.1 (Sea.at0 noms t) (wrow s j)).2 = x at *
                generalize (s.least t (serveTo s noms t).2.1 (Sea.at0 noms t) (wrow s j)).1 = lc at *
                generalize s.cost t x = ct at *
                generalize hsv : serveTo s noms t = sv0 at *
                obtain ⟨pl, f, paid⟩ := sv0
                simp only at i1 i3 i4 hAt hnext hCt hlen hpay hFt hIt ho k3
                generalize Sea.at0 noms t = nt at *
                have hoH := Lib.hid ho
                have hobH := Lib.hid ho.lt
                have hff : 0 ≤ f ∧ f ≤ 100 := by omega
                have hti : (0 : Int) ≤ (t : Int) ∧ (t : Int) < noms.length ∧ (t : Int) + 1 < (s.days.length : Int) + 1 := by rw [hnl.out]; omega
                have hnb2 : nb < wr.heap.size := Nat.lt_of_lt_of_le hnbY hBs
                have hsb2 : sb < wr.heap.size := Nat.lt_of_lt_of_le hsbY hBs
                have hbx2 : w.heap.size < wr.heap.size := Nat.lt_of_lt_of_le hbY hBs
                have hjH := Lib.hid hj
                have hv : Hid (∀ g : Grow wr, Calls Try.prog 29 #[.agg #[.int .i64 s.space, .int .i64 s.start, .int .i64 s.elo, .int .i64 s.ehi, rv, .slice da s.days.length dcap], .int .i64 t, .int .i64 f, .int .i64 nt] g.x fun e w' => e = .returned (.tuple #[.int .i64 x, .int .i64 lc, .int .i64 0]) ∧ Below g.x.heap.size g.x w') := fun g => hAt g.x (hwwr.trans (g.h.mono hwwr.size))
                replace hCt := Lib.hid hCt
                replace hFt := Lib.hid hFt
                replace hIt := Lib.hid hIt
                clear ho hAt hx hsv z1 i2 hle hlt2 hj
                have hg := grow_cell wr
                go_wp2_with (fail)
                refine wp_region_grow (by kernel_rfl) (by kernel_rfl) ?_
                repeat (go_big_quiet_step ((first | (go_at_call 29; exact Calls.grow (hv.out _)))))
                refine wpQuiet_nil ?_
                rintro _ ⟨g, rfl⟩
                obtain ⟨Z, hZ⟩ : ∃ Z, Z = g.x := ⟨_, rfl⟩
                have hBZ : Below wr.heap.size wr Z := by rw [hZ]; exact g.h
                rw [← hZ]
                clear hv hZ g hg
                have hYZ := hB.trans (hBZ.mono hBs)
                have hwZ := hwwr.trans (hBZ.mono hwwr.size)
                have hZs := hYZ.size
                have m0 := kept_cell hBZ m0
                have m1 := kept_cell hBZ m1
                have m2 := kept_cell hBZ m2
                have m3 := kept_cell hBZ m3
                have m4 := kept_cell hBZ m4
                have m5 := kept_cell hBZ m5
                have e0 := kept_cell hBZ e0
                have HoH := Lib.hid (hoH.out.mono hBZ)
                have al0 : v.ownBlock ≠ some nb := fun e => by have := (hobH.out _ e).1; omega
                have al1 : v.ownBlock ≠ some w.heap.size := fun e => by have := (hobH.out _ e).1; omega
                have zl0 : nb < Z.heap.size := Nat.lt_of_lt_of_le hnbY hZs
                have zl1 : w.heap.size < Z.heap.size := Nat.lt_of_lt_of_le hbY hZs
                have kx : ∀ (o : Obj) (b off : Nat) (v : Value), Z.cell? ⟨b, off, none⟩ = some v → (Z.alloc o).drew.cell? ⟨b, off, none⟩ = some v := fun o b off v h => kept_cell (((Below.refl _ _).alloc (Nat.le_refl _) o).drew) h
                have hBd : Below Z.heap.size Z Z.drew := (Below.refl _ _).drew
                have hl1 : pl.length + 1 ≤ maxLen := by unfold maxLen; omega
                have hl2 : (pl.length + 1) * 8 ≤ 140737488355328 := by omega
                obtain ⟨i0, hi0, hz0, hz1, hz2⟩ := info_parts infoInt
                have hwr1 : IntKind.i64.wrap (f + nt) = f + nt := IntWalk.i64_in _ (by omega)
                have hwr2 : IntKind.i64.wrap (f + nt + x) = f + nt + x := IntWalk.i64_in _ (by omega)
                have hwr3 : IntKind.i64.wrap (paid + ct) = paid + ct := IntWalk.i64_in _ (by omega)
                go_wp2_with (fail)
                refine wp_region_held_drew (S := (fun w' => w'.cell? ⟨nb, noff + t, none⟩ = some (.int .i64 nt) ∧ w'.cell? ⟨w.heap.size, 0, none⟩ = some (.int .i64 s.space) ∧ w'.cell? ⟨w.heap.size, 1, none⟩ = some (.int .i64 s.start) ∧ w'.cell? ⟨w.heap.size, 2, none⟩ = some (.int .i64 s.elo) ∧ w'.cell? ⟨w.heap.size, 3, none⟩ = some (.int .i64 s.ehi) ∧ w'.cell? ⟨w.heap.size, 4, none⟩ = some rv ∧ w'.cell? ⟨w.heap.size, 5, none⟩ = some (.slice da s.days.length dcap))) (by kernel_rfl) ?_ (fun hHeld => ?_)
                · first | (first | exact ⟨kept_cell hbB hc0, kept_cell hbB hd0, kept_cell hbB hd1, kept_cell hbB hd2, kept_cell hbB hd3, kept_cell hbB hd4, kept_cell hbB hd5⟩ | exact ⟨hc0, hd0, hd1, hd2, hd3, hd4, hd5⟩ | exact ⟨kx _ _ _ _ e0, kx _ _ _ _ m0, kx _ _ _ _ m1, kx _ _ _ _ m2, kx _ _ _ _ m3, kx _ _ _ _ m4, kx _ _ _ _ m5⟩ | exact ⟨kept_cell hBd e0, kept_cell hBd m0, kept_cell hBd m1, kept_cell hBd m2, kept_cell hBd m3, kept_cell hBd m4, kept_cell hBd m5⟩) | (dsimp only; (first | exact ⟨kept_cell hbB hc0, kept_cell hbB hd0, kept_cell hbB hd1, kept_cell hbB hd2, kept_cell hbB hd3, kept_cell hbB hd4, kept_cell hbB hd5⟩ | exact ⟨hc0, hd0, hd1, hd2, hd3, hd4, hd5⟩ | exact ⟨kx _ _ _ _ e0, kx _ _ _ _ m0, kx _ _ _ _ m1, kx _ _ _ _ m2, kx _ _ _ _ m3, kx _ _ _ _ m4, kx _ _ _ _ m5⟩ | exact ⟨kept_cell hBd e0, kept_cell hBd m0, kept_cell hBd m1, kept_cell hBd m2, kept_cell hBd m3, kept_cell hBd m4, kept_cell hBd m5⟩))
                refine wpAnyH_take (i := 0) (v := ?_) rfl (by kernel_rfl) (by kernel_rfl) (by kernel_rfl) (fun _ _ _ h => h) (Or.inl ⟨by rfl, ?_⟩) (by assumption) ?_
                rotate_left
                · intro w hSw; (try dsimp only at hSw); go_simp; (try with_reducible rfl)
                try simp only [Act.put, List.setIfInBounds_toArray, List.set_cons_zero, List.set_cons_succ]
                refine wpAnyH_take (i := 1) (v := ?_) rfl (by kernel_rfl) (by kernel_rfl) (by kernel_rfl) (fun _ _ _ h => h) (Or.inl ⟨by rfl, ?_⟩) (by assumption) ?_
                rotate_left
                · intro w hSw; (try dsimp only at hSw); go_simp; (try with_reducible rfl)
                try simp only [Act.put, List.setIfInBounds_toArray, List.set_cons_zero, List.set_cons_succ]
                refine wpAnyH_take (i := 4) (v := ?_) rfl (by kernel_rfl) (by kernel_rfl) (by kernel_rfl) (fun _ _ _ h => h) (Or.inl ⟨by rfl, ?_⟩) (by assumption) ?_
                rotate_left
                · intro w hSw; (try dsimp only at hSw); go_simp; (try with_reducible rfl)
                try simp only [Act.put, List.setIfInBounds_toArray, List.set_cons_zero, List.set_cons_succ]
                refine wpAnyH_take (i := 5) (v := ?_) rfl (by kernel_rfl) (by kernel_rfl) (by kernel_rfl) (fun _ _ _ h => h) (Or.inl ⟨by rfl, ?_⟩) (by assumption) ?_
                rotate_left
                · intro w hSw; (try dsimp only at hSw); go_simp; (try with_reducible rfl)
                try simp only [Act.put, List.setIfInBounds_toArray, List.set_cons_zero, List.set_cons_succ]
                refine wpAnyH_take (i := 6) (v := ?_) rfl (by kernel_rfl) (by kernel_rfl) (by kernel_rfl) (fun _ _ _ h => h) (Or.inl ⟨by rfl, ?_⟩) (by assumption) ?_
                rotate_left
                · intro w hSw; (try dsimp only at hSw); go_simp; (try with_reducible rfl)
                try simp only [Act.put, List.setIfInBounds_toArray, List.set_cons_zero, List.set_cons_succ]
                refine wpAnyH_take (i := 7) (v := ?_) rfl (by kernel_rfl) (by kernel_rfl) (by kernel_rfl) (fun _ _ _ h => h) (Or.inl ⟨by rfl, ?_⟩) (by assumption) ?_
                rotate_left
                · intro w hSw; (try dsimp only at hSw); go_simp; (try with_reducible rfl)
                try simp only [Act.put, List.setIfInBounds_toArray, List.set_cons_zero, List.set_cons_succ]
                refine wpAnyH_take (i := 8) (v := ?_) rfl (by kernel_rfl) (by kernel_rfl) (by kernel_rfl) (fun _ _ _ h => h) (Or.inl ⟨by rfl, ?_⟩) (by assumption) ?_
                rotate_left
                · intro w hSw; (try dsimp only at hSw); go_simp; (try with_reducible rfl)
                try simp only [Act.put, List.setIfInBounds_toArray, List.set_cons_zero, List.set_cons_succ]
                refine wpAnyH_take (i := 9) (v := ?_) rfl (by kernel_rfl) (by kernel_rfl) (by kernel_rfl) (fun _ _ _ h => h) (Or.inl ⟨by rfl, ?_⟩) (by assumption) ?_
                rotate_left
                · intro w hSw; (try dsimp only at hSw); go_simp; (try with_reducible rfl)
                try simp only [Act.put, List.setIfInBounds_toArray, List.set_cons_zero, List.set_cons_succ]
                refine wpAnyH_take (i := 10) (v := ?_) rfl (by kernel_rfl) (by kernel_rfl) (by kernel_rfl) (fun _ _ _ h => h) (Or.inl ⟨by rfl, ?_⟩) (by assumption) ?_
                rotate_left
                · intro w hSw; (try dsimp only at hSw); go_simp; (try with_reducible rfl)
                try simp only [Act.put, List.setIfInBounds_toArray, List.set_cons_zero, List.set_cons_succ]
                refine wpAnyH_take (i := 11) (v := ?_) rfl (by kernel_rfl) (by kernel_rfl) (by kernel_rfl) (fun _ _ _ h => h) (Or.inl ⟨by rfl, ?_⟩) (by assumption) ?_
                rotate_left
                · intro w hSw; (try dsimp only at hSw); go_simp; (try with_reducible rfl)
                try simp only [Act.put, List.setIfInBounds_toArray, List.set_cons_zero, List.set_cons_succ]
                refine wpAnyH_take (i := 12) (v := ?_) rfl (by kernel_rfl) (by kernel_rfl) (by kernel_rfl) (fun _ _ _ h => h) (Or.inl ⟨by rfl, ?_⟩) (by assumption) ?_
                rotate_left
                · intro w hSw; (try dsimp only at hSw); go_simp; (try with_reducible rfl)
                try simp only [Act.put, List.setIfInBounds_toArray, List.set_cons_zero, List.set_cons_succ]
                refine wpAnyH_take (i := 13) (v := ?_) rfl (by kernel_rfl) (by kernel_rfl) (by kernel_rfl) (fun _ _ _ h => h) (Or.inl ⟨by rfl, ?_⟩) (by assumption) ?_
                rotate_left
                · intro w hSw; (try dsimp only at hSw); go_simp; (try with_reducible rfl)
                try simp only [Act.put, List.setIfInBounds_toArray, List.set_cons_zero, List.set_cons_succ]
                refine wpAnyH_take (i := 14) (v := ?_) rfl (by kernel_rfl) (by kernel_rfl) (by kernel_rfl) (fun _ _ _ h => h) (Or.inl ⟨by rfl, ?_⟩) (by assumption) ?_
                rotate_left
                · intro w hSw; (try dsimp only at hSw); go_simp; (try with_reducible rfl)
                try simp only [Act.put, List.setIfInBounds_toArray, List.set_cons_zero, List.set_cons_succ]
                refine wpAnyH_take (i := 15) (v := ?_) rfl (by kernel_rfl) (by kernel_rfl) (by kernel_rfl) (fun _ _ _ h => h) (Or.inl ⟨by rfl, ?_⟩) (by assumption) ?_
                rotate_left
                · intro w hSw; (try dsimp only at hSw); go_simp; (try with_reducible rfl)
                try simp only [Act.put, List.setIfInBounds_toArray, List.set_cons_zero, List.set_cons_succ]
                refine wpAnyH_ready (rs := [2]) (by kernel_rfl) (by simp) ?_
                refine AllReadyH.cons rfl (fun K hK => ?_) AllReadyH.nil
                go_simp
                refine hK.out _ _ ?_ (fun hNow => ?_)
                · first | (first | exact ⟨kept_cell hbB hc0, kept_cell hbB hd0, kept_cell hbB hd1, kept_cell hbB hd2, kept_cell hbB hd3, kept_cell hbB hd4, kept_cell hbB hd5⟩ | exact ⟨hc0, hd0, hd1, hd2, hd3, hd4, hd5⟩ | exact ⟨kx _ _ _ _ e0, kx _ _ _ _ m0, kx _ _ _ _ m1, kx _ _ _ _ m2, kx _ _ _ _ m3, kx _ _ _ _ m4, kx _ _ _ _ m5⟩ | exact ⟨kept_cell hBd e0, kept_cell hBd m0, kept_cell hBd m1, kept_cell hBd m2, kept_cell hBd m3, kept_cell hBd m4, kept_cell hBd m5⟩) | (dsimp only; (first | exact ⟨kept_cell hbB hc0, kept_cell hbB hd0, kept_cell hbB hd1, kept_cell hbB hd2, kept_cell hbB hd3, kept_cell hbB hd4, kept_cell hbB hd5⟩ | exact ⟨hc0, hd0, hd1, hd2, hd3, hd4, hd5⟩ | exact ⟨kx _ _ _ _ e0, kx _ _ _ _ m0, kx _ _ _ _ m1, kx _ _ _ _ m2, kx _ _ _ _ m3, kx _ _ _ _ m4, kx _ _ _ _ m5⟩ | exact ⟨kept_cell hBd e0, kept_cell hBd m0, kept_cell hBd m1, kept_cell hBd m2, kept_cell hBd m3, kept_cell hBd m4, kept_cell hBd m5⟩))
                clear hK K hHeld
                have hHeld := hNow
                clear hNow
                try simp only [Act.put, List.setIfInBounds_toArray, List.set_cons_zero, List.set_cons_succ]
                refine wpAnyH_ready (rs := [3]) (by kernel_rfl) (by simp) ?_
                refine AllReadyH.cons rfl (fun K hK => ?_) AllReadyH.nil
                (first | (refine step_append_lies _ (by rfl) _ _ _ (by rfl) Y.heap.size 3 i0 _ 1 8 Try.underlying28 hi0 hz0 hz1 hz2 rfl (by decide) v _ _ (by rfl) ((World.ownsRow.alloc HoH.out _).drew) ⟨Z.heap.size, 0, none⟩ 1 1 [.int .i64 x] (by rfl) (by rfl) (World.news_of_block (cs := #[.int .i64 x]) (t := 3) (fr := (0, 0)) (heap_alloc_new Z _)) (by simp [Value.oneCell']) (by decide) hl1 hl2 (by simp; omega) (Z.heap.size + 1) (by simp) ?_; intro gg gcap w1 hown1 hgrow hat hglt; have hc0 := (hgrow.cell_far ⟨nb, noff + t, none⟩ (by simp; omega) (Ne.symm al0)).trans (kx _ _ _ _ e0); have hd0 := (hgrow.cell_far ⟨w.heap.size, 0, none⟩ (by simp; omega) (Ne.symm al1)).trans (kx _ _ _ _ m0); have hd1 := (hgrow.cell_far ⟨w.heap.size, 1, none⟩ (by simp; omega) (Ne.symm al1)).trans (kx _ _ _ _ m1); have hd2 := (hgrow.cell_far ⟨w.heap.size, 2, none⟩ (by simp; omega) (Ne.symm al1)).trans (kx _ _ _ _ m2); have hd3 := (hgrow.cell_far ⟨w.heap.size, 3, none⟩ (by simp; omega) (Ne.symm al1)).trans (kx _ _ _ _ m3); have hd4 := (hgrow.cell_far ⟨w.heap.size, 4, none⟩ (by simp; omega) (Ne.symm al1)).trans (kx _ _ _ _ m4); have hd5 := (hgrow.cell_far ⟨w.heap.size, 5, none⟩ (by simp; omega) (Ne.symm al1)).trans (kx _ _ _ _ m5); have hgZ : Z.grownBy w1 v.ownBlock := grownBy_trans (World.grownBy_alloc Z _ _) ⟨hgrow.os, hgrow.tape, hgrow.output, hgrow.size, hgrow.block⟩; have hYw1 : Below Y.heap.size Y w1 := below_append hYZ hZs HoH.out hgZ; have hww1 : Below w.heap.size w w1 := hwg.trans (hYw1.mono hwg.size); have hon := Lib.hid (own_more hown1); clear hown1 hgrow hgZ) | (go_at_call 49; refine Calls.mono (hCt.out _ hww1) ?_; rintro e wB ⟨rfl, hbB⟩))
                refine hK.out _ _ ?_ (fun hNow => ?_)
                · first | (first | exact ⟨kept_cell hbB hc0, kept_cell hbB hd0, kept_cell hbB hd1, kept_cell hbB hd2, kept_cell hbB hd3, kept_cell hbB hd4, kept_cell hbB hd5⟩ | exact ⟨hc0, hd0, hd1, hd2, hd3, hd4, hd5⟩ | exact ⟨kx _ _ _ _ e0, kx _ _ _ _ m0, kx _ _ _ _ m1, kx _ _ _ _ m2, kx _ _ _ _ m3, kx _ _ _ _ m4, kx _ _ _ _ m5⟩ | exact ⟨kept_cell hBd e0, kept_cell hBd m0, kept_cell hBd m1, kept_cell hBd m2, kept_cell hBd m3, kept_cell hBd m4, kept_cell hBd m5⟩) | (dsimp only; (first | exact ⟨kept_cell hbB hc0, kept_cell hbB hd0, kept_cell hbB hd1, kept_cell hbB hd2, kept_cell hbB hd3, kept_cell hbB hd4, kept_cell hbB hd5⟩ | exact ⟨hc0, hd0, hd1, hd2, hd3, hd4, hd5⟩ | exact ⟨kx _ _ _ _ e0, kx _ _ _ _ m0, kx _ _ _ _ m1, kx _ _ _ _ m2, kx _ _ _ _ m3, kx _ _ _ _ m4, kx _ _ _ _ m5⟩ | exact ⟨kept_cell hBd e0, kept_cell hBd m0, kept_cell hBd m1, kept_cell hBd m2, kept_cell hBd m3, kept_cell hBd m4, kept_cell hBd m5⟩))
                clear hK K hHeld
                have hHeld := hNow
                clear hNow
                try simp only [Act.put, List.setIfInBounds_toArray, List.set_cons_zero, List.set_cons_succ]
                refine wpAnyH_ready (rs := [16]) (by kernel_rfl) (by simp) ?_
                refine AllReadyH.cons rfl (fun K hK => ?_) AllReadyH.nil
                go_simp
                (first | (refine step_append_lies _ (by rfl) _ _ _ (by rfl) Y.heap.size 3 i0 _ 1 8 Try.underlying28 hi0 hz0 hz1 hz2 rfl (by decide) v _ _ (by rfl) ((World.ownsRow.alloc HoH.out _).drew) ⟨Z.heap.size, 0, none⟩ 1 1 [.int .i64 x] (by rfl) (by rfl) (World.news_of_block (cs := #[.int .i64 x]) (t := 3) (fr := (0, 0)) (heap_alloc_new Z _)) (by simp [Value.oneCell']) (by decide) hl1 hl2 (by simp; omega) (Z.heap.size + 1) (by simp) ?_; intro gg gcap w1 hown1 hgrow hat hglt; have hc0 := (hgrow.cell_far ⟨nb, noff + t, none⟩ (by simp; omega) (Ne.symm al0)).trans (kx _ _ _ _ e0); have hd0 := (hgrow.cell_far ⟨w.heap.size, 0, none⟩ (by simp; omega) (Ne.symm al1)).trans (kx _ _ _ _ m0); have hd1 := (hgrow.cell_far ⟨w.heap.size, 1, none⟩ (by simp; omega) (Ne.symm al1)).trans (kx _ _ _ _ m1); have hd2 := (hgrow.cell_far ⟨w.heap.size, 2, none⟩ (by simp; omega) (Ne.symm al1)).trans (kx _ _ _ _ m2); have hd3 := (hgrow.cell_far ⟨w.heap.size, 3, none⟩ (by simp; omega) (Ne.symm al1)).trans (kx _ _ _ _ m3); have hd4 := (hgrow.cell_far ⟨w.heap.size, 4, none⟩ (by simp; omega) (Ne.symm al1)).trans (kx _ _ _ _ m4); have hd5 := (hgrow.cell_far ⟨w.heap.size, 5, none⟩ (by simp; omega) (Ne.symm al1)).trans (kx _ _ _ _ m5); have hgZ : Z.grownBy w1 v.ownBlock := grownBy_trans (World.grownBy_alloc Z _ _) ⟨hgrow.os, hgrow.tape, hgrow.output, hgrow.size, hgrow.block⟩; have hYw1 : Below Y.heap.size Y w1 := below_append hYZ hZs HoH.out hgZ; have hww1 : Below w.heap.size w w1 := hwg.trans (hYw1.mono hwg.size); have hon := Lib.hid (own_more hown1); clear hown1 hgrow hgZ) | (go_at_call 49; refine Calls.mono (hCt.out _ hww1) ?_; rintro e wB ⟨rfl, hbB⟩))
                refine hK.out _ _ ?_ (fun hNow => ?_)
                · first | (first | exact ⟨kept_cell hbB hc0, kept_cell hbB hd0, kept_cell hbB hd1, kept_cell hbB hd2, kept_cell hbB hd3, kept_cell hbB hd4, kept_cell hbB hd5⟩ | exact ⟨hc0, hd0, hd1, hd2, hd3, hd4, hd5⟩ | exact ⟨kx _ _ _ _ e0, kx _ _ _ _ m0, kx _ _ _ _ m1, kx _ _ _ _ m2, kx _ _ _ _ m3, kx _ _ _ _ m4, kx _ _ _ _ m5⟩ | exact ⟨kept_cell hBd e0, kept_cell hBd m0, kept_cell hBd m1, kept_cell hBd m2, kept_cell hBd m3, kept_cell hBd m4, kept_cell hBd m5⟩) | (dsimp only; (first | exact ⟨kept_cell hbB hc0, kept_cell hbB hd0, kept_cell hbB hd1, kept_cell hbB hd2, kept_cell hbB hd3, kept_cell hbB hd4, kept_cell hbB hd5⟩ | exact ⟨hc0, hd0, hd1, hd2, hd3, hd4, hd5⟩ | exact ⟨kx _ _ _ _ e0, kx _ _ _ _ m0, kx _ _ _ _ m1, kx _ _ _ _ m2, kx _ _ _ _ m3, kx _ _ _ _ m4, kx _ _ _ _ m5⟩ | exact ⟨kept_cell hBd e0, kept_cell hBd m0, kept_cell hBd m1, kept_cell hBd m2, kept_cell hBd m3, kept_cell hBd m4, kept_cell hBd m5⟩))
                clear hK K hHeld
                have hHeld := hNow
                clear hNow
                try simp only [Act.put, List.setIfInBounds_toArray, List.set_cons_zero, List.set_cons_succ]
                refine wpAnyH_take (i := 17) (v := ?_) rfl (by kernel_rfl) (by kernel_rfl) (by kernel_rfl) (fun _ _ _ h => h) (Or.inl ⟨by rfl, ?_⟩) (by assumption) ?_
                rotate_left
                · intro w hSw; (try dsimp only at hSw); go_simp; (try with_reducible rfl)
                try simp only [Act.put, List.setIfInBounds_toArray, List.set_cons_zero, List.set_cons_succ]
                refine wpAnyH_ready (rs := [18]) (by kernel_rfl) (by simp) ?_
                refine AllReadyH.cons rfl (fun K hK => ?_) AllReadyH.nil
                go_simp
                refine hK.out _ _ ?_ (fun hNow => ?_)
                · first | (first | exact ⟨kept_cell hbB hc0, kept_cell hbB hd0, kept_cell hbB hd1, kept_cell hbB hd2, kept_cell hbB hd3, kept_cell hbB hd4, kept_cell hbB hd5⟩ | exact ⟨hc0, hd0, hd1, hd2, hd3, hd4, hd5⟩ | exact ⟨kx _ _ _ _ e0, kx _ _ _ _ m0, kx _ _ _ _ m1, kx _ _ _ _ m2, kx _ _ _ _ m3, kx _ _ _ _ m4, kx _ _ _ _ m5⟩ | exact ⟨kept_cell hBd e0, kept_cell hBd m0, kept_cell hBd m1, kept_cell hBd m2, kept_cell hBd m3, kept_cell hBd m4, kept_cell hBd m5⟩) | (dsimp only; (first | exact ⟨kept_cell hbB hc0, kept_cell hbB hd0, kept_cell hbB hd1, kept_cell hbB hd2, kept_cell hbB hd3, kept_cell hbB hd4, kept_cell hbB hd5⟩ | exact ⟨hc0, hd0, hd1, hd2, hd3, hd4, hd5⟩ | exact ⟨kx _ _ _ _ e0, kx _ _ _ _ m0, kx _ _ _ _ m1, kx _ _ _ _ m2, kx _ _ _ _ m3, kx _ _ _ _ m4, kx _ _ _ _ m5⟩ | exact ⟨kept_cell hBd e0, kept_cell hBd m0, kept_cell hBd m1, kept_cell hBd m2, kept_cell hBd m3, kept_cell hBd m4, kept_cell hBd m5⟩))
                clear hK K hHeld
                have hHeld := hNow
                clear hNow
                try simp only [Act.put, List.setIfInBounds_toArray, List.set_cons_zero, List.set_cons_succ]
                refine wpAnyH_ready (rs := [19]) (by kernel_rfl) (by simp) ?_
                refine AllReadyH.cons rfl (fun K hK => ?_) AllReadyH.nil
                go_simp
                refine hK.out _ _ ?_ (fun hNow => ?_)
                · first | (first | exact ⟨kept_cell hbB hc0, kept_cell hbB hd0, kept_cell hbB hd1, kept_cell hbB hd2, kept_cell hbB hd3, kept_cell hbB hd4, kept_cell hbB hd5⟩ | exact ⟨hc0, hd0, hd1, hd2, hd3, hd4, hd5⟩ | exact ⟨kx _ _ _ _ e0, kx _ _ _ _ m0, kx _ _ _ _ m1, kx _ _ _ _ m2, kx _ _ _ _ m3, kx _ _ _ _ m4, kx _ _ _ _ m5⟩ | exact ⟨kept_cell hBd e0, kept_cell hBd m0, kept_cell hBd m1, kept_cell hBd m2, kept_cell hBd m3, kept_cell hBd m4, kept_cell hBd m5⟩) | (dsimp only; (first | exact ⟨kept_cell hbB hc0, kept_cell hbB hd0, kept_cell hbB hd1, kept_cell hbB hd2, kept_cell hbB hd3, kept_cell hbB hd4, kept_cell hbB hd5⟩ | exact ⟨hc0, hd0, hd1, hd2, hd3, hd4, hd5⟩ | exact ⟨kx _ _ _ _ e0, kx _ _ _ _ m0, kx _ _ _ _ m1, kx _ _ _ _ m2, kx _ _ _ _ m3, kx _ _ _ _ m4, kx _ _ _ _ m5⟩ | exact ⟨kept_cell hBd e0, kept_cell hBd m0, kept_cell hBd m1, kept_cell hBd m2, kept_cell hBd m3, kept_cell hBd m4, kept_cell hBd m5⟩))
                clear hK K hHeld
                have hHeld := hNow
                clear hNow
                try simp only [Act.put, List.setIfInBounds_toArray, List.set_cons_zero, List.set_cons_succ]
                refine wpAnyH_ready (rs := [20]) (by kernel_rfl) (by simp) ?_
                refine AllReadyH.cons rfl (fun K hK => ?_) AllReadyH.nil
                go_simp
                refine hK.out _ _ ?_ (fun hNow => ?_)
                · first | (first | exact ⟨kept_cell hbB hc0, kept_cell hbB hd0, kept_cell hbB hd1, kept_cell hbB hd2, kept_cell hbB hd3, kept_cell hbB hd4, kept_cell hbB hd5⟩ | exact ⟨hc0, hd0, hd1, hd2, hd3, hd4, hd5⟩ | exact ⟨kx _ _ _ _ e0, kx _ _ _ _ m0, kx _ _ _ _ m1, kx _ _ _ _ m2, kx _ _ _ _ m3, kx _ _ _ _ m4, kx _ _ _ _ m5⟩ | exact ⟨kept_cell hBd e0, kept_cell hBd m0, kept_cell hBd m1, kept_cell hBd m2, kept_cell hBd m3, kept_cell hBd m4, kept_cell hBd m5⟩) | (dsimp only; (first | exact ⟨kept_cell hbB hc0, kept_cell hbB hd0, kept_cell hbB hd1, kept_cell hbB hd2, kept_cell hbB hd3, kept_cell hbB hd4, kept_cell hbB hd5⟩ | exact ⟨hc0, hd0, hd1, hd2, hd3, hd4, hd5⟩ | exact ⟨kx _ _ _ _ e0, kx _ _ _ _ m0, kx _ _ _ _ m1, kx _ _ _ _ m2, kx _ _ _ _ m3, kx _ _ _ _ m4, kx _ _ _ _ m5⟩ | exact ⟨kept_cell hBd e0, kept_cell hBd m0, kept_cell hBd m1, kept_cell hBd m2, kept_cell hBd m3, kept_cell hBd m4, kept_cell hBd m5⟩))
                clear hK K hHeld
                have hHeld := hNow
                clear hNow
                try simp only [Act.put, List.setIfInBounds_toArray, List.set_cons_zero, List.set_cons_succ]
                refine wpAnyH_done (by kernel_rfl) ?_ _
                have hon2 := Lib.hid (hon.out.mono hbB)
                have hYB := hYw1.trans (hbB.mono hYw1.size)
                have hwB := hww1.trans (hbB.mono hww1.size)
                have m0 := kept_cell hYB p0
                have m1 := kept_cell hYB p1
                have m2 := kept_cell hYB p2
                have m3 := kept_cell hYB p3
                have m4 := kept_cell hYB p4
                have m5 := kept_cell hYB p5
                clear hc0 hd0 hd1 hd2 hd3 hd4 hd5 kx
                go_wp2_with (first
                  | (go_at_call 31; refine Calls.mono (hFt.out _ hwB) ?_; rintro e wC ⟨rfl, hbC⟩; have hYC := hYB.trans (hbC.mono hYB.size); have zt := kept_cell hYC z0)
                  | (go_at_call 36; refine Calls.mono (hIt.out _ hYC) ?_; rintro e wD ⟨rfl, hbD⟩))
                refine ⟨⟨t + 1, _, by omega, rfl, by go_num, by rw [hnext.out], by rw [hnext.out], ?_, hYC.trans (hbD.mono hYC.size)⟩, by simp [intOf]; omega⟩
                rw [hnext.out]
                exact (hon2.out.mono hbC).mono hbD
              · have hte : t = s.days.length := by omega
                have hti : ¬ ((t : Int) < (noms.length : Int)) := by rw [hnl.out]; omega
                obtain ⟨hpb, ⟨l, hll, hpo⟩, hpw⟩ := hsr.out
                have hPt := fun v Z hZ hv => hPl.out (serveTo s noms s.days.length).1 l (serveTo s noms s.days.length).2.2 0 1 v Z hZ hv hpb hpo
                have hllr : ((l.length : Int) == (s.days.length : Int)) = true := by rw [hll]; simp
                have hse : serveTo s noms s.days.length = serveTo s noms t := by rw [hte]
                rw [hse] at hPt hpw
                clear hse
                have hat := Lib.hid ho.at
                generalize serveTo s noms t = sv0 at *
                obtain ⟨pl, f, paid⟩ := sv0
                simp only at hPt hpw hat
                replace hPt := Lib.hid hPt
                replace hte := Lib.hid hte
                replace hpo := Lib.hid hpo
                replace hll := Lib.hid hll
                replace hpb := Lib.hid hpb
                clear ho
                go_wp2_with (first
                  | (go_at_call 45; ((with_reducible refine Calls.mono (hPt.out _ _ hwwr hat.out) ?_); rintro e w5 ⟨⟨pa, pcap, rfl, -⟩, hb5⟩; have hw5 := below_tr hwwr hb5; have hnw := World.alloc_heap_new w5 (.cells #[.int .i64 0, .int .i64 1] 74); obtain ⟨w6, hw6⟩ : ∃ w6, w5.alloc (.cells #[.int .i64 0, .int .i64 1] 74) = w6 := ⟨_, rfl⟩; rw [hw6] at hnw; have hb6 : Below w5.heap.size w5 w6 := (by rw [← hw6]; exact below_al (Below.refl _ _) _); have dn := (row_cells hnw).2.1; have cx0 := dn 0; have cx1 := dn 1; simp only [List.getElem?_toArray, List.getElem?_cons_zero, List.getElem?_cons_succ] at cx0 cx1; clear dn hnw; have m5 := kept_cell hb6 (kept_cell hb5 m5)))
                  | (go_at_call 16; refine Calls.mono (hK.out _) ?_; rintro e w7 ⟨rfl, hb7⟩))
                go_ret
                exact ⟨rfl, hw5.trans ((below_tr hb6 hb7).mono hw5.size)⟩
          · skip
            go_enter Try.func11, Try.ntmps11
            go_wp2_with (first
              | (go_at_call 14; ((with_reducible refine Calls.mono (hS.out) ?_); rintro e w' ⟨rfl, hb1⟩; obtain ⟨g1, rfl⟩ : ∃ g1 : Grow W, w' = g1.x := ⟨⟨w', hb1⟩, rfl⟩))
              | (go_at_call 15; ((with_reducible refine Calls.mono (hL.out g1) ?_); rintro e w' ⟨rfl, hb2⟩; obtain ⟨g2, rfl⟩ := g1.next hb2))
              | (go_at_call 19; ((with_reducible refine Calls.mono (hR.out g2) ?_); rintro e w' ⟨rfl, hb3⟩; obtain ⟨g3, rfl⟩ := g2.next hb3))
              | (go_at_call 20; ((with_reducible refine Calls.mono (hN.out g3) ?_); rintro e w' ⟨rfl, hb4⟩; obtain ⟨g4, rfl⟩ := g3.next hb4))
              | (go_at_call 25; ((with_reducible refine Calls.mono (hSa.out g4) ?_); rintro e w' ⟨⟨sb, soff, scap, rfl, hsb, hsafe⟩, hb5⟩; obtain ⟨g5, rfl⟩ := g4.next hb5; replace hsafe := Lib.hid hsafe))
              | (go_at_call 28; ((with_reducible refine Calls.mono (hW0.out g5) ?_); rintro e w' ⟨rfl, hb6⟩; obtain ⟨g6, rfl⟩ := g5.next hb6)))
            have hw0s := hw0.out
            generalize worstCost s = wco at *
            replace hw0s := Lib.hid hw0s
            have hsafe6 : Hid (∀ k, k ≤ s.days.length → ∃ ev, g6.x.cell? ⟨sb, soff + k, none⟩ = some ev ∧ SpansAt g6.x ev (Sea.spansAt (safeRows s) k)) := fun k hk => by
              obtain ⟨ev, h1, h2⟩ := hsafe.out k hk
              exact ⟨ev, kept_cell hb6 h1, h2.mono hb6⟩
            have hsb6 : sb < g6.x.heap.size := Nat.lt_of_lt_of_le hsb hb6.size
            obtain ⟨ev0, z0, z1⟩ := hsafe6.out 0 (by omega)
            rw [Nat.add_zero] at z0
            have p0 := g6.cell q0
            have p1 := g6.cell q1
            have p2 := g6.cell q2
            have p3 := g6.cell q3
            have p4 := g6.cell q4
            have p5 := g6.cell q5
            have hX0 : Below w.heap.size w g6.x := hBw.trans (g6.h.mono (Nat.le_of_lt hsz))
            have hbX : w.heap.size < g6.x.heap.size := Nat.lt_of_lt_of_le hsz g6.size
            have hnkX : Hid (∀ k, k < noms.length → g6.x.cell? ⟨nb, noff + k, none⟩ = some (.int .i64 (Sea.at0 noms k))) := fun k hk => g6.cell (hnk.out k hk)
            have hnbX : nb < g6.x.heap.size := Nat.lt_of_lt_of_le hnlt g6.size
            have hn1 : (0 : Int) < (s.days.length : Int) + 1 := by omega
            have hI0 : Hid (∀ g : Grow g6.x, Calls Try.prog 36 #[ev0, .int .i64 s.start] g.x fun e w' => e = .returned (.bool false) ∧ Below g.x.heap.size g.x w') := fun g => by
              have h := hIs.out 0 s.start ev0 g.x (by omega) hst (z1.mono g.h)
              rw [hw0s.out, decide_eq_false (show ¬ wco < Sea.never by unfold Sea.never; omega)] at h
              exact h
            generalize g6.x = X at *
            clear hb1 hb2 hb3 hb4 hb5 hb6 hS hL hR hN hSa hW0 hg q0 q1 q2 q3 q4 q5 hnk hsafe z1 hW hsb
            have hg := grow_cell X
            refine wp_region_grow (by kernel_rfl) (by kernel_rfl) ?_
            repeat (go_big_quiet_step ((first | (go_at_call 36; exact Calls.grow (hI0.out _)))))
            refine wpQuiet_nil ?_
            rintro _ ⟨g, rfl⟩
            go_wp2_with (go_at_call 16; refine Calls.mono (hK.out _) ?_; rintro e w7 ⟨rfl, hb7⟩)
            go_ret
            exact ⟨rfl, hX0.trans ((below_tr g.h hb7).mono hX0.size)⟩
end Go.Proofs.Ytacajmpggjgaiaa
