/- Walks: the theorem of what comes at the worst. -/
import Derived.Test.YtacajmpggjgaiaaS7
import Derived.Test.YtacajmpggjgaiaaS3
import Derived.Test.YtacajmpggjgaiaaWor
set_option linter.unusedVariables false
set_option linter.unusedSimpArgs false
namespace Go.Proofs.Ytacajmpggjgaiaa
open Go.RowKit Go.Sd

/-- An array of whole numbers, a block of its own. -/
def IntArr (b : Nat) (w : World) (ns : List Int) : Prop := w.heap[b]? = some (.cells (ns.map (Value.int .i64)).toArray 3)
theorem IntArr.mono {b : Nat} {w w' : World} {ns : List Int} (h : IntArr b w ns) (hb : Below w.heap.size w w') : IntArr b w' ns := (hb.block b (Array.getElem?_eq_some_iff.1 h).1).trans h
theorem IntArr.cell {b : Nat} {w : World} {ns : List Int} (h : IntArr b w ns) {k : Nat} (hk : k < ns.length) : w.cell? ⟨b, k, none⟩ = some (.int .i64 (Sea.at0 ns k)) ∧ w.frozen? ⟨b, k, none⟩ = false := by
  obtain ⟨-, h1, h2⟩ := row_cells h
  refine ⟨?_, h2 k⟩
  rw [h1]
  simp [Sea.at0, hk]
theorem IntArr.set {b : Nat} {w : World} {ns : List Int} (h : IntArr b w ns) (k : Nat) (y : Int) : IntArr b (w.setCell ⟨b, k, none⟩ (.int .i64 y)) (ns.set k y) := by
  unfold IntArr at *
  simp only [World.setCell, Array.getElem?_modify, if_true, h]
  simp [List.map_set]
theorem IntArr.at {b : Nat} {w : World} {ns : List Int} (h : IntArr b w ns) (hl : ns.length ≤ maxLen) (cap : Nat) : IntsAt w (.slice (some ⟨b, 0, none⟩) ns.length cap) ns :=
  ⟨_, cap, rfl, hl, fun _ => ⟨b, 0, rfl, (Array.getElem?_eq_some_iff.1 h).1, fun k hk => by rw [Nat.zero_add]; exact (h.cell hk).1⟩⟩

theorem run_make_ints (w : World) (n : Nat) (hn : n ≤ 1000) : (Instr.makeSlice 28 (.int .i64 (n : Int)) (.int .i64 (n : Int))).run Try.prog w =
    .ok (.slice (some ⟨w.heap.size, 0, none⟩) n n) (w.alloc (.cells (Array.replicate n (.int .i64 0)) 3)) := by
  obtain ⟨i0, hi, hz0, hz1, hz2⟩ := info_parts infoInt
  have h := run_makeSlice (P := Try.prog) w 28 3 i0 (.int .i64 0) Try.underlying28 hi hz0 .i64 .i64 (n : Int) (n : Int) (by omega) (by omega) (by rw [hz1]; omega) (by rw [hz2]; omega) (by omega)
  rw [hz1, Int.toNat_natCast, Nat.mul_one, show Value.cells (.int .i64 0) = #[.int .i64 0] from rfl, madeCells_one] at h
  exact h
theorem IntArr.made (w : World) (n : Nat) : IntArr w.heap.size (w.alloc (.cells (Array.replicate n (.int .i64 0)) 3)) (List.replicate n 0) := by
  unfold IntArr
  rw [World.alloc_heap_new]
  simp

/-- The nominations are such that the worst one comes on each day of a plan that holds. -/
def GoodN (s : Sea.S) (plan ns : List Int) : Prop :=
  s.nomsB ns = true ∧ (faultTo s ns plan s.days.length = none → ∀ k, k < s.days.length → Sea.at0 ns k = (worstOf s k (playTo s ns plan k).2.1 (wrow s (s.days.length - 1 - k))).1)
/-- The same, up to a day. -/
def StInv (s : Sea.S) (plan ns : List Int) (t : Nat) (fl : Int) : Prop :=
  s.nomsB ns = true ∧ fl = (playTo s ns plan t).2.1 ∧ (0 ≤ fl ∧ fl ≤ s.space) ∧ ∀ k, k < t → Sea.at0 ns k = (worstOf s k (playTo s ns plan k).2.1 (wrow s (s.days.length - 1 - k))).1

theorem playTo_noms {s : Sea.S} {a b plan : List Int} : ∀ k, (∀ j, j < k → Sea.at0 a j = Sea.at0 b j) → playTo s a plan k = playTo s b plan k
  | 0, _ => rfl
  | k + 1, h => by
    have := playTo_noms (s := s) (plan := plan) k fun j hj => h j (by omega)
    simp only [playTo, this, h k (by omega)]
theorem at0_set {l : List Int} {k j : Nat} {y : Int} (hk : k < l.length) : Sea.at0 (l.set k y) j = if j = k then y else Sea.at0 l j := by
  unfold Sea.at0
  by_cases h : j = k
  · subst h; simp [hk]
  · simp [h, List.getElem?_set, Ne.symm h]
theorem nomsB_mk {s : Sea.S} {l : List Int} (hl : l.length = s.days.length) (h : ∀ k, k < s.days.length → (Sea.dayAt s.days k).nlo ≤ Sea.at0 l k ∧ Sea.at0 l k ≤ (Sea.dayAt s.days k).nhi) : s.nomsB l = true := by
  unfold Sea.S.nomsB
  rw [Bool.and_eq_true, decide_eq_true_eq, List.all_eq_true]
  exact ⟨hl, fun k hk => Sea.inB_iff.2 (h k (by rw [List.mem_range, hl] at hk; exact hk))⟩

/-- One day more. -/
theorem StInv.step {s : Sea.S} (ok : Sea.Ok s) {plan ns : List Int} {t : Nat} {fl : Int} (h : StInv s plan ns t fl) (ht : t < s.days.length) (hp : planB s plan = true) {nm : Int} (hnm0 : (worstOf s t fl (wrow s (s.days.length - 1 - t))).1 = nm) :
    (0 ≤ fl + nm + Sea.at0 plan t ∧ fl + nm + Sea.at0 plan t ≤ s.space → StInv s plan (ns.set t nm) (t + 1) (fl + nm + Sea.at0 plan t)) ∧
      (¬ (0 ≤ fl + nm + Sea.at0 plan t ∧ fl + nm + Sea.at0 plan t ≤ s.space) → GoodN s plan (ns.set t nm)) := by
  obtain ⟨h1, h2, h3, h4⟩ := h
  have hl := (noms_bd ok h1).1
  have hnm : (Sea.dayAt s.days t).nlo ≤ nm ∧ nm ≤ (Sea.dayAt s.days t).nhi := by rw [← hnm0]; exact worst_in ok ht fl _
  have hb : s.nomsB (ns.set t nm) = true := nomsB_mk (by simp [hl]) fun k hk => by
    rw [at0_set (by omega)]
    split
    · rename_i e; subst e; exact hnm
    · exact noms_in h1 hk
  have hsame : ∀ k, k ≤ t → playTo s (ns.set t nm) plan k = playTo s ns plan k := fun k hk => playTo_noms k fun j hj => by rw [at0_set (by omega), if_neg (by omega)]
  have hnew : (playTo s (ns.set t nm) plan (t + 1)).2.1 = fl + nm + Sea.at0 plan t := by
    show (playTo s (ns.set t nm) plan t).2.1 + Sea.at0 (ns.set t nm) t + Sea.at0 plan t = _
    rw [hsame t (Nat.le_refl _), at0_set (by omega), if_pos rfl, ← h2]
  refine ⟨fun hr => ⟨hb, hnew.symm, hr, fun k hk => ?_⟩, fun hr => ⟨hb, fun hF => ?_⟩⟩
  · rw [hsame k (by omega), at0_set (by omega)]
    split
    · rename_i e; subst e; rw [← h2, hnm0]
    · exact h4 k (by omega)
  · have := (play_inv ok hp (t + 1) (by omega) (faultTo_less hF (by omega))).1
    rw [hnew] at this
    exact absurd this hr
theorem StInv.good {s : Sea.S} {plan ns : List Int} {t : Nat} {fl : Int} (h : StInv s plan ns t fl) (ht : t = s.days.length) : GoodN s plan ns := by
  subst ht; exact ⟨h.1, fun _ => h.2.2.2⟩

/-- What Play says at the worst. -/
theorem stops_two {s : Sea.S} (ok : Sea.Ok s) {plan ns : List Int} (hp : planB s plan = true) (h : GoodN s plan ns) : ∃ l c d r, playOf s ns plan = (l, c, d, r) ∧ (r ≠ 1 ∨ (r = 1 ∧ worstCost s < Sea.never ∧ worstCost s ≤ c)) := by
  rcases play_two (noms := ns) hp with ⟨l, c, d, r, h1, h2⟩ | ⟨hF, h1⟩
  · exact ⟨l, c, d, r, h1, .inl h2⟩
  · have := worst_cost_le ok hp hF (h.2 hF)
    exact ⟨_, _, _, _, h1, .inr ⟨rfl, this.2, this.1⟩⟩

theorem progWorstAt {sv : Value} {s : Sea.S} {t : Nat} {f : Int} (w : World) (hs : SeasonAt w sv s) (hv : Sea.validB s = true) (ht : t < s.days.length) (hf : 0 ≤ f ∧ f ≤ s.space) :
    Calls Try.prog 28 #[sv, .int .i64 t, .int .i64 f] w fun e w' => e = .returned (.tuple #[.int .i64 (worstOf s t f (wrow s (s.days.length - 1 - t))).1, .int .i64 (worstOf s t f (wrow s (s.days.length - 1 - t))).2, .int .i64 0]) ∧ Below w.heap.size w w' := by
  obtain ⟨k, rfl⟩ := Int.eq_ofNat_of_zero_le hf.1
  exact progWorstT w hs (worstErr_yes (by unfold askedB; rw [hv, Sea.inB_iff.2 (show (0 : Int) ≤ (t : Int) ∧ (t : Int) ≤ s.days.length - 1 by omega), Sea.inB_iff.2 hf]; rfl))

set_option maxRecDepth 100000 in
set_option maxHeartbeats 16000000 in
/-- The theorem of what comes at the worst. -/
theorem lawStops (sv pv : Value) (s : Sea.S) (plan : List Int) (w : World) (hs : SeasonAt w sv s) (hp : IntsAt w pv plan) :
    Calls Try.prog 12 #[sv, pv] w fun e w' => e = .returned (.bool true) ∧ Below w.heap.size w w' := by
  have hs' := hs
  obtain ⟨rv, dv, rfl, hr, hd⟩ := hs'
  obtain ⟨W, hW⟩ : ∃ W, w.alloc (sBox s rv dv) = W := ⟨_, rfl⟩
  obtain ⟨hsz, hBw, q0, q1, q2, q3, q4, q5⟩ := box_season hW
  have hg := grow_cell W
  have hK : Hid (∀ (w : World), Calls Try.prog 16 #[] w fun e w' => e = .returned (.bool true) ∧ Below w.heap.size w w') := progKnown
  have hsg : ∀ g : Grow W, SeasonAt g.x (.agg #[.int .i64 s.space, .int .i64 s.start, .int .i64 s.elo, .int .i64 s.ehi, rv, dv]) s := fun g => (hs.mono hBw).mono g.h
  have hpg : ∀ g : Grow W, IntsAt g.x pv plan := fun g => (hp.mono hBw).mono g.h
  cases hsm : smallB s
  · skip
    have hS : Hid (Calls Try.prog 14 #[.agg #[.int .i64 s.space, .int .i64 s.start, .int .i64 s.elo, .int .i64 s.ehi, rv, dv]] W fun e w' => e = .returned (.bool false) ∧ Below W.heap.size W w') := lawSmallT W (hs.mono hBw) hsm
    replace hsm := Lib.hid hsm
    clear hpg
    clear hsg
    go_enter Try.func12, Try.ntmps12
    go_wp2_with (first
      | (go_at_call 14; ((with_reducible refine Calls.mono (hS.out) ?_); rintro e w' ⟨rfl, hb1⟩; obtain ⟨g1, rfl⟩ : ∃ g1 : Grow W, w' = g1.x := ⟨⟨w', hb1⟩, rfl⟩))
      | (go_at_call 16; ((with_reducible refine Calls.mono (hK.out _) ?_); rintro e w' ⟨rfl, hb2⟩; obtain ⟨g2, rfl⟩ := g1.next hb2)))
    go_ret
    exact ⟨rfl, hBw.trans (g2.h.mono (Nat.le_of_lt hsz))⟩
  · skip
    have hS : Hid (Calls Try.prog 14 #[.agg #[.int .i64 s.space, .int .i64 s.start, .int .i64 s.elo, .int .i64 s.ehi, rv, dv]] W fun e w' => e = .returned (.bool true) ∧ Below W.heap.size W w') := lawSmallT W (hs.mono hBw) hsm
    replace hsm := Lib.hid hsm
    cases hli : decide (plan.length ≤ 25)
    · skip
      have hM : Hid (∀ g : Grow W, Calls Try.prog 15 #[pv] g.x fun e w' => e = .returned (.bool false) ∧ Below g.x.heap.size g.x w') := fun g => (lawListed g.x (hpg g) hli).mono fun _ _ ⟨h1, h2⟩ => ⟨h1, by rw [h2]; exact Below.refl _ _⟩
      replace hli := Lib.hid hli
      clear hpg
      clear hsg
      go_enter Try.func12, Try.ntmps12
      go_wp2_with (first
        | (go_at_call 14; ((with_reducible refine Calls.mono (hS.out) ?_); rintro e w' ⟨rfl, hb1⟩; obtain ⟨g1, rfl⟩ : ∃ g1 : Grow W, w' = g1.x := ⟨⟨w', hb1⟩, rfl⟩))
        | (go_at_call 15; ((with_reducible refine Calls.mono (hM.out g1) ?_); rintro e w' ⟨rfl, hb2⟩; obtain ⟨g2, rfl⟩ := g1.next hb2))
        | (go_at_call 16; ((with_reducible refine Calls.mono (hK.out _) ?_); rintro e w' ⟨rfl, hb3⟩; obtain ⟨g3, rfl⟩ := g2.next hb3)))
      go_ret
      exact ⟨rfl, hBw.trans (g3.h.mono (Nat.le_of_lt hsz))⟩
    · skip
      have hM : Hid (∀ g : Grow W, Calls Try.prog 15 #[pv] g.x fun e w' => e = .returned (.bool true) ∧ Below g.x.heap.size g.x w') := fun g => (lawListed g.x (hpg g) hli).mono fun _ _ ⟨h1, h2⟩ => ⟨h1, by rw [h2]; exact Below.refl _ _⟩
      replace hli := Lib.hid hli
      cases hvb : Sea.validB s
      · skip
        have hR : Hid (∀ g : Grow W, Calls Try.prog 19 #[.agg #[.int .i64 s.space, .int .i64 s.start, .int .i64 s.elo, .int .i64 s.ehi, rv, dv]] g.x fun e w' => e = .returned (.bool false) ∧ Below g.x.heap.size g.x w') := fun g => refSeasonT g.x (hsg g) hvb
        replace hvb := Lib.hid hvb
        clear hpg
        clear hsg
        go_enter Try.func12, Try.ntmps12
        go_wp2_with (first
          | (go_at_call 14; ((with_reducible refine Calls.mono (hS.out) ?_); rintro e w' ⟨rfl, hb1⟩; obtain ⟨g1, rfl⟩ : ∃ g1 : Grow W, w' = g1.x := ⟨⟨w', hb1⟩, rfl⟩))
          | (go_at_call 15; ((with_reducible refine Calls.mono (hM.out g1) ?_); rintro e w' ⟨rfl, hb2⟩; obtain ⟨g2, rfl⟩ := g1.next hb2))
          | (go_at_call 19; ((with_reducible refine Calls.mono (hR.out g2) ?_); rintro e w' ⟨rfl, hb3⟩; obtain ⟨g3, rfl⟩ := g2.next hb3))
          | (go_at_call 16; ((with_reducible refine Calls.mono (hK.out _) ?_); rintro e w' ⟨rfl, hb4⟩; obtain ⟨g4, rfl⟩ := g3.next hb4)))
        go_ret
        exact ⟨rfl, hBw.trans (g4.h.mono (Nat.le_of_lt hsz))⟩
      · skip
        have hR : Hid (∀ g : Grow W, Calls Try.prog 19 #[.agg #[.int .i64 s.space, .int .i64 s.start, .int .i64 s.elo, .int .i64 s.ehi, rv, dv]] g.x fun e w' => e = .returned (.bool true) ∧ Below g.x.heap.size g.x w') := fun g => refSeasonT g.x (hsg g) hvb
        cases hpl : planB s plan
        · skip
          have hQ : Hid (∀ g : Grow W, Calls Try.prog 46 #[.agg #[.int .i64 s.space, .int .i64 s.start, .int .i64 s.elo, .int .i64 s.ehi, rv, dv], pv] g.x fun e w' => e = .returned (.bool false) ∧ Below g.x.heap.size g.x w') := fun g => refPlanT g.x (hsg g) (hpg g) hpl
          replace hpl := Lib.hid hpl
          clear hpg
          clear hsg
          go_enter Try.func12, Try.ntmps12
          go_wp2_with (first
            | (go_at_call 14; ((with_reducible refine Calls.mono (hS.out) ?_); rintro e w' ⟨rfl, hb1⟩; obtain ⟨g1, rfl⟩ : ∃ g1 : Grow W, w' = g1.x := ⟨⟨w', hb1⟩, rfl⟩))
            | (go_at_call 15; ((with_reducible refine Calls.mono (hM.out g1) ?_); rintro e w' ⟨rfl, hb2⟩; obtain ⟨g2, rfl⟩ := g1.next hb2))
            | (go_at_call 19; ((with_reducible refine Calls.mono (hR.out g2) ?_); rintro e w' ⟨rfl, hb3⟩; obtain ⟨g3, rfl⟩ := g2.next hb3))
            | (go_at_call 46; ((with_reducible refine Calls.mono (hQ.out g3) ?_); rintro e w' ⟨rfl, hb4⟩; obtain ⟨g4, rfl⟩ := g3.next hb4))
            | (go_at_call 16; ((with_reducible refine Calls.mono (hK.out _) ?_); rintro e w' ⟨rfl, hb5⟩; obtain ⟨g5, rfl⟩ := g4.next hb5)))
          go_ret
          exact ⟨rfl, hBw.trans (g5.h.mono (Nat.le_of_lt hsz))⟩
        · skip
          have hQ : Hid (∀ g : Grow W, Calls Try.prog 46 #[.agg #[.int .i64 s.space, .int .i64 s.start, .int .i64 s.elo, .int .i64 s.ehi, rv, dv], pv] g.x fun e w' => e = .returned (.bool true) ∧ Below g.x.heap.size g.x w') := fun g => refPlanT g.x (hsg g) (hpg g) hpl
          have ok := Sea.ok_of_valid hvb
          have hsp := ok.space
          have hnd := ok.ndays
          have hst := ok.start
          have hlb := Lib.hid (planB_at hpl).2
          have hll := Lib.hid (planB_at hpl).1
          have hpW := hp.mono hBw
          have hdS := hd.mono hBw
          obtain ⟨lb, loff, lcap, rfl, hplt, hpm, hpk⟩ := int_cell hpW (by rw [hll.out]; omega)
          obtain ⟨db, doff, dcap, rfl, hdb, hdm, -⟩ := day_cells hdS (k := 0) (by omega)
          have hday : Hid (∀ k, k < s.days.length → DayCells W db (doff + k * 8) (Sea.dayAt s.days k)) := fun k hk => by
            obtain ⟨b, o, c, he, -, -, h⟩ := day_cells hdS hk
            cases he
            exact h
          replace hpk := Lib.hid hpk
          have hdd := Lib.hid ok.days
          have hWo : Hid (∀ (t : Nat) (f : Int) (X : World), Below w.heap.size w X → t < s.days.length → 0 ≤ f ∧ f ≤ s.space → Calls Try.prog 28 #[.agg #[.int .i64 s.space, .int .i64 s.start, .int .i64 s.elo, .int .i64 s.ehi, rv, .slice (some ⟨db, doff, none⟩) s.days.length dcap], .int .i64 t, .int .i64 f] X fun e w' => e = .returned (.tuple #[.int .i64 (worstOf s t f (wrow s (s.days.length - 1 - t))).1, .int .i64 (worstOf s t f (wrow s (s.days.length - 1 - t))).2, .int .i64 0]) ∧ Below X.heap.size X w') := fun t f X hX ht hf => progWorstAt X (hs.mono hX) hvb ht hf
          have hW0 : Hid (∀ g : Grow W, Calls Try.prog 28 #[.agg #[.int .i64 s.space, .int .i64 s.start, .int .i64 s.elo, .int .i64 s.ehi, rv, .slice (some ⟨db, doff, none⟩) s.days.length dcap], .int .i64 0, .int .i64 s.start] g.x fun e w' => e = .returned (.tuple #[.int .i64 (worstOf s 0 s.start (wrow s (s.days.length - 1))).1, .int .i64 (worstCost s), .int .i64 0]) ∧ Below g.x.heap.size g.x w') := fun g => by
            rw [worstCost_eq ok]
            exact hWo.out 0 s.start g.x (hBw.trans (g.h.mono (Nat.le_of_lt hsz))) (by omega) hst
          have hNo : Hid (∀ (t : Nat) (f : Int) (X : World), Below w.heap.size w X → t < s.days.length → Calls Try.prog 33 #[.agg #[.int .i64 s.space, .int .i64 s.start, .int .i64 s.elo, .int .i64 s.ehi, rv, .slice (some ⟨db, doff, none⟩) s.days.length dcap], .int .i64 t, .int .i64 (worstOf s t f (wrow s (s.days.length - 1 - t))).1] X fun e w' => e = .returned (.bool true) ∧ Below X.heap.size X w') := fun t f X hX ht => refNomT X (hs.mono hX) ht (Sea.inB_iff.2 (worst_in ok ht f _))
          have hFi : Hid (∀ (f : Int) (X : World), Below w.heap.size w X → Calls Try.prog 31 #[.agg #[.int .i64 s.space, .int .i64 s.start, .int .i64 s.elo, .int .i64 s.ehi, rv, .slice (some ⟨db, doff, none⟩) s.days.length dcap], .int .i64 f] X fun e w' => e = .returned (.bool (Sea.inB f 0 s.space)) ∧ Below X.heap.size X w') := fun f X hX => refFillT X (hs.mono hX) rfl
          have hPl : Hid (∀ (ns l : List Int) (c d r : Int) (v : Value) (X : World), Below w.heap.size w X → IntsAt X v ns → s.nomsB ns = true → playOf s ns plan = (l, c, d, r) → Calls Try.prog 45 #[.agg #[.int .i64 s.space, .int .i64 s.start, .int .i64 s.elo, .int .i64 s.ehi, rv, .slice (some ⟨db, doff, none⟩) s.days.length dcap], v, .slice (some ⟨lb, loff, none⟩) plan.length lcap] X fun e w' => (∃ a cap, e = .returned (.tuple #[.slice a l.length cap, .int .i64 c, .agg #[.int .i64 d, .int .i64 r], .int .i64 0]) ∧ IntsAt w' (.slice a l.length cap) l) ∧ Below X.heap.size X w') := fun ns l c d r v X hX hv hnb h => progPlayT X (hs.mono hX) hv (hp.mono hX) hvb hnb hpl h
          have hmk := fun X => run_make_ints X s.days.length (by omega)
          have hwr : Hid (∀ t f, -100 ≤ (worstOf s t f (wrow s (s.days.length - 1 - t))).1 ∧ (worstOf s t f (wrow s (s.days.length - 1 - t))).1 ≤ 100 ∨ s.days.length ≤ t) := fun t f => by
            by_cases ht : t < s.days.length
            · have h1 := worst_in ok ht f (wrow s (s.days.length - 1 - t))
              have h2 := ok.days t ht
              exact .inl (by omega)
            · exact .inr (by omega)
          have hgood := fun ns (h : GoodN s plan ns) => stops_two ok hpl h
          replace hgood := Lib.hid hgood
          have hstep := fun (ns : List Int) (t : Nat) (fl : Int) (h : StInv s plan ns t fl) (ht : t < s.days.length) => h.step ok ht hpl rfl
          replace hstep := Lib.hid hstep
          have hstart : Hid (∀ ns : List Int, ns.length = s.days.length → (∀ k, k < s.days.length → Sea.at0 ns k = (Sea.dayAt s.days k).nlo) → StInv s plan ns 0 s.start) := fun ns hl h =>
            ⟨nomsB_mk hl fun k hk => by rw [h k hk]; have := ok.days k hk; omega, rfl, hst, fun k hk => by omega⟩
          replace hvb := Lib.hid hvb
          replace hpl := Lib.hid hpl
          clear hs hp hpW hdS hpg hsg ok hd hr
          go_enter Try.func12, Try.ntmps12
          go_wp2_with (first
            | (go_at_call 14; ((with_reducible refine Calls.mono (hS.out) ?_); rintro e w' ⟨rfl, hb1⟩; obtain ⟨g1, rfl⟩ : ∃ g1 : Grow W, w' = g1.x := ⟨⟨w', hb1⟩, rfl⟩))
            | (go_at_call 15; ((with_reducible refine Calls.mono (hM.out g1) ?_); rintro e w' ⟨rfl, hb2⟩; obtain ⟨g2, rfl⟩ := g1.next hb2))
            | (go_at_call 19; ((with_reducible refine Calls.mono (hR.out g2) ?_); rintro e w' ⟨rfl, hb3⟩; obtain ⟨g3, rfl⟩ := g2.next hb3))
            | (go_at_call 46; ((with_reducible refine Calls.mono (hQ.out g3) ?_); rintro e w' ⟨rfl, hb4⟩; obtain ⟨g4, rfl⟩ := g3.next hb4))
            | (go_at_call 28; ((with_reducible refine Calls.mono (hW0.out g4) ?_); rintro e w' ⟨rfl, hb5⟩; obtain ⟨g5, rfl⟩ := g4.next hb5)))
          have hX0 : Below w.heap.size w g5.x := hBw.trans (g5.h.mono (Nat.le_of_lt hsz))
          have p0 := g5.cell q0
          have p1 := g5.cell q1
          have p2 := g5.cell q2
          have p3 := g5.cell q3
          have p4 := g5.cell q4
          have p5 := g5.cell q5
          have hdX : Hid (∀ k, k < s.days.length → DayCells g5.x db (doff + k * 8) (Sea.dayAt s.days k)) := fun k hk => (hday.out k hk).mono g5.h
          have hpX : Hid (∀ k, k < plan.length → g5.x.cell? ⟨lb, loff + k, none⟩ = some (.int .i64 (Sea.at0 plan k))) := fun k hk => g5.cell (hpk.out k hk)
          have hbX : w.heap.size < g5.x.heap.size := Nat.lt_of_lt_of_le hsz g5.size
          have hdbX : db < g5.x.heap.size := Nat.lt_of_lt_of_le hdb g5.size
          have hA0 := IntArr.made g5.x s.days.length
          have hB0 : Below g5.x.heap.size g5.x (g5.x.alloc (.cells (Array.replicate s.days.length (.int .i64 0)) 3)) := below_al (Below.refl _ _) _
          generalize g5.x.alloc (.cells (Array.replicate s.days.length (.int .i64 0)) 3) = X1 at *
          generalize g5.x = X at *
          clear hb1 hb2 hb3 hb4 hb5 hS hM hR hQ hW0 hmk hg q0 q1 q2 q3 q4 q5 hday hpk hW
          replace hA0 : Hid (∃ ns : List Int, IntArr X.heap.size X1 ns ∧ ns.length = s.days.length ∧ ∀ j, j < 0 → Sea.at0 ns j = (Sea.dayAt s.days j).nlo) := ⟨_, hA0, by simp, fun j h => by omega⟩
          go_loopw [10] (fun i wr => ∃ k : Nat, k ≤ s.days.length ∧ i = .int .i64 k ∧ Hid (∃ ns : List Int, IntArr X.heap.size wr ns ∧ ns.length = s.days.length ∧ ∀ j, j < k → Sea.at0 ns j = (Sea.dayAt s.days j).nlo) ∧ Below X.heap.size X wr) (fun i _ => s.days.length - (intOf i).toNat)
          case atStart => exact ⟨0, by omega, rfl, hA0, hB0⟩
          case round =>
            clear hA0 hB0
            obtain ⟨k, hk, rfl, hA, hB⟩ := hrel
            have m5 := kept_cell hB p5
            have hBs := hB.size
            by_cases hlt : k < s.days.length
            · obtain ⟨ns, hA1, hA2, hA3⟩ := hA.out
              obtain ⟨a0, a1⟩ := hA1.cell (k := k) (by omega)
              obtain ⟨-, -, -, -, -, -, c6, -⟩ := (hdX.out k hlt).mono hB
              have hki : (0 : Int) ≤ (k : Int) ∧ (k : Int) < (s.days.length : Int) := by omega
              have hdb2 : db < wr.heap.size := Nat.lt_of_lt_of_le hdbX hBs
              have hne : ¬ X.heap.size = db := by omega
              generalize hlo : (Sea.dayAt s.days k).nlo = lo at *
              have hAH := Lib.hid hA1
              have hA3H := Lib.hid hA3
              replace hlo := Lib.hid hlo
              clear hA hA1 hA3
              go_wp2_with (fail)
              have hB2 : Below X.heap.size X (wr.setCell ⟨X.heap.size, k, none⟩ (.int .i64 lo)) := hB.setCell (Nat.le_refl _) _
              refine ⟨⟨k + 1, by omega, by go_num, ⟨_, hAH.out.set k lo, by simp [hA2], fun j hj => ?_⟩, hB2⟩, by simp [intOf]; omega⟩
              rw [at0_set (by omega)]
              by_cases e : j = k
              · subst e; rw [if_pos rfl, hlo.out]
              · rw [if_neg e]; exact hA3H.out j (by omega)
            · have hA4 : Hid (∃ ns : List Int, IntArr X.heap.size wr ns ∧ StInv s plan ns 0 s.start) := by
                obtain ⟨ns, h1, h2, h3⟩ := hA.out
                exact ⟨ns, h1, hstart.out ns h2 fun j hj => h3 j (by omega)⟩
              have hki : ¬ ((k : Int) < (s.days.length : Int)) := by omega
              have m1 := kept_cell hB p1
              clear hA
              obtain ⟨U, rfl⟩ : ∃ U : World, U = wr := ⟨_, rfl⟩
              go_wp2_with (fail)
              go_loopw [8, 11] (fun fill i wr => ∃ (t : Nat) (fl : Int), t ≤ s.days.length ∧ i = .int .i64 t ∧ fill = .int .i64 fl ∧ Hid (∃ ns : List Int, IntArr X.heap.size wr ns ∧ StInv s plan ns t fl) ∧ Below X.heap.size X wr) (fun _ i _ => s.days.length - (intOf i).toNat)
              case atStart => exact ⟨0, s.start, by omega, rfl, rfl, hA4, hB⟩
              case round =>
                clear hA4 hB m5 m1
                obtain ⟨t, fl, ht, rfl, rfl, hA, hB⟩ := hrel
                have m0 := kept_cell hB p0
                have m1 := kept_cell hB p1
                have m2 := kept_cell hB p2
                have m3 := kept_cell hB p3
                have m4 := kept_cell hB p4
                have m5 := kept_cell hB p5
                have hBs := hB.size
                have hwwr : Below w.heap.size w wr := hX0.trans (hB.mono hX0.size)
                by_cases htl : t < s.days.length
                · obtain ⟨ns, hA1, hA2⟩ := hA.out
                  have hst2 := hstep.out ns t fl hA2 htl
                  have hfl := hA2.2.2.1
                  have hnl : ns.length = s.days.length := by have := hA2.1; unfold Sea.S.nomsB at this; rw [Bool.and_eq_true, decide_eq_true_eq] at this; exact this.1
                  have hnm : -100 ≤ (worstOf s t fl (wrow s (s.days.length - 1 - t))).1 ∧ (worstOf s t fl (wrow s (s.days.length - 1 - t))).1 ≤ 100 := by rcases hwr.out t fl with h | h; exact h; omega
                  have hWt := fun Y hY => hWo.out t fl Y hY htl hfl
                  have hNt := fun Y hY => hNo.out t fl Y hY htl
                  generalize (worstOf s t fl (wrow s (s.days.length - 1 - t))).2 = wc at *
                  generalize (worstOf s t fl (wrow s (s.days.length - 1 - t))).1 = nm at *
                  have e1 := kept_cell hB (hpX.out t (by have := hll.out; omega))
                  have hx := hlb.out t (by have := hll.out; omega)
                  have hFt := fun Y hY => hFi.out (fl + nm + Sea.at0 plan t) Y hY
                  generalize Sea.at0 plan t = x at *
                  have hti : (0 : Int) ≤ (t : Int) ∧ (t : Int) < (s.days.length : Int) ∧ (t : Int) < (plan.length : Int) := by have := hll.out; omega
                  have hAH := Lib.hid hA1
                  have hst2H := Lib.hid hst2
                  replace hWt := Lib.hid hWt
                  replace hNt := Lib.hid hNt
                  clear hA hA1 hA2 hst2
                  by_cases hin : 0 ≤ fl + nm + x ∧ fl + nm + x ≤ s.space
                  · have hFy : Hid (∀ Y, Below w.heap.size w Y → Calls Try.prog 31 #[.agg #[.int .i64 s.space, .int .i64 s.start, .int .i64 s.elo, .int .i64 s.ehi, rv, .slice (some ⟨db, doff, none⟩) s.days.length dcap], .int .i64 (fl + nm + x)] Y fun e w' => e = .returned (.bool true) ∧ Below Y.heap.size Y w') := fun Y hY => by rw [← Sea.inB_iff.2 hin]; exact hFt Y hY
                    have hGo := Lib.hid (hst2H.out.1 hin)
                    replace hin := Lib.hid hin
                    clear hFt hst2H
                    go_wp2_with (first
                      | (go_at_call 28; ((with_reducible refine Calls.mono (hWt.out _ hwwr) ?_); rintro e w1 ⟨rfl, hb1⟩; have hw1 := below_tr hwwr hb1; have m0 := kept_cell hb1 m0; have m1 := kept_cell hb1 m1; have m2 := kept_cell hb1 m2; have m3 := kept_cell hb1 m3; have m4 := kept_cell hb1 m4; have m5 := kept_cell hb1 m5))
                      | (go_at_call 33; ((with_reducible refine Calls.mono (hNt.out _ hw1) ?_); rintro e w2 ⟨rfl, hb2⟩; have hw2 := below_tr hw1 hb2; have hB2 := below_tr hb1 hb2; have e1 := kept_cell hB2 e1; have hA2 := hAH.out.mono hB2; obtain ⟨a0, a1⟩ := hA2.cell (k := t) (by omega); have hXW2 := hB.trans (hB2.mono hBs); have hXs2 := hXW2.size; have hne : ¬ X.heap.size = w.heap.size := (by omega); have hAs := Lib.hid (hA2.set t nm); have hXW3 := hXW2.setCell (p := ⟨X.heap.size, t, none⟩) (Nat.le_refl _) (.int .i64 nm); have hw3 := hX0.trans (hXW3.mono hX0.size); have m0 := kept_cell hXW3 p0; have m1 := kept_cell hXW3 p1; have m2 := kept_cell hXW3 p2; have m3 := kept_cell hXW3 p3; have m4 := kept_cell hXW3 p4; have m5 := kept_cell hXW3 p5))
                      | (go_at_call 31; ((with_reducible refine Calls.mono (hFy.out _ hw3) ?_); rintro e w4 ⟨rfl, hb4⟩)))
                    exact ⟨⟨t + 1, fl + nm + x, by omega, by go_num, rfl, ⟨_, hAs.out.mono hb4, hGo.out⟩, hXW3.trans (hb4.mono hXW3.size)⟩, by simp [intOf]; omega⟩
                  · have hFy : Hid (∀ Y, Below w.heap.size w Y → Calls Try.prog 31 #[.agg #[.int .i64 s.space, .int .i64 s.start, .int .i64 s.elo, .int .i64 s.ehi, rv, .slice (some ⟨db, doff, none⟩) s.days.length dcap], .int .i64 (fl + nm + x)] Y fun e w' => e = .returned (.bool false) ∧ Below Y.heap.size Y w') := fun Y hY => by rw [← Sea.inB_not.2 hin]; exact hFt Y hY
                    obtain ⟨l, c, d, r, hpo, hr⟩ := hgood.out _ (hst2H.out.2 hin)
                    have hnbs : Hid (s.nomsB (ns.set t nm) = true) := (hst2H.out.2 hin).1
                    have hPY := fun v Y hY hv => hPl.out (ns.set t nm) l c d r v Y hY hv hnbs.out hpo
                    replace hPY := Lib.hid hPY
                    replace hin := Lib.hid hin
                    replace hpo := Lib.hid hpo
                    clear hFt hst2H
                    have hsl : Hid ((ns.set t nm).length = s.days.length) := by show _ = _; simp [hnl]
                    rcases hr with hr1 | ⟨rfl, hwn, hwc⟩
                    · have hrb : (r != 1) = true := by simpa using hr1
                      replace hr1 := Lib.hid hr1
                      go_wp2_with (first
                        | (go_at_call 28; ((with_reducible refine Calls.mono (hWt.out _ hwwr) ?_); rintro e w1 ⟨rfl, hb1⟩; have hw1 := below_tr hwwr hb1; have m0 := kept_cell hb1 m0; have m1 := kept_cell hb1 m1; have m2 := kept_cell hb1 m2; have m3 := kept_cell hb1 m3; have m4 := kept_cell hb1 m4; have m5 := kept_cell hb1 m5))
                        | (go_at_call 33; ((with_reducible refine Calls.mono (hNt.out _ hw1) ?_); rintro e w2 ⟨rfl, hb2⟩; have hw2 := below_tr hw1 hb2; have hB2 := below_tr hb1 hb2; have e1 := kept_cell hB2 e1; have hA2 := hAH.out.mono hB2; obtain ⟨a0, a1⟩ := hA2.cell (k := t) (by omega); have hXW2 := hB.trans (hB2.mono hBs); have hXs2 := hXW2.size; have hne : ¬ X.heap.size = w.heap.size := (by omega); have hAs := Lib.hid (hA2.set t nm); have hXW3 := hXW2.setCell (p := ⟨X.heap.size, t, none⟩) (Nat.le_refl _) (.int .i64 nm); have hw3 := hX0.trans (hXW3.mono hX0.size); have m0 := kept_cell hXW3 p0; have m1 := kept_cell hXW3 p1; have m2 := kept_cell hXW3 p2; have m3 := kept_cell hXW3 p3; have m4 := kept_cell hXW3 p4; have m5 := kept_cell hXW3 p5))
                        | (go_at_call 31; ((with_reducible refine Calls.mono (hFy.out _ hw3) ?_); rintro e w4 ⟨rfl, hb4⟩; have hw4 := below_tr hw3 hb4; have m0 := kept_cell hb4 m0; have m1 := kept_cell hb4 m1; have m2 := kept_cell hb4 m2; have m3 := kept_cell hb4 m3; have m4 := kept_cell hb4 m4; have m5 := kept_cell hb4 m5; have hAt := fun (_ : True) => (by have := (hAs.out.mono hb4).at (by rw [hsl.out]; unfold maxLen; omega) s.days.length; rw [hsl.out] at this; exact this : IntsAt w4 (.slice (some ⟨X.heap.size, 0, none⟩) s.days.length s.days.length) (ns.set t nm)); replace hAt := Lib.hid hAt))
                        | (go_at_call 45; ((with_reducible refine Calls.mono (hPY.out _ _ hw4 (hAt.out trivial)) ?_); rintro e w5 ⟨⟨pa, pcap, rfl, -⟩, hb5⟩; have hw5 := below_tr hw4 hb5; have hnw := World.alloc_heap_new w5 (.cells #[.int .i64 d, .int .i64 r] 74); obtain ⟨w6, hw6⟩ : ∃ w6, w5.alloc (.cells #[.int .i64 d, .int .i64 r] 74) = w6 := ⟨_, rfl⟩; rw [hw6] at hnw; have hb6 : Below w5.heap.size w5 w6 := (by rw [← hw6]; exact below_al (Below.refl _ _) _); have dn := (row_cells hnw).2.1; have cx0 := dn 0; have cx1 := dn 1; simp only [List.getElem?_toArray, List.getElem?_cons_zero, List.getElem?_cons_succ] at cx0 cx1; clear dn hnw))
                        | (go_at_call 16; refine Calls.mono (hK.out _) ?_; rintro e w7 ⟨rfl, hb7⟩))
                      go_ret
                      exact ⟨rfl, hw5.trans ((below_tr hb6 hb7).mono hw5.size)⟩
                    · have hwn2 : worstCost s < 1000000000000000 := hwn
                      clear hwn
                      generalize worstCost s = wco at *
                      go_wp2_with (first
                        | (go_at_call 28; ((with_reducible refine Calls.mono (hWt.out _ hwwr) ?_); rintro e w1 ⟨rfl, hb1⟩; have hw1 := below_tr hwwr hb1; have m0 := kept_cell hb1 m0; have m1 := kept_cell hb1 m1; have m2 := kept_cell hb1 m2; have m3 := kept_cell hb1 m3; have m4 := kept_cell hb1 m4; have m5 := kept_cell hb1 m5))
                        | (go_at_call 33; ((with_reducible refine Calls.mono (hNt.out _ hw1) ?_); rintro e w2 ⟨rfl, hb2⟩; have hw2 := below_tr hw1 hb2; have hB2 := below_tr hb1 hb2; have e1 := kept_cell hB2 e1; have hA2 := hAH.out.mono hB2; obtain ⟨a0, a1⟩ := hA2.cell (k := t) (by omega); have hXW2 := hB.trans (hB2.mono hBs); have hXs2 := hXW2.size; have hne : ¬ X.heap.size = w.heap.size := (by omega); have hAs := Lib.hid (hA2.set t nm); have hXW3 := hXW2.setCell (p := ⟨X.heap.size, t, none⟩) (Nat.le_refl _) (.int .i64 nm); have hw3 := hX0.trans (hXW3.mono hX0.size); have m0 := kept_cell hXW3 p0; have m1 := kept_cell hXW3 p1; have m2 := kept_cell hXW3 p2; have m3 := kept_cell hXW3 p3; have m4 := kept_cell hXW3 p4; have m5 := kept_cell hXW3 p5))
                        | (go_at_call 31; ((with_reducible refine Calls.mono (hFy.out _ hw3) ?_); rintro e w4 ⟨rfl, hb4⟩; have hw4 := below_tr hw3 hb4; have m0 := kept_cell hb4 m0; have m1 := kept_cell hb4 m1; have m2 := kept_cell hb4 m2; have m3 := kept_cell hb4 m3; have m4 := kept_cell hb4 m4; have m5 := kept_cell hb4 m5; have hAt := fun (_ : True) => (by have := (hAs.out.mono hb4).at (by rw [hsl.out]; unfold maxLen; omega) s.days.length; rw [hsl.out] at this; exact this : IntsAt w4 (.slice (some ⟨X.heap.size, 0, none⟩) s.days.length s.days.length) (ns.set t nm)); replace hAt := Lib.hid hAt))
                        | (go_at_call 45; ((with_reducible refine Calls.mono (hPY.out _ _ hw4 (hAt.out trivial)) ?_); rintro e w5 ⟨⟨pa, pcap, rfl, -⟩, hb5⟩; have hw5 := below_tr hw4 hb5; have hnw := World.alloc_heap_new w5 (.cells #[.int .i64 d, .int .i64 1] 74); obtain ⟨w6, hw6⟩ : ∃ w6, w5.alloc (.cells #[.int .i64 d, .int .i64 1] 74) = w6 := ⟨_, rfl⟩; rw [hw6] at hnw; have hb6 : Below w5.heap.size w5 w6 := (by rw [← hw6]; exact below_al (Below.refl _ _) _); have dn := (row_cells hnw).2.1; have cx0 := dn 0; have cx1 := dn 1; simp only [List.getElem?_toArray, List.getElem?_cons_zero, List.getElem?_cons_succ] at cx0 cx1; clear dn hnw))
                        | (go_at_call 16; refine Calls.mono (hK.out _) ?_; rintro e w7 ⟨rfl, hb7⟩))
                      go_ret
                      exact ⟨rfl, hw5.trans ((below_tr hb6 hb7).mono hw5.size)⟩
                · have htd : t = s.days.length := by omega
                  have hti : ¬ ((t : Int) < (s.days.length : Int)) := by omega
                  obtain ⟨ns, hA1, hA2⟩ := hA.out
                  have hG := hA2.good htd
                  obtain ⟨l, c, d, r, hpo, hr⟩ := hgood.out ns hG
                  have hPY := fun v Y hY hv => hPl.out ns l c d r v Y hY hv hG.1 hpo
                  replace hPY := Lib.hid hPY
                  replace hpo := Lib.hid hpo
                  have hsl : ns.length = s.days.length := by have := hG.1; unfold Sea.S.nomsB at this; rw [Bool.and_eq_true, decide_eq_true_eq] at this; exact this.1
                  have hAt : Hid (IntsAt wr (.slice (some ⟨X.heap.size, 0, none⟩) s.days.length s.days.length) ns) := by
                    have := hA1.at (by rw [hsl]; unfold maxLen; omega) s.days.length
                    rw [hsl] at this; exact this
                  replace htd := Lib.hid htd
                  replace hG := Lib.hid hG
                  replace hsl := Lib.hid hsl
                  clear hA hA1 hA2
                  rcases hr with hr1 | ⟨rfl, hwn, hwc⟩
                  · have hrb : (r != 1) = true := by simpa using hr1
                    replace hr1 := Lib.hid hr1
                    go_wp2_with (first
                      | (go_at_call 45; ((with_reducible refine Calls.mono (hPY.out _ _ hwwr hAt.out) ?_); rintro e w5 ⟨⟨pa, pcap, rfl, -⟩, hb5⟩; have hw5 := below_tr hwwr hb5; have hnw := World.alloc_heap_new w5 (.cells #[.int .i64 d, .int .i64 r] 74); obtain ⟨w6, hw6⟩ : ∃ w6, w5.alloc (.cells #[.int .i64 d, .int .i64 r] 74) = w6 := ⟨_, rfl⟩; rw [hw6] at hnw; have hb6 : Below w5.heap.size w5 w6 := (by rw [← hw6]; exact below_al (Below.refl _ _) _); have dn := (row_cells hnw).2.1; have cx0 := dn 0; have cx1 := dn 1; simp only [List.getElem?_toArray, List.getElem?_cons_zero, List.getElem?_cons_succ] at cx0 cx1; clear dn hnw))
                      | (go_at_call 16; refine Calls.mono (hK.out _) ?_; rintro e w7 ⟨rfl, hb7⟩))
                    go_ret
                    exact ⟨rfl, hw5.trans ((below_tr hb6 hb7).mono hw5.size)⟩
                  · have hwn2 : worstCost s < 1000000000000000 := hwn
                    clear hwn
                    generalize worstCost s = wco at *
                    go_wp2_with (first
                      | (go_at_call 45; ((with_reducible refine Calls.mono (hPY.out _ _ hwwr hAt.out) ?_); rintro e w5 ⟨⟨pa, pcap, rfl, -⟩, hb5⟩; have hw5 := below_tr hwwr hb5; have hnw := World.alloc_heap_new w5 (.cells #[.int .i64 d, .int .i64 1] 74); obtain ⟨w6, hw6⟩ : ∃ w6, w5.alloc (.cells #[.int .i64 d, .int .i64 1] 74) = w6 := ⟨_, rfl⟩; rw [hw6] at hnw; have hb6 : Below w5.heap.size w5 w6 := (by rw [← hw6]; exact below_al (Below.refl _ _) _); have dn := (row_cells hnw).2.1; have cx0 := dn 0; have cx1 := dn 1; simp only [List.getElem?_toArray, List.getElem?_cons_zero, List.getElem?_cons_succ] at cx0 cx1; clear dn hnw))
                      | (go_at_call 16; refine Calls.mono (hK.out _) ?_; rintro e w7 ⟨rfl, hb7⟩))
                    go_ret
                    exact ⟨rfl, hw5.trans ((below_tr hb6 hb7).mono hw5.size)⟩
end Go.Proofs.Ytacajmpggjgaiaa
