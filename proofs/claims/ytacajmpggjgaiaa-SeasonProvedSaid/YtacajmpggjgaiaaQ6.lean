/- Walks: the floor of values. -/
import Derived.Test.YtacajmpggjgaiaaQ5
import Derived.Test.YtacajmpggjgaiaaS4
set_option linter.unusedVariables false
set_option linter.unusedSimpArgs false
namespace Go.Proofs.Ytacajmpggjgaiaa
open Go.RowKit Go.Sd

theorem progValuesT {sv lv : Value} {s : Sea.S} {l : List (List Int)} {t : Bool} (w : World) (hs : SeasonAt w sv s) (hl : ListsAt w lv l) (ok : Sea.Ok s) (h : valsB s l = t) :
    Calls Try.prog 72 #[sv, lv] w fun e w' => e = .returned (.bool t) ∧ Below w.heap.size w w' := by
  subst h; exact progValues sv lv s l w hs hl ok
theorem progFairT {lv mv nv vv : Value} {s : Sea.S} {noms : List Int} {l : List (List Int)} {t : Bool} (w : World) (hlk : LookAt w lv mv s) (hn : IntsAt w nv noms) (hl : ListsAt w vv l) (ok : Sea.Ok s) (hno : s.nomsB noms = true) (hva : valsB s l = true) (h : fairB s noms l = t) :
    Calls Try.prog 73 #[lv, nv, vv] w fun e w' => e = .returned (.bool t) ∧ Below w.heap.size w w' := by
  subst h; exact progFair lv mv nv vv s noms l w hlk hn hl ok hno hva

set_option maxRecDepth 100000 in
set_option maxHeartbeats 4000000 in
theorem progFloorNo (sv nv vv : Value) (s : Sea.S) (noms : List Int) (l : List (List Int)) (w : World) (hs : SeasonAt w sv s) (hn : IntsAt w nv noms) (hl : ListsAt w vv l)
    (hno : Sea.validB s = false ∨ s.nomsB noms = false ∨ valsB s l = false) :
    Calls Try.prog 42 #[sv, nv, vv] w fun e w' => e = .returned (.tuple #[.int .i64 0, .int .i64 2]) ∧ Below w.heap.size w w' := by
  have hs' := hs
  obtain ⟨rv, dv, rfl, hr, hd⟩ := hs'
  have hBw : Below w.heap.size w (w.alloc (sBox s rv dv)) := (Below.refl _ _).alloc (Nat.le_refl _) _
  have hg := grow_cell (w.alloc (sBox s rv dv))
  cases ht : Sea.validB s
  · have hv := Lib.hid (progValidT (t := false) _ (hs.mono hBw) ht)
    replace hno := Lib.hid hno
    replace ht := Lib.hid ht
    go_enter Try.func42, Try.ntmps42
    go_wp2_with (first | (go_at_call 51; refine Calls.mono hv.out ?_; rintro e w' ⟨rfl, hb⟩; obtain ⟨g1, rfl⟩ : ∃ g1 : Grow (w.alloc (sBox s rv dv)), w' = g1.x := ⟨⟨w', hb⟩, rfl⟩))
    go_ret2
    exact ⟨rfl, hBw.trans (g1.h.mono hBw.size)⟩
  · have ok := Sea.ok_of_valid ht
    have hv := Lib.hid (progValidT (t := true) _ (hs.mono hBw) ht)
    cases hn0 : s.nomsB noms
    · have hnn : Hid (∀ g : Grow (w.alloc (sBox s rv dv)), Calls Try.prog 52 #[_, nv] g.x fun e w' => e = .returned (.bool false) ∧ Below g.x.heap.size g.x w') := fun g => progNominatedT g.x ((hs.mono hBw).mono g.h) ((hn.mono hBw).mono g.h) hn0
      clear hno
      replace hn0 := Lib.hid hn0
      replace ht := Lib.hid ht
      go_enter Try.func42, Try.ntmps42
      go_wp2_with (first | (go_at_call 51; refine Calls.mono hv.out ?_; rintro e w' ⟨rfl, hb⟩; obtain ⟨g1, rfl⟩ : ∃ g1 : Grow (w.alloc (sBox s rv dv)), w' = g1.x := ⟨⟨w', hb⟩, rfl⟩) | (go_at_call 52; refine Calls.mono (hnn.out g1) ?_; rintro e w' ⟨rfl, hb2⟩; obtain ⟨g2, rfl⟩ := g1.next hb2))
      go_ret2
      exact ⟨rfl, hBw.trans (g2.h.mono hBw.size)⟩
    · have hnn : Hid (∀ g : Grow (w.alloc (sBox s rv dv)), Calls Try.prog 52 #[_, nv] g.x fun e w' => e = .returned (.bool true) ∧ Below g.x.heap.size g.x w') := fun g => progNominatedT g.x ((hs.mono hBw).mono g.h) ((hn.mono hBw).mono g.h) hn0
      have hv0 : valsB s l = false := by rcases hno with h | h | h; rw [ht] at h; cases h; rw [hn0] at h; cases h; exact h
      have hvv : Hid (∀ g : Grow (w.alloc (sBox s rv dv)), Calls Try.prog 72 #[_, vv] g.x fun e w' => e = .returned (.bool false) ∧ Below g.x.heap.size g.x w') := fun g => progValuesT g.x ((hs.mono hBw).mono g.h) ((hl.mono hBw).mono g.h) ok hv0
      clear hno ok
      replace hn0 := Lib.hid hn0
      replace hv0 := Lib.hid hv0
      replace ht := Lib.hid ht
      go_enter Try.func42, Try.ntmps42
      go_wp2_with (first | (go_at_call 51; refine Calls.mono hv.out ?_; rintro e w' ⟨rfl, hb⟩; obtain ⟨g1, rfl⟩ : ∃ g1 : Grow (w.alloc (sBox s rv dv)), w' = g1.x := ⟨⟨w', hb⟩, rfl⟩) | (go_at_call 52; refine Calls.mono (hnn.out g1) ?_; rintro e w' ⟨rfl, hb2⟩; obtain ⟨g2, rfl⟩ := g1.next hb2) | (go_at_call 72; refine Calls.mono (hvv.out g2) ?_; rintro e w' ⟨rfl, hb3⟩; obtain ⟨g3, rfl⟩ := g2.next hb3))
      go_ret2
      exact ⟨rfl, hBw.trans (g3.h.mono hBw.size)⟩

set_option maxRecDepth 100000 in
set_option maxHeartbeats 4000000 in
theorem progFloorYes (sv nv vv : Value) (s : Sea.S) (noms : List Int) (l : List (List Int)) (w : World) (hs : SeasonAt w sv s) (hn : IntsAt w nv noms) (hl : ListsAt w vv l)
    (ht : Sea.validB s = true) (hno : s.nomsB noms = true) (hva : valsB s l = true) :
    Calls Try.prog 42 #[sv, nv, vv] w fun e w' => e = .returned (.tuple #[.int .i64 (if fairB s noms l = true then Sea.at0 (Sea.lstAt l 0) s.start.toNat else 0), .int .i64 (if fairB s noms l = true then 0 else 7)]) ∧ Below w.heap.size w w' := by
  have hs' := hs
  obtain ⟨rv, dv, rfl, hr, hd⟩ := hs'
  have hBw : Below w.heap.size w (w.alloc (sBox s rv dv)) := (Below.refl _ _).alloc (Nat.le_refl _) _
  have hg := grow_cell (w.alloc (sBox s rv dv))
  have ok := Sea.ok_of_valid ht
  have hv := Lib.hid (progValidT (t := true) _ (hs.mono hBw) ht)
  have hnn : Hid (∀ g : Grow (w.alloc (sBox s rv dv)), Calls Try.prog 52 #[_, nv] g.x fun e w' => e = .returned (.bool true) ∧ Below g.x.heap.size g.x w') := fun g => progNominatedT g.x ((hs.mono hBw).mono g.h) ((hn.mono hBw).mono g.h) hno
  have hvv : Hid (∀ g : Grow (w.alloc (sBox s rv dv)), Calls Try.prog 72 #[_, vv] g.x fun e w' => e = .returned (.bool true) ∧ Below g.x.heap.size g.x w') := fun g => progValuesT g.x ((hs.mono hBw).mono g.h) ((hl.mono hBw).mono g.h) ok hva
  have hst := ok.start
  have hsp := ok.space
  have hnd := ok.ndays
  have hstc : (w.alloc (sBox s rv dv)).cell? ⟨w.heap.size, 1, none⟩ = some (.int .i64 s.start) := by rw [(row_cells (World.alloc_heap_new w (sBox s rv dv))).2.1]; simp
  obtain ⟨b, off, cap, rfl, hbl, hrows⟩ := rows_in ok hva hl
  obtain ⟨eb, eo, ec, h1, h2, h3, -⟩ := hrows 0 (by omega)
  have e1 := h3 s.start.toNat (by omega)
  have h1w := kept_cell hBw h1
  have e1w := kept_cell hBw e1
  rw [Nat.add_zero] at h1w
  have hbB := World.block_lt_of_cell? _ ⟨_, _, none⟩ h1w
  have hebB := World.block_lt_of_cell? _ ⟨_, _, none⟩ e1w
  simp only at hbB hebB
  have i0 : (0 : Int) < (s.days.length : Int) + 1 := by omega
  have i1 : (0 : Int) ≤ s.start ∧ s.start < ((s.space + 1).toNat : Int) := by omega
  have hwB : w.heap.size < (w.alloc (sBox s rv dv)).heap.size := by simp
  obtain ⟨z, hz⟩ : ∃ z, Sea.at0 (Sea.lstAt l 0) s.start.toNat = z := ⟨_, rfl⟩
  rw [hz]
  rw [hz] at e1w
  replace hz := Lib.hid hz
  cases hfb : fairB s noms l
  all_goals
    have hff := fun (lv : Value) X h1 h2 h3 => progFairT (lv := lv) (mv := .map none) (nv := nv) (vv := .slice (some ⟨b, off, none⟩) (s.days.length + 1) cap) X h1 h2 h3 ok hno hva hfb
    replace hff := Lib.hid hff
    replace hfb := Lib.hid hfb
    simp only [Bool.false_eq_true, if_false, if_true]
    clear h1 h2 h3 e1 hrows
    replace hst := Lib.hid hst
    replace hno := Lib.hid hno
    replace hva := Lib.hid hva
    replace ht := Lib.hid ht
    go_enter Try.func42, Try.ntmps42
    go_wp2_with (first | (go_at_call 51; refine Calls.mono hv.out ?_; rintro e w' ⟨rfl, hb⟩; obtain ⟨g1, rfl⟩ : ∃ g1 : Grow (w.alloc (sBox s rv dv)), w' = g1.x := ⟨⟨w', hb⟩, rfl⟩) | (go_at_call 52; refine Calls.mono (hnn.out g1) ?_; rintro e w' ⟨rfl, hb2⟩; obtain ⟨g2, rfl⟩ := g1.next hb2) | (go_at_call 72; refine Calls.mono (hvv.out g2) ?_; rintro e w' ⟨rfl, hb3⟩; obtain ⟨g3, rfl⟩ := g2.next hb3; have hBg3 := hBw.trans (g3.h.mono hBw.size); have hlk := look_new (w := g3.x) (s := s) (mv := .map none) rfl (hr.mono hBg3) (hd.mono hBg3); obtain ⟨g4, hg4⟩ := g3.alloc (lBox s rv dv (.map none)); rw [hg4] at hlk) | (go_at_call 73; refine Calls.mono (hff.out _ g4.x hlk ((hn.mono hBw).mono g4.h) ((hl.mono hBw).mono g4.h)) ?_; rintro e w' ⟨rfl, hb5⟩; obtain ⟨g5, rfl⟩ := g4.next hb5))
  · go_ret2
    exact ⟨rfl, hBw.trans (g5.h.mono hBw.size)⟩
  · have s1 := (hg g5 w.heap.size 1 hwB).trans hstc
    have s2 := (hg g5 b off hbB).trans h1w
    have s3 := (hg g5 eb (eo + s.start.toNat) hebB).trans e1w
    go_quiet (fail)
    go_wp2_with (fail)
    go_ret2
    exact ⟨rfl, below_drewN (hBw.trans (g5.h.mono hBw.size)) _⟩
end Go.Proofs.Ytacajmpggjgaiaa
