/- Walks: whether a season is short, and the law of the season's checks. Walks: whether a season is small. -/
import Derived.Test.YtacajmpggjgaiaaP12
import Derived.Test.YtacajmpggjgaiaaR1
set_option linter.unusedVariables false
set_option linter.unusedSimpArgs false
namespace Go.Proofs.Ytacajmpggjgaiaa
open Go.RowKit Go.Sd

/-- Whether the slow reference can bear a season. -/
def shortB (s : Sea.S) : Bool := decide (s.rows.length ≤ 12) && decide (s.days.length ≤ 25)

set_option maxHeartbeats 1000000 in
theorem lawShort {sv : Value} {s : Sea.S} {t : Bool} (w : World) (hs : SeasonAt w sv s) (h : shortB s = t) :
    Calls Try.prog 37 #[sv] w fun e w' => e = .returned (.bool t) ∧ Below w.heap.size w w' := by
  obtain ⟨rv, dv, rfl, ⟨a, cap, rfl, hm, -⟩, ⟨a2, cap2, rfl, hm2, -⟩⟩ := hs
  unfold maxLen at hm hm2
  have hB : Below w.heap.size w (w.alloc (sBox s (.slice a s.rows.length cap) (.slice a2 s.days.length cap2))) := below_al (Below.refl _ _) _
  by_cases h1 : s.rows.length ≤ 12
  · by_cases h2 : s.days.length ≤ 25
    · have ht : Hid (t = true) := by show _ = _; rw [← h]; simp [shortB, h1, h2]
      clear h
      have h3 : (s.days.length : Int) ≤ 25 := by omega
      go_enter Try.func37, Try.ntmps37
      go_wp2_with (fail)
      go_ret
      exact ⟨bool_ret (by rw [ht.out]; first | done | simpa using h3), hB⟩
    · have ht : Hid (t = false) := by show _ = _; rw [← h]; simp [shortB, h2]
      clear h
      have h3 : ¬ ((s.days.length : Int) ≤ 25) := by omega
      go_enter Try.func37, Try.ntmps37
      go_wp2_with (fail)
      go_ret
      exact ⟨bool_ret (by rw [ht.out]; first | done | simpa using h3), hB⟩
  · have ht : Hid (t = false) := by show _ = _; rw [← h]; simp [shortB, h1]
    clear h
    go_enter Try.func37, Try.ntmps37
    go_wp2_with (fail)
    go_ret
    exact ⟨bool_ret (by rw [ht.out]), hB⟩

theorem refFillT {sv : Value} {s : Sea.S} {n : Int} {t : Bool} (w : World) (hs : SeasonAt w sv s) (h : Sea.inB n 0 s.space = t) :
    Calls Try.prog 31 #[sv, .int .i64 n] w fun e w' => e = .returned (.bool t) ∧ Below w.heap.size w w' := by
  rw [← h]; exact refFill sv s n w hs
theorem refSeasonT {sv : Value} {s : Sea.S} {t : Bool} (w : World) (hs : SeasonAt w sv s) (h : Sea.validB s = t) :
    Calls Try.prog 19 #[sv] w fun e w' => e = .returned (.bool t) ∧ Below w.heap.size w w' := by
  rw [← h]; exact refSeason sv s w hs
theorem progCheckT {sv : Value} {s : Sea.S} {n : Int} (w : World) (hs : SeasonAt w sv s) (h : errOf s = n) :
    Calls Try.prog 38 #[sv] w fun e w' => e = .returned (.int .i64 n) ∧ Below w.heap.size w w' := by
  rw [← h]; exact progCheck sv s w hs
theorem progLimitsErrT {sv : Value} {s : Sea.S} {fill a b c : Int} (w : World) (hs : SeasonAt w sv s) (h : limOf s fill = (a, b, c)) :
    Calls Try.prog 39 #[sv, .int .i64 fill] w fun e w' => e = .returned (.tuple #[.int .i64 a, .int .i64 b, .int .i64 c]) ∧ Below w.heap.size w w' := by
  have := progLimitsErr sv s fill w hs
  rw [h] at this
  exact this

set_option maxRecDepth 100000 in
set_option maxHeartbeats 4000000 in
/-- The law of the season's checks. -/
theorem lawChecks (sv : Value) (s : Sea.S) (fill : Int) (w : World) (hs : SeasonAt w sv s) :
    Calls Try.prog 7 #[sv, .int .i64 fill] w fun e w' => e = .returned (.bool true) ∧ Below w.heap.size w w' := by
  have hs' := hs
  obtain ⟨rv, dv, rfl, hr, hd⟩ := hs'
  have hBw : Below w.heap.size w (w.alloc (sBox s rv dv)) := (Below.refl _ _).alloc (Nat.le_refl _) _
  have hg := grow_cell (w.alloc (sBox s rv dv))
  have hK : Hid (∀ (w : World), Calls Try.prog 16 #[] w fun e w' => e = .returned (.bool true) ∧ Below w.heap.size w w') := progKnown
  cases hsh : shortB s
  · have hS : Hid (∀ X, Below (w.alloc (sBox s rv dv)).heap.size (w.alloc (sBox s rv dv)) X → Calls Try.prog 37 #[_] X fun e w' => e = .returned (.bool false) ∧ Below X.heap.size X w') := fun X hX => lawShort X ((hs.mono hBw).mono hX) hsh
    replace hsh := Lib.hid hsh
    go_enter Try.func7, Try.ntmps7
    go_wp2_with (first | (go_at_call 37; refine Calls.mono (hS.out _ (Below.refl _ _)) ?_; rintro e w' ⟨rfl, hb⟩; obtain ⟨g1, rfl⟩ : ∃ g1 : Grow (w.alloc (sBox s rv dv)), w' = g1.x := ⟨⟨w', hb⟩, rfl⟩) | (go_at_call 16; refine Calls.mono (hK.out _) ?_; rintro e w' ⟨rfl, hb2⟩; obtain ⟨g2, rfl⟩ := g1.next hb2))
    go_ret
    exact ⟨rfl, hBw.trans (g2.h.mono hBw.size)⟩
  · have hS : Hid (∀ X, Below (w.alloc (sBox s rv dv)).heap.size (w.alloc (sBox s rv dv)) X → Calls Try.prog 37 #[_] X fun e w' => e = .returned (.bool true) ∧ Below X.heap.size X w') := fun X hX => lawShort X ((hs.mono hBw).mono hX) hsh
    replace hsh := Lib.hid hsh
    cases hvb : Sea.validB s
    · have hC : Hid (∀ g : Grow (w.alloc (sBox s rv dv)), Calls Try.prog 38 #[_] g.x fun e w' => e = .returned (.int .i64 2) ∧ Below g.x.heap.size g.x w') := fun g => progCheckT g.x ((hs.mono hBw).mono g.h) (errOf_no hvb)
      have hL : Hid (∀ g : Grow (w.alloc (sBox s rv dv)), Calls Try.prog 39 #[_, .int .i64 fill] g.x fun e w' => e = .returned (.tuple #[.int .i64 0, .int .i64 0, .int .i64 2]) ∧ Below g.x.heap.size g.x w') := fun g => progLimitsErrT g.x ((hs.mono hBw).mono g.h) (limOf_no (.inl hvb))
      have hR : Hid (∀ g : Grow (w.alloc (sBox s rv dv)), Calls Try.prog 19 #[_] g.x fun e w' => e = .returned (.bool false) ∧ Below g.x.heap.size g.x w') := fun g => refSeasonT g.x ((hs.mono hBw).mono g.h) hvb
      replace hvb := Lib.hid hvb
      go_enter Try.func7, Try.ntmps7
      go_wp2_with (first
        | (go_at_call 37; refine Calls.mono (hS.out _ (Below.refl _ _)) ?_; rintro e w' ⟨rfl, hb⟩; obtain ⟨g1, rfl⟩ : ∃ g1 : Grow (w.alloc (sBox s rv dv)), w' = g1.x := ⟨⟨w', hb⟩, rfl⟩)
        | (go_at_call 38; refine Calls.mono (hC.out g1) ?_; rintro e w' ⟨rfl, hb2⟩; obtain ⟨g2, rfl⟩ := g1.next hb2)
        | (go_at_call 39; refine Calls.mono (hL.out g2) ?_; rintro e w' ⟨rfl, hb3⟩; obtain ⟨g3, rfl⟩ := g2.next hb3)
        | (go_at_call 19; refine Calls.mono (hR.out g3) ?_; rintro e w' ⟨rfl, hb4⟩; obtain ⟨g4, rfl⟩ := g3.next hb4)
        | (go_at_call 16; refine Calls.mono (hK.out _) ?_; rintro e w' ⟨rfl, hb5⟩; obtain ⟨g5, rfl⟩ := g4.next hb5))
      go_ret
      exact ⟨rfl, hBw.trans (g5.h.mono hBw.size)⟩
    · have hC : Hid (∀ g : Grow (w.alloc (sBox s rv dv)), Calls Try.prog 38 #[_] g.x fun e w' => e = .returned (.int .i64 0) ∧ Below g.x.heap.size g.x w') := fun g => progCheckT g.x ((hs.mono hBw).mono g.h) (errOf_yes hvb)
      have hR : Hid (∀ g : Grow (w.alloc (sBox s rv dv)), Calls Try.prog 19 #[_] g.x fun e w' => e = .returned (.bool true) ∧ Below g.x.heap.size g.x w') := fun g => refSeasonT g.x ((hs.mono hBw).mono g.h) hvb
      cases hin : Sea.inB fill 0 s.space
      · have hL : Hid (∀ g : Grow (w.alloc (sBox s rv dv)), Calls Try.prog 39 #[_, .int .i64 fill] g.x fun e w' => e = .returned (.tuple #[.int .i64 0, .int .i64 0, .int .i64 2]) ∧ Below g.x.heap.size g.x w') := fun g => progLimitsErrT g.x ((hs.mono hBw).mono g.h) (limOf_no (.inr hin))
        have hF : Hid (∀ g : Grow (w.alloc (sBox s rv dv)), Calls Try.prog 31 #[_, .int .i64 fill] g.x fun e w' => e = .returned (.bool false) ∧ Below g.x.heap.size g.x w') := fun g => refFillT g.x ((hs.mono hBw).mono g.h) hin
        replace hvb := Lib.hid hvb
        replace hin := Lib.hid hin
        go_enter Try.func7, Try.ntmps7
        go_wp2_with (first
          | (go_at_call 37; refine Calls.mono (hS.out _ (Below.refl _ _)) ?_; rintro e w' ⟨rfl, hb⟩; obtain ⟨g1, rfl⟩ : ∃ g1 : Grow (w.alloc (sBox s rv dv)), w' = g1.x := ⟨⟨w', hb⟩, rfl⟩)
          | (go_at_call 38; refine Calls.mono (hC.out g1) ?_; rintro e w' ⟨rfl, hb2⟩; obtain ⟨g2, rfl⟩ := g1.next hb2)
          | (go_at_call 39; refine Calls.mono (hL.out g2) ?_; rintro e w' ⟨rfl, hb3⟩; obtain ⟨g3, rfl⟩ := g2.next hb3)
          | (go_at_call 19; refine Calls.mono (hR.out g3) ?_; rintro e w' ⟨rfl, hb4⟩; obtain ⟨g4, rfl⟩ := g3.next hb4)
          | (go_at_call 31; refine Calls.mono (hF.out g4) ?_; rintro e w' ⟨rfl, hb5⟩; obtain ⟨g5, rfl⟩ := g4.next hb5)
          | (go_at_call 16; refine Calls.mono (hK.out _) ?_; rintro e w' ⟨rfl, hb6⟩; obtain ⟨g6, rfl⟩ := g5.next hb6))
        go_ret
        exact ⟨rfl, hBw.trans (g6.h.mono hBw.size)⟩
      · have ok := Sea.ok_of_valid hvb
        have hL : Hid (∀ g : Grow (w.alloc (sBox s rv dv)), Calls Try.prog 39 #[_, .int .i64 fill] g.x fun e w' => e = .returned (.tuple #[.int .i64 (s.lim fill).inn, .int .i64 (s.lim fill).out, .int .i64 0]) ∧ Below g.x.heap.size g.x w') := fun g => progLimitsErrT g.x ((hs.mono hBw).mono g.h) (limOf_yes hvb hin)
        have hF : Hid (∀ g : Grow (w.alloc (sBox s rv dv)), Calls Try.prog 31 #[_, .int .i64 fill] g.x fun e w' => e = .returned (.bool true) ∧ Below g.x.heap.size g.x w') := fun g => refFillT g.x ((hs.mono hBw).mono g.h) hin
        have hM : Hid (∀ g : Grow (w.alloc (sBox s rv dv)), Calls Try.prog 40 #[_, .int .i64 fill] g.x fun e w' => e = .returned (rowV (s.lim fill)) ∧ Below g.x.heap.size g.x w') := fun g => refLimits _ s fill g.x ((hs.mono hBw).mono g.h) ok.nrows.1 (by rw [ok.row0]; have := (Sea.inB_iff.1 hin).1; omega)
        clear ok
        obtain ⟨r, hr1⟩ : ∃ r, s.lim fill = r := ⟨_, rfl⟩
        rw [hr1] at hL hM
        clear hr1
        replace hvb := Lib.hid hvb
        replace hin := Lib.hid hin
        go_enter Try.func7, Try.ntmps7
        go_wp2_with (first
          | (go_at_call 37; refine Calls.mono (hS.out _ (Below.refl _ _)) ?_; rintro e w' ⟨rfl, hb⟩; obtain ⟨g1, rfl⟩ : ∃ g1 : Grow (w.alloc (sBox s rv dv)), w' = g1.x := ⟨⟨w', hb⟩, rfl⟩)
          | (go_at_call 38; refine Calls.mono (hC.out g1) ?_; rintro e w' ⟨rfl, hb2⟩; obtain ⟨g2, rfl⟩ := g1.next hb2)
          | (go_at_call 39; refine Calls.mono (hL.out g2) ?_; rintro e w' ⟨rfl, hb3⟩; obtain ⟨g3, rfl⟩ := g2.next hb3)
          | (go_at_call 19; refine Calls.mono (hR.out g3) ?_; rintro e w' ⟨rfl, hb4⟩; obtain ⟨g4, rfl⟩ := g3.next hb4)
          | (go_at_call 31; refine Calls.mono (hF.out g4) ?_; rintro e w' ⟨rfl, hb5⟩; obtain ⟨g5, rfl⟩ := g4.next hb5)
          | (go_at_call 40; refine Calls.mono (hM.out g5) ?_; rintro e w' ⟨rfl, hb6⟩; obtain ⟨g6, rfl⟩ := g5.next hb6; obtain ⟨g7, hg7⟩ := g6.alloc (.cells #[.int .i64 r.fill, .int .i64 r.inn, .int .i64 r.out] 65); have hn := World.alloc_heap_new g6.x (.cells #[.int .i64 r.fill, .int .i64 r.inn, .int .i64 r.out] 65); rw [hg7] at hn; obtain ⟨zn, dn, fn⟩ := row_cells hn; have n0 := dn 0; have n1 := dn 1; have n2 := dn 2; simp only [List.getElem?_toArray, List.getElem?_cons_zero, List.getElem?_cons_succ] at n0 n1 n2; clear dn fn)
          | (go_at_call 16; refine Calls.mono (hK.out _) ?_; rintro e w' ⟨rfl, hb8⟩; obtain ⟨g8, rfl⟩ := g7.next hb8))
        go_ret
        exact ⟨rfl, hBw.trans (g8.h.mono hBw.size)⟩
end Go.Proofs.Ytacajmpggjgaiaa
namespace Go.Proofs.Ytacajmpggjgaiaa
open Go.RowKit Go.Sd

/-- A day with many nominations, or many orders. -/
def bigDay (d : Sea.Day) : Bool := decide (12 < d.nhi - d.nlo) || decide (40 < d.offer + d.take)
/-- Whether a season is small enough for the reference's worst costs. -/
def smallB (s : Sea.S) : Bool := shortB s && (!Sea.validB s || ((List.range s.days.length).all (fun k => !bigDay (Sea.dayAt s.days k)) && decide (s.space ≤ 30) && decide (s.days.length ≤ 8)))

set_option maxRecDepth 100000 in
set_option maxHeartbeats 4000000 in
theorem lawSmall (sv : Value) (s : Sea.S) (w : World) (hs : SeasonAt w sv s) :
    Calls Try.prog 14 #[sv] w (BoolPost (smallB s) w) := by
  have hs' := hs
  obtain ⟨rv, dv, rfl, hr, ⟨da, dcap, rfl, hdm, hdc⟩⟩ := hs'
  unfold maxLen at hdm
  obtain ⟨W, hW⟩ : ∃ W, w.alloc (sBox s rv (.slice da s.days.length dcap)) = W := ⟨_, rfl⟩
  obtain ⟨hsz, hBw, q0, q1, q2, q3, q4, q5⟩ := box_season hW
  have hg := grow_cell W
  cases hsh : shortB s
  · have hS : Hid (Calls Try.prog 37 #[_] W fun e w' => e = .returned (.bool false) ∧ Below W.heap.size W w') := lawShort W (hs.mono hBw) hsh
    have hf : Hid (smallB s = false) := by show _ = _; unfold smallB; rw [hsh]; rfl
    replace hsh := Lib.hid hsh
    go_enter Try.func14, Try.ntmps14
    go_wp2_with (go_at_call 37; refine Calls.mono hS.out ?_; rintro e w' ⟨rfl, hb⟩)
    go_ret
    exact BoolPost.of hf.out (hBw.trans (hb.mono (Nat.le_of_lt hsz)))
  · have hS : Hid (Calls Try.prog 37 #[_] W fun e w' => e = .returned (.bool true) ∧ Below W.heap.size W w') := lawShort W (hs.mono hBw) hsh
    cases hvb : Sea.validB s
    · have hR : Hid (∀ g : Grow W, Calls Try.prog 19 #[_] g.x fun e w' => e = .returned (.bool false) ∧ Below g.x.heap.size g.x w') := fun g => refSeasonT g.x ((hs.mono hBw).mono g.h) hvb
      have hf : Hid (smallB s = true) := by show _ = _; unfold smallB; rw [hsh, hvb]; rfl
      replace hsh := Lib.hid hsh
      replace hvb := Lib.hid hvb
      go_enter Try.func14, Try.ntmps14
      go_wp2_with (first | (go_at_call 37; refine Calls.mono hS.out ?_; rintro e w' ⟨rfl, hb⟩; obtain ⟨g1, rfl⟩ : ∃ g1 : Grow W, w' = g1.x := ⟨⟨w', hb⟩, rfl⟩) | (go_at_call 19; refine Calls.mono (hR.out g1) ?_; rintro e w' ⟨rfl, hb2⟩; obtain ⟨g2, rfl⟩ := g1.next hb2))
      go_ret
      exact BoolPost.of hf.out (hBw.trans (g2.h.mono (Nat.le_of_lt hsz)))
    · have hR : Hid (∀ g : Grow W, Calls Try.prog 19 #[_] g.x fun e w' => e = .returned (.bool true) ∧ Below g.x.heap.size g.x w') := fun g => refSeasonT g.x ((hs.mono hBw).mono g.h) hvb
      have ok := Sea.ok_of_valid hvb
      have hsp := ok.space
      have hnd := ok.ndays
      have hdays := ok.days
      have hf : Hid (smallB s = ((List.range s.days.length).all (fun k => !bigDay (Sea.dayAt s.days k)) && decide (s.space ≤ 30) && decide (s.days.length ≤ 8))) := by show _ = _; unfold smallB; rw [hsh, hvb]; rfl
      clear ok
      replace hdays := Lib.hid hdays
      replace hsh := Lib.hid hsh
      replace hvb := Lib.hid hvb
      go_enter Try.func14, Try.ntmps14
      go_wp2_with (first | (go_at_call 37; refine Calls.mono hS.out ?_; rintro e w' ⟨rfl, hb⟩; obtain ⟨g1, rfl⟩ : ∃ g1 : Grow W, w' = g1.x := ⟨⟨w', hb⟩, rfl⟩) | (go_at_call 19; refine Calls.mono (hR.out g1) ?_; rintro e w' ⟨rfl, hb2⟩; obtain ⟨g2, rfl⟩ := g1.next hb2))
      go_loopw [3] (fun i wr => ∃ k : Nat, k ≤ s.days.length ∧ i = .int .i64 k ∧ Hid (∀ j, j < k → (!bigDay (Sea.dayAt s.days j)) = true) ∧ ∃ g : Grow W, wr = g.x) (fun i _ => s.days.length - (intOf i).toNat)
      case atStart => exact ⟨0, by omega, rfl, (fun j h => by omega : ∀ j, j < 0 → (!bigDay (Sea.dayAt s.days j)) = true), g2, rfl⟩
      case round =>
        clear hS hR
        obtain ⟨m, hm, rfl, hH, g, rfl⟩ := hrel
        by_cases hlt : m < s.days.length
        · obtain ⟨db, off, rfl, hdl, hdk⟩ := hdc (by omega)
          obtain ⟨c0, c1, c2, c3, c4, c5, c6, c7⟩ := (hdk m hlt).mono hBw
          have hdbW : db < W.heap.size := Nat.lt_of_lt_of_le hdl hBw.size
          have hmi : (0 : Int) ≤ (m : Int) ∧ (m : Int) < s.days.length := by omega
          have hb := hdays.out m hlt
          obtain ⟨t, ht⟩ : ∃ t, bigDay (Sea.dayAt s.days m) = t := ⟨_, rfl⟩
          have ht0 := ht
          unfold bigDay at ht
          replace ht0 := Lib.hid ht0
          generalize hde : Sea.dayAt s.days m = d at *
          replace hde := Lib.hid hde
          obtain ⟨g3, hg3⟩ := g.alloc (dayO d)
          have hn := World.alloc_heap_new g.x (dayO d)
          rw [hg3] at hn
          obtain ⟨zn, dn, fn⟩ := row_cells hn
          have n0 := dn 0
          have n1 := dn 1
          have n2 := dn 2
          have n3 := dn 3
          have n4 := dn 4
          have n5 := dn 5
          have n6 := dn 6
          have n7 := dn 7
          simp only [List.getElem?_toArray, List.getElem?_cons_zero, List.getElem?_cons_succ] at n0 n1 n2 n3 n4 n5 n6 n7
          clear dn fn hdk hdc
          by_cases h1 : 12 < d.nhi - d.nlo
          · have ht1 : Hid (t = true) := by show _ = _; rw [← ht]; simp [h1]
            replace ht := Lib.hid ht
            go_wp2_with (fail)
            go_ret
            refine BoolPost.of ?_ (hBw.trans (g3.h.mono (Nat.le_of_lt hsz)))
            rw [hf.out, all_range_not hlt (by rw [hde.out, ht0.out, ht1.out]; rfl)]; rfl
          · by_cases h2 : 40 < d.offer + d.take
            · have ht1 : Hid (t = true) := by show _ = _; rw [← ht]; simp [h2]
              replace ht := Lib.hid ht
              go_wp2_with (fail)
              go_ret
              refine BoolPost.of ?_ (hBw.trans (g3.h.mono (Nat.le_of_lt hsz)))
              rw [hf.out, all_range_not hlt (by rw [hde.out, ht0.out, ht1.out]; rfl)]; rfl
            · have ht1 : Hid (t = false) := by show _ = _; rw [← ht]; simp [h1, h2]
              replace ht := Lib.hid ht
              have hH' : Hid (∀ j, j < m + 1 → (!bigDay (Sea.dayAt s.days j)) = true) := upto_succ hH.out (by rw [hde.out, ht0.out, ht1.out]; rfl)
              go_wp2_with (fail)
              exact ⟨⟨m + 1, by omega, by go_num, hH', g3, rfl⟩, by simp [intOf]; omega⟩
        · have hall : Hid ((List.range s.days.length).all (fun k => !bigDay (Sea.dayAt s.days k)) = true) := all_range fun j hj => hH.out j (by omega)
          by_cases h3 : s.space ≤ 30
          · by_cases h4 : s.days.length ≤ 8
            · have h5 : (s.days.length : Int) ≤ 8 := by omega
              go_wp2_with (fail)
              go_ret
              refine BoolPost.of ?_ (hBw.trans (g.h.mono (Nat.le_of_lt hsz)))
              rw [hf.out, hall.out]; simp [h3, h4]
            · have h5 : ¬ ((s.days.length : Int) ≤ 8) := by omega
              go_wp2_with (fail)
              go_ret
              refine BoolPost.of ?_ (hBw.trans (g.h.mono (Nat.le_of_lt hsz)))
              rw [hf.out, hall.out]; simp [h3, h4]
          · go_wp2_with (fail)
            go_ret
            refine BoolPost.of ?_ (hBw.trans (g.h.mono (Nat.le_of_lt hsz)))
            rw [hf.out, hall.out, decide_eq_false (by omega)]; rfl

theorem lawSmallT {sv : Value} {s : Sea.S} {t : Bool} (w : World) (hs : SeasonAt w sv s) (h : smallB s = t) :
    Calls Try.prog 14 #[sv] w fun e w' => e = .returned (.bool t) ∧ Below w.heap.size w w' := by
  rw [← h]; exact lawSmall sv s w hs
end Go.Proofs.Ytacajmpggjgaiaa
