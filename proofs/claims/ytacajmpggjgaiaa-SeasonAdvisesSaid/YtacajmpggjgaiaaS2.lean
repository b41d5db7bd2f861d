/- Walks: whether a season is small. -/
import Derived.Test.YtacajmpggjgaiaaS1
set_option linter.unusedVariables false
set_option linter.unusedSimpArgs false
namespace Go.Proofs.Ytacajmpggjgaiaa
open Go.RowKit Go.Sd

/-- A day with many nominations, or many orders. -/
def bigDay (d : Sea.Day) : Bool := decide (12 < d.nhi - d.nlo) || decide (40 < d.offer + d.take)
/-- Whether a season is small enough for the reference's worst costs. -/
def smallB (s : Sea.S) : Bool := shortB s && (!Sea.validB s || ((List.range s.days.length).all (fun k => !bigDay (Sea.dayAt s.days k)) && decide (s.space ≤ 30) && decide (s.days.length ≤ 8)))

set_option maxRecDepth 100000 in
set_option maxHeartbeats 4000000 in
theorem lawSmall (sv : Value) (s : Sea.S) (w : World) (hs : SeasonAt w sv s) :
    Calls Try.prog 14 #[sv] w (BoolPost (smallB s) w) := by
  have hs' := hs
  obtain ⟨rv, dv, rfl, hr, ⟨da, dcap, rfl, hdm, hdc⟩⟩ := hs'
  unfold maxLen at hdm
  obtain ⟨W, hW⟩ : ∃ W, w.alloc (sBox s rv (.slice da s.days.length dcap)) = W := ⟨_, rfl⟩
  obtain ⟨hsz, hBw, q0, q1, q2, q3, q4, q5⟩ := box_season hW
  have hg := grow_cell W
  cases hsh : shortB s
  · have hS : Hid (Calls Try.prog 37 #[_] W fun e w' => e = .returned (.bool false) ∧ Below W.heap.size W w') := lawShort W (hs.mono hBw) hsh
    have hf : Hid (smallB s = false) := by show _ = _; unfold smallB; rw [hsh]; rfl
    replace hsh := Lib.hid hsh
    go_enter Try.func14, Try.ntmps14
    go_wp2_with (go_at_call 37; refine Calls.mono hS.out ?_; rintro e w' ⟨rfl, hb⟩)
    go_ret
    exact BoolPost.of hf.out (hBw.trans (hb.mono (Nat.le_of_lt hsz)))
  · have hS : Hid (Calls Try.prog 37 #[_] W fun e w' => e = .returned (.bool true) ∧ Below W.heap.size W w') := lawShort W (hs.mono hBw) hsh
    cases hvb : Sea.validB s
    · have hR : Hid (∀ g : Grow W, Calls Try.prog 19 #[_] g.x fun e w' => e = .returned (.bool false) ∧ Below g.x.heap.size g.x w') := fun g => refSeasonT g.x ((hs.mono hBw).mono g.h) hvb
      have hf : Hid (smallB s = true) := by show _ = _; unfold smallB; rw [hsh, hvb]; rfl
      replace hsh := Lib.hid hsh
      replace hvb := Lib.hid hvb
      go_enter Try.func14, Try.ntmps14
      go_wp2_with (first | (go_at_call 37; refine Calls.mono hS.out ?_; rintro e w' ⟨rfl, hb⟩; obtain ⟨g1, rfl⟩ : ∃ g1 : Grow W, w' = g1.x := ⟨⟨w', hb⟩, rfl⟩) | (go_at_call 19; refine Calls.mono (hR.out g1) ?_; rintro e w' ⟨rfl, hb2⟩; obtain ⟨g2, rfl⟩ := g1.next hb2))
      go_ret
      exact BoolPost.of hf.out (hBw.trans (g2.h.mono (Nat.le_of_lt hsz)))
    · have hR : Hid (∀ g : Grow W, Calls Try.prog 19 #[_] g.x fun e w' => e = .returned (.bool true) ∧ Below g.x.heap.size g.x w') := fun g => refSeasonT g.x ((hs.mono hBw).mono g.h) hvb
      have ok := Sea.ok_of_valid hvb
      have hsp := ok.space
      have hnd := ok.ndays
      have hdays := ok.days
      have hf : Hid (smallB s = ((List.range s.days.length).all (fun k => !bigDay (Sea.dayAt s.days k)) && decide (s.space ≤ 30) && decide (s.days.length ≤ 8))) := by show _ = _; unfold smallB; rw [hsh, hvb]; rfl
      clear ok
      replace hdays := Lib.hid hdays
      replace hsh := Lib.hid hsh
      replace hvb := Lib.hid hvb
      go_enter Try.func14, Try.ntmps14
      go_wp2_with (first | (go_at_call 37; refine Calls.mono hS.out ?_; rintro e w' ⟨rfl, hb⟩; obtain ⟨g1, rfl⟩ : ∃ g1 : Grow W, w' = g1.x := ⟨⟨w', hb⟩, rfl⟩) | (go_at_call 19; refine Calls.mono (hR.out g1) ?_; rintro e w' ⟨rfl, hb2⟩; obtain ⟨g2, rfl⟩ := g1.next hb2))
      go_loopw [3] (fun i wr => ∃ k : Nat, k ≤ s.days.length ∧ i = .int .i64 k ∧ Hid (∀ j, j < k → (!bigDay (Sea.dayAt s.days j)) = true) ∧ ∃ g : Grow W, wr = g.x) (fun i _ => s.days.length - (intOf i).toNat)
      case atStart => exact ⟨0, by omega, rfl, (fun j h => by omega : ∀ j, j < 0 → (!bigDay (Sea.dayAt s.days j)) = true), g2, rfl⟩
      case round =>
        clear hS hR
        obtain ⟨m, hm, rfl, hH, g, rfl⟩ := hrel
        by_cases hlt : m < s.days.length
        · obtain ⟨db, off, rfl, hdl, hdk⟩ := hdc (by omega)
          obtain ⟨c0, c1, c2, c3, c4, c5, c6, c7⟩ := (hdk m hlt).mono hBw
          have hdbW : db < W.heap.size := Nat.lt_of_lt_of_le hdl hBw.size
          have hmi : (0 : Int) ≤ (m : Int) ∧ (m : Int) < s.days.length := by omega
          have hb := hdays.out m hlt
          obtain ⟨t, ht⟩ : ∃ t, bigDay (Sea.dayAt s.days m) = t := ⟨_, rfl⟩
          have ht0 := ht
          unfold bigDay at ht
          replace ht0 := Lib.hid ht0
          generalize hde : Sea.dayAt s.days m = d at *
          replace hde := Lib.hid hde
          obtain ⟨g3, hg3⟩ := g.alloc (dayO d)
          have hn := World.alloc_heap_new g.x (dayO d)
          rw [hg3] at hn
          obtain ⟨zn, dn, fn⟩ := row_cells hn
          have n0 := dn 0
          have n1 := dn 1
          have n2 := dn 2
          have n3 := dn 3
          have n4 := dn 4
          have n5 := dn 5
          have n6 := dn 6
          have n7 := dn 7
          simp only [List.getElem?_toArray, List.getElem?_cons_zero, List.getElem?_cons_succ] at n0 n1 n2 n3 n4 n5 n6 n7
          clear dn fn hdk hdc
          by_cases h1 : 12 < d.nhi - d.nlo
          · have ht1 : Hid (t = true) := by show _ = _; rw [← ht]; simp [h1]
            replace ht := Lib.hid ht
            go_wp2_with (fail)
            go_ret
            refine BoolPost.of ?_ (hBw.trans (g3.h.mono (Nat.le_of_lt hsz)))
            rw [hf.out, all_range_not hlt (by rw [hde.out, ht0.out, ht1.out]; rfl)]; rfl
          · by_cases h2 : 40 < d.offer + d.take
            · have ht1 : Hid (t = true) := by show _ = _; rw [← ht]; simp [h2]
              replace ht := Lib.hid ht
              go_wp2_with (fail)
              go_ret
              refine BoolPost.of ?_ (hBw.trans (g3.h.mono (Nat.le_of_lt hsz)))
              rw [hf.out, all_range_not hlt (by rw [hde.out, ht0.out, ht1.out]; rfl)]; rfl
            · have ht1 : Hid (t = false) := by show _ = _; rw [← ht]; simp [h1, h2]
              replace ht := Lib.hid ht
              have hH' : Hid (∀ j, j < m + 1 → (!bigDay (Sea.dayAt s.days j)) = true) := upto_succ hH.out (by rw [hde.out, ht0.out, ht1.out]; rfl)
              go_wp2_with (fail)
              exact ⟨⟨m + 1, by omega, by go_num, hH', g3, rfl⟩, by simp [intOf]; omega⟩
        · have hall : Hid ((List.range s.days.length).all (fun k => !bigDay (Sea.dayAt s.days k)) = true) := all_range fun j hj => hH.out j (by omega)
          by_cases h3 : s.space ≤ 30
          · by_cases h4 : s.days.length ≤ 8
            · have h5 : (s.days.length : Int) ≤ 8 := by omega
              go_wp2_with (fail)
              go_ret
              refine BoolPost.of ?_ (hBw.trans (g.h.mono (Nat.le_of_lt hsz)))
              rw [hf.out, hall.out]; simp [h3, h4]
            · have h5 : ¬ ((s.days.length : Int) ≤ 8) := by omega
              go_wp2_with (fail)
              go_ret
              refine BoolPost.of ?_ (hBw.trans (g.h.mono (Nat.le_of_lt hsz)))
              rw [hf.out, hall.out]; simp [h3, h4]
          · go_wp2_with (fail)
            go_ret
            refine BoolPost.of ?_ (hBw.trans (g.h.mono (Nat.le_of_lt hsz)))
            rw [hf.out, hall.out, decide_eq_false (by omega)]; rfl

theorem lawSmallT {sv : Value} {s : Sea.S} {t : Bool} (w : World) (hs : SeasonAt w sv s) (h : smallB s = t) :
    Calls Try.prog 14 #[sv] w fun e w' => e = .returned (.bool t) ∧ Below w.heap.size w w' := by
  rw [← h]; exact lawSmall sv s w hs
end Go.Proofs.Ytacajmpggjgaiaa
