/- Walks: nominations of a season (the program); errors of a season; limits; the proof, with its errors. -/
import Derived.Test.YtacajmpggjgaiaaV3
set_option linter.unusedVariables false
set_option linter.unusedSimpArgs false
namespace Go.Proofs.Ytacajmpggjgaiaa
open Go.RowKit Go.Sd

theorem progValidT {sv : Value} {s : Sea.S} {t : Bool} (w : World) (hs : SeasonAt w sv s) (h : Sea.validB s = t) : Calls Try.prog 51 #[sv] w fun e w' => e = .returned (.bool t) ∧ Below w.heap.size w w' := by
  rw [← h]; exact progValid sv s w hs

set_option maxRecDepth 100000 in
set_option maxHeartbeats 2000000 in
theorem progNominated (sv lv : Value) (s : Sea.S) (l : List Int) (w : World) (hs : SeasonAt w sv s) (hl : IntsAt w lv l) :
    Calls Try.prog 52 #[sv, lv] w fun e w' => e = .returned (.bool (s.nomsB l)) ∧ Below w.heap.size w w' := by
  obtain ⟨rv, dv, rfl, -, ⟨da, dcap, rfl, hdm, hdk⟩⟩ := hs
  obtain ⟨aa, ac, rfl, ham, hac⟩ := hl
  unfold maxLen at ham hdm
  go_enter Try.func52, Try.ntmps52
  go_wp2_with (fail)
  generalize hW : w.alloc (sBox s _ _) = W
  obtain ⟨hsz, hBw, q0, q1, q2, q3, q4, q5⟩ := box_season hW
  clear hW
  have hg := grow_cell W
  go_loopw [9] (fun i wr => ∃ k : Nat, k ≤ l.length ∧ i = .int .i64 k ∧ Hid (∀ j, j < k → j < s.days.length → Sea.inB (Sea.at0 l j) (Sea.dayAt s.days j).nlo (Sea.dayAt s.days j).nhi = true) ∧ ∃ g : Grow W, wr = g.x) (fun i _ => l.length - (intOf i).toNat)
  case atStart => exact ⟨0, by omega, rfl, (fun j h => by omega : ∀ j, j < 0 → j < s.days.length → Sea.inB (Sea.at0 l j) (Sea.dayAt s.days j).nlo (Sea.dayAt s.days j).nhi = true), Grow.self W, rfl⟩
  case round =>
    obtain ⟨k, hk, rfl, hH, g, rfl⟩ := hrel
    by_cases hlt : k < l.length
    · obtain ⟨ab, ao, rfl, hal, hak⟩ := hac (by omega)
      have ca := kept_cell hBw (hak k hlt)
      have hal2 : ab < W.heap.size := by omega
      have hki : (0 : Int) ≤ (k : Int) ∧ (k : Int) < l.length := by omega
      clear hak hac
      by_cases hkd : k < s.days.length
      · obtain ⟨db, doff, rfl, hdl, hdc⟩ := hdk (by omega)
        obtain ⟨c0, c1, c2, c3, c4, c5, c6, c7⟩ := (hdc k hkd).mono hBw
        have hdl2 : db < W.heap.size := by omega
        have hkd1 : (k : Int) < s.days.length := by omega
        have hkd2 : decide (k < s.days.length) = true := by simpa using hkd
        clear hdc hdk
        cases h1 : Sea.inB (Sea.at0 l k) (Sea.dayAt s.days k).nlo (Sea.dayAt s.days k).nhi
        · have hf : Hid (s.nomsB l = false) := by
            show _ = _
            unfold Sea.S.nomsB
            rw [all_range_not hlt h1, Bool.and_false]
          go_wp2_with (fail)
          go_quiet ((go_at_call 68; exact Calls.quiet_of_same ((progInT (by assumption) _).mono (by rintro e w' ⟨rfl, rfl⟩; exact ⟨rfl, rfl⟩))))
          go_wp2_with (fail)
          go_ret
          exact ⟨bool_ret hf.out.symm, below_drewN (hBw.trans (g.h.mono hBw.size)) _⟩
        · have hH' : Hid (∀ j, j < k + 1 → j < s.days.length → Sea.inB (Sea.at0 l j) (Sea.dayAt s.days j).nlo (Sea.dayAt s.days j).nhi = true) := upto_succ hH.out fun _ => h1
          go_wp2_with (fail)
          go_quiet ((go_at_call 68; exact Calls.quiet_of_same ((progInT (by assumption) _).mono (by rintro e w' ⟨rfl, rfl⟩; exact ⟨rfl, rfl⟩))))
          go_wp2_with (fail)
          obtain ⟨g2, hg2⟩ := g.next (below_drewN (Below.refl _ _) nq)
          exact ⟨⟨k + 1, by omega, by go_num, hH', g2, hg2⟩, by simp [intOf]; omega⟩
      · have hH' : Hid (∀ j, j < k + 1 → j < s.days.length → Sea.inB (Sea.at0 l j) (Sea.dayAt s.days j).nlo (Sea.dayAt s.days j).nhi = true) := upto_succ hH.out fun h => absurd h hkd
        have hkd1 : (s.days.length : Int) ≤ (k : Int) := by omega
        have hkd2 : decide (k < s.days.length) = false := by simpa using hkd
        go_wp2_with (fail)
        go_quiet (fail)
        go_wp2_with (fail)
        obtain ⟨g2, hg2⟩ := g.next (below_drewN (Below.refl _ _) nq)
        exact ⟨⟨k + 1, by omega, by go_num, hH', g2, hg2⟩, by simp [intOf]; omega⟩
    · have hf : Hid (s.nomsB l = decide (l.length = s.days.length)) := by
        show _ = _
        unfold Sea.S.nomsB
        by_cases he : l.length = s.days.length
        · rw [all_range fun j hj => hH.out j (by omega) (by omega), Bool.and_true]
        · simp [he]
      by_cases he : l.length = s.days.length
      · have hbe : ((l.length : Int) == (s.days.length : Int)) = true := by rw [he]; simp
        have he2 : Hid (decide (l.length = s.days.length) = true) := by show _ = _; simp [he]
        clear he
        go_wp2_with (fail)
        go_ret
        exact ⟨bool_ret (by rw [hf.out, he2.out]), hBw.trans (g.h.mono hBw.size)⟩
      · have hbe : ((l.length : Int) == (s.days.length : Int)) = false := by simp; omega
        have he2 : Hid (decide (l.length = s.days.length) = false) := by show _ = _; simp [he]
        clear he
        go_wp2_with (fail)
        go_ret
        exact ⟨bool_ret (by rw [hf.out, he2.out]), hBw.trans (g.h.mono hBw.size)⟩

theorem progNominatedT {sv lv : Value} {s : Sea.S} {l : List Int} {t : Bool} (w : World) (hs : SeasonAt w sv s) (hl : IntsAt w lv l) (h : s.nomsB l = t) :
    Calls Try.prog 52 #[sv, lv] w fun e w' => e = .returned (.bool t) ∧ Below w.heap.size w w' := by
  rw [← h]; exact progNominated sv lv s l w hs hl

/-- The error of a season. -/
def errOf (s : Sea.S) : Int := if Sea.validB s = true then 0 else 2
theorem errOf_yes {s : Sea.S} (h : Sea.validB s = true) : errOf s = 0 := if_pos h
theorem errOf_no {s : Sea.S} (h : Sea.validB s = false) : errOf s = 2 := if_neg (by rw [h]; exact Bool.false_ne_true)
/-- The limits of a fill, and the error. -/
def limOf (s : Sea.S) (fill : Int) : Int × Int × Int := if Sea.validB s = true ∧ Sea.inB fill 0 s.space = true then ((s.lim fill).inn, (s.lim fill).out, 0) else (0, 0, 2)
theorem limOf_yes {s : Sea.S} {fill : Int} (h : Sea.validB s = true) (h2 : Sea.inB fill 0 s.space = true) : limOf s fill = ((s.lim fill).inn, (s.lim fill).out, 0) := if_pos ⟨h, h2⟩
theorem limOf_no {s : Sea.S} {fill : Int} (h : Sea.validB s = false ∨ Sea.inB fill 0 s.space = false) : limOf s fill = (0, 0, 2) := if_neg (by rintro ⟨h1, h2⟩; rcases h with h | h <;> simp_all)

/-- Check. -/
theorem progCheck (sv : Value) (s : Sea.S) (w : World) (hs : SeasonAt w sv s) :
    Calls Try.prog 38 #[sv] w fun e w' => e = .returned (.int .i64 (errOf s)) ∧ Below w.heap.size w w' := by
  obtain ⟨t, ht⟩ : ∃ t, Sea.validB s = t := ⟨_, rfl⟩
  have hBw : Below w.heap.size w (w.alloc (sBox s (.slice none 0 0) (.slice none 0 0))) := (Below.refl _ _).alloc (Nat.le_refl _) _
  have hs' := hs
  obtain ⟨rv, dv, rfl, -, -⟩ := hs'
  have hBw : Below w.heap.size w (w.alloc (sBox s rv dv)) := (Below.refl _ _).alloc (Nat.le_refl _) _
  have hv := Lib.hid (progValidT (t := t) _ (hs.mono hBw) ht)
  have he : Hid (errOf s = if t = true then 0 else 2) := by show _ = _; cases t; exact errOf_no ht; exact errOf_yes ht
  cases t
  all_goals
    replace ht := Lib.hid ht
    go_enter Try.func38, Try.ntmps38
    go_wp2_with (go_at_call 51; refine Calls.mono hv.out ?_; rintro e w' ⟨rfl, hb⟩)
    go_ret
    exact ⟨int_ret (by rw [he.out]; rfl), hBw.trans (hb.mono hBw.size)⟩

/-- A season that is looked at, newly made. -/
abbrev lBox (s : Sea.S) (rv dv mv : Value) : Obj := .cells #[.int .i64 s.space, .int .i64 s.start, .int .i64 s.elo, .int .i64 s.ehi, rv, dv, mv] 88
theorem look_new {w W : World} {s : Sea.S} {rv dv mv : Value} (h : w.alloc (lBox s rv dv mv) = W) (hr : RowsAt w rv s.rows) (hd : DaysAt w dv s.days) : LookAt W (.pointer (some ⟨w.heap.size, 0, none⟩)) mv s := by
  have hB : Below w.heap.size w W := by rw [← h]; exact (Below.refl _ _).alloc (Nat.le_refl _) _
  have hn : W.heap[w.heap.size]? = some (lBox s rv dv mv) := by rw [← h]; exact World.alloc_heap_new _ _
  obtain ⟨z, d, -⟩ := row_cells hn
  exact ⟨w.heap.size, rv, dv, rfl, ⟨d 0, d 1, d 2, d 3, d 4, d 5, d 6⟩, z, hr.mono hB, hd.mono hB⟩

set_option maxRecDepth 100000 in
set_option maxHeartbeats 2000000 in
theorem progLimitsErr (sv : Value) (s : Sea.S) (fill : Int) (w : World) (hs : SeasonAt w sv s) :
    Calls Try.prog 39 #[sv, .int .i64 fill] w fun e w' => e = .returned (.tuple #[.int .i64 (limOf s fill).1, .int .i64 (limOf s fill).2.1, .int .i64 (limOf s fill).2.2]) ∧ Below w.heap.size w w' := by
  obtain ⟨t, ht⟩ : ∃ t, Sea.validB s = t := ⟨_, rfl⟩
  have hs' := hs
  obtain ⟨rv, dv, rfl, hr, hd⟩ := hs'
  have hBw : Below w.heap.size w (w.alloc (sBox s rv dv)) := (Below.refl _ _).alloc (Nat.le_refl _) _
  have hv := Lib.hid (progValidT (t := t) _ (hs.mono hBw) ht)
  have hg := grow_cell (w.alloc (sBox s rv dv))
  cases t
  · have he := Lib.hid (limOf_no (fill := fill) (.inl ht))
    replace ht := Lib.hid ht
    go_enter Try.func39, Try.ntmps39
    go_wp2_with (go_at_call 51; refine Calls.mono hv.out ?_; rintro e w' ⟨rfl, hb⟩)
    go_ret3
    exact ⟨by rw [he.out]; rfl, hBw.trans (hb.mono hBw.size)⟩
  · cases h1 : Sea.inB fill 0 s.space
    · have he := Lib.hid (limOf_no (.inr h1))
      replace ht := Lib.hid ht
      go_enter Try.func39, Try.ntmps39
      go_wp2_with (first | (go_at_call 51; refine Calls.mono hv.out ?_; rintro e w' ⟨rfl, hb⟩; obtain ⟨g1, rfl⟩ : ∃ g1 : Grow (w.alloc (sBox s rv dv)), w' = g1.x := ⟨⟨w', hb⟩, rfl⟩) | (go_at_call 68; refine (progInT (by assumption) _).mono ?_; rintro e w' ⟨rfl, rfl⟩))
      go_ret3
      exact ⟨by rw [he.out]; rfl, hBw.trans (g1.h.mono hBw.size)⟩
    · have ok := Sea.ok_of_valid ht
      have he := Lib.hid (limOf_yes ht h1)
      have hlim : ∀ W1 X lv, LookAt W1 lv (.map none) s → Below W1.heap.size W1 X → Calls Try.prog 71 #[lv, .int .i64 fill] X fun e w' => e = .returned (rowV (s.lim fill)) ∧ Below X.heap.size X w' :=
        fun W1 X lv h hX => progLimits lv _ s fill X (h.mono hX) ok.nrows.1 (by rw [ok.row0]; have := (Sea.inB_iff.1 h1).1; omega)
      replace ht := Lib.hid ht
      replace hlim := Lib.hid hlim
      clear ok
      go_enter Try.func39, Try.ntmps39
      go_wp2_with (first | (go_at_call 51; refine Calls.mono hv.out ?_; rintro e w' ⟨rfl, hb⟩; obtain ⟨g1, rfl⟩ : ∃ g1 : Grow (w.alloc (sBox s rv dv)), w' = g1.x := ⟨⟨w', hb⟩, rfl⟩; have hlk := look_new (w := g1.x) (s := s) (mv := .map none) rfl (hr.mono (hBw.trans (g1.h.mono hBw.size))) (hd.mono (hBw.trans (g1.h.mono hBw.size)))) | (go_at_call 68; refine (progInT (by assumption) _).mono ?_; rintro e w' ⟨rfl, rfl⟩) | (go_at_call 71; refine Calls.mono (hlim.out _ _ _ hlk (Below.refl _ _)) ?_; rintro e w2 ⟨rfl, hb2⟩))
      go_quiet (fail)
      go_wp2_with (fail)
      go_ret3
      refine ⟨by rw [he.out]; rfl, ?_⟩
      have hB1 : Below w.heap.size w g1.x := hBw.trans (g1.h.mono hBw.size)
      have hB2 := below_tr (below_al hB1 (lBox s rv dv (.map none))) hb2
      exact below_drewN (below_al hB2 _) _
end Go.Proofs.Ytacajmpggjgaiaa
