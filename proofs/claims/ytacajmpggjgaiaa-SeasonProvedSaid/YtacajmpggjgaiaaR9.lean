/- Walks of the reference: whether lists are values; whether values are fair. -/
import Derived.Test.YtacajmpggjgaiaaR5
import Derived.Test.YtacajmpggjgaiaaR3
set_option linter.unusedVariables false
set_option linter.unusedSimpArgs false
namespace Go.Proofs.Ytacajmpggjgaiaa
open Go.RowKit Go.Sd

/-- Whether a list is a day's values. -/
def rowOkB (s : Sea.S) (x : List Int) : Bool := decide ((x.length : Int) = s.space + 1) && (List.range x.length).all fun k => Sea.inB (Sea.at0 x k) (-1000000000000000) 1000000000000000
/-- Whether lists are values of a season. -/
def valsB (s : Sea.S) (l : List (List Int)) : Bool := ((List.range l.length).all fun t => rowOkB s (Sea.lstAt l t)) && decide (l.length = s.days.length + 1)

theorem lst_cell {W : World} {v : Value} {xs : List (List Int)} (h : ListsAt W v xs) (hn : 0 < xs.length) :
    ∃ b off cap, v = .slice (some ⟨b, off, none⟩) xs.length cap ∧ b < W.heap.size ∧ xs.length ≤ 9223372036854775807 ∧ ∀ k, k < xs.length → ∃ ev, W.cell? ⟨b, off + k, none⟩ = some ev ∧ IntsAt W ev (Sea.lstAt xs k) := by
  obtain ⟨a, cap, rfl, hm, hc⟩ := h
  obtain ⟨b, off, rfl, hlt, hk⟩ := hc hn
  unfold maxLen at hm
  exact ⟨b, off, cap, rfl, hlt, by omega, hk⟩

set_option maxRecDepth 100000 in
set_option maxHeartbeats 4000000 in
theorem refValues (sv lv : Value) (s : Sea.S) (l : List (List Int)) (w : World) (hs : SeasonAt w sv s) (hl : ListsAt w lv l) (ok : Sea.Ok s) :
    Calls Try.prog 43 #[sv, lv] w (BoolPost (valsB s l) w) := by
  have hs' := hs
  obtain ⟨rv, dv, rfl, -, ⟨da, dcap, rfl, hdm, -⟩⟩ := hs'
  unfold maxLen at hdm
  have hsp := ok.space
  have hnd := ok.ndays
  obtain ⟨W, hW⟩ : ∃ W, w.alloc (sBox s rv (.slice da s.days.length dcap)) = W := ⟨_, rfl⟩
  obtain ⟨hsz, hBw, q0, q1, q2, q3, q4, q5⟩ := box_season hW
  have hlW := hl.mono hBw
  have hlW' := hlW
  obtain ⟨la, lcap, rfl, hlm, -⟩ := hlW'
  unfold maxLen at hlm
  have hcell : Hid (∀ t, t < l.length → ∃ b off, la = some ⟨b, off, none⟩ ∧ b < W.heap.size ∧ ∃ ea en ec, W.cell? ⟨b, off + t, none⟩ = some (.slice ea en ec) ∧ en = (Sea.lstAt l t).length ∧ en ≤ 9223372036854775807 ∧
      ∀ k, k < (Sea.lstAt l t).length → ∃ eb eo, ea = some ⟨eb, eo, none⟩ ∧ eb < W.heap.size ∧ W.cell? ⟨eb, eo + k, none⟩ = some (.int .i64 (Sea.at0 (Sea.lstAt l t) k))) := fun t ht => by
    obtain ⟨b, off, cap, he, hlt, -, hk⟩ := lst_cell hlW (by omega)
    cases he
    obtain ⟨ev, h1, h2⟩ := hk t ht
    obtain ⟨ea, ec, rfl, hm2, hk2⟩ := h2
    unfold maxLen at hm2
    refine ⟨b, off, rfl, hlt, ea, _, ec, h1, rfl, by omega, fun k hk => ?_⟩
    obtain ⟨eb, eo, h3, h4, h5⟩ := hk2 (by omega)
    exact ⟨eb, eo, h3, h4, h5 k hk⟩
  have hg := grow_cell W
  clear hs hl hlW
  go_enter Try.func43, Try.ntmps43
  go_wp2_with (fail)
  go_loopw [5] (fun i wr => ∃ t : Nat, t ≤ l.length ∧ i = .int .i64 t ∧ Hid (∀ j, j < t → rowOkB s (Sea.lstAt l j) = true) ∧ ∃ g : Grow W, wr = g.x) (fun i _ => l.length - (intOf i).toNat)
  case atStart => exact ⟨0, by omega, rfl, (fun j h => by omega : ∀ j, j < 0 → rowOkB s (Sea.lstAt l j) = true), Grow.self W, rfl⟩
  case round =>
    obtain ⟨t, ht, rfl, hH, g, rfl⟩ := hrel
    have m5 := g.cell q5
    have hgs := g.size
    by_cases htl : t < l.length
    · obtain ⟨b, off, rfl, hbl, ea, en, ec, hc, hen, hem, hk⟩ := hcell.out t htl
      have hti : (0 : Int) ≤ (t : Int) ∧ (t : Int) < l.length := by omega
      have hall : Hid (rowOkB s (Sea.lstAt l t) = (decide ((en : Int) = s.space + 1) && (List.range en).all fun k => Sea.inB (Sea.at0 (Sea.lstAt l t) k) (-1000000000000000) 1000000000000000)) := by show _ = _; unfold rowOkB; rw [hen]
      rw [← hen] at hk
      generalize hrow : Sea.lstAt l t = row at *
      replace hrow := Lib.hid hrow
      replace hen := Lib.hid hen
      replace hk := Lib.hid hk
      by_cases hlen : (en : Int) = s.space + 1
      · have hle : ((en : Int) != s.space + 1) = false := by simpa using hlen
        have hall2 : Hid (rowOkB s row = (List.range en).all fun k => Sea.inB (Sea.at0 row k) (-1000000000000000) 1000000000000000) := by show _ = _; rw [hall.out, decide_eq_true hlen, Bool.true_and]
        replace hlen := Lib.hid hlen
        go_wp2_with (fail)
        go_quiet (fail)
        go_wp2_with (fail)
        obtain ⟨g1, hg1⟩ := g.next (below_drewN (Below.refl _ _) nq)
        rw [hg1]
        clear m5
        go_loopw [6] (fun i wr => ∃ f : Nat, f ≤ en ∧ i = .int .i64 f ∧ Hid (∀ j, j < f → Sea.inB (Sea.at0 row j) (-1000000000000000) 1000000000000000 = true) ∧ ∃ g : Grow W, wr = g.x) (fun i _ => en - (intOf i).toNat)
        case atStart => exact ⟨0, by omega, rfl, (fun j h => by omega : ∀ j, j < 0 → Sea.inB (Sea.at0 row j) (-1000000000000000) 1000000000000000 = true), g1, rfl⟩
        case round =>
          clear hg1 nq
          obtain ⟨f, hf, rfl, hF, g2, rfl⟩ := hrel
          have y0 := g2.cell hc
          by_cases hfl : f < en
          · obtain ⟨eb, eo, rfl, hebl, he⟩ := hk.out f hfl
            have y1 := g2.cell he
            have hfi : (0 : Int) ≤ (f : Int) ∧ (f : Int) < en := by omega
            cases hin : Sea.inB (Sea.at0 row f) (-1000000000000000) 1000000000000000
            · have hno : Hid (valsB s l = false) := by
                show _ = _
                unfold valsB
                rw [all_range_not htl (show rowOkB s (Sea.lstAt l t) = false by rw [hrow.out, hall2.out, all_range_not hfl hin]), Bool.false_and]
              go_wp2_with (go_at_call 59; refine (refInT hin _).mono ?_; rintro e w' ⟨rfl, rfl⟩)
              go_ret
              exact BoolPost.of hno.out (hBw.trans (g2.h.mono (Nat.le_of_lt hsz)))
            · have hF2 : Hid (∀ j, j < f + 1 → Sea.inB (Sea.at0 row j) (-1000000000000000) 1000000000000000 = true) := upto_succ hF.out hin
              go_wp2_with (go_at_call 59; refine (refInT hin _).mono ?_; rintro e w' ⟨rfl, rfl⟩)
              exact ⟨⟨f + 1, by omega, by go_num, hF2, g2, rfl⟩, by simp [intOf]; omega⟩
          · have hH2 : Hid (∀ j, j < t + 1 → rowOkB s (Sea.lstAt l j) = true) := upto_succ hH.out (by rw [hrow.out, hall2.out]; exact all_range fun j hj => hF.out j (by omega))
            go_wp2_with (fail)
            exact ⟨⟨t + 1, by omega, by go_num, hH2, g2, rfl⟩, by simp [intOf]; omega⟩
      · have hle : ((en : Int) != s.space + 1) = true := by simpa using hlen
        have hno : Hid (valsB s l = false) := by
          show _ = _
          unfold valsB
          rw [all_range_not htl (show rowOkB s (Sea.lstAt l t) = false by rw [hrow.out, hall.out, decide_eq_false hlen, Bool.false_and]), Bool.false_and]
        replace hlen := Lib.hid hlen
        go_wp2_with (fail)
        go_quiet (fail)
        go_wp2_with (fail)
        go_ret
        exact BoolPost.of hno.out (below_drewN (hBw.trans (g.h.mono (Nat.le_of_lt hsz))) _)
    · have hall : Hid ((List.range l.length).all (fun t => rowOkB s (Sea.lstAt l t)) = true) := all_range fun j hj => hH.out j (by omega)
      by_cases hlen : l.length = s.days.length + 1
      · have hbe : ((l.length : Int) == (s.days.length : Int) + 1) = true := by rw [hlen]; simp
        have hno : Hid (valsB s l = true) := by show _ = _; unfold valsB; rw [hall.out, decide_eq_true hlen]; rfl
        replace hlen := Lib.hid hlen
        go_wp2_with (fail)
        go_ret
        exact BoolPost.of (by rw [hno.out]; try simp [hbe]) (hBw.trans (g.h.mono (Nat.le_of_lt hsz)))
      · have hbe : ((l.length : Int) == (s.days.length : Int) + 1) = false := beq_eq_false_iff_ne.2 (fun h => hlen (by omega))
        have hno : Hid (valsB s l = false) := by show _ = _; unfold valsB; rw [decide_eq_false hlen, Bool.and_false]
        replace hlen := Lib.hid hlen
        go_wp2_with (fail)
        go_ret
        exact BoolPost.of (by rw [hno.out]; try simp [hbe]) (hBw.trans (g.h.mono (Nat.le_of_lt hsz)))
end Go.Proofs.Ytacajmpggjgaiaa
