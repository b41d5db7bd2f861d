/- Walks: whether a list is not too long; whether a plan is as defined. -/
import Derived.Test.YtacajmpggjgaiaaS1
set_option linter.unusedVariables false
set_option linter.unusedSimpArgs false
namespace Go.Proofs.Ytacajmpggjgaiaa
open Go.RowKit Go.Sd

theorem lawListed {lv : Value} {l : List Int} {t : Bool} (w : World) (hl : IntsAt w lv l) (h : decide (l.length ≤ 25) = t) :
    Calls Try.prog 15 #[lv] w fun e w' => e = .returned (.bool t) ∧ w' = w := by
  obtain ⟨aa, ac, rfl, ham, -⟩ := hl
  unfold maxLen at ham
  by_cases h1 : l.length ≤ 25
  · have ht : Hid (t = true) := by show _ = _; rw [← h]; simp [h1]
    have h2 : (l.length : Int) ≤ 25 := by omega
    clear h
    go_enter Try.func15, Try.ntmps15
    go_wp2
    go_ret
    exact ⟨bool_ret (by rw [ht.out]; first | done | simpa using h2), rfl⟩
  · have ht : Hid (t = false) := by show _ = _; rw [← h]; simp [h1]
    have h2 : ¬ ((l.length : Int) ≤ 25) := by omega
    clear h
    go_enter Try.func15, Try.ntmps15
    go_wp2
    go_ret
    exact ⟨bool_ret (by rw [ht.out]; first | done | simpa using h2), rfl⟩

/-- Whether a plan is as defined. -/
def planB (s : Sea.S) (l : List Int) : Bool := (List.range l.length).all (fun k => Sea.inB (Sea.at0 l k) (-100) 100) && decide (l.length = s.days.length)

set_option maxHeartbeats 1000000 in
theorem refPlan (sv lv : Value) (s : Sea.S) (l : List Int) (w : World) (hs : SeasonAt w sv s) (hl : IntsAt w lv l) :
    Calls Try.prog 46 #[sv, lv] w (BoolPost (planB s l) w) := by
  have hs' := hs
  obtain ⟨rv, dv, rfl, -, ⟨da, dcap, rfl, hdm, -⟩⟩ := hs'
  obtain ⟨aa, ac, rfl, ham, hac⟩ := hl
  unfold maxLen at ham hdm
  go_enter Try.func46, Try.ntmps46
  go_wp2
  generalize hW : w.alloc (sBox s rv (.slice da s.days.length dcap)) = W
  obtain ⟨hsz, hBw, q0, q1, q2, q3, q4, q5⟩ := box_season hW
  clear hW
  go_loopw [5] (fun i wr => ∃ k : Nat, k ≤ l.length ∧ i = .int .i64 k ∧ Hid (∀ j, j < k → Sea.inB (Sea.at0 l j) (-100) 100 = true) ∧ wr = W) (fun i _ => l.length - (intOf i).toNat)
  case atStart => exact ⟨0, by omega, rfl, (fun j h => by omega : ∀ j, j < 0 → Sea.inB (Sea.at0 l j) (-100) 100 = true), rfl⟩
  case round =>
    obtain ⟨k, hk, rfl, hH, rfl⟩ := hrel
    by_cases hlt : k < l.length
    · obtain ⟨ab, ao, rfl, hal, hak⟩ := hac (by omega)
      have ca := kept_cell hBw (hak k hlt)
      clear hak hac
      have hlt' : (0 : Int) ≤ (k : Int) ∧ (k : Int) < l.length := by omega
      cases he : Sea.inB (Sea.at0 l k) (-100) 100
      · have Hf : Hid (planB s l = false) := by show _ = _; unfold planB; rw [all_range_not hlt he, Bool.false_and]
        go_wp2_with (go_at_call 59; refine (refInT he _).mono ?_; rintro e w' ⟨rfl, rfl⟩)
        go_ret
        exact BoolPost.of Hf.out hBw
      · have hH' : Hid (∀ j, j < k + 1 → Sea.inB (Sea.at0 l j) (-100) 100 = true) := upto_succ hH.out he
        go_wp2_with (go_at_call 59; refine (refInT he _).mono ?_; rintro e w' ⟨rfl, rfl⟩)
        exact ⟨⟨k + 1, by omega, by go_num, hH', trivial⟩, by simp [intOf]; omega⟩
    · have hall : Hid ((List.range l.length).all (fun k => Sea.inB (Sea.at0 l k) (-100) 100) = true) := all_range fun j hj => hH.out j (by omega)
      by_cases hlen : l.length = s.days.length
      · have hbe : ((l.length : Int) == (s.days.length : Int)) = true := by rw [hlen]; simp
        have Hf : Hid (planB s l = true) := by show _ = _; unfold planB; rw [hall.out, decide_eq_true hlen]; rfl
        replace hlen := Lib.hid hlen
        go_wp2
        go_ret
        exact BoolPost.of (by first | exact Hf.out | (rw [Hf.out]; simp [hbe])) hBw
      · have hbe : ((l.length : Int) == (s.days.length : Int)) = false := beq_eq_false_iff_ne.2 (fun h => hlen (by omega))
        have Hf : Hid (planB s l = false) := by show _ = _; unfold planB; rw [decide_eq_false hlen, Bool.and_false]
        replace hlen := Lib.hid hlen
        go_wp2
        go_ret
        exact BoolPost.of (by first | exact Hf.out | (rw [Hf.out]; simp [hbe])) hBw

theorem refPlanT {sv lv : Value} {s : Sea.S} {l : List Int} {t : Bool} (w : World) (hs : SeasonAt w sv s) (hl : IntsAt w lv l) (h : planB s l = t) :
    Calls Try.prog 46 #[sv, lv] w fun e w' => e = .returned (.bool t) ∧ Below w.heap.size w w' := by
  rw [← h]; exact refPlan sv lv s l w hs hl
theorem refNomsT {sv lv : Value} {s : Sea.S} {l : List Int} {t : Bool} (w : World) (hs : SeasonAt w sv s) (hl : IntsAt w lv l) (h : s.nomsB l = t) :
    Calls Try.prog 20 #[sv, lv] w fun e w' => e = .returned (.bool t) ∧ Below w.heap.size w w' := by
  rw [← h]; exact refNoms sv lv s l w hs hl
end Go.Proofs.Ytacajmpggjgaiaa
