/- Walks: the law LeakFinds. -/
import Derived.Test.YtddmfkhmhdddeaaRWa
import Derived.Test.YtddmfkhmhdddeaaKno
set_option linter.unusedVariables false
set_option linter.unusedSimpArgs false
namespace Go.Proofs.Ytddmfkhmhdddeaa
open Go.RowKit Go.Sd Lk

set_option maxRecDepth 100000 in
set_option maxHeartbeats 4000000 in
theorem lawFinds (v : Value) (l : List Dy) (size since : Int) (w : World) (hl : DysAt w v l) :
    Calls Try.prog 5 #[v, .int .i64 size, .int .i64 since] w fun e w' => e = .returned (.bool true) ∧ Below w.heap.size w w' := by
  have kK := Lib.hid (fun X => progKnown X)
  have kF0 := progFound v l size since w hl
  have kW0 := fun X (h : Below w.heap.size w X) => lawWatched v l size since X (hl.mono h)
  have kR0 := fun (ok : WOk l) (hsz : 1 ≤ size ∧ size ≤ 10000000) X (h : Below w.heap.size w X) => refFound v l size since X (hl.mono h) ok hsz
  unfold FoundPost at kF0
  obtain ⟨a, cap, rfl, hlm, -⟩ := hl.form
  clear hl
  rcases Int.lt_or_le 40 (l.length : Int) with h40 | h40
  · clear kF0 kW0 kR0
    go_enter Try.func5, Try.ntmps5
    go_wp2_with (go_at_call 18; (with_reducible refine Calls.mono (kK.out _) ?_); rintro e w3 ⟨rfl, hB3⟩)
    go_ret
    exact ⟨rfl, hB3⟩
  · by_cases h30 : 30 < l.length
    · rw [fdR_long h30] at kF0
      have hw : wdE l size since = 3 := by rw [wdE, if_pos h30]
      rw [hw] at kW0
      have kF := Lib.hid kF0
      have kW := Lib.hid kW0
      clear kF0 kW0 kR0 hw
      go_enter Try.func5, Try.ntmps5
      go_wp2_with (first
        | (go_at_call 28; (with_reducible refine Calls.mono kF.out ?_); rintro e w1 ⟨rfl, hB1⟩)
        | (go_at_call 29; (with_reducible refine Calls.mono (kW.out w1 hB1) ?_); rintro e w2 ⟨rfl, rfl⟩)
        | (go_at_call 18; (with_reducible refine Calls.mono (kK.out _) ?_); rintro e w3 ⟨rfl, hB3⟩))
      go_ret
      exact ⟨rfl, below_tr hB1 hB3⟩
    · cases hwb : watchB l size since
      · rw [fdR_arg (by omega) hwb] at kF0
        have hw : wdE l size since = 2 := by rw [wdE, if_neg h30, if_neg (by rw [hwb]; exact Bool.false_ne_true)]
        rw [hw] at kW0
        have kF := Lib.hid kF0
        have kW := Lib.hid kW0
        clear kF0 kW0 kR0 hw hwb
        go_enter Try.func5, Try.ntmps5
        go_wp2_with (first
          | (go_at_call 28; (with_reducible refine Calls.mono kF.out ?_); rintro e w1 ⟨rfl, hB1⟩)
          | (go_at_call 29; (with_reducible refine Calls.mono (kW.out w1 hB1) ?_); rintro e w2 ⟨rfl, rfl⟩)
          | (go_at_call 18; (with_reducible refine Calls.mono (kK.out _) ?_); rintro e w3 ⟨rfl, hB3⟩))
        go_ret
        exact ⟨rfl, below_tr hB1 hB3⟩
      · obtain ⟨ok, hsz, hsn⟩ := watch_ok hwb (by omega)
        have hw : wdE l size since = 0 := by rw [wdE, if_neg h30, if_pos hwb]
        rw [hw] at kW0
        have hrf := rf_found ok hsz.1 hsn.1
        have kR1 := kR0 ok hsz
        have kW := Lib.hid kW0
        cases hfd : foundD l size since with
        | none =>
          rw [fdR_no (by omega) hwb hfd] at kF0
          have hr : rfR l size since = -1 := by unfold rfR; rw [hrf, hfd]
          rw [hr] at kR1
          have kF := Lib.hid kF0
          have kR := Lib.hid kR1
          clear kF0 kW0 kR0 kR1 hw hwb hr hrf ok
          go_enter Try.func5, Try.ntmps5
          go_wp2_with (first
            | (go_at_call 28; (with_reducible refine Calls.mono kF.out ?_); rintro e w1 ⟨rfl, hB1⟩)
            | (go_at_call 29; (with_reducible refine Calls.mono (kW.out w1 hB1) ?_); rintro e w2 ⟨rfl, rfl⟩)
            | (go_at_call 30; (with_reducible refine Calls.mono (kR.out w1 hB1) ?_); rintro e w4 ⟨rfl, hB2⟩)
            | (go_at_call 18; (with_reducible refine Calls.mono (kK.out _) ?_); rintro e w3 ⟨rfl, hB3⟩))
          go_ret
          exact ⟨rfl, below_tr hB1 (below_tr hB2 hB3)⟩
        | some t =>
          rw [fdR_yes (by omega) hwb hfd] at kF0
          have hr : rfR l size since = t := by unfold rfR; rw [hrf, hfd]
          rw [hr] at kR1
          have kF := Lib.hid kF0
          have kR := Lib.hid kR1
          clear kF0 kW0 kR0 kR1 hw hwb hr hrf ok hfd
          go_enter Try.func5, Try.ntmps5
          go_wp2_with (first
            | (go_at_call 28; (with_reducible refine Calls.mono kF.out ?_); rintro e w1 ⟨rfl, hB1⟩)
            | (go_at_call 29; (with_reducible refine Calls.mono (kW.out w1 hB1) ?_); rintro e w2 ⟨rfl, rfl⟩)
            | (go_at_call 30; (with_reducible refine Calls.mono (kR.out w1 hB1) ?_); rintro e w4 ⟨rfl, hB2⟩)
            | (go_at_call 18; (with_reducible refine Calls.mono (kK.out _) ?_); rintro e w3 ⟨rfl, hB3⟩))
          go_ret
          exact ⟨rfl, below_tr hB1 (below_tr hB2 hB3)⟩
end Go.Proofs.Ytddmfkhmhdddeaa
