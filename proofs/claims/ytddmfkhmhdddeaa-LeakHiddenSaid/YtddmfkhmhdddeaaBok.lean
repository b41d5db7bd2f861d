/- Walks: the error that a book comes to (the laws). -/
import Derived.Test.YtddmfkhmhdddeaaBoo
set_option linter.unusedVariables false
set_option linter.unusedSimpArgs false
namespace Go.Proofs.Ytddmfkhmhdddeaa
open Go.RowKit Go.Sd Lk

set_option maxRecDepth 100000 in
set_option maxHeartbeats 4000000 in
theorem lawBooked (fv wv rv : Value) (b : Bk) (fine : Bool) (w : World) (hb : BookAt w fv wv rv b) :
    Calls Try.prog 20 #[bkV fv wv rv, .bool fine] w fun e w' => e = .returned (.int .i64 (b.err fine)) ∧ Below w.heap.size w w' := by
  obtain ⟨W, hW⟩ : ∃ W, w.alloc (bkA fv wv rv) = W := ⟨_, rfl⟩
  obtain ⟨e0, b0, s0⟩ := boxed hW
  obtain ⟨q0, q1, q2⟩ := rc3 e0
  have zW := (Array.getElem?_eq_some_iff.1 e0).1
  have kB := refBook fv wv rv b W (hb.mono b0)
  obtain ⟨wa, wc, rfl, hwm, -⟩ := hb.flows.form
  obtain ⟨ra, rc, rfl, hrm, -⟩ := hb.reads.form
  have hBW := Lib.hid b0
  clear hb
  rcases Int.lt_or_le 40 (b.reads.length : Int) with h1 | h1
  · have hr : Hid (b.err fine = 3) := Lib.hid (by
      rw [Bk.err, if_pos (by simp only [Bk.longB, Bool.or_eq_true, decide_eq_true_eq]; omega)])
    go_enter Try.func20, Try.ntmps20
    go_wp2
    go_ret
    exact ⟨by rw [hr.out]; rfl, hBW.out⟩
  · rcases Int.lt_or_le 30 (b.flows.length : Int) with h2 | h2
    · have hr : Hid (b.err fine = 3) := Lib.hid (by
        rw [Bk.err, if_pos (by simp only [Bk.longB, Bool.or_eq_true, decide_eq_true_eq]; omega)])
      go_enter Try.func20, Try.ntmps20
      go_wp2
      go_ret
      exact ⟨by rw [hr.out]; rfl, hBW.out⟩
    · have hl : b.longB = false := by simp only [Bk.longB, Bool.or_eq_false_iff, decide_eq_false_iff_not]; omega
      cases h3 : b.bookB
      · have hr : Hid (b.err fine = 2) := Lib.hid (by simp [Bk.err, hl, h3])
        rw [h3] at kB
        replace kB := Lib.hid kB
        clear hl h3
        go_enter Try.func20, Try.ntmps20
        go_wp2_with (go_at_call 53; (with_reducible refine Calls.mono kB.out ?_); rintro e y ⟨rfl, hB2⟩)
        go_ret
        exact ⟨by rw [hr.out]; rfl, below_tr hBW.out hB2⟩
      · cases fine
        · have hr : Hid (b.err false = 2) := Lib.hid (by simp [Bk.err, hl])
          rw [h3] at kB
          replace kB := Lib.hid kB
          clear hl h3
          go_enter Try.func20, Try.ntmps20
          go_wp2_with (go_at_call 53; (with_reducible refine Calls.mono kB.out ?_); rintro e y ⟨rfl, hB2⟩)
          go_ret
          exact ⟨by rw [hr.out]; rfl, below_tr hBW.out hB2⟩
        · have hr : Hid (b.err true = 0) := Lib.hid (by simp [Bk.err, hl, h3])
          rw [h3] at kB
          replace kB := Lib.hid kB
          clear hl h3
          go_enter Try.func20, Try.ntmps20
          go_wp2_with (go_at_call 53; (with_reducible refine Calls.mono kB.out ?_); rintro e y ⟨rfl, hB2⟩)
          go_ret
          exact ⟨by rw [hr.out]; rfl, below_tr hBW.out hB2⟩
end Go.Proofs.Ytddmfkhmhdddeaa
