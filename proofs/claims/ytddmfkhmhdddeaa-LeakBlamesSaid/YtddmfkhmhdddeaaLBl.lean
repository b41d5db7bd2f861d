/- Walks: the law LeakBlames. -/
import Derived.Test.YtddmfkhmhdddeaaRBl
import Derived.Test.YtddmfkhmhdddeaaKno
import Derived.Test.YtddmfkhmhdddeaaSho
import Derived.Test.YtddmfkhmhdddeaaBok
import Derived.Deep.Cut
set_option linter.unusedVariables false
set_option linter.unusedSimpArgs false
namespace Go.Proofs.Ytddmfkhmhdddeaa
open Go.RowKit Go.Sd Lk

set_option maxRecDepth 100000 in
set_option maxHeartbeats 4000000 in
theorem lawBlames (fv wv rv : Value) (b : Bk) (w : World) (hb : BookAt w fv wv rv b) (hcap : ∀ a n cap, rv = .slice a n cap → n ≤ cap) :
    Calls Try.prog 4 #[bkV fv wv rv] w fun e w' => e = .returned (.bool true) ∧ Below w.heap.size w w' := by
  have kK := Lib.hid (fun X => progKnown X)
  obtain ⟨W, hW⟩ : ∃ W, w.alloc (bkA fv wv rv) = W := ⟨_, rfl⟩
  obtain ⟨e0, BW, s0⟩ := boxed hW
  have hE0 := Lib.hid e0
  have hbW := hb.mono BW
  obtain ⟨fa, fc, rfl, hfm, -⟩ := hb.first.form
  obtain ⟨wa, ww, rfl, hwm, -⟩ := hb.flows.form
  obtain ⟨ra, rc, rfl, hrm, -⟩ := hb.reads.form
  obtain ⟨q0, q1, q2⟩ := rc3 e0
  have z0 := (Array.getElem?_eq_some_iff.1 e0).1
  have kS0 := fun X (h : Below W.heap.size W X) => lawShort _ _ _ b X (hbW.mono h)
  have kB0 := fun X (h : Below W.heap.size W X) => lawBooked _ _ _ b true X (hbW.mono h)
  have kM0 := fun X (h : Below W.heap.size W X) => progBlame _ _ _ b X (hbW.mono h) hcap
  unfold BlamePost at kM0
  have kR0 := fun (ok : Ok b) (hn : b.reads.length ≤ 8) X (h : Below W.heap.size W X) => refBlame _ _ _ b X (hbW.mono h) ok hn
  have hez := Lib.hid (err_zero (b := b) (f := true))
  have hBW := Lib.hid BW
  have h0 := Below.refl W.heap.size W
  clear s0 hb hbW e0 BW hcap
  cases hs : b.shortB
  · simp only [hs] at kS0
    have kS := Lib.hid kS0
    clear kS0 kB0 kM0 kR0 hez hs
    go_enter Try.func4, Try.ntmps4
    go_wp2_with (first | (go_at_call 17; (with_reducible refine Calls.mono (kS.out _ h0) ?_); rintro e w1 ⟨rfl, hB1⟩; have h1 := below_tr h0 hB1; obtain ⟨q0, q1, q2⟩ := rc3 (kept_block h1 hE0.out); have z0 := (Array.getElem?_eq_some_iff.1 (kept_block h1 hE0.out)).1) | (go_at_call 18; (with_reducible refine Calls.mono (kK.out _) ?_); rintro e w9 ⟨rfl, hB9⟩))
    go_ret
    exact ⟨rfl, below_tr hBW.out (below_tr h1 hB9)⟩
  · simp only [hs] at kS0
    have kS := Lib.hid kS0
    clear kS0 hs
    by_cases he : b.err true = 0
    · rw [he] at kB0
      have kB := Lib.hid kB0
      have ok := ok_of (hez.out he).2.1 (hez.out he).1
      have kM : Hid (∀ X, Below W.heap.size W X → Calls Try.prog 25 #[bkV (.slice fa b.first.length fc) (.slice wa b.flows.length ww) (.slice ra b.reads.length rc)] X fun e w' => ∃ a cap, e = .returned (.tuple #[.slice a b.blame.length cap, .int .i64 0]) ∧ Below X.heap.size X w' ∧ natsAt w' (.slice a b.blame.length cap) b.blame) := Lib.hid fun X h => (kM0 X h).mono (by
        rintro e w' ⟨hB, ⟨h, -⟩ | ⟨-, a, cap, rfl, hv⟩⟩
        · exact absurd he h
        · exact ⟨a, cap, rfl, hB, hv⟩)
      have kR1 := kR0 ok
      clear kB0 kM0 kR0 hez he ok
      by_cases hn : 8 < b.reads.length
      · have hd : decide ((8 : Int) < (b.reads.length : Int)) = true := decide_eq_true (by omega)
        have hd2 : decide (8 < b.reads.length) = true := decide_eq_true hn
        clear kR1 kM hn
        go_enter Try.func4, Try.ntmps4
        go_wp2_with (first | (go_at_call 17; (with_reducible refine Calls.mono (kS.out _ h0) ?_); rintro e w1 ⟨rfl, hB1⟩; have h1 := below_tr h0 hB1; obtain ⟨q0, q1, q2⟩ := rc3 (kept_block h1 hE0.out); have z0 := (Array.getElem?_eq_some_iff.1 (kept_block h1 hE0.out)).1) | (go_at_call 20; (with_reducible refine Calls.mono (kB.out _ h1) ?_); rintro e w2 ⟨rfl, hB2⟩; have h2 := below_tr h1 hB2; obtain ⟨q0, q1, q2⟩ := rc3 (kept_block h2 hE0.out); have z0 := (Array.getElem?_eq_some_iff.1 (kept_block h2 hE0.out)).1) | (go_at_call 18; (with_reducible refine Calls.mono (kK.out _) ?_); rintro e w9 ⟨rfl, hB9⟩))
        go_ret
        exact ⟨rfl, below_tr hBW.out (below_tr h2 hB9)⟩
      · have hd : decide ((8 : Int) < (b.reads.length : Int)) = false := decide_eq_false (by omega)
        have hd2 : decide (8 < b.reads.length) = false := decide_eq_false hn
        have kR := Lib.hid (kR1 (by omega))
        clear kR1
        go_enter Try.func4, Try.ntmps4
        go_wp2_with (first | (go_at_call 17; (with_reducible refine Calls.mono (kS.out _ h0) ?_); rintro e w1 ⟨rfl, hB1⟩; have h1 := below_tr h0 hB1; obtain ⟨q0, q1, q2⟩ := rc3 (kept_block h1 hE0.out); have z0 := (Array.getElem?_eq_some_iff.1 (kept_block h1 hE0.out)).1) | (go_at_call 20; (with_reducible refine Calls.mono (kB.out _ h1) ?_); rintro e w2 ⟨rfl, hB2⟩; have h2 := below_tr h1 hB2; obtain ⟨q0, q1, q2⟩ := rc3 (kept_block h2 hE0.out); have z0 := (Array.getElem?_eq_some_iff.1 (kept_block h2 hE0.out)).1) | (go_at_call 25; (with_reducible refine Calls.mono (kM.out _ h2) ?_); rintro e w3 ⟨ba, bc, rfl, hB3, hbl⟩; have h3 := below_tr h2 hB3; obtain ⟨q0, q1, q2⟩ := rc3 (kept_block h3 hE0.out); have z0 := (Array.getElem?_eq_some_iff.1 (kept_block h3 hE0.out)).1) | (go_at_call 20; (with_reducible refine Calls.mono (kB.out _ h3) ?_); rintro e w4 ⟨rfl, hB4⟩; have h4 := below_tr h3 hB4; obtain ⟨q0, q1, q2⟩ := rc3 (kept_block h4 hE0.out); have z0 := (Array.getElem?_eq_some_iff.1 (kept_block h4 hE0.out)).1) | (go_at_call 27; (with_reducible refine Calls.mono (kR.out _ h4) ?_); rintro e w5 ⟨hB5, v5, rfl, hv5⟩; have h5 := below_tr h4 hB5; obtain ⟨q0, q1, q2⟩ := rc3 (kept_block h5 hE0.out); have z0 := (Array.getElem?_eq_some_iff.1 (kept_block h5 hE0.out)).1) | (go_at_call 26; (with_reducible refine Calls.mono (refSame _ _ _ _ (hbl.mono (below_tr hB4 hB5)) hv5) ?_); rintro e w6 ⟨rfl, hB6⟩; have h6 := below_tr h5 hB6) | (go_at_call 18; (with_reducible refine Calls.mono (kK.out _) ?_); rintro e w9 ⟨rfl, hB9⟩))
        go_ret
        exact ⟨rfl, below_tr hBW.out (below_tr h6 hB9)⟩
    · have h23 : b.err true = 2 ∨ b.err true = 3 := by have := err_cases b true; omega
      have kM1 : ∀ X, Below W.heap.size W X → Calls Try.prog 25 #[bkV (.slice fa b.first.length fc) (.slice wa b.flows.length ww) (.slice ra b.reads.length rc)] X fun e w' => e = .returned (.tuple #[.slice none 0 0, .int .i64 (b.err true)]) ∧ Below X.heap.size X w' := fun X h => (kM0 X h).mono (by
        rintro e w' ⟨hB, ⟨-, rfl⟩ | ⟨h, -⟩⟩
        · exact ⟨rfl, hB⟩
        · exact absurd h he)
      clear kR0 kM0 hez he
      generalize b.err true = er at *
      rcases h23 with rfl | rfl
      all_goals
        have kB := Lib.hid kB0
        have kM := Lib.hid kM1
        clear kB0 kM1
        go_enter Try.func4, Try.ntmps4
        go_wp2_with (first | (go_at_call 17; (with_reducible refine Calls.mono (kS.out _ h0) ?_); rintro e w1 ⟨rfl, hB1⟩; have h1 := below_tr h0 hB1; obtain ⟨q0, q1, q2⟩ := rc3 (kept_block h1 hE0.out); have z0 := (Array.getElem?_eq_some_iff.1 (kept_block h1 hE0.out)).1) | (go_at_call 20; (with_reducible refine Calls.mono (kB.out _ h1) ?_); rintro e w2 ⟨rfl, hB2⟩; have h2 := below_tr h1 hB2; obtain ⟨q0, q1, q2⟩ := rc3 (kept_block h2 hE0.out); have z0 := (Array.getElem?_eq_some_iff.1 (kept_block h2 hE0.out)).1) | (go_at_call 25; (with_reducible refine Calls.mono (kM.out _ h2) ?_); rintro e w3 ⟨rfl, hB3⟩; have h3 := below_tr h2 hB3; obtain ⟨q0, q1, q2⟩ := rc3 (kept_block h3 hE0.out); have z0 := (Array.getElem?_eq_some_iff.1 (kept_block h3 hE0.out)).1) | (go_at_call 20; (with_reducible refine Calls.mono (kB.out _ h3) ?_); rintro e w4 ⟨rfl, hB4⟩; have h4 := below_tr h3 hB4; obtain ⟨q0, q1, q2⟩ := rc3 (kept_block h4 hE0.out); have z0 := (Array.getElem?_eq_some_iff.1 (kept_block h4 hE0.out)).1) | (go_at_call 18; (with_reducible refine Calls.mono (kK.out _) ?_); rintro e w9 ⟨rfl, hB9⟩))
        go_ret
        exact ⟨rfl, below_tr hBW.out (below_tr h4 hB9)⟩
end Go.Proofs.Ytddmfkhmhdddeaa
