/- Walks: which books and guesses are as defined (the program). -/
import Derived.Test.YtddmfkhmhdddeaaIdx
import Derived.Test.YtddmfkhmhdddeaaGen
set_option linter.unusedVariables false
set_option linter.unusedSimpArgs false
namespace Lk
theorem all_not {α : Type} (l : List α) (p : α → Bool) : (!l.any fun x => !p x) = l.all p := by
  induction l with
  | nil => rfl
  | cons x l ih => simp [← ih]
theorem any_not {α : Type} (l : List α) (p : α → Bool) : (l.any fun x => !p x) = !l.all p := by rw [← all_not]; simp
end Lk
namespace Go.Proofs.Ytddmfkhmhdddeaa
open Go.RowKit Go.Sd Lk

theorem progSpans1 (s : Sp) (m : Int) (w : World) (b : Nat) (c0 : w.cell? ⟨b, 0, none⟩ = some (.int .i64 m)) (hm : 0 ≤ m ∧ m ≤ 1000000000) :
    Calls Try.prog 101 #[spV s, .pointer (some ⟨b, 0, none⟩)] w fun e w' => e = .returned (.bool (!spB s m)) ∧ Below w.heap.size w w' := by
  have hb0 := World.block_lt_of_cell? w ⟨b, 0, none⟩ c0
  simp only at hb0
  have hBw : Below w.heap.size w (w.alloc (spO s)) := (Below.refl _ _).alloc (Nat.le_refl _) _
  go_enter Try.func101, Try.ntmps101
  go_wp2_with (go_at_call 86; refine (progSpan s m _ hm).mono ?_; rintro e w' ⟨rfl, hb⟩)
  go_ret
  exact ⟨rfl, hBw.trans (hb.mono hBw.size)⟩
theorem enter_spans1 : ∀ (args : Array Value) (w : World), (callFunc 101 args).run Try.prog w = .ok (.enter 101 args) w := fun _ _ => by kernel_rfl

theorem progSpans (v : Value) (l : List Sp) (m : Int) (w : World) (hv : SpsAt w v l) (hm : 0 ≤ m ∧ m ≤ 1000000000) :
    Calls Try.prog 83 #[v, .int .i64 m] w (BoolB (l.all (spB · m)) w) := by
  obtain ⟨W, hW⟩ : ∃ W, w.alloc (.cells #[.int .i64 m] 3) = W := ⟨_, rfl⟩
  obtain ⟨e0, b0, s0⟩ := boxed hW
  have q0 := rc1 e0
  have hc := Lib.hid (containsSps v l (fun s => !spB s m) 101 #[.pointer (some ⟨w.heap.size, 0, none⟩)] W (hv.mono b0) enter_spans1
    (fun d _ X hX => progSpans1 d m X w.heap.size (kept_cell hX q0) hm))
  obtain ⟨a, cap, rfl, -, -⟩ := hv
  clear e0 s0 q0
  go_enter Try.func83, Try.ntmps83
  go_wp2_with (go_at_call 100; refine Calls.mono hc.out ?_; rintro e w' ⟨t, rfl, ht, hb⟩)
  go_ret
  exact BoolB.mk (by rw [← all_not, ht.out]) (b0.trans (hb.mono b0.size))

set_option maxRecDepth 100000 in
set_option maxHeartbeats 4000000 in
theorem progChecked1 (fv wv rv : Value) (b : Bk) (r : Rd) (w : World) (n : Nat) (hb : BookAt w fv wv rv b) (c0 : w.cell? ⟨n, 0, none⟩ = some fv) (c1 : w.cell? ⟨n, 1, none⟩ = some wv) (c2 : w.cell? ⟨n, 2, none⟩ = some rv) :
    Calls Try.prog 85 #[rdV r, .pointer (some ⟨n, 0, none⟩)] w fun e w' => e = .returned (.bool (!b.rdB r)) ∧ Below w.heap.size w w' := by
  obtain ⟨fa, fc, rfl, hfm, -⟩ := hb.first.form
  obtain ⟨wa, wc, rfl, hwm, -⟩ := hb.flows.form
  obtain ⟨ra, rc, rfl, hrm, -⟩ := hb.reads.form
  clear hb
  obtain ⟨W, hW⟩ : ∃ W, w.alloc (rdO r) = W := ⟨_, rfl⟩
  obtain ⟨e0, b0, s0⟩ := boxed hW
  obtain ⟨q0, q1, q2, q3⟩ := rc4 e0
  replace c0 := kept_cell b0 c0
  replace c1 := kept_cell b0 c1
  replace c2 := kept_cell b0 c2
  have hn := World.block_lt_of_cell? W ⟨n, 0, none⟩ c0
  have hz : w.heap.size < W.heap.size := by omega
  simp only at hn
  have hg := grow_cell W
  have k1 := Lib.hid (fun w1 => (progDay (.slice fa b.first.length fc) (.slice ra b.reads.length rc) wa b.flows.length wc r.day w1 hwm))
  have k2 := Lib.hid (fun w1 => (progZone (.slice wa b.flows.length wc) (.slice ra b.reads.length rc) fa b.first.length fc r.zone w1 hfm))
  have k3 := Lib.hid (fun w1 => (progSpan r.v 1000000000 w1 (by omega)))
  obtain ⟨t, ht⟩ : ∃ t, b.rdB r = t := ⟨_, rfl⟩
  rw [ht]
  unfold Bk.rdB at ht
  clear e0 s0 hfm hwm hrm
  generalize inB r.day 0 (b.flows.length - 1) = t1 at *
  generalize inB r.zone 0 (b.first.length - 1) = t2 at *
  generalize spB r.v 1000000000 = t3 at *
  replace ht := Lib.hid ht
  cases t1
  · go_enter Try.func85, Try.ntmps85
    go_wp2_with (first | (go_at_call 71; with_reducible refine Calls.mono (k1.out _) ?_; rintro e w' ⟨rfl, hB⟩; obtain ⟨g, rfl⟩ : ∃ g : Grow W, w' = g.x := ⟨⟨w', hB⟩, rfl⟩))
    go_ret
    exact ⟨bool_ret (by rw [← ht.out]; simp), b0.trans (g.h.mono b0.size)⟩
  · cases t2
    · go_enter Try.func85, Try.ntmps85
      go_wp2_with (first | (go_at_call 71; with_reducible refine Calls.mono (k1.out _) ?_; rintro e w' ⟨rfl, hB⟩; obtain ⟨g, rfl⟩ : ∃ g : Grow W, w' = g.x := ⟨⟨w', hB⟩, rfl⟩) | (go_at_call 70; with_reducible refine Calls.mono (k2.out _) ?_; rintro e w' ⟨rfl, hB⟩; obtain ⟨g, rfl⟩ := g.next hB))
      go_ret
      exact ⟨bool_ret (by rw [← ht.out]; simp), b0.trans (g.h.mono b0.size)⟩
    · go_enter Try.func85, Try.ntmps85
      go_wp2_with (first | (go_at_call 71; with_reducible refine Calls.mono (k1.out _) ?_; rintro e w' ⟨rfl, hB⟩; obtain ⟨g, rfl⟩ : ∃ g : Grow W, w' = g.x := ⟨⟨w', hB⟩, rfl⟩) | (go_at_call 70; with_reducible refine Calls.mono (k2.out _) ?_; rintro e w' ⟨rfl, hB⟩; obtain ⟨g, rfl⟩ := g.next hB) | (go_at_call 86; with_reducible refine Calls.mono (k3.out _) ?_; rintro e w' ⟨rfl, hB⟩; obtain ⟨g, rfl⟩ := g.next hB))
      go_ret
      exact ⟨bool_ret (by rw [← ht.out]; simp), b0.trans (g.h.mono b0.size)⟩
theorem enter_checked1 : ∀ (args : Array Value) (w : World), (callFunc 85 args).run Try.prog w = .ok (.enter 85 args) w := fun _ _ => by kernel_rfl

theorem rwAt_eq {l : List (List Sp)} {j : Nat} (h : j < l.length) : rwAt l j = l[j] := by simp [rwAt, h]
theorem flows_all {b : Bk} (h : ∀ j, j < b.flows.length → b.flowB (rwAt b.flows j) = true) : b.flows.all b.flowB = true := by
  rw [List.all_eq_true]
  intro x hx
  obtain ⟨i, hi, rfl⟩ := List.getElem_of_mem hx
  have := h i hi
  rwa [rwAt_eq hi] at this
theorem flows_no {b : Bk} {j : Nat} (hj : j < b.flows.length) (h : b.flowB (rwAt b.flows j) = false) : b.flows.all b.flowB = false := by
  rw [List.all_eq_false]
  exact ⟨_, List.getElem_mem hj, by rw [← rwAt_eq hj, h]; simp⟩
theorem err_long {b : Bk} {f : Bool} (h : b.longB = true) : b.err f = 3 := by unfold Bk.err; rw [if_pos h]
theorem err_bad {b : Bk} {f : Bool} (h : b.longB = false) (h2 : (b.bookB && f) = false) : b.err f = 2 := by unfold Bk.err; rw [if_neg (by rw [h]; simp), if_neg (by rw [h2]; simp)]
theorem err_ok {b : Bk} {f : Bool} (h : b.longB = false) (h2 : (b.bookB && f) = true) : b.err f = 0 := by unfold Bk.err; rw [if_neg (by rw [h]; simp), if_pos h2]

set_option maxRecDepth 100000 in
set_option maxHeartbeats 8000000 in
theorem progChecked (fv wv rv : Value) (b : Bk) (w : World) (hb : BookAt w fv wv rv b) :
    Calls Try.prog 57 #[bkV fv wv rv] w fun e w' => e = .returned (.int .i64 (b.err true)) ∧ Below w.heap.size w w' := by
  have hbk := hb
  obtain ⟨fa, fc, rfl, hfm, -⟩ := hb.first.form
  obtain ⟨wa, wc, rfl, hwm, hwx⟩ := hb.flows.form
  obtain ⟨ra, rc, rfl, hrm, -⟩ := hb.reads.form
  clear hb
  obtain ⟨W, hW⟩ : ∃ W, w.alloc (bkO (.slice fa b.first.length fc) (.slice wa b.flows.length wc) (.slice ra b.reads.length rc)) = W := ⟨_, rfl⟩
  obtain ⟨e0, b0, s0⟩ := boxed hW
  obtain ⟨q0, q1, q2⟩ := rc3 e0
  have hz : w.heap.size < W.heap.size := by omega
  have hg := grow_cell W
  replace hbk := hbk.mono b0
  clear e0 s0
  by_cases h40 : (40 : Int) < (b.reads.length : Int)
  · have he := Lib.hid (err_long (b := b) (f := true) (by simp [Bk.longB]; omega))
    rw [he.out]
    go_enter Try.func57, Try.ntmps57
    go_wp2
    go_ret
    exact ⟨rfl, b0⟩
  by_cases h30 : (30 : Int) < (b.flows.length : Int)
  · have he := Lib.hid (err_long (b := b) (f := true) (by simp [Bk.longB]; omega))
    rw [he.out]
    go_enter Try.func57, Try.ntmps57
    go_wp2
    go_ret
    exact ⟨rfl, b0⟩
  have hlong : Hid (b.longB = false) := Lib.hid (by simp only [Bk.longB, Bool.or_eq_false_iff, decide_eq_false_iff_not]; omega)
  have hwx2 := Lib.hid hwx
  clear hwx
  obtain ⟨er, her⟩ : ∃ er, b.err true = er := ⟨_, rfl⟩
  rw [her]
  replace her := Lib.hid her
  have hF := Lib.hid (fun w1 (h : Below W.heap.size W w1) => progSpans _ b.first 1000000000 w1 (hbk.first.mono h) (by omega))
  have hR := Lib.hid (fun w1 (h : Below W.heap.size W w1) => containsRds _ b.reads (fun r => !b.rdB r) 85 #[.pointer (some ⟨w.heap.size, 0, none⟩)] w1 (hbk.reads.mono h) enter_checked1
    (fun d _ X hX => progChecked1 _ _ _ b d X w.heap.size (hbk.mono (below_tr h hX)) (kept_cell (below_tr h hX) q0) (kept_cell (below_tr h hX) q1) (kept_cell (below_tr h hX) q2)))
  go_enter Try.func57, Try.ntmps57
  go_wp2_with (fail)
  go_loopw [21] (fun i wr => ∃ k : Nat, k ≤ b.flows.length ∧ i = .int .i64 k ∧ Hid (∀ j, j < k → b.flowB (rwAt b.flows j) = true) ∧ ∃ g : Grow W, wr = g.x) (fun i _ => b.flows.length - (intOf i).toNat)
  case atStart => exact ⟨0, by omega, rfl, fun j hj => absurd hj (by omega), Grow.self W, rfl⟩
  case round =>
    obtain ⟨k, hk, rfl, hH, g, rfl⟩ := hrel
    by_cases hlt : k < b.flows.length
    · obtain ⟨n, off, rfl, hn, hx⟩ := hwx2.out (by omega)
      obtain ⟨ev, c0, hev⟩ := (hbk.flows.form).elim fun a2 h => h.elim fun c2 h => by
        obtain ⟨h1, -, h3⟩ := h
        cases h1
        obtain ⟨b2, o2, h4, -, h5⟩ := h3 (by omega)
        cases h4
        exact h5 k hlt
      change SpsAt W ev (rwAt b.flows k) at hev
      have hn' : n < W.heap.size := Nat.lt_of_lt_of_le hn b0.size
      obtain ⟨ea, ec, rfl, hem, -⟩ := hev.form
      have hS := Lib.hid (fun w1 (h : Below W.heap.size W w1) => progSpans _ (rwAt b.flows k) 100000000 w1 (hev.mono h) (by omega))
      have hki : (k : Int) < (b.flows.length : Int) := by omega
      clear hx hev
      obtain ⟨f, hf⟩ : ∃ f, b.flowB (rwAt b.flows k) = f := ⟨_, rfl⟩
      have hno : Hid (f = false → er = 2) := fun h => by
        rw [← her.out]
        exact err_bad hlong.out (by
          have := flows_no hlt (hf.trans h)
          simp [Bk.bookB, this])
      have hyes : Hid (f = true → ∀ j, j < k + 1 → b.flowB (rwAt b.flows j) = true) := fun h j hj => by
        rcases Nat.lt_succ_iff_lt_or_eq.1 hj with h1 | rfl
        · exact hH.out j h1
        · exact hf.trans h
      unfold Bk.flowB at hf
      replace hf := Lib.hid hf
      generalize rwAt b.flows k = row at *
      by_cases hlen : row.length = b.first.length
      · have hlen' : Hid (row.length = b.first.length) := hlen
        clear hlen
        rw [hlen'.out] at c0 hS
        have ha := hS
        clear hS
        go_wp2_with (go_at_call 83; refine Calls.mono (ha.out _ (Grow.h _)) ?_; rintro e w' ⟨(_ | _), rfl, ht, hB⟩ <;> (obtain ⟨g, rfl⟩ := g.next hB))
        · go_ret
          refine ⟨int_ret (hno.out ?_).symm, b0.trans (g.h.mono b0.size)⟩
          rw [← hf.out, ht.out]; simp
        · exact ⟨⟨k + 1, by omega, by go_num, hyes.out (by rw [← hf.out, ht.out, hlen'.out]; simp), g, rfl⟩, by simp [intOf]; omega⟩
      · have hlen' : ¬ (row.length : Int) = (b.first.length : Int) := by omega
        have hf0 : Hid (f = false) := Lib.hid (by rw [← hf.out]; simp [hlen])
        clear hlen
        go_wp2
        go_ret
        exact ⟨int_ret (hno.out hf0.out).symm, b0.trans (g.h.mono b0.size)⟩
    · obtain rfl : k = b.flows.length := by omega
      have hall := Lib.hid (flows_all hH.out)
      clear hH
      by_cases h1 : inB b.first.length 1 6 = true
      · by_cases h2 : (b.flows.length : Int) = 0
        · have hr : Hid (er = 2) := Lib.hid (by rw [← her.out]; exact err_bad hlong.out (by simp [Bk.bookB, show b.flows.length = 0 by omega]))
          replace h1 := Lib.hid h1
          go_wp2_with (go_at_call 63; refine (progIn _ _ _ _).mono ?_; rintro e w' ⟨rfl, rfl⟩; rw [h1.out])
          go_ret
          exact ⟨int_ret hr.out.symm, b0.trans (g.h.mono b0.size)⟩
        · have h2a : ¬ b.flows.length = 0 := by omega
          have h2b : decide (b.flows.length = 0) = false := by simpa using h2a
          have h2c : ((b.flows.length : Int) == 0) = false := by simpa using h2a
          have h2d : (b.flows.length == 0) = false := by simpa using h2a
          cases h3 : b.first.all (spB · 1000000000)
          · have hr : Hid (er = 2) := Lib.hid (by rw [← her.out]; exact err_bad hlong.out (by simp only [Bk.bookB, h3]; simp))
            replace h1 := Lib.hid h1
            replace h3 := Lib.hid h3
            go_wp2_with (first | (go_at_call 63; refine (progIn _ _ _ _).mono ?_; rintro e w' ⟨rfl, rfl⟩; rw [h1.out]) | (go_at_call 83; refine Calls.mono (hF.out _ (Grow.h _)) ?_; rintro e w' hq; obtain ⟨rfl, hB⟩ := hq.lit h3.out; obtain ⟨g2, rfl⟩ := g.next hB))
            go_ret
            exact ⟨int_ret hr.out.symm, b0.trans (g2.h.mono b0.size)⟩
          · cases h4 : b.reads.any (fun r => !b.rdB r)
            · have hr : Hid (er = 0) := Lib.hid (by rw [← her.out]; exact err_ok hlong.out (by
                rw [any_not] at h4
                simp at h4
                simp only [Bk.bookB, h3, hall.out, h1]
                simp; exact ⟨h4, by omega⟩))
              replace h1 := Lib.hid h1
              replace h3 := Lib.hid h3
              replace h4 := Lib.hid h4
              go_wp2_with (first | (go_at_call 63; refine (progIn _ _ _ _).mono ?_; rintro e w' ⟨rfl, rfl⟩; rw [h1.out]) | (go_at_call 83; refine Calls.mono (hF.out _ (Grow.h _)) ?_; rintro e w' hq; obtain ⟨rfl, hB⟩ := hq.lit h3.out; obtain ⟨g2, rfl⟩ := g.next hB) | (go_at_call 84; refine Calls.mono (hR.out _ (Grow.h _)) ?_; rintro e w' hq; obtain ⟨rfl, hB⟩ := hq.lit h4.out; obtain ⟨g3, rfl⟩ := g2.next hB))
              go_ret
              exact ⟨int_ret hr.out.symm, b0.trans (g3.h.mono b0.size)⟩
            · have hr : Hid (er = 2) := Lib.hid (by rw [← her.out]; exact err_bad hlong.out (by
                rw [any_not] at h4
                have h5 : b.reads.all b.rdB = false := by simpa using h4
                simp only [Bk.bookB, h5]; simp))
              replace h1 := Lib.hid h1
              replace h3 := Lib.hid h3
              replace h4 := Lib.hid h4
              go_wp2_with (first | (go_at_call 63; refine (progIn _ _ _ _).mono ?_; rintro e w' ⟨rfl, rfl⟩; rw [h1.out]) | (go_at_call 83; refine Calls.mono (hF.out _ (Grow.h _)) ?_; rintro e w' hq; obtain ⟨rfl, hB⟩ := hq.lit h3.out; obtain ⟨g2, rfl⟩ := g.next hB) | (go_at_call 84; refine Calls.mono (hR.out _ (Grow.h _)) ?_; rintro e w' hq; obtain ⟨rfl, hB⟩ := hq.lit h4.out; obtain ⟨g3, rfl⟩ := g2.next hB))
              go_ret
              exact ⟨int_ret hr.out.symm, b0.trans (g3.h.mono b0.size)⟩
      · have h1' : inB b.first.length 1 6 = false := by simpa using h1
        have hr : Hid (er = 2) := Lib.hid (by rw [← her.out]; exact err_bad hlong.out (by simp only [Bk.bookB, h1']; simp))
        replace h1 := Lib.hid h1'
        clear h1'
        go_wp2_with (go_at_call 63; refine (progIn _ _ _ _).mono ?_; rintro e w' ⟨rfl, rfl⟩; rw [h1.out])
        go_ret
        exact ⟨int_ret hr.out.symm, b0.trans (g.h.mono b0.size)⟩
end Go.Proofs.Ytddmfkhmhdddeaa
