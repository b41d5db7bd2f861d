/- Laws and walks: LChk, LGue, LMt. -/
import Derived.Test.YthbkcoijafehgaaGreatK02
import Derived.Test.YthbkcoijafehgaaGreatK20
set_option linter.unusedVariables false
set_option linter.unusedSimpArgs false
namespace Lk
theorem all_not {α : Type} (l : List α) (p : α → Bool) : (!l.any fun x => !p x) = l.all p := by
  induction l with
  | nil => rfl
  | cons x l ih => simp [← ih]
theorem any_not {α : Type} (l : List α) (p : α → Bool) : (l.any fun x => !p x) = !l.all p := by rw [← all_not]; simp
end Lk
namespace Go.Proofs.YthbkcoijafehgaaGreat.L
open Go.RowKit Go.Sd Lk
theorem progSpans1 (s : Sp) (m : Int) (w : World) (b : Nat) (c0 : w.cell? ⟨b, 0, none⟩ = some (.int .i64 m)) (hm : 0 ≤ m ∧ m ≤ 1000000000) :
    Calls Tryz.prog 99 #[spV s, .pointer (some ⟨b, 0, none⟩)] w fun e w' => e = .returned (.bool (!spB s m)) ∧ Below w.heap.size w w' := by
  have hb0 := World.block_lt_of_cell? w ⟨b, 0, none⟩ c0
  simp only at hb0
  have hBw : Below w.heap.size w (w.alloc (spO s)) := (Below.refl _ _).alloc (Nat.le_refl _) _
  go_enter Tryz.func99, Tryz.ntmps99
  go_wp2_with (go_at_call 77; refine (progSpan s m _ hm).mono ?_; rintro e w' ⟨rfl, hb⟩)
  go_ret
  exact ⟨rfl, hBw.trans (hb.mono hBw.size)⟩
theorem enter_spans1 : ∀ (args : Array Value) (w : World), (callFunc 99 args).run Tryz.prog w = .ok (.enter 99 args) w := fun _ _ => by kernel_rfl
theorem progSpans (v : Value) (l : List Sp) (m : Int) (w : World) (hv : SpsAt w v l) (hm : 0 ≤ m ∧ m ≤ 1000000000) :
    Calls Tryz.prog 72 #[v, .int .i64 m] w (BoolB (l.all (spB · m)) w) := by
  obtain ⟨W, hW⟩ : ∃ W, w.alloc (.cells #[.int .i64 m] 3) = W := ⟨_, rfl⟩
  obtain ⟨e0, b0, s0⟩ := boxed hW
  have q0 := rc1 e0
  have hc := Lib.hid (containsSps v l (fun s => !spB s m) 99 #[.pointer (some ⟨w.heap.size, 0, none⟩)] W (hv.mono b0) enter_spans1
    (fun d _ X hX => progSpans1 d m X w.heap.size (kept_cell hX q0) hm))
  obtain ⟨a, cap, rfl, -, -⟩ := hv
  clear e0 s0 q0
  go_enter Tryz.func72, Tryz.ntmps72
  go_wp2_with (go_at_call 98; refine Calls.mono hc.out ?_; rintro e w' ⟨t, rfl, ht, hb⟩)
  go_ret
  exact BoolB.mk (by rw [← all_not, ht.out]) (b0.trans (hb.mono b0.size))
set_option maxRecDepth 100000 in
set_option maxHeartbeats 4000000 in
theorem progChecked1 (fv wv rv : Value) (b : Bk) (r : Rd) (w : World) (n : Nat) (hb : BookAt w fv wv rv b) (c0 : w.cell? ⟨n, 0, none⟩ = some fv) (c1 : w.cell? ⟨n, 1, none⟩ = some wv) (c2 : w.cell? ⟨n, 2, none⟩ = some rv) :
    Calls Tryz.prog 74 #[rdV r, .pointer (some ⟨n, 0, none⟩)] w fun e w' => e = .returned (.bool (!b.rdB r)) ∧ Below w.heap.size w w' := by
  obtain ⟨fa, fc, rfl, hfm, -⟩ := hb.first.form
  obtain ⟨wa, wc, rfl, hwm, -⟩ := hb.flows.form
  obtain ⟨ra, rc, rfl, hrm, -⟩ := hb.reads.form
  clear hb
  obtain ⟨W, hW⟩ : ∃ W, w.alloc (rdO r) = W := ⟨_, rfl⟩
  obtain ⟨e0, b0, s0⟩ := boxed hW
  obtain ⟨q0, q1, q2, q3⟩ := rc4 e0
  replace c0 := kept_cell b0 c0
  replace c1 := kept_cell b0 c1
  replace c2 := kept_cell b0 c2
  have hn := World.block_lt_of_cell? W ⟨n, 0, none⟩ c0
  have hz : w.heap.size < W.heap.size := by omega
  simp only at hn
  have hg := grow_cell W
  have k1 := Lib.hid (fun w1 => (progDay (.slice fa b.first.length fc) (.slice ra b.reads.length rc) wa b.flows.length wc r.day w1 hwm))
  have k2 := Lib.hid (fun w1 => (progZone (.slice wa b.flows.length wc) (.slice ra b.reads.length rc) fa b.first.length fc r.zone w1 hfm))
  have k3 := Lib.hid (fun w1 => (progSpan r.v 1000000000 w1 (by omega)))
  obtain ⟨t, ht⟩ : ∃ t, b.rdB r = t := ⟨_, rfl⟩
  rw [ht]
  unfold Bk.rdB at ht
  clear e0 s0 hfm hwm hrm
  generalize inB r.day 0 (b.flows.length - 1) = t1 at *
  generalize inB r.zone 0 (b.first.length - 1) = t2 at *
  generalize spB r.v 1000000000 = t3 at *
  replace ht := Lib.hid ht
  cases t1
  · go_enter Tryz.func74, Tryz.ntmps74
    go_wp2_with (first | (go_at_call 75; with_reducible refine Calls.mono (k1.out _) ?_; rintro e w' ⟨rfl, hB⟩; obtain ⟨g, rfl⟩ : ∃ g : Grow W, w' = g.x := ⟨⟨w', hB⟩, rfl⟩))
    go_ret
    exact ⟨bool_ret (by rw [← ht.out]; simp), b0.trans (g.h.mono b0.size)⟩
  · cases t2
    · go_enter Tryz.func74, Tryz.ntmps74
      go_wp2_with (first | (go_at_call 75; with_reducible refine Calls.mono (k1.out _) ?_; rintro e w' ⟨rfl, hB⟩; obtain ⟨g, rfl⟩ : ∃ g : Grow W, w' = g.x := ⟨⟨w', hB⟩, rfl⟩) | (go_at_call 76; with_reducible refine Calls.mono (k2.out _) ?_; rintro e w' ⟨rfl, hB⟩; obtain ⟨g, rfl⟩ := g.next hB))
      go_ret
      exact ⟨bool_ret (by rw [← ht.out]; simp), b0.trans (g.h.mono b0.size)⟩
    · go_enter Tryz.func74, Tryz.ntmps74
      go_wp2_with (first | (go_at_call 75; with_reducible refine Calls.mono (k1.out _) ?_; rintro e w' ⟨rfl, hB⟩; obtain ⟨g, rfl⟩ : ∃ g : Grow W, w' = g.x := ⟨⟨w', hB⟩, rfl⟩) | (go_at_call 76; with_reducible refine Calls.mono (k2.out _) ?_; rintro e w' ⟨rfl, hB⟩; obtain ⟨g, rfl⟩ := g.next hB) | (go_at_call 77; with_reducible refine Calls.mono (k3.out _) ?_; rintro e w' ⟨rfl, hB⟩; obtain ⟨g, rfl⟩ := g.next hB))
      go_ret
      exact ⟨bool_ret (by rw [← ht.out]; simp), b0.trans (g.h.mono b0.size)⟩
theorem enter_checked1 : ∀ (args : Array Value) (w : World), (callFunc 74 args).run Tryz.prog w = .ok (.enter 74 args) w := fun _ _ => by kernel_rfl
theorem rwAt_eq {l : List (List Sp)} {j : Nat} (h : j < l.length) : rwAt l j = l[j] := by simp [rwAt, h]
theorem flows_all {b : Bk} (h : ∀ j, j < b.flows.length → b.flowB (rwAt b.flows j) = true) : b.flows.all b.flowB = true := by
  rw [List.all_eq_true]
  intro x hx
  obtain ⟨i, hi, rfl⟩ := List.getElem_of_mem hx
  have := h i hi
  rwa [rwAt_eq hi] at this
theorem flows_no {b : Bk} {j : Nat} (hj : j < b.flows.length) (h : b.flowB (rwAt b.flows j) = false) : b.flows.all b.flowB = false := by
  rw [List.all_eq_false]
  exact ⟨_, List.getElem_mem hj, by rw [← rwAt_eq hj, h]; simp⟩
theorem err_long {b : Bk} {f : Bool} (h : b.longB = true) : b.err f = 3 := by unfold Bk.err; rw [if_pos h]
theorem err_bad {b : Bk} {f : Bool} (h : b.longB = false) (h2 : (b.bookB && f) = false) : b.err f = 2 := by unfold Bk.err; rw [if_neg (by rw [h]; simp), if_neg (by rw [h2]; simp)]
theorem err_ok {b : Bk} {f : Bool} (h : b.longB = false) (h2 : (b.bookB && f) = true) : b.err f = 0 := by unfold Bk.err; rw [if_neg (by rw [h]; simp), if_pos h2]
set_option maxRecDepth 100000 in
set_option maxHeartbeats 8000000 in
theorem progChecked (fv wv rv : Value) (b : Bk) (w : World) (hb : BookAt w fv wv rv b) :
    Calls Tryz.prog 55 #[bkV fv wv rv] w fun e w' => e = .returned (.int .i64 (b.err true)) ∧ Below w.heap.size w w' := by
  have hbk := hb
  obtain ⟨fa, fc, rfl, hfm, -⟩ := hb.first.form
  obtain ⟨wa, wc, rfl, hwm, hwx⟩ := hb.flows.form
  obtain ⟨ra, rc, rfl, hrm, -⟩ := hb.reads.form
  clear hb
  obtain ⟨W, hW⟩ : ∃ W, w.alloc (bkO (.slice fa b.first.length fc) (.slice wa b.flows.length wc) (.slice ra b.reads.length rc)) = W := ⟨_, rfl⟩
  obtain ⟨e0, b0, s0⟩ := boxed hW
  obtain ⟨q0, q1, q2⟩ := rc3 e0
  have hz : w.heap.size < W.heap.size := by omega
  have hg := grow_cell W
  replace hbk := hbk.mono b0
  clear e0 s0
  by_cases h40 : (40 : Int) < (b.reads.length : Int)
  · have he := Lib.hid (err_long (b := b) (f := true) (by simp [Bk.longB]; omega))
    rw [he.out]
    go_enter Tryz.func55, Tryz.ntmps55
    go_wp2
    go_ret
    exact ⟨rfl, b0⟩
  by_cases h30 : (30 : Int) < (b.flows.length : Int)
  · have he := Lib.hid (err_long (b := b) (f := true) (by simp [Bk.longB]; omega))
    rw [he.out]
    go_enter Tryz.func55, Tryz.ntmps55
    go_wp2
    go_ret
    exact ⟨rfl, b0⟩
  have hlong : Hid (b.longB = false) := Lib.hid (by simp only [Bk.longB, Bool.or_eq_false_iff, decide_eq_false_iff_not]; omega)
  have hwx2 := Lib.hid hwx
  clear hwx
  obtain ⟨er, her⟩ : ∃ er, b.err true = er := ⟨_, rfl⟩
  rw [her]
  replace her := Lib.hid her
  have hF := Lib.hid (fun w1 (h : Below W.heap.size W w1) => progSpans _ b.first 1000000000 w1 (hbk.first.mono h) (by omega))
  have hR := Lib.hid (fun w1 (h : Below W.heap.size W w1) => containsRds _ b.reads (fun r => !b.rdB r) 74 #[.pointer (some ⟨w.heap.size, 0, none⟩)] w1 (hbk.reads.mono h) enter_checked1
    (fun d _ X hX => progChecked1 _ _ _ b d X w.heap.size (hbk.mono (below_tr h hX)) (kept_cell (below_tr h hX) q0) (kept_cell (below_tr h hX) q1) (kept_cell (below_tr h hX) q2)))
  go_enter Tryz.func55, Tryz.ntmps55
  go_wp2_with (fail)
  go_loopw [21] (fun i wr => ∃ k : Nat, k ≤ b.flows.length ∧ i = .int .i64 k ∧ Hid (∀ j, j < k → b.flowB (rwAt b.flows j) = true) ∧ ∃ g : Grow W, wr = g.x) (fun i _ => b.flows.length - (intOf i).toNat)
  case atStart => exact ⟨0, by omega, rfl, fun j hj => absurd hj (by omega), Grow.self W, rfl⟩
  case round =>
    obtain ⟨k, hk, rfl, hH, g, rfl⟩ := hrel
    by_cases hlt : k < b.flows.length
    · obtain ⟨n, off, rfl, hn, hx⟩ := hwx2.out (by omega)
      obtain ⟨ev, c0, hev⟩ := (hbk.flows.form).elim fun a2 h => h.elim fun c2 h => by
        obtain ⟨h1, -, h3⟩ := h
        cases h1
        obtain ⟨b2, o2, h4, -, h5⟩ := h3 (by omega)
        cases h4
        exact h5 k hlt
      change SpsAt W ev (rwAt b.flows k) at hev
      have hn' : n < W.heap.size := Nat.lt_of_lt_of_le hn b0.size
      obtain ⟨ea, ec, rfl, hem, -⟩ := hev.form
      have hS := Lib.hid (fun w1 (h : Below W.heap.size W w1) => progSpans _ (rwAt b.flows k) 100000000 w1 (hev.mono h) (by omega))
      have hki : (k : Int) < (b.flows.length : Int) := by omega
      clear hx hev
      obtain ⟨f, hf⟩ : ∃ f, b.flowB (rwAt b.flows k) = f := ⟨_, rfl⟩
      have hno : Hid (f = false → er = 2) := fun h => by
        rw [← her.out]
        exact err_bad hlong.out (by
          have := flows_no hlt (hf.trans h)
          simp [Bk.bookB, this])
      have hyes : Hid (f = true → ∀ j, j < k + 1 → b.flowB (rwAt b.flows j) = true) := fun h j hj => by
        rcases Nat.lt_succ_iff_lt_or_eq.1 hj with h1 | rfl
        · exact hH.out j h1
        · exact hf.trans h
      unfold Bk.flowB at hf
      replace hf := Lib.hid hf
      generalize rwAt b.flows k = row at *
      by_cases hlen : row.length = b.first.length
      · have hlen' : Hid (row.length = b.first.length) := hlen
        clear hlen
        rw [hlen'.out] at c0 hS
        have ha := hS
        clear hS
        go_wp2_with (go_at_call 72; refine Calls.mono (ha.out _ (Grow.h _)) ?_; rintro e w' ⟨(_ | _), rfl, ht, hB⟩ <;> (obtain ⟨g, rfl⟩ := g.next hB))
        · go_ret
          refine ⟨int_ret (hno.out ?_).symm, b0.trans (g.h.mono b0.size)⟩
          rw [← hf.out, ht.out]; simp
        · exact ⟨⟨k + 1, by omega, by go_num, hyes.out (by rw [← hf.out, ht.out, hlen'.out]; simp), g, rfl⟩, by simp [intOf]; omega⟩
      · have hlen' : ¬ (row.length : Int) = (b.first.length : Int) := by omega
        have hf0 : Hid (f = false) := Lib.hid (by rw [← hf.out]; simp [hlen])
        clear hlen
        go_wp2
        go_ret
        exact ⟨int_ret (hno.out hf0.out).symm, b0.trans (g.h.mono b0.size)⟩
    · obtain rfl : k = b.flows.length := by omega
      have hall := Lib.hid (flows_all hH.out)
      clear hH
      by_cases h1 : inB b.first.length 1 6 = true
      · by_cases h2 : (b.flows.length : Int) = 0
        · have hr : Hid (er = 2) := Lib.hid (by rw [← her.out]; exact err_bad hlong.out (by simp [Bk.bookB, show b.flows.length = 0 by omega]))
          replace h1 := Lib.hid h1
          go_wp2_with (go_at_call 48; refine (progIn _ _ _ _).mono ?_; rintro e w' ⟨rfl, rfl⟩; rw [h1.out])
          go_ret
          exact ⟨int_ret hr.out.symm, b0.trans (g.h.mono b0.size)⟩
        · have h2a : ¬ b.flows.length = 0 := by omega
          have h2b : decide (b.flows.length = 0) = false := by simpa using h2a
          have h2c : ((b.flows.length : Int) == 0) = false := by simpa using h2a
          have h2d : (b.flows.length == 0) = false := by simpa using h2a
          cases h3 : b.first.all (spB · 1000000000)
          · have hr : Hid (er = 2) := Lib.hid (by rw [← her.out]; exact err_bad hlong.out (by simp only [Bk.bookB, h3]; simp))
            replace h1 := Lib.hid h1
            replace h3 := Lib.hid h3
            go_wp2_with (first | (go_at_call 48; refine (progIn _ _ _ _).mono ?_; rintro e w' ⟨rfl, rfl⟩; rw [h1.out]) | (go_at_call 72; refine Calls.mono (hF.out _ (Grow.h _)) ?_; rintro e w' hq; obtain ⟨rfl, hB⟩ := hq.lit h3.out; obtain ⟨g2, rfl⟩ := g.next hB))
            go_ret
            exact ⟨int_ret hr.out.symm, b0.trans (g2.h.mono b0.size)⟩
          · cases h4 : b.reads.any (fun r => !b.rdB r)
            · have hr : Hid (er = 0) := Lib.hid (by rw [← her.out]; exact err_ok hlong.out (by
                rw [any_not] at h4
                simp at h4
                simp only [Bk.bookB, h3, hall.out, h1]
                simp; exact ⟨h4, by omega⟩))
              replace h1 := Lib.hid h1
              replace h3 := Lib.hid h3
              replace h4 := Lib.hid h4
              go_wp2_with (first | (go_at_call 48; refine (progIn _ _ _ _).mono ?_; rintro e w' ⟨rfl, rfl⟩; rw [h1.out]) | (go_at_call 72; refine Calls.mono (hF.out _ (Grow.h _)) ?_; rintro e w' hq; obtain ⟨rfl, hB⟩ := hq.lit h3.out; obtain ⟨g2, rfl⟩ := g.next hB) | (go_at_call 73; refine Calls.mono (hR.out _ (Grow.h _)) ?_; rintro e w' hq; obtain ⟨rfl, hB⟩ := hq.lit h4.out; obtain ⟨g3, rfl⟩ := g2.next hB))
              go_ret
              exact ⟨int_ret hr.out.symm, b0.trans (g3.h.mono b0.size)⟩
            · have hr : Hid (er = 2) := Lib.hid (by rw [← her.out]; exact err_bad hlong.out (by
                rw [any_not] at h4
                have h5 : b.reads.all b.rdB = false := by simpa using h4
                simp only [Bk.bookB, h5]; simp))
              replace h1 := Lib.hid h1
              replace h3 := Lib.hid h3
              replace h4 := Lib.hid h4
              go_wp2_with (first | (go_at_call 48; refine (progIn _ _ _ _).mono ?_; rintro e w' ⟨rfl, rfl⟩; rw [h1.out]) | (go_at_call 72; refine Calls.mono (hF.out _ (Grow.h _)) ?_; rintro e w' hq; obtain ⟨rfl, hB⟩ := hq.lit h3.out; obtain ⟨g2, rfl⟩ := g.next hB) | (go_at_call 73; refine Calls.mono (hR.out _ (Grow.h _)) ?_; rintro e w' hq; obtain ⟨rfl, hB⟩ := hq.lit h4.out; obtain ⟨g3, rfl⟩ := g2.next hB))
              go_ret
              exact ⟨int_ret hr.out.symm, b0.trans (g3.h.mono b0.size)⟩
      · have h1' : inB b.first.length 1 6 = false := by simpa using h1
        have hr : Hid (er = 2) := Lib.hid (by rw [← her.out]; exact err_bad hlong.out (by simp only [Bk.bookB, h1']; simp))
        replace h1 := Lib.hid h1'
        clear h1'
        go_wp2_with (go_at_call 48; refine (progIn _ _ _ _).mono ?_; rintro e w' ⟨rfl, rfl⟩; rw [h1.out])
        go_ret
        exact ⟨int_ret hr.out.symm, b0.trans (g.h.mono b0.size)⟩
end Go.Proofs.YthbkcoijafehgaaGreat.L
set_option linter.unusedVariables false
set_option linter.unusedSimpArgs false
namespace Lk
theorem gsB_none {b : Bk} {g : Gs} (h : g = noGs) : b.gsB g = true := by simp [Bk.gsB, h]
theorem gsB_of {b : Bk} {g : Gs} {t1 t2 t3 : Bool} (h : g ≠ noGs) (h1 : inB g.zone 0 (b.first.length - 1) = t1) (h2 : inB g.size 1 10000000 = t2) (h3 : inB g.since 0 (b.flows.length - 1) = t3) : b.gsB g = (t1 && t2 && t3) := by
  simp [Bk.gsB, h, h1, h2, h3]
theorem zone_none {n : Int} : inB (-1) 0 n = false := by simp [inB]
theorem gs_ext {g : Gs} {m : Int} (hm : -1 = m) (h1 : g.zone = m) (h2 : g.size = 0) (h3 : g.since = 0) : g = noGs := by subst hm; cases g; simp only at h1 h2 h3; subst h1; subst h2; subst h3; rfl
end Lk
namespace Go.Proofs.YthbkcoijafehgaaGreat.L
open Go.RowKit Go.Sd Lk
set_option maxRecDepth 100000 in
set_option maxHeartbeats 8000000 in
theorem progGuess (fv wv rv : Value) (b : Bk) (x : Gs) (w : World) (hb : BookAt w fv wv rv b) :
    Calls Tryz.prog 58 #[bkV fv wv rv, gsV x] w (BoolB (b.gsB x) w) := by
  obtain ⟨z, s, d⟩ := x
  obtain ⟨fa, fc, rfl, hfm, -⟩ := hb.first.form
  obtain ⟨wa, wc, rfl, hwm, -⟩ := hb.flows.form
  obtain ⟨ra, rc, rfl, hrm, -⟩ := hb.reads.form
  clear hb
  obtain ⟨W1, hW1⟩ : ∃ W, w.alloc (bkO (.slice fa b.first.length fc) (.slice wa b.flows.length wc) (.slice ra b.reads.length rc)) = W := ⟨_, rfl⟩
  obtain ⟨e0, b0, s0⟩ := boxed hW1
  obtain ⟨W, hW⟩ : ∃ W, W1.alloc (gsO ⟨z, s, d⟩) = W := ⟨_, rfl⟩
  obtain ⟨e1, b1, s1⟩ := boxed hW
  replace e0 := kept_block b1 e0
  obtain ⟨q0, q1, q2⟩ := rc3 e0
  obtain ⟨p0, p1, p2⟩ := rc3 e1
  have hz0 : w.heap.size < W.heap.size := by omega
  have hz1 : W1.heap.size < W.heap.size := by omega
  have hB0 : Below w.heap.size w W := below_tr b0 b1
  have hgc := grow_cell W
  clear e0 s0 e1 s1 b0 b1
  have k1 := Lib.hid (fun w1 => (progDay (.slice fa b.first.length fc) (.slice ra b.reads.length rc) wa b.flows.length wc d w1 hwm))
  have k2 := Lib.hid (fun w1 => (progZone (.slice wa b.flows.length wc) (.slice ra b.reads.length rc) fa b.first.length fc z w1 hfm))
  have k3 := Lib.hid (fun w1 => (progIn s 1 10000000 w1))
  have k0 : Hid (∀ w, Calls Tryz.prog 79 #[] w fun e w' => e = .returned (.agg #[.int .i64 (-1), .int .i64 0, .int .i64 0]) ∧ Below w.heap.size w w') := Lib.hid progNothing
  obtain ⟨m1, hm1⟩ : ∃ m, (-1 : Int) = m := ⟨_, rfl⟩
  rw [hm1] at k0
  obtain ⟨t1, h1⟩ : ∃ t, inB z 0 (b.first.length - 1) = t := ⟨_, rfl⟩
  obtain ⟨t2, h2⟩ : ∃ t, inB s 1 10000000 = t := ⟨_, rfl⟩
  obtain ⟨t3, h3⟩ : ∃ t, inB d 0 (b.flows.length - 1) = t := ⟨_, rfl⟩
  rw [h1] at k2
  rw [h2] at k3
  rw [h3] at k1
  by_cases hz : z = m1
  · have h1f : t1 = false := by rw [← h1, hz, ← hm1]; exact zone_none
    subst h1f
    by_cases hs : s = 0
    · by_cases hd : d = 0
      · have hr := Lib.hid (gsB_none (b := b) (g := ⟨z, s, d⟩) (gs_ext hm1 hz hs hd))
        clear h1 h2 h3
        subst hs hd hz
        replace hm1 := Lib.hid hm1
        skip
        go_enter Tryz.func58, Tryz.ntmps58
        go_wp2
        refine wp_region_grow (by kernel_rfl) (by kernel_rfl) ?_
        repeat (go_big_quiet_step ((first | (go_at_call 79; with_reducible exact Calls.grow (k0.out _)) | (go_at_call 76; with_reducible exact Calls.grow (k2.out _)))))
        refine wpQuiet_nil ?_
        rintro _ ⟨g, rfl⟩
        go_wp2
        go_ret
        exact BoolB.mk (hr.out) (hB0.trans (g.h.mono hB0.size))
      · have hr := Lib.hid (gsB_of (g := ⟨z, s, d⟩) (fun h => hd (congrArg Gs.since h)) h1 h2 h3)
        clear h1 h2 h3
        subst hs hz
        replace hm1 := Lib.hid hm1
        skip
        go_enter Tryz.func58, Tryz.ntmps58
        go_wp2
        refine wp_region_grow (by kernel_rfl) (by kernel_rfl) ?_
        repeat (go_big_quiet_step ((first | (go_at_call 79; with_reducible exact Calls.grow (k0.out _)) | (go_at_call 76; with_reducible exact Calls.grow (k2.out _)))))
        refine wpQuiet_nil ?_
        rintro _ ⟨g, rfl⟩
        go_wp2
        go_ret
        exact BoolB.mk (by rw [hr.out]; simp) (hB0.trans (g.h.mono hB0.size))
    · have hr := Lib.hid (gsB_of (g := ⟨z, s, d⟩) (fun h => hs (congrArg Gs.size h)) h1 h2 h3)
      clear h1 h2 h3
      subst hz
      replace hm1 := Lib.hid hm1
      skip
      go_enter Tryz.func58, Tryz.ntmps58
      go_wp2
      refine wp_region_grow (by kernel_rfl) (by kernel_rfl) ?_
      repeat (go_big_quiet_step ((first | (go_at_call 79; with_reducible exact Calls.grow (k0.out _)) | (go_at_call 76; with_reducible exact Calls.grow (k2.out _)))))
      refine wpQuiet_nil ?_
      rintro _ ⟨g, rfl⟩
      go_wp2
      go_ret
      exact BoolB.mk (by rw [hr.out]; simp) (hB0.trans (g.h.mono hB0.size))
  · have hr := Lib.hid (gsB_of (g := ⟨z, s, d⟩) (fun h => hz ((congrArg Gs.zone h).trans hm1)) h1 h2 h3)
    clear h1 h2 h3
    replace hm1 := Lib.hid hm1
    cases t1
    · skip
      go_enter Tryz.func58, Tryz.ntmps58
      go_wp2
      refine wp_region_grow (by kernel_rfl) (by kernel_rfl) ?_
      repeat (go_big_quiet_step ((first | (go_at_call 79; with_reducible exact Calls.grow (k0.out _)) | (go_at_call 76; with_reducible exact Calls.grow (k2.out _)))))
      refine wpQuiet_nil ?_
      rintro _ ⟨g, rfl⟩
      go_wp2
      go_ret
      exact BoolB.mk (by rw [hr.out]; simp) (hB0.trans (g.h.mono hB0.size))
    · cases t2
      · skip
        go_enter Tryz.func58, Tryz.ntmps58
        go_wp2
        refine wp_region_grow (by kernel_rfl) (by kernel_rfl) ?_
        repeat (go_big_quiet_step ((first | (go_at_call 79; with_reducible exact Calls.grow (k0.out _)) | (go_at_call 76; with_reducible exact Calls.grow (k2.out _)) | (go_at_call 48; with_reducible exact Calls.grow_same (k3.out _)) | (go_at_call 75; with_reducible exact Calls.grow (k1.out _)))))
        refine wpQuiet_nil ?_
        rintro _ ⟨g, rfl⟩
        go_wp2
        go_ret
        exact BoolB.mk (by rw [hr.out]; simp) (hB0.trans (g.h.mono hB0.size))
      · skip
        go_enter Tryz.func58, Tryz.ntmps58
        go_wp2
        refine wp_region_grow (by kernel_rfl) (by kernel_rfl) ?_
        repeat (go_big_quiet_step ((first | (go_at_call 79; with_reducible exact Calls.grow (k0.out _)) | (go_at_call 76; with_reducible exact Calls.grow (k2.out _)) | (go_at_call 48; with_reducible exact Calls.grow_same (k3.out _)) | (go_at_call 75; with_reducible exact Calls.grow (k1.out _)))))
        refine wpQuiet_nil ?_
        rintro _ ⟨g, rfl⟩
        go_wp2
        go_ret
        exact BoolB.mk (by rw [hr.out]; simp) (hB0.trans (g.h.mono hB0.size))
theorem progAsked1 (fv wv rv : Value) (b : Bk) (x : Gs) (w : World) (n : Nat) (hb : BookAt w fv wv rv b) (c0 : w.cell? ⟨n, 0, none⟩ = some fv) (c1 : w.cell? ⟨n, 1, none⟩ = some wv) (c2 : w.cell? ⟨n, 2, none⟩ = some rv) :
    Calls Tryz.prog 57 #[gsV x, .pointer (some ⟨n, 0, none⟩)] w fun e w' => e = .returned (.bool (!b.gsB x)) ∧ Below w.heap.size w w' := by
  obtain ⟨W, hW⟩ : ∃ W, w.alloc (gsO x) = W := ⟨_, rfl⟩
  obtain ⟨e0, b0, s0⟩ := boxed hW
  obtain ⟨q0, q1, q2⟩ := rc3 e0
  replace c0 := kept_cell b0 c0
  replace c1 := kept_cell b0 c1
  replace c2 := kept_cell b0 c2
  have hc := Lib.hid (progGuess fv wv rv b x W (hb.mono b0))
  obtain ⟨fa, fc, rfl, hfm, -⟩ := hb.first.form
  obtain ⟨wa, wc, rfl, hwm, -⟩ := hb.flows.form
  obtain ⟨ra, rc, rfl, hrm, -⟩ := hb.reads.form
  clear hb e0 s0
  go_enter Tryz.func57, Tryz.ntmps57
  go_wp2_with (go_at_call 58; refine Calls.mono hc.out ?_; rintro e w' ⟨t, rfl, ht, hb⟩)
  go_ret
  exact ⟨bool_ret (by rw [ht.out]), below_tr b0 hb⟩
theorem enter_asked1 : ∀ (args : Array Value) (w : World), (callFunc 57 args).run Tryz.prog w = .ok (.enter 57 args) w := fun _ _ => by kernel_rfl
set_option maxHeartbeats 4000000 in
theorem progAsked (fv wv rv lv : Value) (b : Bk) (l : List Gs) (w : World) (hb : BookAt w fv wv rv b) (hl : GssAt w lv l) :
    Calls Tryz.prog 36 #[bkV fv wv rv, lv] w fun e w' => e = .returned (.int .i64 (b.err (l.all b.gsB))) ∧ Below w.heap.size w w' := by
  obtain ⟨W, hW⟩ : ∃ W, w.alloc (bkO fv wv rv) = W := ⟨_, rfl⟩
  obtain ⟨e0, b0, s0⟩ := boxed hW
  obtain ⟨q0, q1, q2⟩ := rc3 e0
  have hz : w.heap.size < W.heap.size := by omega
  have hg := grow_cell W
  have k1 := Lib.hid (progChecked fv wv rv b W (hb.mono b0))
  have k2 := Lib.hid (fun w1 (h : Below W.heap.size W w1) => containsGss lv l (fun x => !b.gsB x) 57 #[.pointer (some ⟨w.heap.size, 0, none⟩)] w1 (hl.mono (below_tr b0 h)) enter_asked1
    (fun d _ X hX => progAsked1 fv wv rv b d X w.heap.size (hb.mono (below_tr b0 (below_tr h hX))) (kept_cell (below_tr h hX) q0) (kept_cell (below_tr h hX) q1) (kept_cell (below_tr h hX) q2)))
  obtain ⟨fa, fc, rfl, hfm, -⟩ := hb.first.form
  obtain ⟨wa, wc, rfl, hwm, -⟩ := hb.flows.form
  obtain ⟨ra, rc, rfl, hrm, -⟩ := hb.reads.form
  obtain ⟨la, lc, rfl, hlm, -⟩ := hl.form
  clear hb e0 s0 hl
  cases hL : b.longB
  · cases hB : b.bookB
    · have h1 : Hid (b.err true = 2) := Lib.hid (err_bad hL (by simp [hB]))
      have h2 : Hid (b.err (l.all b.gsB) = 2) := Lib.hid (err_bad hL (by simp [hB]))
      rw [h1.out] at k1
      go_enter Tryz.func36, Tryz.ntmps36
      go_wp2_with (go_at_call 55; refine Calls.mono k1.out ?_; rintro e w' ⟨rfl, hb⟩)
      go_ret
      exact ⟨int_ret h2.out.symm, below_tr b0 hb⟩
    · have h1 : Hid (b.err true = 0) := Lib.hid (err_ok hL (by simp [hB]))
      rw [h1.out] at k1
      cases hA : (l.any fun x => !b.gsB x)
      · have h2 : Hid (b.err (l.all b.gsB) = 0) := Lib.hid (err_ok hL (by
          rw [any_not] at hA
          simp at hA
          simp [hB]; exact hA))
        replace hA := Lib.hid hA
        go_enter Tryz.func36, Tryz.ntmps36
        go_wp2_with (first | (go_at_call 55; refine Calls.mono k1.out ?_; rintro e w' ⟨rfl, hb⟩; obtain ⟨g, rfl⟩ : ∃ g : Grow W, w' = g.x := ⟨⟨w', hb⟩, rfl⟩) | (go_at_call 56; refine Calls.mono (k2.out _ (Grow.h _)) ?_; rintro e w' hq; obtain ⟨rfl, hB2⟩ := hq.lit hA.out; obtain ⟨g2, rfl⟩ := g.next hB2))
        go_ret
        exact ⟨int_ret h2.out.symm, b0.trans (g2.h.mono b0.size)⟩
      · have h2 : Hid (b.err (l.all b.gsB) = 2) := Lib.hid (err_bad hL (by
          rw [any_not] at hA
          have : l.all b.gsB = false := by simpa using hA
          rw [this]; simp))
        replace hA := Lib.hid hA
        go_enter Tryz.func36, Tryz.ntmps36
        go_wp2_with (first | (go_at_call 55; refine Calls.mono k1.out ?_; rintro e w' ⟨rfl, hb⟩; obtain ⟨g, rfl⟩ : ∃ g : Grow W, w' = g.x := ⟨⟨w', hb⟩, rfl⟩) | (go_at_call 56; refine Calls.mono (k2.out _ (Grow.h _)) ?_; rintro e w' hq; obtain ⟨rfl, hB2⟩ := hq.lit hA.out; obtain ⟨g2, rfl⟩ := g.next hB2))
        go_ret
        exact ⟨int_ret h2.out.symm, b0.trans (g2.h.mono b0.size)⟩
  · have h1 : Hid (b.err true = 3) := Lib.hid (err_long hL)
    have h2 : Hid (b.err (l.all b.gsB) = 3) := Lib.hid (err_long hL)
    rw [h1.out] at k1
    go_enter Tryz.func36, Tryz.ntmps36
    go_wp2_with (go_at_call 55; refine Calls.mono k1.out ?_; rintro e w' ⟨rfl, hb⟩)
    go_ret
    exact ⟨int_ret h2.out.symm, below_tr b0 hb⟩
end Go.Proofs.YthbkcoijafehgaaGreat.L
set_option linter.unusedVariables false
set_option linter.unusedSimpArgs false
namespace Lk
theorem meets_take {s : Sp} {l : List Sp} {k : Nat} (h : k < l.length) : meets s (l.take (k + 1)) = meet (meets s (l.take k)) (spAt l k) := by
  have e : spAt l k = l[k] := by simp [spAt, h]
  rw [List.take_succ_eq_append_getElem h, e]
  simp only [meets, List.foldl_append, List.foldl_cons, List.foldl_nil]
theorem meets_all {s : Sp} {l : List Sp} : meets s (l.take l.length) = meets s l := by rw [List.take_length]
theorem max_if (a b : Int) : (if a < b then b else a) = max a b := by rw [Int.max_def]; split <;> split <;> omega
theorem min_if (a b : Int) : (if b < a then b else a) = min a b := by rw [Int.min_def]; split <;> split <;> omega
end Lk
namespace Go.Proofs.YthbkcoijafehgaaGreat.L
open Go.RowKit Go.Sd Lk
theorem set2 {w : World} {n : Nat} {a b : Value} {e : TypeId} (h : w.heap[n]? = some (.cells #[a, b] e)) (a' b' : Value) :
    ((w.setCell ⟨n, 0, none⟩ a').setCell ⟨n, 1, none⟩ b').heap[n]? = some (.cells #[a', b'] e) := by
  simp only [World.setCell, Array.getElem?_modify, if_true, h]
  rfl
theorem set2_other {w : World} {n m : Nat} {i j : Nat} (a' b' : Value) (h : m ≠ n) : ((w.setCell ⟨n, i, none⟩ a').setCell ⟨n, j, none⟩ b').heap[m]? = w.heap[m]? := by
  rw [Below.heap_setCell _ _ _ _ h, Below.heap_setCell _ _ _ _ h]
theorem below_set2 {B : Nat} {w : World} {n : Nat} {i j : Nat} (a' b' : Value) (h : B ≤ n) : Below B w ((w.setCell ⟨n, i, none⟩ a').setCell ⟨n, j, none⟩ b') :=
  ((Below.refl B w).setCell (p := ⟨n, i, none⟩) h a').setCell (p := ⟨n, j, none⟩) h b'
theorem two_new {w W : World} {a b : Obj} (h : (w.alloc a).alloc b = W) :
    W.heap[w.heap.size]? = some a ∧ W.heap[w.heap.size + 1]? = some b ∧ W.heap.size = w.heap.size + 2 ∧ Below w.heap.size w W := by
  subst h
  have e1 := World.alloc_heap_new (w.alloc a) b
  simp only [World.size_alloc] at e1
  exact ⟨(Below.heap_alloc _ _ _ (by simp)).trans (World.alloc_heap_new w a), e1, by simp, ((Below.refl _ _).alloc (Nat.le_refl _) _).alloc (by simp) _⟩
set_option maxRecDepth 100000 in
set_option maxHeartbeats 2000000 in
theorem progMeet (s : Sp) (lv : Value) (l : List Sp) (w : World) (hl : SpsAt w lv l) :
    Calls Tryz.prog 83 #[spV s, lv] w fun e w' => e = .returned (spV (meets s l)) ∧ Below w.heap.size w w' := by
  obtain ⟨W, hW⟩ : ∃ W, (w.alloc (spO s)).alloc (spO ⟨0, 0⟩) = W := ⟨_, rfl⟩
  obtain ⟨e0, e1, s0, b0⟩ := two_new hW
  obtain ⟨a, cap, rfl, hm, hx⟩ := hl.form
  have hx2 := Lib.hid hx
  clear hx hl
  go_enter Tryz.func83, Tryz.ntmps83
  go_wp2
  go_loopw [9] (fun i wr => ∃ k : Nat, k ≤ l.length ∧ i = .int .i64 k ∧ Hid (∃ t, t = meets s (l.take k) ∧ wr.heap[w.heap.size]? = some (spO t) ∧ wr.heap[w.heap.size + 1]? = some (spO ⟨0, 0⟩) ∧ Below w.heap.size w wr)) (fun i _ => l.length - (intOf i).toNat)
  case atStart => exact ⟨0, by omega, rfl, s, rfl, e0, e1, b0⟩
  case round =>
    obtain ⟨k, hk, rfl, hH⟩ := hrel
    obtain ⟨t, ht, f0, f1, hB⟩ := hH.out
    clear hH
    obtain ⟨c0, c1⟩ := rc2 f0
    obtain ⟨d0, d1⟩ := rf2 f0
    obtain ⟨c2, c3⟩ := rc2 f1
    obtain ⟨d2, d3⟩ := rf2 f1
    have z0 := (Array.getElem?_eq_some_iff.1 f0).1
    have z1 := (Array.getElem?_eq_some_iff.1 f1).1
    replace ht := Lib.hid ht
    by_cases hkl : k < l.length
    · obtain ⟨b, off, rfl, hb, hx⟩ := hx2.out (by omega)
      have x0 : wr.cell? ⟨b, off + k * 2, none⟩ = some (.int .i64 (spAt l k).lo) := kept_cell hB (hx k 0 _ hkl rfl)
      have x1 : wr.cell? ⟨b, off + k * 2 + 1, none⟩ = some (.int .i64 (spAt l k).hi) := kept_cell hB (hx k 1 _ hkl rfl)
      clear hx
      have hn := Lib.hid (meets_take (s := s) hkl)
      generalize spAt l k = x at *
      have hlt : (k : Int) < (l.length : Int) := by omega
      have m1 := max_if t.lo x.lo
      have m2 := min_if t.hi x.hi
      go_wp2
      have y0 := set2 f0 (.int .i64 (max t.lo x.lo)) (.int .i64 (min t.hi x.hi))
      have y1 := (set2_other (w := wr) (i := 0) (j := 1) (.int .i64 (max t.lo x.lo)) (.int .i64 (min t.hi x.hi)) (show w.heap.size + 1 ≠ w.heap.size by omega)).trans f1
      have y2 := hB.trans (below_set2 (w := wr) (i := 0) (j := 1) (.int .i64 (max t.lo x.lo)) (.int .i64 (min t.hi x.hi)) (Nat.le_refl w.heap.size))
      refine ⟨⟨k + 1, by omega, by go_num, meet t x, by rw [hn.out, ← ht.out], ?_, ?_, y2.alloc y2.size _⟩, by simp [intOf]; omega⟩
      · exact (Below.heap_alloc _ _ _ (Array.getElem?_eq_some_iff.1 y0).1).trans y0
      · exact (Below.heap_alloc _ _ _ (Array.getElem?_eq_some_iff.1 y1).1).trans y1
    · obtain rfl : k = l.length := by omega
      go_wp2
      obtain ⟨c4, c5⟩ := rc2 (set2 f1 (.int .i64 t.lo) (.int .i64 t.hi))
      refine bodyPost_ret (v := spV t) (by simp [results, Tryz.results83, go_sem, c4, c5]) rfl ⟨by rw [ht.out, meets_all], hB.trans (below_set2 _ _ (by omega))⟩
end Go.Proofs.YthbkcoijafehgaaGreat.L
