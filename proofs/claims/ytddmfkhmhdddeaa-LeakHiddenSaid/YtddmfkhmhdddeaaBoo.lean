/- Walks: whether a book is as defined (the reference). -/
import Derived.Test.YtddmfkhmhdddeaaSho
set_option linter.unusedVariables false
set_option linter.unusedSimpArgs false
namespace Lk
theorem bookB_first {b : Bk} {k : Nat} (hk : k < b.first.length) (h : spB (spAt b.first k) 1000000000 = false) : b.bookB = false := by
  have e : spAt b.first k = b.first[k] := by simp [spAt, hk]
  rw [Bk.bookB, all_no hk (by rw [← e]; exact h)]; rfl
theorem bookB_row {b : Bk} {k : Nat} (hk : k < b.flows.length) (h : b.flowB (rwAt b.flows k) = false) : b.bookB = false := by
  have e : rwAt b.flows k = b.flows[k] := by simp [rwAt, hk]
  rw [Bk.bookB, all_no (p := b.flowB) hk (by rw [← e]; exact h)]; simp
theorem flowB_len {b : Bk} {l : List Sp} (h : ¬ l.length = b.first.length) : b.flowB l = false := by
  rw [Bk.flowB, decide_eq_false h]; rfl
theorem flowB_sp {b : Bk} {l : List Sp} {j : Nat} (hj : j < l.length) (h : spB (spAt l j) 100000000 = false) : b.flowB l = false := by
  have e : spAt l j = l[j] := by simp [spAt, hj]
  rw [Bk.flowB, all_no (p := (spB · 100000000)) hj (by rw [← e]; exact h)]; simp
theorem flowB_all {b : Bk} {l : List Sp} (hl : l.length = b.first.length) (h : ∀ j, j < l.length → spB (spAt l j) 100000000 = true) : b.flowB l = true := by
  rw [Bk.flowB, decide_eq_true hl, all_to fun j hj => ?_]; rfl
  have := h j hj
  simpa [spAt, hj] using this
theorem bookB_read {b : Bk} {k : Nat} (hk : k < b.reads.length) (h : b.rdB (rdAt b.reads k) = false) : b.bookB = false := by
  have e : rdAt b.reads k = b.reads[k] := by simp [rdAt, hk]
  rw [Bk.bookB, all_no (p := b.rdB) hk (by rw [← e]; exact h)]; simp
theorem bookB_all {b : Bk} (h1 : ∀ j, j < b.first.length → spB (spAt b.first j) 1000000000 = true) (h2 : ∀ j, j < b.flows.length → b.flowB (rwAt b.flows j) = true)
    (h3 : ∀ j, j < b.reads.length → b.rdB (rdAt b.reads j) = true) : b.bookB = (inB b.first.length 1 6 && decide (0 < b.flows.length)) := by
  rw [Bk.bookB, all_to (l := b.first) fun j hj => ?_, all_to (l := b.flows) fun j hj => ?_, all_to (l := b.reads) fun j hj => ?_]
  · rfl
  · have := h3 j hj; simpa [rdAt, hj] using this
  · have := h2 j hj; simpa [rwAt, hj] using this
  · have := h1 j hj; simpa [spAt, hj] using this
theorem upto_succ {P : Nat → Prop} {k : Nat} (h : ∀ j, j < k → P j) (hk : P k) : ∀ j, j < k + 1 → P j := fun j hj => by
  by_cases e : j = k
  · exact e ▸ hk
  · exact h j (by omega)
end Lk
namespace Go.Proofs.Ytddmfkhmhdddeaa
open Go.RowKit Go.Sd Lk

set_option maxRecDepth 100000 in
set_option maxHeartbeats 8000000 in
theorem refBook (fv wv rv : Value) (b : Bk) (w : World) (hb : BookAt w fv wv rv b) :
    Calls Try.prog 53 #[bkV fv wv rv] w fun e w' => e = .returned (.bool b.bookB) ∧ Below w.heap.size w w' := by
  obtain ⟨W, hW⟩ : ∃ W, w.alloc (bkA fv wv rv) = W := ⟨_, rfl⟩
  obtain ⟨e0, b0, s0⟩ := boxed hW
  obtain ⟨q0, q1, q2⟩ := rc3 e0
  have zW := (Array.getElem?_eq_some_iff.1 e0).1
  have hS := Lib.hid (hb.first.mono b0)
  have hF := Lib.hid (hb.flows.mono b0)
  obtain ⟨fa, fc, rfl, hfm, -⟩ := hb.first.form
  obtain ⟨wa, wc, rfl, hwm, -⟩ := hb.flows.form
  obtain ⟨ra, rc, rfl, hrm, hx⟩ := (hb.reads.mono b0).form
  have hX := Lib.hid hx
  have hE := Lib.hid e0
  have hBW := Lib.hid b0
  clear hb hx
  go_enter Try.func53, Try.ntmps53
  go_wp2
  clear q0 q1 q2 e0 b0 s0 zW
  go_loopw [4] (fun i wr => ∃ g : Grow W, wr = g.x ∧ ∃ k : Nat, k ≤ b.first.length ∧ i = .int .i64 k ∧ Hid (∀ j, j < k → spB (spAt b.first j) 1000000000 = true)) (fun i _ => b.first.length - (intOf i).toNat)
  case atStart => exact ⟨Grow.self W, rfl, 0, Nat.zero_le _, rfl, fun j hj => absurd hj (Nat.not_lt_zero _)⟩
  case round =>
    obtain ⟨g, rfl, k, hk, rfl, hH⟩ := hrel
    obtain ⟨U, hU⟩ : ∃ U, g.x = U := ⟨_, rfl⟩
    have hBU : Below W.heap.size W U := by rw [← hU]; exact g.h
    rw [hU]
    clear hU g
    obtain ⟨q0, q1, q2⟩ := rc3 (kept_block hBU hE.out)
    have zU := (Array.getElem?_eq_some_iff.1 (kept_block hBU hE.out)).1
    by_cases hlt : k < b.first.length
    · have hki : (k : Int) < (b.first.length : Int) := by omega
      obtain ⟨d1, p1, t1, hw1, hd1, -, s1l, s1h⟩ := sp_cells (hS.out.mono hBU) (k := k) hlt
      obtain ⟨rfl, rfl⟩ : fa = some ⟨d1, p1, none⟩ ∧ fc = t1 := by simpa using hw1
      have kS := refSpan (spAt b.first k) (-1000000000) 1000000000 U (by omega) rfl
      cases hs : spB (spAt b.first k) 1000000000
      · have hr := Lib.hid (bookB_first hlt hs)
        rw [hs] at kS
        replace kS := Lib.hid kS
        replace hBU := Lib.hid hBU
        clear hs hH hw1
        generalize spAt b.first k = s at *
        go_wp2_with (go_at_call 82; (with_reducible refine Calls.mono kS.out ?_); rintro e y ⟨rfl, hB2⟩)
        go_ret
        exact ⟨by rw [hr.out]; rfl, below_tr hBW.out (below_tr hBU.out hB2)⟩
      · have hH2 := Lib.hid (upto_succ hH.out hs)
        rw [hs] at kS
        replace kS := Lib.hid kS
        replace hBU := Lib.hid hBU
        clear hs hH hw1
        generalize spAt b.first k = s at *
        go_wp2_with (go_at_call 82; (with_reducible refine Calls.mono kS.out ?_); rintro e y ⟨rfl, hB2⟩)
        exact ⟨⟨⟨y, below_tr hBU.out hB2⟩, rfl, k + 1, by omega, by go_num, hH2⟩, by simp [intOf]; omega⟩
    · obtain rfl : k = b.first.length := by omega
      have hA1 := hH
      clear hH q0 q1 q2 zU
      go_wp2
      go_loopw [5] (fun i wr => ∃ g : Grow W, wr = g.x ∧ ∃ k : Nat, k ≤ b.flows.length ∧ i = .int .i64 k ∧ Hid (∀ j, j < k → b.flowB (rwAt b.flows j) = true)) (fun i _ => b.flows.length - (intOf i).toNat)
      case atStart => exact ⟨⟨U, hBU⟩, rfl, 0, Nat.zero_le _, rfl, fun j hj => absurd hj (Nat.not_lt_zero _)⟩
      case round =>
        clear hBU U
        obtain ⟨g, rfl, k, hk, rfl, hH⟩ := hrel
        obtain ⟨U, hU⟩ : ∃ U, g.x = U := ⟨_, rfl⟩
        have hBU : Below W.heap.size W U := by rw [← hU]; exact g.h
        rw [hU]
        clear hU g
        obtain ⟨q0, q1, q2⟩ := rc3 (kept_block hBU hE.out)
        have zU := (Array.getElem?_eq_some_iff.1 (kept_block hBU hE.out)).1
        by_cases hlt : k < b.flows.length
        · have hki : (k : Int) < (b.flows.length : Int) := by omega
          obtain ⟨b1, o1, k1, ev1, hv1, hl1, -, x1, hr1⟩ := sprow_cell (hF.out.mono hBU) (k := k) hlt
          obtain ⟨rfl, rfl⟩ : wa = some ⟨b1, o1, none⟩ ∧ wc = k1 := by simpa using hv1
          obtain ⟨r1, c1, rfl, hn1, -⟩ := hr1.form
          have hR1 := Lib.hid hr1
          have X1 := Lib.hid x1
          have hBh := Lib.hid hBU
          by_cases hl : (rwAt b.flows k).length = b.first.length
          · have hrow := Lib.hid (bookB_row (b := b) hlt)
            have hnext := fun h => Lib.hid (upto_succ (P := fun j => b.flowB (rwAt b.flows j) = true) hH.out h)
            have hsp := fun j (hj : j < (rwAt b.flows k).length) (h : spB (spAt (rwAt b.flows k) j) 100000000 = false) => flowB_sp (b := b) hj h
            have hall := flowB_all (b := b) hl
            replace hsp := Lib.hid hsp
            replace hall := Lib.hid hall
            replace hnext := Lib.hid hnext
            clear hH hr1 hv1 hBU
            generalize rwAt b.flows k = row at *
            have hlI : (row.length : Int) = (b.first.length : Int) := by omega
            rw [hl] at x1
            go_wp2
            clear x1 q0 q1 q2 zU
            go_loopw [6] (fun i wr => ∃ g : Grow U, wr = g.x ∧ ∃ j : Nat, j ≤ row.length ∧ i = .int .i64 j ∧ Hid (∀ t, t < j → spB (spAt row t) 100000000 = true)) (fun i _ => row.length - (intOf i).toNat)
            case atStart => exact ⟨Grow.self U, rfl, 0, Nat.zero_le _, rfl, fun j hj => absurd hj (Nat.not_lt_zero _)⟩
            case round =>
              obtain ⟨g, rfl, j, hj, rfl, hJ⟩ := hrel
              have hYg := g.h
              obtain ⟨V, hV⟩ : ∃ V, g.x = V := ⟨_, rfl⟩
              rw [hV] at hYg ⊢
              clear hV g
              have hWV := below_tr hBh.out hYg
              have x1 := kept_cell hYg X1.out
              have y1 := World.block_lt_of_cell? V ⟨b1, _, none⟩ x1
              simp only at y1
              obtain ⟨q0, q1, q2⟩ := rc3 (kept_block hWV hE.out)
              have zU := (Array.getElem?_eq_some_iff.1 (kept_block hWV hE.out)).1
              by_cases hjl : j < row.length
              · have hji : (j : Int) < (b.first.length : Int) := by omega
                have hji2 : (j : Int) < (row.length : Int) := by omega
                obtain ⟨d1, p1, t1, hw1, hd1, -, s1l, s1h⟩ := sp_cells (hR1.out.mono hYg) (k := j) hjl
                obtain ⟨rfl, rfl⟩ : r1 = some ⟨d1, p1, none⟩ ∧ c1 = t1 := by simpa using hw1
                have kS := refSpan (spAt row j) (-100000000) 100000000 V (by omega) rfl
                replace hWV := Lib.hid hWV
                replace hYg := Lib.hid hYg
                cases hs : spB (spAt row j) 100000000
                · have hr := Lib.hid (hrow.out (hsp.out j hjl hs))
                  rw [hs] at kS
                  replace kS := Lib.hid kS
                  clear hs hw1
                  generalize spAt row j = s at *
                  go_wp2_with (go_at_call 82; (with_reducible refine Calls.mono kS.out ?_); rintro e y ⟨rfl, hB2⟩)
                  go_ret
                  exact ⟨by rw [hr.out]; rfl, below_tr hBW.out (below_tr hWV.out hB2)⟩
                · have hJ2 := Lib.hid (upto_succ hJ.out hs)
                  rw [hs] at kS
                  replace kS := Lib.hid kS
                  clear hs hw1
                  generalize spAt row j = s at *
                  go_wp2_with (go_at_call 82; (with_reducible refine Calls.mono kS.out ?_); rintro e y ⟨rfl, hB2⟩)
                  exact ⟨⟨⟨y, below_tr hYg.out hB2⟩, rfl, j + 1, by omega, by go_num, hJ2⟩, by simp [intOf]; omega⟩
              · obtain rfl : j = row.length := by omega
                have hN := Lib.hid (hnext.out (hall.out hJ.out)).out
                go_wp2
                exact ⟨⟨⟨V, hWV⟩, rfl, k + 1, by omega, by go_num, hN⟩, by simp [intOf]; omega⟩
          · have hr := Lib.hid (bookB_row (b := b) hlt (flowB_len hl))
            have hlI : ¬ ((rwAt b.flows k).length : Int) = (b.first.length : Int) := by omega
            clear hH hr1 hv1
            generalize rwAt b.flows k = row at *
            go_wp2
            go_ret
            exact ⟨by rw [hr.out]; rfl, below_tr hBW.out hBh.out⟩
        · obtain rfl : k = b.flows.length := by omega
          have hA2 := hH
          clear hH
          go_wp2
          clear q0 q1 q2 zU
          go_loopw [7] (fun i wr => ∃ g : Grow W, wr = g.x ∧ ∃ k : Nat, k ≤ b.reads.length ∧ i = .int .i64 k ∧ Hid (∀ j, j < k → b.rdB (rdAt b.reads j) = true)) (fun i _ => b.reads.length - (intOf i).toNat)
          case atStart => exact ⟨⟨U, hBU⟩, rfl, 0, Nat.zero_le _, rfl, fun j hj => absurd hj (Nat.not_lt_zero _)⟩
          case round =>
            clear hBU U
            obtain ⟨g, rfl, k, hk, rfl, hH⟩ := hrel
            obtain ⟨U, hU⟩ : ∃ U, g.x = U := ⟨_, rfl⟩
            have hBU : Below W.heap.size W U := by rw [← hU]; exact g.h
            rw [hU]
            clear hU g
            obtain ⟨q0, q1, q2⟩ := rc3 (kept_block hBU hE.out)
            have zU := (Array.getElem?_eq_some_iff.1 (kept_block hBU hE.out)).1
            by_cases hlt : k < b.reads.length
            · have hki : (k : Int) < (b.reads.length : Int) := by omega
              obtain ⟨rb, off, rfl, hrb, hx⟩ := hX.out (by omega)
              have x0 : U.cell? ⟨rb, off + k * 4, none⟩ = some (.int .i64 (rdAt b.reads k).day) := kept_cell hBU (hx k 0 _ hlt rfl)
              have x1 : U.cell? ⟨rb, off + k * 4 + 1, none⟩ = some (.int .i64 (rdAt b.reads k).zone) := kept_cell hBU (hx k 1 _ hlt rfl)
              have x2 : U.cell? ⟨rb, off + k * 4 + 2, none⟩ = some (.int .i64 (rdAt b.reads k).v.lo) := kept_cell hBU (hx k 2 _ hlt rfl)
              have x3 : U.cell? ⟨rb, off + k * 4 + 3, none⟩ = some (.int .i64 (rdAt b.reads k).v.hi) := kept_cell hBU (hx k 3 _ hlt rfl)
              have hno := Lib.hid (bookB_read (b := b) hlt)
              have hnext := Lib.hid fun h => upto_succ (P := fun j => b.rdB (rdAt b.reads j) = true) hH.out h
              clear hx hH
              generalize rdAt b.reads k = r at *
              obtain ⟨V, hV⟩ : ∃ V, U.alloc (rdO r) = V := ⟨_, rfl⟩
              obtain ⟨g0, hBV, sV⟩ := boxed hV
              have hWV := below_tr hBU hBV
              have hVE := kept_block hWV hE.out
              obtain ⟨p0, p1, p2⟩ := rc3 hVE
              have zV := (Array.getElem?_eq_some_iff.1 hVE).1
              obtain ⟨r0, r1, r2, r3⟩ := rc4 g0
              have zg := (Array.getElem?_eq_some_iff.1 g0).1
              have k1 := refIn r.day 0 (b.flows.length - 1) V
              have k2 := refIn r.zone 0 (b.first.length - 1) V
              have k3 := refSpan r.v (-1000000000) 1000000000 V (by omega) rfl
              replace hWV := Lib.hid hWV
              cases h1 : inB r.day 0 (b.flows.length - 1)
              · have hr := Lib.hid (hno.out (by rw [Bk.rdB, h1]; rfl))
                rw [h1] at k1
                replace k1 := Lib.hid k1
                clear h1 k2 k3
                go_wp2_with (go_at_call 54; (with_reducible refine Calls.mono k1.out ?_); rintro e y ⟨rfl, rfl⟩)
                go_ret
                exact ⟨by rw [hr.out]; rfl, below_tr hBW.out hWV.out⟩
              · cases h2 : inB r.zone 0 (b.first.length - 1)
                · have hr := Lib.hid (hno.out (by rw [Bk.rdB, h1, h2]; rfl))
                  rw [h1] at k1
                  rw [h2] at k2
                  replace k1 := Lib.hid k1
                  replace k2 := Lib.hid k2
                  clear h1 h2 k3
                  go_wp2_with (go_at_call 54; first | ((with_reducible refine Calls.mono k1.out ?_); rintro e y ⟨rfl, rfl⟩) | ((with_reducible refine Calls.mono k2.out ?_); rintro e y ⟨rfl, rfl⟩))
                  go_ret
                  exact ⟨by rw [hr.out]; rfl, below_tr hBW.out hWV.out⟩
                · cases h3 : spB r.v 1000000000
                  · have hr := Lib.hid (hno.out (by rw [Bk.rdB, h1, h2, h3]; rfl))
                    rw [h1] at k1
                    rw [h2] at k2
                    rw [h3] at k3
                    replace k1 := Lib.hid k1
                    replace k2 := Lib.hid k2
                    replace k3 := Lib.hid k3
                    clear h1 h2 h3
                    go_wp2_with (first | (go_at_call 54; first | ((with_reducible refine Calls.mono k1.out ?_); rintro e y ⟨rfl, rfl⟩) | ((with_reducible refine Calls.mono k2.out ?_); rintro e y ⟨rfl, rfl⟩)) | (go_at_call 82; (with_reducible refine Calls.mono k3.out ?_); rintro e y ⟨rfl, hB2⟩))
                    go_ret
                    exact ⟨by rw [hr.out]; rfl, below_tr hBW.out (below_tr hWV.out hB2)⟩
                  · have hN := Lib.hid (hnext.out (by rw [Bk.rdB, h1, h2, h3]; rfl))
                    rw [h1] at k1
                    rw [h2] at k2
                    rw [h3] at k3
                    replace k1 := Lib.hid k1
                    replace k2 := Lib.hid k2
                    replace k3 := Lib.hid k3
                    clear h1 h2 h3
                    go_wp2_with (first | (go_at_call 54; first | ((with_reducible refine Calls.mono k1.out ?_); rintro e y ⟨rfl, rfl⟩) | ((with_reducible refine Calls.mono k2.out ?_); rintro e y ⟨rfl, rfl⟩)) | (go_at_call 82; (with_reducible refine Calls.mono k3.out ?_); rintro e y ⟨rfl, hB2⟩))
                    exact ⟨⟨⟨y, below_tr hWV.out hB2⟩, rfl, k + 1, by omega, by go_num, hN⟩, by simp [intOf]; omega⟩
            · obtain rfl : k = b.reads.length := by omega
              have hr := Lib.hid (bookB_all hA1.out hA2.out hH.out)
              have k1 := refIn b.first.length 1 6 U
              replace hBU := Lib.hid hBU
              clear hH
              cases h1 : inB b.first.length 1 6
              · rw [h1] at k1 hr
                replace k1 := Lib.hid k1
                clear h1
                go_wp2_with (go_at_call 54; (with_reducible refine Calls.mono k1.out ?_); rintro e y ⟨rfl, rfl⟩)
                go_ret
                exact ⟨bool_ret (by rw [hr.out]; rfl), below_tr hBW.out hBU.out⟩
              · rw [h1] at k1 hr
                replace k1 := Lib.hid k1
                clear h1
                rcases Int.lt_or_le 0 (b.flows.length : Int) with h2 | h2
                all_goals
                  go_wp2_with (go_at_call 54; (with_reducible refine Calls.mono k1.out ?_); rintro e y ⟨rfl, rfl⟩)
                  go_ret
                  exact ⟨bool_ret (by rw [hr.out, Bool.eq_iff_iff]; simp only [Bool.true_and, decide_eq_true_eq, reduceCtorEq, true_iff, false_iff] <;> omega), below_tr hBW.out hBU.out⟩
end Go.Proofs.Ytddmfkhmhdddeaa
