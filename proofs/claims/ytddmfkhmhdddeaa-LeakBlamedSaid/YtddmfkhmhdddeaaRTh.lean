/- Walks: whether contents and flows are a truth of a book; whether contents agree with all readings (the reference). -/
import Derived.Test.YtddmfkhmhdddeaaSlm
import Derived.Test.YtddmfkhmhdddeaaRfw
import Derived.Test.YtddmfkhmhdddeaaLoc
set_option linter.unusedVariables false
set_option linter.unusedSimpArgs false
namespace Lk
def Bk.flowT (b : Bk) (n d : Nat) (row : List Int) : Bool := decide (row.length = n) && (List.range n).all fun i => inB (at0 row i) (b.flowAt d i).lo (b.flowAt d i).hi
def Bk.truthB (b : Bk) (xs : List Int) (ys : List (List Int)) : Bool := decide (xs.length = b.first.length) && (decide (ys.length = b.flows.length) &&
  (((List.range xs.length).all fun i => inB (at0 xs i) (spAt b.first i).lo (spAt b.first i).hi) && (List.range ys.length).all fun d => b.flowT xs.length d (lstAt ys d)))
/-- Whether contents agree with all readings. -/
def Bk.holdB (cs : List (List Int)) (r : Rd) : Bool := inB (at0 (lstAt cs r.day.toNat) r.zone.toNat) r.v.lo r.v.hi
def Bk.holdsB (b : Bk) (cs : List (List Int)) : Bool := b.reads.all (Bk.holdB cs)
theorem range_to {n : Nat} {p : Nat → Bool} (h : ∀ j, j < n → p j = true) : (List.range n).all p = true := by
  rw [List.all_eq_true]; intro x hx; exact h x (List.mem_range.1 hx)
theorem range_no {n j : Nat} {p : Nat → Bool} (hj : j < n) (h : p j = false) : (List.range n).all p = false := by
  cases hc : (List.range n).all p
  · rfl
  · rw [List.all_eq_true] at hc
    rw [hc j (List.mem_range.2 hj)] at h; cases h
end Lk
namespace Go.Proofs.Ytddmfkhmhdddeaa
open Go.RowKit Go.Sd Lk

theorem refInB (a b c : Int) (w : World) : Calls Try.prog 54 #[.int .i64 a, .int .i64 b, .int .i64 c] w fun e w' => e = .returned (.bool (inB a b c)) ∧ Below w.heap.size w w' :=
  (refIn a b c w).mono (by rintro e w' ⟨rfl, rfl⟩; exact ⟨rfl, Below.refl _ _⟩)

set_option maxRecDepth 100000 in
set_option maxHeartbeats 4000000 in
theorem refTruth (fv wv rv xv yv : Value) (b : Bk) (xs : List Int) (ys : List (List Int)) (w : World) (hb : BookAt w fv wv rv b) (ok : Ok b) (hx : IntsAt w xv xs) (hy : ListsAt w yv ys) :
    Calls Try.prog 36 #[bkV fv wv rv, xv, yv] w fun e w' => e = .returned (.bool (b.truthB xs ys)) ∧ Below w.heap.size w w' := by
  obtain ⟨W, hW⟩ : ∃ W, w.alloc (bkA fv wv rv) = W := ⟨_, rfl⟩
  obtain ⟨e0, b0, s0⟩ := boxed hW
  obtain ⟨q0, q1, q2⟩ := rc3 e0
  have z0 := (Array.getElem?_eq_some_iff.1 e0).1
  have hF := Lib.hid (hb.first.mono b0)
  have hL := Lib.hid (hb.flows.mono b0)
  have hX := Lib.hid (hx.mono b0)
  have hY := Lib.hid (hy.mono b0)
  obtain ⟨fa, fc, rfl, hfm, -⟩ := hb.first.form
  obtain ⟨wa, wc, rfl, hwm, -⟩ := hb.flows.form
  obtain ⟨ra, rc, rfl, hrm, -⟩ := hb.reads.form
  obtain ⟨xa, xc, rfl, hxm, -⟩ := hx.form
  obtain ⟨ya, yc, rfl, hym, -⟩ := hy.form
  have hBW := Lib.hid b0
  clear hb hx hy e0 b0 s0
  have hgW := grow_cell W
  by_cases h1 : xs.length = b.first.length
  · have h1i : (xs.length : Int) = (b.first.length : Int) := by omega
    by_cases h2 : ys.length = b.flows.length
    · have h2i : (ys.length : Int) = (b.flows.length : Int) := by omega
      have hT : Hid (b.truthB xs ys = (((List.range xs.length).all fun i => inB (at0 xs i) (spAt b.first i).lo (spAt b.first i).hi) && (List.range ys.length).all fun d => b.flowT xs.length d (lstAt ys d))) := Lib.hid (by rw [Bk.truthB, decide_eq_true h1, decide_eq_true h2, Bool.true_and, Bool.true_and])
      go_enter Try.func36, Try.ntmps36
      go_wp2
      go_loopw [7] (fun i wr => ∃ gg : Grow W, wr = gg.x ∧ ∃ k : Nat, k ≤ xs.length ∧ i = .int .i64 k ∧ Hid (∀ j, j < k → inB (at0 xs j) (spAt b.first j).lo (spAt b.first j).hi = true)) (fun i _ => xs.length - (intOf i).toNat)
      case atStart => exact ⟨Grow.self W, rfl, 0, by omega, rfl, fun j h => absurd h (Nat.not_lt_zero _)⟩
      case round =>
        obtain ⟨g1, rfl, k, hk, rfl, hH⟩ := hrel
        by_cases hlt : k < xs.length
        · have hki : (k : Int) < (xs.length : Int) := by omega
          have hki2 : (k : Int) < (b.first.length : Int) := by omega
          obtain ⟨c1, o1, k1, hv1, hl1, -, x0⟩ := int_cells hX.out (k := k) hlt
          obtain ⟨c2, o2, k2, hv2, hl2, -, x1, x2⟩ := sp_cells hF.out (k := k) (by omega)
          obtain ⟨rfl, rfl⟩ : xa = some ⟨c1, o1, none⟩ ∧ xc = k1 := by simpa using hv1
          obtain ⟨rfl, rfl⟩ : fa = some ⟨c2, o2, none⟩ ∧ fc = k2 := by simpa using hv2
          have kI0 := fun X => refInB (at0 xs k) (spAt b.first k).lo (spAt b.first k).hi X
          have hyes : Hid (inB (at0 xs k) (spAt b.first k).lo (spAt b.first k).hi = true → ∀ j, j < k + 1 → inB (at0 xs j) (spAt b.first j).lo (spAt b.first j).hi = true) := Lib.hid fun h j hj => by
            rcases Nat.lt_succ_iff_lt_or_eq.1 hj with h' | rfl
            · exact hH.out j h'
            · exact h
          have hno : Hid (inB (at0 xs k) (spAt b.first k).lo (spAt b.first k).hi = false → b.truthB xs ys = false) := Lib.hid fun h => by rw [hT.out, range_no hlt h]; rfl
          clear hv1 hv2 hH
          generalize at0 xs k = a at *
          generalize spAt b.first k = s at *
          cases hc : inB a s.lo s.hi
          · rw [hc] at kI0
            have kI := Lib.hid kI0
            have hr := Lib.hid (hno.out hc)
            clear kI0 hyes hno hc
            go_wp2
            have hgg : ∀ (h : Grow g1.x) (b o : Nat), b < W.heap.size → h.x.cell? ⟨b, o, none⟩ = W.cell? ⟨b, o, none⟩ := fun h b o hb => (grow_cell g1.x h b o (Nat.lt_of_lt_of_le hb g1.size)).trans (grow_cell W g1 b o hb)
            refine wp_region_grow (by kernel_rfl) (by kernel_rfl) ?_
            repeat (go_big_quiet_step ((first | (with_reducible exact Calls.grow (kI.out _)))))
            refine wpQuiet_nil ?_
            rintro _ ⟨gx, rfl⟩
            clear hgg
            obtain ⟨g2, hg2⟩ := g1.next gx.h
            rw [hg2]
            clear hg2 gx
            go_wp2
            go_ret
            exact ⟨by rw [hr.out]; rfl, below_tr hBW.out g2.h⟩
          · rw [hc] at kI0
            have kI := Lib.hid kI0
            have hn := Lib.hid (hyes.out hc)
            clear kI0 hyes hno hc
            go_wp2
            have hgg : ∀ (h : Grow g1.x) (b o : Nat), b < W.heap.size → h.x.cell? ⟨b, o, none⟩ = W.cell? ⟨b, o, none⟩ := fun h b o hb => (grow_cell g1.x h b o (Nat.lt_of_lt_of_le hb g1.size)).trans (grow_cell W g1 b o hb)
            refine wp_region_grow (by kernel_rfl) (by kernel_rfl) ?_
            repeat (go_big_quiet_step ((first | (with_reducible exact Calls.grow (kI.out _)))))
            refine wpQuiet_nil ?_
            rintro _ ⟨gx, rfl⟩
            clear hgg
            obtain ⟨g2, hg2⟩ := g1.next gx.h
            rw [hg2]
            clear hg2 gx
            go_wp2
            exact ⟨⟨g2, rfl, k + 1, by omega, by go_num, hn⟩, by simp [intOf]; omega⟩
        · obtain rfl : k = xs.length := by omega
          have hT2 : Hid (b.truthB xs ys = (List.range ys.length).all fun d => b.flowT xs.length d (lstAt ys d)) := Lib.hid (by rw [hT.out, range_to hH.out, Bool.true_and])
          clear hH hT
          go_wp2
          go_loopw [8] (fun i wr => ∃ gg : Grow W, wr = gg.x ∧ ∃ d : Nat, d ≤ ys.length ∧ i = .int .i64 d ∧ Hid (∀ j, j < d → b.flowT xs.length j (lstAt ys j) = true)) (fun i _ => ys.length - (intOf i).toNat)
          case atStart => exact ⟨g1, rfl, 0, by omega, rfl, fun j h => absurd h (Nat.not_lt_zero _)⟩
          case round =>
            obtain ⟨g3, rfl, d, hd, rfl, hG⟩ := hrel
            by_cases hdl : d < ys.length
            · have hdi : (d : Int) < (ys.length : Int) := by omega
              have hdi2 : (d : Int) < (b.flows.length : Int) := by omega
              obtain ⟨c1, o1, k1, ev1, hv1, hl1, -, y0, hrow⟩ := list_cell hY.out (k := d) hdl
              obtain ⟨c2, o2, k2, ev2, hv2, hl2, -, y1, hrw⟩ := sprow_cell hL.out (k := d) (by omega)
              obtain ⟨rfl, rfl⟩ : ya = some ⟨c1, o1, none⟩ ∧ yc = k1 := by simpa using hv1
              obtain ⟨rfl, rfl⟩ : wa = some ⟨c2, o2, none⟩ ∧ wc = k2 := by simpa using hv2
              obtain ⟨r1, n1, rfl, hn1, -⟩ := hrow.form
              obtain ⟨r2, n2, rfl, hn2, -⟩ := hrw.form
              rw [ok.rows d (by omega)] at y1
              have hFT : Hid (b.flowT xs.length d (lstAt ys d) = (decide ((lstAt ys d).length = xs.length) && (List.range xs.length).all fun i => inB (at0 (lstAt ys d) i) (b.flowAt d i).lo (b.flowAt d i).hi)) := rfl
              have hyes : Hid (b.flowT xs.length d (lstAt ys d) = true → ∀ j, j < d + 1 → b.flowT xs.length j (lstAt ys j) = true) := Lib.hid fun h j hj => by
                rcases Nat.lt_succ_iff_lt_or_eq.1 hj with h' | rfl
                · exact hG.out j h'
                · exact h
              have hno : Hid (b.flowT xs.length d (lstAt ys d) = false → b.truthB xs ys = false) := Lib.hid fun h => by rw [hT2.out, range_no hdl h]
              have hrowH := Lib.hid hrow
              have hrwH := Lib.hid hrw
              have hrl := ok.rows d (by omega)
              have hfa : Hid (∀ i, spAt (rwAt b.flows d) i = b.flowAt d i) := Lib.hid fun i => rfl
              clear hv1 hv2 hG hrow hrw
              by_cases hlen : (lstAt ys d).length = xs.length
              · have hlen0 : ((lstAt ys d).length : Int) = (xs.length : Int) := by omega
                have hlH := Lib.hid hlen
                have hFT2 : Hid (b.flowT xs.length d (lstAt ys d) = (List.range xs.length).all fun i => inB (at0 (lstAt ys d) i) (b.flowAt d i).lo (b.flowAt d i).hi) := Lib.hid (by rw [hFT.out, decide_eq_true hlen, Bool.true_and])
                clear hFT
                go_wp2
                go_loopw [9] (fun i wr => ∃ gg : Grow W, wr = gg.x ∧ ∃ k : Nat, k ≤ xs.length ∧ i = .int .i64 k ∧ Hid (∀ j, j < k → inB (at0 (lstAt ys d) j) (b.flowAt d j).lo (b.flowAt d j).hi = true)) (fun i _ => xs.length - (intOf i).toNat)
                case atStart => exact ⟨g3, rfl, 0, by omega, rfl, fun j h => absurd h (Nat.not_lt_zero _)⟩
                case round =>
                  obtain ⟨g4, rfl, k, hk, rfl, hJ⟩ := hrel
                  by_cases hkl : k < xs.length
                  · have hki : (k : Int) < (xs.length : Int) := by omega
                    have hki3 : (k : Int) < (b.first.length : Int) := by omega
                    obtain ⟨c3, o3, k3, hv3, hl3, -, x0⟩ := int_cells hrowH.out (k := k) (by rw [hlH.out]; exact hkl)
                    obtain ⟨c4, o4, k4, hv4, hl4, -, x1, x2⟩ := sp_cells hrwH.out (k := k) (by omega)
                    obtain ⟨rfl, rfl⟩ : r1 = some ⟨c3, o3, none⟩ ∧ n1 = k3 := by simpa using hv3
                    obtain ⟨rfl, rfl⟩ : r2 = some ⟨c4, o4, none⟩ ∧ n2 = k4 := by simpa using hv4
                    rw [hfa.out] at x1 x2
                    have kI0 := fun X => refInB (at0 (lstAt ys d) k) (b.flowAt d k).lo (b.flowAt d k).hi X
                    have hyes2 : Hid (inB (at0 (lstAt ys d) k) (b.flowAt d k).lo (b.flowAt d k).hi = true → ∀ j, j < k + 1 → inB (at0 (lstAt ys d) j) (b.flowAt d j).lo (b.flowAt d j).hi = true) := Lib.hid fun h j hj => by
                      rcases Nat.lt_succ_iff_lt_or_eq.1 hj with h' | rfl
                      · exact hJ.out j h'
                      · exact h
                    have hno2 : Hid (inB (at0 (lstAt ys d) k) (b.flowAt d k).lo (b.flowAt d k).hi = false → b.truthB xs ys = false) := Lib.hid fun h => hno.out (by rw [hFT2.out, range_no hkl h])
                    clear hv3 hv4 hJ
                    generalize at0 (lstAt ys d) k = a at *
                    generalize b.flowAt d k = s at *
                    cases hc : inB a s.lo s.hi
                    · rw [hc] at kI0
                      have kI := Lib.hid kI0
                      have hr := Lib.hid (hno2.out hc)
                      clear kI0 hyes2 hno2 hc
                      go_wp2
                      have hgg : ∀ (h : Grow g4.x) (b o : Nat), b < W.heap.size → h.x.cell? ⟨b, o, none⟩ = W.cell? ⟨b, o, none⟩ := fun h b o hb => (grow_cell g4.x h b o (Nat.lt_of_lt_of_le hb g4.size)).trans (grow_cell W g4 b o hb)
                      refine wp_region_grow (by kernel_rfl) (by kernel_rfl) ?_
                      repeat (go_big_quiet_step ((first | (with_reducible exact Calls.grow (kI.out _)))))
                      refine wpQuiet_nil ?_
                      rintro _ ⟨gx, rfl⟩
                      clear hgg
                      obtain ⟨g5, hg5⟩ := g4.next gx.h
                      rw [hg5]
                      clear hg5 gx
                      go_wp2
                      go_ret
                      exact ⟨by rw [hr.out]; rfl, below_tr hBW.out g5.h⟩
                    · rw [hc] at kI0
                      have kI := Lib.hid kI0
                      have hn := Lib.hid (hyes2.out hc)
                      clear kI0 hyes2 hno2 hc
                      go_wp2
                      have hgg : ∀ (h : Grow g4.x) (b o : Nat), b < W.heap.size → h.x.cell? ⟨b, o, none⟩ = W.cell? ⟨b, o, none⟩ := fun h b o hb => (grow_cell g4.x h b o (Nat.lt_of_lt_of_le hb g4.size)).trans (grow_cell W g4 b o hb)
                      refine wp_region_grow (by kernel_rfl) (by kernel_rfl) ?_
                      repeat (go_big_quiet_step ((first | (with_reducible exact Calls.grow (kI.out _)))))
                      refine wpQuiet_nil ?_
                      rintro _ ⟨gx, rfl⟩
                      clear hgg
                      obtain ⟨g5, hg5⟩ := g4.next gx.h
                      rw [hg5]
                      clear hg5 gx
                      go_wp2
                      exact ⟨⟨g5, rfl, k + 1, by omega, by go_num, hn⟩, by simp [intOf]; omega⟩
                  · obtain rfl : k = xs.length := by omega
                    have hn := Lib.hid (hyes.out (by rw [hFT2.out]; exact range_to hJ.out))
                    clear hJ hyes hno hFT2
                    go_wp2
                    exact ⟨⟨g4, rfl, d + 1, by omega, by go_num, hn⟩, by simp [intOf]; omega⟩
              · have hlen0 : ¬ ((lstAt ys d).length : Int) = (xs.length : Int) := by omega
                have hr := Lib.hid (hno.out (by rw [hFT.out, decide_eq_false hlen]; rfl))
                clear hyes hno hFT
                go_wp2
                go_ret
                exact ⟨by rw [hr.out]; rfl, below_tr hBW.out g3.h⟩
            · obtain rfl : d = ys.length := by omega
              have hr : Hid (b.truthB xs ys = true) := Lib.hid (by rw [hT2.out]; exact range_to hG.out)
              clear hG hT2
              go_wp2
              go_ret
              exact ⟨by rw [hr.out]; rfl, below_tr hBW.out g3.h⟩
    · have h2i : ¬ (ys.length : Int) = (b.flows.length : Int) := by omega
      have hr : Hid (b.truthB xs ys = false) := Lib.hid (by rw [Bk.truthB, decide_eq_false h2]; simp)
      go_enter Try.func36, Try.ntmps36
      go_wp2
      go_ret
      exact ⟨by rw [hr.out]; rfl, hBW.out⟩
  · have h1i : ¬ (xs.length : Int) = (b.first.length : Int) := by omega
    have hr : Hid (b.truthB xs ys = false) := Lib.hid (by rw [Bk.truthB, decide_eq_false h1]; rfl)
    go_enter Try.func36, Try.ntmps36
    go_wp2
    go_ret
    exact ⟨by rw [hr.out]; rfl, hBW.out⟩

set_option maxRecDepth 100000 in
set_option maxHeartbeats 4000000 in
theorem refHolds (fv wv rv cv : Value) (b : Bk) (cs : List (List Int)) (w : World) (hb : BookAt w fv wv rv b) (ok : Ok b) (hc : ListsAt w cv cs) (hn : cs.length = b.flows.length) (hr : ∀ d, d < cs.length → (lstAt cs d).length = b.first.length) :
    Calls Try.prog 38 #[bkV fv wv rv, cv] w fun e w' => e = .returned (.bool (b.holdsB cs)) ∧ Below w.heap.size w w' := by
  obtain ⟨W, hW⟩ : ∃ W, w.alloc (bkA fv wv rv) = W := ⟨_, rfl⟩
  obtain ⟨e0, b0, s0⟩ := boxed hW
  have hE := Lib.hid e0
  have hR := Lib.hid (hb.reads.mono b0)
  have hC := Lib.hid (hc.mono b0)
  obtain ⟨fa, fc, rfl, hfm, -⟩ := hb.first.form
  obtain ⟨wa, wc, rfl, hwm, -⟩ := hb.flows.form
  obtain ⟨ra, rc, rfl, hrm, -⟩ := hb.reads.form
  obtain ⟨ca, cc, rfl, hcm, -⟩ := hc.form
  obtain ⟨q0, q1, q2⟩ := rc3 e0
  have z0 := (Array.getElem?_eq_some_iff.1 e0).1
  have hBW := Lib.hid b0
  replace hr := Lib.hid hr
  replace hn := Lib.hid hn
  clear hb hc e0 b0 s0
  go_enter Try.func38, Try.ntmps38
  go_wp2
  clear q0 q1 q2 z0 hW
  go_loopw [5] (fun i wr => ∃ gg : Grow W, wr = gg.x ∧ ∃ k : Nat, k ≤ b.reads.length ∧ i = .int .i64 k ∧ Hid (∀ j (hj : j < b.reads.length), j < k → Bk.holdB cs b.reads[j] = true)) (fun i _ => b.reads.length - (intOf i).toNat)
  case atStart => exact ⟨Grow.self W, rfl, 0, by omega, rfl, fun j _ h => absurd h (Nat.not_lt_zero _)⟩
  case round =>
    obtain ⟨gg, rfl, k, hk, rfl, hH⟩ := hrel
    obtain ⟨U, hU⟩ : ∃ U, gg.x = U := ⟨_, rfl⟩
    have hWU : Below W.heap.size W U := by rw [← hU]; exact gg.h
    rw [hU]
    clear hU gg
    obtain ⟨q0, q1, q2⟩ := rc3 (kept_block hWU hE.out)
    have z0 := (Array.getElem?_eq_some_iff.1 (kept_block hWU hE.out)).1
    by_cases hlt : k < b.reads.length
    · have hki : (k : Int) < (b.reads.length : Int) := by omega
      obtain ⟨c1, o1, k1, hv1, hl1, -, x0, x1, x2, x3⟩ := rd_cells (hR.out.mono hWU) (k := k) hlt
      obtain ⟨rfl, rfl⟩ : ra = some ⟨c1, o1, none⟩ ∧ rc = k1 := by simpa using hv1
      have hrk := ok.reads k hlt
      have hel : Hid (b.reads[k] = rdAt b.reads k) := Lib.hid (by simp [rdAt, hlt])
      have hyes : Hid (Bk.holdB cs (rdAt b.reads k) = true → ∀ j (hj : j < b.reads.length), j < k + 1 → Bk.holdB cs b.reads[j] = true) := Lib.hid fun h j hj hjk => by
        rcases Nat.lt_succ_iff_lt_or_eq.1 hjk with h' | rfl
        · exact hH.out j hj h'
        · rw [hel.out]; exact h
      have hno : Hid (Bk.holdB cs (rdAt b.reads k) = false → b.holdsB cs = false) := Lib.hid fun h => all_no hlt (by rw [hel.out]; exact h)
      clear hv1 hH hel
      generalize rdAt b.reads k = r at *
      obtain ⟨rd, rz, rv⟩ := r
      simp only at hrk x0 x1 x2 x3
      obtain ⟨d, rfl⟩ : ∃ d : Nat, rd = d := ⟨rd.toNat, by omega⟩
      obtain ⟨z, rfl⟩ : ∃ z : Nat, rz = z := ⟨rz.toNat, by omega⟩
      have hdl : d < cs.length := by have := hn.out; omega
      have hdi : (d : Int) < (cs.length : Int) := by omega
      obtain ⟨V, hV⟩ : ∃ V, U.alloc (rdO ⟨d, z, rv⟩) = V := ⟨_, rfl⟩
      obtain ⟨ev, BV, sV⟩ := boxed hV
      obtain ⟨v0, v1, v2, v3⟩ := rc4 ev
      have zv := (Array.getElem?_eq_some_iff.1 ev).1
      have hWV := below_tr hWU BV
      obtain ⟨c2, o2, k2, ev2, hv2, hl2, -, y0, hrow⟩ := list_cell (hC.out.mono hWV) (k := d) hdl
      obtain ⟨rfl, rfl⟩ : ca = some ⟨c2, o2, none⟩ ∧ cc = k2 := by simpa using hv2
      obtain ⟨c3, o3, k3, hv3, hl3, -, y1⟩ := int_cells hrow (k := z) (by rw [hr.out d hdl]; omega)
      rw [hr.out d hdl] at hv3
      subst hv3
      have hzi : (z : Int) < (b.first.length : Int) := by omega
      have hHB : Hid (Bk.holdB cs ⟨d, z, rv⟩ = inB (at0 (lstAt cs d) z) rv.lo rv.hi) := Lib.hid (by simp [Bk.holdB])
      have kI0 := fun X => refInB (at0 (lstAt cs d) z) rv.lo rv.hi X
      have hgV := grow_cell V
      have hWVh := Lib.hid hWV
      clear hrow hv2 sV BV hWU ev hWV
      generalize at0 (lstAt cs d) z = a at *
      cases hc : inB a rv.lo rv.hi
      · rw [hc] at kI0 hHB
        have kI := Lib.hid kI0
        have hr2 := Lib.hid (hno.out hHB.out)
        clear kI0 hyes hno hc hHB
        go_wp2
        refine wp_region_grow (by kernel_rfl) (by kernel_rfl) ?_
        repeat (go_big_quiet_step ((first | (with_reducible exact Calls.grow (kI.out _)))))
        refine wpQuiet_nil ?_
        rintro _ ⟨g, rfl⟩
        have hgB := Lib.hid g.h
        generalize g.x = Y at *
        go_wp2
        go_ret
        exact ⟨by rw [hr2.out]; rfl, below_tr hBW.out (below_tr hWVh.out hgB.out)⟩
      · rw [hc] at kI0 hHB
        have kI := Lib.hid kI0
        have hn2 := Lib.hid (hyes.out hHB.out)
        clear kI0 hyes hno hc hHB
        go_wp2
        refine wp_region_grow (by kernel_rfl) (by kernel_rfl) ?_
        repeat (go_big_quiet_step ((first | (with_reducible exact Calls.grow (kI.out _)))))
        refine wpQuiet_nil ?_
        rintro _ ⟨g, rfl⟩
        have hgB := Lib.hid g.h
        generalize g.x = Y at *
        go_wp2
        exact ⟨⟨⟨Y, below_tr hWVh.out hgB.out⟩, rfl, k + 1, by omega, by go_num, hn2⟩, by simp [intOf]; omega⟩
    · obtain rfl : k = b.reads.length := by omega
      have hr2 : Hid (b.holdsB cs = true) := Lib.hid (all_to fun j hj => hH.out j hj hj)
      have hWUh := Lib.hid hWU
      clear hH hWU
      go_wp2
      go_ret
      exact ⟨by rw [hr2.out]; rfl, below_tr hBW.out hWUh.out⟩
end Go.Proofs.Ytddmfkhmhdddeaa
