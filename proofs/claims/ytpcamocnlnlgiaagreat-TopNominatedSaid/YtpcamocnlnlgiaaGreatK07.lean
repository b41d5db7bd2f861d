/- Laws and walks: Bk2, Bk3. -/
import Derived.Test.YtpcamocnlnlgiaaGreatK06
set_option maxRecDepth 100000
set_option maxHeartbeats 16000000
set_option linter.unusedVariables false
set_option linter.unusedSimpArgs false
namespace Go.Proofs.YtpcamocnlnlgiaaGreat.B
open Go.RowKit Go.Sd Wl Bk L
attribute [local go_sem] Oper.semAt_some
theorem row11 {w : World} {n : Nat} {a0 a1 a2 a3 a4 a5 a6 a7 a8 a9 a10 : Value} {e : TypeId} (h : w.heap[n]? = some (.cells #[a0, a1, a2, a3, a4, a5, a6, a7, a8, a9, a10] e (0, 0))) : w.cell? ⟨n, 0, none⟩ = some a0 ∧ w.cell? ⟨n, 1, none⟩ = some a1 ∧ w.cell? ⟨n, 2, none⟩ = some a2 ∧ w.cell? ⟨n, 3, none⟩ = some a3 ∧ w.cell? ⟨n, 4, none⟩ = some a4 ∧ w.cell? ⟨n, 5, none⟩ = some a5 ∧ w.cell? ⟨n, 6, none⟩ = some a6 ∧ w.cell? ⟨n, 7, none⟩ = some a7 ∧ w.cell? ⟨n, 8, none⟩ = some a8 ∧ w.cell? ⟨n, 9, none⟩ = some a9 ∧ w.cell? ⟨n, 10, none⟩ = some a10 := by
 have r := (row_cells h).2.1
 exact ⟨r 0, r 1, r 2, r 3, r 4, r 5, r 6, r 7, r 8, r 9, r 10⟩
theorem row3b {w : World} {n : Nat} {a0 a1 a2 : Value} {e : TypeId} (h : w.heap[n]? = some (.cells #[a0, a1, a2] e (0, 0))) : w.cell? ⟨n, 0, none⟩ = some a0 ∧ w.cell? ⟨n, 1, none⟩ = some a1 ∧ w.cell? ⟨n, 2, none⟩ = some a2 := by
 have r := (row_cells h).2.1
 exact ⟨r 0, r 1, r 2⟩
theorem rts_row {w : World} {a : Option Addr} {cap : Nat} {xs : List Rt} (h : RtsAt w (.slice a xs.length cap) xs) (h0 : 0 < xs.length) : ∃ b off, a = some ⟨b, off, none⟩ ∧ b < w.heap.size ∧
    ∀ k, k < xs.length → w.cell? ⟨b, off + k * 3, none⟩ = some (.int .i64 (rtAt xs k).fill) ∧ w.cell? ⟨b, off + k * 3 + 1, none⟩ = some (.int .i64 (rtAt xs k).inn) ∧ w.cell? ⟨b, off + k * 3 + 2, none⟩ = some (.int .i64 (rtAt xs k).out) := by
 obtain ⟨a', cap', he, hm, hc⟩ := h
 cases he
 obtain ⟨b, off, rfl, hlt, hx⟩ := hc h0
 exact ⟨b, off, rfl, hlt, fun k hk => ⟨hx k 0 _ hk rfl, hx k 1 _ hk rfl, hx k 2 _ hk rfl⟩⟩
theorem ints5 (w : World) (a b c d e : Int) : IntsAt (w.alloc (.cells #[.int .i64 a, .int .i64 b, .int .i64 c, .int .i64 d, .int .i64 e] 3)) (.slice (some ⟨w.heap.size, 0, none⟩) 5 5) [a, b, c, d, e] := by
 refine ⟨_, 5, rfl, by simp [maxLen], fun _ => ⟨w.heap.size, 0, rfl, by simp, ?_⟩⟩
 have h := World.alloc_heap_new w (.cells #[.int .i64 a, .int .i64 b, .int .i64 c, .int .i64 d, .int .i64 e] 3)
 have r := (row_cells h).2.1
 intro k i u hk hu
 have hk' : k = 0 ∨ k = 1 ∨ k = 2 ∨ k = 3 ∨ k = 4 := by
  have h5 : k < 5 := hk
  omega
 have hi := (List.getElem?_eq_some_iff.1 hu).1
 have hi' : i = 0 := by
  have h1 : i < 1 := hi
  omega
 subst hi'
 rw [r, ← hu]
 rcases hk' with rfl | rfl | rfl | rfl | rfl <;> rfl
theorem upto_succ' {p : Nat → Bool} {k : Nat} (h : ∀ j, j < k → p j = true) (hk : p k = true) : ∀ j, j < k + 1 → p j = true := fun j hj => by
 rcases Nat.lt_succ_iff_lt_or_eq.1 hj with h' | rfl
 · exact h j h'
 · exact hk
theorem all_up {p : Nat → Bool} {n : Nat} (h : ∀ j, j < n → p j = true) : (List.range n).all p = true := List.all_eq_true.2 fun j hj => h j (List.mem_range.1 hj)
theorem all_not {p : Nat → Bool} {n k : Nat} (hk : k < n) (h : p k = false) : (List.range n).all p = false := by
 cases ha : (List.range n).all p
 · rfl
 · have := List.all_eq_true.1 ha k (List.mem_range.2 hk)
   rw [h] at this; cases this
theorem bookContract (c : Con) (rv : Value) (w : World) (hr : RtsAt w rv c.rates) : Calls Tryz.prog 24 #[conV rv c] w (BoolB c.ok w) := by
 obtain ⟨W, hW⟩ : ∃ W, w.alloc (conO rv c) = W := ⟨_, rfl⟩
 obtain ⟨e, bW, z⟩ := boxedB hW
 obtain ⟨q0, q1, q2, q3, q4, q5, q6, q7, q8, q9, q10⟩ := row11 e
 have hrW := hr.mono bW
 obtain ⟨ra, rcap, rfl, hrm, -⟩ := hr
 unfold maxLen at hrm
 have hrow : Hid (0 < c.rates.length → _) := Lib.hid (rts_row hrW)
 have hBw := Lib.hid bW
 have hg := grow_cell W
 clear e bW hrW
 go_enter Tryz.func24, Tryz.ntmps24
 go_wp2_with (fail)
 go_loopw [8] (fun i wr => ∃ k : Nat, k ≤ c.rates.length ∧ i = .int .i64 k ∧ Hid (∀ j, j < k → rtB c.rates j = true) ∧ ∃ g : Grow W, wr = g.x) (fun i _ => c.rates.length - (intOf i).toNat)
 case atStart => exact ⟨0, by omega, rfl, Lib.hid fun j h => by omega, Grow.self W, rfl⟩
 case round =>
  obtain ⟨k, hk, rfl, hH, g, rfl⟩ := hrel
  by_cases hlt : k < c.rates.length
  · obtain ⟨b, off, rfl, hbl, hrk⟩ := hrow.out (by omega)
    obtain ⟨c0, c1, c2⟩ := hrk k hlt
    have hki : (0 : Int) ≤ (k : Int) ∧ (k : Int) < c.rates.length := by omega
    obtain ⟨t, ht⟩ : ∃ t, rtB c.rates k = t := ⟨_, rfl⟩
    have ht0 := ht
    unfold rtB kilosB at ht
    replace ht0 := Lib.hid ht0
    obtain ⟨g2, hg2⟩ := g.alloc (rtO (rtAt c.rates k))
    have hn := World.alloc_heap_new g.x (rtO (rtAt c.rates k))
    rw [hg2] at hn
    obtain ⟨n0, n1, n2⟩ := row3b hn
    have zn := (zqo hn)
    have hrk2 := Lib.hid hrk
    clear hn hrk
    cases h1 : inB (rtAt c.rates k).fill 0 1000
    · have hf : Hid (rtB c.rates k = false) := Lib.hid (by rw [ht0.out, ← ht]; simp [h1])
      replace ht := Lib.hid ht
      go_wp2_with (go_at_call 25; (with_reducible refine Calls.mono (bookInT (by assumption) _) ?_); rintro e w' ⟨rfl, rfl⟩)
      go_ret
      exact BoolB.mk (by unfold Con.ok; rw [all_not hlt hf.out]; simp) (below_tr hBw.out g2.h)
    cases h2 : inB (rtAt c.rates k).inn 0 100000000
    · have hf : Hid (rtB c.rates k = false) := Lib.hid (by rw [ht0.out, ← ht]; simp [h1, h2])
      replace ht := Lib.hid ht
      go_wp2_with (go_at_call 25; (with_reducible refine Calls.mono (bookInT (by assumption) _) ?_); rintro e w' ⟨rfl, rfl⟩)
      go_ret
      exact BoolB.mk (by unfold Con.ok; rw [all_not hlt hf.out]; simp) (below_tr hBw.out g2.h)
    cases h3 : inB (rtAt c.rates k).out 0 100000000
    · have hf : Hid (rtB c.rates k = false) := Lib.hid (by rw [ht0.out, ← ht]; simp [h1, h2, h3])
      replace ht := Lib.hid ht
      go_wp2_with (go_at_call 25; (with_reducible refine Calls.mono (bookInT (by assumption) _) ?_); rintro e w' ⟨rfl, rfl⟩)
      go_ret
      exact BoolB.mk (by unfold Con.ok; rw [all_not hlt hf.out]; simp) (below_tr hBw.out g2.h)
    by_cases hk0 : k = 0
    · subst hk0
      simp only [Nat.zero_mul, Nat.add_zero] at c0 c1 c2
      by_cases hf0 : (rtAt c.rates 0).fill = 0
      · have hf : Hid (rtB c.rates 0 = true) := Lib.hid (by rw [ht0.out, ← ht]; simp [h1, h2, h3, hf0]; try decide)
        have hb0 : ((rtAt c.rates 0).fill != 0) = false := by rw [hf0]; rfl
        replace hf0 := Lib.hid hf0
        replace ht := Lib.hid ht
        go_wp2_with (go_at_call 25; (with_reducible refine Calls.mono (bookInT (by assumption) _) ?_); rintro e w' ⟨rfl, rfl⟩)
        go_quiet (fail)
        go_wp2_with (fail)
        have hH' : Hid (∀ j, j < 0 + 1 → rtB c.rates j = true) := Lib.hid (upto_succ' hH.out hf.out)
        obtain ⟨g3, hg3⟩ := g2.next (below_drewN (Below.refl _ _) nq)
        exact ⟨⟨0 + 1, by omega, by go_num, hH', g3, hg3⟩, by simp [intOf]; omega⟩
      · have hf : Hid (rtB c.rates 0 = false) := Lib.hid (by rw [ht0.out, ← ht]; simp [h1, h2, h3, hf0])
        have hb0 : ((rtAt c.rates 0).fill != 0) = true := by simpa using hf0
        replace hf0 := Lib.hid hf0
        replace ht := Lib.hid ht
        go_wp2_with (go_at_call 25; (with_reducible refine Calls.mono (bookInT (by assumption) _) ?_); rintro e w' ⟨rfl, rfl⟩)
        go_ret
        exact BoolB.mk (by unfold Con.ok; rw [all_not hlt hf.out]; simp) (below_tr hBw.out g2.h)
    · obtain ⟨p0, p1, p2⟩ := hrk2.out (k - 1) (by omega)
      have hkz : ((k : Int) == 0) = false := by simp; omega
      have hkp : 0 < k := by omega
      have hkq : decide (0 < k) = true := by simpa using hkp
      have hk1 : (0 : Int) < (k : Int) ∧ (0 : Int) ≤ (k : Int) - 1 ∧ (k : Int) - 1 < c.rates.length := by omega
      cases d1 : decide ((rtAt c.rates k).fill ≤ (rtAt c.rates (k - 1)).fill)
      · have e1 : (rtAt c.rates (k - 1)).fill < (rtAt c.rates k).fill := by simpa using d1
        cases d2 : decide ((rtAt c.rates (k - 1)).inn < (rtAt c.rates k).inn)
        · have e2 : (rtAt c.rates k).inn ≤ (rtAt c.rates (k - 1)).inn := by simpa using d2
          cases d3 : decide ((rtAt c.rates k).out < (rtAt c.rates (k - 1)).out)
          · have e3 : (rtAt c.rates (k - 1)).out ≤ (rtAt c.rates k).out := by simpa using d3
            have hf : Hid (rtB c.rates k = true) := Lib.hid (by rw [ht0.out, ← ht]; simp [h1, h2, h3, hk0, e1, e2, e3])
            replace ht := Lib.hid ht
            go_wp2_with (go_at_call 25; (with_reducible refine Calls.mono (bookInT (by assumption) _) ?_); rintro e w' ⟨rfl, rfl⟩)
            go_quiet (fail)
            go_wp2_with (fail)
            have hH' : Hid (∀ j, j < k + 1 → rtB c.rates j = true) := Lib.hid (upto_succ' hH.out hf.out)
            obtain ⟨g3, hg3⟩ := g2.next (below_drewN (Below.refl _ _) nq)
            exact ⟨⟨k + 1, by omega, by go_num, hH', g3, hg3⟩, by simp [intOf]; omega⟩
          · have e3 : (rtAt c.rates k).out < (rtAt c.rates (k - 1)).out := by simpa using d3
            have hf : Hid (rtB c.rates k = false) := Lib.hid (by rw [ht0.out, ← ht]; simp [h1, h2, h3, hk0, e1, e2, e3])
            replace ht := Lib.hid ht
            go_wp2_with (go_at_call 25; (with_reducible refine Calls.mono (bookInT (by assumption) _) ?_); rintro e w' ⟨rfl, rfl⟩)
            go_quiet (fail)
            go_wp2_with (fail)
            go_ret
            exact BoolB.mk (by unfold Con.ok; rw [all_not hlt hf.out]; simp) (below_tr hBw.out (below_drewN g2.h _))
        · have e2 : (rtAt c.rates (k - 1)).inn < (rtAt c.rates k).inn := by simpa using d2
          have hf : Hid (rtB c.rates k = false) := Lib.hid (by rw [ht0.out, ← ht]; simp [h1, h2, h3, hk0, e1, e2] <;> (intros; omega))
          replace ht := Lib.hid ht
          go_wp2_with (go_at_call 25; (with_reducible refine Calls.mono (bookInT (by assumption) _) ?_); rintro e w' ⟨rfl, rfl⟩)
          go_quiet (fail)
          go_wp2_with (fail)
          go_ret
          exact BoolB.mk (by unfold Con.ok; rw [all_not hlt hf.out]; simp) (below_tr hBw.out (below_drewN g2.h _))
      · have e1 : (rtAt c.rates k).fill ≤ (rtAt c.rates (k - 1)).fill := by simpa using d1
        have hf : Hid (rtB c.rates k = false) := Lib.hid (by rw [ht0.out, ← ht]; simp [h1, h2, h3, hk0, e1] <;> (intros; omega))
        replace ht := Lib.hid ht
        go_wp2_with (go_at_call 25; (with_reducible refine Calls.mono (bookInT (by assumption) _) ?_); rintro e w' ⟨rfl, rfl⟩)
        go_quiet (fail)
        go_wp2_with (fail)
        go_ret
        exact BoolB.mk (by unfold Con.ok; rw [all_not hlt hf.out]; simp) (below_tr hBw.out (below_drewN g2.h _))
  · have hall : Hid (c.ok = headB c) := Lib.hid (by unfold Con.ok; rw [all_up fun j hj => hH.out j (by omega)]; simp)
    clear hH hrow
    have kP : Hid (∀ X : World, Calls Tryz.prog 60 #[.slice (some ⟨X.heap.size, 0, none⟩) 5 5] (X.alloc (.cells #[.int .i64 c.fixed, .int .i64 c.inn, .int .i64 c.out, .int .i64 c.cut, .int .i64 c.lack] 3)) (BoolB ([c.fixed, c.inn, c.out, c.cut, c.lack].all priceB) (X.alloc (.cells #[.int .i64 c.fixed, .int .i64 c.inn, .int .i64 c.out, .int .i64 c.cut, .int .i64 c.lack] 3)))) := Lib.hid fun X => bookPrices _ _ _ (ints5 X _ _ _ _ _)
    obtain ⟨hv, hhv⟩ : ∃ b, hoursB c.lo c.hi = b := ⟨_, rfl⟩
    have kH : Hid (∀ X : World, Calls Tryz.prog 59 #[.agg #[.int .i64 c.lo, .int .i64 c.hi]] X fun e w' => e = .returned (.bool hv) ∧ Below X.heap.size X w') := Lib.hid fun X => (bookHours c.lo c.hi X).mono fun e w' h => h.lit hhv
    have hhh := Lib.hid hhv
    clear hhv
    cases h1 : inB c.space 1 100000000
    · have hf : Hid (c.ok = false) := Lib.hid (by rw [hall.out]; simp [headB, h1])
      go_wp2_with (first | (go_at_call 25; (with_reducible refine Calls.mono (bookInT (by assumption) _) ?_); rintro e w' ⟨rfl, rfl⟩) | (go_at_call 59; (with_reducible refine Calls.mono (kH.out _) ?_); rintro e w' ⟨rfl, hb1⟩; obtain ⟨g1, rfl⟩ := g.next hb1) | (go_at_call 60; (with_reducible refine Calls.mono (kP.out _) ?_); rintro e w' ⟨t, rfl, ht, hb2⟩))
      go_ret
      exact BoolB.mk hf.out (below_tr hBw.out g.h)
    cases hv
    · have hf : Hid (c.ok = false) := Lib.hid (by rw [hall.out]; simp [headB, hhh.out])
      go_wp2_with (first | (go_at_call 25; (with_reducible refine Calls.mono (bookInT (by assumption) _) ?_); rintro e w' ⟨rfl, rfl⟩) | (go_at_call 59; (with_reducible refine Calls.mono (kH.out _) ?_); rintro e w' ⟨rfl, hb1⟩; obtain ⟨g1, rfl⟩ := g.next hb1) | (go_at_call 60; (with_reducible refine Calls.mono (kP.out _) ?_); rintro e w' ⟨t, rfl, ht, hb2⟩))
      go_ret
      exact BoolB.mk hf.out (below_tr hBw.out g1.h)
    cases h3 : inB (c.rates.length : Int) 1 6
    · have hf : Hid (c.ok = false) := Lib.hid (by rw [hall.out]; simp [headB, h3])
      go_wp2_with (first | (go_at_call 25; (with_reducible refine Calls.mono (bookInT (by assumption) _) ?_); rintro e w' ⟨rfl, rfl⟩) | (go_at_call 59; (with_reducible refine Calls.mono (kH.out _) ?_); rintro e w' ⟨rfl, hb1⟩; obtain ⟨g1, rfl⟩ := g.next hb1) | (go_at_call 60; (with_reducible refine Calls.mono (kP.out _) ?_); rintro e w' ⟨t, rfl, ht, hb2⟩))
      go_ret
      exact BoolB.mk hf.out (below_tr hBw.out g1.h)
    cases h4 : inB c.gas 0 c.space
    · have hf : Hid (c.ok = false) := Lib.hid (by rw [hall.out]; simp [headB, h4])
      go_wp2_with (first | (go_at_call 25; (with_reducible refine Calls.mono (bookInT (by assumption) _) ?_); rintro e w' ⟨rfl, rfl⟩) | (go_at_call 59; (with_reducible refine Calls.mono (kH.out _) ?_); rintro e w' ⟨rfl, hb1⟩; obtain ⟨g1, rfl⟩ := g.next hb1) | (go_at_call 60; (with_reducible refine Calls.mono (kP.out _) ?_); rintro e w' ⟨t, rfl, ht, hb2⟩))
      go_ret
      exact BoolB.mk hf.out (below_tr hBw.out g1.h)
    have hf : Hid (c.ok = [c.fixed, c.inn, c.out, c.cut, c.lack].all priceB) := Lib.hid (by rw [hall.out]; simp [headB, h1, h3, h4, hhh.out, pricesB, Bool.and_assoc])
    go_wp2_with (first | (go_at_call 25; (with_reducible refine Calls.mono (bookInT (by assumption) _) ?_); rintro e w' ⟨rfl, rfl⟩) | (go_at_call 59; (with_reducible refine Calls.mono (kH.out _) ?_); rintro e w' ⟨rfl, hb1⟩; obtain ⟨g1, rfl⟩ := g.next hb1) | (go_at_call 60; (with_reducible refine Calls.mono (kP.out _) ?_); rintro e w' ⟨t, rfl, ht, hb2⟩))
    go_ret
    exact BoolB.mk (by rw [hf.out]; exact ht) (below_tr hBw.out (below_tr g1.h (below_tr ((Below.refl _ _).alloc (Nat.le_refl _) _) hb2)))
end Go.Proofs.YtpcamocnlnlgiaaGreat.B
set_option linter.unusedVariables false
set_option linter.unusedSimpArgs false
namespace Go.Proofs.YtpcamocnlnlgiaaGreat.B
open Go.RowKit Go.Sd Wl Bk L
attribute [local go_sem] Oper.semAt_some
theorem kilos06T {a : Int} {t : Bool} (h : kilosB a = t) (w : World) : Calls Tryz.prog 16 #[.int .i64 a] w fun e w' => e = .returned (.bool t) ∧ w = w' :=
 (kilos06 a w).mono fun e w' ⟨t', he, ht, hw⟩ => ⟨by rw [he, ← ht.out, h], hw⟩
theorem price06T {a : Int} {t : Bool} (h : priceB a = t) (w : World) : Calls Tryz.prog 15 #[.int .i64 a] w fun e w' => e = .returned (.bool t) ∧ w = w' :=
 (price06 a w).mono fun e w' ⟨t', he, ht, hw⟩ => ⟨by rw [he, ← ht.out, h], hw⟩
theorem refContract (c : Con) (rv : Value) (w : World) (hr : RtsAt w rv c.rates) : Calls Tryz.prog 4 #[conV rv c] w (BoolB c.ok w) := by
 obtain ⟨W, hW⟩ : ∃ W, w.alloc (conO rv c) = W := ⟨_, rfl⟩
 obtain ⟨e, bW, z⟩ := boxedB hW
 obtain ⟨q0, q1, q2, q3, q4, q5, q6, q7, q8, q9, q10⟩ := row11 e
 have hrW := hr.mono bW
 obtain ⟨ra, rcap, rfl, hrm, -⟩ := hr
 unfold maxLen at hrm
 have hrow : Hid (0 < c.rates.length → _) := Lib.hid (rts_row hrW)
 have hBw := Lib.hid bW
 have hg := grow_cell W
 clear e bW hrW
 obtain ⟨hv, hhv⟩ : ∃ b, hoursB c.lo c.hi = b := ⟨_, rfl⟩
 have kH : Hid (Calls Tryz.prog 14 #[.agg #[.int .i64 c.lo, .int .i64 c.hi]] W fun e w' => e = .returned (.bool hv) ∧ Below W.heap.size W w') := Lib.hid ((hours06 c.lo c.hi W).mono fun e w' h => h.lit hhv)
 have hhh := Lib.hid hhv
 clear hhv
 cases h1 : inB c.space 1 100000000
 · have hf : Hid (c.ok = false) := Lib.hid (by unfold Con.ok headB pricesB; simp [h1])
   go_enter Tryz.func4, Tryz.ntmps4
   go_wp2_with (first | (go_at_call 13; (with_reducible refine Calls.mono (in06T (by assumption) _) ?_); rintro e w' ⟨rfl, rfl⟩) | (go_at_call 14; (with_reducible refine Calls.mono kH.out ?_); rintro e w' ⟨rfl, hb1⟩; obtain ⟨g1, rfl⟩ : ∃ g1 : Grow W, w' = g1.x := ⟨⟨w', hb1⟩, rfl⟩) | (go_at_call 15; (with_reducible refine Calls.mono (price06T (by assumption) _) ?_); rintro e w' ⟨rfl, rfl⟩))
   go_ret
   exact BoolB.mk hf.out hBw.out
 cases hv
 · have hf : Hid (c.ok = false) := Lib.hid (by unfold Con.ok headB pricesB; simp [hhh.out])
   go_enter Tryz.func4, Tryz.ntmps4
   go_wp2_with (first | (go_at_call 13; (with_reducible refine Calls.mono (in06T (by assumption) _) ?_); rintro e w' ⟨rfl, rfl⟩) | (go_at_call 14; (with_reducible refine Calls.mono kH.out ?_); rintro e w' ⟨rfl, hb1⟩; obtain ⟨g1, rfl⟩ : ∃ g1 : Grow W, w' = g1.x := ⟨⟨w', hb1⟩, rfl⟩) | (go_at_call 15; (with_reducible refine Calls.mono (price06T (by assumption) _) ?_); rintro e w' ⟨rfl, rfl⟩))
   go_ret
   exact BoolB.mk hf.out (below_tr hBw.out g1.h)
 cases h3 : inB (c.rates.length : Int) 1 6
 · have hf : Hid (c.ok = false) := Lib.hid (by unfold Con.ok headB pricesB; simp [h3])
   go_enter Tryz.func4, Tryz.ntmps4
   go_wp2_with (first | (go_at_call 13; (with_reducible refine Calls.mono (in06T (by assumption) _) ?_); rintro e w' ⟨rfl, rfl⟩) | (go_at_call 14; (with_reducible refine Calls.mono kH.out ?_); rintro e w' ⟨rfl, hb1⟩; obtain ⟨g1, rfl⟩ : ∃ g1 : Grow W, w' = g1.x := ⟨⟨w', hb1⟩, rfl⟩) | (go_at_call 15; (with_reducible refine Calls.mono (price06T (by assumption) _) ?_); rintro e w' ⟨rfl, rfl⟩))
   go_ret
   exact BoolB.mk hf.out (below_tr hBw.out g1.h)
 cases h4 : inB c.gas 0 c.space
 · have hf : Hid (c.ok = false) := Lib.hid (by unfold Con.ok headB pricesB; simp [h4])
   go_enter Tryz.func4, Tryz.ntmps4
   go_wp2_with (first | (go_at_call 13; (with_reducible refine Calls.mono (in06T (by assumption) _) ?_); rintro e w' ⟨rfl, rfl⟩) | (go_at_call 14; (with_reducible refine Calls.mono kH.out ?_); rintro e w' ⟨rfl, hb1⟩; obtain ⟨g1, rfl⟩ : ∃ g1 : Grow W, w' = g1.x := ⟨⟨w', hb1⟩, rfl⟩) | (go_at_call 15; (with_reducible refine Calls.mono (price06T (by assumption) _) ?_); rintro e w' ⟨rfl, rfl⟩))
   go_ret
   exact BoolB.mk hf.out (below_tr hBw.out g1.h)
 cases p1 : priceB c.fixed
 · have hf : Hid (c.ok = false) := Lib.hid (by unfold Con.ok headB pricesB; simp [p1])
   go_enter Tryz.func4, Tryz.ntmps4
   go_wp2_with (first | (go_at_call 13; (with_reducible refine Calls.mono (in06T (by assumption) _) ?_); rintro e w' ⟨rfl, rfl⟩) | (go_at_call 14; (with_reducible refine Calls.mono kH.out ?_); rintro e w' ⟨rfl, hb1⟩; obtain ⟨g1, rfl⟩ : ∃ g1 : Grow W, w' = g1.x := ⟨⟨w', hb1⟩, rfl⟩) | (go_at_call 15; (with_reducible refine Calls.mono (price06T (by assumption) _) ?_); rintro e w' ⟨rfl, rfl⟩))
   go_ret
   exact BoolB.mk hf.out (below_tr hBw.out g1.h)
 cases p2 : priceB c.inn
 · have hf : Hid (c.ok = false) := Lib.hid (by unfold Con.ok headB pricesB; simp [p2])
   go_enter Tryz.func4, Tryz.ntmps4
   go_wp2_with (first | (go_at_call 13; (with_reducible refine Calls.mono (in06T (by assumption) _) ?_); rintro e w' ⟨rfl, rfl⟩) | (go_at_call 14; (with_reducible refine Calls.mono kH.out ?_); rintro e w' ⟨rfl, hb1⟩; obtain ⟨g1, rfl⟩ : ∃ g1 : Grow W, w' = g1.x := ⟨⟨w', hb1⟩, rfl⟩) | (go_at_call 15; (with_reducible refine Calls.mono (price06T (by assumption) _) ?_); rintro e w' ⟨rfl, rfl⟩))
   go_ret
   exact BoolB.mk hf.out (below_tr hBw.out g1.h)
 cases p3 : priceB c.out
 · have hf : Hid (c.ok = false) := Lib.hid (by unfold Con.ok headB pricesB; simp [p3])
   go_enter Tryz.func4, Tryz.ntmps4
   go_wp2_with (first | (go_at_call 13; (with_reducible refine Calls.mono (in06T (by assumption) _) ?_); rintro e w' ⟨rfl, rfl⟩) | (go_at_call 14; (with_reducible refine Calls.mono kH.out ?_); rintro e w' ⟨rfl, hb1⟩; obtain ⟨g1, rfl⟩ : ∃ g1 : Grow W, w' = g1.x := ⟨⟨w', hb1⟩, rfl⟩) | (go_at_call 15; (with_reducible refine Calls.mono (price06T (by assumption) _) ?_); rintro e w' ⟨rfl, rfl⟩))
   go_ret
   exact BoolB.mk hf.out (below_tr hBw.out g1.h)
 cases p4 : priceB c.cut
 · have hf : Hid (c.ok = false) := Lib.hid (by unfold Con.ok headB pricesB; simp [p4])
   go_enter Tryz.func4, Tryz.ntmps4
   go_wp2_with (first | (go_at_call 13; (with_reducible refine Calls.mono (in06T (by assumption) _) ?_); rintro e w' ⟨rfl, rfl⟩) | (go_at_call 14; (with_reducible refine Calls.mono kH.out ?_); rintro e w' ⟨rfl, hb1⟩; obtain ⟨g1, rfl⟩ : ∃ g1 : Grow W, w' = g1.x := ⟨⟨w', hb1⟩, rfl⟩) | (go_at_call 15; (with_reducible refine Calls.mono (price06T (by assumption) _) ?_); rintro e w' ⟨rfl, rfl⟩))
   go_ret
   exact BoolB.mk hf.out (below_tr hBw.out g1.h)
 cases p5 : priceB c.lack
 · have hf : Hid (c.ok = false) := Lib.hid (by unfold Con.ok headB pricesB; simp [p5])
   go_enter Tryz.func4, Tryz.ntmps4
   go_wp2_with (first | (go_at_call 13; (with_reducible refine Calls.mono (in06T (by assumption) _) ?_); rintro e w' ⟨rfl, rfl⟩) | (go_at_call 14; (with_reducible refine Calls.mono kH.out ?_); rintro e w' ⟨rfl, hb1⟩; obtain ⟨g1, rfl⟩ : ∃ g1 : Grow W, w' = g1.x := ⟨⟨w', hb1⟩, rfl⟩) | (go_at_call 15; (with_reducible refine Calls.mono (price06T (by assumption) _) ?_); rintro e w' ⟨rfl, rfl⟩))
   go_ret
   exact BoolB.mk hf.out (below_tr hBw.out g1.h)
 have hhd : Hid (headB c = true) := Lib.hid (by unfold headB pricesB; simp [h1, hhh.out, h3, h4, p1, p2, p3, p4, p5])
 go_enter Tryz.func4, Tryz.ntmps4
 go_wp2_with (first | (go_at_call 13; (with_reducible refine Calls.mono (in06T (by assumption) _) ?_); rintro e w' ⟨rfl, rfl⟩) | (go_at_call 14; (with_reducible refine Calls.mono kH.out ?_); rintro e w' ⟨rfl, hb1⟩; obtain ⟨g1, rfl⟩ : ∃ g1 : Grow W, w' = g1.x := ⟨⟨w', hb1⟩, rfl⟩) | (go_at_call 15; (with_reducible refine Calls.mono (price06T (by assumption) _) ?_); rintro e w' ⟨rfl, rfl⟩))
 clear h1 h3 h4 p1 p2 p3 p4 p5 kH
 go_loopw [3] (fun i wr => ∃ k : Nat, k ≤ c.rates.length ∧ i = .int .i64 k ∧ Hid (∀ j, j < k → rtB c.rates j = true) ∧ ∃ g : Grow W, wr = g.x) (fun i _ => c.rates.length - (intOf i).toNat)
 case atStart => exact ⟨0, by omega, rfl, Lib.hid fun j h => by omega, g1, rfl⟩
 case round =>
  obtain ⟨k, hk, rfl, hH, g, rfl⟩ := hrel
  by_cases hlt : k < c.rates.length
  · obtain ⟨b, off, rfl, hbl, hrk⟩ := hrow.out (by omega)
    obtain ⟨c0, c1, c2⟩ := hrk k hlt
    have hki : (0 : Int) ≤ (k : Int) ∧ (k : Int) < c.rates.length := by omega
    obtain ⟨t, ht⟩ : ∃ t, rtB c.rates k = t := ⟨_, rfl⟩
    have ht0 := ht
    unfold rtB at ht
    replace ht0 := Lib.hid ht0
    obtain ⟨g2, hg2⟩ := g.alloc (rtO (rtAt c.rates k))
    have hn := World.alloc_heap_new g.x (rtO (rtAt c.rates k))
    rw [hg2] at hn
    obtain ⟨n0, n1, n2⟩ := row3b hn
    have zn := (zqo hn)
    have hrk2 := Lib.hid hrk
    clear hn hrk
    cases h1 : inB (rtAt c.rates k).fill 0 1000
    · have hf : Hid (rtB c.rates k = false) := Lib.hid (by rw [ht0.out, ← ht]; simp [h1])
      replace ht := Lib.hid ht
      go_wp2_with (first | (go_at_call 13; (with_reducible refine Calls.mono (in06T (by assumption) _) ?_); rintro e w' ⟨rfl, rfl⟩) | (go_at_call 16; (with_reducible refine Calls.mono (kilos06T (by assumption) _) ?_); rintro e w' ⟨rfl, rfl⟩))
      go_ret
      exact BoolB.mk (by unfold Con.ok; rw [all_not hlt hf.out]; simp) (below_tr hBw.out g2.h)
    cases h2 : kilosB (rtAt c.rates k).inn
    · have hf : Hid (rtB c.rates k = false) := Lib.hid (by rw [ht0.out, ← ht]; simp [h1, h2])
      replace ht := Lib.hid ht
      go_wp2_with (first | (go_at_call 13; (with_reducible refine Calls.mono (in06T (by assumption) _) ?_); rintro e w' ⟨rfl, rfl⟩) | (go_at_call 16; (with_reducible refine Calls.mono (kilos06T (by assumption) _) ?_); rintro e w' ⟨rfl, rfl⟩))
      go_ret
      exact BoolB.mk (by unfold Con.ok; rw [all_not hlt hf.out]; simp) (below_tr hBw.out g2.h)
    cases h3 : kilosB (rtAt c.rates k).out
    · have hf : Hid (rtB c.rates k = false) := Lib.hid (by rw [ht0.out, ← ht]; simp [h1, h2, h3])
      replace ht := Lib.hid ht
      go_wp2_with (first | (go_at_call 13; (with_reducible refine Calls.mono (in06T (by assumption) _) ?_); rintro e w' ⟨rfl, rfl⟩) | (go_at_call 16; (with_reducible refine Calls.mono (kilos06T (by assumption) _) ?_); rintro e w' ⟨rfl, rfl⟩))
      go_ret
      exact BoolB.mk (by unfold Con.ok; rw [all_not hlt hf.out]; simp) (below_tr hBw.out g2.h)
    by_cases hk0 : k = 0
    · subst hk0
      simp only [Nat.zero_mul, Nat.add_zero] at c0 c1 c2
      by_cases hf0 : (rtAt c.rates 0).fill = 0
      · have hf : Hid (rtB c.rates 0 = true) := Lib.hid (by rw [ht0.out, ← ht]; simp [h1, h2, h3, hf0]; try decide)
        have hb0 : ((rtAt c.rates 0).fill != 0) = false := by rw [hf0]; rfl
        replace hf0 := Lib.hid hf0
        replace ht := Lib.hid ht
        go_wp2_with (first | (go_at_call 13; (with_reducible refine Calls.mono (in06T (by assumption) _) ?_); rintro e w' ⟨rfl, rfl⟩) | (go_at_call 16; (with_reducible refine Calls.mono (kilos06T (by assumption) _) ?_); rintro e w' ⟨rfl, rfl⟩))
        go_quiet (fail)
        go_wp2_with (fail)
        have hH' : Hid (∀ j, j < 0 + 1 → rtB c.rates j = true) := Lib.hid (upto_succ' hH.out hf.out)
        obtain ⟨g3, hg3⟩ := g2.next (below_drewN (Below.refl _ _) nq)
        exact ⟨⟨0 + 1, by omega, by go_num, hH', g3, hg3⟩, by simp [intOf]; omega⟩
      · have hf : Hid (rtB c.rates 0 = false) := Lib.hid (by rw [ht0.out, ← ht]; simp [h1, h2, h3, hf0])
        have hb0 : ((rtAt c.rates 0).fill != 0) = true := by simpa using hf0
        replace hf0 := Lib.hid hf0
        replace ht := Lib.hid ht
        go_wp2_with (first | (go_at_call 13; (with_reducible refine Calls.mono (in06T (by assumption) _) ?_); rintro e w' ⟨rfl, rfl⟩) | (go_at_call 16; (with_reducible refine Calls.mono (kilos06T (by assumption) _) ?_); rintro e w' ⟨rfl, rfl⟩))
        go_ret
        exact BoolB.mk (by unfold Con.ok; rw [all_not hlt hf.out]; simp) (below_tr hBw.out g2.h)
    · obtain ⟨p0, p1, p2⟩ := hrk2.out (k - 1) (by omega)
      have hkz : ((k : Int) == 0) = false := by simp; omega
      have hkp : 0 < k := by omega
      have hkq : decide (0 < k) = true := by simpa using hkp
      have hk1 : (0 : Int) < (k : Int) ∧ (0 : Int) ≤ (k : Int) - 1 ∧ (k : Int) - 1 < c.rates.length := by omega
      cases d1 : decide ((rtAt c.rates k).fill ≤ (rtAt c.rates (k - 1)).fill)
      · have e1 : (rtAt c.rates (k - 1)).fill < (rtAt c.rates k).fill := by simpa using d1
        cases d2 : decide ((rtAt c.rates (k - 1)).inn < (rtAt c.rates k).inn)
        · have e2 : (rtAt c.rates k).inn ≤ (rtAt c.rates (k - 1)).inn := by simpa using d2
          cases d3 : decide ((rtAt c.rates k).out < (rtAt c.rates (k - 1)).out)
          · have e3 : (rtAt c.rates (k - 1)).out ≤ (rtAt c.rates k).out := by simpa using d3
            have hf : Hid (rtB c.rates k = true) := Lib.hid (by rw [ht0.out, ← ht]; simp [h1, h2, h3, hk0, e1, e2, e3])
            replace ht := Lib.hid ht
            go_wp2_with (first | (go_at_call 13; (with_reducible refine Calls.mono (in06T (by assumption) _) ?_); rintro e w' ⟨rfl, rfl⟩) | (go_at_call 16; (with_reducible refine Calls.mono (kilos06T (by assumption) _) ?_); rintro e w' ⟨rfl, rfl⟩))
            go_quiet (fail)
            go_wp2_with (fail)
            have hH' : Hid (∀ j, j < k + 1 → rtB c.rates j = true) := Lib.hid (upto_succ' hH.out hf.out)
            obtain ⟨g3, hg3⟩ := g2.next (below_drewN (Below.refl _ _) nq)
            exact ⟨⟨k + 1, by omega, by go_num, hH', g3, hg3⟩, by simp [intOf]; omega⟩
          · have e3 : (rtAt c.rates k).out < (rtAt c.rates (k - 1)).out := by simpa using d3
            have hf : Hid (rtB c.rates k = false) := Lib.hid (by rw [ht0.out, ← ht]; simp [h1, h2, h3, hk0, e1, e2, e3])
            replace ht := Lib.hid ht
            go_wp2_with (first | (go_at_call 13; (with_reducible refine Calls.mono (in06T (by assumption) _) ?_); rintro e w' ⟨rfl, rfl⟩) | (go_at_call 16; (with_reducible refine Calls.mono (kilos06T (by assumption) _) ?_); rintro e w' ⟨rfl, rfl⟩))
            go_quiet (fail)
            go_wp2_with (fail)
            go_ret
            exact BoolB.mk (by unfold Con.ok; rw [all_not hlt hf.out]; simp) (below_tr hBw.out (below_drewN g2.h _))
        · have e2 : (rtAt c.rates (k - 1)).inn < (rtAt c.rates k).inn := by simpa using d2
          have hf : Hid (rtB c.rates k = false) := Lib.hid (by rw [ht0.out, ← ht]; simp [h1, h2, h3, hk0, e1, e2] <;> (intros; omega))
          replace ht := Lib.hid ht
          go_wp2_with (first | (go_at_call 13; (with_reducible refine Calls.mono (in06T (by assumption) _) ?_); rintro e w' ⟨rfl, rfl⟩) | (go_at_call 16; (with_reducible refine Calls.mono (kilos06T (by assumption) _) ?_); rintro e w' ⟨rfl, rfl⟩))
          go_quiet (fail)
          go_wp2_with (fail)
          go_ret
          exact BoolB.mk (by unfold Con.ok; rw [all_not hlt hf.out]; simp) (below_tr hBw.out (below_drewN g2.h _))
      · have e1 : (rtAt c.rates k).fill ≤ (rtAt c.rates (k - 1)).fill := by simpa using d1
        have hf : Hid (rtB c.rates k = false) := Lib.hid (by rw [ht0.out, ← ht]; simp [h1, h2, h3, hk0, e1] <;> (intros; omega))
        replace ht := Lib.hid ht
        go_wp2_with (first | (go_at_call 13; (with_reducible refine Calls.mono (in06T (by assumption) _) ?_); rintro e w' ⟨rfl, rfl⟩) | (go_at_call 16; (with_reducible refine Calls.mono (kilos06T (by assumption) _) ?_); rintro e w' ⟨rfl, rfl⟩))
        go_quiet (fail)
        go_wp2_with (fail)
        go_ret
        exact BoolB.mk (by unfold Con.ok; rw [all_not hlt hf.out]; simp) (below_tr hBw.out (below_drewN g2.h _))
  · have hall : Hid (c.ok = true) := Lib.hid (by unfold Con.ok; rw [all_up fun j hj => hH.out j (by omega), hhd.out]; rfl)
    clear hH hrow
    go_wp2_with (fail)
    go_ret
    exact BoolB.mk hall.out (below_tr hBw.out g.h)
end Go.Proofs.YtpcamocnlnlgiaaGreat.B
