/- Gas: the law GasPlays. -/
import Derived.Test.YtdilgjhdimlbkaaRpl
set_option linter.unusedVariables false
set_option linter.unusedSimpArgs false
namespace Gas
/-- What gas.Play yields. -/
structure PlayIs (c : Cav) (p : Pt) (l : List Op) (xa xb : List Int) (X O : Pt) (E : Int) : Prop where
  bad : ¬ playErr c p l xa xb = 0 → E = playErr c p l xa xb ∧ X = ⟨0, 0, 0, 0⟩ ∧ O = ⟨0, 0, 0, 0⟩
  isNone : playErr c p l xa xb = 0 → play c p l xa xb = none → E = 7 ∧ X = ⟨0, 0, 0, 0⟩ ∧ O = ⟨0, 0, 0, 0⟩
  isSome : playErr c p l xa xb = 0 → play c p l xa xb = some (X, O) ∨ play c p l xa xb = none
  isFine : playErr c p l xa xb = 0 → play c p l xa xb = some (X, O) → E = 0
end Gas
namespace Go.Proofs.Ytdilgjhdimlbkaa
open Go.RowKit Go.Sd Gas

theorem play_is (c : Cav) (p : Pt) (l : List Gas.Op) (xa xb : List Int) : ∃ X O E, PlayIs c p l xa xb X O E ∧ ∀ (lv av bv : Value) (w : World), OpsAt w lv l → IntsAt w av xa → IntsAt w bv xb →
    Calls Try.prog 5 #[cavV c, ptV p, lv, av, bv] w fun e w' => e = .returned (.tuple #[ptV X, ptV O, .int .i64 E]) ∧ Below w.heap.size w w' := by
  by_cases h : playErr c p l xa xb = 0
  · cases hp : play c p l xa xb with
    | none => exact ⟨_, _, _, ⟨fun h' => absurd h h', fun _ _ => ⟨rfl, rfl, rfl⟩, fun _ => .inr hp, fun _ h' => (by rw [hp] at h'; cases h')⟩, fun lv av bv w hl ha hb => progPlayNone w hl ha hb h hp⟩
    | some r =>
      obtain ⟨q, sm⟩ := r
      exact ⟨_, _, _, ⟨fun h' => absurd h h', fun _ h' => (by rw [hp] at h'; cases h'), fun _ => .inl hp, fun _ _ => rfl⟩, fun lv av bv w hl ha hb => progPlaySome w hl ha hb h hp⟩
  · exact ⟨_, _, _, ⟨fun _ => ⟨rfl, rfl, rfl⟩, fun h' => absurd h' h, fun h' => absurd h' h, fun h' => absurd h' h⟩, fun lv av bv w hl ha hb => progPlayBad w hl ha hb rfl h⟩
structure LpSt (c : Cav) (p : Pt) (n bx bo : Nat) (X O : Pt) (W V : World) : Prop where
  c : V.heap[n]? = some (.cells #[.int .i64 c.vlo, .int .i64 c.vhi, .int .i64 c.least, .int .i64 c.most, .int .i64 c.f0, .int .i64 c.f1, .int .i64 c.h0, .int .i64 c.h1, .int .i64 c.rock, .int .i64 c.plo, .int .i64 c.phi] 26)
  p : V.heap[n + 1]? = some (ptO p)
  x : V.heap[bx]? = some (ptO X)
  o : V.heap[bo]? = some (ptO O)
  bel : Below W.heap.size W V
theorem LpSt.mono {c : Cav} {p : Pt} {n bx bo : Nat} {X O : Pt} {W V U : World} (h : LpSt c p n bx bo X O W V) (hb : Below V.heap.size V U) : LpSt c p n bx bo X O W U := ⟨kept_block hb h.c, kept_block hb h.p, kept_block hb h.x, kept_block hb h.o, below_tr h.bel hb⟩

set_option maxRecDepth 100000 in
set_option maxHeartbeats 16000000 in
theorem lawPlays (c : Cav) (p : Pt) (lv : Value) (l : List Gas.Op) (av : Value) (xa : List Int) (bv : Value) (xb : List Int) (w : World) (hl : OpsAt w lv l) (ha : IntsAt w av xa) (hb : IntsAt w bv xb) :
    Calls Try.prog 3 #[cavV c, ptV p, lv, av, bv] w fun e w' => e = .returned (.bool true) ∧ Below w.heap.size w w' := by
  have kK := Lib.hid (fun X => progKnown X)
  obtain ⟨W, hW⟩ : ∃ W, (w.alloc (.cells #[.int .i64 c.vlo, .int .i64 c.vhi, .int .i64 c.least, .int .i64 c.most, .int .i64 c.f0, .int .i64 c.f1, .int .i64 c.h0, .int .i64 c.h1, .int .i64 c.rock, .int .i64 c.plo, .int .i64 c.phi] 26)).alloc (ptO p) = W := ⟨_, rfl⟩
  obtain ⟨e0, e1, sW, bW⟩ := two_new hW
  obtain ⟨X, O, E, hI, hP⟩ := play_is c p l xa xb
  have hl1 := Lib.hid (hl.mono bW); have ha1 := Lib.hid (ha.mono bW); have hb1 := Lib.hid (hb.mono bW)
  obtain ⟨la, lc, rfl, hml, -⟩ := hl
  obtain ⟨aa, ac, rfl, hma, -⟩ := ha
  obtain ⟨ba, bc, rfl, hmb, -⟩ := hb
  clear hml hma hmb
  have kP := Lib.hid (fun w (h : Below W.heap.size W w) => hP _ _ _ w (hl1.out.mono h) (ha1.out.mono h) (hb1.out.mono h))
  have kC := Lib.hid (fun w => (refCavern c w).mono fun e w' (h : BoolB c.ok w e w') => BoolB.lit h rfl)
  have kQ := Lib.hid (fun w => (refPoint p w).mono fun e w' (h : BoolB p.ok w e w') => BoolB.lit h rfl)
  have kO := Lib.hid (fun w (h : Below W.heap.size W w) => refOps _ l w (hl1.out.mono h))
  have kT := Lib.hid (fun w (h : Below W.heap.size W w) => refTruth _ _ _ l xa xb w (hl1.out.mono h) (ha1.out.mono h) (hb1.out.mono h))
  have hE0 := Lib.hid e0; have hE1 := Lib.hid e1; have hBW := Lib.hid bW
  have hIh := Lib.hid hI
  replace hW := Lib.hid hW
  clear hP hI sW bW
  go_enter Try.func3, Try.ntmps3
  go_upto_region 1 with fail
  rw [hW.out]
  clear hW
  go_cut [40] from 18 to 40 (fun u wx => ∃ G : Bool, u = .bool G ∧ wx = W ∧ Hid (G = false → (l.length ≤ 12 ∨ 20 < l.length) ∧ l.length ≤ 30))
  case first =>
    by_cases h1 : 12 < l.length
    · have d1 : decide ((12 : Int) < (l.length : Int)) = true := decide_eq_true (by omega)
      have d1' : decide (12 < l.length) = true := decide_eq_true h1
      by_cases h2 : l.length ≤ 20
      · have d2 : decide ((l.length : Int) ≤ 20) = true := decide_eq_true (by omega)
        have d2' : decide (l.length ≤ 20) = true := decide_eq_true h2
        go_wp2_with fail
        go_meet
        exact ⟨true, rfl, rfl, Lib.hid fun h => (by cases h)⟩
      · have d2 : decide ((l.length : Int) ≤ 20) = false := decide_eq_false (by omega)
        have d2' : decide (l.length ≤ 20) = false := decide_eq_false h2
        by_cases h3 : 30 < l.length
        · have d3 : decide ((30 : Int) < (l.length : Int)) = true := decide_eq_true (by omega)
          have d3' : decide (30 < l.length) = true := decide_eq_true h3
          go_wp2_with fail
          go_meet
          exact ⟨true, rfl, rfl, Lib.hid fun h => (by cases h)⟩
        · have d3 : decide ((30 : Int) < (l.length : Int)) = false := decide_eq_false (by omega)
          have d3' : decide (30 < l.length) = false := decide_eq_false h3
          by_cases h4 : 40 < xa.length
          · have d4 : decide ((40 : Int) < (xa.length : Int)) = true := decide_eq_true (by omega)
            have d4' : decide (40 < xa.length) = true := decide_eq_true h4
            go_wp2_with fail
            go_meet
            exact ⟨true, rfl, rfl, Lib.hid fun h => (by cases h)⟩
          · have d4 : decide ((40 : Int) < (xa.length : Int)) = false := decide_eq_false (by omega)
            have d4' : decide (40 < xa.length) = false := decide_eq_false h4
            go_wp2_with fail
            go_meet
            exact ⟨_, rfl, rfl, Lib.hid fun _ => ⟨by omega, by omega⟩⟩
    · have d1 : decide ((12 : Int) < (l.length : Int)) = false := decide_eq_false (by omega)
      have d1' : decide (12 < l.length) = false := decide_eq_false h1
      by_cases h3 : 30 < l.length
      · have d3 : decide ((30 : Int) < (l.length : Int)) = true := decide_eq_true (by omega)
        have d3' : decide (30 < l.length) = true := decide_eq_true h3
        go_wp2_with fail
        go_meet
        exact ⟨true, rfl, rfl, Lib.hid fun h => (by cases h)⟩
      · have d3 : decide ((30 : Int) < (l.length : Int)) = false := decide_eq_false (by omega)
        have d3' : decide (30 < l.length) = false := decide_eq_false h3
        by_cases h4 : 40 < xa.length
        · have d4 : decide ((40 : Int) < (xa.length : Int)) = true := decide_eq_true (by omega)
          have d4' : decide (40 < xa.length) = true := decide_eq_true h4
          go_wp2_with fail
          go_meet
          exact ⟨true, rfl, rfl, Lib.hid fun h => (by cases h)⟩
        · have d4 : decide ((40 : Int) < (xa.length : Int)) = false := decide_eq_false (by omega)
          have d4' : decide (40 < xa.length) = false := decide_eq_false h4
          go_wp2_with fail
          go_meet
          exact ⟨_, rfl, rfl, Lib.hid fun _ => ⟨by omega, by omega⟩⟩
  case rest =>
  obtain ⟨G, rfl, hw, hG⟩ := hcut
  obtain rfl : W = wc := hw.symm
  clear hw
  cases G
  · obtain ⟨hlen, hl30⟩ := hG.out rfl
    clear hG
    obtain ⟨c0, c1, c2, c3, c4, c5, c6, c7, c8, c9, c10⟩ := rc11 hE0.out
    obtain ⟨q0, q1, q2, q3⟩ := rc4 hE1.out
    have z0 := (Array.getElem?_eq_some_iff.1 hE0.out).1
    have z1 := (Array.getElem?_eq_some_iff.1 hE1.out).1
    go_upto_region 3 with fail
    go_cut [11, 12, 13] from 42 to 51 (fun a b e wx => ∃ bx bo : Nat, a = .pointer (some ⟨bx, 0, none⟩) ∧ b = .pointer (some ⟨bo, 0, none⟩) ∧ e = .int .i64 E ∧ Hid (LpSt c p w.heap.size bx bo X O W wx))
    case first =>
      go_wp2_with (go_at_call 5; (with_reducible refine Calls.mono (kP.out _ (Below.refl _ _)) ?_); rintro e V ⟨rfl, hV⟩)
      go_meet
      obtain ⟨f0, f1, -, f3⟩ := two_new (w := V) (a := ptO X) (b := ptO O) rfl
      exact ⟨_, _, rfl, rfl, rfl, Lib.hid ⟨kept_block f3 (kept_block hV hE0.out), kept_block f3 (kept_block hV hE1.out), f0, f1, below_tr hV f3⟩⟩
    case rest =>
    obtain ⟨bx, bo, rfl, rfl, rfl, hS⟩ := hcut
    clear kP c0 c1 c2 c3 c4 c5 c6 c7 c8 c9 c10 q0 q1 q2 q3 z0 z1 hE0 hE1
    go_upto_if 54 with fail
    go_cut [14] from 52 to 74 (fun u wx => u = .int .i64 (playErr c p l xa xb) ∧ Hid (LpSt c p w.heap.size bx bo X O W wx))
    case first =>
      by_cases hlong : 20 < l.length
      · have d1 : decide ((20 : Int) < (l.length : Int)) = true := decide_eq_true (by omega)
        have d1' : decide (20 < l.length) = true := decide_eq_true hlong
        have hw : Hid (playErr c p l xa xb = 3) := Lib.hid (by unfold playErr; rw [if_pos hlong])
        go_wp2_with fail
        go_meet
        rw [hw.out]
        exact ⟨rfl, hS⟩
      · have d1 : decide ((20 : Int) < (l.length : Int)) = false := decide_eq_false (by omega)
        have d1' : decide (20 < l.length) = false := decide_eq_false hlong
        have hw : Hid (playErr c p l xa xb = if (opsB l && (c.ok && p.ok && truthB l xa xb)) = true then 0 else 2) := Lib.hid (by unfold playErr; rw [if_neg hlong])
        obtain ⟨c0, c1, c2, c3, c4, c5, c6, c7, c8, c9, c10⟩ := rc11 hS.out.c
        have z0 := (Array.getElem?_eq_some_iff.1 hS.out.c).1
        cases hc : c.ok
        · rw [hc] at kC hw
          go_wp2_with (go_at_call 6; (with_reducible refine Calls.mono (kC.out _) ?_); rintro e w1 ⟨rfl, b1⟩; have S1 := Lib.hid (hS.out.mono b1); obtain ⟨q0, q1, q2, q3⟩ := rc4 S1.out.p; have z1 := (Array.getElem?_eq_some_iff.1 S1.out.p).1)
          go_meet
          rw [hw.out]
          exact ⟨by simp, Lib.hid S1.out⟩
        · rw [hc] at kC hw
          cases hp : p.ok
          · rw [hp] at kQ hw
            go_wp2_with (first | (go_at_call 6; (with_reducible refine Calls.mono (kC.out _) ?_); rintro e w1 ⟨rfl, b1⟩; have S1 := Lib.hid (hS.out.mono b1); obtain ⟨q0, q1, q2, q3⟩ := rc4 S1.out.p; have z1 := (Array.getElem?_eq_some_iff.1 S1.out.p).1) | (go_at_call 7; (with_reducible refine Calls.mono (kQ.out _) ?_); rintro e w2 ⟨rfl, b2⟩; have S2 := Lib.hid (S1.out.mono b2)))
            go_meet
            rw [hw.out]
            exact ⟨by simp, Lib.hid S2.out⟩
          · rw [hp] at kQ hw
            cases ho : opsB l
            · rw [ho] at kO hw
              go_wp2_with (first | (go_at_call 6; (with_reducible refine Calls.mono (kC.out _) ?_); rintro e w1 ⟨rfl, b1⟩; have S1 := Lib.hid (hS.out.mono b1); obtain ⟨q0, q1, q2, q3⟩ := rc4 S1.out.p; have z1 := (Array.getElem?_eq_some_iff.1 S1.out.p).1) | (go_at_call 7; (with_reducible refine Calls.mono (kQ.out _) ?_); rintro e w2 ⟨rfl, b2⟩; have S2 := Lib.hid (S1.out.mono b2)) | (go_at_call 8; (with_reducible refine Calls.mono (kO.out _ S2.out.bel) ?_); rintro e w3 ⟨rfl, b3⟩; have S3 := Lib.hid (S2.out.mono b3)))
              go_meet
              rw [hw.out]
              exact ⟨by simp, Lib.hid S3.out⟩
            · rw [ho] at kO hw
              cases ht : truthB l xa xb
              · rw [ht] at kT hw
                go_wp2_with (first | (go_at_call 6; (with_reducible refine Calls.mono (kC.out _) ?_); rintro e w1 ⟨rfl, b1⟩; have S1 := Lib.hid (hS.out.mono b1); obtain ⟨q0, q1, q2, q3⟩ := rc4 S1.out.p; have z1 := (Array.getElem?_eq_some_iff.1 S1.out.p).1) | (go_at_call 7; (with_reducible refine Calls.mono (kQ.out _) ?_); rintro e w2 ⟨rfl, b2⟩; have S2 := Lib.hid (S1.out.mono b2)) | (go_at_call 8; (with_reducible refine Calls.mono (kO.out _ S2.out.bel) ?_); rintro e w3 ⟨rfl, b3⟩; have S3 := Lib.hid (S2.out.mono b3)) | (go_at_call 9; (with_reducible refine Calls.mono (kT.out _ S3.out.bel) ?_); rintro e w4 ⟨rfl, b4⟩; have S4 := Lib.hid (S3.out.mono b4)))
                go_meet
                rw [hw.out]
                exact ⟨by simp, Lib.hid S4.out⟩
              · rw [ht] at kT hw
                go_wp2_with (first | (go_at_call 6; (with_reducible refine Calls.mono (kC.out _) ?_); rintro e w1 ⟨rfl, b1⟩; have S1 := Lib.hid (hS.out.mono b1); obtain ⟨q0, q1, q2, q3⟩ := rc4 S1.out.p; have z1 := (Array.getElem?_eq_some_iff.1 S1.out.p).1) | (go_at_call 7; (with_reducible refine Calls.mono (kQ.out _) ?_); rintro e w2 ⟨rfl, b2⟩; have S2 := Lib.hid (S1.out.mono b2)) | (go_at_call 8; (with_reducible refine Calls.mono (kO.out _ S2.out.bel) ?_); rintro e w3 ⟨rfl, b3⟩; have S3 := Lib.hid (S2.out.mono b3)) | (go_at_call 9; (with_reducible refine Calls.mono (kT.out _ S3.out.bel) ?_); rintro e w4 ⟨rfl, b4⟩; have S4 := Lib.hid (S3.out.mono b4)))
                go_meet
                rw [hw.out]
                exact ⟨by simp, Lib.hid S4.out⟩
    case rest =>
    obtain ⟨rfl, hS1⟩ := hcut
    clear hS kC kQ kO kT
    by_cases hw : playErr c p l xa xb = 0
    · obtain ⟨he0, hc, hp, ht⟩ := playErr_zero hw
      obtain ⟨hl20, ho⟩ := opsErr_zero.1 he0
      have kR0 := fun V (h : Below W.heap.size W V) => refPlay V (hl1.out.mono h) (ha1.out.mono h) (hb1.out.mono h) (Cav.ok_iff.1 hc) (Pt.ok_iff.1 hp) ho ht hl20
      obtain ⟨Y, Q, B, hpl, hB1, hB2⟩ : ∃ Y Q B, plV (play c p l xa xb) = .tuple #[ptV Y, ptV Q, .bool B] ∧ (B = true → Y = X ∧ Q = O ∧ E = 0) ∧ (B = false → E = 7 ∧ X = pt0 ∧ O = pt0) := by
        rcases hIh.out.isSome hw with h | h
        · have ht0 : O.t = 0 := (playTo_ok (Pt.ok_iff.1 hp) ho l.length X O (Nat.le_refl _) h).t
          refine ⟨X, O, true, ?_, fun _ => ⟨rfl, rfl, hIh.out.isFine hw h⟩, fun h' => (by cases h')⟩
          rw [h, plV]
          show _ = Value.tuple #[ptV X, .agg #[.int .i64 O.g, .int .i64 O.y, .int .i64 O.t, .int .i64 O.w], .bool true]
          rw [ht0]
        · refine ⟨zPt, zPt, false, ?_, fun h' => (by cases h'), fun _ => hIh.out.isNone hw h⟩
          rw [h]; rfl
      rw [hpl] at kR0
      have kR := Lib.hid kR0
      rw [hw]
      clear hIh kR0 hpl hc hp ht ho he0 hw
      obtain ⟨c0, c1, c2, c3, c4, c5, c6, c7, c8, c9, c10⟩ := rc11 hS1.out.c
      obtain ⟨q0, q1, q2, q3⟩ := rc4 hS1.out.p
      have z0 := (Array.getElem?_eq_some_iff.1 hS1.out.c).1
      have z1 := (Array.getElem?_eq_some_iff.1 hS1.out.p).1
      go_upto_region 11 with fail
      go_cut [15, 16, 17] from 75 to 102 (fun a b e wx => ∃ b1 b2 : Nat, a = .pointer (some ⟨b1, 0, none⟩) ∧ b = .pointer (some ⟨b2, 0, none⟩) ∧ e = .bool B ∧ Hid (LpSt c p w.heap.size bx bo X O W wx ∧ wx.heap[b1]? = some (ptO Y) ∧ wx.heap[b2]? = some (ptO Q)))
      case first =>
        go_wp2_with (go_at_call 10; (with_reducible refine Calls.mono (kR.out _ hS1.out.bel) ?_); rintro e V ⟨rfl, hV⟩)
        go_meet
        obtain ⟨f0, f1, -, f3⟩ := two_new (w := V) (a := ptO Y) (b := ptO Q) rfl
        exact ⟨_, _, rfl, rfl, rfl, Lib.hid ⟨(hS1.out.mono hV).mono f3, f0, f1⟩⟩
      case rest =>
      obtain ⟨b1, b2, rfl, rfl, rfl, hS⟩ := hcut
      clear kR c0 c1 c2 c3 c4 c5 c6 c7 c8 c9 c10 q0 q1 q2 q3 z0 z1 hS1
      obtain ⟨hS2, hY, hQ⟩ := hS.out
      obtain ⟨x0, x1, x2, x3⟩ := rc4 hS2.x
      obtain ⟨y0, y1, y2, y3⟩ := rc4 hS2.o
      have z2 := (Array.getElem?_eq_some_iff.1 hS2.x).1
      have z3 := (Array.getElem?_eq_some_iff.1 hS2.o).1
      obtain ⟨r0, r1, r2, r3⟩ := rc4 hY
      obtain ⟨s0, s1, s2, s3⟩ := rc4 hQ
      have z4 := (Array.getElem?_eq_some_iff.1 hY).1
      have z5 := (Array.getElem?_eq_some_iff.1 hQ).1
      have hbel := Lib.hid hS2.bel
      clear hS hS2 hY hQ
      cases B
      · obtain ⟨rfl, rfl, rfl⟩ := hB2 rfl
        clear hB1 hB2
        go_wp2_with (go_at_call 4; (with_reducible refine Calls.mono (kK.out _) ?_); rintro e w9 ⟨rfl, hB9⟩)
        go_ret
        exact ⟨rfl, below_tr (below_tr hBW.out hbel.out) hB9⟩
      · obtain ⟨rfl, rfl, rfl⟩ := hB1 rfl
        clear hB1 hB2
        go_wp2_with (go_at_call 4; (with_reducible refine Calls.mono (kK.out _) ?_); rintro e w9 ⟨rfl, hB9⟩)
        go_ret
        exact ⟨rfl, below_tr (below_tr hBW.out hbel.out) hB9⟩
    · obtain ⟨hE, rfl, rfl⟩ := hIh.out.bad hw
      have hS2 := hS1.out
      rw [← hE] at hw ⊢
      clear hE hIh
      have d1 : decide (E = 0) = false := decide_eq_false hw
      obtain ⟨x0, x1, x2, x3⟩ := rc4 hS2.x
      obtain ⟨y0, y1, y2, y3⟩ := rc4 hS2.o
      have z2 := (Array.getElem?_eq_some_iff.1 hS2.x).1
      have z3 := (Array.getElem?_eq_some_iff.1 hS2.o).1
      go_wp2_with (go_at_call 4; (with_reducible refine Calls.mono (kK.out _) ?_); rintro e w9 ⟨rfl, hB9⟩)
      go_ret
      exact ⟨rfl, below_tr (below_tr hBW.out hS2.bel) hB9⟩
  · clear hG
    go_wp2_with (go_at_call 4; (with_reducible refine Calls.mono (kK.out _) ?_); rintro e w9 ⟨rfl, hB9⟩)
    go_ret
    exact ⟨rfl, below_tr hBW.out hB9⟩
end Go.Proofs.Ytdilgjhdimlbkaa
