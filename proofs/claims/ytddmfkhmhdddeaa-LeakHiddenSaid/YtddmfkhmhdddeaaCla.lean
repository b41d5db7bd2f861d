/- Walks: which readings do not agree with which (the program). -/
import Derived.Test.YtddmfkhmhdddeaaCov
set_option linter.unusedVariables false
set_option linter.unusedSimpArgs false
namespace Lk
/-- Whether two things that are known of a zone do not agree without a leak. -/
def Bk.clashB (b : Bk) (z : Nat) (x y : Kn) : Bool :=
  let p := if y.day < x.day then (y, x) else (x, y)
  let c := b.came z p.1.day p.2.day
  decide (p.2.v.hi < p.1.v.lo + c.lo) || decide (p.1.v.hi + c.hi < p.2.v.lo)
theorem clash_gt {b : Bk} {z : Nat} {x y : Kn} (h : y.day < x.day) : b.clashB z x y = (decide (x.v.hi < y.v.lo + (b.came z y.day x.day).lo) || decide (y.v.hi + (b.came z y.day x.day).hi < x.v.lo)) := by simp only [Bk.clashB, h, if_true]
theorem clash_le {b : Bk} {z : Nat} {x y : Kn} (h : ¬ y.day < x.day) : b.clashB z x y = (decide (y.v.hi < x.v.lo + (b.came z x.day y.day).lo) || decide (x.v.hi + (b.came z x.day y.day).hi < y.v.lo)) := by simp only [Bk.clashB, h, if_false]
end Lk
namespace Go.Proofs.Ytddmfkhmhdddeaa
open Go.RowKit Go.Sd Lk

/-- came, by the days themselves. -/
theorem progCameD (fv wv rv : Value) (b : Bk) (z : Nat) (a c : Int) (w : World) (hb : BookAt w fv wv rv b) (ok : Ok b) (hz : z < b.first.length) (hc : -1 ≤ a ∧ a ≤ c ∧ c < b.flows.length) :
    Calls Try.prog 88 #[bkV fv wv rv, .int .i64 z, .int .i64 a, .int .i64 c] w fun e w' => e = .returned (spV (b.came z a c)) ∧ Below w.heap.size w w' := by
  have h := progCame _ _ _ b z (a + 1).toNat c w hb ok hz (by omega)
  rw [show ((a + 1).toNat : Int) - 1 = a by omega, show (c + 1 - ((a + 1).toNat : Int)).toNat = (c - a).toNat by omega] at h
  exact h
theorem came_bd {b : Bk} (ok : Ok b) {z : Nat} (hz : z < b.first.length) {a c : Int} (hc : -1 ≤ a ∧ a ≤ c ∧ c < b.flows.length) : -3000000000 ≤ (b.came z a c).lo ∧ (b.came z a c).lo ≤ (b.came z a c).hi ∧ (b.came z a c).hi ≤ 3000000000 := by
  have hnd := ok.nd
  have := camN_bd ok hz (s := (a + 1).toNat) (c - a).toNat (by omega)
  unfold Bk.came
  omega

set_option maxRecDepth 100000 in
set_option maxHeartbeats 4000000 in
theorem progClash (fv wv rv : Value) (b : Bk) (z : Nat) (x y : Kn) (bb : Nat) (w : World) (hb : BookAt w fv wv rv b) (ok : Ok b) (hz : z < b.first.length) (hbb : w.heap[bb]? = some (bkO fv wv rv))
    (hx : -1 ≤ x.day ∧ x.day < b.flows.length ∧ -1000000000 ≤ x.v.lo ∧ x.v.lo ≤ x.v.hi ∧ x.v.hi ≤ 1000000000) (hy : -1 ≤ y.day ∧ y.day < b.flows.length ∧ -1000000000 ≤ y.v.lo ∧ y.v.lo ≤ y.v.hi ∧ y.v.hi ≤ 1000000000) :
    Calls Try.prog 87 #[.int .i64 z, knV x, knV y, .pointer (some ⟨bb, 0, none⟩)] w fun e w' => e = .returned (.bool (b.clashB z x y)) ∧ Below w.heap.size w w' := by
  obtain ⟨W, hW⟩ : ∃ W, (w.alloc (knO x)).alloc (knO y) = W := ⟨_, rfl⟩
  obtain ⟨e0, e1, s1, B1⟩ := two_new hW
  have hbW := Lib.hid (hb.mono B1)
  obtain ⟨fa, fc, rfl, hfm, -⟩ := hb.first.form
  obtain ⟨wa, wc, rfl, hwm, -⟩ := hb.flows.form
  obtain ⟨ra, rc, rfl, hrm, -⟩ := hb.reads.form
  have hbk := kept_block B1 hbb
  obtain ⟨q0, q1, q2⟩ := rc3 hbk
  obtain ⟨x0, x1, x2⟩ := rc3 e0
  obtain ⟨y0, y1, y2⟩ := rc3 e1
  have zb := (Array.getElem?_eq_some_iff.1 hbk).1
  have zx := (Array.getElem?_eq_some_iff.1 e0).1
  have zy := (Array.getElem?_eq_some_iff.1 e1).1
  have hbl := (Array.getElem?_eq_some_iff.1 hbb).1
  have hwB := Lib.hid B1
  by_cases hd : y.day < x.day
  · have hr := Lib.hid (clash_gt (b := b) (z := z) hd)
    have hcb := came_bd ok hz (show -1 ≤ y.day ∧ y.day ≤ x.day ∧ x.day < b.flows.length by omega)
    obtain ⟨g0, g1, g2⟩ := rf3 e0
    obtain ⟨k0, k1, k2⟩ := rf3 e1
    obtain ⟨Y, hY⟩ : ∃ Y, ((W.setCell ⟨w.heap.size, 0, none⟩ (.int .i64 y.day)).setCell ⟨w.heap.size, 1, none⟩ (.int .i64 y.v.lo)).setCell ⟨w.heap.size, 2, none⟩ (.int .i64 y.v.hi) = Y := ⟨_, rfl⟩
    obtain ⟨Z, hZ⟩ : ∃ Z, ((Y.setCell ⟨w.heap.size + 1, 0, none⟩ (.int .i64 x.day)).setCell ⟨w.heap.size + 1, 1, none⟩ (.int .i64 x.v.lo)).setCell ⟨w.heap.size + 1, 2, none⟩ (.int .i64 x.v.hi) = Z := ⟨_, rfl⟩
    have ey1 := set3 e0 (.int .i64 y.day) (.int .i64 y.v.lo) (.int .i64 y.v.hi)
    have ey2 := (set3_other (w := W) (.int .i64 y.day) (.int .i64 y.v.lo) (.int .i64 y.v.hi) (show w.heap.size + 1 ≠ w.heap.size by omega)).trans e1
    rw [hY] at ey1 ey2
    have ez2 := set3 ey2 (.int .i64 x.day) (.int .i64 x.v.lo) (.int .i64 x.v.hi)
    have ez1 := (set3_other (w := Y) (.int .i64 x.day) (.int .i64 x.v.lo) (.int .i64 x.v.hi) (show w.heap.size ≠ w.heap.size + 1 by omega)).trans ey1
    rw [hZ] at ez1 ez2
    have hBZ : Below w.heap.size w Z := by rw [← hZ, ← hY]; exact (B1.trans (below_set3 _ _ _ (Nat.le_refl _))).trans (below_set3 _ _ _ (by omega))
    obtain ⟨i0, i1, i2⟩ := rc3 ey2
    obtain ⟨o0, o1, o2⟩ := rf3 ey2
    have zy2 := (Array.getElem?_eq_some_iff.1 ey2).1
    obtain ⟨a0, a1, a2⟩ := rc3 ez1
    obtain ⟨b0, b1, b2⟩ := rc3 ez2
    have zz1 := (Array.getElem?_eq_some_iff.1 ez1).1
    have zz2 := (Array.getElem?_eq_some_iff.1 ez2).1
    have hbZ : Z.heap[bb]? = some (bkO (.slice fa b.first.length fc) (.slice wa b.flows.length wc) (.slice ra b.reads.length rc)) := by
      rw [← hZ, ← hY]; exact (set3_other _ _ _ (by omega)).trans ((set3_other _ _ _ (by omega)).trans hbk)
    obtain ⟨t0, t1, t2⟩ := rc3 hbZ
    have zt := (Array.getElem?_eq_some_iff.1 hbZ).1
    have kC := Lib.hid (progCameD _ _ _ b z y.day x.day Z (hb.mono hBZ) ok hz (by omega))
    have hBZ' := Lib.hid hBZ
    have E1 := Lib.hid ez1
    have E2 := Lib.hid ez2
    generalize b.came z y.day x.day = c at *
    clear hb hbk hbb hbW B1 s1 hBZ
    by_cases hA : x.v.hi < y.v.lo + c.lo
    · skip
      go_enter Try.func87, Try.ntmps87
      go_wp2_with (go_at_call 88; (with_reducible refine Calls.mono kC.out ?_); rintro e w1 ⟨rfl, hb1⟩; obtain ⟨N, hN⟩ : ∃ N, w1.alloc (spO c) = N := ⟨_, rfl⟩; obtain ⟨en, BN, sN⟩ := boxed hN; obtain ⟨n0, n1⟩ := rc2 en; have zn := (Array.getElem?_eq_some_iff.1 en).1; have BZN := below_tr hb1 BN; clear sN; obtain ⟨c0, c1, c2⟩ := rc3 (kept_block BZN E1.out); obtain ⟨d0, d1, d2⟩ := rc3 (kept_block BZN E2.out); have zc := (Array.getElem?_eq_some_iff.1 (kept_block BZN E1.out)).1; have zd := (Array.getElem?_eq_some_iff.1 (kept_block BZN E2.out)).1)
      go_ret
      exact ⟨bool_ret (by rw [hr.out]; simp [hA]), below_tr hBZ'.out BZN⟩
    · have hA2 : decide (x.v.hi < y.v.lo + c.lo) = false := by simpa using hA
      go_enter Try.func87, Try.ntmps87
      go_wp2_with (go_at_call 88; (with_reducible refine Calls.mono kC.out ?_); rintro e w1 ⟨rfl, hb1⟩; obtain ⟨N, hN⟩ : ∃ N, w1.alloc (spO c) = N := ⟨_, rfl⟩; obtain ⟨en, BN, sN⟩ := boxed hN; obtain ⟨n0, n1⟩ := rc2 en; have zn := (Array.getElem?_eq_some_iff.1 en).1; have BZN := below_tr hb1 BN; clear sN; obtain ⟨c0, c1, c2⟩ := rc3 (kept_block BZN E1.out); obtain ⟨d0, d1, d2⟩ := rc3 (kept_block BZN E2.out); have zc := (Array.getElem?_eq_some_iff.1 (kept_block BZN E1.out)).1; have zd := (Array.getElem?_eq_some_iff.1 (kept_block BZN E2.out)).1)
      go_ret
      exact ⟨bool_ret (by rw [hr.out, hA2]; rfl), below_tr hBZ'.out BZN⟩
  · have hr := Lib.hid (clash_le (b := b) (z := z) hd)
    have hd2 : decide (y.day < x.day) = false := by simpa using hd
    have hcb := came_bd ok hz (show -1 ≤ x.day ∧ x.day ≤ y.day ∧ y.day < b.flows.length by omega)
    have kC := Lib.hid (progCameD _ _ _ b z x.day y.day W hbW.out ok hz (by omega))
    have E1 := Lib.hid e0
    have E2 := Lib.hid e1
    generalize b.came z x.day y.day = c at *
    clear hb hbk hbb hbW B1 s1
    by_cases hA : y.v.hi < x.v.lo + c.lo
    · skip
      go_enter Try.func87, Try.ntmps87
      go_wp2_with (go_at_call 88; (with_reducible refine Calls.mono kC.out ?_); rintro e w1 ⟨rfl, hb1⟩; obtain ⟨N, hN⟩ : ∃ N, w1.alloc (spO c) = N := ⟨_, rfl⟩; obtain ⟨en, BN, sN⟩ := boxed hN; obtain ⟨n0, n1⟩ := rc2 en; have zn := (Array.getElem?_eq_some_iff.1 en).1; have BZN := below_tr hb1 BN; clear sN; obtain ⟨c0, c1, c2⟩ := rc3 (kept_block BZN E1.out); obtain ⟨d0, d1, d2⟩ := rc3 (kept_block BZN E2.out); have zc := (Array.getElem?_eq_some_iff.1 (kept_block BZN E1.out)).1; have zd := (Array.getElem?_eq_some_iff.1 (kept_block BZN E2.out)).1)
      go_ret
      exact ⟨bool_ret (by rw [hr.out]; simp [hA]), below_tr hwB.out BZN⟩
    · have hA2 : decide (y.v.hi < x.v.lo + c.lo) = false := by simpa using hA
      go_enter Try.func87, Try.ntmps87
      go_wp2_with (go_at_call 88; (with_reducible refine Calls.mono kC.out ?_); rintro e w1 ⟨rfl, hb1⟩; obtain ⟨N, hN⟩ : ∃ N, w1.alloc (spO c) = N := ⟨_, rfl⟩; obtain ⟨en, BN, sN⟩ := boxed hN; obtain ⟨n0, n1⟩ := rc2 en; have zn := (Array.getElem?_eq_some_iff.1 en).1; have BZN := below_tr hb1 BN; clear sN; obtain ⟨c0, c1, c2⟩ := rc3 (kept_block BZN E1.out); obtain ⟨d0, d1, d2⟩ := rc3 (kept_block BZN E2.out); have zc := (Array.getElem?_eq_some_iff.1 (kept_block BZN E1.out)).1; have zd := (Array.getElem?_eq_some_iff.1 (kept_block BZN E2.out)).1)
      go_ret
      exact ⟨bool_ret (by rw [hr.out, hA2]; rfl), below_tr hwB.out BZN⟩
theorem enter_clash : ∀ (args : Array Value) (w : World), (callFunc 87 args).run Try.prog w = .ok (.enter 87 args) w := fun _ _ => by kernel_rfl
end Go.Proofs.Ytddmfkhmhdddeaa
