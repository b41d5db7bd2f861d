/- Gas: the plain laws of gates: what a state tells of the rules holds for its contents; a rule that is told is broken at an end. -/
import Derived.Test.YtgmbolagciaenaaGpl
set_option linter.unusedVariables false
set_option linter.unusedSimpArgs false
namespace Gas
theorem force_up {c : Cav} {p q : Pt} (hc : c.Ok) (hg : 0 ≤ p.g) (hy : 0 ≤ p.y) (ht : 0 ≤ p.t) (h1 : p.g ≤ q.g) (h2 : p.y ≤ q.y) (h3 : p.t ≤ q.t) : force c p ≤ force c q := by
  have f0 := hc.f0; have f1 := hc.f1
  unfold force
  have a1 : p.g * c.f0 ≤ q.g * c.f0 := mul_up h1 (by omega)
  have a2 : p.y * c.f1 ≤ q.y * c.f1 := mul_up h2 (by omega)
  have a3 : 0 ≤ q.g * c.f0 := mul_nn (by omega) (by omega)
  have a4 : 0 ≤ q.y * c.f1 := mul_nn (by omega) (by omega)
  have b1 : (p.g * c.f0 + p.y * c.f1) * p.t ≤ (q.g * c.f0 + q.y * c.f1) * p.t := mul_up (by omega) ht
  have b2 : (q.g * c.f0 + q.y * c.f1) * p.t ≤ (q.g * c.f0 + q.y * c.f1) * q.t := mul_up2 h3 (by omega)
  exact mul_up (Int.le_trans b1 b2) (by omega)
theorem force_nn {c : Cav} {p : Pt} (hc : c.Ok) (hg : 0 ≤ p.g) (hy : 0 ≤ p.y) (ht : 0 ≤ p.t) : 0 ≤ force c p := by
  have f0 := hc.f0; have f1 := hc.f1
  unfold force
  have a3 : 0 ≤ p.g * c.f0 := mul_nn hg (by omega)
  have a4 : 0 ≤ p.y * c.f1 := mul_nn hy (by omega)
  exact mul_nn (mul_nn (by omega) ht) (by omega)
theorem thin_up {a g y k z : Int} (ha : 0 ≤ a ∧ a ≤ 1000) (hg : g ≤ k) (hy : z ≤ y) (h : 1000 * y < a * (g + y)) : 1000 * z < a * (k + z) := by
  have h1 : a * g ≤ a * k := mul_up2 hg ha.1
  have h2 : (1000 - a) * z ≤ (1000 - a) * y := mul_up2 hy (by omega)
  rw [Int.sub_mul, Int.sub_mul] at h2
  rw [Int.mul_add] at h ⊢
  omega
theorem rich_up {a g y k z : Int} (ha : 0 ≤ a ∧ a ≤ 1000) (hg : k ≤ g) (hy : y ≤ z) (h : 1000 * y > a * (g + y)) : 1000 * z > a * (k + z) := by
  have h1 : a * k ≤ a * g := mul_up2 hg ha.1
  have h2 : (1000 - a) * y ≤ (1000 - a) * z := mul_up2 hy (by omega)
  rw [Int.sub_mul, Int.sub_mul] at h2
  rw [Int.mul_add] at h ⊢
  omega
theorem pv_up {a v u : Int} (ha : 0 ≤ a) (h : v ≤ u) : a * v * 10000000 ≤ a * u * 10000000 := mul_up (mul_up2 h ha) (by omega)

/-- What the state tells holds for its contents. -/
theorem keeps_sure {c : Cav} {s : St} {p : Pt} {v : Int} (hc : c.Ok) (hs : s.Ok) (hp : s.Has p) (hv : c.vlo ≤ v ∧ v ≤ c.vhi) : keeps c p v = 1 ∨ (sure c s ≠ 1 ∧ sure c s ≤ keeps c p v) := by
  have hpo := hp.ok hs
  have l1 := hc.p; have q1 := hc.pur
  have e1 : force c s.low ≤ force c p := force_up hc hs.g.1 hs.y.1 (by have := hs.t.1; show 0 ≤ s.tlo; omega) hp.g.1 hp.y.1 hp.t.1
  have e2 : force c p ≤ force c s.high := force_up hc hpo.g.1 hpo.y.1 (by have := hpo.t.1; omega) hp.g.2 hp.y.2 hp.t.2
  have e3 : c.least * v * 10000000 ≤ c.least * c.vhi * 10000000 := pv_up l1.1 hv.2
  have e4 : c.most * c.vlo * 10000000 ≤ c.most * v * 10000000 := pv_up (by omega) hv.1
  unfold keeps sure
  by_cases k1 : force c p < c.least * v * 10000000
  · right
    rw [if_pos k1, if_pos (by omega)]; decide
  rw [if_neg k1]
  by_cases k2 : force c p > c.most * v * 10000000
  · right
    rw [if_pos k2]
    by_cases r1 : force c s.low < c.least * c.vhi * 10000000
    · rw [if_pos r1]; decide
    · rw [if_neg r1, if_pos (by omega)]; decide
  rw [if_neg k2]
  by_cases k3 : 1000 * p.y < c.plo * (p.g + p.y)
  · right
    rw [if_pos k3]
    have ht : thin c s = true := by
      unfold thin
      exact decide_eq_true (thin_up ⟨q1.1, by omega⟩ hp.g.2 hp.y.1 k3)
    rw [ht]
    by_cases r1 : force c s.low < c.least * c.vhi * 10000000
    · rw [if_pos r1]; decide
    · rw [if_neg r1]
      by_cases r2 : force c s.high > c.most * c.vlo * 10000000
      · rw [if_pos r2]; decide
      · rw [if_neg r2, if_pos rfl]; exact ⟨by decide, by decide⟩
  rw [if_neg k3]
  by_cases k4 : 1000 * p.y > c.phi * (p.g + p.y)
  · right
    rw [if_pos k4]
    have ht : rich c s = true := by
      unfold rich
      exact decide_eq_true (rich_up ⟨by omega, q1.2.2⟩ hp.g.1 hp.y.2 k4)
    rw [ht]
    by_cases r1 : force c s.low < c.least * c.vhi * 10000000
    · rw [if_pos r1]; decide
    · rw [if_neg r1]
      by_cases r2 : force c s.high > c.most * c.vlo * 10000000
      · rw [if_pos r2]; decide
      · rw [if_neg r2]
        by_cases r3 : thin c s = true
        · rw [if_pos r3]; decide
        · rw [if_neg r3]; decide
  left
  rw [if_neg k4]

/-- The cavern with no gate but one. -/
def brkC (c : Cav) (r : Int) : Cav :=
  if r = 2 then { c with most := 100000, plo := 0, phi := 1000 } else if r = 3 then { c with least := 0, plo := 0, phi := 1000 }
  else if r = 4 then { c with least := 0, most := 100000, phi := 1000 } else { c with least := 0, most := 100000, plo := 0 }
def brk (c : Cav) (p : Pt) (v r : Int) : Bool := decide (keeps (brkC c r) p v = r)
theorem zP : (0 : Int) ≤ 0 ∧ (0 : Int) ≤ 100000 ∧ (100000 : Int) ≤ 100000 := by decide
theorem zQ : (0 : Int) ≤ 0 ∧ (0 : Int) ≤ 1000 ∧ (1000 : Int) ≤ 1000 := by decide
theorem zW : (0 : Int) ≤ 0 ∧ (0 : Int) ≤ 1000000000 := by decide
theorem brkC_ok {c : Cav} (hc : c.Ok) (r : Int) : (brkC c r).Ok := by
  have h1 := hc.p; have h2 := hc.pur
  unfold brkC
  by_cases e2 : r = 2
  · rw [if_pos e2]; exact ⟨hc.f0, hc.h0, hc.f1, hc.h1, hc.v, ⟨h1.1, by show c.least ≤ 100000; omega, Int.le_refl _⟩, hc.rock, zQ⟩
  rw [if_neg e2]
  by_cases e3 : r = 3
  · rw [if_pos e3]; exact ⟨hc.f0, hc.h0, hc.f1, hc.h1, hc.v, ⟨Int.le_refl _, by show 0 ≤ c.most; omega, h1.2.2⟩, hc.rock, zQ⟩
  rw [if_neg e3]
  by_cases e4 : r = 4
  · rw [if_pos e4]; exact ⟨hc.f0, hc.h0, hc.f1, hc.h1, hc.v, zP, hc.rock, ⟨h2.1, by show c.plo ≤ 1000; omega, Int.le_refl _⟩⟩
  · rw [if_neg e4]; exact ⟨hc.f0, hc.h0, hc.f1, hc.h1, hc.v, zP, hc.rock, ⟨Int.le_refl _, by show 0 ≤ c.phi; omega, h2.2.2⟩⟩
/-- The contents at the ends that the law tries. -/
def endPt (s : St) : Nat → Pt
  | 0 => s.low
  | 1 => s.high
  | 2 => ⟨s.ghi, s.ylo, s.tlo, 0⟩
  | _ => ⟨s.glo, s.yhi, s.thi, 0⟩
def endV (c : Cav) : Nat → Int
  | 0 => c.vhi
  | _ => c.vlo
theorem endPt_ok {s : St} (hs : s.Ok) (i : Nat) : (endPt s i).Ok := by
  have h1 := hs.g; have h2 := hs.y; have h3 := hs.t; have h4 := hs.w
  match i with
  | 0 => exact ⟨⟨h1.1, by show s.glo ≤ 1000000; omega⟩, ⟨h2.1, by show s.ylo ≤ 1000000; omega⟩, ⟨h3.1, by show s.tlo ≤ 5000; omega⟩, ⟨h4.1, by show s.wlo ≤ 1000000000; omega⟩⟩
  | 1 => exact ⟨⟨by show 0 ≤ s.ghi; omega, h1.2.2⟩, ⟨by show 0 ≤ s.yhi; omega, h2.2.2⟩, ⟨by show 2000 ≤ s.thi; omega, h3.2.2⟩, ⟨by show 0 ≤ s.whi; omega, h4.2.2⟩⟩
  | 2 => exact ⟨⟨by show 0 ≤ s.ghi; omega, h1.2.2⟩, ⟨h2.1, by show s.ylo ≤ 1000000; omega⟩, ⟨h3.1, by show s.tlo ≤ 5000; omega⟩, zW⟩
  | _ + 3 => exact ⟨⟨h1.1, by show s.glo ≤ 1000000; omega⟩, ⟨by show 0 ≤ s.yhi; omega, h2.2.2⟩, ⟨by show 2000 ≤ s.thi; omega, h3.2.2⟩, zW⟩
theorem endV_in {c : Cav} (hc : c.Ok) (n : Nat) : 1 ≤ endV c n ∧ endV c n ≤ 1000000 := by
  have h := hc.v
  match n with
  | 0 => exact ⟨by show 1 ≤ c.vhi; omega, h.2.2⟩
  | _ + 1 => exact ⟨h.1, by show c.vlo ≤ 1000000; omega⟩
theorem sure_in (c : Cav) (s : St) : sure c s = 1 ∨ sure c s = 2 ∨ sure c s = 3 ∨ sure c s = 4 ∨ sure c s = 5 := by
  unfold sure
  split
  · simp
  · split
    · simp
    · split
      · simp
      · split <;> simp
/-- A rule that is told is broken at an end. -/
theorem brk_some {c : Cav} {s : St} (hc : c.Ok) (hs : s.Ok) (hr : sure c s ≠ 1) : ∃ i n, i < 4 ∧ n < 2 ∧ brk c (endPt s i) (endV c n) (sure c s) = true := by
  have h1 := hs.g; have h2 := hs.y; have h3 := hs.t; have l1 := hc.p; have hv := hc.v; have q1 := hc.pur
  have fl : ∀ i, 0 ≤ force c (endPt s i) := fun i => by
    have := endPt_ok hs i
    exact force_nn hc this.g.1 this.y.1 (by have := this.t.1; omega)
  have top : ∀ i, force c (endPt s i) ≤ force c s.high := fun i => by
    have := endPt_ok hs i
    refine force_up hc this.g.1 this.y.1 (by have := this.t.1; omega) ?_ ?_ ?_
    · match i with
      | 0 => exact h1.2.1
      | 1 => exact Int.le_refl _
      | 2 => exact Int.le_refl _
      | _ + 3 => exact h1.2.1
    · match i with
      | 0 => exact h2.2.1
      | 1 => exact Int.le_refl _
      | 2 => exact h2.2.1
      | _ + 3 => exact Int.le_refl _
    · match i with
      | 0 => exact h3.2.1
      | 1 => exact Int.le_refl _
      | 2 => exact h3.2.1
      | _ + 3 => exact Int.le_refl _
  by_cases r1 : force c s.low < c.least * c.vhi * 10000000
  · have e : sure c s = 2 := by unfold sure; rw [if_pos r1]
    refine ⟨0, 0, by decide, by decide, ?_⟩
    rw [e]
    unfold brk keeps
    have : force (brkC c 2) (endPt s 0) < (brkC c 2).least * endV c 0 * 10000000 := r1
    rw [if_pos this]; rfl
  by_cases r2 : force c s.high > c.most * c.vlo * 10000000
  · have e : sure c s = 3 := by unfold sure; rw [if_neg r1, if_pos r2]
    refine ⟨1, 1, by decide, by decide, ?_⟩
    rw [e]
    unfold brk keeps
    have n1 : ¬ force (brkC c 3) (endPt s 1) < (brkC c 3).least * endV c 1 * 10000000 := by
      have := fl 1
      show ¬ force c (endPt s 1) < 0 * endV c 1 * 10000000
      rw [Int.zero_mul, Int.zero_mul]; omega
    have n2 : force (brkC c 3) (endPt s 1) > (brkC c 3).most * endV c 1 * 10000000 := r2
    rw [if_neg n1, if_pos n2]; rfl
  have hm : ∀ i n, ¬ force c (endPt s i) > 100000 * endV c n * 10000000 := fun i n => by
    have a1 := top i
    have a2 : c.most * c.vlo * 10000000 ≤ 100000 * c.vlo * 10000000 := mul_up (mul_up l1.2.2 (by omega)) (by omega)
    have a3 : 100000 * c.vlo * 10000000 ≤ 100000 * endV c n * 10000000 := pv_up (by omega) (by
      match n with
      | 0 => exact hv.2.1
      | _ + 1 => exact Int.le_refl _)
    omega
  by_cases r3 : thin c s = true
  · have e : sure c s = 4 := by unfold sure; rw [if_neg r1, if_neg r2, if_pos r3]
    refine ⟨2, 0, by decide, by decide, ?_⟩
    rw [e]
    unfold brk keeps
    have n1 : ¬ force (brkC c 4) (endPt s 2) < (brkC c 4).least * endV c 0 * 10000000 := by
      have := fl 2
      show ¬ force c (endPt s 2) < 0 * endV c 0 * 10000000
      rw [Int.zero_mul, Int.zero_mul]; omega
    have n2 : ¬ force (brkC c 4) (endPt s 2) > (brkC c 4).most * endV c 0 * 10000000 := hm 2 0
    have n3 : 1000 * (endPt s 2).y < (brkC c 4).plo * ((endPt s 2).g + (endPt s 2).y) := by
      have : decide (1000 * s.ylo < c.plo * (s.ghi + s.ylo)) = true := r3
      exact of_decide_eq_true this
    rw [if_neg n1, if_neg n2, if_pos n3]; rfl
  by_cases r4 : rich c s = true
  · have e : sure c s = 5 := by unfold sure; rw [if_neg r1, if_neg r2, if_neg r3, if_pos r4]
    refine ⟨3, 0, by decide, by decide, ?_⟩
    rw [e]
    unfold brk keeps
    have n1 : ¬ force (brkC c 5) (endPt s 3) < (brkC c 5).least * endV c 0 * 10000000 := by
      have := fl 3
      show ¬ force c (endPt s 3) < 0 * endV c 0 * 10000000
      rw [Int.zero_mul, Int.zero_mul]; omega
    have n2 : ¬ force (brkC c 5) (endPt s 3) > (brkC c 5).most * endV c 0 * 10000000 := hm 3 0
    have n3 : ¬ 1000 * (endPt s 3).y < (brkC c 5).plo * ((endPt s 3).g + (endPt s 3).y) := by
      show ¬ 1000 * s.yhi < 0 * (s.glo + s.yhi)
      rw [Int.zero_mul]; omega
    have n4 : 1000 * (endPt s 3).y > (brkC c 5).phi * ((endPt s 3).g + (endPt s 3).y) := by
      have : decide (1000 * s.yhi > c.phi * (s.glo + s.yhi)) = true := r4
      exact of_decide_eq_true this
    rw [if_neg n1, if_neg n2, if_neg n3, if_pos n4]; rfl
  exact absurd (by unfold sure; rw [if_neg r1, if_neg r2, if_neg r3, if_neg r4]) hr
end Gas
