/- The plain law: on which day a leak is found by the reference's spans, and by pairs of days that read (no Go in sight). -/
import Derived.Test.YtddmfkhmhdddeaaFou
set_option linter.unusedVariables false
set_option linter.unusedSimpArgs false
namespace Lk
def growSp (s : Sp) (f k : Int) : Sp := ⟨s.lo - 2 * f + k, s.hi + 2 * f + k⟩
def leaks (size since : Int) (t : Nat) : Int := if since ≤ t then size else 0
def ownSp (c : Int) : Sp := ⟨-2 * c, 2 * c⟩
/-- The reference behind k days: whether something is known, and by how much the contents can differ. -/
def rfSt (w : List Dy) (size since : Int) : Nat → Bool × Sp
  | 0 => (false, ⟨0, 0⟩)
  | t + 1 => if (dyAt w t).reads then (true, if (rfSt w size since t).1 then meet (ownSp (dyAt w t).content) (growSp (rfSt w size since t).2 (dyAt w t).flow (leaks size since t)) else ownSp (dyAt w t).content)
    else ((rfSt w size since t).1, growSp (rfSt w size since t).2 (dyAt w t).flow (leaks size since t))
def rfHit (w : List Dy) (size since : Int) (t : Nat) : Bool := (dyAt w t).reads && decide ((rfSt w size since (t + 1)).2.hi < (rfSt w size since (t + 1)).2.lo)
def rfD (w : List Dy) (size since : Int) : Option Nat := (List.range w.length).find? (rfHit w size since)
/-- What has come up to the day k, twice; what has leaked. -/
def cumF (w : List Dy) : Nat → Int
  | 0 => 0
  | k + 1 => cumF w k + 2 * (dyAt w k).flow
def cumL (size since : Int) : Nat → Int
  | 0 => 0
  | k + 1 => cumL size since k + leaks size since k
theorem cumL_eq {size since : Int} (h : 0 ≤ since) : ∀ k : Nat, cumL size since k = size * max 0 ((k : Int) - since)
  | 0 => by rw [show max (0 : Int) (((0 : Nat) : Int) - since) = 0 by omega]; simp [cumL]
  | k + 1 => by
    rw [cumL, cumL_eq h k, leaks]
    split
    · rw [show max (0 : Int) (((k + 1 : Nat) : Int) - since) = max 0 ((k : Int) - since) + 1 by omega, Int.mul_add, Int.mul_one]
    · rw [show max (0 : Int) (((k + 1 : Nat) : Int) - since) = max 0 ((k : Int) - since) by omega, Int.add_zero]
theorem missing_eq {size since : Int} (h : 0 ≤ since) {s t : Nat} (hs : s ≤ t) : missing size since s t = cumL size since (t + 1) - cumL size since (s + 1) := by
  rw [cumL_eq h, cumL_eq h, ← Int.mul_sub, missing]
  congr 1
  omega
theorem apart_eq {w : List Dy} {t : Nat} : ∀ j, j ≤ t + 1 → apart w t j = 2 * (dyAt w t).content + (cumF w (t + 1) - cumF w (t + 1 - j))
  | 0, _ => by simp [apart]
  | j + 1, h => by
    rw [apart, apart_eq j (by omega), show t + 1 - j = (t - j) + 1 by omega, show t + 1 - (j + 1) = t - j by omega]
    have e : cumF w (t - j + 1) = cumF w (t - j) + 2 * (dyAt w (t - j)).flow := rfl
    omega
theorem cumF_mono {w : List Dy} (ok : WOk w) : ∀ {s t : Nat}, s ≤ t → t ≤ w.length → cumF w s ≤ cumF w t := by
  intro s t h
  induction t with
  | zero => intro _; obtain rfl : s = 0 := by omega
            exact Int.le_refl _
  | succ t ih =>
    intro ht
    by_cases he : s = t + 1
    · rw [he]; exact Int.le_refl _
    · have := ih (by omega) (by omega)
      have := ok.day t (by omega)
      rw [cumF]; omega
theorem cumL_mono {size since : Int} (hsz : 1 ≤ size) {s t : Nat} (h : s ≤ t) : cumL size since s ≤ cumL size since t := by
  induction t with
  | zero => obtain rfl : s = 0 := by omega
            exact Int.le_refl _
  | succ t ih =>
    by_cases he : s = t + 1
    · rw [he]; exact Int.le_refl _
    · have := ih (by omega)
      rw [cumL, leaks]; split <;> omega
theorem rf_known {w : List Dy} {size since : Int} : ∀ k, (rfSt w size since k).1 = true ↔ ∃ s, s < k ∧ (dyAt w s).reads = true
  | 0 => by simp [rfSt]
  | k + 1 => by
    rw [rfSt]
    cases hr : (dyAt w k).reads
    · simp only [Bool.false_eq_true, if_false, rf_known k]
      constructor
      · rintro ⟨s, h1, h2⟩; exact ⟨s, by omega, h2⟩
      · rintro ⟨s, h1, h2⟩
        refine ⟨s, ?_, h2⟩
        rcases Nat.lt_succ_iff_lt_or_eq.1 h1 with h | rfl
        · exact h
        · rw [hr] at h2; cases h2
    · simp only [if_true, true_iff]
      exact ⟨k, by omega, hr⟩
theorem rf_span {w : List Dy} {size since : Int} : ∀ k, (rfSt w size since k).1 = true →
    (∀ y, (rfSt w size since k).2.lo + cumF w k - cumL size since k ≤ y ↔ ∀ s, s < k → (dyAt w s).reads = true → -2 * (dyAt w s).content + cumF w (s + 1) - cumL size since (s + 1) ≤ y) ∧
    (∀ y, y ≤ (rfSt w size since k).2.hi - cumF w k - cumL size since k ↔ ∀ s, s < k → (dyAt w s).reads = true → y ≤ 2 * (dyAt w s).content - cumF w (s + 1) - cumL size since (s + 1))
  | 0, h => by simp [rfSt] at h
  | k + 1, h => by
    have ih := rf_span (w := w) (size := size) (since := since) k
    have hk := rf_known (w := w) (size := size) (since := since) k
    rw [rfSt] at h ⊢
    have eF : cumF w (k + 1) = cumF w k + 2 * (dyAt w k).flow := rfl
    have eL : cumL size since (k + 1) = cumL size since k + leaks size since k := rfl
    cases hr : (dyAt w k).reads
    · rw [hr] at h
      simp only [Bool.false_eq_true, if_false] at h ⊢
      obtain ⟨h1, h2⟩ := ih h
      refine ⟨fun y => ?_, fun y => ?_⟩
      · have := h1 y
        simp only [growSp]
        rw [show (rfSt w size since k).2.lo - 2 * (dyAt w k).flow + leaks size since k + cumF w (k + 1) - cumL size since (k + 1) = (rfSt w size since k).2.lo + cumF w k - cumL size since k by omega, this]
        constructor
        · intro h s hs hrs
          rcases Nat.lt_succ_iff_lt_or_eq.1 hs with h' | rfl
          · exact h s h' hrs
          · rw [hr] at hrs; cases hrs
        · intro h s hs hrs; exact h s (by omega) hrs
      · have := h2 y
        simp only [growSp]
        rw [show (rfSt w size since k).2.hi + 2 * (dyAt w k).flow + leaks size since k - cumF w (k + 1) - cumL size since (k + 1) = (rfSt w size since k).2.hi - cumF w k - cumL size since k by omega, this]
        constructor
        · intro h s hs hrs
          rcases Nat.lt_succ_iff_lt_or_eq.1 hs with h' | rfl
          · exact h s h' hrs
          · rw [hr] at hrs; cases hrs
        · intro h s hs hrs; exact h s (by omega) hrs
    · simp only [if_true]
      cases hkn : (rfSt w size since k).1
      · simp only [Bool.false_eq_true, if_false, ownSp]
        have hno : ∀ s, s < k → (dyAt w s).reads = true → False := fun s hs hrs => by
          have := hk.2 ⟨s, hs, hrs⟩
          rw [hkn] at this; cases this
        refine ⟨fun y => ⟨fun hy s hs hrs => ?_, fun hy => hy k (by omega) hr⟩, fun y => ⟨fun hy s hs hrs => ?_, fun hy => hy k (by omega) hr⟩⟩
        · rcases Nat.lt_succ_iff_lt_or_eq.1 hs with h' | rfl
          · exact (hno s h' hrs).elim
          · exact hy
        · rcases Nat.lt_succ_iff_lt_or_eq.1 hs with h' | rfl
          · exact (hno s h' hrs).elim
          · exact hy
      · simp only [if_true, meet, ownSp, growSp]
        obtain ⟨h1, h2⟩ := ih hkn
        refine ⟨fun y => ?_, fun y => ?_⟩
        · have h1y := h1 y
          constructor
          · intro hy s hs hrs
            rcases Nat.lt_succ_iff_lt_or_eq.1 hs with h' | rfl
            · exact h1y.1 (by omega) s h' hrs
            · omega
          · intro hy
            have a := hy k (by omega) hr
            have b := h1y.2 fun s hs hrs => hy s (by omega) hrs
            omega
        · have h2y := h2 y
          constructor
          · intro hy s hs hrs
            rcases Nat.lt_succ_iff_lt_or_eq.1 hs with h' | rfl
            · exact h2y.1 (by omega) s h' hrs
            · omega
          · intro hy
            have a := hy k (by omega) hr
            have b := h2y.2 fun s hs hrs => hy s (by omega) hrs
            omega
theorem rf_order {w : List Dy} {size since : Int} (ok : WOk w) : ∀ k, k ≤ w.length → (∀ u, u < k → rfHit w size since u = false) → (rfSt w size since k).1 = true → (rfSt w size since k).2.lo ≤ (rfSt w size since k).2.hi
  | 0, _, _, h => by simp [rfSt] at h
  | k + 1, hk, hb, h => by
    have hh := hb k (by omega)
    rw [rfHit] at hh
    cases hr : (dyAt w k).reads
    · have ih := rf_order (size := size) (since := since) ok k (by omega) (fun u hu => hb u (by omega))
      rw [rfSt, hr] at h ⊢
      simp only [Bool.false_eq_true, if_false, growSp] at h ⊢
      have := ih h
      have := ok.day k (by omega)
      omega
    · rw [hr] at hh
      simp only [Bool.true_and, decide_eq_false_iff_not] at hh
      omega
theorem rf_hit {w : List Dy} {size since : Int} (ok : WOk w) (hsz : 1 ≤ size) (hsn : 0 ≤ since) {t : Nat} (ht : t < w.length) (hb : ∀ u, u < t → rfHit w size since u = false) : rfHit w size since t = foundB w size since t := by
  have hord := rf_order (size := size) (since := since) ok t (by omega) hb
  have hk := rf_known (w := w) (size := size) (since := since) t
  have hsp := rf_span (w := w) (size := size) (since := since) t
  rw [rfHit, foundB, rfSt]
  cases hr : (dyAt w t).reads
  · rfl
  simp only [Bool.true_and, if_true]
  have hc := ok.day t ht
  have eF : cumF w (t + 1) = cumF w t + 2 * (dyAt w t).flow := rfl
  have eL : cumL size since (t + 1) = cumL size since t + leaks size since t := rfl
  have hhit : ∀ j, j < t → (hitB w size since t j = true ↔ (dyAt w (t - 1 - j)).reads = true ∧ 2 * (dyAt w t).content + (cumF w (t + 1) - cumF w ((t - 1 - j) + 1)) + 2 * (dyAt w (t - 1 - j)).content < cumL size since (t + 1) - cumL size since ((t - 1 - j) + 1)) := by
    intro j hj
    rw [hitB, Bool.and_eq_true, decide_eq_true_eq, apart_eq (j + 1) (by omega), missing_eq hsn (by omega), show t + 1 - (j + 1) = (t - 1 - j) + 1 by omega]
  cases hkn : (rfSt w size since t).1
  · have hno : ∀ s, s < t → (dyAt w s).reads = true → False := fun s hs hrs => by
      have := hk.2 ⟨s, hs, hrs⟩
      rw [hkn] at this; cases this
    have h2 : (List.range t).any (hitB w size since t) = false := by
      rw [List.any_eq_false]
      intro j hj hh
      rw [List.mem_range] at hj
      exact hno _ (by omega) ((hhit j hj).1 hh).1
    rw [h2]
    simp only [Bool.false_eq_true, if_false, ownSp, decide_eq_false_iff_not]
    omega
  · obtain ⟨h1, h2⟩ := hsp hkn
    have ho := hord hkn
    simp only [if_true, meet, ownSp, growSp]
    rw [Bool.eq_iff_iff, decide_eq_true_eq, List.any_eq_true]
    have hhi := (h2 (-cumF w (t + 1) - cumL size since (t + 1))).2 (fun s hs hrs => by
      have := ok.day s (by omega)
      have := cumF_mono ok (s := s + 1) (t := t + 1) (by omega) (by omega)
      have := cumL_mono (since := since) hsz (s := s + 1) (t := t + 1) (by omega)
      omega)
    have hlo := h1 (2 * (dyAt w t).content + cumF w (t + 1) - cumL size since (t + 1))
    constructor
    · intro h
      have hnot : ¬ (rfSt w size since t).2.lo + cumF w t - cumL size since t ≤ 2 * (dyAt w t).content + cumF w (t + 1) - cumL size since (t + 1) := by omega
      rw [hlo] at hnot
      have : ∃ s, s < t ∧ (dyAt w s).reads = true ∧ ¬ -2 * (dyAt w s).content + cumF w (s + 1) - cumL size since (s + 1) ≤ 2 * (dyAt w t).content + cumF w (t + 1) - cumL size since (t + 1) := by
        apply Classical.byContradiction
        intro hn
        exact hnot fun s hs hrs => Classical.byContradiction fun hx => hn ⟨s, hs, hrs, hx⟩
      obtain ⟨s, hs, hrs, hx⟩ := this
      refine ⟨t - 1 - s, List.mem_range.2 (by omega), (hhit _ (by omega)).2 ?_⟩
      rw [show t - 1 - (t - 1 - s) = s by omega]
      exact ⟨hrs, by omega⟩
    · rintro ⟨j, hj, hh⟩
      rw [List.mem_range] at hj
      obtain ⟨hrs, hx⟩ := (hhit j hj).1 hh
      have hnot : ¬ (rfSt w size since t).2.lo + cumF w t - cumL size since t ≤ 2 * (dyAt w t).content + cumF w (t + 1) - cumL size since (t + 1) := by
        rw [hlo]
        intro hall
        have := hall _ (show t - 1 - j < t by omega) hrs
        omega
      omega
theorem find_congr {n : Nat} {p q : Nat → Bool} (h : ∀ t, t < n → (∀ u, u < t → p u = false) → p t = q t) : (List.range n).find? p = (List.range n).find? q := by
  cases hq : (List.range n).find? q with
  | none =>
    rw [List.find?_eq_none] at hq ⊢
    have hp : ∀ t, t < n → p t = false := by
      intro t
      induction t using Nat.strongRecOn with
      | _ t ih =>
        intro ht
        rw [h t ht fun u hu => ih u hu (by omega)]
        have := hq t (List.mem_range.2 ht)
        simpa using this
    intro t ht
    simp [hp t (List.mem_range.1 ht)]
  | some t =>
    rw [List.find?_range_eq_some] at hq ⊢
    obtain ⟨h1, h2, h3⟩ := hq
    have ht : t < n := by simpa using h2
    have hp : ∀ u, u < t → p u = false := by
      intro u
      induction u using Nat.strongRecOn with
      | _ u ih =>
        intro hu
        rw [h u (by omega) fun v hv => ih v hv (by omega)]
        have := h3 u hu
        simpa using this
    exact ⟨by rw [h t ht hp]; exact h1, h2, fun u hu => by simp [hp u hu]⟩
/-- The day that the reference tells is the day that the program tells. -/
theorem rf_found {w : List Dy} {size since : Int} (ok : WOk w) (hsz : 1 ≤ size) (hsn : 0 ≤ since) : rfD w size since = foundD w size since :=
  find_congr fun _ ht hb => rf_hit ok hsz hsn ht hb
end Lk
