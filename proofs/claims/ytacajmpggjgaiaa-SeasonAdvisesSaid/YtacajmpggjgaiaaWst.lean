/- Plain: the worst nomination, the worst costs. -/
import Derived.Test.YtacajmpggjgaiaaPln
set_option linter.unusedVariables false
set_option linter.unusedSimpArgs false
namespace Go.Proofs.Ytacajmpggjgaiaa
open Go.Sd

/-- The first of the first k nominations whose least sum is greatest, and this sum. -/
def worstTo (s : Sea.S) (d : Nat) (f : Int) (next : List Int) : Nat → Int × Int
  | 0 => ((Sea.dayAt s.days d).nlo, -Sea.never)
  | k + 1 =>
    if (worstTo s d f next k).2 < (s.least d f ((Sea.dayAt s.days d).nlo + k) next).1 then ((Sea.dayAt s.days d).nlo + k, (s.least d f ((Sea.dayAt s.days d).nlo + k) next).1) else worstTo s d f next k
/-- The worst nomination, and its worst cost. -/
def worstOf (s : Sea.S) (d : Nat) (f : Int) (next : List Int) : Int × Int := worstTo s d f next ((Sea.dayAt s.days d).nhi - (Sea.dayAt s.days d).nlo + 1).toNat

/-- The worst costs on the day that lies j days ahead of the end. -/
def wrow (s : Sea.S) : Nat → List Int
  | 0 => s.last
  | j + 1 => (List.range (s.space + 1).toNat).map fun (f : Nat) => (worstOf s (s.days.length - 1 - j) f (wrow s j)).2

theorem wrow_length (s : Sea.S) (j : Nat) : (wrow s j).length = (s.space + 1).toNat := by cases j <;> simp [wrow, Sea.S.last]

theorem worstTo_bd {s : Sea.S} (ok : Sea.Ok s) {d : Nat} (hd : d < s.days.length) (f : Int) (next : List Int) (c : Int) (hc : 0 ≤ c) (hc2 : c ≤ 100000000000) (hn : ∀ i, -c ≤ Sea.at0 next i) :
    ∀ k : Nat, (0 < k → -(c + 100000000) ≤ (worstTo s d f next k).2) ∧ (worstTo s d f next k).2 ≤ Sea.never ∧ -Sea.never ≤ (worstTo s d f next k).2 := by
  intro k
  have hb := ok.days d hd
  induction k with
  | zero => exact ⟨fun h => by omega, by unfold worstTo Sea.never; simp, Int.le_refl _⟩
  | succ k ih =>
    have hl := least_bd ok hd f ((Sea.dayAt s.days d).nlo + k) next c hc hc2 hn ((Sea.dayAt s.days d).take + (Sea.dayAt s.days d).offer + 1).toNat (by rw [Int.toNat_of_nonneg]; exact Int.le_refl _; omega)
    have hle : s.least d f ((Sea.dayAt s.days d).nlo + k) next = Sea.leastTo s d f ((Sea.dayAt s.days d).nlo + k) next ((Sea.dayAt s.days d).take + (Sea.dayAt s.days d).offer + 1).toNat := rfl
    rw [← hle] at hl
    rw [worstTo]
    unfold Sea.never at *
    split
    · refine ⟨fun _ => hl.1, hl.2, ?_⟩
      show _ ≤ (s.least d f ((Sea.dayAt s.days d).nlo + k) next).1
      omega
    · rename_i h
      exact ⟨fun _ => by omega, ih.2⟩

theorem wrow_bd {s : Sea.S} (ok : Sea.Ok s) : ∀ j : Nat, j ≤ s.days.length → ∀ i, -(100000000 * (j : Int)) ≤ Sea.at0 (wrow s j) i ∧ Sea.at0 (wrow s j) i ≤ Sea.never := by
  intro j
  have hl := ok.ndays
  induction j with
  | zero =>
    intro _ i
    by_cases hi : i < (s.space + 1).toNat
    · rw [show wrow s 0 = s.last from rfl, last_at (by unfold Sea.S.last; simpa using hi)]
      unfold Sea.S.lastAt Sea.never; split <;> omega
    · rw [at0_out (by rw [wrow_length]; omega)]; unfold Sea.never; omega
  | succ j ih =>
    intro hj i
    have ih := ih (by omega)
    by_cases hi : i < (s.space + 1).toNat
    · rw [wrow, at0_map hi]
      have hd : s.days.length - 1 - j < s.days.length := by omega
      have hdk := ok.days _ hd
      have := worstTo_bd ok hd (i : Int) (wrow s j) (100000000 * (j : Int)) (by omega) (by omega) (fun i => (ih i).1) ((Sea.dayAt s.days (s.days.length - 1 - j)).nhi - (Sea.dayAt s.days (s.days.length - 1 - j)).nlo + 1).toNat
      unfold worstOf
      exact ⟨by have := this.1 (by omega); omega, this.2.1⟩
    · rw [at0_out (by rw [wrow_length]; omega)]; unfold Sea.never; omega

theorem wrow_next {s : Sea.S} (ok : Sea.Ok s) {j d f : Nat} (hd : d + 1 + j = s.days.length) (hf : (f : Int) ≤ s.space) : Sea.at0 (wrow s (j + 1)) f = (worstOf s d f (wrow s j)).2 := by
  have hsp := ok.space
  rw [wrow, at0_map (by omega), show s.days.length - 1 - j = d by omega]

/-- Once SeasonNever, always so. -/
theorem worst_stop {s : Sea.S} (ok : Sea.Ok s) {d : Nat} (hd : d < s.days.length) (f : Int) (next : List Int) (hn : ∀ i, Sea.at0 next i ≤ Sea.never) {k : Nat} (h : (worstTo s d f next k).2 = Sea.never) :
    ∀ n, worstTo s d f next (k + n) = worstTo s d f next k
  | 0 => rfl
  | n + 1 => by
    have h1 := worst_stop ok hd f next hn h n
    have h2 := (first_all s d f ((Sea.dayAt s.days d).nlo + (k + n : Nat)) next hn)
    have h3 : (s.least d f ((Sea.dayAt s.days d).nlo + (k + n : Nat)) next).1 ≤ Sea.never := by
      rw [h2.1]
      rcases h2.2 with ⟨-, h⟩ | ⟨u, -, -, h⟩
      · simp only [h]; exact Int.le_refl _
      · simp only []; omega
    rw [show k + (n + 1) = (k + n) + 1 by omega, worstTo, h1, h, if_neg (by omega)]
end Go.Proofs.Ytacajmpggjgaiaa
