/- Plain: bounds of the values of the proof; the first of the orders gives them. -/
import Derived.Test.YtacajmpggjgaiaaTab
import Derived.Test.YtacajmpggjgaiaaPl1
import Derived.Test.YtacajmpggjgaiaaW5
set_option linter.unusedVariables false
set_option linter.unusedSimpArgs false
namespace Go.Proofs.Ytacajmpggjgaiaa
open Go.RowKit Go.Sd

theorem least_bd {s : Sea.S} (ok : Sea.Ok s) {d : Nat} (hd : d < s.days.length) (fill nom : Int) (next : List Int) (c : Int) (hc : 0 ≤ c) (hc2 : c ≤ 100000000000)
    (hn : ∀ i, -c ≤ Sea.at0 next i) : ∀ k : Nat, (k : Int) ≤ (Sea.dayAt s.days d).take + (Sea.dayAt s.days d).offer + 1 →
    -(c + 100000000) ≤ (Sea.leastTo s d fill nom next k).1 ∧ (Sea.leastTo s d fill nom next k).1 ≤ Sea.never := by
  intro k
  have hb := ok.days d hd
  induction k with
  | zero => intro _; unfold Sea.leastTo Sea.never; omega
  | succ k ih =>
    intro hk
    have ih := ih (by omega)
    rw [Sea.leastTo]
    split
    · have h1 := cost_bd ok hd (x := (k : Int) - (Sea.dayAt s.days d).take) (by omega)
      have h2 := hn (fill + nom + ((k : Int) - (Sea.dayAt s.days d).take)).toNat
      rename_i h
      have := h.2.2
      show -(c + 100000000) ≤ s.cost _ _ + _ ∧ s.cost _ _ + _ ≤ Sea.never
      omega
    · exact ih

theorem at0_out {l : List Int} {i : Nat} (h : l.length ≤ i) : Sea.at0 l i = 0 := by
  unfold Sea.at0; simp [List.getElem?_eq_none h]

theorem at0_map {n : Nat} {f : Nat → Int} {i : Nat} (h : i < n) : Sea.at0 ((List.range n).map f) i = f i := by
  unfold Sea.at0; simp [h]

theorem vals_bd {s : Sea.S} (ok : Sea.Ok s) (noms : List Int) : ∀ j : Nat, j ≤ s.days.length → ∀ i, -(100000000 * (j : Int)) ≤ Sea.at0 (s.vals noms j) i ∧ Sea.at0 (s.vals noms j) i ≤ Sea.never := by
  intro j
  have hl := ok.ndays
  induction j with
  | zero =>
    intro _ i
    by_cases hi : i < (s.space + 1).toNat
    · rw [show s.vals noms 0 = s.last from rfl, last_at (by unfold Sea.S.last; simpa using hi)]
      unfold Sea.S.lastAt Sea.never; split <;> omega
    · rw [at0_out (by rw [Sea.S.vals_length]; omega)]; unfold Sea.never; omega
  | succ j ih =>
    intro hj i
    have ih := ih (by omega)
    by_cases hi : i < (s.space + 1).toNat
    · rw [Sea.S.vals, at0_map hi]
      have hd : s.days.length - 1 - j < s.days.length := by omega
      have hdk := ok.days _ hd
      have := least_bd ok hd (i : Int) (Sea.at0 noms (s.days.length - 1 - j)) (s.vals noms j) (100000000 * (j : Int)) (by omega) (by omega) (fun i => (ih i).1) _ (by rw [Int.toNat_of_nonneg]; exact Int.le_refl _; omega)
      unfold Sea.S.least
      exact ⟨by have := this.1; omega, this.2⟩
    · rw [at0_out (by rw [Sea.S.vals_length]; omega)]; unfold Sea.never; omega

/-- The next value of the proof, as the program finds it. -/
theorem vals_next {s : Sea.S} (ok : Sea.Ok s) (noms : List Int) {j d f : Nat} (hd : d + 1 + j = s.days.length) (hf : (f : Int) ≤ s.space) :
    (s.vals noms (j + 1))[f]? = some (firstOf (withOf s d f (Sea.at0 noms d) (s.vals noms j)) (ordersOf s d f (Sea.at0 noms d))).1 := by
  have hsp := ok.space
  have e : s.days.length - 1 - j = d := by omega
  have h := (first_all s d f (Sea.at0 noms d) (s.vals noms j) (fun i => (vals_bd ok noms j (by omega) i).2)).1
  rw [Sea.S.vals, List.getElem?_map, List.getElem?_range (by omega), Option.map_some, e, h]

theorem noms_bd {s : Sea.S} (ok : Sea.Ok s) {noms : List Int} (h : s.nomsB noms = true) : noms.length = s.days.length ∧ ∀ k, k < s.days.length → -100 ≤ Sea.at0 noms k ∧ Sea.at0 noms k ≤ 100 := by
  unfold Sea.S.nomsB at h
  rw [Bool.and_eq_true, decide_eq_true_eq, List.all_eq_true] at h
  refine ⟨h.1, fun k hk => ?_⟩
  have h1 := Sea.inB_iff.1 (h.2 k (by rw [List.mem_range, h.1]; exact hk))
  have h2 := ok.days k hk
  omega
end Go.Proofs.Ytacajmpggjgaiaa
