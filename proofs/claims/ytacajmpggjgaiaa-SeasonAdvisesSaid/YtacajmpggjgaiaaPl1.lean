/- The plain law: the first of the possible orders for which the cost with the value is least is the document's least. -/
import Derived.Test.YtacajmpggjgaiaaP6
set_option linter.unusedVariables false
set_option linter.unusedSimpArgs false
namespace Go.Proofs.Ytacajmpggjgaiaa
open Go.Sd

theorem first_least (s : Sea.S) (k : Nat) (fill nom : Int) (next : List Int) (hn : ∀ i, Sea.at0 next i ≤ Sea.never) (j : Nat) :
    Sea.leastTo s k fill nom next j = ((firstOf (withOf s k fill nom next) (ordersTo s k fill nom j)).1, (firstOf (withOf s k fill nom next) (ordersTo s k fill nom j)).2.getD 0) ∧
      (((firstOf (withOf s k fill nom next) (ordersTo s k fill nom j)).2 = none ∧ (firstOf (withOf s k fill nom next) (ordersTo s k fill nom j)).1 = Sea.never) ∨
        (∃ u, (firstOf (withOf s k fill nom next) (ordersTo s k fill nom j)).2 = some u ∧ u ∈ ordersTo s k fill nom j ∧ (firstOf (withOf s k fill nom next) (ordersTo s k fill nom j)).1 < Sea.never)) := by
  induction j with
  | zero => exact ⟨rfl, .inl ⟨rfl, rfl⟩⟩
  | succ j ih =>
    obtain ⟨h1, h2⟩ := ih
    rw [Sea.leastTo, h1]
    cases hp : possB s k fill nom ((j : Int) - (Sea.dayAt s.days k).take)
    · rw [ordersTo_no hp]
      have hr : ¬ s.rule k fill nom ((j : Int) - (Sea.dayAt s.days k).take) = 1 := by simpa [possB] using hp
      exact ⟨by simp [hr], h2⟩
    · rw [ordersTo_yes hp, firstOf_snoc]
      have hr : s.rule k fill nom ((j : Int) - (Sea.dayAt s.days k).take) = 1 := by simpa [possB] using hp
      generalize hb : firstOf (withOf s k fill nom next) (ordersTo s k fill nom j) = b at *
      have hb1 : b.1 ≤ Sea.never := by rcases h2 with ⟨-, h⟩ | ⟨u, -, -, h⟩ <;> omega
      have hx := hn (fill + nom + ((j : Int) - (Sea.dayAt s.days k).take)).toNat
      by_cases he : Sea.at0 next (fill + nom + ((j : Int) - (Sea.dayAt s.days k).take)).toNat = Sea.never
      · have hpk : pick (withOf s k fill nom next) b ((j : Int) - (Sea.dayAt s.days k).take) = b := by
          unfold pick withOf
          rw [if_pos he, if_neg (by omega)]
        rw [hpk]
        refine ⟨?_, ?_⟩
        · simp only
          rw [if_neg (by rintro ⟨-, h, -⟩; omega)]
        · rcases h2 with h | ⟨u, h3, h4, h5⟩
          · exact .inl h
          · exact .inr ⟨u, h3, by simp [h4], h5⟩
      · by_cases hlt : s.cost k ((j : Int) - (Sea.dayAt s.days k).take) + Sea.at0 next (fill + nom + ((j : Int) - (Sea.dayAt s.days k).take)).toNat < b.1
        · have hpk : pick (withOf s k fill nom next) b ((j : Int) - (Sea.dayAt s.days k).take) = (s.cost k ((j : Int) - (Sea.dayAt s.days k).take) + Sea.at0 next (fill + nom + ((j : Int) - (Sea.dayAt s.days k).take)).toNat, some ((j : Int) - (Sea.dayAt s.days k).take)) := by
            unfold pick withOf
            rw [if_neg he, if_pos hlt]
          rw [hpk]
          refine ⟨?_, .inr ⟨_, rfl, by simp, by simp only []; omega⟩⟩
          simp only
          rw [if_pos ⟨hr, by omega, hlt⟩]
          rfl
        · have hpk : pick (withOf s k fill nom next) b ((j : Int) - (Sea.dayAt s.days k).take) = b := by
            unfold pick withOf
            rw [if_neg he, if_neg hlt]
          rw [hpk]
          refine ⟨?_, ?_⟩
          · simp only
            rw [if_neg (by rintro ⟨-, -, h⟩; omega)]
          · rcases h2 with h | ⟨u, h3, h4, h5⟩
            · exact .inl h
            · exact .inr ⟨u, h3, by simp [h4], h5⟩

theorem first_all (s : Sea.S) (k : Nat) (fill nom : Int) (next : List Int) (hn : ∀ i, Sea.at0 next i ≤ Sea.never) :
    s.least k fill nom next = ((firstOf (withOf s k fill nom next) (ordersOf s k fill nom)).1, (firstOf (withOf s k fill nom next) (ordersOf s k fill nom)).2.getD 0) ∧
      (((firstOf (withOf s k fill nom next) (ordersOf s k fill nom)).2 = none ∧ (firstOf (withOf s k fill nom next) (ordersOf s k fill nom)).1 = Sea.never) ∨
        (∃ u, (firstOf (withOf s k fill nom next) (ordersOf s k fill nom)).2 = some u ∧ u ∈ ordersOf s k fill nom ∧ (firstOf (withOf s k fill nom next) (ordersOf s k fill nom)).1 < Sea.never)) :=
  first_least s k fill nom next hn _

/-- An order among those that are possible. -/
theorem order_in {s : Sea.S} {k : Nat} {fill nom u : Int} (ok : Sea.Ok s) (hk : k < s.days.length) (h : u ∈ ordersOf s k fill nom) :
    -100 ≤ u ∧ u ≤ 100 ∧ s.rule k fill nom u = 1 ∧ 0 ≤ fill + nom + u ∧ fill + nom + u ≤ s.space := by
  unfold ordersOf ordersTo at h
  rw [List.mem_filter, List.mem_map] at h
  obtain ⟨⟨j, hj, rfl⟩, hp⟩ := h
  rw [List.mem_range] at hj
  have hd := ok.days k hk
  have hr : s.rule k fill nom ((j : Int) - (Sea.dayAt s.days k).take) = 1 := by simpa [possB] using hp
  have := rule_fine hr (by omega) (by omega)
  exact ⟨by omega, by omega, hr, this.1, this.2⟩
end Go.Proofs.Ytacajmpggjgaiaa
