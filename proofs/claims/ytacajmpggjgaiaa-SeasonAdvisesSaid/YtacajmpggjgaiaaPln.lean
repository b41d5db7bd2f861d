/- Plain: the cheapest plan, day by day. -/
import Derived.Test.YtacajmpggjgaiaaTab2
set_option linter.unusedVariables false
set_option linter.unusedSimpArgs false
namespace Go.Proofs.Ytacajmpggjgaiaa
open Go.Sd

/-- The orders of the first t days of the cheapest plan, and the fill behind them. -/
def planTo (s : Sea.S) (noms : List Int) : Nat → List Int × Int
  | 0 => ([], s.start)
  | t + 1 =>
    let x := (s.least t (planTo s noms t).2 (Sea.at0 noms t) (s.vals noms (s.days.length - 1 - t))).2
    ((planTo s noms t).1 ++ [x], (planTo s noms t).2 + Sea.at0 noms t + x)

/-- The least cost. -/
def bestCost (s : Sea.S) (noms : List Int) : Int := Sea.at0 (s.vals noms s.days.length) s.start.toNat

/-- The cheapest plan, its cost, and the error. -/
def bestOf (s : Sea.S) (noms : List Int) : List Int × Int × Int :=
  if Sea.validB s = true ∧ s.nomsB noms = true then (if bestCost s noms = Sea.never then ([], 0, 5) else ((planTo s noms s.days.length).1, bestCost s noms, 0)) else ([], 0, 2)

theorem bestOf_no {s : Sea.S} {noms : List Int} (h : Sea.validB s = false ∨ s.nomsB noms = false) : bestOf s noms = ([], 0, 2) := if_neg (by rintro ⟨h1, h2⟩; rcases h with h | h <;> simp_all)
theorem bestOf_none {s : Sea.S} {noms : List Int} (h1 : Sea.validB s = true) (h2 : s.nomsB noms = true) (h : bestCost s noms = Sea.never) : bestOf s noms = ([], 0, 5) := by
  unfold bestOf; rw [if_pos ⟨h1, h2⟩, if_pos h]
theorem bestOf_yes {s : Sea.S} {noms : List Int} (h1 : Sea.validB s = true) (h2 : s.nomsB noms = true) (h : ¬ bestCost s noms = Sea.never) : bestOf s noms = ((planTo s noms s.days.length).1, bestCost s noms, 0) := by
  unfold bestOf; rw [if_pos ⟨h1, h2⟩, if_neg h]

theorem planTo_len (s : Sea.S) (noms : List Int) : ∀ t, (planTo s noms t).1.length = t
  | 0 => rfl
  | t + 1 => by simp [planTo, planTo_len s noms t]

theorem first_val (num : Int → Int) (xs : List Int) : ∀ u, (firstOf num xs).2 = some u → (firstOf num xs).1 = num u := by
  have : ∀ (xs : List Int) (b : Int × Option Int), (∀ u, b.2 = some u → b.1 = num u) → ∀ u, (xs.foldl (pick num) b).2 = some u → (xs.foldl (pick num) b).1 = num u := by
    intro xs
    induction xs with
    | nil => intro b hb u; exact hb u
    | cons x xs ih =>
      intro b hb
      refine ih _ fun u hu => ?_
      unfold pick at hu ⊢
      split at hu
      · rename_i h; rw [if_pos h]; simp at hu; subst hu; rfl
      · rename_i h; rw [if_neg h]; exact hb u hu
  exact this xs (Sea.never, none) (fun u h => by cases h)

/-- A value that is not SeasonNever: some order is possible, and leads to such a value. -/
theorem step_of {s : Sea.S} (ok : Sea.Ok s) (noms : List Int) {d j : Nat} {f : Int} (hd : d + 1 + j = s.days.length) (hf : 0 ≤ f ∧ f ≤ s.space) (h : Sea.at0 (s.vals noms (j + 1)) f.toNat < Sea.never) :
    ∃ u, u ∈ ordersOf s d f (Sea.at0 noms d) ∧ (firstOf (withOf s d f (Sea.at0 noms d) (s.vals noms j)) (ordersOf s d f (Sea.at0 noms d))).2 = some u ∧
      (s.least d f (Sea.at0 noms d) (s.vals noms j)).2 = u ∧ 0 ≤ f + Sea.at0 noms d + u ∧ f + Sea.at0 noms d + u ≤ s.space ∧ Sea.at0 (s.vals noms j) (f + Sea.at0 noms d + u).toNat < Sea.never ∧
      Sea.at0 (s.vals noms (j + 1)) f.toNat = s.cost d u + Sea.at0 (s.vals noms j) (f + Sea.at0 noms d + u).toNat := by
  obtain ⟨k, rfl⟩ := Int.eq_ofNat_of_zero_le hf.1
  rw [Int.toNat_natCast] at h ⊢
  have hv := vals_next ok noms hd (f := k) hf.2
  have hbd := fun i => vals_bd ok noms j (by omega) i
  obtain ⟨h1, h2⟩ := first_all s d k (Sea.at0 noms d) (s.vals noms j) (fun i => (hbd i).2)
  have hat : Sea.at0 (s.vals noms (j + 1)) k = (firstOf (withOf s d k (Sea.at0 noms d) (s.vals noms j)) (ordersOf s d k (Sea.at0 noms d))).1 := by
    unfold Sea.at0 at hv ⊢; rw [List.getD_eq_getElem?_getD, hv]; rfl
  rw [hat] at h ⊢
  rcases h2 with ⟨-, h3⟩ | ⟨u, h3, h4, h5⟩
  · rw [h3] at h; unfold Sea.never at h; omega
  · have ho := order_in ok (by omega) h4
    have hw := first_val (withOf s d k (Sea.at0 noms d) (s.vals noms j)) (ordersOf s d k (Sea.at0 noms d)) u h3
    have hne : Sea.at0 (s.vals noms j) ((k : Int) + Sea.at0 noms d + u).toNat ≠ Sea.never := by
      intro e
      rw [hw] at h
      unfold withOf at h
      rw [if_pos e] at h
      unfold Sea.never at h; omega
    refine ⟨u, h4, h3, ?_, ho.2.2.2.1, ho.2.2.2.2, ?_, ?_⟩
    · have := congrArg Prod.snd h1
      rw [this, h3]; rfl
    · have := (hbd ((k : Int) + Sea.at0 noms d + u).toNat).2
      omega
    · rw [hw]; unfold withOf; rw [if_neg hne]
end Go.Proofs.Ytacajmpggjgaiaa
