/- Plain: bounds of the values of the proof; the first of the orders gives them. Plain: the cheapest plan, day by day. Plain: the worst nomination, the worst costs. -/
import Derived.Test.YtacajmpggjgaiaaMem
import Derived.Test.YtacajmpggjgaiaaP5
import Derived.Test.YtacajmpggjgaiaaW5
set_option linter.unusedVariables false
set_option linter.unusedSimpArgs false
namespace Go.Proofs.Ytacajmpggjgaiaa
open Go.RowKit Go.Sd

theorem least_bd {s : Sea.S} (ok : Sea.Ok s) {d : Nat} (hd : d < s.days.length) (fill nom : Int) (next : List Int) (c : Int) (hc : 0 ≤ c) (hc2 : c ≤ 100000000000)
    (hn : ∀ i, -c ≤ Sea.at0 next i) : ∀ k : Nat, (k : Int) ≤ (Sea.dayAt s.days d).take + (Sea.dayAt s.days d).offer + 1 →
    -(c + 100000000) ≤ (Sea.leastTo s d fill nom next k).1 ∧ (Sea.leastTo s d fill nom next k).1 ≤ Sea.never := by
  intro k
  have hb := ok.days d hd
  induction k with
  | zero => intro _; unfold Sea.leastTo Sea.never; omega
  | succ k ih =>
    intro hk
    have ih := ih (by omega)
    rw [Sea.leastTo]
    split
    · have h1 := cost_bd ok hd (x := (k : Int) - (Sea.dayAt s.days d).take) (by omega)
      have h2 := hn (fill + nom + ((k : Int) - (Sea.dayAt s.days d).take)).toNat
      rename_i h
      have := h.2.2
      show -(c + 100000000) ≤ s.cost _ _ + _ ∧ s.cost _ _ + _ ≤ Sea.never
      omega
    · exact ih

theorem at0_out {l : List Int} {i : Nat} (h : l.length ≤ i) : Sea.at0 l i = 0 := by
  unfold Sea.at0; simp [List.getElem?_eq_none h]

theorem at0_map {n : Nat} {f : Nat → Int} {i : Nat} (h : i < n) : Sea.at0 ((List.range n).map f) i = f i := by
  unfold Sea.at0; simp [h]

theorem vals_bd {s : Sea.S} (ok : Sea.Ok s) (noms : List Int) : ∀ j : Nat, j ≤ s.days.length → ∀ i, -(100000000 * (j : Int)) ≤ Sea.at0 (s.vals noms j) i ∧ Sea.at0 (s.vals noms j) i ≤ Sea.never := by
  intro j
  have hl := ok.ndays
  induction j with
  | zero =>
    intro _ i
    by_cases hi : i < (s.space + 1).toNat
    · rw [show s.vals noms 0 = s.last from rfl, last_at (by unfold Sea.S.last; simpa using hi)]
      unfold Sea.S.lastAt Sea.never; split <;> omega
    · rw [at0_out (by rw [Sea.S.vals_length]; omega)]; unfold Sea.never; omega
  | succ j ih =>
    intro hj i
    have ih := ih (by omega)
    by_cases hi : i < (s.space + 1).toNat
    · rw [Sea.S.vals, at0_map hi]
      have hd : s.days.length - 1 - j < s.days.length := by omega
      have hdk := ok.days _ hd
      have := least_bd ok hd (i : Int) (Sea.at0 noms (s.days.length - 1 - j)) (s.vals noms j) (100000000 * (j : Int)) (by omega) (by omega) (fun i => (ih i).1) _ (by rw [Int.toNat_of_nonneg]; exact Int.le_refl _; omega)
      unfold Sea.S.least
      exact ⟨by have := this.1; omega, this.2⟩
    · rw [at0_out (by rw [Sea.S.vals_length]; omega)]; unfold Sea.never; omega

/-- The next value of the proof, as the program finds it. -/
theorem vals_next {s : Sea.S} (ok : Sea.Ok s) (noms : List Int) {j d f : Nat} (hd : d + 1 + j = s.days.length) (hf : (f : Int) ≤ s.space) :
    (s.vals noms (j + 1))[f]? = some (firstOf (withOf s d f (Sea.at0 noms d) (s.vals noms j)) (ordersOf s d f (Sea.at0 noms d))).1 := by
  have hsp := ok.space
  have e : s.days.length - 1 - j = d := by omega
  have h := (first_all s d f (Sea.at0 noms d) (s.vals noms j) (fun i => (vals_bd ok noms j (by omega) i).2)).1
  rw [Sea.S.vals, List.getElem?_map, List.getElem?_range (by omega), Option.map_some, e, h]

theorem noms_bd {s : Sea.S} (ok : Sea.Ok s) {noms : List Int} (h : s.nomsB noms = true) : noms.length = s.days.length ∧ ∀ k, k < s.days.length → -100 ≤ Sea.at0 noms k ∧ Sea.at0 noms k ≤ 100 := by
  unfold Sea.S.nomsB at h
  rw [Bool.and_eq_true, decide_eq_true_eq, List.all_eq_true] at h
  refine ⟨h.1, fun k hk => ?_⟩
  have h1 := Sea.inB_iff.1 (h.2 k (by rw [List.mem_range, h.1]; exact hk))
  have h2 := ok.days k hk
  omega
end Go.Proofs.Ytacajmpggjgaiaa
namespace Go.Proofs.Ytacajmpggjgaiaa
open Go.Sd

/-- The orders of the first t days of the cheapest plan, and the fill behind them. -/
def planTo (s : Sea.S) (noms : List Int) : Nat → List Int × Int
  | 0 => ([], s.start)
  | t + 1 =>
    let x := (s.least t (planTo s noms t).2 (Sea.at0 noms t) (s.vals noms (s.days.length - 1 - t))).2
    ((planTo s noms t).1 ++ [x], (planTo s noms t).2 + Sea.at0 noms t + x)

/-- The least cost. -/
def bestCost (s : Sea.S) (noms : List Int) : Int := Sea.at0 (s.vals noms s.days.length) s.start.toNat

/-- The cheapest plan, its cost, and the error. -/
def bestOf (s : Sea.S) (noms : List Int) : List Int × Int × Int :=
  if Sea.validB s = true ∧ s.nomsB noms = true then (if bestCost s noms = Sea.never then ([], 0, 5) else ((planTo s noms s.days.length).1, bestCost s noms, 0)) else ([], 0, 2)

theorem bestOf_no {s : Sea.S} {noms : List Int} (h : Sea.validB s = false ∨ s.nomsB noms = false) : bestOf s noms = ([], 0, 2) := if_neg (by rintro ⟨h1, h2⟩; rcases h with h | h <;> simp_all)
theorem bestOf_none {s : Sea.S} {noms : List Int} (h1 : Sea.validB s = true) (h2 : s.nomsB noms = true) (h : bestCost s noms = Sea.never) : bestOf s noms = ([], 0, 5) := by
  unfold bestOf; rw [if_pos ⟨h1, h2⟩, if_pos h]
theorem bestOf_yes {s : Sea.S} {noms : List Int} (h1 : Sea.validB s = true) (h2 : s.nomsB noms = true) (h : ¬ bestCost s noms = Sea.never) : bestOf s noms = ((planTo s noms s.days.length).1, bestCost s noms, 0) := by
  unfold bestOf; rw [if_pos ⟨h1, h2⟩, if_neg h]

theorem planTo_len (s : Sea.S) (noms : List Int) : ∀ t, (planTo s noms t).1.length = t
  | 0 => rfl
  | t + 1 => by simp [planTo, planTo_len s noms t]

theorem first_val (num : Int → Int) (xs : List Int) : ∀ u, (firstOf num xs).2 = some u → (firstOf num xs).1 = num u := by
  have : ∀ (xs : List Int) (b : Int × Option Int), (∀ u, b.2 = some u → b.1 = num u) → ∀ u, (xs.foldl (pick num) b).2 = some u → (xs.foldl (pick num) b).1 = num u := by
    intro xs
    induction xs with
    | nil => intro b hb u; exact hb u
    | cons x xs ih =>
      intro b hb
      refine ih _ fun u hu => ?_
      unfold pick at hu ⊢
      split at hu
      · rename_i h; rw [if_pos h]; simp at hu; subst hu; rfl
      · rename_i h; rw [if_neg h]; exact hb u hu
  exact this xs (Sea.never, none) (fun u h => by cases h)

/-- A value that is not SeasonNever: some order is possible, and leads to such a value. -/
theorem step_of {s : Sea.S} (ok : Sea.Ok s) (noms : List Int) {d j : Nat} {f : Int} (hd : d + 1 + j = s.days.length) (hf : 0 ≤ f ∧ f ≤ s.space) (h : Sea.at0 (s.vals noms (j + 1)) f.toNat < Sea.never) :
    ∃ u, u ∈ ordersOf s d f (Sea.at0 noms d) ∧ (firstOf (withOf s d f (Sea.at0 noms d) (s.vals noms j)) (ordersOf s d f (Sea.at0 noms d))).2 = some u ∧
      (s.least d f (Sea.at0 noms d) (s.vals noms j)).2 = u ∧ 0 ≤ f + Sea.at0 noms d + u ∧ f + Sea.at0 noms d + u ≤ s.space ∧ Sea.at0 (s.vals noms j) (f + Sea.at0 noms d + u).toNat < Sea.never ∧
      Sea.at0 (s.vals noms (j + 1)) f.toNat = s.cost d u + Sea.at0 (s.vals noms j) (f + Sea.at0 noms d + u).toNat := by
  obtain ⟨k, rfl⟩ := Int.eq_ofNat_of_zero_le hf.1
  rw [Int.toNat_natCast] at h ⊢
  have hv := vals_next ok noms hd (f := k) hf.2
  have hbd := fun i => vals_bd ok noms j (by omega) i
  obtain ⟨h1, h2⟩ := first_all s d k (Sea.at0 noms d) (s.vals noms j) (fun i => (hbd i).2)
  have hat : Sea.at0 (s.vals noms (j + 1)) k = (firstOf (withOf s d k (Sea.at0 noms d) (s.vals noms j)) (ordersOf s d k (Sea.at0 noms d))).1 := by
    unfold Sea.at0 at hv ⊢; rw [List.getD_eq_getElem?_getD, hv]; rfl
  rw [hat] at h ⊢
  rcases h2 with ⟨-, h3⟩ | ⟨u, h3, h4, h5⟩
  · rw [h3] at h; unfold Sea.never at h; omega
  · have ho := order_in ok (by omega) h4
    have hw := first_val (withOf s d k (Sea.at0 noms d) (s.vals noms j)) (ordersOf s d k (Sea.at0 noms d)) u h3
    have hne : Sea.at0 (s.vals noms j) ((k : Int) + Sea.at0 noms d + u).toNat ≠ Sea.never := by
      intro e
      rw [hw] at h
      unfold withOf at h
      rw [if_pos e] at h
      unfold Sea.never at h; omega
    refine ⟨u, h4, h3, ?_, ho.2.2.2.1, ho.2.2.2.2, ?_, ?_⟩
    · have := congrArg Prod.snd h1
      rw [this, h3]; rfl
    · have := (hbd ((k : Int) + Sea.at0 noms d + u).toNat).2
      omega
    · rw [hw]; unfold withOf; rw [if_neg hne]
end Go.Proofs.Ytacajmpggjgaiaa
namespace Go.Proofs.Ytacajmpggjgaiaa
open Go.Sd

/-- The first of the first k nominations whose least sum is greatest, and this sum. -/
def worstTo (s : Sea.S) (d : Nat) (f : Int) (next : List Int) : Nat → Int × Int
  | 0 => ((Sea.dayAt s.days d).nlo, -Sea.never)
  | k + 1 =>
    if (worstTo s d f next k).2 < (s.least d f ((Sea.dayAt s.days d).nlo + k) next).1 then ((Sea.dayAt s.days d).nlo + k, (s.least d f ((Sea.dayAt s.days d).nlo + k) next).1) else worstTo s d f next k
/-- The worst nomination, and its worst cost. -/
def worstOf (s : Sea.S) (d : Nat) (f : Int) (next : List Int) : Int × Int := worstTo s d f next ((Sea.dayAt s.days d).nhi - (Sea.dayAt s.days d).nlo + 1).toNat

/-- The worst costs on the day that lies j days ahead of the end. -/
def wrow (s : Sea.S) : Nat → List Int
  | 0 => s.last
  | j + 1 => (List.range (s.space + 1).toNat).map fun (f : Nat) => (worstOf s (s.days.length - 1 - j) f (wrow s j)).2

theorem wrow_length (s : Sea.S) (j : Nat) : (wrow s j).length = (s.space + 1).toNat := by cases j <;> simp [wrow, Sea.S.last]

theorem worstTo_bd {s : Sea.S} (ok : Sea.Ok s) {d : Nat} (hd : d < s.days.length) (f : Int) (next : List Int) (c : Int) (hc : 0 ≤ c) (hc2 : c ≤ 100000000000) (hn : ∀ i, -c ≤ Sea.at0 next i) :
    ∀ k : Nat, (0 < k → -(c + 100000000) ≤ (worstTo s d f next k).2) ∧ (worstTo s d f next k).2 ≤ Sea.never ∧ -Sea.never ≤ (worstTo s d f next k).2 := by
  intro k
  have hb := ok.days d hd
  induction k with
  | zero => exact ⟨fun h => by omega, by unfold worstTo Sea.never; simp, Int.le_refl _⟩
  | succ k ih =>
    have hl := least_bd ok hd f ((Sea.dayAt s.days d).nlo + k) next c hc hc2 hn ((Sea.dayAt s.days d).take + (Sea.dayAt s.days d).offer + 1).toNat (by rw [Int.toNat_of_nonneg]; exact Int.le_refl _; omega)
    have hle : s.least d f ((Sea.dayAt s.days d).nlo + k) next = Sea.leastTo s d f ((Sea.dayAt s.days d).nlo + k) next ((Sea.dayAt s.days d).take + (Sea.dayAt s.days d).offer + 1).toNat := rfl
    rw [← hle] at hl
    rw [worstTo]
    unfold Sea.never at *
    split
    · refine ⟨fun _ => hl.1, hl.2, ?_⟩
      show _ ≤ (s.least d f ((Sea.dayAt s.days d).nlo + k) next).1
      omega
    · rename_i h
      exact ⟨fun _ => by omega, ih.2⟩

theorem wrow_bd {s : Sea.S} (ok : Sea.Ok s) : ∀ j : Nat, j ≤ s.days.length → ∀ i, -(100000000 * (j : Int)) ≤ Sea.at0 (wrow s j) i ∧ Sea.at0 (wrow s j) i ≤ Sea.never := by
  intro j
  have hl := ok.ndays
  induction j with
  | zero =>
    intro _ i
    by_cases hi : i < (s.space + 1).toNat
    · rw [show wrow s 0 = s.last from rfl, last_at (by unfold Sea.S.last; simpa using hi)]
      unfold Sea.S.lastAt Sea.never; split <;> omega
    · rw [at0_out (by rw [wrow_length]; omega)]; unfold Sea.never; omega
  | succ j ih =>
    intro hj i
    have ih := ih (by omega)
    by_cases hi : i < (s.space + 1).toNat
    · rw [wrow, at0_map hi]
      have hd : s.days.length - 1 - j < s.days.length := by omega
      have hdk := ok.days _ hd
      have := worstTo_bd ok hd (i : Int) (wrow s j) (100000000 * (j : Int)) (by omega) (by omega) (fun i => (ih i).1) ((Sea.dayAt s.days (s.days.length - 1 - j)).nhi - (Sea.dayAt s.days (s.days.length - 1 - j)).nlo + 1).toNat
      unfold worstOf
      exact ⟨by have := this.1 (by omega); omega, this.2.1⟩
    · rw [at0_out (by rw [wrow_length]; omega)]; unfold Sea.never; omega

theorem wrow_next {s : Sea.S} (ok : Sea.Ok s) {j d f : Nat} (hd : d + 1 + j = s.days.length) (hf : (f : Int) ≤ s.space) : Sea.at0 (wrow s (j + 1)) f = (worstOf s d f (wrow s j)).2 := by
  have hsp := ok.space
  rw [wrow, at0_map (by omega), show s.days.length - 1 - j = d by omega]

/-- Once SeasonNever, always so. -/
theorem worst_stop {s : Sea.S} (ok : Sea.Ok s) {d : Nat} (hd : d < s.days.length) (f : Int) (next : List Int) (hn : ∀ i, Sea.at0 next i ≤ Sea.never) {k : Nat} (h : (worstTo s d f next k).2 = Sea.never) :
    ∀ n, worstTo s d f next (k + n) = worstTo s d f next k
  | 0 => rfl
  | n + 1 => by
    have h1 := worst_stop ok hd f next hn h n
    have h2 := (first_all s d f ((Sea.dayAt s.days d).nlo + (k + n : Nat)) next hn)
    have h3 : (s.least d f ((Sea.dayAt s.days d).nlo + (k + n : Nat)) next).1 ≤ Sea.never := by
      rw [h2.1]
      rcases h2.2 with ⟨-, h⟩ | ⟨u, -, -, h⟩
      · simp only [h]; exact Int.le_refl _
      · simp only []; omega
    rw [show k + (n + 1) = (k + n) + 1 by omega, worstTo, h1, h, if_neg (by omega)]
end Go.Proofs.Ytacajmpggjgaiaa
