/- Plain: tables by days, filled from the end. -/
import Derived.Test.YtacajmpggjgaiaaSea
set_option linter.unusedVariables false
set_option linter.unusedSimpArgs false
namespace Sea

/-- A table of n + 1 rows, the rows from the end on given by v 0, v 1, ..: j rows are whole, m numbers of the next one are there. -/
def tbl (n : Nat) (v : Nat → List Int) (j m : Nat) : List (List Int) :=
  (List.range (n + 1)).map fun t => if n < t + j then v (n - t) else if t + j = n then (v j).take m else []

theorem tbl_length (n : Nat) (v : Nat → List Int) (j m : Nat) : (tbl n v j m).length = n + 1 := by simp [tbl]

theorem tbl_at (n : Nat) (v : Nat → List Int) (j m t : Nat) (h : t ≤ n) : lstAt (tbl n v j m) t = if n < t + j then v (n - t) else if t + j = n then (v j).take m else [] := by
  unfold lstAt tbl
  simp [show t < n + 1 by omega]

theorem lists_ext {a b : List (List Int)} (hl : a.length = b.length) (h : ∀ t, t < a.length → lstAt a t = lstAt b t) : a = b := by
  apply List.ext_getElem hl
  intro i h1 h2
  have := h i h1
  unfold lstAt at this
  simpa [h1, h2] using this

theorem tbl_start (n : Nat) (v : Nat → List Int) : tbl n v 0 0 = List.replicate (n + 1) [] := by
  apply lists_ext (by simp [tbl])
  intro t ht
  rw [tbl_length] at ht
  rw [tbl_at n v 0 0 t (by omega), if_neg (by omega)]
  have : lstAt (List.replicate (n + 1) ([] : List Int)) t = [] := by unfold lstAt; simp [ht]
  rw [this]; split <;> simp

theorem tbl_more (n : Nat) (v : Nat → List Int) (j m : Nat) (y : Int) (hj : j ≤ n) (hm : (v j)[m]? = some y) :
    (tbl n v j m).set (n - j) (lstAt (tbl n v j m) (n - j) ++ [y]) = tbl n v j (m + 1) := by
  apply lists_ext (by simp [tbl])
  intro t ht
  rw [List.length_set, tbl_length] at ht
  have hs : lstAt ((tbl n v j m).set (n - j) (lstAt (tbl n v j m) (n - j) ++ [y])) t = if t = n - j then lstAt (tbl n v j m) (n - j) ++ [y] else lstAt (tbl n v j m) t := by
    unfold lstAt
    by_cases h : t = n - j
    · subst h; simp [tbl_length, show n - j < n + 1 by omega]
    · simp [h, List.getElem?_set, Ne.symm h]
  rw [hs, tbl_at n v j (m + 1) t (by omega)]
  by_cases h : t = n - j
  · rw [if_pos h, tbl_at n v j m (n - j) (by omega), if_neg (by omega), if_pos (by omega), if_neg (by omega), if_pos (by omega), List.take_add_one, hm]
    rfl
  · rw [if_neg h, tbl_at n v j m t (by omega)]
    by_cases h1 : n < t + j
    · rw [if_pos h1, if_pos h1]
    · rw [if_neg h1, if_neg h1, if_neg (by omega), if_neg (by omega)]

theorem tbl_next (n : Nat) (v : Nat → List Int) (j m : Nat) (hj : j ≤ n) (hm : (v j).length ≤ m) : tbl n v j m = tbl n v (j + 1) 0 := by
  apply lists_ext (by simp [tbl])
  intro t ht
  rw [tbl_length] at ht
  rw [tbl_at n v j m t (by omega), tbl_at n v (j + 1) 0 t (by omega)]
  by_cases h1 : n < t + j
  · rw [if_pos h1, if_pos (by omega)]
  · rw [if_neg h1]
    by_cases h2 : t + j = n
    · rw [if_pos h2, if_pos (by omega), List.take_of_length_le hm, show n - t = j by omega]
    · rw [if_neg h2, if_neg (by omega)]; split <;> simp

/-- The whole table. -/
def whole (n : Nat) (v : Nat → List Int) : List (List Int) := (List.range (n + 1)).map fun t => v (n - t)
theorem tbl_whole (n : Nat) (v : Nat → List Int) : tbl n v (n + 1) 0 = whole n v := by
  unfold tbl whole
  apply List.map_congr_left
  intro t ht
  rw [if_pos (by omega)]

/-- The values of the proof on the day that lies j days ahead of the end. -/
def S.vals (s : S) (noms : List Int) : Nat → List Int
  | 0 => s.last
  | j + 1 => (List.range (s.space + 1).toNat).map fun (f : Nat) => (s.least (s.days.length - 1 - j) f (at0 noms (s.days.length - 1 - j)) (S.vals s noms j)).1
def S.proof (s : S) (noms : List Int) : List (List Int) := whole s.days.length (s.vals noms)

theorem S.vals_length (s : S) (noms : List Int) (j : Nat) : (s.vals noms j).length = (s.space + 1).toNat := by cases j <;> simp [S.vals, S.last]
end Sea
