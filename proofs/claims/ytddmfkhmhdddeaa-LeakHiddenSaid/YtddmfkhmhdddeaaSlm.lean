/- Walks: whether lists are slim (the laws). -/
import Derived.Test.YtddmfkhmhdddeaaBok
set_option linter.unusedVariables false
set_option linter.unusedSimpArgs false
namespace Lk
def slimB (xs : List Int) (ys : List (List Int)) : Bool := ys.all (fun l => decide (l.length ≤ 10)) && (decide (xs.length ≤ 10) && decide (ys.length ≤ 40))
end Lk
namespace Go.Proofs.Ytddmfkhmhdddeaa
open Go.RowKit Go.Sd Lk

set_option maxRecDepth 100000 in
set_option maxHeartbeats 4000000 in
theorem lawSlim (xv yv : Value) (xs : List Int) (ys : List (List Int)) (w : World) (hx : IntsAt w xv xs) (hy : ListsAt w yv ys) :
    Calls Try.prog 35 #[xv, yv] w fun e w' => e = .returned (.bool (slimB xs ys)) ∧ Below w.heap.size w w' := by
  obtain ⟨xa, xc, rfl, hxm, -⟩ := hx.form
  obtain ⟨ya, yc, rfl, hym, -⟩ := hy.form
  have hF := Lib.hid hy
  clear hx hy
  go_enter Try.func35, Try.ntmps35
  go_wp2
  go_loopw [5] (fun i wr => wr = w ∧ ∃ k : Nat, k ≤ ys.length ∧ i = .int .i64 k ∧ Hid (∀ j, j < k → (lstAt ys j).length ≤ 10)) (fun i _ => ys.length - (intOf i).toNat)
  case atStart => exact ⟨rfl, 0, Nat.zero_le _, rfl, fun j hj => absurd hj (Nat.not_lt_zero _)⟩
  case round =>
    obtain ⟨rfl, k, hk, rfl, hH⟩ := hrel
    by_cases hlt : k < ys.length
    · have hki : (k : Int) < (ys.length : Int) := by omega
      obtain ⟨b1, o1, k1, ev1, hv1, hl1, -, x1, hr1⟩ := list_cell hF.out (k := k) hlt
      obtain ⟨rfl, rfl⟩ : ya = some ⟨b1, o1, none⟩ ∧ yc = k1 := by simpa using hv1
      obtain ⟨r1, c1, rfl, hn1, -⟩ := hr1.form
      have e1 : lstAt ys k = ys[k] := by simp [lstAt, hlt]
      by_cases hs : (lstAt ys k).length ≤ 10
      · have hH2 : Hid (∀ j, j < k + 1 → (lstAt ys j).length ≤ 10) := Lib.hid (upto_succ hH.out hs)
        clear hH e1 hr1 hv1
        generalize lstAt ys k = row at *
        go_wp2
        exact ⟨⟨trivial, k + 1, by omega, by go_num, hH2⟩, by simp [intOf]; omega⟩
      · have hr : Hid (slimB xs ys = false) := Lib.hid (by
          rw [slimB, all_no hlt (by rw [← e1]; simpa using hs)]; rfl)
        have hs' : 10 < (lstAt ys k).length := by omega
        clear hH e1 hr1 hv1 hs
        generalize lstAt ys k = row at *
        go_wp2
        go_ret
        exact ⟨by rw [hr.out]; rfl, Below.refl _ _⟩
    · obtain rfl : k = ys.length := by omega
      have ha : ys.all (fun l => decide (l.length ≤ 10)) = true := all_to fun j hj => by
        have := hH.out j hj
        simpa [lstAt, hj] using this
      have hr : Hid (slimB xs ys = (decide (xs.length ≤ 10) && decide (ys.length ≤ 40))) := Lib.hid (by rw [slimB, ha]; rfl)
      clear ha hH
      rcases Int.lt_or_le 10 (xs.length : Int) with h1 | h1 <;> rcases Int.lt_or_le 40 (ys.length : Int) with h2 | h2
      all_goals
        go_wp2
        go_ret
        exact ⟨bool_ret (by rw [hr.out, Bool.eq_iff_iff]; simp only [Bool.and_eq_true, decide_eq_true_eq, reduceCtorEq, true_iff, false_iff]; omega), Below.refl _ _⟩
end Go.Proofs.Ytddmfkhmhdddeaa
