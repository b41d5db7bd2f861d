/- Walks: whether a book is short (the laws). -/
import Derived.Test.YtddmfkhmhdddeaaRfw
set_option linter.unusedVariables false
set_option linter.unusedSimpArgs false
namespace Lk
def Bk.shortB (b : Bk) : Bool := b.flows.all (fun l => decide (l.length ≤ 10)) && (decide (b.first.length ≤ 10) && (decide (b.flows.length ≤ 35) && decide (b.reads.length ≤ 45)))
theorem all_to {α : Type} {l : List α} {p : α → Bool} (h : ∀ j (hj : j < l.length), p l[j] = true) : l.all p = true := by
  rw [List.all_eq_true]; intro x hx
  obtain ⟨j, hj, rfl⟩ := List.getElem_of_mem hx
  exact h j hj
theorem all_no {α : Type} {l : List α} {p : α → Bool} {j : Nat} (hj : j < l.length) (h : p l[j] = false) : l.all p = false := by
  cases hl : l.all p
  · rfl
  · rw [List.all_eq_true] at hl
    rw [hl _ (List.getElem_mem hj)] at h; cases h
end Lk
namespace Go.Proofs.Ytddmfkhmhdddeaa
open Go.RowKit Go.Sd Lk

set_option maxRecDepth 100000 in
set_option maxHeartbeats 4000000 in
theorem lawShort (fv wv rv : Value) (b : Bk) (w : World) (hb : BookAt w fv wv rv b) :
    Calls Try.prog 17 #[bkV fv wv rv] w fun e w' => e = .returned (.bool b.shortB) ∧ Below w.heap.size w w' := by
  obtain ⟨W, hW⟩ : ∃ W, w.alloc (bkA fv wv rv) = W := ⟨_, rfl⟩
  obtain ⟨e0, b0, s0⟩ := boxed hW
  obtain ⟨q0, q1, q2⟩ := rc3 e0
  have zW := (Array.getElem?_eq_some_iff.1 e0).1
  have hF := Lib.hid (hb.flows.mono b0)
  obtain ⟨fa, fc, rfl, hfm, -⟩ := hb.first.form
  obtain ⟨wa, wc, rfl, hwm, -⟩ := hb.flows.form
  obtain ⟨ra, rc, rfl, hrm, -⟩ := hb.reads.form
  clear hb e0
  have hBW := Lib.hid b0
  go_enter Try.func17, Try.ntmps17
  go_wp2
  go_loopw [3] (fun i wr => wr = W ∧ ∃ k : Nat, k ≤ b.flows.length ∧ i = .int .i64 k ∧ Hid (∀ j, j < k → (rwAt b.flows j).length ≤ 10)) (fun i _ => b.flows.length - (intOf i).toNat)
  case atStart => exact ⟨rfl, 0, Nat.zero_le _, rfl, fun j hj => absurd hj (Nat.not_lt_zero _)⟩
  case round =>
    obtain ⟨rfl, k, hk, rfl, hH⟩ := hrel
    by_cases hlt : k < b.flows.length
    · have hki : (k : Int) < (b.flows.length : Int) := by omega
      obtain ⟨b1, o1, k1, ev1, hv1, hl1, -, x1, hr1⟩ := sprow_cell hF.out (k := k) hlt
      obtain ⟨rfl, rfl⟩ : wa = some ⟨b1, o1, none⟩ ∧ wc = k1 := by simpa using hv1
      obtain ⟨r1, c1, rfl, hn1, -⟩ := hr1.form
      have e1 : rwAt b.flows k = b.flows[k] := by simp [rwAt, hlt]
      by_cases hs : (rwAt b.flows k).length ≤ 10
      · have hH2 : Hid (∀ j, j < k + 1 → (rwAt b.flows j).length ≤ 10) := Lib.hid (by
          intro j hj
          by_cases h : j = k
          · subst h; exact hs
          · exact hH.out j (by omega))
        clear hH e1 hr1 hv1
        generalize rwAt b.flows k = row at *
        go_wp2
        exact ⟨⟨trivial, k + 1, by omega, by go_num, hH2⟩, by simp [intOf]; omega⟩
      · have hr : Hid (b.shortB = false) := Lib.hid (by
          rw [Bk.shortB, all_no hlt (by rw [← e1]; simpa using hs)]; rfl)
        have hs' : 10 < (rwAt b.flows k).length := by omega
        clear hH e1 hr1 hv1 hs
        generalize rwAt b.flows k = row at *
        go_wp2
        go_ret
        exact ⟨by rw [hr.out]; rfl, hBW.out⟩
    · obtain rfl : k = b.flows.length := by omega
      have ha : b.flows.all (fun l => decide (l.length ≤ 10)) = true := all_to fun j hj => by
        have := hH.out j hj
        simpa [rwAt, hj] using this
      have hr : Hid (b.shortB = (decide (b.first.length ≤ 10) && (decide (b.flows.length ≤ 35) && decide (b.reads.length ≤ 45)))) := Lib.hid (by rw [Bk.shortB, ha]; rfl)
      clear ha hH
      rcases Int.lt_or_le 10 (b.first.length : Int) with h1 | h1 <;> rcases Int.lt_or_le 35 (b.flows.length : Int) with h2 | h2 <;> rcases Int.lt_or_le 45 (b.reads.length : Int) with h3 | h3
      all_goals
        go_wp2
        go_ret
        exact ⟨bool_ret (by rw [hr.out, Bool.eq_iff_iff]; simp only [Bool.and_eq_true, decide_eq_true_eq, reduceCtorEq, true_iff, false_iff]; omega), hBW.out⟩
end Go.Proofs.Ytddmfkhmhdddeaa
