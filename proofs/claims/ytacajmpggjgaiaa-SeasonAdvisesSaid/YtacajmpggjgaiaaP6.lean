/- Walks: the cost of an order with a value. -/
import Derived.Test.YtacajmpggjgaiaaP5
set_option linter.unusedVariables false
set_option linter.unusedSimpArgs false
namespace Go.Proofs.Ytacajmpggjgaiaa
open Go.RowKit Go.Sd

/-- The cost of an order with the value of the new fill. -/
def withOf (s : Sea.S) (k : Nat) (fill nom : Int) (next : List Int) (u : Int) : Int :=
  if Sea.at0 next (fill + nom + u).toNat = Sea.never then Sea.never else s.cost k u + Sea.at0 next (fill + nom + u).toNat

set_option maxRecDepth 10000 in
set_option maxHeartbeats 2000000 in
theorem progWith (lv mv : Value) (s : Sea.S) (k : Nat) (fill nom u : Int) (w : World) (vv : Value) (next : List Int) (hl : LookAt w lv mv s) (hk : k < s.days.length) (ok : Sea.Ok s)
    (b1 : 0 ≤ fill ∧ fill ≤ 100) (b2 : -100 ≤ nom ∧ nom ≤ 100) (b3 : -100 ≤ u ∧ u ≤ 100) (hv : IntsAt w vv next) (hi : 0 ≤ fill + nom + u) (hi2 : fill + nom + u < next.length)
    (hbd : -Sea.never ≤ Sea.at0 next (fill + nom + u).toNat ∧ Sea.at0 next (fill + nom + u).toNat ≤ Sea.never) :
    Calls Try.prog 57 #[ordV lv k fill nom u, vv] w fun e w' => e = .returned (.int .i64 (withOf s k fill nom next u)) ∧ Below w.heap.size w w' := by
  obtain ⟨j, hj⟩ := Int.eq_ofNat_of_zero_le hi
  have hw : withOf s k fill nom next u = if Sea.at0 next j = Sea.never then Sea.never else s.cost k u + Sea.at0 next j := by unfold withOf; rw [hj]; rfl
  rw [hw]
  clear hw
  have hbd' : -Sea.never ≤ Sea.at0 next j ∧ Sea.at0 next j ≤ Sea.never := by have := hbd; rw [hj] at this; exact this
  clear hbd
  unfold Sea.never at *
  have hcost := cost_bd ok hk b3
  obtain ⟨va, vcap, rfl, hvm, hvk⟩ := hv
  have hjl : j < next.length := by omega
  obtain ⟨vb, voff, rfl, hvlt, hvc⟩ := hvk (by omega)
  have cv := hvc j hjl
  clear hvc hvk
  unfold maxLen at hvm
  have hbeh := fun w1 => progBehind lv k fill nom u w1 b1 b2 b3
  rw [hj] at hbeh
  have hb2 : (j : Int) < (next.length : Int) := by omega
  clear hi hi2 hj
  go_enter Try.func57, Try.ntmps57
  by_cases he : Sea.at0 next j = 1000000000000000
  · rw [he] at cv
    rw [if_pos he]
    clear he hbd' hcost
    go_wp2_with (go_at_call 58; refine (hbeh _).mono ?_; rintro e w1 ⟨rfl, hB1⟩; have cv1 := kept_cell (((Below.refl _ _).alloc (Nat.le_refl _) _).trans (hB1.mono (by simp))) cv)
    go_ret
    exact ⟨rfl, ((Below.refl _ _).alloc (Nat.le_refl _) _).trans (hB1.mono (by simp))⟩
  · rw [if_neg he]
    have hne : (Sea.at0 next j == 1000000000000000) = false := by simpa using he
    replace he := Lib.hid he
    go_wp2_with (first | (go_at_call 58; refine (hbeh _).mono ?_; rintro e w1 ⟨rfl, hB1⟩; have cv1 := kept_cell (((Below.refl _ _).alloc (Nat.le_refl _) _).trans (hB1.mono (by simp))) cv; obtain ⟨-, -, q0, q1, q2, q3, q4⟩ := box_order (w := w) (lv := lv) (day := k) (fill := fill) (nom := nom) (u := u) rfl; have r0 := kept_cell hB1 q0; have r1 := kept_cell hB1 q1; have r2 := kept_cell hB1 q2; have r3 := kept_cell hB1 q3; have r4 := kept_cell hB1 q4; clear q0 q1 q2 q3 q4; have hB2 : Below w.heap.size w w1 := ((Below.refl _ _).alloc (Nat.le_refl _) _).trans (hB1.mono (by simp)); have hl1 := hl.mono hB2) | (go_at_call 77; refine (progCost lv mv s k fill nom u _ hl1 hk ok b3).mono ?_; rintro e w2 ⟨rfl, hB3⟩))
    go_ret
    exact ⟨rfl, hB2.trans (hB3.mono hB2.size)⟩
end Go.Proofs.Ytacajmpggjgaiaa
