/- Sets of small numbers as the bits of a number. -/
import Derived.Test.YtddmfkhmhdddeaaTel
import Derived.Laws.BitsAll
import Derived.WalkMore
set_option linter.unusedVariables false
set_option linter.unusedSimpArgs false
namespace Lk
/-- The bits of o that are none of m's. -/
def ndiff (o m : Nat) : Nat := o ^^^ (o &&& m)
theorem ndiff_test (o m k : Nat) : (ndiff o m).testBit k = (o.testBit k && !m.testBit k) := by
  unfold ndiff
  rw [Nat.testBit_xor, Nat.testBit_and]
  cases o.testBit k <;> cases m.testBit k <;> rfl
theorem or_bit (m i k : Nat) : (m ||| 2 ^ i).testBit k = (m.testBit k || decide (k = i)) := by
  rw [Nat.testBit_or, Nat.testBit_two_pow]
  congr 1
  exact decide_eq_decide.2 ⟨fun h => h.symm, fun h => h.symm⟩
theorem bit_lt {m k n : Nat} (h : m < 2 ^ n) (hk : m.testBit k = true) : k < n := by
  rcases Nat.lt_or_ge k n with h1 | h1
  · exact h1
  · rw [Nat.testBit_lt_two_pow (Nat.lt_of_lt_of_le h (Nat.pow_le_pow_right (by omega) h1))] at hk; cases hk
theorem or_lt {a b n : Nat} (ha : a < 2 ^ n) (hb : b < 2 ^ n) : a ||| b < 2 ^ n := Nat.or_lt_two_pow ha hb
theorem ndiff_lt {a b n : Nat} (ha : a < 2 ^ n) : ndiff a b < 2 ^ n := Nat.xor_lt_two_pow ha (Nat.lt_of_le_of_lt Nat.and_le_left ha)
theorem pow_lt' {i n : Nat} (h : i < n) : 2 ^ i < 2 ^ n := Nat.pow_lt_pow_right (by omega) h
theorem ne_zero_bit {m : Nat} (h : m ≠ 0) : ∃ k, m.testBit k = true := Nat.exists_testBit_of_ne_zero h
end Lk
namespace Go.Proofs.Ytddmfkhmhdddeaa
open Go.RowKit Go.Sd Lk

theorem ofInt_i64 (a : Nat) (ha : a < 18446744073709551616) : (BitVec.ofInt 64 (a : Int)).toNat = a := by
  rw [BitVec.ofInt_natCast, BitVec.toNat_ofNat]; exact Nat.mod_eq_of_lt (by omega)
theorem wrap_nat {a : Nat} (h : a < 9223372036854775808) : IntKind.i64.wrap (a : Int) = a := by rw [IntWalk.i64_in] <;> omega
theorem i64_or (a b : Nat) (ha : a < 2 ^ 62) (hb : b < 2 ^ 62) : bits .or .i64 (a : Int) (b : Int) = ((a ||| b : Nat) : Int) := by
  have hx : a ||| b < 2 ^ 62 := Nat.or_lt_two_pow ha hb
  show IntKind.i64.wrap ((BitVec.ofInt 64 (a : Int) ||| BitVec.ofInt 64 (b : Int)).toNat : Int) = _
  rw [BitVec.toNat_or, ofInt_i64 a (by omega), ofInt_i64 b (by omega)]
  exact wrap_nat (by omega)
theorem i64_and (a b : Nat) (ha : a < 2 ^ 62) (hb : b < 2 ^ 62) : bits .and .i64 (a : Int) (b : Int) = ((a &&& b : Nat) : Int) := by
  have hx : a &&& b < 2 ^ 62 := Nat.and_lt_two_pow _ hb
  show IntKind.i64.wrap ((BitVec.ofInt 64 (a : Int) &&& BitVec.ofInt 64 (b : Int)).toNat : Int) = _
  rw [BitVec.toNat_and, ofInt_i64 a (by omega), ofInt_i64 b (by omega)]
  exact wrap_nat (by omega)
theorem i64_andNot (a b : Nat) (ha : a < 2 ^ 62) (hb : b < 2 ^ 62) : bits .andNot .i64 (a : Int) (b : Int) = ((ndiff a b : Nat) : Int) := by
  have hx : ndiff a b < 2 ^ 62 := ndiff_lt ha
  show IntKind.i64.wrap ((BitVec.ofInt 64 (a : Int) &&& ~~~BitVec.ofInt 64 (b : Int)).toNat : Int) = _
  have e : (BitVec.ofInt 64 (a : Int) &&& ~~~BitVec.ofInt 64 (b : Int)).toNat = ndiff a b := by
    rw [BitVec.toNat_and, BitVec.toNat_not, ofInt_i64 a (by omega), ofInt_i64 b (by omega)]
    apply Nat.eq_of_testBit_eq
    intro k
    rw [Nat.testBit_and, ndiff_test, show 2 ^ 64 - 1 - b = 2 ^ 64 - (b + 1) by omega, Nat.testBit_two_pow_sub_succ (by omega)]
    by_cases hk : k < 64
    · simp [hk]
    · have : a.testBit k = false := Nat.testBit_lt_two_pow (Nat.lt_of_lt_of_le (show a < 2 ^ 64 by omega) (Nat.pow_le_pow_right (by omega) (by omega)))
      simp [this]
  rw [e]
  exact wrap_nat (by omega)
theorem i64_bit (a k : Nat) (ha : a < 2 ^ 62) : bits .and .i64 ((a : Int) / 2 ^ k) 1 = if a.testBit k then 1 else 0 := by
  have h1 : ((a : Int) / 2 ^ k) = ((a / 2 ^ k : Nat) : Int) := by simp
  have h2 : a / 2 ^ k < 2 ^ 62 := Nat.lt_of_le_of_lt (Nat.div_le_self _ _) ha
  rw [h1, show (1 : Int) = ((1 : Nat) : Int) from rfl, i64_and _ _ h2 (by omega), Nat.and_one_is_mod, Nat.testBit_eq_decide_div_mod_eq]
  have : a / 2 ^ k % 2 = 0 ∨ a / 2 ^ k % 2 = 1 := by omega
  rcases this with h | h <;> simp [h]
theorem wrap64_pow (k : Nat) (h : k < 62) : wrap64 ((2 : Int) ^ k) = ((2 ^ k : Nat) : Int) := by
  have h1 : (2 : Nat) ^ k < 2 ^ 62 := Nat.pow_lt_pow_right (by omega) h
  have h2 : ((2 ^ k : Nat) : Int) = (2 : Int) ^ k := by push_cast; rfl
  rw [← h2]
  generalize (2 : Nat) ^ k = m at *
  simp only [wrap64]
  omega
theorem i64_orp (a k : Nat) (ha : a < 2 ^ 62) (h : k < 62) : bits .or .i64 (a : Int) (wrap64 ((2 : Int) ^ k)) = ((a ||| 2 ^ k : Nat) : Int) := by
  rw [wrap64_pow k h]
  exact i64_or a (2 ^ k) ha (Nat.pow_lt_pow_right (by omega) h)
end Go.Proofs.Ytddmfkhmhdddeaa
