/- Plain: division downwards and upwards (the reference) is that of whole numbers. -/
import Derived.Test.YtddmfkhmhdddeaaBnt
set_option linter.unusedVariables false
set_option linter.unusedSimpArgs false
namespace Go.Proofs.Ytddmfkhmhdddeaa
theorem dnI_eq {n d : Int} (hd : 0 < d) : dnI n d = n / d := by
  unfold dnI
  by_cases h : n < 0
  · rw [if_pos h, Int.tdiv_eq_ediv_of_nonneg (by omega)]
    obtain ⟨q, hq⟩ : ∃ q, (-n + d - 1) / d = q := ⟨_, rfl⟩
    rw [hq]
    have h1 := Int.mul_ediv_self_le (x := -n + d - 1) (k := d) (by omega)
    have h2 := Int.lt_mul_ediv_self_add (x := -n + d - 1) (k := d) hd
    rw [hq] at h1 h2
    refine ((Int.ediv_eq_iff_of_pos hd).2 ?_).symm
    have e : -q * d = -(d * q) := by rw [Int.neg_mul, Int.mul_comm]
    constructor
    · omega
    · have e2 : (-q + 1) * d = -(d * q) + d := by rw [Int.add_mul, Int.one_mul, e]
      omega
  · rw [if_neg h, Int.tdiv_eq_ediv_of_nonneg (by omega)]
end Go.Proofs.Ytddmfkhmhdddeaa
