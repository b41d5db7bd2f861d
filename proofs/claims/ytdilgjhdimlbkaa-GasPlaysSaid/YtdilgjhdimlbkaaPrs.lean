/- Gas: walks: the pressure, the rule of a state and of a content, and whether a cavern is as defined. -/
import Derived.Test.YtdilgjhdimlbkaaGcd
import Derived.Test.YtdilgjhdimlbkaaRul
import Derived.Test.YtdilgjhdimlbkaaDof
set_option linter.unusedVariables false
set_option linter.unusedSimpArgs false
namespace Go.Proofs.Ytdilgjhdimlbkaa
open Go.RowKit Go.Sd Gas

theorem mul_bd {c : Cav} (hc : c.Ok) {v : Int} (hv : 1 ≤ v ∧ v ≤ 1000000) : (0 ≤ c.least * v ∧ c.least * v ≤ 100000000000) ∧ (0 ≤ c.most * v ∧ c.most * v ≤ 100000000000) := by
  have := hc.p
  have a := bd_mul (A := 100000) (B := 1000000) (a := c.least) (b := v) ⟨by omega, by omega⟩ ⟨by omega, hv.2⟩
  have b := bd_mul (A := 100000) (B := 1000000) (a := c.most) (b := v) ⟨by omega, by omega⟩ ⟨by omega, hv.2⟩
  exact ⟨⟨a.1, by omega⟩, ⟨b.1, by omega⟩⟩
theorem force_nn {c : Cav} {p : Pt} (hc : c.Ok) (hg : 0 ≤ p.g ∧ p.g ≤ 1000000) (hy : 0 ≤ p.y ∧ p.y ≤ 1000000) (ht : 0 ≤ p.t ∧ p.t ≤ 5000) : 0 ≤ force c p ∧ force c p ≤ 400000000000000000 := by
  have := force_bd hc hg hy ht; unfold force; omega
theorem lowT {s : St} (hs : s.Ok) : (0 ≤ s.low.t ∧ s.low.t ≤ 5000) ∧ (0 ≤ s.high.t ∧ s.high.t ≤ 5000) := by have := hs.t; simp only [St.low, St.high]; omega

end Go.Proofs.Ytdilgjhdimlbkaa
