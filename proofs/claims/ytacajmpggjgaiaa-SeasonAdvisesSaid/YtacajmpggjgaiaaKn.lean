/- Plain: the season of the document's examples. -/
import Derived.Test.YtacajmpggjgaiaaOwnSp
set_option linter.unusedVariables false
set_option linter.unusedSimpArgs false
namespace Go.Proofs.Ytacajmpggjgaiaa
open Go.Sd

def exS : Sea.S := ⟨10, 4, 4, 6, [⟨0, 4, 2⟩, ⟨5, 2, 4⟩], [⟨10, 8, 3, 3, 0, 10, -1, 1⟩, ⟨20, 18, 3, 3, 2, 10, -2, 0⟩, ⟨30, 25, 1, 4, 0, 9, 0, 0⟩]⟩
abbrev exN : List Int := [0, -1, 0]
abbrev exRow : List Int := [1000000000000000, 1000000000000000, 1000000000000000, 30, 0, -25, -50, -75, -100, -100, -100]
abbrev exSafe : List (List Sea.Span) := [[⟨0, 10⟩], [⟨2, 10⟩], [⟨3, 10⟩], [⟨4, 6⟩]]

theorem ex_valid : Sea.validB exS = true := by decide +kernel
theorem ex_noms : exS.nomsB exN = true := by decide +kernel
theorem ex_best : bestOf exS exN = ([3, 2, -4], -30, 0) := by decide +kernel
theorem ex_row : Sea.lstAt (exS.proof exN) 2 = exRow := by decide +kernel
theorem ex_safe : safeRows exS = exSafe := by decide +kernel
theorem ex_worst : worstErr exS 0 4 = (-1, 15, 0) := by decide +kernel
theorem ex_advise : adviseErr exS 0 4 1 = (3, -30, 0) := by decide +kernel
end Go.Proofs.Ytacajmpggjgaiaa
