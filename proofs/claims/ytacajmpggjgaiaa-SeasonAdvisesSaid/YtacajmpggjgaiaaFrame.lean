/- What the frame of each statement of this seat leans on. -/
import Derived.Test.YtacajmpggjgaiaaOpn
import Derived.Test.YtacajmpggjgaiaaRows
import Derived.WalkKit
import Derived.ShutString
import Derived.Below
set_option linter.unusedVariables false
set_option linter.unusedSimpArgs false
namespace Go.Proofs.Ytacajmpggjgaiaa
open Go.ChangeShapes Go.WideShapes Go.ChangeAt Go.RowKit

theorem frOwn : ownKnob Try.prog.godebug = none := by kernel_rfl
theorem frLaid : laidOutB Try.prog = true := by kernel_rfl
end Go.Proofs.Ytacajmpggjgaiaa
