/- Walks: a number bent to a span around nought (the laws). -/
import Derived.Test.YtddmfkhmhdddeaaSlm
set_option linter.unusedVariables false
set_option linter.unusedSimpArgs false
namespace Go.Proofs.Ytddmfkhmhdddeaa
open Go.RowKit Go.Sd Lk

def bentI (x m : Int) : Int := max (-m) (min m x)
set_option maxHeartbeats 2000000 in
theorem lawBent (x m : Int) (w : World) (hm : -1000000000000000 ≤ m ∧ m ≤ 1000000000000000) :
    Calls Try.prog 69 #[.int .i64 x, .int .i64 m] w fun e w' => e = .returned (.int .i64 (bentI x m)) ∧ w = w' := by
  go_enter Try.func69, Try.ntmps69
  go_wp2
  all_goals
    go_ret
    exact ⟨int_ret (by simp only [bentI, results, Try.results69, go_sem] <;> omega), rfl⟩
end Go.Proofs.Ytddmfkhmhdddeaa
