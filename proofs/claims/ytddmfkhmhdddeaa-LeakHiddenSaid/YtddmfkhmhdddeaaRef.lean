/- Walks: the reference's small helpers: what leaks on a day, what two spans have in common, division downwards and upwards. -/
import Derived.Test.YtddmfkhmhdddeaaRSm
set_option linter.unusedVariables false
set_option linter.unusedSimpArgs false
namespace Go.Proofs.Ytddmfkhmhdddeaa
open Go.RowKit Go.Sd Lk

def dnI (n d : Int) : Int := if n < 0 then -((-n + d - 1).tdiv d) else n.tdiv d
def upI (n d : Int) : Int := -dnI (-n) d

set_option maxHeartbeats 2000000 in
theorem refDown (n d : Int) (w : World) (hn : -1000000000000 ≤ n ∧ n ≤ 1000000000000) (hd : 1 ≤ d ∧ d ≤ 1000000000000) :
    Calls Try.prog 75 #[.int .i64 n, .int .i64 d] w fun e w' => e = .returned (.int .i64 (dnI n d)) ∧ w = w' := by
  by_cases h : n < 0
  · have hf : Hid (dnI n d = -((-n + d - 1).tdiv d)) := Lib.hid (by rw [dnI, if_pos h])
    have hq : 0 ≤ (-n + d - 1).tdiv d := Int.tdiv_nonneg (by omega) (by omega)
    have hq2 : (-n + d - 1).tdiv d ≤ -n + d - 1 := Int.tdiv_le_self _ (by omega)
    go_enter Try.func75, Try.ntmps75
    go_wp2
    go_ret
    exact ⟨by rw [hf.out]; rfl, rfl⟩
  · have hf : Hid (dnI n d = n.tdiv d) := Lib.hid (by rw [dnI, if_neg h])
    have hq : 0 ≤ n.tdiv d := Int.tdiv_nonneg (by omega) (by omega)
    have hq2 : n.tdiv d ≤ n := Int.tdiv_le_self _ (by omega)
    go_enter Try.func75, Try.ntmps75
    go_wp2
    go_ret
    exact ⟨by rw [hf.out]; rfl, rfl⟩

set_option maxHeartbeats 2000000 in
theorem refUp (n d : Int) (w : World) (hn : -1000000000000 ≤ n ∧ n ≤ 1000000000000) (hd : 1 ≤ d ∧ d ≤ 1000000000000) (hb : -2000000000000 ≤ dnI (-n) d ∧ dnI (-n) d ≤ 2000000000000) :
    Calls Try.prog 74 #[.int .i64 n, .int .i64 d] w fun e w' => e = .returned (.int .i64 (upI n d)) ∧ w = w' := by
  have kD := Lib.hid (refDown (-n) d w (by omega) hd)
  have hf : Hid (upI n d = -dnI (-n) d) := rfl
  go_enter Try.func74, Try.ntmps74
  go_wp2_with (go_at_call 75; (with_reducible refine Calls.mono kD.out ?_); rintro e y ⟨rfl, rfl⟩)
  go_ret
  exact ⟨by rw [hf.out]; rfl, rfl⟩

set_option maxHeartbeats 2000000 in
theorem refMeet (a b : Sp) (w : World) :
    Calls Try.prog 65 #[spV a, spV b] w fun e w' => e = .returned (spV (meet a b)) ∧ Below w.heap.size w w' := by
  go_enter Try.func65, Try.ntmps65
  go_wp2
  all_goals
    refine bodyPost_ret (v := spV (meet a b)) (by simp [results, Try.results65, go_sem, meet] <;> omega) rfl ⟨rfl, ?_⟩
    exact (((Below.refl _ _).alloc (Nat.le_refl _) _).alloc (by simp) _).alloc (by simp only [World.size_alloc]; omega) _

set_option maxHeartbeats 2000000 in
theorem refLost (g : Gs) (z d : Int) (w : World) :
    Calls Try.prog 68 #[gsV g, .int .i64 z, .int .i64 d] w fun e w' => e = .returned (.int .i64 (lost g z d)) ∧ Below w.heap.size w w' := by
  by_cases h1 : g.zone = z
  · by_cases h2 : g.since ≤ d
    · have hf : Hid (lost g z d = g.size) := Lib.hid (by rw [lost, if_pos ⟨h1, h2⟩])
      go_enter Try.func68, Try.ntmps68
      go_wp2
      go_ret
      exact ⟨by rw [hf.out]; rfl, (Below.refl _ _).alloc (Nat.le_refl _) _⟩
    · have hf : Hid (lost g z d = 0) := Lib.hid (by rw [lost, if_neg (fun x => h2 x.2)])
      go_enter Try.func68, Try.ntmps68
      go_wp2
      go_ret
      exact ⟨by rw [hf.out]; rfl, (Below.refl _ _).alloc (Nat.le_refl _) _⟩
  · have hf : Hid (lost g z d = 0) := Lib.hid (by rw [lost, if_neg (fun x => h1 x.1)])
    go_enter Try.func68, Try.ntmps68
    go_wp2
    go_ret
    exact ⟨by rw [hf.out]; rfl, (Below.refl _ _).alloc (Nat.le_refl _) _⟩
end Go.Proofs.Ytddmfkhmhdddeaa
