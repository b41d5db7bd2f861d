/- Gas: walks: the least and the greatest content of a state. -/
import Derived.Test.YtdilgjhdimlbkaaA4
set_option linter.unusedVariables false
set_option linter.unusedSimpArgs false
namespace Go.Proofs.Ytdilgjhdimlbkaa
open Go.RowKit Go.Sd Gas

set_option maxRecDepth 100000 in
set_option maxHeartbeats 1000000 in
theorem progLowest (s : St) (w : World) : Calls Try.prog 31 #[stV s] w fun e w' => e = .returned (ptV s.low) ∧ Below w.heap.size w w' := by
  obtain ⟨W1, hW1⟩ : ∃ W1, w.alloc (.cells #[.int .i64 s.glo, .int .i64 s.ghi, .int .i64 s.ylo, .int .i64 s.yhi, .int .i64 s.tlo, .int .i64 s.thi, .int .i64 s.wlo, .int .i64 s.whi] 48) = W1 := ⟨_, rfl⟩
  obtain ⟨eW0, bW0, sW0⟩ := boxed hW1
  obtain ⟨W, hW⟩ : ∃ W, W1.alloc (.cells #[.int .i64 0, .int .i64 0, .int .i64 0, .int .i64 0] 28) = W := ⟨_, rfl⟩
  obtain ⟨eW1, bW1, sW1⟩ := boxed hW
  replace eW0 := (bW1.block _ (Array.getElem?_eq_some_iff.1 eW0).1).trans eW0
  have hBw : Below w.heap.size w W := (by have := sW0; have := sW1; exact (bW0.trans (bW1.mono (by omega))))
  obtain ⟨zW0, rW0, tW0⟩ := row_cells eW0
  obtain ⟨qW0_0, qW0_1, qW0_2, qW0_3, qW0_4, qW0_5, qW0_6, qW0_7⟩ := rc8 eW0
  obtain ⟨fW0_0, fW0_1, fW0_2, fW0_3, fW0_4, fW0_5, fW0_6, fW0_7⟩ := rf8 eW0
  clear rW0 tW0 eW0
  obtain ⟨zW1, rW1, tW1⟩ := row_cells eW1
  obtain ⟨qW1_0, qW1_1, qW1_2, qW1_3⟩ := rc4 eW1
  obtain ⟨fW1_0, fW1_1, fW1_2, fW1_3⟩ := rf4 eW1
  clear rW1 tW1 eW1
  have xW0 : w.heap.size ≤ w.heap.size := by omega
  have xW1 : w.heap.size ≤ W1.heap.size := by omega
  clear bW0 sW0 bW1 sW1
  go_enter Try.func31, Try.ntmps31
  go_wp2
  refine bodyPost_ret (v := ptV s.low) (by simp [results, Try.results31, go_sem, St.low, *]) rfl ⟨rfl, ?_⟩
  repeat' (first | exact hBw | exact xW1 | refine Below.setCell ?_ ?_ _)
set_option maxRecDepth 100000 in
set_option maxHeartbeats 1000000 in
theorem progHighest (s : St) (w : World) : Calls Try.prog 32 #[stV s] w fun e w' => e = .returned (ptV s.high) ∧ Below w.heap.size w w' := by
  obtain ⟨W1, hW1⟩ : ∃ W1, w.alloc (.cells #[.int .i64 s.glo, .int .i64 s.ghi, .int .i64 s.ylo, .int .i64 s.yhi, .int .i64 s.tlo, .int .i64 s.thi, .int .i64 s.wlo, .int .i64 s.whi] 48) = W1 := ⟨_, rfl⟩
  obtain ⟨eW0, bW0, sW0⟩ := boxed hW1
  obtain ⟨W, hW⟩ : ∃ W, W1.alloc (.cells #[.int .i64 0, .int .i64 0, .int .i64 0, .int .i64 0] 28) = W := ⟨_, rfl⟩
  obtain ⟨eW1, bW1, sW1⟩ := boxed hW
  replace eW0 := (bW1.block _ (Array.getElem?_eq_some_iff.1 eW0).1).trans eW0
  have hBw : Below w.heap.size w W := (by have := sW0; have := sW1; exact (bW0.trans (bW1.mono (by omega))))
  obtain ⟨zW0, rW0, tW0⟩ := row_cells eW0
  obtain ⟨qW0_0, qW0_1, qW0_2, qW0_3, qW0_4, qW0_5, qW0_6, qW0_7⟩ := rc8 eW0
  obtain ⟨fW0_0, fW0_1, fW0_2, fW0_3, fW0_4, fW0_5, fW0_6, fW0_7⟩ := rf8 eW0
  clear rW0 tW0 eW0
  obtain ⟨zW1, rW1, tW1⟩ := row_cells eW1
  obtain ⟨qW1_0, qW1_1, qW1_2, qW1_3⟩ := rc4 eW1
  obtain ⟨fW1_0, fW1_1, fW1_2, fW1_3⟩ := rf4 eW1
  clear rW1 tW1 eW1
  have xW0 : w.heap.size ≤ w.heap.size := by omega
  have xW1 : w.heap.size ≤ W1.heap.size := by omega
  clear bW0 sW0 bW1 sW1
  go_enter Try.func32, Try.ntmps32
  go_wp2
  refine bodyPost_ret (v := ptV s.high) (by simp [results, Try.results32, go_sem, St.high, *]) rfl ⟨rfl, ?_⟩
  repeat' (first | exact hBw | exact xW1 | refine Below.setCell ?_ ?_ _)
end Go.Proofs.Ytdilgjhdimlbkaa
