/- Gas: the chapter's example: values, and the walks of the law package's C, S and Lot. -/
import Derived.Test.YtdilgjhdimlbkaaA1
set_option linter.unusedVariables false
set_option linter.unusedSimpArgs false
namespace Gas
def exC : Cav := ⟨1000, 1100, 2000, 9000, 900, 1000, 36, 29, 3200, 0, 100⟩
def exS : St := ⟨2000, 2100, 100, 110, 3000, 3100, 50000, 60000⟩
def exL : Pt := ⟨90, 10, 2900, 0⟩
def exI : Op := ⟨1, 90, 10, 2900, 0, 0, 0, 0, 0, 0⟩
def exW : Op := ⟨2, 0, 0, 0, 0, 210, 0, 0, 0, 0⟩
def exR : Op := ⟨3, 0, 0, 0, 0, 0, 100, 200, 10, 20⟩
def exV : Op := ⟨2, 0, 0, 0, 0, 220, 0, 0, 0, 0⟩
def exP : Pt := ⟨2000, 100, 3000, 50000⟩
end Gas
namespace Go.Proofs.Ytdilgjhdimlbkaa
open Go.RowKit Go.Sd Gas

set_option maxRecDepth 100000 in
set_option maxHeartbeats 2000000 in
theorem lawC (w : World) : Calls Try.prog 12 #[] w fun e w' => e = .returned (cavV exC) ∧ Below w.heap.size w w' := by
  obtain ⟨W, hW⟩ : ∃ W, w.alloc (.cells #[.int .i64 0, .int .i64 0, .int .i64 0, .int .i64 0, .int .i64 0, .int .i64 0, .int .i64 0, .int .i64 0, .int .i64 0, .int .i64 0, .int .i64 0] 26) = W := ⟨_, rfl⟩
  obtain ⟨eW0, bW0, sW0⟩ := boxed hW
  have hBw : Below w.heap.size w W := bW0
  obtain ⟨zW0, rW0, tW0⟩ := row_cells eW0
  obtain ⟨qW0_0, qW0_1, qW0_2, qW0_3, qW0_4, qW0_5, qW0_6, qW0_7, qW0_8, qW0_9, qW0_10⟩ := rc11 eW0
  obtain ⟨fW0_0, fW0_1, fW0_2, fW0_3, fW0_4, fW0_5, fW0_6, fW0_7, fW0_8, fW0_9, fW0_10⟩ := rf11 eW0
  clear rW0 tW0 eW0
  have xW0 : w.heap.size ≤ w.heap.size := by omega
  clear bW0 sW0
  go_enter Try.func12, Try.ntmps12
  go_wp2
  refine bodyPost_ret (v := cavV exC) (by simp [results, Try.results12, go_sem, exC, *]) rfl ⟨rfl, ?_⟩
  repeat' (first | (with_reducible exact hBw) | (with_reducible exact Nat.le_refl _) | (with_reducible refine Below.setCell ?_ ?_ _))


set_option maxRecDepth 100000 in
set_option maxHeartbeats 2000000 in
theorem lawS (w : World) : Calls Try.prog 13 #[] w fun e w' => e = .returned (stV exS) ∧ Below w.heap.size w w' := by
  obtain ⟨W, hW⟩ : ∃ W, w.alloc (.cells #[.int .i64 0, .int .i64 0, .int .i64 0, .int .i64 0, .int .i64 0, .int .i64 0, .int .i64 0, .int .i64 0] 48) = W := ⟨_, rfl⟩
  obtain ⟨eW0, bW0, sW0⟩ := boxed hW
  have hBw : Below w.heap.size w W := bW0
  obtain ⟨zW0, rW0, tW0⟩ := row_cells eW0
  obtain ⟨qW0_0, qW0_1, qW0_2, qW0_3, qW0_4, qW0_5, qW0_6, qW0_7⟩ := rc8 eW0
  obtain ⟨fW0_0, fW0_1, fW0_2, fW0_3, fW0_4, fW0_5, fW0_6, fW0_7⟩ := rf8 eW0
  clear rW0 tW0 eW0
  have xW0 : w.heap.size ≤ w.heap.size := by omega
  clear bW0 sW0
  go_enter Try.func13, Try.ntmps13
  go_wp2
  refine bodyPost_ret (v := stV exS) (by simp [results, Try.results13, go_sem, exS, *]) rfl ⟨rfl, ?_⟩
  repeat' (first | (with_reducible exact hBw) | (with_reducible exact Nat.le_refl _) | (with_reducible refine Below.setCell ?_ ?_ _))


set_option maxRecDepth 100000 in
set_option maxHeartbeats 2000000 in
theorem lawLot (w : World) : Calls Try.prog 15 #[] w fun e w' => e = .returned (ptV exL) ∧ Below w.heap.size w w' := by
  obtain ⟨W, hW⟩ : ∃ W, w.alloc (.cells #[.int .i64 0, .int .i64 0, .int .i64 0, .int .i64 0] 28) = W := ⟨_, rfl⟩
  obtain ⟨eW0, bW0, sW0⟩ := boxed hW
  have hBw : Below w.heap.size w W := bW0
  obtain ⟨zW0, rW0, tW0⟩ := row_cells eW0
  obtain ⟨qW0_0, qW0_1, qW0_2, qW0_3⟩ := rc4 eW0
  obtain ⟨fW0_0, fW0_1, fW0_2, fW0_3⟩ := rf4 eW0
  clear rW0 tW0 eW0
  have xW0 : w.heap.size ≤ w.heap.size := by omega
  clear bW0 sW0
  go_enter Try.func15, Try.ntmps15
  go_wp2
  refine bodyPost_ret (v := ptV exL) (by simp [results, Try.results15, go_sem, exL, *]) rfl ⟨rfl, ?_⟩
  repeat' (first | (with_reducible exact hBw) | (with_reducible exact Nat.le_refl _) | (with_reducible refine Below.setCell ?_ ?_ _))

end Go.Proofs.Ytdilgjhdimlbkaa
