/- Gas: walks: which operations are as defined (the program). -/
import Derived.Test.YtdilgjhdimlbkaaA2
set_option linter.unusedVariables false
set_option linter.unusedSimpArgs false
namespace Go.Proofs.Ytdilgjhdimlbkaa
open Go.RowKit Go.Sd Gas

set_option maxHeartbeats 8000000 in
theorem progOp (o : Gas.Op) (w : World) : Calls Try.prog 34 #[opV o] w (BoolB o.ok w) := by
  obtain ⟨k, lg, ly, lt, lw, m, a, b, x, y⟩ := o
  by_cases h1 : k = 1
  · subst h1
    obtain ⟨W1, hW1⟩ : ∃ W1, w.alloc (.cells #[.int .i64 1, .int .i64 lg, .int .i64 ly, .int .i64 lt, .int .i64 lw, .int .i64 m, .int .i64 a, .int .i64 b, .int .i64 x, .int .i64 y] 57) = W1 := ⟨_, rfl⟩
    obtain ⟨eW0, bW0, sW0⟩ := boxed hW1
    have yW0_0 : w.heap.size < W1.heap.size := by omega
    obtain ⟨mW0_0_0, mW0_0_1, mW0_0_2, mW0_0_3, mW0_0_4, mW0_0_5, mW0_0_6, mW0_0_7, mW0_0_8, mW0_0_9⟩ := rc10 eW0
    obtain ⟨W, hW⟩ : ∃ W, W1.alloc (.cells #[.int .i64 1, .int .i64 0, .int .i64 0, .int .i64 0, .int .i64 0, .int .i64 m, .int .i64 a, .int .i64 b, .int .i64 x, .int .i64 y] 57) = W := ⟨_, rfl⟩
    obtain ⟨eW1, bW1, sW1⟩ := boxed hW
    replace eW0 := (bW1.block _ (Array.getElem?_eq_some_iff.1 eW0).1).trans eW0
    have hBw : Below w.heap.size w W := (by have := sW0; have := sW1; exact (bW0.trans (bW1.mono (by omega))))
    obtain ⟨zW0, rW0, tW0⟩ := row_cells eW0
    obtain ⟨qW0_0, qW0_1, qW0_2, qW0_3, qW0_4, qW0_5, qW0_6, qW0_7, qW0_8, qW0_9⟩ := rc10 eW0
    obtain ⟨fW0_0, fW0_1, fW0_2, fW0_3, fW0_4, fW0_5, fW0_6, fW0_7, fW0_8, fW0_9⟩ := rf10 eW0
    clear rW0 tW0 eW0
    obtain ⟨zW1, rW1, tW1⟩ := row_cells eW1
    obtain ⟨qW1_0, qW1_1, qW1_2, qW1_3, qW1_4, qW1_5, qW1_6, qW1_7, qW1_8, qW1_9⟩ := rc10 eW1
    obtain ⟨fW1_0, fW1_1, fW1_2, fW1_3, fW1_4, fW1_5, fW1_6, fW1_7, fW1_8, fW1_9⟩ := rf10 eW1
    clear rW1 tW1 eW1
    have xW0 : w.heap.size ≤ w.heap.size := by omega
    have xW1 : w.heap.size ≤ W1.heap.size := by omega
    clear bW0 sW0 bW1 sW1
    have hg := grow_cell W
    go_enter Try.func34, Try.ntmps34
    go_wp2_with (first | (go_at_call 36; refine Calls.mono (progIn _ _ _ _) ?_; rintro e w1 ⟨(_ | _), rfl, ht, rfl⟩) | (go_at_call 37; refine Calls.mono (progSpan _ _ _ _ _) ?_; rintro e w1 ⟨(_ | _), rfl, ht, hB⟩ <;> ((first | (obtain ⟨g, rfl⟩ := g.next hB) | (obtain ⟨g, rfl⟩ : ∃ g : Grow W, w1 = g.x := ⟨⟨w1, hB⟩, rfl⟩)); clear hB)) | (go_at_call 18; refine Calls.mono (progPoint ⟨_, _, _, _⟩ _) ?_; rintro e w1 ⟨(_ | _), rfl, ht, hB⟩ <;> ((first | (obtain ⟨g, rfl⟩ := g.next hB) | (obtain ⟨g, rfl⟩ : ∃ g : Grow W, w1 = g.x := ⟨⟨w1, hB⟩, rfl⟩)); clear hB)))
    all_goals
      go_ret
      refine BoolB.mk ?_ (by first | exact hBw | exact hBw.trans (g.h.mono hBw.size))
      clear mW0_0_0 mW0_0_1 mW0_0_2 mW0_0_3 mW0_0_4 mW0_0_5 mW0_0_6 mW0_0_7 mW0_0_8 mW0_0_9 qW0_0 qW0_1 qW0_2 qW0_3 qW0_4 qW0_5 qW0_6 qW0_7 qW0_8 qW0_9 fW0_0 fW0_1 fW0_2 fW0_3 fW0_4 fW0_5 fW0_6 fW0_7 fW0_8 fW0_9 qW1_0 qW1_1 qW1_2 qW1_3 qW1_4 qW1_5 qW1_6 qW1_7 qW1_8 qW1_9 fW1_0 fW1_1 fW1_2 fW1_3 fW1_4 fW1_5 fW1_6 fW1_7 fW1_8 fW1_9 hW1 hW hg
      (try unfold Hid at *); simp [Gas.Op.ok, Gas.Op.lot, *]
  by_cases h2 : k = 2
  · subst h2
    clear h1
    obtain ⟨W1, hW1⟩ : ∃ W1, w.alloc (.cells #[.int .i64 2, .int .i64 lg, .int .i64 ly, .int .i64 lt, .int .i64 lw, .int .i64 m, .int .i64 a, .int .i64 b, .int .i64 x, .int .i64 y] 57) = W1 := ⟨_, rfl⟩
    obtain ⟨eW0, bW0, sW0⟩ := boxed hW1
    have yW0_0 : w.heap.size < W1.heap.size := by omega
    obtain ⟨mW0_0_0, mW0_0_1, mW0_0_2, mW0_0_3, mW0_0_4, mW0_0_5, mW0_0_6, mW0_0_7, mW0_0_8, mW0_0_9⟩ := rc10 eW0
    obtain ⟨W, hW⟩ : ∃ W, W1.alloc (.cells #[.int .i64 2, .int .i64 lg, .int .i64 ly, .int .i64 lt, .int .i64 lw, .int .i64 0, .int .i64 a, .int .i64 b, .int .i64 x, .int .i64 y] 57) = W := ⟨_, rfl⟩
    obtain ⟨eW1, bW1, sW1⟩ := boxed hW
    replace eW0 := (bW1.block _ (Array.getElem?_eq_some_iff.1 eW0).1).trans eW0
    have hBw : Below w.heap.size w W := (by have := sW0; have := sW1; exact (bW0.trans (bW1.mono (by omega))))
    obtain ⟨zW0, rW0, tW0⟩ := row_cells eW0
    obtain ⟨qW0_0, qW0_1, qW0_2, qW0_3, qW0_4, qW0_5, qW0_6, qW0_7, qW0_8, qW0_9⟩ := rc10 eW0
    obtain ⟨fW0_0, fW0_1, fW0_2, fW0_3, fW0_4, fW0_5, fW0_6, fW0_7, fW0_8, fW0_9⟩ := rf10 eW0
    clear rW0 tW0 eW0
    obtain ⟨zW1, rW1, tW1⟩ := row_cells eW1
    obtain ⟨qW1_0, qW1_1, qW1_2, qW1_3, qW1_4, qW1_5, qW1_6, qW1_7, qW1_8, qW1_9⟩ := rc10 eW1
    obtain ⟨fW1_0, fW1_1, fW1_2, fW1_3, fW1_4, fW1_5, fW1_6, fW1_7, fW1_8, fW1_9⟩ := rf10 eW1
    clear rW1 tW1 eW1
    have xW0 : w.heap.size ≤ w.heap.size := by omega
    have xW1 : w.heap.size ≤ W1.heap.size := by omega
    clear bW0 sW0 bW1 sW1
    have hg := grow_cell W
    go_enter Try.func34, Try.ntmps34
    go_wp2_with (first | (go_at_call 36; refine Calls.mono (progIn _ _ _ _) ?_; rintro e w1 ⟨(_ | _), rfl, ht, rfl⟩) | (go_at_call 37; refine Calls.mono (progSpan _ _ _ _ _) ?_; rintro e w1 ⟨(_ | _), rfl, ht, hB⟩ <;> ((first | (obtain ⟨g, rfl⟩ := g.next hB) | (obtain ⟨g, rfl⟩ : ∃ g : Grow W, w1 = g.x := ⟨⟨w1, hB⟩, rfl⟩)); clear hB)) | (go_at_call 18; refine Calls.mono (progPoint ⟨_, _, _, _⟩ _) ?_; rintro e w1 ⟨(_ | _), rfl, ht, hB⟩ <;> ((first | (obtain ⟨g, rfl⟩ := g.next hB) | (obtain ⟨g, rfl⟩ : ∃ g : Grow W, w1 = g.x := ⟨⟨w1, hB⟩, rfl⟩)); clear hB)))
    all_goals
      go_ret
      refine BoolB.mk ?_ (by first | exact hBw | exact hBw.trans (g.h.mono hBw.size))
      clear mW0_0_0 mW0_0_1 mW0_0_2 mW0_0_3 mW0_0_4 mW0_0_5 mW0_0_6 mW0_0_7 mW0_0_8 mW0_0_9 qW0_0 qW0_1 qW0_2 qW0_3 qW0_4 qW0_5 qW0_6 qW0_7 qW0_8 qW0_9 fW0_0 fW0_1 fW0_2 fW0_3 fW0_4 fW0_5 fW0_6 fW0_7 fW0_8 fW0_9 qW1_0 qW1_1 qW1_2 qW1_3 qW1_4 qW1_5 qW1_6 qW1_7 qW1_8 qW1_9 fW1_0 fW1_1 fW1_2 fW1_3 fW1_4 fW1_5 fW1_6 fW1_7 fW1_8 fW1_9 hW1 hW hg
      (try unfold Hid at *); simp [Gas.Op.ok, Gas.Op.lot, *]
  by_cases h3 : k = 3
  · subst h3
    clear h1 h2
    obtain ⟨W1, hW1⟩ : ∃ W1, w.alloc (.cells #[.int .i64 3, .int .i64 lg, .int .i64 ly, .int .i64 lt, .int .i64 lw, .int .i64 m, .int .i64 a, .int .i64 b, .int .i64 x, .int .i64 y] 57) = W1 := ⟨_, rfl⟩
    obtain ⟨eW0, bW0, sW0⟩ := boxed hW1
    have yW0_0 : w.heap.size < W1.heap.size := by omega
    obtain ⟨mW0_0_0, mW0_0_1, mW0_0_2, mW0_0_3, mW0_0_4, mW0_0_5, mW0_0_6, mW0_0_7, mW0_0_8, mW0_0_9⟩ := rc10 eW0
    obtain ⟨W, hW⟩ : ∃ W, W1.alloc (.cells #[.int .i64 3, .int .i64 lg, .int .i64 ly, .int .i64 lt, .int .i64 lw, .int .i64 m, .int .i64 0, .int .i64 0, .int .i64 0, .int .i64 0] 57) = W := ⟨_, rfl⟩
    obtain ⟨eW1, bW1, sW1⟩ := boxed hW
    replace eW0 := (bW1.block _ (Array.getElem?_eq_some_iff.1 eW0).1).trans eW0
    have hBw : Below w.heap.size w W := (by have := sW0; have := sW1; exact (bW0.trans (bW1.mono (by omega))))
    obtain ⟨zW0, rW0, tW0⟩ := row_cells eW0
    obtain ⟨qW0_0, qW0_1, qW0_2, qW0_3, qW0_4, qW0_5, qW0_6, qW0_7, qW0_8, qW0_9⟩ := rc10 eW0
    obtain ⟨fW0_0, fW0_1, fW0_2, fW0_3, fW0_4, fW0_5, fW0_6, fW0_7, fW0_8, fW0_9⟩ := rf10 eW0
    clear rW0 tW0 eW0
    obtain ⟨zW1, rW1, tW1⟩ := row_cells eW1
    obtain ⟨qW1_0, qW1_1, qW1_2, qW1_3, qW1_4, qW1_5, qW1_6, qW1_7, qW1_8, qW1_9⟩ := rc10 eW1
    obtain ⟨fW1_0, fW1_1, fW1_2, fW1_3, fW1_4, fW1_5, fW1_6, fW1_7, fW1_8, fW1_9⟩ := rf10 eW1
    clear rW1 tW1 eW1
    have xW0 : w.heap.size ≤ w.heap.size := by omega
    have xW1 : w.heap.size ≤ W1.heap.size := by omega
    clear bW0 sW0 bW1 sW1
    have hg := grow_cell W
    replace hW := Lib.hid hW
    go_enter Try.func34, Try.ntmps34
    go_wp2_with (go_at_call 37; (try rw [hW.out]); refine Calls.mono (progSpan _ _ _ _ _) ?_; rintro e w1 ⟨(_ | _), rfl, ht, hB⟩ <;> ((first | (obtain ⟨g, rfl⟩ := g.next hB) | (obtain ⟨g, rfl⟩ : ∃ g : Grow W, w1 = g.x := ⟨⟨w1, hB⟩, rfl⟩)); clear hB))
    all_goals
      go_ret
      refine BoolB.mk ?_ (by first | exact hBw | exact hBw.trans (g.h.mono hBw.size))
      clear mW0_0_0 mW0_0_1 mW0_0_2 mW0_0_3 mW0_0_4 mW0_0_5 mW0_0_6 mW0_0_7 mW0_0_8 mW0_0_9 qW0_0 qW0_1 qW0_2 qW0_3 qW0_4 qW0_5 qW0_6 qW0_7 qW0_8 qW0_9 fW0_0 fW0_1 fW0_2 fW0_3 fW0_4 fW0_5 fW0_6 fW0_7 fW0_8 fW0_9 qW1_0 qW1_1 qW1_2 qW1_3 qW1_4 qW1_5 qW1_6 qW1_7 qW1_8 qW1_9 fW1_0 fW1_1 fW1_2 fW1_3 fW1_4 fW1_5 fW1_6 fW1_7 fW1_8 fW1_9 hW1 hW hg
      (try unfold Hid at *); simp [Gas.Op.ok, Gas.Op.lot, *]
  · go_enter Try.func34, Try.ntmps34
    go_wp2_with (fail)
    go_ret
    exact BoolB.mk (by simp [Gas.Op.ok, h1, h2, h3]) (below_al (below_al (Below.refl _ _) _) _)
end Go.Proofs.Ytdilgjhdimlbkaa
