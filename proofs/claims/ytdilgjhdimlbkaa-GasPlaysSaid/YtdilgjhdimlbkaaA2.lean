/- Gas: walks: which caverns and operations are as defined. -/
import Derived.Test.YtdilgjhdimlbkaaA1
set_option linter.unusedVariables false
set_option linter.unusedSimpArgs false
namespace Go.Proofs.Ytdilgjhdimlbkaa
open Go.RowKit Go.Sd Gas

def rndB (c : Cav) (k : Nat) : Bool := match k with
  | 0 => true
  | 1 => inB c.f0 500 2000 && inB c.h0 1 100
  | _ => (inB c.f0 500 2000 && inB c.h0 1 100) && (inB c.f1 500 2000 && inB c.h1 1 100)
theorem ok_rnd {c : Cav} {k : Nat} (h : rndB c k = false) : c.ok = false := by
  match k with
  | 0 => cases h
  | 1 => simp only [rndB] at h; simp [Cav.ok, h]
  | k + 2 => simp only [rndB] at h; simp [Cav.ok, h]

set_option maxHeartbeats 4000000 in
theorem refCavern (c : Cav) (w : World) : Calls Try.prog 6 #[cavV c] w (BoolB c.ok w) := by
  obtain ⟨W, hW⟩ : ∃ W, w.alloc (.cells #[.int .i64 c.vlo, .int .i64 c.vhi, .int .i64 c.least, .int .i64 c.most, .int .i64 c.f0, .int .i64 c.f1, .int .i64 c.h0, .int .i64 c.h1, .int .i64 c.rock, .int .i64 c.plo, .int .i64 c.phi] 26) = W := ⟨_, rfl⟩
  obtain ⟨eW0, bW0, sW0⟩ := boxed hW
  have hBw : Below w.heap.size w W := bW0
  obtain ⟨zW0, rW0, tW0⟩ := row_cells eW0
  obtain ⟨qW0_0, qW0_1, qW0_2, qW0_3, qW0_4, qW0_5, qW0_6, qW0_7, qW0_8, qW0_9, qW0_10⟩ := rc11 eW0
  clear rW0 tW0 eW0
  have xW0 : w.heap.size ≤ w.heap.size := by omega
  clear bW0 sW0
  have hg := grow_cell W
  go_enter Try.func6, Try.ntmps6
  go_wp2
  go_loopw [3] (fun i wr => ∃ g : Grow W, wr = g.x ∧ ((i = .int .i64 0 ∧ Hid True) ∨ (i = .int .i64 1 ∧ Hid (rndB c 1 = true)) ∨ (i = .int .i64 2 ∧ Hid (rndB c 2 = true)))) (fun i _ => (2 - intOf i).toNat)
  case atStart => exact ⟨Grow.self W, rfl, .inl ⟨rfl, trivial⟩⟩
  case round =>
    obtain ⟨g, rfl, (⟨rfl, hH⟩ | ⟨rfl, hH⟩ | ⟨rfl, hH⟩)⟩ := hrel
    · go_wp2_with (go_at_call 25; refine Calls.mono (refIn _ _ _ _) ?_; rintro e w1 ⟨(_ | _), rfl, ht, rfl⟩)
      · go_ret
        exact BoolB.mk (ok_rnd (k := 1) (by unfold Hid at *; simp [rndB, *])) (hBw.trans (g.h.mono hBw.size))
      · go_ret
        exact BoolB.mk (ok_rnd (k := 1) (by unfold Hid at *; simp [rndB, *])) (hBw.trans (g.h.mono hBw.size))
      · exact ⟨⟨g, rfl, .inr (.inl ⟨rfl, by unfold Hid at *; simp [rndB, *]⟩)⟩, by simp [intOf]⟩
    · go_wp2_with (go_at_call 25; refine Calls.mono (refIn _ _ _ _) ?_; rintro e w1 ⟨(_ | _), rfl, ht, rfl⟩)
      · go_ret
        exact BoolB.mk (ok_rnd (k := 2) (by unfold Hid at *; simp [rndB, *])) (hBw.trans (g.h.mono hBw.size))
      · go_ret
        exact BoolB.mk (ok_rnd (k := 2) (by unfold Hid at *; simp [rndB, *])) (hBw.trans (g.h.mono hBw.size))
      · exact ⟨⟨g, rfl, .inr (.inr ⟨rfl, by unfold Hid at *; simp only [rndB] at *; simp [*]⟩)⟩, by simp [intOf]⟩
    · go_wp2_with (first | (go_at_call 25; refine Calls.mono (refIn _ _ _ _) ?_; rintro e w1 ⟨(_ | _), rfl, ht, rfl⟩) | (go_at_call 26; refine Calls.mono (refSpan _ _ _ _ _) ?_; rintro e w1 ⟨(_ | _), rfl, ht, hB⟩ <;> ((first | (obtain ⟨g, rfl⟩ := g.next hB) | (obtain ⟨g, rfl⟩ : ∃ g : Grow W, w1 = g.x := ⟨⟨w1, hB⟩, rfl⟩)); clear hB)))
      all_goals
        go_ret
        exact BoolB.mk (by unfold Hid at *; simp only [rndB] at *; simp [Cav.ok, *]) (hBw.trans (g.h.mono hBw.size))

set_option maxHeartbeats 4000000 in
theorem progValid (c : Cav) (w : World) : Calls Try.prog 17 #[cavV c] w (BoolB c.ok w) := by
  obtain ⟨W, hW⟩ : ∃ W, w.alloc (.cells #[.int .i64 c.vlo, .int .i64 c.vhi, .int .i64 c.least, .int .i64 c.most, .int .i64 c.f0, .int .i64 c.f1, .int .i64 c.h0, .int .i64 c.h1, .int .i64 c.rock, .int .i64 c.plo, .int .i64 c.phi] 59) = W := ⟨_, rfl⟩
  obtain ⟨eW0, bW0, sW0⟩ := boxed hW
  have hBw : Below w.heap.size w W := bW0
  obtain ⟨zW0, rW0, tW0⟩ := row_cells eW0
  obtain ⟨qW0_0, qW0_1, qW0_2, qW0_3, qW0_4, qW0_5, qW0_6, qW0_7, qW0_8, qW0_9, qW0_10⟩ := rc11 eW0
  clear rW0 tW0 eW0
  have xW0 : w.heap.size ≤ w.heap.size := by omega
  clear bW0 sW0
  have hg := grow_cell W
  go_enter Try.func17, Try.ntmps17
  go_wp2
  go_loopw [3, 4] (fun _ i wr => ∃ g : Grow W, wr = g.x ∧ ((i = .int .i64 0 ∧ Hid True) ∨ (i = .int .i64 1 ∧ Hid (rndB c 1 = true)) ∨ (i = .int .i64 2 ∧ Hid (rndB c 2 = true)))) (fun _ i _ => (2 - intOf i).toNat)
  case atStart => exact ⟨Grow.self W, rfl, .inl ⟨rfl, trivial⟩⟩
  case round =>
    obtain ⟨g, rfl, (⟨rfl, hH⟩ | ⟨rfl, hH⟩ | ⟨rfl, hH⟩)⟩ := hrel
    · go_wp2_with (go_at_call 36; refine Calls.mono (progIn _ _ _ _) ?_; rintro e w1 ⟨(_ | _), rfl, ht, rfl⟩)
      · go_ret
        exact BoolB.mk (ok_rnd (k := 1) (by unfold Hid at *; simp [rndB, *])) (hBw.trans (g.h.mono hBw.size))
      · go_ret
        exact BoolB.mk (ok_rnd (k := 1) (by unfold Hid at *; simp [rndB, *])) (hBw.trans (g.h.mono hBw.size))
      · exact ⟨⟨g, rfl, .inr (.inl ⟨rfl, by unfold Hid at *; simp [rndB, *]⟩)⟩, by simp [intOf]⟩
    · go_wp2_with (go_at_call 36; refine Calls.mono (progIn _ _ _ _) ?_; rintro e w1 ⟨(_ | _), rfl, ht, rfl⟩)
      · go_ret
        exact BoolB.mk (ok_rnd (k := 2) (by unfold Hid at *; simp [rndB, *])) (hBw.trans (g.h.mono hBw.size))
      · go_ret
        exact BoolB.mk (ok_rnd (k := 2) (by unfold Hid at *; simp [rndB, *])) (hBw.trans (g.h.mono hBw.size))
      · exact ⟨⟨g, rfl, .inr (.inr ⟨rfl, by unfold Hid at *; simp only [rndB] at *; simp [*]⟩)⟩, by simp [intOf]⟩
    · go_wp2_with (first | (go_at_call 36; refine Calls.mono (progIn _ _ _ _) ?_; rintro e w1 ⟨(_ | _), rfl, ht, rfl⟩) | (go_at_call 37; refine Calls.mono (progSpan _ _ _ _ _) ?_; rintro e w1 ⟨(_ | _), rfl, ht, hB⟩ <;> ((first | (obtain ⟨g, rfl⟩ := g.next hB) | (obtain ⟨g, rfl⟩ : ∃ g : Grow W, w1 = g.x := ⟨⟨w1, hB⟩, rfl⟩)); clear hB)))
      all_goals
        go_ret
        exact BoolB.mk (by unfold Hid at *; simp only [rndB] at *; simp [Cav.ok, *]) (hBw.trans (g.h.mono hBw.size))

set_option maxHeartbeats 8000000 in
theorem refOp (o : Gas.Op) (w : World) : Calls Try.prog 27 #[opV o] w (BoolB o.ok w) := by
  obtain ⟨W, hW⟩ : ∃ W, w.alloc (.cells #[.int .i64 o.kind, .int .i64 o.lg, .int .i64 o.ly, .int .i64 o.lt, .int .i64 o.lw, .int .i64 o.moles, .int .i64 o.slo, .int .i64 o.shi, .int .i64 o.wlo, .int .i64 o.whi] 57) = W := ⟨_, rfl⟩
  obtain ⟨eW0, bW0, sW0⟩ := boxed hW
  have hBw : Below w.heap.size w W := bW0
  obtain ⟨zW0, rW0, tW0⟩ := row_cells eW0
  obtain ⟨qW0_0, qW0_1, qW0_2, qW0_3, qW0_4, qW0_5, qW0_6, qW0_7, qW0_8, qW0_9⟩ := rc10 eW0
  clear rW0 tW0 eW0
  have xW0 : w.heap.size ≤ w.heap.size := by omega
  clear bW0 sW0
  have hg := grow_cell W
  go_enter Try.func27, Try.ntmps27
  go_wp2_with (first | (go_at_call 25; refine Calls.mono (refIn _ _ _ _) ?_; rintro e w1 ⟨(_ | _), rfl, ht, rfl⟩) | (go_at_call 26; refine Calls.mono (refSpan _ _ _ _ _) ?_; rintro e w1 ⟨(_ | _), rfl, ht, hB⟩ <;> ((first | (obtain ⟨g, rfl⟩ := g.next hB) | (obtain ⟨g, rfl⟩ : ∃ g : Grow W, w1 = g.x := ⟨⟨w1, hB⟩, rfl⟩)); clear hB)) | (go_at_call 7; refine Calls.mono (refPoint ⟨_, _, _, _⟩ _) ?_; rintro e w1 ⟨(_ | _), rfl, ht, hB⟩ <;> ((first | (obtain ⟨g, rfl⟩ := g.next hB) | (obtain ⟨g, rfl⟩ : ∃ g : Grow W, w1 = g.x := ⟨⟨w1, hB⟩, rfl⟩)); clear hB)))
  all_goals
    go_ret
    exact BoolB.mk (by (try unfold Hid at *); simp_all [Gas.Op.ok, Gas.Op.lot]) (by first | exact hBw | exact hBw.trans (g.h.mono hBw.size))
end Go.Proofs.Ytdilgjhdimlbkaa
