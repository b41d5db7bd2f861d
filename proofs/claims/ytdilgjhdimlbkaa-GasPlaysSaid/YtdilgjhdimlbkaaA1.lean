/- Gas: values; walks of the small functions. -/
import Derived.Test.YtdilgjhdimlbkaaGen
import Derived.Test.YtdilgjhdimlbkaaGpl
import Derived.Test.YtdilgjhdimlbkaaChecked
import Derived.Lib.Hide
import Derived.IntWalk
set_option linter.unusedVariables false
set_option linter.unusedSimpArgs false
namespace Go.Proofs.Ytdilgjhdimlbkaa
open Go.RowKit Go.Sd Gas

abbrev ptV (p : Pt) : Value := .agg #[.int .i64 p.g, .int .i64 p.y, .int .i64 p.t, .int .i64 p.w]
abbrev stV (s : St) : Value := .agg #[.int .i64 s.glo, .int .i64 s.ghi, .int .i64 s.ylo, .int .i64 s.yhi, .int .i64 s.tlo, .int .i64 s.thi, .int .i64 s.wlo, .int .i64 s.whi]
abbrev cavV (c : Cav) : Value := .agg #[.int .i64 c.vlo, .int .i64 c.vhi, .int .i64 c.least, .int .i64 c.most, .int .i64 c.f0, .int .i64 c.f1, .int .i64 c.h0, .int .i64 c.h1, .int .i64 c.rock, .int .i64 c.plo, .int .i64 c.phi]
abbrev opV (o : Gas.Op) : Value := .agg #[.int .i64 o.kind, .int .i64 o.lg, .int .i64 o.ly, .int .i64 o.lt, .int .i64 o.lw, .int .i64 o.moles, .int .i64 o.slo, .int .i64 o.shi, .int .i64 o.wlo, .int .i64 o.whi]
abbrev outV (o : Out) : Value := .agg #[.int .i64 o.glo, .int .i64 o.ghi, .int .i64 o.ylo, .int .i64 o.yhi, .int .i64 o.wlo, .int .i64 o.whi]

/-- A Bool comes back; the world has grown. -/
def BoolB (b : Bool) (w : World) (e : Ending) (w' : World) : Prop := ∃ t : Bool, e = .returned (.bool t) ∧ Hid (b = t) ∧ Below w.heap.size w w'
/-- A Bool comes back; the world is as it was. -/
def BoolS (b : Bool) (w : World) (e : Ending) (w' : World) : Prop := ∃ t : Bool, e = .returned (.bool t) ∧ Hid (b = t) ∧ w = w'
theorem BoolB.mk {b t : Bool} {w w' : World} (h : b = t) (hb : Below w.heap.size w w') : BoolB b w (.returned (.bool t)) w' := ⟨t, rfl, h, hb⟩
theorem BoolS.mk {b t : Bool} {w : World} (h : b = t) : BoolS b w (.returned (.bool t)) w := ⟨t, rfl, h, rfl⟩
theorem boxed {w W : World} {c : Array Value} {t : TypeId} (h : w.alloc (.cells c t) = W) : W.heap[w.heap.size]? = some (.cells c t) ∧ Below w.heap.size w W ∧ W.heap.size = w.heap.size + 1 := by
  subst h
  exact ⟨World.alloc_heap_new w _, (Below.refl _ _).alloc (Nat.le_refl _) _, by simp⟩
theorem ret_bool {a b : Bool} (h : a = b) : Ending.returned (.bool a) = .returned (.bool b) := by rw [h]
theorem below_al {B : Nat} {W w : World} (h : Below B W w) (o : Obj) (hb : B ≤ w.heap.size := by simp <;> omega) : Below B W (w.alloc o) := h.alloc hb o

set_option maxHeartbeats 400000 in
theorem refIn (a b c : Int) (w : World) :
    Calls Try.prog 25 #[.int .i64 a, .int .i64 b, .int .i64 c] w (BoolS (inB a b c) w) := by
  by_cases h : b ≤ a
  · go_enter Try.func25, Try.ntmps25
    go_wp2
    go_ret
    exact BoolS.mk (by unfold inB; simp [h] <;> omega)
  · go_enter Try.func25, Try.ntmps25
    go_wp2
    go_ret
    exact BoolS.mk (by unfold inB; simp [h] <;> omega)
set_option maxHeartbeats 400000 in
theorem progIn (a b c : Int) (w : World) :
    Calls Try.prog 36 #[.int .i64 a, .int .i64 b, .int .i64 c] w (BoolS (inB a b c) w) := by
  by_cases h : b ≤ a
  · go_enter Try.func36, Try.ntmps36
    go_wp2
    go_ret
    exact BoolS.mk (by unfold inB; simp [h] <;> omega)
  · go_enter Try.func36, Try.ntmps36
    go_wp2
    go_ret
    exact BoolS.mk (by unfold inB; simp [h] <;> omega)

set_option maxHeartbeats 800000 in
theorem refSpan (a b c d : Int) (w : World) :
    Calls Try.prog 26 #[.agg #[.int .i64 a, .int .i64 b], .int .i64 c, .int .i64 d] w (BoolB (spanB a b c d) w) := by
  by_cases h : c ≤ a
  · by_cases h2 : a ≤ b
    · go_enter Try.func26, Try.ntmps26
      go_wp2
      go_ret
      exact BoolB.mk (by unfold spanB; simp [h, h2] <;> omega) (below_al (Below.refl _ _) _)
    · go_enter Try.func26, Try.ntmps26
      go_wp2
      go_ret
      exact BoolB.mk (by unfold spanB; simp [h2] <;> omega) (below_al (Below.refl _ _) _)
  · go_enter Try.func26, Try.ntmps26
    go_wp2
    go_ret
    exact BoolB.mk (by unfold spanB; simp [h] <;> omega) (below_al (Below.refl _ _) _)
set_option maxHeartbeats 800000 in
theorem progSpan (a b c d : Int) (w : World) :
    Calls Try.prog 37 #[.agg #[.int .i64 a, .int .i64 b], .int .i64 c, .int .i64 d] w (BoolB (spanB a b c d) w) := by
  by_cases h : c ≤ a
  · by_cases h2 : a ≤ b
    · go_enter Try.func37, Try.ntmps37
      go_wp2
      go_ret
      exact BoolB.mk (by unfold spanB; simp [h, h2] <;> omega) (below_al (Below.refl _ _) _)
    · go_enter Try.func37, Try.ntmps37
      go_wp2
      go_ret
      exact BoolB.mk (by unfold spanB; simp [h2] <;> omega) (below_al (Below.refl _ _) _)
  · go_enter Try.func37, Try.ntmps37
    go_wp2
    go_ret
    exact BoolB.mk (by unfold spanB; simp [h] <;> omega) (below_al (Below.refl _ _) _)

set_option maxHeartbeats 2000000 in
theorem progState (s : St) (w : World) : Calls Try.prog 29 #[stV s] w (BoolB s.ok w) := by
  obtain ⟨W, hW⟩ : ∃ W, w.alloc (.cells #[.int .i64 s.glo, .int .i64 s.ghi, .int .i64 s.ylo, .int .i64 s.yhi, .int .i64 s.tlo, .int .i64 s.thi, .int .i64 s.wlo, .int .i64 s.whi] 48) = W := ⟨_, rfl⟩
  obtain ⟨eW0, bW0, sW0⟩ := boxed hW
  have hBw : Below w.heap.size w W := bW0
  obtain ⟨zW0, rW0, tW0⟩ := row_cells eW0
  obtain ⟨qW0_0, qW0_1, qW0_2, qW0_3, qW0_4, qW0_5, qW0_6, qW0_7⟩ := rc8 eW0
  clear rW0 tW0 eW0
  have xW0 : w.heap.size ≤ w.heap.size := by omega
  clear bW0 sW0
  have hg := grow_cell W
  go_enter Try.func29, Try.ntmps29
  go_wp2_with (go_at_call 37; refine Calls.mono (progSpan _ _ _ _ _) ?_; rintro e w1 ⟨(_ | _), rfl, ht, hB⟩ <;> ((first | (obtain ⟨g, rfl⟩ := g.next hB) | (obtain ⟨g, rfl⟩ : ∃ g : Grow W, w1 = g.x := ⟨⟨w1, hB⟩, rfl⟩)); clear hB))
  all_goals
    go_ret
    exact BoolB.mk (by unfold Hid at *; simp [St.ok, *]) (hBw.trans (g.h.mono hBw.size))

set_option maxHeartbeats 2000000 in
theorem refPoint (p : Pt) (w : World) : Calls Try.prog 7 #[ptV p] w (BoolB p.ok w) := by
  obtain ⟨W, hW⟩ : ∃ W, w.alloc (.cells #[.int .i64 p.g, .int .i64 p.y, .int .i64 p.t, .int .i64 p.w] 28) = W := ⟨_, rfl⟩
  obtain ⟨eW0, bW0, sW0⟩ := boxed hW
  have hBw : Below w.heap.size w W := bW0
  obtain ⟨zW0, rW0, tW0⟩ := row_cells eW0
  obtain ⟨qW0_0, qW0_1, qW0_2, qW0_3⟩ := rc4 eW0
  clear rW0 tW0 eW0
  have xW0 : w.heap.size ≤ w.heap.size := by omega
  clear bW0 sW0
  have hg := grow_cell W
  go_enter Try.func7, Try.ntmps7
  go_wp2_with (go_at_call 25; refine Calls.mono (refIn _ _ _ _) ?_; rintro e w1 ⟨(_ | _), rfl, ht, rfl⟩)
  all_goals
    go_ret
    exact BoolB.mk (by unfold Hid at *; simp [Pt.ok, *]) hBw

set_option maxHeartbeats 2000000 in
theorem progPoint (p : Pt) (w : World) : Calls Try.prog 18 #[ptV p] w (BoolB p.ok w) := by
  obtain ⟨W, hW⟩ : ∃ W, w.alloc (.cells #[.int .i64 p.g, .int .i64 p.y, .int .i64 p.t, .int .i64 p.w] 28) = W := ⟨_, rfl⟩
  obtain ⟨eW0, bW0, sW0⟩ := boxed hW
  have hBw : Below w.heap.size w W := bW0
  obtain ⟨zW0, rW0, tW0⟩ := row_cells eW0
  obtain ⟨qW0_0, qW0_1, qW0_2, qW0_3⟩ := rc4 eW0
  clear rW0 tW0 eW0
  have xW0 : w.heap.size ≤ w.heap.size := by omega
  clear bW0 sW0
  have hg := grow_cell W
  go_enter Try.func18, Try.ntmps18
  go_wp2_with (go_at_call 36; refine Calls.mono (progIn _ _ _ _) ?_; rintro e w1 ⟨(_ | _), rfl, ht, rfl⟩)
  all_goals
    go_ret
    exact BoolB.mk (by unfold Hid at *; simp [Pt.ok, *]) hBw

end Go.Proofs.Ytdilgjhdimlbkaa
