/- Laws and walks: GA1, GA4, GA2, GA3, GRul, GOwn. -/
import Derived.Test.YthbkcoijafehgaaGreatChecked
import Derived.Lib.Hide
import Derived.IntWalk
import Derived.Laws.EntriesVeiled
import Derived.Maps.AppendAt
import Derived.OwnWalk
import Derived.Laws.MakeOwn
import Derived.Test.YthbkcoijafehgaaGreatK02
import Derived.Test.YthbkcoijafehgaaGreatK03
set_option linter.unusedVariables false
set_option linter.unusedSimpArgs false
namespace Go.Proofs.YthbkcoijafehgaaGreat.G
open Go.RowKit Go.Sd Gas
abbrev ptV (p : Pt) : Value := .agg #[.int .i64 p.g, .int .i64 p.y, .int .i64 p.t, .int .i64 p.w]
abbrev stV (s : St) : Value := .agg #[.int .i64 s.glo, .int .i64 s.ghi, .int .i64 s.ylo, .int .i64 s.yhi, .int .i64 s.tlo, .int .i64 s.thi, .int .i64 s.wlo, .int .i64 s.whi]
abbrev cavV (c : Cav) : Value := .agg #[.int .i64 c.vlo, .int .i64 c.vhi, .int .i64 c.least, .int .i64 c.most, .int .i64 c.f0, .int .i64 c.f1, .int .i64 c.h0, .int .i64 c.h1, .int .i64 c.rock, .int .i64 c.plo, .int .i64 c.phi]
abbrev opV (o : Gas.Op) : Value := .agg #[.int .i64 o.kind, .int .i64 o.lg, .int .i64 o.ly, .int .i64 o.lt, .int .i64 o.lw, .int .i64 o.moles, .int .i64 o.slo, .int .i64 o.shi, .int .i64 o.wlo, .int .i64 o.whi]
abbrev outV (o : Out) : Value := .agg #[.int .i64 o.glo, .int .i64 o.ghi, .int .i64 o.ylo, .int .i64 o.yhi, .int .i64 o.wlo, .int .i64 o.whi]
/-- A Bool comes back; the world has grown. -/
def BoolB (b : Bool) (w : World) (e : Ending) (w' : World) : Prop := ∃ t : Bool, e = .returned (.bool t) ∧ Hid (b = t) ∧ Below w.heap.size w w'
/-- A Bool comes back; the world is as it was. -/
def BoolS (b : Bool) (w : World) (e : Ending) (w' : World) : Prop := ∃ t : Bool, e = .returned (.bool t) ∧ Hid (b = t) ∧ w = w'
theorem BoolB.mk {b t : Bool} {w w' : World} (h : b = t) (hb : Below w.heap.size w w') : BoolB b w (.returned (.bool t)) w' := ⟨t, rfl, h, hb⟩
theorem BoolS.mk {b t : Bool} {w : World} (h : b = t) : BoolS b w (.returned (.bool t)) w := ⟨t, rfl, h, rfl⟩
theorem boxed {w W : World} {c : Array Value} {t : TypeId} (h : w.alloc (.cells c t) = W) : W.heap[w.heap.size]? = some (.cells c t) ∧ Below w.heap.size w W ∧ W.heap.size = w.heap.size + 1 := by
  subst h
  exact ⟨World.alloc_heap_new w _, (Below.refl _ _).alloc (Nat.le_refl _) _, by simp⟩
theorem below_al {B : Nat} {W w : World} (h : Below B W w) (o : Obj) (hb : B ≤ w.heap.size := by simp <;> omega) : Below B W (w.alloc o) := h.alloc hb o
set_option maxHeartbeats 400000 in
theorem refIn (a b c : Int) (w : World) :
    Calls Tryz.prog 15 #[.int .i64 a, .int .i64 b, .int .i64 c] w (BoolS (inB a b c) w) := by
  by_cases h : b ≤ a
  · go_enter Tryz.func15, Tryz.ntmps15
    go_wp2
    go_ret
    exact BoolS.mk (by unfold inB; simp [h] <;> omega)
  · go_enter Tryz.func15, Tryz.ntmps15
    go_wp2
    go_ret
    exact BoolS.mk (by unfold inB; simp [h] <;> omega)
set_option maxHeartbeats 400000 in
theorem progIn (a b c : Int) (w : World) :
    Calls Tryz.prog 49 #[.int .i64 a, .int .i64 b, .int .i64 c] w (BoolS (inB a b c) w) := by
  by_cases h : b ≤ a
  · go_enter Tryz.func49, Tryz.ntmps49
    go_wp2
    go_ret
    exact BoolS.mk (by unfold inB; simp [h] <;> omega)
  · go_enter Tryz.func49, Tryz.ntmps49
    go_wp2
    go_ret
    exact BoolS.mk (by unfold inB; simp [h] <;> omega)
set_option maxHeartbeats 800000 in
theorem refSpan (a b c d : Int) (w : World) :
    Calls Tryz.prog 16 #[.agg #[.int .i64 a, .int .i64 b], .int .i64 c, .int .i64 d] w (BoolB (spanB a b c d) w) := by
  by_cases h : c ≤ a
  · by_cases h2 : a ≤ b
    · go_enter Tryz.func16, Tryz.ntmps16
      go_wp2
      go_ret
      exact BoolB.mk (by unfold spanB; simp [h, h2] <;> omega) (below_al (Below.refl _ _) _)
    · go_enter Tryz.func16, Tryz.ntmps16
      go_wp2
      go_ret
      exact BoolB.mk (by unfold spanB; simp [h2] <;> omega) (below_al (Below.refl _ _) _)
  · go_enter Tryz.func16, Tryz.ntmps16
    go_wp2
    go_ret
    exact BoolB.mk (by unfold spanB; simp [h] <;> omega) (below_al (Below.refl _ _) _)
set_option maxHeartbeats 800000 in
theorem progSpan (a b c d : Int) (w : World) :
    Calls Tryz.prog 50 #[.agg #[.int .i64 a, .int .i64 b], .int .i64 c, .int .i64 d] w (BoolB (spanB a b c d) w) := by
  by_cases h : c ≤ a
  · by_cases h2 : a ≤ b
    · go_enter Tryz.func50, Tryz.ntmps50
      go_wp2
      go_ret
      exact BoolB.mk (by unfold spanB; simp [h, h2] <;> omega) (below_al (Below.refl _ _) _)
    · go_enter Tryz.func50, Tryz.ntmps50
      go_wp2
      go_ret
      exact BoolB.mk (by unfold spanB; simp [h2] <;> omega) (below_al (Below.refl _ _) _)
  · go_enter Tryz.func50, Tryz.ntmps50
    go_wp2
    go_ret
    exact BoolB.mk (by unfold spanB; simp [h] <;> omega) (below_al (Below.refl _ _) _)
set_option maxHeartbeats 2000000 in
theorem refState (s : St) (w : World) : Calls Tryz.prog 5 #[stV s] w (BoolB s.ok w) := by
  obtain ⟨W, hW⟩ : ∃ W, w.alloc (.cells #[.int .i64 s.glo, .int .i64 s.ghi, .int .i64 s.ylo, .int .i64 s.yhi, .int .i64 s.tlo, .int .i64 s.thi, .int .i64 s.wlo, .int .i64 s.whi] 28) = W := ⟨_, rfl⟩
  obtain ⟨eW0, bW0, sW0⟩ := boxed hW
  have hBw : Below w.heap.size w W := bW0
  obtain ⟨zW0, rW0, tW0⟩ := row_cells eW0
  obtain ⟨qW0_0, qW0_1, qW0_2, qW0_3, qW0_4, qW0_5, qW0_6, qW0_7⟩ := rc8 eW0
  clear rW0 tW0 eW0
  have xW0 : w.heap.size ≤ w.heap.size := by omega
  clear bW0 sW0
  have hg := grow_cell W
  go_enter Tryz.func5, Tryz.ntmps5
  go_wp2_with (go_at_call 16; refine Calls.mono (refSpan _ _ _ _ _) ?_; rintro e w1 ⟨(_ | _), rfl, ht, hB⟩ <;> ((first | (obtain ⟨g, rfl⟩ := g.next hB) | (obtain ⟨g, rfl⟩ : ∃ g : Grow W, w1 = g.x := ⟨⟨w1, hB⟩, rfl⟩)); clear hB))
  all_goals
    go_ret
    exact BoolB.mk (by unfold Hid at *; simp [St.ok, *]) (hBw.trans (g.h.mono hBw.size))
set_option maxHeartbeats 2000000 in
theorem progState (s : St) (w : World) : Calls Tryz.prog 27 #[stV s] w (BoolB s.ok w) := by
  obtain ⟨W, hW⟩ : ∃ W, w.alloc (.cells #[.int .i64 s.glo, .int .i64 s.ghi, .int .i64 s.ylo, .int .i64 s.yhi, .int .i64 s.tlo, .int .i64 s.thi, .int .i64 s.wlo, .int .i64 s.whi] 28) = W := ⟨_, rfl⟩
  obtain ⟨eW0, bW0, sW0⟩ := boxed hW
  have hBw : Below w.heap.size w W := bW0
  obtain ⟨zW0, rW0, tW0⟩ := row_cells eW0
  obtain ⟨qW0_0, qW0_1, qW0_2, qW0_3, qW0_4, qW0_5, qW0_6, qW0_7⟩ := rc8 eW0
  clear rW0 tW0 eW0
  have xW0 : w.heap.size ≤ w.heap.size := by omega
  clear bW0 sW0
  have hg := grow_cell W
  go_enter Tryz.func27, Tryz.ntmps27
  go_wp2_with (go_at_call 50; refine Calls.mono (progSpan _ _ _ _ _) ?_; rintro e w1 ⟨(_ | _), rfl, ht, hB⟩ <;> ((first | (obtain ⟨g, rfl⟩ := g.next hB) | (obtain ⟨g, rfl⟩ : ∃ g : Grow W, w1 = g.x := ⟨⟨w1, hB⟩, rfl⟩)); clear hB))
  all_goals
    go_ret
    exact BoolB.mk (by unfold Hid at *; simp [St.ok, *]) (hBw.trans (g.h.mono hBw.size))
set_option maxHeartbeats 2000000 in
theorem refPoint (p : Pt) (w : World) : Calls Tryz.prog 38 #[ptV p] w (BoolB p.ok w) := by
  obtain ⟨W, hW⟩ : ∃ W, w.alloc (.cells #[.int .i64 p.g, .int .i64 p.y, .int .i64 p.t, .int .i64 p.w] 31) = W := ⟨_, rfl⟩
  obtain ⟨eW0, bW0, sW0⟩ := boxed hW
  have hBw : Below w.heap.size w W := bW0
  obtain ⟨zW0, rW0, tW0⟩ := row_cells eW0
  obtain ⟨qW0_0, qW0_1, qW0_2, qW0_3⟩ := rc4 eW0
  clear rW0 tW0 eW0
  have xW0 : w.heap.size ≤ w.heap.size := by omega
  clear bW0 sW0
  have hg := grow_cell W
  go_enter Tryz.func38, Tryz.ntmps38
  go_wp2_with (go_at_call 15; refine Calls.mono (refIn _ _ _ _) ?_; rintro e w1 ⟨(_ | _), rfl, ht, rfl⟩)
  all_goals
    go_ret
    exact BoolB.mk (by unfold Hid at *; simp [Pt.ok, *]) hBw
set_option maxHeartbeats 2000000 in
theorem progPoint (p : Pt) (w : World) : Calls Tryz.prog 29 #[ptV p] w (BoolB p.ok w) := by
  obtain ⟨W, hW⟩ : ∃ W, w.alloc (.cells #[.int .i64 p.g, .int .i64 p.y, .int .i64 p.t, .int .i64 p.w] 31) = W := ⟨_, rfl⟩
  obtain ⟨eW0, bW0, sW0⟩ := boxed hW
  have hBw : Below w.heap.size w W := bW0
  obtain ⟨zW0, rW0, tW0⟩ := row_cells eW0
  obtain ⟨qW0_0, qW0_1, qW0_2, qW0_3⟩ := rc4 eW0
  clear rW0 tW0 eW0
  have xW0 : w.heap.size ≤ w.heap.size := by omega
  clear bW0 sW0
  have hg := grow_cell W
  go_enter Tryz.func29, Tryz.ntmps29
  go_wp2_with (go_at_call 49; refine Calls.mono (progIn _ _ _ _) ?_; rintro e w1 ⟨(_ | _), rfl, ht, rfl⟩)
  all_goals
    go_ret
    exact BoolB.mk (by unfold Hid at *; simp [Pt.ok, *]) hBw
end Go.Proofs.YthbkcoijafehgaaGreat.G
set_option linter.unusedVariables false
set_option linter.unusedSimpArgs false
namespace Go.Proofs.YthbkcoijafehgaaGreat.G
open Go.RowKit Go.Sd Gas
theorem int_ret {k : IntKind} {a b : Int} (h : a = b) : Ending.returned (.int k a) = .returned (.int k b) := by rw [h]
theorem bd_mul {a b A B : Int} (ha : 0 ≤ a ∧ a ≤ A) (hb : 0 ≤ b ∧ b ≤ B) : 0 ≤ a * b ∧ a * b ≤ A * B :=
  ⟨Int.mul_nonneg ha.1 hb.1, Int.mul_le_mul ha.2 hb.2 hb.1 (by omega)⟩
set_option maxHeartbeats 1000000 in
theorem progPart (m n d : Int) (w : World) (h0 : 0 ≤ m * n ∧ m * n ≤ 1000000000000000000) (hd : 0 ≤ d ∧ d ≤ 1000000000000) :
    Calls Tryz.prog 54 #[.int .i64 m, .int .i64 n, .int .i64 d] w fun e w' => e = .returned (.int .i64 (Gas.part m n d)) ∧ w = w' := by
  by_cases hz : d = 0
  · subst hz
    go_enter Tryz.func54, Tryz.ntmps54
    go_wp2
    go_ret
    exact ⟨int_ret (by simp [Gas.part]), rfl⟩
  · have hq : Gas.part m n d = m * n / d := by unfold Gas.part; rw [if_neg hz]
    have hq0 : 0 ≤ m * n / d := Int.ediv_nonneg h0.1 hd.1
    have hq1 : m * n / d ≤ m * n := Int.ediv_le_self _ h0.1
    replace hq := Lib.hid hq
    have ht : (m * n).tdiv d = m * n / d := Int.tdiv_eq_ediv_of_nonneg h0.1
    replace ht := Lib.hid ht
    go_enter Tryz.func54, Tryz.ntmps54
    go_wp2
    go_ret
    exact ⟨int_ret (by rw [hq.out]), rfl⟩
end Go.Proofs.YthbkcoijafehgaaGreat.G
set_option linter.unusedVariables false
set_option linter.unusedSimpArgs false
namespace Go.Proofs.YthbkcoijafehgaaGreat.G
open Go.RowKit Go.Sd Gas
def rndB (c : Cav) (k : Nat) : Bool := match k with
  | 0 => true
  | 1 => inB c.f0 500 2000 && inB c.h0 1 100
  | _ => (inB c.f0 500 2000 && inB c.h0 1 100) && (inB c.f1 500 2000 && inB c.h1 1 100)
theorem ok_rnd {c : Cav} {k : Nat} (h : rndB c k = false) : c.ok = false := by
  match k with
  | 0 => cases h
  | 1 => simp only [rndB] at h; simp [Cav.ok, h]
  | k + 2 => simp only [rndB] at h; simp [Cav.ok, h]
set_option maxHeartbeats 4000000 in
theorem refCavern (c : Cav) (w : World) : Calls Tryz.prog 4 #[cavV c] w (BoolB c.ok w) := by
  obtain ⟨W, hW⟩ : ∃ W, w.alloc (.cells #[.int .i64 c.vlo, .int .i64 c.vhi, .int .i64 c.least, .int .i64 c.most, .int .i64 c.f0, .int .i64 c.f1, .int .i64 c.h0, .int .i64 c.h1, .int .i64 c.rock, .int .i64 c.plo, .int .i64 c.phi] 26) = W := ⟨_, rfl⟩
  obtain ⟨eW0, bW0, sW0⟩ := boxed hW
  have hBw : Below w.heap.size w W := bW0
  obtain ⟨zW0, rW0, tW0⟩ := row_cells eW0
  obtain ⟨qW0_0, qW0_1, qW0_2, qW0_3, qW0_4, qW0_5, qW0_6, qW0_7, qW0_8, qW0_9, qW0_10⟩ := rc11 eW0
  clear rW0 tW0 eW0
  have xW0 : w.heap.size ≤ w.heap.size := by omega
  clear bW0 sW0
  have hg := grow_cell W
  go_enter Tryz.func4, Tryz.ntmps4
  go_wp2
  go_loopw [3] (fun i wr => ∃ g : Grow W, wr = g.x ∧ ((i = .int .i64 0 ∧ Hid True) ∨ (i = .int .i64 1 ∧ Hid (rndB c 1 = true)) ∨ (i = .int .i64 2 ∧ Hid (rndB c 2 = true)))) (fun i _ => (2 - intOf i).toNat)
  case atStart => exact ⟨Grow.self W, rfl, .inl ⟨rfl, trivial⟩⟩
  case round =>
    obtain ⟨g, rfl, (⟨rfl, hH⟩ | ⟨rfl, hH⟩ | ⟨rfl, hH⟩)⟩ := hrel
    · go_wp2_with (go_at_call 15; refine Calls.mono (refIn _ _ _ _) ?_; rintro e w1 ⟨(_ | _), rfl, ht, rfl⟩)
      · go_ret
        exact BoolB.mk (ok_rnd (k := 1) (by unfold Hid at *; simp [rndB, *])) (hBw.trans (g.h.mono hBw.size))
      · go_ret
        exact BoolB.mk (ok_rnd (k := 1) (by unfold Hid at *; simp [rndB, *])) (hBw.trans (g.h.mono hBw.size))
      · exact ⟨⟨g, rfl, .inr (.inl ⟨rfl, by unfold Hid at *; simp [rndB, *]⟩)⟩, by simp [intOf]⟩
    · go_wp2_with (go_at_call 15; refine Calls.mono (refIn _ _ _ _) ?_; rintro e w1 ⟨(_ | _), rfl, ht, rfl⟩)
      · go_ret
        exact BoolB.mk (ok_rnd (k := 2) (by unfold Hid at *; simp [rndB, *])) (hBw.trans (g.h.mono hBw.size))
      · go_ret
        exact BoolB.mk (ok_rnd (k := 2) (by unfold Hid at *; simp [rndB, *])) (hBw.trans (g.h.mono hBw.size))
      · exact ⟨⟨g, rfl, .inr (.inr ⟨rfl, by unfold Hid at *; simp only [rndB] at *; simp [*]⟩)⟩, by simp [intOf]⟩
    · go_wp2_with (first | (go_at_call 15; refine Calls.mono (refIn _ _ _ _) ?_; rintro e w1 ⟨(_ | _), rfl, ht, rfl⟩) | (go_at_call 16; refine Calls.mono (refSpan _ _ _ _ _) ?_; rintro e w1 ⟨(_ | _), rfl, ht, hB⟩ <;> ((first | (obtain ⟨g, rfl⟩ := g.next hB) | (obtain ⟨g, rfl⟩ : ∃ g : Grow W, w1 = g.x := ⟨⟨w1, hB⟩, rfl⟩)); clear hB)))
      all_goals
        go_ret
        exact BoolB.mk (by unfold Hid at *; simp only [rndB] at *; simp [Cav.ok, *]) (hBw.trans (g.h.mono hBw.size))
set_option maxHeartbeats 4000000 in
theorem progValid (c : Cav) (w : World) : Calls Tryz.prog 26 #[cavV c] w (BoolB c.ok w) := by
  obtain ⟨W, hW⟩ : ∃ W, w.alloc (.cells #[.int .i64 c.vlo, .int .i64 c.vhi, .int .i64 c.least, .int .i64 c.most, .int .i64 c.f0, .int .i64 c.f1, .int .i64 c.h0, .int .i64 c.h1, .int .i64 c.rock, .int .i64 c.plo, .int .i64 c.phi] 88) = W := ⟨_, rfl⟩
  obtain ⟨eW0, bW0, sW0⟩ := boxed hW
  have hBw : Below w.heap.size w W := bW0
  obtain ⟨zW0, rW0, tW0⟩ := row_cells eW0
  obtain ⟨qW0_0, qW0_1, qW0_2, qW0_3, qW0_4, qW0_5, qW0_6, qW0_7, qW0_8, qW0_9, qW0_10⟩ := rc11 eW0
  clear rW0 tW0 eW0
  have xW0 : w.heap.size ≤ w.heap.size := by omega
  clear bW0 sW0
  have hg := grow_cell W
  go_enter Tryz.func26, Tryz.ntmps26
  go_wp2
  go_loopw [3, 4] (fun _ i wr => ∃ g : Grow W, wr = g.x ∧ ((i = .int .i64 0 ∧ Hid True) ∨ (i = .int .i64 1 ∧ Hid (rndB c 1 = true)) ∨ (i = .int .i64 2 ∧ Hid (rndB c 2 = true)))) (fun _ i _ => (2 - intOf i).toNat)
  case atStart => exact ⟨Grow.self W, rfl, .inl ⟨rfl, trivial⟩⟩
  case round =>
    obtain ⟨g, rfl, (⟨rfl, hH⟩ | ⟨rfl, hH⟩ | ⟨rfl, hH⟩)⟩ := hrel
    · go_wp2_with (go_at_call 49; refine Calls.mono (progIn _ _ _ _) ?_; rintro e w1 ⟨(_ | _), rfl, ht, rfl⟩)
      · go_ret
        exact BoolB.mk (ok_rnd (k := 1) (by unfold Hid at *; simp [rndB, *])) (hBw.trans (g.h.mono hBw.size))
      · go_ret
        exact BoolB.mk (ok_rnd (k := 1) (by unfold Hid at *; simp [rndB, *])) (hBw.trans (g.h.mono hBw.size))
      · exact ⟨⟨g, rfl, .inr (.inl ⟨rfl, by unfold Hid at *; simp [rndB, *]⟩)⟩, by simp [intOf]⟩
    · go_wp2_with (go_at_call 49; refine Calls.mono (progIn _ _ _ _) ?_; rintro e w1 ⟨(_ | _), rfl, ht, rfl⟩)
      · go_ret
        exact BoolB.mk (ok_rnd (k := 2) (by unfold Hid at *; simp [rndB, *])) (hBw.trans (g.h.mono hBw.size))
      · go_ret
        exact BoolB.mk (ok_rnd (k := 2) (by unfold Hid at *; simp [rndB, *])) (hBw.trans (g.h.mono hBw.size))
      · exact ⟨⟨g, rfl, .inr (.inr ⟨rfl, by unfold Hid at *; simp only [rndB] at *; simp [*]⟩)⟩, by simp [intOf]⟩
    · go_wp2_with (first | (go_at_call 49; refine Calls.mono (progIn _ _ _ _) ?_; rintro e w1 ⟨(_ | _), rfl, ht, rfl⟩) | (go_at_call 50; refine Calls.mono (progSpan _ _ _ _ _) ?_; rintro e w1 ⟨(_ | _), rfl, ht, hB⟩ <;> ((first | (obtain ⟨g, rfl⟩ := g.next hB) | (obtain ⟨g, rfl⟩ : ∃ g : Grow W, w1 = g.x := ⟨⟨w1, hB⟩, rfl⟩)); clear hB)))
      all_goals
        go_ret
        exact BoolB.mk (by unfold Hid at *; simp only [rndB] at *; simp [Cav.ok, *]) (hBw.trans (g.h.mono hBw.size))
set_option maxHeartbeats 8000000 in
theorem refOp (o : Gas.Op) (w : World) : Calls Tryz.prog 17 #[opV o] w (BoolB o.ok w) := by
  obtain ⟨W, hW⟩ : ∃ W, w.alloc (.cells #[.int .i64 o.kind, .int .i64 o.lg, .int .i64 o.ly, .int .i64 o.lt, .int .i64 o.lw, .int .i64 o.moles, .int .i64 o.slo, .int .i64 o.shi, .int .i64 o.wlo, .int .i64 o.whi] 52) = W := ⟨_, rfl⟩
  obtain ⟨eW0, bW0, sW0⟩ := boxed hW
  have hBw : Below w.heap.size w W := bW0
  obtain ⟨zW0, rW0, tW0⟩ := row_cells eW0
  obtain ⟨qW0_0, qW0_1, qW0_2, qW0_3, qW0_4, qW0_5, qW0_6, qW0_7, qW0_8, qW0_9⟩ := rc10 eW0
  clear rW0 tW0 eW0
  have xW0 : w.heap.size ≤ w.heap.size := by omega
  clear bW0 sW0
  have hg := grow_cell W
  go_enter Tryz.func17, Tryz.ntmps17
  go_wp2_with (first | (go_at_call 15; refine Calls.mono (refIn _ _ _ _) ?_; rintro e w1 ⟨(_ | _), rfl, ht, rfl⟩) | (go_at_call 16; refine Calls.mono (refSpan _ _ _ _ _) ?_; rintro e w1 ⟨(_ | _), rfl, ht, hB⟩ <;> ((first | (obtain ⟨g, rfl⟩ := g.next hB) | (obtain ⟨g, rfl⟩ : ∃ g : Grow W, w1 = g.x := ⟨⟨w1, hB⟩, rfl⟩)); clear hB)) | (go_at_call 38; refine Calls.mono (refPoint ⟨_, _, _, _⟩ _) ?_; rintro e w1 ⟨(_ | _), rfl, ht, hB⟩ <;> ((first | (obtain ⟨g, rfl⟩ := g.next hB) | (obtain ⟨g, rfl⟩ : ∃ g : Grow W, w1 = g.x := ⟨⟨w1, hB⟩, rfl⟩)); clear hB)))
  all_goals
    go_ret
    exact BoolB.mk (by (try unfold Hid at *); simp_all [Gas.Op.ok, Gas.Op.lot]) (by first | exact hBw | exact hBw.trans (g.h.mono hBw.size))
end Go.Proofs.YthbkcoijafehgaaGreat.G
set_option linter.unusedVariables false
set_option linter.unusedSimpArgs false
namespace Go.Proofs.YthbkcoijafehgaaGreat.G
open Go.RowKit Go.Sd Gas
set_option maxHeartbeats 8000000 in
theorem progOp (o : Gas.Op) (w : World) : Calls Tryz.prog 45 #[opV o] w (BoolB o.ok w) := by
  obtain ⟨k, lg, ly, lt, lw, m, a, b, x, y⟩ := o
  by_cases h1 : k = 1
  · subst h1
    obtain ⟨W1, hW1⟩ : ∃ W1, w.alloc (.cells #[.int .i64 1, .int .i64 lg, .int .i64 ly, .int .i64 lt, .int .i64 lw, .int .i64 m, .int .i64 a, .int .i64 b, .int .i64 x, .int .i64 y] 52) = W1 := ⟨_, rfl⟩
    obtain ⟨eW0, bW0, sW0⟩ := boxed hW1
    have yW0_0 : w.heap.size < W1.heap.size := by omega
    obtain ⟨mW0_0_0, mW0_0_1, mW0_0_2, mW0_0_3, mW0_0_4, mW0_0_5, mW0_0_6, mW0_0_7, mW0_0_8, mW0_0_9⟩ := rc10 eW0
    obtain ⟨W, hW⟩ : ∃ W, W1.alloc (.cells #[.int .i64 1, .int .i64 0, .int .i64 0, .int .i64 0, .int .i64 0, .int .i64 m, .int .i64 a, .int .i64 b, .int .i64 x, .int .i64 y] 52) = W := ⟨_, rfl⟩
    obtain ⟨eW1, bW1, sW1⟩ := boxed hW
    replace eW0 := (bW1.block _ (Array.getElem?_eq_some_iff.1 eW0).1).trans eW0
    have hBw : Below w.heap.size w W := (by have := sW0; have := sW1; exact (bW0.trans (bW1.mono (by omega))))
    obtain ⟨zW0, rW0, tW0⟩ := row_cells eW0
    obtain ⟨qW0_0, qW0_1, qW0_2, qW0_3, qW0_4, qW0_5, qW0_6, qW0_7, qW0_8, qW0_9⟩ := rc10 eW0
    obtain ⟨fW0_0, fW0_1, fW0_2, fW0_3, fW0_4, fW0_5, fW0_6, fW0_7, fW0_8, fW0_9⟩ := rf10 eW0
    clear rW0 tW0 eW0
    obtain ⟨zW1, rW1, tW1⟩ := row_cells eW1
    obtain ⟨qW1_0, qW1_1, qW1_2, qW1_3, qW1_4, qW1_5, qW1_6, qW1_7, qW1_8, qW1_9⟩ := rc10 eW1
    obtain ⟨fW1_0, fW1_1, fW1_2, fW1_3, fW1_4, fW1_5, fW1_6, fW1_7, fW1_8, fW1_9⟩ := rf10 eW1
    clear rW1 tW1 eW1
    have xW0 : w.heap.size ≤ w.heap.size := by omega
    have xW1 : w.heap.size ≤ W1.heap.size := by omega
    clear bW0 sW0 bW1 sW1
    have hg := grow_cell W
    go_enter Tryz.func45, Tryz.ntmps45
    go_wp2_with (first | (go_at_call 49; refine Calls.mono (progIn _ _ _ _) ?_; rintro e w1 ⟨(_ | _), rfl, ht, rfl⟩) | (go_at_call 50; refine Calls.mono (progSpan _ _ _ _ _) ?_; rintro e w1 ⟨(_ | _), rfl, ht, hB⟩ <;> ((first | (obtain ⟨g, rfl⟩ := g.next hB) | (obtain ⟨g, rfl⟩ : ∃ g : Grow W, w1 = g.x := ⟨⟨w1, hB⟩, rfl⟩)); clear hB)) | (go_at_call 29; refine Calls.mono (progPoint ⟨_, _, _, _⟩ _) ?_; rintro e w1 ⟨(_ | _), rfl, ht, hB⟩ <;> ((first | (obtain ⟨g, rfl⟩ := g.next hB) | (obtain ⟨g, rfl⟩ : ∃ g : Grow W, w1 = g.x := ⟨⟨w1, hB⟩, rfl⟩)); clear hB)))
    all_goals
      go_ret
      refine BoolB.mk ?_ (by first | exact hBw | exact hBw.trans (g.h.mono hBw.size))
      clear mW0_0_0 mW0_0_1 mW0_0_2 mW0_0_3 mW0_0_4 mW0_0_5 mW0_0_6 mW0_0_7 mW0_0_8 mW0_0_9 qW0_0 qW0_1 qW0_2 qW0_3 qW0_4 qW0_5 qW0_6 qW0_7 qW0_8 qW0_9 fW0_0 fW0_1 fW0_2 fW0_3 fW0_4 fW0_5 fW0_6 fW0_7 fW0_8 fW0_9 qW1_0 qW1_1 qW1_2 qW1_3 qW1_4 qW1_5 qW1_6 qW1_7 qW1_8 qW1_9 fW1_0 fW1_1 fW1_2 fW1_3 fW1_4 fW1_5 fW1_6 fW1_7 fW1_8 fW1_9 hW1 hW hg
      (try unfold Hid at *); simp [Gas.Op.ok, Gas.Op.lot, *]
  by_cases h2 : k = 2
  · subst h2
    clear h1
    obtain ⟨W1, hW1⟩ : ∃ W1, w.alloc (.cells #[.int .i64 2, .int .i64 lg, .int .i64 ly, .int .i64 lt, .int .i64 lw, .int .i64 m, .int .i64 a, .int .i64 b, .int .i64 x, .int .i64 y] 52) = W1 := ⟨_, rfl⟩
    obtain ⟨eW0, bW0, sW0⟩ := boxed hW1
    have yW0_0 : w.heap.size < W1.heap.size := by omega
    obtain ⟨mW0_0_0, mW0_0_1, mW0_0_2, mW0_0_3, mW0_0_4, mW0_0_5, mW0_0_6, mW0_0_7, mW0_0_8, mW0_0_9⟩ := rc10 eW0
    obtain ⟨W, hW⟩ : ∃ W, W1.alloc (.cells #[.int .i64 2, .int .i64 lg, .int .i64 ly, .int .i64 lt, .int .i64 lw, .int .i64 0, .int .i64 a, .int .i64 b, .int .i64 x, .int .i64 y] 52) = W := ⟨_, rfl⟩
    obtain ⟨eW1, bW1, sW1⟩ := boxed hW
    replace eW0 := (bW1.block _ (Array.getElem?_eq_some_iff.1 eW0).1).trans eW0
    have hBw : Below w.heap.size w W := (by have := sW0; have := sW1; exact (bW0.trans (bW1.mono (by omega))))
    obtain ⟨zW0, rW0, tW0⟩ := row_cells eW0
    obtain ⟨qW0_0, qW0_1, qW0_2, qW0_3, qW0_4, qW0_5, qW0_6, qW0_7, qW0_8, qW0_9⟩ := rc10 eW0
    obtain ⟨fW0_0, fW0_1, fW0_2, fW0_3, fW0_4, fW0_5, fW0_6, fW0_7, fW0_8, fW0_9⟩ := rf10 eW0
    clear rW0 tW0 eW0
    obtain ⟨zW1, rW1, tW1⟩ := row_cells eW1
    obtain ⟨qW1_0, qW1_1, qW1_2, qW1_3, qW1_4, qW1_5, qW1_6, qW1_7, qW1_8, qW1_9⟩ := rc10 eW1
    obtain ⟨fW1_0, fW1_1, fW1_2, fW1_3, fW1_4, fW1_5, fW1_6, fW1_7, fW1_8, fW1_9⟩ := rf10 eW1
    clear rW1 tW1 eW1
    have xW0 : w.heap.size ≤ w.heap.size := by omega
    have xW1 : w.heap.size ≤ W1.heap.size := by omega
    clear bW0 sW0 bW1 sW1
    have hg := grow_cell W
    go_enter Tryz.func45, Tryz.ntmps45
    go_wp2_with (first | (go_at_call 49; refine Calls.mono (progIn _ _ _ _) ?_; rintro e w1 ⟨(_ | _), rfl, ht, rfl⟩) | (go_at_call 50; refine Calls.mono (progSpan _ _ _ _ _) ?_; rintro e w1 ⟨(_ | _), rfl, ht, hB⟩ <;> ((first | (obtain ⟨g, rfl⟩ := g.next hB) | (obtain ⟨g, rfl⟩ : ∃ g : Grow W, w1 = g.x := ⟨⟨w1, hB⟩, rfl⟩)); clear hB)) | (go_at_call 29; refine Calls.mono (progPoint ⟨_, _, _, _⟩ _) ?_; rintro e w1 ⟨(_ | _), rfl, ht, hB⟩ <;> ((first | (obtain ⟨g, rfl⟩ := g.next hB) | (obtain ⟨g, rfl⟩ : ∃ g : Grow W, w1 = g.x := ⟨⟨w1, hB⟩, rfl⟩)); clear hB)))
    all_goals
      go_ret
      refine BoolB.mk ?_ (by first | exact hBw | exact hBw.trans (g.h.mono hBw.size))
      clear mW0_0_0 mW0_0_1 mW0_0_2 mW0_0_3 mW0_0_4 mW0_0_5 mW0_0_6 mW0_0_7 mW0_0_8 mW0_0_9 qW0_0 qW0_1 qW0_2 qW0_3 qW0_4 qW0_5 qW0_6 qW0_7 qW0_8 qW0_9 fW0_0 fW0_1 fW0_2 fW0_3 fW0_4 fW0_5 fW0_6 fW0_7 fW0_8 fW0_9 qW1_0 qW1_1 qW1_2 qW1_3 qW1_4 qW1_5 qW1_6 qW1_7 qW1_8 qW1_9 fW1_0 fW1_1 fW1_2 fW1_3 fW1_4 fW1_5 fW1_6 fW1_7 fW1_8 fW1_9 hW1 hW hg
      (try unfold Hid at *); simp [Gas.Op.ok, Gas.Op.lot, *]
  by_cases h3 : k = 3
  · subst h3
    clear h1 h2
    obtain ⟨W1, hW1⟩ : ∃ W1, w.alloc (.cells #[.int .i64 3, .int .i64 lg, .int .i64 ly, .int .i64 lt, .int .i64 lw, .int .i64 m, .int .i64 a, .int .i64 b, .int .i64 x, .int .i64 y] 52) = W1 := ⟨_, rfl⟩
    obtain ⟨eW0, bW0, sW0⟩ := boxed hW1
    have yW0_0 : w.heap.size < W1.heap.size := by omega
    obtain ⟨mW0_0_0, mW0_0_1, mW0_0_2, mW0_0_3, mW0_0_4, mW0_0_5, mW0_0_6, mW0_0_7, mW0_0_8, mW0_0_9⟩ := rc10 eW0
    obtain ⟨W, hW⟩ : ∃ W, W1.alloc (.cells #[.int .i64 3, .int .i64 lg, .int .i64 ly, .int .i64 lt, .int .i64 lw, .int .i64 m, .int .i64 0, .int .i64 0, .int .i64 0, .int .i64 0] 52) = W := ⟨_, rfl⟩
    obtain ⟨eW1, bW1, sW1⟩ := boxed hW
    replace eW0 := (bW1.block _ (Array.getElem?_eq_some_iff.1 eW0).1).trans eW0
    have hBw : Below w.heap.size w W := (by have := sW0; have := sW1; exact (bW0.trans (bW1.mono (by omega))))
    obtain ⟨zW0, rW0, tW0⟩ := row_cells eW0
    obtain ⟨qW0_0, qW0_1, qW0_2, qW0_3, qW0_4, qW0_5, qW0_6, qW0_7, qW0_8, qW0_9⟩ := rc10 eW0
    obtain ⟨fW0_0, fW0_1, fW0_2, fW0_3, fW0_4, fW0_5, fW0_6, fW0_7, fW0_8, fW0_9⟩ := rf10 eW0
    clear rW0 tW0 eW0
    obtain ⟨zW1, rW1, tW1⟩ := row_cells eW1
    obtain ⟨qW1_0, qW1_1, qW1_2, qW1_3, qW1_4, qW1_5, qW1_6, qW1_7, qW1_8, qW1_9⟩ := rc10 eW1
    obtain ⟨fW1_0, fW1_1, fW1_2, fW1_3, fW1_4, fW1_5, fW1_6, fW1_7, fW1_8, fW1_9⟩ := rf10 eW1
    clear rW1 tW1 eW1
    have xW0 : w.heap.size ≤ w.heap.size := by omega
    have xW1 : w.heap.size ≤ W1.heap.size := by omega
    clear bW0 sW0 bW1 sW1
    have hg := grow_cell W
    replace hW := Lib.hid hW
    go_enter Tryz.func45, Tryz.ntmps45
    go_wp2_with (go_at_call 50; (try rw [hW.out]); refine Calls.mono (progSpan _ _ _ _ _) ?_; rintro e w1 ⟨(_ | _), rfl, ht, hB⟩ <;> ((first | (obtain ⟨g, rfl⟩ := g.next hB) | (obtain ⟨g, rfl⟩ : ∃ g : Grow W, w1 = g.x := ⟨⟨w1, hB⟩, rfl⟩)); clear hB))
    all_goals
      go_ret
      refine BoolB.mk ?_ (by first | exact hBw | exact hBw.trans (g.h.mono hBw.size))
      clear mW0_0_0 mW0_0_1 mW0_0_2 mW0_0_3 mW0_0_4 mW0_0_5 mW0_0_6 mW0_0_7 mW0_0_8 mW0_0_9 qW0_0 qW0_1 qW0_2 qW0_3 qW0_4 qW0_5 qW0_6 qW0_7 qW0_8 qW0_9 fW0_0 fW0_1 fW0_2 fW0_3 fW0_4 fW0_5 fW0_6 fW0_7 fW0_8 fW0_9 qW1_0 qW1_1 qW1_2 qW1_3 qW1_4 qW1_5 qW1_6 qW1_7 qW1_8 qW1_9 fW1_0 fW1_1 fW1_2 fW1_3 fW1_4 fW1_5 fW1_6 fW1_7 fW1_8 fW1_9 hW1 hW hg
      (try unfold Hid at *); simp [Gas.Op.ok, Gas.Op.lot, *]
  · go_enter Tryz.func45, Tryz.ntmps45
    go_wp2_with (fail)
    go_ret
    exact BoolB.mk (by simp [Gas.Op.ok, h1, h2, h3]) (below_al (below_al (Below.refl _ _) _) _)
end Go.Proofs.YthbkcoijafehgaaGreat.G
set_option linter.unusedVariables false
set_option linter.unusedSimpArgs false
namespace Go.Proofs.YthbkcoijafehgaaGreat.G
open Go.RowKit Go.Sd Gas
def rul1 (c : Cav) (s : St) : Bool := decide (force c s.low < c.least * c.vhi * 10000000)
def rul2 (c : Cav) (s : St) : Bool := decide (force c s.high > c.most * c.vlo * 10000000)
theorem BoolB.lit {b t : Bool} {w w' : World} {e : Ending} (h : BoolB b w e w') (hb : b = t) : e = .returned (.bool t) ∧ Below w.heap.size w w' := by
  obtain ⟨t', rfl, ht, hB⟩ := h
  exact ⟨by rw [← hb, ← ht.out], hB⟩
/-- The tests of a state, in their order. -/
def rulAt (c : Cav) (s : St) (k : Nat) : Bool := match k with
  | 0 => rul1 c s
  | 1 => rul2 c s
  | 2 => thin c s
  | _ => rich c s
def rulTo (c : Cav) (s : St) (k : Nat) : Prop := ∀ j, j < k → rulAt c s j = false
theorem rulTo.next {c : Cav} {s : St} {k : Nat} (h : rulTo c s k) (h1 : rulAt c s k = false) : rulTo c s (k + 1) := by
  intro j hj
  by_cases e : j = k
  · rw [e]; exact h1
  · exact h j (by omega)
end Go.Proofs.YthbkcoijafehgaaGreat.G
set_option linter.unusedVariables false
set_option linter.unusedSimpArgs false
namespace Gas
/-- The number at a place of a list; 0 beyond its end. -/
def at0 (l : List Int) (k : Nat) : Int := l.getD k 0
end Gas
namespace Go.Proofs.YthbkcoijafehgaaGreat.G
open Go.RowKit Go.Sd
/-- A slice that reads as a list of whole numbers. -/
def IntsAt (w : World) (v : Value) (xs : List Int) : Prop :=
  ∃ a cap, v = .slice a xs.length cap ∧ xs.length ≤ maxLen ∧
    (0 < xs.length → ∃ b off, a = some ⟨b, off, none⟩ ∧ b < w.heap.size ∧ ∀ k, k < xs.length → w.cell? ⟨b, off + k, none⟩ = some (.int .i64 (Gas.at0 xs k)))
theorem kept_cell {w w' : World} (hb : Below w.heap.size w w') {b o : Nat} {v : Value} (h : w.cell? ⟨b, o, none⟩ = some v) : w'.cell? ⟨b, o, none⟩ = some v :=
  (hb.cell (p := ⟨b, o, none⟩) (World.block_lt_of_cell? w ⟨b, o, none⟩ h)).trans h
theorem IntsAt.mono {w w' : World} {v : Value} {xs : List Int} (h : IntsAt w v xs) (hb : Below w.heap.size w w') : IntsAt w' v xs := by
  obtain ⟨a, cap, rfl, hm, hc⟩ := h
  refine ⟨a, cap, rfl, hm, fun h0 => ?_⟩
  obtain ⟨b, off, rfl, hlt, hk⟩ := hc h0
  exact ⟨b, off, rfl, Nat.lt_of_lt_of_le hlt hb.size, fun k hk' => kept_cell hb (hk k hk')⟩
theorem infoInt : (Tryz.prog.info? 3).map (fun i => (i.zero, i.size, i.bytes)) = some (some (.int .i64 0), 1, 8) := by kernel_rfl
/-- A slice of one's own, from block B on. -/
def OwnInts (B : Nat) (w : World) (v : Value) (xs : List Int) : Prop := w.ownsRow B 3 1 v xs.length (xs.map (Value.int .i64))
theorem OwnInts.nil (B : Nat) (w : World) : OwnInts B w (.slice none 0 0) [] := World.ownsRow_nil w B _ 1
theorem OwnInts.lt {B : Nat} {w : World} {v : Value} {xs : List Int} (h : OwnInts B w v xs) : ∀ k, v.ownBlock = some k → B ≤ k ∧ k < w.heap.size := World.ownsRow.lt h
theorem OwnInts.kept {B : Nat} {w w' : World} {row : Option Nat} {v : Value} {xs : List Int} (h : OwnInts B w v xs) (hg : w.grownBy w' row) (hne : v.ownBlock = none ∨ v.ownBlock ≠ row) : OwnInts B w' v xs := World.ownsRow.kept h hg hne
theorem grown_of_below {w w' : World} (h : Below w.heap.size w w') : w.grownBy w' none :=
  ⟨h.os, h.tape, h.output, h.size, fun k hk _ => h.block k hk⟩
theorem OwnInts.mono {B : Nat} {w w' : World} {v : Value} {xs : List Int} (h : OwnInts B w v xs) (hb : Below w.heap.size w w') : OwnInts B w' v xs :=
  h.kept (grown_of_below hb) (by cases v.ownBlock <;> simp)
theorem OwnInts.from {B B' : Nat} {w : World} {v : Value} {xs : List Int} (h : OwnInts B w v xs) (hB : B' ≤ B) : OwnInts B' w v xs := by
  obtain ⟨h1, h2⟩ := h
  refine ⟨h1, ?_⟩
  rcases h2 with h2 | ⟨g, cap, cur, hv, hg, r⟩
  · exact .inl h2
  · exact .inr ⟨g, cap, cur, hv, by omega, r⟩
theorem OwnInts.at {B : Nat} {w : World} {v : Value} {xs : List Int} (h : OwnInts B w v xs) : IntsAt w v xs := by
  obtain ⟨_, h2⟩ := h
  rcases h2 with ⟨rfl, h0⟩ | ⟨g, cap, cur, rfl, hB, hg, hn, hm, hs, ht⟩
  · refine ⟨none, 0, by rw [h0], by simp [h0], fun h => by omega⟩
  · refine ⟨some ⟨g, 0, none⟩, cap, rfl, by omega, fun _ => ⟨g, 0, rfl, (Array.getElem?_eq_some_iff.1 hg).1, fun k hk => ?_⟩⟩
    rw [Nat.zero_add, cell_of_row w g k cur _ (0, 0) hg]
    have h1 : (cur.toList.take (xs.length * 1))[k]? = (xs.map (Value.int .i64))[k]? := by rw [ht]
    rw [List.getElem?_take, if_pos (by omega)] at h1
    simp only [List.getElem?_map, List.getElem?_eq_getElem hk, Option.map_some] at h1
    rw [← Array.getElem?_toList, h1]
    simp [Gas.at0, hk]
/-- One number more. -/
theorem own_more {B : Nat} {w : World} {v : Value} {xs : List Int} {y : Int} (h : w.ownsRow B 3 1 v (xs.length + 1) (xs.map (Value.int .i64) ++ [.int .i64 y])) : OwnInts B w v (xs ++ [y]) := by
  unfold OwnInts
  simpa using h
theorem grownBy_trans {a b c : World} {row : Option Nat} (h : a.grownBy b row) (k : b.grownBy c row) : a.grownBy c row :=
  ⟨k.os.trans h.os, k.tape.trans h.tape, k.output.trans h.output, Nat.le_trans h.size k.size, fun i hi hne => (k.block i (Nat.lt_of_lt_of_le hi h.size) hne).trans (h.block i hi hne)⟩
end Go.Proofs.YthbkcoijafehgaaGreat.G
namespace Gas
/-- The span of some numbers. -/
def wideStep (s : Int × Int) (n : Int) : Int × Int := (min s.1 n, max s.2 n)
def wideL : List Int → Int × Int
  | [] => (0, 0)
  | x :: r => r.foldl wideStep (x, x)
theorem wideL_snoc {xs : List Int} (n : Int) (h : xs ≠ []) : wideL (xs ++ [n]) = wideStep (wideL xs) n := by
  cases xs with
  | nil => exact absurd rfl h
  | cons x r => simp [wideL, List.foldl_append]
theorem take_at0 (xs : List Int) (k : Nat) (h : k < xs.length) : xs.take (k + 1) = xs.take k ++ [at0 xs k] := by
  rw [List.take_succ_eq_append_getElem h]; simp [at0, h]
theorem wide_next (xs : List Int) (k : Nat) (h : k < xs.length) : wideL (xs.take (k + 1)) = if k = 0 then (at0 xs k, at0 xs k) else wideStep (wideL (xs.take k)) (at0 xs k) := by
  rw [take_at0 xs k h]
  split
  · rename_i h0; subst h0; simp [wideL]
  · rw [wideL_snoc]
    intro h1
    have := congrArg List.length h1
    rw [List.length_take, List.length_nil] at this
    omega
/-- What the span of some numbers is: both ends are among them, and all lie in between. -/
theorem wideL_spec : ∀ (xs : List Int), xs ≠ [] → (wideL xs).1 ∈ xs ∧ (wideL xs).2 ∈ xs ∧ ∀ x ∈ xs, (wideL xs).1 ≤ x ∧ x ≤ (wideL xs).2 := by
  intro xs h
  cases xs with
  | nil => exact absurd rfl h
  | cons x r =>
    suffices hs : ∀ (r : List Int) (a b : Int) (ys : List Int), a ∈ ys → b ∈ ys → (∀ y ∈ ys, a ≤ y ∧ y ≤ b) →
        (r.foldl wideStep (a, b)).1 ∈ ys ++ r ∧ (r.foldl wideStep (a, b)).2 ∈ ys ++ r ∧ ∀ y ∈ ys ++ r, (r.foldl wideStep (a, b)).1 ≤ y ∧ y ≤ (r.foldl wideStep (a, b)).2 by
      have := hs r x x [x] (by simp) (by simp) (by simp)
      simpa [wideL] using this
    intro r
    induction r with
    | nil => intro a b ys ha hb hy; simpa using ⟨ha, hb, hy⟩
    | cons n r ih =>
      intro a b ys ha hb hy
      have := ih (min a n) (max b n) (ys ++ [n]) (by simp only [Int.min_def]; split <;> simp [ha]) (by simp only [Int.max_def]; split <;> simp [hb]) (by
        intro y hy'
        rcases List.mem_append.1 hy' with h | h
        · have := hy y h; omega
        · have : y = n := by simpa using h
          have := (hy a ha); omega)
      simpa [wideStep] using this
theorem wide_eq {xs : List Int} {lo hi : Int} (h1 : lo ∈ xs) (h2 : hi ∈ xs) (h : ∀ x ∈ xs, lo ≤ x ∧ x ≤ hi) : wideL xs = (lo, hi) := by
  have hne : xs ≠ [] := by rintro rfl; cases h1
  obtain ⟨a, b, c⟩ := wideL_spec xs hne
  have a1 := h _ a; have b1 := h _ b; have c1 := c _ h1; have c2 := c _ h2
  exact Prod.ext (by simp only; omega) (by simp only; omega)
end Gas
namespace Go.Proofs.YthbkcoijafehgaaGreat.G
open Go.RowKit Go.Sd Gas
set_option maxRecDepth 100000 in
set_option maxHeartbeats 2000000 in
theorem progWide (lv : Value) (xs : List Int) (w : World) (hx : IntsAt w lv xs) :
    Calls Tryz.prog 107 #[lv] w fun e w' => e = .returned (.agg #[.int .i64 (wideL xs).1, .int .i64 (wideL xs).2]) ∧ Below w.heap.size w w' := by
  obtain ⟨a, cap, rfl, hm, hc⟩ := hx
  unfold maxLen at hm
  have hm' : xs.length ≤ 9223372036854775807 := by omega
  obtain ⟨W, hW⟩ : ∃ W, w.alloc (.cells #[.int .i64 0, .int .i64 0] 23) = W := ⟨_, rfl⟩
  obtain ⟨e0, b0, s0⟩ := boxed hW
  obtain ⟨z0, r0, t0⟩ := row_cells e0
  have q0 := r0 0
  have q1 := r0 1
  have f0 := t0 0
  have f1 := t0 1
  simp only [List.getElem?_toArray, List.getElem?_cons_zero, List.getElem?_cons_succ] at q0 q1
  have hcW : 0 < xs.length → ∃ b off, a = some ⟨b, off, none⟩ ∧ b < W.heap.size ∧ ∀ k, k < xs.length → W.cell? ⟨b, off + k, none⟩ = some (.int .i64 (at0 xs k)) := fun h => by
    obtain ⟨b, off, h1, h2, h3⟩ := hc h
    exact ⟨b, off, h1, Nat.lt_of_lt_of_le h2 b0.size, fun k hk => kept_cell b0 (h3 k hk)⟩
  replace hcW := Lib.hid hcW
  clear hc e0 r0 t0 s0
  go_enter Tryz.func107, Tryz.ntmps107
  go_wp2
  go_loopw [4, 5, 8] (fun _ _ i wr => ∃ k : Nat, k ≤ xs.length ∧ i = .int .i64 k ∧ wr = W.alloc (.cells #[.int .i64 (wideL (xs.take k)).1, .int .i64 (wideL (xs.take k)).2] 23)) (fun _ _ i _ => xs.length - (intOf i).toNat)
  case atStart => exact ⟨0, Nat.zero_le _, rfl, rfl⟩
  case round =>
    obtain ⟨k, hk, rfl, rfl⟩ := hrel
    by_cases hlt : k < xs.length
    · obtain ⟨b, off, rfl, hb, hcell⟩ := hcW.out (by omega)
      have c0 := hcell k hlt
      clear hcell
      have hki : (k : Int) < (xs.length : Int) := by omega
      have hn := Lib.hid (wide_next xs k hlt)
      generalize at0 xs k = n at *
      obtain ⟨s1, hs1⟩ : ∃ s1, wideL (xs.take k) = s1 := ⟨_, rfl⟩
      rw [hs1] at hn ⊢
      clear hs1
      by_cases h0 : k = 0
      · subst h0
        have hn2 : wideL (xs.take (0 + 1)) = (n, n) := by have := hn.out; simpa using this
        replace hn2 := Lib.hid hn2
        clear hn
        rw [Nat.add_zero] at c0
        go_wp2
        exact ⟨⟨0 + 1, by omega, by go_num, by rw [hn2.out]⟩, by simp [intOf]; omega⟩
      · have h0' : ¬ (k : Int) = 0 := by omega
        have hn2 : wideL (xs.take (k + 1)) = wideStep s1 n := by have := hn.out; rwa [if_neg h0] at this
        replace hn2 := Lib.hid hn2
        replace h0 := Lib.hid h0
        clear hn
        have e1 : (if n < s1.1 then n else s1.1) = min s1.1 n := by rw [Int.min_def]; split <;> split <;> omega
        have e2 : (if s1.2 < n then n else s1.2) = max s1.2 n := by rw [Int.max_def]; split <;> split <;> omega
        go_wp2
        exact ⟨⟨k + 1, by omega, by go_num, by rw [hn2.out]; rfl⟩, by simp [intOf]; omega⟩
    · obtain rfl : k = xs.length := by omega
      rw [List.take_length]
      go_wp2
      refine bodyPost_ret (v := .agg #[.int .i64 (wideL xs).1, .int .i64 (wideL xs).2]) (by simp [results, Tryz.results107, go_sem, *]) rfl ⟨rfl, ?_⟩
      refine Below.alloc ?_ (by simp; exact b0.size) _
      repeat' (first | (with_reducible exact b0) | (exact Nat.le_refl _) | refine Below.setCell ?_ ?_ _)
end Go.Proofs.YthbkcoijafehgaaGreat.G
