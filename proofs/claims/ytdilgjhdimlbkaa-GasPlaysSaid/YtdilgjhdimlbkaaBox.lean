/- Gas: the walk of (*box).state: the state of a box. -/
import Derived.Test.YtdilgjhdimlbkaaOwn
import Derived.Test.YtdilgjhdimlbkaaPut
set_option linter.unusedVariables false
set_option linter.unusedSimpArgs false
namespace Gas
/-- The narrowest state that has some contents. -/
def boxOf (l : List Pt) : St :=
  ⟨(wideL (l.map (·.g))).1, (wideL (l.map (·.g))).2, (wideL (l.map (·.y))).1, (wideL (l.map (·.y))).2, (wideL (l.map (·.t))).1, (wideL (l.map (·.t))).2, (wideL (l.map (·.w))).1, (wideL (l.map (·.w))).2⟩
end Gas
namespace Go.Proofs.Ytdilgjhdimlbkaa
open Go.RowKit Go.Sd Gas

set_option maxRecDepth 100000 in
set_option maxHeartbeats 2000000 in
theorem progBoxState {B bb : Nat} {v : Nat → Value} {l : List Pt} (w : World) (hb : BoxV B bb w v l) :
    Calls Try.prog 51 #[.pointer (some ⟨bb, 0, none⟩)] w fun e w' => e = .returned (stV (boxOf l)) ∧ Below w.heap.size w w' := by
  have hbbw := (Array.getElem?_eq_some_iff.1 hb.at').1
  obtain ⟨W, hW⟩ : ∃ W, w.alloc (.cells #[.int .i64 0, .int .i64 0, .int .i64 0, .int .i64 0, .int .i64 0, .int .i64 0, .int .i64 0, .int .i64 0] 48) = W := ⟨_, rfl⟩
  obtain ⟨eW0, bW0, sW0⟩ := boxed hW
  have hBw : Below w.heap.size w W := bW0
  obtain ⟨zW0, rW0, tW0⟩ := row_cells eW0
  obtain ⟨qW0_0, qW0_1, qW0_2, qW0_3, qW0_4, qW0_5, qW0_6, qW0_7⟩ := rc8 eW0
  obtain ⟨fW0_0, fW0_1, fW0_2, fW0_3, fW0_4, fW0_5, fW0_6, fW0_7⟩ := rf8 eW0
  clear rW0 tW0 eW0
  have xW0 : w.heap.size ≤ w.heap.size := by omega
  clear bW0 sW0
  have hbbW : bb < W.heap.size := Nat.lt_of_lt_of_le hbbw hBw.size
  have c := (row_cells ((hBw.block _ hbbw).trans hb.at')).2.1
  have c0 : W.cell? ⟨bb, 0, none⟩ = some (v 0) := c 0
  have c1 : W.cell? ⟨bb, 1, none⟩ = some (v 1) := c 1
  have c2 : W.cell? ⟨bb, 2, none⟩ = some (v 2) := c 2
  have c3 : W.cell? ⟨bb, 3, none⟩ = some (v 3) := c 3
  clear c
  have hO : boxOf l = ⟨(wideL (coord 0 l)).1, (wideL (coord 0 l)).2, (wideL (coord 1 l)).1, (wideL (coord 1 l)).2, (wideL (coord 2 l)).1, (wideL (coord 2 l)).2, (wideL (coord 3 l)).1, (wideL (coord 3 l)).2⟩ := rfl
  have k0 := Lib.hid (fun g : Grow W => progWide (v 0) (coord 0 l) g.x (((hb.own 0 (by decide)).at.mono hBw).mono g.h))
  have k1 := Lib.hid (fun g : Grow W => progWide (v 1) (coord 1 l) g.x (((hb.own 1 (by decide)).at.mono hBw).mono g.h))
  have k2 := Lib.hid (fun g : Grow W => progWide (v 2) (coord 2 l) g.x (((hb.own 2 (by decide)).at.mono hBw).mono g.h))
  have k3 := Lib.hid (fun g : Grow W => progWide (v 3) (coord 3 l) g.x (((hb.own 3 (by decide)).at.mono hBw).mono g.h))
  obtain ⟨v0, e0⟩ : ∃ x, v 0 = x := ⟨_, rfl⟩
  obtain ⟨v1, e1⟩ : ∃ x, v 1 = x := ⟨_, rfl⟩
  obtain ⟨v2, e2⟩ : ∃ x, v 2 = x := ⟨_, rfl⟩
  obtain ⟨v3, e3⟩ : ∃ x, v 3 = x := ⟨_, rfl⟩
  rw [e0] at c0 k0
  rw [e1] at c1 k1
  rw [e2] at c2 k2
  rw [e3] at c3 k3
  clear e0 e1 e2 e3 hb
  replace hO := Lib.hid hO
  generalize wideL (coord 0 l) = s0 at *
  generalize wideL (coord 1 l) = s1 at *
  generalize wideL (coord 2 l) = s2 at *
  generalize wideL (coord 3 l) = s3 at *
  have hg := grow_cell W
  have hf := grow_frozen W
  go_enter Try.func51, Try.ntmps51
  go_wp2
  refine wp_grow_tail 21 (by kernel_rfl) (by kernel_rfl) ?_
  simp only [List.take_succ_cons, List.take_zero, List.drop_succ_cons, List.drop_zero]
  repeat (go_big_quiet_step ((first | (go_at_call 54; with_reducible exact Calls.grow (k0.out _)) | (go_at_call 54; with_reducible exact Calls.grow (k1.out _)) | (go_at_call 54; with_reducible exact Calls.grow (k2.out _)) | (go_at_call 54; with_reducible exact Calls.grow (k3.out _)))))
  refine wpQuiet_nil ?_
  rintro _ ⟨g, rfl⟩
  go_wp2
  refine bodyPost_ret (v := .agg #[.int .i64 s0.1, .int .i64 s0.2, .int .i64 s1.1, .int .i64 s1.2, .int .i64 s2.1, .int .i64 s2.2, .int .i64 s3.1, .int .i64 s3.2]) (by simp [results, Try.results51, go_sem, hg, hf, zW0, qW0_0, fW0_0, qW0_1, fW0_1, qW0_2, fW0_2, qW0_3, fW0_3, qW0_4, fW0_4, qW0_5, fW0_5, qW0_6, fW0_6, qW0_7, fW0_7]) rfl ⟨by rw [hO.out], ?_⟩
  have hfin : Below w.heap.size w g.x := hBw.trans (g.h.mono hBw.size)
  repeat' (first | (with_reducible exact hfin) | (exact Nat.le_refl _) | refine Below.setCell ?_ ?_ _)
end Go.Proofs.Ytdilgjhdimlbkaa
