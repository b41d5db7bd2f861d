/- Laws and walks: Bkr. -/
import Derived.Test.YtpcamocnlnlgiaaGreatK17
set_option maxRecDepth 100000
set_option maxHeartbeats 16000000
set_option linter.unusedVariables false
set_option linter.unusedSimpArgs false
namespace Go.Proofs.YtpcamocnlnlgiaaGreat.B
open Go.RowKit Go.Sd Wl Bk L
attribute [local go_sem] Oper.semAt_some
structure HourOk (f : Fx) (n : Nat) (g x : Int) : Prop where
 hn : n < f.hs.length
 nn : n < f.ns.length
 hy : hrAt f.hs n = ⟨100, 100, max 0 x, max 0 (-x)⟩
 ns : NomsOk f.ns
 am : (nmAt f.ns n).am = x
 fit : Fit f.c g x
 act : activeB f.c n = true
abbrev flO (a b c : Value) : Obj := .cells #[a, b, c, .slice none 0 0] 69
abbrev flV (a b c : Value) : Value := .agg #[a, b, c, .slice none 0 0]
abbrev nilS : Value := .slice none 0 0
def StepI (w0 : World) (rb : Nat) (f : Fx) (n : Nat) (gb go gc : Nat) (g : Int) (bb bo bc : Nat) (x : Int) : Nat → World → Prop
 | 3, W => ∃ b u, RnAt w0 rb W f n gb go gc g bb bo bc b u nilS nilS (some x) none none
 | 4, W => ∃ b u v, RnAt w0 rb W f n gb go gc g bb bo bc b u v nilS (some x) (some x) none
 | 5, W => ∃ b u v z, RnAt w0 rb W f n gb go gc g bb bo bc b u v z (some x) (some x) (some x)
 | 6, W => ∃ b u v z, RnAt w0 rb W f n gb go gc (g + x) bb bo bc b u v z (some x) (some x) (some x)
 | 7, W => ∃ b u v z, RnAt w0 rb W f n gb go gc (g + x) bb bo bc b u v z (some x) (some x) (some x)
 | _, W => ∃ b, RnAt w0 rb W f n gb go gc g bb bo bc b nilS nilS nilS none none none
theorem idx7_0 (w : World) (v0 v1 v2 v3 v4 v5 v6 : Value) : (Instr.index 166 (.agg #[v0, v1, v2, v3, v4, v5, v6]) (.int .i64 0)).run Tryz.prog w = .ok v0 w := by kernel_rfl
theorem idx7_1 (w : World) (v0 v1 v2 v3 v4 v5 v6 : Value) : (Instr.index 166 (.agg #[v0, v1, v2, v3, v4, v5, v6]) (.int .i64 1)).run Tryz.prog w = .ok v1 w := by kernel_rfl
theorem idx7_2 (w : World) (v0 v1 v2 v3 v4 v5 v6 : Value) : (Instr.index 166 (.agg #[v0, v1, v2, v3, v4, v5, v6]) (.int .i64 2)).run Tryz.prog w = .ok v2 w := by kernel_rfl
theorem idx7_3 (w : World) (v0 v1 v2 v3 v4 v5 v6 : Value) : (Instr.index 166 (.agg #[v0, v1, v2, v3, v4, v5, v6]) (.int .i64 3)).run Tryz.prog w = .ok v3 w := by kernel_rfl
theorem idx7_4 (w : World) (v0 v1 v2 v3 v4 v5 v6 : Value) : (Instr.index 166 (.agg #[v0, v1, v2, v3, v4, v5, v6]) (.int .i64 4)).run Tryz.prog w = .ok v4 w := by kernel_rfl
theorem idx7_5 (w : World) (v0 v1 v2 v3 v4 v5 v6 : Value) : (Instr.index 166 (.agg #[v0, v1, v2, v3, v4, v5, v6]) (.int .i64 5)).run Tryz.prog w = .ok v5 w := by kernel_rfl
theorem idx7_6 (w : World) (v0 v1 v2 v3 v4 v5 v6 : Value) : (Instr.index 166 (.agg #[v0, v1, v2, v3, v4, v5, v6]) (.int .i64 6)).run Tryz.prog w = .ok v6 w := by kernel_rfl
attribute [local go_sem] idx7_0 idx7_1 idx7_2 idx7_3 idx7_4 idx7_5 idx7_6
theorem set_kept4B (w : World) (n : Nat) (b0 b1 b2 b3 : Value) : Kept (fun k => k ≠ n) w ((((w.setCell ⟨n, 0, none⟩ b0).setCell ⟨n, 1, none⟩ b1).setCell ⟨n, 2, none⟩ b2).setCell ⟨n, 3, none⟩ b3) := by
 refine ((((Kept.refl _ _).setCell (p := ⟨n, 0, none⟩) ?_ _).setCell (p := ⟨n, 1, none⟩) ?_ _).setCell (p := ⟨n, 2, none⟩) ?_ _).setCell (p := ⟨n, 3, none⟩) ?_ _
 all_goals exact .inl fun h => h rfl
theorem bookStep (f : Fx) (n : Nat) (g x b : Int) (B : Nat) (gv bv : Value) (w : World) (h : FxAt w f) (ok : HourOk f n g x) (og : One B w gv g) (ob : One B w bv b) :
    Calls Tryz.prog 48 #[stV f, xsV n gv bv, dyV f.hv f.nv nilS] w fun e w' => ∃ gv' bv' b' ua un va vn z, e = .returned (.tuple #[xsV (n + 1) gv' bv', flV (.slice ua 1 un) (.slice va 1 vn) z]) ∧ One w.heap.size w' gv' (g + x) ∧ One w.heap.size w' bv' b' ∧ One w.heap.size w' z x ∧ Below w.heap.size w w' := by
 obtain ⟨cb, co, cc, hcv, -⟩ := con1 h.cons
 obtain ⟨c, rv, cv, hv, nv, sp, inn, out, hs, ns⟩ := f
 obtain ⟨ha, hcap, hhv, hhm, -⟩ := id h.hrs
 obtain ⟨na, ncap, hnv, hnm, -⟩ := id h.nms
 dsimp only at hcv hhv hnv hhm hnm
 subst hcv hhv hnv
 obtain ⟨g0, go0, gc0, rfl, -⟩ := One.form og
 obtain ⟨b0, bo0, bc0, rfl, -⟩ := One.form ob
 obtain ⟨W1, hW1⟩ : ∃ W, w.alloc (stO1 sp inn out (.slice (some ⟨cb, co, none⟩) 1 cc)) = W := ⟨_, rfl⟩
 obtain ⟨e1, k1, z1⟩ := boxedB hW1
 obtain ⟨W2, hW2⟩ : ∃ W, W1.alloc (xsO n (.slice (some ⟨g0, go0, none⟩) 1 gc0) (.slice (some ⟨b0, bo0, none⟩) 1 bc0)) = W := ⟨_, rfl⟩
 obtain ⟨e2, k2, z2⟩ := boxedB hW2
 obtain ⟨W3, hW3⟩ : ∃ W, W2.alloc (dyO (.slice ha hs.length hcap) (.slice na ns.length ncap) nilS) = W := ⟨_, rfl⟩
 obtain ⟨e3, k3, z3⟩ := boxedB hW3
 obtain ⟨W4, hW4⟩ : ∃ W, W3.alloc (xsO 0 nilS nilS) = W := ⟨_, rfl⟩
 obtain ⟨e4, k4, z4⟩ := boxedB hW4
 obtain ⟨X, hX⟩ : ∃ W, W4.alloc (flO nilS nilS nilS) = W := ⟨_, rfl⟩
 obtain ⟨e5, k5, z5⟩ := boxedB hX
 have r4 := kept_block k5 e4
 have r3 := kept_block k5 (kept_block k4 e3)
 have r2 := kept_block k5 (kept_block k4 (kept_block k3 e2))
 have r1 := kept_block k5 (kept_block k4 (kept_block k3 (kept_block k2 e1)))
 have hBX := below_tr (below_tr (below_tr (below_tr k1 k2) k3) k4) k5
 obtain ⟨y0, y1, y2, y3, y4, y5⟩ := row6 r2
 have oG : Hid (∀ Y, Below X.heap.size X Y → One B Y (.slice (some ⟨g0, go0, none⟩) 1 gc0) g) := Lib.hid fun Y h => QAt.mono (QAt.mono og hBX) h
 have oB : Hid (∀ Y, Below X.heap.size X Y → One B Y (.slice (some ⟨b0, bo0, none⟩) 1 bc0) b) := Lib.hid fun Y h => QAt.mono (QAt.mono ob hBX) h
 have zs := Lib.hid (show w.heap.size < W1.heap.size ∧ W1.heap.size < W2.heap.size ∧ W2.heap.size < W3.heap.size ∧ W3.heap.size < W4.heap.size ∧ W4.heap.size < X.heap.size from ⟨z1, z2, z3, z4, z5⟩)
 have r1h := Lib.hid r1
 have r2h := Lib.hid r2
 have r3h := Lib.hid r3
 have r4h := Lib.hid r4
 have r5h := Lib.hid e5
 have hBh := Lib.hid hBX
 have hfx := Lib.hid h
 have hgg : 0 ≤ g ∧ g ≤ 100000000 := by
  have h1 := ok.fit.g0
  have h2 := ok.fit.gs
  have h3 := (Con.ok_head h.ok).2.1
  dsimp only at h2 h3
  omega
 clear e1 e2 e3 e4 e5 k1 k2 k3 k4 k5 r1 r2 r3 r4 hBX h og ob
 go_enter Tryz.func48, Tryz.ntmps48
 go_wp2_with (fail)
 obtain ⟨Y0, hY0⟩ : ∃ Y, X.drew = Y := ⟨_, rfl⟩
 have hbY0 : Below X.heap.size X Y0 := by rw [← hY0]; exact (Below.refl _ _).drew
 have zY0 := hbY0.size
 refine wp_region_noPanic ?_
 refine wp_region_any (by kernel_rfl) ?_
 show wpAny _ _ _ _ (10 + 5) #[false, false, false, false, false, false, false, false, false, false, false, false, false, false, false] _ X.drew
 rw [hY0]
 refine any_of_HL2 (n := 10) (S := Below X.heap.size X) (f := 10) rfl ?_
 refine wpAnyHL_takeD (pre := []) (i := 0) (v := .pointer (some ⟨W1.heap.size, 1, none⟩)) 11 rfl rfl (by kernel_rfl) (by kernel_rfl) (fun _ _ _ h => h) (Or.inl ⟨by rfl, ?_⟩) hbY0 ?_
 · intro w' hSw; (have m1 := kept_cell hSw y1); (have m4 := kept_cell hSw y4); (have m5 := kept_cell hSw y5); go_simp
 try simp only [Act.put, List.getElem_toArray, List.getElem_cons_succ, List.getElem_cons_zero, List.setIfInBounds_toArray, List.set_cons_zero, List.set_cons_succ]
 refine wpAnyHL_takeD (pre := []) (i := 1) (v := .slice (some ⟨g0, go0, none⟩) 1 gc0) 12 rfl rfl (by kernel_rfl) (by kernel_rfl) (fun _ _ _ h => h) (Or.inl ⟨by rfl, ?_⟩) hbY0 ?_
 · intro w' hSw; (have m1 := kept_cell hSw y1); (have m4 := kept_cell hSw y4); (have m5 := kept_cell hSw y5); go_simp
 try simp only [Act.put, List.getElem_toArray, List.getElem_cons_succ, List.getElem_cons_zero, List.setIfInBounds_toArray, List.set_cons_zero, List.set_cons_succ]
 refine wpAnyHL_takeD (pre := []) (i := 3) (v := .pointer (some ⟨W1.heap.size, 4, none⟩)) 14 rfl rfl (by kernel_rfl) (by kernel_rfl) (fun _ _ _ h => h) (Or.inl ⟨by rfl, ?_⟩) hbY0 ?_
 · intro w' hSw; (have m1 := kept_cell hSw y1); (have m4 := kept_cell hSw y4); (have m5 := kept_cell hSw y5); go_simp
 try simp only [Act.put, List.getElem_toArray, List.getElem_cons_succ, List.getElem_cons_zero, List.setIfInBounds_toArray, List.set_cons_zero, List.set_cons_succ]
 refine wpAnyHL_takeD (pre := []) (i := 4) (v := .slice (some ⟨b0, bo0, none⟩) 1 bc0) 15 rfl rfl (by kernel_rfl) (by kernel_rfl) (fun _ _ _ h => h) (Or.inl ⟨by rfl, ?_⟩) hbY0 ?_
 · intro w' hSw; (have m1 := kept_cell hSw y1); (have m4 := kept_cell hSw y4); (have m5 := kept_cell hSw y5); go_simp
 try simp only [Act.put, List.getElem_toArray, List.getElem_cons_succ, List.getElem_cons_zero, List.setIfInBounds_toArray, List.set_cons_zero, List.set_cons_succ]
 refine wpAnyHL_takeD (pre := []) (i := 6) (v := .pointer (some ⟨W1.heap.size, 5, none⟩)) 17 rfl rfl (by kernel_rfl) (by kernel_rfl) (fun _ _ _ h => h) (Or.inl ⟨by rfl, ?_⟩) hbY0 ?_
 · intro w' hSw; (have m1 := kept_cell hSw y1); (have m4 := kept_cell hSw y4); (have m5 := kept_cell hSw y5); go_simp
 try simp only [Act.put, List.getElem_toArray, List.getElem_cons_succ, List.getElem_cons_zero, List.setIfInBounds_toArray, List.set_cons_zero, List.set_cons_succ]
 refine wpAnyHL_takeD (pre := []) (i := 7) (v := .slice none 0 0) 18 rfl rfl (by kernel_rfl) (by kernel_rfl) (fun _ _ _ h => h) (Or.inl ⟨by rfl, ?_⟩) hbY0 ?_
 · intro w' hSw; (have m1 := kept_cell hSw y1); (have m4 := kept_cell hSw y4); (have m5 := kept_cell hSw y5); go_simp
 try simp only [Act.put, List.getElem_toArray, List.getElem_cons_succ, List.getElem_cons_zero, List.setIfInBounds_toArray, List.set_cons_zero, List.set_cons_succ]
 refine HL_ready1 (i := 2) rfl (by kernel_rfl) (by decide) (fun K hK => ?_)
 go_simp
 (go_at_call 82; (with_reducible refine Calls.mono (clone1 B _ g Y0 (oG.out Y0 hbY0)) ?_); rintro e Y1 ⟨gv, rfl, og, cY1⟩)
 obtain ⟨gb, go, gc, rfl, hgB, -⟩ := One.form og
 have hbY1 := below_tr hbY0 cY1
 have zY1 := cY1.size
 refine hK.out _ _ hbY1 ?_
 clear hK K
 try simp only [Act.put, List.getElem_toArray, List.getElem_cons_succ, List.getElem_cons_zero, List.setIfInBounds_toArray, List.set_cons_zero, List.set_cons_succ]
 refine wpAnyHL_takeD (pre := []) (i := 9) (v := .pointer (some ⟨W1.heap.size, 1, none⟩)) 20 rfl rfl (by kernel_rfl) (by kernel_rfl) (fun _ _ _ h => h) (Or.inl ⟨by rfl, ?_⟩) hbY1 ?_
 · intro w' hSw; (have m1 := kept_cell hSw y1); (have m4 := kept_cell hSw y4); (have m5 := kept_cell hSw y5); go_simp
 try simp only [Act.put, List.getElem_toArray, List.getElem_cons_succ, List.getElem_cons_zero, List.setIfInBounds_toArray, List.set_cons_zero, List.set_cons_succ]
 refine HL_ready1 (i := 5) rfl (by kernel_rfl) (by decide) (fun K hK => ?_)
 go_simp
 (go_at_call 82; (with_reducible refine Calls.mono (clone1 B _ b Y1 (oB.out Y1 hbY1)) ?_); rintro e Y2 ⟨bv, rfl, ob, cY2⟩)
 obtain ⟨bb, bo, bc, rfl, hbB, -⟩ := One.form ob
 have hbY2 := below_tr hbY1 cY2
 have zY2 := cY2.size
 have og2 := QAt.mono og cY2
 refine hK.out _ _ hbY2 ?_
 clear hK K
 try simp only [Act.put, List.getElem_toArray, List.getElem_cons_succ, List.getElem_cons_zero, List.setIfInBounds_toArray, List.set_cons_zero, List.set_cons_succ]
 refine HL_ready1 (i := 8) rfl (by kernel_rfl) (by decide) (fun K hK => ?_)
 go_simp
 (go_at_call 83; (with_reducible refine Calls.mono (cloneNil Y2) ?_); rintro e Y3 ⟨rfl, hY3⟩; have hY4 := hY3.symm; subst hY4)
 refine hK.out _ _ hbY2 ?_
 clear hK K
 try simp only [Act.put, List.getElem_toArray, List.getElem_cons_succ, List.getElem_cons_zero, List.setIfInBounds_toArray, List.set_cons_zero, List.set_cons_succ]
 refine ⟨by kernel_rfl, ?_⟩
 obtain ⟨x0, x1, x2, x3, x4, x5⟩ := row6 (kept_block hbY2 r2h.out)
 have zx := (Array.getElem?_eq_some_iff.1 (kept_block hbY2 r2h.out)).1
 have fx : ∀ i, Y2.frozen? ⟨W1.heap.size, i, none⟩ = false := fun i => frz (kept_block hbY2 r2h.out) i
 obtain ⟨Z, hZ⟩ : ∃ Z, ((Y2.setCell ⟨W1.heap.size, 1, none⟩ (.slice (some ⟨gb, go, none⟩) 1 gc)).setCell ⟨W1.heap.size, 4, none⟩ (.slice (some ⟨bb, bo, none⟩) 1 bc)).setCell ⟨W1.heap.size, 5, none⟩ nilS = Z := ⟨_, rfl⟩
 have rZ : Z.heap[W1.heap.size]? = some (xsO n (.slice (some ⟨gb, go, none⟩) 1 gc) (.slice (some ⟨bb, bo, none⟩) 1 bc)) := by rw [← hZ, row_set (row_set (row_set (kept_block hbY2 r2h.out) 1 _) 4 _)]; rfl
 have kZ : Kept (fun k => k ≠ W1.heap.size) Y2 Z := by
  rw [← hZ]
  refine (((Kept.refl _ _).setCell (p := ⟨W1.heap.size, 1, none⟩) ?_ _).setCell (p := ⟨W1.heap.size, 4, none⟩) ?_ _).setCell (p := ⟨W1.heap.size, 5, none⟩) ?_ _
  all_goals exact .inl fun h => h rfl
 have hz := zs.out
 have zZ := kZ.size
 have q1 := (kZ.block w.heap.size (by omega) (by omega)).trans (kept_block hbY2 r1h.out)
 have q3 := (kZ.block W2.heap.size (by omega) (by omega)).trans (kept_block hbY2 r3h.out)
 have oZg := QAt.kept og2 kZ (fun k e => by cases e; show gb ≠ W1.heap.size; omega)
 have oZb := QAt.kept ob kZ (fun k e => by cases e; show bb ≠ W1.heap.size; omega)
 obtain ⟨X3, hX3⟩ : ∃ Q, ((X.setCell ⟨W1.heap.size, 1, none⟩ (.slice (some ⟨gb, go, none⟩) 1 gc)).setCell ⟨W1.heap.size, 4, none⟩ (.slice (some ⟨bb, bo, none⟩) 1 bc)).setCell ⟨W1.heap.size, 5, none⟩ nilS = Q := ⟨_, rfl⟩
 have rX3 : X3.heap[W1.heap.size]? = some (xsO n (.slice (some ⟨gb, go, none⟩) 1 gc) (.slice (some ⟨bb, bo, none⟩) 1 bc)) := by rw [← hX3, row_set (row_set (row_set r2h.out 1 _) 4 _)]; rfl
 have kX3 : Kept (fun k => k ≠ W1.heap.size) X X3 := by
  rw [← hX3]
  refine (((Kept.refl _ _).setCell (p := ⟨W1.heap.size, 1, none⟩) ?_ _).setCell (p := ⟨W1.heap.size, 4, none⟩) ?_ _).setCell (p := ⟨W1.heap.size, 5, none⟩) ?_ _
  all_goals exact .inl fun h => h rfl
 have zX3 : X3.heap.size = X.heap.size := by rw [← hX3]; simp
 have bZ3 : Below X3.heap.size X3 Z := by
  refine ⟨by rw [kZ.os, hbY2.os, kX3.os], by rw [kZ.tape, hbY2.tape, kX3.tape], by rw [kZ.output, hbY2.output, kX3.output], by omega, fun k hk => ?_⟩
  by_cases e : k = W1.heap.size
  · subst e; rw [rZ, rX3]
  · rw [kZ.block k (by omega) e, hbY2.block k (by omega), kX3.block k (by omega) e]
 have bX3 : Below w.heap.size w X3 := hBh.out.trans (kX3.below (B := w.heap.size) (by omega) fun k hk => by omega)
 have q4 := (kX3.block W3.heap.size (by omega) (by omega)).trans r4h.out
 have q5 := (kX3.block W4.heap.size (by omega) (by omega)).trans r5h.out
 obtain ⟨R, hR⟩ : ∃ R, Z.alloc (rnO ⟨c, rv, .slice (some ⟨cb, co, none⟩) 1 cc, .slice ha hs.length hcap, .slice na ns.length ncap, sp, inn, out, hs, ns⟩ n (.slice (some ⟨gb, go, none⟩) 1 gc) (.slice (some ⟨bb, bo, none⟩) 1 bc) nilS nilS nilS) = R := ⟨_, rfl⟩
 obtain ⟨eR, kR, zR⟩ := boxedB hR
 have hgb := (QAt.lt og gb rfl).2
 have hgl := (QAt.lt oZg gb rfl).2
 have hbl := (QAt.lt oZb bb rfl).2
 have rR : RnAt X3 Z.heap.size R ⟨c, rv, .slice (some ⟨cb, co, none⟩) 1 cc, .slice ha hs.length hcap, .slice na ns.length ncap, sp, inn, out, hs, ns⟩ n gb go gc g bb bo bc b nilS nilS nilS none none none :=
  ⟨hfx.out.mono bX3, below_tr bZ3 kR, eR, by omega, One.up (QAt.mono oZg kR) (by omega), One.up (QAt.mono oZb kR) (by omega), hgl, hbl, by omega, rfl, rfl, rfl⟩
 obtain ⟨a0, a1, a2, a3, a4, a5⟩ := row6 q1
 obtain ⟨c0, c1, c2, c3, c4, c5⟩ := row6 rZ
 obtain ⟨d0, d1, d2⟩ := row3b q3
 have rRh := Lib.hid rR
 have q4h := Lib.hid q4
 have q5h := Lib.hid q5
 have bZh := Lib.hid bX3
 have zZs := Lib.hid (show W3.heap.size < X3.heap.size ∧ W4.heap.size < X3.heap.size ∧ w.heap.size ≤ W3.heap.size ∧ X3.heap.size ≤ Z.heap.size ∧ W3.heap.size < W4.heap.size from by omega)
 clear rR q1 q3 q4 q5 rZ kZ kR eR oZg oZb bZ3 bX3 kX3 rX3 hX3 zX3 og og2 ob hbY0 hbY1 hbY2 cY1 cY2 oG oB hz
 go_wp2_with (fail)
 refine NoPanic.normal ?_
 clear x0 x1 x2 x3 x4 x5 zx fx hZ
 go_wp2_with (fail)
 clear a0 a1 a2 a3 a4 a5 c0 c1 c2 c3 c4 c5 d0 d1 d2
 go_loopw [43] (fun i wr => (i = .int .i64 0 ∧ Hid (StepI X3 Z.heap.size ⟨c, rv, .slice (some ⟨cb, co, none⟩) 1 cc, .slice ha hs.length hcap, .slice na ns.length ncap, sp, inn, out, hs, ns⟩ n gb go gc g bb bo bc x 0 wr)) ∨ (i = .int .i64 1 ∧ Hid (StepI X3 Z.heap.size ⟨c, rv, .slice (some ⟨cb, co, none⟩) 1 cc, .slice ha hs.length hcap, .slice na ns.length ncap, sp, inn, out, hs, ns⟩ n gb go gc g bb bo bc x 1 wr)) ∨ (i = .int .i64 2 ∧ Hid (StepI X3 Z.heap.size ⟨c, rv, .slice (some ⟨cb, co, none⟩) 1 cc, .slice ha hs.length hcap, .slice na ns.length ncap, sp, inn, out, hs, ns⟩ n gb go gc g bb bo bc x 2 wr)) ∨ (i = .int .i64 3 ∧ Hid (StepI X3 Z.heap.size ⟨c, rv, .slice (some ⟨cb, co, none⟩) 1 cc, .slice ha hs.length hcap, .slice na ns.length ncap, sp, inn, out, hs, ns⟩ n gb go gc g bb bo bc x 3 wr)) ∨ (i = .int .i64 4 ∧ Hid (StepI X3 Z.heap.size ⟨c, rv, .slice (some ⟨cb, co, none⟩) 1 cc, .slice ha hs.length hcap, .slice na ns.length ncap, sp, inn, out, hs, ns⟩ n gb go gc g bb bo bc x 4 wr)) ∨ (i = .int .i64 5 ∧ Hid (StepI X3 Z.heap.size ⟨c, rv, .slice (some ⟨cb, co, none⟩) 1 cc, .slice ha hs.length hcap, .slice na ns.length ncap, sp, inn, out, hs, ns⟩ n gb go gc g bb bo bc x 5 wr)) ∨ (i = .int .i64 6 ∧ Hid (StepI X3 Z.heap.size ⟨c, rv, .slice (some ⟨cb, co, none⟩) 1 cc, .slice ha hs.length hcap, .slice na ns.length ncap, sp, inn, out, hs, ns⟩ n gb go gc g bb bo bc x 6 wr)) ∨ (i = .int .i64 7 ∧ Hid (StepI X3 Z.heap.size ⟨c, rv, .slice (some ⟨cb, co, none⟩) 1 cc, .slice ha hs.length hcap, .slice na ns.length ncap, sp, inn, out, hs, ns⟩ n gb go gc g bb bo bc x 7 wr))) (fun i _ => (7 - intOf i).toNat)
 case atStart => exact .inl ⟨rfl, Lib.hid ⟨_, rRh.out⟩⟩
 case round =>
  have hts : ∀ h, (Tryz.prog.types[1]'h).size = 1 := fun _ => by kernel_rfl
  have hx := ok.fit.x0
  have hx1 := ok.fit.x1
  rcases hrel with ⟨rfl, hH⟩ | ⟨rfl, hH⟩ | ⟨rfl, hH⟩ | ⟨rfl, hH⟩ | ⟨rfl, hH⟩ | ⟨rfl, hH⟩ | ⟨rfl, hH⟩ | ⟨rfl, hH⟩
  · obtain ⟨b1, h⟩ := hH.out
    have kk := Lib.hid (runLoans wr h)
    clear hH h
    go_wp2_with (go_at_call 84; (with_reducible refine Calls.mono kk.out ?_); rintro e w1 ⟨rfl, h2⟩)
    exact ⟨.inr (.inl ⟨by go_num, Lib.hid (show StepI X3 Z.heap.size _ n gb go gc g bb bo bc x 1 w1 from ⟨_, h2⟩)⟩), by simp [intOf]⟩
  · obtain ⟨b1, h⟩ := hH.out
    have kk := Lib.hid (runTrades wr h)
    have hS := Lib.hid h
    clear hH h
    go_wp2_with (go_at_call 85; (with_reducible refine Calls.mono kk.out ?_); rintro e w1 ⟨rfl, h2⟩)
    exact ⟨.inr (.inr (.inl ⟨by go_num, Lib.hid (show StepI X3 Z.heap.size _ n gb go gc g bb bo bc x 2 wr from ⟨_, hS.out⟩)⟩)), by simp [intOf]⟩
  · obtain ⟨b1, h⟩ := hH.out
    have kk := Lib.hid (runWants _ n x wr h ok.act ok.nn ok.ns ok.am ok.fit)
    clear hH h
    go_wp2_with (go_at_call 86; (with_reducible refine Calls.mono kk.out ?_); rintro e w1 ⟨rfl, u, h2⟩)
    exact ⟨.inr (.inr (.inr (.inl ⟨by go_num, Lib.hid (show StepI X3 Z.heap.size _ n gb go gc g bb bo bc x 3 w1 from ⟨_, _, h2⟩)⟩))), by simp [intOf]⟩
  · obtain ⟨b1, u, h⟩ := hH.out
    have kk := Lib.hid (runGrants _ n x ⟨hx, hx1⟩ wr h ok.hn ok.hy)
    clear hH h
    go_wp2_with (go_at_call 87; (with_reducible refine Calls.mono kk.out ?_); rintro e w1 ⟨rfl, v, h2⟩)
    exact ⟨.inr (.inr (.inr (.inr (.inl ⟨by go_num, Lib.hid (show StepI X3 Z.heap.size _ n gb go gc g bb bo bc x 4 w1 from ⟨_, _, _, h2⟩)⟩)))), by simp [intOf]⟩
  · obtain ⟨b1, u, v, h⟩ := hH.out
    have kk := Lib.hid (runFlows _ n x ⟨hx, hx1⟩ wr h ok.hn ok.hy)
    clear hH h
    go_wp2_with (go_at_call 88; (with_reducible refine Calls.mono kk.out ?_); rintro e w1 ⟨rfl, z, h2⟩)
    exact ⟨.inr (.inr (.inr (.inr (.inr (.inl ⟨by go_num, Lib.hid (show StepI X3 Z.heap.size _ n gb go gc g bb bo bc x 5 w1 from ⟨_, _, _, _, h2⟩)⟩))))), by simp [intOf]⟩
  · obtain ⟨b1, u, v, z, h⟩ := hH.out
    have kk := Lib.hid (runGas _ x wr h ⟨hx, hx1⟩ hgg)
    clear hH h
    go_wp2_with (go_at_call 89; (with_reducible refine Calls.mono kk.out ?_); rintro e w1 ⟨rfl, h2⟩)
    exact ⟨.inr (.inr (.inr (.inr (.inr (.inr (.inl ⟨by go_num, Lib.hid (show StepI X3 Z.heap.size _ n gb go gc g bb bo bc x 6 w1 from ⟨_, _, _, _, h2⟩)⟩)))))), by simp [intOf]⟩
  · obtain ⟨b1, u, v, z, h⟩ := hH.out
    have kk := Lib.hid (runBills _ n x ⟨hx, hx1⟩ wr h ok.act)
    clear hH h
    go_wp2_with (go_at_call 90; (with_reducible refine Calls.mono kk.out ?_); rintro e w1 ⟨rfl, b2, h2⟩)
    exact ⟨.inr (.inr (.inr (.inr (.inr (.inr (.inr (⟨by go_num, Lib.hid (show StepI X3 Z.heap.size _ n gb go gc g bb bo bc x 7 w1 from ⟨_, _, _, _, h2⟩)⟩))))))), by simp [intOf]⟩
  · skip
    obtain ⟨b1, u, v, z, h⟩ := hH.out
    have hn48 : (n : Int) ≤ 100 := by
     have h1 := ok.hn
     have h2 := hfx.out.lh
     dsimp only at h1 h2
     omega
    have hw : IntKind.i64.wrap ((n : Int) + 1) = (n : Int) + 1 := IntWalk.i64_in _ (by omega)
    obtain ⟨ua, un, rfl⟩ := QAt.slice (show One (Z.heap.size + 1) wr u x from h.l0)
    obtain ⟨va, vn, rfl⟩ := QAt.slice (show One (Z.heap.size + 1) wr v x from h.l1)
    obtain ⟨za, zn, rfl⟩ := QAt.slice (show One (Z.heap.size + 1) wr z x from h.l2)
    obtain ⟨-, -, -, -, -, -, -, -, -, a9, -, -, -, -, -, -, -, -, -⟩ := row19 h.row
    have zr := (zqo h.row)
    have fr := frz h.row 9
    obtain ⟨V, hV⟩ : ∃ V, wr.setCell ⟨Z.heap.size, 9, none⟩ (.int .i64 (n + 1)) = V := ⟨_, rfl⟩
    have kk : Kept (fun k => k ≠ Z.heap.size) wr V := by rw [← hV]; exact (Kept.refl _ _).setCell (p := ⟨Z.heap.size, 9, none⟩) (.inl fun h => h rfl) _
    have rV := h.row' kk (t' := n + 1) (by rw [← hV, row_set h.row]; rfl) (h.l0.kept kk fun k _ => by omega) (h.l1.kept kk fun k _ => by omega) (h.l2.kept kk fun k _ => by omega)
    simp only [List.length_cons, List.length_nil, Nat.zero_add] at *
    have zz := zZs.out
    have rW3 := kept_block rV.base q4h.out
    have rW4 := kept_block rV.base q5h.out
    have rD := rV
    obtain ⟨F, hF⟩ : ∃ F, ((((((V.setCell ⟨W3.heap.size, 0, none⟩ (.int .i64 (n + 1))).setCell ⟨W3.heap.size, 1, none⟩ (.slice (some ⟨gb, go, none⟩) 1 gc)).setCell ⟨W3.heap.size, 2, none⟩ (.int .i64 0)).setCell ⟨W3.heap.size, 3, none⟩ (.int .i64 0)).setCell ⟨W3.heap.size, 4, none⟩ (.slice (some ⟨bb, bo, none⟩) 1 bc)).setCell ⟨W3.heap.size, 5, none⟩ (.slice none 0 0)).drew = F := ⟨_, rfl⟩
    have k1 : Kept (fun k => k ≠ W3.heap.size) V F := by rw [← hF]; exact (set_kept6B V W3.heap.size (.int .i64 (n + 1)) (.slice (some ⟨gb, go, none⟩) 1 gc) (.int .i64 0) (.int .i64 0) (.slice (some ⟨bb, bo, none⟩) 1 bc) (.slice none 0 0)).trans (.all (Below.refl _ _).drew)
    have f1 : F.heap[W3.heap.size]? = some (xsO (n + 1) (.slice (some ⟨gb, go, none⟩) 1 gc) (.slice (some ⟨bb, bo, none⟩) 1 bc)) := by rw [← hF]; exact kept_block (Below.refl _ _).drew (set_cells6B rW3 (.int .i64 (n + 1)) (.slice (some ⟨gb, go, none⟩) 1 gc) (.int .i64 0) (.int .i64 0) (.slice (some ⟨bb, bo, none⟩) 1 bc) (.slice none 0 0))
    have r2 := (k1.block _ (zqo rW4) (by omega)).trans rW4
    have k2 := set_kept4B F W4.heap.size (.slice ua 1 un) (.slice va 1 vn) (.slice za 1 zn) (.slice none 0 0)
    have f2 := set_cells4 r2 (.slice ua 1 un) (.slice va 1 vn) (.slice za 1 zn) (.slice none 0 0)
    have f12 := (k2.block _ (zqo f1) (by omega)).trans f1
    obtain ⟨-, -, -, -, -, -, -, -, -, k9, k10, k11, k12, k13, k14, k15, k16, k17, k18⟩ := row19 (kept_block (Below.refl _ V).drew rD.row)
    obtain ⟨-, -, -, -, -, -, -, -, -, m9, m10, m11, m12, m13, m14, m15, m16, m17, m18⟩ := row19 ((k1.block _ (zqo rD.row) (by omega)).trans rD.row)
    obtain ⟨-, -, -, -, -, -, -, -, -, p9, p10, p11, p12, p13, p14, p15, p16, p17, p18⟩ := row19 ((k2.block _ (Array.getElem?_eq_some_iff.1 ((k1.block _ (zqo rD.row) (by omega)).trans rD.row)).1 (by omega)).trans ((k1.block _ (zqo rD.row) (by omega)).trans rD.row))
    obtain ⟨c0, c1, c2, c3, c4, c5⟩ := row6 rW3
    obtain ⟨d0, d1, d2, d3⟩ := row4c r2
    have zw3 := (zqo rW3)
    have zw4 := (zqo r2)
    have fz3 : ∀ i, V.frozen? ⟨W3.heap.size, i, none⟩ = false := fun i => frz rW3 i
    have fz4 : ∀ i, F.frozen? ⟨W4.heap.size, i, none⟩ = false := fun i => frz r2 i
    obtain ⟨s0, s1, s2, s3, s4, s5⟩ := row6 f12
    obtain ⟨t0, t1, t2, t3⟩ := row4c f2
    obtain ⟨G, hG⟩ : ∃ G, (((F.setCell ⟨W4.heap.size, 0, none⟩ (.slice ua 1 un)).setCell ⟨W4.heap.size, 1, none⟩ (.slice va 1 vn)).setCell ⟨W4.heap.size, 2, none⟩ (.slice za 1 zn)).setCell ⟨W4.heap.size, 3, none⟩ (.slice none 0 0) = G := ⟨_, rfl⟩
    rw [hG] at k2 f2 f12 s0 s1 s2 s3 s4 s5 t0 t1 t2 t3 p9 p10 p11 p12 p13 p14 p15 p16 p17 p18
    have kG : Kept (fun k => k ≠ W3.heap.size ∧ k ≠ W4.heap.size) V G := (k1.mono fun k _ h => h.1).trans (k2.mono fun k _ h => h.2)
    have hold := rD.old
    have og1 := QAt.kept (One.up rD.gas (show w.heap.size ≤ X3.heap.size by omega)) kG fun k e => by have := (QAt.lt rD.gas k e).1; omega
    have ob1 := QAt.kept (One.up rD.bil (show w.heap.size ≤ X3.heap.size by omega)) kG fun k e => by have := (QAt.lt rD.bil k e).1; omega
    have oz1 := QAt.kept (One.up (show One (Z.heap.size + 1) V (.slice za 1 zn) x from rD.l2) (show w.heap.size ≤ Z.heap.size + 1 by omega)) kG fun k e => by have := (QAt.lt (show One (Z.heap.size + 1) V (.slice za 1 zn) x from rD.l2) k e).1; omega
    have bG : Below w.heap.size w G := (bZh.out.trans (rD.base.mono (by omega))).trans (kG.below (B := w.heap.size) (by omega) fun k hk => by omega)
    have fin := Lib.hid (show One w.heap.size G (.slice (some ⟨gb, go, none⟩) 1 gc) (g + x) ∧ One w.heap.size G (.slice (some ⟨bb, bo, none⟩) 1 bc) b1 ∧ One w.heap.size G (.slice za 1 zn) x ∧ Below w.heap.size w G from ⟨og1, ob1, oz1, bG⟩)
    clear kk rV rW3 rW4 k1 f1 r2 k2 f2 f12 kG og1 ob1 oz1 bG rD hH h
    go_wp2_with (fail)
    refine wp_region_held_drew (S := (fun w' => w'.cell? ⟨Z.heap.size, 9, none⟩ = some (.int .i64 (n + 1)) ∧ w'.cell? ⟨Z.heap.size, 10, none⟩ = some (.slice (some ⟨gb, go, none⟩) 1 gc) ∧ w'.cell? ⟨Z.heap.size, 11, none⟩ = some (.int .i64 0) ∧ w'.cell? ⟨Z.heap.size, 12, none⟩ = some (.int .i64 0) ∧ w'.cell? ⟨Z.heap.size, 13, none⟩ = some (.slice (some ⟨bb, bo, none⟩) 1 bc) ∧ w'.cell? ⟨Z.heap.size, 14, none⟩ = some (.slice none 0 0) ∧ w'.cell? ⟨Z.heap.size, 15, none⟩ = some (.slice ua 1 un) ∧ w'.cell? ⟨Z.heap.size, 16, none⟩ = some (.slice va 1 vn) ∧ w'.cell? ⟨Z.heap.size, 17, none⟩ = some (.slice za 1 zn) ∧ w'.cell? ⟨Z.heap.size, 18, none⟩ = some (.slice none 0 0))) (by kernel_rfl) ?_ (fun hHeld => ?_)
    · first | (first | exact ⟨k9, k10, k11, k12, k13, k14, k15, k16, k17, k18⟩ | exact ⟨m9, m10, m11, m12, m13, m14, m15, m16, m17, m18⟩ | exact ⟨p9, p10, p11, p12, p13, p14, p15, p16, p17, p18⟩) | (dsimp only; (first | exact ⟨k9, k10, k11, k12, k13, k14, k15, k16, k17, k18⟩ | exact ⟨m9, m10, m11, m12, m13, m14, m15, m16, m17, m18⟩ | exact ⟨p9, p10, p11, p12, p13, p14, p15, p16, p17, p18⟩))
    refine wpAnyH_take (i := 0) (v := ?_) rfl (by kernel_rfl) (by kernel_rfl) (by kernel_rfl) (fun _ _ _ h => h) (Or.inl ⟨by rfl, ?_⟩) (by assumption) ?_
    rotate_left
    · intro w hSw; (try dsimp only at hSw); go_simp; (try with_reducible rfl)
    try simp only [Act.put, List.getElem_toArray, List.getElem_cons_succ, List.getElem_cons_zero, List.setIfInBounds_toArray, List.set_cons_zero, List.set_cons_succ]
    refine wpAnyH_take (i := 1) (v := ?_) rfl (by kernel_rfl) (by kernel_rfl) (by kernel_rfl) (fun _ _ _ h => h) (Or.inl ⟨by rfl, ?_⟩) (by assumption) ?_
    rotate_left
    · intro w hSw; (try dsimp only at hSw); go_simp; (try with_reducible rfl)
    try simp only [Act.put, List.getElem_toArray, List.getElem_cons_succ, List.getElem_cons_zero, List.setIfInBounds_toArray, List.set_cons_zero, List.set_cons_succ]
    refine wpAnyH_take (i := 2) (v := ?_) rfl (by kernel_rfl) (by kernel_rfl) (by kernel_rfl) (fun _ _ _ h => h) (Or.inl ⟨by rfl, ?_⟩) (by assumption) ?_
    rotate_left
    · intro w hSw; (try dsimp only at hSw); go_simp; (try with_reducible rfl)
    try simp only [Act.put, List.getElem_toArray, List.getElem_cons_succ, List.getElem_cons_zero, List.setIfInBounds_toArray, List.set_cons_zero, List.set_cons_succ]
    refine wpAnyH_take (i := 3) (v := ?_) rfl (by kernel_rfl) (by kernel_rfl) (by kernel_rfl) (fun _ _ _ h => h) (Or.inl ⟨by rfl, ?_⟩) (by assumption) ?_
    rotate_left
    · intro w hSw; (try dsimp only at hSw); go_simp; (try with_reducible rfl)
    try simp only [Act.put, List.getElem_toArray, List.getElem_cons_succ, List.getElem_cons_zero, List.setIfInBounds_toArray, List.set_cons_zero, List.set_cons_succ]
    refine wpAnyH_take (i := 4) (v := ?_) rfl (by kernel_rfl) (by kernel_rfl) (by kernel_rfl) (fun _ _ _ h => h) (Or.inl ⟨by rfl, ?_⟩) (by assumption) ?_
    rotate_left
    · intro w hSw; (try dsimp only at hSw); go_simp; (try with_reducible rfl)
    try simp only [Act.put, List.getElem_toArray, List.getElem_cons_succ, List.getElem_cons_zero, List.setIfInBounds_toArray, List.set_cons_zero, List.set_cons_succ]
    refine wpAnyH_take (i := 5) (v := ?_) rfl (by kernel_rfl) (by kernel_rfl) (by kernel_rfl) (fun _ _ _ h => h) (Or.inl ⟨by rfl, ?_⟩) (by assumption) ?_
    rotate_left
    · intro w hSw; (try dsimp only at hSw); go_simp; (try with_reducible rfl)
    try simp only [Act.put, List.getElem_toArray, List.getElem_cons_succ, List.getElem_cons_zero, List.setIfInBounds_toArray, List.set_cons_zero, List.set_cons_succ]
    refine wpAnyH_take (i := 6) (v := ?_) rfl (by kernel_rfl) (by kernel_rfl) (by kernel_rfl) (fun _ _ _ h => h) (Or.inl ⟨by rfl, ?_⟩) (by assumption) ?_
    rotate_left
    · intro w hSw; (try dsimp only at hSw); go_simp; (try with_reducible rfl)
    try simp only [Act.put, List.getElem_toArray, List.getElem_cons_succ, List.getElem_cons_zero, List.setIfInBounds_toArray, List.set_cons_zero, List.set_cons_succ]
    refine wpAnyH_take (i := 7) (v := ?_) rfl (by kernel_rfl) (by kernel_rfl) (by kernel_rfl) (fun _ _ _ h => h) (Or.inl ⟨by rfl, ?_⟩) (by assumption) ?_
    rotate_left
    · intro w hSw; (try dsimp only at hSw); go_simp; (try with_reducible rfl)
    try simp only [Act.put, List.getElem_toArray, List.getElem_cons_succ, List.getElem_cons_zero, List.setIfInBounds_toArray, List.set_cons_zero, List.set_cons_succ]
    refine wpAnyH_ready (rs := [8]) (by kernel_rfl) (by simp) ?_
    refine AllReadyH.cons rfl (fun K hK => ?_) AllReadyH.nil
    go_simp
    refine hK.out _ _ ?_ (fun hNow => ?_)
    · first | (first | exact ⟨k9, k10, k11, k12, k13, k14, k15, k16, k17, k18⟩ | exact ⟨m9, m10, m11, m12, m13, m14, m15, m16, m17, m18⟩ | exact ⟨p9, p10, p11, p12, p13, p14, p15, p16, p17, p18⟩) | (dsimp only; (first | exact ⟨k9, k10, k11, k12, k13, k14, k15, k16, k17, k18⟩ | exact ⟨m9, m10, m11, m12, m13, m14, m15, m16, m17, m18⟩ | exact ⟨p9, p10, p11, p12, p13, p14, p15, p16, p17, p18⟩))
    clear hK K hHeld
    have hHeld := hNow
    clear hNow
    try simp only [Act.put, List.getElem_toArray, List.getElem_cons_succ, List.getElem_cons_zero, List.setIfInBounds_toArray, List.set_cons_zero, List.set_cons_succ]
    refine wpAnyH_ready (rs := [9]) (by kernel_rfl) (by simp) ?_
    refine AllReadyH.cons rfl (fun K hK => ?_) AllReadyH.nil
    go_simp
    refine hK.out _ _ ?_ (fun hNow => ?_)
    · first | (first | exact ⟨k9, k10, k11, k12, k13, k14, k15, k16, k17, k18⟩ | exact ⟨m9, m10, m11, m12, m13, m14, m15, m16, m17, m18⟩ | exact ⟨p9, p10, p11, p12, p13, p14, p15, p16, p17, p18⟩) | (dsimp only; (first | exact ⟨k9, k10, k11, k12, k13, k14, k15, k16, k17, k18⟩ | exact ⟨m9, m10, m11, m12, m13, m14, m15, m16, m17, m18⟩ | exact ⟨p9, p10, p11, p12, p13, p14, p15, p16, p17, p18⟩))
    clear hK K hHeld
    have hHeld := hNow
    clear hNow
    try simp only [Act.put, List.getElem_toArray, List.getElem_cons_succ, List.getElem_cons_zero, List.setIfInBounds_toArray, List.set_cons_zero, List.set_cons_succ]
    refine wpAnyH_done (by kernel_rfl) ?_ _
    go_wp2_with (fail)
    refine bodyPost_ret (v := .tuple #[xsV (n + 1) (.slice (some ⟨gb, go, none⟩) 1 gc) (.slice (some ⟨bb, bo, none⟩) 1 bc), flV (.slice ua 1 un) (.slice va 1 vn) (.slice za 1 zn)]) (by simp [results, Tryz.results48, go_sem, s0, s1, s2, s3, s4, s5, t0, t1, t2, t3]) rfl ⟨_, _, _, _, _, _, _, _, rfl, fin.out⟩
end Go.Proofs.YtpcamocnlnlgiaaGreat.B
