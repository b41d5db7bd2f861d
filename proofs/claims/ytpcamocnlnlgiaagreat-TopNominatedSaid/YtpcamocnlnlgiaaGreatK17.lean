/- Laws and walks: Bkq. -/
import Derived.Test.YtpcamocnlnlgiaaGreatK16
set_option maxRecDepth 100000
set_option maxHeartbeats 16000000
set_option linter.unusedVariables false
set_option linter.unusedSimpArgs false
namespace Go.Proofs.YtpcamocnlnlgiaaGreat.B
open Go.RowKit Go.Sd Wl Bk L
attribute [local go_sem] Oper.semAt_some
theorem set_cells6B {w : World} {n : Nat} {a0 a1 a2 a3 a4 a5 : Value} {e : TypeId} (h : w.heap[n]? = some (.cells #[a0, a1, a2, a3, a4, a5] e (0, 0))) (b0 b1 b2 b3 b4 b5 : Value) :
    ((((((w.setCell ⟨n, 0, none⟩ b0).setCell ⟨n, 1, none⟩ b1).setCell ⟨n, 2, none⟩ b2).setCell ⟨n, 3, none⟩ b3).setCell ⟨n, 4, none⟩ b4).setCell ⟨n, 5, none⟩ b5).heap[n]? = some (.cells #[b0, b1, b2, b3, b4, b5] e (0, 0)) := by
 have h2 := (row_set (row_set (row_set (row_set (row_set (row_set h 0 b0) 1 b1) 2 b2) 3 b3) 4 b4) 5 b5)
 simp only [List.setIfInBounds_toArray, List.set_cons_zero, List.set_cons_succ] at h2
 exact h2
theorem set_kept6B (w : World) (n : Nat) (b0 b1 b2 b3 b4 b5 : Value) :
    Kept (fun k => k ≠ n) w ((((((w.setCell ⟨n, 0, none⟩ b0).setCell ⟨n, 1, none⟩ b1).setCell ⟨n, 2, none⟩ b2).setCell ⟨n, 3, none⟩ b3).setCell ⟨n, 4, none⟩ b4).setCell ⟨n, 5, none⟩ b5) := by
 refine ((((((Kept.refl _ _).setCell (p := ⟨n, 0, none⟩) ?_ _).setCell (p := ⟨n, 1, none⟩) ?_ _).setCell (p := ⟨n, 2, none⟩) ?_ _).setCell (p := ⟨n, 3, none⟩) ?_ _).setCell (p := ⟨n, 4, none⟩) ?_ _).setCell (p := ⟨n, 5, none⟩) ?_ _
 all_goals exact .inl fun h => h rfl
theorem HL_ready1 {P : Program} {md : Region.Mode} {ops : Array Oper} {Q : Exit → Act → World → Prop} {S : World → Prop} {n f : Nat} {L : Array Bool → Act → World → Prop} {listed : Array Bool} {a : Act} {w : World} {i : Nat} {o : Oper} (ho : ops[i]? = some o) (hr : Region.ready md ops listed = [i]) (hi : i < n)
    (h : ∀ K' : Act → World → Prop, Shut (∀ a w, S w → wpAnyHL P md ops Q S n L f (listed.setIfInBounds i true) a w → K' a w) → if Region.wanted o (yielded ops a.tmps) = true then Oper.wp P o a w K' Q else K' (a.put o.dst undef) w) : wpAnyHL P md ops Q S n L (f + 1) listed a w :=
 wpAnyHL_all [i] hr (by simp) (by simpa using hi) fun k hk => by
  obtain rfl : k = i := by simpa using hk
  exact wpOp_step ho fun K' hK => h K' fun a w hS hW => hK a w ⟨hS, hW⟩
theorem HL_ready2 {P : Program} {md : Region.Mode} {ops : Array Oper} {Q : Exit → Act → World → Prop} {S : World → Prop} {n f : Nat} {L : Array Bool → Act → World → Prop} {listed : Array Bool} {a : Act} {w : World} {i j : Nat} {o u : Oper} (ho : ops[i]? = some o) (hu : ops[j]? = some u) (hr : Region.ready md ops listed = [i, j]) (hi : i < n) (hj : j < n)
    (h : ∀ K' : Act → World → Prop, Shut (∀ a w, S w → wpAnyHL P md ops Q S n L f (listed.setIfInBounds i true) a w → K' a w) → if Region.wanted o (yielded ops a.tmps) = true then Oper.wp P o a w K' Q else K' (a.put o.dst undef) w)
    (h2 : ∀ K' : Act → World → Prop, Shut (∀ a w, S w → wpAnyHL P md ops Q S n L f (listed.setIfInBounds j true) a w → K' a w) → if Region.wanted u (yielded ops a.tmps) = true then Oper.wp P u a w K' Q else K' (a.put u.dst undef) w) : wpAnyHL P md ops Q S n L (f + 1) listed a w :=
 wpAnyHL_all [i, j] hr (by simp) (by simp [hi, hj]) fun k hk => by
  rcases (by simpa using hk : k = i ∨ k = j) with rfl | rfl
  · exact wpOp_step ho fun K' hK => h K' fun a w hS hW => hK a w ⟨hS, hW⟩
  · exact wpOp_step hu fun K' hK => h2 K' fun a w hS hW => hK a w ⟨hS, hW⟩
abbrev xsO (t : Int) (gv bv : Value) : Obj := .cells #[.int .i64 t, gv, .int .i64 0, .int .i64 0, bv, .slice none 0 0] 64
abbrev xsV (t : Int) (gv bv : Value) : Value := .agg #[.int .i64 t, gv, .int .i64 0, .int .i64 0, bv, .slice none 0 0]
theorem step_new1 {ops : Array Oper} {o : Oper} {a : Act} {K : Act → World → Prop} {Q : Exit → Act → World → Prop} {E : Prop} (hgd : o.guard = none) (s x : Operand)
    (ho : o.op = .call { callee := .builtin .append, args := #[s, x], argTypes := #[41, 41] }) (ht : o.type = 41) {w : World} {vb c : Nat} {y : Int} (hs : a.eval s = .slice none 0 0) (hx : a.eval x = .slice (some ⟨vb, 0, none⟩) 1 c) (hy : w.cell? ⟨vb, 0, none⟩ = some (.int .i64 y))
    (h : ∀ v' w', One w.heap.size w' v' y → Below w.heap.size w w' → K (a.put o.dst v') w') : if Region.wanted o (yielded ops a.tmps) = true then Oper.wp Tryz.prog o a w K Q else E := by
 obtain ⟨v', w', hr, h1, h2⟩ := app_nil w.heap.size w y vb c (Nat.le_refl _) hy
 rw [← ht] at hr
 exact step_app_run hgd s x _ (by rw [ho, ht]) hs hx hr (h v' w' h1 h2)
theorem bookBegin (f : Fx) (w : World) (h : FxAt w f) : Calls Tryz.prog 47 #[stV f] w fun e w' => ∃ gv bv, e = .returned (xsV 0 gv bv) ∧ One w.heap.size w' gv f.c.gas ∧ One w.heap.size w' bv 0 ∧ gv.ownBlock ≠ bv.ownBlock ∧ Below w.heap.size w w' := by
 obtain ⟨cb, co, cc, hcv, hcb, hcells, hr⟩ := con1 h.cons
 obtain ⟨ra, rcap, hrv, -, -⟩ := id hr
 obtain ⟨c, rv, cv, hv, nv, sp, inn, out, hs, ns⟩ := f
 dsimp only at hcv hrv hcells
 subst hcv hrv
 obtain ⟨W1, hW1⟩ : ∃ W, w.alloc (stO1 sp inn out (.slice (some ⟨cb, co, none⟩) 1 cc)) = W := ⟨_, rfl⟩
 obtain ⟨e1, b1, z1⟩ := boxedB hW1
 obtain ⟨W2, hW2⟩ : ∃ W, W1.alloc (xsO 0 (.slice none 0 0) (.slice none 0 0)) = W := ⟨_, rfl⟩
 obtain ⟨e2, b2, z2⟩ := boxedB hW2
 obtain ⟨W3, hW3⟩ : ∃ W, W2.alloc (xsO 0 (.slice none 0 0) (.slice none 0 0)) = W := ⟨_, rfl⟩
 obtain ⟨e3, b3, z3⟩ := boxedB hW3
 have hB3 := below_tr (below_tr b1 b2) b3
 obtain ⟨k0, k1, k2, k3, k4, k5, k6, k7, k8, k9, k10⟩ := hcells
 replace k0 := kept_cell hB3 k0
 replace k1 := kept_cell hB3 k1
 replace k2 := kept_cell hB3 k2
 replace k3 := kept_cell hB3 k3
 replace k4 := kept_cell hB3 k4
 replace k5 := kept_cell hB3 k5
 replace k6 := kept_cell hB3 k6
 replace k7 := kept_cell hB3 k7
 replace k8 := kept_cell hB3 k8
 replace k9 := kept_cell hB3 k9
 replace k10 := kept_cell hB3 k10
 obtain ⟨-, -, -, -, -, q5⟩ := row6 (kept_block b3 (kept_block b2 e1))
 obtain ⟨X, hX⟩ : ∃ X, W3.alloc (conO (.slice ra c.rates.length rcap) c) = X := ⟨_, rfl⟩
 obtain ⟨eX, bX, zX⟩ := boxedB hX
 obtain ⟨v0, v1, v2, v3, v4, v5, v6, v7, v8, v9, v10⟩ := row11 eX
 obtain ⟨y0, y1, y2, y3, y4, y5⟩ := row6 (kept_block bX e3)
 have fz : ∀ i, X.frozen? ⟨W2.heap.size, i, none⟩ = false := fun i => frz (kept_block bX e3) i
 have eXh := Lib.hid eX
 have rX := kept_block bX e3
 have e2h := Lib.hid (kept_block b3 e2)
 have e3h := Lib.hid e3
 have bXh := Lib.hid bX
 have hB3h := Lib.hid hB3
 have zs := Lib.hid (show w.heap.size < W1.heap.size ∧ W1.heap.size < W2.heap.size ∧ W2.heap.size < W3.heap.size ∧ W3.heap.size < X.heap.size from ⟨z1, z2, z3, zX⟩)
 clear h hr e1 e2 e3 eX b1 b2 b3 bX hB3
 go_enter Tryz.func47, Tryz.ntmps47
 go_wp2_with (fail)
 go_loopw [9] (fun i wr => (i = .int .i64 0 ∧ W3 = wr) ∨ (i = .int .i64 1 ∧ Hid (∃ gv bv, wr.heap[W2.heap.size]? = some (xsO 0 gv bv) ∧ One W3.heap.size wr gv c.gas ∧ One W3.heap.size wr bv 0 ∧ gv.ownBlock ≠ bv.ownBlock ∧ Kept (fun k => k ≠ W2.heap.size) W3 wr))) (fun i _ => (1 - intOf i).toNat)
 case atStart => exact .inl ⟨rfl, by first | rfl | trivial⟩
 case round =>
  rcases hrel with ⟨rfl, rfl⟩ | ⟨rfl, hH⟩
  · go_wp2_with (fail)
    obtain ⟨Y0, hY0⟩ : ∃ Y, X.drew = Y := ⟨_, rfl⟩
    have hbY0 : Below X.heap.size X Y0 := by rw [← hY0]; exact (Below.refl _ _).drew
    have zY0 := hbY0.size
    refine wp_region_noPanic ?_
    refine wp_region_any (by kernel_rfl) ?_
    show wpAny _ _ _ _ (11 + 3) #[false, false, false, false, false, false, false, false, false, false, false, false, false, false] _ X.drew
    rw [hY0]
    refine any_of_HL2 (n := 11) (S := Below X.heap.size X) (f := 11) rfl ?_
    refine wpAnyHL_takeD (pre := []) (i := 0) (v := .pointer (some ⟨W2.heap.size, 1, none⟩)) 13 rfl rfl (by kernel_rfl) (by kernel_rfl) (fun _ _ _ h => h) (Or.inl ⟨by rfl, ?_⟩) hbY0 ?_
    · intro w' hSw; (have m1 := kept_cell hSw y1); (have m4 := kept_cell hSw y4); (have m5 := kept_cell hSw v5); go_simp
    try simp only [Act.put, List.getElem_toArray, List.getElem_cons_succ, List.getElem_cons_zero, List.setIfInBounds_toArray, List.set_cons_zero, List.set_cons_succ]
    refine wpAnyHL_takeD (pre := []) (i := 1) (v := .slice none 0 0) 14 rfl rfl (by kernel_rfl) (by kernel_rfl) (fun _ _ _ h => h) (Or.inl ⟨by rfl, ?_⟩) hbY0 ?_
    · intro w' hSw; (have m1 := kept_cell hSw y1); (have m4 := kept_cell hSw y4); (have m5 := kept_cell hSw v5); go_simp
    try simp only [Act.put, List.getElem_toArray, List.getElem_cons_succ, List.getElem_cons_zero, List.setIfInBounds_toArray, List.set_cons_zero, List.set_cons_succ]
    refine wpAnyHL_takeD (pre := []) (i := 2) (v := .pointer (some ⟨W3.heap.size, 5, none⟩)) 15 rfl rfl (by kernel_rfl) (by kernel_rfl) (fun _ _ _ h => h) (Or.inl ⟨by rfl, ?_⟩) hbY0 ?_
    · intro w' hSw; (have m1 := kept_cell hSw y1); (have m4 := kept_cell hSw y4); (have m5 := kept_cell hSw v5); go_simp
    try simp only [Act.put, List.getElem_toArray, List.getElem_cons_succ, List.getElem_cons_zero, List.setIfInBounds_toArray, List.set_cons_zero, List.set_cons_succ]
    refine wpAnyHL_takeD (pre := []) (i := 3) (v := .int .i64 c.gas) 16 rfl rfl (by kernel_rfl) (by kernel_rfl) (fun _ _ _ h => h) (Or.inl ⟨by rfl, ?_⟩) hbY0 ?_
    · intro w' hSw; (have m1 := kept_cell hSw y1); (have m4 := kept_cell hSw y4); (have m5 := kept_cell hSw v5); go_simp
    try simp only [Act.put, List.getElem_toArray, List.getElem_cons_succ, List.getElem_cons_zero, List.setIfInBounds_toArray, List.set_cons_zero, List.set_cons_succ]
    refine wpAnyHL_takeD (pre := []) (i := 6) (v := .pointer (some ⟨W2.heap.size, 4, none⟩)) 19 rfl rfl (by kernel_rfl) (by kernel_rfl) (fun _ _ _ h => h) (Or.inl ⟨by rfl, ?_⟩) hbY0 ?_
    · intro w' hSw; (have m1 := kept_cell hSw y1); (have m4 := kept_cell hSw y4); (have m5 := kept_cell hSw v5); go_simp
    try simp only [Act.put, List.getElem_toArray, List.getElem_cons_succ, List.getElem_cons_zero, List.setIfInBounds_toArray, List.set_cons_zero, List.set_cons_succ]
    refine wpAnyHL_takeD (pre := []) (i := 7) (v := .slice none 0 0) 20 rfl rfl (by kernel_rfl) (by kernel_rfl) (fun _ _ _ h => h) (Or.inl ⟨by rfl, ?_⟩) hbY0 ?_
    · intro w' hSw; (have m1 := kept_cell hSw y1); (have m4 := kept_cell hSw y4); (have m5 := kept_cell hSw v5); go_simp
    try simp only [Act.put, List.getElem_toArray, List.getElem_cons_succ, List.getElem_cons_zero, List.setIfInBounds_toArray, List.set_cons_zero, List.set_cons_succ]
    refine HL_ready2 (i := 4) (j := 8) rfl rfl (by kernel_rfl) (by decide) (by decide) (fun K hK => ?waya4) (fun K hK => ?waya8)
    case' waya4 =>
     obtain ⟨Y4_4, hY4_4⟩ : ∃ W, Y0.alloc (.cells #[.int .i64 (c.gas)] 3) = W := ⟨_, rfl⟩
     obtain ⟨eY4_4, cY4_4, zY4_4⟩ := boxedB hY4_4
     have hbY4_4 := below_tr hbY0 cY4_4
     have esgY4_4 := eY4_4
     go_simp
     (try rw [hY4_4])
     refine hK.out _ _ hbY4_4 ?_
     clear hK K
     try simp only [Act.put, List.getElem_toArray, List.getElem_cons_succ, List.getElem_cons_zero, List.setIfInBounds_toArray, List.set_cons_zero, List.set_cons_succ]
     clear hY4_4 eY4_4 cY4_4
     refine HL_ready2 (i := 5) (j := 8) rfl rfl (by kernel_rfl) (by decide) (by decide) (fun K hK => ?waya45) (fun K hK => ?waya48)
     case' waya45 =>
      refine step_new1 (by rfl) _ _ (by rfl) (by rfl) (by rfl) (by rfl) (row1c esgY4_4) (fun v' Y45_5 ogY45_5 cY45_5 => ?_)
      obtain ⟨aY45_5, nY45_5, rfl⟩ := ogY45_5.slice
      have hbY45_5 := below_tr hbY4_4 cY45_5
      have zY45_5 := cY45_5.size
      have esgY45_5 := kept_block cY45_5 esgY4_4
      refine hK.out _ _ hbY45_5 ?_
      clear hK K
      try simp only [Act.put, List.getElem_toArray, List.getElem_cons_succ, List.getElem_cons_zero, List.setIfInBounds_toArray, List.set_cons_zero, List.set_cons_succ]
      refine wpAnyHL_takeD (pre := []) (i := 10) (v := .pointer (some ⟨W2.heap.size, 1, none⟩)) 23 rfl rfl (by kernel_rfl) (by kernel_rfl) (fun _ _ _ h => h) (Or.inl ⟨by rfl, ?_⟩) hbY45_5 ?_
      · intro w' hSw; (have m1 := kept_cell hSw y1); (have m4 := kept_cell hSw y4); (have m5 := kept_cell hSw v5); go_simp
      try simp only [Act.put, List.getElem_toArray, List.getElem_cons_succ, List.getElem_cons_zero, List.setIfInBounds_toArray, List.set_cons_zero, List.set_cons_succ]
      (try simp only [List.length_cons, List.length_nil, Nat.zero_add] at *)
      refine HL_ready1 (i := 8) rfl (by kernel_rfl) (by decide) (fun K hK => ?_)
      obtain ⟨Y45_8, hY45_8⟩ : ∃ W, Y45_5.alloc (.cells #[.int .i64 (0)] 3) = W := ⟨_, rfl⟩
      obtain ⟨eY45_8, cY45_8, zY45_8⟩ := boxedB hY45_8
      have hbY45_8 := below_tr hbY45_5 cY45_8
      have esgY45_8 := kept_block cY45_8 esgY45_5
      have ogY45_8 := QAt.mono ogY45_5 cY45_8
      have esbY45_8 := eY45_8
      go_simp
      (try rw [hY45_8])
      refine hK.out _ _ hbY45_8 ?_
      clear hK K
      try simp only [Act.put, List.getElem_toArray, List.getElem_cons_succ, List.getElem_cons_zero, List.setIfInBounds_toArray, List.set_cons_zero, List.set_cons_succ]
      clear hY45_8 eY45_8 cY45_8
      refine HL_ready1 (i := 9) rfl (by kernel_rfl) (by decide) (fun K hK => ?_)
      refine step_new1 (by rfl) _ _ (by rfl) (by rfl) (by rfl) (by rfl) (row1c esbY45_8) (fun v' Y45_9 obY45_9 cY45_9 => ?_)
      obtain ⟨aY45_9, nY45_9, rfl⟩ := obY45_9.slice
      have hbY45_9 := below_tr hbY45_8 cY45_9
      have zY45_9 := cY45_9.size
      have esgY45_9 := kept_block cY45_9 esgY45_8
      have ogY45_9 := QAt.mono ogY45_8 cY45_9
      have esbY45_9 := kept_block cY45_9 esbY45_8
      have hneY45_9 := Lib.hid (show (Value.slice aY45_5 1 nY45_5).ownBlock ≠ (Value.slice aY45_9 1 nY45_9).ownBlock from fun e => by
       obtain ⟨k, hk⟩ : ∃ k, (Value.slice aY45_5 1 nY45_5).ownBlock = some k := by obtain ⟨g', o', c', he, -⟩ := One.form ogY45_8; cases he; exact ⟨_, rfl⟩
       have h1 := (QAt.lt ogY45_8 k hk).2
       have h2 := (QAt.lt obY45_9 k (by rw [← hk, e]; rfl)).1
       omega)
      refine hK.out _ _ hbY45_9 ?_
      clear hK K
      try simp only [Act.put, List.getElem_toArray, List.getElem_cons_succ, List.getElem_cons_zero, List.setIfInBounds_toArray, List.set_cons_zero, List.set_cons_succ]
      (try simp only [List.length_cons, List.length_nil, Nat.zero_add] at *)
      obtain ⟨z0, z1, z2, z3, z4, z5⟩ := row6 (kept_block hbY45_9 rX)
      have zz := (Array.getElem?_eq_some_iff.1 (kept_block hbY45_9 rX)).1
      have fz1 := frz (kept_block hbY45_9 rX) 1
      obtain ⟨Za, hZa⟩ : ∃ Z, Y45_9.setCell ⟨W2.heap.size, 1, none⟩ (.slice aY45_5 1 nY45_5) = Z := ⟨_, rfl⟩
      have rZa : Za.heap[W2.heap.size]? = some (xsO 0 (.slice aY45_5 1 nY45_5) (.slice none 0 0)) := by rw [← hZa, row_set (kept_block hbY45_9 rX)]; rfl
      have fz4 := frz rZa 4
      have zz4 := (zqo rZa)
      obtain ⟨-, -, -, -, za4, -⟩ := row6 rZa
      obtain ⟨Zb, hZb⟩ : ∃ Z, Za.setCell ⟨W2.heap.size, 4, none⟩ (.slice aY45_9 1 nY45_9) = Z := ⟨_, rfl⟩
      have rZb : Zb.heap[W2.heap.size]? = some (xsO 0 (.slice aY45_5 1 nY45_5) (.slice aY45_9 1 nY45_9)) := by rw [← hZb, row_set rZa]; rfl
      have kZ : Kept (fun k => k ≠ W2.heap.size) Y45_9 Zb := by rw [← hZb, ← hZa]; exact ((Kept.refl _ _).setCell (p := ⟨W2.heap.size, 1, none⟩) (.inl fun h => h rfl) _).setCell (p := ⟨W2.heap.size, 4, none⟩) (.inl fun h => h rfl) _
      have hfin : Hid (Zb.heap[W2.heap.size]? = some (xsO 0 (.slice aY45_5 1 nY45_5) (.slice aY45_9 1 nY45_9)) ∧ One W3.heap.size Zb (.slice aY45_5 1 nY45_5) c.gas ∧ One W3.heap.size Zb (.slice aY45_9 1 nY45_9) 0 ∧ (Value.slice aY45_5 1 nY45_5).ownBlock ≠ (Value.slice aY45_9 1 nY45_9).ownBlock ∧ Kept (fun k => k ≠ W2.heap.size) W3 Zb) := Lib.hid ⟨rZb, QAt.kept (One.up ogY45_9 (by have := zs.out; omega)) kZ (fun k e => by have := (QAt.lt ogY45_9 k e).1; have := zs.out; omega), QAt.kept (One.up obY45_9 (by have := zs.out; omega)) kZ (fun k e => by have := (QAt.lt obY45_9 k e).1; have := zs.out; omega), hneY45_9.out, (Kept.all (bXh.out : Below W3.heap.size W3 X)).trans ((Kept.all hbY45_9).trans kZ)⟩
      clear z0 z2 z3 z5
      refine ⟨by kernel_rfl, ?_⟩
      go_wp2_with (fail)
      refine NoPanic.normal ?_
      go_wp2_with (fail)
      exact ⟨.inr ⟨by go_num, Lib.hid ⟨_, _, hfin.out⟩⟩, by simp [intOf]⟩
     case' waya48 =>
      obtain ⟨Y48_8, hY48_8⟩ : ∃ W, Y4_4.alloc (.cells #[.int .i64 (0)] 3) = W := ⟨_, rfl⟩
      obtain ⟨eY48_8, cY48_8, zY48_8⟩ := boxedB hY48_8
      have hbY48_8 := below_tr hbY4_4 cY48_8
      have esgY48_8 := kept_block cY48_8 esgY4_4
      have esbY48_8 := eY48_8
      go_simp
      (try rw [hY48_8])
      refine hK.out _ _ hbY48_8 ?_
      clear hK K
      try simp only [Act.put, List.getElem_toArray, List.getElem_cons_succ, List.getElem_cons_zero, List.setIfInBounds_toArray, List.set_cons_zero, List.set_cons_succ]
      clear hY48_8 eY48_8 cY48_8
      refine HL_ready1 (i := 5) rfl (by kernel_rfl) (by decide) (fun K hK => ?_)
      refine step_new1 (by rfl) _ _ (by rfl) (by rfl) (by rfl) (by rfl) (row1c esgY48_8) (fun v' Y48_5 ogY48_5 cY48_5 => ?_)
      obtain ⟨aY48_5, nY48_5, rfl⟩ := ogY48_5.slice
      have hbY48_5 := below_tr hbY48_8 cY48_5
      have zY48_5 := cY48_5.size
      have esgY48_5 := kept_block cY48_5 esgY48_8
      have esbY48_5 := kept_block cY48_5 esbY48_8
      refine hK.out _ _ hbY48_5 ?_
      clear hK K
      try simp only [Act.put, List.getElem_toArray, List.getElem_cons_succ, List.getElem_cons_zero, List.setIfInBounds_toArray, List.set_cons_zero, List.set_cons_succ]
      refine wpAnyHL_takeD (pre := []) (i := 10) (v := .pointer (some ⟨W2.heap.size, 1, none⟩)) 23 rfl rfl (by kernel_rfl) (by kernel_rfl) (fun _ _ _ h => h) (Or.inl ⟨by rfl, ?_⟩) hbY48_5 ?_
      · intro w' hSw; (have m1 := kept_cell hSw y1); (have m4 := kept_cell hSw y4); (have m5 := kept_cell hSw v5); go_simp
      try simp only [Act.put, List.getElem_toArray, List.getElem_cons_succ, List.getElem_cons_zero, List.setIfInBounds_toArray, List.set_cons_zero, List.set_cons_succ]
      (try simp only [List.length_cons, List.length_nil, Nat.zero_add] at *)
      refine HL_ready1 (i := 9) rfl (by kernel_rfl) (by decide) (fun K hK => ?_)
      refine step_new1 (by rfl) _ _ (by rfl) (by rfl) (by rfl) (by rfl) (row1c esbY48_5) (fun v' Y48_9 obY48_9 cY48_9 => ?_)
      obtain ⟨aY48_9, nY48_9, rfl⟩ := obY48_9.slice
      have hbY48_9 := below_tr hbY48_5 cY48_9
      have zY48_9 := cY48_9.size
      have esgY48_9 := kept_block cY48_9 esgY48_5
      have ogY48_9 := QAt.mono ogY48_5 cY48_9
      have esbY48_9 := kept_block cY48_9 esbY48_5
      have hneY48_9 := Lib.hid (show (Value.slice aY48_5 1 nY48_5).ownBlock ≠ (Value.slice aY48_9 1 nY48_9).ownBlock from fun e => by
       obtain ⟨k, hk⟩ : ∃ k, (Value.slice aY48_5 1 nY48_5).ownBlock = some k := by obtain ⟨g', o', c', he, -⟩ := One.form ogY48_5; cases he; exact ⟨_, rfl⟩
       have h1 := (QAt.lt ogY48_5 k hk).2
       have h2 := (QAt.lt obY48_9 k (by rw [← hk, e]; rfl)).1
       omega)
      refine hK.out _ _ hbY48_9 ?_
      clear hK K
      try simp only [Act.put, List.getElem_toArray, List.getElem_cons_succ, List.getElem_cons_zero, List.setIfInBounds_toArray, List.set_cons_zero, List.set_cons_succ]
      (try simp only [List.length_cons, List.length_nil, Nat.zero_add] at *)
      obtain ⟨z0, z1, z2, z3, z4, z5⟩ := row6 (kept_block hbY48_9 rX)
      have zz := (Array.getElem?_eq_some_iff.1 (kept_block hbY48_9 rX)).1
      have fz1 := frz (kept_block hbY48_9 rX) 1
      obtain ⟨Za, hZa⟩ : ∃ Z, Y48_9.setCell ⟨W2.heap.size, 1, none⟩ (.slice aY48_5 1 nY48_5) = Z := ⟨_, rfl⟩
      have rZa : Za.heap[W2.heap.size]? = some (xsO 0 (.slice aY48_5 1 nY48_5) (.slice none 0 0)) := by rw [← hZa, row_set (kept_block hbY48_9 rX)]; rfl
      have fz4 := frz rZa 4
      have zz4 := (zqo rZa)
      obtain ⟨-, -, -, -, za4, -⟩ := row6 rZa
      obtain ⟨Zb, hZb⟩ : ∃ Z, Za.setCell ⟨W2.heap.size, 4, none⟩ (.slice aY48_9 1 nY48_9) = Z := ⟨_, rfl⟩
      have rZb : Zb.heap[W2.heap.size]? = some (xsO 0 (.slice aY48_5 1 nY48_5) (.slice aY48_9 1 nY48_9)) := by rw [← hZb, row_set rZa]; rfl
      have kZ : Kept (fun k => k ≠ W2.heap.size) Y48_9 Zb := by rw [← hZb, ← hZa]; exact ((Kept.refl _ _).setCell (p := ⟨W2.heap.size, 1, none⟩) (.inl fun h => h rfl) _).setCell (p := ⟨W2.heap.size, 4, none⟩) (.inl fun h => h rfl) _
      have hfin : Hid (Zb.heap[W2.heap.size]? = some (xsO 0 (.slice aY48_5 1 nY48_5) (.slice aY48_9 1 nY48_9)) ∧ One W3.heap.size Zb (.slice aY48_5 1 nY48_5) c.gas ∧ One W3.heap.size Zb (.slice aY48_9 1 nY48_9) 0 ∧ (Value.slice aY48_5 1 nY48_5).ownBlock ≠ (Value.slice aY48_9 1 nY48_9).ownBlock ∧ Kept (fun k => k ≠ W2.heap.size) W3 Zb) := Lib.hid ⟨rZb, QAt.kept (One.up ogY48_9 (by have := zs.out; omega)) kZ (fun k e => by have := (QAt.lt ogY48_9 k e).1; have := zs.out; omega), QAt.kept (One.up obY48_9 (by have := zs.out; omega)) kZ (fun k e => by have := (QAt.lt obY48_9 k e).1; have := zs.out; omega), hneY48_9.out, (Kept.all (bXh.out : Below W3.heap.size W3 X)).trans ((Kept.all hbY48_9).trans kZ)⟩
      clear z0 z2 z3 z5
      refine ⟨by kernel_rfl, ?_⟩
      go_wp2_with (fail)
      refine NoPanic.normal ?_
      go_wp2_with (fail)
      exact ⟨.inr ⟨by go_num, Lib.hid ⟨_, _, hfin.out⟩⟩, by simp [intOf]⟩
    case' waya8 =>
     obtain ⟨Y8_8, hY8_8⟩ : ∃ W, Y0.alloc (.cells #[.int .i64 (0)] 3) = W := ⟨_, rfl⟩
     obtain ⟨eY8_8, cY8_8, zY8_8⟩ := boxedB hY8_8
     have hbY8_8 := below_tr hbY0 cY8_8
     have esbY8_8 := eY8_8
     go_simp
     (try rw [hY8_8])
     refine hK.out _ _ hbY8_8 ?_
     clear hK K
     try simp only [Act.put, List.getElem_toArray, List.getElem_cons_succ, List.getElem_cons_zero, List.setIfInBounds_toArray, List.set_cons_zero, List.set_cons_succ]
     clear hY8_8 eY8_8 cY8_8
     refine HL_ready1 (i := 4) rfl (by kernel_rfl) (by decide) (fun K hK => ?_)
     obtain ⟨Y8_4, hY8_4⟩ : ∃ W, Y8_8.alloc (.cells #[.int .i64 (c.gas)] 3) = W := ⟨_, rfl⟩
     obtain ⟨eY8_4, cY8_4, zY8_4⟩ := boxedB hY8_4
     have hbY8_4 := below_tr hbY8_8 cY8_4
     have esbY8_4 := kept_block cY8_4 esbY8_8
     have esgY8_4 := eY8_4
     go_simp
     (try rw [hY8_4])
     refine hK.out _ _ hbY8_4 ?_
     clear hK K
     try simp only [Act.put, List.getElem_toArray, List.getElem_cons_succ, List.getElem_cons_zero, List.setIfInBounds_toArray, List.set_cons_zero, List.set_cons_succ]
     clear hY8_4 eY8_4 cY8_4
     refine HL_ready1 (i := 5) rfl (by kernel_rfl) (by decide) (fun K hK => ?_)
     refine step_new1 (by rfl) _ _ (by rfl) (by rfl) (by rfl) (by rfl) (row1c esgY8_4) (fun v' Y8_5 ogY8_5 cY8_5 => ?_)
     obtain ⟨aY8_5, nY8_5, rfl⟩ := ogY8_5.slice
     have hbY8_5 := below_tr hbY8_4 cY8_5
     have zY8_5 := cY8_5.size
     have esgY8_5 := kept_block cY8_5 esgY8_4
     have esbY8_5 := kept_block cY8_5 esbY8_4
     refine hK.out _ _ hbY8_5 ?_
     clear hK K
     try simp only [Act.put, List.getElem_toArray, List.getElem_cons_succ, List.getElem_cons_zero, List.setIfInBounds_toArray, List.set_cons_zero, List.set_cons_succ]
     refine wpAnyHL_takeD (pre := []) (i := 10) (v := .pointer (some ⟨W2.heap.size, 1, none⟩)) 23 rfl rfl (by kernel_rfl) (by kernel_rfl) (fun _ _ _ h => h) (Or.inl ⟨by rfl, ?_⟩) hbY8_5 ?_
     · intro w' hSw; (have m1 := kept_cell hSw y1); (have m4 := kept_cell hSw y4); (have m5 := kept_cell hSw v5); go_simp
     try simp only [Act.put, List.getElem_toArray, List.getElem_cons_succ, List.getElem_cons_zero, List.setIfInBounds_toArray, List.set_cons_zero, List.set_cons_succ]
     (try simp only [List.length_cons, List.length_nil, Nat.zero_add] at *)
     refine HL_ready1 (i := 9) rfl (by kernel_rfl) (by decide) (fun K hK => ?_)
     refine step_new1 (by rfl) _ _ (by rfl) (by rfl) (by rfl) (by rfl) (row1c esbY8_5) (fun v' Y8_9 obY8_9 cY8_9 => ?_)
     obtain ⟨aY8_9, nY8_9, rfl⟩ := obY8_9.slice
     have hbY8_9 := below_tr hbY8_5 cY8_9
     have zY8_9 := cY8_9.size
     have esgY8_9 := kept_block cY8_9 esgY8_5
     have ogY8_9 := QAt.mono ogY8_5 cY8_9
     have esbY8_9 := kept_block cY8_9 esbY8_5
     have hneY8_9 := Lib.hid (show (Value.slice aY8_5 1 nY8_5).ownBlock ≠ (Value.slice aY8_9 1 nY8_9).ownBlock from fun e => by
      obtain ⟨k, hk⟩ : ∃ k, (Value.slice aY8_5 1 nY8_5).ownBlock = some k := by obtain ⟨g', o', c', he, -⟩ := One.form ogY8_5; cases he; exact ⟨_, rfl⟩
      have h1 := (QAt.lt ogY8_5 k hk).2
      have h2 := (QAt.lt obY8_9 k (by rw [← hk, e]; rfl)).1
      omega)
     refine hK.out _ _ hbY8_9 ?_
     clear hK K
     try simp only [Act.put, List.getElem_toArray, List.getElem_cons_succ, List.getElem_cons_zero, List.setIfInBounds_toArray, List.set_cons_zero, List.set_cons_succ]
     (try simp only [List.length_cons, List.length_nil, Nat.zero_add] at *)
     obtain ⟨z0, z1, z2, z3, z4, z5⟩ := row6 (kept_block hbY8_9 rX)
     have zz := (Array.getElem?_eq_some_iff.1 (kept_block hbY8_9 rX)).1
     have fz1 := frz (kept_block hbY8_9 rX) 1
     obtain ⟨Za, hZa⟩ : ∃ Z, Y8_9.setCell ⟨W2.heap.size, 1, none⟩ (.slice aY8_5 1 nY8_5) = Z := ⟨_, rfl⟩
     have rZa : Za.heap[W2.heap.size]? = some (xsO 0 (.slice aY8_5 1 nY8_5) (.slice none 0 0)) := by rw [← hZa, row_set (kept_block hbY8_9 rX)]; rfl
     have fz4 := frz rZa 4
     have zz4 := (zqo rZa)
     obtain ⟨-, -, -, -, za4, -⟩ := row6 rZa
     obtain ⟨Zb, hZb⟩ : ∃ Z, Za.setCell ⟨W2.heap.size, 4, none⟩ (.slice aY8_9 1 nY8_9) = Z := ⟨_, rfl⟩
     have rZb : Zb.heap[W2.heap.size]? = some (xsO 0 (.slice aY8_5 1 nY8_5) (.slice aY8_9 1 nY8_9)) := by rw [← hZb, row_set rZa]; rfl
     have kZ : Kept (fun k => k ≠ W2.heap.size) Y8_9 Zb := by rw [← hZb, ← hZa]; exact ((Kept.refl _ _).setCell (p := ⟨W2.heap.size, 1, none⟩) (.inl fun h => h rfl) _).setCell (p := ⟨W2.heap.size, 4, none⟩) (.inl fun h => h rfl) _
     have hfin : Hid (Zb.heap[W2.heap.size]? = some (xsO 0 (.slice aY8_5 1 nY8_5) (.slice aY8_9 1 nY8_9)) ∧ One W3.heap.size Zb (.slice aY8_5 1 nY8_5) c.gas ∧ One W3.heap.size Zb (.slice aY8_9 1 nY8_9) 0 ∧ (Value.slice aY8_5 1 nY8_5).ownBlock ≠ (Value.slice aY8_9 1 nY8_9).ownBlock ∧ Kept (fun k => k ≠ W2.heap.size) W3 Zb) := Lib.hid ⟨rZb, QAt.kept (One.up ogY8_9 (by have := zs.out; omega)) kZ (fun k e => by have := (QAt.lt ogY8_9 k e).1; have := zs.out; omega), QAt.kept (One.up obY8_9 (by have := zs.out; omega)) kZ (fun k e => by have := (QAt.lt obY8_9 k e).1; have := zs.out; omega), hneY8_9.out, (Kept.all (bXh.out : Below W3.heap.size W3 X)).trans ((Kept.all hbY8_9).trans kZ)⟩
     clear z0 z2 z3 z5
     refine ⟨by kernel_rfl, ?_⟩
     go_wp2_with (fail)
     refine NoPanic.normal ?_
     go_wp2_with (fail)
     exact ⟨.inr ⟨by go_num, Lib.hid ⟨_, _, hfin.out⟩⟩, by simp [intOf]⟩
  · obtain ⟨gv, bv, h1, h2, h3, h4, h5⟩ := hH.out
    obtain ⟨ga, go', gc, rfl, -⟩ := One.form h2
    obtain ⟨ba, bo, bc, rfl, -⟩ := One.form h3
    obtain ⟨z0, z1, z2, z3, z4, z5⟩ := row6 h1
    have zz := (zqo h1)
    have hz := zs.out
    have r1 := (h5.block _ (zqo e2h.out) (by omega)).trans e2h.out
    obtain ⟨x0, x1, x2, x3, x4, x5⟩ := row6 r1
    have zx := (zqo r1)
    have fx : ∀ i, wr.frozen? ⟨W1.heap.size, i, none⟩ = false := fun i => frz r1 i
    have hs := set_cells6B r1 (.int .i64 0) (.slice (some ⟨ga, go', none⟩) 1 gc) (.int .i64 0) (.int .i64 0) (.slice (some ⟨ba, bo, none⟩) 1 bc) (.slice none 0 0)
    have hk := set_kept6B wr W1.heap.size (.int .i64 0) (.slice (some ⟨ga, go', none⟩) 1 gc) (.int .i64 0) (.int .i64 0) (.slice (some ⟨ba, bo, none⟩) 1 bc) (.slice none 0 0)
    obtain ⟨m0, m1, m2, m3, m4, m5⟩ := row6 hs
    have f1 := Lib.hid (QAt.kept (One.up h2 (show w.heap.size ≤ W3.heap.size by omega)) hk fun k e => by have := (QAt.lt h2 k e).1; omega)
    have f2 := Lib.hid (QAt.kept (One.up h3 (show w.heap.size ≤ W3.heap.size by omega)) hk fun k e => by have := (QAt.lt h3 k e).1; omega)
    have f3 := Lib.hid (hB3h.out.trans (((h5.mono fun k _ (h : k < w.heap.size) => by omega).trans (hk.mono fun k _ h => by omega)).below (B := w.heap.size) (by omega) fun k hk => hk))
    have f4 := Lib.hid h4
    clear hH h1 h2 h3 h4 h5 r1 hs hk
    go_wp2_with (fail)
    refine bodyPost_ret (v := xsV 0 (.slice (some ⟨ga, go', none⟩) 1 gc) (.slice (some ⟨ba, bo, none⟩) 1 bc)) (by simp [results, Tryz.results47, go_sem, m0, m1, m2, m3, m4, m5]) rfl ⟨_, _, rfl, f1.out, f2.out, f4.out, f3.out⟩
end Go.Proofs.YtpcamocnlnlgiaaGreat.B
