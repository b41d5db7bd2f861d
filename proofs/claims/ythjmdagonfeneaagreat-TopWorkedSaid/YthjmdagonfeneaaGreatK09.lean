/- Laws and walks: GA8. -/
import Derived.Test.YthjmdagonfeneaaGreatK08
set_option maxRecDepth 100000
set_option maxHeartbeats 16000000
set_option linter.unusedVariables false
set_option linter.unusedSimpArgs false
namespace Go.Proofs.YthjmdagonfeneaaGreat.G
open Go.RowKit Go.Sd Gas
theorem far4 {w : World} {n b o : Nat} {v u0 u1 u2 u3 : Value} (h : w.cell? ⟨b, o, none⟩ = some v) (hne : n ≠ b) :
    ((((w.setCell ⟨n, 0, none⟩ u0).setCell ⟨n, 1, none⟩ u1).setCell ⟨n, 2, none⟩ u2).setCell ⟨n, 3, none⟩ u3).cell? ⟨b, o, none⟩ = some v := by
 rw [World.cell?_setCell_far _ _ _ _ hne, World.cell?_setCell_far _ _ _ _ hne, World.cell?_setCell_far _ _ _ _ hne, World.cell?_setCell_far _ _ _ _ hne]; exact h
theorem far4d {w : World} {n b o : Nat} {v u0 u1 u2 u3 : Value} (h : w.drew.cell? ⟨b, o, none⟩ = some v) (hne : n ≠ b) :
    ((((w.setCell ⟨n, 0, none⟩ u0).setCell ⟨n, 1, none⟩ u1).setCell ⟨n, 2, none⟩ u2).setCell ⟨n, 3, none⟩ u3).drew.cell? ⟨b, o, none⟩ = some v := by
 have h2 : w.cell? ⟨b, o, none⟩ = some v := h
 have := far4 (u0 := u0) (u1 := u1) (u2 := u2) (u3 := u3) h2 hne
 exact (cell_drew_own _ _).trans this
theorem progWithdrawY (c : Cav) (p : Pt) (m : Int) (w : World) (hp : p.Ok) (hm : 0 ≤ m ∧ m ≤ 100000000) (h : m ≤ p.g + p.y) :
    Calls Tryz.prog 82 #[cavV c, ptV p, .int .i64 m] w fun e w' => e = .returned (.tuple #[ptV (left p m), ptV (Gas.out p m)]) ∧ Below w.heap.size w w' := by
 have b7 := hp.g; have b8 := hp.y; have b9 := hp.w
 have m1 := bd_mul (A := 100000000) (B := 1000000) hm b8
 have m2 := bd_mul (A := 100000000) (B := 1000000000) hm b9
 have h1 := part_nn (m := m) (n := p.y) (all := p.g + p.y) hm.1 b8.1 (by omega)
 have h2 := part_le_n (m := m) (n := p.y) (all := p.g + p.y) hm.1 b8.1 h
 have h3 := part_le_m (m := m) (n := p.y) (all := p.g + p.y) hm.1 b8.1 (by omega)
 have h4 := part_nn (m := m) (n := p.w) (all := p.g + p.y) hm.1 b9.1 (by omega)
 have h5 := part_le_n (m := m) (n := p.w) (all := p.g + p.y) hm.1 b9.1 h
 have hL : Hid (left p m = ⟨p.g - (m - Gas.part m p.y (p.g + p.y)), p.y - Gas.part m p.y (p.g + p.y), p.t, p.w - Gas.part m p.w (p.g + p.y)⟩) := rfl
 have hO : Hid (Gas.out p m = ⟨m - Gas.part m p.y (p.g + p.y), Gas.part m p.y (p.g + p.y), 0, Gas.part m p.w (p.g + p.y)⟩) := rfl
 have P1 := Lib.hid (fun w' => progPart m p.y (p.g + p.y) w' (by omega) (by omega))
 have P2 := Lib.hid (fun w' => progPart m p.w (p.g + p.y) w' (by omega) (by omega))
 generalize Gas.part m p.y (p.g + p.y) = H at *
 generalize Gas.part m p.w (p.g + p.y) = X at *
 clear hp m1 m2
 obtain ⟨W1, hW1⟩ : ∃ W1, w.alloc (.cells #[.int .i64 c.vlo, .int .i64 c.vhi, .int .i64 c.least, .int .i64 c.most, .int .i64 c.f0, .int .i64 c.f1, .int .i64 c.h0, .int .i64 c.h1, .int .i64 c.rock, .int .i64 c.plo, .int .i64 c.phi] 89) = W1 := ⟨_, rfl⟩
 obtain ⟨eW0, bW0, sW0⟩ := boxed hW1
 obtain ⟨W2, hW2⟩ : ∃ W2, W1.alloc (.cells #[.int .i64 p.g, .int .i64 p.y, .int .i64 p.t, .int .i64 p.w] 35) = W2 := ⟨_, rfl⟩
 obtain ⟨eW1, bW1, sW1⟩ := boxed hW2
 obtain ⟨W3, hW3⟩ : ∃ W3, W2.alloc (.cells #[.int .i64 0, .int .i64 0, .int .i64 0, .int .i64 0] 35) = W3 := ⟨_, rfl⟩
 obtain ⟨eW2, bW2, sW2⟩ := boxed hW3
 obtain ⟨W, hW⟩ : ∃ W, W3.alloc (.cells #[.int .i64 0, .int .i64 0, .int .i64 0, .int .i64 0] 35) = W := ⟨_, rfl⟩
 obtain ⟨eW3, bW3, sW3⟩ := boxed hW
 replace eW0 := (bW1.block _ (zqo eW0)).trans eW0
 replace eW0 := (bW2.block _ (zqo eW0)).trans eW0
 replace eW0 := (bW3.block _ (zqo eW0)).trans eW0
 replace eW1 := (bW2.block _ (zqo eW1)).trans eW1
 replace eW1 := (bW3.block _ (zqo eW1)).trans eW1
 replace eW2 := (bW3.block _ (zqo eW2)).trans eW2
 have hBw : Below w.heap.size w W := (by have := sW0; have := sW1; have := sW2; have := sW3; exact (((bW0.trans (bW1.mono (by omega))).trans (bW2.mono (by omega))).trans (bW3.mono (by omega))))
 obtain ⟨zW0, rW0, tW0⟩ := row_cells eW0
 obtain ⟨qW0_0, qW0_1, qW0_2, qW0_3, qW0_4, qW0_5, qW0_6, qW0_7, qW0_8, qW0_9, qW0_10⟩ := rc11 eW0
 obtain ⟨fW0_0, fW0_1, fW0_2, fW0_3, fW0_4, fW0_5, fW0_6, fW0_7, fW0_8, fW0_9, fW0_10⟩ := rf11 eW0
 clear rW0 tW0 eW0
 obtain ⟨zW1, rW1, tW1⟩ := row_cells eW1
 obtain ⟨qW1_0, qW1_1, qW1_2, qW1_3⟩ := rc4 eW1
 obtain ⟨fW1_0, fW1_1, fW1_2, fW1_3⟩ := rf4 eW1
 clear rW1 tW1 eW1
 obtain ⟨zW2, rW2, tW2⟩ := row_cells eW2
 obtain ⟨qW2_0, qW2_1, qW2_2, qW2_3⟩ := rc4 eW2
 obtain ⟨fW2_0, fW2_1, fW2_2, fW2_3⟩ := rf4 eW2
 clear rW2 tW2 eW2
 obtain ⟨zW3, rW3, tW3⟩ := row_cells eW3
 obtain ⟨qW3_0, qW3_1, qW3_2, qW3_3⟩ := rc4 eW3
 obtain ⟨fW3_0, fW3_1, fW3_2, fW3_3⟩ := rf4 eW3
 clear rW3 tW3 eW3
 have xW0 : w.heap.size ≤ w.heap.size := by omega
 have xW1 : w.heap.size ≤ W1.heap.size := by omega
 have xW2 : w.heap.size ≤ W2.heap.size := by omega
 have xW3 : w.heap.size ≤ W3.heap.size := by omega
 clear bW0 sW0 bW1 sW1 bW2 sW2 bW3 sW3
 have z1 := Nat.lt_succ_of_lt zW1
 have z2 := Nat.lt_succ_of_lt zW2
 have z3 := Nat.lt_succ_of_lt zW3
 have yx : W3.heap.size = W2.heap.size + 1 := (by rw [← hW3]; simp)
 have yx1 : W2.heap.size = W1.heap.size + 1 := (by rw [← hW2]; simp)
 have u1 : W2.heap.size ≠ W1.heap.size := by omega
 have u2 : W3.heap.size ≠ W1.heap.size := by omega
 have yy : W2.heap.size ≠ W3.heap.size := by have : W3.heap.size = W2.heap.size + 1 := (by rw [← hW3]; simp); omega
 clear yx yx1
 go_enter Tryz.func82, Tryz.ntmps82
 go_wp2_with (go_at_call 107; first | ((with_reducible refine Calls.mono (P1.out _) ?_); rintro e w1 ⟨rfl, rfl⟩) | ((with_reducible refine Calls.mono (P2.out _) ?_); rintro e w1 ⟨rfl, rfl⟩))
 obtain ⟨V, hV⟩ : ∃ V, W.alloc (.cells #[.int .i64 (m - H), .int .i64 H, .int .i64 0, .int .i64 X] 35) = V := ⟨_, rfl⟩
 obtain ⟨eV0, bV0, sV0⟩ := boxed hV
 have hBV : Below W.heap.size W V := bV0
 obtain ⟨zV0, rV0, tV0⟩ := row_cells eV0
 obtain ⟨qV0_0, qV0_1, qV0_2, qV0_3⟩ := rc4 eV0
 obtain ⟨fV0_0, fV0_1, fV0_2, fV0_3⟩ := rf4 eV0
 clear rV0 tV0 eV0
 have xV0 : W.heap.size ≤ W.heap.size := by omega
 clear bV0 sV0
 rw [hV]
 clear hV
 have u3 : W2.heap.size ≠ W.heap.size := by omega
 have u4 : W3.heap.size ≠ W.heap.size := by omega
 have k2 : ∀ i v, W.cell? ⟨W1.heap.size, i, none⟩ = some v → V.cell? ⟨W1.heap.size, i, none⟩ = some v := fun i v h => (below_cell hBV _ _ zW1).trans h
 have hC0 := And.intro (And.intro (k2 _ _ qW1_0) (And.intro (k2 _ _ qW1_1) (And.intro (k2 _ _ qW1_2) (k2 _ _ qW1_3)))) (And.intro qV0_0 (And.intro qV0_1 (And.intro qV0_2 qV0_3)))
 have r2 : ∀ i v, W.cell? ⟨W2.heap.size, i, none⟩ = some v → V.cell? ⟨W2.heap.size, i, none⟩ = some v := fun i v h => (below_cell hBV _ _ zW2).trans h
 have r3 : ∀ i v, W.cell? ⟨W3.heap.size, i, none⟩ = some v → V.cell? ⟨W3.heap.size, i, none⟩ = some v := fun i v h => (below_cell hBV _ _ zW3).trans h
 have e2 : ∀ i, W.frozen? ⟨W2.heap.size, i, none⟩ = false → V.frozen? ⟨W2.heap.size, i, none⟩ = false := fun i h => (below_frozen hBV _ _ zW2).trans h
 have e3 : ∀ i, W.frozen? ⟨W3.heap.size, i, none⟩ = false → V.frozen? ⟨W3.heap.size, i, none⟩ = false := fun i h => (below_frozen hBV _ _ zW3).trans h
 have c2_0 := r2 _ _ qW2_0
 have c3_0 := r3 _ _ qW3_0
 have d2_0 := e2 _ fW2_0
 have d3_0 := e3 _ fW3_0
 have c2_1 := r2 _ _ qW2_1
 have c3_1 := r3 _ _ qW3_1
 have d2_1 := e2 _ fW2_1
 have d3_1 := e3 _ fW3_1
 have c2_2 := r2 _ _ qW2_2
 have c3_2 := r3 _ _ qW3_2
 have d2_2 := e2 _ fW2_2
 have d3_2 := e3 _ fW3_2
 have c2_3 := r2 _ _ qW2_3
 have c3_3 := r3 _ _ qW3_3
 have d2_3 := e2 _ fW2_3
 have d3_3 := e3 _ fW3_3
 clear r2 r3 e2 e3 k2
 clear qW0_0 qW0_1 qW0_2 qW0_3 qW0_4 qW0_5 qW0_6 qW0_7 qW0_8 qW0_9 qW0_10 fW0_0 fW0_1 fW0_2 fW0_3 fW0_4 fW0_5 fW0_6 fW0_7 fW0_8 fW0_9 fW0_10 qW1_0 qW1_1 qW1_2 qW1_3 fW1_0 fW1_1 fW1_2 fW1_3 qW2_0 qW2_1 qW2_2 qW2_3 fW2_0 fW2_1 fW2_2 fW2_3 qW3_0 qW3_1 qW3_2 qW3_3 fW3_0 fW3_1 fW3_2 fW3_3 hW1 hW2 hW3 hW
 have hC1 : (fun w' => (w'.cell? ⟨W1.heap.size, 0, none⟩ = some (.int .i64 p.g) ∧ w'.cell? ⟨W1.heap.size, 1, none⟩ = some (.int .i64 p.y) ∧ w'.cell? ⟨W1.heap.size, 2, none⟩ = some (.int .i64 p.t) ∧ w'.cell? ⟨W1.heap.size, 3, none⟩ = some (.int .i64 p.w)) ∧ (w'.cell? ⟨W.heap.size, 0, none⟩ = some (.int .i64 (m - H)) ∧ w'.cell? ⟨W.heap.size, 1, none⟩ = some (.int .i64 H) ∧ w'.cell? ⟨W.heap.size, 2, none⟩ = some (.int .i64 0) ∧ w'.cell? ⟨W.heap.size, 3, none⟩ = some (.int .i64 X))) V.drew := hC0
 dsimp only at hC1
 clear hC0
 refine wp_region_held_drew (S := (fun w' => (w'.cell? ⟨W1.heap.size, 0, none⟩ = some (.int .i64 p.g) ∧ w'.cell? ⟨W1.heap.size, 1, none⟩ = some (.int .i64 p.y) ∧ w'.cell? ⟨W1.heap.size, 2, none⟩ = some (.int .i64 p.t) ∧ w'.cell? ⟨W1.heap.size, 3, none⟩ = some (.int .i64 p.w)) ∧ (w'.cell? ⟨W.heap.size, 0, none⟩ = some (.int .i64 (m - H)) ∧ w'.cell? ⟨W.heap.size, 1, none⟩ = some (.int .i64 H) ∧ w'.cell? ⟨W.heap.size, 2, none⟩ = some (.int .i64 0) ∧ w'.cell? ⟨W.heap.size, 3, none⟩ = some (.int .i64 X)))) (by kernel_rfl) ?_ (fun hHeld => ?_)
 · first | ((first | with_reducible exact hC1 | (with_reducible exact ⟨⟨far4d hHeld.1.1 u1, far4d hHeld.1.2.1 u1, far4d hHeld.1.2.2.1 u1, far4d hHeld.1.2.2.2 u1⟩, ⟨far4d hHeld.2.1 u3, far4d hHeld.2.2.1 u3, far4d hHeld.2.2.2.1 u3, far4d hHeld.2.2.2.2 u3⟩⟩) | (with_reducible exact ⟨⟨far4d hHeld.1.1 u2, far4d hHeld.1.2.1 u2, far4d hHeld.1.2.2.1 u2, far4d hHeld.1.2.2.2 u2⟩, ⟨far4d hHeld.2.1 u4, far4d hHeld.2.2.1 u4, far4d hHeld.2.2.2.1 u4, far4d hHeld.2.2.2.2 u4⟩⟩))) | (dsimp only; ((first | with_reducible exact hC1 | (with_reducible exact ⟨⟨far4d hHeld.1.1 u1, far4d hHeld.1.2.1 u1, far4d hHeld.1.2.2.1 u1, far4d hHeld.1.2.2.2 u1⟩, ⟨far4d hHeld.2.1 u3, far4d hHeld.2.2.1 u3, far4d hHeld.2.2.2.1 u3, far4d hHeld.2.2.2.2 u3⟩⟩) | (with_reducible exact ⟨⟨far4d hHeld.1.1 u2, far4d hHeld.1.2.1 u2, far4d hHeld.1.2.2.1 u2, far4d hHeld.1.2.2.2 u2⟩, ⟨far4d hHeld.2.1 u4, far4d hHeld.2.2.1 u4, far4d hHeld.2.2.2.1 u4, far4d hHeld.2.2.2.2 u4⟩⟩))))
 refine wpAnyH_take (i := 0) (v := ?_) rfl (by kernel_rfl) (by kernel_rfl) (by kernel_rfl) (fun _ _ _ h => h) (Or.inl ⟨by rfl, ?_⟩) (by assumption) ?_
 rotate_left
 · intro w hSw; (try dsimp only at hSw); go_simp; (try with_reducible rfl)
 try simp only [Act.put, List.setIfInBounds_toArray, List.set_cons_zero, List.set_cons_succ]
 refine wpAnyH_take (i := 1) (v := ?_) rfl (by kernel_rfl) (by kernel_rfl) (by kernel_rfl) (fun _ _ _ h => h) (Or.inl ⟨by rfl, ?_⟩) (by assumption) ?_
 rotate_left
 · intro w hSw; (try dsimp only at hSw); go_simp; (try with_reducible rfl)
 try simp only [Act.put, List.setIfInBounds_toArray, List.set_cons_zero, List.set_cons_succ]
 refine wpAnyH_take (i := 2) (v := ?_) rfl (by kernel_rfl) (by kernel_rfl) (by kernel_rfl) (fun _ _ _ h => h) (Or.inl ⟨by rfl, ?_⟩) (by assumption) ?_
 rotate_left
 · intro w hSw; (try dsimp only at hSw); go_simp; (try with_reducible rfl)
 try simp only [Act.put, List.setIfInBounds_toArray, List.set_cons_zero, List.set_cons_succ]
 refine wpAnyH_take (i := 3) (v := ?_) rfl (by kernel_rfl) (by kernel_rfl) (by kernel_rfl) (fun _ _ _ h => h) (Or.inl ⟨by rfl, ?_⟩) (by assumption) ?_
 rotate_left
 · intro w hSw; (try dsimp only at hSw); go_simp; (try with_reducible rfl)
 try simp only [Act.put, List.setIfInBounds_toArray, List.set_cons_zero, List.set_cons_succ]
 refine wpAnyH_take (i := 4) (v := ?_) rfl (by kernel_rfl) (by kernel_rfl) (by kernel_rfl) (fun _ _ _ h => h) (Or.inl ⟨by rfl, ?_⟩) (by assumption) ?_
 rotate_left
 · intro w hSw; (try dsimp only at hSw); go_simp; (try with_reducible rfl)
 try simp only [Act.put, List.setIfInBounds_toArray, List.set_cons_zero, List.set_cons_succ]
 refine wpAnyH_take (i := 5) (v := ?_) rfl (by kernel_rfl) (by kernel_rfl) (by kernel_rfl) (fun _ _ _ h => h) (Or.inl ⟨by rfl, ?_⟩) (by assumption) ?_
 rotate_left
 · intro w hSw; (try dsimp only at hSw); go_simp; (try with_reducible rfl)
 try simp only [Act.put, List.setIfInBounds_toArray, List.set_cons_zero, List.set_cons_succ]
 refine wpAnyH_take (i := 6) (v := ?_) rfl (by kernel_rfl) (by kernel_rfl) (by kernel_rfl) (fun _ _ _ h => h) (Or.inl ⟨by rfl, ?_⟩) (by assumption) ?_
 rotate_left
 · intro w hSw; (try dsimp only at hSw); go_simp; (try with_reducible rfl)
 try simp only [Act.put, List.setIfInBounds_toArray, List.set_cons_zero, List.set_cons_succ]
 refine wpAnyH_take (i := 7) (v := ?_) rfl (by kernel_rfl) (by kernel_rfl) (by kernel_rfl) (fun _ _ _ h => h) (Or.inl ⟨by rfl, ?_⟩) (by assumption) ?_
 rotate_left
 · intro w hSw; (try dsimp only at hSw); go_simp; (try with_reducible rfl)
 try simp only [Act.put, List.setIfInBounds_toArray, List.set_cons_zero, List.set_cons_succ]
 refine wpAnyH_take (i := 8) (v := ?_) rfl (by kernel_rfl) (by kernel_rfl) (by kernel_rfl) (fun _ _ _ h => h) (Or.inl ⟨by rfl, ?_⟩) (by assumption) ?_
 rotate_left
 · intro w hSw; (try dsimp only at hSw); go_simp; (try with_reducible rfl)
 try simp only [Act.put, List.setIfInBounds_toArray, List.set_cons_zero, List.set_cons_succ]
 refine wpAnyH_take (i := 9) (v := ?_) rfl (by kernel_rfl) (by kernel_rfl) (by kernel_rfl) (fun _ _ _ h => h) (Or.inl ⟨by rfl, ?_⟩) (by assumption) ?_
 rotate_left
 · intro w hSw; (try dsimp only at hSw); go_simp; (try with_reducible rfl)
 try simp only [Act.put, List.setIfInBounds_toArray, List.set_cons_zero, List.set_cons_succ]
 refine wpAnyH_take (i := 10) (v := ?_) rfl (by kernel_rfl) (by kernel_rfl) (by kernel_rfl) (fun _ _ _ h => h) (Or.inl ⟨by rfl, ?_⟩) (by assumption) ?_
 rotate_left
 · intro w hSw; (try dsimp only at hSw); go_simp; (try with_reducible rfl)
 try simp only [Act.put, List.setIfInBounds_toArray, List.set_cons_zero, List.set_cons_succ]
 refine wpAnyH_take (i := 11) (v := ?_) rfl (by kernel_rfl) (by kernel_rfl) (by kernel_rfl) (fun _ _ _ h => h) (Or.inl ⟨by rfl, ?_⟩) (by assumption) ?_
 rotate_left
 · intro w hSw; (try dsimp only at hSw); go_simp; (try with_reducible rfl)
 try simp only [Act.put, List.setIfInBounds_toArray, List.set_cons_zero, List.set_cons_succ]
 refine wpAnyH_take (i := 12) (v := ?_) rfl (by kernel_rfl) (by kernel_rfl) (by kernel_rfl) (fun _ _ _ h => h) (Or.inl ⟨by rfl, ?_⟩) (by assumption) ?_
 rotate_left
 · intro w hSw; (try dsimp only at hSw); go_simp; (try with_reducible rfl)
 try simp only [Act.put, List.setIfInBounds_toArray, List.set_cons_zero, List.set_cons_succ]
 refine wpAnyH_take (i := 13) (v := ?_) rfl (by kernel_rfl) (by kernel_rfl) (by kernel_rfl) (fun _ _ _ h => h) (Or.inl ⟨by rfl, ?_⟩) (by assumption) ?_
 rotate_left
 · intro w hSw; (try dsimp only at hSw); go_simp; (try with_reducible rfl)
 try simp only [Act.put, List.setIfInBounds_toArray, List.set_cons_zero, List.set_cons_succ]
 refine wpAnyH_take (i := 14) (v := ?_) rfl (by kernel_rfl) (by kernel_rfl) (by kernel_rfl) (fun _ _ _ h => h) (Or.inl ⟨by rfl, ?_⟩) (by assumption) ?_
 rotate_left
 · intro w hSw; (try dsimp only at hSw); go_simp; (try with_reducible rfl)
 try simp only [Act.put, List.setIfInBounds_toArray, List.set_cons_zero, List.set_cons_succ]
 refine wpAnyH_take (i := 15) (v := ?_) rfl (by kernel_rfl) (by kernel_rfl) (by kernel_rfl) (fun _ _ _ h => h) (Or.inl ⟨by rfl, ?_⟩) (by assumption) ?_
 rotate_left
 · intro w hSw; (try dsimp only at hSw); go_simp; (try with_reducible rfl)
 try simp only [Act.put, List.setIfInBounds_toArray, List.set_cons_zero, List.set_cons_succ]
 refine wpAnyH_take (i := 16) (v := ?_) rfl (by kernel_rfl) (by kernel_rfl) (by kernel_rfl) (fun _ _ _ h => h) (Or.inl ⟨by rfl, ?_⟩) (by assumption) ?_
 rotate_left
 · intro w hSw; (try dsimp only at hSw); go_simp; (try with_reducible rfl)
 try simp only [Act.put, List.setIfInBounds_toArray, List.set_cons_zero, List.set_cons_succ]
 refine wpAnyH_take (i := 17) (v := ?_) rfl (by kernel_rfl) (by kernel_rfl) (by kernel_rfl) (fun _ _ _ h => h) (Or.inl ⟨by rfl, ?_⟩) (by assumption) ?_
 rotate_left
 · intro w hSw; (try dsimp only at hSw); go_simp; (try with_reducible rfl)
 try simp only [Act.put, List.setIfInBounds_toArray, List.set_cons_zero, List.set_cons_succ]
 refine wpAnyH_take (i := 18) (v := ?_) rfl (by kernel_rfl) (by kernel_rfl) (by kernel_rfl) (fun _ _ _ h => h) (Or.inl ⟨by rfl, ?_⟩) (by assumption) ?_
 rotate_left
 · intro w hSw; (try dsimp only at hSw); go_simp; (try with_reducible rfl)
 try simp only [Act.put, List.setIfInBounds_toArray, List.set_cons_zero, List.set_cons_succ]
 refine wpAnyH_ready (rs := [19]) (by kernel_rfl) (by simp) ?_
 refine AllReadyH.cons rfl (fun K hK => ?_) AllReadyH.nil
 go_simp
 refine hK.out _ _ ?_ (fun hNow => ?_)
 · first | ((first | with_reducible exact hC1 | (with_reducible exact ⟨⟨far4d hHeld.1.1 u1, far4d hHeld.1.2.1 u1, far4d hHeld.1.2.2.1 u1, far4d hHeld.1.2.2.2 u1⟩, ⟨far4d hHeld.2.1 u3, far4d hHeld.2.2.1 u3, far4d hHeld.2.2.2.1 u3, far4d hHeld.2.2.2.2 u3⟩⟩) | (with_reducible exact ⟨⟨far4d hHeld.1.1 u2, far4d hHeld.1.2.1 u2, far4d hHeld.1.2.2.1 u2, far4d hHeld.1.2.2.2 u2⟩, ⟨far4d hHeld.2.1 u4, far4d hHeld.2.2.1 u4, far4d hHeld.2.2.2.1 u4, far4d hHeld.2.2.2.2 u4⟩⟩))) | (dsimp only; ((first | with_reducible exact hC1 | (with_reducible exact ⟨⟨far4d hHeld.1.1 u1, far4d hHeld.1.2.1 u1, far4d hHeld.1.2.2.1 u1, far4d hHeld.1.2.2.2 u1⟩, ⟨far4d hHeld.2.1 u3, far4d hHeld.2.2.1 u3, far4d hHeld.2.2.2.1 u3, far4d hHeld.2.2.2.2 u3⟩⟩) | (with_reducible exact ⟨⟨far4d hHeld.1.1 u2, far4d hHeld.1.2.1 u2, far4d hHeld.1.2.2.1 u2, far4d hHeld.1.2.2.2 u2⟩, ⟨far4d hHeld.2.1 u4, far4d hHeld.2.2.1 u4, far4d hHeld.2.2.2.1 u4, far4d hHeld.2.2.2.2 u4⟩⟩))))
 clear hK K hHeld
 have hHeld := hNow
 clear hNow
 try simp only [Act.put, List.setIfInBounds_toArray, List.set_cons_zero, List.set_cons_succ]
 refine wpAnyH_ready (rs := [20]) (by kernel_rfl) (by simp) ?_
 refine AllReadyH.cons rfl (fun K hK => ?_) AllReadyH.nil
 go_simp
 refine hK.out _ _ ?_ (fun hNow => ?_)
 · first | ((first | with_reducible exact hC1 | (with_reducible exact ⟨⟨far4d hHeld.1.1 u1, far4d hHeld.1.2.1 u1, far4d hHeld.1.2.2.1 u1, far4d hHeld.1.2.2.2 u1⟩, ⟨far4d hHeld.2.1 u3, far4d hHeld.2.2.1 u3, far4d hHeld.2.2.2.1 u3, far4d hHeld.2.2.2.2 u3⟩⟩) | (with_reducible exact ⟨⟨far4d hHeld.1.1 u2, far4d hHeld.1.2.1 u2, far4d hHeld.1.2.2.1 u2, far4d hHeld.1.2.2.2 u2⟩, ⟨far4d hHeld.2.1 u4, far4d hHeld.2.2.1 u4, far4d hHeld.2.2.2.1 u4, far4d hHeld.2.2.2.2 u4⟩⟩))) | (dsimp only; ((first | with_reducible exact hC1 | (with_reducible exact ⟨⟨far4d hHeld.1.1 u1, far4d hHeld.1.2.1 u1, far4d hHeld.1.2.2.1 u1, far4d hHeld.1.2.2.2 u1⟩, ⟨far4d hHeld.2.1 u3, far4d hHeld.2.2.1 u3, far4d hHeld.2.2.2.1 u3, far4d hHeld.2.2.2.2 u3⟩⟩) | (with_reducible exact ⟨⟨far4d hHeld.1.1 u2, far4d hHeld.1.2.1 u2, far4d hHeld.1.2.2.1 u2, far4d hHeld.1.2.2.2 u2⟩, ⟨far4d hHeld.2.1 u4, far4d hHeld.2.2.1 u4, far4d hHeld.2.2.2.1 u4, far4d hHeld.2.2.2.2 u4⟩⟩))))
 clear hK K hHeld
 have hHeld := hNow
 clear hNow
 try simp only [Act.put, List.setIfInBounds_toArray, List.set_cons_zero, List.set_cons_succ]
 refine wpAnyH_done (by kernel_rfl) ?_ _
 go_wp2
 refine bodyPost_ret (v := .tuple #[.agg #[.int .i64 (IntKind.i64.wrap (p.g - (m - H))), .int .i64 (IntKind.i64.wrap (p.y - H)), .int .i64 p.t, .int .i64 (IntKind.i64.wrap (p.w - X))], ptV ⟨m - H, H, 0, X⟩]) (by simp only [results, Tryz.results82]; simp [go_sem, c2_0, c2_1, c2_2, c2_3, c3_0, c3_1, c3_2, c3_3, d2_0, d2_1, d2_2, d2_3, d3_0, d3_1, d3_2, d3_3, yy, Ne.symm yy]) rfl ⟨?_, ?_⟩
 · rw [hL.out, hO.out, IntWalk.i64_in (p.g - (m - H)) (by omega), IntWalk.i64_in (p.y - H) (by omega), IntWalk.i64_in (p.w - X) (by omega)]
 have hfin : Below w.heap.size w V := hBw.trans (hBV.mono hBw.size)
 refine Below.drew ?_
 repeat' (first | (with_reducible exact hfin) | (with_reducible exact xW2) | (with_reducible exact xW3) | refine Below.setCell ?_ ?_ _)
end Go.Proofs.YthjmdagonfeneaaGreat.G
