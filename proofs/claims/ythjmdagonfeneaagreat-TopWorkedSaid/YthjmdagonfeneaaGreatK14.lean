/- Laws and walks: GDos. -/
import Derived.Test.YthjmdagonfeneaaGreatK13
set_option maxRecDepth 100000
set_option maxHeartbeats 16000000
set_option linter.unusedVariables false
set_option linter.unusedSimpArgs false
namespace Go.Proofs.YthjmdagonfeneaaGreat.G
open Go.RowKit Go.Sd Gas
theorem progDoesY {f : Nat} (c : Cav) (s : St) (o : Gas.Op) (n : St) (q : Gas.Out) (w : World) (hk : (o.kind = 1 ∧ f = 119) ∨ (o.kind = 2 ∧ f = 120) ∨ (o.kind = 3 ∧ f = 121))
    (en : ∀ args w, (callFunc f args).run Tryz.prog w = .ok (.enter f args) w)
    (hcall : ∀ W', w.heap.size ≤ W'.heap.size → Calls Tryz.prog f #[cavV c, stV s, opV o] W' (fun e w' => e = .returned (.tuple #[stV n, outV q]) ∧ Below W'.heap.size W' w')) :
    Calls Tryz.prog 60 #[cavV c, stV s, opV o] w fun e w' => e = .returned (.tuple #[stV n, outV q, .bool true]) ∧ Below w.heap.size w w' := by
 obtain ⟨X1, hX1⟩ : ∃ X1, w.alloc (.cells #[.int .i64 c.vlo, .int .i64 c.vhi, .int .i64 c.least, .int .i64 c.most, .int .i64 c.f0, .int .i64 c.f1, .int .i64 c.h0, .int .i64 c.h1, .int .i64 c.rock, .int .i64 c.plo, .int .i64 c.phi] 89) = X1 := ⟨_, rfl⟩
 obtain ⟨eX0, bX0, sX0⟩ := boxed hX1
 have yX0_0 : w.heap.size < X1.heap.size := by omega
 obtain ⟨mX0_0_0, mX0_0_1, mX0_0_2, mX0_0_3, mX0_0_4, mX0_0_5, mX0_0_6, mX0_0_7, mX0_0_8, mX0_0_9, mX0_0_10⟩ := rc11 eX0
 obtain ⟨X2, hX2⟩ : ∃ X2, X1.alloc (.cells #[.int .i64 s.glo, .int .i64 s.ghi, .int .i64 s.ylo, .int .i64 s.yhi, .int .i64 s.tlo, .int .i64 s.thi, .int .i64 s.wlo, .int .i64 s.whi] 33) = X2 := ⟨_, rfl⟩
 obtain ⟨eX1, bX1, sX1⟩ := boxed hX2
 have yX1_0 : w.heap.size < X2.heap.size := by omega
 replace eX0 := (bX1.block _ (zqo eX0)).trans eX0
 obtain ⟨mX1_0_0, mX1_0_1, mX1_0_2, mX1_0_3, mX1_0_4, mX1_0_5, mX1_0_6, mX1_0_7, mX1_0_8, mX1_0_9, mX1_0_10⟩ := rc11 eX0
 have yX1_1 : X1.heap.size < X2.heap.size := by omega
 obtain ⟨mX1_1_0, mX1_1_1, mX1_1_2, mX1_1_3, mX1_1_4, mX1_1_5, mX1_1_6, mX1_1_7⟩ := rc8 eX1
 obtain ⟨X3, hX3⟩ : ∃ X3, X2.alloc (.cells #[.int .i64 o.kind, .int .i64 o.lg, .int .i64 o.ly, .int .i64 o.lt, .int .i64 o.lw, .int .i64 o.moles, .int .i64 o.slo, .int .i64 o.shi, .int .i64 o.wlo, .int .i64 o.whi] 83) = X3 := ⟨_, rfl⟩
 obtain ⟨eX2, bX2, sX2⟩ := boxed hX3
 have yX2_0 : w.heap.size < X3.heap.size := by omega
 replace eX0 := (bX2.block _ (zqo eX0)).trans eX0
 obtain ⟨mX2_0_0, mX2_0_1, mX2_0_2, mX2_0_3, mX2_0_4, mX2_0_5, mX2_0_6, mX2_0_7, mX2_0_8, mX2_0_9, mX2_0_10⟩ := rc11 eX0
 have yX2_1 : X1.heap.size < X3.heap.size := by omega
 replace eX1 := (bX2.block _ (zqo eX1)).trans eX1
 obtain ⟨mX2_1_0, mX2_1_1, mX2_1_2, mX2_1_3, mX2_1_4, mX2_1_5, mX2_1_6, mX2_1_7⟩ := rc8 eX1
 have yX2_2 : X2.heap.size < X3.heap.size := by omega
 obtain ⟨mX2_2_0, mX2_2_1, mX2_2_2, mX2_2_3, mX2_2_4, mX2_2_5, mX2_2_6, mX2_2_7, mX2_2_8, mX2_2_9⟩ := rc10 eX2
 obtain ⟨X4, hX4⟩ : ∃ X4, X3.alloc (.cells #[.int .i64 0, .int .i64 0, .int .i64 0, .int .i64 0, .int .i64 0, .int .i64 0, .int .i64 0, .int .i64 0] 33) = X4 := ⟨_, rfl⟩
 obtain ⟨eX3, bX3, sX3⟩ := boxed hX4
 have yX3_0 : w.heap.size < X4.heap.size := by omega
 replace eX0 := (bX3.block _ (zqo eX0)).trans eX0
 obtain ⟨mX3_0_0, mX3_0_1, mX3_0_2, mX3_0_3, mX3_0_4, mX3_0_5, mX3_0_6, mX3_0_7, mX3_0_8, mX3_0_9, mX3_0_10⟩ := rc11 eX0
 have yX3_1 : X1.heap.size < X4.heap.size := by omega
 replace eX1 := (bX3.block _ (zqo eX1)).trans eX1
 obtain ⟨mX3_1_0, mX3_1_1, mX3_1_2, mX3_1_3, mX3_1_4, mX3_1_5, mX3_1_6, mX3_1_7⟩ := rc8 eX1
 have yX3_2 : X2.heap.size < X4.heap.size := by omega
 replace eX2 := (bX3.block _ (zqo eX2)).trans eX2
 obtain ⟨mX3_2_0, mX3_2_1, mX3_2_2, mX3_2_3, mX3_2_4, mX3_2_5, mX3_2_6, mX3_2_7, mX3_2_8, mX3_2_9⟩ := rc10 eX2
 have yX3_3 : X3.heap.size < X4.heap.size := by omega
 obtain ⟨mX3_3_0, mX3_3_1, mX3_3_2, mX3_3_3, mX3_3_4, mX3_3_5, mX3_3_6, mX3_3_7⟩ := rc8 eX3
 obtain ⟨X, hX⟩ : ∃ X, X4.alloc (.cells #[.int .i64 0, .int .i64 0, .int .i64 0, .int .i64 0, .int .i64 0, .int .i64 0] 76) = X := ⟨_, rfl⟩
 obtain ⟨eX4, bX4, sX4⟩ := boxed hX
 replace eX0 := (bX4.block _ (zqo eX0)).trans eX0
 replace eX1 := (bX4.block _ (zqo eX1)).trans eX1
 replace eX2 := (bX4.block _ (zqo eX2)).trans eX2
 replace eX3 := (bX4.block _ (zqo eX3)).trans eX3
 have hBX : Below w.heap.size w X := (by have := sX0; have := sX1; have := sX2; have := sX3; have := sX4; exact ((((bX0.trans (bX1.mono (by omega))).trans (bX2.mono (by omega))).trans (bX3.mono (by omega))).trans (bX4.mono (by omega))))
 obtain ⟨zX0, rX0, tX0⟩ := row_cells eX0
 obtain ⟨qX0_0, qX0_1, qX0_2, qX0_3, qX0_4, qX0_5, qX0_6, qX0_7, qX0_8, qX0_9, qX0_10⟩ := rc11 eX0
 obtain ⟨fX0_0, fX0_1, fX0_2, fX0_3, fX0_4, fX0_5, fX0_6, fX0_7, fX0_8, fX0_9, fX0_10⟩ := rf11 eX0
 have EX0 := Lib.hid eX0
 clear rX0 tX0 eX0
 obtain ⟨zX1, rX1, tX1⟩ := row_cells eX1
 obtain ⟨qX1_0, qX1_1, qX1_2, qX1_3, qX1_4, qX1_5, qX1_6, qX1_7⟩ := rc8 eX1
 obtain ⟨fX1_0, fX1_1, fX1_2, fX1_3, fX1_4, fX1_5, fX1_6, fX1_7⟩ := rf8 eX1
 have EX1 := Lib.hid eX1
 clear rX1 tX1 eX1
 obtain ⟨zX2, rX2, tX2⟩ := row_cells eX2
 obtain ⟨qX2_0, qX2_1, qX2_2, qX2_3, qX2_4, qX2_5, qX2_6, qX2_7, qX2_8, qX2_9⟩ := rc10 eX2
 obtain ⟨fX2_0, fX2_1, fX2_2, fX2_3, fX2_4, fX2_5, fX2_6, fX2_7, fX2_8, fX2_9⟩ := rf10 eX2
 have EX2 := Lib.hid eX2
 clear rX2 tX2 eX2
 obtain ⟨zX3, rX3, tX3⟩ := row_cells eX3
 obtain ⟨qX3_0, qX3_1, qX3_2, qX3_3, qX3_4, qX3_5, qX3_6, qX3_7⟩ := rc8 eX3
 obtain ⟨fX3_0, fX3_1, fX3_2, fX3_3, fX3_4, fX3_5, fX3_6, fX3_7⟩ := rf8 eX3
 have EX3 := Lib.hid eX3
 clear rX3 tX3 eX3
 obtain ⟨zX4, rX4, tX4⟩ := row_cells eX4
 obtain ⟨qX4_0, qX4_1, qX4_2, qX4_3, qX4_4, qX4_5⟩ := rc6 eX4
 obtain ⟨fX4_0, fX4_1, fX4_2, fX4_3, fX4_4, fX4_5⟩ := rf6 eX4
 have EX4 := Lib.hid eX4
 clear rX4 tX4 eX4
 have xX0 : w.heap.size ≤ w.heap.size := by omega
 have xX1 : w.heap.size ≤ X1.heap.size := by omega
 have xX2 : w.heap.size ≤ X2.heap.size := by omega
 have xX3 : w.heap.size ≤ X3.heap.size := by omega
 have xX4 : w.heap.size ≤ X4.heap.size := by omega
 clear bX0 sX0 bX1 sX1 bX2 sX2 bX3 sX3 bX4 sX4
 have hbX : Below w.heap.size w X := hBX
 have hen : ∀ args w, (callFunc 91 args).run Tryz.prog w = .ok (.enter 91 args) w := fun args w => by kernel_rfl
 obtain ⟨W, hW⟩ : ∃ W, X.alloc (.cells #[.bool false] 4) = W := ⟨_, rfl⟩
 have hbW : Below X.heap.size X W := by rw [← hW]; exact (Below.refl _ _).alloc (Nat.le_refl _) _
 have hlt : X.heap.size < W.heap.size := by obtain ⟨e0, b0, s0⟩ := boxed hW; omega
 have up : ∀ {k v}, X.heap[k]? = some v → W.heap[k]? = some v := fun h => (hbW.block _ (zqo h)).trans h
 have hd1 := progDoes1Y (bo := X2.heap.size) (bc := w.heap.size) (bs := X1.heap.size) (b3 := X3.heap.size) (b4 := X4.heap.size) c s o n q W hk (up EX0.out) (up EX1.out) (up EX2.out) (up EX3.out) (up EX4.out) (by omega) en (fun W' h => hcall W' (Nat.le_trans (hbX.trans (hbW.mono hbX.size)).size h))
 have hDone := Lib.hid (progDoneY X W (fun V => V.heap[X3.heap.size]? = some (.cells #[.int .i64 n.glo, .int .i64 n.ghi, .int .i64 n.ylo, .int .i64 n.yhi, .int .i64 n.tlo, .int .i64 n.thi, .int .i64 n.wlo, .int .i64 n.whi] 33 (0, 0)) ∧ V.heap[X4.heap.size]? = some (.cells #[.int .i64 q.glo, .int .i64 q.ghi, .int .i64 q.ylo, .int .i64 q.yhi, .int .i64 q.wlo, .int .i64 q.whi] 76 (0, 0)) ∧ Below w.heap.size w V) hW hen (hd1.mono fun e V hV => ⟨hV.1, hV.2.2.2.2.block _ (by exact hlt) ⟨by omega, by omega⟩, hV.2.2.1, hV.2.2.2.1, (hbX.trans (hbW.mono hbX.size)).trans (hV.2.2.2.2.below (Nat.le_trans hbX.size hbW.size) fun k hk => ⟨by omega, by omega⟩)⟩))
 have hDone2 : Calls Tryz.prog 79 _ _ (fun e V2 => e = .returned (.bool true) ∧ V2.heap[X3.heap.size]? = some (.cells #[.int .i64 n.glo, .int .i64 n.ghi, .int .i64 n.ylo, .int .i64 n.yhi, .int .i64 n.tlo, .int .i64 n.thi, .int .i64 n.wlo, .int .i64 n.whi] 33 (0, 0)) ∧ V2.heap[X4.heap.size]? = some (.cells #[.int .i64 q.glo, .int .i64 q.ghi, .int .i64 q.ylo, .int .i64 q.yhi, .int .i64 q.wlo, .int .i64 q.whi] 76 (0, 0)) ∧ Below w.heap.size w V2) := (hDone.out.mono (by
  rintro e V2 ⟨rfl, V, ⟨g3, g4, hV⟩, rfl⟩
  exact ⟨rfl, (Below.heap_setCell _ _ _ _ (by simp only; omega)).trans g3, (Below.heap_setCell _ _ _ _ (by simp only; omega)).trans g4, hV.setCell hbX.size _⟩))
 clear hDone
 replace hDone2 := Lib.hid hDone2
 clear hd1 up hcall hlt hbW hW en hk
 go_enter Tryz.func60, Tryz.ntmps60
 go_wp2_with (go_at_call 79; refine Calls.mono hDone2.out ?_; rintro e V2 ⟨rfl, g3, g4, hV⟩)
 refine wp_region_noPanic ?_
 refine wp_region_held_drew (S := (fun V => V.heap[X3.heap.size]? = some (.cells #[.int .i64 n.glo, .int .i64 n.ghi, .int .i64 n.ylo, .int .i64 n.yhi, .int .i64 n.tlo, .int .i64 n.thi, .int .i64 n.wlo, .int .i64 n.whi] 33 (0, 0)) ∧ V.heap[X4.heap.size]? = some (.cells #[.int .i64 q.glo, .int .i64 q.ghi, .int .i64 q.ylo, .int .i64 q.yhi, .int .i64 q.wlo, .int .i64 q.whi] 76 (0, 0)) ∧ Below w.heap.size w V)) (by kernel_rfl) ⟨g3, g4, hV.drew⟩ (fun hHeld => ?_)
 generalize V2.drew = Y at hHeld ⊢
 refine wpAnyH_take (i := 0) (v := stV n) rfl (by kernel_rfl) (by kernel_rfl) (by kernel_rfl) (fun _ _ _ h => h) (Or.inl ⟨by rfl, ?_⟩) hHeld ?_
 · intro w' hSw; have k3 := (row_cells hSw.1).2.1; have c0 := k3 0; simp only [List.getElem?_toArray, List.getElem?_cons_zero, List.getElem?_cons_succ] at c0; have c1 := k3 1; simp only [List.getElem?_toArray, List.getElem?_cons_zero, List.getElem?_cons_succ] at c1; have c2 := k3 2; simp only [List.getElem?_toArray, List.getElem?_cons_zero, List.getElem?_cons_succ] at c2; have c3 := k3 3; simp only [List.getElem?_toArray, List.getElem?_cons_zero, List.getElem?_cons_succ] at c3; have c4 := k3 4; simp only [List.getElem?_toArray, List.getElem?_cons_zero, List.getElem?_cons_succ] at c4; have c5 := k3 5; simp only [List.getElem?_toArray, List.getElem?_cons_zero, List.getElem?_cons_succ] at c5; have c6 := k3 6; simp only [List.getElem?_toArray, List.getElem?_cons_zero, List.getElem?_cons_succ] at c6; have c7 := k3 7; simp only [List.getElem?_toArray, List.getElem?_cons_zero, List.getElem?_cons_succ] at c7; go_simp; (try with_reducible rfl)
 try simp only [Act.put, List.setIfInBounds_toArray, List.set_cons_zero, List.set_cons_succ]
 refine wpAnyH_take (i := 1) (v := outV q) rfl (by kernel_rfl) (by kernel_rfl) (by kernel_rfl) (fun _ _ _ h => h) (Or.inl ⟨by rfl, ?_⟩) hHeld ?_
 · intro w' hSw; have k4 := (row_cells hSw.2.1).2.1; have d0 := k4 0; simp only [List.getElem?_toArray, List.getElem?_cons_zero, List.getElem?_cons_succ] at d0; have d1 := k4 1; simp only [List.getElem?_toArray, List.getElem?_cons_zero, List.getElem?_cons_succ] at d1; have d2 := k4 2; simp only [List.getElem?_toArray, List.getElem?_cons_zero, List.getElem?_cons_succ] at d2; have d3 := k4 3; simp only [List.getElem?_toArray, List.getElem?_cons_zero, List.getElem?_cons_succ] at d3; have d4 := k4 4; simp only [List.getElem?_toArray, List.getElem?_cons_zero, List.getElem?_cons_succ] at d4; have d5 := k4 5; simp only [List.getElem?_toArray, List.getElem?_cons_zero, List.getElem?_cons_succ] at d5; go_simp; (try with_reducible rfl)
 try simp only [Act.put, List.setIfInBounds_toArray, List.set_cons_zero, List.set_cons_succ]
 refine wpAnyH_take (i := 2) (v := .bool true) rfl (by kernel_rfl) (by kernel_rfl) (by kernel_rfl) (fun _ _ _ h => h) (Or.inl ⟨by rfl, ?_⟩) hHeld ?_
 · intro w' hSw; go_simp; (try with_reducible rfl)
 try simp only [Act.put, List.setIfInBounds_toArray, List.set_cons_zero, List.set_cons_succ]
 have y3 := row_cells hHeld.1
 have y4 := row_cells hHeld.2.1
 have q3_0 : Y.cell? ⟨X3.heap.size, 0, none⟩ = some (.int .i64 n.glo) := y3.2.1 0
 have f3_0 : Y.frozen? ⟨X3.heap.size, 0, none⟩ = false := y3.2.2 0
 have q3_1 : Y.cell? ⟨X3.heap.size, 1, none⟩ = some (.int .i64 n.ghi) := y3.2.1 1
 have f3_1 : Y.frozen? ⟨X3.heap.size, 1, none⟩ = false := y3.2.2 1
 have q3_2 : Y.cell? ⟨X3.heap.size, 2, none⟩ = some (.int .i64 n.ylo) := y3.2.1 2
 have f3_2 : Y.frozen? ⟨X3.heap.size, 2, none⟩ = false := y3.2.2 2
 have q3_3 : Y.cell? ⟨X3.heap.size, 3, none⟩ = some (.int .i64 n.yhi) := y3.2.1 3
 have f3_3 : Y.frozen? ⟨X3.heap.size, 3, none⟩ = false := y3.2.2 3
 have q3_4 : Y.cell? ⟨X3.heap.size, 4, none⟩ = some (.int .i64 n.tlo) := y3.2.1 4
 have f3_4 : Y.frozen? ⟨X3.heap.size, 4, none⟩ = false := y3.2.2 4
 have q3_5 : Y.cell? ⟨X3.heap.size, 5, none⟩ = some (.int .i64 n.thi) := y3.2.1 5
 have f3_5 : Y.frozen? ⟨X3.heap.size, 5, none⟩ = false := y3.2.2 5
 have q3_6 : Y.cell? ⟨X3.heap.size, 6, none⟩ = some (.int .i64 n.wlo) := y3.2.1 6
 have f3_6 : Y.frozen? ⟨X3.heap.size, 6, none⟩ = false := y3.2.2 6
 have q3_7 : Y.cell? ⟨X3.heap.size, 7, none⟩ = some (.int .i64 n.whi) := y3.2.1 7
 have f3_7 : Y.frozen? ⟨X3.heap.size, 7, none⟩ = false := y3.2.2 7
 have q4_0 : Y.cell? ⟨X4.heap.size, 0, none⟩ = some (.int .i64 q.glo) := y4.2.1 0
 have f4_0 : Y.frozen? ⟨X4.heap.size, 0, none⟩ = false := y4.2.2 0
 have q4_1 : Y.cell? ⟨X4.heap.size, 1, none⟩ = some (.int .i64 q.ghi) := y4.2.1 1
 have f4_1 : Y.frozen? ⟨X4.heap.size, 1, none⟩ = false := y4.2.2 1
 have q4_2 : Y.cell? ⟨X4.heap.size, 2, none⟩ = some (.int .i64 q.ylo) := y4.2.1 2
 have f4_2 : Y.frozen? ⟨X4.heap.size, 2, none⟩ = false := y4.2.2 2
 have q4_3 : Y.cell? ⟨X4.heap.size, 3, none⟩ = some (.int .i64 q.yhi) := y4.2.1 3
 have f4_3 : Y.frozen? ⟨X4.heap.size, 3, none⟩ = false := y4.2.2 3
 have q4_4 : Y.cell? ⟨X4.heap.size, 4, none⟩ = some (.int .i64 q.wlo) := y4.2.1 4
 have f4_4 : Y.frozen? ⟨X4.heap.size, 4, none⟩ = false := y4.2.2 4
 have q4_5 : Y.cell? ⟨X4.heap.size, 5, none⟩ = some (.int .i64 q.whi) := y4.2.1 5
 have f4_5 : Y.frozen? ⟨X4.heap.size, 5, none⟩ = false := y4.2.2 5
 have h34 : X3.heap.size ≠ X4.heap.size := by omega
 have h43 : X4.heap.size ≠ X3.heap.size := by omega
 have z3 : w.heap.size ≤ X3.heap.size := by omega
 have z4 : w.heap.size ≤ X4.heap.size := by omega
 refine wpAnyH_ready (rs := [3]) (by kernel_rfl) (by simp) ?_
 refine AllReadyH.cons rfl (fun K hK => ?_) AllReadyH.nil
 go_simp
 refine hK.out _ _ ⟨set_cells8 hHeld.1 _ _ _ _ _ _ _ _, (set_other8 _ _ _ _ _ _ _ _ h43).trans hHeld.2.1, set_below8 hHeld.2.2 z3 _ _ _ _ _ _ _ _⟩ (fun hNow => ?_)
 clear hK K hHeld
 have hHeld := hNow
 clear hNow
 try simp only [Act.put, List.setIfInBounds_toArray, List.set_cons_zero, List.set_cons_succ]
 refine wpAnyH_ready (rs := [4]) (by kernel_rfl) (by simp) ?_
 refine AllReadyH.cons rfl (fun K hK => ?_) AllReadyH.nil
 go_simp
 refine hK.out _ _ ⟨(set_other6 _ _ _ _ _ _ h34).trans hHeld.1, set_cells6 hHeld.2.1 _ _ _ _ _ _, set_below6 hHeld.2.2 z4 _ _ _ _ _ _⟩ (fun hNow => ?_)
 clear hK K hHeld
 have hHeld := hNow
 clear hNow
 try simp only [Act.put, List.setIfInBounds_toArray, List.set_cons_zero, List.set_cons_succ]
 refine wpAnyH_ready (rs := [5]) (by kernel_rfl) (by simp) ?_
 refine AllReadyH.cons rfl (fun K hK => ?_) AllReadyH.nil
 go_simp
 refine hK.out _ _ hHeld (fun hNow => ?_)
 clear hK K hHeld
 have hHeld := hNow
 clear hNow
 try simp only [Act.put, List.setIfInBounds_toArray, List.set_cons_zero, List.set_cons_succ]
 refine wpAnyH_done (by kernel_rfl) ?_ _
 refine NoPanic.normal ?_
 generalize hV : World.setCell _ ⟨X4.heap.size, 5, none⟩ _ = V at hHeld ⊢
 clear hV
 clear q3_0 f3_0 q3_1 f3_1 q3_2 f3_2 q3_3 f3_3 q3_4 f3_4 q3_5 f3_5 q3_6 f3_6 q3_7 f3_7 q4_0 f4_0 q4_1 f4_1 q4_2 f4_2 q4_3 f4_3 q4_4 f4_4 q4_5 f4_5 y3 y4
 have k3 := (row_cells hHeld.1).2.1
 have k4 := (row_cells hHeld.2.1).2.1
 have k3_0 := k3 0; have k3_1 := k3 1; have k3_2 := k3 2; have k3_3 := k3 3; have k3_4 := k3 4; have k3_5 := k3 5; have k3_6 := k3 6; have k3_7 := k3 7
 have k4_0 := k4 0; have k4_1 := k4 1; have k4_2 := k4 2; have k4_3 := k4 3; have k4_4 := k4 4; have k4_5 := k4 5
 simp only [List.getElem?_toArray, List.getElem?_cons_zero, List.getElem?_cons_succ] at k3_0 k3_1 k3_2 k3_3 k3_4 k3_5 k3_6 k3_7 k4_0 k4_1 k4_2 k4_3 k4_4 k4_5
 clear k3 k4
 have hfin := Lib.hid hHeld.2.2
 clear hHeld
 go_wp2
 refine bodyPost_ret (v := .tuple #[stV n, outV q, .bool true]) (by simp [results, Tryz.results60, go_sem, *]) rfl ⟨rfl, hfin.out⟩
theorem progDoesN {f : Nat} (c : Cav) (s : St) (o : Gas.Op) (w : World) (hk : (o.kind = 1 ∧ f = 119) ∨ (o.kind = 2 ∧ f = 120) ∨ (o.kind = 3 ∧ f = 121))
    (en : ∀ args w, (callFunc f args).run Tryz.prog w = .ok (.enter f args) w)
    (hcall : ∀ W', w.heap.size ≤ W'.heap.size → Calls Tryz.prog f #[cavV c, stV s, opV o] W' (GaveUp W')) :
    Calls Tryz.prog 60 #[cavV c, stV s, opV o] w fun e w' => e = .returned (.tuple #[stV ⟨0, 0, 0, 0, 0, 0, 0, 0⟩, outV ⟨0, 0, 0, 0, 0, 0⟩, .bool false]) ∧ Below w.heap.size w w' := by
 obtain ⟨X1, hX1⟩ : ∃ X1, w.alloc (.cells #[.int .i64 c.vlo, .int .i64 c.vhi, .int .i64 c.least, .int .i64 c.most, .int .i64 c.f0, .int .i64 c.f1, .int .i64 c.h0, .int .i64 c.h1, .int .i64 c.rock, .int .i64 c.plo, .int .i64 c.phi] 89) = X1 := ⟨_, rfl⟩
 obtain ⟨eX0, bX0, sX0⟩ := boxed hX1
 have yX0_0 : w.heap.size < X1.heap.size := by omega
 obtain ⟨mX0_0_0, mX0_0_1, mX0_0_2, mX0_0_3, mX0_0_4, mX0_0_5, mX0_0_6, mX0_0_7, mX0_0_8, mX0_0_9, mX0_0_10⟩ := rc11 eX0
 obtain ⟨X2, hX2⟩ : ∃ X2, X1.alloc (.cells #[.int .i64 s.glo, .int .i64 s.ghi, .int .i64 s.ylo, .int .i64 s.yhi, .int .i64 s.tlo, .int .i64 s.thi, .int .i64 s.wlo, .int .i64 s.whi] 33) = X2 := ⟨_, rfl⟩
 obtain ⟨eX1, bX1, sX1⟩ := boxed hX2
 have yX1_0 : w.heap.size < X2.heap.size := by omega
 replace eX0 := (bX1.block _ (zqo eX0)).trans eX0
 obtain ⟨mX1_0_0, mX1_0_1, mX1_0_2, mX1_0_3, mX1_0_4, mX1_0_5, mX1_0_6, mX1_0_7, mX1_0_8, mX1_0_9, mX1_0_10⟩ := rc11 eX0
 have yX1_1 : X1.heap.size < X2.heap.size := by omega
 obtain ⟨mX1_1_0, mX1_1_1, mX1_1_2, mX1_1_3, mX1_1_4, mX1_1_5, mX1_1_6, mX1_1_7⟩ := rc8 eX1
 obtain ⟨X3, hX3⟩ : ∃ X3, X2.alloc (.cells #[.int .i64 o.kind, .int .i64 o.lg, .int .i64 o.ly, .int .i64 o.lt, .int .i64 o.lw, .int .i64 o.moles, .int .i64 o.slo, .int .i64 o.shi, .int .i64 o.wlo, .int .i64 o.whi] 83) = X3 := ⟨_, rfl⟩
 obtain ⟨eX2, bX2, sX2⟩ := boxed hX3
 have yX2_0 : w.heap.size < X3.heap.size := by omega
 replace eX0 := (bX2.block _ (zqo eX0)).trans eX0
 obtain ⟨mX2_0_0, mX2_0_1, mX2_0_2, mX2_0_3, mX2_0_4, mX2_0_5, mX2_0_6, mX2_0_7, mX2_0_8, mX2_0_9, mX2_0_10⟩ := rc11 eX0
 have yX2_1 : X1.heap.size < X3.heap.size := by omega
 replace eX1 := (bX2.block _ (zqo eX1)).trans eX1
 obtain ⟨mX2_1_0, mX2_1_1, mX2_1_2, mX2_1_3, mX2_1_4, mX2_1_5, mX2_1_6, mX2_1_7⟩ := rc8 eX1
 have yX2_2 : X2.heap.size < X3.heap.size := by omega
 obtain ⟨mX2_2_0, mX2_2_1, mX2_2_2, mX2_2_3, mX2_2_4, mX2_2_5, mX2_2_6, mX2_2_7, mX2_2_8, mX2_2_9⟩ := rc10 eX2
 obtain ⟨X4, hX4⟩ : ∃ X4, X3.alloc (.cells #[.int .i64 0, .int .i64 0, .int .i64 0, .int .i64 0, .int .i64 0, .int .i64 0, .int .i64 0, .int .i64 0] 33) = X4 := ⟨_, rfl⟩
 obtain ⟨eX3, bX3, sX3⟩ := boxed hX4
 have yX3_0 : w.heap.size < X4.heap.size := by omega
 replace eX0 := (bX3.block _ (zqo eX0)).trans eX0
 obtain ⟨mX3_0_0, mX3_0_1, mX3_0_2, mX3_0_3, mX3_0_4, mX3_0_5, mX3_0_6, mX3_0_7, mX3_0_8, mX3_0_9, mX3_0_10⟩ := rc11 eX0
 have yX3_1 : X1.heap.size < X4.heap.size := by omega
 replace eX1 := (bX3.block _ (zqo eX1)).trans eX1
 obtain ⟨mX3_1_0, mX3_1_1, mX3_1_2, mX3_1_3, mX3_1_4, mX3_1_5, mX3_1_6, mX3_1_7⟩ := rc8 eX1
 have yX3_2 : X2.heap.size < X4.heap.size := by omega
 replace eX2 := (bX3.block _ (zqo eX2)).trans eX2
 obtain ⟨mX3_2_0, mX3_2_1, mX3_2_2, mX3_2_3, mX3_2_4, mX3_2_5, mX3_2_6, mX3_2_7, mX3_2_8, mX3_2_9⟩ := rc10 eX2
 have yX3_3 : X3.heap.size < X4.heap.size := by omega
 obtain ⟨mX3_3_0, mX3_3_1, mX3_3_2, mX3_3_3, mX3_3_4, mX3_3_5, mX3_3_6, mX3_3_7⟩ := rc8 eX3
 obtain ⟨X, hX⟩ : ∃ X, X4.alloc (.cells #[.int .i64 0, .int .i64 0, .int .i64 0, .int .i64 0, .int .i64 0, .int .i64 0] 76) = X := ⟨_, rfl⟩
 obtain ⟨eX4, bX4, sX4⟩ := boxed hX
 replace eX0 := (bX4.block _ (zqo eX0)).trans eX0
 replace eX1 := (bX4.block _ (zqo eX1)).trans eX1
 replace eX2 := (bX4.block _ (zqo eX2)).trans eX2
 replace eX3 := (bX4.block _ (zqo eX3)).trans eX3
 have hBX : Below w.heap.size w X := (by have := sX0; have := sX1; have := sX2; have := sX3; have := sX4; exact ((((bX0.trans (bX1.mono (by omega))).trans (bX2.mono (by omega))).trans (bX3.mono (by omega))).trans (bX4.mono (by omega))))
 obtain ⟨zX0, rX0, tX0⟩ := row_cells eX0
 obtain ⟨qX0_0, qX0_1, qX0_2, qX0_3, qX0_4, qX0_5, qX0_6, qX0_7, qX0_8, qX0_9, qX0_10⟩ := rc11 eX0
 obtain ⟨fX0_0, fX0_1, fX0_2, fX0_3, fX0_4, fX0_5, fX0_6, fX0_7, fX0_8, fX0_9, fX0_10⟩ := rf11 eX0
 have EX0 := Lib.hid eX0
 clear rX0 tX0 eX0
 obtain ⟨zX1, rX1, tX1⟩ := row_cells eX1
 obtain ⟨qX1_0, qX1_1, qX1_2, qX1_3, qX1_4, qX1_5, qX1_6, qX1_7⟩ := rc8 eX1
 obtain ⟨fX1_0, fX1_1, fX1_2, fX1_3, fX1_4, fX1_5, fX1_6, fX1_7⟩ := rf8 eX1
 have EX1 := Lib.hid eX1
 clear rX1 tX1 eX1
 obtain ⟨zX2, rX2, tX2⟩ := row_cells eX2
 obtain ⟨qX2_0, qX2_1, qX2_2, qX2_3, qX2_4, qX2_5, qX2_6, qX2_7, qX2_8, qX2_9⟩ := rc10 eX2
 obtain ⟨fX2_0, fX2_1, fX2_2, fX2_3, fX2_4, fX2_5, fX2_6, fX2_7, fX2_8, fX2_9⟩ := rf10 eX2
 have EX2 := Lib.hid eX2
 clear rX2 tX2 eX2
 obtain ⟨zX3, rX3, tX3⟩ := row_cells eX3
 obtain ⟨qX3_0, qX3_1, qX3_2, qX3_3, qX3_4, qX3_5, qX3_6, qX3_7⟩ := rc8 eX3
 obtain ⟨fX3_0, fX3_1, fX3_2, fX3_3, fX3_4, fX3_5, fX3_6, fX3_7⟩ := rf8 eX3
 have EX3 := Lib.hid eX3
 clear rX3 tX3 eX3
 obtain ⟨zX4, rX4, tX4⟩ := row_cells eX4
 obtain ⟨qX4_0, qX4_1, qX4_2, qX4_3, qX4_4, qX4_5⟩ := rc6 eX4
 obtain ⟨fX4_0, fX4_1, fX4_2, fX4_3, fX4_4, fX4_5⟩ := rf6 eX4
 have EX4 := Lib.hid eX4
 clear rX4 tX4 eX4
 have xX0 : w.heap.size ≤ w.heap.size := by omega
 have xX1 : w.heap.size ≤ X1.heap.size := by omega
 have xX2 : w.heap.size ≤ X2.heap.size := by omega
 have xX3 : w.heap.size ≤ X3.heap.size := by omega
 have xX4 : w.heap.size ≤ X4.heap.size := by omega
 clear bX0 sX0 bX1 sX1 bX2 sX2 bX3 sX3 bX4 sX4
 have hbX : Below w.heap.size w X := hBX
 have hen : ∀ args w, (callFunc 91 args).run Tryz.prog w = .ok (.enter 91 args) w := fun args w => by kernel_rfl
 obtain ⟨W, hW⟩ : ∃ W, X.alloc (.cells #[.bool false] 4) = W := ⟨_, rfl⟩
 have hbW : Below X.heap.size X W := by rw [← hW]; exact (Below.refl _ _).alloc (Nat.le_refl _) _
 have hlt : X.heap.size < W.heap.size := by obtain ⟨e0, b0, s0⟩ := boxed hW; omega
 have up : ∀ {k v}, X.heap[k]? = some v → W.heap[k]? = some v := fun h => (hbW.block _ (zqo h)).trans h
 have hd1 := progDoes1N (bo := X2.heap.size) (bc := w.heap.size) (bs := X1.heap.size) (b3 := X3.heap.size) (b4 := X4.heap.size) c s o W hk (up EX0.out) (up EX1.out) (up EX2.out) (up EX3.out) (up EX4.out) (by omega) en (fun W' h => hcall W' (Nat.le_trans (hbX.trans (hbW.mono hbX.size)).size h))
 have hDone := Lib.hid (progDoneN X W hW hen hd1)
 have hDone2 : Calls Tryz.prog 79 _ _ (fun e V2 => e = .returned (.bool false) ∧ V2.heap[X3.heap.size]? = some (.cells #[.int .i64 0, .int .i64 0, .int .i64 0, .int .i64 0, .int .i64 0, .int .i64 0, .int .i64 0, .int .i64 0] 33 (0, 0)) ∧ V2.heap[X4.heap.size]? = some (.cells #[.int .i64 0, .int .i64 0, .int .i64 0, .int .i64 0, .int .i64 0, .int .i64 0] 76 (0, 0)) ∧ Below w.heap.size w V2) := (hDone.out.mono (by
  rintro e V2 ⟨rfl, hB⟩
  exact ⟨rfl, (hB.block _ (zqo EX3.out)).trans EX3.out, (hB.block _ (zqo EX4.out)).trans EX4.out, hbX.trans (hB.mono hbX.size)⟩))
 clear hDone
 replace hDone2 := Lib.hid hDone2
 clear hd1 up hcall hlt hbW hW en hk
 go_enter Tryz.func60, Tryz.ntmps60
 go_wp2_with (go_at_call 79; refine Calls.mono hDone2.out ?_; rintro e V2 ⟨rfl, g3, g4, hV⟩)
 refine wp_region_noPanic ?_
 refine wp_region_held_drew (S := (fun V => V.heap[X3.heap.size]? = some (.cells #[.int .i64 0, .int .i64 0, .int .i64 0, .int .i64 0, .int .i64 0, .int .i64 0, .int .i64 0, .int .i64 0] 33 (0, 0)) ∧ V.heap[X4.heap.size]? = some (.cells #[.int .i64 0, .int .i64 0, .int .i64 0, .int .i64 0, .int .i64 0, .int .i64 0] 76 (0, 0)) ∧ Below w.heap.size w V)) (by kernel_rfl) ⟨g3, g4, hV.drew⟩ (fun hHeld => ?_)
 generalize V2.drew = Y at hHeld ⊢
 refine wpAnyH_take (i := 0) (v := stV ⟨0, 0, 0, 0, 0, 0, 0, 0⟩) rfl (by kernel_rfl) (by kernel_rfl) (by kernel_rfl) (fun _ _ _ h => h) (Or.inl ⟨by rfl, ?_⟩) hHeld ?_
 · intro w' hSw; have k3 := (row_cells hSw.1).2.1; have c0 := k3 0; simp only [List.getElem?_toArray, List.getElem?_cons_zero, List.getElem?_cons_succ] at c0; have c1 := k3 1; simp only [List.getElem?_toArray, List.getElem?_cons_zero, List.getElem?_cons_succ] at c1; have c2 := k3 2; simp only [List.getElem?_toArray, List.getElem?_cons_zero, List.getElem?_cons_succ] at c2; have c3 := k3 3; simp only [List.getElem?_toArray, List.getElem?_cons_zero, List.getElem?_cons_succ] at c3; have c4 := k3 4; simp only [List.getElem?_toArray, List.getElem?_cons_zero, List.getElem?_cons_succ] at c4; have c5 := k3 5; simp only [List.getElem?_toArray, List.getElem?_cons_zero, List.getElem?_cons_succ] at c5; have c6 := k3 6; simp only [List.getElem?_toArray, List.getElem?_cons_zero, List.getElem?_cons_succ] at c6; have c7 := k3 7; simp only [List.getElem?_toArray, List.getElem?_cons_zero, List.getElem?_cons_succ] at c7; go_simp; (try with_reducible rfl)
 try simp only [Act.put, List.setIfInBounds_toArray, List.set_cons_zero, List.set_cons_succ]
 refine wpAnyH_take (i := 1) (v := outV ⟨0, 0, 0, 0, 0, 0⟩) rfl (by kernel_rfl) (by kernel_rfl) (by kernel_rfl) (fun _ _ _ h => h) (Or.inl ⟨by rfl, ?_⟩) hHeld ?_
 · intro w' hSw; have k4 := (row_cells hSw.2.1).2.1; have d0 := k4 0; simp only [List.getElem?_toArray, List.getElem?_cons_zero, List.getElem?_cons_succ] at d0; have d1 := k4 1; simp only [List.getElem?_toArray, List.getElem?_cons_zero, List.getElem?_cons_succ] at d1; have d2 := k4 2; simp only [List.getElem?_toArray, List.getElem?_cons_zero, List.getElem?_cons_succ] at d2; have d3 := k4 3; simp only [List.getElem?_toArray, List.getElem?_cons_zero, List.getElem?_cons_succ] at d3; have d4 := k4 4; simp only [List.getElem?_toArray, List.getElem?_cons_zero, List.getElem?_cons_succ] at d4; have d5 := k4 5; simp only [List.getElem?_toArray, List.getElem?_cons_zero, List.getElem?_cons_succ] at d5; go_simp; (try with_reducible rfl)
 try simp only [Act.put, List.setIfInBounds_toArray, List.set_cons_zero, List.set_cons_succ]
 refine wpAnyH_take (i := 2) (v := .bool false) rfl (by kernel_rfl) (by kernel_rfl) (by kernel_rfl) (fun _ _ _ h => h) (Or.inl ⟨by rfl, ?_⟩) hHeld ?_
 · intro w' hSw; go_simp; (try with_reducible rfl)
 try simp only [Act.put, List.setIfInBounds_toArray, List.set_cons_zero, List.set_cons_succ]
 have y3 := row_cells hHeld.1
 have y4 := row_cells hHeld.2.1
 have q3_0 : Y.cell? ⟨X3.heap.size, 0, none⟩ = some (.int .i64 0) := y3.2.1 0
 have f3_0 : Y.frozen? ⟨X3.heap.size, 0, none⟩ = false := y3.2.2 0
 have q3_1 : Y.cell? ⟨X3.heap.size, 1, none⟩ = some (.int .i64 0) := y3.2.1 1
 have f3_1 : Y.frozen? ⟨X3.heap.size, 1, none⟩ = false := y3.2.2 1
 have q3_2 : Y.cell? ⟨X3.heap.size, 2, none⟩ = some (.int .i64 0) := y3.2.1 2
 have f3_2 : Y.frozen? ⟨X3.heap.size, 2, none⟩ = false := y3.2.2 2
 have q3_3 : Y.cell? ⟨X3.heap.size, 3, none⟩ = some (.int .i64 0) := y3.2.1 3
 have f3_3 : Y.frozen? ⟨X3.heap.size, 3, none⟩ = false := y3.2.2 3
 have q3_4 : Y.cell? ⟨X3.heap.size, 4, none⟩ = some (.int .i64 0) := y3.2.1 4
 have f3_4 : Y.frozen? ⟨X3.heap.size, 4, none⟩ = false := y3.2.2 4
 have q3_5 : Y.cell? ⟨X3.heap.size, 5, none⟩ = some (.int .i64 0) := y3.2.1 5
 have f3_5 : Y.frozen? ⟨X3.heap.size, 5, none⟩ = false := y3.2.2 5
 have q3_6 : Y.cell? ⟨X3.heap.size, 6, none⟩ = some (.int .i64 0) := y3.2.1 6
 have f3_6 : Y.frozen? ⟨X3.heap.size, 6, none⟩ = false := y3.2.2 6
 have q3_7 : Y.cell? ⟨X3.heap.size, 7, none⟩ = some (.int .i64 0) := y3.2.1 7
 have f3_7 : Y.frozen? ⟨X3.heap.size, 7, none⟩ = false := y3.2.2 7
 have q4_0 : Y.cell? ⟨X4.heap.size, 0, none⟩ = some (.int .i64 0) := y4.2.1 0
 have f4_0 : Y.frozen? ⟨X4.heap.size, 0, none⟩ = false := y4.2.2 0
 have q4_1 : Y.cell? ⟨X4.heap.size, 1, none⟩ = some (.int .i64 0) := y4.2.1 1
 have f4_1 : Y.frozen? ⟨X4.heap.size, 1, none⟩ = false := y4.2.2 1
 have q4_2 : Y.cell? ⟨X4.heap.size, 2, none⟩ = some (.int .i64 0) := y4.2.1 2
 have f4_2 : Y.frozen? ⟨X4.heap.size, 2, none⟩ = false := y4.2.2 2
 have q4_3 : Y.cell? ⟨X4.heap.size, 3, none⟩ = some (.int .i64 0) := y4.2.1 3
 have f4_3 : Y.frozen? ⟨X4.heap.size, 3, none⟩ = false := y4.2.2 3
 have q4_4 : Y.cell? ⟨X4.heap.size, 4, none⟩ = some (.int .i64 0) := y4.2.1 4
 have f4_4 : Y.frozen? ⟨X4.heap.size, 4, none⟩ = false := y4.2.2 4
 have q4_5 : Y.cell? ⟨X4.heap.size, 5, none⟩ = some (.int .i64 0) := y4.2.1 5
 have f4_5 : Y.frozen? ⟨X4.heap.size, 5, none⟩ = false := y4.2.2 5
 have h34 : X3.heap.size ≠ X4.heap.size := by omega
 have h43 : X4.heap.size ≠ X3.heap.size := by omega
 have z3 : w.heap.size ≤ X3.heap.size := by omega
 have z4 : w.heap.size ≤ X4.heap.size := by omega
 refine wpAnyH_ready (rs := [3]) (by kernel_rfl) (by simp) ?_
 refine AllReadyH.cons rfl (fun K hK => ?_) AllReadyH.nil
 go_simp
 refine hK.out _ _ ⟨set_cells8 hHeld.1 _ _ _ _ _ _ _ _, (set_other8 _ _ _ _ _ _ _ _ h43).trans hHeld.2.1, set_below8 hHeld.2.2 z3 _ _ _ _ _ _ _ _⟩ (fun hNow => ?_)
 clear hK K hHeld
 have hHeld := hNow
 clear hNow
 try simp only [Act.put, List.setIfInBounds_toArray, List.set_cons_zero, List.set_cons_succ]
 refine wpAnyH_ready (rs := [4]) (by kernel_rfl) (by simp) ?_
 refine AllReadyH.cons rfl (fun K hK => ?_) AllReadyH.nil
 go_simp
 refine hK.out _ _ ⟨(set_other6 _ _ _ _ _ _ h34).trans hHeld.1, set_cells6 hHeld.2.1 _ _ _ _ _ _, set_below6 hHeld.2.2 z4 _ _ _ _ _ _⟩ (fun hNow => ?_)
 clear hK K hHeld
 have hHeld := hNow
 clear hNow
 try simp only [Act.put, List.setIfInBounds_toArray, List.set_cons_zero, List.set_cons_succ]
 refine wpAnyH_ready (rs := [5]) (by kernel_rfl) (by simp) ?_
 refine AllReadyH.cons rfl (fun K hK => ?_) AllReadyH.nil
 go_simp
 refine hK.out _ _ hHeld (fun hNow => ?_)
 clear hK K hHeld
 have hHeld := hNow
 clear hNow
 try simp only [Act.put, List.setIfInBounds_toArray, List.set_cons_zero, List.set_cons_succ]
 refine wpAnyH_done (by kernel_rfl) ?_ _
 refine NoPanic.normal ?_
 generalize hV : World.setCell _ ⟨X4.heap.size, 5, none⟩ _ = V at hHeld ⊢
 clear hV
 clear q3_0 f3_0 q3_1 f3_1 q3_2 f3_2 q3_3 f3_3 q3_4 f3_4 q3_5 f3_5 q3_6 f3_6 q3_7 f3_7 q4_0 f4_0 q4_1 f4_1 q4_2 f4_2 q4_3 f4_3 q4_4 f4_4 q4_5 f4_5 y3 y4
 have k3 := (row_cells hHeld.1).2.1
 have k4 := (row_cells hHeld.2.1).2.1
 have k3_0 := k3 0; have k3_1 := k3 1; have k3_2 := k3 2; have k3_3 := k3 3; have k3_4 := k3 4; have k3_5 := k3 5; have k3_6 := k3 6; have k3_7 := k3 7
 have k4_0 := k4 0; have k4_1 := k4 1; have k4_2 := k4 2; have k4_3 := k4 3; have k4_4 := k4 4; have k4_5 := k4 5
 simp only [List.getElem?_toArray, List.getElem?_cons_zero, List.getElem?_cons_succ] at k3_0 k3_1 k3_2 k3_3 k3_4 k3_5 k3_6 k3_7 k4_0 k4_1 k4_2 k4_3 k4_4 k4_5
 clear k3 k4
 have hfin := Lib.hid hHeld.2.2
 clear hHeld
 go_wp2
 refine bodyPost_ret (v := .tuple #[stV ⟨0, 0, 0, 0, 0, 0, 0, 0⟩, outV ⟨0, 0, 0, 0, 0, 0⟩, .bool false]) (by simp [results, Tryz.results60, go_sem, *]) rfl ⟨rfl, hfin.out⟩
end Go.Proofs.YthjmdagonfeneaaGreat.G
