/- Gas: the walk of the reference's Do: a rest. -/
import Derived.Test.YtgmbolagciaenaaSto
import Derived.Test.YtgmbolagciaenaaA7
import Derived.Test.YtgmbolagciaenaaGen
import Derived.BigRegion
set_option linter.unusedVariables false
set_option linter.unusedSimpArgs false
namespace Go.Proofs.Ytgmbolagciaenaa
open Go.RowKit Go.Sd Gas

set_option maxRecDepth 100000 in
set_option maxHeartbeats 8000000 in
theorem refDo3 (c : Cav) (s : St) (o1 o2 o3 o4 m a b x y : Int) (w : World) (hc : c.Ok) (hs : s.Ok) (hab : 0 ≤ a ∧ a ≤ b ∧ b ≤ 1000) (hxy : 0 ≤ x ∧ x ≤ y ∧ y ≤ 1000000) :
    Calls Try.prog 21 #[cavV c, stV s, opV ⟨3, o1, o2, o3, o4, m, a, b, x, y⟩] w fun e w' => e = .returned (.tuple #[stV (restS c s a b x y), outV ⟨0, 0, 0, 0, 0, 0⟩, .bool (decide (s.ghi ≤ 1000000) && decide (s.yhi ≤ 1000000) && decide (s.whi + y ≤ 1000000000))]) ∧ Below w.heap.size w w' := by
  have hg1 := hs.g; have hy1 := hs.y; have ht1 := hs.t; have hw1 := hs.w
  obtain ⟨a0, ea0⟩ : ∃ v, near c.rock s.tlo a = v := ⟨_, rfl⟩
  have kW0 : Hid (∀ w, Calls Try.prog 65 #[cavV c, .int .i64 s.tlo, .int .i64 a] w fun e w' => e = .returned (.int .i64 a0) ∧ Below w.heap.size w w') := Lib.hid (fun w => ea0 ▸ refNear c s.tlo a w hc (by omega) (by omega))
  obtain ⟨a1, ea1⟩ : ∃ v, near c.rock s.tlo b = v := ⟨_, rfl⟩
  have kW1 : Hid (∀ w, Calls Try.prog 65 #[cavV c, .int .i64 s.tlo, .int .i64 b] w fun e w' => e = .returned (.int .i64 a1) ∧ Below w.heap.size w w') := Lib.hid (fun w => ea1 ▸ refNear c s.tlo b w hc (by omega) (by omega))
  obtain ⟨a2, ea2⟩ : ∃ v, near c.rock s.thi a = v := ⟨_, rfl⟩
  have kW2 : Hid (∀ w, Calls Try.prog 65 #[cavV c, .int .i64 s.thi, .int .i64 a] w fun e w' => e = .returned (.int .i64 a2) ∧ Below w.heap.size w w') := Lib.hid (fun w => ea2 ▸ refNear c s.thi a w hc (by omega) (by omega))
  obtain ⟨a3, ea3⟩ : ∃ v, near c.rock s.thi b = v := ⟨_, rfl⟩
  have kW3 : Hid (∀ w, Calls Try.prog 65 #[cavV c, .int .i64 s.thi, .int .i64 b] w fun e w' => e = .returned (.int .i64 a3) ∧ Below w.heap.size w w') := Lib.hid (fun w => ea3 ▸ refNear c s.thi b w hc (by omega) (by omega))
  have hres : Hid (stV (restS c s a b x y) = stV ⟨s.glo, s.ghi, s.ylo, s.yhi, min a0 a1, max a2 a3, s.wlo + x, s.whi + y⟩) := Lib.hid (by unfold restS; rw [ea0, ea1, ea2, ea3])
  have e1 : (if a1 < a0 then a1 else a0) = min a0 a1 := by rw [Int.min_def]; split <;> split <;> omega
  have e2 : (if a2 < a3 then a3 else a2) = max a2 a3 := by rw [Int.max_def]; split <;> split <;> omega
  rw [hres.out]
  clear hres
  replace ea0 := Lib.hid ea0; replace ea1 := Lib.hid ea1; replace ea2 := Lib.hid ea2; replace ea3 := Lib.hid ea3
  obtain ⟨W1, hW1⟩ : ∃ W1, w.alloc (.cells #[.int .i64 c.vlo, .int .i64 c.vhi, .int .i64 c.least, .int .i64 c.most, .int .i64 c.f0, .int .i64 c.f1, .int .i64 c.h0, .int .i64 c.h1, .int .i64 c.rock, .int .i64 c.plo, .int .i64 c.phi] 26) = W1 := ⟨_, rfl⟩
  obtain ⟨e_c, b_c, s_c⟩ := boxed hW1
  obtain ⟨W2, hW2⟩ : ∃ W2, W1.alloc (.cells #[.int .i64 s.glo, .int .i64 s.ghi, .int .i64 s.ylo, .int .i64 s.yhi, .int .i64 s.tlo, .int .i64 s.thi, .int .i64 s.wlo, .int .i64 s.whi] 28) = W2 := ⟨_, rfl⟩
  obtain ⟨e_s, b_s, s_s⟩ := boxed hW2
  replace e_c := (b_s.block _ (Array.getElem?_eq_some_iff.1 e_c).1).trans e_c
  obtain ⟨W3, hW3⟩ : ∃ W3, W2.alloc (.cells #[.int .i64 3, .int .i64 o1, .int .i64 o2, .int .i64 o3, .int .i64 o4, .int .i64 m, .int .i64 a, .int .i64 b, .int .i64 x, .int .i64 y] 33) = W3 := ⟨_, rfl⟩
  obtain ⟨e_o, b_o, s_o⟩ := boxed hW3
  replace e_c := (b_o.block _ (Array.getElem?_eq_some_iff.1 e_c).1).trans e_c
  replace e_s := (b_o.block _ (Array.getElem?_eq_some_iff.1 e_s).1).trans e_s
  obtain ⟨W4, hW4⟩ : ∃ W4, W3.alloc (.cells #[.int .i64 0, .int .i64 0, .int .i64 0, .int .i64 0, .int .i64 0, .int .i64 0, .int .i64 0, .int .i64 0] 28) = W4 := ⟨_, rfl⟩
  obtain ⟨e_rs, b_rs, s_rs⟩ := boxed hW4
  replace e_c := (b_rs.block _ (Array.getElem?_eq_some_iff.1 e_c).1).trans e_c
  replace e_s := (b_rs.block _ (Array.getElem?_eq_some_iff.1 e_s).1).trans e_s
  replace e_o := (b_rs.block _ (Array.getElem?_eq_some_iff.1 e_o).1).trans e_o
  obtain ⟨W5, hW5⟩ : ∃ W5, W4.alloc (.cells #[.int .i64 0, .int .i64 0, .int .i64 0, .int .i64 0, .int .i64 0, .int .i64 0] 35) = W5 := ⟨_, rfl⟩
  obtain ⟨e_ro, b_ro, s_ro⟩ := boxed hW5
  replace e_c := (b_ro.block _ (Array.getElem?_eq_some_iff.1 e_c).1).trans e_c
  replace e_s := (b_ro.block _ (Array.getElem?_eq_some_iff.1 e_s).1).trans e_s
  replace e_o := (b_ro.block _ (Array.getElem?_eq_some_iff.1 e_o).1).trans e_o
  replace e_rs := (b_ro.block _ (Array.getElem?_eq_some_iff.1 e_rs).1).trans e_rs
  obtain ⟨W6, hW6⟩ : ∃ W6, W5.alloc (.cells #[.int .i64 0, .int .i64 0, .int .i64 0, .int .i64 0, .int .i64 0, .int .i64 0] 35) = W6 := ⟨_, rfl⟩
  obtain ⟨e_q, b_q, s_q⟩ := boxed hW6
  replace e_c := (b_q.block _ (Array.getElem?_eq_some_iff.1 e_c).1).trans e_c
  replace e_s := (b_q.block _ (Array.getElem?_eq_some_iff.1 e_s).1).trans e_s
  replace e_o := (b_q.block _ (Array.getElem?_eq_some_iff.1 e_o).1).trans e_o
  replace e_rs := (b_q.block _ (Array.getElem?_eq_some_iff.1 e_rs).1).trans e_rs
  replace e_ro := (b_q.block _ (Array.getElem?_eq_some_iff.1 e_ro).1).trans e_ro
  obtain ⟨m6_s_0, m6_s_1, m6_s_2, m6_s_3, m6_s_4, m6_s_5, m6_s_6, m6_s_7⟩ := rc8 e_s
  have mz6_s : W1.heap.size < W6.heap.size := (Array.getElem?_eq_some_iff.1 e_s).1
  obtain ⟨W, hW⟩ : ∃ W, W6.alloc (.cells #[.int .i64 s.glo, .int .i64 s.ghi, .int .i64 s.ylo, .int .i64 s.yhi, .int .i64 s.tlo, .int .i64 s.thi, .int .i64 s.wlo, .int .i64 s.whi] 28) = W := ⟨_, rfl⟩
  obtain ⟨e_n, b_n, s_n⟩ := boxed hW
  replace e_c := (b_n.block _ (Array.getElem?_eq_some_iff.1 e_c).1).trans e_c
  replace e_s := (b_n.block _ (Array.getElem?_eq_some_iff.1 e_s).1).trans e_s
  replace e_o := (b_n.block _ (Array.getElem?_eq_some_iff.1 e_o).1).trans e_o
  replace e_rs := (b_n.block _ (Array.getElem?_eq_some_iff.1 e_rs).1).trans e_rs
  replace e_ro := (b_n.block _ (Array.getElem?_eq_some_iff.1 e_ro).1).trans e_ro
  replace e_q := (b_n.block _ (Array.getElem?_eq_some_iff.1 e_q).1).trans e_q
  have B0 : Below w.heap.size w W := ((((((b_c.trans (b_s.mono (by omega))).trans (b_o.mono (by omega))).trans (b_rs.mono (by omega))).trans (b_ro.mono (by omega))).trans (b_q.mono (by omega))).trans (b_n.mono (by omega)))
  have z0_c := (Array.getElem?_eq_some_iff.1 e_c).1
  have z0_s := (Array.getElem?_eq_some_iff.1 e_s).1
  have z0_o := (Array.getElem?_eq_some_iff.1 e_o).1
  have z0_rs := (Array.getElem?_eq_some_iff.1 e_rs).1
  have z0_ro := (Array.getElem?_eq_some_iff.1 e_ro).1
  have z0_q := (Array.getElem?_eq_some_iff.1 e_q).1
  have z0_n := (Array.getElem?_eq_some_iff.1 e_n).1
  have ne_c_rs : (w.heap.size : Nat) ≠ W3.heap.size := by omega
  have ne_c_ro : (w.heap.size : Nat) ≠ W4.heap.size := by omega
  have ne_c_n : (w.heap.size : Nat) ≠ W6.heap.size := by omega
  have le_c : w.heap.size ≤ w.heap.size := by omega
  have ne_s_rs : (W1.heap.size : Nat) ≠ W3.heap.size := by omega
  have ne_s_ro : (W1.heap.size : Nat) ≠ W4.heap.size := by omega
  have ne_s_n : (W1.heap.size : Nat) ≠ W6.heap.size := by omega
  have le_s : w.heap.size ≤ W1.heap.size := by omega
  have ne_o_rs : (W2.heap.size : Nat) ≠ W3.heap.size := by omega
  have ne_o_ro : (W2.heap.size : Nat) ≠ W4.heap.size := by omega
  have ne_o_n : (W2.heap.size : Nat) ≠ W6.heap.size := by omega
  have le_o : w.heap.size ≤ W2.heap.size := by omega
  have ne_rs_ro : (W3.heap.size : Nat) ≠ W4.heap.size := by omega
  have ne_rs_n : (W3.heap.size : Nat) ≠ W6.heap.size := by omega
  have le_rs : w.heap.size ≤ W3.heap.size := by omega
  have ne_ro_rs : (W4.heap.size : Nat) ≠ W3.heap.size := by omega
  have ne_ro_n : (W4.heap.size : Nat) ≠ W6.heap.size := by omega
  have le_ro : w.heap.size ≤ W4.heap.size := by omega
  have ne_q_rs : (W5.heap.size : Nat) ≠ W3.heap.size := by omega
  have ne_q_ro : (W5.heap.size : Nat) ≠ W4.heap.size := by omega
  have ne_q_n : (W5.heap.size : Nat) ≠ W6.heap.size := by omega
  have le_q : w.heap.size ≤ W5.heap.size := by omega
  have ne_n_rs : (W6.heap.size : Nat) ≠ W3.heap.size := by omega
  have ne_n_ro : (W6.heap.size : Nat) ≠ W4.heap.size := by omega
  have le_n : w.heap.size ≤ W6.heap.size := by omega
  clear s_c b_c s_s b_s s_o b_o s_rs b_rs s_ro b_ro s_q b_q s_n b_n
  replace e_c := Lib.hid e_c
  obtain ⟨q0_s_0, q0_s_1, q0_s_2, q0_s_3, q0_s_4, q0_s_5, q0_s_6, q0_s_7⟩ := rc8 e_s
  replace e_s := Lib.hid e_s
  obtain ⟨q0_o_0, q0_o_1, q0_o_2, q0_o_3, q0_o_4, q0_o_5, q0_o_6, q0_o_7, q0_o_8, q0_o_9⟩ := rc10 e_o
  replace e_o := Lib.hid e_o
  obtain ⟨f0_rs_0, f0_rs_1, f0_rs_2, f0_rs_3, f0_rs_4, f0_rs_5, f0_rs_6, f0_rs_7⟩ := rf8 e_rs
  replace e_rs := Lib.hid e_rs
  obtain ⟨f0_ro_0, f0_ro_1, f0_ro_2, f0_ro_3, f0_ro_4, f0_ro_5⟩ := rf6 e_ro
  replace e_ro := Lib.hid e_ro
  replace e_q := Lib.hid e_q
  obtain ⟨q0_n_0, q0_n_1, q0_n_2, q0_n_3, q0_n_4, q0_n_5, q0_n_6, q0_n_7⟩ := rc8 e_n
  obtain ⟨f0_n_0, f0_n_1, f0_n_2, f0_n_3, f0_n_4, f0_n_5, f0_n_6, f0_n_7⟩ := rf8 e_n
  replace e_n := Lib.hid e_n
  go_enter Try.func21, Try.ntmps21
  go_wp2
  generalize hV1 : World.setCell _ ⟨W6.heap.size, 7, none⟩ _ = V1
  have R1_c : V1.heap[w.heap.size]? = some (.cells #[.int .i64 c.vlo, .int .i64 c.vhi, .int .i64 c.least, .int .i64 c.most, .int .i64 c.f0, .int .i64 c.f1, .int .i64 c.h0, .int .i64 c.h1, .int .i64 c.rock, .int .i64 c.plo, .int .i64 c.phi] 26 (0, 0)) := by rw [← hV1]; have h2 := (set_far (n := W6.heap.size) 7 (.int .i64 (s.whi + y)) ne_c_n (set_far (n := W6.heap.size) 6 (.int .i64 (s.wlo + x)) ne_c_n e_c.out)); exact h2
  have R1_s : V1.heap[W1.heap.size]? = some (.cells #[.int .i64 s.glo, .int .i64 s.ghi, .int .i64 s.ylo, .int .i64 s.yhi, .int .i64 s.tlo, .int .i64 s.thi, .int .i64 s.wlo, .int .i64 s.whi] 28 (0, 0)) := by rw [← hV1]; have h2 := (set_far (n := W6.heap.size) 7 (.int .i64 (s.whi + y)) ne_s_n (set_far (n := W6.heap.size) 6 (.int .i64 (s.wlo + x)) ne_s_n e_s.out)); exact h2
  have R1_o : V1.heap[W2.heap.size]? = some (.cells #[.int .i64 3, .int .i64 o1, .int .i64 o2, .int .i64 o3, .int .i64 o4, .int .i64 m, .int .i64 a, .int .i64 b, .int .i64 x, .int .i64 y] 33 (0, 0)) := by rw [← hV1]; have h2 := (set_far (n := W6.heap.size) 7 (.int .i64 (s.whi + y)) ne_o_n (set_far (n := W6.heap.size) 6 (.int .i64 (s.wlo + x)) ne_o_n e_o.out)); exact h2
  have R1_rs : V1.heap[W3.heap.size]? = some (.cells #[.int .i64 0, .int .i64 0, .int .i64 0, .int .i64 0, .int .i64 0, .int .i64 0, .int .i64 0, .int .i64 0] 28 (0, 0)) := by rw [← hV1]; have h2 := (set_far (n := W6.heap.size) 7 (.int .i64 (s.whi + y)) ne_rs_n (set_far (n := W6.heap.size) 6 (.int .i64 (s.wlo + x)) ne_rs_n e_rs.out)); exact h2
  have R1_ro : V1.heap[W4.heap.size]? = some (.cells #[.int .i64 0, .int .i64 0, .int .i64 0, .int .i64 0, .int .i64 0, .int .i64 0] 35 (0, 0)) := by rw [← hV1]; have h2 := (set_far (n := W6.heap.size) 7 (.int .i64 (s.whi + y)) ne_ro_n (set_far (n := W6.heap.size) 6 (.int .i64 (s.wlo + x)) ne_ro_n e_ro.out)); exact h2
  have R1_q : V1.heap[W5.heap.size]? = some (.cells #[.int .i64 0, .int .i64 0, .int .i64 0, .int .i64 0, .int .i64 0, .int .i64 0] 35 (0, 0)) := by rw [← hV1]; have h2 := (set_far (n := W6.heap.size) 7 (.int .i64 (s.whi + y)) ne_q_n (set_far (n := W6.heap.size) 6 (.int .i64 (s.wlo + x)) ne_q_n e_q.out)); exact h2
  have R1_n : V1.heap[W6.heap.size]? = some (.cells #[.int .i64 s.glo, .int .i64 s.ghi, .int .i64 s.ylo, .int .i64 s.yhi, .int .i64 s.tlo, .int .i64 s.thi, .int .i64 (s.wlo + x), .int .i64 (s.whi + y)] 28 (0, 0)) := by rw [← hV1]; have h2 := (set_one (set_one e_n.out 6 (.int .i64 (s.wlo + x))) 7 (.int .i64 (s.whi + y))); simp only [List.setIfInBounds_toArray, List.set_cons_zero, List.set_cons_succ] at h2; exact h2
  have B1 : Below w.heap.size w V1 := by rw [← hV1]; exact (Below.setCell (p := ⟨W6.heap.size, 7, none⟩) (Below.setCell (p := ⟨W6.heap.size, 6, none⟩) B0 le_n (.int .i64 (s.wlo + x))) le_n (.int .i64 (s.whi + y)))
  clear hV1
  clear m6_s_0 m6_s_1 m6_s_2 m6_s_3 m6_s_4 m6_s_5 m6_s_6 m6_s_7 mz6_s q0_s_0 q0_s_1 q0_s_2 q0_s_3 q0_s_4 q0_s_5 q0_s_6 q0_s_7 q0_o_0 q0_o_1 q0_o_2 q0_o_3 q0_o_4 q0_o_5 q0_o_6 q0_o_7 q0_o_8 q0_o_9 f0_rs_0 f0_rs_1 f0_rs_2 f0_rs_3 f0_rs_4 f0_rs_5 f0_rs_6 f0_rs_7 f0_ro_0 f0_ro_1 f0_ro_2 f0_ro_3 f0_ro_4 f0_ro_5 q0_n_0 f0_n_0 q0_n_1 f0_n_1 q0_n_2 f0_n_2 q0_n_3 f0_n_3 q0_n_4 f0_n_4 q0_n_5 f0_n_5 q0_n_6 f0_n_6 q0_n_7 f0_n_7
  have E1_c := Lib.hid R1_c
  obtain ⟨z1_c, r1_c, t1_c⟩ := row_cells R1_c
  obtain ⟨q1_c_0, q1_c_1, q1_c_2, q1_c_3, q1_c_4, q1_c_5, q1_c_6, q1_c_7, q1_c_8, q1_c_9, q1_c_10⟩ := rc11 R1_c
  clear r1_c t1_c R1_c
  have E1_s := Lib.hid R1_s
  obtain ⟨z1_s, r1_s, t1_s⟩ := row_cells R1_s
  obtain ⟨q1_s_0, q1_s_1, q1_s_2, q1_s_3, q1_s_4, q1_s_5, q1_s_6, q1_s_7⟩ := rc8 R1_s
  clear r1_s t1_s R1_s
  have E1_o := Lib.hid R1_o
  obtain ⟨z1_o, r1_o, t1_o⟩ := row_cells R1_o
  obtain ⟨q1_o_0, q1_o_1, q1_o_2, q1_o_3, q1_o_4, q1_o_5, q1_o_6, q1_o_7, q1_o_8, q1_o_9⟩ := rc10 R1_o
  clear r1_o t1_o R1_o
  have E1_rs := Lib.hid R1_rs
  obtain ⟨z1_rs, r1_rs, t1_rs⟩ := row_cells R1_rs
  clear r1_rs t1_rs R1_rs
  have E1_ro := Lib.hid R1_ro
  obtain ⟨z1_ro, r1_ro, t1_ro⟩ := row_cells R1_ro
  clear r1_ro t1_ro R1_ro
  have E1_q := Lib.hid R1_q
  obtain ⟨z1_q, r1_q, t1_q⟩ := row_cells R1_q
  clear r1_q t1_q R1_q
  have E1_n := Lib.hid R1_n
  obtain ⟨z1_n, r1_n, t1_n⟩ := row_cells R1_n
  obtain ⟨q1_n_0, q1_n_1, q1_n_2, q1_n_3, q1_n_4, q1_n_5, q1_n_6, q1_n_7⟩ := rc8 R1_n
  obtain ⟨f1_n_0, f1_n_1, f1_n_2, f1_n_3, f1_n_4, f1_n_5, f1_n_6, f1_n_7⟩ := rf8 R1_n
  clear r1_n t1_n R1_n
  have hgc := grow_cell V1
  have hgf := grow_frozen V1
  refine wp_grow_tail 17 (by kernel_rfl) (by kernel_rfl) ?_
  simp only [List.take_succ_cons, List.take_zero, List.drop_succ_cons, List.drop_zero]
  repeat (go_big_quiet_step ((first | (go_at_call 65; with_reducible exact Calls.grow (kW0.out _)) | (go_at_call 65; with_reducible exact Calls.grow (kW1.out _)))))
  refine wpQuiet_nil ?_
  rintro _ ⟨g, rfl⟩
  try rw [e1]
  go_wp2
  clear hgc hgf
  generalize hV2 : World.setCell _ ⟨W6.heap.size, 4, none⟩ _ = V2
  have gz2 := g.size
  have R2_c : V2.heap[w.heap.size]? = some (.cells #[.int .i64 c.vlo, .int .i64 c.vhi, .int .i64 c.least, .int .i64 c.most, .int .i64 c.f0, .int .i64 c.f1, .int .i64 c.h0, .int .i64 c.h1, .int .i64 c.rock, .int .i64 c.plo, .int .i64 c.phi] 26 (0, 0)) := by rw [← hV2]; have h2 := (set_far (n := W6.heap.size) 4 (.int .i64 (min a0 a1)) ne_c_n ((g.h.block _ z1_c).trans E1_c.out)); exact h2
  have R2_s : V2.heap[W1.heap.size]? = some (.cells #[.int .i64 s.glo, .int .i64 s.ghi, .int .i64 s.ylo, .int .i64 s.yhi, .int .i64 s.tlo, .int .i64 s.thi, .int .i64 s.wlo, .int .i64 s.whi] 28 (0, 0)) := by rw [← hV2]; have h2 := (set_far (n := W6.heap.size) 4 (.int .i64 (min a0 a1)) ne_s_n ((g.h.block _ z1_s).trans E1_s.out)); exact h2
  have R2_o : V2.heap[W2.heap.size]? = some (.cells #[.int .i64 3, .int .i64 o1, .int .i64 o2, .int .i64 o3, .int .i64 o4, .int .i64 m, .int .i64 a, .int .i64 b, .int .i64 x, .int .i64 y] 33 (0, 0)) := by rw [← hV2]; have h2 := (set_far (n := W6.heap.size) 4 (.int .i64 (min a0 a1)) ne_o_n ((g.h.block _ z1_o).trans E1_o.out)); exact h2
  have R2_rs : V2.heap[W3.heap.size]? = some (.cells #[.int .i64 0, .int .i64 0, .int .i64 0, .int .i64 0, .int .i64 0, .int .i64 0, .int .i64 0, .int .i64 0] 28 (0, 0)) := by rw [← hV2]; have h2 := (set_far (n := W6.heap.size) 4 (.int .i64 (min a0 a1)) ne_rs_n ((g.h.block _ z1_rs).trans E1_rs.out)); exact h2
  have R2_ro : V2.heap[W4.heap.size]? = some (.cells #[.int .i64 0, .int .i64 0, .int .i64 0, .int .i64 0, .int .i64 0, .int .i64 0] 35 (0, 0)) := by rw [← hV2]; have h2 := (set_far (n := W6.heap.size) 4 (.int .i64 (min a0 a1)) ne_ro_n ((g.h.block _ z1_ro).trans E1_ro.out)); exact h2
  have R2_q : V2.heap[W5.heap.size]? = some (.cells #[.int .i64 0, .int .i64 0, .int .i64 0, .int .i64 0, .int .i64 0, .int .i64 0] 35 (0, 0)) := by rw [← hV2]; have h2 := (set_far (n := W6.heap.size) 4 (.int .i64 (min a0 a1)) ne_q_n ((g.h.block _ z1_q).trans E1_q.out)); exact h2
  have R2_n : V2.heap[W6.heap.size]? = some (.cells #[.int .i64 s.glo, .int .i64 s.ghi, .int .i64 s.ylo, .int .i64 s.yhi, .int .i64 (min a0 a1), .int .i64 s.thi, .int .i64 (s.wlo + x), .int .i64 (s.whi + y)] 28 (0, 0)) := by rw [← hV2]; have h2 := (set_one ((g.h.block _ z1_n).trans E1_n.out) 4 (.int .i64 (min a0 a1))); simp only [List.setIfInBounds_toArray, List.set_cons_zero, List.set_cons_succ] at h2; exact h2
  have B2 : Below w.heap.size w V2 := by rw [← hV2]; exact (Below.setCell (p := ⟨W6.heap.size, 4, none⟩) (B1.trans (g.h.mono B1.size)) le_n (.int .i64 (min a0 a1)))
  clear hV2 gz2
  clear q1_c_0 q1_c_1 q1_c_2 q1_c_3 q1_c_4 q1_c_5 q1_c_6 q1_c_7 q1_c_8 q1_c_9 q1_c_10 q1_s_0 q1_s_1 q1_s_2 q1_s_3 q1_s_4 q1_s_5 q1_s_6 q1_s_7 q1_o_0 q1_o_1 q1_o_2 q1_o_3 q1_o_4 q1_o_5 q1_o_6 q1_o_7 q1_o_8 q1_o_9 q1_n_0 f1_n_0 q1_n_1 f1_n_1 q1_n_2 f1_n_2 q1_n_3 f1_n_3 q1_n_4 f1_n_4 q1_n_5 f1_n_5 q1_n_6 f1_n_6 q1_n_7 f1_n_7
  have E2_c := Lib.hid R2_c
  obtain ⟨z2_c, r2_c, t2_c⟩ := row_cells R2_c
  obtain ⟨q2_c_0, q2_c_1, q2_c_2, q2_c_3, q2_c_4, q2_c_5, q2_c_6, q2_c_7, q2_c_8, q2_c_9, q2_c_10⟩ := rc11 R2_c
  clear r2_c t2_c R2_c
  have E2_s := Lib.hid R2_s
  obtain ⟨z2_s, r2_s, t2_s⟩ := row_cells R2_s
  obtain ⟨q2_s_0, q2_s_1, q2_s_2, q2_s_3, q2_s_4, q2_s_5, q2_s_6, q2_s_7⟩ := rc8 R2_s
  clear r2_s t2_s R2_s
  have E2_o := Lib.hid R2_o
  obtain ⟨z2_o, r2_o, t2_o⟩ := row_cells R2_o
  obtain ⟨q2_o_0, q2_o_1, q2_o_2, q2_o_3, q2_o_4, q2_o_5, q2_o_6, q2_o_7, q2_o_8, q2_o_9⟩ := rc10 R2_o
  clear r2_o t2_o R2_o
  have E2_rs := Lib.hid R2_rs
  obtain ⟨z2_rs, r2_rs, t2_rs⟩ := row_cells R2_rs
  clear r2_rs t2_rs R2_rs
  have E2_ro := Lib.hid R2_ro
  obtain ⟨z2_ro, r2_ro, t2_ro⟩ := row_cells R2_ro
  clear r2_ro t2_ro R2_ro
  have E2_q := Lib.hid R2_q
  obtain ⟨z2_q, r2_q, t2_q⟩ := row_cells R2_q
  clear r2_q t2_q R2_q
  have E2_n := Lib.hid R2_n
  obtain ⟨z2_n, r2_n, t2_n⟩ := row_cells R2_n
  obtain ⟨q2_n_0, q2_n_1, q2_n_2, q2_n_3, q2_n_4, q2_n_5, q2_n_6, q2_n_7⟩ := rc8 R2_n
  obtain ⟨f2_n_0, f2_n_1, f2_n_2, f2_n_3, f2_n_4, f2_n_5, f2_n_6, f2_n_7⟩ := rf8 R2_n
  clear r2_n t2_n R2_n
  have hgc := grow_cell V2
  have hgf := grow_frozen V2
  refine wp_grow_tail 17 (by kernel_rfl) (by kernel_rfl) ?_
  simp only [List.take_succ_cons, List.take_zero, List.drop_succ_cons, List.drop_zero]
  repeat (go_big_quiet_step ((first | (go_at_call 65; with_reducible exact Calls.grow (kW2.out _)) | (go_at_call 65; with_reducible exact Calls.grow (kW3.out _)))))
  refine wpQuiet_nil ?_
  rintro _ ⟨g, rfl⟩
  try rw [e2]
  go_wp2
  clear hgc hgf
  generalize hV3 : World.setCell _ ⟨W6.heap.size, 5, none⟩ _ = V3
  have gz3 := g.size
  have R3_c : V3.heap[w.heap.size]? = some (.cells #[.int .i64 c.vlo, .int .i64 c.vhi, .int .i64 c.least, .int .i64 c.most, .int .i64 c.f0, .int .i64 c.f1, .int .i64 c.h0, .int .i64 c.h1, .int .i64 c.rock, .int .i64 c.plo, .int .i64 c.phi] 26 (0, 0)) := by rw [← hV3]; have h2 := (set_far (n := W6.heap.size) 5 (.int .i64 (max a2 a3)) ne_c_n ((g.h.block _ z2_c).trans E2_c.out)); exact h2
  have R3_s : V3.heap[W1.heap.size]? = some (.cells #[.int .i64 s.glo, .int .i64 s.ghi, .int .i64 s.ylo, .int .i64 s.yhi, .int .i64 s.tlo, .int .i64 s.thi, .int .i64 s.wlo, .int .i64 s.whi] 28 (0, 0)) := by rw [← hV3]; have h2 := (set_far (n := W6.heap.size) 5 (.int .i64 (max a2 a3)) ne_s_n ((g.h.block _ z2_s).trans E2_s.out)); exact h2
  have R3_o : V3.heap[W2.heap.size]? = some (.cells #[.int .i64 3, .int .i64 o1, .int .i64 o2, .int .i64 o3, .int .i64 o4, .int .i64 m, .int .i64 a, .int .i64 b, .int .i64 x, .int .i64 y] 33 (0, 0)) := by rw [← hV3]; have h2 := (set_far (n := W6.heap.size) 5 (.int .i64 (max a2 a3)) ne_o_n ((g.h.block _ z2_o).trans E2_o.out)); exact h2
  have R3_rs : V3.heap[W3.heap.size]? = some (.cells #[.int .i64 0, .int .i64 0, .int .i64 0, .int .i64 0, .int .i64 0, .int .i64 0, .int .i64 0, .int .i64 0] 28 (0, 0)) := by rw [← hV3]; have h2 := (set_far (n := W6.heap.size) 5 (.int .i64 (max a2 a3)) ne_rs_n ((g.h.block _ z2_rs).trans E2_rs.out)); exact h2
  have R3_ro : V3.heap[W4.heap.size]? = some (.cells #[.int .i64 0, .int .i64 0, .int .i64 0, .int .i64 0, .int .i64 0, .int .i64 0] 35 (0, 0)) := by rw [← hV3]; have h2 := (set_far (n := W6.heap.size) 5 (.int .i64 (max a2 a3)) ne_ro_n ((g.h.block _ z2_ro).trans E2_ro.out)); exact h2
  have R3_q : V3.heap[W5.heap.size]? = some (.cells #[.int .i64 0, .int .i64 0, .int .i64 0, .int .i64 0, .int .i64 0, .int .i64 0] 35 (0, 0)) := by rw [← hV3]; have h2 := (set_far (n := W6.heap.size) 5 (.int .i64 (max a2 a3)) ne_q_n ((g.h.block _ z2_q).trans E2_q.out)); exact h2
  have R3_n : V3.heap[W6.heap.size]? = some (.cells #[.int .i64 s.glo, .int .i64 s.ghi, .int .i64 s.ylo, .int .i64 s.yhi, .int .i64 (min a0 a1), .int .i64 (max a2 a3), .int .i64 (s.wlo + x), .int .i64 (s.whi + y)] 28 (0, 0)) := by rw [← hV3]; have h2 := (set_one ((g.h.block _ z2_n).trans E2_n.out) 5 (.int .i64 (max a2 a3))); simp only [List.setIfInBounds_toArray, List.set_cons_zero, List.set_cons_succ] at h2; exact h2
  have B3 : Below w.heap.size w V3 := by rw [← hV3]; exact (Below.setCell (p := ⟨W6.heap.size, 5, none⟩) (B2.trans (g.h.mono B2.size)) le_n (.int .i64 (max a2 a3)))
  clear hV3 gz3
  clear q2_c_0 q2_c_1 q2_c_2 q2_c_3 q2_c_4 q2_c_5 q2_c_6 q2_c_7 q2_c_8 q2_c_9 q2_c_10 q2_s_0 q2_s_1 q2_s_2 q2_s_3 q2_s_4 q2_s_5 q2_s_6 q2_s_7 q2_o_0 q2_o_1 q2_o_2 q2_o_3 q2_o_4 q2_o_5 q2_o_6 q2_o_7 q2_o_8 q2_o_9 q2_n_0 f2_n_0 q2_n_1 f2_n_1 q2_n_2 f2_n_2 q2_n_3 f2_n_3 q2_n_4 f2_n_4 q2_n_5 f2_n_5 q2_n_6 f2_n_6 q2_n_7 f2_n_7
  have E3_c := Lib.hid R3_c
  obtain ⟨z3_c, r3_c, t3_c⟩ := row_cells R3_c
  clear r3_c t3_c R3_c
  have E3_s := Lib.hid R3_s
  obtain ⟨z3_s, r3_s, t3_s⟩ := row_cells R3_s
  clear r3_s t3_s R3_s
  have E3_o := Lib.hid R3_o
  obtain ⟨z3_o, r3_o, t3_o⟩ := row_cells R3_o
  clear r3_o t3_o R3_o
  have E3_rs := Lib.hid R3_rs
  obtain ⟨z3_rs, r3_rs, t3_rs⟩ := row_cells R3_rs
  obtain ⟨q3_rs_0, q3_rs_1, q3_rs_2, q3_rs_3, q3_rs_4, q3_rs_5, q3_rs_6, q3_rs_7⟩ := rc8 R3_rs
  obtain ⟨f3_rs_0, f3_rs_1, f3_rs_2, f3_rs_3, f3_rs_4, f3_rs_5, f3_rs_6, f3_rs_7⟩ := rf8 R3_rs
  clear r3_rs t3_rs R3_rs
  have E3_ro := Lib.hid R3_ro
  obtain ⟨z3_ro, r3_ro, t3_ro⟩ := row_cells R3_ro
  obtain ⟨q3_ro_0, q3_ro_1, q3_ro_2, q3_ro_3, q3_ro_4, q3_ro_5⟩ := rc6 R3_ro
  obtain ⟨f3_ro_0, f3_ro_1, f3_ro_2, f3_ro_3, f3_ro_4, f3_ro_5⟩ := rf6 R3_ro
  clear r3_ro t3_ro R3_ro
  have E3_q := Lib.hid R3_q
  obtain ⟨z3_q, r3_q, t3_q⟩ := row_cells R3_q
  obtain ⟨q3_q_0, q3_q_1, q3_q_2, q3_q_3, q3_q_4, q3_q_5⟩ := rc6 R3_q
  clear r3_q t3_q R3_q
  have E3_n := Lib.hid R3_n
  obtain ⟨z3_n, r3_n, t3_n⟩ := row_cells R3_n
  obtain ⟨q3_n_0, q3_n_1, q3_n_2, q3_n_3, q3_n_4, q3_n_5, q3_n_6, q3_n_7⟩ := rc8 R3_n
  clear r3_n t3_n R3_n
  clear kW0 kW1 kW2 kW3 e1 e2
  have hd1 : decide (s.ghi ≤ 1000000) = true := by rw [decide_eq_true_eq]; omega
  have hd2 : decide (s.yhi ≤ 1000000) = true := by rw [decide_eq_true_eq]; omega
  cases hd3 : decide (s.whi + y ≤ 1000000000)
  · skip
    have hgf := grow_frozen V3
    go_region
    generalize hV4 : World.setCell _ ⟨W4.heap.size, 5, none⟩ _ = V4
    have R4_rs : V4.heap[W3.heap.size]? = some (.cells #[.int .i64 s.glo, .int .i64 s.ghi, .int .i64 s.ylo, .int .i64 s.yhi, .int .i64 (min a0 a1), .int .i64 (max a2 a3), .int .i64 (s.wlo + x), .int .i64 (s.whi + y)] 28 (0, 0)) := by rw [← hV4]; have h2 := (set_far (n := W4.heap.size) 5 (.int .i64 0) ne_rs_ro (set_far (n := W4.heap.size) 4 (.int .i64 0) ne_rs_ro (set_far (n := W4.heap.size) 3 (.int .i64 0) ne_rs_ro (set_far (n := W4.heap.size) 2 (.int .i64 0) ne_rs_ro (set_far (n := W4.heap.size) 1 (.int .i64 0) ne_rs_ro (set_far (n := W4.heap.size) 0 (.int .i64 0) ne_rs_ro (set_one (set_one (set_one (set_one (set_one (set_one (set_one (set_one E3_rs.out 0 (.int .i64 s.glo)) 1 (.int .i64 s.ghi)) 2 (.int .i64 s.ylo)) 3 (.int .i64 s.yhi)) 4 (.int .i64 (min a0 a1))) 5 (.int .i64 (max a2 a3))) 6 (.int .i64 (s.wlo + x))) 7 (.int .i64 (s.whi + y))))))))); simp only [List.setIfInBounds_toArray, List.set_cons_zero, List.set_cons_succ] at h2; exact h2
    have R4_ro : V4.heap[W4.heap.size]? = some (.cells #[.int .i64 0, .int .i64 0, .int .i64 0, .int .i64 0, .int .i64 0, .int .i64 0] 35 (0, 0)) := by rw [← hV4]; have h2 := (set_one (set_one (set_one (set_one (set_one (set_one (set_far (n := W3.heap.size) 7 (.int .i64 (s.whi + y)) ne_ro_rs (set_far (n := W3.heap.size) 6 (.int .i64 (s.wlo + x)) ne_ro_rs (set_far (n := W3.heap.size) 5 (.int .i64 (max a2 a3)) ne_ro_rs (set_far (n := W3.heap.size) 4 (.int .i64 (min a0 a1)) ne_ro_rs (set_far (n := W3.heap.size) 3 (.int .i64 s.yhi) ne_ro_rs (set_far (n := W3.heap.size) 2 (.int .i64 s.ylo) ne_ro_rs (set_far (n := W3.heap.size) 1 (.int .i64 s.ghi) ne_ro_rs (set_far (n := W3.heap.size) 0 (.int .i64 s.glo) ne_ro_rs E3_ro.out)))))))) 0 (.int .i64 0)) 1 (.int .i64 0)) 2 (.int .i64 0)) 3 (.int .i64 0)) 4 (.int .i64 0)) 5 (.int .i64 0)); simp only [List.setIfInBounds_toArray, List.set_cons_zero, List.set_cons_succ] at h2; exact h2
    have B4 : Below w.heap.size w V4 := by rw [← hV4]; exact (Below.setCell (p := ⟨W4.heap.size, 5, none⟩) (Below.setCell (p := ⟨W4.heap.size, 4, none⟩) (Below.setCell (p := ⟨W4.heap.size, 3, none⟩) (Below.setCell (p := ⟨W4.heap.size, 2, none⟩) (Below.setCell (p := ⟨W4.heap.size, 1, none⟩) (Below.setCell (p := ⟨W4.heap.size, 0, none⟩) (Below.setCell (p := ⟨W3.heap.size, 7, none⟩) (Below.setCell (p := ⟨W3.heap.size, 6, none⟩) (Below.setCell (p := ⟨W3.heap.size, 5, none⟩) (Below.setCell (p := ⟨W3.heap.size, 4, none⟩) (Below.setCell (p := ⟨W3.heap.size, 3, none⟩) (Below.setCell (p := ⟨W3.heap.size, 2, none⟩) (Below.setCell (p := ⟨W3.heap.size, 1, none⟩) (Below.setCell (p := ⟨W3.heap.size, 0, none⟩) B3 le_rs (.int .i64 s.glo)) le_rs (.int .i64 s.ghi)) le_rs (.int .i64 s.ylo)) le_rs (.int .i64 s.yhi)) le_rs (.int .i64 (min a0 a1))) le_rs (.int .i64 (max a2 a3))) le_rs (.int .i64 (s.wlo + x))) le_rs (.int .i64 (s.whi + y))) le_ro (.int .i64 0)) le_ro (.int .i64 0)) le_ro (.int .i64 0)) le_ro (.int .i64 0)) le_ro (.int .i64 0)) le_ro (.int .i64 0))
    clear hV4
    clear q3_rs_0 f3_rs_0 q3_rs_1 f3_rs_1 q3_rs_2 f3_rs_2 q3_rs_3 f3_rs_3 q3_rs_4 f3_rs_4 q3_rs_5 f3_rs_5 q3_rs_6 f3_rs_6 q3_rs_7 f3_rs_7 q3_ro_0 f3_ro_0 q3_ro_1 f3_ro_1 q3_ro_2 f3_ro_2 q3_ro_3 f3_ro_3 q3_ro_4 f3_ro_4 q3_ro_5 f3_ro_5 q3_q_0 q3_q_1 q3_q_2 q3_q_3 q3_q_4 q3_q_5 q3_n_0 q3_n_1 q3_n_2 q3_n_3 q3_n_4 q3_n_5 q3_n_6 q3_n_7
    have E4_rs := Lib.hid R4_rs
    obtain ⟨z4_rs, r4_rs, t4_rs⟩ := row_cells R4_rs
    obtain ⟨q4_rs_0, q4_rs_1, q4_rs_2, q4_rs_3, q4_rs_4, q4_rs_5, q4_rs_6, q4_rs_7⟩ := rc8 R4_rs
    clear r4_rs t4_rs R4_rs
    have E4_ro := Lib.hid R4_ro
    obtain ⟨z4_ro, r4_ro, t4_ro⟩ := row_cells R4_ro
    obtain ⟨q4_ro_0, q4_ro_1, q4_ro_2, q4_ro_3, q4_ro_4, q4_ro_5⟩ := rc6 R4_ro
    clear r4_ro t4_ro R4_ro
    go_wp2
    refine bodyPost_ret (v := .tuple #[.agg #[.int .i64 s.glo, .int .i64 s.ghi, .int .i64 s.ylo, .int .i64 s.yhi, .int .i64 (min a0 a1), .int .i64 (max a2 a3), .int .i64 (s.wlo + x), .int .i64 (s.whi + y)], .agg #[.int .i64 0, .int .i64 0, .int .i64 0, .int .i64 0, .int .i64 0, .int .i64 0], .bool false]) (by simp [results, Try.results21, go_sem, *]) rfl ⟨(by rw [hd1, hd2, hd3]; rfl), B4.drew⟩
  have hgf := grow_frozen V3
  go_region
  generalize hV4 : World.setCell _ ⟨W4.heap.size, 5, none⟩ _ = V4
  have R4_rs : V4.heap[W3.heap.size]? = some (.cells #[.int .i64 s.glo, .int .i64 s.ghi, .int .i64 s.ylo, .int .i64 s.yhi, .int .i64 (min a0 a1), .int .i64 (max a2 a3), .int .i64 (s.wlo + x), .int .i64 (s.whi + y)] 28 (0, 0)) := by rw [← hV4]; have h2 := (set_far (n := W4.heap.size) 5 (.int .i64 0) ne_rs_ro (set_far (n := W4.heap.size) 4 (.int .i64 0) ne_rs_ro (set_far (n := W4.heap.size) 3 (.int .i64 0) ne_rs_ro (set_far (n := W4.heap.size) 2 (.int .i64 0) ne_rs_ro (set_far (n := W4.heap.size) 1 (.int .i64 0) ne_rs_ro (set_far (n := W4.heap.size) 0 (.int .i64 0) ne_rs_ro (set_one (set_one (set_one (set_one (set_one (set_one (set_one (set_one E3_rs.out 0 (.int .i64 s.glo)) 1 (.int .i64 s.ghi)) 2 (.int .i64 s.ylo)) 3 (.int .i64 s.yhi)) 4 (.int .i64 (min a0 a1))) 5 (.int .i64 (max a2 a3))) 6 (.int .i64 (s.wlo + x))) 7 (.int .i64 (s.whi + y))))))))); simp only [List.setIfInBounds_toArray, List.set_cons_zero, List.set_cons_succ] at h2; exact h2
  have R4_ro : V4.heap[W4.heap.size]? = some (.cells #[.int .i64 0, .int .i64 0, .int .i64 0, .int .i64 0, .int .i64 0, .int .i64 0] 35 (0, 0)) := by rw [← hV4]; have h2 := (set_one (set_one (set_one (set_one (set_one (set_one (set_far (n := W3.heap.size) 7 (.int .i64 (s.whi + y)) ne_ro_rs (set_far (n := W3.heap.size) 6 (.int .i64 (s.wlo + x)) ne_ro_rs (set_far (n := W3.heap.size) 5 (.int .i64 (max a2 a3)) ne_ro_rs (set_far (n := W3.heap.size) 4 (.int .i64 (min a0 a1)) ne_ro_rs (set_far (n := W3.heap.size) 3 (.int .i64 s.yhi) ne_ro_rs (set_far (n := W3.heap.size) 2 (.int .i64 s.ylo) ne_ro_rs (set_far (n := W3.heap.size) 1 (.int .i64 s.ghi) ne_ro_rs (set_far (n := W3.heap.size) 0 (.int .i64 s.glo) ne_ro_rs E3_ro.out)))))))) 0 (.int .i64 0)) 1 (.int .i64 0)) 2 (.int .i64 0)) 3 (.int .i64 0)) 4 (.int .i64 0)) 5 (.int .i64 0)); simp only [List.setIfInBounds_toArray, List.set_cons_zero, List.set_cons_succ] at h2; exact h2
  have B4 : Below w.heap.size w V4 := by rw [← hV4]; exact (Below.setCell (p := ⟨W4.heap.size, 5, none⟩) (Below.setCell (p := ⟨W4.heap.size, 4, none⟩) (Below.setCell (p := ⟨W4.heap.size, 3, none⟩) (Below.setCell (p := ⟨W4.heap.size, 2, none⟩) (Below.setCell (p := ⟨W4.heap.size, 1, none⟩) (Below.setCell (p := ⟨W4.heap.size, 0, none⟩) (Below.setCell (p := ⟨W3.heap.size, 7, none⟩) (Below.setCell (p := ⟨W3.heap.size, 6, none⟩) (Below.setCell (p := ⟨W3.heap.size, 5, none⟩) (Below.setCell (p := ⟨W3.heap.size, 4, none⟩) (Below.setCell (p := ⟨W3.heap.size, 3, none⟩) (Below.setCell (p := ⟨W3.heap.size, 2, none⟩) (Below.setCell (p := ⟨W3.heap.size, 1, none⟩) (Below.setCell (p := ⟨W3.heap.size, 0, none⟩) B3 le_rs (.int .i64 s.glo)) le_rs (.int .i64 s.ghi)) le_rs (.int .i64 s.ylo)) le_rs (.int .i64 s.yhi)) le_rs (.int .i64 (min a0 a1))) le_rs (.int .i64 (max a2 a3))) le_rs (.int .i64 (s.wlo + x))) le_rs (.int .i64 (s.whi + y))) le_ro (.int .i64 0)) le_ro (.int .i64 0)) le_ro (.int .i64 0)) le_ro (.int .i64 0)) le_ro (.int .i64 0)) le_ro (.int .i64 0))
  clear hV4
  clear q3_rs_0 f3_rs_0 q3_rs_1 f3_rs_1 q3_rs_2 f3_rs_2 q3_rs_3 f3_rs_3 q3_rs_4 f3_rs_4 q3_rs_5 f3_rs_5 q3_rs_6 f3_rs_6 q3_rs_7 f3_rs_7 q3_ro_0 f3_ro_0 q3_ro_1 f3_ro_1 q3_ro_2 f3_ro_2 q3_ro_3 f3_ro_3 q3_ro_4 f3_ro_4 q3_ro_5 f3_ro_5 q3_q_0 q3_q_1 q3_q_2 q3_q_3 q3_q_4 q3_q_5 q3_n_0 q3_n_1 q3_n_2 q3_n_3 q3_n_4 q3_n_5 q3_n_6 q3_n_7
  have E4_rs := Lib.hid R4_rs
  obtain ⟨z4_rs, r4_rs, t4_rs⟩ := row_cells R4_rs
  obtain ⟨q4_rs_0, q4_rs_1, q4_rs_2, q4_rs_3, q4_rs_4, q4_rs_5, q4_rs_6, q4_rs_7⟩ := rc8 R4_rs
  clear r4_rs t4_rs R4_rs
  have E4_ro := Lib.hid R4_ro
  obtain ⟨z4_ro, r4_ro, t4_ro⟩ := row_cells R4_ro
  obtain ⟨q4_ro_0, q4_ro_1, q4_ro_2, q4_ro_3, q4_ro_4, q4_ro_5⟩ := rc6 R4_ro
  clear r4_ro t4_ro R4_ro
  go_wp2
  refine bodyPost_ret (v := .tuple #[.agg #[.int .i64 s.glo, .int .i64 s.ghi, .int .i64 s.ylo, .int .i64 s.yhi, .int .i64 (min a0 a1), .int .i64 (max a2 a3), .int .i64 (s.wlo + x), .int .i64 (s.whi + y)], .agg #[.int .i64 0, .int .i64 0, .int .i64 0, .int .i64 0, .int .i64 0, .int .i64 0], .bool true]) (by simp [results, Try.results21, go_sem, *]) rfl ⟨(by rw [hd1, hd2, hd3]; rfl), B4.drew⟩
end Go.Proofs.Ytgmbolagciaenaa
