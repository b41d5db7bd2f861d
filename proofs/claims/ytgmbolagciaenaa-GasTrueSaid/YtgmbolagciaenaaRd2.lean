/- Gas: the walk of the reference's Do: a withdrawal. -/
import Derived.Test.YtgmbolagciaenaaSto
import Derived.Test.YtgmbolagciaenaaA7
import Derived.Test.YtgmbolagciaenaaGen
import Derived.BigRegion
set_option linter.unusedVariables false
set_option linter.unusedSimpArgs false
namespace Go.Proofs.Ytgmbolagciaenaa
open Go.RowKit Go.Sd Gas

set_option maxRecDepth 100000 in
set_option maxHeartbeats 8000000 in
theorem refDo2No (c : Cav) (s : St) (o1 o2 o3 o4 m a b x y : Int) (w : World) (hs : s.Ok) (hm : 0 ≤ m ∧ m ≤ 100000000) (hlo : ¬ m ≤ s.glo + s.ylo) :
    Calls Try.prog 21 #[cavV c, stV s, opV ⟨2, o1, o2, o3, o4, m, a, b, x, y⟩] w fun e w' => e = .returned (.tuple #[stV s, outV ⟨0, 0, 0, 0, 0, 0⟩, .bool false]) ∧ Below w.heap.size w w' := by
  have hg1 := hs.g; have hy1 := hs.y; have hlt : s.glo + s.ylo < m := by omega
  obtain ⟨W1, hW1⟩ : ∃ W1, w.alloc (.cells #[.int .i64 c.vlo, .int .i64 c.vhi, .int .i64 c.least, .int .i64 c.most, .int .i64 c.f0, .int .i64 c.f1, .int .i64 c.h0, .int .i64 c.h1, .int .i64 c.rock, .int .i64 c.plo, .int .i64 c.phi] 26) = W1 := ⟨_, rfl⟩
  obtain ⟨e_c, b_c, s_c⟩ := boxed hW1
  obtain ⟨W2, hW2⟩ : ∃ W2, W1.alloc (.cells #[.int .i64 s.glo, .int .i64 s.ghi, .int .i64 s.ylo, .int .i64 s.yhi, .int .i64 s.tlo, .int .i64 s.thi, .int .i64 s.wlo, .int .i64 s.whi] 28) = W2 := ⟨_, rfl⟩
  obtain ⟨e_s, b_s, s_s⟩ := boxed hW2
  replace e_c := (b_s.block _ (Array.getElem?_eq_some_iff.1 e_c).1).trans e_c
  obtain ⟨W3, hW3⟩ : ∃ W3, W2.alloc (.cells #[.int .i64 2, .int .i64 o1, .int .i64 o2, .int .i64 o3, .int .i64 o4, .int .i64 m, .int .i64 a, .int .i64 b, .int .i64 x, .int .i64 y] 33) = W3 := ⟨_, rfl⟩
  obtain ⟨e_o, b_o, s_o⟩ := boxed hW3
  replace e_c := (b_o.block _ (Array.getElem?_eq_some_iff.1 e_c).1).trans e_c
  replace e_s := (b_o.block _ (Array.getElem?_eq_some_iff.1 e_s).1).trans e_s
  obtain ⟨W4, hW4⟩ : ∃ W4, W3.alloc (.cells #[.int .i64 0, .int .i64 0, .int .i64 0, .int .i64 0, .int .i64 0, .int .i64 0, .int .i64 0, .int .i64 0] 28) = W4 := ⟨_, rfl⟩
  obtain ⟨e_rs, b_rs, s_rs⟩ := boxed hW4
  replace e_c := (b_rs.block _ (Array.getElem?_eq_some_iff.1 e_c).1).trans e_c
  replace e_s := (b_rs.block _ (Array.getElem?_eq_some_iff.1 e_s).1).trans e_s
  replace e_o := (b_rs.block _ (Array.getElem?_eq_some_iff.1 e_o).1).trans e_o
  obtain ⟨W5, hW5⟩ : ∃ W5, W4.alloc (.cells #[.int .i64 0, .int .i64 0, .int .i64 0, .int .i64 0, .int .i64 0, .int .i64 0] 35) = W5 := ⟨_, rfl⟩
  obtain ⟨e_ro, b_ro, s_ro⟩ := boxed hW5
  replace e_c := (b_ro.block _ (Array.getElem?_eq_some_iff.1 e_c).1).trans e_c
  replace e_s := (b_ro.block _ (Array.getElem?_eq_some_iff.1 e_s).1).trans e_s
  replace e_o := (b_ro.block _ (Array.getElem?_eq_some_iff.1 e_o).1).trans e_o
  replace e_rs := (b_ro.block _ (Array.getElem?_eq_some_iff.1 e_rs).1).trans e_rs
  obtain ⟨W6, hW6⟩ : ∃ W6, W5.alloc (.cells #[.int .i64 0, .int .i64 0, .int .i64 0, .int .i64 0, .int .i64 0, .int .i64 0] 35) = W6 := ⟨_, rfl⟩
  obtain ⟨e_q, b_q, s_q⟩ := boxed hW6
  replace e_c := (b_q.block _ (Array.getElem?_eq_some_iff.1 e_c).1).trans e_c
  replace e_s := (b_q.block _ (Array.getElem?_eq_some_iff.1 e_s).1).trans e_s
  replace e_o := (b_q.block _ (Array.getElem?_eq_some_iff.1 e_o).1).trans e_o
  replace e_rs := (b_q.block _ (Array.getElem?_eq_some_iff.1 e_rs).1).trans e_rs
  replace e_ro := (b_q.block _ (Array.getElem?_eq_some_iff.1 e_ro).1).trans e_ro
  obtain ⟨m6_s_0, m6_s_1, m6_s_2, m6_s_3, m6_s_4, m6_s_5, m6_s_6, m6_s_7⟩ := rc8 e_s
  have mz6_s : W1.heap.size < W6.heap.size := (Array.getElem?_eq_some_iff.1 e_s).1
  obtain ⟨W, hW⟩ : ∃ W, W6.alloc (.cells #[.int .i64 s.glo, .int .i64 s.ghi, .int .i64 s.ylo, .int .i64 s.yhi, .int .i64 s.tlo, .int .i64 s.thi, .int .i64 s.wlo, .int .i64 s.whi] 28) = W := ⟨_, rfl⟩
  obtain ⟨e_n, b_n, s_n⟩ := boxed hW
  replace e_c := (b_n.block _ (Array.getElem?_eq_some_iff.1 e_c).1).trans e_c
  replace e_s := (b_n.block _ (Array.getElem?_eq_some_iff.1 e_s).1).trans e_s
  replace e_o := (b_n.block _ (Array.getElem?_eq_some_iff.1 e_o).1).trans e_o
  replace e_rs := (b_n.block _ (Array.getElem?_eq_some_iff.1 e_rs).1).trans e_rs
  replace e_ro := (b_n.block _ (Array.getElem?_eq_some_iff.1 e_ro).1).trans e_ro
  replace e_q := (b_n.block _ (Array.getElem?_eq_some_iff.1 e_q).1).trans e_q
  have B0 : Below w.heap.size w W := ((((((b_c.trans (b_s.mono (by omega))).trans (b_o.mono (by omega))).trans (b_rs.mono (by omega))).trans (b_ro.mono (by omega))).trans (b_q.mono (by omega))).trans (b_n.mono (by omega)))
  have z0_c := (Array.getElem?_eq_some_iff.1 e_c).1
  have z0_s := (Array.getElem?_eq_some_iff.1 e_s).1
  have z0_o := (Array.getElem?_eq_some_iff.1 e_o).1
  have z0_rs := (Array.getElem?_eq_some_iff.1 e_rs).1
  have z0_ro := (Array.getElem?_eq_some_iff.1 e_ro).1
  have z0_q := (Array.getElem?_eq_some_iff.1 e_q).1
  have z0_n := (Array.getElem?_eq_some_iff.1 e_n).1
  have ne_c_rs : (w.heap.size : Nat) ≠ W3.heap.size := by omega
  have ne_c_ro : (w.heap.size : Nat) ≠ W4.heap.size := by omega
  have le_c : w.heap.size ≤ w.heap.size := by omega
  have ne_s_rs : (W1.heap.size : Nat) ≠ W3.heap.size := by omega
  have ne_s_ro : (W1.heap.size : Nat) ≠ W4.heap.size := by omega
  have le_s : w.heap.size ≤ W1.heap.size := by omega
  have ne_o_rs : (W2.heap.size : Nat) ≠ W3.heap.size := by omega
  have ne_o_ro : (W2.heap.size : Nat) ≠ W4.heap.size := by omega
  have le_o : w.heap.size ≤ W2.heap.size := by omega
  have ne_rs_ro : (W3.heap.size : Nat) ≠ W4.heap.size := by omega
  have le_rs : w.heap.size ≤ W3.heap.size := by omega
  have ne_ro_rs : (W4.heap.size : Nat) ≠ W3.heap.size := by omega
  have le_ro : w.heap.size ≤ W4.heap.size := by omega
  have ne_q_rs : (W5.heap.size : Nat) ≠ W3.heap.size := by omega
  have ne_q_ro : (W5.heap.size : Nat) ≠ W4.heap.size := by omega
  have le_q : w.heap.size ≤ W5.heap.size := by omega
  have ne_n_rs : (W6.heap.size : Nat) ≠ W3.heap.size := by omega
  have ne_n_ro : (W6.heap.size : Nat) ≠ W4.heap.size := by omega
  have le_n : w.heap.size ≤ W6.heap.size := by omega
  clear s_c b_c s_s b_s s_o b_o s_rs b_rs s_ro b_ro s_q b_q s_n b_n
  replace e_c := Lib.hid e_c
  obtain ⟨q0_s_0, q0_s_1, q0_s_2, q0_s_3, q0_s_4, q0_s_5, q0_s_6, q0_s_7⟩ := rc8 e_s
  replace e_s := Lib.hid e_s
  obtain ⟨q0_o_0, q0_o_1, q0_o_2, q0_o_3, q0_o_4, q0_o_5, q0_o_6, q0_o_7, q0_o_8, q0_o_9⟩ := rc10 e_o
  replace e_o := Lib.hid e_o
  obtain ⟨q0_rs_0, q0_rs_1, q0_rs_2, q0_rs_3, q0_rs_4, q0_rs_5, q0_rs_6, q0_rs_7⟩ := rc8 e_rs
  obtain ⟨f0_rs_0, f0_rs_1, f0_rs_2, f0_rs_3, f0_rs_4, f0_rs_5, f0_rs_6, f0_rs_7⟩ := rf8 e_rs
  replace e_rs := Lib.hid e_rs
  obtain ⟨q0_ro_0, q0_ro_1, q0_ro_2, q0_ro_3, q0_ro_4, q0_ro_5⟩ := rc6 e_ro
  obtain ⟨f0_ro_0, f0_ro_1, f0_ro_2, f0_ro_3, f0_ro_4, f0_ro_5⟩ := rf6 e_ro
  replace e_ro := Lib.hid e_ro
  obtain ⟨q0_q_0, q0_q_1, q0_q_2, q0_q_3, q0_q_4, q0_q_5⟩ := rc6 e_q
  replace e_q := Lib.hid e_q
  replace e_n := Lib.hid e_n
  go_enter Try.func21, Try.ntmps21
  go_wp2
  go_region
  go_wp2
  have hgf := grow_frozen W
  go_region
  generalize hV1 : World.setCell _ ⟨W4.heap.size, 5, none⟩ _ = V1
  have R1_rs : V1.heap[W3.heap.size]? = some (.cells #[.int .i64 s.glo, .int .i64 s.ghi, .int .i64 s.ylo, .int .i64 s.yhi, .int .i64 s.tlo, .int .i64 s.thi, .int .i64 s.wlo, .int .i64 s.whi] 28 (0, 0)) := by rw [← hV1]; have h2 := (set_far (n := W4.heap.size) 5 (.int .i64 0) ne_rs_ro (set_far (n := W4.heap.size) 4 (.int .i64 0) ne_rs_ro (set_far (n := W4.heap.size) 3 (.int .i64 0) ne_rs_ro (set_far (n := W4.heap.size) 2 (.int .i64 0) ne_rs_ro (set_far (n := W4.heap.size) 1 (.int .i64 0) ne_rs_ro (set_far (n := W4.heap.size) 0 (.int .i64 0) ne_rs_ro (set_one (set_one (set_one (set_one (set_one (set_one (set_one (set_one e_rs.out 0 (.int .i64 s.glo)) 1 (.int .i64 s.ghi)) 2 (.int .i64 s.ylo)) 3 (.int .i64 s.yhi)) 4 (.int .i64 s.tlo)) 5 (.int .i64 s.thi)) 6 (.int .i64 s.wlo)) 7 (.int .i64 s.whi)))))))); simp only [List.setIfInBounds_toArray, List.set_cons_zero, List.set_cons_succ] at h2; exact h2
  have R1_ro : V1.heap[W4.heap.size]? = some (.cells #[.int .i64 0, .int .i64 0, .int .i64 0, .int .i64 0, .int .i64 0, .int .i64 0] 35 (0, 0)) := by rw [← hV1]; have h2 := (set_one (set_one (set_one (set_one (set_one (set_one (set_far (n := W3.heap.size) 7 (.int .i64 s.whi) ne_ro_rs (set_far (n := W3.heap.size) 6 (.int .i64 s.wlo) ne_ro_rs (set_far (n := W3.heap.size) 5 (.int .i64 s.thi) ne_ro_rs (set_far (n := W3.heap.size) 4 (.int .i64 s.tlo) ne_ro_rs (set_far (n := W3.heap.size) 3 (.int .i64 s.yhi) ne_ro_rs (set_far (n := W3.heap.size) 2 (.int .i64 s.ylo) ne_ro_rs (set_far (n := W3.heap.size) 1 (.int .i64 s.ghi) ne_ro_rs (set_far (n := W3.heap.size) 0 (.int .i64 s.glo) ne_ro_rs e_ro.out)))))))) 0 (.int .i64 0)) 1 (.int .i64 0)) 2 (.int .i64 0)) 3 (.int .i64 0)) 4 (.int .i64 0)) 5 (.int .i64 0)); simp only [List.setIfInBounds_toArray, List.set_cons_zero, List.set_cons_succ] at h2; exact h2
  have B1 : Below w.heap.size w V1 := by rw [← hV1]; exact (Below.setCell (p := ⟨W4.heap.size, 5, none⟩) (Below.setCell (p := ⟨W4.heap.size, 4, none⟩) (Below.setCell (p := ⟨W4.heap.size, 3, none⟩) (Below.setCell (p := ⟨W4.heap.size, 2, none⟩) (Below.setCell (p := ⟨W4.heap.size, 1, none⟩) (Below.setCell (p := ⟨W4.heap.size, 0, none⟩) (Below.setCell (p := ⟨W3.heap.size, 7, none⟩) (Below.setCell (p := ⟨W3.heap.size, 6, none⟩) (Below.setCell (p := ⟨W3.heap.size, 5, none⟩) (Below.setCell (p := ⟨W3.heap.size, 4, none⟩) (Below.setCell (p := ⟨W3.heap.size, 3, none⟩) (Below.setCell (p := ⟨W3.heap.size, 2, none⟩) (Below.setCell (p := ⟨W3.heap.size, 1, none⟩) (Below.setCell (p := ⟨W3.heap.size, 0, none⟩) B0 le_rs (.int .i64 s.glo)) le_rs (.int .i64 s.ghi)) le_rs (.int .i64 s.ylo)) le_rs (.int .i64 s.yhi)) le_rs (.int .i64 s.tlo)) le_rs (.int .i64 s.thi)) le_rs (.int .i64 s.wlo)) le_rs (.int .i64 s.whi)) le_ro (.int .i64 0)) le_ro (.int .i64 0)) le_ro (.int .i64 0)) le_ro (.int .i64 0)) le_ro (.int .i64 0)) le_ro (.int .i64 0))
  clear hV1
  clear m6_s_0 m6_s_1 m6_s_2 m6_s_3 m6_s_4 m6_s_5 m6_s_6 m6_s_7 mz6_s q0_s_0 q0_s_1 q0_s_2 q0_s_3 q0_s_4 q0_s_5 q0_s_6 q0_s_7 q0_o_0 q0_o_1 q0_o_2 q0_o_3 q0_o_4 q0_o_5 q0_o_6 q0_o_7 q0_o_8 q0_o_9 q0_rs_0 f0_rs_0 q0_rs_1 f0_rs_1 q0_rs_2 f0_rs_2 q0_rs_3 f0_rs_3 q0_rs_4 f0_rs_4 q0_rs_5 f0_rs_5 q0_rs_6 f0_rs_6 q0_rs_7 f0_rs_7 q0_ro_0 f0_ro_0 q0_ro_1 f0_ro_1 q0_ro_2 f0_ro_2 q0_ro_3 f0_ro_3 q0_ro_4 f0_ro_4 q0_ro_5 f0_ro_5 q0_q_0 q0_q_1 q0_q_2 q0_q_3 q0_q_4 q0_q_5
  have E1_rs := Lib.hid R1_rs
  obtain ⟨z1_rs, r1_rs, t1_rs⟩ := row_cells R1_rs
  obtain ⟨q1_rs_0, q1_rs_1, q1_rs_2, q1_rs_3, q1_rs_4, q1_rs_5, q1_rs_6, q1_rs_7⟩ := rc8 R1_rs
  clear r1_rs t1_rs R1_rs
  have E1_ro := Lib.hid R1_ro
  obtain ⟨z1_ro, r1_ro, t1_ro⟩ := row_cells R1_ro
  obtain ⟨q1_ro_0, q1_ro_1, q1_ro_2, q1_ro_3, q1_ro_4, q1_ro_5⟩ := rc6 R1_ro
  clear r1_ro t1_ro R1_ro
  go_wp2
  refine bodyPost_ret (v := .tuple #[.agg #[.int .i64 s.glo, .int .i64 s.ghi, .int .i64 s.ylo, .int .i64 s.yhi, .int .i64 s.tlo, .int .i64 s.thi, .int .i64 s.wlo, .int .i64 s.whi], .agg #[.int .i64 0, .int .i64 0, .int .i64 0, .int .i64 0, .int .i64 0, .int .i64 0], .bool false]) (by simp [results, Try.results21, go_sem, *]) rfl ⟨rfl, (by first | exact B1 | exact (B1).drew | exact (B1).drew.drew)⟩

set_option maxRecDepth 100000 in
set_option maxHeartbeats 8000000 in
theorem refDo2 (c : Cav) (s : St) (o1 o2 o3 o4 m a b x y : Int) (w : World) (hs : s.Ok) (hm : 0 ≤ m ∧ m ≤ 100000000) (hlo : m ≤ s.glo + s.ylo) :
    Calls Try.prog 21 #[cavV c, stV s, opV ⟨2, o1, o2, o3, o4, m, a, b, x, y⟩] w fun e w' => e = .returned (.tuple #[stV (leftS s m), outV (outS s m), .bool true]) ∧ Below w.heap.size w w' := by
  have hg1 := hs.g; have hy1 := hs.y; have ht1 := hs.t; have hw1 := hs.w
  have hlk := left_ok hs hm.1 hlo
  have k1 := hlk.g; have k2 := hlk.y; have k3 := hlk.w
  have n_p1 : 0 ≤ Gas.part m s.ylo (s.ghi + s.ylo) := part_nn hm.1 (by omega) (by omega)
  have u_p1 : Gas.part m s.ylo (s.ghi + s.ylo) ≤ s.ylo := part_le_n hm.1 (by omega) (by omega)
  have kq_p1 := Lib.hid (fun w => refPart m s.ylo (s.ghi + s.ylo) w (by have := bd_mul (A := 100000000) (B := 1000000000) hm (show 0 ≤ s.ylo ∧ s.ylo ≤ 1000000000 by omega); omega) (by omega))
  have n_p2 : 0 ≤ Gas.part m s.yhi (s.glo + s.yhi) := part_nn hm.1 (by omega) (by omega)
  have u_p2 : Gas.part m s.yhi (s.glo + s.yhi) ≤ s.yhi := part_le_n hm.1 (by omega) (by omega)
  have kq_p2 := Lib.hid (fun w => refPart m s.yhi (s.glo + s.yhi) w (by have := bd_mul (A := 100000000) (B := 1000000000) hm (show 0 ≤ s.yhi ∧ s.yhi ≤ 1000000000 by omega); omega) (by omega))
  have n_p3 : 0 ≤ Gas.part m s.wlo (s.ghi + s.yhi) := part_nn hm.1 (by omega) (by omega)
  have u_p3 : Gas.part m s.wlo (s.ghi + s.yhi) ≤ s.wlo := part_le_n hm.1 (by omega) (by omega)
  have kq_p3 := Lib.hid (fun w => refPart m s.wlo (s.ghi + s.yhi) w (by have := bd_mul (A := 100000000) (B := 1000000000) hm (show 0 ≤ s.wlo ∧ s.wlo ≤ 1000000000 by omega); omega) (by omega))
  have n_p4 : 0 ≤ Gas.part m s.whi (s.glo + s.ylo) := part_nn hm.1 (by omega) (by omega)
  have u_p4 : Gas.part m s.whi (s.glo + s.ylo) ≤ s.whi := part_le_n hm.1 (by omega) (by omega)
  have kq_p4 := Lib.hid (fun w => refPart m s.whi (s.glo + s.ylo) w (by have := bd_mul (A := 100000000) (B := 1000000000) hm (show 0 ≤ s.whi ∧ s.whi ≤ 1000000000 by omega); omega) (by omega))
  have n_pa : 0 ≤ Gas.part m s.ylo (s.glo + s.ylo) := part_nn hm.1 (by omega) (by omega)
  have u_pa : Gas.part m s.ylo (s.glo + s.ylo) ≤ s.ylo := part_le_n hm.1 (by omega) (by omega)
  have kq_pa := Lib.hid (fun w => refPart m s.ylo (s.glo + s.ylo) w (by have := bd_mul (A := 100000000) (B := 1000000000) hm (show 0 ≤ s.ylo ∧ s.ylo ≤ 1000000000 by omega); omega) (by omega))
  have n_pb : 0 ≤ Gas.part m s.yhi (s.ghi + s.yhi) := part_nn hm.1 (by omega) (by omega)
  have u_pb : Gas.part m s.yhi (s.ghi + s.yhi) ≤ s.yhi := part_le_n hm.1 (by omega) (by omega)
  have kq_pb := Lib.hid (fun w => refPart m s.yhi (s.ghi + s.yhi) w (by have := bd_mul (A := 100000000) (B := 1000000000) hm (show 0 ≤ s.yhi ∧ s.yhi ≤ 1000000000 by omega); omega) (by omega))
  have n_p5 : 0 ≤ Gas.part m s.wlo (s.glo + s.ylo) := part_nn hm.1 (by omega) (by omega)
  have u_p5 : Gas.part m s.wlo (s.glo + s.ylo) ≤ s.wlo := part_le_n hm.1 (by omega) (by omega)
  have kq_p5 := Lib.hid (fun w => refPart m s.wlo (s.glo + s.ylo) w (by have := bd_mul (A := 100000000) (B := 1000000000) hm (show 0 ≤ s.wlo ∧ s.wlo ≤ 1000000000 by omega); omega) (by omega))
  have n_p6 : 0 ≤ Gas.part m s.whi (s.ghi + s.yhi) := part_nn hm.1 (by omega) (by omega)
  have u_p6 : Gas.part m s.whi (s.ghi + s.yhi) ≤ s.whi := part_le_n hm.1 (by omega) (by omega)
  have kq_p6 := Lib.hid (fun w => refPart m s.whi (s.ghi + s.yhi) w (by have := bd_mul (A := 100000000) (B := 1000000000) hm (show 0 ≤ s.whi ∧ s.whi ≤ 1000000000 by omega); omega) (by omega))
  simp only [leftS] at k1 k2 k3
  have hres : Hid (stV (leftS s m) = stV ⟨s.glo - (m - Gas.part m s.ylo (s.glo + s.ylo)), s.ghi - (m - Gas.part m s.yhi (s.ghi + s.yhi)), s.ylo - Gas.part m s.ylo (s.glo + s.ylo), s.yhi - Gas.part m s.yhi (s.ghi + s.yhi), s.tlo, s.thi, s.wlo - Gas.part m s.wlo (s.glo + s.ylo), s.whi - Gas.part m s.whi (s.ghi + s.yhi)⟩) := Lib.hid rfl
  have hrq : Hid (outV (outS s m) = outV ⟨m - Gas.part m s.yhi (s.glo + s.yhi), m - Gas.part m s.ylo (s.ghi + s.ylo), Gas.part m s.ylo (s.ghi + s.ylo), Gas.part m s.yhi (s.glo + s.yhi), Gas.part m s.wlo (s.ghi + s.yhi), Gas.part m s.whi (s.glo + s.ylo)⟩) := Lib.hid rfl
  rw [hres.out, hrq.out]
  clear hres hrq hlk
  generalize Gas.part m s.ylo (s.ghi + s.ylo) = p1 at *
  generalize Gas.part m s.yhi (s.glo + s.yhi) = p2 at *
  generalize Gas.part m s.wlo (s.ghi + s.yhi) = p3 at *
  generalize Gas.part m s.whi (s.glo + s.ylo) = p4 at *
  generalize Gas.part m s.ylo (s.glo + s.ylo) = pa at *
  generalize Gas.part m s.yhi (s.ghi + s.yhi) = pb at *
  generalize Gas.part m s.wlo (s.glo + s.ylo) = p5 at *
  generalize Gas.part m s.whi (s.ghi + s.yhi) = p6 at *
  obtain ⟨W1, hW1⟩ : ∃ W1, w.alloc (.cells #[.int .i64 c.vlo, .int .i64 c.vhi, .int .i64 c.least, .int .i64 c.most, .int .i64 c.f0, .int .i64 c.f1, .int .i64 c.h0, .int .i64 c.h1, .int .i64 c.rock, .int .i64 c.plo, .int .i64 c.phi] 26) = W1 := ⟨_, rfl⟩
  obtain ⟨e_c, b_c, s_c⟩ := boxed hW1
  obtain ⟨W2, hW2⟩ : ∃ W2, W1.alloc (.cells #[.int .i64 s.glo, .int .i64 s.ghi, .int .i64 s.ylo, .int .i64 s.yhi, .int .i64 s.tlo, .int .i64 s.thi, .int .i64 s.wlo, .int .i64 s.whi] 28) = W2 := ⟨_, rfl⟩
  obtain ⟨e_s, b_s, s_s⟩ := boxed hW2
  replace e_c := (b_s.block _ (Array.getElem?_eq_some_iff.1 e_c).1).trans e_c
  obtain ⟨W3, hW3⟩ : ∃ W3, W2.alloc (.cells #[.int .i64 2, .int .i64 o1, .int .i64 o2, .int .i64 o3, .int .i64 o4, .int .i64 m, .int .i64 a, .int .i64 b, .int .i64 x, .int .i64 y] 33) = W3 := ⟨_, rfl⟩
  obtain ⟨e_o, b_o, s_o⟩ := boxed hW3
  replace e_c := (b_o.block _ (Array.getElem?_eq_some_iff.1 e_c).1).trans e_c
  replace e_s := (b_o.block _ (Array.getElem?_eq_some_iff.1 e_s).1).trans e_s
  obtain ⟨W4, hW4⟩ : ∃ W4, W3.alloc (.cells #[.int .i64 0, .int .i64 0, .int .i64 0, .int .i64 0, .int .i64 0, .int .i64 0, .int .i64 0, .int .i64 0] 28) = W4 := ⟨_, rfl⟩
  obtain ⟨e_rs, b_rs, s_rs⟩ := boxed hW4
  replace e_c := (b_rs.block _ (Array.getElem?_eq_some_iff.1 e_c).1).trans e_c
  replace e_s := (b_rs.block _ (Array.getElem?_eq_some_iff.1 e_s).1).trans e_s
  replace e_o := (b_rs.block _ (Array.getElem?_eq_some_iff.1 e_o).1).trans e_o
  obtain ⟨W5, hW5⟩ : ∃ W5, W4.alloc (.cells #[.int .i64 0, .int .i64 0, .int .i64 0, .int .i64 0, .int .i64 0, .int .i64 0] 35) = W5 := ⟨_, rfl⟩
  obtain ⟨e_ro, b_ro, s_ro⟩ := boxed hW5
  replace e_c := (b_ro.block _ (Array.getElem?_eq_some_iff.1 e_c).1).trans e_c
  replace e_s := (b_ro.block _ (Array.getElem?_eq_some_iff.1 e_s).1).trans e_s
  replace e_o := (b_ro.block _ (Array.getElem?_eq_some_iff.1 e_o).1).trans e_o
  replace e_rs := (b_ro.block _ (Array.getElem?_eq_some_iff.1 e_rs).1).trans e_rs
  obtain ⟨W6, hW6⟩ : ∃ W6, W5.alloc (.cells #[.int .i64 0, .int .i64 0, .int .i64 0, .int .i64 0, .int .i64 0, .int .i64 0] 35) = W6 := ⟨_, rfl⟩
  obtain ⟨e_q, b_q, s_q⟩ := boxed hW6
  replace e_c := (b_q.block _ (Array.getElem?_eq_some_iff.1 e_c).1).trans e_c
  replace e_s := (b_q.block _ (Array.getElem?_eq_some_iff.1 e_s).1).trans e_s
  replace e_o := (b_q.block _ (Array.getElem?_eq_some_iff.1 e_o).1).trans e_o
  replace e_rs := (b_q.block _ (Array.getElem?_eq_some_iff.1 e_rs).1).trans e_rs
  replace e_ro := (b_q.block _ (Array.getElem?_eq_some_iff.1 e_ro).1).trans e_ro
  obtain ⟨m6_s_0, m6_s_1, m6_s_2, m6_s_3, m6_s_4, m6_s_5, m6_s_6, m6_s_7⟩ := rc8 e_s
  have mz6_s : W1.heap.size < W6.heap.size := (Array.getElem?_eq_some_iff.1 e_s).1
  obtain ⟨W, hW⟩ : ∃ W, W6.alloc (.cells #[.int .i64 s.glo, .int .i64 s.ghi, .int .i64 s.ylo, .int .i64 s.yhi, .int .i64 s.tlo, .int .i64 s.thi, .int .i64 s.wlo, .int .i64 s.whi] 28) = W := ⟨_, rfl⟩
  obtain ⟨e_n, b_n, s_n⟩ := boxed hW
  replace e_c := (b_n.block _ (Array.getElem?_eq_some_iff.1 e_c).1).trans e_c
  replace e_s := (b_n.block _ (Array.getElem?_eq_some_iff.1 e_s).1).trans e_s
  replace e_o := (b_n.block _ (Array.getElem?_eq_some_iff.1 e_o).1).trans e_o
  replace e_rs := (b_n.block _ (Array.getElem?_eq_some_iff.1 e_rs).1).trans e_rs
  replace e_ro := (b_n.block _ (Array.getElem?_eq_some_iff.1 e_ro).1).trans e_ro
  replace e_q := (b_n.block _ (Array.getElem?_eq_some_iff.1 e_q).1).trans e_q
  have B0 : Below w.heap.size w W := ((((((b_c.trans (b_s.mono (by omega))).trans (b_o.mono (by omega))).trans (b_rs.mono (by omega))).trans (b_ro.mono (by omega))).trans (b_q.mono (by omega))).trans (b_n.mono (by omega)))
  have z0_c := (Array.getElem?_eq_some_iff.1 e_c).1
  have z0_s := (Array.getElem?_eq_some_iff.1 e_s).1
  have z0_o := (Array.getElem?_eq_some_iff.1 e_o).1
  have z0_rs := (Array.getElem?_eq_some_iff.1 e_rs).1
  have z0_ro := (Array.getElem?_eq_some_iff.1 e_ro).1
  have z0_q := (Array.getElem?_eq_some_iff.1 e_q).1
  have z0_n := (Array.getElem?_eq_some_iff.1 e_n).1
  have ne_c_rs : (w.heap.size : Nat) ≠ W3.heap.size := by omega
  have ne_c_ro : (w.heap.size : Nat) ≠ W4.heap.size := by omega
  have ne_c_q : (w.heap.size : Nat) ≠ W5.heap.size := by omega
  have ne_c_n : (w.heap.size : Nat) ≠ W6.heap.size := by omega
  have le_c : w.heap.size ≤ w.heap.size := by omega
  have ne_s_rs : (W1.heap.size : Nat) ≠ W3.heap.size := by omega
  have ne_s_ro : (W1.heap.size : Nat) ≠ W4.heap.size := by omega
  have ne_s_q : (W1.heap.size : Nat) ≠ W5.heap.size := by omega
  have ne_s_n : (W1.heap.size : Nat) ≠ W6.heap.size := by omega
  have le_s : w.heap.size ≤ W1.heap.size := by omega
  have ne_o_rs : (W2.heap.size : Nat) ≠ W3.heap.size := by omega
  have ne_o_ro : (W2.heap.size : Nat) ≠ W4.heap.size := by omega
  have ne_o_q : (W2.heap.size : Nat) ≠ W5.heap.size := by omega
  have ne_o_n : (W2.heap.size : Nat) ≠ W6.heap.size := by omega
  have le_o : w.heap.size ≤ W2.heap.size := by omega
  have ne_rs_ro : (W3.heap.size : Nat) ≠ W4.heap.size := by omega
  have ne_rs_q : (W3.heap.size : Nat) ≠ W5.heap.size := by omega
  have ne_rs_n : (W3.heap.size : Nat) ≠ W6.heap.size := by omega
  have le_rs : w.heap.size ≤ W3.heap.size := by omega
  have ne_ro_rs : (W4.heap.size : Nat) ≠ W3.heap.size := by omega
  have ne_ro_q : (W4.heap.size : Nat) ≠ W5.heap.size := by omega
  have ne_ro_n : (W4.heap.size : Nat) ≠ W6.heap.size := by omega
  have le_ro : w.heap.size ≤ W4.heap.size := by omega
  have ne_q_rs : (W5.heap.size : Nat) ≠ W3.heap.size := by omega
  have ne_q_ro : (W5.heap.size : Nat) ≠ W4.heap.size := by omega
  have ne_q_n : (W5.heap.size : Nat) ≠ W6.heap.size := by omega
  have le_q : w.heap.size ≤ W5.heap.size := by omega
  have ne_n_rs : (W6.heap.size : Nat) ≠ W3.heap.size := by omega
  have ne_n_ro : (W6.heap.size : Nat) ≠ W4.heap.size := by omega
  have ne_n_q : (W6.heap.size : Nat) ≠ W5.heap.size := by omega
  have le_n : w.heap.size ≤ W6.heap.size := by omega
  clear s_c b_c s_s b_s s_o b_o s_rs b_rs s_ro b_ro s_q b_q s_n b_n
  replace e_c := Lib.hid e_c
  obtain ⟨q0_s_0, q0_s_1, q0_s_2, q0_s_3, q0_s_4, q0_s_5, q0_s_6, q0_s_7⟩ := rc8 e_s
  replace e_s := Lib.hid e_s
  obtain ⟨q0_o_0, q0_o_1, q0_o_2, q0_o_3, q0_o_4, q0_o_5, q0_o_6, q0_o_7, q0_o_8, q0_o_9⟩ := rc10 e_o
  replace e_o := Lib.hid e_o
  obtain ⟨f0_rs_0, f0_rs_1, f0_rs_2, f0_rs_3, f0_rs_4, f0_rs_5, f0_rs_6, f0_rs_7⟩ := rf8 e_rs
  replace e_rs := Lib.hid e_rs
  obtain ⟨f0_ro_0, f0_ro_1, f0_ro_2, f0_ro_3, f0_ro_4, f0_ro_5⟩ := rf6 e_ro
  replace e_ro := Lib.hid e_ro
  obtain ⟨q0_q_0, q0_q_1, q0_q_2, q0_q_3, q0_q_4, q0_q_5⟩ := rc6 e_q
  obtain ⟨f0_q_0, f0_q_1, f0_q_2, f0_q_3, f0_q_4, f0_q_5⟩ := rf6 e_q
  replace e_q := Lib.hid e_q
  obtain ⟨f0_n_0, f0_n_1, f0_n_2, f0_n_3, f0_n_4, f0_n_5, f0_n_6, f0_n_7⟩ := rf8 e_n
  replace e_n := Lib.hid e_n
  go_enter Try.func21, Try.ntmps21
  go_wp2
  go_region
  go_wp2
  generalize hV1 : (World.drew W) = V1
  have R1_c : V1.heap[w.heap.size]? = some (.cells #[.int .i64 c.vlo, .int .i64 c.vhi, .int .i64 c.least, .int .i64 c.most, .int .i64 c.f0, .int .i64 c.f1, .int .i64 c.h0, .int .i64 c.h1, .int .i64 c.rock, .int .i64 c.plo, .int .i64 c.phi] 26 (0, 0)) := by rw [← hV1]; exact e_c.out
  have R1_s : V1.heap[W1.heap.size]? = some (.cells #[.int .i64 s.glo, .int .i64 s.ghi, .int .i64 s.ylo, .int .i64 s.yhi, .int .i64 s.tlo, .int .i64 s.thi, .int .i64 s.wlo, .int .i64 s.whi] 28 (0, 0)) := by rw [← hV1]; exact e_s.out
  have R1_o : V1.heap[W2.heap.size]? = some (.cells #[.int .i64 2, .int .i64 o1, .int .i64 o2, .int .i64 o3, .int .i64 o4, .int .i64 m, .int .i64 a, .int .i64 b, .int .i64 x, .int .i64 y] 33 (0, 0)) := by rw [← hV1]; exact e_o.out
  have R1_rs : V1.heap[W3.heap.size]? = some (.cells #[.int .i64 0, .int .i64 0, .int .i64 0, .int .i64 0, .int .i64 0, .int .i64 0, .int .i64 0, .int .i64 0] 28 (0, 0)) := by rw [← hV1]; exact e_rs.out
  have R1_ro : V1.heap[W4.heap.size]? = some (.cells #[.int .i64 0, .int .i64 0, .int .i64 0, .int .i64 0, .int .i64 0, .int .i64 0] 35 (0, 0)) := by rw [← hV1]; exact e_ro.out
  have R1_q : V1.heap[W5.heap.size]? = some (.cells #[.int .i64 0, .int .i64 0, .int .i64 0, .int .i64 0, .int .i64 0, .int .i64 0] 35 (0, 0)) := by rw [← hV1]; exact e_q.out
  have R1_n : V1.heap[W6.heap.size]? = some (.cells #[.int .i64 s.glo, .int .i64 s.ghi, .int .i64 s.ylo, .int .i64 s.yhi, .int .i64 s.tlo, .int .i64 s.thi, .int .i64 s.wlo, .int .i64 s.whi] 28 (0, 0)) := by rw [← hV1]; exact e_n.out
  have B1 : Below w.heap.size w V1 := by rw [← hV1]; exact (B0).drew
  clear hV1
  clear m6_s_0 m6_s_1 m6_s_2 m6_s_3 m6_s_4 m6_s_5 m6_s_6 m6_s_7 mz6_s q0_s_0 q0_s_1 q0_s_2 q0_s_3 q0_s_4 q0_s_5 q0_s_6 q0_s_7 q0_o_0 q0_o_1 q0_o_2 q0_o_3 q0_o_4 q0_o_5 q0_o_6 q0_o_7 q0_o_8 q0_o_9 f0_rs_0 f0_rs_1 f0_rs_2 f0_rs_3 f0_rs_4 f0_rs_5 f0_rs_6 f0_rs_7 f0_ro_0 f0_ro_1 f0_ro_2 f0_ro_3 f0_ro_4 f0_ro_5 q0_q_0 f0_q_0 q0_q_1 f0_q_1 q0_q_2 f0_q_2 q0_q_3 f0_q_3 q0_q_4 f0_q_4 q0_q_5 f0_q_5 f0_n_0 f0_n_1 f0_n_2 f0_n_3 f0_n_4 f0_n_5 f0_n_6 f0_n_7
  have E1_c := Lib.hid R1_c
  obtain ⟨z1_c, r1_c, t1_c⟩ := row_cells R1_c
  clear r1_c t1_c R1_c
  have E1_s := Lib.hid R1_s
  obtain ⟨z1_s, r1_s, t1_s⟩ := row_cells R1_s
  obtain ⟨q1_s_0, q1_s_1, q1_s_2, q1_s_3, q1_s_4, q1_s_5, q1_s_6, q1_s_7⟩ := rc8 R1_s
  clear r1_s t1_s R1_s
  have E1_o := Lib.hid R1_o
  obtain ⟨z1_o, r1_o, t1_o⟩ := row_cells R1_o
  obtain ⟨q1_o_0, q1_o_1, q1_o_2, q1_o_3, q1_o_4, q1_o_5, q1_o_6, q1_o_7, q1_o_8, q1_o_9⟩ := rc10 R1_o
  clear r1_o t1_o R1_o
  have E1_rs := Lib.hid R1_rs
  obtain ⟨z1_rs, r1_rs, t1_rs⟩ := row_cells R1_rs
  clear r1_rs t1_rs R1_rs
  have E1_ro := Lib.hid R1_ro
  obtain ⟨z1_ro, r1_ro, t1_ro⟩ := row_cells R1_ro
  clear r1_ro t1_ro R1_ro
  have E1_q := Lib.hid R1_q
  obtain ⟨z1_q, r1_q, t1_q⟩ := row_cells R1_q
  obtain ⟨q1_q_0, q1_q_1, q1_q_2, q1_q_3, q1_q_4, q1_q_5⟩ := rc6 R1_q
  obtain ⟨f1_q_0, f1_q_1, f1_q_2, f1_q_3, f1_q_4, f1_q_5⟩ := rf6 R1_q
  clear r1_q t1_q R1_q
  have E1_n := Lib.hid R1_n
  obtain ⟨z1_n, r1_n, t1_n⟩ := row_cells R1_n
  clear r1_n t1_n R1_n
  have hgc := grow_cell V1
  have hgf := grow_frozen V1
  refine wp_grow_tail 27 (by kernel_rfl) (by kernel_rfl) ?_
  simp only [List.take_succ_cons, List.take_zero, List.drop_succ_cons, List.drop_zero]
  repeat (go_big_quiet_step ((first | (go_at_call 64; with_reducible exact Calls.grow_same (kq_p1.out _)) | (go_at_call 64; with_reducible exact Calls.grow_same (kq_p2.out _)))))
  refine wpQuiet_nil ?_
  rintro _ ⟨g, rfl⟩
  go_wp2
  clear hgc hgf
  generalize hV2 : World.setCell _ ⟨W5.heap.size, 1, none⟩ _ = V2
  have gz2 := g.size
  have R2_c : V2.heap[w.heap.size]? = some (.cells #[.int .i64 c.vlo, .int .i64 c.vhi, .int .i64 c.least, .int .i64 c.most, .int .i64 c.f0, .int .i64 c.f1, .int .i64 c.h0, .int .i64 c.h1, .int .i64 c.rock, .int .i64 c.plo, .int .i64 c.phi] 26 (0, 0)) := by rw [← hV2]; have h2 := (set_far (n := W5.heap.size) 1 (.int .i64 (m - p1)) ne_c_q (set_far (n := W5.heap.size) 0 (.int .i64 (m - p2)) ne_c_q (set_far (n := W5.heap.size) 3 (.int .i64 (p2)) ne_c_q (set_far (n := W5.heap.size) 2 (.int .i64 (p1)) ne_c_q ((g.h.block _ z1_c).trans E1_c.out))))); exact h2
  have R2_s : V2.heap[W1.heap.size]? = some (.cells #[.int .i64 s.glo, .int .i64 s.ghi, .int .i64 s.ylo, .int .i64 s.yhi, .int .i64 s.tlo, .int .i64 s.thi, .int .i64 s.wlo, .int .i64 s.whi] 28 (0, 0)) := by rw [← hV2]; have h2 := (set_far (n := W5.heap.size) 1 (.int .i64 (m - p1)) ne_s_q (set_far (n := W5.heap.size) 0 (.int .i64 (m - p2)) ne_s_q (set_far (n := W5.heap.size) 3 (.int .i64 (p2)) ne_s_q (set_far (n := W5.heap.size) 2 (.int .i64 (p1)) ne_s_q ((g.h.block _ z1_s).trans E1_s.out))))); exact h2
  have R2_o : V2.heap[W2.heap.size]? = some (.cells #[.int .i64 2, .int .i64 o1, .int .i64 o2, .int .i64 o3, .int .i64 o4, .int .i64 m, .int .i64 a, .int .i64 b, .int .i64 x, .int .i64 y] 33 (0, 0)) := by rw [← hV2]; have h2 := (set_far (n := W5.heap.size) 1 (.int .i64 (m - p1)) ne_o_q (set_far (n := W5.heap.size) 0 (.int .i64 (m - p2)) ne_o_q (set_far (n := W5.heap.size) 3 (.int .i64 (p2)) ne_o_q (set_far (n := W5.heap.size) 2 (.int .i64 (p1)) ne_o_q ((g.h.block _ z1_o).trans E1_o.out))))); exact h2
  have R2_rs : V2.heap[W3.heap.size]? = some (.cells #[.int .i64 0, .int .i64 0, .int .i64 0, .int .i64 0, .int .i64 0, .int .i64 0, .int .i64 0, .int .i64 0] 28 (0, 0)) := by rw [← hV2]; have h2 := (set_far (n := W5.heap.size) 1 (.int .i64 (m - p1)) ne_rs_q (set_far (n := W5.heap.size) 0 (.int .i64 (m - p2)) ne_rs_q (set_far (n := W5.heap.size) 3 (.int .i64 (p2)) ne_rs_q (set_far (n := W5.heap.size) 2 (.int .i64 (p1)) ne_rs_q ((g.h.block _ z1_rs).trans E1_rs.out))))); exact h2
  have R2_ro : V2.heap[W4.heap.size]? = some (.cells #[.int .i64 0, .int .i64 0, .int .i64 0, .int .i64 0, .int .i64 0, .int .i64 0] 35 (0, 0)) := by rw [← hV2]; have h2 := (set_far (n := W5.heap.size) 1 (.int .i64 (m - p1)) ne_ro_q (set_far (n := W5.heap.size) 0 (.int .i64 (m - p2)) ne_ro_q (set_far (n := W5.heap.size) 3 (.int .i64 (p2)) ne_ro_q (set_far (n := W5.heap.size) 2 (.int .i64 (p1)) ne_ro_q ((g.h.block _ z1_ro).trans E1_ro.out))))); exact h2
  have R2_q : V2.heap[W5.heap.size]? = some (.cells #[.int .i64 (m - p2), .int .i64 (m - p1), .int .i64 (p1), .int .i64 (p2), .int .i64 0, .int .i64 0] 35 (0, 0)) := by rw [← hV2]; have h2 := (set_one (set_one (set_one (set_one ((g.h.block _ z1_q).trans E1_q.out) 2 (.int .i64 (p1))) 3 (.int .i64 (p2))) 0 (.int .i64 (m - p2))) 1 (.int .i64 (m - p1))); simp only [List.setIfInBounds_toArray, List.set_cons_zero, List.set_cons_succ] at h2; exact h2
  have R2_n : V2.heap[W6.heap.size]? = some (.cells #[.int .i64 s.glo, .int .i64 s.ghi, .int .i64 s.ylo, .int .i64 s.yhi, .int .i64 s.tlo, .int .i64 s.thi, .int .i64 s.wlo, .int .i64 s.whi] 28 (0, 0)) := by rw [← hV2]; have h2 := (set_far (n := W5.heap.size) 1 (.int .i64 (m - p1)) ne_n_q (set_far (n := W5.heap.size) 0 (.int .i64 (m - p2)) ne_n_q (set_far (n := W5.heap.size) 3 (.int .i64 (p2)) ne_n_q (set_far (n := W5.heap.size) 2 (.int .i64 (p1)) ne_n_q ((g.h.block _ z1_n).trans E1_n.out))))); exact h2
  have B2 : Below w.heap.size w V2 := by rw [← hV2]; exact (Below.setCell (p := ⟨W5.heap.size, 1, none⟩) (Below.setCell (p := ⟨W5.heap.size, 0, none⟩) (Below.setCell (p := ⟨W5.heap.size, 3, none⟩) (Below.setCell (p := ⟨W5.heap.size, 2, none⟩) (B1.trans (g.h.mono B1.size)) le_q (.int .i64 (p1))) le_q (.int .i64 (p2))) le_q (.int .i64 (m - p2))) le_q (.int .i64 (m - p1)))
  clear hV2 gz2
  clear q1_s_0 q1_s_1 q1_s_2 q1_s_3 q1_s_4 q1_s_5 q1_s_6 q1_s_7 q1_o_0 q1_o_1 q1_o_2 q1_o_3 q1_o_4 q1_o_5 q1_o_6 q1_o_7 q1_o_8 q1_o_9 q1_q_0 f1_q_0 q1_q_1 f1_q_1 q1_q_2 f1_q_2 q1_q_3 f1_q_3 q1_q_4 f1_q_4 q1_q_5 f1_q_5
  have E2_c := Lib.hid R2_c
  obtain ⟨z2_c, r2_c, t2_c⟩ := row_cells R2_c
  clear r2_c t2_c R2_c
  have E2_s := Lib.hid R2_s
  obtain ⟨z2_s, r2_s, t2_s⟩ := row_cells R2_s
  obtain ⟨q2_s_0, q2_s_1, q2_s_2, q2_s_3, q2_s_4, q2_s_5, q2_s_6, q2_s_7⟩ := rc8 R2_s
  clear r2_s t2_s R2_s
  have E2_o := Lib.hid R2_o
  obtain ⟨z2_o, r2_o, t2_o⟩ := row_cells R2_o
  obtain ⟨q2_o_0, q2_o_1, q2_o_2, q2_o_3, q2_o_4, q2_o_5, q2_o_6, q2_o_7, q2_o_8, q2_o_9⟩ := rc10 R2_o
  clear r2_o t2_o R2_o
  have E2_rs := Lib.hid R2_rs
  obtain ⟨z2_rs, r2_rs, t2_rs⟩ := row_cells R2_rs
  clear r2_rs t2_rs R2_rs
  have E2_ro := Lib.hid R2_ro
  obtain ⟨z2_ro, r2_ro, t2_ro⟩ := row_cells R2_ro
  clear r2_ro t2_ro R2_ro
  have E2_q := Lib.hid R2_q
  obtain ⟨z2_q, r2_q, t2_q⟩ := row_cells R2_q
  obtain ⟨q2_q_0, q2_q_1, q2_q_2, q2_q_3, q2_q_4, q2_q_5⟩ := rc6 R2_q
  obtain ⟨f2_q_0, f2_q_1, f2_q_2, f2_q_3, f2_q_4, f2_q_5⟩ := rf6 R2_q
  clear r2_q t2_q R2_q
  have E2_n := Lib.hid R2_n
  obtain ⟨z2_n, r2_n, t2_n⟩ := row_cells R2_n
  clear r2_n t2_n R2_n
  have hgc := grow_cell V2
  have hgf := grow_frozen V2
  refine wp_grow_tail 15 (by kernel_rfl) (by kernel_rfl) ?_
  simp only [List.take_succ_cons, List.take_zero, List.drop_succ_cons, List.drop_zero]
  repeat (go_big_quiet_step ((first | (go_at_call 64; with_reducible exact Calls.grow_same (kq_p3.out _)) | (go_at_call 64; with_reducible exact Calls.grow_same (kq_p4.out _)))))
  refine wpQuiet_nil ?_
  rintro _ ⟨g, rfl⟩
  go_wp2
  clear hgc hgf
  generalize hV3 : World.setCell _ ⟨W5.heap.size, 5, none⟩ _ = V3
  have gz3 := g.size
  have R3_c : V3.heap[w.heap.size]? = some (.cells #[.int .i64 c.vlo, .int .i64 c.vhi, .int .i64 c.least, .int .i64 c.most, .int .i64 c.f0, .int .i64 c.f1, .int .i64 c.h0, .int .i64 c.h1, .int .i64 c.rock, .int .i64 c.plo, .int .i64 c.phi] 26 (0, 0)) := by rw [← hV3]; have h2 := (set_far (n := W5.heap.size) 5 (.int .i64 (p4)) ne_c_q (set_far (n := W5.heap.size) 4 (.int .i64 (p3)) ne_c_q ((g.h.block _ z2_c).trans E2_c.out))); exact h2
  have R3_s : V3.heap[W1.heap.size]? = some (.cells #[.int .i64 s.glo, .int .i64 s.ghi, .int .i64 s.ylo, .int .i64 s.yhi, .int .i64 s.tlo, .int .i64 s.thi, .int .i64 s.wlo, .int .i64 s.whi] 28 (0, 0)) := by rw [← hV3]; have h2 := (set_far (n := W5.heap.size) 5 (.int .i64 (p4)) ne_s_q (set_far (n := W5.heap.size) 4 (.int .i64 (p3)) ne_s_q ((g.h.block _ z2_s).trans E2_s.out))); exact h2
  have R3_o : V3.heap[W2.heap.size]? = some (.cells #[.int .i64 2, .int .i64 o1, .int .i64 o2, .int .i64 o3, .int .i64 o4, .int .i64 m, .int .i64 a, .int .i64 b, .int .i64 x, .int .i64 y] 33 (0, 0)) := by rw [← hV3]; have h2 := (set_far (n := W5.heap.size) 5 (.int .i64 (p4)) ne_o_q (set_far (n := W5.heap.size) 4 (.int .i64 (p3)) ne_o_q ((g.h.block _ z2_o).trans E2_o.out))); exact h2
  have R3_rs : V3.heap[W3.heap.size]? = some (.cells #[.int .i64 0, .int .i64 0, .int .i64 0, .int .i64 0, .int .i64 0, .int .i64 0, .int .i64 0, .int .i64 0] 28 (0, 0)) := by rw [← hV3]; have h2 := (set_far (n := W5.heap.size) 5 (.int .i64 (p4)) ne_rs_q (set_far (n := W5.heap.size) 4 (.int .i64 (p3)) ne_rs_q ((g.h.block _ z2_rs).trans E2_rs.out))); exact h2
  have R3_ro : V3.heap[W4.heap.size]? = some (.cells #[.int .i64 0, .int .i64 0, .int .i64 0, .int .i64 0, .int .i64 0, .int .i64 0] 35 (0, 0)) := by rw [← hV3]; have h2 := (set_far (n := W5.heap.size) 5 (.int .i64 (p4)) ne_ro_q (set_far (n := W5.heap.size) 4 (.int .i64 (p3)) ne_ro_q ((g.h.block _ z2_ro).trans E2_ro.out))); exact h2
  have R3_q : V3.heap[W5.heap.size]? = some (.cells #[.int .i64 (m - p2), .int .i64 (m - p1), .int .i64 (p1), .int .i64 (p2), .int .i64 (p3), .int .i64 (p4)] 35 (0, 0)) := by rw [← hV3]; have h2 := (set_one (set_one ((g.h.block _ z2_q).trans E2_q.out) 4 (.int .i64 (p3))) 5 (.int .i64 (p4))); simp only [List.setIfInBounds_toArray, List.set_cons_zero, List.set_cons_succ] at h2; exact h2
  have R3_n : V3.heap[W6.heap.size]? = some (.cells #[.int .i64 s.glo, .int .i64 s.ghi, .int .i64 s.ylo, .int .i64 s.yhi, .int .i64 s.tlo, .int .i64 s.thi, .int .i64 s.wlo, .int .i64 s.whi] 28 (0, 0)) := by rw [← hV3]; have h2 := (set_far (n := W5.heap.size) 5 (.int .i64 (p4)) ne_n_q (set_far (n := W5.heap.size) 4 (.int .i64 (p3)) ne_n_q ((g.h.block _ z2_n).trans E2_n.out))); exact h2
  have B3 : Below w.heap.size w V3 := by rw [← hV3]; exact (Below.setCell (p := ⟨W5.heap.size, 5, none⟩) (Below.setCell (p := ⟨W5.heap.size, 4, none⟩) (B2.trans (g.h.mono B2.size)) le_q (.int .i64 (p3))) le_q (.int .i64 (p4)))
  clear hV3 gz3
  clear q2_s_0 q2_s_1 q2_s_2 q2_s_3 q2_s_4 q2_s_5 q2_s_6 q2_s_7 q2_o_0 q2_o_1 q2_o_2 q2_o_3 q2_o_4 q2_o_5 q2_o_6 q2_o_7 q2_o_8 q2_o_9 q2_q_0 f2_q_0 q2_q_1 f2_q_1 q2_q_2 f2_q_2 q2_q_3 f2_q_3 q2_q_4 f2_q_4 q2_q_5 f2_q_5
  have E3_c := Lib.hid R3_c
  obtain ⟨z3_c, r3_c, t3_c⟩ := row_cells R3_c
  clear r3_c t3_c R3_c
  have E3_s := Lib.hid R3_s
  obtain ⟨z3_s, r3_s, t3_s⟩ := row_cells R3_s
  obtain ⟨q3_s_0, q3_s_1, q3_s_2, q3_s_3, q3_s_4, q3_s_5, q3_s_6, q3_s_7⟩ := rc8 R3_s
  clear r3_s t3_s R3_s
  have E3_o := Lib.hid R3_o
  obtain ⟨z3_o, r3_o, t3_o⟩ := row_cells R3_o
  obtain ⟨q3_o_0, q3_o_1, q3_o_2, q3_o_3, q3_o_4, q3_o_5, q3_o_6, q3_o_7, q3_o_8, q3_o_9⟩ := rc10 R3_o
  clear r3_o t3_o R3_o
  have E3_rs := Lib.hid R3_rs
  obtain ⟨z3_rs, r3_rs, t3_rs⟩ := row_cells R3_rs
  clear r3_rs t3_rs R3_rs
  have E3_ro := Lib.hid R3_ro
  obtain ⟨z3_ro, r3_ro, t3_ro⟩ := row_cells R3_ro
  clear r3_ro t3_ro R3_ro
  have E3_q := Lib.hid R3_q
  obtain ⟨z3_q, r3_q, t3_q⟩ := row_cells R3_q
  clear r3_q t3_q R3_q
  have E3_n := Lib.hid R3_n
  obtain ⟨z3_n, r3_n, t3_n⟩ := row_cells R3_n
  obtain ⟨q3_n_0, q3_n_1, q3_n_2, q3_n_3, q3_n_4, q3_n_5, q3_n_6, q3_n_7⟩ := rc8 R3_n
  obtain ⟨f3_n_0, f3_n_1, f3_n_2, f3_n_3, f3_n_4, f3_n_5, f3_n_6, f3_n_7⟩ := rf8 R3_n
  clear r3_n t3_n R3_n
  have hgc := grow_cell V3
  have hgf := grow_frozen V3
  refine wp_region_grow (by kernel_rfl) (by kernel_rfl) ?_
  repeat (go_big_quiet_step ((first | (go_at_call 64; with_reducible exact Calls.grow_same (kq_pa.out _)) | (go_at_call 64; with_reducible exact Calls.grow_same (kq_pb.out _)))))
  refine wpQuiet_nil ?_
  rintro _ ⟨g, rfl⟩
  go_wp2
  clear hgc hgf
  generalize hV4 : World.setCell _ ⟨W6.heap.size, 1, none⟩ _ = V4
  have gz4 := g.size
  have R4_c : V4.heap[w.heap.size]? = some (.cells #[.int .i64 c.vlo, .int .i64 c.vhi, .int .i64 c.least, .int .i64 c.most, .int .i64 c.f0, .int .i64 c.f1, .int .i64 c.h0, .int .i64 c.h1, .int .i64 c.rock, .int .i64 c.plo, .int .i64 c.phi] 26 (0, 0)) := by rw [← hV4]; have h2 := (set_far (n := W6.heap.size) 1 (.int .i64 (s.ghi - (m - pb))) ne_c_n (set_far (n := W6.heap.size) 0 (.int .i64 (s.glo - (m - pa))) ne_c_n (set_far (n := W6.heap.size) 3 (.int .i64 (s.yhi - pb)) ne_c_n (set_far (n := W6.heap.size) 2 (.int .i64 (s.ylo - pa)) ne_c_n ((g.h.block _ z3_c).trans E3_c.out))))); exact h2
  have R4_s : V4.heap[W1.heap.size]? = some (.cells #[.int .i64 s.glo, .int .i64 s.ghi, .int .i64 s.ylo, .int .i64 s.yhi, .int .i64 s.tlo, .int .i64 s.thi, .int .i64 s.wlo, .int .i64 s.whi] 28 (0, 0)) := by rw [← hV4]; have h2 := (set_far (n := W6.heap.size) 1 (.int .i64 (s.ghi - (m - pb))) ne_s_n (set_far (n := W6.heap.size) 0 (.int .i64 (s.glo - (m - pa))) ne_s_n (set_far (n := W6.heap.size) 3 (.int .i64 (s.yhi - pb)) ne_s_n (set_far (n := W6.heap.size) 2 (.int .i64 (s.ylo - pa)) ne_s_n ((g.h.block _ z3_s).trans E3_s.out))))); exact h2
  have R4_o : V4.heap[W2.heap.size]? = some (.cells #[.int .i64 2, .int .i64 o1, .int .i64 o2, .int .i64 o3, .int .i64 o4, .int .i64 m, .int .i64 a, .int .i64 b, .int .i64 x, .int .i64 y] 33 (0, 0)) := by rw [← hV4]; have h2 := (set_far (n := W6.heap.size) 1 (.int .i64 (s.ghi - (m - pb))) ne_o_n (set_far (n := W6.heap.size) 0 (.int .i64 (s.glo - (m - pa))) ne_o_n (set_far (n := W6.heap.size) 3 (.int .i64 (s.yhi - pb)) ne_o_n (set_far (n := W6.heap.size) 2 (.int .i64 (s.ylo - pa)) ne_o_n ((g.h.block _ z3_o).trans E3_o.out))))); exact h2
  have R4_rs : V4.heap[W3.heap.size]? = some (.cells #[.int .i64 0, .int .i64 0, .int .i64 0, .int .i64 0, .int .i64 0, .int .i64 0, .int .i64 0, .int .i64 0] 28 (0, 0)) := by rw [← hV4]; have h2 := (set_far (n := W6.heap.size) 1 (.int .i64 (s.ghi - (m - pb))) ne_rs_n (set_far (n := W6.heap.size) 0 (.int .i64 (s.glo - (m - pa))) ne_rs_n (set_far (n := W6.heap.size) 3 (.int .i64 (s.yhi - pb)) ne_rs_n (set_far (n := W6.heap.size) 2 (.int .i64 (s.ylo - pa)) ne_rs_n ((g.h.block _ z3_rs).trans E3_rs.out))))); exact h2
  have R4_ro : V4.heap[W4.heap.size]? = some (.cells #[.int .i64 0, .int .i64 0, .int .i64 0, .int .i64 0, .int .i64 0, .int .i64 0] 35 (0, 0)) := by rw [← hV4]; have h2 := (set_far (n := W6.heap.size) 1 (.int .i64 (s.ghi - (m - pb))) ne_ro_n (set_far (n := W6.heap.size) 0 (.int .i64 (s.glo - (m - pa))) ne_ro_n (set_far (n := W6.heap.size) 3 (.int .i64 (s.yhi - pb)) ne_ro_n (set_far (n := W6.heap.size) 2 (.int .i64 (s.ylo - pa)) ne_ro_n ((g.h.block _ z3_ro).trans E3_ro.out))))); exact h2
  have R4_q : V4.heap[W5.heap.size]? = some (.cells #[.int .i64 (m - p2), .int .i64 (m - p1), .int .i64 (p1), .int .i64 (p2), .int .i64 (p3), .int .i64 (p4)] 35 (0, 0)) := by rw [← hV4]; have h2 := (set_far (n := W6.heap.size) 1 (.int .i64 (s.ghi - (m - pb))) ne_q_n (set_far (n := W6.heap.size) 0 (.int .i64 (s.glo - (m - pa))) ne_q_n (set_far (n := W6.heap.size) 3 (.int .i64 (s.yhi - pb)) ne_q_n (set_far (n := W6.heap.size) 2 (.int .i64 (s.ylo - pa)) ne_q_n ((g.h.block _ z3_q).trans E3_q.out))))); exact h2
  have R4_n : V4.heap[W6.heap.size]? = some (.cells #[.int .i64 (s.glo - (m - pa)), .int .i64 (s.ghi - (m - pb)), .int .i64 (s.ylo - pa), .int .i64 (s.yhi - pb), .int .i64 s.tlo, .int .i64 s.thi, .int .i64 s.wlo, .int .i64 s.whi] 28 (0, 0)) := by rw [← hV4]; have h2 := (set_one (set_one (set_one (set_one ((g.h.block _ z3_n).trans E3_n.out) 2 (.int .i64 (s.ylo - pa))) 3 (.int .i64 (s.yhi - pb))) 0 (.int .i64 (s.glo - (m - pa)))) 1 (.int .i64 (s.ghi - (m - pb)))); simp only [List.setIfInBounds_toArray, List.set_cons_zero, List.set_cons_succ] at h2; exact h2
  have B4 : Below w.heap.size w V4 := by rw [← hV4]; exact (Below.setCell (p := ⟨W6.heap.size, 1, none⟩) (Below.setCell (p := ⟨W6.heap.size, 0, none⟩) (Below.setCell (p := ⟨W6.heap.size, 3, none⟩) (Below.setCell (p := ⟨W6.heap.size, 2, none⟩) (B3.trans (g.h.mono B3.size)) le_n (.int .i64 (s.ylo - pa))) le_n (.int .i64 (s.yhi - pb))) le_n (.int .i64 (s.glo - (m - pa)))) le_n (.int .i64 (s.ghi - (m - pb))))
  clear hV4 gz4
  clear q3_s_0 q3_s_1 q3_s_2 q3_s_3 q3_s_4 q3_s_5 q3_s_6 q3_s_7 q3_o_0 q3_o_1 q3_o_2 q3_o_3 q3_o_4 q3_o_5 q3_o_6 q3_o_7 q3_o_8 q3_o_9 q3_n_0 f3_n_0 q3_n_1 f3_n_1 q3_n_2 f3_n_2 q3_n_3 f3_n_3 q3_n_4 f3_n_4 q3_n_5 f3_n_5 q3_n_6 f3_n_6 q3_n_7 f3_n_7
  have E4_c := Lib.hid R4_c
  obtain ⟨z4_c, r4_c, t4_c⟩ := row_cells R4_c
  clear r4_c t4_c R4_c
  have E4_s := Lib.hid R4_s
  obtain ⟨z4_s, r4_s, t4_s⟩ := row_cells R4_s
  obtain ⟨q4_s_0, q4_s_1, q4_s_2, q4_s_3, q4_s_4, q4_s_5, q4_s_6, q4_s_7⟩ := rc8 R4_s
  clear r4_s t4_s R4_s
  have E4_o := Lib.hid R4_o
  obtain ⟨z4_o, r4_o, t4_o⟩ := row_cells R4_o
  obtain ⟨q4_o_0, q4_o_1, q4_o_2, q4_o_3, q4_o_4, q4_o_5, q4_o_6, q4_o_7, q4_o_8, q4_o_9⟩ := rc10 R4_o
  clear r4_o t4_o R4_o
  have E4_rs := Lib.hid R4_rs
  obtain ⟨z4_rs, r4_rs, t4_rs⟩ := row_cells R4_rs
  clear r4_rs t4_rs R4_rs
  have E4_ro := Lib.hid R4_ro
  obtain ⟨z4_ro, r4_ro, t4_ro⟩ := row_cells R4_ro
  clear r4_ro t4_ro R4_ro
  have E4_q := Lib.hid R4_q
  obtain ⟨z4_q, r4_q, t4_q⟩ := row_cells R4_q
  clear r4_q t4_q R4_q
  have E4_n := Lib.hid R4_n
  obtain ⟨z4_n, r4_n, t4_n⟩ := row_cells R4_n
  obtain ⟨q4_n_0, q4_n_1, q4_n_2, q4_n_3, q4_n_4, q4_n_5, q4_n_6, q4_n_7⟩ := rc8 R4_n
  obtain ⟨f4_n_0, f4_n_1, f4_n_2, f4_n_3, f4_n_4, f4_n_5, f4_n_6, f4_n_7⟩ := rf8 R4_n
  clear r4_n t4_n R4_n
  have hgc := grow_cell V4
  have hgf := grow_frozen V4
  refine wp_grow_tail 23 (by kernel_rfl) (by kernel_rfl) ?_
  simp only [List.take_succ_cons, List.take_zero, List.drop_succ_cons, List.drop_zero]
  repeat (go_big_quiet_step ((first | (go_at_call 64; with_reducible exact Calls.grow_same (kq_p5.out _)) | (go_at_call 64; with_reducible exact Calls.grow_same (kq_p6.out _)))))
  refine wpQuiet_nil ?_
  rintro _ ⟨g, rfl⟩
  go_wp2
  clear hgc hgf
  generalize hV5 : World.setCell _ ⟨W6.heap.size, 7, none⟩ _ = V5
  have gz5 := g.size
  have R5_c : V5.heap[w.heap.size]? = some (.cells #[.int .i64 c.vlo, .int .i64 c.vhi, .int .i64 c.least, .int .i64 c.most, .int .i64 c.f0, .int .i64 c.f1, .int .i64 c.h0, .int .i64 c.h1, .int .i64 c.rock, .int .i64 c.plo, .int .i64 c.phi] 26 (0, 0)) := by rw [← hV5]; have h2 := (set_far (n := W6.heap.size) 7 (.int .i64 (s.whi - p6)) ne_c_n (set_far (n := W6.heap.size) 6 (.int .i64 (s.wlo - p5)) ne_c_n ((g.h.block _ z4_c).trans E4_c.out))); exact h2
  have R5_s : V5.heap[W1.heap.size]? = some (.cells #[.int .i64 s.glo, .int .i64 s.ghi, .int .i64 s.ylo, .int .i64 s.yhi, .int .i64 s.tlo, .int .i64 s.thi, .int .i64 s.wlo, .int .i64 s.whi] 28 (0, 0)) := by rw [← hV5]; have h2 := (set_far (n := W6.heap.size) 7 (.int .i64 (s.whi - p6)) ne_s_n (set_far (n := W6.heap.size) 6 (.int .i64 (s.wlo - p5)) ne_s_n ((g.h.block _ z4_s).trans E4_s.out))); exact h2
  have R5_o : V5.heap[W2.heap.size]? = some (.cells #[.int .i64 2, .int .i64 o1, .int .i64 o2, .int .i64 o3, .int .i64 o4, .int .i64 m, .int .i64 a, .int .i64 b, .int .i64 x, .int .i64 y] 33 (0, 0)) := by rw [← hV5]; have h2 := (set_far (n := W6.heap.size) 7 (.int .i64 (s.whi - p6)) ne_o_n (set_far (n := W6.heap.size) 6 (.int .i64 (s.wlo - p5)) ne_o_n ((g.h.block _ z4_o).trans E4_o.out))); exact h2
  have R5_rs : V5.heap[W3.heap.size]? = some (.cells #[.int .i64 0, .int .i64 0, .int .i64 0, .int .i64 0, .int .i64 0, .int .i64 0, .int .i64 0, .int .i64 0] 28 (0, 0)) := by rw [← hV5]; have h2 := (set_far (n := W6.heap.size) 7 (.int .i64 (s.whi - p6)) ne_rs_n (set_far (n := W6.heap.size) 6 (.int .i64 (s.wlo - p5)) ne_rs_n ((g.h.block _ z4_rs).trans E4_rs.out))); exact h2
  have R5_ro : V5.heap[W4.heap.size]? = some (.cells #[.int .i64 0, .int .i64 0, .int .i64 0, .int .i64 0, .int .i64 0, .int .i64 0] 35 (0, 0)) := by rw [← hV5]; have h2 := (set_far (n := W6.heap.size) 7 (.int .i64 (s.whi - p6)) ne_ro_n (set_far (n := W6.heap.size) 6 (.int .i64 (s.wlo - p5)) ne_ro_n ((g.h.block _ z4_ro).trans E4_ro.out))); exact h2
  have R5_q : V5.heap[W5.heap.size]? = some (.cells #[.int .i64 (m - p2), .int .i64 (m - p1), .int .i64 (p1), .int .i64 (p2), .int .i64 (p3), .int .i64 (p4)] 35 (0, 0)) := by rw [← hV5]; have h2 := (set_far (n := W6.heap.size) 7 (.int .i64 (s.whi - p6)) ne_q_n (set_far (n := W6.heap.size) 6 (.int .i64 (s.wlo - p5)) ne_q_n ((g.h.block _ z4_q).trans E4_q.out))); exact h2
  have R5_n : V5.heap[W6.heap.size]? = some (.cells #[.int .i64 (s.glo - (m - pa)), .int .i64 (s.ghi - (m - pb)), .int .i64 (s.ylo - pa), .int .i64 (s.yhi - pb), .int .i64 s.tlo, .int .i64 s.thi, .int .i64 (s.wlo - p5), .int .i64 (s.whi - p6)] 28 (0, 0)) := by rw [← hV5]; have h2 := (set_one (set_one ((g.h.block _ z4_n).trans E4_n.out) 6 (.int .i64 (s.wlo - p5))) 7 (.int .i64 (s.whi - p6))); simp only [List.setIfInBounds_toArray, List.set_cons_zero, List.set_cons_succ] at h2; exact h2
  have B5 : Below w.heap.size w V5 := by rw [← hV5]; exact (Below.setCell (p := ⟨W6.heap.size, 7, none⟩) (Below.setCell (p := ⟨W6.heap.size, 6, none⟩) (B4.trans (g.h.mono B4.size)) le_n (.int .i64 (s.wlo - p5))) le_n (.int .i64 (s.whi - p6)))
  clear hV5 gz5
  clear q4_s_0 q4_s_1 q4_s_2 q4_s_3 q4_s_4 q4_s_5 q4_s_6 q4_s_7 q4_o_0 q4_o_1 q4_o_2 q4_o_3 q4_o_4 q4_o_5 q4_o_6 q4_o_7 q4_o_8 q4_o_9 q4_n_0 f4_n_0 q4_n_1 f4_n_1 q4_n_2 f4_n_2 q4_n_3 f4_n_3 q4_n_4 f4_n_4 q4_n_5 f4_n_5 q4_n_6 f4_n_6 q4_n_7 f4_n_7
  have E5_c := Lib.hid R5_c
  obtain ⟨z5_c, r5_c, t5_c⟩ := row_cells R5_c
  clear r5_c t5_c R5_c
  have E5_s := Lib.hid R5_s
  obtain ⟨z5_s, r5_s, t5_s⟩ := row_cells R5_s
  clear r5_s t5_s R5_s
  have E5_o := Lib.hid R5_o
  obtain ⟨z5_o, r5_o, t5_o⟩ := row_cells R5_o
  clear r5_o t5_o R5_o
  have E5_rs := Lib.hid R5_rs
  obtain ⟨z5_rs, r5_rs, t5_rs⟩ := row_cells R5_rs
  obtain ⟨q5_rs_0, q5_rs_1, q5_rs_2, q5_rs_3, q5_rs_4, q5_rs_5, q5_rs_6, q5_rs_7⟩ := rc8 R5_rs
  obtain ⟨f5_rs_0, f5_rs_1, f5_rs_2, f5_rs_3, f5_rs_4, f5_rs_5, f5_rs_6, f5_rs_7⟩ := rf8 R5_rs
  clear r5_rs t5_rs R5_rs
  have E5_ro := Lib.hid R5_ro
  obtain ⟨z5_ro, r5_ro, t5_ro⟩ := row_cells R5_ro
  obtain ⟨q5_ro_0, q5_ro_1, q5_ro_2, q5_ro_3, q5_ro_4, q5_ro_5⟩ := rc6 R5_ro
  obtain ⟨f5_ro_0, f5_ro_1, f5_ro_2, f5_ro_3, f5_ro_4, f5_ro_5⟩ := rf6 R5_ro
  clear r5_ro t5_ro R5_ro
  have E5_q := Lib.hid R5_q
  obtain ⟨z5_q, r5_q, t5_q⟩ := row_cells R5_q
  obtain ⟨q5_q_0, q5_q_1, q5_q_2, q5_q_3, q5_q_4, q5_q_5⟩ := rc6 R5_q
  clear r5_q t5_q R5_q
  have E5_n := Lib.hid R5_n
  obtain ⟨z5_n, r5_n, t5_n⟩ := row_cells R5_n
  obtain ⟨q5_n_0, q5_n_1, q5_n_2, q5_n_3, q5_n_4, q5_n_5, q5_n_6, q5_n_7⟩ := rc8 R5_n
  clear r5_n t5_n R5_n
  clear kq_p1 kq_p2 kq_p3 kq_p4 kq_pa kq_pb kq_p5 kq_p6
  have hd1 : decide (s.ghi - (m - pb) ≤ 1000000) = true := by rw [decide_eq_true_eq]; omega
  have hd2 : decide (s.yhi - pb ≤ 1000000) = true := by rw [decide_eq_true_eq]; omega
  have hd3 : decide (s.whi - p6 ≤ 1000000000) = true := by rw [decide_eq_true_eq]; omega
  have hgf := grow_frozen V5
  go_region
  generalize hV6 : World.setCell _ ⟨W4.heap.size, 5, none⟩ _ = V6
  have R6_rs : V6.heap[W3.heap.size]? = some (.cells #[.int .i64 (s.glo - (m - pa)), .int .i64 (s.ghi - (m - pb)), .int .i64 (s.ylo - pa), .int .i64 (s.yhi - pb), .int .i64 s.tlo, .int .i64 s.thi, .int .i64 (s.wlo - p5), .int .i64 (s.whi - p6)] 28 (0, 0)) := by rw [← hV6]; have h2 := (set_far (n := W4.heap.size) 5 (.int .i64 (p4)) ne_rs_ro (set_far (n := W4.heap.size) 4 (.int .i64 (p3)) ne_rs_ro (set_far (n := W4.heap.size) 3 (.int .i64 (p2)) ne_rs_ro (set_far (n := W4.heap.size) 2 (.int .i64 (p1)) ne_rs_ro (set_far (n := W4.heap.size) 1 (.int .i64 (m - p1)) ne_rs_ro (set_far (n := W4.heap.size) 0 (.int .i64 (m - p2)) ne_rs_ro (set_one (set_one (set_one (set_one (set_one (set_one (set_one (set_one E5_rs.out 0 (.int .i64 (s.glo - (m - pa)))) 1 (.int .i64 (s.ghi - (m - pb)))) 2 (.int .i64 (s.ylo - pa))) 3 (.int .i64 (s.yhi - pb))) 4 (.int .i64 s.tlo)) 5 (.int .i64 s.thi)) 6 (.int .i64 (s.wlo - p5))) 7 (.int .i64 (s.whi - p6))))))))); simp only [List.setIfInBounds_toArray, List.set_cons_zero, List.set_cons_succ] at h2; exact h2
  have R6_ro : V6.heap[W4.heap.size]? = some (.cells #[.int .i64 (m - p2), .int .i64 (m - p1), .int .i64 (p1), .int .i64 (p2), .int .i64 (p3), .int .i64 (p4)] 35 (0, 0)) := by rw [← hV6]; have h2 := (set_one (set_one (set_one (set_one (set_one (set_one (set_far (n := W3.heap.size) 7 (.int .i64 (s.whi - p6)) ne_ro_rs (set_far (n := W3.heap.size) 6 (.int .i64 (s.wlo - p5)) ne_ro_rs (set_far (n := W3.heap.size) 5 (.int .i64 s.thi) ne_ro_rs (set_far (n := W3.heap.size) 4 (.int .i64 s.tlo) ne_ro_rs (set_far (n := W3.heap.size) 3 (.int .i64 (s.yhi - pb)) ne_ro_rs (set_far (n := W3.heap.size) 2 (.int .i64 (s.ylo - pa)) ne_ro_rs (set_far (n := W3.heap.size) 1 (.int .i64 (s.ghi - (m - pb))) ne_ro_rs (set_far (n := W3.heap.size) 0 (.int .i64 (s.glo - (m - pa))) ne_ro_rs E5_ro.out)))))))) 0 (.int .i64 (m - p2))) 1 (.int .i64 (m - p1))) 2 (.int .i64 (p1))) 3 (.int .i64 (p2))) 4 (.int .i64 (p3))) 5 (.int .i64 (p4))); simp only [List.setIfInBounds_toArray, List.set_cons_zero, List.set_cons_succ] at h2; exact h2
  have B6 : Below w.heap.size w V6 := by rw [← hV6]; exact (Below.setCell (p := ⟨W4.heap.size, 5, none⟩) (Below.setCell (p := ⟨W4.heap.size, 4, none⟩) (Below.setCell (p := ⟨W4.heap.size, 3, none⟩) (Below.setCell (p := ⟨W4.heap.size, 2, none⟩) (Below.setCell (p := ⟨W4.heap.size, 1, none⟩) (Below.setCell (p := ⟨W4.heap.size, 0, none⟩) (Below.setCell (p := ⟨W3.heap.size, 7, none⟩) (Below.setCell (p := ⟨W3.heap.size, 6, none⟩) (Below.setCell (p := ⟨W3.heap.size, 5, none⟩) (Below.setCell (p := ⟨W3.heap.size, 4, none⟩) (Below.setCell (p := ⟨W3.heap.size, 3, none⟩) (Below.setCell (p := ⟨W3.heap.size, 2, none⟩) (Below.setCell (p := ⟨W3.heap.size, 1, none⟩) (Below.setCell (p := ⟨W3.heap.size, 0, none⟩) B5 le_rs (.int .i64 (s.glo - (m - pa)))) le_rs (.int .i64 (s.ghi - (m - pb)))) le_rs (.int .i64 (s.ylo - pa))) le_rs (.int .i64 (s.yhi - pb))) le_rs (.int .i64 s.tlo)) le_rs (.int .i64 s.thi)) le_rs (.int .i64 (s.wlo - p5))) le_rs (.int .i64 (s.whi - p6))) le_ro (.int .i64 (m - p2))) le_ro (.int .i64 (m - p1))) le_ro (.int .i64 (p1))) le_ro (.int .i64 (p2))) le_ro (.int .i64 (p3))) le_ro (.int .i64 (p4)))
  clear hV6
  clear q5_rs_0 f5_rs_0 q5_rs_1 f5_rs_1 q5_rs_2 f5_rs_2 q5_rs_3 f5_rs_3 q5_rs_4 f5_rs_4 q5_rs_5 f5_rs_5 q5_rs_6 f5_rs_6 q5_rs_7 f5_rs_7 q5_ro_0 f5_ro_0 q5_ro_1 f5_ro_1 q5_ro_2 f5_ro_2 q5_ro_3 f5_ro_3 q5_ro_4 f5_ro_4 q5_ro_5 f5_ro_5 q5_q_0 q5_q_1 q5_q_2 q5_q_3 q5_q_4 q5_q_5 q5_n_0 q5_n_1 q5_n_2 q5_n_3 q5_n_4 q5_n_5 q5_n_6 q5_n_7
  have E6_rs := Lib.hid R6_rs
  obtain ⟨z6_rs, r6_rs, t6_rs⟩ := row_cells R6_rs
  obtain ⟨q6_rs_0, q6_rs_1, q6_rs_2, q6_rs_3, q6_rs_4, q6_rs_5, q6_rs_6, q6_rs_7⟩ := rc8 R6_rs
  clear r6_rs t6_rs R6_rs
  have E6_ro := Lib.hid R6_ro
  obtain ⟨z6_ro, r6_ro, t6_ro⟩ := row_cells R6_ro
  obtain ⟨q6_ro_0, q6_ro_1, q6_ro_2, q6_ro_3, q6_ro_4, q6_ro_5⟩ := rc6 R6_ro
  clear r6_ro t6_ro R6_ro
  go_wp2
  refine bodyPost_ret (v := .tuple #[.agg #[.int .i64 (s.glo - (m - pa)), .int .i64 (s.ghi - (m - pb)), .int .i64 (s.ylo - pa), .int .i64 (s.yhi - pb), .int .i64 s.tlo, .int .i64 s.thi, .int .i64 (s.wlo - p5), .int .i64 (s.whi - p6)], .agg #[.int .i64 (m - p2), .int .i64 (m - p1), .int .i64 (p1), .int .i64 (p2), .int .i64 (p3), .int .i64 (p4)], .bool true]) (by simp [results, Try.results21, go_sem, *]) rfl ⟨rfl, B6.drew⟩
end Go.Proofs.Ytgmbolagciaenaa
