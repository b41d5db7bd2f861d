/- Gas: the walk of the law GasDoes. -/
import Derived.Test.YtgmbolagciaenaaKno
import Derived.Test.YtgmbolagciaenaaRda
import Derived.Test.YtgmbolagciaenaaDo1
set_option linter.unusedVariables false
set_option linter.unusedSimpArgs false
namespace Go.Proofs.Ytgmbolagciaenaa
open Go.RowKit Go.Sd Gas
set_option maxRecDepth 100000 in
set_option maxHeartbeats 8000000 in
theorem lawDoes1 (c : Cav) (s : St) (o : Gas.Op) (w : World) (hc : c.ok = false) :
    Calls Try.prog 3 #[cavV c, stV s, opV o] w fun e w' => e = .returned (.bool true) ∧ Below w.heap.size w w' := by
  obtain ⟨W1, hW1⟩ : ∃ W1, w.alloc (.cells #[.int .i64 c.vlo, .int .i64 c.vhi, .int .i64 c.least, .int .i64 c.most, .int .i64 c.f0, .int .i64 c.f1, .int .i64 c.h0, .int .i64 c.h1, .int .i64 c.rock, .int .i64 c.plo, .int .i64 c.phi] 26) = W1 := ⟨_, rfl⟩
  obtain ⟨e_c, b_c, s_c⟩ := boxed hW1
  obtain ⟨W2, hW2⟩ : ∃ W2, W1.alloc (.cells #[.int .i64 s.glo, .int .i64 s.ghi, .int .i64 s.ylo, .int .i64 s.yhi, .int .i64 s.tlo, .int .i64 s.thi, .int .i64 s.wlo, .int .i64 s.whi] 28) = W2 := ⟨_, rfl⟩
  obtain ⟨e_s, b_s, s_s⟩ := boxed hW2
  replace e_c := (b_s.block _ (Array.getElem?_eq_some_iff.1 e_c).1).trans e_c
  obtain ⟨W, hW⟩ : ∃ W, W2.alloc (.cells #[.int .i64 o.kind, .int .i64 o.lg, .int .i64 o.ly, .int .i64 o.lt, .int .i64 o.lw, .int .i64 o.moles, .int .i64 o.slo, .int .i64 o.shi, .int .i64 o.wlo, .int .i64 o.whi] 33) = W := ⟨_, rfl⟩
  obtain ⟨e_o, b_o, s_o⟩ := boxed hW
  replace e_c := (b_o.block _ (Array.getElem?_eq_some_iff.1 e_c).1).trans e_c
  replace e_s := (b_o.block _ (Array.getElem?_eq_some_iff.1 e_s).1).trans e_s
  have B0 : Below w.heap.size w W := ((b_c.trans (b_s.mono (by omega))).trans (b_o.mono (by omega)))
  have z0_c := (Array.getElem?_eq_some_iff.1 e_c).1
  have z0_s := (Array.getElem?_eq_some_iff.1 e_s).1
  have z0_o := (Array.getElem?_eq_some_iff.1 e_o).1
  have le_c : w.heap.size ≤ w.heap.size := by omega
  have le_s : w.heap.size ≤ W1.heap.size := by omega
  have le_o : w.heap.size ≤ W2.heap.size := by omega
  clear s_c b_c s_s b_s s_o b_o
  obtain ⟨q0_c_0, q0_c_1, q0_c_2, q0_c_3, q0_c_4, q0_c_5, q0_c_6, q0_c_7, q0_c_8, q0_c_9, q0_c_10⟩ := rc11 e_c
  replace e_c := Lib.hid e_c
  obtain ⟨q0_s_0, q0_s_1, q0_s_2, q0_s_3, q0_s_4, q0_s_5, q0_s_6, q0_s_7⟩ := rc8 e_s
  replace e_s := Lib.hid e_s
  obtain ⟨q0_o_0, q0_o_1, q0_o_2, q0_o_3, q0_o_4, q0_o_5, q0_o_6, q0_o_7, q0_o_8, q0_o_9⟩ := rc10 e_o
  replace e_o := Lib.hid e_o
  have hgw0 := grow_cell W
  have hK := Lib.hid (fun w => progKnown w)
  have hbad : (c.ok && s.ok && o.ok) = false := by simp [hc]
  have kD := Lib.hid (fun w => progDoBad (c := c) (s := s) (o := o) w hbad)
  clear hbad
  have kRC := Lib.hid (fun w => (refCavern c w).mono fun e w' hb => BoolB.lit hb hc)
  replace hc := Lib.hid hc
  go_enter Try.func3, Try.ntmps3
  go_wp2_with (first | (go_at_call 16; (with_reducible refine Calls.mono (kD.out _) ?_); rintro e w1 ⟨rfl, hB⟩; (first | (obtain ⟨g, rfl⟩ := g.next hB) | (obtain ⟨g, rfl⟩ : ∃ g : Grow W, w1 = g.x := ⟨⟨w1, hB⟩, rfl⟩)); clear hB; have hld : ∀ (b o : Nat), b < W.heap.size → ((g.x.alloc (.cells #[.int .i64 0, .int .i64 0, .int .i64 0, .int .i64 0, .int .i64 0, .int .i64 0, .int .i64 0, .int .i64 0] 28)).alloc (.cells #[.int .i64 0, .int .i64 0, .int .i64 0, .int .i64 0, .int .i64 0, .int .i64 0] 35)).cell? ⟨b, o, none⟩ = W.cell? ⟨b, o, none⟩ := below_cell ((g.h.alloc g.size (.cells #[.int .i64 0, .int .i64 0, .int .i64 0, .int .i64 0, .int .i64 0, .int .i64 0, .int .i64 0, .int .i64 0] 28)).alloc (g.h.alloc g.size (.cells #[.int .i64 0, .int .i64 0, .int .i64 0, .int .i64 0, .int .i64 0, .int .i64 0, .int .i64 0, .int .i64 0] 28)).size (.cells #[.int .i64 0, .int .i64 0, .int .i64 0, .int .i64 0, .int .i64 0, .int .i64 0] 35))))
  clear hld
  clear q0_c_0 q0_c_1 q0_c_2 q0_c_3 q0_c_4 q0_c_5 q0_c_6 q0_c_7 q0_c_8 q0_c_9 q0_c_10 q0_s_0 q0_s_1 q0_s_2 q0_s_3 q0_s_4 q0_s_5 q0_s_6 q0_s_7 q0_o_0 q0_o_1 q0_o_2 q0_o_3 q0_o_4 q0_o_5 q0_o_6 q0_o_7 q0_o_8 q0_o_9
  clear hgw0
  have szo1 := B0.size
  have gz1 := g.size
  have A_c : g.x.heap[w.heap.size]? = some (.cells #[.int .i64 c.vlo, .int .i64 c.vhi, .int .i64 c.least, .int .i64 c.most, .int .i64 c.f0, .int .i64 c.f1, .int .i64 c.h0, .int .i64 c.h1, .int .i64 c.rock, .int .i64 c.plo, .int .i64 c.phi] 26 (0, 0)) := (g.h.block _ z0_c).trans e_c.out
  have A_s : g.x.heap[W1.heap.size]? = some (.cells #[.int .i64 s.glo, .int .i64 s.ghi, .int .i64 s.ylo, .int .i64 s.yhi, .int .i64 s.tlo, .int .i64 s.thi, .int .i64 s.wlo, .int .i64 s.whi] 28 (0, 0)) := (g.h.block _ z0_s).trans e_s.out
  have A_o : g.x.heap[W2.heap.size]? = some (.cells #[.int .i64 o.kind, .int .i64 o.lg, .int .i64 o.ly, .int .i64 o.lt, .int .i64 o.lw, .int .i64 o.moles, .int .i64 o.slo, .int .i64 o.shi, .int .i64 o.wlo, .int .i64 o.whi] 33 (0, 0)) := (g.h.block _ z0_o).trans e_o.out
  obtain ⟨U1_x, hU1_x⟩ : ∃ U, g.x.alloc (.cells #[.int .i64 0, .int .i64 0, .int .i64 0, .int .i64 0, .int .i64 0, .int .i64 0, .int .i64 0, .int .i64 0] 28) = U := ⟨_, rfl⟩
  obtain ⟨A_x, b_x, s_x⟩ := boxed hU1_x
  rw [hU1_x]
  replace A_c := (b_x.block _ (Array.getElem?_eq_some_iff.1 A_c).1).trans A_c
  replace A_s := (b_x.block _ (Array.getElem?_eq_some_iff.1 A_s).1).trans A_s
  replace A_o := (b_x.block _ (Array.getElem?_eq_some_iff.1 A_o).1).trans A_o
  obtain ⟨blk_x, hb_x⟩ : ∃ b, g.x.heap.size = b := ⟨_, rfl⟩
  rw [hb_x] at A_x
  try rw [hb_x]
  obtain ⟨U1_u, hU1_u⟩ : ∃ U, U1_x.alloc (.cells #[.int .i64 0, .int .i64 0, .int .i64 0, .int .i64 0, .int .i64 0, .int .i64 0] 35) = U := ⟨_, rfl⟩
  obtain ⟨A_u, b_u, s_u⟩ := boxed hU1_u
  rw [hU1_u]
  replace A_c := (b_u.block _ (Array.getElem?_eq_some_iff.1 A_c).1).trans A_c
  replace A_s := (b_u.block _ (Array.getElem?_eq_some_iff.1 A_s).1).trans A_s
  replace A_o := (b_u.block _ (Array.getElem?_eq_some_iff.1 A_o).1).trans A_o
  replace A_x := (b_u.block _ (Array.getElem?_eq_some_iff.1 A_x).1).trans A_x
  obtain ⟨blk_u, hb_u⟩ : ∃ b, U1_x.heap.size = b := ⟨_, rfl⟩
  rw [hb_u] at A_u
  have hp_u : blk_x + 1 = blk_u := by omega
  try rw [hp_u]
  have B1 : Below w.heap.size w U1_u := (((B0.trans (g.h.mono B0.size)).trans (b_x.mono (B0.trans (g.h.mono B0.size)).size)).trans (b_u.mono ((B0.trans (g.h.mono B0.size)).trans (b_x.mono (B0.trans (g.h.mono B0.size)).size)).size))
  have le_x : w.heap.size ≤ blk_x := by omega
  have le_u : w.heap.size ≤ blk_u := by omega
  have z1_c := (Array.getElem?_eq_some_iff.1 A_c).1
  have z1_s := (Array.getElem?_eq_some_iff.1 A_s).1
  have z1_o := (Array.getElem?_eq_some_iff.1 A_o).1
  have z1_x := (Array.getElem?_eq_some_iff.1 A_x).1
  have z1_u := (Array.getElem?_eq_some_iff.1 A_u).1
  clear hb_x b_x s_x hU1_x hb_u b_u s_u hU1_u hp_u
  obtain ⟨q1_c_0, q1_c_1, q1_c_2, q1_c_3, q1_c_4, q1_c_5, q1_c_6, q1_c_7, q1_c_8, q1_c_9, q1_c_10⟩ := rc11 A_c
  have R1_c := Lib.hid A_c
  clear A_c
  obtain ⟨q1_s_0, q1_s_1, q1_s_2, q1_s_3, q1_s_4, q1_s_5, q1_s_6, q1_s_7⟩ := rc8 A_s
  have R1_s := Lib.hid A_s
  clear A_s
  obtain ⟨q1_o_0, q1_o_1, q1_o_2, q1_o_3, q1_o_4, q1_o_5, q1_o_6, q1_o_7, q1_o_8, q1_o_9⟩ := rc10 A_o
  have R1_o := Lib.hid A_o
  clear A_o
  obtain ⟨q1_x_0, q1_x_1, q1_x_2, q1_x_3, q1_x_4, q1_x_5, q1_x_6, q1_x_7⟩ := rc8 A_x
  have R1_x := Lib.hid A_x
  clear A_x
  obtain ⟨q1_u_0, q1_u_1, q1_u_2, q1_u_3, q1_u_4, q1_u_5⟩ := rc6 A_u
  have R1_u := Lib.hid A_u
  clear A_u
  have hgw1 := grow_cell U1_u
  go_wp2_with (first | (go_at_call 17; (with_reducible refine Calls.mono (kRC.out _) ?_); rintro e w1 ⟨rfl, hB⟩; (first | (obtain ⟨g, rfl⟩ := g.next hB) | (obtain ⟨g, rfl⟩ : ∃ g : Grow U1_u, w1 = g.x := ⟨⟨w1, hB⟩, rfl⟩)); clear hB) | (go_at_call 20; (with_reducible refine Calls.mono (hK.out _) ?_); rintro e w1 ⟨rfl, hB⟩; (first | (obtain ⟨g, rfl⟩ := g.next hB) | (obtain ⟨g, rfl⟩ : ∃ g : Grow U1_u, w1 = g.x := ⟨⟨w1, hB⟩, rfl⟩)); clear hB))
  go_ret
  exact ⟨rfl, B1.trans (g.h.mono B1.size)⟩

set_option maxRecDepth 100000 in
set_option maxHeartbeats 8000000 in
theorem lawDoes2 (c : Cav) (s : St) (o : Gas.Op) (w : World) (hc : c.ok = true) (hs : s.ok = false) :
    Calls Try.prog 3 #[cavV c, stV s, opV o] w fun e w' => e = .returned (.bool true) ∧ Below w.heap.size w w' := by
  obtain ⟨W1, hW1⟩ : ∃ W1, w.alloc (.cells #[.int .i64 c.vlo, .int .i64 c.vhi, .int .i64 c.least, .int .i64 c.most, .int .i64 c.f0, .int .i64 c.f1, .int .i64 c.h0, .int .i64 c.h1, .int .i64 c.rock, .int .i64 c.plo, .int .i64 c.phi] 26) = W1 := ⟨_, rfl⟩
  obtain ⟨e_c, b_c, s_c⟩ := boxed hW1
  obtain ⟨W2, hW2⟩ : ∃ W2, W1.alloc (.cells #[.int .i64 s.glo, .int .i64 s.ghi, .int .i64 s.ylo, .int .i64 s.yhi, .int .i64 s.tlo, .int .i64 s.thi, .int .i64 s.wlo, .int .i64 s.whi] 28) = W2 := ⟨_, rfl⟩
  obtain ⟨e_s, b_s, s_s⟩ := boxed hW2
  replace e_c := (b_s.block _ (Array.getElem?_eq_some_iff.1 e_c).1).trans e_c
  obtain ⟨W, hW⟩ : ∃ W, W2.alloc (.cells #[.int .i64 o.kind, .int .i64 o.lg, .int .i64 o.ly, .int .i64 o.lt, .int .i64 o.lw, .int .i64 o.moles, .int .i64 o.slo, .int .i64 o.shi, .int .i64 o.wlo, .int .i64 o.whi] 33) = W := ⟨_, rfl⟩
  obtain ⟨e_o, b_o, s_o⟩ := boxed hW
  replace e_c := (b_o.block _ (Array.getElem?_eq_some_iff.1 e_c).1).trans e_c
  replace e_s := (b_o.block _ (Array.getElem?_eq_some_iff.1 e_s).1).trans e_s
  have B0 : Below w.heap.size w W := ((b_c.trans (b_s.mono (by omega))).trans (b_o.mono (by omega)))
  have z0_c := (Array.getElem?_eq_some_iff.1 e_c).1
  have z0_s := (Array.getElem?_eq_some_iff.1 e_s).1
  have z0_o := (Array.getElem?_eq_some_iff.1 e_o).1
  have le_c : w.heap.size ≤ w.heap.size := by omega
  have le_s : w.heap.size ≤ W1.heap.size := by omega
  have le_o : w.heap.size ≤ W2.heap.size := by omega
  clear s_c b_c s_s b_s s_o b_o
  obtain ⟨q0_c_0, q0_c_1, q0_c_2, q0_c_3, q0_c_4, q0_c_5, q0_c_6, q0_c_7, q0_c_8, q0_c_9, q0_c_10⟩ := rc11 e_c
  replace e_c := Lib.hid e_c
  obtain ⟨q0_s_0, q0_s_1, q0_s_2, q0_s_3, q0_s_4, q0_s_5, q0_s_6, q0_s_7⟩ := rc8 e_s
  replace e_s := Lib.hid e_s
  obtain ⟨q0_o_0, q0_o_1, q0_o_2, q0_o_3, q0_o_4, q0_o_5, q0_o_6, q0_o_7, q0_o_8, q0_o_9⟩ := rc10 e_o
  replace e_o := Lib.hid e_o
  have hgw0 := grow_cell W
  have hK := Lib.hid (fun w => progKnown w)
  have hbad : (c.ok && s.ok && o.ok) = false := by simp [hc, hs]
  have kD := Lib.hid (fun w => progDoBad (c := c) (s := s) (o := o) w hbad)
  clear hbad
  have kRC := Lib.hid (fun w => (refCavern c w).mono fun e w' hb => BoolB.lit hb hc)
  have kRS := Lib.hid (fun w => (refState s w).mono fun e w' hb => BoolB.lit hb hs)
  replace hc := Lib.hid hc; replace hs := Lib.hid hs
  go_enter Try.func3, Try.ntmps3
  go_wp2_with (first | (go_at_call 16; (with_reducible refine Calls.mono (kD.out _) ?_); rintro e w1 ⟨rfl, hB⟩; (first | (obtain ⟨g, rfl⟩ := g.next hB) | (obtain ⟨g, rfl⟩ : ∃ g : Grow W, w1 = g.x := ⟨⟨w1, hB⟩, rfl⟩)); clear hB; have hld : ∀ (b o : Nat), b < W.heap.size → ((g.x.alloc (.cells #[.int .i64 0, .int .i64 0, .int .i64 0, .int .i64 0, .int .i64 0, .int .i64 0, .int .i64 0, .int .i64 0] 28)).alloc (.cells #[.int .i64 0, .int .i64 0, .int .i64 0, .int .i64 0, .int .i64 0, .int .i64 0] 35)).cell? ⟨b, o, none⟩ = W.cell? ⟨b, o, none⟩ := below_cell ((g.h.alloc g.size (.cells #[.int .i64 0, .int .i64 0, .int .i64 0, .int .i64 0, .int .i64 0, .int .i64 0, .int .i64 0, .int .i64 0] 28)).alloc (g.h.alloc g.size (.cells #[.int .i64 0, .int .i64 0, .int .i64 0, .int .i64 0, .int .i64 0, .int .i64 0, .int .i64 0, .int .i64 0] 28)).size (.cells #[.int .i64 0, .int .i64 0, .int .i64 0, .int .i64 0, .int .i64 0, .int .i64 0] 35))))
  clear hld
  clear q0_c_0 q0_c_1 q0_c_2 q0_c_3 q0_c_4 q0_c_5 q0_c_6 q0_c_7 q0_c_8 q0_c_9 q0_c_10 q0_s_0 q0_s_1 q0_s_2 q0_s_3 q0_s_4 q0_s_5 q0_s_6 q0_s_7 q0_o_0 q0_o_1 q0_o_2 q0_o_3 q0_o_4 q0_o_5 q0_o_6 q0_o_7 q0_o_8 q0_o_9
  clear hgw0
  have szo1 := B0.size
  have gz1 := g.size
  have A_c : g.x.heap[w.heap.size]? = some (.cells #[.int .i64 c.vlo, .int .i64 c.vhi, .int .i64 c.least, .int .i64 c.most, .int .i64 c.f0, .int .i64 c.f1, .int .i64 c.h0, .int .i64 c.h1, .int .i64 c.rock, .int .i64 c.plo, .int .i64 c.phi] 26 (0, 0)) := (g.h.block _ z0_c).trans e_c.out
  have A_s : g.x.heap[W1.heap.size]? = some (.cells #[.int .i64 s.glo, .int .i64 s.ghi, .int .i64 s.ylo, .int .i64 s.yhi, .int .i64 s.tlo, .int .i64 s.thi, .int .i64 s.wlo, .int .i64 s.whi] 28 (0, 0)) := (g.h.block _ z0_s).trans e_s.out
  have A_o : g.x.heap[W2.heap.size]? = some (.cells #[.int .i64 o.kind, .int .i64 o.lg, .int .i64 o.ly, .int .i64 o.lt, .int .i64 o.lw, .int .i64 o.moles, .int .i64 o.slo, .int .i64 o.shi, .int .i64 o.wlo, .int .i64 o.whi] 33 (0, 0)) := (g.h.block _ z0_o).trans e_o.out
  obtain ⟨U1_x, hU1_x⟩ : ∃ U, g.x.alloc (.cells #[.int .i64 0, .int .i64 0, .int .i64 0, .int .i64 0, .int .i64 0, .int .i64 0, .int .i64 0, .int .i64 0] 28) = U := ⟨_, rfl⟩
  obtain ⟨A_x, b_x, s_x⟩ := boxed hU1_x
  rw [hU1_x]
  replace A_c := (b_x.block _ (Array.getElem?_eq_some_iff.1 A_c).1).trans A_c
  replace A_s := (b_x.block _ (Array.getElem?_eq_some_iff.1 A_s).1).trans A_s
  replace A_o := (b_x.block _ (Array.getElem?_eq_some_iff.1 A_o).1).trans A_o
  obtain ⟨blk_x, hb_x⟩ : ∃ b, g.x.heap.size = b := ⟨_, rfl⟩
  rw [hb_x] at A_x
  try rw [hb_x]
  obtain ⟨U1_u, hU1_u⟩ : ∃ U, U1_x.alloc (.cells #[.int .i64 0, .int .i64 0, .int .i64 0, .int .i64 0, .int .i64 0, .int .i64 0] 35) = U := ⟨_, rfl⟩
  obtain ⟨A_u, b_u, s_u⟩ := boxed hU1_u
  rw [hU1_u]
  replace A_c := (b_u.block _ (Array.getElem?_eq_some_iff.1 A_c).1).trans A_c
  replace A_s := (b_u.block _ (Array.getElem?_eq_some_iff.1 A_s).1).trans A_s
  replace A_o := (b_u.block _ (Array.getElem?_eq_some_iff.1 A_o).1).trans A_o
  replace A_x := (b_u.block _ (Array.getElem?_eq_some_iff.1 A_x).1).trans A_x
  obtain ⟨blk_u, hb_u⟩ : ∃ b, U1_x.heap.size = b := ⟨_, rfl⟩
  rw [hb_u] at A_u
  have hp_u : blk_x + 1 = blk_u := by omega
  try rw [hp_u]
  have B1 : Below w.heap.size w U1_u := (((B0.trans (g.h.mono B0.size)).trans (b_x.mono (B0.trans (g.h.mono B0.size)).size)).trans (b_u.mono ((B0.trans (g.h.mono B0.size)).trans (b_x.mono (B0.trans (g.h.mono B0.size)).size)).size))
  have le_x : w.heap.size ≤ blk_x := by omega
  have le_u : w.heap.size ≤ blk_u := by omega
  have z1_c := (Array.getElem?_eq_some_iff.1 A_c).1
  have z1_s := (Array.getElem?_eq_some_iff.1 A_s).1
  have z1_o := (Array.getElem?_eq_some_iff.1 A_o).1
  have z1_x := (Array.getElem?_eq_some_iff.1 A_x).1
  have z1_u := (Array.getElem?_eq_some_iff.1 A_u).1
  clear hb_x b_x s_x hU1_x hb_u b_u s_u hU1_u hp_u
  obtain ⟨q1_c_0, q1_c_1, q1_c_2, q1_c_3, q1_c_4, q1_c_5, q1_c_6, q1_c_7, q1_c_8, q1_c_9, q1_c_10⟩ := rc11 A_c
  have R1_c := Lib.hid A_c
  clear A_c
  obtain ⟨q1_s_0, q1_s_1, q1_s_2, q1_s_3, q1_s_4, q1_s_5, q1_s_6, q1_s_7⟩ := rc8 A_s
  have R1_s := Lib.hid A_s
  clear A_s
  obtain ⟨q1_o_0, q1_o_1, q1_o_2, q1_o_3, q1_o_4, q1_o_5, q1_o_6, q1_o_7, q1_o_8, q1_o_9⟩ := rc10 A_o
  have R1_o := Lib.hid A_o
  clear A_o
  obtain ⟨q1_x_0, q1_x_1, q1_x_2, q1_x_3, q1_x_4, q1_x_5, q1_x_6, q1_x_7⟩ := rc8 A_x
  have R1_x := Lib.hid A_x
  clear A_x
  obtain ⟨q1_u_0, q1_u_1, q1_u_2, q1_u_3, q1_u_4, q1_u_5⟩ := rc6 A_u
  have R1_u := Lib.hid A_u
  clear A_u
  have hgw1 := grow_cell U1_u
  go_wp2_with (first | (go_at_call 17; (with_reducible refine Calls.mono (kRC.out _) ?_); rintro e w1 ⟨rfl, hB⟩; (first | (obtain ⟨g, rfl⟩ := g.next hB) | (obtain ⟨g, rfl⟩ : ∃ g : Grow U1_u, w1 = g.x := ⟨⟨w1, hB⟩, rfl⟩)); clear hB) | (go_at_call 18; (with_reducible refine Calls.mono (kRS.out _) ?_); rintro e w1 ⟨rfl, hB⟩; (first | (obtain ⟨g, rfl⟩ := g.next hB) | (obtain ⟨g, rfl⟩ : ∃ g : Grow U1_u, w1 = g.x := ⟨⟨w1, hB⟩, rfl⟩)); clear hB) | (go_at_call 20; (with_reducible refine Calls.mono (hK.out _) ?_); rintro e w1 ⟨rfl, hB⟩; (first | (obtain ⟨g, rfl⟩ := g.next hB) | (obtain ⟨g, rfl⟩ : ∃ g : Grow U1_u, w1 = g.x := ⟨⟨w1, hB⟩, rfl⟩)); clear hB))
  go_ret
  exact ⟨rfl, B1.trans (g.h.mono B1.size)⟩

set_option maxRecDepth 100000 in
set_option maxHeartbeats 8000000 in
theorem lawDoes3 (c : Cav) (s : St) (o : Gas.Op) (w : World) (hc : c.ok = true) (hs : s.ok = true) (ho : o.ok = false) :
    Calls Try.prog 3 #[cavV c, stV s, opV o] w fun e w' => e = .returned (.bool true) ∧ Below w.heap.size w w' := by
  obtain ⟨W1, hW1⟩ : ∃ W1, w.alloc (.cells #[.int .i64 c.vlo, .int .i64 c.vhi, .int .i64 c.least, .int .i64 c.most, .int .i64 c.f0, .int .i64 c.f1, .int .i64 c.h0, .int .i64 c.h1, .int .i64 c.rock, .int .i64 c.plo, .int .i64 c.phi] 26) = W1 := ⟨_, rfl⟩
  obtain ⟨e_c, b_c, s_c⟩ := boxed hW1
  obtain ⟨W2, hW2⟩ : ∃ W2, W1.alloc (.cells #[.int .i64 s.glo, .int .i64 s.ghi, .int .i64 s.ylo, .int .i64 s.yhi, .int .i64 s.tlo, .int .i64 s.thi, .int .i64 s.wlo, .int .i64 s.whi] 28) = W2 := ⟨_, rfl⟩
  obtain ⟨e_s, b_s, s_s⟩ := boxed hW2
  replace e_c := (b_s.block _ (Array.getElem?_eq_some_iff.1 e_c).1).trans e_c
  obtain ⟨W, hW⟩ : ∃ W, W2.alloc (.cells #[.int .i64 o.kind, .int .i64 o.lg, .int .i64 o.ly, .int .i64 o.lt, .int .i64 o.lw, .int .i64 o.moles, .int .i64 o.slo, .int .i64 o.shi, .int .i64 o.wlo, .int .i64 o.whi] 33) = W := ⟨_, rfl⟩
  obtain ⟨e_o, b_o, s_o⟩ := boxed hW
  replace e_c := (b_o.block _ (Array.getElem?_eq_some_iff.1 e_c).1).trans e_c
  replace e_s := (b_o.block _ (Array.getElem?_eq_some_iff.1 e_s).1).trans e_s
  have B0 : Below w.heap.size w W := ((b_c.trans (b_s.mono (by omega))).trans (b_o.mono (by omega)))
  have z0_c := (Array.getElem?_eq_some_iff.1 e_c).1
  have z0_s := (Array.getElem?_eq_some_iff.1 e_s).1
  have z0_o := (Array.getElem?_eq_some_iff.1 e_o).1
  have le_c : w.heap.size ≤ w.heap.size := by omega
  have le_s : w.heap.size ≤ W1.heap.size := by omega
  have le_o : w.heap.size ≤ W2.heap.size := by omega
  clear s_c b_c s_s b_s s_o b_o
  obtain ⟨q0_c_0, q0_c_1, q0_c_2, q0_c_3, q0_c_4, q0_c_5, q0_c_6, q0_c_7, q0_c_8, q0_c_9, q0_c_10⟩ := rc11 e_c
  replace e_c := Lib.hid e_c
  obtain ⟨q0_s_0, q0_s_1, q0_s_2, q0_s_3, q0_s_4, q0_s_5, q0_s_6, q0_s_7⟩ := rc8 e_s
  replace e_s := Lib.hid e_s
  obtain ⟨q0_o_0, q0_o_1, q0_o_2, q0_o_3, q0_o_4, q0_o_5, q0_o_6, q0_o_7, q0_o_8, q0_o_9⟩ := rc10 e_o
  replace e_o := Lib.hid e_o
  have hgw0 := grow_cell W
  have hK := Lib.hid (fun w => progKnown w)
  have hbad : (c.ok && s.ok && o.ok) = false := by simp [hc, hs, ho]
  have kD := Lib.hid (fun w => progDoBad (c := c) (s := s) (o := o) w hbad)
  clear hbad
  have kRC := Lib.hid (fun w => (refCavern c w).mono fun e w' hb => BoolB.lit hb hc)
  have kRS := Lib.hid (fun w => (refState s w).mono fun e w' hb => BoolB.lit hb hs)
  have kRO := Lib.hid (fun w => (refOp o w).mono fun e w' hb => BoolB.lit hb ho)
  replace hc := Lib.hid hc; replace hs := Lib.hid hs; replace ho := Lib.hid ho
  go_enter Try.func3, Try.ntmps3
  go_wp2_with (first | (go_at_call 16; (with_reducible refine Calls.mono (kD.out _) ?_); rintro e w1 ⟨rfl, hB⟩; (first | (obtain ⟨g, rfl⟩ := g.next hB) | (obtain ⟨g, rfl⟩ : ∃ g : Grow W, w1 = g.x := ⟨⟨w1, hB⟩, rfl⟩)); clear hB; have hld : ∀ (b o : Nat), b < W.heap.size → ((g.x.alloc (.cells #[.int .i64 0, .int .i64 0, .int .i64 0, .int .i64 0, .int .i64 0, .int .i64 0, .int .i64 0, .int .i64 0] 28)).alloc (.cells #[.int .i64 0, .int .i64 0, .int .i64 0, .int .i64 0, .int .i64 0, .int .i64 0] 35)).cell? ⟨b, o, none⟩ = W.cell? ⟨b, o, none⟩ := below_cell ((g.h.alloc g.size (.cells #[.int .i64 0, .int .i64 0, .int .i64 0, .int .i64 0, .int .i64 0, .int .i64 0, .int .i64 0, .int .i64 0] 28)).alloc (g.h.alloc g.size (.cells #[.int .i64 0, .int .i64 0, .int .i64 0, .int .i64 0, .int .i64 0, .int .i64 0, .int .i64 0, .int .i64 0] 28)).size (.cells #[.int .i64 0, .int .i64 0, .int .i64 0, .int .i64 0, .int .i64 0, .int .i64 0] 35))))
  clear hld
  clear q0_c_0 q0_c_1 q0_c_2 q0_c_3 q0_c_4 q0_c_5 q0_c_6 q0_c_7 q0_c_8 q0_c_9 q0_c_10 q0_s_0 q0_s_1 q0_s_2 q0_s_3 q0_s_4 q0_s_5 q0_s_6 q0_s_7 q0_o_0 q0_o_1 q0_o_2 q0_o_3 q0_o_4 q0_o_5 q0_o_6 q0_o_7 q0_o_8 q0_o_9
  clear hgw0
  have szo1 := B0.size
  have gz1 := g.size
  have A_c : g.x.heap[w.heap.size]? = some (.cells #[.int .i64 c.vlo, .int .i64 c.vhi, .int .i64 c.least, .int .i64 c.most, .int .i64 c.f0, .int .i64 c.f1, .int .i64 c.h0, .int .i64 c.h1, .int .i64 c.rock, .int .i64 c.plo, .int .i64 c.phi] 26 (0, 0)) := (g.h.block _ z0_c).trans e_c.out
  have A_s : g.x.heap[W1.heap.size]? = some (.cells #[.int .i64 s.glo, .int .i64 s.ghi, .int .i64 s.ylo, .int .i64 s.yhi, .int .i64 s.tlo, .int .i64 s.thi, .int .i64 s.wlo, .int .i64 s.whi] 28 (0, 0)) := (g.h.block _ z0_s).trans e_s.out
  have A_o : g.x.heap[W2.heap.size]? = some (.cells #[.int .i64 o.kind, .int .i64 o.lg, .int .i64 o.ly, .int .i64 o.lt, .int .i64 o.lw, .int .i64 o.moles, .int .i64 o.slo, .int .i64 o.shi, .int .i64 o.wlo, .int .i64 o.whi] 33 (0, 0)) := (g.h.block _ z0_o).trans e_o.out
  obtain ⟨U1_x, hU1_x⟩ : ∃ U, g.x.alloc (.cells #[.int .i64 0, .int .i64 0, .int .i64 0, .int .i64 0, .int .i64 0, .int .i64 0, .int .i64 0, .int .i64 0] 28) = U := ⟨_, rfl⟩
  obtain ⟨A_x, b_x, s_x⟩ := boxed hU1_x
  rw [hU1_x]
  replace A_c := (b_x.block _ (Array.getElem?_eq_some_iff.1 A_c).1).trans A_c
  replace A_s := (b_x.block _ (Array.getElem?_eq_some_iff.1 A_s).1).trans A_s
  replace A_o := (b_x.block _ (Array.getElem?_eq_some_iff.1 A_o).1).trans A_o
  obtain ⟨blk_x, hb_x⟩ : ∃ b, g.x.heap.size = b := ⟨_, rfl⟩
  rw [hb_x] at A_x
  try rw [hb_x]
  obtain ⟨U1_u, hU1_u⟩ : ∃ U, U1_x.alloc (.cells #[.int .i64 0, .int .i64 0, .int .i64 0, .int .i64 0, .int .i64 0, .int .i64 0] 35) = U := ⟨_, rfl⟩
  obtain ⟨A_u, b_u, s_u⟩ := boxed hU1_u
  rw [hU1_u]
  replace A_c := (b_u.block _ (Array.getElem?_eq_some_iff.1 A_c).1).trans A_c
  replace A_s := (b_u.block _ (Array.getElem?_eq_some_iff.1 A_s).1).trans A_s
  replace A_o := (b_u.block _ (Array.getElem?_eq_some_iff.1 A_o).1).trans A_o
  replace A_x := (b_u.block _ (Array.getElem?_eq_some_iff.1 A_x).1).trans A_x
  obtain ⟨blk_u, hb_u⟩ : ∃ b, U1_x.heap.size = b := ⟨_, rfl⟩
  rw [hb_u] at A_u
  have hp_u : blk_x + 1 = blk_u := by omega
  try rw [hp_u]
  have B1 : Below w.heap.size w U1_u := (((B0.trans (g.h.mono B0.size)).trans (b_x.mono (B0.trans (g.h.mono B0.size)).size)).trans (b_u.mono ((B0.trans (g.h.mono B0.size)).trans (b_x.mono (B0.trans (g.h.mono B0.size)).size)).size))
  have le_x : w.heap.size ≤ blk_x := by omega
  have le_u : w.heap.size ≤ blk_u := by omega
  have z1_c := (Array.getElem?_eq_some_iff.1 A_c).1
  have z1_s := (Array.getElem?_eq_some_iff.1 A_s).1
  have z1_o := (Array.getElem?_eq_some_iff.1 A_o).1
  have z1_x := (Array.getElem?_eq_some_iff.1 A_x).1
  have z1_u := (Array.getElem?_eq_some_iff.1 A_u).1
  clear hb_x b_x s_x hU1_x hb_u b_u s_u hU1_u hp_u
  obtain ⟨q1_c_0, q1_c_1, q1_c_2, q1_c_3, q1_c_4, q1_c_5, q1_c_6, q1_c_7, q1_c_8, q1_c_9, q1_c_10⟩ := rc11 A_c
  have R1_c := Lib.hid A_c
  clear A_c
  obtain ⟨q1_s_0, q1_s_1, q1_s_2, q1_s_3, q1_s_4, q1_s_5, q1_s_6, q1_s_7⟩ := rc8 A_s
  have R1_s := Lib.hid A_s
  clear A_s
  obtain ⟨q1_o_0, q1_o_1, q1_o_2, q1_o_3, q1_o_4, q1_o_5, q1_o_6, q1_o_7, q1_o_8, q1_o_9⟩ := rc10 A_o
  have R1_o := Lib.hid A_o
  clear A_o
  obtain ⟨q1_x_0, q1_x_1, q1_x_2, q1_x_3, q1_x_4, q1_x_5, q1_x_6, q1_x_7⟩ := rc8 A_x
  have R1_x := Lib.hid A_x
  clear A_x
  obtain ⟨q1_u_0, q1_u_1, q1_u_2, q1_u_3, q1_u_4, q1_u_5⟩ := rc6 A_u
  have R1_u := Lib.hid A_u
  clear A_u
  have hgw1 := grow_cell U1_u
  go_wp2_with (first | (go_at_call 17; (with_reducible refine Calls.mono (kRC.out _) ?_); rintro e w1 ⟨rfl, hB⟩; (first | (obtain ⟨g, rfl⟩ := g.next hB) | (obtain ⟨g, rfl⟩ : ∃ g : Grow U1_u, w1 = g.x := ⟨⟨w1, hB⟩, rfl⟩)); clear hB) | (go_at_call 18; (with_reducible refine Calls.mono (kRS.out _) ?_); rintro e w1 ⟨rfl, hB⟩; (first | (obtain ⟨g, rfl⟩ := g.next hB) | (obtain ⟨g, rfl⟩ : ∃ g : Grow U1_u, w1 = g.x := ⟨⟨w1, hB⟩, rfl⟩)); clear hB) | (go_at_call 19; (with_reducible refine Calls.mono (kRO.out _) ?_); rintro e w1 ⟨rfl, hB⟩; (first | (obtain ⟨g, rfl⟩ := g.next hB) | (obtain ⟨g, rfl⟩ : ∃ g : Grow U1_u, w1 = g.x := ⟨⟨w1, hB⟩, rfl⟩)); clear hB) | (go_at_call 20; (with_reducible refine Calls.mono (hK.out _) ?_); rintro e w1 ⟨rfl, hB⟩; (first | (obtain ⟨g, rfl⟩ := g.next hB) | (obtain ⟨g, rfl⟩ : ∃ g : Grow U1_u, w1 = g.x := ⟨⟨w1, hB⟩, rfl⟩)); clear hB))
  go_ret
  exact ⟨rfl, B1.trans (g.h.mono B1.size)⟩

set_option maxRecDepth 100000 in
set_option maxHeartbeats 8000000 in
theorem lawDoes4 (c : Cav) (s : St) (o : Gas.Op) (w : World) (hc : c.ok = true) (hs : s.ok = true) (ho : o.ok = true) (ha : act c s o = none) :
    Calls Try.prog 3 #[cavV c, stV s, opV o] w fun e w' => e = .returned (.bool true) ∧ Below w.heap.size w w' := by
  obtain ⟨W1, hW1⟩ : ∃ W1, w.alloc (.cells #[.int .i64 c.vlo, .int .i64 c.vhi, .int .i64 c.least, .int .i64 c.most, .int .i64 c.f0, .int .i64 c.f1, .int .i64 c.h0, .int .i64 c.h1, .int .i64 c.rock, .int .i64 c.plo, .int .i64 c.phi] 26) = W1 := ⟨_, rfl⟩
  obtain ⟨e_c, b_c, s_c⟩ := boxed hW1
  obtain ⟨W2, hW2⟩ : ∃ W2, W1.alloc (.cells #[.int .i64 s.glo, .int .i64 s.ghi, .int .i64 s.ylo, .int .i64 s.yhi, .int .i64 s.tlo, .int .i64 s.thi, .int .i64 s.wlo, .int .i64 s.whi] 28) = W2 := ⟨_, rfl⟩
  obtain ⟨e_s, b_s, s_s⟩ := boxed hW2
  replace e_c := (b_s.block _ (Array.getElem?_eq_some_iff.1 e_c).1).trans e_c
  obtain ⟨W, hW⟩ : ∃ W, W2.alloc (.cells #[.int .i64 o.kind, .int .i64 o.lg, .int .i64 o.ly, .int .i64 o.lt, .int .i64 o.lw, .int .i64 o.moles, .int .i64 o.slo, .int .i64 o.shi, .int .i64 o.wlo, .int .i64 o.whi] 33) = W := ⟨_, rfl⟩
  obtain ⟨e_o, b_o, s_o⟩ := boxed hW
  replace e_c := (b_o.block _ (Array.getElem?_eq_some_iff.1 e_c).1).trans e_c
  replace e_s := (b_o.block _ (Array.getElem?_eq_some_iff.1 e_s).1).trans e_s
  have B0 : Below w.heap.size w W := ((b_c.trans (b_s.mono (by omega))).trans (b_o.mono (by omega)))
  have z0_c := (Array.getElem?_eq_some_iff.1 e_c).1
  have z0_s := (Array.getElem?_eq_some_iff.1 e_s).1
  have z0_o := (Array.getElem?_eq_some_iff.1 e_o).1
  have le_c : w.heap.size ≤ w.heap.size := by omega
  have le_s : w.heap.size ≤ W1.heap.size := by omega
  have le_o : w.heap.size ≤ W2.heap.size := by omega
  clear s_c b_c s_s b_s s_o b_o
  obtain ⟨q0_c_0, q0_c_1, q0_c_2, q0_c_3, q0_c_4, q0_c_5, q0_c_6, q0_c_7, q0_c_8, q0_c_9, q0_c_10⟩ := rc11 e_c
  replace e_c := Lib.hid e_c
  obtain ⟨q0_s_0, q0_s_1, q0_s_2, q0_s_3, q0_s_4, q0_s_5, q0_s_6, q0_s_7⟩ := rc8 e_s
  replace e_s := Lib.hid e_s
  obtain ⟨q0_o_0, q0_o_1, q0_o_2, q0_o_3, q0_o_4, q0_o_5, q0_o_6, q0_o_7, q0_o_8, q0_o_9⟩ := rc10 e_o
  replace e_o := Lib.hid e_o
  have hgw0 := grow_cell W
  have hK := Lib.hid (fun w => progKnown w)
  have kD := Lib.hid (fun w => progDoNone (c := c) (s := s) (o := o) w hc hs ho ha)
  obtain ⟨n1, q1, b1, hrd⟩ := refDoAll (Cav.ok_iff.1 hc) (St.ok_iff.1 hs) (Op.ok_is ho).fit
  have kRD := Lib.hid (hrd.none ha)
  clear hrd
  have kRC := Lib.hid (fun w => (refCavern c w).mono fun e w' hb => BoolB.lit hb hc)
  have kRS := Lib.hid (fun w => (refState s w).mono fun e w' hb => BoolB.lit hb hs)
  have kRO := Lib.hid (fun w => (refOp o w).mono fun e w' hb => BoolB.lit hb ho)
  replace hc := Lib.hid hc; replace hs := Lib.hid hs; replace ho := Lib.hid ho
  replace ha := Lib.hid ha
  go_enter Try.func3, Try.ntmps3
  go_wp2_with (first | (go_at_call 16; (with_reducible refine Calls.mono (kD.out _) ?_); rintro e w1 ⟨rfl, hB⟩; (first | (obtain ⟨g, rfl⟩ := g.next hB) | (obtain ⟨g, rfl⟩ : ∃ g : Grow W, w1 = g.x := ⟨⟨w1, hB⟩, rfl⟩)); clear hB; have hld : ∀ (b o : Nat), b < W.heap.size → ((g.x.alloc (.cells #[.int .i64 0, .int .i64 0, .int .i64 0, .int .i64 0, .int .i64 0, .int .i64 0, .int .i64 0, .int .i64 0] 28)).alloc (.cells #[.int .i64 0, .int .i64 0, .int .i64 0, .int .i64 0, .int .i64 0, .int .i64 0] 35)).cell? ⟨b, o, none⟩ = W.cell? ⟨b, o, none⟩ := below_cell ((g.h.alloc g.size (.cells #[.int .i64 0, .int .i64 0, .int .i64 0, .int .i64 0, .int .i64 0, .int .i64 0, .int .i64 0, .int .i64 0] 28)).alloc (g.h.alloc g.size (.cells #[.int .i64 0, .int .i64 0, .int .i64 0, .int .i64 0, .int .i64 0, .int .i64 0, .int .i64 0, .int .i64 0] 28)).size (.cells #[.int .i64 0, .int .i64 0, .int .i64 0, .int .i64 0, .int .i64 0, .int .i64 0] 35))))
  clear hld
  clear q0_c_0 q0_c_1 q0_c_2 q0_c_3 q0_c_4 q0_c_5 q0_c_6 q0_c_7 q0_c_8 q0_c_9 q0_c_10 q0_s_0 q0_s_1 q0_s_2 q0_s_3 q0_s_4 q0_s_5 q0_s_6 q0_s_7 q0_o_0 q0_o_1 q0_o_2 q0_o_3 q0_o_4 q0_o_5 q0_o_6 q0_o_7 q0_o_8 q0_o_9
  clear hgw0
  have szo1 := B0.size
  have gz1 := g.size
  have A_c : g.x.heap[w.heap.size]? = some (.cells #[.int .i64 c.vlo, .int .i64 c.vhi, .int .i64 c.least, .int .i64 c.most, .int .i64 c.f0, .int .i64 c.f1, .int .i64 c.h0, .int .i64 c.h1, .int .i64 c.rock, .int .i64 c.plo, .int .i64 c.phi] 26 (0, 0)) := (g.h.block _ z0_c).trans e_c.out
  have A_s : g.x.heap[W1.heap.size]? = some (.cells #[.int .i64 s.glo, .int .i64 s.ghi, .int .i64 s.ylo, .int .i64 s.yhi, .int .i64 s.tlo, .int .i64 s.thi, .int .i64 s.wlo, .int .i64 s.whi] 28 (0, 0)) := (g.h.block _ z0_s).trans e_s.out
  have A_o : g.x.heap[W2.heap.size]? = some (.cells #[.int .i64 o.kind, .int .i64 o.lg, .int .i64 o.ly, .int .i64 o.lt, .int .i64 o.lw, .int .i64 o.moles, .int .i64 o.slo, .int .i64 o.shi, .int .i64 o.wlo, .int .i64 o.whi] 33 (0, 0)) := (g.h.block _ z0_o).trans e_o.out
  obtain ⟨U1_x, hU1_x⟩ : ∃ U, g.x.alloc (.cells #[.int .i64 0, .int .i64 0, .int .i64 0, .int .i64 0, .int .i64 0, .int .i64 0, .int .i64 0, .int .i64 0] 28) = U := ⟨_, rfl⟩
  obtain ⟨A_x, b_x, s_x⟩ := boxed hU1_x
  rw [hU1_x]
  replace A_c := (b_x.block _ (Array.getElem?_eq_some_iff.1 A_c).1).trans A_c
  replace A_s := (b_x.block _ (Array.getElem?_eq_some_iff.1 A_s).1).trans A_s
  replace A_o := (b_x.block _ (Array.getElem?_eq_some_iff.1 A_o).1).trans A_o
  obtain ⟨blk_x, hb_x⟩ : ∃ b, g.x.heap.size = b := ⟨_, rfl⟩
  rw [hb_x] at A_x
  try rw [hb_x]
  obtain ⟨U1_u, hU1_u⟩ : ∃ U, U1_x.alloc (.cells #[.int .i64 0, .int .i64 0, .int .i64 0, .int .i64 0, .int .i64 0, .int .i64 0] 35) = U := ⟨_, rfl⟩
  obtain ⟨A_u, b_u, s_u⟩ := boxed hU1_u
  rw [hU1_u]
  replace A_c := (b_u.block _ (Array.getElem?_eq_some_iff.1 A_c).1).trans A_c
  replace A_s := (b_u.block _ (Array.getElem?_eq_some_iff.1 A_s).1).trans A_s
  replace A_o := (b_u.block _ (Array.getElem?_eq_some_iff.1 A_o).1).trans A_o
  replace A_x := (b_u.block _ (Array.getElem?_eq_some_iff.1 A_x).1).trans A_x
  obtain ⟨blk_u, hb_u⟩ : ∃ b, U1_x.heap.size = b := ⟨_, rfl⟩
  rw [hb_u] at A_u
  have hp_u : blk_x + 1 = blk_u := by omega
  try rw [hp_u]
  have B1 : Below w.heap.size w U1_u := (((B0.trans (g.h.mono B0.size)).trans (b_x.mono (B0.trans (g.h.mono B0.size)).size)).trans (b_u.mono ((B0.trans (g.h.mono B0.size)).trans (b_x.mono (B0.trans (g.h.mono B0.size)).size)).size))
  have le_x : w.heap.size ≤ blk_x := by omega
  have le_u : w.heap.size ≤ blk_u := by omega
  have z1_c := (Array.getElem?_eq_some_iff.1 A_c).1
  have z1_s := (Array.getElem?_eq_some_iff.1 A_s).1
  have z1_o := (Array.getElem?_eq_some_iff.1 A_o).1
  have z1_x := (Array.getElem?_eq_some_iff.1 A_x).1
  have z1_u := (Array.getElem?_eq_some_iff.1 A_u).1
  clear hb_x b_x s_x hU1_x hb_u b_u s_u hU1_u hp_u
  obtain ⟨q1_c_0, q1_c_1, q1_c_2, q1_c_3, q1_c_4, q1_c_5, q1_c_6, q1_c_7, q1_c_8, q1_c_9, q1_c_10⟩ := rc11 A_c
  have R1_c := Lib.hid A_c
  clear A_c
  obtain ⟨q1_s_0, q1_s_1, q1_s_2, q1_s_3, q1_s_4, q1_s_5, q1_s_6, q1_s_7⟩ := rc8 A_s
  have R1_s := Lib.hid A_s
  clear A_s
  obtain ⟨q1_o_0, q1_o_1, q1_o_2, q1_o_3, q1_o_4, q1_o_5, q1_o_6, q1_o_7, q1_o_8, q1_o_9⟩ := rc10 A_o
  have R1_o := Lib.hid A_o
  clear A_o
  obtain ⟨q1_x_0, q1_x_1, q1_x_2, q1_x_3, q1_x_4, q1_x_5, q1_x_6, q1_x_7⟩ := rc8 A_x
  have R1_x := Lib.hid A_x
  clear A_x
  obtain ⟨q1_u_0, q1_u_1, q1_u_2, q1_u_3, q1_u_4, q1_u_5⟩ := rc6 A_u
  have R1_u := Lib.hid A_u
  clear A_u
  have hgw1 := grow_cell U1_u
  go_wp2_with (first | (go_at_call 17; (with_reducible refine Calls.mono (kRC.out _) ?_); rintro e w1 ⟨rfl, hB⟩; (first | (obtain ⟨g, rfl⟩ := g.next hB) | (obtain ⟨g, rfl⟩ : ∃ g : Grow U1_u, w1 = g.x := ⟨⟨w1, hB⟩, rfl⟩)); clear hB) | (go_at_call 18; (with_reducible refine Calls.mono (kRS.out _) ?_); rintro e w1 ⟨rfl, hB⟩; (first | (obtain ⟨g, rfl⟩ := g.next hB) | (obtain ⟨g, rfl⟩ : ∃ g : Grow U1_u, w1 = g.x := ⟨⟨w1, hB⟩, rfl⟩)); clear hB) | (go_at_call 19; (with_reducible refine Calls.mono (kRO.out _) ?_); rintro e w1 ⟨rfl, hB⟩; (first | (obtain ⟨g, rfl⟩ := g.next hB) | (obtain ⟨g, rfl⟩ : ∃ g : Grow U1_u, w1 = g.x := ⟨⟨w1, hB⟩, rfl⟩)); clear hB) | (go_at_call 21; (with_reducible refine Calls.mono (kRD.out _) ?_); rintro e w1 ⟨rfl, hB⟩; (first | (obtain ⟨g, rfl⟩ := g.next hB) | (obtain ⟨g, rfl⟩ : ∃ g : Grow U1_u, w1 = g.x := ⟨⟨w1, hB⟩, rfl⟩)); clear hB; have hld : ∀ (b o : Nat), b < U1_u.heap.size → ((g.x.alloc (.cells #[.int .i64 n1.glo, .int .i64 n1.ghi, .int .i64 n1.ylo, .int .i64 n1.yhi, .int .i64 n1.tlo, .int .i64 n1.thi, .int .i64 n1.wlo, .int .i64 n1.whi] 28)).alloc (.cells #[.int .i64 q1.glo, .int .i64 q1.ghi, .int .i64 q1.ylo, .int .i64 q1.yhi, .int .i64 q1.wlo, .int .i64 q1.whi] 35)).cell? ⟨b, o, none⟩ = U1_u.cell? ⟨b, o, none⟩ := below_cell ((g.h.alloc g.size (.cells #[.int .i64 n1.glo, .int .i64 n1.ghi, .int .i64 n1.ylo, .int .i64 n1.yhi, .int .i64 n1.tlo, .int .i64 n1.thi, .int .i64 n1.wlo, .int .i64 n1.whi] 28)).alloc (g.h.alloc g.size (.cells #[.int .i64 n1.glo, .int .i64 n1.ghi, .int .i64 n1.ylo, .int .i64 n1.yhi, .int .i64 n1.tlo, .int .i64 n1.thi, .int .i64 n1.wlo, .int .i64 n1.whi] 28)).size (.cells #[.int .i64 q1.glo, .int .i64 q1.ghi, .int .i64 q1.ylo, .int .i64 q1.yhi, .int .i64 q1.wlo, .int .i64 q1.whi] 35))))
  clear hld
  clear q1_c_0 q1_c_1 q1_c_2 q1_c_3 q1_c_4 q1_c_5 q1_c_6 q1_c_7 q1_c_8 q1_c_9 q1_c_10 q1_s_0 q1_s_1 q1_s_2 q1_s_3 q1_s_4 q1_s_5 q1_s_6 q1_s_7 q1_o_0 q1_o_1 q1_o_2 q1_o_3 q1_o_4 q1_o_5 q1_o_6 q1_o_7 q1_o_8 q1_o_9 q1_x_0 q1_x_1 q1_x_2 q1_x_3 q1_x_4 q1_x_5 q1_x_6 q1_x_7 q1_u_0 q1_u_1 q1_u_2 q1_u_3 q1_u_4 q1_u_5
  clear hgw1
  have szo2 := B1.size
  have gz2 := g.size
  have A_c : g.x.heap[w.heap.size]? = some (.cells #[.int .i64 c.vlo, .int .i64 c.vhi, .int .i64 c.least, .int .i64 c.most, .int .i64 c.f0, .int .i64 c.f1, .int .i64 c.h0, .int .i64 c.h1, .int .i64 c.rock, .int .i64 c.plo, .int .i64 c.phi] 26 (0, 0)) := (g.h.block _ z1_c).trans R1_c.out
  have A_s : g.x.heap[W1.heap.size]? = some (.cells #[.int .i64 s.glo, .int .i64 s.ghi, .int .i64 s.ylo, .int .i64 s.yhi, .int .i64 s.tlo, .int .i64 s.thi, .int .i64 s.wlo, .int .i64 s.whi] 28 (0, 0)) := (g.h.block _ z1_s).trans R1_s.out
  have A_o : g.x.heap[W2.heap.size]? = some (.cells #[.int .i64 o.kind, .int .i64 o.lg, .int .i64 o.ly, .int .i64 o.lt, .int .i64 o.lw, .int .i64 o.moles, .int .i64 o.slo, .int .i64 o.shi, .int .i64 o.wlo, .int .i64 o.whi] 33 (0, 0)) := (g.h.block _ z1_o).trans R1_o.out
  have A_x : g.x.heap[blk_x]? = some (.cells #[.int .i64 0, .int .i64 0, .int .i64 0, .int .i64 0, .int .i64 0, .int .i64 0, .int .i64 0, .int .i64 0] 28 (0, 0)) := (g.h.block _ z1_x).trans R1_x.out
  have A_u : g.x.heap[blk_u]? = some (.cells #[.int .i64 0, .int .i64 0, .int .i64 0, .int .i64 0, .int .i64 0, .int .i64 0] 35 (0, 0)) := (g.h.block _ z1_u).trans R1_u.out
  obtain ⟨U2_y, hU2_y⟩ : ∃ U, g.x.alloc (.cells #[.int .i64 n1.glo, .int .i64 n1.ghi, .int .i64 n1.ylo, .int .i64 n1.yhi, .int .i64 n1.tlo, .int .i64 n1.thi, .int .i64 n1.wlo, .int .i64 n1.whi] 28) = U := ⟨_, rfl⟩
  obtain ⟨A_y, b_y, s_y⟩ := boxed hU2_y
  rw [hU2_y]
  replace A_c := (b_y.block _ (Array.getElem?_eq_some_iff.1 A_c).1).trans A_c
  replace A_s := (b_y.block _ (Array.getElem?_eq_some_iff.1 A_s).1).trans A_s
  replace A_o := (b_y.block _ (Array.getElem?_eq_some_iff.1 A_o).1).trans A_o
  replace A_x := (b_y.block _ (Array.getElem?_eq_some_iff.1 A_x).1).trans A_x
  replace A_u := (b_y.block _ (Array.getElem?_eq_some_iff.1 A_u).1).trans A_u
  obtain ⟨blk_y, hb_y⟩ : ∃ b, g.x.heap.size = b := ⟨_, rfl⟩
  rw [hb_y] at A_y
  try rw [hb_y]
  obtain ⟨U2_v, hU2_v⟩ : ∃ U, U2_y.alloc (.cells #[.int .i64 q1.glo, .int .i64 q1.ghi, .int .i64 q1.ylo, .int .i64 q1.yhi, .int .i64 q1.wlo, .int .i64 q1.whi] 35) = U := ⟨_, rfl⟩
  obtain ⟨A_v, b_v, s_v⟩ := boxed hU2_v
  rw [hU2_v]
  replace A_c := (b_v.block _ (Array.getElem?_eq_some_iff.1 A_c).1).trans A_c
  replace A_s := (b_v.block _ (Array.getElem?_eq_some_iff.1 A_s).1).trans A_s
  replace A_o := (b_v.block _ (Array.getElem?_eq_some_iff.1 A_o).1).trans A_o
  replace A_x := (b_v.block _ (Array.getElem?_eq_some_iff.1 A_x).1).trans A_x
  replace A_u := (b_v.block _ (Array.getElem?_eq_some_iff.1 A_u).1).trans A_u
  replace A_y := (b_v.block _ (Array.getElem?_eq_some_iff.1 A_y).1).trans A_y
  obtain ⟨blk_v, hb_v⟩ : ∃ b, U2_y.heap.size = b := ⟨_, rfl⟩
  rw [hb_v] at A_v
  have hp_v : blk_y + 1 = blk_v := by omega
  try rw [hp_v]
  have B2 : Below w.heap.size w U2_v := (((B1.trans (g.h.mono B1.size)).trans (b_y.mono (B1.trans (g.h.mono B1.size)).size)).trans (b_v.mono ((B1.trans (g.h.mono B1.size)).trans (b_y.mono (B1.trans (g.h.mono B1.size)).size)).size))
  have le_y : w.heap.size ≤ blk_y := by omega
  have le_v : w.heap.size ≤ blk_v := by omega
  have z2_c := (Array.getElem?_eq_some_iff.1 A_c).1
  have z2_s := (Array.getElem?_eq_some_iff.1 A_s).1
  have z2_o := (Array.getElem?_eq_some_iff.1 A_o).1
  have z2_x := (Array.getElem?_eq_some_iff.1 A_x).1
  have z2_u := (Array.getElem?_eq_some_iff.1 A_u).1
  have z2_y := (Array.getElem?_eq_some_iff.1 A_y).1
  have z2_v := (Array.getElem?_eq_some_iff.1 A_v).1
  clear hb_y b_y s_y hU2_y hb_v b_v s_v hU2_v hp_v
  obtain ⟨q2_c_0, q2_c_1, q2_c_2, q2_c_3, q2_c_4, q2_c_5, q2_c_6, q2_c_7, q2_c_8, q2_c_9, q2_c_10⟩ := rc11 A_c
  have R2_c := Lib.hid A_c
  clear A_c
  obtain ⟨q2_s_0, q2_s_1, q2_s_2, q2_s_3, q2_s_4, q2_s_5, q2_s_6, q2_s_7⟩ := rc8 A_s
  have R2_s := Lib.hid A_s
  clear A_s
  obtain ⟨q2_o_0, q2_o_1, q2_o_2, q2_o_3, q2_o_4, q2_o_5, q2_o_6, q2_o_7, q2_o_8, q2_o_9⟩ := rc10 A_o
  have R2_o := Lib.hid A_o
  clear A_o
  obtain ⟨q2_x_0, q2_x_1, q2_x_2, q2_x_3, q2_x_4, q2_x_5, q2_x_6, q2_x_7⟩ := rc8 A_x
  have R2_x := Lib.hid A_x
  clear A_x
  obtain ⟨q2_u_0, q2_u_1, q2_u_2, q2_u_3, q2_u_4, q2_u_5⟩ := rc6 A_u
  have R2_u := Lib.hid A_u
  clear A_u
  obtain ⟨q2_y_0, q2_y_1, q2_y_2, q2_y_3, q2_y_4, q2_y_5, q2_y_6, q2_y_7⟩ := rc8 A_y
  have R2_y := Lib.hid A_y
  clear A_y
  obtain ⟨q2_v_0, q2_v_1, q2_v_2, q2_v_3, q2_v_4, q2_v_5⟩ := rc6 A_v
  have R2_v := Lib.hid A_v
  clear A_v
  have hgw2 := grow_cell U2_v
  go_wp2_with (first | (go_at_call 20; (with_reducible refine Calls.mono (hK.out _) ?_); rintro e w1 ⟨rfl, hB⟩; (first | (obtain ⟨g, rfl⟩ := g.next hB) | (obtain ⟨g, rfl⟩ : ∃ g : Grow U2_v, w1 = g.x := ⟨⟨w1, hB⟩, rfl⟩)); clear hB))
  go_ret
  exact ⟨rfl, B2.trans (g.h.mono B2.size)⟩

set_option maxRecDepth 100000 in
set_option maxHeartbeats 8000000 in
theorem lawDoes5 (c : Cav) (s : St) (o : Gas.Op) (w : World) (hc : c.ok = true) (hs : s.ok = true) (ho : o.ok = true) {n : St} {q : Out} (ha : act c s o = some (n, q)) :
    Calls Try.prog 3 #[cavV c, stV s, opV o] w fun e w' => e = .returned (.bool true) ∧ Below w.heap.size w w' := by
  obtain ⟨W1, hW1⟩ : ∃ W1, w.alloc (.cells #[.int .i64 c.vlo, .int .i64 c.vhi, .int .i64 c.least, .int .i64 c.most, .int .i64 c.f0, .int .i64 c.f1, .int .i64 c.h0, .int .i64 c.h1, .int .i64 c.rock, .int .i64 c.plo, .int .i64 c.phi] 26) = W1 := ⟨_, rfl⟩
  obtain ⟨e_c, b_c, s_c⟩ := boxed hW1
  obtain ⟨W2, hW2⟩ : ∃ W2, W1.alloc (.cells #[.int .i64 s.glo, .int .i64 s.ghi, .int .i64 s.ylo, .int .i64 s.yhi, .int .i64 s.tlo, .int .i64 s.thi, .int .i64 s.wlo, .int .i64 s.whi] 28) = W2 := ⟨_, rfl⟩
  obtain ⟨e_s, b_s, s_s⟩ := boxed hW2
  replace e_c := (b_s.block _ (Array.getElem?_eq_some_iff.1 e_c).1).trans e_c
  obtain ⟨W, hW⟩ : ∃ W, W2.alloc (.cells #[.int .i64 o.kind, .int .i64 o.lg, .int .i64 o.ly, .int .i64 o.lt, .int .i64 o.lw, .int .i64 o.moles, .int .i64 o.slo, .int .i64 o.shi, .int .i64 o.wlo, .int .i64 o.whi] 33) = W := ⟨_, rfl⟩
  obtain ⟨e_o, b_o, s_o⟩ := boxed hW
  replace e_c := (b_o.block _ (Array.getElem?_eq_some_iff.1 e_c).1).trans e_c
  replace e_s := (b_o.block _ (Array.getElem?_eq_some_iff.1 e_s).1).trans e_s
  have B0 : Below w.heap.size w W := ((b_c.trans (b_s.mono (by omega))).trans (b_o.mono (by omega)))
  have z0_c := (Array.getElem?_eq_some_iff.1 e_c).1
  have z0_s := (Array.getElem?_eq_some_iff.1 e_s).1
  have z0_o := (Array.getElem?_eq_some_iff.1 e_o).1
  have le_c : w.heap.size ≤ w.heap.size := by omega
  have le_s : w.heap.size ≤ W1.heap.size := by omega
  have le_o : w.heap.size ≤ W2.heap.size := by omega
  clear s_c b_c s_s b_s s_o b_o
  obtain ⟨q0_c_0, q0_c_1, q0_c_2, q0_c_3, q0_c_4, q0_c_5, q0_c_6, q0_c_7, q0_c_8, q0_c_9, q0_c_10⟩ := rc11 e_c
  replace e_c := Lib.hid e_c
  obtain ⟨q0_s_0, q0_s_1, q0_s_2, q0_s_3, q0_s_4, q0_s_5, q0_s_6, q0_s_7⟩ := rc8 e_s
  replace e_s := Lib.hid e_s
  obtain ⟨q0_o_0, q0_o_1, q0_o_2, q0_o_3, q0_o_4, q0_o_5, q0_o_6, q0_o_7, q0_o_8, q0_o_9⟩ := rc10 e_o
  replace e_o := Lib.hid e_o
  have hgw0 := grow_cell W
  have hK := Lib.hid (fun w => progKnown w)
  have kD := Lib.hid (fun w => progDoSome (c := c) (s := s) (o := o) w hc hs ho ha)
  obtain ⟨n1, q1, b1, hrd⟩ := refDoAll (Cav.ok_iff.1 hc) (St.ok_iff.1 hs) (Op.ok_is ho).fit
  have kRD := Lib.hid (hrd.some ha)
  clear hrd
  have kRC := Lib.hid (fun w => (refCavern c w).mono fun e w' hb => BoolB.lit hb hc)
  have kRS := Lib.hid (fun w => (refState s w).mono fun e w' hb => BoolB.lit hb hs)
  have kRO := Lib.hid (fun w => (refOp o w).mono fun e w' hb => BoolB.lit hb ho)
  replace hc := Lib.hid hc; replace hs := Lib.hid hs; replace ho := Lib.hid ho
  replace ha := Lib.hid ha
  go_enter Try.func3, Try.ntmps3
  go_wp2_with (first | (go_at_call 16; (with_reducible refine Calls.mono (kD.out _) ?_); rintro e w1 ⟨rfl, hB⟩; (first | (obtain ⟨g, rfl⟩ := g.next hB) | (obtain ⟨g, rfl⟩ : ∃ g : Grow W, w1 = g.x := ⟨⟨w1, hB⟩, rfl⟩)); clear hB; have hld : ∀ (b o : Nat), b < W.heap.size → ((g.x.alloc (.cells #[.int .i64 n.glo, .int .i64 n.ghi, .int .i64 n.ylo, .int .i64 n.yhi, .int .i64 n.tlo, .int .i64 n.thi, .int .i64 n.wlo, .int .i64 n.whi] 28)).alloc (.cells #[.int .i64 q.glo, .int .i64 q.ghi, .int .i64 q.ylo, .int .i64 q.yhi, .int .i64 q.wlo, .int .i64 q.whi] 35)).cell? ⟨b, o, none⟩ = W.cell? ⟨b, o, none⟩ := below_cell ((g.h.alloc g.size (.cells #[.int .i64 n.glo, .int .i64 n.ghi, .int .i64 n.ylo, .int .i64 n.yhi, .int .i64 n.tlo, .int .i64 n.thi, .int .i64 n.wlo, .int .i64 n.whi] 28)).alloc (g.h.alloc g.size (.cells #[.int .i64 n.glo, .int .i64 n.ghi, .int .i64 n.ylo, .int .i64 n.yhi, .int .i64 n.tlo, .int .i64 n.thi, .int .i64 n.wlo, .int .i64 n.whi] 28)).size (.cells #[.int .i64 q.glo, .int .i64 q.ghi, .int .i64 q.ylo, .int .i64 q.yhi, .int .i64 q.wlo, .int .i64 q.whi] 35))))
  clear hld
  clear q0_c_0 q0_c_1 q0_c_2 q0_c_3 q0_c_4 q0_c_5 q0_c_6 q0_c_7 q0_c_8 q0_c_9 q0_c_10 q0_s_0 q0_s_1 q0_s_2 q0_s_3 q0_s_4 q0_s_5 q0_s_6 q0_s_7 q0_o_0 q0_o_1 q0_o_2 q0_o_3 q0_o_4 q0_o_5 q0_o_6 q0_o_7 q0_o_8 q0_o_9
  clear hgw0
  have szo1 := B0.size
  have gz1 := g.size
  have A_c : g.x.heap[w.heap.size]? = some (.cells #[.int .i64 c.vlo, .int .i64 c.vhi, .int .i64 c.least, .int .i64 c.most, .int .i64 c.f0, .int .i64 c.f1, .int .i64 c.h0, .int .i64 c.h1, .int .i64 c.rock, .int .i64 c.plo, .int .i64 c.phi] 26 (0, 0)) := (g.h.block _ z0_c).trans e_c.out
  have A_s : g.x.heap[W1.heap.size]? = some (.cells #[.int .i64 s.glo, .int .i64 s.ghi, .int .i64 s.ylo, .int .i64 s.yhi, .int .i64 s.tlo, .int .i64 s.thi, .int .i64 s.wlo, .int .i64 s.whi] 28 (0, 0)) := (g.h.block _ z0_s).trans e_s.out
  have A_o : g.x.heap[W2.heap.size]? = some (.cells #[.int .i64 o.kind, .int .i64 o.lg, .int .i64 o.ly, .int .i64 o.lt, .int .i64 o.lw, .int .i64 o.moles, .int .i64 o.slo, .int .i64 o.shi, .int .i64 o.wlo, .int .i64 o.whi] 33 (0, 0)) := (g.h.block _ z0_o).trans e_o.out
  obtain ⟨U1_x, hU1_x⟩ : ∃ U, g.x.alloc (.cells #[.int .i64 n.glo, .int .i64 n.ghi, .int .i64 n.ylo, .int .i64 n.yhi, .int .i64 n.tlo, .int .i64 n.thi, .int .i64 n.wlo, .int .i64 n.whi] 28) = U := ⟨_, rfl⟩
  obtain ⟨A_x, b_x, s_x⟩ := boxed hU1_x
  rw [hU1_x]
  replace A_c := (b_x.block _ (Array.getElem?_eq_some_iff.1 A_c).1).trans A_c
  replace A_s := (b_x.block _ (Array.getElem?_eq_some_iff.1 A_s).1).trans A_s
  replace A_o := (b_x.block _ (Array.getElem?_eq_some_iff.1 A_o).1).trans A_o
  obtain ⟨blk_x, hb_x⟩ : ∃ b, g.x.heap.size = b := ⟨_, rfl⟩
  rw [hb_x] at A_x
  try rw [hb_x]
  obtain ⟨U1_u, hU1_u⟩ : ∃ U, U1_x.alloc (.cells #[.int .i64 q.glo, .int .i64 q.ghi, .int .i64 q.ylo, .int .i64 q.yhi, .int .i64 q.wlo, .int .i64 q.whi] 35) = U := ⟨_, rfl⟩
  obtain ⟨A_u, b_u, s_u⟩ := boxed hU1_u
  rw [hU1_u]
  replace A_c := (b_u.block _ (Array.getElem?_eq_some_iff.1 A_c).1).trans A_c
  replace A_s := (b_u.block _ (Array.getElem?_eq_some_iff.1 A_s).1).trans A_s
  replace A_o := (b_u.block _ (Array.getElem?_eq_some_iff.1 A_o).1).trans A_o
  replace A_x := (b_u.block _ (Array.getElem?_eq_some_iff.1 A_x).1).trans A_x
  obtain ⟨blk_u, hb_u⟩ : ∃ b, U1_x.heap.size = b := ⟨_, rfl⟩
  rw [hb_u] at A_u
  have hp_u : blk_x + 1 = blk_u := by omega
  try rw [hp_u]
  have B1 : Below w.heap.size w U1_u := (((B0.trans (g.h.mono B0.size)).trans (b_x.mono (B0.trans (g.h.mono B0.size)).size)).trans (b_u.mono ((B0.trans (g.h.mono B0.size)).trans (b_x.mono (B0.trans (g.h.mono B0.size)).size)).size))
  have le_x : w.heap.size ≤ blk_x := by omega
  have le_u : w.heap.size ≤ blk_u := by omega
  have z1_c := (Array.getElem?_eq_some_iff.1 A_c).1
  have z1_s := (Array.getElem?_eq_some_iff.1 A_s).1
  have z1_o := (Array.getElem?_eq_some_iff.1 A_o).1
  have z1_x := (Array.getElem?_eq_some_iff.1 A_x).1
  have z1_u := (Array.getElem?_eq_some_iff.1 A_u).1
  clear hb_x b_x s_x hU1_x hb_u b_u s_u hU1_u hp_u
  obtain ⟨q1_c_0, q1_c_1, q1_c_2, q1_c_3, q1_c_4, q1_c_5, q1_c_6, q1_c_7, q1_c_8, q1_c_9, q1_c_10⟩ := rc11 A_c
  have R1_c := Lib.hid A_c
  clear A_c
  obtain ⟨q1_s_0, q1_s_1, q1_s_2, q1_s_3, q1_s_4, q1_s_5, q1_s_6, q1_s_7⟩ := rc8 A_s
  have R1_s := Lib.hid A_s
  clear A_s
  obtain ⟨q1_o_0, q1_o_1, q1_o_2, q1_o_3, q1_o_4, q1_o_5, q1_o_6, q1_o_7, q1_o_8, q1_o_9⟩ := rc10 A_o
  have R1_o := Lib.hid A_o
  clear A_o
  obtain ⟨q1_x_0, q1_x_1, q1_x_2, q1_x_3, q1_x_4, q1_x_5, q1_x_6, q1_x_7⟩ := rc8 A_x
  have R1_x := Lib.hid A_x
  clear A_x
  obtain ⟨q1_u_0, q1_u_1, q1_u_2, q1_u_3, q1_u_4, q1_u_5⟩ := rc6 A_u
  have R1_u := Lib.hid A_u
  clear A_u
  have hgw1 := grow_cell U1_u
  go_wp2_with (first | (go_at_call 17; (with_reducible refine Calls.mono (kRC.out _) ?_); rintro e w1 ⟨rfl, hB⟩; (first | (obtain ⟨g, rfl⟩ := g.next hB) | (obtain ⟨g, rfl⟩ : ∃ g : Grow U1_u, w1 = g.x := ⟨⟨w1, hB⟩, rfl⟩)); clear hB) | (go_at_call 18; (with_reducible refine Calls.mono (kRS.out _) ?_); rintro e w1 ⟨rfl, hB⟩; (first | (obtain ⟨g, rfl⟩ := g.next hB) | (obtain ⟨g, rfl⟩ : ∃ g : Grow U1_u, w1 = g.x := ⟨⟨w1, hB⟩, rfl⟩)); clear hB) | (go_at_call 19; (with_reducible refine Calls.mono (kRO.out _) ?_); rintro e w1 ⟨rfl, hB⟩; (first | (obtain ⟨g, rfl⟩ := g.next hB) | (obtain ⟨g, rfl⟩ : ∃ g : Grow U1_u, w1 = g.x := ⟨⟨w1, hB⟩, rfl⟩)); clear hB) | (go_at_call 21; (with_reducible refine Calls.mono (kRD.out _) ?_); rintro e w1 ⟨rfl, hB⟩; (first | (obtain ⟨g, rfl⟩ := g.next hB) | (obtain ⟨g, rfl⟩ : ∃ g : Grow U1_u, w1 = g.x := ⟨⟨w1, hB⟩, rfl⟩)); clear hB; have hld : ∀ (b o : Nat), b < U1_u.heap.size → ((g.x.alloc (.cells #[.int .i64 n.glo, .int .i64 n.ghi, .int .i64 n.ylo, .int .i64 n.yhi, .int .i64 n.tlo, .int .i64 n.thi, .int .i64 n.wlo, .int .i64 n.whi] 28)).alloc (.cells #[.int .i64 q.glo, .int .i64 q.ghi, .int .i64 q.ylo, .int .i64 q.yhi, .int .i64 q.wlo, .int .i64 q.whi] 35)).cell? ⟨b, o, none⟩ = U1_u.cell? ⟨b, o, none⟩ := below_cell ((g.h.alloc g.size (.cells #[.int .i64 n.glo, .int .i64 n.ghi, .int .i64 n.ylo, .int .i64 n.yhi, .int .i64 n.tlo, .int .i64 n.thi, .int .i64 n.wlo, .int .i64 n.whi] 28)).alloc (g.h.alloc g.size (.cells #[.int .i64 n.glo, .int .i64 n.ghi, .int .i64 n.ylo, .int .i64 n.yhi, .int .i64 n.tlo, .int .i64 n.thi, .int .i64 n.wlo, .int .i64 n.whi] 28)).size (.cells #[.int .i64 q.glo, .int .i64 q.ghi, .int .i64 q.ylo, .int .i64 q.yhi, .int .i64 q.wlo, .int .i64 q.whi] 35))))
  clear hld
  clear q1_c_0 q1_c_1 q1_c_2 q1_c_3 q1_c_4 q1_c_5 q1_c_6 q1_c_7 q1_c_8 q1_c_9 q1_c_10 q1_s_0 q1_s_1 q1_s_2 q1_s_3 q1_s_4 q1_s_5 q1_s_6 q1_s_7 q1_o_0 q1_o_1 q1_o_2 q1_o_3 q1_o_4 q1_o_5 q1_o_6 q1_o_7 q1_o_8 q1_o_9 q1_x_0 q1_x_1 q1_x_2 q1_x_3 q1_x_4 q1_x_5 q1_x_6 q1_x_7 q1_u_0 q1_u_1 q1_u_2 q1_u_3 q1_u_4 q1_u_5
  clear hgw1
  have szo2 := B1.size
  have gz2 := g.size
  have A_c : g.x.heap[w.heap.size]? = some (.cells #[.int .i64 c.vlo, .int .i64 c.vhi, .int .i64 c.least, .int .i64 c.most, .int .i64 c.f0, .int .i64 c.f1, .int .i64 c.h0, .int .i64 c.h1, .int .i64 c.rock, .int .i64 c.plo, .int .i64 c.phi] 26 (0, 0)) := (g.h.block _ z1_c).trans R1_c.out
  have A_s : g.x.heap[W1.heap.size]? = some (.cells #[.int .i64 s.glo, .int .i64 s.ghi, .int .i64 s.ylo, .int .i64 s.yhi, .int .i64 s.tlo, .int .i64 s.thi, .int .i64 s.wlo, .int .i64 s.whi] 28 (0, 0)) := (g.h.block _ z1_s).trans R1_s.out
  have A_o : g.x.heap[W2.heap.size]? = some (.cells #[.int .i64 o.kind, .int .i64 o.lg, .int .i64 o.ly, .int .i64 o.lt, .int .i64 o.lw, .int .i64 o.moles, .int .i64 o.slo, .int .i64 o.shi, .int .i64 o.wlo, .int .i64 o.whi] 33 (0, 0)) := (g.h.block _ z1_o).trans R1_o.out
  have A_x : g.x.heap[blk_x]? = some (.cells #[.int .i64 n.glo, .int .i64 n.ghi, .int .i64 n.ylo, .int .i64 n.yhi, .int .i64 n.tlo, .int .i64 n.thi, .int .i64 n.wlo, .int .i64 n.whi] 28 (0, 0)) := (g.h.block _ z1_x).trans R1_x.out
  have A_u : g.x.heap[blk_u]? = some (.cells #[.int .i64 q.glo, .int .i64 q.ghi, .int .i64 q.ylo, .int .i64 q.yhi, .int .i64 q.wlo, .int .i64 q.whi] 35 (0, 0)) := (g.h.block _ z1_u).trans R1_u.out
  obtain ⟨U2_y, hU2_y⟩ : ∃ U, g.x.alloc (.cells #[.int .i64 n.glo, .int .i64 n.ghi, .int .i64 n.ylo, .int .i64 n.yhi, .int .i64 n.tlo, .int .i64 n.thi, .int .i64 n.wlo, .int .i64 n.whi] 28) = U := ⟨_, rfl⟩
  obtain ⟨A_y, b_y, s_y⟩ := boxed hU2_y
  rw [hU2_y]
  replace A_c := (b_y.block _ (Array.getElem?_eq_some_iff.1 A_c).1).trans A_c
  replace A_s := (b_y.block _ (Array.getElem?_eq_some_iff.1 A_s).1).trans A_s
  replace A_o := (b_y.block _ (Array.getElem?_eq_some_iff.1 A_o).1).trans A_o
  replace A_x := (b_y.block _ (Array.getElem?_eq_some_iff.1 A_x).1).trans A_x
  replace A_u := (b_y.block _ (Array.getElem?_eq_some_iff.1 A_u).1).trans A_u
  obtain ⟨blk_y, hb_y⟩ : ∃ b, g.x.heap.size = b := ⟨_, rfl⟩
  rw [hb_y] at A_y
  try rw [hb_y]
  obtain ⟨U2_v, hU2_v⟩ : ∃ U, U2_y.alloc (.cells #[.int .i64 q.glo, .int .i64 q.ghi, .int .i64 q.ylo, .int .i64 q.yhi, .int .i64 q.wlo, .int .i64 q.whi] 35) = U := ⟨_, rfl⟩
  obtain ⟨A_v, b_v, s_v⟩ := boxed hU2_v
  rw [hU2_v]
  replace A_c := (b_v.block _ (Array.getElem?_eq_some_iff.1 A_c).1).trans A_c
  replace A_s := (b_v.block _ (Array.getElem?_eq_some_iff.1 A_s).1).trans A_s
  replace A_o := (b_v.block _ (Array.getElem?_eq_some_iff.1 A_o).1).trans A_o
  replace A_x := (b_v.block _ (Array.getElem?_eq_some_iff.1 A_x).1).trans A_x
  replace A_u := (b_v.block _ (Array.getElem?_eq_some_iff.1 A_u).1).trans A_u
  replace A_y := (b_v.block _ (Array.getElem?_eq_some_iff.1 A_y).1).trans A_y
  obtain ⟨blk_v, hb_v⟩ : ∃ b, U2_y.heap.size = b := ⟨_, rfl⟩
  rw [hb_v] at A_v
  have hp_v : blk_y + 1 = blk_v := by omega
  try rw [hp_v]
  have B2 : Below w.heap.size w U2_v := (((B1.trans (g.h.mono B1.size)).trans (b_y.mono (B1.trans (g.h.mono B1.size)).size)).trans (b_v.mono ((B1.trans (g.h.mono B1.size)).trans (b_y.mono (B1.trans (g.h.mono B1.size)).size)).size))
  have le_y : w.heap.size ≤ blk_y := by omega
  have le_v : w.heap.size ≤ blk_v := by omega
  have z2_c := (Array.getElem?_eq_some_iff.1 A_c).1
  have z2_s := (Array.getElem?_eq_some_iff.1 A_s).1
  have z2_o := (Array.getElem?_eq_some_iff.1 A_o).1
  have z2_x := (Array.getElem?_eq_some_iff.1 A_x).1
  have z2_u := (Array.getElem?_eq_some_iff.1 A_u).1
  have z2_y := (Array.getElem?_eq_some_iff.1 A_y).1
  have z2_v := (Array.getElem?_eq_some_iff.1 A_v).1
  clear hb_y b_y s_y hU2_y hb_v b_v s_v hU2_v hp_v
  obtain ⟨q2_c_0, q2_c_1, q2_c_2, q2_c_3, q2_c_4, q2_c_5, q2_c_6, q2_c_7, q2_c_8, q2_c_9, q2_c_10⟩ := rc11 A_c
  have R2_c := Lib.hid A_c
  clear A_c
  obtain ⟨q2_s_0, q2_s_1, q2_s_2, q2_s_3, q2_s_4, q2_s_5, q2_s_6, q2_s_7⟩ := rc8 A_s
  have R2_s := Lib.hid A_s
  clear A_s
  obtain ⟨q2_o_0, q2_o_1, q2_o_2, q2_o_3, q2_o_4, q2_o_5, q2_o_6, q2_o_7, q2_o_8, q2_o_9⟩ := rc10 A_o
  have R2_o := Lib.hid A_o
  clear A_o
  obtain ⟨q2_x_0, q2_x_1, q2_x_2, q2_x_3, q2_x_4, q2_x_5, q2_x_6, q2_x_7⟩ := rc8 A_x
  have R2_x := Lib.hid A_x
  clear A_x
  obtain ⟨q2_u_0, q2_u_1, q2_u_2, q2_u_3, q2_u_4, q2_u_5⟩ := rc6 A_u
  have R2_u := Lib.hid A_u
  clear A_u
  obtain ⟨q2_y_0, q2_y_1, q2_y_2, q2_y_3, q2_y_4, q2_y_5, q2_y_6, q2_y_7⟩ := rc8 A_y
  have R2_y := Lib.hid A_y
  clear A_y
  obtain ⟨q2_v_0, q2_v_1, q2_v_2, q2_v_3, q2_v_4, q2_v_5⟩ := rc6 A_v
  have R2_v := Lib.hid A_v
  clear A_v
  have hgw2 := grow_cell U2_v
  go_wp2_with (first | (go_at_call 20; (with_reducible refine Calls.mono (hK.out _) ?_); rintro e w1 ⟨rfl, hB⟩; (first | (obtain ⟨g, rfl⟩ := g.next hB) | (obtain ⟨g, rfl⟩ : ∃ g : Grow U2_v, w1 = g.x := ⟨⟨w1, hB⟩, rfl⟩)); clear hB))
  go_ret
  exact ⟨rfl, B2.trans (g.h.mono B2.size)⟩

theorem lawDoes (c : Cav) (s : St) (o : Gas.Op) (w : World) : Calls Try.prog 3 #[cavV c, stV s, opV o] w fun e w' => e = .returned (.bool true) ∧ Below w.heap.size w w' := by
  cases hc : c.ok
  · exact lawDoes1 c s o w hc
  · cases hs : s.ok
    · exact lawDoes2 c s o w hc hs
    · cases ho : o.ok
      · exact lawDoes3 c s o w hc hs ho
      · cases ha : act c s o with
        | none => exact lawDoes4 c s o w hc hs ho ha
        | some x =>
          obtain ⟨n, q⟩ := x
          exact lawDoes5 c s o w hc hs ho ha
end Go.Proofs.Ytgmbolagciaenaa
