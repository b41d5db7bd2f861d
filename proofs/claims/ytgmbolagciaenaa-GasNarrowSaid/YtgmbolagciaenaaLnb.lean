/- Gas: the walk of the law GasNarrow where the operation can be done: its loop. -/
import Derived.Test.YtgmbolagciaenaaLn
import Derived.Deep.Cut
set_option linter.unusedVariables false
set_option linter.unusedSimpArgs false
namespace Go.Proofs.Ytgmbolagciaenaa
open Go.RowKit Go.Sd Gas
set_option maxRecDepth 100000 in
set_option maxHeartbeats 16000000 in
theorem lawNar4 (c : Cav) (s : St) (o : Gas.Op) (w : World) (hc : c.ok = true) (hs : s.ok = true) (ho : o.ok = true) {nx : St} {q : Out} (ha : act c s o = some (nx, q)) :
    Calls Try.prog 4 #[cavV c, stV s, opV o] w fun e w' => e = .returned (.bool true) ∧ Below w.heap.size w w' := by
  obtain ⟨W1, hW1⟩ : ∃ W1, w.alloc (.cells #[.int .i64 c.vlo, .int .i64 c.vhi, .int .i64 c.least, .int .i64 c.most, .int .i64 c.f0, .int .i64 c.f1, .int .i64 c.h0, .int .i64 c.h1, .int .i64 c.rock, .int .i64 c.plo, .int .i64 c.phi] 26) = W1 := ⟨_, rfl⟩
  obtain ⟨e_c, b_c, s_c⟩ := boxed hW1
  obtain ⟨W2, hW2⟩ : ∃ W2, W1.alloc (.cells #[.int .i64 s.glo, .int .i64 s.ghi, .int .i64 s.ylo, .int .i64 s.yhi, .int .i64 s.tlo, .int .i64 s.thi, .int .i64 s.wlo, .int .i64 s.whi] 28) = W2 := ⟨_, rfl⟩
  obtain ⟨e_s, b_s, s_s⟩ := boxed hW2
  replace e_c := (b_s.block _ (Array.getElem?_eq_some_iff.1 e_c).1).trans e_c
  obtain ⟨W, hW⟩ : ∃ W, W2.alloc (.cells #[.int .i64 o.kind, .int .i64 o.lg, .int .i64 o.ly, .int .i64 o.lt, .int .i64 o.lw, .int .i64 o.moles, .int .i64 o.slo, .int .i64 o.shi, .int .i64 o.wlo, .int .i64 o.whi] 33) = W := ⟨_, rfl⟩
  obtain ⟨e_o, b_o, s_o⟩ := boxed hW
  replace e_c := (b_o.block _ (Array.getElem?_eq_some_iff.1 e_c).1).trans e_c
  replace e_s := (b_o.block _ (Array.getElem?_eq_some_iff.1 e_s).1).trans e_s
  have B0 : Below w.heap.size w W := ((b_c.trans (b_s.mono (by omega))).trans (b_o.mono (by omega)))
  have z0_c := (Array.getElem?_eq_some_iff.1 e_c).1
  have z0_s := (Array.getElem?_eq_some_iff.1 e_s).1
  have z0_o := (Array.getElem?_eq_some_iff.1 e_o).1
  have le_c : w.heap.size ≤ w.heap.size := by omega
  have le_s : w.heap.size ≤ W1.heap.size := by omega
  have le_o : w.heap.size ≤ W2.heap.size := by omega
  clear s_c b_c s_s b_s s_o b_o
  obtain ⟨q0_c_0, q0_c_1, q0_c_2, q0_c_3, q0_c_4, q0_c_5, q0_c_6, q0_c_7, q0_c_8, q0_c_9, q0_c_10⟩ := rc11 e_c
  replace e_c := Lib.hid e_c
  obtain ⟨q0_s_0, q0_s_1, q0_s_2, q0_s_3, q0_s_4, q0_s_5, q0_s_6, q0_s_7⟩ := rc8 e_s
  replace e_s := Lib.hid e_s
  obtain ⟨q0_o_0, q0_o_1, q0_o_2, q0_o_3, q0_o_4, q0_o_5, q0_o_6, q0_o_7, q0_o_8, q0_o_9⟩ := rc10 e_o
  replace e_o := Lib.hid e_o
  have hgw0 := grow_cell W
  have hK := Lib.hid (fun w => progKnown w)
  have hc' := Cav.ok_iff.1 hc; have hs' := St.ok_iff.1 hs; have ho' := Op.ok_is ho
  have hend := Lib.hid (narrow_is hc' hs' ho' ha)
  have kD := Lib.hid (fun w => progDoSome (c := c) (s := s) (o := o) w hc hs ho ha)
  have kPl := Lib.hid (fun (k : Nat) (lv av bv : Value) (w1 : World) (hl : OpsAt w1 lv [o]) (h1 : IntsAt w1 av [cornU o k]) (h2 : IntsAt w1 bv [cornV o k]) => endPlay hc hs ho ha k w1 hl h1 h2)
  clear hc' hs' ho'
  have kRC := Lib.hid (fun w => (refCavern c w).mono fun e w' hb => BoolB.lit hb hc)
  have kRS := Lib.hid (fun w => (refState s w).mono fun e w' hb => BoolB.lit hb hs)
  have kRO := Lib.hid (fun w => (refOp o w).mono fun e w' hb => BoolB.lit hb ho)
  replace hc := Lib.hid hc; replace hs := Lib.hid hs; replace ho := Lib.hid ho
  replace ha := Lib.hid ha
  go_enter Try.func4, Try.ntmps4
  go_wp2_with (first | (go_at_call 17; (with_reducible refine Calls.mono (kRC.out _) ?_); rintro e w1 ⟨rfl, hB⟩; (first | (obtain ⟨g, rfl⟩ := g.next hB) | (obtain ⟨g, rfl⟩ : ∃ g : Grow W, w1 = g.x := ⟨⟨w1, hB⟩, rfl⟩)); clear hB) | (go_at_call 18; (with_reducible refine Calls.mono (kRS.out _) ?_); rintro e w1 ⟨rfl, hB⟩; (first | (obtain ⟨g, rfl⟩ := g.next hB) | (obtain ⟨g, rfl⟩ : ∃ g : Grow W, w1 = g.x := ⟨⟨w1, hB⟩, rfl⟩)); clear hB) | (go_at_call 19; (with_reducible refine Calls.mono (kRO.out _) ?_); rintro e w1 ⟨rfl, hB⟩; (first | (obtain ⟨g, rfl⟩ := g.next hB) | (obtain ⟨g, rfl⟩ : ∃ g : Grow W, w1 = g.x := ⟨⟨w1, hB⟩, rfl⟩)); clear hB) | (go_at_call 16; (with_reducible refine Calls.mono (kD.out _) ?_); rintro e w1 ⟨rfl, hB⟩; (first | (obtain ⟨g, rfl⟩ := g.next hB) | (obtain ⟨g, rfl⟩ : ∃ g : Grow W, w1 = g.x := ⟨⟨w1, hB⟩, rfl⟩)); clear hB; have hld : ∀ (b o : Nat), b < W.heap.size → ((g.x.alloc (.cells #[.int .i64 nx.glo, .int .i64 nx.ghi, .int .i64 nx.ylo, .int .i64 nx.yhi, .int .i64 nx.tlo, .int .i64 nx.thi, .int .i64 nx.wlo, .int .i64 nx.whi] 28)).alloc (.cells #[.int .i64 q.glo, .int .i64 q.ghi, .int .i64 q.ylo, .int .i64 q.yhi, .int .i64 q.wlo, .int .i64 q.whi] 35)).cell? ⟨b, o, none⟩ = W.cell? ⟨b, o, none⟩ := below_cell ((g.h.alloc g.size (.cells #[.int .i64 nx.glo, .int .i64 nx.ghi, .int .i64 nx.ylo, .int .i64 nx.yhi, .int .i64 nx.tlo, .int .i64 nx.thi, .int .i64 nx.wlo, .int .i64 nx.whi] 28)).alloc (g.h.alloc g.size (.cells #[.int .i64 nx.glo, .int .i64 nx.ghi, .int .i64 nx.ylo, .int .i64 nx.yhi, .int .i64 nx.tlo, .int .i64 nx.thi, .int .i64 nx.wlo, .int .i64 nx.whi] 28)).size (.cells #[.int .i64 q.glo, .int .i64 q.ghi, .int .i64 q.ylo, .int .i64 q.yhi, .int .i64 q.wlo, .int .i64 q.whi] 35))))
  clear hld
  clear q0_c_0 q0_c_1 q0_c_2 q0_c_3 q0_c_4 q0_c_5 q0_c_6 q0_c_7 q0_c_8 q0_c_9 q0_c_10 q0_s_0 q0_s_1 q0_s_2 q0_s_3 q0_s_4 q0_s_5 q0_s_6 q0_s_7 q0_o_0 q0_o_1 q0_o_2 q0_o_3 q0_o_4 q0_o_5 q0_o_6 q0_o_7 q0_o_8 q0_o_9
  clear hgw0
  have szo1 := B0.size
  have gz1 := g.size
  have A_c : g.x.heap[w.heap.size]? = some (.cells #[.int .i64 c.vlo, .int .i64 c.vhi, .int .i64 c.least, .int .i64 c.most, .int .i64 c.f0, .int .i64 c.f1, .int .i64 c.h0, .int .i64 c.h1, .int .i64 c.rock, .int .i64 c.plo, .int .i64 c.phi] 26 (0, 0)) := (g.h.block _ z0_c).trans e_c.out
  have A_s : g.x.heap[W1.heap.size]? = some (.cells #[.int .i64 s.glo, .int .i64 s.ghi, .int .i64 s.ylo, .int .i64 s.yhi, .int .i64 s.tlo, .int .i64 s.thi, .int .i64 s.wlo, .int .i64 s.whi] 28 (0, 0)) := (g.h.block _ z0_s).trans e_s.out
  have A_o : g.x.heap[W2.heap.size]? = some (.cells #[.int .i64 o.kind, .int .i64 o.lg, .int .i64 o.ly, .int .i64 o.lt, .int .i64 o.lw, .int .i64 o.moles, .int .i64 o.slo, .int .i64 o.shi, .int .i64 o.wlo, .int .i64 o.whi] 33 (0, 0)) := (g.h.block _ z0_o).trans e_o.out
  obtain ⟨U1_x, hU1_x⟩ : ∃ Uw, g.x.alloc (.cells #[.int .i64 nx.glo, .int .i64 nx.ghi, .int .i64 nx.ylo, .int .i64 nx.yhi, .int .i64 nx.tlo, .int .i64 nx.thi, .int .i64 nx.wlo, .int .i64 nx.whi] 28) = Uw := ⟨_, rfl⟩
  obtain ⟨A_x, b_x, s_x⟩ := boxed hU1_x
  rw [hU1_x]
  replace A_c := (b_x.block _ (Array.getElem?_eq_some_iff.1 A_c).1).trans A_c
  replace A_s := (b_x.block _ (Array.getElem?_eq_some_iff.1 A_s).1).trans A_s
  replace A_o := (b_x.block _ (Array.getElem?_eq_some_iff.1 A_o).1).trans A_o
  obtain ⟨blk_x, hb_x⟩ : ∃ b, g.x.heap.size = b := ⟨_, rfl⟩
  rw [hb_x] at A_x
  try rw [hb_x]
  obtain ⟨U1_v, hU1_v⟩ : ∃ Uw, U1_x.alloc (.cells #[.int .i64 q.glo, .int .i64 q.ghi, .int .i64 q.ylo, .int .i64 q.yhi, .int .i64 q.wlo, .int .i64 q.whi] 35) = Uw := ⟨_, rfl⟩
  obtain ⟨A_v, b_v, s_v⟩ := boxed hU1_v
  rw [hU1_v]
  replace A_c := (b_v.block _ (Array.getElem?_eq_some_iff.1 A_c).1).trans A_c
  replace A_s := (b_v.block _ (Array.getElem?_eq_some_iff.1 A_s).1).trans A_s
  replace A_o := (b_v.block _ (Array.getElem?_eq_some_iff.1 A_o).1).trans A_o
  replace A_x := (b_v.block _ (Array.getElem?_eq_some_iff.1 A_x).1).trans A_x
  obtain ⟨blk_v, hb_v⟩ : ∃ b, U1_x.heap.size = b := ⟨_, rfl⟩
  rw [hb_v] at A_v
  have hp_v : blk_x + 1 = blk_v := by omega
  try rw [hp_v]
  obtain ⟨U1_y, hU1_y⟩ : ∃ Uw, U1_v.alloc (.cells #[.int .i64 0, .int .i64 0, .int .i64 0, .int .i64 0, .int .i64 0, .int .i64 0, .int .i64 0, .int .i64 0] 28) = Uw := ⟨_, rfl⟩
  obtain ⟨A_y, b_y, s_y⟩ := boxed hU1_y
  rw [hU1_y]
  replace A_c := (b_y.block _ (Array.getElem?_eq_some_iff.1 A_c).1).trans A_c
  replace A_s := (b_y.block _ (Array.getElem?_eq_some_iff.1 A_s).1).trans A_s
  replace A_o := (b_y.block _ (Array.getElem?_eq_some_iff.1 A_o).1).trans A_o
  replace A_x := (b_y.block _ (Array.getElem?_eq_some_iff.1 A_x).1).trans A_x
  replace A_v := (b_y.block _ (Array.getElem?_eq_some_iff.1 A_v).1).trans A_v
  obtain ⟨blk_y, hb_y⟩ : ∃ b, U1_v.heap.size = b := ⟨_, rfl⟩
  rw [hb_y] at A_y
  have hp_y : blk_v + 1 = blk_y := by omega
  try rw [hp_y]
  obtain ⟨U1_u, hU1_u⟩ : ∃ Uw, U1_y.alloc (.cells #[.int .i64 0, .int .i64 0, .int .i64 0, .int .i64 0, .int .i64 0, .int .i64 0] 35) = Uw := ⟨_, rfl⟩
  obtain ⟨A_u, b_u, s_u⟩ := boxed hU1_u
  rw [hU1_u]
  replace A_c := (b_u.block _ (Array.getElem?_eq_some_iff.1 A_c).1).trans A_c
  replace A_s := (b_u.block _ (Array.getElem?_eq_some_iff.1 A_s).1).trans A_s
  replace A_o := (b_u.block _ (Array.getElem?_eq_some_iff.1 A_o).1).trans A_o
  replace A_x := (b_u.block _ (Array.getElem?_eq_some_iff.1 A_x).1).trans A_x
  replace A_v := (b_u.block _ (Array.getElem?_eq_some_iff.1 A_v).1).trans A_v
  replace A_y := (b_u.block _ (Array.getElem?_eq_some_iff.1 A_y).1).trans A_y
  obtain ⟨blk_u, hb_u⟩ : ∃ b, U1_y.heap.size = b := ⟨_, rfl⟩
  rw [hb_u] at A_u
  have hp_u : blk_y + 1 = blk_u := by omega
  try rw [hp_u]
  have B1 : Below w.heap.size w U1_u := (((((B0.trans (g.h.mono B0.size)).trans (b_x.mono (B0.trans (g.h.mono B0.size)).size)).trans (b_v.mono ((B0.trans (g.h.mono B0.size)).trans (b_x.mono (B0.trans (g.h.mono B0.size)).size)).size)).trans (b_y.mono (((B0.trans (g.h.mono B0.size)).trans (b_x.mono (B0.trans (g.h.mono B0.size)).size)).trans (b_v.mono ((B0.trans (g.h.mono B0.size)).trans (b_x.mono (B0.trans (g.h.mono B0.size)).size)).size)).size)).trans (b_u.mono ((((B0.trans (g.h.mono B0.size)).trans (b_x.mono (B0.trans (g.h.mono B0.size)).size)).trans (b_v.mono ((B0.trans (g.h.mono B0.size)).trans (b_x.mono (B0.trans (g.h.mono B0.size)).size)).size)).trans (b_y.mono (((B0.trans (g.h.mono B0.size)).trans (b_x.mono (B0.trans (g.h.mono B0.size)).size)).trans (b_v.mono ((B0.trans (g.h.mono B0.size)).trans (b_x.mono (B0.trans (g.h.mono B0.size)).size)).size)).size)).size))
  have le_x : w.heap.size ≤ blk_x := by omega
  have le_v : w.heap.size ≤ blk_v := by omega
  have le_y : w.heap.size ≤ blk_y := by omega
  have le_u : w.heap.size ≤ blk_u := by omega
  have z1_c := (Array.getElem?_eq_some_iff.1 A_c).1
  have z1_s := (Array.getElem?_eq_some_iff.1 A_s).1
  have z1_o := (Array.getElem?_eq_some_iff.1 A_o).1
  have z1_x := (Array.getElem?_eq_some_iff.1 A_x).1
  have z1_v := (Array.getElem?_eq_some_iff.1 A_v).1
  have z1_y := (Array.getElem?_eq_some_iff.1 A_y).1
  have z1_u := (Array.getElem?_eq_some_iff.1 A_u).1
  have ne_c_x : (w.heap.size : Nat) ≠ blk_x := by omega
  have ne_x_c : (blk_x : Nat) ≠ w.heap.size := by omega
  have ne_s_x : (W1.heap.size : Nat) ≠ blk_x := by omega
  have ne_x_s : (blk_x : Nat) ≠ W1.heap.size := by omega
  have ne_o_x : (W2.heap.size : Nat) ≠ blk_x := by omega
  have ne_x_o : (blk_x : Nat) ≠ W2.heap.size := by omega
  have ne_x_v : (blk_x : Nat) ≠ blk_v := by omega
  have ne_x_y : (blk_x : Nat) ≠ blk_y := by omega
  have ne_x_u : (blk_x : Nat) ≠ blk_u := by omega
  have ne_c_v : (w.heap.size : Nat) ≠ blk_v := by omega
  have ne_v_c : (blk_v : Nat) ≠ w.heap.size := by omega
  have ne_s_v : (W1.heap.size : Nat) ≠ blk_v := by omega
  have ne_v_s : (blk_v : Nat) ≠ W1.heap.size := by omega
  have ne_o_v : (W2.heap.size : Nat) ≠ blk_v := by omega
  have ne_v_o : (blk_v : Nat) ≠ W2.heap.size := by omega
  have ne_v_x : (blk_v : Nat) ≠ blk_x := by omega
  have ne_v_y : (blk_v : Nat) ≠ blk_y := by omega
  have ne_v_u : (blk_v : Nat) ≠ blk_u := by omega
  have ne_c_y : (w.heap.size : Nat) ≠ blk_y := by omega
  have ne_y_c : (blk_y : Nat) ≠ w.heap.size := by omega
  have ne_s_y : (W1.heap.size : Nat) ≠ blk_y := by omega
  have ne_y_s : (blk_y : Nat) ≠ W1.heap.size := by omega
  have ne_o_y : (W2.heap.size : Nat) ≠ blk_y := by omega
  have ne_y_o : (blk_y : Nat) ≠ W2.heap.size := by omega
  have ne_y_x : (blk_y : Nat) ≠ blk_x := by omega
  have ne_y_v : (blk_y : Nat) ≠ blk_v := by omega
  have ne_y_u : (blk_y : Nat) ≠ blk_u := by omega
  have ne_c_u : (w.heap.size : Nat) ≠ blk_u := by omega
  have ne_u_c : (blk_u : Nat) ≠ w.heap.size := by omega
  have ne_s_u : (W1.heap.size : Nat) ≠ blk_u := by omega
  have ne_u_s : (blk_u : Nat) ≠ W1.heap.size := by omega
  have ne_o_u : (W2.heap.size : Nat) ≠ blk_u := by omega
  have ne_u_o : (blk_u : Nat) ≠ W2.heap.size := by omega
  have ne_u_x : (blk_u : Nat) ≠ blk_x := by omega
  have ne_u_v : (blk_u : Nat) ≠ blk_v := by omega
  have ne_u_y : (blk_u : Nat) ≠ blk_y := by omega
  clear hb_x b_x s_x hU1_x hb_v b_v s_v hU1_v hb_y b_y s_y hU1_y hb_u b_u s_u hU1_u hp_v hp_y hp_u
  obtain ⟨q1_c_0, q1_c_1, q1_c_2, q1_c_3, q1_c_4, q1_c_5, q1_c_6, q1_c_7, q1_c_8, q1_c_9, q1_c_10⟩ := rc11 A_c
  have R1_c := Lib.hid A_c
  clear A_c
  have R1_s := Lib.hid A_s
  clear A_s
  have R1_o := Lib.hid A_o
  clear A_o
  have R1_x := Lib.hid A_x
  clear A_x
  have R1_v := Lib.hid A_v
  clear A_v
  have R1_y := Lib.hid A_y
  clear A_y
  have R1_u := Lib.hid A_u
  clear A_u
  have hgw1 := grow_cell U1_u
  go_loopw [12] (fun iv wr => ∃ (k : Nat) (ys : St) (qs : Out), k ≤ 64 ∧ iv = .int .i64 k ∧ Hid (k = 0 ∨ (ys = foldS (zAt c s o) (k - 1) ∧ qs = foldQ (gAt c s o) (k - 1))) ∧ Hid (wr.heap[w.heap.size]? = some (.cells #[.int .i64 c.vlo, .int .i64 c.vhi, .int .i64 c.least, .int .i64 c.most, .int .i64 c.f0, .int .i64 c.f1, .int .i64 c.h0, .int .i64 c.h1, .int .i64 c.rock, .int .i64 c.plo, .int .i64 c.phi] 26 (0, 0)) ∧ wr.heap[W1.heap.size]? = some (.cells #[.int .i64 s.glo, .int .i64 s.ghi, .int .i64 s.ylo, .int .i64 s.yhi, .int .i64 s.tlo, .int .i64 s.thi, .int .i64 s.wlo, .int .i64 s.whi] 28 (0, 0)) ∧ wr.heap[W2.heap.size]? = some (.cells #[.int .i64 o.kind, .int .i64 o.lg, .int .i64 o.ly, .int .i64 o.lt, .int .i64 o.lw, .int .i64 o.moles, .int .i64 o.slo, .int .i64 o.shi, .int .i64 o.wlo, .int .i64 o.whi] 33 (0, 0)) ∧ wr.heap[blk_x]? = some (.cells #[.int .i64 nx.glo, .int .i64 nx.ghi, .int .i64 nx.ylo, .int .i64 nx.yhi, .int .i64 nx.tlo, .int .i64 nx.thi, .int .i64 nx.wlo, .int .i64 nx.whi] 28 (0, 0)) ∧ wr.heap[blk_v]? = some (.cells #[.int .i64 q.glo, .int .i64 q.ghi, .int .i64 q.ylo, .int .i64 q.yhi, .int .i64 q.wlo, .int .i64 q.whi] 35 (0, 0)) ∧ wr.heap[blk_y]? = some (.cells #[.int .i64 ys.glo, .int .i64 ys.ghi, .int .i64 ys.ylo, .int .i64 ys.yhi, .int .i64 ys.tlo, .int .i64 ys.thi, .int .i64 ys.wlo, .int .i64 ys.whi] 28 (0, 0)) ∧ wr.heap[blk_u]? = some (.cells #[.int .i64 qs.glo, .int .i64 qs.ghi, .int .i64 qs.ylo, .int .i64 qs.yhi, .int .i64 qs.wlo, .int .i64 qs.whi] 35 (0, 0)) ∧ Below w.heap.size w wr)) (fun iv _ => 64 - (intOf iv).toNat)
  case atStart => exact ⟨0, ⟨0, 0, 0, 0, 0, 0, 0, 0⟩, ⟨0, 0, 0, 0, 0, 0⟩, by omega, rfl, Lib.hid (.inl rfl), (Lib.hid ⟨R1_c.out, R1_s.out, R1_o.out, R1_x.out, R1_v.out, R1_y.out, R1_u.out, B1⟩)⟩
  case round =>
    clear q1_c_0 q1_c_1 q1_c_2 q1_c_3 q1_c_4 q1_c_5 q1_c_6 q1_c_7 q1_c_8 q1_c_9 q1_c_10
    clear hgw1
    obtain ⟨k, ys, qs, hk64, rfl, hI, hrows⟩ := hrel
    have hgw1 := grow_cell U1_u
    obtain ⟨A_c, A_s, A_o, A_x, A_v, A_y, A_u, B2⟩ := hrows.out
    have z2_c := (Array.getElem?_eq_some_iff.1 A_c).1
    have z2_s := (Array.getElem?_eq_some_iff.1 A_s).1
    have z2_o := (Array.getElem?_eq_some_iff.1 A_o).1
    have z2_x := (Array.getElem?_eq_some_iff.1 A_x).1
    have z2_v := (Array.getElem?_eq_some_iff.1 A_v).1
    have z2_y := (Array.getElem?_eq_some_iff.1 A_y).1
    have z2_u := (Array.getElem?_eq_some_iff.1 A_u).1
    obtain ⟨q2_c_0, q2_c_1, q2_c_2, q2_c_3, q2_c_4, q2_c_5, q2_c_6, q2_c_7, q2_c_8, q2_c_9, q2_c_10⟩ := rc11 A_c
    have R2_c := Lib.hid A_c
    clear A_c
    obtain ⟨q2_s_0, q2_s_1, q2_s_2, q2_s_3, q2_s_4, q2_s_5, q2_s_6, q2_s_7⟩ := rc8 A_s
    have R2_s := Lib.hid A_s
    clear A_s
    obtain ⟨q2_o_0, q2_o_1, q2_o_2, q2_o_3, q2_o_4, q2_o_5, q2_o_6, q2_o_7, q2_o_8, q2_o_9⟩ := rc10 A_o
    have R2_o := Lib.hid A_o
    clear A_o
    obtain ⟨q2_x_0, q2_x_1, q2_x_2, q2_x_3, q2_x_4, q2_x_5, q2_x_6, q2_x_7⟩ := rc8 A_x
    have R2_x := Lib.hid A_x
    clear A_x
    obtain ⟨q2_v_0, q2_v_1, q2_v_2, q2_v_3, q2_v_4, q2_v_5⟩ := rc6 A_v
    have R2_v := Lib.hid A_v
    clear A_v
    obtain ⟨q2_y_0, q2_y_1, q2_y_2, q2_y_3, q2_y_4, q2_y_5, q2_y_6, q2_y_7⟩ := rc8 A_y
    have R2_y := Lib.hid A_y
    clear A_y
    obtain ⟨q2_u_0, q2_u_1, q2_u_2, q2_u_3, q2_u_4, q2_u_5⟩ := rc6 A_u
    have R2_u := Lib.hid A_u
    clear A_u
    have hgw2 := grow_cell wr
    by_cases hlt : k < 64
    · have hki : (k : Int) < 64 := by omega
      obtain ⟨e1, he1⟩ : ∃ e, endN s.glo s.ghi k = e := ⟨_, rfl⟩
      obtain ⟨e2, he2⟩ : ∃ e, endN s.ylo s.yhi (k / 2) = e := ⟨_, rfl⟩
      obtain ⟨e3, he3⟩ : ∃ e, endN s.tlo s.thi (k / 4) = e := ⟨_, rfl⟩
      obtain ⟨e4, he4⟩ : ∃ e, endN s.wlo s.whi (k / 8) = e := ⟨_, rfl⟩
      obtain ⟨e5, he5⟩ : ∃ e, endN o.slo o.shi (k / 16) = e := ⟨_, rfl⟩
      obtain ⟨e6, he6⟩ : ∃ e, endN o.wlo o.whi (k / 32) = e := ⟨_, rfl⟩
      have ht2 : (k : Int).tdiv 2 = ((k / 2 : Nat) : Int) := quoT k 2
      have hv2 : (k : Int) / 2 = ((k / 2 : Nat) : Int) := quoE k 2
      have hw2 := quoW k 2 hk64
      have hq2 : IntKind.i64.wrap ((k : Int).tdiv 2) = ((k / 2 : Nat) : Int) := quoN k 2 hk64 (by decide)
      have ht4 : (k : Int).tdiv 4 = ((k / 4 : Nat) : Int) := quoT k 4
      have hv4 : (k : Int) / 4 = ((k / 4 : Nat) : Int) := quoE k 4
      have hw4 := quoW k 4 hk64
      have hq4 : IntKind.i64.wrap ((k : Int).tdiv 4) = ((k / 4 : Nat) : Int) := quoN k 4 hk64 (by decide)
      have ht8 : (k : Int).tdiv 8 = ((k / 8 : Nat) : Int) := quoT k 8
      have hv8 : (k : Int) / 8 = ((k / 8 : Nat) : Int) := quoE k 8
      have hw8 := quoW k 8 hk64
      have hq8 : IntKind.i64.wrap ((k : Int).tdiv 8) = ((k / 8 : Nat) : Int) := quoN k 8 hk64 (by decide)
      have ht16 : (k : Int).tdiv 16 = ((k / 16 : Nat) : Int) := quoT k 16
      have hv16 : (k : Int) / 16 = ((k / 16 : Nat) : Int) := quoE k 16
      have hw16 := quoW k 16 hk64
      have hq16 : IntKind.i64.wrap ((k : Int).tdiv 16) = ((k / 16 : Nat) : Int) := quoN k 16 hk64 (by decide)
      have ht32 : (k : Int).tdiv 32 = ((k / 32 : Nat) : Int) := quoT k 32
      have hv32 : (k : Int) / 32 = ((k / 32 : Nat) : Int) := quoE k 32
      have hw32 := quoW k 32 hk64
      have hq32 : IntKind.i64.wrap ((k : Int).tdiv 32) = ((k / 32 : Nat) : Int) := quoN k 32 hk64 (by decide)
      have kE1 := Lib.hid (fun w => lawEnd s.glo s.ghi k w he1); have kE2 := Lib.hid (fun w => lawEnd s.ylo s.yhi (k / 2) w he2); have kE3 := Lib.hid (fun w => lawEnd s.tlo s.thi (k / 4) w he3); have kE4 := Lib.hid (fun w => lawEnd s.wlo s.whi (k / 8) w he4); have kE5 := Lib.hid (fun w => lawEnd o.slo o.shi (k / 16) w he5); have kE6 := Lib.hid (fun w => lawEnd o.wlo o.whi (k / 32) w he6)
      generalize hd2 : k / 2 = d2 at *
      generalize hd4 : k / 4 = d4 at *
      generalize hd8 : k / 8 = d8 at *
      generalize hd16 : k / 16 = d16 at *
      generalize hd32 : k / 32 = d32 at *
      have hcp : ptV (cornP s k) = .agg #[.int .i64 e1, .int .i64 e2, .int .i64 e3, .int .i64 e4] := by unfold cornP; rw [hd2, hd4, hd8, he1, he2, he3, he4]
      have hcu : cornU o k = e5 := by unfold cornU; rw [hd16]; exact he5
      have hcv : cornV o k = e6 := by unfold cornV; rw [hd32]; exact he6
      have kP := fun (lv av bv : Value) (w1 : World) (hl : OpsAt w1 lv [o]) (h1 : IntsAt w1 av [cornU o k]) (h2 : IntsAt w1 bv [cornV o k]) => kPl.out k lv av bv w1 hl h1 h2
      rw [hcu, hcv, hcp] at kP
      clear hcu hcv hcp he1 he2 he3 he4 he5 he6 hd2 hd4 hd8 hd16 hd32
      obtain ⟨zk, hzk⟩ : ∃ z, zAt c s o k = z := ⟨_, rfl⟩
      obtain ⟨gk, hgk⟩ : ∃ z, gAt c s o k = z := ⟨_, rfl⟩
      rw [hzk, hgk] at kP
      replace kP := Lib.hid kP
      replace hzk := Lib.hid hzk; replace hgk := Lib.hid hgk
      go_wp2_with (fail)
      clear q2_c_0 q2_c_1 q2_c_2 q2_c_3 q2_c_4 q2_c_5 q2_c_6 q2_c_7 q2_c_8 q2_c_9 q2_c_10 q2_s_0 q2_s_1 q2_s_2 q2_s_3 q2_s_4 q2_s_5 q2_s_6 q2_s_7 q2_o_0 q2_o_1 q2_o_2 q2_o_3 q2_o_4 q2_o_5 q2_o_6 q2_o_7 q2_o_8 q2_o_9 q2_x_0 q2_x_1 q2_x_2 q2_x_3 q2_x_4 q2_x_5 q2_x_6 q2_x_7 q2_v_0 q2_v_1 q2_v_2 q2_v_3 q2_v_4 q2_v_5 q2_y_0 q2_y_1 q2_y_2 q2_y_3 q2_y_4 q2_y_5 q2_y_6 q2_y_7 q2_u_0 q2_u_1 q2_u_2 q2_u_3 q2_u_4 q2_u_5
      clear hgw2
      refine wp_region_noPanic ?_
      refine wp_region_locN 21 180 [] [50, 51, 52, 53, 54, 55, 56, 57, 58, 59, 60, 61, 62, 63, 64, 65, 66, 67, 68, 69, 13] [[], [0], [], [1, 2], [], [4], [], [6], [5, 7], [], [9], [], [11], [10, 12], [], [14], [], [16], [15, 17], [3, 8, 13, 18], []] [IsV (.pointer (some ⟨W1.heap.size, 0, none⟩)), IsV (.agg #[.int .i64 s.glo, .int .i64 s.ghi]), IsV (.int .i64 k), IsV (.int .i64 e1), IsV (.pointer (some ⟨W1.heap.size, 2, none⟩)), IsV (.agg #[.int .i64 s.ylo, .int .i64 s.yhi]), IsV (.int .i64 k), IsV (.int .i64 d2), IsV (.int .i64 e2), IsV (.pointer (some ⟨W1.heap.size, 4, none⟩)), IsV (.agg #[.int .i64 s.tlo, .int .i64 s.thi]), IsV (.int .i64 k), IsV (.int .i64 d4), IsV (.int .i64 e3), IsV (.pointer (some ⟨W1.heap.size, 6, none⟩)), IsV (.agg #[.int .i64 s.wlo, .int .i64 s.whi]), IsV (.int .i64 k), IsV (.int .i64 d8), IsV (.int .i64 e4), IsV (.agg #[.int .i64 e1, .int .i64 e2, .int .i64 e3, .int .i64 e4]), NewAt wr.heap.size #[.int .i64 0, .int .i64 0, .int .i64 0, .int .i64 0] 31] [20] (by kernel_rfl) (by kernel_rfl) (by kernel_rfl) (by kernel_rfl) (by kernel_rfl) (by kernel_rfl) rfl (fun _ _ _ _ h => h) ?_ ?_ ?_ ?_ ?_
      · exact List.forall_mem_cons.2 ⟨pers_v _, List.forall_mem_cons.2 ⟨pers_v _, List.forall_mem_cons.2 ⟨pers_v _, List.forall_mem_cons.2 ⟨pers_v _, List.forall_mem_cons.2 ⟨pers_v _, List.forall_mem_cons.2 ⟨pers_v _, List.forall_mem_cons.2 ⟨pers_v _, List.forall_mem_cons.2 ⟨pers_v _, List.forall_mem_cons.2 ⟨pers_v _, List.forall_mem_cons.2 ⟨pers_v _, List.forall_mem_cons.2 ⟨pers_v _, List.forall_mem_cons.2 ⟨pers_v _, List.forall_mem_cons.2 ⟨pers_v _, List.forall_mem_cons.2 ⟨pers_v _, List.forall_mem_cons.2 ⟨pers_v _, List.forall_mem_cons.2 ⟨pers_v _, List.forall_mem_cons.2 ⟨pers_v _, List.forall_mem_cons.2 ⟨pers_v _, List.forall_mem_cons.2 ⟨pers_v _, List.forall_mem_cons.2 ⟨pers_v _, List.forall_mem_cons.2 ⟨pers_new _ _ _, fun f h => by cases h⟩⟩⟩⟩⟩⟩⟩⟩⟩⟩⟩⟩⟩⟩⟩⟩⟩⟩⟩⟩⟩
      · intro k hk u x hu
        obtain rfl : k = 20 := by simpa using hk
        exact NewAt.isNew (show NewAt _ _ _ u x from hu)
      · refine ⟨?_, ?_, ?_, ?_, ?_, ?_, ?_, ?_, ?_, ?_, ?_, ?_, ?_, ?_, ?_, ?_, ?_, ?_, ?_, ?_, ?_, trivial⟩
        · intro vals x hb hf
          simp only [fillS, List.getD_cons_succ, List.getD_cons_zero, Act.put, List.setIfInBounds_toArray, List.set_cons_zero, List.set_cons_succ]
          skip
          go_wp2
          exact ⟨rfl, rfl, Below.refl _ _, _, rfl, rfl, (fun h => absurd h (by decide))⟩
        · intro vals x hb hf
          simp only [fillS, List.getD_cons_succ, List.getD_cons_zero, Act.put, List.setIfInBounds_toArray, List.set_cons_zero, List.set_cons_succ]
          have h0 : vals 0 = .pointer (some ⟨W1.heap.size, 0, none⟩) := hf.1
          rw [h0]
          have ar := (hb.block _ z2_s).trans R2_s.out
          obtain ⟨y0, y1, y2, y3, y4, y5, y6, y7⟩ := rc8 ar
          clear ar
          go_wp2
          exact ⟨rfl, rfl, Below.refl _ _, _, rfl, rfl, (fun h => absurd h (by decide))⟩
        · intro vals x hb hf
          simp only [fillS, List.getD_cons_succ, List.getD_cons_zero, Act.put, List.setIfInBounds_toArray, List.set_cons_zero, List.set_cons_succ]
          skip
          go_wp2
          exact ⟨rfl, rfl, Below.refl _ _, _, rfl, rfl, (fun h => absurd h (by decide))⟩
        · intro vals x hb hf
          simp only [fillS, List.getD_cons_succ, List.getD_cons_zero, Act.put, List.setIfInBounds_toArray, List.set_cons_zero, List.set_cons_succ]
          have h1 : vals 1 = .agg #[.int .i64 s.glo, .int .i64 s.ghi] := hf.1
          rw [h1]
          have h2 : vals 2 = .int .i64 k := hf.2.1
          rw [h2]
          have hbx : Below w.heap.size w x := B2.trans (hb.mono B2.size)
          go_wp2_with (go_at_call 22; (with_reducible refine Calls.mono (kE1.out _) ?_); rintro e y ⟨rfl, hB⟩)
          exact ⟨rfl, rfl, hB, _, rfl, rfl, (fun h => absurd h (by decide))⟩
        · intro vals x hb hf
          simp only [fillS, List.getD_cons_succ, List.getD_cons_zero, Act.put, List.setIfInBounds_toArray, List.set_cons_zero, List.set_cons_succ]
          skip
          go_wp2
          exact ⟨rfl, rfl, Below.refl _ _, _, rfl, rfl, (fun h => absurd h (by decide))⟩
        · intro vals x hb hf
          simp only [fillS, List.getD_cons_succ, List.getD_cons_zero, Act.put, List.setIfInBounds_toArray, List.set_cons_zero, List.set_cons_succ]
          have h4 : vals 4 = .pointer (some ⟨W1.heap.size, 2, none⟩) := hf.1
          rw [h4]
          have ar := (hb.block _ z2_s).trans R2_s.out
          obtain ⟨y0, y1, y2, y3, y4, y5, y6, y7⟩ := rc8 ar
          clear ar
          go_wp2
          exact ⟨rfl, rfl, Below.refl _ _, _, rfl, rfl, (fun h => absurd h (by decide))⟩
        · intro vals x hb hf
          simp only [fillS, List.getD_cons_succ, List.getD_cons_zero, Act.put, List.setIfInBounds_toArray, List.set_cons_zero, List.set_cons_succ]
          skip
          go_wp2
          exact ⟨rfl, rfl, Below.refl _ _, _, rfl, rfl, (fun h => absurd h (by decide))⟩
        · intro vals x hb hf
          simp only [fillS, List.getD_cons_succ, List.getD_cons_zero, Act.put, List.setIfInBounds_toArray, List.set_cons_zero, List.set_cons_succ]
          have h6 : vals 6 = .int .i64 k := hf.1
          rw [h6]
          skip
          go_wp2
          exact ⟨rfl, rfl, Below.refl _ _, _, rfl, rfl, (fun h => absurd h (by decide))⟩
        · intro vals x hb hf
          simp only [fillS, List.getD_cons_succ, List.getD_cons_zero, Act.put, List.setIfInBounds_toArray, List.set_cons_zero, List.set_cons_succ]
          have h5 : vals 5 = .agg #[.int .i64 s.ylo, .int .i64 s.yhi] := hf.1
          rw [h5]
          have h7 : vals 7 = .int .i64 d2 := hf.2.1
          rw [h7]
          have hbx : Below w.heap.size w x := B2.trans (hb.mono B2.size)
          go_wp2_with (go_at_call 22; (with_reducible refine Calls.mono (kE2.out _) ?_); rintro e y ⟨rfl, hB⟩)
          exact ⟨rfl, rfl, hB, _, rfl, rfl, (fun h => absurd h (by decide))⟩
        · intro vals x hb hf
          simp only [fillS, List.getD_cons_succ, List.getD_cons_zero, Act.put, List.setIfInBounds_toArray, List.set_cons_zero, List.set_cons_succ]
          skip
          go_wp2
          exact ⟨rfl, rfl, Below.refl _ _, _, rfl, rfl, (fun h => absurd h (by decide))⟩
        · intro vals x hb hf
          simp only [fillS, List.getD_cons_succ, List.getD_cons_zero, Act.put, List.setIfInBounds_toArray, List.set_cons_zero, List.set_cons_succ]
          have h9 : vals 9 = .pointer (some ⟨W1.heap.size, 4, none⟩) := hf.1
          rw [h9]
          have ar := (hb.block _ z2_s).trans R2_s.out
          obtain ⟨y0, y1, y2, y3, y4, y5, y6, y7⟩ := rc8 ar
          clear ar
          go_wp2
          exact ⟨rfl, rfl, Below.refl _ _, _, rfl, rfl, (fun h => absurd h (by decide))⟩
        · intro vals x hb hf
          simp only [fillS, List.getD_cons_succ, List.getD_cons_zero, Act.put, List.setIfInBounds_toArray, List.set_cons_zero, List.set_cons_succ]
          skip
          go_wp2
          exact ⟨rfl, rfl, Below.refl _ _, _, rfl, rfl, (fun h => absurd h (by decide))⟩
        · intro vals x hb hf
          simp only [fillS, List.getD_cons_succ, List.getD_cons_zero, Act.put, List.setIfInBounds_toArray, List.set_cons_zero, List.set_cons_succ]
          have h11 : vals 11 = .int .i64 k := hf.1
          rw [h11]
          skip
          go_wp2
          exact ⟨rfl, rfl, Below.refl _ _, _, rfl, rfl, (fun h => absurd h (by decide))⟩
        · intro vals x hb hf
          simp only [fillS, List.getD_cons_succ, List.getD_cons_zero, Act.put, List.setIfInBounds_toArray, List.set_cons_zero, List.set_cons_succ]
          have h10 : vals 10 = .agg #[.int .i64 s.tlo, .int .i64 s.thi] := hf.1
          rw [h10]
          have h12 : vals 12 = .int .i64 d4 := hf.2.1
          rw [h12]
          have hbx : Below w.heap.size w x := B2.trans (hb.mono B2.size)
          go_wp2_with (go_at_call 22; (with_reducible refine Calls.mono (kE3.out _) ?_); rintro e y ⟨rfl, hB⟩)
          exact ⟨rfl, rfl, hB, _, rfl, rfl, (fun h => absurd h (by decide))⟩
        · intro vals x hb hf
          simp only [fillS, List.getD_cons_succ, List.getD_cons_zero, Act.put, List.setIfInBounds_toArray, List.set_cons_zero, List.set_cons_succ]
          skip
          go_wp2
          exact ⟨rfl, rfl, Below.refl _ _, _, rfl, rfl, (fun h => absurd h (by decide))⟩
        · intro vals x hb hf
          simp only [fillS, List.getD_cons_succ, List.getD_cons_zero, Act.put, List.setIfInBounds_toArray, List.set_cons_zero, List.set_cons_succ]
          have h14 : vals 14 = .pointer (some ⟨W1.heap.size, 6, none⟩) := hf.1
          rw [h14]
          have ar := (hb.block _ z2_s).trans R2_s.out
          obtain ⟨y0, y1, y2, y3, y4, y5, y6, y7⟩ := rc8 ar
          clear ar
          go_wp2
          exact ⟨rfl, rfl, Below.refl _ _, _, rfl, rfl, (fun h => absurd h (by decide))⟩
        · intro vals x hb hf
          simp only [fillS, List.getD_cons_succ, List.getD_cons_zero, Act.put, List.setIfInBounds_toArray, List.set_cons_zero, List.set_cons_succ]
          skip
          go_wp2
          exact ⟨rfl, rfl, Below.refl _ _, _, rfl, rfl, (fun h => absurd h (by decide))⟩
        · intro vals x hb hf
          simp only [fillS, List.getD_cons_succ, List.getD_cons_zero, Act.put, List.setIfInBounds_toArray, List.set_cons_zero, List.set_cons_succ]
          have h16 : vals 16 = .int .i64 k := hf.1
          rw [h16]
          skip
          go_wp2
          exact ⟨rfl, rfl, Below.refl _ _, _, rfl, rfl, (fun h => absurd h (by decide))⟩
        · intro vals x hb hf
          simp only [fillS, List.getD_cons_succ, List.getD_cons_zero, Act.put, List.setIfInBounds_toArray, List.set_cons_zero, List.set_cons_succ]
          have h15 : vals 15 = .agg #[.int .i64 s.wlo, .int .i64 s.whi] := hf.1
          rw [h15]
          have h17 : vals 17 = .int .i64 d8 := hf.2.1
          rw [h17]
          have hbx : Below w.heap.size w x := B2.trans (hb.mono B2.size)
          go_wp2_with (go_at_call 22; (with_reducible refine Calls.mono (kE4.out _) ?_); rintro e y ⟨rfl, hB⟩)
          exact ⟨rfl, rfl, hB, _, rfl, rfl, (fun h => absurd h (by decide))⟩
        · intro vals x hb hf
          simp only [fillS, List.getD_cons_succ, List.getD_cons_zero, Act.put, List.setIfInBounds_toArray, List.set_cons_zero, List.set_cons_succ]
          have h3 : vals 3 = .int .i64 e1 := hf.1
          rw [h3]
          have h8 : vals 8 = .int .i64 e2 := hf.2.1
          rw [h8]
          have h13 : vals 13 = .int .i64 e3 := hf.2.2.1
          rw [h13]
          have h18 : vals 18 = .int .i64 e4 := hf.2.2.2.1
          rw [h18]
          skip
          go_wp2
          exact ⟨rfl, rfl, Below.refl _ _, _, rfl, rfl, (fun h => absurd h (by decide))⟩
        · intro vals x hb hf
          simp only [fillS, List.getD_cons_succ, List.getD_cons_zero, Act.put, List.setIfInBounds_toArray, List.set_cons_zero, List.set_cons_succ]
          go_wp2
          exact ⟨rfl, rfl, (Below.refl _ _).alloc (Nat.le_refl _) _, _, rfl, ⟨_, rfl, hb.size, World.alloc_heap_new _ _⟩, fun _ => rfl⟩
      · intro j hj; cases hj
      · intro vals x hb hf hp
        have hrange : List.range 21 = [0, 1, 2, 3, 4, 5, 6, 7, 8, 9, 10, 11, 12, 13, 14, 15, 16, 17, 18, 19, 20] := by rfl
        rw [hrange]
        simp only [fillS, List.getD_cons_succ, List.getD_cons_zero, Act.put, List.setIfInBounds_toArray, List.set_cons_zero, List.set_cons_succ]
        have h0 : vals 0 = .pointer (some ⟨W1.heap.size, 0, none⟩) := hf 0 (by omega)
        have h1 : vals 1 = .agg #[.int .i64 s.glo, .int .i64 s.ghi] := hf 1 (by omega)
        have h2 : vals 2 = .int .i64 k := hf 2 (by omega)
        have h3 : vals 3 = .int .i64 e1 := hf 3 (by omega)
        have h4 : vals 4 = .pointer (some ⟨W1.heap.size, 2, none⟩) := hf 4 (by omega)
        have h5 : vals 5 = .agg #[.int .i64 s.ylo, .int .i64 s.yhi] := hf 5 (by omega)
        have h6 : vals 6 = .int .i64 k := hf 6 (by omega)
        have h7 : vals 7 = .int .i64 d2 := hf 7 (by omega)
        have h8 : vals 8 = .int .i64 e2 := hf 8 (by omega)
        have h9 : vals 9 = .pointer (some ⟨W1.heap.size, 4, none⟩) := hf 9 (by omega)
        have h10 : vals 10 = .agg #[.int .i64 s.tlo, .int .i64 s.thi] := hf 10 (by omega)
        have h11 : vals 11 = .int .i64 k := hf 11 (by omega)
        have h12 : vals 12 = .int .i64 d4 := hf 12 (by omega)
        have h13 : vals 13 = .int .i64 e3 := hf 13 (by omega)
        have h14 : vals 14 = .pointer (some ⟨W1.heap.size, 6, none⟩) := hf 14 (by omega)
        have h15 : vals 15 = .agg #[.int .i64 s.wlo, .int .i64 s.whi] := hf 15 (by omega)
        have h16 : vals 16 = .int .i64 k := hf 16 (by omega)
        have h17 : vals 17 = .int .i64 d8 := hf 17 (by omega)
        have h18 : vals 18 = .int .i64 e4 := hf 18 (by omega)
        have h19 : vals 19 = .agg #[.int .i64 e1, .int .i64 e2, .int .i64 e3, .int .i64 e4] := hf 19 (by omega)
        obtain ⟨blk_p, hv_p, l_p, A_p⟩ : NewAt wr.heap.size #[.int .i64 0, .int .i64 0, .int .i64 0, .int .i64 0] 31 (vals 20) x := hf 20 (by omega)
        rw [h0, h1, h2, h3, h4, h5, h6, h7, h8, h9, h10, h11, h12, h13, h14, h15, h16, h17, h18, h19, hv_p]
        clear h0 h1 h2 h3 h4 h5 h6 h7 h8 h9 h10 h11 h12 h13 h14 h15 h16 h17 h18 h19 hv_p hf hp hrange
        have A_c := (hb.block _ z2_c).trans R2_c.out
        have ne_c_p : (w.heap.size : Nat) ≠ blk_p := by have := z2_c; omega
        have ne_p_c := Ne.symm ne_c_p
        replace A_c := Lib.hid A_c
        have A_s := (hb.block _ z2_s).trans R2_s.out
        have ne_s_p : (W1.heap.size : Nat) ≠ blk_p := by have := z2_s; omega
        have ne_p_s := Ne.symm ne_s_p
        replace A_s := Lib.hid A_s
        have A_o := (hb.block _ z2_o).trans R2_o.out
        have ne_o_p : (W2.heap.size : Nat) ≠ blk_p := by have := z2_o; omega
        have ne_p_o := Ne.symm ne_o_p
        replace A_o := Lib.hid A_o
        have A_x := (hb.block _ z2_x).trans R2_x.out
        have ne_x_p : (blk_x : Nat) ≠ blk_p := by have := z2_x; omega
        have ne_p_x := Ne.symm ne_x_p
        replace A_x := Lib.hid A_x
        have A_v := (hb.block _ z2_v).trans R2_v.out
        have ne_v_p : (blk_v : Nat) ≠ blk_p := by have := z2_v; omega
        have ne_p_v := Ne.symm ne_v_p
        replace A_v := Lib.hid A_v
        have A_y := (hb.block _ z2_y).trans R2_y.out
        have ne_y_p : (blk_y : Nat) ≠ blk_p := by have := z2_y; omega
        have ne_p_y := Ne.symm ne_y_p
        replace A_y := Lib.hid A_y
        have A_u := (hb.block _ z2_u).trans R2_u.out
        have ne_u_p : (blk_u : Nat) ≠ blk_p := by have := z2_u; omega
        have ne_p_u := Ne.symm ne_u_p
        replace A_u := Lib.hid A_u
        have B3 : Below w.heap.size w x := B2.trans (hb.mono B2.size)
        have hLw := B2.size
        have le_p : w.heap.size ≤ blk_p := by omega
        obtain ⟨p_p_0, p_p_1, p_p_2, p_p_3⟩ := rc4 A_p
        obtain ⟨g_p_0, g_p_1, g_p_2, g_p_3⟩ := rf4 A_p
        replace A_p := Lib.hid A_p
        go_wp2
        refine NoPanic.normal ?_
        generalize hV3 : World.setCell _ ⟨blk_p, 3, none⟩ _ = M3
        have C_c : M3.heap[w.heap.size]? = some (.cells #[.int .i64 c.vlo, .int .i64 c.vhi, .int .i64 c.least, .int .i64 c.most, .int .i64 c.f0, .int .i64 c.f1, .int .i64 c.h0, .int .i64 c.h1, .int .i64 c.rock, .int .i64 c.plo, .int .i64 c.phi] 26 (0, 0)) := by rw [← hV3]; have h2 := (set_far (n := blk_p) 3 (.int .i64 e4) ne_c_p (set_far (n := blk_p) 2 (.int .i64 e3) ne_c_p (set_far (n := blk_p) 1 (.int .i64 e2) ne_c_p (set_far (n := blk_p) 0 (.int .i64 e1) ne_c_p A_c.out)))); exact h2
        have C_s : M3.heap[W1.heap.size]? = some (.cells #[.int .i64 s.glo, .int .i64 s.ghi, .int .i64 s.ylo, .int .i64 s.yhi, .int .i64 s.tlo, .int .i64 s.thi, .int .i64 s.wlo, .int .i64 s.whi] 28 (0, 0)) := by rw [← hV3]; have h2 := (set_far (n := blk_p) 3 (.int .i64 e4) ne_s_p (set_far (n := blk_p) 2 (.int .i64 e3) ne_s_p (set_far (n := blk_p) 1 (.int .i64 e2) ne_s_p (set_far (n := blk_p) 0 (.int .i64 e1) ne_s_p A_s.out)))); exact h2
        have C_o : M3.heap[W2.heap.size]? = some (.cells #[.int .i64 o.kind, .int .i64 o.lg, .int .i64 o.ly, .int .i64 o.lt, .int .i64 o.lw, .int .i64 o.moles, .int .i64 o.slo, .int .i64 o.shi, .int .i64 o.wlo, .int .i64 o.whi] 33 (0, 0)) := by rw [← hV3]; have h2 := (set_far (n := blk_p) 3 (.int .i64 e4) ne_o_p (set_far (n := blk_p) 2 (.int .i64 e3) ne_o_p (set_far (n := blk_p) 1 (.int .i64 e2) ne_o_p (set_far (n := blk_p) 0 (.int .i64 e1) ne_o_p A_o.out)))); exact h2
        have C_x : M3.heap[blk_x]? = some (.cells #[.int .i64 nx.glo, .int .i64 nx.ghi, .int .i64 nx.ylo, .int .i64 nx.yhi, .int .i64 nx.tlo, .int .i64 nx.thi, .int .i64 nx.wlo, .int .i64 nx.whi] 28 (0, 0)) := by rw [← hV3]; have h2 := (set_far (n := blk_p) 3 (.int .i64 e4) ne_x_p (set_far (n := blk_p) 2 (.int .i64 e3) ne_x_p (set_far (n := blk_p) 1 (.int .i64 e2) ne_x_p (set_far (n := blk_p) 0 (.int .i64 e1) ne_x_p A_x.out)))); exact h2
        have C_v : M3.heap[blk_v]? = some (.cells #[.int .i64 q.glo, .int .i64 q.ghi, .int .i64 q.ylo, .int .i64 q.yhi, .int .i64 q.wlo, .int .i64 q.whi] 35 (0, 0)) := by rw [← hV3]; have h2 := (set_far (n := blk_p) 3 (.int .i64 e4) ne_v_p (set_far (n := blk_p) 2 (.int .i64 e3) ne_v_p (set_far (n := blk_p) 1 (.int .i64 e2) ne_v_p (set_far (n := blk_p) 0 (.int .i64 e1) ne_v_p A_v.out)))); exact h2
        have C_y : M3.heap[blk_y]? = some (.cells #[.int .i64 ys.glo, .int .i64 ys.ghi, .int .i64 ys.ylo, .int .i64 ys.yhi, .int .i64 ys.tlo, .int .i64 ys.thi, .int .i64 ys.wlo, .int .i64 ys.whi] 28 (0, 0)) := by rw [← hV3]; have h2 := (set_far (n := blk_p) 3 (.int .i64 e4) ne_y_p (set_far (n := blk_p) 2 (.int .i64 e3) ne_y_p (set_far (n := blk_p) 1 (.int .i64 e2) ne_y_p (set_far (n := blk_p) 0 (.int .i64 e1) ne_y_p A_y.out)))); exact h2
        have C_u : M3.heap[blk_u]? = some (.cells #[.int .i64 qs.glo, .int .i64 qs.ghi, .int .i64 qs.ylo, .int .i64 qs.yhi, .int .i64 qs.wlo, .int .i64 qs.whi] 35 (0, 0)) := by rw [← hV3]; have h2 := (set_far (n := blk_p) 3 (.int .i64 e4) ne_u_p (set_far (n := blk_p) 2 (.int .i64 e3) ne_u_p (set_far (n := blk_p) 1 (.int .i64 e2) ne_u_p (set_far (n := blk_p) 0 (.int .i64 e1) ne_u_p A_u.out)))); exact h2
        have C_p : M3.heap[blk_p]? = some (.cells #[.int .i64 e1, .int .i64 e2, .int .i64 e3, .int .i64 e4] 31 (0, 0)) := by rw [← hV3]; have h2 := (set_one (set_one (set_one (set_one A_p.out 0 (.int .i64 e1)) 1 (.int .i64 e2)) 2 (.int .i64 e3)) 3 (.int .i64 e4)); simp only [List.setIfInBounds_toArray, List.set_cons_zero, List.set_cons_succ] at h2; exact h2
        replace B3 : Below w.heap.size w M3 := by rw [← hV3]; exact (Below.setCell (p := ⟨blk_p, 3, none⟩) (Below.setCell (p := ⟨blk_p, 2, none⟩) (Below.setCell (p := ⟨blk_p, 1, none⟩) (Below.setCell (p := ⟨blk_p, 0, none⟩) B3 le_p (.int .i64 e1)) le_p (.int .i64 e2)) le_p (.int .i64 e3)) le_p (.int .i64 e4))
        clear hV3 hb hLw l_p p_p_0 g_p_0 p_p_1 g_p_1 p_p_2 g_p_2 p_p_3 g_p_3
        replace A_c := C_c
        clear C_c
        replace A_s := C_s
        clear C_s
        replace A_o := C_o
        clear C_o
        replace A_x := C_x
        clear C_x
        replace A_v := C_v
        clear C_v
        replace A_y := C_y
        clear C_y
        replace A_u := C_u
        clear C_u
        replace A_p := C_p
        clear C_p
        have z3_c := (Array.getElem?_eq_some_iff.1 A_c).1
        have z3_s := (Array.getElem?_eq_some_iff.1 A_s).1
        have z3_o := (Array.getElem?_eq_some_iff.1 A_o).1
        have z3_x := (Array.getElem?_eq_some_iff.1 A_x).1
        have z3_v := (Array.getElem?_eq_some_iff.1 A_v).1
        have z3_y := (Array.getElem?_eq_some_iff.1 A_y).1
        have z3_u := (Array.getElem?_eq_some_iff.1 A_u).1
        have z3_p := (Array.getElem?_eq_some_iff.1 A_p).1
        obtain ⟨q3_c_0, q3_c_1, q3_c_2, q3_c_3, q3_c_4, q3_c_5, q3_c_6, q3_c_7, q3_c_8, q3_c_9, q3_c_10⟩ := rc11 A_c
        have R3_c := Lib.hid A_c
        clear A_c
        have R3_s := Lib.hid A_s
        clear A_s
        obtain ⟨q3_o_0, q3_o_1, q3_o_2, q3_o_3, q3_o_4, q3_o_5, q3_o_6, q3_o_7, q3_o_8, q3_o_9⟩ := rc10 A_o
        have R3_o := Lib.hid A_o
        clear A_o
        have R3_x := Lib.hid A_x
        clear A_x
        have R3_v := Lib.hid A_v
        clear A_v
        have R3_y := Lib.hid A_y
        clear A_y
        have R3_u := Lib.hid A_u
        clear A_u
        obtain ⟨q3_p_0, q3_p_1, q3_p_2, q3_p_3⟩ := rc4 A_p
        have R3_p := Lib.hid A_p
        clear A_p
        have hgw3 := grow_cell M3
        go_wp2_with (fail)
        clear q3_c_0 q3_c_1 q3_c_2 q3_c_3 q3_c_4 q3_c_5 q3_c_6 q3_c_7 q3_c_8 q3_c_9 q3_c_10 q3_o_0 q3_o_1 q3_o_2 q3_o_3 q3_o_4 q3_o_5 q3_o_6 q3_o_7 q3_o_8 q3_o_9 q3_p_0 q3_p_1 q3_p_2 q3_p_3
        clear hgw3
        refine wp_region_noPanic ?_
        refine wp_region_locN 23 180 [19, 20] [71, 72, 73, 74, 75, 76, 77, 78, 79, 80, 81, 82, 83, 84, 85, 86, 87, 70, 88, 89, 90, 14, 15] [[], [], [], [2], [], [4], [], [6], [5, 7], [8], [], [10], [], [12], [11, 13], [14], [0, 1, 3, 9, 15], [16], [17], [17], [17], [], []] [IsV (cavV c), IsV (.agg #[.int .i64 e1, .int .i64 e2, .int .i64 e3, .int .i64 e4]), IsV (opV o), OpsIs [o], IsV (.pointer (some ⟨W2.heap.size, 6, none⟩)), IsV (.agg #[.int .i64 o.slo, .int .i64 o.shi]), IsV (.int .i64 k), IsV (.int .i64 d16), IsV (.int .i64 e5), IntsIs [e5], IsV (.pointer (some ⟨W2.heap.size, 8, none⟩)), IsV (.agg #[.int .i64 o.wlo, .int .i64 o.whi]), IsV (.int .i64 k), IsV (.int .i64 d32), IsV (.int .i64 e6), IntsIs [e6], IsV (.tuple #[ptV zk, .agg #[.int .i64 gk.g, .int .i64 gk.y, .int .i64 0, .int .i64 gk.w], .int .i64 0]), IsV (.tuple #[ptV zk, .agg #[.int .i64 gk.g, .int .i64 gk.y, .int .i64 0, .int .i64 gk.w], .int .i64 0]), IsV (ptV zk), IsV (.agg #[.int .i64 gk.g, .int .i64 gk.y, .int .i64 0, .int .i64 gk.w]), IsV (.int .i64 0), NewAt M3.heap.size #[.int .i64 0, .int .i64 0, .int .i64 0, .int .i64 0] 31, NewAt M3.heap.size #[.int .i64 0, .int .i64 0, .int .i64 0, .int .i64 0] 31] [21, 22] (by kernel_rfl) (by kernel_rfl) (by kernel_rfl) (by kernel_rfl) (by kernel_rfl) (by kernel_rfl) rfl (fun _ _ _ _ h => h) ?_ ?_ ?_ ?_ ?_
        · exact List.forall_mem_cons.2 ⟨pers_v _, List.forall_mem_cons.2 ⟨pers_v _, List.forall_mem_cons.2 ⟨pers_v _, List.forall_mem_cons.2 ⟨pers_ops _, List.forall_mem_cons.2 ⟨pers_v _, List.forall_mem_cons.2 ⟨pers_v _, List.forall_mem_cons.2 ⟨pers_v _, List.forall_mem_cons.2 ⟨pers_v _, List.forall_mem_cons.2 ⟨pers_v _, List.forall_mem_cons.2 ⟨pers_ints _, List.forall_mem_cons.2 ⟨pers_v _, List.forall_mem_cons.2 ⟨pers_v _, List.forall_mem_cons.2 ⟨pers_v _, List.forall_mem_cons.2 ⟨pers_v _, List.forall_mem_cons.2 ⟨pers_v _, List.forall_mem_cons.2 ⟨pers_ints _, List.forall_mem_cons.2 ⟨pers_v _, List.forall_mem_cons.2 ⟨pers_v _, List.forall_mem_cons.2 ⟨pers_v _, List.forall_mem_cons.2 ⟨pers_v _, List.forall_mem_cons.2 ⟨pers_v _, List.forall_mem_cons.2 ⟨pers_new _ _ _, List.forall_mem_cons.2 ⟨pers_new _ _ _, fun f h => by cases h⟩⟩⟩⟩⟩⟩⟩⟩⟩⟩⟩⟩⟩⟩⟩⟩⟩⟩⟩⟩⟩⟩⟩
        · intro k hk u x hu
          rcases List.mem_cons.1 hk with rfl | hk
          · exact NewAt.isNew (show NewAt _ _ _ u x from hu)
          · obtain rfl : k = 22 := by simpa using hk
            exact NewAt.isNew (show NewAt _ _ _ u x from hu)
        · refine ⟨?_, ?_, ?_, ?_, ?_, ?_, ?_, ?_, ?_, ?_, ?_, ?_, ?_, ?_, ?_, ?_, ?_, ?_, ?_, ?_, ?_, ?_, ?_, trivial⟩
          · intro vals x hb hf
            simp only [fillS, List.getD_cons_succ, List.getD_cons_zero, Act.put, List.setIfInBounds_toArray, List.set_cons_zero, List.set_cons_succ]
            have ar := (hb.block _ z3_c).trans R3_c.out
            obtain ⟨y0, y1, y2, y3, y4, y5, y6, y7, y8, y9, y10⟩ := rc11 ar
            clear ar
            go_wp2
            exact ⟨rfl, rfl, Below.refl _ _, _, rfl, rfl, (fun h => absurd h (by decide))⟩
          · intro vals x hb hf
            simp only [fillS, List.getD_cons_succ, List.getD_cons_zero, Act.put, List.setIfInBounds_toArray, List.set_cons_zero, List.set_cons_succ]
            have ar := (hb.block _ z3_p).trans R3_p.out
            obtain ⟨y0, y1, y2, y3⟩ := rc4 ar
            clear ar
            go_wp2
            exact ⟨rfl, rfl, Below.refl _ _, _, rfl, rfl, (fun h => absurd h (by decide))⟩
          · intro vals x hb hf
            simp only [fillS, List.getD_cons_succ, List.getD_cons_zero, Act.put, List.setIfInBounds_toArray, List.set_cons_zero, List.set_cons_succ]
            have ar := (hb.block _ z3_o).trans R3_o.out
            obtain ⟨y0, y1, y2, y3, y4, y5, y6, y7, y8, y9⟩ := rc10 ar
            clear ar
            go_wp2
            exact ⟨rfl, rfl, Below.refl _ _, _, rfl, rfl, (fun h => absurd h (by decide))⟩
          · intro vals x hb hf
            simp only [fillS, List.getD_cons_succ, List.getD_cons_zero, Act.put, List.setIfInBounds_toArray, List.set_cons_zero, List.set_cons_succ]
            have h2 : vals 2 = opV o := hf.1
            rw [h2]
            go_wp2
            exact ⟨rfl, rfl, (Below.refl _ _).alloc (Nat.le_refl _) _, _, rfl, opsAt1 rfl, (fun h => absurd h (by decide))⟩
          · intro vals x hb hf
            simp only [fillS, List.getD_cons_succ, List.getD_cons_zero, Act.put, List.setIfInBounds_toArray, List.set_cons_zero, List.set_cons_succ]
            skip
            go_wp2
            exact ⟨rfl, rfl, Below.refl _ _, _, rfl, rfl, (fun h => absurd h (by decide))⟩
          · intro vals x hb hf
            simp only [fillS, List.getD_cons_succ, List.getD_cons_zero, Act.put, List.setIfInBounds_toArray, List.set_cons_zero, List.set_cons_succ]
            have h4 : vals 4 = .pointer (some ⟨W2.heap.size, 6, none⟩) := hf.1
            rw [h4]
            have ar := (hb.block _ z3_o).trans R3_o.out
            obtain ⟨y0, y1, y2, y3, y4, y5, y6, y7, y8, y9⟩ := rc10 ar
            clear ar
            go_wp2
            exact ⟨rfl, rfl, Below.refl _ _, _, rfl, rfl, (fun h => absurd h (by decide))⟩
          · intro vals x hb hf
            simp only [fillS, List.getD_cons_succ, List.getD_cons_zero, Act.put, List.setIfInBounds_toArray, List.set_cons_zero, List.set_cons_succ]
            skip
            go_wp2
            exact ⟨rfl, rfl, Below.refl _ _, _, rfl, rfl, (fun h => absurd h (by decide))⟩
          · intro vals x hb hf
            simp only [fillS, List.getD_cons_succ, List.getD_cons_zero, Act.put, List.setIfInBounds_toArray, List.set_cons_zero, List.set_cons_succ]
            have h6 : vals 6 = .int .i64 k := hf.1
            rw [h6]
            skip
            go_wp2
            exact ⟨rfl, rfl, Below.refl _ _, _, rfl, rfl, (fun h => absurd h (by decide))⟩
          · intro vals x hb hf
            simp only [fillS, List.getD_cons_succ, List.getD_cons_zero, Act.put, List.setIfInBounds_toArray, List.set_cons_zero, List.set_cons_succ]
            have h5 : vals 5 = .agg #[.int .i64 o.slo, .int .i64 o.shi] := hf.1
            rw [h5]
            have h7 : vals 7 = .int .i64 d16 := hf.2.1
            rw [h7]
            have hbx : Below w.heap.size w x := B3.trans (hb.mono B3.size)
            go_wp2_with (go_at_call 22; (with_reducible refine Calls.mono (kE5.out _) ?_); rintro e y ⟨rfl, hB⟩)
            exact ⟨rfl, rfl, hB, _, rfl, rfl, (fun h => absurd h (by decide))⟩
          · intro vals x hb hf
            simp only [fillS, List.getD_cons_succ, List.getD_cons_zero, Act.put, List.setIfInBounds_toArray, List.set_cons_zero, List.set_cons_succ]
            have h8 : vals 8 = .int .i64 e5 := hf.1
            rw [h8]
            go_wp2
            exact ⟨rfl, rfl, (Below.refl _ _).alloc (Nat.le_refl _) _, _, rfl, intsAt1 rfl, (fun h => absurd h (by decide))⟩
          · intro vals x hb hf
            simp only [fillS, List.getD_cons_succ, List.getD_cons_zero, Act.put, List.setIfInBounds_toArray, List.set_cons_zero, List.set_cons_succ]
            skip
            go_wp2
            exact ⟨rfl, rfl, Below.refl _ _, _, rfl, rfl, (fun h => absurd h (by decide))⟩
          · intro vals x hb hf
            simp only [fillS, List.getD_cons_succ, List.getD_cons_zero, Act.put, List.setIfInBounds_toArray, List.set_cons_zero, List.set_cons_succ]
            have h10 : vals 10 = .pointer (some ⟨W2.heap.size, 8, none⟩) := hf.1
            rw [h10]
            have ar := (hb.block _ z3_o).trans R3_o.out
            obtain ⟨y0, y1, y2, y3, y4, y5, y6, y7, y8, y9⟩ := rc10 ar
            clear ar
            go_wp2
            exact ⟨rfl, rfl, Below.refl _ _, _, rfl, rfl, (fun h => absurd h (by decide))⟩
          · intro vals x hb hf
            simp only [fillS, List.getD_cons_succ, List.getD_cons_zero, Act.put, List.setIfInBounds_toArray, List.set_cons_zero, List.set_cons_succ]
            skip
            go_wp2
            exact ⟨rfl, rfl, Below.refl _ _, _, rfl, rfl, (fun h => absurd h (by decide))⟩
          · intro vals x hb hf
            simp only [fillS, List.getD_cons_succ, List.getD_cons_zero, Act.put, List.setIfInBounds_toArray, List.set_cons_zero, List.set_cons_succ]
            have h12 : vals 12 = .int .i64 k := hf.1
            rw [h12]
            skip
            go_wp2
            exact ⟨rfl, rfl, Below.refl _ _, _, rfl, rfl, (fun h => absurd h (by decide))⟩
          · intro vals x hb hf
            simp only [fillS, List.getD_cons_succ, List.getD_cons_zero, Act.put, List.setIfInBounds_toArray, List.set_cons_zero, List.set_cons_succ]
            have h11 : vals 11 = .agg #[.int .i64 o.wlo, .int .i64 o.whi] := hf.1
            rw [h11]
            have h13 : vals 13 = .int .i64 d32 := hf.2.1
            rw [h13]
            have hbx : Below w.heap.size w x := B3.trans (hb.mono B3.size)
            go_wp2_with (go_at_call 22; (with_reducible refine Calls.mono (kE6.out _) ?_); rintro e y ⟨rfl, hB⟩)
            exact ⟨rfl, rfl, hB, _, rfl, rfl, (fun h => absurd h (by decide))⟩
          · intro vals x hb hf
            simp only [fillS, List.getD_cons_succ, List.getD_cons_zero, Act.put, List.setIfInBounds_toArray, List.set_cons_zero, List.set_cons_succ]
            have h14 : vals 14 = .int .i64 e6 := hf.1
            rw [h14]
            go_wp2
            exact ⟨rfl, rfl, (Below.refl _ _).alloc (Nat.le_refl _) _, _, rfl, intsAt1 rfl, (fun h => absurd h (by decide))⟩
          · intro vals x hb hf
            simp only [fillS, List.getD_cons_succ, List.getD_cons_zero, Act.put, List.setIfInBounds_toArray, List.set_cons_zero, List.set_cons_succ]
            have h0 : vals 0 = cavV c := hf.1
            rw [h0]
            have h1 : vals 1 = .agg #[.int .i64 e1, .int .i64 e2, .int .i64 e3, .int .i64 e4] := hf.2.1
            rw [h1]
            have h3 : OpsAt x (vals 3) [o] := hf.2.2.1
            have h9 : IntsAt x (vals 9) [e5] := hf.2.2.2.1
            have h15 : IntsAt x (vals 15) [e6] := hf.2.2.2.2.1
            have hbx : Below w.heap.size w x := B3.trans (hb.mono B3.size)
            go_wp2_with (go_at_call 23; (with_reducible refine Calls.mono (kP.out _ _ _ _ h3 h9 h15) ?_); rintro e y ⟨rfl, hB⟩)
            exact ⟨rfl, rfl, hB, _, rfl, rfl, (fun h => absurd h (by decide))⟩
          · intro vals x hb hf
            simp only [fillS, List.getD_cons_succ, List.getD_cons_zero, Act.put, List.setIfInBounds_toArray, List.set_cons_zero, List.set_cons_succ]
            have h16 : vals 16 = .tuple #[ptV zk, .agg #[.int .i64 gk.g, .int .i64 gk.y, .int .i64 0, .int .i64 gk.w], .int .i64 0] := hf.1
            rw [h16]
            skip
            go_wp2
            exact ⟨rfl, rfl, Below.refl _ _, _, rfl, rfl, (fun h => absurd h (by decide))⟩
          · intro vals x hb hf
            simp only [fillS, List.getD_cons_succ, List.getD_cons_zero, Act.put, List.setIfInBounds_toArray, List.set_cons_zero, List.set_cons_succ]
            have h17 : vals 17 = .tuple #[ptV zk, .agg #[.int .i64 gk.g, .int .i64 gk.y, .int .i64 0, .int .i64 gk.w], .int .i64 0] := hf.1
            rw [h17]
            skip
            go_wp2
            exact ⟨rfl, rfl, Below.refl _ _, _, rfl, rfl, (fun h => absurd h (by decide))⟩
          · intro vals x hb hf
            simp only [fillS, List.getD_cons_succ, List.getD_cons_zero, Act.put, List.setIfInBounds_toArray, List.set_cons_zero, List.set_cons_succ]
            have h17 : vals 17 = .tuple #[ptV zk, .agg #[.int .i64 gk.g, .int .i64 gk.y, .int .i64 0, .int .i64 gk.w], .int .i64 0] := hf.1
            rw [h17]
            skip
            go_wp2
            exact ⟨rfl, rfl, Below.refl _ _, _, rfl, rfl, (fun h => absurd h (by decide))⟩
          · intro vals x hb hf
            simp only [fillS, List.getD_cons_succ, List.getD_cons_zero, Act.put, List.setIfInBounds_toArray, List.set_cons_zero, List.set_cons_succ]
            have h17 : vals 17 = .tuple #[ptV zk, .agg #[.int .i64 gk.g, .int .i64 gk.y, .int .i64 0, .int .i64 gk.w], .int .i64 0] := hf.1
            rw [h17]
            skip
            go_wp2
            exact ⟨rfl, rfl, Below.refl _ _, _, rfl, rfl, (fun h => absurd h (by decide))⟩
          · intro vals x hb hf
            simp only [fillS, List.getD_cons_succ, List.getD_cons_zero, Act.put, List.setIfInBounds_toArray, List.set_cons_zero, List.set_cons_succ]
            go_wp2
            exact ⟨rfl, rfl, (Below.refl _ _).alloc (Nat.le_refl _) _, _, rfl, ⟨_, rfl, hb.size, World.alloc_heap_new _ _⟩, fun _ => rfl⟩
          · intro vals x hb hf
            simp only [fillS, List.getD_cons_succ, List.getD_cons_zero, Act.put, List.setIfInBounds_toArray, List.set_cons_zero, List.set_cons_succ]
            go_wp2
            exact ⟨rfl, rfl, (Below.refl _ _).alloc (Nat.le_refl _) _, _, rfl, ⟨_, rfl, hb.size, World.alloc_heap_new _ _⟩, fun _ => rfl⟩
        · intro j hj o ho vals x hb hf
          rcases List.mem_cons.1 hj with rfl | hj
          · obtain rfl := Option.some.inj ho
            simp only [fillS, List.getD_cons_succ, List.getD_cons_zero, Act.put, List.setIfInBounds_toArray, List.set_cons_zero, List.set_cons_succ]
            have h17 : vals 17 = .tuple #[ptV zk, .agg #[.int .i64 gk.g, .int .i64 gk.y, .int .i64 0, .int .i64 gk.w], .int .i64 0] := hf.1
            rw [h17]
            exact ⟨_, .inl ⟨rfl, fun w => rfl⟩, rfl, (fun h => absurd h (by decide))⟩
          · obtain rfl : j = 20 := by simpa using hj
            obtain rfl := Option.some.inj ho
            simp only [fillS, List.getD_cons_succ, List.getD_cons_zero, Act.put, List.setIfInBounds_toArray, List.set_cons_zero, List.set_cons_succ]
            have h17 : vals 17 = .tuple #[ptV zk, .agg #[.int .i64 gk.g, .int .i64 gk.y, .int .i64 0, .int .i64 gk.w], .int .i64 0] := hf.1
            rw [h17]
            exact ⟨_, .inl ⟨rfl, fun w => rfl⟩, rfl, (fun h => absurd h (by decide))⟩
        · intro vals x hb hf hp
          have hrange : List.range 23 = [0, 1, 2, 3, 4, 5, 6, 7, 8, 9, 10, 11, 12, 13, 14, 15, 16, 17, 18, 19, 20, 21, 22] := by rfl
          rw [hrange]
          simp only [fillS, List.getD_cons_succ, List.getD_cons_zero, Act.put, List.setIfInBounds_toArray, List.set_cons_zero, List.set_cons_succ]
          have h0 : vals 0 = cavV c := hf 0 (by omega)
          have h1 : vals 1 = .agg #[.int .i64 e1, .int .i64 e2, .int .i64 e3, .int .i64 e4] := hf 1 (by omega)
          have h2 : vals 2 = opV o := hf 2 (by omega)
          have h4 : vals 4 = .pointer (some ⟨W2.heap.size, 6, none⟩) := hf 4 (by omega)
          have h5 : vals 5 = .agg #[.int .i64 o.slo, .int .i64 o.shi] := hf 5 (by omega)
          have h6 : vals 6 = .int .i64 k := hf 6 (by omega)
          have h7 : vals 7 = .int .i64 d16 := hf 7 (by omega)
          have h8 : vals 8 = .int .i64 e5 := hf 8 (by omega)
          have h10 : vals 10 = .pointer (some ⟨W2.heap.size, 8, none⟩) := hf 10 (by omega)
          have h11 : vals 11 = .agg #[.int .i64 o.wlo, .int .i64 o.whi] := hf 11 (by omega)
          have h12 : vals 12 = .int .i64 k := hf 12 (by omega)
          have h13 : vals 13 = .int .i64 d32 := hf 13 (by omega)
          have h14 : vals 14 = .int .i64 e6 := hf 14 (by omega)
          have h16 : vals 16 = .tuple #[ptV zk, .agg #[.int .i64 gk.g, .int .i64 gk.y, .int .i64 0, .int .i64 gk.w], .int .i64 0] := hf 16 (by omega)
          have h17 : vals 17 = .tuple #[ptV zk, .agg #[.int .i64 gk.g, .int .i64 gk.y, .int .i64 0, .int .i64 gk.w], .int .i64 0] := hf 17 (by omega)
          have h18 : vals 18 = ptV zk := hf 18 (by omega)
          have h19 : vals 19 = .agg #[.int .i64 gk.g, .int .i64 gk.y, .int .i64 0, .int .i64 gk.w] := hf 19 (by omega)
          have h20 : vals 20 = .int .i64 0 := hf 20 (by omega)
          obtain ⟨blk_z, hv_z, l_z, A_z⟩ : NewAt M3.heap.size #[.int .i64 0, .int .i64 0, .int .i64 0, .int .i64 0] 31 (vals 21) x := hf 21 (by omega)
          obtain ⟨blk_zo, hv_zo, l_zo, A_zo⟩ : NewAt M3.heap.size #[.int .i64 0, .int .i64 0, .int .i64 0, .int .i64 0] 31 (vals 22) x := hf 22 (by omega)
          have ne_z_zo : (blk_z : Nat) ≠ blk_zo := by
            intro h
            have h1 := hp 21 22 (by omega) (by omega) (by omega) rfl rfl
            rw [hv_z, hv_zo, h] at h1
            exact h1 rfl
          have ne_zo_z := Ne.symm ne_z_zo
          rw [h0, h1, h2, h4, h5, h6, h7, h8, h10, h11, h12, h13, h14, h16, h17, h18, h19, h20, hv_z, hv_zo]
          clear h0 h1 h2 h4 h5 h6 h7 h8 h10 h11 h12 h13 h14 h16 h17 h18 h19 h20 hv_z hv_zo hf hp hrange
          have A_c := (hb.block _ z3_c).trans R3_c.out
          have ne_c_z : (w.heap.size : Nat) ≠ blk_z := by have := z3_c; omega
          have ne_z_c := Ne.symm ne_c_z
          have ne_c_zo : (w.heap.size : Nat) ≠ blk_zo := by have := z3_c; omega
          have ne_zo_c := Ne.symm ne_c_zo
          replace A_c := Lib.hid A_c
          have A_s := (hb.block _ z3_s).trans R3_s.out
          have ne_s_z : (W1.heap.size : Nat) ≠ blk_z := by have := z3_s; omega
          have ne_z_s := Ne.symm ne_s_z
          have ne_s_zo : (W1.heap.size : Nat) ≠ blk_zo := by have := z3_s; omega
          have ne_zo_s := Ne.symm ne_s_zo
          replace A_s := Lib.hid A_s
          have A_o := (hb.block _ z3_o).trans R3_o.out
          have ne_o_z : (W2.heap.size : Nat) ≠ blk_z := by have := z3_o; omega
          have ne_z_o := Ne.symm ne_o_z
          have ne_o_zo : (W2.heap.size : Nat) ≠ blk_zo := by have := z3_o; omega
          have ne_zo_o := Ne.symm ne_o_zo
          replace A_o := Lib.hid A_o
          have A_x := (hb.block _ z3_x).trans R3_x.out
          have ne_x_z : (blk_x : Nat) ≠ blk_z := by have := z3_x; omega
          have ne_z_x := Ne.symm ne_x_z
          have ne_x_zo : (blk_x : Nat) ≠ blk_zo := by have := z3_x; omega
          have ne_zo_x := Ne.symm ne_x_zo
          replace A_x := Lib.hid A_x
          have A_v := (hb.block _ z3_v).trans R3_v.out
          have ne_v_z : (blk_v : Nat) ≠ blk_z := by have := z3_v; omega
          have ne_z_v := Ne.symm ne_v_z
          have ne_v_zo : (blk_v : Nat) ≠ blk_zo := by have := z3_v; omega
          have ne_zo_v := Ne.symm ne_v_zo
          replace A_v := Lib.hid A_v
          have A_y := (hb.block _ z3_y).trans R3_y.out
          have ne_y_z : (blk_y : Nat) ≠ blk_z := by have := z3_y; omega
          have ne_z_y := Ne.symm ne_y_z
          have ne_y_zo : (blk_y : Nat) ≠ blk_zo := by have := z3_y; omega
          have ne_zo_y := Ne.symm ne_y_zo
          replace A_y := Lib.hid A_y
          have A_u := (hb.block _ z3_u).trans R3_u.out
          have ne_u_z : (blk_u : Nat) ≠ blk_z := by have := z3_u; omega
          have ne_z_u := Ne.symm ne_u_z
          have ne_u_zo : (blk_u : Nat) ≠ blk_zo := by have := z3_u; omega
          have ne_zo_u := Ne.symm ne_u_zo
          replace A_u := Lib.hid A_u
          have A_p := (hb.block _ z3_p).trans R3_p.out
          have ne_p_z : (blk_p : Nat) ≠ blk_z := by have := z3_p; omega
          have ne_z_p := Ne.symm ne_p_z
          have ne_p_zo : (blk_p : Nat) ≠ blk_zo := by have := z3_p; omega
          have ne_zo_p := Ne.symm ne_p_zo
          replace A_p := Lib.hid A_p
          have B4 : Below w.heap.size w x := B3.trans (hb.mono B3.size)
          have hLw := B3.size
          have le_z : w.heap.size ≤ blk_z := by omega
          obtain ⟨p_z_0, p_z_1, p_z_2, p_z_3⟩ := rc4 A_z
          obtain ⟨g_z_0, g_z_1, g_z_2, g_z_3⟩ := rf4 A_z
          replace A_z := Lib.hid A_z
          have le_zo : w.heap.size ≤ blk_zo := by omega
          obtain ⟨p_zo_0, p_zo_1, p_zo_2, p_zo_3⟩ := rc4 A_zo
          obtain ⟨g_zo_0, g_zo_1, g_zo_2, g_zo_3⟩ := rf4 A_zo
          replace A_zo := Lib.hid A_zo
          go_wp2
          refine NoPanic.normal ?_
          generalize hV4 : World.setCell _ ⟨blk_zo, 3, none⟩ _ = M4
          have C_c : M4.heap[w.heap.size]? = some (.cells #[.int .i64 c.vlo, .int .i64 c.vhi, .int .i64 c.least, .int .i64 c.most, .int .i64 c.f0, .int .i64 c.f1, .int .i64 c.h0, .int .i64 c.h1, .int .i64 c.rock, .int .i64 c.plo, .int .i64 c.phi] 26 (0, 0)) := by rw [← hV4]; have h2 := (set_far (n := blk_zo) 3 (.int .i64 gk.w) ne_c_zo (set_far (n := blk_zo) 2 (.int .i64 0) ne_c_zo (set_far (n := blk_zo) 1 (.int .i64 gk.y) ne_c_zo (set_far (n := blk_zo) 0 (.int .i64 gk.g) ne_c_zo (set_far (n := blk_z) 3 (.int .i64 zk.w) ne_c_z (set_far (n := blk_z) 2 (.int .i64 zk.t) ne_c_z (set_far (n := blk_z) 1 (.int .i64 zk.y) ne_c_z (set_far (n := blk_z) 0 (.int .i64 zk.g) ne_c_z A_c.out)))))))); exact h2
          have C_s : M4.heap[W1.heap.size]? = some (.cells #[.int .i64 s.glo, .int .i64 s.ghi, .int .i64 s.ylo, .int .i64 s.yhi, .int .i64 s.tlo, .int .i64 s.thi, .int .i64 s.wlo, .int .i64 s.whi] 28 (0, 0)) := by rw [← hV4]; have h2 := (set_far (n := blk_zo) 3 (.int .i64 gk.w) ne_s_zo (set_far (n := blk_zo) 2 (.int .i64 0) ne_s_zo (set_far (n := blk_zo) 1 (.int .i64 gk.y) ne_s_zo (set_far (n := blk_zo) 0 (.int .i64 gk.g) ne_s_zo (set_far (n := blk_z) 3 (.int .i64 zk.w) ne_s_z (set_far (n := blk_z) 2 (.int .i64 zk.t) ne_s_z (set_far (n := blk_z) 1 (.int .i64 zk.y) ne_s_z (set_far (n := blk_z) 0 (.int .i64 zk.g) ne_s_z A_s.out)))))))); exact h2
          have C_o : M4.heap[W2.heap.size]? = some (.cells #[.int .i64 o.kind, .int .i64 o.lg, .int .i64 o.ly, .int .i64 o.lt, .int .i64 o.lw, .int .i64 o.moles, .int .i64 o.slo, .int .i64 o.shi, .int .i64 o.wlo, .int .i64 o.whi] 33 (0, 0)) := by rw [← hV4]; have h2 := (set_far (n := blk_zo) 3 (.int .i64 gk.w) ne_o_zo (set_far (n := blk_zo) 2 (.int .i64 0) ne_o_zo (set_far (n := blk_zo) 1 (.int .i64 gk.y) ne_o_zo (set_far (n := blk_zo) 0 (.int .i64 gk.g) ne_o_zo (set_far (n := blk_z) 3 (.int .i64 zk.w) ne_o_z (set_far (n := blk_z) 2 (.int .i64 zk.t) ne_o_z (set_far (n := blk_z) 1 (.int .i64 zk.y) ne_o_z (set_far (n := blk_z) 0 (.int .i64 zk.g) ne_o_z A_o.out)))))))); exact h2
          have C_x : M4.heap[blk_x]? = some (.cells #[.int .i64 nx.glo, .int .i64 nx.ghi, .int .i64 nx.ylo, .int .i64 nx.yhi, .int .i64 nx.tlo, .int .i64 nx.thi, .int .i64 nx.wlo, .int .i64 nx.whi] 28 (0, 0)) := by rw [← hV4]; have h2 := (set_far (n := blk_zo) 3 (.int .i64 gk.w) ne_x_zo (set_far (n := blk_zo) 2 (.int .i64 0) ne_x_zo (set_far (n := blk_zo) 1 (.int .i64 gk.y) ne_x_zo (set_far (n := blk_zo) 0 (.int .i64 gk.g) ne_x_zo (set_far (n := blk_z) 3 (.int .i64 zk.w) ne_x_z (set_far (n := blk_z) 2 (.int .i64 zk.t) ne_x_z (set_far (n := blk_z) 1 (.int .i64 zk.y) ne_x_z (set_far (n := blk_z) 0 (.int .i64 zk.g) ne_x_z A_x.out)))))))); exact h2
          have C_v : M4.heap[blk_v]? = some (.cells #[.int .i64 q.glo, .int .i64 q.ghi, .int .i64 q.ylo, .int .i64 q.yhi, .int .i64 q.wlo, .int .i64 q.whi] 35 (0, 0)) := by rw [← hV4]; have h2 := (set_far (n := blk_zo) 3 (.int .i64 gk.w) ne_v_zo (set_far (n := blk_zo) 2 (.int .i64 0) ne_v_zo (set_far (n := blk_zo) 1 (.int .i64 gk.y) ne_v_zo (set_far (n := blk_zo) 0 (.int .i64 gk.g) ne_v_zo (set_far (n := blk_z) 3 (.int .i64 zk.w) ne_v_z (set_far (n := blk_z) 2 (.int .i64 zk.t) ne_v_z (set_far (n := blk_z) 1 (.int .i64 zk.y) ne_v_z (set_far (n := blk_z) 0 (.int .i64 zk.g) ne_v_z A_v.out)))))))); exact h2
          have C_y : M4.heap[blk_y]? = some (.cells #[.int .i64 ys.glo, .int .i64 ys.ghi, .int .i64 ys.ylo, .int .i64 ys.yhi, .int .i64 ys.tlo, .int .i64 ys.thi, .int .i64 ys.wlo, .int .i64 ys.whi] 28 (0, 0)) := by rw [← hV4]; have h2 := (set_far (n := blk_zo) 3 (.int .i64 gk.w) ne_y_zo (set_far (n := blk_zo) 2 (.int .i64 0) ne_y_zo (set_far (n := blk_zo) 1 (.int .i64 gk.y) ne_y_zo (set_far (n := blk_zo) 0 (.int .i64 gk.g) ne_y_zo (set_far (n := blk_z) 3 (.int .i64 zk.w) ne_y_z (set_far (n := blk_z) 2 (.int .i64 zk.t) ne_y_z (set_far (n := blk_z) 1 (.int .i64 zk.y) ne_y_z (set_far (n := blk_z) 0 (.int .i64 zk.g) ne_y_z A_y.out)))))))); exact h2
          have C_u : M4.heap[blk_u]? = some (.cells #[.int .i64 qs.glo, .int .i64 qs.ghi, .int .i64 qs.ylo, .int .i64 qs.yhi, .int .i64 qs.wlo, .int .i64 qs.whi] 35 (0, 0)) := by rw [← hV4]; have h2 := (set_far (n := blk_zo) 3 (.int .i64 gk.w) ne_u_zo (set_far (n := blk_zo) 2 (.int .i64 0) ne_u_zo (set_far (n := blk_zo) 1 (.int .i64 gk.y) ne_u_zo (set_far (n := blk_zo) 0 (.int .i64 gk.g) ne_u_zo (set_far (n := blk_z) 3 (.int .i64 zk.w) ne_u_z (set_far (n := blk_z) 2 (.int .i64 zk.t) ne_u_z (set_far (n := blk_z) 1 (.int .i64 zk.y) ne_u_z (set_far (n := blk_z) 0 (.int .i64 zk.g) ne_u_z A_u.out)))))))); exact h2
          have C_p : M4.heap[blk_p]? = some (.cells #[.int .i64 e1, .int .i64 e2, .int .i64 e3, .int .i64 e4] 31 (0, 0)) := by rw [← hV4]; have h2 := (set_far (n := blk_zo) 3 (.int .i64 gk.w) ne_p_zo (set_far (n := blk_zo) 2 (.int .i64 0) ne_p_zo (set_far (n := blk_zo) 1 (.int .i64 gk.y) ne_p_zo (set_far (n := blk_zo) 0 (.int .i64 gk.g) ne_p_zo (set_far (n := blk_z) 3 (.int .i64 zk.w) ne_p_z (set_far (n := blk_z) 2 (.int .i64 zk.t) ne_p_z (set_far (n := blk_z) 1 (.int .i64 zk.y) ne_p_z (set_far (n := blk_z) 0 (.int .i64 zk.g) ne_p_z A_p.out)))))))); exact h2
          have C_z : M4.heap[blk_z]? = some (.cells #[.int .i64 zk.g, .int .i64 zk.y, .int .i64 zk.t, .int .i64 zk.w] 31 (0, 0)) := by rw [← hV4]; have h2 := (set_far (n := blk_zo) 3 (.int .i64 gk.w) ne_z_zo (set_far (n := blk_zo) 2 (.int .i64 0) ne_z_zo (set_far (n := blk_zo) 1 (.int .i64 gk.y) ne_z_zo (set_far (n := blk_zo) 0 (.int .i64 gk.g) ne_z_zo (set_one (set_one (set_one (set_one A_z.out 0 (.int .i64 zk.g)) 1 (.int .i64 zk.y)) 2 (.int .i64 zk.t)) 3 (.int .i64 zk.w)))))); simp only [List.setIfInBounds_toArray, List.set_cons_zero, List.set_cons_succ] at h2; exact h2
          have C_zo : M4.heap[blk_zo]? = some (.cells #[.int .i64 gk.g, .int .i64 gk.y, .int .i64 0, .int .i64 gk.w] 31 (0, 0)) := by rw [← hV4]; have h2 := (set_one (set_one (set_one (set_one (set_far (n := blk_z) 3 (.int .i64 zk.w) ne_zo_z (set_far (n := blk_z) 2 (.int .i64 zk.t) ne_zo_z (set_far (n := blk_z) 1 (.int .i64 zk.y) ne_zo_z (set_far (n := blk_z) 0 (.int .i64 zk.g) ne_zo_z A_zo.out)))) 0 (.int .i64 gk.g)) 1 (.int .i64 gk.y)) 2 (.int .i64 0)) 3 (.int .i64 gk.w)); simp only [List.setIfInBounds_toArray, List.set_cons_zero, List.set_cons_succ] at h2; exact h2
          replace B4 : Below w.heap.size w M4 := by rw [← hV4]; exact (Below.setCell (p := ⟨blk_zo, 3, none⟩) (Below.setCell (p := ⟨blk_zo, 2, none⟩) (Below.setCell (p := ⟨blk_zo, 1, none⟩) (Below.setCell (p := ⟨blk_zo, 0, none⟩) (Below.setCell (p := ⟨blk_z, 3, none⟩) (Below.setCell (p := ⟨blk_z, 2, none⟩) (Below.setCell (p := ⟨blk_z, 1, none⟩) (Below.setCell (p := ⟨blk_z, 0, none⟩) B4 le_z (.int .i64 zk.g)) le_z (.int .i64 zk.y)) le_z (.int .i64 zk.t)) le_z (.int .i64 zk.w)) le_zo (.int .i64 gk.g)) le_zo (.int .i64 gk.y)) le_zo (.int .i64 0)) le_zo (.int .i64 gk.w))
          clear hV4 hb hLw l_z l_zo p_z_0 g_z_0 p_z_1 g_z_1 p_z_2 g_z_2 p_z_3 g_z_3 p_zo_0 g_zo_0 p_zo_1 g_zo_1 p_zo_2 g_zo_2 p_zo_3 g_zo_3
          replace A_c := C_c
          clear C_c
          replace A_s := C_s
          clear C_s
          replace A_o := C_o
          clear C_o
          replace A_x := C_x
          clear C_x
          replace A_v := C_v
          clear C_v
          replace A_y := C_y
          clear C_y
          replace A_u := C_u
          clear C_u
          replace A_p := C_p
          clear C_p
          replace A_z := C_z
          clear C_z
          replace A_zo := C_zo
          clear C_zo
          have z4_c := (Array.getElem?_eq_some_iff.1 A_c).1
          have z4_s := (Array.getElem?_eq_some_iff.1 A_s).1
          have z4_o := (Array.getElem?_eq_some_iff.1 A_o).1
          have z4_x := (Array.getElem?_eq_some_iff.1 A_x).1
          have z4_v := (Array.getElem?_eq_some_iff.1 A_v).1
          have z4_y := (Array.getElem?_eq_some_iff.1 A_y).1
          have z4_u := (Array.getElem?_eq_some_iff.1 A_u).1
          have z4_p := (Array.getElem?_eq_some_iff.1 A_p).1
          have z4_z := (Array.getElem?_eq_some_iff.1 A_z).1
          have z4_zo := (Array.getElem?_eq_some_iff.1 A_zo).1
          have R4_c := Lib.hid A_c
          clear A_c
          have R4_s := Lib.hid A_s
          clear A_s
          have R4_o := Lib.hid A_o
          clear A_o
          have R4_x := Lib.hid A_x
          clear A_x
          have R4_v := Lib.hid A_v
          clear A_v
          obtain ⟨q4_y_0, q4_y_1, q4_y_2, q4_y_3, q4_y_4, q4_y_5, q4_y_6, q4_y_7⟩ := rc8 A_y
          obtain ⟨f4_y_0, f4_y_1, f4_y_2, f4_y_3, f4_y_4, f4_y_5, f4_y_6, f4_y_7⟩ := rf8 A_y
          have R4_y := Lib.hid A_y
          clear A_y
          obtain ⟨q4_u_0, q4_u_1, q4_u_2, q4_u_3, q4_u_4, q4_u_5⟩ := rc6 A_u
          obtain ⟨f4_u_0, f4_u_1, f4_u_2, f4_u_3, f4_u_4, f4_u_5⟩ := rf6 A_u
          have R4_u := Lib.hid A_u
          clear A_u
          have R4_p := Lib.hid A_p
          clear A_p
          obtain ⟨q4_z_0, q4_z_1, q4_z_2, q4_z_3⟩ := rc4 A_z
          have R4_z := Lib.hid A_z
          clear A_z
          obtain ⟨q4_zo_0, q4_zo_1, q4_zo_2, q4_zo_3⟩ := rc4 A_zo
          have R4_zo := Lib.hid A_zo
          clear A_zo
          have hgw4 := grow_cell M4
          clear kE1 kE2 kE3 kE4 kE5 kE6 kP hq2 ht2 hv2 hw2 hq4 ht4 hv4 hw4 hq8 ht8 hv8 hw8 hq16 ht16 hv16 hw16 hq32 ht32 hv32 hw32
          try clear hW1
          try clear hW2
          try clear hW
          try clear B0
          try clear szo1
          try clear gz1
          try clear B1
          try clear B2
          try clear B3
          try clear le_c
          try clear le_s
          try clear le_o
          try clear le_x
          try clear le_v
          try clear le_p
          try clear le_z
          try clear le_zo
          try clear hK
          try clear hend
          try clear kD
          try clear kPl
          try clear kRC
          try clear kRS
          try clear kRO
          try clear hc
          try clear hs
          try clear ho
          try clear ha
          try clear e_c
          try clear e_s
          try clear e_o
          try clear z0_c
          try clear z0_s
          try clear z0_o
          try clear z0_x
          try clear z0_v
          try clear z0_y
          try clear z0_u
          try clear z0_p
          try clear R0_c
          try clear R0_s
          try clear R0_o
          try clear R0_x
          try clear R0_v
          try clear R0_y
          try clear R0_u
          try clear R0_p
          try clear z1_c
          try clear z1_s
          try clear z1_o
          try clear z1_x
          try clear z1_v
          try clear z1_y
          try clear z1_u
          try clear z1_p
          try clear R1_c
          try clear R1_s
          try clear R1_o
          try clear R1_x
          try clear R1_v
          try clear R1_y
          try clear R1_u
          try clear R1_p
          try clear z2_c
          try clear z2_s
          try clear z2_o
          try clear z2_x
          try clear z2_v
          try clear z2_y
          try clear z2_u
          try clear z2_p
          try clear R2_c
          try clear R2_s
          try clear R2_o
          try clear R2_x
          try clear R2_v
          try clear R2_y
          try clear R2_u
          try clear R2_p
          try clear z3_c
          try clear z3_s
          try clear z3_o
          try clear z3_x
          try clear z3_v
          try clear z3_y
          try clear z3_u
          try clear z3_p
          try clear R3_c
          try clear R3_s
          try clear R3_o
          try clear R3_x
          try clear R3_v
          try clear R3_y
          try clear R3_u
          try clear R3_p
          try clear ne_c_s
          try clear ne_c_o
          try clear ne_c_x
          try clear ne_c_v
          try clear ne_c_p
          try clear ne_c_z
          try clear ne_c_zo
          try clear ne_s_c
          try clear ne_s_o
          try clear ne_s_x
          try clear ne_s_v
          try clear ne_s_p
          try clear ne_s_z
          try clear ne_s_zo
          try clear ne_o_c
          try clear ne_o_s
          try clear ne_o_x
          try clear ne_o_v
          try clear ne_o_p
          try clear ne_o_z
          try clear ne_o_zo
          try clear ne_x_c
          try clear ne_x_s
          try clear ne_x_o
          try clear ne_x_v
          try clear ne_x_p
          try clear ne_x_z
          try clear ne_x_zo
          try clear ne_v_c
          try clear ne_v_s
          try clear ne_v_o
          try clear ne_v_x
          try clear ne_v_p
          try clear ne_v_z
          try clear ne_v_zo
          try clear ne_y_c
          try clear ne_y_s
          try clear ne_y_o
          try clear ne_y_x
          try clear ne_y_v
          try clear ne_y_p
          try clear ne_y_z
          try clear ne_y_zo
          try clear ne_u_c
          try clear ne_u_s
          try clear ne_u_o
          try clear ne_u_x
          try clear ne_u_v
          try clear ne_u_p
          try clear ne_u_z
          try clear ne_u_zo
          try clear ne_p_c
          try clear ne_p_s
          try clear ne_p_o
          try clear ne_p_x
          try clear ne_p_v
          try clear ne_p_z
          try clear ne_p_zo
          try clear ne_z_c
          try clear ne_z_s
          try clear ne_z_o
          try clear ne_z_x
          try clear ne_z_v
          try clear ne_z_p
          try clear ne_z_zo
          try clear ne_zo_c
          try clear ne_zo_s
          try clear ne_zo_o
          try clear ne_zo_x
          try clear ne_zo_v
          try clear ne_zo_p
          try clear ne_zo_z
          replace ne_c_y := Lib.hid ne_c_y
          replace ne_c_u := Lib.hid ne_c_u
          replace ne_s_y := Lib.hid ne_s_y
          replace ne_s_u := Lib.hid ne_s_u
          replace ne_o_y := Lib.hid ne_o_y
          replace ne_o_u := Lib.hid ne_o_u
          replace ne_x_y := Lib.hid ne_x_y
          replace ne_x_u := Lib.hid ne_x_u
          replace ne_v_y := Lib.hid ne_v_y
          replace ne_v_u := Lib.hid ne_v_u
          replace ne_y_u := Lib.hid ne_y_u
          replace ne_u_y := Lib.hid ne_u_y
          replace ne_p_y := Lib.hid ne_p_y
          replace ne_p_u := Lib.hid ne_p_u
          replace ne_z_y := Lib.hid ne_z_y
          replace ne_z_u := Lib.hid ne_z_u
          replace ne_zo_y := Lib.hid ne_zo_y
          replace ne_zo_u := Lib.hid ne_zo_u
          replace le_y := Lib.hid le_y
          replace le_u := Lib.hid le_u
          by_cases hk0 : k = 0
          · have hk0i : (k : Int) = 0 := by omega
            obtain ⟨a0, ha0⟩ : ∃ v, (if zk.g < zk.g then zk.g else zk.g) = v := ⟨_, rfl⟩
            obtain ⟨b0, hb0⟩ : ∃ v, (if zk.g < zk.g then zk.g else zk.g) = v := ⟨_, rfl⟩
            have kw0 := Lib.hid (fun w => lawWide zk.g zk.g zk.g w ha0 hb0)
            replace ha0 := Lib.hid ha0; replace hb0 := Lib.hid hb0
            obtain ⟨a1, ha1⟩ : ∃ v, (if zk.y < zk.y then zk.y else zk.y) = v := ⟨_, rfl⟩
            obtain ⟨b1, hb1⟩ : ∃ v, (if zk.y < zk.y then zk.y else zk.y) = v := ⟨_, rfl⟩
            have kw1 := Lib.hid (fun w => lawWide zk.y zk.y zk.y w ha1 hb1)
            replace ha1 := Lib.hid ha1; replace hb1 := Lib.hid hb1
            obtain ⟨a2, ha2⟩ : ∃ v, (if zk.t < zk.t then zk.t else zk.t) = v := ⟨_, rfl⟩
            obtain ⟨b2, hb2⟩ : ∃ v, (if zk.t < zk.t then zk.t else zk.t) = v := ⟨_, rfl⟩
            have kw2 := Lib.hid (fun w => lawWide zk.t zk.t zk.t w ha2 hb2)
            replace ha2 := Lib.hid ha2; replace hb2 := Lib.hid hb2
            obtain ⟨a3, ha3⟩ : ∃ v, (if zk.w < zk.w then zk.w else zk.w) = v := ⟨_, rfl⟩
            obtain ⟨b3, hb3⟩ : ∃ v, (if zk.w < zk.w then zk.w else zk.w) = v := ⟨_, rfl⟩
            have kw3 := Lib.hid (fun w => lawWide zk.w zk.w zk.w w ha3 hb3)
            replace ha3 := Lib.hid ha3; replace hb3 := Lib.hid hb3
            obtain ⟨a4, ha4⟩ : ∃ v, (if gk.g < gk.g then gk.g else gk.g) = v := ⟨_, rfl⟩
            obtain ⟨b4, hb4⟩ : ∃ v, (if gk.g < gk.g then gk.g else gk.g) = v := ⟨_, rfl⟩
            have kw4 := Lib.hid (fun w => lawWide gk.g gk.g gk.g w ha4 hb4)
            replace ha4 := Lib.hid ha4; replace hb4 := Lib.hid hb4
            obtain ⟨a5, ha5⟩ : ∃ v, (if gk.y < gk.y then gk.y else gk.y) = v := ⟨_, rfl⟩
            obtain ⟨b5, hb5⟩ : ∃ v, (if gk.y < gk.y then gk.y else gk.y) = v := ⟨_, rfl⟩
            have kw5 := Lib.hid (fun w => lawWide gk.y gk.y gk.y w ha5 hb5)
            replace ha5 := Lib.hid ha5; replace hb5 := Lib.hid hb5
            obtain ⟨a6, ha6⟩ : ∃ v, (if gk.w < gk.w then gk.w else gk.w) = v := ⟨_, rfl⟩
            obtain ⟨b6, hb6⟩ : ∃ v, (if gk.w < gk.w then gk.w else gk.w) = v := ⟨_, rfl⟩
            have kw6 := Lib.hid (fun w => lawWide gk.w gk.w gk.w w ha6 hb6)
            replace ha6 := Lib.hid ha6; replace hb6 := Lib.hid hb6
            go_upto_region 17 with fail
            clear hgw4
            generalize hV5 : World.setCell _ ⟨blk_y, 7, none⟩ _ = V5
            have R5_c : V5.heap[w.heap.size]? = some (.cells #[.int .i64 c.vlo, .int .i64 c.vhi, .int .i64 c.least, .int .i64 c.most, .int .i64 c.f0, .int .i64 c.f1, .int .i64 c.h0, .int .i64 c.h1, .int .i64 c.rock, .int .i64 c.plo, .int .i64 c.phi] 26 (0, 0)) := by rw [← hV5]; have h2 := (set_far (n := blk_y) 7 (.int .i64 zk.w) ne_c_y.out (set_far (n := blk_y) 6 (.int .i64 zk.w) ne_c_y.out (set_far (n := blk_y) 5 (.int .i64 zk.t) ne_c_y.out (set_far (n := blk_y) 4 (.int .i64 zk.t) ne_c_y.out (set_far (n := blk_y) 3 (.int .i64 zk.y) ne_c_y.out (set_far (n := blk_y) 2 (.int .i64 zk.y) ne_c_y.out (set_far (n := blk_y) 1 (.int .i64 zk.g) ne_c_y.out (set_far (n := blk_y) 0 (.int .i64 zk.g) ne_c_y.out R4_c.out)))))))); exact h2
            have R5_s : V5.heap[W1.heap.size]? = some (.cells #[.int .i64 s.glo, .int .i64 s.ghi, .int .i64 s.ylo, .int .i64 s.yhi, .int .i64 s.tlo, .int .i64 s.thi, .int .i64 s.wlo, .int .i64 s.whi] 28 (0, 0)) := by rw [← hV5]; have h2 := (set_far (n := blk_y) 7 (.int .i64 zk.w) ne_s_y.out (set_far (n := blk_y) 6 (.int .i64 zk.w) ne_s_y.out (set_far (n := blk_y) 5 (.int .i64 zk.t) ne_s_y.out (set_far (n := blk_y) 4 (.int .i64 zk.t) ne_s_y.out (set_far (n := blk_y) 3 (.int .i64 zk.y) ne_s_y.out (set_far (n := blk_y) 2 (.int .i64 zk.y) ne_s_y.out (set_far (n := blk_y) 1 (.int .i64 zk.g) ne_s_y.out (set_far (n := blk_y) 0 (.int .i64 zk.g) ne_s_y.out R4_s.out)))))))); exact h2
            have R5_o : V5.heap[W2.heap.size]? = some (.cells #[.int .i64 o.kind, .int .i64 o.lg, .int .i64 o.ly, .int .i64 o.lt, .int .i64 o.lw, .int .i64 o.moles, .int .i64 o.slo, .int .i64 o.shi, .int .i64 o.wlo, .int .i64 o.whi] 33 (0, 0)) := by rw [← hV5]; have h2 := (set_far (n := blk_y) 7 (.int .i64 zk.w) ne_o_y.out (set_far (n := blk_y) 6 (.int .i64 zk.w) ne_o_y.out (set_far (n := blk_y) 5 (.int .i64 zk.t) ne_o_y.out (set_far (n := blk_y) 4 (.int .i64 zk.t) ne_o_y.out (set_far (n := blk_y) 3 (.int .i64 zk.y) ne_o_y.out (set_far (n := blk_y) 2 (.int .i64 zk.y) ne_o_y.out (set_far (n := blk_y) 1 (.int .i64 zk.g) ne_o_y.out (set_far (n := blk_y) 0 (.int .i64 zk.g) ne_o_y.out R4_o.out)))))))); exact h2
            have R5_x : V5.heap[blk_x]? = some (.cells #[.int .i64 nx.glo, .int .i64 nx.ghi, .int .i64 nx.ylo, .int .i64 nx.yhi, .int .i64 nx.tlo, .int .i64 nx.thi, .int .i64 nx.wlo, .int .i64 nx.whi] 28 (0, 0)) := by rw [← hV5]; have h2 := (set_far (n := blk_y) 7 (.int .i64 zk.w) ne_x_y.out (set_far (n := blk_y) 6 (.int .i64 zk.w) ne_x_y.out (set_far (n := blk_y) 5 (.int .i64 zk.t) ne_x_y.out (set_far (n := blk_y) 4 (.int .i64 zk.t) ne_x_y.out (set_far (n := blk_y) 3 (.int .i64 zk.y) ne_x_y.out (set_far (n := blk_y) 2 (.int .i64 zk.y) ne_x_y.out (set_far (n := blk_y) 1 (.int .i64 zk.g) ne_x_y.out (set_far (n := blk_y) 0 (.int .i64 zk.g) ne_x_y.out R4_x.out)))))))); exact h2
            have R5_v : V5.heap[blk_v]? = some (.cells #[.int .i64 q.glo, .int .i64 q.ghi, .int .i64 q.ylo, .int .i64 q.yhi, .int .i64 q.wlo, .int .i64 q.whi] 35 (0, 0)) := by rw [← hV5]; have h2 := (set_far (n := blk_y) 7 (.int .i64 zk.w) ne_v_y.out (set_far (n := blk_y) 6 (.int .i64 zk.w) ne_v_y.out (set_far (n := blk_y) 5 (.int .i64 zk.t) ne_v_y.out (set_far (n := blk_y) 4 (.int .i64 zk.t) ne_v_y.out (set_far (n := blk_y) 3 (.int .i64 zk.y) ne_v_y.out (set_far (n := blk_y) 2 (.int .i64 zk.y) ne_v_y.out (set_far (n := blk_y) 1 (.int .i64 zk.g) ne_v_y.out (set_far (n := blk_y) 0 (.int .i64 zk.g) ne_v_y.out R4_v.out)))))))); exact h2
            have R5_y : V5.heap[blk_y]? = some (.cells #[.int .i64 zk.g, .int .i64 zk.g, .int .i64 zk.y, .int .i64 zk.y, .int .i64 zk.t, .int .i64 zk.t, .int .i64 zk.w, .int .i64 zk.w] 28 (0, 0)) := by rw [← hV5]; have h2 := (set_one (set_one (set_one (set_one (set_one (set_one (set_one (set_one R4_y.out 0 (.int .i64 zk.g)) 1 (.int .i64 zk.g)) 2 (.int .i64 zk.y)) 3 (.int .i64 zk.y)) 4 (.int .i64 zk.t)) 5 (.int .i64 zk.t)) 6 (.int .i64 zk.w)) 7 (.int .i64 zk.w)); simp only [List.setIfInBounds_toArray, List.set_cons_zero, List.set_cons_succ] at h2; exact h2
            have R5_u : V5.heap[blk_u]? = some (.cells #[.int .i64 qs.glo, .int .i64 qs.ghi, .int .i64 qs.ylo, .int .i64 qs.yhi, .int .i64 qs.wlo, .int .i64 qs.whi] 35 (0, 0)) := by rw [← hV5]; have h2 := (set_far (n := blk_y) 7 (.int .i64 zk.w) ne_u_y.out (set_far (n := blk_y) 6 (.int .i64 zk.w) ne_u_y.out (set_far (n := blk_y) 5 (.int .i64 zk.t) ne_u_y.out (set_far (n := blk_y) 4 (.int .i64 zk.t) ne_u_y.out (set_far (n := blk_y) 3 (.int .i64 zk.y) ne_u_y.out (set_far (n := blk_y) 2 (.int .i64 zk.y) ne_u_y.out (set_far (n := blk_y) 1 (.int .i64 zk.g) ne_u_y.out (set_far (n := blk_y) 0 (.int .i64 zk.g) ne_u_y.out R4_u.out)))))))); exact h2
            have R5_p : V5.heap[blk_p]? = some (.cells #[.int .i64 e1, .int .i64 e2, .int .i64 e3, .int .i64 e4] 31 (0, 0)) := by rw [← hV5]; have h2 := (set_far (n := blk_y) 7 (.int .i64 zk.w) ne_p_y.out (set_far (n := blk_y) 6 (.int .i64 zk.w) ne_p_y.out (set_far (n := blk_y) 5 (.int .i64 zk.t) ne_p_y.out (set_far (n := blk_y) 4 (.int .i64 zk.t) ne_p_y.out (set_far (n := blk_y) 3 (.int .i64 zk.y) ne_p_y.out (set_far (n := blk_y) 2 (.int .i64 zk.y) ne_p_y.out (set_far (n := blk_y) 1 (.int .i64 zk.g) ne_p_y.out (set_far (n := blk_y) 0 (.int .i64 zk.g) ne_p_y.out R4_p.out)))))))); exact h2
            have R5_z : V5.heap[blk_z]? = some (.cells #[.int .i64 zk.g, .int .i64 zk.y, .int .i64 zk.t, .int .i64 zk.w] 31 (0, 0)) := by rw [← hV5]; have h2 := (set_far (n := blk_y) 7 (.int .i64 zk.w) ne_z_y.out (set_far (n := blk_y) 6 (.int .i64 zk.w) ne_z_y.out (set_far (n := blk_y) 5 (.int .i64 zk.t) ne_z_y.out (set_far (n := blk_y) 4 (.int .i64 zk.t) ne_z_y.out (set_far (n := blk_y) 3 (.int .i64 zk.y) ne_z_y.out (set_far (n := blk_y) 2 (.int .i64 zk.y) ne_z_y.out (set_far (n := blk_y) 1 (.int .i64 zk.g) ne_z_y.out (set_far (n := blk_y) 0 (.int .i64 zk.g) ne_z_y.out R4_z.out)))))))); exact h2
            have R5_zo : V5.heap[blk_zo]? = some (.cells #[.int .i64 gk.g, .int .i64 gk.y, .int .i64 0, .int .i64 gk.w] 31 (0, 0)) := by rw [← hV5]; have h2 := (set_far (n := blk_y) 7 (.int .i64 zk.w) ne_zo_y.out (set_far (n := blk_y) 6 (.int .i64 zk.w) ne_zo_y.out (set_far (n := blk_y) 5 (.int .i64 zk.t) ne_zo_y.out (set_far (n := blk_y) 4 (.int .i64 zk.t) ne_zo_y.out (set_far (n := blk_y) 3 (.int .i64 zk.y) ne_zo_y.out (set_far (n := blk_y) 2 (.int .i64 zk.y) ne_zo_y.out (set_far (n := blk_y) 1 (.int .i64 zk.g) ne_zo_y.out (set_far (n := blk_y) 0 (.int .i64 zk.g) ne_zo_y.out R4_zo.out)))))))); exact h2
            have B5 : Below w.heap.size w V5 := by rw [← hV5]; exact (Below.setCell (p := ⟨blk_y, 7, none⟩) (Below.setCell (p := ⟨blk_y, 6, none⟩) (Below.setCell (p := ⟨blk_y, 5, none⟩) (Below.setCell (p := ⟨blk_y, 4, none⟩) (Below.setCell (p := ⟨blk_y, 3, none⟩) (Below.setCell (p := ⟨blk_y, 2, none⟩) (Below.setCell (p := ⟨blk_y, 1, none⟩) (Below.setCell (p := ⟨blk_y, 0, none⟩) B4 le_y.out (.int .i64 zk.g)) le_y.out (.int .i64 zk.g)) le_y.out (.int .i64 zk.y)) le_y.out (.int .i64 zk.y)) le_y.out (.int .i64 zk.t)) le_y.out (.int .i64 zk.t)) le_y.out (.int .i64 zk.w)) le_y.out (.int .i64 zk.w))
            clear hV5
            clear q4_y_0 f4_y_0 q4_y_1 f4_y_1 q4_y_2 f4_y_2 q4_y_3 f4_y_3 q4_y_4 f4_y_4 q4_y_5 f4_y_5 q4_y_6 f4_y_6 q4_y_7 f4_y_7 q4_u_0 f4_u_0 q4_u_1 f4_u_1 q4_u_2 f4_u_2 q4_u_3 f4_u_3 q4_u_4 f4_u_4 q4_u_5 f4_u_5 q4_z_0 q4_z_1 q4_z_2 q4_z_3 q4_zo_0 q4_zo_1 q4_zo_2 q4_zo_3
            have E5_c := Lib.hid R5_c
            obtain ⟨z5_c, r5_c, t5_c⟩ := row_cells R5_c
            clear r5_c t5_c R5_c
            have E5_s := Lib.hid R5_s
            obtain ⟨z5_s, r5_s, t5_s⟩ := row_cells R5_s
            clear r5_s t5_s R5_s
            have E5_o := Lib.hid R5_o
            obtain ⟨z5_o, r5_o, t5_o⟩ := row_cells R5_o
            clear r5_o t5_o R5_o
            have E5_x := Lib.hid R5_x
            obtain ⟨z5_x, r5_x, t5_x⟩ := row_cells R5_x
            clear r5_x t5_x R5_x
            have E5_v := Lib.hid R5_v
            obtain ⟨z5_v, r5_v, t5_v⟩ := row_cells R5_v
            clear r5_v t5_v R5_v
            have E5_y := Lib.hid R5_y
            obtain ⟨z5_y, r5_y, t5_y⟩ := row_cells R5_y
            obtain ⟨q5_y_0, q5_y_1, q5_y_2, q5_y_3, q5_y_4, q5_y_5, q5_y_6, q5_y_7⟩ := rc8 R5_y
            obtain ⟨f5_y_0, f5_y_1, f5_y_2, f5_y_3, f5_y_4, f5_y_5, f5_y_6, f5_y_7⟩ := rf8 R5_y
            clear r5_y t5_y R5_y
            have E5_u := Lib.hid R5_u
            obtain ⟨z5_u, r5_u, t5_u⟩ := row_cells R5_u
            obtain ⟨q5_u_0, q5_u_1, q5_u_2, q5_u_3, q5_u_4, q5_u_5⟩ := rc6 R5_u
            obtain ⟨f5_u_0, f5_u_1, f5_u_2, f5_u_3, f5_u_4, f5_u_5⟩ := rf6 R5_u
            clear r5_u t5_u R5_u
            have E5_p := Lib.hid R5_p
            obtain ⟨z5_p, r5_p, t5_p⟩ := row_cells R5_p
            clear r5_p t5_p R5_p
            have E5_z := Lib.hid R5_z
            obtain ⟨z5_z, r5_z, t5_z⟩ := row_cells R5_z
            obtain ⟨q5_z_0, q5_z_1, q5_z_2, q5_z_3⟩ := rc4 R5_z
            clear r5_z t5_z R5_z
            have E5_zo := Lib.hid R5_zo
            obtain ⟨z5_zo, r5_zo, t5_zo⟩ := row_cells R5_zo
            obtain ⟨q5_zo_0, q5_zo_1, q5_zo_2, q5_zo_3⟩ := rc4 R5_zo
            clear r5_zo t5_zo R5_zo
            go_wp2_with (fail)
            generalize hV6 : World.setCell _ ⟨blk_u, 5, none⟩ _ = V6
            have R6_c : V6.heap[w.heap.size]? = some (.cells #[.int .i64 c.vlo, .int .i64 c.vhi, .int .i64 c.least, .int .i64 c.most, .int .i64 c.f0, .int .i64 c.f1, .int .i64 c.h0, .int .i64 c.h1, .int .i64 c.rock, .int .i64 c.plo, .int .i64 c.phi] 26 (0, 0)) := by rw [← hV6]; have h2 := (set_far (n := blk_u) 5 (.int .i64 gk.w) ne_c_u.out (set_far (n := blk_u) 4 (.int .i64 gk.w) ne_c_u.out (set_far (n := blk_u) 3 (.int .i64 gk.y) ne_c_u.out (set_far (n := blk_u) 2 (.int .i64 gk.y) ne_c_u.out (set_far (n := blk_u) 1 (.int .i64 gk.g) ne_c_u.out (set_far (n := blk_u) 0 (.int .i64 gk.g) ne_c_u.out E5_c.out)))))); exact h2
            have R6_s : V6.heap[W1.heap.size]? = some (.cells #[.int .i64 s.glo, .int .i64 s.ghi, .int .i64 s.ylo, .int .i64 s.yhi, .int .i64 s.tlo, .int .i64 s.thi, .int .i64 s.wlo, .int .i64 s.whi] 28 (0, 0)) := by rw [← hV6]; have h2 := (set_far (n := blk_u) 5 (.int .i64 gk.w) ne_s_u.out (set_far (n := blk_u) 4 (.int .i64 gk.w) ne_s_u.out (set_far (n := blk_u) 3 (.int .i64 gk.y) ne_s_u.out (set_far (n := blk_u) 2 (.int .i64 gk.y) ne_s_u.out (set_far (n := blk_u) 1 (.int .i64 gk.g) ne_s_u.out (set_far (n := blk_u) 0 (.int .i64 gk.g) ne_s_u.out E5_s.out)))))); exact h2
            have R6_o : V6.heap[W2.heap.size]? = some (.cells #[.int .i64 o.kind, .int .i64 o.lg, .int .i64 o.ly, .int .i64 o.lt, .int .i64 o.lw, .int .i64 o.moles, .int .i64 o.slo, .int .i64 o.shi, .int .i64 o.wlo, .int .i64 o.whi] 33 (0, 0)) := by rw [← hV6]; have h2 := (set_far (n := blk_u) 5 (.int .i64 gk.w) ne_o_u.out (set_far (n := blk_u) 4 (.int .i64 gk.w) ne_o_u.out (set_far (n := blk_u) 3 (.int .i64 gk.y) ne_o_u.out (set_far (n := blk_u) 2 (.int .i64 gk.y) ne_o_u.out (set_far (n := blk_u) 1 (.int .i64 gk.g) ne_o_u.out (set_far (n := blk_u) 0 (.int .i64 gk.g) ne_o_u.out E5_o.out)))))); exact h2
            have R6_x : V6.heap[blk_x]? = some (.cells #[.int .i64 nx.glo, .int .i64 nx.ghi, .int .i64 nx.ylo, .int .i64 nx.yhi, .int .i64 nx.tlo, .int .i64 nx.thi, .int .i64 nx.wlo, .int .i64 nx.whi] 28 (0, 0)) := by rw [← hV6]; have h2 := (set_far (n := blk_u) 5 (.int .i64 gk.w) ne_x_u.out (set_far (n := blk_u) 4 (.int .i64 gk.w) ne_x_u.out (set_far (n := blk_u) 3 (.int .i64 gk.y) ne_x_u.out (set_far (n := blk_u) 2 (.int .i64 gk.y) ne_x_u.out (set_far (n := blk_u) 1 (.int .i64 gk.g) ne_x_u.out (set_far (n := blk_u) 0 (.int .i64 gk.g) ne_x_u.out E5_x.out)))))); exact h2
            have R6_v : V6.heap[blk_v]? = some (.cells #[.int .i64 q.glo, .int .i64 q.ghi, .int .i64 q.ylo, .int .i64 q.yhi, .int .i64 q.wlo, .int .i64 q.whi] 35 (0, 0)) := by rw [← hV6]; have h2 := (set_far (n := blk_u) 5 (.int .i64 gk.w) ne_v_u.out (set_far (n := blk_u) 4 (.int .i64 gk.w) ne_v_u.out (set_far (n := blk_u) 3 (.int .i64 gk.y) ne_v_u.out (set_far (n := blk_u) 2 (.int .i64 gk.y) ne_v_u.out (set_far (n := blk_u) 1 (.int .i64 gk.g) ne_v_u.out (set_far (n := blk_u) 0 (.int .i64 gk.g) ne_v_u.out E5_v.out)))))); exact h2
            have R6_y : V6.heap[blk_y]? = some (.cells #[.int .i64 zk.g, .int .i64 zk.g, .int .i64 zk.y, .int .i64 zk.y, .int .i64 zk.t, .int .i64 zk.t, .int .i64 zk.w, .int .i64 zk.w] 28 (0, 0)) := by rw [← hV6]; have h2 := (set_far (n := blk_u) 5 (.int .i64 gk.w) ne_y_u.out (set_far (n := blk_u) 4 (.int .i64 gk.w) ne_y_u.out (set_far (n := blk_u) 3 (.int .i64 gk.y) ne_y_u.out (set_far (n := blk_u) 2 (.int .i64 gk.y) ne_y_u.out (set_far (n := blk_u) 1 (.int .i64 gk.g) ne_y_u.out (set_far (n := blk_u) 0 (.int .i64 gk.g) ne_y_u.out E5_y.out)))))); exact h2
            have R6_u : V6.heap[blk_u]? = some (.cells #[.int .i64 gk.g, .int .i64 gk.g, .int .i64 gk.y, .int .i64 gk.y, .int .i64 gk.w, .int .i64 gk.w] 35 (0, 0)) := by rw [← hV6]; have h2 := (set_one (set_one (set_one (set_one (set_one (set_one E5_u.out 0 (.int .i64 gk.g)) 1 (.int .i64 gk.g)) 2 (.int .i64 gk.y)) 3 (.int .i64 gk.y)) 4 (.int .i64 gk.w)) 5 (.int .i64 gk.w)); simp only [List.setIfInBounds_toArray, List.set_cons_zero, List.set_cons_succ] at h2; exact h2
            have R6_p : V6.heap[blk_p]? = some (.cells #[.int .i64 e1, .int .i64 e2, .int .i64 e3, .int .i64 e4] 31 (0, 0)) := by rw [← hV6]; have h2 := (set_far (n := blk_u) 5 (.int .i64 gk.w) ne_p_u.out (set_far (n := blk_u) 4 (.int .i64 gk.w) ne_p_u.out (set_far (n := blk_u) 3 (.int .i64 gk.y) ne_p_u.out (set_far (n := blk_u) 2 (.int .i64 gk.y) ne_p_u.out (set_far (n := blk_u) 1 (.int .i64 gk.g) ne_p_u.out (set_far (n := blk_u) 0 (.int .i64 gk.g) ne_p_u.out E5_p.out)))))); exact h2
            have R6_z : V6.heap[blk_z]? = some (.cells #[.int .i64 zk.g, .int .i64 zk.y, .int .i64 zk.t, .int .i64 zk.w] 31 (0, 0)) := by rw [← hV6]; have h2 := (set_far (n := blk_u) 5 (.int .i64 gk.w) ne_z_u.out (set_far (n := blk_u) 4 (.int .i64 gk.w) ne_z_u.out (set_far (n := blk_u) 3 (.int .i64 gk.y) ne_z_u.out (set_far (n := blk_u) 2 (.int .i64 gk.y) ne_z_u.out (set_far (n := blk_u) 1 (.int .i64 gk.g) ne_z_u.out (set_far (n := blk_u) 0 (.int .i64 gk.g) ne_z_u.out E5_z.out)))))); exact h2
            have R6_zo : V6.heap[blk_zo]? = some (.cells #[.int .i64 gk.g, .int .i64 gk.y, .int .i64 0, .int .i64 gk.w] 31 (0, 0)) := by rw [← hV6]; have h2 := (set_far (n := blk_u) 5 (.int .i64 gk.w) ne_zo_u.out (set_far (n := blk_u) 4 (.int .i64 gk.w) ne_zo_u.out (set_far (n := blk_u) 3 (.int .i64 gk.y) ne_zo_u.out (set_far (n := blk_u) 2 (.int .i64 gk.y) ne_zo_u.out (set_far (n := blk_u) 1 (.int .i64 gk.g) ne_zo_u.out (set_far (n := blk_u) 0 (.int .i64 gk.g) ne_zo_u.out E5_zo.out)))))); exact h2
            have B6 : Below w.heap.size w V6 := by rw [← hV6]; exact (Below.setCell (p := ⟨blk_u, 5, none⟩) (Below.setCell (p := ⟨blk_u, 4, none⟩) (Below.setCell (p := ⟨blk_u, 3, none⟩) (Below.setCell (p := ⟨blk_u, 2, none⟩) (Below.setCell (p := ⟨blk_u, 1, none⟩) (Below.setCell (p := ⟨blk_u, 0, none⟩) B5 le_u.out (.int .i64 gk.g)) le_u.out (.int .i64 gk.g)) le_u.out (.int .i64 gk.y)) le_u.out (.int .i64 gk.y)) le_u.out (.int .i64 gk.w)) le_u.out (.int .i64 gk.w))
            clear hV6
            clear q5_y_0 f5_y_0 q5_y_1 f5_y_1 q5_y_2 f5_y_2 q5_y_3 f5_y_3 q5_y_4 f5_y_4 q5_y_5 f5_y_5 q5_y_6 f5_y_6 q5_y_7 f5_y_7 q5_u_0 f5_u_0 q5_u_1 f5_u_1 q5_u_2 f5_u_2 q5_u_3 f5_u_3 q5_u_4 f5_u_4 q5_u_5 f5_u_5 q5_z_0 q5_z_1 q5_z_2 q5_z_3 q5_zo_0 q5_zo_1 q5_zo_2 q5_zo_3
            have E6_c := Lib.hid R6_c
            obtain ⟨z6_c, r6_c, t6_c⟩ := row_cells R6_c
            clear r6_c t6_c R6_c
            have E6_s := Lib.hid R6_s
            obtain ⟨z6_s, r6_s, t6_s⟩ := row_cells R6_s
            clear r6_s t6_s R6_s
            have E6_o := Lib.hid R6_o
            obtain ⟨z6_o, r6_o, t6_o⟩ := row_cells R6_o
            clear r6_o t6_o R6_o
            have E6_x := Lib.hid R6_x
            obtain ⟨z6_x, r6_x, t6_x⟩ := row_cells R6_x
            clear r6_x t6_x R6_x
            have E6_v := Lib.hid R6_v
            obtain ⟨z6_v, r6_v, t6_v⟩ := row_cells R6_v
            clear r6_v t6_v R6_v
            have E6_y := Lib.hid R6_y
            obtain ⟨z6_y, r6_y, t6_y⟩ := row_cells R6_y
            obtain ⟨q6_y_0, q6_y_1, q6_y_2, q6_y_3, q6_y_4, q6_y_5, q6_y_6, q6_y_7⟩ := rc8 R6_y
            obtain ⟨f6_y_0, f6_y_1, f6_y_2, f6_y_3, f6_y_4, f6_y_5, f6_y_6, f6_y_7⟩ := rf8 R6_y
            clear r6_y t6_y R6_y
            have E6_u := Lib.hid R6_u
            obtain ⟨z6_u, r6_u, t6_u⟩ := row_cells R6_u
            obtain ⟨q6_u_0, q6_u_1, q6_u_2, q6_u_3, q6_u_4, q6_u_5⟩ := rc6 R6_u
            obtain ⟨f6_u_0, f6_u_1, f6_u_2, f6_u_3, f6_u_4, f6_u_5⟩ := rf6 R6_u
            clear r6_u t6_u R6_u
            have E6_p := Lib.hid R6_p
            obtain ⟨z6_p, r6_p, t6_p⟩ := row_cells R6_p
            clear r6_p t6_p R6_p
            have E6_z := Lib.hid R6_z
            obtain ⟨z6_z, r6_z, t6_z⟩ := row_cells R6_z
            obtain ⟨q6_z_0, q6_z_1, q6_z_2, q6_z_3⟩ := rc4 R6_z
            clear r6_z t6_z R6_z
            have E6_zo := Lib.hid R6_zo
            obtain ⟨z6_zo, r6_zo, t6_zo⟩ := row_cells R6_zo
            obtain ⟨q6_zo_0, q6_zo_1, q6_zo_2, q6_zo_3⟩ := rc4 R6_zo
            clear r6_zo t6_zo R6_zo
            have hgw6 := grow_cell V6
            have hgf := grow_frozen V6
            refine wp_grow_tail 21 (by kernel_rfl) (by kernel_rfl) ?_
            simp only [List.take_succ_cons, List.take_zero, List.drop_succ_cons, List.drop_zero]
            repeat (go_big_quiet_step ((first | (go_at_call 24; with_reducible exact Calls.grow (kw0.out _)) | (go_at_call 24; with_reducible exact Calls.grow (kw1.out _)) | (go_at_call 24; with_reducible exact Calls.grow (kw2.out _)) | (go_at_call 24; with_reducible exact Calls.grow (kw3.out _)))))
            refine wpQuiet_nil ?_
            rintro _ ⟨g, rfl⟩
            go_wp2_with (fail)
            clear hgf hgw6
            generalize hV7 : World.setCell _ ⟨blk_y, 7, none⟩ _ = V7
            have gz7 := g.size
            have R7_c : V7.heap[w.heap.size]? = some (.cells #[.int .i64 c.vlo, .int .i64 c.vhi, .int .i64 c.least, .int .i64 c.most, .int .i64 c.f0, .int .i64 c.f1, .int .i64 c.h0, .int .i64 c.h1, .int .i64 c.rock, .int .i64 c.plo, .int .i64 c.phi] 26 (0, 0)) := by rw [← hV7]; have h2 := (set_far (n := blk_y) 7 (.int .i64 b3) ne_c_y.out (set_far (n := blk_y) 6 (.int .i64 a3) ne_c_y.out (set_far (n := blk_y) 5 (.int .i64 b2) ne_c_y.out (set_far (n := blk_y) 4 (.int .i64 a2) ne_c_y.out (set_far (n := blk_y) 3 (.int .i64 b1) ne_c_y.out (set_far (n := blk_y) 2 (.int .i64 a1) ne_c_y.out (set_far (n := blk_y) 1 (.int .i64 b0) ne_c_y.out (set_far (n := blk_y) 0 (.int .i64 a0) ne_c_y.out ((g.h.block _ z6_c).trans E6_c.out))))))))); exact h2
            have R7_s : V7.heap[W1.heap.size]? = some (.cells #[.int .i64 s.glo, .int .i64 s.ghi, .int .i64 s.ylo, .int .i64 s.yhi, .int .i64 s.tlo, .int .i64 s.thi, .int .i64 s.wlo, .int .i64 s.whi] 28 (0, 0)) := by rw [← hV7]; have h2 := (set_far (n := blk_y) 7 (.int .i64 b3) ne_s_y.out (set_far (n := blk_y) 6 (.int .i64 a3) ne_s_y.out (set_far (n := blk_y) 5 (.int .i64 b2) ne_s_y.out (set_far (n := blk_y) 4 (.int .i64 a2) ne_s_y.out (set_far (n := blk_y) 3 (.int .i64 b1) ne_s_y.out (set_far (n := blk_y) 2 (.int .i64 a1) ne_s_y.out (set_far (n := blk_y) 1 (.int .i64 b0) ne_s_y.out (set_far (n := blk_y) 0 (.int .i64 a0) ne_s_y.out ((g.h.block _ z6_s).trans E6_s.out))))))))); exact h2
            have R7_o : V7.heap[W2.heap.size]? = some (.cells #[.int .i64 o.kind, .int .i64 o.lg, .int .i64 o.ly, .int .i64 o.lt, .int .i64 o.lw, .int .i64 o.moles, .int .i64 o.slo, .int .i64 o.shi, .int .i64 o.wlo, .int .i64 o.whi] 33 (0, 0)) := by rw [← hV7]; have h2 := (set_far (n := blk_y) 7 (.int .i64 b3) ne_o_y.out (set_far (n := blk_y) 6 (.int .i64 a3) ne_o_y.out (set_far (n := blk_y) 5 (.int .i64 b2) ne_o_y.out (set_far (n := blk_y) 4 (.int .i64 a2) ne_o_y.out (set_far (n := blk_y) 3 (.int .i64 b1) ne_o_y.out (set_far (n := blk_y) 2 (.int .i64 a1) ne_o_y.out (set_far (n := blk_y) 1 (.int .i64 b0) ne_o_y.out (set_far (n := blk_y) 0 (.int .i64 a0) ne_o_y.out ((g.h.block _ z6_o).trans E6_o.out))))))))); exact h2
            have R7_x : V7.heap[blk_x]? = some (.cells #[.int .i64 nx.glo, .int .i64 nx.ghi, .int .i64 nx.ylo, .int .i64 nx.yhi, .int .i64 nx.tlo, .int .i64 nx.thi, .int .i64 nx.wlo, .int .i64 nx.whi] 28 (0, 0)) := by rw [← hV7]; have h2 := (set_far (n := blk_y) 7 (.int .i64 b3) ne_x_y.out (set_far (n := blk_y) 6 (.int .i64 a3) ne_x_y.out (set_far (n := blk_y) 5 (.int .i64 b2) ne_x_y.out (set_far (n := blk_y) 4 (.int .i64 a2) ne_x_y.out (set_far (n := blk_y) 3 (.int .i64 b1) ne_x_y.out (set_far (n := blk_y) 2 (.int .i64 a1) ne_x_y.out (set_far (n := blk_y) 1 (.int .i64 b0) ne_x_y.out (set_far (n := blk_y) 0 (.int .i64 a0) ne_x_y.out ((g.h.block _ z6_x).trans E6_x.out))))))))); exact h2
            have R7_v : V7.heap[blk_v]? = some (.cells #[.int .i64 q.glo, .int .i64 q.ghi, .int .i64 q.ylo, .int .i64 q.yhi, .int .i64 q.wlo, .int .i64 q.whi] 35 (0, 0)) := by rw [← hV7]; have h2 := (set_far (n := blk_y) 7 (.int .i64 b3) ne_v_y.out (set_far (n := blk_y) 6 (.int .i64 a3) ne_v_y.out (set_far (n := blk_y) 5 (.int .i64 b2) ne_v_y.out (set_far (n := blk_y) 4 (.int .i64 a2) ne_v_y.out (set_far (n := blk_y) 3 (.int .i64 b1) ne_v_y.out (set_far (n := blk_y) 2 (.int .i64 a1) ne_v_y.out (set_far (n := blk_y) 1 (.int .i64 b0) ne_v_y.out (set_far (n := blk_y) 0 (.int .i64 a0) ne_v_y.out ((g.h.block _ z6_v).trans E6_v.out))))))))); exact h2
            have R7_y : V7.heap[blk_y]? = some (.cells #[.int .i64 a0, .int .i64 b0, .int .i64 a1, .int .i64 b1, .int .i64 a2, .int .i64 b2, .int .i64 a3, .int .i64 b3] 28 (0, 0)) := by rw [← hV7]; have h2 := (set_one (set_one (set_one (set_one (set_one (set_one (set_one (set_one ((g.h.block _ z6_y).trans E6_y.out) 0 (.int .i64 a0)) 1 (.int .i64 b0)) 2 (.int .i64 a1)) 3 (.int .i64 b1)) 4 (.int .i64 a2)) 5 (.int .i64 b2)) 6 (.int .i64 a3)) 7 (.int .i64 b3)); simp only [List.setIfInBounds_toArray, List.set_cons_zero, List.set_cons_succ] at h2; exact h2
            have R7_u : V7.heap[blk_u]? = some (.cells #[.int .i64 gk.g, .int .i64 gk.g, .int .i64 gk.y, .int .i64 gk.y, .int .i64 gk.w, .int .i64 gk.w] 35 (0, 0)) := by rw [← hV7]; have h2 := (set_far (n := blk_y) 7 (.int .i64 b3) ne_u_y.out (set_far (n := blk_y) 6 (.int .i64 a3) ne_u_y.out (set_far (n := blk_y) 5 (.int .i64 b2) ne_u_y.out (set_far (n := blk_y) 4 (.int .i64 a2) ne_u_y.out (set_far (n := blk_y) 3 (.int .i64 b1) ne_u_y.out (set_far (n := blk_y) 2 (.int .i64 a1) ne_u_y.out (set_far (n := blk_y) 1 (.int .i64 b0) ne_u_y.out (set_far (n := blk_y) 0 (.int .i64 a0) ne_u_y.out ((g.h.block _ z6_u).trans E6_u.out))))))))); exact h2
            have R7_p : V7.heap[blk_p]? = some (.cells #[.int .i64 e1, .int .i64 e2, .int .i64 e3, .int .i64 e4] 31 (0, 0)) := by rw [← hV7]; have h2 := (set_far (n := blk_y) 7 (.int .i64 b3) ne_p_y.out (set_far (n := blk_y) 6 (.int .i64 a3) ne_p_y.out (set_far (n := blk_y) 5 (.int .i64 b2) ne_p_y.out (set_far (n := blk_y) 4 (.int .i64 a2) ne_p_y.out (set_far (n := blk_y) 3 (.int .i64 b1) ne_p_y.out (set_far (n := blk_y) 2 (.int .i64 a1) ne_p_y.out (set_far (n := blk_y) 1 (.int .i64 b0) ne_p_y.out (set_far (n := blk_y) 0 (.int .i64 a0) ne_p_y.out ((g.h.block _ z6_p).trans E6_p.out))))))))); exact h2
            have R7_z : V7.heap[blk_z]? = some (.cells #[.int .i64 zk.g, .int .i64 zk.y, .int .i64 zk.t, .int .i64 zk.w] 31 (0, 0)) := by rw [← hV7]; have h2 := (set_far (n := blk_y) 7 (.int .i64 b3) ne_z_y.out (set_far (n := blk_y) 6 (.int .i64 a3) ne_z_y.out (set_far (n := blk_y) 5 (.int .i64 b2) ne_z_y.out (set_far (n := blk_y) 4 (.int .i64 a2) ne_z_y.out (set_far (n := blk_y) 3 (.int .i64 b1) ne_z_y.out (set_far (n := blk_y) 2 (.int .i64 a1) ne_z_y.out (set_far (n := blk_y) 1 (.int .i64 b0) ne_z_y.out (set_far (n := blk_y) 0 (.int .i64 a0) ne_z_y.out ((g.h.block _ z6_z).trans E6_z.out))))))))); exact h2
            have R7_zo : V7.heap[blk_zo]? = some (.cells #[.int .i64 gk.g, .int .i64 gk.y, .int .i64 0, .int .i64 gk.w] 31 (0, 0)) := by rw [← hV7]; have h2 := (set_far (n := blk_y) 7 (.int .i64 b3) ne_zo_y.out (set_far (n := blk_y) 6 (.int .i64 a3) ne_zo_y.out (set_far (n := blk_y) 5 (.int .i64 b2) ne_zo_y.out (set_far (n := blk_y) 4 (.int .i64 a2) ne_zo_y.out (set_far (n := blk_y) 3 (.int .i64 b1) ne_zo_y.out (set_far (n := blk_y) 2 (.int .i64 a1) ne_zo_y.out (set_far (n := blk_y) 1 (.int .i64 b0) ne_zo_y.out (set_far (n := blk_y) 0 (.int .i64 a0) ne_zo_y.out ((g.h.block _ z6_zo).trans E6_zo.out))))))))); exact h2
            have B7 : Below w.heap.size w V7 := by rw [← hV7]; exact (Below.setCell (p := ⟨blk_y, 7, none⟩) (Below.setCell (p := ⟨blk_y, 6, none⟩) (Below.setCell (p := ⟨blk_y, 5, none⟩) (Below.setCell (p := ⟨blk_y, 4, none⟩) (Below.setCell (p := ⟨blk_y, 3, none⟩) (Below.setCell (p := ⟨blk_y, 2, none⟩) (Below.setCell (p := ⟨blk_y, 1, none⟩) (Below.setCell (p := ⟨blk_y, 0, none⟩) (B6.trans (g.h.mono B6.size)) le_y.out (.int .i64 a0)) le_y.out (.int .i64 b0)) le_y.out (.int .i64 a1)) le_y.out (.int .i64 b1)) le_y.out (.int .i64 a2)) le_y.out (.int .i64 b2)) le_y.out (.int .i64 a3)) le_y.out (.int .i64 b3))
            clear hV7 gz7
            clear q6_y_0 f6_y_0 q6_y_1 f6_y_1 q6_y_2 f6_y_2 q6_y_3 f6_y_3 q6_y_4 f6_y_4 q6_y_5 f6_y_5 q6_y_6 f6_y_6 q6_y_7 f6_y_7 q6_u_0 f6_u_0 q6_u_1 f6_u_1 q6_u_2 f6_u_2 q6_u_3 f6_u_3 q6_u_4 f6_u_4 q6_u_5 f6_u_5 q6_z_0 q6_z_1 q6_z_2 q6_z_3 q6_zo_0 q6_zo_1 q6_zo_2 q6_zo_3
            have E7_c := Lib.hid R7_c
            obtain ⟨z7_c, r7_c, t7_c⟩ := row_cells R7_c
            clear r7_c t7_c R7_c
            have E7_s := Lib.hid R7_s
            obtain ⟨z7_s, r7_s, t7_s⟩ := row_cells R7_s
            clear r7_s t7_s R7_s
            have E7_o := Lib.hid R7_o
            obtain ⟨z7_o, r7_o, t7_o⟩ := row_cells R7_o
            clear r7_o t7_o R7_o
            have E7_x := Lib.hid R7_x
            obtain ⟨z7_x, r7_x, t7_x⟩ := row_cells R7_x
            clear r7_x t7_x R7_x
            have E7_v := Lib.hid R7_v
            obtain ⟨z7_v, r7_v, t7_v⟩ := row_cells R7_v
            clear r7_v t7_v R7_v
            have E7_y := Lib.hid R7_y
            obtain ⟨z7_y, r7_y, t7_y⟩ := row_cells R7_y
            clear r7_y t7_y R7_y
            have E7_u := Lib.hid R7_u
            obtain ⟨z7_u, r7_u, t7_u⟩ := row_cells R7_u
            obtain ⟨q7_u_0, q7_u_1, q7_u_2, q7_u_3, q7_u_4, q7_u_5⟩ := rc6 R7_u
            obtain ⟨f7_u_0, f7_u_1, f7_u_2, f7_u_3, f7_u_4, f7_u_5⟩ := rf6 R7_u
            clear r7_u t7_u R7_u
            have E7_p := Lib.hid R7_p
            obtain ⟨z7_p, r7_p, t7_p⟩ := row_cells R7_p
            clear r7_p t7_p R7_p
            have E7_z := Lib.hid R7_z
            obtain ⟨z7_z, r7_z, t7_z⟩ := row_cells R7_z
            clear r7_z t7_z R7_z
            have E7_zo := Lib.hid R7_zo
            obtain ⟨z7_zo, r7_zo, t7_zo⟩ := row_cells R7_zo
            obtain ⟨q7_zo_0, q7_zo_1, q7_zo_2, q7_zo_3⟩ := rc4 R7_zo
            clear r7_zo t7_zo R7_zo
            have hgw7 := grow_cell V7
            have hgf := grow_frozen V7
            refine wp_grow_tail 16 (by kernel_rfl) (by kernel_rfl) ?_
            simp only [List.take_succ_cons, List.take_zero, List.drop_succ_cons, List.drop_zero]
            repeat (go_big_quiet_step ((first | (go_at_call 24; with_reducible exact Calls.grow (kw4.out _)) | (go_at_call 24; with_reducible exact Calls.grow (kw5.out _)) | (go_at_call 24; with_reducible exact Calls.grow (kw6.out _)))))
            refine wpQuiet_nil ?_
            rintro _ ⟨g, rfl⟩
            go_wp2_with (fail)
            clear hgf hgw7
            generalize hV8 : World.setCell _ ⟨blk_u, 5, none⟩ _ = V8
            have gz8 := g.size
            have R8_c : V8.heap[w.heap.size]? = some (.cells #[.int .i64 c.vlo, .int .i64 c.vhi, .int .i64 c.least, .int .i64 c.most, .int .i64 c.f0, .int .i64 c.f1, .int .i64 c.h0, .int .i64 c.h1, .int .i64 c.rock, .int .i64 c.plo, .int .i64 c.phi] 26 (0, 0)) := by rw [← hV8]; have h2 := (set_far (n := blk_u) 5 (.int .i64 b6) ne_c_u.out (set_far (n := blk_u) 4 (.int .i64 a6) ne_c_u.out (set_far (n := blk_u) 3 (.int .i64 b5) ne_c_u.out (set_far (n := blk_u) 2 (.int .i64 a5) ne_c_u.out (set_far (n := blk_u) 1 (.int .i64 b4) ne_c_u.out (set_far (n := blk_u) 0 (.int .i64 a4) ne_c_u.out ((g.h.block _ z7_c).trans E7_c.out))))))); exact h2
            have R8_s : V8.heap[W1.heap.size]? = some (.cells #[.int .i64 s.glo, .int .i64 s.ghi, .int .i64 s.ylo, .int .i64 s.yhi, .int .i64 s.tlo, .int .i64 s.thi, .int .i64 s.wlo, .int .i64 s.whi] 28 (0, 0)) := by rw [← hV8]; have h2 := (set_far (n := blk_u) 5 (.int .i64 b6) ne_s_u.out (set_far (n := blk_u) 4 (.int .i64 a6) ne_s_u.out (set_far (n := blk_u) 3 (.int .i64 b5) ne_s_u.out (set_far (n := blk_u) 2 (.int .i64 a5) ne_s_u.out (set_far (n := blk_u) 1 (.int .i64 b4) ne_s_u.out (set_far (n := blk_u) 0 (.int .i64 a4) ne_s_u.out ((g.h.block _ z7_s).trans E7_s.out))))))); exact h2
            have R8_o : V8.heap[W2.heap.size]? = some (.cells #[.int .i64 o.kind, .int .i64 o.lg, .int .i64 o.ly, .int .i64 o.lt, .int .i64 o.lw, .int .i64 o.moles, .int .i64 o.slo, .int .i64 o.shi, .int .i64 o.wlo, .int .i64 o.whi] 33 (0, 0)) := by rw [← hV8]; have h2 := (set_far (n := blk_u) 5 (.int .i64 b6) ne_o_u.out (set_far (n := blk_u) 4 (.int .i64 a6) ne_o_u.out (set_far (n := blk_u) 3 (.int .i64 b5) ne_o_u.out (set_far (n := blk_u) 2 (.int .i64 a5) ne_o_u.out (set_far (n := blk_u) 1 (.int .i64 b4) ne_o_u.out (set_far (n := blk_u) 0 (.int .i64 a4) ne_o_u.out ((g.h.block _ z7_o).trans E7_o.out))))))); exact h2
            have R8_x : V8.heap[blk_x]? = some (.cells #[.int .i64 nx.glo, .int .i64 nx.ghi, .int .i64 nx.ylo, .int .i64 nx.yhi, .int .i64 nx.tlo, .int .i64 nx.thi, .int .i64 nx.wlo, .int .i64 nx.whi] 28 (0, 0)) := by rw [← hV8]; have h2 := (set_far (n := blk_u) 5 (.int .i64 b6) ne_x_u.out (set_far (n := blk_u) 4 (.int .i64 a6) ne_x_u.out (set_far (n := blk_u) 3 (.int .i64 b5) ne_x_u.out (set_far (n := blk_u) 2 (.int .i64 a5) ne_x_u.out (set_far (n := blk_u) 1 (.int .i64 b4) ne_x_u.out (set_far (n := blk_u) 0 (.int .i64 a4) ne_x_u.out ((g.h.block _ z7_x).trans E7_x.out))))))); exact h2
            have R8_v : V8.heap[blk_v]? = some (.cells #[.int .i64 q.glo, .int .i64 q.ghi, .int .i64 q.ylo, .int .i64 q.yhi, .int .i64 q.wlo, .int .i64 q.whi] 35 (0, 0)) := by rw [← hV8]; have h2 := (set_far (n := blk_u) 5 (.int .i64 b6) ne_v_u.out (set_far (n := blk_u) 4 (.int .i64 a6) ne_v_u.out (set_far (n := blk_u) 3 (.int .i64 b5) ne_v_u.out (set_far (n := blk_u) 2 (.int .i64 a5) ne_v_u.out (set_far (n := blk_u) 1 (.int .i64 b4) ne_v_u.out (set_far (n := blk_u) 0 (.int .i64 a4) ne_v_u.out ((g.h.block _ z7_v).trans E7_v.out))))))); exact h2
            have R8_y : V8.heap[blk_y]? = some (.cells #[.int .i64 a0, .int .i64 b0, .int .i64 a1, .int .i64 b1, .int .i64 a2, .int .i64 b2, .int .i64 a3, .int .i64 b3] 28 (0, 0)) := by rw [← hV8]; have h2 := (set_far (n := blk_u) 5 (.int .i64 b6) ne_y_u.out (set_far (n := blk_u) 4 (.int .i64 a6) ne_y_u.out (set_far (n := blk_u) 3 (.int .i64 b5) ne_y_u.out (set_far (n := blk_u) 2 (.int .i64 a5) ne_y_u.out (set_far (n := blk_u) 1 (.int .i64 b4) ne_y_u.out (set_far (n := blk_u) 0 (.int .i64 a4) ne_y_u.out ((g.h.block _ z7_y).trans E7_y.out))))))); exact h2
            have R8_u : V8.heap[blk_u]? = some (.cells #[.int .i64 a4, .int .i64 b4, .int .i64 a5, .int .i64 b5, .int .i64 a6, .int .i64 b6] 35 (0, 0)) := by rw [← hV8]; have h2 := (set_one (set_one (set_one (set_one (set_one (set_one ((g.h.block _ z7_u).trans E7_u.out) 0 (.int .i64 a4)) 1 (.int .i64 b4)) 2 (.int .i64 a5)) 3 (.int .i64 b5)) 4 (.int .i64 a6)) 5 (.int .i64 b6)); simp only [List.setIfInBounds_toArray, List.set_cons_zero, List.set_cons_succ] at h2; exact h2
            have R8_p : V8.heap[blk_p]? = some (.cells #[.int .i64 e1, .int .i64 e2, .int .i64 e3, .int .i64 e4] 31 (0, 0)) := by rw [← hV8]; have h2 := (set_far (n := blk_u) 5 (.int .i64 b6) ne_p_u.out (set_far (n := blk_u) 4 (.int .i64 a6) ne_p_u.out (set_far (n := blk_u) 3 (.int .i64 b5) ne_p_u.out (set_far (n := blk_u) 2 (.int .i64 a5) ne_p_u.out (set_far (n := blk_u) 1 (.int .i64 b4) ne_p_u.out (set_far (n := blk_u) 0 (.int .i64 a4) ne_p_u.out ((g.h.block _ z7_p).trans E7_p.out))))))); exact h2
            have R8_z : V8.heap[blk_z]? = some (.cells #[.int .i64 zk.g, .int .i64 zk.y, .int .i64 zk.t, .int .i64 zk.w] 31 (0, 0)) := by rw [← hV8]; have h2 := (set_far (n := blk_u) 5 (.int .i64 b6) ne_z_u.out (set_far (n := blk_u) 4 (.int .i64 a6) ne_z_u.out (set_far (n := blk_u) 3 (.int .i64 b5) ne_z_u.out (set_far (n := blk_u) 2 (.int .i64 a5) ne_z_u.out (set_far (n := blk_u) 1 (.int .i64 b4) ne_z_u.out (set_far (n := blk_u) 0 (.int .i64 a4) ne_z_u.out ((g.h.block _ z7_z).trans E7_z.out))))))); exact h2
            have R8_zo : V8.heap[blk_zo]? = some (.cells #[.int .i64 gk.g, .int .i64 gk.y, .int .i64 0, .int .i64 gk.w] 31 (0, 0)) := by rw [← hV8]; have h2 := (set_far (n := blk_u) 5 (.int .i64 b6) ne_zo_u.out (set_far (n := blk_u) 4 (.int .i64 a6) ne_zo_u.out (set_far (n := blk_u) 3 (.int .i64 b5) ne_zo_u.out (set_far (n := blk_u) 2 (.int .i64 a5) ne_zo_u.out (set_far (n := blk_u) 1 (.int .i64 b4) ne_zo_u.out (set_far (n := blk_u) 0 (.int .i64 a4) ne_zo_u.out ((g.h.block _ z7_zo).trans E7_zo.out))))))); exact h2
            have B8 : Below w.heap.size w V8 := by rw [← hV8]; exact (Below.setCell (p := ⟨blk_u, 5, none⟩) (Below.setCell (p := ⟨blk_u, 4, none⟩) (Below.setCell (p := ⟨blk_u, 3, none⟩) (Below.setCell (p := ⟨blk_u, 2, none⟩) (Below.setCell (p := ⟨blk_u, 1, none⟩) (Below.setCell (p := ⟨blk_u, 0, none⟩) (B7.trans (g.h.mono B7.size)) le_u.out (.int .i64 a4)) le_u.out (.int .i64 b4)) le_u.out (.int .i64 a5)) le_u.out (.int .i64 b5)) le_u.out (.int .i64 a6)) le_u.out (.int .i64 b6))
            clear hV8 gz8
            clear q7_u_0 f7_u_0 q7_u_1 f7_u_1 q7_u_2 f7_u_2 q7_u_3 f7_u_3 q7_u_4 f7_u_4 q7_u_5 f7_u_5 q7_zo_0 q7_zo_1 q7_zo_2 q7_zo_3
            have E8_c := Lib.hid R8_c
            obtain ⟨z8_c, r8_c, t8_c⟩ := row_cells R8_c
            clear r8_c t8_c R8_c
            have E8_s := Lib.hid R8_s
            obtain ⟨z8_s, r8_s, t8_s⟩ := row_cells R8_s
            clear r8_s t8_s R8_s
            have E8_o := Lib.hid R8_o
            obtain ⟨z8_o, r8_o, t8_o⟩ := row_cells R8_o
            clear r8_o t8_o R8_o
            have E8_x := Lib.hid R8_x
            obtain ⟨z8_x, r8_x, t8_x⟩ := row_cells R8_x
            clear r8_x t8_x R8_x
            have E8_v := Lib.hid R8_v
            obtain ⟨z8_v, r8_v, t8_v⟩ := row_cells R8_v
            clear r8_v t8_v R8_v
            have E8_y := Lib.hid R8_y
            obtain ⟨z8_y, r8_y, t8_y⟩ := row_cells R8_y
            clear r8_y t8_y R8_y
            have E8_u := Lib.hid R8_u
            obtain ⟨z8_u, r8_u, t8_u⟩ := row_cells R8_u
            clear r8_u t8_u R8_u
            have E8_p := Lib.hid R8_p
            obtain ⟨z8_p, r8_p, t8_p⟩ := row_cells R8_p
            clear r8_p t8_p R8_p
            have E8_z := Lib.hid R8_z
            obtain ⟨z8_z, r8_z, t8_z⟩ := row_cells R8_z
            clear r8_z t8_z R8_z
            have E8_zo := Lib.hid R8_zo
            obtain ⟨z8_zo, r8_zo, t8_zo⟩ := row_cells R8_zo
            clear r8_zo t8_zo R8_zo
            have hgw8 := grow_cell V8
            have hnew : (⟨a0, b0, a1, b1, a2, b2, a3, b3⟩ : St) = foldS (zAt c s o) 0 ∧ (⟨a4, b4, a5, b5, a6, b6⟩ : Out) = foldQ (gAt c s o) 0 := by
              have hz0 := hzk.out; have hg0 := hgk.out
              rw [hk0] at hz0 hg0
              unfold foldS foldQ foldLo foldHi
              rw [hz0, hg0, ← ha0.out, ← hb0.out, ← ha1.out, ← hb1.out, ← ha2.out, ← hb2.out, ← ha3.out, ← hb3.out, ← ha4.out, ← hb4.out, ← ha5.out, ← hb5.out, ← ha6.out, ← hb6.out]
              simp
            rw [← hk0] at hnew
            exact ⟨⟨k + 1, ⟨a0, b0, a1, b1, a2, b2, a3, b3⟩, ⟨a4, b4, a5, b5, a6, b6⟩, by omega, by go_num, Lib.hid (.inr (by rw [Nat.add_sub_cancel]; exact hnew)), (Lib.hid ⟨E8_c.out, E8_s.out, E8_o.out, E8_x.out, E8_v.out, E8_y.out, E8_u.out, B8⟩)⟩, by simp [intOf]; omega⟩
          · have hk0i : ¬ (k : Int) = 0 := by omega
            obtain ⟨a0, ha0⟩ : ∃ v, (if zk.g < ys.glo then zk.g else ys.glo) = v := ⟨_, rfl⟩
            obtain ⟨b0, hb0⟩ : ∃ v, (if ys.ghi < zk.g then zk.g else ys.ghi) = v := ⟨_, rfl⟩
            have kw0 := Lib.hid (fun w => lawWide ys.glo ys.ghi zk.g w ha0 hb0)
            replace ha0 := Lib.hid ha0; replace hb0 := Lib.hid hb0
            obtain ⟨a1, ha1⟩ : ∃ v, (if zk.y < ys.ylo then zk.y else ys.ylo) = v := ⟨_, rfl⟩
            obtain ⟨b1, hb1⟩ : ∃ v, (if ys.yhi < zk.y then zk.y else ys.yhi) = v := ⟨_, rfl⟩
            have kw1 := Lib.hid (fun w => lawWide ys.ylo ys.yhi zk.y w ha1 hb1)
            replace ha1 := Lib.hid ha1; replace hb1 := Lib.hid hb1
            obtain ⟨a2, ha2⟩ : ∃ v, (if zk.t < ys.tlo then zk.t else ys.tlo) = v := ⟨_, rfl⟩
            obtain ⟨b2, hb2⟩ : ∃ v, (if ys.thi < zk.t then zk.t else ys.thi) = v := ⟨_, rfl⟩
            have kw2 := Lib.hid (fun w => lawWide ys.tlo ys.thi zk.t w ha2 hb2)
            replace ha2 := Lib.hid ha2; replace hb2 := Lib.hid hb2
            obtain ⟨a3, ha3⟩ : ∃ v, (if zk.w < ys.wlo then zk.w else ys.wlo) = v := ⟨_, rfl⟩
            obtain ⟨b3, hb3⟩ : ∃ v, (if ys.whi < zk.w then zk.w else ys.whi) = v := ⟨_, rfl⟩
            have kw3 := Lib.hid (fun w => lawWide ys.wlo ys.whi zk.w w ha3 hb3)
            replace ha3 := Lib.hid ha3; replace hb3 := Lib.hid hb3
            obtain ⟨a4, ha4⟩ : ∃ v, (if gk.g < qs.glo then gk.g else qs.glo) = v := ⟨_, rfl⟩
            obtain ⟨b4, hb4⟩ : ∃ v, (if qs.ghi < gk.g then gk.g else qs.ghi) = v := ⟨_, rfl⟩
            have kw4 := Lib.hid (fun w => lawWide qs.glo qs.ghi gk.g w ha4 hb4)
            replace ha4 := Lib.hid ha4; replace hb4 := Lib.hid hb4
            obtain ⟨a5, ha5⟩ : ∃ v, (if gk.y < qs.ylo then gk.y else qs.ylo) = v := ⟨_, rfl⟩
            obtain ⟨b5, hb5⟩ : ∃ v, (if qs.yhi < gk.y then gk.y else qs.yhi) = v := ⟨_, rfl⟩
            have kw5 := Lib.hid (fun w => lawWide qs.ylo qs.yhi gk.y w ha5 hb5)
            replace ha5 := Lib.hid ha5; replace hb5 := Lib.hid hb5
            obtain ⟨a6, ha6⟩ : ∃ v, (if gk.w < qs.wlo then gk.w else qs.wlo) = v := ⟨_, rfl⟩
            obtain ⟨b6, hb6⟩ : ∃ v, (if qs.whi < gk.w then gk.w else qs.whi) = v := ⟨_, rfl⟩
            have kw6 := Lib.hid (fun w => lawWide qs.wlo qs.whi gk.w w ha6 hb6)
            replace ha6 := Lib.hid ha6; replace hb6 := Lib.hid hb6
            go_wp2_with (fail)
            have hgf := grow_frozen M4
            refine wp_grow_tail 21 (by kernel_rfl) (by kernel_rfl) ?_
            simp only [List.take_succ_cons, List.take_zero, List.drop_succ_cons, List.drop_zero]
            repeat (go_big_quiet_step ((first | (go_at_call 24; with_reducible exact Calls.grow (kw0.out _)) | (go_at_call 24; with_reducible exact Calls.grow (kw1.out _)) | (go_at_call 24; with_reducible exact Calls.grow (kw2.out _)) | (go_at_call 24; with_reducible exact Calls.grow (kw3.out _)))))
            refine wpQuiet_nil ?_
            rintro _ ⟨g, rfl⟩
            go_wp2_with (fail)
            clear hgf hgw4
            generalize hV5 : World.setCell _ ⟨blk_y, 7, none⟩ _ = V5
            have gz5 := g.size
            have R5_c : V5.heap[w.heap.size]? = some (.cells #[.int .i64 c.vlo, .int .i64 c.vhi, .int .i64 c.least, .int .i64 c.most, .int .i64 c.f0, .int .i64 c.f1, .int .i64 c.h0, .int .i64 c.h1, .int .i64 c.rock, .int .i64 c.plo, .int .i64 c.phi] 26 (0, 0)) := by rw [← hV5]; have h2 := (set_far (n := blk_y) 7 (.int .i64 b3) ne_c_y.out (set_far (n := blk_y) 6 (.int .i64 a3) ne_c_y.out (set_far (n := blk_y) 5 (.int .i64 b2) ne_c_y.out (set_far (n := blk_y) 4 (.int .i64 a2) ne_c_y.out (set_far (n := blk_y) 3 (.int .i64 b1) ne_c_y.out (set_far (n := blk_y) 2 (.int .i64 a1) ne_c_y.out (set_far (n := blk_y) 1 (.int .i64 b0) ne_c_y.out (set_far (n := blk_y) 0 (.int .i64 a0) ne_c_y.out ((g.h.block _ z4_c).trans R4_c.out))))))))); exact h2
            have R5_s : V5.heap[W1.heap.size]? = some (.cells #[.int .i64 s.glo, .int .i64 s.ghi, .int .i64 s.ylo, .int .i64 s.yhi, .int .i64 s.tlo, .int .i64 s.thi, .int .i64 s.wlo, .int .i64 s.whi] 28 (0, 0)) := by rw [← hV5]; have h2 := (set_far (n := blk_y) 7 (.int .i64 b3) ne_s_y.out (set_far (n := blk_y) 6 (.int .i64 a3) ne_s_y.out (set_far (n := blk_y) 5 (.int .i64 b2) ne_s_y.out (set_far (n := blk_y) 4 (.int .i64 a2) ne_s_y.out (set_far (n := blk_y) 3 (.int .i64 b1) ne_s_y.out (set_far (n := blk_y) 2 (.int .i64 a1) ne_s_y.out (set_far (n := blk_y) 1 (.int .i64 b0) ne_s_y.out (set_far (n := blk_y) 0 (.int .i64 a0) ne_s_y.out ((g.h.block _ z4_s).trans R4_s.out))))))))); exact h2
            have R5_o : V5.heap[W2.heap.size]? = some (.cells #[.int .i64 o.kind, .int .i64 o.lg, .int .i64 o.ly, .int .i64 o.lt, .int .i64 o.lw, .int .i64 o.moles, .int .i64 o.slo, .int .i64 o.shi, .int .i64 o.wlo, .int .i64 o.whi] 33 (0, 0)) := by rw [← hV5]; have h2 := (set_far (n := blk_y) 7 (.int .i64 b3) ne_o_y.out (set_far (n := blk_y) 6 (.int .i64 a3) ne_o_y.out (set_far (n := blk_y) 5 (.int .i64 b2) ne_o_y.out (set_far (n := blk_y) 4 (.int .i64 a2) ne_o_y.out (set_far (n := blk_y) 3 (.int .i64 b1) ne_o_y.out (set_far (n := blk_y) 2 (.int .i64 a1) ne_o_y.out (set_far (n := blk_y) 1 (.int .i64 b0) ne_o_y.out (set_far (n := blk_y) 0 (.int .i64 a0) ne_o_y.out ((g.h.block _ z4_o).trans R4_o.out))))))))); exact h2
            have R5_x : V5.heap[blk_x]? = some (.cells #[.int .i64 nx.glo, .int .i64 nx.ghi, .int .i64 nx.ylo, .int .i64 nx.yhi, .int .i64 nx.tlo, .int .i64 nx.thi, .int .i64 nx.wlo, .int .i64 nx.whi] 28 (0, 0)) := by rw [← hV5]; have h2 := (set_far (n := blk_y) 7 (.int .i64 b3) ne_x_y.out (set_far (n := blk_y) 6 (.int .i64 a3) ne_x_y.out (set_far (n := blk_y) 5 (.int .i64 b2) ne_x_y.out (set_far (n := blk_y) 4 (.int .i64 a2) ne_x_y.out (set_far (n := blk_y) 3 (.int .i64 b1) ne_x_y.out (set_far (n := blk_y) 2 (.int .i64 a1) ne_x_y.out (set_far (n := blk_y) 1 (.int .i64 b0) ne_x_y.out (set_far (n := blk_y) 0 (.int .i64 a0) ne_x_y.out ((g.h.block _ z4_x).trans R4_x.out))))))))); exact h2
            have R5_v : V5.heap[blk_v]? = some (.cells #[.int .i64 q.glo, .int .i64 q.ghi, .int .i64 q.ylo, .int .i64 q.yhi, .int .i64 q.wlo, .int .i64 q.whi] 35 (0, 0)) := by rw [← hV5]; have h2 := (set_far (n := blk_y) 7 (.int .i64 b3) ne_v_y.out (set_far (n := blk_y) 6 (.int .i64 a3) ne_v_y.out (set_far (n := blk_y) 5 (.int .i64 b2) ne_v_y.out (set_far (n := blk_y) 4 (.int .i64 a2) ne_v_y.out (set_far (n := blk_y) 3 (.int .i64 b1) ne_v_y.out (set_far (n := blk_y) 2 (.int .i64 a1) ne_v_y.out (set_far (n := blk_y) 1 (.int .i64 b0) ne_v_y.out (set_far (n := blk_y) 0 (.int .i64 a0) ne_v_y.out ((g.h.block _ z4_v).trans R4_v.out))))))))); exact h2
            have R5_y : V5.heap[blk_y]? = some (.cells #[.int .i64 a0, .int .i64 b0, .int .i64 a1, .int .i64 b1, .int .i64 a2, .int .i64 b2, .int .i64 a3, .int .i64 b3] 28 (0, 0)) := by rw [← hV5]; have h2 := (set_one (set_one (set_one (set_one (set_one (set_one (set_one (set_one ((g.h.block _ z4_y).trans R4_y.out) 0 (.int .i64 a0)) 1 (.int .i64 b0)) 2 (.int .i64 a1)) 3 (.int .i64 b1)) 4 (.int .i64 a2)) 5 (.int .i64 b2)) 6 (.int .i64 a3)) 7 (.int .i64 b3)); simp only [List.setIfInBounds_toArray, List.set_cons_zero, List.set_cons_succ] at h2; exact h2
            have R5_u : V5.heap[blk_u]? = some (.cells #[.int .i64 qs.glo, .int .i64 qs.ghi, .int .i64 qs.ylo, .int .i64 qs.yhi, .int .i64 qs.wlo, .int .i64 qs.whi] 35 (0, 0)) := by rw [← hV5]; have h2 := (set_far (n := blk_y) 7 (.int .i64 b3) ne_u_y.out (set_far (n := blk_y) 6 (.int .i64 a3) ne_u_y.out (set_far (n := blk_y) 5 (.int .i64 b2) ne_u_y.out (set_far (n := blk_y) 4 (.int .i64 a2) ne_u_y.out (set_far (n := blk_y) 3 (.int .i64 b1) ne_u_y.out (set_far (n := blk_y) 2 (.int .i64 a1) ne_u_y.out (set_far (n := blk_y) 1 (.int .i64 b0) ne_u_y.out (set_far (n := blk_y) 0 (.int .i64 a0) ne_u_y.out ((g.h.block _ z4_u).trans R4_u.out))))))))); exact h2
            have R5_p : V5.heap[blk_p]? = some (.cells #[.int .i64 e1, .int .i64 e2, .int .i64 e3, .int .i64 e4] 31 (0, 0)) := by rw [← hV5]; have h2 := (set_far (n := blk_y) 7 (.int .i64 b3) ne_p_y.out (set_far (n := blk_y) 6 (.int .i64 a3) ne_p_y.out (set_far (n := blk_y) 5 (.int .i64 b2) ne_p_y.out (set_far (n := blk_y) 4 (.int .i64 a2) ne_p_y.out (set_far (n := blk_y) 3 (.int .i64 b1) ne_p_y.out (set_far (n := blk_y) 2 (.int .i64 a1) ne_p_y.out (set_far (n := blk_y) 1 (.int .i64 b0) ne_p_y.out (set_far (n := blk_y) 0 (.int .i64 a0) ne_p_y.out ((g.h.block _ z4_p).trans R4_p.out))))))))); exact h2
            have R5_z : V5.heap[blk_z]? = some (.cells #[.int .i64 zk.g, .int .i64 zk.y, .int .i64 zk.t, .int .i64 zk.w] 31 (0, 0)) := by rw [← hV5]; have h2 := (set_far (n := blk_y) 7 (.int .i64 b3) ne_z_y.out (set_far (n := blk_y) 6 (.int .i64 a3) ne_z_y.out (set_far (n := blk_y) 5 (.int .i64 b2) ne_z_y.out (set_far (n := blk_y) 4 (.int .i64 a2) ne_z_y.out (set_far (n := blk_y) 3 (.int .i64 b1) ne_z_y.out (set_far (n := blk_y) 2 (.int .i64 a1) ne_z_y.out (set_far (n := blk_y) 1 (.int .i64 b0) ne_z_y.out (set_far (n := blk_y) 0 (.int .i64 a0) ne_z_y.out ((g.h.block _ z4_z).trans R4_z.out))))))))); exact h2
            have R5_zo : V5.heap[blk_zo]? = some (.cells #[.int .i64 gk.g, .int .i64 gk.y, .int .i64 0, .int .i64 gk.w] 31 (0, 0)) := by rw [← hV5]; have h2 := (set_far (n := blk_y) 7 (.int .i64 b3) ne_zo_y.out (set_far (n := blk_y) 6 (.int .i64 a3) ne_zo_y.out (set_far (n := blk_y) 5 (.int .i64 b2) ne_zo_y.out (set_far (n := blk_y) 4 (.int .i64 a2) ne_zo_y.out (set_far (n := blk_y) 3 (.int .i64 b1) ne_zo_y.out (set_far (n := blk_y) 2 (.int .i64 a1) ne_zo_y.out (set_far (n := blk_y) 1 (.int .i64 b0) ne_zo_y.out (set_far (n := blk_y) 0 (.int .i64 a0) ne_zo_y.out ((g.h.block _ z4_zo).trans R4_zo.out))))))))); exact h2
            have B5 : Below w.heap.size w V5 := by rw [← hV5]; exact (Below.setCell (p := ⟨blk_y, 7, none⟩) (Below.setCell (p := ⟨blk_y, 6, none⟩) (Below.setCell (p := ⟨blk_y, 5, none⟩) (Below.setCell (p := ⟨blk_y, 4, none⟩) (Below.setCell (p := ⟨blk_y, 3, none⟩) (Below.setCell (p := ⟨blk_y, 2, none⟩) (Below.setCell (p := ⟨blk_y, 1, none⟩) (Below.setCell (p := ⟨blk_y, 0, none⟩) (B4.trans (g.h.mono B4.size)) le_y.out (.int .i64 a0)) le_y.out (.int .i64 b0)) le_y.out (.int .i64 a1)) le_y.out (.int .i64 b1)) le_y.out (.int .i64 a2)) le_y.out (.int .i64 b2)) le_y.out (.int .i64 a3)) le_y.out (.int .i64 b3))
            clear hV5 gz5
            clear q4_y_0 f4_y_0 q4_y_1 f4_y_1 q4_y_2 f4_y_2 q4_y_3 f4_y_3 q4_y_4 f4_y_4 q4_y_5 f4_y_5 q4_y_6 f4_y_6 q4_y_7 f4_y_7 q4_u_0 f4_u_0 q4_u_1 f4_u_1 q4_u_2 f4_u_2 q4_u_3 f4_u_3 q4_u_4 f4_u_4 q4_u_5 f4_u_5 q4_z_0 q4_z_1 q4_z_2 q4_z_3 q4_zo_0 q4_zo_1 q4_zo_2 q4_zo_3
            have E5_c := Lib.hid R5_c
            obtain ⟨z5_c, r5_c, t5_c⟩ := row_cells R5_c
            clear r5_c t5_c R5_c
            have E5_s := Lib.hid R5_s
            obtain ⟨z5_s, r5_s, t5_s⟩ := row_cells R5_s
            clear r5_s t5_s R5_s
            have E5_o := Lib.hid R5_o
            obtain ⟨z5_o, r5_o, t5_o⟩ := row_cells R5_o
            clear r5_o t5_o R5_o
            have E5_x := Lib.hid R5_x
            obtain ⟨z5_x, r5_x, t5_x⟩ := row_cells R5_x
            clear r5_x t5_x R5_x
            have E5_v := Lib.hid R5_v
            obtain ⟨z5_v, r5_v, t5_v⟩ := row_cells R5_v
            clear r5_v t5_v R5_v
            have E5_y := Lib.hid R5_y
            obtain ⟨z5_y, r5_y, t5_y⟩ := row_cells R5_y
            clear r5_y t5_y R5_y
            have E5_u := Lib.hid R5_u
            obtain ⟨z5_u, r5_u, t5_u⟩ := row_cells R5_u
            obtain ⟨q5_u_0, q5_u_1, q5_u_2, q5_u_3, q5_u_4, q5_u_5⟩ := rc6 R5_u
            obtain ⟨f5_u_0, f5_u_1, f5_u_2, f5_u_3, f5_u_4, f5_u_5⟩ := rf6 R5_u
            clear r5_u t5_u R5_u
            have E5_p := Lib.hid R5_p
            obtain ⟨z5_p, r5_p, t5_p⟩ := row_cells R5_p
            clear r5_p t5_p R5_p
            have E5_z := Lib.hid R5_z
            obtain ⟨z5_z, r5_z, t5_z⟩ := row_cells R5_z
            clear r5_z t5_z R5_z
            have E5_zo := Lib.hid R5_zo
            obtain ⟨z5_zo, r5_zo, t5_zo⟩ := row_cells R5_zo
            obtain ⟨q5_zo_0, q5_zo_1, q5_zo_2, q5_zo_3⟩ := rc4 R5_zo
            clear r5_zo t5_zo R5_zo
            have hgw5 := grow_cell V5
            have hgf := grow_frozen V5
            refine wp_grow_tail 16 (by kernel_rfl) (by kernel_rfl) ?_
            simp only [List.take_succ_cons, List.take_zero, List.drop_succ_cons, List.drop_zero]
            repeat (go_big_quiet_step ((first | (go_at_call 24; with_reducible exact Calls.grow (kw4.out _)) | (go_at_call 24; with_reducible exact Calls.grow (kw5.out _)) | (go_at_call 24; with_reducible exact Calls.grow (kw6.out _)))))
            refine wpQuiet_nil ?_
            rintro _ ⟨g, rfl⟩
            go_wp2_with (fail)
            clear hgf hgw5
            generalize hV6 : World.setCell _ ⟨blk_u, 5, none⟩ _ = V6
            have gz6 := g.size
            have R6_c : V6.heap[w.heap.size]? = some (.cells #[.int .i64 c.vlo, .int .i64 c.vhi, .int .i64 c.least, .int .i64 c.most, .int .i64 c.f0, .int .i64 c.f1, .int .i64 c.h0, .int .i64 c.h1, .int .i64 c.rock, .int .i64 c.plo, .int .i64 c.phi] 26 (0, 0)) := by rw [← hV6]; have h2 := (set_far (n := blk_u) 5 (.int .i64 b6) ne_c_u.out (set_far (n := blk_u) 4 (.int .i64 a6) ne_c_u.out (set_far (n := blk_u) 3 (.int .i64 b5) ne_c_u.out (set_far (n := blk_u) 2 (.int .i64 a5) ne_c_u.out (set_far (n := blk_u) 1 (.int .i64 b4) ne_c_u.out (set_far (n := blk_u) 0 (.int .i64 a4) ne_c_u.out ((g.h.block _ z5_c).trans E5_c.out))))))); exact h2
            have R6_s : V6.heap[W1.heap.size]? = some (.cells #[.int .i64 s.glo, .int .i64 s.ghi, .int .i64 s.ylo, .int .i64 s.yhi, .int .i64 s.tlo, .int .i64 s.thi, .int .i64 s.wlo, .int .i64 s.whi] 28 (0, 0)) := by rw [← hV6]; have h2 := (set_far (n := blk_u) 5 (.int .i64 b6) ne_s_u.out (set_far (n := blk_u) 4 (.int .i64 a6) ne_s_u.out (set_far (n := blk_u) 3 (.int .i64 b5) ne_s_u.out (set_far (n := blk_u) 2 (.int .i64 a5) ne_s_u.out (set_far (n := blk_u) 1 (.int .i64 b4) ne_s_u.out (set_far (n := blk_u) 0 (.int .i64 a4) ne_s_u.out ((g.h.block _ z5_s).trans E5_s.out))))))); exact h2
            have R6_o : V6.heap[W2.heap.size]? = some (.cells #[.int .i64 o.kind, .int .i64 o.lg, .int .i64 o.ly, .int .i64 o.lt, .int .i64 o.lw, .int .i64 o.moles, .int .i64 o.slo, .int .i64 o.shi, .int .i64 o.wlo, .int .i64 o.whi] 33 (0, 0)) := by rw [← hV6]; have h2 := (set_far (n := blk_u) 5 (.int .i64 b6) ne_o_u.out (set_far (n := blk_u) 4 (.int .i64 a6) ne_o_u.out (set_far (n := blk_u) 3 (.int .i64 b5) ne_o_u.out (set_far (n := blk_u) 2 (.int .i64 a5) ne_o_u.out (set_far (n := blk_u) 1 (.int .i64 b4) ne_o_u.out (set_far (n := blk_u) 0 (.int .i64 a4) ne_o_u.out ((g.h.block _ z5_o).trans E5_o.out))))))); exact h2
            have R6_x : V6.heap[blk_x]? = some (.cells #[.int .i64 nx.glo, .int .i64 nx.ghi, .int .i64 nx.ylo, .int .i64 nx.yhi, .int .i64 nx.tlo, .int .i64 nx.thi, .int .i64 nx.wlo, .int .i64 nx.whi] 28 (0, 0)) := by rw [← hV6]; have h2 := (set_far (n := blk_u) 5 (.int .i64 b6) ne_x_u.out (set_far (n := blk_u) 4 (.int .i64 a6) ne_x_u.out (set_far (n := blk_u) 3 (.int .i64 b5) ne_x_u.out (set_far (n := blk_u) 2 (.int .i64 a5) ne_x_u.out (set_far (n := blk_u) 1 (.int .i64 b4) ne_x_u.out (set_far (n := blk_u) 0 (.int .i64 a4) ne_x_u.out ((g.h.block _ z5_x).trans E5_x.out))))))); exact h2
            have R6_v : V6.heap[blk_v]? = some (.cells #[.int .i64 q.glo, .int .i64 q.ghi, .int .i64 q.ylo, .int .i64 q.yhi, .int .i64 q.wlo, .int .i64 q.whi] 35 (0, 0)) := by rw [← hV6]; have h2 := (set_far (n := blk_u) 5 (.int .i64 b6) ne_v_u.out (set_far (n := blk_u) 4 (.int .i64 a6) ne_v_u.out (set_far (n := blk_u) 3 (.int .i64 b5) ne_v_u.out (set_far (n := blk_u) 2 (.int .i64 a5) ne_v_u.out (set_far (n := blk_u) 1 (.int .i64 b4) ne_v_u.out (set_far (n := blk_u) 0 (.int .i64 a4) ne_v_u.out ((g.h.block _ z5_v).trans E5_v.out))))))); exact h2
            have R6_y : V6.heap[blk_y]? = some (.cells #[.int .i64 a0, .int .i64 b0, .int .i64 a1, .int .i64 b1, .int .i64 a2, .int .i64 b2, .int .i64 a3, .int .i64 b3] 28 (0, 0)) := by rw [← hV6]; have h2 := (set_far (n := blk_u) 5 (.int .i64 b6) ne_y_u.out (set_far (n := blk_u) 4 (.int .i64 a6) ne_y_u.out (set_far (n := blk_u) 3 (.int .i64 b5) ne_y_u.out (set_far (n := blk_u) 2 (.int .i64 a5) ne_y_u.out (set_far (n := blk_u) 1 (.int .i64 b4) ne_y_u.out (set_far (n := blk_u) 0 (.int .i64 a4) ne_y_u.out ((g.h.block _ z5_y).trans E5_y.out))))))); exact h2
            have R6_u : V6.heap[blk_u]? = some (.cells #[.int .i64 a4, .int .i64 b4, .int .i64 a5, .int .i64 b5, .int .i64 a6, .int .i64 b6] 35 (0, 0)) := by rw [← hV6]; have h2 := (set_one (set_one (set_one (set_one (set_one (set_one ((g.h.block _ z5_u).trans E5_u.out) 0 (.int .i64 a4)) 1 (.int .i64 b4)) 2 (.int .i64 a5)) 3 (.int .i64 b5)) 4 (.int .i64 a6)) 5 (.int .i64 b6)); simp only [List.setIfInBounds_toArray, List.set_cons_zero, List.set_cons_succ] at h2; exact h2
            have R6_p : V6.heap[blk_p]? = some (.cells #[.int .i64 e1, .int .i64 e2, .int .i64 e3, .int .i64 e4] 31 (0, 0)) := by rw [← hV6]; have h2 := (set_far (n := blk_u) 5 (.int .i64 b6) ne_p_u.out (set_far (n := blk_u) 4 (.int .i64 a6) ne_p_u.out (set_far (n := blk_u) 3 (.int .i64 b5) ne_p_u.out (set_far (n := blk_u) 2 (.int .i64 a5) ne_p_u.out (set_far (n := blk_u) 1 (.int .i64 b4) ne_p_u.out (set_far (n := blk_u) 0 (.int .i64 a4) ne_p_u.out ((g.h.block _ z5_p).trans E5_p.out))))))); exact h2
            have R6_z : V6.heap[blk_z]? = some (.cells #[.int .i64 zk.g, .int .i64 zk.y, .int .i64 zk.t, .int .i64 zk.w] 31 (0, 0)) := by rw [← hV6]; have h2 := (set_far (n := blk_u) 5 (.int .i64 b6) ne_z_u.out (set_far (n := blk_u) 4 (.int .i64 a6) ne_z_u.out (set_far (n := blk_u) 3 (.int .i64 b5) ne_z_u.out (set_far (n := blk_u) 2 (.int .i64 a5) ne_z_u.out (set_far (n := blk_u) 1 (.int .i64 b4) ne_z_u.out (set_far (n := blk_u) 0 (.int .i64 a4) ne_z_u.out ((g.h.block _ z5_z).trans E5_z.out))))))); exact h2
            have R6_zo : V6.heap[blk_zo]? = some (.cells #[.int .i64 gk.g, .int .i64 gk.y, .int .i64 0, .int .i64 gk.w] 31 (0, 0)) := by rw [← hV6]; have h2 := (set_far (n := blk_u) 5 (.int .i64 b6) ne_zo_u.out (set_far (n := blk_u) 4 (.int .i64 a6) ne_zo_u.out (set_far (n := blk_u) 3 (.int .i64 b5) ne_zo_u.out (set_far (n := blk_u) 2 (.int .i64 a5) ne_zo_u.out (set_far (n := blk_u) 1 (.int .i64 b4) ne_zo_u.out (set_far (n := blk_u) 0 (.int .i64 a4) ne_zo_u.out ((g.h.block _ z5_zo).trans E5_zo.out))))))); exact h2
            have B6 : Below w.heap.size w V6 := by rw [← hV6]; exact (Below.setCell (p := ⟨blk_u, 5, none⟩) (Below.setCell (p := ⟨blk_u, 4, none⟩) (Below.setCell (p := ⟨blk_u, 3, none⟩) (Below.setCell (p := ⟨blk_u, 2, none⟩) (Below.setCell (p := ⟨blk_u, 1, none⟩) (Below.setCell (p := ⟨blk_u, 0, none⟩) (B5.trans (g.h.mono B5.size)) le_u.out (.int .i64 a4)) le_u.out (.int .i64 b4)) le_u.out (.int .i64 a5)) le_u.out (.int .i64 b5)) le_u.out (.int .i64 a6)) le_u.out (.int .i64 b6))
            clear hV6 gz6
            clear q5_u_0 f5_u_0 q5_u_1 f5_u_1 q5_u_2 f5_u_2 q5_u_3 f5_u_3 q5_u_4 f5_u_4 q5_u_5 f5_u_5 q5_zo_0 q5_zo_1 q5_zo_2 q5_zo_3
            have E6_c := Lib.hid R6_c
            obtain ⟨z6_c, r6_c, t6_c⟩ := row_cells R6_c
            clear r6_c t6_c R6_c
            have E6_s := Lib.hid R6_s
            obtain ⟨z6_s, r6_s, t6_s⟩ := row_cells R6_s
            clear r6_s t6_s R6_s
            have E6_o := Lib.hid R6_o
            obtain ⟨z6_o, r6_o, t6_o⟩ := row_cells R6_o
            clear r6_o t6_o R6_o
            have E6_x := Lib.hid R6_x
            obtain ⟨z6_x, r6_x, t6_x⟩ := row_cells R6_x
            clear r6_x t6_x R6_x
            have E6_v := Lib.hid R6_v
            obtain ⟨z6_v, r6_v, t6_v⟩ := row_cells R6_v
            clear r6_v t6_v R6_v
            have E6_y := Lib.hid R6_y
            obtain ⟨z6_y, r6_y, t6_y⟩ := row_cells R6_y
            clear r6_y t6_y R6_y
            have E6_u := Lib.hid R6_u
            obtain ⟨z6_u, r6_u, t6_u⟩ := row_cells R6_u
            clear r6_u t6_u R6_u
            have E6_p := Lib.hid R6_p
            obtain ⟨z6_p, r6_p, t6_p⟩ := row_cells R6_p
            clear r6_p t6_p R6_p
            have E6_z := Lib.hid R6_z
            obtain ⟨z6_z, r6_z, t6_z⟩ := row_cells R6_z
            clear r6_z t6_z R6_z
            have E6_zo := Lib.hid R6_zo
            obtain ⟨z6_zo, r6_zo, t6_zo⟩ := row_cells R6_zo
            clear r6_zo t6_zo R6_zo
            have hgw6 := grow_cell V6
            have hnew : (⟨a0, b0, a1, b1, a2, b2, a3, b3⟩ : St) = foldS (zAt c s o) k ∧ (⟨a4, b4, a5, b5, a6, b6⟩ : Out) = foldQ (gAt c s o) k := by
              obtain ⟨h1, h2⟩ : ys = foldS (zAt c s o) (k - 1) ∧ qs = foldQ (gAt c s o) (k - 1) := by
                rcases hI.out with h | h
                · exact absurd h hk0
                · exact h
              rw [← ha0.out, ← hb0.out, ← ha1.out, ← hb1.out, ← ha2.out, ← hb2.out, ← ha3.out, ← hb3.out, ← ha4.out, ← hb4.out, ← ha5.out, ← hb5.out, ← ha6.out, ← hb6.out, ← hzk.out, ← hgk.out, h1, h2]
              obtain ⟨j, rfl⟩ : ∃ j, k = j + 1 := ⟨k - 1, by omega⟩
              exact ⟨rfl, rfl⟩
            exact ⟨⟨k + 1, ⟨a0, b0, a1, b1, a2, b2, a3, b3⟩, ⟨a4, b4, a5, b5, a6, b6⟩, by omega, by go_num, Lib.hid (.inr (by rw [Nat.add_sub_cancel]; exact hnew)), (Lib.hid ⟨E6_c.out, E6_s.out, E6_o.out, E6_x.out, E6_v.out, E6_y.out, E6_u.out, B6⟩)⟩, by simp [intOf]; omega⟩
    · obtain rfl : k = 64 := by omega
      obtain ⟨h1, h2⟩ : ys = foldS (zAt c s o) (64 - 1) ∧ qs = foldQ (gAt c s o) (64 - 1) := by
        rcases hI.out with h | h
        · cases h
        · exact h
      obtain ⟨h3, h4⟩ := hend.out
      have h5 : ys = nx := h1.trans h3
      have h6 : qs = q := h2.trans h4
      subst h5
      subst h6
      clear h1 h2 h3 h4
      go_wp2_with (first | (go_at_call 20; (with_reducible refine Calls.mono (hK.out _) ?_); rintro e w1 ⟨rfl, hB⟩; (first | (obtain ⟨g, rfl⟩ := g.next hB) | (obtain ⟨g, rfl⟩ : ∃ g : Grow wr, w1 = g.x := ⟨⟨w1, hB⟩, rfl⟩)); clear hB))
      go_ret
      exact ⟨rfl, B2.trans (g.h.mono B2.size)⟩

theorem lawNarrow (c : Cav) (s : St) (o : Gas.Op) (w : World) :
    Calls Try.prog 4 #[cavV c, stV s, opV o] w fun e w' => e = .returned (.bool true) ∧ Below w.heap.size w w' := by
  cases hc : c.ok
  · exact lawNar0 c s o w hc
  cases hs : s.ok
  · exact lawNar1 c s o w hc hs
  cases ho : o.ok
  · exact lawNar2 c s o w hc hs ho
  cases ha : act c s o with
  | none => exact lawNar3 c s o w hc hs ho ha
  | some r =>
    obtain ⟨x, q⟩ := r
    exact lawNar4 c s o w hc hs ho ha
end Go.Proofs.Ytgmbolagciaenaa
