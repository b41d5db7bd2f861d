/- Gas: the walk of the law GasChecks. -/
import Derived.Test.YtgmbolagciaenaaKno
set_option linter.unusedVariables false
set_option linter.unusedSimpArgs false
namespace Go.Proofs.Ytgmbolagciaenaa
open Go.RowKit Go.Sd Gas
set_option maxRecDepth 100000 in
set_option maxHeartbeats 8000000 in
theorem lawChecks1 (c : Cav) (s : St) (w : World) (hc : c.ok = false) :
    Calls Try.prog 13 #[cavV c, stV s] w fun e w' => e = .returned (.bool true) ∧ Below w.heap.size w w' := by
  obtain ⟨W1, hW1⟩ : ∃ W1, w.alloc (.cells #[.int .i64 c.vlo, .int .i64 c.vhi, .int .i64 c.least, .int .i64 c.most, .int .i64 c.f0, .int .i64 c.f1, .int .i64 c.h0, .int .i64 c.h1, .int .i64 c.rock, .int .i64 c.plo, .int .i64 c.phi] 26) = W1 := ⟨_, rfl⟩
  obtain ⟨e_c, b_c, s_c⟩ := boxed hW1
  obtain ⟨W, hW⟩ : ∃ W, W1.alloc (.cells #[.int .i64 s.glo, .int .i64 s.ghi, .int .i64 s.ylo, .int .i64 s.yhi, .int .i64 s.tlo, .int .i64 s.thi, .int .i64 s.wlo, .int .i64 s.whi] 28) = W := ⟨_, rfl⟩
  obtain ⟨e_s, b_s, s_s⟩ := boxed hW
  replace e_c := (b_s.block _ (Array.getElem?_eq_some_iff.1 e_c).1).trans e_c
  have B0 : Below w.heap.size w W := (b_c.trans (b_s.mono (by omega)))
  have z0_c := (Array.getElem?_eq_some_iff.1 e_c).1
  have z0_s := (Array.getElem?_eq_some_iff.1 e_s).1
  have le_c : w.heap.size ≤ w.heap.size := by omega
  have le_s : w.heap.size ≤ W1.heap.size := by omega
  clear s_c b_c s_s b_s
  obtain ⟨q0_c_0, q0_c_1, q0_c_2, q0_c_3, q0_c_4, q0_c_5, q0_c_6, q0_c_7, q0_c_8, q0_c_9, q0_c_10⟩ := rc11 e_c
  replace e_c := Lib.hid e_c
  obtain ⟨q0_s_0, q0_s_1, q0_s_2, q0_s_3, q0_s_4, q0_s_5, q0_s_6, q0_s_7⟩ := rc8 e_s
  replace e_s := Lib.hid e_s
  have hgw0 := grow_cell W
  have hK := Lib.hid (fun w => progKnown w)
  have kCk : Hid (∀ w, Calls Try.prog 41 #[cavV c] w fun e w' => e = .returned (.int .i64 2) ∧ Below w.heap.size w w') := Lib.hid (fun w => progCheckT w hc)
  have kPr := Lib.hid (fun w => progPressureBad1 (s := s) w hc); have kSu := Lib.hid (fun w => progSureBad1 (s := s) w hc)
  have kRC := Lib.hid (fun w => (refCavern c w).mono fun e w' hb => BoolB.lit hb hc)
  replace hc := Lib.hid hc
  go_enter Try.func13, Try.ntmps13
  go_wp2_with (first | (go_at_call 41; (with_reducible refine Calls.mono (kCk.out _) ?_); rintro e w1 ⟨rfl, hB⟩; (first | (obtain ⟨g, rfl⟩ := g.next hB) | (obtain ⟨g, rfl⟩ : ∃ g : Grow W, w1 = g.x := ⟨⟨w1, hB⟩, rfl⟩)); clear hB) | (go_at_call 42; (with_reducible refine Calls.mono (kPr.out _) ?_); rintro e w1 ⟨rfl, hB⟩; (first | (obtain ⟨g, rfl⟩ := g.next hB) | (obtain ⟨g, rfl⟩ : ∃ g : Grow W, w1 = g.x := ⟨⟨w1, hB⟩, rfl⟩)); clear hB; have hld : ∀ (b o : Nat), b < W.heap.size → ((g.x.alloc (.cells #[.int .i64 0, .int .i64 0] 83)).alloc (.cells #[.int .i64 0, .int .i64 0] 83)).cell? ⟨b, o, none⟩ = W.cell? ⟨b, o, none⟩ := below_cell ((g.h.alloc g.size (.cells #[.int .i64 0, .int .i64 0] 83)).alloc (g.h.alloc g.size (.cells #[.int .i64 0, .int .i64 0] 83)).size (.cells #[.int .i64 0, .int .i64 0] 83))))
  clear hld
  clear q0_c_0 q0_c_1 q0_c_2 q0_c_3 q0_c_4 q0_c_5 q0_c_6 q0_c_7 q0_c_8 q0_c_9 q0_c_10 q0_s_0 q0_s_1 q0_s_2 q0_s_3 q0_s_4 q0_s_5 q0_s_6 q0_s_7
  clear hgw0
  have szo1 := B0.size
  have gz1 := g.size
  have A_c : g.x.heap[w.heap.size]? = some (.cells #[.int .i64 c.vlo, .int .i64 c.vhi, .int .i64 c.least, .int .i64 c.most, .int .i64 c.f0, .int .i64 c.f1, .int .i64 c.h0, .int .i64 c.h1, .int .i64 c.rock, .int .i64 c.plo, .int .i64 c.phi] 26 (0, 0)) := (g.h.block _ z0_c).trans e_c.out
  have A_s : g.x.heap[W1.heap.size]? = some (.cells #[.int .i64 s.glo, .int .i64 s.ghi, .int .i64 s.ylo, .int .i64 s.yhi, .int .i64 s.tlo, .int .i64 s.thi, .int .i64 s.wlo, .int .i64 s.whi] 28 (0, 0)) := (g.h.block _ z0_s).trans e_s.out
  obtain ⟨U1_a, hU1_a⟩ : ∃ U, g.x.alloc (.cells #[.int .i64 0, .int .i64 0] 83) = U := ⟨_, rfl⟩
  obtain ⟨A_a, b_a, s_a⟩ := boxed hU1_a
  rw [hU1_a]
  replace A_c := (b_a.block _ (Array.getElem?_eq_some_iff.1 A_c).1).trans A_c
  replace A_s := (b_a.block _ (Array.getElem?_eq_some_iff.1 A_s).1).trans A_s
  obtain ⟨blk_a, hb_a⟩ : ∃ b, g.x.heap.size = b := ⟨_, rfl⟩
  rw [hb_a] at A_a
  try rw [hb_a]
  obtain ⟨U1_b, hU1_b⟩ : ∃ U, U1_a.alloc (.cells #[.int .i64 0, .int .i64 0] 83) = U := ⟨_, rfl⟩
  obtain ⟨A_b, b_b, s_b⟩ := boxed hU1_b
  rw [hU1_b]
  replace A_c := (b_b.block _ (Array.getElem?_eq_some_iff.1 A_c).1).trans A_c
  replace A_s := (b_b.block _ (Array.getElem?_eq_some_iff.1 A_s).1).trans A_s
  replace A_a := (b_b.block _ (Array.getElem?_eq_some_iff.1 A_a).1).trans A_a
  obtain ⟨blk_b, hb_b⟩ : ∃ b, U1_a.heap.size = b := ⟨_, rfl⟩
  rw [hb_b] at A_b
  have hp_b : blk_a + 1 = blk_b := by omega
  try rw [hp_b]
  have B1 : Below w.heap.size w U1_b := (((B0.trans (g.h.mono B0.size)).trans (b_a.mono (B0.trans (g.h.mono B0.size)).size)).trans (b_b.mono ((B0.trans (g.h.mono B0.size)).trans (b_a.mono (B0.trans (g.h.mono B0.size)).size)).size))
  have le_a : w.heap.size ≤ blk_a := by omega
  have le_b : w.heap.size ≤ blk_b := by omega
  have z1_c := (Array.getElem?_eq_some_iff.1 A_c).1
  have z1_s := (Array.getElem?_eq_some_iff.1 A_s).1
  have z1_a := (Array.getElem?_eq_some_iff.1 A_a).1
  have z1_b := (Array.getElem?_eq_some_iff.1 A_b).1
  clear hb_a b_a s_a hU1_a hb_b b_b s_b hU1_b hp_b
  obtain ⟨q1_c_0, q1_c_1, q1_c_2, q1_c_3, q1_c_4, q1_c_5, q1_c_6, q1_c_7, q1_c_8, q1_c_9, q1_c_10⟩ := rc11 A_c
  have R1_c := Lib.hid A_c
  clear A_c
  obtain ⟨q1_s_0, q1_s_1, q1_s_2, q1_s_3, q1_s_4, q1_s_5, q1_s_6, q1_s_7⟩ := rc8 A_s
  have R1_s := Lib.hid A_s
  clear A_s
  obtain ⟨q1_a_0, q1_a_1⟩ := rc2 A_a
  have R1_a := Lib.hid A_a
  clear A_a
  obtain ⟨q1_b_0, q1_b_1⟩ := rc2 A_b
  have R1_b := Lib.hid A_b
  clear A_b
  have hgw1 := grow_cell U1_b
  go_wp2_with (first | (go_at_call 36; (with_reducible refine Calls.mono (kSu.out _) ?_); rintro e w1 ⟨rfl, hB⟩; (first | (obtain ⟨g, rfl⟩ := g.next hB) | (obtain ⟨g, rfl⟩ : ∃ g : Grow U1_b, w1 = g.x := ⟨⟨w1, hB⟩, rfl⟩)); clear hB) | (go_at_call 17; (with_reducible refine Calls.mono (kRC.out _) ?_); rintro e w1 ⟨rfl, hB⟩; (first | (obtain ⟨g, rfl⟩ := g.next hB) | (obtain ⟨g, rfl⟩ : ∃ g : Grow U1_b, w1 = g.x := ⟨⟨w1, hB⟩, rfl⟩)); clear hB) | (go_at_call 20; (with_reducible refine Calls.mono (hK.out _) ?_); rintro e w1 ⟨rfl, hB⟩; (first | (obtain ⟨g, rfl⟩ := g.next hB) | (obtain ⟨g, rfl⟩ : ∃ g : Grow U1_b, w1 = g.x := ⟨⟨w1, hB⟩, rfl⟩)); clear hB))
  go_ret
  exact ⟨rfl, B1.trans (g.h.mono B1.size)⟩

set_option maxRecDepth 100000 in
set_option maxHeartbeats 8000000 in
theorem lawChecks2 (c : Cav) (s : St) (w : World) (hc : c.ok = true) (hs : s.ok = false) :
    Calls Try.prog 13 #[cavV c, stV s] w fun e w' => e = .returned (.bool true) ∧ Below w.heap.size w w' := by
  obtain ⟨W1, hW1⟩ : ∃ W1, w.alloc (.cells #[.int .i64 c.vlo, .int .i64 c.vhi, .int .i64 c.least, .int .i64 c.most, .int .i64 c.f0, .int .i64 c.f1, .int .i64 c.h0, .int .i64 c.h1, .int .i64 c.rock, .int .i64 c.plo, .int .i64 c.phi] 26) = W1 := ⟨_, rfl⟩
  obtain ⟨e_c, b_c, s_c⟩ := boxed hW1
  obtain ⟨W, hW⟩ : ∃ W, W1.alloc (.cells #[.int .i64 s.glo, .int .i64 s.ghi, .int .i64 s.ylo, .int .i64 s.yhi, .int .i64 s.tlo, .int .i64 s.thi, .int .i64 s.wlo, .int .i64 s.whi] 28) = W := ⟨_, rfl⟩
  obtain ⟨e_s, b_s, s_s⟩ := boxed hW
  replace e_c := (b_s.block _ (Array.getElem?_eq_some_iff.1 e_c).1).trans e_c
  have B0 : Below w.heap.size w W := (b_c.trans (b_s.mono (by omega)))
  have z0_c := (Array.getElem?_eq_some_iff.1 e_c).1
  have z0_s := (Array.getElem?_eq_some_iff.1 e_s).1
  have le_c : w.heap.size ≤ w.heap.size := by omega
  have le_s : w.heap.size ≤ W1.heap.size := by omega
  clear s_c b_c s_s b_s
  obtain ⟨q0_c_0, q0_c_1, q0_c_2, q0_c_3, q0_c_4, q0_c_5, q0_c_6, q0_c_7, q0_c_8, q0_c_9, q0_c_10⟩ := rc11 e_c
  replace e_c := Lib.hid e_c
  obtain ⟨q0_s_0, q0_s_1, q0_s_2, q0_s_3, q0_s_4, q0_s_5, q0_s_6, q0_s_7⟩ := rc8 e_s
  replace e_s := Lib.hid e_s
  have hgw0 := grow_cell W
  have hK := Lib.hid (fun w => progKnown w)
  have kCk : Hid (∀ w, Calls Try.prog 41 #[cavV c] w fun e w' => e = .returned (.int .i64 0) ∧ Below w.heap.size w w') := Lib.hid (fun w => progCheckT w hc)
  have kPr := Lib.hid (fun w => progPressureBad2 w hc hs); have kSu := Lib.hid (fun w => progSureBad2 w hc hs)
  have kRC := Lib.hid (fun w => (refCavern c w).mono fun e w' hb => BoolB.lit hb hc)
  have kRS := Lib.hid (fun w => (refState s w).mono fun e w' hb => BoolB.lit hb hs)
  replace hc := Lib.hid hc; replace hs := Lib.hid hs
  go_enter Try.func13, Try.ntmps13
  go_wp2_with (first | (go_at_call 41; (with_reducible refine Calls.mono (kCk.out _) ?_); rintro e w1 ⟨rfl, hB⟩; (first | (obtain ⟨g, rfl⟩ := g.next hB) | (obtain ⟨g, rfl⟩ : ∃ g : Grow W, w1 = g.x := ⟨⟨w1, hB⟩, rfl⟩)); clear hB) | (go_at_call 42; (with_reducible refine Calls.mono (kPr.out _) ?_); rintro e w1 ⟨rfl, hB⟩; (first | (obtain ⟨g, rfl⟩ := g.next hB) | (obtain ⟨g, rfl⟩ : ∃ g : Grow W, w1 = g.x := ⟨⟨w1, hB⟩, rfl⟩)); clear hB; have hld : ∀ (b o : Nat), b < W.heap.size → ((g.x.alloc (.cells #[.int .i64 0, .int .i64 0] 83)).alloc (.cells #[.int .i64 0, .int .i64 0] 83)).cell? ⟨b, o, none⟩ = W.cell? ⟨b, o, none⟩ := below_cell ((g.h.alloc g.size (.cells #[.int .i64 0, .int .i64 0] 83)).alloc (g.h.alloc g.size (.cells #[.int .i64 0, .int .i64 0] 83)).size (.cells #[.int .i64 0, .int .i64 0] 83))))
  clear hld
  clear q0_c_0 q0_c_1 q0_c_2 q0_c_3 q0_c_4 q0_c_5 q0_c_6 q0_c_7 q0_c_8 q0_c_9 q0_c_10 q0_s_0 q0_s_1 q0_s_2 q0_s_3 q0_s_4 q0_s_5 q0_s_6 q0_s_7
  clear hgw0
  have szo1 := B0.size
  have gz1 := g.size
  have A_c : g.x.heap[w.heap.size]? = some (.cells #[.int .i64 c.vlo, .int .i64 c.vhi, .int .i64 c.least, .int .i64 c.most, .int .i64 c.f0, .int .i64 c.f1, .int .i64 c.h0, .int .i64 c.h1, .int .i64 c.rock, .int .i64 c.plo, .int .i64 c.phi] 26 (0, 0)) := (g.h.block _ z0_c).trans e_c.out
  have A_s : g.x.heap[W1.heap.size]? = some (.cells #[.int .i64 s.glo, .int .i64 s.ghi, .int .i64 s.ylo, .int .i64 s.yhi, .int .i64 s.tlo, .int .i64 s.thi, .int .i64 s.wlo, .int .i64 s.whi] 28 (0, 0)) := (g.h.block _ z0_s).trans e_s.out
  obtain ⟨U1_a, hU1_a⟩ : ∃ U, g.x.alloc (.cells #[.int .i64 0, .int .i64 0] 83) = U := ⟨_, rfl⟩
  obtain ⟨A_a, b_a, s_a⟩ := boxed hU1_a
  rw [hU1_a]
  replace A_c := (b_a.block _ (Array.getElem?_eq_some_iff.1 A_c).1).trans A_c
  replace A_s := (b_a.block _ (Array.getElem?_eq_some_iff.1 A_s).1).trans A_s
  obtain ⟨blk_a, hb_a⟩ : ∃ b, g.x.heap.size = b := ⟨_, rfl⟩
  rw [hb_a] at A_a
  try rw [hb_a]
  obtain ⟨U1_b, hU1_b⟩ : ∃ U, U1_a.alloc (.cells #[.int .i64 0, .int .i64 0] 83) = U := ⟨_, rfl⟩
  obtain ⟨A_b, b_b, s_b⟩ := boxed hU1_b
  rw [hU1_b]
  replace A_c := (b_b.block _ (Array.getElem?_eq_some_iff.1 A_c).1).trans A_c
  replace A_s := (b_b.block _ (Array.getElem?_eq_some_iff.1 A_s).1).trans A_s
  replace A_a := (b_b.block _ (Array.getElem?_eq_some_iff.1 A_a).1).trans A_a
  obtain ⟨blk_b, hb_b⟩ : ∃ b, U1_a.heap.size = b := ⟨_, rfl⟩
  rw [hb_b] at A_b
  have hp_b : blk_a + 1 = blk_b := by omega
  try rw [hp_b]
  have B1 : Below w.heap.size w U1_b := (((B0.trans (g.h.mono B0.size)).trans (b_a.mono (B0.trans (g.h.mono B0.size)).size)).trans (b_b.mono ((B0.trans (g.h.mono B0.size)).trans (b_a.mono (B0.trans (g.h.mono B0.size)).size)).size))
  have le_a : w.heap.size ≤ blk_a := by omega
  have le_b : w.heap.size ≤ blk_b := by omega
  have z1_c := (Array.getElem?_eq_some_iff.1 A_c).1
  have z1_s := (Array.getElem?_eq_some_iff.1 A_s).1
  have z1_a := (Array.getElem?_eq_some_iff.1 A_a).1
  have z1_b := (Array.getElem?_eq_some_iff.1 A_b).1
  clear hb_a b_a s_a hU1_a hb_b b_b s_b hU1_b hp_b
  obtain ⟨q1_c_0, q1_c_1, q1_c_2, q1_c_3, q1_c_4, q1_c_5, q1_c_6, q1_c_7, q1_c_8, q1_c_9, q1_c_10⟩ := rc11 A_c
  have R1_c := Lib.hid A_c
  clear A_c
  obtain ⟨q1_s_0, q1_s_1, q1_s_2, q1_s_3, q1_s_4, q1_s_5, q1_s_6, q1_s_7⟩ := rc8 A_s
  have R1_s := Lib.hid A_s
  clear A_s
  obtain ⟨q1_a_0, q1_a_1⟩ := rc2 A_a
  have R1_a := Lib.hid A_a
  clear A_a
  obtain ⟨q1_b_0, q1_b_1⟩ := rc2 A_b
  have R1_b := Lib.hid A_b
  clear A_b
  have hgw1 := grow_cell U1_b
  go_wp2_with (first | (go_at_call 36; (with_reducible refine Calls.mono (kSu.out _) ?_); rintro e w1 ⟨rfl, hB⟩; (first | (obtain ⟨g, rfl⟩ := g.next hB) | (obtain ⟨g, rfl⟩ : ∃ g : Grow U1_b, w1 = g.x := ⟨⟨w1, hB⟩, rfl⟩)); clear hB) | (go_at_call 17; (with_reducible refine Calls.mono (kRC.out _) ?_); rintro e w1 ⟨rfl, hB⟩; (first | (obtain ⟨g, rfl⟩ := g.next hB) | (obtain ⟨g, rfl⟩ : ∃ g : Grow U1_b, w1 = g.x := ⟨⟨w1, hB⟩, rfl⟩)); clear hB) | (go_at_call 18; (with_reducible refine Calls.mono (kRS.out _) ?_); rintro e w1 ⟨rfl, hB⟩; (first | (obtain ⟨g, rfl⟩ := g.next hB) | (obtain ⟨g, rfl⟩ : ∃ g : Grow U1_b, w1 = g.x := ⟨⟨w1, hB⟩, rfl⟩)); clear hB) | (go_at_call 20; (with_reducible refine Calls.mono (hK.out _) ?_); rintro e w1 ⟨rfl, hB⟩; (first | (obtain ⟨g, rfl⟩ := g.next hB) | (obtain ⟨g, rfl⟩ : ∃ g : Grow U1_b, w1 = g.x := ⟨⟨w1, hB⟩, rfl⟩)); clear hB))
  go_ret
  exact ⟨rfl, B1.trans (g.h.mono B1.size)⟩

set_option maxRecDepth 100000 in
set_option maxHeartbeats 8000000 in
theorem lawChecks3 (c : Cav) (s : St) (w : World) (hc : c.ok = true) (hs : s.ok = true) :
    Calls Try.prog 13 #[cavV c, stV s] w fun e w' => e = .returned (.bool true) ∧ Below w.heap.size w w' := by
  obtain ⟨W1, hW1⟩ : ∃ W1, w.alloc (.cells #[.int .i64 c.vlo, .int .i64 c.vhi, .int .i64 c.least, .int .i64 c.most, .int .i64 c.f0, .int .i64 c.f1, .int .i64 c.h0, .int .i64 c.h1, .int .i64 c.rock, .int .i64 c.plo, .int .i64 c.phi] 26) = W1 := ⟨_, rfl⟩
  obtain ⟨e_c, b_c, s_c⟩ := boxed hW1
  obtain ⟨W, hW⟩ : ∃ W, W1.alloc (.cells #[.int .i64 s.glo, .int .i64 s.ghi, .int .i64 s.ylo, .int .i64 s.yhi, .int .i64 s.tlo, .int .i64 s.thi, .int .i64 s.wlo, .int .i64 s.whi] 28) = W := ⟨_, rfl⟩
  obtain ⟨e_s, b_s, s_s⟩ := boxed hW
  replace e_c := (b_s.block _ (Array.getElem?_eq_some_iff.1 e_c).1).trans e_c
  have B0 : Below w.heap.size w W := (b_c.trans (b_s.mono (by omega)))
  have z0_c := (Array.getElem?_eq_some_iff.1 e_c).1
  have z0_s := (Array.getElem?_eq_some_iff.1 e_s).1
  have le_c : w.heap.size ≤ w.heap.size := by omega
  have le_s : w.heap.size ≤ W1.heap.size := by omega
  clear s_c b_c s_s b_s
  obtain ⟨q0_c_0, q0_c_1, q0_c_2, q0_c_3, q0_c_4, q0_c_5, q0_c_6, q0_c_7, q0_c_8, q0_c_9, q0_c_10⟩ := rc11 e_c
  replace e_c := Lib.hid e_c
  obtain ⟨q0_s_0, q0_s_1, q0_s_2, q0_s_3, q0_s_4, q0_s_5, q0_s_6, q0_s_7⟩ := rc8 e_s
  replace e_s := Lib.hid e_s
  have hgw0 := grow_cell W
  have hK := Lib.hid (fun w => progKnown w)
  have kCk : Hid (∀ w, Calls Try.prog 41 #[cavV c] w fun e w' => e = .returned (.int .i64 0) ∧ Below w.heap.size w w') := Lib.hid (fun w => progCheckT w hc)
  have kPr := Lib.hid (fun w => progPressureOk w hc hs); have kSu := Lib.hid (fun w => progSureOk w hc hs)
  have hc' := Cav.ok_iff.1 hc
  have hs' := St.ok_iff.1 hs
  obtain ⟨g1, g2, g3, g4⟩ := gas_bd hs'
  obtain ⟨t1, t2⟩ := lowT hs'
  have hv := hc'.v
  have kLo := Lib.hid (fun w => refLow s w); have kHi := Lib.hid (fun w => refHigh s w)
  have kP1 := Lib.hid (fun w => refPressure c s.low c.vhi w hc' g1 g3 t1 (by omega)); have kP2 := Lib.hid (fun w => refPressure c s.high c.vlo w hc' g2 g4 t2 (by omega))
  have kSr := Lib.hid (fun w => refSure c s w hc' hs')
  clear g1 g2 g3 g4 t1 t2 hv hc' hs'
  obtain ⟨fa, hfa⟩ : ∃ f, presF c s.low c.vhi = f := ⟨_, rfl⟩
  obtain ⟨fb, hfb⟩ : ∃ f, presF c s.high c.vlo = f := ⟨_, rfl⟩
  rw [hfa, hfb] at kPr
  rw [hfa] at kP1
  rw [hfb] at kP2
  clear hfa hfb
  obtain ⟨su, hsu⟩ : ∃ n, sure c s = n := ⟨_, rfl⟩
  rw [hsu] at kSu kSr
  clear hsu
  have kRC := Lib.hid (fun w => (refCavern c w).mono fun e w' hb => BoolB.lit hb hc)
  have kRS := Lib.hid (fun w => (refState s w).mono fun e w' hb => BoolB.lit hb hs)
  replace hc := Lib.hid hc; replace hs := Lib.hid hs
  go_enter Try.func13, Try.ntmps13
  go_wp2_with (first | (go_at_call 41; (with_reducible refine Calls.mono (kCk.out _) ?_); rintro e w1 ⟨rfl, hB⟩; (first | (obtain ⟨g, rfl⟩ := g.next hB) | (obtain ⟨g, rfl⟩ : ∃ g : Grow W, w1 = g.x := ⟨⟨w1, hB⟩, rfl⟩)); clear hB) | (go_at_call 42; (with_reducible refine Calls.mono (kPr.out _) ?_); rintro e w1 ⟨rfl, hB⟩; (first | (obtain ⟨g, rfl⟩ := g.next hB) | (obtain ⟨g, rfl⟩ : ∃ g : Grow W, w1 = g.x := ⟨⟨w1, hB⟩, rfl⟩)); clear hB; have hld : ∀ (b o : Nat), b < W.heap.size → ((g.x.alloc (.cells #[.int .i64 fa.n, .int .i64 fa.d] 83)).alloc (.cells #[.int .i64 fb.n, .int .i64 fb.d] 83)).cell? ⟨b, o, none⟩ = W.cell? ⟨b, o, none⟩ := below_cell ((g.h.alloc g.size (.cells #[.int .i64 fa.n, .int .i64 fa.d] 83)).alloc (g.h.alloc g.size (.cells #[.int .i64 fa.n, .int .i64 fa.d] 83)).size (.cells #[.int .i64 fb.n, .int .i64 fb.d] 83))))
  clear hld
  clear q0_c_0 q0_c_1 q0_c_2 q0_c_3 q0_c_4 q0_c_5 q0_c_6 q0_c_7 q0_c_8 q0_c_9 q0_c_10 q0_s_0 q0_s_1 q0_s_2 q0_s_3 q0_s_4 q0_s_5 q0_s_6 q0_s_7
  clear hgw0
  have szo1 := B0.size
  have gz1 := g.size
  have A_c : g.x.heap[w.heap.size]? = some (.cells #[.int .i64 c.vlo, .int .i64 c.vhi, .int .i64 c.least, .int .i64 c.most, .int .i64 c.f0, .int .i64 c.f1, .int .i64 c.h0, .int .i64 c.h1, .int .i64 c.rock, .int .i64 c.plo, .int .i64 c.phi] 26 (0, 0)) := (g.h.block _ z0_c).trans e_c.out
  have A_s : g.x.heap[W1.heap.size]? = some (.cells #[.int .i64 s.glo, .int .i64 s.ghi, .int .i64 s.ylo, .int .i64 s.yhi, .int .i64 s.tlo, .int .i64 s.thi, .int .i64 s.wlo, .int .i64 s.whi] 28 (0, 0)) := (g.h.block _ z0_s).trans e_s.out
  obtain ⟨U1_a, hU1_a⟩ : ∃ U, g.x.alloc (.cells #[.int .i64 fa.n, .int .i64 fa.d] 83) = U := ⟨_, rfl⟩
  obtain ⟨A_a, b_a, s_a⟩ := boxed hU1_a
  rw [hU1_a]
  replace A_c := (b_a.block _ (Array.getElem?_eq_some_iff.1 A_c).1).trans A_c
  replace A_s := (b_a.block _ (Array.getElem?_eq_some_iff.1 A_s).1).trans A_s
  obtain ⟨blk_a, hb_a⟩ : ∃ b, g.x.heap.size = b := ⟨_, rfl⟩
  rw [hb_a] at A_a
  try rw [hb_a]
  obtain ⟨U1_b, hU1_b⟩ : ∃ U, U1_a.alloc (.cells #[.int .i64 fb.n, .int .i64 fb.d] 83) = U := ⟨_, rfl⟩
  obtain ⟨A_b, b_b, s_b⟩ := boxed hU1_b
  rw [hU1_b]
  replace A_c := (b_b.block _ (Array.getElem?_eq_some_iff.1 A_c).1).trans A_c
  replace A_s := (b_b.block _ (Array.getElem?_eq_some_iff.1 A_s).1).trans A_s
  replace A_a := (b_b.block _ (Array.getElem?_eq_some_iff.1 A_a).1).trans A_a
  obtain ⟨blk_b, hb_b⟩ : ∃ b, U1_a.heap.size = b := ⟨_, rfl⟩
  rw [hb_b] at A_b
  have hp_b : blk_a + 1 = blk_b := by omega
  try rw [hp_b]
  have B1 : Below w.heap.size w U1_b := (((B0.trans (g.h.mono B0.size)).trans (b_a.mono (B0.trans (g.h.mono B0.size)).size)).trans (b_b.mono ((B0.trans (g.h.mono B0.size)).trans (b_a.mono (B0.trans (g.h.mono B0.size)).size)).size))
  have le_a : w.heap.size ≤ blk_a := by omega
  have le_b : w.heap.size ≤ blk_b := by omega
  have z1_c := (Array.getElem?_eq_some_iff.1 A_c).1
  have z1_s := (Array.getElem?_eq_some_iff.1 A_s).1
  have z1_a := (Array.getElem?_eq_some_iff.1 A_a).1
  have z1_b := (Array.getElem?_eq_some_iff.1 A_b).1
  clear hb_a b_a s_a hU1_a hb_b b_b s_b hU1_b hp_b
  obtain ⟨q1_c_0, q1_c_1, q1_c_2, q1_c_3, q1_c_4, q1_c_5, q1_c_6, q1_c_7, q1_c_8, q1_c_9, q1_c_10⟩ := rc11 A_c
  have R1_c := Lib.hid A_c
  clear A_c
  obtain ⟨q1_s_0, q1_s_1, q1_s_2, q1_s_3, q1_s_4, q1_s_5, q1_s_6, q1_s_7⟩ := rc8 A_s
  have R1_s := Lib.hid A_s
  clear A_s
  obtain ⟨q1_a_0, q1_a_1⟩ := rc2 A_a
  have R1_a := Lib.hid A_a
  clear A_a
  obtain ⟨q1_b_0, q1_b_1⟩ := rc2 A_b
  have R1_b := Lib.hid A_b
  clear A_b
  have hgw1 := grow_cell U1_b
  go_wp2_with (first | (go_at_call 36; (with_reducible refine Calls.mono (kSu.out _) ?_); rintro e w1 ⟨rfl, hB⟩; (first | (obtain ⟨g, rfl⟩ := g.next hB) | (obtain ⟨g, rfl⟩ : ∃ g : Grow U1_b, w1 = g.x := ⟨⟨w1, hB⟩, rfl⟩)); clear hB) | (go_at_call 17; (with_reducible refine Calls.mono (kRC.out _) ?_); rintro e w1 ⟨rfl, hB⟩; (first | (obtain ⟨g, rfl⟩ := g.next hB) | (obtain ⟨g, rfl⟩ : ∃ g : Grow U1_b, w1 = g.x := ⟨⟨w1, hB⟩, rfl⟩)); clear hB) | (go_at_call 18; (with_reducible refine Calls.mono (kRS.out _) ?_); rintro e w1 ⟨rfl, hB⟩; (first | (obtain ⟨g, rfl⟩ := g.next hB) | (obtain ⟨g, rfl⟩ : ∃ g : Grow U1_b, w1 = g.x := ⟨⟨w1, hB⟩, rfl⟩)); clear hB))
  have hgg : ∀ (h : Grow g.x) (b o : Nat), b < U1_b.heap.size → h.x.cell? ⟨b, o, none⟩ = U1_b.cell? ⟨b, o, none⟩ := fun h b o hb => (grow_cell g.x h b o (Nat.lt_of_lt_of_le hb g.size)).trans (grow_cell U1_b g b o hb)
  refine wp_region_grow (by kernel_rfl) (by kernel_rfl) ?_
  repeat (go_big_quiet_step ((first | (go_at_call 38; with_reducible exact Calls.grow (kLo.out _)) | (go_at_call 39; with_reducible exact Calls.grow (kHi.out _)) | (go_at_call 43; with_reducible exact Calls.grow (kP1.out _)) | (go_at_call 43; with_reducible exact Calls.grow (kP2.out _)) | (go_at_call 44; with_reducible exact Calls.grow (kSr.out _)) | (go_at_call 20; with_reducible exact Calls.grow (hK.out _)))))
  refine wpQuiet_nil ?_
  rintro _ ⟨gx, rfl⟩
  clear hgg
  obtain ⟨g2, hg2⟩ := g.next gx.h
  rw [hg2]
  clear hg2 gx
  go_wp2
  go_ret
  exact ⟨rfl, B1.trans (g2.h.mono B1.size)⟩

theorem lawChecks (c : Cav) (s : St) (w : World) : Calls Try.prog 13 #[cavV c, stV s] w fun e w' => e = .returned (.bool true) ∧ Below w.heap.size w w' := by
  cases hc : c.ok
  · exact lawChecks1 c s w hc
  · cases hs : s.ok
    · exact lawChecks2 c s w hc hs
    · exact lawChecks3 c s w hc hs
end Go.Proofs.Ytgmbolagciaenaa
