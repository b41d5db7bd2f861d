/- Gas: the walk of the law GasKeeps. -/
import Derived.Test.YtgmbolagciaenaaKno
import Derived.Test.YtgmbolagciaenaaHs
set_option linter.unusedVariables false
set_option linter.unusedSimpArgs false
namespace Go.Proofs.Ytgmbolagciaenaa
open Go.RowKit Go.Sd Gas
theorem four_pts {X : World} {b : Nat} {t : TypeId} {s : St} (e : X.heap[b]? = some (.cells #[.int .i64 s.glo, .int .i64 s.ylo, .int .i64 s.tlo, .int .i64 s.wlo, .int .i64 s.ghi, .int .i64 s.yhi, .int .i64 s.thi, .int .i64 s.whi, .int .i64 s.ghi, .int .i64 s.ylo, .int .i64 s.tlo, .int .i64 0, .int .i64 s.glo, .int .i64 s.yhi, .int .i64 s.thi, .int .i64 0] t (0, 0))) : ∀ k : Nat, k < 4 →
    X.cell? ⟨b, k * 4, none⟩ = some (.int .i64 (endPt s k).g) ∧ X.cell? ⟨b, k * 4 + 1, none⟩ = some (.int .i64 (endPt s k).y) ∧ X.cell? ⟨b, k * 4 + 2, none⟩ = some (.int .i64 (endPt s k).t) ∧ X.cell? ⟨b, k * 4 + 3, none⟩ = some (.int .i64 (endPt s k).w) := by
  intro k hk
  have r := (row_cells e).2.1
  match k, hk with
  | 0, _ => exact ⟨r 0, r 1, r 2, r 3⟩
  | 1, _ => exact ⟨r 4, r 5, r 6, r 7⟩
  | 2, _ => exact ⟨r 8, r 9, r 10, r 11⟩
  | 3, _ => exact ⟨r 12, r 13, r 14, r 15⟩
theorem two_vols {X : World} {b : Nat} {t : TypeId} {c : Cav} (e : X.heap[b]? = some (.cells #[.int .i64 c.vhi, .int .i64 c.vlo] t (0, 0))) : ∀ k : Nat, k < 2 → X.cell? ⟨b, k, none⟩ = some (.int .i64 (endV c k)) := by
  intro k hk
  have r := (row_cells e).2.1
  match k, hk with
  | 0, _ => exact r 0
  | 1, _ => exact r 1
set_option maxRecDepth 100000 in
set_option maxHeartbeats 16000000 in
theorem lawKeeps0 (c : Cav) (s : St) (p : Pt) (v : Int) (w : World) (hc : c.ok = false) :
    Calls Try.prog 12 #[cavV c, stV s, ptV p, .int .i64 v] w fun e w' => e = .returned (.bool true) ∧ Below w.heap.size w w' := by
  obtain ⟨W1, hW1⟩ : ∃ W1, w.alloc (.cells #[.int .i64 c.vlo, .int .i64 c.vhi, .int .i64 c.least, .int .i64 c.most, .int .i64 c.f0, .int .i64 c.f1, .int .i64 c.h0, .int .i64 c.h1, .int .i64 c.rock, .int .i64 c.plo, .int .i64 c.phi] 26) = W1 := ⟨_, rfl⟩
  obtain ⟨e_c, b_c, s_c⟩ := boxed hW1
  obtain ⟨W2, hW2⟩ : ∃ W2, W1.alloc (.cells #[.int .i64 s.glo, .int .i64 s.ghi, .int .i64 s.ylo, .int .i64 s.yhi, .int .i64 s.tlo, .int .i64 s.thi, .int .i64 s.wlo, .int .i64 s.whi] 28) = W2 := ⟨_, rfl⟩
  obtain ⟨e_s, b_s, s_s⟩ := boxed hW2
  replace e_c := (b_s.block _ (Array.getElem?_eq_some_iff.1 e_c).1).trans e_c
  obtain ⟨W, hW⟩ : ∃ W, W2.alloc (.cells #[.int .i64 p.g, .int .i64 p.y, .int .i64 p.t, .int .i64 p.w] 31) = W := ⟨_, rfl⟩
  obtain ⟨e_p, b_p, s_p⟩ := boxed hW
  replace e_c := (b_p.block _ (Array.getElem?_eq_some_iff.1 e_c).1).trans e_c
  replace e_s := (b_p.block _ (Array.getElem?_eq_some_iff.1 e_s).1).trans e_s
  have B0 : Below w.heap.size w W := ((b_c.trans (b_s.mono (by omega))).trans (b_p.mono (by omega)))
  have z0_c := (Array.getElem?_eq_some_iff.1 e_c).1
  have z0_s := (Array.getElem?_eq_some_iff.1 e_s).1
  have z0_p := (Array.getElem?_eq_some_iff.1 e_p).1
  have le_c : w.heap.size ≤ w.heap.size := by omega
  have le_s : w.heap.size ≤ W1.heap.size := by omega
  have le_p : w.heap.size ≤ W2.heap.size := by omega
  clear s_c b_c s_s b_s s_p b_p
  obtain ⟨q0_c_0, q0_c_1, q0_c_2, q0_c_3, q0_c_4, q0_c_5, q0_c_6, q0_c_7, q0_c_8, q0_c_9, q0_c_10⟩ := rc11 e_c
  replace e_c := Lib.hid e_c
  obtain ⟨q0_s_0, q0_s_1, q0_s_2, q0_s_3, q0_s_4, q0_s_5, q0_s_6, q0_s_7⟩ := rc8 e_s
  replace e_s := Lib.hid e_s
  obtain ⟨q0_p_0, q0_p_1, q0_p_2, q0_p_3⟩ := rc4 e_p
  replace e_p := Lib.hid e_p
  have hgw0 := grow_cell W
  have hK := Lib.hid (fun w => progKnown w)
  have kRC := Lib.hid (fun w => (refCavern c w).mono fun e w' hb => BoolB.lit hb hc)
  replace hc := Lib.hid hc
  go_enter Try.func12, Try.ntmps12
  go_wp2_with (first | (go_at_call 17; (with_reducible refine Calls.mono (kRC.out _) ?_); rintro e w1 ⟨rfl, hB⟩; (first | (obtain ⟨g, rfl⟩ := g.next hB) | (obtain ⟨g, rfl⟩ : ∃ g : Grow W, w1 = g.x := ⟨⟨w1, hB⟩, rfl⟩)); clear hB) | (go_at_call 20; (with_reducible refine Calls.mono (hK.out _) ?_); rintro e w1 ⟨rfl, hB⟩; (first | (obtain ⟨g, rfl⟩ := g.next hB) | (obtain ⟨g, rfl⟩ : ∃ g : Grow W, w1 = g.x := ⟨⟨w1, hB⟩, rfl⟩)); clear hB))
  go_ret
  exact ⟨rfl, B0.trans (g.h.mono B0.size)⟩

set_option maxRecDepth 100000 in
set_option maxHeartbeats 16000000 in
theorem lawKeeps1 (c : Cav) (s : St) (p : Pt) (v : Int) (w : World) (hc : c.ok = true) (hs : s.ok = false) :
    Calls Try.prog 12 #[cavV c, stV s, ptV p, .int .i64 v] w fun e w' => e = .returned (.bool true) ∧ Below w.heap.size w w' := by
  obtain ⟨W1, hW1⟩ : ∃ W1, w.alloc (.cells #[.int .i64 c.vlo, .int .i64 c.vhi, .int .i64 c.least, .int .i64 c.most, .int .i64 c.f0, .int .i64 c.f1, .int .i64 c.h0, .int .i64 c.h1, .int .i64 c.rock, .int .i64 c.plo, .int .i64 c.phi] 26) = W1 := ⟨_, rfl⟩
  obtain ⟨e_c, b_c, s_c⟩ := boxed hW1
  obtain ⟨W2, hW2⟩ : ∃ W2, W1.alloc (.cells #[.int .i64 s.glo, .int .i64 s.ghi, .int .i64 s.ylo, .int .i64 s.yhi, .int .i64 s.tlo, .int .i64 s.thi, .int .i64 s.wlo, .int .i64 s.whi] 28) = W2 := ⟨_, rfl⟩
  obtain ⟨e_s, b_s, s_s⟩ := boxed hW2
  replace e_c := (b_s.block _ (Array.getElem?_eq_some_iff.1 e_c).1).trans e_c
  obtain ⟨W, hW⟩ : ∃ W, W2.alloc (.cells #[.int .i64 p.g, .int .i64 p.y, .int .i64 p.t, .int .i64 p.w] 31) = W := ⟨_, rfl⟩
  obtain ⟨e_p, b_p, s_p⟩ := boxed hW
  replace e_c := (b_p.block _ (Array.getElem?_eq_some_iff.1 e_c).1).trans e_c
  replace e_s := (b_p.block _ (Array.getElem?_eq_some_iff.1 e_s).1).trans e_s
  have B0 : Below w.heap.size w W := ((b_c.trans (b_s.mono (by omega))).trans (b_p.mono (by omega)))
  have z0_c := (Array.getElem?_eq_some_iff.1 e_c).1
  have z0_s := (Array.getElem?_eq_some_iff.1 e_s).1
  have z0_p := (Array.getElem?_eq_some_iff.1 e_p).1
  have le_c : w.heap.size ≤ w.heap.size := by omega
  have le_s : w.heap.size ≤ W1.heap.size := by omega
  have le_p : w.heap.size ≤ W2.heap.size := by omega
  clear s_c b_c s_s b_s s_p b_p
  obtain ⟨q0_c_0, q0_c_1, q0_c_2, q0_c_3, q0_c_4, q0_c_5, q0_c_6, q0_c_7, q0_c_8, q0_c_9, q0_c_10⟩ := rc11 e_c
  replace e_c := Lib.hid e_c
  obtain ⟨q0_s_0, q0_s_1, q0_s_2, q0_s_3, q0_s_4, q0_s_5, q0_s_6, q0_s_7⟩ := rc8 e_s
  replace e_s := Lib.hid e_s
  obtain ⟨q0_p_0, q0_p_1, q0_p_2, q0_p_3⟩ := rc4 e_p
  replace e_p := Lib.hid e_p
  have hgw0 := grow_cell W
  have hK := Lib.hid (fun w => progKnown w)
  have kRC := Lib.hid (fun w => (refCavern c w).mono fun e w' hb => BoolB.lit hb hc)
  have kRS := Lib.hid (fun w => (refState s w).mono fun e w' hb => BoolB.lit hb hs)
  replace hc := Lib.hid hc; replace hs := Lib.hid hs
  go_enter Try.func12, Try.ntmps12
  go_wp2_with (first | (go_at_call 17; (with_reducible refine Calls.mono (kRC.out _) ?_); rintro e w1 ⟨rfl, hB⟩; (first | (obtain ⟨g, rfl⟩ := g.next hB) | (obtain ⟨g, rfl⟩ : ∃ g : Grow W, w1 = g.x := ⟨⟨w1, hB⟩, rfl⟩)); clear hB) | (go_at_call 18; (with_reducible refine Calls.mono (kRS.out _) ?_); rintro e w1 ⟨rfl, hB⟩; (first | (obtain ⟨g, rfl⟩ := g.next hB) | (obtain ⟨g, rfl⟩ : ∃ g : Grow W, w1 = g.x := ⟨⟨w1, hB⟩, rfl⟩)); clear hB) | (go_at_call 20; (with_reducible refine Calls.mono (hK.out _) ?_); rintro e w1 ⟨rfl, hB⟩; (first | (obtain ⟨g, rfl⟩ := g.next hB) | (obtain ⟨g, rfl⟩ : ∃ g : Grow W, w1 = g.x := ⟨⟨w1, hB⟩, rfl⟩)); clear hB))
  go_ret
  exact ⟨rfl, B0.trans (g.h.mono B0.size)⟩

set_option maxRecDepth 100000 in
set_option maxHeartbeats 16000000 in
theorem lawKeeps2 (c : Cav) (s : St) (p : Pt) (v : Int) (w : World) (hc : c.ok = true) (hs : s.ok = true) (hp : hasB s p = false) :
    Calls Try.prog 12 #[cavV c, stV s, ptV p, .int .i64 v] w fun e w' => e = .returned (.bool true) ∧ Below w.heap.size w w' := by
  obtain ⟨W1, hW1⟩ : ∃ W1, w.alloc (.cells #[.int .i64 c.vlo, .int .i64 c.vhi, .int .i64 c.least, .int .i64 c.most, .int .i64 c.f0, .int .i64 c.f1, .int .i64 c.h0, .int .i64 c.h1, .int .i64 c.rock, .int .i64 c.plo, .int .i64 c.phi] 26) = W1 := ⟨_, rfl⟩
  obtain ⟨e_c, b_c, s_c⟩ := boxed hW1
  obtain ⟨W2, hW2⟩ : ∃ W2, W1.alloc (.cells #[.int .i64 s.glo, .int .i64 s.ghi, .int .i64 s.ylo, .int .i64 s.yhi, .int .i64 s.tlo, .int .i64 s.thi, .int .i64 s.wlo, .int .i64 s.whi] 28) = W2 := ⟨_, rfl⟩
  obtain ⟨e_s, b_s, s_s⟩ := boxed hW2
  replace e_c := (b_s.block _ (Array.getElem?_eq_some_iff.1 e_c).1).trans e_c
  obtain ⟨W, hW⟩ : ∃ W, W2.alloc (.cells #[.int .i64 p.g, .int .i64 p.y, .int .i64 p.t, .int .i64 p.w] 31) = W := ⟨_, rfl⟩
  obtain ⟨e_p, b_p, s_p⟩ := boxed hW
  replace e_c := (b_p.block _ (Array.getElem?_eq_some_iff.1 e_c).1).trans e_c
  replace e_s := (b_p.block _ (Array.getElem?_eq_some_iff.1 e_s).1).trans e_s
  have B0 : Below w.heap.size w W := ((b_c.trans (b_s.mono (by omega))).trans (b_p.mono (by omega)))
  have z0_c := (Array.getElem?_eq_some_iff.1 e_c).1
  have z0_s := (Array.getElem?_eq_some_iff.1 e_s).1
  have z0_p := (Array.getElem?_eq_some_iff.1 e_p).1
  have le_c : w.heap.size ≤ w.heap.size := by omega
  have le_s : w.heap.size ≤ W1.heap.size := by omega
  have le_p : w.heap.size ≤ W2.heap.size := by omega
  clear s_c b_c s_s b_s s_p b_p
  obtain ⟨q0_c_0, q0_c_1, q0_c_2, q0_c_3, q0_c_4, q0_c_5, q0_c_6, q0_c_7, q0_c_8, q0_c_9, q0_c_10⟩ := rc11 e_c
  replace e_c := Lib.hid e_c
  obtain ⟨q0_s_0, q0_s_1, q0_s_2, q0_s_3, q0_s_4, q0_s_5, q0_s_6, q0_s_7⟩ := rc8 e_s
  replace e_s := Lib.hid e_s
  obtain ⟨q0_p_0, q0_p_1, q0_p_2, q0_p_3⟩ := rc4 e_p
  replace e_p := Lib.hid e_p
  have hgw0 := grow_cell W
  have hK := Lib.hid (fun w => progKnown w)
  have kRC := Lib.hid (fun w => (refCavern c w).mono fun e w' hb => BoolB.lit hb hc)
  have kRS := Lib.hid (fun w => (refState s w).mono fun e w' hb => BoolB.lit hb hs)
  have kRH := Lib.hid (fun w => (refHas s p w).mono fun e w' hb => BoolB.lit hb hp)
  replace hc := Lib.hid hc; replace hs := Lib.hid hs; replace hp := Lib.hid hp
  go_enter Try.func12, Try.ntmps12
  go_wp2_with (first | (go_at_call 17; (with_reducible refine Calls.mono (kRC.out _) ?_); rintro e w1 ⟨rfl, hB⟩; (first | (obtain ⟨g, rfl⟩ := g.next hB) | (obtain ⟨g, rfl⟩ : ∃ g : Grow W, w1 = g.x := ⟨⟨w1, hB⟩, rfl⟩)); clear hB) | (go_at_call 18; (with_reducible refine Calls.mono (kRS.out _) ?_); rintro e w1 ⟨rfl, hB⟩; (first | (obtain ⟨g, rfl⟩ := g.next hB) | (obtain ⟨g, rfl⟩ : ∃ g : Grow W, w1 = g.x := ⟨⟨w1, hB⟩, rfl⟩)); clear hB) | (go_at_call 34; (with_reducible refine Calls.mono (kRH.out _) ?_); rintro e w1 ⟨rfl, hB⟩; (first | (obtain ⟨g, rfl⟩ := g.next hB) | (obtain ⟨g, rfl⟩ : ∃ g : Grow W, w1 = g.x := ⟨⟨w1, hB⟩, rfl⟩)); clear hB) | (go_at_call 20; (with_reducible refine Calls.mono (hK.out _) ?_); rintro e w1 ⟨rfl, hB⟩; (first | (obtain ⟨g, rfl⟩ := g.next hB) | (obtain ⟨g, rfl⟩ : ∃ g : Grow W, w1 = g.x := ⟨⟨w1, hB⟩, rfl⟩)); clear hB))
  go_ret
  exact ⟨rfl, B0.trans (g.h.mono B0.size)⟩

set_option maxRecDepth 100000 in
set_option maxHeartbeats 16000000 in
theorem lawKeeps3 (c : Cav) (s : St) (p : Pt) (v : Int) (w : World) (hc : c.ok = true) (hs : s.ok = true) (hp : hasB s p = true) (hv1 : v < c.vlo) :
    Calls Try.prog 12 #[cavV c, stV s, ptV p, .int .i64 v] w fun e w' => e = .returned (.bool true) ∧ Below w.heap.size w w' := by
  obtain ⟨W1, hW1⟩ : ∃ W1, w.alloc (.cells #[.int .i64 c.vlo, .int .i64 c.vhi, .int .i64 c.least, .int .i64 c.most, .int .i64 c.f0, .int .i64 c.f1, .int .i64 c.h0, .int .i64 c.h1, .int .i64 c.rock, .int .i64 c.plo, .int .i64 c.phi] 26) = W1 := ⟨_, rfl⟩
  obtain ⟨e_c, b_c, s_c⟩ := boxed hW1
  obtain ⟨W2, hW2⟩ : ∃ W2, W1.alloc (.cells #[.int .i64 s.glo, .int .i64 s.ghi, .int .i64 s.ylo, .int .i64 s.yhi, .int .i64 s.tlo, .int .i64 s.thi, .int .i64 s.wlo, .int .i64 s.whi] 28) = W2 := ⟨_, rfl⟩
  obtain ⟨e_s, b_s, s_s⟩ := boxed hW2
  replace e_c := (b_s.block _ (Array.getElem?_eq_some_iff.1 e_c).1).trans e_c
  obtain ⟨W, hW⟩ : ∃ W, W2.alloc (.cells #[.int .i64 p.g, .int .i64 p.y, .int .i64 p.t, .int .i64 p.w] 31) = W := ⟨_, rfl⟩
  obtain ⟨e_p, b_p, s_p⟩ := boxed hW
  replace e_c := (b_p.block _ (Array.getElem?_eq_some_iff.1 e_c).1).trans e_c
  replace e_s := (b_p.block _ (Array.getElem?_eq_some_iff.1 e_s).1).trans e_s
  have B0 : Below w.heap.size w W := ((b_c.trans (b_s.mono (by omega))).trans (b_p.mono (by omega)))
  have z0_c := (Array.getElem?_eq_some_iff.1 e_c).1
  have z0_s := (Array.getElem?_eq_some_iff.1 e_s).1
  have z0_p := (Array.getElem?_eq_some_iff.1 e_p).1
  have le_c : w.heap.size ≤ w.heap.size := by omega
  have le_s : w.heap.size ≤ W1.heap.size := by omega
  have le_p : w.heap.size ≤ W2.heap.size := by omega
  clear s_c b_c s_s b_s s_p b_p
  obtain ⟨q0_c_0, q0_c_1, q0_c_2, q0_c_3, q0_c_4, q0_c_5, q0_c_6, q0_c_7, q0_c_8, q0_c_9, q0_c_10⟩ := rc11 e_c
  replace e_c := Lib.hid e_c
  obtain ⟨q0_s_0, q0_s_1, q0_s_2, q0_s_3, q0_s_4, q0_s_5, q0_s_6, q0_s_7⟩ := rc8 e_s
  replace e_s := Lib.hid e_s
  obtain ⟨q0_p_0, q0_p_1, q0_p_2, q0_p_3⟩ := rc4 e_p
  replace e_p := Lib.hid e_p
  have hgw0 := grow_cell W
  have hK := Lib.hid (fun w => progKnown w)
  have kRC := Lib.hid (fun w => (refCavern c w).mono fun e w' hb => BoolB.lit hb hc)
  have kRS := Lib.hid (fun w => (refState s w).mono fun e w' hb => BoolB.lit hb hs)
  have kRH := Lib.hid (fun w => (refHas s p w).mono fun e w' hb => BoolB.lit hb hp)
  replace hc := Lib.hid hc; replace hs := Lib.hid hs; replace hp := Lib.hid hp
  go_enter Try.func12, Try.ntmps12
  go_wp2_with (first | (go_at_call 17; (with_reducible refine Calls.mono (kRC.out _) ?_); rintro e w1 ⟨rfl, hB⟩; (first | (obtain ⟨g, rfl⟩ := g.next hB) | (obtain ⟨g, rfl⟩ : ∃ g : Grow W, w1 = g.x := ⟨⟨w1, hB⟩, rfl⟩)); clear hB) | (go_at_call 18; (with_reducible refine Calls.mono (kRS.out _) ?_); rintro e w1 ⟨rfl, hB⟩; (first | (obtain ⟨g, rfl⟩ := g.next hB) | (obtain ⟨g, rfl⟩ : ∃ g : Grow W, w1 = g.x := ⟨⟨w1, hB⟩, rfl⟩)); clear hB) | (go_at_call 34; (with_reducible refine Calls.mono (kRH.out _) ?_); rintro e w1 ⟨rfl, hB⟩; (first | (obtain ⟨g, rfl⟩ := g.next hB) | (obtain ⟨g, rfl⟩ : ∃ g : Grow W, w1 = g.x := ⟨⟨w1, hB⟩, rfl⟩)); clear hB) | (go_at_call 20; (with_reducible refine Calls.mono (hK.out _) ?_); rintro e w1 ⟨rfl, hB⟩; (first | (obtain ⟨g, rfl⟩ := g.next hB) | (obtain ⟨g, rfl⟩ : ∃ g : Grow W, w1 = g.x := ⟨⟨w1, hB⟩, rfl⟩)); clear hB))
  go_ret
  exact ⟨rfl, B0.trans (g.h.mono B0.size)⟩

set_option maxRecDepth 100000 in
set_option maxHeartbeats 16000000 in
theorem lawKeeps4 (c : Cav) (s : St) (p : Pt) (v : Int) (w : World) (hc : c.ok = true) (hs : s.ok = true) (hp : hasB s p = true) (hv1 : ¬ v < c.vlo) (hv2 : c.vhi < v) :
    Calls Try.prog 12 #[cavV c, stV s, ptV p, .int .i64 v] w fun e w' => e = .returned (.bool true) ∧ Below w.heap.size w w' := by
  obtain ⟨W1, hW1⟩ : ∃ W1, w.alloc (.cells #[.int .i64 c.vlo, .int .i64 c.vhi, .int .i64 c.least, .int .i64 c.most, .int .i64 c.f0, .int .i64 c.f1, .int .i64 c.h0, .int .i64 c.h1, .int .i64 c.rock, .int .i64 c.plo, .int .i64 c.phi] 26) = W1 := ⟨_, rfl⟩
  obtain ⟨e_c, b_c, s_c⟩ := boxed hW1
  obtain ⟨W2, hW2⟩ : ∃ W2, W1.alloc (.cells #[.int .i64 s.glo, .int .i64 s.ghi, .int .i64 s.ylo, .int .i64 s.yhi, .int .i64 s.tlo, .int .i64 s.thi, .int .i64 s.wlo, .int .i64 s.whi] 28) = W2 := ⟨_, rfl⟩
  obtain ⟨e_s, b_s, s_s⟩ := boxed hW2
  replace e_c := (b_s.block _ (Array.getElem?_eq_some_iff.1 e_c).1).trans e_c
  obtain ⟨W, hW⟩ : ∃ W, W2.alloc (.cells #[.int .i64 p.g, .int .i64 p.y, .int .i64 p.t, .int .i64 p.w] 31) = W := ⟨_, rfl⟩
  obtain ⟨e_p, b_p, s_p⟩ := boxed hW
  replace e_c := (b_p.block _ (Array.getElem?_eq_some_iff.1 e_c).1).trans e_c
  replace e_s := (b_p.block _ (Array.getElem?_eq_some_iff.1 e_s).1).trans e_s
  have B0 : Below w.heap.size w W := ((b_c.trans (b_s.mono (by omega))).trans (b_p.mono (by omega)))
  have z0_c := (Array.getElem?_eq_some_iff.1 e_c).1
  have z0_s := (Array.getElem?_eq_some_iff.1 e_s).1
  have z0_p := (Array.getElem?_eq_some_iff.1 e_p).1
  have le_c : w.heap.size ≤ w.heap.size := by omega
  have le_s : w.heap.size ≤ W1.heap.size := by omega
  have le_p : w.heap.size ≤ W2.heap.size := by omega
  clear s_c b_c s_s b_s s_p b_p
  obtain ⟨q0_c_0, q0_c_1, q0_c_2, q0_c_3, q0_c_4, q0_c_5, q0_c_6, q0_c_7, q0_c_8, q0_c_9, q0_c_10⟩ := rc11 e_c
  replace e_c := Lib.hid e_c
  obtain ⟨q0_s_0, q0_s_1, q0_s_2, q0_s_3, q0_s_4, q0_s_5, q0_s_6, q0_s_7⟩ := rc8 e_s
  replace e_s := Lib.hid e_s
  obtain ⟨q0_p_0, q0_p_1, q0_p_2, q0_p_3⟩ := rc4 e_p
  replace e_p := Lib.hid e_p
  have hgw0 := grow_cell W
  have hK := Lib.hid (fun w => progKnown w)
  have kRC := Lib.hid (fun w => (refCavern c w).mono fun e w' hb => BoolB.lit hb hc)
  have kRS := Lib.hid (fun w => (refState s w).mono fun e w' hb => BoolB.lit hb hs)
  have kRH := Lib.hid (fun w => (refHas s p w).mono fun e w' hb => BoolB.lit hb hp)
  replace hc := Lib.hid hc; replace hs := Lib.hid hs; replace hp := Lib.hid hp
  go_enter Try.func12, Try.ntmps12
  go_wp2_with (first | (go_at_call 17; (with_reducible refine Calls.mono (kRC.out _) ?_); rintro e w1 ⟨rfl, hB⟩; (first | (obtain ⟨g, rfl⟩ := g.next hB) | (obtain ⟨g, rfl⟩ : ∃ g : Grow W, w1 = g.x := ⟨⟨w1, hB⟩, rfl⟩)); clear hB) | (go_at_call 18; (with_reducible refine Calls.mono (kRS.out _) ?_); rintro e w1 ⟨rfl, hB⟩; (first | (obtain ⟨g, rfl⟩ := g.next hB) | (obtain ⟨g, rfl⟩ : ∃ g : Grow W, w1 = g.x := ⟨⟨w1, hB⟩, rfl⟩)); clear hB) | (go_at_call 34; (with_reducible refine Calls.mono (kRH.out _) ?_); rintro e w1 ⟨rfl, hB⟩; (first | (obtain ⟨g, rfl⟩ := g.next hB) | (obtain ⟨g, rfl⟩ : ∃ g : Grow W, w1 = g.x := ⟨⟨w1, hB⟩, rfl⟩)); clear hB) | (go_at_call 20; (with_reducible refine Calls.mono (hK.out _) ?_); rintro e w1 ⟨rfl, hB⟩; (first | (obtain ⟨g, rfl⟩ := g.next hB) | (obtain ⟨g, rfl⟩ : ∃ g : Grow W, w1 = g.x := ⟨⟨w1, hB⟩, rfl⟩)); clear hB))
  go_ret
  exact ⟨rfl, B0.trans (g.h.mono B0.size)⟩

set_option maxRecDepth 100000 in
set_option maxHeartbeats 16000000 in
theorem lawKeeps5 (c : Cav) (s : St) (p : Pt) (v : Int) (w : World) (hc : c.ok = true) (hs : s.ok = true) (hp : hasB s p = true) (hv1 : ¬ v < c.vlo) (hv2 : ¬ c.vhi < v) (hk : keeps c p v = 1) (hr : sure c s = 1) :
    Calls Try.prog 12 #[cavV c, stV s, ptV p, .int .i64 v] w fun e w' => e = .returned (.bool true) ∧ Below w.heap.size w w' := by
  obtain ⟨W1, hW1⟩ : ∃ W1, w.alloc (.cells #[.int .i64 c.vlo, .int .i64 c.vhi, .int .i64 c.least, .int .i64 c.most, .int .i64 c.f0, .int .i64 c.f1, .int .i64 c.h0, .int .i64 c.h1, .int .i64 c.rock, .int .i64 c.plo, .int .i64 c.phi] 26) = W1 := ⟨_, rfl⟩
  obtain ⟨e_c, b_c, s_c⟩ := boxed hW1
  obtain ⟨W2, hW2⟩ : ∃ W2, W1.alloc (.cells #[.int .i64 s.glo, .int .i64 s.ghi, .int .i64 s.ylo, .int .i64 s.yhi, .int .i64 s.tlo, .int .i64 s.thi, .int .i64 s.wlo, .int .i64 s.whi] 28) = W2 := ⟨_, rfl⟩
  obtain ⟨e_s, b_s, s_s⟩ := boxed hW2
  replace e_c := (b_s.block _ (Array.getElem?_eq_some_iff.1 e_c).1).trans e_c
  obtain ⟨W, hW⟩ : ∃ W, W2.alloc (.cells #[.int .i64 p.g, .int .i64 p.y, .int .i64 p.t, .int .i64 p.w] 31) = W := ⟨_, rfl⟩
  obtain ⟨e_p, b_p, s_p⟩ := boxed hW
  replace e_c := (b_p.block _ (Array.getElem?_eq_some_iff.1 e_c).1).trans e_c
  replace e_s := (b_p.block _ (Array.getElem?_eq_some_iff.1 e_s).1).trans e_s
  have B0 : Below w.heap.size w W := ((b_c.trans (b_s.mono (by omega))).trans (b_p.mono (by omega)))
  have z0_c := (Array.getElem?_eq_some_iff.1 e_c).1
  have z0_s := (Array.getElem?_eq_some_iff.1 e_s).1
  have z0_p := (Array.getElem?_eq_some_iff.1 e_p).1
  have le_c : w.heap.size ≤ w.heap.size := by omega
  have le_s : w.heap.size ≤ W1.heap.size := by omega
  have le_p : w.heap.size ≤ W2.heap.size := by omega
  clear s_c b_c s_s b_s s_p b_p
  obtain ⟨q0_c_0, q0_c_1, q0_c_2, q0_c_3, q0_c_4, q0_c_5, q0_c_6, q0_c_7, q0_c_8, q0_c_9, q0_c_10⟩ := rc11 e_c
  replace e_c := Lib.hid e_c
  obtain ⟨q0_s_0, q0_s_1, q0_s_2, q0_s_3, q0_s_4, q0_s_5, q0_s_6, q0_s_7⟩ := rc8 e_s
  replace e_s := Lib.hid e_s
  obtain ⟨q0_p_0, q0_p_1, q0_p_2, q0_p_3⟩ := rc4 e_p
  replace e_p := Lib.hid e_p
  have hgw0 := grow_cell W
  have hK := Lib.hid (fun w => progKnown w)
  have hc' := Cav.ok_iff.1 hc
  have hs' := St.ok_iff.1 hs
  have hp' := (hasB_iff.1 hp).ok hs'
  have hvv := hc'.v
  have hks := keeps_sure hc' hs' (hasB_iff.1 hp) (v := v) (by omega)
  have kSu := Lib.hid (fun w => progSureOk w hc hs)
  have kKe := Lib.hid (fun w => refKeeps c p v w hc' hp' (by omega))
  skip
  clear hvv hp' hc' hs'
  generalize sure c s = su at *
  generalize keeps c p v = kp at *
  subst hr
  subst hk
  clear hks
  have kRC := Lib.hid (fun w => (refCavern c w).mono fun e w' hb => BoolB.lit hb hc)
  have kRS := Lib.hid (fun w => (refState s w).mono fun e w' hb => BoolB.lit hb hs)
  have kRH := Lib.hid (fun w => (refHas s p w).mono fun e w' hb => BoolB.lit hb hp)
  replace hc := Lib.hid hc; replace hs := Lib.hid hs; replace hp := Lib.hid hp
  go_enter Try.func12, Try.ntmps12
  go_wp2_with (first | (go_at_call 17; (with_reducible refine Calls.mono (kRC.out _) ?_); rintro e w1 ⟨rfl, hB⟩; (first | (obtain ⟨g, rfl⟩ := g.next hB) | (obtain ⟨g, rfl⟩ : ∃ g : Grow W, w1 = g.x := ⟨⟨w1, hB⟩, rfl⟩)); clear hB) | (go_at_call 18; (with_reducible refine Calls.mono (kRS.out _) ?_); rintro e w1 ⟨rfl, hB⟩; (first | (obtain ⟨g, rfl⟩ := g.next hB) | (obtain ⟨g, rfl⟩ : ∃ g : Grow W, w1 = g.x := ⟨⟨w1, hB⟩, rfl⟩)); clear hB) | (go_at_call 34; (with_reducible refine Calls.mono (kRH.out _) ?_); rintro e w1 ⟨rfl, hB⟩; (first | (obtain ⟨g, rfl⟩ := g.next hB) | (obtain ⟨g, rfl⟩ : ∃ g : Grow W, w1 = g.x := ⟨⟨w1, hB⟩, rfl⟩)); clear hB) | (go_at_call 36; (with_reducible refine Calls.mono (kSu.out _) ?_); rintro e w1 ⟨rfl, hB⟩; (first | (obtain ⟨g, rfl⟩ := g.next hB) | (obtain ⟨g, rfl⟩ : ∃ g : Grow W, w1 = g.x := ⟨⟨w1, hB⟩, rfl⟩)); clear hB) | (go_at_call 37; (with_reducible refine Calls.mono (kKe.out _) ?_); rintro e w1 ⟨rfl, hB⟩; (first | (obtain ⟨g, rfl⟩ := g.next hB) | (obtain ⟨g, rfl⟩ : ∃ g : Grow W, w1 = g.x := ⟨⟨w1, hB⟩, rfl⟩)); clear hB) | (go_at_call 20; (with_reducible refine Calls.mono (hK.out _) ?_); rintro e w1 ⟨rfl, hB⟩; (first | (obtain ⟨g, rfl⟩ := g.next hB) | (obtain ⟨g, rfl⟩ : ∃ g : Grow W, w1 = g.x := ⟨⟨w1, hB⟩, rfl⟩)); clear hB))
  go_ret
  exact ⟨rfl, B0.trans (g.h.mono B0.size)⟩

set_option maxRecDepth 100000 in
set_option maxHeartbeats 16000000 in
theorem lawKeeps6 (c : Cav) (s : St) (p : Pt) (v : Int) (w : World) (hc : c.ok = true) (hs : s.ok = true) (hp : hasB s p = true) (hv1 : ¬ v < c.vlo) (hv2 : ¬ c.vhi < v) (hk : keeps c p v = 1) (hr : sure c s ≠ 1) :
    Calls Try.prog 12 #[cavV c, stV s, ptV p, .int .i64 v] w fun e w' => e = .returned (.bool true) ∧ Below w.heap.size w w' := by
  obtain ⟨W1, hW1⟩ : ∃ W1, w.alloc (.cells #[.int .i64 c.vlo, .int .i64 c.vhi, .int .i64 c.least, .int .i64 c.most, .int .i64 c.f0, .int .i64 c.f1, .int .i64 c.h0, .int .i64 c.h1, .int .i64 c.rock, .int .i64 c.plo, .int .i64 c.phi] 26) = W1 := ⟨_, rfl⟩
  obtain ⟨e_c, b_c, s_c⟩ := boxed hW1
  obtain ⟨W2, hW2⟩ : ∃ W2, W1.alloc (.cells #[.int .i64 s.glo, .int .i64 s.ghi, .int .i64 s.ylo, .int .i64 s.yhi, .int .i64 s.tlo, .int .i64 s.thi, .int .i64 s.wlo, .int .i64 s.whi] 28) = W2 := ⟨_, rfl⟩
  obtain ⟨e_s, b_s, s_s⟩ := boxed hW2
  replace e_c := (b_s.block _ (Array.getElem?_eq_some_iff.1 e_c).1).trans e_c
  obtain ⟨W, hW⟩ : ∃ W, W2.alloc (.cells #[.int .i64 p.g, .int .i64 p.y, .int .i64 p.t, .int .i64 p.w] 31) = W := ⟨_, rfl⟩
  obtain ⟨e_p, b_p, s_p⟩ := boxed hW
  replace e_c := (b_p.block _ (Array.getElem?_eq_some_iff.1 e_c).1).trans e_c
  replace e_s := (b_p.block _ (Array.getElem?_eq_some_iff.1 e_s).1).trans e_s
  have B0 : Below w.heap.size w W := ((b_c.trans (b_s.mono (by omega))).trans (b_p.mono (by omega)))
  have z0_c := (Array.getElem?_eq_some_iff.1 e_c).1
  have z0_s := (Array.getElem?_eq_some_iff.1 e_s).1
  have z0_p := (Array.getElem?_eq_some_iff.1 e_p).1
  have le_c : w.heap.size ≤ w.heap.size := by omega
  have le_s : w.heap.size ≤ W1.heap.size := by omega
  have le_p : w.heap.size ≤ W2.heap.size := by omega
  clear s_c b_c s_s b_s s_p b_p
  obtain ⟨q0_c_0, q0_c_1, q0_c_2, q0_c_3, q0_c_4, q0_c_5, q0_c_6, q0_c_7, q0_c_8, q0_c_9, q0_c_10⟩ := rc11 e_c
  replace e_c := Lib.hid e_c
  obtain ⟨q0_s_0, q0_s_1, q0_s_2, q0_s_3, q0_s_4, q0_s_5, q0_s_6, q0_s_7⟩ := rc8 e_s
  replace e_s := Lib.hid e_s
  obtain ⟨q0_p_0, q0_p_1, q0_p_2, q0_p_3⟩ := rc4 e_p
  replace e_p := Lib.hid e_p
  have hgw0 := grow_cell W
  have hK := Lib.hid (fun w => progKnown w)
  have hc' := Cav.ok_iff.1 hc
  have hs' := St.ok_iff.1 hs
  have hp' := (hasB_iff.1 hp).ok hs'
  have hvv := hc'.v
  have hks := keeps_sure hc' hs' (hasB_iff.1 hp) (v := v) (by omega)
  have kSu := Lib.hid (fun w => progSureOk w hc hs)
  have kKe := Lib.hid (fun w => refKeeps c p v w hc' hp' (by omega))
  have kBr : Hid (∀ (i n : Nat) (b : Bool), brk c (endPt s i) (endV c n) (sure c s) = b → ∀ w, Calls Try.prog 40 #[cavV c, ptV (endPt s i), .int .i64 (endV c n), .int .i64 (sure c s)] w fun e w' => e = .returned (.bool b) ∧ Below w.heap.size w w') := Lib.hid (fun i n b hb w => (lawBreaks c (endPt s i) (endV c n) (sure c s) w hc' (endPt_ok hs' i) (endV_in hc' n) (by have := sure_in c s; omega)).mono fun e w' h => BoolB.lit h hb)
  have hsome := brk_some hc' hs' hr
  clear hvv hp' hc' hs'
  generalize sure c s = su at *
  generalize keeps c p v = kp at *
  subst hk
  clear hks
  replace hr : ¬ su = 1 := hr
  have hrb : (su == 1) = false := by simpa using hr
  replace hsome := Lib.hid hsome
  have kRC := Lib.hid (fun w => (refCavern c w).mono fun e w' hb => BoolB.lit hb hc)
  have kRS := Lib.hid (fun w => (refState s w).mono fun e w' hb => BoolB.lit hb hs)
  have kRH := Lib.hid (fun w => (refHas s p w).mono fun e w' hb => BoolB.lit hb hp)
  replace hc := Lib.hid hc; replace hs := Lib.hid hs; replace hp := Lib.hid hp
  go_enter Try.func12, Try.ntmps12
  have kLo : Hid (∀ w, Calls Try.prog 38 #[stV s] w fun e w' => e = .returned (.agg #[.int .i64 s.glo, .int .i64 s.ylo, .int .i64 s.tlo, .int .i64 s.wlo]) ∧ Below w.heap.size w w') := Lib.hid (fun w => refLow s w)
  have kHi : Hid (∀ w, Calls Try.prog 39 #[stV s] w fun e w' => e = .returned (.agg #[.int .i64 s.ghi, .int .i64 s.yhi, .int .i64 s.thi, .int .i64 s.whi]) ∧ Below w.heap.size w w') := Lib.hid (fun w => refHigh s w)
  go_wp2_with (first | (go_at_call 17; (with_reducible refine Calls.mono (kRC.out _) ?_); rintro e w1 ⟨rfl, hB⟩; (first | (obtain ⟨g, rfl⟩ := g.next hB) | (obtain ⟨g, rfl⟩ : ∃ g : Grow W, w1 = g.x := ⟨⟨w1, hB⟩, rfl⟩)); clear hB) | (go_at_call 18; (with_reducible refine Calls.mono (kRS.out _) ?_); rintro e w1 ⟨rfl, hB⟩; (first | (obtain ⟨g, rfl⟩ := g.next hB) | (obtain ⟨g, rfl⟩ : ∃ g : Grow W, w1 = g.x := ⟨⟨w1, hB⟩, rfl⟩)); clear hB) | (go_at_call 34; (with_reducible refine Calls.mono (kRH.out _) ?_); rintro e w1 ⟨rfl, hB⟩; (first | (obtain ⟨g, rfl⟩ := g.next hB) | (obtain ⟨g, rfl⟩ : ∃ g : Grow W, w1 = g.x := ⟨⟨w1, hB⟩, rfl⟩)); clear hB) | (go_at_call 36; (with_reducible refine Calls.mono (kSu.out _) ?_); rintro e w1 ⟨rfl, hB⟩; (first | (obtain ⟨g, rfl⟩ := g.next hB) | (obtain ⟨g, rfl⟩ : ∃ g : Grow W, w1 = g.x := ⟨⟨w1, hB⟩, rfl⟩)); clear hB) | (go_at_call 37; (with_reducible refine Calls.mono (kKe.out _) ?_); rintro e w1 ⟨rfl, hB⟩; (first | (obtain ⟨g, rfl⟩ := g.next hB) | (obtain ⟨g, rfl⟩ : ∃ g : Grow W, w1 = g.x := ⟨⟨w1, hB⟩, rfl⟩)); clear hB))
  have hgg : ∀ (h : Grow g.x) (b o : Nat), b < W.heap.size → h.x.cell? ⟨b, o, none⟩ = W.cell? ⟨b, o, none⟩ := fun h b o hb => (grow_cell g.x h b o (Nat.lt_of_lt_of_le hb g.size)).trans (grow_cell W g b o hb)
  refine wp_grow_tail 24 (by kernel_rfl) (by kernel_rfl) ?_
  simp only [List.take_succ_cons, List.take_zero, List.drop_succ_cons, List.drop_zero]
  repeat (go_big_quiet_step ((first | (go_at_call 38; with_reducible exact Calls.grow (kLo.out _)) | (go_at_call 39; with_reducible exact Calls.grow (kHi.out _)))))
  refine wpQuiet_nil ?_
  rintro _ ⟨g2, rfl⟩
  obtain ⟨g3, hg3⟩ := g.next g2.h
  rw [hg3]
  clear hg3 hgg g2
  have hld : ∀ (o : Obj) (b x : Nat), b < W.heap.size → (g3.x.alloc o).cell? ⟨b, x, none⟩ = W.cell? ⟨b, x, none⟩ := fun o => below_cell (g3.h.alloc g3.size o)
  go_wp2
  clear hld
  clear q0_c_0 q0_c_1 q0_c_2 q0_c_3 q0_c_4 q0_c_5 q0_c_6 q0_c_7 q0_c_8 q0_c_9 q0_c_10 q0_s_0 q0_s_1 q0_s_2 q0_s_3 q0_s_4 q0_s_5 q0_s_6 q0_s_7 q0_p_0 q0_p_1 q0_p_2 q0_p_3
  clear hgw0
  have szo1 := B0.size
  have gz1 := g3.size
  have A_c : g3.x.heap[w.heap.size]? = some (.cells #[.int .i64 c.vlo, .int .i64 c.vhi, .int .i64 c.least, .int .i64 c.most, .int .i64 c.f0, .int .i64 c.f1, .int .i64 c.h0, .int .i64 c.h1, .int .i64 c.rock, .int .i64 c.plo, .int .i64 c.phi] 26 (0, 0)) := (g3.h.block _ z0_c).trans e_c.out
  have A_s : g3.x.heap[W1.heap.size]? = some (.cells #[.int .i64 s.glo, .int .i64 s.ghi, .int .i64 s.ylo, .int .i64 s.yhi, .int .i64 s.tlo, .int .i64 s.thi, .int .i64 s.wlo, .int .i64 s.whi] 28 (0, 0)) := (g3.h.block _ z0_s).trans e_s.out
  have A_p : g3.x.heap[W2.heap.size]? = some (.cells #[.int .i64 p.g, .int .i64 p.y, .int .i64 p.t, .int .i64 p.w] 31 (0, 0)) := (g3.h.block _ z0_p).trans e_p.out
  obtain ⟨U1_l, hU1_l⟩ : ∃ U, g3.x.alloc (.cells #[.int .i64 s.glo, .int .i64 s.ylo, .int .i64 s.tlo, .int .i64 s.wlo, .int .i64 s.ghi, .int .i64 s.yhi, .int .i64 s.thi, .int .i64 s.whi, .int .i64 s.ghi, .int .i64 s.ylo, .int .i64 s.tlo, .int .i64 0, .int .i64 s.glo, .int .i64 s.yhi, .int .i64 s.thi, .int .i64 0] 31) = U := ⟨_, rfl⟩
  obtain ⟨A_l, b_l, s_l⟩ := boxed hU1_l
  rw [hU1_l]
  replace A_c := (b_l.block _ (Array.getElem?_eq_some_iff.1 A_c).1).trans A_c
  replace A_s := (b_l.block _ (Array.getElem?_eq_some_iff.1 A_s).1).trans A_s
  replace A_p := (b_l.block _ (Array.getElem?_eq_some_iff.1 A_p).1).trans A_p
  obtain ⟨blk_l, hb_l⟩ : ∃ b, g3.x.heap.size = b := ⟨_, rfl⟩
  rw [hb_l] at A_l
  try rw [hb_l]
  obtain ⟨U1_u, hU1_u⟩ : ∃ U, U1_l.alloc (.cells #[.int .i64 c.vhi, .int .i64 c.vlo] 3) = U := ⟨_, rfl⟩
  obtain ⟨A_u, b_u, s_u⟩ := boxed hU1_u
  rw [hU1_u]
  replace A_c := (b_u.block _ (Array.getElem?_eq_some_iff.1 A_c).1).trans A_c
  replace A_s := (b_u.block _ (Array.getElem?_eq_some_iff.1 A_s).1).trans A_s
  replace A_p := (b_u.block _ (Array.getElem?_eq_some_iff.1 A_p).1).trans A_p
  replace A_l := (b_u.block _ (Array.getElem?_eq_some_iff.1 A_l).1).trans A_l
  obtain ⟨blk_u, hb_u⟩ : ∃ b, U1_l.heap.size = b := ⟨_, rfl⟩
  rw [hb_u] at A_u
  have hp_u : blk_l + 1 = blk_u := by omega
  try rw [hp_u]
  have B1 : Below w.heap.size w U1_u := (((B0.trans (g3.h.mono B0.size)).trans (b_l.mono (B0.trans (g3.h.mono B0.size)).size)).trans (b_u.mono ((B0.trans (g3.h.mono B0.size)).trans (b_l.mono (B0.trans (g3.h.mono B0.size)).size)).size))
  have le_l : w.heap.size ≤ blk_l := by omega
  have le_u : w.heap.size ≤ blk_u := by omega
  have z1_c := (Array.getElem?_eq_some_iff.1 A_c).1
  have z1_s := (Array.getElem?_eq_some_iff.1 A_s).1
  have z1_p := (Array.getElem?_eq_some_iff.1 A_p).1
  have z1_l := (Array.getElem?_eq_some_iff.1 A_l).1
  have z1_u := (Array.getElem?_eq_some_iff.1 A_u).1
  clear hb_l b_l s_l hU1_l hb_u b_u s_u hU1_u hp_u
  obtain ⟨q1_c_0, q1_c_1, q1_c_2, q1_c_3, q1_c_4, q1_c_5, q1_c_6, q1_c_7, q1_c_8, q1_c_9, q1_c_10⟩ := rc11 A_c
  have R1_c := Lib.hid A_c
  clear A_c
  have R1_s := Lib.hid A_s
  clear A_s
  have R1_p := Lib.hid A_p
  clear A_p
  have R1_l := Lib.hid A_l
  clear A_l
  have R1_u := Lib.hid A_u
  clear A_u
  have hgw1 := grow_cell U1_u
  have hpts := Lib.hid (four_pts R1_l.out)
  have hvol := Lib.hid (two_vols R1_u.out)
  go_loopw [14] (fun iv wr => ∃ g : Grow U1_u, wr = g.x ∧ ∃ i : Nat, i ≤ 4 ∧ iv = .int .i64 i ∧ Hid (∀ i', i' < i → ∀ n, n < 2 → brk c (endPt s i') (endV c n) su = false)) (fun iv _ => 4 - (intOf iv).toNat)
  case atStart => exact ⟨Grow.self _, rfl, 0, by omega, rfl, (fun i h => by omega : ∀ i', i' < 0 → ∀ n, n < 2 → brk c (endPt s i') (endV c n) su = false)⟩
  case round =>
    obtain ⟨g, rfl, i, hi, rfl, hH⟩ := hrel
    by_cases hlt : i < 4
    · have hii : (i : Int) < 4 := by omega
      go_wp2
      go_loopw [15] (fun nv wr => ∃ g : Grow U1_u, wr = g.x ∧ ∃ n : Nat, n ≤ 2 ∧ nv = .int .i64 n ∧ Hid (∀ n', n' < n → brk c (endPt s i) (endV c n') su = false)) (fun nv _ => 2 - (intOf nv).toNat)
      case atStart => exact ⟨g, rfl, 0, by omega, rfl, (fun n h => by omega : ∀ n', n' < 0 → brk c (endPt s i) (endV c n') su = false)⟩
      case round =>
        clear g
        obtain ⟨g, rfl, n, hn, rfl, hN⟩ := hrel
        by_cases hnt : n < 2
        · have hni : (n : Int) < 2 := by omega
          obtain ⟨x0, x1, x2, x3⟩ := hpts.out i hlt
          have y0 := hvol.out n hnt
          obtain ⟨ep, hep⟩ : ∃ ep, endPt s i = ep := ⟨_, rfl⟩
          obtain ⟨ev, hev⟩ : ∃ ev, endV c n = ev := ⟨_, rfl⟩
          have zl := z1_l; have zu := z1_u
          cases hbr : brk c (endPt s i) (endV c n) su
          · have kB := kBr.out i n false hbr
            rw [hep, hev] at kB
            rw [hep] at x0 x1 x2 x3
            rw [hev] at y0
            replace kB := Lib.hid kB
            have hN2 : Hid (∀ n', n' < n + 1 → brk c (endPt s i) (endV c n') su = false) := Lib.hid (fun n' h => by
              by_cases e : n' = n
              · rw [e]; exact hbr
              · exact hN.out n' (by omega))
            clear hbr hN hep hev
            go_wp2
            have hgg : ∀ (h : Grow g.x) (b o : Nat), b < U1_u.heap.size → h.x.cell? ⟨b, o, none⟩ = U1_u.cell? ⟨b, o, none⟩ := fun h b o hb => (grow_cell g.x h b o (Nat.lt_of_lt_of_le hb g.size)).trans (grow_cell U1_u g b o hb)
            refine wp_region_grow (by kernel_rfl) (by kernel_rfl) ?_
            repeat (go_big_quiet_step ((first | (go_at_call 40; with_reducible exact Calls.grow (kB.out _)))))
            refine wpQuiet_nil ?_
            rintro _ ⟨gx, rfl⟩
            clear hgg
            obtain ⟨g2, hg2⟩ := g.next gx.h
            rw [hg2]
            clear hg2 gx
            go_wp2
            exact ⟨⟨g2, rfl, n + 1, by omega, by go_num, hN2⟩, by simp [intOf]; omega⟩
          · have kB := kBr.out i n true hbr
            rw [hep, hev] at kB
            rw [hep] at x0 x1 x2 x3
            rw [hev] at y0
            replace kB := Lib.hid kB
            clear hbr hN hep hev
            go_wp2
            have hgg : ∀ (h : Grow g.x) (b o : Nat), b < U1_u.heap.size → h.x.cell? ⟨b, o, none⟩ = U1_u.cell? ⟨b, o, none⟩ := fun h b o hb => (grow_cell g.x h b o (Nat.lt_of_lt_of_le hb g.size)).trans (grow_cell U1_u g b o hb)
            refine wp_region_grow (by kernel_rfl) (by kernel_rfl) ?_
            repeat (go_big_quiet_step ((first | (go_at_call 40; with_reducible exact Calls.grow (kB.out _)))))
            refine wpQuiet_nil ?_
            rintro _ ⟨gx, rfl⟩
            clear hgg
            obtain ⟨g2, hg2⟩ := g.next gx.h
            rw [hg2]
            clear hg2 gx
            obtain ⟨g, hgx⟩ : ∃ g : Grow U1_u, g2.x = g.x := ⟨g2, rfl⟩
            rw [hgx]
            clear hgx g2
            go_wp2_with (first | (go_at_call 20; (with_reducible refine Calls.mono (hK.out _) ?_); rintro e w1 ⟨rfl, hB⟩; (first | (obtain ⟨g, rfl⟩ := g.next hB) | (obtain ⟨g, rfl⟩ : ∃ g : Grow U1_u, w1 = g.x := ⟨⟨w1, hB⟩, rfl⟩)); clear hB))
            go_ret
            exact ⟨rfl, B1.trans (g.h.mono B1.size)⟩
        · obtain rfl : n = 2 := by omega
          have hH2 : Hid (∀ i', i' < i + 1 → ∀ n, n < 2 → brk c (endPt s i') (endV c n) su = false) := Lib.hid (fun i' h => by
            by_cases e : i' = i
            · rw [e]; exact hN.out
            · exact hH.out i' (by omega))
          clear hN hH
          go_wp2
          exact ⟨⟨g, rfl, i + 1, by omega, by go_num, hH2⟩, by simp [intOf]; omega⟩
    · obtain rfl : i = 4 := by omega
      obtain ⟨i, n, h1, h2, h3⟩ := hsome.out
      rw [hH.out i h1 n h2] at h3
      cases h3

set_option maxRecDepth 100000 in
set_option maxHeartbeats 16000000 in
theorem lawKeeps7 (c : Cav) (s : St) (p : Pt) (v : Int) (w : World) (hc : c.ok = true) (hs : s.ok = true) (hp : hasB s p = true) (hv1 : ¬ v < c.vlo) (hv2 : ¬ c.vhi < v) (hk : keeps c p v ≠ 1) (hr : sure c s ≠ 1) :
    Calls Try.prog 12 #[cavV c, stV s, ptV p, .int .i64 v] w fun e w' => e = .returned (.bool true) ∧ Below w.heap.size w w' := by
  obtain ⟨W1, hW1⟩ : ∃ W1, w.alloc (.cells #[.int .i64 c.vlo, .int .i64 c.vhi, .int .i64 c.least, .int .i64 c.most, .int .i64 c.f0, .int .i64 c.f1, .int .i64 c.h0, .int .i64 c.h1, .int .i64 c.rock, .int .i64 c.plo, .int .i64 c.phi] 26) = W1 := ⟨_, rfl⟩
  obtain ⟨e_c, b_c, s_c⟩ := boxed hW1
  obtain ⟨W2, hW2⟩ : ∃ W2, W1.alloc (.cells #[.int .i64 s.glo, .int .i64 s.ghi, .int .i64 s.ylo, .int .i64 s.yhi, .int .i64 s.tlo, .int .i64 s.thi, .int .i64 s.wlo, .int .i64 s.whi] 28) = W2 := ⟨_, rfl⟩
  obtain ⟨e_s, b_s, s_s⟩ := boxed hW2
  replace e_c := (b_s.block _ (Array.getElem?_eq_some_iff.1 e_c).1).trans e_c
  obtain ⟨W, hW⟩ : ∃ W, W2.alloc (.cells #[.int .i64 p.g, .int .i64 p.y, .int .i64 p.t, .int .i64 p.w] 31) = W := ⟨_, rfl⟩
  obtain ⟨e_p, b_p, s_p⟩ := boxed hW
  replace e_c := (b_p.block _ (Array.getElem?_eq_some_iff.1 e_c).1).trans e_c
  replace e_s := (b_p.block _ (Array.getElem?_eq_some_iff.1 e_s).1).trans e_s
  have B0 : Below w.heap.size w W := ((b_c.trans (b_s.mono (by omega))).trans (b_p.mono (by omega)))
  have z0_c := (Array.getElem?_eq_some_iff.1 e_c).1
  have z0_s := (Array.getElem?_eq_some_iff.1 e_s).1
  have z0_p := (Array.getElem?_eq_some_iff.1 e_p).1
  have le_c : w.heap.size ≤ w.heap.size := by omega
  have le_s : w.heap.size ≤ W1.heap.size := by omega
  have le_p : w.heap.size ≤ W2.heap.size := by omega
  clear s_c b_c s_s b_s s_p b_p
  obtain ⟨q0_c_0, q0_c_1, q0_c_2, q0_c_3, q0_c_4, q0_c_5, q0_c_6, q0_c_7, q0_c_8, q0_c_9, q0_c_10⟩ := rc11 e_c
  replace e_c := Lib.hid e_c
  obtain ⟨q0_s_0, q0_s_1, q0_s_2, q0_s_3, q0_s_4, q0_s_5, q0_s_6, q0_s_7⟩ := rc8 e_s
  replace e_s := Lib.hid e_s
  obtain ⟨q0_p_0, q0_p_1, q0_p_2, q0_p_3⟩ := rc4 e_p
  replace e_p := Lib.hid e_p
  have hgw0 := grow_cell W
  have hK := Lib.hid (fun w => progKnown w)
  have hc' := Cav.ok_iff.1 hc
  have hs' := St.ok_iff.1 hs
  have hp' := (hasB_iff.1 hp).ok hs'
  have hvv := hc'.v
  have hks := keeps_sure hc' hs' (hasB_iff.1 hp) (v := v) (by omega)
  have kSu := Lib.hid (fun w => progSureOk w hc hs)
  have kKe := Lib.hid (fun w => refKeeps c p v w hc' hp' (by omega))
  have kBr : Hid (∀ (i n : Nat) (b : Bool), brk c (endPt s i) (endV c n) (sure c s) = b → ∀ w, Calls Try.prog 40 #[cavV c, ptV (endPt s i), .int .i64 (endV c n), .int .i64 (sure c s)] w fun e w' => e = .returned (.bool b) ∧ Below w.heap.size w w') := Lib.hid (fun i n b hb w => (lawBreaks c (endPt s i) (endV c n) (sure c s) w hc' (endPt_ok hs' i) (endV_in hc' n) (by have := sure_in c s; omega)).mono fun e w' h => BoolB.lit h hb)
  have hsome := brk_some hc' hs' hr
  clear hvv hp' hc' hs'
  generalize sure c s = su at *
  generalize keeps c p v = kp at *
  have hle : ¬ kp < su := by omega
  clear hks
  replace hk : ¬ kp = 1 := hk
  replace hr : ¬ su = 1 := hr
  have hkb : (kp == 1) = false := by simpa using hk
  have hrb : (su == 1) = false := by simpa using hr
  replace hsome := Lib.hid hsome
  have kRC := Lib.hid (fun w => (refCavern c w).mono fun e w' hb => BoolB.lit hb hc)
  have kRS := Lib.hid (fun w => (refState s w).mono fun e w' hb => BoolB.lit hb hs)
  have kRH := Lib.hid (fun w => (refHas s p w).mono fun e w' hb => BoolB.lit hb hp)
  replace hc := Lib.hid hc; replace hs := Lib.hid hs; replace hp := Lib.hid hp
  go_enter Try.func12, Try.ntmps12
  have kLo : Hid (∀ w, Calls Try.prog 38 #[stV s] w fun e w' => e = .returned (.agg #[.int .i64 s.glo, .int .i64 s.ylo, .int .i64 s.tlo, .int .i64 s.wlo]) ∧ Below w.heap.size w w') := Lib.hid (fun w => refLow s w)
  have kHi : Hid (∀ w, Calls Try.prog 39 #[stV s] w fun e w' => e = .returned (.agg #[.int .i64 s.ghi, .int .i64 s.yhi, .int .i64 s.thi, .int .i64 s.whi]) ∧ Below w.heap.size w w') := Lib.hid (fun w => refHigh s w)
  go_wp2_with (first | (go_at_call 17; (with_reducible refine Calls.mono (kRC.out _) ?_); rintro e w1 ⟨rfl, hB⟩; (first | (obtain ⟨g, rfl⟩ := g.next hB) | (obtain ⟨g, rfl⟩ : ∃ g : Grow W, w1 = g.x := ⟨⟨w1, hB⟩, rfl⟩)); clear hB) | (go_at_call 18; (with_reducible refine Calls.mono (kRS.out _) ?_); rintro e w1 ⟨rfl, hB⟩; (first | (obtain ⟨g, rfl⟩ := g.next hB) | (obtain ⟨g, rfl⟩ : ∃ g : Grow W, w1 = g.x := ⟨⟨w1, hB⟩, rfl⟩)); clear hB) | (go_at_call 34; (with_reducible refine Calls.mono (kRH.out _) ?_); rintro e w1 ⟨rfl, hB⟩; (first | (obtain ⟨g, rfl⟩ := g.next hB) | (obtain ⟨g, rfl⟩ : ∃ g : Grow W, w1 = g.x := ⟨⟨w1, hB⟩, rfl⟩)); clear hB) | (go_at_call 36; (with_reducible refine Calls.mono (kSu.out _) ?_); rintro e w1 ⟨rfl, hB⟩; (first | (obtain ⟨g, rfl⟩ := g.next hB) | (obtain ⟨g, rfl⟩ : ∃ g : Grow W, w1 = g.x := ⟨⟨w1, hB⟩, rfl⟩)); clear hB) | (go_at_call 37; (with_reducible refine Calls.mono (kKe.out _) ?_); rintro e w1 ⟨rfl, hB⟩; (first | (obtain ⟨g, rfl⟩ := g.next hB) | (obtain ⟨g, rfl⟩ : ∃ g : Grow W, w1 = g.x := ⟨⟨w1, hB⟩, rfl⟩)); clear hB))
  have hgg : ∀ (h : Grow g.x) (b o : Nat), b < W.heap.size → h.x.cell? ⟨b, o, none⟩ = W.cell? ⟨b, o, none⟩ := fun h b o hb => (grow_cell g.x h b o (Nat.lt_of_lt_of_le hb g.size)).trans (grow_cell W g b o hb)
  refine wp_grow_tail 24 (by kernel_rfl) (by kernel_rfl) ?_
  simp only [List.take_succ_cons, List.take_zero, List.drop_succ_cons, List.drop_zero]
  repeat (go_big_quiet_step ((first | (go_at_call 38; with_reducible exact Calls.grow (kLo.out _)) | (go_at_call 39; with_reducible exact Calls.grow (kHi.out _)))))
  refine wpQuiet_nil ?_
  rintro _ ⟨g2, rfl⟩
  obtain ⟨g3, hg3⟩ := g.next g2.h
  rw [hg3]
  clear hg3 hgg g2
  have hld : ∀ (o : Obj) (b x : Nat), b < W.heap.size → (g3.x.alloc o).cell? ⟨b, x, none⟩ = W.cell? ⟨b, x, none⟩ := fun o => below_cell (g3.h.alloc g3.size o)
  go_wp2
  clear hld
  clear q0_c_0 q0_c_1 q0_c_2 q0_c_3 q0_c_4 q0_c_5 q0_c_6 q0_c_7 q0_c_8 q0_c_9 q0_c_10 q0_s_0 q0_s_1 q0_s_2 q0_s_3 q0_s_4 q0_s_5 q0_s_6 q0_s_7 q0_p_0 q0_p_1 q0_p_2 q0_p_3
  clear hgw0
  have szo1 := B0.size
  have gz1 := g3.size
  have A_c : g3.x.heap[w.heap.size]? = some (.cells #[.int .i64 c.vlo, .int .i64 c.vhi, .int .i64 c.least, .int .i64 c.most, .int .i64 c.f0, .int .i64 c.f1, .int .i64 c.h0, .int .i64 c.h1, .int .i64 c.rock, .int .i64 c.plo, .int .i64 c.phi] 26 (0, 0)) := (g3.h.block _ z0_c).trans e_c.out
  have A_s : g3.x.heap[W1.heap.size]? = some (.cells #[.int .i64 s.glo, .int .i64 s.ghi, .int .i64 s.ylo, .int .i64 s.yhi, .int .i64 s.tlo, .int .i64 s.thi, .int .i64 s.wlo, .int .i64 s.whi] 28 (0, 0)) := (g3.h.block _ z0_s).trans e_s.out
  have A_p : g3.x.heap[W2.heap.size]? = some (.cells #[.int .i64 p.g, .int .i64 p.y, .int .i64 p.t, .int .i64 p.w] 31 (0, 0)) := (g3.h.block _ z0_p).trans e_p.out
  obtain ⟨U1_l, hU1_l⟩ : ∃ U, g3.x.alloc (.cells #[.int .i64 s.glo, .int .i64 s.ylo, .int .i64 s.tlo, .int .i64 s.wlo, .int .i64 s.ghi, .int .i64 s.yhi, .int .i64 s.thi, .int .i64 s.whi, .int .i64 s.ghi, .int .i64 s.ylo, .int .i64 s.tlo, .int .i64 0, .int .i64 s.glo, .int .i64 s.yhi, .int .i64 s.thi, .int .i64 0] 31) = U := ⟨_, rfl⟩
  obtain ⟨A_l, b_l, s_l⟩ := boxed hU1_l
  rw [hU1_l]
  replace A_c := (b_l.block _ (Array.getElem?_eq_some_iff.1 A_c).1).trans A_c
  replace A_s := (b_l.block _ (Array.getElem?_eq_some_iff.1 A_s).1).trans A_s
  replace A_p := (b_l.block _ (Array.getElem?_eq_some_iff.1 A_p).1).trans A_p
  obtain ⟨blk_l, hb_l⟩ : ∃ b, g3.x.heap.size = b := ⟨_, rfl⟩
  rw [hb_l] at A_l
  try rw [hb_l]
  obtain ⟨U1_u, hU1_u⟩ : ∃ U, U1_l.alloc (.cells #[.int .i64 c.vhi, .int .i64 c.vlo] 3) = U := ⟨_, rfl⟩
  obtain ⟨A_u, b_u, s_u⟩ := boxed hU1_u
  rw [hU1_u]
  replace A_c := (b_u.block _ (Array.getElem?_eq_some_iff.1 A_c).1).trans A_c
  replace A_s := (b_u.block _ (Array.getElem?_eq_some_iff.1 A_s).1).trans A_s
  replace A_p := (b_u.block _ (Array.getElem?_eq_some_iff.1 A_p).1).trans A_p
  replace A_l := (b_u.block _ (Array.getElem?_eq_some_iff.1 A_l).1).trans A_l
  obtain ⟨blk_u, hb_u⟩ : ∃ b, U1_l.heap.size = b := ⟨_, rfl⟩
  rw [hb_u] at A_u
  have hp_u : blk_l + 1 = blk_u := by omega
  try rw [hp_u]
  have B1 : Below w.heap.size w U1_u := (((B0.trans (g3.h.mono B0.size)).trans (b_l.mono (B0.trans (g3.h.mono B0.size)).size)).trans (b_u.mono ((B0.trans (g3.h.mono B0.size)).trans (b_l.mono (B0.trans (g3.h.mono B0.size)).size)).size))
  have le_l : w.heap.size ≤ blk_l := by omega
  have le_u : w.heap.size ≤ blk_u := by omega
  have z1_c := (Array.getElem?_eq_some_iff.1 A_c).1
  have z1_s := (Array.getElem?_eq_some_iff.1 A_s).1
  have z1_p := (Array.getElem?_eq_some_iff.1 A_p).1
  have z1_l := (Array.getElem?_eq_some_iff.1 A_l).1
  have z1_u := (Array.getElem?_eq_some_iff.1 A_u).1
  clear hb_l b_l s_l hU1_l hb_u b_u s_u hU1_u hp_u
  obtain ⟨q1_c_0, q1_c_1, q1_c_2, q1_c_3, q1_c_4, q1_c_5, q1_c_6, q1_c_7, q1_c_8, q1_c_9, q1_c_10⟩ := rc11 A_c
  have R1_c := Lib.hid A_c
  clear A_c
  have R1_s := Lib.hid A_s
  clear A_s
  have R1_p := Lib.hid A_p
  clear A_p
  have R1_l := Lib.hid A_l
  clear A_l
  have R1_u := Lib.hid A_u
  clear A_u
  have hgw1 := grow_cell U1_u
  have hpts := Lib.hid (four_pts R1_l.out)
  have hvol := Lib.hid (two_vols R1_u.out)
  go_loopw [14] (fun iv wr => ∃ g : Grow U1_u, wr = g.x ∧ ∃ i : Nat, i ≤ 4 ∧ iv = .int .i64 i ∧ Hid (∀ i', i' < i → ∀ n, n < 2 → brk c (endPt s i') (endV c n) su = false)) (fun iv _ => 4 - (intOf iv).toNat)
  case atStart => exact ⟨Grow.self _, rfl, 0, by omega, rfl, (fun i h => by omega : ∀ i', i' < 0 → ∀ n, n < 2 → brk c (endPt s i') (endV c n) su = false)⟩
  case round =>
    obtain ⟨g, rfl, i, hi, rfl, hH⟩ := hrel
    by_cases hlt : i < 4
    · have hii : (i : Int) < 4 := by omega
      go_wp2
      go_loopw [15] (fun nv wr => ∃ g : Grow U1_u, wr = g.x ∧ ∃ n : Nat, n ≤ 2 ∧ nv = .int .i64 n ∧ Hid (∀ n', n' < n → brk c (endPt s i) (endV c n') su = false)) (fun nv _ => 2 - (intOf nv).toNat)
      case atStart => exact ⟨g, rfl, 0, by omega, rfl, (fun n h => by omega : ∀ n', n' < 0 → brk c (endPt s i) (endV c n') su = false)⟩
      case round =>
        clear g
        obtain ⟨g, rfl, n, hn, rfl, hN⟩ := hrel
        by_cases hnt : n < 2
        · have hni : (n : Int) < 2 := by omega
          obtain ⟨x0, x1, x2, x3⟩ := hpts.out i hlt
          have y0 := hvol.out n hnt
          obtain ⟨ep, hep⟩ : ∃ ep, endPt s i = ep := ⟨_, rfl⟩
          obtain ⟨ev, hev⟩ : ∃ ev, endV c n = ev := ⟨_, rfl⟩
          have zl := z1_l; have zu := z1_u
          cases hbr : brk c (endPt s i) (endV c n) su
          · have kB := kBr.out i n false hbr
            rw [hep, hev] at kB
            rw [hep] at x0 x1 x2 x3
            rw [hev] at y0
            replace kB := Lib.hid kB
            have hN2 : Hid (∀ n', n' < n + 1 → brk c (endPt s i) (endV c n') su = false) := Lib.hid (fun n' h => by
              by_cases e : n' = n
              · rw [e]; exact hbr
              · exact hN.out n' (by omega))
            clear hbr hN hep hev
            go_wp2
            have hgg : ∀ (h : Grow g.x) (b o : Nat), b < U1_u.heap.size → h.x.cell? ⟨b, o, none⟩ = U1_u.cell? ⟨b, o, none⟩ := fun h b o hb => (grow_cell g.x h b o (Nat.lt_of_lt_of_le hb g.size)).trans (grow_cell U1_u g b o hb)
            refine wp_region_grow (by kernel_rfl) (by kernel_rfl) ?_
            repeat (go_big_quiet_step ((first | (go_at_call 40; with_reducible exact Calls.grow (kB.out _)))))
            refine wpQuiet_nil ?_
            rintro _ ⟨gx, rfl⟩
            clear hgg
            obtain ⟨g2, hg2⟩ := g.next gx.h
            rw [hg2]
            clear hg2 gx
            go_wp2
            exact ⟨⟨g2, rfl, n + 1, by omega, by go_num, hN2⟩, by simp [intOf]; omega⟩
          · have kB := kBr.out i n true hbr
            rw [hep, hev] at kB
            rw [hep] at x0 x1 x2 x3
            rw [hev] at y0
            replace kB := Lib.hid kB
            clear hbr hN hep hev
            go_wp2
            have hgg : ∀ (h : Grow g.x) (b o : Nat), b < U1_u.heap.size → h.x.cell? ⟨b, o, none⟩ = U1_u.cell? ⟨b, o, none⟩ := fun h b o hb => (grow_cell g.x h b o (Nat.lt_of_lt_of_le hb g.size)).trans (grow_cell U1_u g b o hb)
            refine wp_region_grow (by kernel_rfl) (by kernel_rfl) ?_
            repeat (go_big_quiet_step ((first | (go_at_call 40; with_reducible exact Calls.grow (kB.out _)))))
            refine wpQuiet_nil ?_
            rintro _ ⟨gx, rfl⟩
            clear hgg
            obtain ⟨g2, hg2⟩ := g.next gx.h
            rw [hg2]
            clear hg2 gx
            obtain ⟨g, hgx⟩ : ∃ g : Grow U1_u, g2.x = g.x := ⟨g2, rfl⟩
            rw [hgx]
            clear hgx g2
            go_wp2_with (first | (go_at_call 20; (with_reducible refine Calls.mono (hK.out _) ?_); rintro e w1 ⟨rfl, hB⟩; (first | (obtain ⟨g, rfl⟩ := g.next hB) | (obtain ⟨g, rfl⟩ : ∃ g : Grow U1_u, w1 = g.x := ⟨⟨w1, hB⟩, rfl⟩)); clear hB))
            go_ret
            exact ⟨rfl, B1.trans (g.h.mono B1.size)⟩
        · obtain rfl : n = 2 := by omega
          have hH2 : Hid (∀ i', i' < i + 1 → ∀ n, n < 2 → brk c (endPt s i') (endV c n) su = false) := Lib.hid (fun i' h => by
            by_cases e : i' = i
            · rw [e]; exact hN.out
            · exact hH.out i' (by omega))
          clear hN hH
          go_wp2
          exact ⟨⟨g, rfl, i + 1, by omega, by go_num, hH2⟩, by simp [intOf]; omega⟩
    · obtain rfl : i = 4 := by omega
      obtain ⟨i, n, h1, h2, h3⟩ := hsome.out
      rw [hH.out i h1 n h2] at h3
      cases h3

theorem lawKeeps (c : Cav) (s : St) (p : Pt) (v : Int) (w : World) :
    Calls Try.prog 12 #[cavV c, stV s, ptV p, .int .i64 v] w fun e w' => e = .returned (.bool true) ∧ Below w.heap.size w w' := by
  cases hc : c.ok
  · exact lawKeeps0 c s p v w hc
  · skip
    cases hs : s.ok
    · exact lawKeeps1 c s p v w hc hs
    · skip
      cases hp : hasB s p
      · exact lawKeeps2 c s p v w hc hs hp
      · skip
        by_cases hv1 : v < c.vlo
        · exact lawKeeps3 c s p v w hc hs hp hv1
        · skip
          by_cases hv2 : c.vhi < v
          · exact lawKeeps4 c s p v w hc hs hp hv1 hv2
          · skip
            by_cases hr : sure c s = 1
            · have hk : keeps c p v = 1 := by
                rcases keeps_sure (Cav.ok_iff.1 hc) (St.ok_iff.1 hs) (hasB_iff.1 hp) (v := v) (by omega) with h | h
                · exact h
                · exact absurd hr h.1
              exact lawKeeps5 c s p v w hc hs hp hv1 hv2 hk hr
            · by_cases hk : keeps c p v = 1
              · exact lawKeeps6 c s p v w hc hs hp hv1 hv2 hk hr
              · exact lawKeeps7 c s p v w hc hs hp hv1 hv2 hk hr
end Go.Proofs.Ytgmbolagciaenaa
