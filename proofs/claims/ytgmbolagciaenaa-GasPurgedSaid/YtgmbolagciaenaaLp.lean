/- Gas: the walk of the law GasPurged. -/
import Derived.Test.YtgmbolagciaenaaPg
import Derived.Test.YtgmbolagciaenaaLpl
set_option linter.unusedVariables false
set_option linter.unusedSimpArgs false
namespace Go.Proofs.Ytgmbolagciaenaa
open Go.RowKit Go.Sd Gas
set_option maxRecDepth 100000 in
set_option maxHeartbeats 16000000 in
theorem lawPur0 (c : Cav) (s : St) (l p : Pt) (w : World) (hc : c.ok = false) :
    Calls Try.prog 11 #[cavV c, stV s, ptV l, ptV p] w fun e w' => e = .returned (.bool true) ∧ Below w.heap.size w w' := by
  obtain ⟨W1, hW1⟩ : ∃ W1, w.alloc (.cells #[.int .i64 c.vlo, .int .i64 c.vhi, .int .i64 c.least, .int .i64 c.most, .int .i64 c.f0, .int .i64 c.f1, .int .i64 c.h0, .int .i64 c.h1, .int .i64 c.rock, .int .i64 c.plo, .int .i64 c.phi] 26) = W1 := ⟨_, rfl⟩
  obtain ⟨e_c, b_c, s_c⟩ := boxed hW1
  obtain ⟨W2, hW2⟩ : ∃ W2, W1.alloc (.cells #[.int .i64 s.glo, .int .i64 s.ghi, .int .i64 s.ylo, .int .i64 s.yhi, .int .i64 s.tlo, .int .i64 s.thi, .int .i64 s.wlo, .int .i64 s.whi] 28) = W2 := ⟨_, rfl⟩
  obtain ⟨e_s, b_s, s_s⟩ := boxed hW2
  replace e_c := (b_s.block _ (Array.getElem?_eq_some_iff.1 e_c).1).trans e_c
  obtain ⟨W3, hW3⟩ : ∃ W3, W2.alloc (.cells #[.int .i64 l.g, .int .i64 l.y, .int .i64 l.t, .int .i64 l.w] 31) = W3 := ⟨_, rfl⟩
  obtain ⟨e_l, b_l, s_l⟩ := boxed hW3
  replace e_c := (b_l.block _ (Array.getElem?_eq_some_iff.1 e_c).1).trans e_c
  replace e_s := (b_l.block _ (Array.getElem?_eq_some_iff.1 e_s).1).trans e_s
  obtain ⟨W, hW⟩ : ∃ W, W3.alloc (.cells #[.int .i64 p.g, .int .i64 p.y, .int .i64 p.t, .int .i64 p.w] 31) = W := ⟨_, rfl⟩
  obtain ⟨e_p, b_p, s_p⟩ := boxed hW
  replace e_c := (b_p.block _ (Array.getElem?_eq_some_iff.1 e_c).1).trans e_c
  replace e_s := (b_p.block _ (Array.getElem?_eq_some_iff.1 e_s).1).trans e_s
  replace e_l := (b_p.block _ (Array.getElem?_eq_some_iff.1 e_l).1).trans e_l
  have B0 : Below w.heap.size w W := (((b_c.trans (b_s.mono (by omega))).trans (b_l.mono (by omega))).trans (b_p.mono (by omega)))
  have z0_c := (Array.getElem?_eq_some_iff.1 e_c).1
  have z0_s := (Array.getElem?_eq_some_iff.1 e_s).1
  have z0_l := (Array.getElem?_eq_some_iff.1 e_l).1
  have z0_p := (Array.getElem?_eq_some_iff.1 e_p).1
  have le_c : w.heap.size ≤ w.heap.size := by omega
  have le_s : w.heap.size ≤ W1.heap.size := by omega
  have le_l : w.heap.size ≤ W2.heap.size := by omega
  have le_p : w.heap.size ≤ W3.heap.size := by omega
  clear s_c b_c s_s b_s s_l b_l s_p b_p
  obtain ⟨q0_c_0, q0_c_1, q0_c_2, q0_c_3, q0_c_4, q0_c_5, q0_c_6, q0_c_7, q0_c_8, q0_c_9, q0_c_10⟩ := rc11 e_c
  replace e_c := Lib.hid e_c
  obtain ⟨q0_s_0, q0_s_1, q0_s_2, q0_s_3, q0_s_4, q0_s_5, q0_s_6, q0_s_7⟩ := rc8 e_s
  replace e_s := Lib.hid e_s
  obtain ⟨q0_l_0, q0_l_1, q0_l_2, q0_l_3⟩ := rc4 e_l
  replace e_l := Lib.hid e_l
  obtain ⟨q0_p_0, q0_p_1, q0_p_2, q0_p_3⟩ := rc4 e_p
  replace e_p := Lib.hid e_p
  have hgw0 := grow_cell W
  have hK := Lib.hid (fun w => progKnown w)
  have kRC := Lib.hid (fun w => (refCavern c w).mono fun e w' hb => BoolB.lit hb hc)
  replace hc := Lib.hid hc
  go_enter Try.func11, Try.ntmps11
  go_wp2_with (first | (go_at_call 17; (with_reducible refine Calls.mono (kRC.out _) ?_); rintro e w1 ⟨rfl, hB⟩; (first | (obtain ⟨g, rfl⟩ := g.next hB) | (obtain ⟨g, rfl⟩ : ∃ g : Grow W, w1 = g.x := ⟨⟨w1, hB⟩, rfl⟩)); clear hB) | (go_at_call 20; (with_reducible refine Calls.mono (hK.out _) ?_); rintro e w1 ⟨rfl, hB⟩; (first | (obtain ⟨g, rfl⟩ := g.next hB) | (obtain ⟨g, rfl⟩ : ∃ g : Grow W, w1 = g.x := ⟨⟨w1, hB⟩, rfl⟩)); clear hB))
  go_ret
  exact ⟨rfl, B0.trans (g.h.mono B0.size)⟩

set_option maxRecDepth 100000 in
set_option maxHeartbeats 16000000 in
theorem lawPur1 (c : Cav) (s : St) (l p : Pt) (w : World) (hc : c.ok = true) (hs : s.ok = false) :
    Calls Try.prog 11 #[cavV c, stV s, ptV l, ptV p] w fun e w' => e = .returned (.bool true) ∧ Below w.heap.size w w' := by
  obtain ⟨W1, hW1⟩ : ∃ W1, w.alloc (.cells #[.int .i64 c.vlo, .int .i64 c.vhi, .int .i64 c.least, .int .i64 c.most, .int .i64 c.f0, .int .i64 c.f1, .int .i64 c.h0, .int .i64 c.h1, .int .i64 c.rock, .int .i64 c.plo, .int .i64 c.phi] 26) = W1 := ⟨_, rfl⟩
  obtain ⟨e_c, b_c, s_c⟩ := boxed hW1
  obtain ⟨W2, hW2⟩ : ∃ W2, W1.alloc (.cells #[.int .i64 s.glo, .int .i64 s.ghi, .int .i64 s.ylo, .int .i64 s.yhi, .int .i64 s.tlo, .int .i64 s.thi, .int .i64 s.wlo, .int .i64 s.whi] 28) = W2 := ⟨_, rfl⟩
  obtain ⟨e_s, b_s, s_s⟩ := boxed hW2
  replace e_c := (b_s.block _ (Array.getElem?_eq_some_iff.1 e_c).1).trans e_c
  obtain ⟨W3, hW3⟩ : ∃ W3, W2.alloc (.cells #[.int .i64 l.g, .int .i64 l.y, .int .i64 l.t, .int .i64 l.w] 31) = W3 := ⟨_, rfl⟩
  obtain ⟨e_l, b_l, s_l⟩ := boxed hW3
  replace e_c := (b_l.block _ (Array.getElem?_eq_some_iff.1 e_c).1).trans e_c
  replace e_s := (b_l.block _ (Array.getElem?_eq_some_iff.1 e_s).1).trans e_s
  obtain ⟨W, hW⟩ : ∃ W, W3.alloc (.cells #[.int .i64 p.g, .int .i64 p.y, .int .i64 p.t, .int .i64 p.w] 31) = W := ⟨_, rfl⟩
  obtain ⟨e_p, b_p, s_p⟩ := boxed hW
  replace e_c := (b_p.block _ (Array.getElem?_eq_some_iff.1 e_c).1).trans e_c
  replace e_s := (b_p.block _ (Array.getElem?_eq_some_iff.1 e_s).1).trans e_s
  replace e_l := (b_p.block _ (Array.getElem?_eq_some_iff.1 e_l).1).trans e_l
  have B0 : Below w.heap.size w W := (((b_c.trans (b_s.mono (by omega))).trans (b_l.mono (by omega))).trans (b_p.mono (by omega)))
  have z0_c := (Array.getElem?_eq_some_iff.1 e_c).1
  have z0_s := (Array.getElem?_eq_some_iff.1 e_s).1
  have z0_l := (Array.getElem?_eq_some_iff.1 e_l).1
  have z0_p := (Array.getElem?_eq_some_iff.1 e_p).1
  have le_c : w.heap.size ≤ w.heap.size := by omega
  have le_s : w.heap.size ≤ W1.heap.size := by omega
  have le_l : w.heap.size ≤ W2.heap.size := by omega
  have le_p : w.heap.size ≤ W3.heap.size := by omega
  clear s_c b_c s_s b_s s_l b_l s_p b_p
  obtain ⟨q0_c_0, q0_c_1, q0_c_2, q0_c_3, q0_c_4, q0_c_5, q0_c_6, q0_c_7, q0_c_8, q0_c_9, q0_c_10⟩ := rc11 e_c
  replace e_c := Lib.hid e_c
  obtain ⟨q0_s_0, q0_s_1, q0_s_2, q0_s_3, q0_s_4, q0_s_5, q0_s_6, q0_s_7⟩ := rc8 e_s
  replace e_s := Lib.hid e_s
  obtain ⟨q0_l_0, q0_l_1, q0_l_2, q0_l_3⟩ := rc4 e_l
  replace e_l := Lib.hid e_l
  obtain ⟨q0_p_0, q0_p_1, q0_p_2, q0_p_3⟩ := rc4 e_p
  replace e_p := Lib.hid e_p
  have hgw0 := grow_cell W
  have hK := Lib.hid (fun w => progKnown w)
  have kRC := Lib.hid (fun w => (refCavern c w).mono fun e w' hb => BoolB.lit hb hc)
  have kRS := Lib.hid (fun w => (refState s w).mono fun e w' hb => BoolB.lit hb hs)
  replace hc := Lib.hid hc; replace hs := Lib.hid hs
  go_enter Try.func11, Try.ntmps11
  go_wp2_with (first | (go_at_call 17; (with_reducible refine Calls.mono (kRC.out _) ?_); rintro e w1 ⟨rfl, hB⟩; (first | (obtain ⟨g, rfl⟩ := g.next hB) | (obtain ⟨g, rfl⟩ : ∃ g : Grow W, w1 = g.x := ⟨⟨w1, hB⟩, rfl⟩)); clear hB) | (go_at_call 18; (with_reducible refine Calls.mono (kRS.out _) ?_); rintro e w1 ⟨rfl, hB⟩; (first | (obtain ⟨g, rfl⟩ := g.next hB) | (obtain ⟨g, rfl⟩ : ∃ g : Grow W, w1 = g.x := ⟨⟨w1, hB⟩, rfl⟩)); clear hB) | (go_at_call 20; (with_reducible refine Calls.mono (hK.out _) ?_); rintro e w1 ⟨rfl, hB⟩; (first | (obtain ⟨g, rfl⟩ := g.next hB) | (obtain ⟨g, rfl⟩ : ∃ g : Grow W, w1 = g.x := ⟨⟨w1, hB⟩, rfl⟩)); clear hB))
  go_ret
  exact ⟨rfl, B0.trans (g.h.mono B0.size)⟩

set_option maxRecDepth 100000 in
set_option maxHeartbeats 16000000 in
theorem lawPur2 (c : Cav) (s : St) (l p : Pt) (w : World) (hc : c.ok = true) (hs : s.ok = true) (h3 : l.ok = false) :
    Calls Try.prog 11 #[cavV c, stV s, ptV l, ptV p] w fun e w' => e = .returned (.bool true) ∧ Below w.heap.size w w' := by
  obtain ⟨W1, hW1⟩ : ∃ W1, w.alloc (.cells #[.int .i64 c.vlo, .int .i64 c.vhi, .int .i64 c.least, .int .i64 c.most, .int .i64 c.f0, .int .i64 c.f1, .int .i64 c.h0, .int .i64 c.h1, .int .i64 c.rock, .int .i64 c.plo, .int .i64 c.phi] 26) = W1 := ⟨_, rfl⟩
  obtain ⟨e_c, b_c, s_c⟩ := boxed hW1
  obtain ⟨W2, hW2⟩ : ∃ W2, W1.alloc (.cells #[.int .i64 s.glo, .int .i64 s.ghi, .int .i64 s.ylo, .int .i64 s.yhi, .int .i64 s.tlo, .int .i64 s.thi, .int .i64 s.wlo, .int .i64 s.whi] 28) = W2 := ⟨_, rfl⟩
  obtain ⟨e_s, b_s, s_s⟩ := boxed hW2
  replace e_c := (b_s.block _ (Array.getElem?_eq_some_iff.1 e_c).1).trans e_c
  obtain ⟨W3, hW3⟩ : ∃ W3, W2.alloc (.cells #[.int .i64 l.g, .int .i64 l.y, .int .i64 l.t, .int .i64 l.w] 31) = W3 := ⟨_, rfl⟩
  obtain ⟨e_l, b_l, s_l⟩ := boxed hW3
  replace e_c := (b_l.block _ (Array.getElem?_eq_some_iff.1 e_c).1).trans e_c
  replace e_s := (b_l.block _ (Array.getElem?_eq_some_iff.1 e_s).1).trans e_s
  obtain ⟨W, hW⟩ : ∃ W, W3.alloc (.cells #[.int .i64 p.g, .int .i64 p.y, .int .i64 p.t, .int .i64 p.w] 31) = W := ⟨_, rfl⟩
  obtain ⟨e_p, b_p, s_p⟩ := boxed hW
  replace e_c := (b_p.block _ (Array.getElem?_eq_some_iff.1 e_c).1).trans e_c
  replace e_s := (b_p.block _ (Array.getElem?_eq_some_iff.1 e_s).1).trans e_s
  replace e_l := (b_p.block _ (Array.getElem?_eq_some_iff.1 e_l).1).trans e_l
  have B0 : Below w.heap.size w W := (((b_c.trans (b_s.mono (by omega))).trans (b_l.mono (by omega))).trans (b_p.mono (by omega)))
  have z0_c := (Array.getElem?_eq_some_iff.1 e_c).1
  have z0_s := (Array.getElem?_eq_some_iff.1 e_s).1
  have z0_l := (Array.getElem?_eq_some_iff.1 e_l).1
  have z0_p := (Array.getElem?_eq_some_iff.1 e_p).1
  have le_c : w.heap.size ≤ w.heap.size := by omega
  have le_s : w.heap.size ≤ W1.heap.size := by omega
  have le_l : w.heap.size ≤ W2.heap.size := by omega
  have le_p : w.heap.size ≤ W3.heap.size := by omega
  clear s_c b_c s_s b_s s_l b_l s_p b_p
  obtain ⟨q0_c_0, q0_c_1, q0_c_2, q0_c_3, q0_c_4, q0_c_5, q0_c_6, q0_c_7, q0_c_8, q0_c_9, q0_c_10⟩ := rc11 e_c
  replace e_c := Lib.hid e_c
  obtain ⟨q0_s_0, q0_s_1, q0_s_2, q0_s_3, q0_s_4, q0_s_5, q0_s_6, q0_s_7⟩ := rc8 e_s
  replace e_s := Lib.hid e_s
  obtain ⟨q0_l_0, q0_l_1, q0_l_2, q0_l_3⟩ := rc4 e_l
  replace e_l := Lib.hid e_l
  obtain ⟨q0_p_0, q0_p_1, q0_p_2, q0_p_3⟩ := rc4 e_p
  replace e_p := Lib.hid e_p
  have hgw0 := grow_cell W
  have hK := Lib.hid (fun w => progKnown w)
  have kRC := Lib.hid (fun w => (refCavern c w).mono fun e w' hb => BoolB.lit hb hc)
  have kRS := Lib.hid (fun w => (refState s w).mono fun e w' hb => BoolB.lit hb hs)
  have kRP := Lib.hid (fun w => (refPoint l w).mono fun e w' hb => BoolB.lit hb h3)
  replace hc := Lib.hid hc; replace hs := Lib.hid hs; replace h3 := Lib.hid h3
  go_enter Try.func11, Try.ntmps11
  go_wp2_with (first | (go_at_call 17; (with_reducible refine Calls.mono (kRC.out _) ?_); rintro e w1 ⟨rfl, hB⟩; (first | (obtain ⟨g, rfl⟩ := g.next hB) | (obtain ⟨g, rfl⟩ : ∃ g : Grow W, w1 = g.x := ⟨⟨w1, hB⟩, rfl⟩)); clear hB) | (go_at_call 18; (with_reducible refine Calls.mono (kRS.out _) ?_); rintro e w1 ⟨rfl, hB⟩; (first | (obtain ⟨g, rfl⟩ := g.next hB) | (obtain ⟨g, rfl⟩ : ∃ g : Grow W, w1 = g.x := ⟨⟨w1, hB⟩, rfl⟩)); clear hB) | (go_at_call 25; (with_reducible refine Calls.mono (kRP.out _) ?_); rintro e w1 ⟨rfl, hB⟩; (first | (obtain ⟨g, rfl⟩ := g.next hB) | (obtain ⟨g, rfl⟩ : ∃ g : Grow W, w1 = g.x := ⟨⟨w1, hB⟩, rfl⟩)); clear hB) | (go_at_call 20; (with_reducible refine Calls.mono (hK.out _) ?_); rintro e w1 ⟨rfl, hB⟩; (first | (obtain ⟨g, rfl⟩ := g.next hB) | (obtain ⟨g, rfl⟩ : ∃ g : Grow W, w1 = g.x := ⟨⟨w1, hB⟩, rfl⟩)); clear hB))
  go_ret
  exact ⟨rfl, B0.trans (g.h.mono B0.size)⟩

set_option maxRecDepth 100000 in
set_option maxHeartbeats 16000000 in
theorem lawPur3 (c : Cav) (s : St) (l p : Pt) (w : World) (hc : c.ok = true) (hs : s.ok = true) (h3 : l.ok = true) (hp : hasB s p = false) :
    Calls Try.prog 11 #[cavV c, stV s, ptV l, ptV p] w fun e w' => e = .returned (.bool true) ∧ Below w.heap.size w w' := by
  obtain ⟨W1, hW1⟩ : ∃ W1, w.alloc (.cells #[.int .i64 c.vlo, .int .i64 c.vhi, .int .i64 c.least, .int .i64 c.most, .int .i64 c.f0, .int .i64 c.f1, .int .i64 c.h0, .int .i64 c.h1, .int .i64 c.rock, .int .i64 c.plo, .int .i64 c.phi] 26) = W1 := ⟨_, rfl⟩
  obtain ⟨e_c, b_c, s_c⟩ := boxed hW1
  obtain ⟨W2, hW2⟩ : ∃ W2, W1.alloc (.cells #[.int .i64 s.glo, .int .i64 s.ghi, .int .i64 s.ylo, .int .i64 s.yhi, .int .i64 s.tlo, .int .i64 s.thi, .int .i64 s.wlo, .int .i64 s.whi] 28) = W2 := ⟨_, rfl⟩
  obtain ⟨e_s, b_s, s_s⟩ := boxed hW2
  replace e_c := (b_s.block _ (Array.getElem?_eq_some_iff.1 e_c).1).trans e_c
  obtain ⟨W3, hW3⟩ : ∃ W3, W2.alloc (.cells #[.int .i64 l.g, .int .i64 l.y, .int .i64 l.t, .int .i64 l.w] 31) = W3 := ⟨_, rfl⟩
  obtain ⟨e_l, b_l, s_l⟩ := boxed hW3
  replace e_c := (b_l.block _ (Array.getElem?_eq_some_iff.1 e_c).1).trans e_c
  replace e_s := (b_l.block _ (Array.getElem?_eq_some_iff.1 e_s).1).trans e_s
  obtain ⟨W, hW⟩ : ∃ W, W3.alloc (.cells #[.int .i64 p.g, .int .i64 p.y, .int .i64 p.t, .int .i64 p.w] 31) = W := ⟨_, rfl⟩
  obtain ⟨e_p, b_p, s_p⟩ := boxed hW
  replace e_c := (b_p.block _ (Array.getElem?_eq_some_iff.1 e_c).1).trans e_c
  replace e_s := (b_p.block _ (Array.getElem?_eq_some_iff.1 e_s).1).trans e_s
  replace e_l := (b_p.block _ (Array.getElem?_eq_some_iff.1 e_l).1).trans e_l
  have B0 : Below w.heap.size w W := (((b_c.trans (b_s.mono (by omega))).trans (b_l.mono (by omega))).trans (b_p.mono (by omega)))
  have z0_c := (Array.getElem?_eq_some_iff.1 e_c).1
  have z0_s := (Array.getElem?_eq_some_iff.1 e_s).1
  have z0_l := (Array.getElem?_eq_some_iff.1 e_l).1
  have z0_p := (Array.getElem?_eq_some_iff.1 e_p).1
  have le_c : w.heap.size ≤ w.heap.size := by omega
  have le_s : w.heap.size ≤ W1.heap.size := by omega
  have le_l : w.heap.size ≤ W2.heap.size := by omega
  have le_p : w.heap.size ≤ W3.heap.size := by omega
  clear s_c b_c s_s b_s s_l b_l s_p b_p
  obtain ⟨q0_c_0, q0_c_1, q0_c_2, q0_c_3, q0_c_4, q0_c_5, q0_c_6, q0_c_7, q0_c_8, q0_c_9, q0_c_10⟩ := rc11 e_c
  replace e_c := Lib.hid e_c
  obtain ⟨q0_s_0, q0_s_1, q0_s_2, q0_s_3, q0_s_4, q0_s_5, q0_s_6, q0_s_7⟩ := rc8 e_s
  replace e_s := Lib.hid e_s
  obtain ⟨q0_l_0, q0_l_1, q0_l_2, q0_l_3⟩ := rc4 e_l
  replace e_l := Lib.hid e_l
  obtain ⟨q0_p_0, q0_p_1, q0_p_2, q0_p_3⟩ := rc4 e_p
  replace e_p := Lib.hid e_p
  have hgw0 := grow_cell W
  have hK := Lib.hid (fun w => progKnown w)
  have kRC := Lib.hid (fun w => (refCavern c w).mono fun e w' hb => BoolB.lit hb hc)
  have kRS := Lib.hid (fun w => (refState s w).mono fun e w' hb => BoolB.lit hb hs)
  have kRP := Lib.hid (fun w => (refPoint l w).mono fun e w' hb => BoolB.lit hb h3)
  have kRH := Lib.hid (fun w => (refHas s p w).mono fun e w' hb => BoolB.lit hb hp)
  replace hc := Lib.hid hc; replace hs := Lib.hid hs; replace h3 := Lib.hid h3; replace hp := Lib.hid hp
  go_enter Try.func11, Try.ntmps11
  go_wp2_with (first | (go_at_call 17; (with_reducible refine Calls.mono (kRC.out _) ?_); rintro e w1 ⟨rfl, hB⟩; (first | (obtain ⟨g, rfl⟩ := g.next hB) | (obtain ⟨g, rfl⟩ : ∃ g : Grow W, w1 = g.x := ⟨⟨w1, hB⟩, rfl⟩)); clear hB) | (go_at_call 18; (with_reducible refine Calls.mono (kRS.out _) ?_); rintro e w1 ⟨rfl, hB⟩; (first | (obtain ⟨g, rfl⟩ := g.next hB) | (obtain ⟨g, rfl⟩ : ∃ g : Grow W, w1 = g.x := ⟨⟨w1, hB⟩, rfl⟩)); clear hB) | (go_at_call 25; (with_reducible refine Calls.mono (kRP.out _) ?_); rintro e w1 ⟨rfl, hB⟩; (first | (obtain ⟨g, rfl⟩ := g.next hB) | (obtain ⟨g, rfl⟩ : ∃ g : Grow W, w1 = g.x := ⟨⟨w1, hB⟩, rfl⟩)); clear hB) | (go_at_call 34; (with_reducible refine Calls.mono (kRH.out _) ?_); rintro e w1 ⟨rfl, hB⟩; (first | (obtain ⟨g, rfl⟩ := g.next hB) | (obtain ⟨g, rfl⟩ : ∃ g : Grow W, w1 = g.x := ⟨⟨w1, hB⟩, rfl⟩)); clear hB) | (go_at_call 20; (with_reducible refine Calls.mono (hK.out _) ?_); rintro e w1 ⟨rfl, hB⟩; (first | (obtain ⟨g, rfl⟩ := g.next hB) | (obtain ⟨g, rfl⟩ : ∃ g : Grow W, w1 = g.x := ⟨⟨w1, hB⟩, rfl⟩)); clear hB))
  go_ret
  exact ⟨rfl, B0.trans (g.h.mono B0.size)⟩

set_option maxRecDepth 100000 in
set_option maxHeartbeats 16000000 in
theorem lawPur4 (c : Cav) (s : St) (l p : Pt) (w : World) (hc : c.ok = true) (hs : s.ok = true) (h3 : l.ok = true) (hp : hasB s p = true) (hpu : purgeOf (fun n : Nat => pureOp c s (lotsOp l (n : Int))) = none) :
    Calls Try.prog 11 #[cavV c, stV s, ptV l, ptV p] w fun e w' => e = .returned (.bool true) ∧ Below w.heap.size w w' := by
  obtain ⟨W1, hW1⟩ : ∃ W1, w.alloc (.cells #[.int .i64 c.vlo, .int .i64 c.vhi, .int .i64 c.least, .int .i64 c.most, .int .i64 c.f0, .int .i64 c.f1, .int .i64 c.h0, .int .i64 c.h1, .int .i64 c.rock, .int .i64 c.plo, .int .i64 c.phi] 26) = W1 := ⟨_, rfl⟩
  obtain ⟨e_c, b_c, s_c⟩ := boxed hW1
  obtain ⟨W2, hW2⟩ : ∃ W2, W1.alloc (.cells #[.int .i64 s.glo, .int .i64 s.ghi, .int .i64 s.ylo, .int .i64 s.yhi, .int .i64 s.tlo, .int .i64 s.thi, .int .i64 s.wlo, .int .i64 s.whi] 28) = W2 := ⟨_, rfl⟩
  obtain ⟨e_s, b_s, s_s⟩ := boxed hW2
  replace e_c := (b_s.block _ (Array.getElem?_eq_some_iff.1 e_c).1).trans e_c
  obtain ⟨W3, hW3⟩ : ∃ W3, W2.alloc (.cells #[.int .i64 l.g, .int .i64 l.y, .int .i64 l.t, .int .i64 l.w] 31) = W3 := ⟨_, rfl⟩
  obtain ⟨e_l, b_l, s_l⟩ := boxed hW3
  replace e_c := (b_l.block _ (Array.getElem?_eq_some_iff.1 e_c).1).trans e_c
  replace e_s := (b_l.block _ (Array.getElem?_eq_some_iff.1 e_s).1).trans e_s
  obtain ⟨W, hW⟩ : ∃ W, W3.alloc (.cells #[.int .i64 p.g, .int .i64 p.y, .int .i64 p.t, .int .i64 p.w] 31) = W := ⟨_, rfl⟩
  obtain ⟨e_p, b_p, s_p⟩ := boxed hW
  replace e_c := (b_p.block _ (Array.getElem?_eq_some_iff.1 e_c).1).trans e_c
  replace e_s := (b_p.block _ (Array.getElem?_eq_some_iff.1 e_s).1).trans e_s
  replace e_l := (b_p.block _ (Array.getElem?_eq_some_iff.1 e_l).1).trans e_l
  have B0 : Below w.heap.size w W := (((b_c.trans (b_s.mono (by omega))).trans (b_l.mono (by omega))).trans (b_p.mono (by omega)))
  have z0_c := (Array.getElem?_eq_some_iff.1 e_c).1
  have z0_s := (Array.getElem?_eq_some_iff.1 e_s).1
  have z0_l := (Array.getElem?_eq_some_iff.1 e_l).1
  have z0_p := (Array.getElem?_eq_some_iff.1 e_p).1
  have le_c : w.heap.size ≤ w.heap.size := by omega
  have le_s : w.heap.size ≤ W1.heap.size := by omega
  have le_l : w.heap.size ≤ W2.heap.size := by omega
  have le_p : w.heap.size ≤ W3.heap.size := by omega
  clear s_c b_c s_s b_s s_l b_l s_p b_p
  obtain ⟨q0_c_0, q0_c_1, q0_c_2, q0_c_3, q0_c_4, q0_c_5, q0_c_6, q0_c_7, q0_c_8, q0_c_9, q0_c_10⟩ := rc11 e_c
  replace e_c := Lib.hid e_c
  obtain ⟨q0_s_0, q0_s_1, q0_s_2, q0_s_3, q0_s_4, q0_s_5, q0_s_6, q0_s_7⟩ := rc8 e_s
  replace e_s := Lib.hid e_s
  obtain ⟨q0_l_0, q0_l_1, q0_l_2, q0_l_3⟩ := rc4 e_l
  replace e_l := Lib.hid e_l
  obtain ⟨q0_p_0, q0_p_1, q0_p_2, q0_p_3⟩ := rc4 e_p
  replace e_p := Lib.hid e_p
  have hgw0 := grow_cell W
  have hK := Lib.hid (fun w => progKnown w)
  have kPu := Lib.hid (fun w => progPurge3 c s l w hc hs h3)
  have hR : purgeRes (fun n : Nat => pureOp c s (lotsOp l (n : Int))) = (0, 5) := by unfold purgeRes; rw [hpu]; try rfl
  rw [hR] at kPu
  clear hR
  replace hpu := Lib.hid hpu
  have kRC := Lib.hid (fun w => (refCavern c w).mono fun e w' hb => BoolB.lit hb hc)
  have kRS := Lib.hid (fun w => (refState s w).mono fun e w' hb => BoolB.lit hb hs)
  have kRP := Lib.hid (fun w => (refPoint l w).mono fun e w' hb => BoolB.lit hb h3)
  have kRH := Lib.hid (fun w => (refHas s p w).mono fun e w' hb => BoolB.lit hb hp)
  replace hc := Lib.hid hc; replace hs := Lib.hid hs; replace h3 := Lib.hid h3; replace hp := Lib.hid hp
  go_enter Try.func11, Try.ntmps11
  go_wp2_with (first | (go_at_call 17; (with_reducible refine Calls.mono (kRC.out _) ?_); rintro e w1 ⟨rfl, hB⟩; (first | (obtain ⟨g, rfl⟩ := g.next hB) | (obtain ⟨g, rfl⟩ : ∃ g : Grow W, w1 = g.x := ⟨⟨w1, hB⟩, rfl⟩)); clear hB) | (go_at_call 18; (with_reducible refine Calls.mono (kRS.out _) ?_); rintro e w1 ⟨rfl, hB⟩; (first | (obtain ⟨g, rfl⟩ := g.next hB) | (obtain ⟨g, rfl⟩ : ∃ g : Grow W, w1 = g.x := ⟨⟨w1, hB⟩, rfl⟩)); clear hB) | (go_at_call 25; (with_reducible refine Calls.mono (kRP.out _) ?_); rintro e w1 ⟨rfl, hB⟩; (first | (obtain ⟨g, rfl⟩ := g.next hB) | (obtain ⟨g, rfl⟩ : ∃ g : Grow W, w1 = g.x := ⟨⟨w1, hB⟩, rfl⟩)); clear hB) | (go_at_call 34; (with_reducible refine Calls.mono (kRH.out _) ?_); rintro e w1 ⟨rfl, hB⟩; (first | (obtain ⟨g, rfl⟩ := g.next hB) | (obtain ⟨g, rfl⟩ : ∃ g : Grow W, w1 = g.x := ⟨⟨w1, hB⟩, rfl⟩)); clear hB) | (go_at_call 35; (with_reducible refine Calls.mono (kPu.out _) ?_); rintro e w1 ⟨rfl, hB⟩; (first | (obtain ⟨g, rfl⟩ := g.next hB) | (obtain ⟨g, rfl⟩ : ∃ g : Grow W, w1 = g.x := ⟨⟨w1, hB⟩, rfl⟩)); clear hB) | (go_at_call 20; (with_reducible refine Calls.mono (hK.out _) ?_); rintro e w1 ⟨rfl, hB⟩; (first | (obtain ⟨g, rfl⟩ := g.next hB) | (obtain ⟨g, rfl⟩ : ∃ g : Grow W, w1 = g.x := ⟨⟨w1, hB⟩, rfl⟩)); clear hB))
  go_ret
  exact ⟨rfl, B0.trans (g.h.mono B0.size)⟩

set_option maxRecDepth 100000 in
set_option maxHeartbeats 16000000 in
theorem lawPur5 (c : Cav) (s : St) (l p : Pt) (w : World) (hc : c.ok = true) (hs : s.ok = true) (h3 : l.ok = true) (hp : hasB s p = true) (hpu : purgeOf (fun n : Nat => pureOp c s (lotsOp l (n : Int))) = some 0) :
    Calls Try.prog 11 #[cavV c, stV s, ptV l, ptV p] w fun e w' => e = .returned (.bool true) ∧ Below w.heap.size w w' := by
  obtain ⟨W1, hW1⟩ : ∃ W1, w.alloc (.cells #[.int .i64 c.vlo, .int .i64 c.vhi, .int .i64 c.least, .int .i64 c.most, .int .i64 c.f0, .int .i64 c.f1, .int .i64 c.h0, .int .i64 c.h1, .int .i64 c.rock, .int .i64 c.plo, .int .i64 c.phi] 26) = W1 := ⟨_, rfl⟩
  obtain ⟨e_c, b_c, s_c⟩ := boxed hW1
  obtain ⟨W2, hW2⟩ : ∃ W2, W1.alloc (.cells #[.int .i64 s.glo, .int .i64 s.ghi, .int .i64 s.ylo, .int .i64 s.yhi, .int .i64 s.tlo, .int .i64 s.thi, .int .i64 s.wlo, .int .i64 s.whi] 28) = W2 := ⟨_, rfl⟩
  obtain ⟨e_s, b_s, s_s⟩ := boxed hW2
  replace e_c := (b_s.block _ (Array.getElem?_eq_some_iff.1 e_c).1).trans e_c
  obtain ⟨W3, hW3⟩ : ∃ W3, W2.alloc (.cells #[.int .i64 l.g, .int .i64 l.y, .int .i64 l.t, .int .i64 l.w] 31) = W3 := ⟨_, rfl⟩
  obtain ⟨e_l, b_l, s_l⟩ := boxed hW3
  replace e_c := (b_l.block _ (Array.getElem?_eq_some_iff.1 e_c).1).trans e_c
  replace e_s := (b_l.block _ (Array.getElem?_eq_some_iff.1 e_s).1).trans e_s
  obtain ⟨W, hW⟩ : ∃ W, W3.alloc (.cells #[.int .i64 p.g, .int .i64 p.y, .int .i64 p.t, .int .i64 p.w] 31) = W := ⟨_, rfl⟩
  obtain ⟨e_p, b_p, s_p⟩ := boxed hW
  replace e_c := (b_p.block _ (Array.getElem?_eq_some_iff.1 e_c).1).trans e_c
  replace e_s := (b_p.block _ (Array.getElem?_eq_some_iff.1 e_s).1).trans e_s
  replace e_l := (b_p.block _ (Array.getElem?_eq_some_iff.1 e_l).1).trans e_l
  have B0 : Below w.heap.size w W := (((b_c.trans (b_s.mono (by omega))).trans (b_l.mono (by omega))).trans (b_p.mono (by omega)))
  have z0_c := (Array.getElem?_eq_some_iff.1 e_c).1
  have z0_s := (Array.getElem?_eq_some_iff.1 e_s).1
  have z0_l := (Array.getElem?_eq_some_iff.1 e_l).1
  have z0_p := (Array.getElem?_eq_some_iff.1 e_p).1
  have le_c : w.heap.size ≤ w.heap.size := by omega
  have le_s : w.heap.size ≤ W1.heap.size := by omega
  have le_l : w.heap.size ≤ W2.heap.size := by omega
  have le_p : w.heap.size ≤ W3.heap.size := by omega
  clear s_c b_c s_s b_s s_l b_l s_p b_p
  obtain ⟨q0_c_0, q0_c_1, q0_c_2, q0_c_3, q0_c_4, q0_c_5, q0_c_6, q0_c_7, q0_c_8, q0_c_9, q0_c_10⟩ := rc11 e_c
  replace e_c := Lib.hid e_c
  obtain ⟨q0_s_0, q0_s_1, q0_s_2, q0_s_3, q0_s_4, q0_s_5, q0_s_6, q0_s_7⟩ := rc8 e_s
  replace e_s := Lib.hid e_s
  obtain ⟨q0_l_0, q0_l_1, q0_l_2, q0_l_3⟩ := rc4 e_l
  replace e_l := Lib.hid e_l
  obtain ⟨q0_p_0, q0_p_1, q0_p_2, q0_p_3⟩ := rc4 e_p
  replace e_p := Lib.hid e_p
  have hgw0 := grow_cell W
  have hK := Lib.hid (fun w => progKnown w)
  have kPu := Lib.hid (fun w => progPurge3 c s l w hc hs h3)
  have hR : purgeRes (fun n : Nat => pureOp c s (lotsOp l (n : Int))) = (0, 0) := by unfold purgeRes; rw [hpu]; try rfl
  rw [hR] at kPu
  clear hR
  have hck := Cav.ok_iff.1 hc; have hsk := St.ok_iff.1 hs; have hlk := Pt.ok_iff.1 h3; have hhas := hasB_iff.1 hp
  have hpk := hhas.ok hsk
  obtain ⟨hk100, n1, n2, n3⟩ := purged hck hsk hlk hhas hpu
  have q1 := hck.pur; have l1 := hlk.g; have l2 := hlk.y; have p1 := hpk.g; have p2 := hpk.y; have s1 := hsk.g; have s2 := hsk.y
  clear hck hsk hlk hpk hhas
  clear n3
  have n1' : ¬ 1000 * p.y < c.plo * (p.g + p.y) := by simpa using n1
  have n2' : ¬ c.phi * (p.g + p.y) < 1000 * p.y := by simpa using n2
  clear n1 n2
  have v1 := pmul (a := c.plo) (x := p.g + p.y) (M := 300000000) (by omega) (by omega)
  have v2 := pmul (a := c.phi) (x := p.g + p.y) (M := 300000000) (by omega) (by omega)
  have a1 : IntKind.i64.wrap (p.g + p.y) = p.g + p.y := IntWalk.i64_in _ (by omega)
  have a2 : IntKind.i64.wrap (l.g + l.y) = l.g + l.y := IntWalk.i64_in _ (by omega)
  have a7 : IntKind.i64.wrap (1000 * p.y) = 1000 * p.y := IntWalk.i64_in _ (by omega)
  have a8 : IntKind.i64.wrap (c.plo * (p.g + p.y)) = c.plo * (p.g + p.y) := IntWalk.i64_in _ (by omega)
  have a9 : IntKind.i64.wrap (c.phi * (p.g + p.y)) = c.phi * (p.g + p.y) := IntWalk.i64_in _ (by omega)
  have a10 : IntKind.i64.wrap p.y = p.y := IntWalk.i64_in _ (by omega)
  clear v1 v2 q1 l1 l2 p1 p2 s1 s2 hk100
  replace hpu := Lib.hid hpu
  have kRC := Lib.hid (fun w => (refCavern c w).mono fun e w' hb => BoolB.lit hb hc)
  have kRS := Lib.hid (fun w => (refState s w).mono fun e w' hb => BoolB.lit hb hs)
  have kRP := Lib.hid (fun w => (refPoint l w).mono fun e w' hb => BoolB.lit hb h3)
  have kRH := Lib.hid (fun w => (refHas s p w).mono fun e w' hb => BoolB.lit hb hp)
  replace hc := Lib.hid hc; replace hs := Lib.hid hs; replace h3 := Lib.hid h3; replace hp := Lib.hid hp
  go_enter Try.func11, Try.ntmps11
  go_wp2_with (first | (go_at_call 17; (with_reducible refine Calls.mono (kRC.out _) ?_); rintro e w1 ⟨rfl, hB⟩; (first | (obtain ⟨g, rfl⟩ := g.next hB) | (obtain ⟨g, rfl⟩ : ∃ g : Grow W, w1 = g.x := ⟨⟨w1, hB⟩, rfl⟩)); clear hB) | (go_at_call 18; (with_reducible refine Calls.mono (kRS.out _) ?_); rintro e w1 ⟨rfl, hB⟩; (first | (obtain ⟨g, rfl⟩ := g.next hB) | (obtain ⟨g, rfl⟩ : ∃ g : Grow W, w1 = g.x := ⟨⟨w1, hB⟩, rfl⟩)); clear hB) | (go_at_call 25; (with_reducible refine Calls.mono (kRP.out _) ?_); rintro e w1 ⟨rfl, hB⟩; (first | (obtain ⟨g, rfl⟩ := g.next hB) | (obtain ⟨g, rfl⟩ : ∃ g : Grow W, w1 = g.x := ⟨⟨w1, hB⟩, rfl⟩)); clear hB) | (go_at_call 34; (with_reducible refine Calls.mono (kRH.out _) ?_); rintro e w1 ⟨rfl, hB⟩; (first | (obtain ⟨g, rfl⟩ := g.next hB) | (obtain ⟨g, rfl⟩ : ∃ g : Grow W, w1 = g.x := ⟨⟨w1, hB⟩, rfl⟩)); clear hB) | (go_at_call 35; (with_reducible refine Calls.mono (kPu.out _) ?_); rintro e w1 ⟨rfl, hB⟩; (first | (obtain ⟨g, rfl⟩ := g.next hB) | (obtain ⟨g, rfl⟩ : ∃ g : Grow W, w1 = g.x := ⟨⟨w1, hB⟩, rfl⟩)); clear hB))
  have hgg : ∀ (h : Grow g.x) (b o : Nat), b < W.heap.size → h.x.cell? ⟨b, o, none⟩ = W.cell? ⟨b, o, none⟩ := fun h b o hb => (grow_cell g.x h b o (Nat.lt_of_lt_of_le hb g.size)).trans (grow_cell W g b o hb)
  refine wp_region_grow (by kernel_rfl) (by kernel_rfl) ?_
  repeat (go_big_quiet_step (fail))
  refine wpQuiet_nil ?_
  rintro _ ⟨gx, rfl⟩
  clear hgg
  obtain ⟨g2, hg2⟩ := g.next gx.h
  rw [hg2]
  clear hg2 gx
  obtain ⟨g, hgx⟩ : ∃ g : Grow W, g2.x = g.x := ⟨g2, rfl⟩
  rw [hgx]
  clear hgx g2
  go_wp2_with (first | (go_at_call 20; (with_reducible refine Calls.mono (hK.out _) ?_); rintro e w1 ⟨rfl, hB⟩; (first | (obtain ⟨g, rfl⟩ := g.next hB) | (obtain ⟨g, rfl⟩ : ∃ g : Grow W, w1 = g.x := ⟨⟨w1, hB⟩, rfl⟩)); clear hB))
  go_ret
  exact ⟨rfl, B0.trans (g.h.mono B0.size)⟩

set_option maxRecDepth 100000 in
set_option maxHeartbeats 16000000 in
theorem lawPur6 (c : Cav) (s : St) (l p : Pt) (w : World) (hc : c.ok = true) (hs : s.ok = true) (h3 : l.ok = true) (hp : hasB s p = true) {k : Nat} (hpu : purgeOf (fun n : Nat => pureOp c s (lotsOp l (n : Int))) = some k) (hkz : k ≠ 0) :
    Calls Try.prog 11 #[cavV c, stV s, ptV l, ptV p] w fun e w' => e = .returned (.bool true) ∧ Below w.heap.size w w' := by
  obtain ⟨W1, hW1⟩ : ∃ W1, w.alloc (.cells #[.int .i64 c.vlo, .int .i64 c.vhi, .int .i64 c.least, .int .i64 c.most, .int .i64 c.f0, .int .i64 c.f1, .int .i64 c.h0, .int .i64 c.h1, .int .i64 c.rock, .int .i64 c.plo, .int .i64 c.phi] 26) = W1 := ⟨_, rfl⟩
  obtain ⟨e_c, b_c, s_c⟩ := boxed hW1
  obtain ⟨W2, hW2⟩ : ∃ W2, W1.alloc (.cells #[.int .i64 s.glo, .int .i64 s.ghi, .int .i64 s.ylo, .int .i64 s.yhi, .int .i64 s.tlo, .int .i64 s.thi, .int .i64 s.wlo, .int .i64 s.whi] 28) = W2 := ⟨_, rfl⟩
  obtain ⟨e_s, b_s, s_s⟩ := boxed hW2
  replace e_c := (b_s.block _ (Array.getElem?_eq_some_iff.1 e_c).1).trans e_c
  obtain ⟨W3, hW3⟩ : ∃ W3, W2.alloc (.cells #[.int .i64 l.g, .int .i64 l.y, .int .i64 l.t, .int .i64 l.w] 31) = W3 := ⟨_, rfl⟩
  obtain ⟨e_l, b_l, s_l⟩ := boxed hW3
  replace e_c := (b_l.block _ (Array.getElem?_eq_some_iff.1 e_c).1).trans e_c
  replace e_s := (b_l.block _ (Array.getElem?_eq_some_iff.1 e_s).1).trans e_s
  obtain ⟨W, hW⟩ : ∃ W, W3.alloc (.cells #[.int .i64 p.g, .int .i64 p.y, .int .i64 p.t, .int .i64 p.w] 31) = W := ⟨_, rfl⟩
  obtain ⟨e_p, b_p, s_p⟩ := boxed hW
  replace e_c := (b_p.block _ (Array.getElem?_eq_some_iff.1 e_c).1).trans e_c
  replace e_s := (b_p.block _ (Array.getElem?_eq_some_iff.1 e_s).1).trans e_s
  replace e_l := (b_p.block _ (Array.getElem?_eq_some_iff.1 e_l).1).trans e_l
  have B0 : Below w.heap.size w W := (((b_c.trans (b_s.mono (by omega))).trans (b_l.mono (by omega))).trans (b_p.mono (by omega)))
  have z0_c := (Array.getElem?_eq_some_iff.1 e_c).1
  have z0_s := (Array.getElem?_eq_some_iff.1 e_s).1
  have z0_l := (Array.getElem?_eq_some_iff.1 e_l).1
  have z0_p := (Array.getElem?_eq_some_iff.1 e_p).1
  have le_c : w.heap.size ≤ w.heap.size := by omega
  have le_s : w.heap.size ≤ W1.heap.size := by omega
  have le_l : w.heap.size ≤ W2.heap.size := by omega
  have le_p : w.heap.size ≤ W3.heap.size := by omega
  clear s_c b_c s_s b_s s_l b_l s_p b_p
  obtain ⟨q0_c_0, q0_c_1, q0_c_2, q0_c_3, q0_c_4, q0_c_5, q0_c_6, q0_c_7, q0_c_8, q0_c_9, q0_c_10⟩ := rc11 e_c
  replace e_c := Lib.hid e_c
  obtain ⟨q0_s_0, q0_s_1, q0_s_2, q0_s_3, q0_s_4, q0_s_5, q0_s_6, q0_s_7⟩ := rc8 e_s
  replace e_s := Lib.hid e_s
  obtain ⟨q0_l_0, q0_l_1, q0_l_2, q0_l_3⟩ := rc4 e_l
  replace e_l := Lib.hid e_l
  obtain ⟨q0_p_0, q0_p_1, q0_p_2, q0_p_3⟩ := rc4 e_p
  replace e_p := Lib.hid e_p
  have hgw0 := grow_cell W
  have hK := Lib.hid (fun w => progKnown w)
  have kPu := Lib.hid (fun w => progPurge3 c s l w hc hs h3)
  have hR : purgeRes (fun n : Nat => pureOp c s (lotsOp l (n : Int))) = ((k : Int), 0) := by unfold purgeRes; rw [hpu]; try rfl
  rw [hR] at kPu
  clear hR
  have hck := Cav.ok_iff.1 hc; have hsk := St.ok_iff.1 hs; have hlk := Pt.ok_iff.1 h3; have hhas := hasB_iff.1 hp
  have hpk := hhas.ok hsk
  obtain ⟨hk100, n1, n2, n3⟩ := purged hck hsk hlk hhas hpu
  have q1 := hck.pur; have l1 := hlk.g; have l2 := hlk.y; have p1 := hpk.g; have p2 := hpk.y; have s1 := hsk.g; have s2 := hsk.y
  clear hck hsk hlk hpk hhas
  have hk0 : ¬ (k : Int) = 0 := by omega
  have hkn : ¬ (k : Int) < 0 := by omega
  have hkm : ¬ 100 < (k : Int) := by omega
  have u1 := kmul (k := (k : Int)) (x := l.g) (by omega) l1
  have u2 := kmul (k := (k : Int)) (x := l.y) (by omega) l2
  have eK : (k : Int) * (l.g + l.y) = (k : Int) * l.g + (k : Int) * l.y := Int.mul_add _ _ _
  have v1 := pmul (a := c.plo) (x := p.g + p.y + (k : Int) * (l.g + l.y)) (M := 300000000) (by omega) (by omega)
  have v2 := pmul (a := c.phi) (x := p.g + p.y + (k : Int) * (l.g + l.y)) (M := 300000000) (by omega) (by omega)
  have a1 : IntKind.i64.wrap (p.g + p.y) = p.g + p.y := IntWalk.i64_in _ (by omega)
  have a2 : IntKind.i64.wrap (l.g + l.y) = l.g + l.y := IntWalk.i64_in _ (by omega)
  have a3 : IntKind.i64.wrap ((k : Int) * (l.g + l.y)) = (k : Int) * (l.g + l.y) := IntWalk.i64_in _ (by omega)
  have a4 : IntKind.i64.wrap (p.g + p.y + (k : Int) * (l.g + l.y)) = p.g + p.y + (k : Int) * (l.g + l.y) := IntWalk.i64_in _ (by omega)
  have a5 : IntKind.i64.wrap ((k : Int) * l.y) = (k : Int) * l.y := IntWalk.i64_in _ (by omega)
  have a6 : IntKind.i64.wrap (p.y + (k : Int) * l.y) = p.y + (k : Int) * l.y := IntWalk.i64_in _ (by omega)
  have a7 : IntKind.i64.wrap (1000 * (p.y + (k : Int) * l.y)) = 1000 * (p.y + (k : Int) * l.y) := IntWalk.i64_in _ (by omega)
  have a8 : IntKind.i64.wrap (c.plo * (p.g + p.y + (k : Int) * (l.g + l.y))) = c.plo * (p.g + p.y + (k : Int) * (l.g + l.y)) := IntWalk.i64_in _ (by omega)
  have a9 : IntKind.i64.wrap (c.phi * (p.g + p.y + (k : Int) * (l.g + l.y))) = c.phi * (p.g + p.y + (k : Int) * (l.g + l.y)) := IntWalk.i64_in _ (by omega)
  have n2' : ¬ c.phi * (p.g + p.y + (k : Int) * (l.g + l.y)) < 1000 * (p.y + (k : Int) * l.y) := n2
  clear n2
  obtain ⟨J, hJ⟩ : ∃ J, (k : Int) - 1 = J := ⟨_, rfl⟩
  rw [hJ] at n3
  have b0 : IntKind.i64.wrap ((k : Int) - 1) = J := by rw [IntWalk.i64_in _ (by omega)]; exact hJ
  have r1 := kmul (k := J) (x := l.g) (by omega) l1
  have r2 := kmul (k := J) (x := l.y) (by omega) l2
  have v3 := pmul (a := c.plo) (x := s.ghi + J * l.g + (s.ylo + J * l.y)) (M := 300000000) (by omega) (by omega)
  have v4 := pmul (a := c.phi) (x := s.glo + J * l.g + (s.yhi + J * l.y)) (M := 300000000) (by omega) (by omega)
  have b1 : IntKind.i64.wrap (J * l.y) = J * l.y := IntWalk.i64_in _ (by omega)
  have b2 : IntKind.i64.wrap (s.ylo + J * l.y) = s.ylo + J * l.y := IntWalk.i64_in _ (by omega)
  have b3 : IntKind.i64.wrap (s.yhi + J * l.y) = s.yhi + J * l.y := IntWalk.i64_in _ (by omega)
  have b4 : IntKind.i64.wrap (J * l.g) = J * l.g := IntWalk.i64_in _ (by omega)
  have b5 : IntKind.i64.wrap (s.ghi + J * l.g) = s.ghi + J * l.g := IntWalk.i64_in _ (by omega)
  have b6 : IntKind.i64.wrap (s.ghi + J * l.g + (s.ylo + J * l.y)) = s.ghi + J * l.g + (s.ylo + J * l.y) := IntWalk.i64_in _ (by omega)
  have b7 : IntKind.i64.wrap (s.glo + J * l.g) = s.glo + J * l.g := IntWalk.i64_in _ (by omega)
  have b8 : IntKind.i64.wrap (s.glo + J * l.g + (s.yhi + J * l.y)) = s.glo + J * l.g + (s.yhi + J * l.y) := IntWalk.i64_in _ (by omega)
  have d1 : IntKind.i64.wrap (1000 * (s.ylo + J * l.y)) = 1000 * (s.ylo + J * l.y) := IntWalk.i64_in _ (by omega)
  have d2 : IntKind.i64.wrap (1000 * (s.yhi + J * l.y)) = 1000 * (s.yhi + J * l.y) := IntWalk.i64_in _ (by omega)
  have d3 : IntKind.i64.wrap (c.plo * (s.ghi + J * l.g + (s.ylo + J * l.y))) = c.plo * (s.ghi + J * l.g + (s.ylo + J * l.y)) := IntWalk.i64_in _ (by omega)
  have d4 : IntKind.i64.wrap (c.phi * (s.glo + J * l.g + (s.yhi + J * l.y))) = c.phi * (s.glo + J * l.g + (s.yhi + J * l.y)) := IntWalk.i64_in _ (by omega)
  have hor := n3 (by omega)
  clear n3 hJ eK u1 u2 v1 v2 v3 v4 r1 r2 q1 l1 l2 p1 p2 s1 s2 hk100
  replace hpu := Lib.hid hpu
  have kRC := Lib.hid (fun w => (refCavern c w).mono fun e w' hb => BoolB.lit hb hc)
  have kRS := Lib.hid (fun w => (refState s w).mono fun e w' hb => BoolB.lit hb hs)
  have kRP := Lib.hid (fun w => (refPoint l w).mono fun e w' hb => BoolB.lit hb h3)
  have kRH := Lib.hid (fun w => (refHas s p w).mono fun e w' hb => BoolB.lit hb hp)
  replace hc := Lib.hid hc; replace hs := Lib.hid hs; replace h3 := Lib.hid h3; replace hp := Lib.hid hp
  go_enter Try.func11, Try.ntmps11
  go_wp2_with (first | (go_at_call 17; (with_reducible refine Calls.mono (kRC.out _) ?_); rintro e w1 ⟨rfl, hB⟩; (first | (obtain ⟨g, rfl⟩ := g.next hB) | (obtain ⟨g, rfl⟩ : ∃ g : Grow W, w1 = g.x := ⟨⟨w1, hB⟩, rfl⟩)); clear hB) | (go_at_call 18; (with_reducible refine Calls.mono (kRS.out _) ?_); rintro e w1 ⟨rfl, hB⟩; (first | (obtain ⟨g, rfl⟩ := g.next hB) | (obtain ⟨g, rfl⟩ : ∃ g : Grow W, w1 = g.x := ⟨⟨w1, hB⟩, rfl⟩)); clear hB) | (go_at_call 25; (with_reducible refine Calls.mono (kRP.out _) ?_); rintro e w1 ⟨rfl, hB⟩; (first | (obtain ⟨g, rfl⟩ := g.next hB) | (obtain ⟨g, rfl⟩ : ∃ g : Grow W, w1 = g.x := ⟨⟨w1, hB⟩, rfl⟩)); clear hB) | (go_at_call 34; (with_reducible refine Calls.mono (kRH.out _) ?_); rintro e w1 ⟨rfl, hB⟩; (first | (obtain ⟨g, rfl⟩ := g.next hB) | (obtain ⟨g, rfl⟩ : ∃ g : Grow W, w1 = g.x := ⟨⟨w1, hB⟩, rfl⟩)); clear hB) | (go_at_call 35; (with_reducible refine Calls.mono (kPu.out _) ?_); rintro e w1 ⟨rfl, hB⟩; (first | (obtain ⟨g, rfl⟩ := g.next hB) | (obtain ⟨g, rfl⟩ : ∃ g : Grow W, w1 = g.x := ⟨⟨w1, hB⟩, rfl⟩)); clear hB))
  have hgg : ∀ (h : Grow g.x) (b o : Nat), b < W.heap.size → h.x.cell? ⟨b, o, none⟩ = W.cell? ⟨b, o, none⟩ := fun h b o hb => (grow_cell g.x h b o (Nat.lt_of_lt_of_le hb g.size)).trans (grow_cell W g b o hb)
  refine wp_region_grow (by kernel_rfl) (by kernel_rfl) ?_
  repeat (go_big_quiet_step (fail))
  refine wpQuiet_nil ?_
  rintro _ ⟨gx, rfl⟩
  clear hgg
  obtain ⟨g2, hg2⟩ := g.next gx.h
  rw [hg2]
  clear hg2 gx
  obtain ⟨g, hgx⟩ : ∃ g : Grow W, g2.x = g.x := ⟨g2, rfl⟩
  rw [hgx]
  clear hgx g2
  go_wp2_with (fail)
  have hgg : ∀ (h : Grow g.x) (b o : Nat), b < W.heap.size → h.x.cell? ⟨b, o, none⟩ = W.cell? ⟨b, o, none⟩ := fun h b o hb => (grow_cell g.x h b o (Nat.lt_of_lt_of_le hb g.size)).trans (grow_cell W g b o hb)
  refine wp_region_grow (by kernel_rfl) (by kernel_rfl) ?_
  repeat (go_big_quiet_step (fail))
  refine wpQuiet_nil ?_
  rintro _ ⟨gx, rfl⟩
  clear hgg
  obtain ⟨g2, hg2⟩ := g.next gx.h
  rw [hg2]
  clear hg2 gx
  obtain ⟨g, hgx⟩ : ∃ g : Grow W, g2.x = g.x := ⟨g2, rfl⟩
  rw [hgx]
  clear hgx g2
  go_wp2_with (fail)
  have hgg : ∀ (h : Grow g.x) (b o : Nat), b < W.heap.size → h.x.cell? ⟨b, o, none⟩ = W.cell? ⟨b, o, none⟩ := fun h b o hb => (grow_cell g.x h b o (Nat.lt_of_lt_of_le hb g.size)).trans (grow_cell W g b o hb)
  refine wp_region_grow (by kernel_rfl) (by kernel_rfl) ?_
  repeat (go_big_quiet_step (fail))
  refine wpQuiet_nil ?_
  rintro _ ⟨gx, rfl⟩
  clear hgg
  obtain ⟨g2, hg2⟩ := g.next gx.h
  rw [hg2]
  clear hg2 gx
  obtain ⟨g, hgx⟩ : ∃ g : Grow W, g2.x = g.x := ⟨g2, rfl⟩
  rw [hgx]
  clear hgx g2
  by_cases hth : 1000 * (s.ylo + J * l.y) < c.plo * (s.ghi + J * l.g + (s.ylo + J * l.y))
  · skip
    clear hor
    go_wp2_with (first | (go_at_call 20; (with_reducible refine Calls.mono (hK.out _) ?_); rintro e w1 ⟨rfl, hB⟩; (first | (obtain ⟨g, rfl⟩ := g.next hB) | (obtain ⟨g, rfl⟩ : ∃ g : Grow W, w1 = g.x := ⟨⟨w1, hB⟩, rfl⟩)); clear hB))
    go_ret
    exact ⟨rfl, B0.trans (g.h.mono B0.size)⟩
  · skip
    have hri : c.phi * (s.glo + J * l.g + (s.yhi + J * l.y)) < 1000 * (s.yhi + J * l.y) := by
      rcases hor with h | h
      · exact absurd h hth
      · exact h
    clear hor
    go_wp2_with (first | (go_at_call 20; (with_reducible refine Calls.mono (hK.out _) ?_); rintro e w1 ⟨rfl, hB⟩; (first | (obtain ⟨g, rfl⟩ := g.next hB) | (obtain ⟨g, rfl⟩ : ∃ g : Grow W, w1 = g.x := ⟨⟨w1, hB⟩, rfl⟩)); clear hB))
    go_ret
    exact ⟨rfl, B0.trans (g.h.mono B0.size)⟩

theorem lawPurged (c : Cav) (s : St) (l p : Pt) (w : World) :
    Calls Try.prog 11 #[cavV c, stV s, ptV l, ptV p] w fun e w' => e = .returned (.bool true) ∧ Below w.heap.size w w' := by
  cases hc : c.ok
  · exact lawPur0 c s l p w hc
  · skip
    cases hs : s.ok
    · exact lawPur1 c s l p w hc hs
    · skip
      cases h3 : l.ok
      · exact lawPur2 c s l p w hc hs h3
      · skip
        cases hp : hasB s p
        · exact lawPur3 c s l p w hc hs h3 hp
        · skip
          cases hpu : purgeOf (fun n : Nat => pureOp c s (lotsOp l (n : Int))) with
          | none => exact lawPur4 c s l p w hc hs h3 hp hpu
          | some k =>
            by_cases hkz : k = 0
            · subst hkz; exact lawPur5 c s l p w hc hs h3 hp hpu
            · exact lawPur6 c s l p w hc hs h3 hp hpu hkz
end Go.Proofs.Ytgmbolagciaenaa
