/- Gas: the walk of the law GasRooms. -/
import Derived.Test.YtgmbolagciaenaaPg
set_option linter.unusedVariables false
set_option linter.unusedSimpArgs false
namespace Go.Proofs.Ytgmbolagciaenaa
open Go.RowKit Go.Sd Gas
set_option maxRecDepth 100000 in
set_option maxHeartbeats 16000000 in
theorem lawRms0 (c : Cav) (s : St) (l : Pt) (u : Int) (w : World) (hc : c.ok = false) :
    Calls Try.prog 15 #[cavV c, stV s, ptV l, .int .i64 u] w fun e w' => e = .returned (.bool true) ∧ Below w.heap.size w w' := by
  obtain ⟨W1, hW1⟩ : ∃ W1, w.alloc (.cells #[.int .i64 c.vlo, .int .i64 c.vhi, .int .i64 c.least, .int .i64 c.most, .int .i64 c.f0, .int .i64 c.f1, .int .i64 c.h0, .int .i64 c.h1, .int .i64 c.rock, .int .i64 c.plo, .int .i64 c.phi] 26) = W1 := ⟨_, rfl⟩
  obtain ⟨e_c, b_c, s_c⟩ := boxed hW1
  obtain ⟨W2, hW2⟩ : ∃ W2, W1.alloc (.cells #[.int .i64 s.glo, .int .i64 s.ghi, .int .i64 s.ylo, .int .i64 s.yhi, .int .i64 s.tlo, .int .i64 s.thi, .int .i64 s.wlo, .int .i64 s.whi] 28) = W2 := ⟨_, rfl⟩
  obtain ⟨e_s, b_s, s_s⟩ := boxed hW2
  replace e_c := (b_s.block _ (Array.getElem?_eq_some_iff.1 e_c).1).trans e_c
  obtain ⟨W, hW⟩ : ∃ W, W2.alloc (.cells #[.int .i64 l.g, .int .i64 l.y, .int .i64 l.t, .int .i64 l.w] 31) = W := ⟨_, rfl⟩
  obtain ⟨e_l, b_l, s_l⟩ := boxed hW
  replace e_c := (b_l.block _ (Array.getElem?_eq_some_iff.1 e_c).1).trans e_c
  replace e_s := (b_l.block _ (Array.getElem?_eq_some_iff.1 e_s).1).trans e_s
  have B0 : Below w.heap.size w W := ((b_c.trans (b_s.mono (by omega))).trans (b_l.mono (by omega)))
  have z0_c := (Array.getElem?_eq_some_iff.1 e_c).1
  have z0_s := (Array.getElem?_eq_some_iff.1 e_s).1
  have z0_l := (Array.getElem?_eq_some_iff.1 e_l).1
  have le_c : w.heap.size ≤ w.heap.size := by omega
  have le_s : w.heap.size ≤ W1.heap.size := by omega
  have le_l : w.heap.size ≤ W2.heap.size := by omega
  clear s_c b_c s_s b_s s_l b_l
  obtain ⟨q0_c_0, q0_c_1, q0_c_2, q0_c_3, q0_c_4, q0_c_5, q0_c_6, q0_c_7, q0_c_8, q0_c_9, q0_c_10⟩ := rc11 e_c
  replace e_c := Lib.hid e_c
  obtain ⟨q0_s_0, q0_s_1, q0_s_2, q0_s_3, q0_s_4, q0_s_5, q0_s_6, q0_s_7⟩ := rc8 e_s
  replace e_s := Lib.hid e_s
  obtain ⟨q0_l_0, q0_l_1, q0_l_2, q0_l_3⟩ := rc4 e_l
  replace e_l := Lib.hid e_l
  have hgw0 := grow_cell W
  have hK := Lib.hid (fun w => progKnown w)
  have kRC := Lib.hid (fun w => (refCavern c w).mono fun e w' hb => BoolB.lit hb hc)
  have kR := Lib.hid (fun w => progRoom0 c s l w hc); have kW := Lib.hid (fun w => progWorking0 c s u w hc); have kG := Lib.hid (fun w => progPurge0 c s l w hc)
  replace hc := Lib.hid hc
  go_enter Try.func15, Try.ntmps15
  go_wp2_with (first | (go_at_call 45; (with_reducible refine Calls.mono (kR.out _) ?_); rintro e w1 ⟨rfl, hB⟩; (first | (obtain ⟨g, rfl⟩ := g.next hB) | (obtain ⟨g, rfl⟩ : ∃ g : Grow W, w1 = g.x := ⟨⟨w1, hB⟩, rfl⟩)); clear hB) | (go_at_call 46; (with_reducible refine Calls.mono (kW.out _) ?_); rintro e w1 ⟨rfl, hB⟩; (first | (obtain ⟨g, rfl⟩ := g.next hB) | (obtain ⟨g, rfl⟩ : ∃ g : Grow W, w1 = g.x := ⟨⟨w1, hB⟩, rfl⟩)); clear hB) | (go_at_call 35; (with_reducible refine Calls.mono (kG.out _) ?_); rintro e w1 ⟨rfl, hB⟩; (first | (obtain ⟨g, rfl⟩ := g.next hB) | (obtain ⟨g, rfl⟩ : ∃ g : Grow W, w1 = g.x := ⟨⟨w1, hB⟩, rfl⟩)); clear hB) | (go_at_call 17; (with_reducible refine Calls.mono (kRC.out _) ?_); rintro e w1 ⟨rfl, hB⟩; (first | (obtain ⟨g, rfl⟩ := g.next hB) | (obtain ⟨g, rfl⟩ : ∃ g : Grow W, w1 = g.x := ⟨⟨w1, hB⟩, rfl⟩)); clear hB) | (go_at_call 20; (with_reducible refine Calls.mono (hK.out _) ?_); rintro e w1 ⟨rfl, hB⟩; (first | (obtain ⟨g, rfl⟩ := g.next hB) | (obtain ⟨g, rfl⟩ : ∃ g : Grow W, w1 = g.x := ⟨⟨w1, hB⟩, rfl⟩)); clear hB))
  go_ret
  exact ⟨rfl, B0.trans (g.h.mono B0.size)⟩

set_option maxRecDepth 100000 in
set_option maxHeartbeats 16000000 in
theorem lawRms1 (c : Cav) (s : St) (l : Pt) (u : Int) (w : World) (hc : c.ok = true) (hs : s.ok = false) :
    Calls Try.prog 15 #[cavV c, stV s, ptV l, .int .i64 u] w fun e w' => e = .returned (.bool true) ∧ Below w.heap.size w w' := by
  obtain ⟨W1, hW1⟩ : ∃ W1, w.alloc (.cells #[.int .i64 c.vlo, .int .i64 c.vhi, .int .i64 c.least, .int .i64 c.most, .int .i64 c.f0, .int .i64 c.f1, .int .i64 c.h0, .int .i64 c.h1, .int .i64 c.rock, .int .i64 c.plo, .int .i64 c.phi] 26) = W1 := ⟨_, rfl⟩
  obtain ⟨e_c, b_c, s_c⟩ := boxed hW1
  obtain ⟨W2, hW2⟩ : ∃ W2, W1.alloc (.cells #[.int .i64 s.glo, .int .i64 s.ghi, .int .i64 s.ylo, .int .i64 s.yhi, .int .i64 s.tlo, .int .i64 s.thi, .int .i64 s.wlo, .int .i64 s.whi] 28) = W2 := ⟨_, rfl⟩
  obtain ⟨e_s, b_s, s_s⟩ := boxed hW2
  replace e_c := (b_s.block _ (Array.getElem?_eq_some_iff.1 e_c).1).trans e_c
  obtain ⟨W, hW⟩ : ∃ W, W2.alloc (.cells #[.int .i64 l.g, .int .i64 l.y, .int .i64 l.t, .int .i64 l.w] 31) = W := ⟨_, rfl⟩
  obtain ⟨e_l, b_l, s_l⟩ := boxed hW
  replace e_c := (b_l.block _ (Array.getElem?_eq_some_iff.1 e_c).1).trans e_c
  replace e_s := (b_l.block _ (Array.getElem?_eq_some_iff.1 e_s).1).trans e_s
  have B0 : Below w.heap.size w W := ((b_c.trans (b_s.mono (by omega))).trans (b_l.mono (by omega)))
  have z0_c := (Array.getElem?_eq_some_iff.1 e_c).1
  have z0_s := (Array.getElem?_eq_some_iff.1 e_s).1
  have z0_l := (Array.getElem?_eq_some_iff.1 e_l).1
  have le_c : w.heap.size ≤ w.heap.size := by omega
  have le_s : w.heap.size ≤ W1.heap.size := by omega
  have le_l : w.heap.size ≤ W2.heap.size := by omega
  clear s_c b_c s_s b_s s_l b_l
  obtain ⟨q0_c_0, q0_c_1, q0_c_2, q0_c_3, q0_c_4, q0_c_5, q0_c_6, q0_c_7, q0_c_8, q0_c_9, q0_c_10⟩ := rc11 e_c
  replace e_c := Lib.hid e_c
  obtain ⟨q0_s_0, q0_s_1, q0_s_2, q0_s_3, q0_s_4, q0_s_5, q0_s_6, q0_s_7⟩ := rc8 e_s
  replace e_s := Lib.hid e_s
  obtain ⟨q0_l_0, q0_l_1, q0_l_2, q0_l_3⟩ := rc4 e_l
  replace e_l := Lib.hid e_l
  have hgw0 := grow_cell W
  have hK := Lib.hid (fun w => progKnown w)
  have kRC := Lib.hid (fun w => (refCavern c w).mono fun e w' hb => BoolB.lit hb hc)
  have kRS := Lib.hid (fun w => (refState s w).mono fun e w' hb => BoolB.lit hb hs)
  have kR := Lib.hid (fun w => progRoom1 c s l w hc hs); have kW := Lib.hid (fun w => progWorking1 c s u w hc hs); have kG := Lib.hid (fun w => progPurge1 c s l w hc hs)
  replace hc := Lib.hid hc; replace hs := Lib.hid hs
  go_enter Try.func15, Try.ntmps15
  go_wp2_with (first | (go_at_call 45; (with_reducible refine Calls.mono (kR.out _) ?_); rintro e w1 ⟨rfl, hB⟩; (first | (obtain ⟨g, rfl⟩ := g.next hB) | (obtain ⟨g, rfl⟩ : ∃ g : Grow W, w1 = g.x := ⟨⟨w1, hB⟩, rfl⟩)); clear hB) | (go_at_call 46; (with_reducible refine Calls.mono (kW.out _) ?_); rintro e w1 ⟨rfl, hB⟩; (first | (obtain ⟨g, rfl⟩ := g.next hB) | (obtain ⟨g, rfl⟩ : ∃ g : Grow W, w1 = g.x := ⟨⟨w1, hB⟩, rfl⟩)); clear hB) | (go_at_call 35; (with_reducible refine Calls.mono (kG.out _) ?_); rintro e w1 ⟨rfl, hB⟩; (first | (obtain ⟨g, rfl⟩ := g.next hB) | (obtain ⟨g, rfl⟩ : ∃ g : Grow W, w1 = g.x := ⟨⟨w1, hB⟩, rfl⟩)); clear hB) | (go_at_call 17; (with_reducible refine Calls.mono (kRC.out _) ?_); rintro e w1 ⟨rfl, hB⟩; (first | (obtain ⟨g, rfl⟩ := g.next hB) | (obtain ⟨g, rfl⟩ : ∃ g : Grow W, w1 = g.x := ⟨⟨w1, hB⟩, rfl⟩)); clear hB) | (go_at_call 18; (with_reducible refine Calls.mono (kRS.out _) ?_); rintro e w1 ⟨rfl, hB⟩; (first | (obtain ⟨g, rfl⟩ := g.next hB) | (obtain ⟨g, rfl⟩ : ∃ g : Grow W, w1 = g.x := ⟨⟨w1, hB⟩, rfl⟩)); clear hB) | (go_at_call 20; (with_reducible refine Calls.mono (hK.out _) ?_); rintro e w1 ⟨rfl, hB⟩; (first | (obtain ⟨g, rfl⟩ := g.next hB) | (obtain ⟨g, rfl⟩ : ∃ g : Grow W, w1 = g.x := ⟨⟨w1, hB⟩, rfl⟩)); clear hB))
  go_ret
  exact ⟨rfl, B0.trans (g.h.mono B0.size)⟩

set_option maxRecDepth 100000 in
set_option maxHeartbeats 16000000 in
theorem lawRms_low_bad (c : Cav) (s : St) (l : Pt) (u : Int) (w : World) (hc : c.ok = true) (hs : s.ok = true) (hu : u < 1) (hl : l.ok = false) :
    Calls Try.prog 15 #[cavV c, stV s, ptV l, .int .i64 u] w fun e w' => e = .returned (.bool true) ∧ Below w.heap.size w w' := by
  obtain ⟨W1, hW1⟩ : ∃ W1, w.alloc (.cells #[.int .i64 c.vlo, .int .i64 c.vhi, .int .i64 c.least, .int .i64 c.most, .int .i64 c.f0, .int .i64 c.f1, .int .i64 c.h0, .int .i64 c.h1, .int .i64 c.rock, .int .i64 c.plo, .int .i64 c.phi] 26) = W1 := ⟨_, rfl⟩
  obtain ⟨e_c, b_c, s_c⟩ := boxed hW1
  obtain ⟨W2, hW2⟩ : ∃ W2, W1.alloc (.cells #[.int .i64 s.glo, .int .i64 s.ghi, .int .i64 s.ylo, .int .i64 s.yhi, .int .i64 s.tlo, .int .i64 s.thi, .int .i64 s.wlo, .int .i64 s.whi] 28) = W2 := ⟨_, rfl⟩
  obtain ⟨e_s, b_s, s_s⟩ := boxed hW2
  replace e_c := (b_s.block _ (Array.getElem?_eq_some_iff.1 e_c).1).trans e_c
  obtain ⟨W, hW⟩ : ∃ W, W2.alloc (.cells #[.int .i64 l.g, .int .i64 l.y, .int .i64 l.t, .int .i64 l.w] 31) = W := ⟨_, rfl⟩
  obtain ⟨e_l, b_l, s_l⟩ := boxed hW
  replace e_c := (b_l.block _ (Array.getElem?_eq_some_iff.1 e_c).1).trans e_c
  replace e_s := (b_l.block _ (Array.getElem?_eq_some_iff.1 e_s).1).trans e_s
  have B0 : Below w.heap.size w W := ((b_c.trans (b_s.mono (by omega))).trans (b_l.mono (by omega)))
  have z0_c := (Array.getElem?_eq_some_iff.1 e_c).1
  have z0_s := (Array.getElem?_eq_some_iff.1 e_s).1
  have z0_l := (Array.getElem?_eq_some_iff.1 e_l).1
  have le_c : w.heap.size ≤ w.heap.size := by omega
  have le_s : w.heap.size ≤ W1.heap.size := by omega
  have le_l : w.heap.size ≤ W2.heap.size := by omega
  clear s_c b_c s_s b_s s_l b_l
  obtain ⟨q0_c_0, q0_c_1, q0_c_2, q0_c_3, q0_c_4, q0_c_5, q0_c_6, q0_c_7, q0_c_8, q0_c_9, q0_c_10⟩ := rc11 e_c
  replace e_c := Lib.hid e_c
  obtain ⟨q0_s_0, q0_s_1, q0_s_2, q0_s_3, q0_s_4, q0_s_5, q0_s_6, q0_s_7⟩ := rc8 e_s
  replace e_s := Lib.hid e_s
  obtain ⟨q0_l_0, q0_l_1, q0_l_2, q0_l_3⟩ := rc4 e_l
  replace e_l := Lib.hid e_l
  have hgw0 := grow_cell W
  have hK := Lib.hid (fun w => progKnown w)
  have kRC := Lib.hid (fun w => (refCavern c w).mono fun e w' hb => BoolB.lit hb hc)
  have kRS := Lib.hid (fun w => (refState s w).mono fun e w' hb => BoolB.lit hb hs)
  have hck := Cav.ok_iff.1 hc; have hsk := St.ok_iff.1 hs
  have hin : inB u 1 1000000 = false := by
    cases h : inB u 1 1000000
    · rfl
    · have := inB_iff.1 h; omega
  have kW := Lib.hid (fun w => progWorking2 c s u w hc hs hin)
  have kR := Lib.hid (fun w => progRoom2 c s l w hc hs hl); have kG := Lib.hid (fun w => progPurge2 c s l w hc hs hl)
  have kRP := Lib.hid (fun w => (refPoint l w).mono fun e w' hb => BoolB.lit hb hl)
  clear hck hsk
  replace hc := Lib.hid hc; replace hs := Lib.hid hs; replace hl := Lib.hid hl
  go_enter Try.func15, Try.ntmps15
  go_wp2_with (first | (go_at_call 45; (with_reducible refine Calls.mono (kR.out _) ?_); rintro e w1 ⟨rfl, hB⟩; (first | (obtain ⟨g, rfl⟩ := g.next hB) | (obtain ⟨g, rfl⟩ : ∃ g : Grow W, w1 = g.x := ⟨⟨w1, hB⟩, rfl⟩)); clear hB) | (go_at_call 46; (with_reducible refine Calls.mono (kW.out _) ?_); rintro e w1 ⟨rfl, hB⟩; (first | (obtain ⟨g, rfl⟩ := g.next hB) | (obtain ⟨g, rfl⟩ : ∃ g : Grow W, w1 = g.x := ⟨⟨w1, hB⟩, rfl⟩)); clear hB) | (go_at_call 35; (with_reducible refine Calls.mono (kG.out _) ?_); rintro e w1 ⟨rfl, hB⟩; (first | (obtain ⟨g, rfl⟩ := g.next hB) | (obtain ⟨g, rfl⟩ : ∃ g : Grow W, w1 = g.x := ⟨⟨w1, hB⟩, rfl⟩)); clear hB) | (go_at_call 17; (with_reducible refine Calls.mono (kRC.out _) ?_); rintro e w1 ⟨rfl, hB⟩; (first | (obtain ⟨g, rfl⟩ := g.next hB) | (obtain ⟨g, rfl⟩ : ∃ g : Grow W, w1 = g.x := ⟨⟨w1, hB⟩, rfl⟩)); clear hB) | (go_at_call 18; (with_reducible refine Calls.mono (kRS.out _) ?_); rintro e w1 ⟨rfl, hB⟩; (first | (obtain ⟨g, rfl⟩ := g.next hB) | (obtain ⟨g, rfl⟩ : ∃ g : Grow W, w1 = g.x := ⟨⟨w1, hB⟩, rfl⟩)); clear hB) | (go_at_call 25; (with_reducible refine Calls.mono (kRP.out _) ?_); rintro e w1 ⟨rfl, hB⟩; (first | (obtain ⟨g, rfl⟩ := g.next hB) | (obtain ⟨g, rfl⟩ : ∃ g : Grow W, w1 = g.x := ⟨⟨w1, hB⟩, rfl⟩)); clear hB) | (go_at_call 20; (with_reducible refine Calls.mono (hK.out _) ?_); rintro e w1 ⟨rfl, hB⟩; (first | (obtain ⟨g, rfl⟩ := g.next hB) | (obtain ⟨g, rfl⟩ : ∃ g : Grow W, w1 = g.x := ⟨⟨w1, hB⟩, rfl⟩)); clear hB))
  go_ret
  exact ⟨rfl, B0.trans (g.h.mono B0.size)⟩

set_option maxRecDepth 100000 in
set_option maxHeartbeats 16000000 in
theorem lawRms_low_none (c : Cav) (s : St) (l : Pt) (u : Int) (w : World) (hc : c.ok = true) (hs : s.ok = true) (hu : u < 1) (hl : l.ok = true) (hpu : purgeOf (fun n : Nat => pureOp c s (lotsOp l (n : Int))) = none) :
    Calls Try.prog 15 #[cavV c, stV s, ptV l, .int .i64 u] w fun e w' => e = .returned (.bool true) ∧ Below w.heap.size w w' := by
  obtain ⟨W1, hW1⟩ : ∃ W1, w.alloc (.cells #[.int .i64 c.vlo, .int .i64 c.vhi, .int .i64 c.least, .int .i64 c.most, .int .i64 c.f0, .int .i64 c.f1, .int .i64 c.h0, .int .i64 c.h1, .int .i64 c.rock, .int .i64 c.plo, .int .i64 c.phi] 26) = W1 := ⟨_, rfl⟩
  obtain ⟨e_c, b_c, s_c⟩ := boxed hW1
  obtain ⟨W2, hW2⟩ : ∃ W2, W1.alloc (.cells #[.int .i64 s.glo, .int .i64 s.ghi, .int .i64 s.ylo, .int .i64 s.yhi, .int .i64 s.tlo, .int .i64 s.thi, .int .i64 s.wlo, .int .i64 s.whi] 28) = W2 := ⟨_, rfl⟩
  obtain ⟨e_s, b_s, s_s⟩ := boxed hW2
  replace e_c := (b_s.block _ (Array.getElem?_eq_some_iff.1 e_c).1).trans e_c
  obtain ⟨W, hW⟩ : ∃ W, W2.alloc (.cells #[.int .i64 l.g, .int .i64 l.y, .int .i64 l.t, .int .i64 l.w] 31) = W := ⟨_, rfl⟩
  obtain ⟨e_l, b_l, s_l⟩ := boxed hW
  replace e_c := (b_l.block _ (Array.getElem?_eq_some_iff.1 e_c).1).trans e_c
  replace e_s := (b_l.block _ (Array.getElem?_eq_some_iff.1 e_s).1).trans e_s
  have B0 : Below w.heap.size w W := ((b_c.trans (b_s.mono (by omega))).trans (b_l.mono (by omega)))
  have z0_c := (Array.getElem?_eq_some_iff.1 e_c).1
  have z0_s := (Array.getElem?_eq_some_iff.1 e_s).1
  have z0_l := (Array.getElem?_eq_some_iff.1 e_l).1
  have le_c : w.heap.size ≤ w.heap.size := by omega
  have le_s : w.heap.size ≤ W1.heap.size := by omega
  have le_l : w.heap.size ≤ W2.heap.size := by omega
  clear s_c b_c s_s b_s s_l b_l
  obtain ⟨q0_c_0, q0_c_1, q0_c_2, q0_c_3, q0_c_4, q0_c_5, q0_c_6, q0_c_7, q0_c_8, q0_c_9, q0_c_10⟩ := rc11 e_c
  replace e_c := Lib.hid e_c
  obtain ⟨q0_s_0, q0_s_1, q0_s_2, q0_s_3, q0_s_4, q0_s_5, q0_s_6, q0_s_7⟩ := rc8 e_s
  replace e_s := Lib.hid e_s
  obtain ⟨q0_l_0, q0_l_1, q0_l_2, q0_l_3⟩ := rc4 e_l
  replace e_l := Lib.hid e_l
  have hgw0 := grow_cell W
  have hK := Lib.hid (fun w => progKnown w)
  have kRC := Lib.hid (fun w => (refCavern c w).mono fun e w' hb => BoolB.lit hb hc)
  have kRS := Lib.hid (fun w => (refState s w).mono fun e w' hb => BoolB.lit hb hs)
  have hck := Cav.ok_iff.1 hc; have hsk := St.ok_iff.1 hs
  have hin : inB u 1 1000000 = false := by
    cases h : inB u 1 1000000
    · rfl
    · have := inB_iff.1 h; omega
  have kW := Lib.hid (fun w => progWorking2 c s u w hc hs hin)
  have hlk := Pt.ok_iff.1 hl
  have kR := Lib.hid (fun w => progRoom3 c s l w hc hs hl); have kG := Lib.hid (fun w => progPurge3 c s l w hc hs hl)
  have kRR := Lib.hid (fun w => refRoom c s l w hck hsk hlk); have kRG := Lib.hid (fun w => refPurge c s l w hck hsk hlk)
  generalize roomOf (fun n : Nat => fineOp c s (lotsOp l (n : Int))) = R at *
  have hR1 : purgeRes (fun n : Nat => pureOp c s (lotsOp l (n : Int))) = (0, 5) := by unfold purgeRes; rw [hpu]
  have hR2 : purgeI (fun n : Nat => pureOp c s (lotsOp l (n : Int))) = -1 := by unfold purgeI; rw [hpu]
  rw [hR1] at kG
  rw [hR2] at kRG
  clear hR1 hR2 hpu hlk
  have kRP := Lib.hid (fun w => (refPoint l w).mono fun e w' hb => BoolB.lit hb hl)
  clear hck hsk
  replace hc := Lib.hid hc; replace hs := Lib.hid hs; replace hl := Lib.hid hl
  go_enter Try.func15, Try.ntmps15
  go_wp2_with (first | (go_at_call 45; (with_reducible refine Calls.mono (kR.out _) ?_); rintro e w1 ⟨rfl, hB⟩; (first | (obtain ⟨g, rfl⟩ := g.next hB) | (obtain ⟨g, rfl⟩ : ∃ g : Grow W, w1 = g.x := ⟨⟨w1, hB⟩, rfl⟩)); clear hB) | (go_at_call 46; (with_reducible refine Calls.mono (kW.out _) ?_); rintro e w1 ⟨rfl, hB⟩; (first | (obtain ⟨g, rfl⟩ := g.next hB) | (obtain ⟨g, rfl⟩ : ∃ g : Grow W, w1 = g.x := ⟨⟨w1, hB⟩, rfl⟩)); clear hB) | (go_at_call 35; (with_reducible refine Calls.mono (kG.out _) ?_); rintro e w1 ⟨rfl, hB⟩; (first | (obtain ⟨g, rfl⟩ := g.next hB) | (obtain ⟨g, rfl⟩ : ∃ g : Grow W, w1 = g.x := ⟨⟨w1, hB⟩, rfl⟩)); clear hB) | (go_at_call 17; (with_reducible refine Calls.mono (kRC.out _) ?_); rintro e w1 ⟨rfl, hB⟩; (first | (obtain ⟨g, rfl⟩ := g.next hB) | (obtain ⟨g, rfl⟩ : ∃ g : Grow W, w1 = g.x := ⟨⟨w1, hB⟩, rfl⟩)); clear hB) | (go_at_call 18; (with_reducible refine Calls.mono (kRS.out _) ?_); rintro e w1 ⟨rfl, hB⟩; (first | (obtain ⟨g, rfl⟩ := g.next hB) | (obtain ⟨g, rfl⟩ : ∃ g : Grow W, w1 = g.x := ⟨⟨w1, hB⟩, rfl⟩)); clear hB) | (go_at_call 25; (with_reducible refine Calls.mono (kRP.out _) ?_); rintro e w1 ⟨rfl, hB⟩; (first | (obtain ⟨g, rfl⟩ := g.next hB) | (obtain ⟨g, rfl⟩ : ∃ g : Grow W, w1 = g.x := ⟨⟨w1, hB⟩, rfl⟩)); clear hB) | (go_at_call 51; (with_reducible refine Calls.mono (kRR.out _) ?_); rintro e w1 ⟨rfl, hB⟩; (first | (obtain ⟨g, rfl⟩ := g.next hB) | (obtain ⟨g, rfl⟩ : ∃ g : Grow W, w1 = g.x := ⟨⟨w1, hB⟩, rfl⟩)); clear hB) | (go_at_call 52; (with_reducible refine Calls.mono (kRG.out _) ?_); rintro e w1 ⟨rfl, hB⟩; (first | (obtain ⟨g, rfl⟩ := g.next hB) | (obtain ⟨g, rfl⟩ : ∃ g : Grow W, w1 = g.x := ⟨⟨w1, hB⟩, rfl⟩)); clear hB) | (go_at_call 20; (with_reducible refine Calls.mono (hK.out _) ?_); rintro e w1 ⟨rfl, hB⟩; (first | (obtain ⟨g, rfl⟩ := g.next hB) | (obtain ⟨g, rfl⟩ : ∃ g : Grow W, w1 = g.x := ⟨⟨w1, hB⟩, rfl⟩)); clear hB))
  go_ret
  exact ⟨rfl, B0.trans (g.h.mono B0.size)⟩

set_option maxRecDepth 100000 in
set_option maxHeartbeats 16000000 in
theorem lawRms_low_some (c : Cav) (s : St) (l : Pt) (u : Int) (w : World) (hc : c.ok = true) (hs : s.ok = true) (hu : u < 1) (hl : l.ok = true) {k : Nat} (hpu : purgeOf (fun n : Nat => pureOp c s (lotsOp l (n : Int))) = some k) :
    Calls Try.prog 15 #[cavV c, stV s, ptV l, .int .i64 u] w fun e w' => e = .returned (.bool true) ∧ Below w.heap.size w w' := by
  obtain ⟨W1, hW1⟩ : ∃ W1, w.alloc (.cells #[.int .i64 c.vlo, .int .i64 c.vhi, .int .i64 c.least, .int .i64 c.most, .int .i64 c.f0, .int .i64 c.f1, .int .i64 c.h0, .int .i64 c.h1, .int .i64 c.rock, .int .i64 c.plo, .int .i64 c.phi] 26) = W1 := ⟨_, rfl⟩
  obtain ⟨e_c, b_c, s_c⟩ := boxed hW1
  obtain ⟨W2, hW2⟩ : ∃ W2, W1.alloc (.cells #[.int .i64 s.glo, .int .i64 s.ghi, .int .i64 s.ylo, .int .i64 s.yhi, .int .i64 s.tlo, .int .i64 s.thi, .int .i64 s.wlo, .int .i64 s.whi] 28) = W2 := ⟨_, rfl⟩
  obtain ⟨e_s, b_s, s_s⟩ := boxed hW2
  replace e_c := (b_s.block _ (Array.getElem?_eq_some_iff.1 e_c).1).trans e_c
  obtain ⟨W, hW⟩ : ∃ W, W2.alloc (.cells #[.int .i64 l.g, .int .i64 l.y, .int .i64 l.t, .int .i64 l.w] 31) = W := ⟨_, rfl⟩
  obtain ⟨e_l, b_l, s_l⟩ := boxed hW
  replace e_c := (b_l.block _ (Array.getElem?_eq_some_iff.1 e_c).1).trans e_c
  replace e_s := (b_l.block _ (Array.getElem?_eq_some_iff.1 e_s).1).trans e_s
  have B0 : Below w.heap.size w W := ((b_c.trans (b_s.mono (by omega))).trans (b_l.mono (by omega)))
  have z0_c := (Array.getElem?_eq_some_iff.1 e_c).1
  have z0_s := (Array.getElem?_eq_some_iff.1 e_s).1
  have z0_l := (Array.getElem?_eq_some_iff.1 e_l).1
  have le_c : w.heap.size ≤ w.heap.size := by omega
  have le_s : w.heap.size ≤ W1.heap.size := by omega
  have le_l : w.heap.size ≤ W2.heap.size := by omega
  clear s_c b_c s_s b_s s_l b_l
  obtain ⟨q0_c_0, q0_c_1, q0_c_2, q0_c_3, q0_c_4, q0_c_5, q0_c_6, q0_c_7, q0_c_8, q0_c_9, q0_c_10⟩ := rc11 e_c
  replace e_c := Lib.hid e_c
  obtain ⟨q0_s_0, q0_s_1, q0_s_2, q0_s_3, q0_s_4, q0_s_5, q0_s_6, q0_s_7⟩ := rc8 e_s
  replace e_s := Lib.hid e_s
  obtain ⟨q0_l_0, q0_l_1, q0_l_2, q0_l_3⟩ := rc4 e_l
  replace e_l := Lib.hid e_l
  have hgw0 := grow_cell W
  have hK := Lib.hid (fun w => progKnown w)
  have kRC := Lib.hid (fun w => (refCavern c w).mono fun e w' hb => BoolB.lit hb hc)
  have kRS := Lib.hid (fun w => (refState s w).mono fun e w' hb => BoolB.lit hb hs)
  have hck := Cav.ok_iff.1 hc; have hsk := St.ok_iff.1 hs
  have hin : inB u 1 1000000 = false := by
    cases h : inB u 1 1000000
    · rfl
    · have := inB_iff.1 h; omega
  have kW := Lib.hid (fun w => progWorking2 c s u w hc hs hin)
  have hlk := Pt.ok_iff.1 hl
  have kR := Lib.hid (fun w => progRoom3 c s l w hc hs hl); have kG := Lib.hid (fun w => progPurge3 c s l w hc hs hl)
  have kRR := Lib.hid (fun w => refRoom c s l w hck hsk hlk); have kRG := Lib.hid (fun w => refPurge c s l w hck hsk hlk)
  generalize roomOf (fun n : Nat => fineOp c s (lotsOp l (n : Int))) = R at *
  have hR1 : purgeRes (fun n : Nat => pureOp c s (lotsOp l (n : Int))) = ((k : Int), 0) := by unfold purgeRes; rw [hpu]
  have hR2 : purgeI (fun n : Nat => pureOp c s (lotsOp l (n : Int))) = (k : Int) := by unfold purgeI; rw [hpu]
  rw [hR1] at kG
  rw [hR2] at kRG
  clear hR1 hR2 hpu hlk
  have hkn : ¬ (k : Int) < 0 := by omega
  have kRP := Lib.hid (fun w => (refPoint l w).mono fun e w' hb => BoolB.lit hb hl)
  clear hck hsk
  replace hc := Lib.hid hc; replace hs := Lib.hid hs; replace hl := Lib.hid hl
  go_enter Try.func15, Try.ntmps15
  go_wp2_with (first | (go_at_call 45; (with_reducible refine Calls.mono (kR.out _) ?_); rintro e w1 ⟨rfl, hB⟩; (first | (obtain ⟨g, rfl⟩ := g.next hB) | (obtain ⟨g, rfl⟩ : ∃ g : Grow W, w1 = g.x := ⟨⟨w1, hB⟩, rfl⟩)); clear hB) | (go_at_call 46; (with_reducible refine Calls.mono (kW.out _) ?_); rintro e w1 ⟨rfl, hB⟩; (first | (obtain ⟨g, rfl⟩ := g.next hB) | (obtain ⟨g, rfl⟩ : ∃ g : Grow W, w1 = g.x := ⟨⟨w1, hB⟩, rfl⟩)); clear hB) | (go_at_call 35; (with_reducible refine Calls.mono (kG.out _) ?_); rintro e w1 ⟨rfl, hB⟩; (first | (obtain ⟨g, rfl⟩ := g.next hB) | (obtain ⟨g, rfl⟩ : ∃ g : Grow W, w1 = g.x := ⟨⟨w1, hB⟩, rfl⟩)); clear hB) | (go_at_call 17; (with_reducible refine Calls.mono (kRC.out _) ?_); rintro e w1 ⟨rfl, hB⟩; (first | (obtain ⟨g, rfl⟩ := g.next hB) | (obtain ⟨g, rfl⟩ : ∃ g : Grow W, w1 = g.x := ⟨⟨w1, hB⟩, rfl⟩)); clear hB) | (go_at_call 18; (with_reducible refine Calls.mono (kRS.out _) ?_); rintro e w1 ⟨rfl, hB⟩; (first | (obtain ⟨g, rfl⟩ := g.next hB) | (obtain ⟨g, rfl⟩ : ∃ g : Grow W, w1 = g.x := ⟨⟨w1, hB⟩, rfl⟩)); clear hB) | (go_at_call 25; (with_reducible refine Calls.mono (kRP.out _) ?_); rintro e w1 ⟨rfl, hB⟩; (first | (obtain ⟨g, rfl⟩ := g.next hB) | (obtain ⟨g, rfl⟩ : ∃ g : Grow W, w1 = g.x := ⟨⟨w1, hB⟩, rfl⟩)); clear hB) | (go_at_call 51; (with_reducible refine Calls.mono (kRR.out _) ?_); rintro e w1 ⟨rfl, hB⟩; (first | (obtain ⟨g, rfl⟩ := g.next hB) | (obtain ⟨g, rfl⟩ : ∃ g : Grow W, w1 = g.x := ⟨⟨w1, hB⟩, rfl⟩)); clear hB) | (go_at_call 52; (with_reducible refine Calls.mono (kRG.out _) ?_); rintro e w1 ⟨rfl, hB⟩; (first | (obtain ⟨g, rfl⟩ := g.next hB) | (obtain ⟨g, rfl⟩ : ∃ g : Grow W, w1 = g.x := ⟨⟨w1, hB⟩, rfl⟩)); clear hB) | (go_at_call 20; (with_reducible refine Calls.mono (hK.out _) ?_); rintro e w1 ⟨rfl, hB⟩; (first | (obtain ⟨g, rfl⟩ := g.next hB) | (obtain ⟨g, rfl⟩ : ∃ g : Grow W, w1 = g.x := ⟨⟨w1, hB⟩, rfl⟩)); clear hB))
  go_ret
  exact ⟨rfl, B0.trans (g.h.mono B0.size)⟩

set_option maxRecDepth 100000 in
set_option maxHeartbeats 16000000 in
theorem lawRms_high_bad (c : Cav) (s : St) (l : Pt) (u : Int) (w : World) (hc : c.ok = true) (hs : s.ok = true) (hu : 1000000 < u) (hl : l.ok = false) :
    Calls Try.prog 15 #[cavV c, stV s, ptV l, .int .i64 u] w fun e w' => e = .returned (.bool true) ∧ Below w.heap.size w w' := by
  obtain ⟨W1, hW1⟩ : ∃ W1, w.alloc (.cells #[.int .i64 c.vlo, .int .i64 c.vhi, .int .i64 c.least, .int .i64 c.most, .int .i64 c.f0, .int .i64 c.f1, .int .i64 c.h0, .int .i64 c.h1, .int .i64 c.rock, .int .i64 c.plo, .int .i64 c.phi] 26) = W1 := ⟨_, rfl⟩
  obtain ⟨e_c, b_c, s_c⟩ := boxed hW1
  obtain ⟨W2, hW2⟩ : ∃ W2, W1.alloc (.cells #[.int .i64 s.glo, .int .i64 s.ghi, .int .i64 s.ylo, .int .i64 s.yhi, .int .i64 s.tlo, .int .i64 s.thi, .int .i64 s.wlo, .int .i64 s.whi] 28) = W2 := ⟨_, rfl⟩
  obtain ⟨e_s, b_s, s_s⟩ := boxed hW2
  replace e_c := (b_s.block _ (Array.getElem?_eq_some_iff.1 e_c).1).trans e_c
  obtain ⟨W, hW⟩ : ∃ W, W2.alloc (.cells #[.int .i64 l.g, .int .i64 l.y, .int .i64 l.t, .int .i64 l.w] 31) = W := ⟨_, rfl⟩
  obtain ⟨e_l, b_l, s_l⟩ := boxed hW
  replace e_c := (b_l.block _ (Array.getElem?_eq_some_iff.1 e_c).1).trans e_c
  replace e_s := (b_l.block _ (Array.getElem?_eq_some_iff.1 e_s).1).trans e_s
  have B0 : Below w.heap.size w W := ((b_c.trans (b_s.mono (by omega))).trans (b_l.mono (by omega)))
  have z0_c := (Array.getElem?_eq_some_iff.1 e_c).1
  have z0_s := (Array.getElem?_eq_some_iff.1 e_s).1
  have z0_l := (Array.getElem?_eq_some_iff.1 e_l).1
  have le_c : w.heap.size ≤ w.heap.size := by omega
  have le_s : w.heap.size ≤ W1.heap.size := by omega
  have le_l : w.heap.size ≤ W2.heap.size := by omega
  clear s_c b_c s_s b_s s_l b_l
  obtain ⟨q0_c_0, q0_c_1, q0_c_2, q0_c_3, q0_c_4, q0_c_5, q0_c_6, q0_c_7, q0_c_8, q0_c_9, q0_c_10⟩ := rc11 e_c
  replace e_c := Lib.hid e_c
  obtain ⟨q0_s_0, q0_s_1, q0_s_2, q0_s_3, q0_s_4, q0_s_5, q0_s_6, q0_s_7⟩ := rc8 e_s
  replace e_s := Lib.hid e_s
  obtain ⟨q0_l_0, q0_l_1, q0_l_2, q0_l_3⟩ := rc4 e_l
  replace e_l := Lib.hid e_l
  have hgw0 := grow_cell W
  have hK := Lib.hid (fun w => progKnown w)
  have kRC := Lib.hid (fun w => (refCavern c w).mono fun e w' hb => BoolB.lit hb hc)
  have kRS := Lib.hid (fun w => (refState s w).mono fun e w' hb => BoolB.lit hb hs)
  have hck := Cav.ok_iff.1 hc; have hsk := St.ok_iff.1 hs
  have hin : inB u 1 1000000 = false := by
    cases h : inB u 1 1000000
    · rfl
    · have := inB_iff.1 h; omega
  have kW := Lib.hid (fun w => progWorking2 c s u w hc hs hin)
  have hu1 : ¬ u < 1 := by omega
  have kR := Lib.hid (fun w => progRoom2 c s l w hc hs hl); have kG := Lib.hid (fun w => progPurge2 c s l w hc hs hl)
  have kRP := Lib.hid (fun w => (refPoint l w).mono fun e w' hb => BoolB.lit hb hl)
  clear hck hsk
  replace hc := Lib.hid hc; replace hs := Lib.hid hs; replace hl := Lib.hid hl
  go_enter Try.func15, Try.ntmps15
  go_wp2_with (first | (go_at_call 45; (with_reducible refine Calls.mono (kR.out _) ?_); rintro e w1 ⟨rfl, hB⟩; (first | (obtain ⟨g, rfl⟩ := g.next hB) | (obtain ⟨g, rfl⟩ : ∃ g : Grow W, w1 = g.x := ⟨⟨w1, hB⟩, rfl⟩)); clear hB) | (go_at_call 46; (with_reducible refine Calls.mono (kW.out _) ?_); rintro e w1 ⟨rfl, hB⟩; (first | (obtain ⟨g, rfl⟩ := g.next hB) | (obtain ⟨g, rfl⟩ : ∃ g : Grow W, w1 = g.x := ⟨⟨w1, hB⟩, rfl⟩)); clear hB) | (go_at_call 35; (with_reducible refine Calls.mono (kG.out _) ?_); rintro e w1 ⟨rfl, hB⟩; (first | (obtain ⟨g, rfl⟩ := g.next hB) | (obtain ⟨g, rfl⟩ : ∃ g : Grow W, w1 = g.x := ⟨⟨w1, hB⟩, rfl⟩)); clear hB) | (go_at_call 17; (with_reducible refine Calls.mono (kRC.out _) ?_); rintro e w1 ⟨rfl, hB⟩; (first | (obtain ⟨g, rfl⟩ := g.next hB) | (obtain ⟨g, rfl⟩ : ∃ g : Grow W, w1 = g.x := ⟨⟨w1, hB⟩, rfl⟩)); clear hB) | (go_at_call 18; (with_reducible refine Calls.mono (kRS.out _) ?_); rintro e w1 ⟨rfl, hB⟩; (first | (obtain ⟨g, rfl⟩ := g.next hB) | (obtain ⟨g, rfl⟩ : ∃ g : Grow W, w1 = g.x := ⟨⟨w1, hB⟩, rfl⟩)); clear hB) | (go_at_call 25; (with_reducible refine Calls.mono (kRP.out _) ?_); rintro e w1 ⟨rfl, hB⟩; (first | (obtain ⟨g, rfl⟩ := g.next hB) | (obtain ⟨g, rfl⟩ : ∃ g : Grow W, w1 = g.x := ⟨⟨w1, hB⟩, rfl⟩)); clear hB) | (go_at_call 20; (with_reducible refine Calls.mono (hK.out _) ?_); rintro e w1 ⟨rfl, hB⟩; (first | (obtain ⟨g, rfl⟩ := g.next hB) | (obtain ⟨g, rfl⟩ : ∃ g : Grow W, w1 = g.x := ⟨⟨w1, hB⟩, rfl⟩)); clear hB))
  go_ret
  exact ⟨rfl, B0.trans (g.h.mono B0.size)⟩

set_option maxRecDepth 100000 in
set_option maxHeartbeats 16000000 in
theorem lawRms_high_none (c : Cav) (s : St) (l : Pt) (u : Int) (w : World) (hc : c.ok = true) (hs : s.ok = true) (hu : 1000000 < u) (hl : l.ok = true) (hpu : purgeOf (fun n : Nat => pureOp c s (lotsOp l (n : Int))) = none) :
    Calls Try.prog 15 #[cavV c, stV s, ptV l, .int .i64 u] w fun e w' => e = .returned (.bool true) ∧ Below w.heap.size w w' := by
  obtain ⟨W1, hW1⟩ : ∃ W1, w.alloc (.cells #[.int .i64 c.vlo, .int .i64 c.vhi, .int .i64 c.least, .int .i64 c.most, .int .i64 c.f0, .int .i64 c.f1, .int .i64 c.h0, .int .i64 c.h1, .int .i64 c.rock, .int .i64 c.plo, .int .i64 c.phi] 26) = W1 := ⟨_, rfl⟩
  obtain ⟨e_c, b_c, s_c⟩ := boxed hW1
  obtain ⟨W2, hW2⟩ : ∃ W2, W1.alloc (.cells #[.int .i64 s.glo, .int .i64 s.ghi, .int .i64 s.ylo, .int .i64 s.yhi, .int .i64 s.tlo, .int .i64 s.thi, .int .i64 s.wlo, .int .i64 s.whi] 28) = W2 := ⟨_, rfl⟩
  obtain ⟨e_s, b_s, s_s⟩ := boxed hW2
  replace e_c := (b_s.block _ (Array.getElem?_eq_some_iff.1 e_c).1).trans e_c
  obtain ⟨W, hW⟩ : ∃ W, W2.alloc (.cells #[.int .i64 l.g, .int .i64 l.y, .int .i64 l.t, .int .i64 l.w] 31) = W := ⟨_, rfl⟩
  obtain ⟨e_l, b_l, s_l⟩ := boxed hW
  replace e_c := (b_l.block _ (Array.getElem?_eq_some_iff.1 e_c).1).trans e_c
  replace e_s := (b_l.block _ (Array.getElem?_eq_some_iff.1 e_s).1).trans e_s
  have B0 : Below w.heap.size w W := ((b_c.trans (b_s.mono (by omega))).trans (b_l.mono (by omega)))
  have z0_c := (Array.getElem?_eq_some_iff.1 e_c).1
  have z0_s := (Array.getElem?_eq_some_iff.1 e_s).1
  have z0_l := (Array.getElem?_eq_some_iff.1 e_l).1
  have le_c : w.heap.size ≤ w.heap.size := by omega
  have le_s : w.heap.size ≤ W1.heap.size := by omega
  have le_l : w.heap.size ≤ W2.heap.size := by omega
  clear s_c b_c s_s b_s s_l b_l
  obtain ⟨q0_c_0, q0_c_1, q0_c_2, q0_c_3, q0_c_4, q0_c_5, q0_c_6, q0_c_7, q0_c_8, q0_c_9, q0_c_10⟩ := rc11 e_c
  replace e_c := Lib.hid e_c
  obtain ⟨q0_s_0, q0_s_1, q0_s_2, q0_s_3, q0_s_4, q0_s_5, q0_s_6, q0_s_7⟩ := rc8 e_s
  replace e_s := Lib.hid e_s
  obtain ⟨q0_l_0, q0_l_1, q0_l_2, q0_l_3⟩ := rc4 e_l
  replace e_l := Lib.hid e_l
  have hgw0 := grow_cell W
  have hK := Lib.hid (fun w => progKnown w)
  have kRC := Lib.hid (fun w => (refCavern c w).mono fun e w' hb => BoolB.lit hb hc)
  have kRS := Lib.hid (fun w => (refState s w).mono fun e w' hb => BoolB.lit hb hs)
  have hck := Cav.ok_iff.1 hc; have hsk := St.ok_iff.1 hs
  have hin : inB u 1 1000000 = false := by
    cases h : inB u 1 1000000
    · rfl
    · have := inB_iff.1 h; omega
  have kW := Lib.hid (fun w => progWorking2 c s u w hc hs hin)
  have hu1 : ¬ u < 1 := by omega
  have hlk := Pt.ok_iff.1 hl
  have kR := Lib.hid (fun w => progRoom3 c s l w hc hs hl); have kG := Lib.hid (fun w => progPurge3 c s l w hc hs hl)
  have kRR := Lib.hid (fun w => refRoom c s l w hck hsk hlk); have kRG := Lib.hid (fun w => refPurge c s l w hck hsk hlk)
  generalize roomOf (fun n : Nat => fineOp c s (lotsOp l (n : Int))) = R at *
  have hR1 : purgeRes (fun n : Nat => pureOp c s (lotsOp l (n : Int))) = (0, 5) := by unfold purgeRes; rw [hpu]
  have hR2 : purgeI (fun n : Nat => pureOp c s (lotsOp l (n : Int))) = -1 := by unfold purgeI; rw [hpu]
  rw [hR1] at kG
  rw [hR2] at kRG
  clear hR1 hR2 hpu hlk
  have kRP := Lib.hid (fun w => (refPoint l w).mono fun e w' hb => BoolB.lit hb hl)
  clear hck hsk
  replace hc := Lib.hid hc; replace hs := Lib.hid hs; replace hl := Lib.hid hl
  go_enter Try.func15, Try.ntmps15
  go_wp2_with (first | (go_at_call 45; (with_reducible refine Calls.mono (kR.out _) ?_); rintro e w1 ⟨rfl, hB⟩; (first | (obtain ⟨g, rfl⟩ := g.next hB) | (obtain ⟨g, rfl⟩ : ∃ g : Grow W, w1 = g.x := ⟨⟨w1, hB⟩, rfl⟩)); clear hB) | (go_at_call 46; (with_reducible refine Calls.mono (kW.out _) ?_); rintro e w1 ⟨rfl, hB⟩; (first | (obtain ⟨g, rfl⟩ := g.next hB) | (obtain ⟨g, rfl⟩ : ∃ g : Grow W, w1 = g.x := ⟨⟨w1, hB⟩, rfl⟩)); clear hB) | (go_at_call 35; (with_reducible refine Calls.mono (kG.out _) ?_); rintro e w1 ⟨rfl, hB⟩; (first | (obtain ⟨g, rfl⟩ := g.next hB) | (obtain ⟨g, rfl⟩ : ∃ g : Grow W, w1 = g.x := ⟨⟨w1, hB⟩, rfl⟩)); clear hB) | (go_at_call 17; (with_reducible refine Calls.mono (kRC.out _) ?_); rintro e w1 ⟨rfl, hB⟩; (first | (obtain ⟨g, rfl⟩ := g.next hB) | (obtain ⟨g, rfl⟩ : ∃ g : Grow W, w1 = g.x := ⟨⟨w1, hB⟩, rfl⟩)); clear hB) | (go_at_call 18; (with_reducible refine Calls.mono (kRS.out _) ?_); rintro e w1 ⟨rfl, hB⟩; (first | (obtain ⟨g, rfl⟩ := g.next hB) | (obtain ⟨g, rfl⟩ : ∃ g : Grow W, w1 = g.x := ⟨⟨w1, hB⟩, rfl⟩)); clear hB) | (go_at_call 25; (with_reducible refine Calls.mono (kRP.out _) ?_); rintro e w1 ⟨rfl, hB⟩; (first | (obtain ⟨g, rfl⟩ := g.next hB) | (obtain ⟨g, rfl⟩ : ∃ g : Grow W, w1 = g.x := ⟨⟨w1, hB⟩, rfl⟩)); clear hB) | (go_at_call 51; (with_reducible refine Calls.mono (kRR.out _) ?_); rintro e w1 ⟨rfl, hB⟩; (first | (obtain ⟨g, rfl⟩ := g.next hB) | (obtain ⟨g, rfl⟩ : ∃ g : Grow W, w1 = g.x := ⟨⟨w1, hB⟩, rfl⟩)); clear hB) | (go_at_call 52; (with_reducible refine Calls.mono (kRG.out _) ?_); rintro e w1 ⟨rfl, hB⟩; (first | (obtain ⟨g, rfl⟩ := g.next hB) | (obtain ⟨g, rfl⟩ : ∃ g : Grow W, w1 = g.x := ⟨⟨w1, hB⟩, rfl⟩)); clear hB) | (go_at_call 20; (with_reducible refine Calls.mono (hK.out _) ?_); rintro e w1 ⟨rfl, hB⟩; (first | (obtain ⟨g, rfl⟩ := g.next hB) | (obtain ⟨g, rfl⟩ : ∃ g : Grow W, w1 = g.x := ⟨⟨w1, hB⟩, rfl⟩)); clear hB))
  go_ret
  exact ⟨rfl, B0.trans (g.h.mono B0.size)⟩

set_option maxRecDepth 100000 in
set_option maxHeartbeats 16000000 in
theorem lawRms_high_some (c : Cav) (s : St) (l : Pt) (u : Int) (w : World) (hc : c.ok = true) (hs : s.ok = true) (hu : 1000000 < u) (hl : l.ok = true) {k : Nat} (hpu : purgeOf (fun n : Nat => pureOp c s (lotsOp l (n : Int))) = some k) :
    Calls Try.prog 15 #[cavV c, stV s, ptV l, .int .i64 u] w fun e w' => e = .returned (.bool true) ∧ Below w.heap.size w w' := by
  obtain ⟨W1, hW1⟩ : ∃ W1, w.alloc (.cells #[.int .i64 c.vlo, .int .i64 c.vhi, .int .i64 c.least, .int .i64 c.most, .int .i64 c.f0, .int .i64 c.f1, .int .i64 c.h0, .int .i64 c.h1, .int .i64 c.rock, .int .i64 c.plo, .int .i64 c.phi] 26) = W1 := ⟨_, rfl⟩
  obtain ⟨e_c, b_c, s_c⟩ := boxed hW1
  obtain ⟨W2, hW2⟩ : ∃ W2, W1.alloc (.cells #[.int .i64 s.glo, .int .i64 s.ghi, .int .i64 s.ylo, .int .i64 s.yhi, .int .i64 s.tlo, .int .i64 s.thi, .int .i64 s.wlo, .int .i64 s.whi] 28) = W2 := ⟨_, rfl⟩
  obtain ⟨e_s, b_s, s_s⟩ := boxed hW2
  replace e_c := (b_s.block _ (Array.getElem?_eq_some_iff.1 e_c).1).trans e_c
  obtain ⟨W, hW⟩ : ∃ W, W2.alloc (.cells #[.int .i64 l.g, .int .i64 l.y, .int .i64 l.t, .int .i64 l.w] 31) = W := ⟨_, rfl⟩
  obtain ⟨e_l, b_l, s_l⟩ := boxed hW
  replace e_c := (b_l.block _ (Array.getElem?_eq_some_iff.1 e_c).1).trans e_c
  replace e_s := (b_l.block _ (Array.getElem?_eq_some_iff.1 e_s).1).trans e_s
  have B0 : Below w.heap.size w W := ((b_c.trans (b_s.mono (by omega))).trans (b_l.mono (by omega)))
  have z0_c := (Array.getElem?_eq_some_iff.1 e_c).1
  have z0_s := (Array.getElem?_eq_some_iff.1 e_s).1
  have z0_l := (Array.getElem?_eq_some_iff.1 e_l).1
  have le_c : w.heap.size ≤ w.heap.size := by omega
  have le_s : w.heap.size ≤ W1.heap.size := by omega
  have le_l : w.heap.size ≤ W2.heap.size := by omega
  clear s_c b_c s_s b_s s_l b_l
  obtain ⟨q0_c_0, q0_c_1, q0_c_2, q0_c_3, q0_c_4, q0_c_5, q0_c_6, q0_c_7, q0_c_8, q0_c_9, q0_c_10⟩ := rc11 e_c
  replace e_c := Lib.hid e_c
  obtain ⟨q0_s_0, q0_s_1, q0_s_2, q0_s_3, q0_s_4, q0_s_5, q0_s_6, q0_s_7⟩ := rc8 e_s
  replace e_s := Lib.hid e_s
  obtain ⟨q0_l_0, q0_l_1, q0_l_2, q0_l_3⟩ := rc4 e_l
  replace e_l := Lib.hid e_l
  have hgw0 := grow_cell W
  have hK := Lib.hid (fun w => progKnown w)
  have kRC := Lib.hid (fun w => (refCavern c w).mono fun e w' hb => BoolB.lit hb hc)
  have kRS := Lib.hid (fun w => (refState s w).mono fun e w' hb => BoolB.lit hb hs)
  have hck := Cav.ok_iff.1 hc; have hsk := St.ok_iff.1 hs
  have hin : inB u 1 1000000 = false := by
    cases h : inB u 1 1000000
    · rfl
    · have := inB_iff.1 h; omega
  have kW := Lib.hid (fun w => progWorking2 c s u w hc hs hin)
  have hu1 : ¬ u < 1 := by omega
  have hlk := Pt.ok_iff.1 hl
  have kR := Lib.hid (fun w => progRoom3 c s l w hc hs hl); have kG := Lib.hid (fun w => progPurge3 c s l w hc hs hl)
  have kRR := Lib.hid (fun w => refRoom c s l w hck hsk hlk); have kRG := Lib.hid (fun w => refPurge c s l w hck hsk hlk)
  generalize roomOf (fun n : Nat => fineOp c s (lotsOp l (n : Int))) = R at *
  have hR1 : purgeRes (fun n : Nat => pureOp c s (lotsOp l (n : Int))) = ((k : Int), 0) := by unfold purgeRes; rw [hpu]
  have hR2 : purgeI (fun n : Nat => pureOp c s (lotsOp l (n : Int))) = (k : Int) := by unfold purgeI; rw [hpu]
  rw [hR1] at kG
  rw [hR2] at kRG
  clear hR1 hR2 hpu hlk
  have hkn : ¬ (k : Int) < 0 := by omega
  have kRP := Lib.hid (fun w => (refPoint l w).mono fun e w' hb => BoolB.lit hb hl)
  clear hck hsk
  replace hc := Lib.hid hc; replace hs := Lib.hid hs; replace hl := Lib.hid hl
  go_enter Try.func15, Try.ntmps15
  go_wp2_with (first | (go_at_call 45; (with_reducible refine Calls.mono (kR.out _) ?_); rintro e w1 ⟨rfl, hB⟩; (first | (obtain ⟨g, rfl⟩ := g.next hB) | (obtain ⟨g, rfl⟩ : ∃ g : Grow W, w1 = g.x := ⟨⟨w1, hB⟩, rfl⟩)); clear hB) | (go_at_call 46; (with_reducible refine Calls.mono (kW.out _) ?_); rintro e w1 ⟨rfl, hB⟩; (first | (obtain ⟨g, rfl⟩ := g.next hB) | (obtain ⟨g, rfl⟩ : ∃ g : Grow W, w1 = g.x := ⟨⟨w1, hB⟩, rfl⟩)); clear hB) | (go_at_call 35; (with_reducible refine Calls.mono (kG.out _) ?_); rintro e w1 ⟨rfl, hB⟩; (first | (obtain ⟨g, rfl⟩ := g.next hB) | (obtain ⟨g, rfl⟩ : ∃ g : Grow W, w1 = g.x := ⟨⟨w1, hB⟩, rfl⟩)); clear hB) | (go_at_call 17; (with_reducible refine Calls.mono (kRC.out _) ?_); rintro e w1 ⟨rfl, hB⟩; (first | (obtain ⟨g, rfl⟩ := g.next hB) | (obtain ⟨g, rfl⟩ : ∃ g : Grow W, w1 = g.x := ⟨⟨w1, hB⟩, rfl⟩)); clear hB) | (go_at_call 18; (with_reducible refine Calls.mono (kRS.out _) ?_); rintro e w1 ⟨rfl, hB⟩; (first | (obtain ⟨g, rfl⟩ := g.next hB) | (obtain ⟨g, rfl⟩ : ∃ g : Grow W, w1 = g.x := ⟨⟨w1, hB⟩, rfl⟩)); clear hB) | (go_at_call 25; (with_reducible refine Calls.mono (kRP.out _) ?_); rintro e w1 ⟨rfl, hB⟩; (first | (obtain ⟨g, rfl⟩ := g.next hB) | (obtain ⟨g, rfl⟩ : ∃ g : Grow W, w1 = g.x := ⟨⟨w1, hB⟩, rfl⟩)); clear hB) | (go_at_call 51; (with_reducible refine Calls.mono (kRR.out _) ?_); rintro e w1 ⟨rfl, hB⟩; (first | (obtain ⟨g, rfl⟩ := g.next hB) | (obtain ⟨g, rfl⟩ : ∃ g : Grow W, w1 = g.x := ⟨⟨w1, hB⟩, rfl⟩)); clear hB) | (go_at_call 52; (with_reducible refine Calls.mono (kRG.out _) ?_); rintro e w1 ⟨rfl, hB⟩; (first | (obtain ⟨g, rfl⟩ := g.next hB) | (obtain ⟨g, rfl⟩ : ∃ g : Grow W, w1 = g.x := ⟨⟨w1, hB⟩, rfl⟩)); clear hB) | (go_at_call 20; (with_reducible refine Calls.mono (hK.out _) ?_); rintro e w1 ⟨rfl, hB⟩; (first | (obtain ⟨g, rfl⟩ := g.next hB) | (obtain ⟨g, rfl⟩ : ∃ g : Grow W, w1 = g.x := ⟨⟨w1, hB⟩, rfl⟩)); clear hB))
  go_ret
  exact ⟨rfl, B0.trans (g.h.mono B0.size)⟩

set_option maxRecDepth 100000 in
set_option maxHeartbeats 16000000 in
theorem lawRms_ok_bad (c : Cav) (s : St) (l : Pt) (u : Int) (w : World) (hc : c.ok = true) (hs : s.ok = true) (hu : 1 ≤ u ∧ u ≤ 1000000) (hl : l.ok = false) :
    Calls Try.prog 15 #[cavV c, stV s, ptV l, .int .i64 u] w fun e w' => e = .returned (.bool true) ∧ Below w.heap.size w w' := by
  obtain ⟨W1, hW1⟩ : ∃ W1, w.alloc (.cells #[.int .i64 c.vlo, .int .i64 c.vhi, .int .i64 c.least, .int .i64 c.most, .int .i64 c.f0, .int .i64 c.f1, .int .i64 c.h0, .int .i64 c.h1, .int .i64 c.rock, .int .i64 c.plo, .int .i64 c.phi] 26) = W1 := ⟨_, rfl⟩
  obtain ⟨e_c, b_c, s_c⟩ := boxed hW1
  obtain ⟨W2, hW2⟩ : ∃ W2, W1.alloc (.cells #[.int .i64 s.glo, .int .i64 s.ghi, .int .i64 s.ylo, .int .i64 s.yhi, .int .i64 s.tlo, .int .i64 s.thi, .int .i64 s.wlo, .int .i64 s.whi] 28) = W2 := ⟨_, rfl⟩
  obtain ⟨e_s, b_s, s_s⟩ := boxed hW2
  replace e_c := (b_s.block _ (Array.getElem?_eq_some_iff.1 e_c).1).trans e_c
  obtain ⟨W, hW⟩ : ∃ W, W2.alloc (.cells #[.int .i64 l.g, .int .i64 l.y, .int .i64 l.t, .int .i64 l.w] 31) = W := ⟨_, rfl⟩
  obtain ⟨e_l, b_l, s_l⟩ := boxed hW
  replace e_c := (b_l.block _ (Array.getElem?_eq_some_iff.1 e_c).1).trans e_c
  replace e_s := (b_l.block _ (Array.getElem?_eq_some_iff.1 e_s).1).trans e_s
  have B0 : Below w.heap.size w W := ((b_c.trans (b_s.mono (by omega))).trans (b_l.mono (by omega)))
  have z0_c := (Array.getElem?_eq_some_iff.1 e_c).1
  have z0_s := (Array.getElem?_eq_some_iff.1 e_s).1
  have z0_l := (Array.getElem?_eq_some_iff.1 e_l).1
  have le_c : w.heap.size ≤ w.heap.size := by omega
  have le_s : w.heap.size ≤ W1.heap.size := by omega
  have le_l : w.heap.size ≤ W2.heap.size := by omega
  clear s_c b_c s_s b_s s_l b_l
  obtain ⟨q0_c_0, q0_c_1, q0_c_2, q0_c_3, q0_c_4, q0_c_5, q0_c_6, q0_c_7, q0_c_8, q0_c_9, q0_c_10⟩ := rc11 e_c
  replace e_c := Lib.hid e_c
  obtain ⟨q0_s_0, q0_s_1, q0_s_2, q0_s_3, q0_s_4, q0_s_5, q0_s_6, q0_s_7⟩ := rc8 e_s
  replace e_s := Lib.hid e_s
  obtain ⟨q0_l_0, q0_l_1, q0_l_2, q0_l_3⟩ := rc4 e_l
  replace e_l := Lib.hid e_l
  have hgw0 := grow_cell W
  have hK := Lib.hid (fun w => progKnown w)
  have kRC := Lib.hid (fun w => (refCavern c w).mono fun e w' hb => BoolB.lit hb hc)
  have kRS := Lib.hid (fun w => (refState s w).mono fun e w' hb => BoolB.lit hb hs)
  have hck := Cav.ok_iff.1 hc; have hsk := St.ok_iff.1 hs
  have kW := Lib.hid (fun w => progWorking3 c s u w hc hs (inB_iff.2 hu)); have kRW := Lib.hid (fun w => refWorking c s u w hck hsk hu)
  generalize roomOf (fun n : Nat => fineOp c s (unitOp u (n : Int))) = M at *
  have hu1 : ¬ u < 1 := by omega
  have hu2 : ¬ 1000000 < u := by omega
  have kR := Lib.hid (fun w => progRoom2 c s l w hc hs hl); have kG := Lib.hid (fun w => progPurge2 c s l w hc hs hl)
  have kRP := Lib.hid (fun w => (refPoint l w).mono fun e w' hb => BoolB.lit hb hl)
  clear hck hsk
  replace hc := Lib.hid hc; replace hs := Lib.hid hs; replace hl := Lib.hid hl
  go_enter Try.func15, Try.ntmps15
  go_wp2_with (first | (go_at_call 45; (with_reducible refine Calls.mono (kR.out _) ?_); rintro e w1 ⟨rfl, hB⟩; (first | (obtain ⟨g, rfl⟩ := g.next hB) | (obtain ⟨g, rfl⟩ : ∃ g : Grow W, w1 = g.x := ⟨⟨w1, hB⟩, rfl⟩)); clear hB) | (go_at_call 46; (with_reducible refine Calls.mono (kW.out _) ?_); rintro e w1 ⟨rfl, hB⟩; (first | (obtain ⟨g, rfl⟩ := g.next hB) | (obtain ⟨g, rfl⟩ : ∃ g : Grow W, w1 = g.x := ⟨⟨w1, hB⟩, rfl⟩)); clear hB) | (go_at_call 35; (with_reducible refine Calls.mono (kG.out _) ?_); rintro e w1 ⟨rfl, hB⟩; (first | (obtain ⟨g, rfl⟩ := g.next hB) | (obtain ⟨g, rfl⟩ : ∃ g : Grow W, w1 = g.x := ⟨⟨w1, hB⟩, rfl⟩)); clear hB) | (go_at_call 17; (with_reducible refine Calls.mono (kRC.out _) ?_); rintro e w1 ⟨rfl, hB⟩; (first | (obtain ⟨g, rfl⟩ := g.next hB) | (obtain ⟨g, rfl⟩ : ∃ g : Grow W, w1 = g.x := ⟨⟨w1, hB⟩, rfl⟩)); clear hB) | (go_at_call 18; (with_reducible refine Calls.mono (kRS.out _) ?_); rintro e w1 ⟨rfl, hB⟩; (first | (obtain ⟨g, rfl⟩ := g.next hB) | (obtain ⟨g, rfl⟩ : ∃ g : Grow W, w1 = g.x := ⟨⟨w1, hB⟩, rfl⟩)); clear hB) | (go_at_call 50; (with_reducible refine Calls.mono (kRW.out _) ?_); rintro e w1 ⟨rfl, hB⟩; (first | (obtain ⟨g, rfl⟩ := g.next hB) | (obtain ⟨g, rfl⟩ : ∃ g : Grow W, w1 = g.x := ⟨⟨w1, hB⟩, rfl⟩)); clear hB) | (go_at_call 25; (with_reducible refine Calls.mono (kRP.out _) ?_); rintro e w1 ⟨rfl, hB⟩; (first | (obtain ⟨g, rfl⟩ := g.next hB) | (obtain ⟨g, rfl⟩ : ∃ g : Grow W, w1 = g.x := ⟨⟨w1, hB⟩, rfl⟩)); clear hB) | (go_at_call 20; (with_reducible refine Calls.mono (hK.out _) ?_); rintro e w1 ⟨rfl, hB⟩; (first | (obtain ⟨g, rfl⟩ := g.next hB) | (obtain ⟨g, rfl⟩ : ∃ g : Grow W, w1 = g.x := ⟨⟨w1, hB⟩, rfl⟩)); clear hB))
  go_ret
  exact ⟨rfl, B0.trans (g.h.mono B0.size)⟩

set_option maxRecDepth 100000 in
set_option maxHeartbeats 16000000 in
theorem lawRms_ok_none (c : Cav) (s : St) (l : Pt) (u : Int) (w : World) (hc : c.ok = true) (hs : s.ok = true) (hu : 1 ≤ u ∧ u ≤ 1000000) (hl : l.ok = true) (hpu : purgeOf (fun n : Nat => pureOp c s (lotsOp l (n : Int))) = none) :
    Calls Try.prog 15 #[cavV c, stV s, ptV l, .int .i64 u] w fun e w' => e = .returned (.bool true) ∧ Below w.heap.size w w' := by
  obtain ⟨W1, hW1⟩ : ∃ W1, w.alloc (.cells #[.int .i64 c.vlo, .int .i64 c.vhi, .int .i64 c.least, .int .i64 c.most, .int .i64 c.f0, .int .i64 c.f1, .int .i64 c.h0, .int .i64 c.h1, .int .i64 c.rock, .int .i64 c.plo, .int .i64 c.phi] 26) = W1 := ⟨_, rfl⟩
  obtain ⟨e_c, b_c, s_c⟩ := boxed hW1
  obtain ⟨W2, hW2⟩ : ∃ W2, W1.alloc (.cells #[.int .i64 s.glo, .int .i64 s.ghi, .int .i64 s.ylo, .int .i64 s.yhi, .int .i64 s.tlo, .int .i64 s.thi, .int .i64 s.wlo, .int .i64 s.whi] 28) = W2 := ⟨_, rfl⟩
  obtain ⟨e_s, b_s, s_s⟩ := boxed hW2
  replace e_c := (b_s.block _ (Array.getElem?_eq_some_iff.1 e_c).1).trans e_c
  obtain ⟨W, hW⟩ : ∃ W, W2.alloc (.cells #[.int .i64 l.g, .int .i64 l.y, .int .i64 l.t, .int .i64 l.w] 31) = W := ⟨_, rfl⟩
  obtain ⟨e_l, b_l, s_l⟩ := boxed hW
  replace e_c := (b_l.block _ (Array.getElem?_eq_some_iff.1 e_c).1).trans e_c
  replace e_s := (b_l.block _ (Array.getElem?_eq_some_iff.1 e_s).1).trans e_s
  have B0 : Below w.heap.size w W := ((b_c.trans (b_s.mono (by omega))).trans (b_l.mono (by omega)))
  have z0_c := (Array.getElem?_eq_some_iff.1 e_c).1
  have z0_s := (Array.getElem?_eq_some_iff.1 e_s).1
  have z0_l := (Array.getElem?_eq_some_iff.1 e_l).1
  have le_c : w.heap.size ≤ w.heap.size := by omega
  have le_s : w.heap.size ≤ W1.heap.size := by omega
  have le_l : w.heap.size ≤ W2.heap.size := by omega
  clear s_c b_c s_s b_s s_l b_l
  obtain ⟨q0_c_0, q0_c_1, q0_c_2, q0_c_3, q0_c_4, q0_c_5, q0_c_6, q0_c_7, q0_c_8, q0_c_9, q0_c_10⟩ := rc11 e_c
  replace e_c := Lib.hid e_c
  obtain ⟨q0_s_0, q0_s_1, q0_s_2, q0_s_3, q0_s_4, q0_s_5, q0_s_6, q0_s_7⟩ := rc8 e_s
  replace e_s := Lib.hid e_s
  obtain ⟨q0_l_0, q0_l_1, q0_l_2, q0_l_3⟩ := rc4 e_l
  replace e_l := Lib.hid e_l
  have hgw0 := grow_cell W
  have hK := Lib.hid (fun w => progKnown w)
  have kRC := Lib.hid (fun w => (refCavern c w).mono fun e w' hb => BoolB.lit hb hc)
  have kRS := Lib.hid (fun w => (refState s w).mono fun e w' hb => BoolB.lit hb hs)
  have hck := Cav.ok_iff.1 hc; have hsk := St.ok_iff.1 hs
  have kW := Lib.hid (fun w => progWorking3 c s u w hc hs (inB_iff.2 hu)); have kRW := Lib.hid (fun w => refWorking c s u w hck hsk hu)
  generalize roomOf (fun n : Nat => fineOp c s (unitOp u (n : Int))) = M at *
  have hu1 : ¬ u < 1 := by omega
  have hu2 : ¬ 1000000 < u := by omega
  have hlk := Pt.ok_iff.1 hl
  have kR := Lib.hid (fun w => progRoom3 c s l w hc hs hl); have kG := Lib.hid (fun w => progPurge3 c s l w hc hs hl)
  have kRR := Lib.hid (fun w => refRoom c s l w hck hsk hlk); have kRG := Lib.hid (fun w => refPurge c s l w hck hsk hlk)
  generalize roomOf (fun n : Nat => fineOp c s (lotsOp l (n : Int))) = R at *
  have hR1 : purgeRes (fun n : Nat => pureOp c s (lotsOp l (n : Int))) = (0, 5) := by unfold purgeRes; rw [hpu]
  have hR2 : purgeI (fun n : Nat => pureOp c s (lotsOp l (n : Int))) = -1 := by unfold purgeI; rw [hpu]
  rw [hR1] at kG
  rw [hR2] at kRG
  clear hR1 hR2 hpu hlk
  have kRP := Lib.hid (fun w => (refPoint l w).mono fun e w' hb => BoolB.lit hb hl)
  clear hck hsk
  replace hc := Lib.hid hc; replace hs := Lib.hid hs; replace hl := Lib.hid hl
  go_enter Try.func15, Try.ntmps15
  go_wp2_with (first | (go_at_call 45; (with_reducible refine Calls.mono (kR.out _) ?_); rintro e w1 ⟨rfl, hB⟩; (first | (obtain ⟨g, rfl⟩ := g.next hB) | (obtain ⟨g, rfl⟩ : ∃ g : Grow W, w1 = g.x := ⟨⟨w1, hB⟩, rfl⟩)); clear hB) | (go_at_call 46; (with_reducible refine Calls.mono (kW.out _) ?_); rintro e w1 ⟨rfl, hB⟩; (first | (obtain ⟨g, rfl⟩ := g.next hB) | (obtain ⟨g, rfl⟩ : ∃ g : Grow W, w1 = g.x := ⟨⟨w1, hB⟩, rfl⟩)); clear hB) | (go_at_call 35; (with_reducible refine Calls.mono (kG.out _) ?_); rintro e w1 ⟨rfl, hB⟩; (first | (obtain ⟨g, rfl⟩ := g.next hB) | (obtain ⟨g, rfl⟩ : ∃ g : Grow W, w1 = g.x := ⟨⟨w1, hB⟩, rfl⟩)); clear hB) | (go_at_call 17; (with_reducible refine Calls.mono (kRC.out _) ?_); rintro e w1 ⟨rfl, hB⟩; (first | (obtain ⟨g, rfl⟩ := g.next hB) | (obtain ⟨g, rfl⟩ : ∃ g : Grow W, w1 = g.x := ⟨⟨w1, hB⟩, rfl⟩)); clear hB) | (go_at_call 18; (with_reducible refine Calls.mono (kRS.out _) ?_); rintro e w1 ⟨rfl, hB⟩; (first | (obtain ⟨g, rfl⟩ := g.next hB) | (obtain ⟨g, rfl⟩ : ∃ g : Grow W, w1 = g.x := ⟨⟨w1, hB⟩, rfl⟩)); clear hB) | (go_at_call 50; (with_reducible refine Calls.mono (kRW.out _) ?_); rintro e w1 ⟨rfl, hB⟩; (first | (obtain ⟨g, rfl⟩ := g.next hB) | (obtain ⟨g, rfl⟩ : ∃ g : Grow W, w1 = g.x := ⟨⟨w1, hB⟩, rfl⟩)); clear hB) | (go_at_call 25; (with_reducible refine Calls.mono (kRP.out _) ?_); rintro e w1 ⟨rfl, hB⟩; (first | (obtain ⟨g, rfl⟩ := g.next hB) | (obtain ⟨g, rfl⟩ : ∃ g : Grow W, w1 = g.x := ⟨⟨w1, hB⟩, rfl⟩)); clear hB) | (go_at_call 51; (with_reducible refine Calls.mono (kRR.out _) ?_); rintro e w1 ⟨rfl, hB⟩; (first | (obtain ⟨g, rfl⟩ := g.next hB) | (obtain ⟨g, rfl⟩ : ∃ g : Grow W, w1 = g.x := ⟨⟨w1, hB⟩, rfl⟩)); clear hB) | (go_at_call 52; (with_reducible refine Calls.mono (kRG.out _) ?_); rintro e w1 ⟨rfl, hB⟩; (first | (obtain ⟨g, rfl⟩ := g.next hB) | (obtain ⟨g, rfl⟩ : ∃ g : Grow W, w1 = g.x := ⟨⟨w1, hB⟩, rfl⟩)); clear hB) | (go_at_call 20; (with_reducible refine Calls.mono (hK.out _) ?_); rintro e w1 ⟨rfl, hB⟩; (first | (obtain ⟨g, rfl⟩ := g.next hB) | (obtain ⟨g, rfl⟩ : ∃ g : Grow W, w1 = g.x := ⟨⟨w1, hB⟩, rfl⟩)); clear hB))
  go_ret
  exact ⟨rfl, B0.trans (g.h.mono B0.size)⟩

set_option maxRecDepth 100000 in
set_option maxHeartbeats 16000000 in
theorem lawRms_ok_some (c : Cav) (s : St) (l : Pt) (u : Int) (w : World) (hc : c.ok = true) (hs : s.ok = true) (hu : 1 ≤ u ∧ u ≤ 1000000) (hl : l.ok = true) {k : Nat} (hpu : purgeOf (fun n : Nat => pureOp c s (lotsOp l (n : Int))) = some k) :
    Calls Try.prog 15 #[cavV c, stV s, ptV l, .int .i64 u] w fun e w' => e = .returned (.bool true) ∧ Below w.heap.size w w' := by
  obtain ⟨W1, hW1⟩ : ∃ W1, w.alloc (.cells #[.int .i64 c.vlo, .int .i64 c.vhi, .int .i64 c.least, .int .i64 c.most, .int .i64 c.f0, .int .i64 c.f1, .int .i64 c.h0, .int .i64 c.h1, .int .i64 c.rock, .int .i64 c.plo, .int .i64 c.phi] 26) = W1 := ⟨_, rfl⟩
  obtain ⟨e_c, b_c, s_c⟩ := boxed hW1
  obtain ⟨W2, hW2⟩ : ∃ W2, W1.alloc (.cells #[.int .i64 s.glo, .int .i64 s.ghi, .int .i64 s.ylo, .int .i64 s.yhi, .int .i64 s.tlo, .int .i64 s.thi, .int .i64 s.wlo, .int .i64 s.whi] 28) = W2 := ⟨_, rfl⟩
  obtain ⟨e_s, b_s, s_s⟩ := boxed hW2
  replace e_c := (b_s.block _ (Array.getElem?_eq_some_iff.1 e_c).1).trans e_c
  obtain ⟨W, hW⟩ : ∃ W, W2.alloc (.cells #[.int .i64 l.g, .int .i64 l.y, .int .i64 l.t, .int .i64 l.w] 31) = W := ⟨_, rfl⟩
  obtain ⟨e_l, b_l, s_l⟩ := boxed hW
  replace e_c := (b_l.block _ (Array.getElem?_eq_some_iff.1 e_c).1).trans e_c
  replace e_s := (b_l.block _ (Array.getElem?_eq_some_iff.1 e_s).1).trans e_s
  have B0 : Below w.heap.size w W := ((b_c.trans (b_s.mono (by omega))).trans (b_l.mono (by omega)))
  have z0_c := (Array.getElem?_eq_some_iff.1 e_c).1
  have z0_s := (Array.getElem?_eq_some_iff.1 e_s).1
  have z0_l := (Array.getElem?_eq_some_iff.1 e_l).1
  have le_c : w.heap.size ≤ w.heap.size := by omega
  have le_s : w.heap.size ≤ W1.heap.size := by omega
  have le_l : w.heap.size ≤ W2.heap.size := by omega
  clear s_c b_c s_s b_s s_l b_l
  obtain ⟨q0_c_0, q0_c_1, q0_c_2, q0_c_3, q0_c_4, q0_c_5, q0_c_6, q0_c_7, q0_c_8, q0_c_9, q0_c_10⟩ := rc11 e_c
  replace e_c := Lib.hid e_c
  obtain ⟨q0_s_0, q0_s_1, q0_s_2, q0_s_3, q0_s_4, q0_s_5, q0_s_6, q0_s_7⟩ := rc8 e_s
  replace e_s := Lib.hid e_s
  obtain ⟨q0_l_0, q0_l_1, q0_l_2, q0_l_3⟩ := rc4 e_l
  replace e_l := Lib.hid e_l
  have hgw0 := grow_cell W
  have hK := Lib.hid (fun w => progKnown w)
  have kRC := Lib.hid (fun w => (refCavern c w).mono fun e w' hb => BoolB.lit hb hc)
  have kRS := Lib.hid (fun w => (refState s w).mono fun e w' hb => BoolB.lit hb hs)
  have hck := Cav.ok_iff.1 hc; have hsk := St.ok_iff.1 hs
  have kW := Lib.hid (fun w => progWorking3 c s u w hc hs (inB_iff.2 hu)); have kRW := Lib.hid (fun w => refWorking c s u w hck hsk hu)
  generalize roomOf (fun n : Nat => fineOp c s (unitOp u (n : Int))) = M at *
  have hu1 : ¬ u < 1 := by omega
  have hu2 : ¬ 1000000 < u := by omega
  have hlk := Pt.ok_iff.1 hl
  have kR := Lib.hid (fun w => progRoom3 c s l w hc hs hl); have kG := Lib.hid (fun w => progPurge3 c s l w hc hs hl)
  have kRR := Lib.hid (fun w => refRoom c s l w hck hsk hlk); have kRG := Lib.hid (fun w => refPurge c s l w hck hsk hlk)
  generalize roomOf (fun n : Nat => fineOp c s (lotsOp l (n : Int))) = R at *
  have hR1 : purgeRes (fun n : Nat => pureOp c s (lotsOp l (n : Int))) = ((k : Int), 0) := by unfold purgeRes; rw [hpu]
  have hR2 : purgeI (fun n : Nat => pureOp c s (lotsOp l (n : Int))) = (k : Int) := by unfold purgeI; rw [hpu]
  rw [hR1] at kG
  rw [hR2] at kRG
  clear hR1 hR2 hpu hlk
  have hkn : ¬ (k : Int) < 0 := by omega
  have kRP := Lib.hid (fun w => (refPoint l w).mono fun e w' hb => BoolB.lit hb hl)
  clear hck hsk
  replace hc := Lib.hid hc; replace hs := Lib.hid hs; replace hl := Lib.hid hl
  go_enter Try.func15, Try.ntmps15
  go_wp2_with (first | (go_at_call 45; (with_reducible refine Calls.mono (kR.out _) ?_); rintro e w1 ⟨rfl, hB⟩; (first | (obtain ⟨g, rfl⟩ := g.next hB) | (obtain ⟨g, rfl⟩ : ∃ g : Grow W, w1 = g.x := ⟨⟨w1, hB⟩, rfl⟩)); clear hB) | (go_at_call 46; (with_reducible refine Calls.mono (kW.out _) ?_); rintro e w1 ⟨rfl, hB⟩; (first | (obtain ⟨g, rfl⟩ := g.next hB) | (obtain ⟨g, rfl⟩ : ∃ g : Grow W, w1 = g.x := ⟨⟨w1, hB⟩, rfl⟩)); clear hB) | (go_at_call 35; (with_reducible refine Calls.mono (kG.out _) ?_); rintro e w1 ⟨rfl, hB⟩; (first | (obtain ⟨g, rfl⟩ := g.next hB) | (obtain ⟨g, rfl⟩ : ∃ g : Grow W, w1 = g.x := ⟨⟨w1, hB⟩, rfl⟩)); clear hB) | (go_at_call 17; (with_reducible refine Calls.mono (kRC.out _) ?_); rintro e w1 ⟨rfl, hB⟩; (first | (obtain ⟨g, rfl⟩ := g.next hB) | (obtain ⟨g, rfl⟩ : ∃ g : Grow W, w1 = g.x := ⟨⟨w1, hB⟩, rfl⟩)); clear hB) | (go_at_call 18; (with_reducible refine Calls.mono (kRS.out _) ?_); rintro e w1 ⟨rfl, hB⟩; (first | (obtain ⟨g, rfl⟩ := g.next hB) | (obtain ⟨g, rfl⟩ : ∃ g : Grow W, w1 = g.x := ⟨⟨w1, hB⟩, rfl⟩)); clear hB) | (go_at_call 50; (with_reducible refine Calls.mono (kRW.out _) ?_); rintro e w1 ⟨rfl, hB⟩; (first | (obtain ⟨g, rfl⟩ := g.next hB) | (obtain ⟨g, rfl⟩ : ∃ g : Grow W, w1 = g.x := ⟨⟨w1, hB⟩, rfl⟩)); clear hB) | (go_at_call 25; (with_reducible refine Calls.mono (kRP.out _) ?_); rintro e w1 ⟨rfl, hB⟩; (first | (obtain ⟨g, rfl⟩ := g.next hB) | (obtain ⟨g, rfl⟩ : ∃ g : Grow W, w1 = g.x := ⟨⟨w1, hB⟩, rfl⟩)); clear hB) | (go_at_call 51; (with_reducible refine Calls.mono (kRR.out _) ?_); rintro e w1 ⟨rfl, hB⟩; (first | (obtain ⟨g, rfl⟩ := g.next hB) | (obtain ⟨g, rfl⟩ : ∃ g : Grow W, w1 = g.x := ⟨⟨w1, hB⟩, rfl⟩)); clear hB) | (go_at_call 52; (with_reducible refine Calls.mono (kRG.out _) ?_); rintro e w1 ⟨rfl, hB⟩; (first | (obtain ⟨g, rfl⟩ := g.next hB) | (obtain ⟨g, rfl⟩ : ∃ g : Grow W, w1 = g.x := ⟨⟨w1, hB⟩, rfl⟩)); clear hB) | (go_at_call 20; (with_reducible refine Calls.mono (hK.out _) ?_); rintro e w1 ⟨rfl, hB⟩; (first | (obtain ⟨g, rfl⟩ := g.next hB) | (obtain ⟨g, rfl⟩ : ∃ g : Grow W, w1 = g.x := ⟨⟨w1, hB⟩, rfl⟩)); clear hB))
  go_ret
  exact ⟨rfl, B0.trans (g.h.mono B0.size)⟩

theorem lawRooms (c : Cav) (s : St) (l : Pt) (u : Int) (w : World) :
    Calls Try.prog 15 #[cavV c, stV s, ptV l, .int .i64 u] w fun e w' => e = .returned (.bool true) ∧ Below w.heap.size w w' := by
  cases hc : c.ok
  · exact lawRms0 c s l u w hc
  cases hs : s.ok
  · exact lawRms1 c s l u w hc hs
  have key : (u < 1) ∨ (1000000 < u) ∨ (1 ≤ u ∧ u ≤ 1000000) := by omega
  cases hl : l.ok
  · rcases key with h | h | h
    · exact lawRms_low_bad c s l u w hc hs h hl
    · exact lawRms_high_bad c s l u w hc hs h hl
    · exact lawRms_ok_bad c s l u w hc hs h hl
  cases hpu : purgeOf (fun n : Nat => pureOp c s (lotsOp l (n : Int))) with
  | none =>
    rcases key with h | h | h
    · exact lawRms_low_none c s l u w hc hs h hl hpu
    · exact lawRms_high_none c s l u w hc hs h hl hpu
    · exact lawRms_ok_none c s l u w hc hs h hl hpu
  | some k =>
    rcases key with h | h | h
    · exact lawRms_low_some c s l u w hc hs h hl hpu
    · exact lawRms_high_some c s l u w hc hs h hl hpu
    · exact lawRms_ok_some c s l u w hc hs h hl hpu
end Go.Proofs.Ytgmbolagciaenaa
