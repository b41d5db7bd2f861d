/- Gas: the walk of the law GasSteps. -/
import Derived.Test.YtgmbolagciaenaaRs
import Derived.Test.YtgmbolagciaenaaPsn
import Derived.Test.YtgmbolagciaenaaKno
set_option linter.unusedVariables false
set_option linter.unusedSimpArgs false
namespace Go.Proofs.Ytgmbolagciaenaa
open Go.RowKit Go.Sd Gas
set_option maxRecDepth 100000 in
set_option maxHeartbeats 16000000 in
theorem lawSteps0 (c : Cav) (s : St) (lv : Value) (xs : List Gas.Op) (w : World) (hl : OpsAt w lv xs) (h1 : 12 < xs.length) (h2 : xs.length ≤ 20) :
    Calls Try.prog 8 #[cavV c, stV s, lv] w fun e w' => e = .returned (.bool true) ∧ Below w.heap.size w w' := by
  have hl' := hl
  obtain ⟨a, cap, rfl, hm, -⟩ := hl'
  unfold maxLen at hm
  have hm' : xs.length ≤ 9223372036854775807 := by omega
  clear hm
  obtain ⟨W1, hW1⟩ : ∃ W1, w.alloc (.cells #[.int .i64 c.vlo, .int .i64 c.vhi, .int .i64 c.least, .int .i64 c.most, .int .i64 c.f0, .int .i64 c.f1, .int .i64 c.h0, .int .i64 c.h1, .int .i64 c.rock, .int .i64 c.plo, .int .i64 c.phi] 26) = W1 := ⟨_, rfl⟩
  obtain ⟨e_c, b_c, s_c⟩ := boxed hW1
  obtain ⟨W, hW⟩ : ∃ W, W1.alloc (.cells #[.int .i64 s.glo, .int .i64 s.ghi, .int .i64 s.ylo, .int .i64 s.yhi, .int .i64 s.tlo, .int .i64 s.thi, .int .i64 s.wlo, .int .i64 s.whi] 28) = W := ⟨_, rfl⟩
  obtain ⟨e_s, b_s, s_s⟩ := boxed hW
  replace e_c := (b_s.block _ (Array.getElem?_eq_some_iff.1 e_c).1).trans e_c
  have B0 : Below w.heap.size w W := (b_c.trans (b_s.mono (by omega)))
  have z0_c := (Array.getElem?_eq_some_iff.1 e_c).1
  have z0_s := (Array.getElem?_eq_some_iff.1 e_s).1
  have le_c : w.heap.size ≤ w.heap.size := by omega
  have le_s : w.heap.size ≤ W1.heap.size := by omega
  clear s_c b_c s_s b_s
  obtain ⟨q0_c_0, q0_c_1, q0_c_2, q0_c_3, q0_c_4, q0_c_5, q0_c_6, q0_c_7, q0_c_8, q0_c_9, q0_c_10⟩ := rc11 e_c
  replace e_c := Lib.hid e_c
  obtain ⟨q0_s_0, q0_s_1, q0_s_2, q0_s_3, q0_s_4, q0_s_5, q0_s_6, q0_s_7⟩ := rc8 e_s
  replace e_s := Lib.hid e_s
  have hgw0 := grow_cell W
  have hK := Lib.hid (fun w => progKnown w)
  have i1 : (12 : Int) < xs.length := by omega
  have i2 : (xs.length : Int) ≤ 20 := by omega
  clear h1 h2
  clear hl
  go_enter Try.func8, Try.ntmps8
  go_wp2_with (first | (go_at_call 20; (with_reducible refine Calls.mono (hK.out _) ?_); rintro e w1 ⟨rfl, hB⟩; (first | (obtain ⟨g, rfl⟩ := g.next hB) | (obtain ⟨g, rfl⟩ : ∃ g : Grow W, w1 = g.x := ⟨⟨w1, hB⟩, rfl⟩)); clear hB))
  go_ret
  exact ⟨rfl, B0.trans (g.h.mono B0.size)⟩

set_option maxRecDepth 100000 in
set_option maxHeartbeats 16000000 in
theorem lawSteps1 (c : Cav) (s : St) (lv : Value) (xs : List Gas.Op) (w : World) (hl : OpsAt w lv xs) (h1 : 30 < xs.length) :
    Calls Try.prog 8 #[cavV c, stV s, lv] w fun e w' => e = .returned (.bool true) ∧ Below w.heap.size w w' := by
  have hl' := hl
  obtain ⟨a, cap, rfl, hm, -⟩ := hl'
  unfold maxLen at hm
  have hm' : xs.length ≤ 9223372036854775807 := by omega
  clear hm
  obtain ⟨W1, hW1⟩ : ∃ W1, w.alloc (.cells #[.int .i64 c.vlo, .int .i64 c.vhi, .int .i64 c.least, .int .i64 c.most, .int .i64 c.f0, .int .i64 c.f1, .int .i64 c.h0, .int .i64 c.h1, .int .i64 c.rock, .int .i64 c.plo, .int .i64 c.phi] 26) = W1 := ⟨_, rfl⟩
  obtain ⟨e_c, b_c, s_c⟩ := boxed hW1
  obtain ⟨W, hW⟩ : ∃ W, W1.alloc (.cells #[.int .i64 s.glo, .int .i64 s.ghi, .int .i64 s.ylo, .int .i64 s.yhi, .int .i64 s.tlo, .int .i64 s.thi, .int .i64 s.wlo, .int .i64 s.whi] 28) = W := ⟨_, rfl⟩
  obtain ⟨e_s, b_s, s_s⟩ := boxed hW
  replace e_c := (b_s.block _ (Array.getElem?_eq_some_iff.1 e_c).1).trans e_c
  have B0 : Below w.heap.size w W := (b_c.trans (b_s.mono (by omega)))
  have z0_c := (Array.getElem?_eq_some_iff.1 e_c).1
  have z0_s := (Array.getElem?_eq_some_iff.1 e_s).1
  have le_c : w.heap.size ≤ w.heap.size := by omega
  have le_s : w.heap.size ≤ W1.heap.size := by omega
  clear s_c b_c s_s b_s
  obtain ⟨q0_c_0, q0_c_1, q0_c_2, q0_c_3, q0_c_4, q0_c_5, q0_c_6, q0_c_7, q0_c_8, q0_c_9, q0_c_10⟩ := rc11 e_c
  replace e_c := Lib.hid e_c
  obtain ⟨q0_s_0, q0_s_1, q0_s_2, q0_s_3, q0_s_4, q0_s_5, q0_s_6, q0_s_7⟩ := rc8 e_s
  replace e_s := Lib.hid e_s
  have hgw0 := grow_cell W
  have hK := Lib.hid (fun w => progKnown w)
  have i1 : (12 : Int) < xs.length := by omega
  have i2 : ¬ (xs.length : Int) ≤ 20 := by omega
  have i3 : (30 : Int) < xs.length := by omega
  clear h1
  clear hl
  go_enter Try.func8, Try.ntmps8
  go_wp2_with (first | (go_at_call 20; (with_reducible refine Calls.mono (hK.out _) ?_); rintro e w1 ⟨rfl, hB⟩; (first | (obtain ⟨g, rfl⟩ := g.next hB) | (obtain ⟨g, rfl⟩ : ∃ g : Grow W, w1 = g.x := ⟨⟨w1, hB⟩, rfl⟩)); clear hB))
  go_ret
  exact ⟨rfl, B0.trans (g.h.mono B0.size)⟩

set_option maxRecDepth 100000 in
set_option maxHeartbeats 16000000 in
theorem lawSteps2 (c : Cav) (s : St) (lv : Value) (xs : List Gas.Op) (w : World) (hl : OpsAt w lv xs) (h1 : 20 < xs.length) (h2 : xs.length ≤ 30) :
    Calls Try.prog 8 #[cavV c, stV s, lv] w fun e w' => e = .returned (.bool true) ∧ Below w.heap.size w w' := by
  have hl' := hl
  obtain ⟨a, cap, rfl, hm, -⟩ := hl'
  unfold maxLen at hm
  have hm' : xs.length ≤ 9223372036854775807 := by omega
  clear hm
  obtain ⟨W1, hW1⟩ : ∃ W1, w.alloc (.cells #[.int .i64 c.vlo, .int .i64 c.vhi, .int .i64 c.least, .int .i64 c.most, .int .i64 c.f0, .int .i64 c.f1, .int .i64 c.h0, .int .i64 c.h1, .int .i64 c.rock, .int .i64 c.plo, .int .i64 c.phi] 26) = W1 := ⟨_, rfl⟩
  obtain ⟨e_c, b_c, s_c⟩ := boxed hW1
  obtain ⟨W, hW⟩ : ∃ W, W1.alloc (.cells #[.int .i64 s.glo, .int .i64 s.ghi, .int .i64 s.ylo, .int .i64 s.yhi, .int .i64 s.tlo, .int .i64 s.thi, .int .i64 s.wlo, .int .i64 s.whi] 28) = W := ⟨_, rfl⟩
  obtain ⟨e_s, b_s, s_s⟩ := boxed hW
  replace e_c := (b_s.block _ (Array.getElem?_eq_some_iff.1 e_c).1).trans e_c
  have B0 : Below w.heap.size w W := (b_c.trans (b_s.mono (by omega)))
  have z0_c := (Array.getElem?_eq_some_iff.1 e_c).1
  have z0_s := (Array.getElem?_eq_some_iff.1 e_s).1
  have le_c : w.heap.size ≤ w.heap.size := by omega
  have le_s : w.heap.size ≤ W1.heap.size := by omega
  clear s_c b_c s_s b_s
  obtain ⟨q0_c_0, q0_c_1, q0_c_2, q0_c_3, q0_c_4, q0_c_5, q0_c_6, q0_c_7, q0_c_8, q0_c_9, q0_c_10⟩ := rc11 e_c
  replace e_c := Lib.hid e_c
  obtain ⟨q0_s_0, q0_s_1, q0_s_2, q0_s_3, q0_s_4, q0_s_5, q0_s_6, q0_s_7⟩ := rc8 e_s
  replace e_s := Lib.hid e_s
  have hgw0 := grow_cell W
  have hK := Lib.hid (fun w => progKnown w)
  have kS : Hid (∀ w', Below w.heap.size w w' → Calls Try.prog 31 #[cavV c, stV s, .slice a xs.length cap] w' fun e w'' => e = .returned (.tuple #[.slice none 0 0, .int .i64 0, .int .i64 3]) ∧ Below w'.heap.size w' w'') := Lib.hid (fun w' hb => progStepsBad w' (hl.mono hb) (show stepsErr c s xs = 3 by unfold stepsErr; rw [if_pos h1]) (by decide))
  have i1 : (12 : Int) < xs.length := by omega
  have i2 : ¬ (xs.length : Int) ≤ 20 := by omega
  have i3 : ¬ (30 : Int) < xs.length := by omega
  have i4 : (20 : Int) < xs.length := by omega
  clear h1 h2 hl
  go_enter Try.func8, Try.ntmps8
  go_wp2_with (first | (go_at_call 31; (with_reducible refine Calls.mono (kS.out _ (by first | (with_reducible exact B0.trans (g.h.mono B0.size)) | (with_reducible exact B0))) ?_); rintro e w1 ⟨rfl, hB⟩; (first | (obtain ⟨g, rfl⟩ := g.next hB) | (obtain ⟨g, rfl⟩ : ∃ g : Grow W, w1 = g.x := ⟨⟨w1, hB⟩, rfl⟩)); clear hB) | (go_at_call 20; (with_reducible refine Calls.mono (hK.out _) ?_); rintro e w1 ⟨rfl, hB⟩; (first | (obtain ⟨g, rfl⟩ := g.next hB) | (obtain ⟨g, rfl⟩ : ∃ g : Grow W, w1 = g.x := ⟨⟨w1, hB⟩, rfl⟩)); clear hB))
  go_ret
  exact ⟨rfl, B0.trans (g.h.mono B0.size)⟩

set_option maxRecDepth 100000 in
set_option maxHeartbeats 16000000 in
theorem lawSteps3 (c : Cav) (s : St) (lv : Value) (xs : List Gas.Op) (w : World) (hl : OpsAt w lv xs) (h1 : xs.length ≤ 12) (hc : c.ok = false) :
    Calls Try.prog 8 #[cavV c, stV s, lv] w fun e w' => e = .returned (.bool true) ∧ Below w.heap.size w w' := by
  have hl' := hl
  obtain ⟨a, cap, rfl, hm, -⟩ := hl'
  unfold maxLen at hm
  have hm' : xs.length ≤ 9223372036854775807 := by omega
  clear hm
  obtain ⟨W1, hW1⟩ : ∃ W1, w.alloc (.cells #[.int .i64 c.vlo, .int .i64 c.vhi, .int .i64 c.least, .int .i64 c.most, .int .i64 c.f0, .int .i64 c.f1, .int .i64 c.h0, .int .i64 c.h1, .int .i64 c.rock, .int .i64 c.plo, .int .i64 c.phi] 26) = W1 := ⟨_, rfl⟩
  obtain ⟨e_c, b_c, s_c⟩ := boxed hW1
  obtain ⟨W, hW⟩ : ∃ W, W1.alloc (.cells #[.int .i64 s.glo, .int .i64 s.ghi, .int .i64 s.ylo, .int .i64 s.yhi, .int .i64 s.tlo, .int .i64 s.thi, .int .i64 s.wlo, .int .i64 s.whi] 28) = W := ⟨_, rfl⟩
  obtain ⟨e_s, b_s, s_s⟩ := boxed hW
  replace e_c := (b_s.block _ (Array.getElem?_eq_some_iff.1 e_c).1).trans e_c
  have B0 : Below w.heap.size w W := (b_c.trans (b_s.mono (by omega)))
  have z0_c := (Array.getElem?_eq_some_iff.1 e_c).1
  have z0_s := (Array.getElem?_eq_some_iff.1 e_s).1
  have le_c : w.heap.size ≤ w.heap.size := by omega
  have le_s : w.heap.size ≤ W1.heap.size := by omega
  clear s_c b_c s_s b_s
  obtain ⟨q0_c_0, q0_c_1, q0_c_2, q0_c_3, q0_c_4, q0_c_5, q0_c_6, q0_c_7, q0_c_8, q0_c_9, q0_c_10⟩ := rc11 e_c
  replace e_c := Lib.hid e_c
  obtain ⟨q0_s_0, q0_s_1, q0_s_2, q0_s_3, q0_s_4, q0_s_5, q0_s_6, q0_s_7⟩ := rc8 e_s
  replace e_s := Lib.hid e_s
  have hgw0 := grow_cell W
  have hK := Lib.hid (fun w => progKnown w)
  have kS : Hid (∀ w', Below w.heap.size w w' → Calls Try.prog 31 #[cavV c, stV s, .slice a xs.length cap] w' fun e w'' => e = .returned (.tuple #[.slice none 0 0, .int .i64 0, .int .i64 2]) ∧ Below w'.heap.size w' w'') := Lib.hid (fun w' hb => progStepsBad w' (hl.mono hb) (show stepsErr c s xs = 2 by unfold stepsErr; rw [if_neg (by omega)]; simp [hc]) (by decide))
  have kRC := Lib.hid (fun w => (refCavern c w).mono fun e w' hb => BoolB.lit hb hc)
  have i1 : ¬ (12 : Int) < xs.length := by omega
  have i3 : ¬ (30 : Int) < xs.length := by omega
  have i4 : ¬ (20 : Int) < xs.length := by omega
  clear h1 hl
  replace hc := Lib.hid hc
  go_enter Try.func8, Try.ntmps8
  go_wp2_with (first | (go_at_call 31; (with_reducible refine Calls.mono (kS.out _ (by first | (with_reducible exact B0.trans (g.h.mono B0.size)) | (with_reducible exact B0))) ?_); rintro e w1 ⟨rfl, hB⟩; (first | (obtain ⟨g, rfl⟩ := g.next hB) | (obtain ⟨g, rfl⟩ : ∃ g : Grow W, w1 = g.x := ⟨⟨w1, hB⟩, rfl⟩)); clear hB) | (go_at_call 17; (with_reducible refine Calls.mono (kRC.out _) ?_); rintro e w1 ⟨rfl, hB⟩; (first | (obtain ⟨g, rfl⟩ := g.next hB) | (obtain ⟨g, rfl⟩ : ∃ g : Grow W, w1 = g.x := ⟨⟨w1, hB⟩, rfl⟩)); clear hB) | (go_at_call 20; (with_reducible refine Calls.mono (hK.out _) ?_); rintro e w1 ⟨rfl, hB⟩; (first | (obtain ⟨g, rfl⟩ := g.next hB) | (obtain ⟨g, rfl⟩ : ∃ g : Grow W, w1 = g.x := ⟨⟨w1, hB⟩, rfl⟩)); clear hB))
  go_ret
  exact ⟨rfl, B0.trans (g.h.mono B0.size)⟩

set_option maxRecDepth 100000 in
set_option maxHeartbeats 16000000 in
theorem lawSteps4 (c : Cav) (s : St) (lv : Value) (xs : List Gas.Op) (w : World) (hl : OpsAt w lv xs) (h1 : xs.length ≤ 12) (hc : c.ok = true) (hs : s.ok = false) :
    Calls Try.prog 8 #[cavV c, stV s, lv] w fun e w' => e = .returned (.bool true) ∧ Below w.heap.size w w' := by
  have hl' := hl
  obtain ⟨a, cap, rfl, hm, -⟩ := hl'
  unfold maxLen at hm
  have hm' : xs.length ≤ 9223372036854775807 := by omega
  clear hm
  obtain ⟨W1, hW1⟩ : ∃ W1, w.alloc (.cells #[.int .i64 c.vlo, .int .i64 c.vhi, .int .i64 c.least, .int .i64 c.most, .int .i64 c.f0, .int .i64 c.f1, .int .i64 c.h0, .int .i64 c.h1, .int .i64 c.rock, .int .i64 c.plo, .int .i64 c.phi] 26) = W1 := ⟨_, rfl⟩
  obtain ⟨e_c, b_c, s_c⟩ := boxed hW1
  obtain ⟨W, hW⟩ : ∃ W, W1.alloc (.cells #[.int .i64 s.glo, .int .i64 s.ghi, .int .i64 s.ylo, .int .i64 s.yhi, .int .i64 s.tlo, .int .i64 s.thi, .int .i64 s.wlo, .int .i64 s.whi] 28) = W := ⟨_, rfl⟩
  obtain ⟨e_s, b_s, s_s⟩ := boxed hW
  replace e_c := (b_s.block _ (Array.getElem?_eq_some_iff.1 e_c).1).trans e_c
  have B0 : Below w.heap.size w W := (b_c.trans (b_s.mono (by omega)))
  have z0_c := (Array.getElem?_eq_some_iff.1 e_c).1
  have z0_s := (Array.getElem?_eq_some_iff.1 e_s).1
  have le_c : w.heap.size ≤ w.heap.size := by omega
  have le_s : w.heap.size ≤ W1.heap.size := by omega
  clear s_c b_c s_s b_s
  obtain ⟨q0_c_0, q0_c_1, q0_c_2, q0_c_3, q0_c_4, q0_c_5, q0_c_6, q0_c_7, q0_c_8, q0_c_9, q0_c_10⟩ := rc11 e_c
  replace e_c := Lib.hid e_c
  obtain ⟨q0_s_0, q0_s_1, q0_s_2, q0_s_3, q0_s_4, q0_s_5, q0_s_6, q0_s_7⟩ := rc8 e_s
  replace e_s := Lib.hid e_s
  have hgw0 := grow_cell W
  have hK := Lib.hid (fun w => progKnown w)
  have kS : Hid (∀ w', Below w.heap.size w w' → Calls Try.prog 31 #[cavV c, stV s, .slice a xs.length cap] w' fun e w'' => e = .returned (.tuple #[.slice none 0 0, .int .i64 0, .int .i64 2]) ∧ Below w'.heap.size w' w'') := Lib.hid (fun w' hb => progStepsBad w' (hl.mono hb) (show stepsErr c s xs = 2 by unfold stepsErr; rw [if_neg (by omega)]; simp [hc, hs]) (by decide))
  have kRC := Lib.hid (fun w => (refCavern c w).mono fun e w' hb => BoolB.lit hb hc)
  have kRS := Lib.hid (fun w => (refState s w).mono fun e w' hb => BoolB.lit hb hs)
  have i1 : ¬ (12 : Int) < xs.length := by omega
  have i3 : ¬ (30 : Int) < xs.length := by omega
  have i4 : ¬ (20 : Int) < xs.length := by omega
  clear h1 hl
  replace hc := Lib.hid hc; replace hs := Lib.hid hs
  go_enter Try.func8, Try.ntmps8
  go_wp2_with (first | (go_at_call 31; (with_reducible refine Calls.mono (kS.out _ (by first | (with_reducible exact B0.trans (g.h.mono B0.size)) | (with_reducible exact B0))) ?_); rintro e w1 ⟨rfl, hB⟩; (first | (obtain ⟨g, rfl⟩ := g.next hB) | (obtain ⟨g, rfl⟩ : ∃ g : Grow W, w1 = g.x := ⟨⟨w1, hB⟩, rfl⟩)); clear hB) | (go_at_call 17; (with_reducible refine Calls.mono (kRC.out _) ?_); rintro e w1 ⟨rfl, hB⟩; (first | (obtain ⟨g, rfl⟩ := g.next hB) | (obtain ⟨g, rfl⟩ : ∃ g : Grow W, w1 = g.x := ⟨⟨w1, hB⟩, rfl⟩)); clear hB) | (go_at_call 18; (with_reducible refine Calls.mono (kRS.out _) ?_); rintro e w1 ⟨rfl, hB⟩; (first | (obtain ⟨g, rfl⟩ := g.next hB) | (obtain ⟨g, rfl⟩ : ∃ g : Grow W, w1 = g.x := ⟨⟨w1, hB⟩, rfl⟩)); clear hB) | (go_at_call 20; (with_reducible refine Calls.mono (hK.out _) ?_); rintro e w1 ⟨rfl, hB⟩; (first | (obtain ⟨g, rfl⟩ := g.next hB) | (obtain ⟨g, rfl⟩ : ∃ g : Grow W, w1 = g.x := ⟨⟨w1, hB⟩, rfl⟩)); clear hB))
  go_ret
  exact ⟨rfl, B0.trans (g.h.mono B0.size)⟩

set_option maxRecDepth 100000 in
set_option maxHeartbeats 16000000 in
theorem lawSteps5 (c : Cav) (s : St) (lv : Value) (xs : List Gas.Op) (w : World) (hl : OpsAt w lv xs) (h1 : xs.length ≤ 12) (hc : c.ok = true) (hs : s.ok = true) (ho : opsB xs = false) :
    Calls Try.prog 8 #[cavV c, stV s, lv] w fun e w' => e = .returned (.bool true) ∧ Below w.heap.size w w' := by
  have hl' := hl
  obtain ⟨a, cap, rfl, hm, -⟩ := hl'
  unfold maxLen at hm
  have hm' : xs.length ≤ 9223372036854775807 := by omega
  clear hm
  obtain ⟨W1, hW1⟩ : ∃ W1, w.alloc (.cells #[.int .i64 c.vlo, .int .i64 c.vhi, .int .i64 c.least, .int .i64 c.most, .int .i64 c.f0, .int .i64 c.f1, .int .i64 c.h0, .int .i64 c.h1, .int .i64 c.rock, .int .i64 c.plo, .int .i64 c.phi] 26) = W1 := ⟨_, rfl⟩
  obtain ⟨e_c, b_c, s_c⟩ := boxed hW1
  obtain ⟨W, hW⟩ : ∃ W, W1.alloc (.cells #[.int .i64 s.glo, .int .i64 s.ghi, .int .i64 s.ylo, .int .i64 s.yhi, .int .i64 s.tlo, .int .i64 s.thi, .int .i64 s.wlo, .int .i64 s.whi] 28) = W := ⟨_, rfl⟩
  obtain ⟨e_s, b_s, s_s⟩ := boxed hW
  replace e_c := (b_s.block _ (Array.getElem?_eq_some_iff.1 e_c).1).trans e_c
  have B0 : Below w.heap.size w W := (b_c.trans (b_s.mono (by omega)))
  have z0_c := (Array.getElem?_eq_some_iff.1 e_c).1
  have z0_s := (Array.getElem?_eq_some_iff.1 e_s).1
  have le_c : w.heap.size ≤ w.heap.size := by omega
  have le_s : w.heap.size ≤ W1.heap.size := by omega
  clear s_c b_c s_s b_s
  obtain ⟨q0_c_0, q0_c_1, q0_c_2, q0_c_3, q0_c_4, q0_c_5, q0_c_6, q0_c_7, q0_c_8, q0_c_9, q0_c_10⟩ := rc11 e_c
  replace e_c := Lib.hid e_c
  obtain ⟨q0_s_0, q0_s_1, q0_s_2, q0_s_3, q0_s_4, q0_s_5, q0_s_6, q0_s_7⟩ := rc8 e_s
  replace e_s := Lib.hid e_s
  have hgw0 := grow_cell W
  have hK := Lib.hid (fun w => progKnown w)
  have kS : Hid (∀ w', Below w.heap.size w w' → Calls Try.prog 31 #[cavV c, stV s, .slice a xs.length cap] w' fun e w'' => e = .returned (.tuple #[.slice none 0 0, .int .i64 0, .int .i64 2]) ∧ Below w'.heap.size w' w'') := Lib.hid (fun w' hb => progStepsBad w' (hl.mono hb) (show stepsErr c s xs = 2 by unfold stepsErr; rw [if_neg (by omega)]; simp [hc, hs, ho]) (by decide))
  have kRC := Lib.hid (fun w => (refCavern c w).mono fun e w' hb => BoolB.lit hb hc)
  have kRS := Lib.hid (fun w => (refState s w).mono fun e w' hb => BoolB.lit hb hs)
  have kRO : Hid (∀ w', Below w.heap.size w w' → Calls Try.prog 26 #[.slice a xs.length cap] w' fun e w'' => e = .returned (.bool false) ∧ Below w'.heap.size w' w'') := Lib.hid (fun w' hb => by have h0 := refOps _ xs w' (hl.mono hb); rw [ho] at h0; exact h0)
  have i1 : ¬ (12 : Int) < xs.length := by omega
  have i3 : ¬ (30 : Int) < xs.length := by omega
  have i4 : ¬ (20 : Int) < xs.length := by omega
  clear h1 hl
  replace hc := Lib.hid hc; replace hs := Lib.hid hs; replace ho := Lib.hid ho
  go_enter Try.func8, Try.ntmps8
  go_wp2_with (first | (go_at_call 31; (with_reducible refine Calls.mono (kS.out _ (by first | (with_reducible exact B0.trans (g.h.mono B0.size)) | (with_reducible exact B0))) ?_); rintro e w1 ⟨rfl, hB⟩; (first | (obtain ⟨g, rfl⟩ := g.next hB) | (obtain ⟨g, rfl⟩ : ∃ g : Grow W, w1 = g.x := ⟨⟨w1, hB⟩, rfl⟩)); clear hB) | (go_at_call 17; (with_reducible refine Calls.mono (kRC.out _) ?_); rintro e w1 ⟨rfl, hB⟩; (first | (obtain ⟨g, rfl⟩ := g.next hB) | (obtain ⟨g, rfl⟩ : ∃ g : Grow W, w1 = g.x := ⟨⟨w1, hB⟩, rfl⟩)); clear hB) | (go_at_call 18; (with_reducible refine Calls.mono (kRS.out _) ?_); rintro e w1 ⟨rfl, hB⟩; (first | (obtain ⟨g, rfl⟩ := g.next hB) | (obtain ⟨g, rfl⟩ : ∃ g : Grow W, w1 = g.x := ⟨⟨w1, hB⟩, rfl⟩)); clear hB) | (go_at_call 26; (with_reducible refine Calls.mono (kRO.out _ (by first | (with_reducible exact B0.trans (g.h.mono B0.size)) | (with_reducible exact B0))) ?_); rintro e w1 ⟨rfl, hB⟩; (first | (obtain ⟨g, rfl⟩ := g.next hB) | (obtain ⟨g, rfl⟩ : ∃ g : Grow W, w1 = g.x := ⟨⟨w1, hB⟩, rfl⟩)); clear hB) | (go_at_call 20; (with_reducible refine Calls.mono (hK.out _) ?_); rintro e w1 ⟨rfl, hB⟩; (first | (obtain ⟨g, rfl⟩ := g.next hB) | (obtain ⟨g, rfl⟩ : ∃ g : Grow W, w1 = g.x := ⟨⟨w1, hB⟩, rfl⟩)); clear hB))
  go_ret
  exact ⟨rfl, B0.trans (g.h.mono B0.size)⟩

set_option maxRecDepth 100000 in
set_option maxHeartbeats 16000000 in
theorem lawSteps6 (c : Cav) (s : St) (lv : Value) (xs : List Gas.Op) (w : World) (hl : OpsAt w lv xs) (h1 : xs.length ≤ 12) (hc : c.ok = true) (hs : s.ok = true) (ho : opsB xs = true) :
    Calls Try.prog 8 #[cavV c, stV s, lv] w fun e w' => e = .returned (.bool true) ∧ Below w.heap.size w w' := by
  have hl' := hl
  obtain ⟨a, cap, rfl, hm, -⟩ := hl'
  unfold maxLen at hm
  have hm' : xs.length ≤ 9223372036854775807 := by omega
  clear hm
  obtain ⟨W1, hW1⟩ : ∃ W1, w.alloc (.cells #[.int .i64 c.vlo, .int .i64 c.vhi, .int .i64 c.least, .int .i64 c.most, .int .i64 c.f0, .int .i64 c.f1, .int .i64 c.h0, .int .i64 c.h1, .int .i64 c.rock, .int .i64 c.plo, .int .i64 c.phi] 26) = W1 := ⟨_, rfl⟩
  obtain ⟨e_c, b_c, s_c⟩ := boxed hW1
  obtain ⟨W, hW⟩ : ∃ W, W1.alloc (.cells #[.int .i64 s.glo, .int .i64 s.ghi, .int .i64 s.ylo, .int .i64 s.yhi, .int .i64 s.tlo, .int .i64 s.thi, .int .i64 s.wlo, .int .i64 s.whi] 28) = W := ⟨_, rfl⟩
  obtain ⟨e_s, b_s, s_s⟩ := boxed hW
  replace e_c := (b_s.block _ (Array.getElem?_eq_some_iff.1 e_c).1).trans e_c
  have B0 : Below w.heap.size w W := (b_c.trans (b_s.mono (by omega)))
  have z0_c := (Array.getElem?_eq_some_iff.1 e_c).1
  have z0_s := (Array.getElem?_eq_some_iff.1 e_s).1
  have le_c : w.heap.size ≤ w.heap.size := by omega
  have le_s : w.heap.size ≤ W1.heap.size := by omega
  clear s_c b_c s_s b_s
  obtain ⟨q0_c_0, q0_c_1, q0_c_2, q0_c_3, q0_c_4, q0_c_5, q0_c_6, q0_c_7, q0_c_8, q0_c_9, q0_c_10⟩ := rc11 e_c
  replace e_c := Lib.hid e_c
  obtain ⟨q0_s_0, q0_s_1, q0_s_2, q0_s_3, q0_s_4, q0_s_5, q0_s_6, q0_s_7⟩ := rc8 e_s
  replace e_s := Lib.hid e_s
  have hgw0 := grow_cell W
  have hK := Lib.hid (fun w => progKnown w)
  obtain ⟨⟨R1, R2⟩, hR⟩ : ∃ R, steps c s xs = R := ⟨_, rfl⟩
  have kS : Hid (∀ w', Below w.heap.size w w' → Calls Try.prog 31 #[cavV c, stV s, .slice a xs.length cap] w' fun e w'' => (∃ v, e = .returned (.tuple #[v, .int .i64 R2, .int .i64 0]) ∧ StsAt w'' v R1) ∧ Below w'.heap.size w' w'') := Lib.hid (fun w' hb => by have := progStepsOk w' (hl.mono hb) (Cav.ok_iff.1 hc) (St.ok_iff.1 hs) ho (by omega); rw [hR] at this; exact this)
  have kR : Hid (∀ w', Below w.heap.size w w' → Calls Try.prog 32 #[cavV c, stV s, .slice a xs.length cap] w' fun e w'' => (∃ v, e = .returned (.tuple #[v, .int .i64 R2]) ∧ StsAt w'' v R1) ∧ Below w'.heap.size w' w'') := Lib.hid (fun w' hb => by have := refSteps w' (hl.mono hb) (Cav.ok_iff.1 hc) (St.ok_iff.1 hs) ho (by omega); rw [hR] at this; exact this)
  have kRC := Lib.hid (fun w => (refCavern c w).mono fun e w' hb => BoolB.lit hb hc)
  have kRS := Lib.hid (fun w => (refState s w).mono fun e w' hb => BoolB.lit hb hs)
  have kRO : Hid (∀ w', Below w.heap.size w w' → Calls Try.prog 26 #[.slice a xs.length cap] w' fun e w'' => e = .returned (.bool true) ∧ Below w'.heap.size w' w'') := Lib.hid (fun w' hb => by have h0 := refOps _ xs w' (hl.mono hb); rw [ho] at h0; exact h0)
  clear hR
  have i1 : ¬ (12 : Int) < xs.length := by omega
  have i3 : ¬ (30 : Int) < xs.length := by omega
  have i4 : ¬ (20 : Int) < xs.length := by omega
  clear h1 hl
  replace hc := Lib.hid hc; replace hs := Lib.hid hs; replace ho := Lib.hid ho
  go_enter Try.func8, Try.ntmps8
  go_wp2_with (first | (go_at_call 31; (with_reducible refine Calls.mono (kS.out _ (by first | (with_reducible exact B0.trans (g.h.mono B0.size)) | (with_reducible exact B0))) ?_); rintro e w1 ⟨⟨v1, rfl, hat1⟩, hB⟩; (first | (obtain ⟨g, rfl⟩ := g.next hB) | (obtain ⟨g, rfl⟩ : ∃ g : Grow W, w1 = g.x := ⟨⟨w1, hB⟩, rfl⟩)); clear hB) | (go_at_call 17; (with_reducible refine Calls.mono (kRC.out _) ?_); rintro e w1 ⟨rfl, hB⟩; replace hat1 := hat1.mono hB; (first | (obtain ⟨g, rfl⟩ := g.next hB) | (obtain ⟨g, rfl⟩ : ∃ g : Grow W, w1 = g.x := ⟨⟨w1, hB⟩, rfl⟩)); clear hB) | (go_at_call 18; (with_reducible refine Calls.mono (kRS.out _) ?_); rintro e w1 ⟨rfl, hB⟩; replace hat1 := hat1.mono hB; (first | (obtain ⟨g, rfl⟩ := g.next hB) | (obtain ⟨g, rfl⟩ : ∃ g : Grow W, w1 = g.x := ⟨⟨w1, hB⟩, rfl⟩)); clear hB) | (go_at_call 26; (with_reducible refine Calls.mono (kRO.out _ (by first | (with_reducible exact B0.trans (g.h.mono B0.size)) | (with_reducible exact B0))) ?_); rintro e w1 ⟨rfl, hB⟩; replace hat1 := hat1.mono hB; (first | (obtain ⟨g, rfl⟩ := g.next hB) | (obtain ⟨g, rfl⟩ : ∃ g : Grow W, w1 = g.x := ⟨⟨w1, hB⟩, rfl⟩)); clear hB) | (go_at_call 32; (with_reducible refine Calls.mono (kR.out _ (by first | (with_reducible exact B0.trans (g.h.mono B0.size)) | (with_reducible exact B0))) ?_); rintro e w1 ⟨⟨v2, rfl, hat2⟩, hB⟩; replace hat1 := hat1.mono hB; (first | (obtain ⟨g, rfl⟩ := g.next hB) | (obtain ⟨g, rfl⟩ : ∃ g : Grow W, w1 = g.x := ⟨⟨w1, hB⟩, rfl⟩)); clear hB) | (go_at_call 33; (with_reducible refine Calls.mono ((refSame v1 v2 R1 _ hat1 hat2)) ?_); rintro e w1 ⟨rfl, hB⟩; (first | (obtain ⟨g, rfl⟩ := g.next hB) | (obtain ⟨g, rfl⟩ : ∃ g : Grow W, w1 = g.x := ⟨⟨w1, hB⟩, rfl⟩)); clear hB) | (go_at_call 20; (with_reducible refine Calls.mono (hK.out _) ?_); rintro e w1 ⟨rfl, hB⟩; (first | (obtain ⟨g, rfl⟩ := g.next hB) | (obtain ⟨g, rfl⟩ : ∃ g : Grow W, w1 = g.x := ⟨⟨w1, hB⟩, rfl⟩)); clear hB))
  go_ret
  exact ⟨rfl, B0.trans (g.h.mono B0.size)⟩

theorem lawSteps (c : Cav) (s : St) (lv : Value) (xs : List Gas.Op) (w : World) (hl : OpsAt w lv xs) :
    Calls Try.prog 8 #[cavV c, stV s, lv] w fun e w' => e = .returned (.bool true) ∧ Below w.heap.size w w' := by
  by_cases h30 : 30 < xs.length
  · exact lawSteps1 c s lv xs w hl h30
  by_cases h20 : 20 < xs.length
  · exact lawSteps2 c s lv xs w hl h20 (by omega)
  by_cases h12 : 12 < xs.length
  · exact lawSteps0 c s lv xs w hl h12 (by omega)
  cases hc : c.ok
  · exact lawSteps3 c s lv xs w hl (by omega) hc
  cases hs : s.ok
  · exact lawSteps4 c s lv xs w hl (by omega) hc hs
  cases ho : opsB xs
  · exact lawSteps5 c s lv xs w hl (by omega) hc hs ho
  · exact lawSteps6 c s lv xs w hl (by omega) hc hs ho
end Go.Proofs.Ytgmbolagciaenaa
