/- Gas: the walk of the law GasBalance. -/
import Derived.Test.YtgmbolagciaenaaKno
import Derived.Test.YtgmbolagciaenaaBal
set_option linter.unusedVariables false
set_option linter.unusedSimpArgs false
namespace Go.Proofs.Ytgmbolagciaenaa
open Go.RowKit Go.Sd Gas
theorem playErr_ok {c : Cav} {p : Pt} {l : List Gas.Op} {xa xb : List Int} (h1 : l.length ≤ 20) (h2 : c.ok = true) (h3 : p.ok = true) (h4 : opsB l = true) (h5 : truthB l xa xb = true) : playErr c p l xa xb = 0 := by
  unfold playErr
  rw [if_neg (by omega), h2, h3, h4, h5]; rfl
set_option maxRecDepth 100000 in
set_option maxHeartbeats 8000000 in
theorem lawBal0 (c : Cav) (p : Pt) (lv : Value) (l : List Gas.Op) (av : Value) (xa : List Int) (bv : Value) (xb : List Int) (w : World) (hl : OpsAt w lv l) (ha : IntsAt w av xa) (hb : IntsAt w bv xb) (g1 : 12 < l.length) :
    Calls Try.prog 6 #[cavV c, ptV p, lv, av, bv] w fun e w' => e = .returned (.bool true) ∧ Below w.heap.size w w' := by
  have hl' := hl; have ha' := ha; have hb0 := hb; have hb' := hb
  clear hb
  obtain ⟨sl, cl, rfl, hml, hcl⟩ := hl'
  obtain ⟨sa, ca, rfl, hma, hca⟩ := ha'
  obtain ⟨sb, cb, rfl, hmb, hcb⟩ := hb'
  clear hml hma hmb
  obtain ⟨W1, hW1⟩ : ∃ W1, w.alloc (.cells #[.int .i64 c.vlo, .int .i64 c.vhi, .int .i64 c.least, .int .i64 c.most, .int .i64 c.f0, .int .i64 c.f1, .int .i64 c.h0, .int .i64 c.h1, .int .i64 c.rock, .int .i64 c.plo, .int .i64 c.phi] 26) = W1 := ⟨_, rfl⟩
  obtain ⟨e_c, b_c, s_c⟩ := boxed hW1
  obtain ⟨W, hW⟩ : ∃ W, W1.alloc (.cells #[.int .i64 p.g, .int .i64 p.y, .int .i64 p.t, .int .i64 p.w] 31) = W := ⟨_, rfl⟩
  obtain ⟨e_p, b_p, s_p⟩ := boxed hW
  replace e_c := (b_p.block _ (Array.getElem?_eq_some_iff.1 e_c).1).trans e_c
  have B0 : Below w.heap.size w W := (b_c.trans (b_p.mono (by omega)))
  have z0_c := (Array.getElem?_eq_some_iff.1 e_c).1
  have z0_p := (Array.getElem?_eq_some_iff.1 e_p).1
  have le_c : w.heap.size ≤ w.heap.size := by omega
  have le_p : w.heap.size ≤ W1.heap.size := by omega
  clear s_c b_c s_p b_p
  obtain ⟨q0_c_0, q0_c_1, q0_c_2, q0_c_3, q0_c_4, q0_c_5, q0_c_6, q0_c_7, q0_c_8, q0_c_9, q0_c_10⟩ := rc11 e_c
  replace e_c := Lib.hid e_c
  obtain ⟨q0_p_0, q0_p_1, q0_p_2, q0_p_3⟩ := rc4 e_p
  replace e_p := Lib.hid e_p
  have hgw0 := grow_cell W
  have hK := Lib.hid (fun w => progKnown w)
  have i0 : (12 : Int) < (l.length : Int) := by omega
  clear g1
  replace hcl := Lib.hid hcl; replace hca := Lib.hid hca; replace hcb := Lib.hid hcb; replace hl := Lib.hid hl; replace ha := Lib.hid ha; replace hb0 := Lib.hid hb0
  go_enter Try.func6, Try.ntmps6
  go_wp2_with (first | (go_at_call 20; (with_reducible refine Calls.mono (hK.out _) ?_); rintro e w1 ⟨rfl, hB⟩; (first | (obtain ⟨g, rfl⟩ := g.next hB) | (obtain ⟨g, rfl⟩ : ∃ g : Grow W, w1 = g.x := ⟨⟨w1, hB⟩, rfl⟩)); clear hB))
  go_ret
  exact ⟨rfl, B0.trans (g.h.mono B0.size)⟩

set_option maxRecDepth 100000 in
set_option maxHeartbeats 8000000 in
theorem lawBal1 (c : Cav) (p : Pt) (lv : Value) (l : List Gas.Op) (av : Value) (xa : List Int) (bv : Value) (xb : List Int) (w : World) (hl : OpsAt w lv l) (ha : IntsAt w av xa) (hb : IntsAt w bv xb) (g1 : ¬ 12 < l.length) (g2 : 20 < xa.length) :
    Calls Try.prog 6 #[cavV c, ptV p, lv, av, bv] w fun e w' => e = .returned (.bool true) ∧ Below w.heap.size w w' := by
  have hl' := hl; have ha' := ha; have hb0 := hb; have hb' := hb
  clear hb
  obtain ⟨sl, cl, rfl, hml, hcl⟩ := hl'
  obtain ⟨sa, ca, rfl, hma, hca⟩ := ha'
  obtain ⟨sb, cb, rfl, hmb, hcb⟩ := hb'
  clear hml hma hmb
  obtain ⟨W1, hW1⟩ : ∃ W1, w.alloc (.cells #[.int .i64 c.vlo, .int .i64 c.vhi, .int .i64 c.least, .int .i64 c.most, .int .i64 c.f0, .int .i64 c.f1, .int .i64 c.h0, .int .i64 c.h1, .int .i64 c.rock, .int .i64 c.plo, .int .i64 c.phi] 26) = W1 := ⟨_, rfl⟩
  obtain ⟨e_c, b_c, s_c⟩ := boxed hW1
  obtain ⟨W, hW⟩ : ∃ W, W1.alloc (.cells #[.int .i64 p.g, .int .i64 p.y, .int .i64 p.t, .int .i64 p.w] 31) = W := ⟨_, rfl⟩
  obtain ⟨e_p, b_p, s_p⟩ := boxed hW
  replace e_c := (b_p.block _ (Array.getElem?_eq_some_iff.1 e_c).1).trans e_c
  have B0 : Below w.heap.size w W := (b_c.trans (b_p.mono (by omega)))
  have z0_c := (Array.getElem?_eq_some_iff.1 e_c).1
  have z0_p := (Array.getElem?_eq_some_iff.1 e_p).1
  have le_c : w.heap.size ≤ w.heap.size := by omega
  have le_p : w.heap.size ≤ W1.heap.size := by omega
  clear s_c b_c s_p b_p
  obtain ⟨q0_c_0, q0_c_1, q0_c_2, q0_c_3, q0_c_4, q0_c_5, q0_c_6, q0_c_7, q0_c_8, q0_c_9, q0_c_10⟩ := rc11 e_c
  replace e_c := Lib.hid e_c
  obtain ⟨q0_p_0, q0_p_1, q0_p_2, q0_p_3⟩ := rc4 e_p
  replace e_p := Lib.hid e_p
  have hgw0 := grow_cell W
  have hK := Lib.hid (fun w => progKnown w)
  have i0 : ¬ (12 : Int) < (l.length : Int) := by omega
  clear g1
  have i1 : (20 : Int) < (xa.length : Int) := by omega
  clear g2
  replace hcl := Lib.hid hcl; replace hca := Lib.hid hca; replace hcb := Lib.hid hcb; replace hl := Lib.hid hl; replace ha := Lib.hid ha; replace hb0 := Lib.hid hb0
  go_enter Try.func6, Try.ntmps6
  go_wp2_with (first | (go_at_call 20; (with_reducible refine Calls.mono (hK.out _) ?_); rintro e w1 ⟨rfl, hB⟩; (first | (obtain ⟨g, rfl⟩ := g.next hB) | (obtain ⟨g, rfl⟩ : ∃ g : Grow W, w1 = g.x := ⟨⟨w1, hB⟩, rfl⟩)); clear hB))
  go_ret
  exact ⟨rfl, B0.trans (g.h.mono B0.size)⟩

set_option maxRecDepth 100000 in
set_option maxHeartbeats 8000000 in
theorem lawBal2 (c : Cav) (p : Pt) (lv : Value) (l : List Gas.Op) (av : Value) (xa : List Int) (bv : Value) (xb : List Int) (w : World) (hl : OpsAt w lv l) (ha : IntsAt w av xa) (hb : IntsAt w bv xb) (g1 : ¬ 12 < l.length) (g2 : ¬ 20 < xa.length) (g3 : 20 < xb.length) :
    Calls Try.prog 6 #[cavV c, ptV p, lv, av, bv] w fun e w' => e = .returned (.bool true) ∧ Below w.heap.size w w' := by
  have hl' := hl; have ha' := ha; have hb0 := hb; have hb' := hb
  clear hb
  obtain ⟨sl, cl, rfl, hml, hcl⟩ := hl'
  obtain ⟨sa, ca, rfl, hma, hca⟩ := ha'
  obtain ⟨sb, cb, rfl, hmb, hcb⟩ := hb'
  clear hml hma hmb
  obtain ⟨W1, hW1⟩ : ∃ W1, w.alloc (.cells #[.int .i64 c.vlo, .int .i64 c.vhi, .int .i64 c.least, .int .i64 c.most, .int .i64 c.f0, .int .i64 c.f1, .int .i64 c.h0, .int .i64 c.h1, .int .i64 c.rock, .int .i64 c.plo, .int .i64 c.phi] 26) = W1 := ⟨_, rfl⟩
  obtain ⟨e_c, b_c, s_c⟩ := boxed hW1
  obtain ⟨W, hW⟩ : ∃ W, W1.alloc (.cells #[.int .i64 p.g, .int .i64 p.y, .int .i64 p.t, .int .i64 p.w] 31) = W := ⟨_, rfl⟩
  obtain ⟨e_p, b_p, s_p⟩ := boxed hW
  replace e_c := (b_p.block _ (Array.getElem?_eq_some_iff.1 e_c).1).trans e_c
  have B0 : Below w.heap.size w W := (b_c.trans (b_p.mono (by omega)))
  have z0_c := (Array.getElem?_eq_some_iff.1 e_c).1
  have z0_p := (Array.getElem?_eq_some_iff.1 e_p).1
  have le_c : w.heap.size ≤ w.heap.size := by omega
  have le_p : w.heap.size ≤ W1.heap.size := by omega
  clear s_c b_c s_p b_p
  obtain ⟨q0_c_0, q0_c_1, q0_c_2, q0_c_3, q0_c_4, q0_c_5, q0_c_6, q0_c_7, q0_c_8, q0_c_9, q0_c_10⟩ := rc11 e_c
  replace e_c := Lib.hid e_c
  obtain ⟨q0_p_0, q0_p_1, q0_p_2, q0_p_3⟩ := rc4 e_p
  replace e_p := Lib.hid e_p
  have hgw0 := grow_cell W
  have hK := Lib.hid (fun w => progKnown w)
  have i0 : ¬ (12 : Int) < (l.length : Int) := by omega
  clear g1
  have i1 : ¬ (20 : Int) < (xa.length : Int) := by omega
  clear g2
  have i2 : (20 : Int) < (xb.length : Int) := by omega
  clear g3
  replace hcl := Lib.hid hcl; replace hca := Lib.hid hca; replace hcb := Lib.hid hcb; replace hl := Lib.hid hl; replace ha := Lib.hid ha; replace hb0 := Lib.hid hb0
  go_enter Try.func6, Try.ntmps6
  go_wp2_with (first | (go_at_call 20; (with_reducible refine Calls.mono (hK.out _) ?_); rintro e w1 ⟨rfl, hB⟩; (first | (obtain ⟨g, rfl⟩ := g.next hB) | (obtain ⟨g, rfl⟩ : ∃ g : Grow W, w1 = g.x := ⟨⟨w1, hB⟩, rfl⟩)); clear hB))
  go_ret
  exact ⟨rfl, B0.trans (g.h.mono B0.size)⟩

set_option maxRecDepth 100000 in
set_option maxHeartbeats 8000000 in
theorem lawBal3 (c : Cav) (p : Pt) (lv : Value) (l : List Gas.Op) (av : Value) (xa : List Int) (bv : Value) (xb : List Int) (w : World) (hl : OpsAt w lv l) (ha : IntsAt w av xa) (hb : IntsAt w bv xb) (g1 : ¬ 12 < l.length) (g2 : ¬ 20 < xa.length) (g3 : ¬ 20 < xb.length) (hc : c.ok = false) :
    Calls Try.prog 6 #[cavV c, ptV p, lv, av, bv] w fun e w' => e = .returned (.bool true) ∧ Below w.heap.size w w' := by
  have hl' := hl; have ha' := ha; have hb0 := hb; have hb' := hb
  clear hb
  obtain ⟨sl, cl, rfl, hml, hcl⟩ := hl'
  obtain ⟨sa, ca, rfl, hma, hca⟩ := ha'
  obtain ⟨sb, cb, rfl, hmb, hcb⟩ := hb'
  clear hml hma hmb
  obtain ⟨W1, hW1⟩ : ∃ W1, w.alloc (.cells #[.int .i64 c.vlo, .int .i64 c.vhi, .int .i64 c.least, .int .i64 c.most, .int .i64 c.f0, .int .i64 c.f1, .int .i64 c.h0, .int .i64 c.h1, .int .i64 c.rock, .int .i64 c.plo, .int .i64 c.phi] 26) = W1 := ⟨_, rfl⟩
  obtain ⟨e_c, b_c, s_c⟩ := boxed hW1
  obtain ⟨W, hW⟩ : ∃ W, W1.alloc (.cells #[.int .i64 p.g, .int .i64 p.y, .int .i64 p.t, .int .i64 p.w] 31) = W := ⟨_, rfl⟩
  obtain ⟨e_p, b_p, s_p⟩ := boxed hW
  replace e_c := (b_p.block _ (Array.getElem?_eq_some_iff.1 e_c).1).trans e_c
  have B0 : Below w.heap.size w W := (b_c.trans (b_p.mono (by omega)))
  have z0_c := (Array.getElem?_eq_some_iff.1 e_c).1
  have z0_p := (Array.getElem?_eq_some_iff.1 e_p).1
  have le_c : w.heap.size ≤ w.heap.size := by omega
  have le_p : w.heap.size ≤ W1.heap.size := by omega
  clear s_c b_c s_p b_p
  obtain ⟨q0_c_0, q0_c_1, q0_c_2, q0_c_3, q0_c_4, q0_c_5, q0_c_6, q0_c_7, q0_c_8, q0_c_9, q0_c_10⟩ := rc11 e_c
  replace e_c := Lib.hid e_c
  obtain ⟨q0_p_0, q0_p_1, q0_p_2, q0_p_3⟩ := rc4 e_p
  replace e_p := Lib.hid e_p
  have hgw0 := grow_cell W
  have hK := Lib.hid (fun w => progKnown w)
  have i0 : ¬ (12 : Int) < (l.length : Int) := by omega
  clear g1
  have i1 : ¬ (20 : Int) < (xa.length : Int) := by omega
  clear g2
  have i2 : ¬ (20 : Int) < (xb.length : Int) := by omega
  clear g3
  have kRC := Lib.hid (fun w => (refCavern c w).mono fun e w' hb => BoolB.lit hb hc)
  replace hcl := Lib.hid hcl; replace hca := Lib.hid hca; replace hcb := Lib.hid hcb; replace hl := Lib.hid hl; replace ha := Lib.hid ha; replace hb0 := Lib.hid hb0
  replace hc := Lib.hid hc
  go_enter Try.func6, Try.ntmps6
  go_wp2_with (first | (go_at_call 17; (with_reducible refine Calls.mono (kRC.out _) ?_); rintro e w1 ⟨rfl, hB⟩; (first | (obtain ⟨g, rfl⟩ := g.next hB) | (obtain ⟨g, rfl⟩ : ∃ g : Grow W, w1 = g.x := ⟨⟨w1, hB⟩, rfl⟩)); clear hB) | (go_at_call 20; (with_reducible refine Calls.mono (hK.out _) ?_); rintro e w1 ⟨rfl, hB⟩; (first | (obtain ⟨g, rfl⟩ := g.next hB) | (obtain ⟨g, rfl⟩ : ∃ g : Grow W, w1 = g.x := ⟨⟨w1, hB⟩, rfl⟩)); clear hB))
  go_ret
  exact ⟨rfl, B0.trans (g.h.mono B0.size)⟩

set_option maxRecDepth 100000 in
set_option maxHeartbeats 8000000 in
theorem lawBal4 (c : Cav) (p : Pt) (lv : Value) (l : List Gas.Op) (av : Value) (xa : List Int) (bv : Value) (xb : List Int) (w : World) (hl : OpsAt w lv l) (ha : IntsAt w av xa) (hb : IntsAt w bv xb) (g1 : ¬ 12 < l.length) (g2 : ¬ 20 < xa.length) (g3 : ¬ 20 < xb.length) (hc : c.ok = true) (hp : p.ok = false) :
    Calls Try.prog 6 #[cavV c, ptV p, lv, av, bv] w fun e w' => e = .returned (.bool true) ∧ Below w.heap.size w w' := by
  have hl' := hl; have ha' := ha; have hb0 := hb; have hb' := hb
  clear hb
  obtain ⟨sl, cl, rfl, hml, hcl⟩ := hl'
  obtain ⟨sa, ca, rfl, hma, hca⟩ := ha'
  obtain ⟨sb, cb, rfl, hmb, hcb⟩ := hb'
  clear hml hma hmb
  obtain ⟨W1, hW1⟩ : ∃ W1, w.alloc (.cells #[.int .i64 c.vlo, .int .i64 c.vhi, .int .i64 c.least, .int .i64 c.most, .int .i64 c.f0, .int .i64 c.f1, .int .i64 c.h0, .int .i64 c.h1, .int .i64 c.rock, .int .i64 c.plo, .int .i64 c.phi] 26) = W1 := ⟨_, rfl⟩
  obtain ⟨e_c, b_c, s_c⟩ := boxed hW1
  obtain ⟨W, hW⟩ : ∃ W, W1.alloc (.cells #[.int .i64 p.g, .int .i64 p.y, .int .i64 p.t, .int .i64 p.w] 31) = W := ⟨_, rfl⟩
  obtain ⟨e_p, b_p, s_p⟩ := boxed hW
  replace e_c := (b_p.block _ (Array.getElem?_eq_some_iff.1 e_c).1).trans e_c
  have B0 : Below w.heap.size w W := (b_c.trans (b_p.mono (by omega)))
  have z0_c := (Array.getElem?_eq_some_iff.1 e_c).1
  have z0_p := (Array.getElem?_eq_some_iff.1 e_p).1
  have le_c : w.heap.size ≤ w.heap.size := by omega
  have le_p : w.heap.size ≤ W1.heap.size := by omega
  clear s_c b_c s_p b_p
  obtain ⟨q0_c_0, q0_c_1, q0_c_2, q0_c_3, q0_c_4, q0_c_5, q0_c_6, q0_c_7, q0_c_8, q0_c_9, q0_c_10⟩ := rc11 e_c
  replace e_c := Lib.hid e_c
  obtain ⟨q0_p_0, q0_p_1, q0_p_2, q0_p_3⟩ := rc4 e_p
  replace e_p := Lib.hid e_p
  have hgw0 := grow_cell W
  have hK := Lib.hid (fun w => progKnown w)
  have i0 : ¬ (12 : Int) < (l.length : Int) := by omega
  clear g1
  have i1 : ¬ (20 : Int) < (xa.length : Int) := by omega
  clear g2
  have i2 : ¬ (20 : Int) < (xb.length : Int) := by omega
  clear g3
  have kRC := Lib.hid (fun w => (refCavern c w).mono fun e w' hb => BoolB.lit hb hc)
  have kRP := Lib.hid (fun w => (refPoint p w).mono fun e w' hb => BoolB.lit hb hp)
  replace hcl := Lib.hid hcl; replace hca := Lib.hid hca; replace hcb := Lib.hid hcb; replace hl := Lib.hid hl; replace ha := Lib.hid ha; replace hb0 := Lib.hid hb0
  replace hc := Lib.hid hc; replace hp := Lib.hid hp
  go_enter Try.func6, Try.ntmps6
  go_wp2_with (first | (go_at_call 17; (with_reducible refine Calls.mono (kRC.out _) ?_); rintro e w1 ⟨rfl, hB⟩; (first | (obtain ⟨g, rfl⟩ := g.next hB) | (obtain ⟨g, rfl⟩ : ∃ g : Grow W, w1 = g.x := ⟨⟨w1, hB⟩, rfl⟩)); clear hB) | (go_at_call 25; (with_reducible refine Calls.mono (kRP.out _) ?_); rintro e w1 ⟨rfl, hB⟩; (first | (obtain ⟨g, rfl⟩ := g.next hB) | (obtain ⟨g, rfl⟩ : ∃ g : Grow W, w1 = g.x := ⟨⟨w1, hB⟩, rfl⟩)); clear hB) | (go_at_call 20; (with_reducible refine Calls.mono (hK.out _) ?_); rintro e w1 ⟨rfl, hB⟩; (first | (obtain ⟨g, rfl⟩ := g.next hB) | (obtain ⟨g, rfl⟩ : ∃ g : Grow W, w1 = g.x := ⟨⟨w1, hB⟩, rfl⟩)); clear hB))
  go_ret
  exact ⟨rfl, B0.trans (g.h.mono B0.size)⟩

set_option maxRecDepth 100000 in
set_option maxHeartbeats 8000000 in
theorem lawBal5 (c : Cav) (p : Pt) (lv : Value) (l : List Gas.Op) (av : Value) (xa : List Int) (bv : Value) (xb : List Int) (w : World) (hl : OpsAt w lv l) (ha : IntsAt w av xa) (hb : IntsAt w bv xb) (g1 : ¬ 12 < l.length) (g2 : ¬ 20 < xa.length) (g3 : ¬ 20 < xb.length) (hc : c.ok = true) (hp : p.ok = true) (ho : opsB l = false) :
    Calls Try.prog 6 #[cavV c, ptV p, lv, av, bv] w fun e w' => e = .returned (.bool true) ∧ Below w.heap.size w w' := by
  have hl' := hl; have ha' := ha; have hb0 := hb; have hb' := hb
  clear hb
  obtain ⟨sl, cl, rfl, hml, hcl⟩ := hl'
  obtain ⟨sa, ca, rfl, hma, hca⟩ := ha'
  obtain ⟨sb, cb, rfl, hmb, hcb⟩ := hb'
  clear hml hma hmb
  obtain ⟨W1, hW1⟩ : ∃ W1, w.alloc (.cells #[.int .i64 c.vlo, .int .i64 c.vhi, .int .i64 c.least, .int .i64 c.most, .int .i64 c.f0, .int .i64 c.f1, .int .i64 c.h0, .int .i64 c.h1, .int .i64 c.rock, .int .i64 c.plo, .int .i64 c.phi] 26) = W1 := ⟨_, rfl⟩
  obtain ⟨e_c, b_c, s_c⟩ := boxed hW1
  obtain ⟨W, hW⟩ : ∃ W, W1.alloc (.cells #[.int .i64 p.g, .int .i64 p.y, .int .i64 p.t, .int .i64 p.w] 31) = W := ⟨_, rfl⟩
  obtain ⟨e_p, b_p, s_p⟩ := boxed hW
  replace e_c := (b_p.block _ (Array.getElem?_eq_some_iff.1 e_c).1).trans e_c
  have B0 : Below w.heap.size w W := (b_c.trans (b_p.mono (by omega)))
  have z0_c := (Array.getElem?_eq_some_iff.1 e_c).1
  have z0_p := (Array.getElem?_eq_some_iff.1 e_p).1
  have le_c : w.heap.size ≤ w.heap.size := by omega
  have le_p : w.heap.size ≤ W1.heap.size := by omega
  clear s_c b_c s_p b_p
  obtain ⟨q0_c_0, q0_c_1, q0_c_2, q0_c_3, q0_c_4, q0_c_5, q0_c_6, q0_c_7, q0_c_8, q0_c_9, q0_c_10⟩ := rc11 e_c
  replace e_c := Lib.hid e_c
  obtain ⟨q0_p_0, q0_p_1, q0_p_2, q0_p_3⟩ := rc4 e_p
  replace e_p := Lib.hid e_p
  have hgw0 := grow_cell W
  have hK := Lib.hid (fun w => progKnown w)
  have i0 : ¬ (12 : Int) < (l.length : Int) := by omega
  clear g1
  have i1 : ¬ (20 : Int) < (xa.length : Int) := by omega
  clear g2
  have i2 : ¬ (20 : Int) < (xb.length : Int) := by omega
  clear g3
  have kRC := Lib.hid (fun w => (refCavern c w).mono fun e w' hb => BoolB.lit hb hc)
  have kRP := Lib.hid (fun w => (refPoint p w).mono fun e w' hb => BoolB.lit hb hp)
  have kRO : Hid (∀ w', Below w.heap.size w w' → Calls Try.prog 26 #[.slice sl l.length cl] w' fun e w'' => e = .returned (.bool false) ∧ Below w'.heap.size w' w'') := Lib.hid (fun w' hb => by have h0 := refOps _ l w' (hl.mono hb); rw [ho] at h0; exact h0)
  replace hcl := Lib.hid hcl; replace hca := Lib.hid hca; replace hcb := Lib.hid hcb; replace hl := Lib.hid hl; replace ha := Lib.hid ha; replace hb0 := Lib.hid hb0
  replace hc := Lib.hid hc; replace hp := Lib.hid hp; replace ho := Lib.hid ho
  go_enter Try.func6, Try.ntmps6
  go_wp2_with (first | (go_at_call 17; (with_reducible refine Calls.mono (kRC.out _) ?_); rintro e w1 ⟨rfl, hB⟩; (first | (obtain ⟨g, rfl⟩ := g.next hB) | (obtain ⟨g, rfl⟩ : ∃ g : Grow W, w1 = g.x := ⟨⟨w1, hB⟩, rfl⟩)); clear hB) | (go_at_call 25; (with_reducible refine Calls.mono (kRP.out _) ?_); rintro e w1 ⟨rfl, hB⟩; (first | (obtain ⟨g, rfl⟩ := g.next hB) | (obtain ⟨g, rfl⟩ : ∃ g : Grow W, w1 = g.x := ⟨⟨w1, hB⟩, rfl⟩)); clear hB) | (go_at_call 26; (with_reducible refine Calls.mono (kRO.out _ (by first | (with_reducible exact B0.trans (g.h.mono B0.size)) | (with_reducible exact B0))) ?_); rintro e w1 ⟨rfl, hB⟩; (first | (obtain ⟨g, rfl⟩ := g.next hB) | (obtain ⟨g, rfl⟩ : ∃ g : Grow W, w1 = g.x := ⟨⟨w1, hB⟩, rfl⟩)); clear hB) | (go_at_call 20; (with_reducible refine Calls.mono (hK.out _) ?_); rintro e w1 ⟨rfl, hB⟩; (first | (obtain ⟨g, rfl⟩ := g.next hB) | (obtain ⟨g, rfl⟩ : ∃ g : Grow W, w1 = g.x := ⟨⟨w1, hB⟩, rfl⟩)); clear hB))
  go_ret
  exact ⟨rfl, B0.trans (g.h.mono B0.size)⟩

set_option maxRecDepth 100000 in
set_option maxHeartbeats 8000000 in
theorem lawBal6 (c : Cav) (p : Pt) (lv : Value) (l : List Gas.Op) (av : Value) (xa : List Int) (bv : Value) (xb : List Int) (w : World) (hl : OpsAt w lv l) (ha : IntsAt w av xa) (hb : IntsAt w bv xb) (g1 : ¬ 12 < l.length) (g2 : ¬ 20 < xa.length) (g3 : ¬ 20 < xb.length) (hc : c.ok = true) (hp : p.ok = true) (ho : opsB l = true) (ht : truthB l xa xb = false) :
    Calls Try.prog 6 #[cavV c, ptV p, lv, av, bv] w fun e w' => e = .returned (.bool true) ∧ Below w.heap.size w w' := by
  have hl' := hl; have ha' := ha; have hb0 := hb; have hb' := hb
  clear hb
  obtain ⟨sl, cl, rfl, hml, hcl⟩ := hl'
  obtain ⟨sa, ca, rfl, hma, hca⟩ := ha'
  obtain ⟨sb, cb, rfl, hmb, hcb⟩ := hb'
  clear hml hma hmb
  obtain ⟨W1, hW1⟩ : ∃ W1, w.alloc (.cells #[.int .i64 c.vlo, .int .i64 c.vhi, .int .i64 c.least, .int .i64 c.most, .int .i64 c.f0, .int .i64 c.f1, .int .i64 c.h0, .int .i64 c.h1, .int .i64 c.rock, .int .i64 c.plo, .int .i64 c.phi] 26) = W1 := ⟨_, rfl⟩
  obtain ⟨e_c, b_c, s_c⟩ := boxed hW1
  obtain ⟨W, hW⟩ : ∃ W, W1.alloc (.cells #[.int .i64 p.g, .int .i64 p.y, .int .i64 p.t, .int .i64 p.w] 31) = W := ⟨_, rfl⟩
  obtain ⟨e_p, b_p, s_p⟩ := boxed hW
  replace e_c := (b_p.block _ (Array.getElem?_eq_some_iff.1 e_c).1).trans e_c
  have B0 : Below w.heap.size w W := (b_c.trans (b_p.mono (by omega)))
  have z0_c := (Array.getElem?_eq_some_iff.1 e_c).1
  have z0_p := (Array.getElem?_eq_some_iff.1 e_p).1
  have le_c : w.heap.size ≤ w.heap.size := by omega
  have le_p : w.heap.size ≤ W1.heap.size := by omega
  clear s_c b_c s_p b_p
  obtain ⟨q0_c_0, q0_c_1, q0_c_2, q0_c_3, q0_c_4, q0_c_5, q0_c_6, q0_c_7, q0_c_8, q0_c_9, q0_c_10⟩ := rc11 e_c
  replace e_c := Lib.hid e_c
  obtain ⟨q0_p_0, q0_p_1, q0_p_2, q0_p_3⟩ := rc4 e_p
  replace e_p := Lib.hid e_p
  have hgw0 := grow_cell W
  have hK := Lib.hid (fun w => progKnown w)
  have i0 : ¬ (12 : Int) < (l.length : Int) := by omega
  clear g1
  have i1 : ¬ (20 : Int) < (xa.length : Int) := by omega
  clear g2
  have i2 : ¬ (20 : Int) < (xb.length : Int) := by omega
  clear g3
  have kRC := Lib.hid (fun w => (refCavern c w).mono fun e w' hb => BoolB.lit hb hc)
  have kRP := Lib.hid (fun w => (refPoint p w).mono fun e w' hb => BoolB.lit hb hp)
  have kRO : Hid (∀ w', Below w.heap.size w w' → Calls Try.prog 26 #[.slice sl l.length cl] w' fun e w'' => e = .returned (.bool true) ∧ Below w'.heap.size w' w'') := Lib.hid (fun w' hb => by have h0 := refOps _ l w' (hl.mono hb); rw [ho] at h0; exact h0)
  have kRT : Hid (∀ w', Below w.heap.size w w' → Calls Try.prog 27 #[.slice sl l.length cl, .slice sa xa.length ca, .slice sb xb.length cb] w' fun e w'' => e = .returned (.bool false) ∧ Below w'.heap.size w' w'') := Lib.hid (fun w' hb => by have h0 := refTruth _ _ _ l xa xb w' (hl.mono hb) (ha.mono hb) (hb0.mono hb); rw [ht] at h0; exact h0)
  replace hcl := Lib.hid hcl; replace hca := Lib.hid hca; replace hcb := Lib.hid hcb; replace hl := Lib.hid hl; replace ha := Lib.hid ha; replace hb0 := Lib.hid hb0
  replace hc := Lib.hid hc; replace hp := Lib.hid hp; replace ho := Lib.hid ho; replace ht := Lib.hid ht
  go_enter Try.func6, Try.ntmps6
  go_wp2_with (first | (go_at_call 17; (with_reducible refine Calls.mono (kRC.out _) ?_); rintro e w1 ⟨rfl, hB⟩; (first | (obtain ⟨g, rfl⟩ := g.next hB) | (obtain ⟨g, rfl⟩ : ∃ g : Grow W, w1 = g.x := ⟨⟨w1, hB⟩, rfl⟩)); clear hB) | (go_at_call 25; (with_reducible refine Calls.mono (kRP.out _) ?_); rintro e w1 ⟨rfl, hB⟩; (first | (obtain ⟨g, rfl⟩ := g.next hB) | (obtain ⟨g, rfl⟩ : ∃ g : Grow W, w1 = g.x := ⟨⟨w1, hB⟩, rfl⟩)); clear hB) | (go_at_call 26; (with_reducible refine Calls.mono (kRO.out _ (by first | (with_reducible exact B0.trans (g.h.mono B0.size)) | (with_reducible exact B0))) ?_); rintro e w1 ⟨rfl, hB⟩; (first | (obtain ⟨g, rfl⟩ := g.next hB) | (obtain ⟨g, rfl⟩ : ∃ g : Grow W, w1 = g.x := ⟨⟨w1, hB⟩, rfl⟩)); clear hB) | (go_at_call 27; (with_reducible refine Calls.mono (kRT.out _ (by first | (with_reducible exact B0.trans (g.h.mono B0.size)) | (with_reducible exact B0))) ?_); rintro e w1 ⟨rfl, hB⟩; (first | (obtain ⟨g, rfl⟩ := g.next hB) | (obtain ⟨g, rfl⟩ : ∃ g : Grow W, w1 = g.x := ⟨⟨w1, hB⟩, rfl⟩)); clear hB) | (go_at_call 20; (with_reducible refine Calls.mono (hK.out _) ?_); rintro e w1 ⟨rfl, hB⟩; (first | (obtain ⟨g, rfl⟩ := g.next hB) | (obtain ⟨g, rfl⟩ : ∃ g : Grow W, w1 = g.x := ⟨⟨w1, hB⟩, rfl⟩)); clear hB))
  go_ret
  exact ⟨rfl, B0.trans (g.h.mono B0.size)⟩

set_option maxRecDepth 100000 in
set_option maxHeartbeats 8000000 in
theorem lawBal7 (c : Cav) (p : Pt) (lv : Value) (l : List Gas.Op) (av : Value) (xa : List Int) (bv : Value) (xb : List Int) (w : World) (hl : OpsAt w lv l) (ha : IntsAt w av xa) (hb : IntsAt w bv xb) (g1 : ¬ 12 < l.length) (g2 : ¬ 20 < xa.length) (g3 : ¬ 20 < xb.length) (hc : c.ok = true) (hp : p.ok = true) (ho : opsB l = true) (ht : truthB l xa xb = true) (hpl : play c p l xa xb = none) :
    Calls Try.prog 6 #[cavV c, ptV p, lv, av, bv] w fun e w' => e = .returned (.bool true) ∧ Below w.heap.size w w' := by
  have hl' := hl; have ha' := ha; have hb0 := hb; have hb' := hb
  clear hb
  obtain ⟨sl, cl, rfl, hml, hcl⟩ := hl'
  obtain ⟨sa, ca, rfl, hma, hca⟩ := ha'
  obtain ⟨sb, cb, rfl, hmb, hcb⟩ := hb'
  clear hml hma hmb
  obtain ⟨W1, hW1⟩ : ∃ W1, w.alloc (.cells #[.int .i64 c.vlo, .int .i64 c.vhi, .int .i64 c.least, .int .i64 c.most, .int .i64 c.f0, .int .i64 c.f1, .int .i64 c.h0, .int .i64 c.h1, .int .i64 c.rock, .int .i64 c.plo, .int .i64 c.phi] 26) = W1 := ⟨_, rfl⟩
  obtain ⟨e_c, b_c, s_c⟩ := boxed hW1
  obtain ⟨W, hW⟩ : ∃ W, W1.alloc (.cells #[.int .i64 p.g, .int .i64 p.y, .int .i64 p.t, .int .i64 p.w] 31) = W := ⟨_, rfl⟩
  obtain ⟨e_p, b_p, s_p⟩ := boxed hW
  replace e_c := (b_p.block _ (Array.getElem?_eq_some_iff.1 e_c).1).trans e_c
  have B0 : Below w.heap.size w W := (b_c.trans (b_p.mono (by omega)))
  have z0_c := (Array.getElem?_eq_some_iff.1 e_c).1
  have z0_p := (Array.getElem?_eq_some_iff.1 e_p).1
  have le_c : w.heap.size ≤ w.heap.size := by omega
  have le_p : w.heap.size ≤ W1.heap.size := by omega
  clear s_c b_c s_p b_p
  obtain ⟨q0_c_0, q0_c_1, q0_c_2, q0_c_3, q0_c_4, q0_c_5, q0_c_6, q0_c_7, q0_c_8, q0_c_9, q0_c_10⟩ := rc11 e_c
  replace e_c := Lib.hid e_c
  obtain ⟨q0_p_0, q0_p_1, q0_p_2, q0_p_3⟩ := rc4 e_p
  replace e_p := Lib.hid e_p
  have hgw0 := grow_cell W
  have hK := Lib.hid (fun w => progKnown w)
  have he : playErr c p l xa xb = 0 := playErr_ok (by omega) hc hp ho ht
  have kPl : Hid (∀ w', Below w.heap.size w w' → Calls Try.prog 23 #[cavV c, ptV p, .slice sl l.length cl, .slice sa xa.length ca, .slice sb xb.length cb] w' fun e w'' => e = .returned (.tuple #[ptV pt0, ptV pt0, .int .i64 7]) ∧ Below w'.heap.size w' w'') := Lib.hid (fun w' hb => progPlayNone w' (hl.mono hb) (ha.mono hb) (hb0.mono hb) he hpl)
  have i0 : ¬ (12 : Int) < (l.length : Int) := by omega
  clear g1
  have i1 : ¬ (20 : Int) < (xa.length : Int) := by omega
  clear g2
  have i2 : ¬ (20 : Int) < (xb.length : Int) := by omega
  clear g3
  have kRC := Lib.hid (fun w => (refCavern c w).mono fun e w' hb => BoolB.lit hb hc)
  have kRP := Lib.hid (fun w => (refPoint p w).mono fun e w' hb => BoolB.lit hb hp)
  have kRO : Hid (∀ w', Below w.heap.size w w' → Calls Try.prog 26 #[.slice sl l.length cl] w' fun e w'' => e = .returned (.bool true) ∧ Below w'.heap.size w' w'') := Lib.hid (fun w' hb => by have h0 := refOps _ l w' (hl.mono hb); rw [ho] at h0; exact h0)
  have kRT : Hid (∀ w', Below w.heap.size w w' → Calls Try.prog 27 #[.slice sl l.length cl, .slice sa xa.length ca, .slice sb xb.length cb] w' fun e w'' => e = .returned (.bool true) ∧ Below w'.heap.size w' w'') := Lib.hid (fun w' hb => by have h0 := refTruth _ _ _ l xa xb w' (hl.mono hb) (ha.mono hb) (hb0.mono hb); rw [ht] at h0; exact h0)
  replace hcl := Lib.hid hcl; replace hca := Lib.hid hca; replace hcb := Lib.hid hcb; replace hl := Lib.hid hl; replace ha := Lib.hid ha; replace hb0 := Lib.hid hb0
  replace hc := Lib.hid hc; replace hp := Lib.hid hp; replace ho := Lib.hid ho; replace ht := Lib.hid ht
  replace hpl := Lib.hid hpl; replace he := Lib.hid he
  go_enter Try.func6, Try.ntmps6
  go_wp2_with (first | (go_at_call 17; (with_reducible refine Calls.mono (kRC.out _) ?_); rintro e w1 ⟨rfl, hB⟩; (first | (obtain ⟨g, rfl⟩ := g.next hB) | (obtain ⟨g, rfl⟩ : ∃ g : Grow W, w1 = g.x := ⟨⟨w1, hB⟩, rfl⟩)); clear hB) | (go_at_call 25; (with_reducible refine Calls.mono (kRP.out _) ?_); rintro e w1 ⟨rfl, hB⟩; (first | (obtain ⟨g, rfl⟩ := g.next hB) | (obtain ⟨g, rfl⟩ : ∃ g : Grow W, w1 = g.x := ⟨⟨w1, hB⟩, rfl⟩)); clear hB) | (go_at_call 26; (with_reducible refine Calls.mono (kRO.out _ (by first | (with_reducible exact B0.trans (g.h.mono B0.size)) | (with_reducible exact B0))) ?_); rintro e w1 ⟨rfl, hB⟩; (first | (obtain ⟨g, rfl⟩ := g.next hB) | (obtain ⟨g, rfl⟩ : ∃ g : Grow W, w1 = g.x := ⟨⟨w1, hB⟩, rfl⟩)); clear hB) | (go_at_call 27; (with_reducible refine Calls.mono (kRT.out _ (by first | (with_reducible exact B0.trans (g.h.mono B0.size)) | (with_reducible exact B0))) ?_); rintro e w1 ⟨rfl, hB⟩; (first | (obtain ⟨g, rfl⟩ := g.next hB) | (obtain ⟨g, rfl⟩ : ∃ g : Grow W, w1 = g.x := ⟨⟨w1, hB⟩, rfl⟩)); clear hB) | (go_at_call 23; (with_reducible refine Calls.mono (kPl.out _ (by first | (with_reducible exact B0.trans (g.h.mono B0.size)) | (with_reducible exact B0))) ?_); rintro e w1 ⟨rfl, hB⟩; (first | (obtain ⟨g, rfl⟩ := g.next hB) | (obtain ⟨g, rfl⟩ : ∃ g : Grow W, w1 = g.x := ⟨⟨w1, hB⟩, rfl⟩)); clear hB; have hld : ∀ (b o : Nat), b < W.heap.size → ((g.x.alloc (.cells #[.int .i64 0, .int .i64 0, .int .i64 0, .int .i64 0] 31)).alloc (.cells #[.int .i64 0, .int .i64 0, .int .i64 0, .int .i64 0] 31)).cell? ⟨b, o, none⟩ = W.cell? ⟨b, o, none⟩ := below_cell ((g.h.alloc g.size (.cells #[.int .i64 0, .int .i64 0, .int .i64 0, .int .i64 0] 31)).alloc (g.h.alloc g.size (.cells #[.int .i64 0, .int .i64 0, .int .i64 0, .int .i64 0] 31)).size (.cells #[.int .i64 0, .int .i64 0, .int .i64 0, .int .i64 0] 31))))
  clear hld
  clear q0_c_0 q0_c_1 q0_c_2 q0_c_3 q0_c_4 q0_c_5 q0_c_6 q0_c_7 q0_c_8 q0_c_9 q0_c_10 q0_p_0 q0_p_1 q0_p_2 q0_p_3
  clear hgw0
  have szo1 := B0.size
  have gz1 := g.size
  have A_c : g.x.heap[w.heap.size]? = some (.cells #[.int .i64 c.vlo, .int .i64 c.vhi, .int .i64 c.least, .int .i64 c.most, .int .i64 c.f0, .int .i64 c.f1, .int .i64 c.h0, .int .i64 c.h1, .int .i64 c.rock, .int .i64 c.plo, .int .i64 c.phi] 26 (0, 0)) := (g.h.block _ z0_c).trans e_c.out
  have A_p : g.x.heap[W1.heap.size]? = some (.cells #[.int .i64 p.g, .int .i64 p.y, .int .i64 p.t, .int .i64 p.w] 31 (0, 0)) := (g.h.block _ z0_p).trans e_p.out
  obtain ⟨U1_x, hU1_x⟩ : ∃ U, g.x.alloc (.cells #[.int .i64 0, .int .i64 0, .int .i64 0, .int .i64 0] 31) = U := ⟨_, rfl⟩
  obtain ⟨A_x, b_x, s_x⟩ := boxed hU1_x
  rw [hU1_x]
  replace A_c := (b_x.block _ (Array.getElem?_eq_some_iff.1 A_c).1).trans A_c
  replace A_p := (b_x.block _ (Array.getElem?_eq_some_iff.1 A_p).1).trans A_p
  obtain ⟨blk_x, hb_x⟩ : ∃ b, g.x.heap.size = b := ⟨_, rfl⟩
  rw [hb_x] at A_x
  try rw [hb_x]
  obtain ⟨U1_u, hU1_u⟩ : ∃ U, U1_x.alloc (.cells #[.int .i64 0, .int .i64 0, .int .i64 0, .int .i64 0] 31) = U := ⟨_, rfl⟩
  obtain ⟨A_u, b_u, s_u⟩ := boxed hU1_u
  rw [hU1_u]
  replace A_c := (b_u.block _ (Array.getElem?_eq_some_iff.1 A_c).1).trans A_c
  replace A_p := (b_u.block _ (Array.getElem?_eq_some_iff.1 A_p).1).trans A_p
  replace A_x := (b_u.block _ (Array.getElem?_eq_some_iff.1 A_x).1).trans A_x
  obtain ⟨blk_u, hb_u⟩ : ∃ b, U1_x.heap.size = b := ⟨_, rfl⟩
  rw [hb_u] at A_u
  have hp_u : blk_x + 1 = blk_u := by omega
  try rw [hp_u]
  have B1 : Below w.heap.size w U1_u := (((B0.trans (g.h.mono B0.size)).trans (b_x.mono (B0.trans (g.h.mono B0.size)).size)).trans (b_u.mono ((B0.trans (g.h.mono B0.size)).trans (b_x.mono (B0.trans (g.h.mono B0.size)).size)).size))
  have le_x : w.heap.size ≤ blk_x := by omega
  have le_u : w.heap.size ≤ blk_u := by omega
  have z1_c := (Array.getElem?_eq_some_iff.1 A_c).1
  have z1_p := (Array.getElem?_eq_some_iff.1 A_p).1
  have z1_x := (Array.getElem?_eq_some_iff.1 A_x).1
  have z1_u := (Array.getElem?_eq_some_iff.1 A_u).1
  clear hb_x b_x s_x hU1_x hb_u b_u s_u hU1_u hp_u
  obtain ⟨q1_c_0, q1_c_1, q1_c_2, q1_c_3, q1_c_4, q1_c_5, q1_c_6, q1_c_7, q1_c_8, q1_c_9, q1_c_10⟩ := rc11 A_c
  have R1_c := Lib.hid A_c
  clear A_c
  obtain ⟨q1_p_0, q1_p_1, q1_p_2, q1_p_3⟩ := rc4 A_p
  have R1_p := Lib.hid A_p
  clear A_p
  obtain ⟨q1_x_0, q1_x_1, q1_x_2, q1_x_3⟩ := rc4 A_x
  have R1_x := Lib.hid A_x
  clear A_x
  obtain ⟨q1_u_0, q1_u_1, q1_u_2, q1_u_3⟩ := rc4 A_u
  have R1_u := Lib.hid A_u
  clear A_u
  have hgw1 := grow_cell U1_u
  go_wp2_with (first | (go_at_call 20; (with_reducible refine Calls.mono (hK.out _) ?_); rintro e w1 ⟨rfl, hB⟩; (first | (obtain ⟨g, rfl⟩ := g.next hB) | (obtain ⟨g, rfl⟩ : ∃ g : Grow U1_u, w1 = g.x := ⟨⟨w1, hB⟩, rfl⟩)); clear hB))
  go_ret
  exact ⟨rfl, B1.trans (g.h.mono B1.size)⟩

set_option maxRecDepth 100000 in
set_option maxHeartbeats 8000000 in
theorem lawBal8 (c : Cav) (p : Pt) (lv : Value) (l : List Gas.Op) (av : Value) (xa : List Int) (bv : Value) (xb : List Int) (w : World) (hl : OpsAt w lv l) (ha : IntsAt w av xa) (hb : IntsAt w bv xb) (g1 : ¬ 12 < l.length) (g2 : ¬ 20 < xa.length) (g3 : ¬ 20 < xb.length) (hc : c.ok = true) (hp : p.ok = true) (ho : opsB l = true) (ht : truthB l xa xb = true) {q sm : Pt} (hpl : play c p l xa xb = some (q, sm)) :
    Calls Try.prog 6 #[cavV c, ptV p, lv, av, bv] w fun e w' => e = .returned (.bool true) ∧ Below w.heap.size w w' := by
  have hl' := hl; have ha' := ha; have hb0 := hb; have hb' := hb
  clear hb
  obtain ⟨sl, cl, rfl, hml, hcl⟩ := hl'
  obtain ⟨sa, ca, rfl, hma, hca⟩ := ha'
  obtain ⟨sb, cb, rfl, hmb, hcb⟩ := hb'
  clear hml hma hmb
  obtain ⟨W1, hW1⟩ : ∃ W1, w.alloc (.cells #[.int .i64 c.vlo, .int .i64 c.vhi, .int .i64 c.least, .int .i64 c.most, .int .i64 c.f0, .int .i64 c.f1, .int .i64 c.h0, .int .i64 c.h1, .int .i64 c.rock, .int .i64 c.plo, .int .i64 c.phi] 26) = W1 := ⟨_, rfl⟩
  obtain ⟨e_c, b_c, s_c⟩ := boxed hW1
  obtain ⟨W, hW⟩ : ∃ W, W1.alloc (.cells #[.int .i64 p.g, .int .i64 p.y, .int .i64 p.t, .int .i64 p.w] 31) = W := ⟨_, rfl⟩
  obtain ⟨e_p, b_p, s_p⟩ := boxed hW
  replace e_c := (b_p.block _ (Array.getElem?_eq_some_iff.1 e_c).1).trans e_c
  have B0 : Below w.heap.size w W := (b_c.trans (b_p.mono (by omega)))
  have z0_c := (Array.getElem?_eq_some_iff.1 e_c).1
  have z0_p := (Array.getElem?_eq_some_iff.1 e_p).1
  have le_c : w.heap.size ≤ w.heap.size := by omega
  have le_p : w.heap.size ≤ W1.heap.size := by omega
  clear s_c b_c s_p b_p
  obtain ⟨q0_c_0, q0_c_1, q0_c_2, q0_c_3, q0_c_4, q0_c_5, q0_c_6, q0_c_7, q0_c_8, q0_c_9, q0_c_10⟩ := rc11 e_c
  replace e_c := Lib.hid e_c
  obtain ⟨q0_p_0, q0_p_1, q0_p_2, q0_p_3⟩ := rc4 e_p
  replace e_p := Lib.hid e_p
  have hgw0 := grow_cell W
  have hK := Lib.hid (fun w => progKnown w)
  have he : playErr c p l xa xb = 0 := playErr_ok (by omega) hc hp ho ht
  have kPl : Hid (∀ w', Below w.heap.size w w' → Calls Try.prog 23 #[cavV c, ptV p, .slice sl l.length cl, .slice sa xa.length ca, .slice sb xb.length cb] w' fun e w'' => e = .returned (.tuple #[ptV q, ptV sm, .int .i64 0]) ∧ Below w'.heap.size w' w'') := Lib.hid (fun w' hb => progPlaySome w' (hl.mono hb) (ha.mono hb) (hb0.mono hb) he hpl)
  have hpk := Pt.ok_iff.1 hp
  have hBO := bal_ok hpk (by omega) ho ht hpl
  have hbal := play_bal ho ht l.length q sm (Nat.le_refl _) hpl
  have hPO := playTo_ok hpk ho l.length q sm (Nat.le_refl _) hpl
  have hqk : q.ok = true := Pt.ok_iff.2 hPO.q
  have n1 : ¬ sm.g < 0 := by have := hPO.g; omega
  have n2 : ¬ sm.y < 0 := by have := hPO.y; omega
  have n3 : ¬ sm.w < 0 := by have := hPO.w; omega
  have n4 : sm.t = 0 := hPO.t
  have b1 := hpk.g; have b2 := hpk.y; have b3 := hpk.w; have b4 := hPO.g; have b5 := hPO.y; have b6 := hPO.w
  have b7 : sm.g + sm.y ≤ 48000000 := by omega
  obtain ⟨hla, hlb, -⟩ := truth_iff.1 ht
  have kRQ := Lib.hid (fun w => (refPoint q w).mono fun e w' hb => BoolB.lit hb hqk)
  have i0 : ¬ (12 : Int) < (l.length : Int) := by omega
  clear g1
  have i1 : ¬ (20 : Int) < (xa.length : Int) := by omega
  clear g2
  have i2 : ¬ (20 : Int) < (xb.length : Int) := by omega
  clear g3
  have kRC := Lib.hid (fun w => (refCavern c w).mono fun e w' hb => BoolB.lit hb hc)
  have kRP := Lib.hid (fun w => (refPoint p w).mono fun e w' hb => BoolB.lit hb hp)
  have kRO : Hid (∀ w', Below w.heap.size w w' → Calls Try.prog 26 #[.slice sl l.length cl] w' fun e w'' => e = .returned (.bool true) ∧ Below w'.heap.size w' w'') := Lib.hid (fun w' hb => by have h0 := refOps _ l w' (hl.mono hb); rw [ho] at h0; exact h0)
  have kRT : Hid (∀ w', Below w.heap.size w w' → Calls Try.prog 27 #[.slice sl l.length cl, .slice sa xa.length ca, .slice sb xb.length cb] w' fun e w'' => e = .returned (.bool true) ∧ Below w'.heap.size w' w'') := Lib.hid (fun w' hb => by have h0 := refTruth _ _ _ l xa xb w' (hl.mono hb) (ha.mono hb) (hb0.mono hb); rw [ht] at h0; exact h0)
  replace hcl := Lib.hid hcl; replace hca := Lib.hid hca; replace hcb := Lib.hid hcb; replace hl := Lib.hid hl; replace ha := Lib.hid ha; replace hb0 := Lib.hid hb0
  replace hc := Lib.hid hc; replace hp := Lib.hid hp; replace ho := Lib.hid ho; replace ht := Lib.hid ht
  replace hpl := Lib.hid hpl; replace he := Lib.hid he
  replace hBO := Lib.hid hBO; replace hbal := Lib.hid hbal; replace hPO := Lib.hid hPO; replace hqk := Lib.hid hqk; replace hpk := Lib.hid hpk; replace hla := Lib.hid hla; replace hlb := Lib.hid hlb
  go_enter Try.func6, Try.ntmps6
  go_wp2_with (first | (go_at_call 17; (with_reducible refine Calls.mono (kRC.out _) ?_); rintro e w1 ⟨rfl, hB⟩; (first | (obtain ⟨g, rfl⟩ := g.next hB) | (obtain ⟨g, rfl⟩ : ∃ g : Grow W, w1 = g.x := ⟨⟨w1, hB⟩, rfl⟩)); clear hB) | (go_at_call 25; (with_reducible refine Calls.mono (kRP.out _) ?_); rintro e w1 ⟨rfl, hB⟩; (first | (obtain ⟨g, rfl⟩ := g.next hB) | (obtain ⟨g, rfl⟩ : ∃ g : Grow W, w1 = g.x := ⟨⟨w1, hB⟩, rfl⟩)); clear hB) | (go_at_call 26; (with_reducible refine Calls.mono (kRO.out _ (by first | (with_reducible exact B0.trans (g.h.mono B0.size)) | (with_reducible exact B0))) ?_); rintro e w1 ⟨rfl, hB⟩; (first | (obtain ⟨g, rfl⟩ := g.next hB) | (obtain ⟨g, rfl⟩ : ∃ g : Grow W, w1 = g.x := ⟨⟨w1, hB⟩, rfl⟩)); clear hB) | (go_at_call 27; (with_reducible refine Calls.mono (kRT.out _ (by first | (with_reducible exact B0.trans (g.h.mono B0.size)) | (with_reducible exact B0))) ?_); rintro e w1 ⟨rfl, hB⟩; (first | (obtain ⟨g, rfl⟩ := g.next hB) | (obtain ⟨g, rfl⟩ : ∃ g : Grow W, w1 = g.x := ⟨⟨w1, hB⟩, rfl⟩)); clear hB) | (go_at_call 23; (with_reducible refine Calls.mono (kPl.out _ (by first | (with_reducible exact B0.trans (g.h.mono B0.size)) | (with_reducible exact B0))) ?_); rintro e w1 ⟨rfl, hB⟩; (first | (obtain ⟨g, rfl⟩ := g.next hB) | (obtain ⟨g, rfl⟩ : ∃ g : Grow W, w1 = g.x := ⟨⟨w1, hB⟩, rfl⟩)); clear hB; have hld : ∀ (b o : Nat), b < W.heap.size → ((g.x.alloc (.cells #[.int .i64 q.g, .int .i64 q.y, .int .i64 q.t, .int .i64 q.w] 31)).alloc (.cells #[.int .i64 sm.g, .int .i64 sm.y, .int .i64 0, .int .i64 sm.w] 31)).cell? ⟨b, o, none⟩ = W.cell? ⟨b, o, none⟩ := below_cell ((g.h.alloc g.size (.cells #[.int .i64 q.g, .int .i64 q.y, .int .i64 q.t, .int .i64 q.w] 31)).alloc (g.h.alloc g.size (.cells #[.int .i64 q.g, .int .i64 q.y, .int .i64 q.t, .int .i64 q.w] 31)).size (.cells #[.int .i64 sm.g, .int .i64 sm.y, .int .i64 0, .int .i64 sm.w] 31))))
  clear hld
  clear q0_c_0 q0_c_1 q0_c_2 q0_c_3 q0_c_4 q0_c_5 q0_c_6 q0_c_7 q0_c_8 q0_c_9 q0_c_10 q0_p_0 q0_p_1 q0_p_2 q0_p_3
  clear hgw0
  have szo1 := B0.size
  have gz1 := g.size
  have A_c : g.x.heap[w.heap.size]? = some (.cells #[.int .i64 c.vlo, .int .i64 c.vhi, .int .i64 c.least, .int .i64 c.most, .int .i64 c.f0, .int .i64 c.f1, .int .i64 c.h0, .int .i64 c.h1, .int .i64 c.rock, .int .i64 c.plo, .int .i64 c.phi] 26 (0, 0)) := (g.h.block _ z0_c).trans e_c.out
  have A_p : g.x.heap[W1.heap.size]? = some (.cells #[.int .i64 p.g, .int .i64 p.y, .int .i64 p.t, .int .i64 p.w] 31 (0, 0)) := (g.h.block _ z0_p).trans e_p.out
  obtain ⟨U1_x, hU1_x⟩ : ∃ U, g.x.alloc (.cells #[.int .i64 q.g, .int .i64 q.y, .int .i64 q.t, .int .i64 q.w] 31) = U := ⟨_, rfl⟩
  obtain ⟨A_x, b_x, s_x⟩ := boxed hU1_x
  rw [hU1_x]
  replace A_c := (b_x.block _ (Array.getElem?_eq_some_iff.1 A_c).1).trans A_c
  replace A_p := (b_x.block _ (Array.getElem?_eq_some_iff.1 A_p).1).trans A_p
  obtain ⟨blk_x, hb_x⟩ : ∃ b, g.x.heap.size = b := ⟨_, rfl⟩
  rw [hb_x] at A_x
  try rw [hb_x]
  obtain ⟨U1_u, hU1_u⟩ : ∃ U, U1_x.alloc (.cells #[.int .i64 sm.g, .int .i64 sm.y, .int .i64 0, .int .i64 sm.w] 31) = U := ⟨_, rfl⟩
  obtain ⟨A_u, b_u, s_u⟩ := boxed hU1_u
  rw [hU1_u]
  replace A_c := (b_u.block _ (Array.getElem?_eq_some_iff.1 A_c).1).trans A_c
  replace A_p := (b_u.block _ (Array.getElem?_eq_some_iff.1 A_p).1).trans A_p
  replace A_x := (b_u.block _ (Array.getElem?_eq_some_iff.1 A_x).1).trans A_x
  obtain ⟨blk_u, hb_u⟩ : ∃ b, U1_x.heap.size = b := ⟨_, rfl⟩
  rw [hb_u] at A_u
  have hp_u : blk_x + 1 = blk_u := by omega
  try rw [hp_u]
  have B1 : Below w.heap.size w U1_u := (((B0.trans (g.h.mono B0.size)).trans (b_x.mono (B0.trans (g.h.mono B0.size)).size)).trans (b_u.mono ((B0.trans (g.h.mono B0.size)).trans (b_x.mono (B0.trans (g.h.mono B0.size)).size)).size))
  have le_x : w.heap.size ≤ blk_x := by omega
  have le_u : w.heap.size ≤ blk_u := by omega
  have z1_c := (Array.getElem?_eq_some_iff.1 A_c).1
  have z1_p := (Array.getElem?_eq_some_iff.1 A_p).1
  have z1_x := (Array.getElem?_eq_some_iff.1 A_x).1
  have z1_u := (Array.getElem?_eq_some_iff.1 A_u).1
  clear hb_x b_x s_x hU1_x hb_u b_u s_u hU1_u hp_u
  obtain ⟨q1_c_0, q1_c_1, q1_c_2, q1_c_3, q1_c_4, q1_c_5, q1_c_6, q1_c_7, q1_c_8, q1_c_9, q1_c_10⟩ := rc11 A_c
  have R1_c := Lib.hid A_c
  clear A_c
  obtain ⟨q1_p_0, q1_p_1, q1_p_2, q1_p_3⟩ := rc4 A_p
  have R1_p := Lib.hid A_p
  clear A_p
  obtain ⟨q1_x_0, q1_x_1, q1_x_2, q1_x_3⟩ := rc4 A_x
  have R1_x := Lib.hid A_x
  clear A_x
  obtain ⟨q1_u_0, q1_u_1, q1_u_2, q1_u_3⟩ := rc4 A_u
  have R1_u := Lib.hid A_u
  clear A_u
  have hgw1 := grow_cell U1_u
  have w1 : IntKind.i64.wrap (p.g - sm.g) = p.g - sm.g := IntWalk.i64_in _ (by omega)
  have w2 : IntKind.i64.wrap (p.y - sm.y) = p.y - sm.y := IntWalk.i64_in _ (by omega)
  have w3 : IntKind.i64.wrap (p.w - sm.w) = p.w - sm.w := IntWalk.i64_in _ (by omega)
  replace b1 := Lib.hid b1; replace b2 := Lib.hid b2; replace b3 := Lib.hid b3; replace b4 := Lib.hid b4; replace b5 := Lib.hid b5; replace b6 := Lib.hid b6; replace b7 := Lib.hid b7
  go_wp2_with (first | (go_at_call 25; (with_reducible refine Calls.mono (kRQ.out _) ?_); rintro e w1 ⟨rfl, hB⟩; (first | (obtain ⟨g, rfl⟩ := g.next hB) | (obtain ⟨g, rfl⟩ : ∃ g : Grow U1_u, w1 = g.x := ⟨⟨w1, hB⟩, rfl⟩)); clear hB))
  have hgg : ∀ (h : Grow g.x) (b o : Nat), b < U1_u.heap.size → h.x.cell? ⟨b, o, none⟩ = U1_u.cell? ⟨b, o, none⟩ := fun h b o hb => (grow_cell g.x h b o (Nat.lt_of_lt_of_le hb g.size)).trans (grow_cell U1_u g b o hb)
  refine wp_region_grow (by kernel_rfl) (by kernel_rfl) ?_
  repeat (go_big_quiet_step (fail))
  refine wpQuiet_nil ?_
  rintro _ ⟨gx, rfl⟩
  clear hgg
  obtain ⟨g2, hg2⟩ := g.next gx.h
  rw [hg2]
  clear hg2 gx
  go_wp2
  go_loopw [14, 15, 16, 17, 18] (fun a b x o i wr => ∃ g : Grow U1_u, wr = g.x ∧ ∃ k : Nat, k ≤ l.length ∧ i = .int .i64 k ∧ a = .int .i64 (p.g - sm.g + sumTo (lgAt l) k) ∧ b = .int .i64 (p.y - sm.y + sumTo (lyAt l) k) ∧ x = .int .i64 (p.w - sm.w + sumTo (lwAt l xb) k) ∧ o = .int .i64 (sumTo (mAt l) k)) (fun _ _ _ _ i _ => l.length - (intOf i).toNat)
  case atStart => exact ⟨g2, rfl, 0, Nat.zero_le _, rfl, by simp [sumTo, w1], by simp [sumTo, w2], by simp [sumTo, w3], rfl⟩
  case round =>
    obtain ⟨g3, rfl, k, hk, rfl, rfl, rfl, rfl, rfl⟩ := hrel
    by_cases hlt : k < l.length
    · have hBW : Below w.heap.size w g3.x := B1.trans (g3.h.mono B1.size)
      obtain ⟨b, off, rfl, hb1, hcell⟩ := hcl.out (by omega)
      obtain ⟨b2, off2, rfl, hb2, hcell2⟩ := hcb.out (by have := hlb.out; omega)
      have lt1 : b < g3.x.heap.size := by have := hBW.size; omega
      have lt2 : b2 < g3.x.heap.size := by have := hBW.size; omega
      obtain ⟨c0, c1, c2, c3, c4, c5, c6, c7, c8, c9⟩ := (hcell k hlt).mono hBW
      have d2 := kept_cell hBW (hcell2 k (by have := hlb.out; omega))
      clear hcell hcell2
      have hki : (k : Int) < (l.length : Int) := by omega
      have hkb : (k : Int) < (xb.length : Int) := by have := hlb.out; omega
      obtain ⟨⟨e1, e2⟩, e3, e4⟩ := hBO.out.g k hlt
      obtain ⟨⟨f1, f2⟩, f3, f4⟩ := hBO.out.y k hlt
      obtain ⟨⟨h1, h2⟩, ⟨h3, h4⟩, h5, h6⟩ := hBO.out.w k hlt
      obtain ⟨⟨j1, j2⟩, j3, j4⟩ := hBO.out.m k hlt
      have s1 : sumTo (lgAt l) (k + 1) = sumTo (lgAt l) k + (theOp l k).lg := rfl
      have s2 : sumTo (lyAt l) (k + 1) = sumTo (lyAt l) k + (theOp l k).ly := rfl
      have s3 : sumTo (lwAt l xb) (k + 1) = sumTo (lwAt l xb) k + ((theOp l k).lw + at0 xb k) := rfl
      have s4 : sumTo (mAt l) (k + 1) = sumTo (mAt l) k + (theOp l k).moles := rfl
      simp only [lgAt, lyAt, mAt] at e1 e2 f1 f2 j1 j2
      have t1 : IntKind.i64.wrap (p.g - sm.g + sumTo (lgAt l) k + (theOp l k).lg) = p.g - sm.g + sumTo (lgAt l) (k + 1) := by rw [s1]; rw [IntWalk.i64_in _ (by omega)]; omega
      have t2 : IntKind.i64.wrap (p.y - sm.y + sumTo (lyAt l) k + (theOp l k).ly) = p.y - sm.y + sumTo (lyAt l) (k + 1) := by rw [s2]; rw [IntWalk.i64_in _ (by omega)]; omega
      have t3 : IntKind.i64.wrap (p.w - sm.w + sumTo (lwAt l xb) k + (theOp l k).lw) = p.w - sm.w + sumTo (lwAt l xb) k + (theOp l k).lw := IntWalk.i64_in _ (by omega)
      have t5 : IntKind.i64.wrap (p.w - sm.w + sumTo (lwAt l xb) k + (theOp l k).lw + at0 xb k) = p.w - sm.w + sumTo (lwAt l xb) (k + 1) := by rw [s3]; rw [IntWalk.i64_in _ (by omega)]; omega
      have t4 : IntKind.i64.wrap (sumTo (mAt l) k + (theOp l k).moles) = sumTo (mAt l) (k + 1) := by rw [s4]; rw [IntWalk.i64_in _ (by omega)]
      clear s1 s2 s3 s4 e1 e2 e3 e4 f1 f2 f3 f4 h1 h2 h3 h4 h5 h6 j1 j2 j3 j4
      have hk12 : (k : Int) ≤ 12 := by omega
      obtain ⟨A1, hA1⟩ : ∃ v, p.g - sm.g + sumTo (lgAt l) k = v := ⟨_, rfl⟩
      obtain ⟨A2, hA2⟩ : ∃ v, p.y - sm.y + sumTo (lyAt l) k = v := ⟨_, rfl⟩
      obtain ⟨A3, hA3⟩ : ∃ v, p.w - sm.w + sumTo (lwAt l xb) k = v := ⟨_, rfl⟩
      obtain ⟨A4, hA4⟩ : ∃ v, sumTo (mAt l) k = v := ⟨_, rfl⟩
      obtain ⟨N1, hN1⟩ : ∃ v, p.g - sm.g + sumTo (lgAt l) (k + 1) = v := ⟨_, rfl⟩
      obtain ⟨N2, hN2⟩ : ∃ v, p.y - sm.y + sumTo (lyAt l) (k + 1) = v := ⟨_, rfl⟩
      obtain ⟨N3, hN3⟩ : ∃ v, p.w - sm.w + sumTo (lwAt l xb) (k + 1) = v := ⟨_, rfl⟩
      obtain ⟨N4, hN4⟩ : ∃ v, sumTo (mAt l) (k + 1) = v := ⟨_, rfl⟩
      rw [hA1, hN1] at t1
      rw [hA2, hN2] at t2
      rw [hA3] at t3
      rw [hA3, hN3] at t5
      rw [hA4, hN4] at t4
      rw [hA1, hA2, hA3, hA4]
      clear hA1 hA2 hA3 hA4
      replace hN1 := Lib.hid hN1; replace hN2 := Lib.hid hN2; replace hN3 := Lib.hid hN3; replace hN4 := Lib.hid hN4
      have hgr := grow_cell g3.x
      go_wp2
      refine wp_region_grow (by kernel_rfl) (by kernel_rfl) ?_
      repeat (go_big_quiet_step (fail))
      refine wpQuiet_nil ?_
      rintro _ ⟨g4, rfl⟩
      go_wp2
      refine ⟨⟨⟨g4.x, g3.h.trans (g4.h.mono g3.size)⟩, rfl, k + 1, by omega, by go_num, by rw [hN1.out], by rw [hN2.out], by rw [hN3.out], by rw [hN4.out]⟩, by simp [intOf]; omega⟩
    · obtain rfl : k = l.length := by omega
      obtain ⟨m1, m2, m3, m4⟩ := hbal.out
      have r1 : p.g - sm.g + sumTo (lgAt l) l.length = q.g := by omega
      have r2 : p.y - sm.y + sumTo (lyAt l) l.length = q.y := by omega
      have r3 : p.w - sm.w + sumTo (lwAt l xb) l.length = q.w := by omega
      have r4 : sumTo (mAt l) l.length = sm.g + sm.y := by omega
      have r5 : IntKind.i64.wrap (sm.g + sm.y) = sm.g + sm.y := by have := b4.out; have := b5.out; have := b7.out; exact IntWalk.i64_in _ (by omega)
      rw [r1, r2, r3, r4]
      clear r1 r2 r3 r4 m1 m2 m3 m4
      obtain ⟨g, hgx⟩ : ∃ g : Grow U1_u, g3.x = g.x := ⟨g3, rfl⟩
      rw [hgx]
      clear hgx
      go_wp2_with (first | (go_at_call 20; (with_reducible refine Calls.mono (hK.out _) ?_); rintro e w1 ⟨rfl, hB⟩; (first | (obtain ⟨g, rfl⟩ := g.next hB) | (obtain ⟨g, rfl⟩ : ∃ g : Grow U1_u, w1 = g.x := ⟨⟨w1, hB⟩, rfl⟩)); clear hB))
      go_ret
      exact ⟨rfl, B1.trans (g.h.mono B1.size)⟩

theorem lawBalance (c : Cav) (p : Pt) (lv : Value) (l : List Gas.Op) (av : Value) (xa : List Int) (bv : Value) (xb : List Int) (w : World) (hl : OpsAt w lv l) (ha : IntsAt w av xa) (hb : IntsAt w bv xb) :
    Calls Try.prog 6 #[cavV c, ptV p, lv, av, bv] w fun e w' => e = .returned (.bool true) ∧ Below w.heap.size w w' := by
  by_cases g1 : 12 < l.length
  · exact lawBal0 c p lv l av xa bv xb w hl ha hb g1
  · skip
    by_cases g2 : 20 < xa.length
    · exact lawBal1 c p lv l av xa bv xb w hl ha hb g1 g2
    · skip
      by_cases g3 : 20 < xb.length
      · exact lawBal2 c p lv l av xa bv xb w hl ha hb g1 g2 g3
      · skip
        cases hc : c.ok
        · exact lawBal3 c p lv l av xa bv xb w hl ha hb g1 g2 g3 hc
        · skip
          cases hp : p.ok
          · exact lawBal4 c p lv l av xa bv xb w hl ha hb g1 g2 g3 hc hp
          · skip
            cases ho : opsB l
            · exact lawBal5 c p lv l av xa bv xb w hl ha hb g1 g2 g3 hc hp ho
            · skip
              cases ht : truthB l xa xb
              · exact lawBal6 c p lv l av xa bv xb w hl ha hb g1 g2 g3 hc hp ho ht
              · skip
                cases hpl : play c p l xa xb with
                | none => exact lawBal7 c p lv l av xa bv xb w hl ha hb g1 g2 g3 hc hp ho ht hpl
                | some r =>
                  obtain ⟨q, sm⟩ := r
                  exact lawBal8 c p lv l av xa bv xb w hl ha hb g1 g2 g3 hc hp ho ht hpl
end Go.Proofs.Ytgmbolagciaenaa
