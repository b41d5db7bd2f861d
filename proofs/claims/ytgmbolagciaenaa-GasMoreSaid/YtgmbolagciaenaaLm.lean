/- Gas: the walk of the law GasMore. -/
import Derived.Test.YtgmbolagciaenaaGln
import Derived.Test.YtgmbolagciaenaaKno
import Derived.Test.YtgmbolagciaenaaMpl
import Derived.Test.YtgmbolagciaenaaDo1
set_option linter.unusedVariables false
set_option linter.unusedSimpArgs false
namespace Go.Proofs.Ytgmbolagciaenaa
open Go.RowKit Go.Sd Gas
theorem three_ops {X : World} {b : Nat} {t : TypeId} {x y z : Gas.Op} (e : X.heap[b]? = some (.cells #[.int .i64 x.kind, .int .i64 x.lg, .int .i64 x.ly, .int .i64 x.lt, .int .i64 x.lw, .int .i64 x.moles, .int .i64 x.slo, .int .i64 x.shi, .int .i64 x.wlo, .int .i64 x.whi, .int .i64 y.kind, .int .i64 y.lg, .int .i64 y.ly, .int .i64 y.lt, .int .i64 y.lw, .int .i64 y.moles, .int .i64 y.slo, .int .i64 y.shi, .int .i64 y.wlo, .int .i64 y.whi, .int .i64 z.kind, .int .i64 z.lg, .int .i64 z.ly, .int .i64 z.lt, .int .i64 z.lw, .int .i64 z.moles, .int .i64 z.slo, .int .i64 z.shi, .int .i64 z.wlo, .int .i64 z.whi] t (0, 0))) : ∀ k : Nat, k < 3 → OpCells X b (k * 10) (theOp [x, y, z] k) := by
  intro k hk
  have r := (row_cells e).2.1
  match k, hk with
  | 0, _ => exact ⟨r 0, r 1, r 2, r 3, r 4, r 5, r 6, r 7, r 8, r 9⟩
  | 1, _ => exact ⟨r 10, r 11, r 12, r 13, r 14, r 15, r 16, r 17, r 18, r 19⟩
  | 2, _ => exact ⟨r 20, r 21, r 22, r 23, r 24, r 25, r 26, r 27, r 28, r 29⟩
/-- What the law does to show that nothing changes. -/
def noOps (t : Int) : List Gas.Op := [⟨2, 0, 0, 0, 0, 0, 0, 0, 0, 0⟩, ⟨1, 0, 0, t, 0, 0, 0, 0, 0, 0⟩, ⟨3, 0, 0, 0, 0, 0, 0, 0, 0, 0⟩]
theorem noOps_do {c : Cav} {s : St} {t : Int} (hc : c.ok = true) (hs : s.ok = true) (ht : 2000 ≤ t ∧ t ≤ 5000) (k : Nat) (hk : k < 3) (w : World) :
    Calls Try.prog 16 #[cavV c, stV s, opV (theOp (noOps t) k)] w fun e w' => e = .returned (.tuple #[stV s, .agg #[.int .i64 0, .int .i64 0, .int .i64 0, .int .i64 0, .int .i64 0, .int .i64 0], .int .i64 0]) ∧ Below w.heap.size w w' := by
  have hs' := St.ok_iff.1 hs
  match k, hk with
  | 0, _ => exact progDoSome (o := ⟨2, 0, 0, 0, 0, 0, 0, 0, 0, 0⟩) w hc hs (by rfl) (same_withdraw hs')
  | 1, _ => exact progDoSome (o := ⟨1, 0, 0, t, 0, 0, 0, 0, 0, 0⟩) w hc hs (by simp [Op.ok, Op.lot, Pt.ok, inB, ht.1, ht.2]) (same_inject hs' t)
  | 2, _ => exact progDoSome (o := ⟨3, 0, 0, 0, 0, 0, 0, 0, 0, 0⟩) w hc hs (by rfl) (same_rest hs')

set_option maxRecDepth 100000 in
set_option maxHeartbeats 16000000 in
theorem lawMore0 (c : Cav) (s : St) (o : Gas.Op) (lv : Value) (xs : List Int) (w : World) (hl : IntsAt w lv xs) (hc : c.ok = false) :
    Calls Try.prog 7 #[cavV c, stV s, opV o, lv] w fun e w' => e = .returned (.bool true) ∧ Below w.heap.size w w' := by
  have hl' := hl
  obtain ⟨sl, cl, rfl, hml, hcl⟩ := hl'
  clear hml
  obtain ⟨W1, hW1⟩ : ∃ W1, w.alloc (.cells #[.int .i64 c.vlo, .int .i64 c.vhi, .int .i64 c.least, .int .i64 c.most, .int .i64 c.f0, .int .i64 c.f1, .int .i64 c.h0, .int .i64 c.h1, .int .i64 c.rock, .int .i64 c.plo, .int .i64 c.phi] 26) = W1 := ⟨_, rfl⟩
  obtain ⟨e_c, b_c, s_c⟩ := boxed hW1
  obtain ⟨W2, hW2⟩ : ∃ W2, W1.alloc (.cells #[.int .i64 s.glo, .int .i64 s.ghi, .int .i64 s.ylo, .int .i64 s.yhi, .int .i64 s.tlo, .int .i64 s.thi, .int .i64 s.wlo, .int .i64 s.whi] 28) = W2 := ⟨_, rfl⟩
  obtain ⟨e_s, b_s, s_s⟩ := boxed hW2
  replace e_c := (b_s.block _ (Array.getElem?_eq_some_iff.1 e_c).1).trans e_c
  obtain ⟨W, hW⟩ : ∃ W, W2.alloc (.cells #[.int .i64 o.kind, .int .i64 o.lg, .int .i64 o.ly, .int .i64 o.lt, .int .i64 o.lw, .int .i64 o.moles, .int .i64 o.slo, .int .i64 o.shi, .int .i64 o.wlo, .int .i64 o.whi] 33) = W := ⟨_, rfl⟩
  obtain ⟨e_o, b_o, s_o⟩ := boxed hW
  replace e_c := (b_o.block _ (Array.getElem?_eq_some_iff.1 e_c).1).trans e_c
  replace e_s := (b_o.block _ (Array.getElem?_eq_some_iff.1 e_s).1).trans e_s
  have B0 : Below w.heap.size w W := ((b_c.trans (b_s.mono (by omega))).trans (b_o.mono (by omega)))
  have z0_c := (Array.getElem?_eq_some_iff.1 e_c).1
  have z0_s := (Array.getElem?_eq_some_iff.1 e_s).1
  have z0_o := (Array.getElem?_eq_some_iff.1 e_o).1
  have le_c : w.heap.size ≤ w.heap.size := by omega
  have le_s : w.heap.size ≤ W1.heap.size := by omega
  have le_o : w.heap.size ≤ W2.heap.size := by omega
  clear s_c b_c s_s b_s s_o b_o
  obtain ⟨q0_c_0, q0_c_1, q0_c_2, q0_c_3, q0_c_4, q0_c_5, q0_c_6, q0_c_7, q0_c_8, q0_c_9, q0_c_10⟩ := rc11 e_c
  replace e_c := Lib.hid e_c
  obtain ⟨q0_s_0, q0_s_1, q0_s_2, q0_s_3, q0_s_4, q0_s_5, q0_s_6, q0_s_7⟩ := rc8 e_s
  replace e_s := Lib.hid e_s
  obtain ⟨q0_o_0, q0_o_1, q0_o_2, q0_o_3, q0_o_4, q0_o_5, q0_o_6, q0_o_7, q0_o_8, q0_o_9⟩ := rc10 e_o
  replace e_o := Lib.hid e_o
  have hgw0 := grow_cell W
  have hK := Lib.hid (fun w => progKnown w)
  have kRC := Lib.hid (fun w => (refCavern c w).mono fun e w' hb => BoolB.lit hb hc)
  replace hc := Lib.hid hc
  replace hcl := Lib.hid hcl; replace hl := Lib.hid hl
  go_enter Try.func7, Try.ntmps7
  go_wp2_with (first | (go_at_call 17; (with_reducible refine Calls.mono (kRC.out _) ?_); rintro e w1 ⟨rfl, hB⟩; (first | (obtain ⟨g, rfl⟩ := g.next hB) | (obtain ⟨g, rfl⟩ : ∃ g : Grow W, w1 = g.x := ⟨⟨w1, hB⟩, rfl⟩)); clear hB) | (go_at_call 20; (with_reducible refine Calls.mono (hK.out _) ?_); rintro e w1 ⟨rfl, hB⟩; (first | (obtain ⟨g, rfl⟩ := g.next hB) | (obtain ⟨g, rfl⟩ : ∃ g : Grow W, w1 = g.x := ⟨⟨w1, hB⟩, rfl⟩)); clear hB))
  go_ret
  exact ⟨rfl, B0.trans (g.h.mono B0.size)⟩

set_option maxRecDepth 100000 in
set_option maxHeartbeats 16000000 in
theorem lawMore1 (c : Cav) (s : St) (o : Gas.Op) (lv : Value) (xs : List Int) (w : World) (hl : IntsAt w lv xs) (hc : c.ok = true) (hs : s.ok = false) :
    Calls Try.prog 7 #[cavV c, stV s, opV o, lv] w fun e w' => e = .returned (.bool true) ∧ Below w.heap.size w w' := by
  have hl' := hl
  obtain ⟨sl, cl, rfl, hml, hcl⟩ := hl'
  clear hml
  obtain ⟨W1, hW1⟩ : ∃ W1, w.alloc (.cells #[.int .i64 c.vlo, .int .i64 c.vhi, .int .i64 c.least, .int .i64 c.most, .int .i64 c.f0, .int .i64 c.f1, .int .i64 c.h0, .int .i64 c.h1, .int .i64 c.rock, .int .i64 c.plo, .int .i64 c.phi] 26) = W1 := ⟨_, rfl⟩
  obtain ⟨e_c, b_c, s_c⟩ := boxed hW1
  obtain ⟨W2, hW2⟩ : ∃ W2, W1.alloc (.cells #[.int .i64 s.glo, .int .i64 s.ghi, .int .i64 s.ylo, .int .i64 s.yhi, .int .i64 s.tlo, .int .i64 s.thi, .int .i64 s.wlo, .int .i64 s.whi] 28) = W2 := ⟨_, rfl⟩
  obtain ⟨e_s, b_s, s_s⟩ := boxed hW2
  replace e_c := (b_s.block _ (Array.getElem?_eq_some_iff.1 e_c).1).trans e_c
  obtain ⟨W, hW⟩ : ∃ W, W2.alloc (.cells #[.int .i64 o.kind, .int .i64 o.lg, .int .i64 o.ly, .int .i64 o.lt, .int .i64 o.lw, .int .i64 o.moles, .int .i64 o.slo, .int .i64 o.shi, .int .i64 o.wlo, .int .i64 o.whi] 33) = W := ⟨_, rfl⟩
  obtain ⟨e_o, b_o, s_o⟩ := boxed hW
  replace e_c := (b_o.block _ (Array.getElem?_eq_some_iff.1 e_c).1).trans e_c
  replace e_s := (b_o.block _ (Array.getElem?_eq_some_iff.1 e_s).1).trans e_s
  have B0 : Below w.heap.size w W := ((b_c.trans (b_s.mono (by omega))).trans (b_o.mono (by omega)))
  have z0_c := (Array.getElem?_eq_some_iff.1 e_c).1
  have z0_s := (Array.getElem?_eq_some_iff.1 e_s).1
  have z0_o := (Array.getElem?_eq_some_iff.1 e_o).1
  have le_c : w.heap.size ≤ w.heap.size := by omega
  have le_s : w.heap.size ≤ W1.heap.size := by omega
  have le_o : w.heap.size ≤ W2.heap.size := by omega
  clear s_c b_c s_s b_s s_o b_o
  obtain ⟨q0_c_0, q0_c_1, q0_c_2, q0_c_3, q0_c_4, q0_c_5, q0_c_6, q0_c_7, q0_c_8, q0_c_9, q0_c_10⟩ := rc11 e_c
  replace e_c := Lib.hid e_c
  obtain ⟨q0_s_0, q0_s_1, q0_s_2, q0_s_3, q0_s_4, q0_s_5, q0_s_6, q0_s_7⟩ := rc8 e_s
  replace e_s := Lib.hid e_s
  obtain ⟨q0_o_0, q0_o_1, q0_o_2, q0_o_3, q0_o_4, q0_o_5, q0_o_6, q0_o_7, q0_o_8, q0_o_9⟩ := rc10 e_o
  replace e_o := Lib.hid e_o
  have hgw0 := grow_cell W
  have hK := Lib.hid (fun w => progKnown w)
  have kRC := Lib.hid (fun w => (refCavern c w).mono fun e w' hb => BoolB.lit hb hc)
  have kRS := Lib.hid (fun w => (refState s w).mono fun e w' hb => BoolB.lit hb hs)
  replace hc := Lib.hid hc; replace hs := Lib.hid hs
  replace hcl := Lib.hid hcl; replace hl := Lib.hid hl
  go_enter Try.func7, Try.ntmps7
  go_wp2_with (first | (go_at_call 17; (with_reducible refine Calls.mono (kRC.out _) ?_); rintro e w1 ⟨rfl, hB⟩; (first | (obtain ⟨g, rfl⟩ := g.next hB) | (obtain ⟨g, rfl⟩ : ∃ g : Grow W, w1 = g.x := ⟨⟨w1, hB⟩, rfl⟩)); clear hB) | (go_at_call 18; (with_reducible refine Calls.mono (kRS.out _) ?_); rintro e w1 ⟨rfl, hB⟩; (first | (obtain ⟨g, rfl⟩ := g.next hB) | (obtain ⟨g, rfl⟩ : ∃ g : Grow W, w1 = g.x := ⟨⟨w1, hB⟩, rfl⟩)); clear hB) | (go_at_call 20; (with_reducible refine Calls.mono (hK.out _) ?_); rintro e w1 ⟨rfl, hB⟩; (first | (obtain ⟨g, rfl⟩ := g.next hB) | (obtain ⟨g, rfl⟩ : ∃ g : Grow W, w1 = g.x := ⟨⟨w1, hB⟩, rfl⟩)); clear hB))
  go_ret
  exact ⟨rfl, B0.trans (g.h.mono B0.size)⟩

set_option maxRecDepth 100000 in
set_option maxHeartbeats 16000000 in
theorem lawMore2 (c : Cav) (s : St) (o : Gas.Op) (lv : Value) (xs : List Int) (w : World) (hl : IntsAt w lv xs) (hc : c.ok = true) (hs : s.ok = true) (ho : o.ok = false) :
    Calls Try.prog 7 #[cavV c, stV s, opV o, lv] w fun e w' => e = .returned (.bool true) ∧ Below w.heap.size w w' := by
  have hl' := hl
  obtain ⟨sl, cl, rfl, hml, hcl⟩ := hl'
  clear hml
  obtain ⟨W1, hW1⟩ : ∃ W1, w.alloc (.cells #[.int .i64 c.vlo, .int .i64 c.vhi, .int .i64 c.least, .int .i64 c.most, .int .i64 c.f0, .int .i64 c.f1, .int .i64 c.h0, .int .i64 c.h1, .int .i64 c.rock, .int .i64 c.plo, .int .i64 c.phi] 26) = W1 := ⟨_, rfl⟩
  obtain ⟨e_c, b_c, s_c⟩ := boxed hW1
  obtain ⟨W2, hW2⟩ : ∃ W2, W1.alloc (.cells #[.int .i64 s.glo, .int .i64 s.ghi, .int .i64 s.ylo, .int .i64 s.yhi, .int .i64 s.tlo, .int .i64 s.thi, .int .i64 s.wlo, .int .i64 s.whi] 28) = W2 := ⟨_, rfl⟩
  obtain ⟨e_s, b_s, s_s⟩ := boxed hW2
  replace e_c := (b_s.block _ (Array.getElem?_eq_some_iff.1 e_c).1).trans e_c
  obtain ⟨W, hW⟩ : ∃ W, W2.alloc (.cells #[.int .i64 o.kind, .int .i64 o.lg, .int .i64 o.ly, .int .i64 o.lt, .int .i64 o.lw, .int .i64 o.moles, .int .i64 o.slo, .int .i64 o.shi, .int .i64 o.wlo, .int .i64 o.whi] 33) = W := ⟨_, rfl⟩
  obtain ⟨e_o, b_o, s_o⟩ := boxed hW
  replace e_c := (b_o.block _ (Array.getElem?_eq_some_iff.1 e_c).1).trans e_c
  replace e_s := (b_o.block _ (Array.getElem?_eq_some_iff.1 e_s).1).trans e_s
  have B0 : Below w.heap.size w W := ((b_c.trans (b_s.mono (by omega))).trans (b_o.mono (by omega)))
  have z0_c := (Array.getElem?_eq_some_iff.1 e_c).1
  have z0_s := (Array.getElem?_eq_some_iff.1 e_s).1
  have z0_o := (Array.getElem?_eq_some_iff.1 e_o).1
  have le_c : w.heap.size ≤ w.heap.size := by omega
  have le_s : w.heap.size ≤ W1.heap.size := by omega
  have le_o : w.heap.size ≤ W2.heap.size := by omega
  clear s_c b_c s_s b_s s_o b_o
  obtain ⟨q0_c_0, q0_c_1, q0_c_2, q0_c_3, q0_c_4, q0_c_5, q0_c_6, q0_c_7, q0_c_8, q0_c_9, q0_c_10⟩ := rc11 e_c
  replace e_c := Lib.hid e_c
  obtain ⟨q0_s_0, q0_s_1, q0_s_2, q0_s_3, q0_s_4, q0_s_5, q0_s_6, q0_s_7⟩ := rc8 e_s
  replace e_s := Lib.hid e_s
  obtain ⟨q0_o_0, q0_o_1, q0_o_2, q0_o_3, q0_o_4, q0_o_5, q0_o_6, q0_o_7, q0_o_8, q0_o_9⟩ := rc10 e_o
  replace e_o := Lib.hid e_o
  have hgw0 := grow_cell W
  have hK := Lib.hid (fun w => progKnown w)
  have kRC := Lib.hid (fun w => (refCavern c w).mono fun e w' hb => BoolB.lit hb hc)
  have kRS := Lib.hid (fun w => (refState s w).mono fun e w' hb => BoolB.lit hb hs)
  have kRO := Lib.hid (fun w => (refOp o w).mono fun e w' hb => BoolB.lit hb ho)
  replace hc := Lib.hid hc; replace hs := Lib.hid hs; replace ho := Lib.hid ho
  replace hcl := Lib.hid hcl; replace hl := Lib.hid hl
  go_enter Try.func7, Try.ntmps7
  go_wp2_with (first | (go_at_call 17; (with_reducible refine Calls.mono (kRC.out _) ?_); rintro e w1 ⟨rfl, hB⟩; (first | (obtain ⟨g, rfl⟩ := g.next hB) | (obtain ⟨g, rfl⟩ : ∃ g : Grow W, w1 = g.x := ⟨⟨w1, hB⟩, rfl⟩)); clear hB) | (go_at_call 18; (with_reducible refine Calls.mono (kRS.out _) ?_); rintro e w1 ⟨rfl, hB⟩; (first | (obtain ⟨g, rfl⟩ := g.next hB) | (obtain ⟨g, rfl⟩ : ∃ g : Grow W, w1 = g.x := ⟨⟨w1, hB⟩, rfl⟩)); clear hB) | (go_at_call 19; (with_reducible refine Calls.mono (kRO.out _) ?_); rintro e w1 ⟨rfl, hB⟩; (first | (obtain ⟨g, rfl⟩ := g.next hB) | (obtain ⟨g, rfl⟩ : ∃ g : Grow W, w1 = g.x := ⟨⟨w1, hB⟩, rfl⟩)); clear hB) | (go_at_call 20; (with_reducible refine Calls.mono (hK.out _) ?_); rintro e w1 ⟨rfl, hB⟩; (first | (obtain ⟨g, rfl⟩ := g.next hB) | (obtain ⟨g, rfl⟩ : ∃ g : Grow W, w1 = g.x := ⟨⟨w1, hB⟩, rfl⟩)); clear hB))
  go_ret
  exact ⟨rfl, B0.trans (g.h.mono B0.size)⟩

set_option maxRecDepth 100000 in
set_option maxHeartbeats 16000000 in
theorem lawMore3 (c : Cav) (s : St) (o : Gas.Op) (lv : Value) (xs : List Int) (w : World) (hl : IntsAt w lv xs) (hc : c.ok = true) (hs : s.ok = true) (ho : o.ok = true) (hn : ¬ xs.length = 4) :
    Calls Try.prog 7 #[cavV c, stV s, opV o, lv] w fun e w' => e = .returned (.bool true) ∧ Below w.heap.size w w' := by
  have hl' := hl
  obtain ⟨sl, cl, rfl, hml, hcl⟩ := hl'
  clear hml
  obtain ⟨W1, hW1⟩ : ∃ W1, w.alloc (.cells #[.int .i64 c.vlo, .int .i64 c.vhi, .int .i64 c.least, .int .i64 c.most, .int .i64 c.f0, .int .i64 c.f1, .int .i64 c.h0, .int .i64 c.h1, .int .i64 c.rock, .int .i64 c.plo, .int .i64 c.phi] 26) = W1 := ⟨_, rfl⟩
  obtain ⟨e_c, b_c, s_c⟩ := boxed hW1
  obtain ⟨W2, hW2⟩ : ∃ W2, W1.alloc (.cells #[.int .i64 s.glo, .int .i64 s.ghi, .int .i64 s.ylo, .int .i64 s.yhi, .int .i64 s.tlo, .int .i64 s.thi, .int .i64 s.wlo, .int .i64 s.whi] 28) = W2 := ⟨_, rfl⟩
  obtain ⟨e_s, b_s, s_s⟩ := boxed hW2
  replace e_c := (b_s.block _ (Array.getElem?_eq_some_iff.1 e_c).1).trans e_c
  obtain ⟨W, hW⟩ : ∃ W, W2.alloc (.cells #[.int .i64 o.kind, .int .i64 o.lg, .int .i64 o.ly, .int .i64 o.lt, .int .i64 o.lw, .int .i64 o.moles, .int .i64 o.slo, .int .i64 o.shi, .int .i64 o.wlo, .int .i64 o.whi] 33) = W := ⟨_, rfl⟩
  obtain ⟨e_o, b_o, s_o⟩ := boxed hW
  replace e_c := (b_o.block _ (Array.getElem?_eq_some_iff.1 e_c).1).trans e_c
  replace e_s := (b_o.block _ (Array.getElem?_eq_some_iff.1 e_s).1).trans e_s
  have B0 : Below w.heap.size w W := ((b_c.trans (b_s.mono (by omega))).trans (b_o.mono (by omega)))
  have z0_c := (Array.getElem?_eq_some_iff.1 e_c).1
  have z0_s := (Array.getElem?_eq_some_iff.1 e_s).1
  have z0_o := (Array.getElem?_eq_some_iff.1 e_o).1
  have le_c : w.heap.size ≤ w.heap.size := by omega
  have le_s : w.heap.size ≤ W1.heap.size := by omega
  have le_o : w.heap.size ≤ W2.heap.size := by omega
  clear s_c b_c s_s b_s s_o b_o
  obtain ⟨q0_c_0, q0_c_1, q0_c_2, q0_c_3, q0_c_4, q0_c_5, q0_c_6, q0_c_7, q0_c_8, q0_c_9, q0_c_10⟩ := rc11 e_c
  replace e_c := Lib.hid e_c
  obtain ⟨q0_s_0, q0_s_1, q0_s_2, q0_s_3, q0_s_4, q0_s_5, q0_s_6, q0_s_7⟩ := rc8 e_s
  replace e_s := Lib.hid e_s
  obtain ⟨q0_o_0, q0_o_1, q0_o_2, q0_o_3, q0_o_4, q0_o_5, q0_o_6, q0_o_7, q0_o_8, q0_o_9⟩ := rc10 e_o
  replace e_o := Lib.hid e_o
  have hgw0 := grow_cell W
  have hK := Lib.hid (fun w => progKnown w)
  have kRC := Lib.hid (fun w => (refCavern c w).mono fun e w' hb => BoolB.lit hb hc)
  have kRS := Lib.hid (fun w => (refState s w).mono fun e w' hb => BoolB.lit hb hs)
  have kRO := Lib.hid (fun w => (refOp o w).mono fun e w' hb => BoolB.lit hb ho)
  have hnI : ¬ (xs.length : Int) = 4 := by omega
  replace hc := Lib.hid hc; replace hs := Lib.hid hs; replace ho := Lib.hid ho
  replace hcl := Lib.hid hcl; replace hl := Lib.hid hl
  go_enter Try.func7, Try.ntmps7
  go_wp2_with (first | (go_at_call 17; (with_reducible refine Calls.mono (kRC.out _) ?_); rintro e w1 ⟨rfl, hB⟩; (first | (obtain ⟨g, rfl⟩ := g.next hB) | (obtain ⟨g, rfl⟩ : ∃ g : Grow W, w1 = g.x := ⟨⟨w1, hB⟩, rfl⟩)); clear hB) | (go_at_call 18; (with_reducible refine Calls.mono (kRS.out _) ?_); rintro e w1 ⟨rfl, hB⟩; (first | (obtain ⟨g, rfl⟩ := g.next hB) | (obtain ⟨g, rfl⟩ : ∃ g : Grow W, w1 = g.x := ⟨⟨w1, hB⟩, rfl⟩)); clear hB) | (go_at_call 19; (with_reducible refine Calls.mono (kRO.out _) ?_); rintro e w1 ⟨rfl, hB⟩; (first | (obtain ⟨g, rfl⟩ := g.next hB) | (obtain ⟨g, rfl⟩ : ∃ g : Grow W, w1 = g.x := ⟨⟨w1, hB⟩, rfl⟩)); clear hB) | (go_at_call 20; (with_reducible refine Calls.mono (hK.out _) ?_); rintro e w1 ⟨rfl, hB⟩; (first | (obtain ⟨g, rfl⟩ := g.next hB) | (obtain ⟨g, rfl⟩ : ∃ g : Grow W, w1 = g.x := ⟨⟨w1, hB⟩, rfl⟩)); clear hB))
  go_ret
  exact ⟨rfl, B0.trans (g.h.mono B0.size)⟩

set_option maxRecDepth 100000 in
set_option maxHeartbeats 16000000 in
theorem lawMore4 (c : Cav) (s : St) (o : Gas.Op) (lv : Value) (xs : List Int) (w : World) (hl : IntsAt w lv xs) (hc : c.ok = true) (hs : s.ok = true) (ho : o.ok = true) (hn : xs.length = 4) (hdo : ∀ a0 a1 a2 a3 : Int, (0 ≤ a0 ∧ a0 ≤ s.ghi - s.glo) → (0 ≤ a1 ∧ a1 ≤ s.yhi - s.ylo) → (0 ≤ a2 ∧ a2 ≤ s.thi - s.tlo) → (0 ≤ a3 ∧ a3 ≤ s.whi - s.wlo) → ∃ (X : St) (U : Out) (Y : St) (V : Out) (er : Int), (∀ w, Calls Try.prog 16 #[cavV c, stV s, opV o] w fun e w' => e = .returned (.tuple #[stV X, outV U, .int .i64 0]) ∧ Below w.heap.size w w') ∧ (∀ w, Calls Try.prog 16 #[cavV c, stV (narrow s a0 a1 a2 a3), opV o] w fun e w' => e = .returned (.tuple #[stV Y, outV V, .int .i64 er]) ∧ Below w.heap.size w w') ∧ Y.In X ∧ er = 0) (hk : o.kind = 1) (hlt : 2000 ≤ o.lt ∧ o.lt ≤ 5000) :
    Calls Try.prog 7 #[cavV c, stV s, opV o, lv] w fun e w' => e = .returned (.bool true) ∧ Below w.heap.size w w' := by
  have hl' := hl
  obtain ⟨sl, cl, rfl, hml, hcl⟩ := hl'
  clear hml
  obtain ⟨W1, hW1⟩ : ∃ W1, w.alloc (.cells #[.int .i64 c.vlo, .int .i64 c.vhi, .int .i64 c.least, .int .i64 c.most, .int .i64 c.f0, .int .i64 c.f1, .int .i64 c.h0, .int .i64 c.h1, .int .i64 c.rock, .int .i64 c.plo, .int .i64 c.phi] 26) = W1 := ⟨_, rfl⟩
  obtain ⟨e_c, b_c, s_c⟩ := boxed hW1
  obtain ⟨W2, hW2⟩ : ∃ W2, W1.alloc (.cells #[.int .i64 s.glo, .int .i64 s.ghi, .int .i64 s.ylo, .int .i64 s.yhi, .int .i64 s.tlo, .int .i64 s.thi, .int .i64 s.wlo, .int .i64 s.whi] 28) = W2 := ⟨_, rfl⟩
  obtain ⟨e_s, b_s, s_s⟩ := boxed hW2
  replace e_c := (b_s.block _ (Array.getElem?_eq_some_iff.1 e_c).1).trans e_c
  obtain ⟨W, hW⟩ : ∃ W, W2.alloc (.cells #[.int .i64 o.kind, .int .i64 o.lg, .int .i64 o.ly, .int .i64 o.lt, .int .i64 o.lw, .int .i64 o.moles, .int .i64 o.slo, .int .i64 o.shi, .int .i64 o.wlo, .int .i64 o.whi] 33) = W := ⟨_, rfl⟩
  obtain ⟨e_o, b_o, s_o⟩ := boxed hW
  replace e_c := (b_o.block _ (Array.getElem?_eq_some_iff.1 e_c).1).trans e_c
  replace e_s := (b_o.block _ (Array.getElem?_eq_some_iff.1 e_s).1).trans e_s
  have B0 : Below w.heap.size w W := ((b_c.trans (b_s.mono (by omega))).trans (b_o.mono (by omega)))
  have z0_c := (Array.getElem?_eq_some_iff.1 e_c).1
  have z0_s := (Array.getElem?_eq_some_iff.1 e_s).1
  have z0_o := (Array.getElem?_eq_some_iff.1 e_o).1
  have le_c : w.heap.size ≤ w.heap.size := by omega
  have le_s : w.heap.size ≤ W1.heap.size := by omega
  have le_o : w.heap.size ≤ W2.heap.size := by omega
  clear s_c b_c s_s b_s s_o b_o
  obtain ⟨q0_c_0, q0_c_1, q0_c_2, q0_c_3, q0_c_4, q0_c_5, q0_c_6, q0_c_7, q0_c_8, q0_c_9, q0_c_10⟩ := rc11 e_c
  replace e_c := Lib.hid e_c
  obtain ⟨q0_s_0, q0_s_1, q0_s_2, q0_s_3, q0_s_4, q0_s_5, q0_s_6, q0_s_7⟩ := rc8 e_s
  replace e_s := Lib.hid e_s
  obtain ⟨q0_o_0, q0_o_1, q0_o_2, q0_o_3, q0_o_4, q0_o_5, q0_o_6, q0_o_7, q0_o_8, q0_o_9⟩ := rc10 e_o
  replace e_o := Lib.hid e_o
  have hgw0 := grow_cell W
  have hK := Lib.hid (fun w => progKnown w)
  have hs' := St.ok_iff.1 hs
  obtain ⟨i0, i0b⟩ := innerI_in (n := at0 xs 0) hs'.g.2.1
  obtain ⟨i1, i1b⟩ := innerI_in (n := at0 xs 1) hs'.y.2.1
  obtain ⟨i2, i2b⟩ := innerI_in (n := at0 xs 2) hs'.t.2.1
  obtain ⟨i3, i3b⟩ := innerI_in (n := at0 xs 3) hs'.w.2.1
  have k0 := Lib.hid (fun w => lawInner s.glo s.ghi (at0 xs 0) w (by have := hs'.g; omega) rfl (show _ = innerI s.glo s.ghi (at0 xs 0) from rfl))
  have k1 := Lib.hid (fun w => lawInner s.ylo s.yhi (at0 xs 1) w (by have := hs'.y; omega) rfl (show _ = innerI s.ylo s.yhi (at0 xs 1) from rfl))
  have k2 := Lib.hid (fun w => lawInner s.tlo s.thi (at0 xs 2) w (by have := hs'.t; omega) rfl (show _ = innerI s.tlo s.thi (at0 xs 2) from rfl))
  have k3 := Lib.hid (fun w => lawInner s.wlo s.whi (at0 xs 3) w (by have := hs'.w; omega) rfl (show _ = innerI s.wlo s.whi (at0 xs 3) from rfl))
  generalize innerI s.glo s.ghi (at0 xs 0) = a0 at *
  generalize innerI s.ylo s.yhi (at0 xs 1) = a1 at *
  generalize innerI s.tlo s.thi (at0 xs 2) = a2 at *
  generalize innerI s.wlo s.whi (at0 xs 3) = a3 at *
  have e0 : IntKind.i64.wrap (s.glo + a0) = s.glo + a0 := by have := hs'.g; exact IntWalk.i64_in _ (by omega)
  have e1 : IntKind.i64.wrap (s.yhi - a1) = s.yhi - a1 := by have := hs'.y; exact IntWalk.i64_in _ (by omega)
  have e2 : IntKind.i64.wrap (s.tlo + a2) = s.tlo + a2 := by have := hs'.t; exact IntWalk.i64_in _ (by omega)
  have e3 : IntKind.i64.wrap (s.whi - a3) = s.whi - a3 := by have := hs'.w; exact IntWalk.i64_in _ (by omega)
  have hDo := hdo a0 a1 a2 a3 ⟨i0, i0b⟩ ⟨i1, i1b⟩ ⟨i2, i2b⟩ ⟨i3, i3b⟩
  clear hdo i0 i0b i1 i1b i2 i2b i3 i3b
  obtain ⟨X, U, Y, V, er, hDs, hDn, hin, her⟩ := hDo
  subst her
  have kDs := Lib.hid hDs; have kDn : Hid (∀ w, Calls Try.prog 16 #[cavV c, .agg #[.int .i64 (s.glo + a0), .int .i64 s.ghi, .int .i64 s.ylo, .int .i64 (s.yhi - a1), .int .i64 (s.tlo + a2), .int .i64 s.thi, .int .i64 s.wlo, .int .i64 (s.whi - a3)], opV o] w fun e w' => e = .returned (.tuple #[stV Y, outV V, .int .i64 0]) ∧ Below w.heap.size w w') := Lib.hid hDn
  clear hDs hDn
  have kW := Lib.hid (fun w => refWithin Y X w hin)
  clear hin
  have kNo := Lib.hid (fun k hk w => noOps_do (t := o.lt) hc hs hlt k hk w)
  clear hs'
  replace hk := Lib.hid hk
  clear hlt
  obtain ⟨b, off, rfl, hb0, hce⟩ := hcl (by omega)
  have hd0 := hce 0 (by omega)
  have hd1 := hce 1 (by omega)
  have hd2 := hce 2 (by omega)
  have hd3 := hce 3 (by omega)
  simp only [Nat.add_zero] at hd0
  generalize at0 xs 0 = l0 at *
  generalize at0 xs 1 = l1 at *
  generalize at0 xs 2 = l2 at *
  generalize at0 xs 3 = l3 at *
  clear hce hl
  replace hd0 := Lib.hid hd0; replace hd1 := Lib.hid hd1; replace hd2 := Lib.hid hd2; replace hd3 := Lib.hid hd3
  have kRC := Lib.hid (fun w => (refCavern c w).mono fun e w' hb => BoolB.lit hb hc)
  have kRS := Lib.hid (fun w => (refState s w).mono fun e w' hb => BoolB.lit hb hs)
  have kRO := Lib.hid (fun w => (refOp o w).mono fun e w' hb => BoolB.lit hb ho)
  replace hc := Lib.hid hc; replace hs := Lib.hid hs; replace ho := Lib.hid ho
  go_enter Try.func7, Try.ntmps7
  go_wp2_with (first | (go_at_call 17; (with_reducible refine Calls.mono (kRC.out _) ?_); rintro e w1 ⟨rfl, hB⟩; (first | (obtain ⟨g, rfl⟩ := g.next hB) | (obtain ⟨g, rfl⟩ : ∃ g : Grow W, w1 = g.x := ⟨⟨w1, hB⟩, rfl⟩)); clear hB) | (go_at_call 18; (with_reducible refine Calls.mono (kRS.out _) ?_); rintro e w1 ⟨rfl, hB⟩; (first | (obtain ⟨g, rfl⟩ := g.next hB) | (obtain ⟨g, rfl⟩ : ∃ g : Grow W, w1 = g.x := ⟨⟨w1, hB⟩, rfl⟩)); clear hB) | (go_at_call 19; (with_reducible refine Calls.mono (kRO.out _) ?_); rintro e w1 ⟨rfl, hB⟩; (first | (obtain ⟨g, rfl⟩ := g.next hB) | (obtain ⟨g, rfl⟩ : ∃ g : Grow W, w1 = g.x := ⟨⟨w1, hB⟩, rfl⟩)); clear hB; have hld : ∀ (b o : Nat), b < W.heap.size → (g.x.alloc (.cells #[.int .i64 s.glo, .int .i64 s.ghi, .int .i64 s.ylo, .int .i64 s.yhi, .int .i64 s.tlo, .int .i64 s.thi, .int .i64 s.wlo, .int .i64 s.whi] 28)).cell? ⟨b, o, none⟩ = W.cell? ⟨b, o, none⟩ := below_cell (g.h.alloc g.size (.cells #[.int .i64 s.glo, .int .i64 s.ghi, .int .i64 s.ylo, .int .i64 s.yhi, .int .i64 s.tlo, .int .i64 s.thi, .int .i64 s.wlo, .int .i64 s.whi] 28))))
  clear hld
  clear q0_c_0 q0_c_1 q0_c_2 q0_c_3 q0_c_4 q0_c_5 q0_c_6 q0_c_7 q0_c_8 q0_c_9 q0_c_10 q0_s_0 q0_s_1 q0_s_2 q0_s_3 q0_s_4 q0_s_5 q0_s_6 q0_s_7 q0_o_0 q0_o_1 q0_o_2 q0_o_3 q0_o_4 q0_o_5 q0_o_6 q0_o_7 q0_o_8 q0_o_9
  clear hgw0
  have szo1 := B0.size
  have gz1 := g.size
  have A_c : g.x.heap[w.heap.size]? = some (.cells #[.int .i64 c.vlo, .int .i64 c.vhi, .int .i64 c.least, .int .i64 c.most, .int .i64 c.f0, .int .i64 c.f1, .int .i64 c.h0, .int .i64 c.h1, .int .i64 c.rock, .int .i64 c.plo, .int .i64 c.phi] 26 (0, 0)) := (g.h.block _ z0_c).trans e_c.out
  have A_s : g.x.heap[W1.heap.size]? = some (.cells #[.int .i64 s.glo, .int .i64 s.ghi, .int .i64 s.ylo, .int .i64 s.yhi, .int .i64 s.tlo, .int .i64 s.thi, .int .i64 s.wlo, .int .i64 s.whi] 28 (0, 0)) := (g.h.block _ z0_s).trans e_s.out
  have A_o : g.x.heap[W2.heap.size]? = some (.cells #[.int .i64 o.kind, .int .i64 o.lg, .int .i64 o.ly, .int .i64 o.lt, .int .i64 o.lw, .int .i64 o.moles, .int .i64 o.slo, .int .i64 o.shi, .int .i64 o.wlo, .int .i64 o.whi] 33 (0, 0)) := (g.h.block _ z0_o).trans e_o.out
  obtain ⟨U1_n, hU1_n⟩ : ∃ Uw, g.x.alloc (.cells #[.int .i64 s.glo, .int .i64 s.ghi, .int .i64 s.ylo, .int .i64 s.yhi, .int .i64 s.tlo, .int .i64 s.thi, .int .i64 s.wlo, .int .i64 s.whi] 28) = Uw := ⟨_, rfl⟩
  obtain ⟨A_n, b_n, s_n⟩ := boxed hU1_n
  rw [hU1_n]
  replace A_c := (b_n.block _ (Array.getElem?_eq_some_iff.1 A_c).1).trans A_c
  replace A_s := (b_n.block _ (Array.getElem?_eq_some_iff.1 A_s).1).trans A_s
  replace A_o := (b_n.block _ (Array.getElem?_eq_some_iff.1 A_o).1).trans A_o
  obtain ⟨blk_n, hb_n⟩ : ∃ b, g.x.heap.size = b := ⟨_, rfl⟩
  rw [hb_n] at A_n
  try rw [hb_n]
  have B1 : Below w.heap.size w U1_n := ((B0.trans (g.h.mono B0.size)).trans (b_n.mono (B0.trans (g.h.mono B0.size)).size))
  have le_n : w.heap.size ≤ blk_n := by omega
  have z1_c := (Array.getElem?_eq_some_iff.1 A_c).1
  have z1_s := (Array.getElem?_eq_some_iff.1 A_s).1
  have z1_o := (Array.getElem?_eq_some_iff.1 A_o).1
  have z1_n := (Array.getElem?_eq_some_iff.1 A_n).1
  have ne_c_n : (w.heap.size : Nat) ≠ blk_n := by omega
  have ne_n_c : (blk_n : Nat) ≠ w.heap.size := by omega
  have ne_s_n : (W1.heap.size : Nat) ≠ blk_n := by omega
  have ne_n_s : (blk_n : Nat) ≠ W1.heap.size := by omega
  have ne_o_n : (W2.heap.size : Nat) ≠ blk_n := by omega
  have ne_n_o : (blk_n : Nat) ≠ W2.heap.size := by omega
  clear hb_n b_n s_n hU1_n 
  obtain ⟨q1_c_0, q1_c_1, q1_c_2, q1_c_3, q1_c_4, q1_c_5, q1_c_6, q1_c_7, q1_c_8, q1_c_9, q1_c_10⟩ := rc11 A_c
  have R1_c := Lib.hid A_c
  clear A_c
  obtain ⟨q1_s_0, q1_s_1, q1_s_2, q1_s_3, q1_s_4, q1_s_5, q1_s_6, q1_s_7⟩ := rc8 A_s
  have R1_s := Lib.hid A_s
  clear A_s
  obtain ⟨q1_o_0, q1_o_1, q1_o_2, q1_o_3, q1_o_4, q1_o_5, q1_o_6, q1_o_7, q1_o_8, q1_o_9⟩ := rc10 A_o
  have R1_o := Lib.hid A_o
  clear A_o
  obtain ⟨q1_n_0, q1_n_1, q1_n_2, q1_n_3, q1_n_4, q1_n_5, q1_n_6, q1_n_7⟩ := rc8 A_n
  obtain ⟨f1_n_0, f1_n_1, f1_n_2, f1_n_3, f1_n_4, f1_n_5, f1_n_6, f1_n_7⟩ := rf8 A_n
  have R1_n := Lib.hid A_n
  clear A_n
  have hgw1 := grow_cell U1_n
  have hgf := grow_frozen U1_n
  have d := kept_cell B1 hd0.out
  have zb : b < U1_n.heap.size := Nat.lt_of_lt_of_le hb0 B1.size
  refine wp_grow_tail 12 (by kernel_rfl) (by kernel_rfl) ?_
  simp only [List.take_succ_cons, List.take_zero, List.drop_succ_cons, List.drop_zero]
  repeat (go_big_quiet_step ((first | (go_at_call 29; with_reducible exact Calls.grow (k0.out _)))))
  refine wpQuiet_nil ?_
  rintro _ ⟨g, rfl⟩
  go_wp2_with (fail)
  clear d zb hgf hgw1 k0
  generalize hV2 : World.setCell _ ⟨blk_n, 0, none⟩ _ = V2
  have gz2 := g.size
  have R2_c : V2.heap[w.heap.size]? = some (.cells #[.int .i64 c.vlo, .int .i64 c.vhi, .int .i64 c.least, .int .i64 c.most, .int .i64 c.f0, .int .i64 c.f1, .int .i64 c.h0, .int .i64 c.h1, .int .i64 c.rock, .int .i64 c.plo, .int .i64 c.phi] 26 (0, 0)) := by rw [← hV2]; have h2 := (set_far (n := blk_n) 0 (.int .i64 (s.glo + a0)) ne_c_n ((g.h.block _ z1_c).trans R1_c.out)); exact h2
  have R2_s : V2.heap[W1.heap.size]? = some (.cells #[.int .i64 s.glo, .int .i64 s.ghi, .int .i64 s.ylo, .int .i64 s.yhi, .int .i64 s.tlo, .int .i64 s.thi, .int .i64 s.wlo, .int .i64 s.whi] 28 (0, 0)) := by rw [← hV2]; have h2 := (set_far (n := blk_n) 0 (.int .i64 (s.glo + a0)) ne_s_n ((g.h.block _ z1_s).trans R1_s.out)); exact h2
  have R2_o : V2.heap[W2.heap.size]? = some (.cells #[.int .i64 o.kind, .int .i64 o.lg, .int .i64 o.ly, .int .i64 o.lt, .int .i64 o.lw, .int .i64 o.moles, .int .i64 o.slo, .int .i64 o.shi, .int .i64 o.wlo, .int .i64 o.whi] 33 (0, 0)) := by rw [← hV2]; have h2 := (set_far (n := blk_n) 0 (.int .i64 (s.glo + a0)) ne_o_n ((g.h.block _ z1_o).trans R1_o.out)); exact h2
  have R2_n : V2.heap[blk_n]? = some (.cells #[.int .i64 (s.glo + a0), .int .i64 s.ghi, .int .i64 s.ylo, .int .i64 s.yhi, .int .i64 s.tlo, .int .i64 s.thi, .int .i64 s.wlo, .int .i64 s.whi] 28 (0, 0)) := by rw [← hV2]; have h2 := (set_one ((g.h.block _ z1_n).trans R1_n.out) 0 (.int .i64 (s.glo + a0))); simp only [List.setIfInBounds_toArray, List.set_cons_zero, List.set_cons_succ] at h2; exact h2
  have B2 : Below w.heap.size w V2 := by rw [← hV2]; exact (Below.setCell (p := ⟨blk_n, 0, none⟩) (B1.trans (g.h.mono B1.size)) le_n (.int .i64 (s.glo + a0)))
  clear hV2 gz2
  clear q1_c_0 q1_c_1 q1_c_2 q1_c_3 q1_c_4 q1_c_5 q1_c_6 q1_c_7 q1_c_8 q1_c_9 q1_c_10 q1_s_0 q1_s_1 q1_s_2 q1_s_3 q1_s_4 q1_s_5 q1_s_6 q1_s_7 q1_o_0 q1_o_1 q1_o_2 q1_o_3 q1_o_4 q1_o_5 q1_o_6 q1_o_7 q1_o_8 q1_o_9 q1_n_0 f1_n_0 q1_n_1 f1_n_1 q1_n_2 f1_n_2 q1_n_3 f1_n_3 q1_n_4 f1_n_4 q1_n_5 f1_n_5 q1_n_6 f1_n_6 q1_n_7 f1_n_7
  have E2_c := Lib.hid R2_c
  obtain ⟨z2_c, r2_c, t2_c⟩ := row_cells R2_c
  obtain ⟨q2_c_0, q2_c_1, q2_c_2, q2_c_3, q2_c_4, q2_c_5, q2_c_6, q2_c_7, q2_c_8, q2_c_9, q2_c_10⟩ := rc11 R2_c
  clear r2_c t2_c R2_c
  have E2_s := Lib.hid R2_s
  obtain ⟨z2_s, r2_s, t2_s⟩ := row_cells R2_s
  obtain ⟨q2_s_0, q2_s_1, q2_s_2, q2_s_3, q2_s_4, q2_s_5, q2_s_6, q2_s_7⟩ := rc8 R2_s
  clear r2_s t2_s R2_s
  have E2_o := Lib.hid R2_o
  obtain ⟨z2_o, r2_o, t2_o⟩ := row_cells R2_o
  obtain ⟨q2_o_0, q2_o_1, q2_o_2, q2_o_3, q2_o_4, q2_o_5, q2_o_6, q2_o_7, q2_o_8, q2_o_9⟩ := rc10 R2_o
  clear r2_o t2_o R2_o
  have E2_n := Lib.hid R2_n
  obtain ⟨z2_n, r2_n, t2_n⟩ := row_cells R2_n
  obtain ⟨q2_n_0, q2_n_1, q2_n_2, q2_n_3, q2_n_4, q2_n_5, q2_n_6, q2_n_7⟩ := rc8 R2_n
  obtain ⟨f2_n_0, f2_n_1, f2_n_2, f2_n_3, f2_n_4, f2_n_5, f2_n_6, f2_n_7⟩ := rf8 R2_n
  clear r2_n t2_n R2_n
  have hgw2 := grow_cell V2
  have hgf := grow_frozen V2
  have d := kept_cell B2 hd1.out
  have zb : b < V2.heap.size := Nat.lt_of_lt_of_le hb0 B2.size
  refine wp_grow_tail 12 (by kernel_rfl) (by kernel_rfl) ?_
  simp only [List.take_succ_cons, List.take_zero, List.drop_succ_cons, List.drop_zero]
  repeat (go_big_quiet_step ((first | (go_at_call 29; with_reducible exact Calls.grow (k1.out _)))))
  refine wpQuiet_nil ?_
  rintro _ ⟨g, rfl⟩
  go_wp2_with (fail)
  clear d zb hgf hgw2 k1
  generalize hV3 : World.setCell _ ⟨blk_n, 3, none⟩ _ = V3
  have gz3 := g.size
  have R3_c : V3.heap[w.heap.size]? = some (.cells #[.int .i64 c.vlo, .int .i64 c.vhi, .int .i64 c.least, .int .i64 c.most, .int .i64 c.f0, .int .i64 c.f1, .int .i64 c.h0, .int .i64 c.h1, .int .i64 c.rock, .int .i64 c.plo, .int .i64 c.phi] 26 (0, 0)) := by rw [← hV3]; have h2 := (set_far (n := blk_n) 3 (.int .i64 (s.yhi - a1)) ne_c_n ((g.h.block _ z2_c).trans E2_c.out)); exact h2
  have R3_s : V3.heap[W1.heap.size]? = some (.cells #[.int .i64 s.glo, .int .i64 s.ghi, .int .i64 s.ylo, .int .i64 s.yhi, .int .i64 s.tlo, .int .i64 s.thi, .int .i64 s.wlo, .int .i64 s.whi] 28 (0, 0)) := by rw [← hV3]; have h2 := (set_far (n := blk_n) 3 (.int .i64 (s.yhi - a1)) ne_s_n ((g.h.block _ z2_s).trans E2_s.out)); exact h2
  have R3_o : V3.heap[W2.heap.size]? = some (.cells #[.int .i64 o.kind, .int .i64 o.lg, .int .i64 o.ly, .int .i64 o.lt, .int .i64 o.lw, .int .i64 o.moles, .int .i64 o.slo, .int .i64 o.shi, .int .i64 o.wlo, .int .i64 o.whi] 33 (0, 0)) := by rw [← hV3]; have h2 := (set_far (n := blk_n) 3 (.int .i64 (s.yhi - a1)) ne_o_n ((g.h.block _ z2_o).trans E2_o.out)); exact h2
  have R3_n : V3.heap[blk_n]? = some (.cells #[.int .i64 (s.glo + a0), .int .i64 s.ghi, .int .i64 s.ylo, .int .i64 (s.yhi - a1), .int .i64 s.tlo, .int .i64 s.thi, .int .i64 s.wlo, .int .i64 s.whi] 28 (0, 0)) := by rw [← hV3]; have h2 := (set_one ((g.h.block _ z2_n).trans E2_n.out) 3 (.int .i64 (s.yhi - a1))); simp only [List.setIfInBounds_toArray, List.set_cons_zero, List.set_cons_succ] at h2; exact h2
  have B3 : Below w.heap.size w V3 := by rw [← hV3]; exact (Below.setCell (p := ⟨blk_n, 3, none⟩) (B2.trans (g.h.mono B2.size)) le_n (.int .i64 (s.yhi - a1)))
  clear hV3 gz3
  clear q2_c_0 q2_c_1 q2_c_2 q2_c_3 q2_c_4 q2_c_5 q2_c_6 q2_c_7 q2_c_8 q2_c_9 q2_c_10 q2_s_0 q2_s_1 q2_s_2 q2_s_3 q2_s_4 q2_s_5 q2_s_6 q2_s_7 q2_o_0 q2_o_1 q2_o_2 q2_o_3 q2_o_4 q2_o_5 q2_o_6 q2_o_7 q2_o_8 q2_o_9 q2_n_0 f2_n_0 q2_n_1 f2_n_1 q2_n_2 f2_n_2 q2_n_3 f2_n_3 q2_n_4 f2_n_4 q2_n_5 f2_n_5 q2_n_6 f2_n_6 q2_n_7 f2_n_7
  have E3_c := Lib.hid R3_c
  obtain ⟨z3_c, r3_c, t3_c⟩ := row_cells R3_c
  obtain ⟨q3_c_0, q3_c_1, q3_c_2, q3_c_3, q3_c_4, q3_c_5, q3_c_6, q3_c_7, q3_c_8, q3_c_9, q3_c_10⟩ := rc11 R3_c
  clear r3_c t3_c R3_c
  have E3_s := Lib.hid R3_s
  obtain ⟨z3_s, r3_s, t3_s⟩ := row_cells R3_s
  obtain ⟨q3_s_0, q3_s_1, q3_s_2, q3_s_3, q3_s_4, q3_s_5, q3_s_6, q3_s_7⟩ := rc8 R3_s
  clear r3_s t3_s R3_s
  have E3_o := Lib.hid R3_o
  obtain ⟨z3_o, r3_o, t3_o⟩ := row_cells R3_o
  obtain ⟨q3_o_0, q3_o_1, q3_o_2, q3_o_3, q3_o_4, q3_o_5, q3_o_6, q3_o_7, q3_o_8, q3_o_9⟩ := rc10 R3_o
  clear r3_o t3_o R3_o
  have E3_n := Lib.hid R3_n
  obtain ⟨z3_n, r3_n, t3_n⟩ := row_cells R3_n
  obtain ⟨q3_n_0, q3_n_1, q3_n_2, q3_n_3, q3_n_4, q3_n_5, q3_n_6, q3_n_7⟩ := rc8 R3_n
  obtain ⟨f3_n_0, f3_n_1, f3_n_2, f3_n_3, f3_n_4, f3_n_5, f3_n_6, f3_n_7⟩ := rf8 R3_n
  clear r3_n t3_n R3_n
  have hgw3 := grow_cell V3
  have hgf := grow_frozen V3
  have d := kept_cell B3 hd2.out
  have zb : b < V3.heap.size := Nat.lt_of_lt_of_le hb0 B3.size
  refine wp_grow_tail 12 (by kernel_rfl) (by kernel_rfl) ?_
  simp only [List.take_succ_cons, List.take_zero, List.drop_succ_cons, List.drop_zero]
  repeat (go_big_quiet_step ((first | (go_at_call 29; with_reducible exact Calls.grow (k2.out _)))))
  refine wpQuiet_nil ?_
  rintro _ ⟨g, rfl⟩
  go_wp2_with (fail)
  clear d zb hgf hgw3 k2
  generalize hV4 : World.setCell _ ⟨blk_n, 4, none⟩ _ = V4
  have gz4 := g.size
  have R4_c : V4.heap[w.heap.size]? = some (.cells #[.int .i64 c.vlo, .int .i64 c.vhi, .int .i64 c.least, .int .i64 c.most, .int .i64 c.f0, .int .i64 c.f1, .int .i64 c.h0, .int .i64 c.h1, .int .i64 c.rock, .int .i64 c.plo, .int .i64 c.phi] 26 (0, 0)) := by rw [← hV4]; have h2 := (set_far (n := blk_n) 4 (.int .i64 (s.tlo + a2)) ne_c_n ((g.h.block _ z3_c).trans E3_c.out)); exact h2
  have R4_s : V4.heap[W1.heap.size]? = some (.cells #[.int .i64 s.glo, .int .i64 s.ghi, .int .i64 s.ylo, .int .i64 s.yhi, .int .i64 s.tlo, .int .i64 s.thi, .int .i64 s.wlo, .int .i64 s.whi] 28 (0, 0)) := by rw [← hV4]; have h2 := (set_far (n := blk_n) 4 (.int .i64 (s.tlo + a2)) ne_s_n ((g.h.block _ z3_s).trans E3_s.out)); exact h2
  have R4_o : V4.heap[W2.heap.size]? = some (.cells #[.int .i64 o.kind, .int .i64 o.lg, .int .i64 o.ly, .int .i64 o.lt, .int .i64 o.lw, .int .i64 o.moles, .int .i64 o.slo, .int .i64 o.shi, .int .i64 o.wlo, .int .i64 o.whi] 33 (0, 0)) := by rw [← hV4]; have h2 := (set_far (n := blk_n) 4 (.int .i64 (s.tlo + a2)) ne_o_n ((g.h.block _ z3_o).trans E3_o.out)); exact h2
  have R4_n : V4.heap[blk_n]? = some (.cells #[.int .i64 (s.glo + a0), .int .i64 s.ghi, .int .i64 s.ylo, .int .i64 (s.yhi - a1), .int .i64 (s.tlo + a2), .int .i64 s.thi, .int .i64 s.wlo, .int .i64 s.whi] 28 (0, 0)) := by rw [← hV4]; have h2 := (set_one ((g.h.block _ z3_n).trans E3_n.out) 4 (.int .i64 (s.tlo + a2))); simp only [List.setIfInBounds_toArray, List.set_cons_zero, List.set_cons_succ] at h2; exact h2
  have B4 : Below w.heap.size w V4 := by rw [← hV4]; exact (Below.setCell (p := ⟨blk_n, 4, none⟩) (B3.trans (g.h.mono B3.size)) le_n (.int .i64 (s.tlo + a2)))
  clear hV4 gz4
  clear q3_c_0 q3_c_1 q3_c_2 q3_c_3 q3_c_4 q3_c_5 q3_c_6 q3_c_7 q3_c_8 q3_c_9 q3_c_10 q3_s_0 q3_s_1 q3_s_2 q3_s_3 q3_s_4 q3_s_5 q3_s_6 q3_s_7 q3_o_0 q3_o_1 q3_o_2 q3_o_3 q3_o_4 q3_o_5 q3_o_6 q3_o_7 q3_o_8 q3_o_9 q3_n_0 f3_n_0 q3_n_1 f3_n_1 q3_n_2 f3_n_2 q3_n_3 f3_n_3 q3_n_4 f3_n_4 q3_n_5 f3_n_5 q3_n_6 f3_n_6 q3_n_7 f3_n_7
  have E4_c := Lib.hid R4_c
  obtain ⟨z4_c, r4_c, t4_c⟩ := row_cells R4_c
  obtain ⟨q4_c_0, q4_c_1, q4_c_2, q4_c_3, q4_c_4, q4_c_5, q4_c_6, q4_c_7, q4_c_8, q4_c_9, q4_c_10⟩ := rc11 R4_c
  clear r4_c t4_c R4_c
  have E4_s := Lib.hid R4_s
  obtain ⟨z4_s, r4_s, t4_s⟩ := row_cells R4_s
  obtain ⟨q4_s_0, q4_s_1, q4_s_2, q4_s_3, q4_s_4, q4_s_5, q4_s_6, q4_s_7⟩ := rc8 R4_s
  clear r4_s t4_s R4_s
  have E4_o := Lib.hid R4_o
  obtain ⟨z4_o, r4_o, t4_o⟩ := row_cells R4_o
  obtain ⟨q4_o_0, q4_o_1, q4_o_2, q4_o_3, q4_o_4, q4_o_5, q4_o_6, q4_o_7, q4_o_8, q4_o_9⟩ := rc10 R4_o
  clear r4_o t4_o R4_o
  have E4_n := Lib.hid R4_n
  obtain ⟨z4_n, r4_n, t4_n⟩ := row_cells R4_n
  obtain ⟨q4_n_0, q4_n_1, q4_n_2, q4_n_3, q4_n_4, q4_n_5, q4_n_6, q4_n_7⟩ := rc8 R4_n
  obtain ⟨f4_n_0, f4_n_1, f4_n_2, f4_n_3, f4_n_4, f4_n_5, f4_n_6, f4_n_7⟩ := rf8 R4_n
  clear r4_n t4_n R4_n
  have hgw4 := grow_cell V4
  have hgf := grow_frozen V4
  have d := kept_cell B4 hd3.out
  have zb : b < V4.heap.size := Nat.lt_of_lt_of_le hb0 B4.size
  refine wp_grow_tail 12 (by kernel_rfl) (by kernel_rfl) ?_
  simp only [List.take_succ_cons, List.take_zero, List.drop_succ_cons, List.drop_zero]
  repeat (go_big_quiet_step ((first | (go_at_call 29; with_reducible exact Calls.grow (k3.out _)))))
  refine wpQuiet_nil ?_
  rintro _ ⟨g, rfl⟩
  go_wp2_with (fail)
  clear d zb hgf hgw4 k3
  generalize hV5 : World.setCell _ ⟨blk_n, 7, none⟩ _ = V5
  have gz5 := g.size
  have R5_c : V5.heap[w.heap.size]? = some (.cells #[.int .i64 c.vlo, .int .i64 c.vhi, .int .i64 c.least, .int .i64 c.most, .int .i64 c.f0, .int .i64 c.f1, .int .i64 c.h0, .int .i64 c.h1, .int .i64 c.rock, .int .i64 c.plo, .int .i64 c.phi] 26 (0, 0)) := by rw [← hV5]; have h2 := (set_far (n := blk_n) 7 (.int .i64 (s.whi - a3)) ne_c_n ((g.h.block _ z4_c).trans E4_c.out)); exact h2
  have R5_s : V5.heap[W1.heap.size]? = some (.cells #[.int .i64 s.glo, .int .i64 s.ghi, .int .i64 s.ylo, .int .i64 s.yhi, .int .i64 s.tlo, .int .i64 s.thi, .int .i64 s.wlo, .int .i64 s.whi] 28 (0, 0)) := by rw [← hV5]; have h2 := (set_far (n := blk_n) 7 (.int .i64 (s.whi - a3)) ne_s_n ((g.h.block _ z4_s).trans E4_s.out)); exact h2
  have R5_o : V5.heap[W2.heap.size]? = some (.cells #[.int .i64 o.kind, .int .i64 o.lg, .int .i64 o.ly, .int .i64 o.lt, .int .i64 o.lw, .int .i64 o.moles, .int .i64 o.slo, .int .i64 o.shi, .int .i64 o.wlo, .int .i64 o.whi] 33 (0, 0)) := by rw [← hV5]; have h2 := (set_far (n := blk_n) 7 (.int .i64 (s.whi - a3)) ne_o_n ((g.h.block _ z4_o).trans E4_o.out)); exact h2
  have R5_n : V5.heap[blk_n]? = some (.cells #[.int .i64 (s.glo + a0), .int .i64 s.ghi, .int .i64 s.ylo, .int .i64 (s.yhi - a1), .int .i64 (s.tlo + a2), .int .i64 s.thi, .int .i64 s.wlo, .int .i64 (s.whi - a3)] 28 (0, 0)) := by rw [← hV5]; have h2 := (set_one ((g.h.block _ z4_n).trans E4_n.out) 7 (.int .i64 (s.whi - a3))); simp only [List.setIfInBounds_toArray, List.set_cons_zero, List.set_cons_succ] at h2; exact h2
  have B5 : Below w.heap.size w V5 := by rw [← hV5]; exact (Below.setCell (p := ⟨blk_n, 7, none⟩) (B4.trans (g.h.mono B4.size)) le_n (.int .i64 (s.whi - a3)))
  clear hV5 gz5
  clear q4_c_0 q4_c_1 q4_c_2 q4_c_3 q4_c_4 q4_c_5 q4_c_6 q4_c_7 q4_c_8 q4_c_9 q4_c_10 q4_s_0 q4_s_1 q4_s_2 q4_s_3 q4_s_4 q4_s_5 q4_s_6 q4_s_7 q4_o_0 q4_o_1 q4_o_2 q4_o_3 q4_o_4 q4_o_5 q4_o_6 q4_o_7 q4_o_8 q4_o_9 q4_n_0 f4_n_0 q4_n_1 f4_n_1 q4_n_2 f4_n_2 q4_n_3 f4_n_3 q4_n_4 f4_n_4 q4_n_5 f4_n_5 q4_n_6 f4_n_6 q4_n_7 f4_n_7
  have E5_c := Lib.hid R5_c
  obtain ⟨z5_c, r5_c, t5_c⟩ := row_cells R5_c
  obtain ⟨q5_c_0, q5_c_1, q5_c_2, q5_c_3, q5_c_4, q5_c_5, q5_c_6, q5_c_7, q5_c_8, q5_c_9, q5_c_10⟩ := rc11 R5_c
  clear r5_c t5_c R5_c
  have E5_s := Lib.hid R5_s
  obtain ⟨z5_s, r5_s, t5_s⟩ := row_cells R5_s
  obtain ⟨q5_s_0, q5_s_1, q5_s_2, q5_s_3, q5_s_4, q5_s_5, q5_s_6, q5_s_7⟩ := rc8 R5_s
  clear r5_s t5_s R5_s
  have E5_o := Lib.hid R5_o
  obtain ⟨z5_o, r5_o, t5_o⟩ := row_cells R5_o
  obtain ⟨q5_o_0, q5_o_1, q5_o_2, q5_o_3, q5_o_4, q5_o_5, q5_o_6, q5_o_7, q5_o_8, q5_o_9⟩ := rc10 R5_o
  clear r5_o t5_o R5_o
  have E5_n := Lib.hid R5_n
  obtain ⟨z5_n, r5_n, t5_n⟩ := row_cells R5_n
  obtain ⟨q5_n_0, q5_n_1, q5_n_2, q5_n_3, q5_n_4, q5_n_5, q5_n_6, q5_n_7⟩ := rc8 R5_n
  obtain ⟨f5_n_0, f5_n_1, f5_n_2, f5_n_3, f5_n_4, f5_n_5, f5_n_6, f5_n_7⟩ := rf8 R5_n
  clear r5_n t5_n R5_n
  have hgw5 := grow_cell V5
  go_wp2_with (first | (go_at_call 16; (with_reducible refine Calls.mono (kDs.out _) ?_); clear kDs; rintro e w1 ⟨rfl, hB⟩; (first | (obtain ⟨g, rfl⟩ := g.next hB) | (obtain ⟨g, rfl⟩ : ∃ g : Grow V5, w1 = g.x := ⟨⟨w1, hB⟩, rfl⟩)); clear hB; have hld : ∀ (b o : Nat), b < V5.heap.size → ((g.x.alloc (.cells #[.int .i64 X.glo, .int .i64 X.ghi, .int .i64 X.ylo, .int .i64 X.yhi, .int .i64 X.tlo, .int .i64 X.thi, .int .i64 X.wlo, .int .i64 X.whi] 28)).alloc (.cells #[.int .i64 U.glo, .int .i64 U.ghi, .int .i64 U.ylo, .int .i64 U.yhi, .int .i64 U.wlo, .int .i64 U.whi] 35)).cell? ⟨b, o, none⟩ = V5.cell? ⟨b, o, none⟩ := below_cell ((g.h.alloc g.size (.cells #[.int .i64 X.glo, .int .i64 X.ghi, .int .i64 X.ylo, .int .i64 X.yhi, .int .i64 X.tlo, .int .i64 X.thi, .int .i64 X.wlo, .int .i64 X.whi] 28)).alloc (g.h.alloc g.size (.cells #[.int .i64 X.glo, .int .i64 X.ghi, .int .i64 X.ylo, .int .i64 X.yhi, .int .i64 X.tlo, .int .i64 X.thi, .int .i64 X.wlo, .int .i64 X.whi] 28)).size (.cells #[.int .i64 U.glo, .int .i64 U.ghi, .int .i64 U.ylo, .int .i64 U.yhi, .int .i64 U.wlo, .int .i64 U.whi] 35))))
  clear hld
  clear q5_c_0 q5_c_1 q5_c_2 q5_c_3 q5_c_4 q5_c_5 q5_c_6 q5_c_7 q5_c_8 q5_c_9 q5_c_10 q5_s_0 q5_s_1 q5_s_2 q5_s_3 q5_s_4 q5_s_5 q5_s_6 q5_s_7 q5_o_0 q5_o_1 q5_o_2 q5_o_3 q5_o_4 q5_o_5 q5_o_6 q5_o_7 q5_o_8 q5_o_9 q5_n_0 f5_n_0 q5_n_1 f5_n_1 q5_n_2 f5_n_2 q5_n_3 f5_n_3 q5_n_4 f5_n_4 q5_n_5 f5_n_5 q5_n_6 f5_n_6 q5_n_7 f5_n_7
  clear hgw5
  have szo6 := B5.size
  have gz6 := g.size
  have A_c : g.x.heap[w.heap.size]? = some (.cells #[.int .i64 c.vlo, .int .i64 c.vhi, .int .i64 c.least, .int .i64 c.most, .int .i64 c.f0, .int .i64 c.f1, .int .i64 c.h0, .int .i64 c.h1, .int .i64 c.rock, .int .i64 c.plo, .int .i64 c.phi] 26 (0, 0)) := (g.h.block _ z5_c).trans E5_c.out
  have A_s : g.x.heap[W1.heap.size]? = some (.cells #[.int .i64 s.glo, .int .i64 s.ghi, .int .i64 s.ylo, .int .i64 s.yhi, .int .i64 s.tlo, .int .i64 s.thi, .int .i64 s.wlo, .int .i64 s.whi] 28 (0, 0)) := (g.h.block _ z5_s).trans E5_s.out
  have A_o : g.x.heap[W2.heap.size]? = some (.cells #[.int .i64 o.kind, .int .i64 o.lg, .int .i64 o.ly, .int .i64 o.lt, .int .i64 o.lw, .int .i64 o.moles, .int .i64 o.slo, .int .i64 o.shi, .int .i64 o.wlo, .int .i64 o.whi] 33 (0, 0)) := (g.h.block _ z5_o).trans E5_o.out
  have A_n : g.x.heap[blk_n]? = some (.cells #[.int .i64 (s.glo + a0), .int .i64 s.ghi, .int .i64 s.ylo, .int .i64 (s.yhi - a1), .int .i64 (s.tlo + a2), .int .i64 s.thi, .int .i64 s.wlo, .int .i64 (s.whi - a3)] 28 (0, 0)) := (g.h.block _ z5_n).trans E5_n.out
  obtain ⟨U6_x, hU6_x⟩ : ∃ Uw, g.x.alloc (.cells #[.int .i64 X.glo, .int .i64 X.ghi, .int .i64 X.ylo, .int .i64 X.yhi, .int .i64 X.tlo, .int .i64 X.thi, .int .i64 X.wlo, .int .i64 X.whi] 28) = Uw := ⟨_, rfl⟩
  obtain ⟨A_x, b_x, s_x⟩ := boxed hU6_x
  rw [hU6_x]
  replace A_c := (b_x.block _ (Array.getElem?_eq_some_iff.1 A_c).1).trans A_c
  replace A_s := (b_x.block _ (Array.getElem?_eq_some_iff.1 A_s).1).trans A_s
  replace A_o := (b_x.block _ (Array.getElem?_eq_some_iff.1 A_o).1).trans A_o
  replace A_n := (b_x.block _ (Array.getElem?_eq_some_iff.1 A_n).1).trans A_n
  obtain ⟨blk_x, hb_x⟩ : ∃ b, g.x.heap.size = b := ⟨_, rfl⟩
  rw [hb_x] at A_x
  try rw [hb_x]
  obtain ⟨U6_u, hU6_u⟩ : ∃ Uw, U6_x.alloc (.cells #[.int .i64 U.glo, .int .i64 U.ghi, .int .i64 U.ylo, .int .i64 U.yhi, .int .i64 U.wlo, .int .i64 U.whi] 35) = Uw := ⟨_, rfl⟩
  obtain ⟨A_u, b_u, s_u⟩ := boxed hU6_u
  rw [hU6_u]
  replace A_c := (b_u.block _ (Array.getElem?_eq_some_iff.1 A_c).1).trans A_c
  replace A_s := (b_u.block _ (Array.getElem?_eq_some_iff.1 A_s).1).trans A_s
  replace A_o := (b_u.block _ (Array.getElem?_eq_some_iff.1 A_o).1).trans A_o
  replace A_n := (b_u.block _ (Array.getElem?_eq_some_iff.1 A_n).1).trans A_n
  replace A_x := (b_u.block _ (Array.getElem?_eq_some_iff.1 A_x).1).trans A_x
  obtain ⟨blk_u, hb_u⟩ : ∃ b, U6_x.heap.size = b := ⟨_, rfl⟩
  rw [hb_u] at A_u
  have hp_u : blk_x + 1 = blk_u := by omega
  try rw [hp_u]
  have B6 : Below w.heap.size w U6_u := (((B5.trans (g.h.mono B5.size)).trans (b_x.mono (B5.trans (g.h.mono B5.size)).size)).trans (b_u.mono ((B5.trans (g.h.mono B5.size)).trans (b_x.mono (B5.trans (g.h.mono B5.size)).size)).size))
  have le_x : w.heap.size ≤ blk_x := by omega
  have le_u : w.heap.size ≤ blk_u := by omega
  have z6_c := (Array.getElem?_eq_some_iff.1 A_c).1
  have z6_s := (Array.getElem?_eq_some_iff.1 A_s).1
  have z6_o := (Array.getElem?_eq_some_iff.1 A_o).1
  have z6_n := (Array.getElem?_eq_some_iff.1 A_n).1
  have z6_x := (Array.getElem?_eq_some_iff.1 A_x).1
  have z6_u := (Array.getElem?_eq_some_iff.1 A_u).1
  clear hb_x b_x s_x hU6_x hb_u b_u s_u hU6_u hp_u
  obtain ⟨q6_c_0, q6_c_1, q6_c_2, q6_c_3, q6_c_4, q6_c_5, q6_c_6, q6_c_7, q6_c_8, q6_c_9, q6_c_10⟩ := rc11 A_c
  have R6_c := Lib.hid A_c
  clear A_c
  obtain ⟨q6_s_0, q6_s_1, q6_s_2, q6_s_3, q6_s_4, q6_s_5, q6_s_6, q6_s_7⟩ := rc8 A_s
  have R6_s := Lib.hid A_s
  clear A_s
  obtain ⟨q6_o_0, q6_o_1, q6_o_2, q6_o_3, q6_o_4, q6_o_5, q6_o_6, q6_o_7, q6_o_8, q6_o_9⟩ := rc10 A_o
  have R6_o := Lib.hid A_o
  clear A_o
  obtain ⟨q6_n_0, q6_n_1, q6_n_2, q6_n_3, q6_n_4, q6_n_5, q6_n_6, q6_n_7⟩ := rc8 A_n
  have R6_n := Lib.hid A_n
  clear A_n
  obtain ⟨q6_x_0, q6_x_1, q6_x_2, q6_x_3, q6_x_4, q6_x_5, q6_x_6, q6_x_7⟩ := rc8 A_x
  have R6_x := Lib.hid A_x
  clear A_x
  have R6_u := Lib.hid A_u
  clear A_u
  have hgw6 := grow_cell U6_u
  go_wp2_with (first | (go_at_call 16; (with_reducible refine Calls.mono (kDn.out _) ?_); clear kDn; rintro e w1 ⟨rfl, hB⟩; (first | (obtain ⟨g, rfl⟩ := g.next hB) | (obtain ⟨g, rfl⟩ : ∃ g : Grow U6_u, w1 = g.x := ⟨⟨w1, hB⟩, rfl⟩)); clear hB; have hld : ∀ (b o : Nat), b < U6_u.heap.size → ((g.x.alloc (.cells #[.int .i64 Y.glo, .int .i64 Y.ghi, .int .i64 Y.ylo, .int .i64 Y.yhi, .int .i64 Y.tlo, .int .i64 Y.thi, .int .i64 Y.wlo, .int .i64 Y.whi] 28)).alloc (.cells #[.int .i64 V.glo, .int .i64 V.ghi, .int .i64 V.ylo, .int .i64 V.yhi, .int .i64 V.wlo, .int .i64 V.whi] 35)).cell? ⟨b, o, none⟩ = U6_u.cell? ⟨b, o, none⟩ := below_cell ((g.h.alloc g.size (.cells #[.int .i64 Y.glo, .int .i64 Y.ghi, .int .i64 Y.ylo, .int .i64 Y.yhi, .int .i64 Y.tlo, .int .i64 Y.thi, .int .i64 Y.wlo, .int .i64 Y.whi] 28)).alloc (g.h.alloc g.size (.cells #[.int .i64 Y.glo, .int .i64 Y.ghi, .int .i64 Y.ylo, .int .i64 Y.yhi, .int .i64 Y.tlo, .int .i64 Y.thi, .int .i64 Y.wlo, .int .i64 Y.whi] 28)).size (.cells #[.int .i64 V.glo, .int .i64 V.ghi, .int .i64 V.ylo, .int .i64 V.yhi, .int .i64 V.wlo, .int .i64 V.whi] 35))))
  clear hld
  clear q6_c_0 q6_c_1 q6_c_2 q6_c_3 q6_c_4 q6_c_5 q6_c_6 q6_c_7 q6_c_8 q6_c_9 q6_c_10 q6_s_0 q6_s_1 q6_s_2 q6_s_3 q6_s_4 q6_s_5 q6_s_6 q6_s_7 q6_o_0 q6_o_1 q6_o_2 q6_o_3 q6_o_4 q6_o_5 q6_o_6 q6_o_7 q6_o_8 q6_o_9 q6_n_0 q6_n_1 q6_n_2 q6_n_3 q6_n_4 q6_n_5 q6_n_6 q6_n_7 q6_x_0 q6_x_1 q6_x_2 q6_x_3 q6_x_4 q6_x_5 q6_x_6 q6_x_7
  clear hgw6
  have szo7 := B6.size
  have gz7 := g.size
  have A_c : g.x.heap[w.heap.size]? = some (.cells #[.int .i64 c.vlo, .int .i64 c.vhi, .int .i64 c.least, .int .i64 c.most, .int .i64 c.f0, .int .i64 c.f1, .int .i64 c.h0, .int .i64 c.h1, .int .i64 c.rock, .int .i64 c.plo, .int .i64 c.phi] 26 (0, 0)) := (g.h.block _ z6_c).trans R6_c.out
  have A_s : g.x.heap[W1.heap.size]? = some (.cells #[.int .i64 s.glo, .int .i64 s.ghi, .int .i64 s.ylo, .int .i64 s.yhi, .int .i64 s.tlo, .int .i64 s.thi, .int .i64 s.wlo, .int .i64 s.whi] 28 (0, 0)) := (g.h.block _ z6_s).trans R6_s.out
  have A_o : g.x.heap[W2.heap.size]? = some (.cells #[.int .i64 o.kind, .int .i64 o.lg, .int .i64 o.ly, .int .i64 o.lt, .int .i64 o.lw, .int .i64 o.moles, .int .i64 o.slo, .int .i64 o.shi, .int .i64 o.wlo, .int .i64 o.whi] 33 (0, 0)) := (g.h.block _ z6_o).trans R6_o.out
  have A_n : g.x.heap[blk_n]? = some (.cells #[.int .i64 (s.glo + a0), .int .i64 s.ghi, .int .i64 s.ylo, .int .i64 (s.yhi - a1), .int .i64 (s.tlo + a2), .int .i64 s.thi, .int .i64 s.wlo, .int .i64 (s.whi - a3)] 28 (0, 0)) := (g.h.block _ z6_n).trans R6_n.out
  have A_x : g.x.heap[blk_x]? = some (.cells #[.int .i64 X.glo, .int .i64 X.ghi, .int .i64 X.ylo, .int .i64 X.yhi, .int .i64 X.tlo, .int .i64 X.thi, .int .i64 X.wlo, .int .i64 X.whi] 28 (0, 0)) := (g.h.block _ z6_x).trans R6_x.out
  have A_u : g.x.heap[blk_u]? = some (.cells #[.int .i64 U.glo, .int .i64 U.ghi, .int .i64 U.ylo, .int .i64 U.yhi, .int .i64 U.wlo, .int .i64 U.whi] 35 (0, 0)) := (g.h.block _ z6_u).trans R6_u.out
  obtain ⟨U7_y, hU7_y⟩ : ∃ Uw, g.x.alloc (.cells #[.int .i64 Y.glo, .int .i64 Y.ghi, .int .i64 Y.ylo, .int .i64 Y.yhi, .int .i64 Y.tlo, .int .i64 Y.thi, .int .i64 Y.wlo, .int .i64 Y.whi] 28) = Uw := ⟨_, rfl⟩
  obtain ⟨A_y, b_y, s_y⟩ := boxed hU7_y
  rw [hU7_y]
  replace A_c := (b_y.block _ (Array.getElem?_eq_some_iff.1 A_c).1).trans A_c
  replace A_s := (b_y.block _ (Array.getElem?_eq_some_iff.1 A_s).1).trans A_s
  replace A_o := (b_y.block _ (Array.getElem?_eq_some_iff.1 A_o).1).trans A_o
  replace A_n := (b_y.block _ (Array.getElem?_eq_some_iff.1 A_n).1).trans A_n
  replace A_x := (b_y.block _ (Array.getElem?_eq_some_iff.1 A_x).1).trans A_x
  replace A_u := (b_y.block _ (Array.getElem?_eq_some_iff.1 A_u).1).trans A_u
  obtain ⟨blk_y, hb_y⟩ : ∃ b, g.x.heap.size = b := ⟨_, rfl⟩
  rw [hb_y] at A_y
  try rw [hb_y]
  obtain ⟨U7_v, hU7_v⟩ : ∃ Uw, U7_y.alloc (.cells #[.int .i64 V.glo, .int .i64 V.ghi, .int .i64 V.ylo, .int .i64 V.yhi, .int .i64 V.wlo, .int .i64 V.whi] 35) = Uw := ⟨_, rfl⟩
  obtain ⟨A_v, b_v, s_v⟩ := boxed hU7_v
  rw [hU7_v]
  replace A_c := (b_v.block _ (Array.getElem?_eq_some_iff.1 A_c).1).trans A_c
  replace A_s := (b_v.block _ (Array.getElem?_eq_some_iff.1 A_s).1).trans A_s
  replace A_o := (b_v.block _ (Array.getElem?_eq_some_iff.1 A_o).1).trans A_o
  replace A_n := (b_v.block _ (Array.getElem?_eq_some_iff.1 A_n).1).trans A_n
  replace A_x := (b_v.block _ (Array.getElem?_eq_some_iff.1 A_x).1).trans A_x
  replace A_u := (b_v.block _ (Array.getElem?_eq_some_iff.1 A_u).1).trans A_u
  replace A_y := (b_v.block _ (Array.getElem?_eq_some_iff.1 A_y).1).trans A_y
  obtain ⟨blk_v, hb_v⟩ : ∃ b, U7_y.heap.size = b := ⟨_, rfl⟩
  rw [hb_v] at A_v
  have hp_v : blk_y + 1 = blk_v := by omega
  try rw [hp_v]
  have B7 : Below w.heap.size w U7_v := (((B6.trans (g.h.mono B6.size)).trans (b_y.mono (B6.trans (g.h.mono B6.size)).size)).trans (b_v.mono ((B6.trans (g.h.mono B6.size)).trans (b_y.mono (B6.trans (g.h.mono B6.size)).size)).size))
  have le_y : w.heap.size ≤ blk_y := by omega
  have le_v : w.heap.size ≤ blk_v := by omega
  have z7_c := (Array.getElem?_eq_some_iff.1 A_c).1
  have z7_s := (Array.getElem?_eq_some_iff.1 A_s).1
  have z7_o := (Array.getElem?_eq_some_iff.1 A_o).1
  have z7_n := (Array.getElem?_eq_some_iff.1 A_n).1
  have z7_x := (Array.getElem?_eq_some_iff.1 A_x).1
  have z7_u := (Array.getElem?_eq_some_iff.1 A_u).1
  have z7_y := (Array.getElem?_eq_some_iff.1 A_y).1
  have z7_v := (Array.getElem?_eq_some_iff.1 A_v).1
  clear hb_y b_y s_y hU7_y hb_v b_v s_v hU7_v hp_v
  obtain ⟨q7_c_0, q7_c_1, q7_c_2, q7_c_3, q7_c_4, q7_c_5, q7_c_6, q7_c_7, q7_c_8, q7_c_9, q7_c_10⟩ := rc11 A_c
  have R7_c := Lib.hid A_c
  clear A_c
  obtain ⟨q7_s_0, q7_s_1, q7_s_2, q7_s_3, q7_s_4, q7_s_5, q7_s_6, q7_s_7⟩ := rc8 A_s
  have R7_s := Lib.hid A_s
  clear A_s
  obtain ⟨q7_o_0, q7_o_1, q7_o_2, q7_o_3, q7_o_4, q7_o_5, q7_o_6, q7_o_7, q7_o_8, q7_o_9⟩ := rc10 A_o
  have R7_o := Lib.hid A_o
  clear A_o
  have R7_n := Lib.hid A_n
  clear A_n
  obtain ⟨q7_x_0, q7_x_1, q7_x_2, q7_x_3, q7_x_4, q7_x_5, q7_x_6, q7_x_7⟩ := rc8 A_x
  have R7_x := Lib.hid A_x
  clear A_x
  have R7_u := Lib.hid A_u
  clear A_u
  obtain ⟨q7_y_0, q7_y_1, q7_y_2, q7_y_3, q7_y_4, q7_y_5, q7_y_6, q7_y_7⟩ := rc8 A_y
  have R7_y := Lib.hid A_y
  clear A_y
  have R7_v := Lib.hid A_v
  clear A_v
  have hgw7 := grow_cell U7_v
  go_wp2_with (first | (go_at_call 30; (with_reducible refine Calls.mono (kW.out _) ?_); rintro e w1 ⟨rfl, hB⟩; (first | (obtain ⟨g, rfl⟩ := g.next hB) | (obtain ⟨g, rfl⟩ : ∃ g : Grow U7_v, w1 = g.x := ⟨⟨w1, hB⟩, rfl⟩)); clear hB; have hld : ∀ (ob : Obj) (bb x : Nat), bb < U7_v.heap.size → (g.x.alloc ob).cell? ⟨bb, x, none⟩ = U7_v.cell? ⟨bb, x, none⟩ := (fun ob => below_cell (g.h.alloc g.size ob)); replace hk := hk.out))
  clear hld
  replace hk := Lib.hid hk
  clear q7_c_0 q7_c_1 q7_c_2 q7_c_3 q7_c_4 q7_c_5 q7_c_6 q7_c_7 q7_c_8 q7_c_9 q7_c_10 q7_s_0 q7_s_1 q7_s_2 q7_s_3 q7_s_4 q7_s_5 q7_s_6 q7_s_7 q7_o_0 q7_o_1 q7_o_2 q7_o_3 q7_o_4 q7_o_5 q7_o_6 q7_o_7 q7_o_8 q7_o_9 q7_x_0 q7_x_1 q7_x_2 q7_x_3 q7_x_4 q7_x_5 q7_x_6 q7_x_7 q7_y_0 q7_y_1 q7_y_2 q7_y_3 q7_y_4 q7_y_5 q7_y_6 q7_y_7
  clear hgw7
  have szo8 := B7.size
  have gz8 := g.size
  have A_c : g.x.heap[w.heap.size]? = some (.cells #[.int .i64 c.vlo, .int .i64 c.vhi, .int .i64 c.least, .int .i64 c.most, .int .i64 c.f0, .int .i64 c.f1, .int .i64 c.h0, .int .i64 c.h1, .int .i64 c.rock, .int .i64 c.plo, .int .i64 c.phi] 26 (0, 0)) := (g.h.block _ z7_c).trans R7_c.out
  have A_s : g.x.heap[W1.heap.size]? = some (.cells #[.int .i64 s.glo, .int .i64 s.ghi, .int .i64 s.ylo, .int .i64 s.yhi, .int .i64 s.tlo, .int .i64 s.thi, .int .i64 s.wlo, .int .i64 s.whi] 28 (0, 0)) := (g.h.block _ z7_s).trans R7_s.out
  have A_o : g.x.heap[W2.heap.size]? = some (.cells #[.int .i64 o.kind, .int .i64 o.lg, .int .i64 o.ly, .int .i64 o.lt, .int .i64 o.lw, .int .i64 o.moles, .int .i64 o.slo, .int .i64 o.shi, .int .i64 o.wlo, .int .i64 o.whi] 33 (0, 0)) := (g.h.block _ z7_o).trans R7_o.out
  have A_n : g.x.heap[blk_n]? = some (.cells #[.int .i64 (s.glo + a0), .int .i64 s.ghi, .int .i64 s.ylo, .int .i64 (s.yhi - a1), .int .i64 (s.tlo + a2), .int .i64 s.thi, .int .i64 s.wlo, .int .i64 (s.whi - a3)] 28 (0, 0)) := (g.h.block _ z7_n).trans R7_n.out
  have A_x : g.x.heap[blk_x]? = some (.cells #[.int .i64 X.glo, .int .i64 X.ghi, .int .i64 X.ylo, .int .i64 X.yhi, .int .i64 X.tlo, .int .i64 X.thi, .int .i64 X.wlo, .int .i64 X.whi] 28 (0, 0)) := (g.h.block _ z7_x).trans R7_x.out
  have A_u : g.x.heap[blk_u]? = some (.cells #[.int .i64 U.glo, .int .i64 U.ghi, .int .i64 U.ylo, .int .i64 U.yhi, .int .i64 U.wlo, .int .i64 U.whi] 35 (0, 0)) := (g.h.block _ z7_u).trans R7_u.out
  have A_y : g.x.heap[blk_y]? = some (.cells #[.int .i64 Y.glo, .int .i64 Y.ghi, .int .i64 Y.ylo, .int .i64 Y.yhi, .int .i64 Y.tlo, .int .i64 Y.thi, .int .i64 Y.wlo, .int .i64 Y.whi] 28 (0, 0)) := (g.h.block _ z7_y).trans R7_y.out
  have A_v : g.x.heap[blk_v]? = some (.cells #[.int .i64 V.glo, .int .i64 V.ghi, .int .i64 V.ylo, .int .i64 V.yhi, .int .i64 V.wlo, .int .i64 V.whi] 35 (0, 0)) := (g.h.block _ z7_v).trans R7_v.out
  obtain ⟨U8_l, hU8_l⟩ : ∃ Uw, g.x.alloc (.cells #[.int .i64 2, .int .i64 0, .int .i64 0, .int .i64 0, .int .i64 0, .int .i64 0, .int .i64 0, .int .i64 0, .int .i64 0, .int .i64 0, .int .i64 1, .int .i64 0, .int .i64 0, .int .i64 o.lt, .int .i64 0, .int .i64 0, .int .i64 0, .int .i64 0, .int .i64 0, .int .i64 0, .int .i64 3, .int .i64 0, .int .i64 0, .int .i64 0, .int .i64 0, .int .i64 0, .int .i64 0, .int .i64 0, .int .i64 0, .int .i64 0] 33) = Uw := ⟨_, rfl⟩
  obtain ⟨A_l, b_l, s_l⟩ := boxed hU8_l
  rw [hU8_l]
  replace A_c := (b_l.block _ (Array.getElem?_eq_some_iff.1 A_c).1).trans A_c
  replace A_s := (b_l.block _ (Array.getElem?_eq_some_iff.1 A_s).1).trans A_s
  replace A_o := (b_l.block _ (Array.getElem?_eq_some_iff.1 A_o).1).trans A_o
  replace A_n := (b_l.block _ (Array.getElem?_eq_some_iff.1 A_n).1).trans A_n
  replace A_x := (b_l.block _ (Array.getElem?_eq_some_iff.1 A_x).1).trans A_x
  replace A_u := (b_l.block _ (Array.getElem?_eq_some_iff.1 A_u).1).trans A_u
  replace A_y := (b_l.block _ (Array.getElem?_eq_some_iff.1 A_y).1).trans A_y
  replace A_v := (b_l.block _ (Array.getElem?_eq_some_iff.1 A_v).1).trans A_v
  obtain ⟨blk_l, hb_l⟩ : ∃ b, g.x.heap.size = b := ⟨_, rfl⟩
  rw [hb_l] at A_l
  try rw [hb_l]
  have B8 : Below w.heap.size w U8_l := ((B7.trans (g.h.mono B7.size)).trans (b_l.mono (B7.trans (g.h.mono B7.size)).size))
  have le_l : w.heap.size ≤ blk_l := by omega
  have z8_c := (Array.getElem?_eq_some_iff.1 A_c).1
  have z8_s := (Array.getElem?_eq_some_iff.1 A_s).1
  have z8_o := (Array.getElem?_eq_some_iff.1 A_o).1
  have z8_n := (Array.getElem?_eq_some_iff.1 A_n).1
  have z8_x := (Array.getElem?_eq_some_iff.1 A_x).1
  have z8_u := (Array.getElem?_eq_some_iff.1 A_u).1
  have z8_y := (Array.getElem?_eq_some_iff.1 A_y).1
  have z8_v := (Array.getElem?_eq_some_iff.1 A_v).1
  have z8_l := (Array.getElem?_eq_some_iff.1 A_l).1
  clear hb_l b_l s_l hU8_l 
  obtain ⟨q8_c_0, q8_c_1, q8_c_2, q8_c_3, q8_c_4, q8_c_5, q8_c_6, q8_c_7, q8_c_8, q8_c_9, q8_c_10⟩ := rc11 A_c
  have R8_c := Lib.hid A_c
  clear A_c
  obtain ⟨q8_s_0, q8_s_1, q8_s_2, q8_s_3, q8_s_4, q8_s_5, q8_s_6, q8_s_7⟩ := rc8 A_s
  have R8_s := Lib.hid A_s
  clear A_s
  have R8_o := Lib.hid A_o
  clear A_o
  have R8_n := Lib.hid A_n
  clear A_n
  have R8_x := Lib.hid A_x
  clear A_x
  have R8_u := Lib.hid A_u
  clear A_u
  have R8_y := Lib.hid A_y
  clear A_y
  have R8_v := Lib.hid A_v
  clear A_v
  have R8_l := Lib.hid A_l
  clear A_l
  have hgw8 := grow_cell U8_l
  go_loopw [17] (fun iv wr => ∃ k : Nat, k ≤ 3 ∧ iv = .int .i64 k ∧ Hid (wr.heap[w.heap.size]? = some (.cells #[.int .i64 c.vlo, .int .i64 c.vhi, .int .i64 c.least, .int .i64 c.most, .int .i64 c.f0, .int .i64 c.f1, .int .i64 c.h0, .int .i64 c.h1, .int .i64 c.rock, .int .i64 c.plo, .int .i64 c.phi] 26 (0, 0)) ∧ wr.heap[W1.heap.size]? = some (.cells #[.int .i64 s.glo, .int .i64 s.ghi, .int .i64 s.ylo, .int .i64 s.yhi, .int .i64 s.tlo, .int .i64 s.thi, .int .i64 s.wlo, .int .i64 s.whi] 28 (0, 0)) ∧ wr.heap[blk_l]? = some (.cells #[.int .i64 2, .int .i64 0, .int .i64 0, .int .i64 0, .int .i64 0, .int .i64 0, .int .i64 0, .int .i64 0, .int .i64 0, .int .i64 0, .int .i64 1, .int .i64 0, .int .i64 0, .int .i64 o.lt, .int .i64 0, .int .i64 0, .int .i64 0, .int .i64 0, .int .i64 0, .int .i64 0, .int .i64 3, .int .i64 0, .int .i64 0, .int .i64 0, .int .i64 0, .int .i64 0, .int .i64 0, .int .i64 0, .int .i64 0, .int .i64 0] 33 (0, 0)) ∧ Below w.heap.size w wr)) (fun iv _ => 3 - (intOf iv).toNat)
  case atStart => exact ⟨0, by omega, rfl, (Lib.hid ⟨R8_c.out, R8_s.out, R8_l.out, B8⟩)⟩
  case round =>
    clear hgw8
    obtain ⟨k, hk3, rfl, hrows⟩ := hrel
    clear q8_c_0 q8_c_1 q8_c_2 q8_c_3 q8_c_4 q8_c_5 q8_c_6 q8_c_7 q8_c_8 q8_c_9 q8_c_10 q8_s_0 q8_s_1 q8_s_2 q8_s_3 q8_s_4 q8_s_5 q8_s_6 q8_s_7
    obtain ⟨A_c, A_s, A_l, B9⟩ := hrows.out
    have z9_c := (Array.getElem?_eq_some_iff.1 A_c).1
    have z9_s := (Array.getElem?_eq_some_iff.1 A_s).1
    have z9_l := (Array.getElem?_eq_some_iff.1 A_l).1
    obtain ⟨q9_c_0, q9_c_1, q9_c_2, q9_c_3, q9_c_4, q9_c_5, q9_c_6, q9_c_7, q9_c_8, q9_c_9, q9_c_10⟩ := rc11 A_c
    have R9_c := Lib.hid A_c
    clear A_c
    obtain ⟨q9_s_0, q9_s_1, q9_s_2, q9_s_3, q9_s_4, q9_s_5, q9_s_6, q9_s_7⟩ := rc8 A_s
    have R9_s := Lib.hid A_s
    clear A_s
    have R9_l := Lib.hid A_l
    clear A_l
    have hgw9 := grow_cell wr
    by_cases hlt3 : k < 3
    · have hki : (k : Int) < 3 := by omega
      obtain ⟨c0, c1, c2, c3, c4, c5, c6, c7, c8, c9⟩ := three_ops (x := ⟨2, 0, 0, 0, 0, 0, 0, 0, 0, 0⟩) (y := ⟨1, 0, 0, o.lt, 0, 0, 0, 0, 0, 0⟩) (z := ⟨3, 0, 0, 0, 0, 0, 0, 0, 0, 0⟩) R9_l.out k hlt3
      have kD := kNo.out k hlt3
      have hlist : ([⟨2, 0, 0, 0, 0, 0, 0, 0, 0, 0⟩, ⟨1, 0, 0, o.lt, 0, 0, 0, 0, 0, 0⟩, ⟨3, 0, 0, 0, 0, 0, 0, 0, 0, 0⟩] : List Gas.Op) = noOps (o.lt) := rfl
      rw [hlist] at c0 c1 c2 c3 c4 c5 c6 c7 c8 c9
      clear hlist
      generalize theOp (noOps (o.lt)) k = ox at *
      replace kD := Lib.hid kD
      have zl := z9_l
      go_wp2_with (fail)
      clear q9_c_0 q9_c_1 q9_c_2 q9_c_3 q9_c_4 q9_c_5 q9_c_6 q9_c_7 q9_c_8 q9_c_9 q9_c_10 q9_s_0 q9_s_1 q9_s_2 q9_s_3 q9_s_4 q9_s_5 q9_s_6 q9_s_7
      clear hgw9
      refine wp_region_noPanic ?_
      refine wp_region_locN 13 162 [9, 10] [139, 140, 141, 142, 143, 144, 145, 138, 146, 147, 148, 18, 19] [[], [], [], [], [2, 3], [4], [0, 1, 5], [6], [7], [7], [7], [], []] [IsV (cavV c), IsV (stV s), IsV (.slice (some ⟨blk_l, 0, none⟩) 3 3), IsV (.int .i64 k), IsV (.pointer (some ⟨blk_l, k * 10, none⟩)), IsV (opV ox), IsV (.tuple #[stV s, .agg #[.int .i64 0, .int .i64 0, .int .i64 0, .int .i64 0, .int .i64 0, .int .i64 0], .int .i64 0]), IsV (.tuple #[stV s, .agg #[.int .i64 0, .int .i64 0, .int .i64 0, .int .i64 0, .int .i64 0, .int .i64 0], .int .i64 0]), IsV (stV s), IsV (.agg #[.int .i64 0, .int .i64 0, .int .i64 0, .int .i64 0, .int .i64 0, .int .i64 0]), IsV (.int .i64 0), NewAt wr.heap.size #[.int .i64 0, .int .i64 0, .int .i64 0, .int .i64 0, .int .i64 0, .int .i64 0, .int .i64 0, .int .i64 0] 28, NewAt wr.heap.size #[.int .i64 0, .int .i64 0, .int .i64 0, .int .i64 0, .int .i64 0, .int .i64 0] 35] [11, 12] (by kernel_rfl) (by kernel_rfl) (by kernel_rfl) (by kernel_rfl) (by kernel_rfl) (by kernel_rfl) rfl (fun _ _ _ _ h => h) ?_ ?_ ?_ ?_ ?_
      · exact List.forall_mem_cons.2 ⟨pers_v _, List.forall_mem_cons.2 ⟨pers_v _, List.forall_mem_cons.2 ⟨pers_v _, List.forall_mem_cons.2 ⟨pers_v _, List.forall_mem_cons.2 ⟨pers_v _, List.forall_mem_cons.2 ⟨pers_v _, List.forall_mem_cons.2 ⟨pers_v _, List.forall_mem_cons.2 ⟨pers_v _, List.forall_mem_cons.2 ⟨pers_v _, List.forall_mem_cons.2 ⟨pers_v _, List.forall_mem_cons.2 ⟨pers_v _, List.forall_mem_cons.2 ⟨pers_new _ _ _, List.forall_mem_cons.2 ⟨pers_new _ _ _, fun f h => by cases h⟩⟩⟩⟩⟩⟩⟩⟩⟩⟩⟩⟩⟩
      · intro k hk u x hu
        rcases List.mem_cons.1 hk with rfl | hk
        · exact NewAt.isNew (show NewAt _ _ _ u x from hu)
        · obtain rfl : k = 12 := by simpa using hk
          exact NewAt.isNew (show NewAt _ _ _ u x from hu)
      · refine ⟨?_, ?_, ?_, ?_, ?_, ?_, ?_, ?_, ?_, ?_, ?_, ?_, ?_, trivial⟩
        · intro vals x hb hf
          simp only [fillS, List.getD_cons_succ, List.getD_cons_zero, Act.put, List.setIfInBounds_toArray, List.set_cons_zero, List.set_cons_succ]
          have ar := (hb.block _ z9_c).trans R9_c.out
          obtain ⟨y0, y1, y2, y3, y4, y5, y6, y7, y8, y9, y10⟩ := rc11 ar
          clear ar
          go_wp2
          exact ⟨rfl, rfl, Below.refl _ _, _, rfl, rfl, (fun h => absurd h (by decide))⟩
        · intro vals x hb hf
          simp only [fillS, List.getD_cons_succ, List.getD_cons_zero, Act.put, List.setIfInBounds_toArray, List.set_cons_zero, List.set_cons_succ]
          have ar := (hb.block _ z9_s).trans R9_s.out
          obtain ⟨y0, y1, y2, y3, y4, y5, y6, y7⟩ := rc8 ar
          clear ar
          go_wp2
          exact ⟨rfl, rfl, Below.refl _ _, _, rfl, rfl, (fun h => absurd h (by decide))⟩
        · intro vals x hb hf
          simp only [fillS, List.getD_cons_succ, List.getD_cons_zero, Act.put, List.setIfInBounds_toArray, List.set_cons_zero, List.set_cons_succ]
          skip
          go_wp2
          exact ⟨rfl, rfl, Below.refl _ _, _, rfl, rfl, (fun h => absurd h (by decide))⟩
        · intro vals x hb hf
          simp only [fillS, List.getD_cons_succ, List.getD_cons_zero, Act.put, List.setIfInBounds_toArray, List.set_cons_zero, List.set_cons_succ]
          skip
          go_wp2
          exact ⟨rfl, rfl, Below.refl _ _, _, rfl, rfl, (fun h => absurd h (by decide))⟩
        · intro vals x hb hf
          simp only [fillS, List.getD_cons_succ, List.getD_cons_zero, Act.put, List.setIfInBounds_toArray, List.set_cons_zero, List.set_cons_succ]
          have h2 : vals 2 = .slice (some ⟨blk_l, 0, none⟩) 3 3 := hf.1
          rw [h2]
          have h3 : vals 3 = .int .i64 k := hf.2.1
          rw [h3]
          skip
          go_wp2
          exact ⟨rfl, rfl, Below.refl _ _, _, rfl, rfl, (fun h => absurd h (by decide))⟩
        · intro vals x hb hf
          simp only [fillS, List.getD_cons_succ, List.getD_cons_zero, Act.put, List.setIfInBounds_toArray, List.set_cons_zero, List.set_cons_succ]
          have h4 : vals 4 = .pointer (some ⟨blk_l, k * 10, none⟩) := hf.1
          rw [h4]
          have y0 := kept_cell hb c0
          have y1 := kept_cell hb c1
          have y2 := kept_cell hb c2
          have y3 := kept_cell hb c3
          have y4 := kept_cell hb c4
          have y5 := kept_cell hb c5
          have y6 := kept_cell hb c6
          have y7 := kept_cell hb c7
          have y8 := kept_cell hb c8
          have y9 := kept_cell hb c9
          go_wp2
          exact ⟨rfl, rfl, Below.refl _ _, _, rfl, rfl, (fun h => absurd h (by decide))⟩
        · intro vals x hb hf
          simp only [fillS, List.getD_cons_succ, List.getD_cons_zero, Act.put, List.setIfInBounds_toArray, List.set_cons_zero, List.set_cons_succ]
          have h0 : vals 0 = cavV c := hf.1
          rw [h0]
          have h1 : vals 1 = stV s := hf.2.1
          rw [h1]
          have h5 : vals 5 = opV ox := hf.2.2.1
          rw [h5]
          have hbx : Below w.heap.size w x := B9.trans (hb.mono B9.size)
          go_wp2_with (go_at_call 16; (with_reducible refine Calls.mono (kD.out _) ?_); rintro e y ⟨rfl, hB⟩)
          exact ⟨rfl, rfl, hB, _, rfl, rfl, (fun h => absurd h (by decide))⟩
        · intro vals x hb hf
          simp only [fillS, List.getD_cons_succ, List.getD_cons_zero, Act.put, List.setIfInBounds_toArray, List.set_cons_zero, List.set_cons_succ]
          have h6 : vals 6 = .tuple #[stV s, .agg #[.int .i64 0, .int .i64 0, .int .i64 0, .int .i64 0, .int .i64 0, .int .i64 0], .int .i64 0] := hf.1
          rw [h6]
          skip
          go_wp2
          exact ⟨rfl, rfl, Below.refl _ _, _, rfl, rfl, (fun h => absurd h (by decide))⟩
        · intro vals x hb hf
          simp only [fillS, List.getD_cons_succ, List.getD_cons_zero, Act.put, List.setIfInBounds_toArray, List.set_cons_zero, List.set_cons_succ]
          have h7 : vals 7 = .tuple #[stV s, .agg #[.int .i64 0, .int .i64 0, .int .i64 0, .int .i64 0, .int .i64 0, .int .i64 0], .int .i64 0] := hf.1
          rw [h7]
          skip
          go_wp2
          exact ⟨rfl, rfl, Below.refl _ _, _, rfl, rfl, (fun h => absurd h (by decide))⟩
        · intro vals x hb hf
          simp only [fillS, List.getD_cons_succ, List.getD_cons_zero, Act.put, List.setIfInBounds_toArray, List.set_cons_zero, List.set_cons_succ]
          have h7 : vals 7 = .tuple #[stV s, .agg #[.int .i64 0, .int .i64 0, .int .i64 0, .int .i64 0, .int .i64 0, .int .i64 0], .int .i64 0] := hf.1
          rw [h7]
          skip
          go_wp2
          exact ⟨rfl, rfl, Below.refl _ _, _, rfl, rfl, (fun h => absurd h (by decide))⟩
        · intro vals x hb hf
          simp only [fillS, List.getD_cons_succ, List.getD_cons_zero, Act.put, List.setIfInBounds_toArray, List.set_cons_zero, List.set_cons_succ]
          have h7 : vals 7 = .tuple #[stV s, .agg #[.int .i64 0, .int .i64 0, .int .i64 0, .int .i64 0, .int .i64 0, .int .i64 0], .int .i64 0] := hf.1
          rw [h7]
          skip
          go_wp2
          exact ⟨rfl, rfl, Below.refl _ _, _, rfl, rfl, (fun h => absurd h (by decide))⟩
        · intro vals x hb hf
          simp only [fillS, List.getD_cons_succ, List.getD_cons_zero, Act.put, List.setIfInBounds_toArray, List.set_cons_zero, List.set_cons_succ]
          go_wp2
          exact ⟨rfl, rfl, (Below.refl _ _).alloc (Nat.le_refl _) _, _, rfl, ⟨_, rfl, hb.size, World.alloc_heap_new _ _⟩, fun _ => rfl⟩
        · intro vals x hb hf
          simp only [fillS, List.getD_cons_succ, List.getD_cons_zero, Act.put, List.setIfInBounds_toArray, List.set_cons_zero, List.set_cons_succ]
          go_wp2
          exact ⟨rfl, rfl, (Below.refl _ _).alloc (Nat.le_refl _) _, _, rfl, ⟨_, rfl, hb.size, World.alloc_heap_new _ _⟩, fun _ => rfl⟩
      · intro j hj o ho vals x hb hf
        rcases List.mem_cons.1 hj with rfl | hj
        · obtain rfl := Option.some.inj ho
          simp only [fillS, List.getD_cons_succ, List.getD_cons_zero, Act.put, List.setIfInBounds_toArray, List.set_cons_zero, List.set_cons_succ]
          have h7 : vals 7 = .tuple #[stV s, .agg #[.int .i64 0, .int .i64 0, .int .i64 0, .int .i64 0, .int .i64 0, .int .i64 0], .int .i64 0] := hf.1
          rw [h7]
          exact ⟨_, .inl ⟨rfl, fun w => rfl⟩, rfl, (fun h => absurd h (by decide))⟩
        · obtain rfl : j = 10 := by simpa using hj
          obtain rfl := Option.some.inj ho
          simp only [fillS, List.getD_cons_succ, List.getD_cons_zero, Act.put, List.setIfInBounds_toArray, List.set_cons_zero, List.set_cons_succ]
          have h7 : vals 7 = .tuple #[stV s, .agg #[.int .i64 0, .int .i64 0, .int .i64 0, .int .i64 0, .int .i64 0, .int .i64 0], .int .i64 0] := hf.1
          rw [h7]
          exact ⟨_, .inl ⟨rfl, fun w => rfl⟩, rfl, (fun h => absurd h (by decide))⟩
      · intro vals x hb hf hp
        have hrange : List.range 13 = [0, 1, 2, 3, 4, 5, 6, 7, 8, 9, 10, 11, 12] := by rfl
        rw [hrange]
        simp only [fillS, List.getD_cons_succ, List.getD_cons_zero, Act.put, List.setIfInBounds_toArray, List.set_cons_zero, List.set_cons_succ]
        have h0 : vals 0 = cavV c := hf 0 (by omega)
        have h1 : vals 1 = stV s := hf 1 (by omega)
        have h2 : vals 2 = .slice (some ⟨blk_l, 0, none⟩) 3 3 := hf 2 (by omega)
        have h3 : vals 3 = .int .i64 k := hf 3 (by omega)
        have h4 : vals 4 = .pointer (some ⟨blk_l, k * 10, none⟩) := hf 4 (by omega)
        have h5 : vals 5 = opV ox := hf 5 (by omega)
        have h6 : vals 6 = .tuple #[stV s, .agg #[.int .i64 0, .int .i64 0, .int .i64 0, .int .i64 0, .int .i64 0, .int .i64 0], .int .i64 0] := hf 6 (by omega)
        have h7 : vals 7 = .tuple #[stV s, .agg #[.int .i64 0, .int .i64 0, .int .i64 0, .int .i64 0, .int .i64 0, .int .i64 0], .int .i64 0] := hf 7 (by omega)
        have h8 : vals 8 = stV s := hf 8 (by omega)
        have h9 : vals 9 = .agg #[.int .i64 0, .int .i64 0, .int .i64 0, .int .i64 0, .int .i64 0, .int .i64 0] := hf 9 (by omega)
        have h10 : vals 10 = .int .i64 0 := hf 10 (by omega)
        obtain ⟨blk_z, hv_z, l_z, A_z⟩ : NewAt wr.heap.size #[.int .i64 0, .int .i64 0, .int .i64 0, .int .i64 0, .int .i64 0, .int .i64 0, .int .i64 0, .int .i64 0] 28 (vals 11) x := hf 11 (by omega)
        obtain ⟨blk_zq, hv_zq, l_zq, A_zq⟩ : NewAt wr.heap.size #[.int .i64 0, .int .i64 0, .int .i64 0, .int .i64 0, .int .i64 0, .int .i64 0] 35 (vals 12) x := hf 12 (by omega)
        have ne_z_zq : (blk_z : Nat) ≠ blk_zq := by
          intro h
          have h1 := hp 11 12 (by omega) (by omega) (by omega) rfl rfl
          rw [hv_z, hv_zq, h] at h1
          exact h1 rfl
        have ne_zq_z := Ne.symm ne_z_zq
        rw [h0, h1, h2, h3, h4, h5, h6, h7, h8, h9, h10, hv_z, hv_zq]
        clear h0 h1 h2 h3 h4 h5 h6 h7 h8 h9 h10 hv_z hv_zq hf hp hrange
        have A_c := (hb.block _ z9_c).trans R9_c.out
        have ne_c_z : (w.heap.size : Nat) ≠ blk_z := by have := z9_c; omega
        have ne_c_zq : (w.heap.size : Nat) ≠ blk_zq := by have := z9_c; omega
        replace A_c := Lib.hid A_c
        have A_s := (hb.block _ z9_s).trans R9_s.out
        have ne_s_z : (W1.heap.size : Nat) ≠ blk_z := by have := z9_s; omega
        have ne_s_zq : (W1.heap.size : Nat) ≠ blk_zq := by have := z9_s; omega
        replace A_s := Lib.hid A_s
        have A_l := (hb.block _ z9_l).trans R9_l.out
        have ne_l_z : (blk_l : Nat) ≠ blk_z := by have := z9_l; omega
        have ne_l_zq : (blk_l : Nat) ≠ blk_zq := by have := z9_l; omega
        replace A_l := Lib.hid A_l
        have B10 : Below w.heap.size w x := B9.trans (hb.mono B9.size)
        have hLw := B9.size
        have le_z : w.heap.size ≤ blk_z := by omega
        obtain ⟨p_z_0, p_z_1, p_z_2, p_z_3, p_z_4, p_z_5, p_z_6, p_z_7⟩ := rc8 A_z
        obtain ⟨g_z_0, g_z_1, g_z_2, g_z_3, g_z_4, g_z_5, g_z_6, g_z_7⟩ := rf8 A_z
        replace A_z := Lib.hid A_z
        have le_zq : w.heap.size ≤ blk_zq := by omega
        obtain ⟨p_zq_0, p_zq_1, p_zq_2, p_zq_3, p_zq_4, p_zq_5⟩ := rc6 A_zq
        obtain ⟨g_zq_0, g_zq_1, g_zq_2, g_zq_3, g_zq_4, g_zq_5⟩ := rf6 A_zq
        replace A_zq := Lib.hid A_zq
        go_wp2
        refine NoPanic.normal ?_
        generalize hV10 : World.setCell _ ⟨blk_zq, 5, none⟩ _ = M10
        have C_c : M10.heap[w.heap.size]? = some (.cells #[.int .i64 c.vlo, .int .i64 c.vhi, .int .i64 c.least, .int .i64 c.most, .int .i64 c.f0, .int .i64 c.f1, .int .i64 c.h0, .int .i64 c.h1, .int .i64 c.rock, .int .i64 c.plo, .int .i64 c.phi] 26 (0, 0)) := by rw [← hV10]; have h2 := (set_far (n := blk_zq) 5 (.int .i64 0) ne_c_zq (set_far (n := blk_zq) 4 (.int .i64 0) ne_c_zq (set_far (n := blk_zq) 3 (.int .i64 0) ne_c_zq (set_far (n := blk_zq) 2 (.int .i64 0) ne_c_zq (set_far (n := blk_zq) 1 (.int .i64 0) ne_c_zq (set_far (n := blk_zq) 0 (.int .i64 0) ne_c_zq (set_far (n := blk_z) 7 (.int .i64 s.whi) ne_c_z (set_far (n := blk_z) 6 (.int .i64 s.wlo) ne_c_z (set_far (n := blk_z) 5 (.int .i64 s.thi) ne_c_z (set_far (n := blk_z) 4 (.int .i64 s.tlo) ne_c_z (set_far (n := blk_z) 3 (.int .i64 s.yhi) ne_c_z (set_far (n := blk_z) 2 (.int .i64 s.ylo) ne_c_z (set_far (n := blk_z) 1 (.int .i64 s.ghi) ne_c_z (set_far (n := blk_z) 0 (.int .i64 s.glo) ne_c_z A_c.out)))))))))))))); exact h2
        have C_s : M10.heap[W1.heap.size]? = some (.cells #[.int .i64 s.glo, .int .i64 s.ghi, .int .i64 s.ylo, .int .i64 s.yhi, .int .i64 s.tlo, .int .i64 s.thi, .int .i64 s.wlo, .int .i64 s.whi] 28 (0, 0)) := by rw [← hV10]; have h2 := (set_far (n := blk_zq) 5 (.int .i64 0) ne_s_zq (set_far (n := blk_zq) 4 (.int .i64 0) ne_s_zq (set_far (n := blk_zq) 3 (.int .i64 0) ne_s_zq (set_far (n := blk_zq) 2 (.int .i64 0) ne_s_zq (set_far (n := blk_zq) 1 (.int .i64 0) ne_s_zq (set_far (n := blk_zq) 0 (.int .i64 0) ne_s_zq (set_far (n := blk_z) 7 (.int .i64 s.whi) ne_s_z (set_far (n := blk_z) 6 (.int .i64 s.wlo) ne_s_z (set_far (n := blk_z) 5 (.int .i64 s.thi) ne_s_z (set_far (n := blk_z) 4 (.int .i64 s.tlo) ne_s_z (set_far (n := blk_z) 3 (.int .i64 s.yhi) ne_s_z (set_far (n := blk_z) 2 (.int .i64 s.ylo) ne_s_z (set_far (n := blk_z) 1 (.int .i64 s.ghi) ne_s_z (set_far (n := blk_z) 0 (.int .i64 s.glo) ne_s_z A_s.out)))))))))))))); exact h2
        have C_l : M10.heap[blk_l]? = some (.cells #[.int .i64 2, .int .i64 0, .int .i64 0, .int .i64 0, .int .i64 0, .int .i64 0, .int .i64 0, .int .i64 0, .int .i64 0, .int .i64 0, .int .i64 1, .int .i64 0, .int .i64 0, .int .i64 o.lt, .int .i64 0, .int .i64 0, .int .i64 0, .int .i64 0, .int .i64 0, .int .i64 0, .int .i64 3, .int .i64 0, .int .i64 0, .int .i64 0, .int .i64 0, .int .i64 0, .int .i64 0, .int .i64 0, .int .i64 0, .int .i64 0] 33 (0, 0)) := by rw [← hV10]; have h2 := (set_far (n := blk_zq) 5 (.int .i64 0) ne_l_zq (set_far (n := blk_zq) 4 (.int .i64 0) ne_l_zq (set_far (n := blk_zq) 3 (.int .i64 0) ne_l_zq (set_far (n := blk_zq) 2 (.int .i64 0) ne_l_zq (set_far (n := blk_zq) 1 (.int .i64 0) ne_l_zq (set_far (n := blk_zq) 0 (.int .i64 0) ne_l_zq (set_far (n := blk_z) 7 (.int .i64 s.whi) ne_l_z (set_far (n := blk_z) 6 (.int .i64 s.wlo) ne_l_z (set_far (n := blk_z) 5 (.int .i64 s.thi) ne_l_z (set_far (n := blk_z) 4 (.int .i64 s.tlo) ne_l_z (set_far (n := blk_z) 3 (.int .i64 s.yhi) ne_l_z (set_far (n := blk_z) 2 (.int .i64 s.ylo) ne_l_z (set_far (n := blk_z) 1 (.int .i64 s.ghi) ne_l_z (set_far (n := blk_z) 0 (.int .i64 s.glo) ne_l_z A_l.out)))))))))))))); exact h2
        have C_z : M10.heap[blk_z]? = some (.cells #[.int .i64 s.glo, .int .i64 s.ghi, .int .i64 s.ylo, .int .i64 s.yhi, .int .i64 s.tlo, .int .i64 s.thi, .int .i64 s.wlo, .int .i64 s.whi] 28 (0, 0)) := by rw [← hV10]; have h2 := (set_far (n := blk_zq) 5 (.int .i64 0) ne_z_zq (set_far (n := blk_zq) 4 (.int .i64 0) ne_z_zq (set_far (n := blk_zq) 3 (.int .i64 0) ne_z_zq (set_far (n := blk_zq) 2 (.int .i64 0) ne_z_zq (set_far (n := blk_zq) 1 (.int .i64 0) ne_z_zq (set_far (n := blk_zq) 0 (.int .i64 0) ne_z_zq (set_one (set_one (set_one (set_one (set_one (set_one (set_one (set_one A_z.out 0 (.int .i64 s.glo)) 1 (.int .i64 s.ghi)) 2 (.int .i64 s.ylo)) 3 (.int .i64 s.yhi)) 4 (.int .i64 s.tlo)) 5 (.int .i64 s.thi)) 6 (.int .i64 s.wlo)) 7 (.int .i64 s.whi)))))))); simp only [List.setIfInBounds_toArray, List.set_cons_zero, List.set_cons_succ] at h2; exact h2
        have C_zq : M10.heap[blk_zq]? = some (.cells #[.int .i64 0, .int .i64 0, .int .i64 0, .int .i64 0, .int .i64 0, .int .i64 0] 35 (0, 0)) := by rw [← hV10]; have h2 := (set_one (set_one (set_one (set_one (set_one (set_one (set_far (n := blk_z) 7 (.int .i64 s.whi) ne_zq_z (set_far (n := blk_z) 6 (.int .i64 s.wlo) ne_zq_z (set_far (n := blk_z) 5 (.int .i64 s.thi) ne_zq_z (set_far (n := blk_z) 4 (.int .i64 s.tlo) ne_zq_z (set_far (n := blk_z) 3 (.int .i64 s.yhi) ne_zq_z (set_far (n := blk_z) 2 (.int .i64 s.ylo) ne_zq_z (set_far (n := blk_z) 1 (.int .i64 s.ghi) ne_zq_z (set_far (n := blk_z) 0 (.int .i64 s.glo) ne_zq_z A_zq.out)))))))) 0 (.int .i64 0)) 1 (.int .i64 0)) 2 (.int .i64 0)) 3 (.int .i64 0)) 4 (.int .i64 0)) 5 (.int .i64 0)); simp only [List.setIfInBounds_toArray, List.set_cons_zero, List.set_cons_succ] at h2; exact h2
        replace B10 : Below w.heap.size w M10 := by rw [← hV10]; exact (Below.setCell (p := ⟨blk_zq, 5, none⟩) (Below.setCell (p := ⟨blk_zq, 4, none⟩) (Below.setCell (p := ⟨blk_zq, 3, none⟩) (Below.setCell (p := ⟨blk_zq, 2, none⟩) (Below.setCell (p := ⟨blk_zq, 1, none⟩) (Below.setCell (p := ⟨blk_zq, 0, none⟩) (Below.setCell (p := ⟨blk_z, 7, none⟩) (Below.setCell (p := ⟨blk_z, 6, none⟩) (Below.setCell (p := ⟨blk_z, 5, none⟩) (Below.setCell (p := ⟨blk_z, 4, none⟩) (Below.setCell (p := ⟨blk_z, 3, none⟩) (Below.setCell (p := ⟨blk_z, 2, none⟩) (Below.setCell (p := ⟨blk_z, 1, none⟩) (Below.setCell (p := ⟨blk_z, 0, none⟩) B10 le_z (.int .i64 s.glo)) le_z (.int .i64 s.ghi)) le_z (.int .i64 s.ylo)) le_z (.int .i64 s.yhi)) le_z (.int .i64 s.tlo)) le_z (.int .i64 s.thi)) le_z (.int .i64 s.wlo)) le_z (.int .i64 s.whi)) le_zq (.int .i64 0)) le_zq (.int .i64 0)) le_zq (.int .i64 0)) le_zq (.int .i64 0)) le_zq (.int .i64 0)) le_zq (.int .i64 0))
        clear hV10 hb hLw l_z l_zq p_z_0 g_z_0 p_z_1 g_z_1 p_z_2 g_z_2 p_z_3 g_z_3 p_z_4 g_z_4 p_z_5 g_z_5 p_z_6 g_z_6 p_z_7 g_z_7 p_zq_0 g_zq_0 p_zq_1 g_zq_1 p_zq_2 g_zq_2 p_zq_3 g_zq_3 p_zq_4 g_zq_4 p_zq_5 g_zq_5
        replace A_c := C_c
        clear C_c
        replace A_s := C_s
        clear C_s
        replace A_l := C_l
        clear C_l
        replace A_z := C_z
        clear C_z
        replace A_zq := C_zq
        clear C_zq
        have z10_c := (Array.getElem?_eq_some_iff.1 A_c).1
        have z10_s := (Array.getElem?_eq_some_iff.1 A_s).1
        have z10_l := (Array.getElem?_eq_some_iff.1 A_l).1
        have z10_z := (Array.getElem?_eq_some_iff.1 A_z).1
        have z10_zq := (Array.getElem?_eq_some_iff.1 A_zq).1
        obtain ⟨q10_c_0, q10_c_1, q10_c_2, q10_c_3, q10_c_4, q10_c_5, q10_c_6, q10_c_7, q10_c_8, q10_c_9, q10_c_10⟩ := rc11 A_c
        have R10_c := Lib.hid A_c
        clear A_c
        obtain ⟨q10_s_0, q10_s_1, q10_s_2, q10_s_3, q10_s_4, q10_s_5, q10_s_6, q10_s_7⟩ := rc8 A_s
        have R10_s := Lib.hid A_s
        clear A_s
        have R10_l := Lib.hid A_l
        clear A_l
        obtain ⟨q10_z_0, q10_z_1, q10_z_2, q10_z_3, q10_z_4, q10_z_5, q10_z_6, q10_z_7⟩ := rc8 A_z
        have R10_z := Lib.hid A_z
        clear A_z
        obtain ⟨q10_zq_0, q10_zq_1, q10_zq_2, q10_zq_3, q10_zq_4, q10_zq_5⟩ := rc6 A_zq
        have R10_zq := Lib.hid A_zq
        clear A_zq
        have hgw10 := grow_cell M10
        go_wp2_with (fail)
        exact ⟨⟨k + 1, by omega, by go_num, (Lib.hid ⟨R10_c.out, R10_s.out, R10_l.out, B10⟩)⟩, by simp [intOf]; omega⟩
    · obtain rfl : k = 3 := by omega
      go_wp2_with (first | (go_at_call 20; (with_reducible refine Calls.mono (hK.out _) ?_); rintro e w1 ⟨rfl, hB⟩; (first | (obtain ⟨g, rfl⟩ := g.next hB) | (obtain ⟨g, rfl⟩ : ∃ g : Grow wr, w1 = g.x := ⟨⟨w1, hB⟩, rfl⟩)); clear hB))
      go_ret
      exact ⟨rfl, B9.trans (g.h.mono B9.size)⟩

end Go.Proofs.Ytgmbolagciaenaa
