/- Gas: the walk of the law GasNarrow. -/
import Derived.Test.YtgmbolagciaenaaGln
import Derived.Test.YtgmbolagciaenaaKno
import Derived.Test.YtgmbolagciaenaaNpl
import Derived.Test.YtgmbolagciaenaaDo1
set_option linter.unusedVariables false
set_option linter.unusedSimpArgs false
namespace Go.Proofs.Ytgmbolagciaenaa
open Go.RowKit Go.Sd Gas
theorem tmod2 (n : Nat) : (n : Int).tmod 2 = ((n % 2 : Nat) : Int) := by
  rw [Int.tmod_eq_emod_of_nonneg (by omega)]; omega
theorem lawEnd (a b : Int) (n : Nat) (w : World) {x : Int} (h : endN a b n = x) : Calls Try.prog 22 #[.agg #[.int .i64 a, .int .i64 b], .int .i64 (n : Int)] w fun e w' => e = .returned (.int .i64 x) ∧ Below w.heap.size w w' := by
  unfold endN at h
  by_cases e : n % 2 = 1
  · rw [if_pos e] at h; subst h
    exact lawEnd1 a b n w (by rw [tmod2, e]; rfl)
  · rw [if_neg e] at h; subst h
    exact lawEnd0 a b n w (by rw [tmod2, show n % 2 = 0 by omega]; rfl)
theorem quoN (k d : Nat) (hk : k ≤ 64) (hd : 0 < d) : IntKind.i64.wrap ((k : Int).tdiv (d : Int)) = ((k / d : Nat) : Int) := by
  have e : (k : Int).tdiv (d : Int) = ((k / d : Nat) : Int) := (Int.ofNat_tdiv k d).symm
  rw [e]
  have : k / d ≤ 64 := Nat.le_trans (Nat.div_le_self k d) hk
  generalize k / d = z at *
  exact IntWalk.i64_in _ (by omega)
theorem playErr_ok3 {c : Cav} {p : Pt} {l : List Gas.Op} {xa xb : List Int} (h1 : l.length ≤ 20) (h2 : c.ok = true) (h3 : p.ok = true) (h4 : opsB l = true) (h5 : truthB l xa xb = true) : playErr c p l xa xb = 0 := by
  unfold playErr
  rw [if_neg (by omega), h2, h3, h4, h5]; rfl
theorem quoT (k d : Nat) : (k : Int).tdiv (d : Int) = ((k / d : Nat) : Int) := (Int.ofNat_tdiv k d).symm
theorem quoE (k d : Nat) : (k : Int) / (d : Int) = ((k / d : Nat) : Int) := (Int.natCast_ediv k d).symm
theorem quoW (k d : Nat) (hk : k ≤ 64) : IntKind.i64.wrap ((k / d : Nat) : Int) = ((k / d : Nat) : Int) := by
  have : k / d ≤ 64 := Nat.le_trans (Nat.div_le_self k d) hk
  generalize k / d = z at *
  exact IntWalk.i64_in _ (by omega)
/-- Play at an end. -/
theorem endPlay {c : Cav} {s x : St} {o : Gas.Op} {q : Out} (hc : c.ok = true) (hs : s.ok = true) (ho : o.ok = true) (h : act c s o = some (x, q)) (k : Nat) {lv av bv : Value} (w : World) (hl : OpsAt w lv [o]) (ha : IntsAt w av [cornU o k]) (hb : IntsAt w bv [cornV o k]) :
    Calls Try.prog 23 #[cavV c, ptV (cornP s k), lv, av, bv] w fun e w' => e = .returned (.tuple #[ptV (zAt c s o k), .agg #[.int .i64 (gAt c s o k).g, .int .i64 (gAt c s o k).y, .int .i64 0, .int .i64 (gAt c s o k).w], .int .i64 0]) ∧ Below w.heap.size w w' := by
  have hc' := Cav.ok_iff.1 hc; have hs' := St.ok_iff.1 hs; have ho' := Op.ok_is ho
  obtain ⟨h1, h2, h3, h4⟩ := corn_one hc' hs' ho' h k
  obtain ⟨s1, s2⟩ := op_spans ho'
  have hp : (cornP s k).ok = true := Pt.ok_iff.2 ((corn_has hs' k).ok hs')
  have ht : truthB [o] [cornU o k] [cornV o k] = true := truth_iff.2 ⟨rfl, rfl, fun j hj => by
    obtain rfl : j = 0 := by simp at hj; omega
    show (inB (cornU o k) o.slo o.shi && inB (cornV o k) o.wlo o.whi) = true
    rw [Bool.and_eq_true]
    exact ⟨inB_iff.2 (endN_in s1 _), inB_iff.2 (endN_in s2 _)⟩⟩
  have he := playErr_ok3 (c := c) (p := cornP s k) (l := [o]) (xa := [cornU o k]) (xb := [cornV o k]) (by simp) hc hp (by simp [opsB, ho]) ht
  have hpl : play c (cornP s k) [o] [cornU o k] [cornV o k] = some (zAt c s o k, addPt ⟨0, 0, 0, 0⟩ (gAt c s o k)) := by
    show (match one c (cornP s k) o (cornU o k) (cornV o k) with | none => none | some (x, g) => some (x, addPt ⟨0, 0, 0, 0⟩ g)) = _
    rw [h1]
  have := progPlaySome w hl ha hb he hpl
  have e : ptV (addPt ⟨0, 0, 0, 0⟩ (gAt c s o k)) = .agg #[.int .i64 (gAt c s o k).g, .int .i64 (gAt c s o k).y, .int .i64 0, .int .i64 (gAt c s o k).w] := by simp [addPt]
  rw [e] at this
  exact this

set_option maxRecDepth 100000 in
set_option maxHeartbeats 16000000 in
theorem lawNar0 (c : Cav) (s : St) (o : Gas.Op) (w : World) (hc : c.ok = false) :
    Calls Try.prog 4 #[cavV c, stV s, opV o] w fun e w' => e = .returned (.bool true) ∧ Below w.heap.size w w' := by
  obtain ⟨W1, hW1⟩ : ∃ W1, w.alloc (.cells #[.int .i64 c.vlo, .int .i64 c.vhi, .int .i64 c.least, .int .i64 c.most, .int .i64 c.f0, .int .i64 c.f1, .int .i64 c.h0, .int .i64 c.h1, .int .i64 c.rock, .int .i64 c.plo, .int .i64 c.phi] 26) = W1 := ⟨_, rfl⟩
  obtain ⟨e_c, b_c, s_c⟩ := boxed hW1
  obtain ⟨W2, hW2⟩ : ∃ W2, W1.alloc (.cells #[.int .i64 s.glo, .int .i64 s.ghi, .int .i64 s.ylo, .int .i64 s.yhi, .int .i64 s.tlo, .int .i64 s.thi, .int .i64 s.wlo, .int .i64 s.whi] 28) = W2 := ⟨_, rfl⟩
  obtain ⟨e_s, b_s, s_s⟩ := boxed hW2
  replace e_c := (b_s.block _ (Array.getElem?_eq_some_iff.1 e_c).1).trans e_c
  obtain ⟨W, hW⟩ : ∃ W, W2.alloc (.cells #[.int .i64 o.kind, .int .i64 o.lg, .int .i64 o.ly, .int .i64 o.lt, .int .i64 o.lw, .int .i64 o.moles, .int .i64 o.slo, .int .i64 o.shi, .int .i64 o.wlo, .int .i64 o.whi] 33) = W := ⟨_, rfl⟩
  obtain ⟨e_o, b_o, s_o⟩ := boxed hW
  replace e_c := (b_o.block _ (Array.getElem?_eq_some_iff.1 e_c).1).trans e_c
  replace e_s := (b_o.block _ (Array.getElem?_eq_some_iff.1 e_s).1).trans e_s
  have B0 : Below w.heap.size w W := ((b_c.trans (b_s.mono (by omega))).trans (b_o.mono (by omega)))
  have z0_c := (Array.getElem?_eq_some_iff.1 e_c).1
  have z0_s := (Array.getElem?_eq_some_iff.1 e_s).1
  have z0_o := (Array.getElem?_eq_some_iff.1 e_o).1
  have le_c : w.heap.size ≤ w.heap.size := by omega
  have le_s : w.heap.size ≤ W1.heap.size := by omega
  have le_o : w.heap.size ≤ W2.heap.size := by omega
  clear s_c b_c s_s b_s s_o b_o
  obtain ⟨q0_c_0, q0_c_1, q0_c_2, q0_c_3, q0_c_4, q0_c_5, q0_c_6, q0_c_7, q0_c_8, q0_c_9, q0_c_10⟩ := rc11 e_c
  replace e_c := Lib.hid e_c
  obtain ⟨q0_s_0, q0_s_1, q0_s_2, q0_s_3, q0_s_4, q0_s_5, q0_s_6, q0_s_7⟩ := rc8 e_s
  replace e_s := Lib.hid e_s
  obtain ⟨q0_o_0, q0_o_1, q0_o_2, q0_o_3, q0_o_4, q0_o_5, q0_o_6, q0_o_7, q0_o_8, q0_o_9⟩ := rc10 e_o
  replace e_o := Lib.hid e_o
  have hgw0 := grow_cell W
  have hK := Lib.hid (fun w => progKnown w)
  have kRC := Lib.hid (fun w => (refCavern c w).mono fun e w' hb => BoolB.lit hb hc)
  replace hc := Lib.hid hc
  go_enter Try.func4, Try.ntmps4
  go_wp2_with (first | (go_at_call 17; (with_reducible refine Calls.mono (kRC.out _) ?_); rintro e w1 ⟨rfl, hB⟩; (first | (obtain ⟨g, rfl⟩ := g.next hB) | (obtain ⟨g, rfl⟩ : ∃ g : Grow W, w1 = g.x := ⟨⟨w1, hB⟩, rfl⟩)); clear hB) | (go_at_call 20; (with_reducible refine Calls.mono (hK.out _) ?_); rintro e w1 ⟨rfl, hB⟩; (first | (obtain ⟨g, rfl⟩ := g.next hB) | (obtain ⟨g, rfl⟩ : ∃ g : Grow W, w1 = g.x := ⟨⟨w1, hB⟩, rfl⟩)); clear hB))
  go_ret
  exact ⟨rfl, B0.trans (g.h.mono B0.size)⟩

set_option maxRecDepth 100000 in
set_option maxHeartbeats 16000000 in
theorem lawNar1 (c : Cav) (s : St) (o : Gas.Op) (w : World) (hc : c.ok = true) (hs : s.ok = false) :
    Calls Try.prog 4 #[cavV c, stV s, opV o] w fun e w' => e = .returned (.bool true) ∧ Below w.heap.size w w' := by
  obtain ⟨W1, hW1⟩ : ∃ W1, w.alloc (.cells #[.int .i64 c.vlo, .int .i64 c.vhi, .int .i64 c.least, .int .i64 c.most, .int .i64 c.f0, .int .i64 c.f1, .int .i64 c.h0, .int .i64 c.h1, .int .i64 c.rock, .int .i64 c.plo, .int .i64 c.phi] 26) = W1 := ⟨_, rfl⟩
  obtain ⟨e_c, b_c, s_c⟩ := boxed hW1
  obtain ⟨W2, hW2⟩ : ∃ W2, W1.alloc (.cells #[.int .i64 s.glo, .int .i64 s.ghi, .int .i64 s.ylo, .int .i64 s.yhi, .int .i64 s.tlo, .int .i64 s.thi, .int .i64 s.wlo, .int .i64 s.whi] 28) = W2 := ⟨_, rfl⟩
  obtain ⟨e_s, b_s, s_s⟩ := boxed hW2
  replace e_c := (b_s.block _ (Array.getElem?_eq_some_iff.1 e_c).1).trans e_c
  obtain ⟨W, hW⟩ : ∃ W, W2.alloc (.cells #[.int .i64 o.kind, .int .i64 o.lg, .int .i64 o.ly, .int .i64 o.lt, .int .i64 o.lw, .int .i64 o.moles, .int .i64 o.slo, .int .i64 o.shi, .int .i64 o.wlo, .int .i64 o.whi] 33) = W := ⟨_, rfl⟩
  obtain ⟨e_o, b_o, s_o⟩ := boxed hW
  replace e_c := (b_o.block _ (Array.getElem?_eq_some_iff.1 e_c).1).trans e_c
  replace e_s := (b_o.block _ (Array.getElem?_eq_some_iff.1 e_s).1).trans e_s
  have B0 : Below w.heap.size w W := ((b_c.trans (b_s.mono (by omega))).trans (b_o.mono (by omega)))
  have z0_c := (Array.getElem?_eq_some_iff.1 e_c).1
  have z0_s := (Array.getElem?_eq_some_iff.1 e_s).1
  have z0_o := (Array.getElem?_eq_some_iff.1 e_o).1
  have le_c : w.heap.size ≤ w.heap.size := by omega
  have le_s : w.heap.size ≤ W1.heap.size := by omega
  have le_o : w.heap.size ≤ W2.heap.size := by omega
  clear s_c b_c s_s b_s s_o b_o
  obtain ⟨q0_c_0, q0_c_1, q0_c_2, q0_c_3, q0_c_4, q0_c_5, q0_c_6, q0_c_7, q0_c_8, q0_c_9, q0_c_10⟩ := rc11 e_c
  replace e_c := Lib.hid e_c
  obtain ⟨q0_s_0, q0_s_1, q0_s_2, q0_s_3, q0_s_4, q0_s_5, q0_s_6, q0_s_7⟩ := rc8 e_s
  replace e_s := Lib.hid e_s
  obtain ⟨q0_o_0, q0_o_1, q0_o_2, q0_o_3, q0_o_4, q0_o_5, q0_o_6, q0_o_7, q0_o_8, q0_o_9⟩ := rc10 e_o
  replace e_o := Lib.hid e_o
  have hgw0 := grow_cell W
  have hK := Lib.hid (fun w => progKnown w)
  have kRC := Lib.hid (fun w => (refCavern c w).mono fun e w' hb => BoolB.lit hb hc)
  have kRS := Lib.hid (fun w => (refState s w).mono fun e w' hb => BoolB.lit hb hs)
  replace hc := Lib.hid hc; replace hs := Lib.hid hs
  go_enter Try.func4, Try.ntmps4
  go_wp2_with (first | (go_at_call 17; (with_reducible refine Calls.mono (kRC.out _) ?_); rintro e w1 ⟨rfl, hB⟩; (first | (obtain ⟨g, rfl⟩ := g.next hB) | (obtain ⟨g, rfl⟩ : ∃ g : Grow W, w1 = g.x := ⟨⟨w1, hB⟩, rfl⟩)); clear hB) | (go_at_call 18; (with_reducible refine Calls.mono (kRS.out _) ?_); rintro e w1 ⟨rfl, hB⟩; (first | (obtain ⟨g, rfl⟩ := g.next hB) | (obtain ⟨g, rfl⟩ : ∃ g : Grow W, w1 = g.x := ⟨⟨w1, hB⟩, rfl⟩)); clear hB) | (go_at_call 20; (with_reducible refine Calls.mono (hK.out _) ?_); rintro e w1 ⟨rfl, hB⟩; (first | (obtain ⟨g, rfl⟩ := g.next hB) | (obtain ⟨g, rfl⟩ : ∃ g : Grow W, w1 = g.x := ⟨⟨w1, hB⟩, rfl⟩)); clear hB))
  go_ret
  exact ⟨rfl, B0.trans (g.h.mono B0.size)⟩

set_option maxRecDepth 100000 in
set_option maxHeartbeats 16000000 in
theorem lawNar2 (c : Cav) (s : St) (o : Gas.Op) (w : World) (hc : c.ok = true) (hs : s.ok = true) (ho : o.ok = false) :
    Calls Try.prog 4 #[cavV c, stV s, opV o] w fun e w' => e = .returned (.bool true) ∧ Below w.heap.size w w' := by
  obtain ⟨W1, hW1⟩ : ∃ W1, w.alloc (.cells #[.int .i64 c.vlo, .int .i64 c.vhi, .int .i64 c.least, .int .i64 c.most, .int .i64 c.f0, .int .i64 c.f1, .int .i64 c.h0, .int .i64 c.h1, .int .i64 c.rock, .int .i64 c.plo, .int .i64 c.phi] 26) = W1 := ⟨_, rfl⟩
  obtain ⟨e_c, b_c, s_c⟩ := boxed hW1
  obtain ⟨W2, hW2⟩ : ∃ W2, W1.alloc (.cells #[.int .i64 s.glo, .int .i64 s.ghi, .int .i64 s.ylo, .int .i64 s.yhi, .int .i64 s.tlo, .int .i64 s.thi, .int .i64 s.wlo, .int .i64 s.whi] 28) = W2 := ⟨_, rfl⟩
  obtain ⟨e_s, b_s, s_s⟩ := boxed hW2
  replace e_c := (b_s.block _ (Array.getElem?_eq_some_iff.1 e_c).1).trans e_c
  obtain ⟨W, hW⟩ : ∃ W, W2.alloc (.cells #[.int .i64 o.kind, .int .i64 o.lg, .int .i64 o.ly, .int .i64 o.lt, .int .i64 o.lw, .int .i64 o.moles, .int .i64 o.slo, .int .i64 o.shi, .int .i64 o.wlo, .int .i64 o.whi] 33) = W := ⟨_, rfl⟩
  obtain ⟨e_o, b_o, s_o⟩ := boxed hW
  replace e_c := (b_o.block _ (Array.getElem?_eq_some_iff.1 e_c).1).trans e_c
  replace e_s := (b_o.block _ (Array.getElem?_eq_some_iff.1 e_s).1).trans e_s
  have B0 : Below w.heap.size w W := ((b_c.trans (b_s.mono (by omega))).trans (b_o.mono (by omega)))
  have z0_c := (Array.getElem?_eq_some_iff.1 e_c).1
  have z0_s := (Array.getElem?_eq_some_iff.1 e_s).1
  have z0_o := (Array.getElem?_eq_some_iff.1 e_o).1
  have le_c : w.heap.size ≤ w.heap.size := by omega
  have le_s : w.heap.size ≤ W1.heap.size := by omega
  have le_o : w.heap.size ≤ W2.heap.size := by omega
  clear s_c b_c s_s b_s s_o b_o
  obtain ⟨q0_c_0, q0_c_1, q0_c_2, q0_c_3, q0_c_4, q0_c_5, q0_c_6, q0_c_7, q0_c_8, q0_c_9, q0_c_10⟩ := rc11 e_c
  replace e_c := Lib.hid e_c
  obtain ⟨q0_s_0, q0_s_1, q0_s_2, q0_s_3, q0_s_4, q0_s_5, q0_s_6, q0_s_7⟩ := rc8 e_s
  replace e_s := Lib.hid e_s
  obtain ⟨q0_o_0, q0_o_1, q0_o_2, q0_o_3, q0_o_4, q0_o_5, q0_o_6, q0_o_7, q0_o_8, q0_o_9⟩ := rc10 e_o
  replace e_o := Lib.hid e_o
  have hgw0 := grow_cell W
  have hK := Lib.hid (fun w => progKnown w)
  have kRC := Lib.hid (fun w => (refCavern c w).mono fun e w' hb => BoolB.lit hb hc)
  have kRS := Lib.hid (fun w => (refState s w).mono fun e w' hb => BoolB.lit hb hs)
  have kRO := Lib.hid (fun w => (refOp o w).mono fun e w' hb => BoolB.lit hb ho)
  replace hc := Lib.hid hc; replace hs := Lib.hid hs; replace ho := Lib.hid ho
  go_enter Try.func4, Try.ntmps4
  go_wp2_with (first | (go_at_call 17; (with_reducible refine Calls.mono (kRC.out _) ?_); rintro e w1 ⟨rfl, hB⟩; (first | (obtain ⟨g, rfl⟩ := g.next hB) | (obtain ⟨g, rfl⟩ : ∃ g : Grow W, w1 = g.x := ⟨⟨w1, hB⟩, rfl⟩)); clear hB) | (go_at_call 18; (with_reducible refine Calls.mono (kRS.out _) ?_); rintro e w1 ⟨rfl, hB⟩; (first | (obtain ⟨g, rfl⟩ := g.next hB) | (obtain ⟨g, rfl⟩ : ∃ g : Grow W, w1 = g.x := ⟨⟨w1, hB⟩, rfl⟩)); clear hB) | (go_at_call 19; (with_reducible refine Calls.mono (kRO.out _) ?_); rintro e w1 ⟨rfl, hB⟩; (first | (obtain ⟨g, rfl⟩ := g.next hB) | (obtain ⟨g, rfl⟩ : ∃ g : Grow W, w1 = g.x := ⟨⟨w1, hB⟩, rfl⟩)); clear hB) | (go_at_call 20; (with_reducible refine Calls.mono (hK.out _) ?_); rintro e w1 ⟨rfl, hB⟩; (first | (obtain ⟨g, rfl⟩ := g.next hB) | (obtain ⟨g, rfl⟩ : ∃ g : Grow W, w1 = g.x := ⟨⟨w1, hB⟩, rfl⟩)); clear hB))
  go_ret
  exact ⟨rfl, B0.trans (g.h.mono B0.size)⟩

set_option maxRecDepth 100000 in
set_option maxHeartbeats 16000000 in
theorem lawNar3 (c : Cav) (s : St) (o : Gas.Op) (w : World) (hc : c.ok = true) (hs : s.ok = true) (ho : o.ok = true) (ha : act c s o = none) :
    Calls Try.prog 4 #[cavV c, stV s, opV o] w fun e w' => e = .returned (.bool true) ∧ Below w.heap.size w w' := by
  obtain ⟨W1, hW1⟩ : ∃ W1, w.alloc (.cells #[.int .i64 c.vlo, .int .i64 c.vhi, .int .i64 c.least, .int .i64 c.most, .int .i64 c.f0, .int .i64 c.f1, .int .i64 c.h0, .int .i64 c.h1, .int .i64 c.rock, .int .i64 c.plo, .int .i64 c.phi] 26) = W1 := ⟨_, rfl⟩
  obtain ⟨e_c, b_c, s_c⟩ := boxed hW1
  obtain ⟨W2, hW2⟩ : ∃ W2, W1.alloc (.cells #[.int .i64 s.glo, .int .i64 s.ghi, .int .i64 s.ylo, .int .i64 s.yhi, .int .i64 s.tlo, .int .i64 s.thi, .int .i64 s.wlo, .int .i64 s.whi] 28) = W2 := ⟨_, rfl⟩
  obtain ⟨e_s, b_s, s_s⟩ := boxed hW2
  replace e_c := (b_s.block _ (Array.getElem?_eq_some_iff.1 e_c).1).trans e_c
  obtain ⟨W, hW⟩ : ∃ W, W2.alloc (.cells #[.int .i64 o.kind, .int .i64 o.lg, .int .i64 o.ly, .int .i64 o.lt, .int .i64 o.lw, .int .i64 o.moles, .int .i64 o.slo, .int .i64 o.shi, .int .i64 o.wlo, .int .i64 o.whi] 33) = W := ⟨_, rfl⟩
  obtain ⟨e_o, b_o, s_o⟩ := boxed hW
  replace e_c := (b_o.block _ (Array.getElem?_eq_some_iff.1 e_c).1).trans e_c
  replace e_s := (b_o.block _ (Array.getElem?_eq_some_iff.1 e_s).1).trans e_s
  have B0 : Below w.heap.size w W := ((b_c.trans (b_s.mono (by omega))).trans (b_o.mono (by omega)))
  have z0_c := (Array.getElem?_eq_some_iff.1 e_c).1
  have z0_s := (Array.getElem?_eq_some_iff.1 e_s).1
  have z0_o := (Array.getElem?_eq_some_iff.1 e_o).1
  have le_c : w.heap.size ≤ w.heap.size := by omega
  have le_s : w.heap.size ≤ W1.heap.size := by omega
  have le_o : w.heap.size ≤ W2.heap.size := by omega
  clear s_c b_c s_s b_s s_o b_o
  obtain ⟨q0_c_0, q0_c_1, q0_c_2, q0_c_3, q0_c_4, q0_c_5, q0_c_6, q0_c_7, q0_c_8, q0_c_9, q0_c_10⟩ := rc11 e_c
  replace e_c := Lib.hid e_c
  obtain ⟨q0_s_0, q0_s_1, q0_s_2, q0_s_3, q0_s_4, q0_s_5, q0_s_6, q0_s_7⟩ := rc8 e_s
  replace e_s := Lib.hid e_s
  obtain ⟨q0_o_0, q0_o_1, q0_o_2, q0_o_3, q0_o_4, q0_o_5, q0_o_6, q0_o_7, q0_o_8, q0_o_9⟩ := rc10 e_o
  replace e_o := Lib.hid e_o
  have hgw0 := grow_cell W
  have hK := Lib.hid (fun w => progKnown w)
  have kD := Lib.hid (fun w => progDoNone (c := c) (s := s) (o := o) w hc hs ho ha)
  have kRC := Lib.hid (fun w => (refCavern c w).mono fun e w' hb => BoolB.lit hb hc)
  have kRS := Lib.hid (fun w => (refState s w).mono fun e w' hb => BoolB.lit hb hs)
  have kRO := Lib.hid (fun w => (refOp o w).mono fun e w' hb => BoolB.lit hb ho)
  replace hc := Lib.hid hc; replace hs := Lib.hid hs; replace ho := Lib.hid ho
  replace ha := Lib.hid ha
  go_enter Try.func4, Try.ntmps4
  go_wp2_with (first | (go_at_call 17; (with_reducible refine Calls.mono (kRC.out _) ?_); rintro e w1 ⟨rfl, hB⟩; (first | (obtain ⟨g, rfl⟩ := g.next hB) | (obtain ⟨g, rfl⟩ : ∃ g : Grow W, w1 = g.x := ⟨⟨w1, hB⟩, rfl⟩)); clear hB) | (go_at_call 18; (with_reducible refine Calls.mono (kRS.out _) ?_); rintro e w1 ⟨rfl, hB⟩; (first | (obtain ⟨g, rfl⟩ := g.next hB) | (obtain ⟨g, rfl⟩ : ∃ g : Grow W, w1 = g.x := ⟨⟨w1, hB⟩, rfl⟩)); clear hB) | (go_at_call 19; (with_reducible refine Calls.mono (kRO.out _) ?_); rintro e w1 ⟨rfl, hB⟩; (first | (obtain ⟨g, rfl⟩ := g.next hB) | (obtain ⟨g, rfl⟩ : ∃ g : Grow W, w1 = g.x := ⟨⟨w1, hB⟩, rfl⟩)); clear hB) | (go_at_call 16; (with_reducible refine Calls.mono (kD.out _) ?_); rintro e w1 ⟨rfl, hB⟩; (first | (obtain ⟨g, rfl⟩ := g.next hB) | (obtain ⟨g, rfl⟩ : ∃ g : Grow W, w1 = g.x := ⟨⟨w1, hB⟩, rfl⟩)); clear hB; have hld : ∀ (b o : Nat), b < W.heap.size → ((g.x.alloc (.cells #[.int .i64 0, .int .i64 0, .int .i64 0, .int .i64 0, .int .i64 0, .int .i64 0, .int .i64 0, .int .i64 0] 28)).alloc (.cells #[.int .i64 0, .int .i64 0, .int .i64 0, .int .i64 0, .int .i64 0, .int .i64 0] 35)).cell? ⟨b, o, none⟩ = W.cell? ⟨b, o, none⟩ := below_cell ((g.h.alloc g.size (.cells #[.int .i64 0, .int .i64 0, .int .i64 0, .int .i64 0, .int .i64 0, .int .i64 0, .int .i64 0, .int .i64 0] 28)).alloc (g.h.alloc g.size (.cells #[.int .i64 0, .int .i64 0, .int .i64 0, .int .i64 0, .int .i64 0, .int .i64 0, .int .i64 0, .int .i64 0] 28)).size (.cells #[.int .i64 0, .int .i64 0, .int .i64 0, .int .i64 0, .int .i64 0, .int .i64 0] 35))))
  clear hld
  clear q0_c_0 q0_c_1 q0_c_2 q0_c_3 q0_c_4 q0_c_5 q0_c_6 q0_c_7 q0_c_8 q0_c_9 q0_c_10 q0_s_0 q0_s_1 q0_s_2 q0_s_3 q0_s_4 q0_s_5 q0_s_6 q0_s_7 q0_o_0 q0_o_1 q0_o_2 q0_o_3 q0_o_4 q0_o_5 q0_o_6 q0_o_7 q0_o_8 q0_o_9
  clear hgw0
  have szo1 := B0.size
  have gz1 := g.size
  have A_c : g.x.heap[w.heap.size]? = some (.cells #[.int .i64 c.vlo, .int .i64 c.vhi, .int .i64 c.least, .int .i64 c.most, .int .i64 c.f0, .int .i64 c.f1, .int .i64 c.h0, .int .i64 c.h1, .int .i64 c.rock, .int .i64 c.plo, .int .i64 c.phi] 26 (0, 0)) := (g.h.block _ z0_c).trans e_c.out
  have A_s : g.x.heap[W1.heap.size]? = some (.cells #[.int .i64 s.glo, .int .i64 s.ghi, .int .i64 s.ylo, .int .i64 s.yhi, .int .i64 s.tlo, .int .i64 s.thi, .int .i64 s.wlo, .int .i64 s.whi] 28 (0, 0)) := (g.h.block _ z0_s).trans e_s.out
  have A_o : g.x.heap[W2.heap.size]? = some (.cells #[.int .i64 o.kind, .int .i64 o.lg, .int .i64 o.ly, .int .i64 o.lt, .int .i64 o.lw, .int .i64 o.moles, .int .i64 o.slo, .int .i64 o.shi, .int .i64 o.wlo, .int .i64 o.whi] 33 (0, 0)) := (g.h.block _ z0_o).trans e_o.out
  obtain ⟨U1_x, hU1_x⟩ : ∃ Uw, g.x.alloc (.cells #[.int .i64 0, .int .i64 0, .int .i64 0, .int .i64 0, .int .i64 0, .int .i64 0, .int .i64 0, .int .i64 0] 28) = Uw := ⟨_, rfl⟩
  obtain ⟨A_x, b_x, s_x⟩ := boxed hU1_x
  rw [hU1_x]
  replace A_c := (b_x.block _ (Array.getElem?_eq_some_iff.1 A_c).1).trans A_c
  replace A_s := (b_x.block _ (Array.getElem?_eq_some_iff.1 A_s).1).trans A_s
  replace A_o := (b_x.block _ (Array.getElem?_eq_some_iff.1 A_o).1).trans A_o
  obtain ⟨blk_x, hb_x⟩ : ∃ b, g.x.heap.size = b := ⟨_, rfl⟩
  rw [hb_x] at A_x
  try rw [hb_x]
  obtain ⟨U1_v, hU1_v⟩ : ∃ Uw, U1_x.alloc (.cells #[.int .i64 0, .int .i64 0, .int .i64 0, .int .i64 0, .int .i64 0, .int .i64 0] 35) = Uw := ⟨_, rfl⟩
  obtain ⟨A_v, b_v, s_v⟩ := boxed hU1_v
  rw [hU1_v]
  replace A_c := (b_v.block _ (Array.getElem?_eq_some_iff.1 A_c).1).trans A_c
  replace A_s := (b_v.block _ (Array.getElem?_eq_some_iff.1 A_s).1).trans A_s
  replace A_o := (b_v.block _ (Array.getElem?_eq_some_iff.1 A_o).1).trans A_o
  replace A_x := (b_v.block _ (Array.getElem?_eq_some_iff.1 A_x).1).trans A_x
  obtain ⟨blk_v, hb_v⟩ : ∃ b, U1_x.heap.size = b := ⟨_, rfl⟩
  rw [hb_v] at A_v
  have hp_v : blk_x + 1 = blk_v := by omega
  try rw [hp_v]
  have B1 : Below w.heap.size w U1_v := (((B0.trans (g.h.mono B0.size)).trans (b_x.mono (B0.trans (g.h.mono B0.size)).size)).trans (b_v.mono ((B0.trans (g.h.mono B0.size)).trans (b_x.mono (B0.trans (g.h.mono B0.size)).size)).size))
  have le_x : w.heap.size ≤ blk_x := by omega
  have le_v : w.heap.size ≤ blk_v := by omega
  have z1_c := (Array.getElem?_eq_some_iff.1 A_c).1
  have z1_s := (Array.getElem?_eq_some_iff.1 A_s).1
  have z1_o := (Array.getElem?_eq_some_iff.1 A_o).1
  have z1_x := (Array.getElem?_eq_some_iff.1 A_x).1
  have z1_v := (Array.getElem?_eq_some_iff.1 A_v).1
  clear hb_x b_x s_x hU1_x hb_v b_v s_v hU1_v hp_v
  obtain ⟨q1_c_0, q1_c_1, q1_c_2, q1_c_3, q1_c_4, q1_c_5, q1_c_6, q1_c_7, q1_c_8, q1_c_9, q1_c_10⟩ := rc11 A_c
  have R1_c := Lib.hid A_c
  clear A_c
  have R1_s := Lib.hid A_s
  clear A_s
  have R1_o := Lib.hid A_o
  clear A_o
  have R1_x := Lib.hid A_x
  clear A_x
  have R1_v := Lib.hid A_v
  clear A_v
  have hgw1 := grow_cell U1_v
  go_wp2_with (first | (go_at_call 20; (with_reducible refine Calls.mono (hK.out _) ?_); rintro e w1 ⟨rfl, hB⟩; (first | (obtain ⟨g, rfl⟩ := g.next hB) | (obtain ⟨g, rfl⟩ : ∃ g : Grow U1_v, w1 = g.x := ⟨⟨w1, hB⟩, rfl⟩)); clear hB))
  go_ret
  exact ⟨rfl, B1.trans (g.h.mono B1.size)⟩

end Go.Proofs.Ytgmbolagciaenaa
