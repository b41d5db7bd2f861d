/- Gas: the walk of the law GasChains. -/
import Derived.Test.YtgmbolagciaenaaSta
import Derived.Test.YtgmbolagciaenaaRs
import Derived.Test.YtgmbolagciaenaaPsn
import Derived.Test.YtgmbolagciaenaaKno
import Derived.Deep.Cut
set_option linter.unusedVariables false
set_option linter.unusedSimpArgs false
namespace Go.Proofs.Ytgmbolagciaenaa
open Go.RowKit Go.Sd Gas
def TupSts (B : Nat) (l : List St) (n : Int) : Value → World → Prop := fun v w => ∃ sv, v = .tuple #[sv, .int .i64 n, .int .i64 0] ∧ OwnSts B w sv l
def StsIs (B : Nat) (l : List St) : Value → World → Prop := fun v w => OwnSts B w v l
theorem pers_sts (B : Nat) (l : List St) : Pers (StsIs B l) := fun _ _ _ hb h => OwnSt.mono h hb
theorem pers_tup (B : Nat) (l : List St) (n : Int) : Pers (TupSts B l n) := fun _ _ _ hb ⟨sv, h1, h2⟩ => ⟨sv, h1, OwnSt.mono h2 hb⟩
theorem ops_take {w : World} {a : Option Addr} {cap : Nat} {xs : List Gas.Op} (h : OpsAt w (.slice a xs.length cap) xs) (f : Nat) (hf : f ≤ xs.length) : OpsAt w (.slice a f cap) (xs.take f) := by
  obtain ⟨a', cap', e, hm, hc⟩ := h
  simp only [Value.slice.injEq] at e
  obtain ⟨rfl, -, rfl⟩ := e
  have hl : (xs.take f).length = f := by rw [List.length_take]; omega
  refine ⟨a, cap, by rw [hl], by omega, fun h0 => ?_⟩
  obtain ⟨b, off, h1, h2, h3⟩ := hc (by omega)
  refine ⟨b, off, h1, h2, fun k hk => ?_⟩
  have := h3 k (by omega)
  have e : theOp (xs.take f) k = theOp xs k := by
    unfold theOp
    rw [List.getD_eq_getElem?_getD, List.getD_eq_getElem?_getD, List.getElem?_take, if_pos (by omega)]
  rw [e]; exact this
/-- What 'ops[f:]' is. -/
def dropV (a : Option Addr) (n cap f : Nat) : Value := .slice (if cap = f then a else a.map (·.add (f * 10))) (n - f) (cap - f)
theorem ops_drop {w : World} {a : Option Addr} {cap : Nat} {xs : List Gas.Op} (h : OpsAt w (.slice a xs.length cap) xs) (f : Nat) (hf : f ≤ xs.length) (hcap : xs.length ≤ cap) : OpsAt w (dropV a xs.length cap f) (xs.drop f) := by
  unfold dropV
  obtain ⟨a', cap', e, hm, hc⟩ := h
  simp only [Value.slice.injEq] at e
  obtain ⟨rfl, -, rfl⟩ := e
  have hl : (xs.drop f).length = xs.length - f := List.length_drop
  refine ⟨_, cap - f, by rw [hl], by omega, fun h0 => ?_⟩
  obtain ⟨b, off, rfl, h2, h3⟩ := hc (by omega)
  refine ⟨b, off + f * 10, by rw [if_neg (by omega)]; simp [Addr.add], h2, fun k hk => ?_⟩
  have := h3 (f + k) (by omega)
  have e : theOp (xs.drop f) k = theOp xs (f + k) := by
    unfold theOp
    rw [List.getD_eq_getElem?_getD, List.getD_eq_getElem?_getD, List.getElem?_drop]
  rw [e, show off + f * 10 + k * 10 = off + (f + k) * 10 by omega]; exact this
set_option maxRecDepth 100000 in
set_option maxHeartbeats 16000000 in
theorem lawChains0 (c : Cav) (s : St) (lv : Value) (xs : List Gas.Op) (ft : Int) (w : World) (hl : OpsAt w lv xs) (hfit : Fits lv) (h1 : ¬ xs.length ≤ 12) :
    Calls Try.prog 10 #[cavV c, stV s, lv, .int .i64 ft] w fun e w' => e = .returned (.bool true) ∧ Below w.heap.size w w' := by
  obtain ⟨a, m, cap, rfl, hmc, hcap⟩ := hfit
  have hm : m = xs.length := by obtain ⟨a', c', e, -⟩ := hl; simp only [Value.slice.injEq] at e; exact e.2.1
  subst hm
  unfold maxLen at hcap
  have hm' : xs.length ≤ 9223372036854775807 := by omega
  obtain ⟨W1, hW1⟩ : ∃ W1, w.alloc (.cells #[.int .i64 c.vlo, .int .i64 c.vhi, .int .i64 c.least, .int .i64 c.most, .int .i64 c.f0, .int .i64 c.f1, .int .i64 c.h0, .int .i64 c.h1, .int .i64 c.rock, .int .i64 c.plo, .int .i64 c.phi] 26) = W1 := ⟨_, rfl⟩
  obtain ⟨e_c, b_c, s_c⟩ := boxed hW1
  obtain ⟨W, hW⟩ : ∃ W, W1.alloc (.cells #[.int .i64 s.glo, .int .i64 s.ghi, .int .i64 s.ylo, .int .i64 s.yhi, .int .i64 s.tlo, .int .i64 s.thi, .int .i64 s.wlo, .int .i64 s.whi] 28) = W := ⟨_, rfl⟩
  obtain ⟨e_s, b_s, s_s⟩ := boxed hW
  replace e_c := (b_s.block _ (Array.getElem?_eq_some_iff.1 e_c).1).trans e_c
  have B0 : Below w.heap.size w W := (b_c.trans (b_s.mono (by omega)))
  have z0_c := (Array.getElem?_eq_some_iff.1 e_c).1
  have z0_s := (Array.getElem?_eq_some_iff.1 e_s).1
  have le_c : w.heap.size ≤ w.heap.size := by omega
  have le_s : w.heap.size ≤ W1.heap.size := by omega
  clear s_c b_c s_s b_s
  obtain ⟨q0_c_0, q0_c_1, q0_c_2, q0_c_3, q0_c_4, q0_c_5, q0_c_6, q0_c_7, q0_c_8, q0_c_9, q0_c_10⟩ := rc11 e_c
  replace e_c := Lib.hid e_c
  obtain ⟨q0_s_0, q0_s_1, q0_s_2, q0_s_3, q0_s_4, q0_s_5, q0_s_6, q0_s_7⟩ := rc8 e_s
  replace e_s := Lib.hid e_s
  have hgw0 := grow_cell W
  have hK := Lib.hid (fun w => progKnown w)
  have i1 : (12 : Int) < xs.length := by omega
  clear hl hmc hcap h1
  go_enter Try.func10, Try.ntmps10
  go_wp2_with (first | (go_at_call 20; (with_reducible refine Calls.mono (hK.out _) ?_); rintro e w1 ⟨rfl, hB⟩; (first | (obtain ⟨g, rfl⟩ := g.next hB) | (obtain ⟨g, rfl⟩ : ∃ g : Grow W, w1 = g.x := ⟨⟨w1, hB⟩, rfl⟩)); clear hB))
  go_ret
  exact ⟨rfl, B0.trans (g.h.mono B0.size)⟩

set_option maxRecDepth 100000 in
set_option maxHeartbeats 16000000 in
theorem lawChains1 (c : Cav) (s : St) (lv : Value) (xs : List Gas.Op) (ft : Int) (w : World) (hl : OpsAt w lv xs) (hfit : Fits lv) (h1 : xs.length ≤ 12) (hc : c.ok = false) :
    Calls Try.prog 10 #[cavV c, stV s, lv, .int .i64 ft] w fun e w' => e = .returned (.bool true) ∧ Below w.heap.size w w' := by
  obtain ⟨a, m, cap, rfl, hmc, hcap⟩ := hfit
  have hm : m = xs.length := by obtain ⟨a', c', e, -⟩ := hl; simp only [Value.slice.injEq] at e; exact e.2.1
  subst hm
  unfold maxLen at hcap
  have hm' : xs.length ≤ 9223372036854775807 := by omega
  obtain ⟨W1, hW1⟩ : ∃ W1, w.alloc (.cells #[.int .i64 c.vlo, .int .i64 c.vhi, .int .i64 c.least, .int .i64 c.most, .int .i64 c.f0, .int .i64 c.f1, .int .i64 c.h0, .int .i64 c.h1, .int .i64 c.rock, .int .i64 c.plo, .int .i64 c.phi] 26) = W1 := ⟨_, rfl⟩
  obtain ⟨e_c, b_c, s_c⟩ := boxed hW1
  obtain ⟨W, hW⟩ : ∃ W, W1.alloc (.cells #[.int .i64 s.glo, .int .i64 s.ghi, .int .i64 s.ylo, .int .i64 s.yhi, .int .i64 s.tlo, .int .i64 s.thi, .int .i64 s.wlo, .int .i64 s.whi] 28) = W := ⟨_, rfl⟩
  obtain ⟨e_s, b_s, s_s⟩ := boxed hW
  replace e_c := (b_s.block _ (Array.getElem?_eq_some_iff.1 e_c).1).trans e_c
  have B0 : Below w.heap.size w W := (b_c.trans (b_s.mono (by omega)))
  have z0_c := (Array.getElem?_eq_some_iff.1 e_c).1
  have z0_s := (Array.getElem?_eq_some_iff.1 e_s).1
  have le_c : w.heap.size ≤ w.heap.size := by omega
  have le_s : w.heap.size ≤ W1.heap.size := by omega
  clear s_c b_c s_s b_s
  obtain ⟨q0_c_0, q0_c_1, q0_c_2, q0_c_3, q0_c_4, q0_c_5, q0_c_6, q0_c_7, q0_c_8, q0_c_9, q0_c_10⟩ := rc11 e_c
  replace e_c := Lib.hid e_c
  obtain ⟨q0_s_0, q0_s_1, q0_s_2, q0_s_3, q0_s_4, q0_s_5, q0_s_6, q0_s_7⟩ := rc8 e_s
  replace e_s := Lib.hid e_s
  have hgw0 := grow_cell W
  have hK := Lib.hid (fun w => progKnown w)
  have i1 : ¬ (12 : Int) < xs.length := by omega
  have kRC := Lib.hid (fun w => (refCavern c w).mono fun e w' hb => BoolB.lit hb hc)
  clear hl hmc hcap h1
  replace hc := Lib.hid hc
  go_enter Try.func10, Try.ntmps10
  go_wp2_with (first | (go_at_call 17; (with_reducible refine Calls.mono (kRC.out _) ?_); rintro e w1 ⟨rfl, hB⟩; (first | (obtain ⟨g, rfl⟩ := g.next hB) | (obtain ⟨g, rfl⟩ : ∃ g : Grow W, w1 = g.x := ⟨⟨w1, hB⟩, rfl⟩)); clear hB) | (go_at_call 20; (with_reducible refine Calls.mono (hK.out _) ?_); rintro e w1 ⟨rfl, hB⟩; (first | (obtain ⟨g, rfl⟩ := g.next hB) | (obtain ⟨g, rfl⟩ : ∃ g : Grow W, w1 = g.x := ⟨⟨w1, hB⟩, rfl⟩)); clear hB))
  go_ret
  exact ⟨rfl, B0.trans (g.h.mono B0.size)⟩

set_option maxRecDepth 100000 in
set_option maxHeartbeats 16000000 in
theorem lawChains2 (c : Cav) (s : St) (lv : Value) (xs : List Gas.Op) (ft : Int) (w : World) (hl : OpsAt w lv xs) (hfit : Fits lv) (h1 : xs.length ≤ 12) (hc : c.ok = true) (hs : s.ok = false) :
    Calls Try.prog 10 #[cavV c, stV s, lv, .int .i64 ft] w fun e w' => e = .returned (.bool true) ∧ Below w.heap.size w w' := by
  obtain ⟨a, m, cap, rfl, hmc, hcap⟩ := hfit
  have hm : m = xs.length := by obtain ⟨a', c', e, -⟩ := hl; simp only [Value.slice.injEq] at e; exact e.2.1
  subst hm
  unfold maxLen at hcap
  have hm' : xs.length ≤ 9223372036854775807 := by omega
  obtain ⟨W1, hW1⟩ : ∃ W1, w.alloc (.cells #[.int .i64 c.vlo, .int .i64 c.vhi, .int .i64 c.least, .int .i64 c.most, .int .i64 c.f0, .int .i64 c.f1, .int .i64 c.h0, .int .i64 c.h1, .int .i64 c.rock, .int .i64 c.plo, .int .i64 c.phi] 26) = W1 := ⟨_, rfl⟩
  obtain ⟨e_c, b_c, s_c⟩ := boxed hW1
  obtain ⟨W, hW⟩ : ∃ W, W1.alloc (.cells #[.int .i64 s.glo, .int .i64 s.ghi, .int .i64 s.ylo, .int .i64 s.yhi, .int .i64 s.tlo, .int .i64 s.thi, .int .i64 s.wlo, .int .i64 s.whi] 28) = W := ⟨_, rfl⟩
  obtain ⟨e_s, b_s, s_s⟩ := boxed hW
  replace e_c := (b_s.block _ (Array.getElem?_eq_some_iff.1 e_c).1).trans e_c
  have B0 : Below w.heap.size w W := (b_c.trans (b_s.mono (by omega)))
  have z0_c := (Array.getElem?_eq_some_iff.1 e_c).1
  have z0_s := (Array.getElem?_eq_some_iff.1 e_s).1
  have le_c : w.heap.size ≤ w.heap.size := by omega
  have le_s : w.heap.size ≤ W1.heap.size := by omega
  clear s_c b_c s_s b_s
  obtain ⟨q0_c_0, q0_c_1, q0_c_2, q0_c_3, q0_c_4, q0_c_5, q0_c_6, q0_c_7, q0_c_8, q0_c_9, q0_c_10⟩ := rc11 e_c
  replace e_c := Lib.hid e_c
  obtain ⟨q0_s_0, q0_s_1, q0_s_2, q0_s_3, q0_s_4, q0_s_5, q0_s_6, q0_s_7⟩ := rc8 e_s
  replace e_s := Lib.hid e_s
  have hgw0 := grow_cell W
  have hK := Lib.hid (fun w => progKnown w)
  have i1 : ¬ (12 : Int) < xs.length := by omega
  have kRC := Lib.hid (fun w => (refCavern c w).mono fun e w' hb => BoolB.lit hb hc)
  have kRS := Lib.hid (fun w => (refState s w).mono fun e w' hb => BoolB.lit hb hs)
  clear hl hmc hcap h1
  replace hc := Lib.hid hc; replace hs := Lib.hid hs
  go_enter Try.func10, Try.ntmps10
  go_wp2_with (first | (go_at_call 17; (with_reducible refine Calls.mono (kRC.out _) ?_); rintro e w1 ⟨rfl, hB⟩; (first | (obtain ⟨g, rfl⟩ := g.next hB) | (obtain ⟨g, rfl⟩ : ∃ g : Grow W, w1 = g.x := ⟨⟨w1, hB⟩, rfl⟩)); clear hB) | (go_at_call 18; (with_reducible refine Calls.mono (kRS.out _) ?_); rintro e w1 ⟨rfl, hB⟩; (first | (obtain ⟨g, rfl⟩ := g.next hB) | (obtain ⟨g, rfl⟩ : ∃ g : Grow W, w1 = g.x := ⟨⟨w1, hB⟩, rfl⟩)); clear hB) | (go_at_call 20; (with_reducible refine Calls.mono (hK.out _) ?_); rintro e w1 ⟨rfl, hB⟩; (first | (obtain ⟨g, rfl⟩ := g.next hB) | (obtain ⟨g, rfl⟩ : ∃ g : Grow W, w1 = g.x := ⟨⟨w1, hB⟩, rfl⟩)); clear hB))
  go_ret
  exact ⟨rfl, B0.trans (g.h.mono B0.size)⟩

set_option maxRecDepth 100000 in
set_option maxHeartbeats 16000000 in
theorem lawChains3 (c : Cav) (s : St) (lv : Value) (xs : List Gas.Op) (ft : Int) (w : World) (hl : OpsAt w lv xs) (hfit : Fits lv) (h1 : xs.length ≤ 12) (hc : c.ok = true) (hs : s.ok = true) (ho : opsB xs = false) :
    Calls Try.prog 10 #[cavV c, stV s, lv, .int .i64 ft] w fun e w' => e = .returned (.bool true) ∧ Below w.heap.size w w' := by
  obtain ⟨a, m, cap, rfl, hmc, hcap⟩ := hfit
  have hm : m = xs.length := by obtain ⟨a', c', e, -⟩ := hl; simp only [Value.slice.injEq] at e; exact e.2.1
  subst hm
  unfold maxLen at hcap
  have hm' : xs.length ≤ 9223372036854775807 := by omega
  obtain ⟨W1, hW1⟩ : ∃ W1, w.alloc (.cells #[.int .i64 c.vlo, .int .i64 c.vhi, .int .i64 c.least, .int .i64 c.most, .int .i64 c.f0, .int .i64 c.f1, .int .i64 c.h0, .int .i64 c.h1, .int .i64 c.rock, .int .i64 c.plo, .int .i64 c.phi] 26) = W1 := ⟨_, rfl⟩
  obtain ⟨e_c, b_c, s_c⟩ := boxed hW1
  obtain ⟨W, hW⟩ : ∃ W, W1.alloc (.cells #[.int .i64 s.glo, .int .i64 s.ghi, .int .i64 s.ylo, .int .i64 s.yhi, .int .i64 s.tlo, .int .i64 s.thi, .int .i64 s.wlo, .int .i64 s.whi] 28) = W := ⟨_, rfl⟩
  obtain ⟨e_s, b_s, s_s⟩ := boxed hW
  replace e_c := (b_s.block _ (Array.getElem?_eq_some_iff.1 e_c).1).trans e_c
  have B0 : Below w.heap.size w W := (b_c.trans (b_s.mono (by omega)))
  have z0_c := (Array.getElem?_eq_some_iff.1 e_c).1
  have z0_s := (Array.getElem?_eq_some_iff.1 e_s).1
  have le_c : w.heap.size ≤ w.heap.size := by omega
  have le_s : w.heap.size ≤ W1.heap.size := by omega
  clear s_c b_c s_s b_s
  obtain ⟨q0_c_0, q0_c_1, q0_c_2, q0_c_3, q0_c_4, q0_c_5, q0_c_6, q0_c_7, q0_c_8, q0_c_9, q0_c_10⟩ := rc11 e_c
  replace e_c := Lib.hid e_c
  obtain ⟨q0_s_0, q0_s_1, q0_s_2, q0_s_3, q0_s_4, q0_s_5, q0_s_6, q0_s_7⟩ := rc8 e_s
  replace e_s := Lib.hid e_s
  have hgw0 := grow_cell W
  have hK := Lib.hid (fun w => progKnown w)
  have i1 : ¬ (12 : Int) < xs.length := by omega
  have kRC := Lib.hid (fun w => (refCavern c w).mono fun e w' hb => BoolB.lit hb hc)
  have kRS := Lib.hid (fun w => (refState s w).mono fun e w' hb => BoolB.lit hb hs)
  have kRO : Hid (∀ w', Below w.heap.size w w' → Calls Try.prog 26 #[.slice a xs.length cap] w' fun e w'' => e = .returned (.bool false) ∧ Below w'.heap.size w' w'') := Lib.hid (fun w' hb => by have h0 := refOps _ xs w' (hl.mono hb); rw [ho] at h0; exact h0)
  clear hl hmc hcap h1
  replace hc := Lib.hid hc; replace hs := Lib.hid hs; replace ho := Lib.hid ho
  go_enter Try.func10, Try.ntmps10
  go_wp2_with (first | (go_at_call 17; (with_reducible refine Calls.mono (kRC.out _) ?_); rintro e w1 ⟨rfl, hB⟩; (first | (obtain ⟨g, rfl⟩ := g.next hB) | (obtain ⟨g, rfl⟩ : ∃ g : Grow W, w1 = g.x := ⟨⟨w1, hB⟩, rfl⟩)); clear hB) | (go_at_call 18; (with_reducible refine Calls.mono (kRS.out _) ?_); rintro e w1 ⟨rfl, hB⟩; (first | (obtain ⟨g, rfl⟩ := g.next hB) | (obtain ⟨g, rfl⟩ : ∃ g : Grow W, w1 = g.x := ⟨⟨w1, hB⟩, rfl⟩)); clear hB) | (go_at_call 26; (with_reducible refine Calls.mono (kRO.out _ (by first | (with_reducible exact B0.trans (g.h.mono B0.size)) | (with_reducible exact B0))) ?_); rintro e w1 ⟨rfl, hB⟩; (first | (obtain ⟨g, rfl⟩ := g.next hB) | (obtain ⟨g, rfl⟩ : ∃ g : Grow W, w1 = g.x := ⟨⟨w1, hB⟩, rfl⟩)); clear hB) | (go_at_call 20; (with_reducible refine Calls.mono (hK.out _) ?_); rintro e w1 ⟨rfl, hB⟩; (first | (obtain ⟨g, rfl⟩ := g.next hB) | (obtain ⟨g, rfl⟩ : ∃ g : Grow W, w1 = g.x := ⟨⟨w1, hB⟩, rfl⟩)); clear hB))
  go_ret
  exact ⟨rfl, B0.trans (g.h.mono B0.size)⟩

set_option maxRecDepth 100000 in
set_option maxHeartbeats 16000000 in
theorem lawChains4 (c : Cav) (s : St) (lv : Value) (xs : List Gas.Op) (ft : Int) (w : World) (hl : OpsAt w lv xs) (hfit : Fits lv) (h1 : xs.length ≤ 12) (hc : c.ok = true) (hs : s.ok = true) (ho : opsB xs = true) (hf0 : ¬ 0 ≤ ft) :
    Calls Try.prog 10 #[cavV c, stV s, lv, .int .i64 ft] w fun e w' => e = .returned (.bool true) ∧ Below w.heap.size w w' := by
  obtain ⟨a, m, cap, rfl, hmc, hcap⟩ := hfit
  have hm : m = xs.length := by obtain ⟨a', c', e, -⟩ := hl; simp only [Value.slice.injEq] at e; exact e.2.1
  subst hm
  unfold maxLen at hcap
  have hm' : xs.length ≤ 9223372036854775807 := by omega
  obtain ⟨W1, hW1⟩ : ∃ W1, w.alloc (.cells #[.int .i64 c.vlo, .int .i64 c.vhi, .int .i64 c.least, .int .i64 c.most, .int .i64 c.f0, .int .i64 c.f1, .int .i64 c.h0, .int .i64 c.h1, .int .i64 c.rock, .int .i64 c.plo, .int .i64 c.phi] 26) = W1 := ⟨_, rfl⟩
  obtain ⟨e_c, b_c, s_c⟩ := boxed hW1
  obtain ⟨W, hW⟩ : ∃ W, W1.alloc (.cells #[.int .i64 s.glo, .int .i64 s.ghi, .int .i64 s.ylo, .int .i64 s.yhi, .int .i64 s.tlo, .int .i64 s.thi, .int .i64 s.wlo, .int .i64 s.whi] 28) = W := ⟨_, rfl⟩
  obtain ⟨e_s, b_s, s_s⟩ := boxed hW
  replace e_c := (b_s.block _ (Array.getElem?_eq_some_iff.1 e_c).1).trans e_c
  have B0 : Below w.heap.size w W := (b_c.trans (b_s.mono (by omega)))
  have z0_c := (Array.getElem?_eq_some_iff.1 e_c).1
  have z0_s := (Array.getElem?_eq_some_iff.1 e_s).1
  have le_c : w.heap.size ≤ w.heap.size := by omega
  have le_s : w.heap.size ≤ W1.heap.size := by omega
  clear s_c b_c s_s b_s
  obtain ⟨q0_c_0, q0_c_1, q0_c_2, q0_c_3, q0_c_4, q0_c_5, q0_c_6, q0_c_7, q0_c_8, q0_c_9, q0_c_10⟩ := rc11 e_c
  replace e_c := Lib.hid e_c
  obtain ⟨q0_s_0, q0_s_1, q0_s_2, q0_s_3, q0_s_4, q0_s_5, q0_s_6, q0_s_7⟩ := rc8 e_s
  replace e_s := Lib.hid e_s
  have hgw0 := grow_cell W
  have hK := Lib.hid (fun w => progKnown w)
  have i1 : ¬ (12 : Int) < xs.length := by omega
  have kRC := Lib.hid (fun w => (refCavern c w).mono fun e w' hb => BoolB.lit hb hc)
  have kRS := Lib.hid (fun w => (refState s w).mono fun e w' hb => BoolB.lit hb hs)
  have kRO : Hid (∀ w', Below w.heap.size w w' → Calls Try.prog 26 #[.slice a xs.length cap] w' fun e w'' => e = .returned (.bool true) ∧ Below w'.heap.size w' w'') := Lib.hid (fun w' hb => by have h0 := refOps _ xs w' (hl.mono hb); rw [ho] at h0; exact h0)
  have i2 : ft < 0 := by omega
  clear hl hmc hcap h1 hf0
  replace hc := Lib.hid hc; replace hs := Lib.hid hs; replace ho := Lib.hid ho
  go_enter Try.func10, Try.ntmps10
  go_wp2_with (first | (go_at_call 17; (with_reducible refine Calls.mono (kRC.out _) ?_); rintro e w1 ⟨rfl, hB⟩; (first | (obtain ⟨g, rfl⟩ := g.next hB) | (obtain ⟨g, rfl⟩ : ∃ g : Grow W, w1 = g.x := ⟨⟨w1, hB⟩, rfl⟩)); clear hB) | (go_at_call 18; (with_reducible refine Calls.mono (kRS.out _) ?_); rintro e w1 ⟨rfl, hB⟩; (first | (obtain ⟨g, rfl⟩ := g.next hB) | (obtain ⟨g, rfl⟩ : ∃ g : Grow W, w1 = g.x := ⟨⟨w1, hB⟩, rfl⟩)); clear hB) | (go_at_call 26; (with_reducible refine Calls.mono (kRO.out _ (by first | (with_reducible exact B0.trans (g.h.mono B0.size)) | (with_reducible exact B0))) ?_); rintro e w1 ⟨rfl, hB⟩; (first | (obtain ⟨g, rfl⟩ := g.next hB) | (obtain ⟨g, rfl⟩ : ∃ g : Grow W, w1 = g.x := ⟨⟨w1, hB⟩, rfl⟩)); clear hB) | (go_at_call 20; (with_reducible refine Calls.mono (hK.out _) ?_); rintro e w1 ⟨rfl, hB⟩; (first | (obtain ⟨g, rfl⟩ := g.next hB) | (obtain ⟨g, rfl⟩ : ∃ g : Grow W, w1 = g.x := ⟨⟨w1, hB⟩, rfl⟩)); clear hB))
  go_ret
  exact ⟨rfl, B0.trans (g.h.mono B0.size)⟩

set_option maxRecDepth 100000 in
set_option maxHeartbeats 16000000 in
theorem lawChains5 (c : Cav) (s : St) (lv : Value) (xs : List Gas.Op) (ft : Int) (w : World) (hl : OpsAt w lv xs) (hfit : Fits lv) (h1 : xs.length ≤ 12) (hc : c.ok = true) (hs : s.ok = true) (ho : opsB xs = true) (hf0 : 0 ≤ ft) (hfn : ¬ ft ≤ (xs.length : Int)) :
    Calls Try.prog 10 #[cavV c, stV s, lv, .int .i64 ft] w fun e w' => e = .returned (.bool true) ∧ Below w.heap.size w w' := by
  obtain ⟨a, m, cap, rfl, hmc, hcap⟩ := hfit
  have hm : m = xs.length := by obtain ⟨a', c', e, -⟩ := hl; simp only [Value.slice.injEq] at e; exact e.2.1
  subst hm
  unfold maxLen at hcap
  have hm' : xs.length ≤ 9223372036854775807 := by omega
  obtain ⟨W1, hW1⟩ : ∃ W1, w.alloc (.cells #[.int .i64 c.vlo, .int .i64 c.vhi, .int .i64 c.least, .int .i64 c.most, .int .i64 c.f0, .int .i64 c.f1, .int .i64 c.h0, .int .i64 c.h1, .int .i64 c.rock, .int .i64 c.plo, .int .i64 c.phi] 26) = W1 := ⟨_, rfl⟩
  obtain ⟨e_c, b_c, s_c⟩ := boxed hW1
  obtain ⟨W, hW⟩ : ∃ W, W1.alloc (.cells #[.int .i64 s.glo, .int .i64 s.ghi, .int .i64 s.ylo, .int .i64 s.yhi, .int .i64 s.tlo, .int .i64 s.thi, .int .i64 s.wlo, .int .i64 s.whi] 28) = W := ⟨_, rfl⟩
  obtain ⟨e_s, b_s, s_s⟩ := boxed hW
  replace e_c := (b_s.block _ (Array.getElem?_eq_some_iff.1 e_c).1).trans e_c
  have B0 : Below w.heap.size w W := (b_c.trans (b_s.mono (by omega)))
  have z0_c := (Array.getElem?_eq_some_iff.1 e_c).1
  have z0_s := (Array.getElem?_eq_some_iff.1 e_s).1
  have le_c : w.heap.size ≤ w.heap.size := by omega
  have le_s : w.heap.size ≤ W1.heap.size := by omega
  clear s_c b_c s_s b_s
  obtain ⟨q0_c_0, q0_c_1, q0_c_2, q0_c_3, q0_c_4, q0_c_5, q0_c_6, q0_c_7, q0_c_8, q0_c_9, q0_c_10⟩ := rc11 e_c
  replace e_c := Lib.hid e_c
  obtain ⟨q0_s_0, q0_s_1, q0_s_2, q0_s_3, q0_s_4, q0_s_5, q0_s_6, q0_s_7⟩ := rc8 e_s
  replace e_s := Lib.hid e_s
  have hgw0 := grow_cell W
  have hK := Lib.hid (fun w => progKnown w)
  have i1 : ¬ (12 : Int) < xs.length := by omega
  have kRC := Lib.hid (fun w => (refCavern c w).mono fun e w' hb => BoolB.lit hb hc)
  have kRS := Lib.hid (fun w => (refState s w).mono fun e w' hb => BoolB.lit hb hs)
  have kRO : Hid (∀ w', Below w.heap.size w w' → Calls Try.prog 26 #[.slice a xs.length cap] w' fun e w'' => e = .returned (.bool true) ∧ Below w'.heap.size w' w'') := Lib.hid (fun w' hb => by have h0 := refOps _ xs w' (hl.mono hb); rw [ho] at h0; exact h0)
  have i2 : ¬ ft < 0 := by omega
  have i3 : (xs.length : Int) < ft := by omega
  clear hl hmc hcap h1 hf0 hfn
  replace hc := Lib.hid hc; replace hs := Lib.hid hs; replace ho := Lib.hid ho
  go_enter Try.func10, Try.ntmps10
  go_wp2_with (first | (go_at_call 17; (with_reducible refine Calls.mono (kRC.out _) ?_); rintro e w1 ⟨rfl, hB⟩; (first | (obtain ⟨g, rfl⟩ := g.next hB) | (obtain ⟨g, rfl⟩ : ∃ g : Grow W, w1 = g.x := ⟨⟨w1, hB⟩, rfl⟩)); clear hB) | (go_at_call 18; (with_reducible refine Calls.mono (kRS.out _) ?_); rintro e w1 ⟨rfl, hB⟩; (first | (obtain ⟨g, rfl⟩ := g.next hB) | (obtain ⟨g, rfl⟩ : ∃ g : Grow W, w1 = g.x := ⟨⟨w1, hB⟩, rfl⟩)); clear hB) | (go_at_call 26; (with_reducible refine Calls.mono (kRO.out _ (by first | (with_reducible exact B0.trans (g.h.mono B0.size)) | (with_reducible exact B0))) ?_); rintro e w1 ⟨rfl, hB⟩; (first | (obtain ⟨g, rfl⟩ := g.next hB) | (obtain ⟨g, rfl⟩ : ∃ g : Grow W, w1 = g.x := ⟨⟨w1, hB⟩, rfl⟩)); clear hB) | (go_at_call 20; (with_reducible refine Calls.mono (hK.out _) ?_); rintro e w1 ⟨rfl, hB⟩; (first | (obtain ⟨g, rfl⟩ := g.next hB) | (obtain ⟨g, rfl⟩ : ∃ g : Grow W, w1 = g.x := ⟨⟨w1, hB⟩, rfl⟩)); clear hB))
  go_ret
  exact ⟨rfl, B0.trans (g.h.mono B0.size)⟩

theorem ops_take_ok {l : List Gas.Op} {f : Nat} (h : opsB l = true) : opsB (l.take f) = true := by
  unfold opsB at *
  rw [List.all_eq_true] at *
  exact fun x hx => h x (List.mem_of_mem_take hx)
theorem ops_drop_ok {l : List Gas.Op} {f : Nat} (h : opsB l = true) : opsB (l.drop f) = true := by
  unfold opsB at *
  rw [List.all_eq_true] at *
  exact fun x hx => h x (List.mem_of_mem_drop hx)
set_option maxRecDepth 100000 in
set_option maxHeartbeats 16000000 in
theorem lawChains6 (c : Cav) (s : St) (lv : Value) (xs : List Gas.Op) (f : Nat) (w : World) (hl : OpsAt w lv xs) (hfit : Fits lv) (h1 : xs.length ≤ 12) (hc : c.ok = true) (hs : s.ok = true) (ho : opsB xs = true) (hfx : f ≤ xs.length) :
    Calls Try.prog 10 #[cavV c, stV s, lv, .int .i64 f] w fun e w' => e = .returned (.bool true) ∧ Below w.heap.size w w' := by
  obtain ⟨a, m, cap, rfl, hmc, hcap⟩ := hfit
  have hm : m = xs.length := by obtain ⟨a', c', e, -⟩ := hl; simp only [Value.slice.injEq] at e; exact e.2.1
  subst hm
  unfold maxLen at hcap
  have hm' : xs.length ≤ 9223372036854775807 := by omega
  obtain ⟨W1, hW1⟩ : ∃ W1, w.alloc (.cells #[.int .i64 c.vlo, .int .i64 c.vhi, .int .i64 c.least, .int .i64 c.most, .int .i64 c.f0, .int .i64 c.f1, .int .i64 c.h0, .int .i64 c.h1, .int .i64 c.rock, .int .i64 c.plo, .int .i64 c.phi] 26) = W1 := ⟨_, rfl⟩
  obtain ⟨e_c, b_c, s_c⟩ := boxed hW1
  obtain ⟨W, hW⟩ : ∃ W, W1.alloc (.cells #[.int .i64 s.glo, .int .i64 s.ghi, .int .i64 s.ylo, .int .i64 s.yhi, .int .i64 s.tlo, .int .i64 s.thi, .int .i64 s.wlo, .int .i64 s.whi] 28) = W := ⟨_, rfl⟩
  obtain ⟨e_s, b_s, s_s⟩ := boxed hW
  replace e_c := (b_s.block _ (Array.getElem?_eq_some_iff.1 e_c).1).trans e_c
  have B0 : Below w.heap.size w W := (b_c.trans (b_s.mono (by omega)))
  have z0_c := (Array.getElem?_eq_some_iff.1 e_c).1
  have z0_s := (Array.getElem?_eq_some_iff.1 e_s).1
  have ne_c_s : (w.heap.size : Nat) ≠ W1.heap.size := by omega
  have le_c : w.heap.size ≤ w.heap.size := by omega
  have ne_s_c : (W1.heap.size : Nat) ≠ w.heap.size := by omega
  have le_s : w.heap.size ≤ W1.heap.size := by omega
  clear s_c b_c s_s b_s
  obtain ⟨q0_c_0, q0_c_1, q0_c_2, q0_c_3, q0_c_4, q0_c_5, q0_c_6, q0_c_7, q0_c_8, q0_c_9, q0_c_10⟩ := rc11 e_c
  replace e_c := Lib.hid e_c
  obtain ⟨q0_s_0, q0_s_1, q0_s_2, q0_s_3, q0_s_4, q0_s_5, q0_s_6, q0_s_7⟩ := rc8 e_s
  obtain ⟨f0_s_0, f0_s_1, f0_s_2, f0_s_3, f0_s_4, f0_s_5, f0_s_6, f0_s_7⟩ := rf8 e_s
  replace e_s := Lib.hid e_s
  have hgw0 := grow_cell W
  have hK := Lib.hid (fun w => progKnown w)
  have hc' := Cav.ok_iff.1 hc; have hs' := St.ok_iff.1 hs
  obtain ⟨A1, A2, hA, hcase⟩ := steps_parts c xs s f hfx
  obtain ⟨⟨R1, R2⟩, hR⟩ : ∃ R, steps c s xs = R := ⟨_, rfl⟩
  rw [hR] at hcase
  have hot : opsB (xs.take f) = true := ops_take_ok ho
  have hod : opsB (xs.drop f) = true := ops_drop_ok ho
  have kS : Hid (∀ w', Below w.heap.size w w' → W.heap.size ≤ w'.heap.size → Calls Try.prog 31 #[cavV c, stV s, .slice a xs.length cap] w' fun e w'' => (∃ v, e = .returned (.tuple #[v, .int .i64 R2, .int .i64 0]) ∧ OwnSts W.heap.size w'' v R1) ∧ Below w'.heap.size w' w'') := Lib.hid (fun w' hb hz => by have := progStepsOwn w' (hl.mono hb) hc' hs' ho (by first | omega | (simp; omega)); rw [hR] at this; exact this.mono fun e w'' ⟨⟨v, h1, h2⟩, h3⟩ => ⟨⟨v, h1, h2.from hz⟩, h3⟩)
  have kA : Hid (∀ w', Below w.heap.size w w' → W.heap.size ≤ w'.heap.size → Calls Try.prog 31 #[cavV c, stV s, .slice a f cap] w' fun e w'' => (∃ v, e = .returned (.tuple #[v, .int .i64 A2, .int .i64 0]) ∧ OwnSts W.heap.size w'' v A1) ∧ Below w'.heap.size w' w'') := Lib.hid (fun w' hb hz => by have := progStepsOwn w' ((ops_take hl f hfx).mono hb) hc' hs' hot (by first | omega | (simp; omega)); rw [hA] at this; exact this.mono fun e w'' ⟨⟨v, h1, h2⟩, h3⟩ => ⟨⟨v, h1, h2.from hz⟩, h3⟩)
  have hdr := Lib.hid (ops_drop hl f hfx hmc)
  have i1 : ¬ (12 : Int) < xs.length := by omega
  have i2 : ¬ (f : Int) < 0 := by omega
  have i3 : ¬ (xs.length : Int) < (f : Int) := by omega
  have i4 : (f : Int) ≤ cap := by omega
  have i5 : (f : Int) ≤ xs.length := by omega
  have kRC := Lib.hid (fun w => (refCavern c w).mono fun e w' hb => BoolB.lit hb hc)
  have kRS := Lib.hid (fun w => (refState s w).mono fun e w' hb => BoolB.lit hb hs)
  have kRO : Hid (∀ w', Below w.heap.size w w' → Calls Try.prog 26 #[.slice a xs.length cap] w' fun e w'' => e = .returned (.bool true) ∧ Below w'.heap.size w' w'') := Lib.hid (fun w' hb => by have h0 := refOps _ xs w' (hl.mono hb); rw [ho] at h0; exact h0)
  replace hc := Lib.hid hc; replace hs := Lib.hid hs; replace ho := Lib.hid ho; replace hl := Lib.hid hl; replace hR := Lib.hid hR; replace hA := Lib.hid hA; replace hcase := Lib.hid hcase; replace hot := Lib.hid hot; replace hod := Lib.hid hod; replace hc' := Lib.hid hc'; replace hs' := Lib.hid hs'
  go_enter Try.func10, Try.ntmps10
  go_wp2_with (first | (go_at_call 17; (with_reducible refine Calls.mono (kRC.out _) ?_); rintro e w1 ⟨rfl, hB⟩; (first | (obtain ⟨g, rfl⟩ := g.next hB) | (obtain ⟨g, rfl⟩ : ∃ g : Grow W, w1 = g.x := ⟨⟨w1, hB⟩, rfl⟩)); clear hB) | (go_at_call 18; (with_reducible refine Calls.mono (kRS.out _) ?_); rintro e w1 ⟨rfl, hB⟩; (first | (obtain ⟨g, rfl⟩ := g.next hB) | (obtain ⟨g, rfl⟩ : ∃ g : Grow W, w1 = g.x := ⟨⟨w1, hB⟩, rfl⟩)); clear hB) | (go_at_call 26; (with_reducible refine Calls.mono (kRO.out _ (by first | (with_reducible exact B0.trans (g.h.mono B0.size)) | (with_reducible exact B0))) ?_); rintro e w1 ⟨rfl, hB⟩; (first | (obtain ⟨g, rfl⟩ := g.next hB) | (obtain ⟨g, rfl⟩ : ∃ g : Grow W, w1 = g.x := ⟨⟨w1, hB⟩, rfl⟩)); clear hB) | (go_at_call 31; (with_reducible refine Calls.mono (kS.out _ (by first | (with_reducible exact B0.trans (g.h.mono B0.size)) | (with_reducible exact B0)) g.h.size) ?_); rintro e w1 ⟨⟨v1, rfl, hat1⟩, hB⟩; (first | (obtain ⟨g, rfl⟩ := g.next hB) | (obtain ⟨g, rfl⟩ : ∃ g : Grow W, w1 = g.x := ⟨⟨w1, hB⟩, rfl⟩)); clear hB))
  have g0 := g.h.size
  clear q0_c_0 q0_c_1 q0_c_2 q0_c_3 q0_c_4 q0_c_5 q0_c_6 q0_c_7 q0_c_8 q0_c_9 q0_c_10 q0_s_0 f0_s_0 q0_s_1 f0_s_1 q0_s_2 f0_s_2 q0_s_3 f0_s_3 q0_s_4 f0_s_4 q0_s_5 f0_s_5 q0_s_6 f0_s_6 q0_s_7 f0_s_7
  clear hgw0
  obtain ⟨N1, hN1⟩ : ∃ V, g.x = V := ⟨_, rfl⟩
  have A_c : N1.heap[w.heap.size]? = some (.cells #[.int .i64 c.vlo, .int .i64 c.vhi, .int .i64 c.least, .int .i64 c.most, .int .i64 c.f0, .int .i64 c.f1, .int .i64 c.h0, .int .i64 c.h1, .int .i64 c.rock, .int .i64 c.plo, .int .i64 c.phi] 26 (0, 0)) := by rw [← hN1]; exact (g.h.block _ z0_c).trans e_c.out
  have A_s : N1.heap[W1.heap.size]? = some (.cells #[.int .i64 s.glo, .int .i64 s.ghi, .int .i64 s.ylo, .int .i64 s.yhi, .int .i64 s.tlo, .int .i64 s.thi, .int .i64 s.wlo, .int .i64 s.whi] 28 (0, 0)) := by rw [← hN1]; exact (g.h.block _ z0_s).trans e_s.out
  have B1 : Below w.heap.size w N1 := by rw [← hN1]; exact B0.trans (g.h.mono B0.size)
  rw [hN1] at hat1
  rw [hN1] at g0
  rw [hN1]
  clear hN1
  have z1_c := (Array.getElem?_eq_some_iff.1 A_c).1
  have z1_s := (Array.getElem?_eq_some_iff.1 A_s).1
  obtain ⟨q1_c_0, q1_c_1, q1_c_2, q1_c_3, q1_c_4, q1_c_5, q1_c_6, q1_c_7, q1_c_8, q1_c_9, q1_c_10⟩ := rc11 A_c
  have R1_c := Lib.hid A_c
  clear A_c
  obtain ⟨q1_s_0, q1_s_1, q1_s_2, q1_s_3, q1_s_4, q1_s_5, q1_s_6, q1_s_7⟩ := rc8 A_s
  have R1_s := Lib.hid A_s
  clear A_s
  have hgw1 := grow_cell N1
  replace g0 := Lib.hid g0
  clear q1_c_0 q1_c_1 q1_c_2 q1_c_3 q1_c_4 q1_c_5 q1_c_6 q1_c_7 q1_c_8 q1_c_9 q1_c_10 q1_s_0 q1_s_1 q1_s_2 q1_s_3 q1_s_4 q1_s_5 q1_s_6 q1_s_7
  clear hgw1
  refine wp_region_noPanic ?_
  refine wp_region_locN 10 135 [8, 9] [56, 57, 58, 59, 60, 61, 55, 62, 63, 64] [[], [], [], [], [2, 3], [0, 1, 4], [5], [6], [6], [6]] [IsV (cavV c), IsV (stV s), IsV (.slice a xs.length cap), IsV (.int .i64 f), IsV (.slice a f cap), TupSts W.heap.size A1 A2, TupSts W.heap.size A1 A2, StsIs W.heap.size A1, IsV (.int .i64 A2), IsV (.int .i64 0)] [] (by kernel_rfl) (by kernel_rfl) (by kernel_rfl) (by kernel_rfl) (by kernel_rfl) (by kernel_rfl) rfl (fun _ _ _ _ h => h) ?_ ?_ ?_ ?_ ?_
  · exact List.forall_mem_cons.2 ⟨pers_v _, List.forall_mem_cons.2 ⟨pers_v _, List.forall_mem_cons.2 ⟨pers_v _, List.forall_mem_cons.2 ⟨pers_v _, List.forall_mem_cons.2 ⟨pers_v _, List.forall_mem_cons.2 ⟨pers_tup _ _ _, List.forall_mem_cons.2 ⟨pers_tup _ _ _, List.forall_mem_cons.2 ⟨pers_sts _ _, List.forall_mem_cons.2 ⟨pers_v _, List.forall_mem_cons.2 ⟨pers_v _, fun f h => by cases h⟩⟩⟩⟩⟩⟩⟩⟩⟩⟩
  · intro k hk; cases hk
  · refine ⟨?_, ?_, ?_, ?_, ?_, ?_, ?_, ?_, ?_, ?_, trivial⟩
    · intro vals x hb hf
      simp only [fillS, List.getD_cons_succ, List.getD_cons_zero, Act.put, List.setIfInBounds_toArray, List.set_cons_zero, List.set_cons_succ]
      have ar := (hb.block _ z1_c).trans R1_c.out
      obtain ⟨y0, y1, y2, y3, y4, y5, y6, y7, y8, y9, y10⟩ := rc11 ar
      clear ar
      go_wp2
      exact ⟨rfl, rfl, Below.refl _ _, _, rfl, rfl, (fun h => absurd h (by decide))⟩
    · intro vals x hb hf
      simp only [fillS, List.getD_cons_succ, List.getD_cons_zero, Act.put, List.setIfInBounds_toArray, List.set_cons_zero, List.set_cons_succ]
      have ar := (hb.block _ z1_s).trans R1_s.out
      obtain ⟨y0, y1, y2, y3, y4, y5, y6, y7⟩ := rc8 ar
      clear ar
      go_wp2
      exact ⟨rfl, rfl, Below.refl _ _, _, rfl, rfl, (fun h => absurd h (by decide))⟩
    · intro vals x hb hf
      simp only [fillS, List.getD_cons_succ, List.getD_cons_zero, Act.put, List.setIfInBounds_toArray, List.set_cons_zero, List.set_cons_succ]
      skip
      go_wp2
      exact ⟨rfl, rfl, Below.refl _ _, _, rfl, rfl, (fun h => absurd h (by decide))⟩
    · intro vals x hb hf
      simp only [fillS, List.getD_cons_succ, List.getD_cons_zero, Act.put, List.setIfInBounds_toArray, List.set_cons_zero, List.set_cons_succ]
      skip
      go_wp2
      exact ⟨rfl, rfl, Below.refl _ _, _, rfl, rfl, (fun h => absurd h (by decide))⟩
    · intro vals x hb hf
      simp only [fillS, List.getD_cons_succ, List.getD_cons_zero, Act.put, List.setIfInBounds_toArray, List.set_cons_zero, List.set_cons_succ]
      have h2 : vals 2 = .slice a xs.length cap := hf.1
      rw [h2]
      have h3 : vals 3 = .int .i64 f := hf.2.1
      rw [h3]
      go_wp2
      exact ⟨rfl, rfl, Below.refl _ _, _, rfl, by first | rfl | simp [IsV, RL, sliced], (fun h => absurd h (by decide))⟩
    · intro vals x hb hf
      simp only [fillS, List.getD_cons_succ, List.getD_cons_zero, Act.put, List.setIfInBounds_toArray, List.set_cons_zero, List.set_cons_succ]
      have h0 : vals 0 = cavV c := hf.1
      rw [h0]
      have h1 : vals 1 = stV s := hf.2.1
      rw [h1]
      have h4 : vals 4 = .slice a f cap := hf.2.2.1
      rw [h4]
      have hbx : Below w.heap.size w x := B1.trans (hb.mono B1.size)
      go_wp2_with (go_at_call 31; (with_reducible refine Calls.mono (kA.out _ hbx (Nat.le_trans g0.out hb.size)) ?_); rintro e y ⟨⟨sv, rfl, hat⟩, hB⟩)
      exact ⟨rfl, rfl, hB, _, rfl, ⟨_, rfl, hat⟩, (fun h => absurd h (by decide))⟩
    · intro vals x hb hf
      simp only [fillS, List.getD_cons_succ, List.getD_cons_zero, Act.put, List.setIfInBounds_toArray, List.set_cons_zero, List.set_cons_succ]
      have h5 : (TupSts W.heap.size A1 A2) (vals 5) x := hf.1
      obtain ⟨sv, h5, hat⟩ := h5
      rw [h5]
      go_wp2
      exact ⟨rfl, rfl, Below.refl _ _, _, rfl, ⟨_, rfl, hat⟩, (fun h => absurd h (by decide))⟩
    · intro vals x hb hf
      simp only [fillS, List.getD_cons_succ, List.getD_cons_zero, Act.put, List.setIfInBounds_toArray, List.set_cons_zero, List.set_cons_succ]
      have h6 : (TupSts W.heap.size A1 A2) (vals 6) x := hf.1
      obtain ⟨sv, h6, hat⟩ := h6
      rw [h6]
      go_wp2
      exact ⟨rfl, rfl, Below.refl _ _, _, rfl, hat, (fun h => absurd h (by decide))⟩
    · intro vals x hb hf
      simp only [fillS, List.getD_cons_succ, List.getD_cons_zero, Act.put, List.setIfInBounds_toArray, List.set_cons_zero, List.set_cons_succ]
      have h6 : (TupSts W.heap.size A1 A2) (vals 6) x := hf.1
      obtain ⟨sv, h6, hat⟩ := h6
      rw [h6]
      go_wp2
      exact ⟨rfl, rfl, Below.refl _ _, _, rfl, rfl, (fun h => absurd h (by decide))⟩
    · intro vals x hb hf
      simp only [fillS, List.getD_cons_succ, List.getD_cons_zero, Act.put, List.setIfInBounds_toArray, List.set_cons_zero, List.set_cons_succ]
      have h6 : (TupSts W.heap.size A1 A2) (vals 6) x := hf.1
      obtain ⟨sv, h6, hat⟩ := h6
      rw [h6]
      go_wp2
      exact ⟨rfl, rfl, Below.refl _ _, _, rfl, rfl, (fun h => absurd h (by decide))⟩
  · intro j hj o ho vals x hb hf
    rcases List.mem_cons.1 hj with rfl | hj
    · obtain rfl := Option.some.inj ho
      simp only [fillS, List.getD_cons_succ, List.getD_cons_zero, Act.put, List.setIfInBounds_toArray, List.set_cons_zero, List.set_cons_succ]
      have h6 : (TupSts W.heap.size A1 A2) (vals 6) x := hf.1
      obtain ⟨sv, h6, hat⟩ := h6
      rw [h6]
      exact ⟨_, .inl ⟨rfl, fun w => rfl⟩, rfl, (fun h => absurd h (by decide))⟩
    · obtain rfl : j = 9 := by simpa using hj
      obtain rfl := Option.some.inj ho
      simp only [fillS, List.getD_cons_succ, List.getD_cons_zero, Act.put, List.setIfInBounds_toArray, List.set_cons_zero, List.set_cons_succ]
      have h6 : (TupSts W.heap.size A1 A2) (vals 6) x := hf.1
      obtain ⟨sv, h6, hat⟩ := h6
      rw [h6]
      exact ⟨_, .inl ⟨rfl, fun w => rfl⟩, rfl, (fun h => absurd h (by decide))⟩
  · intro vals x hb hf hp
    have hrange : List.range 10 = [0, 1, 2, 3, 4, 5, 6, 7, 8, 9] := by rfl
    rw [hrange]
    simp only [fillS, List.getD_cons_succ, List.getD_cons_zero, Act.put, List.setIfInBounds_toArray, List.set_cons_zero, List.set_cons_succ]
    have h0 : vals 0 = cavV c := hf 0 (by omega)
    have h1 : vals 1 = stV s := hf 1 (by omega)
    have h2 : vals 2 = .slice a xs.length cap := hf 2 (by omega)
    have h3 : vals 3 = .int .i64 f := hf 3 (by omega)
    have h4 : vals 4 = .slice a f cap := hf 4 (by omega)
    have h8 : vals 8 = .int .i64 A2 := hf 8 (by omega)
    have h9 : vals 9 = .int .i64 0 := hf 9 (by omega)
    have hat2 : OwnSts W.heap.size x (vals 7) A1 := hf 7 (by omega)
    replace g0 := Lib.hid (Nat.le_trans g0.out hb.size)
    replace hat1 := hat1.mono hb
    rw [h0, h1, h2, h3, h4, h8, h9]
    clear h0 h1 h2 h3 h4 h8 h9 hf hp hrange
    have A_c := (hb.block _ z1_c).trans R1_c.out
    replace A_c := Lib.hid A_c
    have A_s := (hb.block _ z1_s).trans R1_s.out
    replace A_s := Lib.hid A_s
    have B2 : Below w.heap.size w x := B1.trans (hb.mono B1.size)
    have hLw := B1.size
    go_wp2
    refine NoPanic.normal ?_
    obtain ⟨M2, rfl⟩ : ∃ M, M = x := ⟨_, rfl⟩
    clear hb hLw
    have C_c := A_c.out
    have C_s := A_s.out
    replace A_c := C_c
    clear C_c
    replace A_s := C_s
    clear C_s
    have z2_c := (Array.getElem?_eq_some_iff.1 A_c).1
    have z2_s := (Array.getElem?_eq_some_iff.1 A_s).1
    obtain ⟨q2_c_0, q2_c_1, q2_c_2, q2_c_3, q2_c_4, q2_c_5, q2_c_6, q2_c_7, q2_c_8, q2_c_9, q2_c_10⟩ := rc11 A_c
    have R2_c := Lib.hid A_c
    clear A_c
    obtain ⟨q2_s_0, q2_s_1, q2_s_2, q2_s_3, q2_s_4, q2_s_5, q2_s_6, q2_s_7⟩ := rc8 A_s
    obtain ⟨f2_s_0, f2_s_1, f2_s_2, f2_s_3, f2_s_4, f2_s_5, f2_s_6, f2_s_7⟩ := rf8 A_s
    have R2_s := Lib.hid A_s
    clear A_s
    have hgw2 := grow_cell M2
    generalize vals 7 = v2 at *
    rcases hcase.out with ⟨hn0, hRA⟩ | ⟨hn1, hAl, Q1, Q2, hQ, hQl, hcase2⟩
    · skip
      simp only [Prod.mk.injEq] at hRA
      obtain ⟨rfl, rfl⟩ := hRA
      go_wp2_with (first | (go_at_call 33; (with_reducible refine Calls.mono ((refSame v1 v2 R1 _ (own_sts hat1) (own_sts hat2))) ?_); rintro e w1 ⟨rfl, hB⟩; (first | (obtain ⟨g, rfl⟩ := g.next hB) | (obtain ⟨g, rfl⟩ : ∃ g : Grow M2, w1 = g.x := ⟨⟨w1, hB⟩, rfl⟩)); clear hB) | (go_at_call 20; (with_reducible refine Calls.mono (hK.out _) ?_); rintro e w1 ⟨rfl, hB⟩; (first | (obtain ⟨g, rfl⟩ := g.next hB) | (obtain ⟨g, rfl⟩ : ∃ g : Grow M2, w1 = g.x := ⟨⟨w1, hB⟩, rfl⟩)); clear hB))
      go_ret
      exact ⟨rfl, B2.trans (g.h.mono B2.size)⟩
    · skip
      subst hn1
      obtain ⟨a2, c2, rfl⟩ := hat2.slice
      rw [hAl] at hat2 ⊢
      have hQ' := Lib.hid hQ; clear hQ
      have hA1n : A1.length ≤ 12 := by omega
      have hQn : Q1.length ≤ 12 := by omega
      by_cases hf0 : 0 < f
      · skip
        have hlast := last_at (s := s) hAl hf0
        have hzok : Hid ((A1.getLastD s).Ok) := Lib.hid (steps_lastOk hA.out hc'.out hs'.out hot.out)
        generalize hz : A1.getLastD s = z at *
        have hz' : theSt A1 (f - 1) = z := hlast.symm
        obtain ⟨a2', c2', e2, -, hst⟩ := own_sts hat2
        simp only [Value.slice.injEq] at e2
        obtain ⟨rfl, -, rfl⟩ := e2
        obtain ⟨b2, o2, rfl, hb2, hst⟩ := hst (by omega)
        have hcl := hst (f - 1) (by omega)
        rw [hz'] at hcl
        obtain ⟨d0, d1, d2, d3, d4, d5, d6, d7⟩ := hcl
        clear hst hlast hz hz'
        have hwj : IntKind.i64.wrap ((f : Int) - 1) = (f : Int) - 1 := IntWalk.i64_in _ (by omega)
        have hji : (f : Int) - 1 < (f : Int) := by omega
        have hj0 : (0 : Int) ≤ (f : Int) - 1 := by omega
        have hf0i : (0 : Int) < (f : Int) := by omega
        have hsB : W1.heap.size < W.heap.size := z0_s
        go_wp2_with (fail)
        have hat1' : OwnSts W.heap.size (World.setCell (World.setCell (World.setCell (World.setCell (World.setCell (World.setCell (World.setCell (World.setCell M2 ⟨W1.heap.size, 0, none⟩ (.int .i64 z.glo)) ⟨W1.heap.size, 1, none⟩ (.int .i64 z.ghi)) ⟨W1.heap.size, 2, none⟩ (.int .i64 z.ylo)) ⟨W1.heap.size, 3, none⟩ (.int .i64 z.yhi)) ⟨W1.heap.size, 4, none⟩ (.int .i64 z.tlo)) ⟨W1.heap.size, 5, none⟩ (.int .i64 z.thi)) ⟨W1.heap.size, 6, none⟩ (.int .i64 z.wlo)) ⟨W1.heap.size, 7, none⟩ (.int .i64 z.whi)) v1 R1 := (OwnSt.cellset (OwnSt.cellset (OwnSt.cellset (OwnSt.cellset (OwnSt.cellset (OwnSt.cellset (OwnSt.cellset (OwnSt.cellset hat1 (p := ⟨W1.heap.size, 0, none⟩) hsB (.int .i64 z.glo)) (p := ⟨W1.heap.size, 1, none⟩) hsB (.int .i64 z.ghi)) (p := ⟨W1.heap.size, 2, none⟩) hsB (.int .i64 z.ylo)) (p := ⟨W1.heap.size, 3, none⟩) hsB (.int .i64 z.yhi)) (p := ⟨W1.heap.size, 4, none⟩) hsB (.int .i64 z.tlo)) (p := ⟨W1.heap.size, 5, none⟩) hsB (.int .i64 z.thi)) (p := ⟨W1.heap.size, 6, none⟩) hsB (.int .i64 z.wlo)) (p := ⟨W1.heap.size, 7, none⟩) hsB (.int .i64 z.whi))
        have hat2' : OwnSts W.heap.size (World.setCell (World.setCell (World.setCell (World.setCell (World.setCell (World.setCell (World.setCell (World.setCell M2 ⟨W1.heap.size, 0, none⟩ (.int .i64 z.glo)) ⟨W1.heap.size, 1, none⟩ (.int .i64 z.ghi)) ⟨W1.heap.size, 2, none⟩ (.int .i64 z.ylo)) ⟨W1.heap.size, 3, none⟩ (.int .i64 z.yhi)) ⟨W1.heap.size, 4, none⟩ (.int .i64 z.tlo)) ⟨W1.heap.size, 5, none⟩ (.int .i64 z.thi)) ⟨W1.heap.size, 6, none⟩ (.int .i64 z.wlo)) ⟨W1.heap.size, 7, none⟩ (.int .i64 z.whi)) (.slice (some ⟨b2, o2, none⟩) f c2) A1 := (OwnSt.cellset (OwnSt.cellset (OwnSt.cellset (OwnSt.cellset (OwnSt.cellset (OwnSt.cellset (OwnSt.cellset (OwnSt.cellset hat2 (p := ⟨W1.heap.size, 0, none⟩) hsB (.int .i64 z.glo)) (p := ⟨W1.heap.size, 1, none⟩) hsB (.int .i64 z.ghi)) (p := ⟨W1.heap.size, 2, none⟩) hsB (.int .i64 z.ylo)) (p := ⟨W1.heap.size, 3, none⟩) hsB (.int .i64 z.yhi)) (p := ⟨W1.heap.size, 4, none⟩) hsB (.int .i64 z.tlo)) (p := ⟨W1.heap.size, 5, none⟩) hsB (.int .i64 z.thi)) (p := ⟨W1.heap.size, 6, none⟩) hsB (.int .i64 z.wlo)) (p := ⟨W1.heap.size, 7, none⟩) hsB (.int .i64 z.whi))
        have g1 : W.heap.size ≤ (World.setCell (World.setCell (World.setCell (World.setCell (World.setCell (World.setCell (World.setCell (World.setCell M2 ⟨W1.heap.size, 0, none⟩ (.int .i64 z.glo)) ⟨W1.heap.size, 1, none⟩ (.int .i64 z.ghi)) ⟨W1.heap.size, 2, none⟩ (.int .i64 z.ylo)) ⟨W1.heap.size, 3, none⟩ (.int .i64 z.yhi)) ⟨W1.heap.size, 4, none⟩ (.int .i64 z.tlo)) ⟨W1.heap.size, 5, none⟩ (.int .i64 z.thi)) ⟨W1.heap.size, 6, none⟩ (.int .i64 z.wlo)) ⟨W1.heap.size, 7, none⟩ (.int .i64 z.whi)).heap.size := by simp only [World.setCell, Array.size_modify]; exact g0.out
        clear hgw2
        generalize hV3 : World.setCell _ ⟨W1.heap.size, 7, none⟩ _ = V3
        have R3_c : V3.heap[w.heap.size]? = some (.cells #[.int .i64 c.vlo, .int .i64 c.vhi, .int .i64 c.least, .int .i64 c.most, .int .i64 c.f0, .int .i64 c.f1, .int .i64 c.h0, .int .i64 c.h1, .int .i64 c.rock, .int .i64 c.plo, .int .i64 c.phi] 26 (0, 0)) := by rw [← hV3]; have h2 := (set_far (n := W1.heap.size) 7 (.int .i64 z.whi) ne_c_s (set_far (n := W1.heap.size) 6 (.int .i64 z.wlo) ne_c_s (set_far (n := W1.heap.size) 5 (.int .i64 z.thi) ne_c_s (set_far (n := W1.heap.size) 4 (.int .i64 z.tlo) ne_c_s (set_far (n := W1.heap.size) 3 (.int .i64 z.yhi) ne_c_s (set_far (n := W1.heap.size) 2 (.int .i64 z.ylo) ne_c_s (set_far (n := W1.heap.size) 1 (.int .i64 z.ghi) ne_c_s (set_far (n := W1.heap.size) 0 (.int .i64 z.glo) ne_c_s R2_c.out)))))))); exact h2
        have R3_s : V3.heap[W1.heap.size]? = some (.cells #[.int .i64 z.glo, .int .i64 z.ghi, .int .i64 z.ylo, .int .i64 z.yhi, .int .i64 z.tlo, .int .i64 z.thi, .int .i64 z.wlo, .int .i64 z.whi] 28 (0, 0)) := by rw [← hV3]; have h2 := (set_one (set_one (set_one (set_one (set_one (set_one (set_one (set_one R2_s.out 0 (.int .i64 z.glo)) 1 (.int .i64 z.ghi)) 2 (.int .i64 z.ylo)) 3 (.int .i64 z.yhi)) 4 (.int .i64 z.tlo)) 5 (.int .i64 z.thi)) 6 (.int .i64 z.wlo)) 7 (.int .i64 z.whi)); simp only [List.setIfInBounds_toArray, List.set_cons_zero, List.set_cons_succ] at h2; exact h2
        have B3 : Below w.heap.size w V3 := by rw [← hV3]; exact (Below.setCell (p := ⟨W1.heap.size, 7, none⟩) (Below.setCell (p := ⟨W1.heap.size, 6, none⟩) (Below.setCell (p := ⟨W1.heap.size, 5, none⟩) (Below.setCell (p := ⟨W1.heap.size, 4, none⟩) (Below.setCell (p := ⟨W1.heap.size, 3, none⟩) (Below.setCell (p := ⟨W1.heap.size, 2, none⟩) (Below.setCell (p := ⟨W1.heap.size, 1, none⟩) (Below.setCell (p := ⟨W1.heap.size, 0, none⟩) B2 le_s (.int .i64 z.glo)) le_s (.int .i64 z.ghi)) le_s (.int .i64 z.ylo)) le_s (.int .i64 z.yhi)) le_s (.int .i64 z.tlo)) le_s (.int .i64 z.thi)) le_s (.int .i64 z.wlo)) le_s (.int .i64 z.whi))
        rw [hV3] at hat1'
        rw [hV3] at hat2'
        rw [hV3] at g1
        clear hV3
        clear q2_c_0 q2_c_1 q2_c_2 q2_c_3 q2_c_4 q2_c_5 q2_c_6 q2_c_7 q2_c_8 q2_c_9 q2_c_10 q2_s_0 f2_s_0 q2_s_1 f2_s_1 q2_s_2 f2_s_2 q2_s_3 f2_s_3 q2_s_4 f2_s_4 q2_s_5 f2_s_5 q2_s_6 f2_s_6 q2_s_7 f2_s_7
        have E3_c := Lib.hid R3_c
        obtain ⟨z3_c, r3_c, t3_c⟩ := row_cells R3_c
        obtain ⟨q3_c_0, q3_c_1, q3_c_2, q3_c_3, q3_c_4, q3_c_5, q3_c_6, q3_c_7, q3_c_8, q3_c_9, q3_c_10⟩ := rc11 R3_c
        obtain ⟨f3_c_0, f3_c_1, f3_c_2, f3_c_3, f3_c_4, f3_c_5, f3_c_6, f3_c_7, f3_c_8, f3_c_9, f3_c_10⟩ := rf11 R3_c
        clear r3_c t3_c R3_c
        have E3_s := Lib.hid R3_s
        obtain ⟨z3_s, r3_s, t3_s⟩ := row_cells R3_s
        obtain ⟨q3_s_0, q3_s_1, q3_s_2, q3_s_3, q3_s_4, q3_s_5, q3_s_6, q3_s_7⟩ := rc8 R3_s
        obtain ⟨f3_s_0, f3_s_1, f3_s_2, f3_s_3, f3_s_4, f3_s_5, f3_s_6, f3_s_7⟩ := rf8 R3_s
        clear r3_s t3_s R3_s
        replace hat1 := hat1'; replace hat2 := hat2'; replace g0 := Lib.hid g1
        clear hat1' hat2' g1 d0 d1 d2 d3 d4 d5 d6 d7
        have hgw3 := grow_cell V3
        have kB : Hid (∀ w', Below w.heap.size w w' → W.heap.size ≤ w'.heap.size → Calls Try.prog 31 #[cavV c, stV z, dropV a xs.length cap f] w' fun e w'' => (∃ v, e = .returned (.tuple #[v, .int .i64 Q2, .int .i64 0]) ∧ OwnSts W.heap.size w'' v Q1) ∧ Below w'.heap.size w' w'') := Lib.hid (fun w' hb hz => by have := progStepsOwn w' (hdr.out.mono hb) hc'.out hzok.out hod.out (by rw [List.length_drop]; omega); rw [hQ'.out] at this; exact this.mono fun e w'' ⟨⟨v, h1, h2⟩, h3⟩ => ⟨⟨v, h1, h2.from hz⟩, h3⟩)
        clear q3_c_0 f3_c_0 q3_c_1 f3_c_1 q3_c_2 f3_c_2 q3_c_3 f3_c_3 q3_c_4 f3_c_4 q3_c_5 f3_c_5 q3_c_6 f3_c_6 q3_c_7 f3_c_7 q3_c_8 f3_c_8 q3_c_9 f3_c_9 q3_c_10 f3_c_10 q3_s_0 f3_s_0 q3_s_1 f3_s_1 q3_s_2 f3_s_2 q3_s_3 f3_s_3 q3_s_4 f3_s_4 q3_s_5 f3_s_5 q3_s_6 f3_s_6 q3_s_7 f3_s_7
        clear hgw3
        refine wp_region_noPanic ?_
        refine wp_region_locN 10 135 [8, 9] [96, 97, 98, 99, 100, 101, 95, 102, 103, 104] [[], [], [], [], [2, 3], [0, 1, 4], [5], [6], [6], [6]] [IsV (cavV c), IsV (stV z), IsV (.slice a xs.length cap), IsV (.int .i64 f), IsV (dropV a xs.length cap f), TupSts W.heap.size Q1 Q2, TupSts W.heap.size Q1 Q2, StsIs W.heap.size Q1, IsV (.int .i64 Q2), IsV (.int .i64 0)] [] (by kernel_rfl) (by kernel_rfl) (by kernel_rfl) (by kernel_rfl) (by kernel_rfl) (by kernel_rfl) rfl (fun _ _ _ _ h => h) ?_ ?_ ?_ ?_ ?_
        · exact List.forall_mem_cons.2 ⟨pers_v _, List.forall_mem_cons.2 ⟨pers_v _, List.forall_mem_cons.2 ⟨pers_v _, List.forall_mem_cons.2 ⟨pers_v _, List.forall_mem_cons.2 ⟨pers_v _, List.forall_mem_cons.2 ⟨pers_tup _ _ _, List.forall_mem_cons.2 ⟨pers_tup _ _ _, List.forall_mem_cons.2 ⟨pers_sts _ _, List.forall_mem_cons.2 ⟨pers_v _, List.forall_mem_cons.2 ⟨pers_v _, fun f h => by cases h⟩⟩⟩⟩⟩⟩⟩⟩⟩⟩
        · intro k hk; cases hk
        · refine ⟨?_, ?_, ?_, ?_, ?_, ?_, ?_, ?_, ?_, ?_, trivial⟩
          · intro vals x hb hf
            simp only [fillS, List.getD_cons_succ, List.getD_cons_zero, Act.put, List.setIfInBounds_toArray, List.set_cons_zero, List.set_cons_succ]
            have ar := (hb.block _ z3_c).trans E3_c.out
            obtain ⟨y0, y1, y2, y3, y4, y5, y6, y7, y8, y9, y10⟩ := rc11 ar
            clear ar
            go_wp2
            exact ⟨rfl, rfl, Below.refl _ _, _, rfl, rfl, (fun h => absurd h (by decide))⟩
          · intro vals x hb hf
            simp only [fillS, List.getD_cons_succ, List.getD_cons_zero, Act.put, List.setIfInBounds_toArray, List.set_cons_zero, List.set_cons_succ]
            have ar := (hb.block _ z3_s).trans E3_s.out
            obtain ⟨y0, y1, y2, y3, y4, y5, y6, y7⟩ := rc8 ar
            clear ar
            go_wp2
            exact ⟨rfl, rfl, Below.refl _ _, _, rfl, rfl, (fun h => absurd h (by decide))⟩
          · intro vals x hb hf
            simp only [fillS, List.getD_cons_succ, List.getD_cons_zero, Act.put, List.setIfInBounds_toArray, List.set_cons_zero, List.set_cons_succ]
            skip
            go_wp2
            exact ⟨rfl, rfl, Below.refl _ _, _, rfl, rfl, (fun h => absurd h (by decide))⟩
          · intro vals x hb hf
            simp only [fillS, List.getD_cons_succ, List.getD_cons_zero, Act.put, List.setIfInBounds_toArray, List.set_cons_zero, List.set_cons_succ]
            skip
            go_wp2
            exact ⟨rfl, rfl, Below.refl _ _, _, rfl, rfl, (fun h => absurd h (by decide))⟩
          · intro vals x hb hf
            simp only [fillS, List.getD_cons_succ, List.getD_cons_zero, Act.put, List.setIfInBounds_toArray, List.set_cons_zero, List.set_cons_succ]
            have h2 : vals 2 = .slice a xs.length cap := hf.1
            rw [h2]
            have h3 : vals 3 = .int .i64 f := hf.2.1
            rw [h3]
            go_wp2
            all_goals exact ⟨rfl, rfl, Below.refl _ _, _, rfl, by first | rfl | simp [IsV, RL, dropV, *], (fun h => absurd h (by decide))⟩
          · intro vals x hb hf
            simp only [fillS, List.getD_cons_succ, List.getD_cons_zero, Act.put, List.setIfInBounds_toArray, List.set_cons_zero, List.set_cons_succ]
            have h0 : vals 0 = cavV c := hf.1
            rw [h0]
            have h1 : vals 1 = stV z := hf.2.1
            rw [h1]
            have h4 : vals 4 = dropV a xs.length cap f := hf.2.2.1
            rw [h4]
            have hbx : Below w.heap.size w x := B3.trans (hb.mono B3.size)
            go_wp2_with (go_at_call 31; (with_reducible refine Calls.mono (kB.out _ hbx (Nat.le_trans g0.out hb.size)) ?_); rintro e y ⟨⟨sv, rfl, hat⟩, hB⟩)
            exact ⟨rfl, rfl, hB, _, rfl, ⟨_, rfl, hat⟩, (fun h => absurd h (by decide))⟩
          · intro vals x hb hf
            simp only [fillS, List.getD_cons_succ, List.getD_cons_zero, Act.put, List.setIfInBounds_toArray, List.set_cons_zero, List.set_cons_succ]
            have h5 : (TupSts W.heap.size Q1 Q2) (vals 5) x := hf.1
            obtain ⟨sv, h5, hat⟩ := h5
            rw [h5]
            go_wp2
            exact ⟨rfl, rfl, Below.refl _ _, _, rfl, ⟨_, rfl, hat⟩, (fun h => absurd h (by decide))⟩
          · intro vals x hb hf
            simp only [fillS, List.getD_cons_succ, List.getD_cons_zero, Act.put, List.setIfInBounds_toArray, List.set_cons_zero, List.set_cons_succ]
            have h6 : (TupSts W.heap.size Q1 Q2) (vals 6) x := hf.1
            obtain ⟨sv, h6, hat⟩ := h6
            rw [h6]
            go_wp2
            exact ⟨rfl, rfl, Below.refl _ _, _, rfl, hat, (fun h => absurd h (by decide))⟩
          · intro vals x hb hf
            simp only [fillS, List.getD_cons_succ, List.getD_cons_zero, Act.put, List.setIfInBounds_toArray, List.set_cons_zero, List.set_cons_succ]
            have h6 : (TupSts W.heap.size Q1 Q2) (vals 6) x := hf.1
            obtain ⟨sv, h6, hat⟩ := h6
            rw [h6]
            go_wp2
            exact ⟨rfl, rfl, Below.refl _ _, _, rfl, rfl, (fun h => absurd h (by decide))⟩
          · intro vals x hb hf
            simp only [fillS, List.getD_cons_succ, List.getD_cons_zero, Act.put, List.setIfInBounds_toArray, List.set_cons_zero, List.set_cons_succ]
            have h6 : (TupSts W.heap.size Q1 Q2) (vals 6) x := hf.1
            obtain ⟨sv, h6, hat⟩ := h6
            rw [h6]
            go_wp2
            exact ⟨rfl, rfl, Below.refl _ _, _, rfl, rfl, (fun h => absurd h (by decide))⟩
        · intro j hj o ho vals x hb hf
          rcases List.mem_cons.1 hj with rfl | hj
          · obtain rfl := Option.some.inj ho
            simp only [fillS, List.getD_cons_succ, List.getD_cons_zero, Act.put, List.setIfInBounds_toArray, List.set_cons_zero, List.set_cons_succ]
            have h6 : (TupSts W.heap.size Q1 Q2) (vals 6) x := hf.1
            obtain ⟨sv, h6, hat⟩ := h6
            rw [h6]
            exact ⟨_, .inl ⟨rfl, fun w => rfl⟩, rfl, (fun h => absurd h (by decide))⟩
          · obtain rfl : j = 9 := by simpa using hj
            obtain rfl := Option.some.inj ho
            simp only [fillS, List.getD_cons_succ, List.getD_cons_zero, Act.put, List.setIfInBounds_toArray, List.set_cons_zero, List.set_cons_succ]
            have h6 : (TupSts W.heap.size Q1 Q2) (vals 6) x := hf.1
            obtain ⟨sv, h6, hat⟩ := h6
            rw [h6]
            exact ⟨_, .inl ⟨rfl, fun w => rfl⟩, rfl, (fun h => absurd h (by decide))⟩
        · intro vals x hb hf hp
          have hrange : List.range 10 = [0, 1, 2, 3, 4, 5, 6, 7, 8, 9] := by rfl
          rw [hrange]
          simp only [fillS, List.getD_cons_succ, List.getD_cons_zero, Act.put, List.setIfInBounds_toArray, List.set_cons_zero, List.set_cons_succ]
          have h0 : vals 0 = cavV c := hf 0 (by omega)
          have h1 : vals 1 = stV z := hf 1 (by omega)
          have h2 : vals 2 = .slice a xs.length cap := hf 2 (by omega)
          have h3 : vals 3 = .int .i64 f := hf 3 (by omega)
          have h4 : vals 4 = dropV a xs.length cap f := hf 4 (by omega)
          have h8 : vals 8 = .int .i64 Q2 := hf 8 (by omega)
          have h9 : vals 9 = .int .i64 0 := hf 9 (by omega)
          have hat3 : OwnSts W.heap.size x (vals 7) Q1 := hf 7 (by omega)
          replace g0 := Lib.hid (Nat.le_trans g0.out hb.size)
          replace hat1 := hat1.mono hb
          replace hat2 := hat2.mono hb
          rw [h0, h1, h2, h3, h4, h8, h9]
          clear h0 h1 h2 h3 h4 h8 h9 hf hp hrange
          have A_c := (hb.block _ z3_c).trans E3_c.out
          replace A_c := Lib.hid A_c
          have A_s := (hb.block _ z3_s).trans E3_s.out
          replace A_s := Lib.hid A_s
          have B4 : Below w.heap.size w x := B3.trans (hb.mono B3.size)
          have hLw := B3.size
          go_wp2
          refine NoPanic.normal ?_
          obtain ⟨M4, rfl⟩ : ∃ M, M = x := ⟨_, rfl⟩
          clear hb hLw
          have C_c := A_c.out
          have C_s := A_s.out
          replace A_c := C_c
          clear C_c
          replace A_s := C_s
          clear C_s
          have z4_c := (Array.getElem?_eq_some_iff.1 A_c).1
          have z4_s := (Array.getElem?_eq_some_iff.1 A_s).1
          have R4_c := Lib.hid A_c
          clear A_c
          have R4_s := Lib.hid A_s
          clear A_s
          have hgw4 := grow_cell M4
          generalize vals 7 = v3 at *
          rcases hcase2 with ⟨hm1, hRA⟩ | ⟨hm0, hmle, hRA⟩
          · skip
            simp only [Prod.mk.injEq] at hRA
            obtain ⟨rfl, rfl⟩ := hRA
            subst hm1
            go_wp2_with (first | (at_builtin; refine wpList_app_sts (by rfl) _ _ (by rfl) M4.heap.size M4 (.slice none 0 0) (.slice (some ⟨b2, o2, none⟩) f c2) [] A1 (by rfl) (OwnSt.nil _ _ _ _ _) (by rfl) (own_sts hat2) (by simp; omega) (Nat.le_refl _) ?_; intro v4 w4 ho4 hg4; have hb4 : Below M4.heap.size M4 w4 := (Below.refl _ _).grown hg4 (Nat.le_refl _) (fun k e => by cases e)) | (at_builtin; refine wpList_app_sts (by rfl) _ _ (by rfl) M4.heap.size w4 v4 v3 ([] ++ A1) Q1 (by rfl) ho4 (by rfl) (own_sts (hat3.mono hb4)) (by simp; omega) hb4.size ?_; intro v5 w5 ho5 hg5; have hb5 : Below M4.heap.size M4 w5 := hb4.grown hg5 hb4.size (fun k e => (ho4.lt k e).1); obtain ⟨g, rfl⟩ : ∃ g : Grow M4, w5 = g.x := ⟨⟨w5, hb5⟩, rfl⟩; have hat5 := own_sts ho5; rw [List.nil_append] at hat5; replace hat1 := hat1.mono hb5) | (go_at_call 33; (with_reducible refine Calls.mono ((refSame v1 v5 (A1 ++ Q1) _ (own_sts hat1) hat5)) ?_); rintro e w1 ⟨rfl, hB⟩; (first | (obtain ⟨g, rfl⟩ := g.next hB) | (obtain ⟨g, rfl⟩ : ∃ g : Grow M4, w1 = g.x := ⟨⟨w1, hB⟩, rfl⟩)); clear hB) | (go_at_call 20; (with_reducible refine Calls.mono (hK.out _) ?_); rintro e w1 ⟨rfl, hB⟩; (first | (obtain ⟨g, rfl⟩ := g.next hB) | (obtain ⟨g, rfl⟩ : ∃ g : Grow M4, w1 = g.x := ⟨⟨w1, hB⟩, rfl⟩)); clear hB))
            go_ret
            exact ⟨rfl, B4.trans (g.h.mono B4.size)⟩
          · skip
            simp only [Prod.mk.injEq] at hRA
            obtain ⟨rfl, rfl⟩ := hRA
            have hwf : IntKind.i64.wrap ((f : Int) + Q2) = (f : Int) + Q2 := IntWalk.i64_in _ (by omega)
            have hq1 : ¬ Q2 < 0 := by omega
            go_wp2_with (first | (at_builtin; refine wpList_app_sts (by rfl) _ _ (by rfl) M4.heap.size M4 (.slice none 0 0) (.slice (some ⟨b2, o2, none⟩) f c2) [] A1 (by rfl) (OwnSt.nil _ _ _ _ _) (by rfl) (own_sts hat2) (by simp; omega) (Nat.le_refl _) ?_; intro v4 w4 ho4 hg4; have hb4 : Below M4.heap.size M4 w4 := (Below.refl _ _).grown hg4 (Nat.le_refl _) (fun k e => by cases e)) | (at_builtin; refine wpList_app_sts (by rfl) _ _ (by rfl) M4.heap.size w4 v4 v3 ([] ++ A1) Q1 (by rfl) ho4 (by rfl) (own_sts (hat3.mono hb4)) (by simp; omega) hb4.size ?_; intro v5 w5 ho5 hg5; have hb5 : Below M4.heap.size M4 w5 := hb4.grown hg5 hb4.size (fun k e => (ho4.lt k e).1); obtain ⟨g, rfl⟩ : ∃ g : Grow M4, w5 = g.x := ⟨⟨w5, hb5⟩, rfl⟩; have hat5 := own_sts ho5; rw [List.nil_append] at hat5; replace hat1 := hat1.mono hb5) | (go_at_call 33; (with_reducible refine Calls.mono ((refSame v1 v5 (A1 ++ Q1) _ (own_sts hat1) hat5)) ?_); rintro e w1 ⟨rfl, hB⟩; (first | (obtain ⟨g, rfl⟩ := g.next hB) | (obtain ⟨g, rfl⟩ : ∃ g : Grow M4, w1 = g.x := ⟨⟨w1, hB⟩, rfl⟩)); clear hB) | (go_at_call 20; (with_reducible refine Calls.mono (hK.out _) ?_); rintro e w1 ⟨rfl, hB⟩; (first | (obtain ⟨g, rfl⟩ := g.next hB) | (obtain ⟨g, rfl⟩ : ∃ g : Grow M4, w1 = g.x := ⟨⟨w1, hB⟩, rfl⟩)); clear hB))
            go_ret
            exact ⟨rfl, B4.trans (g.h.mono B4.size)⟩
      · skip
        have hf0i : ¬ (0 : Int) < (f : Int) := by omega
        have hA0 : A1.getLastD s = s := by
          have : A1 = [] := List.eq_nil_of_length_eq_zero (by omega)
          rw [this]; rfl
        rw [hA0] at hQ'
        have hzok := hs'
        clear hA0
        go_wp2_with (fail)
        have kB : Hid (∀ w', Below w.heap.size w w' → W.heap.size ≤ w'.heap.size → Calls Try.prog 31 #[cavV c, stV s, dropV a xs.length cap f] w' fun e w'' => (∃ v, e = .returned (.tuple #[v, .int .i64 Q2, .int .i64 0]) ∧ OwnSts W.heap.size w'' v Q1) ∧ Below w'.heap.size w' w'') := Lib.hid (fun w' hb hz => by have := progStepsOwn w' (hdr.out.mono hb) hc'.out hzok.out hod.out (by rw [List.length_drop]; omega); rw [hQ'.out] at this; exact this.mono fun e w'' ⟨⟨v, h1, h2⟩, h3⟩ => ⟨⟨v, h1, h2.from hz⟩, h3⟩)
        clear q2_c_0 q2_c_1 q2_c_2 q2_c_3 q2_c_4 q2_c_5 q2_c_6 q2_c_7 q2_c_8 q2_c_9 q2_c_10 q2_s_0 f2_s_0 q2_s_1 f2_s_1 q2_s_2 f2_s_2 q2_s_3 f2_s_3 q2_s_4 f2_s_4 q2_s_5 f2_s_5 q2_s_6 f2_s_6 q2_s_7 f2_s_7
        clear hgw2
        refine wp_region_noPanic ?_
        refine wp_region_locN 10 135 [8, 9] [96, 97, 98, 99, 100, 101, 95, 102, 103, 104] [[], [], [], [], [2, 3], [0, 1, 4], [5], [6], [6], [6]] [IsV (cavV c), IsV (stV s), IsV (.slice a xs.length cap), IsV (.int .i64 f), IsV (dropV a xs.length cap f), TupSts W.heap.size Q1 Q2, TupSts W.heap.size Q1 Q2, StsIs W.heap.size Q1, IsV (.int .i64 Q2), IsV (.int .i64 0)] [] (by kernel_rfl) (by kernel_rfl) (by kernel_rfl) (by kernel_rfl) (by kernel_rfl) (by kernel_rfl) rfl (fun _ _ _ _ h => h) ?_ ?_ ?_ ?_ ?_
        · exact List.forall_mem_cons.2 ⟨pers_v _, List.forall_mem_cons.2 ⟨pers_v _, List.forall_mem_cons.2 ⟨pers_v _, List.forall_mem_cons.2 ⟨pers_v _, List.forall_mem_cons.2 ⟨pers_v _, List.forall_mem_cons.2 ⟨pers_tup _ _ _, List.forall_mem_cons.2 ⟨pers_tup _ _ _, List.forall_mem_cons.2 ⟨pers_sts _ _, List.forall_mem_cons.2 ⟨pers_v _, List.forall_mem_cons.2 ⟨pers_v _, fun f h => by cases h⟩⟩⟩⟩⟩⟩⟩⟩⟩⟩
        · intro k hk; cases hk
        · refine ⟨?_, ?_, ?_, ?_, ?_, ?_, ?_, ?_, ?_, ?_, trivial⟩
          · intro vals x hb hf
            simp only [fillS, List.getD_cons_succ, List.getD_cons_zero, Act.put, List.setIfInBounds_toArray, List.set_cons_zero, List.set_cons_succ]
            have ar := (hb.block _ z2_c).trans R2_c.out
            obtain ⟨y0, y1, y2, y3, y4, y5, y6, y7, y8, y9, y10⟩ := rc11 ar
            clear ar
            go_wp2
            exact ⟨rfl, rfl, Below.refl _ _, _, rfl, rfl, (fun h => absurd h (by decide))⟩
          · intro vals x hb hf
            simp only [fillS, List.getD_cons_succ, List.getD_cons_zero, Act.put, List.setIfInBounds_toArray, List.set_cons_zero, List.set_cons_succ]
            have ar := (hb.block _ z2_s).trans R2_s.out
            obtain ⟨y0, y1, y2, y3, y4, y5, y6, y7⟩ := rc8 ar
            clear ar
            go_wp2
            exact ⟨rfl, rfl, Below.refl _ _, _, rfl, rfl, (fun h => absurd h (by decide))⟩
          · intro vals x hb hf
            simp only [fillS, List.getD_cons_succ, List.getD_cons_zero, Act.put, List.setIfInBounds_toArray, List.set_cons_zero, List.set_cons_succ]
            skip
            go_wp2
            exact ⟨rfl, rfl, Below.refl _ _, _, rfl, rfl, (fun h => absurd h (by decide))⟩
          · intro vals x hb hf
            simp only [fillS, List.getD_cons_succ, List.getD_cons_zero, Act.put, List.setIfInBounds_toArray, List.set_cons_zero, List.set_cons_succ]
            skip
            go_wp2
            exact ⟨rfl, rfl, Below.refl _ _, _, rfl, rfl, (fun h => absurd h (by decide))⟩
          · intro vals x hb hf
            simp only [fillS, List.getD_cons_succ, List.getD_cons_zero, Act.put, List.setIfInBounds_toArray, List.set_cons_zero, List.set_cons_succ]
            have h2 : vals 2 = .slice a xs.length cap := hf.1
            rw [h2]
            have h3 : vals 3 = .int .i64 f := hf.2.1
            rw [h3]
            go_wp2
            all_goals exact ⟨rfl, rfl, Below.refl _ _, _, rfl, by first | rfl | simp [IsV, RL, dropV, *], (fun h => absurd h (by decide))⟩
          · intro vals x hb hf
            simp only [fillS, List.getD_cons_succ, List.getD_cons_zero, Act.put, List.setIfInBounds_toArray, List.set_cons_zero, List.set_cons_succ]
            have h0 : vals 0 = cavV c := hf.1
            rw [h0]
            have h1 : vals 1 = stV s := hf.2.1
            rw [h1]
            have h4 : vals 4 = dropV a xs.length cap f := hf.2.2.1
            rw [h4]
            have hbx : Below w.heap.size w x := B2.trans (hb.mono B2.size)
            go_wp2_with (go_at_call 31; (with_reducible refine Calls.mono (kB.out _ hbx (Nat.le_trans g0.out hb.size)) ?_); rintro e y ⟨⟨sv, rfl, hat⟩, hB⟩)
            exact ⟨rfl, rfl, hB, _, rfl, ⟨_, rfl, hat⟩, (fun h => absurd h (by decide))⟩
          · intro vals x hb hf
            simp only [fillS, List.getD_cons_succ, List.getD_cons_zero, Act.put, List.setIfInBounds_toArray, List.set_cons_zero, List.set_cons_succ]
            have h5 : (TupSts W.heap.size Q1 Q2) (vals 5) x := hf.1
            obtain ⟨sv, h5, hat⟩ := h5
            rw [h5]
            go_wp2
            exact ⟨rfl, rfl, Below.refl _ _, _, rfl, ⟨_, rfl, hat⟩, (fun h => absurd h (by decide))⟩
          · intro vals x hb hf
            simp only [fillS, List.getD_cons_succ, List.getD_cons_zero, Act.put, List.setIfInBounds_toArray, List.set_cons_zero, List.set_cons_succ]
            have h6 : (TupSts W.heap.size Q1 Q2) (vals 6) x := hf.1
            obtain ⟨sv, h6, hat⟩ := h6
            rw [h6]
            go_wp2
            exact ⟨rfl, rfl, Below.refl _ _, _, rfl, hat, (fun h => absurd h (by decide))⟩
          · intro vals x hb hf
            simp only [fillS, List.getD_cons_succ, List.getD_cons_zero, Act.put, List.setIfInBounds_toArray, List.set_cons_zero, List.set_cons_succ]
            have h6 : (TupSts W.heap.size Q1 Q2) (vals 6) x := hf.1
            obtain ⟨sv, h6, hat⟩ := h6
            rw [h6]
            go_wp2
            exact ⟨rfl, rfl, Below.refl _ _, _, rfl, rfl, (fun h => absurd h (by decide))⟩
          · intro vals x hb hf
            simp only [fillS, List.getD_cons_succ, List.getD_cons_zero, Act.put, List.setIfInBounds_toArray, List.set_cons_zero, List.set_cons_succ]
            have h6 : (TupSts W.heap.size Q1 Q2) (vals 6) x := hf.1
            obtain ⟨sv, h6, hat⟩ := h6
            rw [h6]
            go_wp2
            exact ⟨rfl, rfl, Below.refl _ _, _, rfl, rfl, (fun h => absurd h (by decide))⟩
        · intro j hj o ho vals x hb hf
          rcases List.mem_cons.1 hj with rfl | hj
          · obtain rfl := Option.some.inj ho
            simp only [fillS, List.getD_cons_succ, List.getD_cons_zero, Act.put, List.setIfInBounds_toArray, List.set_cons_zero, List.set_cons_succ]
            have h6 : (TupSts W.heap.size Q1 Q2) (vals 6) x := hf.1
            obtain ⟨sv, h6, hat⟩ := h6
            rw [h6]
            exact ⟨_, .inl ⟨rfl, fun w => rfl⟩, rfl, (fun h => absurd h (by decide))⟩
          · obtain rfl : j = 9 := by simpa using hj
            obtain rfl := Option.some.inj ho
            simp only [fillS, List.getD_cons_succ, List.getD_cons_zero, Act.put, List.setIfInBounds_toArray, List.set_cons_zero, List.set_cons_succ]
            have h6 : (TupSts W.heap.size Q1 Q2) (vals 6) x := hf.1
            obtain ⟨sv, h6, hat⟩ := h6
            rw [h6]
            exact ⟨_, .inl ⟨rfl, fun w => rfl⟩, rfl, (fun h => absurd h (by decide))⟩
        · intro vals x hb hf hp
          have hrange : List.range 10 = [0, 1, 2, 3, 4, 5, 6, 7, 8, 9] := by rfl
          rw [hrange]
          simp only [fillS, List.getD_cons_succ, List.getD_cons_zero, Act.put, List.setIfInBounds_toArray, List.set_cons_zero, List.set_cons_succ]
          have h0 : vals 0 = cavV c := hf 0 (by omega)
          have h1 : vals 1 = stV s := hf 1 (by omega)
          have h2 : vals 2 = .slice a xs.length cap := hf 2 (by omega)
          have h3 : vals 3 = .int .i64 f := hf 3 (by omega)
          have h4 : vals 4 = dropV a xs.length cap f := hf 4 (by omega)
          have h8 : vals 8 = .int .i64 Q2 := hf 8 (by omega)
          have h9 : vals 9 = .int .i64 0 := hf 9 (by omega)
          have hat3 : OwnSts W.heap.size x (vals 7) Q1 := hf 7 (by omega)
          replace g0 := Lib.hid (Nat.le_trans g0.out hb.size)
          replace hat1 := hat1.mono hb
          replace hat2 := hat2.mono hb
          rw [h0, h1, h2, h3, h4, h8, h9]
          clear h0 h1 h2 h3 h4 h8 h9 hf hp hrange
          have A_c := (hb.block _ z2_c).trans R2_c.out
          replace A_c := Lib.hid A_c
          have A_s := (hb.block _ z2_s).trans R2_s.out
          replace A_s := Lib.hid A_s
          have B3 : Below w.heap.size w x := B2.trans (hb.mono B2.size)
          have hLw := B2.size
          go_wp2
          refine NoPanic.normal ?_
          obtain ⟨M3, rfl⟩ : ∃ M, M = x := ⟨_, rfl⟩
          clear hb hLw
          have C_c := A_c.out
          have C_s := A_s.out
          replace A_c := C_c
          clear C_c
          replace A_s := C_s
          clear C_s
          have z3_c := (Array.getElem?_eq_some_iff.1 A_c).1
          have z3_s := (Array.getElem?_eq_some_iff.1 A_s).1
          have R3_c := Lib.hid A_c
          clear A_c
          have R3_s := Lib.hid A_s
          clear A_s
          have hgw3 := grow_cell M3
          generalize vals 7 = v3 at *
          rcases hcase2 with ⟨hm1, hRA⟩ | ⟨hm0, hmle, hRA⟩
          · skip
            simp only [Prod.mk.injEq] at hRA
            obtain ⟨rfl, rfl⟩ := hRA
            subst hm1
            go_wp2_with (first | (at_builtin; refine wpList_app_sts (by rfl) _ _ (by rfl) M3.heap.size M3 (.slice none 0 0) (.slice a2 f c2) [] A1 (by rfl) (OwnSt.nil _ _ _ _ _) (by rfl) (own_sts hat2) (by simp; omega) (Nat.le_refl _) ?_; intro v4 w4 ho4 hg4; have hb4 : Below M3.heap.size M3 w4 := (Below.refl _ _).grown hg4 (Nat.le_refl _) (fun k e => by cases e)) | (at_builtin; refine wpList_app_sts (by rfl) _ _ (by rfl) M3.heap.size w4 v4 v3 ([] ++ A1) Q1 (by rfl) ho4 (by rfl) (own_sts (hat3.mono hb4)) (by simp; omega) hb4.size ?_; intro v5 w5 ho5 hg5; have hb5 : Below M3.heap.size M3 w5 := hb4.grown hg5 hb4.size (fun k e => (ho4.lt k e).1); obtain ⟨g, rfl⟩ : ∃ g : Grow M3, w5 = g.x := ⟨⟨w5, hb5⟩, rfl⟩; have hat5 := own_sts ho5; rw [List.nil_append] at hat5; replace hat1 := hat1.mono hb5) | (go_at_call 33; (with_reducible refine Calls.mono ((refSame v1 v5 (A1 ++ Q1) _ (own_sts hat1) hat5)) ?_); rintro e w1 ⟨rfl, hB⟩; (first | (obtain ⟨g, rfl⟩ := g.next hB) | (obtain ⟨g, rfl⟩ : ∃ g : Grow M3, w1 = g.x := ⟨⟨w1, hB⟩, rfl⟩)); clear hB) | (go_at_call 20; (with_reducible refine Calls.mono (hK.out _) ?_); rintro e w1 ⟨rfl, hB⟩; (first | (obtain ⟨g, rfl⟩ := g.next hB) | (obtain ⟨g, rfl⟩ : ∃ g : Grow M3, w1 = g.x := ⟨⟨w1, hB⟩, rfl⟩)); clear hB))
            go_ret
            exact ⟨rfl, B3.trans (g.h.mono B3.size)⟩
          · skip
            simp only [Prod.mk.injEq] at hRA
            obtain ⟨rfl, rfl⟩ := hRA
            have hwf : IntKind.i64.wrap ((f : Int) + Q2) = (f : Int) + Q2 := IntWalk.i64_in _ (by omega)
            have hq1 : ¬ Q2 < 0 := by omega
            go_wp2_with (first | (at_builtin; refine wpList_app_sts (by rfl) _ _ (by rfl) M3.heap.size M3 (.slice none 0 0) (.slice a2 f c2) [] A1 (by rfl) (OwnSt.nil _ _ _ _ _) (by rfl) (own_sts hat2) (by simp; omega) (Nat.le_refl _) ?_; intro v4 w4 ho4 hg4; have hb4 : Below M3.heap.size M3 w4 := (Below.refl _ _).grown hg4 (Nat.le_refl _) (fun k e => by cases e)) | (at_builtin; refine wpList_app_sts (by rfl) _ _ (by rfl) M3.heap.size w4 v4 v3 ([] ++ A1) Q1 (by rfl) ho4 (by rfl) (own_sts (hat3.mono hb4)) (by simp; omega) hb4.size ?_; intro v5 w5 ho5 hg5; have hb5 : Below M3.heap.size M3 w5 := hb4.grown hg5 hb4.size (fun k e => (ho4.lt k e).1); obtain ⟨g, rfl⟩ : ∃ g : Grow M3, w5 = g.x := ⟨⟨w5, hb5⟩, rfl⟩; have hat5 := own_sts ho5; rw [List.nil_append] at hat5; replace hat1 := hat1.mono hb5) | (go_at_call 33; (with_reducible refine Calls.mono ((refSame v1 v5 (A1 ++ Q1) _ (own_sts hat1) hat5)) ?_); rintro e w1 ⟨rfl, hB⟩; (first | (obtain ⟨g, rfl⟩ := g.next hB) | (obtain ⟨g, rfl⟩ : ∃ g : Grow M3, w1 = g.x := ⟨⟨w1, hB⟩, rfl⟩)); clear hB) | (go_at_call 20; (with_reducible refine Calls.mono (hK.out _) ?_); rintro e w1 ⟨rfl, hB⟩; (first | (obtain ⟨g, rfl⟩ := g.next hB) | (obtain ⟨g, rfl⟩ : ∃ g : Grow M3, w1 = g.x := ⟨⟨w1, hB⟩, rfl⟩)); clear hB))
            go_ret
            exact ⟨rfl, B3.trans (g.h.mono B3.size)⟩

theorem lawChains (c : Cav) (s : St) (lv : Value) (xs : List Gas.Op) (ft : Int) (w : World) (hl : OpsAt w lv xs) (hfit : Fits lv) :
    Calls Try.prog 10 #[cavV c, stV s, lv, .int .i64 ft] w fun e w' => e = .returned (.bool true) ∧ Below w.heap.size w w' := by
  by_cases h1 : xs.length ≤ 12
  case neg => exact lawChains0 c s lv xs ft w hl hfit h1
  cases hc : c.ok
  · exact lawChains1 c s lv xs ft w hl hfit h1 hc
  cases hs : s.ok
  · exact lawChains2 c s lv xs ft w hl hfit h1 hc hs
  cases ho : opsB xs
  · exact lawChains3 c s lv xs ft w hl hfit h1 hc hs ho
  by_cases hf0 : 0 ≤ ft
  case neg => exact lawChains4 c s lv xs ft w hl hfit h1 hc hs ho hf0
  by_cases hfn : ft ≤ xs.length
  case neg => exact lawChains5 c s lv xs ft w hl hfit h1 hc hs ho hf0 hfn
  obtain ⟨f, rfl⟩ : ∃ f : Nat, ft = f := ⟨ft.toNat, by omega⟩
  exact lawChains6 c s lv xs f w hl hfit h1 hc hs ho (by omega)
end Go.Proofs.Ytgmbolagciaenaa
