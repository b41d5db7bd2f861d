/- Gas: the walk of the law GasTrue. -/
import Derived.Test.YtgmbolagciaenaaTsp
import Derived.Test.YtgmbolagciaenaaPsn
import Derived.Test.YtgmbolagciaenaaKno
import Derived.Deep.Cut
import Derived.BigRegion
set_option linter.unusedVariables false
set_option linter.unusedSimpArgs false
namespace Go.Proofs.Ytgmbolagciaenaa
open Go.RowKit Go.Sd Gas
set_option maxRecDepth 100000 in
set_option maxHeartbeats 16000000 in
theorem lawTrue0 (c : Cav) (s : St) (lv : Value) (xs : List Gas.Op) (p : Pt) (av : Value) (xa : List Int) (bv : Value) (xb : List Int) (w : World) (hl : OpsAt w lv xs) (hfit : Fits lv) (ha : IntsAt w av xa) (hfa : Fits av) (hb : IntsAt w bv xb) (hfb : Fits bv) (h1 : ¬ xs.length ≤ 12) :
    Calls Try.prog 9 #[cavV c, stV s, lv, ptV p, av, bv] w fun e w' => e = .returned (.bool true) ∧ Below w.heap.size w w' := by
  obtain ⟨a, m, cap, rfl, hmc_xs, hcap_xs⟩ := hfit
  have hm : m = xs.length := by obtain ⟨a', c', e, -⟩ := hl; simp only [Value.slice.injEq] at e; exact e.2.1
  subst hm
  unfold maxLen at hcap_xs
  have hm_xs : xs.length ≤ 9223372036854775807 := by omega
  obtain ⟨a1, m1, cap1, rfl, hmc_xa, hcap_xa⟩ := hfa
  have hm : m1 = xa.length := by obtain ⟨a', c', e, -⟩ := ha; simp only [Value.slice.injEq] at e; exact e.2.1
  subst hm
  unfold maxLen at hcap_xa
  have hm_xa : xa.length ≤ 9223372036854775807 := by omega
  obtain ⟨a2, m2, cap2, rfl, hmc_xb, hcap_xb⟩ := hfb
  have hm : m2 = xb.length := by obtain ⟨a', c', e, -⟩ := hb; simp only [Value.slice.injEq] at e; exact e.2.1
  subst hm
  unfold maxLen at hcap_xb
  have hm_xb : xb.length ≤ 9223372036854775807 := by omega
  obtain ⟨W1, hW1⟩ : ∃ W1, w.alloc (.cells #[.int .i64 c.vlo, .int .i64 c.vhi, .int .i64 c.least, .int .i64 c.most, .int .i64 c.f0, .int .i64 c.f1, .int .i64 c.h0, .int .i64 c.h1, .int .i64 c.rock, .int .i64 c.plo, .int .i64 c.phi] 26) = W1 := ⟨_, rfl⟩
  obtain ⟨e_c, b_c, s_c⟩ := boxed hW1
  obtain ⟨W2, hW2⟩ : ∃ W2, W1.alloc (.cells #[.int .i64 s.glo, .int .i64 s.ghi, .int .i64 s.ylo, .int .i64 s.yhi, .int .i64 s.tlo, .int .i64 s.thi, .int .i64 s.wlo, .int .i64 s.whi] 28) = W2 := ⟨_, rfl⟩
  obtain ⟨e_s, b_s, s_s⟩ := boxed hW2
  replace e_c := (b_s.block _ (Array.getElem?_eq_some_iff.1 e_c).1).trans e_c
  obtain ⟨W, hW⟩ : ∃ W, W2.alloc (.cells #[.int .i64 p.g, .int .i64 p.y, .int .i64 p.t, .int .i64 p.w] 31) = W := ⟨_, rfl⟩
  obtain ⟨e_p, b_p, s_p⟩ := boxed hW
  replace e_c := (b_p.block _ (Array.getElem?_eq_some_iff.1 e_c).1).trans e_c
  replace e_s := (b_p.block _ (Array.getElem?_eq_some_iff.1 e_s).1).trans e_s
  have B0 : Below w.heap.size w W := ((b_c.trans (b_s.mono (by omega))).trans (b_p.mono (by omega)))
  have z0_c := (Array.getElem?_eq_some_iff.1 e_c).1
  have z0_s := (Array.getElem?_eq_some_iff.1 e_s).1
  have z0_p := (Array.getElem?_eq_some_iff.1 e_p).1
  have le_c : w.heap.size ≤ w.heap.size := by omega
  have le_s : w.heap.size ≤ W1.heap.size := by omega
  have le_p : w.heap.size ≤ W2.heap.size := by omega
  clear s_c b_c s_s b_s s_p b_p
  obtain ⟨q0_c_0, q0_c_1, q0_c_2, q0_c_3, q0_c_4, q0_c_5, q0_c_6, q0_c_7, q0_c_8, q0_c_9, q0_c_10⟩ := rc11 e_c
  replace e_c := Lib.hid e_c
  obtain ⟨q0_s_0, q0_s_1, q0_s_2, q0_s_3, q0_s_4, q0_s_5, q0_s_6, q0_s_7⟩ := rc8 e_s
  replace e_s := Lib.hid e_s
  obtain ⟨q0_p_0, q0_p_1, q0_p_2, q0_p_3⟩ := rc4 e_p
  replace e_p := Lib.hid e_p
  have hgw0 := grow_cell W
  have hK := Lib.hid (fun w => progKnown w)
  have hb0 := hb
  have i1 : (12 : Int) < xs.length := by omega
  clear hl ha hb hb0 hmc_xs hcap_xs hmc_xa hcap_xa hmc_xb hcap_xb h1
  go_enter Try.func9, Try.ntmps9
  go_wp2_with (first | (go_at_call 20; (with_reducible refine Calls.mono (hK.out _) ?_); rintro e w1 ⟨rfl, hB⟩; (first | (obtain ⟨g, rfl⟩ := g.next hB) | (obtain ⟨g, rfl⟩ : ∃ g : Grow W, w1 = g.x := ⟨⟨w1, hB⟩, rfl⟩)); clear hB))
  go_ret
  exact ⟨rfl, B0.trans (g.h.mono B0.size)⟩

set_option maxRecDepth 100000 in
set_option maxHeartbeats 16000000 in
theorem lawTrue1 (c : Cav) (s : St) (lv : Value) (xs : List Gas.Op) (p : Pt) (av : Value) (xa : List Int) (bv : Value) (xb : List Int) (w : World) (hl : OpsAt w lv xs) (hfit : Fits lv) (ha : IntsAt w av xa) (hfa : Fits av) (hb : IntsAt w bv xb) (hfb : Fits bv) (h1 : xs.length ≤ 12) (h2 : ¬ xa.length ≤ 20) :
    Calls Try.prog 9 #[cavV c, stV s, lv, ptV p, av, bv] w fun e w' => e = .returned (.bool true) ∧ Below w.heap.size w w' := by
  obtain ⟨a, m, cap, rfl, hmc_xs, hcap_xs⟩ := hfit
  have hm : m = xs.length := by obtain ⟨a', c', e, -⟩ := hl; simp only [Value.slice.injEq] at e; exact e.2.1
  subst hm
  unfold maxLen at hcap_xs
  have hm_xs : xs.length ≤ 9223372036854775807 := by omega
  obtain ⟨a1, m1, cap1, rfl, hmc_xa, hcap_xa⟩ := hfa
  have hm : m1 = xa.length := by obtain ⟨a', c', e, -⟩ := ha; simp only [Value.slice.injEq] at e; exact e.2.1
  subst hm
  unfold maxLen at hcap_xa
  have hm_xa : xa.length ≤ 9223372036854775807 := by omega
  obtain ⟨a2, m2, cap2, rfl, hmc_xb, hcap_xb⟩ := hfb
  have hm : m2 = xb.length := by obtain ⟨a', c', e, -⟩ := hb; simp only [Value.slice.injEq] at e; exact e.2.1
  subst hm
  unfold maxLen at hcap_xb
  have hm_xb : xb.length ≤ 9223372036854775807 := by omega
  obtain ⟨W1, hW1⟩ : ∃ W1, w.alloc (.cells #[.int .i64 c.vlo, .int .i64 c.vhi, .int .i64 c.least, .int .i64 c.most, .int .i64 c.f0, .int .i64 c.f1, .int .i64 c.h0, .int .i64 c.h1, .int .i64 c.rock, .int .i64 c.plo, .int .i64 c.phi] 26) = W1 := ⟨_, rfl⟩
  obtain ⟨e_c, b_c, s_c⟩ := boxed hW1
  obtain ⟨W2, hW2⟩ : ∃ W2, W1.alloc (.cells #[.int .i64 s.glo, .int .i64 s.ghi, .int .i64 s.ylo, .int .i64 s.yhi, .int .i64 s.tlo, .int .i64 s.thi, .int .i64 s.wlo, .int .i64 s.whi] 28) = W2 := ⟨_, rfl⟩
  obtain ⟨e_s, b_s, s_s⟩ := boxed hW2
  replace e_c := (b_s.block _ (Array.getElem?_eq_some_iff.1 e_c).1).trans e_c
  obtain ⟨W, hW⟩ : ∃ W, W2.alloc (.cells #[.int .i64 p.g, .int .i64 p.y, .int .i64 p.t, .int .i64 p.w] 31) = W := ⟨_, rfl⟩
  obtain ⟨e_p, b_p, s_p⟩ := boxed hW
  replace e_c := (b_p.block _ (Array.getElem?_eq_some_iff.1 e_c).1).trans e_c
  replace e_s := (b_p.block _ (Array.getElem?_eq_some_iff.1 e_s).1).trans e_s
  have B0 : Below w.heap.size w W := ((b_c.trans (b_s.mono (by omega))).trans (b_p.mono (by omega)))
  have z0_c := (Array.getElem?_eq_some_iff.1 e_c).1
  have z0_s := (Array.getElem?_eq_some_iff.1 e_s).1
  have z0_p := (Array.getElem?_eq_some_iff.1 e_p).1
  have le_c : w.heap.size ≤ w.heap.size := by omega
  have le_s : w.heap.size ≤ W1.heap.size := by omega
  have le_p : w.heap.size ≤ W2.heap.size := by omega
  clear s_c b_c s_s b_s s_p b_p
  obtain ⟨q0_c_0, q0_c_1, q0_c_2, q0_c_3, q0_c_4, q0_c_5, q0_c_6, q0_c_7, q0_c_8, q0_c_9, q0_c_10⟩ := rc11 e_c
  replace e_c := Lib.hid e_c
  obtain ⟨q0_s_0, q0_s_1, q0_s_2, q0_s_3, q0_s_4, q0_s_5, q0_s_6, q0_s_7⟩ := rc8 e_s
  replace e_s := Lib.hid e_s
  obtain ⟨q0_p_0, q0_p_1, q0_p_2, q0_p_3⟩ := rc4 e_p
  replace e_p := Lib.hid e_p
  have hgw0 := grow_cell W
  have hK := Lib.hid (fun w => progKnown w)
  have hb0 := hb
  have i1 : ¬ (12 : Int) < xs.length := by omega
  have i2 : (20 : Int) < xa.length := by omega
  clear hl ha hb hb0 hmc_xs hcap_xs hmc_xa hcap_xa hmc_xb hcap_xb h1 h2
  go_enter Try.func9, Try.ntmps9
  go_wp2_with (first | (go_at_call 20; (with_reducible refine Calls.mono (hK.out _) ?_); rintro e w1 ⟨rfl, hB⟩; (first | (obtain ⟨g, rfl⟩ := g.next hB) | (obtain ⟨g, rfl⟩ : ∃ g : Grow W, w1 = g.x := ⟨⟨w1, hB⟩, rfl⟩)); clear hB))
  go_ret
  exact ⟨rfl, B0.trans (g.h.mono B0.size)⟩

set_option maxRecDepth 100000 in
set_option maxHeartbeats 16000000 in
theorem lawTrue2 (c : Cav) (s : St) (lv : Value) (xs : List Gas.Op) (p : Pt) (av : Value) (xa : List Int) (bv : Value) (xb : List Int) (w : World) (hl : OpsAt w lv xs) (hfit : Fits lv) (ha : IntsAt w av xa) (hfa : Fits av) (hb : IntsAt w bv xb) (hfb : Fits bv) (h1 : xs.length ≤ 12) (h2 : xa.length ≤ 20) (h3 : ¬ xb.length ≤ 20) :
    Calls Try.prog 9 #[cavV c, stV s, lv, ptV p, av, bv] w fun e w' => e = .returned (.bool true) ∧ Below w.heap.size w w' := by
  obtain ⟨a, m, cap, rfl, hmc_xs, hcap_xs⟩ := hfit
  have hm : m = xs.length := by obtain ⟨a', c', e, -⟩ := hl; simp only [Value.slice.injEq] at e; exact e.2.1
  subst hm
  unfold maxLen at hcap_xs
  have hm_xs : xs.length ≤ 9223372036854775807 := by omega
  obtain ⟨a1, m1, cap1, rfl, hmc_xa, hcap_xa⟩ := hfa
  have hm : m1 = xa.length := by obtain ⟨a', c', e, -⟩ := ha; simp only [Value.slice.injEq] at e; exact e.2.1
  subst hm
  unfold maxLen at hcap_xa
  have hm_xa : xa.length ≤ 9223372036854775807 := by omega
  obtain ⟨a2, m2, cap2, rfl, hmc_xb, hcap_xb⟩ := hfb
  have hm : m2 = xb.length := by obtain ⟨a', c', e, -⟩ := hb; simp only [Value.slice.injEq] at e; exact e.2.1
  subst hm
  unfold maxLen at hcap_xb
  have hm_xb : xb.length ≤ 9223372036854775807 := by omega
  obtain ⟨W1, hW1⟩ : ∃ W1, w.alloc (.cells #[.int .i64 c.vlo, .int .i64 c.vhi, .int .i64 c.least, .int .i64 c.most, .int .i64 c.f0, .int .i64 c.f1, .int .i64 c.h0, .int .i64 c.h1, .int .i64 c.rock, .int .i64 c.plo, .int .i64 c.phi] 26) = W1 := ⟨_, rfl⟩
  obtain ⟨e_c, b_c, s_c⟩ := boxed hW1
  obtain ⟨W2, hW2⟩ : ∃ W2, W1.alloc (.cells #[.int .i64 s.glo, .int .i64 s.ghi, .int .i64 s.ylo, .int .i64 s.yhi, .int .i64 s.tlo, .int .i64 s.thi, .int .i64 s.wlo, .int .i64 s.whi] 28) = W2 := ⟨_, rfl⟩
  obtain ⟨e_s, b_s, s_s⟩ := boxed hW2
  replace e_c := (b_s.block _ (Array.getElem?_eq_some_iff.1 e_c).1).trans e_c
  obtain ⟨W, hW⟩ : ∃ W, W2.alloc (.cells #[.int .i64 p.g, .int .i64 p.y, .int .i64 p.t, .int .i64 p.w] 31) = W := ⟨_, rfl⟩
  obtain ⟨e_p, b_p, s_p⟩ := boxed hW
  replace e_c := (b_p.block _ (Array.getElem?_eq_some_iff.1 e_c).1).trans e_c
  replace e_s := (b_p.block _ (Array.getElem?_eq_some_iff.1 e_s).1).trans e_s
  have B0 : Below w.heap.size w W := ((b_c.trans (b_s.mono (by omega))).trans (b_p.mono (by omega)))
  have z0_c := (Array.getElem?_eq_some_iff.1 e_c).1
  have z0_s := (Array.getElem?_eq_some_iff.1 e_s).1
  have z0_p := (Array.getElem?_eq_some_iff.1 e_p).1
  have le_c : w.heap.size ≤ w.heap.size := by omega
  have le_s : w.heap.size ≤ W1.heap.size := by omega
  have le_p : w.heap.size ≤ W2.heap.size := by omega
  clear s_c b_c s_s b_s s_p b_p
  obtain ⟨q0_c_0, q0_c_1, q0_c_2, q0_c_3, q0_c_4, q0_c_5, q0_c_6, q0_c_7, q0_c_8, q0_c_9, q0_c_10⟩ := rc11 e_c
  replace e_c := Lib.hid e_c
  obtain ⟨q0_s_0, q0_s_1, q0_s_2, q0_s_3, q0_s_4, q0_s_5, q0_s_6, q0_s_7⟩ := rc8 e_s
  replace e_s := Lib.hid e_s
  obtain ⟨q0_p_0, q0_p_1, q0_p_2, q0_p_3⟩ := rc4 e_p
  replace e_p := Lib.hid e_p
  have hgw0 := grow_cell W
  have hK := Lib.hid (fun w => progKnown w)
  have hb0 := hb
  have i1 : ¬ (12 : Int) < xs.length := by omega
  have i2 : ¬ (20 : Int) < xa.length := by omega
  have i3 : (20 : Int) < xb.length := by omega
  clear hl ha hb hb0 hmc_xs hcap_xs hmc_xa hcap_xa hmc_xb hcap_xb h1 h2 h3
  go_enter Try.func9, Try.ntmps9
  go_wp2_with (first | (go_at_call 20; (with_reducible refine Calls.mono (hK.out _) ?_); rintro e w1 ⟨rfl, hB⟩; (first | (obtain ⟨g, rfl⟩ := g.next hB) | (obtain ⟨g, rfl⟩ : ∃ g : Grow W, w1 = g.x := ⟨⟨w1, hB⟩, rfl⟩)); clear hB))
  go_ret
  exact ⟨rfl, B0.trans (g.h.mono B0.size)⟩

set_option maxRecDepth 100000 in
set_option maxHeartbeats 16000000 in
theorem lawTrue3 (c : Cav) (s : St) (lv : Value) (xs : List Gas.Op) (p : Pt) (av : Value) (xa : List Int) (bv : Value) (xb : List Int) (w : World) (hl : OpsAt w lv xs) (hfit : Fits lv) (ha : IntsAt w av xa) (hfa : Fits av) (hb : IntsAt w bv xb) (hfb : Fits bv) (h1 : xs.length ≤ 12) (h2 : xa.length ≤ 20) (h3 : xb.length ≤ 20) (hc : c.ok = false) :
    Calls Try.prog 9 #[cavV c, stV s, lv, ptV p, av, bv] w fun e w' => e = .returned (.bool true) ∧ Below w.heap.size w w' := by
  obtain ⟨a, m, cap, rfl, hmc_xs, hcap_xs⟩ := hfit
  have hm : m = xs.length := by obtain ⟨a', c', e, -⟩ := hl; simp only [Value.slice.injEq] at e; exact e.2.1
  subst hm
  unfold maxLen at hcap_xs
  have hm_xs : xs.length ≤ 9223372036854775807 := by omega
  obtain ⟨a1, m1, cap1, rfl, hmc_xa, hcap_xa⟩ := hfa
  have hm : m1 = xa.length := by obtain ⟨a', c', e, -⟩ := ha; simp only [Value.slice.injEq] at e; exact e.2.1
  subst hm
  unfold maxLen at hcap_xa
  have hm_xa : xa.length ≤ 9223372036854775807 := by omega
  obtain ⟨a2, m2, cap2, rfl, hmc_xb, hcap_xb⟩ := hfb
  have hm : m2 = xb.length := by obtain ⟨a', c', e, -⟩ := hb; simp only [Value.slice.injEq] at e; exact e.2.1
  subst hm
  unfold maxLen at hcap_xb
  have hm_xb : xb.length ≤ 9223372036854775807 := by omega
  obtain ⟨W1, hW1⟩ : ∃ W1, w.alloc (.cells #[.int .i64 c.vlo, .int .i64 c.vhi, .int .i64 c.least, .int .i64 c.most, .int .i64 c.f0, .int .i64 c.f1, .int .i64 c.h0, .int .i64 c.h1, .int .i64 c.rock, .int .i64 c.plo, .int .i64 c.phi] 26) = W1 := ⟨_, rfl⟩
  obtain ⟨e_c, b_c, s_c⟩ := boxed hW1
  obtain ⟨W2, hW2⟩ : ∃ W2, W1.alloc (.cells #[.int .i64 s.glo, .int .i64 s.ghi, .int .i64 s.ylo, .int .i64 s.yhi, .int .i64 s.tlo, .int .i64 s.thi, .int .i64 s.wlo, .int .i64 s.whi] 28) = W2 := ⟨_, rfl⟩
  obtain ⟨e_s, b_s, s_s⟩ := boxed hW2
  replace e_c := (b_s.block _ (Array.getElem?_eq_some_iff.1 e_c).1).trans e_c
  obtain ⟨W, hW⟩ : ∃ W, W2.alloc (.cells #[.int .i64 p.g, .int .i64 p.y, .int .i64 p.t, .int .i64 p.w] 31) = W := ⟨_, rfl⟩
  obtain ⟨e_p, b_p, s_p⟩ := boxed hW
  replace e_c := (b_p.block _ (Array.getElem?_eq_some_iff.1 e_c).1).trans e_c
  replace e_s := (b_p.block _ (Array.getElem?_eq_some_iff.1 e_s).1).trans e_s
  have B0 : Below w.heap.size w W := ((b_c.trans (b_s.mono (by omega))).trans (b_p.mono (by omega)))
  have z0_c := (Array.getElem?_eq_some_iff.1 e_c).1
  have z0_s := (Array.getElem?_eq_some_iff.1 e_s).1
  have z0_p := (Array.getElem?_eq_some_iff.1 e_p).1
  have le_c : w.heap.size ≤ w.heap.size := by omega
  have le_s : w.heap.size ≤ W1.heap.size := by omega
  have le_p : w.heap.size ≤ W2.heap.size := by omega
  clear s_c b_c s_s b_s s_p b_p
  obtain ⟨q0_c_0, q0_c_1, q0_c_2, q0_c_3, q0_c_4, q0_c_5, q0_c_6, q0_c_7, q0_c_8, q0_c_9, q0_c_10⟩ := rc11 e_c
  replace e_c := Lib.hid e_c
  obtain ⟨q0_s_0, q0_s_1, q0_s_2, q0_s_3, q0_s_4, q0_s_5, q0_s_6, q0_s_7⟩ := rc8 e_s
  replace e_s := Lib.hid e_s
  obtain ⟨q0_p_0, q0_p_1, q0_p_2, q0_p_3⟩ := rc4 e_p
  replace e_p := Lib.hid e_p
  have hgw0 := grow_cell W
  have hK := Lib.hid (fun w => progKnown w)
  have hb0 := hb
  have i1 : ¬ (12 : Int) < xs.length := by omega
  have i2 : ¬ (20 : Int) < xa.length := by omega
  have i3 : ¬ (20 : Int) < xb.length := by omega
  have kRC := Lib.hid (fun w => (refCavern c w).mono fun e w' hb => BoolB.lit hb hc)
  clear hl ha hb hb0 hmc_xs hcap_xs hmc_xa hcap_xa hmc_xb hcap_xb h1 h2 h3
  replace hc := Lib.hid hc
  go_enter Try.func9, Try.ntmps9
  go_wp2_with (first | (go_at_call 17; (with_reducible refine Calls.mono (kRC.out _) ?_); rintro e w1 ⟨rfl, hB⟩; (first | (obtain ⟨g, rfl⟩ := g.next hB) | (obtain ⟨g, rfl⟩ : ∃ g : Grow W, w1 = g.x := ⟨⟨w1, hB⟩, rfl⟩)); clear hB) | (go_at_call 20; (with_reducible refine Calls.mono (hK.out _) ?_); rintro e w1 ⟨rfl, hB⟩; (first | (obtain ⟨g, rfl⟩ := g.next hB) | (obtain ⟨g, rfl⟩ : ∃ g : Grow W, w1 = g.x := ⟨⟨w1, hB⟩, rfl⟩)); clear hB))
  go_ret
  exact ⟨rfl, B0.trans (g.h.mono B0.size)⟩

set_option maxRecDepth 100000 in
set_option maxHeartbeats 16000000 in
theorem lawTrue4 (c : Cav) (s : St) (lv : Value) (xs : List Gas.Op) (p : Pt) (av : Value) (xa : List Int) (bv : Value) (xb : List Int) (w : World) (hl : OpsAt w lv xs) (hfit : Fits lv) (ha : IntsAt w av xa) (hfa : Fits av) (hb : IntsAt w bv xb) (hfb : Fits bv) (h1 : xs.length ≤ 12) (h2 : xa.length ≤ 20) (h3 : xb.length ≤ 20) (hc : c.ok = true) (hs : s.ok = false) :
    Calls Try.prog 9 #[cavV c, stV s, lv, ptV p, av, bv] w fun e w' => e = .returned (.bool true) ∧ Below w.heap.size w w' := by
  obtain ⟨a, m, cap, rfl, hmc_xs, hcap_xs⟩ := hfit
  have hm : m = xs.length := by obtain ⟨a', c', e, -⟩ := hl; simp only [Value.slice.injEq] at e; exact e.2.1
  subst hm
  unfold maxLen at hcap_xs
  have hm_xs : xs.length ≤ 9223372036854775807 := by omega
  obtain ⟨a1, m1, cap1, rfl, hmc_xa, hcap_xa⟩ := hfa
  have hm : m1 = xa.length := by obtain ⟨a', c', e, -⟩ := ha; simp only [Value.slice.injEq] at e; exact e.2.1
  subst hm
  unfold maxLen at hcap_xa
  have hm_xa : xa.length ≤ 9223372036854775807 := by omega
  obtain ⟨a2, m2, cap2, rfl, hmc_xb, hcap_xb⟩ := hfb
  have hm : m2 = xb.length := by obtain ⟨a', c', e, -⟩ := hb; simp only [Value.slice.injEq] at e; exact e.2.1
  subst hm
  unfold maxLen at hcap_xb
  have hm_xb : xb.length ≤ 9223372036854775807 := by omega
  obtain ⟨W1, hW1⟩ : ∃ W1, w.alloc (.cells #[.int .i64 c.vlo, .int .i64 c.vhi, .int .i64 c.least, .int .i64 c.most, .int .i64 c.f0, .int .i64 c.f1, .int .i64 c.h0, .int .i64 c.h1, .int .i64 c.rock, .int .i64 c.plo, .int .i64 c.phi] 26) = W1 := ⟨_, rfl⟩
  obtain ⟨e_c, b_c, s_c⟩ := boxed hW1
  obtain ⟨W2, hW2⟩ : ∃ W2, W1.alloc (.cells #[.int .i64 s.glo, .int .i64 s.ghi, .int .i64 s.ylo, .int .i64 s.yhi, .int .i64 s.tlo, .int .i64 s.thi, .int .i64 s.wlo, .int .i64 s.whi] 28) = W2 := ⟨_, rfl⟩
  obtain ⟨e_s, b_s, s_s⟩ := boxed hW2
  replace e_c := (b_s.block _ (Array.getElem?_eq_some_iff.1 e_c).1).trans e_c
  obtain ⟨W, hW⟩ : ∃ W, W2.alloc (.cells #[.int .i64 p.g, .int .i64 p.y, .int .i64 p.t, .int .i64 p.w] 31) = W := ⟨_, rfl⟩
  obtain ⟨e_p, b_p, s_p⟩ := boxed hW
  replace e_c := (b_p.block _ (Array.getElem?_eq_some_iff.1 e_c).1).trans e_c
  replace e_s := (b_p.block _ (Array.getElem?_eq_some_iff.1 e_s).1).trans e_s
  have B0 : Below w.heap.size w W := ((b_c.trans (b_s.mono (by omega))).trans (b_p.mono (by omega)))
  have z0_c := (Array.getElem?_eq_some_iff.1 e_c).1
  have z0_s := (Array.getElem?_eq_some_iff.1 e_s).1
  have z0_p := (Array.getElem?_eq_some_iff.1 e_p).1
  have le_c : w.heap.size ≤ w.heap.size := by omega
  have le_s : w.heap.size ≤ W1.heap.size := by omega
  have le_p : w.heap.size ≤ W2.heap.size := by omega
  clear s_c b_c s_s b_s s_p b_p
  obtain ⟨q0_c_0, q0_c_1, q0_c_2, q0_c_3, q0_c_4, q0_c_5, q0_c_6, q0_c_7, q0_c_8, q0_c_9, q0_c_10⟩ := rc11 e_c
  replace e_c := Lib.hid e_c
  obtain ⟨q0_s_0, q0_s_1, q0_s_2, q0_s_3, q0_s_4, q0_s_5, q0_s_6, q0_s_7⟩ := rc8 e_s
  replace e_s := Lib.hid e_s
  obtain ⟨q0_p_0, q0_p_1, q0_p_2, q0_p_3⟩ := rc4 e_p
  replace e_p := Lib.hid e_p
  have hgw0 := grow_cell W
  have hK := Lib.hid (fun w => progKnown w)
  have hb0 := hb
  have i1 : ¬ (12 : Int) < xs.length := by omega
  have i2 : ¬ (20 : Int) < xa.length := by omega
  have i3 : ¬ (20 : Int) < xb.length := by omega
  have kRC := Lib.hid (fun w => (refCavern c w).mono fun e w' hb => BoolB.lit hb hc)
  have kRS := Lib.hid (fun w => (refState s w).mono fun e w' hb => BoolB.lit hb hs)
  clear hl ha hb hb0 hmc_xs hcap_xs hmc_xa hcap_xa hmc_xb hcap_xb h1 h2 h3
  replace hc := Lib.hid hc; replace hs := Lib.hid hs
  go_enter Try.func9, Try.ntmps9
  go_wp2_with (first | (go_at_call 17; (with_reducible refine Calls.mono (kRC.out _) ?_); rintro e w1 ⟨rfl, hB⟩; (first | (obtain ⟨g, rfl⟩ := g.next hB) | (obtain ⟨g, rfl⟩ : ∃ g : Grow W, w1 = g.x := ⟨⟨w1, hB⟩, rfl⟩)); clear hB) | (go_at_call 18; (with_reducible refine Calls.mono (kRS.out _) ?_); rintro e w1 ⟨rfl, hB⟩; (first | (obtain ⟨g, rfl⟩ := g.next hB) | (obtain ⟨g, rfl⟩ : ∃ g : Grow W, w1 = g.x := ⟨⟨w1, hB⟩, rfl⟩)); clear hB) | (go_at_call 20; (with_reducible refine Calls.mono (hK.out _) ?_); rintro e w1 ⟨rfl, hB⟩; (first | (obtain ⟨g, rfl⟩ := g.next hB) | (obtain ⟨g, rfl⟩ : ∃ g : Grow W, w1 = g.x := ⟨⟨w1, hB⟩, rfl⟩)); clear hB))
  go_ret
  exact ⟨rfl, B0.trans (g.h.mono B0.size)⟩

set_option maxRecDepth 100000 in
set_option maxHeartbeats 16000000 in
theorem lawTrue5 (c : Cav) (s : St) (lv : Value) (xs : List Gas.Op) (p : Pt) (av : Value) (xa : List Int) (bv : Value) (xb : List Int) (w : World) (hl : OpsAt w lv xs) (hfit : Fits lv) (ha : IntsAt w av xa) (hfa : Fits av) (hb : IntsAt w bv xb) (hfb : Fits bv) (h1 : xs.length ≤ 12) (h2 : xa.length ≤ 20) (h3 : xb.length ≤ 20) (hc : c.ok = true) (hs : s.ok = true) (ho : opsB xs = false) :
    Calls Try.prog 9 #[cavV c, stV s, lv, ptV p, av, bv] w fun e w' => e = .returned (.bool true) ∧ Below w.heap.size w w' := by
  obtain ⟨a, m, cap, rfl, hmc_xs, hcap_xs⟩ := hfit
  have hm : m = xs.length := by obtain ⟨a', c', e, -⟩ := hl; simp only [Value.slice.injEq] at e; exact e.2.1
  subst hm
  unfold maxLen at hcap_xs
  have hm_xs : xs.length ≤ 9223372036854775807 := by omega
  obtain ⟨a1, m1, cap1, rfl, hmc_xa, hcap_xa⟩ := hfa
  have hm : m1 = xa.length := by obtain ⟨a', c', e, -⟩ := ha; simp only [Value.slice.injEq] at e; exact e.2.1
  subst hm
  unfold maxLen at hcap_xa
  have hm_xa : xa.length ≤ 9223372036854775807 := by omega
  obtain ⟨a2, m2, cap2, rfl, hmc_xb, hcap_xb⟩ := hfb
  have hm : m2 = xb.length := by obtain ⟨a', c', e, -⟩ := hb; simp only [Value.slice.injEq] at e; exact e.2.1
  subst hm
  unfold maxLen at hcap_xb
  have hm_xb : xb.length ≤ 9223372036854775807 := by omega
  obtain ⟨W1, hW1⟩ : ∃ W1, w.alloc (.cells #[.int .i64 c.vlo, .int .i64 c.vhi, .int .i64 c.least, .int .i64 c.most, .int .i64 c.f0, .int .i64 c.f1, .int .i64 c.h0, .int .i64 c.h1, .int .i64 c.rock, .int .i64 c.plo, .int .i64 c.phi] 26) = W1 := ⟨_, rfl⟩
  obtain ⟨e_c, b_c, s_c⟩ := boxed hW1
  obtain ⟨W2, hW2⟩ : ∃ W2, W1.alloc (.cells #[.int .i64 s.glo, .int .i64 s.ghi, .int .i64 s.ylo, .int .i64 s.yhi, .int .i64 s.tlo, .int .i64 s.thi, .int .i64 s.wlo, .int .i64 s.whi] 28) = W2 := ⟨_, rfl⟩
  obtain ⟨e_s, b_s, s_s⟩ := boxed hW2
  replace e_c := (b_s.block _ (Array.getElem?_eq_some_iff.1 e_c).1).trans e_c
  obtain ⟨W, hW⟩ : ∃ W, W2.alloc (.cells #[.int .i64 p.g, .int .i64 p.y, .int .i64 p.t, .int .i64 p.w] 31) = W := ⟨_, rfl⟩
  obtain ⟨e_p, b_p, s_p⟩ := boxed hW
  replace e_c := (b_p.block _ (Array.getElem?_eq_some_iff.1 e_c).1).trans e_c
  replace e_s := (b_p.block _ (Array.getElem?_eq_some_iff.1 e_s).1).trans e_s
  have B0 : Below w.heap.size w W := ((b_c.trans (b_s.mono (by omega))).trans (b_p.mono (by omega)))
  have z0_c := (Array.getElem?_eq_some_iff.1 e_c).1
  have z0_s := (Array.getElem?_eq_some_iff.1 e_s).1
  have z0_p := (Array.getElem?_eq_some_iff.1 e_p).1
  have le_c : w.heap.size ≤ w.heap.size := by omega
  have le_s : w.heap.size ≤ W1.heap.size := by omega
  have le_p : w.heap.size ≤ W2.heap.size := by omega
  clear s_c b_c s_s b_s s_p b_p
  obtain ⟨q0_c_0, q0_c_1, q0_c_2, q0_c_3, q0_c_4, q0_c_5, q0_c_6, q0_c_7, q0_c_8, q0_c_9, q0_c_10⟩ := rc11 e_c
  replace e_c := Lib.hid e_c
  obtain ⟨q0_s_0, q0_s_1, q0_s_2, q0_s_3, q0_s_4, q0_s_5, q0_s_6, q0_s_7⟩ := rc8 e_s
  replace e_s := Lib.hid e_s
  obtain ⟨q0_p_0, q0_p_1, q0_p_2, q0_p_3⟩ := rc4 e_p
  replace e_p := Lib.hid e_p
  have hgw0 := grow_cell W
  have hK := Lib.hid (fun w => progKnown w)
  have hb0 := hb
  have i1 : ¬ (12 : Int) < xs.length := by omega
  have i2 : ¬ (20 : Int) < xa.length := by omega
  have i3 : ¬ (20 : Int) < xb.length := by omega
  have kRC := Lib.hid (fun w => (refCavern c w).mono fun e w' hb => BoolB.lit hb hc)
  have kRS := Lib.hid (fun w => (refState s w).mono fun e w' hb => BoolB.lit hb hs)
  have kRO : Hid (∀ w', Below w.heap.size w w' → Calls Try.prog 26 #[.slice a xs.length cap] w' fun e w'' => e = .returned (.bool false) ∧ Below w'.heap.size w' w'') := Lib.hid (fun w' hb => by have h0 := refOps _ xs w' (hl.mono hb); rw [ho] at h0; exact h0)
  clear hl ha hb hb0 hmc_xs hcap_xs hmc_xa hcap_xa hmc_xb hcap_xb h1 h2 h3
  replace hc := Lib.hid hc; replace hs := Lib.hid hs; replace ho := Lib.hid ho
  go_enter Try.func9, Try.ntmps9
  go_wp2_with (first | (go_at_call 17; (with_reducible refine Calls.mono (kRC.out _) ?_); rintro e w1 ⟨rfl, hB⟩; (first | (obtain ⟨g, rfl⟩ := g.next hB) | (obtain ⟨g, rfl⟩ : ∃ g : Grow W, w1 = g.x := ⟨⟨w1, hB⟩, rfl⟩)); clear hB) | (go_at_call 18; (with_reducible refine Calls.mono (kRS.out _) ?_); rintro e w1 ⟨rfl, hB⟩; (first | (obtain ⟨g, rfl⟩ := g.next hB) | (obtain ⟨g, rfl⟩ : ∃ g : Grow W, w1 = g.x := ⟨⟨w1, hB⟩, rfl⟩)); clear hB) | (go_at_call 26; (with_reducible refine Calls.mono (kRO.out _ (by first | (with_reducible exact B0.trans (g.h.mono B0.size)) | (with_reducible exact B0))) ?_); rintro e w1 ⟨rfl, hB⟩; (first | (obtain ⟨g, rfl⟩ := g.next hB) | (obtain ⟨g, rfl⟩ : ∃ g : Grow W, w1 = g.x := ⟨⟨w1, hB⟩, rfl⟩)); clear hB) | (go_at_call 20; (with_reducible refine Calls.mono (hK.out _) ?_); rintro e w1 ⟨rfl, hB⟩; (first | (obtain ⟨g, rfl⟩ := g.next hB) | (obtain ⟨g, rfl⟩ : ∃ g : Grow W, w1 = g.x := ⟨⟨w1, hB⟩, rfl⟩)); clear hB))
  go_ret
  exact ⟨rfl, B0.trans (g.h.mono B0.size)⟩

set_option maxRecDepth 100000 in
set_option maxHeartbeats 16000000 in
theorem lawTrue6 (c : Cav) (s : St) (lv : Value) (xs : List Gas.Op) (p : Pt) (av : Value) (xa : List Int) (bv : Value) (xb : List Int) (w : World) (hl : OpsAt w lv xs) (hfit : Fits lv) (ha : IntsAt w av xa) (hfa : Fits av) (hb : IntsAt w bv xb) (hfb : Fits bv) (h1 : xs.length ≤ 12) (h2 : xa.length ≤ 20) (h3 : xb.length ≤ 20) (hc : c.ok = true) (hs : s.ok = true) (ho : opsB xs = true) (hh : hasB s p = false) :
    Calls Try.prog 9 #[cavV c, stV s, lv, ptV p, av, bv] w fun e w' => e = .returned (.bool true) ∧ Below w.heap.size w w' := by
  obtain ⟨a, m, cap, rfl, hmc_xs, hcap_xs⟩ := hfit
  have hm : m = xs.length := by obtain ⟨a', c', e, -⟩ := hl; simp only [Value.slice.injEq] at e; exact e.2.1
  subst hm
  unfold maxLen at hcap_xs
  have hm_xs : xs.length ≤ 9223372036854775807 := by omega
  obtain ⟨a1, m1, cap1, rfl, hmc_xa, hcap_xa⟩ := hfa
  have hm : m1 = xa.length := by obtain ⟨a', c', e, -⟩ := ha; simp only [Value.slice.injEq] at e; exact e.2.1
  subst hm
  unfold maxLen at hcap_xa
  have hm_xa : xa.length ≤ 9223372036854775807 := by omega
  obtain ⟨a2, m2, cap2, rfl, hmc_xb, hcap_xb⟩ := hfb
  have hm : m2 = xb.length := by obtain ⟨a', c', e, -⟩ := hb; simp only [Value.slice.injEq] at e; exact e.2.1
  subst hm
  unfold maxLen at hcap_xb
  have hm_xb : xb.length ≤ 9223372036854775807 := by omega
  obtain ⟨W1, hW1⟩ : ∃ W1, w.alloc (.cells #[.int .i64 c.vlo, .int .i64 c.vhi, .int .i64 c.least, .int .i64 c.most, .int .i64 c.f0, .int .i64 c.f1, .int .i64 c.h0, .int .i64 c.h1, .int .i64 c.rock, .int .i64 c.plo, .int .i64 c.phi] 26) = W1 := ⟨_, rfl⟩
  obtain ⟨e_c, b_c, s_c⟩ := boxed hW1
  obtain ⟨W2, hW2⟩ : ∃ W2, W1.alloc (.cells #[.int .i64 s.glo, .int .i64 s.ghi, .int .i64 s.ylo, .int .i64 s.yhi, .int .i64 s.tlo, .int .i64 s.thi, .int .i64 s.wlo, .int .i64 s.whi] 28) = W2 := ⟨_, rfl⟩
  obtain ⟨e_s, b_s, s_s⟩ := boxed hW2
  replace e_c := (b_s.block _ (Array.getElem?_eq_some_iff.1 e_c).1).trans e_c
  obtain ⟨W, hW⟩ : ∃ W, W2.alloc (.cells #[.int .i64 p.g, .int .i64 p.y, .int .i64 p.t, .int .i64 p.w] 31) = W := ⟨_, rfl⟩
  obtain ⟨e_p, b_p, s_p⟩ := boxed hW
  replace e_c := (b_p.block _ (Array.getElem?_eq_some_iff.1 e_c).1).trans e_c
  replace e_s := (b_p.block _ (Array.getElem?_eq_some_iff.1 e_s).1).trans e_s
  have B0 : Below w.heap.size w W := ((b_c.trans (b_s.mono (by omega))).trans (b_p.mono (by omega)))
  have z0_c := (Array.getElem?_eq_some_iff.1 e_c).1
  have z0_s := (Array.getElem?_eq_some_iff.1 e_s).1
  have z0_p := (Array.getElem?_eq_some_iff.1 e_p).1
  have le_c : w.heap.size ≤ w.heap.size := by omega
  have le_s : w.heap.size ≤ W1.heap.size := by omega
  have le_p : w.heap.size ≤ W2.heap.size := by omega
  clear s_c b_c s_s b_s s_p b_p
  obtain ⟨q0_c_0, q0_c_1, q0_c_2, q0_c_3, q0_c_4, q0_c_5, q0_c_6, q0_c_7, q0_c_8, q0_c_9, q0_c_10⟩ := rc11 e_c
  replace e_c := Lib.hid e_c
  obtain ⟨q0_s_0, q0_s_1, q0_s_2, q0_s_3, q0_s_4, q0_s_5, q0_s_6, q0_s_7⟩ := rc8 e_s
  replace e_s := Lib.hid e_s
  obtain ⟨q0_p_0, q0_p_1, q0_p_2, q0_p_3⟩ := rc4 e_p
  replace e_p := Lib.hid e_p
  have hgw0 := grow_cell W
  have hK := Lib.hid (fun w => progKnown w)
  have hb0 := hb
  have i1 : ¬ (12 : Int) < xs.length := by omega
  have i2 : ¬ (20 : Int) < xa.length := by omega
  have i3 : ¬ (20 : Int) < xb.length := by omega
  have kRC := Lib.hid (fun w => (refCavern c w).mono fun e w' hb => BoolB.lit hb hc)
  have kRS := Lib.hid (fun w => (refState s w).mono fun e w' hb => BoolB.lit hb hs)
  have kRO : Hid (∀ w', Below w.heap.size w w' → Calls Try.prog 26 #[.slice a xs.length cap] w' fun e w'' => e = .returned (.bool true) ∧ Below w'.heap.size w' w'') := Lib.hid (fun w' hb => by have h0 := refOps _ xs w' (hl.mono hb); rw [ho] at h0; exact h0)
  have kRH := Lib.hid (fun w => (refHas s p w).mono fun e w' hb => BoolB.lit hb hh)
  clear hl ha hb hb0 hmc_xs hcap_xs hmc_xa hcap_xa hmc_xb hcap_xb h1 h2 h3
  replace hc := Lib.hid hc; replace hs := Lib.hid hs; replace ho := Lib.hid ho; replace hh := Lib.hid hh
  go_enter Try.func9, Try.ntmps9
  go_wp2_with (first | (go_at_call 17; (with_reducible refine Calls.mono (kRC.out _) ?_); rintro e w1 ⟨rfl, hB⟩; (first | (obtain ⟨g, rfl⟩ := g.next hB) | (obtain ⟨g, rfl⟩ : ∃ g : Grow W, w1 = g.x := ⟨⟨w1, hB⟩, rfl⟩)); clear hB) | (go_at_call 18; (with_reducible refine Calls.mono (kRS.out _) ?_); rintro e w1 ⟨rfl, hB⟩; (first | (obtain ⟨g, rfl⟩ := g.next hB) | (obtain ⟨g, rfl⟩ : ∃ g : Grow W, w1 = g.x := ⟨⟨w1, hB⟩, rfl⟩)); clear hB) | (go_at_call 26; (with_reducible refine Calls.mono (kRO.out _ (by first | (with_reducible exact B0.trans (g.h.mono B0.size)) | (with_reducible exact B0))) ?_); rintro e w1 ⟨rfl, hB⟩; (first | (obtain ⟨g, rfl⟩ := g.next hB) | (obtain ⟨g, rfl⟩ : ∃ g : Grow W, w1 = g.x := ⟨⟨w1, hB⟩, rfl⟩)); clear hB) | (go_at_call 34; (with_reducible refine Calls.mono (kRH.out _) ?_); rintro e w1 ⟨rfl, hB⟩; (first | (obtain ⟨g, rfl⟩ := g.next hB) | (obtain ⟨g, rfl⟩ : ∃ g : Grow W, w1 = g.x := ⟨⟨w1, hB⟩, rfl⟩)); clear hB) | (go_at_call 20; (with_reducible refine Calls.mono (hK.out _) ?_); rintro e w1 ⟨rfl, hB⟩; (first | (obtain ⟨g, rfl⟩ := g.next hB) | (obtain ⟨g, rfl⟩ : ∃ g : Grow W, w1 = g.x := ⟨⟨w1, hB⟩, rfl⟩)); clear hB))
  go_ret
  exact ⟨rfl, B0.trans (g.h.mono B0.size)⟩

set_option maxRecDepth 100000 in
set_option maxHeartbeats 16000000 in
theorem lawTrue7 (c : Cav) (s : St) (lv : Value) (xs : List Gas.Op) (p : Pt) (av : Value) (xa : List Int) (bv : Value) (xb : List Int) (w : World) (hl : OpsAt w lv xs) (hfit : Fits lv) (ha : IntsAt w av xa) (hfa : Fits av) (hb : IntsAt w bv xb) (hfb : Fits bv) (h1 : xs.length ≤ 12) (h2 : xa.length ≤ 20) (h3 : xb.length ≤ 20) (hc : c.ok = true) (hs : s.ok = true) (ho : opsB xs = true) (hh : hasB s p = true) (ht : truthB xs xa xb = false) :
    Calls Try.prog 9 #[cavV c, stV s, lv, ptV p, av, bv] w fun e w' => e = .returned (.bool true) ∧ Below w.heap.size w w' := by
  obtain ⟨a, m, cap, rfl, hmc_xs, hcap_xs⟩ := hfit
  have hm : m = xs.length := by obtain ⟨a', c', e, -⟩ := hl; simp only [Value.slice.injEq] at e; exact e.2.1
  subst hm
  unfold maxLen at hcap_xs
  have hm_xs : xs.length ≤ 9223372036854775807 := by omega
  obtain ⟨a1, m1, cap1, rfl, hmc_xa, hcap_xa⟩ := hfa
  have hm : m1 = xa.length := by obtain ⟨a', c', e, -⟩ := ha; simp only [Value.slice.injEq] at e; exact e.2.1
  subst hm
  unfold maxLen at hcap_xa
  have hm_xa : xa.length ≤ 9223372036854775807 := by omega
  obtain ⟨a2, m2, cap2, rfl, hmc_xb, hcap_xb⟩ := hfb
  have hm : m2 = xb.length := by obtain ⟨a', c', e, -⟩ := hb; simp only [Value.slice.injEq] at e; exact e.2.1
  subst hm
  unfold maxLen at hcap_xb
  have hm_xb : xb.length ≤ 9223372036854775807 := by omega
  obtain ⟨W1, hW1⟩ : ∃ W1, w.alloc (.cells #[.int .i64 c.vlo, .int .i64 c.vhi, .int .i64 c.least, .int .i64 c.most, .int .i64 c.f0, .int .i64 c.f1, .int .i64 c.h0, .int .i64 c.h1, .int .i64 c.rock, .int .i64 c.plo, .int .i64 c.phi] 26) = W1 := ⟨_, rfl⟩
  obtain ⟨e_c, b_c, s_c⟩ := boxed hW1
  obtain ⟨W2, hW2⟩ : ∃ W2, W1.alloc (.cells #[.int .i64 s.glo, .int .i64 s.ghi, .int .i64 s.ylo, .int .i64 s.yhi, .int .i64 s.tlo, .int .i64 s.thi, .int .i64 s.wlo, .int .i64 s.whi] 28) = W2 := ⟨_, rfl⟩
  obtain ⟨e_s, b_s, s_s⟩ := boxed hW2
  replace e_c := (b_s.block _ (Array.getElem?_eq_some_iff.1 e_c).1).trans e_c
  obtain ⟨W, hW⟩ : ∃ W, W2.alloc (.cells #[.int .i64 p.g, .int .i64 p.y, .int .i64 p.t, .int .i64 p.w] 31) = W := ⟨_, rfl⟩
  obtain ⟨e_p, b_p, s_p⟩ := boxed hW
  replace e_c := (b_p.block _ (Array.getElem?_eq_some_iff.1 e_c).1).trans e_c
  replace e_s := (b_p.block _ (Array.getElem?_eq_some_iff.1 e_s).1).trans e_s
  have B0 : Below w.heap.size w W := ((b_c.trans (b_s.mono (by omega))).trans (b_p.mono (by omega)))
  have z0_c := (Array.getElem?_eq_some_iff.1 e_c).1
  have z0_s := (Array.getElem?_eq_some_iff.1 e_s).1
  have z0_p := (Array.getElem?_eq_some_iff.1 e_p).1
  have le_c : w.heap.size ≤ w.heap.size := by omega
  have le_s : w.heap.size ≤ W1.heap.size := by omega
  have le_p : w.heap.size ≤ W2.heap.size := by omega
  clear s_c b_c s_s b_s s_p b_p
  obtain ⟨q0_c_0, q0_c_1, q0_c_2, q0_c_3, q0_c_4, q0_c_5, q0_c_6, q0_c_7, q0_c_8, q0_c_9, q0_c_10⟩ := rc11 e_c
  replace e_c := Lib.hid e_c
  obtain ⟨q0_s_0, q0_s_1, q0_s_2, q0_s_3, q0_s_4, q0_s_5, q0_s_6, q0_s_7⟩ := rc8 e_s
  replace e_s := Lib.hid e_s
  obtain ⟨q0_p_0, q0_p_1, q0_p_2, q0_p_3⟩ := rc4 e_p
  replace e_p := Lib.hid e_p
  have hgw0 := grow_cell W
  have hK := Lib.hid (fun w => progKnown w)
  have hb0 := hb
  have i1 : ¬ (12 : Int) < xs.length := by omega
  have i2 : ¬ (20 : Int) < xa.length := by omega
  have i3 : ¬ (20 : Int) < xb.length := by omega
  have kRC := Lib.hid (fun w => (refCavern c w).mono fun e w' hb => BoolB.lit hb hc)
  have kRS := Lib.hid (fun w => (refState s w).mono fun e w' hb => BoolB.lit hb hs)
  have kRO : Hid (∀ w', Below w.heap.size w w' → Calls Try.prog 26 #[.slice a xs.length cap] w' fun e w'' => e = .returned (.bool true) ∧ Below w'.heap.size w' w'') := Lib.hid (fun w' hb => by have h0 := refOps _ xs w' (hl.mono hb); rw [ho] at h0; exact h0)
  have kRH := Lib.hid (fun w => (refHas s p w).mono fun e w' hb => BoolB.lit hb hh)
  have kRT : Hid (∀ w', Below w.heap.size w w' → Calls Try.prog 27 #[.slice a xs.length cap, .slice a1 xa.length cap1, .slice a2 xb.length cap2] w' fun e w'' => e = .returned (.bool false) ∧ Below w'.heap.size w' w'') := Lib.hid (fun w' hb => by have h0 := refTruth _ _ _ xs xa xb w' (hl.mono hb) (ha.mono hb) (hb0.mono hb); rw [ht] at h0; exact h0)
  clear hl ha hb hb0 hmc_xs hcap_xs hmc_xa hcap_xa hmc_xb hcap_xb h1 h2 h3
  replace hc := Lib.hid hc; replace hs := Lib.hid hs; replace ho := Lib.hid ho; replace hh := Lib.hid hh; replace ht := Lib.hid ht
  go_enter Try.func9, Try.ntmps9
  go_wp2_with (first | (go_at_call 17; (with_reducible refine Calls.mono (kRC.out _) ?_); rintro e w1 ⟨rfl, hB⟩; (first | (obtain ⟨g, rfl⟩ := g.next hB) | (obtain ⟨g, rfl⟩ : ∃ g : Grow W, w1 = g.x := ⟨⟨w1, hB⟩, rfl⟩)); clear hB) | (go_at_call 18; (with_reducible refine Calls.mono (kRS.out _) ?_); rintro e w1 ⟨rfl, hB⟩; (first | (obtain ⟨g, rfl⟩ := g.next hB) | (obtain ⟨g, rfl⟩ : ∃ g : Grow W, w1 = g.x := ⟨⟨w1, hB⟩, rfl⟩)); clear hB) | (go_at_call 26; (with_reducible refine Calls.mono (kRO.out _ (by first | (with_reducible exact B0.trans (g.h.mono B0.size)) | (with_reducible exact B0))) ?_); rintro e w1 ⟨rfl, hB⟩; (first | (obtain ⟨g, rfl⟩ := g.next hB) | (obtain ⟨g, rfl⟩ : ∃ g : Grow W, w1 = g.x := ⟨⟨w1, hB⟩, rfl⟩)); clear hB) | (go_at_call 34; (with_reducible refine Calls.mono (kRH.out _) ?_); rintro e w1 ⟨rfl, hB⟩; (first | (obtain ⟨g, rfl⟩ := g.next hB) | (obtain ⟨g, rfl⟩ : ∃ g : Grow W, w1 = g.x := ⟨⟨w1, hB⟩, rfl⟩)); clear hB) | (go_at_call 27; (with_reducible refine Calls.mono (kRT.out _ (by first | (with_reducible exact B0.trans (g.h.mono B0.size)) | (with_reducible exact B0))) ?_); rintro e w1 ⟨rfl, hB⟩; (first | (obtain ⟨g, rfl⟩ := g.next hB) | (obtain ⟨g, rfl⟩ : ∃ g : Grow W, w1 = g.x := ⟨⟨w1, hB⟩, rfl⟩)); clear hB) | (go_at_call 20; (with_reducible refine Calls.mono (hK.out _) ?_); rintro e w1 ⟨rfl, hB⟩; (first | (obtain ⟨g, rfl⟩ := g.next hB) | (obtain ⟨g, rfl⟩ : ∃ g : Grow W, w1 = g.x := ⟨⟨w1, hB⟩, rfl⟩)); clear hB))
  go_ret
  exact ⟨rfl, B0.trans (g.h.mono B0.size)⟩

end Go.Proofs.Ytgmbolagciaenaa
