/- Gas: the walk of Play. -/
import Derived.Test.YtdilgjhdimlbkaaPl1
import Derived.BigRegion
set_option linter.unusedVariables false
set_option linter.unusedSimpArgs false
namespace Gas
/-- The error with which operations are refused; 0, if they are not. -/
def playErr (c : Cav) (p : Pt) (l : List Op) (xa xb : List Int) : Int := if 20 < l.length then 3 else if (opsB l && (c.ok && p.ok && truthB l xa xb)) = true then 0 else 2
end Gas
namespace Go.Proofs.Ytdilgjhdimlbkaa
open Go.RowKit Go.Sd Gas
abbrev pt0 : Pt := ⟨0, 0, 0, 0⟩

set_option maxRecDepth 100000 in
set_option maxHeartbeats 8000000 in
theorem progPlayBad0 {lv av bv : Value} {c : Cav} {p : Pt} {l : List Gas.Op} {xa xb : List Int} (w : World) (hl : OpsAt w lv l) (ha : IntsAt w av xa) (hb : IntsAt w bv xb) {er : Int} (he : opsErr l = er) (hne : ¬ er = 0) :
    Calls Try.prog 5 #[cavV c, ptV p, lv, av, bv] w fun e w' => e = .returned (.tuple #[ptV pt0, ptV pt0, .int .i64 er]) ∧ Below w.heap.size w w' := by
  have hl' := hl; have ha' := ha; have hb' := hb
  obtain ⟨sl, cl, rfl, -, -⟩ := hl'
  obtain ⟨sa, ca, rfl, -, -⟩ := ha'
  obtain ⟨sb, cb, rfl, -, -⟩ := hb'
  obtain ⟨W1, hW1⟩ : ∃ W1, w.alloc (.cells #[.int .i64 c.vlo, .int .i64 c.vhi, .int .i64 c.least, .int .i64 c.most, .int .i64 c.f0, .int .i64 c.f1, .int .i64 c.h0, .int .i64 c.h1, .int .i64 c.rock, .int .i64 c.plo, .int .i64 c.phi] 26) = W1 := ⟨_, rfl⟩
  obtain ⟨e_c, b_c, s_c⟩ := boxed hW1
  obtain ⟨W2, hW2⟩ : ∃ W2, W1.alloc (.cells #[.int .i64 p.g, .int .i64 p.y, .int .i64 p.t, .int .i64 p.w] 28) = W2 := ⟨_, rfl⟩
  obtain ⟨e_p, b_p, s_p⟩ := boxed hW2
  replace e_c := (b_p.block _ (Array.getElem?_eq_some_iff.1 e_c).1).trans e_c
  obtain ⟨W3, hW3⟩ : ∃ W3, W2.alloc (.cells #[.slice sl l.length cl] 29) = W3 := ⟨_, rfl⟩
  obtain ⟨e_l, b_l, s_l⟩ := boxed hW3
  replace e_c := (b_l.block _ (Array.getElem?_eq_some_iff.1 e_c).1).trans e_c
  replace e_p := (b_l.block _ (Array.getElem?_eq_some_iff.1 e_p).1).trans e_p
  obtain ⟨W4, hW4⟩ : ∃ W4, W3.alloc (.cells #[.slice sa xa.length ca] 30) = W4 := ⟨_, rfl⟩
  obtain ⟨e_a, b_a, s_a⟩ := boxed hW4
  replace e_c := (b_a.block _ (Array.getElem?_eq_some_iff.1 e_c).1).trans e_c
  replace e_p := (b_a.block _ (Array.getElem?_eq_some_iff.1 e_p).1).trans e_p
  replace e_l := (b_a.block _ (Array.getElem?_eq_some_iff.1 e_l).1).trans e_l
  obtain ⟨W5, hW5⟩ : ∃ W5, W4.alloc (.cells #[.slice sb xb.length cb] 30) = W5 := ⟨_, rfl⟩
  obtain ⟨e_b, b_b, s_b⟩ := boxed hW5
  replace e_c := (b_b.block _ (Array.getElem?_eq_some_iff.1 e_c).1).trans e_c
  replace e_p := (b_b.block _ (Array.getElem?_eq_some_iff.1 e_p).1).trans e_p
  replace e_l := (b_b.block _ (Array.getElem?_eq_some_iff.1 e_l).1).trans e_l
  replace e_a := (b_b.block _ (Array.getElem?_eq_some_iff.1 e_a).1).trans e_a
  obtain ⟨W6, hW6⟩ : ∃ W6, W5.alloc (.cells #[.int .i64 0, .int .i64 0, .int .i64 0, .int .i64 0] 28) = W6 := ⟨_, rfl⟩
  obtain ⟨e_r1, b_r1, s_r1⟩ := boxed hW6
  replace e_c := (b_r1.block _ (Array.getElem?_eq_some_iff.1 e_c).1).trans e_c
  replace e_p := (b_r1.block _ (Array.getElem?_eq_some_iff.1 e_p).1).trans e_p
  replace e_l := (b_r1.block _ (Array.getElem?_eq_some_iff.1 e_l).1).trans e_l
  replace e_a := (b_r1.block _ (Array.getElem?_eq_some_iff.1 e_a).1).trans e_a
  replace e_b := (b_r1.block _ (Array.getElem?_eq_some_iff.1 e_b).1).trans e_b
  obtain ⟨W7, hW7⟩ : ∃ W7, W6.alloc (.cells #[.int .i64 0, .int .i64 0, .int .i64 0, .int .i64 0] 28) = W7 := ⟨_, rfl⟩
  obtain ⟨e_r2, b_r2, s_r2⟩ := boxed hW7
  replace e_c := (b_r2.block _ (Array.getElem?_eq_some_iff.1 e_c).1).trans e_c
  replace e_p := (b_r2.block _ (Array.getElem?_eq_some_iff.1 e_p).1).trans e_p
  replace e_l := (b_r2.block _ (Array.getElem?_eq_some_iff.1 e_l).1).trans e_l
  replace e_a := (b_r2.block _ (Array.getElem?_eq_some_iff.1 e_a).1).trans e_a
  replace e_b := (b_r2.block _ (Array.getElem?_eq_some_iff.1 e_b).1).trans e_b
  replace e_r1 := (b_r2.block _ (Array.getElem?_eq_some_iff.1 e_r1).1).trans e_r1
  obtain ⟨m7_c_0, m7_c_1, m7_c_2, m7_c_3, m7_c_4, m7_c_5, m7_c_6, m7_c_7, m7_c_8, m7_c_9, m7_c_10⟩ := rc11 e_c
  have mz7_c : w.heap.size < W7.heap.size := (Array.getElem?_eq_some_iff.1 e_c).1
  obtain ⟨W, hW⟩ : ∃ W, W7.alloc (.cells #[.int .i64 c.vlo, .int .i64 c.vhi, .int .i64 c.least, .int .i64 c.most, .int .i64 c.f0, .int .i64 c.f1, .int .i64 c.h0, .int .i64 c.h1, .int .i64 c.rock, .int .i64 c.plo, .int .i64 c.phi] 59) = W := ⟨_, rfl⟩
  obtain ⟨e_x, b_x, s_x⟩ := boxed hW
  replace e_c := (b_x.block _ (Array.getElem?_eq_some_iff.1 e_c).1).trans e_c
  replace e_p := (b_x.block _ (Array.getElem?_eq_some_iff.1 e_p).1).trans e_p
  replace e_l := (b_x.block _ (Array.getElem?_eq_some_iff.1 e_l).1).trans e_l
  replace e_a := (b_x.block _ (Array.getElem?_eq_some_iff.1 e_a).1).trans e_a
  replace e_b := (b_x.block _ (Array.getElem?_eq_some_iff.1 e_b).1).trans e_b
  replace e_r1 := (b_x.block _ (Array.getElem?_eq_some_iff.1 e_r1).1).trans e_r1
  replace e_r2 := (b_x.block _ (Array.getElem?_eq_some_iff.1 e_r2).1).trans e_r2
  have B0 : Below w.heap.size w W := (((((((b_c.trans (b_p.mono (by omega))).trans (b_l.mono (by omega))).trans (b_a.mono (by omega))).trans (b_b.mono (by omega))).trans (b_r1.mono (by omega))).trans (b_r2.mono (by omega))).trans (b_x.mono (by omega)))
  have z0_c := (Array.getElem?_eq_some_iff.1 e_c).1
  have z0_p := (Array.getElem?_eq_some_iff.1 e_p).1
  have z0_l := (Array.getElem?_eq_some_iff.1 e_l).1
  have z0_a := (Array.getElem?_eq_some_iff.1 e_a).1
  have z0_b := (Array.getElem?_eq_some_iff.1 e_b).1
  have z0_r1 := (Array.getElem?_eq_some_iff.1 e_r1).1
  have z0_r2 := (Array.getElem?_eq_some_iff.1 e_r2).1
  have z0_x := (Array.getElem?_eq_some_iff.1 e_x).1
  have ne_c_r1 : (w.heap.size : Nat) ≠ W5.heap.size := by omega
  have ne_c_r2 : (w.heap.size : Nat) ≠ W6.heap.size := by omega
  have le_c : w.heap.size ≤ w.heap.size := by omega
  have ne_p_r1 : (W1.heap.size : Nat) ≠ W5.heap.size := by omega
  have ne_p_r2 : (W1.heap.size : Nat) ≠ W6.heap.size := by omega
  have le_p : w.heap.size ≤ W1.heap.size := by omega
  have ne_l_r1 : (W2.heap.size : Nat) ≠ W5.heap.size := by omega
  have ne_l_r2 : (W2.heap.size : Nat) ≠ W6.heap.size := by omega
  have le_l : w.heap.size ≤ W2.heap.size := by omega
  have ne_a_r1 : (W3.heap.size : Nat) ≠ W5.heap.size := by omega
  have ne_a_r2 : (W3.heap.size : Nat) ≠ W6.heap.size := by omega
  have le_a : w.heap.size ≤ W3.heap.size := by omega
  have ne_b_r1 : (W4.heap.size : Nat) ≠ W5.heap.size := by omega
  have ne_b_r2 : (W4.heap.size : Nat) ≠ W6.heap.size := by omega
  have le_b : w.heap.size ≤ W4.heap.size := by omega
  have ne_r1_r2 : (W5.heap.size : Nat) ≠ W6.heap.size := by omega
  have le_r1 : w.heap.size ≤ W5.heap.size := by omega
  have ne_r2_r1 : (W6.heap.size : Nat) ≠ W5.heap.size := by omega
  have le_r2 : w.heap.size ≤ W6.heap.size := by omega
  have ne_x_r1 : (W7.heap.size : Nat) ≠ W5.heap.size := by omega
  have ne_x_r2 : (W7.heap.size : Nat) ≠ W6.heap.size := by omega
  have le_x : w.heap.size ≤ W7.heap.size := by omega
  clear s_c b_c s_p b_p s_l b_l s_a b_a s_b b_b s_r1 b_r1 s_r2 b_r2 s_x b_x
  obtain ⟨q0_c_0, q0_c_1, q0_c_2, q0_c_3, q0_c_4, q0_c_5, q0_c_6, q0_c_7, q0_c_8, q0_c_9, q0_c_10⟩ := rc11 e_c
  replace e_c := Lib.hid e_c
  obtain ⟨q0_p_0, q0_p_1, q0_p_2, q0_p_3⟩ := rc4 e_p
  replace e_p := Lib.hid e_p
  have q0_l_0 := rc1 e_l
  replace e_l := Lib.hid e_l
  have q0_a_0 := rc1 e_a
  replace e_a := Lib.hid e_a
  have q0_b_0 := rc1 e_b
  replace e_b := Lib.hid e_b
  obtain ⟨q0_r1_0, q0_r1_1, q0_r1_2, q0_r1_3⟩ := rc4 e_r1
  obtain ⟨f0_r1_0, f0_r1_1, f0_r1_2, f0_r1_3⟩ := rf4 e_r1
  replace e_r1 := Lib.hid e_r1
  obtain ⟨q0_r2_0, q0_r2_1, q0_r2_2, q0_r2_3⟩ := rc4 e_r2
  obtain ⟨f0_r2_0, f0_r2_1, f0_r2_2, f0_r2_3⟩ := rf4 e_r2
  replace e_r2 := Lib.hid e_r2
  obtain ⟨q0_x_0, q0_x_1, q0_x_2, q0_x_3, q0_x_4, q0_x_5, q0_x_6, q0_x_7, q0_x_8, q0_x_9, q0_x_10⟩ := rc11 e_x
  replace e_x := Lib.hid e_x
  have kO : Hid (Calls Try.prog 16 #[.slice sl l.length cl] W fun e w' => e = .returned (.int .i64 er) ∧ Below W.heap.size W w') := Lib.hid (by have := progOps _ l W (hl.mono B0); rwa [he] at this)
  have hgc := grow_cell W
  have hgf := grow_frozen W
  clear hl ha hb
  go_enter Try.func5, Try.ntmps5
  go_wp2_with (first | (go_at_call 16; (with_reducible refine Calls.mono (kO.out) ?_); rintro e w1 ⟨rfl, hB⟩; (first | (obtain ⟨g, rfl⟩ := g.next hB) | (obtain ⟨g, rfl⟩ : ∃ g : Grow W, w1 = g.x := ⟨⟨w1, hB⟩, rfl⟩)); clear hB))
  refine bodyPost_ret (v := .tuple #[ptV pt0, ptV pt0, .int .i64 er]) (by simp [results, Try.results5, go_sem, *]) rfl ⟨rfl, ?_⟩
  have hfin : Below w.heap.size w g.x := B0.trans (g.h.mono B0.size)
  repeat' (first | (with_reducible exact hfin) | (with_reducible exact le_r1) | (with_reducible exact le_r2) | (with_reducible refine Below.setCell ?_ ?_ _))

set_option maxRecDepth 100000 in
set_option maxHeartbeats 8000000 in
theorem progPlayBad1 {lv av bv : Value} {c : Cav} {p : Pt} {l : List Gas.Op} {xa xb : List Int} (w : World) (hl : OpsAt w lv l) (ha : IntsAt w av xa) (hb : IntsAt w bv xb) (he : opsErr l = 0) (hc : c.ok = false) :
    Calls Try.prog 5 #[cavV c, ptV p, lv, av, bv] w fun e w' => e = .returned (.tuple #[ptV pt0, ptV pt0, .int .i64 2]) ∧ Below w.heap.size w w' := by
  have hl' := hl; have ha' := ha; have hb' := hb
  obtain ⟨sl, cl, rfl, -, -⟩ := hl'
  obtain ⟨sa, ca, rfl, -, -⟩ := ha'
  obtain ⟨sb, cb, rfl, -, -⟩ := hb'
  obtain ⟨W1, hW1⟩ : ∃ W1, w.alloc (.cells #[.int .i64 c.vlo, .int .i64 c.vhi, .int .i64 c.least, .int .i64 c.most, .int .i64 c.f0, .int .i64 c.f1, .int .i64 c.h0, .int .i64 c.h1, .int .i64 c.rock, .int .i64 c.plo, .int .i64 c.phi] 26) = W1 := ⟨_, rfl⟩
  obtain ⟨e_c, b_c, s_c⟩ := boxed hW1
  obtain ⟨W2, hW2⟩ : ∃ W2, W1.alloc (.cells #[.int .i64 p.g, .int .i64 p.y, .int .i64 p.t, .int .i64 p.w] 28) = W2 := ⟨_, rfl⟩
  obtain ⟨e_p, b_p, s_p⟩ := boxed hW2
  replace e_c := (b_p.block _ (Array.getElem?_eq_some_iff.1 e_c).1).trans e_c
  obtain ⟨W3, hW3⟩ : ∃ W3, W2.alloc (.cells #[.slice sl l.length cl] 29) = W3 := ⟨_, rfl⟩
  obtain ⟨e_l, b_l, s_l⟩ := boxed hW3
  replace e_c := (b_l.block _ (Array.getElem?_eq_some_iff.1 e_c).1).trans e_c
  replace e_p := (b_l.block _ (Array.getElem?_eq_some_iff.1 e_p).1).trans e_p
  obtain ⟨W4, hW4⟩ : ∃ W4, W3.alloc (.cells #[.slice sa xa.length ca] 30) = W4 := ⟨_, rfl⟩
  obtain ⟨e_a, b_a, s_a⟩ := boxed hW4
  replace e_c := (b_a.block _ (Array.getElem?_eq_some_iff.1 e_c).1).trans e_c
  replace e_p := (b_a.block _ (Array.getElem?_eq_some_iff.1 e_p).1).trans e_p
  replace e_l := (b_a.block _ (Array.getElem?_eq_some_iff.1 e_l).1).trans e_l
  obtain ⟨W5, hW5⟩ : ∃ W5, W4.alloc (.cells #[.slice sb xb.length cb] 30) = W5 := ⟨_, rfl⟩
  obtain ⟨e_b, b_b, s_b⟩ := boxed hW5
  replace e_c := (b_b.block _ (Array.getElem?_eq_some_iff.1 e_c).1).trans e_c
  replace e_p := (b_b.block _ (Array.getElem?_eq_some_iff.1 e_p).1).trans e_p
  replace e_l := (b_b.block _ (Array.getElem?_eq_some_iff.1 e_l).1).trans e_l
  replace e_a := (b_b.block _ (Array.getElem?_eq_some_iff.1 e_a).1).trans e_a
  obtain ⟨W6, hW6⟩ : ∃ W6, W5.alloc (.cells #[.int .i64 0, .int .i64 0, .int .i64 0, .int .i64 0] 28) = W6 := ⟨_, rfl⟩
  obtain ⟨e_r1, b_r1, s_r1⟩ := boxed hW6
  replace e_c := (b_r1.block _ (Array.getElem?_eq_some_iff.1 e_c).1).trans e_c
  replace e_p := (b_r1.block _ (Array.getElem?_eq_some_iff.1 e_p).1).trans e_p
  replace e_l := (b_r1.block _ (Array.getElem?_eq_some_iff.1 e_l).1).trans e_l
  replace e_a := (b_r1.block _ (Array.getElem?_eq_some_iff.1 e_a).1).trans e_a
  replace e_b := (b_r1.block _ (Array.getElem?_eq_some_iff.1 e_b).1).trans e_b
  obtain ⟨W7, hW7⟩ : ∃ W7, W6.alloc (.cells #[.int .i64 0, .int .i64 0, .int .i64 0, .int .i64 0] 28) = W7 := ⟨_, rfl⟩
  obtain ⟨e_r2, b_r2, s_r2⟩ := boxed hW7
  replace e_c := (b_r2.block _ (Array.getElem?_eq_some_iff.1 e_c).1).trans e_c
  replace e_p := (b_r2.block _ (Array.getElem?_eq_some_iff.1 e_p).1).trans e_p
  replace e_l := (b_r2.block _ (Array.getElem?_eq_some_iff.1 e_l).1).trans e_l
  replace e_a := (b_r2.block _ (Array.getElem?_eq_some_iff.1 e_a).1).trans e_a
  replace e_b := (b_r2.block _ (Array.getElem?_eq_some_iff.1 e_b).1).trans e_b
  replace e_r1 := (b_r2.block _ (Array.getElem?_eq_some_iff.1 e_r1).1).trans e_r1
  obtain ⟨m7_c_0, m7_c_1, m7_c_2, m7_c_3, m7_c_4, m7_c_5, m7_c_6, m7_c_7, m7_c_8, m7_c_9, m7_c_10⟩ := rc11 e_c
  have mz7_c : w.heap.size < W7.heap.size := (Array.getElem?_eq_some_iff.1 e_c).1
  obtain ⟨W, hW⟩ : ∃ W, W7.alloc (.cells #[.int .i64 c.vlo, .int .i64 c.vhi, .int .i64 c.least, .int .i64 c.most, .int .i64 c.f0, .int .i64 c.f1, .int .i64 c.h0, .int .i64 c.h1, .int .i64 c.rock, .int .i64 c.plo, .int .i64 c.phi] 59) = W := ⟨_, rfl⟩
  obtain ⟨e_x, b_x, s_x⟩ := boxed hW
  replace e_c := (b_x.block _ (Array.getElem?_eq_some_iff.1 e_c).1).trans e_c
  replace e_p := (b_x.block _ (Array.getElem?_eq_some_iff.1 e_p).1).trans e_p
  replace e_l := (b_x.block _ (Array.getElem?_eq_some_iff.1 e_l).1).trans e_l
  replace e_a := (b_x.block _ (Array.getElem?_eq_some_iff.1 e_a).1).trans e_a
  replace e_b := (b_x.block _ (Array.getElem?_eq_some_iff.1 e_b).1).trans e_b
  replace e_r1 := (b_x.block _ (Array.getElem?_eq_some_iff.1 e_r1).1).trans e_r1
  replace e_r2 := (b_x.block _ (Array.getElem?_eq_some_iff.1 e_r2).1).trans e_r2
  have B0 : Below w.heap.size w W := (((((((b_c.trans (b_p.mono (by omega))).trans (b_l.mono (by omega))).trans (b_a.mono (by omega))).trans (b_b.mono (by omega))).trans (b_r1.mono (by omega))).trans (b_r2.mono (by omega))).trans (b_x.mono (by omega)))
  have z0_c := (Array.getElem?_eq_some_iff.1 e_c).1
  have z0_p := (Array.getElem?_eq_some_iff.1 e_p).1
  have z0_l := (Array.getElem?_eq_some_iff.1 e_l).1
  have z0_a := (Array.getElem?_eq_some_iff.1 e_a).1
  have z0_b := (Array.getElem?_eq_some_iff.1 e_b).1
  have z0_r1 := (Array.getElem?_eq_some_iff.1 e_r1).1
  have z0_r2 := (Array.getElem?_eq_some_iff.1 e_r2).1
  have z0_x := (Array.getElem?_eq_some_iff.1 e_x).1
  have ne_c_r1 : (w.heap.size : Nat) ≠ W5.heap.size := by omega
  have ne_c_r2 : (w.heap.size : Nat) ≠ W6.heap.size := by omega
  have le_c : w.heap.size ≤ w.heap.size := by omega
  have ne_p_r1 : (W1.heap.size : Nat) ≠ W5.heap.size := by omega
  have ne_p_r2 : (W1.heap.size : Nat) ≠ W6.heap.size := by omega
  have le_p : w.heap.size ≤ W1.heap.size := by omega
  have ne_l_r1 : (W2.heap.size : Nat) ≠ W5.heap.size := by omega
  have ne_l_r2 : (W2.heap.size : Nat) ≠ W6.heap.size := by omega
  have le_l : w.heap.size ≤ W2.heap.size := by omega
  have ne_a_r1 : (W3.heap.size : Nat) ≠ W5.heap.size := by omega
  have ne_a_r2 : (W3.heap.size : Nat) ≠ W6.heap.size := by omega
  have le_a : w.heap.size ≤ W3.heap.size := by omega
  have ne_b_r1 : (W4.heap.size : Nat) ≠ W5.heap.size := by omega
  have ne_b_r2 : (W4.heap.size : Nat) ≠ W6.heap.size := by omega
  have le_b : w.heap.size ≤ W4.heap.size := by omega
  have ne_r1_r2 : (W5.heap.size : Nat) ≠ W6.heap.size := by omega
  have le_r1 : w.heap.size ≤ W5.heap.size := by omega
  have ne_r2_r1 : (W6.heap.size : Nat) ≠ W5.heap.size := by omega
  have le_r2 : w.heap.size ≤ W6.heap.size := by omega
  have ne_x_r1 : (W7.heap.size : Nat) ≠ W5.heap.size := by omega
  have ne_x_r2 : (W7.heap.size : Nat) ≠ W6.heap.size := by omega
  have le_x : w.heap.size ≤ W7.heap.size := by omega
  clear s_c b_c s_p b_p s_l b_l s_a b_a s_b b_b s_r1 b_r1 s_r2 b_r2 s_x b_x
  obtain ⟨q0_c_0, q0_c_1, q0_c_2, q0_c_3, q0_c_4, q0_c_5, q0_c_6, q0_c_7, q0_c_8, q0_c_9, q0_c_10⟩ := rc11 e_c
  replace e_c := Lib.hid e_c
  obtain ⟨q0_p_0, q0_p_1, q0_p_2, q0_p_3⟩ := rc4 e_p
  replace e_p := Lib.hid e_p
  have q0_l_0 := rc1 e_l
  replace e_l := Lib.hid e_l
  have q0_a_0 := rc1 e_a
  replace e_a := Lib.hid e_a
  have q0_b_0 := rc1 e_b
  replace e_b := Lib.hid e_b
  obtain ⟨q0_r1_0, q0_r1_1, q0_r1_2, q0_r1_3⟩ := rc4 e_r1
  obtain ⟨f0_r1_0, f0_r1_1, f0_r1_2, f0_r1_3⟩ := rf4 e_r1
  replace e_r1 := Lib.hid e_r1
  obtain ⟨q0_r2_0, q0_r2_1, q0_r2_2, q0_r2_3⟩ := rc4 e_r2
  obtain ⟨f0_r2_0, f0_r2_1, f0_r2_2, f0_r2_3⟩ := rf4 e_r2
  replace e_r2 := Lib.hid e_r2
  obtain ⟨q0_x_0, q0_x_1, q0_x_2, q0_x_3, q0_x_4, q0_x_5, q0_x_6, q0_x_7, q0_x_8, q0_x_9, q0_x_10⟩ := rc11 e_x
  replace e_x := Lib.hid e_x
  have kO : Hid (Calls Try.prog 16 #[.slice sl l.length cl] W fun e w' => e = .returned (.int .i64 0) ∧ Below W.heap.size W w') := Lib.hid (by have := progOps _ l W (hl.mono B0); rwa [he] at this)
  have kV := Lib.hid (fun w => (progValid c w).mono fun e w' hb => BoolB.lit hb hc)
  have hgc := grow_cell W
  have hgf := grow_frozen W
  clear hl ha hb
  go_enter Try.func5, Try.ntmps5
  go_wp2_with (first | (go_at_call 16; (with_reducible refine Calls.mono (kO.out) ?_); rintro e w1 ⟨rfl, hB⟩; (first | (obtain ⟨g, rfl⟩ := g.next hB) | (obtain ⟨g, rfl⟩ : ∃ g : Grow W, w1 = g.x := ⟨⟨w1, hB⟩, rfl⟩)); clear hB) | (go_at_call 17; (with_reducible refine Calls.mono (kV.out _) ?_); rintro e w1 ⟨rfl, hB⟩; (first | (obtain ⟨g, rfl⟩ := g.next hB) | (obtain ⟨g, rfl⟩ : ∃ g : Grow W, w1 = g.x := ⟨⟨w1, hB⟩, rfl⟩)); clear hB))
  refine bodyPost_ret (v := .tuple #[ptV pt0, ptV pt0, .int .i64 2]) (by simp [results, Try.results5, go_sem, *]) rfl ⟨rfl, ?_⟩
  have hfin : Below w.heap.size w g.x := B0.trans (g.h.mono B0.size)
  repeat' (first | (with_reducible exact hfin) | (with_reducible exact le_r1) | (with_reducible exact le_r2) | (with_reducible refine Below.setCell ?_ ?_ _))

set_option maxRecDepth 100000 in
set_option maxHeartbeats 8000000 in
theorem progPlayBad2 {lv av bv : Value} {c : Cav} {p : Pt} {l : List Gas.Op} {xa xb : List Int} (w : World) (hl : OpsAt w lv l) (ha : IntsAt w av xa) (hb : IntsAt w bv xb) (he : opsErr l = 0) (hc : c.ok = true) (hp : p.ok = false) :
    Calls Try.prog 5 #[cavV c, ptV p, lv, av, bv] w fun e w' => e = .returned (.tuple #[ptV pt0, ptV pt0, .int .i64 2]) ∧ Below w.heap.size w w' := by
  have hl' := hl; have ha' := ha; have hb' := hb
  obtain ⟨sl, cl, rfl, -, -⟩ := hl'
  obtain ⟨sa, ca, rfl, -, -⟩ := ha'
  obtain ⟨sb, cb, rfl, -, -⟩ := hb'
  obtain ⟨W1, hW1⟩ : ∃ W1, w.alloc (.cells #[.int .i64 c.vlo, .int .i64 c.vhi, .int .i64 c.least, .int .i64 c.most, .int .i64 c.f0, .int .i64 c.f1, .int .i64 c.h0, .int .i64 c.h1, .int .i64 c.rock, .int .i64 c.plo, .int .i64 c.phi] 26) = W1 := ⟨_, rfl⟩
  obtain ⟨e_c, b_c, s_c⟩ := boxed hW1
  obtain ⟨W2, hW2⟩ : ∃ W2, W1.alloc (.cells #[.int .i64 p.g, .int .i64 p.y, .int .i64 p.t, .int .i64 p.w] 28) = W2 := ⟨_, rfl⟩
  obtain ⟨e_p, b_p, s_p⟩ := boxed hW2
  replace e_c := (b_p.block _ (Array.getElem?_eq_some_iff.1 e_c).1).trans e_c
  obtain ⟨W3, hW3⟩ : ∃ W3, W2.alloc (.cells #[.slice sl l.length cl] 29) = W3 := ⟨_, rfl⟩
  obtain ⟨e_l, b_l, s_l⟩ := boxed hW3
  replace e_c := (b_l.block _ (Array.getElem?_eq_some_iff.1 e_c).1).trans e_c
  replace e_p := (b_l.block _ (Array.getElem?_eq_some_iff.1 e_p).1).trans e_p
  obtain ⟨W4, hW4⟩ : ∃ W4, W3.alloc (.cells #[.slice sa xa.length ca] 30) = W4 := ⟨_, rfl⟩
  obtain ⟨e_a, b_a, s_a⟩ := boxed hW4
  replace e_c := (b_a.block _ (Array.getElem?_eq_some_iff.1 e_c).1).trans e_c
  replace e_p := (b_a.block _ (Array.getElem?_eq_some_iff.1 e_p).1).trans e_p
  replace e_l := (b_a.block _ (Array.getElem?_eq_some_iff.1 e_l).1).trans e_l
  obtain ⟨W5, hW5⟩ : ∃ W5, W4.alloc (.cells #[.slice sb xb.length cb] 30) = W5 := ⟨_, rfl⟩
  obtain ⟨e_b, b_b, s_b⟩ := boxed hW5
  replace e_c := (b_b.block _ (Array.getElem?_eq_some_iff.1 e_c).1).trans e_c
  replace e_p := (b_b.block _ (Array.getElem?_eq_some_iff.1 e_p).1).trans e_p
  replace e_l := (b_b.block _ (Array.getElem?_eq_some_iff.1 e_l).1).trans e_l
  replace e_a := (b_b.block _ (Array.getElem?_eq_some_iff.1 e_a).1).trans e_a
  obtain ⟨W6, hW6⟩ : ∃ W6, W5.alloc (.cells #[.int .i64 0, .int .i64 0, .int .i64 0, .int .i64 0] 28) = W6 := ⟨_, rfl⟩
  obtain ⟨e_r1, b_r1, s_r1⟩ := boxed hW6
  replace e_c := (b_r1.block _ (Array.getElem?_eq_some_iff.1 e_c).1).trans e_c
  replace e_p := (b_r1.block _ (Array.getElem?_eq_some_iff.1 e_p).1).trans e_p
  replace e_l := (b_r1.block _ (Array.getElem?_eq_some_iff.1 e_l).1).trans e_l
  replace e_a := (b_r1.block _ (Array.getElem?_eq_some_iff.1 e_a).1).trans e_a
  replace e_b := (b_r1.block _ (Array.getElem?_eq_some_iff.1 e_b).1).trans e_b
  obtain ⟨W7, hW7⟩ : ∃ W7, W6.alloc (.cells #[.int .i64 0, .int .i64 0, .int .i64 0, .int .i64 0] 28) = W7 := ⟨_, rfl⟩
  obtain ⟨e_r2, b_r2, s_r2⟩ := boxed hW7
  replace e_c := (b_r2.block _ (Array.getElem?_eq_some_iff.1 e_c).1).trans e_c
  replace e_p := (b_r2.block _ (Array.getElem?_eq_some_iff.1 e_p).1).trans e_p
  replace e_l := (b_r2.block _ (Array.getElem?_eq_some_iff.1 e_l).1).trans e_l
  replace e_a := (b_r2.block _ (Array.getElem?_eq_some_iff.1 e_a).1).trans e_a
  replace e_b := (b_r2.block _ (Array.getElem?_eq_some_iff.1 e_b).1).trans e_b
  replace e_r1 := (b_r2.block _ (Array.getElem?_eq_some_iff.1 e_r1).1).trans e_r1
  obtain ⟨m7_c_0, m7_c_1, m7_c_2, m7_c_3, m7_c_4, m7_c_5, m7_c_6, m7_c_7, m7_c_8, m7_c_9, m7_c_10⟩ := rc11 e_c
  have mz7_c : w.heap.size < W7.heap.size := (Array.getElem?_eq_some_iff.1 e_c).1
  obtain ⟨W, hW⟩ : ∃ W, W7.alloc (.cells #[.int .i64 c.vlo, .int .i64 c.vhi, .int .i64 c.least, .int .i64 c.most, .int .i64 c.f0, .int .i64 c.f1, .int .i64 c.h0, .int .i64 c.h1, .int .i64 c.rock, .int .i64 c.plo, .int .i64 c.phi] 59) = W := ⟨_, rfl⟩
  obtain ⟨e_x, b_x, s_x⟩ := boxed hW
  replace e_c := (b_x.block _ (Array.getElem?_eq_some_iff.1 e_c).1).trans e_c
  replace e_p := (b_x.block _ (Array.getElem?_eq_some_iff.1 e_p).1).trans e_p
  replace e_l := (b_x.block _ (Array.getElem?_eq_some_iff.1 e_l).1).trans e_l
  replace e_a := (b_x.block _ (Array.getElem?_eq_some_iff.1 e_a).1).trans e_a
  replace e_b := (b_x.block _ (Array.getElem?_eq_some_iff.1 e_b).1).trans e_b
  replace e_r1 := (b_x.block _ (Array.getElem?_eq_some_iff.1 e_r1).1).trans e_r1
  replace e_r2 := (b_x.block _ (Array.getElem?_eq_some_iff.1 e_r2).1).trans e_r2
  have B0 : Below w.heap.size w W := (((((((b_c.trans (b_p.mono (by omega))).trans (b_l.mono (by omega))).trans (b_a.mono (by omega))).trans (b_b.mono (by omega))).trans (b_r1.mono (by omega))).trans (b_r2.mono (by omega))).trans (b_x.mono (by omega)))
  have z0_c := (Array.getElem?_eq_some_iff.1 e_c).1
  have z0_p := (Array.getElem?_eq_some_iff.1 e_p).1
  have z0_l := (Array.getElem?_eq_some_iff.1 e_l).1
  have z0_a := (Array.getElem?_eq_some_iff.1 e_a).1
  have z0_b := (Array.getElem?_eq_some_iff.1 e_b).1
  have z0_r1 := (Array.getElem?_eq_some_iff.1 e_r1).1
  have z0_r2 := (Array.getElem?_eq_some_iff.1 e_r2).1
  have z0_x := (Array.getElem?_eq_some_iff.1 e_x).1
  have ne_c_r1 : (w.heap.size : Nat) ≠ W5.heap.size := by omega
  have ne_c_r2 : (w.heap.size : Nat) ≠ W6.heap.size := by omega
  have le_c : w.heap.size ≤ w.heap.size := by omega
  have ne_p_r1 : (W1.heap.size : Nat) ≠ W5.heap.size := by omega
  have ne_p_r2 : (W1.heap.size : Nat) ≠ W6.heap.size := by omega
  have le_p : w.heap.size ≤ W1.heap.size := by omega
  have ne_l_r1 : (W2.heap.size : Nat) ≠ W5.heap.size := by omega
  have ne_l_r2 : (W2.heap.size : Nat) ≠ W6.heap.size := by omega
  have le_l : w.heap.size ≤ W2.heap.size := by omega
  have ne_a_r1 : (W3.heap.size : Nat) ≠ W5.heap.size := by omega
  have ne_a_r2 : (W3.heap.size : Nat) ≠ W6.heap.size := by omega
  have le_a : w.heap.size ≤ W3.heap.size := by omega
  have ne_b_r1 : (W4.heap.size : Nat) ≠ W5.heap.size := by omega
  have ne_b_r2 : (W4.heap.size : Nat) ≠ W6.heap.size := by omega
  have le_b : w.heap.size ≤ W4.heap.size := by omega
  have ne_r1_r2 : (W5.heap.size : Nat) ≠ W6.heap.size := by omega
  have le_r1 : w.heap.size ≤ W5.heap.size := by omega
  have ne_r2_r1 : (W6.heap.size : Nat) ≠ W5.heap.size := by omega
  have le_r2 : w.heap.size ≤ W6.heap.size := by omega
  have ne_x_r1 : (W7.heap.size : Nat) ≠ W5.heap.size := by omega
  have ne_x_r2 : (W7.heap.size : Nat) ≠ W6.heap.size := by omega
  have le_x : w.heap.size ≤ W7.heap.size := by omega
  clear s_c b_c s_p b_p s_l b_l s_a b_a s_b b_b s_r1 b_r1 s_r2 b_r2 s_x b_x
  obtain ⟨q0_c_0, q0_c_1, q0_c_2, q0_c_3, q0_c_4, q0_c_5, q0_c_6, q0_c_7, q0_c_8, q0_c_9, q0_c_10⟩ := rc11 e_c
  replace e_c := Lib.hid e_c
  obtain ⟨q0_p_0, q0_p_1, q0_p_2, q0_p_3⟩ := rc4 e_p
  replace e_p := Lib.hid e_p
  have q0_l_0 := rc1 e_l
  replace e_l := Lib.hid e_l
  have q0_a_0 := rc1 e_a
  replace e_a := Lib.hid e_a
  have q0_b_0 := rc1 e_b
  replace e_b := Lib.hid e_b
  obtain ⟨q0_r1_0, q0_r1_1, q0_r1_2, q0_r1_3⟩ := rc4 e_r1
  obtain ⟨f0_r1_0, f0_r1_1, f0_r1_2, f0_r1_3⟩ := rf4 e_r1
  replace e_r1 := Lib.hid e_r1
  obtain ⟨q0_r2_0, q0_r2_1, q0_r2_2, q0_r2_3⟩ := rc4 e_r2
  obtain ⟨f0_r2_0, f0_r2_1, f0_r2_2, f0_r2_3⟩ := rf4 e_r2
  replace e_r2 := Lib.hid e_r2
  obtain ⟨q0_x_0, q0_x_1, q0_x_2, q0_x_3, q0_x_4, q0_x_5, q0_x_6, q0_x_7, q0_x_8, q0_x_9, q0_x_10⟩ := rc11 e_x
  replace e_x := Lib.hid e_x
  have kO : Hid (Calls Try.prog 16 #[.slice sl l.length cl] W fun e w' => e = .returned (.int .i64 0) ∧ Below W.heap.size W w') := Lib.hid (by have := progOps _ l W (hl.mono B0); rwa [he] at this)
  have kV := Lib.hid (fun w => (progValid c w).mono fun e w' hb => BoolB.lit hb hc)
  have kP := Lib.hid (fun w => (progPoint p w).mono fun e w' hb => BoolB.lit hb hp)
  have hgc := grow_cell W
  have hgf := grow_frozen W
  clear hl ha hb
  go_enter Try.func5, Try.ntmps5
  go_wp2_with (first | (go_at_call 16; (with_reducible refine Calls.mono (kO.out) ?_); rintro e w1 ⟨rfl, hB⟩; (first | (obtain ⟨g, rfl⟩ := g.next hB) | (obtain ⟨g, rfl⟩ : ∃ g : Grow W, w1 = g.x := ⟨⟨w1, hB⟩, rfl⟩)); clear hB) | (go_at_call 17; (with_reducible refine Calls.mono (kV.out _) ?_); rintro e w1 ⟨rfl, hB⟩; (first | (obtain ⟨g, rfl⟩ := g.next hB) | (obtain ⟨g, rfl⟩ : ∃ g : Grow W, w1 = g.x := ⟨⟨w1, hB⟩, rfl⟩)); clear hB) | (go_at_call 18; (with_reducible refine Calls.mono (kP.out _) ?_); rintro e w1 ⟨rfl, hB⟩; (first | (obtain ⟨g, rfl⟩ := g.next hB) | (obtain ⟨g, rfl⟩ : ∃ g : Grow W, w1 = g.x := ⟨⟨w1, hB⟩, rfl⟩)); clear hB))
  refine bodyPost_ret (v := .tuple #[ptV pt0, ptV pt0, .int .i64 2]) (by simp [results, Try.results5, go_sem, *]) rfl ⟨rfl, ?_⟩
  have hfin : Below w.heap.size w g.x := B0.trans (g.h.mono B0.size)
  repeat' (first | (with_reducible exact hfin) | (with_reducible exact le_r1) | (with_reducible exact le_r2) | (with_reducible refine Below.setCell ?_ ?_ _))

set_option maxRecDepth 100000 in
set_option maxHeartbeats 8000000 in
theorem progPlayBad3 {lv av bv : Value} {c : Cav} {p : Pt} {l : List Gas.Op} {xa xb : List Int} (w : World) (hl : OpsAt w lv l) (ha : IntsAt w av xa) (hb : IntsAt w bv xb) (he : opsErr l = 0) (hc : c.ok = true) (hp : p.ok = true) (ht : truthB l xa xb = false) :
    Calls Try.prog 5 #[cavV c, ptV p, lv, av, bv] w fun e w' => e = .returned (.tuple #[ptV pt0, ptV pt0, .int .i64 2]) ∧ Below w.heap.size w w' := by
  have hl' := hl; have ha' := ha; have hb' := hb
  obtain ⟨sl, cl, rfl, -, -⟩ := hl'
  obtain ⟨sa, ca, rfl, -, -⟩ := ha'
  obtain ⟨sb, cb, rfl, -, -⟩ := hb'
  obtain ⟨W1, hW1⟩ : ∃ W1, w.alloc (.cells #[.int .i64 c.vlo, .int .i64 c.vhi, .int .i64 c.least, .int .i64 c.most, .int .i64 c.f0, .int .i64 c.f1, .int .i64 c.h0, .int .i64 c.h1, .int .i64 c.rock, .int .i64 c.plo, .int .i64 c.phi] 26) = W1 := ⟨_, rfl⟩
  obtain ⟨e_c, b_c, s_c⟩ := boxed hW1
  obtain ⟨W2, hW2⟩ : ∃ W2, W1.alloc (.cells #[.int .i64 p.g, .int .i64 p.y, .int .i64 p.t, .int .i64 p.w] 28) = W2 := ⟨_, rfl⟩
  obtain ⟨e_p, b_p, s_p⟩ := boxed hW2
  replace e_c := (b_p.block _ (Array.getElem?_eq_some_iff.1 e_c).1).trans e_c
  obtain ⟨W3, hW3⟩ : ∃ W3, W2.alloc (.cells #[.slice sl l.length cl] 29) = W3 := ⟨_, rfl⟩
  obtain ⟨e_l, b_l, s_l⟩ := boxed hW3
  replace e_c := (b_l.block _ (Array.getElem?_eq_some_iff.1 e_c).1).trans e_c
  replace e_p := (b_l.block _ (Array.getElem?_eq_some_iff.1 e_p).1).trans e_p
  obtain ⟨W4, hW4⟩ : ∃ W4, W3.alloc (.cells #[.slice sa xa.length ca] 30) = W4 := ⟨_, rfl⟩
  obtain ⟨e_a, b_a, s_a⟩ := boxed hW4
  replace e_c := (b_a.block _ (Array.getElem?_eq_some_iff.1 e_c).1).trans e_c
  replace e_p := (b_a.block _ (Array.getElem?_eq_some_iff.1 e_p).1).trans e_p
  replace e_l := (b_a.block _ (Array.getElem?_eq_some_iff.1 e_l).1).trans e_l
  obtain ⟨W5, hW5⟩ : ∃ W5, W4.alloc (.cells #[.slice sb xb.length cb] 30) = W5 := ⟨_, rfl⟩
  obtain ⟨e_b, b_b, s_b⟩ := boxed hW5
  replace e_c := (b_b.block _ (Array.getElem?_eq_some_iff.1 e_c).1).trans e_c
  replace e_p := (b_b.block _ (Array.getElem?_eq_some_iff.1 e_p).1).trans e_p
  replace e_l := (b_b.block _ (Array.getElem?_eq_some_iff.1 e_l).1).trans e_l
  replace e_a := (b_b.block _ (Array.getElem?_eq_some_iff.1 e_a).1).trans e_a
  obtain ⟨W6, hW6⟩ : ∃ W6, W5.alloc (.cells #[.int .i64 0, .int .i64 0, .int .i64 0, .int .i64 0] 28) = W6 := ⟨_, rfl⟩
  obtain ⟨e_r1, b_r1, s_r1⟩ := boxed hW6
  replace e_c := (b_r1.block _ (Array.getElem?_eq_some_iff.1 e_c).1).trans e_c
  replace e_p := (b_r1.block _ (Array.getElem?_eq_some_iff.1 e_p).1).trans e_p
  replace e_l := (b_r1.block _ (Array.getElem?_eq_some_iff.1 e_l).1).trans e_l
  replace e_a := (b_r1.block _ (Array.getElem?_eq_some_iff.1 e_a).1).trans e_a
  replace e_b := (b_r1.block _ (Array.getElem?_eq_some_iff.1 e_b).1).trans e_b
  obtain ⟨W7, hW7⟩ : ∃ W7, W6.alloc (.cells #[.int .i64 0, .int .i64 0, .int .i64 0, .int .i64 0] 28) = W7 := ⟨_, rfl⟩
  obtain ⟨e_r2, b_r2, s_r2⟩ := boxed hW7
  replace e_c := (b_r2.block _ (Array.getElem?_eq_some_iff.1 e_c).1).trans e_c
  replace e_p := (b_r2.block _ (Array.getElem?_eq_some_iff.1 e_p).1).trans e_p
  replace e_l := (b_r2.block _ (Array.getElem?_eq_some_iff.1 e_l).1).trans e_l
  replace e_a := (b_r2.block _ (Array.getElem?_eq_some_iff.1 e_a).1).trans e_a
  replace e_b := (b_r2.block _ (Array.getElem?_eq_some_iff.1 e_b).1).trans e_b
  replace e_r1 := (b_r2.block _ (Array.getElem?_eq_some_iff.1 e_r1).1).trans e_r1
  obtain ⟨m7_c_0, m7_c_1, m7_c_2, m7_c_3, m7_c_4, m7_c_5, m7_c_6, m7_c_7, m7_c_8, m7_c_9, m7_c_10⟩ := rc11 e_c
  have mz7_c : w.heap.size < W7.heap.size := (Array.getElem?_eq_some_iff.1 e_c).1
  obtain ⟨W, hW⟩ : ∃ W, W7.alloc (.cells #[.int .i64 c.vlo, .int .i64 c.vhi, .int .i64 c.least, .int .i64 c.most, .int .i64 c.f0, .int .i64 c.f1, .int .i64 c.h0, .int .i64 c.h1, .int .i64 c.rock, .int .i64 c.plo, .int .i64 c.phi] 59) = W := ⟨_, rfl⟩
  obtain ⟨e_x, b_x, s_x⟩ := boxed hW
  replace e_c := (b_x.block _ (Array.getElem?_eq_some_iff.1 e_c).1).trans e_c
  replace e_p := (b_x.block _ (Array.getElem?_eq_some_iff.1 e_p).1).trans e_p
  replace e_l := (b_x.block _ (Array.getElem?_eq_some_iff.1 e_l).1).trans e_l
  replace e_a := (b_x.block _ (Array.getElem?_eq_some_iff.1 e_a).1).trans e_a
  replace e_b := (b_x.block _ (Array.getElem?_eq_some_iff.1 e_b).1).trans e_b
  replace e_r1 := (b_x.block _ (Array.getElem?_eq_some_iff.1 e_r1).1).trans e_r1
  replace e_r2 := (b_x.block _ (Array.getElem?_eq_some_iff.1 e_r2).1).trans e_r2
  have B0 : Below w.heap.size w W := (((((((b_c.trans (b_p.mono (by omega))).trans (b_l.mono (by omega))).trans (b_a.mono (by omega))).trans (b_b.mono (by omega))).trans (b_r1.mono (by omega))).trans (b_r2.mono (by omega))).trans (b_x.mono (by omega)))
  have z0_c := (Array.getElem?_eq_some_iff.1 e_c).1
  have z0_p := (Array.getElem?_eq_some_iff.1 e_p).1
  have z0_l := (Array.getElem?_eq_some_iff.1 e_l).1
  have z0_a := (Array.getElem?_eq_some_iff.1 e_a).1
  have z0_b := (Array.getElem?_eq_some_iff.1 e_b).1
  have z0_r1 := (Array.getElem?_eq_some_iff.1 e_r1).1
  have z0_r2 := (Array.getElem?_eq_some_iff.1 e_r2).1
  have z0_x := (Array.getElem?_eq_some_iff.1 e_x).1
  have ne_c_r1 : (w.heap.size : Nat) ≠ W5.heap.size := by omega
  have ne_c_r2 : (w.heap.size : Nat) ≠ W6.heap.size := by omega
  have le_c : w.heap.size ≤ w.heap.size := by omega
  have ne_p_r1 : (W1.heap.size : Nat) ≠ W5.heap.size := by omega
  have ne_p_r2 : (W1.heap.size : Nat) ≠ W6.heap.size := by omega
  have le_p : w.heap.size ≤ W1.heap.size := by omega
  have ne_l_r1 : (W2.heap.size : Nat) ≠ W5.heap.size := by omega
  have ne_l_r2 : (W2.heap.size : Nat) ≠ W6.heap.size := by omega
  have le_l : w.heap.size ≤ W2.heap.size := by omega
  have ne_a_r1 : (W3.heap.size : Nat) ≠ W5.heap.size := by omega
  have ne_a_r2 : (W3.heap.size : Nat) ≠ W6.heap.size := by omega
  have le_a : w.heap.size ≤ W3.heap.size := by omega
  have ne_b_r1 : (W4.heap.size : Nat) ≠ W5.heap.size := by omega
  have ne_b_r2 : (W4.heap.size : Nat) ≠ W6.heap.size := by omega
  have le_b : w.heap.size ≤ W4.heap.size := by omega
  have ne_r1_r2 : (W5.heap.size : Nat) ≠ W6.heap.size := by omega
  have le_r1 : w.heap.size ≤ W5.heap.size := by omega
  have ne_r2_r1 : (W6.heap.size : Nat) ≠ W5.heap.size := by omega
  have le_r2 : w.heap.size ≤ W6.heap.size := by omega
  have ne_x_r1 : (W7.heap.size : Nat) ≠ W5.heap.size := by omega
  have ne_x_r2 : (W7.heap.size : Nat) ≠ W6.heap.size := by omega
  have le_x : w.heap.size ≤ W7.heap.size := by omega
  clear s_c b_c s_p b_p s_l b_l s_a b_a s_b b_b s_r1 b_r1 s_r2 b_r2 s_x b_x
  obtain ⟨q0_c_0, q0_c_1, q0_c_2, q0_c_3, q0_c_4, q0_c_5, q0_c_6, q0_c_7, q0_c_8, q0_c_9, q0_c_10⟩ := rc11 e_c
  replace e_c := Lib.hid e_c
  obtain ⟨q0_p_0, q0_p_1, q0_p_2, q0_p_3⟩ := rc4 e_p
  replace e_p := Lib.hid e_p
  have q0_l_0 := rc1 e_l
  replace e_l := Lib.hid e_l
  have q0_a_0 := rc1 e_a
  replace e_a := Lib.hid e_a
  have q0_b_0 := rc1 e_b
  replace e_b := Lib.hid e_b
  obtain ⟨q0_r1_0, q0_r1_1, q0_r1_2, q0_r1_3⟩ := rc4 e_r1
  obtain ⟨f0_r1_0, f0_r1_1, f0_r1_2, f0_r1_3⟩ := rf4 e_r1
  replace e_r1 := Lib.hid e_r1
  obtain ⟨q0_r2_0, q0_r2_1, q0_r2_2, q0_r2_3⟩ := rc4 e_r2
  obtain ⟨f0_r2_0, f0_r2_1, f0_r2_2, f0_r2_3⟩ := rf4 e_r2
  replace e_r2 := Lib.hid e_r2
  obtain ⟨q0_x_0, q0_x_1, q0_x_2, q0_x_3, q0_x_4, q0_x_5, q0_x_6, q0_x_7, q0_x_8, q0_x_9, q0_x_10⟩ := rc11 e_x
  replace e_x := Lib.hid e_x
  have kO : Hid (Calls Try.prog 16 #[.slice sl l.length cl] W fun e w' => e = .returned (.int .i64 0) ∧ Below W.heap.size W w') := Lib.hid (by have := progOps _ l W (hl.mono B0); rwa [he] at this)
  have kV := Lib.hid (fun w => (progValid c w).mono fun e w' hb => BoolB.lit hb hc)
  have kP := Lib.hid (fun w => (progPoint p w).mono fun e w' hb => BoolB.lit hb hp)
  have kT : Hid (∀ g : Grow W, Calls Try.prog 19 #[.slice sl l.length cl, .slice sa xa.length ca, .slice sb xb.length cb] g.x fun e w' => e = .returned (.bool false) ∧ Below g.x.heap.size g.x w') := Lib.hid (fun g => by have := progTruth _ _ _ l xa xb g.x ((hl.mono B0).mono g.h) ((ha.mono B0).mono g.h) ((hb.mono B0).mono g.h); rwa [ht] at this)
  have hgc := grow_cell W
  have hgf := grow_frozen W
  clear hl ha hb
  go_enter Try.func5, Try.ntmps5
  go_wp2_with (first | (go_at_call 16; (with_reducible refine Calls.mono (kO.out) ?_); rintro e w1 ⟨rfl, hB⟩; (first | (obtain ⟨g, rfl⟩ := g.next hB) | (obtain ⟨g, rfl⟩ : ∃ g : Grow W, w1 = g.x := ⟨⟨w1, hB⟩, rfl⟩)); clear hB) | (go_at_call 17; (with_reducible refine Calls.mono (kV.out _) ?_); rintro e w1 ⟨rfl, hB⟩; (first | (obtain ⟨g, rfl⟩ := g.next hB) | (obtain ⟨g, rfl⟩ : ∃ g : Grow W, w1 = g.x := ⟨⟨w1, hB⟩, rfl⟩)); clear hB) | (go_at_call 18; (with_reducible refine Calls.mono (kP.out _) ?_); rintro e w1 ⟨rfl, hB⟩; (first | (obtain ⟨g, rfl⟩ := g.next hB) | (obtain ⟨g, rfl⟩ : ∃ g : Grow W, w1 = g.x := ⟨⟨w1, hB⟩, rfl⟩)); clear hB) | (go_at_call 19; (with_reducible refine Calls.mono (kT.out _) ?_); rintro e w1 ⟨rfl, hB⟩; (first | (obtain ⟨g, rfl⟩ := g.next hB) | (obtain ⟨g, rfl⟩ : ∃ g : Grow W, w1 = g.x := ⟨⟨w1, hB⟩, rfl⟩)); clear hB))
  refine bodyPost_ret (v := .tuple #[ptV pt0, ptV pt0, .int .i64 2]) (by simp [results, Try.results5, go_sem, *]) rfl ⟨rfl, ?_⟩
  have hfin : Below w.heap.size w g.x := B0.trans (g.h.mono B0.size)
  repeat' (first | (with_reducible exact hfin) | (with_reducible exact le_r1) | (with_reducible exact le_r2) | (with_reducible refine Below.setCell ?_ ?_ _))

theorem opsErr_zero {l : List Gas.Op} : opsErr l = 0 ↔ l.length ≤ 20 ∧ opsB l = true := by
  unfold opsErr
  split
  · constructor
    · intro h; omega
    · intro h; omega
  · split
    · simp_all
    · simp_all
theorem playErr_eq {c : Cav} {p : Pt} {l : List Gas.Op} {xa xb : List Int} (h : opsErr l ≠ 0) : playErr c p l xa xb = opsErr l := by
  unfold playErr opsErr at *
  split
  · rfl
  · rename_i h1
    rw [if_neg h1] at h
    have hb : opsB l = false := by cases hb : opsB l <;> simp_all
    simp [hb]
theorem progPlayBad {lv av bv : Value} {c : Cav} {p : Pt} {l : List Gas.Op} {xa xb : List Int} (w : World) (hl : OpsAt w lv l) (ha : IntsAt w av xa) (hb : IntsAt w bv xb) {er : Int} (he : playErr c p l xa xb = er) (hne : ¬ er = 0) :
    Calls Try.prog 5 #[cavV c, ptV p, lv, av, bv] w fun e w' => e = .returned (.tuple #[ptV pt0, ptV pt0, .int .i64 er]) ∧ Below w.heap.size w w' := by
  by_cases h0 : opsErr l = 0
  · obtain ⟨h1, h2⟩ := opsErr_zero.1 h0
    unfold playErr at he
    rw [if_neg (by omega), h2, Bool.true_and] at he
    cases hc : c.ok
    · rw [hc] at he; simp at he; subst he
      exact progPlayBad1 w hl ha hb h0 hc
    · cases hp : p.ok
      · rw [hc, hp] at he; simp at he; subst he
        exact progPlayBad2 w hl ha hb h0 hc hp
      · cases ht : truthB l xa xb
        · rw [hc, hp, ht] at he; simp at he; subst he
          exact progPlayBad3 w hl ha hb h0 hc hp ht
        · rw [hc, hp, ht] at he; simp at he; exact absurd he.symm hne
  · rw [playErr_eq h0] at he
    exact progPlayBad0 w hl ha hb he hne
theorem playErr_zero {c : Cav} {p : Pt} {l : List Gas.Op} {xa xb : List Int} (h : playErr c p l xa xb = 0) : opsErr l = 0 ∧ c.ok = true ∧ p.ok = true ∧ truthB l xa xb = true := by
  unfold playErr at h
  split at h
  · omega
  · rename_i h1
    split at h
    · rename_i h2
      simp only [Bool.and_eq_true] at h2
      exact ⟨opsErr_zero.2 ⟨by omega, h2.1⟩, h2.2.1.1, h2.2.1.2, h2.2.2⟩
    · omega
end Go.Proofs.Ytdilgjhdimlbkaa
