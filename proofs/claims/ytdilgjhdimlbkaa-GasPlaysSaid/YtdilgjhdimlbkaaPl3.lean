/- Gas: the walk of Play, where nothing is refused. -/
import Derived.Test.YtdilgjhdimlbkaaPl2
set_option linter.unusedVariables false
set_option linter.unusedSimpArgs false
namespace Go.Proofs.Ytdilgjhdimlbkaa
open Go.RowKit Go.Sd Gas

set_option maxRecDepth 100000 in
set_option maxHeartbeats 8000000 in
theorem progPlaySome {lv av bv : Value} {c : Cav} {p : Pt} {l : List Gas.Op} {xa xb : List Int} (w : World) (hl : OpsAt w lv l) (ha : IntsAt w av xa) (hb : IntsAt w bv xb) {q sm : Pt} (he : playErr c p l xa xb = 0) (hpl : play c p l xa xb = some (q, sm)) :
    Calls Try.prog 5 #[cavV c, ptV p, lv, av, bv] w fun e w' => e = .returned (.tuple #[ptV q, ptV sm, .int .i64 0]) ∧ Below w.heap.size w w' := by
  have hl' := hl; have ha' := ha; have hb' := hb
  obtain ⟨sl, cl, rfl, -, -⟩ := hl'
  obtain ⟨sa, ca, rfl, -, -⟩ := ha'
  obtain ⟨sb, cb, rfl, -, -⟩ := hb'
  obtain ⟨he0, hc, hp, ht⟩ := playErr_zero he
  obtain ⟨hlen, hob⟩ := opsErr_zero.1 he0
  obtain ⟨W1, hW1⟩ : ∃ W1, w.alloc (.cells #[.int .i64 c.vlo, .int .i64 c.vhi, .int .i64 c.least, .int .i64 c.most, .int .i64 c.f0, .int .i64 c.f1, .int .i64 c.h0, .int .i64 c.h1, .int .i64 c.rock, .int .i64 c.plo, .int .i64 c.phi] 26) = W1 := ⟨_, rfl⟩
  obtain ⟨e_c, b_c, s_c⟩ := boxed hW1
  obtain ⟨W2, hW2⟩ : ∃ W2, W1.alloc (.cells #[.int .i64 p.g, .int .i64 p.y, .int .i64 p.t, .int .i64 p.w] 28) = W2 := ⟨_, rfl⟩
  obtain ⟨e_p, b_p, s_p⟩ := boxed hW2
  replace e_c := (b_p.block _ (Array.getElem?_eq_some_iff.1 e_c).1).trans e_c
  obtain ⟨W3, hW3⟩ : ∃ W3, W2.alloc (.cells #[.slice sl l.length cl] 29) = W3 := ⟨_, rfl⟩
  obtain ⟨e_l, b_l, s_l⟩ := boxed hW3
  replace e_c := (b_l.block _ (Array.getElem?_eq_some_iff.1 e_c).1).trans e_c
  replace e_p := (b_l.block _ (Array.getElem?_eq_some_iff.1 e_p).1).trans e_p
  obtain ⟨W4, hW4⟩ : ∃ W4, W3.alloc (.cells #[.slice sa xa.length ca] 30) = W4 := ⟨_, rfl⟩
  obtain ⟨e_a, b_a, s_a⟩ := boxed hW4
  replace e_c := (b_a.block _ (Array.getElem?_eq_some_iff.1 e_c).1).trans e_c
  replace e_p := (b_a.block _ (Array.getElem?_eq_some_iff.1 e_p).1).trans e_p
  replace e_l := (b_a.block _ (Array.getElem?_eq_some_iff.1 e_l).1).trans e_l
  obtain ⟨W5, hW5⟩ : ∃ W5, W4.alloc (.cells #[.slice sb xb.length cb] 30) = W5 := ⟨_, rfl⟩
  obtain ⟨e_b, b_b, s_b⟩ := boxed hW5
  replace e_c := (b_b.block _ (Array.getElem?_eq_some_iff.1 e_c).1).trans e_c
  replace e_p := (b_b.block _ (Array.getElem?_eq_some_iff.1 e_p).1).trans e_p
  replace e_l := (b_b.block _ (Array.getElem?_eq_some_iff.1 e_l).1).trans e_l
  replace e_a := (b_b.block _ (Array.getElem?_eq_some_iff.1 e_a).1).trans e_a
  obtain ⟨W6, hW6⟩ : ∃ W6, W5.alloc (.cells #[.int .i64 0, .int .i64 0, .int .i64 0, .int .i64 0] 28) = W6 := ⟨_, rfl⟩
  obtain ⟨e_r1, b_r1, s_r1⟩ := boxed hW6
  replace e_c := (b_r1.block _ (Array.getElem?_eq_some_iff.1 e_c).1).trans e_c
  replace e_p := (b_r1.block _ (Array.getElem?_eq_some_iff.1 e_p).1).trans e_p
  replace e_l := (b_r1.block _ (Array.getElem?_eq_some_iff.1 e_l).1).trans e_l
  replace e_a := (b_r1.block _ (Array.getElem?_eq_some_iff.1 e_a).1).trans e_a
  replace e_b := (b_r1.block _ (Array.getElem?_eq_some_iff.1 e_b).1).trans e_b
  obtain ⟨W7, hW7⟩ : ∃ W7, W6.alloc (.cells #[.int .i64 0, .int .i64 0, .int .i64 0, .int .i64 0] 28) = W7 := ⟨_, rfl⟩
  obtain ⟨e_r2, b_r2, s_r2⟩ := boxed hW7
  replace e_c := (b_r2.block _ (Array.getElem?_eq_some_iff.1 e_c).1).trans e_c
  replace e_p := (b_r2.block _ (Array.getElem?_eq_some_iff.1 e_p).1).trans e_p
  replace e_l := (b_r2.block _ (Array.getElem?_eq_some_iff.1 e_l).1).trans e_l
  replace e_a := (b_r2.block _ (Array.getElem?_eq_some_iff.1 e_a).1).trans e_a
  replace e_b := (b_r2.block _ (Array.getElem?_eq_some_iff.1 e_b).1).trans e_b
  replace e_r1 := (b_r2.block _ (Array.getElem?_eq_some_iff.1 e_r1).1).trans e_r1
  obtain ⟨m7_c_0, m7_c_1, m7_c_2, m7_c_3, m7_c_4, m7_c_5, m7_c_6, m7_c_7, m7_c_8, m7_c_9, m7_c_10⟩ := rc11 e_c
  have mz7_c : w.heap.size < W7.heap.size := (Array.getElem?_eq_some_iff.1 e_c).1
  obtain ⟨W, hW⟩ : ∃ W, W7.alloc (.cells #[.int .i64 c.vlo, .int .i64 c.vhi, .int .i64 c.least, .int .i64 c.most, .int .i64 c.f0, .int .i64 c.f1, .int .i64 c.h0, .int .i64 c.h1, .int .i64 c.rock, .int .i64 c.plo, .int .i64 c.phi] 59) = W := ⟨_, rfl⟩
  obtain ⟨e_x, b_x, s_x⟩ := boxed hW
  replace e_c := (b_x.block _ (Array.getElem?_eq_some_iff.1 e_c).1).trans e_c
  replace e_p := (b_x.block _ (Array.getElem?_eq_some_iff.1 e_p).1).trans e_p
  replace e_l := (b_x.block _ (Array.getElem?_eq_some_iff.1 e_l).1).trans e_l
  replace e_a := (b_x.block _ (Array.getElem?_eq_some_iff.1 e_a).1).trans e_a
  replace e_b := (b_x.block _ (Array.getElem?_eq_some_iff.1 e_b).1).trans e_b
  replace e_r1 := (b_x.block _ (Array.getElem?_eq_some_iff.1 e_r1).1).trans e_r1
  replace e_r2 := (b_x.block _ (Array.getElem?_eq_some_iff.1 e_r2).1).trans e_r2
  have B0 : Below w.heap.size w W := (((((((b_c.trans (b_p.mono (by omega))).trans (b_l.mono (by omega))).trans (b_a.mono (by omega))).trans (b_b.mono (by omega))).trans (b_r1.mono (by omega))).trans (b_r2.mono (by omega))).trans (b_x.mono (by omega)))
  have z0_c := (Array.getElem?_eq_some_iff.1 e_c).1
  have z0_p := (Array.getElem?_eq_some_iff.1 e_p).1
  have z0_l := (Array.getElem?_eq_some_iff.1 e_l).1
  have z0_a := (Array.getElem?_eq_some_iff.1 e_a).1
  have z0_b := (Array.getElem?_eq_some_iff.1 e_b).1
  have z0_r1 := (Array.getElem?_eq_some_iff.1 e_r1).1
  have z0_r2 := (Array.getElem?_eq_some_iff.1 e_r2).1
  have z0_x := (Array.getElem?_eq_some_iff.1 e_x).1
  have ne_c_p : (w.heap.size : Nat) ≠ W1.heap.size := by omega
  have ne_c_l : (w.heap.size : Nat) ≠ W2.heap.size := by omega
  have ne_c_a : (w.heap.size : Nat) ≠ W3.heap.size := by omega
  have ne_c_b : (w.heap.size : Nat) ≠ W4.heap.size := by omega
  have ne_c_r1 : (w.heap.size : Nat) ≠ W5.heap.size := by omega
  have ne_c_r2 : (w.heap.size : Nat) ≠ W6.heap.size := by omega
  have ne_c_x : (w.heap.size : Nat) ≠ W7.heap.size := by omega
  have le_c : w.heap.size ≤ w.heap.size := by omega
  have ne_p_c : (W1.heap.size : Nat) ≠ w.heap.size := by omega
  have ne_p_l : (W1.heap.size : Nat) ≠ W2.heap.size := by omega
  have ne_p_a : (W1.heap.size : Nat) ≠ W3.heap.size := by omega
  have ne_p_b : (W1.heap.size : Nat) ≠ W4.heap.size := by omega
  have ne_p_r1 : (W1.heap.size : Nat) ≠ W5.heap.size := by omega
  have ne_p_r2 : (W1.heap.size : Nat) ≠ W6.heap.size := by omega
  have ne_p_x : (W1.heap.size : Nat) ≠ W7.heap.size := by omega
  have le_p : w.heap.size ≤ W1.heap.size := by omega
  have ne_l_c : (W2.heap.size : Nat) ≠ w.heap.size := by omega
  have ne_l_p : (W2.heap.size : Nat) ≠ W1.heap.size := by omega
  have ne_l_a : (W2.heap.size : Nat) ≠ W3.heap.size := by omega
  have ne_l_b : (W2.heap.size : Nat) ≠ W4.heap.size := by omega
  have ne_l_r1 : (W2.heap.size : Nat) ≠ W5.heap.size := by omega
  have ne_l_r2 : (W2.heap.size : Nat) ≠ W6.heap.size := by omega
  have ne_l_x : (W2.heap.size : Nat) ≠ W7.heap.size := by omega
  have le_l : w.heap.size ≤ W2.heap.size := by omega
  have ne_a_c : (W3.heap.size : Nat) ≠ w.heap.size := by omega
  have ne_a_p : (W3.heap.size : Nat) ≠ W1.heap.size := by omega
  have ne_a_l : (W3.heap.size : Nat) ≠ W2.heap.size := by omega
  have ne_a_b : (W3.heap.size : Nat) ≠ W4.heap.size := by omega
  have ne_a_r1 : (W3.heap.size : Nat) ≠ W5.heap.size := by omega
  have ne_a_r2 : (W3.heap.size : Nat) ≠ W6.heap.size := by omega
  have ne_a_x : (W3.heap.size : Nat) ≠ W7.heap.size := by omega
  have le_a : w.heap.size ≤ W3.heap.size := by omega
  have ne_b_c : (W4.heap.size : Nat) ≠ w.heap.size := by omega
  have ne_b_p : (W4.heap.size : Nat) ≠ W1.heap.size := by omega
  have ne_b_l : (W4.heap.size : Nat) ≠ W2.heap.size := by omega
  have ne_b_a : (W4.heap.size : Nat) ≠ W3.heap.size := by omega
  have ne_b_r1 : (W4.heap.size : Nat) ≠ W5.heap.size := by omega
  have ne_b_r2 : (W4.heap.size : Nat) ≠ W6.heap.size := by omega
  have ne_b_x : (W4.heap.size : Nat) ≠ W7.heap.size := by omega
  have le_b : w.heap.size ≤ W4.heap.size := by omega
  have ne_r1_c : (W5.heap.size : Nat) ≠ w.heap.size := by omega
  have ne_r1_p : (W5.heap.size : Nat) ≠ W1.heap.size := by omega
  have ne_r1_l : (W5.heap.size : Nat) ≠ W2.heap.size := by omega
  have ne_r1_a : (W5.heap.size : Nat) ≠ W3.heap.size := by omega
  have ne_r1_b : (W5.heap.size : Nat) ≠ W4.heap.size := by omega
  have ne_r1_r2 : (W5.heap.size : Nat) ≠ W6.heap.size := by omega
  have ne_r1_x : (W5.heap.size : Nat) ≠ W7.heap.size := by omega
  have le_r1 : w.heap.size ≤ W5.heap.size := by omega
  have ne_r2_c : (W6.heap.size : Nat) ≠ w.heap.size := by omega
  have ne_r2_p : (W6.heap.size : Nat) ≠ W1.heap.size := by omega
  have ne_r2_l : (W6.heap.size : Nat) ≠ W2.heap.size := by omega
  have ne_r2_a : (W6.heap.size : Nat) ≠ W3.heap.size := by omega
  have ne_r2_b : (W6.heap.size : Nat) ≠ W4.heap.size := by omega
  have ne_r2_r1 : (W6.heap.size : Nat) ≠ W5.heap.size := by omega
  have ne_r2_x : (W6.heap.size : Nat) ≠ W7.heap.size := by omega
  have le_r2 : w.heap.size ≤ W6.heap.size := by omega
  have ne_x_c : (W7.heap.size : Nat) ≠ w.heap.size := by omega
  have ne_x_p : (W7.heap.size : Nat) ≠ W1.heap.size := by omega
  have ne_x_l : (W7.heap.size : Nat) ≠ W2.heap.size := by omega
  have ne_x_a : (W7.heap.size : Nat) ≠ W3.heap.size := by omega
  have ne_x_b : (W7.heap.size : Nat) ≠ W4.heap.size := by omega
  have ne_x_r1 : (W7.heap.size : Nat) ≠ W5.heap.size := by omega
  have ne_x_r2 : (W7.heap.size : Nat) ≠ W6.heap.size := by omega
  have le_x : w.heap.size ≤ W7.heap.size := by omega
  clear s_c b_c s_p b_p s_l b_l s_a b_a s_b b_b s_r1 b_r1 s_r2 b_r2 s_x b_x
  obtain ⟨q0_c_0, q0_c_1, q0_c_2, q0_c_3, q0_c_4, q0_c_5, q0_c_6, q0_c_7, q0_c_8, q0_c_9, q0_c_10⟩ := rc11 e_c
  replace e_c := Lib.hid e_c
  obtain ⟨q0_p_0, q0_p_1, q0_p_2, q0_p_3⟩ := rc4 e_p
  replace e_p := Lib.hid e_p
  have q0_l_0 := rc1 e_l
  replace e_l := Lib.hid e_l
  have q0_a_0 := rc1 e_a
  replace e_a := Lib.hid e_a
  have q0_b_0 := rc1 e_b
  replace e_b := Lib.hid e_b
  replace e_r1 := Lib.hid e_r1
  replace e_r2 := Lib.hid e_r2
  obtain ⟨q0_x_0, q0_x_1, q0_x_2, q0_x_3, q0_x_4, q0_x_5, q0_x_6, q0_x_7, q0_x_8, q0_x_9, q0_x_10⟩ := rc11 e_x
  replace e_x := Lib.hid e_x
  have kO : Hid (Calls Try.prog 16 #[.slice sl l.length cl] W fun e w' => e = .returned (.int .i64 0) ∧ Below W.heap.size W w') := Lib.hid (by have := progOps _ l W (hl.mono B0); rwa [he0] at this)
  have kV := Lib.hid (fun w => (progValid c w).mono fun e w' hb => BoolB.lit hb hc)
  have kP := Lib.hid (fun w => (progPoint p w).mono fun e w' hb => BoolB.lit hb hp)
  have kT : Hid (∀ g : Grow W, Calls Try.prog 19 #[.slice sl l.length cl, .slice sa xa.length ca, .slice sb xb.length cb] g.x fun e w' => e = .returned (.bool true) ∧ Below g.x.heap.size g.x w') := Lib.hid (fun g => by have := progTruth _ _ _ l xa xb g.x ((hl.mono B0).mono g.h) ((ha.mono B0).mono g.h) ((hb.mono B0).mono g.h); rwa [ht] at this)
  have hD : Hid (∀ g : Grow W, Calls Try.prog 20 #[.func (.func 21) #[] #[.pointer (some ⟨W2.heap.size, 0, none⟩), .pointer (some ⟨W7.heap.size, 0, none⟩), .pointer (some ⟨W1.heap.size, 0, none⟩), .pointer (some ⟨g.x.heap.size, 0, none⟩), .pointer (some ⟨W3.heap.size, 0, none⟩), .pointer (some ⟨W4.heap.size, 0, none⟩)]] (g.x.alloc (.cells #[.int .i64 0, .int .i64 0, .int .i64 0, .int .i64 0] 28)) fun e V2 => e = .returned (.bool true) ∧ V2.heap[W1.heap.size]? = some (.cells #[.int .i64 q.g, .int .i64 q.y, .int .i64 q.t, .int .i64 q.w] 28 (0, 0)) ∧ V2.heap[g.x.heap.size]? = some (.cells #[.int .i64 sm.g, .int .i64 sm.y, .int .i64 sm.t, .int .i64 sm.w] 28 (0, 0)) ∧ V2.heap[W5.heap.size]? = some (.cells #[.int .i64 0, .int .i64 0, .int .i64 0, .int .i64 0] 28 (0, 0)) ∧ V2.heap[W6.heap.size]? = some (.cells #[.int .i64 0, .int .i64 0, .int .i64 0, .int .i64 0] 28 (0, 0)) ∧ Below w.heap.size w V2) := Lib.hid (fun g => by
    have gs := g.size
    have b0s := B0.size
    obtain ⟨Z, hZ⟩ : ∃ Z, g.x.alloc (.cells #[.int .i64 0, .int .i64 0, .int .i64 0, .int .i64 0] 28) = Z := ⟨_, rfl⟩
    rw [hZ]
    obtain ⟨eZ, bZ, sZ⟩ := boxed hZ
    obtain ⟨X, hX⟩ : ∃ X, Z.alloc (.cells #[.bool false] 4) = X := ⟨_, rfl⟩
    obtain ⟨eX, bX, sX⟩ := boxed hX
    have hWZ : Below W.heap.size W Z := g.h.trans (bZ.mono gs)
    have hWX : Below W.heap.size W X := hWZ.trans (bX.mono hWZ.size)
    have hwX : Below w.heap.size w X := B0.trans (hWX.mono B0.size)
    have up : ∀ {k v}, W.heap[k]? = some v → X.heap[k]? = some v := fun h => (hWX.block _ (Array.getElem?_eq_some_iff.1 h).1).trans h
    have hen : ∀ args w, (callFunc 21 args).run Try.prog w = .ok (.enter 21 args) w := fun args w => by kernel_rfl
    have hP := progPlay1 (bl := W2.heap.size) (bc := W7.heap.size) (bp := W1.heap.size) (bs := g.x.heap.size) (ba := W3.heap.size) (bb := W4.heap.size) c p l xa xb w X (Cav.ok_iff.1 hc) (Pt.ok_iff.1 hp) hlen hob ht hl ha hb hwX (by omega) (by omega) (up e_l.out) (up e_x.out) (up e_p.out) ((bX.block _ (Array.getElem?_eq_some_iff.1 eZ).1).trans eZ) (up e_a.out) (up e_b.out) (by omega)
    rw [hpl] at hP
    have hY := progDoneY Z X (fun V => V.heap[W1.heap.size]? = some (.cells #[.int .i64 q.g, .int .i64 q.y, .int .i64 q.t, .int .i64 q.w] 28 (0, 0)) ∧ V.heap[g.x.heap.size]? = some (.cells #[.int .i64 sm.g, .int .i64 sm.y, .int .i64 sm.t, .int .i64 sm.w] 28 (0, 0)) ∧ Kept (fun k => k ≠ W1.heap.size ∧ k ≠ g.x.heap.size) X V) hX hen (hP.mono fun e V hV => ⟨hV.2.1, hV.1.block _ (by omega) ⟨by omega, by omega⟩, hV.2.2.1, hV.2.2.2, hV.1⟩)
    refine hY.mono ?_
    rintro e V2 ⟨rfl, V, ⟨k1, k2, k3⟩, rfl⟩
    have f : ∀ {k o}, k ≠ Z.heap.size → V.heap[k]? = o → (V.setCell ⟨Z.heap.size, 0, none⟩ (.bool true)).heap[k]? = o := fun hk h => (Below.heap_setCell _ _ _ _ hk).trans h
    exact ⟨rfl, f (by omega) k1, f (by omega) k2, f (by omega) ((k3.block _ (by omega) ⟨by omega, by omega⟩).trans (up e_r1.out)), f (by omega) ((k3.block _ (by omega) ⟨by omega, by omega⟩).trans (up e_r2.out)), (hwX.trans (k3.below hwX.size fun k hk => ⟨by omega, by omega⟩)).setCell (by show w.heap.size ≤ Z.heap.size; omega) _⟩)
  have hgc := grow_cell W
  have hgf := grow_frozen W
  clear hl ha hb he he0 hc hp ht hpl
  go_enter Try.func5, Try.ntmps5
  go_wp2_with (first | (go_at_call 16; (with_reducible refine Calls.mono (kO.out) ?_); rintro e w1 ⟨rfl, hB⟩; (first | (obtain ⟨g, rfl⟩ := g.next hB) | (obtain ⟨g, rfl⟩ : ∃ g : Grow W, w1 = g.x := ⟨⟨w1, hB⟩, rfl⟩)); clear hB) | (go_at_call 17; (with_reducible refine Calls.mono (kV.out _) ?_); rintro e w1 ⟨rfl, hB⟩; (first | (obtain ⟨g, rfl⟩ := g.next hB) | (obtain ⟨g, rfl⟩ : ∃ g : Grow W, w1 = g.x := ⟨⟨w1, hB⟩, rfl⟩)); clear hB) | (go_at_call 18; (with_reducible refine Calls.mono (kP.out _) ?_); rintro e w1 ⟨rfl, hB⟩; (first | (obtain ⟨g, rfl⟩ := g.next hB) | (obtain ⟨g, rfl⟩ : ∃ g : Grow W, w1 = g.x := ⟨⟨w1, hB⟩, rfl⟩)); clear hB) | (go_at_call 19; (with_reducible refine Calls.mono (kT.out _) ?_); rintro e w1 ⟨rfl, hB⟩; (first | (obtain ⟨g, rfl⟩ := g.next hB) | (obtain ⟨g, rfl⟩ : ∃ g : Grow W, w1 = g.x := ⟨⟨w1, hB⟩, rfl⟩)); clear hB) | (go_at_call 20; (with_reducible refine Calls.mono (hD.out g) ?_); rintro e V2 ⟨rfl, g1, g2, g3, g4, hV⟩))
  have gs := g.size
  have ng : (W1.heap.size : Nat) ≠ g.x.heap.size := by omega
  clear hgc hgf
  clear m7_c_0 m7_c_1 m7_c_2 m7_c_3 m7_c_4 m7_c_5 m7_c_6 m7_c_7 m7_c_8 m7_c_9 m7_c_10 mz7_c q0_c_0 q0_c_1 q0_c_2 q0_c_3 q0_c_4 q0_c_5 q0_c_6 q0_c_7 q0_c_8 q0_c_9 q0_c_10 q0_p_0 q0_p_1 q0_p_2 q0_p_3 q0_l_0 q0_a_0 q0_b_0 q0_x_0 q0_x_1 q0_x_2 q0_x_3 q0_x_4 q0_x_5 q0_x_6 q0_x_7 q0_x_8 q0_x_9 q0_x_10
  obtain ⟨z_p, d_p, k_p⟩ := row_cells g1
  have d_p_0 := d_p 0
  have k_p_0 := k_p 0
  have d_p_1 := d_p 1
  have k_p_1 := k_p 1
  have d_p_2 := d_p 2
  have k_p_2 := k_p 2
  have d_p_3 := d_p 3
  have k_p_3 := k_p 3
  simp only [List.getElem?_toArray, List.getElem?_cons_zero, List.getElem?_cons_succ] at d_p_0 d_p_1 d_p_2 d_p_3
  clear d_p k_p
  obtain ⟨z_s, d_s, k_s⟩ := row_cells g2
  have d_s_0 := d_s 0
  have k_s_0 := k_s 0
  have d_s_1 := d_s 1
  have k_s_1 := k_s 1
  have d_s_2 := d_s 2
  have k_s_2 := k_s 2
  have d_s_3 := d_s 3
  have k_s_3 := k_s 3
  simp only [List.getElem?_toArray, List.getElem?_cons_zero, List.getElem?_cons_succ] at d_s_0 d_s_1 d_s_2 d_s_3
  clear d_s k_s
  obtain ⟨z_r1, d_r1, k_r1⟩ := row_cells g3
  have d_r1_0 := d_r1 0
  have k_r1_0 := k_r1 0
  have d_r1_1 := d_r1 1
  have k_r1_1 := k_r1 1
  have d_r1_2 := d_r1 2
  have k_r1_2 := k_r1 2
  have d_r1_3 := d_r1 3
  have k_r1_3 := k_r1 3
  simp only [List.getElem?_toArray, List.getElem?_cons_zero, List.getElem?_cons_succ] at d_r1_0 d_r1_1 d_r1_2 d_r1_3
  clear d_r1 k_r1
  obtain ⟨z_r2, d_r2, k_r2⟩ := row_cells g4
  have d_r2_0 := d_r2 0
  have k_r2_0 := k_r2 0
  have d_r2_1 := d_r2 1
  have k_r2_1 := k_r2 1
  have d_r2_2 := d_r2 2
  have k_r2_2 := k_r2 2
  have d_r2_3 := d_r2 3
  have k_r2_3 := k_r2 3
  simp only [List.getElem?_toArray, List.getElem?_cons_zero, List.getElem?_cons_succ] at d_r2_0 d_r2_1 d_r2_2 d_r2_3
  clear d_r2 k_r2
  have nn_p_r1 : (W1.heap.size : Nat) ≠ W5.heap.size := by omega
  have nn_p_r2 : (W1.heap.size : Nat) ≠ W6.heap.size := by omega
  have nn_r1_r2 : (W5.heap.size : Nat) ≠ W6.heap.size := by omega
  have nn_r2_r1 : (W6.heap.size : Nat) ≠ W5.heap.size := by omega
  have nn_r1_p : (W5.heap.size : Nat) ≠ W1.heap.size := by omega
  have nn_r2_p : (W6.heap.size : Nat) ≠ W1.heap.size := by omega
  have ns_r1 : (g.x.heap.size : Nat) ≠ W5.heap.size := by omega
  have nt_r1 : (W5.heap.size : Nat) ≠ g.x.heap.size := by omega
  have ns_r2 : (g.x.heap.size : Nat) ≠ W6.heap.size := by omega
  have nt_r2 : (W6.heap.size : Nat) ≠ g.x.heap.size := by omega
  go_region
  generalize hVf : World.setCell _ ⟨W6.heap.size, 3, none⟩ _ = Vf
  have G1 : Vf.heap[W5.heap.size]? = some (.cells #[.int .i64 q.g, .int .i64 q.y, .int .i64 q.t, .int .i64 q.w] 28 (0, 0)) := by rw [← hVf]; have h2 := (set_far (n := W6.heap.size) 3 (.int .i64 sm.w) nn_r1_r2 (set_far (n := W6.heap.size) 2 (.int .i64 sm.t) nn_r1_r2 (set_far (n := W6.heap.size) 1 (.int .i64 sm.y) nn_r1_r2 (set_far (n := W6.heap.size) 0 (.int .i64 sm.g) nn_r1_r2 (set_one (set_one (set_one (set_one g3 0 (.int .i64 q.g)) 1 (.int .i64 q.y)) 2 (.int .i64 q.t)) 3 (.int .i64 q.w)))))); simp only [List.setIfInBounds_toArray, List.set_cons_zero, List.set_cons_succ] at h2; exact h2
  have G2 : Vf.heap[W6.heap.size]? = some (.cells #[.int .i64 sm.g, .int .i64 sm.y, .int .i64 sm.t, .int .i64 sm.w] 28 (0, 0)) := by rw [← hVf]; have h2 := (set_one (set_one (set_one (set_one (set_far (n := W5.heap.size) 3 (.int .i64 q.w) nn_r2_r1 (set_far (n := W5.heap.size) 2 (.int .i64 q.t) nn_r2_r1 (set_far (n := W5.heap.size) 1 (.int .i64 q.y) nn_r2_r1 (set_far (n := W5.heap.size) 0 (.int .i64 q.g) nn_r2_r1 g4)))) 0 (.int .i64 sm.g)) 1 (.int .i64 sm.y)) 2 (.int .i64 sm.t)) 3 (.int .i64 sm.w)); simp only [List.setIfInBounds_toArray, List.set_cons_zero, List.set_cons_succ] at h2; exact h2
  have hfin : Hid (Below w.heap.size w Vf) := Lib.hid (by rw [← hVf]; exact (Below.setCell (p := ⟨W6.heap.size, 3, none⟩) (Below.setCell (p := ⟨W6.heap.size, 2, none⟩) (Below.setCell (p := ⟨W6.heap.size, 1, none⟩) (Below.setCell (p := ⟨W6.heap.size, 0, none⟩) (Below.setCell (p := ⟨W5.heap.size, 3, none⟩) (Below.setCell (p := ⟨W5.heap.size, 2, none⟩) (Below.setCell (p := ⟨W5.heap.size, 1, none⟩) (Below.setCell (p := ⟨W5.heap.size, 0, none⟩) hV le_r1 (.int .i64 q.g)) le_r1 (.int .i64 q.y)) le_r1 (.int .i64 q.t)) le_r1 (.int .i64 q.w)) le_r2 (.int .i64 sm.g)) le_r2 (.int .i64 sm.y)) le_r2 (.int .i64 sm.t)) le_r2 (.int .i64 sm.w)))
  clear hVf d_p_0 k_p_0 d_p_1 k_p_1 d_p_2 k_p_2 d_p_3 k_p_3 d_s_0 k_s_0 d_s_1 k_s_1 d_s_2 k_s_2 d_s_3 k_s_3 d_r1_0 k_r1_0 d_r1_1 k_r1_1 d_r1_2 k_r1_2 d_r1_3 k_r1_3 d_r2_0 k_r2_0 d_r2_1 k_r2_1 d_r2_2 k_r2_2 d_r2_3 k_r2_3
  obtain ⟨-, u1, -⟩ := row_cells G1
  obtain ⟨-, u2, -⟩ := row_cells G2
  have u1_0 := u1 0
  have u2_0 := u2 0
  have u1_1 := u1 1
  have u2_1 := u2 1
  have u1_2 := u1 2
  have u2_2 := u2 2
  have u1_3 := u1 3
  have u2_3 := u2 3
  simp only [List.getElem?_toArray, List.getElem?_cons_zero, List.getElem?_cons_succ] at u1_0 u2_0 u1_1 u2_1 u1_2 u2_2 u1_3 u2_3
  clear u1 u2
  go_wp2
  refine bodyPost_ret (v := .tuple #[ptV q, ptV sm, .int .i64 0]) (by simp [results, Try.results5, go_sem, *]) rfl ⟨rfl, hfin.out.drew⟩

set_option maxRecDepth 100000 in
set_option maxHeartbeats 8000000 in
theorem progPlayNone {lv av bv : Value} {c : Cav} {p : Pt} {l : List Gas.Op} {xa xb : List Int} (w : World) (hl : OpsAt w lv l) (ha : IntsAt w av xa) (hb : IntsAt w bv xb) (he : playErr c p l xa xb = 0) (hpl : play c p l xa xb = none) :
    Calls Try.prog 5 #[cavV c, ptV p, lv, av, bv] w fun e w' => e = .returned (.tuple #[ptV pt0, ptV pt0, .int .i64 7]) ∧ Below w.heap.size w w' := by
  have hl' := hl; have ha' := ha; have hb' := hb
  obtain ⟨sl, cl, rfl, -, -⟩ := hl'
  obtain ⟨sa, ca, rfl, -, -⟩ := ha'
  obtain ⟨sb, cb, rfl, -, -⟩ := hb'
  obtain ⟨he0, hc, hp, ht⟩ := playErr_zero he
  obtain ⟨hlen, hob⟩ := opsErr_zero.1 he0
  obtain ⟨W1, hW1⟩ : ∃ W1, w.alloc (.cells #[.int .i64 c.vlo, .int .i64 c.vhi, .int .i64 c.least, .int .i64 c.most, .int .i64 c.f0, .int .i64 c.f1, .int .i64 c.h0, .int .i64 c.h1, .int .i64 c.rock, .int .i64 c.plo, .int .i64 c.phi] 26) = W1 := ⟨_, rfl⟩
  obtain ⟨e_c, b_c, s_c⟩ := boxed hW1
  obtain ⟨W2, hW2⟩ : ∃ W2, W1.alloc (.cells #[.int .i64 p.g, .int .i64 p.y, .int .i64 p.t, .int .i64 p.w] 28) = W2 := ⟨_, rfl⟩
  obtain ⟨e_p, b_p, s_p⟩ := boxed hW2
  replace e_c := (b_p.block _ (Array.getElem?_eq_some_iff.1 e_c).1).trans e_c
  obtain ⟨W3, hW3⟩ : ∃ W3, W2.alloc (.cells #[.slice sl l.length cl] 29) = W3 := ⟨_, rfl⟩
  obtain ⟨e_l, b_l, s_l⟩ := boxed hW3
  replace e_c := (b_l.block _ (Array.getElem?_eq_some_iff.1 e_c).1).trans e_c
  replace e_p := (b_l.block _ (Array.getElem?_eq_some_iff.1 e_p).1).trans e_p
  obtain ⟨W4, hW4⟩ : ∃ W4, W3.alloc (.cells #[.slice sa xa.length ca] 30) = W4 := ⟨_, rfl⟩
  obtain ⟨e_a, b_a, s_a⟩ := boxed hW4
  replace e_c := (b_a.block _ (Array.getElem?_eq_some_iff.1 e_c).1).trans e_c
  replace e_p := (b_a.block _ (Array.getElem?_eq_some_iff.1 e_p).1).trans e_p
  replace e_l := (b_a.block _ (Array.getElem?_eq_some_iff.1 e_l).1).trans e_l
  obtain ⟨W5, hW5⟩ : ∃ W5, W4.alloc (.cells #[.slice sb xb.length cb] 30) = W5 := ⟨_, rfl⟩
  obtain ⟨e_b, b_b, s_b⟩ := boxed hW5
  replace e_c := (b_b.block _ (Array.getElem?_eq_some_iff.1 e_c).1).trans e_c
  replace e_p := (b_b.block _ (Array.getElem?_eq_some_iff.1 e_p).1).trans e_p
  replace e_l := (b_b.block _ (Array.getElem?_eq_some_iff.1 e_l).1).trans e_l
  replace e_a := (b_b.block _ (Array.getElem?_eq_some_iff.1 e_a).1).trans e_a
  obtain ⟨W6, hW6⟩ : ∃ W6, W5.alloc (.cells #[.int .i64 0, .int .i64 0, .int .i64 0, .int .i64 0] 28) = W6 := ⟨_, rfl⟩
  obtain ⟨e_r1, b_r1, s_r1⟩ := boxed hW6
  replace e_c := (b_r1.block _ (Array.getElem?_eq_some_iff.1 e_c).1).trans e_c
  replace e_p := (b_r1.block _ (Array.getElem?_eq_some_iff.1 e_p).1).trans e_p
  replace e_l := (b_r1.block _ (Array.getElem?_eq_some_iff.1 e_l).1).trans e_l
  replace e_a := (b_r1.block _ (Array.getElem?_eq_some_iff.1 e_a).1).trans e_a
  replace e_b := (b_r1.block _ (Array.getElem?_eq_some_iff.1 e_b).1).trans e_b
  obtain ⟨W7, hW7⟩ : ∃ W7, W6.alloc (.cells #[.int .i64 0, .int .i64 0, .int .i64 0, .int .i64 0] 28) = W7 := ⟨_, rfl⟩
  obtain ⟨e_r2, b_r2, s_r2⟩ := boxed hW7
  replace e_c := (b_r2.block _ (Array.getElem?_eq_some_iff.1 e_c).1).trans e_c
  replace e_p := (b_r2.block _ (Array.getElem?_eq_some_iff.1 e_p).1).trans e_p
  replace e_l := (b_r2.block _ (Array.getElem?_eq_some_iff.1 e_l).1).trans e_l
  replace e_a := (b_r2.block _ (Array.getElem?_eq_some_iff.1 e_a).1).trans e_a
  replace e_b := (b_r2.block _ (Array.getElem?_eq_some_iff.1 e_b).1).trans e_b
  replace e_r1 := (b_r2.block _ (Array.getElem?_eq_some_iff.1 e_r1).1).trans e_r1
  obtain ⟨m7_c_0, m7_c_1, m7_c_2, m7_c_3, m7_c_4, m7_c_5, m7_c_6, m7_c_7, m7_c_8, m7_c_9, m7_c_10⟩ := rc11 e_c
  have mz7_c : w.heap.size < W7.heap.size := (Array.getElem?_eq_some_iff.1 e_c).1
  obtain ⟨W, hW⟩ : ∃ W, W7.alloc (.cells #[.int .i64 c.vlo, .int .i64 c.vhi, .int .i64 c.least, .int .i64 c.most, .int .i64 c.f0, .int .i64 c.f1, .int .i64 c.h0, .int .i64 c.h1, .int .i64 c.rock, .int .i64 c.plo, .int .i64 c.phi] 59) = W := ⟨_, rfl⟩
  obtain ⟨e_x, b_x, s_x⟩ := boxed hW
  replace e_c := (b_x.block _ (Array.getElem?_eq_some_iff.1 e_c).1).trans e_c
  replace e_p := (b_x.block _ (Array.getElem?_eq_some_iff.1 e_p).1).trans e_p
  replace e_l := (b_x.block _ (Array.getElem?_eq_some_iff.1 e_l).1).trans e_l
  replace e_a := (b_x.block _ (Array.getElem?_eq_some_iff.1 e_a).1).trans e_a
  replace e_b := (b_x.block _ (Array.getElem?_eq_some_iff.1 e_b).1).trans e_b
  replace e_r1 := (b_x.block _ (Array.getElem?_eq_some_iff.1 e_r1).1).trans e_r1
  replace e_r2 := (b_x.block _ (Array.getElem?_eq_some_iff.1 e_r2).1).trans e_r2
  have B0 : Below w.heap.size w W := (((((((b_c.trans (b_p.mono (by omega))).trans (b_l.mono (by omega))).trans (b_a.mono (by omega))).trans (b_b.mono (by omega))).trans (b_r1.mono (by omega))).trans (b_r2.mono (by omega))).trans (b_x.mono (by omega)))
  have z0_c := (Array.getElem?_eq_some_iff.1 e_c).1
  have z0_p := (Array.getElem?_eq_some_iff.1 e_p).1
  have z0_l := (Array.getElem?_eq_some_iff.1 e_l).1
  have z0_a := (Array.getElem?_eq_some_iff.1 e_a).1
  have z0_b := (Array.getElem?_eq_some_iff.1 e_b).1
  have z0_r1 := (Array.getElem?_eq_some_iff.1 e_r1).1
  have z0_r2 := (Array.getElem?_eq_some_iff.1 e_r2).1
  have z0_x := (Array.getElem?_eq_some_iff.1 e_x).1
  have ne_c_p : (w.heap.size : Nat) ≠ W1.heap.size := by omega
  have ne_c_l : (w.heap.size : Nat) ≠ W2.heap.size := by omega
  have ne_c_a : (w.heap.size : Nat) ≠ W3.heap.size := by omega
  have ne_c_b : (w.heap.size : Nat) ≠ W4.heap.size := by omega
  have ne_c_r1 : (w.heap.size : Nat) ≠ W5.heap.size := by omega
  have ne_c_r2 : (w.heap.size : Nat) ≠ W6.heap.size := by omega
  have ne_c_x : (w.heap.size : Nat) ≠ W7.heap.size := by omega
  have le_c : w.heap.size ≤ w.heap.size := by omega
  have ne_p_c : (W1.heap.size : Nat) ≠ w.heap.size := by omega
  have ne_p_l : (W1.heap.size : Nat) ≠ W2.heap.size := by omega
  have ne_p_a : (W1.heap.size : Nat) ≠ W3.heap.size := by omega
  have ne_p_b : (W1.heap.size : Nat) ≠ W4.heap.size := by omega
  have ne_p_r1 : (W1.heap.size : Nat) ≠ W5.heap.size := by omega
  have ne_p_r2 : (W1.heap.size : Nat) ≠ W6.heap.size := by omega
  have ne_p_x : (W1.heap.size : Nat) ≠ W7.heap.size := by omega
  have le_p : w.heap.size ≤ W1.heap.size := by omega
  have ne_l_c : (W2.heap.size : Nat) ≠ w.heap.size := by omega
  have ne_l_p : (W2.heap.size : Nat) ≠ W1.heap.size := by omega
  have ne_l_a : (W2.heap.size : Nat) ≠ W3.heap.size := by omega
  have ne_l_b : (W2.heap.size : Nat) ≠ W4.heap.size := by omega
  have ne_l_r1 : (W2.heap.size : Nat) ≠ W5.heap.size := by omega
  have ne_l_r2 : (W2.heap.size : Nat) ≠ W6.heap.size := by omega
  have ne_l_x : (W2.heap.size : Nat) ≠ W7.heap.size := by omega
  have le_l : w.heap.size ≤ W2.heap.size := by omega
  have ne_a_c : (W3.heap.size : Nat) ≠ w.heap.size := by omega
  have ne_a_p : (W3.heap.size : Nat) ≠ W1.heap.size := by omega
  have ne_a_l : (W3.heap.size : Nat) ≠ W2.heap.size := by omega
  have ne_a_b : (W3.heap.size : Nat) ≠ W4.heap.size := by omega
  have ne_a_r1 : (W3.heap.size : Nat) ≠ W5.heap.size := by omega
  have ne_a_r2 : (W3.heap.size : Nat) ≠ W6.heap.size := by omega
  have ne_a_x : (W3.heap.size : Nat) ≠ W7.heap.size := by omega
  have le_a : w.heap.size ≤ W3.heap.size := by omega
  have ne_b_c : (W4.heap.size : Nat) ≠ w.heap.size := by omega
  have ne_b_p : (W4.heap.size : Nat) ≠ W1.heap.size := by omega
  have ne_b_l : (W4.heap.size : Nat) ≠ W2.heap.size := by omega
  have ne_b_a : (W4.heap.size : Nat) ≠ W3.heap.size := by omega
  have ne_b_r1 : (W4.heap.size : Nat) ≠ W5.heap.size := by omega
  have ne_b_r2 : (W4.heap.size : Nat) ≠ W6.heap.size := by omega
  have ne_b_x : (W4.heap.size : Nat) ≠ W7.heap.size := by omega
  have le_b : w.heap.size ≤ W4.heap.size := by omega
  have ne_r1_c : (W5.heap.size : Nat) ≠ w.heap.size := by omega
  have ne_r1_p : (W5.heap.size : Nat) ≠ W1.heap.size := by omega
  have ne_r1_l : (W5.heap.size : Nat) ≠ W2.heap.size := by omega
  have ne_r1_a : (W5.heap.size : Nat) ≠ W3.heap.size := by omega
  have ne_r1_b : (W5.heap.size : Nat) ≠ W4.heap.size := by omega
  have ne_r1_r2 : (W5.heap.size : Nat) ≠ W6.heap.size := by omega
  have ne_r1_x : (W5.heap.size : Nat) ≠ W7.heap.size := by omega
  have le_r1 : w.heap.size ≤ W5.heap.size := by omega
  have ne_r2_c : (W6.heap.size : Nat) ≠ w.heap.size := by omega
  have ne_r2_p : (W6.heap.size : Nat) ≠ W1.heap.size := by omega
  have ne_r2_l : (W6.heap.size : Nat) ≠ W2.heap.size := by omega
  have ne_r2_a : (W6.heap.size : Nat) ≠ W3.heap.size := by omega
  have ne_r2_b : (W6.heap.size : Nat) ≠ W4.heap.size := by omega
  have ne_r2_r1 : (W6.heap.size : Nat) ≠ W5.heap.size := by omega
  have ne_r2_x : (W6.heap.size : Nat) ≠ W7.heap.size := by omega
  have le_r2 : w.heap.size ≤ W6.heap.size := by omega
  have ne_x_c : (W7.heap.size : Nat) ≠ w.heap.size := by omega
  have ne_x_p : (W7.heap.size : Nat) ≠ W1.heap.size := by omega
  have ne_x_l : (W7.heap.size : Nat) ≠ W2.heap.size := by omega
  have ne_x_a : (W7.heap.size : Nat) ≠ W3.heap.size := by omega
  have ne_x_b : (W7.heap.size : Nat) ≠ W4.heap.size := by omega
  have ne_x_r1 : (W7.heap.size : Nat) ≠ W5.heap.size := by omega
  have ne_x_r2 : (W7.heap.size : Nat) ≠ W6.heap.size := by omega
  have le_x : w.heap.size ≤ W7.heap.size := by omega
  clear s_c b_c s_p b_p s_l b_l s_a b_a s_b b_b s_r1 b_r1 s_r2 b_r2 s_x b_x
  obtain ⟨q0_c_0, q0_c_1, q0_c_2, q0_c_3, q0_c_4, q0_c_5, q0_c_6, q0_c_7, q0_c_8, q0_c_9, q0_c_10⟩ := rc11 e_c
  replace e_c := Lib.hid e_c
  obtain ⟨q0_p_0, q0_p_1, q0_p_2, q0_p_3⟩ := rc4 e_p
  replace e_p := Lib.hid e_p
  have q0_l_0 := rc1 e_l
  replace e_l := Lib.hid e_l
  have q0_a_0 := rc1 e_a
  replace e_a := Lib.hid e_a
  have q0_b_0 := rc1 e_b
  replace e_b := Lib.hid e_b
  obtain ⟨q0_r1_0, q0_r1_1, q0_r1_2, q0_r1_3⟩ := rc4 e_r1
  obtain ⟨f0_r1_0, f0_r1_1, f0_r1_2, f0_r1_3⟩ := rf4 e_r1
  replace e_r1 := Lib.hid e_r1
  obtain ⟨q0_r2_0, q0_r2_1, q0_r2_2, q0_r2_3⟩ := rc4 e_r2
  obtain ⟨f0_r2_0, f0_r2_1, f0_r2_2, f0_r2_3⟩ := rf4 e_r2
  replace e_r2 := Lib.hid e_r2
  obtain ⟨q0_x_0, q0_x_1, q0_x_2, q0_x_3, q0_x_4, q0_x_5, q0_x_6, q0_x_7, q0_x_8, q0_x_9, q0_x_10⟩ := rc11 e_x
  replace e_x := Lib.hid e_x
  have kO : Hid (Calls Try.prog 16 #[.slice sl l.length cl] W fun e w' => e = .returned (.int .i64 0) ∧ Below W.heap.size W w') := Lib.hid (by have := progOps _ l W (hl.mono B0); rwa [he0] at this)
  have kV := Lib.hid (fun w => (progValid c w).mono fun e w' hb => BoolB.lit hb hc)
  have kP := Lib.hid (fun w => (progPoint p w).mono fun e w' hb => BoolB.lit hb hp)
  have kT : Hid (∀ g : Grow W, Calls Try.prog 19 #[.slice sl l.length cl, .slice sa xa.length ca, .slice sb xb.length cb] g.x fun e w' => e = .returned (.bool true) ∧ Below g.x.heap.size g.x w') := Lib.hid (fun g => by have := progTruth _ _ _ l xa xb g.x ((hl.mono B0).mono g.h) ((ha.mono B0).mono g.h) ((hb.mono B0).mono g.h); rwa [ht] at this)
  have hD : Hid (∀ g : Grow W, Calls Try.prog 20 #[.func (.func 21) #[] #[.pointer (some ⟨W2.heap.size, 0, none⟩), .pointer (some ⟨W7.heap.size, 0, none⟩), .pointer (some ⟨W1.heap.size, 0, none⟩), .pointer (some ⟨g.x.heap.size, 0, none⟩), .pointer (some ⟨W3.heap.size, 0, none⟩), .pointer (some ⟨W4.heap.size, 0, none⟩)]] (g.x.alloc (.cells #[.int .i64 0, .int .i64 0, .int .i64 0, .int .i64 0] 28)) fun e V2 => e = .returned (.bool false) ∧ V2.heap[W5.heap.size]? = some (.cells #[.int .i64 0, .int .i64 0, .int .i64 0, .int .i64 0] 28 (0, 0)) ∧ V2.heap[W6.heap.size]? = some (.cells #[.int .i64 0, .int .i64 0, .int .i64 0, .int .i64 0] 28 (0, 0)) ∧ Below w.heap.size w V2) := Lib.hid (fun g => by
    have gs := g.size
    have b0s := B0.size
    obtain ⟨Z, hZ⟩ : ∃ Z, g.x.alloc (.cells #[.int .i64 0, .int .i64 0, .int .i64 0, .int .i64 0] 28) = Z := ⟨_, rfl⟩
    rw [hZ]
    obtain ⟨eZ, bZ, sZ⟩ := boxed hZ
    obtain ⟨X, hX⟩ : ∃ X, Z.alloc (.cells #[.bool false] 4) = X := ⟨_, rfl⟩
    obtain ⟨eX, bX, sX⟩ := boxed hX
    have hWZ : Below W.heap.size W Z := g.h.trans (bZ.mono gs)
    have hWX : Below W.heap.size W X := hWZ.trans (bX.mono hWZ.size)
    have hwX : Below w.heap.size w X := B0.trans (hWX.mono B0.size)
    have up : ∀ {k v}, W.heap[k]? = some v → X.heap[k]? = some v := fun h => (hWX.block _ (Array.getElem?_eq_some_iff.1 h).1).trans h
    have hen : ∀ args w, (callFunc 21 args).run Try.prog w = .ok (.enter 21 args) w := fun args w => by kernel_rfl
    have hP := progPlay1 (bl := W2.heap.size) (bc := W7.heap.size) (bp := W1.heap.size) (bs := g.x.heap.size) (ba := W3.heap.size) (bb := W4.heap.size) c p l xa xb w X (Cav.ok_iff.1 hc) (Pt.ok_iff.1 hp) hlen hob ht hl ha hb hwX (by omega) (by omega) (up e_l.out) (up e_x.out) (up e_p.out) ((bX.block _ (Array.getElem?_eq_some_iff.1 eZ).1).trans eZ) (up e_a.out) (up e_b.out) (by omega)
    rw [hpl] at hP
    have hN := progDoneNR Z X (fun V => Kept (fun k => k ≠ W1.heap.size ∧ k ≠ g.x.heap.size) X V) hX hen (hP.mono fun e V hV => ⟨hV.2, hV.1.block _ (by omega) ⟨by omega, by omega⟩, hV.1⟩)
    refine hN.mono ?_
    rintro e V2 ⟨rfl, V, str, k3, rfl⟩
    have kz := k3.size
    have f : ∀ {k o}, k ≠ Z.heap.size → k < X.heap.size → V.heap[k]? = o → ((V.setCell ⟨Z.heap.size, 0, none⟩ (.bool false)).alloc (.cells #[.string str] 78)).heap[k]? = o := fun hk hl h => (Below.heap_alloc _ _ _ (by simp [World.setCell]; omega)).trans ((Below.heap_setCell _ _ _ _ hk).trans h)
    have hbs := (hwX.trans (k3.below hwX.size fun k hk => ⟨by omega, by omega⟩)).setCell (p := ⟨Z.heap.size, 0, none⟩) (by show w.heap.size ≤ Z.heap.size; omega) (.bool false)
    exact ⟨rfl, f (by omega) (by omega) ((k3.block _ (by omega) ⟨by omega, by omega⟩).trans (up e_r1.out)), f (by omega) (by omega) ((k3.block _ (by omega) ⟨by omega, by omega⟩).trans (up e_r2.out)), hbs.alloc hbs.size _⟩)
  have hgc := grow_cell W
  have hgf := grow_frozen W
  clear hl ha hb he he0 hc hp ht hpl
  go_enter Try.func5, Try.ntmps5
  go_wp2_with (first | (go_at_call 16; (with_reducible refine Calls.mono (kO.out) ?_); rintro e w1 ⟨rfl, hB⟩; (first | (obtain ⟨g, rfl⟩ := g.next hB) | (obtain ⟨g, rfl⟩ : ∃ g : Grow W, w1 = g.x := ⟨⟨w1, hB⟩, rfl⟩)); clear hB) | (go_at_call 17; (with_reducible refine Calls.mono (kV.out _) ?_); rintro e w1 ⟨rfl, hB⟩; (first | (obtain ⟨g, rfl⟩ := g.next hB) | (obtain ⟨g, rfl⟩ : ∃ g : Grow W, w1 = g.x := ⟨⟨w1, hB⟩, rfl⟩)); clear hB) | (go_at_call 18; (with_reducible refine Calls.mono (kP.out _) ?_); rintro e w1 ⟨rfl, hB⟩; (first | (obtain ⟨g, rfl⟩ := g.next hB) | (obtain ⟨g, rfl⟩ : ∃ g : Grow W, w1 = g.x := ⟨⟨w1, hB⟩, rfl⟩)); clear hB) | (go_at_call 19; (with_reducible refine Calls.mono (kT.out _) ?_); rintro e w1 ⟨rfl, hB⟩; (first | (obtain ⟨g, rfl⟩ := g.next hB) | (obtain ⟨g, rfl⟩ : ∃ g : Grow W, w1 = g.x := ⟨⟨w1, hB⟩, rfl⟩)); clear hB) | (go_at_call 20; (with_reducible refine Calls.mono (hD.out g) ?_); rintro e V2 ⟨rfl, g3, g4, hV⟩; obtain ⟨zr1, cr1, fr1⟩ := row_cells g3; obtain ⟨zr2, cr2, fr2⟩ := row_cells g4; have cr1_0 := cr1 0; have fr1_0 := fr1 0; have cr2_0 := cr2 0; have fr2_0 := fr2 0; have cr1_1 := cr1 1; have fr1_1 := fr1 1; have cr2_1 := cr2 1; have fr2_1 := fr2 1; have cr1_2 := cr1 2; have fr1_2 := fr1 2; have cr2_2 := cr2 2; have fr2_2 := fr2 2; have cr1_3 := cr1 3; have fr1_3 := fr1 3; have cr2_3 := cr2 3; have fr2_3 := fr2 3; simp only [List.getElem?_toArray, List.getElem?_cons_zero, List.getElem?_cons_succ] at cr1_0 cr2_0 cr1_1 cr2_1 cr1_2 cr2_2 cr1_3 cr2_3; clear cr1 cr2 fr1 fr2))
  refine bodyPost_ret (v := .tuple #[ptV pt0, ptV pt0, .int .i64 7]) (by simp [results, Try.results5, go_sem, *]) rfl ⟨rfl, ?_⟩
  repeat' (first | (with_reducible exact hV) | (with_reducible exact le_r1) | (with_reducible exact le_r2) | (with_reducible refine Below.setCell ?_ ?_ _))
end Go.Proofs.Ytdilgjhdimlbkaa
