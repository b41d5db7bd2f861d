/- Laws and walks: GPl2, GPl3, Loc, GKno, GSta, GFrh. -/
import Derived.BigRegion
import Derived.Test.YthbkcoijafehgaaGreatK02
import Derived.Test.YthbkcoijafehgaaGreatK04
import Derived.Test.YthbkcoijafehgaaGreatK14
import Derived.Test.YthbkcoijafehgaaGreatK15
import Derived.Test.YthbkcoijafehgaaGreatK16
import Derived.Test.YthbkcoijafehgaaGreatK18
set_option linter.unusedVariables false
set_option linter.unusedSimpArgs false
namespace Gas
/-- The error with which operations are refused; 0, if they are not. -/
def playErr (c : Cav) (p : Pt) (l : List Op) (xa xb : List Int) : Int := if 20 < l.length then 3 else if (opsB l && (c.ok && p.ok && truthB l xa xb)) = true then 0 else 2
end Gas
namespace Go.Proofs.YthbkcoijafehgaaGreat.G
open Go.RowKit Go.Sd Gas
theorem opsErr_zero {l : List Gas.Op} : opsErr l = 0 ↔ l.length ≤ 20 ∧ opsB l = true := by
  unfold opsErr
  split
  · constructor
    · intro h; omega
    · intro h; omega
  · split
    · simp_all
    · simp_all
theorem playErr_zero {c : Cav} {p : Pt} {l : List Gas.Op} {xa xb : List Int} (h : playErr c p l xa xb = 0) : opsErr l = 0 ∧ c.ok = true ∧ p.ok = true ∧ truthB l xa xb = true := by
  unfold playErr at h
  split at h
  · omega
  · rename_i h1
    split at h
    · rename_i h2
      simp only [Bool.and_eq_true] at h2
      exact ⟨opsErr_zero.2 ⟨by omega, h2.1⟩, h2.2.1.1, h2.2.1.2, h2.2.2⟩
    · omega
end Go.Proofs.YthbkcoijafehgaaGreat.G
set_option linter.unusedVariables false
set_option linter.unusedSimpArgs false
namespace Go.Proofs.YthbkcoijafehgaaGreat.G
open Go.RowKit Go.Sd Gas
set_option maxRecDepth 100000 in
set_option maxHeartbeats 8000000 in
theorem progPlaySome {lv av bv : Value} {c : Cav} {p : Pt} {l : List Gas.Op} {xa xb : List Int} (w : World) (hl : OpsAt w lv l) (ha : IntsAt w av xa) (hb : IntsAt w bv xb) {q sm : Pt} (he : playErr c p l xa xb = 0) (hpl : play c p l xa xb = some (q, sm)) :
    Calls Tryz.prog 11 #[cavV c, ptV p, lv, av, bv] w fun e w' => e = .returned (.tuple #[ptV q, ptV sm, .int .i64 0]) ∧ Below w.heap.size w w' := by
  have hl' := hl; have ha' := ha; have hb' := hb
  obtain ⟨sl, cl, rfl, -, -⟩ := hl'
  obtain ⟨sa, ca, rfl, -, -⟩ := ha'
  obtain ⟨sb, cb, rfl, -, -⟩ := hb'
  obtain ⟨he0, hc, hp, ht⟩ := playErr_zero he
  obtain ⟨hlen, hob⟩ := opsErr_zero.1 he0
  obtain ⟨W1, hW1⟩ : ∃ W1, w.alloc (.cells #[.int .i64 c.vlo, .int .i64 c.vhi, .int .i64 c.least, .int .i64 c.most, .int .i64 c.f0, .int .i64 c.f1, .int .i64 c.h0, .int .i64 c.h1, .int .i64 c.rock, .int .i64 c.plo, .int .i64 c.phi] 26) = W1 := ⟨_, rfl⟩
  obtain ⟨e_c, b_c, s_c⟩ := boxed hW1
  obtain ⟨W2, hW2⟩ : ∃ W2, W1.alloc (.cells #[.int .i64 p.g, .int .i64 p.y, .int .i64 p.t, .int .i64 p.w] 31) = W2 := ⟨_, rfl⟩
  obtain ⟨e_p, b_p, s_p⟩ := boxed hW2
  replace e_c := (b_p.block _ (Array.getElem?_eq_some_iff.1 e_c).1).trans e_c
  obtain ⟨W3, hW3⟩ : ∃ W3, W2.alloc (.cells #[.slice sl l.length cl] 29) = W3 := ⟨_, rfl⟩
  obtain ⟨e_l, b_l, s_l⟩ := boxed hW3
  replace e_c := (b_l.block _ (Array.getElem?_eq_some_iff.1 e_c).1).trans e_c
  replace e_p := (b_l.block _ (Array.getElem?_eq_some_iff.1 e_p).1).trans e_p
  obtain ⟨W4, hW4⟩ : ∃ W4, W3.alloc (.cells #[.slice sa xa.length ca] 32) = W4 := ⟨_, rfl⟩
  obtain ⟨e_a, b_a, s_a⟩ := boxed hW4
  replace e_c := (b_a.block _ (Array.getElem?_eq_some_iff.1 e_c).1).trans e_c
  replace e_p := (b_a.block _ (Array.getElem?_eq_some_iff.1 e_p).1).trans e_p
  replace e_l := (b_a.block _ (Array.getElem?_eq_some_iff.1 e_l).1).trans e_l
  obtain ⟨W5, hW5⟩ : ∃ W5, W4.alloc (.cells #[.slice sb xb.length cb] 32) = W5 := ⟨_, rfl⟩
  obtain ⟨e_b, b_b, s_b⟩ := boxed hW5
  replace e_c := (b_b.block _ (Array.getElem?_eq_some_iff.1 e_c).1).trans e_c
  replace e_p := (b_b.block _ (Array.getElem?_eq_some_iff.1 e_p).1).trans e_p
  replace e_l := (b_b.block _ (Array.getElem?_eq_some_iff.1 e_l).1).trans e_l
  replace e_a := (b_b.block _ (Array.getElem?_eq_some_iff.1 e_a).1).trans e_a
  obtain ⟨W6, hW6⟩ : ∃ W6, W5.alloc (.cells #[.int .i64 0, .int .i64 0, .int .i64 0, .int .i64 0] 31) = W6 := ⟨_, rfl⟩
  obtain ⟨e_r1, b_r1, s_r1⟩ := boxed hW6
  replace e_c := (b_r1.block _ (Array.getElem?_eq_some_iff.1 e_c).1).trans e_c
  replace e_p := (b_r1.block _ (Array.getElem?_eq_some_iff.1 e_p).1).trans e_p
  replace e_l := (b_r1.block _ (Array.getElem?_eq_some_iff.1 e_l).1).trans e_l
  replace e_a := (b_r1.block _ (Array.getElem?_eq_some_iff.1 e_a).1).trans e_a
  replace e_b := (b_r1.block _ (Array.getElem?_eq_some_iff.1 e_b).1).trans e_b
  obtain ⟨W7, hW7⟩ : ∃ W7, W6.alloc (.cells #[.int .i64 0, .int .i64 0, .int .i64 0, .int .i64 0] 31) = W7 := ⟨_, rfl⟩
  obtain ⟨e_r2, b_r2, s_r2⟩ := boxed hW7
  replace e_c := (b_r2.block _ (Array.getElem?_eq_some_iff.1 e_c).1).trans e_c
  replace e_p := (b_r2.block _ (Array.getElem?_eq_some_iff.1 e_p).1).trans e_p
  replace e_l := (b_r2.block _ (Array.getElem?_eq_some_iff.1 e_l).1).trans e_l
  replace e_a := (b_r2.block _ (Array.getElem?_eq_some_iff.1 e_a).1).trans e_a
  replace e_b := (b_r2.block _ (Array.getElem?_eq_some_iff.1 e_b).1).trans e_b
  replace e_r1 := (b_r2.block _ (Array.getElem?_eq_some_iff.1 e_r1).1).trans e_r1
  obtain ⟨m7_c_0, m7_c_1, m7_c_2, m7_c_3, m7_c_4, m7_c_5, m7_c_6, m7_c_7, m7_c_8, m7_c_9, m7_c_10⟩ := rc11 e_c
  have mz7_c : w.heap.size < W7.heap.size := (Array.getElem?_eq_some_iff.1 e_c).1
  obtain ⟨W, hW⟩ : ∃ W, W7.alloc (.cells #[.int .i64 c.vlo, .int .i64 c.vhi, .int .i64 c.least, .int .i64 c.most, .int .i64 c.f0, .int .i64 c.f1, .int .i64 c.h0, .int .i64 c.h1, .int .i64 c.rock, .int .i64 c.plo, .int .i64 c.phi] 88) = W := ⟨_, rfl⟩
  obtain ⟨e_x, b_x, s_x⟩ := boxed hW
  replace e_c := (b_x.block _ (Array.getElem?_eq_some_iff.1 e_c).1).trans e_c
  replace e_p := (b_x.block _ (Array.getElem?_eq_some_iff.1 e_p).1).trans e_p
  replace e_l := (b_x.block _ (Array.getElem?_eq_some_iff.1 e_l).1).trans e_l
  replace e_a := (b_x.block _ (Array.getElem?_eq_some_iff.1 e_a).1).trans e_a
  replace e_b := (b_x.block _ (Array.getElem?_eq_some_iff.1 e_b).1).trans e_b
  replace e_r1 := (b_x.block _ (Array.getElem?_eq_some_iff.1 e_r1).1).trans e_r1
  replace e_r2 := (b_x.block _ (Array.getElem?_eq_some_iff.1 e_r2).1).trans e_r2
  have B0 : Below w.heap.size w W := (((((((b_c.trans (b_p.mono (by omega))).trans (b_l.mono (by omega))).trans (b_a.mono (by omega))).trans (b_b.mono (by omega))).trans (b_r1.mono (by omega))).trans (b_r2.mono (by omega))).trans (b_x.mono (by omega)))
  have z0_c := (Array.getElem?_eq_some_iff.1 e_c).1
  have z0_p := (Array.getElem?_eq_some_iff.1 e_p).1
  have z0_l := (Array.getElem?_eq_some_iff.1 e_l).1
  have z0_a := (Array.getElem?_eq_some_iff.1 e_a).1
  have z0_b := (Array.getElem?_eq_some_iff.1 e_b).1
  have z0_r1 := (Array.getElem?_eq_some_iff.1 e_r1).1
  have z0_r2 := (Array.getElem?_eq_some_iff.1 e_r2).1
  have z0_x := (Array.getElem?_eq_some_iff.1 e_x).1
  have ne_c_p : (w.heap.size : Nat) ≠ W1.heap.size := by omega
  have ne_c_l : (w.heap.size : Nat) ≠ W2.heap.size := by omega
  have ne_c_a : (w.heap.size : Nat) ≠ W3.heap.size := by omega
  have ne_c_b : (w.heap.size : Nat) ≠ W4.heap.size := by omega
  have ne_c_r1 : (w.heap.size : Nat) ≠ W5.heap.size := by omega
  have ne_c_r2 : (w.heap.size : Nat) ≠ W6.heap.size := by omega
  have ne_c_x : (w.heap.size : Nat) ≠ W7.heap.size := by omega
  have le_c : w.heap.size ≤ w.heap.size := by omega
  have ne_p_c : (W1.heap.size : Nat) ≠ w.heap.size := by omega
  have ne_p_l : (W1.heap.size : Nat) ≠ W2.heap.size := by omega
  have ne_p_a : (W1.heap.size : Nat) ≠ W3.heap.size := by omega
  have ne_p_b : (W1.heap.size : Nat) ≠ W4.heap.size := by omega
  have ne_p_r1 : (W1.heap.size : Nat) ≠ W5.heap.size := by omega
  have ne_p_r2 : (W1.heap.size : Nat) ≠ W6.heap.size := by omega
  have ne_p_x : (W1.heap.size : Nat) ≠ W7.heap.size := by omega
  have le_p : w.heap.size ≤ W1.heap.size := by omega
  have ne_l_c : (W2.heap.size : Nat) ≠ w.heap.size := by omega
  have ne_l_p : (W2.heap.size : Nat) ≠ W1.heap.size := by omega
  have ne_l_a : (W2.heap.size : Nat) ≠ W3.heap.size := by omega
  have ne_l_b : (W2.heap.size : Nat) ≠ W4.heap.size := by omega
  have ne_l_r1 : (W2.heap.size : Nat) ≠ W5.heap.size := by omega
  have ne_l_r2 : (W2.heap.size : Nat) ≠ W6.heap.size := by omega
  have ne_l_x : (W2.heap.size : Nat) ≠ W7.heap.size := by omega
  have le_l : w.heap.size ≤ W2.heap.size := by omega
  have ne_a_c : (W3.heap.size : Nat) ≠ w.heap.size := by omega
  have ne_a_p : (W3.heap.size : Nat) ≠ W1.heap.size := by omega
  have ne_a_l : (W3.heap.size : Nat) ≠ W2.heap.size := by omega
  have ne_a_b : (W3.heap.size : Nat) ≠ W4.heap.size := by omega
  have ne_a_r1 : (W3.heap.size : Nat) ≠ W5.heap.size := by omega
  have ne_a_r2 : (W3.heap.size : Nat) ≠ W6.heap.size := by omega
  have ne_a_x : (W3.heap.size : Nat) ≠ W7.heap.size := by omega
  have le_a : w.heap.size ≤ W3.heap.size := by omega
  have ne_b_c : (W4.heap.size : Nat) ≠ w.heap.size := by omega
  have ne_b_p : (W4.heap.size : Nat) ≠ W1.heap.size := by omega
  have ne_b_l : (W4.heap.size : Nat) ≠ W2.heap.size := by omega
  have ne_b_a : (W4.heap.size : Nat) ≠ W3.heap.size := by omega
  have ne_b_r1 : (W4.heap.size : Nat) ≠ W5.heap.size := by omega
  have ne_b_r2 : (W4.heap.size : Nat) ≠ W6.heap.size := by omega
  have ne_b_x : (W4.heap.size : Nat) ≠ W7.heap.size := by omega
  have le_b : w.heap.size ≤ W4.heap.size := by omega
  have ne_r1_c : (W5.heap.size : Nat) ≠ w.heap.size := by omega
  have ne_r1_p : (W5.heap.size : Nat) ≠ W1.heap.size := by omega
  have ne_r1_l : (W5.heap.size : Nat) ≠ W2.heap.size := by omega
  have ne_r1_a : (W5.heap.size : Nat) ≠ W3.heap.size := by omega
  have ne_r1_b : (W5.heap.size : Nat) ≠ W4.heap.size := by omega
  have ne_r1_r2 : (W5.heap.size : Nat) ≠ W6.heap.size := by omega
  have ne_r1_x : (W5.heap.size : Nat) ≠ W7.heap.size := by omega
  have le_r1 : w.heap.size ≤ W5.heap.size := by omega
  have ne_r2_c : (W6.heap.size : Nat) ≠ w.heap.size := by omega
  have ne_r2_p : (W6.heap.size : Nat) ≠ W1.heap.size := by omega
  have ne_r2_l : (W6.heap.size : Nat) ≠ W2.heap.size := by omega
  have ne_r2_a : (W6.heap.size : Nat) ≠ W3.heap.size := by omega
  have ne_r2_b : (W6.heap.size : Nat) ≠ W4.heap.size := by omega
  have ne_r2_r1 : (W6.heap.size : Nat) ≠ W5.heap.size := by omega
  have ne_r2_x : (W6.heap.size : Nat) ≠ W7.heap.size := by omega
  have le_r2 : w.heap.size ≤ W6.heap.size := by omega
  have ne_x_c : (W7.heap.size : Nat) ≠ w.heap.size := by omega
  have ne_x_p : (W7.heap.size : Nat) ≠ W1.heap.size := by omega
  have ne_x_l : (W7.heap.size : Nat) ≠ W2.heap.size := by omega
  have ne_x_a : (W7.heap.size : Nat) ≠ W3.heap.size := by omega
  have ne_x_b : (W7.heap.size : Nat) ≠ W4.heap.size := by omega
  have ne_x_r1 : (W7.heap.size : Nat) ≠ W5.heap.size := by omega
  have ne_x_r2 : (W7.heap.size : Nat) ≠ W6.heap.size := by omega
  have le_x : w.heap.size ≤ W7.heap.size := by omega
  clear s_c b_c s_p b_p s_l b_l s_a b_a s_b b_b s_r1 b_r1 s_r2 b_r2 s_x b_x
  obtain ⟨q0_c_0, q0_c_1, q0_c_2, q0_c_3, q0_c_4, q0_c_5, q0_c_6, q0_c_7, q0_c_8, q0_c_9, q0_c_10⟩ := rc11 e_c
  replace e_c := Lib.hid e_c
  obtain ⟨q0_p_0, q0_p_1, q0_p_2, q0_p_3⟩ := rc4 e_p
  replace e_p := Lib.hid e_p
  have q0_l_0 := rc1 e_l
  replace e_l := Lib.hid e_l
  have q0_a_0 := rc1 e_a
  replace e_a := Lib.hid e_a
  have q0_b_0 := rc1 e_b
  replace e_b := Lib.hid e_b
  replace e_r1 := Lib.hid e_r1
  replace e_r2 := Lib.hid e_r2
  obtain ⟨q0_x_0, q0_x_1, q0_x_2, q0_x_3, q0_x_4, q0_x_5, q0_x_6, q0_x_7, q0_x_8, q0_x_9, q0_x_10⟩ := rc11 e_x
  replace e_x := Lib.hid e_x
  have kO : Hid (Calls Tryz.prog 25 #[.slice sl l.length cl] W fun e w' => e = .returned (.int .i64 0) ∧ Below W.heap.size W w') := Lib.hid (by have := progOps _ l W (hl.mono B0); rwa [he0] at this)
  have kV := Lib.hid (fun w => (progValid c w).mono fun e w' hb => BoolB.lit hb hc)
  have kP := Lib.hid (fun w => (progPoint p w).mono fun e w' hb => BoolB.lit hb hp)
  have kT : Hid (∀ g : Grow W, Calls Tryz.prog 30 #[.slice sl l.length cl, .slice sa xa.length ca, .slice sb xb.length cb] g.x fun e w' => e = .returned (.bool true) ∧ Below g.x.heap.size g.x w') := Lib.hid (fun g => by have := progTruth _ _ _ l xa xb g.x ((hl.mono B0).mono g.h) ((ha.mono B0).mono g.h) ((hb.mono B0).mono g.h); rwa [ht] at this)
  have hD : Hid (∀ g : Grow W, Calls Tryz.prog 31 #[.func (.func 32) #[] #[.pointer (some ⟨W2.heap.size, 0, none⟩), .pointer (some ⟨W7.heap.size, 0, none⟩), .pointer (some ⟨W1.heap.size, 0, none⟩), .pointer (some ⟨g.x.heap.size, 0, none⟩), .pointer (some ⟨W3.heap.size, 0, none⟩), .pointer (some ⟨W4.heap.size, 0, none⟩)]] (g.x.alloc (.cells #[.int .i64 0, .int .i64 0, .int .i64 0, .int .i64 0] 31)) fun e V2 => e = .returned (.bool true) ∧ V2.heap[W1.heap.size]? = some (.cells #[.int .i64 q.g, .int .i64 q.y, .int .i64 q.t, .int .i64 q.w] 31 (0, 0)) ∧ V2.heap[g.x.heap.size]? = some (.cells #[.int .i64 sm.g, .int .i64 sm.y, .int .i64 sm.t, .int .i64 sm.w] 31 (0, 0)) ∧ V2.heap[W5.heap.size]? = some (.cells #[.int .i64 0, .int .i64 0, .int .i64 0, .int .i64 0] 31 (0, 0)) ∧ V2.heap[W6.heap.size]? = some (.cells #[.int .i64 0, .int .i64 0, .int .i64 0, .int .i64 0] 31 (0, 0)) ∧ Below w.heap.size w V2) := Lib.hid (fun g => by
    have gs := g.size
    have b0s := B0.size
    obtain ⟨Z, hZ⟩ : ∃ Z, g.x.alloc (.cells #[.int .i64 0, .int .i64 0, .int .i64 0, .int .i64 0] 31) = Z := ⟨_, rfl⟩
    rw [hZ]
    obtain ⟨eZ, bZ, sZ⟩ := boxed hZ
    obtain ⟨X, hX⟩ : ∃ X, Z.alloc (.cells #[.bool false] 4) = X := ⟨_, rfl⟩
    obtain ⟨eX, bX, sX⟩ := boxed hX
    have hWZ : Below W.heap.size W Z := g.h.trans (bZ.mono gs)
    have hWX : Below W.heap.size W X := hWZ.trans (bX.mono hWZ.size)
    have hwX : Below w.heap.size w X := B0.trans (hWX.mono B0.size)
    have up : ∀ {k v}, W.heap[k]? = some v → X.heap[k]? = some v := fun h => (hWX.block _ (Array.getElem?_eq_some_iff.1 h).1).trans h
    have hen : ∀ args w, (callFunc 32 args).run Tryz.prog w = .ok (.enter 32 args) w := fun args w => by kernel_rfl
    have hP := progPlay1 (bl := W2.heap.size) (bc := W7.heap.size) (bp := W1.heap.size) (bs := g.x.heap.size) (ba := W3.heap.size) (bb := W4.heap.size) c p l xa xb w X (Cav.ok_iff.1 hc) (Pt.ok_iff.1 hp) hlen hob ht hl ha hb hwX (by omega) (by omega) (up e_l.out) (up e_x.out) (up e_p.out) ((bX.block _ (Array.getElem?_eq_some_iff.1 eZ).1).trans eZ) (up e_a.out) (up e_b.out) (by omega)
    rw [hpl] at hP
    have hY := progDoneY Z X (fun V => V.heap[W1.heap.size]? = some (.cells #[.int .i64 q.g, .int .i64 q.y, .int .i64 q.t, .int .i64 q.w] 31 (0, 0)) ∧ V.heap[g.x.heap.size]? = some (.cells #[.int .i64 sm.g, .int .i64 sm.y, .int .i64 sm.t, .int .i64 sm.w] 31 (0, 0)) ∧ Kept (fun k => k ≠ W1.heap.size ∧ k ≠ g.x.heap.size) X V) hX hen (hP.mono fun e V hV => ⟨hV.2.1, hV.1.block _ (by omega) ⟨by omega, by omega⟩, hV.2.2.1, hV.2.2.2, hV.1⟩)
    refine hY.mono ?_
    rintro e V2 ⟨rfl, V, ⟨k1, k2, k3⟩, rfl⟩
    have f : ∀ {k o}, k ≠ Z.heap.size → V.heap[k]? = o → (V.setCell ⟨Z.heap.size, 0, none⟩ (.bool true)).heap[k]? = o := fun hk h => (Below.heap_setCell _ _ _ _ hk).trans h
    exact ⟨rfl, f (by omega) k1, f (by omega) k2, f (by omega) ((k3.block _ (by omega) ⟨by omega, by omega⟩).trans (up e_r1.out)), f (by omega) ((k3.block _ (by omega) ⟨by omega, by omega⟩).trans (up e_r2.out)), (hwX.trans (k3.below hwX.size fun k hk => ⟨by omega, by omega⟩)).setCell (by show w.heap.size ≤ Z.heap.size; omega) _⟩)
  have hgc := grow_cell W
  have hgf := grow_frozen W
  clear hl ha hb he he0 hc hp ht hpl
  go_enter Tryz.func11, Tryz.ntmps11
  go_wp2_with (first | (go_at_call 25; (with_reducible refine Calls.mono (kO.out) ?_); rintro e w1 ⟨rfl, hB⟩; (first | (obtain ⟨g, rfl⟩ := g.next hB) | (obtain ⟨g, rfl⟩ : ∃ g : Grow W, w1 = g.x := ⟨⟨w1, hB⟩, rfl⟩)); clear hB) | (go_at_call 26; (with_reducible refine Calls.mono (kV.out _) ?_); rintro e w1 ⟨rfl, hB⟩; (first | (obtain ⟨g, rfl⟩ := g.next hB) | (obtain ⟨g, rfl⟩ : ∃ g : Grow W, w1 = g.x := ⟨⟨w1, hB⟩, rfl⟩)); clear hB) | (go_at_call 29; (with_reducible refine Calls.mono (kP.out _) ?_); rintro e w1 ⟨rfl, hB⟩; (first | (obtain ⟨g, rfl⟩ := g.next hB) | (obtain ⟨g, rfl⟩ : ∃ g : Grow W, w1 = g.x := ⟨⟨w1, hB⟩, rfl⟩)); clear hB) | (go_at_call 30; (with_reducible refine Calls.mono (kT.out _) ?_); rintro e w1 ⟨rfl, hB⟩; (first | (obtain ⟨g, rfl⟩ := g.next hB) | (obtain ⟨g, rfl⟩ : ∃ g : Grow W, w1 = g.x := ⟨⟨w1, hB⟩, rfl⟩)); clear hB) | (go_at_call 31; (with_reducible refine Calls.mono (hD.out g) ?_); rintro e V2 ⟨rfl, g1, g2, g3, g4, hV⟩))
  have gs := g.size
  have ng : (W1.heap.size : Nat) ≠ g.x.heap.size := by omega
  clear hgc hgf
  clear m7_c_0 m7_c_1 m7_c_2 m7_c_3 m7_c_4 m7_c_5 m7_c_6 m7_c_7 m7_c_8 m7_c_9 m7_c_10 mz7_c q0_c_0 q0_c_1 q0_c_2 q0_c_3 q0_c_4 q0_c_5 q0_c_6 q0_c_7 q0_c_8 q0_c_9 q0_c_10 q0_p_0 q0_p_1 q0_p_2 q0_p_3 q0_l_0 q0_a_0 q0_b_0 q0_x_0 q0_x_1 q0_x_2 q0_x_3 q0_x_4 q0_x_5 q0_x_6 q0_x_7 q0_x_8 q0_x_9 q0_x_10
  obtain ⟨z_p, d_p, k_p⟩ := row_cells g1
  have d_p_0 := d_p 0
  have k_p_0 := k_p 0
  have d_p_1 := d_p 1
  have k_p_1 := k_p 1
  have d_p_2 := d_p 2
  have k_p_2 := k_p 2
  have d_p_3 := d_p 3
  have k_p_3 := k_p 3
  simp only [List.getElem?_toArray, List.getElem?_cons_zero, List.getElem?_cons_succ] at d_p_0 d_p_1 d_p_2 d_p_3
  clear d_p k_p
  obtain ⟨z_s, d_s, k_s⟩ := row_cells g2
  have d_s_0 := d_s 0
  have k_s_0 := k_s 0
  have d_s_1 := d_s 1
  have k_s_1 := k_s 1
  have d_s_2 := d_s 2
  have k_s_2 := k_s 2
  have d_s_3 := d_s 3
  have k_s_3 := k_s 3
  simp only [List.getElem?_toArray, List.getElem?_cons_zero, List.getElem?_cons_succ] at d_s_0 d_s_1 d_s_2 d_s_3
  clear d_s k_s
  obtain ⟨z_r1, d_r1, k_r1⟩ := row_cells g3
  have d_r1_0 := d_r1 0
  have k_r1_0 := k_r1 0
  have d_r1_1 := d_r1 1
  have k_r1_1 := k_r1 1
  have d_r1_2 := d_r1 2
  have k_r1_2 := k_r1 2
  have d_r1_3 := d_r1 3
  have k_r1_3 := k_r1 3
  simp only [List.getElem?_toArray, List.getElem?_cons_zero, List.getElem?_cons_succ] at d_r1_0 d_r1_1 d_r1_2 d_r1_3
  clear d_r1 k_r1
  obtain ⟨z_r2, d_r2, k_r2⟩ := row_cells g4
  have d_r2_0 := d_r2 0
  have k_r2_0 := k_r2 0
  have d_r2_1 := d_r2 1
  have k_r2_1 := k_r2 1
  have d_r2_2 := d_r2 2
  have k_r2_2 := k_r2 2
  have d_r2_3 := d_r2 3
  have k_r2_3 := k_r2 3
  simp only [List.getElem?_toArray, List.getElem?_cons_zero, List.getElem?_cons_succ] at d_r2_0 d_r2_1 d_r2_2 d_r2_3
  clear d_r2 k_r2
  have nn_p_r1 : (W1.heap.size : Nat) ≠ W5.heap.size := by omega
  have nn_p_r2 : (W1.heap.size : Nat) ≠ W6.heap.size := by omega
  have nn_r1_r2 : (W5.heap.size : Nat) ≠ W6.heap.size := by omega
  have nn_r2_r1 : (W6.heap.size : Nat) ≠ W5.heap.size := by omega
  have nn_r1_p : (W5.heap.size : Nat) ≠ W1.heap.size := by omega
  have nn_r2_p : (W6.heap.size : Nat) ≠ W1.heap.size := by omega
  have ns_r1 : (g.x.heap.size : Nat) ≠ W5.heap.size := by omega
  have nt_r1 : (W5.heap.size : Nat) ≠ g.x.heap.size := by omega
  have ns_r2 : (g.x.heap.size : Nat) ≠ W6.heap.size := by omega
  have nt_r2 : (W6.heap.size : Nat) ≠ g.x.heap.size := by omega
  go_region
  generalize hVf : World.setCell _ ⟨W6.heap.size, 3, none⟩ _ = Vf
  have G1 : Vf.heap[W5.heap.size]? = some (.cells #[.int .i64 q.g, .int .i64 q.y, .int .i64 q.t, .int .i64 q.w] 31 (0, 0)) := by rw [← hVf]; have h2 := (set_far (n := W6.heap.size) 3 (.int .i64 sm.w) nn_r1_r2 (set_far (n := W6.heap.size) 2 (.int .i64 sm.t) nn_r1_r2 (set_far (n := W6.heap.size) 1 (.int .i64 sm.y) nn_r1_r2 (set_far (n := W6.heap.size) 0 (.int .i64 sm.g) nn_r1_r2 (set_one (set_one (set_one (set_one g3 0 (.int .i64 q.g)) 1 (.int .i64 q.y)) 2 (.int .i64 q.t)) 3 (.int .i64 q.w)))))); simp only [List.setIfInBounds_toArray, List.set_cons_zero, List.set_cons_succ] at h2; exact h2
  have G2 : Vf.heap[W6.heap.size]? = some (.cells #[.int .i64 sm.g, .int .i64 sm.y, .int .i64 sm.t, .int .i64 sm.w] 31 (0, 0)) := by rw [← hVf]; have h2 := (set_one (set_one (set_one (set_one (set_far (n := W5.heap.size) 3 (.int .i64 q.w) nn_r2_r1 (set_far (n := W5.heap.size) 2 (.int .i64 q.t) nn_r2_r1 (set_far (n := W5.heap.size) 1 (.int .i64 q.y) nn_r2_r1 (set_far (n := W5.heap.size) 0 (.int .i64 q.g) nn_r2_r1 g4)))) 0 (.int .i64 sm.g)) 1 (.int .i64 sm.y)) 2 (.int .i64 sm.t)) 3 (.int .i64 sm.w)); simp only [List.setIfInBounds_toArray, List.set_cons_zero, List.set_cons_succ] at h2; exact h2
  have hfin : Hid (Below w.heap.size w Vf) := Lib.hid (by rw [← hVf]; exact (Below.setCell (p := ⟨W6.heap.size, 3, none⟩) (Below.setCell (p := ⟨W6.heap.size, 2, none⟩) (Below.setCell (p := ⟨W6.heap.size, 1, none⟩) (Below.setCell (p := ⟨W6.heap.size, 0, none⟩) (Below.setCell (p := ⟨W5.heap.size, 3, none⟩) (Below.setCell (p := ⟨W5.heap.size, 2, none⟩) (Below.setCell (p := ⟨W5.heap.size, 1, none⟩) (Below.setCell (p := ⟨W5.heap.size, 0, none⟩) hV le_r1 (.int .i64 q.g)) le_r1 (.int .i64 q.y)) le_r1 (.int .i64 q.t)) le_r1 (.int .i64 q.w)) le_r2 (.int .i64 sm.g)) le_r2 (.int .i64 sm.y)) le_r2 (.int .i64 sm.t)) le_r2 (.int .i64 sm.w)))
  clear hVf d_p_0 k_p_0 d_p_1 k_p_1 d_p_2 k_p_2 d_p_3 k_p_3 d_s_0 k_s_0 d_s_1 k_s_1 d_s_2 k_s_2 d_s_3 k_s_3 d_r1_0 k_r1_0 d_r1_1 k_r1_1 d_r1_2 k_r1_2 d_r1_3 k_r1_3 d_r2_0 k_r2_0 d_r2_1 k_r2_1 d_r2_2 k_r2_2 d_r2_3 k_r2_3
  obtain ⟨-, u1, -⟩ := row_cells G1
  obtain ⟨-, u2, -⟩ := row_cells G2
  have u1_0 := u1 0
  have u2_0 := u2 0
  have u1_1 := u1 1
  have u2_1 := u2 1
  have u1_2 := u1 2
  have u2_2 := u2 2
  have u1_3 := u1 3
  have u2_3 := u2 3
  simp only [List.getElem?_toArray, List.getElem?_cons_zero, List.getElem?_cons_succ] at u1_0 u2_0 u1_1 u2_1 u1_2 u2_2 u1_3 u2_3
  clear u1 u2
  go_wp2
  refine bodyPost_ret (v := .tuple #[ptV q, ptV sm, .int .i64 0]) (by simp [results, Tryz.results11, go_sem, *]) rfl ⟨rfl, hfin.out.drew⟩
end Go.Proofs.YthbkcoijafehgaaGreat.G
set_option linter.unusedVariables false
set_option linter.unusedSimpArgs false
namespace Go.Proofs.YthbkcoijafehgaaGreat
open Go Go.RowKit Go.Sd
/-- A pointer to a block of one's own that holds these cells. -/
def NewAt (L : Nat) (cs : Array Value) (t : TypeId) (v : Value) (w : World) : Prop := ∃ b, v = .pointer (some ⟨b, 0, none⟩) ∧ L ≤ b ∧ w.heap[b]? = some (.cells cs t (0, 0))
def NewNow (v : Value) (w : World) : Prop := v = .pointer (some ⟨w.heap.size, 0, none⟩)
theorem NewAt.mono {L : Nat} {cs : Array Value} {t : TypeId} {v : Value} {w w' : World} (h : NewAt L cs t v w) (hb : Below w.heap.size w w') : NewAt L cs t v w' := by
  obtain ⟨b, h1, h2, h3⟩ := h
  exact ⟨b, h1, h2, (hb.block b (Array.getElem?_eq_some_iff.1 h3).1).trans h3⟩
theorem NewAt.ne {L : Nat} {cs : Array Value} {t : TypeId} {v u : Value} {w : World} (h : NewAt L cs t v w) (hn : NewNow u w) : v ≠ u := by
  obtain ⟨b, rfl, _, h3⟩ := h
  rintro rfl
  unfold NewNow at hn
  simp only [Value.pointer.injEq, Option.some.injEq, Addr.mk.injEq] at hn
  have := (Array.getElem?_eq_some_iff.1 h3).1
  omega
def Pers (f : Value → World → Prop) : Prop := ∀ v w w', Below w.heap.size w w' → f v w → f v w'
def IsV (x : Value) : Value → World → Prop := fun v _ => v = x
theorem pers_v (x : Value) : Pers (IsV x) := fun _ _ _ _ h => h
theorem pers_new (L : Nat) (cs : Array Value) (t : TypeId) : Pers (NewAt L cs t) := fun _ _ _ hb h => h.mono hb
def RL (rs : List (Value → World → Prop)) (j : Nat) (v : Value) (w : World) : Prop := match rs[j]? with
  | some f => f v w
  | none => True
def NL (nw : List Nat) (j : Nat) (v : Value) (w : World) : Prop := nw.contains j = true → NewNow v w
def IsNew (u : Value) (w : World) : Prop := ∃ b, u = .pointer (some ⟨b, 0, none⟩) ∧ b < w.heap.size
def DL (nw : List Nat) (j : Nat) (v : Value) (k : Nat) (u : Value) : Prop := nw.contains j = true → nw.contains k = true → v ≠ u
theorem NewAt.isNew {L : Nat} {cs : Array Value} {t : TypeId} {v : Value} {w : World} (h : NewAt L cs t v w) : IsNew v w := by
  obtain ⟨b, h1, _, h3⟩ := h
  exact ⟨b, h1, (Array.getElem?_eq_some_iff.1 h3).1⟩
theorem RL_pers {rs : List (Value → World → Prop)} (h : ∀ f ∈ rs, Pers f) : ∀ j v w w', Below w.heap.size w w' → RL rs j v w → RL rs j v w' := by
  intro j v w w' hb hr
  unfold RL at *
  cases e : rs[j]? with
  | none => trivial
  | some f =>
    rw [e] at hr
    exact h f (List.mem_of_getElem? e) v w w' hb hr
theorem DL_of {rs : List (Value → World → Prop)} {nw : List Nat} (hn : ∀ k ∈ nw, ∀ u w, RL rs k u w → IsNew u w) : ∀ j k v u w, j ≠ k → NL nw j v w → RL rs k u w → DL nw j v k u ∧ DL nw k u j v := by
  intro j k v u w _ h1 h2
  have key : nw.contains j = true → nw.contains k = true → v ≠ u := fun hj hk he => by
    have h3 := h1 hj
    unfold NewNow at h3
    obtain ⟨b, h4, h5⟩ := hn k (by simpa using hk) u w h2
    rw [← he, h3] at h4
    simp only [Value.pointer.injEq, Option.some.injEq, Addr.mk.injEq] at h4
    omega
  exact ⟨key, fun hk hj => (key hj hk).symm⟩
section
variable {P : Program} {Q : Exit → Act → World → Prop} {b0 : Act} {w : World} {l : List Oper} (n T : Nat) (opt sl : List Nat) (nd : List (List Nat)) (rs : List (Value → World → Prop)) (nw : List Nat)
theorem any_region_locN (hB : locB .any l.toArray n T opt = true) (hO : optB .any l.toArray n opt = true) (hseq : Region.seqB .any l.toArray (l.length - n) n (listedBut l.toArray n []) = true)
    (hsl : (List.range n).map (slotOf l.toArray) = sl.map some) (hnd : (List.range n).map (needs l.toArray n) = nd) (hT : b0.tmps.size = T)
    (hQ : ∀ c a a' w, Q (.panic c) a' w → Q (.panic c) a w) (hp : ∀ f ∈ rs, Pers f) (hn : ∀ k ∈ nw, ∀ u w, RL rs k u w → IsNew u w)
    (hop : HopL P l.toArray (RL rs) (NL nw) sl b0 w 0 (l.take n) nd)
    (hpure : ∀ j ∈ opt, ∀ o, l[j]? = some o → ∀ vals w', Below w.heap.size w w' → Facts (RL rs) vals (nd.getD j []) w' → ∃ v, Yields P l.toArray o v (fillS sl vals (nd.getD j []) b0) ∧ RL rs j v w' ∧ NL nw j v w')
    (htail : ∀ vals w', Below w.heap.size w w' → (∀ k, k < n → RL rs k (vals k) w') → (∀ j k, j < n → k < n → j ≠ k → DL nw j (vals j) k (vals k)) → wpList P l.toArray Q (l.drop n) (fillS sl vals (List.range n) b0) w') : wpAny P .any l.toArray Q l.toArray.size (Array.replicate l.toArray.size false) b0 { w with drawn := w.drawn + 1 } :=
  any_region_locL (R := RL rs) (N := NL nw) (D := DL nw) n T opt sl nd hB hO hseq hsl hnd hT hQ (RL_pers hp) (DL_of hn) hop hpure htail
/-- What is left if nothing but the end is to be met. -/
def OnlyN (Q : Exit → Act → World → Prop) : Exit → Act → World → Prop
  | .normal, a, w => Q .normal a w
  | _, _, _ => False
theorem OnlyN.mk {Q : Exit → Act → World → Prop} {a : Act} {w : World} (h : Q .normal a w) : OnlyN Q .normal a w := h
theorem OnlyN.out {Q : Exit → Act → World → Prop} : ∀ e a w, OnlyN Q e a w → Q e a w := fun e a w h => by cases e <;> first | exact h | exact h.elim
theorem OnlyN.panic {Q : Exit → Act → World → Prop} : ∀ c a a' w, OnlyN Q (.panic c) a' w → OnlyN Q (.panic c) a w := fun _ _ _ _ h => h
theorem OnlyN.lets {Q : Exit → Act → World → Prop} : ¬ LetsOut (OnlyN Q) := fun ⟨_, _, h⟩ => h
theorem rows_fence {F : Fence} (hF : WideAt F) {row : String} {args : Array Value} {R : Value → World → Prop} (h : Rows P row args w R) : RowsIn F 0 P row args w R := fun c cs _ => by
  obtain ⟨v, w', hr, hs⟩ := h c cs
  refine ⟨v, w', hr, ?_⟩
  have h2 : StepsIn (Machine.fenced P Fence.wide) P (lone (Frame.ofRow P row args .normal) (c :: cs) w) (lone (c.finish v) cs w') := stepsIn_wide.2 hs
  rcases hF with rfl | ⟨r, rfl⟩
  · exact h2
  · exact h2
theorem fence_wp {F : Fence} (hF : WideAt F) {o : Oper} {a : Act} {K : Act → World → Prop} (hnd : ∀ c, o.op ≠ .defer c) (h : o.wp P a w K Q) : o.wpIn F 0 P a w K Q := by
  unfold Oper.wp at h
  unfold Oper.wpIn
  refine ⟨fun _ _ => hF.fn _, ?_⟩
  rw [Oper.semAt_eq _ _ _ hnd]
  generalize (execOp a.eval o).run P w = q at *
  cases q with
  | ok x w' =>
    cases x <;> simp only [Oper.upon] at h <;> simp only [Oper.uponIn]
    case value u => exact h
    case skip => exact h
    case defer d => exact h
    case enter f args => exact ⟨fun hd => (by rw [hF.depth] at hd; cases hd), hF.calls (callsIn_wide.2 h)⟩
    case row r args => exact ⟨fun hd => (by rw [hF.depth] at hd; cases hd), rows_fence hF h⟩
  | halt x w' =>
    cases x <;> simp only [Oper.upon] at h <;> simp only [Oper.uponIn]
    exact h
theorem fence_any {F : Fence} (hF : WideAt F) {ops : Array Oper} {md : Region.Mode} (hno : ¬ LetsOut Q) (hnd : ∀ (j : Nat) (o : Oper), ops[j]? = some o → ∀ c, o.op ≠ .defer c) : ∀ (g : Nat) (listed : Array Bool) (a : Act) (w : World), wpAny P md ops Q g listed a w → wpAnyIn F 0 P md ops Q g listed a w
  | 0, _, _, _, h => h
  | g + 1, listed, a, w, h => by
    refine ⟨h.1, fun i hi => ?_⟩
    have hh := h.2 i hi
    unfold wpOp at hh
    unfold wpOpIn
    split
    · rename_i ho; simp only [ho] at hh; exact fence_any hF hno hnd g _ _ _ hh
    · rename_i o ho
      simp only [ho] at hh
      split
      · rename_i hw
        simp only [hw, if_true] at hh
        rcases hh with hh | hh
        · exact Oper.wpIn_mono (fun a w => fence_any hF hno hnd g _ a w) (fence_wp hF (hnd _ _ ho) hh)
        · exact absurd hh.2 hno
      · rename_i hw
        simp only [hw] at hh
        exact ⟨fun _ _ => hF.fn _, fence_any hF hno hnd g _ _ _ hh⟩
/-- A region that draws its order, at the wide fence or in a round. -/
theorem fence_region {F : Fence} (hF : WideAt F) {id : Nat} {ops : List Oper} (hm : P.follows .mixedOrders = true) (hnd : plainOps ops = true) (h : wpAny P .any ops.toArray (OnlyN Q) ops.toArray.size (Array.replicate ops.toArray.size false) b0 { w with drawn := w.drawn + 1 }) : (Code.region id ops.toArray true).wpIn F 0 P Q b0 w :=
  wpIn_mono (wpIn_region_any hm (fence_any hF OnlyN.lets (fun j o ho => plainOps_at hnd ho) _ _ _ _ h)) OnlyN.out
theorem plain_region {id : Nat} {ops : List Oper} (hm : P.follows .mixedOrders = true) (h : wpAny P .any ops.toArray (OnlyN Q) ops.toArray.size (Array.replicate ops.toArray.size false) b0 { w with drawn := w.drawn + 1 }) : (Code.region id ops.toArray true).wp P Q b0 w :=
  wp_mono (wp_region_any hm h) OnlyN.out
end
/-! ### A region that lays variables, in a round too -/
open Go.Sd in
theorem any_region_vars {P : Program} {G : World → World → Prop} {va : List Va} {l : List Oper} {Q : Exit → Act → World → Prop} {W : World} (hG : Growth G) {a : Act} (hok : varsOk va l = true)
    (hz : ∀ p ∈ va, ∀ w, (Instr.alloc p.e true (.tuple #[])).run P w = .ok (.pointer (some ⟨w.heap.size, 0, none⟩)) (w.alloc (.cells p.c p.e)))
    (hi : ∀ p ∈ va, (P.info? p.e).map (·.size) = some p.c.size) (hsz : ∀ p ∈ va, p.d < a.tmps.size)
    (h : ∀ (T : Type) (f : T → World), Nonempty T → (∀ g, G W (f g)) → (∀ g w', G (f g) w' → ∃ g', w' = f g') → wpQuiet P (lexOf va l).toArray (fun w' => ∃ g : T, w' = f g) (AfterV G va Q W) (lexOf va l) a) :
    wpAny P .any l.toArray Q l.toArray.size (Array.replicate l.toArray.size false) a { W with drawn := W.drawn + 1 } := by
  have hok' := hok
  simp only [varsOk, Bool.and_eq_true, decide_eq_true_eq] at hok'
  obtain ⟨⟨⟨⟨⟨⟨⟨hlb, hsel⟩, hva⟩, hops⟩, hnd⟩, hni⟩, hnj⟩, hij⟩ := hok'
  simp only [Region.lexB, Bool.and_eq_true] at hlb
  have hlen : (lexOf va l).length = l.length := by simp [lexOf]
  have any : ∀ x, G W x → wpAnyQ P .any (lexOf va l).toArray (fun w' => ∃ g : Gr G x, w' = g.x) (AfterV G va Q W) l.toArray.size (Array.replicate l.toArray.size false) a := fun x hx => by
    have h2 := wpAnyQ_lex (md := .any) (C := fun w' => ∃ g : Gr G x, w' = g.x) hlb.1 (lexOf va l) 0 (Array.replicate (lexOf va l).toArray.size false) a (by simp) (by simpa using hlb.2)
      (h (Gr G x) (fun g => g.x) ⟨⟨x, hG.refl _⟩⟩ (fun g => hG.trans _ _ _ hx g.h) (fun g w' hg => ⟨⟨w', hG.trans _ _ _ g.h hg⟩, rfl⟩))
    simpa [hlen] using h2
  exact vars_run (Q := Q) (W := W) hG hok hz hi l.toArray.size (Array.replicate l.toArray.size false) a a { W with drawn := W.drawn + 1 } (fun _ => 0) (by simp) (by simp)
    (fun j oj _ hl => (by rw [getD_replicate_false] at hl; cases hl)) hsz (any W (hG.refl _)) any
    ⟨rfl, rfl, fun _ _ => rfl, fun p _ hl => (by rw [getD_replicate_false] at hl; cases hl), fun p _ q _ hl => (by rw [getD_replicate_false] at hl; cases hl)⟩ (hG.drew W)
end Go.Proofs.YthbkcoijafehgaaGreat
set_option linter.unusedVariables false
set_option linter.unusedSimpArgs false
namespace Go.Proofs.YthbkcoijafehgaaGreat.G
open Go.RowKit Go.Sd Gas
theorem ex_wdr : act exC exS exW = some (⟨1800, 1900, 90, 100, 3000, 3100, 45000, 54299⟩, ⟨200, 201, 9, 10, 4751, 6000⟩) := by rfl
theorem exWdr (w : World) : Calls Tryz.prog 21 #[cavV exC, stV exS, .agg #[.int .i64 2, .int .i64 0, .int .i64 0, .int .i64 0, .int .i64 0, .int .i64 210, .int .i64 0, .int .i64 0, .int .i64 0, .int .i64 0]] w fun e w' => e = .returned (.tuple #[.agg #[.int .i64 1800, .int .i64 1900, .int .i64 90, .int .i64 100, .int .i64 3000, .int .i64 3100, .int .i64 45000, .int .i64 54299], .agg #[.int .i64 200, .int .i64 201, .int .i64 9, .int .i64 10, .int .i64 4751, .int .i64 6000], .int .i64 0]) ∧ Below w.heap.size w w' :=
  progDoSome (o := exW) w (by rfl) (by rfl) (by rfl) ex_wdr
end Go.Proofs.YthbkcoijafehgaaGreat.G
set_option linter.unusedVariables false
set_option linter.unusedSimpArgs false
namespace Gas
end Gas
namespace Go.Proofs.YthbkcoijafehgaaGreat.G
open Go.RowKit Go.Sd Gas
/-- A slice as Go makes them: no longer than its capacity. -/
def Fits (v : Value) : Prop := ∃ a n c, v = .slice a n c ∧ n ≤ c ∧ c ≤ maxLen
end Go.Proofs.YthbkcoijafehgaaGreat.G
set_option linter.unusedVariables false
set_option linter.unusedSimpArgs false
namespace Go.Proofs.YthbkcoijafehgaaGreat.G
open Go Go.ChangeShapes Go.WideShapes Go.ChangeAt Go.Deep Go.RowKit Go.Sd Gas
set_option maxRecDepth 100000 in
theorem fits_of {H : Type} {enc : TypeId × Value → H} {w : World} {base : Nat} {spare : Nat → Bool} {held : Bool} {T E : TypeId} (ht : Tryz.prog.underlying T = some (.slice E)) {r : Reach} {b0 : Nat} {v : Value} {d : DataW H} {p : List MemPlace} (hv : Value.okWide Tryz.prog w r b0 T v) (h : DataW.Trod enc Tryz.prog w base spare held T v d p) : Fits v := by
  obtain ⟨a, n, c, rfl⟩ := okWide_slice ht hv
  obtain ⟨fuel, hf⟩ := h
  rcases open_slice ht hf with ⟨h0, -⟩ | ⟨a', len, cap, m, k, D, Pl, hcs, hb, hl, hm, hmm, hx, hi⟩
  · simp [Value.cells] at h0
    obtain ⟨rfl, rfl, rfl⟩ := h0
    exact ⟨none, 0, 0, rfl, Nat.le_refl _, Nat.zero_le _⟩
  · simp [Value.cells] at hcs
    obtain ⟨rfl, rfl, rfl⟩ := hcs
    exact ⟨_, _, _, rfl, hl, hm⟩
end Go.Proofs.YthbkcoijafehgaaGreat.G
