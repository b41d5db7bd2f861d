/- Laws and walks: GPl2, GPl3, Loc, GKno, GGln, GKpl. -/
import Derived.Test.YthjmdagonfeneaaGreatK30
import Derived.Test.YthjmdagonfeneaaGreatK33
set_option maxRecDepth 100000
set_option maxHeartbeats 16000000
set_option linter.unusedVariables false
set_option linter.unusedSimpArgs false
namespace Gas
def playErr (c : Cav) (p : Pt) (l : List Op) (xa xb : List Int) : Int := if 20 < l.length then 3 else if (opsB l && (c.ok && p.ok && truthB l xa xb)) = true then 0 else 2
end Gas
namespace Go.Proofs.YthjmdagonfeneaaGreat.G
open Go.RowKit Go.Sd Gas
theorem opsErr_zero {l : List Gas.Op} : opsErr l = 0 ↔ l.length ≤ 20 ∧ opsB l = true := by
 unfold opsErr
 split
 · constructor
   · intro h; omega
   · intro h; omega
 · split
   · simp_all
   · simp_all
theorem playErr_zero {c : Cav} {p : Pt} {l : List Gas.Op} {xa xb : List Int} (h : playErr c p l xa xb = 0) : opsErr l = 0 ∧ c.ok = true ∧ p.ok = true ∧ truthB l xa xb = true := by
 unfold playErr at h
 split at h
 · omega
 · rename_i h1
   split at h
   · rename_i h2
     simp only [Bool.and_eq_true] at h2
     exact ⟨opsErr_zero.2 ⟨by omega, h2.1⟩, h2.2.1.1, h2.2.1.2, h2.2.2⟩
   · omega
end Go.Proofs.YthjmdagonfeneaaGreat.G
set_option linter.unusedVariables false
set_option linter.unusedSimpArgs false
namespace Go.Proofs.YthjmdagonfeneaaGreat.G
open Go.RowKit Go.Sd Gas
theorem progPlaySome {lv av bv : Value} {c : Cav} {p : Pt} {l : List Gas.Op} {xa xb : List Int} (w : World) (hl : OpsAt w lv l) (ha : IntsAt w av xa) (hb : IntsAt w bv xb) {q sm : Pt} (he : playErr c p l xa xb = 0) (hpl : play c p l xa xb = some (q, sm)) :
    Calls Tryz.prog 48 #[cavV c, ptV p, lv, av, bv] w fun e w' => e = .returned (.tuple #[ptV q, ptV sm, .int .i64 0]) ∧ Below w.heap.size w w' := by
 have hl' := hl; have ha' := ha; have hb' := hb
 obtain ⟨sl, cl, rfl, -, -⟩ := hl'
 obtain ⟨sa, ca, rfl, -, -⟩ := ha'
 obtain ⟨sb, cb, rfl, -, -⟩ := hb'
 obtain ⟨he0, hc, hp, ht⟩ := playErr_zero he
 obtain ⟨hlen, hob⟩ := opsErr_zero.1 he0
 obtain ⟨W1, hW1⟩ : ∃ W1, w.alloc (.cells #[.int .i64 c.vlo, .int .i64 c.vhi, .int .i64 c.least, .int .i64 c.most, .int .i64 c.f0, .int .i64 c.f1, .int .i64 c.h0, .int .i64 c.h1, .int .i64 c.rock, .int .i64 c.plo, .int .i64 c.phi] 31) = W1 := ⟨_, rfl⟩
 obtain ⟨e_c, b_c, s_c⟩ := boxed hW1
 obtain ⟨W2, hW2⟩ : ∃ W2, W1.alloc (.cells #[.int .i64 p.g, .int .i64 p.y, .int .i64 p.t, .int .i64 p.w] 35) = W2 := ⟨_, rfl⟩
 obtain ⟨e_p, b_p, s_p⟩ := boxed hW2
 replace e_c := (b_p.block _ (zqo e_c)).trans e_c
 obtain ⟨W3, hW3⟩ : ∃ W3, W2.alloc (.cells #[.slice sl l.length cl] 115) = W3 := ⟨_, rfl⟩
 obtain ⟨e_l, b_l, s_l⟩ := boxed hW3
 replace e_c := (b_l.block _ (zqo e_c)).trans e_c
 replace e_p := (b_l.block _ (zqo e_p)).trans e_p
 obtain ⟨W4, hW4⟩ : ∃ W4, W3.alloc (.cells #[.slice sa xa.length ca] 28) = W4 := ⟨_, rfl⟩
 obtain ⟨e_a, b_a, s_a⟩ := boxed hW4
 replace e_c := (b_a.block _ (zqo e_c)).trans e_c
 replace e_p := (b_a.block _ (zqo e_p)).trans e_p
 replace e_l := (b_a.block _ (zqo e_l)).trans e_l
 obtain ⟨W5, hW5⟩ : ∃ W5, W4.alloc (.cells #[.slice sb xb.length cb] 28) = W5 := ⟨_, rfl⟩
 obtain ⟨e_b, b_b, s_b⟩ := boxed hW5
 replace e_c := (b_b.block _ (zqo e_c)).trans e_c
 replace e_p := (b_b.block _ (zqo e_p)).trans e_p
 replace e_l := (b_b.block _ (zqo e_l)).trans e_l
 replace e_a := (b_b.block _ (zqo e_a)).trans e_a
 obtain ⟨W6, hW6⟩ : ∃ W6, W5.alloc (.cells #[.int .i64 0, .int .i64 0, .int .i64 0, .int .i64 0] 35) = W6 := ⟨_, rfl⟩
 obtain ⟨e_r1, b_r1, s_r1⟩ := boxed hW6
 replace e_c := (b_r1.block _ (zqo e_c)).trans e_c
 replace e_p := (b_r1.block _ (zqo e_p)).trans e_p
 replace e_l := (b_r1.block _ (zqo e_l)).trans e_l
 replace e_a := (b_r1.block _ (zqo e_a)).trans e_a
 replace e_b := (b_r1.block _ (zqo e_b)).trans e_b
 obtain ⟨W7, hW7⟩ : ∃ W7, W6.alloc (.cells #[.int .i64 0, .int .i64 0, .int .i64 0, .int .i64 0] 35) = W7 := ⟨_, rfl⟩
 obtain ⟨e_r2, b_r2, s_r2⟩ := boxed hW7
 replace e_c := (b_r2.block _ (zqo e_c)).trans e_c
 replace e_p := (b_r2.block _ (zqo e_p)).trans e_p
 replace e_l := (b_r2.block _ (zqo e_l)).trans e_l
 replace e_a := (b_r2.block _ (zqo e_a)).trans e_a
 replace e_b := (b_r2.block _ (zqo e_b)).trans e_b
 replace e_r1 := (b_r2.block _ (zqo e_r1)).trans e_r1
 obtain ⟨m7_c_0, m7_c_1, m7_c_2, m7_c_3, m7_c_4, m7_c_5, m7_c_6, m7_c_7, m7_c_8, m7_c_9, m7_c_10⟩ := rc11 e_c
 have mz7_c : w.heap.size < W7.heap.size := (zqo e_c)
 obtain ⟨W, hW⟩ : ∃ W, W7.alloc (.cells #[.int .i64 c.vlo, .int .i64 c.vhi, .int .i64 c.least, .int .i64 c.most, .int .i64 c.f0, .int .i64 c.f1, .int .i64 c.h0, .int .i64 c.h1, .int .i64 c.rock, .int .i64 c.plo, .int .i64 c.phi] 89) = W := ⟨_, rfl⟩
 obtain ⟨e_x, b_x, s_x⟩ := boxed hW
 replace e_c := (b_x.block _ (zqo e_c)).trans e_c
 replace e_p := (b_x.block _ (zqo e_p)).trans e_p
 replace e_l := (b_x.block _ (zqo e_l)).trans e_l
 replace e_a := (b_x.block _ (zqo e_a)).trans e_a
 replace e_b := (b_x.block _ (zqo e_b)).trans e_b
 replace e_r1 := (b_x.block _ (zqo e_r1)).trans e_r1
 replace e_r2 := (b_x.block _ (zqo e_r2)).trans e_r2
 have B0 : Below w.heap.size w W := (((((((b_c.trans (b_p.mono (by omega))).trans (b_l.mono (by omega))).trans (b_a.mono (by omega))).trans (b_b.mono (by omega))).trans (b_r1.mono (by omega))).trans (b_r2.mono (by omega))).trans (b_x.mono (by omega)))
 have z0_c := (zqo e_c)
 have z0_p := (zqo e_p)
 have z0_l := (zqo e_l)
 have z0_a := (zqo e_a)
 have z0_b := (zqo e_b)
 have z0_r1 := (zqo e_r1)
 have z0_r2 := (zqo e_r2)
 have z0_x := (zqo e_x)
 have ne_c_p : (w.heap.size : Nat) ≠ W1.heap.size := by omega
 have ne_c_l : (w.heap.size : Nat) ≠ W2.heap.size := by omega
 have ne_c_a : (w.heap.size : Nat) ≠ W3.heap.size := by omega
 have ne_c_b : (w.heap.size : Nat) ≠ W4.heap.size := by omega
 have ne_c_r1 : (w.heap.size : Nat) ≠ W5.heap.size := by omega
 have ne_c_r2 : (w.heap.size : Nat) ≠ W6.heap.size := by omega
 have ne_c_x : (w.heap.size : Nat) ≠ W7.heap.size := by omega
 have le_c : w.heap.size ≤ w.heap.size := by omega
 have ne_p_c : (W1.heap.size : Nat) ≠ w.heap.size := by omega
 have ne_p_l : (W1.heap.size : Nat) ≠ W2.heap.size := by omega
 have ne_p_a : (W1.heap.size : Nat) ≠ W3.heap.size := by omega
 have ne_p_b : (W1.heap.size : Nat) ≠ W4.heap.size := by omega
 have ne_p_r1 : (W1.heap.size : Nat) ≠ W5.heap.size := by omega
 have ne_p_r2 : (W1.heap.size : Nat) ≠ W6.heap.size := by omega
 have ne_p_x : (W1.heap.size : Nat) ≠ W7.heap.size := by omega
 have le_p : w.heap.size ≤ W1.heap.size := by omega
 have ne_l_c : (W2.heap.size : Nat) ≠ w.heap.size := by omega
 have ne_l_p : (W2.heap.size : Nat) ≠ W1.heap.size := by omega
 have ne_l_a : (W2.heap.size : Nat) ≠ W3.heap.size := by omega
 have ne_l_b : (W2.heap.size : Nat) ≠ W4.heap.size := by omega
 have ne_l_r1 : (W2.heap.size : Nat) ≠ W5.heap.size := by omega
 have ne_l_r2 : (W2.heap.size : Nat) ≠ W6.heap.size := by omega
 have ne_l_x : (W2.heap.size : Nat) ≠ W7.heap.size := by omega
 have le_l : w.heap.size ≤ W2.heap.size := by omega
 have ne_a_c : (W3.heap.size : Nat) ≠ w.heap.size := by omega
 have ne_a_p : (W3.heap.size : Nat) ≠ W1.heap.size := by omega
 have ne_a_l : (W3.heap.size : Nat) ≠ W2.heap.size := by omega
 have ne_a_b : (W3.heap.size : Nat) ≠ W4.heap.size := by omega
 have ne_a_r1 : (W3.heap.size : Nat) ≠ W5.heap.size := by omega
 have ne_a_r2 : (W3.heap.size : Nat) ≠ W6.heap.size := by omega
 have ne_a_x : (W3.heap.size : Nat) ≠ W7.heap.size := by omega
 have le_a : w.heap.size ≤ W3.heap.size := by omega
 have ne_b_c : (W4.heap.size : Nat) ≠ w.heap.size := by omega
 have ne_b_p : (W4.heap.size : Nat) ≠ W1.heap.size := by omega
 have ne_b_l : (W4.heap.size : Nat) ≠ W2.heap.size := by omega
 have ne_b_a : (W4.heap.size : Nat) ≠ W3.heap.size := by omega
 have ne_b_r1 : (W4.heap.size : Nat) ≠ W5.heap.size := by omega
 have ne_b_r2 : (W4.heap.size : Nat) ≠ W6.heap.size := by omega
 have ne_b_x : (W4.heap.size : Nat) ≠ W7.heap.size := by omega
 have le_b : w.heap.size ≤ W4.heap.size := by omega
 have ne_r1_c : (W5.heap.size : Nat) ≠ w.heap.size := by omega
 have ne_r1_p : (W5.heap.size : Nat) ≠ W1.heap.size := by omega
 have ne_r1_l : (W5.heap.size : Nat) ≠ W2.heap.size := by omega
 have ne_r1_a : (W5.heap.size : Nat) ≠ W3.heap.size := by omega
 have ne_r1_b : (W5.heap.size : Nat) ≠ W4.heap.size := by omega
 have ne_r1_r2 : (W5.heap.size : Nat) ≠ W6.heap.size := by omega
 have ne_r1_x : (W5.heap.size : Nat) ≠ W7.heap.size := by omega
 have le_r1 : w.heap.size ≤ W5.heap.size := by omega
 have ne_r2_c : (W6.heap.size : Nat) ≠ w.heap.size := by omega
 have ne_r2_p : (W6.heap.size : Nat) ≠ W1.heap.size := by omega
 have ne_r2_l : (W6.heap.size : Nat) ≠ W2.heap.size := by omega
 have ne_r2_a : (W6.heap.size : Nat) ≠ W3.heap.size := by omega
 have ne_r2_b : (W6.heap.size : Nat) ≠ W4.heap.size := by omega
 have ne_r2_r1 : (W6.heap.size : Nat) ≠ W5.heap.size := by omega
 have ne_r2_x : (W6.heap.size : Nat) ≠ W7.heap.size := by omega
 have le_r2 : w.heap.size ≤ W6.heap.size := by omega
 have ne_x_c : (W7.heap.size : Nat) ≠ w.heap.size := by omega
 have ne_x_p : (W7.heap.size : Nat) ≠ W1.heap.size := by omega
 have ne_x_l : (W7.heap.size : Nat) ≠ W2.heap.size := by omega
 have ne_x_a : (W7.heap.size : Nat) ≠ W3.heap.size := by omega
 have ne_x_b : (W7.heap.size : Nat) ≠ W4.heap.size := by omega
 have ne_x_r1 : (W7.heap.size : Nat) ≠ W5.heap.size := by omega
 have ne_x_r2 : (W7.heap.size : Nat) ≠ W6.heap.size := by omega
 have le_x : w.heap.size ≤ W7.heap.size := by omega
 clear s_c b_c s_p b_p s_l b_l s_a b_a s_b b_b s_r1 b_r1 s_r2 b_r2 s_x b_x
 obtain ⟨q0_c_0, q0_c_1, q0_c_2, q0_c_3, q0_c_4, q0_c_5, q0_c_6, q0_c_7, q0_c_8, q0_c_9, q0_c_10⟩ := rc11 e_c
 replace e_c := Lib.hid e_c
 obtain ⟨q0_p_0, q0_p_1, q0_p_2, q0_p_3⟩ := rc4 e_p
 replace e_p := Lib.hid e_p
 have q0_l_0 := rc1 e_l
 replace e_l := Lib.hid e_l
 have q0_a_0 := rc1 e_a
 replace e_a := Lib.hid e_a
 have q0_b_0 := rc1 e_b
 replace e_b := Lib.hid e_b
 replace e_r1 := Lib.hid e_r1
 replace e_r2 := Lib.hid e_r2
 obtain ⟨q0_x_0, q0_x_1, q0_x_2, q0_x_3, q0_x_4, q0_x_5, q0_x_6, q0_x_7, q0_x_8, q0_x_9, q0_x_10⟩ := rc11 e_x
 replace e_x := Lib.hid e_x
 have kO : Hid (Calls Tryz.prog 77 #[.slice sl l.length cl] W fun e w' => e = .returned (.int .i64 0) ∧ Below W.heap.size W w') := Lib.hid (by have := progOps _ l W (hl.mono B0); rwa [he0] at this)
 have kV := Lib.hid (fun w => (progValid c w).mono fun e w' hb => BoolB.lit hb hc)
 have kP := Lib.hid (fun w => (progPoint p w).mono fun e w' hb => BoolB.lit hb hp)
 have kT : Hid (∀ g : Grow W, Calls Tryz.prog 78 #[.slice sl l.length cl, .slice sa xa.length ca, .slice sb xb.length cb] g.x fun e w' => e = .returned (.bool true) ∧ Below g.x.heap.size g.x w') := Lib.hid (fun g => by have := progTruth _ _ _ l xa xb g.x ((hl.mono B0).mono g.h) ((ha.mono B0).mono g.h) ((hb.mono B0).mono g.h); rwa [ht] at this)
 have hD : Hid (∀ g : Grow W, Calls Tryz.prog 79 #[.func (.func 80) #[] #[.pointer (some ⟨W2.heap.size, 0, none⟩), .pointer (some ⟨W7.heap.size, 0, none⟩), .pointer (some ⟨W1.heap.size, 0, none⟩), .pointer (some ⟨g.x.heap.size, 0, none⟩), .pointer (some ⟨W3.heap.size, 0, none⟩), .pointer (some ⟨W4.heap.size, 0, none⟩)]] (g.x.alloc (.cells #[.int .i64 0, .int .i64 0, .int .i64 0, .int .i64 0] 35)) fun e V2 => e = .returned (.bool true) ∧ V2.heap[W1.heap.size]? = some (.cells #[.int .i64 q.g, .int .i64 q.y, .int .i64 q.t, .int .i64 q.w] 35 (0, 0)) ∧ V2.heap[g.x.heap.size]? = some (.cells #[.int .i64 sm.g, .int .i64 sm.y, .int .i64 sm.t, .int .i64 sm.w] 35 (0, 0)) ∧ V2.heap[W5.heap.size]? = some (.cells #[.int .i64 0, .int .i64 0, .int .i64 0, .int .i64 0] 35 (0, 0)) ∧ V2.heap[W6.heap.size]? = some (.cells #[.int .i64 0, .int .i64 0, .int .i64 0, .int .i64 0] 35 (0, 0)) ∧ Below w.heap.size w V2) := Lib.hid (fun g => by
  have gs := g.size
  have b0s := B0.size
  obtain ⟨Z, hZ⟩ : ∃ Z, g.x.alloc (.cells #[.int .i64 0, .int .i64 0, .int .i64 0, .int .i64 0] 35) = Z := ⟨_, rfl⟩
  rw [hZ]
  obtain ⟨eZ, bZ, sZ⟩ := boxed hZ
  obtain ⟨X, hX⟩ : ∃ X, Z.alloc (.cells #[.bool false] 4) = X := ⟨_, rfl⟩
  obtain ⟨eX, bX, sX⟩ := boxed hX
  have hWZ : Below W.heap.size W Z := g.h.trans (bZ.mono gs)
  have hWX : Below W.heap.size W X := hWZ.trans (bX.mono hWZ.size)
  have hwX : Below w.heap.size w X := B0.trans (hWX.mono B0.size)
  have up : ∀ {k v}, W.heap[k]? = some v → X.heap[k]? = some v := fun h => (hWX.block _ (zqo h)).trans h
  have hen : ∀ args w, (callFunc 80 args).run Tryz.prog w = .ok (.enter 80 args) w := fun args w => by kernel_rfl
  have hP := progPlay1 (bl := W2.heap.size) (bc := W7.heap.size) (bp := W1.heap.size) (bs := g.x.heap.size) (ba := W3.heap.size) (bb := W4.heap.size) c p l xa xb w X (Cav.ok_iff.1 hc) (Pt.ok_iff.1 hp) hlen hob ht hl ha hb hwX (by omega) (by omega) (up e_l.out) (up e_x.out) (up e_p.out) ((bX.block _ (zqo eZ)).trans eZ) (up e_a.out) (up e_b.out) (by omega)
  rw [hpl] at hP
  have hY := progDoneY Z X (fun V => V.heap[W1.heap.size]? = some (.cells #[.int .i64 q.g, .int .i64 q.y, .int .i64 q.t, .int .i64 q.w] 35 (0, 0)) ∧ V.heap[g.x.heap.size]? = some (.cells #[.int .i64 sm.g, .int .i64 sm.y, .int .i64 sm.t, .int .i64 sm.w] 35 (0, 0)) ∧ Kept (fun k => k ≠ W1.heap.size ∧ k ≠ g.x.heap.size) X V) hX hen (hP.mono fun e V hV => ⟨hV.2.1, hV.1.block _ (by omega) ⟨by omega, by omega⟩, hV.2.2.1, hV.2.2.2, hV.1⟩)
  refine hY.mono ?_
  rintro e V2 ⟨rfl, V, ⟨k1, k2, k3⟩, rfl⟩
  have f : ∀ {k o}, k ≠ Z.heap.size → V.heap[k]? = o → (V.setCell ⟨Z.heap.size, 0, none⟩ (.bool true)).heap[k]? = o := fun hk h => (Below.heap_setCell _ _ _ _ hk).trans h
  exact ⟨rfl, f (by omega) k1, f (by omega) k2, f (by omega) ((k3.block _ (by omega) ⟨by omega, by omega⟩).trans (up e_r1.out)), f (by omega) ((k3.block _ (by omega) ⟨by omega, by omega⟩).trans (up e_r2.out)), (hwX.trans (k3.below hwX.size fun k hk => ⟨by omega, by omega⟩)).setCell (by show w.heap.size ≤ Z.heap.size; omega) _⟩)
 have hgc := grow_cell W
 have hgf := grow_frozen W
 clear hl ha hb he he0 hc hp ht hpl
 go_enter Tryz.func48, Tryz.ntmps48
 go_wp2_with (first | (go_at_call 77; (with_reducible refine Calls.mono (kO.out) ?_); rintro e w1 ⟨rfl, hB⟩; (first | (obtain ⟨g, rfl⟩ := g.next hB) | (obtain ⟨g, rfl⟩ : ∃ g : Grow W, w1 = g.x := ⟨⟨w1, hB⟩, rfl⟩)); clear hB) | (go_at_call 29; (with_reducible refine Calls.mono (kV.out _) ?_); rintro e w1 ⟨rfl, hB⟩; (first | (obtain ⟨g, rfl⟩ := g.next hB) | (obtain ⟨g, rfl⟩ : ∃ g : Grow W, w1 = g.x := ⟨⟨w1, hB⟩, rfl⟩)); clear hB) | (go_at_call 31; (with_reducible refine Calls.mono (kP.out _) ?_); rintro e w1 ⟨rfl, hB⟩; (first | (obtain ⟨g, rfl⟩ := g.next hB) | (obtain ⟨g, rfl⟩ : ∃ g : Grow W, w1 = g.x := ⟨⟨w1, hB⟩, rfl⟩)); clear hB) | (go_at_call 78; (with_reducible refine Calls.mono (kT.out _) ?_); rintro e w1 ⟨rfl, hB⟩; (first | (obtain ⟨g, rfl⟩ := g.next hB) | (obtain ⟨g, rfl⟩ : ∃ g : Grow W, w1 = g.x := ⟨⟨w1, hB⟩, rfl⟩)); clear hB) | (go_at_call 79; (with_reducible refine Calls.mono (hD.out g) ?_); rintro e V2 ⟨rfl, g1, g2, g3, g4, hV⟩))
 have gs := g.size
 have ng : (W1.heap.size : Nat) ≠ g.x.heap.size := by omega
 clear hgc hgf
 clear m7_c_0 m7_c_1 m7_c_2 m7_c_3 m7_c_4 m7_c_5 m7_c_6 m7_c_7 m7_c_8 m7_c_9 m7_c_10 mz7_c q0_c_0 q0_c_1 q0_c_2 q0_c_3 q0_c_4 q0_c_5 q0_c_6 q0_c_7 q0_c_8 q0_c_9 q0_c_10 q0_p_0 q0_p_1 q0_p_2 q0_p_3 q0_l_0 q0_a_0 q0_b_0 q0_x_0 q0_x_1 q0_x_2 q0_x_3 q0_x_4 q0_x_5 q0_x_6 q0_x_7 q0_x_8 q0_x_9 q0_x_10
 obtain ⟨z_p, d_p, k_p⟩ := row_cells g1
 have d_p_0 := d_p 0
 have k_p_0 := k_p 0
 have d_p_1 := d_p 1
 have k_p_1 := k_p 1
 have d_p_2 := d_p 2
 have k_p_2 := k_p 2
 have d_p_3 := d_p 3
 have k_p_3 := k_p 3
 simp only [List.getElem?_toArray, List.getElem?_cons_zero, List.getElem?_cons_succ] at d_p_0 d_p_1 d_p_2 d_p_3
 clear d_p k_p
 obtain ⟨z_s, d_s, k_s⟩ := row_cells g2
 have d_s_0 := d_s 0
 have k_s_0 := k_s 0
 have d_s_1 := d_s 1
 have k_s_1 := k_s 1
 have d_s_2 := d_s 2
 have k_s_2 := k_s 2
 have d_s_3 := d_s 3
 have k_s_3 := k_s 3
 simp only [List.getElem?_toArray, List.getElem?_cons_zero, List.getElem?_cons_succ] at d_s_0 d_s_1 d_s_2 d_s_3
 clear d_s k_s
 obtain ⟨z_r1, d_r1, k_r1⟩ := row_cells g3
 have d_r1_0 := d_r1 0
 have k_r1_0 := k_r1 0
 have d_r1_1 := d_r1 1
 have k_r1_1 := k_r1 1
 have d_r1_2 := d_r1 2
 have k_r1_2 := k_r1 2
 have d_r1_3 := d_r1 3
 have k_r1_3 := k_r1 3
 simp only [List.getElem?_toArray, List.getElem?_cons_zero, List.getElem?_cons_succ] at d_r1_0 d_r1_1 d_r1_2 d_r1_3
 clear d_r1 k_r1
 obtain ⟨z_r2, d_r2, k_r2⟩ := row_cells g4
 have d_r2_0 := d_r2 0
 have k_r2_0 := k_r2 0
 have d_r2_1 := d_r2 1
 have k_r2_1 := k_r2 1
 have d_r2_2 := d_r2 2
 have k_r2_2 := k_r2 2
 have d_r2_3 := d_r2 3
 have k_r2_3 := k_r2 3
 simp only [List.getElem?_toArray, List.getElem?_cons_zero, List.getElem?_cons_succ] at d_r2_0 d_r2_1 d_r2_2 d_r2_3
 clear d_r2 k_r2
 have nn_p_r1 : (W1.heap.size : Nat) ≠ W5.heap.size := by omega
 have nn_p_r2 : (W1.heap.size : Nat) ≠ W6.heap.size := by omega
 have nn_r1_r2 : (W5.heap.size : Nat) ≠ W6.heap.size := by omega
 have nn_r2_r1 : (W6.heap.size : Nat) ≠ W5.heap.size := by omega
 have nn_r1_p : (W5.heap.size : Nat) ≠ W1.heap.size := by omega
 have nn_r2_p : (W6.heap.size : Nat) ≠ W1.heap.size := by omega
 have ns_r1 : (g.x.heap.size : Nat) ≠ W5.heap.size := by omega
 have nt_r1 : (W5.heap.size : Nat) ≠ g.x.heap.size := by omega
 have ns_r2 : (g.x.heap.size : Nat) ≠ W6.heap.size := by omega
 have nt_r2 : (W6.heap.size : Nat) ≠ g.x.heap.size := by omega
 go_region
 generalize hVf : World.setCell _ ⟨W6.heap.size, 3, none⟩ _ = Vf
 have G1 : Vf.heap[W5.heap.size]? = some (.cells #[.int .i64 q.g, .int .i64 q.y, .int .i64 q.t, .int .i64 q.w] 35 (0, 0)) := by rw [← hVf]; have h2 := (set_far (n := W6.heap.size) 3 (.int .i64 sm.w) nn_r1_r2 (set_far (n := W6.heap.size) 2 (.int .i64 sm.t) nn_r1_r2 (set_far (n := W6.heap.size) 1 (.int .i64 sm.y) nn_r1_r2 (set_far (n := W6.heap.size) 0 (.int .i64 sm.g) nn_r1_r2 (set_one (set_one (set_one (set_one g3 0 (.int .i64 q.g)) 1 (.int .i64 q.y)) 2 (.int .i64 q.t)) 3 (.int .i64 q.w)))))); simp only [List.setIfInBounds_toArray, List.set_cons_zero, List.set_cons_succ] at h2; exact h2
 have G2 : Vf.heap[W6.heap.size]? = some (.cells #[.int .i64 sm.g, .int .i64 sm.y, .int .i64 sm.t, .int .i64 sm.w] 35 (0, 0)) := by rw [← hVf]; have h2 := (set_one (set_one (set_one (set_one (set_far (n := W5.heap.size) 3 (.int .i64 q.w) nn_r2_r1 (set_far (n := W5.heap.size) 2 (.int .i64 q.t) nn_r2_r1 (set_far (n := W5.heap.size) 1 (.int .i64 q.y) nn_r2_r1 (set_far (n := W5.heap.size) 0 (.int .i64 q.g) nn_r2_r1 g4)))) 0 (.int .i64 sm.g)) 1 (.int .i64 sm.y)) 2 (.int .i64 sm.t)) 3 (.int .i64 sm.w)); simp only [List.setIfInBounds_toArray, List.set_cons_zero, List.set_cons_succ] at h2; exact h2
 have hfin : Hid (Below w.heap.size w Vf) := Lib.hid (by rw [← hVf]; exact (Below.setCell (p := ⟨W6.heap.size, 3, none⟩) (Below.setCell (p := ⟨W6.heap.size, 2, none⟩) (Below.setCell (p := ⟨W6.heap.size, 1, none⟩) (Below.setCell (p := ⟨W6.heap.size, 0, none⟩) (Below.setCell (p := ⟨W5.heap.size, 3, none⟩) (Below.setCell (p := ⟨W5.heap.size, 2, none⟩) (Below.setCell (p := ⟨W5.heap.size, 1, none⟩) (Below.setCell (p := ⟨W5.heap.size, 0, none⟩) hV le_r1 (.int .i64 q.g)) le_r1 (.int .i64 q.y)) le_r1 (.int .i64 q.t)) le_r1 (.int .i64 q.w)) le_r2 (.int .i64 sm.g)) le_r2 (.int .i64 sm.y)) le_r2 (.int .i64 sm.t)) le_r2 (.int .i64 sm.w)))
 clear hVf d_p_0 k_p_0 d_p_1 k_p_1 d_p_2 k_p_2 d_p_3 k_p_3 d_s_0 k_s_0 d_s_1 k_s_1 d_s_2 k_s_2 d_s_3 k_s_3 d_r1_0 k_r1_0 d_r1_1 k_r1_1 d_r1_2 k_r1_2 d_r1_3 k_r1_3 d_r2_0 k_r2_0 d_r2_1 k_r2_1 d_r2_2 k_r2_2 d_r2_3 k_r2_3
 obtain ⟨-, u1, -⟩ := row_cells G1
 obtain ⟨-, u2, -⟩ := row_cells G2
 have u1_0 := u1 0
 have u2_0 := u2 0
 have u1_1 := u1 1
 have u2_1 := u2 1
 have u1_2 := u1 2
 have u2_2 := u2 2
 have u1_3 := u1 3
 have u2_3 := u2 3
 simp only [List.getElem?_toArray, List.getElem?_cons_zero, List.getElem?_cons_succ] at u1_0 u2_0 u1_1 u2_1 u1_2 u2_2 u1_3 u2_3
 clear u1 u2
 go_wp2
 refine bodyPost_ret (v := .tuple #[ptV q, ptV sm, .int .i64 0]) (by simp [results, Tryz.results48, go_sem, *]) rfl ⟨rfl, hfin.out.drew⟩
end Go.Proofs.YthjmdagonfeneaaGreat.G
set_option linter.unusedVariables false
set_option linter.unusedSimpArgs false
namespace Go.Proofs.YthjmdagonfeneaaGreat
open Go Go.RowKit Go.Sd
def NewAt (L : Nat) (cs : Array Value) (t : TypeId) (v : Value) (w : World) : Prop := ∃ b, v = .pointer (some ⟨b, 0, none⟩) ∧ L ≤ b ∧ w.heap[b]? = some (.cells cs t (0, 0))
def NewNow (v : Value) (w : World) : Prop := v = .pointer (some ⟨w.heap.size, 0, none⟩)
theorem NewAt.mono {L : Nat} {cs : Array Value} {t : TypeId} {v : Value} {w w' : World} (h : NewAt L cs t v w) (hb : Below w.heap.size w w') : NewAt L cs t v w' := by
 obtain ⟨b, h1, h2, h3⟩ := h
 exact ⟨b, h1, h2, (hb.block b (zqo h3)).trans h3⟩
def Pers (f : Value → World → Prop) : Prop := ∀ v w w', Below w.heap.size w w' → f v w → f v w'
def IsV (x : Value) : Value → World → Prop := fun v _ => v = x
theorem pers_v (x : Value) : Pers (IsV x) := fun _ _ _ _ h => h
theorem pers_new (L : Nat) (cs : Array Value) (t : TypeId) : Pers (NewAt L cs t) := fun _ _ _ hb h => h.mono hb
def RL (rs : List (Value → World → Prop)) (j : Nat) (v : Value) (w : World) : Prop := match rs[j]? with
 | some f => f v w
 | none => True
def NL (nw : List Nat) (j : Nat) (v : Value) (w : World) : Prop := nw.contains j = true → NewNow v w
def IsNew (u : Value) (w : World) : Prop := ∃ b, u = .pointer (some ⟨b, 0, none⟩) ∧ b < w.heap.size
def DL (nw : List Nat) (j : Nat) (v : Value) (k : Nat) (u : Value) : Prop := nw.contains j = true → nw.contains k = true → v ≠ u
theorem NewAt.isNew {L : Nat} {cs : Array Value} {t : TypeId} {v : Value} {w : World} (h : NewAt L cs t v w) : IsNew v w := by
 obtain ⟨b, h1, _, h3⟩ := h
 exact ⟨b, h1, (zqo h3)⟩
theorem RL_pers {rs : List (Value → World → Prop)} (h : ∀ f ∈ rs, Pers f) : ∀ j v w w', Below w.heap.size w w' → RL rs j v w → RL rs j v w' := by
 intro j v w w' hb hr
 unfold RL at *
 cases e : rs[j]? with
 | none => trivial
 | some f =>
  rw [e] at hr
  exact h f (List.mem_of_getElem? e) v w w' hb hr
theorem DL_of {rs : List (Value → World → Prop)} {nw : List Nat} (hn : ∀ k ∈ nw, ∀ u w, RL rs k u w → IsNew u w) : ∀ j k v u w, j ≠ k → NL nw j v w → RL rs k u w → DL nw j v k u ∧ DL nw k u j v := by
 intro j k v u w _ h1 h2
 have key : nw.contains j = true → nw.contains k = true → v ≠ u := fun hj hk he => by
  have h3 := h1 hj
  unfold NewNow at h3
  obtain ⟨b, h4, h5⟩ := hn k (by simpa using hk) u w h2
  rw [← he, h3] at h4
  simp only [Value.pointer.injEq, Option.some.injEq, Addr.mk.injEq] at h4
  omega
 exact ⟨key, fun hk hj => (key hj hk).symm⟩
section
variable {P : Program} {Q : Exit → Act → World → Prop} {b0 : Act} {w : World} {l : List Oper} (n T : Nat) (opt sl : List Nat) (nd : List (List Nat)) (rs : List (Value → World → Prop)) (nw : List Nat)
theorem any_region_locN (hB : locB .any l.toArray n T opt = true) (hO : optB .any l.toArray n opt = true) (hseq : Region.seqB .any l.toArray (l.length - n) n (listedBut l.toArray n []) = true)
    (hsl : (List.range n).map (slotOf l.toArray) = sl.map some) (hnd : (List.range n).map (needs l.toArray n) = nd) (hT : b0.tmps.size = T)
    (hQ : ∀ c a a' w, Q (.panic c) a' w → Q (.panic c) a w) (hp : ∀ f ∈ rs, Pers f) (hn : ∀ k ∈ nw, ∀ u w, RL rs k u w → IsNew u w)
    (hop : HopL P l.toArray (RL rs) (NL nw) sl b0 w 0 (l.take n) nd)
    (hpure : ∀ j ∈ opt, ∀ o, l[j]? = some o → ∀ vals w', Below w.heap.size w w' → Facts (RL rs) vals (nd.getD j []) w' → ∃ v, Yields P l.toArray o v (fillS sl vals (nd.getD j []) b0) ∧ RL rs j v w' ∧ NL nw j v w')
    (htail : ∀ vals w', Below w.heap.size w w' → (∀ k, k < n → RL rs k (vals k) w') → (∀ j k, j < n → k < n → j ≠ k → DL nw j (vals j) k (vals k)) → wpList P l.toArray Q (l.drop n) (fillS sl vals (List.range n) b0) w') : wpAny P .any l.toArray Q l.toArray.size (Array.replicate l.toArray.size false) b0 { w with drawn := w.drawn + 1 } :=
 any_region_locL (R := RL rs) (N := NL nw) (D := DL nw) n T opt sl nd hB hO hseq hsl hnd hT hQ (RL_pers hp) (DL_of hn) hop hpure htail
def OnlyN (Q : Exit → Act → World → Prop) : Exit → Act → World → Prop
 | .normal, a, w => Q .normal a w
 | _, _, _ => False
theorem OnlyN.mk {Q : Exit → Act → World → Prop} {a : Act} {w : World} (h : Q .normal a w) : OnlyN Q .normal a w := h
theorem OnlyN.out {Q : Exit → Act → World → Prop} : ∀ e a w, OnlyN Q e a w → Q e a w := fun e a w h => by cases e <;> first | exact h | exact h.elim
theorem OnlyN.panic {Q : Exit → Act → World → Prop} : ∀ c a a' w, OnlyN Q (.panic c) a' w → OnlyN Q (.panic c) a w := fun _ _ _ _ h => h
theorem plain_region {id : Nat} {ops : List Oper} (hm : P.follows .mixedOrders = true) (h : wpAny P .any ops.toArray (OnlyN Q) ops.toArray.size (Array.replicate ops.toArray.size false) b0 { w with drawn := w.drawn + 1 }) : (Code.region id ops.toArray true).wp P Q b0 w :=
 wp_mono (wp_region_any hm h) OnlyN.out
end
/-! ### A region that lays variables, in a round too -/
end Go.Proofs.YthjmdagonfeneaaGreat
set_option linter.unusedVariables false
set_option linter.unusedSimpArgs false
namespace Go.Proofs.YthjmdagonfeneaaGreat.G
open Go.RowKit Go.Sd Gas
theorem ex_wdr : act exC exS exW = some (⟨1800, 1900, 90, 100, 3000, 3100, 45000, 54299⟩, ⟨200, 201, 9, 10, 4751, 6000⟩) := by rfl
theorem exWdr (w : World) : Calls Tryz.prog 25 #[cavV exC, stV exS, .agg #[.int .i64 2, .int .i64 0, .int .i64 0, .int .i64 0, .int .i64 0, .int .i64 210, .int .i64 0, .int .i64 0, .int .i64 0, .int .i64 0]] w fun e w' => e = .returned (.tuple #[.agg #[.int .i64 1800, .int .i64 1900, .int .i64 90, .int .i64 100, .int .i64 3000, .int .i64 3100, .int .i64 45000, .int .i64 54299], .agg #[.int .i64 200, .int .i64 201, .int .i64 9, .int .i64 10, .int .i64 4751, .int .i64 6000], .int .i64 0]) ∧ Below w.heap.size w w' :=
 progDoSome (o := exW) w (by rfl) (by rfl) (by rfl) ex_wdr
theorem opsAt1 {w : World} {t : TypeId} {x : Gas.Op} {W : World} (h : w.alloc (.cells #[.int .i64 x.kind, .int .i64 x.lg, .int .i64 x.ly, .int .i64 x.lt, .int .i64 x.lw, .int .i64 x.moles, .int .i64 x.slo, .int .i64 x.shi, .int .i64 x.wlo, .int .i64 x.whi] t) = W) : OpsAt W (.slice (some ⟨w.heap.size, 0, none⟩) 1 1) [x] := by
 obtain ⟨e, b, s⟩ := boxed h
 refine ⟨_, 1, rfl, (by simp [maxLen]), fun _ => ⟨w.heap.size, 0, rfl, by omega, fun k hk => ?_⟩⟩
 have hk : k < 1 := hk
 have r := (row_cells e).2.1
 match k, hk with
 | 0, _ => exact ⟨r 0, r 1, r 2, r 3, r 4, r 5, r 6, r 7, r 8, r 9⟩
theorem intsAt1 {w : World} {t : TypeId} {x : Int} {W : World} (h : w.alloc (.cells #[.int .i64 x] t) = W) : IntsAt W (.slice (some ⟨w.heap.size, 0, none⟩) 1 1) [x] := by
 obtain ⟨e, b, s⟩ := boxed h
 refine ⟨_, 1, rfl, (by simp [maxLen]), fun _ => ⟨w.heap.size, 0, rfl, by omega, fun k hk => ?_⟩⟩
 have hk : k < 1 := hk
 have r := (row_cells e).2.1
 match k, hk with
 | 0, _ => exact r 0
end Go.Proofs.YthjmdagonfeneaaGreat.G
set_option linter.unusedVariables false
set_option linter.unusedSimpArgs false
namespace Go.Proofs.YthjmdagonfeneaaGreat.G
open Go Go.RowKit Go.Sd Gas
def OpsIs (xs : List Gas.Op) : Value → World → Prop := fun v w => OpsAt w v xs
def IntsIs (xs : List Int) : Value → World → Prop := fun v w => IntsAt w v xs
theorem pers_ops (xs : List Gas.Op) : Pers (OpsIs xs) := fun _ _ _ hb h => OpsAt.mono h hb
theorem pers_ints (xs : List Int) : Pers (IntsIs xs) := fun _ _ _ hb h => IntsAt.mono h hb
theorem wp_region_locN {P : Program} {Q : Exit → Act → World → Prop} {b0 : Act} {id : Nat} {w : World} {l : List Oper} (n T : Nat) (opt sl : List Nat) (nd : List (List Nat)) (rs : List (Value → World → Prop)) (nw : List Nat) (hm : P.follows .mixedOrders = true) (hB : locB .any l.toArray n T opt = true) (hO : optB .any l.toArray n opt = true) (hseq : Region.seqB .any l.toArray (l.length - n) n (listedBut l.toArray n []) = true)
    (hsl : (List.range n).map (slotOf l.toArray) = sl.map some) (hnd : (List.range n).map (needs l.toArray n) = nd) (hT : b0.tmps.size = T)
    (hQ : ∀ c a a' w, Q (.panic c) a' w → Q (.panic c) a w) (hp : ∀ f ∈ rs, Pers f) (hn : ∀ k ∈ nw, ∀ u w, RL rs k u w → IsNew u w)
    (hop : HopL P l.toArray (RL rs) (NL nw) sl b0 w 0 (l.take n) nd)
    (hpure : ∀ j ∈ opt, ∀ o, l[j]? = some o → ∀ vals w', Below w.heap.size w w' → Facts (RL rs) vals (nd.getD j []) w' → ∃ v, Yields P l.toArray o v (fillS sl vals (nd.getD j []) b0) ∧ RL rs j v w' ∧ NL nw j v w')
    (htail : ∀ vals w', Below w.heap.size w w' → (∀ k, k < n → RL rs k (vals k) w') → (∀ j k, j < n → k < n → j ≠ k → DL nw j (vals j) k (vals k)) → wpList P l.toArray Q (l.drop n) (fillS sl vals (List.range n) b0) w') : (Code.region id l.toArray true).wp P Q b0 w :=
 wp_region_any hm (any_region_locN n T opt sl nd rs nw hB hO hseq hsl hnd hT hQ hp hn hop hpure htail)
end Go.Proofs.YthjmdagonfeneaaGreat.G
set_option linter.unusedVariables false
set_option linter.unusedSimpArgs false
namespace Gas
theorem force_up {c : Cav} {p q : Pt} (hc : c.Ok) (hg : 0 ≤ p.g) (hy : 0 ≤ p.y) (ht : 0 ≤ p.t) (h1 : p.g ≤ q.g) (h2 : p.y ≤ q.y) (h3 : p.t ≤ q.t) : force c p ≤ force c q := by
 have f0 := hc.f0; have f1 := hc.f1
 unfold force
 have a1 : p.g * c.f0 ≤ q.g * c.f0 := mul_up h1 (by omega)
 have a2 : p.y * c.f1 ≤ q.y * c.f1 := mul_up h2 (by omega)
 have a3 : 0 ≤ q.g * c.f0 := mul_nn (by omega) (by omega)
 have a4 : 0 ≤ q.y * c.f1 := mul_nn (by omega) (by omega)
 have b1 : (p.g * c.f0 + p.y * c.f1) * p.t ≤ (q.g * c.f0 + q.y * c.f1) * p.t := mul_up (by omega) ht
 have b2 : (q.g * c.f0 + q.y * c.f1) * p.t ≤ (q.g * c.f0 + q.y * c.f1) * q.t := mul_up2 h3 (by omega)
 exact mul_up (Int.le_trans b1 b2) (by omega)
theorem force_nn {c : Cav} {p : Pt} (hc : c.Ok) (hg : 0 ≤ p.g) (hy : 0 ≤ p.y) (ht : 0 ≤ p.t) : 0 ≤ force c p := by
 have f0 := hc.f0; have f1 := hc.f1
 unfold force
 have a3 : 0 ≤ p.g * c.f0 := mul_nn hg (by omega)
 have a4 : 0 ≤ p.y * c.f1 := mul_nn hy (by omega)
 exact mul_nn (mul_nn (by omega) ht) (by omega)
theorem thin_up {a g y k z : Int} (ha : 0 ≤ a ∧ a ≤ 1000) (hg : g ≤ k) (hy : z ≤ y) (h : 1000 * y < a * (g + y)) : 1000 * z < a * (k + z) := by
 have h1 : a * g ≤ a * k := mul_up2 hg ha.1
 have h2 : (1000 - a) * z ≤ (1000 - a) * y := mul_up2 hy (by omega)
 rw [Int.sub_mul, Int.sub_mul] at h2
 rw [Int.mul_add] at h ⊢
 omega
theorem rich_up {a g y k z : Int} (ha : 0 ≤ a ∧ a ≤ 1000) (hg : k ≤ g) (hy : y ≤ z) (h : 1000 * y > a * (g + y)) : 1000 * z > a * (k + z) := by
 have h1 : a * k ≤ a * g := mul_up2 hg ha.1
 have h2 : (1000 - a) * y ≤ (1000 - a) * z := mul_up2 hy (by omega)
 rw [Int.sub_mul, Int.sub_mul] at h2
 rw [Int.mul_add] at h ⊢
 omega
theorem pv_up {a v u : Int} (ha : 0 ≤ a) (h : v ≤ u) : a * v * 10000000 ≤ a * u * 10000000 := mul_up (mul_up2 h ha) (by omega)
theorem keeps_sure {c : Cav} {s : St} {p : Pt} {v : Int} (hc : c.Ok) (hs : s.Ok) (hp : s.Has p) (hv : c.vlo ≤ v ∧ v ≤ c.vhi) : keeps c p v = 1 ∨ (sure c s ≠ 1 ∧ sure c s ≤ keeps c p v) := by
 have hpo := hp.ok hs
 have l1 := hc.p; have q1 := hc.pur
 have e1 : force c s.low ≤ force c p := force_up hc hs.g.1 hs.y.1 (by have := hs.t.1; show 0 ≤ s.tlo; omega) hp.g.1 hp.y.1 hp.t.1
 have e2 : force c p ≤ force c s.high := force_up hc hpo.g.1 hpo.y.1 (by have := hpo.t.1; omega) hp.g.2 hp.y.2 hp.t.2
 have e3 : c.least * v * 10000000 ≤ c.least * c.vhi * 10000000 := pv_up l1.1 hv.2
 have e4 : c.most * c.vlo * 10000000 ≤ c.most * v * 10000000 := pv_up (by omega) hv.1
 unfold keeps sure
 by_cases k1 : force c p < c.least * v * 10000000
 · right
   rw [if_pos k1, if_pos (by omega)]; decide
 rw [if_neg k1]
 by_cases k2 : force c p > c.most * v * 10000000
 · right
   rw [if_pos k2]
   by_cases r1 : force c s.low < c.least * c.vhi * 10000000
   · rw [if_pos r1]; decide
   · rw [if_neg r1, if_pos (by omega)]; decide
 rw [if_neg k2]
 by_cases k3 : 1000 * p.y < c.plo * (p.g + p.y)
 · right
   rw [if_pos k3]
   have ht : thin c s = true := by
    unfold thin
    exact decide_eq_true (thin_up ⟨q1.1, by omega⟩ hp.g.2 hp.y.1 k3)
   rw [ht]
   by_cases r1 : force c s.low < c.least * c.vhi * 10000000
   · rw [if_pos r1]; decide
   · rw [if_neg r1]
     by_cases r2 : force c s.high > c.most * c.vlo * 10000000
     · rw [if_pos r2]; decide
     · rw [if_neg r2, if_pos rfl]; exact ⟨by decide, by decide⟩
 rw [if_neg k3]
 by_cases k4 : 1000 * p.y > c.phi * (p.g + p.y)
 · right
   rw [if_pos k4]
   have ht : rich c s = true := by
    unfold rich
    exact decide_eq_true (rich_up ⟨by omega, q1.2.2⟩ hp.g.1 hp.y.2 k4)
   rw [ht]
   by_cases r1 : force c s.low < c.least * c.vhi * 10000000
   · rw [if_pos r1]; decide
   · rw [if_neg r1]
     by_cases r2 : force c s.high > c.most * c.vlo * 10000000
     · rw [if_pos r2]; decide
     · rw [if_neg r2]
       by_cases r3 : thin c s = true
       · rw [if_pos r3]; decide
       · rw [if_neg r3]; decide
 left
 rw [if_neg k4]
end Gas
