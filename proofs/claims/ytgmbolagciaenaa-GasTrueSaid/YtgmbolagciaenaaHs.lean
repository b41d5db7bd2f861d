/- Gas: walks of the law package's small functions, and of whether a state has a content, or lies within another one. -/
import Derived.Test.YtgmbolagciaenaaPrs
import Derived.Test.YtgmbolagciaenaaPr2
import Derived.Test.YtgmbolagciaenaaSto
import Derived.Test.YtgmbolagciaenaaKpl
set_option linter.unusedVariables false
set_option linter.unusedSimpArgs false
namespace Gas
def hasB (s : St) (p : Pt) : Bool := inB p.g s.glo s.ghi && inB p.y s.ylo s.yhi && inB p.t s.tlo s.thi && inB p.w s.wlo s.whi
theorem hasB_iff {s : St} {p : Pt} : hasB s p = true ↔ s.Has p := by
  simp only [hasB, Bool.and_eq_true, inB_iff]
  exact ⟨fun ⟨⟨⟨a, b⟩, c⟩, d⟩ => ⟨a, b, c, d⟩, fun h => ⟨⟨⟨h.g, h.y⟩, h.t⟩, h.w⟩⟩
structure St.In (a b : St) : Prop where
  g : b.glo ≤ a.glo ∧ a.ghi ≤ b.ghi
  y : b.ylo ≤ a.ylo ∧ a.yhi ≤ b.yhi
  t : b.tlo ≤ a.tlo ∧ a.thi ≤ b.thi
  w : b.wlo ≤ a.wlo ∧ a.whi ≤ b.whi
end Gas
namespace Go.Proofs.Ytgmbolagciaenaa
open Go.RowKit Go.Sd Gas
theorem below_tr2 {w X y : World} (h : Below w.heap.size w X) (k : Below X.heap.size X y) : Below w.heap.size w y := h.trans (k.mono h.size)

set_option maxRecDepth 100000 in
set_option maxHeartbeats 4000000 in
theorem refHas (s : St) (p : Pt) (w : World) : Calls Try.prog 34 #[stV s, ptV p] w (BoolB (hasB s p) w) := by
  obtain ⟨W1, hW1⟩ : ∃ W1, w.alloc (.cells #[.int .i64 s.glo, .int .i64 s.ghi, .int .i64 s.ylo, .int .i64 s.yhi, .int .i64 s.tlo, .int .i64 s.thi, .int .i64 s.wlo, .int .i64 s.whi] 28) = W1 := ⟨_, rfl⟩
  obtain ⟨eW0, bW0, sW0⟩ := boxed hW1
  obtain ⟨W, hW⟩ : ∃ W, W1.alloc (.cells #[.int .i64 p.g, .int .i64 p.y, .int .i64 p.t, .int .i64 p.w] 31) = W := ⟨_, rfl⟩
  obtain ⟨eW1, bW1, sW1⟩ := boxed hW
  replace eW0 := (bW1.block _ (Array.getElem?_eq_some_iff.1 eW0).1).trans eW0
  have hBw : Below w.heap.size w W := (by have := sW0; have := sW1; exact (bW0.trans (bW1.mono (by omega))))
  obtain ⟨zW0, rW0, tW0⟩ := row_cells eW0
  obtain ⟨qW0_0, qW0_1, qW0_2, qW0_3, qW0_4, qW0_5, qW0_6, qW0_7⟩ := rc8 eW0
  obtain ⟨fW0_0, fW0_1, fW0_2, fW0_3, fW0_4, fW0_5, fW0_6, fW0_7⟩ := rf8 eW0
  clear rW0 tW0 eW0
  obtain ⟨zW1, rW1, tW1⟩ := row_cells eW1
  obtain ⟨qW1_0, qW1_1, qW1_2, qW1_3⟩ := rc4 eW1
  obtain ⟨fW1_0, fW1_1, fW1_2, fW1_3⟩ := rf4 eW1
  clear rW1 tW1 eW1
  have xW0 : w.heap.size ≤ w.heap.size := by omega
  have xW1 : w.heap.size ≤ W1.heap.size := by omega
  clear bW0 sW0 bW1 sW1
  have hg := grow_cell W
  go_enter Try.func34, Try.ntmps34
  go_wp2_with (go_at_call 57; refine Calls.mono (refIn _ _ _ _) ?_; rintro e w1 ⟨(_ | _), rfl, ht, rfl⟩)
  all_goals
    go_ret
    exact BoolB.mk (by unfold Hid at *; simp [hasB, *]) hBw

set_option maxRecDepth 100000 in
set_option maxHeartbeats 4000000 in
theorem refWithin (a b : St) (w : World) (h : a.In b) : Calls Try.prog 30 #[stV a, stV b] w fun e w' => e = .returned (.bool true) ∧ Below w.heap.size w w' := by
  obtain ⟨⟨h1, h2⟩, ⟨h3, h4⟩, ⟨h5, h6⟩, h7, h8⟩ := h
  obtain ⟨W1, hW1⟩ : ∃ W1, w.alloc (.cells #[.int .i64 a.glo, .int .i64 a.ghi, .int .i64 a.ylo, .int .i64 a.yhi, .int .i64 a.tlo, .int .i64 a.thi, .int .i64 a.wlo, .int .i64 a.whi] 28) = W1 := ⟨_, rfl⟩
  obtain ⟨eW0, bW0, sW0⟩ := boxed hW1
  obtain ⟨W, hW⟩ : ∃ W, W1.alloc (.cells #[.int .i64 b.glo, .int .i64 b.ghi, .int .i64 b.ylo, .int .i64 b.yhi, .int .i64 b.tlo, .int .i64 b.thi, .int .i64 b.wlo, .int .i64 b.whi] 28) = W := ⟨_, rfl⟩
  obtain ⟨eW1, bW1, sW1⟩ := boxed hW
  replace eW0 := (bW1.block _ (Array.getElem?_eq_some_iff.1 eW0).1).trans eW0
  have hBw : Below w.heap.size w W := (by have := sW0; have := sW1; exact (bW0.trans (bW1.mono (by omega))))
  obtain ⟨zW0, rW0, tW0⟩ := row_cells eW0
  obtain ⟨qW0_0, qW0_1, qW0_2, qW0_3, qW0_4, qW0_5, qW0_6, qW0_7⟩ := rc8 eW0
  obtain ⟨fW0_0, fW0_1, fW0_2, fW0_3, fW0_4, fW0_5, fW0_6, fW0_7⟩ := rf8 eW0
  clear rW0 tW0 eW0
  obtain ⟨zW1, rW1, tW1⟩ := row_cells eW1
  obtain ⟨qW1_0, qW1_1, qW1_2, qW1_3, qW1_4, qW1_5, qW1_6, qW1_7⟩ := rc8 eW1
  obtain ⟨fW1_0, fW1_1, fW1_2, fW1_3, fW1_4, fW1_5, fW1_6, fW1_7⟩ := rf8 eW1
  clear rW1 tW1 eW1
  have xW0 : w.heap.size ≤ w.heap.size := by omega
  have xW1 : w.heap.size ≤ W1.heap.size := by omega
  clear bW0 sW0 bW1 sW1
  have hg := grow_cell W
  go_enter Try.func30, Try.ntmps30
  go_wp2
  go_ret
  exact ⟨rfl, hBw⟩

set_option maxRecDepth 100000 in
set_option maxHeartbeats 4000000 in
theorem lawEnd1 (a b n : Int) (w : World) (h : n.tmod 2 = 1) : Calls Try.prog 22 #[.agg #[.int .i64 a, .int .i64 b], .int .i64 n] w fun e w' => e = .returned (.int .i64 b) ∧ Below w.heap.size w w' := by
  obtain ⟨W, hW⟩ : ∃ W, w.alloc (.cells #[.int .i64 a, .int .i64 b] 23) = W := ⟨_, rfl⟩
  obtain ⟨eW0, bW0, sW0⟩ := boxed hW
  have hBw : Below w.heap.size w W := bW0
  obtain ⟨zW0, rW0, tW0⟩ := row_cells eW0
  obtain ⟨qW0_0, qW0_1⟩ := rc2 eW0
  obtain ⟨fW0_0, fW0_1⟩ := rf2 eW0
  clear rW0 tW0 eW0
  have xW0 : w.heap.size ≤ w.heap.size := by omega
  clear bW0 sW0
  have hg := grow_cell W
  have hw : IntKind.i64.wrap (n.tmod 2) = 1 := by rw [h]; rfl
  go_enter Try.func22, Try.ntmps22
  go_wp2
  go_ret
  exact ⟨rfl, hBw⟩

set_option maxRecDepth 100000 in
set_option maxHeartbeats 4000000 in
theorem lawEnd0 (a b n : Int) (w : World) (h : n.tmod 2 = 0) : Calls Try.prog 22 #[.agg #[.int .i64 a, .int .i64 b], .int .i64 n] w fun e w' => e = .returned (.int .i64 a) ∧ Below w.heap.size w w' := by
  obtain ⟨W, hW⟩ : ∃ W, w.alloc (.cells #[.int .i64 a, .int .i64 b] 23) = W := ⟨_, rfl⟩
  obtain ⟨eW0, bW0, sW0⟩ := boxed hW
  have hBw : Below w.heap.size w W := bW0
  obtain ⟨zW0, rW0, tW0⟩ := row_cells eW0
  obtain ⟨qW0_0, qW0_1⟩ := rc2 eW0
  obtain ⟨fW0_0, fW0_1⟩ := rf2 eW0
  clear rW0 tW0 eW0
  have xW0 : w.heap.size ≤ w.heap.size := by omega
  clear bW0 sW0
  have hg := grow_cell W
  have hw : IntKind.i64.wrap (n.tmod 2) = 0 := by rw [h]; rfl
  go_enter Try.func22, Try.ntmps22
  go_wp2
  go_ret
  exact ⟨rfl, hBw⟩

set_option maxRecDepth 100000 in
set_option maxHeartbeats 4000000 in
theorem lawWide (a b n : Int) (w : World) {x y : Int} (hx : (if n < a then n else a) = x) (hy : (if b < n then n else b) = y) : Calls Try.prog 24 #[.agg #[.int .i64 a, .int .i64 b], .int .i64 n] w fun e w' => e = .returned (.agg #[.int .i64 x, .int .i64 y]) ∧ Below w.heap.size w w' := by
  obtain ⟨W1, hW1⟩ : ∃ W1, w.alloc (.cells #[.int .i64 a, .int .i64 b] 23) = W1 := ⟨_, rfl⟩
  obtain ⟨eW0, bW0, sW0⟩ := boxed hW1
  have yW0_0 : w.heap.size < W1.heap.size := by omega
  obtain ⟨mW0_0_0, mW0_0_1⟩ := rc2 eW0
  obtain ⟨W, hW⟩ : ∃ W, W1.alloc (.cells #[.int .i64 0, .int .i64 0] 23) = W := ⟨_, rfl⟩
  obtain ⟨eW1, bW1, sW1⟩ := boxed hW
  replace eW0 := (bW1.block _ (Array.getElem?_eq_some_iff.1 eW0).1).trans eW0
  have hBw : Below w.heap.size w W := (by have := sW0; have := sW1; exact (bW0.trans (bW1.mono (by omega))))
  obtain ⟨zW0, rW0, tW0⟩ := row_cells eW0
  obtain ⟨qW0_0, qW0_1⟩ := rc2 eW0
  obtain ⟨fW0_0, fW0_1⟩ := rf2 eW0
  clear rW0 tW0 eW0
  obtain ⟨zW1, rW1, tW1⟩ := row_cells eW1
  obtain ⟨qW1_0, qW1_1⟩ := rc2 eW1
  obtain ⟨fW1_0, fW1_1⟩ := rf2 eW1
  clear rW1 tW1 eW1
  have xW0 : w.heap.size ≤ w.heap.size := by omega
  have xW1 : w.heap.size ≤ W1.heap.size := by omega
  clear bW0 sW0 bW1 sW1
  go_enter Try.func24, Try.ntmps24
  go_wp2
  refine bodyPost_ret (v := .agg #[.int .i64 x, .int .i64 y]) (by simp [results, Try.results24, go_sem, *]) rfl ⟨rfl, ?_⟩
  repeat' (first | (with_reducible exact hBw) | (with_reducible exact xW1) | (with_reducible refine Below.setCell ?_ ?_ _))

set_option maxRecDepth 100000 in
set_option maxHeartbeats 4000000 in
theorem lawInner (a b n : Int) (w : World) (hab : 0 ≤ b - a ∧ b - a ≤ 1000000000) {x y : Int} (hx : (if b - a < n then b - a else n) = x) (hy : (if 0 < x then x else 0) = y) : Calls Try.prog 29 #[.agg #[.int .i64 a, .int .i64 b], .int .i64 n] w fun e w' => e = .returned (.int .i64 y) ∧ Below w.heap.size w w' := by
  have hwr : IntKind.i64.wrap (b - a) = b - a := IntWalk.i64_in _ (by omega)
  obtain ⟨W, hW⟩ : ∃ W, w.alloc (.cells #[.int .i64 a, .int .i64 b] 23) = W := ⟨_, rfl⟩
  obtain ⟨eW0, bW0, sW0⟩ := boxed hW
  have hBw : Below w.heap.size w W := bW0
  obtain ⟨zW0, rW0, tW0⟩ := row_cells eW0
  obtain ⟨qW0_0, qW0_1⟩ := rc2 eW0
  obtain ⟨fW0_0, fW0_1⟩ := rf2 eW0
  clear rW0 tW0 eW0
  have xW0 : w.heap.size ≤ w.heap.size := by omega
  clear bW0 sW0
  have hg := grow_cell W
  go_enter Try.func29, Try.ntmps29
  go_wp2
  go_ret
  exact ⟨rfl, hBw⟩

set_option maxRecDepth 100000 in
set_option maxHeartbeats 4000000 in
theorem lawBreaks2 (c : Cav) (p : Pt) (v : Int) (w : World) (hc : c.Ok) (hp : p.Ok) (hv : 1 ≤ v ∧ v ≤ 1000000) : Calls Try.prog 40 #[cavV c, ptV p, .int .i64 v, .int .i64 2] w (BoolB (brk c p v 2) w) := by
  obtain ⟨W1, hW1⟩ : ∃ W1, w.alloc (.cells #[.int .i64 c.vlo, .int .i64 c.vhi, .int .i64 c.least, .int .i64 c.most, .int .i64 c.f0, .int .i64 c.f1, .int .i64 c.h0, .int .i64 c.h1, .int .i64 c.rock, .int .i64 c.plo, .int .i64 c.phi] 26) = W1 := ⟨_, rfl⟩
  obtain ⟨e_c, b_c, s_c⟩ := boxed hW1
  obtain ⟨W, hW⟩ : ∃ W, W1.alloc (.cells #[.int .i64 p.g, .int .i64 p.y, .int .i64 p.t, .int .i64 p.w] 31) = W := ⟨_, rfl⟩
  obtain ⟨e_p, b_p, s_p⟩ := boxed hW
  replace e_c := (b_p.block _ (Array.getElem?_eq_some_iff.1 e_c).1).trans e_c
  have B0 : Below w.heap.size w W := (b_c.trans (b_p.mono (by omega)))
  have z0_c := (Array.getElem?_eq_some_iff.1 e_c).1
  have z0_p := (Array.getElem?_eq_some_iff.1 e_p).1
  have le_c : w.heap.size ≤ w.heap.size := by omega
  have ne_p_c : (W1.heap.size : Nat) ≠ w.heap.size := by omega
  have le_p : w.heap.size ≤ W1.heap.size := by omega
  clear s_c b_c s_p b_p
  obtain ⟨q0_c_0, q0_c_1, q0_c_2, q0_c_3, q0_c_4, q0_c_5, q0_c_6, q0_c_7, q0_c_8, q0_c_9, q0_c_10⟩ := rc11 e_c
  obtain ⟨f0_c_0, f0_c_1, f0_c_2, f0_c_3, f0_c_4, f0_c_5, f0_c_6, f0_c_7, f0_c_8, f0_c_9, f0_c_10⟩ := rf11 e_c
  replace e_c := Lib.hid e_c
  obtain ⟨q0_p_0, q0_p_1, q0_p_2, q0_p_3⟩ := rc4 e_p
  replace e_p := Lib.hid e_p
  have hkc := brkC_ok hc 2
  have kK := Lib.hid (fun w => refKeeps (brkC c 2) p v w hkc hp hv)
  have hres : Hid (brk c p v 2 = decide (keeps (brkC c 2) p v = 2)) := Lib.hid rfl
  have hval : cavV (brkC c 2) = .agg #[.int .i64 c.vlo, .int .i64 c.vhi, .int .i64 c.least, .int .i64 100000, .int .i64 c.f0, .int .i64 c.f1, .int .i64 c.h0, .int .i64 c.h1, .int .i64 c.rock, .int .i64 0, .int .i64 1000] := rfl
  rw [hval] at kK
  obtain ⟨k, hk⟩ : ∃ k, keeps (brkC c 2) p v = k := ⟨_, rfl⟩
  rw [hk] at kK hres
  clear hk hval hkc
  go_enter Try.func40, Try.ntmps40
  go_wp2_with (go_at_call 37; (with_reducible refine Calls.mono (kK.out _) ?_); rintro e w1 ⟨rfl, hB⟩)
  go_ret
  refine BoolB.mk (by rw [hres.out]; first | rfl | simp) (below_tr2 ?_ hB)
  repeat' (first | (with_reducible exact B0) | (with_reducible exact le_c) | (with_reducible refine Below.setCell ?_ ?_ _))

set_option maxRecDepth 100000 in
set_option maxHeartbeats 4000000 in
theorem lawBreaks3 (c : Cav) (p : Pt) (v : Int) (w : World) (hc : c.Ok) (hp : p.Ok) (hv : 1 ≤ v ∧ v ≤ 1000000) : Calls Try.prog 40 #[cavV c, ptV p, .int .i64 v, .int .i64 3] w (BoolB (brk c p v 3) w) := by
  obtain ⟨W1, hW1⟩ : ∃ W1, w.alloc (.cells #[.int .i64 c.vlo, .int .i64 c.vhi, .int .i64 c.least, .int .i64 c.most, .int .i64 c.f0, .int .i64 c.f1, .int .i64 c.h0, .int .i64 c.h1, .int .i64 c.rock, .int .i64 c.plo, .int .i64 c.phi] 26) = W1 := ⟨_, rfl⟩
  obtain ⟨e_c, b_c, s_c⟩ := boxed hW1
  obtain ⟨W, hW⟩ : ∃ W, W1.alloc (.cells #[.int .i64 p.g, .int .i64 p.y, .int .i64 p.t, .int .i64 p.w] 31) = W := ⟨_, rfl⟩
  obtain ⟨e_p, b_p, s_p⟩ := boxed hW
  replace e_c := (b_p.block _ (Array.getElem?_eq_some_iff.1 e_c).1).trans e_c
  have B0 : Below w.heap.size w W := (b_c.trans (b_p.mono (by omega)))
  have z0_c := (Array.getElem?_eq_some_iff.1 e_c).1
  have z0_p := (Array.getElem?_eq_some_iff.1 e_p).1
  have le_c : w.heap.size ≤ w.heap.size := by omega
  have ne_p_c : (W1.heap.size : Nat) ≠ w.heap.size := by omega
  have le_p : w.heap.size ≤ W1.heap.size := by omega
  clear s_c b_c s_p b_p
  obtain ⟨q0_c_0, q0_c_1, q0_c_2, q0_c_3, q0_c_4, q0_c_5, q0_c_6, q0_c_7, q0_c_8, q0_c_9, q0_c_10⟩ := rc11 e_c
  obtain ⟨f0_c_0, f0_c_1, f0_c_2, f0_c_3, f0_c_4, f0_c_5, f0_c_6, f0_c_7, f0_c_8, f0_c_9, f0_c_10⟩ := rf11 e_c
  replace e_c := Lib.hid e_c
  obtain ⟨q0_p_0, q0_p_1, q0_p_2, q0_p_3⟩ := rc4 e_p
  replace e_p := Lib.hid e_p
  have hkc := brkC_ok hc 3
  have kK := Lib.hid (fun w => refKeeps (brkC c 3) p v w hkc hp hv)
  have hres : Hid (brk c p v 3 = decide (keeps (brkC c 3) p v = 3)) := Lib.hid rfl
  have hval : cavV (brkC c 3) = .agg #[.int .i64 c.vlo, .int .i64 c.vhi, .int .i64 0, .int .i64 c.most, .int .i64 c.f0, .int .i64 c.f1, .int .i64 c.h0, .int .i64 c.h1, .int .i64 c.rock, .int .i64 0, .int .i64 1000] := rfl
  rw [hval] at kK
  obtain ⟨k, hk⟩ : ∃ k, keeps (brkC c 3) p v = k := ⟨_, rfl⟩
  rw [hk] at kK hres
  clear hk hval hkc
  go_enter Try.func40, Try.ntmps40
  go_wp2_with (go_at_call 37; (with_reducible refine Calls.mono (kK.out _) ?_); rintro e w1 ⟨rfl, hB⟩)
  go_ret
  refine BoolB.mk (by rw [hres.out]; first | rfl | simp) (below_tr2 ?_ hB)
  repeat' (first | (with_reducible exact B0) | (with_reducible exact le_c) | (with_reducible refine Below.setCell ?_ ?_ _))

set_option maxRecDepth 100000 in
set_option maxHeartbeats 4000000 in
theorem lawBreaks4 (c : Cav) (p : Pt) (v : Int) (w : World) (hc : c.Ok) (hp : p.Ok) (hv : 1 ≤ v ∧ v ≤ 1000000) : Calls Try.prog 40 #[cavV c, ptV p, .int .i64 v, .int .i64 4] w (BoolB (brk c p v 4) w) := by
  obtain ⟨W1, hW1⟩ : ∃ W1, w.alloc (.cells #[.int .i64 c.vlo, .int .i64 c.vhi, .int .i64 c.least, .int .i64 c.most, .int .i64 c.f0, .int .i64 c.f1, .int .i64 c.h0, .int .i64 c.h1, .int .i64 c.rock, .int .i64 c.plo, .int .i64 c.phi] 26) = W1 := ⟨_, rfl⟩
  obtain ⟨e_c, b_c, s_c⟩ := boxed hW1
  obtain ⟨W, hW⟩ : ∃ W, W1.alloc (.cells #[.int .i64 p.g, .int .i64 p.y, .int .i64 p.t, .int .i64 p.w] 31) = W := ⟨_, rfl⟩
  obtain ⟨e_p, b_p, s_p⟩ := boxed hW
  replace e_c := (b_p.block _ (Array.getElem?_eq_some_iff.1 e_c).1).trans e_c
  have B0 : Below w.heap.size w W := (b_c.trans (b_p.mono (by omega)))
  have z0_c := (Array.getElem?_eq_some_iff.1 e_c).1
  have z0_p := (Array.getElem?_eq_some_iff.1 e_p).1
  have le_c : w.heap.size ≤ w.heap.size := by omega
  have ne_p_c : (W1.heap.size : Nat) ≠ w.heap.size := by omega
  have le_p : w.heap.size ≤ W1.heap.size := by omega
  clear s_c b_c s_p b_p
  obtain ⟨q0_c_0, q0_c_1, q0_c_2, q0_c_3, q0_c_4, q0_c_5, q0_c_6, q0_c_7, q0_c_8, q0_c_9, q0_c_10⟩ := rc11 e_c
  obtain ⟨f0_c_0, f0_c_1, f0_c_2, f0_c_3, f0_c_4, f0_c_5, f0_c_6, f0_c_7, f0_c_8, f0_c_9, f0_c_10⟩ := rf11 e_c
  replace e_c := Lib.hid e_c
  obtain ⟨q0_p_0, q0_p_1, q0_p_2, q0_p_3⟩ := rc4 e_p
  replace e_p := Lib.hid e_p
  have hkc := brkC_ok hc 4
  have kK := Lib.hid (fun w => refKeeps (brkC c 4) p v w hkc hp hv)
  have hres : Hid (brk c p v 4 = decide (keeps (brkC c 4) p v = 4)) := Lib.hid rfl
  have hval : cavV (brkC c 4) = .agg #[.int .i64 c.vlo, .int .i64 c.vhi, .int .i64 0, .int .i64 100000, .int .i64 c.f0, .int .i64 c.f1, .int .i64 c.h0, .int .i64 c.h1, .int .i64 c.rock, .int .i64 c.plo, .int .i64 1000] := rfl
  rw [hval] at kK
  obtain ⟨k, hk⟩ : ∃ k, keeps (brkC c 4) p v = k := ⟨_, rfl⟩
  rw [hk] at kK hres
  clear hk hval hkc
  go_enter Try.func40, Try.ntmps40
  go_wp2_with (go_at_call 37; (with_reducible refine Calls.mono (kK.out _) ?_); rintro e w1 ⟨rfl, hB⟩)
  go_ret
  refine BoolB.mk (by rw [hres.out]; first | rfl | simp) (below_tr2 ?_ hB)
  repeat' (first | (with_reducible exact B0) | (with_reducible exact le_c) | (with_reducible refine Below.setCell ?_ ?_ _))

set_option maxRecDepth 100000 in
set_option maxHeartbeats 4000000 in
theorem lawBreaks5 (c : Cav) (p : Pt) (v : Int) (w : World) (hc : c.Ok) (hp : p.Ok) (hv : 1 ≤ v ∧ v ≤ 1000000) : Calls Try.prog 40 #[cavV c, ptV p, .int .i64 v, .int .i64 5] w (BoolB (brk c p v 5) w) := by
  obtain ⟨W1, hW1⟩ : ∃ W1, w.alloc (.cells #[.int .i64 c.vlo, .int .i64 c.vhi, .int .i64 c.least, .int .i64 c.most, .int .i64 c.f0, .int .i64 c.f1, .int .i64 c.h0, .int .i64 c.h1, .int .i64 c.rock, .int .i64 c.plo, .int .i64 c.phi] 26) = W1 := ⟨_, rfl⟩
  obtain ⟨e_c, b_c, s_c⟩ := boxed hW1
  obtain ⟨W, hW⟩ : ∃ W, W1.alloc (.cells #[.int .i64 p.g, .int .i64 p.y, .int .i64 p.t, .int .i64 p.w] 31) = W := ⟨_, rfl⟩
  obtain ⟨e_p, b_p, s_p⟩ := boxed hW
  replace e_c := (b_p.block _ (Array.getElem?_eq_some_iff.1 e_c).1).trans e_c
  have B0 : Below w.heap.size w W := (b_c.trans (b_p.mono (by omega)))
  have z0_c := (Array.getElem?_eq_some_iff.1 e_c).1
  have z0_p := (Array.getElem?_eq_some_iff.1 e_p).1
  have le_c : w.heap.size ≤ w.heap.size := by omega
  have ne_p_c : (W1.heap.size : Nat) ≠ w.heap.size := by omega
  have le_p : w.heap.size ≤ W1.heap.size := by omega
  clear s_c b_c s_p b_p
  obtain ⟨q0_c_0, q0_c_1, q0_c_2, q0_c_3, q0_c_4, q0_c_5, q0_c_6, q0_c_7, q0_c_8, q0_c_9, q0_c_10⟩ := rc11 e_c
  obtain ⟨f0_c_0, f0_c_1, f0_c_2, f0_c_3, f0_c_4, f0_c_5, f0_c_6, f0_c_7, f0_c_8, f0_c_9, f0_c_10⟩ := rf11 e_c
  replace e_c := Lib.hid e_c
  obtain ⟨q0_p_0, q0_p_1, q0_p_2, q0_p_3⟩ := rc4 e_p
  replace e_p := Lib.hid e_p
  have hkc := brkC_ok hc 5
  have kK := Lib.hid (fun w => refKeeps (brkC c 5) p v w hkc hp hv)
  have hres : Hid (brk c p v 5 = decide (keeps (brkC c 5) p v = 5)) := Lib.hid rfl
  have hval : cavV (brkC c 5) = .agg #[.int .i64 c.vlo, .int .i64 c.vhi, .int .i64 0, .int .i64 100000, .int .i64 c.f0, .int .i64 c.f1, .int .i64 c.h0, .int .i64 c.h1, .int .i64 c.rock, .int .i64 0, .int .i64 c.phi] := rfl
  rw [hval] at kK
  obtain ⟨k, hk⟩ : ∃ k, keeps (brkC c 5) p v = k := ⟨_, rfl⟩
  rw [hk] at kK hres
  clear hk hval hkc
  go_enter Try.func40, Try.ntmps40
  go_wp2_with (go_at_call 37; (with_reducible refine Calls.mono (kK.out _) ?_); rintro e w1 ⟨rfl, hB⟩)
  go_ret
  refine BoolB.mk (by rw [hres.out]; first | rfl | simp) (below_tr2 ?_ hB)
  repeat' (first | (with_reducible exact B0) | (with_reducible exact le_c) | (with_reducible refine Below.setCell ?_ ?_ _))

theorem lawBreaks (c : Cav) (p : Pt) (v r : Int) (w : World) (hc : c.Ok) (hp : p.Ok) (hv : 1 ≤ v ∧ v ≤ 1000000) (hr : r = 2 ∨ r = 3 ∨ r = 4 ∨ r = 5) : Calls Try.prog 40 #[cavV c, ptV p, .int .i64 v, .int .i64 r] w (BoolB (brk c p v r) w) := by
  rcases hr with rfl | rfl | rfl | rfl
  · exact lawBreaks2 c p v w hc hp hv
  · exact lawBreaks3 c p v w hc hp hv
  · exact lawBreaks4 c p v w hc hp hv
  · exact lawBreaks5 c p v w hc hp hv
end Go.Proofs.Ytgmbolagciaenaa
