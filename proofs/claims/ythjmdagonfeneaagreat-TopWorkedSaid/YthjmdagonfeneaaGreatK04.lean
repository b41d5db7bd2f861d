/- Laws and walks: GA1, GA4, GA7, GA2, GA3. -/
import Derived.Test.YthjmdagonfeneaaGreatChecked
import Derived.Lib.Hide
import Derived.Test.YthjmdagonfeneaaGreatK02
import Derived.Test.YthjmdagonfeneaaGreatK03
set_option maxRecDepth 100000
set_option maxHeartbeats 16000000
set_option linter.unusedVariables false
set_option linter.unusedSimpArgs false
namespace Go.Proofs.YthjmdagonfeneaaGreat.G
open Go.RowKit Go.Sd Gas
abbrev ptV (p : Pt) : Value := .agg #[.int .i64 p.g, .int .i64 p.y, .int .i64 p.t, .int .i64 p.w]
abbrev stV (s : St) : Value := .agg #[.int .i64 s.glo, .int .i64 s.ghi, .int .i64 s.ylo, .int .i64 s.yhi, .int .i64 s.tlo, .int .i64 s.thi, .int .i64 s.wlo, .int .i64 s.whi]
abbrev cavV (c : Cav) : Value := .agg #[.int .i64 c.vlo, .int .i64 c.vhi, .int .i64 c.least, .int .i64 c.most, .int .i64 c.f0, .int .i64 c.f1, .int .i64 c.h0, .int .i64 c.h1, .int .i64 c.rock, .int .i64 c.plo, .int .i64 c.phi]
abbrev opV (o : Gas.Op) : Value := .agg #[.int .i64 o.kind, .int .i64 o.lg, .int .i64 o.ly, .int .i64 o.lt, .int .i64 o.lw, .int .i64 o.moles, .int .i64 o.slo, .int .i64 o.shi, .int .i64 o.wlo, .int .i64 o.whi]
abbrev outV (o : Out) : Value := .agg #[.int .i64 o.glo, .int .i64 o.ghi, .int .i64 o.ylo, .int .i64 o.yhi, .int .i64 o.wlo, .int .i64 o.whi]
def BoolB (b : Bool) (w : World) (e : Ending) (w' : World) : Prop := ∃ t : Bool, e = .returned (.bool t) ∧ Hid (b = t) ∧ Below w.heap.size w w'
def BoolS (b : Bool) (w : World) (e : Ending) (w' : World) : Prop := ∃ t : Bool, e = .returned (.bool t) ∧ Hid (b = t) ∧ w = w'
theorem BoolB.mk {b t : Bool} {w w' : World} (h : b = t) (hb : Below w.heap.size w w') : BoolB b w (.returned (.bool t)) w' := ⟨t, rfl, h, hb⟩
theorem BoolS.mk {b t : Bool} {w : World} (h : b = t) : BoolS b w (.returned (.bool t)) w := ⟨t, rfl, h, rfl⟩
theorem boxed {w W : World} {c : Array Value} {t : TypeId} (h : w.alloc (.cells c t) = W) : W.heap[w.heap.size]? = some (.cells c t) ∧ Below w.heap.size w W ∧ W.heap.size = w.heap.size + 1 := by
 subst h
 exact ⟨World.alloc_heap_new w _, (Below.refl _ _).alloc (Nat.le_refl _) _, by simp⟩
theorem below_al {B : Nat} {W w : World} (h : Below B W w) (o : Obj) (hb : B ≤ w.heap.size := by simp <;> omega) : Below B W (w.alloc o) := h.alloc hb o
theorem refIn (a b c : Int) (w : World) :
    Calls Tryz.prog 20 #[.int .i64 a, .int .i64 b, .int .i64 c] w (BoolS (inB a b c) w) := by
 by_cases h : b ≤ a
 · go_enter Tryz.func20, Tryz.ntmps20
   go_wp2
   go_ret
   exact BoolS.mk (by unfold inB; simp [h] <;> omega)
 · go_enter Tryz.func20, Tryz.ntmps20
   go_wp2
   go_ret
   exact BoolS.mk (by unfold inB; simp [h] <;> omega)
theorem progIn (a b c : Int) (w : World) :
    Calls Tryz.prog 64 #[.int .i64 a, .int .i64 b, .int .i64 c] w (BoolS (inB a b c) w) := by
 by_cases h : b ≤ a
 · go_enter Tryz.func64, Tryz.ntmps64
   go_wp2
   go_ret
   exact BoolS.mk (by unfold inB; simp [h] <;> omega)
 · go_enter Tryz.func64, Tryz.ntmps64
   go_wp2
   go_ret
   exact BoolS.mk (by unfold inB; simp [h] <;> omega)
theorem refSpan (a b c d : Int) (w : World) :
    Calls Tryz.prog 21 #[.agg #[.int .i64 a, .int .i64 b], .int .i64 c, .int .i64 d] w (BoolB (spanB a b c d) w) := by
 by_cases h : c ≤ a
 · by_cases h2 : a ≤ b
   · go_enter Tryz.func21, Tryz.ntmps21
     go_wp2
     go_ret
     exact BoolB.mk (by unfold spanB; simp [h, h2] <;> omega) (below_al (Below.refl _ _) _)
   · go_enter Tryz.func21, Tryz.ntmps21
     go_wp2
     go_ret
     exact BoolB.mk (by unfold spanB; simp [h2] <;> omega) (below_al (Below.refl _ _) _)
 · go_enter Tryz.func21, Tryz.ntmps21
   go_wp2
   go_ret
   exact BoolB.mk (by unfold spanB; simp [h] <;> omega) (below_al (Below.refl _ _) _)
theorem progSpan (a b c d : Int) (w : World) :
    Calls Tryz.prog 65 #[.agg #[.int .i64 a, .int .i64 b], .int .i64 c, .int .i64 d] w (BoolB (spanB a b c d) w) := by
 by_cases h : c ≤ a
 · by_cases h2 : a ≤ b
   · go_enter Tryz.func65, Tryz.ntmps65
     go_wp2
     go_ret
     exact BoolB.mk (by unfold spanB; simp [h, h2] <;> omega) (below_al (Below.refl _ _) _)
   · go_enter Tryz.func65, Tryz.ntmps65
     go_wp2
     go_ret
     exact BoolB.mk (by unfold spanB; simp [h2] <;> omega) (below_al (Below.refl _ _) _)
 · go_enter Tryz.func65, Tryz.ntmps65
   go_wp2
   go_ret
   exact BoolB.mk (by unfold spanB; simp [h] <;> omega) (below_al (Below.refl _ _) _)
theorem refState (s : St) (w : World) : Calls Tryz.prog 7 #[stV s] w (BoolB s.ok w) := by
 obtain ⟨W, hW⟩ : ∃ W, w.alloc (.cells #[.int .i64 s.glo, .int .i64 s.ghi, .int .i64 s.ylo, .int .i64 s.yhi, .int .i64 s.tlo, .int .i64 s.thi, .int .i64 s.wlo, .int .i64 s.whi] 33) = W := ⟨_, rfl⟩
 obtain ⟨eW0, bW0, sW0⟩ := boxed hW
 have hBw : Below w.heap.size w W := bW0
 obtain ⟨zW0, rW0, tW0⟩ := row_cells eW0
 obtain ⟨qW0_0, qW0_1, qW0_2, qW0_3, qW0_4, qW0_5, qW0_6, qW0_7⟩ := rc8 eW0
 clear rW0 tW0 eW0
 have xW0 : w.heap.size ≤ w.heap.size := by omega
 clear bW0 sW0
 have hg := grow_cell W
 go_enter Tryz.func7, Tryz.ntmps7
 go_wp2_with (go_at_call 21; refine Calls.mono (refSpan _ _ _ _ _) ?_; rintro e w1 ⟨(_ | _), rfl, ht, hB⟩ <;> ((first | (obtain ⟨g, rfl⟩ := g.next hB) | (obtain ⟨g, rfl⟩ : ∃ g : Grow W, w1 = g.x := ⟨⟨w1, hB⟩, rfl⟩)); clear hB))
 all_goals
  go_ret
  exact BoolB.mk (by unfold Hid at *; simp [St.ok, *]) (hBw.trans (g.h.mono hBw.size))
theorem progState (s : St) (w : World) : Calls Tryz.prog 30 #[stV s] w (BoolB s.ok w) := by
 obtain ⟨W, hW⟩ : ∃ W, w.alloc (.cells #[.int .i64 s.glo, .int .i64 s.ghi, .int .i64 s.ylo, .int .i64 s.yhi, .int .i64 s.tlo, .int .i64 s.thi, .int .i64 s.wlo, .int .i64 s.whi] 33) = W := ⟨_, rfl⟩
 obtain ⟨eW0, bW0, sW0⟩ := boxed hW
 have hBw : Below w.heap.size w W := bW0
 obtain ⟨zW0, rW0, tW0⟩ := row_cells eW0
 obtain ⟨qW0_0, qW0_1, qW0_2, qW0_3, qW0_4, qW0_5, qW0_6, qW0_7⟩ := rc8 eW0
 clear rW0 tW0 eW0
 have xW0 : w.heap.size ≤ w.heap.size := by omega
 clear bW0 sW0
 have hg := grow_cell W
 go_enter Tryz.func30, Tryz.ntmps30
 go_wp2_with (go_at_call 65; refine Calls.mono (progSpan _ _ _ _ _) ?_; rintro e w1 ⟨(_ | _), rfl, ht, hB⟩ <;> ((first | (obtain ⟨g, rfl⟩ := g.next hB) | (obtain ⟨g, rfl⟩ : ∃ g : Grow W, w1 = g.x := ⟨⟨w1, hB⟩, rfl⟩)); clear hB))
 all_goals
  go_ret
  exact BoolB.mk (by unfold Hid at *; simp [St.ok, *]) (hBw.trans (g.h.mono hBw.size))
theorem refPoint (p : Pt) (w : World) : Calls Tryz.prog 8 #[ptV p] w (BoolB p.ok w) := by
 obtain ⟨W, hW⟩ : ∃ W, w.alloc (.cells #[.int .i64 p.g, .int .i64 p.y, .int .i64 p.t, .int .i64 p.w] 35) = W := ⟨_, rfl⟩
 obtain ⟨eW0, bW0, sW0⟩ := boxed hW
 have hBw : Below w.heap.size w W := bW0
 obtain ⟨zW0, rW0, tW0⟩ := row_cells eW0
 obtain ⟨qW0_0, qW0_1, qW0_2, qW0_3⟩ := rc4 eW0
 clear rW0 tW0 eW0
 have xW0 : w.heap.size ≤ w.heap.size := by omega
 clear bW0 sW0
 have hg := grow_cell W
 go_enter Tryz.func8, Tryz.ntmps8
 go_wp2_with (go_at_call 20; refine Calls.mono (refIn _ _ _ _) ?_; rintro e w1 ⟨(_ | _), rfl, ht, rfl⟩)
 all_goals
  go_ret
  exact BoolB.mk (by unfold Hid at *; simp [Pt.ok, *]) hBw
theorem progPoint (p : Pt) (w : World) : Calls Tryz.prog 31 #[ptV p] w (BoolB p.ok w) := by
 obtain ⟨W, hW⟩ : ∃ W, w.alloc (.cells #[.int .i64 p.g, .int .i64 p.y, .int .i64 p.t, .int .i64 p.w] 35) = W := ⟨_, rfl⟩
 obtain ⟨eW0, bW0, sW0⟩ := boxed hW
 have hBw : Below w.heap.size w W := bW0
 obtain ⟨zW0, rW0, tW0⟩ := row_cells eW0
 obtain ⟨qW0_0, qW0_1, qW0_2, qW0_3⟩ := rc4 eW0
 clear rW0 tW0 eW0
 have xW0 : w.heap.size ≤ w.heap.size := by omega
 clear bW0 sW0
 have hg := grow_cell W
 go_enter Tryz.func31, Tryz.ntmps31
 go_wp2_with (go_at_call 64; refine Calls.mono (progIn _ _ _ _) ?_; rintro e w1 ⟨(_ | _), rfl, ht, rfl⟩)
 all_goals
  go_ret
  exact BoolB.mk (by unfold Hid at *; simp [Pt.ok, *]) hBw
end Go.Proofs.YthjmdagonfeneaaGreat.G
set_option linter.unusedVariables false
set_option linter.unusedSimpArgs false
namespace Go.Proofs.YthjmdagonfeneaaGreat.G
open Go.RowKit Go.Sd Gas
theorem int_ret {k : IntKind} {a b : Int} (h : a = b) : Ending.returned (.int k a) = .returned (.int k b) := by rw [h]
theorem bd_mul {a b A B : Int} (ha : 0 ≤ a ∧ a ≤ A) (hb : 0 ≤ b ∧ b ≤ B) : 0 ≤ a * b ∧ a * b ≤ A * B :=
 ⟨Int.mul_nonneg ha.1 hb.1, Int.mul_le_mul ha.2 hb.2 hb.1 (by omega)⟩
theorem force_bd {c : Cav} {p : Pt} (hc : c.Ok) (hg : 0 ≤ p.g ∧ p.g ≤ 1000000) (hy : 0 ≤ p.y ∧ p.y ≤ 1000000) (ht : 0 ≤ p.t ∧ p.t ≤ 5000) :
    (0 ≤ p.g * c.f0 ∧ p.g * c.f0 ≤ 2000000000) ∧ (0 ≤ p.y * c.f1 ∧ p.y * c.f1 ≤ 2000000000) ∧ (0 ≤ (p.g * c.f0 + p.y * c.f1) * p.t ∧ (p.g * c.f0 + p.y * c.f1) * p.t ≤ 20000000000000) := by
 have a := bd_mul (B := 2000) hg ⟨by have := hc.f0; omega, hc.f0.2⟩
 have b := bd_mul (B := 2000) hy ⟨by have := hc.f1; omega, hc.f1.2⟩
 have d := bd_mul (A := 4000000000) (B := 5000) (a := p.g * c.f0 + p.y * c.f1) ⟨by omega, by omega⟩ ht
 exact ⟨⟨a.1, by omega⟩, ⟨b.1, by omega⟩, ⟨d.1, by omega⟩⟩
theorem refForce (c : Cav) (p : Pt) (w : World) (hc : c.Ok) (hg : 0 ≤ p.g ∧ p.g ≤ 1000000) (hy : 0 ≤ p.y ∧ p.y ≤ 1000000) (ht : 0 ≤ p.t ∧ p.t ≤ 5000) :
    Calls Tryz.prog 84 #[cavV c, ptV p] w fun e w' => e = .returned (.int .i64 (force c p)) ∧ Below w.heap.size w w' := by
 obtain ⟨b1, b2, b3⟩ := force_bd hc hg hy ht
 obtain ⟨W1, hW1⟩ : ∃ W1, w.alloc (.cells #[.int .i64 c.vlo, .int .i64 c.vhi, .int .i64 c.least, .int .i64 c.most, .int .i64 c.f0, .int .i64 c.f1, .int .i64 c.h0, .int .i64 c.h1, .int .i64 c.rock, .int .i64 c.plo, .int .i64 c.phi] 31) = W1 := ⟨_, rfl⟩
 obtain ⟨eW0, bW0, sW0⟩ := boxed hW1
 obtain ⟨W, hW⟩ : ∃ W, W1.alloc (.cells #[.int .i64 p.g, .int .i64 p.y, .int .i64 p.t, .int .i64 p.w] 35) = W := ⟨_, rfl⟩
 obtain ⟨eW1, bW1, sW1⟩ := boxed hW
 replace eW0 := (bW1.block _ (zqo eW0)).trans eW0
 have hBw : Below w.heap.size w W := (by have := sW0; have := sW1; exact (bW0.trans (bW1.mono (by omega))))
 obtain ⟨zW0, rW0, tW0⟩ := row_cells eW0
 obtain ⟨qW0_0, qW0_1, qW0_2, qW0_3, qW0_4, qW0_5, qW0_6, qW0_7, qW0_8, qW0_9, qW0_10⟩ := rc11 eW0
 clear rW0 tW0 eW0
 obtain ⟨zW1, rW1, tW1⟩ := row_cells eW1
 obtain ⟨qW1_0, qW1_1, qW1_2, qW1_3⟩ := rc4 eW1
 clear rW1 tW1 eW1
 have xW0 : w.heap.size ≤ w.heap.size := by omega
 have xW1 : w.heap.size ≤ W1.heap.size := by omega
 clear bW0 sW0 bW1 sW1
 go_enter Tryz.func84, Tryz.ntmps84
 go_wp2
 go_ret
 exact ⟨int_ret rfl, hBw⟩
theorem progPress (c : Cav) (p : Pt) (v : Int) (w : World) (hc : c.Ok) (hg : 0 ≤ p.g ∧ p.g ≤ 1000000) (hy : 0 ≤ p.y ∧ p.y ≤ 1000000) (ht : 0 ≤ p.t ∧ p.t ≤ 5000) (hv : 0 ≤ v ∧ v ≤ 1000000) :
    Calls Tryz.prog 95 #[cavV c, ptV p, .int .i64 v] w fun e w' => e = .returned (.tuple #[.int .i64 (force c p), .int .i64 (v * 10000000)]) ∧ Below w.heap.size w w' := by
 obtain ⟨b1, b2, b3⟩ := force_bd hc hg hy ht
 obtain ⟨W1, hW1⟩ : ∃ W1, w.alloc (.cells #[.int .i64 c.vlo, .int .i64 c.vhi, .int .i64 c.least, .int .i64 c.most, .int .i64 c.f0, .int .i64 c.f1, .int .i64 c.h0, .int .i64 c.h1, .int .i64 c.rock, .int .i64 c.plo, .int .i64 c.phi] 89) = W1 := ⟨_, rfl⟩
 obtain ⟨eW0, bW0, sW0⟩ := boxed hW1
 obtain ⟨W, hW⟩ : ∃ W, W1.alloc (.cells #[.int .i64 p.g, .int .i64 p.y, .int .i64 p.t, .int .i64 p.w] 35) = W := ⟨_, rfl⟩
 obtain ⟨eW1, bW1, sW1⟩ := boxed hW
 replace eW0 := (bW1.block _ (zqo eW0)).trans eW0
 have hBw : Below w.heap.size w W := (by have := sW0; have := sW1; exact (bW0.trans (bW1.mono (by omega))))
 obtain ⟨zW0, rW0, tW0⟩ := row_cells eW0
 obtain ⟨qW0_0, qW0_1, qW0_2, qW0_3, qW0_4, qW0_5, qW0_6, qW0_7, qW0_8, qW0_9, qW0_10⟩ := rc11 eW0
 clear rW0 tW0 eW0
 obtain ⟨zW1, rW1, tW1⟩ := row_cells eW1
 obtain ⟨qW1_0, qW1_1, qW1_2, qW1_3⟩ := rc4 eW1
 clear rW1 tW1 eW1
 have xW0 : w.heap.size ≤ w.heap.size := by omega
 have xW1 : w.heap.size ≤ W1.heap.size := by omega
 clear bW0 sW0 bW1 sW1
 go_enter Tryz.func95, Tryz.ntmps95
 go_wp2
 go_ret2
 exact ⟨rfl, hBw⟩
theorem progLess (a b n : Int) (w : World) (hm : -1000000000000000000 ≤ n * b ∧ n * b ≤ 1000000000000000000) :
    Calls Tryz.prog 97 #[.int .i64 a, .int .i64 b, .int .i64 n] w (BoolS (decide (a < n * b)) w) := by
 go_enter Tryz.func97, Tryz.ntmps97
 go_wp2
 go_ret
 exact BoolS.mk rfl
theorem share_bd {c : Cav} {s : St} (hc : c.Ok) (hs : s.Ok) :
    (0 ≤ c.plo * (s.ghi + s.ylo) ∧ c.plo * (s.ghi + s.ylo) ≤ 2000000000) ∧ (0 ≤ c.phi * (s.glo + s.yhi) ∧ c.phi * (s.glo + s.yhi) ≤ 2000000000) := by
 have := hs.g; have := hs.y; have := hc.pur
 have a := bd_mul (A := 1000) (B := 2000000) (a := c.plo) (b := s.ghi + s.ylo) ⟨by omega, by omega⟩ ⟨by omega, by omega⟩
 have b := bd_mul (A := 1000) (B := 2000000) (a := c.phi) (b := s.glo + s.yhi) ⟨by omega, by omega⟩ ⟨by omega, by omega⟩
 exact ⟨⟨a.1, by omega⟩, ⟨b.1, by omega⟩⟩
theorem gas_bd {s : St} (hs : s.Ok) : (0 ≤ s.glo ∧ s.glo ≤ 1000000) ∧ (0 ≤ s.ghi ∧ s.ghi ≤ 1000000) ∧ (0 ≤ s.ylo ∧ s.ylo ≤ 1000000) ∧ (0 ≤ s.yhi ∧ s.yhi ≤ 1000000) := by
 have := hs.g; have := hs.y
 exact ⟨⟨by omega, by omega⟩, ⟨by omega, by omega⟩, ⟨by omega, by omega⟩, ⟨by omega, by omega⟩⟩
theorem progThin (c : Cav) (s : St) (w : World) (hc : c.Ok) (hs : s.Ok) : Calls Tryz.prog 101 #[cavV c, stV s] w (BoolB (thin c s) w) := by
 obtain ⟨b1, b2⟩ := share_bd hc hs
 obtain ⟨b3, b4, b5, b6⟩ := gas_bd hs
 have b7 := hc.pur
 obtain ⟨W1, hW1⟩ : ∃ W1, w.alloc (.cells #[.int .i64 c.vlo, .int .i64 c.vhi, .int .i64 c.least, .int .i64 c.most, .int .i64 c.f0, .int .i64 c.f1, .int .i64 c.h0, .int .i64 c.h1, .int .i64 c.rock, .int .i64 c.plo, .int .i64 c.phi] 89) = W1 := ⟨_, rfl⟩
 obtain ⟨eW0, bW0, sW0⟩ := boxed hW1
 obtain ⟨W, hW⟩ : ∃ W, W1.alloc (.cells #[.int .i64 s.glo, .int .i64 s.ghi, .int .i64 s.ylo, .int .i64 s.yhi, .int .i64 s.tlo, .int .i64 s.thi, .int .i64 s.wlo, .int .i64 s.whi] 33) = W := ⟨_, rfl⟩
 obtain ⟨eW1, bW1, sW1⟩ := boxed hW
 replace eW0 := (bW1.block _ (zqo eW0)).trans eW0
 have hBw : Below w.heap.size w W := (by have := sW0; have := sW1; exact (bW0.trans (bW1.mono (by omega))))
 obtain ⟨zW0, rW0, tW0⟩ := row_cells eW0
 obtain ⟨qW0_0, qW0_1, qW0_2, qW0_3, qW0_4, qW0_5, qW0_6, qW0_7, qW0_8, qW0_9, qW0_10⟩ := rc11 eW0
 clear rW0 tW0 eW0
 obtain ⟨zW1, rW1, tW1⟩ := row_cells eW1
 obtain ⟨qW1_0, qW1_1, qW1_2, qW1_3, qW1_4, qW1_5, qW1_6, qW1_7⟩ := rc8 eW1
 clear rW1 tW1 eW1
 have xW0 : w.heap.size ≤ w.heap.size := by omega
 have xW1 : w.heap.size ≤ W1.heap.size := by omega
 clear bW0 sW0 bW1 sW1
 go_enter Tryz.func101, Tryz.ntmps101
 go_wp2_with (go_at_call 97; refine Calls.mono (progLess _ _ _ _ ?_) ?_; (first | omega | (rw [Int.neg_mul]; omega)); rintro e w1 ⟨t, rfl, ht, rfl⟩)
 go_ret
 exact BoolB.mk (by unfold Hid at ht; rw [← ht]; rfl) hBw
theorem progRich (c : Cav) (s : St) (w : World) (hc : c.Ok) (hs : s.Ok) : Calls Tryz.prog 103 #[cavV c, stV s] w (BoolB (rich c s) w) := by
 obtain ⟨b1, b2⟩ := share_bd hc hs
 obtain ⟨b3, b4, b5, b6⟩ := gas_bd hs
 have b7 := hc.pur
 obtain ⟨W1, hW1⟩ : ∃ W1, w.alloc (.cells #[.int .i64 c.vlo, .int .i64 c.vhi, .int .i64 c.least, .int .i64 c.most, .int .i64 c.f0, .int .i64 c.f1, .int .i64 c.h0, .int .i64 c.h1, .int .i64 c.rock, .int .i64 c.plo, .int .i64 c.phi] 89) = W1 := ⟨_, rfl⟩
 obtain ⟨eW0, bW0, sW0⟩ := boxed hW1
 obtain ⟨W, hW⟩ : ∃ W, W1.alloc (.cells #[.int .i64 s.glo, .int .i64 s.ghi, .int .i64 s.ylo, .int .i64 s.yhi, .int .i64 s.tlo, .int .i64 s.thi, .int .i64 s.wlo, .int .i64 s.whi] 33) = W := ⟨_, rfl⟩
 obtain ⟨eW1, bW1, sW1⟩ := boxed hW
 replace eW0 := (bW1.block _ (zqo eW0)).trans eW0
 have hBw : Below w.heap.size w W := (by have := sW0; have := sW1; exact (bW0.trans (bW1.mono (by omega))))
 obtain ⟨zW0, rW0, tW0⟩ := row_cells eW0
 obtain ⟨qW0_0, qW0_1, qW0_2, qW0_3, qW0_4, qW0_5, qW0_6, qW0_7, qW0_8, qW0_9, qW0_10⟩ := rc11 eW0
 clear rW0 tW0 eW0
 obtain ⟨zW1, rW1, tW1⟩ := row_cells eW1
 obtain ⟨qW1_0, qW1_1, qW1_2, qW1_3, qW1_4, qW1_5, qW1_6, qW1_7⟩ := rc8 eW1
 clear rW1 tW1 eW1
 have xW0 : w.heap.size ≤ w.heap.size := by omega
 have xW1 : w.heap.size ≤ W1.heap.size := by omega
 clear bW0 sW0 bW1 sW1
 go_enter Tryz.func103, Tryz.ntmps103
 go_wp2_with (go_at_call 97; refine Calls.mono (progLess _ _ _ _ ?_) ?_; (first | omega | (rw [Int.neg_mul]; omega)); rintro e w1 ⟨t, rfl, ht, rfl⟩)
 go_ret
 exact BoolB.mk (by unfold Hid at ht; rw [← ht]; unfold rich; rw [Bool.eq_iff_iff]; simp only [decide_eq_true_eq, Int.neg_mul]; omega) hBw
theorem progPart (m n d : Int) (w : World) (h0 : 0 ≤ m * n ∧ m * n ≤ 1000000000000000000) (hd : 0 ≤ d ∧ d ≤ 1000000000000) :
    Calls Tryz.prog 107 #[.int .i64 m, .int .i64 n, .int .i64 d] w fun e w' => e = .returned (.int .i64 (Gas.part m n d)) ∧ w = w' := by
 by_cases hz : d = 0
 · subst hz
   go_enter Tryz.func107, Tryz.ntmps107
   go_wp2
   go_ret
   exact ⟨int_ret (by simp [Gas.part]), rfl⟩
 · have hq : Gas.part m n d = m * n / d := by unfold Gas.part; rw [if_neg hz]
   have hq0 : 0 ≤ m * n / d := Int.ediv_nonneg h0.1 hd.1
   have hq1 : m * n / d ≤ m * n := Int.ediv_le_self _ h0.1
   replace hq := Lib.hid hq
   have ht : (m * n).tdiv d = m * n / d := Int.tdiv_eq_ediv_of_nonneg h0.1
   replace ht := Lib.hid ht
   go_enter Tryz.func107, Tryz.ntmps107
   go_wp2
   go_ret
   exact ⟨int_ret (by rw [hq.out]), rfl⟩
end Go.Proofs.YthjmdagonfeneaaGreat.G
set_option linter.unusedVariables false
set_option linter.unusedSimpArgs false
namespace Go.Proofs.YthjmdagonfeneaaGreat.G
open Go.RowKit Go.Sd Gas
theorem progLowest (s : St) (w : World) : Calls Tryz.prog 96 #[stV s] w fun e w' => e = .returned (ptV s.low) ∧ Below w.heap.size w w' := by
 obtain ⟨W1, hW1⟩ : ∃ W1, w.alloc (.cells #[.int .i64 s.glo, .int .i64 s.ghi, .int .i64 s.ylo, .int .i64 s.yhi, .int .i64 s.tlo, .int .i64 s.thi, .int .i64 s.wlo, .int .i64 s.whi] 33) = W1 := ⟨_, rfl⟩
 obtain ⟨eW0, bW0, sW0⟩ := boxed hW1
 obtain ⟨W, hW⟩ : ∃ W, W1.alloc (.cells #[.int .i64 0, .int .i64 0, .int .i64 0, .int .i64 0] 35) = W := ⟨_, rfl⟩
 obtain ⟨eW1, bW1, sW1⟩ := boxed hW
 replace eW0 := (bW1.block _ (zqo eW0)).trans eW0
 have hBw : Below w.heap.size w W := (by have := sW0; have := sW1; exact (bW0.trans (bW1.mono (by omega))))
 obtain ⟨zW0, rW0, tW0⟩ := row_cells eW0
 obtain ⟨qW0_0, qW0_1, qW0_2, qW0_3, qW0_4, qW0_5, qW0_6, qW0_7⟩ := rc8 eW0
 obtain ⟨fW0_0, fW0_1, fW0_2, fW0_3, fW0_4, fW0_5, fW0_6, fW0_7⟩ := rf8 eW0
 clear rW0 tW0 eW0
 obtain ⟨zW1, rW1, tW1⟩ := row_cells eW1
 obtain ⟨qW1_0, qW1_1, qW1_2, qW1_3⟩ := rc4 eW1
 obtain ⟨fW1_0, fW1_1, fW1_2, fW1_3⟩ := rf4 eW1
 clear rW1 tW1 eW1
 have xW0 : w.heap.size ≤ w.heap.size := by omega
 have xW1 : w.heap.size ≤ W1.heap.size := by omega
 clear bW0 sW0 bW1 sW1
 go_enter Tryz.func96, Tryz.ntmps96
 go_wp2
 refine bodyPost_ret (v := ptV s.low) (by simp [results, Tryz.results96, go_sem, St.low, *]) rfl ⟨rfl, ?_⟩
 repeat' (first | exact hBw | exact xW1 | refine Below.setCell ?_ ?_ _)
theorem progHighest (s : St) (w : World) : Calls Tryz.prog 99 #[stV s] w fun e w' => e = .returned (ptV s.high) ∧ Below w.heap.size w w' := by
 obtain ⟨W1, hW1⟩ : ∃ W1, w.alloc (.cells #[.int .i64 s.glo, .int .i64 s.ghi, .int .i64 s.ylo, .int .i64 s.yhi, .int .i64 s.tlo, .int .i64 s.thi, .int .i64 s.wlo, .int .i64 s.whi] 33) = W1 := ⟨_, rfl⟩
 obtain ⟨eW0, bW0, sW0⟩ := boxed hW1
 obtain ⟨W, hW⟩ : ∃ W, W1.alloc (.cells #[.int .i64 0, .int .i64 0, .int .i64 0, .int .i64 0] 35) = W := ⟨_, rfl⟩
 obtain ⟨eW1, bW1, sW1⟩ := boxed hW
 replace eW0 := (bW1.block _ (zqo eW0)).trans eW0
 have hBw : Below w.heap.size w W := (by have := sW0; have := sW1; exact (bW0.trans (bW1.mono (by omega))))
 obtain ⟨zW0, rW0, tW0⟩ := row_cells eW0
 obtain ⟨qW0_0, qW0_1, qW0_2, qW0_3, qW0_4, qW0_5, qW0_6, qW0_7⟩ := rc8 eW0
 obtain ⟨fW0_0, fW0_1, fW0_2, fW0_3, fW0_4, fW0_5, fW0_6, fW0_7⟩ := rf8 eW0
 clear rW0 tW0 eW0
 obtain ⟨zW1, rW1, tW1⟩ := row_cells eW1
 obtain ⟨qW1_0, qW1_1, qW1_2, qW1_3⟩ := rc4 eW1
 obtain ⟨fW1_0, fW1_1, fW1_2, fW1_3⟩ := rf4 eW1
 clear rW1 tW1 eW1
 have xW0 : w.heap.size ≤ w.heap.size := by omega
 have xW1 : w.heap.size ≤ W1.heap.size := by omega
 clear bW0 sW0 bW1 sW1
 go_enter Tryz.func99, Tryz.ntmps99
 go_wp2
 refine bodyPost_ret (v := ptV s.high) (by simp [results, Tryz.results99, go_sem, St.high, *]) rfl ⟨rfl, ?_⟩
 repeat' (first | exact hBw | exact xW1 | refine Below.setCell ?_ ?_ _)
end Go.Proofs.YthjmdagonfeneaaGreat.G
set_option linter.unusedVariables false
set_option linter.unusedSimpArgs false
namespace Go.Proofs.YthjmdagonfeneaaGreat.G
open Go.RowKit Go.Sd Gas
def rndB (c : Cav) (k : Nat) : Bool := match k with
 | 0 => true
 | 1 => inB c.f0 500 2000 && inB c.h0 1 100
 | _ => (inB c.f0 500 2000 && inB c.h0 1 100) && (inB c.f1 500 2000 && inB c.h1 1 100)
theorem ok_rnd {c : Cav} {k : Nat} (h : rndB c k = false) : c.ok = false := by
 match k with
 | 0 => cases h
 | 1 => simp only [rndB] at h; simp [Cav.ok, h]
 | k + 2 => simp only [rndB] at h; simp [Cav.ok, h]
theorem refCavern (c : Cav) (w : World) : Calls Tryz.prog 6 #[cavV c] w (BoolB c.ok w) := by
 obtain ⟨W, hW⟩ : ∃ W, w.alloc (.cells #[.int .i64 c.vlo, .int .i64 c.vhi, .int .i64 c.least, .int .i64 c.most, .int .i64 c.f0, .int .i64 c.f1, .int .i64 c.h0, .int .i64 c.h1, .int .i64 c.rock, .int .i64 c.plo, .int .i64 c.phi] 31) = W := ⟨_, rfl⟩
 obtain ⟨eW0, bW0, sW0⟩ := boxed hW
 have hBw : Below w.heap.size w W := bW0
 obtain ⟨zW0, rW0, tW0⟩ := row_cells eW0
 obtain ⟨qW0_0, qW0_1, qW0_2, qW0_3, qW0_4, qW0_5, qW0_6, qW0_7, qW0_8, qW0_9, qW0_10⟩ := rc11 eW0
 clear rW0 tW0 eW0
 have xW0 : w.heap.size ≤ w.heap.size := by omega
 clear bW0 sW0
 have hg := grow_cell W
 go_enter Tryz.func6, Tryz.ntmps6
 go_wp2
 go_loopw [3] (fun i wr => ∃ g : Grow W, wr = g.x ∧ ((i = .int .i64 0 ∧ Hid True) ∨ (i = .int .i64 1 ∧ Hid (rndB c 1 = true)) ∨ (i = .int .i64 2 ∧ Hid (rndB c 2 = true)))) (fun i _ => (2 - intOf i).toNat)
 case atStart => exact ⟨Grow.self W, rfl, .inl ⟨rfl, trivial⟩⟩
 case round =>
  obtain ⟨g, rfl, (⟨rfl, hH⟩ | ⟨rfl, hH⟩ | ⟨rfl, hH⟩)⟩ := hrel
  · go_wp2_with (go_at_call 20; refine Calls.mono (refIn _ _ _ _) ?_; rintro e w1 ⟨(_ | _), rfl, ht, rfl⟩)
    · go_ret
      exact BoolB.mk (ok_rnd (k := 1) (by unfold Hid at *; simp [rndB, *])) (hBw.trans (g.h.mono hBw.size))
    · go_ret
      exact BoolB.mk (ok_rnd (k := 1) (by unfold Hid at *; simp [rndB, *])) (hBw.trans (g.h.mono hBw.size))
    · exact ⟨⟨g, rfl, .inr (.inl ⟨rfl, by unfold Hid at *; simp [rndB, *]⟩)⟩, by simp [intOf]⟩
  · go_wp2_with (go_at_call 20; refine Calls.mono (refIn _ _ _ _) ?_; rintro e w1 ⟨(_ | _), rfl, ht, rfl⟩)
    · go_ret
      exact BoolB.mk (ok_rnd (k := 2) (by unfold Hid at *; simp [rndB, *])) (hBw.trans (g.h.mono hBw.size))
    · go_ret
      exact BoolB.mk (ok_rnd (k := 2) (by unfold Hid at *; simp [rndB, *])) (hBw.trans (g.h.mono hBw.size))
    · exact ⟨⟨g, rfl, .inr (.inr ⟨rfl, by unfold Hid at *; simp only [rndB] at *; simp [*]⟩)⟩, by simp [intOf]⟩
  · go_wp2_with (first | (go_at_call 20; refine Calls.mono (refIn _ _ _ _) ?_; rintro e w1 ⟨(_ | _), rfl, ht, rfl⟩) | (go_at_call 21; refine Calls.mono (refSpan _ _ _ _ _) ?_; rintro e w1 ⟨(_ | _), rfl, ht, hB⟩ <;> ((first | (obtain ⟨g, rfl⟩ := g.next hB) | (obtain ⟨g, rfl⟩ : ∃ g : Grow W, w1 = g.x := ⟨⟨w1, hB⟩, rfl⟩)); clear hB)))
    all_goals
     go_ret
     exact BoolB.mk (by unfold Hid at *; simp only [rndB] at *; simp [Cav.ok, *]) (hBw.trans (g.h.mono hBw.size))
theorem progValid (c : Cav) (w : World) : Calls Tryz.prog 29 #[cavV c] w (BoolB c.ok w) := by
 obtain ⟨W, hW⟩ : ∃ W, w.alloc (.cells #[.int .i64 c.vlo, .int .i64 c.vhi, .int .i64 c.least, .int .i64 c.most, .int .i64 c.f0, .int .i64 c.f1, .int .i64 c.h0, .int .i64 c.h1, .int .i64 c.rock, .int .i64 c.plo, .int .i64 c.phi] 89) = W := ⟨_, rfl⟩
 obtain ⟨eW0, bW0, sW0⟩ := boxed hW
 have hBw : Below w.heap.size w W := bW0
 obtain ⟨zW0, rW0, tW0⟩ := row_cells eW0
 obtain ⟨qW0_0, qW0_1, qW0_2, qW0_3, qW0_4, qW0_5, qW0_6, qW0_7, qW0_8, qW0_9, qW0_10⟩ := rc11 eW0
 clear rW0 tW0 eW0
 have xW0 : w.heap.size ≤ w.heap.size := by omega
 clear bW0 sW0
 have hg := grow_cell W
 go_enter Tryz.func29, Tryz.ntmps29
 go_wp2
 go_loopw [3, 4] (fun _ i wr => ∃ g : Grow W, wr = g.x ∧ ((i = .int .i64 0 ∧ Hid True) ∨ (i = .int .i64 1 ∧ Hid (rndB c 1 = true)) ∨ (i = .int .i64 2 ∧ Hid (rndB c 2 = true)))) (fun _ i _ => (2 - intOf i).toNat)
 case atStart => exact ⟨Grow.self W, rfl, .inl ⟨rfl, trivial⟩⟩
 case round =>
  obtain ⟨g, rfl, (⟨rfl, hH⟩ | ⟨rfl, hH⟩ | ⟨rfl, hH⟩)⟩ := hrel
  · go_wp2_with (go_at_call 64; refine Calls.mono (progIn _ _ _ _) ?_; rintro e w1 ⟨(_ | _), rfl, ht, rfl⟩)
    · go_ret
      exact BoolB.mk (ok_rnd (k := 1) (by unfold Hid at *; simp [rndB, *])) (hBw.trans (g.h.mono hBw.size))
    · go_ret
      exact BoolB.mk (ok_rnd (k := 1) (by unfold Hid at *; simp [rndB, *])) (hBw.trans (g.h.mono hBw.size))
    · exact ⟨⟨g, rfl, .inr (.inl ⟨rfl, by unfold Hid at *; simp [rndB, *]⟩)⟩, by simp [intOf]⟩
  · go_wp2_with (go_at_call 64; refine Calls.mono (progIn _ _ _ _) ?_; rintro e w1 ⟨(_ | _), rfl, ht, rfl⟩)
    · go_ret
      exact BoolB.mk (ok_rnd (k := 2) (by unfold Hid at *; simp [rndB, *])) (hBw.trans (g.h.mono hBw.size))
    · go_ret
      exact BoolB.mk (ok_rnd (k := 2) (by unfold Hid at *; simp [rndB, *])) (hBw.trans (g.h.mono hBw.size))
    · exact ⟨⟨g, rfl, .inr (.inr ⟨rfl, by unfold Hid at *; simp only [rndB] at *; simp [*]⟩)⟩, by simp [intOf]⟩
  · go_wp2_with (first | (go_at_call 64; refine Calls.mono (progIn _ _ _ _) ?_; rintro e w1 ⟨(_ | _), rfl, ht, rfl⟩) | (go_at_call 65; refine Calls.mono (progSpan _ _ _ _ _) ?_; rintro e w1 ⟨(_ | _), rfl, ht, hB⟩ <;> ((first | (obtain ⟨g, rfl⟩ := g.next hB) | (obtain ⟨g, rfl⟩ : ∃ g : Grow W, w1 = g.x := ⟨⟨w1, hB⟩, rfl⟩)); clear hB)))
    all_goals
     go_ret
     exact BoolB.mk (by unfold Hid at *; simp only [rndB] at *; simp [Cav.ok, *]) (hBw.trans (g.h.mono hBw.size))
end Go.Proofs.YthjmdagonfeneaaGreat.G
set_option linter.unusedVariables false
set_option linter.unusedSimpArgs false
namespace Go.Proofs.YthjmdagonfeneaaGreat.G
open Go.RowKit Go.Sd Gas
theorem progOp (o : Gas.Op) (w : World) : Calls Tryz.prog 59 #[opV o] w (BoolB o.ok w) := by
 obtain ⟨k, lg, ly, lt, lw, m, a, b, x, y⟩ := o
 by_cases h1 : k = 1
 · subst h1
   obtain ⟨W1, hW1⟩ : ∃ W1, w.alloc (.cells #[.int .i64 1, .int .i64 lg, .int .i64 ly, .int .i64 lt, .int .i64 lw, .int .i64 m, .int .i64 a, .int .i64 b, .int .i64 x, .int .i64 y] 83) = W1 := ⟨_, rfl⟩
   obtain ⟨eW0, bW0, sW0⟩ := boxed hW1
   have yW0_0 : w.heap.size < W1.heap.size := by omega
   obtain ⟨mW0_0_0, mW0_0_1, mW0_0_2, mW0_0_3, mW0_0_4, mW0_0_5, mW0_0_6, mW0_0_7, mW0_0_8, mW0_0_9⟩ := rc10 eW0
   obtain ⟨W, hW⟩ : ∃ W, W1.alloc (.cells #[.int .i64 1, .int .i64 0, .int .i64 0, .int .i64 0, .int .i64 0, .int .i64 m, .int .i64 a, .int .i64 b, .int .i64 x, .int .i64 y] 83) = W := ⟨_, rfl⟩
   obtain ⟨eW1, bW1, sW1⟩ := boxed hW
   replace eW0 := (bW1.block _ (zqo eW0)).trans eW0
   have hBw : Below w.heap.size w W := (by have := sW0; have := sW1; exact (bW0.trans (bW1.mono (by omega))))
   obtain ⟨zW0, rW0, tW0⟩ := row_cells eW0
   obtain ⟨qW0_0, qW0_1, qW0_2, qW0_3, qW0_4, qW0_5, qW0_6, qW0_7, qW0_8, qW0_9⟩ := rc10 eW0
   obtain ⟨fW0_0, fW0_1, fW0_2, fW0_3, fW0_4, fW0_5, fW0_6, fW0_7, fW0_8, fW0_9⟩ := rf10 eW0
   clear rW0 tW0 eW0
   obtain ⟨zW1, rW1, tW1⟩ := row_cells eW1
   obtain ⟨qW1_0, qW1_1, qW1_2, qW1_3, qW1_4, qW1_5, qW1_6, qW1_7, qW1_8, qW1_9⟩ := rc10 eW1
   obtain ⟨fW1_0, fW1_1, fW1_2, fW1_3, fW1_4, fW1_5, fW1_6, fW1_7, fW1_8, fW1_9⟩ := rf10 eW1
   clear rW1 tW1 eW1
   have xW0 : w.heap.size ≤ w.heap.size := by omega
   have xW1 : w.heap.size ≤ W1.heap.size := by omega
   clear bW0 sW0 bW1 sW1
   have hg := grow_cell W
   go_enter Tryz.func59, Tryz.ntmps59
   go_wp2_with (first | (go_at_call 64; refine Calls.mono (progIn _ _ _ _) ?_; rintro e w1 ⟨(_ | _), rfl, ht, rfl⟩) | (go_at_call 65; refine Calls.mono (progSpan _ _ _ _ _) ?_; rintro e w1 ⟨(_ | _), rfl, ht, hB⟩ <;> ((first | (obtain ⟨g, rfl⟩ := g.next hB) | (obtain ⟨g, rfl⟩ : ∃ g : Grow W, w1 = g.x := ⟨⟨w1, hB⟩, rfl⟩)); clear hB)) | (go_at_call 31; refine Calls.mono (progPoint ⟨_, _, _, _⟩ _) ?_; rintro e w1 ⟨(_ | _), rfl, ht, hB⟩ <;> ((first | (obtain ⟨g, rfl⟩ := g.next hB) | (obtain ⟨g, rfl⟩ : ∃ g : Grow W, w1 = g.x := ⟨⟨w1, hB⟩, rfl⟩)); clear hB)))
   all_goals
    go_ret
    refine BoolB.mk ?_ (by first | exact hBw | exact hBw.trans (g.h.mono hBw.size))
    clear mW0_0_0 mW0_0_1 mW0_0_2 mW0_0_3 mW0_0_4 mW0_0_5 mW0_0_6 mW0_0_7 mW0_0_8 mW0_0_9 qW0_0 qW0_1 qW0_2 qW0_3 qW0_4 qW0_5 qW0_6 qW0_7 qW0_8 qW0_9 fW0_0 fW0_1 fW0_2 fW0_3 fW0_4 fW0_5 fW0_6 fW0_7 fW0_8 fW0_9 qW1_0 qW1_1 qW1_2 qW1_3 qW1_4 qW1_5 qW1_6 qW1_7 qW1_8 qW1_9 fW1_0 fW1_1 fW1_2 fW1_3 fW1_4 fW1_5 fW1_6 fW1_7 fW1_8 fW1_9 hW1 hW hg
    (try unfold Hid at *); simp [Gas.Op.ok, Gas.Op.lot, *]
 by_cases h2 : k = 2
 · subst h2
   clear h1
   obtain ⟨W1, hW1⟩ : ∃ W1, w.alloc (.cells #[.int .i64 2, .int .i64 lg, .int .i64 ly, .int .i64 lt, .int .i64 lw, .int .i64 m, .int .i64 a, .int .i64 b, .int .i64 x, .int .i64 y] 83) = W1 := ⟨_, rfl⟩
   obtain ⟨eW0, bW0, sW0⟩ := boxed hW1
   have yW0_0 : w.heap.size < W1.heap.size := by omega
   obtain ⟨mW0_0_0, mW0_0_1, mW0_0_2, mW0_0_3, mW0_0_4, mW0_0_5, mW0_0_6, mW0_0_7, mW0_0_8, mW0_0_9⟩ := rc10 eW0
   obtain ⟨W, hW⟩ : ∃ W, W1.alloc (.cells #[.int .i64 2, .int .i64 lg, .int .i64 ly, .int .i64 lt, .int .i64 lw, .int .i64 0, .int .i64 a, .int .i64 b, .int .i64 x, .int .i64 y] 83) = W := ⟨_, rfl⟩
   obtain ⟨eW1, bW1, sW1⟩ := boxed hW
   replace eW0 := (bW1.block _ (zqo eW0)).trans eW0
   have hBw : Below w.heap.size w W := (by have := sW0; have := sW1; exact (bW0.trans (bW1.mono (by omega))))
   obtain ⟨zW0, rW0, tW0⟩ := row_cells eW0
   obtain ⟨qW0_0, qW0_1, qW0_2, qW0_3, qW0_4, qW0_5, qW0_6, qW0_7, qW0_8, qW0_9⟩ := rc10 eW0
   obtain ⟨fW0_0, fW0_1, fW0_2, fW0_3, fW0_4, fW0_5, fW0_6, fW0_7, fW0_8, fW0_9⟩ := rf10 eW0
   clear rW0 tW0 eW0
   obtain ⟨zW1, rW1, tW1⟩ := row_cells eW1
   obtain ⟨qW1_0, qW1_1, qW1_2, qW1_3, qW1_4, qW1_5, qW1_6, qW1_7, qW1_8, qW1_9⟩ := rc10 eW1
   obtain ⟨fW1_0, fW1_1, fW1_2, fW1_3, fW1_4, fW1_5, fW1_6, fW1_7, fW1_8, fW1_9⟩ := rf10 eW1
   clear rW1 tW1 eW1
   have xW0 : w.heap.size ≤ w.heap.size := by omega
   have xW1 : w.heap.size ≤ W1.heap.size := by omega
   clear bW0 sW0 bW1 sW1
   have hg := grow_cell W
   go_enter Tryz.func59, Tryz.ntmps59
   go_wp2_with (first | (go_at_call 64; refine Calls.mono (progIn _ _ _ _) ?_; rintro e w1 ⟨(_ | _), rfl, ht, rfl⟩) | (go_at_call 65; refine Calls.mono (progSpan _ _ _ _ _) ?_; rintro e w1 ⟨(_ | _), rfl, ht, hB⟩ <;> ((first | (obtain ⟨g, rfl⟩ := g.next hB) | (obtain ⟨g, rfl⟩ : ∃ g : Grow W, w1 = g.x := ⟨⟨w1, hB⟩, rfl⟩)); clear hB)) | (go_at_call 31; refine Calls.mono (progPoint ⟨_, _, _, _⟩ _) ?_; rintro e w1 ⟨(_ | _), rfl, ht, hB⟩ <;> ((first | (obtain ⟨g, rfl⟩ := g.next hB) | (obtain ⟨g, rfl⟩ : ∃ g : Grow W, w1 = g.x := ⟨⟨w1, hB⟩, rfl⟩)); clear hB)))
   all_goals
    go_ret
    refine BoolB.mk ?_ (by first | exact hBw | exact hBw.trans (g.h.mono hBw.size))
    clear mW0_0_0 mW0_0_1 mW0_0_2 mW0_0_3 mW0_0_4 mW0_0_5 mW0_0_6 mW0_0_7 mW0_0_8 mW0_0_9 qW0_0 qW0_1 qW0_2 qW0_3 qW0_4 qW0_5 qW0_6 qW0_7 qW0_8 qW0_9 fW0_0 fW0_1 fW0_2 fW0_3 fW0_4 fW0_5 fW0_6 fW0_7 fW0_8 fW0_9 qW1_0 qW1_1 qW1_2 qW1_3 qW1_4 qW1_5 qW1_6 qW1_7 qW1_8 qW1_9 fW1_0 fW1_1 fW1_2 fW1_3 fW1_4 fW1_5 fW1_6 fW1_7 fW1_8 fW1_9 hW1 hW hg
    (try unfold Hid at *); simp [Gas.Op.ok, Gas.Op.lot, *]
 by_cases h3 : k = 3
 · subst h3
   clear h1 h2
   obtain ⟨W1, hW1⟩ : ∃ W1, w.alloc (.cells #[.int .i64 3, .int .i64 lg, .int .i64 ly, .int .i64 lt, .int .i64 lw, .int .i64 m, .int .i64 a, .int .i64 b, .int .i64 x, .int .i64 y] 83) = W1 := ⟨_, rfl⟩
   obtain ⟨eW0, bW0, sW0⟩ := boxed hW1
   have yW0_0 : w.heap.size < W1.heap.size := by omega
   obtain ⟨mW0_0_0, mW0_0_1, mW0_0_2, mW0_0_3, mW0_0_4, mW0_0_5, mW0_0_6, mW0_0_7, mW0_0_8, mW0_0_9⟩ := rc10 eW0
   obtain ⟨W, hW⟩ : ∃ W, W1.alloc (.cells #[.int .i64 3, .int .i64 lg, .int .i64 ly, .int .i64 lt, .int .i64 lw, .int .i64 m, .int .i64 0, .int .i64 0, .int .i64 0, .int .i64 0] 83) = W := ⟨_, rfl⟩
   obtain ⟨eW1, bW1, sW1⟩ := boxed hW
   replace eW0 := (bW1.block _ (zqo eW0)).trans eW0
   have hBw : Below w.heap.size w W := (by have := sW0; have := sW1; exact (bW0.trans (bW1.mono (by omega))))
   obtain ⟨zW0, rW0, tW0⟩ := row_cells eW0
   obtain ⟨qW0_0, qW0_1, qW0_2, qW0_3, qW0_4, qW0_5, qW0_6, qW0_7, qW0_8, qW0_9⟩ := rc10 eW0
   obtain ⟨fW0_0, fW0_1, fW0_2, fW0_3, fW0_4, fW0_5, fW0_6, fW0_7, fW0_8, fW0_9⟩ := rf10 eW0
   clear rW0 tW0 eW0
   obtain ⟨zW1, rW1, tW1⟩ := row_cells eW1
   obtain ⟨qW1_0, qW1_1, qW1_2, qW1_3, qW1_4, qW1_5, qW1_6, qW1_7, qW1_8, qW1_9⟩ := rc10 eW1
   obtain ⟨fW1_0, fW1_1, fW1_2, fW1_3, fW1_4, fW1_5, fW1_6, fW1_7, fW1_8, fW1_9⟩ := rf10 eW1
   clear rW1 tW1 eW1
   have xW0 : w.heap.size ≤ w.heap.size := by omega
   have xW1 : w.heap.size ≤ W1.heap.size := by omega
   clear bW0 sW0 bW1 sW1
   have hg := grow_cell W
   replace hW := Lib.hid hW
   go_enter Tryz.func59, Tryz.ntmps59
   go_wp2_with (go_at_call 65; (try rw [hW.out]); refine Calls.mono (progSpan _ _ _ _ _) ?_; rintro e w1 ⟨(_ | _), rfl, ht, hB⟩ <;> ((first | (obtain ⟨g, rfl⟩ := g.next hB) | (obtain ⟨g, rfl⟩ : ∃ g : Grow W, w1 = g.x := ⟨⟨w1, hB⟩, rfl⟩)); clear hB))
   all_goals
    go_ret
    refine BoolB.mk ?_ (by first | exact hBw | exact hBw.trans (g.h.mono hBw.size))
    clear mW0_0_0 mW0_0_1 mW0_0_2 mW0_0_3 mW0_0_4 mW0_0_5 mW0_0_6 mW0_0_7 mW0_0_8 mW0_0_9 qW0_0 qW0_1 qW0_2 qW0_3 qW0_4 qW0_5 qW0_6 qW0_7 qW0_8 qW0_9 fW0_0 fW0_1 fW0_2 fW0_3 fW0_4 fW0_5 fW0_6 fW0_7 fW0_8 fW0_9 qW1_0 qW1_1 qW1_2 qW1_3 qW1_4 qW1_5 qW1_6 qW1_7 qW1_8 qW1_9 fW1_0 fW1_1 fW1_2 fW1_3 fW1_4 fW1_5 fW1_6 fW1_7 fW1_8 fW1_9 hW1 hW hg
    (try unfold Hid at *); simp [Gas.Op.ok, Gas.Op.lot, *]
 · go_enter Tryz.func59, Tryz.ntmps59
   go_wp2_with (fail)
   go_ret
   exact BoolB.mk (by simp [Gas.Op.ok, h1, h2, h3]) (below_al (below_al (Below.refl _ _) _) _)
end Go.Proofs.YthjmdagonfeneaaGreat.G
