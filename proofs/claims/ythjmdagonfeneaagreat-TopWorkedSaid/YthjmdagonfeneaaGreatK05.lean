/- Laws and walks: GRul, GOwn. -/
import Derived.Laws.EntriesVeiled
import Derived.Maps.AppendAt
import Derived.OwnWalk
import Derived.Laws.MakeOwn
import Derived.Test.YthjmdagonfeneaaGreatK04
set_option maxRecDepth 100000
set_option maxHeartbeats 16000000
set_option linter.unusedVariables false
set_option linter.unusedSimpArgs false
namespace Go.Proofs.YthjmdagonfeneaaGreat.G
open Go.RowKit Go.Sd Gas
def rul1 (c : Cav) (s : St) : Bool := decide (force c s.low < c.least * c.vhi * 10000000)
def rul2 (c : Cav) (s : St) : Bool := decide (force c s.high > c.most * c.vlo * 10000000)
theorem BoolB.lit {b t : Bool} {w w' : World} {e : Ending} (h : BoolB b w e w') (hb : b = t) : e = .returned (.bool t) ∧ Below w.heap.size w w' := by
 obtain ⟨t', rfl, ht, hB⟩ := h
 exact ⟨by rw [← hb, ← ht.out], hB⟩
theorem press_bd {c : Cav} (hc : c.Ok) : (0 ≤ c.least * (c.vhi * 10000000) ∧ c.least * (c.vhi * 10000000) ≤ 1000000000000000000) ∧ (0 ≤ c.most * (c.vlo * 10000000) ∧ c.most * (c.vlo * 10000000) ≤ 1000000000000000000) := by
 have := hc.v; have := hc.p
 have a := bd_mul (A := 100000) (B := 10000000000000) (a := c.least) (b := c.vhi * 10000000) ⟨by omega, by omega⟩ ⟨by omega, by omega⟩
 have b := bd_mul (A := 100000) (B := 10000000000000) (a := c.most) (b := c.vlo * 10000000) ⟨by omega, by omega⟩ ⟨by omega, by omega⟩
 exact ⟨⟨a.1, by omega⟩, ⟨b.1, by omega⟩⟩
theorem progRule1 {bc bs : Nat} (c : Cav) (s : St) (w : World) (hc : c.Ok) (hs : s.Ok) (ec : w.heap[bc]? = some (.cells #[.int .i64 c.vlo, .int .i64 c.vhi, .int .i64 c.least, .int .i64 c.most, .int .i64 c.f0, .int .i64 c.f1, .int .i64 c.h0, .int .i64 c.h1, .int .i64 c.rock, .int .i64 c.plo, .int .i64 c.phi] 89 (0, 0))) (es : w.heap[bs]? = some (.cells #[.int .i64 s.glo, .int .i64 s.ghi, .int .i64 s.ylo, .int .i64 s.yhi, .int .i64 s.tlo, .int .i64 s.thi, .int .i64 s.wlo, .int .i64 s.whi] 33 (0, 0))) :
    Calls Tryz.prog 94 #[.pointer (some ⟨bc, 0, none⟩), .pointer (some ⟨bs, 0, none⟩)] w (BoolB (rul1 c s) w) := by
 obtain ⟨zc, rc, tc⟩ := row_cells ec
 obtain ⟨qc_0, qc_1, qc_2, qc_3, qc_4, qc_5, qc_6, qc_7, qc_8, qc_9, qc_10⟩ := rc11 ec
 clear rc tc
 obtain ⟨zs, rs, ts⟩ := row_cells es
 obtain ⟨qs_0, qs_1, qs_2, qs_3, qs_4, qs_5, qs_6, qs_7⟩ := rc8 es
 clear rs ts
 obtain ⟨g1, g2, g3, g4⟩ := gas_bd hs
 have hst := hs.t; have hv := hc.v; have hp := hc.p
 obtain ⟨p1, p2⟩ := press_bd hc
 have kF := Lib.hid (force_bd (p := s.low) hc g1 g3 (by constructor <;> simp only [St.low, St.high] <;> omega))
 have kL := Lib.hid (fun w => progLowest s w)
 have kP : Hid (∀ w, Calls Tryz.prog 95 #[cavV c, ptV s.low, .int .i64 c.vhi] w fun e w' => e = .returned (.tuple #[.int .i64 (force c s.low), .int .i64 (c.vhi * 10000000)]) ∧ Below w.heap.size w w') := Lib.hid (fun w => progPress c s.low c.vhi w hc g1 g3 (by constructor <;> simp only [St.low, St.high] <;> omega) (by omega))
 have hF : -400000000000000000 ≤ force c s.low ∧ force c s.low ≤ 400000000000000000 := by have := kF.out; unfold force; omega
 have hfe : Hid (rul1 c s = decide (force c s.low < c.least * (c.vhi * 10000000))) := Lib.hid (by unfold rul1; rw [decide_eq_decide]; have e1 : c.least * c.vhi * 10000000 = c.least * (c.vhi * 10000000) := Int.mul_assoc _ _ _; have e2 : c.most * c.vlo * 10000000 = c.most * (c.vlo * 10000000) := Int.mul_assoc _ _ _; have e3 : -c.most * (c.vlo * 10000000) = -(c.most * (c.vlo * 10000000)) := Int.neg_mul _ _; omega)
 clear hc hs kF
 generalize force c s.low = F at *
 have hgc := grow_cell w
 go_enter Tryz.func94, Tryz.ntmps94
 go_wp2
 refine wp_region_grow (by kernel_rfl) (by kernel_rfl) ?_
 repeat (go_big_quiet_step ((first | (go_at_call 96; with_reducible exact Calls.grow (kL.out _)) | (go_at_call 95; with_reducible exact Calls.grow (kP.out _)))))
 refine wpQuiet_nil ?_
 rintro _ ⟨g, rfl⟩
 go_wp2_with (go_at_call 97; refine Calls.mono (progLess _ _ _ _ ?_) ?_; (first | omega | (rw [Int.neg_mul]; omega)); rintro e w1 ⟨t, rfl, ht, rfl⟩)
 go_ret
 exact BoolB.mk (by rw [hfe.out, ← ht.out]) g.h
theorem progRule2 {bc bs : Nat} (c : Cav) (s : St) (w : World) (hc : c.Ok) (hs : s.Ok) (ec : w.heap[bc]? = some (.cells #[.int .i64 c.vlo, .int .i64 c.vhi, .int .i64 c.least, .int .i64 c.most, .int .i64 c.f0, .int .i64 c.f1, .int .i64 c.h0, .int .i64 c.h1, .int .i64 c.rock, .int .i64 c.plo, .int .i64 c.phi] 89 (0, 0))) (es : w.heap[bs]? = some (.cells #[.int .i64 s.glo, .int .i64 s.ghi, .int .i64 s.ylo, .int .i64 s.yhi, .int .i64 s.tlo, .int .i64 s.thi, .int .i64 s.wlo, .int .i64 s.whi] 33 (0, 0))) :
    Calls Tryz.prog 98 #[.pointer (some ⟨bc, 0, none⟩), .pointer (some ⟨bs, 0, none⟩)] w (BoolB (rul2 c s) w) := by
 obtain ⟨zc, rc, tc⟩ := row_cells ec
 obtain ⟨qc_0, qc_1, qc_2, qc_3, qc_4, qc_5, qc_6, qc_7, qc_8, qc_9, qc_10⟩ := rc11 ec
 clear rc tc
 obtain ⟨zs, rs, ts⟩ := row_cells es
 obtain ⟨qs_0, qs_1, qs_2, qs_3, qs_4, qs_5, qs_6, qs_7⟩ := rc8 es
 clear rs ts
 obtain ⟨g1, g2, g3, g4⟩ := gas_bd hs
 have hst := hs.t; have hv := hc.v; have hp := hc.p
 obtain ⟨p1, p2⟩ := press_bd hc
 have kF := Lib.hid (force_bd (p := s.high) hc g2 g4 (by constructor <;> simp only [St.low, St.high] <;> omega))
 have kL := Lib.hid (fun w => progHighest s w)
 have kP : Hid (∀ w, Calls Tryz.prog 95 #[cavV c, ptV s.high, .int .i64 c.vlo] w fun e w' => e = .returned (.tuple #[.int .i64 (force c s.high), .int .i64 (c.vlo * 10000000)]) ∧ Below w.heap.size w w') := Lib.hid (fun w => progPress c s.high c.vlo w hc g2 g4 (by constructor <;> simp only [St.low, St.high] <;> omega) (by omega))
 have hF : -400000000000000000 ≤ force c s.high ∧ force c s.high ≤ 400000000000000000 := by have := kF.out; unfold force; omega
 have hfe : Hid (rul2 c s = decide (-force c s.high < -c.most * (c.vlo * 10000000))) := Lib.hid (by unfold rul2; rw [decide_eq_decide]; have e1 : c.least * c.vhi * 10000000 = c.least * (c.vhi * 10000000) := Int.mul_assoc _ _ _; have e2 : c.most * c.vlo * 10000000 = c.most * (c.vlo * 10000000) := Int.mul_assoc _ _ _; have e3 : -c.most * (c.vlo * 10000000) = -(c.most * (c.vlo * 10000000)) := Int.neg_mul _ _; omega)
 clear hc hs kF
 generalize force c s.high = F at *
 have hgc := grow_cell w
 go_enter Tryz.func98, Tryz.ntmps98
 go_wp2
 refine wp_region_grow (by kernel_rfl) (by kernel_rfl) ?_
 repeat (go_big_quiet_step ((first | (go_at_call 99; with_reducible exact Calls.grow (kL.out _)) | (go_at_call 95; with_reducible exact Calls.grow (kP.out _)))))
 refine wpQuiet_nil ?_
 rintro _ ⟨g, rfl⟩
 go_wp2_with (go_at_call 97; refine Calls.mono (progLess _ _ _ _ ?_) ?_; (first | omega | (rw [Int.neg_mul]; omega)); rintro e w1 ⟨t, rfl, ht, rfl⟩)
 go_ret
 exact BoolB.mk (by rw [hfe.out, ← ht.out]) g.h
theorem progRule3 {bc bs : Nat} (c : Cav) (s : St) (w : World) (hc : c.Ok) (hs : s.Ok) (ec : w.heap[bc]? = some (.cells #[.int .i64 c.vlo, .int .i64 c.vhi, .int .i64 c.least, .int .i64 c.most, .int .i64 c.f0, .int .i64 c.f1, .int .i64 c.h0, .int .i64 c.h1, .int .i64 c.rock, .int .i64 c.plo, .int .i64 c.phi] 89 (0, 0))) (es : w.heap[bs]? = some (.cells #[.int .i64 s.glo, .int .i64 s.ghi, .int .i64 s.ylo, .int .i64 s.yhi, .int .i64 s.tlo, .int .i64 s.thi, .int .i64 s.wlo, .int .i64 s.whi] 33 (0, 0))) :
    Calls Tryz.prog 100 #[.pointer (some ⟨bc, 0, none⟩), .pointer (some ⟨bs, 0, none⟩)] w (BoolB (thin c s) w) := by
 obtain ⟨zc, rc, tc⟩ := row_cells ec
 obtain ⟨qc_0, qc_1, qc_2, qc_3, qc_4, qc_5, qc_6, qc_7, qc_8, qc_9, qc_10⟩ := rc11 ec
 clear rc tc
 obtain ⟨zs, rs, ts⟩ := row_cells es
 obtain ⟨qs_0, qs_1, qs_2, qs_3, qs_4, qs_5, qs_6, qs_7⟩ := rc8 es
 clear rs ts
 have kT := Lib.hid (progThin c s w hc hs)
 clear hc hs
 go_enter Tryz.func100, Tryz.ntmps100
 go_wp2_with (go_at_call 101; (with_reducible refine Calls.mono kT.out ?_); rintro e w1 ⟨t, rfl, ht, hB⟩)
 go_ret
 exact BoolB.mk ht.out hB
theorem progRule4 {bc bs : Nat} (c : Cav) (s : St) (w : World) (hc : c.Ok) (hs : s.Ok) (ec : w.heap[bc]? = some (.cells #[.int .i64 c.vlo, .int .i64 c.vhi, .int .i64 c.least, .int .i64 c.most, .int .i64 c.f0, .int .i64 c.f1, .int .i64 c.h0, .int .i64 c.h1, .int .i64 c.rock, .int .i64 c.plo, .int .i64 c.phi] 89 (0, 0))) (es : w.heap[bs]? = some (.cells #[.int .i64 s.glo, .int .i64 s.ghi, .int .i64 s.ylo, .int .i64 s.yhi, .int .i64 s.tlo, .int .i64 s.thi, .int .i64 s.wlo, .int .i64 s.whi] 33 (0, 0))) :
    Calls Tryz.prog 102 #[.pointer (some ⟨bc, 0, none⟩), .pointer (some ⟨bs, 0, none⟩)] w (BoolB (rich c s) w) := by
 obtain ⟨zc, rc, tc⟩ := row_cells ec
 obtain ⟨qc_0, qc_1, qc_2, qc_3, qc_4, qc_5, qc_6, qc_7, qc_8, qc_9, qc_10⟩ := rc11 ec
 clear rc tc
 obtain ⟨zs, rs, ts⟩ := row_cells es
 obtain ⟨qs_0, qs_1, qs_2, qs_3, qs_4, qs_5, qs_6, qs_7⟩ := rc8 es
 clear rs ts
 have kT := Lib.hid (progRich c s w hc hs)
 clear hc hs
 go_enter Tryz.func102, Tryz.ntmps102
 go_wp2_with (go_at_call 103; (with_reducible refine Calls.mono kT.out ?_); rintro e w1 ⟨t, rfl, ht, hB⟩)
 go_ret
 exact BoolB.mk ht.out hB
def rulAt (c : Cav) (s : St) (k : Nat) : Bool := match k with
 | 0 => rul1 c s
 | 1 => rul2 c s
 | 2 => thin c s
 | _ => rich c s
def rulTo (c : Cav) (s : St) (k : Nat) : Prop := ∀ j, j < k → rulAt c s j = false
theorem rulTo.next {c : Cav} {s : St} {k : Nat} (h : rulTo c s k) (h1 : rulAt c s k = false) : rulTo c s (k + 1) := by
 intro j hj
 by_cases e : j = k
 · rw [e]; exact h1
 · exact h j (by omega)
theorem sure_at {c : Cav} {s : St} {k : Nat} (hk : k < 4) (h : rulTo c s k) (h1 : rulAt c s k = true) : sure c s = 2 + (k : Int) := by
 have e0 : rul1 c s = decide (force c s.low < c.least * c.vhi * 10000000) := rfl
 have e1 : rul2 c s = decide (force c s.high > c.most * c.vlo * 10000000) := rfl
 match k, hk with
 | 0, _ => simp only [rulAt, e0, decide_eq_true_eq] at h1; simp [sure, h1]
 | 1, _ =>
  have a := h 0 (by omega)
  simp only [rulAt, e0, e1, decide_eq_true_eq, decide_eq_false_iff_not] at h1 a; simp [sure, a, h1]
 | 2, _ =>
  have a := h 0 (by omega); have b := h 1 (by omega)
  simp only [rulAt, e0, e1, decide_eq_true_eq, decide_eq_false_iff_not] at h1 a b; simp [sure, a, b, h1]
 | 3, _ =>
  have a := h 0 (by omega); have b := h 1 (by omega); have d := h 2 (by omega)
  simp only [rulAt, e0, e1, decide_eq_true_eq, decide_eq_false_iff_not] at h1 a b d; simp [sure, a, b, d, h1]
theorem sure_fine {c : Cav} {s : St} (h : rulTo c s 4) : sure c s = 1 := by
 have a := h 0 (by omega); have b := h 1 (by omega); have d := h 2 (by omega); have e := h 3 (by omega)
 have e0 : rul1 c s = decide (force c s.low < c.least * c.vhi * 10000000) := rfl
 have e1 : rul2 c s = decide (force c s.high > c.most * c.vlo * 10000000) := rfl
 simp only [rulAt, e0, e1, decide_eq_false_iff_not] at a b d e; simp [sure, a, b, d, e]
theorem four_index (a b c d : Value) (w : World) : (Instr.index 160 (.agg #[a, b, c, d]) (.int .i64 0)).run Tryz.prog w = .ok a w ∧ (Instr.index 160 (.agg #[a, b, c, d]) (.int .i64 1)).run Tryz.prog w = .ok b w ∧
    (Instr.index 160 (.agg #[a, b, c, d]) (.int .i64 2)).run Tryz.prog w = .ok c w ∧ (Instr.index 160 (.agg #[a, b, c, d]) (.int .i64 3)).run Tryz.prog w = .ok d w := by
 refine ⟨?_, ?_, ?_, ?_⟩ <;> kernel_rfl
theorem progRule (c : Cav) (s : St) (w : World) (hc : c.Ok) (hs : s.Ok) :
    Calls Tryz.prog 66 #[cavV c, stV s] w fun e w' => e = .returned (.int .i64 (sure c s)) ∧ Below w.heap.size w w' := by
 obtain ⟨W1, hW1⟩ : ∃ W1, w.alloc (.cells #[.int .i64 c.vlo, .int .i64 c.vhi, .int .i64 c.least, .int .i64 c.most, .int .i64 c.f0, .int .i64 c.f1, .int .i64 c.h0, .int .i64 c.h1, .int .i64 c.rock, .int .i64 c.plo, .int .i64 c.phi] 89) = W1 := ⟨_, rfl⟩
 obtain ⟨eW0, bW0, sW0⟩ := boxed hW1
 have yW0_0 : w.heap.size < W1.heap.size := by omega
 obtain ⟨mW0_0_0, mW0_0_1, mW0_0_2, mW0_0_3, mW0_0_4, mW0_0_5, mW0_0_6, mW0_0_7, mW0_0_8, mW0_0_9, mW0_0_10⟩ := rc11 eW0
 obtain ⟨W2, hW2⟩ : ∃ W2, W1.alloc (.cells #[.int .i64 s.glo, .int .i64 s.ghi, .int .i64 s.ylo, .int .i64 s.yhi, .int .i64 s.tlo, .int .i64 s.thi, .int .i64 s.wlo, .int .i64 s.whi] 33) = W2 := ⟨_, rfl⟩
 obtain ⟨eW1, bW1, sW1⟩ := boxed hW2
 have yW1_0 : w.heap.size < W2.heap.size := by omega
 replace eW0 := (bW1.block _ (zqo eW0)).trans eW0
 obtain ⟨mW1_0_0, mW1_0_1, mW1_0_2, mW1_0_3, mW1_0_4, mW1_0_5, mW1_0_6, mW1_0_7, mW1_0_8, mW1_0_9, mW1_0_10⟩ := rc11 eW0
 have yW1_1 : W1.heap.size < W2.heap.size := by omega
 obtain ⟨mW1_1_0, mW1_1_1, mW1_1_2, mW1_1_3, mW1_1_4, mW1_1_5, mW1_1_6, mW1_1_7⟩ := rc8 eW1
 obtain ⟨W, hW⟩ : ∃ W, W2.alloc (.cells #[(.func (.func 94) #[] #[.pointer (some ⟨w.heap.size, 0, none⟩), .pointer (some ⟨W1.heap.size, 0, none⟩)]), (.func (.func 98) #[] #[.pointer (some ⟨w.heap.size, 0, none⟩), .pointer (some ⟨W1.heap.size, 0, none⟩)]), (.func (.func 100) #[] #[.pointer (some ⟨w.heap.size, 0, none⟩), .pointer (some ⟨W1.heap.size, 0, none⟩)]), (.func (.func 102) #[] #[.pointer (some ⟨w.heap.size, 0, none⟩), .pointer (some ⟨W1.heap.size, 0, none⟩)])] 160) = W := ⟨_, rfl⟩
 obtain ⟨eW2, bW2, sW2⟩ := boxed hW
 replace eW0 := (bW2.block _ (zqo eW0)).trans eW0
 replace eW1 := (bW2.block _ (zqo eW1)).trans eW1
 have hBw : Below w.heap.size w W := (by have := sW0; have := sW1; have := sW2; exact ((bW0.trans (bW1.mono (by omega))).trans (bW2.mono (by omega))))
 obtain ⟨zW0, rW0, tW0⟩ := row_cells eW0
 obtain ⟨qW0_0, qW0_1, qW0_2, qW0_3, qW0_4, qW0_5, qW0_6, qW0_7, qW0_8, qW0_9, qW0_10⟩ := rc11 eW0
 obtain ⟨fW0_0, fW0_1, fW0_2, fW0_3, fW0_4, fW0_5, fW0_6, fW0_7, fW0_8, fW0_9, fW0_10⟩ := rf11 eW0
 have EW0 := Lib.hid eW0
 clear rW0 tW0 eW0
 obtain ⟨zW1, rW1, tW1⟩ := row_cells eW1
 obtain ⟨qW1_0, qW1_1, qW1_2, qW1_3, qW1_4, qW1_5, qW1_6, qW1_7⟩ := rc8 eW1
 obtain ⟨fW1_0, fW1_1, fW1_2, fW1_3, fW1_4, fW1_5, fW1_6, fW1_7⟩ := rf8 eW1
 have EW1 := Lib.hid eW1
 clear rW1 tW1 eW1
 obtain ⟨zW2, rW2, tW2⟩ := row_cells eW2
 obtain ⟨qW2_0, qW2_1, qW2_2, qW2_3⟩ := rc4 eW2
 obtain ⟨fW2_0, fW2_1, fW2_2, fW2_3⟩ := rf4 eW2
 have EW2 := Lib.hid eW2
 clear rW2 tW2 eW2
 have xW0 : w.heap.size ≤ w.heap.size := by omega
 have xW1 : w.heap.size ≤ W1.heap.size := by omega
 have xW2 : w.heap.size ≤ W2.heap.size := by omega
 clear bW0 sW0 bW1 sW1 bW2 sW2
 have en1 : ∀ args w, (callFunc 94 args).run Tryz.prog w = .ok (.enter 94 args) w := fun args w => by kernel_rfl
 have en2 : ∀ args w, (callFunc 98 args).run Tryz.prog w = .ok (.enter 98 args) w := fun args w => by kernel_rfl
 have en3 : ∀ args w, (callFunc 100 args).run Tryz.prog w = .ok (.enter 100 args) w := fun args w => by kernel_rfl
 have en4 : ∀ args w, (callFunc 102 args).run Tryz.prog w = .ok (.enter 102 args) w := fun args w => by kernel_rfl
 have hmf : ∀ (fn : Fn) (first cap : Array Value) (w : World), (Instr.makeFunc fn first cap).run Tryz.prog w = .ok (.func fn first cap) w := fun _ _ _ _ => rfl
 have kc : Hid (∀ g : Grow W, g.x.heap[w.heap.size]? = some (.cells #[.int .i64 c.vlo, .int .i64 c.vhi, .int .i64 c.least, .int .i64 c.most, .int .i64 c.f0, .int .i64 c.f1, .int .i64 c.h0, .int .i64 c.h1, .int .i64 c.rock, .int .i64 c.plo, .int .i64 c.phi] 89 (0, 0))) := Lib.hid (fun g => (g.h.block _ zW0).trans EW0.out)
 have ks : Hid (∀ g : Grow W, g.x.heap[W1.heap.size]? = some (.cells #[.int .i64 s.glo, .int .i64 s.ghi, .int .i64 s.ylo, .int .i64 s.yhi, .int .i64 s.tlo, .int .i64 s.thi, .int .i64 s.wlo, .int .i64 s.whi] 33 (0, 0))) := Lib.hid (fun g => (g.h.block _ zW1).trans EW1.out)
 go_enter Tryz.func66, Tryz.ntmps66
 go_wp2
 go_loopw [14] (fun i wr => ∃ g : Grow W, wr = g.x ∧ ((i = .int .i64 0 ∧ rulTo c s 0) ∨ (i = .int .i64 1 ∧ rulTo c s 1) ∨ (i = .int .i64 2 ∧ rulTo c s 2) ∨ (i = .int .i64 3 ∧ rulTo c s 3) ∨ (i = .int .i64 4 ∧ rulTo c s 4))) (fun i _ => (4 - intOf i).toNat)
 case atStart => exact ⟨Grow.self W, rfl, .inl ⟨rfl, fun j hj => absurd hj (by omega)⟩⟩
 case round =>
  obtain ⟨g, rfl, (⟨rfl, hH⟩ | ⟨rfl, hH⟩ | ⟨rfl, hH⟩ | ⟨rfl, hH⟩ | ⟨rfl, hH⟩)⟩ := hrel
  · have hx : ∀ w0 : World, (Instr.index 160 (.agg #[(.func (.func 94) #[] #[.pointer (some ⟨w.heap.size, 0, none⟩), .pointer (some ⟨W1.heap.size, 0, none⟩)]), (.func (.func 98) #[] #[.pointer (some ⟨w.heap.size, 0, none⟩), .pointer (some ⟨W1.heap.size, 0, none⟩)]), (.func (.func 100) #[] #[.pointer (some ⟨w.heap.size, 0, none⟩), .pointer (some ⟨W1.heap.size, 0, none⟩)]), (.func (.func 102) #[] #[.pointer (some ⟨w.heap.size, 0, none⟩), .pointer (some ⟨W1.heap.size, 0, none⟩)])]) (.int .i64 0)).run Tryz.prog w0 = .ok (.func (.func 94) #[] #[.pointer (some ⟨w.heap.size, 0, none⟩), .pointer (some ⟨W1.heap.size, 0, none⟩)]) w0 := fun w0 => (four_index _ _ _ _ w0).1
    cases hb : rulAt c s 0
    · have kR := Lib.hid (fun g : Grow W => (progRule1 c s g.x hc hs (kc.out g) (ks.out g)).mono fun e w' h => BoolB.lit h hb)
      have hH2 := Lib.hid (hH.next hb)
      clear hH hb
      go_wp2_with (go_at_call 94; (with_reducible refine Calls.mono (kR.out _) ?_); rintro e w1 ⟨rfl, hB⟩; obtain ⟨g, rfl⟩ := g.next hB; clear hB)
      exact ⟨⟨g, rfl, .inr (.inl ⟨rfl, hH2.out⟩)⟩, by simp [intOf]⟩
    · have kR := Lib.hid (fun g : Grow W => (progRule1 c s g.x hc hs (kc.out g) (ks.out g)).mono fun e w' h => BoolB.lit h hb)
      have hH2 := Lib.hid (sure_at (by omega) hH hb)
      clear hH hb
      go_wp2_with (go_at_call 94; (with_reducible refine Calls.mono (kR.out _) ?_); rintro e w1 ⟨rfl, hB⟩; obtain ⟨g, rfl⟩ := g.next hB; clear hB)
      go_ret
      exact ⟨by rw [hH2.out]; rfl, hBw.trans (g.h.mono hBw.size)⟩
  · have hx : ∀ w0 : World, (Instr.index 160 (.agg #[(.func (.func 94) #[] #[.pointer (some ⟨w.heap.size, 0, none⟩), .pointer (some ⟨W1.heap.size, 0, none⟩)]), (.func (.func 98) #[] #[.pointer (some ⟨w.heap.size, 0, none⟩), .pointer (some ⟨W1.heap.size, 0, none⟩)]), (.func (.func 100) #[] #[.pointer (some ⟨w.heap.size, 0, none⟩), .pointer (some ⟨W1.heap.size, 0, none⟩)]), (.func (.func 102) #[] #[.pointer (some ⟨w.heap.size, 0, none⟩), .pointer (some ⟨W1.heap.size, 0, none⟩)])]) (.int .i64 1)).run Tryz.prog w0 = .ok (.func (.func 98) #[] #[.pointer (some ⟨w.heap.size, 0, none⟩), .pointer (some ⟨W1.heap.size, 0, none⟩)]) w0 := fun w0 => (four_index _ _ _ _ w0).2.1
    cases hb : rulAt c s 1
    · have kR := Lib.hid (fun g : Grow W => (progRule2 c s g.x hc hs (kc.out g) (ks.out g)).mono fun e w' h => BoolB.lit h hb)
      have hH2 := Lib.hid (hH.next hb)
      clear hH hb
      go_wp2_with (go_at_call 98; (with_reducible refine Calls.mono (kR.out _) ?_); rintro e w1 ⟨rfl, hB⟩; obtain ⟨g, rfl⟩ := g.next hB; clear hB)
      exact ⟨⟨g, rfl, .inr (.inr (.inl ⟨rfl, hH2.out⟩))⟩, by simp [intOf]⟩
    · have kR := Lib.hid (fun g : Grow W => (progRule2 c s g.x hc hs (kc.out g) (ks.out g)).mono fun e w' h => BoolB.lit h hb)
      have hH2 := Lib.hid (sure_at (by omega) hH hb)
      clear hH hb
      go_wp2_with (go_at_call 98; (with_reducible refine Calls.mono (kR.out _) ?_); rintro e w1 ⟨rfl, hB⟩; obtain ⟨g, rfl⟩ := g.next hB; clear hB)
      go_ret
      exact ⟨by rw [hH2.out]; rfl, hBw.trans (g.h.mono hBw.size)⟩
  · have hx : ∀ w0 : World, (Instr.index 160 (.agg #[(.func (.func 94) #[] #[.pointer (some ⟨w.heap.size, 0, none⟩), .pointer (some ⟨W1.heap.size, 0, none⟩)]), (.func (.func 98) #[] #[.pointer (some ⟨w.heap.size, 0, none⟩), .pointer (some ⟨W1.heap.size, 0, none⟩)]), (.func (.func 100) #[] #[.pointer (some ⟨w.heap.size, 0, none⟩), .pointer (some ⟨W1.heap.size, 0, none⟩)]), (.func (.func 102) #[] #[.pointer (some ⟨w.heap.size, 0, none⟩), .pointer (some ⟨W1.heap.size, 0, none⟩)])]) (.int .i64 2)).run Tryz.prog w0 = .ok (.func (.func 100) #[] #[.pointer (some ⟨w.heap.size, 0, none⟩), .pointer (some ⟨W1.heap.size, 0, none⟩)]) w0 := fun w0 => (four_index _ _ _ _ w0).2.2.1
    cases hb : rulAt c s 2
    · have kR := Lib.hid (fun g : Grow W => (progRule3 c s g.x hc hs (kc.out g) (ks.out g)).mono fun e w' h => BoolB.lit h hb)
      have hH2 := Lib.hid (hH.next hb)
      clear hH hb
      go_wp2_with (go_at_call 100; (with_reducible refine Calls.mono (kR.out _) ?_); rintro e w1 ⟨rfl, hB⟩; obtain ⟨g, rfl⟩ := g.next hB; clear hB)
      exact ⟨⟨g, rfl, .inr (.inr (.inr (.inl ⟨rfl, hH2.out⟩)))⟩, by simp [intOf]⟩
    · have kR := Lib.hid (fun g : Grow W => (progRule3 c s g.x hc hs (kc.out g) (ks.out g)).mono fun e w' h => BoolB.lit h hb)
      have hH2 := Lib.hid (sure_at (by omega) hH hb)
      clear hH hb
      go_wp2_with (go_at_call 100; (with_reducible refine Calls.mono (kR.out _) ?_); rintro e w1 ⟨rfl, hB⟩; obtain ⟨g, rfl⟩ := g.next hB; clear hB)
      go_ret
      exact ⟨by rw [hH2.out]; rfl, hBw.trans (g.h.mono hBw.size)⟩
  · have hx : ∀ w0 : World, (Instr.index 160 (.agg #[(.func (.func 94) #[] #[.pointer (some ⟨w.heap.size, 0, none⟩), .pointer (some ⟨W1.heap.size, 0, none⟩)]), (.func (.func 98) #[] #[.pointer (some ⟨w.heap.size, 0, none⟩), .pointer (some ⟨W1.heap.size, 0, none⟩)]), (.func (.func 100) #[] #[.pointer (some ⟨w.heap.size, 0, none⟩), .pointer (some ⟨W1.heap.size, 0, none⟩)]), (.func (.func 102) #[] #[.pointer (some ⟨w.heap.size, 0, none⟩), .pointer (some ⟨W1.heap.size, 0, none⟩)])]) (.int .i64 3)).run Tryz.prog w0 = .ok (.func (.func 102) #[] #[.pointer (some ⟨w.heap.size, 0, none⟩), .pointer (some ⟨W1.heap.size, 0, none⟩)]) w0 := fun w0 => (four_index _ _ _ _ w0).2.2.2
    cases hb : rulAt c s 3
    · have kR := Lib.hid (fun g : Grow W => (progRule4 c s g.x hc hs (kc.out g) (ks.out g)).mono fun e w' h => BoolB.lit h hb)
      have hH2 := Lib.hid (hH.next hb)
      clear hH hb
      go_wp2_with (go_at_call 102; (with_reducible refine Calls.mono (kR.out _) ?_); rintro e w1 ⟨rfl, hB⟩; obtain ⟨g, rfl⟩ := g.next hB; clear hB)
      exact ⟨⟨g, rfl, .inr (.inr (.inr (.inr ⟨rfl, hH2.out⟩)))⟩, by simp [intOf]⟩
    · have kR := Lib.hid (fun g : Grow W => (progRule4 c s g.x hc hs (kc.out g) (ks.out g)).mono fun e w' h => BoolB.lit h hb)
      have hH2 := Lib.hid (sure_at (by omega) hH hb)
      clear hH hb
      go_wp2_with (go_at_call 102; (with_reducible refine Calls.mono (kR.out _) ?_); rintro e w1 ⟨rfl, hB⟩; obtain ⟨g, rfl⟩ := g.next hB; clear hB)
      go_ret
      exact ⟨by rw [hH2.out]; rfl, hBw.trans (g.h.mono hBw.size)⟩
  · go_wp2
    go_ret
    exact ⟨by rw [sure_fine hH]; rfl, hBw.trans (g.h.mono hBw.size)⟩
end Go.Proofs.YthjmdagonfeneaaGreat.G
set_option linter.unusedVariables false
set_option linter.unusedSimpArgs false
namespace Gas
def at0 (l : List Int) (k : Nat) : Int := l.getD k 0
end Gas
namespace Go.Proofs.YthjmdagonfeneaaGreat.G
open Go.RowKit Go.Sd
def IntsAt (w : World) (v : Value) (xs : List Int) : Prop :=
 ∃ a cap, v = .slice a xs.length cap ∧ xs.length ≤ maxLen ∧
  (0 < xs.length → ∃ b off, a = some ⟨b, off, none⟩ ∧ b < w.heap.size ∧ ∀ k, k < xs.length → w.cell? ⟨b, off + k, none⟩ = some (.int .i64 (Gas.at0 xs k)))
theorem kept_cell {w w' : World} (hb : Below w.heap.size w w') {b o : Nat} {v : Value} (h : w.cell? ⟨b, o, none⟩ = some v) : w'.cell? ⟨b, o, none⟩ = some v :=
 (hb.cell (p := ⟨b, o, none⟩) (World.block_lt_of_cell? w ⟨b, o, none⟩ h)).trans h
theorem IntsAt.mono {w w' : World} {v : Value} {xs : List Int} (h : IntsAt w v xs) (hb : Below w.heap.size w w') : IntsAt w' v xs := by
 obtain ⟨a, cap, rfl, hm, hc⟩ := h
 refine ⟨a, cap, rfl, hm, fun h0 => ?_⟩
 obtain ⟨b, off, rfl, hlt, hk⟩ := hc h0
 exact ⟨b, off, rfl, Nat.lt_of_lt_of_le hlt hb.size, fun k hk' => kept_cell hb (hk k hk')⟩
theorem infoInt : (Tryz.prog.info? 3).map (fun i => (i.zero, i.size, i.bytes)) = some (some (.int .i64 0), 1, 8) := by kernel_rfl
def OwnInts (B : Nat) (w : World) (v : Value) (xs : List Int) : Prop := w.ownsRow B 3 1 v xs.length (xs.map (Value.int .i64))
theorem OwnInts.nil (B : Nat) (w : World) : OwnInts B w (.slice none 0 0) [] := World.ownsRow_nil w B _ 1
theorem OwnInts.lt {B : Nat} {w : World} {v : Value} {xs : List Int} (h : OwnInts B w v xs) : ∀ k, v.ownBlock = some k → B ≤ k ∧ k < w.heap.size := World.ownsRow.lt h
theorem OwnInts.kept {B : Nat} {w w' : World} {row : Option Nat} {v : Value} {xs : List Int} (h : OwnInts B w v xs) (hg : w.grownBy w' row) (hne : v.ownBlock = none ∨ v.ownBlock ≠ row) : OwnInts B w' v xs := World.ownsRow.kept h hg hne
theorem grown_of_below {w w' : World} (h : Below w.heap.size w w') : w.grownBy w' none :=
 ⟨h.os, h.tape, h.output, h.size, fun k hk _ => h.block k hk⟩
theorem OwnInts.mono {B : Nat} {w w' : World} {v : Value} {xs : List Int} (h : OwnInts B w v xs) (hb : Below w.heap.size w w') : OwnInts B w' v xs :=
 h.kept (grown_of_below hb) (by cases v.ownBlock <;> simp)
theorem OwnInts.from {B B' : Nat} {w : World} {v : Value} {xs : List Int} (h : OwnInts B w v xs) (hB : B' ≤ B) : OwnInts B' w v xs := by
 obtain ⟨h1, h2⟩ := h
 refine ⟨h1, ?_⟩
 rcases h2 with h2 | ⟨g, cap, cur, hv, hg, r⟩
 · exact .inl h2
 · exact .inr ⟨g, cap, cur, hv, by omega, r⟩
theorem OwnInts.at {B : Nat} {w : World} {v : Value} {xs : List Int} (h : OwnInts B w v xs) : IntsAt w v xs := by
 obtain ⟨_, h2⟩ := h
 rcases h2 with ⟨rfl, h0⟩ | ⟨g, cap, cur, rfl, hB, hg, hn, hm, hs, ht⟩
 · refine ⟨none, 0, by rw [h0], by simp [h0], fun h => by omega⟩
 · refine ⟨some ⟨g, 0, none⟩, cap, rfl, by omega, fun _ => ⟨g, 0, rfl, (zqo hg), fun k hk => ?_⟩⟩
   rw [Nat.zero_add, cell_of_row w g k cur _ (0, 0) hg]
   have h1 : (cur.toList.take (xs.length * 1))[k]? = (xs.map (Value.int .i64))[k]? := by rw [ht]
   rw [List.getElem?_take, if_pos (by omega)] at h1
   simp only [List.getElem?_map, List.getElem?_eq_getElem hk, Option.map_some] at h1
   rw [← Array.getElem?_toList, h1]
   simp [Gas.at0, hk]
theorem own_more {B : Nat} {w : World} {v : Value} {xs : List Int} {y : Int} (h : w.ownsRow B 3 1 v (xs.length + 1) (xs.map (Value.int .i64) ++ [.int .i64 y])) : OwnInts B w v (xs ++ [y]) := by
 unfold OwnInts
 simpa using h
theorem below_append {B : Nat} {W w w' : World} {v : Value} {xs : List Int} (hb : Below B W w) (hB : B ≤ w.heap.size) (ho : OwnInts B w v xs) (hg : w.grownBy w' v.ownBlock) : Below B W w' :=
 hb.grown hg hB fun k hk => (ho.lt k hk).1
theorem grownBy_trans {a b c : World} {row : Option Nat} (h : a.grownBy b row) (k : b.grownBy c row) : a.grownBy c row :=
 ⟨k.os.trans h.os, k.tape.trans h.tape, k.output.trans h.output, Nat.le_trans h.size k.size, fun i hi hne => (k.block i (Nat.lt_of_lt_of_le hi h.size) hne).trans (h.block i hi hne)⟩
theorem wpList_app_int {ops : Array Oper} {rest : List Oper} {o : Oper} {a : Act} {Q : Exit → Act → World → Prop} (hgd : o.guard = none) (s x : Operand)
    (ho : o.op = .call { callee := .builtin .append, args := #[s, x], argTypes := #[28, 28] })
    (B : Nat) (w : World) (v : Value) (xs : List Int) (y : Int) (hs : a.eval s = v) (hown : OwnInts B w v xs) (hx : a.eval x = .slice (some ⟨w.heap.size, 0, none⟩) 1 1)
    (hn : xs.length ≤ 1000000) (hB : B ≤ w.heap.size)
    (h : ∀ v' w', OwnInts B w' v' (xs ++ [y]) → w.grownBy w' v.ownBlock → v' ≠ .slice none 0 0 → (v'.ownBlock = v.ownBlock ∨ ∃ m, v'.ownBlock = some m ∧ w.heap.size ≤ m) → wpList Tryz.prog ops Q rest (a.put o.dst v') w') :
    wpList Tryz.prog ops Q (o :: rest) a (w.alloc (.cells #[.int .i64 y] 3)) := by
 obtain ⟨i0, hi, hz0, hz1, hz2⟩ := info_parts infoInt
 refine wpList_append_own_at _ hgd s x 28 ho B 3 i0 (.int .i64 0) 1 8 Tryz.underlying28 hi hz0 hz1 hz2 rfl (by decide) v xs.length _ hs (World.ownsRow.alloc hown _) ⟨w.heap.size, 0, none⟩ 1 1 [.int .i64 y] hx rfl ?_ ?_ ?_ ?_ ?_ ?_
 · exact cell_one_new _ _ _
 · simp [Value.oneCell']
 · unfold maxLen; omega
 · omega
 · simp; omega
 · intro v' w' h1 h2 h3 h4
   refine h v' w' (own_more h1) (grownBy_trans (World.grownBy_alloc w _ _) h2) (fun e => by have := h3.1 e; omega) ?_
   rcases h4 with h4 | h4
   · exact .inl h4
   · exact .inr ⟨_, h4, by simp⟩
end Go.Proofs.YthjmdagonfeneaaGreat.G
namespace Gas
def wideStep (s : Int × Int) (n : Int) : Int × Int := (min s.1 n, max s.2 n)
def wideL : List Int → Int × Int
 | [] => (0, 0)
 | x :: r => r.foldl wideStep (x, x)
theorem wideL_snoc {xs : List Int} (n : Int) (h : xs ≠ []) : wideL (xs ++ [n]) = wideStep (wideL xs) n := by
 cases xs with
 | nil => exact absurd rfl h
 | cons x r => simp [wideL, List.foldl_append]
theorem take_at0 (xs : List Int) (k : Nat) (h : k < xs.length) : xs.take (k + 1) = xs.take k ++ [at0 xs k] := by
 rw [List.take_succ_eq_append_getElem h]; simp [at0, h]
theorem wide_next (xs : List Int) (k : Nat) (h : k < xs.length) : wideL (xs.take (k + 1)) = if k = 0 then (at0 xs k, at0 xs k) else wideStep (wideL (xs.take k)) (at0 xs k) := by
 rw [take_at0 xs k h]
 split
 · rename_i h0; subst h0; simp [wideL]
 · rw [wideL_snoc]
   intro h1
   have := congrArg List.length h1
   rw [List.length_take, List.length_nil] at this
   omega
theorem wideL_spec : ∀ (xs : List Int), xs ≠ [] → (wideL xs).1 ∈ xs ∧ (wideL xs).2 ∈ xs ∧ ∀ x ∈ xs, (wideL xs).1 ≤ x ∧ x ≤ (wideL xs).2 := by
 intro xs h
 cases xs with
 | nil => exact absurd rfl h
 | cons x r =>
  suffices hs : ∀ (r : List Int) (a b : Int) (ys : List Int), a ∈ ys → b ∈ ys → (∀ y ∈ ys, a ≤ y ∧ y ≤ b) →
      (r.foldl wideStep (a, b)).1 ∈ ys ++ r ∧ (r.foldl wideStep (a, b)).2 ∈ ys ++ r ∧ ∀ y ∈ ys ++ r, (r.foldl wideStep (a, b)).1 ≤ y ∧ y ≤ (r.foldl wideStep (a, b)).2 by
   have := hs r x x [x] (by simp) (by simp) (by simp)
   simpa [wideL] using this
  intro r
  induction r with
  | nil => intro a b ys ha hb hy; simpa using ⟨ha, hb, hy⟩
  | cons n r ih =>
   intro a b ys ha hb hy
   have := ih (min a n) (max b n) (ys ++ [n]) (by simp only [Int.min_def]; split <;> simp [ha]) (by simp only [Int.max_def]; split <;> simp [hb]) (by
    intro y hy'
    rcases List.mem_append.1 hy' with h | h
    · have := hy y h; omega
    · have : y = n := by simpa using h
      have := (hy a ha); omega)
   simpa [wideStep] using this
theorem wide_eq {xs : List Int} {lo hi : Int} (h1 : lo ∈ xs) (h2 : hi ∈ xs) (h : ∀ x ∈ xs, lo ≤ x ∧ x ≤ hi) : wideL xs = (lo, hi) := by
 have hne : xs ≠ [] := by rintro rfl; cases h1
 obtain ⟨a, b, c⟩ := wideL_spec xs hne
 have a1 := h _ a; have b1 := h _ b; have c1 := c _ h1; have c2 := c _ h2
 exact Prod.ext (by simp only; omega) (by simp only; omega)
end Gas
namespace Go.Proofs.YthjmdagonfeneaaGreat.G
open Go.RowKit Go.Sd Gas
theorem progWide (lv : Value) (xs : List Int) (w : World) (hx : IntsAt w lv xs) :
    Calls Tryz.prog 137 #[lv] w fun e w' => e = .returned (.agg #[.int .i64 (wideL xs).1, .int .i64 (wideL xs).2]) ∧ Below w.heap.size w w' := by
 obtain ⟨a, cap, rfl, hm, hc⟩ := hx
 unfold maxLen at hm
 have hm' : xs.length ≤ 9223372036854775807 := by omega
 obtain ⟨W, hW⟩ : ∃ W, w.alloc (.cells #[.int .i64 0, .int .i64 0] 23) = W := ⟨_, rfl⟩
 obtain ⟨e0, b0, s0⟩ := boxed hW
 obtain ⟨z0, r0, t0⟩ := row_cells e0
 have q0 := r0 0
 have q1 := r0 1
 have f0 := t0 0
 have f1 := t0 1
 simp only [List.getElem?_toArray, List.getElem?_cons_zero, List.getElem?_cons_succ] at q0 q1
 have hcW : 0 < xs.length → ∃ b off, a = some ⟨b, off, none⟩ ∧ b < W.heap.size ∧ ∀ k, k < xs.length → W.cell? ⟨b, off + k, none⟩ = some (.int .i64 (at0 xs k)) := fun h => by
  obtain ⟨b, off, h1, h2, h3⟩ := hc h
  exact ⟨b, off, h1, Nat.lt_of_lt_of_le h2 b0.size, fun k hk => kept_cell b0 (h3 k hk)⟩
 replace hcW := Lib.hid hcW
 clear hc e0 r0 t0 s0
 go_enter Tryz.func137, Tryz.ntmps137
 go_wp2
 go_loopw [4, 5, 8] (fun _ _ i wr => ∃ k : Nat, k ≤ xs.length ∧ i = .int .i64 k ∧ wr = W.alloc (.cells #[.int .i64 (wideL (xs.take k)).1, .int .i64 (wideL (xs.take k)).2] 23)) (fun _ _ i _ => xs.length - (intOf i).toNat)
 case atStart => exact ⟨0, Nat.zero_le _, rfl, rfl⟩
 case round =>
  obtain ⟨k, hk, rfl, rfl⟩ := hrel
  by_cases hlt : k < xs.length
  · obtain ⟨b, off, rfl, hb, hcell⟩ := hcW.out (by omega)
    have c0 := hcell k hlt
    clear hcell
    have hki : (k : Int) < (xs.length : Int) := by omega
    have hn := Lib.hid (wide_next xs k hlt)
    generalize at0 xs k = n at *
    obtain ⟨s1, hs1⟩ : ∃ s1, wideL (xs.take k) = s1 := ⟨_, rfl⟩
    rw [hs1] at hn ⊢
    clear hs1
    by_cases h0 : k = 0
    · subst h0
      have hn2 : wideL (xs.take (0 + 1)) = (n, n) := by have := hn.out; simpa using this
      replace hn2 := Lib.hid hn2
      clear hn
      rw [Nat.add_zero] at c0
      go_wp2
      exact ⟨⟨0 + 1, by omega, by go_num, by rw [hn2.out]⟩, by simp [intOf]; omega⟩
    · have h0' : ¬ (k : Int) = 0 := by omega
      have hn2 : wideL (xs.take (k + 1)) = wideStep s1 n := by have := hn.out; rwa [if_neg h0] at this
      replace hn2 := Lib.hid hn2
      replace h0 := Lib.hid h0
      clear hn
      have e1 : (if n < s1.1 then n else s1.1) = min s1.1 n := by rw [Int.min_def]; split <;> split <;> omega
      have e2 : (if s1.2 < n then n else s1.2) = max s1.2 n := by rw [Int.max_def]; split <;> split <;> omega
      go_wp2
      exact ⟨⟨k + 1, by omega, by go_num, by rw [hn2.out]; rfl⟩, by simp [intOf]; omega⟩
  · obtain rfl : k = xs.length := by omega
    rw [List.take_length]
    go_wp2
    refine bodyPost_ret (v := .agg #[.int .i64 (wideL xs).1, .int .i64 (wideL xs).2]) (by simp [results, Tryz.results137, go_sem, *]) rfl ⟨rfl, ?_⟩
    refine Below.alloc ?_ (by simp; exact b0.size) _
    repeat' (first | (with_reducible exact b0) | (exact Nat.le_refl _) | refine Below.setCell ?_ ?_ _)
end Go.Proofs.YthjmdagonfeneaaGreat.G
