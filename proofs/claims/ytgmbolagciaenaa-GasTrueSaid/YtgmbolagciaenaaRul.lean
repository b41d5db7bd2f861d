/- Gas: walks: the rule of a state (the program): an array of functions. -/
import Derived.Test.YtgmbolagciaenaaA7
import Derived.Test.YtgmbolagciaenaaA3
import Derived.Laws.EntriesVeiled
set_option linter.unusedVariables false
set_option linter.unusedSimpArgs false
namespace Go.Proofs.Ytgmbolagciaenaa
open Go.RowKit Go.Sd Gas

def rul1 (c : Cav) (s : St) : Bool := decide (force c s.low < c.least * c.vhi * 10000000)
def rul2 (c : Cav) (s : St) : Bool := decide (force c s.high > c.most * c.vlo * 10000000)
theorem BoolB.lit {b t : Bool} {w w' : World} {e : Ending} (h : BoolB b w e w') (hb : b = t) : e = .returned (.bool t) ∧ Below w.heap.size w w' := by
  obtain ⟨t', rfl, ht, hB⟩ := h
  exact ⟨by rw [← hb, ← ht.out], hB⟩
theorem press_bd {c : Cav} (hc : c.Ok) : (0 ≤ c.least * (c.vhi * 10000000) ∧ c.least * (c.vhi * 10000000) ≤ 1000000000000000000) ∧ (0 ≤ c.most * (c.vlo * 10000000) ∧ c.most * (c.vlo * 10000000) ≤ 1000000000000000000) := by
  have := hc.v; have := hc.p
  have a := bd_mul (A := 100000) (B := 10000000000000) (a := c.least) (b := c.vhi * 10000000) ⟨by omega, by omega⟩ ⟨by omega, by omega⟩
  have b := bd_mul (A := 100000) (B := 10000000000000) (a := c.most) (b := c.vlo * 10000000) ⟨by omega, by omega⟩ ⟨by omega, by omega⟩
  exact ⟨⟨a.1, by omega⟩, ⟨b.1, by omega⟩⟩

set_option maxRecDepth 100000 in
set_option maxHeartbeats 4000000 in
theorem progRule1 {bc bs : Nat} (c : Cav) (s : St) (w : World) (hc : c.Ok) (hs : s.Ok) (ec : w.heap[bc]? = some (.cells #[.int .i64 c.vlo, .int .i64 c.vhi, .int .i64 c.least, .int .i64 c.most, .int .i64 c.f0, .int .i64 c.f1, .int .i64 c.h0, .int .i64 c.h1, .int .i64 c.rock, .int .i64 c.plo, .int .i64 c.phi] 96 (0, 0))) (es : w.heap[bs]? = some (.cells #[.int .i64 s.glo, .int .i64 s.ghi, .int .i64 s.ylo, .int .i64 s.yhi, .int .i64 s.tlo, .int .i64 s.thi, .int .i64 s.wlo, .int .i64 s.whi] 28 (0, 0))) :
    Calls Try.prog 97 #[.pointer (some ⟨bc, 0, none⟩), .pointer (some ⟨bs, 0, none⟩)] w (BoolB (rul1 c s) w) := by
  obtain ⟨zc, rc, tc⟩ := row_cells ec
  obtain ⟨qc_0, qc_1, qc_2, qc_3, qc_4, qc_5, qc_6, qc_7, qc_8, qc_9, qc_10⟩ := rc11 ec
  clear rc tc
  obtain ⟨zs, rs, ts⟩ := row_cells es
  obtain ⟨qs_0, qs_1, qs_2, qs_3, qs_4, qs_5, qs_6, qs_7⟩ := rc8 es
  clear rs ts
  obtain ⟨g1, g2, g3, g4⟩ := gas_bd hs
  have hst := hs.t; have hv := hc.v; have hp := hc.p
  obtain ⟨p1, p2⟩ := press_bd hc
  have kF := Lib.hid (force_bd (p := s.low) hc g1 g3 (by constructor <;> simp only [St.low, St.high] <;> omega))
  have kL := Lib.hid (fun w => progLowest s w)
  have kP : Hid (∀ w, Calls Try.prog 80 #[cavV c, ptV s.low, .int .i64 c.vhi] w fun e w' => e = .returned (.tuple #[.int .i64 (force c s.low), .int .i64 (c.vhi * 10000000)]) ∧ Below w.heap.size w w') := Lib.hid (fun w => progPress c s.low c.vhi w hc g1 g3 (by constructor <;> simp only [St.low, St.high] <;> omega) (by omega))
  have hF : -400000000000000000 ≤ force c s.low ∧ force c s.low ≤ 400000000000000000 := by have := kF.out; unfold force; omega
  have hfe : Hid (rul1 c s = decide (force c s.low < c.least * (c.vhi * 10000000))) := Lib.hid (by unfold rul1; rw [decide_eq_decide]; have e1 : c.least * c.vhi * 10000000 = c.least * (c.vhi * 10000000) := Int.mul_assoc _ _ _; have e2 : c.most * c.vlo * 10000000 = c.most * (c.vlo * 10000000) := Int.mul_assoc _ _ _; have e3 : -c.most * (c.vlo * 10000000) = -(c.most * (c.vlo * 10000000)) := Int.neg_mul _ _; omega)
  clear hc hs kF
  generalize force c s.low = F at *
  have hgc := grow_cell w
  go_enter Try.func97, Try.ntmps97
  go_wp2
  refine wp_region_grow (by kernel_rfl) (by kernel_rfl) ?_
  repeat (go_big_quiet_step ((first | (go_at_call 81; with_reducible exact Calls.grow (kL.out _)) | (go_at_call 80; with_reducible exact Calls.grow (kP.out _)))))
  refine wpQuiet_nil ?_
  rintro _ ⟨g, rfl⟩
  go_wp2_with (go_at_call 96; refine Calls.mono (progLess _ _ _ _ ?_) ?_; (first | omega | (rw [Int.neg_mul]; omega)); rintro e w1 ⟨t, rfl, ht, rfl⟩)
  go_ret
  exact BoolB.mk (by rw [hfe.out, ← ht.out]) g.h

set_option maxRecDepth 100000 in
set_option maxHeartbeats 4000000 in
theorem progRule2 {bc bs : Nat} (c : Cav) (s : St) (w : World) (hc : c.Ok) (hs : s.Ok) (ec : w.heap[bc]? = some (.cells #[.int .i64 c.vlo, .int .i64 c.vhi, .int .i64 c.least, .int .i64 c.most, .int .i64 c.f0, .int .i64 c.f1, .int .i64 c.h0, .int .i64 c.h1, .int .i64 c.rock, .int .i64 c.plo, .int .i64 c.phi] 96 (0, 0))) (es : w.heap[bs]? = some (.cells #[.int .i64 s.glo, .int .i64 s.ghi, .int .i64 s.ylo, .int .i64 s.yhi, .int .i64 s.tlo, .int .i64 s.thi, .int .i64 s.wlo, .int .i64 s.whi] 28 (0, 0))) :
    Calls Try.prog 98 #[.pointer (some ⟨bc, 0, none⟩), .pointer (some ⟨bs, 0, none⟩)] w (BoolB (rul2 c s) w) := by
  obtain ⟨zc, rc, tc⟩ := row_cells ec
  obtain ⟨qc_0, qc_1, qc_2, qc_3, qc_4, qc_5, qc_6, qc_7, qc_8, qc_9, qc_10⟩ := rc11 ec
  clear rc tc
  obtain ⟨zs, rs, ts⟩ := row_cells es
  obtain ⟨qs_0, qs_1, qs_2, qs_3, qs_4, qs_5, qs_6, qs_7⟩ := rc8 es
  clear rs ts
  obtain ⟨g1, g2, g3, g4⟩ := gas_bd hs
  have hst := hs.t; have hv := hc.v; have hp := hc.p
  obtain ⟨p1, p2⟩ := press_bd hc
  have kF := Lib.hid (force_bd (p := s.high) hc g2 g4 (by constructor <;> simp only [St.low, St.high] <;> omega))
  have kL := Lib.hid (fun w => progHighest s w)
  have kP : Hid (∀ w, Calls Try.prog 80 #[cavV c, ptV s.high, .int .i64 c.vlo] w fun e w' => e = .returned (.tuple #[.int .i64 (force c s.high), .int .i64 (c.vlo * 10000000)]) ∧ Below w.heap.size w w') := Lib.hid (fun w => progPress c s.high c.vlo w hc g2 g4 (by constructor <;> simp only [St.low, St.high] <;> omega) (by omega))
  have hF : -400000000000000000 ≤ force c s.high ∧ force c s.high ≤ 400000000000000000 := by have := kF.out; unfold force; omega
  have hfe : Hid (rul2 c s = decide (-force c s.high < -c.most * (c.vlo * 10000000))) := Lib.hid (by unfold rul2; rw [decide_eq_decide]; have e1 : c.least * c.vhi * 10000000 = c.least * (c.vhi * 10000000) := Int.mul_assoc _ _ _; have e2 : c.most * c.vlo * 10000000 = c.most * (c.vlo * 10000000) := Int.mul_assoc _ _ _; have e3 : -c.most * (c.vlo * 10000000) = -(c.most * (c.vlo * 10000000)) := Int.neg_mul _ _; omega)
  clear hc hs kF
  generalize force c s.high = F at *
  have hgc := grow_cell w
  go_enter Try.func98, Try.ntmps98
  go_wp2
  refine wp_region_grow (by kernel_rfl) (by kernel_rfl) ?_
  repeat (go_big_quiet_step ((first | (go_at_call 82; with_reducible exact Calls.grow (kL.out _)) | (go_at_call 80; with_reducible exact Calls.grow (kP.out _)))))
  refine wpQuiet_nil ?_
  rintro _ ⟨g, rfl⟩
  go_wp2_with (go_at_call 96; refine Calls.mono (progLess _ _ _ _ ?_) ?_; (first | omega | (rw [Int.neg_mul]; omega)); rintro e w1 ⟨t, rfl, ht, rfl⟩)
  go_ret
  exact BoolB.mk (by rw [hfe.out, ← ht.out]) g.h

set_option maxRecDepth 100000 in
set_option maxHeartbeats 4000000 in
theorem progRule3 {bc bs : Nat} (c : Cav) (s : St) (w : World) (hc : c.Ok) (hs : s.Ok) (ec : w.heap[bc]? = some (.cells #[.int .i64 c.vlo, .int .i64 c.vhi, .int .i64 c.least, .int .i64 c.most, .int .i64 c.f0, .int .i64 c.f1, .int .i64 c.h0, .int .i64 c.h1, .int .i64 c.rock, .int .i64 c.plo, .int .i64 c.phi] 96 (0, 0))) (es : w.heap[bs]? = some (.cells #[.int .i64 s.glo, .int .i64 s.ghi, .int .i64 s.ylo, .int .i64 s.yhi, .int .i64 s.tlo, .int .i64 s.thi, .int .i64 s.wlo, .int .i64 s.whi] 28 (0, 0))) :
    Calls Try.prog 99 #[.pointer (some ⟨bc, 0, none⟩), .pointer (some ⟨bs, 0, none⟩)] w (BoolB (thin c s) w) := by
  obtain ⟨zc, rc, tc⟩ := row_cells ec
  obtain ⟨qc_0, qc_1, qc_2, qc_3, qc_4, qc_5, qc_6, qc_7, qc_8, qc_9, qc_10⟩ := rc11 ec
  clear rc tc
  obtain ⟨zs, rs, ts⟩ := row_cells es
  obtain ⟨qs_0, qs_1, qs_2, qs_3, qs_4, qs_5, qs_6, qs_7⟩ := rc8 es
  clear rs ts
  have kT := Lib.hid (progThin c s w hc hs)
  clear hc hs
  go_enter Try.func99, Try.ntmps99
  go_wp2_with (go_at_call 76; (with_reducible refine Calls.mono kT.out ?_); rintro e w1 ⟨t, rfl, ht, hB⟩)
  go_ret
  exact BoolB.mk ht.out hB

set_option maxRecDepth 100000 in
set_option maxHeartbeats 4000000 in
theorem progRule4 {bc bs : Nat} (c : Cav) (s : St) (w : World) (hc : c.Ok) (hs : s.Ok) (ec : w.heap[bc]? = some (.cells #[.int .i64 c.vlo, .int .i64 c.vhi, .int .i64 c.least, .int .i64 c.most, .int .i64 c.f0, .int .i64 c.f1, .int .i64 c.h0, .int .i64 c.h1, .int .i64 c.rock, .int .i64 c.plo, .int .i64 c.phi] 96 (0, 0))) (es : w.heap[bs]? = some (.cells #[.int .i64 s.glo, .int .i64 s.ghi, .int .i64 s.ylo, .int .i64 s.yhi, .int .i64 s.tlo, .int .i64 s.thi, .int .i64 s.wlo, .int .i64 s.whi] 28 (0, 0))) :
    Calls Try.prog 100 #[.pointer (some ⟨bc, 0, none⟩), .pointer (some ⟨bs, 0, none⟩)] w (BoolB (rich c s) w) := by
  obtain ⟨zc, rc, tc⟩ := row_cells ec
  obtain ⟨qc_0, qc_1, qc_2, qc_3, qc_4, qc_5, qc_6, qc_7, qc_8, qc_9, qc_10⟩ := rc11 ec
  clear rc tc
  obtain ⟨zs, rs, ts⟩ := row_cells es
  obtain ⟨qs_0, qs_1, qs_2, qs_3, qs_4, qs_5, qs_6, qs_7⟩ := rc8 es
  clear rs ts
  have kT := Lib.hid (progRich c s w hc hs)
  clear hc hs
  go_enter Try.func100, Try.ntmps100
  go_wp2_with (go_at_call 77; (with_reducible refine Calls.mono kT.out ?_); rintro e w1 ⟨t, rfl, ht, hB⟩)
  go_ret
  exact BoolB.mk ht.out hB

/-- The tests of a state, in their order. -/
def rulAt (c : Cav) (s : St) (k : Nat) : Bool := match k with
  | 0 => rul1 c s
  | 1 => rul2 c s
  | 2 => thin c s
  | _ => rich c s
def rulTo (c : Cav) (s : St) (k : Nat) : Prop := ∀ j, j < k → rulAt c s j = false
theorem rulTo.next {c : Cav} {s : St} {k : Nat} (h : rulTo c s k) (h1 : rulAt c s k = false) : rulTo c s (k + 1) := by
  intro j hj
  by_cases e : j = k
  · rw [e]; exact h1
  · exact h j (by omega)
theorem sure_at {c : Cav} {s : St} {k : Nat} (hk : k < 4) (h : rulTo c s k) (h1 : rulAt c s k = true) : sure c s = 2 + (k : Int) := by
  have e0 : rul1 c s = decide (force c s.low < c.least * c.vhi * 10000000) := rfl
  have e1 : rul2 c s = decide (force c s.high > c.most * c.vlo * 10000000) := rfl
  match k, hk with
  | 0, _ => simp only [rulAt, e0, decide_eq_true_eq] at h1; simp [sure, h1]
  | 1, _ =>
    have a := h 0 (by omega)
    simp only [rulAt, e0, e1, decide_eq_true_eq, decide_eq_false_iff_not] at h1 a; simp [sure, a, h1]
  | 2, _ =>
    have a := h 0 (by omega); have b := h 1 (by omega)
    simp only [rulAt, e0, e1, decide_eq_true_eq, decide_eq_false_iff_not] at h1 a b; simp [sure, a, b, h1]
  | 3, _ =>
    have a := h 0 (by omega); have b := h 1 (by omega); have d := h 2 (by omega)
    simp only [rulAt, e0, e1, decide_eq_true_eq, decide_eq_false_iff_not] at h1 a b d; simp [sure, a, b, d, h1]
theorem sure_fine {c : Cav} {s : St} (h : rulTo c s 4) : sure c s = 1 := by
  have a := h 0 (by omega); have b := h 1 (by omega); have d := h 2 (by omega); have e := h 3 (by omega)
  have e0 : rul1 c s = decide (force c s.low < c.least * c.vhi * 10000000) := rfl
  have e1 : rul2 c s = decide (force c s.high > c.most * c.vlo * 10000000) := rfl
  simp only [rulAt, e0, e1, decide_eq_false_iff_not] at a b d e; simp [sure, a, b, d, e]

theorem four_index (a b c d : Value) (w : World) : (Instr.index 126 (.agg #[a, b, c, d]) (.int .i64 0)).run Try.prog w = .ok a w ∧ (Instr.index 126 (.agg #[a, b, c, d]) (.int .i64 1)).run Try.prog w = .ok b w ∧
    (Instr.index 126 (.agg #[a, b, c, d]) (.int .i64 2)).run Try.prog w = .ok c w ∧ (Instr.index 126 (.agg #[a, b, c, d]) (.int .i64 3)).run Try.prog w = .ok d w := by
  refine ⟨?_, ?_, ?_, ?_⟩ <;> kernel_rfl

set_option maxRecDepth 100000 in
set_option maxHeartbeats 4000000 in
theorem progRule (c : Cav) (s : St) (w : World) (hc : c.Ok) (hs : s.Ok) :
    Calls Try.prog 78 #[cavV c, stV s] w fun e w' => e = .returned (.int .i64 (sure c s)) ∧ Below w.heap.size w w' := by
  obtain ⟨W1, hW1⟩ : ∃ W1, w.alloc (.cells #[.int .i64 c.vlo, .int .i64 c.vhi, .int .i64 c.least, .int .i64 c.most, .int .i64 c.f0, .int .i64 c.f1, .int .i64 c.h0, .int .i64 c.h1, .int .i64 c.rock, .int .i64 c.plo, .int .i64 c.phi] 96) = W1 := ⟨_, rfl⟩
  obtain ⟨eW0, bW0, sW0⟩ := boxed hW1
  have yW0_0 : w.heap.size < W1.heap.size := by omega
  obtain ⟨mW0_0_0, mW0_0_1, mW0_0_2, mW0_0_3, mW0_0_4, mW0_0_5, mW0_0_6, mW0_0_7, mW0_0_8, mW0_0_9, mW0_0_10⟩ := rc11 eW0
  obtain ⟨W2, hW2⟩ : ∃ W2, W1.alloc (.cells #[.int .i64 s.glo, .int .i64 s.ghi, .int .i64 s.ylo, .int .i64 s.yhi, .int .i64 s.tlo, .int .i64 s.thi, .int .i64 s.wlo, .int .i64 s.whi] 28) = W2 := ⟨_, rfl⟩
  obtain ⟨eW1, bW1, sW1⟩ := boxed hW2
  have yW1_0 : w.heap.size < W2.heap.size := by omega
  replace eW0 := (bW1.block _ (Array.getElem?_eq_some_iff.1 eW0).1).trans eW0
  obtain ⟨mW1_0_0, mW1_0_1, mW1_0_2, mW1_0_3, mW1_0_4, mW1_0_5, mW1_0_6, mW1_0_7, mW1_0_8, mW1_0_9, mW1_0_10⟩ := rc11 eW0
  have yW1_1 : W1.heap.size < W2.heap.size := by omega
  obtain ⟨mW1_1_0, mW1_1_1, mW1_1_2, mW1_1_3, mW1_1_4, mW1_1_5, mW1_1_6, mW1_1_7⟩ := rc8 eW1
  obtain ⟨W, hW⟩ : ∃ W, W2.alloc (.cells #[(.func (.func 97) #[] #[.pointer (some ⟨w.heap.size, 0, none⟩), .pointer (some ⟨W1.heap.size, 0, none⟩)]), (.func (.func 98) #[] #[.pointer (some ⟨w.heap.size, 0, none⟩), .pointer (some ⟨W1.heap.size, 0, none⟩)]), (.func (.func 99) #[] #[.pointer (some ⟨w.heap.size, 0, none⟩), .pointer (some ⟨W1.heap.size, 0, none⟩)]), (.func (.func 100) #[] #[.pointer (some ⟨w.heap.size, 0, none⟩), .pointer (some ⟨W1.heap.size, 0, none⟩)])] 126) = W := ⟨_, rfl⟩
  obtain ⟨eW2, bW2, sW2⟩ := boxed hW
  replace eW0 := (bW2.block _ (Array.getElem?_eq_some_iff.1 eW0).1).trans eW0
  replace eW1 := (bW2.block _ (Array.getElem?_eq_some_iff.1 eW1).1).trans eW1
  have hBw : Below w.heap.size w W := (by have := sW0; have := sW1; have := sW2; exact ((bW0.trans (bW1.mono (by omega))).trans (bW2.mono (by omega))))
  obtain ⟨zW0, rW0, tW0⟩ := row_cells eW0
  obtain ⟨qW0_0, qW0_1, qW0_2, qW0_3, qW0_4, qW0_5, qW0_6, qW0_7, qW0_8, qW0_9, qW0_10⟩ := rc11 eW0
  obtain ⟨fW0_0, fW0_1, fW0_2, fW0_3, fW0_4, fW0_5, fW0_6, fW0_7, fW0_8, fW0_9, fW0_10⟩ := rf11 eW0
  have EW0 := Lib.hid eW0
  clear rW0 tW0 eW0
  obtain ⟨zW1, rW1, tW1⟩ := row_cells eW1
  obtain ⟨qW1_0, qW1_1, qW1_2, qW1_3, qW1_4, qW1_5, qW1_6, qW1_7⟩ := rc8 eW1
  obtain ⟨fW1_0, fW1_1, fW1_2, fW1_3, fW1_4, fW1_5, fW1_6, fW1_7⟩ := rf8 eW1
  have EW1 := Lib.hid eW1
  clear rW1 tW1 eW1
  obtain ⟨zW2, rW2, tW2⟩ := row_cells eW2
  obtain ⟨qW2_0, qW2_1, qW2_2, qW2_3⟩ := rc4 eW2
  obtain ⟨fW2_0, fW2_1, fW2_2, fW2_3⟩ := rf4 eW2
  have EW2 := Lib.hid eW2
  clear rW2 tW2 eW2
  have xW0 : w.heap.size ≤ w.heap.size := by omega
  have xW1 : w.heap.size ≤ W1.heap.size := by omega
  have xW2 : w.heap.size ≤ W2.heap.size := by omega
  clear bW0 sW0 bW1 sW1 bW2 sW2
  have en1 : ∀ args w, (callFunc 97 args).run Try.prog w = .ok (.enter 97 args) w := fun args w => by kernel_rfl
  have en2 : ∀ args w, (callFunc 98 args).run Try.prog w = .ok (.enter 98 args) w := fun args w => by kernel_rfl
  have en3 : ∀ args w, (callFunc 99 args).run Try.prog w = .ok (.enter 99 args) w := fun args w => by kernel_rfl
  have en4 : ∀ args w, (callFunc 100 args).run Try.prog w = .ok (.enter 100 args) w := fun args w => by kernel_rfl
  have hmf : ∀ (fn : Fn) (first cap : Array Value) (w : World), (Instr.makeFunc fn first cap).run Try.prog w = .ok (.func fn first cap) w := fun _ _ _ _ => rfl
  have kc : Hid (∀ g : Grow W, g.x.heap[w.heap.size]? = some (.cells #[.int .i64 c.vlo, .int .i64 c.vhi, .int .i64 c.least, .int .i64 c.most, .int .i64 c.f0, .int .i64 c.f1, .int .i64 c.h0, .int .i64 c.h1, .int .i64 c.rock, .int .i64 c.plo, .int .i64 c.phi] 96 (0, 0))) := Lib.hid (fun g => (g.h.block _ zW0).trans EW0.out)
  have ks : Hid (∀ g : Grow W, g.x.heap[W1.heap.size]? = some (.cells #[.int .i64 s.glo, .int .i64 s.ghi, .int .i64 s.ylo, .int .i64 s.yhi, .int .i64 s.tlo, .int .i64 s.thi, .int .i64 s.wlo, .int .i64 s.whi] 28 (0, 0))) := Lib.hid (fun g => (g.h.block _ zW1).trans EW1.out)
  go_enter Try.func78, Try.ntmps78
  go_wp2
  go_loopw [14] (fun i wr => ∃ g : Grow W, wr = g.x ∧ ((i = .int .i64 0 ∧ rulTo c s 0) ∨ (i = .int .i64 1 ∧ rulTo c s 1) ∨ (i = .int .i64 2 ∧ rulTo c s 2) ∨ (i = .int .i64 3 ∧ rulTo c s 3) ∨ (i = .int .i64 4 ∧ rulTo c s 4))) (fun i _ => (4 - intOf i).toNat)
  case atStart => exact ⟨Grow.self W, rfl, .inl ⟨rfl, fun j hj => absurd hj (by omega)⟩⟩
  case round =>
    obtain ⟨g, rfl, (⟨rfl, hH⟩ | ⟨rfl, hH⟩ | ⟨rfl, hH⟩ | ⟨rfl, hH⟩ | ⟨rfl, hH⟩)⟩ := hrel
    · have hx : ∀ w0 : World, (Instr.index 126 (.agg #[(.func (.func 97) #[] #[.pointer (some ⟨w.heap.size, 0, none⟩), .pointer (some ⟨W1.heap.size, 0, none⟩)]), (.func (.func 98) #[] #[.pointer (some ⟨w.heap.size, 0, none⟩), .pointer (some ⟨W1.heap.size, 0, none⟩)]), (.func (.func 99) #[] #[.pointer (some ⟨w.heap.size, 0, none⟩), .pointer (some ⟨W1.heap.size, 0, none⟩)]), (.func (.func 100) #[] #[.pointer (some ⟨w.heap.size, 0, none⟩), .pointer (some ⟨W1.heap.size, 0, none⟩)])]) (.int .i64 0)).run Try.prog w0 = .ok (.func (.func 97) #[] #[.pointer (some ⟨w.heap.size, 0, none⟩), .pointer (some ⟨W1.heap.size, 0, none⟩)]) w0 := fun w0 => (four_index _ _ _ _ w0).1
      cases hb : rulAt c s 0
      · have kR := Lib.hid (fun g : Grow W => (progRule1 c s g.x hc hs (kc.out g) (ks.out g)).mono fun e w' h => BoolB.lit h hb)
        have hH2 := Lib.hid (hH.next hb)
        clear hH hb
        go_wp2_with (go_at_call 97; (with_reducible refine Calls.mono (kR.out _) ?_); rintro e w1 ⟨rfl, hB⟩; obtain ⟨g, rfl⟩ := g.next hB; clear hB)
        exact ⟨⟨g, rfl, .inr (.inl ⟨rfl, hH2.out⟩)⟩, by simp [intOf]⟩
      · have kR := Lib.hid (fun g : Grow W => (progRule1 c s g.x hc hs (kc.out g) (ks.out g)).mono fun e w' h => BoolB.lit h hb)
        have hH2 := Lib.hid (sure_at (by omega) hH hb)
        clear hH hb
        go_wp2_with (go_at_call 97; (with_reducible refine Calls.mono (kR.out _) ?_); rintro e w1 ⟨rfl, hB⟩; obtain ⟨g, rfl⟩ := g.next hB; clear hB)
        go_ret
        exact ⟨by rw [hH2.out]; rfl, hBw.trans (g.h.mono hBw.size)⟩
    · have hx : ∀ w0 : World, (Instr.index 126 (.agg #[(.func (.func 97) #[] #[.pointer (some ⟨w.heap.size, 0, none⟩), .pointer (some ⟨W1.heap.size, 0, none⟩)]), (.func (.func 98) #[] #[.pointer (some ⟨w.heap.size, 0, none⟩), .pointer (some ⟨W1.heap.size, 0, none⟩)]), (.func (.func 99) #[] #[.pointer (some ⟨w.heap.size, 0, none⟩), .pointer (some ⟨W1.heap.size, 0, none⟩)]), (.func (.func 100) #[] #[.pointer (some ⟨w.heap.size, 0, none⟩), .pointer (some ⟨W1.heap.size, 0, none⟩)])]) (.int .i64 1)).run Try.prog w0 = .ok (.func (.func 98) #[] #[.pointer (some ⟨w.heap.size, 0, none⟩), .pointer (some ⟨W1.heap.size, 0, none⟩)]) w0 := fun w0 => (four_index _ _ _ _ w0).2.1
      cases hb : rulAt c s 1
      · have kR := Lib.hid (fun g : Grow W => (progRule2 c s g.x hc hs (kc.out g) (ks.out g)).mono fun e w' h => BoolB.lit h hb)
        have hH2 := Lib.hid (hH.next hb)
        clear hH hb
        go_wp2_with (go_at_call 98; (with_reducible refine Calls.mono (kR.out _) ?_); rintro e w1 ⟨rfl, hB⟩; obtain ⟨g, rfl⟩ := g.next hB; clear hB)
        exact ⟨⟨g, rfl, .inr (.inr (.inl ⟨rfl, hH2.out⟩))⟩, by simp [intOf]⟩
      · have kR := Lib.hid (fun g : Grow W => (progRule2 c s g.x hc hs (kc.out g) (ks.out g)).mono fun e w' h => BoolB.lit h hb)
        have hH2 := Lib.hid (sure_at (by omega) hH hb)
        clear hH hb
        go_wp2_with (go_at_call 98; (with_reducible refine Calls.mono (kR.out _) ?_); rintro e w1 ⟨rfl, hB⟩; obtain ⟨g, rfl⟩ := g.next hB; clear hB)
        go_ret
        exact ⟨by rw [hH2.out]; rfl, hBw.trans (g.h.mono hBw.size)⟩
    · have hx : ∀ w0 : World, (Instr.index 126 (.agg #[(.func (.func 97) #[] #[.pointer (some ⟨w.heap.size, 0, none⟩), .pointer (some ⟨W1.heap.size, 0, none⟩)]), (.func (.func 98) #[] #[.pointer (some ⟨w.heap.size, 0, none⟩), .pointer (some ⟨W1.heap.size, 0, none⟩)]), (.func (.func 99) #[] #[.pointer (some ⟨w.heap.size, 0, none⟩), .pointer (some ⟨W1.heap.size, 0, none⟩)]), (.func (.func 100) #[] #[.pointer (some ⟨w.heap.size, 0, none⟩), .pointer (some ⟨W1.heap.size, 0, none⟩)])]) (.int .i64 2)).run Try.prog w0 = .ok (.func (.func 99) #[] #[.pointer (some ⟨w.heap.size, 0, none⟩), .pointer (some ⟨W1.heap.size, 0, none⟩)]) w0 := fun w0 => (four_index _ _ _ _ w0).2.2.1
      cases hb : rulAt c s 2
      · have kR := Lib.hid (fun g : Grow W => (progRule3 c s g.x hc hs (kc.out g) (ks.out g)).mono fun e w' h => BoolB.lit h hb)
        have hH2 := Lib.hid (hH.next hb)
        clear hH hb
        go_wp2_with (go_at_call 99; (with_reducible refine Calls.mono (kR.out _) ?_); rintro e w1 ⟨rfl, hB⟩; obtain ⟨g, rfl⟩ := g.next hB; clear hB)
        exact ⟨⟨g, rfl, .inr (.inr (.inr (.inl ⟨rfl, hH2.out⟩)))⟩, by simp [intOf]⟩
      · have kR := Lib.hid (fun g : Grow W => (progRule3 c s g.x hc hs (kc.out g) (ks.out g)).mono fun e w' h => BoolB.lit h hb)
        have hH2 := Lib.hid (sure_at (by omega) hH hb)
        clear hH hb
        go_wp2_with (go_at_call 99; (with_reducible refine Calls.mono (kR.out _) ?_); rintro e w1 ⟨rfl, hB⟩; obtain ⟨g, rfl⟩ := g.next hB; clear hB)
        go_ret
        exact ⟨by rw [hH2.out]; rfl, hBw.trans (g.h.mono hBw.size)⟩
    · have hx : ∀ w0 : World, (Instr.index 126 (.agg #[(.func (.func 97) #[] #[.pointer (some ⟨w.heap.size, 0, none⟩), .pointer (some ⟨W1.heap.size, 0, none⟩)]), (.func (.func 98) #[] #[.pointer (some ⟨w.heap.size, 0, none⟩), .pointer (some ⟨W1.heap.size, 0, none⟩)]), (.func (.func 99) #[] #[.pointer (some ⟨w.heap.size, 0, none⟩), .pointer (some ⟨W1.heap.size, 0, none⟩)]), (.func (.func 100) #[] #[.pointer (some ⟨w.heap.size, 0, none⟩), .pointer (some ⟨W1.heap.size, 0, none⟩)])]) (.int .i64 3)).run Try.prog w0 = .ok (.func (.func 100) #[] #[.pointer (some ⟨w.heap.size, 0, none⟩), .pointer (some ⟨W1.heap.size, 0, none⟩)]) w0 := fun w0 => (four_index _ _ _ _ w0).2.2.2
      cases hb : rulAt c s 3
      · have kR := Lib.hid (fun g : Grow W => (progRule4 c s g.x hc hs (kc.out g) (ks.out g)).mono fun e w' h => BoolB.lit h hb)
        have hH2 := Lib.hid (hH.next hb)
        clear hH hb
        go_wp2_with (go_at_call 100; (with_reducible refine Calls.mono (kR.out _) ?_); rintro e w1 ⟨rfl, hB⟩; obtain ⟨g, rfl⟩ := g.next hB; clear hB)
        exact ⟨⟨g, rfl, .inr (.inr (.inr (.inr ⟨rfl, hH2.out⟩)))⟩, by simp [intOf]⟩
      · have kR := Lib.hid (fun g : Grow W => (progRule4 c s g.x hc hs (kc.out g) (ks.out g)).mono fun e w' h => BoolB.lit h hb)
        have hH2 := Lib.hid (sure_at (by omega) hH hb)
        clear hH hb
        go_wp2_with (go_at_call 100; (with_reducible refine Calls.mono (kR.out _) ?_); rintro e w1 ⟨rfl, hB⟩; obtain ⟨g, rfl⟩ := g.next hB; clear hB)
        go_ret
        exact ⟨by rw [hH2.out]; rfl, hBw.trans (g.h.mono hBw.size)⟩
    · go_wp2
      go_ret
      exact ⟨by rw [sure_fine hH]; rfl, hBw.trans (g.h.mono hBw.size)⟩
end Go.Proofs.Ytgmbolagciaenaa
