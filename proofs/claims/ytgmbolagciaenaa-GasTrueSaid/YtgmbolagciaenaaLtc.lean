/- Gas: the walk of the law GasTrue: its loop where an operation cannot be done; all joined. -/
import Derived.Test.YtgmbolagciaenaaLt
set_option linter.unusedVariables false
set_option linter.unusedSimpArgs false
namespace Go.Proofs.Ytgmbolagciaenaa
open Go.RowKit Go.Sd Gas
set_option maxRecDepth 100000 in
set_option maxHeartbeats 16000000 in
theorem lawTrue9 (c : Cav) (s : St) (lv : Value) (xs : List Gas.Op) (p : Pt) (av : Value) (xa : List Int) (bv : Value) (xb : List Int) (w : World) (hl : OpsAt w lv xs) (hfit : Fits lv) (ha : IntsAt w av xa) (hfa : Fits av) (hb : IntsAt w bv xb) (hfb : Fits bv) (h1 : xs.length ≤ 12) (h2 : xa.length ≤ 20) (h3 : xb.length ≤ 20) (hc : c.ok = true) (hs : s.ok = true) (ho : opsB xs = true) (hh : hasB s p = true) (ht : truthB xs xa xb = true) (R1 : List St) (R2 : Int) (hR : steps c s xs = (R1, R2)) (hRn : R2 = R1.length ∧ R1.length < xs.length) :
    Calls Try.prog 9 #[cavV c, stV s, lv, ptV p, av, bv] w fun e w' => e = .returned (.bool true) ∧ Below w.heap.size w w' := by
  obtain ⟨a, m, cap, rfl, hmc_xs, hcap_xs⟩ := hfit
  have hm : m = xs.length := by obtain ⟨a', c', e, -⟩ := hl; simp only [Value.slice.injEq] at e; exact e.2.1
  subst hm
  unfold maxLen at hcap_xs
  have hm_xs : xs.length ≤ 9223372036854775807 := by omega
  obtain ⟨a1, m1, cap1, rfl, hmc_xa, hcap_xa⟩ := hfa
  have hm : m1 = xa.length := by obtain ⟨a', c', e, -⟩ := ha; simp only [Value.slice.injEq] at e; exact e.2.1
  subst hm
  unfold maxLen at hcap_xa
  have hm_xa : xa.length ≤ 9223372036854775807 := by omega
  obtain ⟨a2, m2, cap2, rfl, hmc_xb, hcap_xb⟩ := hfb
  have hm : m2 = xb.length := by obtain ⟨a', c', e, -⟩ := hb; simp only [Value.slice.injEq] at e; exact e.2.1
  subst hm
  unfold maxLen at hcap_xb
  have hm_xb : xb.length ≤ 9223372036854775807 := by omega
  obtain ⟨W1, hW1⟩ : ∃ W1, w.alloc (.cells #[.int .i64 c.vlo, .int .i64 c.vhi, .int .i64 c.least, .int .i64 c.most, .int .i64 c.f0, .int .i64 c.f1, .int .i64 c.h0, .int .i64 c.h1, .int .i64 c.rock, .int .i64 c.plo, .int .i64 c.phi] 26) = W1 := ⟨_, rfl⟩
  obtain ⟨e_c, b_c, s_c⟩ := boxed hW1
  obtain ⟨W2, hW2⟩ : ∃ W2, W1.alloc (.cells #[.int .i64 s.glo, .int .i64 s.ghi, .int .i64 s.ylo, .int .i64 s.yhi, .int .i64 s.tlo, .int .i64 s.thi, .int .i64 s.wlo, .int .i64 s.whi] 28) = W2 := ⟨_, rfl⟩
  obtain ⟨e_s, b_s, s_s⟩ := boxed hW2
  replace e_c := (b_s.block _ (Array.getElem?_eq_some_iff.1 e_c).1).trans e_c
  obtain ⟨W, hW⟩ : ∃ W, W2.alloc (.cells #[.int .i64 p.g, .int .i64 p.y, .int .i64 p.t, .int .i64 p.w] 31) = W := ⟨_, rfl⟩
  obtain ⟨e_p, b_p, s_p⟩ := boxed hW
  replace e_c := (b_p.block _ (Array.getElem?_eq_some_iff.1 e_c).1).trans e_c
  replace e_s := (b_p.block _ (Array.getElem?_eq_some_iff.1 e_s).1).trans e_s
  have B0 : Below w.heap.size w W := ((b_c.trans (b_s.mono (by omega))).trans (b_p.mono (by omega)))
  have z0_c := (Array.getElem?_eq_some_iff.1 e_c).1
  have z0_s := (Array.getElem?_eq_some_iff.1 e_s).1
  have z0_p := (Array.getElem?_eq_some_iff.1 e_p).1
  have ne_c_s : (w.heap.size : Nat) ≠ W1.heap.size := by omega
  have ne_c_p : (w.heap.size : Nat) ≠ W2.heap.size := by omega
  have le_c : w.heap.size ≤ w.heap.size := by omega
  have ne_s_c : (W1.heap.size : Nat) ≠ w.heap.size := by omega
  have ne_s_p : (W1.heap.size : Nat) ≠ W2.heap.size := by omega
  have le_s : w.heap.size ≤ W1.heap.size := by omega
  have ne_p_c : (W2.heap.size : Nat) ≠ w.heap.size := by omega
  have ne_p_s : (W2.heap.size : Nat) ≠ W1.heap.size := by omega
  have le_p : w.heap.size ≤ W2.heap.size := by omega
  clear s_c b_c s_s b_s s_p b_p
  obtain ⟨q0_c_0, q0_c_1, q0_c_2, q0_c_3, q0_c_4, q0_c_5, q0_c_6, q0_c_7, q0_c_8, q0_c_9, q0_c_10⟩ := rc11 e_c
  replace e_c := Lib.hid e_c
  obtain ⟨q0_s_0, q0_s_1, q0_s_2, q0_s_3, q0_s_4, q0_s_5, q0_s_6, q0_s_7⟩ := rc8 e_s
  obtain ⟨f0_s_0, f0_s_1, f0_s_2, f0_s_3, f0_s_4, f0_s_5, f0_s_6, f0_s_7⟩ := rf8 e_s
  replace e_s := Lib.hid e_s
  obtain ⟨q0_p_0, q0_p_1, q0_p_2, q0_p_3⟩ := rc4 e_p
  obtain ⟨f0_p_0, f0_p_1, f0_p_2, f0_p_3⟩ := rf4 e_p
  replace e_p := Lib.hid e_p
  have hgw0 := grow_cell W
  have hK := Lib.hid (fun w => progKnown w)
  have hb0 := hb
  have hc' := Cav.ok_iff.1 hc; have hs' := St.ok_iff.1 hs
  obtain ⟨htl1, htl2, htr⟩ := truth_iff.1 ht
  obtain ⟨-, hsp2⟩ := steps_spec hR
  have kS : Hid (∀ w', Below w.heap.size w w' → W.heap.size ≤ w'.heap.size → Calls Try.prog 31 #[cavV c, stV s, .slice a xs.length cap] w' fun e w'' => (∃ v, e = .returned (.tuple #[v, .int .i64 R2, .int .i64 0]) ∧ OwnSts W.heap.size w'' v R1) ∧ Below w'.heap.size w' w'') := Lib.hid (fun w' hb hz => by have := progStepsOwn w' (hl.mono hb) hc' hs' ho (by omega); rw [hR] at this; exact this.mono fun e w'' ⟨⟨v, h1, h2⟩, h3⟩ => ⟨⟨v, h1, h2.from hz⟩, h3⟩)
  have i1 : ¬ (12 : Int) < xs.length := by omega
  have i2 : ¬ (20 : Int) < xa.length := by omega
  have i3 : ¬ (20 : Int) < xb.length := by omega
  have kRC := Lib.hid (fun w => (refCavern c w).mono fun e w' hb => BoolB.lit hb hc)
  have kRS := Lib.hid (fun w => (refState s w).mono fun e w' hb => BoolB.lit hb hs)
  have kRO : Hid (∀ w', Below w.heap.size w w' → Calls Try.prog 26 #[.slice a xs.length cap] w' fun e w'' => e = .returned (.bool true) ∧ Below w'.heap.size w' w'') := Lib.hid (fun w' hb => by have h0 := refOps _ xs w' (hl.mono hb); rw [ho] at h0; exact h0)
  have kRH := Lib.hid (fun w => (refHas s p w).mono fun e w' hb => BoolB.lit hb hh)
  have kRT : Hid (∀ w', Below w.heap.size w w' → Calls Try.prog 27 #[.slice a xs.length cap, .slice a1 xa.length cap1, .slice a2 xb.length cap2] w' fun e w'' => e = .returned (.bool true) ∧ Below w'.heap.size w' w'') := Lib.hid (fun w' hb => by have h0 := refTruth _ _ _ xs xa xb w' (hl.mono hb) (ha.mono hb) (hb0.mono hb); rw [ht] at h0; exact h0)
  have hstart : Hid (s = stBefore s R1 0 ∧ s.Ok ∧ s.Has p) := Lib.hid ⟨rfl, hs', hasB_iff.1 hh⟩
  have hRl : R1.length ≤ xs.length := by omega
  have hcX : Hid (∀ k, k < xs.length → ∃ b off, a = some ⟨b, off, none⟩ ∧ b < w.heap.size ∧ OpCells w b (off + k * 10) (theOp xs k)) := Lib.hid (fun k hk => by
    obtain ⟨a', c', e, -, h⟩ := hl
    simp only [Value.slice.injEq] at e
    obtain ⟨rfl, -, rfl⟩ := e
    obtain ⟨b, off, h1, h2, h3⟩ := h (by omega)
    exact ⟨b, off, h1, h2, h3 k hk⟩)
  have hcA : Hid (∀ k, k < xa.length → ∃ b off, a1 = some ⟨b, off, none⟩ ∧ b < w.heap.size ∧ w.cell? ⟨b, off + k, none⟩ = some (.int .i64 (at0 xa k))) := Lib.hid (fun k hk => by
    obtain ⟨a', c', e, -, h⟩ := ha
    simp only [Value.slice.injEq] at e
    obtain ⟨rfl, -, rfl⟩ := e
    obtain ⟨b, off, h1, h2, h3⟩ := h (by omega)
    exact ⟨b, off, h1, h2, h3 k hk⟩)
  have hcB : Hid (∀ k, k < xb.length → ∃ b off, a2 = some ⟨b, off, none⟩ ∧ b < w.heap.size ∧ w.cell? ⟨b, off + k, none⟩ = some (.int .i64 (at0 xb k))) := Lib.hid (fun k hk => by
    obtain ⟨a', c', e, -, h⟩ := hb0
    simp only [Value.slice.injEq] at e
    obtain ⟨rfl, -, rfl⟩ := e
    obtain ⟨b, off, h1, h2, h3⟩ := h (by omega)
    exact ⟨b, off, h1, h2, h3 k hk⟩)
  have hmx : xs.length ≤ maxLen := by unfold maxLen; omega
  clear hl ha hb hb0 hR
  replace hsp2 := Lib.hid hsp2; replace htr := Lib.hid htr; replace htl1 := Lib.hid htl1; replace htl2 := Lib.hid htl2
  have j1 : ¬ R2 < -1 := by omega
  have j2 : ¬ (xs.length : Int) ≤ R2 := by omega
  have j3 : ¬ R2 = -1 := by omega
  have j4 : (0 : Int) ≤ R2 := by omega
  have j5 : (R1.length : Int) = R2 := by omega
  replace hRn := Lib.hid hRn
  replace hc := Lib.hid hc; replace hs := Lib.hid hs; replace ho := Lib.hid ho; replace hh := Lib.hid hh; replace ht := Lib.hid ht; replace hc' := Lib.hid hc'; replace hs' := Lib.hid hs'
  go_enter Try.func9, Try.ntmps9
  go_upto_region 4 with (first | (go_at_call 17; (with_reducible refine Calls.mono (kRC.out _) ?_); rintro e w1 ⟨rfl, hB⟩; (first | (obtain ⟨g, rfl⟩ := g.next hB) | (obtain ⟨g, rfl⟩ : ∃ g : Grow W, w1 = g.x := ⟨⟨w1, hB⟩, rfl⟩)); clear hB) | (go_at_call 18; (with_reducible refine Calls.mono (kRS.out _) ?_); rintro e w1 ⟨rfl, hB⟩; (first | (obtain ⟨g, rfl⟩ := g.next hB) | (obtain ⟨g, rfl⟩ : ∃ g : Grow W, w1 = g.x := ⟨⟨w1, hB⟩, rfl⟩)); clear hB) | (go_at_call 26; (with_reducible refine Calls.mono (kRO.out _ (by first | (with_reducible exact B0.trans (g.h.mono B0.size)) | (with_reducible exact B0))) ?_); rintro e w1 ⟨rfl, hB⟩; (first | (obtain ⟨g, rfl⟩ := g.next hB) | (obtain ⟨g, rfl⟩ : ∃ g : Grow W, w1 = g.x := ⟨⟨w1, hB⟩, rfl⟩)); clear hB) | (go_at_call 34; (with_reducible refine Calls.mono (kRH.out _) ?_); rintro e w1 ⟨rfl, hB⟩; (first | (obtain ⟨g, rfl⟩ := g.next hB) | (obtain ⟨g, rfl⟩ : ∃ g : Grow W, w1 = g.x := ⟨⟨w1, hB⟩, rfl⟩)); clear hB) | (go_at_call 27; (with_reducible refine Calls.mono (kRT.out _ (by first | (with_reducible exact B0.trans (g.h.mono B0.size)) | (with_reducible exact B0))) ?_); rintro e w1 ⟨rfl, hB⟩; (first | (obtain ⟨g, rfl⟩ := g.next hB) | (obtain ⟨g, rfl⟩ : ∃ g : Grow W, w1 = g.x := ⟨⟨w1, hB⟩, rfl⟩)); clear hB) | (go_at_call 31; (with_reducible refine Calls.mono (kS.out _ (by first | (with_reducible exact B0.trans (g.h.mono B0.size)) | (with_reducible exact B0)) g.h.size) ?_); rintro e w1 ⟨⟨v1, rfl, hat1⟩, hB⟩; (first | (obtain ⟨g, rfl⟩ := g.next hB) | (obtain ⟨g, rfl⟩ : ∃ g : Grow W, w1 = g.x := ⟨⟨w1, hB⟩, rfl⟩)); clear hB))
  have g0 := g.h.size
  clear q0_c_0 q0_c_1 q0_c_2 q0_c_3 q0_c_4 q0_c_5 q0_c_6 q0_c_7 q0_c_8 q0_c_9 q0_c_10 q0_s_0 f0_s_0 q0_s_1 f0_s_1 q0_s_2 f0_s_2 q0_s_3 f0_s_3 q0_s_4 f0_s_4 q0_s_5 f0_s_5 q0_s_6 f0_s_6 q0_s_7 f0_s_7 q0_p_0 f0_p_0 q0_p_1 f0_p_1 q0_p_2 f0_p_2 q0_p_3 f0_p_3
  clear hgw0
  obtain ⟨N1, hN1⟩ : ∃ V, g.x = V := ⟨_, rfl⟩
  have A_c : N1.heap[w.heap.size]? = some (.cells #[.int .i64 c.vlo, .int .i64 c.vhi, .int .i64 c.least, .int .i64 c.most, .int .i64 c.f0, .int .i64 c.f1, .int .i64 c.h0, .int .i64 c.h1, .int .i64 c.rock, .int .i64 c.plo, .int .i64 c.phi] 26 (0, 0)) := by rw [← hN1]; exact (g.h.block _ z0_c).trans e_c.out
  have A_s : N1.heap[W1.heap.size]? = some (.cells #[.int .i64 s.glo, .int .i64 s.ghi, .int .i64 s.ylo, .int .i64 s.yhi, .int .i64 s.tlo, .int .i64 s.thi, .int .i64 s.wlo, .int .i64 s.whi] 28 (0, 0)) := by rw [← hN1]; exact (g.h.block _ z0_s).trans e_s.out
  have A_p : N1.heap[W2.heap.size]? = some (.cells #[.int .i64 p.g, .int .i64 p.y, .int .i64 p.t, .int .i64 p.w] 31 (0, 0)) := by rw [← hN1]; exact (g.h.block _ z0_p).trans e_p.out
  have B1 : Below w.heap.size w N1 := by rw [← hN1]; exact B0.trans (g.h.mono B0.size)
  rw [hN1] at hat1
  rw [hN1] at g0
  rw [hN1]
  clear hN1
  have z1_c := (Array.getElem?_eq_some_iff.1 A_c).1
  have z1_s := (Array.getElem?_eq_some_iff.1 A_s).1
  have z1_p := (Array.getElem?_eq_some_iff.1 A_p).1
  have R1_c := Lib.hid A_c
  clear A_c
  have R1_s := Lib.hid A_s
  clear A_s
  have R1_p := Lib.hid A_p
  clear A_p
  have hgw1 := grow_cell N1
  obtain ⟨l1, c1, rfl⟩ := hat1.slice
  replace g0 := Lib.hid g0
  replace hat1 := Lib.hid hat1
  go_wp2_with (fail)
  clear j1 j2 j3 j4 j5
  clear hgw1
  go_loopw [16] (fun iv wr => ∃ (k : Nat) (z : St) (y : Pt), k ≤ R1.length ∧ iv = .int .i64 k ∧ Hid (z = stBefore s R1 k ∧ z.Ok ∧ z.Has y) ∧ Hid (OwnSts W.heap.size wr (.slice l1 R1.length c1) R1) ∧ Hid (W.heap.size ≤ wr.heap.size) ∧ Hid (wr.heap[w.heap.size]? = some (.cells #[.int .i64 c.vlo, .int .i64 c.vhi, .int .i64 c.least, .int .i64 c.most, .int .i64 c.f0, .int .i64 c.f1, .int .i64 c.h0, .int .i64 c.h1, .int .i64 c.rock, .int .i64 c.plo, .int .i64 c.phi] 26 (0, 0)) ∧ wr.heap[W1.heap.size]? = some (.cells #[.int .i64 z.glo, .int .i64 z.ghi, .int .i64 z.ylo, .int .i64 z.yhi, .int .i64 z.tlo, .int .i64 z.thi, .int .i64 z.wlo, .int .i64 z.whi] 28 (0, 0)) ∧ wr.heap[W2.heap.size]? = some (.cells #[.int .i64 y.g, .int .i64 y.y, .int .i64 y.t, .int .i64 y.w] 31 (0, 0)) ∧ Below w.heap.size w wr)) (fun iv _ => R1.length - (intOf iv).toNat)
  case atStart => exact ⟨0, s, p, by omega, rfl, hstart, hat1, g0, (Lib.hid ⟨R1_c.out, R1_s.out, R1_p.out, B1⟩)⟩
  case round =>
    clear hstart hat1 g0
    obtain ⟨k, z, y, hk, rfl, hI, hat1, g0, hrows⟩ := hrel
    have hgw1 := grow_cell N1
    obtain ⟨A_c, A_s, A_p, B2⟩ := hrows.out
    have z2_c := (Array.getElem?_eq_some_iff.1 A_c).1
    have z2_s := (Array.getElem?_eq_some_iff.1 A_s).1
    have z2_p := (Array.getElem?_eq_some_iff.1 A_p).1
    obtain ⟨q2_c_0, q2_c_1, q2_c_2, q2_c_3, q2_c_4, q2_c_5, q2_c_6, q2_c_7, q2_c_8, q2_c_9, q2_c_10⟩ := rc11 A_c
    have R2_c := Lib.hid A_c
    clear A_c
    obtain ⟨q2_s_0, q2_s_1, q2_s_2, q2_s_3, q2_s_4, q2_s_5, q2_s_6, q2_s_7⟩ := rc8 A_s
    have R2_s := Lib.hid A_s
    clear A_s
    obtain ⟨q2_p_0, q2_p_1, q2_p_2, q2_p_3⟩ := rc4 A_p
    have R2_p := Lib.hid A_p
    clear A_p
    have hgw2 := grow_cell wr
    by_cases hlt : k < R1.length
    · skip
      have t1 := htl1.out; have t2 := htl2.out
      have hki : (k : Int) < (xs.length : Int) := by omega
      have hka : (k : Int) < (xa.length : Int) := by omega
      have hkb : (k : Int) < (xb.length : Int) := by omega
      have hkr : (k : Int) < (R1.length : Int) := by omega
      have hkw : IntKind.i64.wrap ((k : Int) + 1) = (k : Int) + 1 := IntWalk.i64_in _ (by omega)
      have hcx : ¬ cap = k := by omega
      have hca : ¬ cap1 = k := by omega
      have hcb : ¬ cap2 = k := by omega
      have hx1 : (k : Int) + 1 ≤ (cap : Int) := by omega
      have hx2 : (k : Int) + 1 ≤ (cap1 : Int) := by omega
      have hx3 : (k : Int) + 1 ≤ (cap2 : Int) := by omega
      obtain ⟨b, off, rfl, hbl, hce⟩ := hcX.out k (by omega)
      obtain ⟨b1, off1, rfl, hbl1, hce1⟩ := hcA.out k (by omega)
      obtain ⟨b2, off2, rfl, hbl2, hce2⟩ := hcB.out k (by omega)
      clear t1 t2
      have hsl : Hid (∀ w', Below w.heap.size w w' → OpsAt w' (oneV b off 10 k cap) [theOp xs k] ∧ IntsAt w' (oneI b1 off1 k cap1) [at0 xa k] ∧ IntsAt w' (oneI b2 off2 k cap2) [at0 xb k]) := Lib.hid (fun w' hb => ⟨ops_one hmx (hce.mono hb) (Nat.lt_of_lt_of_le hbl hb.size), ints_one (kept_cell hb hce1) (Nat.lt_of_lt_of_le hbl1 hb.size), ints_one (kept_cell hb hce2) (Nat.lt_of_lt_of_le hbl2 hb.size)⟩)
      obtain ⟨d0, d1, d2, d3, d4, d5, d6, d7, d8, d9⟩ := hce.mono B2
      clear hce hce1 hce2
      have zb := World.block_lt_of_cell? _ ⟨b, _, none⟩ d0
      simp only at zb
      obtain ⟨hz, hzok, hzy⟩ := hI.out
      obtain ⟨q, hact⟩ := hsp2.out k hlt
      rw [← hz] at hact
      have hok : (theOp xs k).ok = true := opsB_iff.1 ho.out k (by omega)
      have htk := htr.out k (by omega)
      have htk' : inB (at0 xa k) (theOp xs k).slo (theOp xs k).shi = true ∧ inB (at0 xb k) (theOp xs k).wlo (theOp xs k).whi = true := by unfold trueAt at htk; simpa using htk
      obtain ⟨xq, gq, hnx, hqg, hnok, hpl⟩ := onePlay hc.out hzok hok hact hzy htk'.1 htk'.2
      obtain ⟨n, hn⟩ : ∃ n, theSt R1 k = n := ⟨_, rfl⟩
      rw [hn] at hact hnx hnok
      have kD := Lib.hid (fun w => progDoSome (c := c) (s := z) (o := theOp xs k) w hc.out (St.ok_iff.2 hzok) hok hact)
      have hnext : Hid (n = stBefore s R1 (k + 1) ∧ n.Ok ∧ n.Has xq) := Lib.hid ⟨by unfold stBefore; rw [if_neg (by omega), Nat.add_sub_cancel]; exact hn.symm, hnok, hnx⟩
      have kH := Lib.hid (fun w => (refHas n xq w).mono fun e w' hb => BoolB.lit hb (hasB_iff.2 hnx))
      have q0 : ¬ gq.g < q.glo := by have := hqg.g; omega
      have q1 : ¬ q.ghi < gq.g := by have := hqg.g; omega
      have q2 : ¬ gq.y < q.ylo := by have := hqg.y; omega
      have q3 : ¬ q.yhi < gq.y := by have := hqg.y; omega
      have q4 : ¬ gq.w < q.wlo := by have := hqg.w; omega
      have q5 : ¬ q.whi < gq.w := by have := hqg.w; omega
      have kP : Hid (∀ w', Below w.heap.size w w' → Calls Try.prog 23 #[cavV c, ptV y, oneV b off 10 k cap, oneI b1 off1 k cap1, oneI b2 off2 k cap2] w' fun e w'' => e = .returned (.tuple #[ptV xq, .agg #[.int .i64 gq.g, .int .i64 gq.y, .int .i64 0, .int .i64 gq.w], .int .i64 0]) ∧ Below w'.heap.size w' w'') := Lib.hid (fun w' hb => by obtain ⟨h1, h2, h3⟩ := hsl.out w' hb; exact hpl _ _ _ w' h1 h2 h3)
      clear hact htk htk' hpl hnx hqg hnok hsl hok hz hzok hzy hI
      generalize theOp xs k = ox at *
      go_wp2_with (fail)
      clear q2_c_0 q2_c_1 q2_c_2 q2_c_3 q2_c_4 q2_c_5 q2_c_6 q2_c_7 q2_c_8 q2_c_9 q2_c_10 q2_s_0 q2_s_1 q2_s_2 q2_s_3 q2_s_4 q2_s_5 q2_s_6 q2_s_7 q2_p_0 q2_p_1 q2_p_2 q2_p_3
      clear hgw2
      refine wp_region_noPanic ?_
      refine wp_region_locN 13 214 [9, 10] [113, 114, 115, 116, 117, 118, 119, 112, 120, 121, 122, 17, 18] [[], [], [], [], [2, 3], [4], [0, 1, 5], [6], [7], [7], [7], [], []] [IsV (cavV c), IsV (stV z), IsV (.slice (some ⟨b, off, none⟩) xs.length cap), IsV (.int .i64 k), IsV (.pointer (some ⟨b, off + k * 10, none⟩)), IsV (opV ox), IsV (.tuple #[stV n, outV q, .int .i64 0]), IsV (.tuple #[stV n, outV q, .int .i64 0]), IsV (stV n), IsV (outV q), IsV (.int .i64 0), NewAt wr.heap.size #[.int .i64 0, .int .i64 0, .int .i64 0, .int .i64 0, .int .i64 0, .int .i64 0, .int .i64 0, .int .i64 0] 28, NewAt wr.heap.size #[.int .i64 0, .int .i64 0, .int .i64 0, .int .i64 0, .int .i64 0, .int .i64 0] 35] [11, 12] (by kernel_rfl) (by kernel_rfl) (by kernel_rfl) (by kernel_rfl) (by kernel_rfl) (by kernel_rfl) rfl (fun _ _ _ _ h => h) ?_ ?_ ?_ ?_ ?_
      · exact List.forall_mem_cons.2 ⟨pers_v _, List.forall_mem_cons.2 ⟨pers_v _, List.forall_mem_cons.2 ⟨pers_v _, List.forall_mem_cons.2 ⟨pers_v _, List.forall_mem_cons.2 ⟨pers_v _, List.forall_mem_cons.2 ⟨pers_v _, List.forall_mem_cons.2 ⟨pers_v _, List.forall_mem_cons.2 ⟨pers_v _, List.forall_mem_cons.2 ⟨pers_v _, List.forall_mem_cons.2 ⟨pers_v _, List.forall_mem_cons.2 ⟨pers_v _, List.forall_mem_cons.2 ⟨pers_new _ _ _, List.forall_mem_cons.2 ⟨pers_new _ _ _, fun f h => by cases h⟩⟩⟩⟩⟩⟩⟩⟩⟩⟩⟩⟩⟩
      · intro k hk u x hu
        rcases List.mem_cons.1 hk with rfl | hk
        · exact NewAt.isNew (show NewAt _ _ _ u x from hu)
        · obtain rfl : k = 12 := by simpa using hk
          exact NewAt.isNew (show NewAt _ _ _ u x from hu)
      · refine ⟨?_, ?_, ?_, ?_, ?_, ?_, ?_, ?_, ?_, ?_, ?_, ?_, ?_, trivial⟩
        · intro vals x hb hf
          simp only [fillS, List.getD_cons_succ, List.getD_cons_zero, Act.put, List.setIfInBounds_toArray, List.set_cons_zero, List.set_cons_succ]
          have ar := (hb.block _ z2_c).trans R2_c.out
          obtain ⟨y0, y1, y2, y3, y4, y5, y6, y7, y8, y9, y10⟩ := rc11 ar
          clear ar
          go_wp2
          exact ⟨rfl, rfl, Below.refl _ _, _, rfl, rfl, (fun h => absurd h (by decide))⟩
        · intro vals x hb hf
          simp only [fillS, List.getD_cons_succ, List.getD_cons_zero, Act.put, List.setIfInBounds_toArray, List.set_cons_zero, List.set_cons_succ]
          have ar := (hb.block _ z2_s).trans R2_s.out
          obtain ⟨y0, y1, y2, y3, y4, y5, y6, y7⟩ := rc8 ar
          clear ar
          go_wp2
          exact ⟨rfl, rfl, Below.refl _ _, _, rfl, rfl, (fun h => absurd h (by decide))⟩
        · intro vals x hb hf
          simp only [fillS, List.getD_cons_succ, List.getD_cons_zero, Act.put, List.setIfInBounds_toArray, List.set_cons_zero, List.set_cons_succ]
          skip
          go_wp2
          exact ⟨rfl, rfl, Below.refl _ _, _, rfl, rfl, (fun h => absurd h (by decide))⟩
        · intro vals x hb hf
          simp only [fillS, List.getD_cons_succ, List.getD_cons_zero, Act.put, List.setIfInBounds_toArray, List.set_cons_zero, List.set_cons_succ]
          skip
          go_wp2
          exact ⟨rfl, rfl, Below.refl _ _, _, rfl, rfl, (fun h => absurd h (by decide))⟩
        · intro vals x hb hf
          simp only [fillS, List.getD_cons_succ, List.getD_cons_zero, Act.put, List.setIfInBounds_toArray, List.set_cons_zero, List.set_cons_succ]
          have h2 : vals 2 = .slice (some ⟨b, off, none⟩) xs.length cap := hf.1
          rw [h2]
          have h3 : vals 3 = .int .i64 k := hf.2.1
          rw [h3]
          skip
          go_wp2
          exact ⟨rfl, rfl, Below.refl _ _, _, rfl, rfl, (fun h => absurd h (by decide))⟩
        · intro vals x hb hf
          simp only [fillS, List.getD_cons_succ, List.getD_cons_zero, Act.put, List.setIfInBounds_toArray, List.set_cons_zero, List.set_cons_succ]
          have h4 : vals 4 = .pointer (some ⟨b, off + k * 10, none⟩) := hf.1
          rw [h4]
          have y0 := kept_cell hb d0
          have y1 := kept_cell hb d1
          have y2 := kept_cell hb d2
          have y3 := kept_cell hb d3
          have y4 := kept_cell hb d4
          have y5 := kept_cell hb d5
          have y6 := kept_cell hb d6
          have y7 := kept_cell hb d7
          have y8 := kept_cell hb d8
          have y9 := kept_cell hb d9
          go_wp2
          exact ⟨rfl, rfl, Below.refl _ _, _, rfl, rfl, (fun h => absurd h (by decide))⟩
        · intro vals x hb hf
          simp only [fillS, List.getD_cons_succ, List.getD_cons_zero, Act.put, List.setIfInBounds_toArray, List.set_cons_zero, List.set_cons_succ]
          have h0 : vals 0 = cavV c := hf.1
          rw [h0]
          have h1 : vals 1 = stV z := hf.2.1
          rw [h1]
          have h5 : vals 5 = opV ox := hf.2.2.1
          rw [h5]
          have hbx : Below w.heap.size w x := B2.trans (hb.mono B2.size)
          go_wp2_with (go_at_call 16; (with_reducible refine Calls.mono (kD.out _) ?_); rintro e y ⟨rfl, hB⟩)
          exact ⟨rfl, rfl, hB, _, rfl, rfl, (fun h => absurd h (by decide))⟩
        · intro vals x hb hf
          simp only [fillS, List.getD_cons_succ, List.getD_cons_zero, Act.put, List.setIfInBounds_toArray, List.set_cons_zero, List.set_cons_succ]
          have h6 : vals 6 = .tuple #[stV n, outV q, .int .i64 0] := hf.1
          rw [h6]
          skip
          go_wp2
          exact ⟨rfl, rfl, Below.refl _ _, _, rfl, rfl, (fun h => absurd h (by decide))⟩
        · intro vals x hb hf
          simp only [fillS, List.getD_cons_succ, List.getD_cons_zero, Act.put, List.setIfInBounds_toArray, List.set_cons_zero, List.set_cons_succ]
          have h7 : vals 7 = .tuple #[stV n, outV q, .int .i64 0] := hf.1
          rw [h7]
          skip
          go_wp2
          exact ⟨rfl, rfl, Below.refl _ _, _, rfl, rfl, (fun h => absurd h (by decide))⟩
        · intro vals x hb hf
          simp only [fillS, List.getD_cons_succ, List.getD_cons_zero, Act.put, List.setIfInBounds_toArray, List.set_cons_zero, List.set_cons_succ]
          have h7 : vals 7 = .tuple #[stV n, outV q, .int .i64 0] := hf.1
          rw [h7]
          skip
          go_wp2
          exact ⟨rfl, rfl, Below.refl _ _, _, rfl, rfl, (fun h => absurd h (by decide))⟩
        · intro vals x hb hf
          simp only [fillS, List.getD_cons_succ, List.getD_cons_zero, Act.put, List.setIfInBounds_toArray, List.set_cons_zero, List.set_cons_succ]
          have h7 : vals 7 = .tuple #[stV n, outV q, .int .i64 0] := hf.1
          rw [h7]
          skip
          go_wp2
          exact ⟨rfl, rfl, Below.refl _ _, _, rfl, rfl, (fun h => absurd h (by decide))⟩
        · intro vals x hb hf
          simp only [fillS, List.getD_cons_succ, List.getD_cons_zero, Act.put, List.setIfInBounds_toArray, List.set_cons_zero, List.set_cons_succ]
          go_wp2
          exact ⟨rfl, rfl, (Below.refl _ _).alloc (Nat.le_refl _) _, _, rfl, ⟨_, rfl, hb.size, World.alloc_heap_new _ _⟩, fun _ => rfl⟩
        · intro vals x hb hf
          simp only [fillS, List.getD_cons_succ, List.getD_cons_zero, Act.put, List.setIfInBounds_toArray, List.set_cons_zero, List.set_cons_succ]
          go_wp2
          exact ⟨rfl, rfl, (Below.refl _ _).alloc (Nat.le_refl _) _, _, rfl, ⟨_, rfl, hb.size, World.alloc_heap_new _ _⟩, fun _ => rfl⟩
      · intro j hj o ho vals x hb hf
        rcases List.mem_cons.1 hj with rfl | hj
        · obtain rfl := Option.some.inj ho
          simp only [fillS, List.getD_cons_succ, List.getD_cons_zero, Act.put, List.setIfInBounds_toArray, List.set_cons_zero, List.set_cons_succ]
          have h7 : vals 7 = .tuple #[stV n, outV q, .int .i64 0] := hf.1
          rw [h7]
          exact ⟨_, .inl ⟨rfl, fun w => rfl⟩, rfl, (fun h => absurd h (by decide))⟩
        · obtain rfl : j = 10 := by simpa using hj
          obtain rfl := Option.some.inj ho
          simp only [fillS, List.getD_cons_succ, List.getD_cons_zero, Act.put, List.setIfInBounds_toArray, List.set_cons_zero, List.set_cons_succ]
          have h7 : vals 7 = .tuple #[stV n, outV q, .int .i64 0] := hf.1
          rw [h7]
          exact ⟨_, .inl ⟨rfl, fun w => rfl⟩, rfl, (fun h => absurd h (by decide))⟩
      · intro vals x hb hf hp
        have hrange : List.range 13 = [0, 1, 2, 3, 4, 5, 6, 7, 8, 9, 10, 11, 12] := by rfl
        rw [hrange]
        simp only [fillS, List.getD_cons_succ, List.getD_cons_zero, Act.put, List.setIfInBounds_toArray, List.set_cons_zero, List.set_cons_succ]
        have h0 : vals 0 = cavV c := hf 0 (by omega)
        have h1 : vals 1 = stV z := hf 1 (by omega)
        have h2 : vals 2 = .slice (some ⟨b, off, none⟩) xs.length cap := hf 2 (by omega)
        have h3 : vals 3 = .int .i64 k := hf 3 (by omega)
        have h4 : vals 4 = .pointer (some ⟨b, off + k * 10, none⟩) := hf 4 (by omega)
        have h5 : vals 5 = opV ox := hf 5 (by omega)
        have h6 : vals 6 = .tuple #[stV n, outV q, .int .i64 0] := hf 6 (by omega)
        have h7 : vals 7 = .tuple #[stV n, outV q, .int .i64 0] := hf 7 (by omega)
        have h8 : vals 8 = stV n := hf 8 (by omega)
        have h9 : vals 9 = outV q := hf 9 (by omega)
        have h10 : vals 10 = .int .i64 0 := hf 10 (by omega)
        obtain ⟨blk_n, hv_n, l_n, A_n⟩ : NewAt wr.heap.size #[.int .i64 0, .int .i64 0, .int .i64 0, .int .i64 0, .int .i64 0, .int .i64 0, .int .i64 0, .int .i64 0] 28 (vals 11) x := hf 11 (by omega)
        obtain ⟨blk_q, hv_q, l_q, A_q⟩ : NewAt wr.heap.size #[.int .i64 0, .int .i64 0, .int .i64 0, .int .i64 0, .int .i64 0, .int .i64 0] 35 (vals 12) x := hf 12 (by omega)
        have ne_n_q : (blk_n : Nat) ≠ blk_q := by
          intro h
          have h1 := hp 11 12 (by omega) (by omega) (by omega) rfl rfl
          rw [hv_n, hv_q, h] at h1
          exact h1 rfl
        have ne_q_n := Ne.symm ne_n_q
        rw [h0, h1, h2, h3, h4, h5, h6, h7, h8, h9, h10, hv_n, hv_q]
        clear h0 h1 h2 h3 h4 h5 h6 h7 h8 h9 h10 hv_n hv_q hf hp hrange
        have A_c := (hb.block _ z2_c).trans R2_c.out
        have ne_c_n : (w.heap.size : Nat) ≠ blk_n := by have := z2_c; omega
        have ne_c_q : (w.heap.size : Nat) ≠ blk_q := by have := z2_c; omega
        replace A_c := Lib.hid A_c
        have A_s := (hb.block _ z2_s).trans R2_s.out
        have ne_s_n : (W1.heap.size : Nat) ≠ blk_n := by have := z2_s; omega
        have ne_s_q : (W1.heap.size : Nat) ≠ blk_q := by have := z2_s; omega
        replace A_s := Lib.hid A_s
        have A_p := (hb.block _ z2_p).trans R2_p.out
        have ne_p_n : (W2.heap.size : Nat) ≠ blk_n := by have := z2_p; omega
        have ne_p_q : (W2.heap.size : Nat) ≠ blk_q := by have := z2_p; omega
        replace A_p := Lib.hid A_p
        have B3 : Below w.heap.size w x := B2.trans (hb.mono B2.size)
        have hLw := B2.size
        have le_n : w.heap.size ≤ blk_n := by omega
        obtain ⟨p_n_0, p_n_1, p_n_2, p_n_3, p_n_4, p_n_5, p_n_6, p_n_7⟩ := rc8 A_n
        obtain ⟨g_n_0, g_n_1, g_n_2, g_n_3, g_n_4, g_n_5, g_n_6, g_n_7⟩ := rf8 A_n
        replace A_n := Lib.hid A_n
        have le_q : w.heap.size ≤ blk_q := by omega
        obtain ⟨p_q_0, p_q_1, p_q_2, p_q_3, p_q_4, p_q_5⟩ := rc6 A_q
        obtain ⟨g_q_0, g_q_1, g_q_2, g_q_3, g_q_4, g_q_5⟩ := rf6 A_q
        replace A_q := Lib.hid A_q
        go_wp2
        refine NoPanic.normal ?_
        generalize hV3 : World.setCell _ ⟨blk_q, 5, none⟩ _ = M3
        have C_c : M3.heap[w.heap.size]? = some (.cells #[.int .i64 c.vlo, .int .i64 c.vhi, .int .i64 c.least, .int .i64 c.most, .int .i64 c.f0, .int .i64 c.f1, .int .i64 c.h0, .int .i64 c.h1, .int .i64 c.rock, .int .i64 c.plo, .int .i64 c.phi] 26 (0, 0)) := by rw [← hV3]; have h2 := (set_far (n := blk_q) 5 (.int .i64 q.whi) ne_c_q (set_far (n := blk_q) 4 (.int .i64 q.wlo) ne_c_q (set_far (n := blk_q) 3 (.int .i64 q.yhi) ne_c_q (set_far (n := blk_q) 2 (.int .i64 q.ylo) ne_c_q (set_far (n := blk_q) 1 (.int .i64 q.ghi) ne_c_q (set_far (n := blk_q) 0 (.int .i64 q.glo) ne_c_q (set_far (n := blk_n) 7 (.int .i64 n.whi) ne_c_n (set_far (n := blk_n) 6 (.int .i64 n.wlo) ne_c_n (set_far (n := blk_n) 5 (.int .i64 n.thi) ne_c_n (set_far (n := blk_n) 4 (.int .i64 n.tlo) ne_c_n (set_far (n := blk_n) 3 (.int .i64 n.yhi) ne_c_n (set_far (n := blk_n) 2 (.int .i64 n.ylo) ne_c_n (set_far (n := blk_n) 1 (.int .i64 n.ghi) ne_c_n (set_far (n := blk_n) 0 (.int .i64 n.glo) ne_c_n A_c.out)))))))))))))); exact h2
        have C_s : M3.heap[W1.heap.size]? = some (.cells #[.int .i64 z.glo, .int .i64 z.ghi, .int .i64 z.ylo, .int .i64 z.yhi, .int .i64 z.tlo, .int .i64 z.thi, .int .i64 z.wlo, .int .i64 z.whi] 28 (0, 0)) := by rw [← hV3]; have h2 := (set_far (n := blk_q) 5 (.int .i64 q.whi) ne_s_q (set_far (n := blk_q) 4 (.int .i64 q.wlo) ne_s_q (set_far (n := blk_q) 3 (.int .i64 q.yhi) ne_s_q (set_far (n := blk_q) 2 (.int .i64 q.ylo) ne_s_q (set_far (n := blk_q) 1 (.int .i64 q.ghi) ne_s_q (set_far (n := blk_q) 0 (.int .i64 q.glo) ne_s_q (set_far (n := blk_n) 7 (.int .i64 n.whi) ne_s_n (set_far (n := blk_n) 6 (.int .i64 n.wlo) ne_s_n (set_far (n := blk_n) 5 (.int .i64 n.thi) ne_s_n (set_far (n := blk_n) 4 (.int .i64 n.tlo) ne_s_n (set_far (n := blk_n) 3 (.int .i64 n.yhi) ne_s_n (set_far (n := blk_n) 2 (.int .i64 n.ylo) ne_s_n (set_far (n := blk_n) 1 (.int .i64 n.ghi) ne_s_n (set_far (n := blk_n) 0 (.int .i64 n.glo) ne_s_n A_s.out)))))))))))))); exact h2
        have C_p : M3.heap[W2.heap.size]? = some (.cells #[.int .i64 y.g, .int .i64 y.y, .int .i64 y.t, .int .i64 y.w] 31 (0, 0)) := by rw [← hV3]; have h2 := (set_far (n := blk_q) 5 (.int .i64 q.whi) ne_p_q (set_far (n := blk_q) 4 (.int .i64 q.wlo) ne_p_q (set_far (n := blk_q) 3 (.int .i64 q.yhi) ne_p_q (set_far (n := blk_q) 2 (.int .i64 q.ylo) ne_p_q (set_far (n := blk_q) 1 (.int .i64 q.ghi) ne_p_q (set_far (n := blk_q) 0 (.int .i64 q.glo) ne_p_q (set_far (n := blk_n) 7 (.int .i64 n.whi) ne_p_n (set_far (n := blk_n) 6 (.int .i64 n.wlo) ne_p_n (set_far (n := blk_n) 5 (.int .i64 n.thi) ne_p_n (set_far (n := blk_n) 4 (.int .i64 n.tlo) ne_p_n (set_far (n := blk_n) 3 (.int .i64 n.yhi) ne_p_n (set_far (n := blk_n) 2 (.int .i64 n.ylo) ne_p_n (set_far (n := blk_n) 1 (.int .i64 n.ghi) ne_p_n (set_far (n := blk_n) 0 (.int .i64 n.glo) ne_p_n A_p.out)))))))))))))); exact h2
        have C_n : M3.heap[blk_n]? = some (.cells #[.int .i64 n.glo, .int .i64 n.ghi, .int .i64 n.ylo, .int .i64 n.yhi, .int .i64 n.tlo, .int .i64 n.thi, .int .i64 n.wlo, .int .i64 n.whi] 28 (0, 0)) := by rw [← hV3]; have h2 := (set_far (n := blk_q) 5 (.int .i64 q.whi) ne_n_q (set_far (n := blk_q) 4 (.int .i64 q.wlo) ne_n_q (set_far (n := blk_q) 3 (.int .i64 q.yhi) ne_n_q (set_far (n := blk_q) 2 (.int .i64 q.ylo) ne_n_q (set_far (n := blk_q) 1 (.int .i64 q.ghi) ne_n_q (set_far (n := blk_q) 0 (.int .i64 q.glo) ne_n_q (set_one (set_one (set_one (set_one (set_one (set_one (set_one (set_one A_n.out 0 (.int .i64 n.glo)) 1 (.int .i64 n.ghi)) 2 (.int .i64 n.ylo)) 3 (.int .i64 n.yhi)) 4 (.int .i64 n.tlo)) 5 (.int .i64 n.thi)) 6 (.int .i64 n.wlo)) 7 (.int .i64 n.whi)))))))); simp only [List.setIfInBounds_toArray, List.set_cons_zero, List.set_cons_succ] at h2; exact h2
        have C_q : M3.heap[blk_q]? = some (.cells #[.int .i64 q.glo, .int .i64 q.ghi, .int .i64 q.ylo, .int .i64 q.yhi, .int .i64 q.wlo, .int .i64 q.whi] 35 (0, 0)) := by rw [← hV3]; have h2 := (set_one (set_one (set_one (set_one (set_one (set_one (set_far (n := blk_n) 7 (.int .i64 n.whi) ne_q_n (set_far (n := blk_n) 6 (.int .i64 n.wlo) ne_q_n (set_far (n := blk_n) 5 (.int .i64 n.thi) ne_q_n (set_far (n := blk_n) 4 (.int .i64 n.tlo) ne_q_n (set_far (n := blk_n) 3 (.int .i64 n.yhi) ne_q_n (set_far (n := blk_n) 2 (.int .i64 n.ylo) ne_q_n (set_far (n := blk_n) 1 (.int .i64 n.ghi) ne_q_n (set_far (n := blk_n) 0 (.int .i64 n.glo) ne_q_n A_q.out)))))))) 0 (.int .i64 q.glo)) 1 (.int .i64 q.ghi)) 2 (.int .i64 q.ylo)) 3 (.int .i64 q.yhi)) 4 (.int .i64 q.wlo)) 5 (.int .i64 q.whi)); simp only [List.setIfInBounds_toArray, List.set_cons_zero, List.set_cons_succ] at h2; exact h2
        replace B3 : Below w.heap.size w M3 := by rw [← hV3]; exact (Below.setCell (p := ⟨blk_q, 5, none⟩) (Below.setCell (p := ⟨blk_q, 4, none⟩) (Below.setCell (p := ⟨blk_q, 3, none⟩) (Below.setCell (p := ⟨blk_q, 2, none⟩) (Below.setCell (p := ⟨blk_q, 1, none⟩) (Below.setCell (p := ⟨blk_q, 0, none⟩) (Below.setCell (p := ⟨blk_n, 7, none⟩) (Below.setCell (p := ⟨blk_n, 6, none⟩) (Below.setCell (p := ⟨blk_n, 5, none⟩) (Below.setCell (p := ⟨blk_n, 4, none⟩) (Below.setCell (p := ⟨blk_n, 3, none⟩) (Below.setCell (p := ⟨blk_n, 2, none⟩) (Below.setCell (p := ⟨blk_n, 1, none⟩) (Below.setCell (p := ⟨blk_n, 0, none⟩) B3 le_n (.int .i64 n.glo)) le_n (.int .i64 n.ghi)) le_n (.int .i64 n.ylo)) le_n (.int .i64 n.yhi)) le_n (.int .i64 n.tlo)) le_n (.int .i64 n.thi)) le_n (.int .i64 n.wlo)) le_n (.int .i64 n.whi)) le_q (.int .i64 q.glo)) le_q (.int .i64 q.ghi)) le_q (.int .i64 q.ylo)) le_q (.int .i64 q.yhi)) le_q (.int .i64 q.wlo)) le_q (.int .i64 q.whi))
        have BK : Below wr.heap.size wr M3 := by rw [← hV3]; exact (Below.setCell (p := ⟨blk_q, 5, none⟩) (Below.setCell (p := ⟨blk_q, 4, none⟩) (Below.setCell (p := ⟨blk_q, 3, none⟩) (Below.setCell (p := ⟨blk_q, 2, none⟩) (Below.setCell (p := ⟨blk_q, 1, none⟩) (Below.setCell (p := ⟨blk_q, 0, none⟩) (Below.setCell (p := ⟨blk_n, 7, none⟩) (Below.setCell (p := ⟨blk_n, 6, none⟩) (Below.setCell (p := ⟨blk_n, 5, none⟩) (Below.setCell (p := ⟨blk_n, 4, none⟩) (Below.setCell (p := ⟨blk_n, 3, none⟩) (Below.setCell (p := ⟨blk_n, 2, none⟩) (Below.setCell (p := ⟨blk_n, 1, none⟩) (Below.setCell (p := ⟨blk_n, 0, none⟩) hb l_n (.int .i64 n.glo)) l_n (.int .i64 n.ghi)) l_n (.int .i64 n.ylo)) l_n (.int .i64 n.yhi)) l_n (.int .i64 n.tlo)) l_n (.int .i64 n.thi)) l_n (.int .i64 n.wlo)) l_n (.int .i64 n.whi)) l_q (.int .i64 q.glo)) l_q (.int .i64 q.ghi)) l_q (.int .i64 q.ylo)) l_q (.int .i64 q.yhi)) l_q (.int .i64 q.wlo)) l_q (.int .i64 q.whi))
        clear hV3 hb hLw l_n l_q p_n_0 g_n_0 p_n_1 g_n_1 p_n_2 g_n_2 p_n_3 g_n_3 p_n_4 g_n_4 p_n_5 g_n_5 p_n_6 g_n_6 p_n_7 g_n_7 p_q_0 g_q_0 p_q_1 g_q_1 p_q_2 g_q_2 p_q_3 g_q_3 p_q_4 g_q_4 p_q_5 g_q_5
        replace A_c := C_c
        clear C_c
        replace A_s := C_s
        clear C_s
        replace A_p := C_p
        clear C_p
        replace A_n := C_n
        clear C_n
        replace A_q := C_q
        clear C_q
        have z3_c := (Array.getElem?_eq_some_iff.1 A_c).1
        have z3_s := (Array.getElem?_eq_some_iff.1 A_s).1
        have z3_p := (Array.getElem?_eq_some_iff.1 A_p).1
        have z3_n := (Array.getElem?_eq_some_iff.1 A_n).1
        have z3_q := (Array.getElem?_eq_some_iff.1 A_q).1
        obtain ⟨q3_c_0, q3_c_1, q3_c_2, q3_c_3, q3_c_4, q3_c_5, q3_c_6, q3_c_7, q3_c_8, q3_c_9, q3_c_10⟩ := rc11 A_c
        have R3_c := Lib.hid A_c
        clear A_c
        have R3_s := Lib.hid A_s
        clear A_s
        obtain ⟨q3_p_0, q3_p_1, q3_p_2, q3_p_3⟩ := rc4 A_p
        have R3_p := Lib.hid A_p
        clear A_p
        have R3_n := Lib.hid A_n
        clear A_n
        have R3_q := Lib.hid A_q
        clear A_q
        have hgw3 := grow_cell M3
        clear d0 d1 d2 d3 d4 d5 d6 d7 d8 d9 zb kD
        replace hat1 := Lib.hid (hat1.out.mono BK)
        replace g0 := Lib.hid (Nat.le_trans g0.out BK.size)
        clear BK
        go_wp2_with (fail)
        clear q3_c_0 q3_c_1 q3_c_2 q3_c_3 q3_c_4 q3_c_5 q3_c_6 q3_c_7 q3_c_8 q3_c_9 q3_c_10 q3_p_0 q3_p_1 q3_p_2 q3_p_3
        clear hgw3
        refine wp_region_noPanic ?_
        refine wp_region_locN 24 214 [20, 21] [124, 125, 126, 127, 128, 129, 130, 131, 132, 133, 134, 135, 136, 137, 138, 139, 140, 141, 123, 142, 143, 144, 20, 21] [[], [], [], [], [], [4], [2, 3, 5], [], [], [], [9], [7, 8, 10], [], [], [], [14], [12, 13, 15], [0, 1, 6, 11, 16], [17], [18], [18], [18], [], []] [IsV (cavV c), IsV (ptV y), IsV (.slice (some ⟨b, off, none⟩) xs.length cap), IsV (.int .i64 k), IsV (.int .i64 k), IsV (.int .i64 ((k : Int) + 1)), IsV (oneV b off 10 k cap), IsV (.slice (some ⟨b1, off1, none⟩) xa.length cap1), IsV (.int .i64 k), IsV (.int .i64 k), IsV (.int .i64 ((k : Int) + 1)), IsV (oneI b1 off1 k cap1), IsV (.slice (some ⟨b2, off2, none⟩) xb.length cap2), IsV (.int .i64 k), IsV (.int .i64 k), IsV (.int .i64 ((k : Int) + 1)), IsV (oneI b2 off2 k cap2), IsV (.tuple #[ptV xq, .agg #[.int .i64 gq.g, .int .i64 gq.y, .int .i64 0, .int .i64 gq.w], .int .i64 0]), IsV (.tuple #[ptV xq, .agg #[.int .i64 gq.g, .int .i64 gq.y, .int .i64 0, .int .i64 gq.w], .int .i64 0]), IsV (ptV xq), IsV (.agg #[.int .i64 gq.g, .int .i64 gq.y, .int .i64 0, .int .i64 gq.w]), IsV (.int .i64 0), NewAt M3.heap.size #[.int .i64 0, .int .i64 0, .int .i64 0, .int .i64 0] 31, NewAt M3.heap.size #[.int .i64 0, .int .i64 0, .int .i64 0, .int .i64 0] 31] [22, 23] (by kernel_rfl) (by kernel_rfl) (by kernel_rfl) (by kernel_rfl) (by kernel_rfl) (by kernel_rfl) rfl (fun _ _ _ _ h => h) ?_ ?_ ?_ ?_ ?_
        · exact List.forall_mem_cons.2 ⟨pers_v _, List.forall_mem_cons.2 ⟨pers_v _, List.forall_mem_cons.2 ⟨pers_v _, List.forall_mem_cons.2 ⟨pers_v _, List.forall_mem_cons.2 ⟨pers_v _, List.forall_mem_cons.2 ⟨pers_v _, List.forall_mem_cons.2 ⟨pers_v _, List.forall_mem_cons.2 ⟨pers_v _, List.forall_mem_cons.2 ⟨pers_v _, List.forall_mem_cons.2 ⟨pers_v _, List.forall_mem_cons.2 ⟨pers_v _, List.forall_mem_cons.2 ⟨pers_v _, List.forall_mem_cons.2 ⟨pers_v _, List.forall_mem_cons.2 ⟨pers_v _, List.forall_mem_cons.2 ⟨pers_v _, List.forall_mem_cons.2 ⟨pers_v _, List.forall_mem_cons.2 ⟨pers_v _, List.forall_mem_cons.2 ⟨pers_v _, List.forall_mem_cons.2 ⟨pers_v _, List.forall_mem_cons.2 ⟨pers_v _, List.forall_mem_cons.2 ⟨pers_v _, List.forall_mem_cons.2 ⟨pers_v _, List.forall_mem_cons.2 ⟨pers_new _ _ _, List.forall_mem_cons.2 ⟨pers_new _ _ _, fun f h => by cases h⟩⟩⟩⟩⟩⟩⟩⟩⟩⟩⟩⟩⟩⟩⟩⟩⟩⟩⟩⟩⟩⟩⟩⟩
        · intro k hk u x hu
          rcases List.mem_cons.1 hk with rfl | hk
          · exact NewAt.isNew (show NewAt _ _ _ u x from hu)
          · obtain rfl : k = 23 := by simpa using hk
            exact NewAt.isNew (show NewAt _ _ _ u x from hu)
        · refine ⟨?_, ?_, ?_, ?_, ?_, ?_, ?_, ?_, ?_, ?_, ?_, ?_, ?_, ?_, ?_, ?_, ?_, ?_, ?_, ?_, ?_, ?_, ?_, ?_, trivial⟩
          · intro vals x hb hf
            simp only [fillS, List.getD_cons_succ, List.getD_cons_zero, Act.put, List.setIfInBounds_toArray, List.set_cons_zero, List.set_cons_succ]
            have ar := (hb.block _ z3_c).trans R3_c.out
            obtain ⟨y0, y1, y2, y3, y4, y5, y6, y7, y8, y9, y10⟩ := rc11 ar
            clear ar
            go_wp2
            exact ⟨rfl, rfl, Below.refl _ _, _, rfl, rfl, (fun h => absurd h (by decide))⟩
          · intro vals x hb hf
            simp only [fillS, List.getD_cons_succ, List.getD_cons_zero, Act.put, List.setIfInBounds_toArray, List.set_cons_zero, List.set_cons_succ]
            have ar := (hb.block _ z3_p).trans R3_p.out
            obtain ⟨y0, y1, y2, y3⟩ := rc4 ar
            clear ar
            go_wp2
            exact ⟨rfl, rfl, Below.refl _ _, _, rfl, rfl, (fun h => absurd h (by decide))⟩
          · intro vals x hb hf
            simp only [fillS, List.getD_cons_succ, List.getD_cons_zero, Act.put, List.setIfInBounds_toArray, List.set_cons_zero, List.set_cons_succ]
            skip
            go_wp2
            exact ⟨rfl, rfl, Below.refl _ _, _, rfl, rfl, (fun h => absurd h (by decide))⟩
          · intro vals x hb hf
            simp only [fillS, List.getD_cons_succ, List.getD_cons_zero, Act.put, List.setIfInBounds_toArray, List.set_cons_zero, List.set_cons_succ]
            skip
            go_wp2
            exact ⟨rfl, rfl, Below.refl _ _, _, rfl, rfl, (fun h => absurd h (by decide))⟩
          · intro vals x hb hf
            simp only [fillS, List.getD_cons_succ, List.getD_cons_zero, Act.put, List.setIfInBounds_toArray, List.set_cons_zero, List.set_cons_succ]
            skip
            go_wp2
            exact ⟨rfl, rfl, Below.refl _ _, _, rfl, rfl, (fun h => absurd h (by decide))⟩
          · intro vals x hb hf
            simp only [fillS, List.getD_cons_succ, List.getD_cons_zero, Act.put, List.setIfInBounds_toArray, List.set_cons_zero, List.set_cons_succ]
            have h4 : vals 4 = .int .i64 k := hf.1
            rw [h4]
            skip
            go_wp2
            exact ⟨rfl, rfl, Below.refl _ _, _, rfl, rfl, (fun h => absurd h (by decide))⟩
          · intro vals x hb hf
            simp only [fillS, List.getD_cons_succ, List.getD_cons_zero, Act.put, List.setIfInBounds_toArray, List.set_cons_zero, List.set_cons_succ]
            have h2 : vals 2 = .slice (some ⟨b, off, none⟩) xs.length cap := hf.1
            rw [h2]
            have h3 : vals 3 = .int .i64 k := hf.2.1
            rw [h3]
            have h5 : vals 5 = .int .i64 ((k : Int) + 1) := hf.2.2.1
            rw [h5]
            go_wp2
            exact ⟨rfl, rfl, Below.refl _ _, _, rfl, rfl, (fun h => absurd h (by decide))⟩
          · intro vals x hb hf
            simp only [fillS, List.getD_cons_succ, List.getD_cons_zero, Act.put, List.setIfInBounds_toArray, List.set_cons_zero, List.set_cons_succ]
            skip
            go_wp2
            exact ⟨rfl, rfl, Below.refl _ _, _, rfl, rfl, (fun h => absurd h (by decide))⟩
          · intro vals x hb hf
            simp only [fillS, List.getD_cons_succ, List.getD_cons_zero, Act.put, List.setIfInBounds_toArray, List.set_cons_zero, List.set_cons_succ]
            skip
            go_wp2
            exact ⟨rfl, rfl, Below.refl _ _, _, rfl, rfl, (fun h => absurd h (by decide))⟩
          · intro vals x hb hf
            simp only [fillS, List.getD_cons_succ, List.getD_cons_zero, Act.put, List.setIfInBounds_toArray, List.set_cons_zero, List.set_cons_succ]
            skip
            go_wp2
            exact ⟨rfl, rfl, Below.refl _ _, _, rfl, rfl, (fun h => absurd h (by decide))⟩
          · intro vals x hb hf
            simp only [fillS, List.getD_cons_succ, List.getD_cons_zero, Act.put, List.setIfInBounds_toArray, List.set_cons_zero, List.set_cons_succ]
            have h9 : vals 9 = .int .i64 k := hf.1
            rw [h9]
            skip
            go_wp2
            exact ⟨rfl, rfl, Below.refl _ _, _, rfl, rfl, (fun h => absurd h (by decide))⟩
          · intro vals x hb hf
            simp only [fillS, List.getD_cons_succ, List.getD_cons_zero, Act.put, List.setIfInBounds_toArray, List.set_cons_zero, List.set_cons_succ]
            have h7 : vals 7 = .slice (some ⟨b1, off1, none⟩) xa.length cap1 := hf.1
            rw [h7]
            have h8 : vals 8 = .int .i64 k := hf.2.1
            rw [h8]
            have h10 : vals 10 = .int .i64 ((k : Int) + 1) := hf.2.2.1
            rw [h10]
            go_wp2
            exact ⟨rfl, rfl, Below.refl _ _, _, rfl, rfl, (fun h => absurd h (by decide))⟩
          · intro vals x hb hf
            simp only [fillS, List.getD_cons_succ, List.getD_cons_zero, Act.put, List.setIfInBounds_toArray, List.set_cons_zero, List.set_cons_succ]
            skip
            go_wp2
            exact ⟨rfl, rfl, Below.refl _ _, _, rfl, rfl, (fun h => absurd h (by decide))⟩
          · intro vals x hb hf
            simp only [fillS, List.getD_cons_succ, List.getD_cons_zero, Act.put, List.setIfInBounds_toArray, List.set_cons_zero, List.set_cons_succ]
            skip
            go_wp2
            exact ⟨rfl, rfl, Below.refl _ _, _, rfl, rfl, (fun h => absurd h (by decide))⟩
          · intro vals x hb hf
            simp only [fillS, List.getD_cons_succ, List.getD_cons_zero, Act.put, List.setIfInBounds_toArray, List.set_cons_zero, List.set_cons_succ]
            skip
            go_wp2
            exact ⟨rfl, rfl, Below.refl _ _, _, rfl, rfl, (fun h => absurd h (by decide))⟩
          · intro vals x hb hf
            simp only [fillS, List.getD_cons_succ, List.getD_cons_zero, Act.put, List.setIfInBounds_toArray, List.set_cons_zero, List.set_cons_succ]
            have h14 : vals 14 = .int .i64 k := hf.1
            rw [h14]
            skip
            go_wp2
            exact ⟨rfl, rfl, Below.refl _ _, _, rfl, rfl, (fun h => absurd h (by decide))⟩
          · intro vals x hb hf
            simp only [fillS, List.getD_cons_succ, List.getD_cons_zero, Act.put, List.setIfInBounds_toArray, List.set_cons_zero, List.set_cons_succ]
            have h12 : vals 12 = .slice (some ⟨b2, off2, none⟩) xb.length cap2 := hf.1
            rw [h12]
            have h13 : vals 13 = .int .i64 k := hf.2.1
            rw [h13]
            have h15 : vals 15 = .int .i64 ((k : Int) + 1) := hf.2.2.1
            rw [h15]
            go_wp2
            exact ⟨rfl, rfl, Below.refl _ _, _, rfl, rfl, (fun h => absurd h (by decide))⟩
          · intro vals x hb hf
            simp only [fillS, List.getD_cons_succ, List.getD_cons_zero, Act.put, List.setIfInBounds_toArray, List.set_cons_zero, List.set_cons_succ]
            have h0 : vals 0 = cavV c := hf.1
            rw [h0]
            have h1 : vals 1 = ptV y := hf.2.1
            rw [h1]
            have h6 : vals 6 = oneV b off 10 k cap := hf.2.2.1
            rw [h6]
            have h11 : vals 11 = oneI b1 off1 k cap1 := hf.2.2.2.1
            rw [h11]
            have h16 : vals 16 = oneI b2 off2 k cap2 := hf.2.2.2.2.1
            rw [h16]
            have hbx : Below w.heap.size w x := B3.trans (hb.mono B3.size)
            go_wp2_with (go_at_call 23; (with_reducible refine Calls.mono (kP.out _ hbx) ?_); rintro e y ⟨rfl, hB⟩)
            exact ⟨rfl, rfl, hB, _, rfl, rfl, (fun h => absurd h (by decide))⟩
          · intro vals x hb hf
            simp only [fillS, List.getD_cons_succ, List.getD_cons_zero, Act.put, List.setIfInBounds_toArray, List.set_cons_zero, List.set_cons_succ]
            have h17 : vals 17 = .tuple #[ptV xq, .agg #[.int .i64 gq.g, .int .i64 gq.y, .int .i64 0, .int .i64 gq.w], .int .i64 0] := hf.1
            rw [h17]
            skip
            go_wp2
            exact ⟨rfl, rfl, Below.refl _ _, _, rfl, rfl, (fun h => absurd h (by decide))⟩
          · intro vals x hb hf
            simp only [fillS, List.getD_cons_succ, List.getD_cons_zero, Act.put, List.setIfInBounds_toArray, List.set_cons_zero, List.set_cons_succ]
            have h18 : vals 18 = .tuple #[ptV xq, .agg #[.int .i64 gq.g, .int .i64 gq.y, .int .i64 0, .int .i64 gq.w], .int .i64 0] := hf.1
            rw [h18]
            skip
            go_wp2
            exact ⟨rfl, rfl, Below.refl _ _, _, rfl, rfl, (fun h => absurd h (by decide))⟩
          · intro vals x hb hf
            simp only [fillS, List.getD_cons_succ, List.getD_cons_zero, Act.put, List.setIfInBounds_toArray, List.set_cons_zero, List.set_cons_succ]
            have h18 : vals 18 = .tuple #[ptV xq, .agg #[.int .i64 gq.g, .int .i64 gq.y, .int .i64 0, .int .i64 gq.w], .int .i64 0] := hf.1
            rw [h18]
            skip
            go_wp2
            exact ⟨rfl, rfl, Below.refl _ _, _, rfl, rfl, (fun h => absurd h (by decide))⟩
          · intro vals x hb hf
            simp only [fillS, List.getD_cons_succ, List.getD_cons_zero, Act.put, List.setIfInBounds_toArray, List.set_cons_zero, List.set_cons_succ]
            have h18 : vals 18 = .tuple #[ptV xq, .agg #[.int .i64 gq.g, .int .i64 gq.y, .int .i64 0, .int .i64 gq.w], .int .i64 0] := hf.1
            rw [h18]
            skip
            go_wp2
            exact ⟨rfl, rfl, Below.refl _ _, _, rfl, rfl, (fun h => absurd h (by decide))⟩
          · intro vals x hb hf
            simp only [fillS, List.getD_cons_succ, List.getD_cons_zero, Act.put, List.setIfInBounds_toArray, List.set_cons_zero, List.set_cons_succ]
            go_wp2
            exact ⟨rfl, rfl, (Below.refl _ _).alloc (Nat.le_refl _) _, _, rfl, ⟨_, rfl, hb.size, World.alloc_heap_new _ _⟩, fun _ => rfl⟩
          · intro vals x hb hf
            simp only [fillS, List.getD_cons_succ, List.getD_cons_zero, Act.put, List.setIfInBounds_toArray, List.set_cons_zero, List.set_cons_succ]
            go_wp2
            exact ⟨rfl, rfl, (Below.refl _ _).alloc (Nat.le_refl _) _, _, rfl, ⟨_, rfl, hb.size, World.alloc_heap_new _ _⟩, fun _ => rfl⟩
        · intro j hj o ho vals x hb hf
          rcases List.mem_cons.1 hj with rfl | hj
          · obtain rfl := Option.some.inj ho
            simp only [fillS, List.getD_cons_succ, List.getD_cons_zero, Act.put, List.setIfInBounds_toArray, List.set_cons_zero, List.set_cons_succ]
            have h18 : vals 18 = .tuple #[ptV xq, .agg #[.int .i64 gq.g, .int .i64 gq.y, .int .i64 0, .int .i64 gq.w], .int .i64 0] := hf.1
            rw [h18]
            exact ⟨_, .inl ⟨rfl, fun w => rfl⟩, rfl, (fun h => absurd h (by decide))⟩
          · obtain rfl : j = 21 := by simpa using hj
            obtain rfl := Option.some.inj ho
            simp only [fillS, List.getD_cons_succ, List.getD_cons_zero, Act.put, List.setIfInBounds_toArray, List.set_cons_zero, List.set_cons_succ]
            have h18 : vals 18 = .tuple #[ptV xq, .agg #[.int .i64 gq.g, .int .i64 gq.y, .int .i64 0, .int .i64 gq.w], .int .i64 0] := hf.1
            rw [h18]
            exact ⟨_, .inl ⟨rfl, fun w => rfl⟩, rfl, (fun h => absurd h (by decide))⟩
        · intro vals x hb hf hp
          have hrange : List.range 24 = [0, 1, 2, 3, 4, 5, 6, 7, 8, 9, 10, 11, 12, 13, 14, 15, 16, 17, 18, 19, 20, 21, 22, 23] := by rfl
          rw [hrange]
          simp only [fillS, List.getD_cons_succ, List.getD_cons_zero, Act.put, List.setIfInBounds_toArray, List.set_cons_zero, List.set_cons_succ]
          have h0 : vals 0 = cavV c := hf 0 (by omega)
          have h1 : vals 1 = ptV y := hf 1 (by omega)
          have h2 : vals 2 = .slice (some ⟨b, off, none⟩) xs.length cap := hf 2 (by omega)
          have h3 : vals 3 = .int .i64 k := hf 3 (by omega)
          have h4 : vals 4 = .int .i64 k := hf 4 (by omega)
          have h5 : vals 5 = .int .i64 ((k : Int) + 1) := hf 5 (by omega)
          have h6 : vals 6 = oneV b off 10 k cap := hf 6 (by omega)
          have h7 : vals 7 = .slice (some ⟨b1, off1, none⟩) xa.length cap1 := hf 7 (by omega)
          have h8 : vals 8 = .int .i64 k := hf 8 (by omega)
          have h9 : vals 9 = .int .i64 k := hf 9 (by omega)
          have h10 : vals 10 = .int .i64 ((k : Int) + 1) := hf 10 (by omega)
          have h11 : vals 11 = oneI b1 off1 k cap1 := hf 11 (by omega)
          have h12 : vals 12 = .slice (some ⟨b2, off2, none⟩) xb.length cap2 := hf 12 (by omega)
          have h13 : vals 13 = .int .i64 k := hf 13 (by omega)
          have h14 : vals 14 = .int .i64 k := hf 14 (by omega)
          have h15 : vals 15 = .int .i64 ((k : Int) + 1) := hf 15 (by omega)
          have h16 : vals 16 = oneI b2 off2 k cap2 := hf 16 (by omega)
          have h17 : vals 17 = .tuple #[ptV xq, .agg #[.int .i64 gq.g, .int .i64 gq.y, .int .i64 0, .int .i64 gq.w], .int .i64 0] := hf 17 (by omega)
          have h18 : vals 18 = .tuple #[ptV xq, .agg #[.int .i64 gq.g, .int .i64 gq.y, .int .i64 0, .int .i64 gq.w], .int .i64 0] := hf 18 (by omega)
          have h19 : vals 19 = ptV xq := hf 19 (by omega)
          have h20 : vals 20 = .agg #[.int .i64 gq.g, .int .i64 gq.y, .int .i64 0, .int .i64 gq.w] := hf 20 (by omega)
          have h21 : vals 21 = .int .i64 0 := hf 21 (by omega)
          obtain ⟨blk_x, hv_x, l_x, A_x⟩ : NewAt M3.heap.size #[.int .i64 0, .int .i64 0, .int .i64 0, .int .i64 0] 31 (vals 22) x := hf 22 (by omega)
          obtain ⟨blk_u, hv_u, l_u, A_u⟩ : NewAt M3.heap.size #[.int .i64 0, .int .i64 0, .int .i64 0, .int .i64 0] 31 (vals 23) x := hf 23 (by omega)
          have ne_x_u : (blk_x : Nat) ≠ blk_u := by
            intro h
            have h1 := hp 22 23 (by omega) (by omega) (by omega) rfl rfl
            rw [hv_x, hv_u, h] at h1
            exact h1 rfl
          have ne_u_x := Ne.symm ne_x_u
          rw [h0, h1, h2, h3, h4, h5, h6, h7, h8, h9, h10, h11, h12, h13, h14, h15, h16, h17, h18, h19, h20, h21, hv_x, hv_u]
          clear h0 h1 h2 h3 h4 h5 h6 h7 h8 h9 h10 h11 h12 h13 h14 h15 h16 h17 h18 h19 h20 h21 hv_x hv_u hf hp hrange
          have A_c := (hb.block _ z3_c).trans R3_c.out
          have ne_c_x : (w.heap.size : Nat) ≠ blk_x := by have := z3_c; omega
          have ne_c_u : (w.heap.size : Nat) ≠ blk_u := by have := z3_c; omega
          replace A_c := Lib.hid A_c
          have A_s := (hb.block _ z3_s).trans R3_s.out
          have ne_s_x : (W1.heap.size : Nat) ≠ blk_x := by have := z3_s; omega
          have ne_s_u : (W1.heap.size : Nat) ≠ blk_u := by have := z3_s; omega
          replace A_s := Lib.hid A_s
          have A_p := (hb.block _ z3_p).trans R3_p.out
          have ne_p_x : (W2.heap.size : Nat) ≠ blk_x := by have := z3_p; omega
          have ne_p_u : (W2.heap.size : Nat) ≠ blk_u := by have := z3_p; omega
          replace A_p := Lib.hid A_p
          have A_n := (hb.block _ z3_n).trans R3_n.out
          have ne_n_x : (blk_n : Nat) ≠ blk_x := by have := z3_n; omega
          have ne_n_u : (blk_n : Nat) ≠ blk_u := by have := z3_n; omega
          replace A_n := Lib.hid A_n
          have A_q := (hb.block _ z3_q).trans R3_q.out
          have ne_q_x : (blk_q : Nat) ≠ blk_x := by have := z3_q; omega
          have ne_q_u : (blk_q : Nat) ≠ blk_u := by have := z3_q; omega
          replace A_q := Lib.hid A_q
          have B4 : Below w.heap.size w x := B3.trans (hb.mono B3.size)
          have hLw := B3.size
          have le_x : w.heap.size ≤ blk_x := by omega
          obtain ⟨p_x_0, p_x_1, p_x_2, p_x_3⟩ := rc4 A_x
          obtain ⟨g_x_0, g_x_1, g_x_2, g_x_3⟩ := rf4 A_x
          replace A_x := Lib.hid A_x
          have le_u : w.heap.size ≤ blk_u := by omega
          obtain ⟨p_u_0, p_u_1, p_u_2, p_u_3⟩ := rc4 A_u
          obtain ⟨g_u_0, g_u_1, g_u_2, g_u_3⟩ := rf4 A_u
          replace A_u := Lib.hid A_u
          go_wp2
          refine NoPanic.normal ?_
          generalize hV4 : World.setCell _ ⟨blk_u, 3, none⟩ _ = M4
          have C_c : M4.heap[w.heap.size]? = some (.cells #[.int .i64 c.vlo, .int .i64 c.vhi, .int .i64 c.least, .int .i64 c.most, .int .i64 c.f0, .int .i64 c.f1, .int .i64 c.h0, .int .i64 c.h1, .int .i64 c.rock, .int .i64 c.plo, .int .i64 c.phi] 26 (0, 0)) := by rw [← hV4]; have h2 := (set_far (n := blk_u) 3 (.int .i64 gq.w) ne_c_u (set_far (n := blk_u) 2 (.int .i64 0) ne_c_u (set_far (n := blk_u) 1 (.int .i64 gq.y) ne_c_u (set_far (n := blk_u) 0 (.int .i64 gq.g) ne_c_u (set_far (n := blk_x) 3 (.int .i64 xq.w) ne_c_x (set_far (n := blk_x) 2 (.int .i64 xq.t) ne_c_x (set_far (n := blk_x) 1 (.int .i64 xq.y) ne_c_x (set_far (n := blk_x) 0 (.int .i64 xq.g) ne_c_x A_c.out)))))))); exact h2
          have C_s : M4.heap[W1.heap.size]? = some (.cells #[.int .i64 z.glo, .int .i64 z.ghi, .int .i64 z.ylo, .int .i64 z.yhi, .int .i64 z.tlo, .int .i64 z.thi, .int .i64 z.wlo, .int .i64 z.whi] 28 (0, 0)) := by rw [← hV4]; have h2 := (set_far (n := blk_u) 3 (.int .i64 gq.w) ne_s_u (set_far (n := blk_u) 2 (.int .i64 0) ne_s_u (set_far (n := blk_u) 1 (.int .i64 gq.y) ne_s_u (set_far (n := blk_u) 0 (.int .i64 gq.g) ne_s_u (set_far (n := blk_x) 3 (.int .i64 xq.w) ne_s_x (set_far (n := blk_x) 2 (.int .i64 xq.t) ne_s_x (set_far (n := blk_x) 1 (.int .i64 xq.y) ne_s_x (set_far (n := blk_x) 0 (.int .i64 xq.g) ne_s_x A_s.out)))))))); exact h2
          have C_p : M4.heap[W2.heap.size]? = some (.cells #[.int .i64 y.g, .int .i64 y.y, .int .i64 y.t, .int .i64 y.w] 31 (0, 0)) := by rw [← hV4]; have h2 := (set_far (n := blk_u) 3 (.int .i64 gq.w) ne_p_u (set_far (n := blk_u) 2 (.int .i64 0) ne_p_u (set_far (n := blk_u) 1 (.int .i64 gq.y) ne_p_u (set_far (n := blk_u) 0 (.int .i64 gq.g) ne_p_u (set_far (n := blk_x) 3 (.int .i64 xq.w) ne_p_x (set_far (n := blk_x) 2 (.int .i64 xq.t) ne_p_x (set_far (n := blk_x) 1 (.int .i64 xq.y) ne_p_x (set_far (n := blk_x) 0 (.int .i64 xq.g) ne_p_x A_p.out)))))))); exact h2
          have C_n : M4.heap[blk_n]? = some (.cells #[.int .i64 n.glo, .int .i64 n.ghi, .int .i64 n.ylo, .int .i64 n.yhi, .int .i64 n.tlo, .int .i64 n.thi, .int .i64 n.wlo, .int .i64 n.whi] 28 (0, 0)) := by rw [← hV4]; have h2 := (set_far (n := blk_u) 3 (.int .i64 gq.w) ne_n_u (set_far (n := blk_u) 2 (.int .i64 0) ne_n_u (set_far (n := blk_u) 1 (.int .i64 gq.y) ne_n_u (set_far (n := blk_u) 0 (.int .i64 gq.g) ne_n_u (set_far (n := blk_x) 3 (.int .i64 xq.w) ne_n_x (set_far (n := blk_x) 2 (.int .i64 xq.t) ne_n_x (set_far (n := blk_x) 1 (.int .i64 xq.y) ne_n_x (set_far (n := blk_x) 0 (.int .i64 xq.g) ne_n_x A_n.out)))))))); exact h2
          have C_q : M4.heap[blk_q]? = some (.cells #[.int .i64 q.glo, .int .i64 q.ghi, .int .i64 q.ylo, .int .i64 q.yhi, .int .i64 q.wlo, .int .i64 q.whi] 35 (0, 0)) := by rw [← hV4]; have h2 := (set_far (n := blk_u) 3 (.int .i64 gq.w) ne_q_u (set_far (n := blk_u) 2 (.int .i64 0) ne_q_u (set_far (n := blk_u) 1 (.int .i64 gq.y) ne_q_u (set_far (n := blk_u) 0 (.int .i64 gq.g) ne_q_u (set_far (n := blk_x) 3 (.int .i64 xq.w) ne_q_x (set_far (n := blk_x) 2 (.int .i64 xq.t) ne_q_x (set_far (n := blk_x) 1 (.int .i64 xq.y) ne_q_x (set_far (n := blk_x) 0 (.int .i64 xq.g) ne_q_x A_q.out)))))))); exact h2
          have C_x : M4.heap[blk_x]? = some (.cells #[.int .i64 xq.g, .int .i64 xq.y, .int .i64 xq.t, .int .i64 xq.w] 31 (0, 0)) := by rw [← hV4]; have h2 := (set_far (n := blk_u) 3 (.int .i64 gq.w) ne_x_u (set_far (n := blk_u) 2 (.int .i64 0) ne_x_u (set_far (n := blk_u) 1 (.int .i64 gq.y) ne_x_u (set_far (n := blk_u) 0 (.int .i64 gq.g) ne_x_u (set_one (set_one (set_one (set_one A_x.out 0 (.int .i64 xq.g)) 1 (.int .i64 xq.y)) 2 (.int .i64 xq.t)) 3 (.int .i64 xq.w)))))); simp only [List.setIfInBounds_toArray, List.set_cons_zero, List.set_cons_succ] at h2; exact h2
          have C_u : M4.heap[blk_u]? = some (.cells #[.int .i64 gq.g, .int .i64 gq.y, .int .i64 0, .int .i64 gq.w] 31 (0, 0)) := by rw [← hV4]; have h2 := (set_one (set_one (set_one (set_one (set_far (n := blk_x) 3 (.int .i64 xq.w) ne_u_x (set_far (n := blk_x) 2 (.int .i64 xq.t) ne_u_x (set_far (n := blk_x) 1 (.int .i64 xq.y) ne_u_x (set_far (n := blk_x) 0 (.int .i64 xq.g) ne_u_x A_u.out)))) 0 (.int .i64 gq.g)) 1 (.int .i64 gq.y)) 2 (.int .i64 0)) 3 (.int .i64 gq.w)); simp only [List.setIfInBounds_toArray, List.set_cons_zero, List.set_cons_succ] at h2; exact h2
          replace B4 : Below w.heap.size w M4 := by rw [← hV4]; exact (Below.setCell (p := ⟨blk_u, 3, none⟩) (Below.setCell (p := ⟨blk_u, 2, none⟩) (Below.setCell (p := ⟨blk_u, 1, none⟩) (Below.setCell (p := ⟨blk_u, 0, none⟩) (Below.setCell (p := ⟨blk_x, 3, none⟩) (Below.setCell (p := ⟨blk_x, 2, none⟩) (Below.setCell (p := ⟨blk_x, 1, none⟩) (Below.setCell (p := ⟨blk_x, 0, none⟩) B4 le_x (.int .i64 xq.g)) le_x (.int .i64 xq.y)) le_x (.int .i64 xq.t)) le_x (.int .i64 xq.w)) le_u (.int .i64 gq.g)) le_u (.int .i64 gq.y)) le_u (.int .i64 0)) le_u (.int .i64 gq.w))
          have BK : Below M3.heap.size M3 M4 := by rw [← hV4]; exact (Below.setCell (p := ⟨blk_u, 3, none⟩) (Below.setCell (p := ⟨blk_u, 2, none⟩) (Below.setCell (p := ⟨blk_u, 1, none⟩) (Below.setCell (p := ⟨blk_u, 0, none⟩) (Below.setCell (p := ⟨blk_x, 3, none⟩) (Below.setCell (p := ⟨blk_x, 2, none⟩) (Below.setCell (p := ⟨blk_x, 1, none⟩) (Below.setCell (p := ⟨blk_x, 0, none⟩) hb l_x (.int .i64 xq.g)) l_x (.int .i64 xq.y)) l_x (.int .i64 xq.t)) l_x (.int .i64 xq.w)) l_u (.int .i64 gq.g)) l_u (.int .i64 gq.y)) l_u (.int .i64 0)) l_u (.int .i64 gq.w))
          clear hV4 hb hLw l_x l_u p_x_0 g_x_0 p_x_1 g_x_1 p_x_2 g_x_2 p_x_3 g_x_3 p_u_0 g_u_0 p_u_1 g_u_1 p_u_2 g_u_2 p_u_3 g_u_3
          replace A_c := C_c
          clear C_c
          replace A_s := C_s
          clear C_s
          replace A_p := C_p
          clear C_p
          replace A_n := C_n
          clear C_n
          replace A_q := C_q
          clear C_q
          replace A_x := C_x
          clear C_x
          replace A_u := C_u
          clear C_u
          have z4_c := (Array.getElem?_eq_some_iff.1 A_c).1
          have z4_s := (Array.getElem?_eq_some_iff.1 A_s).1
          have z4_p := (Array.getElem?_eq_some_iff.1 A_p).1
          have z4_n := (Array.getElem?_eq_some_iff.1 A_n).1
          have z4_q := (Array.getElem?_eq_some_iff.1 A_q).1
          have z4_x := (Array.getElem?_eq_some_iff.1 A_x).1
          have z4_u := (Array.getElem?_eq_some_iff.1 A_u).1
          have R4_c := Lib.hid A_c
          clear A_c
          have R4_s := Lib.hid A_s
          clear A_s
          have R4_p := Lib.hid A_p
          clear A_p
          obtain ⟨q4_n_0, q4_n_1, q4_n_2, q4_n_3, q4_n_4, q4_n_5, q4_n_6, q4_n_7⟩ := rc8 A_n
          have R4_n := Lib.hid A_n
          clear A_n
          have R4_q := Lib.hid A_q
          clear A_q
          obtain ⟨q4_x_0, q4_x_1, q4_x_2, q4_x_3⟩ := rc4 A_x
          have R4_x := Lib.hid A_x
          clear A_x
          have R4_u := Lib.hid A_u
          clear A_u
          have hgw4 := grow_cell M4
          clear kP hcx hca hcb hx1 hx2 hx3
          replace hat1 := Lib.hid (hat1.out.mono BK)
          replace g0 := Lib.hid (Nat.le_trans g0.out BK.size)
          clear BK
          obtain ⟨l1', c1', el, -, hst⟩ := own_sts hat1.out
          simp only [Value.slice.injEq] at el
          obtain ⟨rfl, -, rfl⟩ := el
          obtain ⟨bb, oo, rfl, hbb, hst⟩ := hst (by omega)
          have hcl := hst k hlt
          rw [hn] at hcl
          obtain ⟨d0, d1, d2, d3, d4, d5, d6, d7⟩ := hcl
          clear hst
          go_wp2_with (fail)
          refine wp_region_grow (by kernel_rfl) (by kernel_rfl) ?_
          repeat (go_big_quiet_step ((first | (go_at_call 34; with_reducible exact Calls.grow (kH.out _)))))
          refine wpQuiet_nil ?_
          rintro _ ⟨g, rfl⟩
          clear d0 d1 d2 d3 d4 d5 d6 d7 kH
          have hat2 := hat1.out.mono g.h
          have g2 := Nat.le_trans g0.out g.h.size
          clear hat1 g0
          clear q4_n_0 q4_n_1 q4_n_2 q4_n_3 q4_n_4 q4_n_5 q4_n_6 q4_n_7 q4_x_0 q4_x_1 q4_x_2 q4_x_3
          clear hgw4
          obtain ⟨N5, hN5⟩ : ∃ V, g.x = V := ⟨_, rfl⟩
          have A_c : N5.heap[w.heap.size]? = some (.cells #[.int .i64 c.vlo, .int .i64 c.vhi, .int .i64 c.least, .int .i64 c.most, .int .i64 c.f0, .int .i64 c.f1, .int .i64 c.h0, .int .i64 c.h1, .int .i64 c.rock, .int .i64 c.plo, .int .i64 c.phi] 26 (0, 0)) := by rw [← hN5]; exact (g.h.block _ z4_c).trans R4_c.out
          have A_s : N5.heap[W1.heap.size]? = some (.cells #[.int .i64 z.glo, .int .i64 z.ghi, .int .i64 z.ylo, .int .i64 z.yhi, .int .i64 z.tlo, .int .i64 z.thi, .int .i64 z.wlo, .int .i64 z.whi] 28 (0, 0)) := by rw [← hN5]; exact (g.h.block _ z4_s).trans R4_s.out
          have A_p : N5.heap[W2.heap.size]? = some (.cells #[.int .i64 y.g, .int .i64 y.y, .int .i64 y.t, .int .i64 y.w] 31 (0, 0)) := by rw [← hN5]; exact (g.h.block _ z4_p).trans R4_p.out
          have A_n : N5.heap[blk_n]? = some (.cells #[.int .i64 n.glo, .int .i64 n.ghi, .int .i64 n.ylo, .int .i64 n.yhi, .int .i64 n.tlo, .int .i64 n.thi, .int .i64 n.wlo, .int .i64 n.whi] 28 (0, 0)) := by rw [← hN5]; exact (g.h.block _ z4_n).trans R4_n.out
          have A_q : N5.heap[blk_q]? = some (.cells #[.int .i64 q.glo, .int .i64 q.ghi, .int .i64 q.ylo, .int .i64 q.yhi, .int .i64 q.wlo, .int .i64 q.whi] 35 (0, 0)) := by rw [← hN5]; exact (g.h.block _ z4_q).trans R4_q.out
          have A_x : N5.heap[blk_x]? = some (.cells #[.int .i64 xq.g, .int .i64 xq.y, .int .i64 xq.t, .int .i64 xq.w] 31 (0, 0)) := by rw [← hN5]; exact (g.h.block _ z4_x).trans R4_x.out
          have A_u : N5.heap[blk_u]? = some (.cells #[.int .i64 gq.g, .int .i64 gq.y, .int .i64 0, .int .i64 gq.w] 31 (0, 0)) := by rw [← hN5]; exact (g.h.block _ z4_u).trans R4_u.out
          have B5 : Below w.heap.size w N5 := by rw [← hN5]; exact B4.trans (g.h.mono B4.size)
          rw [hN5] at hat2
          rw [hN5] at g2
          rw [hN5]
          clear hN5
          have z5_c := (Array.getElem?_eq_some_iff.1 A_c).1
          have z5_s := (Array.getElem?_eq_some_iff.1 A_s).1
          have z5_p := (Array.getElem?_eq_some_iff.1 A_p).1
          have z5_n := (Array.getElem?_eq_some_iff.1 A_n).1
          have z5_q := (Array.getElem?_eq_some_iff.1 A_q).1
          have z5_x := (Array.getElem?_eq_some_iff.1 A_x).1
          have z5_u := (Array.getElem?_eq_some_iff.1 A_u).1
          have R5_c := Lib.hid A_c
          clear A_c
          obtain ⟨q5_s_0, q5_s_1, q5_s_2, q5_s_3, q5_s_4, q5_s_5, q5_s_6, q5_s_7⟩ := rc8 A_s
          obtain ⟨f5_s_0, f5_s_1, f5_s_2, f5_s_3, f5_s_4, f5_s_5, f5_s_6, f5_s_7⟩ := rf8 A_s
          have R5_s := Lib.hid A_s
          clear A_s
          obtain ⟨q5_p_0, q5_p_1, q5_p_2, q5_p_3⟩ := rc4 A_p
          obtain ⟨f5_p_0, f5_p_1, f5_p_2, f5_p_3⟩ := rf4 A_p
          have R5_p := Lib.hid A_p
          clear A_p
          obtain ⟨q5_n_0, q5_n_1, q5_n_2, q5_n_3, q5_n_4, q5_n_5, q5_n_6, q5_n_7⟩ := rc8 A_n
          have R5_n := Lib.hid A_n
          clear A_n
          obtain ⟨q5_q_0, q5_q_1, q5_q_2, q5_q_3, q5_q_4, q5_q_5⟩ := rc6 A_q
          have R5_q := Lib.hid A_q
          clear A_q
          obtain ⟨q5_x_0, q5_x_1, q5_x_2, q5_x_3⟩ := rc4 A_x
          have R5_x := Lib.hid A_x
          clear A_x
          obtain ⟨q5_u_0, q5_u_1, q5_u_2, q5_u_3⟩ := rc4 A_u
          have R5_u := Lib.hid A_u
          clear A_u
          have hgw5 := grow_cell N5
          replace hat2 := Lib.hid hat2; replace g2 := Lib.hid g2
          go_wp2_with (fail)
          clear q0 q1 q2 q3 q4 q5
          replace hat2 := hat2.out; replace g2 := g2.out
          have hat3 : OwnSts W.heap.size (World.setCell (World.setCell (World.setCell (World.setCell (World.setCell (World.setCell (World.setCell (World.setCell (World.setCell (World.setCell (World.setCell (World.setCell N5 ⟨W1.heap.size, 0, none⟩ (.int .i64 n.glo)) ⟨W1.heap.size, 1, none⟩ (.int .i64 n.ghi)) ⟨W1.heap.size, 2, none⟩ (.int .i64 n.ylo)) ⟨W1.heap.size, 3, none⟩ (.int .i64 n.yhi)) ⟨W1.heap.size, 4, none⟩ (.int .i64 n.tlo)) ⟨W1.heap.size, 5, none⟩ (.int .i64 n.thi)) ⟨W1.heap.size, 6, none⟩ (.int .i64 n.wlo)) ⟨W1.heap.size, 7, none⟩ (.int .i64 n.whi)) ⟨W2.heap.size, 0, none⟩ (.int .i64 xq.g)) ⟨W2.heap.size, 1, none⟩ (.int .i64 xq.y)) ⟨W2.heap.size, 2, none⟩ (.int .i64 xq.t)) ⟨W2.heap.size, 3, none⟩ (.int .i64 xq.w)) (.slice (some ⟨bb, oo, none⟩) R1.length c1) R1 := (OwnSt.cellset (OwnSt.cellset (OwnSt.cellset (OwnSt.cellset (OwnSt.cellset (OwnSt.cellset (OwnSt.cellset (OwnSt.cellset (OwnSt.cellset (OwnSt.cellset (OwnSt.cellset (OwnSt.cellset hat2 (p := ⟨W1.heap.size, 0, none⟩) z0_s (.int .i64 n.glo)) (p := ⟨W1.heap.size, 1, none⟩) z0_s (.int .i64 n.ghi)) (p := ⟨W1.heap.size, 2, none⟩) z0_s (.int .i64 n.ylo)) (p := ⟨W1.heap.size, 3, none⟩) z0_s (.int .i64 n.yhi)) (p := ⟨W1.heap.size, 4, none⟩) z0_s (.int .i64 n.tlo)) (p := ⟨W1.heap.size, 5, none⟩) z0_s (.int .i64 n.thi)) (p := ⟨W1.heap.size, 6, none⟩) z0_s (.int .i64 n.wlo)) (p := ⟨W1.heap.size, 7, none⟩) z0_s (.int .i64 n.whi)) (p := ⟨W2.heap.size, 0, none⟩) z0_p (.int .i64 xq.g)) (p := ⟨W2.heap.size, 1, none⟩) z0_p (.int .i64 xq.y)) (p := ⟨W2.heap.size, 2, none⟩) z0_p (.int .i64 xq.t)) (p := ⟨W2.heap.size, 3, none⟩) z0_p (.int .i64 xq.w))
          have g3 : W.heap.size ≤ (World.setCell (World.setCell (World.setCell (World.setCell (World.setCell (World.setCell (World.setCell (World.setCell (World.setCell (World.setCell (World.setCell (World.setCell N5 ⟨W1.heap.size, 0, none⟩ (.int .i64 n.glo)) ⟨W1.heap.size, 1, none⟩ (.int .i64 n.ghi)) ⟨W1.heap.size, 2, none⟩ (.int .i64 n.ylo)) ⟨W1.heap.size, 3, none⟩ (.int .i64 n.yhi)) ⟨W1.heap.size, 4, none⟩ (.int .i64 n.tlo)) ⟨W1.heap.size, 5, none⟩ (.int .i64 n.thi)) ⟨W1.heap.size, 6, none⟩ (.int .i64 n.wlo)) ⟨W1.heap.size, 7, none⟩ (.int .i64 n.whi)) ⟨W2.heap.size, 0, none⟩ (.int .i64 xq.g)) ⟨W2.heap.size, 1, none⟩ (.int .i64 xq.y)) ⟨W2.heap.size, 2, none⟩ (.int .i64 xq.t)) ⟨W2.heap.size, 3, none⟩ (.int .i64 xq.w)).heap.size := by simp only [World.setCell, Array.size_modify]; exact g2
          replace hat3 := Lib.hid hat3; replace g3 := Lib.hid g3
          have hgf := grow_frozen N5
          go_region
          clear hgf hgw5
          replace hat3 := hat3.out; replace g3 := g3.out
          generalize hV6 : World.setCell _ ⟨W2.heap.size, 3, none⟩ _ = V6
          have R6_c : V6.heap[w.heap.size]? = some (.cells #[.int .i64 c.vlo, .int .i64 c.vhi, .int .i64 c.least, .int .i64 c.most, .int .i64 c.f0, .int .i64 c.f1, .int .i64 c.h0, .int .i64 c.h1, .int .i64 c.rock, .int .i64 c.plo, .int .i64 c.phi] 26 (0, 0)) := by rw [← hV6]; have h2 := (set_far (n := W2.heap.size) 3 (.int .i64 xq.w) ne_c_p (set_far (n := W2.heap.size) 2 (.int .i64 xq.t) ne_c_p (set_far (n := W2.heap.size) 1 (.int .i64 xq.y) ne_c_p (set_far (n := W2.heap.size) 0 (.int .i64 xq.g) ne_c_p (set_far (n := W1.heap.size) 7 (.int .i64 n.whi) ne_c_s (set_far (n := W1.heap.size) 6 (.int .i64 n.wlo) ne_c_s (set_far (n := W1.heap.size) 5 (.int .i64 n.thi) ne_c_s (set_far (n := W1.heap.size) 4 (.int .i64 n.tlo) ne_c_s (set_far (n := W1.heap.size) 3 (.int .i64 n.yhi) ne_c_s (set_far (n := W1.heap.size) 2 (.int .i64 n.ylo) ne_c_s (set_far (n := W1.heap.size) 1 (.int .i64 n.ghi) ne_c_s (set_far (n := W1.heap.size) 0 (.int .i64 n.glo) ne_c_s R5_c.out)))))))))))); exact h2
          have R6_s : V6.heap[W1.heap.size]? = some (.cells #[.int .i64 n.glo, .int .i64 n.ghi, .int .i64 n.ylo, .int .i64 n.yhi, .int .i64 n.tlo, .int .i64 n.thi, .int .i64 n.wlo, .int .i64 n.whi] 28 (0, 0)) := by rw [← hV6]; have h2 := (set_far (n := W2.heap.size) 3 (.int .i64 xq.w) ne_s_p (set_far (n := W2.heap.size) 2 (.int .i64 xq.t) ne_s_p (set_far (n := W2.heap.size) 1 (.int .i64 xq.y) ne_s_p (set_far (n := W2.heap.size) 0 (.int .i64 xq.g) ne_s_p (set_one (set_one (set_one (set_one (set_one (set_one (set_one (set_one R5_s.out 0 (.int .i64 n.glo)) 1 (.int .i64 n.ghi)) 2 (.int .i64 n.ylo)) 3 (.int .i64 n.yhi)) 4 (.int .i64 n.tlo)) 5 (.int .i64 n.thi)) 6 (.int .i64 n.wlo)) 7 (.int .i64 n.whi)))))); simp only [List.setIfInBounds_toArray, List.set_cons_zero, List.set_cons_succ] at h2; exact h2
          have R6_p : V6.heap[W2.heap.size]? = some (.cells #[.int .i64 xq.g, .int .i64 xq.y, .int .i64 xq.t, .int .i64 xq.w] 31 (0, 0)) := by rw [← hV6]; have h2 := (set_one (set_one (set_one (set_one (set_far (n := W1.heap.size) 7 (.int .i64 n.whi) ne_p_s (set_far (n := W1.heap.size) 6 (.int .i64 n.wlo) ne_p_s (set_far (n := W1.heap.size) 5 (.int .i64 n.thi) ne_p_s (set_far (n := W1.heap.size) 4 (.int .i64 n.tlo) ne_p_s (set_far (n := W1.heap.size) 3 (.int .i64 n.yhi) ne_p_s (set_far (n := W1.heap.size) 2 (.int .i64 n.ylo) ne_p_s (set_far (n := W1.heap.size) 1 (.int .i64 n.ghi) ne_p_s (set_far (n := W1.heap.size) 0 (.int .i64 n.glo) ne_p_s R5_p.out)))))))) 0 (.int .i64 xq.g)) 1 (.int .i64 xq.y)) 2 (.int .i64 xq.t)) 3 (.int .i64 xq.w)); simp only [List.setIfInBounds_toArray, List.set_cons_zero, List.set_cons_succ] at h2; exact h2
          have B6 : Below w.heap.size w V6 := by rw [← hV6]; exact (Below.setCell (p := ⟨W2.heap.size, 3, none⟩) (Below.setCell (p := ⟨W2.heap.size, 2, none⟩) (Below.setCell (p := ⟨W2.heap.size, 1, none⟩) (Below.setCell (p := ⟨W2.heap.size, 0, none⟩) (Below.setCell (p := ⟨W1.heap.size, 7, none⟩) (Below.setCell (p := ⟨W1.heap.size, 6, none⟩) (Below.setCell (p := ⟨W1.heap.size, 5, none⟩) (Below.setCell (p := ⟨W1.heap.size, 4, none⟩) (Below.setCell (p := ⟨W1.heap.size, 3, none⟩) (Below.setCell (p := ⟨W1.heap.size, 2, none⟩) (Below.setCell (p := ⟨W1.heap.size, 1, none⟩) (Below.setCell (p := ⟨W1.heap.size, 0, none⟩) B5 le_s (.int .i64 n.glo)) le_s (.int .i64 n.ghi)) le_s (.int .i64 n.ylo)) le_s (.int .i64 n.yhi)) le_s (.int .i64 n.tlo)) le_s (.int .i64 n.thi)) le_s (.int .i64 n.wlo)) le_s (.int .i64 n.whi)) le_p (.int .i64 xq.g)) le_p (.int .i64 xq.y)) le_p (.int .i64 xq.t)) le_p (.int .i64 xq.w))
          rw [hV6] at hat3
          rw [hV6] at g3
          clear hV6
          clear q5_s_0 f5_s_0 q5_s_1 f5_s_1 q5_s_2 f5_s_2 q5_s_3 f5_s_3 q5_s_4 f5_s_4 q5_s_5 f5_s_5 q5_s_6 f5_s_6 q5_s_7 f5_s_7 q5_p_0 f5_p_0 q5_p_1 f5_p_1 q5_p_2 f5_p_2 q5_p_3 f5_p_3 q5_n_0 q5_n_1 q5_n_2 q5_n_3 q5_n_4 q5_n_5 q5_n_6 q5_n_7 q5_q_0 q5_q_1 q5_q_2 q5_q_3 q5_q_4 q5_q_5 q5_x_0 q5_x_1 q5_x_2 q5_x_3 q5_u_0 q5_u_1 q5_u_2 q5_u_3
          have E6_c := Lib.hid R6_c
          obtain ⟨z6_c, r6_c, t6_c⟩ := row_cells R6_c
          clear r6_c t6_c R6_c
          have E6_s := Lib.hid R6_s
          obtain ⟨z6_s, r6_s, t6_s⟩ := row_cells R6_s
          clear r6_s t6_s R6_s
          have E6_p := Lib.hid R6_p
          obtain ⟨z6_p, r6_p, t6_p⟩ := row_cells R6_p
          clear r6_p t6_p R6_p
          replace hat3 : OwnSts W.heap.size (World.drew V6) (.slice (some ⟨bb, oo, none⟩) R1.length c1) R1 := World.ownsRow.drew hat3
          replace g3 : W.heap.size ≤ (World.drew V6).heap.size := g3
          generalize hV7 : (World.drew V6) = V7
          have R7_c : V7.heap[w.heap.size]? = some (.cells #[.int .i64 c.vlo, .int .i64 c.vhi, .int .i64 c.least, .int .i64 c.most, .int .i64 c.f0, .int .i64 c.f1, .int .i64 c.h0, .int .i64 c.h1, .int .i64 c.rock, .int .i64 c.plo, .int .i64 c.phi] 26 (0, 0)) := by rw [← hV7]; exact E6_c.out
          have R7_s : V7.heap[W1.heap.size]? = some (.cells #[.int .i64 n.glo, .int .i64 n.ghi, .int .i64 n.ylo, .int .i64 n.yhi, .int .i64 n.tlo, .int .i64 n.thi, .int .i64 n.wlo, .int .i64 n.whi] 28 (0, 0)) := by rw [← hV7]; exact E6_s.out
          have R7_p : V7.heap[W2.heap.size]? = some (.cells #[.int .i64 xq.g, .int .i64 xq.y, .int .i64 xq.t, .int .i64 xq.w] 31 (0, 0)) := by rw [← hV7]; exact E6_p.out
          have B7 : Below w.heap.size w V7 := by rw [← hV7]; exact (B6).drew
          rw [hV7] at hat3
          rw [hV7] at g3
          clear hV7
          have E7_c := Lib.hid R7_c
          obtain ⟨z7_c, r7_c, t7_c⟩ := row_cells R7_c
          clear r7_c t7_c R7_c
          have E7_s := Lib.hid R7_s
          obtain ⟨z7_s, r7_s, t7_s⟩ := row_cells R7_s
          clear r7_s t7_s R7_s
          have E7_p := Lib.hid R7_p
          obtain ⟨z7_p, r7_p, t7_p⟩ := row_cells R7_p
          clear r7_p t7_p R7_p
          have hms : R1.length - (k + 1) < R1.length - k := Nat.sub_lt_sub_left hlt (Nat.lt_succ_self k)
          try clear ne_c_s
          try clear ne_c_p
          try clear ne_c_n
          try clear ne_c_q
          try clear ne_c_x
          try clear ne_c_u
          try clear ne_s_c
          try clear ne_s_p
          try clear ne_s_n
          try clear ne_s_q
          try clear ne_s_x
          try clear ne_s_u
          try clear ne_p_c
          try clear ne_p_s
          try clear ne_p_n
          try clear ne_p_q
          try clear ne_p_x
          try clear ne_p_u
          try clear ne_n_c
          try clear ne_n_s
          try clear ne_n_p
          try clear ne_n_q
          try clear ne_n_x
          try clear ne_n_u
          try clear ne_q_c
          try clear ne_q_s
          try clear ne_q_p
          try clear ne_q_n
          try clear ne_q_x
          try clear ne_q_u
          try clear ne_x_c
          try clear ne_x_s
          try clear ne_x_p
          try clear ne_x_n
          try clear ne_x_q
          try clear ne_x_u
          try clear ne_u_c
          try clear ne_u_s
          try clear ne_u_p
          try clear ne_u_n
          try clear ne_u_q
          try clear ne_u_x
          try clear z0_c; try clear z0_s; try clear z0_p; try clear z0_n; try clear z0_q; try clear z0_x; try clear z0_u
          try clear z1_c; try clear z1_s; try clear z1_p; try clear z1_n; try clear z1_q; try clear z1_x; try clear z1_u
          try clear z2_c; try clear z2_s; try clear z2_p; try clear z2_n; try clear z2_q; try clear z2_x; try clear z2_u
          try clear z3_c; try clear z3_s; try clear z3_p; try clear z3_n; try clear z3_q; try clear z3_x; try clear z3_u
          try clear z4_c; try clear z4_s; try clear z4_p; try clear z4_n; try clear z4_q; try clear z4_x; try clear z4_u
          try clear z5_c; try clear z5_s; try clear z5_p; try clear z5_n; try clear z5_q; try clear z5_x; try clear z5_u
          try clear z6_c; try clear z6_s; try clear z6_p; try clear z6_n; try clear z6_q; try clear z6_x; try clear z6_u
          try clear hRn
          try clear hRl
          try clear hki hka hkb
          go_wp2_with (fail)
          exact ⟨⟨k + 1, n, xq, hlt, by go_num, hnext, Lib.hid hat3, Lib.hid g3, (Lib.hid ⟨E7_c.out, E7_s.out, E7_p.out, B7⟩)⟩, by simp [intOf]; first | exact hms | omega⟩
    · obtain rfl : k = R1.length := by omega
      go_wp2_with (first | (go_at_call 20; (with_reducible refine Calls.mono (hK.out _) ?_); rintro e w1 ⟨rfl, hB⟩; (first | (obtain ⟨g, rfl⟩ := g.next hB) | (obtain ⟨g, rfl⟩ : ∃ g : Grow wr, w1 = g.x := ⟨⟨w1, hB⟩, rfl⟩)); clear hB))
      go_ret
      exact ⟨rfl, B2.trans (g.h.mono B2.size)⟩

end Go.Proofs.Ytgmbolagciaenaa
