/- Gas: the walk of the law GasRoomed: one case. Gas: the walk of the law GasRoomed: one case. Gas: the walk of the law GasRoomed: one case. Gas: the walk of the law GasRoomed. -/
import Derived.Test.YtgmbolagciaenaaKf
import Derived.Test.YtgmbolagciaenaaLq
set_option linter.unusedVariables false
set_option linter.unusedSimpArgs false
namespace Go.Proofs.Ytgmbolagciaenaa
open Go.RowKit Go.Sd Gas
set_option maxRecDepth 100000 in
set_option maxHeartbeats 16000000 in
theorem lawRmd11 (c : Cav) (s : St) (l : Pt) (u : Int) (p : Pt) (v m : Int) (w : World) (hc : c.ok = true) (hs : s.ok = true) (hl : l.ok = true) (hu1 : ¬ u < 1) (hu2 : ¬ 1000000 < u) (hp : hasB s p = true) (hv1 : ¬ v < c.vlo) (hv2 : ¬ c.vhi < v) (hm1 : ¬ m < 1) (hm2 : ¬ 100 < m) (ha : m ≤ (roomOf (fun n : Nat => fineOp c s (lotsOp l (n : Int))) : Nat)) (hb : ¬ m ≤ (roomOf (fun n : Nat => fineOp c s (unitOp u (n : Int))) : Nat)) :
    Calls Try.prog 14 #[cavV c, stV s, ptV l, .int .i64 u, ptV p, .int .i64 v, .int .i64 m] w fun e w' => e = .returned (.bool true) ∧ Below w.heap.size w w' := by
  obtain ⟨W1, hW1⟩ : ∃ W1, w.alloc (.cells #[.int .i64 c.vlo, .int .i64 c.vhi, .int .i64 c.least, .int .i64 c.most, .int .i64 c.f0, .int .i64 c.f1, .int .i64 c.h0, .int .i64 c.h1, .int .i64 c.rock, .int .i64 c.plo, .int .i64 c.phi] 26) = W1 := ⟨_, rfl⟩
  obtain ⟨e_c, b_c, s_c⟩ := boxed hW1
  obtain ⟨W2, hW2⟩ : ∃ W2, W1.alloc (.cells #[.int .i64 s.glo, .int .i64 s.ghi, .int .i64 s.ylo, .int .i64 s.yhi, .int .i64 s.tlo, .int .i64 s.thi, .int .i64 s.wlo, .int .i64 s.whi] 28) = W2 := ⟨_, rfl⟩
  obtain ⟨e_s, b_s, s_s⟩ := boxed hW2
  replace e_c := (b_s.block _ (Array.getElem?_eq_some_iff.1 e_c).1).trans e_c
  obtain ⟨W3, hW3⟩ : ∃ W3, W2.alloc (.cells #[.int .i64 l.g, .int .i64 l.y, .int .i64 l.t, .int .i64 l.w] 31) = W3 := ⟨_, rfl⟩
  obtain ⟨e_l, b_l, s_l⟩ := boxed hW3
  replace e_c := (b_l.block _ (Array.getElem?_eq_some_iff.1 e_c).1).trans e_c
  replace e_s := (b_l.block _ (Array.getElem?_eq_some_iff.1 e_s).1).trans e_s
  obtain ⟨W, hW⟩ : ∃ W, W3.alloc (.cells #[.int .i64 p.g, .int .i64 p.y, .int .i64 p.t, .int .i64 p.w] 31) = W := ⟨_, rfl⟩
  obtain ⟨e_p, b_p, s_p⟩ := boxed hW
  replace e_c := (b_p.block _ (Array.getElem?_eq_some_iff.1 e_c).1).trans e_c
  replace e_s := (b_p.block _ (Array.getElem?_eq_some_iff.1 e_s).1).trans e_s
  replace e_l := (b_p.block _ (Array.getElem?_eq_some_iff.1 e_l).1).trans e_l
  have B0 : Below w.heap.size w W := (((b_c.trans (b_s.mono (by omega))).trans (b_l.mono (by omega))).trans (b_p.mono (by omega)))
  have z0_c := (Array.getElem?_eq_some_iff.1 e_c).1
  have z0_s := (Array.getElem?_eq_some_iff.1 e_s).1
  have z0_l := (Array.getElem?_eq_some_iff.1 e_l).1
  have z0_p := (Array.getElem?_eq_some_iff.1 e_p).1
  have le_c : w.heap.size ≤ w.heap.size := by omega
  have le_s : w.heap.size ≤ W1.heap.size := by omega
  have le_l : w.heap.size ≤ W2.heap.size := by omega
  have le_p : w.heap.size ≤ W3.heap.size := by omega
  clear s_c b_c s_s b_s s_l b_l s_p b_p
  obtain ⟨q0_c_0, q0_c_1, q0_c_2, q0_c_3, q0_c_4, q0_c_5, q0_c_6, q0_c_7, q0_c_8, q0_c_9, q0_c_10⟩ := rc11 e_c
  replace e_c := Lib.hid e_c
  obtain ⟨q0_s_0, q0_s_1, q0_s_2, q0_s_3, q0_s_4, q0_s_5, q0_s_6, q0_s_7⟩ := rc8 e_s
  replace e_s := Lib.hid e_s
  obtain ⟨q0_l_0, q0_l_1, q0_l_2, q0_l_3⟩ := rc4 e_l
  replace e_l := Lib.hid e_l
  obtain ⟨q0_p_0, q0_p_1, q0_p_2, q0_p_3⟩ := rc4 e_p
  replace e_p := Lib.hid e_p
  have hgw0 := grow_cell W
  have hK := Lib.hid (fun w => progKnown w)
  have hck := Cav.ok_iff.1 hc; have hsk := St.ok_iff.1 hs; have hlk := Pt.ok_iff.1 hl; have hhas := hasB_iff.1 hp
  have hpk := Pt.ok_iff.2 (hhas.ok hsk)
  have hvv := hck.v
  obtain ⟨k, rfl⟩ : ∃ k : Nat, m = (k : Int) := ⟨m.toNat, by omega⟩
  have kR := Lib.hid (fun w => progRoom3 c s l w hc hs hl)
  have kW := Lib.hid (fun w => progWorking3 c s u w hc hs (inB_iff.2 ⟨by omega, by omega⟩))
  obtain ⟨r1, r2, r3⟩ := roomOf_spec (fun n : Nat => fineOp c s (lotsOp l (n : Int)))
  obtain ⟨m1, m2, m3⟩ := roomOf_spec (fun n : Nat => fineOp c s (unitOp u (n : Int)))
  generalize hRdef : roomOf (fun n : Nat => fineOp c s (lotsOp l (n : Int))) = R at *
  generalize hMdef : roomOf (fun n : Nat => fineOp c s (unitOp u (n : Int))) = M at *
  clear hRdef hMdef
  have x1 : ¬ ((R : Nat) : Int) < 0 := by omega
  have x2 : ¬ 100 < ((R : Nat) : Int) := by omega
  have x3 : ¬ ((M : Nat) : Int) < 0 := by omega
  have x4 : ¬ 100 < ((M : Nat) : Int) := by omega
  have ga : (k : Int) ≤ ((R : Nat) : Int) := ha
  have hfa : fineOp c s (lotsOp l (k : Int)) = true := r2 k (by omega) (by omega)
  obtain ⟨xa, qa, haa, _⟩ := fineOp_some hfa
  have kKa := Lib.hid (fun w => lawKept c p (lotsOp l (k : Int)) v w hc hpk (by omega) (kept_plain hck hsk (lots_is hsk hlk haa) ⟨rfl, rfl, rfl, rfl⟩ hhas (by omega) hfa))
  have kLa := Lib.hid (fun w => refLots l (k : Int) w hlk (by omega))
  clear haa hfa
  have gb : ¬ (k : Int) ≤ ((M : Nat) : Int) := hb
  have gbD : decide ((k : Int) ≤ ((M : Nat) : Int)) = false := decide_eq_false gb
  have gbE : decide (k ≤ M) = false := decide_eq_false (by omega)
  have e2 : IntKind.i64.wrap (((R : Nat) : Int) + 1) = ((R : Nat) : Int) + 1 := IntWalk.i64_in _ (by omega)
  have e3 : IntKind.i64.wrap (((M : Nat) : Int) + 1) = ((M : Nat) : Int) + 1 := IntWalk.i64_in _ (by omega)
  have e4 : IntKind.i64.wrap ((((M : Nat) : Int) + 1) * u) = (((M : Nat) : Int) + 1) * u := mul_in (by omega) (show 0 ≤ u ∧ u ≤ 1000000 by omega) (by decide)
  have kLn := Lib.hid (fun w => refLots l (((R : Nat) : Int) + 1) w hlk (by omega))
  have kFa : Hid (R < 100 → ∀ w, Calls Try.prog 49 #[cavV c, stV s, opV (lotsOp l (((R : Nat) : Int) + 1))] w fun e w' => e = .returned (.bool false) ∧ Below w.heap.size w w') := Lib.hid (fun h w => lawFine c s _ w hc hs (by have := r3 h; simpa using this))
  have kFb : Hid (M < 100 → ∀ w, Calls Try.prog 49 #[cavV c, stV s, .agg #[.int .i64 2, .int .i64 0, .int .i64 0, .int .i64 0, .int .i64 0, .int .i64 ((((M : Nat) : Int) + 1) * u), .int .i64 0, .int .i64 0, .int .i64 0, .int .i64 0]] w fun e w' => e = .returned (.bool false) ∧ Below w.heap.size w w') := Lib.hid (fun h w => lawFine c s (unitOp u (((M : Nat) : Int) + 1)) w hc hs (by have := m3 h; simpa using this))
  clear r2 r3 m2 m3 hck hsk hlk hhas hpk hvv
  generalize hla : lotsOp l (k : Int) = la at *
  clear hla
  generalize hln : lotsOp l (((R : Nat) : Int) + 1) = ln at *
  clear hln
  have kRC := Lib.hid (fun w => (refCavern c w).mono fun e w' hb => BoolB.lit hb hc)
  have kRS := Lib.hid (fun w => (refState s w).mono fun e w' hb => BoolB.lit hb hs)
  have kRP := Lib.hid (fun w => (refPoint l w).mono fun e w' hb => BoolB.lit hb hl)
  have kRH := Lib.hid (fun w => (refHas s p w).mono fun e w' hb => BoolB.lit hb hp)
  replace hc := Lib.hid hc; replace hs := Lib.hid hs; replace hl := Lib.hid hl; replace hp := Lib.hid hp
  go_enter Try.func14, Try.ntmps14
  go_wp2_with (first | (go_at_call 17; (with_reducible refine Calls.mono (kRC.out _) ?_); rintro e w1 ⟨rfl, hB⟩; (first | (obtain ⟨g, rfl⟩ := g.next hB) | (obtain ⟨g, rfl⟩ : ∃ g : Grow W, w1 = g.x := ⟨⟨w1, hB⟩, rfl⟩)); clear hB) | (go_at_call 18; (with_reducible refine Calls.mono (kRS.out _) ?_); rintro e w1 ⟨rfl, hB⟩; (first | (obtain ⟨g, rfl⟩ := g.next hB) | (obtain ⟨g, rfl⟩ : ∃ g : Grow W, w1 = g.x := ⟨⟨w1, hB⟩, rfl⟩)); clear hB) | (go_at_call 25; (with_reducible refine Calls.mono (kRP.out _) ?_); rintro e w1 ⟨rfl, hB⟩; (first | (obtain ⟨g, rfl⟩ := g.next hB) | (obtain ⟨g, rfl⟩ : ∃ g : Grow W, w1 = g.x := ⟨⟨w1, hB⟩, rfl⟩)); clear hB) | (go_at_call 34; (with_reducible refine Calls.mono (kRH.out _) ?_); rintro e w1 ⟨rfl, hB⟩; (first | (obtain ⟨g, rfl⟩ := g.next hB) | (obtain ⟨g, rfl⟩ : ∃ g : Grow W, w1 = g.x := ⟨⟨w1, hB⟩, rfl⟩)); clear hB) | (go_at_call 45; (with_reducible refine Calls.mono (kR.out _) ?_); rintro e w1 ⟨rfl, hB⟩; (first | (obtain ⟨g, rfl⟩ := g.next hB) | (obtain ⟨g, rfl⟩ : ∃ g : Grow W, w1 = g.x := ⟨⟨w1, hB⟩, rfl⟩)); clear hB) | (go_at_call 46; (with_reducible refine Calls.mono (kW.out _) ?_); rintro e w1 ⟨rfl, hB⟩; (first | (obtain ⟨g, rfl⟩ := g.next hB) | (obtain ⟨g, rfl⟩ : ∃ g : Grow W, w1 = g.x := ⟨⟨w1, hB⟩, rfl⟩)); clear hB))
  have hgg : ∀ (h : Grow g.x) (b o : Nat), b < W.heap.size → h.x.cell? ⟨b, o, none⟩ = W.cell? ⟨b, o, none⟩ := fun h b o hb => (grow_cell g.x h b o (Nat.lt_of_lt_of_le hb g.size)).trans (grow_cell W g b o hb)
  refine wp_region_grow (by kernel_rfl) (by kernel_rfl) ?_
  repeat (go_big_quiet_step ((first | (go_at_call 48; with_reducible exact Calls.grow (kLa.out _)) | (go_at_call 47; with_reducible exact Calls.grow (kKa.out _)))))
  refine wpQuiet_nil ?_
  rintro _ ⟨gx, rfl⟩
  clear hgg
  obtain ⟨g2, hg2⟩ := g.next gx.h
  rw [hg2]
  clear hg2 gx
  obtain ⟨g, hgx⟩ : ∃ g : Grow W, g2.x = g.x := ⟨g2, rfl⟩
  rw [hgx]
  clear hgx g2
  by_cases hR1 : R < 100
  · skip
    have y1 : ((R : Nat) : Int) < 100 := by omega
    have kF1 := Lib.hid (kFa.out hR1)
    by_cases hM1 : M < 100
    · skip
      have y2 : ((M : Nat) : Int) < 100 := by omega
      have kF2 := Lib.hid (kFb.out hM1)
      go_wp2_with (fail)
      have hgg : ∀ (h : Grow g.x) (b o : Nat), b < W.heap.size → h.x.cell? ⟨b, o, none⟩ = W.cell? ⟨b, o, none⟩ := fun h b o hb => (grow_cell g.x h b o (Nat.lt_of_lt_of_le hb g.size)).trans (grow_cell W g b o hb)
      refine wp_region_grow (by kernel_rfl) (by kernel_rfl) ?_
      repeat (go_big_quiet_step ((first | (go_at_call 48; with_reducible exact Calls.grow (kLn.out _)) | (go_at_call 49; with_reducible exact Calls.grow (kF1.out _)) | (go_at_call 49; with_reducible exact Calls.grow (kF2.out _)))))
      refine wpQuiet_nil ?_
      rintro _ ⟨gx, rfl⟩
      clear hgg
      obtain ⟨g2, hg2⟩ := g.next gx.h
      rw [hg2]
      clear hg2 gx
      obtain ⟨g, hgx⟩ : ∃ g : Grow W, g2.x = g.x := ⟨g2, rfl⟩
      rw [hgx]
      clear hgx g2
      go_wp2_with (first | (go_at_call 20; (with_reducible refine Calls.mono (hK.out _) ?_); rintro e w1 ⟨rfl, hB⟩; (first | (obtain ⟨g, rfl⟩ := g.next hB) | (obtain ⟨g, rfl⟩ : ∃ g : Grow W, w1 = g.x := ⟨⟨w1, hB⟩, rfl⟩)); clear hB))
      go_ret
      exact ⟨rfl, B0.trans (g.h.mono B0.size)⟩
    · skip
      exfalso; omega
  · skip
    have y1 : ¬ ((R : Nat) : Int) < 100 := by omega
    have y1D : decide (((R : Nat) : Int) < 100) = false := decide_eq_false y1
    have y1E : decide (R < 100) = false := decide_eq_false hR1
    by_cases hM1 : M < 100
    · skip
      have y2 : ((M : Nat) : Int) < 100 := by omega
      have kF2 := Lib.hid (kFb.out hM1)
      go_wp2_with (fail)
      have hgg : ∀ (h : Grow g.x) (b o : Nat), b < W.heap.size → h.x.cell? ⟨b, o, none⟩ = W.cell? ⟨b, o, none⟩ := fun h b o hb => (grow_cell g.x h b o (Nat.lt_of_lt_of_le hb g.size)).trans (grow_cell W g b o hb)
      refine wp_region_grow (by kernel_rfl) (by kernel_rfl) ?_
      repeat (go_big_quiet_step ((first | (go_at_call 49; with_reducible exact Calls.grow (kF2.out _)))))
      refine wpQuiet_nil ?_
      rintro _ ⟨gx, rfl⟩
      clear hgg
      obtain ⟨g2, hg2⟩ := g.next gx.h
      rw [hg2]
      clear hg2 gx
      obtain ⟨g, hgx⟩ : ∃ g : Grow W, g2.x = g.x := ⟨g2, rfl⟩
      rw [hgx]
      clear hgx g2
      go_wp2_with (first | (go_at_call 20; (with_reducible refine Calls.mono (hK.out _) ?_); rintro e w1 ⟨rfl, hB⟩; (first | (obtain ⟨g, rfl⟩ := g.next hB) | (obtain ⟨g, rfl⟩ : ∃ g : Grow W, w1 = g.x := ⟨⟨w1, hB⟩, rfl⟩)); clear hB))
      go_ret
      exact ⟨rfl, B0.trans (g.h.mono B0.size)⟩
    · skip
      exfalso; omega
end Go.Proofs.Ytgmbolagciaenaa
namespace Go.Proofs.Ytgmbolagciaenaa
open Go.RowKit Go.Sd Gas
set_option maxRecDepth 100000 in
set_option maxHeartbeats 16000000 in
theorem lawRmd12 (c : Cav) (s : St) (l : Pt) (u : Int) (p : Pt) (v m : Int) (w : World) (hc : c.ok = true) (hs : s.ok = true) (hl : l.ok = true) (hu1 : ¬ u < 1) (hu2 : ¬ 1000000 < u) (hp : hasB s p = true) (hv1 : ¬ v < c.vlo) (hv2 : ¬ c.vhi < v) (hm1 : ¬ m < 1) (hm2 : ¬ 100 < m) (ha : ¬ m ≤ (roomOf (fun n : Nat => fineOp c s (lotsOp l (n : Int))) : Nat)) (hb : m ≤ (roomOf (fun n : Nat => fineOp c s (unitOp u (n : Int))) : Nat)) :
    Calls Try.prog 14 #[cavV c, stV s, ptV l, .int .i64 u, ptV p, .int .i64 v, .int .i64 m] w fun e w' => e = .returned (.bool true) ∧ Below w.heap.size w w' := by
  obtain ⟨W1, hW1⟩ : ∃ W1, w.alloc (.cells #[.int .i64 c.vlo, .int .i64 c.vhi, .int .i64 c.least, .int .i64 c.most, .int .i64 c.f0, .int .i64 c.f1, .int .i64 c.h0, .int .i64 c.h1, .int .i64 c.rock, .int .i64 c.plo, .int .i64 c.phi] 26) = W1 := ⟨_, rfl⟩
  obtain ⟨e_c, b_c, s_c⟩ := boxed hW1
  obtain ⟨W2, hW2⟩ : ∃ W2, W1.alloc (.cells #[.int .i64 s.glo, .int .i64 s.ghi, .int .i64 s.ylo, .int .i64 s.yhi, .int .i64 s.tlo, .int .i64 s.thi, .int .i64 s.wlo, .int .i64 s.whi] 28) = W2 := ⟨_, rfl⟩
  obtain ⟨e_s, b_s, s_s⟩ := boxed hW2
  replace e_c := (b_s.block _ (Array.getElem?_eq_some_iff.1 e_c).1).trans e_c
  obtain ⟨W3, hW3⟩ : ∃ W3, W2.alloc (.cells #[.int .i64 l.g, .int .i64 l.y, .int .i64 l.t, .int .i64 l.w] 31) = W3 := ⟨_, rfl⟩
  obtain ⟨e_l, b_l, s_l⟩ := boxed hW3
  replace e_c := (b_l.block _ (Array.getElem?_eq_some_iff.1 e_c).1).trans e_c
  replace e_s := (b_l.block _ (Array.getElem?_eq_some_iff.1 e_s).1).trans e_s
  obtain ⟨W, hW⟩ : ∃ W, W3.alloc (.cells #[.int .i64 p.g, .int .i64 p.y, .int .i64 p.t, .int .i64 p.w] 31) = W := ⟨_, rfl⟩
  obtain ⟨e_p, b_p, s_p⟩ := boxed hW
  replace e_c := (b_p.block _ (Array.getElem?_eq_some_iff.1 e_c).1).trans e_c
  replace e_s := (b_p.block _ (Array.getElem?_eq_some_iff.1 e_s).1).trans e_s
  replace e_l := (b_p.block _ (Array.getElem?_eq_some_iff.1 e_l).1).trans e_l
  have B0 : Below w.heap.size w W := (((b_c.trans (b_s.mono (by omega))).trans (b_l.mono (by omega))).trans (b_p.mono (by omega)))
  have z0_c := (Array.getElem?_eq_some_iff.1 e_c).1
  have z0_s := (Array.getElem?_eq_some_iff.1 e_s).1
  have z0_l := (Array.getElem?_eq_some_iff.1 e_l).1
  have z0_p := (Array.getElem?_eq_some_iff.1 e_p).1
  have le_c : w.heap.size ≤ w.heap.size := by omega
  have le_s : w.heap.size ≤ W1.heap.size := by omega
  have le_l : w.heap.size ≤ W2.heap.size := by omega
  have le_p : w.heap.size ≤ W3.heap.size := by omega
  clear s_c b_c s_s b_s s_l b_l s_p b_p
  obtain ⟨q0_c_0, q0_c_1, q0_c_2, q0_c_3, q0_c_4, q0_c_5, q0_c_6, q0_c_7, q0_c_8, q0_c_9, q0_c_10⟩ := rc11 e_c
  replace e_c := Lib.hid e_c
  obtain ⟨q0_s_0, q0_s_1, q0_s_2, q0_s_3, q0_s_4, q0_s_5, q0_s_6, q0_s_7⟩ := rc8 e_s
  replace e_s := Lib.hid e_s
  obtain ⟨q0_l_0, q0_l_1, q0_l_2, q0_l_3⟩ := rc4 e_l
  replace e_l := Lib.hid e_l
  obtain ⟨q0_p_0, q0_p_1, q0_p_2, q0_p_3⟩ := rc4 e_p
  replace e_p := Lib.hid e_p
  have hgw0 := grow_cell W
  have hK := Lib.hid (fun w => progKnown w)
  have hck := Cav.ok_iff.1 hc; have hsk := St.ok_iff.1 hs; have hlk := Pt.ok_iff.1 hl; have hhas := hasB_iff.1 hp
  have hpk := Pt.ok_iff.2 (hhas.ok hsk)
  have hvv := hck.v
  obtain ⟨k, rfl⟩ : ∃ k : Nat, m = (k : Int) := ⟨m.toNat, by omega⟩
  have kR := Lib.hid (fun w => progRoom3 c s l w hc hs hl)
  have kW := Lib.hid (fun w => progWorking3 c s u w hc hs (inB_iff.2 ⟨by omega, by omega⟩))
  obtain ⟨r1, r2, r3⟩ := roomOf_spec (fun n : Nat => fineOp c s (lotsOp l (n : Int)))
  obtain ⟨m1, m2, m3⟩ := roomOf_spec (fun n : Nat => fineOp c s (unitOp u (n : Int)))
  generalize hRdef : roomOf (fun n : Nat => fineOp c s (lotsOp l (n : Int))) = R at *
  generalize hMdef : roomOf (fun n : Nat => fineOp c s (unitOp u (n : Int))) = M at *
  clear hRdef hMdef
  have x1 : ¬ ((R : Nat) : Int) < 0 := by omega
  have x2 : ¬ 100 < ((R : Nat) : Int) := by omega
  have x3 : ¬ ((M : Nat) : Int) < 0 := by omega
  have x4 : ¬ 100 < ((M : Nat) : Int) := by omega
  have ga : ¬ (k : Int) ≤ ((R : Nat) : Int) := ha
  have gaD : decide ((k : Int) ≤ ((R : Nat) : Int)) = false := decide_eq_false ga
  have gaE : decide (k ≤ R) = false := decide_eq_false (by omega)
  have gb : (k : Int) ≤ ((M : Nat) : Int) := hb
  have hfb : fineOp c s (unitOp u (k : Int)) = true := m2 k (by omega) (by omega)
  obtain ⟨xb, qb, hab, _⟩ := fineOp_some hfb
  have kKb : Hid (∀ w, Calls Try.prog 47 #[cavV c, ptV p, .agg #[.int .i64 2, .int .i64 0, .int .i64 0, .int .i64 0, .int .i64 0, .int .i64 ((k : Int) * u), .int .i64 0, .int .i64 0, .int .i64 0, .int .i64 0], .int .i64 v] w fun e w' => e = .returned (.bool true) ∧ Below w.heap.size w w') := Lib.hid (fun w => lawKept c p (unitOp u (k : Int)) v w hc hpk (by omega) (kept_plain hck hsk (unit_is hsk (by omega) hab) ⟨rfl, rfl, rfl, rfl⟩ hhas (by omega) hfb))
  have e1 : IntKind.i64.wrap ((k : Int) * u) = (k : Int) * u := mul_in (by omega) (show 0 ≤ u ∧ u ≤ 1000000 by omega) (by decide)
  clear hab hfb
  have e2 : IntKind.i64.wrap (((R : Nat) : Int) + 1) = ((R : Nat) : Int) + 1 := IntWalk.i64_in _ (by omega)
  have e3 : IntKind.i64.wrap (((M : Nat) : Int) + 1) = ((M : Nat) : Int) + 1 := IntWalk.i64_in _ (by omega)
  have e4 : IntKind.i64.wrap ((((M : Nat) : Int) + 1) * u) = (((M : Nat) : Int) + 1) * u := mul_in (by omega) (show 0 ≤ u ∧ u ≤ 1000000 by omega) (by decide)
  have kLn := Lib.hid (fun w => refLots l (((R : Nat) : Int) + 1) w hlk (by omega))
  have kFa : Hid (R < 100 → ∀ w, Calls Try.prog 49 #[cavV c, stV s, opV (lotsOp l (((R : Nat) : Int) + 1))] w fun e w' => e = .returned (.bool false) ∧ Below w.heap.size w w') := Lib.hid (fun h w => lawFine c s _ w hc hs (by have := r3 h; simpa using this))
  have kFb : Hid (M < 100 → ∀ w, Calls Try.prog 49 #[cavV c, stV s, .agg #[.int .i64 2, .int .i64 0, .int .i64 0, .int .i64 0, .int .i64 0, .int .i64 ((((M : Nat) : Int) + 1) * u), .int .i64 0, .int .i64 0, .int .i64 0, .int .i64 0]] w fun e w' => e = .returned (.bool false) ∧ Below w.heap.size w w') := Lib.hid (fun h w => lawFine c s (unitOp u (((M : Nat) : Int) + 1)) w hc hs (by have := m3 h; simpa using this))
  clear r2 r3 m2 m3 hck hsk hlk hhas hpk hvv
  generalize hln : lotsOp l (((R : Nat) : Int) + 1) = ln at *
  clear hln
  have kRC := Lib.hid (fun w => (refCavern c w).mono fun e w' hb => BoolB.lit hb hc)
  have kRS := Lib.hid (fun w => (refState s w).mono fun e w' hb => BoolB.lit hb hs)
  have kRP := Lib.hid (fun w => (refPoint l w).mono fun e w' hb => BoolB.lit hb hl)
  have kRH := Lib.hid (fun w => (refHas s p w).mono fun e w' hb => BoolB.lit hb hp)
  replace hc := Lib.hid hc; replace hs := Lib.hid hs; replace hl := Lib.hid hl; replace hp := Lib.hid hp
  go_enter Try.func14, Try.ntmps14
  go_wp2_with (first | (go_at_call 17; (with_reducible refine Calls.mono (kRC.out _) ?_); rintro e w1 ⟨rfl, hB⟩; (first | (obtain ⟨g, rfl⟩ := g.next hB) | (obtain ⟨g, rfl⟩ : ∃ g : Grow W, w1 = g.x := ⟨⟨w1, hB⟩, rfl⟩)); clear hB) | (go_at_call 18; (with_reducible refine Calls.mono (kRS.out _) ?_); rintro e w1 ⟨rfl, hB⟩; (first | (obtain ⟨g, rfl⟩ := g.next hB) | (obtain ⟨g, rfl⟩ : ∃ g : Grow W, w1 = g.x := ⟨⟨w1, hB⟩, rfl⟩)); clear hB) | (go_at_call 25; (with_reducible refine Calls.mono (kRP.out _) ?_); rintro e w1 ⟨rfl, hB⟩; (first | (obtain ⟨g, rfl⟩ := g.next hB) | (obtain ⟨g, rfl⟩ : ∃ g : Grow W, w1 = g.x := ⟨⟨w1, hB⟩, rfl⟩)); clear hB) | (go_at_call 34; (with_reducible refine Calls.mono (kRH.out _) ?_); rintro e w1 ⟨rfl, hB⟩; (first | (obtain ⟨g, rfl⟩ := g.next hB) | (obtain ⟨g, rfl⟩ : ∃ g : Grow W, w1 = g.x := ⟨⟨w1, hB⟩, rfl⟩)); clear hB) | (go_at_call 45; (with_reducible refine Calls.mono (kR.out _) ?_); rintro e w1 ⟨rfl, hB⟩; (first | (obtain ⟨g, rfl⟩ := g.next hB) | (obtain ⟨g, rfl⟩ : ∃ g : Grow W, w1 = g.x := ⟨⟨w1, hB⟩, rfl⟩)); clear hB) | (go_at_call 46; (with_reducible refine Calls.mono (kW.out _) ?_); rintro e w1 ⟨rfl, hB⟩; (first | (obtain ⟨g, rfl⟩ := g.next hB) | (obtain ⟨g, rfl⟩ : ∃ g : Grow W, w1 = g.x := ⟨⟨w1, hB⟩, rfl⟩)); clear hB))
  have hgg : ∀ (h : Grow g.x) (b o : Nat), b < W.heap.size → h.x.cell? ⟨b, o, none⟩ = W.cell? ⟨b, o, none⟩ := fun h b o hb => (grow_cell g.x h b o (Nat.lt_of_lt_of_le hb g.size)).trans (grow_cell W g b o hb)
  refine wp_region_grow (by kernel_rfl) (by kernel_rfl) ?_
  repeat (go_big_quiet_step ((first | (go_at_call 47; with_reducible exact Calls.grow (kKb.out _)))))
  refine wpQuiet_nil ?_
  rintro _ ⟨gx, rfl⟩
  clear hgg
  obtain ⟨g2, hg2⟩ := g.next gx.h
  rw [hg2]
  clear hg2 gx
  obtain ⟨g, hgx⟩ : ∃ g : Grow W, g2.x = g.x := ⟨g2, rfl⟩
  rw [hgx]
  clear hgx g2
  by_cases hR1 : R < 100
  · skip
    have y1 : ((R : Nat) : Int) < 100 := by omega
    have kF1 := Lib.hid (kFa.out hR1)
    by_cases hM1 : M < 100
    · skip
      have y2 : ((M : Nat) : Int) < 100 := by omega
      have kF2 := Lib.hid (kFb.out hM1)
      go_wp2_with (fail)
      have hgg : ∀ (h : Grow g.x) (b o : Nat), b < W.heap.size → h.x.cell? ⟨b, o, none⟩ = W.cell? ⟨b, o, none⟩ := fun h b o hb => (grow_cell g.x h b o (Nat.lt_of_lt_of_le hb g.size)).trans (grow_cell W g b o hb)
      refine wp_region_grow (by kernel_rfl) (by kernel_rfl) ?_
      repeat (go_big_quiet_step ((first | (go_at_call 48; with_reducible exact Calls.grow (kLn.out _)) | (go_at_call 49; with_reducible exact Calls.grow (kF1.out _)) | (go_at_call 49; with_reducible exact Calls.grow (kF2.out _)))))
      refine wpQuiet_nil ?_
      rintro _ ⟨gx, rfl⟩
      clear hgg
      obtain ⟨g2, hg2⟩ := g.next gx.h
      rw [hg2]
      clear hg2 gx
      obtain ⟨g, hgx⟩ : ∃ g : Grow W, g2.x = g.x := ⟨g2, rfl⟩
      rw [hgx]
      clear hgx g2
      go_wp2_with (first | (go_at_call 20; (with_reducible refine Calls.mono (hK.out _) ?_); rintro e w1 ⟨rfl, hB⟩; (first | (obtain ⟨g, rfl⟩ := g.next hB) | (obtain ⟨g, rfl⟩ : ∃ g : Grow W, w1 = g.x := ⟨⟨w1, hB⟩, rfl⟩)); clear hB))
      go_ret
      exact ⟨rfl, B0.trans (g.h.mono B0.size)⟩
    · skip
      have y2 : ¬ ((M : Nat) : Int) < 100 := by omega
      have y2D : decide (((M : Nat) : Int) < 100) = false := decide_eq_false y2
      have y2E : decide (M < 100) = false := decide_eq_false hM1
      go_wp2_with (fail)
      have hgg : ∀ (h : Grow g.x) (b o : Nat), b < W.heap.size → h.x.cell? ⟨b, o, none⟩ = W.cell? ⟨b, o, none⟩ := fun h b o hb => (grow_cell g.x h b o (Nat.lt_of_lt_of_le hb g.size)).trans (grow_cell W g b o hb)
      refine wp_region_grow (by kernel_rfl) (by kernel_rfl) ?_
      repeat (go_big_quiet_step ((first | (go_at_call 48; with_reducible exact Calls.grow (kLn.out _)) | (go_at_call 49; with_reducible exact Calls.grow (kF1.out _)))))
      refine wpQuiet_nil ?_
      rintro _ ⟨gx, rfl⟩
      clear hgg
      obtain ⟨g2, hg2⟩ := g.next gx.h
      rw [hg2]
      clear hg2 gx
      obtain ⟨g, hgx⟩ : ∃ g : Grow W, g2.x = g.x := ⟨g2, rfl⟩
      rw [hgx]
      clear hgx g2
      go_wp2_with (first | (go_at_call 20; (with_reducible refine Calls.mono (hK.out _) ?_); rintro e w1 ⟨rfl, hB⟩; (first | (obtain ⟨g, rfl⟩ := g.next hB) | (obtain ⟨g, rfl⟩ : ∃ g : Grow W, w1 = g.x := ⟨⟨w1, hB⟩, rfl⟩)); clear hB))
      go_ret
      exact ⟨rfl, B0.trans (g.h.mono B0.size)⟩
  · skip
    exfalso; omega
end Go.Proofs.Ytgmbolagciaenaa
namespace Go.Proofs.Ytgmbolagciaenaa
open Go.RowKit Go.Sd Gas
set_option maxRecDepth 100000 in
set_option maxHeartbeats 16000000 in
theorem lawRmd13 (c : Cav) (s : St) (l : Pt) (u : Int) (p : Pt) (v m : Int) (w : World) (hc : c.ok = true) (hs : s.ok = true) (hl : l.ok = true) (hu1 : ¬ u < 1) (hu2 : ¬ 1000000 < u) (hp : hasB s p = true) (hv1 : ¬ v < c.vlo) (hv2 : ¬ c.vhi < v) (hm1 : ¬ m < 1) (hm2 : ¬ 100 < m) (ha : ¬ m ≤ (roomOf (fun n : Nat => fineOp c s (lotsOp l (n : Int))) : Nat)) (hb : ¬ m ≤ (roomOf (fun n : Nat => fineOp c s (unitOp u (n : Int))) : Nat)) :
    Calls Try.prog 14 #[cavV c, stV s, ptV l, .int .i64 u, ptV p, .int .i64 v, .int .i64 m] w fun e w' => e = .returned (.bool true) ∧ Below w.heap.size w w' := by
  obtain ⟨W1, hW1⟩ : ∃ W1, w.alloc (.cells #[.int .i64 c.vlo, .int .i64 c.vhi, .int .i64 c.least, .int .i64 c.most, .int .i64 c.f0, .int .i64 c.f1, .int .i64 c.h0, .int .i64 c.h1, .int .i64 c.rock, .int .i64 c.plo, .int .i64 c.phi] 26) = W1 := ⟨_, rfl⟩
  obtain ⟨e_c, b_c, s_c⟩ := boxed hW1
  obtain ⟨W2, hW2⟩ : ∃ W2, W1.alloc (.cells #[.int .i64 s.glo, .int .i64 s.ghi, .int .i64 s.ylo, .int .i64 s.yhi, .int .i64 s.tlo, .int .i64 s.thi, .int .i64 s.wlo, .int .i64 s.whi] 28) = W2 := ⟨_, rfl⟩
  obtain ⟨e_s, b_s, s_s⟩ := boxed hW2
  replace e_c := (b_s.block _ (Array.getElem?_eq_some_iff.1 e_c).1).trans e_c
  obtain ⟨W3, hW3⟩ : ∃ W3, W2.alloc (.cells #[.int .i64 l.g, .int .i64 l.y, .int .i64 l.t, .int .i64 l.w] 31) = W3 := ⟨_, rfl⟩
  obtain ⟨e_l, b_l, s_l⟩ := boxed hW3
  replace e_c := (b_l.block _ (Array.getElem?_eq_some_iff.1 e_c).1).trans e_c
  replace e_s := (b_l.block _ (Array.getElem?_eq_some_iff.1 e_s).1).trans e_s
  obtain ⟨W, hW⟩ : ∃ W, W3.alloc (.cells #[.int .i64 p.g, .int .i64 p.y, .int .i64 p.t, .int .i64 p.w] 31) = W := ⟨_, rfl⟩
  obtain ⟨e_p, b_p, s_p⟩ := boxed hW
  replace e_c := (b_p.block _ (Array.getElem?_eq_some_iff.1 e_c).1).trans e_c
  replace e_s := (b_p.block _ (Array.getElem?_eq_some_iff.1 e_s).1).trans e_s
  replace e_l := (b_p.block _ (Array.getElem?_eq_some_iff.1 e_l).1).trans e_l
  have B0 : Below w.heap.size w W := (((b_c.trans (b_s.mono (by omega))).trans (b_l.mono (by omega))).trans (b_p.mono (by omega)))
  have z0_c := (Array.getElem?_eq_some_iff.1 e_c).1
  have z0_s := (Array.getElem?_eq_some_iff.1 e_s).1
  have z0_l := (Array.getElem?_eq_some_iff.1 e_l).1
  have z0_p := (Array.getElem?_eq_some_iff.1 e_p).1
  have le_c : w.heap.size ≤ w.heap.size := by omega
  have le_s : w.heap.size ≤ W1.heap.size := by omega
  have le_l : w.heap.size ≤ W2.heap.size := by omega
  have le_p : w.heap.size ≤ W3.heap.size := by omega
  clear s_c b_c s_s b_s s_l b_l s_p b_p
  obtain ⟨q0_c_0, q0_c_1, q0_c_2, q0_c_3, q0_c_4, q0_c_5, q0_c_6, q0_c_7, q0_c_8, q0_c_9, q0_c_10⟩ := rc11 e_c
  replace e_c := Lib.hid e_c
  obtain ⟨q0_s_0, q0_s_1, q0_s_2, q0_s_3, q0_s_4, q0_s_5, q0_s_6, q0_s_7⟩ := rc8 e_s
  replace e_s := Lib.hid e_s
  obtain ⟨q0_l_0, q0_l_1, q0_l_2, q0_l_3⟩ := rc4 e_l
  replace e_l := Lib.hid e_l
  obtain ⟨q0_p_0, q0_p_1, q0_p_2, q0_p_3⟩ := rc4 e_p
  replace e_p := Lib.hid e_p
  have hgw0 := grow_cell W
  have hK := Lib.hid (fun w => progKnown w)
  have hck := Cav.ok_iff.1 hc; have hsk := St.ok_iff.1 hs; have hlk := Pt.ok_iff.1 hl; have hhas := hasB_iff.1 hp
  have hpk := Pt.ok_iff.2 (hhas.ok hsk)
  have hvv := hck.v
  obtain ⟨k, rfl⟩ : ∃ k : Nat, m = (k : Int) := ⟨m.toNat, by omega⟩
  have kR := Lib.hid (fun w => progRoom3 c s l w hc hs hl)
  have kW := Lib.hid (fun w => progWorking3 c s u w hc hs (inB_iff.2 ⟨by omega, by omega⟩))
  obtain ⟨r1, r2, r3⟩ := roomOf_spec (fun n : Nat => fineOp c s (lotsOp l (n : Int)))
  obtain ⟨m1, m2, m3⟩ := roomOf_spec (fun n : Nat => fineOp c s (unitOp u (n : Int)))
  generalize hRdef : roomOf (fun n : Nat => fineOp c s (lotsOp l (n : Int))) = R at *
  generalize hMdef : roomOf (fun n : Nat => fineOp c s (unitOp u (n : Int))) = M at *
  clear hRdef hMdef
  have x1 : ¬ ((R : Nat) : Int) < 0 := by omega
  have x2 : ¬ 100 < ((R : Nat) : Int) := by omega
  have x3 : ¬ ((M : Nat) : Int) < 0 := by omega
  have x4 : ¬ 100 < ((M : Nat) : Int) := by omega
  have ga : ¬ (k : Int) ≤ ((R : Nat) : Int) := ha
  have gaD : decide ((k : Int) ≤ ((R : Nat) : Int)) = false := decide_eq_false ga
  have gaE : decide (k ≤ R) = false := decide_eq_false (by omega)
  have gb : ¬ (k : Int) ≤ ((M : Nat) : Int) := hb
  have gbD : decide ((k : Int) ≤ ((M : Nat) : Int)) = false := decide_eq_false gb
  have gbE : decide (k ≤ M) = false := decide_eq_false (by omega)
  have e2 : IntKind.i64.wrap (((R : Nat) : Int) + 1) = ((R : Nat) : Int) + 1 := IntWalk.i64_in _ (by omega)
  have e3 : IntKind.i64.wrap (((M : Nat) : Int) + 1) = ((M : Nat) : Int) + 1 := IntWalk.i64_in _ (by omega)
  have e4 : IntKind.i64.wrap ((((M : Nat) : Int) + 1) * u) = (((M : Nat) : Int) + 1) * u := mul_in (by omega) (show 0 ≤ u ∧ u ≤ 1000000 by omega) (by decide)
  have kLn := Lib.hid (fun w => refLots l (((R : Nat) : Int) + 1) w hlk (by omega))
  have kFa : Hid (R < 100 → ∀ w, Calls Try.prog 49 #[cavV c, stV s, opV (lotsOp l (((R : Nat) : Int) + 1))] w fun e w' => e = .returned (.bool false) ∧ Below w.heap.size w w') := Lib.hid (fun h w => lawFine c s _ w hc hs (by have := r3 h; simpa using this))
  have kFb : Hid (M < 100 → ∀ w, Calls Try.prog 49 #[cavV c, stV s, .agg #[.int .i64 2, .int .i64 0, .int .i64 0, .int .i64 0, .int .i64 0, .int .i64 ((((M : Nat) : Int) + 1) * u), .int .i64 0, .int .i64 0, .int .i64 0, .int .i64 0]] w fun e w' => e = .returned (.bool false) ∧ Below w.heap.size w w') := Lib.hid (fun h w => lawFine c s (unitOp u (((M : Nat) : Int) + 1)) w hc hs (by have := m3 h; simpa using this))
  clear r2 r3 m2 m3 hck hsk hlk hhas hpk hvv
  generalize hln : lotsOp l (((R : Nat) : Int) + 1) = ln at *
  clear hln
  have kRC := Lib.hid (fun w => (refCavern c w).mono fun e w' hb => BoolB.lit hb hc)
  have kRS := Lib.hid (fun w => (refState s w).mono fun e w' hb => BoolB.lit hb hs)
  have kRP := Lib.hid (fun w => (refPoint l w).mono fun e w' hb => BoolB.lit hb hl)
  have kRH := Lib.hid (fun w => (refHas s p w).mono fun e w' hb => BoolB.lit hb hp)
  replace hc := Lib.hid hc; replace hs := Lib.hid hs; replace hl := Lib.hid hl; replace hp := Lib.hid hp
  go_enter Try.func14, Try.ntmps14
  go_wp2_with (first | (go_at_call 17; (with_reducible refine Calls.mono (kRC.out _) ?_); rintro e w1 ⟨rfl, hB⟩; (first | (obtain ⟨g, rfl⟩ := g.next hB) | (obtain ⟨g, rfl⟩ : ∃ g : Grow W, w1 = g.x := ⟨⟨w1, hB⟩, rfl⟩)); clear hB) | (go_at_call 18; (with_reducible refine Calls.mono (kRS.out _) ?_); rintro e w1 ⟨rfl, hB⟩; (first | (obtain ⟨g, rfl⟩ := g.next hB) | (obtain ⟨g, rfl⟩ : ∃ g : Grow W, w1 = g.x := ⟨⟨w1, hB⟩, rfl⟩)); clear hB) | (go_at_call 25; (with_reducible refine Calls.mono (kRP.out _) ?_); rintro e w1 ⟨rfl, hB⟩; (first | (obtain ⟨g, rfl⟩ := g.next hB) | (obtain ⟨g, rfl⟩ : ∃ g : Grow W, w1 = g.x := ⟨⟨w1, hB⟩, rfl⟩)); clear hB) | (go_at_call 34; (with_reducible refine Calls.mono (kRH.out _) ?_); rintro e w1 ⟨rfl, hB⟩; (first | (obtain ⟨g, rfl⟩ := g.next hB) | (obtain ⟨g, rfl⟩ : ∃ g : Grow W, w1 = g.x := ⟨⟨w1, hB⟩, rfl⟩)); clear hB) | (go_at_call 45; (with_reducible refine Calls.mono (kR.out _) ?_); rintro e w1 ⟨rfl, hB⟩; (first | (obtain ⟨g, rfl⟩ := g.next hB) | (obtain ⟨g, rfl⟩ : ∃ g : Grow W, w1 = g.x := ⟨⟨w1, hB⟩, rfl⟩)); clear hB) | (go_at_call 46; (with_reducible refine Calls.mono (kW.out _) ?_); rintro e w1 ⟨rfl, hB⟩; (first | (obtain ⟨g, rfl⟩ := g.next hB) | (obtain ⟨g, rfl⟩ : ∃ g : Grow W, w1 = g.x := ⟨⟨w1, hB⟩, rfl⟩)); clear hB))
  have hgg : ∀ (h : Grow g.x) (b o : Nat), b < W.heap.size → h.x.cell? ⟨b, o, none⟩ = W.cell? ⟨b, o, none⟩ := fun h b o hb => (grow_cell g.x h b o (Nat.lt_of_lt_of_le hb g.size)).trans (grow_cell W g b o hb)
  refine wp_region_grow (by kernel_rfl) (by kernel_rfl) ?_
  repeat (go_big_quiet_step (fail))
  refine wpQuiet_nil ?_
  rintro _ ⟨gx, rfl⟩
  clear hgg
  obtain ⟨g2, hg2⟩ := g.next gx.h
  rw [hg2]
  clear hg2 gx
  obtain ⟨g, hgx⟩ : ∃ g : Grow W, g2.x = g.x := ⟨g2, rfl⟩
  rw [hgx]
  clear hgx g2
  by_cases hR1 : R < 100
  · skip
    have y1 : ((R : Nat) : Int) < 100 := by omega
    have kF1 := Lib.hid (kFa.out hR1)
    by_cases hM1 : M < 100
    · skip
      have y2 : ((M : Nat) : Int) < 100 := by omega
      have kF2 := Lib.hid (kFb.out hM1)
      go_wp2_with (fail)
      have hgg : ∀ (h : Grow g.x) (b o : Nat), b < W.heap.size → h.x.cell? ⟨b, o, none⟩ = W.cell? ⟨b, o, none⟩ := fun h b o hb => (grow_cell g.x h b o (Nat.lt_of_lt_of_le hb g.size)).trans (grow_cell W g b o hb)
      refine wp_region_grow (by kernel_rfl) (by kernel_rfl) ?_
      repeat (go_big_quiet_step ((first | (go_at_call 48; with_reducible exact Calls.grow (kLn.out _)) | (go_at_call 49; with_reducible exact Calls.grow (kF1.out _)) | (go_at_call 49; with_reducible exact Calls.grow (kF2.out _)))))
      refine wpQuiet_nil ?_
      rintro _ ⟨gx, rfl⟩
      clear hgg
      obtain ⟨g2, hg2⟩ := g.next gx.h
      rw [hg2]
      clear hg2 gx
      obtain ⟨g, hgx⟩ : ∃ g : Grow W, g2.x = g.x := ⟨g2, rfl⟩
      rw [hgx]
      clear hgx g2
      go_wp2_with (first | (go_at_call 20; (with_reducible refine Calls.mono (hK.out _) ?_); rintro e w1 ⟨rfl, hB⟩; (first | (obtain ⟨g, rfl⟩ := g.next hB) | (obtain ⟨g, rfl⟩ : ∃ g : Grow W, w1 = g.x := ⟨⟨w1, hB⟩, rfl⟩)); clear hB))
      go_ret
      exact ⟨rfl, B0.trans (g.h.mono B0.size)⟩
    · skip
      exfalso; omega
  · skip
    exfalso; omega
end Go.Proofs.Ytgmbolagciaenaa
namespace Go.Proofs.Ytgmbolagciaenaa
open Go.RowKit Go.Sd Gas
theorem lawRoomed (c : Cav) (s : St) (l : Pt) (u : Int) (p : Pt) (v m : Int) (w : World) :
    Calls Try.prog 14 #[cavV c, stV s, ptV l, .int .i64 u, ptV p, .int .i64 v, .int .i64 m] w fun e w' => e = .returned (.bool true) ∧ Below w.heap.size w w' := by
  cases hc : c.ok
  · exact lawRmd0 c s l u p v m w hc
  · skip
    cases hs : s.ok
    · exact lawRmd1 c s l u p v m w hc hs
    · skip
      cases hl : l.ok
      · exact lawRmd2 c s l u p v m w hc hs hl
      · skip
        by_cases hu1 : u < 1
        · exact lawRmd3 c s l u p v m w hc hs hl hu1
        · skip
          by_cases hu2 : 1000000 < u
          · exact lawRmd4 c s l u p v m w hc hs hl hu1 hu2
          · skip
            cases hp : hasB s p
            · exact lawRmd5 c s l u p v m w hc hs hl hu1 hu2 hp
            · skip
              by_cases hv1 : v < c.vlo
              · exact lawRmd6 c s l u p v m w hc hs hl hu1 hu2 hp hv1
              · skip
                by_cases hv2 : c.vhi < v
                · exact lawRmd7 c s l u p v m w hc hs hl hu1 hu2 hp hv1 hv2
                · skip
                  by_cases hm1 : m < 1
                  · exact lawRmd8 c s l u p v m w hc hs hl hu1 hu2 hp hv1 hv2 hm1
                  · skip
                    by_cases hm2 : 100 < m
                    · exact lawRmd9 c s l u p v m w hc hs hl hu1 hu2 hp hv1 hv2 hm1 hm2
                    · skip
                      by_cases ha : m ≤ (roomOf (fun n : Nat => fineOp c s (lotsOp l (n : Int))) : Nat)
                      · by_cases hb : m ≤ (roomOf (fun n : Nat => fineOp c s (unitOp u (n : Int))) : Nat)
                        · exact lawRmd10 c s l u p v m w hc hs hl hu1 hu2 hp hv1 hv2 hm1 hm2 ha hb
                        · exact lawRmd11 c s l u p v m w hc hs hl hu1 hu2 hp hv1 hv2 hm1 hm2 ha hb
                      · by_cases hb : m ≤ (roomOf (fun n : Nat => fineOp c s (unitOp u (n : Int))) : Nat)
                        · exact lawRmd12 c s l u p v m w hc hs hl hu1 hu2 hp hv1 hv2 hm1 hm2 ha hb
                        · exact lawRmd13 c s l u p v m w hc hs hl hu1 hu2 hp hv1 hv2 hm1 hm2 ha hb
end Go.Proofs.Ytgmbolagciaenaa
