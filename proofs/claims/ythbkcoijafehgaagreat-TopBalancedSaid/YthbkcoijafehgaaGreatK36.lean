/- Laws and walks: GPsn, LRws. -/
import Derived.BigRegion
import Derived.Deep.Cut
import Derived.Test.YthbkcoijafehgaaGreatK02
import Derived.Test.YthbkcoijafehgaaGreatK04
import Derived.Test.YthbkcoijafehgaaGreatK14
import Derived.Test.YthbkcoijafehgaaGreatK15
import Derived.Test.YthbkcoijafehgaaGreatK19
import Derived.Test.YthbkcoijafehgaaGreatK22
set_option linter.unusedVariables false
set_option linter.unusedSimpArgs false
namespace Go.Proofs.YthbkcoijafehgaaGreat.G
open Go.RowKit Go.Sd Gas
/-- What does yields. -/
structure DoesS (c : Cav) (s : St) (o : Gas.Op) (n : St) (q : Out) (b : Bool) : Prop where
  calls : ∀ w, Calls Tryz.prog 28 #[cavV c, stV s, opV o] w fun e w' => e = .returned (doV n q b) ∧ Below w.heap.size w w'
  is : act c s o = if b = true then some (n, q) else none
theorem doesAllS {c : Cav} {s : St} {o : Gas.Op} (hc : c.Ok) (hs : s.Ok) (ho : o.Fit) : ∃ n q b, DoesS c s o n q b := by
  cases h : act c s o with
  | none => exact ⟨_, _, _, fun w => progDoesNone w hc hs ho h, by rw [h]; rfl⟩
  | some r =>
    obtain ⟨n, q⟩ := r
    exact ⟨n, q, true, fun w => progDoesSome w hc hs ho h, by rw [h]; rfl⟩
set_option maxRecDepth 100000 in
set_option maxHeartbeats 16000000 in
theorem progStepsOwn {lv : Value} {c : Cav} {s : St} {xs : List Gas.Op} (w : World) (hl : OpsAt w lv xs) (hc : c.Ok) (hs : s.Ok) (ho : opsB xs = true) (hsh : xs.length ≤ 20) :
    Calls Tryz.prog 10 #[cavV c, stV s, lv] w fun e w' => (∃ v, e = .returned (.tuple #[v, .int .i64 (steps c s xs).2, .int .i64 0]) ∧ OwnSts w.heap.size w' v (steps c s xs).1) ∧ Below w.heap.size w w' := by
  have hl' := hl
  obtain ⟨a, cap, rfl, hm, hcl⟩ := hl'
  unfold maxLen at hm
  have hm' : xs.length ≤ 9223372036854775807 := by omega
  clear hm
  have hcW := Lib.hid hcl
  clear hcl
  obtain ⟨W1, hW1⟩ : ∃ W1, w.alloc (.cells #[.int .i64 c.vlo, .int .i64 c.vhi, .int .i64 c.least, .int .i64 c.most, .int .i64 c.f0, .int .i64 c.f1, .int .i64 c.h0, .int .i64 c.h1, .int .i64 c.rock, .int .i64 c.plo, .int .i64 c.phi] 26) = W1 := ⟨_, rfl⟩
  obtain ⟨e_c, b_c, s_c⟩ := boxed hW1
  obtain ⟨W2, hW2⟩ : ∃ W2, W1.alloc (.cells #[.int .i64 s.glo, .int .i64 s.ghi, .int .i64 s.ylo, .int .i64 s.yhi, .int .i64 s.tlo, .int .i64 s.thi, .int .i64 s.wlo, .int .i64 s.whi] 28) = W2 := ⟨_, rfl⟩
  obtain ⟨e_s, b_s, s_s⟩ := boxed hW2
  replace e_c := (b_s.block _ (Array.getElem?_eq_some_iff.1 e_c).1).trans e_c
  obtain ⟨m2_c_0, m2_c_1, m2_c_2, m2_c_3, m2_c_4, m2_c_5, m2_c_6, m2_c_7, m2_c_8, m2_c_9, m2_c_10⟩ := rc11 e_c
  have mz2_c : w.heap.size < W2.heap.size := (Array.getElem?_eq_some_iff.1 e_c).1
  obtain ⟨W, hW⟩ : ∃ W, W2.alloc (.cells #[.int .i64 c.vlo, .int .i64 c.vhi, .int .i64 c.least, .int .i64 c.most, .int .i64 c.f0, .int .i64 c.f1, .int .i64 c.h0, .int .i64 c.h1, .int .i64 c.rock, .int .i64 c.plo, .int .i64 c.phi] 88) = W := ⟨_, rfl⟩
  obtain ⟨e_x, b_x, s_x⟩ := boxed hW
  replace e_c := (b_x.block _ (Array.getElem?_eq_some_iff.1 e_c).1).trans e_c
  replace e_s := (b_x.block _ (Array.getElem?_eq_some_iff.1 e_s).1).trans e_s
  have B0 : Below w.heap.size w W := ((b_c.trans (b_s.mono (by omega))).trans (b_x.mono (by omega)))
  have z0_c := (Array.getElem?_eq_some_iff.1 e_c).1
  have z0_s := (Array.getElem?_eq_some_iff.1 e_s).1
  have z0_x := (Array.getElem?_eq_some_iff.1 e_x).1
  have ne_c_s : (w.heap.size : Nat) ≠ W1.heap.size := by omega
  have ne_c_x : (w.heap.size : Nat) ≠ W2.heap.size := by omega
  have le_c : w.heap.size ≤ w.heap.size := by omega
  have ne_s_c : (W1.heap.size : Nat) ≠ w.heap.size := by omega
  have ne_s_x : (W1.heap.size : Nat) ≠ W2.heap.size := by omega
  have le_s : w.heap.size ≤ W1.heap.size := by omega
  have ne_x_c : (W2.heap.size : Nat) ≠ w.heap.size := by omega
  have ne_x_s : (W2.heap.size : Nat) ≠ W1.heap.size := by omega
  have le_x : w.heap.size ≤ W2.heap.size := by omega
  clear s_c b_c s_s b_s s_x b_x
  obtain ⟨q0_c_0, q0_c_1, q0_c_2, q0_c_3, q0_c_4, q0_c_5, q0_c_6, q0_c_7, q0_c_8, q0_c_9, q0_c_10⟩ := rc11 e_c
  replace e_c := Lib.hid e_c
  obtain ⟨q0_s_0, q0_s_1, q0_s_2, q0_s_3, q0_s_4, q0_s_5, q0_s_6, q0_s_7⟩ := rc8 e_s
  obtain ⟨f0_s_0, f0_s_1, f0_s_2, f0_s_3, f0_s_4, f0_s_5, f0_s_6, f0_s_7⟩ := rf8 e_s
  replace e_s := Lib.hid e_s
  obtain ⟨q0_x_0, q0_x_1, q0_x_2, q0_x_3, q0_x_4, q0_x_5, q0_x_6, q0_x_7, q0_x_8, q0_x_9, q0_x_10⟩ := rc11 e_x
  replace e_x := Lib.hid e_x
  have hgw0 := grow_cell W
  have hBW := B0
  obtain ⟨R, hR⟩ : ∃ R, steps c s xs = R := ⟨_, rfl⟩
  rw [hR]
  replace hc := Lib.hid hc; replace ho := Lib.hid ho
  have kO : Hid (Calls Tryz.prog 25 #[.slice a xs.length cap] W fun e w' => e = .returned (.int .i64 0) ∧ Below W.heap.size W w') := Lib.hid (by have := progOps _ xs W (hl.mono B0); have he : opsErr xs = 0 := (by unfold opsErr; rw [if_neg (by omega), ho.out]; rfl); rw [he] at this; exact this)
  have kV := Lib.hid (fun w => (progValid c w).mono fun e w' hb => BoolB.lit hb (Cav.ok_iff.2 hc.out))
  have kS := Lib.hid (fun w => (progState s w).mono fun e w' hb => BoolB.lit hb (St.ok_iff.2 hs))
  have hstart : Hid (stepsFrom c (xs.drop 0) s [] 0 = R ∧ s.Ok ∧ ([] : List St).length = 0) := Lib.hid ⟨hR, hs, rfl⟩
  clear hs hR hl
  go_enter Tryz.func10, Tryz.ntmps10
  go_wp2_with (first | (go_at_call 25; (with_reducible refine Calls.mono (kO.out) ?_); rintro e w1 ⟨rfl, hB⟩; (first | (obtain ⟨g, rfl⟩ := g.next hB) | (obtain ⟨g, rfl⟩ : ∃ g : Grow W, w1 = g.x := ⟨⟨w1, hB⟩, rfl⟩)); clear hB) | (go_at_call 26; (with_reducible refine Calls.mono (kV.out _) ?_); rintro e w1 ⟨rfl, hB⟩; (first | (obtain ⟨g, rfl⟩ := g.next hB) | (obtain ⟨g, rfl⟩ : ∃ g : Grow W, w1 = g.x := ⟨⟨w1, hB⟩, rfl⟩)); clear hB) | (go_at_call 27; (with_reducible refine Calls.mono (kS.out _) ?_); rintro e w1 ⟨rfl, hB⟩; (first | (obtain ⟨g, rfl⟩ := g.next hB) | (obtain ⟨g, rfl⟩ : ∃ g : Grow W, w1 = g.x := ⟨⟨w1, hB⟩, rfl⟩)); clear hB))
  have g0 := g.h.size
  clear m2_c_0 m2_c_1 m2_c_2 m2_c_3 m2_c_4 m2_c_5 m2_c_6 m2_c_7 m2_c_8 m2_c_9 m2_c_10 mz2_c q0_c_0 q0_c_1 q0_c_2 q0_c_3 q0_c_4 q0_c_5 q0_c_6 q0_c_7 q0_c_8 q0_c_9 q0_c_10 q0_s_0 f0_s_0 q0_s_1 f0_s_1 q0_s_2 f0_s_2 q0_s_3 f0_s_3 q0_s_4 f0_s_4 q0_s_5 f0_s_5 q0_s_6 f0_s_6 q0_s_7 f0_s_7 q0_x_0 q0_x_1 q0_x_2 q0_x_3 q0_x_4 q0_x_5 q0_x_6 q0_x_7 q0_x_8 q0_x_9 q0_x_10
  clear hgw0
  obtain ⟨N1, hN1⟩ : ∃ V, g.x = V := ⟨_, rfl⟩
  have A_c : N1.heap[w.heap.size]? = some (.cells #[.int .i64 c.vlo, .int .i64 c.vhi, .int .i64 c.least, .int .i64 c.most, .int .i64 c.f0, .int .i64 c.f1, .int .i64 c.h0, .int .i64 c.h1, .int .i64 c.rock, .int .i64 c.plo, .int .i64 c.phi] 26 (0, 0)) := by rw [← hN1]; exact (g.h.block _ z0_c).trans e_c.out
  have A_s : N1.heap[W1.heap.size]? = some (.cells #[.int .i64 s.glo, .int .i64 s.ghi, .int .i64 s.ylo, .int .i64 s.yhi, .int .i64 s.tlo, .int .i64 s.thi, .int .i64 s.wlo, .int .i64 s.whi] 28 (0, 0)) := by rw [← hN1]; exact (g.h.block _ z0_s).trans e_s.out
  have A_x : N1.heap[W2.heap.size]? = some (.cells #[.int .i64 c.vlo, .int .i64 c.vhi, .int .i64 c.least, .int .i64 c.most, .int .i64 c.f0, .int .i64 c.f1, .int .i64 c.h0, .int .i64 c.h1, .int .i64 c.rock, .int .i64 c.plo, .int .i64 c.phi] 88 (0, 0)) := by rw [← hN1]; exact (g.h.block _ z0_x).trans e_x.out
  have B1 : Below w.heap.size w N1 := by rw [← hN1]; exact B0.trans (g.h.mono B0.size)
  rw [hN1] at g0
  rw [hN1]
  clear hN1
  have z1_c := (Array.getElem?_eq_some_iff.1 A_c).1
  have z1_s := (Array.getElem?_eq_some_iff.1 A_s).1
  have z1_x := (Array.getElem?_eq_some_iff.1 A_x).1
  have R1_c := Lib.hid A_c
  clear A_c
  have R1_s := Lib.hid A_s
  clear A_s
  have R1_x := Lib.hid A_x
  clear A_x
  have hgw1 := grow_cell N1
  go_loopw [11, 38] (fun ov iv wr => ∃ (k : Nat) (z : St) (acc : List St), k ≤ xs.length ∧ iv = .int .i64 k ∧ Hid (stepsFrom c (xs.drop k) z acc k = R ∧ z.Ok ∧ acc.length = k) ∧ Hid (OwnSts W.heap.size wr ov acc) ∧ Hid (W.heap.size ≤ wr.heap.size) ∧ Hid (wr.heap[W2.heap.size]? = some (.cells #[.int .i64 c.vlo, .int .i64 c.vhi, .int .i64 c.least, .int .i64 c.most, .int .i64 c.f0, .int .i64 c.f1, .int .i64 c.h0, .int .i64 c.h1, .int .i64 c.rock, .int .i64 c.plo, .int .i64 c.phi] 88 (0, 0)) ∧ wr.heap[W1.heap.size]? = some (.cells #[.int .i64 z.glo, .int .i64 z.ghi, .int .i64 z.ylo, .int .i64 z.yhi, .int .i64 z.tlo, .int .i64 z.thi, .int .i64 z.wlo, .int .i64 z.whi] 28 (0, 0)) ∧ Below w.heap.size w wr)) (fun _ iv _ => xs.length - (intOf iv).toNat)
  case atStart => exact ⟨0, s, [], by omega, rfl, hstart, Lib.hid (OwnSt.nil _ _ _ _ _), Lib.hid (g0), (Lib.hid ⟨R1_x.out, R1_s.out, B1⟩)⟩
  case round =>
    clear hstart
    clear hgw1
    obtain ⟨k, z, acc, hk, rfl, hI, hO, hWr, hrows⟩ := hrel
    have hgw1 := grow_cell N1
    obtain ⟨A_x, A_s, B2⟩ := hrows.out
    have z2_x := (Array.getElem?_eq_some_iff.1 A_x).1
    have z2_s := (Array.getElem?_eq_some_iff.1 A_s).1
    obtain ⟨q2_x_0, q2_x_1, q2_x_2, q2_x_3, q2_x_4, q2_x_5, q2_x_6, q2_x_7, q2_x_8, q2_x_9, q2_x_10⟩ := rc11 A_x
    have R2_x := Lib.hid A_x
    clear A_x
    obtain ⟨q2_s_0, q2_s_1, q2_s_2, q2_s_3, q2_s_4, q2_s_5, q2_s_6, q2_s_7⟩ := rc8 A_s
    obtain ⟨f2_s_0, f2_s_1, f2_s_2, f2_s_3, f2_s_4, f2_s_5, f2_s_6, f2_s_7⟩ := rf8 A_s
    have R2_s := Lib.hid A_s
    clear A_s
    have hgw2 := grow_cell wr
    by_cases hlt : k < xs.length
    · skip
      have hki : (k : Int) < (xs.length : Int) := by omega
      obtain ⟨b, off, rfl, hbl, hce⟩ := hcW.out (by omega)
      obtain ⟨c0, c1, c2, c3, c4, c5, c6, c7, c8, c9⟩ := (hce k hlt).mono B2
      clear hce
      have zb := World.block_lt_of_cell? _ ⟨b, _, none⟩ c0
      simp only at zb
      have hok : (theOp xs k).ok = true := opsB_iff.1 ho.out k hlt
      obtain ⟨hI1, hzok, hacc⟩ := hI.out
      have hoi := Op.ok_is hok
      obtain ⟨n, q, bb, hdo⟩ := doesAllS hc.out hzok hoi.fit
      have kD := Lib.hid hdo.calls
      have his := hdo.is
      clear hdo
      have hst : Hid (bb = false → R = (acc, (k : Int))) := Lib.hid (fun hb => by
        rw [← hI1]; refine steps_stop hlt ?_
        rw [his, hb]; rfl)
      have hsn : Hid (bb = true → stepsFrom c (xs.drop (k + 1)) n (acc ++ [n]) (k + 1) = R ∧ n.Ok ∧ (acc ++ [n]).length = k + 1) := Lib.hid (fun hb => by
        rw [hb] at his
        refine ⟨?_, act_ok hc.out hzok hoi his, by rw [List.length_append, hacc]; rfl⟩
        rw [← hI1]; exact (steps_next hlt his).symm)
      clear his hok hoi hzok hI1 hI
      generalize theOp xs k = ox at *
      obtain ⟨oa, oc, rfl⟩ := hO.out.slice
      have hlt' := Lib.hid hO.out.lt
      have hlen : acc.length ≤ 1000000 := by omega
      have hacc' := Lib.hid hacc
      clear hacc
      have hne_x : (Value.slice oa acc.length oc).ownBlock ≠ some (W2.heap.size) := fun e => by have := (hlt'.out _ e).1; omega
      have hne_s : (Value.slice oa acc.length oc).ownBlock ≠ some (W1.heap.size) := fun e => by have := (hlt'.out _ e).1; omega
      clear q2_x_0 q2_x_1 q2_x_2 q2_x_3 q2_x_4 q2_x_5 q2_x_6 q2_x_7 q2_x_8 q2_x_9 q2_x_10 q2_s_0 f2_s_0 q2_s_1 f2_s_1 q2_s_2 f2_s_2 q2_s_3 f2_s_3 q2_s_4 f2_s_4 q2_s_5 f2_s_5 q2_s_6 f2_s_6 q2_s_7 f2_s_7
      clear hgw2
      obtain ⟨U3_o, hU3⟩ : ∃ Uw, wr.alloc (.cells #[.int .i64 ox.kind, .int .i64 ox.lg, .int .i64 ox.ly, .int .i64 ox.lt, .int .i64 ox.lw, .int .i64 ox.moles, .int .i64 ox.slo, .int .i64 ox.shi, .int .i64 ox.wlo, .int .i64 ox.whi] 52) = Uw := ⟨_, rfl⟩
      obtain ⟨A_o, b_o, s_o⟩ := boxed hU3
      have A_x := (b_o.block _ z2_x).trans R2_x.out
      have A_s := (b_o.block _ z2_s).trans R2_s.out
      replace hO := Lib.hid (hO.out.mono b_o)
      have B3 : Below w.heap.size w U3_o := B2.trans (b_o.mono B2.size)
      clear s_o b_o
      have z3_x := (Array.getElem?_eq_some_iff.1 A_x).1
      have z3_s := (Array.getElem?_eq_some_iff.1 A_s).1
      have z3_o := (Array.getElem?_eq_some_iff.1 A_o).1
      obtain ⟨q3_x_0, q3_x_1, q3_x_2, q3_x_3, q3_x_4, q3_x_5, q3_x_6, q3_x_7, q3_x_8, q3_x_9, q3_x_10⟩ := rc11 A_x
      have R3_x := Lib.hid A_x
      clear A_x
      obtain ⟨q3_s_0, q3_s_1, q3_s_2, q3_s_3, q3_s_4, q3_s_5, q3_s_6, q3_s_7⟩ := rc8 A_s
      obtain ⟨f3_s_0, f3_s_1, f3_s_2, f3_s_3, f3_s_4, f3_s_5, f3_s_6, f3_s_7⟩ := rf8 A_s
      have R3_s := Lib.hid A_s
      clear A_s
      obtain ⟨q3_o_0, q3_o_1, q3_o_2, q3_o_3, q3_o_4, q3_o_5, q3_o_6, q3_o_7, q3_o_8, q3_o_9⟩ := rc10 A_o
      have R3_o := Lib.hid A_o
      clear A_o
      have hgw3 := grow_cell U3_o
      go_upto_if 52 with (first | (go_at_call 28; (with_reducible refine Calls.mono (kD.out _) ?_); rintro e w1 ⟨rfl, hB⟩; (first | (obtain ⟨g, rfl⟩ := g.next hB) | (obtain ⟨g, rfl⟩ : ∃ g : Grow U3_o, w1 = g.x := ⟨⟨w1, hB⟩, rfl⟩)); clear hB; have hld : ∀ (b o : Nat), b < U3_o.heap.size → ((g.x.alloc (.cells #[.int .i64 n.glo, .int .i64 n.ghi, .int .i64 n.ylo, .int .i64 n.yhi, .int .i64 n.tlo, .int .i64 n.thi, .int .i64 n.wlo, .int .i64 n.whi] 28)).alloc (.cells #[.int .i64 q.glo, .int .i64 q.ghi, .int .i64 q.ylo, .int .i64 q.yhi, .int .i64 q.wlo, .int .i64 q.whi] 77)).cell? ⟨b, o, none⟩ = U3_o.cell? ⟨b, o, none⟩ := below_cell ((g.h.alloc g.size (.cells #[.int .i64 n.glo, .int .i64 n.ghi, .int .i64 n.ylo, .int .i64 n.yhi, .int .i64 n.tlo, .int .i64 n.thi, .int .i64 n.wlo, .int .i64 n.whi] 28)).alloc (g.h.alloc g.size (.cells #[.int .i64 n.glo, .int .i64 n.ghi, .int .i64 n.ylo, .int .i64 n.yhi, .int .i64 n.tlo, .int .i64 n.thi, .int .i64 n.wlo, .int .i64 n.whi] 28)).size (.cells #[.int .i64 q.glo, .int .i64 q.ghi, .int .i64 q.ylo, .int .i64 q.yhi, .int .i64 q.wlo, .int .i64 q.whi] 77))))
      clear hU3
      clear hld
      clear q3_x_0 q3_x_1 q3_x_2 q3_x_3 q3_x_4 q3_x_5 q3_x_6 q3_x_7 q3_x_8 q3_x_9 q3_x_10 q3_s_0 f3_s_0 q3_s_1 f3_s_1 q3_s_2 f3_s_2 q3_s_3 f3_s_3 q3_s_4 f3_s_4 q3_s_5 f3_s_5 q3_s_6 f3_s_6 q3_s_7 f3_s_7 q3_o_0 q3_o_1 q3_o_2 q3_o_3 q3_o_4 q3_o_5 q3_o_6 q3_o_7 q3_o_8 q3_o_9
      clear hgw3
      have szo4 := B3.size
      have gz4 := g.size
      have A_x : g.x.heap[W2.heap.size]? = some (.cells #[.int .i64 c.vlo, .int .i64 c.vhi, .int .i64 c.least, .int .i64 c.most, .int .i64 c.f0, .int .i64 c.f1, .int .i64 c.h0, .int .i64 c.h1, .int .i64 c.rock, .int .i64 c.plo, .int .i64 c.phi] 88 (0, 0)) := (g.h.block _ z3_x).trans R3_x.out
      have A_s : g.x.heap[W1.heap.size]? = some (.cells #[.int .i64 z.glo, .int .i64 z.ghi, .int .i64 z.ylo, .int .i64 z.yhi, .int .i64 z.tlo, .int .i64 z.thi, .int .i64 z.wlo, .int .i64 z.whi] 28 (0, 0)) := (g.h.block _ z3_s).trans R3_s.out
      have A_o : g.x.heap[wr.heap.size]? = some (.cells #[.int .i64 ox.kind, .int .i64 ox.lg, .int .i64 ox.ly, .int .i64 ox.lt, .int .i64 ox.lw, .int .i64 ox.moles, .int .i64 ox.slo, .int .i64 ox.shi, .int .i64 ox.wlo, .int .i64 ox.whi] 52 (0, 0)) := (g.h.block _ z3_o).trans R3_o.out
      obtain ⟨U4_y, hU4_y⟩ : ∃ Uw, g.x.alloc (.cells #[.int .i64 n.glo, .int .i64 n.ghi, .int .i64 n.ylo, .int .i64 n.yhi, .int .i64 n.tlo, .int .i64 n.thi, .int .i64 n.wlo, .int .i64 n.whi] 28) = Uw := ⟨_, rfl⟩
      obtain ⟨A_y, b_y, s_y⟩ := boxed hU4_y
      rw [hU4_y]
      replace A_x := (b_y.block _ (Array.getElem?_eq_some_iff.1 A_x).1).trans A_x
      replace A_s := (b_y.block _ (Array.getElem?_eq_some_iff.1 A_s).1).trans A_s
      replace A_o := (b_y.block _ (Array.getElem?_eq_some_iff.1 A_o).1).trans A_o
      obtain ⟨blk_y, hb_y⟩ : ∃ b, g.x.heap.size = b := ⟨_, rfl⟩
      rw [hb_y] at A_y
      try rw [hb_y]
      obtain ⟨U4_yq, hU4_yq⟩ : ∃ Uw, U4_y.alloc (.cells #[.int .i64 q.glo, .int .i64 q.ghi, .int .i64 q.ylo, .int .i64 q.yhi, .int .i64 q.wlo, .int .i64 q.whi] 77) = Uw := ⟨_, rfl⟩
      obtain ⟨A_yq, b_yq, s_yq⟩ := boxed hU4_yq
      rw [hU4_yq]
      replace A_x := (b_yq.block _ (Array.getElem?_eq_some_iff.1 A_x).1).trans A_x
      replace A_s := (b_yq.block _ (Array.getElem?_eq_some_iff.1 A_s).1).trans A_s
      replace A_o := (b_yq.block _ (Array.getElem?_eq_some_iff.1 A_o).1).trans A_o
      replace A_y := (b_yq.block _ (Array.getElem?_eq_some_iff.1 A_y).1).trans A_y
      obtain ⟨blk_yq, hb_yq⟩ : ∃ b, U4_y.heap.size = b := ⟨_, rfl⟩
      rw [hb_yq] at A_yq
      have hp_yq : blk_y + 1 = blk_yq := by omega
      try rw [hp_yq]
      have BK : Below U3_o.heap.size U3_o U4_yq := ((g.h.trans (b_y.mono g.h.size)).trans (b_yq.mono (g.h.trans (b_y.mono g.h.size)).size))
      have B4 : Below w.heap.size w U4_yq := (((B3.trans (g.h.mono B3.size)).trans (b_y.mono (B3.trans (g.h.mono B3.size)).size)).trans (b_yq.mono ((B3.trans (g.h.mono B3.size)).trans (b_y.mono (B3.trans (g.h.mono B3.size)).size)).size))
      have le_y : w.heap.size ≤ blk_y := by omega
      have le_yq : w.heap.size ≤ blk_yq := by omega
      have z4_x := (Array.getElem?_eq_some_iff.1 A_x).1
      have z4_s := (Array.getElem?_eq_some_iff.1 A_s).1
      have z4_o := (Array.getElem?_eq_some_iff.1 A_o).1
      have z4_y := (Array.getElem?_eq_some_iff.1 A_y).1
      have z4_yq := (Array.getElem?_eq_some_iff.1 A_yq).1
      clear hb_y b_y s_y hU4_y hb_yq b_yq s_yq hU4_yq hp_yq
      obtain ⟨q4_x_0, q4_x_1, q4_x_2, q4_x_3, q4_x_4, q4_x_5, q4_x_6, q4_x_7, q4_x_8, q4_x_9, q4_x_10⟩ := rc11 A_x
      have R4_x := Lib.hid A_x
      clear A_x
      obtain ⟨q4_s_0, q4_s_1, q4_s_2, q4_s_3, q4_s_4, q4_s_5, q4_s_6, q4_s_7⟩ := rc8 A_s
      obtain ⟨f4_s_0, f4_s_1, f4_s_2, f4_s_3, f4_s_4, f4_s_5, f4_s_6, f4_s_7⟩ := rf8 A_s
      have R4_s := Lib.hid A_s
      clear A_s
      have R4_o := Lib.hid A_o
      clear A_o
      obtain ⟨q4_y_0, q4_y_1, q4_y_2, q4_y_3, q4_y_4, q4_y_5, q4_y_6, q4_y_7⟩ := rc8 A_y
      have R4_y := Lib.hid A_y
      clear A_y
      have R4_yq := Lib.hid A_yq
      clear A_yq
      have hgw4 := grow_cell U4_yq
      clear c0 c1 c2 c3 c4 c5 c6 c7 c8 c9 zb kD
      replace hO := Lib.hid (hO.out.mono BK)
      replace hWr := Lib.hid (show W.heap.size ≤ U3_o.heap.size by have := hWr.out; have := z3_o; omega)
      clear hlt'
      have hlt' := Lib.hid hO.out.lt
      cases bb
      · skip
        obtain rfl := hst.out rfl
        go_wp2_with (fail)
        refine bodyPost_ret (v := .tuple #[.slice oa acc.length oc, .int .i64 k, .int .i64 0]) (by simp [results, Tryz.results10, go_sem, *]) rfl ⟨⟨_, rfl, hO.out.from hBW.size⟩, B4⟩
      · skip
        replace hsn := Lib.hid (hsn.out rfl)
        clear hst
        have hsB : W1.heap.size < W.heap.size := z0_s
        have hWM : W.heap.size ≤ U4_yq.heap.size := Nat.le_trans hWr.out BK.size
        go_wp2_with (at_builtin; generalize hV : World.setCell _ ⟨W1.heap.size, 7, none⟩ _ = V5; have hsz : V5.heap.size = U4_yq.heap.size := (by rw [← hV]; simp [World.setCell]); have hoV : OwnSts W.heap.size V5 (.slice oa acc.length oc) acc := (by rw [← hV]; exact (OwnSt.cellset (OwnSt.cellset (OwnSt.cellset (OwnSt.cellset (OwnSt.cellset (OwnSt.cellset (OwnSt.cellset (OwnSt.cellset hO.out (p := ⟨W1.heap.size, 0, none⟩) hsB (.int .i64 n.glo)) (p := ⟨W1.heap.size, 1, none⟩) hsB (.int .i64 n.ghi)) (p := ⟨W1.heap.size, 2, none⟩) hsB (.int .i64 n.ylo)) (p := ⟨W1.heap.size, 3, none⟩) hsB (.int .i64 n.yhi)) (p := ⟨W1.heap.size, 4, none⟩) hsB (.int .i64 n.tlo)) (p := ⟨W1.heap.size, 5, none⟩) hsB (.int .i64 n.thi)) (p := ⟨W1.heap.size, 6, none⟩) hsB (.int .i64 n.wlo)) (p := ⟨W1.heap.size, 7, none⟩) hsB (.int .i64 n.whi))); have A_x : V5.heap[W2.heap.size]? = some (.cells #[.int .i64 c.vlo, .int .i64 c.vhi, .int .i64 c.least, .int .i64 c.most, .int .i64 c.f0, .int .i64 c.f1, .int .i64 c.h0, .int .i64 c.h1, .int .i64 c.rock, .int .i64 c.plo, .int .i64 c.phi] 88 (0, 0)) := (by rw [← hV]; have h2 := (set_far (n := W1.heap.size) 7 (.int .i64 n.whi) ne_x_s (set_far (n := W1.heap.size) 6 (.int .i64 n.wlo) ne_x_s (set_far (n := W1.heap.size) 5 (.int .i64 n.thi) ne_x_s (set_far (n := W1.heap.size) 4 (.int .i64 n.tlo) ne_x_s (set_far (n := W1.heap.size) 3 (.int .i64 n.yhi) ne_x_s (set_far (n := W1.heap.size) 2 (.int .i64 n.ylo) ne_x_s (set_far (n := W1.heap.size) 1 (.int .i64 n.ghi) ne_x_s (set_far (n := W1.heap.size) 0 (.int .i64 n.glo) ne_x_s R4_x.out)))))))); exact h2); have A_s : V5.heap[W1.heap.size]? = some (.cells #[.int .i64 n.glo, .int .i64 n.ghi, .int .i64 n.ylo, .int .i64 n.yhi, .int .i64 n.tlo, .int .i64 n.thi, .int .i64 n.wlo, .int .i64 n.whi] 28 (0, 0)) := (by rw [← hV]; have h2 := (set_one (set_one (set_one (set_one (set_one (set_one (set_one (set_one R4_s.out 0 (.int .i64 n.glo)) 1 (.int .i64 n.ghi)) 2 (.int .i64 n.ylo)) 3 (.int .i64 n.yhi)) 4 (.int .i64 n.tlo)) 5 (.int .i64 n.thi)) 6 (.int .i64 n.wlo)) 7 (.int .i64 n.whi)); simp only [List.setIfInBounds_toArray, List.set_cons_zero, List.set_cons_succ] at h2; exact h2); have BE : Below w.heap.size w V5 := (by rw [← hV]; exact (Below.setCell (p := ⟨W1.heap.size, 7, none⟩) (Below.setCell (p := ⟨W1.heap.size, 6, none⟩) (Below.setCell (p := ⟨W1.heap.size, 5, none⟩) (Below.setCell (p := ⟨W1.heap.size, 4, none⟩) (Below.setCell (p := ⟨W1.heap.size, 3, none⟩) (Below.setCell (p := ⟨W1.heap.size, 2, none⟩) (Below.setCell (p := ⟨W1.heap.size, 1, none⟩) (Below.setCell (p := ⟨W1.heap.size, 0, none⟩) B4 le_s (.int .i64 n.glo)) le_s (.int .i64 n.ghi)) le_s (.int .i64 n.ylo)) le_s (.int .i64 n.yhi)) le_s (.int .i64 n.tlo)) le_s (.int .i64 n.thi)) le_s (.int .i64 n.wlo)) le_s (.int .i64 n.whi))); clear hV; rw [← hsz]; replace A_x := Lib.hid A_x; replace A_s := Lib.hid A_s; refine wpList_app_st (enc := stEnc) stEnc_len 39 28 _ 64 Tryz.underlying39 infoSt rfl (by omega) (by omega) stEnc_one (by rfl) _ _ (by rfl) W.heap.size V5 (.slice oa acc.length oc) acc n (by rfl) hoV (by rfl) hlen (by omega) ?_; intro v1 w1 ho1 hg1 hat1; obtain ⟨a1, c1', he1⟩ := ho1.slice; subst he1)
        replace A_x := (hg1.block _ (Array.getElem?_eq_some_iff.1 A_x.out).1 (Ne.symm hne_x)).trans A_x.out
        replace A_s := (hg1.block _ (Array.getElem?_eq_some_iff.1 A_s.out).1 (Ne.symm hne_s)).trans A_s.out
        replace BE := BE.grown hg1 BE.size (fun k e => Nat.le_trans hBW.size (hlt'.out k e).1)
        rw [List.length_append, List.length_singleton] at ho1
        exact ⟨⟨k + 1, n, acc ++ [n], by omega, by go_num, hsn, Lib.hid ho1, Lib.hid (by have := hg1.size; omega), Lib.hid ⟨A_x, A_s, BE⟩⟩, by simp [intOf]; omega⟩
    · obtain rfl : k = xs.length := by omega
      obtain ⟨hI1, -, -⟩ := hI.out
      rw [steps_end] at hI1
      subst hI1
      obtain ⟨oa, oc, rfl⟩ := hO.out.slice
      go_wp2_with (fail)
      refine bodyPost_ret (v := .tuple #[.slice oa acc.length oc, .int .i64 (-1), .int .i64 0]) (by simp [results, Tryz.results10, go_sem, *]) rfl ⟨⟨_, rfl, hO.out.from hBW.size⟩, B2⟩
end Go.Proofs.YthbkcoijafehgaaGreat.G
set_option linter.unusedVariables false
set_option linter.unusedSimpArgs false
namespace Go.Proofs.YthbkcoijafehgaaGreat.L
open Go.RowKit Go.Sd Lk
/-- A slice, as a value of one cell. -/
structure Slc where
  a : Option Addr
  n : Nat
  c : Nat
abbrev slV (s : Slc) : Value := .slice s.a s.n s.c
abbrev slEnc (s : Slc) : List Value := [slV s]
theorem slEnc_len (x : Slc) : (slEnc x).length = 1 := rfl
theorem slEnc_one (x : Slc) : ∀ u ∈ slEnc x, u.oneCell' = true := by simp [slEnc, Value.oneCell']
def slAt (l : List Slc) (k : Nat) : Slc := l.getD k ⟨none, 0, 0⟩
theorem slAt_app {l : List Slc} {x : Slc} {k : Nat} (h : k ≤ l.length) : slAt (l ++ [x]) k = if k = l.length then x else slAt l k := by
  unfold slAt
  by_cases hk : k = l.length
  · subst hk; simp
  · rw [if_neg hk, List.getD_eq_getElem?_getD, List.getElem?_append_left (by omega), ← List.getD_eq_getElem?_getD]
section
variable {α : Type} {enc : α → List Value} {m : Nat} {R E : TypeId} {B : Nat} {w w' : World} {v v' : Value} {rows : List (List α)}
/-- A list of lists of one's own, from block B on; no row lies in some blocks. -/
structure OwnRs {α : Type} (R E : TypeId) (m : Nat) (enc : α → List Value) (B : Nat) (bad : Nat → Prop) (w : World) (v : Value) (rows : List (List α)) : Prop where
  ex : ∃ ss : List Slc, OwnSt R 1 slEnc B w v ss ∧ ss.length = rows.length ∧ ∀ i, i < rows.length → OwnSt E m enc B w (slV (slAt ss i)) (rows.getD i []) ∧ (∀ k, (slV (slAt ss i)).ownBlock = some k → v.ownBlock ≠ some k ∧ ¬ bad k)
  far : ∀ k, v.ownBlock = some k → ¬ bad k
theorem OwnRs.nil {bad : Nat → Prop} : OwnRs (α := α) R E m enc B bad w (.slice none 0 0) [] := ⟨⟨[], OwnSt.nil _ _ _ _ _, rfl, fun i h => by simp at h⟩, fun k h => by cases h⟩
theorem OwnRs.mono {bad : Nat → Prop} (h : OwnRs R E m enc B bad w v rows) (hb : Below w.heap.size w w') : OwnRs R E m enc B bad w' v rows := by
  obtain ⟨⟨ss, h1, h2, h3⟩, h4⟩ := h
  exact ⟨⟨ss, h1.mono hb, h2, fun i hi => ⟨(h3 i hi).1.mono hb, (h3 i hi).2⟩⟩, h4⟩
/-- Blocks that do not belong to the list may change. -/
theorem OwnRs.kept {bad S : Nat → Prop} (h : OwnRs R E m enc B bad w v rows) (hk : Kept S w w') (hs : ∀ k, B ≤ k → ¬ bad k → S k) : OwnRs R E m enc B bad w' v rows := by
  obtain ⟨⟨ss, h1, h2, h3⟩, h4⟩ := h
  refine ⟨⟨ss, h1.same fun k e => hk.block k (h1.lt k e).2 (hs k (h1.lt k e).1 (h4 k e)), h2, fun i hi => ⟨?_, (h3 i hi).2⟩⟩, h4⟩
  exact (h3 i hi).1.same fun k e => hk.block k ((h3 i hi).1.lt k e).2 (hs k ((h3 i hi).1.lt k e).1 ((h3 i hi).2 k e).2)
/-- A row more: behind 'append(out, row)'. -/
theorem OwnRs.app {bad : Nat → Prop} {ss : List Slc} {s : Slc} {row : List α} (h1 : OwnSt R 1 slEnc B w v ss) (h2 : ss.length = rows.length)
    (h3 : ∀ i, i < rows.length → OwnSt E m enc B w (slV (slAt ss i)) (rows.getD i []) ∧ (∀ k, (slV (slAt ss i)).ownBlock = some k → v.ownBlock ≠ some k ∧ ¬ bad k)) (h4 : ∀ k, v.ownBlock = some k → ¬ bad k)
    (hr : OwnSt E m enc B w (slV s) row) (hrf : ∀ k, (slV s).ownBlock = some k → v.ownBlock ≠ some k ∧ ¬ bad k)
    (ho : OwnSt R 1 slEnc B w' v' (ss ++ [s])) (hg : w.grownBy w' v.ownBlock) (hat : v'.ownBlock = v.ownBlock ∨ ∃ k, v'.ownBlock = some k ∧ w.heap.size ≤ k) (hbad : ∀ k, w.heap.size ≤ k → ¬ bad k) :
    OwnRs R E m enc B bad w' v' (rows ++ [row]) := by
  have keep : ∀ (x : Slc) (l : List α), OwnSt E m enc B w (slV x) l → (∀ k, (slV x).ownBlock = some k → v.ownBlock ≠ some k ∧ ¬ bad k) → OwnSt E m enc B w' (slV x) l ∧ ∀ k, (slV x).ownBlock = some k → v'.ownBlock ≠ some k ∧ ¬ bad k := by
    intro x l hx hf
    refine ⟨hx.same fun k e => hg.block k (hx.lt k e).2 (fun e' => (hf k e).1 e'.symm), fun k e => ⟨?_, (hf k e).2⟩⟩
    rcases hat with e' | ⟨q, e', hq⟩
    · rw [e']; exact (hf k e).1
    · rw [e']; intro h; cases h; have := (hx.lt k e).2; omega
  refine ⟨⟨_, ho, by simp [h2], fun i hi => ?_⟩, fun k e => ?_⟩
  · rw [List.length_append, List.length_singleton] at hi
    rw [slAt_app (by omega), h2]
    by_cases hil : i = rows.length
    · subst hil
      rw [if_pos rfl]
      have : (rows ++ [row]).getD rows.length [] = row := by simp
      rw [this]
      exact keep _ _ hr hrf
    · rw [if_neg hil]
      have : (rows ++ [row]).getD i [] = rows.getD i [] := by
        rw [List.getD_eq_getElem?_getD, List.getElem?_append_left (by omega), ← List.getD_eq_getElem?_getD]
      rw [this]
      exact keep _ _ (h3 i (by omega)).1 (h3 i (by omega)).2
  · rcases hat with e' | ⟨q, e', hq⟩
    · exact h4 k (e' ▸ e)
    · rw [e'] at e; cases e; exact hbad _ hq
/-- A list of lists of one's own, as it is read. -/
theorem OwnRs.at {bad : Nat → Prop} (hm : ∀ x, (enc x).length = m) (d : α) (h : OwnRs R E m enc B bad w v rows) : RowsAt m enc d w v rows := by
  obtain ⟨⟨ss, h1, h2, h3⟩, -⟩ := h
  obtain ⟨a, cap, rfl, hmx, hc⟩ := h1.cells slEnc_len ⟨none, 0, 0⟩
  refine ⟨a, cap, by rw [h2], by rw [← h2]; exact hmx, fun h0 => ?_⟩
  obtain ⟨b, rfl, hlt, hk⟩ := hc (by omega)
  refine ⟨b, 0, rfl, hlt, fun k hk' => ⟨slV (slAt ss k), ?_, (h3 k hk').1.els hm d⟩⟩
  have := hk k 0 (by omega) (by omega)
  rw [Nat.mul_one, Nat.add_zero] at this
  rw [Nat.zero_add, this]
  rfl
end
end Go.Proofs.YthbkcoijafehgaaGreat.L
