/- Gas: walks: lots; the reference's room, working gas and purging lots. -/
import Derived.Test.YtgmbolagciaenaaGln
import Derived.Test.YtgmbolagciaenaaLpl
import Derived.Test.YtgmbolagciaenaaRda
set_option linter.unusedVariables false
set_option linter.unusedSimpArgs false
namespace Go.Proofs.Ytgmbolagciaenaa
open Go.RowKit Go.Sd Gas
theorem below_tr3 {w X y : World} (h : Below w.heap.size w X) (k : Below X.heap.size X y) : Below w.heap.size w y := h.trans (k.mono h.size)
theorem mul_in {n a B : Int} (hn : 0 ≤ n ∧ n ≤ 101) (ha : 0 ≤ a ∧ a ≤ B) (hB : B ≤ 1000000000) : IntKind.i64.wrap (n * a) = n * a := by
  have e0 := mul_nn hn.1 ha.1
  have e1 : n * a ≤ 101 * a := mul_up hn.2 ha.1
  exact IntWalk.i64_in _ (by omega)

set_option maxRecDepth 100000 in
set_option maxHeartbeats 8000000 in
theorem progLots (l : Pt) (n : Int) (w : World) (hl : l.Ok) (hn : 0 ≤ n ∧ n ≤ 101) : Calls Try.prog 75 #[ptV l, .int .i64 n] w fun e w' => e = .returned (opV (lotsOp l n)) ∧ Below w.heap.size w w' := by
  have m1 := mul_in hn hl.g (by decide)
  have m2 := mul_in hn hl.y (by decide)
  have m3 := mul_in hn hl.w (by decide)
  clear hl hn
  obtain ⟨W1, hW1⟩ : ∃ W1, w.alloc (.cells #[.int .i64 l.g, .int .i64 l.y, .int .i64 l.t, .int .i64 l.w] 31) = W1 := ⟨_, rfl⟩
  obtain ⟨eW0, bW0, sW0⟩ := boxed hW1
  have yW0_0 : w.heap.size < W1.heap.size := by omega
  obtain ⟨mW0_0_0, mW0_0_1, mW0_0_2, mW0_0_3⟩ := rc4 eW0
  obtain ⟨W, hW⟩ : ∃ W, W1.alloc (.cells #[.int .i64 0, .int .i64 0, .int .i64 0, .int .i64 0, .int .i64 0, .int .i64 0, .int .i64 0, .int .i64 0, .int .i64 0, .int .i64 0] 33) = W := ⟨_, rfl⟩
  obtain ⟨eW1, bW1, sW1⟩ := boxed hW
  replace eW0 := (bW1.block _ (Array.getElem?_eq_some_iff.1 eW0).1).trans eW0
  have hBw : Below w.heap.size w W := (by have := sW0; have := sW1; exact (bW0.trans (bW1.mono (by omega))))
  obtain ⟨zW0, rW0, tW0⟩ := row_cells eW0
  obtain ⟨qW0_0, qW0_1, qW0_2, qW0_3⟩ := rc4 eW0
  obtain ⟨fW0_0, fW0_1, fW0_2, fW0_3⟩ := rf4 eW0
  clear rW0 tW0 eW0
  obtain ⟨zW1, rW1, tW1⟩ := row_cells eW1
  obtain ⟨qW1_0, qW1_1, qW1_2, qW1_3, qW1_4, qW1_5, qW1_6, qW1_7, qW1_8, qW1_9⟩ := rc10 eW1
  obtain ⟨fW1_0, fW1_1, fW1_2, fW1_3, fW1_4, fW1_5, fW1_6, fW1_7, fW1_8, fW1_9⟩ := rf10 eW1
  clear rW1 tW1 eW1
  have xW0 : w.heap.size ≤ w.heap.size := by omega
  have xW1 : w.heap.size ≤ W1.heap.size := by omega
  clear bW0 sW0 bW1 sW1
  go_enter Try.func75, Try.ntmps75
  go_wp2
  refine bodyPost_ret (v := opV (lotsOp l n)) (by simp [results, Try.results75, go_sem, lotsOp, *]) rfl ⟨rfl, ?_⟩
  repeat' (first | (with_reducible exact hBw) | (with_reducible exact xW1) | (with_reducible refine Below.setCell ?_ ?_ _))

set_option maxRecDepth 100000 in
set_option maxHeartbeats 8000000 in
theorem refLots (l : Pt) (n : Int) (w : World) (hl : l.Ok) (hn : 0 ≤ n ∧ n ≤ 101) : Calls Try.prog 48 #[ptV l, .int .i64 n] w fun e w' => e = .returned (opV (lotsOp l n)) ∧ Below w.heap.size w w' := by
  have m1 := mul_in hn hl.g (by decide)
  have m2 := mul_in hn hl.y (by decide)
  have m3 := mul_in hn hl.w (by decide)
  clear hl hn
  obtain ⟨W1, hW1⟩ : ∃ W1, w.alloc (.cells #[.int .i64 l.g, .int .i64 l.y, .int .i64 l.t, .int .i64 l.w] 31) = W1 := ⟨_, rfl⟩
  obtain ⟨eW0, bW0, sW0⟩ := boxed hW1
  have yW0_0 : w.heap.size < W1.heap.size := by omega
  obtain ⟨mW0_0_0, mW0_0_1, mW0_0_2, mW0_0_3⟩ := rc4 eW0
  obtain ⟨W, hW⟩ : ∃ W, W1.alloc (.cells #[.int .i64 0, .int .i64 0, .int .i64 0, .int .i64 0, .int .i64 0, .int .i64 0, .int .i64 0, .int .i64 0, .int .i64 0, .int .i64 0] 33) = W := ⟨_, rfl⟩
  obtain ⟨eW1, bW1, sW1⟩ := boxed hW
  replace eW0 := (bW1.block _ (Array.getElem?_eq_some_iff.1 eW0).1).trans eW0
  have hBw : Below w.heap.size w W := (by have := sW0; have := sW1; exact (bW0.trans (bW1.mono (by omega))))
  obtain ⟨zW0, rW0, tW0⟩ := row_cells eW0
  obtain ⟨qW0_0, qW0_1, qW0_2, qW0_3⟩ := rc4 eW0
  obtain ⟨fW0_0, fW0_1, fW0_2, fW0_3⟩ := rf4 eW0
  clear rW0 tW0 eW0
  obtain ⟨zW1, rW1, tW1⟩ := row_cells eW1
  obtain ⟨qW1_0, qW1_1, qW1_2, qW1_3, qW1_4, qW1_5, qW1_6, qW1_7, qW1_8, qW1_9⟩ := rc10 eW1
  obtain ⟨fW1_0, fW1_1, fW1_2, fW1_3, fW1_4, fW1_5, fW1_6, fW1_7, fW1_8, fW1_9⟩ := rf10 eW1
  clear rW1 tW1 eW1
  have xW0 : w.heap.size ≤ w.heap.size := by omega
  have xW1 : w.heap.size ≤ W1.heap.size := by omega
  clear bW0 sW0 bW1 sW1
  go_enter Try.func48, Try.ntmps48
  go_wp2
  refine bodyPost_ret (v := opV (lotsOp l n)) (by simp [results, Try.results48, go_sem, lotsOp, *]) rfl ⟨rfl, ?_⟩
  repeat' (first | (with_reducible exact hBw) | (with_reducible exact xW1) | (with_reducible refine Below.setCell ?_ ?_ _))

/-- How many lots purge, as the reference says it. -/
def purgeI (p : Nat → Bool) : Int := match purgeOf p with
  | some k => k
  | none => -1

set_option maxRecDepth 100000 in
set_option maxHeartbeats 16000000 in
theorem refRoom (c : Cav) (s : St) (l : Pt) (w : World) (hc : c.Ok) (hs : s.Ok) (hl : l.Ok) : Calls Try.prog 51 #[cavV c, stV s, ptV l] w fun e w' => e = .returned (.int .i64 ((roomOf (fun n : Nat => fineOp c s (lotsOp l (n : Int))) : Nat) : Int)) ∧ Below w.heap.size w w' := by
  obtain ⟨W1, hW1⟩ : ∃ W1, w.alloc (.cells #[.int .i64 c.vlo, .int .i64 c.vhi, .int .i64 c.least, .int .i64 c.most, .int .i64 c.f0, .int .i64 c.f1, .int .i64 c.h0, .int .i64 c.h1, .int .i64 c.rock, .int .i64 c.plo, .int .i64 c.phi] 26) = W1 := ⟨_, rfl⟩
  obtain ⟨e_c, b_c, s_c⟩ := boxed hW1
  obtain ⟨W2, hW2⟩ : ∃ W2, W1.alloc (.cells #[.int .i64 s.glo, .int .i64 s.ghi, .int .i64 s.ylo, .int .i64 s.yhi, .int .i64 s.tlo, .int .i64 s.thi, .int .i64 s.wlo, .int .i64 s.whi] 28) = W2 := ⟨_, rfl⟩
  obtain ⟨e_s, b_s, s_s⟩ := boxed hW2
  replace e_c := (b_s.block _ (Array.getElem?_eq_some_iff.1 e_c).1).trans e_c
  obtain ⟨W, hW⟩ : ∃ W, W2.alloc (.cells #[.int .i64 l.g, .int .i64 l.y, .int .i64 l.t, .int .i64 l.w] 31) = W := ⟨_, rfl⟩
  obtain ⟨e_l, b_l, s_l⟩ := boxed hW
  replace e_c := (b_l.block _ (Array.getElem?_eq_some_iff.1 e_c).1).trans e_c
  replace e_s := (b_l.block _ (Array.getElem?_eq_some_iff.1 e_s).1).trans e_s
  have B0 : Below w.heap.size w W := ((b_c.trans (b_s.mono (by omega))).trans (b_l.mono (by omega)))
  have z0_c := (Array.getElem?_eq_some_iff.1 e_c).1
  have z0_s := (Array.getElem?_eq_some_iff.1 e_s).1
  have z0_l := (Array.getElem?_eq_some_iff.1 e_l).1
  have le_c : w.heap.size ≤ w.heap.size := by omega
  have le_s : w.heap.size ≤ W1.heap.size := by omega
  have le_l : w.heap.size ≤ W2.heap.size := by omega
  clear s_c b_c s_s b_s s_l b_l
  obtain ⟨q0_c_0, q0_c_1, q0_c_2, q0_c_3, q0_c_4, q0_c_5, q0_c_6, q0_c_7, q0_c_8, q0_c_9, q0_c_10⟩ := rc11 e_c
  replace e_c := Lib.hid e_c
  obtain ⟨q0_s_0, q0_s_1, q0_s_2, q0_s_3, q0_s_4, q0_s_5, q0_s_6, q0_s_7⟩ := rc8 e_s
  replace e_s := Lib.hid e_s
  obtain ⟨q0_l_0, q0_l_1, q0_l_2, q0_l_3⟩ := rc4 e_l
  replace e_l := Lib.hid e_l
  have hgw0 := grow_cell W
  obtain ⟨R, hR⟩ : ∃ r, roomOf (fun n : Nat => fineOp c s (lotsOp l (n : Int))) = r := ⟨_, rfl⟩
  rw [hR]
  replace hR := Lib.hid hR
  have kDo : Hid (∀ k : Nat, k ≤ 100 → ∃ n q b, RefDo c s (lotsOp l (k : Int)) n q b) := Lib.hid (fun k hk => refDoAll hc hs (lots_fit hl hk))
  have kLo : Hid (∀ k : Nat, k ≤ 100 → ∀ w, Calls Try.prog 48 #[ptV l, .int .i64 (k : Int)] w fun e w' => e = .returned (opV (lotsOp l (k : Int))) ∧ Below w.heap.size w w') := Lib.hid (fun k hk w => refLots l k w hl (by omega))
  have kOk : Hid (∀ (k : Nat) (n : St) (q : Out), k ≤ 100 → act c s (lotsOp l (k : Int)) = some (n, q) → n.Ok) := Lib.hid (fun k n q hk h => act_ok_fit hc hs (lots_fit hl hk) h)
  have kSu : Hid (∀ n : St, n.Ok → ∀ w, Calls Try.prog 44 #[cavV c, stV n] w fun e w' => e = .returned (.int .i64 (sure c n)) ∧ Below w.heap.size w w') := Lib.hid (fun n hn w => refSure c n w hc hn)
  replace hc := Lib.hid hc; replace hs := Lib.hid hs; replace hl := Lib.hid hl
  go_enter Try.func51, Try.ntmps51
  go_wp2
  clear q0_c_0 q0_c_1 q0_c_2 q0_c_3 q0_c_4 q0_c_5 q0_c_6 q0_c_7 q0_c_8 q0_c_9 q0_c_10 q0_s_0 q0_s_1 q0_s_2 q0_s_3 q0_s_4 q0_s_5 q0_s_6 q0_s_7 q0_l_0 q0_l_1 q0_l_2 q0_l_3
  clear hgw0
  go_loopw [7] (fun iv wr => ∃ k : Nat, 1 ≤ k ∧ k ≤ 101 ∧ iv = .int .i64 k ∧ Hid (∀ j : Nat, 0 < j → j < k → (fun n : Nat => fineOp c s (lotsOp l (n : Int))) j = true) ∧ Hid (wr.heap[w.heap.size]? = some (.cells #[.int .i64 c.vlo, .int .i64 c.vhi, .int .i64 c.least, .int .i64 c.most, .int .i64 c.f0, .int .i64 c.f1, .int .i64 c.h0, .int .i64 c.h1, .int .i64 c.rock, .int .i64 c.plo, .int .i64 c.phi] 26 (0, 0)) ∧ wr.heap[W1.heap.size]? = some (.cells #[.int .i64 s.glo, .int .i64 s.ghi, .int .i64 s.ylo, .int .i64 s.yhi, .int .i64 s.tlo, .int .i64 s.thi, .int .i64 s.wlo, .int .i64 s.whi] 28 (0, 0)) ∧ wr.heap[W2.heap.size]? = some (.cells #[.int .i64 l.g, .int .i64 l.y, .int .i64 l.t, .int .i64 l.w] 31 (0, 0)) ∧ Below w.heap.size w wr)) (fun iv _ => 101 - (intOf iv).toNat)
  case atStart => exact ⟨1, by omega, by omega, rfl, Lib.hid (fun j h h2 => by omega), (Lib.hid ⟨e_c.out, e_s.out, e_l.out, B0⟩)⟩
  case round =>
    obtain ⟨k, hk0, hk1, rfl, hI, hrows⟩ := hrel
    have hgw0 := grow_cell W
    obtain ⟨A_c, A_s, A_l, B1⟩ := hrows.out
    have z1_c := (Array.getElem?_eq_some_iff.1 A_c).1
    have z1_s := (Array.getElem?_eq_some_iff.1 A_s).1
    have z1_l := (Array.getElem?_eq_some_iff.1 A_l).1
    obtain ⟨q1_c_0, q1_c_1, q1_c_2, q1_c_3, q1_c_4, q1_c_5, q1_c_6, q1_c_7, q1_c_8, q1_c_9, q1_c_10⟩ := rc11 A_c
    have R1_c := Lib.hid A_c
    clear A_c
    obtain ⟨q1_s_0, q1_s_1, q1_s_2, q1_s_3, q1_s_4, q1_s_5, q1_s_6, q1_s_7⟩ := rc8 A_s
    have R1_s := Lib.hid A_s
    clear A_s
    obtain ⟨q1_l_0, q1_l_1, q1_l_2, q1_l_3⟩ := rc4 A_l
    have R1_l := Lib.hid A_l
    clear A_l
    have hgw1 := grow_cell wr
    by_cases hlt : k ≤ 100
    · have hki : (k : Int) ≤ 100 := by omega
      obtain ⟨n, q, b, hdo⟩ := kDo.out k hlt
      have hcal := hdo.calls; have his := hdo.is
      clear hdo
      have kD := Lib.hid hcal
      clear hcal
      replace his := Lib.hid his
      have kL := Lib.hid (kLo.out k hlt)
      obtain ⟨ox, hox⟩ : ∃ ox, lotsOp l (k : Int) = ox := ⟨_, rfl⟩
      rw [hox] at kD his kL
      replace hox := Lib.hid hox
      go_wp2_with (fail)
      clear q1_c_0 q1_c_1 q1_c_2 q1_c_3 q1_c_4 q1_c_5 q1_c_6 q1_c_7 q1_c_8 q1_c_9 q1_c_10 q1_s_0 q1_s_1 q1_s_2 q1_s_3 q1_s_4 q1_s_5 q1_s_6 q1_s_7 q1_l_0 q1_l_1 q1_l_2 q1_l_3
      clear hgw1
      refine wp_region_noPanic ?_
      refine wp_region_locN 12 35 [8, 9] [16, 17, 18, 19, 20, 21, 15, 22, 23, 24, 8, 9] [[], [], [], [], [2, 3], [0, 1, 4], [5], [6], [6], [6], [], []] [IsV (cavV c), IsV (stV s), IsV (ptV l), IsV (.int .i64 k), IsV (opV ox), IsV (.tuple #[stV n, outV q, .bool b]), IsV (.tuple #[stV n, outV q, .bool b]), IsV (stV n), IsV (outV q), IsV (.bool b), NewAt wr.heap.size #[.int .i64 0, .int .i64 0, .int .i64 0, .int .i64 0, .int .i64 0, .int .i64 0, .int .i64 0, .int .i64 0] 28, NewAt wr.heap.size #[.int .i64 0, .int .i64 0, .int .i64 0, .int .i64 0, .int .i64 0, .int .i64 0] 35] [10, 11] (by kernel_rfl) (by kernel_rfl) (by kernel_rfl) (by kernel_rfl) (by kernel_rfl) (by kernel_rfl) rfl (fun _ _ _ _ h => h) ?_ ?_ ?_ ?_ ?_
      · exact List.forall_mem_cons.2 ⟨pers_v _, List.forall_mem_cons.2 ⟨pers_v _, List.forall_mem_cons.2 ⟨pers_v _, List.forall_mem_cons.2 ⟨pers_v _, List.forall_mem_cons.2 ⟨pers_v _, List.forall_mem_cons.2 ⟨pers_v _, List.forall_mem_cons.2 ⟨pers_v _, List.forall_mem_cons.2 ⟨pers_v _, List.forall_mem_cons.2 ⟨pers_v _, List.forall_mem_cons.2 ⟨pers_v _, List.forall_mem_cons.2 ⟨pers_new _ _ _, List.forall_mem_cons.2 ⟨pers_new _ _ _, fun f h => by cases h⟩⟩⟩⟩⟩⟩⟩⟩⟩⟩⟩⟩
      · intro k hk u x hu
        rcases List.mem_cons.1 hk with rfl | hk
        · exact NewAt.isNew (show NewAt _ _ _ u x from hu)
        · obtain rfl : k = 11 := by simpa using hk
          exact NewAt.isNew (show NewAt _ _ _ u x from hu)
      · refine ⟨?_, ?_, ?_, ?_, ?_, ?_, ?_, ?_, ?_, ?_, ?_, ?_, trivial⟩
        · intro vals x hb hf
          simp only [fillS, List.getD_cons_succ, List.getD_cons_zero, Act.put, List.setIfInBounds_toArray, List.set_cons_zero, List.set_cons_succ]
          have ar := (hb.block _ z1_c).trans R1_c.out
          obtain ⟨y0, y1, y2, y3, y4, y5, y6, y7, y8, y9, y10⟩ := rc11 ar
          clear ar
          go_wp2
          exact ⟨rfl, rfl, Below.refl _ _, _, rfl, rfl, (fun h => absurd h (by decide))⟩
        · intro vals x hb hf
          simp only [fillS, List.getD_cons_succ, List.getD_cons_zero, Act.put, List.setIfInBounds_toArray, List.set_cons_zero, List.set_cons_succ]
          have ar := (hb.block _ z1_s).trans R1_s.out
          obtain ⟨y0, y1, y2, y3, y4, y5, y6, y7⟩ := rc8 ar
          clear ar
          go_wp2
          exact ⟨rfl, rfl, Below.refl _ _, _, rfl, rfl, (fun h => absurd h (by decide))⟩
        · intro vals x hb hf
          simp only [fillS, List.getD_cons_succ, List.getD_cons_zero, Act.put, List.setIfInBounds_toArray, List.set_cons_zero, List.set_cons_succ]
          have ar := (hb.block _ z1_l).trans R1_l.out
          obtain ⟨y0, y1, y2, y3⟩ := rc4 ar
          clear ar
          go_wp2
          exact ⟨rfl, rfl, Below.refl _ _, _, rfl, rfl, (fun h => absurd h (by decide))⟩
        · intro vals x hb hf
          simp only [fillS, List.getD_cons_succ, List.getD_cons_zero, Act.put, List.setIfInBounds_toArray, List.set_cons_zero, List.set_cons_succ]
          skip
          go_wp2
          exact ⟨rfl, rfl, Below.refl _ _, _, rfl, rfl, (fun h => absurd h (by decide))⟩
        · intro vals x hb hf
          simp only [fillS, List.getD_cons_succ, List.getD_cons_zero, Act.put, List.setIfInBounds_toArray, List.set_cons_zero, List.set_cons_succ]
          have h2 : vals 2 = ptV l := hf.1
          rw [h2]
          have h3 : vals 3 = .int .i64 k := hf.2.1
          rw [h3]
          have hbx : Below w.heap.size w x := B1.trans (hb.mono B1.size)
          go_wp2_with (go_at_call 48; (with_reducible refine Calls.mono (kL.out _) ?_); rintro e y ⟨rfl, hB⟩)
          exact ⟨rfl, rfl, hB, _, rfl, rfl, (fun h => absurd h (by decide))⟩
        · intro vals x hb hf
          simp only [fillS, List.getD_cons_succ, List.getD_cons_zero, Act.put, List.setIfInBounds_toArray, List.set_cons_zero, List.set_cons_succ]
          have h0 : vals 0 = cavV c := hf.1
          rw [h0]
          have h1 : vals 1 = stV s := hf.2.1
          rw [h1]
          have h4 : vals 4 = opV ox := hf.2.2.1
          rw [h4]
          have hbx : Below w.heap.size w x := B1.trans (hb.mono B1.size)
          go_wp2_with (go_at_call 21; (with_reducible refine Calls.mono (kD.out _) ?_); rintro e y ⟨rfl, hB⟩)
          exact ⟨rfl, rfl, hB, _, rfl, rfl, (fun h => absurd h (by decide))⟩
        · intro vals x hb hf
          simp only [fillS, List.getD_cons_succ, List.getD_cons_zero, Act.put, List.setIfInBounds_toArray, List.set_cons_zero, List.set_cons_succ]
          have h5 : vals 5 = .tuple #[stV n, outV q, .bool b] := hf.1
          rw [h5]
          skip
          go_wp2
          exact ⟨rfl, rfl, Below.refl _ _, _, rfl, rfl, (fun h => absurd h (by decide))⟩
        · intro vals x hb hf
          simp only [fillS, List.getD_cons_succ, List.getD_cons_zero, Act.put, List.setIfInBounds_toArray, List.set_cons_zero, List.set_cons_succ]
          have h6 : vals 6 = .tuple #[stV n, outV q, .bool b] := hf.1
          rw [h6]
          skip
          go_wp2
          exact ⟨rfl, rfl, Below.refl _ _, _, rfl, rfl, (fun h => absurd h (by decide))⟩
        · intro vals x hb hf
          simp only [fillS, List.getD_cons_succ, List.getD_cons_zero, Act.put, List.setIfInBounds_toArray, List.set_cons_zero, List.set_cons_succ]
          have h6 : vals 6 = .tuple #[stV n, outV q, .bool b] := hf.1
          rw [h6]
          skip
          go_wp2
          exact ⟨rfl, rfl, Below.refl _ _, _, rfl, rfl, (fun h => absurd h (by decide))⟩
        · intro vals x hb hf
          simp only [fillS, List.getD_cons_succ, List.getD_cons_zero, Act.put, List.setIfInBounds_toArray, List.set_cons_zero, List.set_cons_succ]
          have h6 : vals 6 = .tuple #[stV n, outV q, .bool b] := hf.1
          rw [h6]
          skip
          go_wp2
          exact ⟨rfl, rfl, Below.refl _ _, _, rfl, rfl, (fun h => absurd h (by decide))⟩
        · intro vals x hb hf
          simp only [fillS, List.getD_cons_succ, List.getD_cons_zero, Act.put, List.setIfInBounds_toArray, List.set_cons_zero, List.set_cons_succ]
          go_wp2
          exact ⟨rfl, rfl, (Below.refl _ _).alloc (Nat.le_refl _) _, _, rfl, ⟨_, rfl, hb.size, World.alloc_heap_new _ _⟩, fun _ => rfl⟩
        · intro vals x hb hf
          simp only [fillS, List.getD_cons_succ, List.getD_cons_zero, Act.put, List.setIfInBounds_toArray, List.set_cons_zero, List.set_cons_succ]
          go_wp2
          exact ⟨rfl, rfl, (Below.refl _ _).alloc (Nat.le_refl _) _, _, rfl, ⟨_, rfl, hb.size, World.alloc_heap_new _ _⟩, fun _ => rfl⟩
      · intro j hj o ho vals x hb hf
        rcases List.mem_cons.1 hj with rfl | hj
        · obtain rfl := Option.some.inj ho
          simp only [fillS, List.getD_cons_succ, List.getD_cons_zero, Act.put, List.setIfInBounds_toArray, List.set_cons_zero, List.set_cons_succ]
          have h6 : vals 6 = .tuple #[stV n, outV q, .bool b] := hf.1
          rw [h6]
          exact ⟨_, .inl ⟨rfl, fun w => rfl⟩, rfl, (fun h => absurd h (by decide))⟩
        · obtain rfl : j = 9 := by simpa using hj
          obtain rfl := Option.some.inj ho
          simp only [fillS, List.getD_cons_succ, List.getD_cons_zero, Act.put, List.setIfInBounds_toArray, List.set_cons_zero, List.set_cons_succ]
          have h6 : vals 6 = .tuple #[stV n, outV q, .bool b] := hf.1
          rw [h6]
          exact ⟨_, .inl ⟨rfl, fun w => rfl⟩, rfl, (fun h => absurd h (by decide))⟩
      · intro vals x hb hf hp
        have hrange : List.range 12 = [0, 1, 2, 3, 4, 5, 6, 7, 8, 9, 10, 11] := by rfl
        rw [hrange]
        simp only [fillS, List.getD_cons_succ, List.getD_cons_zero, Act.put, List.setIfInBounds_toArray, List.set_cons_zero, List.set_cons_succ]
        have h0 : vals 0 = cavV c := hf 0 (by omega)
        have h1 : vals 1 = stV s := hf 1 (by omega)
        have h2 : vals 2 = ptV l := hf 2 (by omega)
        have h3 : vals 3 = .int .i64 k := hf 3 (by omega)
        have h4 : vals 4 = opV ox := hf 4 (by omega)
        have h5 : vals 5 = .tuple #[stV n, outV q, .bool b] := hf 5 (by omega)
        have h6 : vals 6 = .tuple #[stV n, outV q, .bool b] := hf 6 (by omega)
        have h7 : vals 7 = stV n := hf 7 (by omega)
        have h8 : vals 8 = outV q := hf 8 (by omega)
        have h9 : vals 9 = .bool b := hf 9 (by omega)
        obtain ⟨blk_y, hv_y, l_y, A_y⟩ : NewAt wr.heap.size #[.int .i64 0, .int .i64 0, .int .i64 0, .int .i64 0, .int .i64 0, .int .i64 0, .int .i64 0, .int .i64 0] 28 (vals 10) x := hf 10 (by omega)
        obtain ⟨blk_yq, hv_yq, l_yq, A_yq⟩ : NewAt wr.heap.size #[.int .i64 0, .int .i64 0, .int .i64 0, .int .i64 0, .int .i64 0, .int .i64 0] 35 (vals 11) x := hf 11 (by omega)
        have ne_y_yq : (blk_y : Nat) ≠ blk_yq := by
          intro h
          have h1 := hp 10 11 (by omega) (by omega) (by omega) rfl rfl
          rw [hv_y, hv_yq, h] at h1
          exact h1 rfl
        have ne_yq_y := Ne.symm ne_y_yq
        rw [h0, h1, h2, h3, h4, h5, h6, h7, h8, h9, hv_y, hv_yq]
        clear h0 h1 h2 h3 h4 h5 h6 h7 h8 h9 hv_y hv_yq hf hp hrange
        have A_c := (hb.block _ z1_c).trans R1_c.out
        have ne_c_y : (w.heap.size : Nat) ≠ blk_y := by have := z1_c; omega
        have ne_c_yq : (w.heap.size : Nat) ≠ blk_yq := by have := z1_c; omega
        replace A_c := Lib.hid A_c
        have A_s := (hb.block _ z1_s).trans R1_s.out
        have ne_s_y : (W1.heap.size : Nat) ≠ blk_y := by have := z1_s; omega
        have ne_s_yq : (W1.heap.size : Nat) ≠ blk_yq := by have := z1_s; omega
        replace A_s := Lib.hid A_s
        have A_l := (hb.block _ z1_l).trans R1_l.out
        have ne_l_y : (W2.heap.size : Nat) ≠ blk_y := by have := z1_l; omega
        have ne_l_yq : (W2.heap.size : Nat) ≠ blk_yq := by have := z1_l; omega
        replace A_l := Lib.hid A_l
        have B2 : Below w.heap.size w x := B1.trans (hb.mono B1.size)
        have hLw := B1.size
        have le_y : w.heap.size ≤ blk_y := by omega
        obtain ⟨p_y_0, p_y_1, p_y_2, p_y_3, p_y_4, p_y_5, p_y_6, p_y_7⟩ := rc8 A_y
        obtain ⟨g_y_0, g_y_1, g_y_2, g_y_3, g_y_4, g_y_5, g_y_6, g_y_7⟩ := rf8 A_y
        replace A_y := Lib.hid A_y
        have le_yq : w.heap.size ≤ blk_yq := by omega
        obtain ⟨p_yq_0, p_yq_1, p_yq_2, p_yq_3, p_yq_4, p_yq_5⟩ := rc6 A_yq
        obtain ⟨g_yq_0, g_yq_1, g_yq_2, g_yq_3, g_yq_4, g_yq_5⟩ := rf6 A_yq
        replace A_yq := Lib.hid A_yq
        go_wp2
        refine NoPanic.normal ?_
        generalize hV2 : World.setCell _ ⟨blk_yq, 5, none⟩ _ = M2
        have C_c : M2.heap[w.heap.size]? = some (.cells #[.int .i64 c.vlo, .int .i64 c.vhi, .int .i64 c.least, .int .i64 c.most, .int .i64 c.f0, .int .i64 c.f1, .int .i64 c.h0, .int .i64 c.h1, .int .i64 c.rock, .int .i64 c.plo, .int .i64 c.phi] 26 (0, 0)) := by rw [← hV2]; have h2 := (set_far (n := blk_yq) 5 (.int .i64 q.whi) ne_c_yq (set_far (n := blk_yq) 4 (.int .i64 q.wlo) ne_c_yq (set_far (n := blk_yq) 3 (.int .i64 q.yhi) ne_c_yq (set_far (n := blk_yq) 2 (.int .i64 q.ylo) ne_c_yq (set_far (n := blk_yq) 1 (.int .i64 q.ghi) ne_c_yq (set_far (n := blk_yq) 0 (.int .i64 q.glo) ne_c_yq (set_far (n := blk_y) 7 (.int .i64 n.whi) ne_c_y (set_far (n := blk_y) 6 (.int .i64 n.wlo) ne_c_y (set_far (n := blk_y) 5 (.int .i64 n.thi) ne_c_y (set_far (n := blk_y) 4 (.int .i64 n.tlo) ne_c_y (set_far (n := blk_y) 3 (.int .i64 n.yhi) ne_c_y (set_far (n := blk_y) 2 (.int .i64 n.ylo) ne_c_y (set_far (n := blk_y) 1 (.int .i64 n.ghi) ne_c_y (set_far (n := blk_y) 0 (.int .i64 n.glo) ne_c_y A_c.out)))))))))))))); exact h2
        have C_s : M2.heap[W1.heap.size]? = some (.cells #[.int .i64 s.glo, .int .i64 s.ghi, .int .i64 s.ylo, .int .i64 s.yhi, .int .i64 s.tlo, .int .i64 s.thi, .int .i64 s.wlo, .int .i64 s.whi] 28 (0, 0)) := by rw [← hV2]; have h2 := (set_far (n := blk_yq) 5 (.int .i64 q.whi) ne_s_yq (set_far (n := blk_yq) 4 (.int .i64 q.wlo) ne_s_yq (set_far (n := blk_yq) 3 (.int .i64 q.yhi) ne_s_yq (set_far (n := blk_yq) 2 (.int .i64 q.ylo) ne_s_yq (set_far (n := blk_yq) 1 (.int .i64 q.ghi) ne_s_yq (set_far (n := blk_yq) 0 (.int .i64 q.glo) ne_s_yq (set_far (n := blk_y) 7 (.int .i64 n.whi) ne_s_y (set_far (n := blk_y) 6 (.int .i64 n.wlo) ne_s_y (set_far (n := blk_y) 5 (.int .i64 n.thi) ne_s_y (set_far (n := blk_y) 4 (.int .i64 n.tlo) ne_s_y (set_far (n := blk_y) 3 (.int .i64 n.yhi) ne_s_y (set_far (n := blk_y) 2 (.int .i64 n.ylo) ne_s_y (set_far (n := blk_y) 1 (.int .i64 n.ghi) ne_s_y (set_far (n := blk_y) 0 (.int .i64 n.glo) ne_s_y A_s.out)))))))))))))); exact h2
        have C_l : M2.heap[W2.heap.size]? = some (.cells #[.int .i64 l.g, .int .i64 l.y, .int .i64 l.t, .int .i64 l.w] 31 (0, 0)) := by rw [← hV2]; have h2 := (set_far (n := blk_yq) 5 (.int .i64 q.whi) ne_l_yq (set_far (n := blk_yq) 4 (.int .i64 q.wlo) ne_l_yq (set_far (n := blk_yq) 3 (.int .i64 q.yhi) ne_l_yq (set_far (n := blk_yq) 2 (.int .i64 q.ylo) ne_l_yq (set_far (n := blk_yq) 1 (.int .i64 q.ghi) ne_l_yq (set_far (n := blk_yq) 0 (.int .i64 q.glo) ne_l_yq (set_far (n := blk_y) 7 (.int .i64 n.whi) ne_l_y (set_far (n := blk_y) 6 (.int .i64 n.wlo) ne_l_y (set_far (n := blk_y) 5 (.int .i64 n.thi) ne_l_y (set_far (n := blk_y) 4 (.int .i64 n.tlo) ne_l_y (set_far (n := blk_y) 3 (.int .i64 n.yhi) ne_l_y (set_far (n := blk_y) 2 (.int .i64 n.ylo) ne_l_y (set_far (n := blk_y) 1 (.int .i64 n.ghi) ne_l_y (set_far (n := blk_y) 0 (.int .i64 n.glo) ne_l_y A_l.out)))))))))))))); exact h2
        have C_y : M2.heap[blk_y]? = some (.cells #[.int .i64 n.glo, .int .i64 n.ghi, .int .i64 n.ylo, .int .i64 n.yhi, .int .i64 n.tlo, .int .i64 n.thi, .int .i64 n.wlo, .int .i64 n.whi] 28 (0, 0)) := by rw [← hV2]; have h2 := (set_far (n := blk_yq) 5 (.int .i64 q.whi) ne_y_yq (set_far (n := blk_yq) 4 (.int .i64 q.wlo) ne_y_yq (set_far (n := blk_yq) 3 (.int .i64 q.yhi) ne_y_yq (set_far (n := blk_yq) 2 (.int .i64 q.ylo) ne_y_yq (set_far (n := blk_yq) 1 (.int .i64 q.ghi) ne_y_yq (set_far (n := blk_yq) 0 (.int .i64 q.glo) ne_y_yq (set_one (set_one (set_one (set_one (set_one (set_one (set_one (set_one A_y.out 0 (.int .i64 n.glo)) 1 (.int .i64 n.ghi)) 2 (.int .i64 n.ylo)) 3 (.int .i64 n.yhi)) 4 (.int .i64 n.tlo)) 5 (.int .i64 n.thi)) 6 (.int .i64 n.wlo)) 7 (.int .i64 n.whi)))))))); simp only [List.setIfInBounds_toArray, List.set_cons_zero, List.set_cons_succ] at h2; exact h2
        have C_yq : M2.heap[blk_yq]? = some (.cells #[.int .i64 q.glo, .int .i64 q.ghi, .int .i64 q.ylo, .int .i64 q.yhi, .int .i64 q.wlo, .int .i64 q.whi] 35 (0, 0)) := by rw [← hV2]; have h2 := (set_one (set_one (set_one (set_one (set_one (set_one (set_far (n := blk_y) 7 (.int .i64 n.whi) ne_yq_y (set_far (n := blk_y) 6 (.int .i64 n.wlo) ne_yq_y (set_far (n := blk_y) 5 (.int .i64 n.thi) ne_yq_y (set_far (n := blk_y) 4 (.int .i64 n.tlo) ne_yq_y (set_far (n := blk_y) 3 (.int .i64 n.yhi) ne_yq_y (set_far (n := blk_y) 2 (.int .i64 n.ylo) ne_yq_y (set_far (n := blk_y) 1 (.int .i64 n.ghi) ne_yq_y (set_far (n := blk_y) 0 (.int .i64 n.glo) ne_yq_y A_yq.out)))))))) 0 (.int .i64 q.glo)) 1 (.int .i64 q.ghi)) 2 (.int .i64 q.ylo)) 3 (.int .i64 q.yhi)) 4 (.int .i64 q.wlo)) 5 (.int .i64 q.whi)); simp only [List.setIfInBounds_toArray, List.set_cons_zero, List.set_cons_succ] at h2; exact h2
        replace B2 : Below w.heap.size w M2 := by rw [← hV2]; exact (Below.setCell (p := ⟨blk_yq, 5, none⟩) (Below.setCell (p := ⟨blk_yq, 4, none⟩) (Below.setCell (p := ⟨blk_yq, 3, none⟩) (Below.setCell (p := ⟨blk_yq, 2, none⟩) (Below.setCell (p := ⟨blk_yq, 1, none⟩) (Below.setCell (p := ⟨blk_yq, 0, none⟩) (Below.setCell (p := ⟨blk_y, 7, none⟩) (Below.setCell (p := ⟨blk_y, 6, none⟩) (Below.setCell (p := ⟨blk_y, 5, none⟩) (Below.setCell (p := ⟨blk_y, 4, none⟩) (Below.setCell (p := ⟨blk_y, 3, none⟩) (Below.setCell (p := ⟨blk_y, 2, none⟩) (Below.setCell (p := ⟨blk_y, 1, none⟩) (Below.setCell (p := ⟨blk_y, 0, none⟩) B2 le_y (.int .i64 n.glo)) le_y (.int .i64 n.ghi)) le_y (.int .i64 n.ylo)) le_y (.int .i64 n.yhi)) le_y (.int .i64 n.tlo)) le_y (.int .i64 n.thi)) le_y (.int .i64 n.wlo)) le_y (.int .i64 n.whi)) le_yq (.int .i64 q.glo)) le_yq (.int .i64 q.ghi)) le_yq (.int .i64 q.ylo)) le_yq (.int .i64 q.yhi)) le_yq (.int .i64 q.wlo)) le_yq (.int .i64 q.whi))
        clear hV2 hb hLw l_y l_yq p_y_0 g_y_0 p_y_1 g_y_1 p_y_2 g_y_2 p_y_3 g_y_3 p_y_4 g_y_4 p_y_5 g_y_5 p_y_6 g_y_6 p_y_7 g_y_7 p_yq_0 g_yq_0 p_yq_1 g_yq_1 p_yq_2 g_yq_2 p_yq_3 g_yq_3 p_yq_4 g_yq_4 p_yq_5 g_yq_5
        replace A_c := C_c
        clear C_c
        replace A_s := C_s
        clear C_s
        replace A_l := C_l
        clear C_l
        replace A_y := C_y
        clear C_y
        replace A_yq := C_yq
        clear C_yq
        have z2_c := (Array.getElem?_eq_some_iff.1 A_c).1
        have z2_s := (Array.getElem?_eq_some_iff.1 A_s).1
        have z2_l := (Array.getElem?_eq_some_iff.1 A_l).1
        have z2_y := (Array.getElem?_eq_some_iff.1 A_y).1
        have z2_yq := (Array.getElem?_eq_some_iff.1 A_yq).1
        obtain ⟨q2_c_0, q2_c_1, q2_c_2, q2_c_3, q2_c_4, q2_c_5, q2_c_6, q2_c_7, q2_c_8, q2_c_9, q2_c_10⟩ := rc11 A_c
        have R2_c := Lib.hid A_c
        clear A_c
        have R2_s := Lib.hid A_s
        clear A_s
        have R2_l := Lib.hid A_l
        clear A_l
        obtain ⟨q2_y_0, q2_y_1, q2_y_2, q2_y_3, q2_y_4, q2_y_5, q2_y_6, q2_y_7⟩ := rc8 A_y
        have R2_y := Lib.hid A_y
        clear A_y
        have R2_yq := Lib.hid A_yq
        clear A_yq
        have hgw2 := grow_cell M2
        cases b
        · skip
          have hval : (fun n : Nat => fineOp c s (lotsOp l (n : Int))) k = false := by
            show fineOp c s (lotsOp l (k : Int)) = false
            rw [hox.out]
            unfold fineOp
            rw [his.out]
            rfl
          have hRk : R = k - 1 := by
            rw [← hR.out]
            exact roomOf_stop (by omega) (fun j h1 h2 => hI.out j h1 (by omega)) (by rw [show k - 1 + 1 = k by omega]; exact hval)
          have hwk : IntKind.i64.wrap ((k : Int) - 1) = (k : Int) - 1 := IntWalk.i64_in _ (by omega)
          go_wp2_with (fail)
          go_ret
          exact ⟨by first | (show Ending.returned (Value.int IntKind.i64 ((k : Int) - 1)) = _; (try rw [hRk]); congr 2; omega), B2⟩
        · skip
          have hn := kOk.out k n q hlt (by rw [hox.out]; exact his.out)
          have kS := Lib.hid (kSu.out n hn)
          clear hn
          by_cases hsu : sure c n = 1
          · skip
            have hval : (fun n : Nat => fineOp c s (lotsOp l (n : Int))) k = true := by
              show fineOp c s (lotsOp l (k : Int)) = true
              rw [hox.out]
              unfold fineOp
              rw [his.out]
              show decide (sure c n = 1) = true; rw [hsu]; rfl
            rw [hsu] at kS
            clear hsu
            go_wp2_with (first | (go_at_call 44; (with_reducible refine Calls.mono (kS.out _) ?_); rintro e w1 ⟨rfl, hB⟩; (first | (obtain ⟨g, rfl⟩ := g.next hB) | (obtain ⟨g, rfl⟩ : ∃ g : Grow M2, w1 = g.x := ⟨⟨w1, hB⟩, rfl⟩)); clear hB))
            clear q2_c_0 q2_c_1 q2_c_2 q2_c_3 q2_c_4 q2_c_5 q2_c_6 q2_c_7 q2_c_8 q2_c_9 q2_c_10 q2_y_0 q2_y_1 q2_y_2 q2_y_3 q2_y_4 q2_y_5 q2_y_6 q2_y_7
            clear hgw2
            obtain ⟨N3, hN3⟩ : ∃ V, g.x = V := ⟨_, rfl⟩
            have A_c : N3.heap[w.heap.size]? = some (.cells #[.int .i64 c.vlo, .int .i64 c.vhi, .int .i64 c.least, .int .i64 c.most, .int .i64 c.f0, .int .i64 c.f1, .int .i64 c.h0, .int .i64 c.h1, .int .i64 c.rock, .int .i64 c.plo, .int .i64 c.phi] 26 (0, 0)) := by rw [← hN3]; exact (g.h.block _ z2_c).trans R2_c.out
            have A_s : N3.heap[W1.heap.size]? = some (.cells #[.int .i64 s.glo, .int .i64 s.ghi, .int .i64 s.ylo, .int .i64 s.yhi, .int .i64 s.tlo, .int .i64 s.thi, .int .i64 s.wlo, .int .i64 s.whi] 28 (0, 0)) := by rw [← hN3]; exact (g.h.block _ z2_s).trans R2_s.out
            have A_l : N3.heap[W2.heap.size]? = some (.cells #[.int .i64 l.g, .int .i64 l.y, .int .i64 l.t, .int .i64 l.w] 31 (0, 0)) := by rw [← hN3]; exact (g.h.block _ z2_l).trans R2_l.out
            have A_y : N3.heap[blk_y]? = some (.cells #[.int .i64 n.glo, .int .i64 n.ghi, .int .i64 n.ylo, .int .i64 n.yhi, .int .i64 n.tlo, .int .i64 n.thi, .int .i64 n.wlo, .int .i64 n.whi] 28 (0, 0)) := by rw [← hN3]; exact (g.h.block _ z2_y).trans R2_y.out
            have A_yq : N3.heap[blk_yq]? = some (.cells #[.int .i64 q.glo, .int .i64 q.ghi, .int .i64 q.ylo, .int .i64 q.yhi, .int .i64 q.wlo, .int .i64 q.whi] 35 (0, 0)) := by rw [← hN3]; exact (g.h.block _ z2_yq).trans R2_yq.out
            have B3 : Below w.heap.size w N3 := by rw [← hN3]; exact B2.trans (g.h.mono B2.size)
            rw [hN3]
            clear hN3
            have z3_c := (Array.getElem?_eq_some_iff.1 A_c).1
            have z3_s := (Array.getElem?_eq_some_iff.1 A_s).1
            have z3_l := (Array.getElem?_eq_some_iff.1 A_l).1
            have z3_y := (Array.getElem?_eq_some_iff.1 A_y).1
            have z3_yq := (Array.getElem?_eq_some_iff.1 A_yq).1
            have R3_c := Lib.hid A_c
            clear A_c
            have R3_s := Lib.hid A_s
            clear A_s
            have R3_l := Lib.hid A_l
            clear A_l
            have R3_y := Lib.hid A_y
            clear A_y
            have R3_yq := Lib.hid A_yq
            clear A_yq
            have hgw3 := grow_cell N3
            exact ⟨⟨k + 1, by omega, by omega, by go_num, Lib.hid (fun j h h2 => by
                by_cases e : j = k
                · rw [e]; exact hval
                · exact hI.out j h (by omega)), (Lib.hid ⟨R3_c.out, R3_s.out, R3_l.out, B3⟩)⟩, by simp [intOf]; omega⟩
          · skip
            have hval : (fun n : Nat => fineOp c s (lotsOp l (n : Int))) k = false := by
              show fineOp c s (lotsOp l (k : Int)) = false
              rw [hox.out]
              unfold fineOp
              rw [his.out]
              show decide (sure c n = 1) = false; exact decide_eq_false hsu
            have hRk : R = k - 1 := by
              rw [← hR.out]
              exact roomOf_stop (by omega) (fun j h1 h2 => hI.out j h1 (by omega)) (by rw [show k - 1 + 1 = k by omega]; exact hval)
            have hwk : IntKind.i64.wrap ((k : Int) - 1) = (k : Int) - 1 := IntWalk.i64_in _ (by omega)
            generalize sure c n = su at *
            have hsb : (su == 1) = false := by simpa using hsu
            go_wp2_with (first | (go_at_call 44; (with_reducible refine Calls.mono (kS.out _) ?_); rintro e w1 ⟨rfl, hB⟩; (first | (obtain ⟨g, rfl⟩ := g.next hB) | (obtain ⟨g, rfl⟩ : ∃ g : Grow M2, w1 = g.x := ⟨⟨w1, hB⟩, rfl⟩)); clear hB))
            go_ret
            exact ⟨by first | (show Ending.returned (Value.int IntKind.i64 ((k : Int) - 1)) = _; (try rw [hRk]); congr 2; omega), B2.trans (g.h.mono B2.size)⟩
    · obtain rfl : k = 101 := by omega
      have hRk : R = 100 := by
        rw [← hR.out]
        exact roomOf_all (fun j h1 h2 => hI.out j h1 (by omega))
      go_wp2_with (fail)
      go_ret
      exact ⟨by first | rfl | (rw [hRk]; rfl), B1⟩

set_option maxRecDepth 100000 in
set_option maxHeartbeats 16000000 in
theorem refPurge (c : Cav) (s : St) (l : Pt) (w : World) (hc : c.Ok) (hs : s.Ok) (hl : l.Ok) : Calls Try.prog 52 #[cavV c, stV s, ptV l] w fun e w' => e = .returned (.int .i64 (purgeI (fun n : Nat => pureOp c s (lotsOp l (n : Int))))) ∧ Below w.heap.size w w' := by
  obtain ⟨W1, hW1⟩ : ∃ W1, w.alloc (.cells #[.int .i64 c.vlo, .int .i64 c.vhi, .int .i64 c.least, .int .i64 c.most, .int .i64 c.f0, .int .i64 c.f1, .int .i64 c.h0, .int .i64 c.h1, .int .i64 c.rock, .int .i64 c.plo, .int .i64 c.phi] 26) = W1 := ⟨_, rfl⟩
  obtain ⟨e_c, b_c, s_c⟩ := boxed hW1
  obtain ⟨W2, hW2⟩ : ∃ W2, W1.alloc (.cells #[.int .i64 s.glo, .int .i64 s.ghi, .int .i64 s.ylo, .int .i64 s.yhi, .int .i64 s.tlo, .int .i64 s.thi, .int .i64 s.wlo, .int .i64 s.whi] 28) = W2 := ⟨_, rfl⟩
  obtain ⟨e_s, b_s, s_s⟩ := boxed hW2
  replace e_c := (b_s.block _ (Array.getElem?_eq_some_iff.1 e_c).1).trans e_c
  obtain ⟨W, hW⟩ : ∃ W, W2.alloc (.cells #[.int .i64 l.g, .int .i64 l.y, .int .i64 l.t, .int .i64 l.w] 31) = W := ⟨_, rfl⟩
  obtain ⟨e_l, b_l, s_l⟩ := boxed hW
  replace e_c := (b_l.block _ (Array.getElem?_eq_some_iff.1 e_c).1).trans e_c
  replace e_s := (b_l.block _ (Array.getElem?_eq_some_iff.1 e_s).1).trans e_s
  have B0 : Below w.heap.size w W := ((b_c.trans (b_s.mono (by omega))).trans (b_l.mono (by omega)))
  have z0_c := (Array.getElem?_eq_some_iff.1 e_c).1
  have z0_s := (Array.getElem?_eq_some_iff.1 e_s).1
  have z0_l := (Array.getElem?_eq_some_iff.1 e_l).1
  have le_c : w.heap.size ≤ w.heap.size := by omega
  have le_s : w.heap.size ≤ W1.heap.size := by omega
  have le_l : w.heap.size ≤ W2.heap.size := by omega
  clear s_c b_c s_s b_s s_l b_l
  obtain ⟨q0_c_0, q0_c_1, q0_c_2, q0_c_3, q0_c_4, q0_c_5, q0_c_6, q0_c_7, q0_c_8, q0_c_9, q0_c_10⟩ := rc11 e_c
  replace e_c := Lib.hid e_c
  obtain ⟨q0_s_0, q0_s_1, q0_s_2, q0_s_3, q0_s_4, q0_s_5, q0_s_6, q0_s_7⟩ := rc8 e_s
  replace e_s := Lib.hid e_s
  obtain ⟨q0_l_0, q0_l_1, q0_l_2, q0_l_3⟩ := rc4 e_l
  replace e_l := Lib.hid e_l
  have hgw0 := grow_cell W
  obtain ⟨R, hR⟩ : ∃ r, purgeI (fun n : Nat => pureOp c s (lotsOp l (n : Int))) = r := ⟨_, rfl⟩
  rw [hR]
  replace hR := Lib.hid hR
  have kDo : Hid (∀ k : Nat, k ≤ 100 → ∃ n q b, RefDo c s (lotsOp l (k : Int)) n q b) := Lib.hid (fun k hk => refDoAll hc hs (lots_fit hl hk))
  have kLo : Hid (∀ k : Nat, k ≤ 100 → ∀ w, Calls Try.prog 48 #[ptV l, .int .i64 (k : Int)] w fun e w' => e = .returned (opV (lotsOp l (k : Int))) ∧ Below w.heap.size w w') := Lib.hid (fun k hk w => refLots l k w hl (by omega))
  have kOk : Hid (∀ (k : Nat) (n : St) (q : Out), k ≤ 100 → act c s (lotsOp l (k : Int)) = some (n, q) → n.Ok) := Lib.hid (fun k n q hk h => act_ok_fit hc hs (lots_fit hl hk) h)
  have kTh : Hid (∀ (n : St) (b : Bool), n.Ok → thin c n = b → ∀ w, Calls Try.prog 85 #[cavV c, stV n] w fun e w' => e = .returned (.bool b) ∧ Below w.heap.size w w') := Lib.hid (fun n b hn hb w => (refThin c n w hc hn).mono fun e w' h => BoolB.lit h hb)
  have kRi : Hid (∀ (n : St) (b : Bool), n.Ok → rich c n = b → ∀ w, Calls Try.prog 86 #[cavV c, stV n] w fun e w' => e = .returned (.bool b) ∧ Below w.heap.size w w') := Lib.hid (fun n b hn hb w => (refRich c n w hc hn).mono fun e w' h => BoolB.lit h hb)
  replace hc := Lib.hid hc; replace hs := Lib.hid hs; replace hl := Lib.hid hl
  go_enter Try.func52, Try.ntmps52
  go_wp2
  clear q0_c_0 q0_c_1 q0_c_2 q0_c_3 q0_c_4 q0_c_5 q0_c_6 q0_c_7 q0_c_8 q0_c_9 q0_c_10 q0_s_0 q0_s_1 q0_s_2 q0_s_3 q0_s_4 q0_s_5 q0_s_6 q0_s_7 q0_l_0 q0_l_1 q0_l_2 q0_l_3
  clear hgw0
  go_loopw [7] (fun iv wr => ∃ k : Nat, 0 ≤ k ∧ k ≤ 101 ∧ iv = .int .i64 k ∧ Hid (∀ j : Nat, j < k → (fun n : Nat => pureOp c s (lotsOp l (n : Int))) j = false) ∧ Hid (wr.heap[w.heap.size]? = some (.cells #[.int .i64 c.vlo, .int .i64 c.vhi, .int .i64 c.least, .int .i64 c.most, .int .i64 c.f0, .int .i64 c.f1, .int .i64 c.h0, .int .i64 c.h1, .int .i64 c.rock, .int .i64 c.plo, .int .i64 c.phi] 26 (0, 0)) ∧ wr.heap[W1.heap.size]? = some (.cells #[.int .i64 s.glo, .int .i64 s.ghi, .int .i64 s.ylo, .int .i64 s.yhi, .int .i64 s.tlo, .int .i64 s.thi, .int .i64 s.wlo, .int .i64 s.whi] 28 (0, 0)) ∧ wr.heap[W2.heap.size]? = some (.cells #[.int .i64 l.g, .int .i64 l.y, .int .i64 l.t, .int .i64 l.w] 31 (0, 0)) ∧ Below w.heap.size w wr)) (fun iv _ => 101 - (intOf iv).toNat)
  case atStart => exact ⟨0, by omega, by omega, rfl, Lib.hid (fun j h => by omega), (Lib.hid ⟨e_c.out, e_s.out, e_l.out, B0⟩)⟩
  case round =>
    obtain ⟨k, hk0, hk1, rfl, hI, hrows⟩ := hrel
    have hgw0 := grow_cell W
    obtain ⟨A_c, A_s, A_l, B1⟩ := hrows.out
    have z1_c := (Array.getElem?_eq_some_iff.1 A_c).1
    have z1_s := (Array.getElem?_eq_some_iff.1 A_s).1
    have z1_l := (Array.getElem?_eq_some_iff.1 A_l).1
    obtain ⟨q1_c_0, q1_c_1, q1_c_2, q1_c_3, q1_c_4, q1_c_5, q1_c_6, q1_c_7, q1_c_8, q1_c_9, q1_c_10⟩ := rc11 A_c
    have R1_c := Lib.hid A_c
    clear A_c
    obtain ⟨q1_s_0, q1_s_1, q1_s_2, q1_s_3, q1_s_4, q1_s_5, q1_s_6, q1_s_7⟩ := rc8 A_s
    have R1_s := Lib.hid A_s
    clear A_s
    obtain ⟨q1_l_0, q1_l_1, q1_l_2, q1_l_3⟩ := rc4 A_l
    have R1_l := Lib.hid A_l
    clear A_l
    have hgw1 := grow_cell wr
    by_cases hlt : k ≤ 100
    · have hki : (k : Int) ≤ 100 := by omega
      obtain ⟨n, q, b, hdo⟩ := kDo.out k hlt
      have hcal := hdo.calls; have his := hdo.is
      clear hdo
      have kD := Lib.hid hcal
      clear hcal
      replace his := Lib.hid his
      have kL := Lib.hid (kLo.out k hlt)
      obtain ⟨ox, hox⟩ : ∃ ox, lotsOp l (k : Int) = ox := ⟨_, rfl⟩
      rw [hox] at kD his kL
      replace hox := Lib.hid hox
      go_wp2_with (fail)
      clear q1_c_0 q1_c_1 q1_c_2 q1_c_3 q1_c_4 q1_c_5 q1_c_6 q1_c_7 q1_c_8 q1_c_9 q1_c_10 q1_s_0 q1_s_1 q1_s_2 q1_s_3 q1_s_4 q1_s_5 q1_s_6 q1_s_7 q1_l_0 q1_l_1 q1_l_2 q1_l_3
      clear hgw1
      refine wp_region_noPanic ?_
      refine wp_region_locN 12 39 [8, 9] [16, 17, 18, 19, 20, 21, 15, 22, 23, 24, 8, 9] [[], [], [], [], [2, 3], [0, 1, 4], [5], [6], [6], [6], [], []] [IsV (cavV c), IsV (stV s), IsV (ptV l), IsV (.int .i64 k), IsV (opV ox), IsV (.tuple #[stV n, outV q, .bool b]), IsV (.tuple #[stV n, outV q, .bool b]), IsV (stV n), IsV (outV q), IsV (.bool b), NewAt wr.heap.size #[.int .i64 0, .int .i64 0, .int .i64 0, .int .i64 0, .int .i64 0, .int .i64 0, .int .i64 0, .int .i64 0] 28, NewAt wr.heap.size #[.int .i64 0, .int .i64 0, .int .i64 0, .int .i64 0, .int .i64 0, .int .i64 0] 35] [10, 11] (by kernel_rfl) (by kernel_rfl) (by kernel_rfl) (by kernel_rfl) (by kernel_rfl) (by kernel_rfl) rfl (fun _ _ _ _ h => h) ?_ ?_ ?_ ?_ ?_
      · exact List.forall_mem_cons.2 ⟨pers_v _, List.forall_mem_cons.2 ⟨pers_v _, List.forall_mem_cons.2 ⟨pers_v _, List.forall_mem_cons.2 ⟨pers_v _, List.forall_mem_cons.2 ⟨pers_v _, List.forall_mem_cons.2 ⟨pers_v _, List.forall_mem_cons.2 ⟨pers_v _, List.forall_mem_cons.2 ⟨pers_v _, List.forall_mem_cons.2 ⟨pers_v _, List.forall_mem_cons.2 ⟨pers_v _, List.forall_mem_cons.2 ⟨pers_new _ _ _, List.forall_mem_cons.2 ⟨pers_new _ _ _, fun f h => by cases h⟩⟩⟩⟩⟩⟩⟩⟩⟩⟩⟩⟩
      · intro k hk u x hu
        rcases List.mem_cons.1 hk with rfl | hk
        · exact NewAt.isNew (show NewAt _ _ _ u x from hu)
        · obtain rfl : k = 11 := by simpa using hk
          exact NewAt.isNew (show NewAt _ _ _ u x from hu)
      · refine ⟨?_, ?_, ?_, ?_, ?_, ?_, ?_, ?_, ?_, ?_, ?_, ?_, trivial⟩
        · intro vals x hb hf
          simp only [fillS, List.getD_cons_succ, List.getD_cons_zero, Act.put, List.setIfInBounds_toArray, List.set_cons_zero, List.set_cons_succ]
          have ar := (hb.block _ z1_c).trans R1_c.out
          obtain ⟨y0, y1, y2, y3, y4, y5, y6, y7, y8, y9, y10⟩ := rc11 ar
          clear ar
          go_wp2
          exact ⟨rfl, rfl, Below.refl _ _, _, rfl, rfl, (fun h => absurd h (by decide))⟩
        · intro vals x hb hf
          simp only [fillS, List.getD_cons_succ, List.getD_cons_zero, Act.put, List.setIfInBounds_toArray, List.set_cons_zero, List.set_cons_succ]
          have ar := (hb.block _ z1_s).trans R1_s.out
          obtain ⟨y0, y1, y2, y3, y4, y5, y6, y7⟩ := rc8 ar
          clear ar
          go_wp2
          exact ⟨rfl, rfl, Below.refl _ _, _, rfl, rfl, (fun h => absurd h (by decide))⟩
        · intro vals x hb hf
          simp only [fillS, List.getD_cons_succ, List.getD_cons_zero, Act.put, List.setIfInBounds_toArray, List.set_cons_zero, List.set_cons_succ]
          have ar := (hb.block _ z1_l).trans R1_l.out
          obtain ⟨y0, y1, y2, y3⟩ := rc4 ar
          clear ar
          go_wp2
          exact ⟨rfl, rfl, Below.refl _ _, _, rfl, rfl, (fun h => absurd h (by decide))⟩
        · intro vals x hb hf
          simp only [fillS, List.getD_cons_succ, List.getD_cons_zero, Act.put, List.setIfInBounds_toArray, List.set_cons_zero, List.set_cons_succ]
          skip
          go_wp2
          exact ⟨rfl, rfl, Below.refl _ _, _, rfl, rfl, (fun h => absurd h (by decide))⟩
        · intro vals x hb hf
          simp only [fillS, List.getD_cons_succ, List.getD_cons_zero, Act.put, List.setIfInBounds_toArray, List.set_cons_zero, List.set_cons_succ]
          have h2 : vals 2 = ptV l := hf.1
          rw [h2]
          have h3 : vals 3 = .int .i64 k := hf.2.1
          rw [h3]
          have hbx : Below w.heap.size w x := B1.trans (hb.mono B1.size)
          go_wp2_with (go_at_call 48; (with_reducible refine Calls.mono (kL.out _) ?_); rintro e y ⟨rfl, hB⟩)
          exact ⟨rfl, rfl, hB, _, rfl, rfl, (fun h => absurd h (by decide))⟩
        · intro vals x hb hf
          simp only [fillS, List.getD_cons_succ, List.getD_cons_zero, Act.put, List.setIfInBounds_toArray, List.set_cons_zero, List.set_cons_succ]
          have h0 : vals 0 = cavV c := hf.1
          rw [h0]
          have h1 : vals 1 = stV s := hf.2.1
          rw [h1]
          have h4 : vals 4 = opV ox := hf.2.2.1
          rw [h4]
          have hbx : Below w.heap.size w x := B1.trans (hb.mono B1.size)
          go_wp2_with (go_at_call 21; (with_reducible refine Calls.mono (kD.out _) ?_); rintro e y ⟨rfl, hB⟩)
          exact ⟨rfl, rfl, hB, _, rfl, rfl, (fun h => absurd h (by decide))⟩
        · intro vals x hb hf
          simp only [fillS, List.getD_cons_succ, List.getD_cons_zero, Act.put, List.setIfInBounds_toArray, List.set_cons_zero, List.set_cons_succ]
          have h5 : vals 5 = .tuple #[stV n, outV q, .bool b] := hf.1
          rw [h5]
          skip
          go_wp2
          exact ⟨rfl, rfl, Below.refl _ _, _, rfl, rfl, (fun h => absurd h (by decide))⟩
        · intro vals x hb hf
          simp only [fillS, List.getD_cons_succ, List.getD_cons_zero, Act.put, List.setIfInBounds_toArray, List.set_cons_zero, List.set_cons_succ]
          have h6 : vals 6 = .tuple #[stV n, outV q, .bool b] := hf.1
          rw [h6]
          skip
          go_wp2
          exact ⟨rfl, rfl, Below.refl _ _, _, rfl, rfl, (fun h => absurd h (by decide))⟩
        · intro vals x hb hf
          simp only [fillS, List.getD_cons_succ, List.getD_cons_zero, Act.put, List.setIfInBounds_toArray, List.set_cons_zero, List.set_cons_succ]
          have h6 : vals 6 = .tuple #[stV n, outV q, .bool b] := hf.1
          rw [h6]
          skip
          go_wp2
          exact ⟨rfl, rfl, Below.refl _ _, _, rfl, rfl, (fun h => absurd h (by decide))⟩
        · intro vals x hb hf
          simp only [fillS, List.getD_cons_succ, List.getD_cons_zero, Act.put, List.setIfInBounds_toArray, List.set_cons_zero, List.set_cons_succ]
          have h6 : vals 6 = .tuple #[stV n, outV q, .bool b] := hf.1
          rw [h6]
          skip
          go_wp2
          exact ⟨rfl, rfl, Below.refl _ _, _, rfl, rfl, (fun h => absurd h (by decide))⟩
        · intro vals x hb hf
          simp only [fillS, List.getD_cons_succ, List.getD_cons_zero, Act.put, List.setIfInBounds_toArray, List.set_cons_zero, List.set_cons_succ]
          go_wp2
          exact ⟨rfl, rfl, (Below.refl _ _).alloc (Nat.le_refl _) _, _, rfl, ⟨_, rfl, hb.size, World.alloc_heap_new _ _⟩, fun _ => rfl⟩
        · intro vals x hb hf
          simp only [fillS, List.getD_cons_succ, List.getD_cons_zero, Act.put, List.setIfInBounds_toArray, List.set_cons_zero, List.set_cons_succ]
          go_wp2
          exact ⟨rfl, rfl, (Below.refl _ _).alloc (Nat.le_refl _) _, _, rfl, ⟨_, rfl, hb.size, World.alloc_heap_new _ _⟩, fun _ => rfl⟩
      · intro j hj o ho vals x hb hf
        rcases List.mem_cons.1 hj with rfl | hj
        · obtain rfl := Option.some.inj ho
          simp only [fillS, List.getD_cons_succ, List.getD_cons_zero, Act.put, List.setIfInBounds_toArray, List.set_cons_zero, List.set_cons_succ]
          have h6 : vals 6 = .tuple #[stV n, outV q, .bool b] := hf.1
          rw [h6]
          exact ⟨_, .inl ⟨rfl, fun w => rfl⟩, rfl, (fun h => absurd h (by decide))⟩
        · obtain rfl : j = 9 := by simpa using hj
          obtain rfl := Option.some.inj ho
          simp only [fillS, List.getD_cons_succ, List.getD_cons_zero, Act.put, List.setIfInBounds_toArray, List.set_cons_zero, List.set_cons_succ]
          have h6 : vals 6 = .tuple #[stV n, outV q, .bool b] := hf.1
          rw [h6]
          exact ⟨_, .inl ⟨rfl, fun w => rfl⟩, rfl, (fun h => absurd h (by decide))⟩
      · intro vals x hb hf hp
        have hrange : List.range 12 = [0, 1, 2, 3, 4, 5, 6, 7, 8, 9, 10, 11] := by rfl
        rw [hrange]
        simp only [fillS, List.getD_cons_succ, List.getD_cons_zero, Act.put, List.setIfInBounds_toArray, List.set_cons_zero, List.set_cons_succ]
        have h0 : vals 0 = cavV c := hf 0 (by omega)
        have h1 : vals 1 = stV s := hf 1 (by omega)
        have h2 : vals 2 = ptV l := hf 2 (by omega)
        have h3 : vals 3 = .int .i64 k := hf 3 (by omega)
        have h4 : vals 4 = opV ox := hf 4 (by omega)
        have h5 : vals 5 = .tuple #[stV n, outV q, .bool b] := hf 5 (by omega)
        have h6 : vals 6 = .tuple #[stV n, outV q, .bool b] := hf 6 (by omega)
        have h7 : vals 7 = stV n := hf 7 (by omega)
        have h8 : vals 8 = outV q := hf 8 (by omega)
        have h9 : vals 9 = .bool b := hf 9 (by omega)
        obtain ⟨blk_y, hv_y, l_y, A_y⟩ : NewAt wr.heap.size #[.int .i64 0, .int .i64 0, .int .i64 0, .int .i64 0, .int .i64 0, .int .i64 0, .int .i64 0, .int .i64 0] 28 (vals 10) x := hf 10 (by omega)
        obtain ⟨blk_yq, hv_yq, l_yq, A_yq⟩ : NewAt wr.heap.size #[.int .i64 0, .int .i64 0, .int .i64 0, .int .i64 0, .int .i64 0, .int .i64 0] 35 (vals 11) x := hf 11 (by omega)
        have ne_y_yq : (blk_y : Nat) ≠ blk_yq := by
          intro h
          have h1 := hp 10 11 (by omega) (by omega) (by omega) rfl rfl
          rw [hv_y, hv_yq, h] at h1
          exact h1 rfl
        have ne_yq_y := Ne.symm ne_y_yq
        rw [h0, h1, h2, h3, h4, h5, h6, h7, h8, h9, hv_y, hv_yq]
        clear h0 h1 h2 h3 h4 h5 h6 h7 h8 h9 hv_y hv_yq hf hp hrange
        have A_c := (hb.block _ z1_c).trans R1_c.out
        have ne_c_y : (w.heap.size : Nat) ≠ blk_y := by have := z1_c; omega
        have ne_c_yq : (w.heap.size : Nat) ≠ blk_yq := by have := z1_c; omega
        replace A_c := Lib.hid A_c
        have A_s := (hb.block _ z1_s).trans R1_s.out
        have ne_s_y : (W1.heap.size : Nat) ≠ blk_y := by have := z1_s; omega
        have ne_s_yq : (W1.heap.size : Nat) ≠ blk_yq := by have := z1_s; omega
        replace A_s := Lib.hid A_s
        have A_l := (hb.block _ z1_l).trans R1_l.out
        have ne_l_y : (W2.heap.size : Nat) ≠ blk_y := by have := z1_l; omega
        have ne_l_yq : (W2.heap.size : Nat) ≠ blk_yq := by have := z1_l; omega
        replace A_l := Lib.hid A_l
        have B2 : Below w.heap.size w x := B1.trans (hb.mono B1.size)
        have hLw := B1.size
        have le_y : w.heap.size ≤ blk_y := by omega
        obtain ⟨p_y_0, p_y_1, p_y_2, p_y_3, p_y_4, p_y_5, p_y_6, p_y_7⟩ := rc8 A_y
        obtain ⟨g_y_0, g_y_1, g_y_2, g_y_3, g_y_4, g_y_5, g_y_6, g_y_7⟩ := rf8 A_y
        replace A_y := Lib.hid A_y
        have le_yq : w.heap.size ≤ blk_yq := by omega
        obtain ⟨p_yq_0, p_yq_1, p_yq_2, p_yq_3, p_yq_4, p_yq_5⟩ := rc6 A_yq
        obtain ⟨g_yq_0, g_yq_1, g_yq_2, g_yq_3, g_yq_4, g_yq_5⟩ := rf6 A_yq
        replace A_yq := Lib.hid A_yq
        go_wp2
        refine NoPanic.normal ?_
        generalize hV2 : World.setCell _ ⟨blk_yq, 5, none⟩ _ = M2
        have C_c : M2.heap[w.heap.size]? = some (.cells #[.int .i64 c.vlo, .int .i64 c.vhi, .int .i64 c.least, .int .i64 c.most, .int .i64 c.f0, .int .i64 c.f1, .int .i64 c.h0, .int .i64 c.h1, .int .i64 c.rock, .int .i64 c.plo, .int .i64 c.phi] 26 (0, 0)) := by rw [← hV2]; have h2 := (set_far (n := blk_yq) 5 (.int .i64 q.whi) ne_c_yq (set_far (n := blk_yq) 4 (.int .i64 q.wlo) ne_c_yq (set_far (n := blk_yq) 3 (.int .i64 q.yhi) ne_c_yq (set_far (n := blk_yq) 2 (.int .i64 q.ylo) ne_c_yq (set_far (n := blk_yq) 1 (.int .i64 q.ghi) ne_c_yq (set_far (n := blk_yq) 0 (.int .i64 q.glo) ne_c_yq (set_far (n := blk_y) 7 (.int .i64 n.whi) ne_c_y (set_far (n := blk_y) 6 (.int .i64 n.wlo) ne_c_y (set_far (n := blk_y) 5 (.int .i64 n.thi) ne_c_y (set_far (n := blk_y) 4 (.int .i64 n.tlo) ne_c_y (set_far (n := blk_y) 3 (.int .i64 n.yhi) ne_c_y (set_far (n := blk_y) 2 (.int .i64 n.ylo) ne_c_y (set_far (n := blk_y) 1 (.int .i64 n.ghi) ne_c_y (set_far (n := blk_y) 0 (.int .i64 n.glo) ne_c_y A_c.out)))))))))))))); exact h2
        have C_s : M2.heap[W1.heap.size]? = some (.cells #[.int .i64 s.glo, .int .i64 s.ghi, .int .i64 s.ylo, .int .i64 s.yhi, .int .i64 s.tlo, .int .i64 s.thi, .int .i64 s.wlo, .int .i64 s.whi] 28 (0, 0)) := by rw [← hV2]; have h2 := (set_far (n := blk_yq) 5 (.int .i64 q.whi) ne_s_yq (set_far (n := blk_yq) 4 (.int .i64 q.wlo) ne_s_yq (set_far (n := blk_yq) 3 (.int .i64 q.yhi) ne_s_yq (set_far (n := blk_yq) 2 (.int .i64 q.ylo) ne_s_yq (set_far (n := blk_yq) 1 (.int .i64 q.ghi) ne_s_yq (set_far (n := blk_yq) 0 (.int .i64 q.glo) ne_s_yq (set_far (n := blk_y) 7 (.int .i64 n.whi) ne_s_y (set_far (n := blk_y) 6 (.int .i64 n.wlo) ne_s_y (set_far (n := blk_y) 5 (.int .i64 n.thi) ne_s_y (set_far (n := blk_y) 4 (.int .i64 n.tlo) ne_s_y (set_far (n := blk_y) 3 (.int .i64 n.yhi) ne_s_y (set_far (n := blk_y) 2 (.int .i64 n.ylo) ne_s_y (set_far (n := blk_y) 1 (.int .i64 n.ghi) ne_s_y (set_far (n := blk_y) 0 (.int .i64 n.glo) ne_s_y A_s.out)))))))))))))); exact h2
        have C_l : M2.heap[W2.heap.size]? = some (.cells #[.int .i64 l.g, .int .i64 l.y, .int .i64 l.t, .int .i64 l.w] 31 (0, 0)) := by rw [← hV2]; have h2 := (set_far (n := blk_yq) 5 (.int .i64 q.whi) ne_l_yq (set_far (n := blk_yq) 4 (.int .i64 q.wlo) ne_l_yq (set_far (n := blk_yq) 3 (.int .i64 q.yhi) ne_l_yq (set_far (n := blk_yq) 2 (.int .i64 q.ylo) ne_l_yq (set_far (n := blk_yq) 1 (.int .i64 q.ghi) ne_l_yq (set_far (n := blk_yq) 0 (.int .i64 q.glo) ne_l_yq (set_far (n := blk_y) 7 (.int .i64 n.whi) ne_l_y (set_far (n := blk_y) 6 (.int .i64 n.wlo) ne_l_y (set_far (n := blk_y) 5 (.int .i64 n.thi) ne_l_y (set_far (n := blk_y) 4 (.int .i64 n.tlo) ne_l_y (set_far (n := blk_y) 3 (.int .i64 n.yhi) ne_l_y (set_far (n := blk_y) 2 (.int .i64 n.ylo) ne_l_y (set_far (n := blk_y) 1 (.int .i64 n.ghi) ne_l_y (set_far (n := blk_y) 0 (.int .i64 n.glo) ne_l_y A_l.out)))))))))))))); exact h2
        have C_y : M2.heap[blk_y]? = some (.cells #[.int .i64 n.glo, .int .i64 n.ghi, .int .i64 n.ylo, .int .i64 n.yhi, .int .i64 n.tlo, .int .i64 n.thi, .int .i64 n.wlo, .int .i64 n.whi] 28 (0, 0)) := by rw [← hV2]; have h2 := (set_far (n := blk_yq) 5 (.int .i64 q.whi) ne_y_yq (set_far (n := blk_yq) 4 (.int .i64 q.wlo) ne_y_yq (set_far (n := blk_yq) 3 (.int .i64 q.yhi) ne_y_yq (set_far (n := blk_yq) 2 (.int .i64 q.ylo) ne_y_yq (set_far (n := blk_yq) 1 (.int .i64 q.ghi) ne_y_yq (set_far (n := blk_yq) 0 (.int .i64 q.glo) ne_y_yq (set_one (set_one (set_one (set_one (set_one (set_one (set_one (set_one A_y.out 0 (.int .i64 n.glo)) 1 (.int .i64 n.ghi)) 2 (.int .i64 n.ylo)) 3 (.int .i64 n.yhi)) 4 (.int .i64 n.tlo)) 5 (.int .i64 n.thi)) 6 (.int .i64 n.wlo)) 7 (.int .i64 n.whi)))))))); simp only [List.setIfInBounds_toArray, List.set_cons_zero, List.set_cons_succ] at h2; exact h2
        have C_yq : M2.heap[blk_yq]? = some (.cells #[.int .i64 q.glo, .int .i64 q.ghi, .int .i64 q.ylo, .int .i64 q.yhi, .int .i64 q.wlo, .int .i64 q.whi] 35 (0, 0)) := by rw [← hV2]; have h2 := (set_one (set_one (set_one (set_one (set_one (set_one (set_far (n := blk_y) 7 (.int .i64 n.whi) ne_yq_y (set_far (n := blk_y) 6 (.int .i64 n.wlo) ne_yq_y (set_far (n := blk_y) 5 (.int .i64 n.thi) ne_yq_y (set_far (n := blk_y) 4 (.int .i64 n.tlo) ne_yq_y (set_far (n := blk_y) 3 (.int .i64 n.yhi) ne_yq_y (set_far (n := blk_y) 2 (.int .i64 n.ylo) ne_yq_y (set_far (n := blk_y) 1 (.int .i64 n.ghi) ne_yq_y (set_far (n := blk_y) 0 (.int .i64 n.glo) ne_yq_y A_yq.out)))))))) 0 (.int .i64 q.glo)) 1 (.int .i64 q.ghi)) 2 (.int .i64 q.ylo)) 3 (.int .i64 q.yhi)) 4 (.int .i64 q.wlo)) 5 (.int .i64 q.whi)); simp only [List.setIfInBounds_toArray, List.set_cons_zero, List.set_cons_succ] at h2; exact h2
        replace B2 : Below w.heap.size w M2 := by rw [← hV2]; exact (Below.setCell (p := ⟨blk_yq, 5, none⟩) (Below.setCell (p := ⟨blk_yq, 4, none⟩) (Below.setCell (p := ⟨blk_yq, 3, none⟩) (Below.setCell (p := ⟨blk_yq, 2, none⟩) (Below.setCell (p := ⟨blk_yq, 1, none⟩) (Below.setCell (p := ⟨blk_yq, 0, none⟩) (Below.setCell (p := ⟨blk_y, 7, none⟩) (Below.setCell (p := ⟨blk_y, 6, none⟩) (Below.setCell (p := ⟨blk_y, 5, none⟩) (Below.setCell (p := ⟨blk_y, 4, none⟩) (Below.setCell (p := ⟨blk_y, 3, none⟩) (Below.setCell (p := ⟨blk_y, 2, none⟩) (Below.setCell (p := ⟨blk_y, 1, none⟩) (Below.setCell (p := ⟨blk_y, 0, none⟩) B2 le_y (.int .i64 n.glo)) le_y (.int .i64 n.ghi)) le_y (.int .i64 n.ylo)) le_y (.int .i64 n.yhi)) le_y (.int .i64 n.tlo)) le_y (.int .i64 n.thi)) le_y (.int .i64 n.wlo)) le_y (.int .i64 n.whi)) le_yq (.int .i64 q.glo)) le_yq (.int .i64 q.ghi)) le_yq (.int .i64 q.ylo)) le_yq (.int .i64 q.yhi)) le_yq (.int .i64 q.wlo)) le_yq (.int .i64 q.whi))
        clear hV2 hb hLw l_y l_yq p_y_0 g_y_0 p_y_1 g_y_1 p_y_2 g_y_2 p_y_3 g_y_3 p_y_4 g_y_4 p_y_5 g_y_5 p_y_6 g_y_6 p_y_7 g_y_7 p_yq_0 g_yq_0 p_yq_1 g_yq_1 p_yq_2 g_yq_2 p_yq_3 g_yq_3 p_yq_4 g_yq_4 p_yq_5 g_yq_5
        replace A_c := C_c
        clear C_c
        replace A_s := C_s
        clear C_s
        replace A_l := C_l
        clear C_l
        replace A_y := C_y
        clear C_y
        replace A_yq := C_yq
        clear C_yq
        have z2_c := (Array.getElem?_eq_some_iff.1 A_c).1
        have z2_s := (Array.getElem?_eq_some_iff.1 A_s).1
        have z2_l := (Array.getElem?_eq_some_iff.1 A_l).1
        have z2_y := (Array.getElem?_eq_some_iff.1 A_y).1
        have z2_yq := (Array.getElem?_eq_some_iff.1 A_yq).1
        obtain ⟨q2_c_0, q2_c_1, q2_c_2, q2_c_3, q2_c_4, q2_c_5, q2_c_6, q2_c_7, q2_c_8, q2_c_9, q2_c_10⟩ := rc11 A_c
        have R2_c := Lib.hid A_c
        clear A_c
        have R2_s := Lib.hid A_s
        clear A_s
        have R2_l := Lib.hid A_l
        clear A_l
        obtain ⟨q2_y_0, q2_y_1, q2_y_2, q2_y_3, q2_y_4, q2_y_5, q2_y_6, q2_y_7⟩ := rc8 A_y
        have R2_y := Lib.hid A_y
        clear A_y
        have R2_yq := Lib.hid A_yq
        clear A_yq
        have hgw2 := grow_cell M2
        cases b
        · skip
          have hval : (fun n : Nat => pureOp c s (lotsOp l (n : Int))) k = false := by
            show pureOp c s (lotsOp l (k : Int)) = false
            rw [hox.out]
            unfold pureOp
            rw [his.out]
            rfl
          go_wp2_with (fail)
          exact ⟨⟨k + 1, by omega, by omega, by go_num, Lib.hid (fun j h => by
              by_cases e : j = k
              · rw [e]; exact hval
              · exact hI.out j (by omega)), (Lib.hid ⟨R2_c.out, R2_s.out, R2_l.out, B2⟩)⟩, by simp [intOf]; omega⟩
        · skip
          have hn := kOk.out k n q hlt (by rw [hox.out]; exact his.out)
          cases hth : thin c n
          · skip
            have kT := Lib.hid (kTh.out n false hn hth)
            cases hri : rich c n
            · skip
              have kI := Lib.hid (kRi.out n false hn hri)
              have hval : (fun n : Nat => pureOp c s (lotsOp l (n : Int))) k = true := by
                show pureOp c s (lotsOp l (k : Int)) = true
                rw [hox.out]
                unfold pureOp
                rw [his.out]
                show (!thin c n && !rich c n) = true; rw [hth, hri]; rfl
              have hRk : R = (k : Int) := by
                rw [← hR.out]
                unfold purgeI
                rw [purgeOf_some (by omega) (fun j h => hI.out j h) hval]
              clear hn hth hri
              go_wp2_with (first | (go_at_call 85; (with_reducible refine Calls.mono (kT.out _) ?_); rintro e w1 ⟨rfl, hB⟩; (first | (obtain ⟨g, rfl⟩ := g.next hB) | (obtain ⟨g, rfl⟩ : ∃ g : Grow M2, w1 = g.x := ⟨⟨w1, hB⟩, rfl⟩)); clear hB) | (go_at_call 86; (with_reducible refine Calls.mono (kI.out _) ?_); rintro e w1 ⟨rfl, hB⟩; (first | (obtain ⟨g, rfl⟩ := g.next hB) | (obtain ⟨g, rfl⟩ : ∃ g : Grow M2, w1 = g.x := ⟨⟨w1, hB⟩, rfl⟩)); clear hB))
              go_ret
              exact ⟨by first | rfl | (rw [hRk]; rfl), B2.trans (g.h.mono B2.size)⟩
            · skip
              have kI := Lib.hid (kRi.out n true hn hri)
              have hval : (fun n : Nat => pureOp c s (lotsOp l (n : Int))) k = false := by
                show pureOp c s (lotsOp l (k : Int)) = false
                rw [hox.out]
                unfold pureOp
                rw [his.out]
                show (!thin c n && !rich c n) = false; rw [hth, hri]; rfl
              clear hn hth hri
              go_wp2_with (first | (go_at_call 85; (with_reducible refine Calls.mono (kT.out _) ?_); rintro e w1 ⟨rfl, hB⟩; (first | (obtain ⟨g, rfl⟩ := g.next hB) | (obtain ⟨g, rfl⟩ : ∃ g : Grow M2, w1 = g.x := ⟨⟨w1, hB⟩, rfl⟩)); clear hB) | (go_at_call 86; (with_reducible refine Calls.mono (kI.out _) ?_); rintro e w1 ⟨rfl, hB⟩; (first | (obtain ⟨g, rfl⟩ := g.next hB) | (obtain ⟨g, rfl⟩ : ∃ g : Grow M2, w1 = g.x := ⟨⟨w1, hB⟩, rfl⟩)); clear hB))
              clear q2_c_0 q2_c_1 q2_c_2 q2_c_3 q2_c_4 q2_c_5 q2_c_6 q2_c_7 q2_c_8 q2_c_9 q2_c_10 q2_y_0 q2_y_1 q2_y_2 q2_y_3 q2_y_4 q2_y_5 q2_y_6 q2_y_7
              clear hgw2
              obtain ⟨N3, hN3⟩ : ∃ V, g.x = V := ⟨_, rfl⟩
              have A_c : N3.heap[w.heap.size]? = some (.cells #[.int .i64 c.vlo, .int .i64 c.vhi, .int .i64 c.least, .int .i64 c.most, .int .i64 c.f0, .int .i64 c.f1, .int .i64 c.h0, .int .i64 c.h1, .int .i64 c.rock, .int .i64 c.plo, .int .i64 c.phi] 26 (0, 0)) := by rw [← hN3]; exact (g.h.block _ z2_c).trans R2_c.out
              have A_s : N3.heap[W1.heap.size]? = some (.cells #[.int .i64 s.glo, .int .i64 s.ghi, .int .i64 s.ylo, .int .i64 s.yhi, .int .i64 s.tlo, .int .i64 s.thi, .int .i64 s.wlo, .int .i64 s.whi] 28 (0, 0)) := by rw [← hN3]; exact (g.h.block _ z2_s).trans R2_s.out
              have A_l : N3.heap[W2.heap.size]? = some (.cells #[.int .i64 l.g, .int .i64 l.y, .int .i64 l.t, .int .i64 l.w] 31 (0, 0)) := by rw [← hN3]; exact (g.h.block _ z2_l).trans R2_l.out
              have A_y : N3.heap[blk_y]? = some (.cells #[.int .i64 n.glo, .int .i64 n.ghi, .int .i64 n.ylo, .int .i64 n.yhi, .int .i64 n.tlo, .int .i64 n.thi, .int .i64 n.wlo, .int .i64 n.whi] 28 (0, 0)) := by rw [← hN3]; exact (g.h.block _ z2_y).trans R2_y.out
              have A_yq : N3.heap[blk_yq]? = some (.cells #[.int .i64 q.glo, .int .i64 q.ghi, .int .i64 q.ylo, .int .i64 q.yhi, .int .i64 q.wlo, .int .i64 q.whi] 35 (0, 0)) := by rw [← hN3]; exact (g.h.block _ z2_yq).trans R2_yq.out
              have B3 : Below w.heap.size w N3 := by rw [← hN3]; exact B2.trans (g.h.mono B2.size)
              rw [hN3]
              clear hN3
              have z3_c := (Array.getElem?_eq_some_iff.1 A_c).1
              have z3_s := (Array.getElem?_eq_some_iff.1 A_s).1
              have z3_l := (Array.getElem?_eq_some_iff.1 A_l).1
              have z3_y := (Array.getElem?_eq_some_iff.1 A_y).1
              have z3_yq := (Array.getElem?_eq_some_iff.1 A_yq).1
              have R3_c := Lib.hid A_c
              clear A_c
              have R3_s := Lib.hid A_s
              clear A_s
              have R3_l := Lib.hid A_l
              clear A_l
              have R3_y := Lib.hid A_y
              clear A_y
              have R3_yq := Lib.hid A_yq
              clear A_yq
              have hgw3 := grow_cell N3
              exact ⟨⟨k + 1, by omega, by omega, by go_num, Lib.hid (fun j h => by
                  by_cases e : j = k
                  · rw [e]; exact hval
                  · exact hI.out j (by omega)), (Lib.hid ⟨R3_c.out, R3_s.out, R3_l.out, B3⟩)⟩, by simp [intOf]; omega⟩
          · skip
            have kT := Lib.hid (kTh.out n true hn hth)
            have hval : (fun n : Nat => pureOp c s (lotsOp l (n : Int))) k = false := by
              show pureOp c s (lotsOp l (k : Int)) = false
              rw [hox.out]
              unfold pureOp
              rw [his.out]
              show (!thin c n && !rich c n) = false; rw [hth]; rfl
            clear hn hth
            go_wp2_with (first | (go_at_call 85; (with_reducible refine Calls.mono (kT.out _) ?_); rintro e w1 ⟨rfl, hB⟩; (first | (obtain ⟨g, rfl⟩ := g.next hB) | (obtain ⟨g, rfl⟩ : ∃ g : Grow M2, w1 = g.x := ⟨⟨w1, hB⟩, rfl⟩)); clear hB))
            clear q2_c_0 q2_c_1 q2_c_2 q2_c_3 q2_c_4 q2_c_5 q2_c_6 q2_c_7 q2_c_8 q2_c_9 q2_c_10 q2_y_0 q2_y_1 q2_y_2 q2_y_3 q2_y_4 q2_y_5 q2_y_6 q2_y_7
            clear hgw2
            obtain ⟨N3, hN3⟩ : ∃ V, g.x = V := ⟨_, rfl⟩
            have A_c : N3.heap[w.heap.size]? = some (.cells #[.int .i64 c.vlo, .int .i64 c.vhi, .int .i64 c.least, .int .i64 c.most, .int .i64 c.f0, .int .i64 c.f1, .int .i64 c.h0, .int .i64 c.h1, .int .i64 c.rock, .int .i64 c.plo, .int .i64 c.phi] 26 (0, 0)) := by rw [← hN3]; exact (g.h.block _ z2_c).trans R2_c.out
            have A_s : N3.heap[W1.heap.size]? = some (.cells #[.int .i64 s.glo, .int .i64 s.ghi, .int .i64 s.ylo, .int .i64 s.yhi, .int .i64 s.tlo, .int .i64 s.thi, .int .i64 s.wlo, .int .i64 s.whi] 28 (0, 0)) := by rw [← hN3]; exact (g.h.block _ z2_s).trans R2_s.out
            have A_l : N3.heap[W2.heap.size]? = some (.cells #[.int .i64 l.g, .int .i64 l.y, .int .i64 l.t, .int .i64 l.w] 31 (0, 0)) := by rw [← hN3]; exact (g.h.block _ z2_l).trans R2_l.out
            have A_y : N3.heap[blk_y]? = some (.cells #[.int .i64 n.glo, .int .i64 n.ghi, .int .i64 n.ylo, .int .i64 n.yhi, .int .i64 n.tlo, .int .i64 n.thi, .int .i64 n.wlo, .int .i64 n.whi] 28 (0, 0)) := by rw [← hN3]; exact (g.h.block _ z2_y).trans R2_y.out
            have A_yq : N3.heap[blk_yq]? = some (.cells #[.int .i64 q.glo, .int .i64 q.ghi, .int .i64 q.ylo, .int .i64 q.yhi, .int .i64 q.wlo, .int .i64 q.whi] 35 (0, 0)) := by rw [← hN3]; exact (g.h.block _ z2_yq).trans R2_yq.out
            have B3 : Below w.heap.size w N3 := by rw [← hN3]; exact B2.trans (g.h.mono B2.size)
            rw [hN3]
            clear hN3
            have z3_c := (Array.getElem?_eq_some_iff.1 A_c).1
            have z3_s := (Array.getElem?_eq_some_iff.1 A_s).1
            have z3_l := (Array.getElem?_eq_some_iff.1 A_l).1
            have z3_y := (Array.getElem?_eq_some_iff.1 A_y).1
            have z3_yq := (Array.getElem?_eq_some_iff.1 A_yq).1
            have R3_c := Lib.hid A_c
            clear A_c
            have R3_s := Lib.hid A_s
            clear A_s
            have R3_l := Lib.hid A_l
            clear A_l
            have R3_y := Lib.hid A_y
            clear A_y
            have R3_yq := Lib.hid A_yq
            clear A_yq
            have hgw3 := grow_cell N3
            exact ⟨⟨k + 1, by omega, by omega, by go_num, Lib.hid (fun j h => by
                by_cases e : j = k
                · rw [e]; exact hval
                · exact hI.out j (by omega)), (Lib.hid ⟨R3_c.out, R3_s.out, R3_l.out, B3⟩)⟩, by simp [intOf]; omega⟩
    · obtain rfl : k = 101 := by omega
      have hRk : R = -1 := by
        rw [← hR.out]
        unfold purgeI
        rw [purgeOf_none (fun j h => hI.out j h)]
      go_wp2_with (fail)
      go_ret
      exact ⟨by first | rfl | (rw [hRk]; rfl), B1⟩

set_option maxRecDepth 100000 in
set_option maxHeartbeats 16000000 in
theorem refWorking (c : Cav) (s : St) (u : Int) (w : World) (hc : c.Ok) (hs : s.Ok) (hu : 1 ≤ u ∧ u ≤ 1000000) : Calls Try.prog 50 #[cavV c, stV s, .int .i64 u] w fun e w' => e = .returned (.int .i64 ((roomOf (fun n : Nat => fineOp c s (unitOp u (n : Int))) : Nat) : Int)) ∧ Below w.heap.size w w' := by
  obtain ⟨W1, hW1⟩ : ∃ W1, w.alloc (.cells #[.int .i64 c.vlo, .int .i64 c.vhi, .int .i64 c.least, .int .i64 c.most, .int .i64 c.f0, .int .i64 c.f1, .int .i64 c.h0, .int .i64 c.h1, .int .i64 c.rock, .int .i64 c.plo, .int .i64 c.phi] 26) = W1 := ⟨_, rfl⟩
  obtain ⟨e_c, b_c, s_c⟩ := boxed hW1
  obtain ⟨W, hW⟩ : ∃ W, W1.alloc (.cells #[.int .i64 s.glo, .int .i64 s.ghi, .int .i64 s.ylo, .int .i64 s.yhi, .int .i64 s.tlo, .int .i64 s.thi, .int .i64 s.wlo, .int .i64 s.whi] 28) = W := ⟨_, rfl⟩
  obtain ⟨e_s, b_s, s_s⟩ := boxed hW
  replace e_c := (b_s.block _ (Array.getElem?_eq_some_iff.1 e_c).1).trans e_c
  have B0 : Below w.heap.size w W := (b_c.trans (b_s.mono (by omega)))
  have z0_c := (Array.getElem?_eq_some_iff.1 e_c).1
  have z0_s := (Array.getElem?_eq_some_iff.1 e_s).1
  have le_c : w.heap.size ≤ w.heap.size := by omega
  have le_s : w.heap.size ≤ W1.heap.size := by omega
  clear s_c b_c s_s b_s
  obtain ⟨q0_c_0, q0_c_1, q0_c_2, q0_c_3, q0_c_4, q0_c_5, q0_c_6, q0_c_7, q0_c_8, q0_c_9, q0_c_10⟩ := rc11 e_c
  replace e_c := Lib.hid e_c
  obtain ⟨q0_s_0, q0_s_1, q0_s_2, q0_s_3, q0_s_4, q0_s_5, q0_s_6, q0_s_7⟩ := rc8 e_s
  replace e_s := Lib.hid e_s
  have hgw0 := grow_cell W
  obtain ⟨R, hR⟩ : ∃ r, roomOf (fun n : Nat => fineOp c s (unitOp u (n : Int))) = r := ⟨_, rfl⟩
  rw [hR]
  replace hR := Lib.hid hR
  have kDo : Hid (∀ k : Nat, k ≤ 100 → ∃ n q b, RefDo c s (unitOp u (k : Int)) n q b) := Lib.hid (fun k hk => refDoAll hc hs (unit_fit hu hk))
  have kOk : Hid (∀ (k : Nat) (n : St) (q : Out), k ≤ 100 → act c s (unitOp u (k : Int)) = some (n, q) → n.Ok) := Lib.hid (fun k n q hk h => act_ok_fit hc hs (unit_fit hu hk) h)
  have kSu : Hid (∀ n : St, n.Ok → ∀ w, Calls Try.prog 44 #[cavV c, stV n] w fun e w' => e = .returned (.int .i64 (sure c n)) ∧ Below w.heap.size w w') := Lib.hid (fun n hn w => refSure c n w hc hn)
  have kUn : Hid (∀ k : Nat, k ≤ 100 → IntKind.i64.wrap ((k : Int) * u) = (k : Int) * u) := Lib.hid (fun k hk => mul_in (by omega) (show 0 ≤ u ∧ u ≤ 1000000 by omega) (by decide))
  replace hu := Lib.hid hu
  replace hc := Lib.hid hc; replace hs := Lib.hid hs
  go_enter Try.func50, Try.ntmps50
  go_wp2
  clear q0_c_0 q0_c_1 q0_c_2 q0_c_3 q0_c_4 q0_c_5 q0_c_6 q0_c_7 q0_c_8 q0_c_9 q0_c_10 q0_s_0 q0_s_1 q0_s_2 q0_s_3 q0_s_4 q0_s_5 q0_s_6 q0_s_7
  clear hgw0
  go_loopw [7] (fun iv wr => ∃ k : Nat, 1 ≤ k ∧ k ≤ 101 ∧ iv = .int .i64 k ∧ Hid (∀ j : Nat, 0 < j → j < k → (fun n : Nat => fineOp c s (unitOp u (n : Int))) j = true) ∧ Hid (wr.heap[w.heap.size]? = some (.cells #[.int .i64 c.vlo, .int .i64 c.vhi, .int .i64 c.least, .int .i64 c.most, .int .i64 c.f0, .int .i64 c.f1, .int .i64 c.h0, .int .i64 c.h1, .int .i64 c.rock, .int .i64 c.plo, .int .i64 c.phi] 26 (0, 0)) ∧ wr.heap[W1.heap.size]? = some (.cells #[.int .i64 s.glo, .int .i64 s.ghi, .int .i64 s.ylo, .int .i64 s.yhi, .int .i64 s.tlo, .int .i64 s.thi, .int .i64 s.wlo, .int .i64 s.whi] 28 (0, 0)) ∧ Below w.heap.size w wr)) (fun iv _ => 101 - (intOf iv).toNat)
  case atStart => exact ⟨1, by omega, by omega, rfl, Lib.hid (fun j h h2 => by omega), (Lib.hid ⟨e_c.out, e_s.out, B0⟩)⟩
  case round =>
    obtain ⟨k, hk0, hk1, rfl, hI, hrows⟩ := hrel
    have hgw0 := grow_cell W
    obtain ⟨A_c, A_s, B1⟩ := hrows.out
    have z1_c := (Array.getElem?_eq_some_iff.1 A_c).1
    have z1_s := (Array.getElem?_eq_some_iff.1 A_s).1
    obtain ⟨q1_c_0, q1_c_1, q1_c_2, q1_c_3, q1_c_4, q1_c_5, q1_c_6, q1_c_7, q1_c_8, q1_c_9, q1_c_10⟩ := rc11 A_c
    have R1_c := Lib.hid A_c
    clear A_c
    obtain ⟨q1_s_0, q1_s_1, q1_s_2, q1_s_3, q1_s_4, q1_s_5, q1_s_6, q1_s_7⟩ := rc8 A_s
    have R1_s := Lib.hid A_s
    clear A_s
    have hgw1 := grow_cell wr
    by_cases hlt : k ≤ 100
    · have hki : (k : Int) ≤ 100 := by omega
      obtain ⟨n, q, b, hdo⟩ := kDo.out k hlt
      have hcal := hdo.calls; have his := hdo.is
      clear hdo
      have kD := Lib.hid hcal
      clear hcal
      replace his := Lib.hid his
      have wu := kUn.out k hlt
      obtain ⟨ox, hox⟩ : ∃ ox, unitOp u (k : Int) = ox := ⟨_, rfl⟩
      rw [hox] at kD his
      have hoxv : opV ox = .agg #[.int .i64 2, .int .i64 0, .int .i64 0, .int .i64 0, .int .i64 0, .int .i64 ((k : Int) * u), .int .i64 0, .int .i64 0, .int .i64 0, .int .i64 0] := by rw [← hox]; rfl
      rw [hoxv] at kD
      replace hoxv := Lib.hid hoxv
      replace hox := Lib.hid hox
      cases b
      · skip
        have hval : (fun n : Nat => fineOp c s (unitOp u (n : Int))) k = false := by
          show fineOp c s (unitOp u (k : Int)) = false
          rw [hox.out]
          unfold fineOp
          rw [his.out]
          rfl
        have hRk : R = k - 1 := by
          rw [← hR.out]
          exact roomOf_stop (by omega) (fun j h1 h2 => hI.out j h1 (by omega)) (by rw [show k - 1 + 1 = k by omega]; exact hval)
        have hwk : IntKind.i64.wrap ((k : Int) - 1) = (k : Int) - 1 := IntWalk.i64_in _ (by omega)
        go_wp2_with (first | (go_at_call 21; (with_reducible refine Calls.mono (kD.out _) ?_); rintro e w1 ⟨rfl, hB⟩; (first | (obtain ⟨g, rfl⟩ := g.next hB) | (obtain ⟨g, rfl⟩ : ∃ g : Grow wr, w1 = g.x := ⟨⟨w1, hB⟩, rfl⟩)); clear hB; have hld : ∀ (b o : Nat), b < wr.heap.size → ((g.x.alloc (.cells #[.int .i64 n.glo, .int .i64 n.ghi, .int .i64 n.ylo, .int .i64 n.yhi, .int .i64 n.tlo, .int .i64 n.thi, .int .i64 n.wlo, .int .i64 n.whi] 28)).alloc (.cells #[.int .i64 q.glo, .int .i64 q.ghi, .int .i64 q.ylo, .int .i64 q.yhi, .int .i64 q.wlo, .int .i64 q.whi] 35)).cell? ⟨b, o, none⟩ = wr.cell? ⟨b, o, none⟩ := below_cell ((g.h.alloc g.size (.cells #[.int .i64 n.glo, .int .i64 n.ghi, .int .i64 n.ylo, .int .i64 n.yhi, .int .i64 n.tlo, .int .i64 n.thi, .int .i64 n.wlo, .int .i64 n.whi] 28)).alloc (g.h.alloc g.size (.cells #[.int .i64 n.glo, .int .i64 n.ghi, .int .i64 n.ylo, .int .i64 n.yhi, .int .i64 n.tlo, .int .i64 n.thi, .int .i64 n.wlo, .int .i64 n.whi] 28)).size (.cells #[.int .i64 q.glo, .int .i64 q.ghi, .int .i64 q.ylo, .int .i64 q.yhi, .int .i64 q.wlo, .int .i64 q.whi] 35))))
        have hfin : Below w.heap.size w g.x := B1.trans (g.h.mono B1.size)
        go_ret
        exact ⟨by first | (show Ending.returned (Value.int IntKind.i64 ((k : Int) - 1)) = _; (try rw [hRk]); congr 2; omega), (hfin.alloc hfin.size _).alloc (hfin.alloc hfin.size _).size _⟩
      · skip
        go_wp2_with (first | (go_at_call 21; (with_reducible refine Calls.mono (kD.out _) ?_); rintro e w1 ⟨rfl, hB⟩; (first | (obtain ⟨g, rfl⟩ := g.next hB) | (obtain ⟨g, rfl⟩ : ∃ g : Grow wr, w1 = g.x := ⟨⟨w1, hB⟩, rfl⟩)); clear hB; have hld : ∀ (b o : Nat), b < wr.heap.size → ((g.x.alloc (.cells #[.int .i64 n.glo, .int .i64 n.ghi, .int .i64 n.ylo, .int .i64 n.yhi, .int .i64 n.tlo, .int .i64 n.thi, .int .i64 n.wlo, .int .i64 n.whi] 28)).alloc (.cells #[.int .i64 q.glo, .int .i64 q.ghi, .int .i64 q.ylo, .int .i64 q.yhi, .int .i64 q.wlo, .int .i64 q.whi] 35)).cell? ⟨b, o, none⟩ = wr.cell? ⟨b, o, none⟩ := below_cell ((g.h.alloc g.size (.cells #[.int .i64 n.glo, .int .i64 n.ghi, .int .i64 n.ylo, .int .i64 n.yhi, .int .i64 n.tlo, .int .i64 n.thi, .int .i64 n.wlo, .int .i64 n.whi] 28)).alloc (g.h.alloc g.size (.cells #[.int .i64 n.glo, .int .i64 n.ghi, .int .i64 n.ylo, .int .i64 n.yhi, .int .i64 n.tlo, .int .i64 n.thi, .int .i64 n.wlo, .int .i64 n.whi] 28)).size (.cells #[.int .i64 q.glo, .int .i64 q.ghi, .int .i64 q.ylo, .int .i64 q.yhi, .int .i64 q.wlo, .int .i64 q.whi] 35))))
        clear hld
        clear q1_c_0 q1_c_1 q1_c_2 q1_c_3 q1_c_4 q1_c_5 q1_c_6 q1_c_7 q1_c_8 q1_c_9 q1_c_10 q1_s_0 q1_s_1 q1_s_2 q1_s_3 q1_s_4 q1_s_5 q1_s_6 q1_s_7
        clear hgw1
        have szo2 := B1.size
        have gz2 := g.size
        have A_c : g.x.heap[w.heap.size]? = some (.cells #[.int .i64 c.vlo, .int .i64 c.vhi, .int .i64 c.least, .int .i64 c.most, .int .i64 c.f0, .int .i64 c.f1, .int .i64 c.h0, .int .i64 c.h1, .int .i64 c.rock, .int .i64 c.plo, .int .i64 c.phi] 26 (0, 0)) := (g.h.block _ z1_c).trans R1_c.out
        have A_s : g.x.heap[W1.heap.size]? = some (.cells #[.int .i64 s.glo, .int .i64 s.ghi, .int .i64 s.ylo, .int .i64 s.yhi, .int .i64 s.tlo, .int .i64 s.thi, .int .i64 s.wlo, .int .i64 s.whi] 28 (0, 0)) := (g.h.block _ z1_s).trans R1_s.out
        obtain ⟨U2_y, hU2_y⟩ : ∃ Uw, g.x.alloc (.cells #[.int .i64 n.glo, .int .i64 n.ghi, .int .i64 n.ylo, .int .i64 n.yhi, .int .i64 n.tlo, .int .i64 n.thi, .int .i64 n.wlo, .int .i64 n.whi] 28) = Uw := ⟨_, rfl⟩
        obtain ⟨A_y, b_y, s_y⟩ := boxed hU2_y
        rw [hU2_y]
        replace A_c := (b_y.block _ (Array.getElem?_eq_some_iff.1 A_c).1).trans A_c
        replace A_s := (b_y.block _ (Array.getElem?_eq_some_iff.1 A_s).1).trans A_s
        obtain ⟨blk_y, hb_y⟩ : ∃ b, g.x.heap.size = b := ⟨_, rfl⟩
        rw [hb_y] at A_y
        try rw [hb_y]
        obtain ⟨U2_yq, hU2_yq⟩ : ∃ Uw, U2_y.alloc (.cells #[.int .i64 q.glo, .int .i64 q.ghi, .int .i64 q.ylo, .int .i64 q.yhi, .int .i64 q.wlo, .int .i64 q.whi] 35) = Uw := ⟨_, rfl⟩
        obtain ⟨A_yq, b_yq, s_yq⟩ := boxed hU2_yq
        rw [hU2_yq]
        replace A_c := (b_yq.block _ (Array.getElem?_eq_some_iff.1 A_c).1).trans A_c
        replace A_s := (b_yq.block _ (Array.getElem?_eq_some_iff.1 A_s).1).trans A_s
        replace A_y := (b_yq.block _ (Array.getElem?_eq_some_iff.1 A_y).1).trans A_y
        obtain ⟨blk_yq, hb_yq⟩ : ∃ b, U2_y.heap.size = b := ⟨_, rfl⟩
        rw [hb_yq] at A_yq
        have hp_yq : blk_y + 1 = blk_yq := by omega
        try rw [hp_yq]
        have B2 : Below w.heap.size w U2_yq := (((B1.trans (g.h.mono B1.size)).trans (b_y.mono (B1.trans (g.h.mono B1.size)).size)).trans (b_yq.mono ((B1.trans (g.h.mono B1.size)).trans (b_y.mono (B1.trans (g.h.mono B1.size)).size)).size))
        have le_y : w.heap.size ≤ blk_y := by omega
        have le_yq : w.heap.size ≤ blk_yq := by omega
        have z2_c := (Array.getElem?_eq_some_iff.1 A_c).1
        have z2_s := (Array.getElem?_eq_some_iff.1 A_s).1
        have z2_y := (Array.getElem?_eq_some_iff.1 A_y).1
        have z2_yq := (Array.getElem?_eq_some_iff.1 A_yq).1
        clear hb_y b_y s_y hU2_y hb_yq b_yq s_yq hU2_yq hp_yq
        obtain ⟨q2_c_0, q2_c_1, q2_c_2, q2_c_3, q2_c_4, q2_c_5, q2_c_6, q2_c_7, q2_c_8, q2_c_9, q2_c_10⟩ := rc11 A_c
        have R2_c := Lib.hid A_c
        clear A_c
        have R2_s := Lib.hid A_s
        clear A_s
        obtain ⟨q2_y_0, q2_y_1, q2_y_2, q2_y_3, q2_y_4, q2_y_5, q2_y_6, q2_y_7⟩ := rc8 A_y
        have R2_y := Lib.hid A_y
        clear A_y
        have R2_yq := Lib.hid A_yq
        clear A_yq
        have hgw2 := grow_cell U2_yq
        have hn := kOk.out k n q hlt (by rw [hox.out]; exact his.out)
        have kS := Lib.hid (kSu.out n hn)
        clear hn
        by_cases hsu : sure c n = 1
        · skip
          have hval : (fun n : Nat => fineOp c s (unitOp u (n : Int))) k = true := by
            show fineOp c s (unitOp u (k : Int)) = true
            rw [hox.out]
            unfold fineOp
            rw [his.out]
            show decide (sure c n = 1) = true; rw [hsu]; rfl
          rw [hsu] at kS
          clear hsu
          go_wp2_with (first | (go_at_call 44; (with_reducible refine Calls.mono (kS.out _) ?_); rintro e w1 ⟨rfl, hB⟩; (first | (obtain ⟨g, rfl⟩ := g.next hB) | (obtain ⟨g, rfl⟩ : ∃ g : Grow U2_yq, w1 = g.x := ⟨⟨w1, hB⟩, rfl⟩)); clear hB))
          clear q2_c_0 q2_c_1 q2_c_2 q2_c_3 q2_c_4 q2_c_5 q2_c_6 q2_c_7 q2_c_8 q2_c_9 q2_c_10 q2_y_0 q2_y_1 q2_y_2 q2_y_3 q2_y_4 q2_y_5 q2_y_6 q2_y_7
          clear hgw2
          obtain ⟨N3, hN3⟩ : ∃ V, g.x = V := ⟨_, rfl⟩
          have A_c : N3.heap[w.heap.size]? = some (.cells #[.int .i64 c.vlo, .int .i64 c.vhi, .int .i64 c.least, .int .i64 c.most, .int .i64 c.f0, .int .i64 c.f1, .int .i64 c.h0, .int .i64 c.h1, .int .i64 c.rock, .int .i64 c.plo, .int .i64 c.phi] 26 (0, 0)) := by rw [← hN3]; exact (g.h.block _ z2_c).trans R2_c.out
          have A_s : N3.heap[W1.heap.size]? = some (.cells #[.int .i64 s.glo, .int .i64 s.ghi, .int .i64 s.ylo, .int .i64 s.yhi, .int .i64 s.tlo, .int .i64 s.thi, .int .i64 s.wlo, .int .i64 s.whi] 28 (0, 0)) := by rw [← hN3]; exact (g.h.block _ z2_s).trans R2_s.out
          have A_y : N3.heap[blk_y]? = some (.cells #[.int .i64 n.glo, .int .i64 n.ghi, .int .i64 n.ylo, .int .i64 n.yhi, .int .i64 n.tlo, .int .i64 n.thi, .int .i64 n.wlo, .int .i64 n.whi] 28 (0, 0)) := by rw [← hN3]; exact (g.h.block _ z2_y).trans R2_y.out
          have A_yq : N3.heap[blk_yq]? = some (.cells #[.int .i64 q.glo, .int .i64 q.ghi, .int .i64 q.ylo, .int .i64 q.yhi, .int .i64 q.wlo, .int .i64 q.whi] 35 (0, 0)) := by rw [← hN3]; exact (g.h.block _ z2_yq).trans R2_yq.out
          have B3 : Below w.heap.size w N3 := by rw [← hN3]; exact B2.trans (g.h.mono B2.size)
          rw [hN3]
          clear hN3
          have z3_c := (Array.getElem?_eq_some_iff.1 A_c).1
          have z3_s := (Array.getElem?_eq_some_iff.1 A_s).1
          have z3_y := (Array.getElem?_eq_some_iff.1 A_y).1
          have z3_yq := (Array.getElem?_eq_some_iff.1 A_yq).1
          have R3_c := Lib.hid A_c
          clear A_c
          have R3_s := Lib.hid A_s
          clear A_s
          have R3_y := Lib.hid A_y
          clear A_y
          have R3_yq := Lib.hid A_yq
          clear A_yq
          have hgw3 := grow_cell N3
          exact ⟨⟨k + 1, by omega, by omega, by go_num, Lib.hid (fun j h h2 => by
              by_cases e : j = k
              · rw [e]; exact hval
              · exact hI.out j h (by omega)), (Lib.hid ⟨R3_c.out, R3_s.out, B3⟩)⟩, by simp [intOf]; omega⟩
        · skip
          have hval : (fun n : Nat => fineOp c s (unitOp u (n : Int))) k = false := by
            show fineOp c s (unitOp u (k : Int)) = false
            rw [hox.out]
            unfold fineOp
            rw [his.out]
            show decide (sure c n = 1) = false; exact decide_eq_false hsu
          have hRk : R = k - 1 := by
            rw [← hR.out]
            exact roomOf_stop (by omega) (fun j h1 h2 => hI.out j h1 (by omega)) (by rw [show k - 1 + 1 = k by omega]; exact hval)
          have hwk : IntKind.i64.wrap ((k : Int) - 1) = (k : Int) - 1 := IntWalk.i64_in _ (by omega)
          generalize sure c n = su at *
          have hsb : (su == 1) = false := by simpa using hsu
          go_wp2_with (first | (go_at_call 44; (with_reducible refine Calls.mono (kS.out _) ?_); rintro e w1 ⟨rfl, hB⟩; (first | (obtain ⟨g, rfl⟩ := g.next hB) | (obtain ⟨g, rfl⟩ : ∃ g : Grow U2_yq, w1 = g.x := ⟨⟨w1, hB⟩, rfl⟩)); clear hB))
          go_ret
          exact ⟨by first | (show Ending.returned (Value.int IntKind.i64 ((k : Int) - 1)) = _; (try rw [hRk]); congr 2; omega), B2.trans (g.h.mono B2.size)⟩
    · obtain rfl : k = 101 := by omega
      have hRk : R = 100 := by
        rw [← hR.out]
        exact roomOf_all (fun j h1 h2 => hI.out j h1 (by omega))
      go_wp2_with (fail)
      go_ret
      exact ⟨by first | rfl | (rw [hRk]; rfl), B1⟩

end Go.Proofs.Ytgmbolagciaenaa
