/- Gas: walks: the document's states behind operations. -/
import Derived.Test.YtgmbolagciaenaaStm
import Derived.Test.YtgmbolagciaenaaGln
import Derived.Test.YtgmbolagciaenaaRda
set_option linter.unusedVariables false
set_option linter.unusedSimpArgs false
namespace Go.Proofs.Ytgmbolagciaenaa
open Go.RowKit Go.Sd Gas
set_option maxRecDepth 100000 in
set_option maxHeartbeats 16000000 in
theorem refSteps {lv : Value} {c : Cav} {s : St} {xs : List Gas.Op} (w : World) (hl : OpsAt w lv xs) (hc : c.Ok) (hs : s.Ok) (ho : opsB xs = true) (hsh : xs.length ≤ 20) :
    Calls Try.prog 32 #[cavV c, stV s, lv] w fun e w' => (∃ v, e = .returned (.tuple #[v, .int .i64 (steps c s xs).2]) ∧ StsAt w' v (steps c s xs).1) ∧ Below w.heap.size w w' := by
  have hl' := hl
  obtain ⟨a, cap, rfl, hm, hcl⟩ := hl'
  unfold maxLen at hm
  have hm' : xs.length ≤ 9223372036854775807 := by omega
  clear hm
  have hcW := Lib.hid hcl
  clear hcl
  obtain ⟨W1, hW1⟩ : ∃ W1, w.alloc (.cells #[.int .i64 c.vlo, .int .i64 c.vhi, .int .i64 c.least, .int .i64 c.most, .int .i64 c.f0, .int .i64 c.f1, .int .i64 c.h0, .int .i64 c.h1, .int .i64 c.rock, .int .i64 c.plo, .int .i64 c.phi] 26) = W1 := ⟨_, rfl⟩
  obtain ⟨e_c, b_c, s_c⟩ := boxed hW1
  obtain ⟨W, hW⟩ : ∃ W, W1.alloc (.cells #[.int .i64 s.glo, .int .i64 s.ghi, .int .i64 s.ylo, .int .i64 s.yhi, .int .i64 s.tlo, .int .i64 s.thi, .int .i64 s.wlo, .int .i64 s.whi] 28) = W := ⟨_, rfl⟩
  obtain ⟨e_s, b_s, s_s⟩ := boxed hW
  replace e_c := (b_s.block _ (Array.getElem?_eq_some_iff.1 e_c).1).trans e_c
  have B0 : Below w.heap.size w W := (b_c.trans (b_s.mono (by omega)))
  have z0_c := (Array.getElem?_eq_some_iff.1 e_c).1
  have z0_s := (Array.getElem?_eq_some_iff.1 e_s).1
  have ne_c_s : (w.heap.size : Nat) ≠ W1.heap.size := by omega
  have le_c : w.heap.size ≤ w.heap.size := by omega
  have ne_s_c : (W1.heap.size : Nat) ≠ w.heap.size := by omega
  have le_s : w.heap.size ≤ W1.heap.size := by omega
  clear s_c b_c s_s b_s
  obtain ⟨q0_c_0, q0_c_1, q0_c_2, q0_c_3, q0_c_4, q0_c_5, q0_c_6, q0_c_7, q0_c_8, q0_c_9, q0_c_10⟩ := rc11 e_c
  replace e_c := Lib.hid e_c
  obtain ⟨q0_s_0, q0_s_1, q0_s_2, q0_s_3, q0_s_4, q0_s_5, q0_s_6, q0_s_7⟩ := rc8 e_s
  obtain ⟨f0_s_0, f0_s_1, f0_s_2, f0_s_3, f0_s_4, f0_s_5, f0_s_6, f0_s_7⟩ := rf8 e_s
  replace e_s := Lib.hid e_s
  have hgw0 := grow_cell W
  have hBW := B0
  obtain ⟨R, hR⟩ : ∃ R, steps c s xs = R := ⟨_, rfl⟩
  rw [hR]
  replace hc := Lib.hid hc; replace ho := Lib.hid ho
  have hstart : Hid (stepsFrom c (xs.drop 0) s [] 0 = R ∧ s.Ok ∧ ([] : List St).length = 0) := Lib.hid ⟨hR, hs, rfl⟩
  clear hs hR hl
  go_enter Try.func32, Try.ntmps32
  go_wp2
  go_loopw [8, 9] (fun ov iv wr => ∃ (k : Nat) (z : St) (acc : List St), k ≤ xs.length ∧ iv = .int .i64 k ∧ Hid (stepsFrom c (xs.drop k) z acc k = R ∧ z.Ok ∧ acc.length = k) ∧ Hid (OwnSts W.heap.size wr ov acc) ∧ Hid (W.heap.size ≤ wr.heap.size) ∧ Hid (wr.heap[w.heap.size]? = some (.cells #[.int .i64 c.vlo, .int .i64 c.vhi, .int .i64 c.least, .int .i64 c.most, .int .i64 c.f0, .int .i64 c.f1, .int .i64 c.h0, .int .i64 c.h1, .int .i64 c.rock, .int .i64 c.plo, .int .i64 c.phi] 26 (0, 0)) ∧ wr.heap[W1.heap.size]? = some (.cells #[.int .i64 z.glo, .int .i64 z.ghi, .int .i64 z.ylo, .int .i64 z.yhi, .int .i64 z.tlo, .int .i64 z.thi, .int .i64 z.wlo, .int .i64 z.whi] 28 (0, 0)) ∧ Below w.heap.size w wr)) (fun _ iv _ => xs.length - (intOf iv).toNat)
  case atStart => exact ⟨0, s, [], by omega, rfl, hstart, Lib.hid (OwnSt.nil _ _ _ _ _), Lib.hid (Nat.le_refl _), (Lib.hid ⟨e_c.out, e_s.out, B0⟩)⟩
  case round =>
    clear hstart
    clear q0_c_0 q0_c_1 q0_c_2 q0_c_3 q0_c_4 q0_c_5 q0_c_6 q0_c_7 q0_c_8 q0_c_9 q0_c_10 q0_s_0 f0_s_0 q0_s_1 f0_s_1 q0_s_2 f0_s_2 q0_s_3 f0_s_3 q0_s_4 f0_s_4 q0_s_5 f0_s_5 q0_s_6 f0_s_6 q0_s_7 f0_s_7
    clear hgw0
    obtain ⟨k, z, acc, hk, rfl, hI, hO, hWr, hrows⟩ := hrel
    have hgw0 := grow_cell W
    obtain ⟨A_c, A_s, B1⟩ := hrows.out
    have z1_c := (Array.getElem?_eq_some_iff.1 A_c).1
    have z1_s := (Array.getElem?_eq_some_iff.1 A_s).1
    obtain ⟨q1_c_0, q1_c_1, q1_c_2, q1_c_3, q1_c_4, q1_c_5, q1_c_6, q1_c_7, q1_c_8, q1_c_9, q1_c_10⟩ := rc11 A_c
    have R1_c := Lib.hid A_c
    clear A_c
    obtain ⟨q1_s_0, q1_s_1, q1_s_2, q1_s_3, q1_s_4, q1_s_5, q1_s_6, q1_s_7⟩ := rc8 A_s
    obtain ⟨f1_s_0, f1_s_1, f1_s_2, f1_s_3, f1_s_4, f1_s_5, f1_s_6, f1_s_7⟩ := rf8 A_s
    have R1_s := Lib.hid A_s
    clear A_s
    have hgw1 := grow_cell wr
    by_cases hlt : k < xs.length
    · skip
      have hki : (k : Int) < (xs.length : Int) := by omega
      obtain ⟨b, off, rfl, hbl, hce⟩ := hcW.out (by omega)
      obtain ⟨c0, c1, c2, c3, c4, c5, c6, c7, c8, c9⟩ := (hce k hlt).mono B1
      clear hce
      have zb := World.block_lt_of_cell? _ ⟨b, _, none⟩ c0
      simp only at zb
      have hok : (theOp xs k).ok = true := opsB_iff.1 ho.out k hlt
      obtain ⟨hI1, hzok, hacc⟩ := hI.out
      have hoi := Op.ok_is hok
      obtain ⟨n, q, bb, hdo⟩ := refDoAll hc.out hzok hoi.fit
      have kD := Lib.hid hdo.calls
      have his := hdo.is
      clear hdo
      have hst : Hid (bb = false → R = (acc, (k : Int))) := Lib.hid (fun hb => by
        rw [← hI1]; refine steps_stop hlt ?_
        rw [his, hb]; rfl)
      have hsn : Hid (bb = true → stepsFrom c (xs.drop (k + 1)) n (acc ++ [n]) (k + 1) = R ∧ n.Ok ∧ (acc ++ [n]).length = k + 1) := Lib.hid (fun hb => by
        rw [hb] at his
        refine ⟨?_, act_ok hc.out hzok hoi his, by rw [List.length_append, hacc]; rfl⟩
        rw [← hI1]; exact (steps_next hlt his).symm)
      clear his hok hoi hzok hI1 hI
      generalize theOp xs k = ox at *
      obtain ⟨oa, oc, rfl⟩ := hO.out.slice
      have hlt' := Lib.hid hO.out.lt
      have hlen : acc.length ≤ 1000000 := by omega
      have hacc' := Lib.hid hacc
      clear hacc
      have hne_c : (Value.slice oa acc.length oc).ownBlock ≠ some (w.heap.size) := fun e => by have := (hlt'.out _ e).1; omega
      have hne_s : (Value.slice oa acc.length oc).ownBlock ≠ some (W1.heap.size) := fun e => by have := (hlt'.out _ e).1; omega
      go_wp2_with (fail)
      clear q1_c_0 q1_c_1 q1_c_2 q1_c_3 q1_c_4 q1_c_5 q1_c_6 q1_c_7 q1_c_8 q1_c_9 q1_c_10 q1_s_0 f1_s_0 q1_s_1 f1_s_1 q1_s_2 f1_s_2 q1_s_3 f1_s_3 q1_s_4 f1_s_4 q1_s_5 f1_s_5 q1_s_6 f1_s_6 q1_s_7 f1_s_7
      clear hgw1
      refine wp_region_noPanic ?_
      refine wp_region_locN 13 40 [9, 10] [20, 21, 22, 23, 24, 25, 26, 19, 27, 28, 29, 10, 11] [[], [], [], [], [2, 3], [4], [0, 1, 5], [6], [7], [7], [7], [], []] [IsV (cavV c), IsV (stV z), IsV (.slice (some ⟨b, off, none⟩) xs.length cap), IsV (.int .i64 k), IsV (.pointer (some ⟨b, off + k * 10, none⟩)), IsV (opV ox), IsV (.tuple #[stV n, outV q, .bool bb]), IsV (.tuple #[stV n, outV q, .bool bb]), IsV (stV n), IsV (outV q), IsV (.bool bb), NewAt wr.heap.size #[.int .i64 0, .int .i64 0, .int .i64 0, .int .i64 0, .int .i64 0, .int .i64 0, .int .i64 0, .int .i64 0] 28, NewAt wr.heap.size #[.int .i64 0, .int .i64 0, .int .i64 0, .int .i64 0, .int .i64 0, .int .i64 0] 35] [11, 12] (by kernel_rfl) (by kernel_rfl) (by kernel_rfl) (by kernel_rfl) (by kernel_rfl) (by kernel_rfl) rfl (fun _ _ _ _ h => h) ?_ ?_ ?_ ?_ ?_
      · exact List.forall_mem_cons.2 ⟨pers_v _, List.forall_mem_cons.2 ⟨pers_v _, List.forall_mem_cons.2 ⟨pers_v _, List.forall_mem_cons.2 ⟨pers_v _, List.forall_mem_cons.2 ⟨pers_v _, List.forall_mem_cons.2 ⟨pers_v _, List.forall_mem_cons.2 ⟨pers_v _, List.forall_mem_cons.2 ⟨pers_v _, List.forall_mem_cons.2 ⟨pers_v _, List.forall_mem_cons.2 ⟨pers_v _, List.forall_mem_cons.2 ⟨pers_v _, List.forall_mem_cons.2 ⟨pers_new _ _ _, List.forall_mem_cons.2 ⟨pers_new _ _ _, fun f h => by cases h⟩⟩⟩⟩⟩⟩⟩⟩⟩⟩⟩⟩⟩
      · intro k hk u x hu
        rcases List.mem_cons.1 hk with rfl | hk
        · exact NewAt.isNew (show NewAt _ _ _ u x from hu)
        · obtain rfl : k = 12 := by simpa using hk
          exact NewAt.isNew (show NewAt _ _ _ u x from hu)
      · refine ⟨?_, ?_, ?_, ?_, ?_, ?_, ?_, ?_, ?_, ?_, ?_, ?_, ?_, trivial⟩
        · intro vals x hb hf
          simp only [fillS, List.getD_cons_succ, List.getD_cons_zero, Act.put, List.setIfInBounds_toArray, List.set_cons_zero, List.set_cons_succ]
          have ar := (hb.block _ z1_c).trans R1_c.out
          obtain ⟨y0, y1, y2, y3, y4, y5, y6, y7, y8, y9, y10⟩ := rc11 ar
          clear ar
          go_wp2
          exact ⟨rfl, rfl, Below.refl _ _, _, rfl, rfl, (fun h => absurd h (by decide))⟩
        · intro vals x hb hf
          simp only [fillS, List.getD_cons_succ, List.getD_cons_zero, Act.put, List.setIfInBounds_toArray, List.set_cons_zero, List.set_cons_succ]
          have ar := (hb.block _ z1_s).trans R1_s.out
          obtain ⟨y0, y1, y2, y3, y4, y5, y6, y7⟩ := rc8 ar
          clear ar
          go_wp2
          exact ⟨rfl, rfl, Below.refl _ _, _, rfl, rfl, (fun h => absurd h (by decide))⟩
        · intro vals x hb hf
          simp only [fillS, List.getD_cons_succ, List.getD_cons_zero, Act.put, List.setIfInBounds_toArray, List.set_cons_zero, List.set_cons_succ]
          skip
          go_wp2
          exact ⟨rfl, rfl, Below.refl _ _, _, rfl, rfl, (fun h => absurd h (by decide))⟩
        · intro vals x hb hf
          simp only [fillS, List.getD_cons_succ, List.getD_cons_zero, Act.put, List.setIfInBounds_toArray, List.set_cons_zero, List.set_cons_succ]
          skip
          go_wp2
          exact ⟨rfl, rfl, Below.refl _ _, _, rfl, rfl, (fun h => absurd h (by decide))⟩
        · intro vals x hb hf
          simp only [fillS, List.getD_cons_succ, List.getD_cons_zero, Act.put, List.setIfInBounds_toArray, List.set_cons_zero, List.set_cons_succ]
          have h2 : vals 2 = .slice (some ⟨b, off, none⟩) xs.length cap := hf.1
          rw [h2]
          have h3 : vals 3 = .int .i64 k := hf.2.1
          rw [h3]
          skip
          go_wp2
          exact ⟨rfl, rfl, Below.refl _ _, _, rfl, rfl, (fun h => absurd h (by decide))⟩
        · intro vals x hb hf
          simp only [fillS, List.getD_cons_succ, List.getD_cons_zero, Act.put, List.setIfInBounds_toArray, List.set_cons_zero, List.set_cons_succ]
          have h4 : vals 4 = .pointer (some ⟨b, off + k * 10, none⟩) := hf.1
          rw [h4]
          have y0 := kept_cell hb c0
          have y1 := kept_cell hb c1
          have y2 := kept_cell hb c2
          have y3 := kept_cell hb c3
          have y4 := kept_cell hb c4
          have y5 := kept_cell hb c5
          have y6 := kept_cell hb c6
          have y7 := kept_cell hb c7
          have y8 := kept_cell hb c8
          have y9 := kept_cell hb c9
          go_wp2
          exact ⟨rfl, rfl, Below.refl _ _, _, rfl, rfl, (fun h => absurd h (by decide))⟩
        · intro vals x hb hf
          simp only [fillS, List.getD_cons_succ, List.getD_cons_zero, Act.put, List.setIfInBounds_toArray, List.set_cons_zero, List.set_cons_succ]
          have h0 : vals 0 = cavV c := hf.1
          rw [h0]
          have h1 : vals 1 = stV z := hf.2.1
          rw [h1]
          have h5 : vals 5 = opV ox := hf.2.2.1
          rw [h5]
          have hbx : Below w.heap.size w x := B1.trans (hb.mono B1.size)
          go_wp2_with (go_at_call 21; (with_reducible refine Calls.mono (kD.out _) ?_); rintro e y ⟨rfl, hB⟩)
          exact ⟨rfl, rfl, hB, _, rfl, rfl, (fun h => absurd h (by decide))⟩
        · intro vals x hb hf
          simp only [fillS, List.getD_cons_succ, List.getD_cons_zero, Act.put, List.setIfInBounds_toArray, List.set_cons_zero, List.set_cons_succ]
          have h6 : vals 6 = .tuple #[stV n, outV q, .bool bb] := hf.1
          rw [h6]
          skip
          go_wp2
          exact ⟨rfl, rfl, Below.refl _ _, _, rfl, rfl, (fun h => absurd h (by decide))⟩
        · intro vals x hb hf
          simp only [fillS, List.getD_cons_succ, List.getD_cons_zero, Act.put, List.setIfInBounds_toArray, List.set_cons_zero, List.set_cons_succ]
          have h7 : vals 7 = .tuple #[stV n, outV q, .bool bb] := hf.1
          rw [h7]
          skip
          go_wp2
          exact ⟨rfl, rfl, Below.refl _ _, _, rfl, rfl, (fun h => absurd h (by decide))⟩
        · intro vals x hb hf
          simp only [fillS, List.getD_cons_succ, List.getD_cons_zero, Act.put, List.setIfInBounds_toArray, List.set_cons_zero, List.set_cons_succ]
          have h7 : vals 7 = .tuple #[stV n, outV q, .bool bb] := hf.1
          rw [h7]
          skip
          go_wp2
          exact ⟨rfl, rfl, Below.refl _ _, _, rfl, rfl, (fun h => absurd h (by decide))⟩
        · intro vals x hb hf
          simp only [fillS, List.getD_cons_succ, List.getD_cons_zero, Act.put, List.setIfInBounds_toArray, List.set_cons_zero, List.set_cons_succ]
          have h7 : vals 7 = .tuple #[stV n, outV q, .bool bb] := hf.1
          rw [h7]
          skip
          go_wp2
          exact ⟨rfl, rfl, Below.refl _ _, _, rfl, rfl, (fun h => absurd h (by decide))⟩
        · intro vals x hb hf
          simp only [fillS, List.getD_cons_succ, List.getD_cons_zero, Act.put, List.setIfInBounds_toArray, List.set_cons_zero, List.set_cons_succ]
          go_wp2
          exact ⟨rfl, rfl, (Below.refl _ _).alloc (Nat.le_refl _) _, _, rfl, ⟨_, rfl, hb.size, World.alloc_heap_new _ _⟩, fun _ => rfl⟩
        · intro vals x hb hf
          simp only [fillS, List.getD_cons_succ, List.getD_cons_zero, Act.put, List.setIfInBounds_toArray, List.set_cons_zero, List.set_cons_succ]
          go_wp2
          exact ⟨rfl, rfl, (Below.refl _ _).alloc (Nat.le_refl _) _, _, rfl, ⟨_, rfl, hb.size, World.alloc_heap_new _ _⟩, fun _ => rfl⟩
      · intro j hj o ho vals x hb hf
        rcases List.mem_cons.1 hj with rfl | hj
        · obtain rfl := Option.some.inj ho
          simp only [fillS, List.getD_cons_succ, List.getD_cons_zero, Act.put, List.setIfInBounds_toArray, List.set_cons_zero, List.set_cons_succ]
          have h7 : vals 7 = .tuple #[stV n, outV q, .bool bb] := hf.1
          rw [h7]
          exact ⟨_, .inl ⟨rfl, fun w => rfl⟩, rfl, (fun h => absurd h (by decide))⟩
        · obtain rfl : j = 10 := by simpa using hj
          obtain rfl := Option.some.inj ho
          simp only [fillS, List.getD_cons_succ, List.getD_cons_zero, Act.put, List.setIfInBounds_toArray, List.set_cons_zero, List.set_cons_succ]
          have h7 : vals 7 = .tuple #[stV n, outV q, .bool bb] := hf.1
          rw [h7]
          exact ⟨_, .inl ⟨rfl, fun w => rfl⟩, rfl, (fun h => absurd h (by decide))⟩
      · intro vals x hb hf hp
        have hrange : List.range 13 = [0, 1, 2, 3, 4, 5, 6, 7, 8, 9, 10, 11, 12] := by rfl
        rw [hrange]
        simp only [fillS, List.getD_cons_succ, List.getD_cons_zero, Act.put, List.setIfInBounds_toArray, List.set_cons_zero, List.set_cons_succ]
        have h0 : vals 0 = cavV c := hf 0 (by omega)
        have h1 : vals 1 = stV z := hf 1 (by omega)
        have h2 : vals 2 = .slice (some ⟨b, off, none⟩) xs.length cap := hf 2 (by omega)
        have h3 : vals 3 = .int .i64 k := hf 3 (by omega)
        have h4 : vals 4 = .pointer (some ⟨b, off + k * 10, none⟩) := hf 4 (by omega)
        have h5 : vals 5 = opV ox := hf 5 (by omega)
        have h6 : vals 6 = .tuple #[stV n, outV q, .bool bb] := hf 6 (by omega)
        have h7 : vals 7 = .tuple #[stV n, outV q, .bool bb] := hf 7 (by omega)
        have h8 : vals 8 = stV n := hf 8 (by omega)
        have h9 : vals 9 = outV q := hf 9 (by omega)
        have h10 : vals 10 = .bool bb := hf 10 (by omega)
        obtain ⟨blk_y, hv_y, l_y, A_y⟩ : NewAt wr.heap.size #[.int .i64 0, .int .i64 0, .int .i64 0, .int .i64 0, .int .i64 0, .int .i64 0, .int .i64 0, .int .i64 0] 28 (vals 11) x := hf 11 (by omega)
        obtain ⟨blk_yq, hv_yq, l_yq, A_yq⟩ : NewAt wr.heap.size #[.int .i64 0, .int .i64 0, .int .i64 0, .int .i64 0, .int .i64 0, .int .i64 0] 35 (vals 12) x := hf 12 (by omega)
        have ne_y_yq : (blk_y : Nat) ≠ blk_yq := by
          intro h
          have h1 := hp 11 12 (by omega) (by omega) (by omega) rfl rfl
          rw [hv_y, hv_yq, h] at h1
          exact h1 rfl
        have ne_yq_y := Ne.symm ne_y_yq
        rw [h0, h1, h2, h3, h4, h5, h6, h7, h8, h9, h10, hv_y, hv_yq]
        clear h0 h1 h2 h3 h4 h5 h6 h7 h8 h9 h10 hv_y hv_yq hf hp hrange
        have A_c := (hb.block _ z1_c).trans R1_c.out
        have ne_c_y : (w.heap.size : Nat) ≠ blk_y := by have := z1_c; omega
        have ne_c_yq : (w.heap.size : Nat) ≠ blk_yq := by have := z1_c; omega
        replace A_c := Lib.hid A_c
        have A_s := (hb.block _ z1_s).trans R1_s.out
        have ne_s_y : (W1.heap.size : Nat) ≠ blk_y := by have := z1_s; omega
        have ne_s_yq : (W1.heap.size : Nat) ≠ blk_yq := by have := z1_s; omega
        replace A_s := Lib.hid A_s
        have B2 : Below w.heap.size w x := B1.trans (hb.mono B1.size)
        have hLw := B1.size
        have le_y : w.heap.size ≤ blk_y := by omega
        obtain ⟨p_y_0, p_y_1, p_y_2, p_y_3, p_y_4, p_y_5, p_y_6, p_y_7⟩ := rc8 A_y
        obtain ⟨g_y_0, g_y_1, g_y_2, g_y_3, g_y_4, g_y_5, g_y_6, g_y_7⟩ := rf8 A_y
        replace A_y := Lib.hid A_y
        have le_yq : w.heap.size ≤ blk_yq := by omega
        obtain ⟨p_yq_0, p_yq_1, p_yq_2, p_yq_3, p_yq_4, p_yq_5⟩ := rc6 A_yq
        obtain ⟨g_yq_0, g_yq_1, g_yq_2, g_yq_3, g_yq_4, g_yq_5⟩ := rf6 A_yq
        replace A_yq := Lib.hid A_yq
        go_wp2
        refine NoPanic.normal ?_
        generalize hV2 : World.setCell _ ⟨blk_yq, 5, none⟩ _ = M2
        have C_c : M2.heap[w.heap.size]? = some (.cells #[.int .i64 c.vlo, .int .i64 c.vhi, .int .i64 c.least, .int .i64 c.most, .int .i64 c.f0, .int .i64 c.f1, .int .i64 c.h0, .int .i64 c.h1, .int .i64 c.rock, .int .i64 c.plo, .int .i64 c.phi] 26 (0, 0)) := by rw [← hV2]; have h2 := (set_far (n := blk_yq) 5 (.int .i64 q.whi) ne_c_yq (set_far (n := blk_yq) 4 (.int .i64 q.wlo) ne_c_yq (set_far (n := blk_yq) 3 (.int .i64 q.yhi) ne_c_yq (set_far (n := blk_yq) 2 (.int .i64 q.ylo) ne_c_yq (set_far (n := blk_yq) 1 (.int .i64 q.ghi) ne_c_yq (set_far (n := blk_yq) 0 (.int .i64 q.glo) ne_c_yq (set_far (n := blk_y) 7 (.int .i64 n.whi) ne_c_y (set_far (n := blk_y) 6 (.int .i64 n.wlo) ne_c_y (set_far (n := blk_y) 5 (.int .i64 n.thi) ne_c_y (set_far (n := blk_y) 4 (.int .i64 n.tlo) ne_c_y (set_far (n := blk_y) 3 (.int .i64 n.yhi) ne_c_y (set_far (n := blk_y) 2 (.int .i64 n.ylo) ne_c_y (set_far (n := blk_y) 1 (.int .i64 n.ghi) ne_c_y (set_far (n := blk_y) 0 (.int .i64 n.glo) ne_c_y A_c.out)))))))))))))); exact h2
        have C_s : M2.heap[W1.heap.size]? = some (.cells #[.int .i64 z.glo, .int .i64 z.ghi, .int .i64 z.ylo, .int .i64 z.yhi, .int .i64 z.tlo, .int .i64 z.thi, .int .i64 z.wlo, .int .i64 z.whi] 28 (0, 0)) := by rw [← hV2]; have h2 := (set_far (n := blk_yq) 5 (.int .i64 q.whi) ne_s_yq (set_far (n := blk_yq) 4 (.int .i64 q.wlo) ne_s_yq (set_far (n := blk_yq) 3 (.int .i64 q.yhi) ne_s_yq (set_far (n := blk_yq) 2 (.int .i64 q.ylo) ne_s_yq (set_far (n := blk_yq) 1 (.int .i64 q.ghi) ne_s_yq (set_far (n := blk_yq) 0 (.int .i64 q.glo) ne_s_yq (set_far (n := blk_y) 7 (.int .i64 n.whi) ne_s_y (set_far (n := blk_y) 6 (.int .i64 n.wlo) ne_s_y (set_far (n := blk_y) 5 (.int .i64 n.thi) ne_s_y (set_far (n := blk_y) 4 (.int .i64 n.tlo) ne_s_y (set_far (n := blk_y) 3 (.int .i64 n.yhi) ne_s_y (set_far (n := blk_y) 2 (.int .i64 n.ylo) ne_s_y (set_far (n := blk_y) 1 (.int .i64 n.ghi) ne_s_y (set_far (n := blk_y) 0 (.int .i64 n.glo) ne_s_y A_s.out)))))))))))))); exact h2
        have C_y : M2.heap[blk_y]? = some (.cells #[.int .i64 n.glo, .int .i64 n.ghi, .int .i64 n.ylo, .int .i64 n.yhi, .int .i64 n.tlo, .int .i64 n.thi, .int .i64 n.wlo, .int .i64 n.whi] 28 (0, 0)) := by rw [← hV2]; have h2 := (set_far (n := blk_yq) 5 (.int .i64 q.whi) ne_y_yq (set_far (n := blk_yq) 4 (.int .i64 q.wlo) ne_y_yq (set_far (n := blk_yq) 3 (.int .i64 q.yhi) ne_y_yq (set_far (n := blk_yq) 2 (.int .i64 q.ylo) ne_y_yq (set_far (n := blk_yq) 1 (.int .i64 q.ghi) ne_y_yq (set_far (n := blk_yq) 0 (.int .i64 q.glo) ne_y_yq (set_one (set_one (set_one (set_one (set_one (set_one (set_one (set_one A_y.out 0 (.int .i64 n.glo)) 1 (.int .i64 n.ghi)) 2 (.int .i64 n.ylo)) 3 (.int .i64 n.yhi)) 4 (.int .i64 n.tlo)) 5 (.int .i64 n.thi)) 6 (.int .i64 n.wlo)) 7 (.int .i64 n.whi)))))))); simp only [List.setIfInBounds_toArray, List.set_cons_zero, List.set_cons_succ] at h2; exact h2
        have C_yq : M2.heap[blk_yq]? = some (.cells #[.int .i64 q.glo, .int .i64 q.ghi, .int .i64 q.ylo, .int .i64 q.yhi, .int .i64 q.wlo, .int .i64 q.whi] 35 (0, 0)) := by rw [← hV2]; have h2 := (set_one (set_one (set_one (set_one (set_one (set_one (set_far (n := blk_y) 7 (.int .i64 n.whi) ne_yq_y (set_far (n := blk_y) 6 (.int .i64 n.wlo) ne_yq_y (set_far (n := blk_y) 5 (.int .i64 n.thi) ne_yq_y (set_far (n := blk_y) 4 (.int .i64 n.tlo) ne_yq_y (set_far (n := blk_y) 3 (.int .i64 n.yhi) ne_yq_y (set_far (n := blk_y) 2 (.int .i64 n.ylo) ne_yq_y (set_far (n := blk_y) 1 (.int .i64 n.ghi) ne_yq_y (set_far (n := blk_y) 0 (.int .i64 n.glo) ne_yq_y A_yq.out)))))))) 0 (.int .i64 q.glo)) 1 (.int .i64 q.ghi)) 2 (.int .i64 q.ylo)) 3 (.int .i64 q.yhi)) 4 (.int .i64 q.wlo)) 5 (.int .i64 q.whi)); simp only [List.setIfInBounds_toArray, List.set_cons_zero, List.set_cons_succ] at h2; exact h2
        replace B2 : Below w.heap.size w M2 := by rw [← hV2]; exact (Below.setCell (p := ⟨blk_yq, 5, none⟩) (Below.setCell (p := ⟨blk_yq, 4, none⟩) (Below.setCell (p := ⟨blk_yq, 3, none⟩) (Below.setCell (p := ⟨blk_yq, 2, none⟩) (Below.setCell (p := ⟨blk_yq, 1, none⟩) (Below.setCell (p := ⟨blk_yq, 0, none⟩) (Below.setCell (p := ⟨blk_y, 7, none⟩) (Below.setCell (p := ⟨blk_y, 6, none⟩) (Below.setCell (p := ⟨blk_y, 5, none⟩) (Below.setCell (p := ⟨blk_y, 4, none⟩) (Below.setCell (p := ⟨blk_y, 3, none⟩) (Below.setCell (p := ⟨blk_y, 2, none⟩) (Below.setCell (p := ⟨blk_y, 1, none⟩) (Below.setCell (p := ⟨blk_y, 0, none⟩) B2 le_y (.int .i64 n.glo)) le_y (.int .i64 n.ghi)) le_y (.int .i64 n.ylo)) le_y (.int .i64 n.yhi)) le_y (.int .i64 n.tlo)) le_y (.int .i64 n.thi)) le_y (.int .i64 n.wlo)) le_y (.int .i64 n.whi)) le_yq (.int .i64 q.glo)) le_yq (.int .i64 q.ghi)) le_yq (.int .i64 q.ylo)) le_yq (.int .i64 q.yhi)) le_yq (.int .i64 q.wlo)) le_yq (.int .i64 q.whi))
        have BK : Below wr.heap.size wr M2 := by rw [← hV2]; exact (Below.setCell (p := ⟨blk_yq, 5, none⟩) (Below.setCell (p := ⟨blk_yq, 4, none⟩) (Below.setCell (p := ⟨blk_yq, 3, none⟩) (Below.setCell (p := ⟨blk_yq, 2, none⟩) (Below.setCell (p := ⟨blk_yq, 1, none⟩) (Below.setCell (p := ⟨blk_yq, 0, none⟩) (Below.setCell (p := ⟨blk_y, 7, none⟩) (Below.setCell (p := ⟨blk_y, 6, none⟩) (Below.setCell (p := ⟨blk_y, 5, none⟩) (Below.setCell (p := ⟨blk_y, 4, none⟩) (Below.setCell (p := ⟨blk_y, 3, none⟩) (Below.setCell (p := ⟨blk_y, 2, none⟩) (Below.setCell (p := ⟨blk_y, 1, none⟩) (Below.setCell (p := ⟨blk_y, 0, none⟩) hb l_y (.int .i64 n.glo)) l_y (.int .i64 n.ghi)) l_y (.int .i64 n.ylo)) l_y (.int .i64 n.yhi)) l_y (.int .i64 n.tlo)) l_y (.int .i64 n.thi)) l_y (.int .i64 n.wlo)) l_y (.int .i64 n.whi)) l_yq (.int .i64 q.glo)) l_yq (.int .i64 q.ghi)) l_yq (.int .i64 q.ylo)) l_yq (.int .i64 q.yhi)) l_yq (.int .i64 q.wlo)) l_yq (.int .i64 q.whi))
        clear hV2 hb hLw l_y l_yq p_y_0 g_y_0 p_y_1 g_y_1 p_y_2 g_y_2 p_y_3 g_y_3 p_y_4 g_y_4 p_y_5 g_y_5 p_y_6 g_y_6 p_y_7 g_y_7 p_yq_0 g_yq_0 p_yq_1 g_yq_1 p_yq_2 g_yq_2 p_yq_3 g_yq_3 p_yq_4 g_yq_4 p_yq_5 g_yq_5
        replace A_c := C_c
        clear C_c
        replace A_s := C_s
        clear C_s
        replace A_y := C_y
        clear C_y
        replace A_yq := C_yq
        clear C_yq
        have z2_c := (Array.getElem?_eq_some_iff.1 A_c).1
        have z2_s := (Array.getElem?_eq_some_iff.1 A_s).1
        have z2_y := (Array.getElem?_eq_some_iff.1 A_y).1
        have z2_yq := (Array.getElem?_eq_some_iff.1 A_yq).1
        have R2_c := Lib.hid A_c
        clear A_c
        obtain ⟨q2_s_0, q2_s_1, q2_s_2, q2_s_3, q2_s_4, q2_s_5, q2_s_6, q2_s_7⟩ := rc8 A_s
        obtain ⟨f2_s_0, f2_s_1, f2_s_2, f2_s_3, f2_s_4, f2_s_5, f2_s_6, f2_s_7⟩ := rf8 A_s
        have R2_s := Lib.hid A_s
        clear A_s
        obtain ⟨q2_y_0, q2_y_1, q2_y_2, q2_y_3, q2_y_4, q2_y_5, q2_y_6, q2_y_7⟩ := rc8 A_y
        have R2_y := Lib.hid A_y
        clear A_y
        have R2_yq := Lib.hid A_yq
        clear A_yq
        have hgw2 := grow_cell M2
        clear c0 c1 c2 c3 c4 c5 c6 c7 c8 c9 zb kD
        replace hO := Lib.hid (hO.out.mono BK)
        clear hlt'
        have hlt' := Lib.hid hO.out.lt
        cases bb
        · skip
          obtain rfl := hst.out rfl
          go_wp2_with (fail)
          refine bodyPost_ret (v := .tuple #[.slice oa acc.length oc, .int .i64 k]) (by simp [results, Try.results32, go_sem, *]) rfl ⟨⟨_, rfl, own_sts hO.out⟩, B2⟩
        · skip
          replace hsn := Lib.hid (hsn.out rfl)
          clear hst
          have hsB : W1.heap.size < W.heap.size := z0_s
          have hWM : W.heap.size ≤ M2.heap.size := Nat.le_trans hWr.out BK.size
          go_wp2_with (at_builtin; generalize hV : World.setCell _ ⟨W1.heap.size, 7, none⟩ _ = V3; have hsz : V3.heap.size = M2.heap.size := (by rw [← hV]; simp [World.setCell]); have hoV : OwnSts W.heap.size V3 (.slice oa acc.length oc) acc := (by rw [← hV]; exact (OwnSt.cellset (OwnSt.cellset (OwnSt.cellset (OwnSt.cellset (OwnSt.cellset (OwnSt.cellset (OwnSt.cellset (OwnSt.cellset hO.out (p := ⟨W1.heap.size, 0, none⟩) hsB (.int .i64 n.glo)) (p := ⟨W1.heap.size, 1, none⟩) hsB (.int .i64 n.ghi)) (p := ⟨W1.heap.size, 2, none⟩) hsB (.int .i64 n.ylo)) (p := ⟨W1.heap.size, 3, none⟩) hsB (.int .i64 n.yhi)) (p := ⟨W1.heap.size, 4, none⟩) hsB (.int .i64 n.tlo)) (p := ⟨W1.heap.size, 5, none⟩) hsB (.int .i64 n.thi)) (p := ⟨W1.heap.size, 6, none⟩) hsB (.int .i64 n.wlo)) (p := ⟨W1.heap.size, 7, none⟩) hsB (.int .i64 n.whi))); have A_c : V3.heap[w.heap.size]? = some (.cells #[.int .i64 c.vlo, .int .i64 c.vhi, .int .i64 c.least, .int .i64 c.most, .int .i64 c.f0, .int .i64 c.f1, .int .i64 c.h0, .int .i64 c.h1, .int .i64 c.rock, .int .i64 c.plo, .int .i64 c.phi] 26 (0, 0)) := (by rw [← hV]; have h2 := (set_far (n := W1.heap.size) 7 (.int .i64 n.whi) ne_c_s (set_far (n := W1.heap.size) 6 (.int .i64 n.wlo) ne_c_s (set_far (n := W1.heap.size) 5 (.int .i64 n.thi) ne_c_s (set_far (n := W1.heap.size) 4 (.int .i64 n.tlo) ne_c_s (set_far (n := W1.heap.size) 3 (.int .i64 n.yhi) ne_c_s (set_far (n := W1.heap.size) 2 (.int .i64 n.ylo) ne_c_s (set_far (n := W1.heap.size) 1 (.int .i64 n.ghi) ne_c_s (set_far (n := W1.heap.size) 0 (.int .i64 n.glo) ne_c_s R2_c.out)))))))); exact h2); have A_s : V3.heap[W1.heap.size]? = some (.cells #[.int .i64 n.glo, .int .i64 n.ghi, .int .i64 n.ylo, .int .i64 n.yhi, .int .i64 n.tlo, .int .i64 n.thi, .int .i64 n.wlo, .int .i64 n.whi] 28 (0, 0)) := (by rw [← hV]; have h2 := (set_one (set_one (set_one (set_one (set_one (set_one (set_one (set_one R2_s.out 0 (.int .i64 n.glo)) 1 (.int .i64 n.ghi)) 2 (.int .i64 n.ylo)) 3 (.int .i64 n.yhi)) 4 (.int .i64 n.tlo)) 5 (.int .i64 n.thi)) 6 (.int .i64 n.wlo)) 7 (.int .i64 n.whi)); simp only [List.setIfInBounds_toArray, List.set_cons_zero, List.set_cons_succ] at h2; exact h2); have BE : Below w.heap.size w V3 := (by rw [← hV]; exact (Below.setCell (p := ⟨W1.heap.size, 7, none⟩) (Below.setCell (p := ⟨W1.heap.size, 6, none⟩) (Below.setCell (p := ⟨W1.heap.size, 5, none⟩) (Below.setCell (p := ⟨W1.heap.size, 4, none⟩) (Below.setCell (p := ⟨W1.heap.size, 3, none⟩) (Below.setCell (p := ⟨W1.heap.size, 2, none⟩) (Below.setCell (p := ⟨W1.heap.size, 1, none⟩) (Below.setCell (p := ⟨W1.heap.size, 0, none⟩) B2 le_s (.int .i64 n.glo)) le_s (.int .i64 n.ghi)) le_s (.int .i64 n.ylo)) le_s (.int .i64 n.yhi)) le_s (.int .i64 n.tlo)) le_s (.int .i64 n.thi)) le_s (.int .i64 n.wlo)) le_s (.int .i64 n.whi))); clear hV; rw [← hsz]; replace A_c := Lib.hid A_c; replace A_s := Lib.hid A_s; refine wpList_app_st (enc := stEnc) stEnc_len 60 28 _ 64 Try.underlying60 infoSt rfl (by omega) (by omega) stEnc_one (by rfl) _ _ (by rfl) W.heap.size V3 (.slice oa acc.length oc) acc n (by rfl) hoV (by rfl) hlen (by omega) ?_; intro v1 w1 ho1 hg1 hat1; obtain ⟨a1, c1', he1⟩ := ho1.slice; subst he1)
          replace A_c := (hg1.block _ (Array.getElem?_eq_some_iff.1 A_c.out).1 (Ne.symm hne_c)).trans A_c.out
          replace A_s := (hg1.block _ (Array.getElem?_eq_some_iff.1 A_s.out).1 (Ne.symm hne_s)).trans A_s.out
          replace BE := BE.grown hg1 BE.size (fun k e => Nat.le_trans hBW.size (hlt'.out k e).1)
          rw [List.length_append, List.length_singleton] at ho1
          exact ⟨⟨k + 1, n, acc ++ [n], by omega, by go_num, hsn, Lib.hid ho1, Lib.hid (by have := hg1.size; omega), Lib.hid ⟨A_c, A_s, BE⟩⟩, by simp [intOf]; omega⟩
    · obtain rfl : k = xs.length := by omega
      obtain ⟨hI1, -, -⟩ := hI.out
      rw [steps_end] at hI1
      subst hI1
      obtain ⟨oa, oc, rfl⟩ := hO.out.slice
      go_wp2_with (fail)
      refine bodyPost_ret (v := .tuple #[.slice oa acc.length oc, .int .i64 (-1)]) (by simp [results, Try.results32, go_sem, *]) rfl ⟨⟨_, rfl, own_sts hO.out⟩, B1⟩

end Go.Proofs.Ytgmbolagciaenaa
