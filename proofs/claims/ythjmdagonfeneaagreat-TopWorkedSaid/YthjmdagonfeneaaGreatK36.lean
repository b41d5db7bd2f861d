/- Laws and walks: GPg, GKf. -/
import Derived.WalkMore
import Derived.Test.YthjmdagonfeneaaGreatK35
set_option maxRecDepth 100000
set_option maxHeartbeats 16000000
set_option linter.unusedVariables false
set_option linter.unusedSimpArgs false
namespace Go.Proofs.YthjmdagonfeneaaGreat.G
open Go.RowKit Go.Sd Gas
structure DoesR (c : Cav) (s : St) (o : Gas.Op) (n : St) (q : Out) (b : Bool) : Prop where
 calls : ∀ w, Calls Tryz.prog 60 #[cavV c, stV s, opV o] w fun e w' => e = .returned (doV n q b) ∧ Below w.heap.size w w'
 is : act c s o = if b = true then some (n, q) else none
theorem doesAll {c : Cav} {s : St} {o : Gas.Op} (hc : c.Ok) (hs : s.Ok) (ho : o.Fit) : ∃ n q b, DoesR c s o n q b := by
 cases h : act c s o with
 | none => exact ⟨_, _, _, fun w => progDoesNone w hc hs ho h, by rw [h]; rfl⟩
 | some r =>
  obtain ⟨n, q⟩ := r
  exact ⟨n, q, true, fun w => progDoesSome w hc hs ho h, by rw [h]; rfl⟩
theorem progRoomF {bl : Nat} (l : Pt) (n : Int) (w : World) (hl : l.Ok) (hn : 0 ≤ n ∧ n ≤ 101) (e : w.heap[bl]? = some (.cells #[.int .i64 l.g, .int .i64 l.y, .int .i64 l.t, .int .i64 l.w] 35 (0, 0))) : Calls Tryz.prog 33 #[.int .i64 n, .pointer (some ⟨bl, 0, none⟩)] w fun e w' => e = .returned (opV (lotsOp l n)) ∧ Below w.heap.size w w' := by
 obtain ⟨W, hW⟩ : ∃ W, w.alloc (.cells #[.int .i64 0, .int .i64 0, .int .i64 0, .int .i64 0, .int .i64 0, .int .i64 0, .int .i64 0, .int .i64 0, .int .i64 0, .int .i64 0] 83) = W := ⟨_, rfl⟩
 obtain ⟨e_r, b_r, s_r⟩ := boxed hW
 have B0 : Below w.heap.size w W := b_r
 have z0_r := (zqo e_r)
 have le_r : w.heap.size ≤ w.heap.size := by omega
 clear s_r b_r
 obtain ⟨q0_r_0, q0_r_1, q0_r_2, q0_r_3, q0_r_4, q0_r_5, q0_r_6, q0_r_7, q0_r_8, q0_r_9⟩ := rc10 e_r
 obtain ⟨f0_r_0, f0_r_1, f0_r_2, f0_r_3, f0_r_4, f0_r_5, f0_r_6, f0_r_7, f0_r_8, f0_r_9⟩ := rf10 e_r
 replace e_r := Lib.hid e_r
 have hgw0 := grow_cell W
 have kL := Lib.hid (fun w => progLots l n w hl hn)
 have el := (B0.block _ (zqo e)).trans e
 obtain ⟨y0, y1, y2, y3⟩ := rc4 el
 have zl := (zqo el)
 clear el e hl hn
 generalize lotsOp l n = ox at *
 have hgf := grow_frozen W
 go_enter Tryz.func33, Tryz.ntmps33
 go_wp2_with (first | (go_at_call 34; (with_reducible refine Calls.mono (kL.out _) ?_); rintro e w1 ⟨rfl, hB⟩; (first | (obtain ⟨g, rfl⟩ := g.next hB) | (obtain ⟨g, rfl⟩ : ∃ g : Grow W, w1 = g.x := ⟨⟨w1, hB⟩, rfl⟩)); clear hB))
 refine bodyPost_ret (v := opV ox) (by simp [results, Tryz.results33, go_sem, *]) rfl ⟨rfl, ?_⟩
 have hfin : Below w.heap.size w g.x := B0.trans (g.h.mono B0.size)
 repeat' (first | (with_reducible exact hfin) | (with_reducible exact le_r) | (with_reducible refine Below.setCell ?_ ?_ _))
theorem progMostR {bl : Nat} (c : Cav) (s : St) (gx : Nat → Gas.Op) (w : World) (hc : c.Ok) (hs : s.Ok) (hfit : ∀ k : Nat, k ≤ 100 → (gx k).Fit) (hF : ∀ k : Nat, 0 < k → k ≤ 100 → ∀ w', Below w.heap.size w w' → Calls Tryz.prog 33 #[.int .i64 (k : Nat), .pointer (some ⟨bl, 0, none⟩)] w' fun e w'' => e = .returned (opV (gx k)) ∧ Below w'.heap.size w' w'') :
    Calls Tryz.prog 32 #[cavV c, stV s, .func (.func 33) #[] #[.pointer (some ⟨bl, 0, none⟩)]] w fun e w' => e = .returned (.int .i64 (roomOf (fun n : Nat => fineOp c s (gx n)) : Nat)) ∧ Below w.heap.size w w' := by
 obtain ⟨W1, hW1⟩ : ∃ W1, w.alloc (.cells #[.int .i64 c.vlo, .int .i64 c.vhi, .int .i64 c.least, .int .i64 c.most, .int .i64 c.f0, .int .i64 c.f1, .int .i64 c.h0, .int .i64 c.h1, .int .i64 c.rock, .int .i64 c.plo, .int .i64 c.phi] 89) = W1 := ⟨_, rfl⟩
 obtain ⟨e_x, b_x, s_x⟩ := boxed hW1
 obtain ⟨W, hW⟩ : ∃ W, W1.alloc (.cells #[.int .i64 s.glo, .int .i64 s.ghi, .int .i64 s.ylo, .int .i64 s.yhi, .int .i64 s.tlo, .int .i64 s.thi, .int .i64 s.wlo, .int .i64 s.whi] 33) = W := ⟨_, rfl⟩
 obtain ⟨e_s, b_s, s_s⟩ := boxed hW
 replace e_x := (b_s.block _ (zqo e_x)).trans e_x
 have B0 : Below w.heap.size w W := (b_x.trans (b_s.mono (by omega)))
 have z0_x := (zqo e_x)
 have z0_s := (zqo e_s)
 have le_x : w.heap.size ≤ w.heap.size := by omega
 have le_s : w.heap.size ≤ W1.heap.size := by omega
 clear s_x b_x s_s b_s
 obtain ⟨q0_x_0, q0_x_1, q0_x_2, q0_x_3, q0_x_4, q0_x_5, q0_x_6, q0_x_7, q0_x_8, q0_x_9, q0_x_10⟩ := rc11 e_x
 replace e_x := Lib.hid e_x
 obtain ⟨q0_s_0, q0_s_1, q0_s_2, q0_s_3, q0_s_4, q0_s_5, q0_s_6, q0_s_7⟩ := rc8 e_s
 replace e_s := Lib.hid e_s
 have hgw0 := grow_cell W
 have kDo : Hid (∀ k : Nat, k ≤ 100 → ∃ n q b, DoesR c s (gx k) n q b) := Lib.hid (fun k hk => doesAll hc hs (hfit k hk))
 have kOk : Hid (∀ (k : Nat) (n : St) (q : Out), k ≤ 100 → act c s (gx k) = some (n, q) → n.Ok) := Lib.hid (fun k n q hk h => act_ok_fit hc hs (hfit k hk) h)
 have kSu : Hid (∀ n : St, n.Ok → ∀ w, Calls Tryz.prog 66 #[cavV c, stV n] w fun e w' => e = .returned (.int .i64 (sure c n)) ∧ Below w.heap.size w w') := Lib.hid (fun n hn w => progRule c n w hc hn)
 obtain ⟨R, hR⟩ : ∃ r, roomOf (fun n : Nat => fineOp c s (gx n)) = r := ⟨_, rfl⟩
 rw [hR]
 replace hR := Lib.hid hR
 have en : ∀ args w, (callFunc 33 args).run Tryz.prog w = .ok (.enter 33 args) w := fun args w => by kernel_rfl
 have kF := Lib.hid hF
 clear hF hfit
 replace hc := Lib.hid hc; replace hs := Lib.hid hs
 go_enter Tryz.func32, Tryz.ntmps32
 go_wp2
 go_step3
 go_wp2
 go_step3
 go_wp2
 clear q0_x_0 q0_x_1 q0_x_2 q0_x_3 q0_x_4 q0_x_5 q0_x_6 q0_x_7 q0_x_8 q0_x_9 q0_x_10 q0_s_0 q0_s_1 q0_s_2 q0_s_3 q0_s_4 q0_s_5 q0_s_6 q0_s_7
 clear hgw0
 go_loopw [7, 12] (fun ov iv wr => ∃ k : Nat, k ≤ 100 ∧ iv = .int .i64 k ∧ ov = .int .i64 k ∧ Hid (∀ j : Nat, 0 < j → j ≤ k → fineOp c s (gx j) = true) ∧ Hid (wr.heap[w.heap.size]? = some (.cells #[.int .i64 c.vlo, .int .i64 c.vhi, .int .i64 c.least, .int .i64 c.most, .int .i64 c.f0, .int .i64 c.f1, .int .i64 c.h0, .int .i64 c.h1, .int .i64 c.rock, .int .i64 c.plo, .int .i64 c.phi] 89 (0, 0)) ∧ wr.heap[W1.heap.size]? = some (.cells #[.int .i64 s.glo, .int .i64 s.ghi, .int .i64 s.ylo, .int .i64 s.yhi, .int .i64 s.tlo, .int .i64 s.thi, .int .i64 s.wlo, .int .i64 s.whi] 33 (0, 0)) ∧ Below w.heap.size w wr)) (fun _ iv _ => 100 - (intOf iv).toNat)
 case atStart => exact ⟨0, by omega, rfl, rfl, Lib.hid (fun j h h2 => by omega), (Lib.hid ⟨e_x.out, e_s.out, B0⟩)⟩
 case round =>
  obtain ⟨k, hk1, rfl, rfl, hI, hrows⟩ := hrel
  have hgw0 := grow_cell W
  obtain ⟨A_x, A_s, B1⟩ := hrows.out
  have z1_x := (zqo A_x)
  have z1_s := (zqo A_s)
  obtain ⟨q1_x_0, q1_x_1, q1_x_2, q1_x_3, q1_x_4, q1_x_5, q1_x_6, q1_x_7, q1_x_8, q1_x_9, q1_x_10⟩ := rc11 A_x
  have R1_x := Lib.hid A_x
  clear A_x
  obtain ⟨q1_s_0, q1_s_1, q1_s_2, q1_s_3, q1_s_4, q1_s_5, q1_s_6, q1_s_7⟩ := rc8 A_s
  have R1_s := Lib.hid A_s
  clear A_s
  have hgw1 := grow_cell wr
  by_cases hlt : k < 100
  · have hki : (k : Int) < 100 := by omega
    obtain ⟨n, q, b, hdo⟩ := kDo.out (k + 1) (by omega)
    have hcal := hdo.calls; have his := hdo.is
    clear hdo
    have kD := Lib.hid hcal
    clear hcal
    replace his := Lib.hid his
    have kL := Lib.hid (kF.out (k + 1) (by omega) (by omega))
    have hsum : ((k + 1 : Nat) : Int) = (k : Int) + 1 := by omega
    rw [hsum] at kL
    clear hsum
    obtain ⟨ox, hox⟩ : ∃ ox, gx (k + 1) = ox := ⟨_, rfl⟩
    rw [hox] at kD his kL
    replace hox := Lib.hid hox
    have hw1 : IntKind.i64.wrap ((k : Int) + 1) = (k : Int) + 1 := IntWalk.i64_in _ (by omega)
    go_wp2_with (fail)
    clear q1_x_0 q1_x_1 q1_x_2 q1_x_3 q1_x_4 q1_x_5 q1_x_6 q1_x_7 q1_x_8 q1_x_9 q1_x_10 q1_s_0 q1_s_1 q1_s_2 q1_s_3 q1_s_4 q1_s_5 q1_s_6 q1_s_7
    clear hgw1
    refine wp_region_noPanic ?_
    refine wp_region_locN 13 38 [9, 10] [16, 17, 18, 19, 20, 21, 22, 15, 23, 24, 25, 9, 10] [[], [], [], [], [3], [2, 4], [0, 1, 5], [6], [7], [7], [7], [], []] [IsV (cavV c), IsV (stV s), IsV (.func (.func 33) #[] #[.pointer (some ⟨bl, 0, none⟩)]), IsV (.int .i64 k), IsV (.int .i64 ((k : Int) + 1)), IsV (opV ox), IsV (.tuple #[stV n, outV q, .bool b]), IsV (.tuple #[stV n, outV q, .bool b]), IsV (stV n), IsV (outV q), IsV (.bool b), NewAt wr.heap.size #[.int .i64 0, .int .i64 0, .int .i64 0, .int .i64 0, .int .i64 0, .int .i64 0, .int .i64 0, .int .i64 0] 33, NewAt wr.heap.size #[.int .i64 0, .int .i64 0, .int .i64 0, .int .i64 0, .int .i64 0, .int .i64 0] 76] [11, 12] (by kernel_rfl) (by kernel_rfl) (by kernel_rfl) (by kernel_rfl) (by kernel_rfl) (by kernel_rfl) rfl (fun _ _ _ _ h => h) ?_ ?_ ?_ ?_ ?_
    · exact List.forall_mem_cons.2 ⟨pers_v _, List.forall_mem_cons.2 ⟨pers_v _, List.forall_mem_cons.2 ⟨pers_v _, List.forall_mem_cons.2 ⟨pers_v _, List.forall_mem_cons.2 ⟨pers_v _, List.forall_mem_cons.2 ⟨pers_v _, List.forall_mem_cons.2 ⟨pers_v _, List.forall_mem_cons.2 ⟨pers_v _, List.forall_mem_cons.2 ⟨pers_v _, List.forall_mem_cons.2 ⟨pers_v _, List.forall_mem_cons.2 ⟨pers_v _, List.forall_mem_cons.2 ⟨pers_new _ _ _, List.forall_mem_cons.2 ⟨pers_new _ _ _, fun f h => by cases h⟩⟩⟩⟩⟩⟩⟩⟩⟩⟩⟩⟩⟩
    · intro k hk u x hu
      rcases List.mem_cons.1 hk with rfl | hk
      · exact NewAt.isNew (show NewAt _ _ _ u x from hu)
      · obtain rfl : k = 12 := by simpa using hk
        exact NewAt.isNew (show NewAt _ _ _ u x from hu)
    · refine ⟨?_, ?_, ?_, ?_, ?_, ?_, ?_, ?_, ?_, ?_, ?_, ?_, ?_, trivial⟩
      · intro vals x hb hf
        simp only [fillS, List.getD_cons_succ, List.getD_cons_zero, Act.put, List.setIfInBounds_toArray, List.set_cons_zero, List.set_cons_succ]
        have ar := (hb.block _ z1_x).trans R1_x.out
        obtain ⟨y0, y1, y2, y3, y4, y5, y6, y7, y8, y9, y10⟩ := rc11 ar
        clear ar
        go_wp2
        exact ⟨rfl, rfl, Below.refl _ _, _, rfl, rfl, (fun h => absurd h (by decide))⟩
      · intro vals x hb hf
        simp only [fillS, List.getD_cons_succ, List.getD_cons_zero, Act.put, List.setIfInBounds_toArray, List.set_cons_zero, List.set_cons_succ]
        have ar := (hb.block _ z1_s).trans R1_s.out
        obtain ⟨y0, y1, y2, y3, y4, y5, y6, y7⟩ := rc8 ar
        clear ar
        go_wp2
        exact ⟨rfl, rfl, Below.refl _ _, _, rfl, rfl, (fun h => absurd h (by decide))⟩
      · intro vals x hb hf
        simp only [fillS, List.getD_cons_succ, List.getD_cons_zero, Act.put, List.setIfInBounds_toArray, List.set_cons_zero, List.set_cons_succ]
        skip
        go_wp2
        exact ⟨rfl, rfl, Below.refl _ _, _, rfl, rfl, (fun h => absurd h (by decide))⟩
      · intro vals x hb hf
        simp only [fillS, List.getD_cons_succ, List.getD_cons_zero, Act.put, List.setIfInBounds_toArray, List.set_cons_zero, List.set_cons_succ]
        skip
        go_wp2
        exact ⟨rfl, rfl, Below.refl _ _, _, rfl, rfl, (fun h => absurd h (by decide))⟩
      · intro vals x hb hf
        simp only [fillS, List.getD_cons_succ, List.getD_cons_zero, Act.put, List.setIfInBounds_toArray, List.set_cons_zero, List.set_cons_succ]
        have h3 : vals 3 = .int .i64 k := hf.1
        rw [h3]
        skip
        go_wp2
        exact ⟨rfl, rfl, Below.refl _ _, _, rfl, rfl, (fun h => absurd h (by decide))⟩
      · intro vals x hb hf
        simp only [fillS, List.getD_cons_succ, List.getD_cons_zero, Act.put, List.setIfInBounds_toArray, List.set_cons_zero, List.set_cons_succ]
        have h2 : vals 2 = .func (.func 33) #[] #[.pointer (some ⟨bl, 0, none⟩)] := hf.1
        rw [h2]
        have h4 : vals 4 = .int .i64 ((k : Int) + 1) := hf.2.1
        rw [h4]
        have hbx : Below w.heap.size w x := B1.trans (hb.mono B1.size)
        go_wp2_with (go_at_call 33; (with_reducible refine Calls.mono (kL.out _ hbx) ?_); rintro e y ⟨rfl, hB⟩)
        exact ⟨rfl, rfl, hB, _, rfl, rfl, (fun h => absurd h (by decide))⟩
      · intro vals x hb hf
        simp only [fillS, List.getD_cons_succ, List.getD_cons_zero, Act.put, List.setIfInBounds_toArray, List.set_cons_zero, List.set_cons_succ]
        have h0 : vals 0 = cavV c := hf.1
        rw [h0]
        have h1 : vals 1 = stV s := hf.2.1
        rw [h1]
        have h5 : vals 5 = opV ox := hf.2.2.1
        rw [h5]
        have hbx : Below w.heap.size w x := B1.trans (hb.mono B1.size)
        go_wp2_with (go_at_call 60; (with_reducible refine Calls.mono (kD.out _) ?_); rintro e y ⟨rfl, hB⟩)
        exact ⟨rfl, rfl, hB, _, rfl, rfl, (fun h => absurd h (by decide))⟩
      · intro vals x hb hf
        simp only [fillS, List.getD_cons_succ, List.getD_cons_zero, Act.put, List.setIfInBounds_toArray, List.set_cons_zero, List.set_cons_succ]
        have h6 : vals 6 = .tuple #[stV n, outV q, .bool b] := hf.1
        rw [h6]
        skip
        go_wp2
        exact ⟨rfl, rfl, Below.refl _ _, _, rfl, rfl, (fun h => absurd h (by decide))⟩
      · intro vals x hb hf
        simp only [fillS, List.getD_cons_succ, List.getD_cons_zero, Act.put, List.setIfInBounds_toArray, List.set_cons_zero, List.set_cons_succ]
        have h7 : vals 7 = .tuple #[stV n, outV q, .bool b] := hf.1
        rw [h7]
        skip
        go_wp2
        exact ⟨rfl, rfl, Below.refl _ _, _, rfl, rfl, (fun h => absurd h (by decide))⟩
      · intro vals x hb hf
        simp only [fillS, List.getD_cons_succ, List.getD_cons_zero, Act.put, List.setIfInBounds_toArray, List.set_cons_zero, List.set_cons_succ]
        have h7 : vals 7 = .tuple #[stV n, outV q, .bool b] := hf.1
        rw [h7]
        skip
        go_wp2
        exact ⟨rfl, rfl, Below.refl _ _, _, rfl, rfl, (fun h => absurd h (by decide))⟩
      · intro vals x hb hf
        simp only [fillS, List.getD_cons_succ, List.getD_cons_zero, Act.put, List.setIfInBounds_toArray, List.set_cons_zero, List.set_cons_succ]
        have h7 : vals 7 = .tuple #[stV n, outV q, .bool b] := hf.1
        rw [h7]
        skip
        go_wp2
        exact ⟨rfl, rfl, Below.refl _ _, _, rfl, rfl, (fun h => absurd h (by decide))⟩
      · intro vals x hb hf
        simp only [fillS, List.getD_cons_succ, List.getD_cons_zero, Act.put, List.setIfInBounds_toArray, List.set_cons_zero, List.set_cons_succ]
        go_wp2
        exact ⟨rfl, rfl, (Below.refl _ _).alloc (Nat.le_refl _) _, _, rfl, ⟨_, rfl, hb.size, World.alloc_heap_new _ _⟩, fun _ => rfl⟩
      · intro vals x hb hf
        simp only [fillS, List.getD_cons_succ, List.getD_cons_zero, Act.put, List.setIfInBounds_toArray, List.set_cons_zero, List.set_cons_succ]
        go_wp2
        exact ⟨rfl, rfl, (Below.refl _ _).alloc (Nat.le_refl _) _, _, rfl, ⟨_, rfl, hb.size, World.alloc_heap_new _ _⟩, fun _ => rfl⟩
    · intro j hj o ho vals x hb hf
      rcases List.mem_cons.1 hj with rfl | hj
      · obtain rfl := Option.some.inj ho
        simp only [fillS, List.getD_cons_succ, List.getD_cons_zero, Act.put, List.setIfInBounds_toArray, List.set_cons_zero, List.set_cons_succ]
        have h7 : vals 7 = .tuple #[stV n, outV q, .bool b] := hf.1
        rw [h7]
        exact ⟨_, .inl ⟨rfl, fun w => rfl⟩, rfl, (fun h => absurd h (by decide))⟩
      · obtain rfl : j = 10 := by simpa using hj
        obtain rfl := Option.some.inj ho
        simp only [fillS, List.getD_cons_succ, List.getD_cons_zero, Act.put, List.setIfInBounds_toArray, List.set_cons_zero, List.set_cons_succ]
        have h7 : vals 7 = .tuple #[stV n, outV q, .bool b] := hf.1
        rw [h7]
        exact ⟨_, .inl ⟨rfl, fun w => rfl⟩, rfl, (fun h => absurd h (by decide))⟩
    · intro vals x hb hf hp
      have hrange : List.range 13 = [0, 1, 2, 3, 4, 5, 6, 7, 8, 9, 10, 11, 12] := by rfl
      rw [hrange]
      simp only [fillS, List.getD_cons_succ, List.getD_cons_zero, Act.put, List.setIfInBounds_toArray, List.set_cons_zero, List.set_cons_succ]
      have h0 : vals 0 = cavV c := hf 0 (by omega)
      have h1 : vals 1 = stV s := hf 1 (by omega)
      have h2 : vals 2 = .func (.func 33) #[] #[.pointer (some ⟨bl, 0, none⟩)] := hf 2 (by omega)
      have h3 : vals 3 = .int .i64 k := hf 3 (by omega)
      have h4 : vals 4 = .int .i64 ((k : Int) + 1) := hf 4 (by omega)
      have h5 : vals 5 = opV ox := hf 5 (by omega)
      have h6 : vals 6 = .tuple #[stV n, outV q, .bool b] := hf 6 (by omega)
      have h7 : vals 7 = .tuple #[stV n, outV q, .bool b] := hf 7 (by omega)
      have h8 : vals 8 = stV n := hf 8 (by omega)
      have h9 : vals 9 = outV q := hf 9 (by omega)
      have h10 : vals 10 = .bool b := hf 10 (by omega)
      obtain ⟨blk_y, hv_y, l_y, A_y⟩ : NewAt wr.heap.size #[.int .i64 0, .int .i64 0, .int .i64 0, .int .i64 0, .int .i64 0, .int .i64 0, .int .i64 0, .int .i64 0] 33 (vals 11) x := hf 11 (by omega)
      obtain ⟨blk_yq, hv_yq, l_yq, A_yq⟩ : NewAt wr.heap.size #[.int .i64 0, .int .i64 0, .int .i64 0, .int .i64 0, .int .i64 0, .int .i64 0] 76 (vals 12) x := hf 12 (by omega)
      have ne_y_yq : (blk_y : Nat) ≠ blk_yq := by
       intro h
       have h1 := hp 11 12 (by omega) (by omega) (by omega) rfl rfl
       rw [hv_y, hv_yq, h] at h1
       exact h1 rfl
      have ne_yq_y := Ne.symm ne_y_yq
      rw [h0, h1, h2, h3, h4, h5, h6, h7, h8, h9, h10, hv_y, hv_yq]
      clear h0 h1 h2 h3 h4 h5 h6 h7 h8 h9 h10 hv_y hv_yq hf hp hrange
      have A_x := (hb.block _ z1_x).trans R1_x.out
      have ne_x_y : (w.heap.size : Nat) ≠ blk_y := by have := z1_x; omega
      have ne_x_yq : (w.heap.size : Nat) ≠ blk_yq := by have := z1_x; omega
      replace A_x := Lib.hid A_x
      have A_s := (hb.block _ z1_s).trans R1_s.out
      have ne_s_y : (W1.heap.size : Nat) ≠ blk_y := by have := z1_s; omega
      have ne_s_yq : (W1.heap.size : Nat) ≠ blk_yq := by have := z1_s; omega
      replace A_s := Lib.hid A_s
      have B2 : Below w.heap.size w x := B1.trans (hb.mono B1.size)
      have hLw := B1.size
      have le_y : w.heap.size ≤ blk_y := by omega
      obtain ⟨p_y_0, p_y_1, p_y_2, p_y_3, p_y_4, p_y_5, p_y_6, p_y_7⟩ := rc8 A_y
      obtain ⟨g_y_0, g_y_1, g_y_2, g_y_3, g_y_4, g_y_5, g_y_6, g_y_7⟩ := rf8 A_y
      replace A_y := Lib.hid A_y
      have le_yq : w.heap.size ≤ blk_yq := by omega
      obtain ⟨p_yq_0, p_yq_1, p_yq_2, p_yq_3, p_yq_4, p_yq_5⟩ := rc6 A_yq
      obtain ⟨g_yq_0, g_yq_1, g_yq_2, g_yq_3, g_yq_4, g_yq_5⟩ := rf6 A_yq
      replace A_yq := Lib.hid A_yq
      go_wp2
      refine NoPanic.normal ?_
      generalize hV2 : World.setCell _ ⟨blk_yq, 5, none⟩ _ = M2
      have C_x : M2.heap[w.heap.size]? = some (.cells #[.int .i64 c.vlo, .int .i64 c.vhi, .int .i64 c.least, .int .i64 c.most, .int .i64 c.f0, .int .i64 c.f1, .int .i64 c.h0, .int .i64 c.h1, .int .i64 c.rock, .int .i64 c.plo, .int .i64 c.phi] 89 (0, 0)) := by rw [← hV2]; have h2 := (set_far (n := blk_yq) 5 (.int .i64 q.whi) ne_x_yq (set_far (n := blk_yq) 4 (.int .i64 q.wlo) ne_x_yq (set_far (n := blk_yq) 3 (.int .i64 q.yhi) ne_x_yq (set_far (n := blk_yq) 2 (.int .i64 q.ylo) ne_x_yq (set_far (n := blk_yq) 1 (.int .i64 q.ghi) ne_x_yq (set_far (n := blk_yq) 0 (.int .i64 q.glo) ne_x_yq (set_far (n := blk_y) 7 (.int .i64 n.whi) ne_x_y (set_far (n := blk_y) 6 (.int .i64 n.wlo) ne_x_y (set_far (n := blk_y) 5 (.int .i64 n.thi) ne_x_y (set_far (n := blk_y) 4 (.int .i64 n.tlo) ne_x_y (set_far (n := blk_y) 3 (.int .i64 n.yhi) ne_x_y (set_far (n := blk_y) 2 (.int .i64 n.ylo) ne_x_y (set_far (n := blk_y) 1 (.int .i64 n.ghi) ne_x_y (set_far (n := blk_y) 0 (.int .i64 n.glo) ne_x_y A_x.out)))))))))))))); exact h2
      have C_s : M2.heap[W1.heap.size]? = some (.cells #[.int .i64 s.glo, .int .i64 s.ghi, .int .i64 s.ylo, .int .i64 s.yhi, .int .i64 s.tlo, .int .i64 s.thi, .int .i64 s.wlo, .int .i64 s.whi] 33 (0, 0)) := by rw [← hV2]; have h2 := (set_far (n := blk_yq) 5 (.int .i64 q.whi) ne_s_yq (set_far (n := blk_yq) 4 (.int .i64 q.wlo) ne_s_yq (set_far (n := blk_yq) 3 (.int .i64 q.yhi) ne_s_yq (set_far (n := blk_yq) 2 (.int .i64 q.ylo) ne_s_yq (set_far (n := blk_yq) 1 (.int .i64 q.ghi) ne_s_yq (set_far (n := blk_yq) 0 (.int .i64 q.glo) ne_s_yq (set_far (n := blk_y) 7 (.int .i64 n.whi) ne_s_y (set_far (n := blk_y) 6 (.int .i64 n.wlo) ne_s_y (set_far (n := blk_y) 5 (.int .i64 n.thi) ne_s_y (set_far (n := blk_y) 4 (.int .i64 n.tlo) ne_s_y (set_far (n := blk_y) 3 (.int .i64 n.yhi) ne_s_y (set_far (n := blk_y) 2 (.int .i64 n.ylo) ne_s_y (set_far (n := blk_y) 1 (.int .i64 n.ghi) ne_s_y (set_far (n := blk_y) 0 (.int .i64 n.glo) ne_s_y A_s.out)))))))))))))); exact h2
      have C_y : M2.heap[blk_y]? = some (.cells #[.int .i64 n.glo, .int .i64 n.ghi, .int .i64 n.ylo, .int .i64 n.yhi, .int .i64 n.tlo, .int .i64 n.thi, .int .i64 n.wlo, .int .i64 n.whi] 33 (0, 0)) := by rw [← hV2]; have h2 := (set_far (n := blk_yq) 5 (.int .i64 q.whi) ne_y_yq (set_far (n := blk_yq) 4 (.int .i64 q.wlo) ne_y_yq (set_far (n := blk_yq) 3 (.int .i64 q.yhi) ne_y_yq (set_far (n := blk_yq) 2 (.int .i64 q.ylo) ne_y_yq (set_far (n := blk_yq) 1 (.int .i64 q.ghi) ne_y_yq (set_far (n := blk_yq) 0 (.int .i64 q.glo) ne_y_yq (set_one (set_one (set_one (set_one (set_one (set_one (set_one (set_one A_y.out 0 (.int .i64 n.glo)) 1 (.int .i64 n.ghi)) 2 (.int .i64 n.ylo)) 3 (.int .i64 n.yhi)) 4 (.int .i64 n.tlo)) 5 (.int .i64 n.thi)) 6 (.int .i64 n.wlo)) 7 (.int .i64 n.whi)))))))); simp only [List.setIfInBounds_toArray, List.set_cons_zero, List.set_cons_succ] at h2; exact h2
      have C_yq : M2.heap[blk_yq]? = some (.cells #[.int .i64 q.glo, .int .i64 q.ghi, .int .i64 q.ylo, .int .i64 q.yhi, .int .i64 q.wlo, .int .i64 q.whi] 76 (0, 0)) := by rw [← hV2]; have h2 := (set_one (set_one (set_one (set_one (set_one (set_one (set_far (n := blk_y) 7 (.int .i64 n.whi) ne_yq_y (set_far (n := blk_y) 6 (.int .i64 n.wlo) ne_yq_y (set_far (n := blk_y) 5 (.int .i64 n.thi) ne_yq_y (set_far (n := blk_y) 4 (.int .i64 n.tlo) ne_yq_y (set_far (n := blk_y) 3 (.int .i64 n.yhi) ne_yq_y (set_far (n := blk_y) 2 (.int .i64 n.ylo) ne_yq_y (set_far (n := blk_y) 1 (.int .i64 n.ghi) ne_yq_y (set_far (n := blk_y) 0 (.int .i64 n.glo) ne_yq_y A_yq.out)))))))) 0 (.int .i64 q.glo)) 1 (.int .i64 q.ghi)) 2 (.int .i64 q.ylo)) 3 (.int .i64 q.yhi)) 4 (.int .i64 q.wlo)) 5 (.int .i64 q.whi)); simp only [List.setIfInBounds_toArray, List.set_cons_zero, List.set_cons_succ] at h2; exact h2
      replace B2 : Below w.heap.size w M2 := by rw [← hV2]; exact (Below.setCell (p := ⟨blk_yq, 5, none⟩) (Below.setCell (p := ⟨blk_yq, 4, none⟩) (Below.setCell (p := ⟨blk_yq, 3, none⟩) (Below.setCell (p := ⟨blk_yq, 2, none⟩) (Below.setCell (p := ⟨blk_yq, 1, none⟩) (Below.setCell (p := ⟨blk_yq, 0, none⟩) (Below.setCell (p := ⟨blk_y, 7, none⟩) (Below.setCell (p := ⟨blk_y, 6, none⟩) (Below.setCell (p := ⟨blk_y, 5, none⟩) (Below.setCell (p := ⟨blk_y, 4, none⟩) (Below.setCell (p := ⟨blk_y, 3, none⟩) (Below.setCell (p := ⟨blk_y, 2, none⟩) (Below.setCell (p := ⟨blk_y, 1, none⟩) (Below.setCell (p := ⟨blk_y, 0, none⟩) B2 le_y (.int .i64 n.glo)) le_y (.int .i64 n.ghi)) le_y (.int .i64 n.ylo)) le_y (.int .i64 n.yhi)) le_y (.int .i64 n.tlo)) le_y (.int .i64 n.thi)) le_y (.int .i64 n.wlo)) le_y (.int .i64 n.whi)) le_yq (.int .i64 q.glo)) le_yq (.int .i64 q.ghi)) le_yq (.int .i64 q.ylo)) le_yq (.int .i64 q.yhi)) le_yq (.int .i64 q.wlo)) le_yq (.int .i64 q.whi))
      clear hV2 hb hLw l_y l_yq p_y_0 g_y_0 p_y_1 g_y_1 p_y_2 g_y_2 p_y_3 g_y_3 p_y_4 g_y_4 p_y_5 g_y_5 p_y_6 g_y_6 p_y_7 g_y_7 p_yq_0 g_yq_0 p_yq_1 g_yq_1 p_yq_2 g_yq_2 p_yq_3 g_yq_3 p_yq_4 g_yq_4 p_yq_5 g_yq_5
      replace A_x := C_x
      clear C_x
      replace A_s := C_s
      clear C_s
      replace A_y := C_y
      clear C_y
      replace A_yq := C_yq
      clear C_yq
      have z2_x := (zqo A_x)
      have z2_s := (zqo A_s)
      have z2_y := (zqo A_y)
      have z2_yq := (zqo A_yq)
      obtain ⟨q2_x_0, q2_x_1, q2_x_2, q2_x_3, q2_x_4, q2_x_5, q2_x_6, q2_x_7, q2_x_8, q2_x_9, q2_x_10⟩ := rc11 A_x
      have R2_x := Lib.hid A_x
      clear A_x
      have R2_s := Lib.hid A_s
      clear A_s
      obtain ⟨q2_y_0, q2_y_1, q2_y_2, q2_y_3, q2_y_4, q2_y_5, q2_y_6, q2_y_7⟩ := rc8 A_y
      have R2_y := Lib.hid A_y
      clear A_y
      have R2_yq := Lib.hid A_yq
      clear A_yq
      have hgw2 := grow_cell M2
      cases b
      · skip
        have hval : fineOp c s (gx (k + 1)) = false := by
         rw [hox.out]
         unfold fineOp
         rw [his.out]
         rfl
        go_wp2_with (fail)
        have hRk : R = k := by
         rw [← hR.out]
         exact roomOf_stop hlt hI.out hval
        rw [Exit.noGoto_ret]
        go_ret
        exact ⟨by first | rfl | (rw [hRk]; rfl), B2⟩
      · skip
        have hn := kOk.out (k + 1) n q (by omega) (by rw [hox.out]; exact his.out)
        have kS := Lib.hid (kSu.out n hn)
        clear hn
        by_cases hsu : sure c n = 1
        · skip
          have hval : fineOp c s (gx (k + 1)) = true := by
           rw [hox.out]
           unfold fineOp
           rw [his.out]
           show decide (sure c n = 1) = true; rw [hsu]; rfl
          rw [hsu] at kS
          clear hsu
          go_wp2_with (first | (go_at_call 66; (with_reducible refine Calls.mono (kS.out _) ?_); rintro e w1 ⟨rfl, hB⟩; (first | (obtain ⟨g, rfl⟩ := g.next hB) | (obtain ⟨g, rfl⟩ : ∃ g : Grow M2, w1 = g.x := ⟨⟨w1, hB⟩, rfl⟩)); clear hB))
          clear q2_x_0 q2_x_1 q2_x_2 q2_x_3 q2_x_4 q2_x_5 q2_x_6 q2_x_7 q2_x_8 q2_x_9 q2_x_10 q2_y_0 q2_y_1 q2_y_2 q2_y_3 q2_y_4 q2_y_5 q2_y_6 q2_y_7
          clear hgw2
          obtain ⟨N3, hN3⟩ : ∃ V, g.x = V := ⟨_, rfl⟩
          have A_x : N3.heap[w.heap.size]? = some (.cells #[.int .i64 c.vlo, .int .i64 c.vhi, .int .i64 c.least, .int .i64 c.most, .int .i64 c.f0, .int .i64 c.f1, .int .i64 c.h0, .int .i64 c.h1, .int .i64 c.rock, .int .i64 c.plo, .int .i64 c.phi] 89 (0, 0)) := by rw [← hN3]; exact (g.h.block _ z2_x).trans R2_x.out
          have A_s : N3.heap[W1.heap.size]? = some (.cells #[.int .i64 s.glo, .int .i64 s.ghi, .int .i64 s.ylo, .int .i64 s.yhi, .int .i64 s.tlo, .int .i64 s.thi, .int .i64 s.wlo, .int .i64 s.whi] 33 (0, 0)) := by rw [← hN3]; exact (g.h.block _ z2_s).trans R2_s.out
          have A_y : N3.heap[blk_y]? = some (.cells #[.int .i64 n.glo, .int .i64 n.ghi, .int .i64 n.ylo, .int .i64 n.yhi, .int .i64 n.tlo, .int .i64 n.thi, .int .i64 n.wlo, .int .i64 n.whi] 33 (0, 0)) := by rw [← hN3]; exact (g.h.block _ z2_y).trans R2_y.out
          have A_yq : N3.heap[blk_yq]? = some (.cells #[.int .i64 q.glo, .int .i64 q.ghi, .int .i64 q.ylo, .int .i64 q.yhi, .int .i64 q.wlo, .int .i64 q.whi] 76 (0, 0)) := by rw [← hN3]; exact (g.h.block _ z2_yq).trans R2_yq.out
          have B3 : Below w.heap.size w N3 := by rw [← hN3]; exact B2.trans (g.h.mono B2.size)
          rw [hN3]
          clear hN3
          have z3_x := (zqo A_x)
          have z3_s := (zqo A_s)
          have z3_y := (zqo A_y)
          have z3_yq := (zqo A_yq)
          have R3_x := Lib.hid A_x
          clear A_x
          have R3_s := Lib.hid A_s
          clear A_s
          have R3_y := Lib.hid A_y
          clear A_y
          have R3_yq := Lib.hid A_yq
          clear A_yq
          have hgw3 := grow_cell N3
          exact ⟨⟨k + 1, by omega, by go_num, by go_num, Lib.hid (fun j h h2 => by
              by_cases e : j = k + 1
              · rw [e]; exact hval
              · exact hI.out j h (by omega)), (Lib.hid ⟨R3_x.out, R3_s.out, B3⟩)⟩, by simp [intOf]; omega⟩
        · skip
          have hval : fineOp c s (gx (k + 1)) = false := by
           rw [hox.out]
           unfold fineOp
           rw [his.out]
           show decide (sure c n = 1) = false; exact decide_eq_false hsu
          generalize sure c n = su at *
          have hsb : (su == 1) = false := by simpa using hsu
          go_wp2_with (first | (go_at_call 66; (with_reducible refine Calls.mono (kS.out _) ?_); rintro e w1 ⟨rfl, hB⟩; (first | (obtain ⟨g, rfl⟩ := g.next hB) | (obtain ⟨g, rfl⟩ : ∃ g : Grow M2, w1 = g.x := ⟨⟨w1, hB⟩, rfl⟩)); clear hB))
          have hRk : R = k := by
           rw [← hR.out]
           exact roomOf_stop hlt hI.out hval
          rw [Exit.noGoto_ret]
          go_ret
          exact ⟨by first | rfl | (rw [hRk]; rfl), B2.trans (g.h.mono B2.size)⟩
  · obtain rfl : k = 100 := by omega
    have hRk : R = 100 := by
     rw [← hR.out]
     exact roomOf_all hI.out
    go_wp2_with (fail)
    rw [Exit.noGoto_ret]
    go_ret
    exact ⟨by first | rfl | (rw [hRk]; rfl), B1⟩
theorem progRoom3 (c : Cav) (s : St) (l : Pt) (w : World) (hc : c.ok = true) (hs : s.ok = true) (h3 : l.ok = true) : Calls Tryz.prog 11 #[cavV c, stV s, ptV l] w fun e w' => e = .returned (.tuple #[.int .i64 (roomOf (fun n : Nat => fineOp c s (lotsOp l (n : Int))) : Nat), .int .i64 0]) ∧ Below w.heap.size w w' := by
 obtain ⟨W1, hW1⟩ : ∃ W1, w.alloc (.cells #[.int .i64 c.vlo, .int .i64 c.vhi, .int .i64 c.least, .int .i64 c.most, .int .i64 c.f0, .int .i64 c.f1, .int .i64 c.h0, .int .i64 c.h1, .int .i64 c.rock, .int .i64 c.plo, .int .i64 c.phi] 31) = W1 := ⟨_, rfl⟩
 obtain ⟨e_c, b_c, s_c⟩ := boxed hW1
 obtain ⟨W2, hW2⟩ : ∃ W2, W1.alloc (.cells #[.int .i64 s.glo, .int .i64 s.ghi, .int .i64 s.ylo, .int .i64 s.yhi, .int .i64 s.tlo, .int .i64 s.thi, .int .i64 s.wlo, .int .i64 s.whi] 33) = W2 := ⟨_, rfl⟩
 obtain ⟨e_s, b_s, s_s⟩ := boxed hW2
 replace e_c := (b_s.block _ (zqo e_c)).trans e_c
 obtain ⟨W3, hW3⟩ : ∃ W3, W2.alloc (.cells #[.int .i64 l.g, .int .i64 l.y, .int .i64 l.t, .int .i64 l.w] 35) = W3 := ⟨_, rfl⟩
 obtain ⟨e_l, b_l, s_l⟩ := boxed hW3
 replace e_c := (b_l.block _ (zqo e_c)).trans e_c
 replace e_s := (b_l.block _ (zqo e_s)).trans e_s
 obtain ⟨m3_c_0, m3_c_1, m3_c_2, m3_c_3, m3_c_4, m3_c_5, m3_c_6, m3_c_7, m3_c_8, m3_c_9, m3_c_10⟩ := rc11 e_c
 have mz3_c : w.heap.size < W3.heap.size := (zqo e_c)
 obtain ⟨W, hW⟩ : ∃ W, W3.alloc (.cells #[.int .i64 c.vlo, .int .i64 c.vhi, .int .i64 c.least, .int .i64 c.most, .int .i64 c.f0, .int .i64 c.f1, .int .i64 c.h0, .int .i64 c.h1, .int .i64 c.rock, .int .i64 c.plo, .int .i64 c.phi] 89) = W := ⟨_, rfl⟩
 obtain ⟨e_x, b_x, s_x⟩ := boxed hW
 replace e_c := (b_x.block _ (zqo e_c)).trans e_c
 replace e_s := (b_x.block _ (zqo e_s)).trans e_s
 replace e_l := (b_x.block _ (zqo e_l)).trans e_l
 have B0 : Below w.heap.size w W := (((b_c.trans (b_s.mono (by omega))).trans (b_l.mono (by omega))).trans (b_x.mono (by omega)))
 have z0_c := (zqo e_c)
 have z0_s := (zqo e_s)
 have z0_l := (zqo e_l)
 have z0_x := (zqo e_x)
 have le_c : w.heap.size ≤ w.heap.size := by omega
 have le_s : w.heap.size ≤ W1.heap.size := by omega
 have le_l : w.heap.size ≤ W2.heap.size := by omega
 have le_x : w.heap.size ≤ W3.heap.size := by omega
 clear s_c b_c s_s b_s s_l b_l s_x b_x
 obtain ⟨q0_c_0, q0_c_1, q0_c_2, q0_c_3, q0_c_4, q0_c_5, q0_c_6, q0_c_7, q0_c_8, q0_c_9, q0_c_10⟩ := rc11 e_c
 replace e_c := Lib.hid e_c
 obtain ⟨q0_s_0, q0_s_1, q0_s_2, q0_s_3, q0_s_4, q0_s_5, q0_s_6, q0_s_7⟩ := rc8 e_s
 replace e_s := Lib.hid e_s
 obtain ⟨q0_l_0, q0_l_1, q0_l_2, q0_l_3⟩ := rc4 e_l
 replace e_l := Lib.hid e_l
 obtain ⟨q0_x_0, q0_x_1, q0_x_2, q0_x_3, q0_x_4, q0_x_5, q0_x_6, q0_x_7, q0_x_8, q0_x_9, q0_x_10⟩ := rc11 e_x
 replace e_x := Lib.hid e_x
 have hgw0 := grow_cell W
 have kV := Lib.hid (fun w => (progValid c w).mono fun e w' hb => BoolB.lit hb hc)
 have kS := Lib.hid (fun w => (progState s w).mono fun e w' hb => BoolB.lit hb hs)
 have k3 := Lib.hid (fun w => (progPoint l w).mono fun e w' hb => BoolB.lit hb h3)
 have hlk := Pt.ok_iff.1 h3
 have kM : Hid (∀ w', Below w.heap.size w w' → w'.heap[W2.heap.size]? = some (.cells #[.int .i64 l.g, .int .i64 l.y, .int .i64 l.t, .int .i64 l.w] 35 (0, 0)) → Calls Tryz.prog 32 #[cavV c, stV s, .func (.func 33) #[] #[.pointer (some ⟨W2.heap.size, 0, none⟩)]] w' fun e w'' => e = .returned (.int .i64 (roomOf (fun n : Nat => fineOp c s (lotsOp l (n : Int))) : Nat)) ∧ Below w'.heap.size w' w'') := Lib.hid (fun w' _ hrow => progMostR c s (fun n : Nat => lotsOp l (n : Int)) w' (Cav.ok_iff.1 hc) (St.ok_iff.1 hs) (fun k hk => lots_fit hlk hk) (fun k h1 h2 w1 hb => progRoomF l k w1 hlk (by omega) ((hb.block _ (zqo hrow)).trans hrow)))
 generalize roomOf (fun n : Nat => fineOp c s (lotsOp l (n : Int))) = R at *
 replace hc := Lib.hid hc; replace hs := Lib.hid hs; replace h3 := Lib.hid h3
 go_enter Tryz.func11, Tryz.ntmps11
 go_wp2_with (first | (go_at_call 29; (with_reducible refine Calls.mono (kV.out _) ?_); rintro e w1 ⟨rfl, hB⟩; (first | (obtain ⟨g, rfl⟩ := g.next hB) | (obtain ⟨g, rfl⟩ : ∃ g : Grow W, w1 = g.x := ⟨⟨w1, hB⟩, rfl⟩)); clear hB) | (go_at_call 30; (with_reducible refine Calls.mono (kS.out _) ?_); rintro e w1 ⟨rfl, hB⟩; (first | (obtain ⟨g, rfl⟩ := g.next hB) | (obtain ⟨g, rfl⟩ : ∃ g : Grow W, w1 = g.x := ⟨⟨w1, hB⟩, rfl⟩)); clear hB) | (go_at_call 31; (with_reducible refine Calls.mono (k3.out _) ?_); rintro e w1 ⟨rfl, hB⟩; (first | (obtain ⟨g, rfl⟩ := g.next hB) | (obtain ⟨g, rfl⟩ : ∃ g : Grow W, w1 = g.x := ⟨⟨w1, hB⟩, rfl⟩)); clear hB))
 have hrow := (g.h.block _ z0_l).trans e_l.out
 have kMo := Lib.hid (kM.out g.x (B0.trans (g.h.mono B0.size)) hrow)
 clear hrow
 go_at_call 32
 (with_reducible refine Calls.mono kMo.out ?_)
 rintro e w1 ⟨rfl, hB⟩
 obtain ⟨g, rfl⟩ := g.next hB
 clear hB kMo
 go_wp2_with (fail)
 refine bodyPost_ret (v := .tuple #[.int .i64 (R : Nat), .int .i64 0]) (by simp [results, Tryz.results11, go_sem, *]) rfl ⟨rfl, B0.trans (g.h.mono B0.size)⟩
end Go.Proofs.YthjmdagonfeneaaGreat.G
set_option linter.unusedVariables false
set_option linter.unusedSimpArgs false
namespace Go.Proofs.YthjmdagonfeneaaGreat.G
open Go.RowKit Go.Sd Gas
theorem playErr_ok2 {c : Cav} {p : Pt} {l : List Gas.Op} {xa xb : List Int} (h1 : l.length ≤ 20) (h2 : c.ok = true) (h3 : p.ok = true) (h4 : opsB l = true) (h5 : truthB l xa xb = true) : playErr c p l xa xb = 0 := by
 unfold playErr
 rw [if_neg (by omega), h2, h3, h4, h5]; rfl
end Go.Proofs.YthjmdagonfeneaaGreat.G
