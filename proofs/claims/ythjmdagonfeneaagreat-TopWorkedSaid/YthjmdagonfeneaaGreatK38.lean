/- Laws and walks: Wk. -/
import Derived.Test.YthjmdagonfeneaaGreatK37
set_option maxRecDepth 100000
set_option maxHeartbeats 16000000
set_option linter.unusedVariables false
set_option linter.unusedSimpArgs false
namespace Go.Proofs.YthjmdagonfeneaaGreat.W
open Go.RowKit Go.Sd Gas G
theorem kept11All (s : Sea.S) (sv fv : Value) (fs : List Int) (c : Cav) (l p : Pt) (v : Int) (w : World) (hs : S.SeasonAt w sv s) (hf : S.IntsAt w fv fs) (hfl : fs.length ≤ 1000) (hsp : s.space ≤ 100)
    (hbd : ∀ k, k < fs.length → 0 ≤ Sea.at0 fs k ∧ Sea.at0 fs k ≤ s.space)
    (hk : ∀ n : Nat, 0 < n → (n : Int) ≤ s.space → ∃ x g, play c p [lotsOp l n] [0] [0] = some (x, g) ∧ x.Ok ∧ keeps c x v = 1 ∧ opsB [lotsOp l n] = true ∧ truthB [lotsOp l n] [0] [0] = true)
    (hc : c.ok = true) (hp : p.ok = true) (hl : l.Ok) (hv : 1 ≤ v ∧ v ≤ 1000000) :
    Calls Tryz.prog 14 #[sv, fv, cavV c, ptV l, ptV p, .int .i64 v] w fun e w' => e = .returned (.bool true) ∧ Below w.heap.size w w' := by
 obtain ⟨fa, fcap, rfl, hfm, hfc⟩ := hf
 obtain ⟨rv, dv, rfl, hsr, hsd⟩ := hs
 have hs0 := Lib.hid (show S.SeasonAt w (.agg #[.int .i64 s.space, .int .i64 s.start, .int .i64 s.elo, .int .i64 s.ehi, rv, dv]) s from ⟨rv, dv, rfl, hsr, hsd⟩)
 clear hsr hsd
 have hlen : fs.length ≤ 1000 := hfl
 clear hfm
 obtain ⟨W1, hW1⟩ : ∃ W1, w.alloc (.cells #[.int .i64 s.space, .int .i64 s.start, .int .i64 s.elo, .int .i64 s.ehi, rv, dv] 27) = W1 := ⟨_, rfl⟩
 obtain ⟨e_s, b_s, s_s⟩ := boxed hW1
 obtain ⟨W2, hW2⟩ : ∃ W2, W1.alloc (.cells #[.int .i64 c.vlo, .int .i64 c.vhi, .int .i64 c.least, .int .i64 c.most, .int .i64 c.f0, .int .i64 c.f1, .int .i64 c.h0, .int .i64 c.h1, .int .i64 c.rock, .int .i64 c.plo, .int .i64 c.phi] 31) = W2 := ⟨_, rfl⟩
 obtain ⟨e_c, b_c, s_c⟩ := boxed hW2
 replace e_s := (b_c.block _ (zqo e_s)).trans e_s
 obtain ⟨W3, hW3⟩ : ∃ W3, W2.alloc (.cells #[.int .i64 l.g, .int .i64 l.y, .int .i64 l.t, .int .i64 l.w] 35) = W3 := ⟨_, rfl⟩
 obtain ⟨e_l, b_l, s_l⟩ := boxed hW3
 replace e_s := (b_l.block _ (zqo e_s)).trans e_s
 replace e_c := (b_l.block _ (zqo e_c)).trans e_c
 obtain ⟨W, hW⟩ : ∃ W, W3.alloc (.cells #[.int .i64 p.g, .int .i64 p.y, .int .i64 p.t, .int .i64 p.w] 35) = W := ⟨_, rfl⟩
 obtain ⟨e_p, b_p, s_p⟩ := boxed hW
 replace e_s := (b_p.block _ (zqo e_s)).trans e_s
 replace e_c := (b_p.block _ (zqo e_c)).trans e_c
 replace e_l := (b_p.block _ (zqo e_l)).trans e_l
 have B0 : Below w.heap.size w W := (((b_s.trans (b_c.mono (by omega))).trans (b_l.mono (by omega))).trans (b_p.mono (by omega)))
 have z0_s := (zqo e_s)
 have z0_c := (zqo e_c)
 have z0_l := (zqo e_l)
 have z0_p := (zqo e_p)
 have le_s : w.heap.size ≤ w.heap.size := by omega
 have le_c : w.heap.size ≤ W1.heap.size := by omega
 have le_l : w.heap.size ≤ W2.heap.size := by omega
 have le_p : w.heap.size ≤ W3.heap.size := by omega
 clear s_s b_s s_c b_c s_l b_l s_p b_p
 obtain ⟨q0_s_0, q0_s_1, q0_s_2, q0_s_3, q0_s_4, q0_s_5⟩ := rc6 e_s
 replace e_s := Lib.hid e_s
 obtain ⟨q0_c_0, q0_c_1, q0_c_2, q0_c_3, q0_c_4, q0_c_5, q0_c_6, q0_c_7, q0_c_8, q0_c_9, q0_c_10⟩ := rc11 e_c
 replace e_c := Lib.hid e_c
 obtain ⟨q0_l_0, q0_l_1, q0_l_2, q0_l_3⟩ := rc4 e_l
 replace e_l := Lib.hid e_l
 obtain ⟨q0_p_0, q0_p_1, q0_p_2, q0_p_3⟩ := rc4 e_p
 replace e_p := Lib.hid e_p
 have hgw0 := grow_cell W
 have kFi : Hid (∀ (f : Int) (X : World), Below w.heap.size w X → 0 ≤ f ∧ f ≤ s.space → Calls Tryz.prog 16 #[.agg #[.int .i64 s.space, .int .i64 s.start, .int .i64 s.elo, .int .i64 s.ehi, rv, dv], .int .i64 f] X fun e w' => e = .returned (.bool true) ∧ Below X.heap.size X w') := Lib.hid (fun f X hX hf => S.refFillT X (hs0.out.mono hX) (Sea.inB_iff.2 hf))
 have kKe : Hid (∀ x : Gas.Pt, x.Ok → ∀ X, Calls Tryz.prog 50 #[cavV c, ptV x, .int .i64 v] X fun e w' => e = .returned (.int .i64 (keeps c x v)) ∧ Below X.heap.size X w') := Lib.hid (fun x hx X => refKeeps c x v X (Cav.ok_iff.1 hc) hx hv)
 have kLo : Hid (∀ k : Int, 0 ≤ k ∧ k ≤ 101 → ∀ X, Calls Tryz.prog 49 #[ptV l, .int .i64 k] X fun e w' => e = .returned (opV (lotsOp l k)) ∧ Below X.heap.size X w') := Lib.hid (fun k hk X => refLots l k X hl hk)
 have kPl : Hid (∀ (o : Gas.Op) (x g : Pt), opsB [o] = true → truthB [o] [0] [0] = true → play c p [o] [0] [0] = some (x, g) → ∀ (X : World) (lv av bv : Value), OpsAt X lv [o] → IntsAt X av [0] → IntsAt X bv [0] → Calls Tryz.prog 48 #[cavV c, ptV p, lv, av, bv] X fun e w' => e = .returned (.tuple #[ptV x, ptV g, .int .i64 0]) ∧ Below X.heap.size X w') := Lib.hid (fun o x g ho ht hp' X lv av bv h1 h2 h3 => progPlaySome X h1 h2 h3 (playErr_ok2 (by simp) hc hp ho ht) hp')
 replace hk := Lib.hid hk; replace hbd := Lib.hid hbd; replace hc := Lib.hid hc; replace hp := Lib.hid hp; replace hl := Lib.hid hl; replace hv := Lib.hid hv; replace hfc := Lib.hid hfc
 go_enter Tryz.func14, Tryz.ntmps14
 go_wp2
 clear q0_s_0 q0_s_1 q0_s_2 q0_s_3 q0_s_4 q0_s_5 q0_c_0 q0_c_1 q0_c_2 q0_c_3 q0_c_4 q0_c_5 q0_c_6 q0_c_7 q0_c_8 q0_c_9 q0_c_10 q0_l_0 q0_l_1 q0_l_2 q0_l_3 q0_p_0 q0_p_1 q0_p_2 q0_p_3
 clear hgw0
 go_loopw [13] (fun iv wr => ∃ k : Nat, k ≤ fs.length ∧ iv = .int .i64 k ∧ Hid (wr.heap[w.heap.size]? = some (.cells #[.int .i64 s.space, .int .i64 s.start, .int .i64 s.elo, .int .i64 s.ehi, rv, dv] 27 (0, 0)) ∧ wr.heap[W1.heap.size]? = some (.cells #[.int .i64 c.vlo, .int .i64 c.vhi, .int .i64 c.least, .int .i64 c.most, .int .i64 c.f0, .int .i64 c.f1, .int .i64 c.h0, .int .i64 c.h1, .int .i64 c.rock, .int .i64 c.plo, .int .i64 c.phi] 31 (0, 0)) ∧ wr.heap[W2.heap.size]? = some (.cells #[.int .i64 l.g, .int .i64 l.y, .int .i64 l.t, .int .i64 l.w] 35 (0, 0)) ∧ wr.heap[W3.heap.size]? = some (.cells #[.int .i64 p.g, .int .i64 p.y, .int .i64 p.t, .int .i64 p.w] 35 (0, 0)) ∧ Below w.heap.size w wr)) (fun iv _ => fs.length - (intOf iv).toNat)
 case atStart => exact ⟨0, by omega, rfl, (Lib.hid ⟨e_s.out, e_c.out, e_l.out, e_p.out, B0⟩)⟩
 case round =>
  obtain ⟨k, hk1, rfl, hrows⟩ := hrel
  obtain ⟨A_s, A_c, A_l, A_p, B1⟩ := hrows.out
  have z1_s := (zqo A_s)
  have z1_c := (zqo A_c)
  have z1_l := (zqo A_l)
  have z1_p := (zqo A_p)
  obtain ⟨q1_s_0, q1_s_1, q1_s_2, q1_s_3, q1_s_4, q1_s_5⟩ := rc6 A_s
  have R1_s := Lib.hid A_s
  clear A_s
  obtain ⟨q1_c_0, q1_c_1, q1_c_2, q1_c_3, q1_c_4, q1_c_5, q1_c_6, q1_c_7, q1_c_8, q1_c_9, q1_c_10⟩ := rc11 A_c
  have R1_c := Lib.hid A_c
  clear A_c
  obtain ⟨q1_l_0, q1_l_1, q1_l_2, q1_l_3⟩ := rc4 A_l
  have R1_l := Lib.hid A_l
  clear A_l
  obtain ⟨q1_p_0, q1_p_1, q1_p_2, q1_p_3⟩ := rc4 A_p
  have R1_p := Lib.hid A_p
  clear A_p
  have hgw1 := grow_cell wr
  by_cases hlt : k < fs.length
  · have hki : (k : Int) < (fs.length : Int) := by omega
    obtain ⟨fb, fo, rfl, hfb, hfx⟩ := hfc.out (by omega)
    have hcl := hfx k hlt
    obtain ⟨hb0, hb1⟩ := hbd.out k hlt
    clear hfx
    have hcr := kept_cell B1 hcl
    have hzr : fb < wr.heap.size := Nat.lt_of_lt_of_le hfb B1.size
    have kF := Lib.hid (fun g : Grow wr => kFi.out (Sea.at0 fs k) g.x (B1.trans (g.h.mono B1.size)) ⟨hb0, hb1⟩)
    have hkk := hk.out (Sea.at0 fs k).toNat
    obtain ⟨f, hf⟩ : ∃ f, Sea.at0 fs k = f := ⟨_, rfl⟩
    rw [hf] at hcl hcr hb0 hb1 kF hkk
    replace hf := Lib.hid hf
    replace hkk := Lib.hid hkk
    go_wp2_with (fail)
    refine wp_region_grow (by kernel_rfl) (by kernel_rfl) ?_
    repeat (go_big_quiet_step ((first | (go_at_call 16; with_reducible exact Calls.grow (kF.out _)))))
    refine wpQuiet_nil ?_
    rintro _ ⟨g, rfl⟩
    have hcg := kept_cell (g.h) hcr
    have hzg : fb < g.x.heap.size := Nat.lt_of_lt_of_le hzr g.size
    by_cases hf0 : f = 0
    · subst hf0
      go_wp2_with (fail)
      clear hcg hzg
      clear q1_s_0 q1_s_1 q1_s_2 q1_s_3 q1_s_4 q1_s_5 q1_c_0 q1_c_1 q1_c_2 q1_c_3 q1_c_4 q1_c_5 q1_c_6 q1_c_7 q1_c_8 q1_c_9 q1_c_10 q1_l_0 q1_l_1 q1_l_2 q1_l_3 q1_p_0 q1_p_1 q1_p_2 q1_p_3
      clear hgw1
      obtain ⟨N2, hN2⟩ : ∃ V, g.x = V := ⟨_, rfl⟩
      have A_s : N2.heap[w.heap.size]? = some (.cells #[.int .i64 s.space, .int .i64 s.start, .int .i64 s.elo, .int .i64 s.ehi, rv, dv] 27 (0, 0)) := by rw [← hN2]; exact (g.h.block _ z1_s).trans R1_s.out
      have A_c : N2.heap[W1.heap.size]? = some (.cells #[.int .i64 c.vlo, .int .i64 c.vhi, .int .i64 c.least, .int .i64 c.most, .int .i64 c.f0, .int .i64 c.f1, .int .i64 c.h0, .int .i64 c.h1, .int .i64 c.rock, .int .i64 c.plo, .int .i64 c.phi] 31 (0, 0)) := by rw [← hN2]; exact (g.h.block _ z1_c).trans R1_c.out
      have A_l : N2.heap[W2.heap.size]? = some (.cells #[.int .i64 l.g, .int .i64 l.y, .int .i64 l.t, .int .i64 l.w] 35 (0, 0)) := by rw [← hN2]; exact (g.h.block _ z1_l).trans R1_l.out
      have A_p : N2.heap[W3.heap.size]? = some (.cells #[.int .i64 p.g, .int .i64 p.y, .int .i64 p.t, .int .i64 p.w] 35 (0, 0)) := by rw [← hN2]; exact (g.h.block _ z1_p).trans R1_p.out
      have B2 : Below w.heap.size w N2 := by rw [← hN2]; exact B1.trans (g.h.mono B1.size)
      rw [hN2]
      clear hN2
      have z2_s := (zqo A_s)
      have z2_c := (zqo A_c)
      have z2_l := (zqo A_l)
      have z2_p := (zqo A_p)
      have R2_s := Lib.hid A_s
      clear A_s
      have R2_c := Lib.hid A_c
      clear A_c
      have R2_l := Lib.hid A_l
      clear A_l
      have R2_p := Lib.hid A_p
      clear A_p
      have hgw2 := grow_cell N2
      exact ⟨⟨k + 1, by omega, by go_num, (Lib.hid ⟨R2_s.out, R2_c.out, R2_l.out, R2_p.out, B2⟩)⟩, by simp [intOf]; omega⟩
    · have hfb0 : (f == 0) = false := by simpa using hf0
      have hfd : decide (f = 0) = false := by simpa using hf0
      obtain ⟨nf, rfl⟩ := Int.eq_ofNat_of_zero_le hb0
      obtain ⟨xq, gg, hpl, hx, hkp, hob, htr⟩ := hkk.out (by omega) (by omega)
      rw [Int.toNat_natCast] at hpl hob htr
      have kP := Lib.hid (kPl.out _ xq gg hob htr hpl)
      have kK := Lib.hid (kKe.out xq hx)
      rw [hkp] at kK
      have kL := Lib.hid (kLo.out (nf : Int) (by omega))
      clear hpl hx hkp hob htr hkk
      generalize lotsOp l (nf : Int) = ox at *
      go_wp2_with (fail)
      replace hcg := Lib.hid hcg
      clear q1_s_0 q1_s_1 q1_s_2 q1_s_3 q1_s_4 q1_s_5 q1_c_0 q1_c_1 q1_c_2 q1_c_3 q1_c_4 q1_c_5 q1_c_6 q1_c_7 q1_c_8 q1_c_9 q1_c_10 q1_l_0 q1_l_1 q1_l_2 q1_l_3 q1_p_0 q1_p_1 q1_p_2 q1_p_3
      clear hgw1
      obtain ⟨N2, hN2⟩ : ∃ V, g.x = V := ⟨_, rfl⟩
      have A_s : N2.heap[w.heap.size]? = some (.cells #[.int .i64 s.space, .int .i64 s.start, .int .i64 s.elo, .int .i64 s.ehi, rv, dv] 27 (0, 0)) := by rw [← hN2]; exact (g.h.block _ z1_s).trans R1_s.out
      have A_c : N2.heap[W1.heap.size]? = some (.cells #[.int .i64 c.vlo, .int .i64 c.vhi, .int .i64 c.least, .int .i64 c.most, .int .i64 c.f0, .int .i64 c.f1, .int .i64 c.h0, .int .i64 c.h1, .int .i64 c.rock, .int .i64 c.plo, .int .i64 c.phi] 31 (0, 0)) := by rw [← hN2]; exact (g.h.block _ z1_c).trans R1_c.out
      have A_l : N2.heap[W2.heap.size]? = some (.cells #[.int .i64 l.g, .int .i64 l.y, .int .i64 l.t, .int .i64 l.w] 35 (0, 0)) := by rw [← hN2]; exact (g.h.block _ z1_l).trans R1_l.out
      have A_p : N2.heap[W3.heap.size]? = some (.cells #[.int .i64 p.g, .int .i64 p.y, .int .i64 p.t, .int .i64 p.w] 35 (0, 0)) := by rw [← hN2]; exact (g.h.block _ z1_p).trans R1_p.out
      have B2 : Below w.heap.size w N2 := by rw [← hN2]; exact B1.trans (g.h.mono B1.size)
      rw [hN2] at hcg
      rw [hN2] at hzg
      rw [hN2]
      clear hN2
      have z2_s := (zqo A_s)
      have z2_c := (zqo A_c)
      have z2_l := (zqo A_l)
      have z2_p := (zqo A_p)
      obtain ⟨q2_s_0, q2_s_1, q2_s_2, q2_s_3, q2_s_4, q2_s_5⟩ := rc6 A_s
      have R2_s := Lib.hid A_s
      clear A_s
      obtain ⟨q2_c_0, q2_c_1, q2_c_2, q2_c_3, q2_c_4, q2_c_5, q2_c_6, q2_c_7, q2_c_8, q2_c_9, q2_c_10⟩ := rc11 A_c
      have R2_c := Lib.hid A_c
      clear A_c
      obtain ⟨q2_l_0, q2_l_1, q2_l_2, q2_l_3⟩ := rc4 A_l
      have R2_l := Lib.hid A_l
      clear A_l
      obtain ⟨q2_p_0, q2_p_1, q2_p_2, q2_p_3⟩ := rc4 A_p
      have R2_p := Lib.hid A_p
      clear A_p
      have hgw2 := grow_cell N2
      clear q2_s_0 q2_s_1 q2_s_2 q2_s_3 q2_s_4 q2_s_5 q2_c_0 q2_c_1 q2_c_2 q2_c_3 q2_c_4 q2_c_5 q2_c_6 q2_c_7 q2_c_8 q2_c_9 q2_c_10 q2_l_0 q2_l_1 q2_l_2 q2_l_3 q2_p_0 q2_p_1 q2_p_2 q2_p_3
      clear hgw2
      refine wp_region_noPanic ?_
      refine wp_region_locN 18 60 [14, 15] [36, 37, 38, 39, 40, 41, 42, 43, 44, 45, 46, 47, 35, 48, 49, 50, 14, 15] [[], [], [], [], [], [3, 4], [5], [2, 6], [7], [], [], [0, 1, 8, 9, 10], [11], [12], [12], [12], [], []] [IsV (cavV c), IsV (ptV p), IsV (ptV l), IsV (.slice (some ⟨fb, fo, none⟩) fs.length fcap), IsV (.int .i64 k), IsV (.pointer (some ⟨fb, fo + k, none⟩)), IsV (.int .i64 (nf : Int)), IsV (opV ox), OpsIs [ox], IntsIs [0], IntsIs [0], IsV (.tuple #[ptV xq, ptV gg, .int .i64 0]), IsV (.tuple #[ptV xq, ptV gg, .int .i64 0]), IsV (ptV xq), IsV (ptV gg), IsV (.int .i64 0), NewAt N2.heap.size #[.int .i64 0, .int .i64 0, .int .i64 0, .int .i64 0] 35, NewAt N2.heap.size #[.int .i64 0, .int .i64 0, .int .i64 0, .int .i64 0] 35] [16, 17] (by kernel_rfl) (by kernel_rfl) (by kernel_rfl) (by kernel_rfl) (by kernel_rfl) (by kernel_rfl) rfl (fun _ _ _ _ h => h) ?_ ?_ ?_ ?_ ?_
      · exact List.forall_mem_cons.2 ⟨pers_v _, List.forall_mem_cons.2 ⟨pers_v _, List.forall_mem_cons.2 ⟨pers_v _, List.forall_mem_cons.2 ⟨pers_v _, List.forall_mem_cons.2 ⟨pers_v _, List.forall_mem_cons.2 ⟨pers_v _, List.forall_mem_cons.2 ⟨pers_v _, List.forall_mem_cons.2 ⟨pers_v _, List.forall_mem_cons.2 ⟨pers_ops _, List.forall_mem_cons.2 ⟨pers_ints _, List.forall_mem_cons.2 ⟨pers_ints _, List.forall_mem_cons.2 ⟨pers_v _, List.forall_mem_cons.2 ⟨pers_v _, List.forall_mem_cons.2 ⟨pers_v _, List.forall_mem_cons.2 ⟨pers_v _, List.forall_mem_cons.2 ⟨pers_v _, List.forall_mem_cons.2 ⟨pers_new _ _ _, List.forall_mem_cons.2 ⟨pers_new _ _ _, fun f h => by cases h⟩⟩⟩⟩⟩⟩⟩⟩⟩⟩⟩⟩⟩⟩⟩⟩⟩⟩
      · intro k hk u x hu
        rcases List.mem_cons.1 hk with rfl | hk
        · exact NewAt.isNew (show NewAt _ _ _ u x from hu)
        · obtain rfl : k = 17 := by simpa using hk
          exact NewAt.isNew (show NewAt _ _ _ u x from hu)
      · refine ⟨?_, ?_, ?_, ?_, ?_, ?_, ?_, ?_, ?_, ?_, ?_, ?_, ?_, ?_, ?_, ?_, ?_, ?_, trivial⟩
        · intro vals x hb hf
          simp only [fillS, List.getD_cons_succ, List.getD_cons_zero, Act.put, List.setIfInBounds_toArray, List.set_cons_zero, List.set_cons_succ]
          have ar := (hb.block _ z2_c).trans R2_c.out
          obtain ⟨y0, y1, y2, y3, y4, y5, y6, y7, y8, y9, y10⟩ := rc11 ar
          clear ar
          go_wp2
          exact ⟨rfl, rfl, Below.refl _ _, _, rfl, rfl, (fun h => absurd h (by decide))⟩
        · intro vals x hb hf
          simp only [fillS, List.getD_cons_succ, List.getD_cons_zero, Act.put, List.setIfInBounds_toArray, List.set_cons_zero, List.set_cons_succ]
          have ar := (hb.block _ z2_p).trans R2_p.out
          obtain ⟨y0, y1, y2, y3⟩ := rc4 ar
          clear ar
          go_wp2
          exact ⟨rfl, rfl, Below.refl _ _, _, rfl, rfl, (fun h => absurd h (by decide))⟩
        · intro vals x hb hf
          simp only [fillS, List.getD_cons_succ, List.getD_cons_zero, Act.put, List.setIfInBounds_toArray, List.set_cons_zero, List.set_cons_succ]
          have ar := (hb.block _ z2_l).trans R2_l.out
          obtain ⟨y0, y1, y2, y3⟩ := rc4 ar
          clear ar
          go_wp2
          exact ⟨rfl, rfl, Below.refl _ _, _, rfl, rfl, (fun h => absurd h (by decide))⟩
        · intro vals x hb hf
          simp only [fillS, List.getD_cons_succ, List.getD_cons_zero, Act.put, List.setIfInBounds_toArray, List.set_cons_zero, List.set_cons_succ]
          skip
          go_wp2
          exact ⟨rfl, rfl, Below.refl _ _, _, rfl, rfl, (fun h => absurd h (by decide))⟩
        · intro vals x hb hf
          simp only [fillS, List.getD_cons_succ, List.getD_cons_zero, Act.put, List.setIfInBounds_toArray, List.set_cons_zero, List.set_cons_succ]
          skip
          go_wp2
          exact ⟨rfl, rfl, Below.refl _ _, _, rfl, rfl, (fun h => absurd h (by decide))⟩
        · intro vals x hb hf
          simp only [fillS, List.getD_cons_succ, List.getD_cons_zero, Act.put, List.setIfInBounds_toArray, List.set_cons_zero, List.set_cons_succ]
          have h3 : vals 3 = .slice (some ⟨fb, fo, none⟩) fs.length fcap := hf.1
          rw [h3]
          have h4 : vals 4 = .int .i64 k := hf.2.1
          rw [h4]
          skip
          go_wp2
          exact ⟨rfl, rfl, Below.refl _ _, _, rfl, rfl, (fun h => absurd h (by decide))⟩
        · intro vals x hb hf
          simp only [fillS, List.getD_cons_succ, List.getD_cons_zero, Act.put, List.setIfInBounds_toArray, List.set_cons_zero, List.set_cons_succ]
          have h5 : vals 5 = .pointer (some ⟨fb, fo + k, none⟩) := hf.1
          rw [h5]
          have yc := kept_cell hb hcg.out
          go_wp2
          exact ⟨rfl, rfl, Below.refl _ _, _, rfl, rfl, (fun h => absurd h (by decide))⟩
        · intro vals x hb hf
          simp only [fillS, List.getD_cons_succ, List.getD_cons_zero, Act.put, List.setIfInBounds_toArray, List.set_cons_zero, List.set_cons_succ]
          have h2 : vals 2 = ptV l := hf.1
          rw [h2]
          have h6 : vals 6 = .int .i64 (nf : Int) := hf.2.1
          rw [h6]
          have hbx : Below w.heap.size w x := B2.trans (hb.mono B2.size)
          go_wp2_with (go_at_call 49; (with_reducible refine Calls.mono (kL.out _) ?_); rintro e y ⟨rfl, hB⟩)
          exact ⟨rfl, rfl, hB, _, rfl, rfl, (fun h => absurd h (by decide))⟩
        · intro vals x hb hf
          simp only [fillS, List.getD_cons_succ, List.getD_cons_zero, Act.put, List.setIfInBounds_toArray, List.set_cons_zero, List.set_cons_succ]
          have h7 : vals 7 = opV ox := hf.1
          rw [h7]
          go_wp2
          exact ⟨rfl, rfl, (Below.refl _ _).alloc (Nat.le_refl _) _, _, rfl, opsAt1 rfl, (fun h => absurd h (by decide))⟩
        · intro vals x hb hf
          simp only [fillS, List.getD_cons_succ, List.getD_cons_zero, Act.put, List.setIfInBounds_toArray, List.set_cons_zero, List.set_cons_succ]
          go_wp2
          exact ⟨rfl, rfl, (Below.refl _ _).alloc (Nat.le_refl _) _, _, rfl, intsAt1 rfl, (fun h => absurd h (by decide))⟩
        · intro vals x hb hf
          simp only [fillS, List.getD_cons_succ, List.getD_cons_zero, Act.put, List.setIfInBounds_toArray, List.set_cons_zero, List.set_cons_succ]
          go_wp2
          exact ⟨rfl, rfl, (Below.refl _ _).alloc (Nat.le_refl _) _, _, rfl, intsAt1 rfl, (fun h => absurd h (by decide))⟩
        · intro vals x hb hf
          simp only [fillS, List.getD_cons_succ, List.getD_cons_zero, Act.put, List.setIfInBounds_toArray, List.set_cons_zero, List.set_cons_succ]
          have h0 : vals 0 = cavV c := hf.1
          rw [h0]
          have h1 : vals 1 = ptV p := hf.2.1
          rw [h1]
          have h8 : OpsAt x (vals 8) [ox] := hf.2.2.1
          have h9 : IntsAt x (vals 9) [0] := hf.2.2.2.1
          have h10 : IntsAt x (vals 10) [0] := hf.2.2.2.2.1
          have hbx : Below w.heap.size w x := B2.trans (hb.mono B2.size)
          go_wp2_with (go_at_call 48; (with_reducible refine Calls.mono (kP.out _ _ _ _ h8 h9 h10) ?_); rintro e y ⟨rfl, hB⟩)
          exact ⟨rfl, rfl, hB, _, rfl, rfl, (fun h => absurd h (by decide))⟩
        · intro vals x hb hf
          simp only [fillS, List.getD_cons_succ, List.getD_cons_zero, Act.put, List.setIfInBounds_toArray, List.set_cons_zero, List.set_cons_succ]
          have h11 : vals 11 = .tuple #[ptV xq, ptV gg, .int .i64 0] := hf.1
          rw [h11]
          skip
          go_wp2
          exact ⟨rfl, rfl, Below.refl _ _, _, rfl, rfl, (fun h => absurd h (by decide))⟩
        · intro vals x hb hf
          simp only [fillS, List.getD_cons_succ, List.getD_cons_zero, Act.put, List.setIfInBounds_toArray, List.set_cons_zero, List.set_cons_succ]
          have h12 : vals 12 = .tuple #[ptV xq, ptV gg, .int .i64 0] := hf.1
          rw [h12]
          skip
          go_wp2
          exact ⟨rfl, rfl, Below.refl _ _, _, rfl, rfl, (fun h => absurd h (by decide))⟩
        · intro vals x hb hf
          simp only [fillS, List.getD_cons_succ, List.getD_cons_zero, Act.put, List.setIfInBounds_toArray, List.set_cons_zero, List.set_cons_succ]
          have h12 : vals 12 = .tuple #[ptV xq, ptV gg, .int .i64 0] := hf.1
          rw [h12]
          skip
          go_wp2
          exact ⟨rfl, rfl, Below.refl _ _, _, rfl, rfl, (fun h => absurd h (by decide))⟩
        · intro vals x hb hf
          simp only [fillS, List.getD_cons_succ, List.getD_cons_zero, Act.put, List.setIfInBounds_toArray, List.set_cons_zero, List.set_cons_succ]
          have h12 : vals 12 = .tuple #[ptV xq, ptV gg, .int .i64 0] := hf.1
          rw [h12]
          skip
          go_wp2
          exact ⟨rfl, rfl, Below.refl _ _, _, rfl, rfl, (fun h => absurd h (by decide))⟩
        · intro vals x hb hf
          simp only [fillS, List.getD_cons_succ, List.getD_cons_zero, Act.put, List.setIfInBounds_toArray, List.set_cons_zero, List.set_cons_succ]
          go_wp2
          exact ⟨rfl, rfl, (Below.refl _ _).alloc (Nat.le_refl _) _, _, rfl, ⟨_, rfl, hb.size, World.alloc_heap_new _ _⟩, fun _ => rfl⟩
        · intro vals x hb hf
          simp only [fillS, List.getD_cons_succ, List.getD_cons_zero, Act.put, List.setIfInBounds_toArray, List.set_cons_zero, List.set_cons_succ]
          go_wp2
          exact ⟨rfl, rfl, (Below.refl _ _).alloc (Nat.le_refl _) _, _, rfl, ⟨_, rfl, hb.size, World.alloc_heap_new _ _⟩, fun _ => rfl⟩
      · intro j hj o ho vals x hb hf
        rcases List.mem_cons.1 hj with rfl | hj
        · obtain rfl := Option.some.inj ho
          simp only [fillS, List.getD_cons_succ, List.getD_cons_zero, Act.put, List.setIfInBounds_toArray, List.set_cons_zero, List.set_cons_succ]
          have h12 : vals 12 = .tuple #[ptV xq, ptV gg, .int .i64 0] := hf.1
          rw [h12]
          exact ⟨_, .inl ⟨rfl, fun w => rfl⟩, rfl, (fun h => absurd h (by decide))⟩
        · obtain rfl : j = 15 := by simpa using hj
          obtain rfl := Option.some.inj ho
          simp only [fillS, List.getD_cons_succ, List.getD_cons_zero, Act.put, List.setIfInBounds_toArray, List.set_cons_zero, List.set_cons_succ]
          have h12 : vals 12 = .tuple #[ptV xq, ptV gg, .int .i64 0] := hf.1
          rw [h12]
          exact ⟨_, .inl ⟨rfl, fun w => rfl⟩, rfl, (fun h => absurd h (by decide))⟩
      · intro vals x hb hf hp
        have hrange : List.range 18 = [0, 1, 2, 3, 4, 5, 6, 7, 8, 9, 10, 11, 12, 13, 14, 15, 16, 17] := by rfl
        rw [hrange]
        simp only [fillS, List.getD_cons_succ, List.getD_cons_zero, Act.put, List.setIfInBounds_toArray, List.set_cons_zero, List.set_cons_succ]
        have h0 : vals 0 = cavV c := hf 0 (by omega)
        have h1 : vals 1 = ptV p := hf 1 (by omega)
        have h2 : vals 2 = ptV l := hf 2 (by omega)
        have h3 : vals 3 = .slice (some ⟨fb, fo, none⟩) fs.length fcap := hf 3 (by omega)
        have h4 : vals 4 = .int .i64 k := hf 4 (by omega)
        have h5 : vals 5 = .pointer (some ⟨fb, fo + k, none⟩) := hf 5 (by omega)
        have h6 : vals 6 = .int .i64 (nf : Int) := hf 6 (by omega)
        have h7 : vals 7 = opV ox := hf 7 (by omega)
        have h11 : vals 11 = .tuple #[ptV xq, ptV gg, .int .i64 0] := hf 11 (by omega)
        have h12 : vals 12 = .tuple #[ptV xq, ptV gg, .int .i64 0] := hf 12 (by omega)
        have h13 : vals 13 = ptV xq := hf 13 (by omega)
        have h14 : vals 14 = ptV gg := hf 14 (by omega)
        have h15 : vals 15 = .int .i64 0 := hf 15 (by omega)
        obtain ⟨blk_z, hv_z, l_z, A_z⟩ : NewAt N2.heap.size #[.int .i64 0, .int .i64 0, .int .i64 0, .int .i64 0] 35 (vals 16) x := hf 16 (by omega)
        obtain ⟨blk_zo, hv_zo, l_zo, A_zo⟩ : NewAt N2.heap.size #[.int .i64 0, .int .i64 0, .int .i64 0, .int .i64 0] 35 (vals 17) x := hf 17 (by omega)
        have ne_z_zo : (blk_z : Nat) ≠ blk_zo := by
         intro h
         have h1 := hp 16 17 (by omega) (by omega) (by omega) rfl rfl
         rw [hv_z, hv_zo, h] at h1
         exact h1 rfl
        have ne_zo_z := Ne.symm ne_z_zo
        rw [h0, h1, h2, h3, h4, h5, h6, h7, h11, h12, h13, h14, h15, hv_z, hv_zo]
        clear h0 h1 h2 h3 h4 h5 h6 h7 h11 h12 h13 h14 h15 hv_z hv_zo hf hp hrange
        have A_s := (hb.block _ z2_s).trans R2_s.out
        have ne_s_z : (w.heap.size : Nat) ≠ blk_z := by have := z2_s; omega
        have ne_z_s := Ne.symm ne_s_z
        have ne_s_zo : (w.heap.size : Nat) ≠ blk_zo := by have := z2_s; omega
        have ne_zo_s := Ne.symm ne_s_zo
        replace A_s := Lib.hid A_s
        have A_c := (hb.block _ z2_c).trans R2_c.out
        have ne_c_z : (W1.heap.size : Nat) ≠ blk_z := by have := z2_c; omega
        have ne_z_c := Ne.symm ne_c_z
        have ne_c_zo : (W1.heap.size : Nat) ≠ blk_zo := by have := z2_c; omega
        have ne_zo_c := Ne.symm ne_c_zo
        replace A_c := Lib.hid A_c
        have A_l := (hb.block _ z2_l).trans R2_l.out
        have ne_l_z : (W2.heap.size : Nat) ≠ blk_z := by have := z2_l; omega
        have ne_z_l := Ne.symm ne_l_z
        have ne_l_zo : (W2.heap.size : Nat) ≠ blk_zo := by have := z2_l; omega
        have ne_zo_l := Ne.symm ne_l_zo
        replace A_l := Lib.hid A_l
        have A_p := (hb.block _ z2_p).trans R2_p.out
        have ne_p_z : (W3.heap.size : Nat) ≠ blk_z := by have := z2_p; omega
        have ne_z_p := Ne.symm ne_p_z
        have ne_p_zo : (W3.heap.size : Nat) ≠ blk_zo := by have := z2_p; omega
        have ne_zo_p := Ne.symm ne_p_zo
        replace A_p := Lib.hid A_p
        have B3 : Below w.heap.size w x := B2.trans (hb.mono B2.size)
        have hLw := B2.size
        have le_z : w.heap.size ≤ blk_z := by omega
        obtain ⟨p_z_0, p_z_1, p_z_2, p_z_3⟩ := rc4 A_z
        obtain ⟨g_z_0, g_z_1, g_z_2, g_z_3⟩ := rf4 A_z
        replace A_z := Lib.hid A_z
        have le_zo : w.heap.size ≤ blk_zo := by omega
        obtain ⟨p_zo_0, p_zo_1, p_zo_2, p_zo_3⟩ := rc4 A_zo
        obtain ⟨g_zo_0, g_zo_1, g_zo_2, g_zo_3⟩ := rf4 A_zo
        replace A_zo := Lib.hid A_zo
        go_wp2
        refine NoPanic.normal ?_
        generalize hV3 : World.setCell _ ⟨blk_zo, 3, none⟩ _ = M3
        have C_s : M3.heap[w.heap.size]? = some (.cells #[.int .i64 s.space, .int .i64 s.start, .int .i64 s.elo, .int .i64 s.ehi, rv, dv] 27 (0, 0)) := by rw [← hV3]; have h2 := (set_far (n := blk_zo) 3 (.int .i64 gg.w) ne_s_zo (set_far (n := blk_zo) 2 (.int .i64 gg.t) ne_s_zo (set_far (n := blk_zo) 1 (.int .i64 gg.y) ne_s_zo (set_far (n := blk_zo) 0 (.int .i64 gg.g) ne_s_zo (set_far (n := blk_z) 3 (.int .i64 xq.w) ne_s_z (set_far (n := blk_z) 2 (.int .i64 xq.t) ne_s_z (set_far (n := blk_z) 1 (.int .i64 xq.y) ne_s_z (set_far (n := blk_z) 0 (.int .i64 xq.g) ne_s_z A_s.out)))))))); exact h2
        have C_c : M3.heap[W1.heap.size]? = some (.cells #[.int .i64 c.vlo, .int .i64 c.vhi, .int .i64 c.least, .int .i64 c.most, .int .i64 c.f0, .int .i64 c.f1, .int .i64 c.h0, .int .i64 c.h1, .int .i64 c.rock, .int .i64 c.plo, .int .i64 c.phi] 31 (0, 0)) := by rw [← hV3]; have h2 := (set_far (n := blk_zo) 3 (.int .i64 gg.w) ne_c_zo (set_far (n := blk_zo) 2 (.int .i64 gg.t) ne_c_zo (set_far (n := blk_zo) 1 (.int .i64 gg.y) ne_c_zo (set_far (n := blk_zo) 0 (.int .i64 gg.g) ne_c_zo (set_far (n := blk_z) 3 (.int .i64 xq.w) ne_c_z (set_far (n := blk_z) 2 (.int .i64 xq.t) ne_c_z (set_far (n := blk_z) 1 (.int .i64 xq.y) ne_c_z (set_far (n := blk_z) 0 (.int .i64 xq.g) ne_c_z A_c.out)))))))); exact h2
        have C_l : M3.heap[W2.heap.size]? = some (.cells #[.int .i64 l.g, .int .i64 l.y, .int .i64 l.t, .int .i64 l.w] 35 (0, 0)) := by rw [← hV3]; have h2 := (set_far (n := blk_zo) 3 (.int .i64 gg.w) ne_l_zo (set_far (n := blk_zo) 2 (.int .i64 gg.t) ne_l_zo (set_far (n := blk_zo) 1 (.int .i64 gg.y) ne_l_zo (set_far (n := blk_zo) 0 (.int .i64 gg.g) ne_l_zo (set_far (n := blk_z) 3 (.int .i64 xq.w) ne_l_z (set_far (n := blk_z) 2 (.int .i64 xq.t) ne_l_z (set_far (n := blk_z) 1 (.int .i64 xq.y) ne_l_z (set_far (n := blk_z) 0 (.int .i64 xq.g) ne_l_z A_l.out)))))))); exact h2
        have C_p : M3.heap[W3.heap.size]? = some (.cells #[.int .i64 p.g, .int .i64 p.y, .int .i64 p.t, .int .i64 p.w] 35 (0, 0)) := by rw [← hV3]; have h2 := (set_far (n := blk_zo) 3 (.int .i64 gg.w) ne_p_zo (set_far (n := blk_zo) 2 (.int .i64 gg.t) ne_p_zo (set_far (n := blk_zo) 1 (.int .i64 gg.y) ne_p_zo (set_far (n := blk_zo) 0 (.int .i64 gg.g) ne_p_zo (set_far (n := blk_z) 3 (.int .i64 xq.w) ne_p_z (set_far (n := blk_z) 2 (.int .i64 xq.t) ne_p_z (set_far (n := blk_z) 1 (.int .i64 xq.y) ne_p_z (set_far (n := blk_z) 0 (.int .i64 xq.g) ne_p_z A_p.out)))))))); exact h2
        have C_z : M3.heap[blk_z]? = some (.cells #[.int .i64 xq.g, .int .i64 xq.y, .int .i64 xq.t, .int .i64 xq.w] 35 (0, 0)) := by rw [← hV3]; have h2 := (set_far (n := blk_zo) 3 (.int .i64 gg.w) ne_z_zo (set_far (n := blk_zo) 2 (.int .i64 gg.t) ne_z_zo (set_far (n := blk_zo) 1 (.int .i64 gg.y) ne_z_zo (set_far (n := blk_zo) 0 (.int .i64 gg.g) ne_z_zo (set_one (set_one (set_one (set_one A_z.out 0 (.int .i64 xq.g)) 1 (.int .i64 xq.y)) 2 (.int .i64 xq.t)) 3 (.int .i64 xq.w)))))); simp only [List.setIfInBounds_toArray, List.set_cons_zero, List.set_cons_succ] at h2; exact h2
        have C_zo : M3.heap[blk_zo]? = some (.cells #[.int .i64 gg.g, .int .i64 gg.y, .int .i64 gg.t, .int .i64 gg.w] 35 (0, 0)) := by rw [← hV3]; have h2 := (set_one (set_one (set_one (set_one (set_far (n := blk_z) 3 (.int .i64 xq.w) ne_zo_z (set_far (n := blk_z) 2 (.int .i64 xq.t) ne_zo_z (set_far (n := blk_z) 1 (.int .i64 xq.y) ne_zo_z (set_far (n := blk_z) 0 (.int .i64 xq.g) ne_zo_z A_zo.out)))) 0 (.int .i64 gg.g)) 1 (.int .i64 gg.y)) 2 (.int .i64 gg.t)) 3 (.int .i64 gg.w)); simp only [List.setIfInBounds_toArray, List.set_cons_zero, List.set_cons_succ] at h2; exact h2
        replace B3 : Below w.heap.size w M3 := by rw [← hV3]; exact (Below.setCell (p := ⟨blk_zo, 3, none⟩) (Below.setCell (p := ⟨blk_zo, 2, none⟩) (Below.setCell (p := ⟨blk_zo, 1, none⟩) (Below.setCell (p := ⟨blk_zo, 0, none⟩) (Below.setCell (p := ⟨blk_z, 3, none⟩) (Below.setCell (p := ⟨blk_z, 2, none⟩) (Below.setCell (p := ⟨blk_z, 1, none⟩) (Below.setCell (p := ⟨blk_z, 0, none⟩) B3 le_z (.int .i64 xq.g)) le_z (.int .i64 xq.y)) le_z (.int .i64 xq.t)) le_z (.int .i64 xq.w)) le_zo (.int .i64 gg.g)) le_zo (.int .i64 gg.y)) le_zo (.int .i64 gg.t)) le_zo (.int .i64 gg.w))
        clear hV3 hb hLw l_z l_zo p_z_0 g_z_0 p_z_1 g_z_1 p_z_2 g_z_2 p_z_3 g_z_3 p_zo_0 g_zo_0 p_zo_1 g_zo_1 p_zo_2 g_zo_2 p_zo_3 g_zo_3
        replace A_s := C_s
        clear C_s
        replace A_c := C_c
        clear C_c
        replace A_l := C_l
        clear C_l
        replace A_p := C_p
        clear C_p
        replace A_z := C_z
        clear C_z
        replace A_zo := C_zo
        clear C_zo
        have z3_s := (zqo A_s)
        have z3_c := (zqo A_c)
        have z3_l := (zqo A_l)
        have z3_p := (zqo A_p)
        have z3_z := (zqo A_z)
        have z3_zo := (zqo A_zo)
        have R3_s := Lib.hid A_s
        clear A_s
        obtain ⟨q3_c_0, q3_c_1, q3_c_2, q3_c_3, q3_c_4, q3_c_5, q3_c_6, q3_c_7, q3_c_8, q3_c_9, q3_c_10⟩ := rc11 A_c
        have R3_c := Lib.hid A_c
        clear A_c
        have R3_l := Lib.hid A_l
        clear A_l
        have R3_p := Lib.hid A_p
        clear A_p
        obtain ⟨q3_z_0, q3_z_1, q3_z_2, q3_z_3⟩ := rc4 A_z
        have R3_z := Lib.hid A_z
        clear A_z
        have R3_zo := Lib.hid A_zo
        clear A_zo
        have hgw3 := grow_cell M3
        go_wp2_with (fail)
        go_wp2_with (first | (go_at_call 50; (with_reducible refine Calls.mono (kK.out _) ?_); rintro e w1 ⟨rfl, hB⟩; (first | (obtain ⟨g, rfl⟩ := g.next hB) | (obtain ⟨g, rfl⟩ : ∃ g : Grow M3, w1 = g.x := ⟨⟨w1, hB⟩, rfl⟩)); clear hB))
        clear q3_c_0 q3_c_1 q3_c_2 q3_c_3 q3_c_4 q3_c_5 q3_c_6 q3_c_7 q3_c_8 q3_c_9 q3_c_10 q3_z_0 q3_z_1 q3_z_2 q3_z_3
        clear hgw3
        obtain ⟨N4, hN4⟩ : ∃ V, g.x = V := ⟨_, rfl⟩
        have A_s : N4.heap[w.heap.size]? = some (.cells #[.int .i64 s.space, .int .i64 s.start, .int .i64 s.elo, .int .i64 s.ehi, rv, dv] 27 (0, 0)) := by rw [← hN4]; exact (g.h.block _ z3_s).trans R3_s.out
        have A_c : N4.heap[W1.heap.size]? = some (.cells #[.int .i64 c.vlo, .int .i64 c.vhi, .int .i64 c.least, .int .i64 c.most, .int .i64 c.f0, .int .i64 c.f1, .int .i64 c.h0, .int .i64 c.h1, .int .i64 c.rock, .int .i64 c.plo, .int .i64 c.phi] 31 (0, 0)) := by rw [← hN4]; exact (g.h.block _ z3_c).trans R3_c.out
        have A_l : N4.heap[W2.heap.size]? = some (.cells #[.int .i64 l.g, .int .i64 l.y, .int .i64 l.t, .int .i64 l.w] 35 (0, 0)) := by rw [← hN4]; exact (g.h.block _ z3_l).trans R3_l.out
        have A_p : N4.heap[W3.heap.size]? = some (.cells #[.int .i64 p.g, .int .i64 p.y, .int .i64 p.t, .int .i64 p.w] 35 (0, 0)) := by rw [← hN4]; exact (g.h.block _ z3_p).trans R3_p.out
        have A_z : N4.heap[blk_z]? = some (.cells #[.int .i64 xq.g, .int .i64 xq.y, .int .i64 xq.t, .int .i64 xq.w] 35 (0, 0)) := by rw [← hN4]; exact (g.h.block _ z3_z).trans R3_z.out
        have A_zo : N4.heap[blk_zo]? = some (.cells #[.int .i64 gg.g, .int .i64 gg.y, .int .i64 gg.t, .int .i64 gg.w] 35 (0, 0)) := by rw [← hN4]; exact (g.h.block _ z3_zo).trans R3_zo.out
        have B4 : Below w.heap.size w N4 := by rw [← hN4]; exact B3.trans (g.h.mono B3.size)
        rw [hN4]
        clear hN4
        have z4_s := (zqo A_s)
        have z4_c := (zqo A_c)
        have z4_l := (zqo A_l)
        have z4_p := (zqo A_p)
        have z4_z := (zqo A_z)
        have z4_zo := (zqo A_zo)
        have R4_s := Lib.hid A_s
        clear A_s
        have R4_c := Lib.hid A_c
        clear A_c
        have R4_l := Lib.hid A_l
        clear A_l
        have R4_p := Lib.hid A_p
        clear A_p
        have R4_z := Lib.hid A_z
        clear A_z
        have R4_zo := Lib.hid A_zo
        clear A_zo
        have hgw4 := grow_cell N4
        exact ⟨⟨k + 1, by omega, by go_num, (Lib.hid ⟨R4_s.out, R4_c.out, R4_l.out, R4_p.out, B4⟩)⟩, by simp [intOf]; omega⟩
  · have hki : ¬ (k : Int) < (fs.length : Int) := by omega
    obtain rfl : k = fs.length := by omega
    go_wp2_with (fail)
    go_ret
    exact ⟨rfl, (by have := hrows.out; exact (by obtain ⟨_, _, _, _, h⟩ := this; exact h))⟩
end Go.Proofs.YthjmdagonfeneaaGreat.W
