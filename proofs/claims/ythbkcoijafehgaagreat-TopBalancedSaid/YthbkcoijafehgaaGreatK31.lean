/- Laws and walks: Lw4, Lw5. -/
import Derived.Deep.Cut
import Derived.OwnWalk
import Derived.Test.YthbkcoijafehgaaGreatK02
import Derived.Test.YthbkcoijafehgaaGreatK19
import Derived.Test.YthbkcoijafehgaaGreatK25
import Derived.Test.YthbkcoijafehgaaGreatK26
import Derived.Test.YthbkcoijafehgaaGreatK30
set_option linter.unusedVariables false
set_option linter.unusedSimpArgs false
namespace Go.Proofs.YthbkcoijafehgaaGreat.L
open Go.RowKit Go.Sd Lk Lc
set_option maxRecDepth 100000 in
set_option maxHeartbeats 2000000 in
theorem lcGain (sv wv : Value) (l : List Sl) (ws : List Int) (u : Int) (k : Nat) (w : World) (h : SlsAt w sv l) (hw : IntsAt w wv ws) (hk : k < l.length) (hkw : k < ws.length)
    (h1 : -1000000000000000 ≤ (lsAt l k).opn * at0 ws k ∧ (lsAt l k).opn * at0 ws k ≤ 1000000000000000) (h2 : -1000000000000000 ≤ (lsAt l k).fall * u ∧ (lsAt l k).fall * u ≤ 1000000000000000) (c1 c2 : Int) :
    Calls Tryz.prog 94 #[.agg #[sv, .int .i64 c1, .int .i64 c2], .agg #[wv, .int .i64 u], .int .i64 k] w fun e w' => e = .returned (.int .i64 ((lsAt l k).opn * at0 ws k + (lsAt l k).fall * u)) ∧ Below w.heap.size w w' := by
  obtain ⟨W, hW⟩ : ∃ W, (w.alloc (.cells #[sv, .int .i64 c1, .int .i64 c2] 104)).alloc (.cells #[wv, .int .i64 u] 110) = W := ⟨_, rfl⟩
  obtain ⟨e0, e1, s0, b0⟩ := two_new hW
  have hg := grow_cell W
  obtain ⟨a, cap, rfl, hm, hc⟩ := h.form
  obtain ⟨b, off, rfl, hb, hx⟩ := hc (by omega)
  have x1 : w.cell? ⟨b, off + k * 7 + 2, none⟩ = some (.int .i64 (lsAt l k).opn) := hx k 2 _ hk rfl
  have x2 : w.cell? ⟨b, off + k * 7 + 3, none⟩ = some (.int .i64 (lsAt l k).fall) := hx k 3 _ hk rfl
  replace x1 := kept_cell b0 x1
  replace x2 := kept_cell b0 x2
  obtain ⟨b', off', cap', rfl, hb', hm', y0⟩ := int_cells hw hkw
  replace y0 := kept_cell b0 y0
  obtain ⟨q0, q1, q2⟩ := rc3 e0
  obtain ⟨r0, r1⟩ := rc2 e1
  have z0 := (Array.getElem?_eq_some_iff.1 e0).1
  have z1 := (Array.getElem?_eq_some_iff.1 e1).1
  have zb : b < W.heap.size := by omega
  have zb' : b' < W.heap.size := by omega
  have hk1 : (k : Int) < (l.length : Int) := by omega
  have hk2 : (k : Int) < (ws.length : Int) := by omega
  have hk0 : (0 : Int) ≤ (k : Int) := by omega
  clear hx hc e0 e1 h hw s0
  generalize lsAt l k = s at *
  generalize at0 ws k = n at *
  go_enter Tryz.func94, Tryz.ntmps94
  go_wp2
  refine wp_region_grow (by kernel_rfl) (by kernel_rfl) ?_
  repeat (go_big_quiet_step (fail))
  refine wpQuiet_nil ?_
  rintro _ ⟨g, rfl⟩
  go_wp2
  go_ret
  exact ⟨rfl, b0.trans (g.h.mono b0.size)⟩
theorem sps_two (w : World) (s t : Sp) : SpsIs [s, t] (.slice (some ⟨w.heap.size, 0, none⟩) 2 2) (w.alloc (.cells #[.int .i64 s.lo, .int .i64 s.hi, .int .i64 t.lo, .int .i64 t.hi] 23)) := by
  have h := BlkAt.sps (w := w.alloc (.cells #[.int .i64 s.lo, .int .i64 s.hi, .int .i64 t.lo, .int .i64 t.hi] 23)) (q := w.heap.size) (l := [s, t]) (World.alloc_heap_new _ _) (show (2 : Nat) ≤ maxLen by decide) 2
  exact h
/-- What stands in the rounds. -/
structure FiSt (sv wv : Value) (w W : World) : Prop where
  bc : W.heap[w.heap.size]? = some (.cells (exCells sv) 104)
  bm : W.heap[w.heap.size + 1]? = some (.cells #[wv, .int .i64 1] 110)
  br : W.heap[w.heap.size + 2]? = some (spO ⟨0, 0⟩)
  bo : W.heap[w.heap.size + 3]? = some (spO ⟨0, 0⟩)
  bel : Below w.heap.size w W
theorem FiSt.mono {sv wv : Value} {w W V : World} (h : FiSt sv wv w W) (hb : Below W.heap.size W V) : FiSt sv wv w V :=
  ⟨kept_block hb h.bc, kept_block hb h.bm, kept_block hb h.br, kept_block hb h.bo, below_tr h.bel hb⟩
theorem FiSt.set {sv wv : Value} {w W : World} (h : FiSt sv wv w W) : FiSt sv wv w ((W.setCell ⟨w.heap.size + 3, 0, none⟩ (.int .i64 0)).setCell ⟨w.heap.size + 3, 1, none⟩ (.int .i64 0)) :=
  ⟨(set2_other _ _ (by omega)).trans h.bc, (set2_other _ _ (by omega)).trans h.bm, (set2_other _ _ (by omega)).trans h.br, set2 h.bo _ _, h.bel.trans (below_set2 _ _ (by omega))⟩
theorem exSl_bd {k : Nat} (h : k < exSls.length) : 0 ≤ (lsAt exSls k).vlo ∧ (lsAt exSls k).vlo ≤ 1000000 ∧ 0 ≤ (lsAt exSls k).vhi ∧ (lsAt exSls k).vhi ≤ 1000000 := by
  match k, h with
  | 0, _ => decide
  | 1, _ => decide
  | 2, _ => decide
set_option maxRecDepth 100000 in
set_option maxHeartbeats 4000000 in
theorem firstT (sv wv : Value) (w : World) (h : SlsAt w sv exSls) (hw : IntsAt w wv [0, 0, 0]) :
    Calls Tryz.prog 65 #[.agg (exCells sv), .agg #[wv, .int .i64 1]] w fun e w' => e = .returned (spV ⟨0, 0⟩) ∧ Below w.heap.size w w' := by
  obtain ⟨W, hW⟩ : ∃ W, (((w.alloc (.cells (exCells sv) 104)).alloc (.cells #[wv, .int .i64 1] 110)).alloc (spO ⟨0, 0⟩)).alloc (spO ⟨0, 0⟩) = W := ⟨_, rfl⟩
  obtain ⟨e0, e1, e2, e3, s0, b0⟩ := four_new hW
  have hS0 : Hid (FiSt sv wv w W) := Lib.hid ⟨e0, e1, e2, e3, b0⟩
  obtain ⟨wb, wo, wc, hwv, -, -, -⟩ := int_cells hw (k := 0) (by simp)
  replace hwv : wv = .slice (some ⟨wb, wo, none⟩) 3 wc := hwv
  subst hwv
  have h' := Lib.hid h
  have hw' := Lib.hid hw
  obtain ⟨a, cap, rfl, hm, hc⟩ := h.form
  obtain ⟨q0, -, -⟩ := rc3 e0
  have z0 := (Array.getElem?_eq_some_iff.1 e0).1
  have hc' := Lib.hid hc
  clear hc h hw s0 e0 e1 e2 e3 b0
  go_enter Tryz.func65, Tryz.ntmps65
  go_wp2
  clear q0 z0 hW
  go_loopw [12] (fun i wr => ∃ k : Nat, k ≤ exSls.length ∧ i = .int .i64 k ∧ Hid (FiSt (.slice a exSls.length cap) (.slice (some ⟨wb, wo, none⟩) 3 wc) w wr)) (fun i _ => exSls.length - (intOf i).toNat)
  case atStart => exact ⟨0, by omega, rfl, hS0⟩
  case round =>
    obtain ⟨k, hk, rfl, hH⟩ := hrel
    have hS := hH.out
    obtain ⟨c0, c1⟩ := rc2 hS.bo
    obtain ⟨d0, d1⟩ := rf2 hS.br
    obtain ⟨c2, c3⟩ := rc2 hS.br
    have z0 := (Array.getElem?_eq_some_iff.1 hS.bo).1
    have z1 := (Array.getElem?_eq_some_iff.1 hS.br).1
    by_cases hkl : k < exSls.length
    · obtain ⟨b, off, rfl, hb, hx⟩ := hc'.out (by omega)
      have x0 : w.cell? ⟨b, off + k * 7, none⟩ = some (.int .i64 (lsAt exSls k).vlo) := hx k 0 _ hkl rfl
      have x1 : w.cell? ⟨b, off + k * 7 + 1, none⟩ = some (.int .i64 (lsAt exSls k).vhi) := hx k 1 _ hkl rfl
      have x2 : w.cell? ⟨b, off + k * 7 + 2, none⟩ = some (.int .i64 (lsAt exSls k).opn) := hx k 2 _ hkl rfl
      have x3 : w.cell? ⟨b, off + k * 7 + 3, none⟩ = some (.int .i64 (lsAt exSls k).fall) := hx k 3 _ hkl rfl
      have x4 : w.cell? ⟨b, off + k * 7 + 4, none⟩ = some (.int .i64 (lsAt exSls k).rlo) := hx k 4 _ hkl rfl
      have x5 : w.cell? ⟨b, off + k * 7 + 5, none⟩ = some (.int .i64 (lsAt exSls k).rhi) := hx k 5 _ hkl rfl
      have x6 : w.cell? ⟨b, off + k * 7 + 6, none⟩ = some (.int .i64 (lsAt exSls k).most) := hx k 6 _ hkl rfl
      have hbd := exSl_bd hkl
      obtain ⟨wb1, wo1, wc1, hwv, hwb, hwm, y0⟩ := int_cells hw'.out (k := k) hkl
      obtain ⟨⟨rfl, rfl⟩, rfl⟩ : (wb = wb1 ∧ wo = wo1) ∧ wc = wc1 := by simpa using hwv
      clear hwv hwb hwm
      have y1 : at0 [0, 0, 0] k = 0 := by
        match k, hkl with
        | 0, _ => rfl
        | 1, _ => rfl
        | 2, _ => rfl
      rw [y1] at y0
      replace x0 := kept_cell hS.bel x0
      replace x1 := kept_cell hS.bel x1
      replace x2 := kept_cell hS.bel x2
      replace x3 := kept_cell hS.bel x3
      replace x4 := kept_cell hS.bel x4
      replace x5 := kept_cell hS.bel x5
      replace x6 := kept_cell hS.bel x6
      replace y0 := kept_cell hS.bel y0
      have hb1 := Nat.lt_of_lt_of_le hb hS.bel.size
      clear hx y1
      have hki : (k : Int) < (exSls.length : Int) := by omega
      have hki3 : (k : Int) < 3 := hki
      have hk0 : (0 : Int) ≤ (k : Int) := by omega
      generalize lsAt exSls k = s at *
      have kT : Hid (∀ x, Calls Tryz.prog 91 #[spV ⟨s.vlo, s.vhi⟩, .int .i64 0] x fun e w' => e = .returned (spV ⟨0, 0⟩) ∧ Below x.heap.size x w') := Lib.hid fun x => by
        have := lcTimes ⟨s.vlo, s.vhi⟩ 0 x (by omega) (by simp) (by simp)
        simpa using this
      have kB : Hid (∀ x v, SpsIs [⟨0, 0⟩, ⟨0, 0⟩] v x → Calls Tryz.prog 66 #[v] x fun e w' => e = .returned (spV ⟨0, 0⟩) ∧ Below x.heap.size x w') := Lib.hid fun x v hv => by
        refine lcBoth v [⟨0, 0⟩, ⟨0, 0⟩] x hv (fun k hk => ?_) (by simp)
        match k, hk with
        | 0, _ => simp [spAt]
        | 1, _ => simp [spAt]
      clear c2 c3 d0 d1 z1
      obtain ⟨V, hV⟩ : ∃ V, wr.alloc (.cells #[.int .i64 s.vlo, .int .i64 s.vhi, .int .i64 s.opn, .int .i64 s.fall, .int .i64 s.rlo, .int .i64 s.rhi, .int .i64 s.most] 112) = V := ⟨_, rfl⟩
      obtain ⟨eV, bV, sV⟩ := boxed hV
      clear sV
      go_upto_region 5 with (fail)
      clear x0 x1 x2 x3 x4 x5 x6 c0 c1 z0 hb hb1
      refine plain_region (by kernel_rfl) (any_region_locN 11 30 [] [17, 18, 19, 20, 21, 22, 23, 24, 25, 26, 27] [[], [], [1], [], [3], [], [4, 5], [6], [2, 7], [0, 8], [9]] [IsV (spV ⟨0, 0⟩), IsV (.pointer (some ⟨wr.heap.size, 0, none⟩)), IsV (spV ⟨s.vlo, s.vhi⟩), IsV (.pointer (some ⟨w.heap.size + 1, 0, none⟩)), IsV (.slice (some ⟨wb, wo, none⟩) 3 wc), IsV (.int .i64 k), IsV (.pointer (some ⟨wb, wo + k, none⟩)), IsV (.int .i64 0), IsV (spV ⟨0, 0⟩), SpsIs [⟨0, 0⟩, ⟨0, 0⟩], IsV (spV ⟨0, 0⟩)] [] (by kernel_rfl) (by kernel_rfl) (by kernel_rfl) (by kernel_rfl) (by kernel_rfl) rfl OnlyN.panic ?_ ?_ ?_ (fun j hj => nomatch hj) ?_)
      · exact List.forall_mem_cons.2 ⟨pers_v _, List.forall_mem_cons.2 ⟨pers_v _, List.forall_mem_cons.2 ⟨pers_v _, List.forall_mem_cons.2 ⟨pers_v _, List.forall_mem_cons.2 ⟨pers_v _, List.forall_mem_cons.2 ⟨pers_v _, List.forall_mem_cons.2 ⟨pers_v _, List.forall_mem_cons.2 ⟨pers_v _, List.forall_mem_cons.2 ⟨pers_v _, List.forall_mem_cons.2 ⟨pers_sps _, List.forall_mem_cons.2 ⟨pers_v _, fun f h => nomatch h⟩⟩⟩⟩⟩⟩⟩⟩⟩⟩⟩
      · intro k hk; cases hk
      · refine ⟨?_, ?_, ?_, ?_, ?_, ?_, ?_, ?_, ?_, ?_, ?_, trivial⟩
        · intro vals x hb hf
          simp only [fillS, List.getD_cons_succ, List.getD_cons_zero, Act.put, List.setIfInBounds_toArray, List.set_cons_zero, List.set_cons_succ]
          clear hf
          obtain ⟨g0, g1⟩ := rc2 (kept_block hb (kept_block bV hS.bo))
          obtain ⟨g2, g3⟩ := rc2 (kept_block hb (kept_block bV hS.bm))
          have g4 := (row_cells (kept_block hb eV)).2.1 0
          have g5 := (row_cells (kept_block hb eV)).2.1 1
          have g6 := kept_cell hb (kept_cell bV y0)
          have zx := (Array.getElem?_eq_some_iff.1 (kept_block hb (kept_block bV hS.bo))).1
          have zx2 := (Array.getElem?_eq_some_iff.1 (kept_block hb (kept_block bV hS.bm))).1
          have zx3 := (Array.getElem?_eq_some_iff.1 (kept_block hb eV)).1
          go_wp2
          exact ⟨rfl, rfl, Below.refl _ _, _, rfl, rfl, (fun h => absurd h (by decide))⟩
        · intro vals x hb hf
          simp only [fillS, List.getD_cons_succ, List.getD_cons_zero, Act.put, List.setIfInBounds_toArray, List.set_cons_zero, List.set_cons_succ]
          clear hf
          obtain ⟨g0, g1⟩ := rc2 (kept_block hb (kept_block bV hS.bo))
          obtain ⟨g2, g3⟩ := rc2 (kept_block hb (kept_block bV hS.bm))
          have g4 := (row_cells (kept_block hb eV)).2.1 0
          have g5 := (row_cells (kept_block hb eV)).2.1 1
          have g6 := kept_cell hb (kept_cell bV y0)
          have zx := (Array.getElem?_eq_some_iff.1 (kept_block hb (kept_block bV hS.bo))).1
          have zx2 := (Array.getElem?_eq_some_iff.1 (kept_block hb (kept_block bV hS.bm))).1
          have zx3 := (Array.getElem?_eq_some_iff.1 (kept_block hb eV)).1
          go_wp2
          exact ⟨rfl, rfl, Below.refl _ _, _, rfl, rfl, (fun h => absurd h (by decide))⟩
        · intro vals x hb hf
          simp only [fillS, List.getD_cons_succ, List.getD_cons_zero, Act.put, List.setIfInBounds_toArray, List.set_cons_zero, List.set_cons_succ]
          have h1 : vals 1 = .pointer (some ⟨wr.heap.size, 0, none⟩) := hf.1
          rw [h1]
          clear h1
          clear hf
          obtain ⟨g0, g1⟩ := rc2 (kept_block hb (kept_block bV hS.bo))
          obtain ⟨g2, g3⟩ := rc2 (kept_block hb (kept_block bV hS.bm))
          have g4 := (row_cells (kept_block hb eV)).2.1 0
          have g5 := (row_cells (kept_block hb eV)).2.1 1
          have g6 := kept_cell hb (kept_cell bV y0)
          have zx := (Array.getElem?_eq_some_iff.1 (kept_block hb (kept_block bV hS.bo))).1
          have zx2 := (Array.getElem?_eq_some_iff.1 (kept_block hb (kept_block bV hS.bm))).1
          have zx3 := (Array.getElem?_eq_some_iff.1 (kept_block hb eV)).1
          go_wp2
          exact ⟨rfl, rfl, Below.refl _ _, _, rfl, rfl, (fun h => absurd h (by decide))⟩
        · intro vals x hb hf
          simp only [fillS, List.getD_cons_succ, List.getD_cons_zero, Act.put, List.setIfInBounds_toArray, List.set_cons_zero, List.set_cons_succ]
          clear hf
          obtain ⟨g0, g1⟩ := rc2 (kept_block hb (kept_block bV hS.bo))
          obtain ⟨g2, g3⟩ := rc2 (kept_block hb (kept_block bV hS.bm))
          have g4 := (row_cells (kept_block hb eV)).2.1 0
          have g5 := (row_cells (kept_block hb eV)).2.1 1
          have g6 := kept_cell hb (kept_cell bV y0)
          have zx := (Array.getElem?_eq_some_iff.1 (kept_block hb (kept_block bV hS.bo))).1
          have zx2 := (Array.getElem?_eq_some_iff.1 (kept_block hb (kept_block bV hS.bm))).1
          have zx3 := (Array.getElem?_eq_some_iff.1 (kept_block hb eV)).1
          go_wp2
          exact ⟨rfl, rfl, Below.refl _ _, _, rfl, rfl, (fun h => absurd h (by decide))⟩
        · intro vals x hb hf
          simp only [fillS, List.getD_cons_succ, List.getD_cons_zero, Act.put, List.setIfInBounds_toArray, List.set_cons_zero, List.set_cons_succ]
          have h3 : vals 3 = .pointer (some ⟨w.heap.size + 1, 0, none⟩) := hf.1
          rw [h3]
          clear h3
          clear hf
          obtain ⟨g0, g1⟩ := rc2 (kept_block hb (kept_block bV hS.bo))
          obtain ⟨g2, g3⟩ := rc2 (kept_block hb (kept_block bV hS.bm))
          have g4 := (row_cells (kept_block hb eV)).2.1 0
          have g5 := (row_cells (kept_block hb eV)).2.1 1
          have g6 := kept_cell hb (kept_cell bV y0)
          have zx := (Array.getElem?_eq_some_iff.1 (kept_block hb (kept_block bV hS.bo))).1
          have zx2 := (Array.getElem?_eq_some_iff.1 (kept_block hb (kept_block bV hS.bm))).1
          have zx3 := (Array.getElem?_eq_some_iff.1 (kept_block hb eV)).1
          go_wp2
          exact ⟨rfl, rfl, Below.refl _ _, _, rfl, rfl, (fun h => absurd h (by decide))⟩
        · intro vals x hb hf
          simp only [fillS, List.getD_cons_succ, List.getD_cons_zero, Act.put, List.setIfInBounds_toArray, List.set_cons_zero, List.set_cons_succ]
          clear hf
          obtain ⟨g0, g1⟩ := rc2 (kept_block hb (kept_block bV hS.bo))
          obtain ⟨g2, g3⟩ := rc2 (kept_block hb (kept_block bV hS.bm))
          have g4 := (row_cells (kept_block hb eV)).2.1 0
          have g5 := (row_cells (kept_block hb eV)).2.1 1
          have g6 := kept_cell hb (kept_cell bV y0)
          have zx := (Array.getElem?_eq_some_iff.1 (kept_block hb (kept_block bV hS.bo))).1
          have zx2 := (Array.getElem?_eq_some_iff.1 (kept_block hb (kept_block bV hS.bm))).1
          have zx3 := (Array.getElem?_eq_some_iff.1 (kept_block hb eV)).1
          go_wp2
          exact ⟨rfl, rfl, Below.refl _ _, _, rfl, rfl, (fun h => absurd h (by decide))⟩
        · intro vals x hb hf
          simp only [fillS, List.getD_cons_succ, List.getD_cons_zero, Act.put, List.setIfInBounds_toArray, List.set_cons_zero, List.set_cons_succ]
          have h4 : vals 4 = .slice (some ⟨wb, wo, none⟩) 3 wc := hf.1
          rw [h4]
          clear h4
          have h5 : vals 5 = .int .i64 k := hf.2.1
          rw [h5]
          clear h5
          clear hf
          obtain ⟨g0, g1⟩ := rc2 (kept_block hb (kept_block bV hS.bo))
          obtain ⟨g2, g3⟩ := rc2 (kept_block hb (kept_block bV hS.bm))
          have g4 := (row_cells (kept_block hb eV)).2.1 0
          have g5 := (row_cells (kept_block hb eV)).2.1 1
          have g6 := kept_cell hb (kept_cell bV y0)
          have zx := (Array.getElem?_eq_some_iff.1 (kept_block hb (kept_block bV hS.bo))).1
          have zx2 := (Array.getElem?_eq_some_iff.1 (kept_block hb (kept_block bV hS.bm))).1
          have zx3 := (Array.getElem?_eq_some_iff.1 (kept_block hb eV)).1
          go_wp2
          exact ⟨rfl, rfl, Below.refl _ _, _, rfl, rfl, (fun h => absurd h (by decide))⟩
        · intro vals x hb hf
          simp only [fillS, List.getD_cons_succ, List.getD_cons_zero, Act.put, List.setIfInBounds_toArray, List.set_cons_zero, List.set_cons_succ]
          have h6 : vals 6 = .pointer (some ⟨wb, wo + k, none⟩) := hf.1
          rw [h6]
          clear h6
          clear hf
          obtain ⟨g0, g1⟩ := rc2 (kept_block hb (kept_block bV hS.bo))
          obtain ⟨g2, g3⟩ := rc2 (kept_block hb (kept_block bV hS.bm))
          have g4 := (row_cells (kept_block hb eV)).2.1 0
          have g5 := (row_cells (kept_block hb eV)).2.1 1
          have g6 := kept_cell hb (kept_cell bV y0)
          have zx := (Array.getElem?_eq_some_iff.1 (kept_block hb (kept_block bV hS.bo))).1
          have zx2 := (Array.getElem?_eq_some_iff.1 (kept_block hb (kept_block bV hS.bm))).1
          have zx3 := (Array.getElem?_eq_some_iff.1 (kept_block hb eV)).1
          go_wp2
          exact ⟨rfl, rfl, Below.refl _ _, _, rfl, rfl, (fun h => absurd h (by decide))⟩
        · intro vals x hb hf
          simp only [fillS, List.getD_cons_succ, List.getD_cons_zero, Act.put, List.setIfInBounds_toArray, List.set_cons_zero, List.set_cons_succ]
          have h2 : vals 2 = spV ⟨s.vlo, s.vhi⟩ := hf.1
          rw [h2]
          clear h2
          have h7 : vals 7 = .int .i64 0 := hf.2.1
          rw [h7]
          clear h7
          clear hf
          obtain ⟨g0, g1⟩ := rc2 (kept_block hb (kept_block bV hS.bo))
          obtain ⟨g2, g3⟩ := rc2 (kept_block hb (kept_block bV hS.bm))
          have g4 := (row_cells (kept_block hb eV)).2.1 0
          have g5 := (row_cells (kept_block hb eV)).2.1 1
          have g6 := kept_cell hb (kept_cell bV y0)
          have zx := (Array.getElem?_eq_some_iff.1 (kept_block hb (kept_block bV hS.bo))).1
          have zx2 := (Array.getElem?_eq_some_iff.1 (kept_block hb (kept_block bV hS.bm))).1
          have zx3 := (Array.getElem?_eq_some_iff.1 (kept_block hb eV)).1
          go_wp2_with (go_at_call 91; (with_reducible refine Calls.mono (kT.out x) ?_); rintro e y ⟨rfl, hB⟩)
          exact ⟨rfl, rfl, hB, _, rfl, rfl, (fun h => absurd h (by decide))⟩
        · intro vals x hb hf
          simp only [fillS, List.getD_cons_succ, List.getD_cons_zero, Act.put, List.setIfInBounds_toArray, List.set_cons_zero, List.set_cons_succ]
          have h0 : vals 0 = spV ⟨0, 0⟩ := hf.1
          rw [h0]
          clear h0
          have f8 : (IsV (spV ⟨0, 0⟩)) (vals 8) x := hf.2.1
          clear hf
          obtain ⟨g0, g1⟩ := rc2 (kept_block hb (kept_block bV hS.bo))
          obtain ⟨g2, g3⟩ := rc2 (kept_block hb (kept_block bV hS.bm))
          have g4 := (row_cells (kept_block hb eV)).2.1 0
          have g5 := (row_cells (kept_block hb eV)).2.1 1
          have g6 := kept_cell hb (kept_cell bV y0)
          have zx := (Array.getElem?_eq_some_iff.1 (kept_block hb (kept_block bV hS.bo))).1
          have zx2 := (Array.getElem?_eq_some_iff.1 (kept_block hb (kept_block bV hS.bm))).1
          have zx3 := (Array.getElem?_eq_some_iff.1 (kept_block hb eV)).1
          rw [show vals 8 = spV ⟨0, 0⟩ from f8]
          go_wp2
          exact ⟨rfl, rfl, (Below.refl _ _).alloc (Nat.le_refl _) _, _, rfl, sps_two _ _ _, (fun h => absurd h (by decide))⟩
        · intro vals x hb hf
          simp only [fillS, List.getD_cons_succ, List.getD_cons_zero, Act.put, List.setIfInBounds_toArray, List.set_cons_zero, List.set_cons_succ]
          have f9 : (SpsIs [⟨0, 0⟩, ⟨0, 0⟩]) (vals 9) x := hf.1
          clear hf
          obtain ⟨g0, g1⟩ := rc2 (kept_block hb (kept_block bV hS.bo))
          obtain ⟨g2, g3⟩ := rc2 (kept_block hb (kept_block bV hS.bm))
          have g4 := (row_cells (kept_block hb eV)).2.1 0
          have g5 := (row_cells (kept_block hb eV)).2.1 1
          have g6 := kept_cell hb (kept_cell bV y0)
          have zx := (Array.getElem?_eq_some_iff.1 (kept_block hb (kept_block bV hS.bo))).1
          have zx2 := (Array.getElem?_eq_some_iff.1 (kept_block hb (kept_block bV hS.bm))).1
          have zx3 := (Array.getElem?_eq_some_iff.1 (kept_block hb eV)).1
          go_wp2_with (go_at_call 66; (with_reducible refine Calls.mono (kB.out x _ f9) ?_); rintro e y ⟨rfl, hB⟩)
          exact ⟨rfl, rfl, hB, _, rfl, rfl, (fun h => absurd h (by decide))⟩
      intro vals x hb hf hp
      have hrange : List.range 11 = [0, 1, 2, 3, 4, 5, 6, 7, 8, 9, 10] := by rfl
      rw [hrange]
      simp only [fillS, List.getD_cons_succ, List.getD_cons_zero, Act.put, List.setIfInBounds_toArray, List.set_cons_zero, List.set_cons_succ]
      have h0 : vals 0 = spV ⟨0, 0⟩ := hf 0 (by omega)
      have h1 : vals 1 = .pointer (some ⟨wr.heap.size, 0, none⟩) := hf 1 (by omega)
      have h2 : vals 2 = spV ⟨s.vlo, s.vhi⟩ := hf 2 (by omega)
      have h3 : vals 3 = .pointer (some ⟨w.heap.size + 1, 0, none⟩) := hf 3 (by omega)
      have h4 : vals 4 = .slice (some ⟨wb, wo, none⟩) 3 wc := hf 4 (by omega)
      have h5 : vals 5 = .int .i64 k := hf 5 (by omega)
      have h6 : vals 6 = .pointer (some ⟨wb, wo + k, none⟩) := hf 6 (by omega)
      have h7 : vals 7 = .int .i64 0 := hf 7 (by omega)
      have f8 : (IsV (spV ⟨0, 0⟩)) (vals 8) x := hf 8 (by omega)
      have f9 : (SpsIs [⟨0, 0⟩, ⟨0, 0⟩]) (vals 9) x := hf 9 (by omega)
      have f10 : (IsV (spV ⟨0, 0⟩)) (vals 10) x := hf 10 (by omega)
      rw [h0, h1, h2, h3, h4, h5, h6, h7]
      clear h0 h1 h2 h3 h4 h5 h6 h7 hf hp hrange
      simp only [List.drop_succ_cons, List.drop_zero]
      rw [show vals 10 = spV ⟨0, 0⟩ from f10]
      clear f8 f9 f10 kT kB
      have hx0 := Lib.hid (FiSt.mono (FiSt.mono hS bV) hb)
      obtain ⟨o0, o1⟩ := rf2 hx0.out.bo
      obtain ⟨g0, g1⟩ := rc2 hx0.out.bo
      have zx := (Array.getElem?_eq_some_iff.1 hx0.out.bo).1
      go_wp2
      refine OnlyN.mk ?_
      go_wp2
      exact ⟨⟨k + 1, by omega, by go_num, Lib.hid (FiSt.set hx0.out)⟩, by simp [intOf]; omega⟩
    · obtain rfl : k = exSls.length := by omega
      go_wp2
      obtain ⟨c4, c5⟩ := rc2 (set2 hS.br (.int .i64 0) (.int .i64 0))
      refine bodyPost_ret (v := spV ⟨0, 0⟩) (by simp [results, Tryz.results65, go_sem, c4, c5]) rfl ⟨rfl, hS.bel.trans (below_set2 _ _ (by omega))⟩
end Go.Proofs.YthbkcoijafehgaaGreat.L
set_option linter.unusedVariables false
set_option linter.unusedSimpArgs false
namespace Lc
open Lk
/-- The slice of a place of the way. -/
def exK (j : Nat) : Nat := 2 - j
theorem exWay_drop {j : Nat} (h : j < 3) : exWay.drop j = ((lsAt exSls (exK j)).rlo, (lsAt exSls (exK j)).rhi, (lsAt exSls (exK j)).fall) :: exWay.drop (j + 1) := by
  match j, h with
  | 0, _ => rfl
  | 1, _ => rfl
  | 2, _ => rfl
/-- What is told at a place. -/
def exF (a b : Int) : Sp := restP (exWay.drop a.toNat) b
theorem exSl_ok {k : Nat} (h : k < exSls.length) : 0 ≤ (lsAt exSls k).rlo ∧ (lsAt exSls k).rlo ≤ (lsAt exSls k).rhi ∧ (lsAt exSls k).rhi ≤ 100 ∧ 0 ≤ (lsAt exSls k).fall ∧ (lsAt exSls k).fall ≤ 100 := by
  match k, h with
  | 0, _ => decide
  | 1, _ => decide
  | 2, _ => decide
theorem exF_bd (a b : Int) (h0 : 0 ≤ b) (h1 : b ≤ 100) : 0 ≤ (exF a b).lo ∧ (exF a b).lo ≤ (exF a b).hi ∧ (exF a b).hi ≤ 30000 := by
  have hw : WayOk (exWay.drop a.toNat) := fun x hx => exWay_ok x (List.mem_of_mem_drop hx)
  have := rest_bd (exWay.drop a.toNat) b hw h0 h1
  have hl : (exWay.drop a.toNat).length ≤ 3 := by simp [exWay]
  unfold exF; omega
end Lc
namespace Go.Proofs.YthbkcoijafehgaaGreat.L
open Go.RowKit Go.Sd Lk Lc
/-- Only block mb, and what is new, has turned. -/
abbrev Gb (mb : Nat) (w w' : World) : Prop := w.grownBy w' (some mb)
theorem Gb.next {mb : Nat} {w w1 w2 : World} (h : Gb mb w w1) (hb : Below w.heap.size w1 w2) : Gb mb w w2 :=
  ⟨hb.os.trans h.os, hb.tape.trans h.tape, hb.output.trans h.output, Nat.le_trans h.size hb.size, fun k hk hn => (hb.block k hk).trans (h.block k hk hn)⟩
theorem Gb.tr {mb : Nat} {w w1 w2 : World} (h : Gb mb w w1) (k : Gb mb w1 w2) : Gb mb w w2 :=
  ⟨k.os.trans h.os, k.tape.trans h.tape, k.output.trans h.output, Nat.le_trans h.size k.size, fun i hi hn => (k.block i (Nat.lt_of_lt_of_le hi h.size) hn).trans (h.block i hi hn)⟩
theorem Gb.of {mb : Nat} {w w' : World} (h : Below w.heap.size w w') : Gb mb w w' := ⟨h.os, h.tape, h.output, h.size, fun k hk _ => h.block k hk⟩
theorem MapG.not_cells {w : World} {mb n : Nat} {f : Int → Int → Sp} (h : MapG w mb f) {cs : Array Value} {E : TypeId} {fr : Nat × Nat} (hn : w.heap[n]? = some (.cells cs E fr)) : n ≠ mb := by
  rintro rfl
  obtain ⟨es, clock, h1, _⟩ := h
  rw [h1] at hn
  cases hn
theorem MapG.cell_ne {w : World} {mb n o : Nat} {f : Int → Int → Sp} {v : Value} (h : MapG w mb f) (hn : w.cell? ⟨n, o, none⟩ = some v) : n ≠ mb := by
  rintro rfl
  obtain ⟨es, clock, h1, _⟩ := h
  simp [World.cell?, h1] at hn
theorem MapG.block {w w' : World} {mb n : Nat} {f : Int → Int → Sp} (h : MapG w mb f) (hg : Gb mb w w') {cs : Array Value} {E : TypeId} {fr : Nat × Nat} (hn : w.heap[n]? = some (.cells cs E fr)) : w'.heap[n]? = some (.cells cs E fr) :=
  (hg.block n (Array.getElem?_eq_some_iff.1 hn).1 (by simpa using h.not_cells hn)).trans hn
theorem MapG.kc {w w' : World} {mb : Nat} {f : Int → Int → Sp} (h : MapG w mb f) (hg : Gb mb w w') : Kc w w' :=
  ⟨hg.size, fun b o v hv => hg.cell hv (by simpa using h.cell_ne hv)⟩
/-- What the function reaches: the way, what is known, the cavern, the measure, and itself. -/
structure RC (mb bw bk bc bm br : Nat) (X : World) : Prop where
  way : ∃ yb yo yc, X.heap[bw]? = some (.cells #[.slice (some ⟨yb, yo, none⟩) 3 yc] 32) ∧ IntsAt X (.slice (some ⟨yb, yo, none⟩) 3 yc) [2, 1, 0]
  known : X.heap[bk]? = some (.cells #[.map (some mb)] 157)
  cav : ∃ sb so sc, X.heap[bc]? = some (.cells (exCells (.slice (some ⟨sb, so, none⟩) 3 sc)) 104) ∧ SlsAt X (.slice (some ⟨sb, so, none⟩) 3 sc) exSls
  mea : ∃ wv, X.heap[bm]? = some (.cells #[wv, .int .i64 1] 110) ∧ IntsAt X wv [0, 0, 0]
  fn : X.heap[br]? = some (.cells #[.func (.func 93) #[] #[.pointer (some ⟨bw, 0, none⟩), .pointer (some ⟨bk, 0, none⟩), .pointer (some ⟨bc, 0, none⟩), .pointer (some ⟨bm, 0, none⟩), .pointer (some ⟨br, 0, none⟩)]] 158)
theorem RC.grown {mb bw bk bc bm br : Nat} {X Y : World} (h : RC mb bw bk bc bm br X) {f : Int → Int → Sp} (hm : MapG X mb f) (hg : Gb mb X Y) : RC mb bw bk bc bm br Y := by
  obtain ⟨⟨yb, yo, yc, h1, h2⟩, h3, ⟨sb, so, sc, h4, h5⟩, ⟨wv, h6, h7⟩, h8⟩ := h
  exact ⟨⟨yb, yo, yc, hm.block hg h1, h2.kc (hm.kc hg)⟩, hm.block hg h3, ⟨sb, so, sc, hm.block hg h4, h5.kc (hm.kc hg)⟩, ⟨wv, hm.block hg h6, h7.kc (hm.kc hg)⟩, hm.block hg h8⟩
abbrev restArgs (bw bk bc bm br : Nat) (a b : Int) : Array Value := #[plV a b, .pointer (some ⟨bw, 0, none⟩), .pointer (some ⟨bk, 0, none⟩), .pointer (some ⟨bc, 0, none⟩), .pointer (some ⟨bm, 0, none⟩), .pointer (some ⟨br, 0, none⟩)]
/-- The function's contract at a place. -/
def RestC (mb bw bk bc bm br : Nat) (j : Nat) : Prop := ∀ (b : Int) (X : World), 0 ≤ b → b ≤ 100 → RC mb bw bk bc bm br X → MapG X mb exF →
  Calls Tryz.prog 93 (restArgs bw bk bc bm br j b) X fun e w' => e = .returned (spV (exF j b)) ∧ MapG w' mb exF ∧ Gb mb X w'
set_option maxRecDepth 100000 in
set_option maxHeartbeats 4000000 in
theorem restEnd (mb bw bk bc bm br : Nat) : RestC mb bw bk bc bm br 3 := by
  intro b w h0 h1 hR hM
  obtain ⟨W, hW⟩ : ∃ W, (w.alloc (.cells #[.int .i64 3, .int .i64 b] 160)).alloc (spO ⟨0, 0⟩) = W := ⟨_, rfl⟩
  obtain ⟨e0, e1, s0, b0⟩ := two_new hW
  have hG := Gb.of (mb := mb) b0
  obtain ⟨yb, yo, yc, k1, -⟩ := hR.way
  replace k1 := rc1 (kept_block b0 k1)
  obtain ⟨q0, q1⟩ := rc2 e0
  obtain ⟨q2, q3⟩ := rc2 e1
  obtain ⟨f2, f3⟩ := rf2 e1
  have e1' := Lib.hid e1
  have z0 := (Array.getElem?_eq_some_iff.1 e0).1
  have z1 := (Array.getElem?_eq_some_iff.1 e1).1
  have hM' := Lib.hid hM
  clear e0 e1 s0 hR hM
  show Calls Tryz.prog _ #[.agg #[.int .i64 3, .int .i64 b], _, _, _, _, _] w _
  go_enter Tryz.func93, Tryz.ntmps93
  go_wp2
  obtain ⟨c4, c5⟩ := rc2 (set2 e1'.out (.int .i64 0) (.int .i64 0))
  have hB := b0.trans (below_set2 (w := W) (n := w.heap.size + 1) (i := 0) (j := 1) (.int .i64 0) (.int .i64 0) (by omega))
  refine bodyPost_ret (v := spV ⟨0, 0⟩) (by simp [results, Tryz.results93, go_sem, c4, c5]) rfl ⟨rfl, hM'.out.grown hB, Gb.of hB⟩
/-- What stands in the rounds: four boxes of the call's own, and what the function reaches. -/
structure RSt (mb bw bk bc bm br : Nat) (w : World) (ro so : Nat) (a b : Int) (s : Sl) (o : Sp) (X : World) : Prop where
  bp : X.heap[w.heap.size]? = some (.cells #[.int .i64 a, .int .i64 b] 160)
  bres : X.heap[w.heap.size + 1]? = some (spO ⟨0, 0⟩)
  bs : X.heap[so]? = some (spO ⟨s.rlo, s.rhi⟩)
  bo : X.heap[ro]? = some (spO o)
  far : w.heap.size + 1 < so ∧ so < ro
  rc : RC mb bw bk bc bm br X
  map : MapG X mb exF
  gb : Gb mb w X
theorem RSt.grown {mb bw bk bc bm br : Nat} {w : World} {ro so : Nat} {a b : Int} {s : Sl} {o : Sp} {X Y : World} (h : RSt mb bw bk bc bm br w ro so a b s o X) (hg : Gb mb X Y) (hm : MapG Y mb exF) : RSt mb bw bk bc bm br w ro so a b s o Y :=
  ⟨h.map.block hg h.bp, h.map.block hg h.bres, h.map.block hg h.bs, h.map.block hg h.bo, h.far, h.rc.grown h.map hg, hm, h.gb.tr hg⟩
theorem RSt.mono {mb bw bk bc bm br : Nat} {w : World} {ro so : Nat} {a b : Int} {s : Sl} {o : Sp} {X Y : World} (h : RSt mb bw bk bc bm br w ro so a b s o X) (hb : Below X.heap.size X Y) : RSt mb bw bk bc bm br w ro so a b s o Y :=
  h.grown (Gb.of hb) (h.map.grown hb)
theorem RSt.set {mb bw bk bc bm br : Nat} {w : World} {ro so : Nat} {a b : Int} {s : Sl} {o : Sp} {X : World} (h : RSt mb bw bk bc bm br w ro so a b s o X) (hw : MapG w mb exF) (hr : RC mb bw bk bc bm br w) (t : Sp) :
    RSt mb bw bk bc bm br w ro so a b s t ((X.setCell ⟨ro, 0, none⟩ (.int .i64 t.lo)).setCell ⟨ro, 1, none⟩ (.int .i64 t.hi)) := by
  have hf := h.far
  have hb : Below w.heap.size X ((X.setCell ⟨ro, 0, none⟩ (.int .i64 t.lo)).setCell ⟨ro, 1, none⟩ (.int .i64 t.hi)) := below_set2 _ _ (by omega)
  have hg := h.gb.next hb
  refine ⟨(set2_other _ _ (by omega)).trans h.bp, (set2_other _ _ (by omega)).trans h.bres, (set2_other _ _ (by omega)).trans h.bs, set2 h.bo _ _, hf, hr.grown hw hg, ?_, hg⟩
  obtain ⟨es, clock, h1, h2⟩ := h.map
  exact ⟨es, clock, (set2_other _ _ (Ne.symm (h.map.not_cells h.bo))).trans h1, h2⟩
end Go.Proofs.YthbkcoijafehgaaGreat.L
