/- Laws and walks: Lw9, LPar. -/
import Derived.Test.YthjmdagonfeneaaGreatK43
set_option maxRecDepth 100000
set_option maxHeartbeats 16000000
set_option linter.unusedVariables false
set_option linter.unusedSimpArgs false
namespace Go.Proofs.YthjmdagonfeneaaGreat.L
open Go.RowKit Go.Sd Lk Lc
structure BoSt (sv wv : Value) (w : World) (ob : Nat) (o : Sp) (W : World) : Prop where
 bc : W.heap[w.heap.size]? = some (.cells (exCells sv) 120)
 bm : W.heap[w.heap.size + 1]? = some (.cells #[wv, .int .i64 1] 124)
 br : W.heap[w.heap.size + 2]? = some (spO ⟨0, 0⟩)
 bo : W.heap[ob]? = some (spO o)
 far : w.heap.size + 2 < ob
 bel : Below w.heap.size w W
theorem BoSt.mono {sv wv : Value} {w W V : World} {ob : Nat} {o : Sp} (h : BoSt sv wv w ob o W) (hb : Below W.heap.size W V) : BoSt sv wv w ob o V :=
 ⟨kept_block hb h.bc, kept_block hb h.bm, kept_block hb h.br, kept_block hb h.bo, h.far, below_tr h.bel hb⟩
theorem BoSt.set {sv wv : Value} {w W : World} {ob : Nat} {o : Sp} (h : BoSt sv wv w ob o W) (t : Sp) : BoSt sv wv w ob t ((W.setCell ⟨ob, 0, none⟩ (.int .i64 t.lo)).setCell ⟨ob, 1, none⟩ (.int .i64 t.hi)) := by
 have := h.far
 exact ⟨(set2_other _ _ (by omega)).trans h.bc, (set2_other _ _ (by omega)).trans h.bm, (set2_other _ _ (by omega)).trans h.br, set2 h.bo _ _, h.far, h.bel.trans (below_set2 _ _ (by omega))⟩
def exO (k : Nat) : Sp := if k = 0 then ⟨0, 0⟩ else ⟨20000, 45000⟩
theorem boundT (sv lv wv : Value) (w : World) (h : SlsAt w sv exSls) (hl : SgsAt w lv [exB]) (hw : IntsAt w wv [0, 0, 0]) :
    Calls Tryz.prog 58 #[.agg (exCells sv), lv, .agg #[wv, .int .i64 1]] w fun e w' => e = .returned (spV ⟨20000, 45000⟩) ∧ Below w.heap.size w w' := by
 obtain ⟨sb, so, scp, rfl⟩ : ∃ b o c, sv = .slice (some ⟨b, o, none⟩) 3 c := by
  obtain ⟨sa, scp, rfl, -, hc⟩ := h
  obtain ⟨sb, so, rfl, -, -⟩ := hc (by decide)
  exact ⟨sb, so, scp, rfl⟩
 obtain ⟨wb, wo, wc, hwv, -, -, -⟩ := int_cells hw (k := 0) (by simp)
 replace hwv : wv = .slice (some ⟨wb, wo, none⟩) 3 wc := hwv
 subst hwv
 obtain ⟨sv, hsv⟩ : ∃ sv, sv = Value.slice (some ⟨sb, so, none⟩) 3 scp := ⟨_, rfl⟩
 obtain ⟨wv, hwv⟩ : ∃ wv, wv = Value.slice (some ⟨wb, wo, none⟩) 3 wc := ⟨_, rfl⟩
 rw [← hsv] at h ⊢
 rw [← hwv] at hw ⊢
 clear hsv hwv
 obtain ⟨W, hW⟩ : ∃ W, ((w.alloc (.cells (exCells sv) 120)).alloc (.cells #[wv, .int .i64 1] 124)).alloc (spO ⟨0, 0⟩) = W := ⟨_, rfl⟩
 obtain ⟨e0, e1, e2, s0, b0⟩ := three_new hW
 have kF := Lib.hid (firstT sv wv W (h.mono b0) (hw.mono b0))
 have hc := Lib.hid h
 have hwc := Lib.hid hw
 obtain ⟨lb, lo, lc, rfl, hlb, hlx⟩ : ∃ b o c, lv = .slice (some ⟨b, o, none⟩) 1 c ∧ b < w.heap.size ∧ ∀ k i u, k < [exB].length → (sgEn ([exB].getD k ⟨0, 0, 0, 0⟩))[i]? = some u → w.cell? ⟨b, o + k * 4 + i, none⟩ = some u := by
  obtain ⟨la, lc, rfl, -, hlc⟩ := hl.form
  obtain ⟨lb, lo, rfl, hlb, hlx⟩ := hlc (by decide)
  exact ⟨lb, lo, lc, rfl, hlb, hlx⟩
 have x0 : w.cell? ⟨lb, lo + 0 * 4, none⟩ = some (.int .i64 10) := hlx 0 0 _ (by decide) rfl
 have x1 : w.cell? ⟨lb, lo + 0 * 4 + 1, none⟩ = some (.int .i64 2) := hlx 0 1 _ (by decide) rfl
 have x2 : w.cell? ⟨lb, lo + 0 * 4 + 2, none⟩ = some (.int .i64 0) := hlx 0 2 _ (by decide) rfl
 have x3 : w.cell? ⟨lb, lo + 0 * 4 + 3, none⟩ = some (.int .i64 3) := hlx 0 3 _ (by decide) rfl
 simp only [Nat.zero_mul, Nat.add_zero] at x0 x1 x2 x3
 replace hlx : Hid (w.cell? ⟨lb, lo, none⟩ = some (.int .i64 10) ∧ w.cell? ⟨lb, lo + 1, none⟩ = some (.int .i64 2) ∧ w.cell? ⟨lb, lo + 2, none⟩ = some (.int .i64 0) ∧ w.cell? ⟨lb, lo + 3, none⟩ = some (.int .i64 3)) := Lib.hid ⟨x0, x1, x2, x3⟩
 clear x0 x1 x2 x3 hl
 have h3 := Lib.hid (show ∀ V, Below W.heap.size W V → BoSt sv wv w V.heap.size ⟨0, 0⟩ (V.alloc (spO ⟨0, 0⟩)) from fun V hV => by
  have hv := hV.size
  have hA := (Below.refl V.heap.size V).alloc (Nat.le_refl _) (spO ⟨0, 0⟩)
  exact ⟨kept_block hA (kept_block hV e0), kept_block hA (kept_block hV e1), kept_block hA (kept_block hV e2), World.alloc_heap_new _ _, by omega, below_tr b0 (below_tr hV hA)⟩)
 obtain ⟨q0, q1, q2⟩ := rc3 e0
 obtain ⟨q3, q4⟩ := rc2 e1
 have z0 := (zqo e0)
 have z1 := (zqo e1)
 clear e0 e1 e2 s0 b0 h hw
 go_enter Tryz.func58, Tryz.ntmps58
 go_wp2_with (go_at_call 88; (with_reducible refine Calls.mono kF.out ?_); rintro e V ⟨rfl, hV⟩; have hS0 := Lib.hid (h3.out V hV))
 clear q0 q1 q2 q3 q4 z0 z1
 obtain ⟨ob, hob⟩ : ∃ ob, ob = V.heap.size := ⟨_, rfl⟩
 rw [← hob] at hS0 ⊢
 clear hob kF h3 hV hW
 go_loopw [15] (fun i wr => ∃ k : Nat, k ≤ 1 ∧ i = .int .i64 k ∧ Hid (BoSt sv wv w ob (exO k) wr)) (fun i _ => 1 - (intOf i).toNat)
 case atStart => exact ⟨0, by omega, rfl, hS0⟩
 case round =>
  obtain ⟨k, hk, rfl, hH⟩ := hrel
  have hS := hH.out
  have hfar := hS.far
  obtain ⟨c0, c1⟩ := rc2 hS.bo
  have z0 := (zqo hS.bo)
  by_cases hkl : k < 1
  · obtain rfl : k = 0 := by omega
    obtain ⟨x0, x1, x2, x3⟩ := hlx.out
    replace x0 := kept_cell hS.bel x0
    replace x1 := kept_cell hS.bel x1
    replace x2 := kept_cell hS.bel x2
    replace x3 := kept_cell hS.bel x3
    have hb1 := Nat.lt_of_lt_of_le hlb hS.bel.size
    obtain ⟨Z, hZ⟩ : ∃ Z, wr.alloc (.cells #[.int .i64 10, .int .i64 2, .int .i64 0, .int .i64 3] 72) = Z := ⟨_, rfl⟩
    obtain ⟨eZ, bZ, -⟩ := boxed hZ
    have hwZ := below_tr hS.bel bZ
    have kG : Hid (∀ x, Below Z.heap.size Z x → Calls Tryz.prog 90 #[.agg (exCells sv), .agg #[.int .i64 10, .int .i64 2, .int .i64 0, .int .i64 3], .agg #[wv, .int .i64 1]] x fun e w' => e = .returned (spV ⟨20000, 45000⟩) ∧ Below x.heap.size x w') := Lib.hid fun x hx =>
     grownT sv wv x (hc.out.mono (below_tr hwZ hx)) (hwc.out.mono (below_tr hwZ hx))
    have kB : Hid (∀ x v, SpsIs [⟨0, 0⟩, ⟨20000, 45000⟩] v x → Calls Tryz.prog 89 #[v] x fun e w' => e = .returned (spV ⟨20000, 45000⟩) ∧ Below x.heap.size x w') := Lib.hid fun x v hv => by
     refine lcBoth v [⟨0, 0⟩, ⟨20000, 45000⟩] x hv (fun k hk => ?_) (by simp)
     match k, hk with
     | 0, _ => simp [spAt]
     | 1, _ => simp [spAt]
    go_upto_region 5 with (fail)
    clear x0 x1 x2 x3 c0 c1 z0 hb1
    refine plain_region (by kernel_rfl) (any_region_locN 7 28 [] [19, 20, 21, 22, 23, 24, 25] [[], [], [], [], [1, 2, 3], [0, 4], [5]] [IsV (spV ⟨0, 0⟩), IsV (.agg (exCells sv)), IsV (.agg #[.int .i64 10, .int .i64 2, .int .i64 0, .int .i64 3]), IsV (.agg #[wv, .int .i64 1]), IsV (spV ⟨20000, 45000⟩), SpsIs [⟨0, 0⟩, ⟨20000, 45000⟩], IsV (spV ⟨20000, 45000⟩)] [] (by kernel_rfl) (by kernel_rfl) (by kernel_rfl) (by kernel_rfl) (by kernel_rfl) rfl OnlyN.panic ?_ ?_ ?_ (fun j hj => nomatch hj) ?_)
    · exact List.forall_mem_cons.2 ⟨pers_v _, List.forall_mem_cons.2 ⟨pers_v _, List.forall_mem_cons.2 ⟨pers_v _, List.forall_mem_cons.2 ⟨pers_v _, List.forall_mem_cons.2 ⟨pers_v _, List.forall_mem_cons.2 ⟨pers_sps _, List.forall_mem_cons.2 ⟨pers_v _, fun f h => nomatch h⟩⟩⟩⟩⟩⟩⟩
    · intro k hk; cases hk
    · refine ⟨?_, ?_, ?_, ?_, ?_, ?_, ?_, trivial⟩
      · intro vals x hb hf
        simp only [fillS, List.getD_cons_succ, List.getD_cons_zero, Act.put, List.setIfInBounds_toArray, List.set_cons_zero, List.set_cons_succ]
        clear hf
        obtain ⟨g0, g1⟩ := rc2 (kept_block hb (kept_block bZ hS.bo))
        obtain ⟨g2, g3⟩ := rc2 (kept_block hb (kept_block bZ hS.bm))
        obtain ⟨g4, g5, g6⟩ := rc3 (kept_block hb (kept_block bZ hS.bc))
        obtain ⟨g7, g8, g9, g10⟩ := rc4 (kept_block hb eZ)
        have zx := (Array.getElem?_eq_some_iff.1 (kept_block hb (kept_block bZ hS.bo))).1
        have zx2 := (Array.getElem?_eq_some_iff.1 (kept_block hb (kept_block bZ hS.bm))).1
        have zx3 := (Array.getElem?_eq_some_iff.1 (kept_block hb eZ)).1
        have zx4 := (Array.getElem?_eq_some_iff.1 (kept_block hb (kept_block bZ hS.bc))).1
        go_wp2
        exact ⟨rfl, rfl, Below.refl _ _, _, rfl, rfl, (fun h => absurd h (by decide))⟩
      · intro vals x hb hf
        simp only [fillS, List.getD_cons_succ, List.getD_cons_zero, Act.put, List.setIfInBounds_toArray, List.set_cons_zero, List.set_cons_succ]
        clear hf
        obtain ⟨g0, g1⟩ := rc2 (kept_block hb (kept_block bZ hS.bo))
        obtain ⟨g2, g3⟩ := rc2 (kept_block hb (kept_block bZ hS.bm))
        obtain ⟨g4, g5, g6⟩ := rc3 (kept_block hb (kept_block bZ hS.bc))
        obtain ⟨g7, g8, g9, g10⟩ := rc4 (kept_block hb eZ)
        have zx := (Array.getElem?_eq_some_iff.1 (kept_block hb (kept_block bZ hS.bo))).1
        have zx2 := (Array.getElem?_eq_some_iff.1 (kept_block hb (kept_block bZ hS.bm))).1
        have zx3 := (Array.getElem?_eq_some_iff.1 (kept_block hb eZ)).1
        have zx4 := (Array.getElem?_eq_some_iff.1 (kept_block hb (kept_block bZ hS.bc))).1
        go_wp2
        exact ⟨rfl, rfl, Below.refl _ _, _, rfl, rfl, (fun h => absurd h (by decide))⟩
      · intro vals x hb hf
        simp only [fillS, List.getD_cons_succ, List.getD_cons_zero, Act.put, List.setIfInBounds_toArray, List.set_cons_zero, List.set_cons_succ]
        clear hf
        obtain ⟨g0, g1⟩ := rc2 (kept_block hb (kept_block bZ hS.bo))
        obtain ⟨g2, g3⟩ := rc2 (kept_block hb (kept_block bZ hS.bm))
        obtain ⟨g4, g5, g6⟩ := rc3 (kept_block hb (kept_block bZ hS.bc))
        obtain ⟨g7, g8, g9, g10⟩ := rc4 (kept_block hb eZ)
        have zx := (Array.getElem?_eq_some_iff.1 (kept_block hb (kept_block bZ hS.bo))).1
        have zx2 := (Array.getElem?_eq_some_iff.1 (kept_block hb (kept_block bZ hS.bm))).1
        have zx3 := (Array.getElem?_eq_some_iff.1 (kept_block hb eZ)).1
        have zx4 := (Array.getElem?_eq_some_iff.1 (kept_block hb (kept_block bZ hS.bc))).1
        go_wp2
        exact ⟨rfl, rfl, Below.refl _ _, _, rfl, rfl, (fun h => absurd h (by decide))⟩
      · intro vals x hb hf
        simp only [fillS, List.getD_cons_succ, List.getD_cons_zero, Act.put, List.setIfInBounds_toArray, List.set_cons_zero, List.set_cons_succ]
        clear hf
        obtain ⟨g0, g1⟩ := rc2 (kept_block hb (kept_block bZ hS.bo))
        obtain ⟨g2, g3⟩ := rc2 (kept_block hb (kept_block bZ hS.bm))
        obtain ⟨g4, g5, g6⟩ := rc3 (kept_block hb (kept_block bZ hS.bc))
        obtain ⟨g7, g8, g9, g10⟩ := rc4 (kept_block hb eZ)
        have zx := (Array.getElem?_eq_some_iff.1 (kept_block hb (kept_block bZ hS.bo))).1
        have zx2 := (Array.getElem?_eq_some_iff.1 (kept_block hb (kept_block bZ hS.bm))).1
        have zx3 := (Array.getElem?_eq_some_iff.1 (kept_block hb eZ)).1
        have zx4 := (Array.getElem?_eq_some_iff.1 (kept_block hb (kept_block bZ hS.bc))).1
        go_wp2
        exact ⟨rfl, rfl, Below.refl _ _, _, rfl, rfl, (fun h => absurd h (by decide))⟩
      · intro vals x hb hf
        simp only [fillS, List.getD_cons_succ, List.getD_cons_zero, Act.put, List.setIfInBounds_toArray, List.set_cons_zero, List.set_cons_succ]
        have h1 : vals 1 = .agg (exCells sv) := hf.1
        rw [h1]
        clear h1
        have h2 : vals 2 = .agg #[.int .i64 10, .int .i64 2, .int .i64 0, .int .i64 3] := hf.2.1
        rw [h2]
        clear h2
        have h3 : vals 3 = .agg #[wv, .int .i64 1] := hf.2.2.1
        rw [h3]
        clear h3
        clear hf
        obtain ⟨g0, g1⟩ := rc2 (kept_block hb (kept_block bZ hS.bo))
        obtain ⟨g2, g3⟩ := rc2 (kept_block hb (kept_block bZ hS.bm))
        obtain ⟨g4, g5, g6⟩ := rc3 (kept_block hb (kept_block bZ hS.bc))
        obtain ⟨g7, g8, g9, g10⟩ := rc4 (kept_block hb eZ)
        have zx := (Array.getElem?_eq_some_iff.1 (kept_block hb (kept_block bZ hS.bo))).1
        have zx2 := (Array.getElem?_eq_some_iff.1 (kept_block hb (kept_block bZ hS.bm))).1
        have zx3 := (Array.getElem?_eq_some_iff.1 (kept_block hb eZ)).1
        have zx4 := (Array.getElem?_eq_some_iff.1 (kept_block hb (kept_block bZ hS.bc))).1
        go_wp2_with (go_at_call 90; (with_reducible refine Calls.mono (kG.out x hb) ?_); rintro e y ⟨rfl, hB⟩)
        exact ⟨rfl, rfl, hB, _, rfl, rfl, (fun h => absurd h (by decide))⟩
      · intro vals x hb hf
        simp only [fillS, List.getD_cons_succ, List.getD_cons_zero, Act.put, List.setIfInBounds_toArray, List.set_cons_zero, List.set_cons_succ]
        have h0 : vals 0 = spV ⟨0, 0⟩ := hf.1
        rw [h0]
        clear h0
        have f4 : (IsV (spV ⟨20000, 45000⟩)) (vals 4) x := hf.2.1
        clear hf
        obtain ⟨g0, g1⟩ := rc2 (kept_block hb (kept_block bZ hS.bo))
        obtain ⟨g2, g3⟩ := rc2 (kept_block hb (kept_block bZ hS.bm))
        obtain ⟨g4, g5, g6⟩ := rc3 (kept_block hb (kept_block bZ hS.bc))
        obtain ⟨g7, g8, g9, g10⟩ := rc4 (kept_block hb eZ)
        have zx := (Array.getElem?_eq_some_iff.1 (kept_block hb (kept_block bZ hS.bo))).1
        have zx2 := (Array.getElem?_eq_some_iff.1 (kept_block hb (kept_block bZ hS.bm))).1
        have zx3 := (Array.getElem?_eq_some_iff.1 (kept_block hb eZ)).1
        have zx4 := (Array.getElem?_eq_some_iff.1 (kept_block hb (kept_block bZ hS.bc))).1
        rw [show vals 4 = spV ⟨20000, 45000⟩ from f4]
        go_wp2
        exact ⟨rfl, rfl, (Below.refl _ _).alloc (Nat.le_refl _) _, _, rfl, sps_two _ _ _, (fun h => absurd h (by decide))⟩
      · intro vals x hb hf
        simp only [fillS, List.getD_cons_succ, List.getD_cons_zero, Act.put, List.setIfInBounds_toArray, List.set_cons_zero, List.set_cons_succ]
        have f5 : (SpsIs [⟨0, 0⟩, ⟨20000, 45000⟩]) (vals 5) x := hf.1
        clear hf
        obtain ⟨g0, g1⟩ := rc2 (kept_block hb (kept_block bZ hS.bo))
        obtain ⟨g2, g3⟩ := rc2 (kept_block hb (kept_block bZ hS.bm))
        obtain ⟨g4, g5, g6⟩ := rc3 (kept_block hb (kept_block bZ hS.bc))
        obtain ⟨g7, g8, g9, g10⟩ := rc4 (kept_block hb eZ)
        have zx := (Array.getElem?_eq_some_iff.1 (kept_block hb (kept_block bZ hS.bo))).1
        have zx2 := (Array.getElem?_eq_some_iff.1 (kept_block hb (kept_block bZ hS.bm))).1
        have zx3 := (Array.getElem?_eq_some_iff.1 (kept_block hb eZ)).1
        have zx4 := (Array.getElem?_eq_some_iff.1 (kept_block hb (kept_block bZ hS.bc))).1
        go_wp2_with (go_at_call 89; (with_reducible refine Calls.mono (kB.out x _ f5) ?_); rintro e y ⟨rfl, hB⟩)
        exact ⟨rfl, rfl, hB, _, rfl, rfl, (fun h => absurd h (by decide))⟩
    intro vals x hb hf hp
    have hrange : List.range 7 = [0, 1, 2, 3, 4, 5, 6] := by rfl
    rw [hrange]
    simp only [fillS, List.getD_cons_succ, List.getD_cons_zero, Act.put, List.setIfInBounds_toArray, List.set_cons_zero, List.set_cons_succ]
    have h0 : vals 0 = spV ⟨0, 0⟩ := hf 0 (by omega)
    have h1 : vals 1 = .agg (exCells sv) := hf 1 (by omega)
    have h2 : vals 2 = .agg #[.int .i64 10, .int .i64 2, .int .i64 0, .int .i64 3] := hf 2 (by omega)
    have h3 : vals 3 = .agg #[wv, .int .i64 1] := hf 3 (by omega)
    have f4 : (IsV (spV ⟨20000, 45000⟩)) (vals 4) x := hf 4 (by omega)
    have f5 : (SpsIs [⟨0, 0⟩, ⟨20000, 45000⟩]) (vals 5) x := hf 5 (by omega)
    have f6 : (IsV (spV ⟨20000, 45000⟩)) (vals 6) x := hf 6 (by omega)
    rw [h0, h1, h2, h3]
    clear h0 h1 h2 h3 hf hp hrange
    simp only [List.drop_succ_cons, List.drop_zero]
    rw [show vals 6 = spV ⟨20000, 45000⟩ from f6]
    clear f4 f5 f6 kG kB
    have hx0 := Lib.hid ((hS.mono bZ).mono hb)
    obtain ⟨o0, o1⟩ := rf2 hx0.out.bo
    obtain ⟨g0, g1⟩ := rc2 hx0.out.bo
    have zx := (zqo hx0.out.bo)
    go_wp2
    refine OnlyN.mk ?_
    go_wp2
    exact ⟨⟨1, by omega, rfl, Lib.hid (hx0.out.set ⟨20000, 45000⟩)⟩, by simp [intOf]⟩
  · obtain rfl : k = 1 := by omega
    obtain ⟨d0, d1⟩ := rf2 hS.br
    obtain ⟨d2, d3⟩ := rc2 hS.br
    have z1 := (zqo hS.br)
    replace c0 : wr.cell? ⟨ob, 0, none⟩ = some (.int .i64 20000) := c0
    replace c1 : wr.cell? ⟨ob, 1, none⟩ = some (.int .i64 45000) := c1
    go_wp2
    obtain ⟨c4, c5⟩ := rc2 (set2 hS.br (.int .i64 20000) (.int .i64 45000))
    refine bodyPost_ret (v := spV ⟨20000, 45000⟩) (by simp [results, Tryz.results58, go_sem, c4, c5]) rfl ⟨rfl, hS.bel.trans (below_set2 _ _ (by omega))⟩
theorem exBound (sv lv wv : Value) (w : World) (h : SlsAt w sv exSls) (hl : SgsAt w lv [exB]) (hw : IntsAt w wv [0, 0, 0]) :
    Calls Tryz.prog 22 #[.agg (exCells sv), lv, wv, .int .i64 1] w fun e w' => e = .returned (.tuple #[spV ⟨20000, 45000⟩, .int .i64 0]) ∧ Below w.heap.size w w' := by
 obtain ⟨sb, so, scp, rfl⟩ : ∃ b o c, sv = .slice (some ⟨b, o, none⟩) 3 c := by
  obtain ⟨sa, scp, rfl, -, hc⟩ := h
  obtain ⟨sb, so, rfl, -, -⟩ := hc (by decide)
  exact ⟨sb, so, scp, rfl⟩
 obtain ⟨lb, lo, lc, rfl⟩ : ∃ b o c, lv = .slice (some ⟨b, o, none⟩) 1 c := by
  obtain ⟨sa, scp, rfl, -, hc⟩ := hl
  obtain ⟨sb, so, rfl, -, -⟩ := hc (by decide)
  exact ⟨sb, so, scp, rfl⟩
 obtain ⟨wb, wo, wc, hwv, -, -, -⟩ := int_cells hw (k := 0) (by simp)
 replace hwv : wv = .slice (some ⟨wb, wo, none⟩) 3 wc := hwv
 subst hwv
 obtain ⟨W, hW⟩ : ∃ W, ((w.alloc (.cells (exCells (.slice (some ⟨sb, so, none⟩) 3 scp)) 69)).alloc (spO ⟨0, 0⟩)).alloc (.cells (exCells (.slice (some ⟨sb, so, none⟩) 3 scp)) 120) = W := ⟨_, rfl⟩
 obtain ⟨e0, e1, e2, s0, b0⟩ := three_new hW
 have kA := Lib.hid (askedT _ _ W (h.mono b0) (hl.mono b0))
 obtain ⟨q0, q1, q2⟩ := rc3 e0
 obtain ⟨q3, q4, q5⟩ := rc3 e2
 obtain ⟨q6, q7⟩ := rc2 e1
 obtain ⟨q8, q9⟩ := rf2 e1
 have z0 := (zqo e0)
 have z1 := (zqo e1)
 have z2 := (zqo e2)
 have hE : ∀ args w, (callFunc 55 args).run Tryz.prog w = .ok (.enter 55 args) w := fun _ _ => by kernel_rfl
 clear s0
 go_enter Tryz.func22, Tryz.ntmps22
 go_wp2_with (first
  | (go_at_call 54; (with_reducible refine Calls.mono kA.out ?_); rintro e V ⟨rfl, hV⟩; have b1 := below_tr b0 hV; have f0 := kept_block hV e0; have f1 := kept_block hV e1; have f2 := kept_block hV e2; clear hV q0 q1 q2 q3 q4 q5 q6 q7 q8 q9 z0 z1 z2 kA; obtain ⟨q0, q1, q2⟩ := rc3 f0; have z0 := (zqo f0))
  | (go_at_call 55; (with_reducible refine Calls.mono (weightT 1 (by decide) _) ?_); rintro e U ⟨rfl, rfl⟩)
  | (go_at_call 43; (refine Calls.mono (weightsT _ V.heap.size _ (rc1 (World.alloc_heap_new V _)) (hw.mono (below_tr b1 ((Below.refl V.heap.size V).alloc (Nat.le_refl _) _)))) ?_); rintro e Y ⟨rfl, hY⟩; have hVY := below_tr ((Below.refl V.heap.size V).alloc (Nat.le_refl _) _) hY; have b2 := below_tr b1 hVY; have g0 := kept_block hVY f0; have g1 := kept_block hVY f1; have g2 := kept_block hVY f2; have kB := Lib.hid (boundT _ _ _ Y (h.mono b2) (hl.mono b2) (hw.mono b2)); clear hY hVY f0 f1 f2 q0 q1 q2 z0; obtain ⟨q3, q4, q5⟩ := rc3 g2; have z2 := (zqo g2))
  | (go_at_call 58; (with_reducible refine Calls.mono kB.out ?_); rintro e Z ⟨rfl, hZ⟩; have b3 := below_tr b2 hZ; have g3 := kept_block hZ g1; obtain ⟨q6, q7⟩ := rc2 g3; obtain ⟨q8, q9⟩ := rf2 g3; have z1 := (zqo g3)))
 obtain ⟨c4, c5⟩ := rc2 (set2 g3 (.int .i64 20000) (.int .i64 45000))
 refine bodyPost_ret (v := .tuple #[spV ⟨20000, 45000⟩, .int .i64 0]) (by simp [results, Tryz.results22, go_sem, c4, c5]) rfl ⟨rfl, b3.trans (below_set2 _ _ (by omega))⟩
end Go.Proofs.YthjmdagonfeneaaGreat.L
set_option linter.unusedVariables false
set_option linter.unusedSimpArgs false
namespace Lk
end Lk
namespace Go.Proofs.YthjmdagonfeneaaGreat.L
open Go.RowKit Go.Sd Lk
attribute [local go_sem] Oper.semAt_some
theorem set3 {w : World} {n : Nat} {a b c : Value} {e : TypeId} (h : w.heap[n]? = some (.cells #[a, b, c] e)) (a' b' c' : Value) :
    (((w.setCell ⟨n, 0, none⟩ a').setCell ⟨n, 1, none⟩ b').setCell ⟨n, 2, none⟩ c').heap[n]? = some (.cells #[a', b', c'] e) := by
 simp only [World.setCell, Array.getElem?_modify, if_true, h]
 rfl
end Go.Proofs.YthjmdagonfeneaaGreat.L
