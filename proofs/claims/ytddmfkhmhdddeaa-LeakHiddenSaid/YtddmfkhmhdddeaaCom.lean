/- Walks: what comes to a zone on a day (the program). -/
import Derived.Test.YtddmfkhmhdddeaaMt
import Derived.RegionTactic
import Derived.BigRegion
set_option linter.unusedVariables false
set_option linter.unusedSimpArgs false
namespace Lk
theorem comes_in {b : Bk} {g : Gs} {z d : Nat} (h1 : g.zone = z) (h2 : g.since ≤ d) : b.comes g z d = ⟨(spAt (rwAt b.flows d) z).lo - g.size, (spAt (rwAt b.flows d) z).hi - g.size⟩ := by
  simp [Bk.comes, Bk.flowAt, lost, h1, h2]
theorem comes_out {b : Bk} {g : Gs} {z d : Nat} (h : ¬ (g.zone = z ∧ g.since ≤ d)) : b.comes g z d = spAt (rwAt b.flows d) z := by
  simp only [Bk.comes, Bk.flowAt, lost, if_neg h]
  cases spAt (rwAt b.flows d) z; simp
end Lk
namespace Go.Proofs.Ytddmfkhmhdddeaa
open Go.RowKit Go.Sd Lk

abbrev viO (fv wv rv : Value) (g : Gs) (z : Nat) (bv : Value) : Obj := .cells #[fv, wv, rv, .int .i64 g.zone, .int .i64 g.size, .int .i64 g.since, .int .i64 z, bv] 121

set_option maxRecDepth 100000 in
set_option maxHeartbeats 8000000 in
theorem progComes (p : Nat) (fv wv rv bv : Value) (b : Bk) (g : Gs) (z d : Nat) (w : World) (hv : w.heap[p]? = some (viO fv wv rv g z bv)) (hb : BookAt w fv wv rv b) (ok : Ok b) (hg : b.gsB g = true) (hz : z < b.first.length) (hd : d < b.flows.length) :
    Calls Try.prog 97 #[.pointer (some ⟨p, 0, none⟩), .int .i64 d] w fun e w' => e = .returned (spV (b.comes g z d)) ∧ Below w.heap.size w w' := by
  obtain ⟨wb, wo, wc, ev, rfl, hwb, hwm, x0, hev⟩ := sprow_cell hb.flows hd
  obtain ⟨fb, fo, fc, rfl, hfb, hfm, y0, y1⟩ := sp_cells hev (k := z) (by rw [ok.rows d hd]; exact hz)
  have hrow := ok.rows d hd
  have hfl := ok.flows d z hd hz
  rw [hrow] at x0 hfm
  clear hev
  have hsz : -10000000 ≤ g.size ∧ g.size ≤ 10000000 := by
    simp only [Bk.gsB, Bool.or_eq_true, decide_eq_true_eq, Bool.and_eq_true, inB_iff] at hg
    rcases hg with rfl | hg
    · simp [noGs]
    · omega
  obtain ⟨W, hW⟩ : ∃ W, w.alloc (spO ⟨0, 0⟩) = W := ⟨_, rfl⟩
  obtain ⟨e0, b0, s0⟩ := boxed hW
  replace hv := kept_block b0 hv
  obtain ⟨v0, v1, v2, v3, v4, v5, v6, v7⟩ := rc8 hv
  replace x0 := kept_cell b0 x0
  replace y0 := kept_cell b0 y0
  replace y1 := kept_cell b0 y1
  have zp := (Array.getElem?_eq_some_iff.1 hv).1
  have zw := World.block_lt_of_cell? W ⟨wb, _, none⟩ x0
  have zf := World.block_lt_of_cell? W ⟨fb, _, none⟩ y0
  simp only at zw zf
  have z0 := (Array.getElem?_eq_some_iff.1 e0).1
  have hzi : (z : Int) < (b.first.length : Int) := by omega
  have hdi : (d : Int) < (b.flows.length : Int) := by omega
  have hci := Lib.hid (comes_in (b := b) (g := g) (z := z) (d := d))
  have hco := Lib.hid (comes_out (b := b) (g := g) (z := z) (d := d))
  generalize spAt (rwAt b.flows d) z = s at *
  generalize hcm : b.comes g z d = cm at *
  replace hcm := Lib.hid hcm
  clear hb ok hg hz hd hrow hv s0
  obtain ⟨gz, gs, gd⟩ := g
  simp only at *
  by_cases h1 : gz = (z : Int)
  · by_cases h2 : gd ≤ (d : Int)
    · have hr : Hid (cm = ⟨s.lo - gs, s.hi - gs⟩) := Lib.hid (hci.out h1 h2)
      clear hci hco
      subst h1
      go_enter Try.func97, Try.ntmps97
      go_wp2
      refine wp_region_vars growth_below (va := [⟨15, 5, 55, #[.int .i64 0, .int .i64 0], 16, .tmp 20⟩]) (by kernel_rfl) (by kernel_rfl) ?_ ?_ (by simp) (fun T f hT hf hcl => ?_)
      · intro p hp w
        simp only [List.mem_cons, List.not_mem_nil, or_false] at hp
        rcases hp with rfl <;> go_simp
      · intro p hp
        simp only [List.mem_cons, List.not_mem_nil, or_false] at hp
        rcases hp with rfl <;> kernel_rfl
      have hg : ∀ (g : T) (b o : Nat), b < W.heap.size → (f g).cell? ⟨b, o, none⟩ = W.cell? ⟨b, o, none⟩ := fun g => below_cell (hf g)
      simp only [lexOf, List.zipIdx_cons, List.zipIdx_nil, List.map_cons, List.map_nil, isMade, List.any_cons, List.any_nil, Nat.reduceAdd, Nat.reduceBEq, Bool.or_false, Bool.false_or, Bool.or_self, Bool.false_eq_true, if_false, if_true, Nat.zero_add, BEq.rfl, Bool.or_true, Bool.true_or]
      simp only [Go.Sd.blank]
      repeat (go_big_quiet_step (fail))
      refine wpQuiet_nil ?_
      refine ⟨?_, ?_⟩
      · intro p hp
        simp only [List.mem_cons, List.not_mem_nil, or_false] at hp
        rcases hp with rfl <;> (constructor <;> simp [go_sem, Value.cells, Value.oneCell'])
      intro ns w' hB hv
      have hvb := hv.2.2
      obtain ⟨n1, rfl, hn1, hl1, hc1, hf1⟩ := vars_one hv
      have en1 := (hvb 0 _ n1 rfl rfl).2
      simp [go_sem, Value.cells] at en1
      clear hvb
      clear hv hf hcl hg
      simp only [placeV, Act.put, List.setIfInBounds_toArray, List.set_cons_zero, List.set_cons_succ]
      simp [go_sem] at hc1
      replace v0 := kept_cell hB v0
      replace v1 := kept_cell hB v1
      replace v2 := kept_cell hB v2
      replace v3 := kept_cell hB v3
      replace v4 := kept_cell hB v4
      replace v5 := kept_cell hB v5
      replace v6 := kept_cell hB v6
      replace v7 := kept_cell hB v7
      replace x0 := kept_cell hB x0
      replace y0 := kept_cell hB y0
      replace y1 := kept_cell hB y1
      replace zp := Nat.lt_of_lt_of_le zp hB.size
      replace zw := Nat.lt_of_lt_of_le zw hB.size
      replace zf := Nat.lt_of_lt_of_le zf hB.size
      replace z0 := Nat.lt_of_lt_of_le z0 hB.size
      replace e0 := kept_block hB e0
      obtain ⟨o0, o1⟩ := rc2 e0
      obtain ⟨p0, p1⟩ := rf2 e0
      have i0 := hc1 0
      have i1 := hc1 1
      simp at i0 i1
      have hB2 := below_tr b0 hB
      have hgc := grow_cell w'
      clear hc1 hf1
      go_wp2
      refine wp_region_grow (by kernel_rfl) (by kernel_rfl) ?_
      repeat (go_big_quiet_step (fail))
      refine wpQuiet_nil ?_
      rintro _ ⟨g, rfl⟩
      go_wp2
      have hgg : ∀ (h : Grow g.x) (b o : Nat), b < w'.heap.size → h.x.cell? ⟨b, o, none⟩ = w'.cell? ⟨b, o, none⟩ := fun h b o hb => (grow_cell g.x h b o (Nat.lt_of_lt_of_le hb g.size)).trans (grow_cell w' g b o hb)
      refine wp_grow_tail 17 (by kernel_rfl) (by kernel_rfl) ?_
      simp only [List.take_succ_cons, List.take_zero, List.drop_succ_cons, List.drop_zero]
      repeat (go_big_quiet_step (fail))
      refine wpQuiet_nil ?_
      rintro _ ⟨g3, rfl⟩
      have o0' : g3.x.cell? ⟨w.heap.size, 0, none⟩ = some (.int .i64 0) := kept_cell (below_tr g.h g3.h) o0
      have o1' : g3.x.cell? ⟨w.heap.size, 1, none⟩ = some (.int .i64 0) := kept_cell (below_tr g.h g3.h) o1
      have e3 := kept_block (below_tr g.h g3.h) e0
      have hB3 := below_tr hB2 (below_tr g.h g3.h)
      obtain ⟨f0, f1⟩ := rf2 e3
      clear hgg hgc
      go_wp2
      have t3 := set2 e3 (.int .i64 (s.lo - gs)) (.int .i64 (s.hi - gs))
      obtain ⟨t0, t1⟩ := rc2 t3
      refine bodyPost_ret (v := spV ⟨s.lo - gs, s.hi - gs⟩) (by simp [results, Try.results97, go_sem, t0, t1]) rfl ⟨by rw [hr.out], hB3.trans (below_set2 _ _ (Nat.le_refl _))⟩
    · have hr : Hid (cm = s) := Lib.hid (hco.out (fun h => h2 h.2))
      clear hci hco
      subst h1
      have h2d : decide (gd ≤ (d : Int)) = false := by simpa using h2
      go_enter Try.func97, Try.ntmps97
      go_wp2
      refine wp_region_vars growth_below (va := [⟨15, 5, 55, #[.int .i64 0, .int .i64 0], 16, .tmp 20⟩]) (by kernel_rfl) (by kernel_rfl) ?_ ?_ (by simp) (fun T f hT hf hcl => ?_)
      · intro p hp w
        simp only [List.mem_cons, List.not_mem_nil, or_false] at hp
        rcases hp with rfl <;> go_simp
      · intro p hp
        simp only [List.mem_cons, List.not_mem_nil, or_false] at hp
        rcases hp with rfl <;> kernel_rfl
      have hg : ∀ (g : T) (b o : Nat), b < W.heap.size → (f g).cell? ⟨b, o, none⟩ = W.cell? ⟨b, o, none⟩ := fun g => below_cell (hf g)
      simp only [lexOf, List.zipIdx_cons, List.zipIdx_nil, List.map_cons, List.map_nil, isMade, List.any_cons, List.any_nil, Nat.reduceAdd, Nat.reduceBEq, Bool.or_false, Bool.false_or, Bool.or_self, Bool.false_eq_true, if_false, if_true, Nat.zero_add, BEq.rfl, Bool.or_true, Bool.true_or]
      simp only [Go.Sd.blank]
      repeat (go_big_quiet_step (fail))
      refine wpQuiet_nil ?_
      refine ⟨?_, ?_⟩
      · intro p hp
        simp only [List.mem_cons, List.not_mem_nil, or_false] at hp
        rcases hp with rfl <;> (constructor <;> simp [go_sem, Value.cells, Value.oneCell'])
      intro ns w' hB hv
      have hvb := hv.2.2
      obtain ⟨n1, rfl, hn1, hl1, hc1, hf1⟩ := vars_one hv
      have en1 := (hvb 0 _ n1 rfl rfl).2
      simp [go_sem, Value.cells] at en1
      clear hvb
      clear hv hf hcl hg
      simp only [placeV, Act.put, List.setIfInBounds_toArray, List.set_cons_zero, List.set_cons_succ]
      simp [go_sem] at hc1
      replace v0 := kept_cell hB v0
      replace v1 := kept_cell hB v1
      replace v2 := kept_cell hB v2
      replace v3 := kept_cell hB v3
      replace v4 := kept_cell hB v4
      replace v5 := kept_cell hB v5
      replace v6 := kept_cell hB v6
      replace v7 := kept_cell hB v7
      replace x0 := kept_cell hB x0
      replace y0 := kept_cell hB y0
      replace y1 := kept_cell hB y1
      replace zp := Nat.lt_of_lt_of_le zp hB.size
      replace zw := Nat.lt_of_lt_of_le zw hB.size
      replace zf := Nat.lt_of_lt_of_le zf hB.size
      replace z0 := Nat.lt_of_lt_of_le z0 hB.size
      replace e0 := kept_block hB e0
      obtain ⟨o0, o1⟩ := rc2 e0
      obtain ⟨p0, p1⟩ := rf2 e0
      have i0 := hc1 0
      have i1 := hc1 1
      simp at i0 i1
      have hB2 := below_tr b0 hB
      have hgc := grow_cell w'
      clear hc1 hf1
      go_wp2
      refine wp_region_grow (by kernel_rfl) (by kernel_rfl) ?_
      repeat (go_big_quiet_step (fail))
      refine wpQuiet_nil ?_
      rintro _ ⟨g, rfl⟩
      have o0' : g.x.cell? ⟨w.heap.size, 0, none⟩ = some (.int .i64 0) := kept_cell g.h o0
      have o1' : g.x.cell? ⟨w.heap.size, 1, none⟩ = some (.int .i64 0) := kept_cell g.h o1
      have e3 := kept_block g.h e0
      have hB3 := below_tr hB2 g.h
      obtain ⟨f0, f1⟩ := rf2 e3
      go_wp2
      have t3 := set2 e3 (.int .i64 (s.lo)) (.int .i64 (s.hi))
      obtain ⟨t0, t1⟩ := rc2 t3
      refine bodyPost_ret (v := spV ⟨s.lo, s.hi⟩) (by simp [results, Try.results97, go_sem, t0, t1]) rfl ⟨by rw [hr.out], hB3.trans (below_set2 _ _ (Nat.le_refl _))⟩
  · have hr : Hid (cm = s) := Lib.hid (hco.out (fun h => h1 h.1))
    clear hci hco
    have h1d : decide (gz = (z : Int)) = false := by simpa using h1
    have h1e : (gz == (z : Int)) = false := by simpa using h1
    go_enter Try.func97, Try.ntmps97
    go_wp2
    refine wp_region_vars growth_below (va := [⟨15, 5, 55, #[.int .i64 0, .int .i64 0], 16, .tmp 20⟩]) (by kernel_rfl) (by kernel_rfl) ?_ ?_ (by simp) (fun T f hT hf hcl => ?_)
    · intro p hp w
      simp only [List.mem_cons, List.not_mem_nil, or_false] at hp
      rcases hp with rfl <;> go_simp
    · intro p hp
      simp only [List.mem_cons, List.not_mem_nil, or_false] at hp
      rcases hp with rfl <;> kernel_rfl
    have hg : ∀ (g : T) (b o : Nat), b < W.heap.size → (f g).cell? ⟨b, o, none⟩ = W.cell? ⟨b, o, none⟩ := fun g => below_cell (hf g)
    simp only [lexOf, List.zipIdx_cons, List.zipIdx_nil, List.map_cons, List.map_nil, isMade, List.any_cons, List.any_nil, Nat.reduceAdd, Nat.reduceBEq, Bool.or_false, Bool.false_or, Bool.or_self, Bool.false_eq_true, if_false, if_true, Nat.zero_add, BEq.rfl, Bool.or_true, Bool.true_or]
    simp only [Go.Sd.blank]
    repeat (go_big_quiet_step (fail))
    refine wpQuiet_nil ?_
    refine ⟨?_, ?_⟩
    · intro p hp
      simp only [List.mem_cons, List.not_mem_nil, or_false] at hp
      rcases hp with rfl <;> (constructor <;> simp [go_sem, Value.cells, Value.oneCell'])
    intro ns w' hB hv
    have hvb := hv.2.2
    obtain ⟨n1, rfl, hn1, hl1, hc1, hf1⟩ := vars_one hv
    have en1 := (hvb 0 _ n1 rfl rfl).2
    simp [go_sem, Value.cells] at en1
    clear hvb
    clear hv hf hcl hg
    simp only [placeV, Act.put, List.setIfInBounds_toArray, List.set_cons_zero, List.set_cons_succ]
    simp [go_sem] at hc1
    replace v0 := kept_cell hB v0
    replace v1 := kept_cell hB v1
    replace v2 := kept_cell hB v2
    replace v3 := kept_cell hB v3
    replace v4 := kept_cell hB v4
    replace v5 := kept_cell hB v5
    replace v6 := kept_cell hB v6
    replace v7 := kept_cell hB v7
    replace x0 := kept_cell hB x0
    replace y0 := kept_cell hB y0
    replace y1 := kept_cell hB y1
    replace zp := Nat.lt_of_lt_of_le zp hB.size
    replace zw := Nat.lt_of_lt_of_le zw hB.size
    replace zf := Nat.lt_of_lt_of_le zf hB.size
    replace z0 := Nat.lt_of_lt_of_le z0 hB.size
    replace e0 := kept_block hB e0
    obtain ⟨o0, o1⟩ := rc2 e0
    obtain ⟨p0, p1⟩ := rf2 e0
    have i0 := hc1 0
    have i1 := hc1 1
    simp at i0 i1
    have hB2 := below_tr b0 hB
    have hgc := grow_cell w'
    clear hc1 hf1
    go_wp2
    refine wp_region_grow (by kernel_rfl) (by kernel_rfl) ?_
    repeat (go_big_quiet_step (fail))
    refine wpQuiet_nil ?_
    rintro _ ⟨g, rfl⟩
    have o0' : g.x.cell? ⟨w.heap.size, 0, none⟩ = some (.int .i64 0) := kept_cell g.h o0
    have o1' : g.x.cell? ⟨w.heap.size, 1, none⟩ = some (.int .i64 0) := kept_cell g.h o1
    have e3 := kept_block g.h e0
    have hB3 := below_tr hB2 g.h
    obtain ⟨f0, f1⟩ := rf2 e3
    go_wp2
    have t3 := set2 e3 (.int .i64 (s.lo)) (.int .i64 (s.hi))
    obtain ⟨t0, t1⟩ := rc2 t3
    refine bodyPost_ret (v := spV ⟨s.lo, s.hi⟩) (by simp [results, Try.results97, go_sem, t0, t1]) rfl ⟨by rw [hr.out], hB3.trans (below_set2 _ _ (Nat.le_refl _))⟩
end Go.Proofs.Ytddmfkhmhdddeaa
