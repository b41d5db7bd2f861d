/- Laws and walks: LCom, LKee, LDay, LOwn. -/
import Derived.RegionTactic
import Derived.BigRegion
import Derived.Shelf.Abstract
import Derived.Shelf.RegionOpen
import Derived.OwnWalkIn
import Derived.TacticsInMore
import Derived.LoopNIn
import Derived.LoopIn
import Derived.Maps.AppendAt
import Derived.OwnWalk
import Derived.Laws.MakeOwn
import Derived.Deep.AppendLies
import Derived.Test.YthbkcoijafehgaaGreatK21
set_option linter.unusedVariables false
set_option linter.unusedSimpArgs false
namespace Lk
theorem comes_in {b : Bk} {g : Gs} {z d : Nat} (h1 : g.zone = z) (h2 : g.since ≤ d) : b.comes g z d = ⟨(spAt (rwAt b.flows d) z).lo - g.size, (spAt (rwAt b.flows d) z).hi - g.size⟩ := by
  simp [Bk.comes, Bk.flowAt, lost, h1, h2]
theorem comes_out {b : Bk} {g : Gs} {z d : Nat} (h : ¬ (g.zone = z ∧ g.since ≤ d)) : b.comes g z d = spAt (rwAt b.flows d) z := by
  simp only [Bk.comes, Bk.flowAt, lost, if_neg h]
  cases spAt (rwAt b.flows d) z; simp
end Lk
namespace Go.Proofs.YthbkcoijafehgaaGreat.L
open Go.RowKit Go.Sd Lk
abbrev viO (fv wv rv : Value) (g : Gs) (z : Nat) (bv : Value) : Obj := .cells #[fv, wv, rv, .int .i64 g.zone, .int .i64 g.size, .int .i64 g.since, .int .i64 z, bv] 130
set_option maxRecDepth 100000 in
set_option maxHeartbeats 8000000 in
theorem progComes (p : Nat) (fv wv rv bv : Value) (b : Bk) (g : Gs) (z d : Nat) (w : World) (hv : w.heap[p]? = some (viO fv wv rv g z bv)) (hb : BookAt w fv wv rv b) (ok : Ok b) (hg : b.gsB g = true) (hz : z < b.first.length) (hd : d < b.flows.length) :
    Calls Tryz.prog 82 #[.pointer (some ⟨p, 0, none⟩), .int .i64 d] w fun e w' => e = .returned (spV (b.comes g z d)) ∧ Below w.heap.size w w' := by
  obtain ⟨wb, wo, wc, ev, rfl, hwb, hwm, x0, hev⟩ := sprow_cell hb.flows hd
  obtain ⟨fb, fo, fc, rfl, hfb, hfm, y0, y1⟩ := sp_cells hev (k := z) (by rw [ok.rows d hd]; exact hz)
  have hrow := ok.rows d hd
  have hfl := ok.flows d z hd hz
  rw [hrow] at x0 hfm
  clear hev
  have hsz : -10000000 ≤ g.size ∧ g.size ≤ 10000000 := by
    simp only [Bk.gsB, Bool.or_eq_true, decide_eq_true_eq, Bool.and_eq_true, inB_iff] at hg
    rcases hg with rfl | hg
    · simp [noGs]
    · omega
  obtain ⟨W, hW⟩ : ∃ W, w.alloc (spO ⟨0, 0⟩) = W := ⟨_, rfl⟩
  obtain ⟨e0, b0, s0⟩ := boxed hW
  replace hv := kept_block b0 hv
  obtain ⟨v0, v1, v2, v3, v4, v5, v6, v7⟩ := rc8 hv
  replace x0 := kept_cell b0 x0
  replace y0 := kept_cell b0 y0
  replace y1 := kept_cell b0 y1
  have zp := (Array.getElem?_eq_some_iff.1 hv).1
  have zw := World.block_lt_of_cell? W ⟨wb, _, none⟩ x0
  have zf := World.block_lt_of_cell? W ⟨fb, _, none⟩ y0
  simp only at zw zf
  have z0 := (Array.getElem?_eq_some_iff.1 e0).1
  have hzi : (z : Int) < (b.first.length : Int) := by omega
  have hdi : (d : Int) < (b.flows.length : Int) := by omega
  have hci := Lib.hid (comes_in (b := b) (g := g) (z := z) (d := d))
  have hco := Lib.hid (comes_out (b := b) (g := g) (z := z) (d := d))
  generalize spAt (rwAt b.flows d) z = s at *
  generalize hcm : b.comes g z d = cm at *
  replace hcm := Lib.hid hcm
  clear hb ok hg hz hd hrow hv s0
  obtain ⟨gz, gs, gd⟩ := g
  simp only at *
  by_cases h1 : gz = (z : Int)
  · by_cases h2 : gd ≤ (d : Int)
    · have hr : Hid (cm = ⟨s.lo - gs, s.hi - gs⟩) := Lib.hid (hci.out h1 h2)
      clear hci hco
      subst h1
      go_enter Tryz.func82, Tryz.ntmps82
      go_wp2
      refine wp_region_vars growth_below (va := [⟨15, 5, 23, #[.int .i64 0, .int .i64 0], 16, .tmp 20⟩]) (by kernel_rfl) (by kernel_rfl) ?_ ?_ (by simp) (fun T f hT hf hcl => ?_)
      · intro p hp w
        simp only [List.mem_cons, List.not_mem_nil, or_false] at hp
        rcases hp with rfl <;> go_simp
      · intro p hp
        simp only [List.mem_cons, List.not_mem_nil, or_false] at hp
        rcases hp with rfl <;> kernel_rfl
      have hg : ∀ (g : T) (b o : Nat), b < W.heap.size → (f g).cell? ⟨b, o, none⟩ = W.cell? ⟨b, o, none⟩ := fun g => below_cell (hf g)
      simp only [lexOf, List.zipIdx_cons, List.zipIdx_nil, List.map_cons, List.map_nil, isMade, List.any_cons, List.any_nil, Nat.reduceAdd, Nat.reduceBEq, Bool.or_false, Bool.false_or, Bool.or_self, Bool.false_eq_true, if_false, if_true, Nat.zero_add, BEq.rfl, Bool.or_true, Bool.true_or]
      simp only [Go.Sd.blank]
      repeat (go_big_quiet_step (fail))
      refine wpQuiet_nil ?_
      refine ⟨?_, ?_⟩
      · intro p hp
        simp only [List.mem_cons, List.not_mem_nil, or_false] at hp
        rcases hp with rfl <;> (constructor <;> simp [go_sem, Value.cells, Value.oneCell'])
      intro ns w' hB hv
      have hvb := hv.2.2
      obtain ⟨n1, rfl, hn1, hl1, hc1, hf1⟩ := vars_one hv
      have en1 := (hvb 0 _ n1 rfl rfl).2
      simp [go_sem, Value.cells] at en1
      clear hvb
      clear hv hf hcl hg
      simp only [placeV, Act.put, List.setIfInBounds_toArray, List.set_cons_zero, List.set_cons_succ]
      simp [go_sem] at hc1
      replace v0 := kept_cell hB v0
      replace v1 := kept_cell hB v1
      replace v2 := kept_cell hB v2
      replace v3 := kept_cell hB v3
      replace v4 := kept_cell hB v4
      replace v5 := kept_cell hB v5
      replace v6 := kept_cell hB v6
      replace v7 := kept_cell hB v7
      replace x0 := kept_cell hB x0
      replace y0 := kept_cell hB y0
      replace y1 := kept_cell hB y1
      replace zp := Nat.lt_of_lt_of_le zp hB.size
      replace zw := Nat.lt_of_lt_of_le zw hB.size
      replace zf := Nat.lt_of_lt_of_le zf hB.size
      replace z0 := Nat.lt_of_lt_of_le z0 hB.size
      replace e0 := kept_block hB e0
      obtain ⟨o0, o1⟩ := rc2 e0
      obtain ⟨p0, p1⟩ := rf2 e0
      have i0 := hc1 0
      have i1 := hc1 1
      simp at i0 i1
      have hB2 := below_tr b0 hB
      have hgc := grow_cell w'
      clear hc1 hf1
      go_wp2
      refine wp_region_grow (by kernel_rfl) (by kernel_rfl) ?_
      repeat (go_big_quiet_step (fail))
      refine wpQuiet_nil ?_
      rintro _ ⟨g, rfl⟩
      go_wp2
      have hgg : ∀ (h : Grow g.x) (b o : Nat), b < w'.heap.size → h.x.cell? ⟨b, o, none⟩ = w'.cell? ⟨b, o, none⟩ := fun h b o hb => (grow_cell g.x h b o (Nat.lt_of_lt_of_le hb g.size)).trans (grow_cell w' g b o hb)
      refine wp_grow_tail 17 (by kernel_rfl) (by kernel_rfl) ?_
      simp only [List.take_succ_cons, List.take_zero, List.drop_succ_cons, List.drop_zero]
      repeat (go_big_quiet_step (fail))
      refine wpQuiet_nil ?_
      rintro _ ⟨g3, rfl⟩
      have o0' : g3.x.cell? ⟨w.heap.size, 0, none⟩ = some (.int .i64 0) := kept_cell (below_tr g.h g3.h) o0
      have o1' : g3.x.cell? ⟨w.heap.size, 1, none⟩ = some (.int .i64 0) := kept_cell (below_tr g.h g3.h) o1
      have e3 := kept_block (below_tr g.h g3.h) e0
      have hB3 := below_tr hB2 (below_tr g.h g3.h)
      obtain ⟨f0, f1⟩ := rf2 e3
      clear hgg hgc
      go_wp2
      have t3 := set2 e3 (.int .i64 (s.lo - gs)) (.int .i64 (s.hi - gs))
      obtain ⟨t0, t1⟩ := rc2 t3
      refine bodyPost_ret (v := spV ⟨s.lo - gs, s.hi - gs⟩) (by simp [results, Tryz.results82, go_sem, t0, t1]) rfl ⟨by rw [hr.out], hB3.trans (below_set2 _ _ (Nat.le_refl _))⟩
    · have hr : Hid (cm = s) := Lib.hid (hco.out (fun h => h2 h.2))
      clear hci hco
      subst h1
      have h2d : decide (gd ≤ (d : Int)) = false := by simpa using h2
      go_enter Tryz.func82, Tryz.ntmps82
      go_wp2
      refine wp_region_vars growth_below (va := [⟨15, 5, 23, #[.int .i64 0, .int .i64 0], 16, .tmp 20⟩]) (by kernel_rfl) (by kernel_rfl) ?_ ?_ (by simp) (fun T f hT hf hcl => ?_)
      · intro p hp w
        simp only [List.mem_cons, List.not_mem_nil, or_false] at hp
        rcases hp with rfl <;> go_simp
      · intro p hp
        simp only [List.mem_cons, List.not_mem_nil, or_false] at hp
        rcases hp with rfl <;> kernel_rfl
      have hg : ∀ (g : T) (b o : Nat), b < W.heap.size → (f g).cell? ⟨b, o, none⟩ = W.cell? ⟨b, o, none⟩ := fun g => below_cell (hf g)
      simp only [lexOf, List.zipIdx_cons, List.zipIdx_nil, List.map_cons, List.map_nil, isMade, List.any_cons, List.any_nil, Nat.reduceAdd, Nat.reduceBEq, Bool.or_false, Bool.false_or, Bool.or_self, Bool.false_eq_true, if_false, if_true, Nat.zero_add, BEq.rfl, Bool.or_true, Bool.true_or]
      simp only [Go.Sd.blank]
      repeat (go_big_quiet_step (fail))
      refine wpQuiet_nil ?_
      refine ⟨?_, ?_⟩
      · intro p hp
        simp only [List.mem_cons, List.not_mem_nil, or_false] at hp
        rcases hp with rfl <;> (constructor <;> simp [go_sem, Value.cells, Value.oneCell'])
      intro ns w' hB hv
      have hvb := hv.2.2
      obtain ⟨n1, rfl, hn1, hl1, hc1, hf1⟩ := vars_one hv
      have en1 := (hvb 0 _ n1 rfl rfl).2
      simp [go_sem, Value.cells] at en1
      clear hvb
      clear hv hf hcl hg
      simp only [placeV, Act.put, List.setIfInBounds_toArray, List.set_cons_zero, List.set_cons_succ]
      simp [go_sem] at hc1
      replace v0 := kept_cell hB v0
      replace v1 := kept_cell hB v1
      replace v2 := kept_cell hB v2
      replace v3 := kept_cell hB v3
      replace v4 := kept_cell hB v4
      replace v5 := kept_cell hB v5
      replace v6 := kept_cell hB v6
      replace v7 := kept_cell hB v7
      replace x0 := kept_cell hB x0
      replace y0 := kept_cell hB y0
      replace y1 := kept_cell hB y1
      replace zp := Nat.lt_of_lt_of_le zp hB.size
      replace zw := Nat.lt_of_lt_of_le zw hB.size
      replace zf := Nat.lt_of_lt_of_le zf hB.size
      replace z0 := Nat.lt_of_lt_of_le z0 hB.size
      replace e0 := kept_block hB e0
      obtain ⟨o0, o1⟩ := rc2 e0
      obtain ⟨p0, p1⟩ := rf2 e0
      have i0 := hc1 0
      have i1 := hc1 1
      simp at i0 i1
      have hB2 := below_tr b0 hB
      have hgc := grow_cell w'
      clear hc1 hf1
      go_wp2
      refine wp_region_grow (by kernel_rfl) (by kernel_rfl) ?_
      repeat (go_big_quiet_step (fail))
      refine wpQuiet_nil ?_
      rintro _ ⟨g, rfl⟩
      have o0' : g.x.cell? ⟨w.heap.size, 0, none⟩ = some (.int .i64 0) := kept_cell g.h o0
      have o1' : g.x.cell? ⟨w.heap.size, 1, none⟩ = some (.int .i64 0) := kept_cell g.h o1
      have e3 := kept_block g.h e0
      have hB3 := below_tr hB2 g.h
      obtain ⟨f0, f1⟩ := rf2 e3
      go_wp2
      have t3 := set2 e3 (.int .i64 (s.lo)) (.int .i64 (s.hi))
      obtain ⟨t0, t1⟩ := rc2 t3
      refine bodyPost_ret (v := spV ⟨s.lo, s.hi⟩) (by simp [results, Tryz.results82, go_sem, t0, t1]) rfl ⟨by rw [hr.out], hB3.trans (below_set2 _ _ (Nat.le_refl _))⟩
  · have hr : Hid (cm = s) := Lib.hid (hco.out (fun h => h1 h.1))
    clear hci hco
    have h1d : decide (gz = (z : Int)) = false := by simpa using h1
    have h1e : (gz == (z : Int)) = false := by simpa using h1
    go_enter Tryz.func82, Tryz.ntmps82
    go_wp2
    refine wp_region_vars growth_below (va := [⟨15, 5, 23, #[.int .i64 0, .int .i64 0], 16, .tmp 20⟩]) (by kernel_rfl) (by kernel_rfl) ?_ ?_ (by simp) (fun T f hT hf hcl => ?_)
    · intro p hp w
      simp only [List.mem_cons, List.not_mem_nil, or_false] at hp
      rcases hp with rfl <;> go_simp
    · intro p hp
      simp only [List.mem_cons, List.not_mem_nil, or_false] at hp
      rcases hp with rfl <;> kernel_rfl
    have hg : ∀ (g : T) (b o : Nat), b < W.heap.size → (f g).cell? ⟨b, o, none⟩ = W.cell? ⟨b, o, none⟩ := fun g => below_cell (hf g)
    simp only [lexOf, List.zipIdx_cons, List.zipIdx_nil, List.map_cons, List.map_nil, isMade, List.any_cons, List.any_nil, Nat.reduceAdd, Nat.reduceBEq, Bool.or_false, Bool.false_or, Bool.or_self, Bool.false_eq_true, if_false, if_true, Nat.zero_add, BEq.rfl, Bool.or_true, Bool.true_or]
    simp only [Go.Sd.blank]
    repeat (go_big_quiet_step (fail))
    refine wpQuiet_nil ?_
    refine ⟨?_, ?_⟩
    · intro p hp
      simp only [List.mem_cons, List.not_mem_nil, or_false] at hp
      rcases hp with rfl <;> (constructor <;> simp [go_sem, Value.cells, Value.oneCell'])
    intro ns w' hB hv
    have hvb := hv.2.2
    obtain ⟨n1, rfl, hn1, hl1, hc1, hf1⟩ := vars_one hv
    have en1 := (hvb 0 _ n1 rfl rfl).2
    simp [go_sem, Value.cells] at en1
    clear hvb
    clear hv hf hcl hg
    simp only [placeV, Act.put, List.setIfInBounds_toArray, List.set_cons_zero, List.set_cons_succ]
    simp [go_sem] at hc1
    replace v0 := kept_cell hB v0
    replace v1 := kept_cell hB v1
    replace v2 := kept_cell hB v2
    replace v3 := kept_cell hB v3
    replace v4 := kept_cell hB v4
    replace v5 := kept_cell hB v5
    replace v6 := kept_cell hB v6
    replace v7 := kept_cell hB v7
    replace x0 := kept_cell hB x0
    replace y0 := kept_cell hB y0
    replace y1 := kept_cell hB y1
    replace zp := Nat.lt_of_lt_of_le zp hB.size
    replace zw := Nat.lt_of_lt_of_le zw hB.size
    replace zf := Nat.lt_of_lt_of_le zf hB.size
    replace z0 := Nat.lt_of_lt_of_le z0 hB.size
    replace e0 := kept_block hB e0
    obtain ⟨o0, o1⟩ := rc2 e0
    obtain ⟨p0, p1⟩ := rf2 e0
    have i0 := hc1 0
    have i1 := hc1 1
    simp at i0 i1
    have hB2 := below_tr b0 hB
    have hgc := grow_cell w'
    clear hc1 hf1
    go_wp2
    refine wp_region_grow (by kernel_rfl) (by kernel_rfl) ?_
    repeat (go_big_quiet_step (fail))
    refine wpQuiet_nil ?_
    rintro _ ⟨g, rfl⟩
    have o0' : g.x.cell? ⟨w.heap.size, 0, none⟩ = some (.int .i64 0) := kept_cell g.h o0
    have o1' : g.x.cell? ⟨w.heap.size, 1, none⟩ = some (.int .i64 0) := kept_cell g.h o1
    have e3 := kept_block g.h e0
    have hB3 := below_tr hB2 g.h
    obtain ⟨f0, f1⟩ := rf2 e3
    go_wp2
    have t3 := set2 e3 (.int .i64 (s.lo)) (.int .i64 (s.hi))
    obtain ⟨t0, t1⟩ := rc2 t3
    refine bodyPost_ret (v := spV ⟨s.lo, s.hi⟩) (by simp [results, Tryz.results82, go_sem, t0, t1]) rfl ⟨by rw [hr.out], hB3.trans (below_set2 _ _ (Nat.le_refl _))⟩
end Go.Proofs.YthbkcoijafehgaaGreat.L
set_option linter.unusedVariables false
set_option linter.unusedSimpArgs false
namespace Lk
theorem spAt_set {l : List Sp} {i j : Nat} {v : Sp} (hi : i < l.length) : spAt (l.set i v) j = if j = i then v else spAt l j := by
  unfold spAt
  by_cases h : j = i
  · subst h; simp [hi]
  · simp [h, List.getElem?_set, Ne.symm h]
end Lk
namespace Go.Proofs.YthbkcoijafehgaaGreat.L
open Go.RowKit Go.Sd Lk
/-- The cells of spans. -/
def spCells : List Sp → List Value
  | [] => []
  | x :: xs => .int .i64 x.lo :: .int .i64 x.hi :: spCells xs
theorem spCells_get : ∀ (l : List Sp) (k : Nat), k < l.length → (spCells l)[k * 2]? = some (.int .i64 (spAt l k).lo) ∧ (spCells l)[k * 2 + 1]? = some (.int .i64 (spAt l k).hi)
  | [], k, h => by simp at h
  | x :: xs, 0, _ => ⟨rfl, rfl⟩
  | x :: xs, k + 1, h => by
    have := spCells_get xs k (by simpa using h)
    rw [show (k + 1) * 2 = k * 2 + 1 + 1 by omega]
    simpa [spCells, spAt] using this
theorem spCells_set : ∀ (l : List Sp) (k : Nat) (y : Sp), k < l.length → ((spCells l).set (k * 2) (.int .i64 y.lo)).set (k * 2 + 1) (.int .i64 y.hi) = spCells (l.set k y)
  | [], k, _, h => by simp at h
  | x :: xs, 0, y, _ => rfl
  | x :: xs, k + 1, y, h => by
    have := spCells_set xs k y (by simpa using h)
    rw [show (k + 1) * 2 + 1 = (k * 2 + 1) + 1 + 1 by omega, show (k + 1) * 2 = k * 2 + 1 + 1 by omega]
    simp only [spCells, List.set_cons_succ, this]
/-- A block of spans. -/
def BlkAt (w : World) (q : Nat) (l : List Sp) : Prop := w.heap[q]? = some (.cells (spCells l).toArray 23)
theorem BlkAt.lt {w : World} {q : Nat} {l : List Sp} (h : BlkAt w q l) : q < w.heap.size := (Array.getElem?_eq_some_iff.1 h).1
theorem BlkAt.mono {w w' : World} {q : Nat} {l : List Sp} (h : BlkAt w q l) (hb : Below w.heap.size w w') : BlkAt w' q l := kept_block hb h
theorem BlkAt.kept {S : Nat → Prop} {w w' : World} {q : Nat} {l : List Sp} (h : BlkAt w q l) (hk : Kept S w w') (hs : S q) : BlkAt w' q l := (hk.block q h.lt hs).trans h
theorem BlkAt.cell {w : World} {q : Nat} {l : List Sp} (h : BlkAt w q l) {k : Nat} (hk : k < l.length) :
    (w.cell? ⟨q, k * 2, none⟩ = some (.int .i64 (spAt l k).lo) ∧ w.cell? ⟨q, k * 2 + 1, none⟩ = some (.int .i64 (spAt l k).hi)) ∧ w.frozen? ⟨q, k * 2, none⟩ = false ∧ w.frozen? ⟨q, k * 2 + 1, none⟩ = false := by
  obtain ⟨-, r, f⟩ := row_cells h
  have c := spCells_get l k hk
  refine ⟨⟨?_, ?_⟩, f _, f _⟩
  · rw [r]; simpa using c.1
  · rw [r]; simpa using c.2
theorem BlkAt.set {w : World} {q : Nat} {l : List Sp} (h : BlkAt w q l) {k : Nat} (hk : k < l.length) (y : Sp) :
    BlkAt ((w.setCell ⟨q, k * 2, none⟩ (.int .i64 y.lo)).setCell ⟨q, k * 2 + 1, none⟩ (.int .i64 y.hi)) q (l.set k y) := by
  unfold BlkAt at h ⊢
  rw [← spCells_set l k y hk]
  simp only [World.setCell, Array.getElem?_modify, if_true, h]
  simp
theorem BlkAt.sps {w : World} {q : Nat} {l : List Sp} (h : BlkAt w q l) (hm : l.length ≤ maxLen) (cap : Nat) : SpsAt w (.slice (some ⟨q, 0, none⟩) l.length cap) l := by
  refine ⟨_, cap, rfl, hm, fun _ => ⟨q, 0, rfl, h.lt, fun k i u hk hu => ?_⟩⟩
  obtain ⟨⟨c0, c1⟩, -, -⟩ := h.cell hk
  match i, hu with
  | 0, hu => cases hu; rw [Nat.zero_add]; exact c0
  | 1, hu => cases hu; rw [Nat.zero_add]; exact c1
  | i + 2, hu => simp at hu
/-- What is given up with. -/
abbrev noneV (z : Nat) : Value := .iface 127 (.agg #[.int .i64 z])
abbrev panicNo (z : Nat) : Ending := .panicked [{ v := noneV z, recovered := false }]
set_option maxRecDepth 100000 in
set_option maxHeartbeats 2000000 in
theorem progKeepNo (p : Nat) (fv wv rv bv : Value) (g : Gs) (z d : Nat) (s : Sp) (w : World) (hv : w.heap[p]? = some (viO fv wv rv g z bv)) (hs : s.hi < s.lo) :
    Calls Tryz.prog 84 #[.pointer (some ⟨p, 0, none⟩), .int .i64 d, spV s] w fun e w' => e = panicNo z ∧ Below w.heap.size w w' := by
  obtain ⟨W, hW⟩ : ∃ W, w.alloc (spO s) = W := ⟨_, rfl⟩
  obtain ⟨e0, b0, s0⟩ := boxed hW
  replace hv := kept_block b0 hv
  obtain ⟨v0, v1, v2, v3, v4, v5, v6, v7⟩ := rc8 hv
  obtain ⟨o0, o1⟩ := rc2 e0
  have zp := (Array.getElem?_eq_some_iff.1 hv).1
  have z0 := (Array.getElem?_eq_some_iff.1 e0).1
  clear s0 hv e0
  go_enter Tryz.func84, Tryz.ntmps84
  go_wp2
  exact ⟨rfl, rfl, b0⟩
set_option maxRecDepth 100000 in
set_option maxHeartbeats 2000000 in
theorem progKeepYes (p q : Nat) (fv wv rv : Value) (g : Gs) (z d cap : Nat) (s : Sp) (l : List Sp) (w : World) (hv : w.heap[p]? = some (viO fv wv rv g z (.slice (some ⟨q, 0, none⟩) l.length cap))) (hq : BlkAt w q l) (hd : d < l.length) (hm : l.length ≤ 1000) (hs : s.lo ≤ s.hi) :
    Calls Tryz.prog 84 #[.pointer (some ⟨p, 0, none⟩), .int .i64 d, spV s] w fun e w' => e = .returned (.tuple #[]) ∧ Kept (fun k => k ≠ q) w w' ∧ BlkAt w' q (l.set d s) := by
  obtain ⟨W, hW⟩ : ∃ W, w.alloc (spO s) = W := ⟨_, rfl⟩
  obtain ⟨e0, b0, s0⟩ := boxed hW
  replace hv := kept_block b0 hv
  replace hq := hq.mono b0
  obtain ⟨v0, v1, v2, v3, v4, v5, v6, v7⟩ := rc8 hv
  obtain ⟨o0, o1⟩ := rc2 e0
  have zp := (Array.getElem?_eq_some_iff.1 hv).1
  have z0 := (Array.getElem?_eq_some_iff.1 e0).1
  have zq := hq.lt
  have hdi : (d : Int) < (l.length : Int) := by omega
  have hq' := Lib.hid hq
  clear s0 hv e0 hq
  have hgc := grow_cell W
  go_enter Tryz.func84, Tryz.ntmps84
  go_wp2
  refine wp_grow_tail 7 (by kernel_rfl) (by kernel_rfl) ?_
  simp only [List.take_succ_cons, List.take_zero, List.drop_succ_cons, List.drop_zero]
  repeat (go_big_quiet_step (fail))
  refine wpQuiet_nil ?_
  rintro _ ⟨x, rfl⟩
  have hq2 := hq'.out.mono x.h
  obtain ⟨⟨c0, c1⟩, f0, f1⟩ := hq2.cell hd
  have hB := below_tr b0 x.h
  clear hgc
  go_wp2
  go_end0
  refine ⟨rfl, ((Kept.all hB).setCell (p := ⟨q, d * 2, none⟩) (.inl fun h => h rfl) _).setCell (p := ⟨q, d * 2 + 1, none⟩) (.inl fun h => h rfl) _, hq2.set hd s⟩
end Go.Proofs.YthbkcoijafehgaaGreat.L
set_option linter.unusedVariables false
set_option linter.unusedSimpArgs false
namespace Lk
def dayOf (n : Nat) (bw : Bool) (t : Nat) : Nat := if bw = true then n - 1 - t else t
def daysTo (n : Nat) (bw : Bool) (k : Nat) : List Nat := (List.range k).map (dayOf n bw)
theorem daysTo_succ (n : Nat) (bw : Bool) (k : Nat) : daysTo n bw (k + 1) = daysTo n bw k ++ [dayOf n bw k] := by simp [daysTo, List.range_succ]
theorem daysTo_prefix {n : Nat} {bw : Bool} {i j : Nat} (h : i ≤ j) : daysTo n bw i <+: daysTo n bw j := by
  induction j with
  | zero => obtain rfl : i = 0 := by omega
            exact List.prefix_refl _
  | succ j ih =>
    by_cases hi : i = j + 1
    · subst hi; exact List.prefix_refl _
    · rw [daysTo_succ]; exact (ih (by omega)).trans (List.prefix_append _ _)
theorem daysTo_pre {n : Nat} {bw : Bool} {pre : List Nat} {x k : Nat} (h : pre ++ [x] <+: daysTo n bw k) : pre = daysTo n bw pre.length ∧ x = dayOf n bw pre.length ∧ pre.length < k := by
  have hl : pre.length + 1 ≤ k := by have := h.length_le; simpa [daysTo] using this
  have h2 : daysTo n bw (pre.length + 1) <+: daysTo n bw k := daysTo_prefix hl
  have h3 : pre ++ [x] = daysTo n bw (pre.length + 1) := by
    have a := List.prefix_iff_eq_take.1 h
    have b := List.prefix_iff_eq_take.1 h2
    rw [a, b]; simp [daysTo]
  rw [daysTo_succ] at h3
  have h4 := List.append_inj h3 (by simp [daysTo])
  exact ⟨h4.1, by simpa using h4.2, hl⟩
end Lk
namespace Go.Proofs.YthbkcoijafehgaaGreat.L
open Go.RowKit Go.Sd Lk
attribute [local go_sem] Oper.semAt_some
theorem progDays (fv wv rv : Value) (bw : Bool) (w : World) :
    Calls Tryz.prog 81 #[bkV fv wv rv, .bool bw] w fun e w' =>
      e = .returned (.func (.func 101) #[] #[.pointer (some ⟨w.heap.size, 0, none⟩), .pointer (some ⟨w.heap.size + 1, 0, none⟩)]) ∧
      w' = (w.alloc (bkO fv wv rv)).alloc (.cells #[.bool bw] 4) := by
  go_enter Tryz.func81, Tryz.ntmps81
  go_wp2
  go_ret
  exact ⟨rfl, rfl⟩
theorem enter_days1 : ∀ (args : Array Value) (w : World), (callFunc 101 args).run Tryz.prog w = .ok (.enter 101 args) w := fun _ _ => by kernel_rfl
set_option maxRecDepth 100000 in
set_option maxHeartbeats 4000000 in
theorem days_yields (n wc : Nat) (wa : Option Addr) (bw : Bool) (w : World) (S : Nat → Prop) (bb bo : Nat) (hn : n ≤ 1000)
    (c0 : w.cell? ⟨bb, 1, none⟩ = some (.slice wa n wc)) (c1 : w.cell? ⟨bo, 0, none⟩ = some (.bool bw)) (hS0 : S bb) (hS1 : S bo) :
    SeqsG Tryz.prog 101 #[.pointer (some ⟨bb, 0, none⟩), .pointer (some ⟨bo, 0, none⟩)] (fun t : Nat => #[.int .i64 t]) (daysTo n bw n) S w := by
  intro l J Jx Jp W hKW hJ hJx hY h0
  have d0 : W.cell? ⟨bb, 1, none⟩ = some (.slice wa n wc) := hKW.cell hS0 c0
  have hbs := World.block_lt_of_cell? W ⟨bb, 1, none⟩ d0
  simp only at hbs
  refine callsIn_wide.2 ?_
  go_enter Tryz.func101, Tryz.ntmps101
  go_wp2
  refine (wpIn_wide (n := 0)).1 ?_
  gi_loopw [9] (fun i wr => ∃ k : Nat, k ≤ n ∧ i = .int .i64 k ∧ Hid (Kept S w wr ∧ J (daysTo n bw k) wr)) (fun i _ => (n - intOf i).toNat)
  case atStart => exact ⟨0, by omega, by go_num, hKW, h0⟩
  case round =>
    obtain ⟨k, hk, rfl, hH⟩ := hrel
    have d0 : wr.cell? ⟨bb, 1, none⟩ = some (.slice wa n wc) := hH.out.1.cell hS0 c0
    have d1 : wr.cell? ⟨bo, 0, none⟩ = some (.bool bw) := hH.out.1.cell hS1 c1
    by_cases hlt : k < n
    · have hki : (k : Int) < (n : Int) := by omega
      have hpre : daysTo n bw k ++ [dayOf n bw k] <+: daysTo n bw n := by rw [← daysTo_succ]; exact daysTo_prefix (by omega)
      obtain ⟨fn, tmps, assign, body, hy0, hR⟩ := hY _ _ wr hpre hH.out.1 hH.out.2
      cases bw
      · have hy : (Instr.yield l #[.int .i64 (k : Int)]).run Tryz.prog wr = .ok (.round l fn tmps assign body) wr := hy0
        clear hy0
        gi_wp2
        refine ⟨rfl, hR.mono ?_⟩
        clear hy hR d0 d1
        rintro e W3 (⟨rfl, hJ4, hk4⟩ | ⟨rfl, hJx4⟩ | ⟨c, rfl, hJp⟩)
        · have hK4 : Kept S w W3 := hH.out.1.trans hk4
          gi_wp2
          exact ⟨⟨k + 1, by omega, by go_num, hK4, by rw [daysTo_succ]; exact hJ4⟩, by simp [intOf]; omega⟩
        · gi_wp2
          exact bodyPost_ret (results_none rfl _ _ _) rfl (.inl ⟨⟨_, rfl⟩, .inr hJx4⟩)
        · exact ⟨rfl, .inr ⟨c, rfl, hJp⟩⟩
      · have hy : (Instr.yield l #[.int .i64 ((n : Int) - 1 - (k : Int))]).run Tryz.prog wr = .ok (.round l fn tmps assign body) wr := by
          have : ((dayOf n true k : Nat) : Int) = (n : Int) - 1 - (k : Int) := by simp [dayOf]; omega
          rw [← this]; exact hy0
        clear hy0
        gi_wp2
        refine ⟨rfl, hR.mono ?_⟩
        clear hy hR d0 d1
        rintro e W3 (⟨rfl, hJ4, hk4⟩ | ⟨rfl, hJx4⟩ | ⟨c, rfl, hJp⟩)
        · have hK4 : Kept S w W3 := hH.out.1.trans hk4
          gi_wp2
          exact ⟨⟨k + 1, by omega, by go_num, hK4, by rw [daysTo_succ]; exact hJ4⟩, by simp [intOf]; omega⟩
        · gi_wp2
          exact bodyPost_ret (results_none rfl _ _ _) rfl (.inl ⟨⟨_, rfl⟩, .inr hJx4⟩)
        · exact ⟨rfl, .inr ⟨c, rfl, hJp⟩⟩
    · obtain rfl : k = n := by omega
      gi_wp2
      go_end0
      exact .inl ⟨⟨_, rfl⟩, .inl hH.out.2⟩
end Go.Proofs.YthbkcoijafehgaaGreat.L
set_option linter.unusedVariables false
set_option linter.unusedSimpArgs false
namespace Go.Proofs.YthbkcoijafehgaaGreat.L
open Go.RowKit Go.Sd Lk
theorem grown_of_below {w w' : World} (h : Below w.heap.size w w') : w.grownBy w' none :=
  ⟨h.os, h.tape, h.output, h.size, fun k hk _ => h.block k hk⟩
theorem grownBy_trans {a b c : World} {row : Option Nat} (h : a.grownBy b row) (k : b.grownBy c row) : a.grownBy c row :=
  ⟨k.os.trans h.os, k.tape.trans h.tape, k.output.trans h.output, Nat.le_trans h.size k.size, fun i hi hne => (k.block i (Nat.lt_of_lt_of_le hi h.size) hne).trans (h.block i hi hne)⟩
section
variable {α : Type} {enc : α → List Value} {m : Nat}
theorem fl_get (hm : ∀ x, (enc x).length = m) (d : α) : ∀ (xs : List α) (k i : Nat), k < xs.length → i < m → (xs.flatMap enc)[k * m + i]? = (enc (xs.getD k d))[i]?
  | [], k, i, h, _ => by simp at h
  | x :: xs, 0, i, _, hi => by
    rw [List.flatMap_cons, List.getElem?_append_left (by rw [hm x]; omega)]
    simp
  | x :: xs, k + 1, i, h, hi => by
    have ih := fl_get hm d xs k i (by simpa using h) hi
    rw [List.flatMap_cons, List.getElem?_append_right (by rw [hm x, Nat.add_mul]; omega), hm x, show (k + 1) * m + i - m = k * m + i by rw [Nat.add_mul]; omega, ih]
    simp
/-- A slice of structs of one's own. -/
def OwnSt (E : TypeId) (m : Nat) (enc : α → List Value) (B : Nat) (w : World) (v : Value) (xs : List α) : Prop := w.ownsRow B E m v xs.length (xs.flatMap enc)
theorem OwnSt.nil (E : TypeId) (m : Nat) (enc : α → List Value) (B : Nat) (w : World) : OwnSt E m enc B w (.slice none 0 0) [] := World.ownsRow_nil w B _ m
theorem OwnSt.kept {E : TypeId} {B : Nat} {w w' : World} {row : Option Nat} {v : Value} {xs : List α} (h : OwnSt E m enc B w v xs) (hg : w.grownBy w' row) (hne : v.ownBlock = none ∨ v.ownBlock ≠ row) : OwnSt E m enc B w' v xs := World.ownsRow.kept h hg hne
theorem OwnSt.mono {E : TypeId} {B : Nat} {w w' : World} {v : Value} {xs : List α} (h : OwnSt E m enc B w v xs) (hb : Below w.heap.size w w') : OwnSt E m enc B w' v xs := h.kept (grown_of_below hb) (by cases v.ownBlock <;> simp)
theorem OwnSt.lt {E : TypeId} {B : Nat} {w : World} {v : Value} {xs : List α} (h : OwnSt E m enc B w v xs) : ∀ k, v.ownBlock = some k → B ≤ k ∧ k < w.heap.size := World.ownsRow.lt h
theorem OwnSt.cellset {E : TypeId} {B : Nat} {w : World} {v : Value} {xs : List α} (h : OwnSt E m enc B w v xs) {p : Addr} (hp : p.block < B) (u : Value) : OwnSt E m enc B (w.setCell p u) v xs :=
  h.kept (row := some p.block) ⟨rfl, rfl, rfl, by simp [World.setCell], fun k _ hk => Below.heap_setCell _ _ _ _ (fun e => hk (by rw [e]))⟩ (.inr fun e => by have := (h.lt _ e).1; omega)
theorem OwnSt.from {E : TypeId} {B B' : Nat} {w : World} {v : Value} {xs : List α} (h : OwnSt E m enc B w v xs) (hB : B' ≤ B) : OwnSt E m enc B' w v xs := by
  obtain ⟨h1, h2⟩ := h
  refine ⟨h1, ?_⟩
  rcases h2 with h2 | ⟨g, cap, cur, hv, hg, r⟩
  · exact .inl h2
  · exact .inr ⟨g, cap, cur, hv, by omega, r⟩
theorem OwnSt.slice {E : TypeId} {B : Nat} {w : World} {v : Value} {xs : List α} (h : OwnSt E m enc B w v xs) : ∃ a cap, v = .slice a xs.length cap := by
  obtain ⟨_, h2⟩ := h
  rcases h2 with ⟨rfl, h0⟩ | ⟨g, cap, cur, rfl, _⟩
  · exact ⟨none, 0, by rw [h0]⟩
  · exact ⟨_, cap, rfl⟩
theorem OwnSt.cells {E : TypeId} {B : Nat} {w : World} {v : Value} {xs : List α} (hm : ∀ x, (enc x).length = m) (d : α) (h : OwnSt E m enc B w v xs) : ∃ a cap, v = .slice a xs.length cap ∧ xs.length ≤ maxLen ∧
    (0 < xs.length → ∃ b, a = some ⟨b, 0, none⟩ ∧ b < w.heap.size ∧ ∀ k i, k < xs.length → i < m → w.cell? ⟨b, k * m + i, none⟩ = (enc (xs.getD k d))[i]?) := by
  have h0 := h
  obtain ⟨_, h2⟩ := h
  rcases h2 with ⟨rfl, hn⟩ | ⟨g, cap, cur, rfl, hB, hg, hn, hmx, hs, ht⟩
  · exact ⟨none, 0, by rw [hn], by simp [hn], fun h => by omega⟩
  · refine ⟨_, cap, rfl, by omega, fun hp => ⟨g, rfl, (Array.getElem?_eq_some_iff.1 hg).1, fun k i hk hi => ?_⟩⟩
    have hlt : k * m + i < xs.length * m := by
      have : (k + 1) * m ≤ xs.length * m := Nat.mul_le_mul_right m (by omega)
      rw [Nat.add_mul] at this; omega
    rw [h0.cellAt (k * m + i) hlt, fl_get hm d xs k i hk hi]
/-- 'xs = append(xs, y)', y a struct. -/
theorem wpList_app_st (hm : ∀ x, (enc x).length = m) (T E : TypeId) (z : Value) (bytes : Nat) (hT : Tryz.prog.underlying T = some (.slice E)) (hinfo : (Tryz.prog.info? E).map (fun i => (i.zero, i.size, i.bytes)) = some (some z, m, bytes))
    (hzc : z.cells.size = m) (hm0 : 0 < m) (hby : bytes ≤ 1000) (hone : ∀ x, ∀ u ∈ enc x, u.oneCell' = true)
    {ops : Array Oper} {rest : List Oper} {o : Oper} {a : Act} {Q : Exit → Act → World → Prop} (hgd : o.guard = none) (s x : Operand)
    (ho : o.op = .call { callee := .builtin .append, args := #[s, x], argTypes := #[T, T] })
    (B : Nat) (w : World) (v : Value) (xs : List α) (y : α) (hs : a.eval s = v) (hown : OwnSt E m enc B w v xs) (hx : a.eval x = .slice (some ⟨w.heap.size, 0, none⟩) 1 1)
    (hn : xs.length ≤ 1000000) (hB : B ≤ w.heap.size)
    (h : ∀ v' w', OwnSt E m enc B w' v' (xs ++ [y]) → w.grownBy w' v.ownBlock → (v'.ownBlock = v.ownBlock ∨ ∃ k, v'.ownBlock = some k ∧ w.heap.size ≤ k) → wpList Tryz.prog ops Q rest (a.put o.dst v') w') :
    wpList Tryz.prog ops Q (o :: rest) a (w.alloc (.cells (enc y).toArray E)) := by
  obtain ⟨i0, hi, hz0, hz1, hz2⟩ := info_parts hinfo
  have hnw := World.alloc_heap_new w (.cells (enc y).toArray E)
  refine wpList_append_own_at _ hgd s x T ho B E i0 _ m bytes hT hi hz0 hz1 hz2 hzc hm0 v xs.length _ hs (World.ownsRow.alloc hown _) ⟨w.heap.size, 0, none⟩ 1 1 (enc y) hx (by rw [hm y]; omega) ?_ (hone y) ?_ ?_ ?_ ?_
  · exact World.news_of_block (cs := (enc y).toArray) (t := E) (fr := (0, 0)) hnw
  · unfold maxLen; omega
  · have : (xs.length + 1) * bytes ≤ 1000001 * 1000 := Nat.mul_le_mul (by omega) hby
    omega
  · simp; omega
  · intro v' w' h1 h2 h3 h4
    refine h v' w' ?_ (grownBy_trans (World.grownBy_alloc w _ _) h2) ?_
    · unfold OwnSt
      rw [List.length_append, List.flatMap_append]
      simpa using h1
    · rcases h4 with h4 | h4
      · exact .inl h4
      · exact .inr ⟨_, h4, by simp⟩
end
section
variable {α : Type} {enc : α → List Value} {m : Nat} {E : TypeId} {B : Nat} {w w' : World} {v : Value} {xs : List α}
theorem OwnSt.same (h : OwnSt E m enc B w v xs) (hb : ∀ k, v.ownBlock = some k → w'.heap[k]? = w.heap[k]?) : OwnSt E m enc B w' v xs := by
  obtain ⟨h1, h2⟩ := h
  refine ⟨h1, ?_⟩
  rcases h2 with h2 | ⟨g, cap, cur, rfl, hB, hg, r⟩
  · exact .inl h2
  · exact .inr ⟨g, cap, cur, rfl, hB, (hb g rfl).trans hg, r⟩
theorem OwnSt.keptS {S : Nat → Prop} (h : OwnSt E m enc B w v xs) (hk : Kept S w w') (hs : ∀ k, B ≤ k → S k) : OwnSt E m enc B w' v xs :=
  h.same fun k e => hk.block k (h.lt k e).2 (hs k (h.lt k e).1)
theorem OwnSt.els (hm : ∀ x, (enc x).length = m) (d : α) (h : OwnSt E m enc B w v xs) : ElsAt m enc d w v xs := by
  obtain ⟨a, cap, rfl, hmx, hc⟩ := h.cells hm d
  refine ⟨a, cap, rfl, hmx, fun h0 => ?_⟩
  obtain ⟨b, rfl, hlt, hk⟩ := hc h0
  refine ⟨b, 0, rfl, hlt, fun k i u hk' hu => ?_⟩
  have hi : i < m := by
    have := (List.getElem?_eq_some_iff.1 hu).1
    rwa [hm] at this
  rw [Nat.zero_add, hk k i hk' hi]; exact hu
theorem OwnSt.cellsRow (h : OwnSt E m enc B w v xs) : ∀ k, v.ownBlock = some k → ∃ cs, w.heap[k]? = some (.cells cs E) := by
  obtain ⟨h1, h2⟩ := h
  intro k hk
  rcases h2 with ⟨rfl, -⟩ | ⟨g, cap, cur, rfl, hB, hg, r⟩
  · cases hk
  · cases hk; exact ⟨cur, hg⟩
end
theorem spEnc_len (x : Sp) : (spEnc x).length = 2 := rfl
theorem infoSp : (Tryz.prog.info? 23).map (fun i => (i.zero, i.size, i.bytes)) = some (some (.agg #[.int .i64 0, .int .i64 0]), 2, 16) := by kernel_rfl
abbrev OwnSps (B : Nat) (w : World) (v : Value) (xs : List Sp) : Prop := OwnSt 23 2 spEnc B w v xs
theorem OwnSps.sps {B : Nat} {w : World} {v : Value} {xs : List Sp} (h : OwnSps B w v xs) : SpsAt w v xs := h.els spEnc_len ⟨0, 0⟩
theorem infoInt : (Tryz.prog.info? 3).map (fun i => (i.zero, i.size, i.bytes)) = some (some (.int .i64 0), 1, 8) := by kernel_rfl
theorem intEnc_len (x : Int) : (intEnc x).length = 1 := rfl
abbrev OwnInts (B : Nat) (w : World) (v : Value) (xs : List Int) : Prop := OwnSt 3 1 intEnc B w v xs
theorem OwnInts.ints {B : Nat} {w : World} {v : Value} {xs : List Int} (h : OwnInts B w v xs) : IntsAt w v xs := h.els intEnc_len 0
theorem rdEnc_len (x : Rd) : (rdEnc x).length = 4 := rfl
theorem infoRd : (Tryz.prog.info? 54).map (fun i => (i.zero, i.size, i.bytes)) = some (some (.agg #[.int .i64 0, .int .i64 0, .int .i64 0, .int .i64 0]), 4, 32) := by kernel_rfl
abbrev OwnRds (B : Nat) (w : World) (v : Value) (xs : List Rd) : Prop := OwnSt 54 4 rdEnc B w v xs
theorem OwnRds.rds {B : Nat} {w : World} {v : Value} {xs : List Rd} (h : OwnRds B w v xs) : RdsAt w v xs := h.els rdEnc_len ⟨0, 0, ⟨0, 0⟩⟩
end Go.Proofs.YthbkcoijafehgaaGreat.L
