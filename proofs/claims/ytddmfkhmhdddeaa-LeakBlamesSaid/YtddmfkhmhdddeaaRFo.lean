/- Walks: the contents of a zone that agree with all readings up to each day (the reference). -/
import Derived.Test.YtddmfkhmhdddeaaRfw
import Derived.Test.YtddmfkhmhdddeaaLoc
import Derived.Test.YtddmfkhmhdddeaaFwd
import Derived.Deep.Cut
set_option linter.unusedVariables false
set_option linter.unusedSimpArgs false
namespace Lk
/-- The contents of a zone at the end of the first k days. -/
def Bk.fwdL (b : Bk) (g : Gs) (z k : Nat) : List Sp := (List.range k).map fun d => b.fwd g z (d + 1)
theorem fwdL_succ {b : Bk} {g : Gs} {z k : Nat} : b.fwdL g z (k + 1) = b.fwdL g z k ++ [b.fwd g z (k + 1)] := by simp [Bk.fwdL, List.range_succ]
theorem fwdL_len {b : Bk} {g : Gs} {z k : Nat} : (b.fwdL g z k).length = k := by simp [Bk.fwdL]
end Lk
namespace Go.Proofs.Ytddmfkhmhdddeaa
open Go.RowKit Go.Sd Lk

def FwdPo (b : Bk) (g : Gs) (z : Nat) (w : World) (e : Ending) (w' : World) : Prop := Below w.heap.size w w' ∧
  ((b.zoneB g z = true ∧ ∃ a cap, e = .returned (.tuple #[.slice a b.flows.length cap, .bool true]) ∧ OwnSps w.heap.size w' (.slice a b.flows.length cap) (b.fwdL g z b.flows.length)) ∨ (b.zoneB g z = false ∧ e = .returned (.tuple #[.slice none 0 0, .bool false])))
/-- What stands in the rounds. -/
structure RfSt (b : Bk) (g : Gs) (z : Nat) (w : World) (fv wv rv v : Value) (k : Nat) (s : Sp) (W : World) : Prop where
  bk : W.heap[w.heap.size]? = some (bkA fv wv rv)
  gs : W.heap[w.heap.size + 1]? = some (gsO g)
  sp : W.heap[w.heap.size + 2]? = some (spO s)
  own : OwnSps (w.heap.size + 3) W v (b.fwdL g z k)
  bel : Below w.heap.size w W
theorem RfSt.mono {b : Bk} {g : Gs} {z : Nat} {w : World} {fv wv rv v : Value} {k : Nat} {s : Sp} {W V : World} (h : RfSt b g z w fv wv rv v k s W) (hb : Below W.heap.size W V) : RfSt b g z w fv wv rv v k s V :=
  ⟨kept_block hb h.bk, kept_block hb h.gs, kept_block hb h.sp, h.own.mono hb, below_tr h.bel hb⟩
theorem RfSt.set {b : Bk} {g : Gs} {z : Nat} {w : World} {fv wv rv v : Value} {k : Nat} {s t : Sp} {W : World} (h : RfSt b g z w fv wv rv v k s W) :
    RfSt b g z w fv wv rv v k t ((W.setCell ⟨w.heap.size + 2, 0, none⟩ (.int .i64 t.lo)).setCell ⟨w.heap.size + 2, 1, none⟩ (.int .i64 t.hi)) :=
  ⟨(set2_other _ _ (by omega)).trans h.bk, (set2_other _ _ (by omega)).trans h.gs, set2 h.sp _ _,
    OwnSt.cellset (p := ⟨w.heap.size + 2, 1, none⟩) (OwnSt.cellset (p := ⟨w.heap.size + 2, 0, none⟩) h.own (by show w.heap.size + 2 < _; omega) _) (by show w.heap.size + 2 < _; omega) _, h.bel.trans (below_set2 _ _ (by omega))⟩
theorem RfSt.app {b : Bk} {g : Gs} {z : Nat} {w : World} {fv wv rv v v' : Value} {k : Nat} {s : Sp} {W V : World} (h : RfSt b g z w fv wv rv v k s W) (hw : w.heap.size + 3 ≤ W.heap.size) (hg : W.grownBy V v.ownBlock) (ho : OwnSps (w.heap.size + 3) V v' (b.fwdL g z (k + 1))) :
    RfSt b g z w fv wv rv v' (k + 1) s V := by
  have hne : ∀ n, n < w.heap.size + 3 → W.heap[n]? = V.heap[n]? := fun n hn => (hg.block n (by omega) (fun e => by have := (h.own.lt n e.symm).1; omega)).symm
  exact ⟨(hne _ (by omega)).symm.trans h.bk, (hne _ (by omega)).symm.trans h.gs, (hne _ (by omega)).symm.trans h.sp, ho, h.bel.grown hg (by omega) (fun k e => by have := (h.own.lt k e).1; omega)⟩

set_option maxRecDepth 100000 in
set_option maxHeartbeats 4000000 in
theorem refForward (fv wv rv : Value) (b : Bk) (g : Gs) (z : Nat) (w : World) (hb : BookAt w fv wv rv b) (ok : Ok b) (hg : b.gsB g = true) (hz : z < b.first.length) :
    Calls Try.prog 55 #[bkV fv wv rv, gsV g, .int .i64 z] w (FwdPo b g z w) := by
  have hnd := ok.nd
  have hb0 := Lib.hid hb
  have hzi : (z : Int) < (b.first.length : Int) := by omega
  obtain ⟨W0, hW0⟩ : ∃ W, (w.alloc (bkA fv wv rv)).alloc (gsO g) = W := ⟨_, rfl⟩
  obtain ⟨e0, e1, s0, b0⟩ := two_new hW0
  obtain ⟨fb, fo, fc, rfl, hfb, hfm, y0, y1⟩ := sp_cells (hb.first.mono b0) hz
  obtain ⟨wa, wc, rfl, hwm, -⟩ := hb.flows.form
  obtain ⟨ra, rc, rfl, hrm, -⟩ := hb.reads.form
  obtain ⟨q0, q1, q2⟩ := rc3 e0
  have zW := (Array.getElem?_eq_some_iff.1 e0).1
  obtain ⟨W, hW⟩ : ∃ W, W0.alloc (spO (spAt b.first z)) = W := ⟨_, rfl⟩
  obtain ⟨e2, b2, s2⟩ := boxed hW
  rw [show W0.heap.size = w.heap.size + 2 from s0] at e2
  have hS0 : Hid (RfSt b g z w (.slice (some ⟨fb, fo, none⟩) b.first.length fc) (.slice wa b.flows.length wc) (.slice ra b.reads.length rc) (.slice none 0 0) 0 (b.fwd g z 0) W) := Lib.hid ⟨kept_block b2 e0, kept_block b2 e1, e2, OwnSt.nil _ _ _ _ _, below_tr b0 b2⟩
  have hsW : Hid (w.heap.size + 3 ≤ W.heap.size) := Lib.hid (by omega)
  clear hb e1 e2 s2 b0 b2
  go_enter Try.func55, Try.ntmps55
  go_wp2
  clear q0 q1 q2 e0 y0 y1 hfb zW hW hW0 s0
  go_loopw [8, 10] (fun l i wr => ∃ (k : Nat) (v : Value), k ≤ b.flows.length ∧ v = l ∧ i = .int .i64 k ∧ Hid (RfSt b g z w (.slice (some ⟨fb, fo, none⟩) b.first.length fc) (.slice wa b.flows.length wc) (.slice ra b.reads.length rc) v k (b.fwd g z k) wr ∧ b.okTo g z k = true ∧ w.heap.size + 3 ≤ wr.heap.size)) (fun _ i _ => b.flows.length - (intOf i).toNat)
  case atStart => exact ⟨0, _, by omega, rfl, rfl, hS0.out, rfl, hsW.out⟩
  case round =>
    obtain ⟨k, v, hk, rfl, rfl, hH⟩ := hrel
    obtain ⟨hS, hok, hsz⟩ := hH.out
    clear hH hS0 hsW
    obtain ⟨a1, c1, hv⟩ := hS.own.slice
    rw [fwdL_len] at hv
    subst hv
    have hS' := Lib.hid hS
    obtain ⟨q0, q1, q2⟩ := rc3 hS.bk
    have zS := (Array.getElem?_eq_some_iff.1 hS.bk).1
    by_cases hlt : k < b.flows.length
    · have hki : (k : Int) < (b.flows.length : Int) := by omega
      have hbr := hb0.out.mono hS.bel
      obtain ⟨rb, ro, rk, ev, hrv, hrb, -, x1, hrow⟩ := sprow_cell hbr.flows hlt
      obtain ⟨rfl, rfl⟩ : wa = some ⟨rb, ro, none⟩ ∧ wc = rk := by simpa using hrv
      obtain ⟨tb, tof, tc, rfl, htb, -, x2, x3⟩ := sp_cells hrow (k := z) (by rw [ok.rows k hlt]; exact hz)
      rw [ok.rows k hlt] at x1
      obtain ⟨g0, g1, g2⟩ := rc3 hS.gs
      have zG := (Array.getElem?_eq_some_iff.1 hS.gs).1
      have hfb' := fwd_bd ok hg hz k (by omega)
      have hcb := comes_bd ok hg hz hlt
      have hlb : 0 ≤ lost g z k ∧ lost g z k ≤ 10000000 := by
        have hsz : 0 ≤ g.size ∧ g.size ≤ 10000000 := by
          simp only [Bk.gsB, Bool.or_eq_true, decide_eq_true_eq, Bool.and_eq_true, inB_iff] at hg
          rcases hg with rfl | hg
          · simp [noGs]
          · omega
        unfold lost; split <;> omega
      have hfl := ok.flows k z hlt hz
      have hsucc : Hid (b.fwd g z (k + 1) = meets ⟨(b.fwd g z k).lo + (b.flowAt k z).lo - lost g z k, (b.fwd g z k).hi + (b.flowAt k z).hi - lost g z k⟩ (b.readsAt z k)) := Lib.hid (by
        simp only [Bk.fwd, addSp, Bk.comes]
        congr 2 <;> omega)
      have hokn : Hid (b.okTo g z (k + 1) = decide ((b.fwd g z (k + 1)).lo ≤ (b.fwd g z (k + 1)).hi)) := Lib.hid (by rw [Bk.okTo, hok, Bool.true_and])
      have hbad : Hid (b.okTo g z (k + 1) = false → b.zoneB g z = false) := Lib.hid (fun h => okTo_no h _ (by omega))
      have kL := Lib.hid (fun x => refLost g z k x)
      have hfx : spAt (rwAt b.flows k) z = b.flowAt k z := rfl
      rw [hfx] at x2 x3 hfl
      have hnx : Hid (b.fwdL g z (k + 1) = b.fwdL g z k ++ [b.fwd g z (k + 1)]) := Lib.hid fwdL_succ
      have kR := Lib.hid (fun x (h : Below wr.heap.size wr x) => by
        have := refRead _ _ _ b z k ⟨(b.fwd g z k).lo + (b.flowAt k z).lo - lost g z k, (b.fwd g z k).hi + (b.flowAt k z).hi - lost g z k⟩ x (hbr.mono h)
        rw [← hsucc.out] at this
        exact this)
      generalize hq1 : b.fwd g z (k + 1) = s1 at *
      replace hq1 := Lib.hid hq1
      generalize b.fwd g z k = s at *
      generalize b.flowAt k z = f at *
      generalize lost g z k = n at *
      clear hS hrow hbr hrv hfx hok
      go_wp2
      refine plain_region (by kernel_rfl) (any_region_locN 13 66 [] [25, 26, 27, 28, 29, 30, 31, 32, 33, 34, 35, 36, 11] [[], [0], [], [1, 2], [3], [], [4, 5], [6], [], [], [], [8, 9, 10], []] [IsV (.pointer (some ⟨w.heap.size, 1, none⟩)), IsV (.slice (some ⟨rb, ro, none⟩) b.flows.length wc), IsV (.int .i64 k), IsV (.pointer (some ⟨rb, ro + k, none⟩)), IsV (.slice (some ⟨tb, tof, none⟩) b.first.length tc), IsV (.int .i64 z), IsV (.pointer (some ⟨tb, tof + z * 2, none⟩)), IsV (spV f), IsV (gsV g), IsV (.int .i64 z), IsV (.int .i64 k), IsV (.int .i64 n), NewAt wr.heap.size #[.int .i64 0, .int .i64 0] 55] [12] (by kernel_rfl) (by kernel_rfl) (by kernel_rfl) (by kernel_rfl) (by kernel_rfl) rfl OnlyN.panic ?_ ?_ ?_ (fun j hj => nomatch hj) ?_)
      · exact List.forall_mem_cons.2 ⟨pers_v _, List.forall_mem_cons.2 ⟨pers_v _, List.forall_mem_cons.2 ⟨pers_v _, List.forall_mem_cons.2 ⟨pers_v _, List.forall_mem_cons.2 ⟨pers_v _, List.forall_mem_cons.2 ⟨pers_v _, List.forall_mem_cons.2 ⟨pers_v _, List.forall_mem_cons.2 ⟨pers_v _, List.forall_mem_cons.2 ⟨pers_v _, List.forall_mem_cons.2 ⟨pers_v _, List.forall_mem_cons.2 ⟨pers_v _, List.forall_mem_cons.2 ⟨pers_v _, List.forall_mem_cons.2 ⟨pers_new _ _ _, fun f h => nomatch h⟩⟩⟩⟩⟩⟩⟩⟩⟩⟩⟩⟩⟩
      · intro k hk u x hu
        obtain rfl : k = 12 := by simpa using hk
        exact NewAt.isNew (show NewAt _ _ _ u x from hu)
      · refine ⟨?_, ?_, ?_, ?_, ?_, ?_, ?_, ?_, ?_, ?_, ?_, ?_, ?_, trivial⟩
        · intro vals x hb hf
          simp only [fillS, List.getD_cons_succ, List.getD_cons_zero, Act.put, List.setIfInBounds_toArray, List.set_cons_zero, List.set_cons_succ]
          clear hf
          have u1 := kept_cell hb q1
          have ux1 := kept_cell hb x1
          have ux2 := kept_cell hb x2
          have ux3 := kept_cell hb x3
          have ug0 := kept_cell hb g0
          have ug1 := kept_cell hb g1
          have ug2 := kept_cell hb g2
          have zx := Nat.lt_of_lt_of_le zS hb.size
          have zx2 := Nat.lt_of_lt_of_le zG hb.size
          go_wp2
          exact ⟨rfl, rfl, Below.refl _ _, _, rfl, rfl, (fun h => absurd h (by decide))⟩
        · intro vals x hb hf
          simp only [fillS, List.getD_cons_succ, List.getD_cons_zero, Act.put, List.setIfInBounds_toArray, List.set_cons_zero, List.set_cons_succ]
          have h0 : vals 0 = .pointer (some ⟨w.heap.size, 1, none⟩) := hf.1
          rw [h0]
          clear h0
          clear hf
          have u1 := kept_cell hb q1
          have ux1 := kept_cell hb x1
          have ux2 := kept_cell hb x2
          have ux3 := kept_cell hb x3
          have ug0 := kept_cell hb g0
          have ug1 := kept_cell hb g1
          have ug2 := kept_cell hb g2
          have zx := Nat.lt_of_lt_of_le zS hb.size
          have zx2 := Nat.lt_of_lt_of_le zG hb.size
          go_wp2
          exact ⟨rfl, rfl, Below.refl _ _, _, rfl, rfl, (fun h => absurd h (by decide))⟩
        · intro vals x hb hf
          simp only [fillS, List.getD_cons_succ, List.getD_cons_zero, Act.put, List.setIfInBounds_toArray, List.set_cons_zero, List.set_cons_succ]
          clear hf
          have u1 := kept_cell hb q1
          have ux1 := kept_cell hb x1
          have ux2 := kept_cell hb x2
          have ux3 := kept_cell hb x3
          have ug0 := kept_cell hb g0
          have ug1 := kept_cell hb g1
          have ug2 := kept_cell hb g2
          have zx := Nat.lt_of_lt_of_le zS hb.size
          have zx2 := Nat.lt_of_lt_of_le zG hb.size
          go_wp2
          exact ⟨rfl, rfl, Below.refl _ _, _, rfl, rfl, (fun h => absurd h (by decide))⟩
        · intro vals x hb hf
          simp only [fillS, List.getD_cons_succ, List.getD_cons_zero, Act.put, List.setIfInBounds_toArray, List.set_cons_zero, List.set_cons_succ]
          have h1 : vals 1 = .slice (some ⟨rb, ro, none⟩) b.flows.length wc := hf.1
          rw [h1]
          clear h1
          have h2 : vals 2 = .int .i64 k := hf.2.1
          rw [h2]
          clear h2
          clear hf
          have u1 := kept_cell hb q1
          have ux1 := kept_cell hb x1
          have ux2 := kept_cell hb x2
          have ux3 := kept_cell hb x3
          have ug0 := kept_cell hb g0
          have ug1 := kept_cell hb g1
          have ug2 := kept_cell hb g2
          have zx := Nat.lt_of_lt_of_le zS hb.size
          have zx2 := Nat.lt_of_lt_of_le zG hb.size
          go_wp2
          exact ⟨rfl, rfl, Below.refl _ _, _, rfl, rfl, (fun h => absurd h (by decide))⟩
        · intro vals x hb hf
          simp only [fillS, List.getD_cons_succ, List.getD_cons_zero, Act.put, List.setIfInBounds_toArray, List.set_cons_zero, List.set_cons_succ]
          have h3 : vals 3 = .pointer (some ⟨rb, ro + k, none⟩) := hf.1
          rw [h3]
          clear h3
          clear hf
          have u1 := kept_cell hb q1
          have ux1 := kept_cell hb x1
          have ux2 := kept_cell hb x2
          have ux3 := kept_cell hb x3
          have ug0 := kept_cell hb g0
          have ug1 := kept_cell hb g1
          have ug2 := kept_cell hb g2
          have zx := Nat.lt_of_lt_of_le zS hb.size
          have zx2 := Nat.lt_of_lt_of_le zG hb.size
          go_wp2
          exact ⟨rfl, rfl, Below.refl _ _, _, rfl, rfl, (fun h => absurd h (by decide))⟩
        · intro vals x hb hf
          simp only [fillS, List.getD_cons_succ, List.getD_cons_zero, Act.put, List.setIfInBounds_toArray, List.set_cons_zero, List.set_cons_succ]
          clear hf
          have u1 := kept_cell hb q1
          have ux1 := kept_cell hb x1
          have ux2 := kept_cell hb x2
          have ux3 := kept_cell hb x3
          have ug0 := kept_cell hb g0
          have ug1 := kept_cell hb g1
          have ug2 := kept_cell hb g2
          have zx := Nat.lt_of_lt_of_le zS hb.size
          have zx2 := Nat.lt_of_lt_of_le zG hb.size
          go_wp2
          exact ⟨rfl, rfl, Below.refl _ _, _, rfl, rfl, (fun h => absurd h (by decide))⟩
        · intro vals x hb hf
          simp only [fillS, List.getD_cons_succ, List.getD_cons_zero, Act.put, List.setIfInBounds_toArray, List.set_cons_zero, List.set_cons_succ]
          have h4 : vals 4 = .slice (some ⟨tb, tof, none⟩) b.first.length tc := hf.1
          rw [h4]
          clear h4
          have h5 : vals 5 = .int .i64 z := hf.2.1
          rw [h5]
          clear h5
          clear hf
          have u1 := kept_cell hb q1
          have ux1 := kept_cell hb x1
          have ux2 := kept_cell hb x2
          have ux3 := kept_cell hb x3
          have ug0 := kept_cell hb g0
          have ug1 := kept_cell hb g1
          have ug2 := kept_cell hb g2
          have zx := Nat.lt_of_lt_of_le zS hb.size
          have zx2 := Nat.lt_of_lt_of_le zG hb.size
          go_wp2
          exact ⟨rfl, rfl, Below.refl _ _, _, rfl, rfl, (fun h => absurd h (by decide))⟩
        · intro vals x hb hf
          simp only [fillS, List.getD_cons_succ, List.getD_cons_zero, Act.put, List.setIfInBounds_toArray, List.set_cons_zero, List.set_cons_succ]
          have h6 : vals 6 = .pointer (some ⟨tb, tof + z * 2, none⟩) := hf.1
          rw [h6]
          clear h6
          clear hf
          have u1 := kept_cell hb q1
          have ux1 := kept_cell hb x1
          have ux2 := kept_cell hb x2
          have ux3 := kept_cell hb x3
          have ug0 := kept_cell hb g0
          have ug1 := kept_cell hb g1
          have ug2 := kept_cell hb g2
          have zx := Nat.lt_of_lt_of_le zS hb.size
          have zx2 := Nat.lt_of_lt_of_le zG hb.size
          go_wp2
          exact ⟨rfl, rfl, Below.refl _ _, _, rfl, rfl, (fun h => absurd h (by decide))⟩
        · intro vals x hb hf
          simp only [fillS, List.getD_cons_succ, List.getD_cons_zero, Act.put, List.setIfInBounds_toArray, List.set_cons_zero, List.set_cons_succ]
          clear hf
          have u1 := kept_cell hb q1
          have ux1 := kept_cell hb x1
          have ux2 := kept_cell hb x2
          have ux3 := kept_cell hb x3
          have ug0 := kept_cell hb g0
          have ug1 := kept_cell hb g1
          have ug2 := kept_cell hb g2
          have zx := Nat.lt_of_lt_of_le zS hb.size
          have zx2 := Nat.lt_of_lt_of_le zG hb.size
          go_wp2
          exact ⟨rfl, rfl, Below.refl _ _, _, rfl, rfl, (fun h => absurd h (by decide))⟩
        · intro vals x hb hf
          simp only [fillS, List.getD_cons_succ, List.getD_cons_zero, Act.put, List.setIfInBounds_toArray, List.set_cons_zero, List.set_cons_succ]
          clear hf
          have u1 := kept_cell hb q1
          have ux1 := kept_cell hb x1
          have ux2 := kept_cell hb x2
          have ux3 := kept_cell hb x3
          have ug0 := kept_cell hb g0
          have ug1 := kept_cell hb g1
          have ug2 := kept_cell hb g2
          have zx := Nat.lt_of_lt_of_le zS hb.size
          have zx2 := Nat.lt_of_lt_of_le zG hb.size
          go_wp2
          exact ⟨rfl, rfl, Below.refl _ _, _, rfl, rfl, (fun h => absurd h (by decide))⟩
        · intro vals x hb hf
          simp only [fillS, List.getD_cons_succ, List.getD_cons_zero, Act.put, List.setIfInBounds_toArray, List.set_cons_zero, List.set_cons_succ]
          clear hf
          have u1 := kept_cell hb q1
          have ux1 := kept_cell hb x1
          have ux2 := kept_cell hb x2
          have ux3 := kept_cell hb x3
          have ug0 := kept_cell hb g0
          have ug1 := kept_cell hb g1
          have ug2 := kept_cell hb g2
          have zx := Nat.lt_of_lt_of_le zS hb.size
          have zx2 := Nat.lt_of_lt_of_le zG hb.size
          go_wp2
          exact ⟨rfl, rfl, Below.refl _ _, _, rfl, rfl, (fun h => absurd h (by decide))⟩
        · intro vals x hb hf
          simp only [fillS, List.getD_cons_succ, List.getD_cons_zero, Act.put, List.setIfInBounds_toArray, List.set_cons_zero, List.set_cons_succ]
          have h8 : vals 8 = gsV g := hf.1
          rw [h8]
          clear h8
          have h9 : vals 9 = .int .i64 z := hf.2.1
          rw [h9]
          clear h9
          have h10 : vals 10 = .int .i64 k := hf.2.2.1
          rw [h10]
          clear h10
          clear hf
          have u1 := kept_cell hb q1
          have ux1 := kept_cell hb x1
          have ux2 := kept_cell hb x2
          have ux3 := kept_cell hb x3
          have ug0 := kept_cell hb g0
          have ug1 := kept_cell hb g1
          have ug2 := kept_cell hb g2
          have zx := Nat.lt_of_lt_of_le zS hb.size
          have zx2 := Nat.lt_of_lt_of_le zG hb.size
          go_wp2_with (go_at_call 68; (with_reducible refine Calls.mono (kL.out x) ?_); rintro e y ⟨rfl, hB⟩)
          exact ⟨rfl, rfl, hB, _, rfl, rfl, (fun h => absurd h (by decide))⟩
        · intro vals x hb hf
          simp only [fillS, List.getD_cons_succ, List.getD_cons_zero, Act.put, List.setIfInBounds_toArray, List.set_cons_zero, List.set_cons_succ]
          clear hf
          go_wp2
          exact ⟨rfl, rfl, (Below.refl _ _).alloc (Nat.le_refl _) _, _, rfl, ⟨_, rfl, hb.size, World.alloc_heap_new _ _⟩, fun _ => rfl⟩
      intro vals x hb hf hp
      have hrange : List.range 13 = [0, 1, 2, 3, 4, 5, 6, 7, 8, 9, 10, 11, 12] := by rfl
      rw [hrange]
      simp only [fillS, List.getD_cons_succ, List.getD_cons_zero, Act.put, List.setIfInBounds_toArray, List.set_cons_zero, List.set_cons_succ]
      have h0 : vals 0 = .pointer (some ⟨w.heap.size, 1, none⟩) := hf 0 (by omega)
      have h1 : vals 1 = .slice (some ⟨rb, ro, none⟩) b.flows.length wc := hf 1 (by omega)
      have h2 : vals 2 = .int .i64 k := hf 2 (by omega)
      have h3 : vals 3 = .pointer (some ⟨rb, ro + k, none⟩) := hf 3 (by omega)
      have h4 : vals 4 = .slice (some ⟨tb, tof, none⟩) b.first.length tc := hf 4 (by omega)
      have h5 : vals 5 = .int .i64 z := hf 5 (by omega)
      have h6 : vals 6 = .pointer (some ⟨tb, tof + z * 2, none⟩) := hf 6 (by omega)
      have h7 : vals 7 = spV f := hf 7 (by omega)
      have h8 : vals 8 = gsV g := hf 8 (by omega)
      have h9 : vals 9 = .int .i64 z := hf 9 (by omega)
      have h10 : vals 10 = .int .i64 k := hf 10 (by omega)
      have f11 : (IsV (.int .i64 n)) (vals 11) x := hf 11 (by omega)
      obtain ⟨blk11, hv11, l11, A11⟩ : NewAt wr.heap.size #[.int .i64 0, .int .i64 0] 55 (vals 12) x := hf 12 (by omega)
      rw [h0, h1, h2, h3, h4, h5, h6, h7, h8, h9, h10, hv11]
      clear h0 h1 h2 h3 h4 h5 h6 h7 h8 h9 h10 hv11 hf hp hrange
      obtain ⟨p11_0, p11_1⟩ := rc2 A11
      obtain ⟨g11_0, g11_1⟩ := rf2 A11
      simp only [List.drop_succ_cons, List.drop_zero]
      rw [show vals 11 = .int .i64 n from f11]
      clear f11 q0 q1 q2 x1 x2 x3 g0 g1 g2 kL
      obtain ⟨p0, p1⟩ := rc2 A11
      obtain ⟨o0, o1⟩ := rf2 A11
      have z11 := (Array.getElem?_eq_some_iff.1 A11).1
      go_wp2
      refine OnlyN.mk ?_
      obtain ⟨Y, hY⟩ : ∃ Y, (x.setCell ⟨blk11, 0, none⟩ (.int .i64 f.lo)).setCell ⟨blk11, 1, none⟩ (.int .i64 f.hi) = Y := ⟨_, rfl⟩
      have hBY : Below wr.heap.size wr Y := by rw [← hY]; exact hb.trans (below_set2 _ _ l11)
      have eY := set2 A11 (.int .i64 f.lo) (.int .i64 f.hi)
      rw [hY] at eY ⊢
      clear hY p0 p1 o0 o1 z11 A11
      have hSY := Lib.hid (hS'.out.mono hBY)
      obtain ⟨q0, q1, q2⟩ := rc3 hSY.out.bk
      obtain ⟨p0, p1⟩ := rc2 eY
      obtain ⟨m0, m1⟩ := rc2 hSY.out.sp
      have zb := (Array.getElem?_eq_some_iff.1 hSY.out.bk).1
      have zs := (Array.getElem?_eq_some_iff.1 hSY.out.sp).1
      have z11 := (Array.getElem?_eq_some_iff.1 eY).1
      go_upto_region 8 with (go_at_call 73; (with_reducible refine Calls.mono (kR.out Y hBY) ?_); rintro e y ⟨rfl, hB2⟩; have hSy := Lib.hid (hSY.out.mono hB2); obtain ⟨e0, e1⟩ := rf2 hSy.out.sp; obtain ⟨e2, e3⟩ := rc2 hSy.out.sp; have zy := (Array.getElem?_eq_some_iff.1 hSy.out.sp).1)
      obtain ⟨Z, hZ⟩ : ∃ Z, (y.setCell ⟨w.heap.size + 2, 0, none⟩ (.int .i64 s1.lo)).setCell ⟨w.heap.size + 2, 1, none⟩ (.int .i64 s1.hi) = Z := ⟨_, rfl⟩
      have hSZ := Lib.hid (hSy.out.set (t := s1))
      have hZs : w.heap.size + 3 ≤ Z.heap.size := by
        have h1 := hBY.size
        have h2 := hB2.size
        have h3 : Z.heap.size = y.heap.size := by rw [← hZ]; simp [World.setCell]
        omega
      rw [hZ] at hSZ ⊢
      clear hZ q0 q1 q2 p0 p1 m0 m1 zb zs z11 e0 e1 e2 e3 zy hSy hSY eY hB2 hBY hb l11 kR
      obtain ⟨m0, m1⟩ := rc2 hSZ.out.sp
      have zs := (Array.getElem?_eq_some_iff.1 hSZ.out.sp).1
      rcases Int.lt_or_le s1.hi s1.lo with hs | hs
      · have hr := Lib.hid (hbad.out (by rw [hokn.out]; simpa using hs))
        clear hbad hokn hnx hsucc
        go_wp2
        refine bodyPost_ret (v := .tuple #[_, _]) (by simp [results, Try.results55, go_sem]; exact ⟨rfl, rfl⟩) rfl ?_
        exact ⟨hSZ.out.bel, .inr ⟨hr.out, rfl⟩⟩
      · have hr := Lib.hid (show b.okTo g z (k + 1) = true by rw [hokn.out]; simpa using hs)
        have hlen : (b.fwdL g z k).length ≤ 1000000 := by rw [fwdL_len]; omega
        have hlk : Hid ((b.fwdL g z k).length = k) := Lib.hid fwdL_len
        have hlk1 : Hid ((b.fwdL g z (k + 1)).length = k + 1) := Lib.hid fwdL_len
        have hOZ := Lib.hid hSZ.out.own
        clear hbad hokn hsucc
        generalize hl1 : b.fwdL g z k = l1 at *
        replace hl1 := Lib.hid hl1
        go_wp2_with (at_builtin; refine wpList_app_st (enc := spEnc) spEnc_len 22 55 _ 16 Try.underlying22 infoSp rfl (by omega) (by omega) spEnc_one (by rfl) _ _ (by rfl) (w.heap.size + 3) Z (.slice a1 k c1) l1 s1 (by rfl) hOZ.out (by rfl) hlen hZs ?_; intro v1 w2 ho1 hg1 hat1; rw [← hnx.out] at ho1; obtain ⟨a2, c2, he1⟩ := ho1.slice; rw [hlk1.out] at he1; subst he1)
        exact ⟨⟨k + 1, _, by omega, rfl, by go_num, by rw [hq1.out]; exact hSZ.out.app hZs hg1 ho1, hr.out, Nat.le_trans hZs hg1.size⟩, by simp [intOf]; omega⟩
    · obtain rfl : k = b.flows.length := by omega
      have hr : Hid (b.zoneB g z = true) := Lib.hid hok
      have hO := Lib.hid (OwnSt.from hS.own (show w.heap.size ≤ w.heap.size + 3 by omega))
      have hBf := Lib.hid hS.bel
      clear hS hok
      go_wp2
      refine bodyPost_ret (v := .tuple #[_, _]) (by simp [results, Try.results55, go_sem]; exact ⟨rfl, rfl⟩) rfl ?_
      exact ⟨hBf.out, .inl ⟨hr.out, _, _, rfl, hO.out⟩⟩
end Go.Proofs.Ytddmfkhmhdddeaa
