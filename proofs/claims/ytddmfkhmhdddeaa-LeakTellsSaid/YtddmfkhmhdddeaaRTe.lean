/- Walks: which reading tells two guesses apart (the reference). -/
import Derived.Test.YtddmfkhmhdddeaaRBd
import Derived.Test.YtddmfkhmhdddeaaTel
set_option linter.unusedVariables false
set_option linter.unusedSimpArgs false
namespace Lk
def Bk.rtR (b : Bk) (g h : Gs) (wrong : Int) : Int × Int := match b.tellD g h wrong with
  | some p => ((p.1 : Int), (p.2 : Int))
  | none => (-1, -1)
theorem rtR_some {b : Bk} {g h : Gs} {wrong : Int} {t z : Nat} (ht : t < b.flows.length) (hz : z < b.first.length) (hy : b.tellB g h wrong t z = true) (h1 : ∀ u, u < t → ∀ v, v < b.first.length → b.tellB g h wrong u v = false) (h2 : ∀ v, v < z → b.tellB g h wrong t v = false) : b.rtR g h wrong = ((t : Int), (z : Int)) := by
  unfold Bk.rtR; rw [tell_some ht hz hy h1 h2]
theorem rtR_none {b : Bk} {g h : Gs} {wrong : Int} (h1 : ∀ u, u < b.flows.length → ∀ v, v < b.first.length → b.tellB g h wrong u v = false) : b.rtR g h wrong = (-1, -1) := by
  unfold Bk.rtR; rw [tell_none h1]
end Lk
namespace Go.Proofs.Ytddmfkhmhdddeaa
open Go.RowKit Go.Sd Lk
attribute [local go_sem] Oper.semAt_some

def RowsIs (l : List (List Sp)) : Value → World → Prop := fun v w => SpRowsAt w v l
theorem pers_rows (l : List (List Sp)) : Pers (RowsIs l) := fun _ _ _ hb h => RowsAt.mono h hb

set_option maxRecDepth 100000 in
set_option maxHeartbeats 4000000 in
theorem refTell (fv wv rv : Value) (b : Bk) (g h : Gs) (wrong : Int) (w : World) (hb : BookAt w fv wv rv b) (ok : Ok b) (hg : b.gsB g = true) (hh : b.gsB h = true) (ag : b.agreeB g = true) (ah : b.agreeB h = true) (hwr : 0 ≤ wrong ∧ wrong ≤ 10000000) :
    Calls Try.prog 32 #[bkV fv wv rv, gsV g, gsV h, .int .i64 wrong] w fun e w' => e = .returned (.tuple #[.int .i64 (b.rtR g h wrong).1, .int .i64 (b.rtR g h wrong).2]) ∧ Below w.heap.size w w' := by
  have hnd := ok.nd
  have hnz := ok.nz
  obtain ⟨W, hW⟩ : ∃ W, ((w.alloc (bkA fv wv rv)).alloc (gsO g)).alloc (gsO h) = W := ⟨_, rfl⟩
  obtain ⟨e0, e1, e2, s1, B1⟩ := three_new hW
  have hbW := Lib.hid (hb.mono B1)
  have kG := Lib.hid (fun X (hX : Below W.heap.size W X) => refBounds fv wv rv b g X (hbW.out.mono hX) ok hg ag)
  have kH := Lib.hid (fun X (hX : Below W.heap.size W X) => refBounds fv wv rv b h X (hbW.out.mono hX) ok hh ah)
  obtain ⟨fa, fc, rfl, hfm, -⟩ := hb.first.form
  obtain ⟨wa, wc, rfl, hwm, -⟩ := hb.flows.form
  obtain ⟨ra, rc, rfl, hrm, -⟩ := hb.reads.form
  obtain ⟨q0, q1, q2⟩ := rc3 e0
  obtain ⟨g0, g1, g2⟩ := rc3 e1
  obtain ⟨h0, h1, h2⟩ := rc3 e2
  have z0 := (Array.getElem?_eq_some_iff.1 e0).1
  have z1 := (Array.getElem?_eq_some_iff.1 e1).1
  have z2 := (Array.getElem?_eq_some_iff.1 e2).1
  have hBW := Lib.hid B1
  clear hb e0 e1 e2 s1 B1
  go_enter Try.func32, Try.ntmps32
  go_wp2
  refine plain_region (by kernel_rfl) (any_region_locN 6 79 [] [14, 15, 16, 17, 18, 19] [[], [], [0, 1], [], [], [3, 4]] [IsV (bkV (.slice fa b.first.length fc) (.slice wa b.flows.length wc) (.slice ra b.reads.length rc)), IsV (gsV g), RowsIs (b.bounds g), IsV (bkV (.slice fa b.first.length fc) (.slice wa b.flows.length wc) (.slice ra b.reads.length rc)), IsV (gsV h), RowsIs (b.bounds h)] [] (by kernel_rfl) (by kernel_rfl) (by kernel_rfl) (by kernel_rfl) (by kernel_rfl) rfl OnlyN.panic ?_ ?_ ?_ (fun j hj => nomatch hj) ?_)
  · exact List.forall_mem_cons.2 ⟨pers_v _, List.forall_mem_cons.2 ⟨pers_v _, List.forall_mem_cons.2 ⟨pers_rows _, List.forall_mem_cons.2 ⟨pers_v _, List.forall_mem_cons.2 ⟨pers_v _, List.forall_mem_cons.2 ⟨pers_rows _, fun f h => nomatch h⟩⟩⟩⟩⟩⟩
  · intro k hk; cases hk
  · refine ⟨?_, ?_, ?_, ?_, ?_, ?_, trivial⟩
    · intro vals x hb hf
      simp only [fillS, List.getD_cons_succ, List.getD_cons_zero, Act.put, List.setIfInBounds_toArray, List.set_cons_zero, List.set_cons_succ]
      clear hf
      have u0 := kept_cell hb q0
      have u1 := kept_cell hb q1
      have u2 := kept_cell hb q2
      have v0 := kept_cell hb g0
      have v1 := kept_cell hb g1
      have v2 := kept_cell hb g2
      have t0 := kept_cell hb h0
      have t1 := kept_cell hb h1
      have t2 := kept_cell hb h2
      have zx0 := Nat.lt_of_lt_of_le z0 hb.size
      have zx1 := Nat.lt_of_lt_of_le z1 hb.size
      have zx2 := Nat.lt_of_lt_of_le z2 hb.size
      go_wp2
      exact ⟨rfl, rfl, Below.refl _ _, _, rfl, rfl, (fun h => absurd h (by decide))⟩
    · intro vals x hb hf
      simp only [fillS, List.getD_cons_succ, List.getD_cons_zero, Act.put, List.setIfInBounds_toArray, List.set_cons_zero, List.set_cons_succ]
      clear hf
      have u0 := kept_cell hb q0
      have u1 := kept_cell hb q1
      have u2 := kept_cell hb q2
      have v0 := kept_cell hb g0
      have v1 := kept_cell hb g1
      have v2 := kept_cell hb g2
      have t0 := kept_cell hb h0
      have t1 := kept_cell hb h1
      have t2 := kept_cell hb h2
      have zx0 := Nat.lt_of_lt_of_le z0 hb.size
      have zx1 := Nat.lt_of_lt_of_le z1 hb.size
      have zx2 := Nat.lt_of_lt_of_le z2 hb.size
      go_wp2
      exact ⟨rfl, rfl, Below.refl _ _, _, rfl, rfl, (fun h => absurd h (by decide))⟩
    · intro vals x hb hf
      simp only [fillS, List.getD_cons_succ, List.getD_cons_zero, Act.put, List.setIfInBounds_toArray, List.set_cons_zero, List.set_cons_succ]
      have h0 : vals 0 = bkV (.slice fa b.first.length fc) (.slice wa b.flows.length wc) (.slice ra b.reads.length rc) := hf.1
      rw [h0]
      clear h0
      have h1 : vals 1 = gsV g := hf.2.1
      rw [h1]
      clear h1
      clear hf
      have u0 := kept_cell hb q0
      have u1 := kept_cell hb q1
      have u2 := kept_cell hb q2
      have v0 := kept_cell hb g0
      have v1 := kept_cell hb g1
      have v2 := kept_cell hb g2
      have t0 := kept_cell hb h0
      have t1 := kept_cell hb h1
      have t2 := kept_cell hb h2
      have zx0 := Nat.lt_of_lt_of_le z0 hb.size
      have zx1 := Nat.lt_of_lt_of_le z1 hb.size
      have zx2 := Nat.lt_of_lt_of_le z2 hb.size
      go_wp2_with (go_at_call 24; (with_reducible refine Calls.mono (kG.out x hb) ?_); rintro e y ⟨hB, v, rfl, hv⟩)
      exact ⟨rfl, rfl, hB, _, rfl, hv, (fun h => absurd h (by decide))⟩
    · intro vals x hb hf
      simp only [fillS, List.getD_cons_succ, List.getD_cons_zero, Act.put, List.setIfInBounds_toArray, List.set_cons_zero, List.set_cons_succ]
      clear hf
      have u0 := kept_cell hb q0
      have u1 := kept_cell hb q1
      have u2 := kept_cell hb q2
      have v0 := kept_cell hb g0
      have v1 := kept_cell hb g1
      have v2 := kept_cell hb g2
      have t0 := kept_cell hb h0
      have t1 := kept_cell hb h1
      have t2 := kept_cell hb h2
      have zx0 := Nat.lt_of_lt_of_le z0 hb.size
      have zx1 := Nat.lt_of_lt_of_le z1 hb.size
      have zx2 := Nat.lt_of_lt_of_le z2 hb.size
      go_wp2
      exact ⟨rfl, rfl, Below.refl _ _, _, rfl, rfl, (fun h => absurd h (by decide))⟩
    · intro vals x hb hf
      simp only [fillS, List.getD_cons_succ, List.getD_cons_zero, Act.put, List.setIfInBounds_toArray, List.set_cons_zero, List.set_cons_succ]
      clear hf
      have u0 := kept_cell hb q0
      have u1 := kept_cell hb q1
      have u2 := kept_cell hb q2
      have v0 := kept_cell hb g0
      have v1 := kept_cell hb g1
      have v2 := kept_cell hb g2
      have t0 := kept_cell hb h0
      have t1 := kept_cell hb h1
      have t2 := kept_cell hb h2
      have zx0 := Nat.lt_of_lt_of_le z0 hb.size
      have zx1 := Nat.lt_of_lt_of_le z1 hb.size
      have zx2 := Nat.lt_of_lt_of_le z2 hb.size
      go_wp2
      exact ⟨rfl, rfl, Below.refl _ _, _, rfl, rfl, (fun h => absurd h (by decide))⟩
    · intro vals x hb hf
      simp only [fillS, List.getD_cons_succ, List.getD_cons_zero, Act.put, List.setIfInBounds_toArray, List.set_cons_zero, List.set_cons_succ]
      have h3 : vals 3 = bkV (.slice fa b.first.length fc) (.slice wa b.flows.length wc) (.slice ra b.reads.length rc) := hf.1
      rw [h3]
      clear h3
      have h4 : vals 4 = gsV h := hf.2.1
      rw [h4]
      clear h4
      clear hf
      have u0 := kept_cell hb q0
      have u1 := kept_cell hb q1
      have u2 := kept_cell hb q2
      have v0 := kept_cell hb g0
      have v1 := kept_cell hb g1
      have v2 := kept_cell hb g2
      have t0 := kept_cell hb h0
      have t1 := kept_cell hb h1
      have t2 := kept_cell hb h2
      have zx0 := Nat.lt_of_lt_of_le z0 hb.size
      have zx1 := Nat.lt_of_lt_of_le z1 hb.size
      have zx2 := Nat.lt_of_lt_of_le z2 hb.size
      go_wp2_with (go_at_call 24; (with_reducible refine Calls.mono (kH.out x hb) ?_); rintro e y ⟨hB, v, rfl, hv⟩)
      exact ⟨rfl, rfl, hB, _, rfl, hv, (fun h => absurd h (by decide))⟩
  intro vals x hb hf hp
  have hrange : List.range 6 = [0, 1, 2, 3, 4, 5] := by rfl
  rw [hrange]
  simp only [fillS, List.getD_cons_succ, List.getD_cons_zero, Act.put, List.setIfInBounds_toArray, List.set_cons_zero, List.set_cons_succ]
  have h0 : vals 0 = bkV (.slice fa b.first.length fc) (.slice wa b.flows.length wc) (.slice ra b.reads.length rc) := hf 0 (by omega)
  have h1 : vals 1 = gsV g := hf 1 (by omega)
  have f2 : (RowsIs (b.bounds g)) (vals 2) x := hf 2 (by omega)
  have h3 : vals 3 = bkV (.slice fa b.first.length fc) (.slice wa b.flows.length wc) (.slice ra b.reads.length rc) := hf 3 (by omega)
  have h4 : vals 4 = gsV h := hf 4 (by omega)
  have f5 : (RowsIs (b.bounds h)) (vals 5) x := hf 5 (by omega)
  rw [h0, h1, h3, h4]
  clear h0 h1 h3 h4 hf hp hrange
  simp only [List.drop_succ_cons, List.drop_zero]
  have r1 : SpRowsAt x (vals 2) (b.bounds g) := f2
  have r2 : SpRowsAt x (vals 5) (b.bounds h) := f5
  obtain ⟨xa, xc, hx1, hxm, -⟩ := r1.form
  obtain ⟨ya, yc, hy1, hym, -⟩ := r2.form
  rw [bounds_len] at hx1 hy1 hxm
  rw [hx1, hy1]
  rw [hx1] at r1
  rw [hy1] at r2
  have hr1 := Lib.hid r1
  have hr2 := Lib.hid r2
  have hwx := Lib.hid (below_tr hBW.out hb)
  clear f2 f5 hx1 hy1 r1 r2 q0 q1 q2 g0 g1 g2 h0 h1 h2 z0 z1 z2 hb hW kG kH hbW hBW
  go_wp2
  refine OnlyN.mk ?_
  go_wp2
  have hgx := grow_cell x
  go_loopw [12] (fun i wr => ∃ gg : Grow x, wr = gg.x ∧ ∃ t : Nat, t ≤ b.flows.length ∧ i = .int .i64 t ∧ Hid (∀ u, u < t → ∀ v, v < b.first.length → b.tellB g h wrong u v = false)) (fun i _ => b.flows.length - (intOf i).toNat)
  case atStart => exact ⟨Grow.self x, rfl, 0, by omega, rfl, fun u hu => absurd hu (Nat.not_lt_zero _)⟩
  case round =>
    obtain ⟨gg, rfl, t, ht, rfl, hH⟩ := hrel
    by_cases htl : t < b.flows.length
    · have hti : (t : Int) < (b.flows.length : Int) := by omega
      obtain ⟨b1, o1, k1, ev1, hv1, hl1, -, x1, hrow1⟩ := sprow_cell hr1.out (k := t) (by rw [bounds_len]; exact htl)
      obtain ⟨b2, o2, k2, ev2, hv2, hl2, -, x2, hrow2⟩ := sprow_cell hr2.out (k := t) (by rw [bounds_len]; exact htl)
      rw [bounds_len] at hv1 hv2
      obtain ⟨rfl, rfl⟩ : xa = some ⟨b1, o1, none⟩ ∧ xc = k1 := by simpa using hv1
      obtain ⟨rfl, rfl⟩ : ya = some ⟨b2, o2, none⟩ ∧ yc = k2 := by simpa using hv2
      rw [show rwAt (b.bounds g) t = (List.range b.first.length).map fun z => b.bnd g z t from rwAt_range htl] at hrow1
      rw [show rwAt (b.bounds h) t = (List.range b.first.length).map fun z => b.bnd h z t from rwAt_range htl] at hrow2
      obtain ⟨ra1, rc1, rfl, hrm1, -⟩ := hrow1.form
      obtain ⟨ra2, rc2, rfl, hrm2, -⟩ := hrow2.form
      rw [show ((List.range b.first.length).map fun z => b.bnd g z t).length = b.first.length by simp] at x1
      rw [show ((List.range b.first.length).map fun z => b.bnd h z t).length = b.first.length by simp] at x2
      have hrw1 := Lib.hid hrow1
      have hrw2 := Lib.hid hrow2
      clear hrow1 hrow2 hv1 hv2 hrm1 hrm2
      go_wp2
      go_loopw [13] (fun i wr => ∃ g2 : Grow x, wr = g2.x ∧ ∃ z : Nat, z ≤ b.first.length ∧ i = .int .i64 z ∧ Hid (∀ v, v < z → b.tellB g h wrong t v = false)) (fun i _ => b.first.length - (intOf i).toNat)
      case atStart => exact ⟨gg, rfl, 0, by omega, rfl, fun u hu => absurd hu (Nat.not_lt_zero _)⟩
      case round =>
        obtain ⟨g2, rfl, z, hz, rfl, hG⟩ := hrel
        by_cases hzl : z < b.first.length
        · have hzi : (z : Int) < (b.first.length : Int) := by omega
          obtain ⟨c1, p1, d1, hw1, hcl1, -, u1, u2⟩ := sp_cells hrw1.out (k := z) (by simp; exact hzl)
          obtain ⟨c2, p2, d2, hw2, hcl2, -, u3, u4⟩ := sp_cells hrw2.out (k := z) (by simp; exact hzl)
          simp only [List.length_map, List.length_range] at hw1 hw2
          obtain ⟨rfl, rfl⟩ : ra1 = some ⟨c1, p1, none⟩ ∧ rc1 = d1 := by simpa using hw1
          obtain ⟨rfl, rfl⟩ : ra2 = some ⟨c2, p2, none⟩ ∧ rc2 = d2 := by simpa using hw2
          rw [show spAt ((List.range b.first.length).map fun z => b.bnd g z t) z = b.bnd g z t from spAt_range hzl] at u1 u2
          rw [show spAt ((List.range b.first.length).map fun z => b.bnd h z t) z = b.bnd h z t from spAt_range hzl] at u3 u4
          have hbd1 := bnd_bd ok hg ag hzl htl
          have hbd2 := bnd_bd ok hh ah hzl htl
          have htb : Hid (b.tellB g h wrong t z = (decide (2 * wrong < (b.bnd g z t).lo - (b.bnd h z t).hi) || decide (2 * wrong < (b.bnd h z t).lo - (b.bnd g z t).hi))) := rfl
          have hyes : Hid (b.tellB g h wrong t z = true → b.rtR g h wrong = ((t : Int), (z : Int))) := Lib.hid fun hy => rtR_some htl hzl hy hH.out hG.out
          have hno : Hid (b.tellB g h wrong t z = false → ∀ v, v < z + 1 → b.tellB g h wrong t v = false) := Lib.hid fun hn v hv => by
            rcases Nat.lt_succ_iff_lt_or_eq.1 hv with h' | rfl
            · exact hG.out v h'
            · exact hn
          clear hw1 hw2 hG
          generalize b.bnd g z t = sx at *
          generalize b.bnd h z t = sy at *
          have hm : -20000000 ≤ 2 * wrong ∧ 2 * wrong ≤ 20000000 := by omega
          rcases Int.lt_or_le (sx.hi + 2 * wrong) sy.lo with ha | ha
          · have hd1 : decide (sx.hi + 2 * wrong < sy.lo) = true := by simpa using ha
            have hr := Lib.hid (hyes.out (by rw [htb.out]; simp; omega))
            clear hyes hno htb
            go_wp2
            have hgg : ∀ (h : Grow g2.x) (b o : Nat), b < x.heap.size → h.x.cell? ⟨b, o, none⟩ = x.cell? ⟨b, o, none⟩ := fun h b o hb => (grow_cell g2.x h b o (Nat.lt_of_lt_of_le hb g2.size)).trans (grow_cell x g2 b o hb)
            refine wp_region_grow (by kernel_rfl) (by kernel_rfl) ?_
            repeat (go_big_quiet_step (fail))
            refine wpQuiet_nil ?_
            rintro _ ⟨gx, rfl⟩
            clear hgg
            obtain ⟨g3, hg3⟩ := g2.next gx.h
            rw [hg3]
            clear hg3 gx
            go_wp2
            refine bodyPost_ret (v := .tuple #[_, _]) (by simp [results, Try.results32, go_sem]; exact ⟨rfl, rfl⟩) rfl ?_
            exact ⟨by rw [hr.out], below_tr hwx.out g3.h⟩
          · have hd1 : decide (sx.hi + 2 * wrong < sy.lo) = false := by simpa using ha
            rcases Int.lt_or_le (sy.hi + 2 * wrong) sx.lo with hc | hc
            · have hd2 : decide (sy.hi + 2 * wrong < sx.lo) = true := by simpa using hc
              have hr := Lib.hid (hyes.out (by rw [htb.out]; simp; omega))
              clear hyes hno htb
              go_wp2
              have hgg : ∀ (h : Grow g2.x) (b o : Nat), b < x.heap.size → h.x.cell? ⟨b, o, none⟩ = x.cell? ⟨b, o, none⟩ := fun h b o hb => (grow_cell g2.x h b o (Nat.lt_of_lt_of_le hb g2.size)).trans (grow_cell x g2 b o hb)
              refine wp_region_grow (by kernel_rfl) (by kernel_rfl) ?_
              repeat (go_big_quiet_step (fail))
              refine wpQuiet_nil ?_
              rintro _ ⟨gx, rfl⟩
              clear hgg
              obtain ⟨g3, hg3⟩ := g2.next gx.h
              rw [hg3]
              clear hg3 gx
              go_wp2
              refine bodyPost_ret (v := .tuple #[_, _]) (by simp [results, Try.results32, go_sem]; exact ⟨rfl, rfl⟩) rfl ?_
              exact ⟨by rw [hr.out], below_tr hwx.out g3.h⟩
            · have hd2 : decide (sy.hi + 2 * wrong < sx.lo) = false := by simpa using hc
              have hn := Lib.hid (hno.out (by rw [htb.out]; simp; omega))
              clear hyes hno htb
              go_wp2
              have hgg : ∀ (h : Grow g2.x) (b o : Nat), b < x.heap.size → h.x.cell? ⟨b, o, none⟩ = x.cell? ⟨b, o, none⟩ := fun h b o hb => (grow_cell g2.x h b o (Nat.lt_of_lt_of_le hb g2.size)).trans (grow_cell x g2 b o hb)
              refine wp_region_grow (by kernel_rfl) (by kernel_rfl) ?_
              repeat (go_big_quiet_step (fail))
              refine wpQuiet_nil ?_
              rintro _ ⟨gx, rfl⟩
              clear hgg
              obtain ⟨g3, hg3⟩ := g2.next gx.h
              rw [hg3]
              clear hg3 gx
              go_wp2
              exact ⟨⟨g3, rfl, z + 1, by omega, by go_num, hn⟩, by simp [intOf]; omega⟩
        · obtain rfl : z = b.first.length := by omega
          have hn : Hid (∀ u, u < t + 1 → ∀ v, v < b.first.length → b.tellB g h wrong u v = false) := Lib.hid fun u hu v hv => by
            rcases Nat.lt_succ_iff_lt_or_eq.1 hu with h' | rfl
            · exact hH.out u h' v hv
            · exact hG.out v hv
          clear hG
          go_wp2
          exact ⟨⟨g2, rfl, t + 1, by omega, by go_num, hn⟩, by simp [intOf]; omega⟩
    · obtain rfl : t = b.flows.length := by omega
      have hr := Lib.hid (rtR_none hH.out)
      go_wp2
      refine bodyPost_ret (v := .tuple #[_, _]) (by simp [results, Try.results32, go_sem]; exact ⟨rfl, rfl⟩) rfl ?_
      exact ⟨by rw [hr.out], below_tr hwx.out gg.h⟩
end Go.Proofs.Ytddmfkhmhdddeaa
