/- Walks: all sizes with which a leak in a zone since a day agrees (the reference). -/
import Derived.Test.YtddmfkhmhdddeaaRsz
import Derived.Test.YtddmfkhmhdddeaaRFo
set_option linter.unusedVariables false
set_option linter.unusedSimpArgs false
namespace Lk
theorem rsIn_no {b : Bk} {z : Nat} {since : Int} {i : Nat} {o : Sp} {r : Nat} (h : b.rsIn z since i o r = none) : ∀ m, r ≤ m → b.rsIn z since i o m = none := by
  intro m hm
  induction m with
  | zero => obtain rfl : r = 0 := by omega
            exact h
  | succ m ih =>
    by_cases he : r = m + 1
    · rw [← he]; exact h
    · rw [Bk.rsIn, ih (by omega)]; rfl
theorem rsOut_no {b : Bk} {z : Nat} {since : Int} {k : Nat} (h : b.rsOut z since k = none) : ∀ m, k ≤ m → b.rsOut z since m = none := by
  intro m hm
  induction m with
  | zero => obtain rfl : k = 0 := by omega
            exact h
  | succ m ih =>
    by_cases he : k = m + 1
    · rw [← he]; exact h
    · rw [Bk.rsOut, ih (by omega)]; rfl
theorem rsR_none {b : Bk} {z : Nat} {since : Int} {k : Nat} (ho : b.othOk z = true) (hk : k ≤ b.flows.length + 1) (h : b.rsOut z since k = none) : b.rsR z since = (⟨0, 0⟩, false) := by
  unfold Bk.rsR; rw [if_neg (by rw [ho]; simp), rsOut_no h _ hk]
theorem rsR_some {b : Bk} {z : Nat} {since : Int} {o : Sp} (ho : b.othOk z = true) (h : b.rsOut z since (b.flows.length + 1) = some o) : b.rsR z since = (o, decide (o.lo ≤ o.hi)) := by
  unfold Bk.rsR; rw [if_neg (by rw [ho]; simp), h]
theorem rsR_oth {b : Bk} {z : Nat} {since : Int} (ho : b.othOk z = false) : b.rsR z since = (⟨0, 0⟩, false) := by
  unfold Bk.rsR; rw [if_pos ho]
theorem rsOut_row {b : Bk} {z : Nat} {since : Int} {i : Nat} {o : Sp} (h : b.rsOut z since i = some o) : b.rsOut z since (i + 1) = b.rsRow z since i o := by rw [Bk.rsOut, h]; rfl
theorem rsIn_step {b : Bk} {z : Nat} {since : Int} {i r : Nat} {o o' : Sp} (h : b.rsIn z since i o r = some o') : b.rsIn z since i o (r + 1) = b.rsStep z since i o' r := by rw [Bk.rsIn, h]; rfl
/-- A time at which something is known is not wide. -/
theorem atK_cases {b : Bk} (ok : Ok b) {z d : Nat} : b.atK z (d + 1) = wideSp ∨ ((b.atK z (d + 1)).lo ≠ -2000000000 ∧ (b.atK z (d + 1)).hi ≠ 2000000000 ∧ b.atK z (d + 1) ≠ wideSp) := by
  cases hl : b.readsAt z d with
  | nil => left; rw [Bk.atK, hl]; rfl
  | cons x l =>
    right
    have hx := mem_readsAt ok (show x ∈ b.readsAt z d by rw [hl]; exact List.mem_cons_self)
    have h1 := (meets_lo (y := (b.atK z (d + 1)).lo) (x :: l) wideSp).1 (by rw [← hl]; exact Int.le_refl _)
    have h2 := (meets_hi (y := (b.atK z (d + 1)).hi) (x :: l) wideSp).1 (by rw [← hl]; exact Int.le_refl _)
    have a := h1.2 x List.mem_cons_self
    have c := h2.2 x List.mem_cons_self
    refine ⟨by omega, by omega, fun h => ?_⟩
    rw [h] at a; simp only [wideSp] at a; omega
theorem atK_bd {b : Bk} (ok : Ok b) {z : Nat} (hz : z < b.first.length) : ∀ k, -2000000000 ≤ (b.atK z k).lo ∧ (b.atK z k).lo ≤ 2000000000 ∧ -2000000000 ≤ (b.atK z k).hi ∧ (b.atK z k).hi ≤ 2000000000
  | 0 => by have := ok.first z hz; simp only [Bk.atK]; omega
  | d + 1 => by
    have := meets_bd (m := 2000000000) (b.readsAt z d) wideSp (by simp [wideSp]) (fun x hx => by have := mem_readsAt ok hx; omega) (by simp [wideSp])
    simp only [Bk.atK]; omega
theorem rsDays_bd {since : Int} {i : Nat} : ∀ r, 0 ≤ rsDays since i r ∧ rsDays since i r ≤ r
  | 0 => by simp [rsDays]
  | r + 1 => by have := rsDays_bd (since := since) (i := i) r; rw [rsDays]; push_cast; split <;> omega
theorem div_bd {n D : Int} (hD : 1 ≤ D) (hn : -1000000000000 ≤ n ∧ n ≤ 1000000000000) : -1000000000000 ≤ n / D ∧ n / D ≤ 1000000000000 := by
  have h1 : -1000000000000 ≤ n / D ↔ -1000000000000 * D ≤ n := Int.le_ediv_iff_mul_le (by omega)
  have h2 : 1000000000001 ≤ n / D ↔ 1000000000001 * D ≤ n := Int.le_ediv_iff_mul_le (by omega)
  omega
end Lk
namespace Go.Proofs.Ytddmfkhmhdddeaa
open Go.RowKit Go.Sd Lk
attribute [local go_sem] Oper.semAt_some

structure RqSt (w : World) (fv wv rv : Value) (m : Nat) (o : Sp) (W : World) : Prop where
  bk : W.heap[w.heap.size]? = some (bkA fv wv rv)
  re : W.heap[w.heap.size + 1]? = some (spO ⟨0, 0⟩)
  out : W.heap[m]? = some (spO o)
  wi : W.heap[m + 1]? = some (spO ⟨-2000000000, 2000000000⟩)
  bel : Below w.heap.size w W
theorem RqSt.mono {w : World} {fv wv rv : Value} {m : Nat} {o : Sp} {W V : World} (h : RqSt w fv wv rv m o W) (hb : Below W.heap.size W V) : RqSt w fv wv rv m o V :=
  ⟨kept_block hb h.bk, kept_block hb h.re, kept_block hb h.out, kept_block hb h.wi, below_tr h.bel hb⟩
theorem RqSt.far {w : World} {fv wv rv : Value} {m : Nat} {o : Sp} {W : World} (h : RqSt w fv wv rv m o W) {p : Nat} (hm : w.heap.size + 2 ≤ m) (hp : m + 2 ≤ p) (x y : Value) : RqSt w fv wv rv m o ((W.setCell ⟨p, 0, none⟩ x).setCell ⟨p, 1, none⟩ y) :=
  ⟨(set2_other _ _ (by omega)).trans h.bk, (set2_other _ _ (by omega)).trans h.re, (set2_other _ _ (by omega)).trans h.out, (set2_other _ _ (by omega)).trans h.wi, h.bel.trans (below_set2 _ _ (by omega))⟩
theorem RqSt.set {w : World} {fv wv rv : Value} {m : Nat} {o t : Sp} {W : World} (h : RqSt w fv wv rv m o W) (hm : w.heap.size + 2 ≤ m) : RqSt w fv wv rv m t ((W.setCell ⟨m, 0, none⟩ (.int .i64 t.lo)).setCell ⟨m, 1, none⟩ (.int .i64 t.hi)) :=
  ⟨(set2_other _ _ (by omega)).trans h.bk, (set2_other _ _ (by omega)).trans h.re, set2 h.out _ _, (set2_other _ _ (by omega)).trans h.wi, h.bel.trans (below_set2 _ _ (by omega))⟩

set_option maxRecDepth 100000 in
set_option maxHeartbeats 8000000 in
theorem refSizes (fv wv rv : Value) (b : Bk) (z : Nat) (since : Int) (w : World) (hb : BookAt w fv wv rv b) (ok : Ok b) (hz : z < b.first.length) (hs : 0 ≤ since ∧ since ≤ 1000) :
    Calls Try.prog 48 #[bkV fv wv rv, .int .i64 z, .int .i64 since] w fun e w' => e = .returned (.tuple #[spV (b.rsR z since).1, .bool (b.rsR z since).2]) ∧ Below w.heap.size w w' := by
  have hb0 := Lib.hid hb
  have hnd := ok.nd
  have hnz := ok.nz
  have hzi : (z : Int) < (b.first.length : Int) := by omega
  obtain ⟨W, hW⟩ : ∃ W, (w.alloc (bkA fv wv rv)).alloc (spO ⟨0, 0⟩) = W := ⟨_, rfl⟩
  obtain ⟨e0, e1, s0, b0⟩ := two_new hW
  obtain ⟨fb, fo, fc, rfl, hfb, hfm, y0w, y1w⟩ := sp_cells hb.first hz
  obtain ⟨wa, wc, rfl, hwm, -⟩ := hb.flows.form
  obtain ⟨ra, rc, rfl, hrm, -⟩ := hb.reads.form
  have hE0 := Lib.hid e0
  have hE1 := Lib.hid e1
  have hBW := Lib.hid b0
  have hsW : Hid (W.heap.size = w.heap.size + 2) := Lib.hid s0
  clear hb e0 e1 b0 s0
  go_enter Try.func48, Try.ntmps48
  go_wp2
  clear hW
  go_loopw [8] (fun i wr => ∃ gg : Grow W, wr = gg.x ∧ ∃ k : Nat, k ≤ b.first.length ∧ i = .int .i64 k ∧ Hid (∀ j, j < k → j ≠ z → b.zoneB noGs j = true)) (fun i _ => b.first.length - (intOf i).toNat)
  case atStart => exact ⟨Grow.self W, rfl, 0, by omega, rfl, fun j h => absurd h (Nat.not_lt_zero _)⟩
  case round =>
    obtain ⟨gg, rfl, k, hk, rfl, hH⟩ := hrel
    obtain ⟨U, hU⟩ : ∃ U, gg.x = U := ⟨_, rfl⟩
    have hBU : Below W.heap.size W U := by rw [← hU]; exact gg.h
    rw [hU]
    clear hU gg
    have hwU := below_tr hBW.out hBU
    have eU0 := Lib.hid (kept_block hBU hE0.out)
    have eU1 := Lib.hid (kept_block hBU hE1.out)
    obtain ⟨q0, q1, q2⟩ := rc3 eU0.out
    have zU := (Array.getElem?_eq_some_iff.1 eU0.out).1
    by_cases hlt : k < b.first.length
    · have hki : (k : Int) < (b.first.length : Int) := by omega
      have hbU := hb0.out.mono hwU
      have hUB := Lib.hid hBU
      have hnext : Hid (b.zoneB noGs k = true ∨ k = z → ∀ j, j < k + 1 → j ≠ z → b.zoneB noGs j = true) := Lib.hid fun h j hj hjz => by
        rcases Nat.lt_succ_iff_lt_or_eq.1 hj with h' | rfl
        · exact hH.out j h' hjz
        · rcases h with h | h
          · exact h
          · exact absurd h hjz
      have hbadz : Hid (b.zoneB noGs k = false → k ≠ z → b.othOk z = false) := Lib.hid fun h hkz => by
        cases ho : b.othOk z
        · rfl
        · rw [othOk_iff.1 ho k hlt hkz] at h; cases h
      have kF0 : Hid (∀ x, Below U.heap.size U x → Calls Try.prog 55 #[bkV (.slice (some ⟨fb, fo, none⟩) b.first.length fc) (.slice wa b.flows.length wc) (.slice ra b.reads.length rc), gsV noGs, .int .i64 k] x fun e w' => (∃ y, e = .returned (.tuple #[y, .bool (b.zoneB noGs k)])) ∧ Below x.heap.size x w') :=
        Lib.hid fun x hx => (refForward _ _ _ b noGs k x (hbU.mono hx) ok (by simp [Bk.gsB]) hlt).mono (by
          rintro e w' ⟨hB, ⟨h, a, c, rfl, -⟩ | ⟨h, rfl⟩⟩
          · exact ⟨⟨_, by rw [h]⟩, hB⟩
          · exact ⟨⟨_, by rw [h]⟩, hB⟩)
      clear hH hbU
      generalize b.zoneB noGs k = t at *
      go_wp2
      refine plain_region (by kernel_rfl) (any_region_locN 7 170 [6] [29, 30, 31, 32, 28, 33, 34] [[], [], [], [0, 1, 2], [3], [4], [4]] [IsV (bkV (.slice (some ⟨fb, fo, none⟩) b.first.length fc) (.slice wa b.flows.length wc) (.slice ra b.reads.length rc)), IsV (gsV noGs), IsV (.int .i64 k), SeenIs t, SeenIs t, fun _ _ => True, IsV (.bool t)] [] (by kernel_rfl) (by kernel_rfl) (by kernel_rfl) (by kernel_rfl) (by kernel_rfl) rfl OnlyN.panic ?_ ?_ ?_ ?_ ?_)
      · exact List.forall_mem_cons.2 ⟨pers_v _, List.forall_mem_cons.2 ⟨pers_v _, List.forall_mem_cons.2 ⟨pers_v _, List.forall_mem_cons.2 ⟨pers_any _, List.forall_mem_cons.2 ⟨pers_any _, List.forall_mem_cons.2 ⟨pers_any fun _ => True, List.forall_mem_cons.2 ⟨pers_v _, fun f h => nomatch h⟩⟩⟩⟩⟩⟩⟩
      · intro k hk; cases hk
      · refine ⟨?_, ?_, ?_, ?_, ?_, ?_, ?_, trivial⟩
        · intro vals x hb hf
          simp only [fillS, List.getD_cons_succ, List.getD_cons_zero, Act.put, List.setIfInBounds_toArray, List.set_cons_zero, List.set_cons_succ]
          clear hf
          have u0 := kept_cell hb q0
          have u1 := kept_cell hb q1
          have u2 := kept_cell hb q2
          have zx := Nat.lt_of_lt_of_le zU hb.size
          go_wp2
          exact ⟨rfl, rfl, Below.refl _ _, _, rfl, rfl, (fun h => absurd h (by decide))⟩
        · intro vals x hb hf
          simp only [fillS, List.getD_cons_succ, List.getD_cons_zero, Act.put, List.setIfInBounds_toArray, List.set_cons_zero, List.set_cons_succ]
          clear hf
          have u0 := kept_cell hb q0
          have u1 := kept_cell hb q1
          have u2 := kept_cell hb q2
          have zx := Nat.lt_of_lt_of_le zU hb.size
          go_wp2_with (go_at_call 40; (with_reducible refine Calls.mono (refNone x) ?_); rintro e y ⟨rfl, hB⟩)
          exact ⟨rfl, rfl, hB, _, rfl, rfl, (fun h => absurd h (by decide))⟩
        · intro vals x hb hf
          simp only [fillS, List.getD_cons_succ, List.getD_cons_zero, Act.put, List.setIfInBounds_toArray, List.set_cons_zero, List.set_cons_succ]
          clear hf
          have u0 := kept_cell hb q0
          have u1 := kept_cell hb q1
          have u2 := kept_cell hb q2
          have zx := Nat.lt_of_lt_of_le zU hb.size
          go_wp2
          exact ⟨rfl, rfl, Below.refl _ _, _, rfl, rfl, (fun h => absurd h (by decide))⟩
        · intro vals x hb hf
          simp only [fillS, List.getD_cons_succ, List.getD_cons_zero, Act.put, List.setIfInBounds_toArray, List.set_cons_zero, List.set_cons_succ]
          have h0 : vals 0 = bkV (.slice (some ⟨fb, fo, none⟩) b.first.length fc) (.slice wa b.flows.length wc) (.slice ra b.reads.length rc) := hf.1
          rw [h0]
          clear h0
          have f1 : (IsV (gsV noGs)) (vals 1) x := hf.2.1
          have h2 : vals 2 = .int .i64 k := hf.2.2.1
          rw [h2]
          clear h2
          clear hf
          have u0 := kept_cell hb q0
          have u1 := kept_cell hb q1
          have u2 := kept_cell hb q2
          have zx := Nat.lt_of_lt_of_le zU hb.size
          rw [show vals 1 = gsV noGs from f1]
          go_wp2_with (go_at_call 55; (with_reducible refine Calls.mono (kF0.out x hb) ?_); rintro e y ⟨⟨v, rfl⟩, hB⟩)
          exact ⟨rfl, rfl, hB, _, rfl, ⟨v, rfl⟩, (fun h => absurd h (by decide))⟩
        · intro vals x hb hf
          simp only [fillS, List.getD_cons_succ, List.getD_cons_zero, Act.put, List.setIfInBounds_toArray, List.set_cons_zero, List.set_cons_succ]
          have f3 : (SeenIs t) (vals 3) x := hf.1
          clear hf
          have u0 := kept_cell hb q0
          have u1 := kept_cell hb q1
          have u2 := kept_cell hb q2
          have zx := Nat.lt_of_lt_of_le zU hb.size
          obtain ⟨v, hv⟩ := f3
          rw [hv]
          go_wp2
          exact ⟨rfl, rfl, Below.refl _ _, _, rfl, ⟨v, rfl⟩, (fun h => absurd h (by decide))⟩
        · intro vals x hb hf
          simp only [fillS, List.getD_cons_succ, List.getD_cons_zero, Act.put, List.setIfInBounds_toArray, List.set_cons_zero, List.set_cons_succ]
          have f4 : (SeenIs t) (vals 4) x := hf.1
          clear hf
          have u0 := kept_cell hb q0
          have u1 := kept_cell hb q1
          have u2 := kept_cell hb q2
          have zx := Nat.lt_of_lt_of_le zU hb.size
          obtain ⟨v, hv⟩ := f4
          rw [hv]
          go_wp2
          exact ⟨rfl, rfl, Below.refl _ _, _, rfl, trivial, (fun h => absurd h (by decide))⟩
        · intro vals x hb hf
          simp only [fillS, List.getD_cons_succ, List.getD_cons_zero, Act.put, List.setIfInBounds_toArray, List.set_cons_zero, List.set_cons_succ]
          have f4 : (SeenIs t) (vals 4) x := hf.1
          clear hf
          obtain ⟨v, hv⟩ := f4
          rw [hv]
          go_wp2
          exact ⟨rfl, rfl, Below.refl _ _, _, rfl, rfl, (fun h => absurd h (by decide))⟩
      · intro j hj o ho vals x hb hf
        obtain rfl : j = 6 := by simpa using hj
        obtain rfl := Option.some.inj ho
        simp only [fillS, List.getD_cons_succ, List.getD_cons_zero, Act.put, List.setIfInBounds_toArray, List.set_cons_zero, List.set_cons_succ]
        have f4 : (SeenIs t) (vals 4) x := hf.1
        obtain ⟨v, hv⟩ := f4
        rw [hv]
        exact ⟨_, .inl ⟨rfl, fun w => rfl⟩, rfl, (fun h => absurd h (by decide))⟩
      intro vals x hb hf hp
      have hrange : List.range 7 = [0, 1, 2, 3, 4, 5, 6] := by rfl
      rw [hrange]
      simp only [fillS, List.getD_cons_succ, List.getD_cons_zero, Act.put, List.setIfInBounds_toArray, List.set_cons_zero, List.set_cons_succ]
      have h0 : vals 0 = bkV (.slice (some ⟨fb, fo, none⟩) b.first.length fc) (.slice wa b.flows.length wc) (.slice ra b.reads.length rc) := hf 0 (by omega)
      have f1 : (IsV (gsV noGs)) (vals 1) x := hf 1 (by omega)
      have h2 : vals 2 = .int .i64 k := hf 2 (by omega)
      have f3 : (SeenIs t) (vals 3) x := hf 3 (by omega)
      have f4 : (SeenIs t) (vals 4) x := hf 4 (by omega)
      have f5 : (fun _ _ => True) (vals 5) x := hf 5 (by omega)
      have h6 : vals 6 = .bool t := hf 6 (by omega)
      rw [h0, h2, h6]
      clear h0 h2 h6 hf hp hrange
      simp only [List.drop_succ_cons, List.drop_zero]
      clear f1 f3 f4 f5 q0 q1 q2 kF0
      have hWx := Lib.hid (below_tr hUB.out hb)
      have hwx := Lib.hid (below_tr hBW.out hWx.out)
      have eX0 := Lib.hid (kept_block hb eU0.out)
      have eX1 := Lib.hid (kept_block hb eU1.out)
      clear hb zU hBU hwU
      cases t
      · by_cases hkz : k = z
        · have hn := Lib.hid (hnext.out (.inr hkz))
          subst hkz
          clear hnext hbadz
          go_wp2
          refine OnlyN.mk ?_
          go_wp2
          exact ⟨⟨⟨x, hWx.out⟩, rfl, k + 1, by omega, by go_num, hn⟩, by simp [intOf]; omega⟩
        · have hkzi : ¬ (k : Int) = (z : Int) := by omega
          have hr := Lib.hid (rsR_oth (since := since) (hbadz.out rfl hkz))
          obtain ⟨c0, c1⟩ := rc2 eX1.out
          obtain ⟨o0, o1⟩ := rf2 eX1.out
          have zr := (Array.getElem?_eq_some_iff.1 eX1.out).1
          clear hnext hbadz
          go_wp2
          refine OnlyN.mk ?_
          go_wp2
          obtain ⟨c4, c5⟩ := rc2 (set2 eX1.out (.int .i64 0) (.int .i64 0))
          refine bodyPost_ret (v := .tuple #[spV ⟨0, 0⟩, .bool false]) (by simp [results, Try.results48, go_sem, c4, c5]) rfl ⟨by rw [hr.out], hwx.out.trans (below_set2 _ _ (by omega))⟩
      · have hn := Lib.hid (hnext.out (.inl rfl))
        clear hnext hbadz
        go_wp2
        refine OnlyN.mk ?_
        go_wp2
        exact ⟨⟨⟨x, hWx.out⟩, rfl, k + 1, by omega, by go_num, hn⟩, by simp [intOf]; omega⟩
    · obtain rfl : k = b.first.length := by omega
      have hoth : Hid (b.othOk z = true) := Lib.hid (othOk_iff.2 fun i hi hiz => hH.out i hi hiz)
      clear hH
      obtain ⟨m, hm⟩ : ∃ m, U.heap.size = m := ⟨_, rfl⟩
      have hmw : w.heap.size + 2 ≤ m := by have := hBU.size; have := hsW.out; omega
      obtain ⟨Y, hY⟩ : ∃ Y, (U.alloc (spO ⟨1, 10000000⟩)).alloc (spO ⟨-2000000000, 2000000000⟩) = Y := ⟨_, rfl⟩
      obtain ⟨e2, e3, s2, b2⟩ := two_new hY
      rw [hm] at e2 e3
      have hS0 : Hid (RqSt w (.slice (some ⟨fb, fo, none⟩) b.first.length fc) (.slice wa b.flows.length wc) (.slice ra b.reads.length rc) m ⟨1, 10000000⟩ Y) := Lib.hid ⟨kept_block b2 eU0.out, kept_block b2 eU1.out, e2, e3, below_tr hwU b2⟩
      have hYs : Hid (m + 2 ≤ Y.heap.size) := Lib.hid (by omega)
      clear e2 e3 s2 b2
      go_wp2
      clear hY hm q0 q1 q2 zU hBU hwU eU0 eU1 hE0 hE1 hBW hsW
      go_loopw [13] (fun f wr => ∃ i : Nat, i ≤ b.flows.length + 1 ∧ f = .int .i64 ((i : Int) - 1) ∧ Hid (∃ o, b.rsOut z since i = some o ∧ RqSt w (.slice (some ⟨fb, fo, none⟩) b.first.length fc) (.slice wa b.flows.length wc) (.slice ra b.reads.length rc) m o wr ∧ m + 2 ≤ wr.heap.size)) (fun f _ => b.flows.length + 1 - (intOf f + 1).toNat)
      case atStart => exact ⟨0, by omega, by go_num, _, rfl, hS0.out, hYs.out⟩
      case round =>
        obtain ⟨i, hi, rfl, hH⟩ := hrel
        obtain ⟨o, ho, hS, hsz⟩ := hH.out
        have ho' := Lib.hid ho
        have hS' := Lib.hid hS
        clear hH hS0 hYs ho
        obtain ⟨q0, q1, q2⟩ := rc3 hS.bk
        have zb := (Array.getElem?_eq_some_iff.1 hS.bk).1
        by_cases hlt : i ≤ b.flows.length
        · have hfi : (i : Int) - 1 < (b.flows.length : Int) := by omega
          have y0 := kept_cell hS.bel y0w
          have y1 := kept_cell hS.bel y1w
          have hfb2 : fb < wr.heap.size := Nat.lt_of_lt_of_le hfb hS.bel.size
          obtain ⟨p, hp⟩ : ∃ p, wr.heap.size = p := ⟨_, rfl⟩
          obtain ⟨V, hV⟩ : ∃ V, wr.alloc (spO (spAt b.first z)) = V := ⟨_, rfl⟩
          obtain ⟨ea, bV, sV⟩ := boxed hV
          rw [hp] at ea
          have hSV := Lib.hid (hS.mono bV)
          have hVp : Hid (V.heap.size = p + 1) := Lib.hid (by rw [sV, hp])
          have hmp : m + 2 ≤ p := by omega
          clear bV sV hS
          go_upto_region 13 with fail
          clear q0 q1 q2 zb y0 y1 hfb2 hV hp hsz
          obtain ⟨S, rfl⟩ : ∃ S : World, S = wr := ⟨_, rfl⟩
          clear hS'
          have hrow : Hid (b.rsOut z since (i + 1) = b.rsRow z since i o) := Lib.hid (rsOut_row ho'.out)
          have hrowd : Hid (b.rsRow z since i o = if (b.atK z i).hi < (b.atK z i).lo then none else b.rsIn z since i o (b.flows.length - i)) := rfl
          have hcase : Hid (i = 0 ∨ b.atK z i = wideSp ∨ ((b.atK z i).lo ≠ -2000000000 ∧ (b.atK z i).hi ≠ 2000000000 ∧ b.atK z i ≠ wideSp)) := Lib.hid (by
            cases i with
            | zero => exact .inl rfl
            | succ d => exact .inr (atK_cases ok))
          have habd := atK_bd ok hz i
          by_cases h0 : i = 0
          · have ea' : V.heap[p]? = some (spO (b.atK z i)) := by rw [h0]; exact ea
            have hneg : (i : Int) - 1 < 0 := by omega
            replace h0 := Lib.hid h0
            clear hcase
            clear ea
            go_upto_region 15 with fail
            have hge : decide (1 ≤ (i : Int)) = false := by have := h0.out; simp; omega
            rw [hge]
            obtain ⟨Z, rfl⟩ : ∃ Z : World, Z = V := ⟨_, rfl⟩
            generalize hA : b.atK z i = a at *
            replace hA := Lib.hid hA
            obtain ⟨a0, a1⟩ := rc2 ea'
            have za := (Array.getElem?_eq_some_iff.1 ea').1
            rcases Int.lt_or_le a.hi a.lo with hlo | hlo
            · have hr := Lib.hid (rsR_none (since := since) hoth.out (show i + 1 ≤ _ by omega) (by rw [hrow.out, hrowd.out, if_pos hlo]))
              clear hrow hrowd
              obtain ⟨c0, c1⟩ := rc2 hSV.out.re
              obtain ⟨o0, o1⟩ := rf2 hSV.out.re
              have zr := (Array.getElem?_eq_some_iff.1 hSV.out.re).1
              go_wp2
              obtain ⟨c4, c5⟩ := rc2 (set2 hSV.out.re (.int .i64 0) (.int .i64 0))
              refine bodyPost_ret (v := .tuple #[spV ⟨0, 0⟩, .bool false]) (by simp [results, Try.results48, go_sem, c4, c5]) rfl ⟨by rw [hr.out], hSV.out.bel.trans (below_set2 _ _ (by omega))⟩
            · have hri : Hid (b.rsRow z since i o = b.rsIn z since i o (b.flows.length - i)) := Lib.hid (by rw [hrowd.out, if_neg (by omega)])
              clear hrowd
              obtain ⟨q, hq⟩ : ∃ q, Z.heap.size = q := ⟨_, rfl⟩
              obtain ⟨N, hN⟩ : ∃ N, Z.alloc (spO ⟨0, 0⟩) = N := ⟨_, rfl⟩
              obtain ⟨ec, bN, sN⟩ := boxed hN
              rw [hq] at ec
              have hpq : p + 1 ≤ q := by omega
              have hSN := Lib.hid (hSV.out.mono bN)
              have eaN := Lib.hid (kept_block bN ea')
              have ecN := Lib.hid ec
              have hqN : Hid (q < N.heap.size) := Lib.hid (Array.getElem?_eq_some_iff.1 ec).1
              obtain ⟨c0, c1⟩ := rc2 ec
              obtain ⟨o0, o1⟩ := rf2 ec
              have zq := (Array.getElem?_eq_some_iff.1 ec).1
              clear bN sN ec
              go_wp2
              obtain ⟨N2, hN2⟩ : ∃ N2, (N.setCell ⟨q, 0, none⟩ (.int .i64 0)).setCell ⟨q, 1, none⟩ (.int .i64 0) = N2 := ⟨_, rfl⟩
              replace hSN := Lib.hid (hSN.out.far hmw (show m + 2 ≤ q by omega) (.int .i64 0) (.int .i64 0))
              replace eaN := Lib.hid ((set2_other (n := q) (i := 0) (j := 1) (.int .i64 0) (.int .i64 0) (show p ≠ q by omega)).trans eaN.out)
              replace ecN := Lib.hid (set2 ecN.out (.int .i64 0) (.int .i64 0))
              rw [hN2] at hSN eaN ecN ⊢
              replace hqN : Hid (q < N2.heap.size) := Lib.hid (Array.getElem?_eq_some_iff.1 ecN.out).1
              clear hN hN2 hq a0 a1 za ea' hSV c0 c1 o0 o1 zq
              go_loopw [16, 17] (fun dd tt wr => ∃ r : Nat, i + r ≤ b.flows.length ∧ dd = .int .i64 (rsDays since i r) ∧ tt = .int .i64 ((i + r : Nat) : Int) ∧ Hid (∃ o2, b.rsIn z since i o r = some o2 ∧ RqSt w (.slice (some ⟨fb, fo, none⟩) b.first.length fc) (.slice wa b.flows.length wc) (.slice ra b.reads.length rc) m o2 wr ∧ wr.heap[p]? = some (spO a) ∧ wr.heap[q]? = some (spO (b.camN z i r)) ∧ q < wr.heap.size)) (fun _ tt _ => b.flows.length - (intOf tt).toNat)
              case atStart => exact ⟨0, by omega, rfl, by go_num, o, rfl, hSN.out, eaN.out, ecN.out, hqN.out⟩
              case round =>
                obtain ⟨r, hrn, rfl, rfl, hG⟩ := hrel
                obtain ⟨o2, hin, hS2, ea2, ec2, hq2⟩ := hG.out
                replace hin := Lib.hid hin
                clear hG hSN eaN ecN hqN
                by_cases hrl : i + r < b.flows.length
                · have hrli : ((i + r : Nat) : Int) < (b.flows.length : Int) := by omega
                  have hbr := hb0.out.mono hS2.bel
                  obtain ⟨rb, ro, rk, ev, hrv, hrb, -, x1, hrw⟩ := sprow_cell hbr.flows hrl
                  obtain ⟨rfl, rfl⟩ : wa = some ⟨rb, ro, none⟩ ∧ wc = rk := by simpa using hrv
                  obtain ⟨tb, tof, tc, rfl, htb, -, x2, x3⟩ := sp_cells hrw (k := z) (by rw [ok.rows _ hrl]; exact hz)
                  rw [ok.rows _ hrl] at x1
                  have hfl := ok.flows (i + r) z hrl hz
                  have hcb := camN_bd ok (s := i) hz r (by omega)
                  have hcb2 := camN_bd ok (s := i) hz (r + 1) (by omega)
                  have hcs : Hid (b.camN z i (r + 1) = ⟨(b.camN z i r).lo + (b.flowAt (i + r) z).lo, (b.camN z i r).hi + (b.flowAt (i + r) z).hi⟩) := rfl
                  rw [show spAt (rwAt b.flows (i + r)) z = b.flowAt (i + r) z from rfl] at x2 x3 hfl
                  obtain ⟨V1, hV1⟩ : ∃ V1, wr.alloc (spO (b.flowAt (i + r) z)) = V1 := ⟨_, rfl⟩
                  obtain ⟨ef, bV1, sV1⟩ := boxed hV1
                  obtain ⟨q0, q1, q2⟩ := rc3 hS2.bk
                  have zb := (Array.getElem?_eq_some_iff.1 hS2.bk).1
                  obtain ⟨f0, f1⟩ := rc2 ef
                  have zf := (Array.getElem?_eq_some_iff.1 ef).1
                  have ec3 := kept_block bV1 ec2
                  obtain ⟨c0, c1⟩ := rc2 ec3
                  obtain ⟨o0, o1⟩ := rf2 ec3
                  have zc := (Array.getElem?_eq_some_iff.1 ec3).1
                  have hSW := Lib.hid (hS2.mono bV1)
                  have ea3 := Lib.hid (kept_block bV1 ea2)
                  have ec4 := Lib.hid ec3
                  clear bV1 sV1 hbr hrw hrv hS2 ea2 ec2 hq2 ef ec3
                  go_upto_region 23 with fail
                  obtain ⟨Y, hY⟩ : ∃ Y, (V1.setCell ⟨q, 0, none⟩ (.int .i64 ((b.camN z i r).lo + (b.flowAt (i + r) z).lo))).setCell ⟨q, 1, none⟩ (.int .i64 ((b.camN z i r).hi + (b.flowAt (i + r) z).hi)) = Y := ⟨_, rfl⟩
                  have hSY := Lib.hid (hSW.out.far hmw (show m + 2 ≤ q by omega) (.int .i64 ((b.camN z i r).lo + (b.flowAt (i + r) z).lo)) (.int .i64 ((b.camN z i r).hi + (b.flowAt (i + r) z).hi)))
                  have eaY := Lib.hid ((set2_other (n := q) (i := 0) (j := 1) (.int .i64 ((b.camN z i r).lo + (b.flowAt (i + r) z).lo)) (.int .i64 ((b.camN z i r).hi + (b.flowAt (i + r) z).hi)) (show p ≠ q by omega)).trans ea3.out)
                  have ecY := Lib.hid (set2 ec4.out (.int .i64 ((b.camN z i r).lo + (b.flowAt (i + r) z).lo)) (.int .i64 ((b.camN z i r).hi + (b.flowAt (i + r) z).hi)))
                  rw [hY] at hSY eaY ecY ⊢
                  replace ecY : Hid (Y.heap[q]? = some (spO (b.camN z i (r + 1)))) := ecY
                  have hqY : Hid (q < Y.heap.size) := Lib.hid (Array.getElem?_eq_some_iff.1 ecY.out).1
                  clear hY q0 q1 q2 zb f0 f1 zf c0 c1 o0 o1 zc hV1 x1 x2 x3 hrb htb hSW ea3 ec4 hcs hfl hcb
                  rcases Int.lt_or_le ((i + r : Nat) : Int) since with hsn | hsn
                  · have hD1 : rsDays since i (r + 1) = rsDays since i r := by rw [rsDays, if_neg (by omega), Int.add_zero]
                    go_upto_region 25 with fail
                    rw [← hD1]
                    have hDa := Lib.hid hD1
                    clear hD1 hDa
                    have hDb := rsDays_bd (since := since) (i := i) (r + 1)
                    have hzc := atK_cases ok (z := z) (d := i + r)
                    have hzb := atK_bd ok hz (i + r + 1)
                    have kR2 : Hid (Calls Try.prog 73 #[bkV (.slice (some ⟨fb, fo, none⟩) b.first.length fc) (.slice (some ⟨rb, ro, none⟩) b.flows.length wc) (.slice ra b.reads.length rc), .int .i64 z, .int .i64 ((i : Int) + (r : Int)), spV ⟨-2000000000, 2000000000⟩] Y fun e w' => e = .returned (spV (b.atK z (i + r + 1))) ∧ Below Y.heap.size Y w') := Lib.hid (by rw [← Int.natCast_add]; exact refRead _ _ _ b z ((i + r : Nat) : Int) ⟨-2000000000, 2000000000⟩ Y (hb0.out.mono hSY.out.bel))
                    have hst2 : Hid (b.rsIn z since i o (r + 1) = if b.atK z (i + r + 1) = wideSp ∨ (1 ≤ i ∧ a = wideSp) then some o2 else if rsDays since i (r + 1) = 0 then (if 0 < a.lo + (b.camN z i (r + 1)).lo - (b.atK z (i + r + 1)).hi ∨ a.hi + (b.camN z i (r + 1)).hi - (b.atK z (i + r + 1)).lo < 0 then none else some o2) else some (meet o2 ⟨upI (a.lo + (b.camN z i (r + 1)).lo - (b.atK z (i + r + 1)).hi) (rsDays since i (r + 1)), dnI (a.hi + (b.camN z i (r + 1)).hi - (b.atK z (i + r + 1)).lo) (rsDays since i (r + 1))⟩)) := Lib.hid (by
                      rw [rsIn_step hin.out, ← hA.out]; rfl)
                    have hno : Hid (b.rsIn z since i o (r + 1) = none → b.rsR z since = (⟨0, 0⟩, false)) := Lib.hid fun h => rsR_none hoth.out (show i + 1 ≤ _ by omega) (by rw [hrow.out, hri.out]; exact rsIn_no h _ (by omega))
                    have hDe : Hid (rsDays since i (r + 1) = rsDays since i (r + 1)) := rfl
                    generalize b.atK z (i + r + 1) = zt at *
                    generalize hDe2 : rsDays since i (r + 1) = D at *
                    replace hDe := Lib.hid hDe2
                    generalize hc2 : b.camN z i (r + 1) = c2 at *
                    replace hc2 := Lib.hid hc2
                    obtain ⟨q0, q1, q2⟩ := rc3 hSY.out.bk
                    obtain ⟨w0, w1⟩ := rc2 hSY.out.wi
                    have zb := (Array.getElem?_eq_some_iff.1 hSY.out.bk).1
                    have zw := (Array.getElem?_eq_some_iff.1 hSY.out.wi).1
                    clear hDe2 hrow hri
                    go_upto_region 26 with (go_at_call 73; (with_reducible refine Calls.mono kR2.out ?_); rintro e y ⟨rfl, hB2⟩)
                    obtain ⟨U, hU⟩ : ∃ U, y.alloc (spO zt) = U := ⟨_, rfl⟩
                    obtain ⟨ez, bU, sU⟩ := boxed hU
                    rw [hU]
                    have hYU := below_tr hB2 bU
                    have hSU := Lib.hid (hSY.out.mono hYU)
                    have eaU := Lib.hid (kept_block hYU eaY.out)
                    have ecU := Lib.hid (kept_block hYU ecY.out)
                    have hqU : Hid (q < U.heap.size) := Lib.hid (Nat.lt_of_lt_of_le hqY.out hYU.size)
                    clear hU sU bU hB2 hYU hSY eaY ecY hqY q0 q1 q2 w0 w1 zb zw kR2
                    obtain ⟨u0, u1⟩ := rc2 ez
                    obtain ⟨v0, v1⟩ := rc2 hSU.out.wi
                    obtain ⟨x0, x1⟩ := rc2 eaU.out
                    have zz := (Array.getElem?_eq_some_iff.1 ez).1
                    have za := (Array.getElem?_eq_some_iff.1 eaU.out).1
                    have zw := (Array.getElem?_eq_some_iff.1 hSU.out.wi).1
                    rcases hzc with hzw | ⟨hz1, hz2, hz3⟩
                    · have hnx : Hid (b.rsIn z since i o (r + 1) = some o2) := Lib.hid (by rw [hst2.out, if_pos (.inl hzw)])
                      have hSM := hSU
                      have eaM := eaU
                      have ecM := ecU
                      have hqM := hqU
                      clear hst2 hno
                      obtain ⟨zl, zh⟩ := zt
                      simp only [wideSp, Sp.mk.injEq] at hzw
                      obtain ⟨rfl, rfl⟩ := hzw
                      go_wp2
                      first | exact ⟨⟨r + 1, by omega, by first | rfl | rw [hDe.out], by go_num, _, hnx.out, hSM.out, eaM.out, by rw [hc2.out]; exact ecM.out, hqM.out⟩, by simp [intOf]; omega⟩ | (refine ⟨?_, by simp [intOf]; omega⟩; (repeat apply Exists.intro); refine and_comm.1 ⟨rfl, ?_⟩; exact ⟨r + 1, by omega, by first | rfl | rw [hDe.out], by go_num, _, hnx.out, hSM.out, eaM.out, by rw [hc2.out]; exact ecM.out, hqM.out⟩)
                    · have hzd : decide (zt.lo = -2000000000) = false := by simpa using hz1
                      obtain ⟨M, hM⟩ : ∃ M, U.alloc (spO ⟨a.lo + c2.lo - zt.hi, a.hi + c2.hi - zt.lo⟩) = M := ⟨_, rfl⟩
                      obtain ⟨em, bM, sM⟩ := boxed hM
                      obtain ⟨m0, m1⟩ := rc2 em
                      have zm := (Array.getElem?_eq_some_iff.1 em).1
                      have hSM := Lib.hid (hSU.out.mono bM)
                      have eaM := Lib.hid (kept_block bM eaU.out)
                      have ecM := Lib.hid (kept_block bM ecU.out)
                      have hqM : Hid (q < M.heap.size) := Lib.hid (Nat.lt_of_lt_of_le hqU.out bM.size)
                      obtain ⟨x2, x3⟩ := rc2 ecU.out
                      have zc := (Array.getElem?_eq_some_iff.1 ecU.out).1
                      clear bM sM
                      go_upto_region 28 with fail
                      clear hM u0 u1 v0 v1 x0 x1 x2 x3 zc zz za zw
                      have hmlb : -1000000000000 ≤ a.lo + c2.lo - zt.hi ∧ a.lo + c2.lo - zt.hi ≤ 1000000000000 := by omega
                      have hmhb : -1000000000000 ≤ a.hi + c2.hi - zt.lo ∧ a.hi + c2.hi - zt.lo ≤ 1000000000000 := by omega
                      have hst3 : Hid (b.rsIn z since i o (r + 1) = if D = 0 then (if 0 < a.lo + c2.lo - zt.hi ∨ a.hi + c2.hi - zt.lo < 0 then none else some o2) else some (meet o2 ⟨upI (a.lo + c2.lo - zt.hi) D, dnI (a.hi + c2.hi - zt.lo) D⟩)) := Lib.hid (by rw [hst2.out, if_neg (by rintro (h | ⟨h, -⟩); exact hz3 h; have := h0.out; omega)])
                      clear hst2
                      generalize a.lo + c2.lo - zt.hi = ml at *
                      generalize a.hi + c2.hi - zt.lo = mh at *
                      by_cases hD0 : D = 0
                      · rw [if_pos hD0] at hst3
                        subst hD0
                        rcases Int.lt_or_le 0 ml with h1 | h1
                        · have hnn := Lib.hid (hno.out (by rw [hst3.out, if_pos (.inl h1)]))
                          have hr := hnn.out
                          replace hr := Lib.hid hr
                          clear hno hst3
                          obtain ⟨c0, c1⟩ := rc2 hSM.out.re
                          obtain ⟨o0, o1⟩ := rf2 hSM.out.re
                          have zr := (Array.getElem?_eq_some_iff.1 hSM.out.re).1
                          go_wp2
                          obtain ⟨c4, c5⟩ := rc2 (set2 hSM.out.re (.int .i64 0) (.int .i64 0))
                          refine bodyPost_ret (v := .tuple #[spV ⟨0, 0⟩, .bool false]) (by simp [results, Try.results48, go_sem, c4, c5]) rfl ⟨by rw [hr.out], hSM.out.bel.trans (below_set2 _ _ (by omega))⟩
                        · rcases Int.lt_or_le mh 0 with h2 | h2
                          · have hnn := Lib.hid (hno.out (by rw [hst3.out, if_pos (.inr h2)]))
                            have hr := hnn.out
                            replace hr := Lib.hid hr
                            clear hno hst3
                            obtain ⟨c0, c1⟩ := rc2 hSM.out.re
                            obtain ⟨o0, o1⟩ := rf2 hSM.out.re
                            have zr := (Array.getElem?_eq_some_iff.1 hSM.out.re).1
                            go_wp2
                            obtain ⟨c4, c5⟩ := rc2 (set2 hSM.out.re (.int .i64 0) (.int .i64 0))
                            refine bodyPost_ret (v := .tuple #[spV ⟨0, 0⟩, .bool false]) (by simp [results, Try.results48, go_sem, c4, c5]) rfl ⟨by rw [hr.out], hSM.out.bel.trans (below_set2 _ _ (by omega))⟩
                          · have hnx : Hid (b.rsIn z since i o (r + 1) = some o2) := Lib.hid (by rw [hst3.out, if_neg (by omega)])
                            clear hno hst3
                            go_wp2
                            first | exact ⟨⟨r + 1, by omega, by first | rfl | rw [hDe.out], by go_num, _, hnx.out, hSM.out, eaM.out, by rw [hc2.out]; exact ecM.out, hqM.out⟩, by simp [intOf]; omega⟩ | (refine ⟨?_, by simp [intOf]; omega⟩; (repeat apply Exists.intro); refine and_comm.1 ⟨rfl, ?_⟩; exact ⟨r + 1, by omega, by first | rfl | rw [hDe.out], by go_num, _, hnx.out, hSM.out, eaM.out, by rw [hc2.out]; exact ecM.out, hqM.out⟩)
                      · rw [if_neg hD0] at hst3
                        have hDp : 0 < D := by omega
                        have kU := Lib.hid (fun x => refUp ml D x hmlb (by omega) (by rw [dnI_eq hDp]; have := div_bd (n := -ml) (D := D) (by omega) (by omega); omega))
                        have kDn := Lib.hid (fun x => refDown mh D x hmhb (by omega))
                        obtain ⟨up, hup⟩ : ∃ up, upI ml D = up := ⟨_, rfl⟩
                        obtain ⟨dn, hdn⟩ : ∃ dn, dnI mh D = dn := ⟨_, rfl⟩
                        rw [hup] at kU hst3
                        rw [hdn] at kDn hst3
                        have kM := Lib.hid (fun x => refMeet o2 ⟨up, dn⟩ x)
                        generalize hs1 : meet o2 ⟨up, dn⟩ = s1 at *
                        have hnx : Hid (b.rsIn z since i o (r + 1) = some s1) := hst3
                        obtain ⟨g0, g1⟩ := rc2 hSM.out.out
                        have zo := (Array.getElem?_eq_some_iff.1 hSM.out.out).1
                        have hD0d : decide (D = 0) = false := by simpa using hD0
                        clear hno hst3 hup hdn hs1 hmlb hmhb
                        go_wp2
                        refine plain_region (by kernel_rfl) (any_region_locN 11 170 [] [153, 154, 155, 156, 157, 158, 159, 160, 161, 162, 163] [[], [], [1], [], [2, 3], [], [5], [], [6, 7], [4, 8], [0, 9]] [IsV (spV o2), IsV (.pointer (some ⟨U.heap.size, 0, none⟩)), IsV (.int .i64 ml), IsV (.int .i64 D), IsV (.int .i64 up), IsV (.pointer (some ⟨U.heap.size, 1, none⟩)), IsV (.int .i64 mh), IsV (.int .i64 D), IsV (.int .i64 dn), IsV (spV ⟨up, dn⟩), IsV (spV s1)] [] (by kernel_rfl) (by kernel_rfl) (by kernel_rfl) (by kernel_rfl) (by kernel_rfl) rfl OnlyN.panic ?_ ?_ ?_ (fun j hj => nomatch hj) ?_)
                        · exact List.forall_mem_cons.2 ⟨pers_v _, List.forall_mem_cons.2 ⟨pers_v _, List.forall_mem_cons.2 ⟨pers_v _, List.forall_mem_cons.2 ⟨pers_v _, List.forall_mem_cons.2 ⟨pers_v _, List.forall_mem_cons.2 ⟨pers_v _, List.forall_mem_cons.2 ⟨pers_v _, List.forall_mem_cons.2 ⟨pers_v _, List.forall_mem_cons.2 ⟨pers_v _, List.forall_mem_cons.2 ⟨pers_v _, List.forall_mem_cons.2 ⟨pers_v _, fun f h => nomatch h⟩⟩⟩⟩⟩⟩⟩⟩⟩⟩⟩
                        · intro k hk; cases hk
                        · refine ⟨?_, ?_, ?_, ?_, ?_, ?_, ?_, ?_, ?_, ?_, ?_, trivial⟩
                          · intro vals x hb hf
                            simp only [fillS, List.getD_cons_succ, List.getD_cons_zero, Act.put, List.setIfInBounds_toArray, List.set_cons_zero, List.set_cons_succ]
                            clear hf
                            have t0 := kept_cell hb g0
                            have t1 := kept_cell hb g1
                            have t2 := kept_cell hb m0
                            have t3 := kept_cell hb m1
                            have zx := Nat.lt_of_lt_of_le zo hb.size
                            have zx2 := Nat.lt_of_lt_of_le zm hb.size
                            go_wp2
                            exact ⟨rfl, rfl, Below.refl _ _, _, rfl, rfl, (fun h => absurd h (by decide))⟩
                          · intro vals x hb hf
                            simp only [fillS, List.getD_cons_succ, List.getD_cons_zero, Act.put, List.setIfInBounds_toArray, List.set_cons_zero, List.set_cons_succ]
                            clear hf
                            have t0 := kept_cell hb g0
                            have t1 := kept_cell hb g1
                            have t2 := kept_cell hb m0
                            have t3 := kept_cell hb m1
                            have zx := Nat.lt_of_lt_of_le zo hb.size
                            have zx2 := Nat.lt_of_lt_of_le zm hb.size
                            go_wp2
                            exact ⟨rfl, rfl, Below.refl _ _, _, rfl, rfl, (fun h => absurd h (by decide))⟩
                          · intro vals x hb hf
                            simp only [fillS, List.getD_cons_succ, List.getD_cons_zero, Act.put, List.setIfInBounds_toArray, List.set_cons_zero, List.set_cons_succ]
                            have h1 : vals 1 = .pointer (some ⟨U.heap.size, 0, none⟩) := hf.1
                            rw [h1]
                            clear h1
                            clear hf
                            have t0 := kept_cell hb g0
                            have t1 := kept_cell hb g1
                            have t2 := kept_cell hb m0
                            have t3 := kept_cell hb m1
                            have zx := Nat.lt_of_lt_of_le zo hb.size
                            have zx2 := Nat.lt_of_lt_of_le zm hb.size
                            go_wp2
                            exact ⟨rfl, rfl, Below.refl _ _, _, rfl, rfl, (fun h => absurd h (by decide))⟩
                          · intro vals x hb hf
                            simp only [fillS, List.getD_cons_succ, List.getD_cons_zero, Act.put, List.setIfInBounds_toArray, List.set_cons_zero, List.set_cons_succ]
                            clear hf
                            have t0 := kept_cell hb g0
                            have t1 := kept_cell hb g1
                            have t2 := kept_cell hb m0
                            have t3 := kept_cell hb m1
                            have zx := Nat.lt_of_lt_of_le zo hb.size
                            have zx2 := Nat.lt_of_lt_of_le zm hb.size
                            go_wp2
                            exact ⟨rfl, rfl, Below.refl _ _, _, rfl, rfl, (fun h => absurd h (by decide))⟩
                          · intro vals x hb hf
                            simp only [fillS, List.getD_cons_succ, List.getD_cons_zero, Act.put, List.setIfInBounds_toArray, List.set_cons_zero, List.set_cons_succ]
                            have h2 : vals 2 = .int .i64 ml := hf.1
                            rw [h2]
                            clear h2
                            have h3 : vals 3 = .int .i64 D := hf.2.1
                            rw [h3]
                            clear h3
                            clear hf
                            have t0 := kept_cell hb g0
                            have t1 := kept_cell hb g1
                            have t2 := kept_cell hb m0
                            have t3 := kept_cell hb m1
                            have zx := Nat.lt_of_lt_of_le zo hb.size
                            have zx2 := Nat.lt_of_lt_of_le zm hb.size
                            go_wp2_with (go_at_call 74; (with_reducible refine Calls.mono (kU.out x) ?_); rintro e y ⟨rfl, rfl⟩)
                            exact ⟨rfl, rfl, Below.refl _ _, _, rfl, rfl, (fun h => absurd h (by decide))⟩
                          · intro vals x hb hf
                            simp only [fillS, List.getD_cons_succ, List.getD_cons_zero, Act.put, List.setIfInBounds_toArray, List.set_cons_zero, List.set_cons_succ]
                            clear hf
                            have t0 := kept_cell hb g0
                            have t1 := kept_cell hb g1
                            have t2 := kept_cell hb m0
                            have t3 := kept_cell hb m1
                            have zx := Nat.lt_of_lt_of_le zo hb.size
                            have zx2 := Nat.lt_of_lt_of_le zm hb.size
                            go_wp2
                            exact ⟨rfl, rfl, Below.refl _ _, _, rfl, rfl, (fun h => absurd h (by decide))⟩
                          · intro vals x hb hf
                            simp only [fillS, List.getD_cons_succ, List.getD_cons_zero, Act.put, List.setIfInBounds_toArray, List.set_cons_zero, List.set_cons_succ]
                            have h5 : vals 5 = .pointer (some ⟨U.heap.size, 1, none⟩) := hf.1
                            rw [h5]
                            clear h5
                            clear hf
                            have t0 := kept_cell hb g0
                            have t1 := kept_cell hb g1
                            have t2 := kept_cell hb m0
                            have t3 := kept_cell hb m1
                            have zx := Nat.lt_of_lt_of_le zo hb.size
                            have zx2 := Nat.lt_of_lt_of_le zm hb.size
                            go_wp2
                            exact ⟨rfl, rfl, Below.refl _ _, _, rfl, rfl, (fun h => absurd h (by decide))⟩
                          · intro vals x hb hf
                            simp only [fillS, List.getD_cons_succ, List.getD_cons_zero, Act.put, List.setIfInBounds_toArray, List.set_cons_zero, List.set_cons_succ]
                            clear hf
                            have t0 := kept_cell hb g0
                            have t1 := kept_cell hb g1
                            have t2 := kept_cell hb m0
                            have t3 := kept_cell hb m1
                            have zx := Nat.lt_of_lt_of_le zo hb.size
                            have zx2 := Nat.lt_of_lt_of_le zm hb.size
                            go_wp2
                            exact ⟨rfl, rfl, Below.refl _ _, _, rfl, rfl, (fun h => absurd h (by decide))⟩
                          · intro vals x hb hf
                            simp only [fillS, List.getD_cons_succ, List.getD_cons_zero, Act.put, List.setIfInBounds_toArray, List.set_cons_zero, List.set_cons_succ]
                            have h6 : vals 6 = .int .i64 mh := hf.1
                            rw [h6]
                            clear h6
                            have h7 : vals 7 = .int .i64 D := hf.2.1
                            rw [h7]
                            clear h7
                            clear hf
                            have t0 := kept_cell hb g0
                            have t1 := kept_cell hb g1
                            have t2 := kept_cell hb m0
                            have t3 := kept_cell hb m1
                            have zx := Nat.lt_of_lt_of_le zo hb.size
                            have zx2 := Nat.lt_of_lt_of_le zm hb.size
                            go_wp2_with (go_at_call 75; (with_reducible refine Calls.mono (kDn.out x) ?_); rintro e y ⟨rfl, rfl⟩)
                            exact ⟨rfl, rfl, Below.refl _ _, _, rfl, rfl, (fun h => absurd h (by decide))⟩
                          · intro vals x hb hf
                            simp only [fillS, List.getD_cons_succ, List.getD_cons_zero, Act.put, List.setIfInBounds_toArray, List.set_cons_zero, List.set_cons_succ]
                            have f4 : (IsV (.int .i64 up)) (vals 4) x := hf.1
                            have f8 : (IsV (.int .i64 dn)) (vals 8) x := hf.2.1
                            clear hf
                            have t0 := kept_cell hb g0
                            have t1 := kept_cell hb g1
                            have t2 := kept_cell hb m0
                            have t3 := kept_cell hb m1
                            have zx := Nat.lt_of_lt_of_le zo hb.size
                            have zx2 := Nat.lt_of_lt_of_le zm hb.size
                            rw [show vals 4 = .int .i64 up from f4, show vals 8 = .int .i64 dn from f8]
                            go_wp2
                            exact ⟨rfl, rfl, Below.refl _ _, _, rfl, rfl, (fun h => absurd h (by decide))⟩
                          · intro vals x hb hf
                            simp only [fillS, List.getD_cons_succ, List.getD_cons_zero, Act.put, List.setIfInBounds_toArray, List.set_cons_zero, List.set_cons_succ]
                            have h0 : vals 0 = spV o2 := hf.1
                            rw [h0]
                            clear h0
                            have f9 : (IsV (spV ⟨up, dn⟩)) (vals 9) x := hf.2.1
                            clear hf
                            have t0 := kept_cell hb g0
                            have t1 := kept_cell hb g1
                            have t2 := kept_cell hb m0
                            have t3 := kept_cell hb m1
                            have zx := Nat.lt_of_lt_of_le zo hb.size
                            have zx2 := Nat.lt_of_lt_of_le zm hb.size
                            rw [show vals 9 = spV ⟨up, dn⟩ from f9]
                            go_wp2_with (go_at_call 65; (with_reducible refine Calls.mono (kM.out x) ?_); rintro e y ⟨rfl, hB⟩)
                            exact ⟨rfl, rfl, hB, _, rfl, rfl, (fun h => absurd h (by decide))⟩
                        intro vals x hb hf hp
                        have hrange : List.range 11 = [0, 1, 2, 3, 4, 5, 6, 7, 8, 9, 10] := by rfl
                        rw [hrange]
                        simp only [fillS, List.getD_cons_succ, List.getD_cons_zero, Act.put, List.setIfInBounds_toArray, List.set_cons_zero, List.set_cons_succ]
                        have h0 : vals 0 = spV o2 := hf 0 (by omega)
                        have h1 : vals 1 = .pointer (some ⟨U.heap.size, 0, none⟩) := hf 1 (by omega)
                        have h2 : vals 2 = .int .i64 ml := hf 2 (by omega)
                        have h3 : vals 3 = .int .i64 D := hf 3 (by omega)
                        have f4 : (IsV (.int .i64 up)) (vals 4) x := hf 4 (by omega)
                        have h5 : vals 5 = .pointer (some ⟨U.heap.size, 1, none⟩) := hf 5 (by omega)
                        have h6 : vals 6 = .int .i64 mh := hf 6 (by omega)
                        have h7 : vals 7 = .int .i64 D := hf 7 (by omega)
                        have f8 : (IsV (.int .i64 dn)) (vals 8) x := hf 8 (by omega)
                        have f9 : (IsV (spV ⟨up, dn⟩)) (vals 9) x := hf 9 (by omega)
                        have f10 : (IsV (spV s1)) (vals 10) x := hf 10 (by omega)
                        rw [h0, h1, h2, h3, h5, h6, h7]
                        clear h0 h1 h2 h3 h5 h6 h7 hf hp hrange
                        simp only [List.drop_succ_cons, List.drop_zero]
                        rw [show vals 10 = spV s1 from f10]
                        clear f4 f8 f9 f10 g0 g1 m0 m1 zo zm kU kDn kM
                        have hSx := Lib.hid (hSM.out.mono hb)
                        have eax := Lib.hid ((set2_other (n := m) (i := 0) (j := 1) (.int .i64 s1.lo) (.int .i64 s1.hi) (show p ≠ m by omega)).trans (kept_block hb eaM.out))
                        have ecx := Lib.hid ((set2_other (n := m) (i := 0) (j := 1) (.int .i64 s1.lo) (.int .i64 s1.hi) (show q ≠ m by omega)).trans (kept_block hb ecM.out))
                        have hqx : Hid (q < x.heap.size) := Lib.hid (Nat.lt_of_lt_of_le hqM.out hb.size)
                        obtain ⟨g0, g1⟩ := rc2 hSx.out.out
                        obtain ⟨o0, o1⟩ := rf2 hSx.out.out
                        have zo := (Array.getElem?_eq_some_iff.1 hSx.out.out).1
                        go_wp2
                        refine OnlyN.mk ?_
                        go_wp2
                        first | exact ⟨⟨r + 1, by omega, by first | rfl | rw [hDe.out], by go_num, _, hnx.out, hSx.out.set hmw, eax.out, by rw [hc2.out]; exact ecx.out, by simp only [World.setCell, Array.size_modify]; exact hqx.out⟩, by simp [intOf]; omega⟩ | (refine ⟨?_, by simp [intOf]; omega⟩; (repeat apply Exists.intro); refine and_comm.1 ⟨rfl, ?_⟩; exact ⟨r + 1, by omega, by first | rfl | rw [hDe.out], by go_num, _, hnx.out, hSx.out.set hmw, eax.out, by rw [hc2.out]; exact ecx.out, by simp only [World.setCell, Array.size_modify]; exact hqx.out⟩)
                  · have hD1 : rsDays since i (r + 1) = rsDays since i r + 1 := by rw [rsDays, if_pos hsn]
                    have hdb := rsDays_bd (since := since) (i := i) r
                    go_upto_region 25 with fail
                    rw [← hD1]
                    have hDa := Lib.hid hD1
                    clear hD1 hDa
                    have hDb := rsDays_bd (since := since) (i := i) (r + 1)
                    have hzc := atK_cases ok (z := z) (d := i + r)
                    have hzb := atK_bd ok hz (i + r + 1)
                    have kR2 : Hid (Calls Try.prog 73 #[bkV (.slice (some ⟨fb, fo, none⟩) b.first.length fc) (.slice (some ⟨rb, ro, none⟩) b.flows.length wc) (.slice ra b.reads.length rc), .int .i64 z, .int .i64 ((i : Int) + (r : Int)), spV ⟨-2000000000, 2000000000⟩] Y fun e w' => e = .returned (spV (b.atK z (i + r + 1))) ∧ Below Y.heap.size Y w') := Lib.hid (by rw [← Int.natCast_add]; exact refRead _ _ _ b z ((i + r : Nat) : Int) ⟨-2000000000, 2000000000⟩ Y (hb0.out.mono hSY.out.bel))
                    have hst2 : Hid (b.rsIn z since i o (r + 1) = if b.atK z (i + r + 1) = wideSp ∨ (1 ≤ i ∧ a = wideSp) then some o2 else if rsDays since i (r + 1) = 0 then (if 0 < a.lo + (b.camN z i (r + 1)).lo - (b.atK z (i + r + 1)).hi ∨ a.hi + (b.camN z i (r + 1)).hi - (b.atK z (i + r + 1)).lo < 0 then none else some o2) else some (meet o2 ⟨upI (a.lo + (b.camN z i (r + 1)).lo - (b.atK z (i + r + 1)).hi) (rsDays since i (r + 1)), dnI (a.hi + (b.camN z i (r + 1)).hi - (b.atK z (i + r + 1)).lo) (rsDays since i (r + 1))⟩)) := Lib.hid (by
                      rw [rsIn_step hin.out, ← hA.out]; rfl)
                    have hno : Hid (b.rsIn z since i o (r + 1) = none → b.rsR z since = (⟨0, 0⟩, false)) := Lib.hid fun h => rsR_none hoth.out (show i + 1 ≤ _ by omega) (by rw [hrow.out, hri.out]; exact rsIn_no h _ (by omega))
                    have hDe : Hid (rsDays since i (r + 1) = rsDays since i (r + 1)) := rfl
                    generalize b.atK z (i + r + 1) = zt at *
                    generalize hDe2 : rsDays since i (r + 1) = D at *
                    replace hDe := Lib.hid hDe2
                    generalize hc2 : b.camN z i (r + 1) = c2 at *
                    replace hc2 := Lib.hid hc2
                    obtain ⟨q0, q1, q2⟩ := rc3 hSY.out.bk
                    obtain ⟨w0, w1⟩ := rc2 hSY.out.wi
                    have zb := (Array.getElem?_eq_some_iff.1 hSY.out.bk).1
                    have zw := (Array.getElem?_eq_some_iff.1 hSY.out.wi).1
                    clear hDe2 hrow hri
                    go_upto_region 26 with (go_at_call 73; (with_reducible refine Calls.mono kR2.out ?_); rintro e y ⟨rfl, hB2⟩)
                    obtain ⟨U, hU⟩ : ∃ U, y.alloc (spO zt) = U := ⟨_, rfl⟩
                    obtain ⟨ez, bU, sU⟩ := boxed hU
                    rw [hU]
                    have hYU := below_tr hB2 bU
                    have hSU := Lib.hid (hSY.out.mono hYU)
                    have eaU := Lib.hid (kept_block hYU eaY.out)
                    have ecU := Lib.hid (kept_block hYU ecY.out)
                    have hqU : Hid (q < U.heap.size) := Lib.hid (Nat.lt_of_lt_of_le hqY.out hYU.size)
                    clear hU sU bU hB2 hYU hSY eaY ecY hqY q0 q1 q2 w0 w1 zb zw kR2
                    obtain ⟨u0, u1⟩ := rc2 ez
                    obtain ⟨v0, v1⟩ := rc2 hSU.out.wi
                    obtain ⟨x0, x1⟩ := rc2 eaU.out
                    have zz := (Array.getElem?_eq_some_iff.1 ez).1
                    have za := (Array.getElem?_eq_some_iff.1 eaU.out).1
                    have zw := (Array.getElem?_eq_some_iff.1 hSU.out.wi).1
                    rcases hzc with hzw | ⟨hz1, hz2, hz3⟩
                    · have hnx : Hid (b.rsIn z since i o (r + 1) = some o2) := Lib.hid (by rw [hst2.out, if_pos (.inl hzw)])
                      have hSM := hSU
                      have eaM := eaU
                      have ecM := ecU
                      have hqM := hqU
                      clear hst2 hno
                      obtain ⟨zl, zh⟩ := zt
                      simp only [wideSp, Sp.mk.injEq] at hzw
                      obtain ⟨rfl, rfl⟩ := hzw
                      go_wp2
                      first | exact ⟨⟨r + 1, by omega, by first | rfl | rw [hDe.out], by go_num, _, hnx.out, hSM.out, eaM.out, by rw [hc2.out]; exact ecM.out, hqM.out⟩, by simp [intOf]; omega⟩ | (refine ⟨?_, by simp [intOf]; omega⟩; (repeat apply Exists.intro); refine and_comm.1 ⟨rfl, ?_⟩; exact ⟨r + 1, by omega, by first | rfl | rw [hDe.out], by go_num, _, hnx.out, hSM.out, eaM.out, by rw [hc2.out]; exact ecM.out, hqM.out⟩)
                    · have hzd : decide (zt.lo = -2000000000) = false := by simpa using hz1
                      obtain ⟨M, hM⟩ : ∃ M, U.alloc (spO ⟨a.lo + c2.lo - zt.hi, a.hi + c2.hi - zt.lo⟩) = M := ⟨_, rfl⟩
                      obtain ⟨em, bM, sM⟩ := boxed hM
                      obtain ⟨m0, m1⟩ := rc2 em
                      have zm := (Array.getElem?_eq_some_iff.1 em).1
                      have hSM := Lib.hid (hSU.out.mono bM)
                      have eaM := Lib.hid (kept_block bM eaU.out)
                      have ecM := Lib.hid (kept_block bM ecU.out)
                      have hqM : Hid (q < M.heap.size) := Lib.hid (Nat.lt_of_lt_of_le hqU.out bM.size)
                      obtain ⟨x2, x3⟩ := rc2 ecU.out
                      have zc := (Array.getElem?_eq_some_iff.1 ecU.out).1
                      clear bM sM
                      go_upto_region 28 with fail
                      clear hM u0 u1 v0 v1 x0 x1 x2 x3 zc zz za zw
                      have hmlb : -1000000000000 ≤ a.lo + c2.lo - zt.hi ∧ a.lo + c2.lo - zt.hi ≤ 1000000000000 := by omega
                      have hmhb : -1000000000000 ≤ a.hi + c2.hi - zt.lo ∧ a.hi + c2.hi - zt.lo ≤ 1000000000000 := by omega
                      have hst3 : Hid (b.rsIn z since i o (r + 1) = if D = 0 then (if 0 < a.lo + c2.lo - zt.hi ∨ a.hi + c2.hi - zt.lo < 0 then none else some o2) else some (meet o2 ⟨upI (a.lo + c2.lo - zt.hi) D, dnI (a.hi + c2.hi - zt.lo) D⟩)) := Lib.hid (by rw [hst2.out, if_neg (by rintro (h | ⟨h, -⟩); exact hz3 h; have := h0.out; omega)])
                      clear hst2
                      generalize a.lo + c2.lo - zt.hi = ml at *
                      generalize a.hi + c2.hi - zt.lo = mh at *
                      by_cases hD0 : D = 0
                      · rw [if_pos hD0] at hst3
                        subst hD0
                        rcases Int.lt_or_le 0 ml with h1 | h1
                        · have hnn := Lib.hid (hno.out (by rw [hst3.out, if_pos (.inl h1)]))
                          have hr := hnn.out
                          replace hr := Lib.hid hr
                          clear hno hst3
                          obtain ⟨c0, c1⟩ := rc2 hSM.out.re
                          obtain ⟨o0, o1⟩ := rf2 hSM.out.re
                          have zr := (Array.getElem?_eq_some_iff.1 hSM.out.re).1
                          go_wp2
                          obtain ⟨c4, c5⟩ := rc2 (set2 hSM.out.re (.int .i64 0) (.int .i64 0))
                          refine bodyPost_ret (v := .tuple #[spV ⟨0, 0⟩, .bool false]) (by simp [results, Try.results48, go_sem, c4, c5]) rfl ⟨by rw [hr.out], hSM.out.bel.trans (below_set2 _ _ (by omega))⟩
                        · rcases Int.lt_or_le mh 0 with h2 | h2
                          · have hnn := Lib.hid (hno.out (by rw [hst3.out, if_pos (.inr h2)]))
                            have hr := hnn.out
                            replace hr := Lib.hid hr
                            clear hno hst3
                            obtain ⟨c0, c1⟩ := rc2 hSM.out.re
                            obtain ⟨o0, o1⟩ := rf2 hSM.out.re
                            have zr := (Array.getElem?_eq_some_iff.1 hSM.out.re).1
                            go_wp2
                            obtain ⟨c4, c5⟩ := rc2 (set2 hSM.out.re (.int .i64 0) (.int .i64 0))
                            refine bodyPost_ret (v := .tuple #[spV ⟨0, 0⟩, .bool false]) (by simp [results, Try.results48, go_sem, c4, c5]) rfl ⟨by rw [hr.out], hSM.out.bel.trans (below_set2 _ _ (by omega))⟩
                          · have hnx : Hid (b.rsIn z since i o (r + 1) = some o2) := Lib.hid (by rw [hst3.out, if_neg (by omega)])
                            clear hno hst3
                            go_wp2
                            first | exact ⟨⟨r + 1, by omega, by first | rfl | rw [hDe.out], by go_num, _, hnx.out, hSM.out, eaM.out, by rw [hc2.out]; exact ecM.out, hqM.out⟩, by simp [intOf]; omega⟩ | (refine ⟨?_, by simp [intOf]; omega⟩; (repeat apply Exists.intro); refine and_comm.1 ⟨rfl, ?_⟩; exact ⟨r + 1, by omega, by first | rfl | rw [hDe.out], by go_num, _, hnx.out, hSM.out, eaM.out, by rw [hc2.out]; exact ecM.out, hqM.out⟩)
                      · rw [if_neg hD0] at hst3
                        have hDp : 0 < D := by omega
                        have kU := Lib.hid (fun x => refUp ml D x hmlb (by omega) (by rw [dnI_eq hDp]; have := div_bd (n := -ml) (D := D) (by omega) (by omega); omega))
                        have kDn := Lib.hid (fun x => refDown mh D x hmhb (by omega))
                        obtain ⟨up, hup⟩ : ∃ up, upI ml D = up := ⟨_, rfl⟩
                        obtain ⟨dn, hdn⟩ : ∃ dn, dnI mh D = dn := ⟨_, rfl⟩
                        rw [hup] at kU hst3
                        rw [hdn] at kDn hst3
                        have kM := Lib.hid (fun x => refMeet o2 ⟨up, dn⟩ x)
                        generalize hs1 : meet o2 ⟨up, dn⟩ = s1 at *
                        have hnx : Hid (b.rsIn z since i o (r + 1) = some s1) := hst3
                        obtain ⟨g0, g1⟩ := rc2 hSM.out.out
                        have zo := (Array.getElem?_eq_some_iff.1 hSM.out.out).1
                        have hD0d : decide (D = 0) = false := by simpa using hD0
                        clear hno hst3 hup hdn hs1 hmlb hmhb
                        go_wp2
                        refine plain_region (by kernel_rfl) (any_region_locN 11 170 [] [153, 154, 155, 156, 157, 158, 159, 160, 161, 162, 163] [[], [], [1], [], [2, 3], [], [5], [], [6, 7], [4, 8], [0, 9]] [IsV (spV o2), IsV (.pointer (some ⟨U.heap.size, 0, none⟩)), IsV (.int .i64 ml), IsV (.int .i64 D), IsV (.int .i64 up), IsV (.pointer (some ⟨U.heap.size, 1, none⟩)), IsV (.int .i64 mh), IsV (.int .i64 D), IsV (.int .i64 dn), IsV (spV ⟨up, dn⟩), IsV (spV s1)] [] (by kernel_rfl) (by kernel_rfl) (by kernel_rfl) (by kernel_rfl) (by kernel_rfl) rfl OnlyN.panic ?_ ?_ ?_ (fun j hj => nomatch hj) ?_)
                        · exact List.forall_mem_cons.2 ⟨pers_v _, List.forall_mem_cons.2 ⟨pers_v _, List.forall_mem_cons.2 ⟨pers_v _, List.forall_mem_cons.2 ⟨pers_v _, List.forall_mem_cons.2 ⟨pers_v _, List.forall_mem_cons.2 ⟨pers_v _, List.forall_mem_cons.2 ⟨pers_v _, List.forall_mem_cons.2 ⟨pers_v _, List.forall_mem_cons.2 ⟨pers_v _, List.forall_mem_cons.2 ⟨pers_v _, List.forall_mem_cons.2 ⟨pers_v _, fun f h => nomatch h⟩⟩⟩⟩⟩⟩⟩⟩⟩⟩⟩
                        · intro k hk; cases hk
                        · refine ⟨?_, ?_, ?_, ?_, ?_, ?_, ?_, ?_, ?_, ?_, ?_, trivial⟩
                          · intro vals x hb hf
                            simp only [fillS, List.getD_cons_succ, List.getD_cons_zero, Act.put, List.setIfInBounds_toArray, List.set_cons_zero, List.set_cons_succ]
                            clear hf
                            have t0 := kept_cell hb g0
                            have t1 := kept_cell hb g1
                            have t2 := kept_cell hb m0
                            have t3 := kept_cell hb m1
                            have zx := Nat.lt_of_lt_of_le zo hb.size
                            have zx2 := Nat.lt_of_lt_of_le zm hb.size
                            go_wp2
                            exact ⟨rfl, rfl, Below.refl _ _, _, rfl, rfl, (fun h => absurd h (by decide))⟩
                          · intro vals x hb hf
                            simp only [fillS, List.getD_cons_succ, List.getD_cons_zero, Act.put, List.setIfInBounds_toArray, List.set_cons_zero, List.set_cons_succ]
                            clear hf
                            have t0 := kept_cell hb g0
                            have t1 := kept_cell hb g1
                            have t2 := kept_cell hb m0
                            have t3 := kept_cell hb m1
                            have zx := Nat.lt_of_lt_of_le zo hb.size
                            have zx2 := Nat.lt_of_lt_of_le zm hb.size
                            go_wp2
                            exact ⟨rfl, rfl, Below.refl _ _, _, rfl, rfl, (fun h => absurd h (by decide))⟩
                          · intro vals x hb hf
                            simp only [fillS, List.getD_cons_succ, List.getD_cons_zero, Act.put, List.setIfInBounds_toArray, List.set_cons_zero, List.set_cons_succ]
                            have h1 : vals 1 = .pointer (some ⟨U.heap.size, 0, none⟩) := hf.1
                            rw [h1]
                            clear h1
                            clear hf
                            have t0 := kept_cell hb g0
                            have t1 := kept_cell hb g1
                            have t2 := kept_cell hb m0
                            have t3 := kept_cell hb m1
                            have zx := Nat.lt_of_lt_of_le zo hb.size
                            have zx2 := Nat.lt_of_lt_of_le zm hb.size
                            go_wp2
                            exact ⟨rfl, rfl, Below.refl _ _, _, rfl, rfl, (fun h => absurd h (by decide))⟩
                          · intro vals x hb hf
                            simp only [fillS, List.getD_cons_succ, List.getD_cons_zero, Act.put, List.setIfInBounds_toArray, List.set_cons_zero, List.set_cons_succ]
                            clear hf
                            have t0 := kept_cell hb g0
                            have t1 := kept_cell hb g1
                            have t2 := kept_cell hb m0
                            have t3 := kept_cell hb m1
                            have zx := Nat.lt_of_lt_of_le zo hb.size
                            have zx2 := Nat.lt_of_lt_of_le zm hb.size
                            go_wp2
                            exact ⟨rfl, rfl, Below.refl _ _, _, rfl, rfl, (fun h => absurd h (by decide))⟩
                          · intro vals x hb hf
                            simp only [fillS, List.getD_cons_succ, List.getD_cons_zero, Act.put, List.setIfInBounds_toArray, List.set_cons_zero, List.set_cons_succ]
                            have h2 : vals 2 = .int .i64 ml := hf.1
                            rw [h2]
                            clear h2
                            have h3 : vals 3 = .int .i64 D := hf.2.1
                            rw [h3]
                            clear h3
                            clear hf
                            have t0 := kept_cell hb g0
                            have t1 := kept_cell hb g1
                            have t2 := kept_cell hb m0
                            have t3 := kept_cell hb m1
                            have zx := Nat.lt_of_lt_of_le zo hb.size
                            have zx2 := Nat.lt_of_lt_of_le zm hb.size
                            go_wp2_with (go_at_call 74; (with_reducible refine Calls.mono (kU.out x) ?_); rintro e y ⟨rfl, rfl⟩)
                            exact ⟨rfl, rfl, Below.refl _ _, _, rfl, rfl, (fun h => absurd h (by decide))⟩
                          · intro vals x hb hf
                            simp only [fillS, List.getD_cons_succ, List.getD_cons_zero, Act.put, List.setIfInBounds_toArray, List.set_cons_zero, List.set_cons_succ]
                            clear hf
                            have t0 := kept_cell hb g0
                            have t1 := kept_cell hb g1
                            have t2 := kept_cell hb m0
                            have t3 := kept_cell hb m1
                            have zx := Nat.lt_of_lt_of_le zo hb.size
                            have zx2 := Nat.lt_of_lt_of_le zm hb.size
                            go_wp2
                            exact ⟨rfl, rfl, Below.refl _ _, _, rfl, rfl, (fun h => absurd h (by decide))⟩
                          · intro vals x hb hf
                            simp only [fillS, List.getD_cons_succ, List.getD_cons_zero, Act.put, List.setIfInBounds_toArray, List.set_cons_zero, List.set_cons_succ]
                            have h5 : vals 5 = .pointer (some ⟨U.heap.size, 1, none⟩) := hf.1
                            rw [h5]
                            clear h5
                            clear hf
                            have t0 := kept_cell hb g0
                            have t1 := kept_cell hb g1
                            have t2 := kept_cell hb m0
                            have t3 := kept_cell hb m1
                            have zx := Nat.lt_of_lt_of_le zo hb.size
                            have zx2 := Nat.lt_of_lt_of_le zm hb.size
                            go_wp2
                            exact ⟨rfl, rfl, Below.refl _ _, _, rfl, rfl, (fun h => absurd h (by decide))⟩
                          · intro vals x hb hf
                            simp only [fillS, List.getD_cons_succ, List.getD_cons_zero, Act.put, List.setIfInBounds_toArray, List.set_cons_zero, List.set_cons_succ]
                            clear hf
                            have t0 := kept_cell hb g0
                            have t1 := kept_cell hb g1
                            have t2 := kept_cell hb m0
                            have t3 := kept_cell hb m1
                            have zx := Nat.lt_of_lt_of_le zo hb.size
                            have zx2 := Nat.lt_of_lt_of_le zm hb.size
                            go_wp2
                            exact ⟨rfl, rfl, Below.refl _ _, _, rfl, rfl, (fun h => absurd h (by decide))⟩
                          · intro vals x hb hf
                            simp only [fillS, List.getD_cons_succ, List.getD_cons_zero, Act.put, List.setIfInBounds_toArray, List.set_cons_zero, List.set_cons_succ]
                            have h6 : vals 6 = .int .i64 mh := hf.1
                            rw [h6]
                            clear h6
                            have h7 : vals 7 = .int .i64 D := hf.2.1
                            rw [h7]
                            clear h7
                            clear hf
                            have t0 := kept_cell hb g0
                            have t1 := kept_cell hb g1
                            have t2 := kept_cell hb m0
                            have t3 := kept_cell hb m1
                            have zx := Nat.lt_of_lt_of_le zo hb.size
                            have zx2 := Nat.lt_of_lt_of_le zm hb.size
                            go_wp2_with (go_at_call 75; (with_reducible refine Calls.mono (kDn.out x) ?_); rintro e y ⟨rfl, rfl⟩)
                            exact ⟨rfl, rfl, Below.refl _ _, _, rfl, rfl, (fun h => absurd h (by decide))⟩
                          · intro vals x hb hf
                            simp only [fillS, List.getD_cons_succ, List.getD_cons_zero, Act.put, List.setIfInBounds_toArray, List.set_cons_zero, List.set_cons_succ]
                            have f4 : (IsV (.int .i64 up)) (vals 4) x := hf.1
                            have f8 : (IsV (.int .i64 dn)) (vals 8) x := hf.2.1
                            clear hf
                            have t0 := kept_cell hb g0
                            have t1 := kept_cell hb g1
                            have t2 := kept_cell hb m0
                            have t3 := kept_cell hb m1
                            have zx := Nat.lt_of_lt_of_le zo hb.size
                            have zx2 := Nat.lt_of_lt_of_le zm hb.size
                            rw [show vals 4 = .int .i64 up from f4, show vals 8 = .int .i64 dn from f8]
                            go_wp2
                            exact ⟨rfl, rfl, Below.refl _ _, _, rfl, rfl, (fun h => absurd h (by decide))⟩
                          · intro vals x hb hf
                            simp only [fillS, List.getD_cons_succ, List.getD_cons_zero, Act.put, List.setIfInBounds_toArray, List.set_cons_zero, List.set_cons_succ]
                            have h0 : vals 0 = spV o2 := hf.1
                            rw [h0]
                            clear h0
                            have f9 : (IsV (spV ⟨up, dn⟩)) (vals 9) x := hf.2.1
                            clear hf
                            have t0 := kept_cell hb g0
                            have t1 := kept_cell hb g1
                            have t2 := kept_cell hb m0
                            have t3 := kept_cell hb m1
                            have zx := Nat.lt_of_lt_of_le zo hb.size
                            have zx2 := Nat.lt_of_lt_of_le zm hb.size
                            rw [show vals 9 = spV ⟨up, dn⟩ from f9]
                            go_wp2_with (go_at_call 65; (with_reducible refine Calls.mono (kM.out x) ?_); rintro e y ⟨rfl, hB⟩)
                            exact ⟨rfl, rfl, hB, _, rfl, rfl, (fun h => absurd h (by decide))⟩
                        intro vals x hb hf hp
                        have hrange : List.range 11 = [0, 1, 2, 3, 4, 5, 6, 7, 8, 9, 10] := by rfl
                        rw [hrange]
                        simp only [fillS, List.getD_cons_succ, List.getD_cons_zero, Act.put, List.setIfInBounds_toArray, List.set_cons_zero, List.set_cons_succ]
                        have h0 : vals 0 = spV o2 := hf 0 (by omega)
                        have h1 : vals 1 = .pointer (some ⟨U.heap.size, 0, none⟩) := hf 1 (by omega)
                        have h2 : vals 2 = .int .i64 ml := hf 2 (by omega)
                        have h3 : vals 3 = .int .i64 D := hf 3 (by omega)
                        have f4 : (IsV (.int .i64 up)) (vals 4) x := hf 4 (by omega)
                        have h5 : vals 5 = .pointer (some ⟨U.heap.size, 1, none⟩) := hf 5 (by omega)
                        have h6 : vals 6 = .int .i64 mh := hf 6 (by omega)
                        have h7 : vals 7 = .int .i64 D := hf 7 (by omega)
                        have f8 : (IsV (.int .i64 dn)) (vals 8) x := hf 8 (by omega)
                        have f9 : (IsV (spV ⟨up, dn⟩)) (vals 9) x := hf 9 (by omega)
                        have f10 : (IsV (spV s1)) (vals 10) x := hf 10 (by omega)
                        rw [h0, h1, h2, h3, h5, h6, h7]
                        clear h0 h1 h2 h3 h5 h6 h7 hf hp hrange
                        simp only [List.drop_succ_cons, List.drop_zero]
                        rw [show vals 10 = spV s1 from f10]
                        clear f4 f8 f9 f10 g0 g1 m0 m1 zo zm kU kDn kM
                        have hSx := Lib.hid (hSM.out.mono hb)
                        have eax := Lib.hid ((set2_other (n := m) (i := 0) (j := 1) (.int .i64 s1.lo) (.int .i64 s1.hi) (show p ≠ m by omega)).trans (kept_block hb eaM.out))
                        have ecx := Lib.hid ((set2_other (n := m) (i := 0) (j := 1) (.int .i64 s1.lo) (.int .i64 s1.hi) (show q ≠ m by omega)).trans (kept_block hb ecM.out))
                        have hqx : Hid (q < x.heap.size) := Lib.hid (Nat.lt_of_lt_of_le hqM.out hb.size)
                        obtain ⟨g0, g1⟩ := rc2 hSx.out.out
                        obtain ⟨o0, o1⟩ := rf2 hSx.out.out
                        have zo := (Array.getElem?_eq_some_iff.1 hSx.out.out).1
                        go_wp2
                        refine OnlyN.mk ?_
                        go_wp2
                        first | exact ⟨⟨r + 1, by omega, by first | rfl | rw [hDe.out], by go_num, _, hnx.out, hSx.out.set hmw, eax.out, by rw [hc2.out]; exact ecx.out, by simp only [World.setCell, Array.size_modify]; exact hqx.out⟩, by simp [intOf]; omega⟩ | (refine ⟨?_, by simp [intOf]; omega⟩; (repeat apply Exists.intro); refine and_comm.1 ⟨rfl, ?_⟩; exact ⟨r + 1, by omega, by first | rfl | rw [hDe.out], by go_num, _, hnx.out, hSx.out.set hmw, eax.out, by rw [hc2.out]; exact ecx.out, by simp only [World.setCell, Array.size_modify]; exact hqx.out⟩)
                · have hrn2 : i + r = b.flows.length := by omega
                  have hno2 : ¬ ((i + r : Nat) : Int) < (b.flows.length : Int) := by omega
                  have hon : Hid (b.rsOut z since (i + 1) = some o2) := Lib.hid (by rw [hrow.out, hri.out, show b.flows.length - i = r by omega]; exact hin.out)
                  obtain ⟨q0, q1, q2⟩ := rc3 hS2.bk
                  have zb := (Array.getElem?_eq_some_iff.1 hS2.bk).1
                  have hS3 := Lib.hid hS2
                  have hsz3 : Hid (m + 2 ≤ wr.heap.size) := Lib.hid (by omega)
                  clear hrow hri hS2 ea2 ec2
                  go_wp2
                  exact ⟨⟨i + 1, by omega, by go_num, o2, hon.out, hS3.out, hsz3.out⟩, by simp [intOf]; omega⟩
          · have hpos : 0 ≤ (i : Int) - 1 := by omega
            replace hcase : Hid (b.atK z i = wideSp ∨ ((b.atK z i).lo ≠ -2000000000 ∧ (b.atK z i).hi ≠ 2000000000 ∧ b.atK z i ≠ wideSp)) := Lib.hid (by rcases hcase.out with h | h; exact absurd h h0; exact h)
            obtain ⟨q0, q1, q2⟩ := rc3 hSV.out.bk
            obtain ⟨w0, w1⟩ := rc2 hSV.out.wi
            obtain ⟨o0, o1⟩ := rf2 ea
            obtain ⟨a0, a1⟩ := rc2 ea
            have zb := (Array.getElem?_eq_some_iff.1 hSV.out.bk).1
            have zw := (Array.getElem?_eq_some_iff.1 hSV.out.wi).1
            have za := (Array.getElem?_eq_some_iff.1 ea).1
            have kR : Hid (Calls Try.prog 73 #[bkV (.slice (some ⟨fb, fo, none⟩) b.first.length fc) (.slice wa b.flows.length wc) (.slice ra b.reads.length rc), .int .i64 z, .int .i64 ((i : Int) - 1), spV ⟨-2000000000, 2000000000⟩] V fun e w' => e = .returned (spV (b.atK z i)) ∧ Below V.heap.size V w') := Lib.hid (by
              have := refRead _ _ _ b z ((i : Int) - 1) ⟨-2000000000, 2000000000⟩ V (hb0.out.mono hSV.out.bel)
              obtain ⟨d, rfl⟩ : ∃ d, i = d + 1 := ⟨i - 1, by omega⟩
              rw [show ((d + 1 : Nat) : Int) - 1 = (d : Int) by omega] at this ⊢
              exact this)
            go_upto_region 15 with (go_at_call 73; (with_reducible refine Calls.mono kR.out ?_); rintro e y ⟨rfl, hB2⟩; obtain ⟨e0, e1⟩ := rf2 (kept_block hB2 ea); obtain ⟨e2, e3⟩ := rc2 (kept_block hB2 ea); have zy := (Array.getElem?_eq_some_iff.1 (kept_block hB2 ea)).1)
            obtain ⟨Z, hZ⟩ : ∃ Z, (y.setCell ⟨p, 0, none⟩ (.int .i64 (b.atK z i).lo)).setCell ⟨p, 1, none⟩ (.int .i64 (b.atK z i).hi) = Z := ⟨_, rfl⟩
            have ea' := set2 (kept_block hB2 ea) (.int .i64 (b.atK z i).lo) (.int .i64 (b.atK z i).hi)
            have hSZ := Lib.hid ((hSV.out.mono hB2).far hmw hmp (.int .i64 (b.atK z i).lo) (.int .i64 (b.atK z i).hi))
            rw [hZ] at ea' hSZ ⊢
            clear hZ e0 e1 e2 e3 zy hB2 kR q0 q1 q2 w0 w1 o0 o1 a0 a1 zb zw za ea hVp
            replace hSV := hSZ
            clear hSZ
            generalize hA : b.atK z i = a at *
            replace hA := Lib.hid hA
            obtain ⟨a0, a1⟩ := rc2 ea'
            have za := (Array.getElem?_eq_some_iff.1 ea').1
            rcases Int.lt_or_le a.hi a.lo with hlo | hlo
            · have hr := Lib.hid (rsR_none (since := since) hoth.out (show i + 1 ≤ _ by omega) (by rw [hrow.out, hrowd.out, if_pos hlo]))
              clear hrow hrowd
              obtain ⟨c0, c1⟩ := rc2 hSV.out.re
              obtain ⟨o0, o1⟩ := rf2 hSV.out.re
              have zr := (Array.getElem?_eq_some_iff.1 hSV.out.re).1
              go_wp2
              obtain ⟨c4, c5⟩ := rc2 (set2 hSV.out.re (.int .i64 0) (.int .i64 0))
              refine bodyPost_ret (v := .tuple #[spV ⟨0, 0⟩, .bool false]) (by simp [results, Try.results48, go_sem, c4, c5]) rfl ⟨by rw [hr.out], hSV.out.bel.trans (below_set2 _ _ (by omega))⟩
            · have hri : Hid (b.rsRow z since i o = b.rsIn z since i o (b.flows.length - i)) := Lib.hid (by rw [hrowd.out, if_neg (by omega)])
              clear hrowd
              obtain ⟨q, hq⟩ : ∃ q, Z.heap.size = q := ⟨_, rfl⟩
              obtain ⟨N, hN⟩ : ∃ N, Z.alloc (spO ⟨0, 0⟩) = N := ⟨_, rfl⟩
              obtain ⟨ec, bN, sN⟩ := boxed hN
              rw [hq] at ec
              have hpq : p + 1 ≤ q := by omega
              have hSN := Lib.hid (hSV.out.mono bN)
              have eaN := Lib.hid (kept_block bN ea')
              have ecN := Lib.hid ec
              have hqN : Hid (q < N.heap.size) := Lib.hid (Array.getElem?_eq_some_iff.1 ec).1
              obtain ⟨c0, c1⟩ := rc2 ec
              obtain ⟨o0, o1⟩ := rf2 ec
              have zq := (Array.getElem?_eq_some_iff.1 ec).1
              clear bN sN ec
              go_wp2
              obtain ⟨N2, hN2⟩ : ∃ N2, (N.setCell ⟨q, 0, none⟩ (.int .i64 0)).setCell ⟨q, 1, none⟩ (.int .i64 0) = N2 := ⟨_, rfl⟩
              replace hSN := Lib.hid (hSN.out.far hmw (show m + 2 ≤ q by omega) (.int .i64 0) (.int .i64 0))
              replace eaN := Lib.hid ((set2_other (n := q) (i := 0) (j := 1) (.int .i64 0) (.int .i64 0) (show p ≠ q by omega)).trans eaN.out)
              replace ecN := Lib.hid (set2 ecN.out (.int .i64 0) (.int .i64 0))
              rw [hN2] at hSN eaN ecN ⊢
              replace hqN : Hid (q < N2.heap.size) := Lib.hid (Array.getElem?_eq_some_iff.1 ecN.out).1
              clear hN hN2 hq a0 a1 za ea' hSV c0 c1 o0 o1 zq
              go_loopw [16, 17] (fun dd tt wr => ∃ r : Nat, i + r ≤ b.flows.length ∧ dd = .int .i64 (rsDays since i r) ∧ tt = .int .i64 ((i + r : Nat) : Int) ∧ Hid (∃ o2, b.rsIn z since i o r = some o2 ∧ RqSt w (.slice (some ⟨fb, fo, none⟩) b.first.length fc) (.slice wa b.flows.length wc) (.slice ra b.reads.length rc) m o2 wr ∧ wr.heap[p]? = some (spO a) ∧ wr.heap[q]? = some (spO (b.camN z i r)) ∧ q < wr.heap.size)) (fun _ tt _ => b.flows.length - (intOf tt).toNat)
              case atStart => exact ⟨0, by omega, rfl, by go_num, o, rfl, hSN.out, eaN.out, ecN.out, hqN.out⟩
              case round =>
                obtain ⟨r, hrn, rfl, rfl, hG⟩ := hrel
                obtain ⟨o2, hin, hS2, ea2, ec2, hq2⟩ := hG.out
                replace hin := Lib.hid hin
                clear hG hSN eaN ecN hqN
                by_cases hrl : i + r < b.flows.length
                · have hrli : ((i + r : Nat) : Int) < (b.flows.length : Int) := by omega
                  have hbr := hb0.out.mono hS2.bel
                  obtain ⟨rb, ro, rk, ev, hrv, hrb, -, x1, hrw⟩ := sprow_cell hbr.flows hrl
                  obtain ⟨rfl, rfl⟩ : wa = some ⟨rb, ro, none⟩ ∧ wc = rk := by simpa using hrv
                  obtain ⟨tb, tof, tc, rfl, htb, -, x2, x3⟩ := sp_cells hrw (k := z) (by rw [ok.rows _ hrl]; exact hz)
                  rw [ok.rows _ hrl] at x1
                  have hfl := ok.flows (i + r) z hrl hz
                  have hcb := camN_bd ok (s := i) hz r (by omega)
                  have hcb2 := camN_bd ok (s := i) hz (r + 1) (by omega)
                  have hcs : Hid (b.camN z i (r + 1) = ⟨(b.camN z i r).lo + (b.flowAt (i + r) z).lo, (b.camN z i r).hi + (b.flowAt (i + r) z).hi⟩) := rfl
                  rw [show spAt (rwAt b.flows (i + r)) z = b.flowAt (i + r) z from rfl] at x2 x3 hfl
                  obtain ⟨V1, hV1⟩ : ∃ V1, wr.alloc (spO (b.flowAt (i + r) z)) = V1 := ⟨_, rfl⟩
                  obtain ⟨ef, bV1, sV1⟩ := boxed hV1
                  obtain ⟨q0, q1, q2⟩ := rc3 hS2.bk
                  have zb := (Array.getElem?_eq_some_iff.1 hS2.bk).1
                  obtain ⟨f0, f1⟩ := rc2 ef
                  have zf := (Array.getElem?_eq_some_iff.1 ef).1
                  have ec3 := kept_block bV1 ec2
                  obtain ⟨c0, c1⟩ := rc2 ec3
                  obtain ⟨o0, o1⟩ := rf2 ec3
                  have zc := (Array.getElem?_eq_some_iff.1 ec3).1
                  have hSW := Lib.hid (hS2.mono bV1)
                  have ea3 := Lib.hid (kept_block bV1 ea2)
                  have ec4 := Lib.hid ec3
                  clear bV1 sV1 hbr hrw hrv hS2 ea2 ec2 hq2 ef ec3
                  go_upto_region 23 with fail
                  obtain ⟨Y, hY⟩ : ∃ Y, (V1.setCell ⟨q, 0, none⟩ (.int .i64 ((b.camN z i r).lo + (b.flowAt (i + r) z).lo))).setCell ⟨q, 1, none⟩ (.int .i64 ((b.camN z i r).hi + (b.flowAt (i + r) z).hi)) = Y := ⟨_, rfl⟩
                  have hSY := Lib.hid (hSW.out.far hmw (show m + 2 ≤ q by omega) (.int .i64 ((b.camN z i r).lo + (b.flowAt (i + r) z).lo)) (.int .i64 ((b.camN z i r).hi + (b.flowAt (i + r) z).hi)))
                  have eaY := Lib.hid ((set2_other (n := q) (i := 0) (j := 1) (.int .i64 ((b.camN z i r).lo + (b.flowAt (i + r) z).lo)) (.int .i64 ((b.camN z i r).hi + (b.flowAt (i + r) z).hi)) (show p ≠ q by omega)).trans ea3.out)
                  have ecY := Lib.hid (set2 ec4.out (.int .i64 ((b.camN z i r).lo + (b.flowAt (i + r) z).lo)) (.int .i64 ((b.camN z i r).hi + (b.flowAt (i + r) z).hi)))
                  rw [hY] at hSY eaY ecY ⊢
                  replace ecY : Hid (Y.heap[q]? = some (spO (b.camN z i (r + 1)))) := ecY
                  have hqY : Hid (q < Y.heap.size) := Lib.hid (Array.getElem?_eq_some_iff.1 ecY.out).1
                  clear hY q0 q1 q2 zb f0 f1 zf c0 c1 o0 o1 zc hV1 x1 x2 x3 hrb htb hSW ea3 ec4 hcs hfl hcb
                  rcases Int.lt_or_le ((i + r : Nat) : Int) since with hsn | hsn
                  · have hD1 : rsDays since i (r + 1) = rsDays since i r := by rw [rsDays, if_neg (by omega), Int.add_zero]
                    go_upto_region 25 with fail
                    rw [← hD1]
                    have hDa := Lib.hid hD1
                    clear hD1 hDa
                    have hDb := rsDays_bd (since := since) (i := i) (r + 1)
                    have hzc := atK_cases ok (z := z) (d := i + r)
                    have hzb := atK_bd ok hz (i + r + 1)
                    have kR2 : Hid (Calls Try.prog 73 #[bkV (.slice (some ⟨fb, fo, none⟩) b.first.length fc) (.slice (some ⟨rb, ro, none⟩) b.flows.length wc) (.slice ra b.reads.length rc), .int .i64 z, .int .i64 ((i : Int) + (r : Int)), spV ⟨-2000000000, 2000000000⟩] Y fun e w' => e = .returned (spV (b.atK z (i + r + 1))) ∧ Below Y.heap.size Y w') := Lib.hid (by rw [← Int.natCast_add]; exact refRead _ _ _ b z ((i + r : Nat) : Int) ⟨-2000000000, 2000000000⟩ Y (hb0.out.mono hSY.out.bel))
                    have hst2 : Hid (b.rsIn z since i o (r + 1) = if b.atK z (i + r + 1) = wideSp ∨ (1 ≤ i ∧ a = wideSp) then some o2 else if rsDays since i (r + 1) = 0 then (if 0 < a.lo + (b.camN z i (r + 1)).lo - (b.atK z (i + r + 1)).hi ∨ a.hi + (b.camN z i (r + 1)).hi - (b.atK z (i + r + 1)).lo < 0 then none else some o2) else some (meet o2 ⟨upI (a.lo + (b.camN z i (r + 1)).lo - (b.atK z (i + r + 1)).hi) (rsDays since i (r + 1)), dnI (a.hi + (b.camN z i (r + 1)).hi - (b.atK z (i + r + 1)).lo) (rsDays since i (r + 1))⟩)) := Lib.hid (by
                      rw [rsIn_step hin.out, ← hA.out]; rfl)
                    have hno : Hid (b.rsIn z since i o (r + 1) = none → b.rsR z since = (⟨0, 0⟩, false)) := Lib.hid fun h => rsR_none hoth.out (show i + 1 ≤ _ by omega) (by rw [hrow.out, hri.out]; exact rsIn_no h _ (by omega))
                    have hDe : Hid (rsDays since i (r + 1) = rsDays since i (r + 1)) := rfl
                    generalize b.atK z (i + r + 1) = zt at *
                    generalize hDe2 : rsDays since i (r + 1) = D at *
                    replace hDe := Lib.hid hDe2
                    generalize hc2 : b.camN z i (r + 1) = c2 at *
                    replace hc2 := Lib.hid hc2
                    obtain ⟨q0, q1, q2⟩ := rc3 hSY.out.bk
                    obtain ⟨w0, w1⟩ := rc2 hSY.out.wi
                    have zb := (Array.getElem?_eq_some_iff.1 hSY.out.bk).1
                    have zw := (Array.getElem?_eq_some_iff.1 hSY.out.wi).1
                    clear hDe2 hrow hri
                    go_upto_region 26 with (go_at_call 73; (with_reducible refine Calls.mono kR2.out ?_); rintro e y ⟨rfl, hB2⟩)
                    obtain ⟨U, hU⟩ : ∃ U, y.alloc (spO zt) = U := ⟨_, rfl⟩
                    obtain ⟨ez, bU, sU⟩ := boxed hU
                    rw [hU]
                    have hYU := below_tr hB2 bU
                    have hSU := Lib.hid (hSY.out.mono hYU)
                    have eaU := Lib.hid (kept_block hYU eaY.out)
                    have ecU := Lib.hid (kept_block hYU ecY.out)
                    have hqU : Hid (q < U.heap.size) := Lib.hid (Nat.lt_of_lt_of_le hqY.out hYU.size)
                    clear hU sU bU hB2 hYU hSY eaY ecY hqY q0 q1 q2 w0 w1 zb zw kR2
                    obtain ⟨u0, u1⟩ := rc2 ez
                    obtain ⟨v0, v1⟩ := rc2 hSU.out.wi
                    obtain ⟨x0, x1⟩ := rc2 eaU.out
                    have zz := (Array.getElem?_eq_some_iff.1 ez).1
                    have za := (Array.getElem?_eq_some_iff.1 eaU.out).1
                    have zw := (Array.getElem?_eq_some_iff.1 hSU.out.wi).1
                    rcases hzc with hzw | ⟨hz1, hz2, hz3⟩
                    · have hnx : Hid (b.rsIn z since i o (r + 1) = some o2) := Lib.hid (by rw [hst2.out, if_pos (.inl hzw)])
                      have hSM := hSU
                      have eaM := eaU
                      have ecM := ecU
                      have hqM := hqU
                      clear hst2 hno
                      obtain ⟨zl, zh⟩ := zt
                      simp only [wideSp, Sp.mk.injEq] at hzw
                      obtain ⟨rfl, rfl⟩ := hzw
                      go_wp2
                      first | exact ⟨⟨r + 1, by omega, by first | rfl | rw [hDe.out], by go_num, _, hnx.out, hSM.out, eaM.out, by rw [hc2.out]; exact ecM.out, hqM.out⟩, by simp [intOf]; omega⟩ | (refine ⟨?_, by simp [intOf]; omega⟩; (repeat apply Exists.intro); refine and_comm.1 ⟨rfl, ?_⟩; exact ⟨r + 1, by omega, by first | rfl | rw [hDe.out], by go_num, _, hnx.out, hSM.out, eaM.out, by rw [hc2.out]; exact ecM.out, hqM.out⟩)
                    · have hzd : decide (zt.lo = -2000000000) = false := by simpa using hz1
                      rcases hcase.out with haw | ⟨ha1, ha2, ha3⟩
                      · have hnx : Hid (b.rsIn z since i o (r + 1) = some o2) := Lib.hid (by rw [hst2.out, if_pos (.inr ⟨by omega, haw⟩)])
                        have hSM := hSU
                        have eaM := eaU
                        have ecM := ecU
                        have hqM := hqU
                        clear hst2 hno
                        obtain ⟨al, ah⟩ := a
                        simp only [wideSp, Sp.mk.injEq] at haw
                        obtain ⟨rfl, rfl⟩ := haw
                        go_wp2
                        first | exact ⟨⟨r + 1, by omega, by first | rfl | rw [hDe.out], by go_num, _, hnx.out, hSM.out, eaM.out, by rw [hc2.out]; exact ecM.out, hqM.out⟩, by simp [intOf]; omega⟩ | (refine ⟨?_, by simp [intOf]; omega⟩; (repeat apply Exists.intro); refine and_comm.1 ⟨rfl, ?_⟩; exact ⟨r + 1, by omega, by first | rfl | rw [hDe.out], by go_num, _, hnx.out, hSM.out, eaM.out, by rw [hc2.out]; exact ecM.out, hqM.out⟩)
                      · have had : decide (a.lo = -2000000000) = false := by simpa using ha1
                        obtain ⟨M, hM⟩ : ∃ M, U.alloc (spO ⟨a.lo + c2.lo - zt.hi, a.hi + c2.hi - zt.lo⟩) = M := ⟨_, rfl⟩
                        obtain ⟨em, bM, sM⟩ := boxed hM
                        obtain ⟨m0, m1⟩ := rc2 em
                        have zm := (Array.getElem?_eq_some_iff.1 em).1
                        have hSM := Lib.hid (hSU.out.mono bM)
                        have eaM := Lib.hid (kept_block bM eaU.out)
                        have ecM := Lib.hid (kept_block bM ecU.out)
                        have hqM : Hid (q < M.heap.size) := Lib.hid (Nat.lt_of_lt_of_le hqU.out bM.size)
                        obtain ⟨x2, x3⟩ := rc2 ecU.out
                        have zc := (Array.getElem?_eq_some_iff.1 ecU.out).1
                        clear bM sM
                        go_upto_region 28 with fail
                        clear hM u0 u1 v0 v1 x0 x1 x2 x3 zc zz za zw
                        have hmlb : -1000000000000 ≤ a.lo + c2.lo - zt.hi ∧ a.lo + c2.lo - zt.hi ≤ 1000000000000 := by omega
                        have hmhb : -1000000000000 ≤ a.hi + c2.hi - zt.lo ∧ a.hi + c2.hi - zt.lo ≤ 1000000000000 := by omega
                        have hst3 : Hid (b.rsIn z since i o (r + 1) = if D = 0 then (if 0 < a.lo + c2.lo - zt.hi ∨ a.hi + c2.hi - zt.lo < 0 then none else some o2) else some (meet o2 ⟨upI (a.lo + c2.lo - zt.hi) D, dnI (a.hi + c2.hi - zt.lo) D⟩)) := Lib.hid (by rw [hst2.out, if_neg (by rintro (h | ⟨-, h⟩); exact hz3 h; exact ha3 h)])
                        clear hst2
                        generalize a.lo + c2.lo - zt.hi = ml at *
                        generalize a.hi + c2.hi - zt.lo = mh at *
                        by_cases hD0 : D = 0
                        · rw [if_pos hD0] at hst3
                          subst hD0
                          rcases Int.lt_or_le 0 ml with h1 | h1
                          · have hnn := Lib.hid (hno.out (by rw [hst3.out, if_pos (.inl h1)]))
                            have hr := hnn.out
                            replace hr := Lib.hid hr
                            clear hno hst3
                            obtain ⟨c0, c1⟩ := rc2 hSM.out.re
                            obtain ⟨o0, o1⟩ := rf2 hSM.out.re
                            have zr := (Array.getElem?_eq_some_iff.1 hSM.out.re).1
                            go_wp2
                            obtain ⟨c4, c5⟩ := rc2 (set2 hSM.out.re (.int .i64 0) (.int .i64 0))
                            refine bodyPost_ret (v := .tuple #[spV ⟨0, 0⟩, .bool false]) (by simp [results, Try.results48, go_sem, c4, c5]) rfl ⟨by rw [hr.out], hSM.out.bel.trans (below_set2 _ _ (by omega))⟩
                          · rcases Int.lt_or_le mh 0 with h2 | h2
                            · have hnn := Lib.hid (hno.out (by rw [hst3.out, if_pos (.inr h2)]))
                              have hr := hnn.out
                              replace hr := Lib.hid hr
                              clear hno hst3
                              obtain ⟨c0, c1⟩ := rc2 hSM.out.re
                              obtain ⟨o0, o1⟩ := rf2 hSM.out.re
                              have zr := (Array.getElem?_eq_some_iff.1 hSM.out.re).1
                              go_wp2
                              obtain ⟨c4, c5⟩ := rc2 (set2 hSM.out.re (.int .i64 0) (.int .i64 0))
                              refine bodyPost_ret (v := .tuple #[spV ⟨0, 0⟩, .bool false]) (by simp [results, Try.results48, go_sem, c4, c5]) rfl ⟨by rw [hr.out], hSM.out.bel.trans (below_set2 _ _ (by omega))⟩
                            · have hnx : Hid (b.rsIn z since i o (r + 1) = some o2) := Lib.hid (by rw [hst3.out, if_neg (by omega)])
                              clear hno hst3
                              go_wp2
                              first | exact ⟨⟨r + 1, by omega, by first | rfl | rw [hDe.out], by go_num, _, hnx.out, hSM.out, eaM.out, by rw [hc2.out]; exact ecM.out, hqM.out⟩, by simp [intOf]; omega⟩ | (refine ⟨?_, by simp [intOf]; omega⟩; (repeat apply Exists.intro); refine and_comm.1 ⟨rfl, ?_⟩; exact ⟨r + 1, by omega, by first | rfl | rw [hDe.out], by go_num, _, hnx.out, hSM.out, eaM.out, by rw [hc2.out]; exact ecM.out, hqM.out⟩)
                        · rw [if_neg hD0] at hst3
                          have hDp : 0 < D := by omega
                          have kU := Lib.hid (fun x => refUp ml D x hmlb (by omega) (by rw [dnI_eq hDp]; have := div_bd (n := -ml) (D := D) (by omega) (by omega); omega))
                          have kDn := Lib.hid (fun x => refDown mh D x hmhb (by omega))
                          obtain ⟨up, hup⟩ : ∃ up, upI ml D = up := ⟨_, rfl⟩
                          obtain ⟨dn, hdn⟩ : ∃ dn, dnI mh D = dn := ⟨_, rfl⟩
                          rw [hup] at kU hst3
                          rw [hdn] at kDn hst3
                          have kM := Lib.hid (fun x => refMeet o2 ⟨up, dn⟩ x)
                          generalize hs1 : meet o2 ⟨up, dn⟩ = s1 at *
                          have hnx : Hid (b.rsIn z since i o (r + 1) = some s1) := hst3
                          obtain ⟨g0, g1⟩ := rc2 hSM.out.out
                          have zo := (Array.getElem?_eq_some_iff.1 hSM.out.out).1
                          have hD0d : decide (D = 0) = false := by simpa using hD0
                          clear hno hst3 hup hdn hs1 hmlb hmhb
                          go_wp2
                          refine plain_region (by kernel_rfl) (any_region_locN 11 170 [] [153, 154, 155, 156, 157, 158, 159, 160, 161, 162, 163] [[], [], [1], [], [2, 3], [], [5], [], [6, 7], [4, 8], [0, 9]] [IsV (spV o2), IsV (.pointer (some ⟨U.heap.size, 0, none⟩)), IsV (.int .i64 ml), IsV (.int .i64 D), IsV (.int .i64 up), IsV (.pointer (some ⟨U.heap.size, 1, none⟩)), IsV (.int .i64 mh), IsV (.int .i64 D), IsV (.int .i64 dn), IsV (spV ⟨up, dn⟩), IsV (spV s1)] [] (by kernel_rfl) (by kernel_rfl) (by kernel_rfl) (by kernel_rfl) (by kernel_rfl) rfl OnlyN.panic ?_ ?_ ?_ (fun j hj => nomatch hj) ?_)
                          · exact List.forall_mem_cons.2 ⟨pers_v _, List.forall_mem_cons.2 ⟨pers_v _, List.forall_mem_cons.2 ⟨pers_v _, List.forall_mem_cons.2 ⟨pers_v _, List.forall_mem_cons.2 ⟨pers_v _, List.forall_mem_cons.2 ⟨pers_v _, List.forall_mem_cons.2 ⟨pers_v _, List.forall_mem_cons.2 ⟨pers_v _, List.forall_mem_cons.2 ⟨pers_v _, List.forall_mem_cons.2 ⟨pers_v _, List.forall_mem_cons.2 ⟨pers_v _, fun f h => nomatch h⟩⟩⟩⟩⟩⟩⟩⟩⟩⟩⟩
                          · intro k hk; cases hk
                          · refine ⟨?_, ?_, ?_, ?_, ?_, ?_, ?_, ?_, ?_, ?_, ?_, trivial⟩
                            · intro vals x hb hf
                              simp only [fillS, List.getD_cons_succ, List.getD_cons_zero, Act.put, List.setIfInBounds_toArray, List.set_cons_zero, List.set_cons_succ]
                              clear hf
                              have t0 := kept_cell hb g0
                              have t1 := kept_cell hb g1
                              have t2 := kept_cell hb m0
                              have t3 := kept_cell hb m1
                              have zx := Nat.lt_of_lt_of_le zo hb.size
                              have zx2 := Nat.lt_of_lt_of_le zm hb.size
                              go_wp2
                              exact ⟨rfl, rfl, Below.refl _ _, _, rfl, rfl, (fun h => absurd h (by decide))⟩
                            · intro vals x hb hf
                              simp only [fillS, List.getD_cons_succ, List.getD_cons_zero, Act.put, List.setIfInBounds_toArray, List.set_cons_zero, List.set_cons_succ]
                              clear hf
                              have t0 := kept_cell hb g0
                              have t1 := kept_cell hb g1
                              have t2 := kept_cell hb m0
                              have t3 := kept_cell hb m1
                              have zx := Nat.lt_of_lt_of_le zo hb.size
                              have zx2 := Nat.lt_of_lt_of_le zm hb.size
                              go_wp2
                              exact ⟨rfl, rfl, Below.refl _ _, _, rfl, rfl, (fun h => absurd h (by decide))⟩
                            · intro vals x hb hf
                              simp only [fillS, List.getD_cons_succ, List.getD_cons_zero, Act.put, List.setIfInBounds_toArray, List.set_cons_zero, List.set_cons_succ]
                              have h1 : vals 1 = .pointer (some ⟨U.heap.size, 0, none⟩) := hf.1
                              rw [h1]
                              clear h1
                              clear hf
                              have t0 := kept_cell hb g0
                              have t1 := kept_cell hb g1
                              have t2 := kept_cell hb m0
                              have t3 := kept_cell hb m1
                              have zx := Nat.lt_of_lt_of_le zo hb.size
                              have zx2 := Nat.lt_of_lt_of_le zm hb.size
                              go_wp2
                              exact ⟨rfl, rfl, Below.refl _ _, _, rfl, rfl, (fun h => absurd h (by decide))⟩
                            · intro vals x hb hf
                              simp only [fillS, List.getD_cons_succ, List.getD_cons_zero, Act.put, List.setIfInBounds_toArray, List.set_cons_zero, List.set_cons_succ]
                              clear hf
                              have t0 := kept_cell hb g0
                              have t1 := kept_cell hb g1
                              have t2 := kept_cell hb m0
                              have t3 := kept_cell hb m1
                              have zx := Nat.lt_of_lt_of_le zo hb.size
                              have zx2 := Nat.lt_of_lt_of_le zm hb.size
                              go_wp2
                              exact ⟨rfl, rfl, Below.refl _ _, _, rfl, rfl, (fun h => absurd h (by decide))⟩
                            · intro vals x hb hf
                              simp only [fillS, List.getD_cons_succ, List.getD_cons_zero, Act.put, List.setIfInBounds_toArray, List.set_cons_zero, List.set_cons_succ]
                              have h2 : vals 2 = .int .i64 ml := hf.1
                              rw [h2]
                              clear h2
                              have h3 : vals 3 = .int .i64 D := hf.2.1
                              rw [h3]
                              clear h3
                              clear hf
                              have t0 := kept_cell hb g0
                              have t1 := kept_cell hb g1
                              have t2 := kept_cell hb m0
                              have t3 := kept_cell hb m1
                              have zx := Nat.lt_of_lt_of_le zo hb.size
                              have zx2 := Nat.lt_of_lt_of_le zm hb.size
                              go_wp2_with (go_at_call 74; (with_reducible refine Calls.mono (kU.out x) ?_); rintro e y ⟨rfl, rfl⟩)
                              exact ⟨rfl, rfl, Below.refl _ _, _, rfl, rfl, (fun h => absurd h (by decide))⟩
                            · intro vals x hb hf
                              simp only [fillS, List.getD_cons_succ, List.getD_cons_zero, Act.put, List.setIfInBounds_toArray, List.set_cons_zero, List.set_cons_succ]
                              clear hf
                              have t0 := kept_cell hb g0
                              have t1 := kept_cell hb g1
                              have t2 := kept_cell hb m0
                              have t3 := kept_cell hb m1
                              have zx := Nat.lt_of_lt_of_le zo hb.size
                              have zx2 := Nat.lt_of_lt_of_le zm hb.size
                              go_wp2
                              exact ⟨rfl, rfl, Below.refl _ _, _, rfl, rfl, (fun h => absurd h (by decide))⟩
                            · intro vals x hb hf
                              simp only [fillS, List.getD_cons_succ, List.getD_cons_zero, Act.put, List.setIfInBounds_toArray, List.set_cons_zero, List.set_cons_succ]
                              have h5 : vals 5 = .pointer (some ⟨U.heap.size, 1, none⟩) := hf.1
                              rw [h5]
                              clear h5
                              clear hf
                              have t0 := kept_cell hb g0
                              have t1 := kept_cell hb g1
                              have t2 := kept_cell hb m0
                              have t3 := kept_cell hb m1
                              have zx := Nat.lt_of_lt_of_le zo hb.size
                              have zx2 := Nat.lt_of_lt_of_le zm hb.size
                              go_wp2
                              exact ⟨rfl, rfl, Below.refl _ _, _, rfl, rfl, (fun h => absurd h (by decide))⟩
                            · intro vals x hb hf
                              simp only [fillS, List.getD_cons_succ, List.getD_cons_zero, Act.put, List.setIfInBounds_toArray, List.set_cons_zero, List.set_cons_succ]
                              clear hf
                              have t0 := kept_cell hb g0
                              have t1 := kept_cell hb g1
                              have t2 := kept_cell hb m0
                              have t3 := kept_cell hb m1
                              have zx := Nat.lt_of_lt_of_le zo hb.size
                              have zx2 := Nat.lt_of_lt_of_le zm hb.size
                              go_wp2
                              exact ⟨rfl, rfl, Below.refl _ _, _, rfl, rfl, (fun h => absurd h (by decide))⟩
                            · intro vals x hb hf
                              simp only [fillS, List.getD_cons_succ, List.getD_cons_zero, Act.put, List.setIfInBounds_toArray, List.set_cons_zero, List.set_cons_succ]
                              have h6 : vals 6 = .int .i64 mh := hf.1
                              rw [h6]
                              clear h6
                              have h7 : vals 7 = .int .i64 D := hf.2.1
                              rw [h7]
                              clear h7
                              clear hf
                              have t0 := kept_cell hb g0
                              have t1 := kept_cell hb g1
                              have t2 := kept_cell hb m0
                              have t3 := kept_cell hb m1
                              have zx := Nat.lt_of_lt_of_le zo hb.size
                              have zx2 := Nat.lt_of_lt_of_le zm hb.size
                              go_wp2_with (go_at_call 75; (with_reducible refine Calls.mono (kDn.out x) ?_); rintro e y ⟨rfl, rfl⟩)
                              exact ⟨rfl, rfl, Below.refl _ _, _, rfl, rfl, (fun h => absurd h (by decide))⟩
                            · intro vals x hb hf
                              simp only [fillS, List.getD_cons_succ, List.getD_cons_zero, Act.put, List.setIfInBounds_toArray, List.set_cons_zero, List.set_cons_succ]
                              have f4 : (IsV (.int .i64 up)) (vals 4) x := hf.1
                              have f8 : (IsV (.int .i64 dn)) (vals 8) x := hf.2.1
                              clear hf
                              have t0 := kept_cell hb g0
                              have t1 := kept_cell hb g1
                              have t2 := kept_cell hb m0
                              have t3 := kept_cell hb m1
                              have zx := Nat.lt_of_lt_of_le zo hb.size
                              have zx2 := Nat.lt_of_lt_of_le zm hb.size
                              rw [show vals 4 = .int .i64 up from f4, show vals 8 = .int .i64 dn from f8]
                              go_wp2
                              exact ⟨rfl, rfl, Below.refl _ _, _, rfl, rfl, (fun h => absurd h (by decide))⟩
                            · intro vals x hb hf
                              simp only [fillS, List.getD_cons_succ, List.getD_cons_zero, Act.put, List.setIfInBounds_toArray, List.set_cons_zero, List.set_cons_succ]
                              have h0 : vals 0 = spV o2 := hf.1
                              rw [h0]
                              clear h0
                              have f9 : (IsV (spV ⟨up, dn⟩)) (vals 9) x := hf.2.1
                              clear hf
                              have t0 := kept_cell hb g0
                              have t1 := kept_cell hb g1
                              have t2 := kept_cell hb m0
                              have t3 := kept_cell hb m1
                              have zx := Nat.lt_of_lt_of_le zo hb.size
                              have zx2 := Nat.lt_of_lt_of_le zm hb.size
                              rw [show vals 9 = spV ⟨up, dn⟩ from f9]
                              go_wp2_with (go_at_call 65; (with_reducible refine Calls.mono (kM.out x) ?_); rintro e y ⟨rfl, hB⟩)
                              exact ⟨rfl, rfl, hB, _, rfl, rfl, (fun h => absurd h (by decide))⟩
                          intro vals x hb hf hp
                          have hrange : List.range 11 = [0, 1, 2, 3, 4, 5, 6, 7, 8, 9, 10] := by rfl
                          rw [hrange]
                          simp only [fillS, List.getD_cons_succ, List.getD_cons_zero, Act.put, List.setIfInBounds_toArray, List.set_cons_zero, List.set_cons_succ]
                          have h0 : vals 0 = spV o2 := hf 0 (by omega)
                          have h1 : vals 1 = .pointer (some ⟨U.heap.size, 0, none⟩) := hf 1 (by omega)
                          have h2 : vals 2 = .int .i64 ml := hf 2 (by omega)
                          have h3 : vals 3 = .int .i64 D := hf 3 (by omega)
                          have f4 : (IsV (.int .i64 up)) (vals 4) x := hf 4 (by omega)
                          have h5 : vals 5 = .pointer (some ⟨U.heap.size, 1, none⟩) := hf 5 (by omega)
                          have h6 : vals 6 = .int .i64 mh := hf 6 (by omega)
                          have h7 : vals 7 = .int .i64 D := hf 7 (by omega)
                          have f8 : (IsV (.int .i64 dn)) (vals 8) x := hf 8 (by omega)
                          have f9 : (IsV (spV ⟨up, dn⟩)) (vals 9) x := hf 9 (by omega)
                          have f10 : (IsV (spV s1)) (vals 10) x := hf 10 (by omega)
                          rw [h0, h1, h2, h3, h5, h6, h7]
                          clear h0 h1 h2 h3 h5 h6 h7 hf hp hrange
                          simp only [List.drop_succ_cons, List.drop_zero]
                          rw [show vals 10 = spV s1 from f10]
                          clear f4 f8 f9 f10 g0 g1 m0 m1 zo zm kU kDn kM
                          have hSx := Lib.hid (hSM.out.mono hb)
                          have eax := Lib.hid ((set2_other (n := m) (i := 0) (j := 1) (.int .i64 s1.lo) (.int .i64 s1.hi) (show p ≠ m by omega)).trans (kept_block hb eaM.out))
                          have ecx := Lib.hid ((set2_other (n := m) (i := 0) (j := 1) (.int .i64 s1.lo) (.int .i64 s1.hi) (show q ≠ m by omega)).trans (kept_block hb ecM.out))
                          have hqx : Hid (q < x.heap.size) := Lib.hid (Nat.lt_of_lt_of_le hqM.out hb.size)
                          obtain ⟨g0, g1⟩ := rc2 hSx.out.out
                          obtain ⟨o0, o1⟩ := rf2 hSx.out.out
                          have zo := (Array.getElem?_eq_some_iff.1 hSx.out.out).1
                          go_wp2
                          refine OnlyN.mk ?_
                          go_wp2
                          first | exact ⟨⟨r + 1, by omega, by first | rfl | rw [hDe.out], by go_num, _, hnx.out, hSx.out.set hmw, eax.out, by rw [hc2.out]; exact ecx.out, by simp only [World.setCell, Array.size_modify]; exact hqx.out⟩, by simp [intOf]; omega⟩ | (refine ⟨?_, by simp [intOf]; omega⟩; (repeat apply Exists.intro); refine and_comm.1 ⟨rfl, ?_⟩; exact ⟨r + 1, by omega, by first | rfl | rw [hDe.out], by go_num, _, hnx.out, hSx.out.set hmw, eax.out, by rw [hc2.out]; exact ecx.out, by simp only [World.setCell, Array.size_modify]; exact hqx.out⟩)
                  · have hD1 : rsDays since i (r + 1) = rsDays since i r + 1 := by rw [rsDays, if_pos hsn]
                    have hdb := rsDays_bd (since := since) (i := i) r
                    go_upto_region 25 with fail
                    rw [← hD1]
                    have hDa := Lib.hid hD1
                    clear hD1 hDa
                    have hDb := rsDays_bd (since := since) (i := i) (r + 1)
                    have hzc := atK_cases ok (z := z) (d := i + r)
                    have hzb := atK_bd ok hz (i + r + 1)
                    have kR2 : Hid (Calls Try.prog 73 #[bkV (.slice (some ⟨fb, fo, none⟩) b.first.length fc) (.slice (some ⟨rb, ro, none⟩) b.flows.length wc) (.slice ra b.reads.length rc), .int .i64 z, .int .i64 ((i : Int) + (r : Int)), spV ⟨-2000000000, 2000000000⟩] Y fun e w' => e = .returned (spV (b.atK z (i + r + 1))) ∧ Below Y.heap.size Y w') := Lib.hid (by rw [← Int.natCast_add]; exact refRead _ _ _ b z ((i + r : Nat) : Int) ⟨-2000000000, 2000000000⟩ Y (hb0.out.mono hSY.out.bel))
                    have hst2 : Hid (b.rsIn z since i o (r + 1) = if b.atK z (i + r + 1) = wideSp ∨ (1 ≤ i ∧ a = wideSp) then some o2 else if rsDays since i (r + 1) = 0 then (if 0 < a.lo + (b.camN z i (r + 1)).lo - (b.atK z (i + r + 1)).hi ∨ a.hi + (b.camN z i (r + 1)).hi - (b.atK z (i + r + 1)).lo < 0 then none else some o2) else some (meet o2 ⟨upI (a.lo + (b.camN z i (r + 1)).lo - (b.atK z (i + r + 1)).hi) (rsDays since i (r + 1)), dnI (a.hi + (b.camN z i (r + 1)).hi - (b.atK z (i + r + 1)).lo) (rsDays since i (r + 1))⟩)) := Lib.hid (by
                      rw [rsIn_step hin.out, ← hA.out]; rfl)
                    have hno : Hid (b.rsIn z since i o (r + 1) = none → b.rsR z since = (⟨0, 0⟩, false)) := Lib.hid fun h => rsR_none hoth.out (show i + 1 ≤ _ by omega) (by rw [hrow.out, hri.out]; exact rsIn_no h _ (by omega))
                    have hDe : Hid (rsDays since i (r + 1) = rsDays since i (r + 1)) := rfl
                    generalize b.atK z (i + r + 1) = zt at *
                    generalize hDe2 : rsDays since i (r + 1) = D at *
                    replace hDe := Lib.hid hDe2
                    generalize hc2 : b.camN z i (r + 1) = c2 at *
                    replace hc2 := Lib.hid hc2
                    obtain ⟨q0, q1, q2⟩ := rc3 hSY.out.bk
                    obtain ⟨w0, w1⟩ := rc2 hSY.out.wi
                    have zb := (Array.getElem?_eq_some_iff.1 hSY.out.bk).1
                    have zw := (Array.getElem?_eq_some_iff.1 hSY.out.wi).1
                    clear hDe2 hrow hri
                    go_upto_region 26 with (go_at_call 73; (with_reducible refine Calls.mono kR2.out ?_); rintro e y ⟨rfl, hB2⟩)
                    obtain ⟨U, hU⟩ : ∃ U, y.alloc (spO zt) = U := ⟨_, rfl⟩
                    obtain ⟨ez, bU, sU⟩ := boxed hU
                    rw [hU]
                    have hYU := below_tr hB2 bU
                    have hSU := Lib.hid (hSY.out.mono hYU)
                    have eaU := Lib.hid (kept_block hYU eaY.out)
                    have ecU := Lib.hid (kept_block hYU ecY.out)
                    have hqU : Hid (q < U.heap.size) := Lib.hid (Nat.lt_of_lt_of_le hqY.out hYU.size)
                    clear hU sU bU hB2 hYU hSY eaY ecY hqY q0 q1 q2 w0 w1 zb zw kR2
                    obtain ⟨u0, u1⟩ := rc2 ez
                    obtain ⟨v0, v1⟩ := rc2 hSU.out.wi
                    obtain ⟨x0, x1⟩ := rc2 eaU.out
                    have zz := (Array.getElem?_eq_some_iff.1 ez).1
                    have za := (Array.getElem?_eq_some_iff.1 eaU.out).1
                    have zw := (Array.getElem?_eq_some_iff.1 hSU.out.wi).1
                    rcases hzc with hzw | ⟨hz1, hz2, hz3⟩
                    · have hnx : Hid (b.rsIn z since i o (r + 1) = some o2) := Lib.hid (by rw [hst2.out, if_pos (.inl hzw)])
                      have hSM := hSU
                      have eaM := eaU
                      have ecM := ecU
                      have hqM := hqU
                      clear hst2 hno
                      obtain ⟨zl, zh⟩ := zt
                      simp only [wideSp, Sp.mk.injEq] at hzw
                      obtain ⟨rfl, rfl⟩ := hzw
                      go_wp2
                      first | exact ⟨⟨r + 1, by omega, by first | rfl | rw [hDe.out], by go_num, _, hnx.out, hSM.out, eaM.out, by rw [hc2.out]; exact ecM.out, hqM.out⟩, by simp [intOf]; omega⟩ | (refine ⟨?_, by simp [intOf]; omega⟩; (repeat apply Exists.intro); refine and_comm.1 ⟨rfl, ?_⟩; exact ⟨r + 1, by omega, by first | rfl | rw [hDe.out], by go_num, _, hnx.out, hSM.out, eaM.out, by rw [hc2.out]; exact ecM.out, hqM.out⟩)
                    · have hzd : decide (zt.lo = -2000000000) = false := by simpa using hz1
                      rcases hcase.out with haw | ⟨ha1, ha2, ha3⟩
                      · have hnx : Hid (b.rsIn z since i o (r + 1) = some o2) := Lib.hid (by rw [hst2.out, if_pos (.inr ⟨by omega, haw⟩)])
                        have hSM := hSU
                        have eaM := eaU
                        have ecM := ecU
                        have hqM := hqU
                        clear hst2 hno
                        obtain ⟨al, ah⟩ := a
                        simp only [wideSp, Sp.mk.injEq] at haw
                        obtain ⟨rfl, rfl⟩ := haw
                        go_wp2
                        first | exact ⟨⟨r + 1, by omega, by first | rfl | rw [hDe.out], by go_num, _, hnx.out, hSM.out, eaM.out, by rw [hc2.out]; exact ecM.out, hqM.out⟩, by simp [intOf]; omega⟩ | (refine ⟨?_, by simp [intOf]; omega⟩; (repeat apply Exists.intro); refine and_comm.1 ⟨rfl, ?_⟩; exact ⟨r + 1, by omega, by first | rfl | rw [hDe.out], by go_num, _, hnx.out, hSM.out, eaM.out, by rw [hc2.out]; exact ecM.out, hqM.out⟩)
                      · have had : decide (a.lo = -2000000000) = false := by simpa using ha1
                        obtain ⟨M, hM⟩ : ∃ M, U.alloc (spO ⟨a.lo + c2.lo - zt.hi, a.hi + c2.hi - zt.lo⟩) = M := ⟨_, rfl⟩
                        obtain ⟨em, bM, sM⟩ := boxed hM
                        obtain ⟨m0, m1⟩ := rc2 em
                        have zm := (Array.getElem?_eq_some_iff.1 em).1
                        have hSM := Lib.hid (hSU.out.mono bM)
                        have eaM := Lib.hid (kept_block bM eaU.out)
                        have ecM := Lib.hid (kept_block bM ecU.out)
                        have hqM : Hid (q < M.heap.size) := Lib.hid (Nat.lt_of_lt_of_le hqU.out bM.size)
                        obtain ⟨x2, x3⟩ := rc2 ecU.out
                        have zc := (Array.getElem?_eq_some_iff.1 ecU.out).1
                        clear bM sM
                        go_upto_region 28 with fail
                        clear hM u0 u1 v0 v1 x0 x1 x2 x3 zc zz za zw
                        have hmlb : -1000000000000 ≤ a.lo + c2.lo - zt.hi ∧ a.lo + c2.lo - zt.hi ≤ 1000000000000 := by omega
                        have hmhb : -1000000000000 ≤ a.hi + c2.hi - zt.lo ∧ a.hi + c2.hi - zt.lo ≤ 1000000000000 := by omega
                        have hst3 : Hid (b.rsIn z since i o (r + 1) = if D = 0 then (if 0 < a.lo + c2.lo - zt.hi ∨ a.hi + c2.hi - zt.lo < 0 then none else some o2) else some (meet o2 ⟨upI (a.lo + c2.lo - zt.hi) D, dnI (a.hi + c2.hi - zt.lo) D⟩)) := Lib.hid (by rw [hst2.out, if_neg (by rintro (h | ⟨-, h⟩); exact hz3 h; exact ha3 h)])
                        clear hst2
                        generalize a.lo + c2.lo - zt.hi = ml at *
                        generalize a.hi + c2.hi - zt.lo = mh at *
                        by_cases hD0 : D = 0
                        · rw [if_pos hD0] at hst3
                          subst hD0
                          rcases Int.lt_or_le 0 ml with h1 | h1
                          · have hnn := Lib.hid (hno.out (by rw [hst3.out, if_pos (.inl h1)]))
                            have hr := hnn.out
                            replace hr := Lib.hid hr
                            clear hno hst3
                            obtain ⟨c0, c1⟩ := rc2 hSM.out.re
                            obtain ⟨o0, o1⟩ := rf2 hSM.out.re
                            have zr := (Array.getElem?_eq_some_iff.1 hSM.out.re).1
                            go_wp2
                            obtain ⟨c4, c5⟩ := rc2 (set2 hSM.out.re (.int .i64 0) (.int .i64 0))
                            refine bodyPost_ret (v := .tuple #[spV ⟨0, 0⟩, .bool false]) (by simp [results, Try.results48, go_sem, c4, c5]) rfl ⟨by rw [hr.out], hSM.out.bel.trans (below_set2 _ _ (by omega))⟩
                          · rcases Int.lt_or_le mh 0 with h2 | h2
                            · have hnn := Lib.hid (hno.out (by rw [hst3.out, if_pos (.inr h2)]))
                              have hr := hnn.out
                              replace hr := Lib.hid hr
                              clear hno hst3
                              obtain ⟨c0, c1⟩ := rc2 hSM.out.re
                              obtain ⟨o0, o1⟩ := rf2 hSM.out.re
                              have zr := (Array.getElem?_eq_some_iff.1 hSM.out.re).1
                              go_wp2
                              obtain ⟨c4, c5⟩ := rc2 (set2 hSM.out.re (.int .i64 0) (.int .i64 0))
                              refine bodyPost_ret (v := .tuple #[spV ⟨0, 0⟩, .bool false]) (by simp [results, Try.results48, go_sem, c4, c5]) rfl ⟨by rw [hr.out], hSM.out.bel.trans (below_set2 _ _ (by omega))⟩
                            · have hnx : Hid (b.rsIn z since i o (r + 1) = some o2) := Lib.hid (by rw [hst3.out, if_neg (by omega)])
                              clear hno hst3
                              go_wp2
                              first | exact ⟨⟨r + 1, by omega, by first | rfl | rw [hDe.out], by go_num, _, hnx.out, hSM.out, eaM.out, by rw [hc2.out]; exact ecM.out, hqM.out⟩, by simp [intOf]; omega⟩ | (refine ⟨?_, by simp [intOf]; omega⟩; (repeat apply Exists.intro); refine and_comm.1 ⟨rfl, ?_⟩; exact ⟨r + 1, by omega, by first | rfl | rw [hDe.out], by go_num, _, hnx.out, hSM.out, eaM.out, by rw [hc2.out]; exact ecM.out, hqM.out⟩)
                        · rw [if_neg hD0] at hst3
                          have hDp : 0 < D := by omega
                          have kU := Lib.hid (fun x => refUp ml D x hmlb (by omega) (by rw [dnI_eq hDp]; have := div_bd (n := -ml) (D := D) (by omega) (by omega); omega))
                          have kDn := Lib.hid (fun x => refDown mh D x hmhb (by omega))
                          obtain ⟨up, hup⟩ : ∃ up, upI ml D = up := ⟨_, rfl⟩
                          obtain ⟨dn, hdn⟩ : ∃ dn, dnI mh D = dn := ⟨_, rfl⟩
                          rw [hup] at kU hst3
                          rw [hdn] at kDn hst3
                          have kM := Lib.hid (fun x => refMeet o2 ⟨up, dn⟩ x)
                          generalize hs1 : meet o2 ⟨up, dn⟩ = s1 at *
                          have hnx : Hid (b.rsIn z since i o (r + 1) = some s1) := hst3
                          obtain ⟨g0, g1⟩ := rc2 hSM.out.out
                          have zo := (Array.getElem?_eq_some_iff.1 hSM.out.out).1
                          have hD0d : decide (D = 0) = false := by simpa using hD0
                          clear hno hst3 hup hdn hs1 hmlb hmhb
                          go_wp2
                          refine plain_region (by kernel_rfl) (any_region_locN 11 170 [] [153, 154, 155, 156, 157, 158, 159, 160, 161, 162, 163] [[], [], [1], [], [2, 3], [], [5], [], [6, 7], [4, 8], [0, 9]] [IsV (spV o2), IsV (.pointer (some ⟨U.heap.size, 0, none⟩)), IsV (.int .i64 ml), IsV (.int .i64 D), IsV (.int .i64 up), IsV (.pointer (some ⟨U.heap.size, 1, none⟩)), IsV (.int .i64 mh), IsV (.int .i64 D), IsV (.int .i64 dn), IsV (spV ⟨up, dn⟩), IsV (spV s1)] [] (by kernel_rfl) (by kernel_rfl) (by kernel_rfl) (by kernel_rfl) (by kernel_rfl) rfl OnlyN.panic ?_ ?_ ?_ (fun j hj => nomatch hj) ?_)
                          · exact List.forall_mem_cons.2 ⟨pers_v _, List.forall_mem_cons.2 ⟨pers_v _, List.forall_mem_cons.2 ⟨pers_v _, List.forall_mem_cons.2 ⟨pers_v _, List.forall_mem_cons.2 ⟨pers_v _, List.forall_mem_cons.2 ⟨pers_v _, List.forall_mem_cons.2 ⟨pers_v _, List.forall_mem_cons.2 ⟨pers_v _, List.forall_mem_cons.2 ⟨pers_v _, List.forall_mem_cons.2 ⟨pers_v _, List.forall_mem_cons.2 ⟨pers_v _, fun f h => nomatch h⟩⟩⟩⟩⟩⟩⟩⟩⟩⟩⟩
                          · intro k hk; cases hk
                          · refine ⟨?_, ?_, ?_, ?_, ?_, ?_, ?_, ?_, ?_, ?_, ?_, trivial⟩
                            · intro vals x hb hf
                              simp only [fillS, List.getD_cons_succ, List.getD_cons_zero, Act.put, List.setIfInBounds_toArray, List.set_cons_zero, List.set_cons_succ]
                              clear hf
                              have t0 := kept_cell hb g0
                              have t1 := kept_cell hb g1
                              have t2 := kept_cell hb m0
                              have t3 := kept_cell hb m1
                              have zx := Nat.lt_of_lt_of_le zo hb.size
                              have zx2 := Nat.lt_of_lt_of_le zm hb.size
                              go_wp2
                              exact ⟨rfl, rfl, Below.refl _ _, _, rfl, rfl, (fun h => absurd h (by decide))⟩
                            · intro vals x hb hf
                              simp only [fillS, List.getD_cons_succ, List.getD_cons_zero, Act.put, List.setIfInBounds_toArray, List.set_cons_zero, List.set_cons_succ]
                              clear hf
                              have t0 := kept_cell hb g0
                              have t1 := kept_cell hb g1
                              have t2 := kept_cell hb m0
                              have t3 := kept_cell hb m1
                              have zx := Nat.lt_of_lt_of_le zo hb.size
                              have zx2 := Nat.lt_of_lt_of_le zm hb.size
                              go_wp2
                              exact ⟨rfl, rfl, Below.refl _ _, _, rfl, rfl, (fun h => absurd h (by decide))⟩
                            · intro vals x hb hf
                              simp only [fillS, List.getD_cons_succ, List.getD_cons_zero, Act.put, List.setIfInBounds_toArray, List.set_cons_zero, List.set_cons_succ]
                              have h1 : vals 1 = .pointer (some ⟨U.heap.size, 0, none⟩) := hf.1
                              rw [h1]
                              clear h1
                              clear hf
                              have t0 := kept_cell hb g0
                              have t1 := kept_cell hb g1
                              have t2 := kept_cell hb m0
                              have t3 := kept_cell hb m1
                              have zx := Nat.lt_of_lt_of_le zo hb.size
                              have zx2 := Nat.lt_of_lt_of_le zm hb.size
                              go_wp2
                              exact ⟨rfl, rfl, Below.refl _ _, _, rfl, rfl, (fun h => absurd h (by decide))⟩
                            · intro vals x hb hf
                              simp only [fillS, List.getD_cons_succ, List.getD_cons_zero, Act.put, List.setIfInBounds_toArray, List.set_cons_zero, List.set_cons_succ]
                              clear hf
                              have t0 := kept_cell hb g0
                              have t1 := kept_cell hb g1
                              have t2 := kept_cell hb m0
                              have t3 := kept_cell hb m1
                              have zx := Nat.lt_of_lt_of_le zo hb.size
                              have zx2 := Nat.lt_of_lt_of_le zm hb.size
                              go_wp2
                              exact ⟨rfl, rfl, Below.refl _ _, _, rfl, rfl, (fun h => absurd h (by decide))⟩
                            · intro vals x hb hf
                              simp only [fillS, List.getD_cons_succ, List.getD_cons_zero, Act.put, List.setIfInBounds_toArray, List.set_cons_zero, List.set_cons_succ]
                              have h2 : vals 2 = .int .i64 ml := hf.1
                              rw [h2]
                              clear h2
                              have h3 : vals 3 = .int .i64 D := hf.2.1
                              rw [h3]
                              clear h3
                              clear hf
                              have t0 := kept_cell hb g0
                              have t1 := kept_cell hb g1
                              have t2 := kept_cell hb m0
                              have t3 := kept_cell hb m1
                              have zx := Nat.lt_of_lt_of_le zo hb.size
                              have zx2 := Nat.lt_of_lt_of_le zm hb.size
                              go_wp2_with (go_at_call 74; (with_reducible refine Calls.mono (kU.out x) ?_); rintro e y ⟨rfl, rfl⟩)
                              exact ⟨rfl, rfl, Below.refl _ _, _, rfl, rfl, (fun h => absurd h (by decide))⟩
                            · intro vals x hb hf
                              simp only [fillS, List.getD_cons_succ, List.getD_cons_zero, Act.put, List.setIfInBounds_toArray, List.set_cons_zero, List.set_cons_succ]
                              clear hf
                              have t0 := kept_cell hb g0
                              have t1 := kept_cell hb g1
                              have t2 := kept_cell hb m0
                              have t3 := kept_cell hb m1
                              have zx := Nat.lt_of_lt_of_le zo hb.size
                              have zx2 := Nat.lt_of_lt_of_le zm hb.size
                              go_wp2
                              exact ⟨rfl, rfl, Below.refl _ _, _, rfl, rfl, (fun h => absurd h (by decide))⟩
                            · intro vals x hb hf
                              simp only [fillS, List.getD_cons_succ, List.getD_cons_zero, Act.put, List.setIfInBounds_toArray, List.set_cons_zero, List.set_cons_succ]
                              have h5 : vals 5 = .pointer (some ⟨U.heap.size, 1, none⟩) := hf.1
                              rw [h5]
                              clear h5
                              clear hf
                              have t0 := kept_cell hb g0
                              have t1 := kept_cell hb g1
                              have t2 := kept_cell hb m0
                              have t3 := kept_cell hb m1
                              have zx := Nat.lt_of_lt_of_le zo hb.size
                              have zx2 := Nat.lt_of_lt_of_le zm hb.size
                              go_wp2
                              exact ⟨rfl, rfl, Below.refl _ _, _, rfl, rfl, (fun h => absurd h (by decide))⟩
                            · intro vals x hb hf
                              simp only [fillS, List.getD_cons_succ, List.getD_cons_zero, Act.put, List.setIfInBounds_toArray, List.set_cons_zero, List.set_cons_succ]
                              clear hf
                              have t0 := kept_cell hb g0
                              have t1 := kept_cell hb g1
                              have t2 := kept_cell hb m0
                              have t3 := kept_cell hb m1
                              have zx := Nat.lt_of_lt_of_le zo hb.size
                              have zx2 := Nat.lt_of_lt_of_le zm hb.size
                              go_wp2
                              exact ⟨rfl, rfl, Below.refl _ _, _, rfl, rfl, (fun h => absurd h (by decide))⟩
                            · intro vals x hb hf
                              simp only [fillS, List.getD_cons_succ, List.getD_cons_zero, Act.put, List.setIfInBounds_toArray, List.set_cons_zero, List.set_cons_succ]
                              have h6 : vals 6 = .int .i64 mh := hf.1
                              rw [h6]
                              clear h6
                              have h7 : vals 7 = .int .i64 D := hf.2.1
                              rw [h7]
                              clear h7
                              clear hf
                              have t0 := kept_cell hb g0
                              have t1 := kept_cell hb g1
                              have t2 := kept_cell hb m0
                              have t3 := kept_cell hb m1
                              have zx := Nat.lt_of_lt_of_le zo hb.size
                              have zx2 := Nat.lt_of_lt_of_le zm hb.size
                              go_wp2_with (go_at_call 75; (with_reducible refine Calls.mono (kDn.out x) ?_); rintro e y ⟨rfl, rfl⟩)
                              exact ⟨rfl, rfl, Below.refl _ _, _, rfl, rfl, (fun h => absurd h (by decide))⟩
                            · intro vals x hb hf
                              simp only [fillS, List.getD_cons_succ, List.getD_cons_zero, Act.put, List.setIfInBounds_toArray, List.set_cons_zero, List.set_cons_succ]
                              have f4 : (IsV (.int .i64 up)) (vals 4) x := hf.1
                              have f8 : (IsV (.int .i64 dn)) (vals 8) x := hf.2.1
                              clear hf
                              have t0 := kept_cell hb g0
                              have t1 := kept_cell hb g1
                              have t2 := kept_cell hb m0
                              have t3 := kept_cell hb m1
                              have zx := Nat.lt_of_lt_of_le zo hb.size
                              have zx2 := Nat.lt_of_lt_of_le zm hb.size
                              rw [show vals 4 = .int .i64 up from f4, show vals 8 = .int .i64 dn from f8]
                              go_wp2
                              exact ⟨rfl, rfl, Below.refl _ _, _, rfl, rfl, (fun h => absurd h (by decide))⟩
                            · intro vals x hb hf
                              simp only [fillS, List.getD_cons_succ, List.getD_cons_zero, Act.put, List.setIfInBounds_toArray, List.set_cons_zero, List.set_cons_succ]
                              have h0 : vals 0 = spV o2 := hf.1
                              rw [h0]
                              clear h0
                              have f9 : (IsV (spV ⟨up, dn⟩)) (vals 9) x := hf.2.1
                              clear hf
                              have t0 := kept_cell hb g0
                              have t1 := kept_cell hb g1
                              have t2 := kept_cell hb m0
                              have t3 := kept_cell hb m1
                              have zx := Nat.lt_of_lt_of_le zo hb.size
                              have zx2 := Nat.lt_of_lt_of_le zm hb.size
                              rw [show vals 9 = spV ⟨up, dn⟩ from f9]
                              go_wp2_with (go_at_call 65; (with_reducible refine Calls.mono (kM.out x) ?_); rintro e y ⟨rfl, hB⟩)
                              exact ⟨rfl, rfl, hB, _, rfl, rfl, (fun h => absurd h (by decide))⟩
                          intro vals x hb hf hp
                          have hrange : List.range 11 = [0, 1, 2, 3, 4, 5, 6, 7, 8, 9, 10] := by rfl
                          rw [hrange]
                          simp only [fillS, List.getD_cons_succ, List.getD_cons_zero, Act.put, List.setIfInBounds_toArray, List.set_cons_zero, List.set_cons_succ]
                          have h0 : vals 0 = spV o2 := hf 0 (by omega)
                          have h1 : vals 1 = .pointer (some ⟨U.heap.size, 0, none⟩) := hf 1 (by omega)
                          have h2 : vals 2 = .int .i64 ml := hf 2 (by omega)
                          have h3 : vals 3 = .int .i64 D := hf 3 (by omega)
                          have f4 : (IsV (.int .i64 up)) (vals 4) x := hf 4 (by omega)
                          have h5 : vals 5 = .pointer (some ⟨U.heap.size, 1, none⟩) := hf 5 (by omega)
                          have h6 : vals 6 = .int .i64 mh := hf 6 (by omega)
                          have h7 : vals 7 = .int .i64 D := hf 7 (by omega)
                          have f8 : (IsV (.int .i64 dn)) (vals 8) x := hf 8 (by omega)
                          have f9 : (IsV (spV ⟨up, dn⟩)) (vals 9) x := hf 9 (by omega)
                          have f10 : (IsV (spV s1)) (vals 10) x := hf 10 (by omega)
                          rw [h0, h1, h2, h3, h5, h6, h7]
                          clear h0 h1 h2 h3 h5 h6 h7 hf hp hrange
                          simp only [List.drop_succ_cons, List.drop_zero]
                          rw [show vals 10 = spV s1 from f10]
                          clear f4 f8 f9 f10 g0 g1 m0 m1 zo zm kU kDn kM
                          have hSx := Lib.hid (hSM.out.mono hb)
                          have eax := Lib.hid ((set2_other (n := m) (i := 0) (j := 1) (.int .i64 s1.lo) (.int .i64 s1.hi) (show p ≠ m by omega)).trans (kept_block hb eaM.out))
                          have ecx := Lib.hid ((set2_other (n := m) (i := 0) (j := 1) (.int .i64 s1.lo) (.int .i64 s1.hi) (show q ≠ m by omega)).trans (kept_block hb ecM.out))
                          have hqx : Hid (q < x.heap.size) := Lib.hid (Nat.lt_of_lt_of_le hqM.out hb.size)
                          obtain ⟨g0, g1⟩ := rc2 hSx.out.out
                          obtain ⟨o0, o1⟩ := rf2 hSx.out.out
                          have zo := (Array.getElem?_eq_some_iff.1 hSx.out.out).1
                          go_wp2
                          refine OnlyN.mk ?_
                          go_wp2
                          first | exact ⟨⟨r + 1, by omega, by first | rfl | rw [hDe.out], by go_num, _, hnx.out, hSx.out.set hmw, eax.out, by rw [hc2.out]; exact ecx.out, by simp only [World.setCell, Array.size_modify]; exact hqx.out⟩, by simp [intOf]; omega⟩ | (refine ⟨?_, by simp [intOf]; omega⟩; (repeat apply Exists.intro); refine and_comm.1 ⟨rfl, ?_⟩; exact ⟨r + 1, by omega, by first | rfl | rw [hDe.out], by go_num, _, hnx.out, hSx.out.set hmw, eax.out, by rw [hc2.out]; exact ecx.out, by simp only [World.setCell, Array.size_modify]; exact hqx.out⟩)
                · have hrn2 : i + r = b.flows.length := by omega
                  have hno2 : ¬ ((i + r : Nat) : Int) < (b.flows.length : Int) := by omega
                  have hon : Hid (b.rsOut z since (i + 1) = some o2) := Lib.hid (by rw [hrow.out, hri.out, show b.flows.length - i = r by omega]; exact hin.out)
                  obtain ⟨q0, q1, q2⟩ := rc3 hS2.bk
                  have zb := (Array.getElem?_eq_some_iff.1 hS2.bk).1
                  have hS3 := Lib.hid hS2
                  have hsz3 : Hid (m + 2 ≤ wr.heap.size) := Lib.hid (by omega)
                  clear hrow hri hS2 ea2 ec2
                  go_wp2
                  exact ⟨⟨i + 1, by omega, by go_num, o2, hon.out, hS3.out, hsz3.out⟩, by simp [intOf]; omega⟩
        · obtain rfl : i = b.flows.length + 1 := by omega
          have hnf : (((b.flows.length + 1 : Nat) : Int) - 1) = (b.flows.length : Int) := by omega
          have hr := Lib.hid (rsR_some hoth.out ho'.out)
          obtain ⟨u0, u1⟩ := rc2 hS.out
          obtain ⟨c0, c1⟩ := rc2 hS.re
          obtain ⟨o0, o1⟩ := rf2 hS.re
          have zo := (Array.getElem?_eq_some_iff.1 hS.out).1
          have zr := (Array.getElem?_eq_some_iff.1 hS.re).1
          rw [hnf]
          clear hS
          go_wp2
          go_region
          go_wp2
          obtain ⟨c4, c5⟩ := rc2 (set2 hS'.out.re (.int .i64 o.lo) (.int .i64 o.hi))
          refine bodyPost_ret (v := .tuple #[spV o, .bool (decide (o.lo ≤ o.hi))]) (by simp [results, Try.results48, go_sem, c4, c5]) rfl ⟨by rw [hr.out], ?_⟩
          exact (hS'.out.bel.trans (below_set2 (n := w.heap.size + 1) (i := 0) (j := 1) (.int .i64 o.lo) (.int .i64 o.hi) (by omega))).drew
end Go.Proofs.Ytddmfkhmhdddeaa
