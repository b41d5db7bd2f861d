/- Walks: the least blame (the reference). -/
import Derived.Test.YtddmfkhmhdddeaaRSe
import Derived.Test.YtddmfkhmhdddeaaRWi
import Derived.Test.YtddmfkhmhdddeaaRFo
import Derived.Test.YtddmfkhmhdddeaaBoo
import Derived.Deep.Cut
set_option linter.unusedVariables false
set_option linter.unusedSimpArgs false
namespace Lk
theorem find_at {P : List Nat → Bool} {L : List (List Nat)} {i : Nat} (hi : i < L.length) (hP : P (lsN L i) = true) (hb : ∀ j, j < i → P (lsN L j) = false) : L.find? P = some (lsN L i) := by
  have e : lsN L i = L[i] := by simp [lsN, hi]
  have h : L = L.take i ++ L[i] :: L.drop (i + 1) := by
    rw [List.getElem_cons_drop hi]; exact (List.take_append_drop i L).symm
  have hn : (L.take i).find? P = none := by
    rw [List.find?_eq_none]
    intro x hx
    obtain ⟨j, hj, rfl⟩ := List.getElem_of_mem hx
    rw [List.length_take] at hj
    have h2 := hb j (by omega)
    have e2 : lsN L j = (L.take i)[j]'(by rw [List.length_take]; omega) := by simp [lsN, show j < L.length by omega]
    rw [e2] at h2
    rw [h2]; simp
  rw [e] at hP ⊢
  conv => lhs; rw [h]
  rw [List.find?_append, hn, List.find?_cons, hP]; rfl
theorem setsD_more : ∀ {d i m : Nat}, d < m → setsD d i m = []
  | 0, i, m + 1, _ => rfl
  | d + 1, i, m + 1, h => by rw [setsD, setsD_more (show d < m by omega), setsD_more (show d < m + 1 by omega)]; rfl
theorem setsD_full : ∀ (d i : Nat), setsD d i d = [List.range' i d]
  | 0, i => rfl
  | d + 1, i => by rw [setsD, setsD_full d (i + 1), setsD_more (Nat.lt_succ_self d)]; rfl
theorem blame_len_le {b : Bk} : b.blame.length ≤ b.reads.length := by
  unfold Bk.blame
  have := List.length_filter_le (b.blTo b.reads.length).ig.testBit (List.range b.reads.length)
  simpa using this
theorem hasI_cast (p : List Nat) : hasI (zL1 p) = p.contains := by
  funext k
  unfold hasI
  rw [Bool.eq_iff_iff, List.contains_iff_mem, List.contains_iff_mem, List.mem_map]
  constructor
  · rintro ⟨n, hn, e⟩
    have : n = k := by omega
    rw [← this]; exact hn
  · intro h; exact ⟨k, h, rfl⟩
/-- Where a list of so many fits that no earlier one does, it is the least blame. -/
theorem blame_at {b : Bk} (ok : Ok b) {m i : Nat} (hm : m ≤ b.blame.length) (hi : i < (setsD b.reads.length 0 m).length) (hP : b.fit (lsN (setsD b.reads.length 0 m) i) = true) (hb : ∀ j, j < i → b.fit (lsN (setsD b.reads.length 0 m) j) = false) :
    lsN (setsD b.reads.length 0 m) i = b.blame := by
  have hme : m = b.blame.length := by
    rcases Nat.lt_or_ge m b.blame.length with h | h
    · have := fit_less ok h (show lsN (setsD b.reads.length 0 m) i ∈ setsD b.reads.length 0 m by simp [lsN, hi])
      rw [this] at hP; cases hP
    · omega
  have h1 := find_at hi hP hb
  have h2 := fit_first ok
  rw [← hme] at h2
  rw [h1] at h2
  exact Option.some.inj h2
theorem blame_next {b : Bk} (ok : Ok b) {m : Nat} (hm : m ≤ b.blame.length) (hb : ∀ j, j < (setsD b.reads.length 0 m).length → b.fit (lsN (setsD b.reads.length 0 m) j) = false) : m + 1 ≤ b.blame.length := by
  rcases Nat.lt_or_ge m b.blame.length with h | h
  · exact h
  · exfalso
    have hme : m = b.blame.length := by omega
    have h2 := fit_first ok
    rw [← hme] at h2
    have hmm := List.mem_of_find?_eq_some h2
    have hf := List.find?_some h2
    obtain ⟨j, hj, e⟩ := List.getElem_of_mem hmm
    have := hb j hj
    have e2 : lsN (setsD b.reads.length 0 m) j = b.blame := by simp [lsN, hj, e]
    rw [e2, hf] at this; cases this
theorem blame_end {b : Bk} (ok : Ok b) (h : b.reads.length ≤ b.blame.length) : lsN (setsD b.reads.length 0 b.reads.length) 0 = b.blame := by
  have he : b.blame.length = b.reads.length := Nat.le_antisymm blame_len_le h
  have h2 := fit_first ok
  rw [he, setsD_full, List.find?_cons] at h2
  rw [setsD_full]
  split at h2
  · exact Option.some.inj h2
  · cases h2
end Lk
namespace Go.Proofs.Ytddmfkhmhdddeaa
open Go.RowKit Go.Sd Lk

/-- What ref.Forward is to do (its walk is still to come). -/
def FwdOk (b : Bk) (g : Gs) (fv wv rv : Value) : Prop := ∀ (z : Nat) (w : World), z < b.first.length → BookAt w fv wv rv b →
  Calls Try.prog 55 #[bkV fv wv rv, gsV g, .int .i64 z] w fun e w' => Below w.heap.size w w' ∧ ∃ v, e = .returned (.tuple #[v, .bool (b.zoneB g z)]) ∧ (b.zoneB g z = true → SpsAt w' v ((List.range b.flows.length).map fun d => b.fwd g z (d + 1)))

set_option maxRecDepth 100000 in
set_option maxHeartbeats 4000000 in
theorem refAgree (fv wv rv : Value) (b : Bk) (x : Gs) (w : World) (hb : BookAt w fv wv rv b) (hF : FwdOk b x fv wv rv) :
    Calls Try.prog 22 #[bkV fv wv rv, gsV x] w fun e w' => e = .returned (.bool (b.agreeB x)) ∧ Below w.heap.size w w' := by
  obtain ⟨W, hW⟩ : ∃ W, (w.alloc (bkA fv wv rv)).alloc (gsO x) = W := ⟨_, rfl⟩
  obtain ⟨e0, e1, s0, b0⟩ := two_new hW
  obtain ⟨q0, q1, q2⟩ := rc3 e0
  have hE := Lib.hid e0
  have hG := Lib.hid e1
  have hBk := Lib.hid (hb.mono b0)
  have hFw := Lib.hid hF
  obtain ⟨fa, fc, rfl, hfm, -⟩ := hb.first.form
  have hBW := Lib.hid b0
  clear hb hF
  go_enter Try.func22, Try.ntmps22
  go_wp2
  clear q0 q1 q2 e0 e1 b0 s0
  go_loopw [5] (fun i wr => ∃ g : Grow W, wr = g.x ∧ ∃ k : Nat, k ≤ b.first.length ∧ i = .int .i64 k ∧ Hid (∀ j, j < k → b.zoneB x j = true)) (fun i _ => b.first.length - (intOf i).toNat)
  case atStart => exact ⟨Grow.self W, rfl, 0, Nat.zero_le _, rfl, fun j hj => absurd hj (Nat.not_lt_zero _)⟩
  case round =>
    obtain ⟨g, rfl, k, hk, rfl, hH⟩ := hrel
    obtain ⟨U, hU⟩ : ∃ U, g.x = U := ⟨_, rfl⟩
    have hBU : Below W.heap.size W U := by rw [← hU]; exact g.h
    rw [hU]
    clear hU g
    obtain ⟨q0, q1, q2⟩ := rc3 (kept_block hBU hE.out)
    obtain ⟨g0, g1, g2⟩ := rc3 (kept_block hBU hG.out)
    have zU := (Array.getElem?_eq_some_iff.1 (kept_block hBU hE.out)).1
    have zU2 := (Array.getElem?_eq_some_iff.1 (kept_block hBU hG.out)).1
    by_cases hlt : k < b.first.length
    · have hki : (k : Int) < (b.first.length : Int) := by omega
      have kF := hFw.out k U hlt (hBk.out.mono hBU)
      replace hBU := Lib.hid hBU
      cases hs : b.zoneB x k
      · have hr := Lib.hid (show b.agreeB x = false by rw [Bk.agreeB]; exact all_no (by simpa using hlt) (by simpa using hs))
        rw [hs] at kF
        replace kF := Lib.hid kF
        clear hs hH
        go_wp2_with (go_at_call 55; (with_reducible refine Calls.mono kF.out ?_); rintro e y ⟨hB2, v, rfl, -⟩)
        go_ret
        exact ⟨by rw [hr.out]; rfl, below_tr hBW.out (below_tr hBU.out hB2)⟩
      · have hH2 := Lib.hid (upto_succ (P := fun j => b.zoneB x j = true) hH.out hs)
        rw [hs] at kF
        replace kF := Lib.hid kF
        clear hs hH
        go_wp2_with (go_at_call 55; (with_reducible refine Calls.mono kF.out ?_); rintro e y ⟨hB2, v, rfl, -⟩)
        exact ⟨⟨⟨y, below_tr hBU.out hB2⟩, rfl, k + 1, by omega, by go_num, hH2⟩, by simp [intOf]; omega⟩
    · obtain rfl : k = b.first.length := by omega
      have hr := Lib.hid (show b.agreeB x = true by rw [Bk.agreeB]; exact all_to fun j hj => by simpa using hH.out j (by simpa using hj))
      go_wp2
      go_ret
      exact ⟨by rw [hr.out]; rfl, below_tr hBW.out hBU⟩

theorem fwdOkB {b : Bk} {g : Gs} (fv wv rv : Value) (ok : Ok b) (hg : b.gsB g = true) : FwdOk b g fv wv rv := by
  intro z w hz hb
  refine (refForward fv wv rv b g z w hb ok hg hz).mono ?_
  rintro e w' ⟨hB, ⟨h, a, cap, rfl, ho⟩ | ⟨h, rfl⟩⟩
  · exact ⟨hB, _, by rw [h], fun _ => ho.sps⟩
  · exact ⟨hB, _, by rw [h], fun h' => by rw [h] at h'; cases h'⟩
/-- A book without some readings, as a value. -/
def WoIs (fv wv : Value) (c : Bk) : Value → World → Prop := fun v x => ∃ rv, v = bkV fv wv rv ∧ BookAt x fv wv rv c
theorem pers_wo (fv wv : Value) (c : Bk) : Pers (WoIs fv wv c) := fun v w w' hb h => by
  obtain ⟨rv, h1, h2⟩ := h
  exact ⟨rv, h1, h2.mono hb⟩

set_option maxRecDepth 100000 in
set_option maxHeartbeats 4000000 in
theorem refBlame (fv wv rv : Value) (b : Bk) (w : World) (hb : BookAt w fv wv rv b) (ok : Ok b) (hn : b.reads.length ≤ 8) :
    Calls Try.prog 27 #[bkV fv wv rv] w fun e w' => Below w.heap.size w w' ∧ ∃ v, e = .returned v ∧ IntsAt w' v (zL1 b.blame) := by
  obtain ⟨W, hW⟩ : ∃ W, w.alloc (bkA fv wv rv) = W := ⟨_, rfl⟩
  obtain ⟨e0, b0, s0⟩ := boxed hW
  have hE0 := Lib.hid e0
  have hbW := Lib.hid (hb.mono b0)
  have hBW := Lib.hid b0
  have hokh := Lib.hid ok
  obtain ⟨fa, fc, rfl, hfm, -⟩ := hb.first.form
  obtain ⟨wa, ww, rfl, hwm, -⟩ := hb.flows.form
  obtain ⟨ra, rc, rfl, hrm, -⟩ := hb.reads.form
  obtain ⟨q0, q1, q2⟩ := rc3 e0
  have z0 := (Array.getElem?_eq_some_iff.1 e0).1
  have hbl : Hid (b.blame.length ≤ b.reads.length) := Lib.hid blame_len_le
  have kW : Hid (∀ X lv p, Below W.heap.size W X → IntsAt X lv (zL1 p) → Calls Try.prog 41 #[bkV (.slice fa b.first.length fc) (.slice wa b.flows.length ww) (.slice ra b.reads.length rc), lv] X fun e w' => ∃ v, e = .returned (bkV (.slice fa b.first.length fc) (.slice wa b.flows.length ww) v) ∧ Below X.heap.size X w' ∧ BookAt w' (.slice fa b.first.length fc) (.slice wa b.flows.length ww) v (b.without (hasI (zL1 p)))) := Lib.hid fun X lv p h hv => refWithout _ _ _ lv b _ X (hbW.out.mono h) hv (by omega)
  have kA : Hid (∀ X v p, BookAt X (.slice fa b.first.length fc) (.slice wa b.flows.length ww) v (b.without (hasI (zL1 p))) → Calls Try.prog 22 #[bkV (.slice fa b.first.length fc) (.slice wa b.flows.length ww) v, gsV noGs] X fun e w' => e = .returned (.bool (b.fit p)) ∧ Below X.heap.size X w') := Lib.hid fun X v p h => by
    have := refAgree _ _ _ _ noGs X h (fwdOkB _ _ _ (without_ok hokh.out _) agr_none)
    rw [show (b.without (hasI (zL1 p))).agreeB noGs = b.fit p by rw [hasI_cast]; rfl] at this
    exact this
  have kZ := Lib.hid (fun (m : Nat) (h : m ≤ 8) X => refSets b.reads.length m X hn h)
  clear hb b0 s0 e0 ok
  go_enter Try.func27, Try.ntmps27
  go_upto_region 1 with fail
  clear q0 q1 q2 z0 hW
  go_wp2_with fail
  go_loopw [3] (fun i wr => ∃ gg : Grow W, wr = gg.x ∧ ∃ m : Nat, m ≤ b.reads.length ∧ m ≤ b.blame.length ∧ i = .int .i64 m) (fun i _ => b.reads.length - (intOf i).toNat)
  case atStart => exact ⟨Grow.self W, rfl, 0, by omega, by omega, rfl⟩
  case round =>
    obtain ⟨gg, rfl, m, hm, hmb, rfl⟩ := hrel
    obtain ⟨U, hU⟩ : ∃ U, gg.x = U := ⟨_, rfl⟩
    have hXU : Below W.heap.size W U := by rw [← hU]; exact gg.h
    rw [hU]
    clear hU gg
    have hXUh := Lib.hid hXU
    obtain ⟨q0, q1, q2⟩ := rc3 (kept_block hXU hE0.out)
    have z0 := (Array.getElem?_eq_some_iff.1 (kept_block hXU hE0.out)).1
    by_cases hml : m < b.reads.length
    · have hmi : (m : Int) < (b.reads.length : Int) := by omega
      have hm8 : m ≤ 8 := by omega
      have hLl : (setsD b.reads.length 0 m).length ≤ 256 := Nat.le_trans (setsD_len b.reads.length 0 m) (Nat.pow_le_pow_right (by omega) hn)
      have hat := Lib.hid (fun i hi hP hb => blame_at hokh.out (m := m) (i := i) hmb hi hP hb)
      have hnx := Lib.hid (blame_next hokh.out (m := m) hmb)
      go_upto_region 5 with (go_at_call 60; (with_reducible refine Calls.mono (kZ.out _ hm8 _) ?_); rintro e w1 ⟨hB1, v1, rfl, hv1⟩)
      have hWx := Lib.hid (below_tr hXU hB1)
      obtain ⟨oa, oc, rfl, -, -⟩ := hv1.form
      rw [show (zL (setsD b.reads.length 0 m)).length = (setsD b.reads.length 0 m).length by simp] at hv1 ⊢
      have hv1' := Lib.hid hv1
      clear hv1 hB1 hXU hXUh q0 q1 q2 z0
      generalize setsD b.reads.length 0 m = L at *
      go_wp2_with fail
      go_loopw [5] (fun i wr => ∃ gg : Grow w1, wr = gg.x ∧ ∃ k : Nat, k ≤ L.length ∧ i = .int .i64 k ∧ Hid (∀ j, j < k → b.fit (lsN L j) = false)) (fun i _ => L.length - (intOf i).toNat)
      case atStart => exact ⟨Grow.self w1, rfl, 0, by omega, rfl, Lib.hid fun j hj => absurd hj (Nat.not_lt_zero _)⟩
      case round =>
        obtain ⟨gg, rfl, k, hk, rfl, hno⟩ := hrel
        obtain ⟨V, hV⟩ : ∃ V, gg.x = V := ⟨_, rfl⟩
        have hXV : Below w1.heap.size w1 V := by rw [← hV]; exact gg.h
        rw [hV]
        clear hV gg
        have hWV := Lib.hid (below_tr hWx.out hXV)
        by_cases hkl : k < L.length
        · have hki : (k : Int) < (L.length : Int) := by omega
          obtain ⟨c1, o1, k1, ev1, hv2, hw1, -, y0, hrow⟩ := list_cell (hv1'.out.mono hXV) (k := k) (by simpa using hkl)
          rw [show (zL L).length = L.length by simp] at hv2
          obtain ⟨rfl, rfl⟩ : oa = some ⟨c1, o1, none⟩ ∧ oc = k1 := by simpa using hv2
          rw [lst_zL hkl] at hrow
          obtain ⟨pa, pc, rfl, -, -⟩ := hrow.form
          obtain ⟨pn, hpn⟩ : ∃ pn, (zL1 (lsN L k)).length = pn := ⟨_, rfl⟩
          rw [hpn] at y0 hrow
          have hpnh := Lib.hid hpn
          have hrowh := Lib.hid hrow
          have hat2 := Lib.hid (hat.out k hkl)
          have hXVh := Lib.hid hXV
          clear hv2 hrow hpn
          obtain ⟨q0, q1, q2⟩ := rc3 (kept_block hWV.out hE0.out)
          have z0 := (Array.getElem?_eq_some_iff.1 (kept_block hWV.out hE0.out)).1
          generalize hpe : lsN L k = p at *
          go_wp2_with fail
          refine plain_region (by kernel_rfl) (any_region_locN 7 45 [] [24, 25, 26, 27, 28, 29, 30] [[], [], [], [1, 2], [3], [0, 4], []] [IsV (bkV (.slice fa b.first.length fc) (.slice wa b.flows.length ww) (.slice ra b.reads.length rc)), IsV (.slice (some ⟨c1, o1, none⟩) L.length oc), IsV (.int .i64 k), IsV (.pointer (some ⟨c1, o1 + k, none⟩)), IsV (.slice pa pn pc), WoIs (.slice fa b.first.length fc) (.slice wa b.flows.length ww) (b.without (hasI (zL1 p))), IsV (gsV noGs)] [] (by kernel_rfl) (by kernel_rfl) (by kernel_rfl) (by kernel_rfl) (by kernel_rfl) rfl OnlyN.panic ?_ ?_ ?_ (fun j hj => nomatch hj) ?_)
          · exact List.forall_mem_cons.2 ⟨pers_v _, List.forall_mem_cons.2 ⟨pers_v _, List.forall_mem_cons.2 ⟨pers_v _, List.forall_mem_cons.2 ⟨pers_v _, List.forall_mem_cons.2 ⟨pers_v _, List.forall_mem_cons.2 ⟨pers_wo _ _ _, List.forall_mem_cons.2 ⟨pers_v _, fun f h => nomatch h⟩⟩⟩⟩⟩⟩⟩
          · intro k hk; cases hk
          · refine ⟨?_, ?_, ?_, ?_, ?_, ?_, ?_, trivial⟩
            · intro vals x hb hf
              simp only [fillS, List.getD_cons_succ, List.getD_cons_zero, Act.put, List.setIfInBounds_toArray, List.set_cons_zero, List.set_cons_succ]
              clear hf
              have hWy := below_tr hWV.out hb
              obtain ⟨p0, p1, p2⟩ := rc3 (kept_block hWy hE0.out)
              have zw := (Array.getElem?_eq_some_iff.1 (kept_block hWy hE0.out)).1
              have ty := kept_cell hb y0
              have tz := Nat.lt_of_lt_of_le hw1 hb.size
              go_wp2
              exact ⟨rfl, rfl, Below.refl _ _, _, rfl, rfl, (fun h => absurd h (by decide))⟩
            · intro vals x hb hf
              simp only [fillS, List.getD_cons_succ, List.getD_cons_zero, Act.put, List.setIfInBounds_toArray, List.set_cons_zero, List.set_cons_succ]
              clear hf
              have hWy := below_tr hWV.out hb
              obtain ⟨p0, p1, p2⟩ := rc3 (kept_block hWy hE0.out)
              have zw := (Array.getElem?_eq_some_iff.1 (kept_block hWy hE0.out)).1
              have ty := kept_cell hb y0
              have tz := Nat.lt_of_lt_of_le hw1 hb.size
              go_wp2
              exact ⟨rfl, rfl, Below.refl _ _, _, rfl, rfl, (fun h => absurd h (by decide))⟩
            · intro vals x hb hf
              simp only [fillS, List.getD_cons_succ, List.getD_cons_zero, Act.put, List.setIfInBounds_toArray, List.set_cons_zero, List.set_cons_succ]
              clear hf
              have hWy := below_tr hWV.out hb
              obtain ⟨p0, p1, p2⟩ := rc3 (kept_block hWy hE0.out)
              have zw := (Array.getElem?_eq_some_iff.1 (kept_block hWy hE0.out)).1
              have ty := kept_cell hb y0
              have tz := Nat.lt_of_lt_of_le hw1 hb.size
              go_wp2
              exact ⟨rfl, rfl, Below.refl _ _, _, rfl, rfl, (fun h => absurd h (by decide))⟩
            · intro vals x hb hf
              simp only [fillS, List.getD_cons_succ, List.getD_cons_zero, Act.put, List.setIfInBounds_toArray, List.set_cons_zero, List.set_cons_succ]
              have h1 : vals 1 = .slice (some ⟨c1, o1, none⟩) L.length oc := hf.1
              rw [h1]
              clear h1
              have h2 : vals 2 = .int .i64 k := hf.2.1
              rw [h2]
              clear h2
              clear hf
              have hWy := below_tr hWV.out hb
              obtain ⟨p0, p1, p2⟩ := rc3 (kept_block hWy hE0.out)
              have zw := (Array.getElem?_eq_some_iff.1 (kept_block hWy hE0.out)).1
              have ty := kept_cell hb y0
              have tz := Nat.lt_of_lt_of_le hw1 hb.size
              go_wp2
              exact ⟨rfl, rfl, Below.refl _ _, _, rfl, rfl, (fun h => absurd h (by decide))⟩
            · intro vals x hb hf
              simp only [fillS, List.getD_cons_succ, List.getD_cons_zero, Act.put, List.setIfInBounds_toArray, List.set_cons_zero, List.set_cons_succ]
              have h3 : vals 3 = .pointer (some ⟨c1, o1 + k, none⟩) := hf.1
              rw [h3]
              clear h3
              clear hf
              have hWy := below_tr hWV.out hb
              obtain ⟨p0, p1, p2⟩ := rc3 (kept_block hWy hE0.out)
              have zw := (Array.getElem?_eq_some_iff.1 (kept_block hWy hE0.out)).1
              have ty := kept_cell hb y0
              have tz := Nat.lt_of_lt_of_le hw1 hb.size
              go_wp2
              exact ⟨rfl, rfl, Below.refl _ _, _, rfl, rfl, (fun h => absurd h (by decide))⟩
            · intro vals x hb hf
              simp only [fillS, List.getD_cons_succ, List.getD_cons_zero, Act.put, List.setIfInBounds_toArray, List.set_cons_zero, List.set_cons_succ]
              have h0 : vals 0 = bkV (.slice fa b.first.length fc) (.slice wa b.flows.length ww) (.slice ra b.reads.length rc) := hf.1
              rw [h0]
              clear h0
              have h4 : vals 4 = .slice pa pn pc := hf.2.1
              rw [h4]
              clear h4
              clear hf
              have hWy := below_tr hWV.out hb
              obtain ⟨p0, p1, p2⟩ := rc3 (kept_block hWy hE0.out)
              have zw := (Array.getElem?_eq_some_iff.1 (kept_block hWy hE0.out)).1
              have ty := kept_cell hb y0
              have tz := Nat.lt_of_lt_of_le hw1 hb.size
              go_wp2_with (go_at_call 41; (with_reducible refine Calls.mono (kW.out x _ p hWy (hrowh.out.mono hb)) ?_); rintro e y ⟨v9, rfl, hB, hbk9⟩)
              exact ⟨rfl, rfl, hB, _, rfl, ⟨v9, rfl, hbk9⟩, (fun h => absurd h (by decide))⟩
            · intro vals x hb hf
              simp only [fillS, List.getD_cons_succ, List.getD_cons_zero, Act.put, List.setIfInBounds_toArray, List.set_cons_zero, List.set_cons_succ]
              clear hf
              have hWy := below_tr hWV.out hb
              obtain ⟨p0, p1, p2⟩ := rc3 (kept_block hWy hE0.out)
              have zw := (Array.getElem?_eq_some_iff.1 (kept_block hWy hE0.out)).1
              have ty := kept_cell hb y0
              have tz := Nat.lt_of_lt_of_le hw1 hb.size
              go_wp2_with (go_at_call 40; (with_reducible refine Calls.mono (refNone x) ?_); rintro e y ⟨rfl, hB⟩)
              exact ⟨rfl, rfl, hB, _, rfl, rfl, (fun h => absurd h (by decide))⟩
          intro vals x hb hf hp
          have hrange : List.range 7 = [0, 1, 2, 3, 4, 5, 6] := by rfl
          rw [hrange]
          simp only [fillS, List.getD_cons_succ, List.getD_cons_zero, Act.put, List.setIfInBounds_toArray, List.set_cons_zero, List.set_cons_succ]
          have h0 : vals 0 = bkV (.slice fa b.first.length fc) (.slice wa b.flows.length ww) (.slice ra b.reads.length rc) := hf 0 (by omega)
          have h1 : vals 1 = .slice (some ⟨c1, o1, none⟩) L.length oc := hf 1 (by omega)
          have h2 : vals 2 = .int .i64 k := hf 2 (by omega)
          have h3 : vals 3 = .pointer (some ⟨c1, o1 + k, none⟩) := hf 3 (by omega)
          have h4 : vals 4 = .slice pa pn pc := hf 4 (by omega)
          have f5 : (WoIs (.slice fa b.first.length fc) (.slice wa b.flows.length ww) (b.without (hasI (zL1 p)))) (vals 5) x := hf 5 (by omega)
          have f6 : (IsV (gsV noGs)) (vals 6) x := hf 6 (by omega)
          rw [h0, h1, h2, h3, h4]
          clear h0 h1 h2 h3 h4 hf hp hrange
          simp only [List.drop_succ_cons, List.drop_zero]
          obtain ⟨v9, hv9, hbk9⟩ := f5
          rw [show vals 5 = _ from hv9, show vals 6 = gsV noGs from f6]
          have kA1 := kA.out x v9 p hbk9
          have hVx := Lib.hid hb
          have hXx := Lib.hid (below_tr hXVh.out hb)
          clear f6 hv9 hbk9
          cases hf : b.fit p
          · rw [hf] at kA1
            have kA2 := Lib.hid kA1
            have hno2 : Hid (∀ j, j < k + 1 → b.fit (lsN L j) = false) := Lib.hid fun j hj => by
              rcases Nat.lt_succ_iff_lt_or_eq.1 hj with h' | rfl
              · exact hno.out j h'
              · rw [hpe]; exact hf
            clear kA1 hno hat2 hf y0 q0 q1 q2 z0
            go_wp2_with (go_at_call 22; (with_reducible refine Calls.mono kA2.out ?_); rintro e y ⟨rfl, hBy⟩)
            refine OnlyN.mk ?_
            go_wp2_with fail
            exact ⟨⟨⟨y, below_tr hXx.out hBy⟩, rfl, k + 1, by omega, by go_num, hno2⟩, by simp [intOf]; omega⟩
          · rw [hf] at kA1
            have kA2 := Lib.hid kA1
            have hpb := Lib.hid (hat2.out hf hno.out)
            have y0x := kept_cell hVx.out y0
            have hwx := Nat.lt_of_lt_of_le hw1 hVx.out.size
            clear kA1 hno hat2 hf q0 q1 q2 z0
            go_wp2_with (go_at_call 22; (with_reducible refine Calls.mono kA2.out ?_); rintro e y ⟨rfl, hBy⟩; have y1 := kept_cell hBy y0x; have hwy := Nat.lt_of_lt_of_le hwx hBy.size)
            refine OnlyN.mk ?_
            go_wp2_with fail
            go_ret
            refine ⟨below_tr hBW.out (below_tr hWV.out (below_tr hVx.out hBy)), _, rfl, ?_⟩
            rw [← hpb.out]
            exact (hrowh.out.mono hVx.out).mono hBy
        · obtain rfl : k = L.length := by omega
          have hm1 := hnx.out hno.out
          go_wp2_with fail
          exact ⟨⟨⟨V, hWV.out⟩, rfl, m + 1, by omega, by omega, by go_num⟩, by simp [intOf]; omega⟩
    · obtain rfl : m = b.reads.length := by omega
      have hend := Lib.hid (blame_end hokh.out hmb)
      have hlen : (zL (setsD b.reads.length 0 b.reads.length)).length = 1 := by rw [setsD_full]; rfl
      have hlen' := Lib.hid hlen
      clear hlen
      go_wp2_with (go_at_call 60; (with_reducible refine Calls.mono (kZ.out _ hn _) ?_); rintro e w1 ⟨hB1, v1, rfl, hv1⟩; obtain ⟨c1, o1, k1, ev1, hv2, hw1, -, y0, hrow⟩ := list_cell hv1 (k := 0) (by rw [hlen'.out]; omega); rw [hlen'.out] at hv2; subst hv2; rw [Nat.add_zero] at y0; obtain ⟨pa, pc, hev, -, -⟩ := hrow.form; obtain ⟨pn, hpn⟩ : ∃ pn, (lstAt (zL (setsD b.reads.length 0 b.reads.length)) 0).length = pn := ⟨_, rfl⟩; rw [hpn] at hev; subst hev)
      go_ret
      refine ⟨below_tr hBW.out (below_tr hXUh.out hB1), _, rfl, ?_⟩
      rw [lst_zL (by have := hlen'.out; rw [List.length_map] at this; omega), hend.out] at hrow
      exact hrow
end Go.Proofs.Ytddmfkhmhdddeaa
