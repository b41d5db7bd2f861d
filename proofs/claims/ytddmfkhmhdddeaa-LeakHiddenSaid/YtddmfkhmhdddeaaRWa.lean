/- Walks: whether days are a watch; the error of a watch with a leak; on which day a leak is found (the reference). -/
import Derived.Test.YtddmfkhmhdddeaaFdp
import Derived.Test.YtddmfkhmhdddeaaRef
import Derived.Test.YtddmfkhmhdddeaaLoc
import Derived.Deep.Cut
set_option linter.unusedVariables false
set_option linter.unusedSimpArgs false
namespace Go.Proofs.Ytddmfkhmhdddeaa
open Go.RowKit Go.Sd Lk

set_option maxRecDepth 100000 in
set_option maxHeartbeats 4000000 in
theorem refWatch (v : Value) (l : List Dy) (w : World) (hl : DysAt w v l) : Calls Try.prog 64 #[v] w fun e w' => e = .returned (.bool (!l.any dyBad)) ∧ w = w' := by
  obtain ⟨a, cap, rfl, hlm, hx⟩ := hl.form
  have hx2 := Lib.hid hx
  clear hx hl
  go_enter Try.func64, Try.ntmps64
  go_wp2
  go_loopw [3] (fun i wr => wr = w ∧ ∃ k : Nat, k ≤ l.length ∧ i = .int .i64 k ∧ Hid (∀ j (hj : j < l.length), j < k → dyBad l[j] = false)) (fun i _ => l.length - (intOf i).toNat)
  case atStart => exact ⟨rfl, 0, Nat.zero_le _, rfl, fun j _ h => absurd h (Nat.not_lt_zero _)⟩
  case round =>
    obtain ⟨rfl, k, hk, rfl, hH⟩ := hrel
    by_cases hlt : k < l.length
    · have hki : (k : Int) < (l.length : Int) := by omega
      obtain ⟨lb, off, rfl, hlb, hx⟩ := hx2.out (by omega)
      have x0 : wr.cell? ⟨lb, off + k * 3, none⟩ = some (.int .i64 (dyAt l k).flow) := hx k 0 _ hlt rfl
      have x1 : wr.cell? ⟨lb, off + k * 3 + 1, none⟩ = some (.bool (dyAt l k).reads) := hx k 1 _ hlt rfl
      have x2 : wr.cell? ⟨lb, off + k * 3 + 2, none⟩ = some (.int .i64 (dyAt l k).content) := hx k 2 _ hlt rfl
      have hd : Hid (dyBad l[k] = (!inB (dyAt l k).flow 0 10000000 || !inB (dyAt l k).content 0 10000000 || (!(dyAt l k).reads && !decide ((dyAt l k).content = 0)))) := Lib.hid (by rw [← show dyAt l k = l[k] from by simp [dyAt, hlt]]; rfl)
      have hyes : Hid (dyBad l[k] = true → (!l.any dyBad) = false) := Lib.hid fun h => by rw [any_some hlt h]; rfl
      have hno : Hid (dyBad l[k] = false → ∀ j (hj : j < l.length), j < k + 1 → dyBad l[j] = false) := Lib.hid fun h j hj hjk => by
        rcases Nat.lt_succ_iff_lt_or_eq.1 hjk with h' | rfl
        · exact hH.out j hj h'
        · exact h
      have k1 := Lib.hid (fun X => refIn (dyAt l k).flow 0 10000000 X)
      have k2 := Lib.hid (fun X => refIn (dyAt l k).content 0 10000000 X)
      clear hx hH
      generalize dyAt l k = d at *
      obtain ⟨f, r, c⟩ := d
      simp only at x0 x1 x2 hd k1 k2
      cases h1 : inB f 0 10000000
      · rw [h1] at k1 hd
        have hr := Lib.hid (hyes.out (by rw [hd.out]; simp))
        clear hd hyes hno h1
        go_wp2_with (go_at_call 54; (with_reducible refine Calls.mono (k1.out _) ?_); rintro e y ⟨rfl, rfl⟩)
        go_ret
        exact ⟨bool_ret hr.out.symm, rfl⟩
      · rw [h1] at k1 hd
        clear h1
        cases h2 : inB c 0 10000000
        · rw [h2] at k2 hd
          have hr := Lib.hid (hyes.out (by rw [hd.out]; simp))
          clear hd hyes hno h2
          go_wp2_with (first | (go_at_call 54; (with_reducible refine Calls.mono (k1.out _) ?_); rintro e y ⟨rfl, rfl⟩) | (go_at_call 54; (with_reducible refine Calls.mono (k2.out _) ?_); rintro e y ⟨rfl, rfl⟩))
          go_ret
          exact ⟨bool_ret hr.out.symm, rfl⟩
        · rw [h2] at k2 hd
          clear h2
          cases r
          · by_cases hc : c = 0
            · subst hc
              have hn := Lib.hid (hno.out (by rw [hd.out]; simp))
              clear hd hyes hno
              go_wp2_with (first | (go_at_call 54; (with_reducible refine Calls.mono (k1.out _) ?_); rintro e y ⟨rfl, rfl⟩) | (go_at_call 54; (with_reducible refine Calls.mono (k2.out _) ?_); rintro e y ⟨rfl, rfl⟩))
              exact ⟨⟨trivial, k + 1, by omega, by go_num, hn⟩, by simp [intOf]; omega⟩
            · have hcd : decide (c = 0) = false := by simpa using hc
              have hr := Lib.hid (hyes.out (by rw [hd.out]; simp [hc]))
              clear hd hyes hno
              go_wp2_with (first | (go_at_call 54; (with_reducible refine Calls.mono (k1.out _) ?_); rintro e y ⟨rfl, rfl⟩) | (go_at_call 54; (with_reducible refine Calls.mono (k2.out _) ?_); rintro e y ⟨rfl, rfl⟩))
              go_ret
              exact ⟨bool_ret hr.out.symm, rfl⟩
          · have hn := Lib.hid (hno.out (by rw [hd.out]; simp))
            clear hd hyes hno
            go_wp2_with (first | (go_at_call 54; (with_reducible refine Calls.mono (k1.out _) ?_); rintro e y ⟨rfl, rfl⟩) | (go_at_call 54; (with_reducible refine Calls.mono (k2.out _) ?_); rintro e y ⟨rfl, rfl⟩))
            exact ⟨⟨trivial, k + 1, by omega, by go_num, hn⟩, by simp [intOf]; omega⟩
    · obtain rfl : k = l.length := by omega
      have hr : Hid ((!l.any dyBad) = true) := Lib.hid (by rw [any_none fun j hj => hH.out j hj hj]; rfl)
      clear hH
      go_wp2
      go_ret
      exact ⟨bool_ret hr.out.symm, rfl⟩

def wdE (l : List Dy) (size since : Int) : Int := if 30 < l.length then 3 else if watchB l size since = true then 0 else 2
set_option maxRecDepth 100000 in
set_option maxHeartbeats 4000000 in
theorem lawWatched (v : Value) (l : List Dy) (size since : Int) (w : World) (hl : DysAt w v l) :
    Calls Try.prog 29 #[v, .int .i64 size, .int .i64 since] w fun e w' => e = .returned (.int .i64 (wdE l size since)) ∧ w = w' := by
  have kW := refWatch v l w hl
  obtain ⟨a, cap, rfl, hlm, -⟩ := hl.form
  clear hl
  rcases Int.lt_or_le 30 (l.length : Int) with h | h
  · have hr : Hid (wdE l size since = 3) := Lib.hid (by rw [wdE, if_pos (by omega)])
    clear kW
    go_enter Try.func29, Try.ntmps29
    go_wp2
    go_ret
    exact ⟨by rw [hr.out]; rfl, rfl⟩
  · have hf : Hid (wdE l size since = if watchB l size since = true then 0 else 2) := Lib.hid (by rw [wdE, if_neg (by omega)])
    have hb : Hid (watchB l size since = (!l.any dyBad && inB size 1 10000000 && inB since 0 (l.length - 1))) := rfl
    cases hW : (!l.any dyBad)
    · rw [hW] at kW hb
      have hr : Hid (wdE l size since = 2) := Lib.hid (by rw [hf.out, hb.out]; simp)
      replace kW := Lib.hid kW
      clear hf hb hW
      go_enter Try.func29, Try.ntmps29
      go_wp2_with (go_at_call 64; (with_reducible refine Calls.mono kW.out ?_); rintro e y ⟨rfl, rfl⟩)
      go_ret
      exact ⟨by rw [hr.out]; rfl, rfl⟩
    · rw [hW] at kW hb
      replace kW := Lib.hid kW
      clear hW
      rcases Int.lt_or_le size 1 with h1 | h1 <;> rcases Int.lt_or_le 10000000 size with h2 | h2 <;> rcases Int.lt_or_le since 0 with h3 | h3 <;> rcases Int.lt_or_le since (l.length : Int) with h4 | h4
      all_goals first | (exfalso; omega) | skip
      all_goals
        obtain ⟨r, hr⟩ : ∃ r, wdE l size since = r := ⟨_, rfl⟩
        have hr2 : Hid (r = if (1 ≤ size ∧ size ≤ 10000000) ∧ (0 ≤ since ∧ since < l.length) then 0 else 2) := Lib.hid (by
          rw [← hr, hf.out, hb.out]
          congr 1
          simp only [Bool.true_and, Bool.and_eq_true, inB_iff, eq_iff_iff]
          omega)
        replace hr := Lib.hid hr
        clear hf hb
        go_enter Try.func29, Try.ntmps29
        go_wp2_with (go_at_call 64; (with_reducible refine Calls.mono kW.out ?_); rintro e y ⟨rfl, rfl⟩)
        go_ret
        refine ⟨int_ret ?_, rfl⟩
        rw [hr.out, hr2.out]
        try (split <;> omega)

theorem rf_bd {l : List Dy} {size since : Int} (ok : WOk l) (hsz : 1 ≤ size ∧ size ≤ 10000000) : ∀ k, k ≤ l.length → -1000000000 - 100000000 * (k : Int) ≤ (rfSt l size since k).2.lo ∧ (rfSt l size since k).2.lo ≤ 1000000000 + 100000000 * (k : Int) ∧ -1000000000 - 100000000 * (k : Int) ≤ (rfSt l size since k).2.hi ∧ (rfSt l size since k).2.hi ≤ 1000000000 + 100000000 * (k : Int)
  | 0, _ => by simp [rfSt]
  | k + 1, h => by
    have ih := rf_bd (since := since) ok hsz k (by omega)
    have hd := ok.day k (by omega)
    have hl : 0 ≤ leaks size since k ∧ leaks size since k ≤ 10000000 := by unfold leaks; split <;> omega
    rw [rfSt]
    push_cast
    split
    · split
      · simp only [meet, ownSp, growSp]; omega
      · simp only [ownSp]; omega
    · simp only [growSp]; omega

def rfR (l : List Dy) (size since : Int) : Int := match rfD l size since with
  | some t => (t : Int)
  | none => -1
theorem rfR_some {l : List Dy} {size since : Int} {t : Nat} (ht : t < l.length) (h : rfHit l size since t = true) (hb : ∀ u, u < t → rfHit l size since u = false) : rfR l size since = t := by
  have : rfD l size since = some t := by
    unfold rfD
    rw [List.find?_range_eq_some]
    exact ⟨h, by simpa using ht, fun j hj => by simp [hb j hj]⟩
  unfold rfR; rw [this]
theorem rfR_none {l : List Dy} {size since : Int} (hb : ∀ u, u < l.length → rfHit l size since u = false) : rfR l size since = -1 := by
  have : rfD l size since = none := by
    unfold rfD
    rw [List.find?_eq_none]
    intro u hu
    simp [hb u (by simpa using hu)]
  unfold rfR; rw [this]
set_option maxRecDepth 100000 in
set_option maxHeartbeats 4000000 in
theorem refFound (v : Value) (l : List Dy) (size since : Int) (w : World) (hl : DysAt w v l) (ok : WOk l) (hsz : 1 ≤ size ∧ size ≤ 10000000) :
    Calls Try.prog 30 #[v, .int .i64 size, .int .i64 since] w fun e w' => e = .returned (.int .i64 (rfR l size since)) ∧ Below w.heap.size w w' := by
  have hll := ok.len
  obtain ⟨a, cap, rfl, hlm, hx⟩ := hl.form
  have hx2 := Lib.hid hx
  clear hx hl
  obtain ⟨W, hW⟩ : ∃ W, w.alloc (spO ⟨0, 0⟩) = W := ⟨_, rfl⟩
  obtain ⟨e0, b0, s0⟩ := boxed hW
  have hE := Lib.hid e0
  have hBW := Lib.hid b0
  clear e0 b0 s0
  go_enter Try.func30, Try.ntmps30
  go_wp2
  go_loopw [7, 9] (fun kn i wr => ∃ k : Nat, k ≤ l.length ∧ i = .int .i64 k ∧ kn = .bool (rfSt l size since k).1 ∧ Hid (wr.heap[w.heap.size]? = some (spO (rfSt l size since k).2) ∧ Below w.heap.size w wr ∧ ∀ u, u < k → rfHit l size since u = false)) (fun _ i _ => l.length - (intOf i).toNat)
  case atStart => exact ⟨0, by omega, rfl, rfl, hE.out, hBW.out, fun u h => absurd h (by omega)⟩
  case round =>
    obtain ⟨k, hk, rfl, rfl, hH⟩ := hrel
    obtain ⟨em, hB, hbef⟩ := hH.out
    clear hH hE hBW
    replace hbef := Lib.hid hbef
    by_cases hlt : k < l.length
    · have hki : (k : Int) < (l.length : Int) := by omega
      obtain ⟨lb, off, rfl, hlb, hx⟩ := hx2.out (by omega)
      have x0 : wr.cell? ⟨lb, off + k * 3, none⟩ = some (.int .i64 (dyAt l k).flow) := kept_cell hB (hx k 0 _ hlt rfl)
      have hd := ok.day k hlt
      have hbd := rf_bd (since := since) ok hsz k (by omega)
      have hst : Hid (rfSt l size since (k + 1) = if (dyAt l k).reads then (true, if (rfSt l size since k).1 then meet (ownSp (dyAt l k).content) (growSp (rfSt l size since k).2 (dyAt l k).flow (leaks size since k)) else ownSp (dyAt l k).content)
        else ((rfSt l size since k).1, growSp (rfSt l size since k).2 (dyAt l k).flow (leaks size since k))) := rfl
      have hhit : Hid (rfHit l size since k = ((dyAt l k).reads && decide ((rfSt l size since (k + 1)).2.hi < (rfSt l size since (k + 1)).2.lo))) := rfl
      have hyes : Hid (rfHit l size since k = true → rfR l size since = k) := Lib.hid fun h => rfR_some hlt h hbef.out
      have hno : Hid (rfHit l size since k = false → ∀ u, u < k + 1 → rfHit l size since u = false) := Lib.hid fun h u hu => by
        rcases Nat.lt_succ_iff_lt_or_eq.1 hu with h' | rfl
        · exact hbef.out u h'
        · exact h
      have hlk : Hid (leaks size since k = if since ≤ k then size else 0) := rfl
      have x1w : w.cell? ⟨lb, off + k * 3 + 1, none⟩ = some (.bool (dyAt l k).reads) := hx k 1 _ hlt rfl
      have x2w : w.cell? ⟨lb, off + k * 3 + 2, none⟩ = some (.int .i64 (dyAt l k).content) := hx k 2 _ hlt rfl
      clear hx hbef hlb
      generalize hE1 : rfSt l size since (k + 1) = st1 at *
      replace hE1 := Lib.hid hE1
      generalize rfSt l size since k = st at *
      obtain ⟨kn, s⟩ := st
      generalize dyAt l k = d at *
      obtain ⟨f, r, c⟩ := d
      generalize leaks size since k = n at *
      simp only at em x0 x1w x2w hd hbd hst hhit
      obtain ⟨q0, q1⟩ := rc2 em
      have zM := (Array.getElem?_eq_some_iff.1 em).1
      go_wp2
      refine plain_region (by kernel_rfl) (any_region_locN 19 78 [] [17, 18, 19, 20, 21, 22, 23, 24, 25, 26, 27, 28, 29, 30, 31, 32, 33, 34, 35] [[], [0], [], [], [2, 3], [4], [5], [6], [1, 7], [], [9], [], [], [11, 12], [13], [14], [15], [10, 16], [8, 17]] [IsV (.pointer (some ⟨w.heap.size, 0, none⟩)), IsV (.int .i64 s.lo), IsV (.slice (some ⟨lb, off, none⟩) l.length cap), IsV (.int .i64 k), IsV (.pointer (some ⟨lb, off + k * 3, none⟩)), IsV (.pointer (some ⟨lb, off + k * 3, none⟩)), IsV (.int .i64 f), IsV (.int .i64 (2 * f)), IsV (.int .i64 (s.lo - 2 * f)), IsV (.pointer (some ⟨w.heap.size, 1, none⟩)), IsV (.int .i64 s.hi), IsV (.slice (some ⟨lb, off, none⟩) l.length cap), IsV (.int .i64 k), IsV (.pointer (some ⟨lb, off + k * 3, none⟩)), IsV (.pointer (some ⟨lb, off + k * 3, none⟩)), IsV (.int .i64 f), IsV (.int .i64 (2 * f)), IsV (.int .i64 (s.hi + 2 * f)), IsV (spV ⟨s.lo - 2 * f, s.hi + 2 * f⟩)] [] (by kernel_rfl) (by kernel_rfl) (by kernel_rfl) (by kernel_rfl) (by kernel_rfl) rfl OnlyN.panic ?_ ?_ ?_ (fun j hj => nomatch hj) ?_)
      · exact List.forall_mem_cons.2 ⟨pers_v _, List.forall_mem_cons.2 ⟨pers_v _, List.forall_mem_cons.2 ⟨pers_v _, List.forall_mem_cons.2 ⟨pers_v _, List.forall_mem_cons.2 ⟨pers_v _, List.forall_mem_cons.2 ⟨pers_v _, List.forall_mem_cons.2 ⟨pers_v _, List.forall_mem_cons.2 ⟨pers_v _, List.forall_mem_cons.2 ⟨pers_v _, List.forall_mem_cons.2 ⟨pers_v _, List.forall_mem_cons.2 ⟨pers_v _, List.forall_mem_cons.2 ⟨pers_v _, List.forall_mem_cons.2 ⟨pers_v _, List.forall_mem_cons.2 ⟨pers_v _, List.forall_mem_cons.2 ⟨pers_v _, List.forall_mem_cons.2 ⟨pers_v _, List.forall_mem_cons.2 ⟨pers_v _, List.forall_mem_cons.2 ⟨pers_v _, List.forall_mem_cons.2 ⟨pers_v _, fun f h => nomatch h⟩⟩⟩⟩⟩⟩⟩⟩⟩⟩⟩⟩⟩⟩⟩⟩⟩⟩⟩
      · intro k hk; cases hk
      · refine ⟨?_, ?_, ?_, ?_, ?_, ?_, ?_, ?_, ?_, ?_, ?_, ?_, ?_, ?_, ?_, ?_, ?_, ?_, ?_, trivial⟩
        · intro vals x hb hf
          simp only [fillS, List.getD_cons_succ, List.getD_cons_zero, Act.put, List.setIfInBounds_toArray, List.set_cons_zero, List.set_cons_succ]
          clear hf
          have u0 := kept_cell hb q0
          have u1 := kept_cell hb q1
          have ux := kept_cell hb x0
          have zx := Nat.lt_of_lt_of_le zM hb.size
          go_wp2
          exact ⟨rfl, rfl, Below.refl _ _, _, rfl, rfl, (fun h => absurd h (by decide))⟩
        · intro vals x hb hf
          simp only [fillS, List.getD_cons_succ, List.getD_cons_zero, Act.put, List.setIfInBounds_toArray, List.set_cons_zero, List.set_cons_succ]
          have h0 : vals 0 = .pointer (some ⟨w.heap.size, 0, none⟩) := hf.1
          rw [h0]
          clear h0
          clear hf
          have u0 := kept_cell hb q0
          have u1 := kept_cell hb q1
          have ux := kept_cell hb x0
          have zx := Nat.lt_of_lt_of_le zM hb.size
          go_wp2
          exact ⟨rfl, rfl, Below.refl _ _, _, rfl, rfl, (fun h => absurd h (by decide))⟩
        · intro vals x hb hf
          simp only [fillS, List.getD_cons_succ, List.getD_cons_zero, Act.put, List.setIfInBounds_toArray, List.set_cons_zero, List.set_cons_succ]
          clear hf
          have u0 := kept_cell hb q0
          have u1 := kept_cell hb q1
          have ux := kept_cell hb x0
          have zx := Nat.lt_of_lt_of_le zM hb.size
          go_wp2
          exact ⟨rfl, rfl, Below.refl _ _, _, rfl, rfl, (fun h => absurd h (by decide))⟩
        · intro vals x hb hf
          simp only [fillS, List.getD_cons_succ, List.getD_cons_zero, Act.put, List.setIfInBounds_toArray, List.set_cons_zero, List.set_cons_succ]
          clear hf
          have u0 := kept_cell hb q0
          have u1 := kept_cell hb q1
          have ux := kept_cell hb x0
          have zx := Nat.lt_of_lt_of_le zM hb.size
          go_wp2
          exact ⟨rfl, rfl, Below.refl _ _, _, rfl, rfl, (fun h => absurd h (by decide))⟩
        · intro vals x hb hf
          simp only [fillS, List.getD_cons_succ, List.getD_cons_zero, Act.put, List.setIfInBounds_toArray, List.set_cons_zero, List.set_cons_succ]
          have h2 : vals 2 = .slice (some ⟨lb, off, none⟩) l.length cap := hf.1
          rw [h2]
          clear h2
          have h3 : vals 3 = .int .i64 k := hf.2.1
          rw [h3]
          clear h3
          clear hf
          have u0 := kept_cell hb q0
          have u1 := kept_cell hb q1
          have ux := kept_cell hb x0
          have zx := Nat.lt_of_lt_of_le zM hb.size
          go_wp2
          exact ⟨rfl, rfl, Below.refl _ _, _, rfl, rfl, (fun h => absurd h (by decide))⟩
        · intro vals x hb hf
          simp only [fillS, List.getD_cons_succ, List.getD_cons_zero, Act.put, List.setIfInBounds_toArray, List.set_cons_zero, List.set_cons_succ]
          have h4 : vals 4 = .pointer (some ⟨lb, off + k * 3, none⟩) := hf.1
          rw [h4]
          clear h4
          clear hf
          have u0 := kept_cell hb q0
          have u1 := kept_cell hb q1
          have ux := kept_cell hb x0
          have zx := Nat.lt_of_lt_of_le zM hb.size
          go_wp2
          exact ⟨rfl, rfl, Below.refl _ _, _, rfl, rfl, (fun h => absurd h (by decide))⟩
        · intro vals x hb hf
          simp only [fillS, List.getD_cons_succ, List.getD_cons_zero, Act.put, List.setIfInBounds_toArray, List.set_cons_zero, List.set_cons_succ]
          have h5 : vals 5 = .pointer (some ⟨lb, off + k * 3, none⟩) := hf.1
          rw [h5]
          clear h5
          clear hf
          have u0 := kept_cell hb q0
          have u1 := kept_cell hb q1
          have ux := kept_cell hb x0
          have zx := Nat.lt_of_lt_of_le zM hb.size
          go_wp2
          exact ⟨rfl, rfl, Below.refl _ _, _, rfl, rfl, (fun h => absurd h (by decide))⟩
        · intro vals x hb hf
          simp only [fillS, List.getD_cons_succ, List.getD_cons_zero, Act.put, List.setIfInBounds_toArray, List.set_cons_zero, List.set_cons_succ]
          have h6 : vals 6 = .int .i64 f := hf.1
          rw [h6]
          clear h6
          clear hf
          have u0 := kept_cell hb q0
          have u1 := kept_cell hb q1
          have ux := kept_cell hb x0
          have zx := Nat.lt_of_lt_of_le zM hb.size
          go_wp2
          exact ⟨rfl, rfl, Below.refl _ _, _, rfl, rfl, (fun h => absurd h (by decide))⟩
        · intro vals x hb hf
          simp only [fillS, List.getD_cons_succ, List.getD_cons_zero, Act.put, List.setIfInBounds_toArray, List.set_cons_zero, List.set_cons_succ]
          have h1 : vals 1 = .int .i64 s.lo := hf.1
          rw [h1]
          clear h1
          have h7 : vals 7 = .int .i64 (2 * f) := hf.2.1
          rw [h7]
          clear h7
          clear hf
          have u0 := kept_cell hb q0
          have u1 := kept_cell hb q1
          have ux := kept_cell hb x0
          have zx := Nat.lt_of_lt_of_le zM hb.size
          go_wp2
          exact ⟨rfl, rfl, Below.refl _ _, _, rfl, rfl, (fun h => absurd h (by decide))⟩
        · intro vals x hb hf
          simp only [fillS, List.getD_cons_succ, List.getD_cons_zero, Act.put, List.setIfInBounds_toArray, List.set_cons_zero, List.set_cons_succ]
          clear hf
          have u0 := kept_cell hb q0
          have u1 := kept_cell hb q1
          have ux := kept_cell hb x0
          have zx := Nat.lt_of_lt_of_le zM hb.size
          go_wp2
          exact ⟨rfl, rfl, Below.refl _ _, _, rfl, rfl, (fun h => absurd h (by decide))⟩
        · intro vals x hb hf
          simp only [fillS, List.getD_cons_succ, List.getD_cons_zero, Act.put, List.setIfInBounds_toArray, List.set_cons_zero, List.set_cons_succ]
          have h9 : vals 9 = .pointer (some ⟨w.heap.size, 1, none⟩) := hf.1
          rw [h9]
          clear h9
          clear hf
          have u0 := kept_cell hb q0
          have u1 := kept_cell hb q1
          have ux := kept_cell hb x0
          have zx := Nat.lt_of_lt_of_le zM hb.size
          go_wp2
          exact ⟨rfl, rfl, Below.refl _ _, _, rfl, rfl, (fun h => absurd h (by decide))⟩
        · intro vals x hb hf
          simp only [fillS, List.getD_cons_succ, List.getD_cons_zero, Act.put, List.setIfInBounds_toArray, List.set_cons_zero, List.set_cons_succ]
          clear hf
          have u0 := kept_cell hb q0
          have u1 := kept_cell hb q1
          have ux := kept_cell hb x0
          have zx := Nat.lt_of_lt_of_le zM hb.size
          go_wp2
          exact ⟨rfl, rfl, Below.refl _ _, _, rfl, rfl, (fun h => absurd h (by decide))⟩
        · intro vals x hb hf
          simp only [fillS, List.getD_cons_succ, List.getD_cons_zero, Act.put, List.setIfInBounds_toArray, List.set_cons_zero, List.set_cons_succ]
          clear hf
          have u0 := kept_cell hb q0
          have u1 := kept_cell hb q1
          have ux := kept_cell hb x0
          have zx := Nat.lt_of_lt_of_le zM hb.size
          go_wp2
          exact ⟨rfl, rfl, Below.refl _ _, _, rfl, rfl, (fun h => absurd h (by decide))⟩
        · intro vals x hb hf
          simp only [fillS, List.getD_cons_succ, List.getD_cons_zero, Act.put, List.setIfInBounds_toArray, List.set_cons_zero, List.set_cons_succ]
          have h11 : vals 11 = .slice (some ⟨lb, off, none⟩) l.length cap := hf.1
          rw [h11]
          clear h11
          have h12 : vals 12 = .int .i64 k := hf.2.1
          rw [h12]
          clear h12
          clear hf
          have u0 := kept_cell hb q0
          have u1 := kept_cell hb q1
          have ux := kept_cell hb x0
          have zx := Nat.lt_of_lt_of_le zM hb.size
          go_wp2
          exact ⟨rfl, rfl, Below.refl _ _, _, rfl, rfl, (fun h => absurd h (by decide))⟩
        · intro vals x hb hf
          simp only [fillS, List.getD_cons_succ, List.getD_cons_zero, Act.put, List.setIfInBounds_toArray, List.set_cons_zero, List.set_cons_succ]
          have h13 : vals 13 = .pointer (some ⟨lb, off + k * 3, none⟩) := hf.1
          rw [h13]
          clear h13
          clear hf
          have u0 := kept_cell hb q0
          have u1 := kept_cell hb q1
          have ux := kept_cell hb x0
          have zx := Nat.lt_of_lt_of_le zM hb.size
          go_wp2
          exact ⟨rfl, rfl, Below.refl _ _, _, rfl, rfl, (fun h => absurd h (by decide))⟩
        · intro vals x hb hf
          simp only [fillS, List.getD_cons_succ, List.getD_cons_zero, Act.put, List.setIfInBounds_toArray, List.set_cons_zero, List.set_cons_succ]
          have h14 : vals 14 = .pointer (some ⟨lb, off + k * 3, none⟩) := hf.1
          rw [h14]
          clear h14
          clear hf
          have u0 := kept_cell hb q0
          have u1 := kept_cell hb q1
          have ux := kept_cell hb x0
          have zx := Nat.lt_of_lt_of_le zM hb.size
          go_wp2
          exact ⟨rfl, rfl, Below.refl _ _, _, rfl, rfl, (fun h => absurd h (by decide))⟩
        · intro vals x hb hf
          simp only [fillS, List.getD_cons_succ, List.getD_cons_zero, Act.put, List.setIfInBounds_toArray, List.set_cons_zero, List.set_cons_succ]
          have h15 : vals 15 = .int .i64 f := hf.1
          rw [h15]
          clear h15
          clear hf
          have u0 := kept_cell hb q0
          have u1 := kept_cell hb q1
          have ux := kept_cell hb x0
          have zx := Nat.lt_of_lt_of_le zM hb.size
          go_wp2
          exact ⟨rfl, rfl, Below.refl _ _, _, rfl, rfl, (fun h => absurd h (by decide))⟩
        · intro vals x hb hf
          simp only [fillS, List.getD_cons_succ, List.getD_cons_zero, Act.put, List.setIfInBounds_toArray, List.set_cons_zero, List.set_cons_succ]
          have h10 : vals 10 = .int .i64 s.hi := hf.1
          rw [h10]
          clear h10
          have h16 : vals 16 = .int .i64 (2 * f) := hf.2.1
          rw [h16]
          clear h16
          clear hf
          have u0 := kept_cell hb q0
          have u1 := kept_cell hb q1
          have ux := kept_cell hb x0
          have zx := Nat.lt_of_lt_of_le zM hb.size
          go_wp2
          exact ⟨rfl, rfl, Below.refl _ _, _, rfl, rfl, (fun h => absurd h (by decide))⟩
        · intro vals x hb hf
          simp only [fillS, List.getD_cons_succ, List.getD_cons_zero, Act.put, List.setIfInBounds_toArray, List.set_cons_zero, List.set_cons_succ]
          have h8 : vals 8 = .int .i64 (s.lo - 2 * f) := hf.1
          rw [h8]
          clear h8
          have h17 : vals 17 = .int .i64 (s.hi + 2 * f) := hf.2.1
          rw [h17]
          clear h17
          clear hf
          have u0 := kept_cell hb q0
          have u1 := kept_cell hb q1
          have ux := kept_cell hb x0
          have zx := Nat.lt_of_lt_of_le zM hb.size
          go_wp2
          exact ⟨rfl, rfl, Below.refl _ _, _, rfl, rfl, (fun h => absurd h (by decide))⟩
      intro vals x hb hf hp
      have hrange : List.range 19 = [0, 1, 2, 3, 4, 5, 6, 7, 8, 9, 10, 11, 12, 13, 14, 15, 16, 17, 18] := by rfl
      rw [hrange]
      simp only [fillS, List.getD_cons_succ, List.getD_cons_zero, Act.put, List.setIfInBounds_toArray, List.set_cons_zero, List.set_cons_succ]
      have h0 : vals 0 = .pointer (some ⟨w.heap.size, 0, none⟩) := hf 0 (by omega)
      have h1 : vals 1 = .int .i64 s.lo := hf 1 (by omega)
      have h2 : vals 2 = .slice (some ⟨lb, off, none⟩) l.length cap := hf 2 (by omega)
      have h3 : vals 3 = .int .i64 k := hf 3 (by omega)
      have h4 : vals 4 = .pointer (some ⟨lb, off + k * 3, none⟩) := hf 4 (by omega)
      have h5 : vals 5 = .pointer (some ⟨lb, off + k * 3, none⟩) := hf 5 (by omega)
      have h6 : vals 6 = .int .i64 f := hf 6 (by omega)
      have h7 : vals 7 = .int .i64 (2 * f) := hf 7 (by omega)
      have h8 : vals 8 = .int .i64 (s.lo - 2 * f) := hf 8 (by omega)
      have h9 : vals 9 = .pointer (some ⟨w.heap.size, 1, none⟩) := hf 9 (by omega)
      have h10 : vals 10 = .int .i64 s.hi := hf 10 (by omega)
      have h11 : vals 11 = .slice (some ⟨lb, off, none⟩) l.length cap := hf 11 (by omega)
      have h12 : vals 12 = .int .i64 k := hf 12 (by omega)
      have h13 : vals 13 = .pointer (some ⟨lb, off + k * 3, none⟩) := hf 13 (by omega)
      have h14 : vals 14 = .pointer (some ⟨lb, off + k * 3, none⟩) := hf 14 (by omega)
      have h15 : vals 15 = .int .i64 f := hf 15 (by omega)
      have h16 : vals 16 = .int .i64 (2 * f) := hf 16 (by omega)
      have h17 : vals 17 = .int .i64 (s.hi + 2 * f) := hf 17 (by omega)
      have h18 : vals 18 = spV ⟨s.lo - 2 * f, s.hi + 2 * f⟩ := hf 18 (by omega)
      rw [h0, h1, h2, h3, h4, h5, h6, h7, h8, h9, h10, h11, h12, h13, h14, h15, h16, h17, h18]
      clear h0 h1 h2 h3 h4 h5 h6 h7 h8 h9 h10 h11 h12 h13 h14 h15 h16 h17 h18 hf hp hrange
      simp only [List.drop_succ_cons, List.drop_zero]
      replace em := kept_block hb em
      replace hB := below_tr hB hb
      replace zM := (Array.getElem?_eq_some_iff.1 em).1
      obtain ⟨q0', q1'⟩ := rc2 em
      obtain ⟨o0, o1⟩ := rf2 em
      clear q0 q1 x0
      go_upto_region 7 with fail
      refine OnlyN.mk ?_
      obtain ⟨Y, hY⟩ : ∃ Y, (x.setCell ⟨w.heap.size, 0, none⟩ (.int .i64 (s.lo - 2 * f))).setCell ⟨w.heap.size, 1, none⟩ (.int .i64 (s.hi + 2 * f)) = Y := ⟨_, rfl⟩
      have eY := set2 em (.int .i64 (s.lo - 2 * f)) (.int .i64 (s.hi + 2 * f))
      have hBY := hB.trans (below_set2 (n := w.heap.size) (i := 0) (j := 1) (.int .i64 (s.lo - 2 * f)) (.int .i64 (s.hi + 2 * f)) (Nat.le_refl _))
      rw [hY] at eY hBY ⊢
      clear hY q0' q1' o0 o1 em zM hB hb
      obtain ⟨q0, q1⟩ := rc2 eY
      obtain ⟨o0, o1⟩ := rf2 eY
      have zM := (Array.getElem?_eq_some_iff.1 eY).1
      have hgm : Hid (growSp s f n = ⟨s.lo - 2 * f + n, s.hi + 2 * f + n⟩) := rfl
      have fin : ∃ V : World, V = Y := ⟨_, rfl⟩
      clear fin
      rcases Int.lt_or_le (k : Int) since with hsk | hsk
      · have hn0 : n = 0 := by rw [hlk.out, if_neg (by omega)]
        have eM : Y.heap[w.heap.size]? = some (spO (growSp s f n)) := by rw [hgm.out, hn0, Int.add_zero, Int.add_zero]; exact eY
        go_upto_region 9 with fail
        obtain ⟨Y2, rfl⟩ : ∃ Y2 : World, Y2 = Y := ⟨_, rfl⟩
        clear hn0 eY hlk q0 q1 o0 o1 zM hsk
        have x1 := kept_cell hBY x1w
        have x2 := kept_cell hBY x2w
        have zM := (Array.getElem?_eq_some_iff.1 eM).1
        clear hgm hbd x1w
        generalize growSp s f n = m at *
        cases r
        · have hh : Hid (rfHit l size since k = false) := Lib.hid (by rw [hhit.out]; rfl)
          have hs1 : Hid (st1 = (kn, m)) := Lib.hid (by rw [hst.out]; simp)
          have hno2 := Lib.hid (hno.out hh.out)
          clear hst hhit hyes hno hh
          go_wp2
          exact ⟨⟨k + 1, by omega, by go_num, by rw [hE1.out, hs1.out], by rw [hE1.out, hs1.out]; exact eM, hBY, hno2.out⟩, by simp [intOf]; omega⟩
        · go_wp2
          refine plain_region (by kernel_rfl) (any_region_locN 14 78 [] [54, 55, 56, 57, 58, 59, 60, 61, 62, 63, 64, 65, 66, 10] [[], [], [0, 1], [2], [3], [4], [], [], [6, 7], [8], [9], [10], [5, 11], []] [IsV (.slice (some ⟨lb, off, none⟩) l.length cap), IsV (.int .i64 k), IsV (.pointer (some ⟨lb, off + k * 3, none⟩)), IsV (.pointer (some ⟨lb, off + k * 3 + 2, none⟩)), IsV (.int .i64 c), IsV (.int .i64 (-2 * c)), IsV (.slice (some ⟨lb, off, none⟩) l.length cap), IsV (.int .i64 k), IsV (.pointer (some ⟨lb, off + k * 3, none⟩)), IsV (.pointer (some ⟨lb, off + k * 3 + 2, none⟩)), IsV (.int .i64 c), IsV (.int .i64 (2 * c)), IsV (spV ⟨-2 * c, 2 * c⟩), NewAt Y2.heap.size #[.int .i64 0, .int .i64 0] 55] [13] (by kernel_rfl) (by kernel_rfl) (by kernel_rfl) (by kernel_rfl) (by kernel_rfl) rfl OnlyN.panic ?_ ?_ ?_ (fun j hj => nomatch hj) ?_)
          · exact List.forall_mem_cons.2 ⟨pers_v _, List.forall_mem_cons.2 ⟨pers_v _, List.forall_mem_cons.2 ⟨pers_v _, List.forall_mem_cons.2 ⟨pers_v _, List.forall_mem_cons.2 ⟨pers_v _, List.forall_mem_cons.2 ⟨pers_v _, List.forall_mem_cons.2 ⟨pers_v _, List.forall_mem_cons.2 ⟨pers_v _, List.forall_mem_cons.2 ⟨pers_v _, List.forall_mem_cons.2 ⟨pers_v _, List.forall_mem_cons.2 ⟨pers_v _, List.forall_mem_cons.2 ⟨pers_v _, List.forall_mem_cons.2 ⟨pers_v _, List.forall_mem_cons.2 ⟨pers_new _ _ _, fun f h => nomatch h⟩⟩⟩⟩⟩⟩⟩⟩⟩⟩⟩⟩⟩⟩
          · intro k hk u x hu
            obtain rfl : k = 13 := by simpa using hk
            exact NewAt.isNew (show NewAt _ _ _ u x from hu)
          · refine ⟨?_, ?_, ?_, ?_, ?_, ?_, ?_, ?_, ?_, ?_, ?_, ?_, ?_, ?_, trivial⟩
            · intro vals x hb hf
              simp only [fillS, List.getD_cons_succ, List.getD_cons_zero, Act.put, List.setIfInBounds_toArray, List.set_cons_zero, List.set_cons_succ]
              clear hf
              have ux := kept_cell hb x2
              go_wp2
              exact ⟨rfl, rfl, Below.refl _ _, _, rfl, rfl, (fun h => absurd h (by decide))⟩
            · intro vals x hb hf
              simp only [fillS, List.getD_cons_succ, List.getD_cons_zero, Act.put, List.setIfInBounds_toArray, List.set_cons_zero, List.set_cons_succ]
              clear hf
              have ux := kept_cell hb x2
              go_wp2
              exact ⟨rfl, rfl, Below.refl _ _, _, rfl, rfl, (fun h => absurd h (by decide))⟩
            · intro vals x hb hf
              simp only [fillS, List.getD_cons_succ, List.getD_cons_zero, Act.put, List.setIfInBounds_toArray, List.set_cons_zero, List.set_cons_succ]
              have h0 : vals 0 = .slice (some ⟨lb, off, none⟩) l.length cap := hf.1
              rw [h0]
              clear h0
              have h1 : vals 1 = .int .i64 k := hf.2.1
              rw [h1]
              clear h1
              clear hf
              have ux := kept_cell hb x2
              go_wp2
              exact ⟨rfl, rfl, Below.refl _ _, _, rfl, rfl, (fun h => absurd h (by decide))⟩
            · intro vals x hb hf
              simp only [fillS, List.getD_cons_succ, List.getD_cons_zero, Act.put, List.setIfInBounds_toArray, List.set_cons_zero, List.set_cons_succ]
              have h2 : vals 2 = .pointer (some ⟨lb, off + k * 3, none⟩) := hf.1
              rw [h2]
              clear h2
              clear hf
              have ux := kept_cell hb x2
              go_wp2
              exact ⟨rfl, rfl, Below.refl _ _, _, rfl, rfl, (fun h => absurd h (by decide))⟩
            · intro vals x hb hf
              simp only [fillS, List.getD_cons_succ, List.getD_cons_zero, Act.put, List.setIfInBounds_toArray, List.set_cons_zero, List.set_cons_succ]
              have h3 : vals 3 = .pointer (some ⟨lb, off + k * 3 + 2, none⟩) := hf.1
              rw [h3]
              clear h3
              clear hf
              have ux := kept_cell hb x2
              go_wp2
              exact ⟨rfl, rfl, Below.refl _ _, _, rfl, rfl, (fun h => absurd h (by decide))⟩
            · intro vals x hb hf
              simp only [fillS, List.getD_cons_succ, List.getD_cons_zero, Act.put, List.setIfInBounds_toArray, List.set_cons_zero, List.set_cons_succ]
              have h4 : vals 4 = .int .i64 c := hf.1
              rw [h4]
              clear h4
              clear hf
              have ux := kept_cell hb x2
              go_wp2
              exact ⟨rfl, rfl, Below.refl _ _, _, rfl, rfl, (fun h => absurd h (by decide))⟩
            · intro vals x hb hf
              simp only [fillS, List.getD_cons_succ, List.getD_cons_zero, Act.put, List.setIfInBounds_toArray, List.set_cons_zero, List.set_cons_succ]
              clear hf
              have ux := kept_cell hb x2
              go_wp2
              exact ⟨rfl, rfl, Below.refl _ _, _, rfl, rfl, (fun h => absurd h (by decide))⟩
            · intro vals x hb hf
              simp only [fillS, List.getD_cons_succ, List.getD_cons_zero, Act.put, List.setIfInBounds_toArray, List.set_cons_zero, List.set_cons_succ]
              clear hf
              have ux := kept_cell hb x2
              go_wp2
              exact ⟨rfl, rfl, Below.refl _ _, _, rfl, rfl, (fun h => absurd h (by decide))⟩
            · intro vals x hb hf
              simp only [fillS, List.getD_cons_succ, List.getD_cons_zero, Act.put, List.setIfInBounds_toArray, List.set_cons_zero, List.set_cons_succ]
              have h6 : vals 6 = .slice (some ⟨lb, off, none⟩) l.length cap := hf.1
              rw [h6]
              clear h6
              have h7 : vals 7 = .int .i64 k := hf.2.1
              rw [h7]
              clear h7
              clear hf
              have ux := kept_cell hb x2
              go_wp2
              exact ⟨rfl, rfl, Below.refl _ _, _, rfl, rfl, (fun h => absurd h (by decide))⟩
            · intro vals x hb hf
              simp only [fillS, List.getD_cons_succ, List.getD_cons_zero, Act.put, List.setIfInBounds_toArray, List.set_cons_zero, List.set_cons_succ]
              have h8 : vals 8 = .pointer (some ⟨lb, off + k * 3, none⟩) := hf.1
              rw [h8]
              clear h8
              clear hf
              have ux := kept_cell hb x2
              go_wp2
              exact ⟨rfl, rfl, Below.refl _ _, _, rfl, rfl, (fun h => absurd h (by decide))⟩
            · intro vals x hb hf
              simp only [fillS, List.getD_cons_succ, List.getD_cons_zero, Act.put, List.setIfInBounds_toArray, List.set_cons_zero, List.set_cons_succ]
              have h9 : vals 9 = .pointer (some ⟨lb, off + k * 3 + 2, none⟩) := hf.1
              rw [h9]
              clear h9
              clear hf
              have ux := kept_cell hb x2
              go_wp2
              exact ⟨rfl, rfl, Below.refl _ _, _, rfl, rfl, (fun h => absurd h (by decide))⟩
            · intro vals x hb hf
              simp only [fillS, List.getD_cons_succ, List.getD_cons_zero, Act.put, List.setIfInBounds_toArray, List.set_cons_zero, List.set_cons_succ]
              have h10 : vals 10 = .int .i64 c := hf.1
              rw [h10]
              clear h10
              clear hf
              have ux := kept_cell hb x2
              go_wp2
              exact ⟨rfl, rfl, Below.refl _ _, _, rfl, rfl, (fun h => absurd h (by decide))⟩
            · intro vals x hb hf
              simp only [fillS, List.getD_cons_succ, List.getD_cons_zero, Act.put, List.setIfInBounds_toArray, List.set_cons_zero, List.set_cons_succ]
              have h5 : vals 5 = .int .i64 (-2 * c) := hf.1
              rw [h5]
              clear h5
              have h11 : vals 11 = .int .i64 (2 * c) := hf.2.1
              rw [h11]
              clear h11
              clear hf
              have ux := kept_cell hb x2
              go_wp2
              exact ⟨rfl, rfl, Below.refl _ _, _, rfl, rfl, (fun h => absurd h (by decide))⟩
            · intro vals x hb hf
              simp only [fillS, List.getD_cons_succ, List.getD_cons_zero, Act.put, List.setIfInBounds_toArray, List.set_cons_zero, List.set_cons_succ]
              clear hf
              go_wp2
              exact ⟨rfl, rfl, (Below.refl _ _).alloc (Nat.le_refl _) _, _, rfl, ⟨_, rfl, hb.size, World.alloc_heap_new _ _⟩, fun _ => rfl⟩
          intro vals x hb hf hp
          have hrange : List.range 14 = [0, 1, 2, 3, 4, 5, 6, 7, 8, 9, 10, 11, 12, 13] := by rfl
          rw [hrange]
          simp only [fillS, List.getD_cons_succ, List.getD_cons_zero, Act.put, List.setIfInBounds_toArray, List.set_cons_zero, List.set_cons_succ]
          have h0 : vals 0 = .slice (some ⟨lb, off, none⟩) l.length cap := hf 0 (by omega)
          have h1 : vals 1 = .int .i64 k := hf 1 (by omega)
          have h2 : vals 2 = .pointer (some ⟨lb, off + k * 3, none⟩) := hf 2 (by omega)
          have h3 : vals 3 = .pointer (some ⟨lb, off + k * 3 + 2, none⟩) := hf 3 (by omega)
          have h4 : vals 4 = .int .i64 c := hf 4 (by omega)
          have h5 : vals 5 = .int .i64 (-2 * c) := hf 5 (by omega)
          have h6 : vals 6 = .slice (some ⟨lb, off, none⟩) l.length cap := hf 6 (by omega)
          have h7 : vals 7 = .int .i64 k := hf 7 (by omega)
          have h8 : vals 8 = .pointer (some ⟨lb, off + k * 3, none⟩) := hf 8 (by omega)
          have h9 : vals 9 = .pointer (some ⟨lb, off + k * 3 + 2, none⟩) := hf 9 (by omega)
          have h10 : vals 10 = .int .i64 c := hf 10 (by omega)
          have h11 : vals 11 = .int .i64 (2 * c) := hf 11 (by omega)
          have h12 : vals 12 = spV ⟨-2 * c, 2 * c⟩ := hf 12 (by omega)
          obtain ⟨blk10, hv10, l10, A10⟩ : NewAt Y2.heap.size #[.int .i64 0, .int .i64 0] 55 (vals 13) x := hf 13 (by omega)
          rw [h0, h1, h2, h3, h4, h5, h6, h7, h8, h9, h10, h11, h12, hv10]
          clear h0 h1 h2 h3 h4 h5 h6 h7 h8 h9 h10 h11 h12 hv10 hf hp hrange
          obtain ⟨p10_0, p10_1⟩ := rc2 A10
          obtain ⟨g10_0, g10_1⟩ := rf2 A10
          simp only [List.drop_succ_cons, List.drop_zero]
          obtain ⟨p0, p1⟩ := rc2 A10
          obtain ⟨o0, o1⟩ := rf2 A10
          have z10 := (Array.getElem?_eq_some_iff.1 A10).1
          go_upto_region 11 with fail
          refine OnlyN.mk ?_
          obtain ⟨Z, hZ⟩ : ∃ Z, (x.setCell ⟨blk10, 0, none⟩ (.int .i64 (-2 * c))).setCell ⟨blk10, 1, none⟩ (.int .i64 (2 * c)) = Z := ⟨_, rfl⟩
          have e10 := set2 A10 (.int .i64 (-2 * c)) (.int .i64 (2 * c))
          have hBZ : Below Y2.heap.size Y2 Z := by rw [← hZ]; exact hb.trans (below_set2 _ _ l10)
          rw [hZ] at e10 ⊢
          have h10 : w.heap.size < blk10 := by omega
          clear hZ p0 p1 o0 o1 z10 A10 hb l10 x2 x2w x1
          have eMZ := kept_block hBZ eM
          have hwZ := below_tr hBY hBZ
          clear eM zM hBY hBZ
          obtain ⟨m0, m1⟩ := rc2 eMZ
          obtain ⟨n0, n1⟩ := rf2 eMZ
          obtain ⟨p0, p1⟩ := rc2 e10
          have zM := (Array.getElem?_eq_some_iff.1 eMZ).1
          have z10 := (Array.getElem?_eq_some_iff.1 e10).1
          have hne : Hid (w.heap.size ≠ blk10) := Lib.hid (by omega)
          cases kn
          · replace hst : Hid (st1 = (true, ownSp c)) := Lib.hid (by rw [hst.out]; rfl)
            replace hhit : Hid (rfHit l size since k = decide (2 * c < -2 * c)) := Lib.hid (by rw [hhit.out, hst.out]; rfl)
            have h2 : ¬ 2 * c < -2 * c := by omega
            have h2d : decide (2 * c < -2 * c) = false := by simpa using h2
            have hno2 := Lib.hid (hno.out (by rw [hhit.out]; exact h2d))
            clear hyes hno hhit
            go_wp2
            refine ⟨⟨k + 1, by omega, by go_num, by rw [hE1.out, hst.out], ?_, hwZ.trans (below_set2 _ _ (Nat.le_refl _)), hno2.out⟩, by simp [intOf]; omega⟩
            rw [hE1.out, hst.out]
            exact set2 eMZ _ _
          · have kM := Lib.hid (fun X => refMeet ⟨-2 * c, 2 * c⟩ m X)
            replace hst : Hid (st1 = (true, meet ⟨-2 * c, 2 * c⟩ m)) := Lib.hid (by rw [hst.out]; rfl)
            generalize meet ⟨-2 * c, 2 * c⟩ m = s2 at *
            replace hhit : Hid (rfHit l size since k = decide (s2.hi < s2.lo)) := Lib.hid (by rw [hhit.out, hst.out]; rfl)
            go_upto_region 13 with (go_at_call 65; (with_reducible refine Calls.mono (kM.out _) ?_); rintro e y ⟨rfl, hB2⟩; obtain ⟨e0, e1⟩ := rf2 (kept_block hB2 e10); obtain ⟨e2, e3⟩ := rc2 (kept_block hB2 e10); have zy := (Array.getElem?_eq_some_iff.1 (kept_block hB2 e10)).1)
            obtain ⟨V, hV⟩ : ∃ V, (y.setCell ⟨blk10, 0, none⟩ (.int .i64 s2.lo)).setCell ⟨blk10, 1, none⟩ (.int .i64 s2.hi) = V := ⟨_, rfl⟩
            have e10V := set2 (kept_block hB2 e10) (.int .i64 s2.lo) (.int .i64 s2.hi)
            have eMV := (set2_other (n := blk10) (i := 0) (j := 1) (.int .i64 s2.lo) (.int .i64 s2.hi) hne.out).trans (kept_block hB2 eMZ)
            have hwV := (below_tr hwZ hB2).trans (below_set2 (n := blk10) (i := 0) (j := 1) (.int .i64 s2.lo) (.int .i64 s2.hi) (Nat.le_of_lt h10))
            rw [hV] at e10V eMV hwV ⊢
            clear hV e0 e1 e2 e3 zy m0 m1 n0 n1 p0 p1 zM z10 e10 eMZ hwZ hB2 kM
            obtain ⟨p0, p1⟩ := rc2 e10V
            obtain ⟨n0, n1⟩ := rf2 eMV
            obtain ⟨m0, m1⟩ := rc2 eMV
            have zM := (Array.getElem?_eq_some_iff.1 eMV).1
            have z10 := (Array.getElem?_eq_some_iff.1 e10V).1
            rcases Int.lt_or_le s2.hi s2.lo with h2 | h2
            · have hr := Lib.hid (hyes.out (by rw [hhit.out]; simpa using h2))
              clear hyes hno hhit
              go_wp2
              go_ret
              exact ⟨by rw [hr.out]; rfl, hwV⟩
            · have hno2 := Lib.hid (hno.out (by rw [hhit.out]; simpa using h2))
              clear hyes hno hhit
              go_wp2
              refine ⟨⟨k + 1, by omega, by go_num, by rw [hE1.out, hst.out], ?_, hwV.trans (below_set2 _ _ (Nat.le_refl _)), hno2.out⟩, by simp [intOf]; omega⟩
              rw [hE1.out, hst.out]
              exact set2 eMV _ _
      · have hn0 : size = n := by rw [hlk.out, if_pos hsk]
        clear hlk
        subst hn0
        go_upto_region 9 with fail
        obtain ⟨Y2, hY⟩ : ∃ Y2, (Y.setCell ⟨w.heap.size, 0, none⟩ (.int .i64 (s.lo - 2 * f + size))).setCell ⟨w.heap.size, 1, none⟩ (.int .i64 (s.hi + 2 * f + size)) = Y2 := ⟨_, rfl⟩
        have eM := set2 eY (.int .i64 (s.lo - 2 * f + size)) (.int .i64 (s.hi + 2 * f + size))
        have hBY := hBY.trans (below_set2 (n := w.heap.size) (i := 0) (j := 1) (.int .i64 (s.lo - 2 * f + size)) (.int .i64 (s.hi + 2 * f + size)) (Nat.le_refl _))
        rw [hY] at eM hBY ⊢
        replace eM : Y2.heap[w.heap.size]? = some (spO (growSp s f size)) := eM
        clear hY eY q0 q1 o0 o1 zM hsk
        have x1 := kept_cell hBY x1w
        have x2 := kept_cell hBY x2w
        have zM := (Array.getElem?_eq_some_iff.1 eM).1
        clear hgm hbd x1w
        generalize growSp s f size = m at *
        cases r
        · have hh : Hid (rfHit l size since k = false) := Lib.hid (by rw [hhit.out]; rfl)
          have hs1 : Hid (st1 = (kn, m)) := Lib.hid (by rw [hst.out]; simp)
          have hno2 := Lib.hid (hno.out hh.out)
          clear hst hhit hyes hno hh
          go_wp2
          exact ⟨⟨k + 1, by omega, by go_num, by rw [hE1.out, hs1.out], by rw [hE1.out, hs1.out]; exact eM, hBY, hno2.out⟩, by simp [intOf]; omega⟩
        · go_wp2
          refine plain_region (by kernel_rfl) (any_region_locN 14 78 [] [54, 55, 56, 57, 58, 59, 60, 61, 62, 63, 64, 65, 66, 10] [[], [], [0, 1], [2], [3], [4], [], [], [6, 7], [8], [9], [10], [5, 11], []] [IsV (.slice (some ⟨lb, off, none⟩) l.length cap), IsV (.int .i64 k), IsV (.pointer (some ⟨lb, off + k * 3, none⟩)), IsV (.pointer (some ⟨lb, off + k * 3 + 2, none⟩)), IsV (.int .i64 c), IsV (.int .i64 (-2 * c)), IsV (.slice (some ⟨lb, off, none⟩) l.length cap), IsV (.int .i64 k), IsV (.pointer (some ⟨lb, off + k * 3, none⟩)), IsV (.pointer (some ⟨lb, off + k * 3 + 2, none⟩)), IsV (.int .i64 c), IsV (.int .i64 (2 * c)), IsV (spV ⟨-2 * c, 2 * c⟩), NewAt Y2.heap.size #[.int .i64 0, .int .i64 0] 55] [13] (by kernel_rfl) (by kernel_rfl) (by kernel_rfl) (by kernel_rfl) (by kernel_rfl) rfl OnlyN.panic ?_ ?_ ?_ (fun j hj => nomatch hj) ?_)
          · exact List.forall_mem_cons.2 ⟨pers_v _, List.forall_mem_cons.2 ⟨pers_v _, List.forall_mem_cons.2 ⟨pers_v _, List.forall_mem_cons.2 ⟨pers_v _, List.forall_mem_cons.2 ⟨pers_v _, List.forall_mem_cons.2 ⟨pers_v _, List.forall_mem_cons.2 ⟨pers_v _, List.forall_mem_cons.2 ⟨pers_v _, List.forall_mem_cons.2 ⟨pers_v _, List.forall_mem_cons.2 ⟨pers_v _, List.forall_mem_cons.2 ⟨pers_v _, List.forall_mem_cons.2 ⟨pers_v _, List.forall_mem_cons.2 ⟨pers_v _, List.forall_mem_cons.2 ⟨pers_new _ _ _, fun f h => nomatch h⟩⟩⟩⟩⟩⟩⟩⟩⟩⟩⟩⟩⟩⟩
          · intro k hk u x hu
            obtain rfl : k = 13 := by simpa using hk
            exact NewAt.isNew (show NewAt _ _ _ u x from hu)
          · refine ⟨?_, ?_, ?_, ?_, ?_, ?_, ?_, ?_, ?_, ?_, ?_, ?_, ?_, ?_, trivial⟩
            · intro vals x hb hf
              simp only [fillS, List.getD_cons_succ, List.getD_cons_zero, Act.put, List.setIfInBounds_toArray, List.set_cons_zero, List.set_cons_succ]
              clear hf
              have ux := kept_cell hb x2
              go_wp2
              exact ⟨rfl, rfl, Below.refl _ _, _, rfl, rfl, (fun h => absurd h (by decide))⟩
            · intro vals x hb hf
              simp only [fillS, List.getD_cons_succ, List.getD_cons_zero, Act.put, List.setIfInBounds_toArray, List.set_cons_zero, List.set_cons_succ]
              clear hf
              have ux := kept_cell hb x2
              go_wp2
              exact ⟨rfl, rfl, Below.refl _ _, _, rfl, rfl, (fun h => absurd h (by decide))⟩
            · intro vals x hb hf
              simp only [fillS, List.getD_cons_succ, List.getD_cons_zero, Act.put, List.setIfInBounds_toArray, List.set_cons_zero, List.set_cons_succ]
              have h0 : vals 0 = .slice (some ⟨lb, off, none⟩) l.length cap := hf.1
              rw [h0]
              clear h0
              have h1 : vals 1 = .int .i64 k := hf.2.1
              rw [h1]
              clear h1
              clear hf
              have ux := kept_cell hb x2
              go_wp2
              exact ⟨rfl, rfl, Below.refl _ _, _, rfl, rfl, (fun h => absurd h (by decide))⟩
            · intro vals x hb hf
              simp only [fillS, List.getD_cons_succ, List.getD_cons_zero, Act.put, List.setIfInBounds_toArray, List.set_cons_zero, List.set_cons_succ]
              have h2 : vals 2 = .pointer (some ⟨lb, off + k * 3, none⟩) := hf.1
              rw [h2]
              clear h2
              clear hf
              have ux := kept_cell hb x2
              go_wp2
              exact ⟨rfl, rfl, Below.refl _ _, _, rfl, rfl, (fun h => absurd h (by decide))⟩
            · intro vals x hb hf
              simp only [fillS, List.getD_cons_succ, List.getD_cons_zero, Act.put, List.setIfInBounds_toArray, List.set_cons_zero, List.set_cons_succ]
              have h3 : vals 3 = .pointer (some ⟨lb, off + k * 3 + 2, none⟩) := hf.1
              rw [h3]
              clear h3
              clear hf
              have ux := kept_cell hb x2
              go_wp2
              exact ⟨rfl, rfl, Below.refl _ _, _, rfl, rfl, (fun h => absurd h (by decide))⟩
            · intro vals x hb hf
              simp only [fillS, List.getD_cons_succ, List.getD_cons_zero, Act.put, List.setIfInBounds_toArray, List.set_cons_zero, List.set_cons_succ]
              have h4 : vals 4 = .int .i64 c := hf.1
              rw [h4]
              clear h4
              clear hf
              have ux := kept_cell hb x2
              go_wp2
              exact ⟨rfl, rfl, Below.refl _ _, _, rfl, rfl, (fun h => absurd h (by decide))⟩
            · intro vals x hb hf
              simp only [fillS, List.getD_cons_succ, List.getD_cons_zero, Act.put, List.setIfInBounds_toArray, List.set_cons_zero, List.set_cons_succ]
              clear hf
              have ux := kept_cell hb x2
              go_wp2
              exact ⟨rfl, rfl, Below.refl _ _, _, rfl, rfl, (fun h => absurd h (by decide))⟩
            · intro vals x hb hf
              simp only [fillS, List.getD_cons_succ, List.getD_cons_zero, Act.put, List.setIfInBounds_toArray, List.set_cons_zero, List.set_cons_succ]
              clear hf
              have ux := kept_cell hb x2
              go_wp2
              exact ⟨rfl, rfl, Below.refl _ _, _, rfl, rfl, (fun h => absurd h (by decide))⟩
            · intro vals x hb hf
              simp only [fillS, List.getD_cons_succ, List.getD_cons_zero, Act.put, List.setIfInBounds_toArray, List.set_cons_zero, List.set_cons_succ]
              have h6 : vals 6 = .slice (some ⟨lb, off, none⟩) l.length cap := hf.1
              rw [h6]
              clear h6
              have h7 : vals 7 = .int .i64 k := hf.2.1
              rw [h7]
              clear h7
              clear hf
              have ux := kept_cell hb x2
              go_wp2
              exact ⟨rfl, rfl, Below.refl _ _, _, rfl, rfl, (fun h => absurd h (by decide))⟩
            · intro vals x hb hf
              simp only [fillS, List.getD_cons_succ, List.getD_cons_zero, Act.put, List.setIfInBounds_toArray, List.set_cons_zero, List.set_cons_succ]
              have h8 : vals 8 = .pointer (some ⟨lb, off + k * 3, none⟩) := hf.1
              rw [h8]
              clear h8
              clear hf
              have ux := kept_cell hb x2
              go_wp2
              exact ⟨rfl, rfl, Below.refl _ _, _, rfl, rfl, (fun h => absurd h (by decide))⟩
            · intro vals x hb hf
              simp only [fillS, List.getD_cons_succ, List.getD_cons_zero, Act.put, List.setIfInBounds_toArray, List.set_cons_zero, List.set_cons_succ]
              have h9 : vals 9 = .pointer (some ⟨lb, off + k * 3 + 2, none⟩) := hf.1
              rw [h9]
              clear h9
              clear hf
              have ux := kept_cell hb x2
              go_wp2
              exact ⟨rfl, rfl, Below.refl _ _, _, rfl, rfl, (fun h => absurd h (by decide))⟩
            · intro vals x hb hf
              simp only [fillS, List.getD_cons_succ, List.getD_cons_zero, Act.put, List.setIfInBounds_toArray, List.set_cons_zero, List.set_cons_succ]
              have h10 : vals 10 = .int .i64 c := hf.1
              rw [h10]
              clear h10
              clear hf
              have ux := kept_cell hb x2
              go_wp2
              exact ⟨rfl, rfl, Below.refl _ _, _, rfl, rfl, (fun h => absurd h (by decide))⟩
            · intro vals x hb hf
              simp only [fillS, List.getD_cons_succ, List.getD_cons_zero, Act.put, List.setIfInBounds_toArray, List.set_cons_zero, List.set_cons_succ]
              have h5 : vals 5 = .int .i64 (-2 * c) := hf.1
              rw [h5]
              clear h5
              have h11 : vals 11 = .int .i64 (2 * c) := hf.2.1
              rw [h11]
              clear h11
              clear hf
              have ux := kept_cell hb x2
              go_wp2
              exact ⟨rfl, rfl, Below.refl _ _, _, rfl, rfl, (fun h => absurd h (by decide))⟩
            · intro vals x hb hf
              simp only [fillS, List.getD_cons_succ, List.getD_cons_zero, Act.put, List.setIfInBounds_toArray, List.set_cons_zero, List.set_cons_succ]
              clear hf
              go_wp2
              exact ⟨rfl, rfl, (Below.refl _ _).alloc (Nat.le_refl _) _, _, rfl, ⟨_, rfl, hb.size, World.alloc_heap_new _ _⟩, fun _ => rfl⟩
          intro vals x hb hf hp
          have hrange : List.range 14 = [0, 1, 2, 3, 4, 5, 6, 7, 8, 9, 10, 11, 12, 13] := by rfl
          rw [hrange]
          simp only [fillS, List.getD_cons_succ, List.getD_cons_zero, Act.put, List.setIfInBounds_toArray, List.set_cons_zero, List.set_cons_succ]
          have h0 : vals 0 = .slice (some ⟨lb, off, none⟩) l.length cap := hf 0 (by omega)
          have h1 : vals 1 = .int .i64 k := hf 1 (by omega)
          have h2 : vals 2 = .pointer (some ⟨lb, off + k * 3, none⟩) := hf 2 (by omega)
          have h3 : vals 3 = .pointer (some ⟨lb, off + k * 3 + 2, none⟩) := hf 3 (by omega)
          have h4 : vals 4 = .int .i64 c := hf 4 (by omega)
          have h5 : vals 5 = .int .i64 (-2 * c) := hf 5 (by omega)
          have h6 : vals 6 = .slice (some ⟨lb, off, none⟩) l.length cap := hf 6 (by omega)
          have h7 : vals 7 = .int .i64 k := hf 7 (by omega)
          have h8 : vals 8 = .pointer (some ⟨lb, off + k * 3, none⟩) := hf 8 (by omega)
          have h9 : vals 9 = .pointer (some ⟨lb, off + k * 3 + 2, none⟩) := hf 9 (by omega)
          have h10 : vals 10 = .int .i64 c := hf 10 (by omega)
          have h11 : vals 11 = .int .i64 (2 * c) := hf 11 (by omega)
          have h12 : vals 12 = spV ⟨-2 * c, 2 * c⟩ := hf 12 (by omega)
          obtain ⟨blk10, hv10, l10, A10⟩ : NewAt Y2.heap.size #[.int .i64 0, .int .i64 0] 55 (vals 13) x := hf 13 (by omega)
          rw [h0, h1, h2, h3, h4, h5, h6, h7, h8, h9, h10, h11, h12, hv10]
          clear h0 h1 h2 h3 h4 h5 h6 h7 h8 h9 h10 h11 h12 hv10 hf hp hrange
          obtain ⟨p10_0, p10_1⟩ := rc2 A10
          obtain ⟨g10_0, g10_1⟩ := rf2 A10
          simp only [List.drop_succ_cons, List.drop_zero]
          obtain ⟨p0, p1⟩ := rc2 A10
          obtain ⟨o0, o1⟩ := rf2 A10
          have z10 := (Array.getElem?_eq_some_iff.1 A10).1
          go_upto_region 11 with fail
          refine OnlyN.mk ?_
          obtain ⟨Z, hZ⟩ : ∃ Z, (x.setCell ⟨blk10, 0, none⟩ (.int .i64 (-2 * c))).setCell ⟨blk10, 1, none⟩ (.int .i64 (2 * c)) = Z := ⟨_, rfl⟩
          have e10 := set2 A10 (.int .i64 (-2 * c)) (.int .i64 (2 * c))
          have hBZ : Below Y2.heap.size Y2 Z := by rw [← hZ]; exact hb.trans (below_set2 _ _ l10)
          rw [hZ] at e10 ⊢
          have h10 : w.heap.size < blk10 := by omega
          clear hZ p0 p1 o0 o1 z10 A10 hb l10 x2 x2w x1
          have eMZ := kept_block hBZ eM
          have hwZ := below_tr hBY hBZ
          clear eM zM hBY hBZ
          obtain ⟨m0, m1⟩ := rc2 eMZ
          obtain ⟨n0, n1⟩ := rf2 eMZ
          obtain ⟨p0, p1⟩ := rc2 e10
          have zM := (Array.getElem?_eq_some_iff.1 eMZ).1
          have z10 := (Array.getElem?_eq_some_iff.1 e10).1
          have hne : Hid (w.heap.size ≠ blk10) := Lib.hid (by omega)
          cases kn
          · replace hst : Hid (st1 = (true, ownSp c)) := Lib.hid (by rw [hst.out]; rfl)
            replace hhit : Hid (rfHit l size since k = decide (2 * c < -2 * c)) := Lib.hid (by rw [hhit.out, hst.out]; rfl)
            have h2 : ¬ 2 * c < -2 * c := by omega
            have h2d : decide (2 * c < -2 * c) = false := by simpa using h2
            have hno2 := Lib.hid (hno.out (by rw [hhit.out]; exact h2d))
            clear hyes hno hhit
            go_wp2
            refine ⟨⟨k + 1, by omega, by go_num, by rw [hE1.out, hst.out], ?_, hwZ.trans (below_set2 _ _ (Nat.le_refl _)), hno2.out⟩, by simp [intOf]; omega⟩
            rw [hE1.out, hst.out]
            exact set2 eMZ _ _
          · have kM := Lib.hid (fun X => refMeet ⟨-2 * c, 2 * c⟩ m X)
            replace hst : Hid (st1 = (true, meet ⟨-2 * c, 2 * c⟩ m)) := Lib.hid (by rw [hst.out]; rfl)
            generalize meet ⟨-2 * c, 2 * c⟩ m = s2 at *
            replace hhit : Hid (rfHit l size since k = decide (s2.hi < s2.lo)) := Lib.hid (by rw [hhit.out, hst.out]; rfl)
            go_upto_region 13 with (go_at_call 65; (with_reducible refine Calls.mono (kM.out _) ?_); rintro e y ⟨rfl, hB2⟩; obtain ⟨e0, e1⟩ := rf2 (kept_block hB2 e10); obtain ⟨e2, e3⟩ := rc2 (kept_block hB2 e10); have zy := (Array.getElem?_eq_some_iff.1 (kept_block hB2 e10)).1)
            obtain ⟨V, hV⟩ : ∃ V, (y.setCell ⟨blk10, 0, none⟩ (.int .i64 s2.lo)).setCell ⟨blk10, 1, none⟩ (.int .i64 s2.hi) = V := ⟨_, rfl⟩
            have e10V := set2 (kept_block hB2 e10) (.int .i64 s2.lo) (.int .i64 s2.hi)
            have eMV := (set2_other (n := blk10) (i := 0) (j := 1) (.int .i64 s2.lo) (.int .i64 s2.hi) hne.out).trans (kept_block hB2 eMZ)
            have hwV := (below_tr hwZ hB2).trans (below_set2 (n := blk10) (i := 0) (j := 1) (.int .i64 s2.lo) (.int .i64 s2.hi) (Nat.le_of_lt h10))
            rw [hV] at e10V eMV hwV ⊢
            clear hV e0 e1 e2 e3 zy m0 m1 n0 n1 p0 p1 zM z10 e10 eMZ hwZ hB2 kM
            obtain ⟨p0, p1⟩ := rc2 e10V
            obtain ⟨n0, n1⟩ := rf2 eMV
            obtain ⟨m0, m1⟩ := rc2 eMV
            have zM := (Array.getElem?_eq_some_iff.1 eMV).1
            have z10 := (Array.getElem?_eq_some_iff.1 e10V).1
            rcases Int.lt_or_le s2.hi s2.lo with h2 | h2
            · have hr := Lib.hid (hyes.out (by rw [hhit.out]; simpa using h2))
              clear hyes hno hhit
              go_wp2
              go_ret
              exact ⟨by rw [hr.out]; rfl, hwV⟩
            · have hno2 := Lib.hid (hno.out (by rw [hhit.out]; simpa using h2))
              clear hyes hno hhit
              go_wp2
              refine ⟨⟨k + 1, by omega, by go_num, by rw [hE1.out, hst.out], ?_, hwV.trans (below_set2 _ _ (Nat.le_refl _)), hno2.out⟩, by simp [intOf]; omega⟩
              rw [hE1.out, hst.out]
              exact set2 eMV _ _
    · obtain rfl : k = l.length := by omega
      have hr := Lib.hid (rfR_none hbef.out)
      clear hbef
      go_wp2
      go_ret
      exact ⟨by rw [hr.out]; rfl, hB⟩
end Go.Proofs.Ytddmfkhmhdddeaa
