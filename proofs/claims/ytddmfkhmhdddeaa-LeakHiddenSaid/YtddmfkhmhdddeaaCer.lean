/- Walks: whether a leak is certain; all sizes (the program's exported functions). -/
import Derived.Test.YtddmfkhmhdddeaaSus
set_option linter.unusedVariables false
set_option linter.unusedSimpArgs false
namespace Go.Proofs.Ytddmfkhmhdddeaa
open Go.RowKit Go.Sd Lk
attribute [local go_sem] Oper.semAt_some

def CertPost (b : Bk) (w : World) (e : Ending) (w' : World) : Prop := e = .returned (.tuple #[.bool (decide (b.err true = 0) && b.certB), .int .i64 (b.err true)]) ∧ Below w.heap.size w w'

set_option maxRecDepth 100000 in
set_option maxHeartbeats 4000000 in
theorem progCertain (fv wv rv : Value) (b : Bk) (w : World) (hb : BookAt w fv wv rv b) : Calls Try.prog 34 #[bkV fv wv rv] w (CertPost b w) := by
  obtain ⟨W, hW⟩ : ∃ W, (w.alloc (bkA fv wv rv)).alloc (bkO fv wv rv) = W := ⟨_, rfl⟩
  obtain ⟨e0, e1, s1, B1⟩ := two_new hW
  have hbW := Lib.hid (hb.mono B1)
  have kC := Lib.hid (progChecked fv wv rv b W hbW.out)
  have hez := Lib.hid (err_zero (b := b) (f := true))
  obtain ⟨fa, fc, rfl, hfm, -⟩ := hb.first.form
  obtain ⟨wa, wc, rfl, hwm, -⟩ := hb.flows.form
  obtain ⟨ra, rc, rfl, hrm, -⟩ := hb.reads.form
  obtain ⟨q0, q1, q2⟩ := rc3 e1
  have z1 := (Array.getElem?_eq_some_iff.1 e1).1
  have he1 := Lib.hid e1
  have hwB := Lib.hid B1
  replace hW := Lib.hid hW
  clear hb e0 e1 s1 B1
  unfold CertPost
  generalize b.err true = er at *
  by_cases h : er = 0
  · have ok := Lib.hid (ok_of (hez.out h).2.1 (hez.out h).1)
    have kS := Lib.hid (fun X (hX : Below W.heap.size W X) => progSus _ _ _ b X (hbW.out.mono hX) ok.out)
    have hce : Hid (b.certB = (!b.agreeB noGs && decide (0 < b.susL.length))) := rfl
    subst h
    cases hag : b.agreeB noGs
    · have kN : Hid (∀ x, Below W.heap.size W x → Calls Try.prog 52 #[bkV (.slice fa b.first.length fc) (.slice wa b.flows.length wc) (.slice ra b.reads.length rc), gsV noGs] x fun e w' => (∃ y, e = .returned (.tuple #[y, .bool false])) ∧ Below x.heap.size x w') :=
        Lib.hid fun x hx => (seenNo _ _ _ b noGs x (hbW.out.mono hx) ok.out agr_none hag).mono (by rintro e w' ⟨rfl, hB⟩; exact ⟨⟨_, rfl⟩, hB⟩)
      rw [hag] at hce
      clear hag
      go_enter Try.func34, Try.ntmps34
      go_wp2_with (go_at_call 57; rw [hW.out]; (with_reducible refine Calls.mono kC.out ?_); rintro e w1 ⟨rfl, hb1⟩; have hi1 := Lib.hid hb1)
      refine plain_region (by kernel_rfl) (any_region_locN 6 29 [5] [16, 17, 18, 15, 19, 20] [[], [], [0, 1], [2], [3], [3]] [IsV (bkV (.slice fa b.first.length fc) (.slice wa b.flows.length wc) (.slice ra b.reads.length rc)), IsV (gsV noGs), SeenIs false, SeenIs false, fun _ _ => True, IsV (.bool false)] [] (by kernel_rfl) (by kernel_rfl) (by kernel_rfl) (by kernel_rfl) (by kernel_rfl) rfl OnlyN.panic ?_ ?_ ?_ ?_ ?_)
      · exact List.forall_mem_cons.2 ⟨pers_v _, List.forall_mem_cons.2 ⟨pers_v _, List.forall_mem_cons.2 ⟨pers_any _, List.forall_mem_cons.2 ⟨pers_any _, List.forall_mem_cons.2 ⟨pers_any fun _ => True, List.forall_mem_cons.2 ⟨pers_v _, fun f h => nomatch h⟩⟩⟩⟩⟩⟩
      · intro k hk; cases hk
      · refine ⟨?_, ?_, ?_, ?_, ?_, ?_, trivial⟩
        · intro vals x hb hf
          simp only [fillS, List.getD_cons_succ, List.getD_cons_zero, Act.put, List.setIfInBounds_toArray, List.set_cons_zero, List.set_cons_succ]
          clear hf
          have hWx := below_tr hi1.out hb
          obtain ⟨p0, p1, p2⟩ := rc3 (kept_block hWx he1.out)
          have zw := (Array.getElem?_eq_some_iff.1 (kept_block hWx he1.out)).1
          go_wp2
          exact ⟨rfl, rfl, Below.refl _ _, _, rfl, rfl, (fun h => absurd h (by decide))⟩
        · intro vals x hb hf
          simp only [fillS, List.getD_cons_succ, List.getD_cons_zero, Act.put, List.setIfInBounds_toArray, List.set_cons_zero, List.set_cons_succ]
          clear hf
          have hWx := below_tr hi1.out hb
          obtain ⟨p0, p1, p2⟩ := rc3 (kept_block hWx he1.out)
          have zw := (Array.getElem?_eq_some_iff.1 (kept_block hWx he1.out)).1
          go_wp2_with (go_at_call 67; (with_reducible refine Calls.mono (progNothing x) ?_); rintro e y ⟨rfl, hB⟩)
          exact ⟨rfl, rfl, hB, _, rfl, rfl, (fun h => absurd h (by decide))⟩
        · intro vals x hb hf
          simp only [fillS, List.getD_cons_succ, List.getD_cons_zero, Act.put, List.setIfInBounds_toArray, List.set_cons_zero, List.set_cons_succ]
          have h0 : vals 0 = bkV (.slice fa b.first.length fc) (.slice wa b.flows.length wc) (.slice ra b.reads.length rc) := hf.1
          rw [h0]
          clear h0
          have f1 : (IsV (gsV noGs)) (vals 1) x := hf.2.1
          clear hf
          have hWx := below_tr hi1.out hb
          obtain ⟨p0, p1, p2⟩ := rc3 (kept_block hWx he1.out)
          have zw := (Array.getElem?_eq_some_iff.1 (kept_block hWx he1.out)).1
          rw [show vals 1 = gsV noGs from f1]
          go_wp2_with (go_at_call 52; (with_reducible refine Calls.mono (kN.out x hWx) ?_); rintro e y ⟨⟨v, rfl⟩, hB⟩)
          exact ⟨rfl, rfl, hB, _, rfl, ⟨v, rfl⟩, (fun h => absurd h (by decide))⟩
        · intro vals x hb hf
          simp only [fillS, List.getD_cons_succ, List.getD_cons_zero, Act.put, List.setIfInBounds_toArray, List.set_cons_zero, List.set_cons_succ]
          have f2 : (SeenIs false) (vals 2) x := hf.1
          clear hf
          have hWx := below_tr hi1.out hb
          obtain ⟨p0, p1, p2⟩ := rc3 (kept_block hWx he1.out)
          have zw := (Array.getElem?_eq_some_iff.1 (kept_block hWx he1.out)).1
          obtain ⟨v, hv⟩ := f2
          rw [hv]
          go_wp2
          exact ⟨rfl, rfl, Below.refl _ _, _, rfl, ⟨v, rfl⟩, (fun h => absurd h (by decide))⟩
        · intro vals x hb hf
          simp only [fillS, List.getD_cons_succ, List.getD_cons_zero, Act.put, List.setIfInBounds_toArray, List.set_cons_zero, List.set_cons_succ]
          have f3 : (SeenIs false) (vals 3) x := hf.1
          clear hf
          have hWx := below_tr hi1.out hb
          obtain ⟨p0, p1, p2⟩ := rc3 (kept_block hWx he1.out)
          have zw := (Array.getElem?_eq_some_iff.1 (kept_block hWx he1.out)).1
          obtain ⟨v, hv⟩ := f3
          rw [hv]
          go_wp2
          exact ⟨rfl, rfl, Below.refl _ _, _, rfl, trivial, (fun h => absurd h (by decide))⟩
        · intro vals x hb hf
          simp only [fillS, List.getD_cons_succ, List.getD_cons_zero, Act.put, List.setIfInBounds_toArray, List.set_cons_zero, List.set_cons_succ]
          have f3 : (SeenIs false) (vals 3) x := hf.1
          clear hf
          obtain ⟨v, hv⟩ := f3
          rw [hv]
          go_wp2
          exact ⟨rfl, rfl, Below.refl _ _, _, rfl, rfl, (fun h => absurd h (by decide))⟩
      · intro j hj o ho vals x hb hf
        obtain rfl : j = 5 := by simpa using hj
        obtain rfl := Option.some.inj ho
        simp only [fillS, List.getD_cons_succ, List.getD_cons_zero, Act.put, List.setIfInBounds_toArray, List.set_cons_zero, List.set_cons_succ]
        have f3 : (SeenIs false) (vals 3) x := hf.1
        obtain ⟨v, hv⟩ := f3
        rw [hv]
        exact ⟨_, .inl ⟨rfl, fun w => rfl⟩, rfl, (fun h => absurd h (by decide))⟩
      intro vals x hb hf hp
      have hrange : List.range 6 = [0, 1, 2, 3, 4, 5] := by rfl
      rw [hrange]
      simp only [fillS, List.getD_cons_succ, List.getD_cons_zero, Act.put, List.setIfInBounds_toArray, List.set_cons_zero, List.set_cons_succ]
      have h0 : vals 0 = bkV (.slice fa b.first.length fc) (.slice wa b.flows.length wc) (.slice ra b.reads.length rc) := hf 0 (by omega)
      have f1 : (IsV (gsV noGs)) (vals 1) x := hf 1 (by omega)
      have f2 : (SeenIs false) (vals 2) x := hf 2 (by omega)
      have f3 : (SeenIs false) (vals 3) x := hf 3 (by omega)
      have f4 : (fun _ _ => True) (vals 4) x := hf 4 (by omega)
      have h5 : vals 5 = .bool false := hf 5 (by omega)
      rw [h0, h5]
      clear h0 h5 hf hp hrange
      simp only [List.drop_succ_cons, List.drop_zero]
      clear f1 f2 f3 f4 q0 q1 q2
      have hWx := below_tr hi1.out hb
      obtain ⟨p0, p1, p2⟩ := rc3 (kept_block hWx he1.out)
      have zw := (Array.getElem?_eq_some_iff.1 (kept_block hWx he1.out)).1
      go_wp2
      refine OnlyN.mk ?_
      go_wp2_with (go_at_call 66; (with_reducible refine Calls.mono (kS.out _ hWx) ?_); rintro e w2 ⟨⟨a, c, rfl, hs⟩, hb2⟩)
      refine bodyPost_ret (v := .tuple #[_, _]) (by simp [results, Try.results34, go_sem]; exact ⟨rfl, rfl⟩) rfl ?_
      exact ⟨by rw [hce.out]; simp, below_tr hwB.out (below_tr hWx hb2)⟩
    · have kN : Hid (∀ x, Below W.heap.size W x → Calls Try.prog 52 #[bkV (.slice fa b.first.length fc) (.slice wa b.flows.length wc) (.slice ra b.reads.length rc), gsV noGs] x fun e w' => (∃ y, e = .returned (.tuple #[y, .bool true])) ∧ Below x.heap.size x w') :=
        Lib.hid fun x hx => (seenYes _ _ _ b noGs x (hbW.out.mono hx) ok.out agr_none hag).mono (by rintro e w' ⟨_, _, rfl, _, hB⟩; exact ⟨⟨_, rfl⟩, hB⟩)
      rw [hag] at hce
      clear hag
      go_enter Try.func34, Try.ntmps34
      go_wp2_with (go_at_call 57; rw [hW.out]; (with_reducible refine Calls.mono kC.out ?_); rintro e w1 ⟨rfl, hb1⟩; have hi1 := Lib.hid hb1)
      refine plain_region (by kernel_rfl) (any_region_locN 6 29 [5] [16, 17, 18, 15, 19, 20] [[], [], [0, 1], [2], [3], [3]] [IsV (bkV (.slice fa b.first.length fc) (.slice wa b.flows.length wc) (.slice ra b.reads.length rc)), IsV (gsV noGs), SeenIs true, SeenIs true, fun _ _ => True, IsV (.bool true)] [] (by kernel_rfl) (by kernel_rfl) (by kernel_rfl) (by kernel_rfl) (by kernel_rfl) rfl OnlyN.panic ?_ ?_ ?_ ?_ ?_)
      · exact List.forall_mem_cons.2 ⟨pers_v _, List.forall_mem_cons.2 ⟨pers_v _, List.forall_mem_cons.2 ⟨pers_any _, List.forall_mem_cons.2 ⟨pers_any _, List.forall_mem_cons.2 ⟨pers_any fun _ => True, List.forall_mem_cons.2 ⟨pers_v _, fun f h => nomatch h⟩⟩⟩⟩⟩⟩
      · intro k hk; cases hk
      · refine ⟨?_, ?_, ?_, ?_, ?_, ?_, trivial⟩
        · intro vals x hb hf
          simp only [fillS, List.getD_cons_succ, List.getD_cons_zero, Act.put, List.setIfInBounds_toArray, List.set_cons_zero, List.set_cons_succ]
          clear hf
          have hWx := below_tr hi1.out hb
          obtain ⟨p0, p1, p2⟩ := rc3 (kept_block hWx he1.out)
          have zw := (Array.getElem?_eq_some_iff.1 (kept_block hWx he1.out)).1
          go_wp2
          exact ⟨rfl, rfl, Below.refl _ _, _, rfl, rfl, (fun h => absurd h (by decide))⟩
        · intro vals x hb hf
          simp only [fillS, List.getD_cons_succ, List.getD_cons_zero, Act.put, List.setIfInBounds_toArray, List.set_cons_zero, List.set_cons_succ]
          clear hf
          have hWx := below_tr hi1.out hb
          obtain ⟨p0, p1, p2⟩ := rc3 (kept_block hWx he1.out)
          have zw := (Array.getElem?_eq_some_iff.1 (kept_block hWx he1.out)).1
          go_wp2_with (go_at_call 67; (with_reducible refine Calls.mono (progNothing x) ?_); rintro e y ⟨rfl, hB⟩)
          exact ⟨rfl, rfl, hB, _, rfl, rfl, (fun h => absurd h (by decide))⟩
        · intro vals x hb hf
          simp only [fillS, List.getD_cons_succ, List.getD_cons_zero, Act.put, List.setIfInBounds_toArray, List.set_cons_zero, List.set_cons_succ]
          have h0 : vals 0 = bkV (.slice fa b.first.length fc) (.slice wa b.flows.length wc) (.slice ra b.reads.length rc) := hf.1
          rw [h0]
          clear h0
          have f1 : (IsV (gsV noGs)) (vals 1) x := hf.2.1
          clear hf
          have hWx := below_tr hi1.out hb
          obtain ⟨p0, p1, p2⟩ := rc3 (kept_block hWx he1.out)
          have zw := (Array.getElem?_eq_some_iff.1 (kept_block hWx he1.out)).1
          rw [show vals 1 = gsV noGs from f1]
          go_wp2_with (go_at_call 52; (with_reducible refine Calls.mono (kN.out x hWx) ?_); rintro e y ⟨⟨v, rfl⟩, hB⟩)
          exact ⟨rfl, rfl, hB, _, rfl, ⟨v, rfl⟩, (fun h => absurd h (by decide))⟩
        · intro vals x hb hf
          simp only [fillS, List.getD_cons_succ, List.getD_cons_zero, Act.put, List.setIfInBounds_toArray, List.set_cons_zero, List.set_cons_succ]
          have f2 : (SeenIs true) (vals 2) x := hf.1
          clear hf
          have hWx := below_tr hi1.out hb
          obtain ⟨p0, p1, p2⟩ := rc3 (kept_block hWx he1.out)
          have zw := (Array.getElem?_eq_some_iff.1 (kept_block hWx he1.out)).1
          obtain ⟨v, hv⟩ := f2
          rw [hv]
          go_wp2
          exact ⟨rfl, rfl, Below.refl _ _, _, rfl, ⟨v, rfl⟩, (fun h => absurd h (by decide))⟩
        · intro vals x hb hf
          simp only [fillS, List.getD_cons_succ, List.getD_cons_zero, Act.put, List.setIfInBounds_toArray, List.set_cons_zero, List.set_cons_succ]
          have f3 : (SeenIs true) (vals 3) x := hf.1
          clear hf
          have hWx := below_tr hi1.out hb
          obtain ⟨p0, p1, p2⟩ := rc3 (kept_block hWx he1.out)
          have zw := (Array.getElem?_eq_some_iff.1 (kept_block hWx he1.out)).1
          obtain ⟨v, hv⟩ := f3
          rw [hv]
          go_wp2
          exact ⟨rfl, rfl, Below.refl _ _, _, rfl, trivial, (fun h => absurd h (by decide))⟩
        · intro vals x hb hf
          simp only [fillS, List.getD_cons_succ, List.getD_cons_zero, Act.put, List.setIfInBounds_toArray, List.set_cons_zero, List.set_cons_succ]
          have f3 : (SeenIs true) (vals 3) x := hf.1
          clear hf
          obtain ⟨v, hv⟩ := f3
          rw [hv]
          go_wp2
          exact ⟨rfl, rfl, Below.refl _ _, _, rfl, rfl, (fun h => absurd h (by decide))⟩
      · intro j hj o ho vals x hb hf
        obtain rfl : j = 5 := by simpa using hj
        obtain rfl := Option.some.inj ho
        simp only [fillS, List.getD_cons_succ, List.getD_cons_zero, Act.put, List.setIfInBounds_toArray, List.set_cons_zero, List.set_cons_succ]
        have f3 : (SeenIs true) (vals 3) x := hf.1
        obtain ⟨v, hv⟩ := f3
        rw [hv]
        exact ⟨_, .inl ⟨rfl, fun w => rfl⟩, rfl, (fun h => absurd h (by decide))⟩
      intro vals x hb hf hp
      have hrange : List.range 6 = [0, 1, 2, 3, 4, 5] := by rfl
      rw [hrange]
      simp only [fillS, List.getD_cons_succ, List.getD_cons_zero, Act.put, List.setIfInBounds_toArray, List.set_cons_zero, List.set_cons_succ]
      have h0 : vals 0 = bkV (.slice fa b.first.length fc) (.slice wa b.flows.length wc) (.slice ra b.reads.length rc) := hf 0 (by omega)
      have f1 : (IsV (gsV noGs)) (vals 1) x := hf 1 (by omega)
      have f2 : (SeenIs true) (vals 2) x := hf 2 (by omega)
      have f3 : (SeenIs true) (vals 3) x := hf 3 (by omega)
      have f4 : (fun _ _ => True) (vals 4) x := hf 4 (by omega)
      have h5 : vals 5 = .bool true := hf 5 (by omega)
      rw [h0, h5]
      clear h0 h5 hf hp hrange
      simp only [List.drop_succ_cons, List.drop_zero]
      clear f1 f2 f3 f4 q0 q1 q2
      have hWx := below_tr hi1.out hb
      obtain ⟨p0, p1, p2⟩ := rc3 (kept_block hWx he1.out)
      have zw := (Array.getElem?_eq_some_iff.1 (kept_block hWx he1.out)).1
      go_wp2
      refine OnlyN.mk ?_
      go_wp2
      refine bodyPost_ret (v := .tuple #[_, _]) (by simp [results, Try.results34, go_sem]; exact ⟨rfl, rfl⟩) rfl ?_
      exact ⟨by rw [hce.out]; simp, below_tr hwB.out hWx⟩
  · have hd : decide (er = 0) = false := by simpa using h
    go_enter Try.func34, Try.ntmps34
    go_wp2_with (go_at_call 57; rw [hW.out]; (with_reducible refine Calls.mono kC.out ?_); rintro e w1 ⟨rfl, hb1⟩)
    refine bodyPost_ret (v := .tuple #[_, _]) (by simp [results, Try.results34, go_sem]; exact ⟨rfl, rfl⟩) rfl ?_
    exact ⟨by simp [hd], below_tr hwB.out hb1⟩

theorem szR_err {b : Bk} {z since : Int} (h : b.err true ≠ 0) : b.szR z since = (⟨0, 0⟩, b.err true) := by unfold Bk.szR; rw [if_pos h]
theorem szR_arg {b : Bk} {z since : Int} (h : b.err true = 0) (h2 : (inB z 0 (b.first.length - 1) && inB since 0 (b.flows.length - 1)) = false) : b.szR z since = (⟨0, 0⟩, 2) := by
  unfold Bk.szR; rw [if_neg (by simp [h]), if_pos h2]
theorem szR_none {b : Bk} {z since : Int} (h : b.err true = 0) (h2 : (inB z 0 (b.first.length - 1) && inB since 0 (b.flows.length - 1)) = true) (h3 : (b.sizesK z.toNat since).hi < (b.sizesK z.toNat since).lo) : b.szR z since = (⟨0, 0⟩, 5) := by
  unfold Bk.szR; rw [if_neg (by simp [h]), if_neg (by simp [h2]), if_pos h3]
theorem szR_ok {b : Bk} {z since : Int} (h : b.err true = 0) (h2 : (inB z 0 (b.first.length - 1) && inB since 0 (b.flows.length - 1)) = true) (h3 : ¬ (b.sizesK z.toNat since).hi < (b.sizesK z.toNat since).lo) : b.szR z since = (b.sizesK z.toNat since, 0) := by
  unfold Bk.szR; rw [if_neg (by simp [h]), if_neg (by simp [h2]), if_neg h3]

set_option maxRecDepth 100000 in
set_option maxHeartbeats 4000000 in
theorem progSizes (fv wv rv : Value) (b : Bk) (z since : Int) (w : World) (hb : BookAt w fv wv rv b) :
    Calls Try.prog 44 #[bkV fv wv rv, .int .i64 z, .int .i64 since] w fun e w' => e = .returned (.tuple #[spV (b.szR z since).1, .int .i64 (b.szR z since).2]) ∧ Below w.heap.size w w' := by
  obtain ⟨W, hW⟩ : ∃ W, ((w.alloc (bkA fv wv rv)).alloc (spO ⟨0, 0⟩)).alloc (bkO fv wv rv) = W := ⟨_, rfl⟩
  obtain ⟨e0, e1, e2, s1, B1⟩ := three_new hW
  have hbW := Lib.hid (hb.mono B1)
  have kC := Lib.hid (progChecked fv wv rv b W hbW.out)
  have hez := Lib.hid (err_zero (b := b) (f := true))
  have k1 := Lib.hid (szR_err (b := b) (z := z) (since := since))
  have k2 := Lib.hid (szR_arg (b := b) (z := z) (since := since))
  have k3 := Lib.hid (szR_none (b := b) (z := z) (since := since))
  have k4 := Lib.hid (szR_ok (b := b) (z := z) (since := since))
  obtain ⟨fa, fc, rfl, hfm, -⟩ := hb.first.form
  obtain ⟨wa, wc, rfl, hwm, -⟩ := hb.flows.form
  obtain ⟨ra, rc, rfl, hrm, -⟩ := hb.reads.form
  have he1 := Lib.hid e1
  have he2 := Lib.hid e2
  have hwB := Lib.hid B1
  replace hW := Lib.hid hW
  clear hb e0 e1 e2 s1 B1
  generalize b.err true = er at *
  generalize b.szR z since = res at *
  by_cases h : er = 0
  · have ok := Lib.hid (ok_of (hez.out h).2.1 (hez.out h).1)
    subst h
    have kZ := Lib.hid (fun X => progZone (.slice wa b.flows.length wc) (.slice ra b.reads.length rc) fa b.first.length fc z X hfm)
    have kD := Lib.hid (fun X => progDay (.slice fa b.first.length fc) (.slice ra b.reads.length rc) wa b.flows.length wc since X hwm)
    cases h1 : inB z 0 (b.first.length - 1)
    · have hr := Lib.hid (k2.out rfl (by rw [h1]; rfl))
      rw [h1] at kZ
      clear k1 k2 k3 k4 h1
      go_enter Try.func44, Try.ntmps44
      go_wp2_with (first | (go_at_call 57; rw [hW.out]; (with_reducible refine Calls.mono kC.out ?_); rintro e w1 ⟨rfl, hb1⟩; have hi1 := Lib.hid hb1; obtain ⟨q0, q1, q2⟩ := rc3 (kept_block hb1 he2.out); have zq := (Array.getElem?_eq_some_iff.1 (kept_block hb1 he2.out)).1) | (go_at_call 70; (with_reducible refine Calls.mono (kZ.out _) ?_); rintro e w2 ⟨rfl, hb2⟩; have hi2 := Lib.hid (below_tr hi1.out hb2); obtain ⟨q0, q1, q2⟩ := rc3 (kept_block hi2.out he2.out); have zq := (Array.getElem?_eq_some_iff.1 (kept_block hi2.out he2.out)).1; obtain ⟨c0, c1⟩ := rc2 (kept_block hi2.out he1.out); obtain ⟨g0, g1⟩ := rf2 (kept_block hi2.out he1.out); have zr := (Array.getElem?_eq_some_iff.1 (kept_block hi2.out he1.out)).1))
      obtain ⟨n0, n1⟩ := rc2 (set2 (kept_block hi2.out he1.out) (.int .i64 (⟨0, 0⟩ : Sp).lo) (.int .i64 (⟨0, 0⟩ : Sp).hi))
      refine bodyPost_ret (v := .tuple #[spV (⟨0, 0⟩ : Sp), .int .i64 2]) (by simp [results, Try.results44, go_sem, n0, n1]) rfl ?_
      exact ⟨by rw [hr.out], (below_tr hwB.out hi2.out).trans (below_set2 _ _ (by omega))⟩
    · rw [h1] at kZ
      cases h2 : inB since 0 (b.flows.length - 1)
      · have hr := Lib.hid (k2.out rfl (by rw [h1, h2]; rfl))
        rw [h2] at kD
        clear k1 k2 k3 k4 h1 h2
        go_enter Try.func44, Try.ntmps44
        go_wp2_with (first | (go_at_call 57; rw [hW.out]; (with_reducible refine Calls.mono kC.out ?_); rintro e w1 ⟨rfl, hb1⟩; have hi1 := Lib.hid hb1; obtain ⟨q0, q1, q2⟩ := rc3 (kept_block hb1 he2.out); have zq := (Array.getElem?_eq_some_iff.1 (kept_block hb1 he2.out)).1) | (go_at_call 70; (with_reducible refine Calls.mono (kZ.out _) ?_); rintro e w2 ⟨rfl, hb2⟩; have hi2 := Lib.hid (below_tr hi1.out hb2); obtain ⟨q0, q1, q2⟩ := rc3 (kept_block hi2.out he2.out); have zq := (Array.getElem?_eq_some_iff.1 (kept_block hi2.out he2.out)).1) | (go_at_call 71; (with_reducible refine Calls.mono (kD.out _) ?_); rintro e w3 ⟨rfl, hb3⟩; have hi3 := Lib.hid (below_tr hi2.out hb3); obtain ⟨q0, q1, q2⟩ := rc3 (kept_block hi3.out he2.out); have zq := (Array.getElem?_eq_some_iff.1 (kept_block hi3.out he2.out)).1; obtain ⟨c0, c1⟩ := rc2 (kept_block hi3.out he1.out); obtain ⟨g0, g1⟩ := rf2 (kept_block hi3.out he1.out); have zr := (Array.getElem?_eq_some_iff.1 (kept_block hi3.out he1.out)).1))
        obtain ⟨n0, n1⟩ := rc2 (set2 (kept_block hi3.out he1.out) (.int .i64 (⟨0, 0⟩ : Sp).lo) (.int .i64 (⟨0, 0⟩ : Sp).hi))
        refine bodyPost_ret (v := .tuple #[spV (⟨0, 0⟩ : Sp), .int .i64 2]) (by simp [results, Try.results44, go_sem, n0, n1]) rfl ?_
        exact ⟨by rw [hr.out], (below_tr hwB.out hi3.out).trans (below_set2 _ _ (by omega))⟩
      · rw [h2] at kD
        have hin := Lib.hid (show (inB z 0 (b.first.length - 1) && inB since 0 (b.flows.length - 1)) = true by rw [h1, h2]; rfl)
        rw [inB_iff] at h1 h2
        obtain ⟨zn, hzn⟩ : ∃ k : Nat, z = k := ⟨z.toNat, by omega⟩
        subst hzn
        rw [Int.toNat_natCast] at k3 k4
        have kS := Lib.hid (fun X (hX : Below W.heap.size W X) => progSizesK _ _ _ b zn since X (hbW.out.mono hX) ok.out (by omega) (by omega))
        generalize b.sizesK zn since = s at *
        by_cases h3 : s.hi < s.lo
        · have hr := Lib.hid (k3.out rfl hin.out h3)
          clear k1 k2 k3 k4 h1 h2
          go_enter Try.func44, Try.ntmps44
          go_wp2_with (first | (go_at_call 57; rw [hW.out]; (with_reducible refine Calls.mono kC.out ?_); rintro e w1 ⟨rfl, hb1⟩; have hi1 := Lib.hid hb1; obtain ⟨q0, q1, q2⟩ := rc3 (kept_block hb1 he2.out); have zq := (Array.getElem?_eq_some_iff.1 (kept_block hb1 he2.out)).1) | (go_at_call 70; (with_reducible refine Calls.mono (kZ.out _) ?_); rintro e w2 ⟨rfl, hb2⟩; have hi2 := Lib.hid (below_tr hi1.out hb2); obtain ⟨q0, q1, q2⟩ := rc3 (kept_block hi2.out he2.out); have zq := (Array.getElem?_eq_some_iff.1 (kept_block hi2.out he2.out)).1) | (go_at_call 71; (with_reducible refine Calls.mono (kD.out _) ?_); rintro e w3 ⟨rfl, hb3⟩; have hi3 := Lib.hid (below_tr hi2.out hb3); obtain ⟨q0, q1, q2⟩ := rc3 (kept_block hi3.out he2.out); have zq := (Array.getElem?_eq_some_iff.1 (kept_block hi3.out he2.out)).1) | (go_at_call 72; (with_reducible refine Calls.mono (kS.out _ hi3.out) ?_); rintro e w4 ⟨rfl, hb4⟩; obtain ⟨N, hN⟩ : ∃ N, w4.alloc (spO s) = N := ⟨_, rfl⟩; obtain ⟨en, BN, sN⟩ := boxed hN; obtain ⟨n0, n1⟩ := rc2 en; have zn := (Array.getElem?_eq_some_iff.1 en).1; have hi4 := Lib.hid (below_tr hi3.out (below_tr hb4 BN)); clear sN; obtain ⟨c0, c1⟩ := rc2 (kept_block hi4.out he1.out); obtain ⟨g0, g1⟩ := rf2 (kept_block hi4.out he1.out); have zr := (Array.getElem?_eq_some_iff.1 (kept_block hi4.out he1.out)).1))
          obtain ⟨n0, n1⟩ := rc2 (set2 (kept_block hi4.out he1.out) (.int .i64 (⟨0, 0⟩ : Sp).lo) (.int .i64 (⟨0, 0⟩ : Sp).hi))
          refine bodyPost_ret (v := .tuple #[spV (⟨0, 0⟩ : Sp), .int .i64 5]) (by simp [results, Try.results44, go_sem, n0, n1]) rfl ?_
          exact ⟨by rw [hr.out], (below_tr hwB.out hi4.out).trans (below_set2 _ _ (by omega))⟩
        · have hr := Lib.hid (k4.out rfl hin.out h3)
          have h3d : decide (s.hi < s.lo) = false := by simpa using h3
          clear k1 k2 k3 k4 h1 h2
          go_enter Try.func44, Try.ntmps44
          go_wp2_with (first | (go_at_call 57; rw [hW.out]; (with_reducible refine Calls.mono kC.out ?_); rintro e w1 ⟨rfl, hb1⟩; have hi1 := Lib.hid hb1; obtain ⟨q0, q1, q2⟩ := rc3 (kept_block hb1 he2.out); have zq := (Array.getElem?_eq_some_iff.1 (kept_block hb1 he2.out)).1) | (go_at_call 70; (with_reducible refine Calls.mono (kZ.out _) ?_); rintro e w2 ⟨rfl, hb2⟩; have hi2 := Lib.hid (below_tr hi1.out hb2); obtain ⟨q0, q1, q2⟩ := rc3 (kept_block hi2.out he2.out); have zq := (Array.getElem?_eq_some_iff.1 (kept_block hi2.out he2.out)).1) | (go_at_call 71; (with_reducible refine Calls.mono (kD.out _) ?_); rintro e w3 ⟨rfl, hb3⟩; have hi3 := Lib.hid (below_tr hi2.out hb3); obtain ⟨q0, q1, q2⟩ := rc3 (kept_block hi3.out he2.out); have zq := (Array.getElem?_eq_some_iff.1 (kept_block hi3.out he2.out)).1) | (go_at_call 72; (with_reducible refine Calls.mono (kS.out _ hi3.out) ?_); rintro e w4 ⟨rfl, hb4⟩; obtain ⟨N, hN⟩ : ∃ N, w4.alloc (spO s) = N := ⟨_, rfl⟩; obtain ⟨en, BN, sN⟩ := boxed hN; obtain ⟨n0, n1⟩ := rc2 en; have zn := (Array.getElem?_eq_some_iff.1 en).1; have hi4 := Lib.hid (below_tr hi3.out (below_tr hb4 BN)); clear sN; obtain ⟨c0, c1⟩ := rc2 (kept_block hi4.out he1.out); obtain ⟨g0, g1⟩ := rf2 (kept_block hi4.out he1.out); have zr := (Array.getElem?_eq_some_iff.1 (kept_block hi4.out he1.out)).1))
          obtain ⟨n0, n1⟩ := rc2 (set2 (kept_block hi4.out he1.out) (.int .i64 s.lo) (.int .i64 s.hi))
          refine bodyPost_ret (v := .tuple #[spV s, .int .i64 0]) (by simp [results, Try.results44, go_sem, n0, n1]) rfl ?_
          exact ⟨by rw [hr.out], (below_tr hwB.out hi4.out).trans (below_set2 _ _ (by omega))⟩
  · have hd : decide (er = 0) = false := by simpa using h
    have hr := Lib.hid (k1.out h)
    clear k1 k2 k3 k4
    go_enter Try.func44, Try.ntmps44
    go_wp2_with (go_at_call 57; rw [hW.out]; (with_reducible refine Calls.mono kC.out ?_); rintro e w1 ⟨rfl, hb1⟩; have hi1 := Lib.hid hb1; obtain ⟨c0, c1⟩ := rc2 (kept_block hb1 he1.out); obtain ⟨g0, g1⟩ := rf2 (kept_block hb1 he1.out); have zr := (Array.getElem?_eq_some_iff.1 (kept_block hb1 he1.out)).1)
    obtain ⟨n0, n1⟩ := rc2 (set2 (kept_block hi1.out he1.out) (.int .i64 (⟨0, 0⟩ : Sp).lo) (.int .i64 (⟨0, 0⟩ : Sp).hi))
    refine bodyPost_ret (v := .tuple #[spV (⟨0, 0⟩ : Sp), .int .i64 er]) (by simp [results, Try.results44, go_sem, n0, n1]) rfl ?_
    exact ⟨by rw [hr.out], (below_tr hwB.out hi1.out).trans (below_set2 _ _ (by omega))⟩
end Go.Proofs.Ytddmfkhmhdddeaa
