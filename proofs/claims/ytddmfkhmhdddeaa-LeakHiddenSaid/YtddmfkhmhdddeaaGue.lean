/- Walks: guesses (the program); the errors of a book and guesses. -/
import Derived.Test.YtddmfkhmhdddeaaChk
set_option linter.unusedVariables false
set_option linter.unusedSimpArgs false
namespace Lk
theorem gsB_none {b : Bk} {g : Gs} (h : g = noGs) : b.gsB g = true := by simp [Bk.gsB, h]
theorem gsB_of {b : Bk} {g : Gs} {t1 t2 t3 : Bool} (h : g ≠ noGs) (h1 : inB g.zone 0 (b.first.length - 1) = t1) (h2 : inB g.size 1 10000000 = t2) (h3 : inB g.since 0 (b.flows.length - 1) = t3) : b.gsB g = (t1 && t2 && t3) := by
  simp [Bk.gsB, h, h1, h2, h3]
theorem zone_none {n : Int} : inB (-1) 0 n = false := by simp [inB]
theorem gs_ext {g : Gs} {m : Int} (hm : -1 = m) (h1 : g.zone = m) (h2 : g.size = 0) (h3 : g.since = 0) : g = noGs := by subst hm; cases g; simp only at h1 h2 h3; subst h1; subst h2; subst h3; rfl
end Lk
namespace Go.Proofs.Ytddmfkhmhdddeaa
open Go.RowKit Go.Sd Lk

set_option maxRecDepth 100000 in
set_option maxHeartbeats 8000000 in
theorem progGuess (fv wv rv : Value) (b : Bk) (x : Gs) (w : World) (hb : BookAt w fv wv rv b) :
    Calls Try.prog 78 #[bkV fv wv rv, gsV x] w (BoolB (b.gsB x) w) := by
  obtain ⟨z, s, d⟩ := x
  obtain ⟨fa, fc, rfl, hfm, -⟩ := hb.first.form
  obtain ⟨wa, wc, rfl, hwm, -⟩ := hb.flows.form
  obtain ⟨ra, rc, rfl, hrm, -⟩ := hb.reads.form
  clear hb
  obtain ⟨W1, hW1⟩ : ∃ W, w.alloc (bkO (.slice fa b.first.length fc) (.slice wa b.flows.length wc) (.slice ra b.reads.length rc)) = W := ⟨_, rfl⟩
  obtain ⟨e0, b0, s0⟩ := boxed hW1
  obtain ⟨W, hW⟩ : ∃ W, W1.alloc (gsO ⟨z, s, d⟩) = W := ⟨_, rfl⟩
  obtain ⟨e1, b1, s1⟩ := boxed hW
  replace e0 := kept_block b1 e0
  obtain ⟨q0, q1, q2⟩ := rc3 e0
  obtain ⟨p0, p1, p2⟩ := rc3 e1
  have hz0 : w.heap.size < W.heap.size := by omega
  have hz1 : W1.heap.size < W.heap.size := by omega
  have hB0 : Below w.heap.size w W := below_tr b0 b1
  have hgc := grow_cell W
  clear e0 s0 e1 s1 b0 b1
  have k1 := Lib.hid (fun w1 => (progDay (.slice fa b.first.length fc) (.slice ra b.reads.length rc) wa b.flows.length wc d w1 hwm))
  have k2 := Lib.hid (fun w1 => (progZone (.slice wa b.flows.length wc) (.slice ra b.reads.length rc) fa b.first.length fc z w1 hfm))
  have k3 := Lib.hid (fun w1 => (progIn s 1 10000000 w1))
  have k0 : Hid (∀ w, Calls Try.prog 67 #[] w fun e w' => e = .returned (.agg #[.int .i64 (-1), .int .i64 0, .int .i64 0]) ∧ Below w.heap.size w w') := Lib.hid progNothing
  obtain ⟨m1, hm1⟩ : ∃ m, (-1 : Int) = m := ⟨_, rfl⟩
  rw [hm1] at k0
  obtain ⟨t1, h1⟩ : ∃ t, inB z 0 (b.first.length - 1) = t := ⟨_, rfl⟩
  obtain ⟨t2, h2⟩ : ∃ t, inB s 1 10000000 = t := ⟨_, rfl⟩
  obtain ⟨t3, h3⟩ : ∃ t, inB d 0 (b.flows.length - 1) = t := ⟨_, rfl⟩
  rw [h1] at k2
  rw [h2] at k3
  rw [h3] at k1
  by_cases hz : z = m1
  · have h1f : t1 = false := by rw [← h1, hz, ← hm1]; exact zone_none
    subst h1f
    by_cases hs : s = 0
    · by_cases hd : d = 0
      · have hr := Lib.hid (gsB_none (b := b) (g := ⟨z, s, d⟩) (gs_ext hm1 hz hs hd))
        clear h1 h2 h3
        subst hs hd hz
        replace hm1 := Lib.hid hm1
        skip
        go_enter Try.func78, Try.ntmps78
        go_wp2
        refine wp_region_grow (by kernel_rfl) (by kernel_rfl) ?_
        repeat (go_big_quiet_step ((first | (go_at_call 67; with_reducible exact Calls.grow (k0.out _)) | (go_at_call 70; with_reducible exact Calls.grow (k2.out _)))))
        refine wpQuiet_nil ?_
        rintro _ ⟨g, rfl⟩
        go_wp2
        go_ret
        exact BoolB.mk (hr.out) (hB0.trans (g.h.mono hB0.size))
      · have hr := Lib.hid (gsB_of (g := ⟨z, s, d⟩) (fun h => hd (congrArg Gs.since h)) h1 h2 h3)
        clear h1 h2 h3
        subst hs hz
        replace hm1 := Lib.hid hm1
        skip
        go_enter Try.func78, Try.ntmps78
        go_wp2
        refine wp_region_grow (by kernel_rfl) (by kernel_rfl) ?_
        repeat (go_big_quiet_step ((first | (go_at_call 67; with_reducible exact Calls.grow (k0.out _)) | (go_at_call 70; with_reducible exact Calls.grow (k2.out _)))))
        refine wpQuiet_nil ?_
        rintro _ ⟨g, rfl⟩
        go_wp2
        go_ret
        exact BoolB.mk (by rw [hr.out]; simp) (hB0.trans (g.h.mono hB0.size))
    · have hr := Lib.hid (gsB_of (g := ⟨z, s, d⟩) (fun h => hs (congrArg Gs.size h)) h1 h2 h3)
      clear h1 h2 h3
      subst hz
      replace hm1 := Lib.hid hm1
      skip
      go_enter Try.func78, Try.ntmps78
      go_wp2
      refine wp_region_grow (by kernel_rfl) (by kernel_rfl) ?_
      repeat (go_big_quiet_step ((first | (go_at_call 67; with_reducible exact Calls.grow (k0.out _)) | (go_at_call 70; with_reducible exact Calls.grow (k2.out _)))))
      refine wpQuiet_nil ?_
      rintro _ ⟨g, rfl⟩
      go_wp2
      go_ret
      exact BoolB.mk (by rw [hr.out]; simp) (hB0.trans (g.h.mono hB0.size))
  · have hr := Lib.hid (gsB_of (g := ⟨z, s, d⟩) (fun h => hz ((congrArg Gs.zone h).trans hm1)) h1 h2 h3)
    clear h1 h2 h3
    replace hm1 := Lib.hid hm1
    cases t1
    · skip
      go_enter Try.func78, Try.ntmps78
      go_wp2
      refine wp_region_grow (by kernel_rfl) (by kernel_rfl) ?_
      repeat (go_big_quiet_step ((first | (go_at_call 67; with_reducible exact Calls.grow (k0.out _)) | (go_at_call 70; with_reducible exact Calls.grow (k2.out _)))))
      refine wpQuiet_nil ?_
      rintro _ ⟨g, rfl⟩
      go_wp2
      go_ret
      exact BoolB.mk (by rw [hr.out]; simp) (hB0.trans (g.h.mono hB0.size))
    · cases t2
      · skip
        go_enter Try.func78, Try.ntmps78
        go_wp2
        refine wp_region_grow (by kernel_rfl) (by kernel_rfl) ?_
        repeat (go_big_quiet_step ((first | (go_at_call 67; with_reducible exact Calls.grow (k0.out _)) | (go_at_call 70; with_reducible exact Calls.grow (k2.out _)) | (go_at_call 63; with_reducible exact Calls.grow_same (k3.out _)) | (go_at_call 71; with_reducible exact Calls.grow (k1.out _)))))
        refine wpQuiet_nil ?_
        rintro _ ⟨g, rfl⟩
        go_wp2
        go_ret
        exact BoolB.mk (by rw [hr.out]; simp) (hB0.trans (g.h.mono hB0.size))
      · skip
        go_enter Try.func78, Try.ntmps78
        go_wp2
        refine wp_region_grow (by kernel_rfl) (by kernel_rfl) ?_
        repeat (go_big_quiet_step ((first | (go_at_call 67; with_reducible exact Calls.grow (k0.out _)) | (go_at_call 70; with_reducible exact Calls.grow (k2.out _)) | (go_at_call 63; with_reducible exact Calls.grow_same (k3.out _)) | (go_at_call 71; with_reducible exact Calls.grow (k1.out _)))))
        refine wpQuiet_nil ?_
        rintro _ ⟨g, rfl⟩
        go_wp2
        go_ret
        exact BoolB.mk (by rw [hr.out]; simp) (hB0.trans (g.h.mono hB0.size))

set_option maxRecDepth 100000 in
set_option maxHeartbeats 8000000 in
theorem refGuess (fv wv rv : Value) (b : Bk) (x : Gs) (w : World) (hb : BookAt w fv wv rv b) :
    Calls Try.prog 21 #[bkV fv wv rv, gsV x] w (BoolB (b.gsB x) w) := by
  obtain ⟨z, s, d⟩ := x
  obtain ⟨fa, fc, rfl, hfm, -⟩ := hb.first.form
  obtain ⟨wa, wc, rfl, hwm, -⟩ := hb.flows.form
  obtain ⟨ra, rc, rfl, hrm, -⟩ := hb.reads.form
  clear hb
  obtain ⟨W1, hW1⟩ : ∃ W, w.alloc (bkA (.slice fa b.first.length fc) (.slice wa b.flows.length wc) (.slice ra b.reads.length rc)) = W := ⟨_, rfl⟩
  obtain ⟨e0, b0, s0⟩ := boxed hW1
  obtain ⟨W, hW⟩ : ∃ W, W1.alloc (gsO ⟨z, s, d⟩) = W := ⟨_, rfl⟩
  obtain ⟨e1, b1, s1⟩ := boxed hW
  replace e0 := kept_block b1 e0
  obtain ⟨q0, q1, q2⟩ := rc3 e0
  obtain ⟨p0, p1, p2⟩ := rc3 e1
  have hz0 : w.heap.size < W.heap.size := by omega
  have hz1 : W1.heap.size < W.heap.size := by omega
  have hB0 : Below w.heap.size w W := below_tr b0 b1
  have hgc := grow_cell W
  clear e0 s0 e1 s1 b0 b1
  have k1 := Lib.hid (fun w1 => (refIn d 0 (b.flows.length - 1) w1))
  have k2 := Lib.hid (fun w1 => (refIn z 0 (b.first.length - 1) w1))
  have k3 := Lib.hid (fun w1 => (refIn s 1 10000000 w1))
  have k0 : Hid (∀ w, Calls Try.prog 40 #[] w fun e w' => e = .returned (.agg #[.int .i64 (-1), .int .i64 0, .int .i64 0]) ∧ Below w.heap.size w w') := Lib.hid refNone
  obtain ⟨m1, hm1⟩ : ∃ m, (-1 : Int) = m := ⟨_, rfl⟩
  rw [hm1] at k0
  obtain ⟨t1, h1⟩ : ∃ t, inB z 0 (b.first.length - 1) = t := ⟨_, rfl⟩
  obtain ⟨t2, h2⟩ : ∃ t, inB s 1 10000000 = t := ⟨_, rfl⟩
  obtain ⟨t3, h3⟩ : ∃ t, inB d 0 (b.flows.length - 1) = t := ⟨_, rfl⟩
  rw [h1] at k2
  rw [h2] at k3
  rw [h3] at k1
  by_cases hz : z = m1
  · have h1f : t1 = false := by rw [← h1, hz, ← hm1]; exact zone_none
    subst h1f
    by_cases hs : s = 0
    · by_cases hd : d = 0
      · have hr := Lib.hid (gsB_none (b := b) (g := ⟨z, s, d⟩) (gs_ext hm1 hz hs hd))
        clear h1 h2 h3
        subst hs hd hz
        replace hm1 := Lib.hid hm1
        skip
        go_enter Try.func21, Try.ntmps21
        go_wp2
        refine wp_region_grow (by kernel_rfl) (by kernel_rfl) ?_
        repeat (go_big_quiet_step ((first | (go_at_call 40; with_reducible exact Calls.grow (k0.out _)) | (go_at_call 54; with_reducible exact Calls.grow_same (k2.out _)))))
        refine wpQuiet_nil ?_
        rintro _ ⟨g, rfl⟩
        go_wp2
        go_ret
        exact BoolB.mk (hr.out) (hB0.trans (g.h.mono hB0.size))
      · have hr := Lib.hid (gsB_of (g := ⟨z, s, d⟩) (fun h => hd (congrArg Gs.since h)) h1 h2 h3)
        clear h1 h2 h3
        subst hs hz
        replace hm1 := Lib.hid hm1
        skip
        go_enter Try.func21, Try.ntmps21
        go_wp2
        refine wp_region_grow (by kernel_rfl) (by kernel_rfl) ?_
        repeat (go_big_quiet_step ((first | (go_at_call 40; with_reducible exact Calls.grow (k0.out _)) | (go_at_call 54; with_reducible exact Calls.grow_same (k2.out _)))))
        refine wpQuiet_nil ?_
        rintro _ ⟨g, rfl⟩
        go_wp2
        go_ret
        exact BoolB.mk (by rw [hr.out]; simp) (hB0.trans (g.h.mono hB0.size))
    · have hr := Lib.hid (gsB_of (g := ⟨z, s, d⟩) (fun h => hs (congrArg Gs.size h)) h1 h2 h3)
      clear h1 h2 h3
      subst hz
      replace hm1 := Lib.hid hm1
      skip
      go_enter Try.func21, Try.ntmps21
      go_wp2
      refine wp_region_grow (by kernel_rfl) (by kernel_rfl) ?_
      repeat (go_big_quiet_step ((first | (go_at_call 40; with_reducible exact Calls.grow (k0.out _)) | (go_at_call 54; with_reducible exact Calls.grow_same (k2.out _)))))
      refine wpQuiet_nil ?_
      rintro _ ⟨g, rfl⟩
      go_wp2
      go_ret
      exact BoolB.mk (by rw [hr.out]; simp) (hB0.trans (g.h.mono hB0.size))
  · have hr := Lib.hid (gsB_of (g := ⟨z, s, d⟩) (fun h => hz ((congrArg Gs.zone h).trans hm1)) h1 h2 h3)
    clear h1 h2 h3
    replace hm1 := Lib.hid hm1
    cases t1
    · skip
      go_enter Try.func21, Try.ntmps21
      go_wp2
      refine wp_region_grow (by kernel_rfl) (by kernel_rfl) ?_
      repeat (go_big_quiet_step ((first | (go_at_call 40; with_reducible exact Calls.grow (k0.out _)) | (go_at_call 54; with_reducible exact Calls.grow_same (k2.out _)))))
      refine wpQuiet_nil ?_
      rintro _ ⟨g, rfl⟩
      go_wp2
      go_ret
      exact BoolB.mk (by rw [hr.out]; simp) (hB0.trans (g.h.mono hB0.size))
    · cases t2
      · skip
        go_enter Try.func21, Try.ntmps21
        go_wp2
        refine wp_region_grow (by kernel_rfl) (by kernel_rfl) ?_
        repeat (go_big_quiet_step ((first | (go_at_call 40; with_reducible exact Calls.grow (k0.out _)) | (go_at_call 54; with_reducible exact Calls.grow_same (k2.out _)) | (go_at_call 54; with_reducible exact Calls.grow_same (k3.out _)) | (go_at_call 54; with_reducible exact Calls.grow_same (k1.out _)))))
        refine wpQuiet_nil ?_
        rintro _ ⟨g, rfl⟩
        go_wp2
        go_ret
        exact BoolB.mk (by rw [hr.out]; simp) (hB0.trans (g.h.mono hB0.size))
      · skip
        go_enter Try.func21, Try.ntmps21
        go_wp2
        refine wp_region_grow (by kernel_rfl) (by kernel_rfl) ?_
        repeat (go_big_quiet_step ((first | (go_at_call 40; with_reducible exact Calls.grow (k0.out _)) | (go_at_call 54; with_reducible exact Calls.grow_same (k2.out _)) | (go_at_call 54; with_reducible exact Calls.grow_same (k3.out _)) | (go_at_call 54; with_reducible exact Calls.grow_same (k1.out _)))))
        refine wpQuiet_nil ?_
        rintro _ ⟨g, rfl⟩
        go_wp2
        go_ret
        exact BoolB.mk (by rw [hr.out]; simp) (hB0.trans (g.h.mono hB0.size))

theorem progCheck (fv wv rv : Value) (b : Bk) (w : World) (hb : BookAt w fv wv rv b) :
    Calls Try.prog 43 #[bkV fv wv rv] w fun e w' => e = .returned (.int .i64 (b.err true)) ∧ Below w.heap.size w w' := by
  have hB : Below w.heap.size w (w.alloc (bkA fv wv rv)) := (Below.refl _ _).alloc (Nat.le_refl _) _
  have hc := Lib.hid (progChecked fv wv rv b _ (hb.mono hB))
  obtain ⟨fa, fc, rfl, hfm, -⟩ := hb.first.form
  obtain ⟨wa, wc, rfl, hwm, -⟩ := hb.flows.form
  obtain ⟨ra, rc, rfl, hrm, -⟩ := hb.reads.form
  clear hb
  go_enter Try.func43, Try.ntmps43
  go_wp2_with (go_at_call 57; refine Calls.mono hc.out ?_; rintro e w' ⟨rfl, hb⟩)
  go_ret
  exact ⟨rfl, below_tr hB hb⟩

theorem progAsked1 (fv wv rv : Value) (b : Bk) (x : Gs) (w : World) (n : Nat) (hb : BookAt w fv wv rv b) (c0 : w.cell? ⟨n, 0, none⟩ = some fv) (c1 : w.cell? ⟨n, 1, none⟩ = some wv) (c2 : w.cell? ⟨n, 2, none⟩ = some rv) :
    Calls Try.prog 77 #[gsV x, .pointer (some ⟨n, 0, none⟩)] w fun e w' => e = .returned (.bool (!b.gsB x)) ∧ Below w.heap.size w w' := by
  obtain ⟨W, hW⟩ : ∃ W, w.alloc (gsO x) = W := ⟨_, rfl⟩
  obtain ⟨e0, b0, s0⟩ := boxed hW
  obtain ⟨q0, q1, q2⟩ := rc3 e0
  replace c0 := kept_cell b0 c0
  replace c1 := kept_cell b0 c1
  replace c2 := kept_cell b0 c2
  have hc := Lib.hid (progGuess fv wv rv b x W (hb.mono b0))
  obtain ⟨fa, fc, rfl, hfm, -⟩ := hb.first.form
  obtain ⟨wa, wc, rfl, hwm, -⟩ := hb.flows.form
  obtain ⟨ra, rc, rfl, hrm, -⟩ := hb.reads.form
  clear hb e0 s0
  go_enter Try.func77, Try.ntmps77
  go_wp2_with (go_at_call 78; refine Calls.mono hc.out ?_; rintro e w' ⟨t, rfl, ht, hb⟩)
  go_ret
  exact ⟨bool_ret (by rw [ht.out]), below_tr b0 hb⟩
theorem enter_asked1 : ∀ (args : Array Value) (w : World), (callFunc 77 args).run Try.prog w = .ok (.enter 77 args) w := fun _ _ => by kernel_rfl

set_option maxHeartbeats 4000000 in
theorem progAsked (fv wv rv lv : Value) (b : Bk) (l : List Gs) (w : World) (hb : BookAt w fv wv rv b) (hl : GssAt w lv l) :
    Calls Try.prog 51 #[bkV fv wv rv, lv] w fun e w' => e = .returned (.int .i64 (b.err (l.all b.gsB))) ∧ Below w.heap.size w w' := by
  obtain ⟨W, hW⟩ : ∃ W, w.alloc (bkO fv wv rv) = W := ⟨_, rfl⟩
  obtain ⟨e0, b0, s0⟩ := boxed hW
  obtain ⟨q0, q1, q2⟩ := rc3 e0
  have hz : w.heap.size < W.heap.size := by omega
  have hg := grow_cell W
  have k1 := Lib.hid (progChecked fv wv rv b W (hb.mono b0))
  have k2 := Lib.hid (fun w1 (h : Below W.heap.size W w1) => containsGss lv l (fun x => !b.gsB x) 77 #[.pointer (some ⟨w.heap.size, 0, none⟩)] w1 (hl.mono (below_tr b0 h)) enter_asked1
    (fun d _ X hX => progAsked1 fv wv rv b d X w.heap.size (hb.mono (below_tr b0 (below_tr h hX))) (kept_cell (below_tr h hX) q0) (kept_cell (below_tr h hX) q1) (kept_cell (below_tr h hX) q2)))
  obtain ⟨fa, fc, rfl, hfm, -⟩ := hb.first.form
  obtain ⟨wa, wc, rfl, hwm, -⟩ := hb.flows.form
  obtain ⟨ra, rc, rfl, hrm, -⟩ := hb.reads.form
  obtain ⟨la, lc, rfl, hlm, -⟩ := hl.form
  clear hb e0 s0 hl
  cases hL : b.longB
  · cases hB : b.bookB
    · have h1 : Hid (b.err true = 2) := Lib.hid (err_bad hL (by simp [hB]))
      have h2 : Hid (b.err (l.all b.gsB) = 2) := Lib.hid (err_bad hL (by simp [hB]))
      rw [h1.out] at k1
      go_enter Try.func51, Try.ntmps51
      go_wp2_with (go_at_call 57; refine Calls.mono k1.out ?_; rintro e w' ⟨rfl, hb⟩)
      go_ret
      exact ⟨int_ret h2.out.symm, below_tr b0 hb⟩
    · have h1 : Hid (b.err true = 0) := Lib.hid (err_ok hL (by simp [hB]))
      rw [h1.out] at k1
      cases hA : (l.any fun x => !b.gsB x)
      · have h2 : Hid (b.err (l.all b.gsB) = 0) := Lib.hid (err_ok hL (by
          rw [any_not] at hA
          simp at hA
          simp [hB]; exact hA))
        replace hA := Lib.hid hA
        go_enter Try.func51, Try.ntmps51
        go_wp2_with (first | (go_at_call 57; refine Calls.mono k1.out ?_; rintro e w' ⟨rfl, hb⟩; obtain ⟨g, rfl⟩ : ∃ g : Grow W, w' = g.x := ⟨⟨w', hb⟩, rfl⟩) | (go_at_call 76; refine Calls.mono (k2.out _ (Grow.h _)) ?_; rintro e w' hq; obtain ⟨rfl, hB2⟩ := hq.lit hA.out; obtain ⟨g2, rfl⟩ := g.next hB2))
        go_ret
        exact ⟨int_ret h2.out.symm, b0.trans (g2.h.mono b0.size)⟩
      · have h2 : Hid (b.err (l.all b.gsB) = 2) := Lib.hid (err_bad hL (by
          rw [any_not] at hA
          have : l.all b.gsB = false := by simpa using hA
          rw [this]; simp))
        replace hA := Lib.hid hA
        go_enter Try.func51, Try.ntmps51
        go_wp2_with (first | (go_at_call 57; refine Calls.mono k1.out ?_; rintro e w' ⟨rfl, hb⟩; obtain ⟨g, rfl⟩ : ∃ g : Grow W, w' = g.x := ⟨⟨w', hb⟩, rfl⟩) | (go_at_call 76; refine Calls.mono (k2.out _ (Grow.h _)) ?_; rintro e w' hq; obtain ⟨rfl, hB2⟩ := hq.lit hA.out; obtain ⟨g2, rfl⟩ := g.next hB2))
        go_ret
        exact ⟨int_ret h2.out.symm, b0.trans (g2.h.mono b0.size)⟩
  · have h1 : Hid (b.err true = 3) := Lib.hid (err_long hL)
    have h2 : Hid (b.err (l.all b.gsB) = 3) := Lib.hid (err_long hL)
    rw [h1.out] at k1
    go_enter Try.func51, Try.ntmps51
    go_wp2_with (go_at_call 57; refine Calls.mono k1.out ?_; rintro e w' ⟨rfl, hb⟩)
    go_ret
    exact ⟨int_ret h2.out.symm, below_tr b0 hb⟩
end Go.Proofs.Ytddmfkhmhdddeaa
