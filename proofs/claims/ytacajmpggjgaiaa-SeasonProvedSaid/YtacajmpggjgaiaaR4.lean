/- Walks of the reference: the worst nomination, the advice. -/
import Derived.Test.YtacajmpggjgaiaaR3
set_option linter.unusedVariables false
set_option linter.unusedSimpArgs false
namespace Go.Proofs.Ytacajmpggjgaiaa
open Go.RowKit Go.Sd

set_option maxRecDepth 100000 in
set_option maxHeartbeats 2000000 in
theorem refWorst (sv : Value) (s : Sea.S) (d j : Nat) (f : Nat) (w : World) (hs : SeasonAt w sv s) (ok : Sea.Ok s) (hd : d + 1 + j = s.days.length) (hf : (f : Int) ≤ s.space) :
    Calls Try.prog 32 #[sv, .int .i64 d, .int .i64 f] w fun e w' => e = .returned (.tuple #[.int .i64 (worstOf s d f (wrow s j)).1, .int .i64 (worstOf s d f (wrow s j)).2]) ∧ Below w.heap.size w w' := by
  have hs' := hs
  obtain ⟨rv, dv, rfl, -, -⟩ := hs'
  have hsp := ok.space
  have hsd := ok.ndays
  have hWs : Hid (∀ X, Below w.heap.size w X → Calls Try.prog 65 #[.agg #[.int .i64 s.space, .int .i64 s.start, .int .i64 s.elo, .int .i64 s.ehi, rv, dv]] X fun e w' => ∃ b vs cap, e = .returned (.slice (some ⟨b, 0, none⟩) (s.days.length + 1) cap) ∧ OwnMat X.heap.size b w' vs (Sea.whole s.days.length (wrow s)) ∧ Below X.heap.size X w') := fun X hX => refWorsts _ s X (hs.mono hX) ok
  have hOne : Hid (∀ (nv : Value) X, Below w.heap.size w X → IntsAt X nv (wrow s j) → Calls Try.prog 70 #[.agg #[.int .i64 s.space, .int .i64 s.start, .int .i64 s.elo, .int .i64 s.ehi, rv, dv], .int .i64 d, .int .i64 f, nv] X fun e w' => e = .returned (.tuple #[.int .i64 (worstOf s d f (wrow s j)).1, .int .i64 (worstOf s d f (wrow s j)).2]) ∧ Below X.heap.size X w') := by
    intro nv X hX hx
    have h := refWorst1 _ nv s (wrow s j) d f X (hs.mono hX) ok (by omega) (by omega) ⟨by omega, hf⟩ hx (by rw [wrow_length]; omega) (fun k _ => by have := wrow_bd ok j (by omega) k; unfold Sea.never at this; omega)
    rw [Int.toNat_natCast] at h
    exact h
  have hrow : Hid (∀ B b (X : World) vs, OwnMat B b X vs (Sea.whole s.days.length (wrow s)) → X.cell? ⟨b, d + 1, none⟩ = some (valAt vs (d + 1)) ∧ IntsAt X (valAt vs (d + 1)) (wrow s j)) := by
    intro B b X vs hM
    have hl : d + 1 < (Sea.whole s.days.length (wrow s)).length := by simp [Sea.whole]; omega
    refine ⟨(row_len hM hl).1, ?_⟩
    have := (hM.own (d + 1) hl).at
    rwa [← Sea.tbl_whole, Sea.tbl_at _ _ _ _ _ (by omega), if_pos (by omega), show s.days.length - (d + 1) = j by omega] at this
  obtain ⟨r, hr⟩ : ∃ r, worstOf s d f (wrow s j) = r := ⟨_, rfl⟩
  rw [hr] at hOne ⊢
  clear hr hs
  have hdj : -9223372036854775808 ≤ (d : Int) + 1 ∧ (d : Int) + 1 ≤ 9223372036854775807 := by omega
  have hwr : IntKind.i64.wrap ((d : Int) + 1) = (d : Int) + 1 := IntWalk.i64_in _ hdj
  have hdi : (0 : Int) ≤ (d : Int) + 1 ∧ (d : Int) + 1 < (s.days.length : Int) + 1 := by omega
  go_enter Try.func32, Try.ntmps32
  go_wp2
  generalize hW : w.alloc (sBox s rv dv) = W
  obtain ⟨hsz, hBw, q0, q1, q2, q3, q4, q5⟩ := box_season hW
  clear hW
  have hBd : Below W.heap.size W W.drew := (Below.refl _ _).drew
  refine wp_region_held_drew (S := (fun w' => w'.cell? ⟨w.heap.size, 0, none⟩ = some (.int .i64 s.space) ∧ w'.cell? ⟨w.heap.size, 1, none⟩ = some (.int .i64 s.start) ∧ w'.cell? ⟨w.heap.size, 2, none⟩ = some (.int .i64 s.elo) ∧ w'.cell? ⟨w.heap.size, 3, none⟩ = some (.int .i64 s.ehi) ∧ w'.cell? ⟨w.heap.size, 4, none⟩ = some rv ∧ w'.cell? ⟨w.heap.size, 5, none⟩ = some dv)) (by kernel_rfl) ?_ (fun hHeld => ?_)
  · first | (first | exact ⟨kept_cell hbB q0, kept_cell hbB q1, kept_cell hbB q2, kept_cell hbB q3, kept_cell hbB q4, kept_cell hbB q5⟩ | exact ⟨kept_cell hbA q0, kept_cell hbA q1, kept_cell hbA q2, kept_cell hbA q3, kept_cell hbA q4, kept_cell hbA q5⟩ | exact ⟨kept_cell hBd q0, kept_cell hBd q1, kept_cell hBd q2, kept_cell hBd q3, kept_cell hBd q4, kept_cell hBd q5⟩) | (dsimp only; (first | exact ⟨kept_cell hbB q0, kept_cell hbB q1, kept_cell hbB q2, kept_cell hbB q3, kept_cell hbB q4, kept_cell hbB q5⟩ | exact ⟨kept_cell hbA q0, kept_cell hbA q1, kept_cell hbA q2, kept_cell hbA q3, kept_cell hbA q4, kept_cell hbA q5⟩ | exact ⟨kept_cell hBd q0, kept_cell hBd q1, kept_cell hBd q2, kept_cell hBd q3, kept_cell hBd q4, kept_cell hBd q5⟩))
  refine wpAnyH_take (i := 0) (v := ?_) rfl (by kernel_rfl) (by kernel_rfl) (by kernel_rfl) (fun _ _ _ h => h) (Or.inl ⟨by rfl, ?_⟩) (by assumption) ?_
  rotate_left
  · intro w hSw; (try dsimp only at hSw); go_simp; (try with_reducible rfl)
  try simp only [Act.put, List.setIfInBounds_toArray, List.set_cons_zero, List.set_cons_succ]
  refine wpAnyH_take (i := 1) (v := ?_) rfl (by kernel_rfl) (by kernel_rfl) (by kernel_rfl) (fun _ _ _ h => h) (Or.inl ⟨by rfl, ?_⟩) (by assumption) ?_
  rotate_left
  · intro w hSw; (try dsimp only at hSw); go_simp; (try with_reducible rfl)
  try simp only [Act.put, List.setIfInBounds_toArray, List.set_cons_zero, List.set_cons_succ]
  refine wpAnyH_take (i := 2) (v := ?_) rfl (by kernel_rfl) (by kernel_rfl) (by kernel_rfl) (fun _ _ _ h => h) (Or.inl ⟨by rfl, ?_⟩) (by assumption) ?_
  rotate_left
  · intro w hSw; (try dsimp only at hSw); go_simp; (try with_reducible rfl)
  try simp only [Act.put, List.setIfInBounds_toArray, List.set_cons_zero, List.set_cons_succ]
  refine wpAnyH_take (i := 3) (v := ?_) rfl (by kernel_rfl) (by kernel_rfl) (by kernel_rfl) (fun _ _ _ h => h) (Or.inl ⟨by rfl, ?_⟩) (by assumption) ?_
  rotate_left
  · intro w hSw; (try dsimp only at hSw); go_simp; (try with_reducible rfl)
  try simp only [Act.put, List.setIfInBounds_toArray, List.set_cons_zero, List.set_cons_succ]
  refine wpAnyH_take (i := 5) (v := ?_) rfl (by kernel_rfl) (by kernel_rfl) (by kernel_rfl) (fun _ _ _ h => h) (Or.inl ⟨by rfl, ?_⟩) (by assumption) ?_
  rotate_left
  · intro w hSw; (try dsimp only at hSw); go_simp; (try with_reducible rfl)
  try simp only [Act.put, List.setIfInBounds_toArray, List.set_cons_zero, List.set_cons_succ]
  refine wpAnyH_take (i := 6) (v := ?_) rfl (by kernel_rfl) (by kernel_rfl) (by kernel_rfl) (fun _ _ _ h => h) (Or.inl ⟨by rfl, ?_⟩) (by assumption) ?_
  rotate_left
  · intro w hSw; (try dsimp only at hSw); go_simp; (try with_reducible rfl)
  try simp only [Act.put, List.setIfInBounds_toArray, List.set_cons_zero, List.set_cons_succ]
  refine wpAnyH_ready (rs := [4]) (by kernel_rfl) (by simp) ?_
  refine AllReadyH.cons rfl (fun K hK => ?_) AllReadyH.nil
  go_simp
  (first | (go_at_call 65; refine Calls.mono (hWs.out _ (below_tr hBw hBd)) ?_; rintro e wA ⟨b, vs, cap, rfl, hM, hb1⟩; have hbA := below_tr hBd hb1; obtain ⟨hcd, hnx⟩ := hrow.out _ _ _ _ hM; obtain ⟨nv, hnv⟩ : ∃ nv, valAt vs (d + 1) = nv := ⟨_, rfl⟩; rw [hnv] at hcd hnx; clear hnv) | (go_at_call 70; refine Calls.mono (hOne.out _ _ (below_tr hBw hbA) hnx) ?_; rintro e wB ⟨rfl, hb2⟩; have hbB := below_tr hbA hb2))
  refine hK.out _ _ ?_ (fun hNow => ?_)
  · first | (first | exact ⟨kept_cell hbB q0, kept_cell hbB q1, kept_cell hbB q2, kept_cell hbB q3, kept_cell hbB q4, kept_cell hbB q5⟩ | exact ⟨kept_cell hbA q0, kept_cell hbA q1, kept_cell hbA q2, kept_cell hbA q3, kept_cell hbA q4, kept_cell hbA q5⟩ | exact ⟨kept_cell hBd q0, kept_cell hBd q1, kept_cell hBd q2, kept_cell hBd q3, kept_cell hBd q4, kept_cell hBd q5⟩) | (dsimp only; (first | exact ⟨kept_cell hbB q0, kept_cell hbB q1, kept_cell hbB q2, kept_cell hbB q3, kept_cell hbB q4, kept_cell hbB q5⟩ | exact ⟨kept_cell hbA q0, kept_cell hbA q1, kept_cell hbA q2, kept_cell hbA q3, kept_cell hbA q4, kept_cell hbA q5⟩ | exact ⟨kept_cell hBd q0, kept_cell hBd q1, kept_cell hBd q2, kept_cell hBd q3, kept_cell hBd q4, kept_cell hBd q5⟩))
  clear hK K hHeld
  have hHeld := hNow
  clear hNow
  try simp only [Act.put, List.setIfInBounds_toArray, List.set_cons_zero, List.set_cons_succ]
  refine wpAnyH_take (i := 7) (v := ?_) rfl (by kernel_rfl) (by kernel_rfl) (by kernel_rfl) (fun _ _ _ h => h) (Or.inl ⟨by rfl, ?_⟩) (by assumption) ?_
  rotate_left
  · intro w hSw; (try dsimp only at hSw); go_simp; (try with_reducible rfl)
  try simp only [Act.put, List.setIfInBounds_toArray, List.set_cons_zero, List.set_cons_succ]
  refine wpAnyH_ready (rs := [8]) (by kernel_rfl) (by simp) ?_
  refine AllReadyH.cons rfl (fun K hK => ?_) AllReadyH.nil
  go_simp
  refine hK.out _ _ ?_ (fun hNow => ?_)
  · first | (first | exact ⟨kept_cell hbB q0, kept_cell hbB q1, kept_cell hbB q2, kept_cell hbB q3, kept_cell hbB q4, kept_cell hbB q5⟩ | exact ⟨kept_cell hbA q0, kept_cell hbA q1, kept_cell hbA q2, kept_cell hbA q3, kept_cell hbA q4, kept_cell hbA q5⟩ | exact ⟨kept_cell hBd q0, kept_cell hBd q1, kept_cell hBd q2, kept_cell hBd q3, kept_cell hBd q4, kept_cell hBd q5⟩) | (dsimp only; (first | exact ⟨kept_cell hbB q0, kept_cell hbB q1, kept_cell hbB q2, kept_cell hbB q3, kept_cell hbB q4, kept_cell hbB q5⟩ | exact ⟨kept_cell hbA q0, kept_cell hbA q1, kept_cell hbA q2, kept_cell hbA q3, kept_cell hbA q4, kept_cell hbA q5⟩ | exact ⟨kept_cell hBd q0, kept_cell hBd q1, kept_cell hBd q2, kept_cell hBd q3, kept_cell hBd q4, kept_cell hBd q5⟩))
  clear hK K hHeld
  have hHeld := hNow
  clear hNow
  try simp only [Act.put, List.setIfInBounds_toArray, List.set_cons_zero, List.set_cons_succ]
  refine wpAnyH_ready (rs := [9]) (by kernel_rfl) (by simp) ?_
  refine AllReadyH.cons rfl (fun K hK => ?_) AllReadyH.nil
  go_simp
  (first | (go_at_call 65; refine Calls.mono (hWs.out _ (below_tr hBw hBd)) ?_; rintro e wA ⟨b, vs, cap, rfl, hM, hb1⟩; have hbA := below_tr hBd hb1; obtain ⟨hcd, hnx⟩ := hrow.out _ _ _ _ hM; obtain ⟨nv, hnv⟩ : ∃ nv, valAt vs (d + 1) = nv := ⟨_, rfl⟩; rw [hnv] at hcd hnx; clear hnv) | (go_at_call 70; refine Calls.mono (hOne.out _ _ (below_tr hBw hbA) hnx) ?_; rintro e wB ⟨rfl, hb2⟩; have hbB := below_tr hbA hb2))
  refine hK.out _ _ ?_ (fun hNow => ?_)
  · first | (first | exact ⟨kept_cell hbB q0, kept_cell hbB q1, kept_cell hbB q2, kept_cell hbB q3, kept_cell hbB q4, kept_cell hbB q5⟩ | exact ⟨kept_cell hbA q0, kept_cell hbA q1, kept_cell hbA q2, kept_cell hbA q3, kept_cell hbA q4, kept_cell hbA q5⟩ | exact ⟨kept_cell hBd q0, kept_cell hBd q1, kept_cell hBd q2, kept_cell hBd q3, kept_cell hBd q4, kept_cell hBd q5⟩) | (dsimp only; (first | exact ⟨kept_cell hbB q0, kept_cell hbB q1, kept_cell hbB q2, kept_cell hbB q3, kept_cell hbB q4, kept_cell hbB q5⟩ | exact ⟨kept_cell hbA q0, kept_cell hbA q1, kept_cell hbA q2, kept_cell hbA q3, kept_cell hbA q4, kept_cell hbA q5⟩ | exact ⟨kept_cell hBd q0, kept_cell hBd q1, kept_cell hBd q2, kept_cell hBd q3, kept_cell hBd q4, kept_cell hBd q5⟩))
  clear hK K hHeld
  have hHeld := hNow
  clear hNow
  try simp only [Act.put, List.setIfInBounds_toArray, List.set_cons_zero, List.set_cons_succ]
  refine wpAnyH_take (i := 10) (v := ?_) rfl (by kernel_rfl) (by kernel_rfl) (by kernel_rfl) (fun _ _ _ h => h) (Or.inl ⟨by rfl, ?_⟩) (by assumption) ?_
  rotate_left
  · intro w hSw; (try dsimp only at hSw); go_simp; (try with_reducible rfl)
  try simp only [Act.put, List.setIfInBounds_toArray, List.set_cons_zero, List.set_cons_succ]
  refine wpAnyH_take (i := 11) (v := ?_) rfl (by kernel_rfl) (by kernel_rfl) (by kernel_rfl) (fun _ _ _ h => h) (Or.inl ⟨by rfl, ?_⟩) (by assumption) ?_
  rotate_left
  · intro w hSw; (try dsimp only at hSw); go_simp; (try with_reducible rfl)
  try simp only [Act.put, List.setIfInBounds_toArray, List.set_cons_zero, List.set_cons_succ]
  refine wpAnyH_ready (rs := [12]) (by kernel_rfl) (by simp) ?_
  refine AllReadyH.cons rfl (fun K hK => ?_) AllReadyH.nil
  go_simp
  refine hK.out _ _ ?_ (fun hNow => ?_)
  · first | (first | exact ⟨kept_cell hbB q0, kept_cell hbB q1, kept_cell hbB q2, kept_cell hbB q3, kept_cell hbB q4, kept_cell hbB q5⟩ | exact ⟨kept_cell hbA q0, kept_cell hbA q1, kept_cell hbA q2, kept_cell hbA q3, kept_cell hbA q4, kept_cell hbA q5⟩ | exact ⟨kept_cell hBd q0, kept_cell hBd q1, kept_cell hBd q2, kept_cell hBd q3, kept_cell hBd q4, kept_cell hBd q5⟩) | (dsimp only; (first | exact ⟨kept_cell hbB q0, kept_cell hbB q1, kept_cell hbB q2, kept_cell hbB q3, kept_cell hbB q4, kept_cell hbB q5⟩ | exact ⟨kept_cell hbA q0, kept_cell hbA q1, kept_cell hbA q2, kept_cell hbA q3, kept_cell hbA q4, kept_cell hbA q5⟩ | exact ⟨kept_cell hBd q0, kept_cell hBd q1, kept_cell hBd q2, kept_cell hBd q3, kept_cell hBd q4, kept_cell hBd q5⟩))
  clear hK K hHeld
  have hHeld := hNow
  clear hNow
  try simp only [Act.put, List.setIfInBounds_toArray, List.set_cons_zero, List.set_cons_succ]
  refine wpAnyH_ready (rs := [13]) (by kernel_rfl) (by simp) ?_
  refine AllReadyH.cons rfl (fun K hK => ?_) AllReadyH.nil
  go_simp
  refine hK.out _ _ ?_ (fun hNow => ?_)
  · first | (first | exact ⟨kept_cell hbB q0, kept_cell hbB q1, kept_cell hbB q2, kept_cell hbB q3, kept_cell hbB q4, kept_cell hbB q5⟩ | exact ⟨kept_cell hbA q0, kept_cell hbA q1, kept_cell hbA q2, kept_cell hbA q3, kept_cell hbA q4, kept_cell hbA q5⟩ | exact ⟨kept_cell hBd q0, kept_cell hBd q1, kept_cell hBd q2, kept_cell hBd q3, kept_cell hBd q4, kept_cell hBd q5⟩) | (dsimp only; (first | exact ⟨kept_cell hbB q0, kept_cell hbB q1, kept_cell hbB q2, kept_cell hbB q3, kept_cell hbB q4, kept_cell hbB q5⟩ | exact ⟨kept_cell hbA q0, kept_cell hbA q1, kept_cell hbA q2, kept_cell hbA q3, kept_cell hbA q4, kept_cell hbA q5⟩ | exact ⟨kept_cell hBd q0, kept_cell hBd q1, kept_cell hBd q2, kept_cell hBd q3, kept_cell hBd q4, kept_cell hBd q5⟩))
  clear hK K hHeld
  have hHeld := hNow
  clear hNow
  try simp only [Act.put, List.setIfInBounds_toArray, List.set_cons_zero, List.set_cons_succ]
  refine wpAnyH_done (by kernel_rfl) ?_ _
  go_wp2
  go_ret2
  exact ⟨rfl, below_tr hBw hbB⟩
set_option maxRecDepth 100000 in
set_option maxHeartbeats 2000000 in
theorem refAdvise (sv : Value) (s : Sea.S) (d j : Nat) (f : Nat) (nom : Int) (w : World) (hs : SeasonAt w sv s) (ok : Sea.Ok s) (hd : d + 1 + j = s.days.length) (hf : (f : Int) ≤ s.space) (hno : -100 ≤ nom ∧ nom ≤ 100) :
    Calls Try.prog 34 #[sv, .int .i64 d, .int .i64 f, .int .i64 nom] w fun e w' => e = .returned (.tuple #[.int .i64 (s.least d f nom (wrow s j)).2, .int .i64 (s.least d f nom (wrow s j)).1]) ∧ Below w.heap.size w w' := by
  have hs' := hs
  obtain ⟨rv, dv, rfl, -, -⟩ := hs'
  have hsp := ok.space
  have hsd := ok.ndays
  have hWs : Hid (∀ X, Below w.heap.size w X → Calls Try.prog 65 #[.agg #[.int .i64 s.space, .int .i64 s.start, .int .i64 s.elo, .int .i64 s.ehi, rv, dv]] X fun e w' => ∃ b vs cap, e = .returned (.slice (some ⟨b, 0, none⟩) (s.days.length + 1) cap) ∧ OwnMat X.heap.size b w' vs (Sea.whole s.days.length (wrow s)) ∧ Below X.heap.size X w') := fun X hX => refWorsts _ s X (hs.mono hX) ok
  have hOne : Hid (∀ (nv : Value) X, Below w.heap.size w X → IntsAt X nv (wrow s j) → Calls Try.prog 62 #[.agg #[.int .i64 s.space, .int .i64 s.start, .int .i64 s.elo, .int .i64 s.ehi, rv, dv], .int .i64 d, .int .i64 f, .int .i64 nom, nv] X fun e w' => e = .returned (.tuple #[.int .i64 (s.least d f nom (wrow s j)).1, .int .i64 (s.least d f nom (wrow s j)).2]) ∧ Below X.heap.size X w') := by
    intro nv X hX hx
    have h := refLeast _ nv s (wrow s j) d f nom X (hs.mono hX) ok (by omega) (by omega) ⟨by omega, hf⟩ hno hx (by rw [wrow_length]; omega) (fun k _ => by have := wrow_bd ok j (by omega) k; unfold Sea.never at this; omega)
    rw [Int.toNat_natCast] at h
    exact h
  have hrow : Hid (∀ B b (X : World) vs, OwnMat B b X vs (Sea.whole s.days.length (wrow s)) → X.cell? ⟨b, d + 1, none⟩ = some (valAt vs (d + 1)) ∧ IntsAt X (valAt vs (d + 1)) (wrow s j)) := by
    intro B b X vs hM
    have hl : d + 1 < (Sea.whole s.days.length (wrow s)).length := by simp [Sea.whole]; omega
    refine ⟨(row_len hM hl).1, ?_⟩
    have := (hM.own (d + 1) hl).at
    rwa [← Sea.tbl_whole, Sea.tbl_at _ _ _ _ _ (by omega), if_pos (by omega), show s.days.length - (d + 1) = j by omega] at this
  obtain ⟨r, hr⟩ : ∃ r, s.least d f nom (wrow s j) = r := ⟨_, rfl⟩
  rw [hr] at hOne ⊢
  clear hr hs
  have hdj : -9223372036854775808 ≤ (d : Int) + 1 ∧ (d : Int) + 1 ≤ 9223372036854775807 := by omega
  have hwr : IntKind.i64.wrap ((d : Int) + 1) = (d : Int) + 1 := IntWalk.i64_in _ hdj
  have hdi : (0 : Int) ≤ (d : Int) + 1 ∧ (d : Int) + 1 < (s.days.length : Int) + 1 := by omega
  go_enter Try.func34, Try.ntmps34
  go_wp2
  generalize hW : w.alloc (sBox s rv dv) = W
  obtain ⟨hsz, hBw, q0, q1, q2, q3, q4, q5⟩ := box_season hW
  clear hW
  have hBd : Below W.heap.size W W.drew := (Below.refl _ _).drew
  refine wp_region_held_drew (S := (fun w' => w'.cell? ⟨w.heap.size, 0, none⟩ = some (.int .i64 s.space) ∧ w'.cell? ⟨w.heap.size, 1, none⟩ = some (.int .i64 s.start) ∧ w'.cell? ⟨w.heap.size, 2, none⟩ = some (.int .i64 s.elo) ∧ w'.cell? ⟨w.heap.size, 3, none⟩ = some (.int .i64 s.ehi) ∧ w'.cell? ⟨w.heap.size, 4, none⟩ = some rv ∧ w'.cell? ⟨w.heap.size, 5, none⟩ = some dv)) (by kernel_rfl) ?_ (fun hHeld => ?_)
  · first | (first | exact ⟨kept_cell hbB q0, kept_cell hbB q1, kept_cell hbB q2, kept_cell hbB q3, kept_cell hbB q4, kept_cell hbB q5⟩ | exact ⟨kept_cell hbA q0, kept_cell hbA q1, kept_cell hbA q2, kept_cell hbA q3, kept_cell hbA q4, kept_cell hbA q5⟩ | exact ⟨kept_cell hBd q0, kept_cell hBd q1, kept_cell hBd q2, kept_cell hBd q3, kept_cell hBd q4, kept_cell hBd q5⟩) | (dsimp only; (first | exact ⟨kept_cell hbB q0, kept_cell hbB q1, kept_cell hbB q2, kept_cell hbB q3, kept_cell hbB q4, kept_cell hbB q5⟩ | exact ⟨kept_cell hbA q0, kept_cell hbA q1, kept_cell hbA q2, kept_cell hbA q3, kept_cell hbA q4, kept_cell hbA q5⟩ | exact ⟨kept_cell hBd q0, kept_cell hBd q1, kept_cell hBd q2, kept_cell hBd q3, kept_cell hBd q4, kept_cell hBd q5⟩))
  refine wpAnyH_take (i := 0) (v := ?_) rfl (by kernel_rfl) (by kernel_rfl) (by kernel_rfl) (fun _ _ _ h => h) (Or.inl ⟨by rfl, ?_⟩) (by assumption) ?_
  rotate_left
  · intro w hSw; (try dsimp only at hSw); go_simp; (try with_reducible rfl)
  try simp only [Act.put, List.setIfInBounds_toArray, List.set_cons_zero, List.set_cons_succ]
  refine wpAnyH_take (i := 1) (v := ?_) rfl (by kernel_rfl) (by kernel_rfl) (by kernel_rfl) (fun _ _ _ h => h) (Or.inl ⟨by rfl, ?_⟩) (by assumption) ?_
  rotate_left
  · intro w hSw; (try dsimp only at hSw); go_simp; (try with_reducible rfl)
  try simp only [Act.put, List.setIfInBounds_toArray, List.set_cons_zero, List.set_cons_succ]
  refine wpAnyH_take (i := 2) (v := ?_) rfl (by kernel_rfl) (by kernel_rfl) (by kernel_rfl) (fun _ _ _ h => h) (Or.inl ⟨by rfl, ?_⟩) (by assumption) ?_
  rotate_left
  · intro w hSw; (try dsimp only at hSw); go_simp; (try with_reducible rfl)
  try simp only [Act.put, List.setIfInBounds_toArray, List.set_cons_zero, List.set_cons_succ]
  refine wpAnyH_take (i := 3) (v := ?_) rfl (by kernel_rfl) (by kernel_rfl) (by kernel_rfl) (fun _ _ _ h => h) (Or.inl ⟨by rfl, ?_⟩) (by assumption) ?_
  rotate_left
  · intro w hSw; (try dsimp only at hSw); go_simp; (try with_reducible rfl)
  try simp only [Act.put, List.setIfInBounds_toArray, List.set_cons_zero, List.set_cons_succ]
  refine wpAnyH_take (i := 4) (v := ?_) rfl (by kernel_rfl) (by kernel_rfl) (by kernel_rfl) (fun _ _ _ h => h) (Or.inl ⟨by rfl, ?_⟩) (by assumption) ?_
  rotate_left
  · intro w hSw; (try dsimp only at hSw); go_simp; (try with_reducible rfl)
  try simp only [Act.put, List.setIfInBounds_toArray, List.set_cons_zero, List.set_cons_succ]
  refine wpAnyH_take (i := 6) (v := ?_) rfl (by kernel_rfl) (by kernel_rfl) (by kernel_rfl) (fun _ _ _ h => h) (Or.inl ⟨by rfl, ?_⟩) (by assumption) ?_
  rotate_left
  · intro w hSw; (try dsimp only at hSw); go_simp; (try with_reducible rfl)
  try simp only [Act.put, List.setIfInBounds_toArray, List.set_cons_zero, List.set_cons_succ]
  refine wpAnyH_take (i := 7) (v := ?_) rfl (by kernel_rfl) (by kernel_rfl) (by kernel_rfl) (fun _ _ _ h => h) (Or.inl ⟨by rfl, ?_⟩) (by assumption) ?_
  rotate_left
  · intro w hSw; (try dsimp only at hSw); go_simp; (try with_reducible rfl)
  try simp only [Act.put, List.setIfInBounds_toArray, List.set_cons_zero, List.set_cons_succ]
  refine wpAnyH_ready (rs := [5]) (by kernel_rfl) (by simp) ?_
  refine AllReadyH.cons rfl (fun K hK => ?_) AllReadyH.nil
  go_simp
  (first | (go_at_call 65; refine Calls.mono (hWs.out _ (below_tr hBw hBd)) ?_; rintro e wA ⟨b, vs, cap, rfl, hM, hb1⟩; have hbA := below_tr hBd hb1; obtain ⟨hcd, hnx⟩ := hrow.out _ _ _ _ hM; obtain ⟨nv, hnv⟩ : ∃ nv, valAt vs (d + 1) = nv := ⟨_, rfl⟩; rw [hnv] at hcd hnx; clear hnv) | (go_at_call 62; refine Calls.mono (hOne.out _ _ (below_tr hBw hbA) hnx) ?_; rintro e wB ⟨rfl, hb2⟩; have hbB := below_tr hbA hb2))
  refine hK.out _ _ ?_ (fun hNow => ?_)
  · first | (first | exact ⟨kept_cell hbB q0, kept_cell hbB q1, kept_cell hbB q2, kept_cell hbB q3, kept_cell hbB q4, kept_cell hbB q5⟩ | exact ⟨kept_cell hbA q0, kept_cell hbA q1, kept_cell hbA q2, kept_cell hbA q3, kept_cell hbA q4, kept_cell hbA q5⟩ | exact ⟨kept_cell hBd q0, kept_cell hBd q1, kept_cell hBd q2, kept_cell hBd q3, kept_cell hBd q4, kept_cell hBd q5⟩) | (dsimp only; (first | exact ⟨kept_cell hbB q0, kept_cell hbB q1, kept_cell hbB q2, kept_cell hbB q3, kept_cell hbB q4, kept_cell hbB q5⟩ | exact ⟨kept_cell hbA q0, kept_cell hbA q1, kept_cell hbA q2, kept_cell hbA q3, kept_cell hbA q4, kept_cell hbA q5⟩ | exact ⟨kept_cell hBd q0, kept_cell hBd q1, kept_cell hBd q2, kept_cell hBd q3, kept_cell hBd q4, kept_cell hBd q5⟩))
  clear hK K hHeld
  have hHeld := hNow
  clear hNow
  try simp only [Act.put, List.setIfInBounds_toArray, List.set_cons_zero, List.set_cons_succ]
  refine wpAnyH_take (i := 8) (v := ?_) rfl (by kernel_rfl) (by kernel_rfl) (by kernel_rfl) (fun _ _ _ h => h) (Or.inl ⟨by rfl, ?_⟩) (by assumption) ?_
  rotate_left
  · intro w hSw; (try dsimp only at hSw); go_simp; (try with_reducible rfl)
  try simp only [Act.put, List.setIfInBounds_toArray, List.set_cons_zero, List.set_cons_succ]
  refine wpAnyH_ready (rs := [9]) (by kernel_rfl) (by simp) ?_
  refine AllReadyH.cons rfl (fun K hK => ?_) AllReadyH.nil
  go_simp
  refine hK.out _ _ ?_ (fun hNow => ?_)
  · first | (first | exact ⟨kept_cell hbB q0, kept_cell hbB q1, kept_cell hbB q2, kept_cell hbB q3, kept_cell hbB q4, kept_cell hbB q5⟩ | exact ⟨kept_cell hbA q0, kept_cell hbA q1, kept_cell hbA q2, kept_cell hbA q3, kept_cell hbA q4, kept_cell hbA q5⟩ | exact ⟨kept_cell hBd q0, kept_cell hBd q1, kept_cell hBd q2, kept_cell hBd q3, kept_cell hBd q4, kept_cell hBd q5⟩) | (dsimp only; (first | exact ⟨kept_cell hbB q0, kept_cell hbB q1, kept_cell hbB q2, kept_cell hbB q3, kept_cell hbB q4, kept_cell hbB q5⟩ | exact ⟨kept_cell hbA q0, kept_cell hbA q1, kept_cell hbA q2, kept_cell hbA q3, kept_cell hbA q4, kept_cell hbA q5⟩ | exact ⟨kept_cell hBd q0, kept_cell hBd q1, kept_cell hBd q2, kept_cell hBd q3, kept_cell hBd q4, kept_cell hBd q5⟩))
  clear hK K hHeld
  have hHeld := hNow
  clear hNow
  try simp only [Act.put, List.setIfInBounds_toArray, List.set_cons_zero, List.set_cons_succ]
  refine wpAnyH_ready (rs := [10]) (by kernel_rfl) (by simp) ?_
  refine AllReadyH.cons rfl (fun K hK => ?_) AllReadyH.nil
  go_simp
  (first | (go_at_call 65; refine Calls.mono (hWs.out _ (below_tr hBw hBd)) ?_; rintro e wA ⟨b, vs, cap, rfl, hM, hb1⟩; have hbA := below_tr hBd hb1; obtain ⟨hcd, hnx⟩ := hrow.out _ _ _ _ hM; obtain ⟨nv, hnv⟩ : ∃ nv, valAt vs (d + 1) = nv := ⟨_, rfl⟩; rw [hnv] at hcd hnx; clear hnv) | (go_at_call 62; refine Calls.mono (hOne.out _ _ (below_tr hBw hbA) hnx) ?_; rintro e wB ⟨rfl, hb2⟩; have hbB := below_tr hbA hb2))
  refine hK.out _ _ ?_ (fun hNow => ?_)
  · first | (first | exact ⟨kept_cell hbB q0, kept_cell hbB q1, kept_cell hbB q2, kept_cell hbB q3, kept_cell hbB q4, kept_cell hbB q5⟩ | exact ⟨kept_cell hbA q0, kept_cell hbA q1, kept_cell hbA q2, kept_cell hbA q3, kept_cell hbA q4, kept_cell hbA q5⟩ | exact ⟨kept_cell hBd q0, kept_cell hBd q1, kept_cell hBd q2, kept_cell hBd q3, kept_cell hBd q4, kept_cell hBd q5⟩) | (dsimp only; (first | exact ⟨kept_cell hbB q0, kept_cell hbB q1, kept_cell hbB q2, kept_cell hbB q3, kept_cell hbB q4, kept_cell hbB q5⟩ | exact ⟨kept_cell hbA q0, kept_cell hbA q1, kept_cell hbA q2, kept_cell hbA q3, kept_cell hbA q4, kept_cell hbA q5⟩ | exact ⟨kept_cell hBd q0, kept_cell hBd q1, kept_cell hBd q2, kept_cell hBd q3, kept_cell hBd q4, kept_cell hBd q5⟩))
  clear hK K hHeld
  have hHeld := hNow
  clear hNow
  try simp only [Act.put, List.setIfInBounds_toArray, List.set_cons_zero, List.set_cons_succ]
  refine wpAnyH_take (i := 11) (v := ?_) rfl (by kernel_rfl) (by kernel_rfl) (by kernel_rfl) (fun _ _ _ h => h) (Or.inl ⟨by rfl, ?_⟩) (by assumption) ?_
  rotate_left
  · intro w hSw; (try dsimp only at hSw); go_simp; (try with_reducible rfl)
  try simp only [Act.put, List.setIfInBounds_toArray, List.set_cons_zero, List.set_cons_succ]
  refine wpAnyH_take (i := 12) (v := ?_) rfl (by kernel_rfl) (by kernel_rfl) (by kernel_rfl) (fun _ _ _ h => h) (Or.inl ⟨by rfl, ?_⟩) (by assumption) ?_
  rotate_left
  · intro w hSw; (try dsimp only at hSw); go_simp; (try with_reducible rfl)
  try simp only [Act.put, List.setIfInBounds_toArray, List.set_cons_zero, List.set_cons_succ]
  refine wpAnyH_take (i := 13) (v := ?_) rfl (by kernel_rfl) (by kernel_rfl) (by kernel_rfl) (fun _ _ _ h => h) (Or.inl ⟨by rfl, ?_⟩) (by assumption) ?_
  rotate_left
  · intro w hSw; (try dsimp only at hSw); go_simp; (try with_reducible rfl)
  try simp only [Act.put, List.setIfInBounds_toArray, List.set_cons_zero, List.set_cons_succ]
  refine wpAnyH_ready (rs := [14]) (by kernel_rfl) (by simp) ?_
  refine AllReadyH.cons rfl (fun K hK => ?_) AllReadyH.nil
  go_simp
  refine hK.out _ _ ?_ (fun hNow => ?_)
  · first | (first | exact ⟨kept_cell hbB q0, kept_cell hbB q1, kept_cell hbB q2, kept_cell hbB q3, kept_cell hbB q4, kept_cell hbB q5⟩ | exact ⟨kept_cell hbA q0, kept_cell hbA q1, kept_cell hbA q2, kept_cell hbA q3, kept_cell hbA q4, kept_cell hbA q5⟩ | exact ⟨kept_cell hBd q0, kept_cell hBd q1, kept_cell hBd q2, kept_cell hBd q3, kept_cell hBd q4, kept_cell hBd q5⟩) | (dsimp only; (first | exact ⟨kept_cell hbB q0, kept_cell hbB q1, kept_cell hbB q2, kept_cell hbB q3, kept_cell hbB q4, kept_cell hbB q5⟩ | exact ⟨kept_cell hbA q0, kept_cell hbA q1, kept_cell hbA q2, kept_cell hbA q3, kept_cell hbA q4, kept_cell hbA q5⟩ | exact ⟨kept_cell hBd q0, kept_cell hBd q1, kept_cell hBd q2, kept_cell hBd q3, kept_cell hBd q4, kept_cell hBd q5⟩))
  clear hK K hHeld
  have hHeld := hNow
  clear hNow
  try simp only [Act.put, List.setIfInBounds_toArray, List.set_cons_zero, List.set_cons_succ]
  refine wpAnyH_ready (rs := [15]) (by kernel_rfl) (by simp) ?_
  refine AllReadyH.cons rfl (fun K hK => ?_) AllReadyH.nil
  go_simp
  refine hK.out _ _ ?_ (fun hNow => ?_)
  · first | (first | exact ⟨kept_cell hbB q0, kept_cell hbB q1, kept_cell hbB q2, kept_cell hbB q3, kept_cell hbB q4, kept_cell hbB q5⟩ | exact ⟨kept_cell hbA q0, kept_cell hbA q1, kept_cell hbA q2, kept_cell hbA q3, kept_cell hbA q4, kept_cell hbA q5⟩ | exact ⟨kept_cell hBd q0, kept_cell hBd q1, kept_cell hBd q2, kept_cell hBd q3, kept_cell hBd q4, kept_cell hBd q5⟩) | (dsimp only; (first | exact ⟨kept_cell hbB q0, kept_cell hbB q1, kept_cell hbB q2, kept_cell hbB q3, kept_cell hbB q4, kept_cell hbB q5⟩ | exact ⟨kept_cell hbA q0, kept_cell hbA q1, kept_cell hbA q2, kept_cell hbA q3, kept_cell hbA q4, kept_cell hbA q5⟩ | exact ⟨kept_cell hBd q0, kept_cell hBd q1, kept_cell hBd q2, kept_cell hBd q3, kept_cell hBd q4, kept_cell hBd q5⟩))
  clear hK K hHeld
  have hHeld := hNow
  clear hNow
  try simp only [Act.put, List.setIfInBounds_toArray, List.set_cons_zero, List.set_cons_succ]
  refine wpAnyH_done (by kernel_rfl) ?_ _
  go_wp2
  go_ret2
  exact ⟨rfl, below_tr hBw hbB⟩
end Go.Proofs.Ytacajmpggjgaiaa
