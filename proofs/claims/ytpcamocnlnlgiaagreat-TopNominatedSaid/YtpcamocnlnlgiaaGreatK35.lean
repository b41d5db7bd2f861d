/- Laws and walks: Tnl. -/
import Derived.Test.YtpcamocnlnlgiaaGreatK34
set_option maxRecDepth 100000
set_option maxHeartbeats 16000000
set_option linter.unusedVariables false
set_option linter.unusedSimpArgs false
namespace Go.Proofs.YtpcamocnlnlgiaaGreat.W
open Go.RowKit Go.Sd L B Bk
attribute [local go_sem] Oper.semAt_some
abbrev snO (a b elo ehi : Int) (rov dv : Value) : Obj := .cells #[.int .i64 a, .int .i64 b, .int .i64 elo, .int .i64 ehi, rov, dv] 30
set_option maxHeartbeats 100000000 in
theorem lawNominated (c : Con) (rv : Value) (s : Sea.S) (sv : Value) (w : World) (hr : RtsAt w rv c.rates) (hs : S.SeasonAt w sv s) :
    Calls Tryz.prog 3 #[conV rv c, sv] w fun e w' => e = .returned (.bool true) ∧ Below w.heap.size w w' := by
 have kK : Hid (∀ X, Calls Tryz.prog 5 #[] X fun e w' => e = .returned (.bool true) ∧ Below X.heap.size X w') := Lib.hid (fun X => B.progKnown20 X)
 obtain ⟨rov, dv, rfl, hro, hd⟩ := hs
 obtain ⟨ra, rcap, rfl, hrm, -⟩ := id hro
 obtain ⟨da, dcap, rfl, hdm, -⟩ := id hd
 obtain ⟨qa, qcap, rfl, hqm, -⟩ := id hr
 obtain ⟨W1, hW1⟩ : ∃ W, w.alloc (conO (.slice qa c.rates.length qcap) c) = W := ⟨_, rfl⟩
 obtain ⟨e1, b1, z1⟩ := boxedB hW1
 obtain ⟨W, hW⟩ : ∃ W, W1.alloc (snO s.space s.start s.elo s.ehi (.slice ra s.rows.length rcap) (.slice da s.days.length dcap)) = W := ⟨_, rfl⟩
 obtain ⟨e2, b2, z2⟩ := boxedB hW
 have bW := below_tr b1 b2
 have hrW := hr.mono bW
 have hdW := hd.mono bW
 have e1W := kept_block b2 e1
 obtain ⟨c0, c1, c2, c3, c4, c5, c6, c7, c8, c9, c10⟩ := row11 e1W
 obtain ⟨d0, d1, d2, d3, d4, d5⟩ := row6 e2
 have zc := (zqo e1W)
 have e1h := Lib.hid e1W
 have e2h := Lib.hid e2
 have bWh := Lib.hid bW
 have hrh := Lib.hid hrW
 have hdh := Lib.hid hdW
 have hr0 := Lib.hid hr
 have hd0 := Lib.hid hd
 unfold maxLen at hrm hdm hqm
 clear e1 e2 b1 b2 bW e1W hr hd hro hrW hdW
 by_cases t0 : c.rates.length ≤ 10
 case neg =>
  have i0 : (10 : Int) < c.rates.length := by omega
  go_enter Tryz.func3, Tryz.ntmps3
  go_wp2_with (first | (go_at_call 5; (with_reducible refine Calls.mono (kK.out _) ?_); rintro e w9 ⟨rfl, hB9⟩))
  go_ret
  exact ⟨rfl, below_tr bWh.out hB9⟩
 have i0 : ¬ (10 : Int) < c.rates.length := by omega
 cases t1 : c.ok
 case false =>
  have kC : Hid (Calls Tryz.prog 4 #[conV (.slice qa c.rates.length qcap) c] W fun e w' => e = .returned (.bool false) ∧ Below W.heap.size W w') := Lib.hid ((refContract c _ W hrh.out).mono fun e w' (h : BoolB _ _ e w') => h.lit t1)
  go_enter Tryz.func3, Tryz.ntmps3
  go_wp2_with (first | (go_at_call 4; (with_reducible refine Calls.mono kC.out ?_); rintro e w8 ⟨rfl, hB8⟩; obtain ⟨f0, f1, f2, f3, f4, f5, f6, f7, f8, f9, f10⟩ := row11 (kept_block hB8 e1h.out); obtain ⟨g0, g1, g2, g3, g4, g5⟩ := row6 (kept_block hB8 e2h.out)) | (go_at_call 5; (with_reducible refine Calls.mono (kK.out _) ?_); rintro e w9 ⟨rfl, hB9⟩))
  go_ret
  exact ⟨rfl, below_tr bWh.out (below_tr hB8 hB9)⟩
 have kC : Hid (Calls Tryz.prog 4 #[conV (.slice qa c.rates.length qcap) c] W fun e w' => e = .returned (.bool true) ∧ Below W.heap.size W w') := Lib.hid ((refContract c _ W hrh.out).mono fun e w' (h : BoolB _ _ e w') => h.lit t1)
 by_cases t2 : c.space ≤ 40
 case neg =>
  have i2 : (40 : Int) < c.space := by omega
  go_enter Tryz.func3, Tryz.ntmps3
  go_wp2_with (first | (go_at_call 4; (with_reducible refine Calls.mono kC.out ?_); rintro e w8 ⟨rfl, hB8⟩; obtain ⟨f0, f1, f2, f3, f4, f5, f6, f7, f8, f9, f10⟩ := row11 (kept_block hB8 e1h.out); obtain ⟨g0, g1, g2, g3, g4, g5⟩ := row6 (kept_block hB8 e2h.out)) | (go_at_call 5; (with_reducible refine Calls.mono (kK.out _) ?_); rintro e w9 ⟨rfl, hB9⟩))
  go_ret
  exact ⟨rfl, below_tr bWh.out (below_tr hB8 hB9)⟩
 have i2 : ¬ (40 : Int) < c.space := by omega
 by_cases t3 : s.days.length ≤ 8
 case neg =>
  have i3 : (8 : Int) < s.days.length := by omega
  go_enter Tryz.func3, Tryz.ntmps3
  go_wp2_with (first | (go_at_call 4; (with_reducible refine Calls.mono kC.out ?_); rintro e w8 ⟨rfl, hB8⟩; obtain ⟨f0, f1, f2, f3, f4, f5, f6, f7, f8, f9, f10⟩ := row11 (kept_block hB8 e1h.out); obtain ⟨g0, g1, g2, g3, g4, g5⟩ := row6 (kept_block hB8 e2h.out)) | (go_at_call 5; (with_reducible refine Calls.mono (kK.out _) ?_); rintro e w9 ⟨rfl, hB9⟩))
  go_ret
  exact ⟨rfl, below_tr bWh.out (below_tr hB8 hB9)⟩
 have i3 : ¬ (8 : Int) < s.days.length := by omega
 by_cases t4 : 1 ≤ s.days.length
 case neg =>
  have i4 : (s.days.length : Int) < 1 := by omega
  go_enter Tryz.func3, Tryz.ntmps3
  go_wp2_with (first | (go_at_call 4; (with_reducible refine Calls.mono kC.out ?_); rintro e w8 ⟨rfl, hB8⟩; obtain ⟨f0, f1, f2, f3, f4, f5, f6, f7, f8, f9, f10⟩ := row11 (kept_block hB8 e1h.out); obtain ⟨g0, g1, g2, g3, g4, g5⟩ := row6 (kept_block hB8 e2h.out)) | (go_at_call 5; (with_reducible refine Calls.mono (kK.out _) ?_); rintro e w9 ⟨rfl, hB9⟩))
  go_ret
  exact ⟨rfl, below_tr bWh.out (below_tr hB8 hB9)⟩
 have i4 : ¬ (s.days.length : Int) < 1 := by omega
 by_cases t5 : c.lo ≤ 0
 case neg =>
  have i5 : 0 < c.lo := by omega
  go_enter Tryz.func3, Tryz.ntmps3
  go_wp2_with (first | (go_at_call 4; (with_reducible refine Calls.mono kC.out ?_); rintro e w8 ⟨rfl, hB8⟩; obtain ⟨f0, f1, f2, f3, f4, f5, f6, f7, f8, f9, f10⟩ := row11 (kept_block hB8 e1h.out); obtain ⟨g0, g1, g2, g3, g4, g5⟩ := row6 (kept_block hB8 e2h.out)) | (go_at_call 5; (with_reducible refine Calls.mono (kK.out _) ?_); rintro e w9 ⟨rfl, hB9⟩))
  go_ret
  exact ⟨rfl, below_tr bWh.out (below_tr hB8 hB9)⟩
 have i5 : ¬ 0 < c.lo := by omega
 by_cases t6 : (s.days.length : Int) - 1 ≤ c.hi
 case neg =>
  have i6 : c.hi < (s.days.length : Int) - 1 := by omega
  have z9 : IntKind.i64.wrap ((s.days.length : Int) - 1) = (s.days.length : Int) - 1 := IntWalk.i64_in _ (by omega)
  go_enter Tryz.func3, Tryz.ntmps3
  go_wp2_with (first | (go_at_call 4; (with_reducible refine Calls.mono kC.out ?_); rintro e w8 ⟨rfl, hB8⟩; obtain ⟨f0, f1, f2, f3, f4, f5, f6, f7, f8, f9, f10⟩ := row11 (kept_block hB8 e1h.out); obtain ⟨g0, g1, g2, g3, g4, g5⟩ := row6 (kept_block hB8 e2h.out)) | (go_at_call 5; (with_reducible refine Calls.mono (kK.out _) ?_); rintro e w9 ⟨rfl, hB9⟩))
  go_ret
  exact ⟨rfl, below_tr bWh.out (below_tr hB8 hB9)⟩
 have i6 : ¬ c.hi < (s.days.length : Int) - 1 := by omega
 have z9 : IntKind.i64.wrap ((s.days.length : Int) - 1) = (s.days.length : Int) - 1 := IntWalk.i64_in _ (by omega)
 go_enter Tryz.func3, Tryz.ntmps3
 go_wp2_with (first | (go_at_call 4; (with_reducible refine Calls.mono kC.out ?_); rintro e w8 ⟨rfl, hB8⟩; obtain ⟨f0, f1, f2, f3, f4, f5, f6, f7, f8, f9, f10⟩ := row11 (kept_block hB8 e1h.out); obtain ⟨g0, g1, g2, g3, g4, g5⟩ := row6 (kept_block hB8 e2h.out)))
 have r8 := kept_block hB8 e2h.out
 have q8 := kept_block hB8 e1h.out
 have fz8 : ∀ i, w8.frozen? ⟨W1.heap.size, i, none⟩ = false := fun i => frz r8 i
 have zr8 := (zqo r8)
 obtain ⟨X1, hX1⟩ : ∃ X, (w8.setCell ⟨W1.heap.size, 0, none⟩ (.int .i64 c.space)).drew = X := ⟨_, rfl⟩
 have rX1 : X1.heap[W1.heap.size]? = some (snO c.space s.start s.elo s.ehi (.slice ra s.rows.length rcap) (.slice da s.days.length dcap)) := by rw [← hX1]; exact kept_block (Below.refl _ _).drew (by rw [row_set r8]; rfl)
 have kX1 : Kept (fun j => j ≠ W1.heap.size) w8 X1 := by rw [← hX1]; exact ((Kept.refl _ _).setCell (p := ⟨W1.heap.size, 0, none⟩) (.inl fun h => h rfl) _).trans (.all (Below.refl _ _).drew)
 obtain ⟨X2, hX2⟩ : ∃ X, X1.setCell ⟨W1.heap.size, 1, none⟩ (.int .i64 c.gas) = X := ⟨_, rfl⟩
 have rX2 : X2.heap[W1.heap.size]? = some (snO c.space c.gas s.elo s.ehi (.slice ra s.rows.length rcap) (.slice da s.days.length dcap)) := by rw [← hX2, row_set rX1]; rfl
 have kX2 : Kept (fun j => j ≠ W1.heap.size) X1 X2 := by rw [← hX2]; exact (Kept.refl _ _).setCell (p := ⟨W1.heap.size, 1, none⟩) (.inl fun h => h rfl) _
 obtain ⟨X, hX⟩ : ∃ X, X2.setCell ⟨W1.heap.size, 4, none⟩ (.slice none 0 0) = X := ⟨_, rfl⟩
 have rX : X.heap[W1.heap.size]? = some (snO c.space c.gas s.elo s.ehi (.slice none 0 0) (.slice da s.days.length dcap)) := by rw [← hX, row_set rX2]; rfl
 have kX3 : Kept (fun j => j ≠ W1.heap.size) X2 X := by rw [← hX]; exact (Kept.refl _ _).setCell (p := ⟨W1.heap.size, 4, none⟩) (.inl fun h => h rfl) _
 have hne : w.heap.size ≠ W1.heap.size := by omega
 have q1 := (kX1.block _ (zqo q8) hne).trans q8
 have q2 := (kX2.block _ (zqo q1) hne).trans q1
 have q3 := (kX3.block _ (zqo q2) hne).trans q2
 obtain ⟨-, a1, -, -, -, a5, -⟩ := row11 (kept_block (Below.refl _ w8).drew q8)
 obtain ⟨-, b1, -, -, -, b5, -⟩ := row11 q1
 obtain ⟨-, m1, -, -, -, m5, -⟩ := row11 q2
 obtain ⟨-, n1, -, -, -, n5, -⟩ := row11 q3
 obtain ⟨-, x1, -, -, -, -⟩ := row6 rX1
 obtain ⟨-, -, -, -, x4, -⟩ := row6 rX2
 have fx1 : ∀ i, X1.frozen? ⟨W1.heap.size, i, none⟩ = false := fun i => frz rX1 i
 have fx2 : ∀ i, X2.frozen? ⟨W1.heap.size, i, none⟩ = false := fun i => frz rX2 i
 have zx1 := (zqo rX1)
 have zx2 := (zqo rX2)
 have bX : Below w.heap.size w X := (below_tr bWh.out hB8).trans (((kX1.trans kX2).trans kX3).below (B := w.heap.size) (by have := hB8.size; omega) fun j hj => by omega)
 have kWX : Kept (fun j => j ≠ W1.heap.size) W X := (Kept.all hB8).trans ((kX1.trans kX2).trans kX3)
 have rXh := Lib.hid rX
 have qXh := Lib.hid q3
 have bXh := Lib.hid bX
 have kWXh := Lib.hid kWX
 have zX : W1.heap.size < X.heap.size := (zqo rX)
 clear r8 q8 rX1 rX2 rX kX1 kX2 kX3 q1 q2 q3 bX kWX f0 f1 f2 f3 f4 f5 f6 f7 f8 f9 f10
 refine wp_region_held_drew (S := (fun w' => w'.cell? ⟨w.heap.size, 1, none⟩ = some (.int .i64 c.space) ∧ w'.cell? ⟨w.heap.size, 5, none⟩ = some (.int .i64 c.gas))) (by kernel_rfl) ?_ (fun hHeld => ?_)
 · first | (first | exact ⟨a1, a5⟩ | exact ⟨b1, b5⟩ | exact ⟨m1, m5⟩ | exact ⟨n1, n5⟩) | (dsimp only; (first | exact ⟨a1, a5⟩ | exact ⟨b1, b5⟩ | exact ⟨m1, m5⟩ | exact ⟨n1, n5⟩))
 refine wpAnyH_take (i := 0) (v := ?_) rfl (by kernel_rfl) (by kernel_rfl) (by kernel_rfl) (fun _ _ _ h => h) (Or.inl ⟨by rfl, ?_⟩) (by assumption) ?_
 rotate_left
 · intro w hSw; (try dsimp only at hSw); go_simp; (try with_reducible rfl)
 try simp only [Act.put, List.getElem_toArray, List.getElem_cons_succ, List.getElem_cons_zero, List.setIfInBounds_toArray, List.set_cons_zero, List.set_cons_succ]
 refine wpAnyH_take (i := 1) (v := ?_) rfl (by kernel_rfl) (by kernel_rfl) (by kernel_rfl) (fun _ _ _ h => h) (Or.inl ⟨by rfl, ?_⟩) (by assumption) ?_
 rotate_left
 · intro w hSw; (try dsimp only at hSw); go_simp; (try with_reducible rfl)
 try simp only [Act.put, List.getElem_toArray, List.getElem_cons_succ, List.getElem_cons_zero, List.setIfInBounds_toArray, List.set_cons_zero, List.set_cons_succ]
 refine wpAnyH_take (i := 2) (v := ?_) rfl (by kernel_rfl) (by kernel_rfl) (by kernel_rfl) (fun _ _ _ h => h) (Or.inl ⟨by rfl, ?_⟩) (by assumption) ?_
 rotate_left
 · intro w hSw; (try dsimp only at hSw); go_simp; (try with_reducible rfl)
 try simp only [Act.put, List.getElem_toArray, List.getElem_cons_succ, List.getElem_cons_zero, List.setIfInBounds_toArray, List.set_cons_zero, List.set_cons_succ]
 refine wpAnyH_take (i := 3) (v := ?_) rfl (by kernel_rfl) (by kernel_rfl) (by kernel_rfl) (fun _ _ _ h => h) (Or.inl ⟨by rfl, ?_⟩) (by assumption) ?_
 rotate_left
 · intro w hSw; (try dsimp only at hSw); go_simp; (try with_reducible rfl)
 try simp only [Act.put, List.getElem_toArray, List.getElem_cons_succ, List.getElem_cons_zero, List.setIfInBounds_toArray, List.set_cons_zero, List.set_cons_succ]
 refine wpAnyH_take (i := 4) (v := ?_) rfl (by kernel_rfl) (by kernel_rfl) (by kernel_rfl) (fun _ _ _ h => h) (Or.inl ⟨by rfl, ?_⟩) (by assumption) ?_
 rotate_left
 · intro w hSw; (try dsimp only at hSw); go_simp; (try with_reducible rfl)
 try simp only [Act.put, List.getElem_toArray, List.getElem_cons_succ, List.getElem_cons_zero, List.setIfInBounds_toArray, List.set_cons_zero, List.set_cons_succ]
 refine wpAnyH_ready (rs := [5]) (by kernel_rfl) (by simp) ?_
 refine AllReadyH.cons rfl (fun K hK => ?_) AllReadyH.nil
 go_simp
 refine hK.out _ _ ?_ (fun hNow => ?_)
 · first | (first | exact ⟨a1, a5⟩ | exact ⟨b1, b5⟩ | exact ⟨m1, m5⟩ | exact ⟨n1, n5⟩) | (dsimp only; (first | exact ⟨a1, a5⟩ | exact ⟨b1, b5⟩ | exact ⟨m1, m5⟩ | exact ⟨n1, n5⟩))
 clear hK K hHeld
 have hHeld := hNow
 clear hNow
 try simp only [Act.put, List.getElem_toArray, List.getElem_cons_succ, List.getElem_cons_zero, List.setIfInBounds_toArray, List.set_cons_zero, List.set_cons_succ]
 refine wpAnyH_take (i := 6) (v := ?_) rfl (by kernel_rfl) (by kernel_rfl) (by kernel_rfl) (fun _ _ _ h => h) (Or.inl ⟨by rfl, ?_⟩) (by assumption) ?_
 rotate_left
 · intro w hSw; (try dsimp only at hSw); go_simp; (try with_reducible rfl)
 try simp only [Act.put, List.getElem_toArray, List.getElem_cons_succ, List.getElem_cons_zero, List.setIfInBounds_toArray, List.set_cons_zero, List.set_cons_succ]
 refine wpAnyH_ready (rs := [7]) (by kernel_rfl) (by simp) ?_
 refine AllReadyH.cons rfl (fun K hK => ?_) AllReadyH.nil
 go_simp
 refine hK.out _ _ ?_ (fun hNow => ?_)
 · first | (first | exact ⟨a1, a5⟩ | exact ⟨b1, b5⟩ | exact ⟨m1, m5⟩ | exact ⟨n1, n5⟩) | (dsimp only; (first | exact ⟨a1, a5⟩ | exact ⟨b1, b5⟩ | exact ⟨m1, m5⟩ | exact ⟨n1, n5⟩))
 clear hK K hHeld
 have hHeld := hNow
 clear hNow
 try simp only [Act.put, List.getElem_toArray, List.getElem_cons_succ, List.getElem_cons_zero, List.setIfInBounds_toArray, List.set_cons_zero, List.set_cons_succ]
 refine wpAnyH_take (i := 8) (v := ?_) rfl (by kernel_rfl) (by kernel_rfl) (by kernel_rfl) (fun _ _ _ h => h) (Or.inl ⟨by rfl, ?_⟩) (by assumption) ?_
 rotate_left
 · intro w hSw; (try dsimp only at hSw); go_simp; (try with_reducible rfl)
 try simp only [Act.put, List.getElem_toArray, List.getElem_cons_succ, List.getElem_cons_zero, List.setIfInBounds_toArray, List.set_cons_zero, List.set_cons_succ]
 refine wpAnyH_ready (rs := [9]) (by kernel_rfl) (by simp) ?_
 refine AllReadyH.cons rfl (fun K hK => ?_) AllReadyH.nil
 go_simp
 refine hK.out _ _ ?_ (fun hNow => ?_)
 · first | (first | exact ⟨a1, a5⟩ | exact ⟨b1, b5⟩ | exact ⟨m1, m5⟩ | exact ⟨n1, n5⟩) | (dsimp only; (first | exact ⟨a1, a5⟩ | exact ⟨b1, b5⟩ | exact ⟨m1, m5⟩ | exact ⟨n1, n5⟩))
 clear hK K hHeld
 have hHeld := hNow
 clear hNow
 try simp only [Act.put, List.getElem_toArray, List.getElem_cons_succ, List.getElem_cons_zero, List.setIfInBounds_toArray, List.set_cons_zero, List.set_cons_succ]
 refine wpAnyH_done (by kernel_rfl) ?_ _
 clear hX1 hX2 hX a1 a5 b1 b5 m1 m5 n1 n5 x1 x4 fx1 fx2 zx1 zx2 fz8 zr8 g0 g1 g2 g3 g4 g5 hB8 c0 c1 c2 c3 c4 c5 c6 c7 c8 c9 c10 d0 d1 d2 d3 d4 d5 zc
 go_wp2_with (fail)
 have okc := Con.ok_head t1
 have hsp : c.space.toNat + 1 = (c.space + 1).toNat := by omega
 obtain ⟨s0, hs0⟩ : ∃ n : Nat, c.space = n := ⟨c.space.toNat, by omega⟩
 have hs0h := Lib.hid hs0
 clear hs0 hsp
 go_loopw [5] (fun i wr => ∃ k : Nat, k ≤ s0 + 1 ∧ i = .int .i64 k ∧ Hid (∃ vr, wr.heap[W1.heap.size]? = some (snO c.space c.gas s.elo s.ehi vr (.slice da s.days.length dcap)) ∧ wr.ownsRow X.heap.size 37 3 vr (ratRows c k).length ((ratRows c k).flatMap srEn) ∧ Kept (fun j => j ≠ W1.heap.size ∧ j < X.heap.size) X wr)) (fun i _ => s0 + 1 - (intOf i).toNat)
 case atStart => exact ⟨0, by omega, rfl, Lib.hid ⟨_, rXh.out, World.ownsRow_nil X _ _ 3, Kept.refl _ _⟩⟩
 case round =>
  obtain ⟨k, hk, rfl, hH⟩ := hrel
  obtain ⟨vr, hrow, hown, hkp⟩ := hH.out
  have zk := hkp.size
  have hq := (hkp.block _ (by omega) (by omega)).trans qXh.out
  obtain ⟨c0, c1, c2, c3, c4, c5, c6, c7, c8, c9, c10⟩ := row11 hq
  have zc := (zqo hq)
  by_cases hlt : k ≤ s0
  · have hks : (k : Int) ≤ c.space := by have := hs0h.out; omega
    have hks2 : (k : Int) ≤ (s0 : Int) := by omega
    have bwr : Below w.heap.size w wr := bXh.out.trans (hkp.below (B := w.heap.size) (by omega) fun j hj => by omega)
    have kR : Hid (Calls Tryz.prog 6 #[conV (.slice qa c.rates.length qcap) c, .int .i64 k] wr fun e w' => e = .returned (.tuple #[.int .i64 (rateOf c k).inn, .int .i64 (rateOf c k).out, .int .i64 0]) ∧ Below wr.heap.size wr w') := Lib.hid (progRate c t1 _ k ⟨by omega, hks⟩ wr (hr0.out.mono bwr))
    have hrat : ratRow c k = ⟨k, min (rateOf c k).inn 100, min (rateOf c k).out 100⟩ := rfl
    have hnext : ratRows c (k + 1) = ratStep (ratRows c k) (ratRow c k) := rfl
    obtain ⟨q, hq2⟩ : ∃ q, rateOf c k = q := ⟨_, rfl⟩
    rw [hq2] at kR hrat
    rw [hrat] at hnext
    have hm1 : (if (100 : Int) < q.inn then 100 else q.inn) = min q.inn 100 := by omega
    have hm2 : (if (100 : Int) < q.out then 100 else q.out) = min q.out 100 := by omega
    have hk64 : IntKind.i64.wrap ((k : Int) + 1) = (k : Int) + 1 := IntWalk.i64_in _ (by omega)
    have hlen := Lib.hid (show (ratRows c k).length ≤ k from by
     by_cases h : 0 < k
     · exact (rat_last c k h).2.1
     · obtain rfl : k = 0 := by omega
       simp [ratRows])
    obtain ⟨l, hl⟩ : ∃ l, ratRows c k = l := ⟨_, rfl⟩
    rw [hl] at hown hlen hnext
    obtain ⟨va, vc, rfl⟩ := own_slice hown
    obtain ⟨d0, d1, d2, d3, d4, d5⟩ := row6 hrow
    have hrowh := Lib.hid hrow
    have hownh := Lib.hid hown
    have hkph := Lib.hid hkp
    have hnexth := Lib.hid hnext
    clear hrow hown hkp hrat hnext hq hq2 hl bwr
    go_upto_region 12 with (go_at_call 6; (with_reducible refine Calls.mono kR.out ?_); rintro e w1 ⟨rfl, hB1⟩; have q1 := kept_block hB1 hrowh.out; obtain ⟨e0, e1, e2, e3, e4, e5⟩ := row6 q1; have ze := (zqo q1))
    obtain ⟨V, hV⟩ : ∃ V, w1.alloc (.cells #[.int .i64 k, .int .i64 (min q.inn 100), .int .i64 (min q.out 100)] 37) = V := ⟨_, rfl⟩
    obtain ⟨eV, bV, zV⟩ := boxedB hV
    rw [hV]
    have bwV := below_tr hB1 bV
    have hownV := own_mono hownh.out bwV
    have hrowV := kept_block bV q1
    obtain ⟨y0, y1, y2⟩ := row3b eV
    clear e0 e1 e2 e3 e4 e5 ze c0 c1 c2 c3 c4 c5 c6 c7 c8 c9 c10 d0 d1 d2 d3 d4 d5 zc hm1 hm2 kR
    obtain ⟨e0, e1, e2, e3, e4, e5⟩ := row6 hrowV
    have ze := (zqo hrowV)
    have hl1000 : l.length ≤ 1000 := by have := hlen.out; omega
    have zw1 := hB1.size
    have zVw := bV.size
    have hzk : X.heap.size ≤ wr.heap.size := zk
    -- a row more
    have more : Hid (∀ D : World, Below V.heap.size V D → ratNew l ⟨k, min q.inn 100, min q.out 100⟩ → ∃ fv W5, (Builtin.append_ #[27, 27] 27 #[.slice va l.length vc, .slice (some ⟨D.heap.size, 0, none⟩) 1 1]).run Tryz.prog (D.alloc (.cells #[.int .i64 k, .int .i64 (min q.inn 100), .int .i64 (min q.out 100)] 37)) = .ok fv W5 ∧
        (∃ fa fc, fv = .slice fa (l.length + 1) fc) ∧ W5.heap[W1.heap.size]? = some (snO c.space c.gas s.elo s.ehi (.slice va l.length vc) (.slice da s.days.length dcap)) ∧
        ∃ wr', W5.setCell ⟨W1.heap.size, 4, none⟩ fv = wr' ∧ wr'.heap[W1.heap.size]? = some (snO c.space c.gas s.elo s.ehi fv (.slice da s.days.length dcap)) ∧ wr'.ownsRow X.heap.size 37 3 fv (ratRows c (k + 1)).length ((ratRows c (k + 1)).flatMap srEn) ∧ Kept (fun j => j ≠ W1.heap.size ∧ j < X.heap.size) X wr') := by
     refine Lib.hid fun D hD hnew => ?_
     obtain ⟨W4, hW4⟩ : ∃ W, D.alloc (.cells #[.int .i64 k, .int .i64 (min q.inn 100), .int .i64 (min q.out 100)] 37) = W := ⟨_, rfl⟩
     obtain ⟨e4', b4, z4⟩ := boxedB hW4
     rw [hW4]
     have hBD := below_tr (below_tr bwV hD) b4
     obtain ⟨fv, W5, hrun, o5, k5⟩ := own_app (t := 27) Tryz.underlying27 infoSR (by decide) (by decide) (by decide) X.heap.size W4 (.slice va l.length vc) l.length (l.flatMap srEn) [.int .i64 k, .int .i64 (min q.inn 100), .int .i64 (min q.out 100)] D.heap.size (own_mono hownh.out hBD) hl1000 (by have := hBD.size; omega) rfl (by simp [Value.oneCell']) e4'
     have hlb := own_lt (own_mono hownh.out hBD)
     have hr5 := (k5.block _ (Array.getElem?_eq_some_iff.1 (kept_block hBD hrowh.out)).1 (fun e => by have := hlb _ e; omega)).trans (kept_block hBD hrowh.out)
     refine ⟨fv, W5, hrun, own_slice o5, hr5, _, rfl, by rw [row_set hr5]; rfl, ?_, ?_⟩
     · have he : ratRows c (k + 1) = l ++ [⟨k, min q.inn 100, min q.out 100⟩] := by rw [hnexth.out]; exact if_pos hnew
       rw [he, List.flatMap_append, List.length_append]
       refine own_kept (S := fun j => j ≠ W1.heap.size) ?_ ((Kept.refl _ _).setCell (p := ⟨W1.heap.size, 4, none⟩) (.inl fun h => h rfl) _) fun j e => by have := (own_lt o5 j e).1; omega
       simpa using o5
     · exact ((hkph.out.trans (.all hBD)).trans (k5.mono fun j _ h e => by have := (hlb _ e).1; omega)).trans ((Kept.refl _ _).setCell (p := ⟨W1.heap.size, 4, none⟩) (.inl fun h => h.1 rfl) _)
    have done : Hid (∀ D : World, Below V.heap.size V D → ¬ ratNew l ⟨k, min q.inn 100, min q.out 100⟩ → D.heap[W1.heap.size]? = some (snO c.space c.gas s.elo s.ehi (.slice va l.length vc) (.slice da s.days.length dcap)) ∧ D.ownsRow X.heap.size 37 3 (.slice va l.length vc) (ratRows c (k + 1)).length ((ratRows c (k + 1)).flatMap srEn) ∧ Kept (fun j => j ≠ W1.heap.size ∧ j < X.heap.size) X D) := by
     refine Lib.hid fun D hD hnew => ?_
     have hBD := below_tr bwV hD
     have he : ratRows c (k + 1) = l := by rw [hnexth.out]; exact if_neg hnew
     rw [he]
     exact ⟨kept_block hBD hrowh.out, own_mono hownh.out hBD, hkph.out.trans (.all hBD)⟩
    by_cases hl0 : l.length = 0
    · have hnew : ratNew l ⟨k, min q.inn 100, min q.out 100⟩ := .inl hl0
      have hz0 : ((l.length : Int) == 0) = true := by simp [hl0]
      have hz1 : (l.length : Int) = 0 := by omega
      replace hl0 := Lib.hid hl0
      clear hz1
      go_wp2_with (fail)
      go_quiet (fail)
      obtain ⟨D, hD⟩ : ∃ D, V.drewN nq = D := ⟨_, rfl⟩
      have hBD : Below V.heap.size V D := by rw [← hD]; exact below_drewN (Below.refl _ _) nq
      rw [hD]
      obtain ⟨fv, W5, hrun, ⟨fa, fc, rfl⟩, hr5, wr', hwr, hfin⟩ := more.out D hBD hnew
      replace hfin := Lib.hid hfin
      have hDr := kept_block hBD hrowV
      clear e0 e1 e2 e3 e4 e5 ze y0 y1 y2
      obtain ⟨e0, e1, e2, e3, e4, e5⟩ := row6 hDr
      have ze := (zqo hDr)
      obtain ⟨y0, y1, y2⟩ := row3b (kept_block hBD eV)
      obtain ⟨W4, hW4⟩ : ∃ W, D.alloc (.cells #[.int .i64 k, .int .i64 (min q.inn 100), .int .i64 (min q.out 100)] 37) = W := ⟨_, rfl⟩
      rw [hW4] at hrun
      have zy : w1.heap.size < D.heap.size := by have := hBD.size; omega
      obtain ⟨-, -, -, -, x4, -⟩ := row6 hr5
      have zx5 := (zqo hr5)
      have fx5 : W5.frozen? ⟨W1.heap.size, 4, none⟩ = false := frz hr5 4
      clear hr5 hDr hnew more done hownV hrowV
      go_wp2_with (at_builtin; (with_reducible refine wp_at W4 ?_); refine wpList_app_run (by rfl) _ _ _ (by rfl) (by rfl) (by rfl) hrun ?_)
      exact ⟨⟨k + 1, by omega, by go_num, Lib.hid ⟨_, hfin.out⟩⟩, by simp [intOf]; omega⟩
    · obtain ⟨m, hm⟩ : ∃ m, l.length = m + 1 := ⟨l.length - 1, by omega⟩
      have hz0 : ((l.length : Int) == 0) = false := by rw [beq_eq_false_iff_ne]; omega
      have hidx : IntKind.i64.wrap ((l.length : Int) - 1) = (m : Int) := by rw [IntWalk.i64_in _ (by omega)]; omega
      obtain ⟨lb, loff, lc, hsl, hlb, hcells⟩ := own_block_lt (own_els (m := 3) (enc := srEn) (fun _ => rfl) ⟨0, 0, 0⟩ hownV (by omega)) (by omega)
      cases hsl
      have hml : (m : Int) < l.length := by omega
      have hm0 : (0 : Int) ≤ m := by omega
      obtain ⟨lr, hlr⟩ : ∃ r, l.getD m ⟨0, 0, 0⟩ = r := ⟨_, rfl⟩
      have j1 : V.cell? ⟨lb, loff + m * 3 + 1, none⟩ = some (.int .i64 lr.inn) := by rw [← hlr]; exact hcells m 1 _ (by omega) rfl
      have j2 : V.cell? ⟨lb, loff + m * 3 + 2, none⟩ = some (.int .i64 lr.out) := by rw [← hlr]; exact hcells m 2 _ (by omega) rfl
      have hlast : Hid (lastRow l = lr) := Lib.hid (by unfold lastRow Sea.rowAt; rw [hm, Nat.add_sub_cancel]; exact hlr)
      have hlen0 : Hid (¬ l.length = 0) := Lib.hid hl0
      replace hm := Lib.hid hm
      clear hcells hlr hl0
      by_cases hA : lr.inn = min q.inn 100
      · by_cases hB : lr.out = min q.out 100
        · have hnew : ¬ ratNew l ⟨k, min q.inn 100, min q.out 100⟩ := by
           unfold ratNew
           rw [hlast.out]
           rintro (h | h | h)
           · exact hlen0.out h
           · exact h hA
           · exact h hB
          rw [hA] at j1
          rw [hB] at j2
          clear hA hB
          go_wp2_with (fail)
          go_quiet (fail)
          obtain ⟨D, hD⟩ : ∃ D, V.drewN nq = D := ⟨_, rfl⟩
          have hBD : Below V.heap.size V D := by rw [← hD]; exact below_drewN (Below.refl _ _) nq
          rw [hD]
          have hfin := Lib.hid (done.out D hBD hnew)
          clear more done hownV hrowV e0 e1 e2 e3 e4 e5 y0 y1 y2
          go_wp2_with (fail)
          exact ⟨⟨k + 1, by omega, by go_num, Lib.hid ⟨_, hfin.out⟩⟩, by simp [intOf]; omega⟩
        · have hnew : ratNew l ⟨k, min q.inn 100, min q.out 100⟩ := .inr (.inr (by rw [hlast.out]; exact hB))
          have hnb : (lr.out == min q.out 100) = false := by simpa using hB
          have hnb2 : (lr.out != min q.out 100) = true := by simpa using hB
          rw [hA] at j1
          replace hB := Lib.hid hB
          clear hA
          go_wp2_with (fail)
          go_quiet (fail)
          obtain ⟨D, hD⟩ : ∃ D, V.drewN nq = D := ⟨_, rfl⟩
          have hBD : Below V.heap.size V D := by rw [← hD]; exact below_drewN (Below.refl _ _) nq
          rw [hD]
          obtain ⟨fv, W5, hrun, ⟨fa, fc, rfl⟩, hr5, wr', hwr, hfin⟩ := more.out D hBD hnew
          replace hfin := Lib.hid hfin
          have hDr := kept_block hBD hrowV
          clear e0 e1 e2 e3 e4 e5 ze y0 y1 y2
          obtain ⟨e0, e1, e2, e3, e4, e5⟩ := row6 hDr
          have ze := (zqo hDr)
          obtain ⟨y0, y1, y2⟩ := row3b (kept_block hBD eV)
          obtain ⟨W4, hW4⟩ : ∃ W, D.alloc (.cells #[.int .i64 k, .int .i64 (min q.inn 100), .int .i64 (min q.out 100)] 37) = W := ⟨_, rfl⟩
          rw [hW4] at hrun
          have zy : w1.heap.size < D.heap.size := by have := hBD.size; omega
          obtain ⟨-, -, -, -, x4, -⟩ := row6 hr5
          have zx5 := (zqo hr5)
          have fx5 : W5.frozen? ⟨W1.heap.size, 4, none⟩ = false := frz hr5 4
          clear hr5 hDr hnew more done hownV hrowV
          go_wp2_with (at_builtin; (with_reducible refine wp_at W4 ?_); refine wpList_app_run (by rfl) _ _ _ (by rfl) (by rfl) (by rfl) hrun ?_)
          exact ⟨⟨k + 1, by omega, by go_num, Lib.hid ⟨_, hfin.out⟩⟩, by simp [intOf]; omega⟩
      · have hnew : ratNew l ⟨k, min q.inn 100, min q.out 100⟩ := .inr (.inl (by rw [hlast.out]; exact hA))
        have hnb : (lr.inn == min q.inn 100) = false := by simpa using hA
        have hnb2 : (lr.inn != min q.inn 100) = true := by simpa using hA
        replace hA := Lib.hid hA
        go_wp2_with (fail)
        go_quiet (fail)
        obtain ⟨D, hD⟩ : ∃ D, V.drewN nq = D := ⟨_, rfl⟩
        have hBD : Below V.heap.size V D := by rw [← hD]; exact below_drewN (Below.refl _ _) nq
        rw [hD]
        obtain ⟨fv, W5, hrun, ⟨fa, fc, rfl⟩, hr5, wr', hwr, hfin⟩ := more.out D hBD hnew
        replace hfin := Lib.hid hfin
        have hDr := kept_block hBD hrowV
        clear e0 e1 e2 e3 e4 e5 ze y0 y1 y2
        obtain ⟨e0, e1, e2, e3, e4, e5⟩ := row6 hDr
        have ze := (zqo hDr)
        obtain ⟨y0, y1, y2⟩ := row3b (kept_block hBD eV)
        obtain ⟨W4, hW4⟩ : ∃ W, D.alloc (.cells #[.int .i64 k, .int .i64 (min q.inn 100), .int .i64 (min q.out 100)] 37) = W := ⟨_, rfl⟩
        rw [hW4] at hrun
        have zy : w1.heap.size < D.heap.size := by have := hBD.size; omega
        obtain ⟨-, -, -, -, x4, -⟩ := row6 hr5
        have zx5 := (zqo hr5)
        have fx5 : W5.frozen? ⟨W1.heap.size, 4, none⟩ = false := frz hr5 4
        clear hr5 hDr hnew more done hownV hrowV
        go_wp2_with (at_builtin; (with_reducible refine wp_at W4 ?_); refine wpList_app_run (by rfl) _ _ _ (by rfl) (by rfl) (by rfl) hrun ?_)
        exact ⟨⟨k + 1, by omega, by go_num, Lib.hid ⟨_, hfin.out⟩⟩, by simp [intOf]; omega⟩
  · obtain rfl : k = s0 + 1 := by omega
    have hks : ¬ (((s0 + 1 : Nat) : Int) ≤ c.space) := by have := hs0h.out; omega
    obtain ⟨va, vc, rfl⟩ := own_slice hown
    obtain ⟨d0, d1, d2, d3, d4, d5⟩ := row6 hrow
    have zd := (zqo hrow)
    have fd5 : wr.frozen? ⟨W1.heap.size, 5, none⟩ = false := frz hrow 5
    obtain ⟨l, hl⟩ : ∃ l, ratRows c (s0 + 1) = l := ⟨_, rfl⟩
    rw [hl] at hown d4 hrow
    have hlen := (rat_last c (s0 + 1) (by omega)).2.1
    have hlen1 := (rat_last c (s0 + 1) (by omega)).1
    rw [hl] at hlen hlen1
    have hls : s0 ≤ 40 := by have := hs0h.out; omega
    obtain ⟨Y, hY⟩ : ∃ Y, wr.setCell ⟨W1.heap.size, 5, none⟩ (.slice none 0 0) = Y := ⟨_, rfl⟩
    have kY : Kept (fun j => j ≠ W1.heap.size) wr Y := by rw [← hY]; exact (Kept.refl _ _).setCell (p := ⟨W1.heap.size, 5, none⟩) (.inl fun h => h rfl) _
    have rY : Y.heap[W1.heap.size]? = some (snO c.space c.gas s.elo s.ehi (.slice va l.length vc) (.slice none 0 0)) := by rw [← hY, row_set hrow]; rfl
    have oY := own_kept hown kY fun j e => by have := (own_lt hown j e).1; omega
    have qY := (kY.block _ (zqo hq) (by omega)).trans hq
    have zY := kY.size
    have bY : Below w.heap.size w Y := (bXh.out.trans (hkp.below (B := w.heap.size) (by omega) fun j hj => by omega)).trans (kY.below (B := w.heap.size) (by omega) fun j hj => by omega)
    have rYh := Lib.hid rY
    have oYh := Lib.hid oY
    have qYh := Lib.hid qY
    have bYh := Lib.hid bY
    obtain ⟨da', dcap', he, -, hdc⟩ := hd0.out
    cases he
    obtain ⟨db, doff, rfl, hdb, hdx⟩ := hdc (by omega)
    have hdxh := Lib.hid hdx
    replace hl := Lib.hid hl
    replace hlen := Lib.hid hlen
    replace hH := ()
    have hXY : X.heap.size ≤ Y.heap.size := by omega
    clear rY oY qY bY kY hown hrow hkp hq hdc hdx hH
    go_wp2_with (fail)
    go_loopw [12] (fun i wr => ∃ k : Nat, k ≤ s.days.length ∧ i = .int .i64 k ∧ Hid (∃ vd, wr.heap[W1.heap.size]? = some (snO c.space c.gas s.elo s.ehi (.slice va l.length vc) vd) ∧ wr.ownsRow Y.heap.size 39 8 vd k (((s.days.take k).map clrDay).flatMap sdEn) ∧ Kept (fun j => j ≠ W1.heap.size ∧ j < Y.heap.size) Y wr)) (fun i _ => s.days.length - (intOf i).toNat)
    case atStart => exact ⟨0, by omega, rfl, Lib.hid ⟨_, rYh.out, World.ownsRow_nil Y _ _ 8, Kept.refl _ _⟩⟩
    case round =>
     clear d0 d1 d2 d3 d4 d5 zd fd5 c0 c1 c2 c3 c4 c5 c6 c7 c8 c9 c10 zc hY zk hk
     obtain ⟨k, hk, rfl, hH⟩ := hrel
     obtain ⟨vd, hrow, hown, hkp⟩ := hH.out
     obtain ⟨xa, xc, rfl⟩ := own_slice hown
     have zk := hkp.size
     obtain ⟨d0, d1, d2, d3, d4, d5⟩ := row6 hrow
     have zd := (zqo hrow)
     by_cases hlt : k < s.days.length
     · have hki : (k : Int) < s.days.length := by omega
       have bwr : Below w.heap.size w wr := bYh.out.trans (hkp.below (B := w.heap.size) (by omega) fun j hj => by omega)
       obtain ⟨x0, x1, x2, x3, x4, x5, x6, x7⟩ := hdxh.out k hlt
       obtain ⟨dd, hdd⟩ : ∃ d, Sea.dayAt s.days k = d := ⟨_, rfl⟩
       rw [hdd] at x0 x1 x2 x3 x4 x5 x6 x7
       have x0 := S.kept_cell bwr x0
       have x1 := S.kept_cell bwr x1
       have x2 := S.kept_cell bwr x2
       have x3 := S.kept_cell bwr x3
       have x4 := S.kept_cell bwr x4
       have x5 := S.kept_cell bwr x5
       have x6 := S.kept_cell bwr x6
       have x7 := S.kept_cell bwr x7
       have hk64 : IntKind.i64.wrap ((k : Int) + 1) = (k : Int) + 1 := IntWalk.i64_in _ (by omega)
       have hdw : db < wr.heap.size := by have := bwr.size; omega
       have hrowh := Lib.hid hrow
       have hownh := Lib.hid hown
       have hkph := Lib.hid hkp
       replace hdd := Lib.hid hdd
       clear hrow hown hkp bwr
       go_upto_region 21 with fail
       obtain ⟨V, hV⟩ : ∃ V, wr.alloc (.cells (sdEn (clrDay dd)).toArray 39) = V := ⟨_, rfl⟩
       obtain ⟨eV, bV, zV⟩ := boxedB hV
       obtain ⟨W4, hW4⟩ : ∃ W, V.alloc (.cells (sdEn (clrDay dd)).toArray 39) = W := ⟨_, rfl⟩
       obtain ⟨e4', b4, z4⟩ := boxedB hW4
       have hBD := below_tr bV b4
       have hok4 := own_mono hownh.out hBD
       have hlb := own_lt hok4
       obtain ⟨fv, W5, hrun, o5, k5⟩ := own_app (t := 28) Tryz.underlying28 infoSD (by decide) (by decide) (by decide) Y.heap.size W4 (.slice xa k xc) k _ (sdEn (clrDay dd)) V.heap.size hok4 (by omega) (by have := hBD.size; omega) rfl (by simp [Value.oneCell', clrDay]) e4'
       have hr5 := (k5.block _ (Array.getElem?_eq_some_iff.1 (kept_block hBD hrowh.out)).1 (fun e => by have := hlb _ e; omega)).trans (kept_block hBD hrowh.out)
       obtain ⟨fa, fc, rfl⟩ := own_slice o5
       have hfin : Hid ((W5.setCell ⟨W1.heap.size, 5, none⟩ (.slice fa (k + 1) fc)).heap[W1.heap.size]? = some (snO c.space c.gas s.elo s.ehi (.slice va l.length vc) (.slice fa (k + 1) fc)) ∧ (W5.setCell ⟨W1.heap.size, 5, none⟩ (.slice fa (k + 1) fc)).ownsRow Y.heap.size 39 8 (.slice fa (k + 1) fc) (k + 1) (((s.days.take (k + 1)).map clrDay).flatMap sdEn) ∧ Kept (fun j => j ≠ W1.heap.size ∧ j < Y.heap.size) Y (W5.setCell ⟨W1.heap.size, 5, none⟩ (.slice fa (k + 1) fc))) := by
        refine Lib.hid ⟨by rw [row_set hr5]; rfl, ?_, ?_⟩
        · have he : s.days.take (k + 1) = s.days.take k ++ [dd] := by
           rw [List.take_add_one, ← hdd.out]
           unfold Sea.dayAt
           rw [List.getElem?_eq_getElem hlt]
           simp [hlt]
          rw [he, List.map_append, List.flatMap_append]
          refine own_kept (S := fun j => j ≠ W1.heap.size) ?_ ((Kept.refl _ _).setCell (p := ⟨W1.heap.size, 5, none⟩) (.inl fun h => h rfl) _) fun j e => by have := (own_lt o5 j e).1; omega
          simpa using o5
        · exact ((hkph.out.trans (.all hBD)).trans (k5.mono fun j _ h e => by have := (hlb _ e).1; omega)).trans ((Kept.refl _ _).setCell (p := ⟨W1.heap.size, 5, none⟩) (.inl fun h => h.1 rfl) _)
       obtain ⟨-, -, -, -, -, w5⟩ := row6 hr5
       have zw5 := (zqo hr5)
       have fw5 : W5.frozen? ⟨W1.heap.size, 5, none⟩ = false := frz hr5 5
       obtain ⟨v0, v1, v2, v3, v4, v5, v6, v7⟩ := row8 eV
       obtain ⟨e0, e1, e2, e3, e4, e5⟩ := row6 (kept_block bV hrowh.out)
       have ze := (Array.getElem?_eq_some_iff.1 (kept_block bV hrowh.out)).1
       simp only [clrDay] at hV hW4 v0 v1 v2 v3 v4 v5 v6 v7
       clear eV bV e4' b4 hBD hok4 hlb o5 k5 hr5 x0 x1 x2 x3 x4 x5 x6 x7 d0 d1 d2 d3 d4 d5
       (try rw [hV])
       go_wp2_with (at_builtin; (with_reducible refine wp_at W4 ?_); refine wpList_app_run (by rfl) _ _ _ (by rfl) (by rfl) (by rfl) hrun ?_)
       exact ⟨⟨k + 1, by omega, by go_num, Lib.hid ⟨_, hfin.out⟩⟩, by simp [intOf]; omega⟩
     · obtain rfl : k = s.days.length := by omega
       rw [List.take_length] at hown
       obtain ⟨s2, hs2⟩ : ∃ s2 : Sea.S, s2 = ⟨c.space, c.gas, s.elo, s.ehi, l, s.days.map clrDay⟩ := ⟨_, rfl⟩
       have oT := own_kept oYh.out (hkp.mono fun j _ (h : j ≠ W1.heap.size ∧ j < Y.heap.size) => h) fun j e => by have := own_lt oYh.out j e; omega
       have hT : S.SeasonAt wr (.agg #[.int .i64 c.space, .int .i64 c.gas, .int .i64 s.elo, .int .i64 s.ehi, .slice va l.length vc, .slice xa s.days.length xc]) s2 := by
        subst hs2
        refine ⟨_, _, rfl, rows_of (own_els (m := 3) (enc := srEn) (fun _ => rfl) ⟨0, 0, 0⟩ oT (by show l.length ≤ 1000; have := hlen.out; omega)), ?_⟩
        have := days_of (own_els (m := 8) (enc := sdEn) (fun _ => rfl) ⟨0, 0, 0, 0, 0, 0, 0, 0⟩ (xs := s.days.map clrDay) (by rw [List.length_map]; exact hown) (by rw [List.length_map]; omega))
        obtain ⟨a', cap', he, r⟩ := this
        rw [List.length_map] at he
        cases he
        exact ⟨_, _, by rw [List.length_map], r⟩
       have qT := (hkp.block _ (by omega) (by omega)).trans qYh.out
       have bT : Below w.heap.size w wr := bYh.out.trans (hkp.below (B := w.heap.size) (by omega) fun j hj => by omega)
       have hTh := Lib.hid hT
       have qTh := Lib.hid qT
       have bTh := Lib.hid bT
       have rTh := Lib.hid hrow
       have hs2h := Lib.hid hs2
       clear hT oT hown hkp qT bT hH
       cases t7 : Sea.validB s2
       · have kV := Lib.hid (S.refSeasonT wr hTh.out t7)
         go_wp2_with (first | (go_at_call 7; (with_reducible refine Calls.mono kV.out ?_); rintro e w2 ⟨rfl, hB2⟩) | (go_at_call 5; (with_reducible refine Calls.mono (kK.out _) ?_); rintro e w9 ⟨rfl, hB9⟩))
         go_ret
         exact ⟨rfl, below_tr bTh.out (below_tr hB2 hB9)⟩
       · have kV := Lib.hid (S.refSeasonT wr hTh.out t7)
         have hlen2 : (s.days.map clrDay).length = s.days.length := List.length_map _
         have hd2 : s2.days.length = s.days.length := by rw [hs2h.out]; exact hlen2
         have hnoms : s2.nomsB (List.replicate s.days.length 0) = true := by
          rw [← hd2]
          exact zero_noms s2 fun k hk => by rw [hs2h.out] at hk ⊢; exact clr_at _ k hk
         generalize hn : s.days.length = n at *
         replace hn := Lib.hid hn
         have hmk : Hid (∀ X : World, (Instr.makeSlice 41 (.int .i64 n) (.int .i64 n)).run Tryz.prog X = .ok (.slice (some ⟨X.heap.size, 0, none⟩) n n) (X.alloc (.cells (Array.replicate n (.int .i64 0)) 3))) := Lib.hid fun X => make_ints X n (by omega)
         obtain ⟨noms, hno⟩ : ∃ l : List Int, l = List.replicate n 0 := ⟨_, rfl⟩
         rw [← hno] at hnoms
         replace hno := Lib.hid hno
         go_upto_region 24 with (go_at_call 7; (with_reducible refine Calls.mono kV.out ?_); rintro e w2 ⟨rfl, hB2⟩; have u1 := kept_block hB2 rTh.out; obtain ⟨e0, e1, e2, e3, e4, e5⟩ := row6 u1; have ze := (zqo u1))
         have hmw := hmk.out w2
         obtain ⟨N, hN⟩ : ∃ N, w2.alloc (.cells (Array.replicate n (.int .i64 0)) 3) = N := ⟨_, rfl⟩
         obtain ⟨-, bN, zN⟩ := boxedB hN
         have hNI : S.IntsAt N (.slice (some ⟨w2.heap.size, 0, none⟩) n n) noms := by
          rw [hno.out, ← hN]
          exact zero_ints (IntArr.made w2 n) (by omega)
         rw [hN] at hmw
         have hBN := below_tr hB2 bN
         have hTN := hTh.out.mono hBN
         have u2 := kept_block hBN rTh.out
         obtain ⟨r0, r1, r2, r3, r4, r5⟩ := row6 u2
         have zr := (zqo u2)
         have okS := Sea.ok_of_valid t7
         by_cases hb : S.bestCost s2 noms = Sea.never
         · have kB := Lib.hid (S.progBestT N hTN hNI (S.bestOf_none t7 hnoms hb))
           replace hb := Lib.hid hb
           go_wp2_with (first | (go_at_call 8; (with_reducible refine Calls.mono kB.out ?_); rintro e w3 ⟨⟨pa, pc, rfl, hpl⟩, hB3⟩) | (go_at_call 5; (with_reducible refine Calls.mono (kK.out _) ?_); rintro e w9 ⟨rfl, hB9⟩))
           go_ret
           exact ⟨rfl, below_tr bTh.out (below_tr hBN (below_tr hB3 hB9))⟩
         · have hcon : InCon c s2 noms := by
            have h1 := hs2h.out
            have h2 := hs0h.out
            refine ⟨by rw [h1], by rw [h1], ?_, fun k => by rw [hno.out]; exact zero_at _ _⟩
            have h3 : c.space.toNat + 1 = s0 + 1 := by omega
            rw [h3, hl.out, h1]
           have kB := Lib.hid (S.progBestT N hTN hNI (S.bestOf_yes t7 hnoms hb))
           obtain ⟨hp1, hp2, -⟩ := S.best_plan okS hb
           generalize (S.planTo s2 noms s2.days.length).1 = plan at kB hp1 hp2
           have hpn := (S.planB_at hp1).1
           have hpb := (S.planB_at hp1).2
           have hpb2 : Hid (∀ k, k < n → -100 ≤ Sea.at0 plan k ∧ Sea.at0 plan k ≤ 100) := Lib.hid fun k hk => hpb k (by have := hd2; omega)
           rw [← hpn] at hp2
           have hfit := Lib.hid (plan_fit t7 hcon hp1 hp2)
           have hplay := S.playOf_fine hp2
           have hfl := S.playTo_len s2 noms plan plan.length
           have hfend : ∀ k, k < plan.length → Sea.at0 (S.playTo s2 noms plan plan.length).1 k = (S.playTo s2 noms plan (k + 1)).2.1 := fun k hk => fills_at _ _ hk
           generalize hfs : (S.playTo s2 noms plan plan.length).1 = fills at hplay hfl hfend
           generalize (S.playTo s2 noms plan plan.length).2.2 = cost at hplay
           have hpl : plan.length = n := by rw [hpn]; exact hd2
           rw [hpl] at hfl
           replace hb := Lib.hid hb
           replace hfs := ()
           replace hcon := ()
           replace hp2 := ()
           replace okS := Lib.hid okS
           replace hplay := Lib.hid hplay
           replace hfend := Lib.hid hfend
           replace hpb := Lib.hid hpb
           replace hpn := ()
           replace hd2 := Lib.hid hd2
           replace hpl := Lib.hid hpl
           replace hfl := Lib.hid hfl
           clear hlen2
           have hTNh := Lib.hid hTN
           have hNIh := Lib.hid hNI
           have hBNh := Lib.hid hBN
           have u2h := Lib.hid u2
           clear hTN hNI hBN u2 u1 kV
           go_upto_region 29 with (first
            | (go_at_call 8; (with_reducible refine Calls.mono kB.out ?_); rintro e w3 ⟨⟨pa, pc, rfl, hpI⟩, hB3⟩; have u3 := kept_block hB3 u2h.out; obtain ⟨k0, k1, k2, k3, k4, k5⟩ := row6 u3; have zk3 := (zqo u3); have kP := Lib.hid (S.progPlayT w3 (hTNh.out.mono hB3) (hNIh.out.mono hB3) hpI t7 hnoms hp1 hplay.out))
            | (go_at_call 9; (with_reducible refine Calls.mono kP.out ?_); rintro e w4 ⟨⟨fa, fc, rfl, hfI⟩, hB4⟩; have u4 := kept_block hB4 u3; obtain ⟨j0, j1, j2, j3, j4, j5⟩ := row6 u4; have zk4 := (zqo u4)))
           obtain ⟨F, hF⟩ : ∃ F, w4.alloc (.cells #[.int .i64 0, .int .i64 1] 46) = F := ⟨_, rfl⟩
           obtain ⟨eF, bF, zF⟩ := boxedB hF
           rw [hF]
           rw [hpl.out] at hpI
           rw [hfl.out] at hfI
           simp only [hpl.out, hfl.out]
           have u5 := kept_block bF u4
           have hB34 := below_tr hB3 (below_tr hB4 bF)
           have q5 := kept_block (below_tr hBNh.out hB34) qTh.out
           have hpF := hpI.mono (below_tr hB4 bF)
           have hfF := hfI.mono bF
           have hTF := hTNh.out.mono hB34
           have kL := Lib.hid (S.refPlanT F hTF hpF hp1)
           obtain ⟨r0', r1', r2', r3', r4', r5'⟩ := row6 u5
           obtain ⟨v0, v1⟩ := row2 eF
           have zr5 := (zqo u5)
           have u5h := Lib.hid u5
           have q5h := Lib.hid q5
           have hpFh := Lib.hid hpF
           have hfFh := Lib.hid hfF
           have bFall := Lib.hid (below_tr hBNh.out hB34)
           clear r0 r1 r2 r3 r4 r5 zr k0 k1 k2 k3 k4 k5 zk3 j0 j1 j2 j3 j4 j5 zk4 u3 u4 u5 q5 hpI hfI hpF hfF hTF hB3 hB4 bF hB34 eF kB kP e0 e1 e2 e3 e4 e5 ze
           go_upto_region 32 with (go_at_call 10; (with_reducible refine Calls.mono kL.out ?_); rintro e w6 ⟨rfl, hB6⟩; have q6 := kept_block hB6 q5h.out; obtain ⟨c0, c1, c2, c3, c4, c5, c6, c7, c8, c9, c10⟩ := row11 q6; have zc := (zqo q6))
           obtain ⟨C1, hC1⟩ : ∃ C, w6.alloc (conO (.slice qa c.rates.length qcap) c) = C := ⟨_, rfl⟩
           obtain ⟨eC1, bC1, zC1⟩ := boxedB hC1
           obtain ⟨C2, hC2⟩ : ∃ C, C1.alloc (stO1 c.space 100000000 100000000 (.slice (some ⟨w6.heap.size, 0, none⟩) 1 1)) = C := ⟨_, rfl⟩
           obtain ⟨eC2, bC2, zC2⟩ := boxedB hC2
           have zC1' : C1.heap.size = w6.heap.size + 1 := by rw [← hC1]; simp
           rw [hC1, hC2]
           have b6C := below_tr bC1 bC2
           have bC : Below w.heap.size w C2 := below_tr bTh.out (below_tr bFall.out (below_tr hB6 b6C))
           have hcons : ConsAt C2 (.slice (some ⟨w6.heap.size, 0, none⟩) 1 1) [(.slice qa c.rates.length qcap, c)] := by
            have h11 := row11 (kept_block bC2 eC1)
            refine ⟨⟨some ⟨w6.heap.size, 0, none⟩, 1, rfl, by unfold maxLen; simp, fun _ => ⟨w6.heap.size, 0, rfl, (Array.getElem?_eq_some_iff.1 (kept_block bC2 eC1)).1, fun k i u hk hu => ?_⟩⟩, fun k hk => ?_⟩
            · obtain rfl : k = 0 := by simp at hk; omega
              have hrc := (row_cells (kept_block bC2 eC1)).2.1 i
              rw [Nat.zero_mul, Nat.zero_add, hrc, List.getElem?_toArray]
              exact hu
            · obtain rfl : k = 0 := by simp at hk; omega
              exact hr0.out.mono bC
           have hpc := hpFh.out
           obtain ⟨pa', pcap', he, -, hpx⟩ := hpc
           rw [hpl.out] at he hpx
           cases he
           obtain ⟨pb, poff, rfl, hpb, hpx⟩ := hpx (by omega)
           have hconsh := Lib.hid hcons
           have kK6 := Lib.hid (refStore (⟨c.space, 100000000, 100000000, 0, 0, [(.slice qa c.rates.length qcap, c)]⟩ : Sto) _ C2 hcons)
           have bCh := Lib.hid bC
           have eC2h := Lib.hid eC2
           rw [zC1'] at eC2
           obtain ⟨k0, k1, k2, k3, k4, k5⟩ := row6 eC2
           have zk := (zqo eC2)
           have hpxh : Hid (∀ X, Below F.heap.size F X → ∀ t, t < n → X.cell? ⟨pb, poff + t, none⟩ = some (.int .i64 (Sea.at0 plan t))) := Lib.hid fun X hX t ht => kept_cell hX (hpx t ht)
           have hFC : Hid (Below F.heap.size F C2) := Lib.hid (below_tr hB6 b6C)
           have hpbl : pb < F.heap.size := hpb
           clear eC1 bC1 eC2 bC2 hcons hpx b6C bC q6 c0 c1 c2 c3 c4 c5 c6 c7 c8 c9 c10 zc kL r0' r1' r2' r3' r4' r5' v0 v1 zr5
           cases t8 : Sto.ok (⟨c.space, 100000000, 100000000, 0, 0, [(.slice qa c.rates.length qcap, c)]⟩ : Sto)
           · have kQ : Hid (Calls Tryz.prog 11 #[stoV (.slice (some ⟨w6.heap.size, 0, none⟩) 1 1) (⟨c.space, 100000000, 100000000, 0, 0, [(.slice qa c.rates.length qcap, c)]⟩ : Sto)] C2 fun e w' => e = .returned (.bool false) ∧ Below C2.heap.size C2 w') := Lib.hid (kK6.out.mono fun e w' (h : BoolB _ _ e w') => h.lit t8)
             replace t8 := Lib.hid t8
             go_wp2_with (first | (go_at_call 11; (with_reducible refine Calls.mono kQ.out ?_); rintro e w7 ⟨rfl, hB7⟩) | (go_at_call 5; (with_reducible refine Calls.mono (kK.out _) ?_); rintro e w9 ⟨rfl, hB9⟩))
             go_ret
             exact ⟨rfl, below_tr bCh.out (below_tr hB7 hB9)⟩
           · have kQ : Hid (Calls Tryz.prog 11 #[stoV (.slice (some ⟨w6.heap.size, 0, none⟩) 1 1) (⟨c.space, 100000000, 100000000, 0, 0, [(.slice qa c.rates.length qcap, c)]⟩ : Sto)] C2 fun e w' => e = .returned (.bool true) ∧ Below C2.heap.size C2 w') := Lib.hid (kK6.out.mono fun e w' (h : BoolB _ _ e w') => h.lit t8)
             replace t8 := Lib.hid t8
             clear kK6
             go_upto_region 35 with (go_at_call 11; (with_reducible refine Calls.mono kQ.out ?_); rintro e w7 ⟨rfl, hB7⟩)
             obtain ⟨D0, hD0⟩ : ∃ D, w7.alloc (dyO nilS nilS nilS) = D := ⟨_, rfl⟩
             obtain ⟨eD0, bD0, zD0⟩ := boxedB hD0
             rw [hD0]
             have hCD : Hid (Below C2.heap.size C2 D0) := Lib.hid (below_tr hB7 bD0)
             have hFD : Hid (Below F.heap.size F D0) := Lib.hid (below_tr hFC.out hCD.out)
             have eD0h := Lib.hid eD0
             have zFD := hFD.out.size
             have zFw7 := (below_tr hFC.out hB7).size
             clear eD0 bD0 k0 k1 k2 k3 k4 k5 zk kQ
             go_wp2_with (fail)
             go_loopw [24] (fun i wr => ∃ k : Nat, k ≤ n ∧ i = .int .i64 k ∧ Hid (∃ hv nv, wr.heap[w7.heap.size]? = some (dyO hv nv nilS) ∧ wr.ownsRow D0.heap.size 60 4 hv k (((List.range k).map (hrOf plan)).flatMap hrVEn) ∧ wr.ownsRow D0.heap.size 62 4 nv k (((List.range k).map (nmOf plan)).flatMap nmVEn) ∧ Kept (fun j => j ≠ w7.heap.size ∧ j < D0.heap.size) D0 wr)) (fun i _ => n - (intOf i).toNat)
             case atStart => exact ⟨0, by omega, rfl, Lib.hid ⟨_, _, eD0h.out, World.ownsRow_nil D0 _ _ 4, World.ownsRow_nil D0 _ _ 4, Kept.refl _ _⟩⟩
             case round =>
              clear hk
              obtain ⟨k, hk, rfl, hH⟩ := hrel
              obtain ⟨hv, nv, hrow, hoh, hon, hkp⟩ := hH.out
              obtain ⟨ha, hc, rfl⟩ := own_slice hoh
              obtain ⟨na, nc, rfl⟩ := own_slice hon
              have zk := hkp.size
              by_cases hlt : k < n
              · skip
                have hki : (k : Int) < n := by omega
                have hk64 : IntKind.i64.wrap ((k : Int) + 1) = (k : Int) + 1 := IntWalk.i64_in _ (by omega)
                obtain ⟨x, hx⟩ : ∃ x, Sea.at0 plan k = x := ⟨_, rfl⟩
                have hxb := hpb2.out k hlt
                rw [hx] at hxb
                have hwr0 : IntKind.i64.wrap (-x) = -x := IntWalk.i64_in _ (by omega)
                have hwr1 : (if 0 < x then x else 0) = max 0 x := by omega
                have hwr2 : (if x < 0 then -x else 0) = max 0 (-x) := by omega
                have hho : hrVEn (hrOf plan k) = [.int .i64 100, .int .i64 100, .int .i64 (max 0 x), .int .i64 (max 0 (-x))] := by rw [← hx]; rfl
                have hnm : nmVEn (nmOf plan k) = [.int .i64 0, .int .i64 k, .int .i64 0, .int .i64 x] := by rw [← hx]; rfl
                have hxc : Hid (∀ X, Below wr.heap.size wr X → X.cell? ⟨pb, poff + k, none⟩ = some (.int .i64 x)) := Lib.hid fun X hX => kept_cell hX (by rw [← hx]; exact kept_cell2 (hpxh.out D0 hFD.out k hlt) hkp ⟨by omega, by omega⟩)
                have hrowh := Lib.hid hrow
                have hohh := Lib.hid hoh
                have honh := Lib.hid hon
                have hkph := Lib.hid hkp
                have hpbw : pb < wr.heap.size := by omega
                have hDw : w7.heap.size < wr.heap.size := (zqo hrow)
                replace hx := Lib.hid hx
                clear hrow hoh hon hkp
                go_upto_region 38 with fail
                refine wp_region_noPanic ?_
                refine wp_region_any (by kernel_rfl) ?_
                show wpAny _ _ _ _ (15 + 3) #[false, false, false, false, false, false, false, false, false, false, false, false, false, false, false, false, false, false] _ wr.drew
                obtain ⟨G0, hG0⟩ : ∃ G, wr.drew = G := ⟨_, rfl⟩
                have hb0 : Below wr.heap.size wr G0 := by rw [← hG0]; exact (Below.refl _ _).drew
                rw [hG0]
                refine any_of_HL2 (n := 15) (S := Below wr.heap.size wr) (f := 15) rfl ?_
                refine wpAnyHL_takeD (pre := []) (i := 0) (v := .pointer (some ⟨w7.heap.size, 0, none⟩)) 223 rfl rfl (by kernel_rfl) (by kernel_rfl) (fun _ _ _ h => h) (Or.inl ⟨by rfl, ?_⟩) hb0 ?_
                · intro w' hSw; (have m0 := hxc.out _ hSw); obtain ⟨m1, m2, m3⟩ := row3b (kept_block hSw hrowh.out); (have m4 := hSw.size); (have m5 : pb < w'.heap.size := by omega); go_simp; (try with_reducible rfl)
                try simp only [Act.put, List.getElem_toArray, List.getElem_cons_succ, List.getElem_cons_zero, List.setIfInBounds_toArray, List.set_cons_zero, List.set_cons_succ]
                refine wpAnyHL_takeD (pre := []) (i := 1) (v := .slice ha k hc) 224 rfl rfl (by kernel_rfl) (by kernel_rfl) (fun _ _ _ h => h) (Or.inl ⟨by rfl, ?_⟩) hb0 ?_
                · intro w' hSw; (have m0 := hxc.out _ hSw); obtain ⟨m1, m2, m3⟩ := row3b (kept_block hSw hrowh.out); (have m4 := hSw.size); (have m5 : pb < w'.heap.size := by omega); go_simp; (try with_reducible rfl)
                try simp only [Act.put, List.getElem_toArray, List.getElem_cons_succ, List.getElem_cons_zero, List.setIfInBounds_toArray, List.set_cons_zero, List.set_cons_succ]
                refine wpAnyHL_takeD (pre := []) (i := 2) (v := .slice (some ⟨pb, poff, none⟩) n pc) 225 rfl rfl (by kernel_rfl) (by kernel_rfl) (fun _ _ _ h => h) (Or.inl ⟨by rfl, ?_⟩) hb0 ?_
                · intro w' hSw; (have m0 := hxc.out _ hSw); obtain ⟨m1, m2, m3⟩ := row3b (kept_block hSw hrowh.out); (have m4 := hSw.size); (have m5 : pb < w'.heap.size := by omega); go_simp; (try with_reducible rfl)
                try simp only [Act.put, List.getElem_toArray, List.getElem_cons_succ, List.getElem_cons_zero, List.setIfInBounds_toArray, List.set_cons_zero, List.set_cons_succ]
                refine wpAnyHL_takeD (pre := []) (i := 3) (v := .int .i64 k) 226 rfl rfl (by kernel_rfl) (by kernel_rfl) (fun _ _ _ h => h) (Or.inl ⟨by rfl, ?_⟩) hb0 ?_
                · intro w' hSw; (have m0 := hxc.out _ hSw); obtain ⟨m1, m2, m3⟩ := row3b (kept_block hSw hrowh.out); (have m4 := hSw.size); (have m5 : pb < w'.heap.size := by omega); go_simp; (try with_reducible rfl)
                try simp only [Act.put, List.getElem_toArray, List.getElem_cons_succ, List.getElem_cons_zero, List.setIfInBounds_toArray, List.set_cons_zero, List.set_cons_succ]
                refine wpAnyHL_takeD (pre := []) (i := 4) (v := .pointer (some ⟨pb, poff + k, none⟩)) 227 rfl rfl (by kernel_rfl) (by kernel_rfl) (fun _ _ _ h => h) (Or.inl ⟨by rfl, ?_⟩) hb0 ?_
                · intro w' hSw; (have m0 := hxc.out _ hSw); obtain ⟨m1, m2, m3⟩ := row3b (kept_block hSw hrowh.out); (have m4 := hSw.size); (have m5 : pb < w'.heap.size := by omega); go_simp; (try with_reducible rfl)
                try simp only [Act.put, List.getElem_toArray, List.getElem_cons_succ, List.getElem_cons_zero, List.setIfInBounds_toArray, List.set_cons_zero, List.set_cons_succ]
                refine wpAnyHL_takeD (pre := []) (i := 5) (v := .int .i64 x) 228 rfl rfl (by kernel_rfl) (by kernel_rfl) (fun _ _ _ h => h) (Or.inl ⟨by rfl, ?_⟩) hb0 ?_
                · intro w' hSw; (have m0 := hxc.out _ hSw); obtain ⟨m1, m2, m3⟩ := row3b (kept_block hSw hrowh.out); (have m4 := hSw.size); (have m5 : pb < w'.heap.size := by omega); go_simp; (try with_reducible rfl)
                try simp only [Act.put, List.getElem_toArray, List.getElem_cons_succ, List.getElem_cons_zero, List.setIfInBounds_toArray, List.set_cons_zero, List.set_cons_succ]
                refine wpAnyHL_takeD (pre := []) (i := 6) (v := .int .i64 (max 0 x)) 229 rfl rfl (by kernel_rfl) (by kernel_rfl) (fun _ _ _ h => h) (Or.inl ⟨by rfl, ?_⟩) hb0 ?_
                · intro w' hSw; (have m0 := hxc.out _ hSw); obtain ⟨m1, m2, m3⟩ := row3b (kept_block hSw hrowh.out); (have m4 := hSw.size); (have m5 : pb < w'.heap.size := by omega); go_simp; (try with_reducible rfl)
                try simp only [Act.put, List.getElem_toArray, List.getElem_cons_succ, List.getElem_cons_zero, List.setIfInBounds_toArray, List.set_cons_zero, List.set_cons_succ]
                refine wpAnyHL_takeD (pre := []) (i := 7) (v := .slice (some ⟨pb, poff, none⟩) n pc) 230 rfl rfl (by kernel_rfl) (by kernel_rfl) (fun _ _ _ h => h) (Or.inl ⟨by rfl, ?_⟩) hb0 ?_
                · intro w' hSw; (have m0 := hxc.out _ hSw); obtain ⟨m1, m2, m3⟩ := row3b (kept_block hSw hrowh.out); (have m4 := hSw.size); (have m5 : pb < w'.heap.size := by omega); go_simp; (try with_reducible rfl)
                try simp only [Act.put, List.getElem_toArray, List.getElem_cons_succ, List.getElem_cons_zero, List.setIfInBounds_toArray, List.set_cons_zero, List.set_cons_succ]
                refine wpAnyHL_takeD (pre := []) (i := 8) (v := .int .i64 k) 231 rfl rfl (by kernel_rfl) (by kernel_rfl) (fun _ _ _ h => h) (Or.inl ⟨by rfl, ?_⟩) hb0 ?_
                · intro w' hSw; (have m0 := hxc.out _ hSw); obtain ⟨m1, m2, m3⟩ := row3b (kept_block hSw hrowh.out); (have m4 := hSw.size); (have m5 : pb < w'.heap.size := by omega); go_simp; (try with_reducible rfl)
                try simp only [Act.put, List.getElem_toArray, List.getElem_cons_succ, List.getElem_cons_zero, List.setIfInBounds_toArray, List.set_cons_zero, List.set_cons_succ]
                refine wpAnyHL_takeD (pre := []) (i := 9) (v := .pointer (some ⟨pb, poff + k, none⟩)) 232 rfl rfl (by kernel_rfl) (by kernel_rfl) (fun _ _ _ h => h) (Or.inl ⟨by rfl, ?_⟩) hb0 ?_
                · intro w' hSw; (have m0 := hxc.out _ hSw); obtain ⟨m1, m2, m3⟩ := row3b (kept_block hSw hrowh.out); (have m4 := hSw.size); (have m5 : pb < w'.heap.size := by omega); go_simp; (try with_reducible rfl)
                try simp only [Act.put, List.getElem_toArray, List.getElem_cons_succ, List.getElem_cons_zero, List.setIfInBounds_toArray, List.set_cons_zero, List.set_cons_succ]
                refine wpAnyHL_takeD (pre := []) (i := 10) (v := .int .i64 x) 233 rfl rfl (by kernel_rfl) (by kernel_rfl) (fun _ _ _ h => h) (Or.inl ⟨by rfl, ?_⟩) hb0 ?_
                · intro w' hSw; (have m0 := hxc.out _ hSw); obtain ⟨m1, m2, m3⟩ := row3b (kept_block hSw hrowh.out); (have m4 := hSw.size); (have m5 : pb < w'.heap.size := by omega); go_simp; (try with_reducible rfl)
                try simp only [Act.put, List.getElem_toArray, List.getElem_cons_succ, List.getElem_cons_zero, List.setIfInBounds_toArray, List.set_cons_zero, List.set_cons_succ]
                refine wpAnyHL_takeD (pre := []) (i := 11) (v := .int .i64 (-x)) 234 rfl rfl (by kernel_rfl) (by kernel_rfl) (fun _ _ _ h => h) (Or.inl ⟨by rfl, ?_⟩) hb0 ?_
                · intro w' hSw; (have m0 := hxc.out _ hSw); obtain ⟨m1, m2, m3⟩ := row3b (kept_block hSw hrowh.out); (have m4 := hSw.size); (have m5 : pb < w'.heap.size := by omega); go_simp; (try with_reducible rfl)
                try simp only [Act.put, List.getElem_toArray, List.getElem_cons_succ, List.getElem_cons_zero, List.setIfInBounds_toArray, List.set_cons_zero, List.set_cons_succ]
                refine wpAnyHL_takeD (pre := []) (i := 12) (v := .int .i64 (max 0 (-x))) 235 rfl rfl (by kernel_rfl) (by kernel_rfl) (fun _ _ _ h => h) (Or.inl ⟨by rfl, ?_⟩) hb0 ?_
                · intro w' hSw; (have m0 := hxc.out _ hSw); obtain ⟨m1, m2, m3⟩ := row3b (kept_block hSw hrowh.out); (have m4 := hSw.size); (have m5 : pb < w'.heap.size := by omega); go_simp; (try with_reducible rfl)
                try simp only [Act.put, List.getElem_toArray, List.getElem_cons_succ, List.getElem_cons_zero, List.setIfInBounds_toArray, List.set_cons_zero, List.set_cons_succ]
                refine wpAnyHL_takeD (pre := []) (i := 13) (v := .agg #[.int .i64 100, .int .i64 100, .int .i64 (max 0 x), .int .i64 (max 0 (-x))]) 236 rfl rfl (by kernel_rfl) (by kernel_rfl) (fun _ _ _ h => h) (Or.inl ⟨by rfl, ?_⟩) hb0 ?_
                · intro w' hSw; (have m0 := hxc.out _ hSw); obtain ⟨m1, m2, m3⟩ := row3b (kept_block hSw hrowh.out); (have m4 := hSw.size); (have m5 : pb < w'.heap.size := by omega); go_simp; (try with_reducible rfl)
                try simp only [Act.put, List.getElem_toArray, List.getElem_cons_succ, List.getElem_cons_zero, List.setIfInBounds_toArray, List.set_cons_zero, List.set_cons_succ]
                obtain ⟨G1, hG1⟩ : ∃ G, G0.alloc (.cells #[.int .i64 100, .int .i64 100, .int .i64 (max 0 x), .int .i64 (max 0 (-x))] 60) = G := ⟨_, rfl⟩
                obtain ⟨eG1, bG1, zG1⟩ := boxedB hG1
                have hb1 := below_tr hb0 bG1
                have zG0 := hb0.size
                refine HL_ready1 (i := 14) rfl (by kernel_rfl) (by decide) (fun K hK => ?_)
                go_simp
                (try rw [hG1])
                refine hK.out _ _ hb1 ?_
                clear hK K
                try simp only [Act.put, List.getElem_toArray, List.getElem_cons_succ, List.getElem_cons_zero, List.setIfInBounds_toArray, List.set_cons_zero, List.set_cons_succ]
                refine ⟨by kernel_rfl, ?_⟩
                simp only [List.drop_succ_cons, List.drop_zero]
                obtain ⟨fv, G2, hrun, o2, kG2⟩ := own_app (t := 54) Tryz.underlying54 infoBH (by decide) (by decide) (by decide) D0.heap.size G1 (.slice ha k hc) k _ [.int .i64 100, .int .i64 100, .int .i64 (max 0 x), .int .i64 (max 0 (-x))] G0.heap.size (own_mono hohh.out hb1) (by omega) (by omega) rfl (by simp [Value.oneCell']) eG1
                have hlb := own_lt (own_mono hohh.out hb1)
                have hr2 := (kG2.block _ (Array.getElem?_eq_some_iff.1 (kept_block hb1 hrowh.out)).1 (fun e => by have := hlb _ e; omega)).trans (kept_block hb1 hrowh.out)
                have on2 := own_kept (own_mono honh.out hb1) kG2 fun j e => own_types (by decide) (own_mono hohh.out hb1) (own_mono honh.out hb1) j e
                obtain ⟨fa2, fc2, rfl⟩ := own_slice o2
                obtain ⟨w20, w21, w22⟩ := row3b hr2
                have zw2' := (zqo hr2)
                have fw2 : ∀ i, G2.frozen? ⟨w7.heap.size, i, none⟩ = false := fun i => frz hr2 i
                obtain ⟨H, hH2⟩ : ∃ H, G2.setCell ⟨w7.heap.size, 0, none⟩ (.slice fa2 (k + 1) fc2) = H := ⟨_, rfl⟩
                have kH : Kept (fun j => j ≠ w7.heap.size) G2 H := by rw [← hH2]; exact (Kept.refl _ _).setCell (p := ⟨w7.heap.size, 0, none⟩) (.inl fun h => h rfl) _
                have rH : H.heap[w7.heap.size]? = some (dyO (.slice fa2 (k + 1) fc2) (.slice na k nc) nilS) := by rw [← hH2, row_set hr2]; rfl
                have ohH := Lib.hid (own_kept o2 kH fun j e => by have := own_lt o2 j e; omega)
                have onH := Lib.hid (own_kept on2 kH fun j e => by have := own_lt on2 j e; omega)
                have kall : Hid (Kept (fun j => j ≠ w7.heap.size ∧ j < D0.heap.size) wr H) := Lib.hid (((Kept.all hb1).trans (kG2.mono fun j _ h e => by have := (hlb _ e).1; omega)).trans (kH.mono fun j _ h => h.1))
                have zH : wr.heap.size ≤ H.heap.size := by have := kG2.size; have := kH.size; omega
                have rHh := Lib.hid rH
                clear hr2 on2 o2 kG2 kH rH eG1 bG1 hb0 hb1
                go_wp2_with (at_builtin; (with_reducible refine wp_at G1 ?_); refine wpList_app_run (by rfl) _ _ _ (by rfl) (by rfl) (by rfl) hrun ?_)
                refine NoPanic.normal ?_
                clear w20 w21 w22 zw2' fw2 hH2 hG1 hG0 hrun
                go_upto_region 39 with fail
                have hxc2 : Hid (∀ X, Below H.heap.size H X → X.cell? ⟨pb, poff + k, none⟩ = some (.int .i64 x)) := Lib.hid fun X hX => kept_cell hX (kept_cell2 (hxc.out wr (Below.refl _ _)) kall.out ⟨by omega, by omega⟩)
                refine wp_region_noPanic ?_
                refine wp_region_any (by kernel_rfl) ?_
                show wpAny _ _ _ _ (9 + 3) #[false, false, false, false, false, false, false, false, false, false, false, false] _ H.drew
                obtain ⟨G0, hG0⟩ : ∃ G, H.drew = G := ⟨_, rfl⟩
                have hb0 : Below H.heap.size H G0 := by rw [← hG0]; exact (Below.refl _ _).drew
                rw [hG0]
                refine any_of_HL2 (n := 9) (S := Below H.heap.size H) (f := 9) rfl ?_
                refine wpAnyHL_takeD (pre := []) (i := 0) (v := .pointer (some ⟨w7.heap.size, 1, none⟩)) 240 rfl rfl (by kernel_rfl) (by kernel_rfl) (fun _ _ _ h => h) (Or.inl ⟨by rfl, ?_⟩) hb0 ?_
                · intro w' hSw; (have m0 := hxc2.out _ hSw); obtain ⟨m1, m2, m3⟩ := row3b (kept_block hSw rHh.out); (have m4 := hSw.size); (have m5 : pb < w'.heap.size := by omega); go_simp; (try with_reducible rfl)
                try simp only [Act.put, List.getElem_toArray, List.getElem_cons_succ, List.getElem_cons_zero, List.setIfInBounds_toArray, List.set_cons_zero, List.set_cons_succ]
                refine wpAnyHL_takeD (pre := []) (i := 1) (v := .slice na k nc) 241 rfl rfl (by kernel_rfl) (by kernel_rfl) (fun _ _ _ h => h) (Or.inl ⟨by rfl, ?_⟩) hb0 ?_
                · intro w' hSw; (have m0 := hxc2.out _ hSw); obtain ⟨m1, m2, m3⟩ := row3b (kept_block hSw rHh.out); (have m4 := hSw.size); (have m5 : pb < w'.heap.size := by omega); go_simp; (try with_reducible rfl)
                try simp only [Act.put, List.getElem_toArray, List.getElem_cons_succ, List.getElem_cons_zero, List.setIfInBounds_toArray, List.set_cons_zero, List.set_cons_succ]
                refine wpAnyHL_takeD (pre := []) (i := 2) (v := .int .i64 k) 242 rfl rfl (by kernel_rfl) (by kernel_rfl) (fun _ _ _ h => h) (Or.inl ⟨by rfl, ?_⟩) hb0 ?_
                · intro w' hSw; (have m0 := hxc2.out _ hSw); obtain ⟨m1, m2, m3⟩ := row3b (kept_block hSw rHh.out); (have m4 := hSw.size); (have m5 : pb < w'.heap.size := by omega); go_simp; (try with_reducible rfl)
                try simp only [Act.put, List.getElem_toArray, List.getElem_cons_succ, List.getElem_cons_zero, List.setIfInBounds_toArray, List.set_cons_zero, List.set_cons_succ]
                refine wpAnyHL_takeD (pre := []) (i := 3) (v := .slice (some ⟨pb, poff, none⟩) n pc) 243 rfl rfl (by kernel_rfl) (by kernel_rfl) (fun _ _ _ h => h) (Or.inl ⟨by rfl, ?_⟩) hb0 ?_
                · intro w' hSw; (have m0 := hxc2.out _ hSw); obtain ⟨m1, m2, m3⟩ := row3b (kept_block hSw rHh.out); (have m4 := hSw.size); (have m5 : pb < w'.heap.size := by omega); go_simp; (try with_reducible rfl)
                try simp only [Act.put, List.getElem_toArray, List.getElem_cons_succ, List.getElem_cons_zero, List.setIfInBounds_toArray, List.set_cons_zero, List.set_cons_succ]
                refine wpAnyHL_takeD (pre := []) (i := 4) (v := .int .i64 k) 244 rfl rfl (by kernel_rfl) (by kernel_rfl) (fun _ _ _ h => h) (Or.inl ⟨by rfl, ?_⟩) hb0 ?_
                · intro w' hSw; (have m0 := hxc2.out _ hSw); obtain ⟨m1, m2, m3⟩ := row3b (kept_block hSw rHh.out); (have m4 := hSw.size); (have m5 : pb < w'.heap.size := by omega); go_simp; (try with_reducible rfl)
                try simp only [Act.put, List.getElem_toArray, List.getElem_cons_succ, List.getElem_cons_zero, List.setIfInBounds_toArray, List.set_cons_zero, List.set_cons_succ]
                refine wpAnyHL_takeD (pre := []) (i := 5) (v := .pointer (some ⟨pb, poff + k, none⟩)) 245 rfl rfl (by kernel_rfl) (by kernel_rfl) (fun _ _ _ h => h) (Or.inl ⟨by rfl, ?_⟩) hb0 ?_
                · intro w' hSw; (have m0 := hxc2.out _ hSw); obtain ⟨m1, m2, m3⟩ := row3b (kept_block hSw rHh.out); (have m4 := hSw.size); (have m5 : pb < w'.heap.size := by omega); go_simp; (try with_reducible rfl)
                try simp only [Act.put, List.getElem_toArray, List.getElem_cons_succ, List.getElem_cons_zero, List.setIfInBounds_toArray, List.set_cons_zero, List.set_cons_succ]
                refine wpAnyHL_takeD (pre := []) (i := 6) (v := .int .i64 x) 246 rfl rfl (by kernel_rfl) (by kernel_rfl) (fun _ _ _ h => h) (Or.inl ⟨by rfl, ?_⟩) hb0 ?_
                · intro w' hSw; (have m0 := hxc2.out _ hSw); obtain ⟨m1, m2, m3⟩ := row3b (kept_block hSw rHh.out); (have m4 := hSw.size); (have m5 : pb < w'.heap.size := by omega); go_simp; (try with_reducible rfl)
                try simp only [Act.put, List.getElem_toArray, List.getElem_cons_succ, List.getElem_cons_zero, List.setIfInBounds_toArray, List.set_cons_zero, List.set_cons_succ]
                refine wpAnyHL_takeD (pre := []) (i := 7) (v := .agg #[.int .i64 0, .int .i64 k, .int .i64 0, .int .i64 x]) 247 rfl rfl (by kernel_rfl) (by kernel_rfl) (fun _ _ _ h => h) (Or.inl ⟨by rfl, ?_⟩) hb0 ?_
                · intro w' hSw; (have m0 := hxc2.out _ hSw); obtain ⟨m1, m2, m3⟩ := row3b (kept_block hSw rHh.out); (have m4 := hSw.size); (have m5 : pb < w'.heap.size := by omega); go_simp; (try with_reducible rfl)
                try simp only [Act.put, List.getElem_toArray, List.getElem_cons_succ, List.getElem_cons_zero, List.setIfInBounds_toArray, List.set_cons_zero, List.set_cons_succ]
                obtain ⟨G1, hG1⟩ : ∃ G, G0.alloc (.cells #[.int .i64 0, .int .i64 k, .int .i64 0, .int .i64 x] 62) = G := ⟨_, rfl⟩
                obtain ⟨eG1, bG1, zG1⟩ := boxedB hG1
                have hb1 := below_tr hb0 bG1
                have zG0 := hb0.size
                refine HL_ready1 (i := 8) rfl (by kernel_rfl) (by decide) (fun K hK => ?_)
                go_simp
                (try rw [hG1])
                refine hK.out _ _ hb1 ?_
                clear hK K
                try simp only [Act.put, List.getElem_toArray, List.getElem_cons_succ, List.getElem_cons_zero, List.setIfInBounds_toArray, List.set_cons_zero, List.set_cons_succ]
                refine ⟨by kernel_rfl, ?_⟩
                simp only [List.drop_succ_cons, List.drop_zero]
                obtain ⟨fv, J2, hrun, o2, kG2⟩ := own_app (t := 55) Tryz.underlying55 infoBN (by decide) (by decide) (by decide) D0.heap.size G1 (.slice na k nc) k _ [.int .i64 0, .int .i64 k, .int .i64 0, .int .i64 x] G0.heap.size (own_mono onH.out hb1) (by omega) (by omega) rfl (by simp [Value.oneCell']) eG1
                have hlb := own_lt (own_mono onH.out hb1)
                have hr2 := (kG2.block _ (Array.getElem?_eq_some_iff.1 (kept_block hb1 rHh.out)).1 (fun e => by have := hlb _ e; omega)).trans (kept_block hb1 rHh.out)
                have oh2 := own_kept (own_mono ohH.out hb1) kG2 fun j e => own_types (by decide) (own_mono onH.out hb1) (own_mono ohH.out hb1) j e
                obtain ⟨fa3, fc3, rfl⟩ := own_slice o2
                obtain ⟨w20, w21, w22⟩ := row3b hr2
                have zw2' := (zqo hr2)
                have fw2 : ∀ i, J2.frozen? ⟨w7.heap.size, i, none⟩ = false := fun i => frz hr2 i
                have kH : Kept (fun j => j ≠ w7.heap.size) J2 (J2.setCell ⟨w7.heap.size, 1, none⟩ (.slice fa3 (k + 1) fc3)) := (Kept.refl _ _).setCell (p := ⟨w7.heap.size, 1, none⟩) (.inl fun h => h rfl) _
                have hfin : Hid ((J2.setCell ⟨w7.heap.size, 1, none⟩ (.slice fa3 (k + 1) fc3)).heap[w7.heap.size]? = some (dyO (.slice fa2 (k + 1) fc2) (.slice fa3 (k + 1) fc3) nilS) ∧ (J2.setCell ⟨w7.heap.size, 1, none⟩ (.slice fa3 (k + 1) fc3)).ownsRow D0.heap.size 60 4 (.slice fa2 (k + 1) fc2) (k + 1) (((List.range (k + 1)).map (hrOf plan)).flatMap hrVEn) ∧ (J2.setCell ⟨w7.heap.size, 1, none⟩ (.slice fa3 (k + 1) fc3)).ownsRow D0.heap.size 62 4 (.slice fa3 (k + 1) fc3) (k + 1) (((List.range (k + 1)).map (nmOf plan)).flatMap nmVEn) ∧ Kept (fun j => j ≠ w7.heap.size ∧ j < D0.heap.size) D0 (J2.setCell ⟨w7.heap.size, 1, none⟩ (.slice fa3 (k + 1) fc3))) := by
                 refine Lib.hid ⟨by rw [row_set hr2]; rfl, ?_, ?_, ((hkph.out.trans kall.out).trans ((Kept.all hb1).trans (kG2.mono fun j _ h e => by have := (hlb _ e).1; omega))).trans (kH.mono fun j _ h => h.1)⟩
                 · rw [range_map, List.flatMap_append, List.flatMap_singleton, hho]
                   exact own_kept oh2 kH fun j e => by have := own_lt oh2 j e; omega
                 · rw [range_map, List.flatMap_append, List.flatMap_singleton, hnm]
                   exact own_kept o2 kH fun j e => by have := own_lt o2 j e; omega
                clear hr2 oh2 o2 kG2 kH eG1 bG1 hb0 hb1
                go_wp2_with (at_builtin; (with_reducible refine wp_at G1 ?_); refine wpList_app_run (by rfl) _ _ _ (by rfl) (by rfl) (by rfl) hrun ?_)
                refine NoPanic.normal ?_
                go_wp2_with (fail)
                exact ⟨⟨k + 1, by omega, by go_num, Lib.hid ⟨_, _, hfin.out⟩⟩, by simp [intOf]; omega⟩
              · obtain rfl : n = k := by omega
                have bDw : Below D0.heap.size D0 wr ∨ True := .inr trivial
                have kDw : Below C2.heap.size C2 wr := hCD.out.trans (hkp.below (B := C2.heap.size) (by have := hB7.size; omega) fun j hj => by have := hB7.size; omega)
                have hrs : HrsAt wr (.slice ha n hc) ((List.range n).map (hrOf plan)) := own_els (m := 4) (enc := hrVEn) (fun _ => rfl) ⟨0, 0, 0, 0⟩ (by rw [List.length_map, List.length_range]; exact hoh) (by rw [List.length_map, List.length_range]; omega)
                have nms : NmsAt wr (.slice na n nc) ((List.range n).map (nmOf plan)) := own_els (m := 4) (enc := nmVEn) (fun _ => rfl) ⟨0, 0, 0, 0⟩ (by rw [List.length_map, List.length_range]; exact hon) (by rw [List.length_map, List.length_range]; omega)
                have hfx : FxAt wr ⟨c, .slice qa c.rates.length qcap, .slice (some ⟨w6.heap.size, 0, none⟩) 1 1, .slice ha n hc, .slice na n nc, c.space, 100000000, 100000000, (List.range n).map (hrOf plan), (List.range n).map (nmOf plan)⟩ := ⟨t1, hconsh.out.mono kDw, hrs, nms, by show ((List.range n).map (hrOf plan)).length ≤ 48; rw [List.length_map, List.length_range]; omega, by show ((List.range n).map (nmOf plan)).length ≤ 200; rw [List.length_map, List.length_range]; omega⟩
                have hgp := gas_play (c := c) (s := s2) (noms := noms) (plan := plan) (by rw [hs2h.out]) hfit.out
                have hdayB := hours_day (plan := plan) (n := n) (by omega) hpb2.out
                have hstep : ∀ t, t < plan.length → HourOk ⟨c, .slice qa c.rates.length qcap, .slice (some ⟨w6.heap.size, 0, none⟩) 1 1, .slice ha n hc, .slice na n nc, c.space, 100000000, 100000000, (List.range n).map (hrOf plan), (List.range n).map (nmOf plan)⟩ t (gasTo c.gas plan t) (plan.getD t 0) := fun t ht => by
                 have ht2 : t < n := by rw [← hpl.out]; exact ht
                 refine hours_ok c _ _ _ _ _ _ _ plan n t ht2 _ ?_ t5 t6
                 rw [hgp t (by omega)]
                 exact (hfit.out t ht).1
                have kRun := Lib.hid (bookRun ⟨c, .slice qa c.rates.length qcap, .slice (some ⟨w6.heap.size, 0, none⟩) 1 1, .slice ha n hc, .slice na n nc, c.space, 100000000, 100000000, (List.range n).map (hrOf plan), (List.range n).map (nmOf plan)⟩ plan wr hfx (by show ((List.range n).map (hrOf plan)).length = _; rw [List.length_map, List.length_range, hpl.out]) (by show ((List.range n).map (nmOf plan)).length = _; rw [List.length_map, List.length_range, hpl.out]) hstep
                 (fun X hX => (bookStore (⟨c.space, 100000000, 100000000, 0, 0, [(.slice qa c.rates.length qcap, c)]⟩ : Sto) _ X (hfx.cons.mono hX)).mono fun e w' (h : BoolB _ _ e w') => h.lit t8.out)
                 (fun X hX => bookDay _ _ _ _ _ 1 (by omega) X (hrs.mono hX) (nms.mono hX) (tds_nil X) (by rw [List.length_map, List.length_range]; omega) (by rw [List.length_map, List.length_range]; omega) hdayB.1 hdayB.2))
                rw [hpl.out] at kRun
                have hgn : Hid (gasTo c.gas plan n = Sea.at0 fills (n - 1)) := Lib.hid (by
                 rw [hgp n (by rw [hpl.out]; omega), hfend.out (n - 1) (by rw [hpl.out]; omega), Nat.sub_add_cancel (by omega)])
                have sC := kept_block kDw eC2h.out
                rw [zC1'] at sC
                obtain ⟨k0, k1, k2, k3, k4, k5⟩ := row6 sC
                have zk0 := (zqo sC)
                obtain ⟨m0, m1, m2⟩ := row3b hrow
                have zm := (zqo hrow)
                have bwr : Hid (Below w.heap.size w wr) := Lib.hid (below_tr bCh.out kDw)
                have hfFC : Hid (Below F.heap.size F wr) := Lib.hid (below_tr hFC.out kDw)
                obtain ⟨fa', fcap', he, -, hfx2⟩ := hfFh.out
                rw [hfl.out] at he hfx2
                cases he
                obtain ⟨fb, fo, rfl, hfb, hfx3⟩ := hfx2 (by omega)
                have hfc := Lib.hid (fun X (hX : Below F.heap.size F X) => kept_cell hX (hfx3 (n - 1) (by omega)))
                have hnm1 : IntKind.i64.wrap ((n : Int) - 1) = ((n - 1 : Nat) : Int) := by rw [IntWalk.i64_in _ (by omega)]; omega
                have hn1 : ((n - 1 : Nat) : Int) < n := by omega
                have hn0 : (0 : Int) ≤ ((n - 1 : Nat) : Int) := by omega
                obtain ⟨n1, hn1'⟩ : ∃ n1, n - 1 = n1 := ⟨_, rfl⟩
                rw [hn1'] at hnm1 hn1 hn0 hfc hgn
                have hn1n : n1 < n := by omega
                clear z9
                replace hn1' := Lib.hid hn1'
                clear bDw kDw hrs nms hfx hgp hdayB hstep sC hrow hoh hon hkp hfx2 hfx3 hH
                go_upto_region 41 with (go_at_call 12; (with_reducible refine Calls.mono kRun.out ?_); rintro e w8b ⟨gv, bva, bvc, fv, rfl, og, ofl, hBr⟩; obtain ⟨gb, go', gc, rfl, -, hgz, -, -, hgc, -⟩ := One.form og; obtain ⟨la, lc, rfl⟩ := ofl.slice)
                obtain ⟨A, hA⟩ : ∃ A, w8b.alloc (xsO n (.slice (some ⟨gb, go', none⟩) 1 gc) (.slice bva 1 bvc)) = A := ⟨_, rfl⟩
                obtain ⟨eA, bA, zA⟩ := boxedB hA
                rw [hA]
                have hgA := kept_cell bA hgc
                rw [hgn.out] at hgA
                have hwA := below_tr hBr bA
                have hfA := hfc.out A (below_tr hfFC.out hwA)
                have hgzA : gb < A.heap.size := by omega
                have zFA := (below_tr hfFC.out hwA).size
                obtain ⟨y0, y1, y2, y3, y4, y5⟩ := row6 eA
                obtain ⟨xv, hxv⟩ : ∃ x, Sea.at0 fills n1 = x := ⟨_, rfl⟩
                rw [hxv] at hgA hfA
                obtain ⟨lb, loff, hla, hlb, hflow⟩ := flow_cell ofl (by omega) (by omega)
                subst hla
                have hflowA : Hid (∀ k, k < n → ∃ zb zo zc, A.cell? ⟨lb, loff + k * 4 + 2, none⟩ = some (.slice (some ⟨zb, zo, none⟩) 1 zc) ∧ zb < A.heap.size ∧ A.cell? ⟨zb, zo, none⟩ = some (.int .i64 (Sea.at0 plan k))) := Lib.hid fun k hk => by
                 obtain ⟨zb, zo, zc, h1, h2, h3⟩ := hflow k hk
                 exact ⟨zb, zo, zc, kept_cell bA h1, by omega, kept_cell bA h3⟩
                have hpA : Hid (∀ X, Below A.heap.size A X → ∀ t, t < n → X.cell? ⟨pb, poff + t, none⟩ = some (.int .i64 (Sea.at0 plan t))) := Lib.hid fun X hX t ht => hpxh.out X (below_tr (below_tr hfFC.out hwA) hX) t ht
                have hlbA : lb < A.heap.size := by omega
                have hpbA : pb < A.heap.size := by omega
                have bAll : Hid (Below w.heap.size w A) := Lib.hid (below_tr bwr.out hwA)
                clear hgc hflow og ofl hBr bA eA hwA k0 k1 k2 k3 k4 k5 zk0 m0 m1 m2 zm kRun
                go_wp2_with (fail)
                go_quiet (fail)
                obtain ⟨A2, hA2⟩ : ∃ X, A.drewN nq = X := ⟨_, rfl⟩
                have bA2 : Hid (Below A.heap.size A A2) := Lib.hid (by rw [← hA2]; exact below_drewN (Below.refl _ _) nq)
                rw [hA2]
                clear hA2 hgA hfA y0 y1 y2 y3 y4 y5
                go_wp2_with (fail)
                go_loopw [28] (fun i wr => ∃ k : Nat, k ≤ n ∧ i = .int .i64 k ∧ Hid (Below A.heap.size A wr)) (fun i _ => n - (intOf i).toNat)
                case atStart => exact ⟨0, by omega, rfl, bA2⟩
                case round =>
                 obtain ⟨k, hk, rfl, hH⟩ := hrel
                 by_cases hlt : k < n
                 · have hki : (k : Int) < n := by omega
                   have hk64 : IntKind.i64.wrap ((k : Int) + 1) = (k : Int) + 1 := IntWalk.i64_in _ (by omega)
                   obtain ⟨zb, zo, zc, h1, h2, h3⟩ := hflowA.out k hlt
                   have h1 := kept_cell hH.out h1
                   have h3 := kept_cell hH.out h3
                   have h4 := hpA.out _ hH.out k hlt
                   have zw := hH.out.size
                   obtain ⟨x, hx⟩ : ∃ x, Sea.at0 plan k = x := ⟨_, rfl⟩
                   rw [hx] at h3 h4
                   have hzb : zb < wr.heap.size := by omega
                   have hlw : lb < wr.heap.size := by omega
                   have hpw : pb < wr.heap.size := by omega
                   clear zw
                   go_wp2_with (fail)
                   go_quiet (fail)
                   go_wp2_with (fail)
                   exact ⟨⟨k + 1, by omega, by go_num, Lib.hid (below_drewN hH.out nq)⟩, by simp [intOf]; omega⟩
                 · obtain rfl : n = k := by omega
                   go_wp2_with ((go_at_call 5; (with_reducible refine Calls.mono (kK.out _) ?_); rintro e w9 ⟨rfl, hB9⟩))
                   go_ret
                   exact ⟨rfl, below_tr bAll.out (below_tr hH.out hB9)⟩
end Go.Proofs.YtpcamocnlnlgiaaGreat.W
