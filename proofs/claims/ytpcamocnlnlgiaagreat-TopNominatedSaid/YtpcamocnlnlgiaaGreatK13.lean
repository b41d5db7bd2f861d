/- Laws and walks: Bkk, Bkl. -/
import Derived.Test.YtpcamocnlnlgiaaGreatK12
set_option maxRecDepth 100000
set_option maxHeartbeats 16000000
set_option linter.unusedVariables false
set_option linter.unusedSimpArgs false
namespace Go.Proofs.YtpcamocnlnlgiaaGreat.B
open Go.RowKit Go.Sd Wl Bk L
attribute [local go_sem] Oper.semAt_some
variable {w0 : World} {rb : Nat} {f : Fx} {t : Int} {gb go gc : Nat} {g : Int} {bb bo bc : Nat} {b : Int} {f0 f1 f2 : Value} {x0 x1 x2 : Option Int}
abbrev stO1 (sp inn out : Int) (cv : Value) : Obj := .cells #[.int .i64 sp, .int .i64 inn, .int .i64 out, .int .i64 0, .int .i64 0, cv] 52
abbrev stV1 (sp inn out : Int) (cv : Value) : Value := .agg #[.int .i64 sp, .int .i64 inn, .int .i64 out, .int .i64 0, .int .i64 0, cv]
theorem sum1 (va : Value) (p : Int) (hp : -1000 ≤ p ∧ p ≤ 1000) (w : World) (ha : IntsAt w va [p]) : Calls Tryz.prog 114 #[va] w fun e w' => e = .returned (.int .i64 p) ∧ w' = w := by
 refine (bookSum [p] va w ha fun k hk => ?_).mono fun e w' h => ⟨?_, h.2⟩
 · have : k = 0 ∨ k = 1 := by simp at hk; omega
   rcases this with rfl | rfl <;> simp [sumTo] <;> omega
 · rw [h.1]; simp [sumTo]
theorem granted1 (sp inn out : Int) (ca : Option Addr) (cn cc : Nat) (B : Nat) (va : Value) (p most : Int) (hp : 0 ≤ p ∧ p ≤ 1000) (hm : p ≤ most) (w : World) (ha : One B w va p) : Calls Tryz.prog 135 #[stV1 sp inn out (.slice ca cn cc), va, .int .i64 most] w fun e w' => ∃ v, e = .returned v ∧ One w.heap.size w' v p ∧ Below w.heap.size w w' := by
 obtain ⟨W1, hW1⟩ : ∃ W, w.alloc (stO1 sp inn out (.slice ca cn cc)) = W := ⟨_, rfl⟩
 obtain ⟨e1, b1, z1⟩ := boxedB hW1
 obtain ⟨W, hW⟩ : ∃ W, W1.alloc (.cells #[va] 41) = W := ⟨_, rfl⟩
 obtain ⟨e2, b2, z2⟩ := boxedB hW
 have bW := below_tr b1 b2
 have oW := ha.mono bW
 have kS := Lib.hid (sum1 va p (by omega) W (One.ints oW))
 have kC := Lib.hid (clone1 B va p W oW)
 have c4 := row1c e2
 have hB := Lib.hid bW
 obtain ⟨v1, v2, rfl⟩ := ha.slice
 simp only [List.length_cons, List.length_nil, Nat.zero_add] at kS kC c4 hW
 clear e1 b1 e2 b2 bW oW ha
 go_enter Tryz.func135, Tryz.ntmps135
 go_wp2_with (first | (go_at_call 114; (with_reducible refine Calls.mono kS.out ?_); rintro e w1 ⟨rfl, rfl⟩) | (go_at_call 82; (with_reducible refine Calls.mono kC.out ?_); rintro e w2 ⟨v, rfl, o2, hB2⟩; obtain ⟨u1, u2, rfl⟩ := o2.slice))
 go_ret
 exact ⟨_, rfl, o2.up hB.out.size, below_tr hB.out hB2⟩
theorem grant1 (sp inn out : Int) (ca : Option Addr) (cn cc : Nat) (v : Value) (x most least : Int) (hx : -100 ≤ x ∧ x ≤ 100) (hm : max 0 x ≤ most) (hl : max 0 (-x) ≤ least) (w : World) (ha : IntsAt w v [x]) : Calls Tryz.prog 112 #[stV1 sp inn out (.slice ca cn cc), v, .int .i64 most, .int .i64 least] w fun e w' => ∃ v, e = .returned v ∧ One w.heap.size w' v x ∧ Below w.heap.size w w' := by
 obtain ⟨W, hW⟩ : ∃ W, w.alloc (stO1 sp inn out (.slice ca cn cc)) = W := ⟨_, rfl⟩
 obtain ⟨e1, b1, z1⟩ := boxedB hW
 have kS := Lib.hid (sides1 v x (by omega) W (ha.mono b1))
 have kG : Hid (∀ (B : Nat) (va : Value) (p most : Int), (0 ≤ p ∧ p ≤ 1000) → p ≤ most → ∀ w, One B w va p → _) := Lib.hid fun B va p most h1 h2 w h => granted1 sp inn out ca cn cc B va p most h1 h2 w h
 have hB := Lib.hid b1
 have e1h := Lib.hid e1
 have q1 : 0 ≤ max 0 x ∧ max 0 x ≤ 1000 := by omega
 have q2 : 0 ≤ max 0 (-x) ∧ max 0 (-x) ≤ 1000 := by omega
 have q3 : max 0 x - max 0 (-x) = x := by omega
 replace q3 := Lib.hid q3
 obtain ⟨p, hp⟩ : ∃ p, max 0 x = p := ⟨_, rfl⟩
 obtain ⟨q, hq⟩ : ∃ q, max 0 (-x) = q := ⟨_, rfl⟩
 rw [hp, hq] at q3
 rw [hp] at q1 hm kS
 rw [hq] at q2 hl kS
 obtain ⟨a, cap, rfl, -⟩ := ha
 clear e1 b1 hp hq
 go_enter Tryz.func112, Tryz.ntmps112
 go_wp2_with (go_at_call 113; (with_reducible refine Calls.mono kS.out ?_); rintro e w1 ⟨va, vb, rfl, oa, ob, hB1⟩; obtain ⟨a1, a2, rfl⟩ := oa.slice; obtain ⟨b1, b2, rfl⟩ := ob.slice)
 have e2 := kept_block hB1 e1h.out
 have e3 := kept_block ((Below.refl _ w1).drew) e2
 obtain ⟨c0, c1, c2, c3, c4, c5⟩ := row6 e2
 obtain ⟨d0, d1, d2, d3, d4, d5⟩ := row6 e3
 have oa2 := QAt.mono oa ((Below.refl _ w1).drew)
 have ob2 := QAt.mono ob ((Below.refl _ w1).drew)
 have bD : Hid (Below w1.heap.size w1 w1.drew) := Lib.hid (Below.refl _ w1).drew
 refine wp_region_held_drew (S := (fun w' => w'.cell? ⟨w.heap.size, 0, none⟩ = some (.int .i64 sp) ∧ w'.cell? ⟨w.heap.size, 1, none⟩ = some (.int .i64 inn) ∧ w'.cell? ⟨w.heap.size, 2, none⟩ = some (.int .i64 out) ∧ w'.cell? ⟨w.heap.size, 3, none⟩ = some (.int .i64 0) ∧ w'.cell? ⟨w.heap.size, 4, none⟩ = some (.int .i64 0) ∧ w'.cell? ⟨w.heap.size, 5, none⟩ = some (.slice ca cn cc))) (by kernel_rfl) ?_ (fun hHeld => ?_)
 · first | (first | exact ⟨d0, d1, d2, d3, d4, d5⟩ | exact ⟨f0, f1, f2, f3, f4, f5⟩ | exact ⟨g0, g1, g2, g3, g4, g5⟩ | exact ⟨h0, h1, h2, h3, h4, h5⟩ | exact ⟨c0, c1, c2, c3, c4, c5⟩) | (dsimp only; (first | exact ⟨d0, d1, d2, d3, d4, d5⟩ | exact ⟨f0, f1, f2, f3, f4, f5⟩ | exact ⟨g0, g1, g2, g3, g4, g5⟩ | exact ⟨h0, h1, h2, h3, h4, h5⟩ | exact ⟨c0, c1, c2, c3, c4, c5⟩))
 refine wpAnyH_take (i := 0) (v := ?_) rfl (by kernel_rfl) (by kernel_rfl) (by kernel_rfl) (fun _ _ _ h => h) (Or.inl ⟨by rfl, ?_⟩) (by assumption) ?_
 rotate_left
 · intro w hSw; (try dsimp only at hSw); go_simp; (try with_reducible rfl)
 try simp only [Act.put, List.getElem_toArray, List.getElem_cons_succ, List.getElem_cons_zero, List.setIfInBounds_toArray, List.set_cons_zero, List.set_cons_succ]
 refine wpAnyH_take (i := 1) (v := ?_) rfl (by kernel_rfl) (by kernel_rfl) (by kernel_rfl) (fun _ _ _ h => h) (Or.inl ⟨by rfl, ?_⟩) (by assumption) ?_
 rotate_left
 · intro w hSw; (try dsimp only at hSw); go_simp; (try with_reducible rfl)
 try simp only [Act.put, List.getElem_toArray, List.getElem_cons_succ, List.getElem_cons_zero, List.setIfInBounds_toArray, List.set_cons_zero, List.set_cons_succ]
 refine wpAnyH_take (i := 2) (v := ?_) rfl (by kernel_rfl) (by kernel_rfl) (by kernel_rfl) (fun _ _ _ h => h) (Or.inl ⟨by rfl, ?_⟩) (by assumption) ?_
 rotate_left
 · intro w hSw; (try dsimp only at hSw); go_simp; (try with_reducible rfl)
 try simp only [Act.put, List.getElem_toArray, List.getElem_cons_succ, List.getElem_cons_zero, List.setIfInBounds_toArray, List.set_cons_zero, List.set_cons_succ]
 refine wpAnyH_take (i := 4) (v := ?_) rfl (by kernel_rfl) (by kernel_rfl) (by kernel_rfl) (fun _ _ _ h => h) (Or.inl ⟨by rfl, ?_⟩) (by assumption) ?_
 rotate_left
 · intro w hSw; (try dsimp only at hSw); go_simp; (try with_reducible rfl)
 try simp only [Act.put, List.getElem_toArray, List.getElem_cons_succ, List.getElem_cons_zero, List.setIfInBounds_toArray, List.set_cons_zero, List.set_cons_succ]
 refine wpAnyH_take (i := 5) (v := ?_) rfl (by kernel_rfl) (by kernel_rfl) (by kernel_rfl) (fun _ _ _ h => h) (Or.inl ⟨by rfl, ?_⟩) (by assumption) ?_
 rotate_left
 · intro w hSw; (try dsimp only at hSw); go_simp; (try with_reducible rfl)
 try simp only [Act.put, List.getElem_toArray, List.getElem_cons_succ, List.getElem_cons_zero, List.setIfInBounds_toArray, List.set_cons_zero, List.set_cons_succ]
 refine wpAnyH_take (i := 6) (v := ?_) rfl (by kernel_rfl) (by kernel_rfl) (by kernel_rfl) (fun _ _ _ h => h) (Or.inl ⟨by rfl, ?_⟩) (by assumption) ?_
 rotate_left
 · intro w hSw; (try dsimp only at hSw); go_simp; (try with_reducible rfl)
 try simp only [Act.put, List.getElem_toArray, List.getElem_cons_succ, List.getElem_cons_zero, List.setIfInBounds_toArray, List.set_cons_zero, List.set_cons_succ]
 refine wpAnyH_ready (rs := [3]) (by kernel_rfl) (by simp) ?_
 refine AllReadyH.cons rfl (fun K hK => ?_) AllReadyH.nil
 go_simp
 (first | (go_at_call 135; (with_reducible refine Calls.mono (kG.out _ _ _ _ q1 hm _ oa2) ?_); rintro e w2 ⟨va2, rfl, oa3, hB2⟩; obtain ⟨a3, a4, rfl⟩ := oa3.slice; have e4 := kept_block hB2 e3; have ob3 := QAt.mono ob2 hB2; obtain ⟨f0, f1, f2, f3, f4, f5⟩ := row6 e4) | (go_at_call 135; (with_reducible refine Calls.mono (kG.out _ _ _ _ q2 hl _ ob3) ?_); rintro e w3 ⟨vb2, rfl, ob4, hB3⟩; obtain ⟨b3, b4, rfl⟩ := ob4.slice; have e5 := kept_block hB3 e4; have oa4 := QAt.mono oa3 hB3; obtain ⟨g0, g1, g2, g3, g4, g5⟩ := row6 e5) | (go_at_call 116; refine Calls.mono (joined1 _ _ p q (by omega) (by omega) _ (One.ints oa4) (One.ints ob4)) ?_; rintro e w4 ⟨v, rfl, o4, hB4⟩; obtain ⟨v1, v2, rfl⟩ := o4.slice; have e6 := kept_block hB4 e5; obtain ⟨h0, h1, h2, h3, h4, h5⟩ := row6 e6))
 refine hK.out _ _ ?_ (fun hNow => ?_)
 · first | (first | exact ⟨d0, d1, d2, d3, d4, d5⟩ | exact ⟨f0, f1, f2, f3, f4, f5⟩ | exact ⟨g0, g1, g2, g3, g4, g5⟩ | exact ⟨h0, h1, h2, h3, h4, h5⟩ | exact ⟨c0, c1, c2, c3, c4, c5⟩) | (dsimp only; (first | exact ⟨d0, d1, d2, d3, d4, d5⟩ | exact ⟨f0, f1, f2, f3, f4, f5⟩ | exact ⟨g0, g1, g2, g3, g4, g5⟩ | exact ⟨h0, h1, h2, h3, h4, h5⟩ | exact ⟨c0, c1, c2, c3, c4, c5⟩))
 clear hK K hHeld
 have hHeld := hNow
 clear hNow
 try simp only [Act.put, List.getElem_toArray, List.getElem_cons_succ, List.getElem_cons_zero, List.setIfInBounds_toArray, List.set_cons_zero, List.set_cons_succ]
 refine wpAnyH_ready (rs := [7]) (by kernel_rfl) (by simp) ?_
 refine AllReadyH.cons rfl (fun K hK => ?_) AllReadyH.nil
 go_simp
 (first | (go_at_call 135; (with_reducible refine Calls.mono (kG.out _ _ _ _ q1 hm _ oa2) ?_); rintro e w2 ⟨va2, rfl, oa3, hB2⟩; obtain ⟨a3, a4, rfl⟩ := oa3.slice; have e4 := kept_block hB2 e3; have ob3 := QAt.mono ob2 hB2; obtain ⟨f0, f1, f2, f3, f4, f5⟩ := row6 e4) | (go_at_call 135; (with_reducible refine Calls.mono (kG.out _ _ _ _ q2 hl _ ob3) ?_); rintro e w3 ⟨vb2, rfl, ob4, hB3⟩; obtain ⟨b3, b4, rfl⟩ := ob4.slice; have e5 := kept_block hB3 e4; have oa4 := QAt.mono oa3 hB3; obtain ⟨g0, g1, g2, g3, g4, g5⟩ := row6 e5) | (go_at_call 116; refine Calls.mono (joined1 _ _ p q (by omega) (by omega) _ (One.ints oa4) (One.ints ob4)) ?_; rintro e w4 ⟨v, rfl, o4, hB4⟩; obtain ⟨v1, v2, rfl⟩ := o4.slice; have e6 := kept_block hB4 e5; obtain ⟨h0, h1, h2, h3, h4, h5⟩ := row6 e6))
 refine hK.out _ _ ?_ (fun hNow => ?_)
 · first | (first | exact ⟨d0, d1, d2, d3, d4, d5⟩ | exact ⟨f0, f1, f2, f3, f4, f5⟩ | exact ⟨g0, g1, g2, g3, g4, g5⟩ | exact ⟨h0, h1, h2, h3, h4, h5⟩ | exact ⟨c0, c1, c2, c3, c4, c5⟩) | (dsimp only; (first | exact ⟨d0, d1, d2, d3, d4, d5⟩ | exact ⟨f0, f1, f2, f3, f4, f5⟩ | exact ⟨g0, g1, g2, g3, g4, g5⟩ | exact ⟨h0, h1, h2, h3, h4, h5⟩ | exact ⟨c0, c1, c2, c3, c4, c5⟩))
 clear hK K hHeld
 have hHeld := hNow
 clear hNow
 try simp only [Act.put, List.getElem_toArray, List.getElem_cons_succ, List.getElem_cons_zero, List.setIfInBounds_toArray, List.set_cons_zero, List.set_cons_succ]
 refine wpAnyH_ready (rs := [8]) (by kernel_rfl) (by simp) ?_
 refine AllReadyH.cons rfl (fun K hK => ?_) AllReadyH.nil
 go_simp
 (first | (go_at_call 135; (with_reducible refine Calls.mono (kG.out _ _ _ _ q1 hm _ oa2) ?_); rintro e w2 ⟨va2, rfl, oa3, hB2⟩; obtain ⟨a3, a4, rfl⟩ := oa3.slice; have e4 := kept_block hB2 e3; have ob3 := QAt.mono ob2 hB2; obtain ⟨f0, f1, f2, f3, f4, f5⟩ := row6 e4) | (go_at_call 135; (with_reducible refine Calls.mono (kG.out _ _ _ _ q2 hl _ ob3) ?_); rintro e w3 ⟨vb2, rfl, ob4, hB3⟩; obtain ⟨b3, b4, rfl⟩ := ob4.slice; have e5 := kept_block hB3 e4; have oa4 := QAt.mono oa3 hB3; obtain ⟨g0, g1, g2, g3, g4, g5⟩ := row6 e5) | (go_at_call 116; refine Calls.mono (joined1 _ _ p q (by omega) (by omega) _ (One.ints oa4) (One.ints ob4)) ?_; rintro e w4 ⟨v, rfl, o4, hB4⟩; obtain ⟨v1, v2, rfl⟩ := o4.slice; have e6 := kept_block hB4 e5; obtain ⟨h0, h1, h2, h3, h4, h5⟩ := row6 e6))
 refine hK.out _ _ ?_ (fun hNow => ?_)
 · first | (first | exact ⟨d0, d1, d2, d3, d4, d5⟩ | exact ⟨f0, f1, f2, f3, f4, f5⟩ | exact ⟨g0, g1, g2, g3, g4, g5⟩ | exact ⟨h0, h1, h2, h3, h4, h5⟩ | exact ⟨c0, c1, c2, c3, c4, c5⟩) | (dsimp only; (first | exact ⟨d0, d1, d2, d3, d4, d5⟩ | exact ⟨f0, f1, f2, f3, f4, f5⟩ | exact ⟨g0, g1, g2, g3, g4, g5⟩ | exact ⟨h0, h1, h2, h3, h4, h5⟩ | exact ⟨c0, c1, c2, c3, c4, c5⟩))
 clear hK K hHeld
 have hHeld := hNow
 clear hNow
 try simp only [Act.put, List.getElem_toArray, List.getElem_cons_succ, List.getElem_cons_zero, List.setIfInBounds_toArray, List.set_cons_zero, List.set_cons_succ]
 refine wpAnyH_ready (rs := [9]) (by kernel_rfl) (by simp) ?_
 refine AllReadyH.cons rfl (fun K hK => ?_) AllReadyH.nil
 go_simp
 refine hK.out _ _ ?_ (fun hNow => ?_)
 · first | (first | exact ⟨d0, d1, d2, d3, d4, d5⟩ | exact ⟨f0, f1, f2, f3, f4, f5⟩ | exact ⟨g0, g1, g2, g3, g4, g5⟩ | exact ⟨h0, h1, h2, h3, h4, h5⟩ | exact ⟨c0, c1, c2, c3, c4, c5⟩) | (dsimp only; (first | exact ⟨d0, d1, d2, d3, d4, d5⟩ | exact ⟨f0, f1, f2, f3, f4, f5⟩ | exact ⟨g0, g1, g2, g3, g4, g5⟩ | exact ⟨h0, h1, h2, h3, h4, h5⟩ | exact ⟨c0, c1, c2, c3, c4, c5⟩))
 clear hK K hHeld
 have hHeld := hNow
 clear hNow
 try simp only [Act.put, List.getElem_toArray, List.getElem_cons_succ, List.getElem_cons_zero, List.setIfInBounds_toArray, List.set_cons_zero, List.set_cons_succ]
 refine wpAnyH_done (by kernel_rfl) ?_ _
 go_wp2_with (fail)
 go_ret
 have hBa := below_tr hB.out (below_tr hB1 (below_tr bD.out (below_tr hB2 hB3)))
 rw [q3.out] at o4
 exact ⟨_, rfl, One.up o4 hBa.size, below_tr hBa hB4⟩
end Go.Proofs.YtpcamocnlnlgiaaGreat.B
set_option linter.unusedVariables false
set_option linter.unusedSimpArgs false
namespace Go.Proofs.YtpcamocnlnlgiaaGreat.B
open Go.RowKit Go.Sd Wl Bk L
attribute [local go_sem] Oper.semAt_some
variable {w0 : World} {rb : Nat} {t : Int} {gb go gc : Nat} {g : Int} {bb bo bc : Nat} {b : Int} {f0 f1 f2 : Value} {x0 x1 x2 : Option Int}
theorem runGrants (f : Fx) (n : Nat) (x : Int) (hx : -100 ≤ x ∧ x ≤ 100) (w : World) (h : RnAt w0 rb w f n gb go gc g bb bo bc b f0 f1 f2 (some x) x1 x2) (hn : n < f.hs.length) (hy : hrAt f.hs n = ⟨100, 100, max 0 x, max 0 (-x)⟩) : Calls Tryz.prog 87 #[.pointer (some ⟨rb, 0, none⟩)] w fun e w' => e = .returned (.tuple #[]) ∧ ∃ u, RnAt w0 rb w' f n gb go gc g bb bo bc b f0 u f2 (some x) (some x) x2 := by
 have kH := Lib.hid (runHour n w h hn)
 rw [hy] at kH
 have hx0 := h.fxw
 obtain ⟨cb, co, cc, hcv, hcb, -⟩ := con1 hx0.cons
 obtain ⟨c, rv, cv, hv, nv, sp, inn, out, hs, ns⟩ := f
 dsimp only at hcv
 subst hcv
 have hh := Lib.hid h
 have hz := h.row
 have zr := (zqo hz)
 obtain ⟨fa, fn, rfl⟩ := QAt.slice (show One (rb + 1) w f0 x from h.l0)
 obtain ⟨p, hp⟩ : ∃ p, max 0 x = p := ⟨_, rfl⟩
 obtain ⟨q, hq⟩ : ∃ q, max 0 (-x) = q := ⟨_, rfl⟩
 have kG : Hid (∀ (w : World) (v : Value), IntsAt w v [x] → Calls Tryz.prog 112 #[stV1 sp inn out (.slice (some ⟨cb, co, none⟩) 1 cc), v, .int .i64 100, .int .i64 100] w fun e w' => ∃ v, e = .returned v ∧ One w.heap.size w' v x ∧ Below w.heap.size w w') := Lib.hid fun w v hv => grant1 sp inn out (some ⟨cb, co, none⟩) 1 cc v x 100 100 hx (by omega) (by omega) w hv
 rw [hp, hq] at kH
 clear h hx0 hz hy
 go_enter Tryz.func87, Tryz.ntmps87
 go_wp2_with (go_at_call 111; (with_reducible refine Calls.mono kH.out ?_); rintro e w1 ⟨rfl, hB1⟩; obtain ⟨V, hV⟩ : ∃ V, w1.alloc (hrO ⟨100, 100, p, q⟩) = V := ⟨_, rfl⟩)
 obtain ⟨eV, bV, zV⟩ := boxedB hV
 have zw1 := hB1.size
 have hBV := below_tr hB1 bV
 have hV0 := hh.out.mono hBV
 have hD : Below V.heap.size V V.drew := (Below.refl _ V).drew
 have hVD := hV0.mono hD
 obtain ⟨d0, d1, d2, d3, d4, d5, d6, d7, d8, d9, d10, d11, d12, d13, d14, d15, d16, d17, d18⟩ := row19 hVD.row
 obtain ⟨da, db, -, -⟩ := row4c (kept_block hD eV)
 have hDh := Lib.hid hD
 have eVh := Lib.hid eV
 have oD : One (rb + 1) V.drew (.slice fa [x].length fn) x := hVD.l0
 have hVDh := Lib.hid hVD
 simp only [List.length_cons, List.length_nil, Nat.zero_add] at *
 clear hh hV0 hD hVD eV bV hBV
 refine wp_region_held_drew (S := (fun w' => w'.cell? ⟨rb, 0, none⟩ = some (.int .i64 sp) ∧ w'.cell? ⟨rb, 1, none⟩ = some (.int .i64 inn) ∧ w'.cell? ⟨rb, 2, none⟩ = some (.int .i64 out) ∧ w'.cell? ⟨rb, 3, none⟩ = some (.int .i64 0) ∧ w'.cell? ⟨rb, 4, none⟩ = some (.int .i64 0) ∧ w'.cell? ⟨rb, 5, none⟩ = some (.slice (some ⟨cb, co, none⟩) 1 cc) ∧ w'.cell? ⟨rb, 15, none⟩ = some (.slice fa 1 fn) ∧ w'.cell? ⟨w1.heap.size, 0, none⟩ = some (.int .i64 100) ∧ w'.cell? ⟨w1.heap.size, 1, none⟩ = some (.int .i64 100))) (by kernel_rfl) ?_ (fun hHeld => ?_)
 · first | (first | exact ⟨d0, d1, d2, d3, d4, d5, d15, da, db⟩ | exact ⟨k0, k1, k2, k3, k4, k5, k15, ka, kb⟩ | exact ⟨m0, m1, m2, m3, m4, m5, m15, ma, mb⟩) | (dsimp only; (first | exact ⟨d0, d1, d2, d3, d4, d5, d15, da, db⟩ | exact ⟨k0, k1, k2, k3, k4, k5, k15, ka, kb⟩ | exact ⟨m0, m1, m2, m3, m4, m5, m15, ma, mb⟩))
 refine wpAnyH_take (i := 0) (v := ?_) rfl (by kernel_rfl) (by kernel_rfl) (by kernel_rfl) (fun _ _ _ h => h) (Or.inl ⟨by rfl, ?_⟩) (by assumption) ?_
 rotate_left
 · intro w hSw; (try dsimp only at hSw); go_simp; (try with_reducible rfl)
 try simp only [Act.put, List.getElem_toArray, List.getElem_cons_succ, List.getElem_cons_zero, List.setIfInBounds_toArray, List.set_cons_zero, List.set_cons_succ]
 refine wpAnyH_take (i := 1) (v := ?_) rfl (by kernel_rfl) (by kernel_rfl) (by kernel_rfl) (fun _ _ _ h => h) (Or.inl ⟨by rfl, ?_⟩) (by assumption) ?_
 rotate_left
 · intro w hSw; (try dsimp only at hSw); go_simp; (try with_reducible rfl)
 try simp only [Act.put, List.getElem_toArray, List.getElem_cons_succ, List.getElem_cons_zero, List.setIfInBounds_toArray, List.set_cons_zero, List.set_cons_succ]
 refine wpAnyH_take (i := 2) (v := ?_) rfl (by kernel_rfl) (by kernel_rfl) (by kernel_rfl) (fun _ _ _ h => h) (Or.inl ⟨by rfl, ?_⟩) (by assumption) ?_
 rotate_left
 · intro w hSw; (try dsimp only at hSw); go_simp; (try with_reducible rfl)
 try simp only [Act.put, List.getElem_toArray, List.getElem_cons_succ, List.getElem_cons_zero, List.setIfInBounds_toArray, List.set_cons_zero, List.set_cons_succ]
 refine wpAnyH_take (i := 3) (v := ?_) rfl (by kernel_rfl) (by kernel_rfl) (by kernel_rfl) (fun _ _ _ h => h) (Or.inl ⟨by rfl, ?_⟩) (by assumption) ?_
 rotate_left
 · intro w hSw; (try dsimp only at hSw); go_simp; (try with_reducible rfl)
 try simp only [Act.put, List.getElem_toArray, List.getElem_cons_succ, List.getElem_cons_zero, List.setIfInBounds_toArray, List.set_cons_zero, List.set_cons_succ]
 refine wpAnyH_take (i := 4) (v := ?_) rfl (by kernel_rfl) (by kernel_rfl) (by kernel_rfl) (fun _ _ _ h => h) (Or.inl ⟨by rfl, ?_⟩) (by assumption) ?_
 rotate_left
 · intro w hSw; (try dsimp only at hSw); go_simp; (try with_reducible rfl)
 try simp only [Act.put, List.getElem_toArray, List.getElem_cons_succ, List.getElem_cons_zero, List.setIfInBounds_toArray, List.set_cons_zero, List.set_cons_succ]
 refine wpAnyH_take (i := 5) (v := ?_) rfl (by kernel_rfl) (by kernel_rfl) (by kernel_rfl) (fun _ _ _ h => h) (Or.inl ⟨by rfl, ?_⟩) (by assumption) ?_
 rotate_left
 · intro w hSw; (try dsimp only at hSw); go_simp; (try with_reducible rfl)
 try simp only [Act.put, List.getElem_toArray, List.getElem_cons_succ, List.getElem_cons_zero, List.setIfInBounds_toArray, List.set_cons_zero, List.set_cons_succ]
 refine wpAnyH_take (i := 6) (v := ?_) rfl (by kernel_rfl) (by kernel_rfl) (by kernel_rfl) (fun _ _ _ h => h) (Or.inl ⟨by rfl, ?_⟩) (by assumption) ?_
 rotate_left
 · intro w hSw; (try dsimp only at hSw); go_simp; (try with_reducible rfl)
 try simp only [Act.put, List.getElem_toArray, List.getElem_cons_succ, List.getElem_cons_zero, List.setIfInBounds_toArray, List.set_cons_zero, List.set_cons_succ]
 refine wpAnyH_take (i := 7) (v := ?_) rfl (by kernel_rfl) (by kernel_rfl) (by kernel_rfl) (fun _ _ _ h => h) (Or.inl ⟨by rfl, ?_⟩) (by assumption) ?_
 rotate_left
 · intro w hSw; (try dsimp only at hSw); go_simp; (try with_reducible rfl)
 try simp only [Act.put, List.getElem_toArray, List.getElem_cons_succ, List.getElem_cons_zero, List.setIfInBounds_toArray, List.set_cons_zero, List.set_cons_succ]
 refine wpAnyH_take (i := 8) (v := ?_) rfl (by kernel_rfl) (by kernel_rfl) (by kernel_rfl) (fun _ _ _ h => h) (Or.inl ⟨by rfl, ?_⟩) (by assumption) ?_
 rotate_left
 · intro w hSw; (try dsimp only at hSw); go_simp; (try with_reducible rfl)
 try simp only [Act.put, List.getElem_toArray, List.getElem_cons_succ, List.getElem_cons_zero, List.setIfInBounds_toArray, List.set_cons_zero, List.set_cons_succ]
 refine wpAnyH_take (i := 9) (v := ?_) rfl (by kernel_rfl) (by kernel_rfl) (by kernel_rfl) (fun _ _ _ h => h) (Or.inl ⟨by rfl, ?_⟩) (by assumption) ?_
 rotate_left
 · intro w hSw; (try dsimp only at hSw); go_simp; (try with_reducible rfl)
 try simp only [Act.put, List.getElem_toArray, List.getElem_cons_succ, List.getElem_cons_zero, List.setIfInBounds_toArray, List.set_cons_zero, List.set_cons_succ]
 refine wpAnyH_take (i := 10) (v := ?_) rfl (by kernel_rfl) (by kernel_rfl) (by kernel_rfl) (fun _ _ _ h => h) (Or.inl ⟨by rfl, ?_⟩) (by assumption) ?_
 rotate_left
 · intro w hSw; (try dsimp only at hSw); go_simp; (try with_reducible rfl)
 try simp only [Act.put, List.getElem_toArray, List.getElem_cons_succ, List.getElem_cons_zero, List.setIfInBounds_toArray, List.set_cons_zero, List.set_cons_succ]
 refine wpAnyH_take (i := 11) (v := ?_) rfl (by kernel_rfl) (by kernel_rfl) (by kernel_rfl) (fun _ _ _ h => h) (Or.inl ⟨by rfl, ?_⟩) (by assumption) ?_
 rotate_left
 · intro w hSw; (try dsimp only at hSw); go_simp; (try with_reducible rfl)
 try simp only [Act.put, List.getElem_toArray, List.getElem_cons_succ, List.getElem_cons_zero, List.setIfInBounds_toArray, List.set_cons_zero, List.set_cons_succ]
 refine wpAnyH_take (i := 12) (v := ?_) rfl (by kernel_rfl) (by kernel_rfl) (by kernel_rfl) (fun _ _ _ h => h) (Or.inl ⟨by rfl, ?_⟩) (by assumption) ?_
 rotate_left
 · intro w hSw; (try dsimp only at hSw); go_simp; (try with_reducible rfl)
 try simp only [Act.put, List.getElem_toArray, List.getElem_cons_succ, List.getElem_cons_zero, List.setIfInBounds_toArray, List.set_cons_zero, List.set_cons_succ]
 refine wpAnyH_take (i := 13) (v := ?_) rfl (by kernel_rfl) (by kernel_rfl) (by kernel_rfl) (fun _ _ _ h => h) (Or.inl ⟨by rfl, ?_⟩) (by assumption) ?_
 rotate_left
 · intro w hSw; (try dsimp only at hSw); go_simp; (try with_reducible rfl)
 try simp only [Act.put, List.getElem_toArray, List.getElem_cons_succ, List.getElem_cons_zero, List.setIfInBounds_toArray, List.set_cons_zero, List.set_cons_succ]
 refine wpAnyH_ready (rs := [14]) (by kernel_rfl) (by simp) ?_
 refine AllReadyH.cons rfl (fun K hK => ?_) AllReadyH.nil
 go_simp
 (go_at_call 112; (with_reducible refine Calls.mono (kG.out _ _ (One.ints oD)) ?_); rintro e w2 ⟨u, rfl, o2, hB2⟩; obtain ⟨u1, u2, rfl⟩ := o2.slice; have r2 := hVDh.out.mono hB2; obtain ⟨k0, k1, k2, k3, k4, k5, k6, k7, k8, k9, k10, k11, k12, k13, k14, k15, k16, k17, k18⟩ := row19 r2.row; obtain ⟨ka, kb, -, -⟩ := row4c (kept_block hB2 (kept_block hDh.out eVh.out)); have kk : Kept (fun k => k ≠ rb) w2 (w2.setCell ⟨rb, 16, none⟩ (.slice u1 [x].length u2)) := (Kept.refl _ _).setCell (p := ⟨rb, 16, none⟩) (.inl fun h => h rfl) _; have zr2 := (zqo r2.row); have zf := frz r2.row 16; have zs := hDh.out.size; have r3 := r2.row' kk (by rw [row_set r2.row]; rfl) (r2.l0.kept kk fun k _ => by omega) (Fl.kept (x := some x) (One.up o2 (by omega)) kk fun k _ => by omega) (r2.l2.kept kk fun k _ => by omega); obtain ⟨m0, m1, m2, m3, m4, m5, m6, m7, m8, m9, m10, m11, m12, m13, m14, m15, m16, m17, m18⟩ := row19 r3.row; have mab := (kk.block w1.heap.size (by have := hB2.size; omega) (by omega)).trans (kept_block hB2 (kept_block hDh.out eVh.out)); obtain ⟨ma, mb, -, -⟩ := row4c mab; simp only [List.length_cons, List.length_nil, Nat.zero_add] at *)
 refine hK.out _ _ ?_ (fun hNow => ?_)
 · first | (first | exact ⟨d0, d1, d2, d3, d4, d5, d15, da, db⟩ | exact ⟨k0, k1, k2, k3, k4, k5, k15, ka, kb⟩ | exact ⟨m0, m1, m2, m3, m4, m5, m15, ma, mb⟩) | (dsimp only; (first | exact ⟨d0, d1, d2, d3, d4, d5, d15, da, db⟩ | exact ⟨k0, k1, k2, k3, k4, k5, k15, ka, kb⟩ | exact ⟨m0, m1, m2, m3, m4, m5, m15, ma, mb⟩))
 clear hK K hHeld
 have hHeld := hNow
 clear hNow
 try simp only [Act.put, List.getElem_toArray, List.getElem_cons_succ, List.getElem_cons_zero, List.setIfInBounds_toArray, List.set_cons_zero, List.set_cons_succ]
 refine wpAnyH_take (i := 15) (v := ?_) rfl (by kernel_rfl) (by kernel_rfl) (by kernel_rfl) (fun _ _ _ h => h) (Or.inl ⟨by rfl, ?_⟩) (by assumption) ?_
 rotate_left
 · intro w hSw; (try dsimp only at hSw); go_simp; (try with_reducible rfl)
 try simp only [Act.put, List.getElem_toArray, List.getElem_cons_succ, List.getElem_cons_zero, List.setIfInBounds_toArray, List.set_cons_zero, List.set_cons_succ]
 refine wpAnyH_take (i := 16) (v := ?_) rfl (by kernel_rfl) (by kernel_rfl) (by kernel_rfl) (fun _ _ _ h => h) (Or.inl ⟨by rfl, ?_⟩) (by assumption) ?_
 rotate_left
 · intro w hSw; (try dsimp only at hSw); go_simp; (try with_reducible rfl)
 try simp only [Act.put, List.getElem_toArray, List.getElem_cons_succ, List.getElem_cons_zero, List.setIfInBounds_toArray, List.set_cons_zero, List.set_cons_succ]
 refine wpAnyH_take (i := 17) (v := ?_) rfl (by kernel_rfl) (by kernel_rfl) (by kernel_rfl) (fun _ _ _ h => h) (Or.inl ⟨by rfl, ?_⟩) (by assumption) ?_
 rotate_left
 · intro w hSw; (try dsimp only at hSw); go_simp; (try with_reducible rfl)
 try simp only [Act.put, List.getElem_toArray, List.getElem_cons_succ, List.getElem_cons_zero, List.setIfInBounds_toArray, List.set_cons_zero, List.set_cons_succ]
 refine wpAnyH_ready (rs := [18]) (by kernel_rfl) (by simp) ?_
 refine AllReadyH.cons rfl (fun K hK => ?_) AllReadyH.nil
 go_simp
 refine hK.out _ _ ?_ (fun hNow => ?_)
 · first | (first | exact ⟨d0, d1, d2, d3, d4, d5, d15, da, db⟩ | exact ⟨k0, k1, k2, k3, k4, k5, k15, ka, kb⟩ | exact ⟨m0, m1, m2, m3, m4, m5, m15, ma, mb⟩) | (dsimp only; (first | exact ⟨d0, d1, d2, d3, d4, d5, d15, da, db⟩ | exact ⟨k0, k1, k2, k3, k4, k5, k15, ka, kb⟩ | exact ⟨m0, m1, m2, m3, m4, m5, m15, ma, mb⟩))
 clear hK K hHeld
 have hHeld := hNow
 clear hNow
 try simp only [Act.put, List.getElem_toArray, List.getElem_cons_succ, List.getElem_cons_zero, List.setIfInBounds_toArray, List.set_cons_zero, List.set_cons_succ]
 refine wpAnyH_done (by kernel_rfl) ?_ _
 go_wp2_with (fail)
 go_end0
 exact ⟨rfl, _, r3⟩
end Go.Proofs.YtpcamocnlnlgiaaGreat.B
