/- Laws and walks: Bkm, Rng, Rgb, Bkn, Bwt. -/
import Derived.Deep.LoopGhost
import Derived.Test.YtpcamocnlnlgiaaGreatK13
set_option maxRecDepth 100000
set_option maxHeartbeats 16000000
set_option linter.unusedVariables false
set_option linter.unusedSimpArgs false
namespace Go.Proofs.YtpcamocnlnlgiaaGreat.B
open Go.RowKit Go.Sd Wl Bk L
attribute [local go_sem] Oper.semAt_some
variable {w0 : World} {rb : Nat} {t : Int} {gb go gc : Nat} {g : Int} {bb bo bc : Nat} {b : Int} {f0 f1 f2 : Value} {x0 x1 x2 : Option Int}
theorem runFlows (f : Fx) (n : Nat) (x : Int) (hx : -100 ≤ x ∧ x ≤ 100) (w : World) (h : RnAt w0 rb w f n gb go gc g bb bo bc b f0 f1 f2 x0 (some x) x2) (hn : n < f.hs.length) (hy : hrAt f.hs n = ⟨100, 100, max 0 x, max 0 (-x)⟩) : Calls Tryz.prog 88 #[.pointer (some ⟨rb, 0, none⟩)] w fun e w' => e = .returned (.tuple #[]) ∧ ∃ u, RnAt w0 rb w' f n gb go gc g bb bo bc b f0 f1 u x0 (some x) (some x) := by
 have kH := Lib.hid (runHour n w h hn)
 rw [hy] at kH
 have hh := Lib.hid h
 have zr := (zqo h.row)
 obtain ⟨ga, gn, rfl⟩ := QAt.slice (show One (rb + 1) w f1 x from h.l1)
 have kS : Hid (∀ (w : World) (v : Value), IntsAt w v [x] → _) := Lib.hid fun w v hv => sides1 v x (by omega) w hv
 have hp0 : 0 ≤ max 0 x ∧ max 0 x ≤ 1000 := by omega
 have hq0 : 0 ≤ max 0 (-x) ∧ max 0 (-x) ≤ 1000 := by omega
 have hpq : Hid (max 0 x - max 0 (-x) = x) := Lib.hid (by omega)
 obtain ⟨p, hp⟩ : ∃ p, max 0 x = p := ⟨_, rfl⟩
 obtain ⟨q, hq⟩ : ∃ q, max 0 (-x) = q := ⟨_, rfl⟩
 rw [hp, hq] at kH hpq
 rw [hp] at kS hp0
 rw [hq] at kS hq0
 clear h hy hp hq
 go_enter Tryz.func88, Tryz.ntmps88
 go_wp2_with (first
  | (go_at_call 111; (with_reducible refine Calls.mono kH.out ?_); rintro e w1 ⟨rfl, hB1⟩; obtain ⟨V, hV⟩ : ∃ V, w1.alloc (hrO ⟨100, 100, p, q⟩) = V := ⟨_, rfl⟩; obtain ⟨eV, bV, zV⟩ := boxedB hV; have zw1 := hB1.size; have hBV := below_tr hB1 bV; have hV0 := hh.out.mono hBV; obtain ⟨d0, d1, d2, d3, d4, d5, d6, d7, d8, d9, d10, d11, d12, d13, d14, d15, d16, d17, d18⟩ := row19 hV0.row; have oV := One.ints (show One (rb + 1) V (.slice ga [x].length gn) x from hV0.l1); (try simp only [List.length_cons, List.length_nil, Nat.zero_add] at oV))
  | (go_at_call 113; (with_reducible refine Calls.mono (kS.out _ _ oV) ?_); rintro e w2 ⟨va, vb, rfl, oa, ob, hB2⟩; obtain ⟨a1, a2, rfl⟩ := oa.slice; obtain ⟨b1, b2, rfl⟩ := ob.slice))
 have r2 := hV0.mono hB2
 obtain ⟨ea, eb, ec, ed⟩ := row4c (kept_block hB2 eV)
 have zw2 := (Array.getElem?_eq_some_iff.1 (kept_block hB2 eV)).1
 have hg := grow_cell w2
 have kSa : Hid (∀ g : Grow w2, Calls Tryz.prog 114 #[.slice a1 [p].length a2] g.x fun e w' => e = .returned (.int .i64 p) ∧ Below g.x.heap.size g.x w') := Lib.hid fun g => (sum1 _ p (by omega) g.x (One.ints (QAt.mono oa g.h))).mono fun e w' h => ⟨h.1, by rw [h.2]; exact Below.refl _ _⟩
 have kSb : Hid (∀ g : Grow w2, Calls Tryz.prog 114 #[.slice b1 [q].length b2] g.x fun e w' => e = .returned (.int .i64 q) ∧ Below g.x.heap.size g.x w') := Lib.hid fun g => (sum1 _ q (by omega) g.x (One.ints (QAt.mono ob g.h))).mono fun e w' h => ⟨h.1, by rw [h.2]; exact Below.refl _ _⟩
 (try simp only [List.length_cons, List.length_nil, Nat.zero_add] at *)
 refine wp_region_grow (by kernel_rfl) (by kernel_rfl) ?_
 repeat (go_big_quiet_step ((first | (go_at_call 114; with_reducible exact Calls.grow (kSa.out _)) | (go_at_call 114; with_reducible exact Calls.grow (kSb.out _)))))
 refine wpQuiet_nil ?_
 rintro _ ⟨g, rfl⟩
 have r3 := r2.mono g.h
 have oa3 := One.ints (QAt.mono oa g.h)
 have ob3 := QAt.mono ob g.h
 have e3 := kept_block g.h (kept_block hB2 eV)
 (try simp only [List.length_cons, List.length_nil, Nat.zero_add] at oa3)
 clear kSa kSb hg
 go_wp2_with (first
  | (go_at_call 117; (with_reducible refine Calls.mono (share1 _ p hp0 _ oa3) ?_); rintro e w3 ⟨s1, rfl, os1, hB3⟩; obtain ⟨u1, u2, rfl⟩ := os1.slice; have ob4 := One.ints (QAt.mono ob3 hB3); (try simp only [List.length_cons, List.length_nil, Nat.zero_add] at ob4))
  | (go_at_call 117; (with_reducible refine Calls.mono (share1 _ q hq0 _ ob4) ?_); rintro e w4 ⟨s2, rfl, os2, hB4⟩; obtain ⟨u3, u4, rfl⟩ := os2.slice; have oj1 := One.ints (QAt.mono os1 hB4); have oj2 := One.ints os2; (try simp only [List.length_cons, List.length_nil, Nat.zero_add] at oj1 oj2))
  | (go_at_call 116; (with_reducible refine Calls.mono (joined1 _ _ p q (by omega) (by omega) _ oj1 oj2) ?_); rintro e w5 ⟨s3, rfl, os3, hB5⟩; obtain ⟨u5, u6, rfl⟩ := os3.slice; have hB35 := below_tr hB3 (below_tr hB4 hB5); have r5 := r3.mono hB35; have e5 := kept_block hB35 e3; have zr5 := (zqo r5.row); have z5 := hB4.size; have z55 := hB5.size; have z35 := hB3.size; obtain ⟨Z, hZ⟩ : ∃ Z, w5.setCell ⟨rb, 17, none⟩ (.slice u5 1 u6) = Z := ⟨_, rfl⟩; have kk : Kept (fun k => k ≠ rb) w5 Z := (by rw [← hZ]; exact (Kept.refl _ _).setCell (p := ⟨rb, 17, none⟩) (.inl fun h => h rfl) _); have zf := frz r5.row 17; obtain ⟨-, -, -, -, -, -, -, -, -, -, -, -, -, -, -, -, -, y17, -⟩ := row19 r5.row; have zg := g.h.size; have z2' := hB2.size; rw [hpq.out] at os3; have rZ := r5.row' kk (t' := n) (u0 := f0) (u1 := .slice ga 1 gn) (u2 := .slice u5 1 u6) (by rw [← hZ, row_set r5.row]; rfl) (r5.l0.kept kk fun k _ => by omega) (r5.l1.kept kk fun k _ => by omega) (Fl.kept (x := some x) (One.up os3 (by omega)) kk fun k _ => by omega); have eZ := (kk.block w1.heap.size (by omega) (by omega)).trans e5; (try simp only [List.length_cons, List.length_nil, Nat.zero_add] at *)))
 obtain ⟨k0, k1, k2, k3, k4, k5, k6, k7, k8, k9, k10, k11, k12, k13, k14, k15, k16, k17, k18⟩ := row19 rZ.row
 obtain ⟨ka, kb, kc, kd⟩ := row4c eZ
 have zz := (zqo rZ.row)
 go_still_tail 18, (by kernel_rfl)
 change wpList _ _ _ _ _ Z.drew
 obtain ⟨Y, hY⟩ : ∃ Y, Z.drew = Y := ⟨_, rfl⟩
 have rY := rZ.mono (w' := Y) (by rw [← hY]; exact (Below.refl _ _).drew)
 rw [hY]
 obtain ⟨-, -, -, -, -, -, -, -, -, -, -, y11, -⟩ := row19 rY.row
 have zy := (zqo rY.row)
 have fy := frz rY.row 11
 have kk2 : Kept (fun k => k ≠ rb) Y (Y.setCell ⟨rb, 11, none⟩ (.int .i64 0)) := (Kept.refl _ _).setCell (p := ⟨rb, 11, none⟩) (.inl fun h => h rfl) _
 have rF := rY.row' kk2 (t' := n) (by rw [row_set rY.row]; rfl) (rY.l0.kept kk2 fun k _ => by omega) (rY.l1.kept kk2 fun k _ => by omega) (rY.l2.kept kk2 fun k _ => by omega)
 replace rF := Lib.hid rF
 clear rY kk2 hY rZ eZ
 go_wp2_with (fail)
 go_end0
 exact ⟨rfl, _, rF.out⟩
theorem runGas (f : Fx) (x : Int) (w : World) (h : RnAt w0 rb w f t gb go gc g bb bo bc b f0 f1 f2 x0 x1 (some x)) (hx : -100 ≤ x ∧ x ≤ 100) (hg : 0 ≤ g ∧ g ≤ 100000000) : Calls Tryz.prog 89 #[.pointer (some ⟨rb, 0, none⟩)] w fun e w' => e = .returned (.tuple #[]) ∧ RnAt w0 rb w' f t gb go gc (g + x) bb bo bc b f0 f1 f2 x0 x1 (some x) := by
 obtain ⟨va, vn, rfl⟩ := QAt.slice (show One (rb + 1) w f2 x from h.l2)
 obtain ⟨fb, fo, fc, he, hfB, hfz, hf1, hf2, c0, -⟩ := One.form (show One (rb + 1) w (.slice va [x].length vn) x from h.l2)
 cases he
 obtain ⟨d0, d1, d2, d3, d4, d5, d6, d7, d8, d9, d10, d11, d12, d13, d14, d15, d16, d17, d18⟩ := row19 h.row
 have zr := (zqo h.row)
 have k12 := frz h.row 12
 have kk : Kept (fun k => k ≠ rb) w (w.setCell ⟨rb, 12, none⟩ (.int .i64 0)) := (Kept.refl _ _).setCell (p := ⟨rb, 12, none⟩) (.inl fun h => h rfl) _
 obtain ⟨V, hV⟩ : ∃ V, w.setCell ⟨rb, 12, none⟩ (.int .i64 0) = V := ⟨_, rfl⟩
 have rV : RnAt w0 rb V f t gb go gc g bb bo bc b f0 f1 (.slice (some ⟨fb, fo, none⟩) 1 vn) x0 x1 (some x) := by
  rw [← hV]
  exact h.row' kk (by rw [row_set h.row]; rfl) (h.l0.kept kk fun k _ => by omega) (h.l1.kept kk fun k _ => by omega) (h.l2.kept kk fun k _ => by omega)
 obtain ⟨-, -, -, -, -, -, -, -, -, -, y10, -⟩ := row19 rV.row
 have zv := (zqo rV.row)
 obtain ⟨gb', go', gc', he, hgB, hgz, hg1, hg2, e0, e1⟩ := rV.gas.form
 cases he
 have hfin := Lib.hid (rV.setG (g + x))
 have hw : IntKind.i64.wrap (g + x) = g + x := IntWalk.i64_in _ (by omega)
 have hw2 : IntKind.i64.wrap x = x := IntWalk.i64_in _ (by omega)
 clear h rV kk
 go_enter Tryz.func89, Tryz.ntmps89
 go_wp2_with (fail)
 go_loopw [11] (fun i wr => (i = .int .i64 0 ∧ w = wr) ∨ (i = .int .i64 1 ∧ Hid (RnAt w0 rb wr f t gb go gc (g + x) bb bo bc b f0 f1 (.slice (some ⟨fb, fo, none⟩) 1 vn) x0 x1 (some x)))) (fun i _ => (1 - intOf i).toNat)
 case atStart => exact .inl ⟨rfl, by first | rfl | trivial⟩
 case round =>
  rcases hrel with ⟨rfl, rfl⟩ | ⟨rfl, hH⟩
  · go_wp2_with (fail)
    exact ⟨.inr ⟨by go_num, hfin⟩, by simp [intOf]⟩
  · go_wp2_with (fail)
    go_end0
    exact ⟨rfl, hH.out⟩
end Go.Proofs.YtpcamocnlnlgiaaGreat.B
set_option linter.unusedVariables false
set_option linter.unusedSimpArgs false
namespace Go.Sd
open Go Go.RowKit
variable {P : Program}
def roundEndG {α : Type} (S : Nat → Prop) (I : List α → World → Prop) (xs : List α) (W : World) : Exit → Act → World → Prop
 | .normal, _, W' => Kept S W W' ∧ I xs W'
 | _, _, _ => False
theorem wp_rangeFuncG {α : Type} {g : Operand} {ps : Array Tmp} {assign body : Code} {Q : Exit → Act → World → Prop} {a : Act} {w : World}
    {gf : Nat} {lb : Array Value} (hg : a.eval g = .func (.func gf) #[] lb) (eg : ∀ args w, (callFunc gf args).run P w = .ok (.enter gf args) w)
    {encs : α → Array Value} {xs : List α} {S : Nat → Prop} (hseq : SeqsG P gf lb encs xs S w) (hS : ∀ k, S k → k < w.heap.size) (hps : ∀ x, (encs x).size = ps.size)
    (I : List α → World → Prop) (hI : ∀ pre X Y, I pre X → Kept (fun k => k ≠ w.heap.size ∧ k ≠ w.heap.size + 1) X Y → I pre Y) (h0 : I [] w)
    (hround : ∀ (l : Nat) (pre : List α) (x : α) (W : World), l = w.heap.size + 1 → l < W.heap.size → pre ++ [x] <+: xs → Kept S w W → I pre W →
     assign.wpIn (Fence.wide.inRound l) 0 P (Exit.then (fun a₁ W1 => Kept (fun k => S k ∨ k = w.heap.size ∨ k = w.heap.size + 1) W W1 ∧
         (∀ W2, Kept (fun k => k ≠ l) W1 W2 → W2.heap.size = W1.heap.size → body.wpIn (Fence.wide.inRound l) 0 P (roundEndG (fun k => S k ∨ k = w.heap.size ∨ k = w.heap.size + 1) I (pre ++ [x]) W2) a₁ W2)) (fun _ _ _ => False))
      { tmps := (ps.zip (encs x)).foldl (fun t (p, v) => t.setIfInBounds p v) a.tmps, defers := [] } W)
    (hdone : ∀ (D : Nat) (W : World), w.heap.size ≤ D → I xs W → Kept S w W → W.heap[D]? = some (.deferred (some [])) → Q .normal { a with defers := { target := .collected D, args := #[] } :: a.defers } W) :
    (Code.rangeFunc g ps assign body).wpIn Fence.wide 0 P Q a w := by
 refine wpIn_rangeFunc ?_
 intro fn hfn
 obtain ⟨rec, hrec⟩ : ∃ rec : LoopState → Option Code → Loop, rec = fun st pe => { state := st, pending := pe, fn, tmps := a.tmps, params := ps, assign, body, defers := w.heap.size } := ⟨_, rfl⟩
 obtain ⟨W1, hW1⟩ : ∃ W1, (w.alloc (.deferred (some []))).alloc (.loop (rec .ready none)) = W1 := ⟨_, rfl⟩
 have hL1 : W1.heap[w.heap.size + 1]? = some (.loop (rec .ready none)) := by
  rw [← hW1]; have := World.alloc_heap_new (w.alloc (.deferred (some []))) (.loop (rec .ready none)); rwa [World.size_alloc] at this
 have hK1 : W1.heap[w.heap.size]? = some (.deferred (some [])) := by
  rw [← hW1]; exact (Below.heap_alloc _ _ _ (by simp)).trans (World.alloc_heap_new w _)
 have hB1 : Below w.heap.size w W1 := by rw [← hW1]; exact ((Below.refl _ w).alloc (Nat.le_refl _) _).alloc (by simp) _
 have hsz1 : W1.heap.size = w.heap.size + 2 := by rw [← hW1]; simp
 have hI1 : I [] W1 := hI _ _ _ h0 (.all hB1)
 refine ⟨w.heap.size + 1, [{ target := .collected w.heap.size, args := #[] }], W1, { target := .fn (.func gf) lb, args := #[.func (.yield (w.heap.size + 1)) #[] #[]] }, W1, gf,
  #[.func (.yield (w.heap.size + 1)) #[] #[]] ++ lb, W1, ?_, ?_, ?_, ?_, (fun h => by cases h), ?_⟩
 · rw [← hW1, hrec]; exact run_enterLoop_outer _ _ _ _ _
 · simp only [resolve, hg]
   simp [go_sem]
 · intro f' _; trivial
 · simp [invoke, go_sem, eg]
 · refine (hseq (w.heap.size + 1)
    (fun pre W => I pre W ∧ W.heap[w.heap.size + 1]? = some (.loop (rec .ready none)) ∧ W.heap[w.heap.size]? = some (.deferred (some [])) ∧ Kept S w W)
    (fun _ => False) (fun _ _ => False)
    W1 (.of_below hB1 fun _ hk _ => hk) ?_ (fun _ _ h _ => h) ?_ ⟨hI1, hL1, hK1, .of_below hB1 fun _ hk _ => hk⟩).mono ?_
   · rintro pre X Y ⟨hi, hl, hk, hs⟩ hb
     exact ⟨hI _ _ _ hi (.all hb), (hb.block _ (zqo hl)).trans hl, (hb.block _ (zqo hk)).trans hk, hs.trans (.all hb)⟩
   · -- ONE ROUND
     rintro pre x W hpre hsw ⟨hi, hl, hk, hs⟩
     have hlt : w.heap.size + 1 < W.heap.size := (zqo hl)
     have hy := run_yield (P := P) (args := encs x) hl (by rw [hrec]; exact hps x)
     rw [hrec] at hy
     refine ⟨fn, _, assign, body, hy, roundIn_of_wpIn hfn (wpIn_mono (hround (w.heap.size + 1) pre x W rfl hlt hpre hs hi) ?_)⟩
     clear hy
     rintro e a' Wa hq
     cases e with
     | normal =>
      obtain ⟨hka, hbody⟩ := hq
      have hla := (hka.block _ (by omega) (.inr (.inr rfl))).trans hl
      have hda := (hka.block _ (by omega) (.inr (.inl rfl))).trans hk
      have hlta : w.heap.size + 1 < Wa.heap.size := (zqo hla)
      refine ⟨_, run_beginRound hla (by rw [hrec]), ?_⟩
      have hl2 : (Wa.putObj (w.heap.size + 1) (.loop { rec .ready none with state := .busy })).heap[w.heap.size + 1]? = some (.loop { rec .ready none with state := .busy }) := World.putObj_heap_same hlta
      have hd2 : (Wa.putObj (w.heap.size + 1) (.loop { rec .ready none with state := .busy })).heap[w.heap.size]? = some (.deferred (some [])) := (World.putObj_heap_other (by omega)).trans hda
      have hkw : Kept (fun k => k ≠ w.heap.size + 1) Wa (Wa.putObj (w.heap.size + 1) (.loop { rec .ready none with state := .busy })) := (Kept.refl _ _).putObj (.inl (fun h => h rfl)) _
      generalize hW2 : Wa.putObj (w.heap.size + 1) (.loop { rec .ready none with state := .busy }) = W2 at hl2 hd2 hkw
      have hs2 : Kept S w W2 := by
       refine hs.trans ((hka.mono fun k _ h => .inl h).trans (hkw.mono fun k _ h => ?_))
       have := hS k h; omega
      have hk02 : Kept S W W2 := (hka.mono fun k _ h => .inl h).trans (hkw.mono fun k _ h => by have := hS k h; omega)
      refine wpIn_mono (hbody W2 hkw (by rw [← hW2]; exact World.putObj_size)) ?_
      rintro e a3 W3 hp
      cases e with
      | normal =>
       obtain ⟨hk3, hi3⟩ := hp
       have hl3 := (hk3.block _ (zqo hl2) (.inr (.inr rfl))).trans hl2
       have hd3 := (hk3.block _ (zqo hd2) (.inr (.inl rfl))).trans hd2
       have hr := run_endRound (P := P) none hl3
       rw [hrec] at hr
       refine ⟨_, _, hr, .inl ⟨rfl, ⟨hI _ _ _ hi3 ((Kept.refl _ _).putObj (.inl fun h => h.2 rfl) _), ?_, (World.putObj_heap_other (by omega)).trans hd3, (hs2.trans (hk3.mono fun k _ h => .inl h)).putObj (.inr (by omega)) _⟩, ?_⟩⟩
       · rw [hrec]; exact World.putObj_heap_same (zqo hl3)
       · refine (hk02.trans (hk3.mono fun k _ h => .inl h)).putObj (.inl fun h => ?_) _
         have := hS _ h; omega
      | ret => exact hp.elim
      | exit id => exact hp.elim
      | goto t => exact hp.elim
      | panic ch => exact hp.elim
      | outgrown => exact hp.elim
     | exit id => exact hq.elim
     | goto l => exact hq.elim
     | ret => exact hq.elim
     | panic ch => exact hq.elim
     | outgrown => exact hq.elim
   · -- BEHIND THE ITERATOR
     rintro e W2 (⟨⟨v, rfl⟩, (⟨hi, hl, hk, hs⟩ | h)⟩ | ⟨c, rfl, h⟩)
     · exact ⟨none, _, by have := run_endLoop (P := P) hl (by rw [hrec]; simp); rw [hrec] at this; exact this, hdone _ _ (Nat.le_refl _) (hI _ _ _ hi ((Kept.refl _ _).putObj (.inl fun h => h.2 rfl) _)) (hs.putObj (.inr (by omega)) _) ((World.putObj_heap_other (by omega)).trans hk)⟩
     · exact h.elim
     · exact h.elim
end Go.Sd
namespace Go.Proofs.YtpcamocnlnlgiaaGreat.B
open Go.RowKit Go.Sd
def markD (D : Nat) : Deferred := { target := .collected D, args := #[] }
structure Marks (B : Nat) (Ds : List Nat) (w : World) : Prop where
 nd : Ds.Nodup
 on : ∀ D, D ∈ Ds → B ≤ D ∧ w.heap[D]? = some (.deferred (some []))
theorem Marks.nil (B : Nat) (w : World) : Marks B [] w := ⟨List.nodup_nil, fun D h => by cases h⟩
theorem Marks.cons {B : Nat} {Ds : List Nat} {w w' : World} {D : Nat} (h : Marks B Ds w) (hk : ∀ k, k ∈ Ds → w'.heap[k]? = w.heap[k]?) (hD : w.heap.size ≤ D) (hB : B ≤ w.heap.size) (hd : w'.heap[D]? = some (.deferred (some []))) : Marks B (D :: Ds) w' :=
 ⟨List.nodup_cons.2 ⟨fun hm => by have := (Array.getElem?_eq_some_iff.1 (h.on D hm).2).1; omega, h.nd⟩, fun k hm => by
  rcases List.mem_cons.1 hm with rfl | hm
  · exact ⟨by omega, hd⟩
  · exact ⟨(h.on k hm).1, (hk k hm).trans (h.on k hm).2⟩⟩
theorem Marks.mono {B : Nat} {Ds : List Nat} {w w' : World} (h : Marks B Ds w) (hk : ∀ k, k ∈ Ds → w'.heap[k]? = w.heap[k]?) : Marks B Ds w' := ⟨h.nd, fun k hm => ⟨(h.on k hm).1, (hk k hm).trans (h.on k hm).2⟩⟩
theorem Marks.lt {B : Nat} {Ds : List Nat} {w : World} (h : Marks B Ds w) {k : Nat} (hk : k ∈ Ds) : k < w.heap.size := (Array.getElem?_eq_some_iff.1 (h.on k hk).2).1
theorem leaves_marks {fn : Func} {tmps : Array Value} {R : Ending → World → Prop} {B : Nat} : ∀ (Ds : List Nat) (w : World), Marks B Ds w → (∀ w', Below B w w' → LeavesInM Fence.wide 0 Tryz.prog fn tmps R [] .returning w') →
    LeavesInM Fence.wide 0 Tryz.prog fn tmps R (Ds.map markD) .returning w
 | [], w, _, h => h w (Below.refl _ _)
 | D :: Ds, w, hm, h => by
  have hD := hm.on D (List.mem_cons_self ..)
  refine ⟨by simp, .inl ⟨D, _, rfl, run_takeDeferred hD.2, leaves_marks Ds _ ⟨(List.nodup_cons.1 hm.nd).2, fun k hk => ?_⟩ fun w' hb => h w' ((below_putObj (Below.refl B w) hD.1 _).trans hb)⟩⟩
  refine ⟨(hm.on k (List.mem_cons_of_mem _ hk)).1, (World.putObj_heap_other (fun e => ?_)).trans (hm.on k (List.mem_cons_of_mem _ hk)).2⟩
  subst e
  exact (List.nodup_cons.1 hm.nd).1 hk
end Go.Proofs.YtpcamocnlnlgiaaGreat.B
set_option linter.unusedVariables false
set_option linter.unusedSimpArgs false
namespace Go.Sd
open Go Go.RowKit
variable {P : Program}
def SeqsB {α : Type} (P : Program) (gf : Nat) (pb lb : Array Value) (encs : α → Array Value) (xs : List α) (S : Nat → Prop) (w : World) : Prop :=
 ∀ (l : Nat) (J : List α → World → Prop) (Jx : World → Prop) (Jp : List PanicEntry → World → Prop) (W : World), Kept S w W →
  (∀ pre X Y, J pre X → Below X.heap.size X Y → J pre Y) → (∀ X Y, Jx X → Below X.heap.size X Y → Jx Y) →
  (∀ pre x W1, pre ++ [x] <+: xs → Kept S w W1 → J pre W1 → YieldAt Fence.wide 0 P l (encs x) W1 fun e W' =>
   (e = .returned (.bool true) ∧ J (pre ++ [x]) W' ∧ Kept S W1 W') ∨ (e = .returned (.bool false) ∧ Jx W') ∨ (∃ c, e = .panicked c ∧ Jp c W')) →
  J [] W →
  CallsIn Fence.wide 0 P gf (pb ++ #[.func (.yield l) #[] #[]] ++ lb) W fun e W' => ((∃ v, e = .returned v) ∧ (J xs W' ∨ Jx W')) ∨ (∃ c, e = .panicked c ∧ Jp c W')
theorem wp_rangeFuncB {α : Type} {g : Operand} {ps : Array Tmp} {assign body : Code} {Q : Exit → Act → World → Prop} {a : Act} {w : World}
    {gf : Nat} {pb lb : Array Value} (hg : a.eval g = .func (.func gf) pb lb) (eg : ∀ args w, (callFunc gf args).run P w = .ok (.enter gf args) w)
    {encs : α → Array Value} {xs : List α} {S : Nat → Prop} (hseq : SeqsB P gf pb lb encs xs S w) (hS : ∀ k, S k → k < w.heap.size) (hps : ∀ x, (encs x).size = ps.size)
    (I : List α → World → Prop) (hI : ∀ pre X Y, I pre X → Kept (fun k => k ≠ w.heap.size ∧ k ≠ w.heap.size + 1) X Y → I pre Y) (h0 : I [] w)
    (hround : ∀ (l : Nat) (pre : List α) (x : α) (W : World), l = w.heap.size + 1 → l < W.heap.size → pre ++ [x] <+: xs → Kept S w W → I pre W →
     assign.wpIn (Fence.wide.inRound l) 0 P (Exit.then (fun a₁ W1 => Kept (fun k => S k ∨ k = w.heap.size ∨ k = w.heap.size + 1) W W1 ∧
         (∀ W2, Kept (fun k => k ≠ l) W1 W2 → W2.heap.size = W1.heap.size → body.wpIn (Fence.wide.inRound l) 0 P (roundEndG (fun k => S k ∨ k = w.heap.size ∨ k = w.heap.size + 1) I (pre ++ [x]) W2) a₁ W2)) (fun _ _ _ => False))
      { tmps := (ps.zip (encs x)).foldl (fun t (p, v) => t.setIfInBounds p v) a.tmps, defers := [] } W)
    (hdone : ∀ (D : Nat) (W : World), w.heap.size ≤ D → I xs W → Kept S w W → W.heap[D]? = some (.deferred (some [])) → Q .normal { a with defers := { target := .collected D, args := #[] } :: a.defers } W) :
    (Code.rangeFunc g ps assign body).wpIn Fence.wide 0 P Q a w := by
 refine wpIn_rangeFunc ?_
 intro fn hfn
 obtain ⟨rec, hrec⟩ : ∃ rec : LoopState → Option Code → Loop, rec = fun st pe => { state := st, pending := pe, fn, tmps := a.tmps, params := ps, assign, body, defers := w.heap.size } := ⟨_, rfl⟩
 obtain ⟨W1, hW1⟩ : ∃ W1, (w.alloc (.deferred (some []))).alloc (.loop (rec .ready none)) = W1 := ⟨_, rfl⟩
 have hL1 : W1.heap[w.heap.size + 1]? = some (.loop (rec .ready none)) := by
  rw [← hW1]; have := World.alloc_heap_new (w.alloc (.deferred (some []))) (.loop (rec .ready none)); rwa [World.size_alloc] at this
 have hK1 : W1.heap[w.heap.size]? = some (.deferred (some [])) := by
  rw [← hW1]; exact (Below.heap_alloc _ _ _ (by simp)).trans (World.alloc_heap_new w _)
 have hB1 : Below w.heap.size w W1 := by rw [← hW1]; exact ((Below.refl _ w).alloc (Nat.le_refl _) _).alloc (by simp) _
 have hsz1 : W1.heap.size = w.heap.size + 2 := by rw [← hW1]; simp
 have hI1 : I [] W1 := hI _ _ _ h0 (.all hB1)
 refine ⟨w.heap.size + 1, [{ target := .collected w.heap.size, args := #[] }], W1, { target := .fn (.func gf) lb, args := pb ++ #[.func (.yield (w.heap.size + 1)) #[] #[]] }, W1, gf,
  pb ++ #[.func (.yield (w.heap.size + 1)) #[] #[]] ++ lb, W1, ?_, ?_, ?_, ?_, (fun h => by cases h), ?_⟩
 · rw [← hW1, hrec]; exact run_enterLoop_outer _ _ _ _ _
 · simp only [resolve, hg]
   simp [go_sem]
 · intro f' _; trivial
 · simp [invoke, go_sem, eg]
 · refine (hseq (w.heap.size + 1)
    (fun pre W => I pre W ∧ W.heap[w.heap.size + 1]? = some (.loop (rec .ready none)) ∧ W.heap[w.heap.size]? = some (.deferred (some [])) ∧ Kept S w W)
    (fun _ => False) (fun _ _ => False)
    W1 (.of_below hB1 fun _ hk _ => hk) ?_ (fun _ _ h _ => h) ?_ ⟨hI1, hL1, hK1, .of_below hB1 fun _ hk _ => hk⟩).mono ?_
   · rintro pre X Y ⟨hi, hl, hk, hs⟩ hb
     exact ⟨hI _ _ _ hi (.all hb), (hb.block _ (zqo hl)).trans hl, (hb.block _ (zqo hk)).trans hk, hs.trans (.all hb)⟩
   · -- ONE ROUND
     rintro pre x W hpre hsw ⟨hi, hl, hk, hs⟩
     have hlt : w.heap.size + 1 < W.heap.size := (zqo hl)
     have hy := run_yield (P := P) (args := encs x) hl (by rw [hrec]; exact hps x)
     rw [hrec] at hy
     refine ⟨fn, _, assign, body, hy, roundIn_of_wpIn hfn (wpIn_mono (hround (w.heap.size + 1) pre x W rfl hlt hpre hs hi) ?_)⟩
     clear hy
     rintro e a' Wa hq
     cases e with
     | normal =>
      obtain ⟨hka, hbody⟩ := hq
      have hla := (hka.block _ (by omega) (.inr (.inr rfl))).trans hl
      have hda := (hka.block _ (by omega) (.inr (.inl rfl))).trans hk
      have hlta : w.heap.size + 1 < Wa.heap.size := (zqo hla)
      refine ⟨_, run_beginRound hla (by rw [hrec]), ?_⟩
      have hl2 : (Wa.putObj (w.heap.size + 1) (.loop { rec .ready none with state := .busy })).heap[w.heap.size + 1]? = some (.loop { rec .ready none with state := .busy }) := World.putObj_heap_same hlta
      have hd2 : (Wa.putObj (w.heap.size + 1) (.loop { rec .ready none with state := .busy })).heap[w.heap.size]? = some (.deferred (some [])) := (World.putObj_heap_other (by omega)).trans hda
      have hkw : Kept (fun k => k ≠ w.heap.size + 1) Wa (Wa.putObj (w.heap.size + 1) (.loop { rec .ready none with state := .busy })) := (Kept.refl _ _).putObj (.inl (fun h => h rfl)) _
      generalize hW2 : Wa.putObj (w.heap.size + 1) (.loop { rec .ready none with state := .busy }) = W2 at hl2 hd2 hkw
      have hs2 : Kept S w W2 := by
       refine hs.trans ((hka.mono fun k _ h => .inl h).trans (hkw.mono fun k _ h => ?_))
       have := hS k h; omega
      have hk02 : Kept S W W2 := (hka.mono fun k _ h => .inl h).trans (hkw.mono fun k _ h => by have := hS k h; omega)
      refine wpIn_mono (hbody W2 hkw (by rw [← hW2]; exact World.putObj_size)) ?_
      rintro e a3 W3 hp
      cases e with
      | normal =>
       obtain ⟨hk3, hi3⟩ := hp
       have hl3 := (hk3.block _ (zqo hl2) (.inr (.inr rfl))).trans hl2
       have hd3 := (hk3.block _ (zqo hd2) (.inr (.inl rfl))).trans hd2
       have hr := run_endRound (P := P) none hl3
       rw [hrec] at hr
       refine ⟨_, _, hr, .inl ⟨rfl, ⟨hI _ _ _ hi3 ((Kept.refl _ _).putObj (.inl fun h => h.2 rfl) _), ?_, (World.putObj_heap_other (by omega)).trans hd3, (hs2.trans (hk3.mono fun k _ h => .inl h)).putObj (.inr (by omega)) _⟩, ?_⟩⟩
       · rw [hrec]; exact World.putObj_heap_same (zqo hl3)
       · refine (hk02.trans (hk3.mono fun k _ h => .inl h)).putObj (.inl fun h => ?_) _
         have := hS _ h; omega
      | ret => exact hp.elim
      | exit id => exact hp.elim
      | goto t => exact hp.elim
      | panic ch => exact hp.elim
      | outgrown => exact hp.elim
     | exit id => exact hq.elim
     | goto l => exact hq.elim
     | ret => exact hq.elim
     | panic ch => exact hq.elim
     | outgrown => exact hq.elim
   · -- BEHIND THE ITERATOR
     rintro e W2 (⟨⟨v, rfl⟩, (⟨hi, hl, hk, hs⟩ | h)⟩ | ⟨c, rfl, h⟩)
     · exact ⟨none, _, by have := run_endLoop (P := P) hl (by rw [hrec]; simp); rw [hrec] at this; exact this, hdone _ _ (Nat.le_refl _) (hI _ _ _ hi ((Kept.refl _ _).putObj (.inl fun h => h.2 rfl) _)) (hs.putObj (.inr (by omega)) _) ((World.putObj_heap_other (by omega)).trans hk)⟩
     · exact h.elim
     · exact h.elim
end Go.Sd
set_option linter.unusedVariables false
set_option linter.unusedSimpArgs false
namespace Go.Proofs.YtpcamocnlnlgiaaGreat.B
open Go.RowKit Go.Sd Wl Bk L
attribute [local go_sem] Oper.semAt_some
variable {w0 w w' : World} {rb : Nat} {f : Fx} {t : Int} {gb go gc : Nat} {g : Int} {bb bo bc : Nat} {b : Int} {f0 f1 f2 : Value} {x0 x1 x2 : Option Int}
def Ahead (N : Nat) (v : Value) : Prop := ∀ k, v.ownBlock = some k → k < N
theorem Fl.ahead {B : Nat} {w : World} {v : Value} {x : Option Int} (h : Fl B w v x) : Ahead w.heap.size v := by
 cases x with
 | none => intro k e; rw [show v = .slice none 0 0 from h] at e; cases e
 | some n => exact fun k e => (QAt.lt h k e).2
theorem Fl.keptN {B N : Nat} {w w' : World} {v : Value} {x : Option Int} (h : Fl B w v x) (ha : Ahead N v) (hk : Kept (fun k => k < N) w w') : Fl B w' v x := by
 cases x with
 | none => exact h
 | some n => exact QAt.kept h hk ha
theorem RnAt.keptN (h : RnAt w0 rb w f t gb go gc g bb bo bc b f0 f1 f2 x0 x1 x2) {N : Nat} (hN : rb < N) (h0 : Ahead N f0) (h1 : Ahead N f1) (h2 : Ahead N f2) (hk : Kept (fun k => k < N) w w') : RnAt w0 rb w' f t gb go gc g bb bo bc b f0 f1 f2 x0 x1 x2 := by
 have h3 := h.old
 have h4 := h.gr
 have h5 := h.br
 refine ⟨h.fx, h.base.trans (hk.below (by have := h.base.size; omega) fun k hk => by omega), (hk.block _ (zqo h.row) hN).trans h.row, h.old, h.gas.kept hk fun k e => ?_, h.bil.kept hk fun k e => ?_, h.gr, h.br, h.ne, h.l0.keptN h0 hk, h.l1.keptN h1 hk, h.l2.keptN h2 hk⟩
 · cases e; show gb < N; omega
 · cases e; show bb < N; omega
theorem RnAt.setW {k o c : Nat} {z : Int} (h : RnAt w0 rb w f t gb go gc g bb bo bc b (.slice (some ⟨k, o, none⟩) 1 c) f1 f2 (some z) none none) (y : Int) : RnAt w0 rb (w.setCell ⟨k, o, none⟩ (.int .i64 y)) f t gb go gc g bb bo bc b (.slice (some ⟨k, o, none⟩) 1 c) f1 f2 (some y) none none := by
 have hk : Kept (fun j => j ≠ k) w (w.setCell ⟨k, o, none⟩ (.int .i64 y)) := (Kept.refl _ _).setCell (p := ⟨k, o, none⟩) (.inl fun h => h rfl) _
 have h1 := (QAt.lt (show One (rb + 1) w (.slice (some ⟨k, o, none⟩) 1 c) z from h.l0) k rfl).1
 have h3 := h.old
 have h4 := h.gr
 have h5 := h.br
 have hz := (zqo h.row)
 refine ⟨h.fx, h.base.trans (hk.below (by have := h.base.size; omega) fun j hj => by omega), (hk.block _ hz (by omega)).trans h.row, h.old, h.gas.kept hk fun j e => ?_, h.bil.kept hk fun j e => ?_, h.gr, h.br, h.ne, One.set (show One (rb + 1) w (.slice (some ⟨k, o, none⟩) 1 c) z from h.l0) y, h.l1, h.l2⟩
 · cases e; show gb ≠ k; omega
 · cases e; show bb ≠ k; omega
theorem active_yields (n : Nat) (w : World) (h : RnAt w0 rb w f n gb go gc g bb bo bc b f0 f1 f2 x0 x1 x2) (ha : activeB f.c n = true) :
    SeqsB Tryz.prog 109 #[.pointer (some ⟨rb, 0, none⟩)] #[] (fun _ : Unit => #[.int .i64 0, conV f.rv f.c]) [()] (fun k => k < w0.heap.size ∨ k = rb) w := by
 intro l J Jx Jp W hKW hJ hJx hY h0
 have hrow := (hKW.block rb (zqo h.row) (.inr rfl)).trans h.row
 have hbase : Below w0.heap.size w0 W := h.base.trans (hKW.below h.base.size fun k hk => .inl hk)
 have hx := h.fx.mono hbase
 obtain ⟨cb, co, cc, hcv, hcb, ⟨k0, k1, k2, k3, k4, k5, k6, k7, k8, k9, k10⟩, hr⟩ := con1 hx.cons
 obtain ⟨c, rv, cv, hv, nv, sp, inn, out, hs, ns⟩ := f
 obtain ⟨firm, space, lo, hi, rates, gas, fixed, cin, cout, cut, lack⟩ := c
 dsimp only at hcv ha k0 k1 k2 k3 k4 k5 k6 k7 k8 k9 k10 hr hrow ⊢
 subst hcv
 obtain ⟨ra, rcap, rfl, hrm, -⟩ := id hr
 obtain ⟨-, -, -, -, -, d5, -, -, -, d9, -⟩ := row19 hrow
 have zr := (zqo hrow)
 obtain ⟨V, hV⟩ : ∃ V, W.alloc (conO (.slice ra rates.length rcap) ⟨firm, space, lo, hi, rates, gas, fixed, cin, cout, cut, lack⟩) = V := ⟨_, rfl⟩
 obtain ⟨eV, bV, zV⟩ := boxedB hV
 obtain ⟨v0, v1, v2, v3, v4, v5, v6, v7, v8, v9, v10⟩ := row11 eV
 obtain ⟨-, -, -, -, -, -, -, -, -, e9, -⟩ := row19 (kept_block bV hrow)
 have zrv := (Array.getElem?_eq_some_iff.1 (kept_block bV hrow)).1
 have kA : Hid (∀ g : Grow V, Calls Tryz.prog 133 #[conV (.slice ra rates.length rcap) ⟨firm, space, lo, hi, rates, gas, fixed, cin, cout, cut, lack⟩, .int .i64 n] g.x fun e w' => e = .returned (.bool true) ∧ Below g.x.heap.size g.x w') :=
  Lib.hid fun g => (bookActive ⟨firm, space, lo, hi, rates, gas, fixed, cin, cout, cut, lack⟩ _ n g.x ((hr.mono bV).mono g.h)).mono fun e w' (h : BoolB _ _ e w') => h.lit ha
 have hg := grow_cell V
 have hJV := Lib.hid (hJ _ _ _ h0 bV)
 have hKV := Lib.hid (hKW.trans (.all bV))
 replace hY := Lib.hid hY
 replace hJ := Lib.hid hJ
 clear h hx hrow hbase hKW h0 eV bV hr ha hJx
 refine callsIn_wide.2 ?_
 go_enter Tryz.func109, Tryz.ntmps109
 go_wp2
 refine (wpIn_wide (n := 0)).1 ?_
 gi_loopw [12] (fun i wr => (i = .int .i64 0 ∧ W = wr) ∨ (i = .int .i64 1 ∧ Hid (J [()] wr))) (fun i _ => (1 - intOf i).toNat)
 case atStart => exact .inl ⟨rfl, by first | rfl | trivial⟩
 case round =>
  rcases hrel with ⟨rfl, rfl⟩ | ⟨rfl, hH⟩
  · gi_wp2_with (fail)
    refine fence_grow_tail (.inl rfl) 11 (by kernel_rfl) (by kernel_rfl) (by kernel_rfl) ?_
    simp only [List.take_succ_cons, List.take_zero, List.drop_succ_cons, List.drop_zero]
    repeat (go_big_quiet_step (first | (go_at_call 133; with_reducible exact Calls.grow (kA.out _))))
    refine wpQuiet_nil ?_
    rintro _ ⟨g3, rfl⟩
    obtain ⟨fn, tmps, assign, body, hy0, hR⟩ := hY.out [] () g3.x (List.prefix_refl _) (hKV.out.trans (.all g3.h)) (hJ.out _ _ _ hJV.out g3.h)
    have hy : (Instr.yield l #[.int .i64 0, conV (.slice ra rates.length rcap) ⟨firm, space, lo, hi, rates, gas, fixed, cin, cout, cut, lack⟩]).run Tryz.prog g3.x = .ok (.round l fn tmps assign body) g3.x := hy0
    clear hy0
    gi_wp2
    refine ⟨rfl, hR.mono ?_⟩
    clear hy hR
    rintro e W3 (⟨rfl, hJ4, hk4⟩ | ⟨rfl, hJx4⟩ | ⟨c, rfl, hJp⟩)
    · gi_wp2
      exact ⟨.inr ⟨by go_num, hJ4⟩, by simp [intOf]⟩
    · gi_wp2
      exact bodyPost_ret (results_none rfl _ _ _) rfl (.inl ⟨⟨_, rfl⟩, .inr hJx4⟩)
    · exact ⟨rfl, .inr ⟨c, rfl, hJp⟩⟩
  · gi_wp2
    go_end0
    exact .inl ⟨⟨_, rfl⟩, .inl hH.out⟩
end Go.Proofs.YtpcamocnlnlgiaaGreat.B
set_option linter.unusedVariables false
set_option linter.unusedSimpArgs false
namespace Bk
structure Fit (c : Con) (g x : Int) : Prop where
 g0 : 0 ≤ g
 gs : g ≤ c.space
 b0 : 0 ≤ g + x
 bs : g + x ≤ c.space
 x0 : -100 ≤ x
 x1 : x ≤ 100
 inn : x ≤ (rateOf c g).inn
 out : -x ≤ (rateOf c g).out
end Bk
