/- Laws and walks: Bkp. -/
import Derived.Test.YtpcamocnlnlgiaaGreatK15
set_option maxRecDepth 100000
set_option maxHeartbeats 16000000
set_option linter.unusedVariables false
set_option linter.unusedSimpArgs false
namespace Go.Proofs.YtpcamocnlnlgiaaGreat.B
open Go.RowKit Go.Sd Wl Bk L
attribute [local go_sem] Oper.semAt_some
def BillI (w0 : World) (rb wb : Nat) (f : Fx) (n : Nat) (gb go gc : Nat) (g : Int) (bb bo bc : Nat) (f0 f1 f2 : Value) (x : Int) (pre : List Unit) (X : World) : Prop :=
 (∃ b, RnAt w0 rb X f n gb go gc g bb bo bc b f0 f1 f2 (some x) (some x) (some x)) ∧ X.heap[wb]? = some (ptO rb)
theorem runBills {w0 : World} {rb : Nat} {gb go gc : Nat} {g : Int} {bb bo bc : Nat} {b : Int} {f0 f1 f2 : Value} (f : Fx) (n : Nat) (x : Int) (hx : -100 ≤ x ∧ x ≤ 100) (w : World) (h : RnAt w0 rb w f n gb go gc g bb bo bc b f0 f1 f2 (some x) (some x) (some x)) (ha : activeB f.c n = true) :
    Calls Tryz.prog 90 #[.pointer (some ⟨rb, 0, none⟩)] w fun e w' => e = .returned (.tuple #[]) ∧ ∃ b, RnAt w0 rb w' f n gb go gc g bb bo bc b f0 f1 f2 (some x) (some x) (some x) := by
 have hx0 := h.fxw
 obtain ⟨cb, co, cc, hcv, hcb, -, hr⟩ := con1 hx0.cons
 obtain ⟨ra, rcap, hrv, -, -⟩ := hr
 obtain ⟨c, rv, cv, hv, nv, sp, inn, out, hs, ns⟩ := f
 obtain ⟨na, ncap, hnv, hnm, -⟩ := id hx0.nms
 dsimp only at hcv hrv hnv hnm ha
 subst hcv hrv hnv
 obtain ⟨p0, o0, c0, rfl, -⟩ := One.form (show One (rb + 1) w f0 x from h.l0)
 obtain ⟨p1, o1, c1, rfl, -⟩ := One.form (show One (rb + 1) w f1 x from h.l1)
 obtain ⟨p2, o2, c2, rfl, -⟩ := One.form (show One (rb + 1) w f2 x from h.l2)
 obtain ⟨V, hW1⟩ : ∃ W, w.alloc (ptO rb) = W := ⟨_, rfl⟩
 obtain ⟨eV, b1, z1⟩ := boxedB hW1
 have rV := h.mono b1
 have hzr := (zqo h.row)
 have a0 := Lib.hid rV.l0.ahead
 have a1 := Lib.hid rV.l1.ahead
 have a2 := Lib.hid rV.l2.ahead
 have q0 := row1c eV
 have hV2 := Lib.hid rV
 have eVh := Lib.hid eV
 have zV := Lib.hid (show w.heap.size < V.heap.size ∧ rb < V.heap.size ∧ w0.heap.size ≤ rb from by have := rV.old; omega)
 clear eV b1 rV h hx0
 refine (callsIn_wide (n := 0)).1 ?_
 refine callsIn_of_wp_marks Tryz.func90 rfl trivial ?_
 simp only [Tryz.ntmps90, List.size_toArray, List.length_cons, List.length_nil, Nat.reduceAdd, Nat.reduceSub, Array.replicate_succ, Array.replicate_zero, List.push_toArray, List.append_toArray, List.nil_append, List.cons_append]
 refine wpIn_wide.2 ?_
 go_wp2_with (fail)
 refine (wpIn_wide (n := 0)).1 ?_
 refine wp_rangeFuncB (gf := 109) (pb := #[.pointer (some ⟨rb, 0, none⟩)]) (lb := #[]) (S := fun k => k < w0.heap.size ∨ k = rb) rfl (fun args w => by kernel_rfl)
  (active_yields n V hV2.out ha) ?hS (fun _ => rfl) (BillI w0 rb w.heap.size ⟨c, .slice ra c.rates.length rcap, .slice (some ⟨cb, co, none⟩) 1 cc, hv, .slice na ns.length ncap, sp, inn, out, hs, ns⟩ n gb go gc g bb bo bc (.slice (some ⟨p0, o0, none⟩) 1 c0) (.slice (some ⟨p1, o1, none⟩) 1 c1) (.slice (some ⟨p2, o2, none⟩) 1 c2) x) ?hI ?h0 ?hround ?hdone
 case hS => rintro k (h | rfl) <;> have := zV.out <;> omega
 case h0 => exact ⟨⟨_, hV2.out⟩, eVh.out⟩
 case hI =>
  rintro pre X Y ⟨⟨b', h1⟩, h2⟩ hk
  have z := zV.out
  have hk2 : Kept (fun k => k < V.heap.size) X Y := hk.mono fun k _ h => by omega
  exact ⟨⟨_, h1.keptN z.2.1 a0.out a1.out a2.out hk2⟩, (hk2.block _ (zqo h2) z.1).trans h2⟩
 case hround =>
  rintro l pre ⟨⟩ W hl hlt hpre hKS ⟨⟨b', h1⟩, h2⟩
  obtain ⟨X, hX⟩ : ∃ X, W.alloc (conO (.slice ra c.rates.length rcap) c) = X := ⟨_, rfl⟩
  obtain ⟨eX, bX, zX⟩ := boxedB hX
  gi_wp2
  refine ⟨(Kept.all bX).mono fun _ _ _ => trivial, ?_⟩
  intro U hk2 hs2
  have z := zV.out
  have rX := h1.mono bX
  have hk3 : Kept (fun k => k < V.heap.size) X U := hk2.mono fun k _ h => by omega
  have rU := rX.keptN z.2.1 a0.out a1.out a2.out hk3
  have bU := (hk3.block w.heap.size (by have := (zqo h2); omega) z.1).trans (kept_block bX h2)
  have cU := (hk2.block W.heap.size zX (by omega)).trans eX
  have zs1 : U.heap.size = X.heap.size := hs2
  have hUX : V.heap.size + 2 ≤ U.heap.size := by omega
  obtain ⟨u0, u1, u2, u3, u4, u5, u6, u7, u8, u9, u10, u11, u12, u13, u14, u15, u16, u17, u18⟩ := row19 rU.row
  have t1 := row1c bU
  obtain ⟨v0, v1, v2, v3, v4, v5, v6, v7, v8, v9, v10⟩ := row11 cU
  have zb := (zqo bU)
  have zr := (zqo rU.row)
  have zc := (zqo cU)
  obtain ⟨p', o', c', he, -, hz2, -, -, h2c, -⟩ := One.form (show One (rb + 1) U (.slice (some ⟨p2, o2, none⟩) 1 c2) x from rU.l2)
  cases he
  obtain ⟨p', o', c', he, -, hzb, -, -, hbc, -⟩ := rU.bil.form
  cases he
  have hg := grow_cell U
  have rUh := Lib.hid rU
  have bUh := Lib.hid bU
  have cUh := Lib.hid cU
  have i5 : IntKind.i64.wrap (-x) = -x := IntWalk.i64_in _ (by omega)
  have i6 : (if 0 < x then x else 0) = max 0 x := by omega
  have i7 : (if x < 0 then -x else 0) = max 0 (-x) := by omega
  replace hUX := Lib.hid hUX
  replace hpre := Lib.hid hpre
  clear rU bU cU rX hk3 h1 h2 hk2 hs2 eX bX hX hKS zs1
  gi_wp2_with (fail)
  refine fence_grow_tail (.inr ⟨_, rfl⟩) 25 (by kernel_rfl) (by kernel_rfl) (by kernel_rfl) ?_
  simp only [List.take_succ_cons, List.take_zero, List.drop_succ_cons, List.drop_zero]
  repeat (go_big_quiet_step (fail))
  refine wpQuiet_nil ?_
  rintro _ ⟨g1, rfl⟩
  generalize wrap64 (b' + wrap64 (wrap64 (c.fixed + wrap64 (c.inn * max 0 x)) + wrap64 (c.out * max 0 (-x)))) = y1
  have rG := rUh.out.mono g1.h
  have bG := kept_block g1.h bUh.out
  have cG := kept_block g1.h cUh.out
  obtain ⟨p', o', c', he, -, hkz, -, -, hkc, hkf⟩ := rG.bil.form
  cases he
  obtain ⟨Z, hZ⟩ : ∃ Z, g1.x.setCell ⟨bb, bo, none⟩ (.int .i64 y1) = Z := ⟨_, rfl⟩
  have kZ : Kept (fun k => k ≠ bb) g1.x Z := by rw [← hZ]; exact (Kept.refl _ _).setCell (p := ⟨bb, bo, none⟩) (.inl fun h => h rfl) _
  have rZ := rG.setB y1
  rw [hZ] at rZ
  have bbl := rG.br
  have z := zV.out
  have hUX2 := hUX.out
  have zW : V.heap.size ≤ W.heap.size := by omega
  have hwb : w.heap.size ≠ bb := fun e => by
   subst e
   have := (Array.getElem?_eq_some_iff.1 bG).2
   rcases rG.bil with ⟨h, -⟩ | ⟨g', off', cap', cur, e, hB, hg', -⟩
   · cases h
   · cases e
     rw [bG] at hg'
     cases hg'
  have bZ := (kZ.block _ (zqo bG) hwb).trans bG
  have cZ := (kZ.block _ (zqo cG) (by omega)).trans cG
  have kUZ := Lib.hid ((Kept.all g1.h).trans kZ)
  clear u5 u0 u1 u2 u3 u4 u6 u7 u8 u9 u10 u11 u12 u13 u14 u15 u16 u17 u18 t1 zr zb zc v0 v1 v2 v3 v4 v5 v6 v7 v8 v9 v10 hg hbc hzb hz2 h2c
  obtain ⟨v0, v1, v2, v3, v4, v5, v6, v7, v8, v9, v10⟩ := row11 cZ
  have zc := (zqo cZ)
  have rZh := Lib.hid rZ
  have bZh := Lib.hid bZ
  have cZh := Lib.hid cZ
  cases hfm : c.firm
  · rw [hfm] at v0
    clear rG bG cG rZ bZ cZ kZ
    gi_wp2_with (fail)
    refine ⟨kUZ.out.mono fun k _ h => ?_, ⟨_, rZh.out⟩, bZh.out⟩
    have := (QAt.lt rZh.out.bil bb rfl).1
    rcases h with (h | h) | h | h <;> omega
  · rw [hfm] at v0
    obtain ⟨u0, u1, u2, u3, u4, u5, u6, u7, u8, u9, u10, u11, u12, u13, u14, u15, u16, u17, u18⟩ := row19 rZ.row
    have t1 := row1c bZ
    have zb := (zqo bZ)
    have zr := (zqo rZ.row)
    obtain ⟨p', o', c', he, -, hz2, -, -, h2c, -⟩ := One.form (show One (rb + 1) Z (.slice (some ⟨p0, o0, none⟩) 1 c0) x from rZ.l0)
    cases he
    obtain ⟨p', o', c', he, -, hz3, -, -, h3c, -⟩ := One.form (show One (rb + 1) Z (.slice (some ⟨p1, o1, none⟩) 1 c1) x from rZ.l1)
    cases he
    have hg := grow_cell Z
    clear rG bG cG rZ bZ cZ kZ
    gi_wp2_with (fail)
    refine fence_grow_tail (.inr ⟨_, rfl⟩) 17 (by kernel_rfl) (by kernel_rfl) (by kernel_rfl) ?_
    simp only [List.take_succ_cons, List.take_zero, List.drop_succ_cons, List.drop_zero]
    repeat (go_big_quiet_step (fail))
    refine wpQuiet_nil ?_
    rintro _ ⟨g2, rfl⟩
    have rG := rZh.out.mono g2.h
    have bG := kept_block g2.h bZh.out
    have cG := kept_block g2.h cZh.out
    clear u5 u0 u1 u2 u3 u4 u6 u7 u8 u9 u10 u11 u12 u13 u14 u15 u16 u17 u18 t1 zr zb zc v0 v1 v2 v3 v4 v5 v6 v7 v8 v9 v10 hg hz2 h2c hz3 h3c hkc hkf hkz
    obtain ⟨u0, u1, u2, u3, u4, u5, u6, u7, u8, u9, u10, u11, u12, u13, u14, u15, u16, u17, u18⟩ := row19 rG.row
    have t1 := row1c bG
    obtain ⟨v0, v1, v2, v3, v4, v5, v6, v7, v8, v9, v10⟩ := row11 cG
    have zb := (zqo bG)
    have zr := (zqo rG.row)
    have zc := (zqo cG)
    obtain ⟨p', o', c', he, -, hkz, -, -, hkc, hkf⟩ := rG.bil.form
    cases he
    have hgg := grow_cell g2.x
    have rGh := Lib.hid rG
    have bGh := Lib.hid bG
    clear rG bG cG
    gi_wp2_with (fail)
    refine fence_grow_tail (.inr ⟨_, rfl⟩) 17 (by kernel_rfl) (by kernel_rfl) (by kernel_rfl) ?_
    simp only [List.take_succ_cons, List.take_zero, List.drop_succ_cons, List.drop_zero]
    repeat (go_big_quiet_step (fail))
    refine wpQuiet_nil ?_
    rintro _ ⟨g3, rfl⟩
    have rS := rGh.out.mono g3.h
    have bS := kept_block g3.h bGh.out
    obtain ⟨p', o', c', he, -, hjz, -, -, hjc, hjf⟩ := rS.bil.form
    cases he
    have rSh := Lib.hid rS
    have bSh := Lib.hid bS
    have hbB := (QAt.lt rS.bil bb rfl).1
    clear rS bS hgg u5 u0 u1 u2 u3 u4 u6 u7 u8 u9 u10 u11 u12 u13 u14 u15 u16 u17 u18 t1 zr zb zc v0 v1 v2 v3 v4 v5 v6 v7 v8 v9 v10 hkc hkf hkz
    gi_wp2_with (fail)
    refine ⟨((kUZ.out.trans (.all g2.h)).trans (.all g3.h)).trans ((Kept.refl (fun k => k ≠ bb) _).setCell (p := ⟨bb, bo, none⟩) (.inl fun h => h rfl) _) |>.mono fun k _ h => ?_, ⟨_, rSh.out.setB _⟩, (((Kept.refl (fun k => k ≠ bb) _).setCell (p := ⟨bb, bo, none⟩) (.inl fun h => h rfl) _).block _ (zqo bSh.out) hwb).trans bSh.out⟩
    rcases h with (h | h) | h | h <;> omega
 case hdone =>
  rintro D Y hDX ⟨⟨b', h1⟩, h2⟩ hkX hDm
  have z := zV.out
  go_wp2_with (fail)
  refine leaves_marks (B := V.heap.size) [D] Y (Marks.cons (Marks.nil _ _) (w := V) (fun _ h => by cases h) hDX (Nat.le_refl V.heap.size) hDm) fun w' hb => ?_
  exact ⟨.tuple #[], results_none rfl _ _ _, rfl, _, h1.keptN z.2.1 a0.out a1.out a2.out (.of_below hb fun _ _ h => h)⟩
end Go.Proofs.YtpcamocnlnlgiaaGreat.B
