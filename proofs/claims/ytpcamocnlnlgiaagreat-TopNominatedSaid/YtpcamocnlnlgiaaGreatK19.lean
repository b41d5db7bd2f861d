/- Laws and walks: Bks, We3, We4. -/
import Derived.Deep.Cut
import Derived.Test.YtpcamocnlnlgiaaGreatK18
set_option maxRecDepth 100000
set_option maxHeartbeats 16000000
set_option linter.unusedVariables false
set_option linter.unusedSimpArgs false
namespace Bk
def gasTo (g : Int) (plan : List Int) : Nat → Int
 | 0 => g
 | t + 1 => gasTo g plan t + plan.getD t 0
end Bk
namespace Go.Proofs.YtpcamocnlnlgiaaGreat.B
open Go.RowKit Go.Sd Wl Bk L
attribute [local go_sem] Oper.semAt_some
theorem infoF : (Tryz.prog.info? 69).map (fun i => (i.zero, i.size, i.bytes)) = some (some (flV nilS nilS nilS), 4, 96) := by kernel_rfl
structure FlowsAt (B C : Nat) (w : World) (v : Value) (plan : List Int) (k : Nat) : Prop where
 own : ∃ zs : List (Value × Value × Value), zs.length = k ∧ w.ownsRow B 69 4 v k (zs.flatMap fun p => [p.1, p.2.1, p.2.2, .slice none 0 0]) ∧ ∀ t, t < k → One C w (zs.getD t (nilS, nilS, nilS)).2.2 (plan.getD t 0)
theorem own_type {B C : Nat} {w : World} {v z : Value} {n : Nat} {ks : List Value} {x : Int} (h : w.ownsRow B 69 4 v n ks) (hz : One C w z x) : ∀ k, z.ownBlock = some k → v.ownBlock ≠ some k := by
 intro k hk e
 obtain ⟨g, off, cap, rfl, -, -, -, -, -, -⟩ := hz.form
 rcases hz with ⟨h0, -⟩ | ⟨g', off', cap', cur, he, -, hg, -⟩
 · cases h0
 · cases he
   cases hk
   rcases h.2 with ⟨rfl, -⟩ | ⟨g2, cap2, cur2, rfl, -, hg2, -⟩
   · cases e
   · cases e
     rw [hg] at hg2
     cases hg2
theorem FlowsAt.kept {B C : Nat} {S : Nat → Prop} {w w' : World} {v : Value} {plan : List Int} {k : Nat} (h : FlowsAt B C w v plan k) (hk : Kept S w w') (hB : ∀ j, B ≤ j → S j) (hC : ∀ j, C ≤ j → S j) : FlowsAt B C w' v plan k := by
 obtain ⟨zs, h1, h2, h3⟩ := h.own
 refine ⟨zs, h1, ⟨h2.1, ?_⟩, fun t ht => QAt.kept (h3 t ht) hk fun j e => hC j (QAt.lt (h3 t ht) j e).1⟩
 rcases h2.2 with h | ⟨g, cap, cur, e, hb, hg, r⟩
 · exact .inl h
 · exact .inr ⟨g, cap, cur, e, hb, (hk.block g (zqo hg) (hB g hb)).trans hg, r⟩
theorem FlowsAt.nil (B C : Nat) (w : World) (plan : List Int) : FlowsAt B C w nilS plan 0 := ⟨[], rfl, World.ownsRow_nil w B _ 4, fun t ht => by omega⟩
theorem FlowsAt.slice {B C : Nat} {w : World} {v : Value} {plan : List Int} {k : Nat} (h : FlowsAt B C w v plan k) : ∃ a c, v = .slice a k c := by
 obtain ⟨zs, h1, h2, h3⟩ := h.own
 rcases h2.2 with ⟨rfl, rfl⟩ | ⟨g, cap, cur, e, -⟩
 · exact ⟨none, 0, rfl⟩
 · exact ⟨_, cap, e⟩
theorem app_flow (B C : Nat) (w : World) (v : Value) (plan : List Int) (k : Nat) (u0 u1 z : Value) (vb : Nat) (h : FlowsAt B C w v plan k) (hk : k ≤ 100) (hB : B ≤ w.heap.size) (hz : One C w z (plan.getD k 0)) (h1 : u0.oneCell' = true) (h2 : u1.oneCell' = true) (h3 : z.oneCell' = true)
    (hv : w.heap[vb]? = some (.cells #[u0, u1, z, .slice none 0 0] 69 (0, 0))) :
    ∃ v' w', (Builtin.append_ #[65, 65] 65 #[v, .slice (some ⟨vb, 0, none⟩) 1 1]).run Tryz.prog w = .ok v' w' ∧ FlowsAt B C w' v' plan (k + 1) ∧ Kept (fun j => v.ownBlock ≠ some j) w w' := by
 obtain ⟨i0, hi, hz0, hz1, hz2⟩ := info_parts infoF
 obtain ⟨zs, e1, e2, e3⟩ := h.own
 obtain ⟨c0, c1, c2, c3⟩ := row4c hv
 obtain ⟨v', w', hrun, r1, r2, -, -⟩ := run_append_own_at (P := Tryz.prog) w B 65 65 69 i0 _ 4 96 Tryz.underlying65 hi hz0 hz1 hz2 rfl (by decide) v k _ e2 ⟨vb, 0, none⟩ 1 1 [u0, u1, z, .slice none 0 0] rfl
  (by
   intro j u hj
   rw [add_at, Nat.zero_add]
   match j, hj with
   | 0, hj => cases hj; exact c0
   | 1, hj => cases hj; exact c1
   | 2, hj => cases hj; exact c2
   | 3, hj => cases hj; exact c3
   | j + 4, hj => simp at hj)
  (by
   intro u hu
   simp only [List.mem_cons, List.not_mem_nil, or_false] at hu
   rcases hu with rfl | rfl | rfl | rfl
   · exact h1
   · exact h2
   · exact h3
   · rfl) (by unfold maxLen; omega) (by omega) hB
 have hkk : Kept (fun j => v.ownBlock ≠ some j) w w' := .grown r2 fun j _ hj => fun e => hj e.symm
 refine ⟨v', w', hrun, ⟨zs ++ [(u0, u1, z)], by simp [e1], by simpa using r1, fun t ht => ?_⟩, hkk⟩
 by_cases e : t = k
 · subst e
   rw [List.getD_eq_getElem?_getD, List.getElem?_append_right (by omega), e1, Nat.sub_self]
   exact QAt.kept hz hkk (own_type e2 hz)
 · have ht2 : t < k := by omega
   rw [List.getD_eq_getElem?_getD, List.getElem?_append_left (by omega), ← List.getD_eq_getElem?_getD]
   exact QAt.kept (e3 t ht2) hkk (own_type e2 (e3 t ht2))
theorem FlowsAt.up {B C B2 C2 : Nat} {w : World} {v : Value} {plan : List Int} {k : Nat} (h : FlowsAt B C w v plan k) (h1 : B2 ≤ B) (h2 : C2 ≤ C) : FlowsAt B2 C2 w v plan k := by
 obtain ⟨zs, e1, e2, e3⟩ := h.own
 refine ⟨zs, e1, ⟨e2.1, ?_⟩, fun t ht => One.up (e3 t ht) h2⟩
 rcases e2.2 with h | ⟨g, cap, cur, e, hb, r⟩
 · exact .inl h
 · exact .inr ⟨g, cap, cur, e, by omega, r⟩
theorem FlowsAt.mono {B C : Nat} {w w' : World} {v : Value} {plan : List Int} {k : Nat} (h : FlowsAt B C w v plan k) (hb : Below w.heap.size w w') : FlowsAt B C w' v plan k := h.kept (S := fun _ => True) (.all hb) (fun _ _ => trivial) fun _ _ => trivial
structure RunSt (B C xb : Nat) (w0 : World) (g0 : Int) (plan : List Int) (k : Nat) (v : Value) (W : World) : Prop where
 st : ∃ gv bv b, W.heap[xb]? = some (xsO k gv bv) ∧ One B W gv (gasTo g0 plan k) ∧ One B W bv b
 fl : FlowsAt C C W v plan k
 kept : Kept (fun j => j ≠ xb ∧ j < C) w0 W
theorem set_rows6 {w : World} {n : Nat} {a0 a1 a2 a3 a4 a5 : Value} {e : TypeId} (h : w.heap[n]? = some (.cells #[a0, a1, a2, a3, a4, a5] e (0, 0))) (b0 b1 b2 b3 b4 b5 : Value) {Z : World} (hZ : ((((((w.setCell ⟨n, 0, none⟩ b0).setCell ⟨n, 1, none⟩ b1).setCell ⟨n, 2, none⟩ b2).setCell ⟨n, 3, none⟩ b3).setCell ⟨n, 4, none⟩ b4).setCell ⟨n, 5, none⟩ b5) = Z) :
    Z.heap[n]? = some (.cells #[b0, b1, b2, b3, b4, b5] e (0, 0)) ∧ Kept (fun k => k ≠ n) w Z := by
 subst hZ
 exact ⟨set_cells6B h b0 b1 b2 b3 b4 b5, set_kept6B w n b0 b1 b2 b3 b4 b5⟩
theorem bookRun (f : Fx) (plan : List Int) (w : World) (h : FxAt w f) (hl : f.hs.length = plan.length) (hl2 : f.ns.length = plan.length) (ok : ∀ t, t < plan.length → HourOk f t (gasTo f.c.gas plan t) (plan.getD t 0))
    (kS : ∀ X, Below w.heap.size w X → Calls Tryz.prog 45 #[stV f] X fun e w' => e = .returned (.bool true) ∧ Below X.heap.size X w')
    (kD : ∀ X, Below w.heap.size w X → Calls Tryz.prog 46 #[dyV f.hv f.nv nilS, .int .i64 1] X fun e w' => e = .returned (.bool true) ∧ Below X.heap.size X w') :
    Calls Tryz.prog 12 #[stV f, dyV f.hv f.nv nilS] w fun e w' => ∃ gv ba bc fv, e = .returned (.tuple #[xsV plan.length gv (.slice ba 1 bc), fv, .int .i64 0]) ∧ One w.heap.size w' gv (gasTo f.c.gas plan plan.length) ∧ FlowsAt w.heap.size w.heap.size w' fv plan plan.length ∧ Below w.heap.size w w' := by
 obtain ⟨cb, co, cc, hcv, -⟩ := con1 h.cons
 obtain ⟨c, rv, cv, hv, nv, sp, inn, out, hs, ns⟩ := f
 obtain ⟨ha, hcap, hhv, hhm, -⟩ := id h.hrs
 obtain ⟨na, ncap, hnv, hnm, -⟩ := id h.nms
 have hlh := h.lh
 dsimp only at hcv hhv hnv hhm hnm hl hl2 hlh
 have hl100 : plan.length ≤ 48 := by omega
 rw [hl] at hhv
 rw [hl2] at hnv
 subst hcv hhv hnv
 replace hl := Lib.hid hl
 replace hl2 := Lib.hid hl2
 obtain ⟨W1, hW1⟩ : ∃ W, w.alloc (stO1 sp inn out (.slice (some ⟨cb, co, none⟩) 1 cc)) = W := ⟨_, rfl⟩
 obtain ⟨e1, k1, z1⟩ := boxedB hW1
 obtain ⟨W2, hW2⟩ : ∃ W, W1.alloc (dyO (.slice ha plan.length hcap) (.slice na plan.length ncap) nilS) = W := ⟨_, rfl⟩
 obtain ⟨e2, k2, z2⟩ := boxedB hW2
 obtain ⟨W3, hW3⟩ : ∃ W, W2.alloc (xsO 0 nilS nilS) = W := ⟨_, rfl⟩
 obtain ⟨e3, k3, z3⟩ := boxedB hW3
 have hB3 := below_tr (below_tr k1 k2) k3
 have r1 := kept_block k3 (kept_block k2 e1)
 have r2 := kept_block k3 e2
 have pS := Lib.hid (kS W3 hB3)
 have pD : Hid (∀ X, Below W3.heap.size W3 X → _) := Lib.hid fun X (hX : Below W3.heap.size W3 X) => kD X (below_tr hB3 hX)
 have pB : Hid (∀ X, Below W3.heap.size W3 X → _) := Lib.hid fun X (hX : Below W3.heap.size W3 X) => bookBegin _ X (h.mono (below_tr hB3 hX))
 have hh := Lib.hid h
 have hB3h := Lib.hid hB3
 have r1h := Lib.hid r1
 have r2h := Lib.hid r2
 have r3h := Lib.hid e3
 obtain ⟨a0, a1, a2, a3, a4, a5⟩ := row6 r1
 clear kS kD hB3 r1 r2 e1 e2 e3 k1 k2 k3 h
 go_enter Tryz.func12, Tryz.ntmps12
 go_wp2_with (first
  | (go_at_call 45; (with_reducible refine Calls.mono pS.out ?_); rintro e w1 ⟨rfl, hC1⟩; have s1 := kept_block hC1 r1h.out; have s2 := kept_block hC1 r2h.out; obtain ⟨b0, b1, b2, b3, b4, b5⟩ := row6 s1; obtain ⟨c0, c1, c2⟩ := row3b s2; have zs1 := (zqo s1); have zs2 := (zqo s2))
  | (go_at_call 46; (with_reducible refine Calls.mono (pD.out _ hC1) ?_); rintro e w2 ⟨rfl, hC2⟩; have s3 := kept_block hC2 s1; have s4 := kept_block hC2 s2; obtain ⟨d0, d1, d2, d3, d4, d5⟩ := row6 s3; obtain ⟨f0, f1, f2⟩ := row3b s4; have zs3 := (zqo s3); have zs4 := (zqo s4))
  | (go_at_call 47; (with_reducible refine Calls.mono (pB.out _ (below_tr hC1 hC2)) ?_); rintro e w3 ⟨gv, bv, rfl, og, ob, hne, hC3⟩; obtain ⟨ga, go', gc, rfl, -⟩ := One.form og; obtain ⟨ba, bo, bc, rfl, -⟩ := One.form ob; have hC := below_tr hC1 (below_tr hC2 hC3); have t1 := kept_block hC r1h.out; have t2 := kept_block hC r2h.out; have t3 := kept_block hC r3h.out; obtain ⟨g0, g1, g2, g3, g4, g5⟩ := row6 t1; obtain ⟨h0, h1, h2⟩ := row3b t2; have zt1 := (zqo t1); have zt2 := (zqo t2)))
 obtain ⟨X, hX⟩ : ∃ X, w3.alloc (xsO 0 (.slice (some ⟨ga, go', none⟩) 1 gc) (.slice (some ⟨ba, bo, none⟩) 1 bc)) = X := ⟨_, rfl⟩
 rw [hX]
 obtain ⟨eX, bX, zX⟩ := boxedB hX
 have zw3 := hC.size
 have hBX : Below w.heap.size w X := below_tr (below_tr hB3h.out hC) bX
 have hzw : w.heap.size ≤ w3.heap.size := (below_tr hB3h.out hC).size
 have zW3 : w.heap.size < W1.heap.size ∧ W1.heap.size < W2.heap.size ∧ W2.heap.size < W3.heap.size := ⟨z1, z2, z3⟩
 have og1 := One.up og (show w.heap.size ≤ _ from (below_tr hB3h.out (below_tr hC1 hC2)).size)
 have ob1 := One.up ob (show w.heap.size ≤ _ from (below_tr hB3h.out (below_tr hC1 hC2)).size)
 have st0 : Hid (RunSt w.heap.size X.heap.size w3.heap.size X c.gas plan 0 nilS X) := Lib.hid ⟨⟨_, _, _, eX, QAt.mono og1 bX, QAt.mono ob1 bX⟩, FlowsAt.nil _ _ _ _, Kept.refl _ _⟩
 have R1 := Lib.hid (kept_block bX t1)
 have R2 := Lib.hid (kept_block bX t2)
 have R3 := Lib.hid (kept_block bX t3)
 have hBXh := Lib.hid hBX
 clear hX eX bX og og1 ob ob1 hC1 hC2 hC3 hC t1 t2 t3 g0 g1 g2 g3 g4 g5 h0 h1 h2 zt1 zt2 s1 s2 s3 s4 b0 b1 b2 b3 b4 b5 c0 c1 c2 d0 d1 d2 d3 d4 d5 f0 f1 f2 zs1 zs2 zs3 zs4 a0 a1 a2 a3 a4 a5 pS pD pB hBX hW1 hW2 hW3
 have hl64 : (plan.length : Int) ≤ 48 := by omega
 go_loopw [28, 8] (fun i o wr => ∃ k : Nat, k ≤ plan.length ∧ i = .int .i64 k ∧ Hid (RunSt w.heap.size X.heap.size w3.heap.size X c.gas plan k o wr)) (fun i _ _ => plan.length - (intOf i).toNat)
 case atStart => exact ⟨0, by omega, rfl, st0⟩
 case round =>
  obtain ⟨k, hk, rfl, hH⟩ := hrel
  obtain ⟨gv, bv, b, hr, og, ob⟩ := hH.out.st
  obtain ⟨ga, go', gc, rfl, -⟩ := One.form og
  obtain ⟨ba, bo, bc, rfl, -⟩ := One.form ob
  obtain ⟨oa, oc, rfl⟩ := hH.out.fl.slice
  have zk := hH.out.kept.size
  have q1 := (hH.out.kept.block w.heap.size (by omega) (by omega)).trans R1.out
  have q2 := (hH.out.kept.block W1.heap.size (by omega) (by omega)).trans R2.out
  by_cases hlt : k < plan.length
  · have hki : (k : Int) < plan.length := by omega
    have hok := Lib.hid (ok k hlt)
    have bwr : Below w.heap.size w wr := hBXh.out.trans (hH.out.kept.below (B := w.heap.size) (by omega) fun j hj => by omega)
    have kSt := Lib.hid (bookStep _ k _ _ b w.heap.size _ _ wr (hh.out.mono bwr) (ok k hlt) og ob)
    obtain ⟨a0, a1, a2, a3, a4, a5⟩ := row6 q1
    obtain ⟨d0, d1, d2⟩ := row3b q2
    obtain ⟨x0, x1, x2, x3, x4, x5⟩ := row6 hr
    have za := (zqo q1)
    have zd := (zqo q2)
    have zx := (zqo hr)
    have hrh := Lib.hid hr
    clear q1 q2 hr og ob
    go_upto_region 9 with (first
     | (go_at_call 48; (with_reducible refine Calls.mono kSt.out ?_); rintro e w1 ⟨gv1, bv1, b1, ua, un, va, vn, z, rfl, og1, ob1, oz1, hB1⟩; obtain ⟨ga1, go1, gc1, rfl, -⟩ := One.form og1; obtain ⟨ba1, bo1, bc1, rfl, -⟩ := One.form ob1; obtain ⟨zb1, zo1, zc1, rfl, -⟩ := One.form oz1; have q3 := kept_block hB1 hrh.out; obtain ⟨y0, y1, y2, y3, y4, y5⟩ := row6 q3; have zq := (zqo q3); have fz : ∀ i, w1.frozen? ⟨w3.heap.size, i, none⟩ = false := fun i => frz q3 i))
    obtain ⟨Z, hZ⟩ : ∃ Z, ((((((w1.setCell ⟨w3.heap.size, 0, none⟩ (.int .i64 ((k : Int) + 1))).setCell ⟨w3.heap.size, 1, none⟩ (.slice (some ⟨ga1, go1, none⟩) 1 gc1)).setCell ⟨w3.heap.size, 2, none⟩ (.int .i64 0)).setCell ⟨w3.heap.size, 3, none⟩ (.int .i64 0)).setCell ⟨w3.heap.size, 4, none⟩ (.slice (some ⟨ba1, bo1, none⟩) 1 bc1)).setCell ⟨w3.heap.size, 5, none⟩ (.slice none 0 0)) = Z := ⟨_, rfl⟩
    have zZ : Z.heap.size = w1.heap.size := by rw [← hZ]; simp
    obtain ⟨rZ, kZ⟩ := set_rows6 q3 _ _ _ _ _ _ hZ
    rw [hZ]
    obtain ⟨V1, hV1⟩ : ∃ V, Z.alloc (xsO ((k : Int) + 1) (.slice (some ⟨ga1, go1, none⟩) 1 gc1) (.slice (some ⟨ba1, bo1, none⟩) 1 bc1)) = V := ⟨_, rfl⟩
    obtain ⟨e1, bV1, zV1⟩ := boxedB hV1
    have zV1' : V1.heap.size = w1.heap.size + 1 := by rw [← hV1]; simp [zZ]
    obtain ⟨V2, hV2⟩ : ∃ V, V1.alloc (flO (.slice ua 1 un) (.slice va 1 vn) (.slice (some ⟨zb1, zo1, none⟩) 1 zc1)) = V := ⟨_, rfl⟩
    obtain ⟨e2, bV2, zV2⟩ := boxedB hV2
    obtain ⟨W4, hW4⟩ : ∃ V, V2.alloc (flO (.slice ua 1 un) (.slice va 1 vn) (.slice (some ⟨zb1, zo1, none⟩) 1 zc1)) = V := ⟨_, rfl⟩
    obtain ⟨e4, bV4, zV4⟩ := boxedB hW4
    have bZ4 := below_tr (below_tr bV1 bV2) bV4
    have zw1 := hB1.size
    have hxX : w3.heap.size < X.heap.size := zX
    have kw : Kept (fun j => j ≠ w3.heap.size) wr W4 := ((Kept.all hB1).trans kZ).trans (.all bZ4)
    have fl4 := hH.out.fl.kept kw (fun j hj => by omega) (fun j hj => by omega)
    have oz4 := QAt.mono (QAt.kept (One.up oz1 (show X.heap.size ≤ wr.heap.size by omega)) kZ fun j e => by have := (QAt.lt oz1 j e).1; omega) bZ4
    obtain ⟨fv, W5, hrun, fl5, k5⟩ := app_flow X.heap.size X.heap.size W4 (.slice oa k oc) plan k (.slice ua 1 un) (.slice va 1 vn) (.slice (some ⟨zb1, zo1, none⟩) 1 zc1) V2.heap.size fl4 (by omega) (by omega) oz4 rfl rfl rfl e4
    have og4 := QAt.mono (QAt.kept (One.up og1 (show w.heap.size ≤ wr.heap.size by omega)) kZ fun j e => by have := (QAt.lt og1 j e).1; omega) bZ4
    have ob4 := QAt.mono (QAt.kept (One.up ob1 (show w.heap.size ≤ wr.heap.size by omega)) kZ fun j e => by have := (QAt.lt ob1 j e).1; omega) bZ4
    obtain ⟨zs, hzs1, hown, -⟩ := fl4.own
    have hlb : ∀ j, (Value.slice oa k oc).ownBlock = some j → X.heap.size ≤ j := by
     intro j hj
     rcases hown.2 with ⟨h0, -⟩ | ⟨g9, cap9, cur9, h0, h1, -⟩
     · rw [h0] at hj; cases hj
     · rw [h0] at hj; cases hj; exact h1
    have hfin : Hid (RunSt w.heap.size X.heap.size w3.heap.size X c.gas plan (k + 1) fv W5) := Lib.hid ⟨⟨_, _, _, (k5.block _ (Array.getElem?_eq_some_iff.1 (kept_block bZ4 rZ)).1 (fun e => by have := hlb _ e; omega)).trans (kept_block bZ4 rZ), QAt.kept og4 k5 (own_type hown og4), QAt.kept ob4 k5 (own_type hown ob4)⟩, fl5,
     (hH.out.kept.trans (kw.mono fun j _ h => h.1)).trans (k5.mono fun j _ h e => by have := hlb _ e; omega)⟩
    obtain ⟨fa, fc, rfl⟩ := fl5.slice
    have e2' := e2
    rw [zV1'] at e2'
    obtain ⟨y0', y1', y2', y3'⟩ := row4c e2'
    have zv2 : w1.heap.size + 1 < V2.heap.size := by omega
    clear hZ rZ kZ e1 bV1 e2 bV2 e4 bV4 bZ4 kw fl4 oz4 fl5 k5 og4 ob4 hown hlb hB1 og1 ob1 oz1 q3 e2' x0 x1 x2 x3 x4 x5 y0 y1 y2 y3 y4 y5 a0 a1 a2 a3 a4 a5 d0 d1 d2
    go_wp2_with (at_builtin; (with_reducible refine wp_at W4 ?_); refine wpList_app_run (by rfl) _ _ _ (by rfl) (by rfl) (by rfl) hrun ?_)
    exact ⟨⟨k + 1, by omega, by go_num, hfin⟩, by simp [intOf]; omega⟩
  · obtain rfl : k = plan.length := by omega
    have q3 := (hH.out.kept.block W2.heap.size (by omega) (by omega)).trans R3.out
    obtain ⟨x0, x1, x2, x3, x4, x5⟩ := row6 hr
    obtain ⟨y0, y1, y2, y3, y4, y5⟩ := row6 q3
    have zx := (zqo hr)
    have zy := (zqo q3)
    have fz : ∀ i, wr.frozen? ⟨W2.heap.size, i, none⟩ = false := fun i => frz q3 i
    obtain ⟨Z, hZ⟩ : ∃ Z, ((((((wr.setCell ⟨W2.heap.size, 0, none⟩ (.int .i64 (plan.length : Int))).setCell ⟨W2.heap.size, 1, none⟩ (.slice (some ⟨ga, go', none⟩) 1 gc)).setCell ⟨W2.heap.size, 2, none⟩ (.int .i64 0)).setCell ⟨W2.heap.size, 3, none⟩ (.int .i64 0)).setCell ⟨W2.heap.size, 4, none⟩ (.slice (some ⟨ba, bo, none⟩) 1 bc)).setCell ⟨W2.heap.size, 5, none⟩ (.slice none 0 0)) = Z := ⟨_, rfl⟩
    obtain ⟨rZ, kZ⟩ := set_rows6 q3 _ _ _ _ _ _ hZ
    obtain ⟨m0, m1, m2, m3, m4, m5⟩ := row6 rZ
    have bZ : Below w.heap.size w Z := (hBXh.out.trans (hH.out.kept.below (B := w.heap.size) (by omega) fun j hj => by omega)).trans (kZ.below (B := w.heap.size) (by omega) fun j hj => by omega)
    have hgne : Hid (ga ≠ W2.heap.size) := Lib.hid fun e => by
     subst e
     rcases og with ⟨h0, -⟩ | ⟨g9, o9, c9, cur9, h0, -, h1, -⟩
     · cases h0
     · cases h0
       rw [q3] at h1
       cases h1
    have hfin := Lib.hid (show One w.heap.size Z (.slice (some ⟨ga, go', none⟩) 1 gc) (gasTo c.gas plan plan.length) ∧ FlowsAt w.heap.size w.heap.size Z (.slice oa plan.length oc) plan plan.length ∧ Below w.heap.size w Z from
     ⟨QAt.kept og kZ (fun j e => by cases e; exact hgne.out), (hH.out.fl.kept kZ (fun j hj => by omega) (fun j hj => by omega)).up (by omega) (by omega), bZ⟩)
    clear q3 hr og ob kZ rZ bZ q1 q2
    go_wp2_with (fail)
    refine bodyPost_ret (v := .tuple #[xsV plan.length (.slice (some ⟨ga, go', none⟩) 1 gc) (.slice (some ⟨ba, bo, none⟩) 1 bc), .slice oa plan.length oc, .int .i64 0]) (by simp [results, Tryz.results12, go_sem, m0, m1, m2, m3, m4, m5]) rfl ⟨_, _, _, _, rfl, hfin.out⟩
end Go.Proofs.YtpcamocnlnlgiaaGreat.B
set_option linter.unusedVariables false
set_option linter.unusedSimpArgs false
namespace Go.Proofs.YtpcamocnlnlgiaaGreat.B
open Go.RowKit Go.Sd Wl L
abbrev quO (v : Value) : Obj := .cells #[v] 197
theorem row_one {w : World} {n : Nat} {a : Value} {e : TypeId} (h : w.heap[n]? = some (.cells #[a] e (0, 0))) : w.cell? ⟨n, 0, none⟩ = some a ∧ w.frozen? ⟨n, 0, none⟩ = false := by
 rw [cell_of_row w n 0 _ _ (0, 0) h, frozen_of_row w n 0 _ _ h]
 exact ⟨rfl, rfl⟩
structure QuIs (B qb : Nat) (w : World) (v : Value) (xs : List Int) (w' : World) (v' : Value) : Prop where
 list : QAt B w' v' xs
 row : w'.heap[qb]? = some (quO v')
 kept : Kept (fun k => k ≠ qb ∧ some k ≠ v.ownBlock) w w'
 own : v'.ownBlock = v.ownBlock ∨ v'.ownBlock = none ∨ ∃ m, v'.ownBlock = some m ∧ w.heap.size ≤ m
theorem own_ne {B qb : Nat} {w : World} {v : Value} {xs : List Int} (h : QAt B w v xs) (hlt : qb < B) : some qb ≠ v.ownBlock := fun e => by have := (h.lt _ e.symm).1; omega
theorem progBehind (B qb : Nat) (v : Value) (xs : List Int) (y : Int) (w : World) (hq : QAt B w v xs) (hn : xs.length ≤ 100000000) (hB : B ≤ w.heap.size) (hr : w.heap[qb]? = some (quO v)) (hlt : qb < B) :
    Calls Tryz.prog 121 #[.pointer (some ⟨qb, 0, none⟩), .int .i64 y] w fun e w' => e = .returned (.tuple #[]) ∧ ∃ v', QuIs B qb w v (xs ++ [y]) w' v' := by
 obtain ⟨W, hW⟩ : ∃ W, w.alloc (.cells #[.int .i64 y] 3) = W := ⟨_, rfl⟩
 obtain ⟨eW, bW, zW⟩ := boxedB hW
 obtain ⟨v', w', hrun, h1, h2, h3⟩ := run_q_more B 41 W v xs y w.heap.size 1 (hq.mono bW) hn (by omega) (row_one eW).1
 obtain ⟨c0, f0⟩ := row_one hr
 have hqn := own_ne hq hlt
 have hrW := kept_block bW hr
 have hrw := (h2.block qb (by omega) hqn).trans hrW
 obtain ⟨c1, f1⟩ := row_one hrw
 have hzw := (zqo hrw)
 have hzq := (zqo hr)
 obtain ⟨a, cap, rfl⟩ := hq.slice
 have hfin : QuIs B qb w (.slice a xs.length cap) (xs ++ [y]) (w'.setCell ⟨qb, 0, none⟩ v') v' := by
  refine ⟨h1.kept (S := fun k => k ≠ qb) ((Kept.refl _ _).setCell (p := ⟨qb, 0, none⟩) (.inl fun h => h rfl) _) fun k e h => ?_, row_set hrw 0 v', ?_, ?_⟩
  · subst h; have := (h1.lt _ e).1; omega
  · exact ((Kept.all bW).trans (h2.mono fun k _ h => h.2)).setCell (p := ⟨qb, 0, none⟩) (.inl fun h => h.1 rfl) _
  · rcases h3 with h | ⟨m, hm, hm2⟩
    · exact .inl h
    · exact .inr (.inr ⟨m, hm, by have := bW.size; omega⟩)
 obtain ⟨a', cap', rfl⟩ := h1.slice
 have hl : (xs ++ [y]).length = xs.length + 1 := by simp
 rw [hl] at hfin hrun
 replace hfin := Lib.hid hfin
 clear hl h1 h2 h3 eW bW hq hrW
 go_enter Tryz.func121, Tryz.ntmps121
 go_wp2_with (at_builtin; refine wpList_app_run (by rfl) _ _ _ (by rfl) (by rfl) (by rfl) hrun ?_)
 go_end0
 exact ⟨rfl, _, hfin.out⟩
theorem progAhead (B qb : Nat) (v : Value) (xs : List Int) (y : Int) (w : World) (hq : QAt B w v xs) (hn : xs.length ≤ 100000000) (hB : B ≤ w.heap.size) (hr : w.heap[qb]? = some (quO v)) (hlt : qb < B) :
    Calls Tryz.prog 126 #[.pointer (some ⟨qb, 0, none⟩), .int .i64 y] w fun e w' => e = .returned (.tuple #[]) ∧ ∃ v', QuIs B qb w v (y :: xs) w' v' := by
 obtain ⟨W, hW⟩ : ∃ W, w.alloc (.cells #[.int .i64 y] 3) = W := ⟨_, rfl⟩
 obtain ⟨eW, bW, zW⟩ := boxedB hW
 obtain ⟨v', w', hrun, h1, h2, h3⟩ := run_q_ahead B 41 W v xs y w.heap.size (hq.mono bW) hn hB eW
 have hrW := kept_block bW hr
 have hrw := kept_block h2 hrW
 obtain ⟨cW, fW⟩ := row_one hrW
 obtain ⟨c1, f1⟩ := row_one hrw
 have hzw := (zqo hrw)
 have hzq := (zqo hr)
 have hzW := (zqo hrW)
 obtain ⟨a, cap, rfl⟩ := hq.slice
 have hfin : QuIs B qb w (.slice a xs.length cap) (y :: xs) (w'.setCell ⟨qb, 0, none⟩ v') v' := by
  refine ⟨h1.kept (S := fun k => k ≠ qb) ((Kept.refl _ _).setCell (p := ⟨qb, 0, none⟩) (.inl fun h => h rfl) _) fun k e h => ?_, row_set hrw 0 v', ?_, ?_⟩
  · subst h; have := (h1.lt _ e).1; omega
  · exact ((Kept.all bW).trans (Kept.all h2)).setCell (p := ⟨qb, 0, none⟩) (.inl fun h => h.1 rfl) _
  · rcases h3 with h | ⟨m, hm, hm2⟩
    · exact .inr (.inr ⟨_, h, Nat.le_refl _⟩)
    · exact .inr (.inr ⟨m, hm, by have := bW.size; omega⟩)
 obtain ⟨a', cap', rfl⟩ := h1.slice
 replace hfin := Lib.hid hfin
 clear h1 h2 h3 eW bW hq hrW
 go_enter Tryz.func126, Tryz.ntmps126
 go_wp2_with (at_builtin; refine wpList_app_run (by rfl) _ _ _ (by rfl) (by rfl) (by rfl) hrun ?_)
 go_end0
 exact ⟨rfl, _, hfin.out⟩
theorem progTake0 (B qb : Nat) (v : Value) (w : World) (hq : QAt B w v []) (hr : w.heap[qb]? = some (quO v)) :
    Calls Tryz.prog 122 #[.pointer (some ⟨qb, 0, none⟩)] w fun e w' => e = .returned (.tuple #[.int .i64 0, .bool false]) ∧ w' = w := by
 obtain ⟨a, cap, rfl⟩ := hq.slice
 obtain ⟨c0, f0⟩ := row_one hr
 have hzq := (zqo hr)
 clear hq hr
 simp only [List.length_nil] at c0
 go_enter Tryz.func122, Tryz.ntmps122
 go_wp2
 exact bodyPost_ret (v := .tuple #[.int .i64 0, .bool false]) (by simp [results, Tryz.results122, go_sem]) rfl ⟨rfl, rfl⟩
theorem progTake (B qb : Nat) (v : Value) (x : Int) (xs : List Int) (w : World) (hq : QAt B w v (x :: xs)) (hr : w.heap[qb]? = some (quO v)) (hlt : qb < B) (hB : B ≤ w.heap.size) :
    Calls Tryz.prog 122 #[.pointer (some ⟨qb, 0, none⟩)] w fun e w' => e = .returned (.tuple #[.int .i64 x, .bool true]) ∧ ∃ v', QuIs B qb w v xs w' v' := by
 have hq0 := hq
 rcases hq0 with ⟨-, h⟩ | ⟨g, off, cap, cur, rfl, hBg, hg, -⟩
 · cases h
 obtain ⟨c0, f0⟩ := row_one hr
 have hzq := (zqo hr)
 have hzg := (zqo hg)
 have hx := hq.cell (k := 0) (by simp)
 simp only [Nat.add_zero, List.getD_cons_zero] at hx
 obtain ⟨h1, h2, h3, h4⟩ := hq.cap
 simp only [List.length_cons] at c0 hx h2 h3 hq hr
 have hk : Kept (fun k => k ≠ qb ∧ some k ≠ (Value.slice (some ⟨g, off, none⟩) (xs.length + 1) cap).ownBlock) w w := Kept.refl _ _
 have hlen : ((xs.length + 1 : Nat) : Int) = (xs.length : Int) + 1 := by omega
 by_cases hc : cap = 1
 · subst hc
   obtain ⟨hx0, hqt⟩ := hq.tail1
   subst hx0
   have hfin : QuIs B qb w (.slice (some ⟨g, off, none⟩) 1 1) [] (w.setCell ⟨qb, 0, none⟩ (.slice (some ⟨g, off, none⟩) 0 0)) (.slice (some ⟨g, off, none⟩) 0 0) :=
    ⟨hqt.kept (S := fun k => k ≠ qb) ((Kept.refl _ _).setCell (p := ⟨qb, 0, none⟩) (.inl fun h => h rfl) _) (fun k e h => by subst h; have := (hqt.lt _ e).1; omega), row_set hr 0 _, hk.setCell (p := ⟨qb, 0, none⟩) (.inl fun h => h.1 rfl) _, .inl rfl⟩
   replace hfin := Lib.hid hfin
   clear hq hqt hr hk
   go_enter Tryz.func122, Tryz.ntmps122
   go_wp2
   exact bodyPost_ret (v := .tuple #[.int .i64 x, .bool true]) (by simp [results, Tryz.results122, go_sem]) rfl ⟨rfl, _, hfin.out⟩
 · have hqt := hq.tail (by omega)
   have hfin : QuIs B qb w (.slice (some ⟨g, off, none⟩) (xs.length + 1) cap) xs (w.setCell ⟨qb, 0, none⟩ (.slice (some ⟨g, off + 1, none⟩) xs.length (cap - 1))) (.slice (some ⟨g, off + 1, none⟩) xs.length (cap - 1)) :=
    ⟨hqt.kept (S := fun k => k ≠ qb) ((Kept.refl _ _).setCell (p := ⟨qb, 0, none⟩) (.inl fun h => h rfl) _) (fun k e h => by subst h; have := (hqt.lt _ e).1; omega), row_set hr 0 _, hk.setCell (p := ⟨qb, 0, none⟩) (.inl fun h => h.1 rfl) _, .inl rfl⟩
   replace hfin := Lib.hid hfin
   clear hq hqt hr hk
   go_enter Tryz.func122, Tryz.ntmps122
   go_wp2
   exact bodyPost_ret (v := .tuple #[.int .i64 x, .bool true]) (by simp [results, Tryz.results122, go_sem]) rfl ⟨rfl, _, hfin.out⟩
end Go.Proofs.YtpcamocnlnlgiaaGreat.B
set_option linter.unusedVariables false
set_option linter.unusedSimpArgs false
namespace Wl
def toOf (p : Pa) (room : Int) : Int := if room = p.one then p.other else if room = p.other then p.one else -1
def atTo (l : List Pa) (room : Int) (n : Nat) : List (Nat × Int) := (List.range n).filterMap fun i => if 0 ≤ toOf (paAt l i) room then some (i, toOf (paAt l i) room) else none
def atL (l : List Pa) (room : Int) : List (Nat × Int) := atTo l room l.length
theorem atTo_in {l : List Pa} {room : Int} {n : Nat} (h : 0 ≤ toOf (paAt l n) room) : atTo l room (n + 1) = atTo l room n ++ [(n, toOf (paAt l n) room)] := by
 unfold atTo
 rw [List.range_succ, List.filterMap_append]
 simp [h]
theorem atTo_out {l : List Pa} {room : Int} {n : Nat} (h : ¬ 0 ≤ toOf (paAt l n) room) : atTo l room (n + 1) = atTo l room n := by
 unfold atTo
 rw [List.range_succ, List.filterMap_append]
 simp [h]
theorem atTo_prefix {l : List Pa} {room : Int} {i j : Nat} (h : i ≤ j) : atTo l room i <+: atTo l room j := by
 induction j with
 | zero => obtain rfl : i = 0 := by omega
           exact List.prefix_refl _
 | succ j ih =>
  by_cases hi : i = j + 1
  · subst hi; exact List.prefix_refl _
  · by_cases h0 : 0 ≤ toOf (paAt l j) room
    · rw [atTo_in h0]; exact (ih (by omega)).trans (List.prefix_append _ _)
    · rw [atTo_out h0]; exact ih (by omega)
theorem atL_mem {l : List Pa} {room : Int} {x : Nat × Int} (h : x ∈ atL l room) : x.1 < l.length ∧ x.2 = toOf (paAt l x.1) room ∧ 0 ≤ x.2 := by
 unfold atL atTo at h
 obtain ⟨i, hi, h⟩ := List.mem_filterMap.1 h
 split at h
 · cases h; exact ⟨List.mem_range.1 hi, rfl, by assumption⟩
 · cases h
theorem toOf_in {w : We} (h : w.Ok) {k : Nat} (hk : k < w.parts.length) (room : Int) : -1 ≤ toOf (paAt w.parts k) room ∧ toOf (paAt w.parts k) room < w.rooms := by
 have := h.ends k hk
 have := h.rooms
 unfold toOf
 split
 · omega
 · split <;> omega
end Wl
namespace Go.Proofs.YtpcamocnlnlgiaaGreat.B
open Go.RowKit Go.Sd Wl L
attribute [local go_sem] Oper.semAt_some
structure LkAt (w : World) (lb : Nat) (pv : Value) (we : We) (day : Int) : Prop where
 row : w.heap[lb]? = some (.cells #[.int .i64 we.rooms, .int .i64 we.need, pv, .int .i64 day] 168 (0, 0))
 parts : PasAt w pv we.parts
theorem els_kept {α : Type} {m : Nat} {enc : α → List Value} {d : α} {S : Nat → Prop} {w w' : World} {v : Value} {xs : List α} (h : ElsAt m enc d w v xs) (hk : Kept S w w') (hs : ∀ k, v.ownBlock = some k → S k) : ElsAt m enc d w' v xs := by
 obtain ⟨a, cap, rfl, hm, hc⟩ := h
 refine ⟨a, cap, rfl, hm, fun h0 => ?_⟩
 obtain ⟨b, off, rfl, hlt, hx⟩ := hc h0
 exact ⟨b, off, rfl, Nat.lt_of_lt_of_le hlt hk.size, fun k i u hk' hu => hk.cell (hs b rfl) (hx k i u hk' hu)⟩
theorem LkAt.kept {S : Nat → Prop} {w w' : World} {lb : Nat} {pv : Value} {we : We} {day : Int} (h : LkAt w lb pv we day) (hk : Kept S w w') (h1 : S lb) (h2 : ∀ k, pv.ownBlock = some k → S k) : LkAt w' lb pv we day :=
 ⟨(hk.block _ (zqo h.row) h1).trans h.row, els_kept h.parts hk h2⟩
theorem LkAt.mono {w w' : World} {lb : Nat} {pv : Value} {we : We} {day : Int} (h : LkAt w lb pv we day) (hb : Below w.heap.size w w') : LkAt w' lb pv we day := ⟨kept_block hb h.row, h.parts.mono hb⟩
theorem row4 {w : World} {n : Nat} {a0 a1 a2 a3 : Value} {e : TypeId} (h : w.heap[n]? = some (.cells #[a0, a1, a2, a3] e (0, 0))) : w.cell? ⟨n, 0, none⟩ = some a0 ∧ w.cell? ⟨n, 1, none⟩ = some a1 ∧ w.cell? ⟨n, 2, none⟩ = some a2 ∧ w.cell? ⟨n, 3, none⟩ = some a3 := by
 have r := (row_cells h).2.1
 exact ⟨r 0, r 1, r 2, r 3⟩
theorem pa_cells {w : World} {v : Value} {xs : List Pa} (h : PasAt w v xs) {k : Nat} (hk : k < xs.length) :
    ∃ b off cap, v = .slice (some ⟨b, off, none⟩) xs.length cap ∧ b < w.heap.size ∧ xs.length ≤ 9223372036854775807 ∧
     w.cell? ⟨b, off + k * 9, none⟩ = some (.int .i64 (paAt xs k).one) ∧ w.cell? ⟨b, off + k * 9 + 1, none⟩ = some (.int .i64 (paAt xs k).other) ∧ w.cell? ⟨b, off + k * 9 + 2, none⟩ = some (.bool (paAt xs k).valve) ∧
     w.cell? ⟨b, off + k * 9 + 3, none⟩ = some (.bool (paAt xs k).opn) ∧ w.cell? ⟨b, off + k * 9 + 4, none⟩ = some (.int .i64 (paAt xs k).tested) ∧ w.cell? ⟨b, off + k * 9 + 5, none⟩ = some (.int .i64 (paAt xs k).valid) ∧
     w.cell? ⟨b, off + k * 9 + 6, none⟩ = some (.bool (paAt xs k).bad) ∧ w.cell? ⟨b, off + k * 9 + 7, none⟩ = some (.int .i64 (paAt xs k).test) ∧ w.cell? ⟨b, off + k * 9 + 8, none⟩ = some (.int .i64 (paAt xs k).change) := by
 obtain ⟨a, cap, rfl, hm, hc⟩ := h.form
 obtain ⟨b, off, rfl, hlt, hx⟩ := hc (by omega)
 exact ⟨b, off, cap, rfl, hlt, hm, hx k 0 _ hk rfl, hx k 1 _ hk rfl, hx k 2 _ hk rfl, hx k 3 _ hk rfl, hx k 4 _ hk rfl, hx k 5 _ hk rfl, hx k 6 _ hk rfl, hx k 7 _ hk rfl, hx k 8 _ hk rfl⟩
theorem progTight (c : Int) (o : Bool) (w : World) : Calls Tryz.prog 124 #[.agg #[.int .i64 c, .bool o]] w fun e w' => e = .returned (.bool (decide (c = 0) && !o)) ∧ Below w.heap.size w w' := by
 by_cases h : c = 0
 · subst h
   go_enter Tryz.func124, Tryz.ntmps124
   go_wp2
   go_ret
   exact ⟨by simp, (Below.refl _ _).alloc (Nat.le_refl _) _⟩
 · go_enter Tryz.func124, Tryz.ntmps124
   go_wp2
   go_ret
   exact ⟨by simp [h], (Below.refl _ _).alloc (Nat.le_refl _) _⟩
theorem progBit (t : Bool) (w : World) : Calls Tryz.prog 125 #[.bool t] w fun e w' => e = .returned (.int .i64 (if t = true then 1 else 0)) ∧ w' = w := by
 cases t
 · go_enter Tryz.func125, Tryz.ntmps125
   go_wp2
   go_ret
   exact ⟨rfl, rfl⟩
 · go_enter Tryz.func125, Tryz.ntmps125
   go_wp2
   go_ret
   exact ⟨rfl, rfl⟩
theorem progAt (lb : Nat) (room : Int) (w : World) : Calls Tryz.prog 123 #[.pointer (some ⟨lb, 0, none⟩), .int .i64 room] w fun e w' =>
    e = .returned (.func (.func 137) #[] #[.pointer (some ⟨w.heap.size, 0, none⟩), .pointer (some ⟨w.heap.size + 1, 0, none⟩)]) ∧
     w' = (w.alloc (.cells #[.pointer (some ⟨lb, 0, none⟩)] 130)).alloc (.cells #[.int .i64 room] 3) := by
 go_enter Tryz.func123, Tryz.ntmps123
 go_wp2
 go_ret
 exact ⟨by simp, rfl⟩
end Go.Proofs.YtpcamocnlnlgiaaGreat.B
