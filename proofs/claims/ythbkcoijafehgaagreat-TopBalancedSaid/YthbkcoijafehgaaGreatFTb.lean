/- For every cavern, state, operations, content, numbers, size and day the law TopBalanced returns true, and the arguments read behind the call as they read before. -/
import Derived.Test.YthbkcoijafehgaaGreatK15
import Derived.Test.YthbkcoijafehgaaGreatK19
import Derived.Test.YthbkcoijafehgaaGreatK38
import Derived.Test.YthbkcoijafehgaaGreatK40
set_option linter.unusedVariables false
set_option linter.unusedSimpArgs false
namespace Go.Proofs.YthbkcoijafehgaaGreat.L
open Go.RowKit Go.Sd Lk Lc
theorem lawBalanced (c : Gas.Cav) (s : Gas.St) (lv : Value) (xs : List Gas.Op) (p : Gas.Pt) (av : Value) (xa : List Int) (bv : Value) (xb : List Int) (dv : Value) (wd : List Int) (size since : Int) (w : World)
    (hl : G.OpsAt w lv xs) (hfl : G.Fits lv) (ha : G.IntsAt w av xa) (hfa : G.Fits av) (hb : G.IntsAt w bv xb) (hfb : G.Fits bv) (hd : G.IntsAt w dv wd) :
    Calls Tryz.prog 3 #[G.cavV c, G.stV s, lv, G.ptV p, av, bv, dv, .int .i64 size, .int .i64 since] w fun e w' => e = .returned (.bool true) ∧ Below w.heap.size w w' := by
  by_cases t0 : xs.length ≤ 12
  case neg => exact gateBalanced0 c s lv xs p av xa bv xb dv wd size since w hl hfl ha hfa hb hfb hd t0
  by_cases t1 : 1 ≤ xs.length
  case neg => exact gateBalanced1 c s lv xs p av xa bv xb dv wd size since w hl hfl ha hfa hb hfb hd t0 t1
  by_cases t2 : xa.length ≤ 20
  case neg => exact gateBalanced2 c s lv xs p av xa bv xb dv wd size since w hl hfl ha hfa hb hfb hd t0 t1 t2
  by_cases t3 : xb.length ≤ 20
  case neg => exact gateBalanced3 c s lv xs p av xa bv xb dv wd size since w hl hfl ha hfa hb hfb hd t0 t1 t2 t3
  by_cases t4 : wd.length = xs.length
  case neg => exact gateBalanced4 c s lv xs p av xa bv xb dv wd size since w hl hfl ha hfa hb hfb hd t0 t1 t2 t3 t4
  cases t5 : c.ok
  case false => exact gateBalanced5 c s lv xs p av xa bv xb dv wd size since w hl hfl ha hfa hb hfb hd t0 t1 t2 t3 t4 t5
  cases t6 : s.ok
  case false => exact gateBalanced6 c s lv xs p av xa bv xb dv wd size since w hl hfl ha hfa hb hfb hd t0 t1 t2 t3 t4 t5 t6
  cases t7 : Gas.opsB xs
  case false => exact gateBalanced7 c s lv xs p av xa bv xb dv wd size since w hl hfl ha hfa hb hfb hd t0 t1 t2 t3 t4 t5 t6 t7
  cases t8 : Gas.hasB s p
  case false => exact gateBalanced8 c s lv xs p av xa bv xb dv wd size since w hl hfl ha hfa hb hfb hd t0 t1 t2 t3 t4 t5 t6 t7 t8
  cases t9 : Gas.truthB xs xa xb
  case false => exact gateBalanced9 c s lv xs p av xa bv xb dv wd size since w hl hfl ha hfa hb hfb hd t0 t1 t2 t3 t4 t5 t6 t7 t8 t9
  by_cases t10 : 1 ≤ size
  case neg => exact gateBalanced10 c s lv xs p av xa bv xb dv wd size since w hl hfl ha hfa hb hfb hd t0 t1 t2 t3 t4 t5 t6 t7 t8 t9 t10
  by_cases t11 : size ≤ 1000
  case neg => exact gateBalanced11 c s lv xs p av xa bv xb dv wd size since w hl hfl ha hfa hb hfb hd t0 t1 t2 t3 t4 t5 t6 t7 t8 t9 t10 t11
  by_cases t12 : 0 ≤ since
  case neg => exact gateBalanced12 c s lv xs p av xa bv xb dv wd size since w hl hfl ha hfa hb hfb hd t0 t1 t2 t3 t4 t5 t6 t7 t8 t9 t10 t11 t12
  by_cases t13 : since < xs.length
  case neg => exact gateBalanced13 c s lv xs p av xa bv xb dv wd size since w hl hfl ha hfa hb hfb hd t0 t1 t2 t3 t4 t5 t6 t7 t8 t9 t10 t11 t12 t13
  exact mainBalanced c s lv xs p av xa bv xb dv wd size since w hl hfl ha hfa hb hfb hd t0 t1 t2 t3 t4 t5 t6 t7 t8 t9 t10 t11 t12 t13
end Go.Proofs.YthbkcoijafehgaaGreat.L
set_option linter.unusedVariables false
set_option linter.unusedSimpArgs false
namespace Go.Proofs.YthbkcoijafehgaaGreat
open Go.ChangeShapes Go.WideShapes Go.ChangeAt Go.RowKit Go.Sd G
set_option maxRecDepth 100000 in
set_option maxHeartbeats 4000000 in
theorem balancedProvedLifted (os : Os) (started : os.Started) (H : Type) (enc : TypeId × Value → H) :
    ReturnsInHanded {} Tryz.checked os 3 .any (Rows.topBalancedSpec.pre6 enc Tryz.prog Tryz.f3 Rows.topBalancedRow.domain false) (Rows.topBalancedSpec.post enc Tryz.prog Tryz.f3 false true false false) := by
  refine returnsInHanded_of_change (C := Tryz.checked) frOwn started (by kernel_rfl) Tryz.func3
    (ChangeSpec.witness6 (enc := enc) (C := Tryz.checked) false ⟨#[], #[.agg #[.int .i64 0, .int .i64 0, .int .i64 0, .int .i64 0, .int .i64 0, .int .i64 0, .int .i64 0, .int .i64 0, .int .i64 0, .int .i64 0, .int .i64 0], .agg #[.int .i64 0, .int .i64 0, .int .i64 0, .int .i64 0, .int .i64 0, .int .i64 0, .int .i64 0, .int .i64 0], .slice none 0 0, .agg #[.int .i64 0, .int .i64 0, .int .i64 0, .int .i64 0], .slice none 0 0, .slice none 0 0, .slice none 0 0, .int .i64 0, .int .i64 0], []⟩ 8 (by kernel_rfl) (by kernel_rfl) (by kernel_rfl) (by kernel_rfl)) ?_
  intro W base args ds gs before hval0 hW hcnd _
  have hval : ∀ (j : Nat) t v, Tryz.f3.params[j]? = some t → args[j]? = some v → Value.okWide Tryz.prog W .any base t v := hval0
  have hW' := hW
  obtain ⟨p, q, hA0, hV, rfl, hfz, hnd⟩ := hW
  have hA : DataW.TrodAll enc Tryz.prog W 0 (fun _ => true) true Tryz.f3.params.toList args.toList ds p := hA0
  rw [Tryz.params3] at hA hval
  obtain ⟨v0, vs0, d0, ds0, p0, q0, hargs, rfl, rfl, h0, r0⟩ := trodAll_cons hA
  obtain ⟨v1, vs1, d1, ds1, p1, q1, rfl, rfl, rfl, h1, r1⟩ := trodAll_cons r0
  obtain ⟨v2, vs2, d2, ds2, p2, q2, rfl, rfl, rfl, h2, r2⟩ := trodAll_cons r1
  obtain ⟨v3, vs3, d3, ds3, p3, q3, rfl, rfl, rfl, h3, r3⟩ := trodAll_cons r2
  obtain ⟨v4, vs4, d4, ds4, p4, q4, rfl, rfl, rfl, h4, r4⟩ := trodAll_cons r3
  obtain ⟨v5, vs5, d5, ds5, p5, q5, rfl, rfl, rfl, h5, r5⟩ := trodAll_cons r4
  obtain ⟨v6, vs6, d6, ds6, p6, q6, rfl, rfl, rfl, h6, r6⟩ := trodAll_cons r5
  obtain ⟨v7, vs7, d7, ds7, p7, q7, rfl, rfl, rfl, h7, r7⟩ := trodAll_cons r6
  obtain ⟨v8, vs8, d8, ds8, p8, q8, rfl, rfl, rfl, h8, r8⟩ := trodAll_cons r7
  obtain ⟨rfl, rfl, rfl⟩ := trodAll_nil r8
  obtain rfl : args = #[v0, v1, v2, v3, v4, v5, v6, v7, v8] := by cases args; simp_all
  obtain ⟨rfl, rfl⟩ := trodVars_none hV
  have k0 := h0
  have lt0 : ∀ x ∈ p0, x.block < W.heap.size := by obtain ⟨m, hm⟩ := k0; exact DataW.trod_lt m _ _ _ hm
  obtain ⟨s0, rfl⟩ := open_cav (hval 0 26 v0 rfl rfl) h0
  have k1 := h1
  have lt1 : ∀ x ∈ p1, x.block < W.heap.size := by obtain ⟨m, hm⟩ := k1; exact DataW.trod_lt m _ _ _ hm
  obtain ⟨s1, rfl⟩ := open_st (hval 1 28 v1 rfl rfl) h1
  have k2 := h2
  have lt2 : ∀ x ∈ p2, x.block < W.heap.size := by obtain ⟨m, hm⟩ := k2; exact DataW.trod_lt m _ _ _ hm
  obtain ⟨s2, hs2⟩ := open_ops (hval 2 29 v2 rfl rfl) h2
  have hf2 := fits_of Tryz.underlying29 (hval 2 29 v2 rfl rfl) h2
  have k3 := h3
  have lt3 : ∀ x ∈ p3, x.block < W.heap.size := by obtain ⟨m, hm⟩ := k3; exact DataW.trod_lt m _ _ _ hm
  obtain ⟨s3, rfl⟩ := open_pt (hval 3 31 v3 rfl rfl) h3
  have k4 := h4
  have lt4 : ∀ x ∈ p4, x.block < W.heap.size := by obtain ⟨m, hm⟩ := k4; exact DataW.trod_lt m _ _ _ hm
  obtain ⟨s4, hs4⟩ := open_list (hval 4 32 v4 rfl rfl) h4
  have hf4 := fits_of Tryz.underlying32 (hval 4 32 v4 rfl rfl) h4
  have k5 := h5
  have lt5 : ∀ x ∈ p5, x.block < W.heap.size := by obtain ⟨m, hm⟩ := k5; exact DataW.trod_lt m _ _ _ hm
  obtain ⟨s5, hs5⟩ := open_list (hval 5 32 v5 rfl rfl) h5
  have hf5 := fits_of Tryz.underlying32 (hval 5 32 v5 rfl rfl) h5
  have k6 := h6
  have lt6 : ∀ x ∈ p6, x.block < W.heap.size := by obtain ⟨m, hm⟩ := k6; exact DataW.trod_lt m _ _ _ hm
  obtain ⟨s6, hs6⟩ := open_list (hval 6 32 v6 rfl rfl) h6
  obtain ⟨a7, rfl, rfl, rfl, w7⟩ := Go.ChangeShapes.open_int Tryz.underlying3 (hval 7 3 v7 rfl rfl) h7
  obtain ⟨a8, rfl, rfl, rfl, w8⟩ := Go.ChangeShapes.open_int Tryz.underlying3 (hval 8 3 v8 rfl rfl) h8
  clear hA0 hval0
  refine (L.lawBalanced s0 s1 v2 s2 s3 v4 s4 v5 s5 v6 s6 a7 a8 W hs2 hf2 hs4 hf4 hs5 hf5 hs6).mono fun e W' ⟨he, bel⟩ => ?_
  subst he
  exact ⟨_, rfl, _, _, _, [], _, [], hW', trodAll_mk1 (shut_bool Tryz.underlying4 _), (trodAll_cons_mk (Below.trod frLaid (by kernel_rfl) (of_decide_eq_true (by kernel_rfl)) k0 bel lt0) (trodAll_cons_mk (Below.trod frLaid (by kernel_rfl) (of_decide_eq_true (by kernel_rfl)) k1 bel lt1) (trodAll_cons_mk (Below.trod frLaid (by kernel_rfl) (of_decide_eq_true (by kernel_rfl)) k2 bel lt2) (trodAll_cons_mk (Below.trod frLaid (by kernel_rfl) (of_decide_eq_true (by kernel_rfl)) k3 bel lt3) (trodAll_cons_mk (Below.trod frLaid (by kernel_rfl) (of_decide_eq_true (by kernel_rfl)) k4 bel lt4) (trodAll_cons_mk (Below.trod frLaid (by kernel_rfl) (of_decide_eq_true (by kernel_rfl)) k5 bel lt5) (trodAll_cons_mk (Below.trod frLaid (by kernel_rfl) (of_decide_eq_true (by kernel_rfl)) k6 bel lt6) (trodAll_cons_mk (shut_int Tryz.underlying3 w7) (trodAll_cons_mk (shut_int Tryz.underlying3 w8) trodAll_mk0))))))))), rfl, bel.frame _, fun h => by cases h⟩
theorem balancedProved : Rows.TopBalancedSaid :=
  OpenClaim.holds_of_wide 3 Tryz.f3 rfl rfl rfl rfl rfl rfl rfl ⟨rfl, rfl, rfl, rfl, rfl⟩ rfl rfl rfl rfl rfl (by kernel_rfl) Tryz.func3 (by kernel_rfl)
    (of_decide_eq_true (by kernel_rfl)) (by unfold Func.isWrapper; first | (rw [if_pos (by decide +kernel)]; kernel_rfl) | (rw [if_neg (by decide +kernel)]; exact ⟨rfl, rfl⟩))
    (fun os started H enc _ => balancedProvedLifted os started H enc)
#print axioms balancedProved
end Go.Proofs.YthbkcoijafehgaaGreat
