/- Laws and walks: Lw8. -/
import Derived.Carry
import Derived.Test.YthjmdagonfeneaaGreatK42
set_option maxRecDepth 100000
set_option maxHeartbeats 16000000
set_option linter.unusedVariables false
set_option linter.unusedSimpArgs false
namespace Go.Proofs.YthjmdagonfeneaaGreat.L
open Go.RowKit Go.Sd Lk Lc
attribute [local go_sem] Oper.semAt_some
theorem infoInt1 : (Tryz.prog.info? 3).map (fun i => (i.zero, i.size, i.bytes)) = some (some (.int .i64 0), 1, 8) := by kernel_rfl
theorem int_one (x : Int) : ∀ u ∈ intEnc x, u.oneCell' = true := by intro u hu; simp only [intEnc, List.mem_singleton] at hu; subst hu; rfl
def WayI (B bw : Nat) (pre : List Int) (W : World) : Prop := ∃ v, W.heap[bw]? = some (.cells #[v] 28) ∧ OwnInts B W v pre
theorem far2 {w : World} {n : Nat} {i j : Nat} {b o : Nat} {u v : Value} {x : Value} (h : w.cell? ⟨b, o, none⟩ = some x) (hne : b ≠ n) : ((w.setCell ⟨n, i, none⟩ u).setCell ⟨n, j, none⟩ v).cell? ⟨b, o, none⟩ = some x :=
 (World.cell?_setCell_far _ _ _ _ (show n ≠ b from Ne.symm hne)).trans ((World.cell?_setCell_far _ _ _ _ (show n ≠ b from Ne.symm hne)).trans h)
theorem grownT (sv wv : Value) (w : World) (h : SlsAt w sv exSls) (hw : IntsAt w wv [0, 0, 0]) :
    Calls Tryz.prog 90 #[.agg (exCells sv), .agg #[.int .i64 10, .int .i64 2, .int .i64 0, .int .i64 3], .agg #[wv, .int .i64 1]] w fun e w' => e = .returned (spV ⟨20000, 45000⟩) ∧ Below w.heap.size w w' := by
 obtain ⟨sb, so, scp, rfl⟩ : ∃ b o c, sv = .slice (some ⟨b, o, none⟩) 3 c := by
  obtain ⟨sa, scp, rfl, -, hc⟩ := h
  obtain ⟨sb, so, rfl, -, -⟩ := hc (by decide)
  exact ⟨sb, so, scp, rfl⟩
 obtain ⟨X1, hX1⟩ : ∃ X1, w.alloc (.cells #[.slice (some ⟨sb, so, none⟩) 3 scp, .int .i64 100, .int .i64 700000] 120) = X1 := ⟨_, rfl⟩
 obtain ⟨eX0, bX0, sX0⟩ := boxed hX1
 have yX0_0 : w.heap.size < X1.heap.size := by omega
 obtain ⟨mX0_0_0, mX0_0_1, mX0_0_2⟩ := rc3 eX0
 obtain ⟨X2, hX2⟩ : ∃ X2, X1.alloc (.cells #[.int .i64 10, .int .i64 2, .int .i64 0, .int .i64 3] 72) = X2 := ⟨_, rfl⟩
 obtain ⟨eX1, bX1, sX1⟩ := boxed hX2
 have yX1_0 : w.heap.size < X2.heap.size := by omega
 replace eX0 := (bX1.block _ (zqo eX0)).trans eX0
 obtain ⟨mX1_0_0, mX1_0_1, mX1_0_2⟩ := rc3 eX0
 have yX1_1 : X1.heap.size < X2.heap.size := by omega
 obtain ⟨mX1_1_0, mX1_1_1, mX1_1_2, mX1_1_3⟩ := rc4 eX1
 obtain ⟨X3, hX3⟩ : ∃ X3, X2.alloc (.cells #[wv, .int .i64 1] 124) = X3 := ⟨_, rfl⟩
 obtain ⟨eX2, bX2, sX2⟩ := boxed hX3
 have yX2_0 : w.heap.size < X3.heap.size := by omega
 replace eX0 := (bX2.block _ (zqo eX0)).trans eX0
 obtain ⟨mX2_0_0, mX2_0_1, mX2_0_2⟩ := rc3 eX0
 have yX2_1 : X1.heap.size < X3.heap.size := by omega
 replace eX1 := (bX2.block _ (zqo eX1)).trans eX1
 obtain ⟨mX2_1_0, mX2_1_1, mX2_1_2, mX2_1_3⟩ := rc4 eX1
 have yX2_2 : X2.heap.size < X3.heap.size := by omega
 obtain ⟨mX2_2_0, mX2_2_1⟩ := rc2 eX2
 obtain ⟨X4, hX4⟩ : ∃ X4, X3.alloc (.cells #[.int .i64 0, .int .i64 0] 23) = X4 := ⟨_, rfl⟩
 obtain ⟨eX3, bX3, sX3⟩ := boxed hX4
 have yX3_0 : w.heap.size < X4.heap.size := by omega
 replace eX0 := (bX3.block _ (zqo eX0)).trans eX0
 obtain ⟨mX3_0_0, mX3_0_1, mX3_0_2⟩ := rc3 eX0
 have yX3_1 : X1.heap.size < X4.heap.size := by omega
 replace eX1 := (bX3.block _ (zqo eX1)).trans eX1
 obtain ⟨mX3_1_0, mX3_1_1, mX3_1_2, mX3_1_3⟩ := rc4 eX1
 have yX3_2 : X2.heap.size < X4.heap.size := by omega
 replace eX2 := (bX3.block _ (zqo eX2)).trans eX2
 obtain ⟨mX3_2_0, mX3_2_1⟩ := rc2 eX2
 have yX3_3 : X3.heap.size < X4.heap.size := by omega
 obtain ⟨mX3_3_0, mX3_3_1⟩ := rc2 eX3
 obtain ⟨X5, hX5⟩ : ∃ X5, X4.alloc (.cells #[.slice none 0 0] 28) = X5 := ⟨_, rfl⟩
 obtain ⟨eX4, bX4, sX4⟩ := boxed hX5
 have yX4_0 : w.heap.size < X5.heap.size := by omega
 replace eX0 := (bX4.block _ (zqo eX0)).trans eX0
 obtain ⟨mX4_0_0, mX4_0_1, mX4_0_2⟩ := rc3 eX0
 have yX4_1 : X1.heap.size < X5.heap.size := by omega
 replace eX1 := (bX4.block _ (zqo eX1)).trans eX1
 obtain ⟨mX4_1_0, mX4_1_1, mX4_1_2, mX4_1_3⟩ := rc4 eX1
 have yX4_2 : X2.heap.size < X5.heap.size := by omega
 replace eX2 := (bX4.block _ (zqo eX2)).trans eX2
 obtain ⟨mX4_2_0, mX4_2_1⟩ := rc2 eX2
 have yX4_3 : X3.heap.size < X5.heap.size := by omega
 replace eX3 := (bX4.block _ (zqo eX3)).trans eX3
 obtain ⟨mX4_3_0, mX4_3_1⟩ := rc2 eX3
 have yX4_4 : X4.heap.size < X5.heap.size := by omega
 have mX4_4_0 := rc1 eX4
 obtain ⟨X, hX⟩ : ∃ X, X5.alloc (.cells #[.int .i64 10, .int .i64 2, .int .i64 0, .int .i64 3] 72) = X := ⟨_, rfl⟩
 obtain ⟨eX5, bX5, sX5⟩ := boxed hX
 replace eX0 := (bX5.block _ (zqo eX0)).trans eX0
 replace eX1 := (bX5.block _ (zqo eX1)).trans eX1
 replace eX2 := (bX5.block _ (zqo eX2)).trans eX2
 replace eX3 := (bX5.block _ (zqo eX3)).trans eX3
 replace eX4 := (bX5.block _ (zqo eX4)).trans eX4
 have hBX : Below w.heap.size w X := (by have := sX0; have := sX1; have := sX2; have := sX3; have := sX4; have := sX5; exact (((((bX0.trans (bX1.mono (by omega))).trans (bX2.mono (by omega))).trans (bX3.mono (by omega))).trans (bX4.mono (by omega))).trans (bX5.mono (by omega))))
 obtain ⟨zX0, rX0, tX0⟩ := row_cells eX0
 obtain ⟨qX0_0, qX0_1, qX0_2⟩ := rc3 eX0
 obtain ⟨fX0_0, fX0_1, fX0_2⟩ := rf3 eX0
 have EX0 := Lib.hid eX0
 clear rX0 tX0 eX0
 obtain ⟨zX1, rX1, tX1⟩ := row_cells eX1
 obtain ⟨qX1_0, qX1_1, qX1_2, qX1_3⟩ := rc4 eX1
 obtain ⟨fX1_0, fX1_1, fX1_2, fX1_3⟩ := rf4 eX1
 have EX1 := Lib.hid eX1
 clear rX1 tX1 eX1
 obtain ⟨zX2, rX2, tX2⟩ := row_cells eX2
 obtain ⟨qX2_0, qX2_1⟩ := rc2 eX2
 obtain ⟨fX2_0, fX2_1⟩ := rf2 eX2
 have EX2 := Lib.hid eX2
 clear rX2 tX2 eX2
 obtain ⟨zX3, rX3, tX3⟩ := row_cells eX3
 obtain ⟨qX3_0, qX3_1⟩ := rc2 eX3
 obtain ⟨fX3_0, fX3_1⟩ := rf2 eX3
 have EX3 := Lib.hid eX3
 clear rX3 tX3 eX3
 obtain ⟨zX4, rX4, tX4⟩ := row_cells eX4
 have qX4_0 := rc1 eX4
 have fX4_0 := rf1 eX4
 have EX4 := Lib.hid eX4
 clear rX4 tX4 eX4
 obtain ⟨zX5, rX5, tX5⟩ := row_cells eX5
 obtain ⟨qX5_0, qX5_1, qX5_2, qX5_3⟩ := rc4 eX5
 obtain ⟨fX5_0, fX5_1, fX5_2, fX5_3⟩ := rf4 eX5
 have EX5 := Lib.hid eX5
 clear rX5 tX5 eX5
 have xX0 : w.heap.size ≤ w.heap.size := by omega
 have xX1 : w.heap.size ≤ X1.heap.size := by omega
 have xX2 : w.heap.size ≤ X2.heap.size := by omega
 have xX3 : w.heap.size ≤ X3.heap.size := by omega
 have xX4 : w.heap.size ≤ X4.heap.size := by omega
 have xX5 : w.heap.size ≤ X5.heap.size := by omega
 clear bX0 sX0 bX1 sX1 bX2 sX2 bX3 sX3 bX4 sX4 bX5 sX5
 refine (callsIn_wide (n := 0)).1 ?_
 refine calls_of_wpAt Tryz.func90 rfl ?_
 simp only [Tryz.ntmps90, List.size_toArray, List.length_cons, List.length_nil, Nat.reduceAdd, Nat.reduceSub, Array.replicate_succ, Array.replicate_zero, List.push_toArray, List.append_toArray, List.nil_append, List.cons_append]
 refine WpAt.seq_k fun K hK => ?_
 go_wp2
 refine WpAt.seq_k fun K hK => ?_
 go_wp2
 refine WpAt.seq ?_
 refine WpAt.seq_k fun K hK => ?_
 go_wp2_with (go_at_call 116; refine (lcPath _).mono ?_; rintro e w1 ⟨rfl, rfl⟩)
 refine WpAt.block ?_
 refine WpAt.rangeG (S := fun k => k < X.heap.size ∧ k ≠ X4.heap.size) ⟨_, rfl⟩ rfl (fun args w => by kernel_rfl) (path_yields X _ X5.heap.size qX5_1 qX5_2 ?hSs) (fun k h => h.1) (fun _ => rfl)
  (WayI (X.heap.size + 2) X4.heap.size) (fun _ _ => False) (fun _ _ => False) ?hI ?hIx ?h0 ?hround ?hdone ?hpanic ?hstop
 case hSs => exact ⟨zX5, by omega⟩
 case hI =>
  rintro pre A Y ⟨v, h1, h2⟩ hk
  exact ⟨v, (hk.block _ (zqo h1) ⟨by omega, by omega⟩).trans h1, h2.same fun k hk' => hk.block k (h2.lt k hk').2 ⟨by have := (h2.lt k hk').1; omega, by have := (h2.lt k hk').1; omega⟩⟩
 case hIx => exact fun _ _ _ h _ => h
 case h0 => exact ⟨_, EX4.out, OwnSt.nil _ _ _ _ _⟩
 case hstop => exact fun _ _ _ _ h => h.elim
 case hpanic => exact fun _ _ _ _ h => h.elim
 case hround =>
  rintro l pre x W hl1 hlt hpre hKS hI
  have hKX := hKS.size
  have hlen : pre.length ≤ 3 := by have := hpre.length_le; simp [exWayK] at this; omega
  gi_wp2
  refine ⟨Kept.refl _ _, ?_⟩
  intro W2 hk2 hs2
  obtain ⟨v, h1, h2⟩ := hI
  have g1 : W2.heap[X4.heap.size]? = some (.cells #[v] 28) := (hk2.block _ (zqo h1) (by omega)).trans h1
  have g2 : OwnInts (X.heap.size + 2) W2 v pre := h2.same fun k hk' => hk2.block k (h2.lt k hk').2 (by have := (h2.lt k hk').1; omega)
  have hXW2 : Kept (fun k => k < X.heap.size ∧ k ≠ X4.heap.size) X W2 := hKS.trans (hk2.mono fun k _ h => by omega)
  clear h1 h2
  obtain ⟨a, cap, rfl⟩ := g2.slice
  obtain ⟨V, hV⟩ : ∃ V, W2.alloc (.cells #[.int .i64 x] 3) = V := ⟨_, rfl⟩
  obtain ⟨eV, bV, sV⟩ := boxed hV
  obtain ⟨v', V', hrun, hown, hgr, hat⟩ := run_app1 intEnc_len 28 3 (.int .i64 0) 8 Tryz.underlying28 infoInt1 rfl (by omega) (by omega) int_one 28 (X.heap.size + 2) V (.slice a pre.length cap) pre x W2.heap.size (g2.mono bV) (by omega) (by omega) eV
  have hne : ∀ k, k < X.heap.size + 2 → V'.heap[k]? = V.heap[k]? := fun k hk => hgr.block k (by omega) (fun e => by have := (g2.lt k e.symm).1; omega)
  have g3 : V'.heap[X4.heap.size]? = some (.cells #[.slice a pre.length cap] 28) := (hne _ (by omega)).trans (kept_block bV g1)
  have hl2 : (pre ++ [x]).length = pre.length + 1 := by simp
  have hXs := hKX
  have hres : Hid (∀ u, Kept (fun k => k < X.heap.size ∧ k ≠ X4.heap.size ∨ k = X.heap.size ∨ k = X.heap.size + 1) W2 (V'.setCell ⟨X4.heap.size, 0, none⟩ u) ∧ (V'.setCell ⟨X4.heap.size, 0, none⟩ u).heap[X4.heap.size]? = some (.cells #[u] 28) ∧ OwnInts (X.heap.size + 2) (V'.setCell ⟨X4.heap.size, 0, none⟩ u) v' (pre ++ [x])) := Lib.hid fun u => by
   refine ⟨?_, ?_, OwnSt.cellset (p := ⟨X4.heap.size, 0, none⟩) hown (by show X4.heap.size < _; omega) u⟩
   · have h1 : Kept (fun k => k < X.heap.size ∧ k ≠ X4.heap.size ∨ k = X.heap.size ∨ k = X.heap.size + 1) W2 V' := (Kept.all bV).trans (Kept.grown hgr fun k _ hs e => by have := (g2.lt k e.symm).1; omega)
     exact h1.setCell (p := ⟨X4.heap.size, 0, none⟩) (.inl (by show ¬ (X4.heap.size < X.heap.size ∧ X4.heap.size ≠ X4.heap.size ∨ X4.heap.size = X.heap.size ∨ X4.heap.size = X.heap.size + 1); omega)) u
   · simp only [World.setCell, Array.getElem?_modify, if_true, g3]
     rfl
  obtain ⟨a', cap', rfl⟩ := hown.slice
  have c1 := rc1 g1
  have c2 := rc1 g3
  have c3 := rf1 g3
  have z1 := (zqo g1)
  have z3 := (zqo g3)
  replace hlen := Lib.hid hlen
  clear hs2 sV hne hat hgr hown g1 g2 g3 hXW2 hKS hk2 eV bV
  clear mX0_0_0 mX0_0_1 mX0_0_2 mX1_0_0 mX1_0_1 mX1_0_2 mX1_1_0 mX1_1_1 mX1_1_2 mX1_1_3 mX2_0_0 mX2_0_1 mX2_0_2 mX2_1_0 mX2_1_1 mX2_1_2 mX2_1_3 mX2_2_0 mX2_2_1 mX3_0_0 mX3_0_1 mX3_0_2 mX3_1_0 mX3_1_1 mX3_1_2 mX3_1_3 mX3_2_0 mX3_2_1 mX3_3_0 mX3_3_1 mX4_0_0 mX4_0_1 mX4_0_2 mX4_1_0 mX4_1_1 mX4_1_2 mX4_1_3 mX4_2_0 mX4_2_1 mX4_3_0 mX4_3_1 mX4_4_0 qX0_0 qX0_1 qX0_2 fX0_0 fX0_1 fX0_2 qX1_0 qX1_1 qX1_2 qX1_3 fX1_0 fX1_1 fX1_2 fX1_3 qX2_0 qX2_1 fX2_0 fX2_1 qX3_0 qX3_1 fX3_0 fX3_1 qX4_0 fX4_0 qX5_0 qX5_1 qX5_2 qX5_3 fX5_0 fX5_1 fX5_2 fX5_3 hX1 hX2 hX3 hX4 hX5 hX
  rw [hl2] at *
  gi_wp2_with (gi_at_builtin; refine wpListIn_app_run rfl _ _ _ rfl _ _ _ _ rfl rfl hrun ?_)
  obtain ⟨r1, r2, r3⟩ := hres.out (.slice a' (pre.length + 1) cap')
  exact ⟨r1, _, r2, r3⟩
 case hdone =>
  rintro D W hD ⟨v, h1, h2⟩ hk hd
  have hXW : Below w.heap.size w W := hBX.trans (hk.below (B := w.heap.size) (by omega) fun k hk' => ⟨by omega, by omega⟩)
  have hDW := (zqo hd)
  refine (?_ : WpAt _ _ _ _ _ _)
  refine WpAt.of_wp ?_
  have hmm := @run_makeMap Tryz.prog
  have EXX0 := (hk.block _ zX0 ⟨zX0, by omega⟩).trans EX0.out
  have EXX1 := (hk.block _ zX1 ⟨zX1, by omega⟩).trans EX1.out
  have EXX2 := (hk.block _ zX2 ⟨zX2, by omega⟩).trans EX2.out
  have EXX3 := (hk.block _ zX3 ⟨zX3, by omega⟩).trans EX3.out
  go_upto_region 8 with (fail)
  obtain ⟨Y, hY⟩ : ∃ Y, (((W.alloc (.map #[] 0)).alloc (.cells #[.map (some W.heap.size)] 177)).alloc (.cells #[.func (.func 117) #[] #[.pointer (some ⟨X4.heap.size, 0, none⟩), .pointer (some ⟨W.heap.size + 1, 0, none⟩), .pointer (some ⟨w.heap.size, 0, none⟩), .pointer (some ⟨X2.heap.size, 0, none⟩), .pointer (some ⟨W.heap.size + 1 + 1, 0, none⟩)]] 178)) = Y := ⟨_, rfl⟩
  obtain ⟨y0, y1, y2, ys, yB⟩ := three_new hY
  rw [hY]
  have hyd : Below W.heap.size W Y.drew := yB.drew
  have hsY : Kc w Y.drew := Kc.of (hXW.trans (hyd.mono hXW.size))
  obtain ⟨va, vc, rfl, -, hvc⟩ := h2.cells intEnc_len 0
  obtain ⟨vb, rfl, -, -⟩ := hvc (by decide)
  have hRC : Hid (RC W.heap.size X4.heap.size (W.heap.size + 1) w.heap.size X2.heap.size (W.heap.size + 1 + 1) Y.drew) := Lib.hid ⟨⟨vb, 0, vc, kept_block hyd h1, (OwnSt.els intEnc_len 0 h2).mono hyd⟩, y1, ⟨sb, so, scp, kept_block hyd EXX0, h.kc hsY⟩, ⟨wv, kept_block hyd EXX2, hw.kc hsY⟩, y2⟩
  have hMG : Hid (MapG Y.drew W.heap.size exF) := Lib.hid ⟨#[], 0, y0, by simp⟩
  have hRest : Hid (Calls Tryz.prog 117 #[.agg #[.int .i64 0, .int .i64 100], .pointer (some ⟨X4.heap.size, 0, none⟩), .pointer (some ⟨W.heap.size + 1, 0, none⟩), .pointer (some ⟨w.heap.size, 0, none⟩), .pointer (some ⟨X2.heap.size, 0, none⟩), .pointer (some ⟨W.heap.size + 1 + 1, 0, none⟩)] Y.drew
      fun e w' => e = .returned (spV ⟨2000, 4500⟩) ∧ Gb W.heap.size Y.drew w') := Lib.hid ((restAll W.heap.size X4.heap.size (W.heap.size + 1) w.heap.size X2.heap.size (W.heap.size + 1 + 1) 100 Y.drew (by omega) (by omega) hRC.out hMG.out).mono fun e w' ⟨h1, _, h3⟩ => ⟨by rw [h1]; exact congrArg (fun s => Ending.returned (spV s)) exRest, h3⟩)
  have hT : Hid (∀ x, Calls Tryz.prog 115 #[.agg #[.int .i64 2000, .int .i64 4500], .int .i64 10] x fun e w' => e = .returned (spV ⟨20000, 45000⟩) ∧ Below x.heap.size x w') := Lib.hid fun x => lcTimes ⟨2000, 4500⟩ 10 x (by omega) (by simp) (by simp)
  have cD : Hid (Y.drew.cell? ⟨W.heap.size + 1 + 1, 0, none⟩ = some (.func (.func 117) #[] #[.pointer (some ⟨X4.heap.size, 0, none⟩), .pointer (some ⟨W.heap.size + 1, 0, none⟩), .pointer (some ⟨w.heap.size, 0, none⟩), .pointer (some ⟨X2.heap.size, 0, none⟩), .pointer (some ⟨W.heap.size + 1 + 1, 0, none⟩)]) ∧ Y.drew.cell? ⟨w.heap.size, 1, none⟩ = some (.int .i64 100) ∧ Y.drew.cell? ⟨X1.heap.size, 0, none⟩ = some (.int .i64 10)) :=
   Lib.hid ⟨rc1 y2, (rc3 (kept_block hyd EXX0)).2.1, (rc4 (kept_block hyd EXX1)).1⟩
  have hkA : Hid (∀ A, Gb W.heap.size Y.drew A → A.cell? ⟨W.heap.size + 1 + 1, 0, none⟩ = some (.func (.func 117) #[] #[.pointer (some ⟨X4.heap.size, 0, none⟩), .pointer (some ⟨W.heap.size + 1, 0, none⟩), .pointer (some ⟨w.heap.size, 0, none⟩), .pointer (some ⟨X2.heap.size, 0, none⟩), .pointer (some ⟨W.heap.size + 1 + 1, 0, none⟩)]) ∧ A.cell? ⟨w.heap.size, 1, none⟩ = some (.int .i64 100) ∧ A.cell? ⟨X1.heap.size, 0, none⟩ = some (.int .i64 10)) := Lib.hid fun A hA =>
   let k := hMG.out.kc hA; ⟨k.cell _ _ _ cD.out.1, k.cell _ _ _ cD.out.2.1, k.cell _ _ _ cD.out.2.2⟩
  have hrA : Hid (∀ A, Gb W.heap.size Y.drew A → A.heap[X3.heap.size]? = some (spO ⟨0, 0⟩) ∧ A.heap[D]? = some (.deferred (some [])) ∧ Below w.heap.size w A) := Lib.hid fun A hA =>
   ⟨(hA.block _ (Nat.lt_of_lt_of_le zX3 (Nat.le_trans hk.size hyd.size)) (by have := hk.size; simp; omega)).trans (kept_block hyd EXX3), (hA.block _ (Nat.lt_of_lt_of_le hDW hyd.size) (by simp; omega)).trans (kept_block hyd hd), by
    have h1 := hXW.trans (hyd.mono hXW.size)
    exact ⟨hA.os.trans h1.os, hA.tape.trans h1.tape, hA.output.trans h1.output, Nat.le_trans h1.size hA.size, fun k hk' => (hA.block k (Nat.lt_of_lt_of_le hk' h1.size) (by have := hXW.size; simp; omega)).trans (h1.block k hk')⟩⟩
  clear hd hvc h1 h2 y0 y1 y2 hY EXX0 EXX1 EXX2 EXX3 hsY hRC hMG yB hyd ys
  refine wp_region_noPanic ?_
  refine wp_region_held_drew (S := (fun w' => w'.cell? ⟨W.heap.size + 1 + 1, 0, none⟩ = some (.func (.func 117) #[] #[.pointer (some ⟨X4.heap.size, 0, none⟩), .pointer (some ⟨W.heap.size + 1, 0, none⟩), .pointer (some ⟨w.heap.size, 0, none⟩), .pointer (some ⟨X2.heap.size, 0, none⟩), .pointer (some ⟨W.heap.size + 1 + 1, 0, none⟩)]) ∧ w'.cell? ⟨w.heap.size, 1, none⟩ = some (.int .i64 100) ∧ w'.cell? ⟨X1.heap.size, 0, none⟩ = some (.int .i64 10))) (by kernel_rfl) ?_ (fun hHeld => ?_)
  · first | (first | (with_reducible exact ⟨far2 hHeld.1 (by omega), far2 hHeld.2.1 (by omega), far2 hHeld.2.2 (by omega)⟩) | (with_reducible exact hcB.out) | (with_reducible exact hcA.out) | (with_reducible exact cD.out)) | (dsimp only; (first | (with_reducible exact ⟨far2 hHeld.1 (by omega), far2 hHeld.2.1 (by omega), far2 hHeld.2.2 (by omega)⟩) | (with_reducible exact hcB.out) | (with_reducible exact hcA.out) | (with_reducible exact cD.out)))
  refine wpAnyH_take (i := 0) (v := ?_) rfl (by kernel_rfl) (by kernel_rfl) (by kernel_rfl) (fun _ _ _ h => h) (Or.inl ⟨by rfl, ?_⟩) (by assumption) ?_
  rotate_left
  · intro w hSw; (try dsimp only at hSw); go_simp; (try with_reducible rfl)
  try simp only [Act.put, List.setIfInBounds_toArray, List.set_cons_zero, List.set_cons_succ]
  refine wpAnyH_take (i := 1) (v := ?_) rfl (by kernel_rfl) (by kernel_rfl) (by kernel_rfl) (fun _ _ _ h => h) (Or.inl ⟨by rfl, ?_⟩) (by assumption) ?_
  rotate_left
  · intro w hSw; (try dsimp only at hSw); go_simp; (try with_reducible rfl)
  try simp only [Act.put, List.setIfInBounds_toArray, List.set_cons_zero, List.set_cons_succ]
  refine wpAnyH_take (i := 2) (v := ?_) rfl (by kernel_rfl) (by kernel_rfl) (by kernel_rfl) (fun _ _ _ h => h) (Or.inl ⟨by rfl, ?_⟩) (by assumption) ?_
  rotate_left
  · intro w hSw; (try dsimp only at hSw); go_simp; (try with_reducible rfl)
  try simp only [Act.put, List.setIfInBounds_toArray, List.set_cons_zero, List.set_cons_succ]
  refine wpAnyH_take (i := 3) (v := ?_) rfl (by kernel_rfl) (by kernel_rfl) (by kernel_rfl) (fun _ _ _ h => h) (Or.inl ⟨by rfl, ?_⟩) (by assumption) ?_
  rotate_left
  · intro w hSw; (try dsimp only at hSw); go_simp; (try with_reducible rfl)
  try simp only [Act.put, List.setIfInBounds_toArray, List.set_cons_zero, List.set_cons_succ]
  refine wpAnyH_take (i := 4) (v := ?_) rfl (by kernel_rfl) (by kernel_rfl) (by kernel_rfl) (fun _ _ _ h => h) (Or.inl ⟨by rfl, ?_⟩) (by assumption) ?_
  rotate_left
  · intro w hSw; (try dsimp only at hSw); go_simp; (try with_reducible rfl)
  try simp only [Act.put, List.setIfInBounds_toArray, List.set_cons_zero, List.set_cons_succ]
  refine wpAnyH_take (i := 6) (v := ?_) rfl (by kernel_rfl) (by kernel_rfl) (by kernel_rfl) (fun _ _ _ h => h) (Or.inl ⟨by rfl, ?_⟩) (by assumption) ?_
  rotate_left
  · intro w hSw; (try dsimp only at hSw); go_simp; (try with_reducible rfl)
  try simp only [Act.put, List.setIfInBounds_toArray, List.set_cons_zero, List.set_cons_succ]
  refine wpAnyH_take (i := 7) (v := ?_) rfl (by kernel_rfl) (by kernel_rfl) (by kernel_rfl) (fun _ _ _ h => h) (Or.inl ⟨by rfl, ?_⟩) (by assumption) ?_
  rotate_left
  · intro w hSw; (try dsimp only at hSw); go_simp; (try with_reducible rfl)
  try simp only [Act.put, List.setIfInBounds_toArray, List.set_cons_zero, List.set_cons_succ]
  refine wpAnyH_ready (rs := [5]) (by kernel_rfl) (by simp) ?_
  refine AllReadyH.cons rfl (fun K hK => ?_) AllReadyH.nil
  go_simp
  (first | (go_at_call 117; (with_reducible refine Calls.mono hRest.out ?_); rintro e yA ⟨rfl, hgA⟩; have hcA := Lib.hid (hkA.out _ hgA)) | (go_at_call 115; (with_reducible refine Calls.mono (hT.out _) ?_); rintro e yB ⟨rfl, hbB⟩; have hgB := hgA.next (hbB.mono hgA.size); have hcB := Lib.hid (hkA.out _ hgB); obtain ⟨rB, dB, bB⟩ := hrA.out _ hgB; obtain ⟨r0, r1⟩ := rc2 rB; obtain ⟨r2, r3⟩ := rf2 rB; have zr := (zqo rB)))
  refine hK.out _ _ ?_ (fun hNow => ?_)
  · first | (first | (with_reducible exact ⟨far2 hHeld.1 (by omega), far2 hHeld.2.1 (by omega), far2 hHeld.2.2 (by omega)⟩) | (with_reducible exact hcB.out) | (with_reducible exact hcA.out) | (with_reducible exact cD.out)) | (dsimp only; (first | (with_reducible exact ⟨far2 hHeld.1 (by omega), far2 hHeld.2.1 (by omega), far2 hHeld.2.2 (by omega)⟩) | (with_reducible exact hcB.out) | (with_reducible exact hcA.out) | (with_reducible exact cD.out)))
  clear hK K hHeld
  have hHeld := hNow
  clear hNow
  try simp only [Act.put, List.setIfInBounds_toArray, List.set_cons_zero, List.set_cons_succ]
  refine wpAnyH_ready (rs := [8]) (by kernel_rfl) (by simp) ?_
  refine AllReadyH.cons rfl (fun K hK => ?_) AllReadyH.nil
  go_simp
  (first | (go_at_call 117; (with_reducible refine Calls.mono hRest.out ?_); rintro e yA ⟨rfl, hgA⟩; have hcA := Lib.hid (hkA.out _ hgA)) | (go_at_call 115; (with_reducible refine Calls.mono (hT.out _) ?_); rintro e yB ⟨rfl, hbB⟩; have hgB := hgA.next (hbB.mono hgA.size); have hcB := Lib.hid (hkA.out _ hgB); obtain ⟨rB, dB, bB⟩ := hrA.out _ hgB; obtain ⟨r0, r1⟩ := rc2 rB; obtain ⟨r2, r3⟩ := rf2 rB; have zr := (zqo rB)))
  refine hK.out _ _ ?_ (fun hNow => ?_)
  · first | (first | (with_reducible exact ⟨far2 hHeld.1 (by omega), far2 hHeld.2.1 (by omega), far2 hHeld.2.2 (by omega)⟩) | (with_reducible exact hcB.out) | (with_reducible exact hcA.out) | (with_reducible exact cD.out)) | (dsimp only; (first | (with_reducible exact ⟨far2 hHeld.1 (by omega), far2 hHeld.2.1 (by omega), far2 hHeld.2.2 (by omega)⟩) | (with_reducible exact hcB.out) | (with_reducible exact hcA.out) | (with_reducible exact cD.out)))
  clear hK K hHeld
  have hHeld := hNow
  clear hNow
  try simp only [Act.put, List.setIfInBounds_toArray, List.set_cons_zero, List.set_cons_succ]
  refine wpAnyH_ready (rs := [9]) (by kernel_rfl) (by simp) ?_
  refine AllReadyH.cons rfl (fun K hK => ?_) AllReadyH.nil
  go_simp
  refine hK.out _ _ ?_ (fun hNow => ?_)
  · first | (first | (with_reducible exact ⟨far2 hHeld.1 (by omega), far2 hHeld.2.1 (by omega), far2 hHeld.2.2 (by omega)⟩) | (with_reducible exact hcB.out) | (with_reducible exact hcA.out) | (with_reducible exact cD.out)) | (dsimp only; (first | (with_reducible exact ⟨far2 hHeld.1 (by omega), far2 hHeld.2.1 (by omega), far2 hHeld.2.2 (by omega)⟩) | (with_reducible exact hcB.out) | (with_reducible exact hcA.out) | (with_reducible exact cD.out)))
  clear hK K hHeld
  have hHeld := hNow
  clear hNow
  try simp only [Act.put, List.setIfInBounds_toArray, List.set_cons_zero, List.set_cons_succ]
  refine wpAnyH_done (by kernel_rfl) ?_ _
  refine NoPanic.normal ?_
  go_wp2
  refine leaves_one (by simp) ((set2_other _ _ (by omega)).trans dB) ?_
  generalize hV : World.putObj _ D (.deferred none) = V
  have G3 : V.heap[X3.heap.size]? = some (spO ⟨20000, 45000⟩) := by rw [← hV]; exact (World.putObj_heap_other (by omega)).trans (set2 rB _ _)
  have hb : Below w.heap.size w V := by rw [← hV]; exact (bB.trans (below_set2 _ _ xX3)).trans (below_putObj (Below.refl _ _) (by omega) _)
  clear hV
  obtain ⟨k0, k1⟩ := rc2 G3
  refine ⟨spV ⟨20000, 45000⟩, ?_, rfl, hb⟩
  simp only [results, Tryz.results90]
  simp [go_sem, k0, k1]
end Go.Proofs.YthjmdagonfeneaaGreat.L
