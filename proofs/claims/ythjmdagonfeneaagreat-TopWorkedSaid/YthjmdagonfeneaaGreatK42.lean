/- Laws and walks: Lw5, Lw6, Lw7, LCam. -/
import Derived.Test.YthjmdagonfeneaaGreatK41
set_option maxRecDepth 100000
set_option maxHeartbeats 16000000
set_option linter.unusedVariables false
set_option linter.unusedSimpArgs false
namespace Lc
open Lk
def exK (j : Nat) : Nat := 2 - j
theorem exWay_drop {j : Nat} (h : j < 3) : exWay.drop j = ((lsAt exSls (exK j)).rlo, (lsAt exSls (exK j)).rhi, (lsAt exSls (exK j)).fall) :: exWay.drop (j + 1) := by
 match j, h with
 | 0, _ => rfl
 | 1, _ => rfl
 | 2, _ => rfl
def exF (a b : Int) : Sp := restP (exWay.drop a.toNat) b
theorem exSl_ok {k : Nat} (h : k < exSls.length) : 0 ≤ (lsAt exSls k).rlo ∧ (lsAt exSls k).rlo ≤ (lsAt exSls k).rhi ∧ (lsAt exSls k).rhi ≤ 100 ∧ 0 ≤ (lsAt exSls k).fall ∧ (lsAt exSls k).fall ≤ 100 := by
 match k, h with
 | 0, _ => decide
 | 1, _ => decide
 | 2, _ => decide
theorem exF_bd (a b : Int) (h0 : 0 ≤ b) (h1 : b ≤ 100) : 0 ≤ (exF a b).lo ∧ (exF a b).lo ≤ (exF a b).hi ∧ (exF a b).hi ≤ 30000 := by
 have hw : WayOk (exWay.drop a.toNat) := fun x hx => exWay_ok x (List.mem_of_mem_drop hx)
 have := rest_bd (exWay.drop a.toNat) b hw h0 h1
 have hl : (exWay.drop a.toNat).length ≤ 3 := by simp [exWay]
 unfold exF; omega
end Lc
namespace Go.Proofs.YthjmdagonfeneaaGreat.L
open Go.RowKit Go.Sd Lk Lc
abbrev Gb (mb : Nat) (w w' : World) : Prop := w.grownBy w' (some mb)
theorem Gb.next {mb : Nat} {w w1 w2 : World} (h : Gb mb w w1) (hb : Below w.heap.size w1 w2) : Gb mb w w2 :=
 ⟨hb.os.trans h.os, hb.tape.trans h.tape, hb.output.trans h.output, Nat.le_trans h.size hb.size, fun k hk hn => (hb.block k hk).trans (h.block k hk hn)⟩
theorem Gb.tr {mb : Nat} {w w1 w2 : World} (h : Gb mb w w1) (k : Gb mb w1 w2) : Gb mb w w2 :=
 ⟨k.os.trans h.os, k.tape.trans h.tape, k.output.trans h.output, Nat.le_trans h.size k.size, fun i hi hn => (k.block i (Nat.lt_of_lt_of_le hi h.size) hn).trans (h.block i hi hn)⟩
theorem Gb.of {mb : Nat} {w w' : World} (h : Below w.heap.size w w') : Gb mb w w' := ⟨h.os, h.tape, h.output, h.size, fun k hk _ => h.block k hk⟩
theorem MapG.not_cells {w : World} {mb n : Nat} {f : Int → Int → Sp} (h : MapG w mb f) {cs : Array Value} {E : TypeId} {fr : Nat × Nat} (hn : w.heap[n]? = some (.cells cs E fr)) : n ≠ mb := by
 rintro rfl
 obtain ⟨es, clock, h1, _⟩ := h
 rw [h1] at hn
 cases hn
theorem MapG.cell_ne {w : World} {mb n o : Nat} {f : Int → Int → Sp} {v : Value} (h : MapG w mb f) (hn : w.cell? ⟨n, o, none⟩ = some v) : n ≠ mb := by
 rintro rfl
 obtain ⟨es, clock, h1, _⟩ := h
 simp [World.cell?, h1] at hn
theorem MapG.block {w w' : World} {mb n : Nat} {f : Int → Int → Sp} (h : MapG w mb f) (hg : Gb mb w w') {cs : Array Value} {E : TypeId} {fr : Nat × Nat} (hn : w.heap[n]? = some (.cells cs E fr)) : w'.heap[n]? = some (.cells cs E fr) :=
 (hg.block n (zqo hn) (by simpa using h.not_cells hn)).trans hn
theorem MapG.kc {w w' : World} {mb : Nat} {f : Int → Int → Sp} (h : MapG w mb f) (hg : Gb mb w w') : Kc w w' :=
 ⟨hg.size, fun b o v hv => hg.cell hv (by simpa using h.cell_ne hv)⟩
structure RC (mb bw bk bc bm br : Nat) (X : World) : Prop where
 way : ∃ yb yo yc, X.heap[bw]? = some (.cells #[.slice (some ⟨yb, yo, none⟩) 3 yc] 28) ∧ IntsAt X (.slice (some ⟨yb, yo, none⟩) 3 yc) [2, 1, 0]
 known : X.heap[bk]? = some (.cells #[.map (some mb)] 177)
 cav : ∃ sb so sc, X.heap[bc]? = some (.cells (exCells (.slice (some ⟨sb, so, none⟩) 3 sc)) 120) ∧ SlsAt X (.slice (some ⟨sb, so, none⟩) 3 sc) exSls
 mea : ∃ wv, X.heap[bm]? = some (.cells #[wv, .int .i64 1] 124) ∧ IntsAt X wv [0, 0, 0]
 fn : X.heap[br]? = some (.cells #[.func (.func 117) #[] #[.pointer (some ⟨bw, 0, none⟩), .pointer (some ⟨bk, 0, none⟩), .pointer (some ⟨bc, 0, none⟩), .pointer (some ⟨bm, 0, none⟩), .pointer (some ⟨br, 0, none⟩)]] 178)
theorem RC.grown {mb bw bk bc bm br : Nat} {X Y : World} (h : RC mb bw bk bc bm br X) {f : Int → Int → Sp} (hm : MapG X mb f) (hg : Gb mb X Y) : RC mb bw bk bc bm br Y := by
 obtain ⟨⟨yb, yo, yc, h1, h2⟩, h3, ⟨sb, so, sc, h4, h5⟩, ⟨wv, h6, h7⟩, h8⟩ := h
 exact ⟨⟨yb, yo, yc, hm.block hg h1, h2.kc (hm.kc hg)⟩, hm.block hg h3, ⟨sb, so, sc, hm.block hg h4, h5.kc (hm.kc hg)⟩, ⟨wv, hm.block hg h6, h7.kc (hm.kc hg)⟩, hm.block hg h8⟩
abbrev restArgs (bw bk bc bm br : Nat) (a b : Int) : Array Value := #[plV a b, .pointer (some ⟨bw, 0, none⟩), .pointer (some ⟨bk, 0, none⟩), .pointer (some ⟨bc, 0, none⟩), .pointer (some ⟨bm, 0, none⟩), .pointer (some ⟨br, 0, none⟩)]
def RestC (mb bw bk bc bm br : Nat) (j : Nat) : Prop := ∀ (b : Int) (X : World), 0 ≤ b → b ≤ 100 → RC mb bw bk bc bm br X → MapG X mb exF →
 Calls Tryz.prog 117 (restArgs bw bk bc bm br j b) X fun e w' => e = .returned (spV (exF j b)) ∧ MapG w' mb exF ∧ Gb mb X w'
theorem restEnd (mb bw bk bc bm br : Nat) : RestC mb bw bk bc bm br 3 := by
 intro b w h0 h1 hR hM
 obtain ⟨W, hW⟩ : ∃ W, (w.alloc (.cells #[.int .i64 3, .int .i64 b] 180)).alloc (spO ⟨0, 0⟩) = W := ⟨_, rfl⟩
 obtain ⟨e0, e1, s0, b0⟩ := two_new hW
 have hG := Gb.of (mb := mb) b0
 obtain ⟨yb, yo, yc, k1, -⟩ := hR.way
 replace k1 := rc1 (kept_block b0 k1)
 obtain ⟨q0, q1⟩ := rc2 e0
 obtain ⟨q2, q3⟩ := rc2 e1
 obtain ⟨f2, f3⟩ := rf2 e1
 have e1' := Lib.hid e1
 have z0 := (zqo e0)
 have z1 := (zqo e1)
 have hM' := Lib.hid hM
 clear e0 e1 s0 hR hM
 show Calls Tryz.prog _ #[.agg #[.int .i64 3, .int .i64 b], _, _, _, _, _] w _
 go_enter Tryz.func117, Tryz.ntmps117
 go_wp2
 obtain ⟨c4, c5⟩ := rc2 (set2 e1'.out (.int .i64 0) (.int .i64 0))
 have hB := b0.trans (below_set2 (w := W) (n := w.heap.size + 1) (i := 0) (j := 1) (.int .i64 0) (.int .i64 0) (by omega))
 refine bodyPost_ret (v := spV ⟨0, 0⟩) (by simp [results, Tryz.results117, go_sem, c4, c5]) rfl ⟨rfl, hM'.out.grown hB, Gb.of hB⟩
structure RSt (mb bw bk bc bm br : Nat) (w : World) (ro so : Nat) (a b : Int) (s : Sl) (o : Sp) (X : World) : Prop where
 bp : X.heap[w.heap.size]? = some (.cells #[.int .i64 a, .int .i64 b] 180)
 bres : X.heap[w.heap.size + 1]? = some (spO ⟨0, 0⟩)
 bs : X.heap[so]? = some (spO ⟨s.rlo, s.rhi⟩)
 bo : X.heap[ro]? = some (spO o)
 far : w.heap.size + 1 < so ∧ so < ro
 rc : RC mb bw bk bc bm br X
 map : MapG X mb exF
 gb : Gb mb w X
theorem RSt.grown {mb bw bk bc bm br : Nat} {w : World} {ro so : Nat} {a b : Int} {s : Sl} {o : Sp} {X Y : World} (h : RSt mb bw bk bc bm br w ro so a b s o X) (hg : Gb mb X Y) (hm : MapG Y mb exF) : RSt mb bw bk bc bm br w ro so a b s o Y :=
 ⟨h.map.block hg h.bp, h.map.block hg h.bres, h.map.block hg h.bs, h.map.block hg h.bo, h.far, h.rc.grown h.map hg, hm, h.gb.tr hg⟩
theorem RSt.mono {mb bw bk bc bm br : Nat} {w : World} {ro so : Nat} {a b : Int} {s : Sl} {o : Sp} {X Y : World} (h : RSt mb bw bk bc bm br w ro so a b s o X) (hb : Below X.heap.size X Y) : RSt mb bw bk bc bm br w ro so a b s o Y :=
 h.grown (Gb.of hb) (h.map.grown hb)
theorem RSt.set {mb bw bk bc bm br : Nat} {w : World} {ro so : Nat} {a b : Int} {s : Sl} {o : Sp} {X : World} (h : RSt mb bw bk bc bm br w ro so a b s o X) (hw : MapG w mb exF) (hr : RC mb bw bk bc bm br w) (t : Sp) :
    RSt mb bw bk bc bm br w ro so a b s t ((X.setCell ⟨ro, 0, none⟩ (.int .i64 t.lo)).setCell ⟨ro, 1, none⟩ (.int .i64 t.hi)) := by
 have hf := h.far
 have hb : Below w.heap.size X ((X.setCell ⟨ro, 0, none⟩ (.int .i64 t.lo)).setCell ⟨ro, 1, none⟩ (.int .i64 t.hi)) := below_set2 _ _ (by omega)
 have hg := h.gb.next hb
 refine ⟨(set2_other _ _ (by omega)).trans h.bp, (set2_other _ _ (by omega)).trans h.bres, (set2_other _ _ (by omega)).trans h.bs, set2 h.bo _ _, hf, hr.grown hw hg, ?_, hg⟩
 obtain ⟨es, clock, h1, h2⟩ := h.map
 exact ⟨es, clock, (set2_other _ _ (Ne.symm (h.map.not_cells h.bo))).trans h1, h2⟩
end Go.Proofs.YthjmdagonfeneaaGreat.L
set_option linter.unusedVariables false
set_option linter.unusedSimpArgs false
namespace Lc
open Lk
theorem exSl_bd2 {k : Nat} (h : k < exSls.length) : 0 ≤ (lsAt exSls k).opn ∧ (lsAt exSls k).opn ≤ 3000 := by
 match k, h with
 | 0, _ => decide
 | 1, _ => decide
 | 2, _ => decide
end Lc
namespace Go.Proofs.YthjmdagonfeneaaGreat.L
open Go.RowKit Go.Sd Lk Lc
theorem restStep (mb bw bk bc bm br j : Nat) (hj : j < 3) (ih : RestC mb bw bk bc bm br (j + 1)) : RestC mb bw bk bc bm br j := by
 intro b w h0 h1 hR hM
 obtain ⟨W, hW⟩ : ∃ W, (w.alloc (.cells #[.int .i64 j, .int .i64 b] 180)).alloc (spO ⟨0, 0⟩) = W := ⟨_, rfl⟩
 obtain ⟨e0, e1, s0, b0⟩ := two_new hW
 have hRW := Lib.hid (hR.grown hM (Gb.of b0))
 have hMW := Lib.hid (hM.grown b0)
 have hRw := Lib.hid hR
 have hMw := Lib.hid hM
 have hB0 := Lib.hid b0
 obtain ⟨yb, yo, yc, k1, k2⟩ := hRW.out.way
 obtain ⟨yb1, yo1, yc1, hyv, hyb, -, y0⟩ := int_cells k2 (k := j) hj
 obtain ⟨⟨rfl, rfl⟩, rfl⟩ : (yb = yb1 ∧ yo = yo1) ∧ yc = yc1 := by simpa using hyv
 have hky : at0 [2, 1, 0] j = ((exK j : Nat) : Int) := by
  match j, hj with
  | 0, _ => rfl
  | 1, _ => rfl
  | 2, _ => rfl
 have hkl : exK j < exSls.length := by show 2 - j < 3; omega
 rw [hky] at y0
 clear hyv hky k2
 have k1' := rc1 k1
 have k3 := rc1 hRW.out.known
 obtain ⟨q0, q1⟩ := rc2 e0
 obtain ⟨q2, q3⟩ := rc2 e1
 obtain ⟨f2, f3⟩ := rf2 e1
 have e0' := Lib.hid e0
 have e1' := Lib.hid e1
 have z0 := (zqo e0)
 have z1 := (zqo e1)
 have hj3 : (j : Int) < 3 := by omega
 have hj0 : (0 : Int) ≤ (j : Int) := by omega
 have hjn : ¬ (j : Int) = 3 := by omega
 obtain ⟨v, is, hl, hv⟩ := look_place (f := exF) hMW.out j b
 clear e0 e1 s0 hR hM k1 b0
 show Calls Tryz.prog _ #[.agg #[.int .i64 j, .int .i64 b], _, _, _, _, _] w _
 rcases hv with ⟨rfl, rfl⟩ | ⟨rfl, rfl⟩
 · generalize exF j b = t at *
   go_enter Tryz.func117, Tryz.ntmps117
   go_wp2
   obtain ⟨c4, c5⟩ := rc2 (set2 e1'.out (.int .i64 t.lo) (.int .i64 t.hi))
   have hB1 := hB0.out.trans (below_set2 (w := W) (n := w.heap.size + 1) (i := 0) (j := 1) (.int .i64 t.lo) (.int .i64 t.hi) (by omega))
   have hBf := hB1.alloc hB1.size (spO t)
   obtain ⟨Z, hZ⟩ : ∃ Z, (W.setCell ⟨w.heap.size + 1, 0, none⟩ (.int .i64 t.lo)).setCell ⟨w.heap.size + 1, 1, none⟩ (.int .i64 t.hi) = Z := ⟨_, rfl⟩
   rw [hZ] at c4 c5 hBf ⊢
   have bZ := (Below.refl Z.heap.size Z).alloc (Nat.le_refl _) (spO t)
   replace c4 := kept_cell bZ c4
   replace c5 := kept_cell bZ c5
   refine bodyPost_ret (v := spV t) (by simp [results, Tryz.results117, go_sem, c4, c5]) rfl ⟨rfl, hMw.out.grown hBf, Gb.of hBf⟩
 · have hfin : Hid (exF j b = restP (((lsAt exSls (exK j)).rlo, (lsAt exSls (exK j)).rhi, (lsAt exSls (exK j)).fall) :: exWay.drop (j + 1)) b) := Lib.hid (by
    unfold exF
    rw [show ((j : Int).toNat) = j by omega, exWay_drop hj])
   have hbx := exSl_bd2 hkl
   have hok := exSl_ok hkl
   have zbw := (zqo hRW.out.known)
   have zyb : bw < W.heap.size := World.block_lt_of_cell? _ ⟨_, _, none⟩ k1'
   obtain ⟨sb, so, sc, g1, g2⟩ := hRW.out.cav
   obtain ⟨wv, g3, g4⟩ := hRW.out.mea
   obtain ⟨sb1, so1, hsv, hsb, hsx⟩ : ∃ b1 o1, (some ⟨sb, so, none⟩ : Option Addr) = some ⟨b1, o1, none⟩ ∧ b1 < W.heap.size ∧ ∀ k i u, k < exSls.length → (lsEn (exSls.getD k ⟨0, 0, 0, 0, 0, 0, 0⟩))[i]? = some u → W.cell? ⟨b1, o1 + k * 7 + i, none⟩ = some u := by
    obtain ⟨a, cap, ha, -, hc⟩ := g2.form
    obtain ⟨b1, o1, rfl, h1, h2⟩ := hc (by decide)
    simp only [Value.slice.injEq] at ha
    exact ⟨b1, o1, ha.1, h1, h2⟩
   obtain ⟨rfl, rfl⟩ : sb = sb1 ∧ so = so1 := by simpa using hsv
   have x0 : W.cell? ⟨sb, so + exK j * 7 + 4, none⟩ = some (.int .i64 (lsAt exSls (exK j)).rlo) := hsx (exK j) 4 _ hkl rfl
   have x1 : W.cell? ⟨sb, so + exK j * 7 + 5, none⟩ = some (.int .i64 (lsAt exSls (exK j)).rhi) := hsx (exK j) 5 _ hkl rfl
   have kG : Hid (∀ x, Below W.heap.size W x → Calls Tryz.prog 118 #[.agg (exCells (.slice (some ⟨sb, so, none⟩) 3 sc)), .agg #[wv, .int .i64 1], .int .i64 (exK j : Nat)] x fun e w' => e = .returned (.int .i64 (lsAt exSls (exK j)).fall) ∧ Below x.heap.size x w') := Lib.hid fun x hx => by
    have hz : at0 [0, 0, 0] (exK j) = 0 := by
     match j, hj with
     | 0, _ => rfl
     | 1, _ => rfl
     | 2, _ => rfl
    have := lcGain (.slice (some ⟨sb, so, none⟩) 3 sc) wv exSls [0, 0, 0] 1 (exK j) x (g2.mono hx) (g4.mono hx) hkl (by show 2 - j < 3; omega) (by rw [hz]; simp) (by omega) 100 700000
    rw [hz, Int.mul_zero, Int.mul_one, Int.zero_add] at this
    exact this
   clear hsx hsv g2 g4
   generalize hs0 : lsAt exSls (exK j) = s at *
   clear hs0
   have hki : ((exK j : Nat) : Int) < 3 := by show ((2 - j : Nat) : Int) < 3; omega
   have hki0 : (0 : Int) ≤ ((exK j : Nat) : Int) := by omega
   generalize exK j = k at *
   obtain ⟨V, hV⟩ : ∃ V, W.alloc (spO ⟨0, 0⟩) = V := ⟨_, rfl⟩
   obtain ⟨-, bV, sV⟩ := boxed hV
   have hVs : w.heap.size + 2 < V.heap.size := by
    have := hB0.out.size
    omega
   clear sV
   replace hV := Lib.hid hV
   go_enter Tryz.func117, Tryz.ntmps117
   go_upto_region 7 with (fail)
   rw [hV.out]
   clear k1' k3 y0 zyb hyb hl hj3 hj0 hjn
   have hRV := Lib.hid (hRW.out.grown hMW.out (Gb.of bV))
   have hMV := Lib.hid (hMW.out.grown bV)
   have hBV : Hid (Below w.heap.size w V) := Lib.hid (hB0.out.trans (bV.mono hB0.out.size))
   have e0V := Lib.hid (kept_block bV e0'.out)
   have e1V := Lib.hid (kept_block bV e1'.out)
   have kGV : Hid (∀ x, Below V.heap.size V x → Calls Tryz.prog 118 #[.agg (exCells (.slice (some ⟨sb, so, none⟩) 3 sc)), .agg #[wv, .int .i64 1], .int .i64 (k : Int)] x fun e w' => e = .returned (.int .i64 s.fall) ∧ Below x.heap.size x w') := Lib.hid fun x hx => kG.out x (below_tr bV hx)
   obtain ⟨q0, q1, q2⟩ := rc3 (kept_block bV g1)
   obtain ⟨r0, r1⟩ := rc2 (kept_block bV g3)
   have zc := (Array.getElem?_eq_some_iff.1 (kept_block bV g1)).1
   have zm := (Array.getElem?_eq_some_iff.1 (kept_block bV g3)).1
   have zs := Nat.lt_of_lt_of_le hsb bV.size
   replace x0 := kept_cell bV x0
   replace x1 := kept_cell bV x1
   clear kG g1 g3 hsb z0 z1 f2 f3 e0' e1' hMW hRW hB0 hV bV q3 zbw
   refine wp_region_vars growth_below (va := [⟨11, 11, 23, #[.int .i64 0, .int .i64 0], 12, .tmp 41⟩]) (by kernel_rfl) (by kernel_rfl) ?_ ?_ (by simp) (fun T f hT hf hcl => ?_)
   · intro p hp w
     simp only [List.mem_cons, List.not_mem_nil, or_false] at hp
     rcases hp with rfl <;> go_simp
   · intro p hp
     simp only [List.mem_cons, List.not_mem_nil, or_false] at hp
     rcases hp with rfl <;> kernel_rfl
   have hg : ∀ (g : T) (b o : Nat), b < V.heap.size → (f g).cell? ⟨b, o, none⟩ = V.cell? ⟨b, o, none⟩ := fun g => below_cell (hf g)
   simp only [lexOf, List.zipIdx_cons, List.zipIdx_nil, List.map_cons, List.map_nil, isMade, List.any_cons, List.any_nil, Nat.reduceAdd, Nat.reduceBEq, Bool.or_false, Bool.false_or, Bool.or_self, Bool.false_eq_true, if_false, if_true, Nat.zero_add, BEq.rfl, Bool.or_true, Bool.true_or]
   simp only [Go.Sd.blank]
   repeat (go_big_quiet_step ((first | (go_at_call 118; (with_reducible refine Calls.mono (kGV.out _ (hf _)) ?_); rintro e w1 ⟨rfl, hb1⟩; exact ⟨rfl, hcl _ _ hb1⟩))))
   refine wpQuiet_nil ?_
   refine ⟨?_, ?_⟩
   · intro p hp
     simp only [List.mem_cons, List.not_mem_nil, or_false] at hp
     rcases hp with rfl <;> (constructor <;> simp [go_sem, Value.cells, Value.oneCell'])
   intro ns w' hB hv
   have hvb := hv.2.2
   obtain ⟨n1, rfl, hn1, hl1, hc1, hf1⟩ := vars_one hv
   have en1 := (hvb 0 _ n1 rfl rfl).2
   simp [go_sem, Value.cells] at en1
   clear hvb
   clear hv hf hcl hg
   simp only [placeV, Act.put, List.setIfInBounds_toArray, List.set_cons_zero, List.set_cons_succ]
   simp [go_sem] at hc1
   have hjb : (((j : Int)) == 3) = false := by simp; omega
   rw [hjb]
   clear hjb x0 x1 q0 q1 q2 r0 r1 zc zm zs kGV
   obtain ⟨Y, rfl⟩ : ∃ Y, Y = w' := ⟨_, rfl⟩
   obtain ⟨U, hU⟩ : ∃ U, Y.alloc (spO ⟨0, 0⟩) = U := ⟨_, rfl⟩
   obtain ⟨eU, bU, sU⟩ := boxed hU
   have hBU := below_tr hB bU
   have hS : RSt mb bw bk bc bm br w Y.heap.size n1 j b s ⟨0, 0⟩ U := ⟨kept_block hBU e0V.out, kept_block hBU e1V.out, kept_block bU en1, eU, ⟨by omega, hl1⟩, hRV.out.grown hMV.out (Gb.of hBU), hMV.out.grown hBU, (Gb.of hBV.out).next (hBU.mono hBV.out.size)⟩
   obtain ⟨v0, v1⟩ := rc2 hS.bs
   obtain ⟨u0, u1⟩ := rc2 hS.bp
   have zn1 := (zqo hS.bs)
   have zw := (zqo hS.bp)
   have m1 := min_if s.rlo b
   have m2 := min_if s.rhi b
   have hS' := Lib.hid hS
   clear hS eU bU sU hBU hRV hMV e0V e1V hB hBV hVs en1 hn1 hl1 hc1 hf1
   obtain ⟨lo, hlo⟩ : ∃ lo, lo = min s.rlo b := ⟨_, rfl⟩
   obtain ⟨hi, hhi⟩ : ∃ hi, hi = min s.rhi b := ⟨_, rfl⟩
   rw [← hlo] at m1
   rw [← hhi] at m2
   have hlh : 0 ≤ lo ∧ lo ≤ hi ∧ hi ≤ b := by omega
   have hfin2 : Hid (exF j b = itN (fun n => exF ((j : Int) + 1) (b - n)) s.fall lo (hi - lo).toNat) := Lib.hid (by
    have e : ∀ x, exF ((j : Int) + 1) x = restP (exWay.drop (j + 1)) x := fun x => by
     unfold exF
     rw [show (((j : Int) + 1).toNat) = j + 1 by omega]
    rw [hfin.out, restP, ← hlo, ← hhi]
    simp only [e])
   replace hlo := Lib.hid hlo
   replace hhi := Lib.hid hhi
   clear hfin
   go_wp2
   clear v0 v1 u0 u1 zn1 zw hU
   obtain ⟨ro, hro⟩ : ∃ ro, ro = Y.heap.size := ⟨_, rfl⟩
   rw [← hro] at hS' ⊢
   clear hro
   have hih : Hid (∀ (x : Int) (X : World), 0 ≤ x → x ≤ 100 → RC mb bw bk bc bm br X → MapG X mb exF →
       Calls Tryz.prog 117 #[.agg #[.int .i64 ((j : Int) + 1), .int .i64 x], .pointer (some ⟨bw, 0, none⟩), .pointer (some ⟨bk, 0, none⟩), .pointer (some ⟨bc, 0, none⟩), .pointer (some ⟨bm, 0, none⟩), .pointer (some ⟨br, 0, none⟩)] X
        fun e w' => e = .returned (spV (exF ((j : Int) + 1) x)) ∧ MapG w' mb exF ∧ Gb mb X w') := Lib.hid ih
   clear ih
   go_loopw [14] (fun v wr => ∃ (i : Nat) (n : Int), n = lo + i ∧ n ≤ hi + 1 ∧ v = .int .i64 n ∧ Hid (RSt mb bw bk bc bm br w ro n1 j b s (match i with | 0 => ⟨0, 0⟩ | i + 1 => itN (fun n => exF ((j : Int) + 1) (b - n)) s.fall lo i) wr)) (fun v _ => (hi + 1 - intOf v).toNat)
   case atStart => exact ⟨0, lo, by simp, by omega, rfl, hS'⟩
   case round =>
    obtain ⟨i, n, hn, hnh, rfl, hH⟩ := hrel
    have hS := hH.out
    clear hH hS'
    obtain ⟨v0, v1⟩ := rc2 hS.bs
    obtain ⟨u0, u1⟩ := rc2 hS.bp
    obtain ⟨o0, o1⟩ := rc2 hS.bo
    obtain ⟨p0, p1⟩ := rf2 hS.bo
    have l0 := rc1 hS.rc.fn
    have zs := (zqo hS.bs)
    have zp := (zqo hS.bp)
    have zo := (zqo hS.bo)
    have zl : br < wr.heap.size := World.block_lt_of_cell? _ ⟨_, _, none⟩ l0
    replace hn := Lib.hid hn
    by_cases hle : n ≤ hi
    · have hnb : 0 ≤ n ∧ n ≤ b := by have := hn.out; omega
      have hng : 0 ≤ n * s.fall ∧ n * s.fall ≤ 10000 := by
       have a1 : 0 ≤ n * s.fall := Int.mul_nonneg (by omega) hok.2.2.2.1
       have a2 : n * s.fall ≤ 100 * 100 := Int.mul_le_mul (by omega) hok.2.2.2.2 hok.2.2.2.1 (by omega)
       omega
      have kI := Lib.hid (hih.out (b - n) wr (by omega) (by omega) hS.rc hS.map)
      have hbd := exF_bd ((j : Int) + 1) (b - n) (by omega) (by omega)
      have hSh := Lib.hid hS
      generalize hx : exF ((j : Int) + 1) (b - n) = x at *
      replace hx := Lib.hid hx
      clear hS
      go_upto_region 13 with (first | (go_at_call 117; (with_reducible refine Calls.mono kI.out ?_); rintro e y ⟨rfl, hmy, hgy⟩))
      have hxo : y.heap.size ≠ ro := by have := hgy.size; omega
      obtain ⟨Z, hZ⟩ : ∃ Z, y.alloc (spO x) = Z := ⟨_, rfl⟩
      obtain ⟨eZ, bZ, -⟩ := boxed hZ
      have hSZ := Lib.hid ((hSh.out.grown hgy hmy).mono bZ)
      rw [hZ]
      clear v0 v1 u0 u1 o0 o1 p0 p1 l0 zs zp zo zl hSh kI hgy hmy bZ hZ
      obtain ⟨v0, v1⟩ := rc2 hSZ.out.bs
      obtain ⟨u0, u1⟩ := rc2 hSZ.out.bp
      obtain ⟨o0, o1⟩ := rc2 hSZ.out.bo
      obtain ⟨p0, p1⟩ := rf2 hSZ.out.bo
      obtain ⟨x0, x1⟩ := rc2 eZ
      have zs := (zqo hSZ.out.bs)
      have zp := (zqo hSZ.out.bp)
      have zo := (zqo hSZ.out.bo)
      have zx := (zqo eZ)
      obtain ⟨yb2, hyb2⟩ : ∃ q, q = y.heap.size := ⟨_, rfl⟩
      rw [← hyb2] at x0 x1 zx hxo ⊢
      clear hyb2 eZ
      by_cases hz : i = 0
      · subst hz
        obtain rfl : n = lo := by have := hn.out; simpa using this
        have hnx : Hid (RSt mb bw bk bc bm br w ro n1 j b s (itN (fun n => exF ((j : Int) + 1) (b - n)) s.fall n 0) ((Z.setCell ⟨ro, 0, none⟩ (.int .i64 (x.lo + n * s.fall))).setCell ⟨ro, 1, none⟩ (.int .i64 (x.hi + n * s.fall)))) := Lib.hid (by
         have := hSZ.out.set hMw.out hRw.out (itN (fun n => exF ((j : Int) + 1) (b - n)) s.fall n 0)
         simp only [itN, hx.out] at this ⊢
         exact this)
        have hnx2 : Hid (RSt mb bw bk bc bm br w ro n1 j b s (itN (fun n => exF ((j : Int) + 1) (b - n)) s.fall n 0) ((((Z.setCell ⟨ro, 0, none⟩ (.int .i64 (x.lo + n * s.fall))).setCell ⟨ro, 1, none⟩ (.int .i64 (x.hi + n * s.fall))).setCell ⟨ro, 0, none⟩ (.int .i64 (x.lo + n * s.fall))).setCell ⟨ro, 1, none⟩ (.int .i64 (x.hi + n * s.fall)))) := Lib.hid (by
         have := hnx.out.set hMw.out hRw.out (itN (fun n => exF ((j : Int) + 1) (b - n)) s.fall n 0)
         simp only [itN, hx.out] at this ⊢
         exact this)
        clear hnx hn hlo
        go_wp2
        exact ⟨⟨1, n + 1, by simp, by omega, rfl, hnx2⟩, by simp [intOf]; omega⟩
      · obtain ⟨i, rfl⟩ : ∃ i', i = i' + 1 := ⟨i - 1, by omega⟩
        have hne : ¬ n = lo := by have := hn.out; omega
        have hit : Hid (itN (fun n => exF ((j : Int) + 1) (b - n)) s.fall lo (i + 1) = ⟨min (itN (fun n => exF ((j : Int) + 1) (b - n)) s.fall lo i).lo (x.lo + n * s.fall), max (itN (fun n => exF ((j : Int) + 1) (b - n)) s.fall lo i).hi (x.hi + n * s.fall)⟩) := Lib.hid (by
         have e : n = lo + (i + 1) := by have := hn.out; omega
         simp only [itN]
         rw [← e, hx.out])
        have hnx := Lib.hid (hSZ.out.set hMw.out hRw.out (itN (fun n => exF ((j : Int) + 1) (b - n)) s.fall lo (i + 1)))
        have hoo : 0 ≤ (itN (fun n => exF ((j : Int) + 1) (b - n)) s.fall lo i).lo ∧ (itN (fun n => exF ((j : Int) + 1) (b - n)) s.fall lo i).lo ≤ (itN (fun n => exF ((j : Int) + 1) (b - n)) s.fall lo i).hi ∧ (itN (fun n => exF ((j : Int) + 1) (b - n)) s.fall lo i).hi ≤ 40000 := by
         have e : n = lo + (i + 1) := by have := hn.out; omega
         have := itN_bd (f := fun n => exF ((j : Int) + 1) (b - n)) (g := s.fall) (a := lo) (M := 30000) ⟨hok.2.2.2.1, hok.2.2.2.2⟩ (by omega) i (by omega) (fun m h2 h3 => exF_bd ((j : Int) + 1) (b - m) (by omega) (by omega))
         omega
        simp only at o0 o1
        rw [hit.out] at hnx
        generalize ho : itN (fun n => exF ((j : Int) + 1) (b - n)) s.fall lo i = o at *
        replace ho := Lib.hid ho
        have m3 := min_if o.lo (x.lo + n * s.fall)
        have m4 := max_if o.hi (x.hi + n * s.fall)
        clear hlo
        go_wp2
        exact ⟨⟨i + 1 + 1, n + 1, by have := hn.out; omega, by omega, rfl, Lib.hid (by show RSt mb bw bk bc bm br w ro n1 j b s (itN (fun n => exF ((j : Int) + 1) (b - n)) s.fall lo (i + 1)) _; rw [hit.out]; exact hnx.out)⟩, by simp [intOf]; omega⟩
    · have hne : i ≠ 0 := by have := hn.out; omega
      obtain ⟨i, rfl⟩ : ∃ i', i = i' + 1 := ⟨i - 1, by omega⟩
      have hi2 : i = (hi - lo).toNat := by have := hn.out; omega
      replace hS : RSt mb bw bk bc bm br w ro n1 j b s (itN (fun n => exF ((j : Int) + 1) (b - n)) s.fall lo i) wr := hS
      rw [hi2, ← hfin2.out] at hS
      clear o0 o1
      obtain ⟨o0, o1⟩ := rc2 hS.bo
      clear p0 p1 zs l0 zl hi2 hfin2 hih
      have hSh := Lib.hid hS
      have k0 := rc1 hS.rc.known
      have zk := (zqo hS.rc.known)
      clear hS
      generalize ht : exF (j : Int) b = t at *
      replace ht := Lib.hid ht
      obtain ⟨w1, hrun, hm1, hg1⟩ := store_place hSh.out.map j b
      rw [ht.out] at hrun
      have hS1 := Lib.hid (hSh.out.grown hg1 hm1)
      obtain ⟨r0, r1⟩ := rc2 hS1.out.bres
      obtain ⟨r2, r3⟩ := rf2 hS1.out.bres
      obtain ⟨o2, o3⟩ := rc2 hS1.out.bo
      have zo1 := (zqo hS1.out.bo)
      have zr1 := (zqo hS1.out.bres)
      go_wp2
      obtain ⟨c4, c5⟩ := rc2 (set2 hS1.out.bres (.int .i64 t.lo) (.int .i64 t.hi))
      have hG := hS1.out.gb.next (below_set2 (w := w1) (n := w.heap.size + 1) (i := 0) (j := 1) (.int .i64 t.lo) (.int .i64 t.hi) (by omega))
      refine bodyPost_ret (v := spV t) (by simp [results, Tryz.results117, go_sem, c4, c5]) rfl ⟨by rw [ht.out], ?_, hG⟩
      obtain ⟨es, clock, h1, h2⟩ := hm1
      exact ⟨es, clock, (set2_other _ _ (Ne.symm (hS1.out.map.not_cells hS1.out.bres))).trans h1, h2⟩
theorem restAll (mb bw bk bc bm br : Nat) : RestC mb bw bk bc bm br 0 :=
 restStep mb bw bk bc bm br 0 (by decide) (restStep mb bw bk bc bm br 1 (by decide) (restStep mb bw bk bc bm br 2 (by decide) (restEnd mb bw bk bc bm br)))
end Go.Proofs.YthjmdagonfeneaaGreat.L
set_option linter.unusedVariables false
set_option linter.unusedSimpArgs false
namespace Lc
def exWayK : List Int := [2, 1, 0]
theorem exWayK_pre {j : Nat} (h : j < 3) : exWayK.take j ++ [(2 : Int) - j] <+: exWayK ∧ exWayK.take (j + 1) = exWayK.take j ++ [(2 : Int) - j] := by
 match j, h with
 | 0, _ => exact ⟨⟨[1, 0], rfl⟩, rfl⟩
 | 1, _ => exact ⟨⟨[0], rfl⟩, rfl⟩
 | 2, _ => exact ⟨⟨[], rfl⟩, rfl⟩
end Lc
namespace Go.Proofs.YthjmdagonfeneaaGreat.L
open Go.RowKit Go.Sd Lk Lc
attribute [local go_sem] Oper.semAt_some
section
variable {α : Type} {enc : α → List Value} {m : Nat}
theorem run_app1 (hm : ∀ x, (enc x).length = m) (T E : TypeId) (z : Value) (bytes : Nat) (hT : Tryz.prog.underlying T = some (.slice E)) (hinfo : (Tryz.prog.info? E).map (fun i => (i.zero, i.size, i.bytes)) = some (some z, m, bytes))
    (hzc : z.cells.size = m) (hm0 : 0 < m) (hby : bytes ≤ 1000) (hone : ∀ x, ∀ u ∈ enc x, u.oneCell' = true)
    (ty : TypeId) (B : Nat) (w : World) (v : Value) (xs : List α) (y : α) (vb : Nat) (hown : OwnSt E m enc B w v xs) (hn : xs.length ≤ 1000000) (hB : B ≤ w.heap.size) (hy : w.heap[vb]? = some (.cells (enc y).toArray E)) :
    ∃ v' w', (Builtin.append_ #[T, T] ty #[v, .slice (some ⟨vb, 0, none⟩) 1 1]).run Tryz.prog w = .ok v' w' ∧ OwnSt E m enc B w' v' (xs ++ [y]) ∧ w.grownBy w' v.ownBlock ∧ (v'.ownBlock = v.ownBlock ∨ v'.ownBlock = some w.heap.size) := by
 obtain ⟨i0, hi, hz0, hz1, hz2⟩ := info_parts hinfo
 have hb : (xs.length + 1) * bytes ≤ 1000001 * 1000 := Nat.mul_le_mul (by omega) hby
 obtain ⟨v', w', hrun, hown', hg, -, hat⟩ := run_append_own_at (P := Tryz.prog) w B T ty E i0 _ m bytes hT hi hz0 hz1 hz2 hzc hm0
  v xs.length _ hown ⟨vb, 0, none⟩ 1 1 (enc y) (by rw [hm y]; omega) (World.news_of_block (cs := (enc y).toArray) (t := E) (fr := (0, 0)) hy) (hone y) (by unfold maxLen; omega) (by omega) hB
 refine ⟨v', w', hrun, ?_, hg, hat⟩
 unfold OwnSt
 rw [List.length_append, List.flatMap_append]
 simpa using hown'
end
theorem wpListIn_app_run {F : Fence} {n : Nat} {w : World} {ops : Array Oper} {rest : List Oper} {o : Oper} {a : Act} {Q : Exit → Act → World → Prop} (hg : o.guard = none) (s x : Operand) (T : TypeId)
    (hop : o.op = .call { callee := .builtin .append, args := #[s, x], argTypes := #[T, T] }) (v xv v' : Value) (w' : World) (hs : a.eval s = v) (hx : a.eval x = xv) (hrun : (Builtin.append_ #[T, T] o.type #[v, xv]).run Tryz.prog w = .ok v' w')
    (hK : wpListIn F n Tryz.prog ops Q rest (a.put o.dst v') w') : wpListIn F n Tryz.prog ops Q (o :: rest) a w := by
 refine wpListIn_plain hg fun K hK' => ?_
 unfold Oper.wpIn
 refine ⟨?_, ?_⟩
 · simp [Oper.about, hop, resolve, Target.leads, Sem.run_pure]
 · rw [Oper.semAt_plain F _ _ (by rw [hop]; intro c hc'; cases hc')]
   simp [execOp, hop, resolve, invoke, builtin, hs, hx, hrun, Result.andThen]
   exact hK' _ _ hK
theorem lcPath (w : World) : Calls Tryz.prog 116 #[.agg #[.int .i64 10, .int .i64 2, .int .i64 0, .int .i64 3]] w fun e w' => e = .returned (.func (.func 130) #[] #[.pointer (some ⟨w.heap.size, 0, none⟩)]) ∧ w.alloc (.cells #[.int .i64 10, .int .i64 2, .int .i64 0, .int .i64 3] 72) = w' := by
 go_enter Tryz.func116, Tryz.ntmps116
 go_wp2
 go_ret
 exact ⟨rfl, rfl⟩
theorem path_yields (w : World) (S : Nat → Prop) (bs : Nat) (c1 : w.cell? ⟨bs, 1, none⟩ = some (.int .i64 2)) (c2 : w.cell? ⟨bs, 2, none⟩ = some (.int .i64 0)) (hS : S bs) :
    SeqsG Tryz.prog 130 #[.pointer (some ⟨bs, 0, none⟩)] (fun n : Int => #[.int .i64 n]) exWayK S w := by
 intro l J Jx Jp W hKW hJ hJx hY h0
 have d1 : W.cell? ⟨bs, 1, none⟩ = some (.int .i64 2) := hKW.cell hS c1
 have d2 : W.cell? ⟨bs, 2, none⟩ = some (.int .i64 0) := hKW.cell hS c2
 have hbs := World.block_lt_of_cell? W ⟨bs, 1, none⟩ d1
 simp only at hbs
 refine callsIn_wide.2 ?_
 go_enter Tryz.func130, Tryz.ntmps130
 go_wp2
 refine (wpIn_wide (n := 0)).1 ?_
 gi_loopw [4] (fun i wr => ∃ j : Nat, j < 3 ∧ i = .int .i64 (2 - (j : Int)) ∧ Hid (Kept S w wr ∧ J (exWayK.take j) wr)) (fun i _ => (intOf i).toNat)
 case atStart => exact ⟨0, by omega, by simp, hKW, h0⟩
 case round =>
  obtain ⟨j, hj, rfl, hH⟩ := hrel
  have g1 : wr.cell? ⟨bs, 1, none⟩ = some (.int .i64 2) := hH.out.1.cell hS c1
  have g2 : wr.cell? ⟨bs, 2, none⟩ = some (.int .i64 0) := hH.out.1.cell hS c2
  have hbr := World.block_lt_of_cell? wr ⟨bs, 1, none⟩ g1
  simp only at hbr
  obtain ⟨hpre, htk⟩ := exWayK_pre hj
  obtain ⟨fn, tmps, assign, body, hy0, hR⟩ := hY _ _ wr hpre hH.out.1 hH.out.2
  have hy : (Instr.yield l #[.int .i64 (2 - (j : Int))]).run Tryz.prog wr = .ok (.round l fn tmps assign body) wr := hy0
  clear hy0
  gi_wp2
  refine ⟨rfl, hR.mono ?_⟩
  clear hy hR
  rintro e W3 (⟨rfl, hJ4, hk4⟩ | ⟨rfl, hJx4⟩ | ⟨c, rfl, hJp⟩)
  · have hK4 : Kept S w W3 := hH.out.1.trans hk4
    have g3 : W3.cell? ⟨bs, 2, none⟩ = some (.int .i64 0) := hK4.cell hS c2
    have hb3 := World.block_lt_of_cell? W3 ⟨bs, 2, none⟩ g3
    simp only at hb3
    have hJ5 : Hid (Kept S w W3 ∧ J (exWayK.take (j + 1)) W3) := Lib.hid ⟨hK4, by rw [htk]; exact hJ4⟩
    clear hJ4 hk4 hH hpre htk
    by_cases hj2 : j = 2
    · have hz : (2 : Int) - (j : Int) = 0 := by omega
      have hJ6 : Hid (J exWayK W3) := Lib.hid (by have := hJ5.out.2; rw [hj2] at this; exact this)
      gi_wp2
      go_end0
      exact .inl ⟨⟨_, rfl⟩, .inl hJ6.out⟩
    · have hz : ¬ (2 : Int) - (j : Int) = 0 := by omega
      have hlt : j < 2 := by omega
      gi_wp2
      exact ⟨⟨j + 1, by omega, by go_num, hJ5⟩, by simp [intOf]; omega⟩
  · gi_wp2
    go_end0
    exact .inl ⟨⟨_, rfl⟩, .inr hJx4⟩
  · exact ⟨rfl, .inr ⟨c, rfl, hJp⟩⟩
end Go.Proofs.YthjmdagonfeneaaGreat.L
set_option linter.unusedVariables false
set_option linter.unusedSimpArgs false
namespace Lk
end Lk
namespace Go.Proofs.YthjmdagonfeneaaGreat.L
open Go.RowKit Go.Sd Lk
theorem three_new {w W : World} {a b c : Obj} (h : ((w.alloc a).alloc b).alloc c = W) :
    W.heap[w.heap.size]? = some a ∧ W.heap[w.heap.size + 1]? = some b ∧ W.heap[w.heap.size + 1 + 1]? = some c ∧ W.heap.size = w.heap.size + 3 ∧ Below w.heap.size w W := by
 obtain ⟨V, hV⟩ : ∃ V, (w.alloc a).alloc b = V := ⟨_, rfl⟩
 rw [hV] at h
 obtain ⟨e0, e1, s1, B1⟩ := two_new hV
 obtain ⟨e2, B2, s2⟩ := boxed h
 rw [s1] at e2
 exact ⟨kept_block B2 e0, kept_block B2 e1, e2, by omega, below_tr B1 B2⟩
end Go.Proofs.YthjmdagonfeneaaGreat.L
