/- Laws and walks: SP5. -/
import Derived.Test.YtpcamocnlnlgiaaGreatK25
set_option maxRecDepth 100000
set_option maxHeartbeats 16000000
set_option linter.unusedVariables false
set_option linter.unusedSimpArgs false
namespace Go.Proofs.YtpcamocnlnlgiaaGreat.S
open Go.RowKit Go.Sd
attribute [local go_sem] Oper.semAt_some
theorem seqs_at {P : Program} {α : Type} {gf : Nat} {lb : Array Value} {encs : α → Array Value} {xs : List α} {S : Nat → Prop} {w w1 : World}
    (h : Seqs P gf lb encs xs S w) (hS : ∀ k, S k → k < w.heap.size) (hk : Kept S w w1) : Seqs P gf lb encs xs S w1 := by
 intro l J Jx W hKW hJ hJx hY h0
 refine h l J Jx W (hk.trans hKW) hJ hJx (fun pre x W1 hp hk1 hs hj => hY pre x W1 hp ?_ hs hj) h0
 exact ⟨hk1.os.trans hk.os.symm, hk1.tape.trans hk.tape.symm, hk1.output.trans hk.output.symm, Nat.le_trans hKW.size hs, fun k _ hs => (hk1.block k (hS k hs) hs).trans (hk.block k (hS k hs) hs).symm⟩
def pick (num : Int → Int) (b : Int × Option Int) (u : Int) : Int × Option Int := if num u < b.1 then (num u, some u) else b
def firstOf (num : Int → Int) (xs : List Int) : Int × Option Int := xs.foldl (pick num) (Sea.never, none)
theorem firstOf_snoc (num : Int → Int) (xs : List Int) (u : Int) : firstOf num (xs ++ [u]) = pick num (firstOf num xs) u := by simp [firstOf]
abbrev outC (lv : Value) (k : Nat) (fill nom : Int) : Option Int → Array Value
 | none => #[.pointer none, .int .i64 0, .int .i64 0, .int .i64 0, .int .i64 0]
 | some u => #[lv, .int .i64 k, .int .i64 fill, .int .i64 nom, .int .i64 u]
theorem set5 {w : World} {n : Nat} {a b c d f : Value} {e : TypeId} (h : w.heap[n]? = some (.cells #[a, b, c, d, f] e)) (a' b' c' d' f' : Value) :
    (((((w.setCell ⟨n, 0, none⟩ a').setCell ⟨n, 1, none⟩ b').setCell ⟨n, 2, none⟩ c').setCell ⟨n, 3, none⟩ d').setCell ⟨n, 4, none⟩ f').heap[n]? = some (.cells #[a', b', c', d', f'] e) := by
 simp only [World.setCell, Array.getElem?_modify, if_true, h]
 rfl
theorem set1 {w : World} {n : Nat} {a : Value} {e : TypeId} (h : w.heap[n]? = some (.cells #[a] e)) (a' : Value) : (w.setCell ⟨n, 0, none⟩ a').heap[n]? = some (.cells #[a'] e) := by
 simp only [World.setCell, Array.getElem?_modify, if_true, h]
 rfl
theorem set5_other {w : World} {n m : Nat} (a' b' c' d' f' : Value) (h : m ≠ n) :
    (((((w.setCell ⟨n, 0, none⟩ a').setCell ⟨n, 1, none⟩ b').setCell ⟨n, 2, none⟩ c').setCell ⟨n, 3, none⟩ d').setCell ⟨n, 4, none⟩ f').heap[m]? = w.heap[m]? := by
 rw [Below.heap_setCell _ _ _ _ h, Below.heap_setCell _ _ _ _ h, Below.heap_setCell _ _ _ _ h, Below.heap_setCell _ _ _ _ h, Below.heap_setCell _ _ _ _ h]
theorem set5_kept {S : Nat → Prop} {v w : World} {n : Nat} (hk : Kept S v w) (h : ¬ S n ∨ v.heap.size ≤ n) (a' b' c' d' f' : Value) :
    Kept S v (((((w.setCell ⟨n, 0, none⟩ a').setCell ⟨n, 1, none⟩ b').setCell ⟨n, 2, none⟩ c').setCell ⟨n, 3, none⟩ d').setCell ⟨n, 4, none⟩ f') :=
 ((((hk.setCell (p := ⟨n, 0, none⟩) h _).setCell (p := ⟨n, 1, none⟩) h _).setCell (p := ⟨n, 2, none⟩) h _).setCell (p := ⟨n, 3, none⟩) h _).setCell (p := ⟨n, 4, none⟩) h _
theorem out_cells (lp : Option Addr) (k : Nat) (fill nom : Int) (o : Option Int) : ∃ p a b c d, outC (.pointer lp) k fill nom o = #[.pointer p, .int .i64 a, .int .i64 b, .int .i64 c, .int .i64 d] := by
 cases o with
 | none => exact ⟨_, _, _, _, _, rfl⟩
 | some u => exact ⟨_, _, _, _, _, rfl⟩
theorem four_new {w W : World} {a b c d : Obj} (h : (((w.alloc a).alloc b).alloc c).alloc d = W) :
    W.heap[w.heap.size]? = some a ∧ W.heap[w.heap.size + 1]? = some b ∧ W.heap[w.heap.size + 1 + 1]? = some c ∧ W.heap[w.heap.size + 1 + 1 + 1]? = some d ∧ W.heap.size = w.heap.size + 4 ∧ Below w.heap.size w W := by
 subst h
 have e1 := World.alloc_heap_new (w.alloc a) b
 have e2 := World.alloc_heap_new ((w.alloc a).alloc b) c
 have e3 := World.alloc_heap_new (((w.alloc a).alloc b).alloc c) d
 simp only [World.size_alloc] at e1 e2 e3
 refine ⟨?_, ?_, ?_, e3, by simp, (((((Below.refl _ _).alloc (Nat.le_refl _) _).alloc (by simp) _).alloc (by simp; omega) _).alloc (by simp; omega) _)⟩
 · exact (Below.heap_alloc _ _ _ (by simp; omega)).trans ((Below.heap_alloc _ _ _ (by simp; omega)).trans ((Below.heap_alloc _ _ _ (by simp)).trans (World.alloc_heap_new w a)))
 · exact (Below.heap_alloc _ _ _ (by simp)).trans ((Below.heap_alloc _ _ _ (by simp)).trans e1)
 · exact (Below.heap_alloc _ _ _ (by simp)).trans e2
theorem progFirst (lp : Option Addr) (k : Nat) (fill nom : Int) (xs : List Int) (num : Int → Int) (gf nf : Nat) (lb nb : Array Value) (w : World) (S : Nat → Prop) (Inv : World → Prop)
    (eg : ∀ args w, (callFunc gf args).run Tryz.prog w = .ok (.enter gf args) w) (en : ∀ args w, (callFunc nf args).run Tryz.prog w = .ok (.enter nf args) w)
    (hseq : Seqs Tryz.prog gf lb (fun u : Int => #[ordV (.pointer lp) k fill nom u]) xs S w) (hS : ∀ k, S k → k < w.heap.size)
    (h0 : Inv w) (hInv : ∀ X Y, Inv X → Below w.heap.size X Y → Inv Y)
    (hnum : ∀ u, u ∈ xs → ∀ X, Kept S w X → w.heap.size ≤ X.heap.size → Inv X → Calls Tryz.prog nf (#[ordV (.pointer lp) k fill nom u] ++ nb) X fun e X' => e = .returned (.int .i64 (num u)) ∧ Kept (fun b => S b ∨ w.heap.size ≤ b) X X' ∧ Inv X') :
    Calls Tryz.prog 32 #[.func (.func gf) #[] lb, .func (.func nf) #[] nb] w fun e w' =>
     e = .returned (.tuple #[.agg (outC (.pointer lp) k fill nom (firstOf num xs).2), .int .i64 (firstOf num xs).1, .bool (decide ((firstOf num xs).1 < Sea.never))]) ∧ Kept S w w' ∧ Inv w' := by
 refine (callsIn_wide (n := 0)).1 ?_
 refine callsIn_of_wp_marks Tryz.func32 rfl trivial ?_
 simp only [Tryz.ntmps32, List.size_toArray, List.length_cons, List.length_nil, Nat.reduceAdd, Nat.reduceSub, Array.replicate_succ, Array.replicate_zero, List.push_toArray, List.append_toArray, List.nil_append, List.cons_append]
 gi_wp2
 generalize hW : (((w.alloc (Obj.cells #[Value.func (Fn.func nf) #[] nb] 111)).alloc _).alloc _).alloc _ = W
 obtain ⟨n0, n1, n2, n3, hsz, hB⟩ := four_new hW
 clear hW
 refine wp_rangeFunc (gf := gf) (lb := lb) rfl eg (seqs_at hseq hS (.all hB)) (fun k h => by have := hS k h; omega) (fun _ => rfl)
  (fun pre X => Inv X ∧ X.heap[w.heap.size]? = some (.cells #[.func (.func nf) #[] nb] 111) ∧ X.heap[w.heap.size + 1]? = some (.cells (outC (.pointer lp) k fill nom none) 105) ∧
   X.heap[w.heap.size + 1 + 1]? = some (.cells (outC (.pointer lp) k fill nom (firstOf num pre).2) 105) ∧ X.heap[w.heap.size + 1 + 1 + 1]? = some (.cells #[.int .i64 (firstOf num pre).1] 3))
  (fun _ _ => False) ?_ (fun _ _ _ h _ => h) ⟨hInv _ _ h0 hB, n0, n1, n2, n3⟩ ?_ ?_ (fun _ _ _ _ h => h.elim)
 · rintro pre X Y ⟨h1, h2, h3, h4, h5⟩ hb
   exact ⟨hInv _ _ h1 (hb.mono (by omega)), (hb.block _ (by omega)).trans h2, (hb.block _ (by omega)).trans h3, (hb.block _ (by omega)).trans h4, (hb.block _ (by omega)).trans h5⟩
 · rintro l pre u X hl1 hl2 hpre hkX ⟨h1, h2, h3, h4, h5⟩
   gi_wp2
   refine ⟨(Kept.refl _ _).alloc _, ?_⟩
   intro W2 hk2 hs2
   rw [World.size_alloc] at hs2
   have old : ∀ (b : Nat) (o : Obj), b < W.heap.size → X.heap[b]? = some o → W2.heap[b]? = some o := fun b o hb h =>
    (hk2.block b (by rw [World.size_alloc]; have := (zqo h); omega) (by omega)).trans ((Below.heap_alloc _ _ _ (zqo h)).trans h)
   have g2 := old _ _ (by omega) h2
   have g3 := old _ _ (by omega) h3
   have g4 := old _ _ (by omega) h4
   have g5 := old _ _ (by omega) h5
   have gx : W2.heap[X.heap.size]? = some (oBox (.pointer lp) k fill nom u) := (hk2.block _ (by rw [World.size_alloc]; omega) (by omega)).trans (World.alloc_heap_new X _)
   have hbX2 : Below w.heap.size X W2 := ((Below.refl _ X).alloc (by omega) _).trans (hk2.below (by rw [World.size_alloc]; omega) (by intro k hk; omega))
   have hi2 := hInv _ _ h1 hbX2
   have hkw : Kept S w W2 := ((Kept.all hB).trans ⟨hkX.os, hkX.tape, hkX.output, hkX.size, fun k hk hs => hkX.block k hk hs⟩).trans (.of_below hbX2 fun k _ hs => hS k hs)
   have hc := hnum u (hpre.subset (by simp)) W2 hkw (by omega) hi2
   clear old h2 h3 h4 h5 h1 hk2
   obtain ⟨z2, d2, f2⟩ := row_cells g2
   obtain ⟨zx, dx, fx⟩ := row_cells gx
   have x0 := dx 0
   have x1 := dx 1
   have x2 := dx 2
   have x3 := dx 3
   have x4 := dx 4
   have y0 := d2 0
   simp only [oBox, List.getElem?_toArray, List.getElem?_cons_zero, List.getElem?_cons_succ] at x0 x1 x2 x3 x4 y0
   clear d2 dx f2 fx
   gi_wp2
   refine ⟨trivial, rfl, (CallsIn.inRound l (callsIn_wide.2 hc)).mono ?_⟩
   clear hc x0 x1 x2 x3 x4 y0
   rintro e W3 ⟨rfl, hk3, hi3⟩
   replace g2 := (hk3.block _ (zqo g2) (.inr (by omega))).trans g2
   replace g3 := (hk3.block _ (zqo g3) (.inr (by omega))).trans g3
   replace g4 := (hk3.block _ (zqo g4) (.inr (by omega))).trans g4
   replace g5 := (hk3.block _ (zqo g5) (.inr (by omega))).trans g5
   replace gx := (hk3.block _ (zqo gx) (.inr (by omega))).trans gx
   have hk4 : Kept (fun b => S b ∨ W.heap.size ≤ b) W2 W3 := hk3.mono fun b _ h => h.imp id (by omega)
   have hsn := Lib.hid (firstOf_snoc num pre u)
   obtain ⟨p, oa, ob, oc, od, hout⟩ := out_cells lp k fill nom (firstOf num pre).2
   have g4' := g4
   rw [hout] at g4'
   replace hout := Lib.hid hout
   replace hkw := Lib.hid hkw
   have g3 := Lib.hid g3
   generalize hbb : (firstOf num pre).1 = best at *
   replace hbb := Lib.hid hbb
   obtain ⟨z4, d4, f4⟩ := row_cells g4'
   obtain ⟨z5, d5, f5⟩ := row_cells g5
   obtain ⟨zx, dx, fx⟩ := row_cells gx
   have x0 := dx 0
   have x1 := dx 1
   have x2 := dx 2
   have x3 := dx 3
   have x4 := dx 4
   have y0 := d4 0
   have y1 := d4 1
   have y2 := d4 2
   have y3 := d4 3
   have y4 := d4 4
   have y5 := d5 0
   simp only [oBox, List.getElem?_toArray, List.getElem?_cons_zero, List.getElem?_cons_succ] at x0 x1 x2 x3 x4 y0 y1 y2 y3 y4 y5
   clear d4 d5 dx fx
   by_cases hlt : num u < best
   · gi_wp2
     have hf : Hid (firstOf num (pre ++ [u]) = (num u, some u)) := by show _ = _; rw [hsn.out]; unfold pick; rw [hbb.out, if_pos hlt]
     have nin : ∀ n, w.heap.size ≤ n → n < W.heap.size → ¬ (S n ∨ W.heap.size ≤ n) := by
      rintro n h1 h2 (h | h)
      · have := hS _ h; omega
      · omega
     have k5 : Kept (fun b => S b ∨ W.heap.size ≤ b) W2 _ := (set5_kept (n := w.heap.size + 1 + 1) hk4 (.inl (nin (w.heap.size + 1 + 1) (by omega) (by omega))) (.pointer lp) (.int .i64 k) (.int .i64 fill) (.int .i64 nom) (.int .i64 u)).setCell (p := ⟨w.heap.size + 1 + 1 + 1, 0, none⟩) (.inl (nin (w.heap.size + 1 + 1 + 1) (by omega) (by omega))) (.int .i64 (num u))
     have b5 : Below w.heap.size W3 _ := (((((((Below.refl w.heap.size W3).setCell (p := ⟨w.heap.size + 1 + 1, 0, none⟩) (by simp; omega) (.pointer lp)).setCell (p := ⟨w.heap.size + 1 + 1, 1, none⟩) (by simp; omega) (.int .i64 k)).setCell (p := ⟨w.heap.size + 1 + 1, 2, none⟩) (by simp; omega) (.int .i64 fill)).setCell (p := ⟨w.heap.size + 1 + 1, 3, none⟩) (by simp; omega) (.int .i64 nom)).setCell (p := ⟨w.heap.size + 1 + 1, 4, none⟩) (by simp; omega) (.int .i64 u)).setCell (p := ⟨w.heap.size + 1 + 1 + 1, 0, none⟩) (by simp; omega) (.int .i64 (num u)))
     refine ⟨k5, hInv _ _ hi3 b5, ?_, ?_, ?_, ?_⟩
     · exact (Below.heap_setCell _ _ _ _ (by simp <;> omega)).trans ((set5_other _ _ _ _ _ (by omega)).trans g2)
     · exact (Below.heap_setCell _ _ _ _ (by simp <;> omega)).trans ((set5_other _ _ _ _ _ (by omega)).trans g3.out)
     · rw [hf.out]; exact (Below.heap_setCell _ _ _ _ (by simp)).trans (set5 g4' _ _ _ _ _)
     · rw [hf.out]; exact set1 ((set5_other _ _ _ _ _ (by omega)).trans g5) _
   · gi_wp2
     have hf : firstOf num (pre ++ [u]) = firstOf num pre := by rw [hsn.out]; unfold pick; rw [hbb.out, if_neg (by omega)]
     exact ⟨hk4, hi3, g2, g3.out, by rw [hf]; exact g4, by rw [hf, hbb.out]; exact g5⟩
 · rintro D X hD ⟨h1, h2, h3, h4, h5⟩ hkX hDX
   obtain ⟨p, oa, ob, oc, od, hout⟩ := out_cells lp k fill nom (firstOf num xs).2
   rw [hout] at h4
   replace hout := Lib.hid hout
   obtain ⟨z3, d3, f3⟩ := row_cells h3
   obtain ⟨z4, d4, f4⟩ := row_cells h4
   generalize hbb : (firstOf num xs).1 = best at h5
   replace hbb := Lib.hid hbb
   obtain ⟨z5, d5, f5⟩ := row_cells h5
   have := d4 0
   have := d4 1
   have := d4 2
   have := d4 3
   have := d4 4
   have := d3 0
   have := d3 1
   have := d3 2
   have := d3 3
   have := d3 4
   have := d5 0
   simp only [List.getElem?_toArray, List.getElem?_cons_zero, List.getElem?_cons_succ] at *
   gi_wp2
   refine wpIn_wide.2 ?_
   go_region
   gi_wp2
   have k6 := (set5_kept (S := S) (v := w) (w := X) (n := w.heap.size + 1) ((Kept.all hB).trans ⟨hkX.os, hkX.tape, hkX.output, hkX.size, fun k hk hs => hkX.block k hk hs⟩) (.inr (by omega)) (.pointer p) (.int .i64 oa) (.int .i64 ob) (.int .i64 oc) (.int .i64 od)).drew
   have b6 := (((((((Below.refl w.heap.size X).setCell (p := ⟨w.heap.size + 1, 0, none⟩) (by simp) (.pointer p)).setCell (p := ⟨w.heap.size + 1, 1, none⟩) (by simp) (.int .i64 oa)).setCell (p := ⟨w.heap.size + 1, 2, none⟩) (by simp) (.int .i64 ob)).setCell (p := ⟨w.heap.size + 1, 3, none⟩) (by simp) (.int .i64 oc)).setCell (p := ⟨w.heap.size + 1, 4, none⟩) (by simp) (.int .i64 od)).drew)
   have r6 := set5 h3 (.pointer p) (.int .i64 oa) (.int .i64 ob) (.int .i64 oc) (.int .i64 od)
   have D6 := (set5_other (w := X) (n := w.heap.size + 1) (m := D) (.pointer p) (.int .i64 oa) (.int .i64 ob) (.int .i64 oc) (.int .i64 od) (by omega)).trans hDX
   have dr : ∀ (V : World) (i : Nat), V.heap[i]? = V.drew.heap[i]? := fun _ _ => rfl
   rw [dr] at r6 D6
   generalize (((((X.setCell ⟨w.heap.size + 1, 0, none⟩ (.pointer p)).setCell ⟨w.heap.size + 1, 1, none⟩ (.int .i64 oa)).setCell ⟨w.heap.size + 1, 2, none⟩ (.int .i64 ob)).setCell ⟨w.heap.size + 1, 3, none⟩ (.int .i64 oc)).setCell ⟨w.heap.size + 1, 4, none⟩ (.int .i64 od)).drew = Y at k6 b6 r6 D6
   refine ⟨by simp, .inl ⟨_, _, rfl, run_takeDeferred D6, ?_⟩⟩
   have r7 : (Y.putObj D (.deferred none)).heap[w.heap.size + 1]? = _ := (World.putObj_heap_other (by omega)).trans r6
   have k7 : Kept S w (Y.putObj D (.deferred none)) := k6.putObj (.inr (by omega)) _
   have b7 : Below w.heap.size X (Y.putObj D (.deferred none)) := below_putObj b6 (by omega) _
   generalize Y.putObj D (.deferred none) = Z at r7 k7 b7
   obtain ⟨-, d, -⟩ := row_cells r7
   have g0 := d 0
   have g1 := d 1
   have g2 := d 2
   have g3 := d 3
   have g4 := d 4
   simp only [List.getElem?_toArray, List.getElem?_cons_zero, List.getElem?_cons_succ] at g0 g1 g2 g3 g4
   exact ⟨.tuple #[.agg #[.pointer p, .int .i64 oa, .int .i64 ob, .int .i64 oc, .int .i64 od], .int .i64 best, .bool (decide (best < 1000000000000000))],
    by simp [results, Tryz.results32, go_sem, g0, g1, g2, g3, g4], by rw [hout.out, hbb.out]; rfl, k7, hInv _ _ h1 b7⟩
end Go.Proofs.YtpcamocnlnlgiaaGreat.S
namespace Go.Proofs.YtpcamocnlnlgiaaGreat.S
open Go.RowKit Go.Sd
def withOf (s : Sea.S) (k : Nat) (fill nom : Int) (next : List Int) (u : Int) : Int :=
 if Sea.at0 next (fill + nom + u).toNat = Sea.never then Sea.never else s.cost k u + Sea.at0 next (fill + nom + u).toNat
theorem progWith (lv mv : Value) (s : Sea.S) (k : Nat) (fill nom u : Int) (w : World) (vv : Value) (next : List Int) (hl : LookAt w lv mv s) (hk : k < s.days.length) (ok : Sea.Ok s)
    (b1 : 0 ≤ fill ∧ fill ≤ 100) (b2 : -100 ≤ nom ∧ nom ≤ 100) (b3 : -100 ≤ u ∧ u ≤ 100) (hv : IntsAt w vv next) (hi : 0 ≤ fill + nom + u) (hi2 : fill + nom + u < next.length)
    (hbd : -Sea.never ≤ Sea.at0 next (fill + nom + u).toNat ∧ Sea.at0 next (fill + nom + u).toNat ≤ Sea.never) :
    Calls Tryz.prog 35 #[ordV lv k fill nom u, vv] w fun e w' => e = .returned (.int .i64 (withOf s k fill nom next u)) ∧ Below w.heap.size w w' := by
 obtain ⟨j, hj⟩ := Int.eq_ofNat_of_zero_le hi
 have hw : withOf s k fill nom next u = if Sea.at0 next j = Sea.never then Sea.never else s.cost k u + Sea.at0 next j := by unfold withOf; rw [hj]; rfl
 rw [hw]
 clear hw
 have hbd' : -Sea.never ≤ Sea.at0 next j ∧ Sea.at0 next j ≤ Sea.never := by have := hbd; rw [hj] at this; exact this
 clear hbd
 unfold Sea.never at *
 have hcost := cost_bd ok hk b3
 obtain ⟨va, vcap, rfl, hvm, hvk⟩ := hv
 have hjl : j < next.length := by omega
 obtain ⟨vb, voff, rfl, hvlt, hvc⟩ := hvk (by omega)
 have cv := hvc j hjl
 clear hvc hvk
 unfold maxLen at hvm
 have hbeh := fun w1 => progBehind lv k fill nom u w1 b1 b2 b3
 rw [hj] at hbeh
 have hb2 : (j : Int) < (next.length : Int) := by omega
 clear hi hi2 hj
 go_enter Tryz.func35, Tryz.ntmps35
 by_cases he : Sea.at0 next j = 1000000000000000
 · rw [he] at cv
   rw [if_pos he]
   clear he hbd' hcost
   go_wp2_with (go_at_call 36; refine (hbeh _).mono ?_; rintro e w1 ⟨rfl, hB1⟩; have cv1 := kept_cell (((Below.refl _ _).alloc (Nat.le_refl _) _).trans (hB1.mono (by simp))) cv)
   go_ret
   exact ⟨rfl, ((Below.refl _ _).alloc (Nat.le_refl _) _).trans (hB1.mono (by simp))⟩
 · rw [if_neg he]
   have hne : (Sea.at0 next j == 1000000000000000) = false := by simpa using he
   replace he := Lib.hid he
   go_wp2_with (first | (go_at_call 36; refine (hbeh _).mono ?_; rintro e w1 ⟨rfl, hB1⟩; have cv1 := kept_cell (((Below.refl _ _).alloc (Nat.le_refl _) _).trans (hB1.mono (by simp))) cv; obtain ⟨-, -, q0, q1, q2, q3, q4⟩ := box_order (w := w) (lv := lv) (day := k) (fill := fill) (nom := nom) (u := u) rfl; have r0 := kept_cell hB1 q0; have r1 := kept_cell hB1 q1; have r2 := kept_cell hB1 q2; have r3 := kept_cell hB1 q3; have r4 := kept_cell hB1 q4; clear q0 q1 q2 q3 q4; have hB2 : Below w.heap.size w w1 := ((Below.refl _ _).alloc (Nat.le_refl _) _).trans (hB1.mono (by simp)); have hl1 := hl.mono hB2) | (go_at_call 41; refine (progCost lv mv s k fill nom u _ hl1 hk ok b3).mono ?_; rintro e w2 ⟨rfl, hB3⟩))
   go_ret
   exact ⟨rfl, hB2.trans (hB3.mono hB2.size)⟩
end Go.Proofs.YtpcamocnlnlgiaaGreat.S
namespace Go.Proofs.YtpcamocnlnlgiaaGreat.S
open Go.Sd
theorem first_least (s : Sea.S) (k : Nat) (fill nom : Int) (next : List Int) (hn : ∀ i, Sea.at0 next i ≤ Sea.never) (j : Nat) :
    Sea.leastTo s k fill nom next j = ((firstOf (withOf s k fill nom next) (ordersTo s k fill nom j)).1, (firstOf (withOf s k fill nom next) (ordersTo s k fill nom j)).2.getD 0) ∧
     (((firstOf (withOf s k fill nom next) (ordersTo s k fill nom j)).2 = none ∧ (firstOf (withOf s k fill nom next) (ordersTo s k fill nom j)).1 = Sea.never) ∨
      (∃ u, (firstOf (withOf s k fill nom next) (ordersTo s k fill nom j)).2 = some u ∧ u ∈ ordersTo s k fill nom j ∧ (firstOf (withOf s k fill nom next) (ordersTo s k fill nom j)).1 < Sea.never)) := by
 induction j with
 | zero => exact ⟨rfl, .inl ⟨rfl, rfl⟩⟩
 | succ j ih =>
  obtain ⟨h1, h2⟩ := ih
  rw [Sea.leastTo, h1]
  cases hp : possB s k fill nom ((j : Int) - (Sea.dayAt s.days k).take)
  · rw [ordersTo_no hp]
    have hr : ¬ s.rule k fill nom ((j : Int) - (Sea.dayAt s.days k).take) = 1 := by simpa [possB] using hp
    exact ⟨by simp [hr], h2⟩
  · rw [ordersTo_yes hp, firstOf_snoc]
    have hr : s.rule k fill nom ((j : Int) - (Sea.dayAt s.days k).take) = 1 := by simpa [possB] using hp
    generalize hb : firstOf (withOf s k fill nom next) (ordersTo s k fill nom j) = b at *
    have hb1 : b.1 ≤ Sea.never := by rcases h2 with ⟨-, h⟩ | ⟨u, -, -, h⟩ <;> omega
    have hx := hn (fill + nom + ((j : Int) - (Sea.dayAt s.days k).take)).toNat
    by_cases he : Sea.at0 next (fill + nom + ((j : Int) - (Sea.dayAt s.days k).take)).toNat = Sea.never
    · have hpk : pick (withOf s k fill nom next) b ((j : Int) - (Sea.dayAt s.days k).take) = b := by
       unfold pick withOf
       rw [if_pos he, if_neg (by omega)]
      rw [hpk]
      refine ⟨?_, ?_⟩
      · simp only
        rw [if_neg (by rintro ⟨-, h, -⟩; omega)]
      · rcases h2 with h | ⟨u, h3, h4, h5⟩
        · exact .inl h
        · exact .inr ⟨u, h3, by simp [h4], h5⟩
    · by_cases hlt : s.cost k ((j : Int) - (Sea.dayAt s.days k).take) + Sea.at0 next (fill + nom + ((j : Int) - (Sea.dayAt s.days k).take)).toNat < b.1
      · have hpk : pick (withOf s k fill nom next) b ((j : Int) - (Sea.dayAt s.days k).take) = (s.cost k ((j : Int) - (Sea.dayAt s.days k).take) + Sea.at0 next (fill + nom + ((j : Int) - (Sea.dayAt s.days k).take)).toNat, some ((j : Int) - (Sea.dayAt s.days k).take)) := by
         unfold pick withOf
         rw [if_neg he, if_pos hlt]
        rw [hpk]
        refine ⟨?_, .inr ⟨_, rfl, by simp, by simp only []; omega⟩⟩
        simp only
        rw [if_pos ⟨hr, by omega, hlt⟩]
        rfl
      · have hpk : pick (withOf s k fill nom next) b ((j : Int) - (Sea.dayAt s.days k).take) = b := by
         unfold pick withOf
         rw [if_neg he, if_neg hlt]
        rw [hpk]
        refine ⟨?_, ?_⟩
        · simp only
          rw [if_neg (by rintro ⟨-, -, h⟩; omega)]
        · rcases h2 with h | ⟨u, h3, h4, h5⟩
          · exact .inl h
          · exact .inr ⟨u, h3, by simp [h4], h5⟩
theorem first_all (s : Sea.S) (k : Nat) (fill nom : Int) (next : List Int) (hn : ∀ i, Sea.at0 next i ≤ Sea.never) :
    s.least k fill nom next = ((firstOf (withOf s k fill nom next) (ordersOf s k fill nom)).1, (firstOf (withOf s k fill nom next) (ordersOf s k fill nom)).2.getD 0) ∧
     (((firstOf (withOf s k fill nom next) (ordersOf s k fill nom)).2 = none ∧ (firstOf (withOf s k fill nom next) (ordersOf s k fill nom)).1 = Sea.never) ∨
      (∃ u, (firstOf (withOf s k fill nom next) (ordersOf s k fill nom)).2 = some u ∧ u ∈ ordersOf s k fill nom ∧ (firstOf (withOf s k fill nom next) (ordersOf s k fill nom)).1 < Sea.never)) :=
 first_least s k fill nom next hn _
theorem order_in {s : Sea.S} {k : Nat} {fill nom u : Int} (ok : Sea.Ok s) (hk : k < s.days.length) (h : u ∈ ordersOf s k fill nom) :
    -100 ≤ u ∧ u ≤ 100 ∧ s.rule k fill nom u = 1 ∧ 0 ≤ fill + nom + u ∧ fill + nom + u ≤ s.space := by
 unfold ordersOf ordersTo at h
 rw [List.mem_filter, List.mem_map] at h
 obtain ⟨⟨j, hj, rfl⟩, hp⟩ := h
 rw [List.mem_range] at hj
 have hd := ok.days k hk
 have hr : s.rule k fill nom ((j : Int) - (Sea.dayAt s.days k).take) = 1 := by simpa [possB] using hp
 have := rule_fine hr (by omega) (by omega)
 exact ⟨by omega, by omega, hr, this.1, this.2⟩
end Go.Proofs.YtpcamocnlnlgiaaGreat.S
namespace Go.Proofs.YtpcamocnlnlgiaaGreat.S
open Go.RowKit Go.Sd
def ElemAt (w : World) (ov : Value) (n i : Nat) (ev : Value) : Prop :=
 ∃ ob oo cap, ov = .slice (some ⟨ob, oo, none⟩) n cap ∧ n ≤ 9223372036854775807 ∧ i < n ∧ w.cell? ⟨ob, oo + i, none⟩ = some ev
theorem progProof1 (lv mv : Value) (s : Sea.S) (k : Nat) (fill nom u : Int) (w : World) (bo bd n : Nat) (ov ev : Value) (next : List Int) (hl : LookAt w lv mv s) (hk : k < s.days.length) (ok : Sea.Ok s)
    (b1 : 0 ≤ fill ∧ fill ≤ 100) (b2 : -100 ≤ nom ∧ nom ≤ 100) (b3 : -100 ≤ u ∧ u ≤ 100) (hi : 0 ≤ fill + nom + u) (hi2 : fill + nom + u < next.length)
    (hbd : -Sea.never ≤ Sea.at0 next (fill + nom + u).toNat ∧ Sea.at0 next (fill + nom + u).toNat ≤ Sea.never)
    (c0 : w.cell? ⟨bo, 0, none⟩ = some ov) (c1 : w.cell? ⟨bd, 0, none⟩ = some (.int .i64 k)) (he : ElemAt w ov n (k + 1) ev) (hv : IntsAt w ev next) (hn : n ≤ 100) :
    Calls Tryz.prog 65 #[ordV lv k fill nom u, .pointer (some ⟨bo, 0, none⟩), .pointer (some ⟨bd, 0, none⟩)] w fun e w' => e = .returned (.int .i64 (withOf s k fill nom next u)) ∧ Below w.heap.size w w' := by
 obtain ⟨ob, oo, cap, rfl, hm, hin, ce⟩ := he
 have hbo := World.block_lt_of_cell? w ⟨bo, 0, none⟩ c0
 have hbd2 := World.block_lt_of_cell? w ⟨bd, 0, none⟩ c1
 have hbe := World.block_lt_of_cell? w ⟨ob, oo + (k + 1), none⟩ ce
 simp only at hbo hbd2 hbe
 have hw : ∀ w1, Kc w w1 → Calls Tryz.prog 35 #[ordV lv k fill nom u, ev] w1 fun e w' => e = .returned (.int .i64 (withOf s k fill nom next u)) ∧ Below w1.heap.size w1 w' :=
  fun w1 h => progWith lv mv s k fill nom u w1 ev next (hl.kc h) hk ok b1 b2 b3 (hv.kc h) hi hi2 hbd
 clear hv hi hi2 hbd b1 b2 b3 ok hk hl
 have hin' : (k : Int) + 1 < (n : Int) := by omega
 go_enter Tryz.func65, Tryz.ntmps65
 go_wp2
 generalize hW : w.alloc (oBox _ k fill nom u) = W
 obtain ⟨hsz, hBw, q0, q1, q2, q3, q4⟩ := box_order hW
 clear hW
 have d0 := kept_cell hBw c0
 have d1 := kept_cell hBw c1
 have d2 := kept_cell hBw ce
 have hs := hBw.size
 have hbo' : bo < W.heap.size := by omega
 have hbd' : bd < W.heap.size := by omega
 have hbe' : ob < W.heap.size := by omega
 clear c0 c1 ce
 have hg := grow_cell W
 refine wp_region_grow (by kernel_rfl) (by kernel_rfl) ?_
 repeat (go_big_quiet_step ((first | (go_at_call 35; exact Calls.grow (hw _ (Kc.of (hBw.trans ((Grow.h _).mono hBw.size))))))))
 refine wpQuiet_nil ?_
 rintro _ ⟨g, rfl⟩
 go_wp2
 go_ret
 exact ⟨rfl, hBw.trans (g.h.mono hBw.size)⟩
end Go.Proofs.YtpcamocnlnlgiaaGreat.S
namespace Go.Proofs.YtpcamocnlnlgiaaGreat.S
open Go.RowKit Go.Sd
def IterAt (w : World) (v : Value) (lv : Value) (k : Nat) (fill nom : Int) : Prop :=
 ∃ n, v = .func (.func 66) #[] #[.pointer (some ⟨n, 0, none⟩), .pointer (some ⟨n + 1, 0, none⟩), .pointer (some ⟨n + 2, 0, none⟩)] ∧
  w.cell? ⟨n, 0, none⟩ = some lv ∧ w.cell? ⟨n + 1, 0, none⟩ = some (.int .i64 k) ∧ w.cell? ⟨n + 1, 1, none⟩ = some (.int .i64 fill) ∧ w.cell? ⟨n + 2, 0, none⟩ = some (.int .i64 nom)
theorem IterAt.mono {w w' : World} {v lv : Value} {k : Nat} {fill nom : Int} (h : IterAt w v lv k fill nom) (hb : Kc w w') : IterAt w' v lv k fill nom := by
 obtain ⟨n, rfl, h0, h1, h2, h3⟩ := h
 exact ⟨n, rfl, hb.cell _ _ _ h0, hb.cell _ _ _ h1, hb.cell _ _ _ h2, hb.cell _ _ _ h3⟩
theorem three_new {w W : World} {a b c : Obj} (h : ((w.alloc a).alloc b).alloc c = W) :
    W.heap[w.heap.size]? = some a ∧ W.heap[w.heap.size + 1]? = some b ∧ W.heap[w.heap.size + 2]? = some c ∧ W.heap.size = w.heap.size + 3 ∧ Below w.heap.size w W := by
 subst h
 have e1 := World.alloc_heap_new (w.alloc a) b
 have e2 := World.alloc_heap_new ((w.alloc a).alloc b) c
 simp only [World.size_alloc] at e1 e2
 refine ⟨?_, ?_, e2, by simp, ((((Below.refl _ _).alloc (Nat.le_refl _) _).alloc (by simp) _).alloc (by simp; omega) _)⟩
 · exact (Below.heap_alloc _ _ _ (by simp; omega)).trans ((Below.heap_alloc _ _ _ (by simp)).trans (World.alloc_heap_new w a))
 · exact (Below.heap_alloc _ _ _ (by simp)).trans e1
theorem progOrders (lp : Option Addr) (k : Nat) (fill nom : Int) (w : World) :
    Calls Tryz.prog 33 #[.pointer lp, .agg #[.int .i64 k, .int .i64 fill], .int .i64 nom] w fun e w' =>
     ∃ v, e = .returned v ∧ IterAt w' v (.pointer lp) k fill nom ∧ Below w.heap.size w w' := by
 go_enter Tryz.func33, Tryz.ntmps33
 go_wp2
 go_ret
 generalize hW : ((w.alloc _).alloc _).alloc _ = W
 obtain ⟨n0, n1, n2, -, hB⟩ := three_new hW
 exact ⟨_, rfl, ⟨w.heap.size, rfl, (row_cells n0).2.1 0, (row_cells n1).2.1 0, (row_cells n1).2.1 1, (row_cells n2).2.1 0⟩, hB⟩
theorem enter_iter : ∀ (args : Array Value) (w : World), (callFunc 66 args).run Tryz.prog w = .ok (.enter 66 args) w := fun _ _ => by kernel_rfl
theorem progFirstOrders (lv mv v : Value) (s : Sea.S) (k : Nat) (fill nom : Int) (num : Int → Int) (nf : Nat) (nb : Array Value) (w : World) (S : Nat → Prop) (Inv : World → Prop)
    (hl : LookAt w lv mv s) (hk : k < s.days.length) (ok : Sea.Ok s) (b1 : 0 ≤ fill ∧ fill ≤ 100) (b2 : -100 ≤ nom ∧ nom ≤ 100) (hv : IterAt w v lv k fill nom)
    (en : ∀ args w, (callFunc nf args).run Tryz.prog w = .ok (.enter nf args) w) (hS : ∀ b o v, w.cell? ⟨b, o, none⟩ = some v → S b) (hS2 : ∀ k, S k → k < w.heap.size)
    (h0 : Inv w) (hInv : ∀ X Y, Inv X → Below w.heap.size X Y → Inv Y)
    (hnum : ∀ u, u ∈ ordersOf s k fill nom → ∀ X, Kept S w X → w.heap.size ≤ X.heap.size → Inv X → Calls Tryz.prog nf (#[ordV lv k fill nom u] ++ nb) X fun e X' => e = .returned (.int .i64 (num u)) ∧ Kept (fun b => S b ∨ w.heap.size ≤ b) X X' ∧ Inv X') :
    Calls Tryz.prog 32 #[v, .func (.func nf) #[] nb] w fun e w' =>
     e = .returned (.tuple #[.agg (outC lv k fill nom (firstOf num (ordersOf s k fill nom)).2), .int .i64 (firstOf num (ordersOf s k fill nom)).1, .bool (decide ((firstOf num (ordersOf s k fill nom)).1 < Sea.never))]) ∧ Kept S w w' ∧ Inv w' := by
 obtain ⟨n, rfl, c0, c1, c2, c3⟩ := hv
 obtain ⟨lb, hlb⟩ : ∃ lp, lv = .pointer lp := by obtain ⟨b, _, _, h, _⟩ := hl; exact ⟨_, h⟩
 subst hlb
 exact progFirst lb k fill nom (ordersOf s k fill nom) num _ nf _ nb w S Inv enter_iter en
  (orders_yields mv s k fill nom w S _ n (n + 1) (n + 2) hl hk ok b1 b2 c0 c1 c2 c3 hS) hS2 h0 hInv hnum
theorem progFirstPlain (lv mv v : Value) (s : Sea.S) (k : Nat) (fill nom : Int) (num : Int → Int) (nf : Nat) (nb : Array Value) (w : World)
    (hl : LookAt w lv mv s) (hk : k < s.days.length) (ok : Sea.Ok s) (b1 : 0 ≤ fill ∧ fill ≤ 100) (b2 : -100 ≤ nom ∧ nom ≤ 100) (hv : IterAt w v lv k fill nom)
    (en : ∀ args w, (callFunc nf args).run Tryz.prog w = .ok (.enter nf args) w)
    (hnum : ∀ u, u ∈ ordersOf s k fill nom → ∀ X, Below w.heap.size w X → Calls Tryz.prog nf (#[ordV lv k fill nom u] ++ nb) X fun e X' => e = .returned (.int .i64 (num u)) ∧ Below X.heap.size X X') :
    Calls Tryz.prog 32 #[v, .func (.func nf) #[] nb] w fun e w' =>
     e = .returned (.tuple #[.agg (outC lv k fill nom (firstOf num (ordersOf s k fill nom)).2), .int .i64 (firstOf num (ordersOf s k fill nom)).1, .bool (decide ((firstOf num (ordersOf s k fill nom)).1 < Sea.never))]) ∧ Below w.heap.size w w' := by
 refine (progFirstOrders lv mv v s k fill nom num nf nb w (fun b => b < w.heap.size) (fun _ => True) hl hk ok b1 b2 hv en (fun b o v h => World.block_lt_of_cell? w ⟨b, o, none⟩ h) (fun _ h => h) trivial (fun _ _ _ _ => trivial) ?_).mono ?_
 · intro u hu X hX hs _
   refine (hnum u hu X (hX.below (Nat.le_refl _) fun _ h => h)).mono ?_
   rintro e X' ⟨he, hb⟩
   exact ⟨he, .all hb, trivial⟩
 · rintro e w' ⟨he, hk, -⟩
   exact ⟨he, hk.below (Nat.le_refl _) fun _ h => h⟩
end Go.Proofs.YtpcamocnlnlgiaaGreat.S
