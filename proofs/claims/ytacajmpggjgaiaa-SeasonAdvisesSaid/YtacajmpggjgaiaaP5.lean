/- Walks: the first of some orders for which a number is least. -/
import Derived.Test.YtacajmpggjgaiaaP4
set_option linter.unusedVariables false
set_option linter.unusedSimpArgs false
namespace Go.Proofs.Ytacajmpggjgaiaa
open Go.RowKit Go.Sd
attribute [local go_sem] Oper.semAt_some

theorem seqs_at {P : Program} {α : Type} {gf : Nat} {lb : Array Value} {encs : α → Array Value} {xs : List α} {S : Nat → Prop} {w w1 : World}
    (h : Seqs P gf lb encs xs S w) (hS : ∀ k, S k → k < w.heap.size) (hk : Kept S w w1) : Seqs P gf lb encs xs S w1 := by
  intro l J Jx W hKW hJ hJx hY h0
  refine h l J Jx W (hk.trans hKW) hJ hJx (fun pre x W1 hp hk1 hs hj => hY pre x W1 hp ?_ hs hj) h0
  exact ⟨hk1.os.trans hk.os.symm, hk1.tape.trans hk.tape.symm, hk1.output.trans hk.output.symm, Nat.le_trans hKW.size hs, fun k _ hs => (hk1.block k (hS k hs) hs).trans (hk.block k (hS k hs) hs).symm⟩

/-- One thing more. -/
def pick (num : Int → Int) (b : Int × Option Int) (u : Int) : Int × Option Int := if num u < b.1 then (num u, some u) else b
/-- The first of some orders for which a number is least. -/
def firstOf (num : Int → Int) (xs : List Int) : Int × Option Int := xs.foldl (pick num) (Sea.never, none)
theorem firstOf_snoc (num : Int → Int) (xs : List Int) (u : Int) : firstOf num (xs ++ [u]) = pick num (firstOf num xs) u := by simp [firstOf]

abbrev outC (lv : Value) (k : Nat) (fill nom : Int) : Option Int → Array Value
  | none => #[.pointer none, .int .i64 0, .int .i64 0, .int .i64 0, .int .i64 0]
  | some u => #[lv, .int .i64 k, .int .i64 fill, .int .i64 nom, .int .i64 u]

theorem set5 {w : World} {n : Nat} {a b c d f : Value} {e : TypeId} (h : w.heap[n]? = some (.cells #[a, b, c, d, f] e)) (a' b' c' d' f' : Value) :
    (((((w.setCell ⟨n, 0, none⟩ a').setCell ⟨n, 1, none⟩ b').setCell ⟨n, 2, none⟩ c').setCell ⟨n, 3, none⟩ d').setCell ⟨n, 4, none⟩ f').heap[n]? = some (.cells #[a', b', c', d', f'] e) := by
  simp only [World.setCell, Array.getElem?_modify, if_true, h]
  rfl
theorem set1 {w : World} {n : Nat} {a : Value} {e : TypeId} (h : w.heap[n]? = some (.cells #[a] e)) (a' : Value) : (w.setCell ⟨n, 0, none⟩ a').heap[n]? = some (.cells #[a'] e) := by
  simp only [World.setCell, Array.getElem?_modify, if_true, h]
  rfl
theorem set5_other {w : World} {n m : Nat} (a' b' c' d' f' : Value) (h : m ≠ n) :
    (((((w.setCell ⟨n, 0, none⟩ a').setCell ⟨n, 1, none⟩ b').setCell ⟨n, 2, none⟩ c').setCell ⟨n, 3, none⟩ d').setCell ⟨n, 4, none⟩ f').heap[m]? = w.heap[m]? := by
  rw [Below.heap_setCell _ _ _ _ h, Below.heap_setCell _ _ _ _ h, Below.heap_setCell _ _ _ _ h, Below.heap_setCell _ _ _ _ h, Below.heap_setCell _ _ _ _ h]
theorem set5_kept {S : Nat → Prop} {v w : World} {n : Nat} (hk : Kept S v w) (h : ¬ S n ∨ v.heap.size ≤ n) (a' b' c' d' f' : Value) :
    Kept S v (((((w.setCell ⟨n, 0, none⟩ a').setCell ⟨n, 1, none⟩ b').setCell ⟨n, 2, none⟩ c').setCell ⟨n, 3, none⟩ d').setCell ⟨n, 4, none⟩ f') :=
  ((((hk.setCell (p := ⟨n, 0, none⟩) h _).setCell (p := ⟨n, 1, none⟩) h _).setCell (p := ⟨n, 2, none⟩) h _).setCell (p := ⟨n, 3, none⟩) h _).setCell (p := ⟨n, 4, none⟩) h _

theorem out_cells (lp : Option Addr) (k : Nat) (fill nom : Int) (o : Option Int) : ∃ p a b c d, outC (.pointer lp) k fill nom o = #[.pointer p, .int .i64 a, .int .i64 b, .int .i64 c, .int .i64 d] := by
  cases o with
  | none => exact ⟨_, _, _, _, _, rfl⟩
  | some u => exact ⟨_, _, _, _, _, rfl⟩

theorem four_new {w W : World} {a b c d : Obj} (h : (((w.alloc a).alloc b).alloc c).alloc d = W) :
    W.heap[w.heap.size]? = some a ∧ W.heap[w.heap.size + 1]? = some b ∧ W.heap[w.heap.size + 1 + 1]? = some c ∧ W.heap[w.heap.size + 1 + 1 + 1]? = some d ∧ W.heap.size = w.heap.size + 4 ∧ Below w.heap.size w W := by
  subst h
  have e1 := World.alloc_heap_new (w.alloc a) b
  have e2 := World.alloc_heap_new ((w.alloc a).alloc b) c
  have e3 := World.alloc_heap_new (((w.alloc a).alloc b).alloc c) d
  simp only [World.size_alloc] at e1 e2 e3
  refine ⟨?_, ?_, ?_, e3, by simp, (((((Below.refl _ _).alloc (Nat.le_refl _) _).alloc (by simp) _).alloc (by simp; omega) _).alloc (by simp; omega) _)⟩
  · exact (Below.heap_alloc _ _ _ (by simp; omega)).trans ((Below.heap_alloc _ _ _ (by simp; omega)).trans ((Below.heap_alloc _ _ _ (by simp)).trans (World.alloc_heap_new w a)))
  · exact (Below.heap_alloc _ _ _ (by simp)).trans ((Below.heap_alloc _ _ _ (by simp)).trans e1)
  · exact (Below.heap_alloc _ _ _ (by simp)).trans e2

set_option maxRecDepth 100000 in
set_option maxHeartbeats 4000000 in
theorem progFirst (lp : Option Addr) (k : Nat) (fill nom : Int) (xs : List Int) (num : Int → Int) (gf nf : Nat) (lb nb : Array Value) (w : World) (S : Nat → Prop) (Inv : World → Prop)
    (eg : ∀ args w, (callFunc gf args).run Try.prog w = .ok (.enter gf args) w) (en : ∀ args w, (callFunc nf args).run Try.prog w = .ok (.enter nf args) w)
    (hseq : Seqs Try.prog gf lb (fun u : Int => #[ordV (.pointer lp) k fill nom u]) xs S w) (hS : ∀ k, S k → k < w.heap.size)
    (h0 : Inv w) (hInv : ∀ X Y, Inv X → Below w.heap.size X Y → Inv Y)
    (hnum : ∀ u, u ∈ xs → ∀ X, Kept S w X → w.heap.size ≤ X.heap.size → Inv X → Calls Try.prog nf (#[ordV (.pointer lp) k fill nom u] ++ nb) X fun e X' => e = .returned (.int .i64 (num u)) ∧ Kept (fun b => S b ∨ w.heap.size ≤ b) X X' ∧ Inv X') :
    Calls Try.prog 54 #[.func (.func gf) #[] lb, .func (.func nf) #[] nb] w fun e w' =>
      e = .returned (.tuple #[.agg (outC (.pointer lp) k fill nom (firstOf num xs).2), .int .i64 (firstOf num xs).1, .bool (decide ((firstOf num xs).1 < Sea.never))]) ∧ Kept S w w' ∧ Inv w' := by
  refine (callsIn_wide (n := 0)).1 ?_
  refine callsIn_of_wp_marks Try.func54 rfl trivial ?_
  simp only [Try.ntmps54, List.size_toArray, List.length_cons, List.length_nil, Nat.reduceAdd, Nat.reduceSub, Array.replicate_succ, Array.replicate_zero, List.push_toArray, List.append_toArray, List.nil_append, List.cons_append]
  gi_wp2
  generalize hW : (((w.alloc (Obj.cells #[Value.func (Fn.func nf) #[] nb] 99)).alloc _).alloc _).alloc _ = W
  obtain ⟨n0, n1, n2, n3, hsz, hB⟩ := four_new hW
  clear hW
  refine wp_rangeFunc (gf := gf) (lb := lb) rfl eg (seqs_at hseq hS (.all hB)) (fun k h => by have := hS k h; omega) (fun _ => rfl)
    (fun pre X => Inv X ∧ X.heap[w.heap.size]? = some (.cells #[.func (.func nf) #[] nb] 99) ∧ X.heap[w.heap.size + 1]? = some (.cells (outC (.pointer lp) k fill nom none) 93) ∧
      X.heap[w.heap.size + 1 + 1]? = some (.cells (outC (.pointer lp) k fill nom (firstOf num pre).2) 93) ∧ X.heap[w.heap.size + 1 + 1 + 1]? = some (.cells #[.int .i64 (firstOf num pre).1] 3))
    (fun _ _ => False) ?_ (fun _ _ _ h _ => h) ⟨hInv _ _ h0 hB, n0, n1, n2, n3⟩ ?_ ?_ (fun _ _ _ _ h => h.elim)
  · rintro pre X Y ⟨h1, h2, h3, h4, h5⟩ hb
    exact ⟨hInv _ _ h1 (hb.mono (by omega)), (hb.block _ (by omega)).trans h2, (hb.block _ (by omega)).trans h3, (hb.block _ (by omega)).trans h4, (hb.block _ (by omega)).trans h5⟩
  · rintro l pre u X hl1 hl2 hpre hkX ⟨h1, h2, h3, h4, h5⟩
    gi_wp2
    refine ⟨(Kept.refl _ _).alloc _, ?_⟩
    intro W2 hk2 hs2
    rw [World.size_alloc] at hs2
    have old : ∀ (b : Nat) (o : Obj), b < W.heap.size → X.heap[b]? = some o → W2.heap[b]? = some o := fun b o hb h =>
      (hk2.block b (by rw [World.size_alloc]; have := (Array.getElem?_eq_some_iff.1 h).1; omega) (by omega)).trans ((Below.heap_alloc _ _ _ (Array.getElem?_eq_some_iff.1 h).1).trans h)
    have g2 := old _ _ (by omega) h2
    have g3 := old _ _ (by omega) h3
    have g4 := old _ _ (by omega) h4
    have g5 := old _ _ (by omega) h5
    have gx : W2.heap[X.heap.size]? = some (oBox (.pointer lp) k fill nom u) := (hk2.block _ (by rw [World.size_alloc]; omega) (by omega)).trans (World.alloc_heap_new X _)
    have hbX2 : Below w.heap.size X W2 := ((Below.refl _ X).alloc (by omega) _).trans (hk2.below (by rw [World.size_alloc]; omega) (by intro k hk; omega))
    have hi2 := hInv _ _ h1 hbX2
    have hkw : Kept S w W2 := ((Kept.all hB).trans ⟨hkX.os, hkX.tape, hkX.output, hkX.size, fun k hk hs => hkX.block k hk hs⟩).trans (.of_below hbX2 fun k _ hs => hS k hs)
    have hc := hnum u (hpre.subset (by simp)) W2 hkw (by omega) hi2
    clear old h2 h3 h4 h5 h1 hk2
    obtain ⟨z2, d2, f2⟩ := row_cells g2
    obtain ⟨zx, dx, fx⟩ := row_cells gx
    have x0 := dx 0
    have x1 := dx 1
    have x2 := dx 2
    have x3 := dx 3
    have x4 := dx 4
    have y0 := d2 0
    simp only [oBox, List.getElem?_toArray, List.getElem?_cons_zero, List.getElem?_cons_succ] at x0 x1 x2 x3 x4 y0
    clear d2 dx f2 fx
    gi_wp2
    refine ⟨trivial, rfl, (CallsIn.inRound l (callsIn_wide.2 hc)).mono ?_⟩
    clear hc x0 x1 x2 x3 x4 y0
    rintro e W3 ⟨rfl, hk3, hi3⟩
    replace g2 := (hk3.block _ (Array.getElem?_eq_some_iff.1 g2).1 (.inr (by omega))).trans g2
    replace g3 := (hk3.block _ (Array.getElem?_eq_some_iff.1 g3).1 (.inr (by omega))).trans g3
    replace g4 := (hk3.block _ (Array.getElem?_eq_some_iff.1 g4).1 (.inr (by omega))).trans g4
    replace g5 := (hk3.block _ (Array.getElem?_eq_some_iff.1 g5).1 (.inr (by omega))).trans g5
    replace gx := (hk3.block _ (Array.getElem?_eq_some_iff.1 gx).1 (.inr (by omega))).trans gx
    have hk4 : Kept (fun b => S b ∨ W.heap.size ≤ b) W2 W3 := hk3.mono fun b _ h => h.imp id (by omega)
    have hsn := Lib.hid (firstOf_snoc num pre u)
    obtain ⟨p, oa, ob, oc, od, hout⟩ := out_cells lp k fill nom (firstOf num pre).2
    have g4' := g4
    rw [hout] at g4'
    replace hout := Lib.hid hout
    replace hkw := Lib.hid hkw
    have g3 := Lib.hid g3
    generalize hbb : (firstOf num pre).1 = best at *
    replace hbb := Lib.hid hbb
    obtain ⟨z4, d4, f4⟩ := row_cells g4'
    obtain ⟨z5, d5, f5⟩ := row_cells g5
    obtain ⟨zx, dx, fx⟩ := row_cells gx
    have x0 := dx 0
    have x1 := dx 1
    have x2 := dx 2
    have x3 := dx 3
    have x4 := dx 4
    have y0 := d4 0
    have y1 := d4 1
    have y2 := d4 2
    have y3 := d4 3
    have y4 := d4 4
    have y5 := d5 0
    simp only [oBox, List.getElem?_toArray, List.getElem?_cons_zero, List.getElem?_cons_succ] at x0 x1 x2 x3 x4 y0 y1 y2 y3 y4 y5
    clear d4 d5 dx fx
    by_cases hlt : num u < best
    · gi_wp2
      have hf : Hid (firstOf num (pre ++ [u]) = (num u, some u)) := by show _ = _; rw [hsn.out]; unfold pick; rw [hbb.out, if_pos hlt]
      have nin : ∀ n, w.heap.size ≤ n → n < W.heap.size → ¬ (S n ∨ W.heap.size ≤ n) := by
        rintro n h1 h2 (h | h)
        · have := hS _ h; omega
        · omega
      have k5 : Kept (fun b => S b ∨ W.heap.size ≤ b) W2 _ := (set5_kept (n := w.heap.size + 1 + 1) hk4 (.inl (nin (w.heap.size + 1 + 1) (by omega) (by omega))) (.pointer lp) (.int .i64 k) (.int .i64 fill) (.int .i64 nom) (.int .i64 u)).setCell (p := ⟨w.heap.size + 1 + 1 + 1, 0, none⟩) (.inl (nin (w.heap.size + 1 + 1 + 1) (by omega) (by omega))) (.int .i64 (num u))
      have b5 : Below w.heap.size W3 _ := (((((((Below.refl w.heap.size W3).setCell (p := ⟨w.heap.size + 1 + 1, 0, none⟩) (by simp; omega) (.pointer lp)).setCell (p := ⟨w.heap.size + 1 + 1, 1, none⟩) (by simp; omega) (.int .i64 k)).setCell (p := ⟨w.heap.size + 1 + 1, 2, none⟩) (by simp; omega) (.int .i64 fill)).setCell (p := ⟨w.heap.size + 1 + 1, 3, none⟩) (by simp; omega) (.int .i64 nom)).setCell (p := ⟨w.heap.size + 1 + 1, 4, none⟩) (by simp; omega) (.int .i64 u)).setCell (p := ⟨w.heap.size + 1 + 1 + 1, 0, none⟩) (by simp; omega) (.int .i64 (num u)))
      refine ⟨k5, hInv _ _ hi3 b5, ?_, ?_, ?_, ?_⟩
      · exact (Below.heap_setCell _ _ _ _ (by simp <;> omega)).trans ((set5_other _ _ _ _ _ (by omega)).trans g2)
      · exact (Below.heap_setCell _ _ _ _ (by simp <;> omega)).trans ((set5_other _ _ _ _ _ (by omega)).trans g3.out)
      · rw [hf.out]; exact (Below.heap_setCell _ _ _ _ (by simp)).trans (set5 g4' _ _ _ _ _)
      · rw [hf.out]; exact set1 ((set5_other _ _ _ _ _ (by omega)).trans g5) _
    · gi_wp2
      have hf : firstOf num (pre ++ [u]) = firstOf num pre := by rw [hsn.out]; unfold pick; rw [hbb.out, if_neg (by omega)]
      exact ⟨hk4, hi3, g2, g3.out, by rw [hf]; exact g4, by rw [hf, hbb.out]; exact g5⟩
  · rintro D X hD ⟨h1, h2, h3, h4, h5⟩ hkX hDX
    obtain ⟨p, oa, ob, oc, od, hout⟩ := out_cells lp k fill nom (firstOf num xs).2
    rw [hout] at h4
    replace hout := Lib.hid hout
    obtain ⟨z3, d3, f3⟩ := row_cells h3
    obtain ⟨z4, d4, f4⟩ := row_cells h4
    generalize hbb : (firstOf num xs).1 = best at h5
    replace hbb := Lib.hid hbb
    obtain ⟨z5, d5, f5⟩ := row_cells h5
    have := d4 0
    have := d4 1
    have := d4 2
    have := d4 3
    have := d4 4
    have := d3 0
    have := d3 1
    have := d3 2
    have := d3 3
    have := d3 4
    have := d5 0
    simp only [List.getElem?_toArray, List.getElem?_cons_zero, List.getElem?_cons_succ] at *
    gi_wp2
    refine wpIn_wide.2 ?_
    go_region
    gi_wp2
    have k6 := (set5_kept (S := S) (v := w) (w := X) (n := w.heap.size + 1) ((Kept.all hB).trans ⟨hkX.os, hkX.tape, hkX.output, hkX.size, fun k hk hs => hkX.block k hk hs⟩) (.inr (by omega)) (.pointer p) (.int .i64 oa) (.int .i64 ob) (.int .i64 oc) (.int .i64 od)).drew
    have b6 := (((((((Below.refl w.heap.size X).setCell (p := ⟨w.heap.size + 1, 0, none⟩) (by simp) (.pointer p)).setCell (p := ⟨w.heap.size + 1, 1, none⟩) (by simp) (.int .i64 oa)).setCell (p := ⟨w.heap.size + 1, 2, none⟩) (by simp) (.int .i64 ob)).setCell (p := ⟨w.heap.size + 1, 3, none⟩) (by simp) (.int .i64 oc)).setCell (p := ⟨w.heap.size + 1, 4, none⟩) (by simp) (.int .i64 od)).drew)
    have r6 := set5 h3 (.pointer p) (.int .i64 oa) (.int .i64 ob) (.int .i64 oc) (.int .i64 od)
    have D6 := (set5_other (w := X) (n := w.heap.size + 1) (m := D) (.pointer p) (.int .i64 oa) (.int .i64 ob) (.int .i64 oc) (.int .i64 od) (by omega)).trans hDX
    have dr : ∀ (V : World) (i : Nat), V.heap[i]? = V.drew.heap[i]? := fun _ _ => rfl
    rw [dr] at r6 D6
    generalize (((((X.setCell ⟨w.heap.size + 1, 0, none⟩ (.pointer p)).setCell ⟨w.heap.size + 1, 1, none⟩ (.int .i64 oa)).setCell ⟨w.heap.size + 1, 2, none⟩ (.int .i64 ob)).setCell ⟨w.heap.size + 1, 3, none⟩ (.int .i64 oc)).setCell ⟨w.heap.size + 1, 4, none⟩ (.int .i64 od)).drew = Y at k6 b6 r6 D6
    refine ⟨by simp, .inl ⟨_, _, rfl, run_takeDeferred D6, ?_⟩⟩
    have r7 : (Y.putObj D (.deferred none)).heap[w.heap.size + 1]? = _ := (World.putObj_heap_other (by omega)).trans r6
    have k7 : Kept S w (Y.putObj D (.deferred none)) := k6.putObj (.inr (by omega)) _
    have b7 : Below w.heap.size X (Y.putObj D (.deferred none)) := below_putObj b6 (by omega) _
    generalize Y.putObj D (.deferred none) = Z at r7 k7 b7
    obtain ⟨-, d, -⟩ := row_cells r7
    have g0 := d 0
    have g1 := d 1
    have g2 := d 2
    have g3 := d 3
    have g4 := d 4
    simp only [List.getElem?_toArray, List.getElem?_cons_zero, List.getElem?_cons_succ] at g0 g1 g2 g3 g4
    exact ⟨.tuple #[.agg #[.pointer p, .int .i64 oa, .int .i64 ob, .int .i64 oc, .int .i64 od], .int .i64 best, .bool (decide (best < 1000000000000000))],
      by simp [results, Try.results54, go_sem, g0, g1, g2, g3, g4], by rw [hout.out, hbb.out]; rfl, k7, hInv _ _ h1 b7⟩
end Go.Proofs.Ytacajmpggjgaiaa
