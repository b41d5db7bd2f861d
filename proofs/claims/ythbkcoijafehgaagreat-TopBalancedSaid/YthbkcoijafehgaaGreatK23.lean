/- Laws and walks: LGrp, LRea. -/
import Derived.MapKept
import Derived.Deep.RegionHeld3
import Derived.Test.YthbkcoijafehgaaGreatK22
set_option linter.unusedVariables false
set_option linter.unusedSimpArgs false
namespace Go.Proofs.YthbkcoijafehgaaGreat.L
open Go.RowKit Go.Sd Go.MapKept Lk
/-- The entries of a map: keys, values, stamps. -/
def ent (x : Int × Value × Nat) : MapEntry := ⟨.int .i64 x.1, x.2.1, x.2.2⟩
def ents (L : List (Int × Value × Nat)) : Array MapEntry := (L.map ent).toArray
def nilS : Value := .slice none 0 0
/-- The value at a key; a nil slice, where there is none. -/
def valOf : List (Int × Value × Nat) → Int → Value
  | [], _ => nilS
  | x :: L, k => if x.1 = k then x.2.1 else valOf L k
def updL : List (Int × Value × Nat) → Int → Value → Nat → List (Int × Value × Nat)
  | [], k, v, c => [(k, v, c)]
  | x :: L, k, v, c => if x.1 = k then (k, v, x.2.2) :: L else x :: updL L k v c
def hasL : List (Int × Value × Nat) → Int → Bool
  | [], _ => false
  | x :: L, k => decide (x.1 = k) || hasL L k
theorem valOf_upd (k k' : Int) (v : Value) (c : Nat) : ∀ L, valOf (updL L k v c) k' = if k' = k then v else valOf L k'
  | [] => by
    simp only [updL, valOf]
    by_cases h : k' = k
    · simp [h]
    · simp [h, Ne.symm h]
  | x :: L => by
    simp only [updL]
    by_cases hx : x.1 = k
    · simp only [hx, if_true, valOf]
      by_cases h : k' = k
      · simp [h]
      · simp [h, Ne.symm h]
    · simp only [hx, if_false, valOf]
      by_cases h : x.1 = k'
      · simp only [h, if_true]
        rw [if_neg (by rintro rfl; exact hx h)]
      · simp only [h, if_false]
        exact valOf_upd k k' v c L
theorem findNow_not {k : Int} : ∀ (L : List (Int × Value × Nat)) (i : Nat), hasL L k = false → Instr.findNow (.int .i64) (.int .i64 k) (L.map ent) i = some none ∧ valOf L k = nilS ∧ ∀ v c, updL L k v c = L ++ [(k, v, c)]
  | [], i, _ => ⟨rfl, rfl, fun _ _ => rfl⟩
  | x :: L, i, h => by
    simp only [hasL, Bool.or_eq_false_iff, decide_eq_false_iff_not] at h
    obtain ⟨h1, h2, h3⟩ := findNow_not L (i + 1) h.2
    refine ⟨?_, ?_, fun v c => ?_⟩
    · have : (k == x.1) = false := by simpa using Ne.symm h.1
      simp only [List.map_cons, Instr.findNow, ent, Instr.sameNow, if_true, this]
      exact h1
    · simp [valOf, h.1, h2]
    · simp [updL, h.1, h3]
theorem findNow_has {k : Int} : ∀ (L : List (Int × Value × Nat)) (i : Nat), hasL L k = true → ∃ j, Instr.findNow (.int .i64) (.int .i64 k) (L.map ent) i = some (some (i + j, valOf L k)) ∧ (∃ e, (L.map ent)[j]? = some e ∧ e.key = .int .i64 k) ∧
    ∀ v c, (updL L k v c).map ent = (L.map ent).modify j fun e => { e with key := .int .i64 k, val := v }
  | [], i, h => by cases h
  | x :: L, i, h => by
    by_cases hx : x.1 = k
    · refine ⟨0, ?_, ⟨_, rfl, by simp [ent, hx]⟩, fun v c => ?_⟩
      · simp [Instr.findNow, ent, Instr.sameNow, hx, valOf]
      · simp [updL, hx, ent]
    · have h2 : hasL L k = true := by simpa [hasL, hx] using h
      obtain ⟨j, h1, ⟨e, h3, h4⟩, h5⟩ := findNow_has L (i + 1) h2
      refine ⟨j + 1, ?_, ⟨e, h3, h4⟩, fun v c => ?_⟩
      · have : (k == x.1) = false := by simpa using Ne.symm hx
        simp only [List.map_cons, Instr.findNow, ent, Instr.sameNow, if_true, this]
        rw [show i + (j + 1) = i + 1 + j by omega]
        have hv : valOf (x :: L) k = valOf L k := by simp [valOf, hx]
        rw [hv]
        exact h1
      · simp only [updL, hx, if_false, List.map_cons, h5, List.modify_succ_cons]
theorem key_int : Tryz.prog.underlying 3 = some (.int .i64) := by kernel_rfl
theorem zero_sps (w : World) : (zeroValue 43).run Tryz.prog w = .ok nilS w := by kernel_rfl
/-- A look-up. -/
theorem look_run {w : World} {M : Nat} {L : List (Int × Value × Nat)} {clock : Nat} (h : w.heap[M]? = some (.map (ents L) clock)) (k : Int) :
    (Instr.lookup 144 (.map (some M)) (.int .i64 k) false).run Tryz.prog w = .ok (valOf L k) w := by
  have h1 := fun e => run_checkKey (P := Tryz.prog) (w := w) key_int (k := .int .i64 k) (by simp [IsKey]) e 9999
  cases hh : hasL L k
  · obtain ⟨h2, h3, -⟩ := findNow_not L 0 hh
    have h4 := run_findKey (P := Tryz.prog) (w := w) key_int (k := .int .i64 k) (l := (ents L).toList) (a := none) (by simpa [ents] using h2)
    simp [Instr.lookup, run_underlying Tryz.underlying144, Sem.run_bind, getObj, Sem.run, h, Result.andThen, h1, h4, h3]
    have := zero_sps w
    simp [Sem.run] at this
    simp [this]
  · obtain ⟨j, h2, -, -⟩ := findNow_has L 0 hh
    have h4 := run_findKey (P := Tryz.prog) (w := w) key_int (k := .int .i64 k) (l := (ents L).toList) (a := some (0 + j, valOf L k)) (by simpa [ents] using h2)
    simp [Instr.lookup, run_underlying Tryz.underlying144, Sem.run_bind, getObj, Sem.run, h, Result.andThen, h1, h4]
/-- A store. -/
theorem upd_run {w : World} {M : Nat} {L : List (Int × Value × Nat)} {clock : Nat} (h : w.heap[M]? = some (.map (ents L) clock)) (k : Int) (v : Value) :
    (Instr.mapUpdate 144 (.map (some M)) (.int .i64 k) v).run Tryz.prog w = .ok () (w.putObj M (.map (ents (updL L k v clock)) (if hasL L k = true then clock else clock + 1))) := by
  have h1 := fun e => run_checkKey (P := Tryz.prog) (w := w) key_int (k := .int .i64 k) (by simp [IsKey]) e 9999
  cases hh : hasL L k
  · obtain ⟨h2, -, h3⟩ := findNow_not L 0 hh
    have h4 := run_findKey (P := Tryz.prog) (w := w) key_int (k := .int .i64 k) (l := (ents L).toList) (a := none) (by simpa [ents] using h2)
    have h5 : (ents L).push { key := .int .i64 k, val := v, born := clock } = ents (updL L k v clock) := by rw [h3]; simp [ents, ent]
    simp [Instr.mapUpdate, run_underlying Tryz.underlying144, Sem.run_bind, getObj, setObj, Sem.run, h, Result.andThen, h1, h4, World.putObj, h5]
  · obtain ⟨j, h2, ⟨e, he, hk⟩, h3⟩ := findNow_has L 0 hh
    have h4 := run_findKey (P := Tryz.prog) (w := w) key_int (k := .int .i64 k) (l := (ents L).toList) (a := some (0 + j, valOf L k)) (by simpa [ents] using h2)
    have h5 : (ents L).modify j (fun e => { e with key := .int .i64 k, val := v }) = ents (updL L k v clock) := by
      apply Array.ext'
      simp [ents, h3]
    have he' : (ents L)[j]? = some e := by simpa [ents] using he
    have h6 := run_keyThatStays (d := .int .i64) (P := Tryz.prog) (w := w) (k := .int .i64 k) (by simp [IsKey])
    simp [Instr.mapUpdate, run_underlying Tryz.underlying144, Sem.run_bind, getObj, setObj, Sem.run, h, Result.andThen, h1, h4, World.putObj, he', hk, h6, h5]
/-- A map of one's own, in block M, whose slices of spans lie from block B on, each in a row of its own. -/
structure GrpL (B M : Nat) (w : World) (f : Int → List Sp) (L : List (Int × Value × Nat)) (clock : Nat) : Prop where
  heap : w.heap[M]? = some (.map (ents L) clock)
  own : ∀ k, OwnSps B w (valOf L k) (f k)
  apart : ∀ k k', k ≠ k' → (valOf L k).ownBlock = none ∨ (valOf L k).ownBlock ≠ (valOf L k').ownBlock
def OwnGrp (B M : Nat) (w : World) (f : Int → List Sp) : Prop := ∃ L clock, GrpL B M w f L clock
theorem GrpL.kept {S : Nat → Prop} {B M : Nat} {w w' : World} {f : Int → List Sp} {L : List (Int × Value × Nat)} {c : Nat} (h : GrpL B M w f L c) (hk : Kept S w w') (hM : S M) (hs : ∀ k, B ≤ k → S k) : GrpL B M w' f L c :=
  ⟨(hk.block M (Array.getElem?_eq_some_iff.1 h.heap).1 hM).trans h.heap, fun k => (h.own k).keptS hk hs, h.apart⟩
theorem GrpL.mono {B M : Nat} {w w' : World} {f : Int → List Sp} {L : List (Int × Value × Nat)} {c : Nat} (h : GrpL B M w f L c) (hb : Below w.heap.size w w') : GrpL B M w' f L c :=
  ⟨kept_block hb h.heap, fun k => (h.own k).mono hb, h.apart⟩
theorem OwnGrp.kept {S : Nat → Prop} {B M : Nat} {w w' : World} {f : Int → List Sp} (h : OwnGrp B M w f) (hk : Kept S w w') (hM : S M) (hs : ∀ k, B ≤ k → S k) : OwnGrp B M w' f := let ⟨L, c, h⟩ := h; ⟨L, c, h.kept hk hM hs⟩
theorem OwnGrp.mono {B M : Nat} {w w' : World} {f : Int → List Sp} (h : OwnGrp B M w f) (hb : Below w.heap.size w w') : OwnGrp B M w' f := let ⟨L, c, h⟩ := h; ⟨L, c, h.mono hb⟩
theorem GrpL.made (B : Nat) (w : World) : GrpL B w.heap.size (w.alloc (.map #[] 0)) (fun _ => []) [] 0 :=
  ⟨World.alloc_heap_new w _, fun _ => OwnSt.nil _ _ _ _ _, fun _ _ _ => .inl rfl⟩
/-- Behind 'm[k] = append(m[k], y)'. -/
theorem GrpL.more {B M : Nat} {w w1 : World} {f : Int → List Sp} {L : List (Int × Value × Nat)} {c : Nat} (h : GrpL B M w f L c) (k : Int) (y : Sp) {v' : Value} (hg : w.grownBy w1 (valOf L k).ownBlock) (ho : OwnSps B w1 v' (f k ++ [y]))
    (hat : v'.ownBlock = (valOf L k).ownBlock ∨ ∃ m, v'.ownBlock = some m ∧ w.heap.size ≤ m) (c' : Nat) :
    GrpL B M (w1.putObj M (.map (ents (updL L k v' c)) c')) (fun x => if x = k then f k ++ [y] else f x) (updL L k v' c) c' := by
  have hMlt := (Array.getElem?_eq_some_iff.1 h.heap).1
  have hM : ∀ x, (valOf L x).ownBlock ≠ some M := fun x e => by
    obtain ⟨cs, hc⟩ := (h.own x).cellsRow M e
    rw [h.heap] at hc; cases hc
  have h1M : w1.heap[M]? = some (.map (ents L) c) := (hg.block M hMlt (Ne.symm (hM k))).trans h.heap
  have hput : w1.grownBy (w1.putObj M (.map (ents (updL L k v' c)) c')) (some M) := ⟨rfl, rfl, rfl, by rw [World.putObj_size]; exact Nat.le_refl _, fun i _ hi => World.putObj_heap_other (fun e => hi (by rw [e]))⟩
  have hvM : v'.ownBlock ≠ some M := by
    rcases hat with e | ⟨m, e, hm⟩
    · rw [e]; exact hM k
    · rw [e]; intro h'; cases h'; omega
  have away : ∀ x, x ≠ k → (valOf L x).ownBlock = none ∨ (valOf L x).ownBlock ≠ v'.ownBlock := fun x hx => by
    rcases hat with e | ⟨m, e, hm⟩
    · rw [e]; exact h.apart x k hx
    · rw [e]
      cases hq : (valOf L x).ownBlock with
      | none => exact .inl rfl
      | some q => exact .inr (by have := ((h.own x).lt q hq).2; intro h'; cases h'; omega)
  refine ⟨World.putObj_heap_same (Array.getElem?_eq_some_iff.1 h1M).1, fun x => ?_, fun x x' hxx => ?_⟩
  · rw [valOf_upd]
    by_cases hx : x = k
    · simp only [hx, if_true]
      exact ho.kept hput (.inr hvM)
    · simp only [hx, if_false]
      exact ((h.own x).kept hg (h.apart x k hx)).kept hput (.inr (hM x))
  · rw [valOf_upd, valOf_upd]
    by_cases hx : x = k
    · by_cases hx' : x' = k
      · exact absurd (hx.trans hx'.symm) hxx
      · simp only [hx, hx', if_true, if_false]
        rcases away x' hx' with e | e
        · rw [e]
          cases hq : v'.ownBlock with
          | none => exact .inl rfl
          | some q => exact .inr (by simp)
        · exact .inr (Ne.symm e)
    · by_cases hx' : x' = k
      · simp only [hx, hx', if_true, if_false]; exact away x hx
      · simp only [hx, hx', if_false]; exact h.apart x x' hxx
theorem OwnGrp.from {B B' M : Nat} {w : World} {f : Int → List Sp} (h : OwnGrp B M w f) (hB : B' ≤ B) : OwnGrp B' M w f := let ⟨L, c, h⟩ := h; ⟨L, c, h.heap, fun k => (h.own k).from hB, h.apart⟩
/-- A store into a block of another type. -/
theorem OwnGrp.setc {B M n : Nat} {w : World} {f : Int → List Sp} {cs : Array Value} {t : TypeId} (h : OwnGrp B M w f) (hn : w.heap[n]? = some (.cells cs t (0, 0))) (ht : t ≠ 23) (i : Nat) (v : Value) : OwnGrp B M (w.setCell ⟨n, i, none⟩ v) f := by
  obtain ⟨L, c, h⟩ := h
  refine ⟨L, c, (Below.heap_setCell _ _ _ _ (fun e => ?_)).trans h.heap, fun k => (h.own k).same fun x hx => Below.heap_setCell _ _ _ _ (fun e => ?_), h.apart⟩
  · have e' : M = n := e
    rw [← e', h.heap] at hn; cases hn
  · have e' : x = n := e
    obtain ⟨cs', hc⟩ := (h.own k).cellsRow x hx
    rw [e', hn] at hc
    cases hc
    exact ht rfl
end Go.Proofs.YthbkcoijafehgaaGreat.L
set_option linter.unusedVariables false
set_option linter.unusedSimpArgs false
namespace Lk
def Bk.readsTo (b : Bk) (z d : Int) (k : Nat) : List Sp := ((b.reads.take k).filter fun r => decide (r.zone = z) && decide (r.day = d)).map (·.v)
theorem readsTo_all {b : Bk} {z d : Int} : b.readsTo z d b.reads.length = b.readsAt z d := by unfold Bk.readsTo Bk.readsAt; rw [List.take_length]
theorem readsTo_succ {b : Bk} {z d : Int} {k : Nat} (h : k < b.reads.length) : b.readsTo z d (k + 1) = if (rdAt b.reads k).zone = z ∧ (rdAt b.reads k).day = d then b.readsTo z d k ++ [(rdAt b.reads k).v] else b.readsTo z d k := by
  have e : rdAt b.reads k = b.reads[k] := by simp [rdAt, h]
  unfold Bk.readsTo
  rw [List.take_succ_eq_append_getElem h, List.filter_append, List.map_append, e]
  by_cases h1 : b.reads[k].zone = z <;> by_cases h2 : b.reads[k].day = d <;> simp [h1, h2]
theorem readsTo_skip {b : Bk} {z : Int} {k : Nat} (h : k < b.reads.length) (hz : ¬ (rdAt b.reads k).zone = z) : (fun d => b.readsTo z d (k + 1)) = fun d => b.readsTo z d k := by
  funext d; rw [readsTo_succ h, if_neg (fun h => hz h.1)]
theorem readsTo_take {b : Bk} {z : Int} {k : Nat} (h : k < b.reads.length) (hz : (rdAt b.reads k).zone = z) : (fun d => b.readsTo z d (k + 1)) = fun d => if d = (rdAt b.reads k).day then b.readsTo z (rdAt b.reads k).day k ++ [(rdAt b.reads k).v] else b.readsTo z d k := by
  funext d
  rw [readsTo_succ h]
  by_cases hd : (rdAt b.reads k).day = d
  · rw [if_pos ⟨hz, hd⟩, if_pos hd.symm, hd]
  · rw [if_neg (fun h => hd h.2), if_neg (Ne.symm hd)]
theorem readsTo_len {b : Bk} {z d : Int} {k : Nat} : (b.readsTo z d k).length ≤ b.reads.length := by
  unfold Bk.readsTo
  rw [List.length_map]
  exact Nat.le_trans (List.length_filter_le ..) (by rw [List.length_take]; omega)
end Lk
namespace Go.Proofs.YthbkcoijafehgaaGreat.L
open Go.RowKit Go.Sd Lk
set_option maxRecDepth 100000 in
set_option maxHeartbeats 4000000 in
theorem progRead (fv wv rv : Value) (b : Bk) (z : Int) (w : World) (hb : BookAt w fv wv rv b) (hlen : b.reads.length ≤ 1000) :
    Calls Tryz.prog 80 #[bkV fv wv rv, .int .i64 z] w fun e w' => e = .returned (.map (some (w.heap.size + 1))) ∧ OwnGrp w.heap.size (w.heap.size + 1) w' (fun d => b.readsAt z d) ∧ Below w.heap.size w w' := by
  obtain ⟨W, hW⟩ : ∃ W, (w.alloc (bkO fv wv rv)).alloc (.map #[] 0) = W := ⟨_, rfl⟩
  obtain ⟨e0, e1, s0, b0⟩ := two_new hW
  have hG0 : GrpL w.heap.size (w.heap.size + 1) W (fun _ => []) [] 0 := ⟨e1, fun _ => OwnSt.nil _ _ _ _ _, fun _ _ _ => .inl rfl⟩
  obtain ⟨ra, rc, rfl, hrm, hx⟩ := hb.reads.form
  have hx2 := Lib.hid hx
  have hmm := @run_makeMap Tryz.prog
  clear hx hb
  have hR0 : Hid (OwnGrp w.heap.size (w.heap.size + 1) W (fun d => b.readsTo z d 0) ∧ W.heap[w.heap.size]? = some (bkO fv wv (.slice ra b.reads.length rc)) ∧ Below w.heap.size w W) := Lib.hid ⟨⟨_, _, hG0⟩, e0, b0⟩
  obtain ⟨q0, q1, q2⟩ := rc3 e0
  clear hG0 e1 e0 s0 b0
  go_enter Tryz.func80, Tryz.ntmps80
  go_wp2
  go_loopw [13] (fun i wr => ∃ k : Nat, k ≤ b.reads.length ∧ i = .int .i64 k ∧ Hid (OwnGrp w.heap.size (w.heap.size + 1) wr (fun d => b.readsTo z d k) ∧ wr.heap[w.heap.size]? = some (bkO fv wv (.slice ra b.reads.length rc)) ∧ Below w.heap.size w wr)) (fun i _ => b.reads.length - (intOf i).toNat)
  case atStart => exact ⟨0, by omega, rfl, hR0⟩
  case round =>
    obtain ⟨k, hk, rfl, hH⟩ := hrel
    obtain ⟨⟨L, c, hG⟩, hbk, hB⟩ := hH.out
    clear hH hR0 q0 q1 q2 hW
    obtain ⟨q0, q1, q2⟩ := rc3 hbk
    have hzb := (Array.getElem?_eq_some_iff.1 hbk).1
    by_cases hkl : k < b.reads.length
    · obtain ⟨rb, off, rfl, hrb, hx⟩ := hx2.out (by omega)
      have x0 : wr.cell? ⟨rb, off + k * 4, none⟩ = some (.int .i64 (rdAt b.reads k).day) := kept_cell hB (hx k 0 _ hkl rfl)
      have x1 : wr.cell? ⟨rb, off + k * 4 + 1, none⟩ = some (.int .i64 (rdAt b.reads k).zone) := kept_cell hB (hx k 1 _ hkl rfl)
      have x2 : wr.cell? ⟨rb, off + k * 4 + 2, none⟩ = some (.int .i64 (rdAt b.reads k).v.lo) := kept_cell hB (hx k 2 _ hkl rfl)
      have x3 : wr.cell? ⟨rb, off + k * 4 + 3, none⟩ = some (.int .i64 (rdAt b.reads k).v.hi) := kept_cell hB (hx k 3 _ hkl rfl)
      have hlt : (k : Int) < (b.reads.length : Int) := by omega
      have hskip := Lib.hid (readsTo_skip (b := b) (z := z) hkl)
      have htake := Lib.hid (readsTo_take (b := b) (z := z) hkl)
      clear hx
      generalize rdAt b.reads k = r at *
      obtain ⟨V, hV⟩ : ∃ V, wr.alloc (rdO r) = V := ⟨_, rfl⟩
      obtain ⟨g0, hBV, sV⟩ := boxed hV
      have hGV := Lib.hid (hG.mono hBV)
      have hbkV := Lib.hid (kept_block hBV hbk)
      have hBwV := Lib.hid (hB.trans (hBV.mono hB.size))
      by_cases hz : r.zone = z
      · have hz' : Hid (r.zone = z) := hz
        have hlz : (r.zone == z) = true := by simpa using hz
        clear hz hskip
        obtain ⟨r0, r1, r2, r3⟩ := rc4 g0
        have zn := (Array.getElem?_eq_some_iff.1 g0).1
        have hlk : ∀ w1 : World, w1.heap[w.heap.size + 1]? = some (.map (ents L) c) → (Instr.lookup 144 (.map (some (w.heap.size + 1))) (.int .i64 r.day) false).run Tryz.prog w1 = .ok (valOf L r.day) w1 := fun w1 h => look_run h _
        obtain ⟨vv, hvv⟩ : ∃ vv, valOf L r.day = vv := ⟨_, rfl⟩
        have HG := Lib.hid hGV.out
        have hvo := hGV.out.own r.day
        rw [hvv] at hvo
        have HoH := Lib.hid hvo
        have hbne : vv.ownBlock ≠ some (w.heap.size + 1) := fun e => by
          obtain ⟨cs, hc⟩ := hvo.cellsRow _ e
          rw [hGV.out.heap] at hc; cases hc
        have hvn : ∀ i, vv.ownBlock = some i → i ≠ wr.heap.size := fun i e => by
          have := hG.own r.day
          rw [hvv] at this
          have := (this.lt i e).2
          omega
        have hnn : vv.ownBlock ≠ some wr.heap.size := fun e => hvn _ e rfl
        have hbn2 : vv.ownBlock ≠ some w.heap.size := fun e => by
          have := hG.own r.day
          rw [hvv] at this
          obtain ⟨cs, hc⟩ := this.cellsRow _ e
          rw [hbk] at hc
          have := congrArg (fun o => match o with | some (Obj.cells _ t _) => t | _ => 0) hc
          simp at this
        have hll : (b.readsTo z r.day k).length ≤ 1000 := Nat.le_trans readsTo_len hlen
        have hMne : wr.heap.size ≠ w.heap.size + 1 := fun e => by
          have := (Array.getElem?_eq_some_iff.1 hG.heap).1
          omega
        have zM := (Array.getElem?_eq_some_iff.1 hGV.out.heap).1
        have zB : w.heap.size ≤ V.heap.size := hBwV.out.size
        have hm0 : V.heap[w.heap.size + 1]? = some (.map (ents L) c) := hGV.out.heap
        rw [hvv] at hlk
        have hun : ∀ (w1 : World) (v : Value), w1.heap[w.heap.size + 1]? = some (.map (ents L) c) → (Instr.mapUpdate 144 (.map (some (w.heap.size + 1))) (.int .i64 r.day) v).run Tryz.prog w1 = .ok () (w1.putObj (w.heap.size + 1) (.map (ents (updL L r.day v c)) (if hasL L r.day = true then c else c + 1))) := fun w1 v h => upd_run h _ _
        obtain ⟨c2, hc2⟩ : ∃ c2, (if hasL L r.day = true then c else c + 1) = c2 := ⟨_, rfl⟩
        rw [hc2] at hun
        replace hvv := Lib.hid hvv
        have Hn := Lib.hid hG
        generalize hl0 : b.readsTo z r.day k = l0 at *
        replace hl0 := Lib.hid hl0
        have hbkV := hbkV
        clear hBV hG hbk hB hvo g0 hc2 q0 q1 q2 sV hvn
        go_wp2
        clear hV
        have kx : ∀ (o : Obj) (b off : Nat) (v : Value), V.cell? ⟨b, off, none⟩ = some v → (V.alloc o).drew.cell? ⟨b, off, none⟩ = some v := fun o b off v h => kept_cell (((Below.refl _ _).alloc (Nat.le_refl _) o).drew) h
        have kh : ∀ (o : Obj) (n : Nat) (u : Obj), V.heap[n]? = some u → (V.alloc o).drew.heap[n]? = some u := fun o n u h => kept_block (((Below.refl _ _).alloc (Nat.le_refl _) o).drew) h
        have hBd : Below V.heap.size V V.drew := (Below.refl _ _).drew
        have hl1 : l0.length + 1 ≤ maxLen := by unfold maxLen; omega
        have hl2 : (l0.length + 1) * 16 ≤ 140737488355328 := by omega
        obtain ⟨i0, hi0, hz0, hz1, hz2⟩ := info_parts infoSp
        have hmd : V.drew.heap[w.heap.size + 1]? = some (.map (ents L) c) := hm0
        have hma : ∀ o : Obj, (V.alloc o).drew.heap[w.heap.size + 1]? = some (.map (ents L) c) := fun o => kh _ _ _ hm0
        refine wp_region_held_drew (S := (fun w' => w'.cell? ⟨wr.heap.size, 0, none⟩ = some (.int .i64 r.day) ∧ w'.cell? ⟨wr.heap.size, 2, none⟩ = some (.int .i64 r.v.lo) ∧ w'.cell? ⟨wr.heap.size, 3, none⟩ = some (.int .i64 r.v.hi))) (by kernel_rfl) ?_ (fun hHeld => ?_)
        · first | (first | exact ⟨hd0 _, hd2 _, hd3 _⟩ | exact ⟨hc0, hc2, hc3⟩ | exact ⟨kx _ _ _ _ r0, kx _ _ _ _ r2, kx _ _ _ _ r3⟩ | exact ⟨kept_cell hBd r0, kept_cell hBd r2, kept_cell hBd r3⟩) | (dsimp only; (first | exact ⟨hd0 _, hd2 _, hd3 _⟩ | exact ⟨hc0, hc2, hc3⟩ | exact ⟨kx _ _ _ _ r0, kx _ _ _ _ r2, kx _ _ _ _ r3⟩ | exact ⟨kept_cell hBd r0, kept_cell hBd r2, kept_cell hBd r3⟩))
        refine wpAnyH_take (i := 0) (v := ?_) rfl (by kernel_rfl) (by kernel_rfl) (by kernel_rfl) (fun _ _ _ h => h) (Or.inl ⟨by rfl, ?_⟩) (by assumption) ?_
        rotate_left
        · intro w hSw; (try dsimp only at hSw); go_simp; (try with_reducible rfl)
        try simp only [Act.put, List.setIfInBounds_toArray, List.set_cons_zero, List.set_cons_succ]
        refine wpAnyH_take (i := 1) (v := ?_) rfl (by kernel_rfl) (by kernel_rfl) (by kernel_rfl) (fun _ _ _ h => h) (Or.inl ⟨by rfl, ?_⟩) (by assumption) ?_
        rotate_left
        · intro w hSw; (try dsimp only at hSw); go_simp; (try with_reducible rfl)
        try simp only [Act.put, List.setIfInBounds_toArray, List.set_cons_zero, List.set_cons_succ]
        refine wpAnyH_take (i := 2) (v := ?_) rfl (by kernel_rfl) (by kernel_rfl) (by kernel_rfl) (fun _ _ _ h => h) (Or.inl ⟨by rfl, ?_⟩) (by assumption) ?_
        rotate_left
        · intro w hSw; (try dsimp only at hSw); go_simp; (try with_reducible rfl)
        try simp only [Act.put, List.setIfInBounds_toArray, List.set_cons_zero, List.set_cons_succ]
        refine wpAnyH_take (i := 3) (v := ?_) rfl (by kernel_rfl) (by kernel_rfl) (by kernel_rfl) (fun _ _ _ h => h) (Or.inl ⟨by rfl, ?_⟩) (by assumption) ?_
        rotate_left
        · intro w hSw; (try dsimp only at hSw); go_simp; (try with_reducible rfl)
        try simp only [Act.put, List.setIfInBounds_toArray, List.set_cons_zero, List.set_cons_succ]
        refine wpAnyH_take (i := 4) (v := ?_) rfl (by kernel_rfl) (by kernel_rfl) (by kernel_rfl) (fun _ _ _ h => h) (Or.inl ⟨by rfl, ?_⟩) (by assumption) ?_
        rotate_left
        · intro w hSw; (try dsimp only at hSw); go_simp; (try with_reducible rfl)
        try simp only [Act.put, List.setIfInBounds_toArray, List.set_cons_zero, List.set_cons_succ]
        refine wpAnyH_take (i := 5) (v := ?_) rfl (by kernel_rfl) (by kernel_rfl) (by kernel_rfl) (fun _ _ _ h => h) (Or.inl ⟨by rfl, ?_⟩) (by assumption) ?_
        rotate_left
        · intro w hSw; (try dsimp only at hSw); go_simp; (try with_reducible rfl)
        try simp only [Act.put, List.setIfInBounds_toArray, List.set_cons_zero, List.set_cons_succ]
        refine wpAnyH_take (i := 7) (v := ?_) rfl (by kernel_rfl) (by kernel_rfl) (by kernel_rfl) (fun _ _ _ h => h) (Or.inl ⟨by rfl, ?_⟩) (by assumption) ?_
        rotate_left
        · intro w hSw; (try dsimp only at hSw); go_simp; (try with_reducible rfl)
        try simp only [Act.put, List.setIfInBounds_toArray, List.set_cons_zero, List.set_cons_succ]
        refine wpAnyH_take (i := 8) (v := ?_) rfl (by kernel_rfl) (by kernel_rfl) (by kernel_rfl) (fun _ _ _ h => h) (Or.inl ⟨by rfl, ?_⟩) (by assumption) ?_
        rotate_left
        · intro w hSw; (try dsimp only at hSw); go_simp; (try with_reducible rfl)
        try simp only [Act.put, List.setIfInBounds_toArray, List.set_cons_zero, List.set_cons_succ]
        refine wpAnyH_ready (rs := [6, 9]) (by kernel_rfl) (by simp) ?_
        refine AllReadyH.cons rfl (fun K hK => ?wayA8171_1) (AllReadyH.cons rfl (fun K hK => ?wayB8171_1) AllReadyH.nil)
        case' wayA8171_1 =>
          go_simp
          refine hK.out _ _ ?_ (fun hNow => ?_)
          · first | (first | exact ⟨hd0 _, hd2 _, hd3 _⟩ | exact ⟨hc0, hc2, hc3⟩ | exact ⟨kx _ _ _ _ r0, kx _ _ _ _ r2, kx _ _ _ _ r3⟩ | exact ⟨kept_cell hBd r0, kept_cell hBd r2, kept_cell hBd r3⟩) | (dsimp only; (first | exact ⟨hd0 _, hd2 _, hd3 _⟩ | exact ⟨hc0, hc2, hc3⟩ | exact ⟨kx _ _ _ _ r0, kx _ _ _ _ r2, kx _ _ _ _ r3⟩ | exact ⟨kept_cell hBd r0, kept_cell hBd r2, kept_cell hBd r3⟩))
          clear hK K hHeld
          have hHeld := hNow
          clear hNow
          try simp only [Act.put, List.setIfInBounds_toArray, List.set_cons_zero, List.set_cons_succ]
          refine wpAnyH_ready (rs := [9]) (by kernel_rfl) (by simp) ?_
          refine AllReadyH.cons rfl (fun K hK => ?_) AllReadyH.nil
          go_simp
          refine hK.out _ _ ?_ (fun hNow => ?_)
          · first | (first | exact ⟨hd0 _, hd2 _, hd3 _⟩ | exact ⟨hc0, hc2, hc3⟩ | exact ⟨kx _ _ _ _ r0, kx _ _ _ _ r2, kx _ _ _ _ r3⟩ | exact ⟨kept_cell hBd r0, kept_cell hBd r2, kept_cell hBd r3⟩) | (dsimp only; (first | exact ⟨hd0 _, hd2 _, hd3 _⟩ | exact ⟨hc0, hc2, hc3⟩ | exact ⟨kx _ _ _ _ r0, kx _ _ _ _ r2, kx _ _ _ _ r3⟩ | exact ⟨kept_cell hBd r0, kept_cell hBd r2, kept_cell hBd r3⟩))
          clear hK K hHeld
          have hHeld := hNow
          clear hNow
          try simp only [Act.put, List.setIfInBounds_toArray, List.set_cons_zero, List.set_cons_succ]
          refine wpAnyH_ready (rs := [10]) (by kernel_rfl) (by simp) ?_
          refine AllReadyH.cons rfl (fun K hK => ?_) AllReadyH.nil
          (refine step_append_lies _ (by rfl) _ _ _ (by rfl) w.heap.size 23 i0 _ 2 16 Tryz.underlying43 hi0 hz0 hz1 hz2 rfl (by decide) vv _ _ (by rfl) ((World.ownsRow.alloc HoH.out _).drew) ⟨V.heap.size, 0, none⟩ 1 1 [.int .i64 r.v.lo, .int .i64 r.v.hi] (by rfl) (by rfl) (World.news_of_block (cs := #[.int .i64 r.v.lo, .int .i64 r.v.hi]) (t := 23) (fr := (0, 0)) (heap_alloc_new V _)) (by simp [Value.oneCell']) (by decide) hl1 hl2 (by simp; omega) (V.heap.size + 1) (by simp) ?_; intro gg gcap w1 hown1 hgrow hat hglt; have hc0 := (hgrow.cell_far _ (by simp; omega) (Ne.symm hnn)).trans (kx _ _ _ _ r0); have hc2 := (hgrow.cell_far _ (by simp; omega) (Ne.symm hnn)).trans (kx _ _ _ _ r2); have hc3 := (hgrow.cell_far _ (by simp; omega) (Ne.symm hnn)).trans (kx _ _ _ _ r3); have hcm := (hgrow.block _ (by simp; omega) (Ne.symm hbne)).trans (kh _ _ _ hm0); have kp : ∀ (o : Obj) (off : Nat), (w1.putObj (w.heap.size + 1) o).cell? ⟨wr.heap.size, off, none⟩ = w1.cell? ⟨wr.heap.size, off, none⟩ := fun o off => World.cell?_of_block (World.putObj_heap_other hMne); have hd0 := fun o => (kp o 0).trans hc0; have hd2 := fun o => (kp o 2).trans hc2; have hd3 := fun o => (kp o 3).trans hc3)
          refine hK.out _ _ ?_ (fun hNow => ?_)
          · first | (first | exact ⟨hd0 _, hd2 _, hd3 _⟩ | exact ⟨hc0, hc2, hc3⟩ | exact ⟨kx _ _ _ _ r0, kx _ _ _ _ r2, kx _ _ _ _ r3⟩ | exact ⟨kept_cell hBd r0, kept_cell hBd r2, kept_cell hBd r3⟩) | (dsimp only; (first | exact ⟨hd0 _, hd2 _, hd3 _⟩ | exact ⟨hc0, hc2, hc3⟩ | exact ⟨kx _ _ _ _ r0, kx _ _ _ _ r2, kx _ _ _ _ r3⟩ | exact ⟨kept_cell hBd r0, kept_cell hBd r2, kept_cell hBd r3⟩))
          clear hK K hHeld
          have hHeld := hNow
          clear hNow
          try simp only [Act.put, List.setIfInBounds_toArray, List.set_cons_zero, List.set_cons_succ]
          refine wpAnyH_ready (rs := [11]) (by kernel_rfl) (by simp) ?_
          refine AllReadyH.cons rfl (fun K hK => ?_) AllReadyH.nil
          go_simp
          refine hK.out _ _ ?_ (fun hNow => ?_)
          · first | (first | exact ⟨hd0 _, hd2 _, hd3 _⟩ | exact ⟨hc0, hc2, hc3⟩ | exact ⟨kx _ _ _ _ r0, kx _ _ _ _ r2, kx _ _ _ _ r3⟩ | exact ⟨kept_cell hBd r0, kept_cell hBd r2, kept_cell hBd r3⟩) | (dsimp only; (first | exact ⟨hd0 _, hd2 _, hd3 _⟩ | exact ⟨hc0, hc2, hc3⟩ | exact ⟨kx _ _ _ _ r0, kx _ _ _ _ r2, kx _ _ _ _ r3⟩ | exact ⟨kept_cell hBd r0, kept_cell hBd r2, kept_cell hBd r3⟩))
          clear hK K hHeld
          have hHeld := hNow
          clear hNow
          try simp only [Act.put, List.setIfInBounds_toArray, List.set_cons_zero, List.set_cons_succ]
          refine wpAnyH_done (by kernel_rfl) ?_ _
        case' wayB8171_1 =>
          go_simp
          refine hK.out _ _ ?_ (fun hNow => ?_)
          · first | (first | exact ⟨hd0 _, hd2 _, hd3 _⟩ | exact ⟨hc0, hc2, hc3⟩ | exact ⟨kx _ _ _ _ r0, kx _ _ _ _ r2, kx _ _ _ _ r3⟩ | exact ⟨kept_cell hBd r0, kept_cell hBd r2, kept_cell hBd r3⟩) | (dsimp only; (first | exact ⟨hd0 _, hd2 _, hd3 _⟩ | exact ⟨hc0, hc2, hc3⟩ | exact ⟨kx _ _ _ _ r0, kx _ _ _ _ r2, kx _ _ _ _ r3⟩ | exact ⟨kept_cell hBd r0, kept_cell hBd r2, kept_cell hBd r3⟩))
          clear hK K hHeld
          have hHeld := hNow
          clear hNow
          try simp only [Act.put, List.setIfInBounds_toArray, List.set_cons_zero, List.set_cons_succ]
          refine wpAnyH_ready (rs := [6]) (by kernel_rfl) (by simp) ?_
          refine AllReadyH.cons rfl (fun K hK => ?_) AllReadyH.nil
          go_simp
          refine hK.out _ _ ?_ (fun hNow => ?_)
          · first | (first | exact ⟨hd0 _, hd2 _, hd3 _⟩ | exact ⟨hc0, hc2, hc3⟩ | exact ⟨kx _ _ _ _ r0, kx _ _ _ _ r2, kx _ _ _ _ r3⟩ | exact ⟨kept_cell hBd r0, kept_cell hBd r2, kept_cell hBd r3⟩) | (dsimp only; (first | exact ⟨hd0 _, hd2 _, hd3 _⟩ | exact ⟨hc0, hc2, hc3⟩ | exact ⟨kx _ _ _ _ r0, kx _ _ _ _ r2, kx _ _ _ _ r3⟩ | exact ⟨kept_cell hBd r0, kept_cell hBd r2, kept_cell hBd r3⟩))
          clear hK K hHeld
          have hHeld := hNow
          clear hNow
          try simp only [Act.put, List.setIfInBounds_toArray, List.set_cons_zero, List.set_cons_succ]
          refine wpAnyH_ready (rs := [10]) (by kernel_rfl) (by simp) ?_
          refine AllReadyH.cons rfl (fun K hK => ?_) AllReadyH.nil
          (refine step_append_lies _ (by rfl) _ _ _ (by rfl) w.heap.size 23 i0 _ 2 16 Tryz.underlying43 hi0 hz0 hz1 hz2 rfl (by decide) vv _ _ (by rfl) ((World.ownsRow.alloc HoH.out _).drew) ⟨V.heap.size, 0, none⟩ 1 1 [.int .i64 r.v.lo, .int .i64 r.v.hi] (by rfl) (by rfl) (World.news_of_block (cs := #[.int .i64 r.v.lo, .int .i64 r.v.hi]) (t := 23) (fr := (0, 0)) (heap_alloc_new V _)) (by simp [Value.oneCell']) (by decide) hl1 hl2 (by simp; omega) (V.heap.size + 1) (by simp) ?_; intro gg gcap w1 hown1 hgrow hat hglt; have hc0 := (hgrow.cell_far _ (by simp; omega) (Ne.symm hnn)).trans (kx _ _ _ _ r0); have hc2 := (hgrow.cell_far _ (by simp; omega) (Ne.symm hnn)).trans (kx _ _ _ _ r2); have hc3 := (hgrow.cell_far _ (by simp; omega) (Ne.symm hnn)).trans (kx _ _ _ _ r3); have hcm := (hgrow.block _ (by simp; omega) (Ne.symm hbne)).trans (kh _ _ _ hm0); have kp : ∀ (o : Obj) (off : Nat), (w1.putObj (w.heap.size + 1) o).cell? ⟨wr.heap.size, off, none⟩ = w1.cell? ⟨wr.heap.size, off, none⟩ := fun o off => World.cell?_of_block (World.putObj_heap_other hMne); have hd0 := fun o => (kp o 0).trans hc0; have hd2 := fun o => (kp o 2).trans hc2; have hd3 := fun o => (kp o 3).trans hc3)
          refine hK.out _ _ ?_ (fun hNow => ?_)
          · first | (first | exact ⟨hd0 _, hd2 _, hd3 _⟩ | exact ⟨hc0, hc2, hc3⟩ | exact ⟨kx _ _ _ _ r0, kx _ _ _ _ r2, kx _ _ _ _ r3⟩ | exact ⟨kept_cell hBd r0, kept_cell hBd r2, kept_cell hBd r3⟩) | (dsimp only; (first | exact ⟨hd0 _, hd2 _, hd3 _⟩ | exact ⟨hc0, hc2, hc3⟩ | exact ⟨kx _ _ _ _ r0, kx _ _ _ _ r2, kx _ _ _ _ r3⟩ | exact ⟨kept_cell hBd r0, kept_cell hBd r2, kept_cell hBd r3⟩))
          clear hK K hHeld
          have hHeld := hNow
          clear hNow
          try simp only [Act.put, List.setIfInBounds_toArray, List.set_cons_zero, List.set_cons_succ]
          refine wpAnyH_ready (rs := [11]) (by kernel_rfl) (by simp) ?_
          refine AllReadyH.cons rfl (fun K hK => ?_) AllReadyH.nil
          go_simp
          refine hK.out _ _ ?_ (fun hNow => ?_)
          · first | (first | exact ⟨hd0 _, hd2 _, hd3 _⟩ | exact ⟨hc0, hc2, hc3⟩ | exact ⟨kx _ _ _ _ r0, kx _ _ _ _ r2, kx _ _ _ _ r3⟩ | exact ⟨kept_cell hBd r0, kept_cell hBd r2, kept_cell hBd r3⟩) | (dsimp only; (first | exact ⟨hd0 _, hd2 _, hd3 _⟩ | exact ⟨hc0, hc2, hc3⟩ | exact ⟨kx _ _ _ _ r0, kx _ _ _ _ r2, kx _ _ _ _ r3⟩ | exact ⟨kept_cell hBd r0, kept_cell hBd r2, kept_cell hBd r3⟩))
          clear hK K hHeld
          have hHeld := hNow
          clear hNow
          try simp only [Act.put, List.setIfInBounds_toArray, List.set_cons_zero, List.set_cons_succ]
          refine wpAnyH_done (by kernel_rfl) ?_ _
        all_goals
          have hgV : V.grownBy w1 vv.ownBlock := grownBy_trans (World.grownBy_alloc V _ _) ⟨hgrow.os, hgrow.tape, hgrow.output, hgrow.size, hgrow.block⟩
          have hon : OwnSps w.heap.size w1 (.slice (some ⟨gg, 0, none⟩) (l0.length + 1) gcap) (l0 ++ [r.v]) := by
            unfold OwnSps OwnSt
            rw [List.length_append, List.flatMap_append]
            simpa using hown1
          have hfin : Hid (OwnGrp w.heap.size (w.heap.size + 1) (w1.putObj (w.heap.size + 1) (.map (ents (updL L r.day (.slice (some ⟨gg, 0, none⟩) (l0.length + 1) gcap) c)) c2)) (fun d => b.readsTo z d (k + 1)) ∧
              (w1.putObj (w.heap.size + 1) (.map (ents (updL L r.day (.slice (some ⟨gg, 0, none⟩) (l0.length + 1) gcap) c)) c2)).heap[w.heap.size]? = some (bkO fv wv (.slice (some ⟨rb, off, none⟩) b.reads.length rc)) ∧
              Below w.heap.size w (w1.putObj (w.heap.size + 1) (.map (ents (updL L r.day (.slice (some ⟨gg, 0, none⟩) (l0.length + 1) gcap) c)) c2))) := Lib.hid (by
            refine ⟨?_, ?_, ?_⟩
            · rw [htake.out hz'.out]
              have hl0' := hl0.out
              subst hl0'
              refine ⟨_, _, HG.out.more r.day r.v (by rw [hvv.out]; exact hgV) hon (by
                rw [hvv.out]
                rcases hat with e | e
                · exact .inl e.symm
                · exact .inr ⟨gg, rfl, by omega⟩) _⟩
            · exact (World.putObj_heap_other (by omega)).trans ((hgV.block _ (by omega) (Ne.symm hbn2)).trans hbkV.out)
            · exact below_putObj (hBwV.out.grown hgV hBwV.out.size fun i hi => (HoH.out.lt i hi).1) (by omega) _)
          generalize (w1.putObj (w.heap.size + 1) (.map (ents (updL L r.day (.slice (some ⟨gg, 0, none⟩) (l0.length + 1) gcap) c)) c2)) = Y at hfin ⊢
          clear hgV hon hown1 hgrow hat hglt hc0 hc2 hc3 hcm kp hd0 hd2 hd3 hHeld hlk hun hmd hma kx kh
          go_wp2
          exact ⟨⟨k + 1, by omega, by go_num, hfin⟩, by simp [intOf]; omega⟩
      · have hfin : Hid (OwnGrp w.heap.size (w.heap.size + 1) V (fun d => b.readsTo z d (k + 1)) ∧ V.heap[w.heap.size]? = some (bkO fv wv (.slice (some ⟨rb, off, none⟩) b.reads.length rc)) ∧ Below w.heap.size w V) := Lib.hid (by
          rw [hskip.out hz]
          exact ⟨⟨_, _, hGV.out⟩, hbkV.out, hBwV.out⟩)
        clear hskip htake hGV hbkV hBwV g0 hBV sV hG hbk hB
        rw [← hV] at hfin
        clear hV
        go_wp2
        exact ⟨⟨k + 1, by omega, by go_num, hfin⟩, by simp [intOf]; omega⟩
    · obtain rfl : k = b.reads.length := by omega
      have hfin : Hid (OwnGrp w.heap.size (w.heap.size + 1) wr (fun d => b.readsAt z d)) := Lib.hid (by
        have h : OwnGrp w.heap.size (w.heap.size + 1) wr (fun d => b.readsTo z d b.reads.length) := ⟨_, _, hG⟩
        have e : (fun d => b.readsTo z d b.reads.length) = fun d => b.readsAt z d := by funext d; exact readsTo_all
        rwa [e] at h)
      clear hG
      go_wp2
      go_ret
      exact ⟨rfl, hfin.out, hB⟩
end Go.Proofs.YthbkcoijafehgaaGreat.L
