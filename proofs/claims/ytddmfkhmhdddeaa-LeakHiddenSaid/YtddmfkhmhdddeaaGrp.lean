/- A map from whole numbers to slices of spans that a call makes itself: what a look-up gives, what a store does. -/
import Derived.Test.YtddmfkhmhdddeaaOwn
import Derived.MapKept
set_option linter.unusedVariables false
set_option linter.unusedSimpArgs false
namespace Go.Proofs.Ytddmfkhmhdddeaa
open Go.RowKit Go.Sd Go.MapKept Lk

/-- The entries of a map: keys, values, stamps. -/
def ent (x : Int × Value × Nat) : MapEntry := ⟨.int .i64 x.1, x.2.1, x.2.2⟩
def ents (L : List (Int × Value × Nat)) : Array MapEntry := (L.map ent).toArray
def nilS : Value := .slice none 0 0
/-- The value at a key; a nil slice, where there is none. -/
def valOf : List (Int × Value × Nat) → Int → Value
  | [], _ => nilS
  | x :: L, k => if x.1 = k then x.2.1 else valOf L k
def updL : List (Int × Value × Nat) → Int → Value → Nat → List (Int × Value × Nat)
  | [], k, v, c => [(k, v, c)]
  | x :: L, k, v, c => if x.1 = k then (k, v, x.2.2) :: L else x :: updL L k v c
def hasL : List (Int × Value × Nat) → Int → Bool
  | [], _ => false
  | x :: L, k => decide (x.1 = k) || hasL L k
theorem valOf_upd (k k' : Int) (v : Value) (c : Nat) : ∀ L, valOf (updL L k v c) k' = if k' = k then v else valOf L k'
  | [] => by
    simp only [updL, valOf]
    by_cases h : k' = k
    · simp [h]
    · simp [h, Ne.symm h]
  | x :: L => by
    simp only [updL]
    by_cases hx : x.1 = k
    · simp only [hx, if_true, valOf]
      by_cases h : k' = k
      · simp [h]
      · simp [h, Ne.symm h]
    · simp only [hx, if_false, valOf]
      by_cases h : x.1 = k'
      · simp only [h, if_true]
        rw [if_neg (by rintro rfl; exact hx h)]
      · simp only [h, if_false]
        exact valOf_upd k k' v c L
theorem findNow_not {k : Int} : ∀ (L : List (Int × Value × Nat)) (i : Nat), hasL L k = false → Instr.findNow (.int .i64) (.int .i64 k) (L.map ent) i = some none ∧ valOf L k = nilS ∧ ∀ v c, updL L k v c = L ++ [(k, v, c)]
  | [], i, _ => ⟨rfl, rfl, fun _ _ => rfl⟩
  | x :: L, i, h => by
    simp only [hasL, Bool.or_eq_false_iff, decide_eq_false_iff_not] at h
    obtain ⟨h1, h2, h3⟩ := findNow_not L (i + 1) h.2
    refine ⟨?_, ?_, fun v c => ?_⟩
    · have : (k == x.1) = false := by simpa using Ne.symm h.1
      simp only [List.map_cons, Instr.findNow, ent, Instr.sameNow, if_true, this]
      exact h1
    · simp [valOf, h.1, h2]
    · simp [updL, h.1, h3]
theorem findNow_has {k : Int} : ∀ (L : List (Int × Value × Nat)) (i : Nat), hasL L k = true → ∃ j, Instr.findNow (.int .i64) (.int .i64 k) (L.map ent) i = some (some (i + j, valOf L k)) ∧ (∃ e, (L.map ent)[j]? = some e ∧ e.key = .int .i64 k) ∧
    ∀ v c, (updL L k v c).map ent = (L.map ent).modify j fun e => { e with key := .int .i64 k, val := v }
  | [], i, h => by cases h
  | x :: L, i, h => by
    by_cases hx : x.1 = k
    · refine ⟨0, ?_, ⟨_, rfl, by simp [ent, hx]⟩, fun v c => ?_⟩
      · simp [Instr.findNow, ent, Instr.sameNow, hx, valOf]
      · simp [updL, hx, ent]
    · have h2 : hasL L k = true := by simpa [hasL, hx] using h
      obtain ⟨j, h1, ⟨e, h3, h4⟩, h5⟩ := findNow_has L (i + 1) h2
      refine ⟨j + 1, ?_, ⟨e, h3, h4⟩, fun v c => ?_⟩
      · have : (k == x.1) = false := by simpa using Ne.symm hx
        simp only [List.map_cons, Instr.findNow, ent, Instr.sameNow, if_true, this]
        rw [show i + (j + 1) = i + 1 + j by omega]
        have hv : valOf (x :: L) k = valOf L k := by simp [valOf, hx]
        rw [hv]
        exact h1
      · simp only [updL, hx, if_false, List.map_cons, h5, List.modify_succ_cons]

theorem key_int : Try.prog.underlying 3 = some (.int .i64) := by kernel_rfl
theorem zero_sps (w : World) : (zeroValue 22).run Try.prog w = .ok nilS w := by kernel_rfl

/-- A look-up. -/
theorem look_run {w : World} {M : Nat} {L : List (Int × Value × Nat)} {clock : Nat} (h : w.heap[M]? = some (.map (ents L) clock)) (k : Int) :
    (Instr.lookup 137 (.map (some M)) (.int .i64 k) false).run Try.prog w = .ok (valOf L k) w := by
  have h1 := fun e => run_checkKey (P := Try.prog) (w := w) key_int (k := .int .i64 k) (by simp [IsKey]) e 9999
  cases hh : hasL L k
  · obtain ⟨h2, h3, -⟩ := findNow_not L 0 hh
    have h4 := run_findKey (P := Try.prog) (w := w) key_int (k := .int .i64 k) (l := (ents L).toList) (a := none) (by simpa [ents] using h2)
    simp [Instr.lookup, run_underlying Try.underlying137, Sem.run_bind, getObj, Sem.run, h, Result.andThen, h1, h4, h3]
    have := zero_sps w
    simp [Sem.run] at this
    simp [this]
  · obtain ⟨j, h2, -, -⟩ := findNow_has L 0 hh
    have h4 := run_findKey (P := Try.prog) (w := w) key_int (k := .int .i64 k) (l := (ents L).toList) (a := some (0 + j, valOf L k)) (by simpa [ents] using h2)
    simp [Instr.lookup, run_underlying Try.underlying137, Sem.run_bind, getObj, Sem.run, h, Result.andThen, h1, h4]

/-- A store. -/
theorem upd_run {w : World} {M : Nat} {L : List (Int × Value × Nat)} {clock : Nat} (h : w.heap[M]? = some (.map (ents L) clock)) (k : Int) (v : Value) :
    (Instr.mapUpdate 137 (.map (some M)) (.int .i64 k) v).run Try.prog w = .ok () (w.putObj M (.map (ents (updL L k v clock)) (if hasL L k = true then clock else clock + 1))) := by
  have h1 := fun e => run_checkKey (P := Try.prog) (w := w) key_int (k := .int .i64 k) (by simp [IsKey]) e 9999
  cases hh : hasL L k
  · obtain ⟨h2, -, h3⟩ := findNow_not L 0 hh
    have h4 := run_findKey (P := Try.prog) (w := w) key_int (k := .int .i64 k) (l := (ents L).toList) (a := none) (by simpa [ents] using h2)
    have h5 : (ents L).push { key := .int .i64 k, val := v, born := clock } = ents (updL L k v clock) := by rw [h3]; simp [ents, ent]
    simp [Instr.mapUpdate, run_underlying Try.underlying137, Sem.run_bind, getObj, setObj, Sem.run, h, Result.andThen, h1, h4, World.putObj, h5]
  · obtain ⟨j, h2, ⟨e, he, hk⟩, h3⟩ := findNow_has L 0 hh
    have h4 := run_findKey (P := Try.prog) (w := w) key_int (k := .int .i64 k) (l := (ents L).toList) (a := some (0 + j, valOf L k)) (by simpa [ents] using h2)
    have h5 : (ents L).modify j (fun e => { e with key := .int .i64 k, val := v }) = ents (updL L k v clock) := by
      apply Array.ext'
      simp [ents, h3]
    have he' : (ents L)[j]? = some e := by simpa [ents] using he
    have h6 := run_keyThatStays (d := .int .i64) (P := Try.prog) (w := w) (k := .int .i64 k) (by simp [IsKey])
    simp [Instr.mapUpdate, run_underlying Try.underlying137, Sem.run_bind, getObj, setObj, Sem.run, h, Result.andThen, h1, h4, World.putObj, he', hk, h6, h5]

/-- A map of one's own, in block M, whose slices of spans lie from block B on, each in a row of its own. -/
structure GrpL (B M : Nat) (w : World) (f : Int → List Sp) (L : List (Int × Value × Nat)) (clock : Nat) : Prop where
  heap : w.heap[M]? = some (.map (ents L) clock)
  own : ∀ k, OwnSps B w (valOf L k) (f k)
  apart : ∀ k k', k ≠ k' → (valOf L k).ownBlock = none ∨ (valOf L k).ownBlock ≠ (valOf L k').ownBlock
def OwnGrp (B M : Nat) (w : World) (f : Int → List Sp) : Prop := ∃ L clock, GrpL B M w f L clock
theorem GrpL.kept {S : Nat → Prop} {B M : Nat} {w w' : World} {f : Int → List Sp} {L : List (Int × Value × Nat)} {c : Nat} (h : GrpL B M w f L c) (hk : Kept S w w') (hM : S M) (hs : ∀ k, B ≤ k → S k) : GrpL B M w' f L c :=
  ⟨(hk.block M (Array.getElem?_eq_some_iff.1 h.heap).1 hM).trans h.heap, fun k => (h.own k).keptS hk hs, h.apart⟩
theorem GrpL.mono {B M : Nat} {w w' : World} {f : Int → List Sp} {L : List (Int × Value × Nat)} {c : Nat} (h : GrpL B M w f L c) (hb : Below w.heap.size w w') : GrpL B M w' f L c :=
  ⟨kept_block hb h.heap, fun k => (h.own k).mono hb, h.apart⟩
theorem OwnGrp.kept {S : Nat → Prop} {B M : Nat} {w w' : World} {f : Int → List Sp} (h : OwnGrp B M w f) (hk : Kept S w w') (hM : S M) (hs : ∀ k, B ≤ k → S k) : OwnGrp B M w' f := let ⟨L, c, h⟩ := h; ⟨L, c, h.kept hk hM hs⟩
theorem OwnGrp.mono {B M : Nat} {w w' : World} {f : Int → List Sp} (h : OwnGrp B M w f) (hb : Below w.heap.size w w') : OwnGrp B M w' f := let ⟨L, c, h⟩ := h; ⟨L, c, h.mono hb⟩
theorem GrpL.made (B : Nat) (w : World) : GrpL B w.heap.size (w.alloc (.map #[] 0)) (fun _ => []) [] 0 :=
  ⟨World.alloc_heap_new w _, fun _ => OwnSt.nil _ _ _ _ _, fun _ _ _ => .inl rfl⟩
/-- Behind 'm[k] = append(m[k], y)'. -/
theorem GrpL.more {B M : Nat} {w w1 : World} {f : Int → List Sp} {L : List (Int × Value × Nat)} {c : Nat} (h : GrpL B M w f L c) (k : Int) (y : Sp) {v' : Value} (hg : w.grownBy w1 (valOf L k).ownBlock) (ho : OwnSps B w1 v' (f k ++ [y]))
    (hat : v'.ownBlock = (valOf L k).ownBlock ∨ ∃ m, v'.ownBlock = some m ∧ w.heap.size ≤ m) (c' : Nat) :
    GrpL B M (w1.putObj M (.map (ents (updL L k v' c)) c')) (fun x => if x = k then f k ++ [y] else f x) (updL L k v' c) c' := by
  have hMlt := (Array.getElem?_eq_some_iff.1 h.heap).1
  have hM : ∀ x, (valOf L x).ownBlock ≠ some M := fun x e => by
    obtain ⟨cs, hc⟩ := (h.own x).cellsRow M e
    rw [h.heap] at hc; cases hc
  have h1M : w1.heap[M]? = some (.map (ents L) c) := (hg.block M hMlt (Ne.symm (hM k))).trans h.heap
  have hput : w1.grownBy (w1.putObj M (.map (ents (updL L k v' c)) c')) (some M) := ⟨rfl, rfl, rfl, by rw [World.putObj_size]; exact Nat.le_refl _, fun i _ hi => World.putObj_heap_other (fun e => hi (by rw [e]))⟩
  have hvM : v'.ownBlock ≠ some M := by
    rcases hat with e | ⟨m, e, hm⟩
    · rw [e]; exact hM k
    · rw [e]; intro h'; cases h'; omega
  have away : ∀ x, x ≠ k → (valOf L x).ownBlock = none ∨ (valOf L x).ownBlock ≠ v'.ownBlock := fun x hx => by
    rcases hat with e | ⟨m, e, hm⟩
    · rw [e]; exact h.apart x k hx
    · rw [e]
      cases hq : (valOf L x).ownBlock with
      | none => exact .inl rfl
      | some q => exact .inr (by have := ((h.own x).lt q hq).2; intro h'; cases h'; omega)
  refine ⟨World.putObj_heap_same (Array.getElem?_eq_some_iff.1 h1M).1, fun x => ?_, fun x x' hxx => ?_⟩
  · rw [valOf_upd]
    by_cases hx : x = k
    · simp only [hx, if_true]
      exact ho.kept hput (.inr hvM)
    · simp only [hx, if_false]
      exact ((h.own x).kept hg (h.apart x k hx)).kept hput (.inr (hM x))
  · rw [valOf_upd, valOf_upd]
    by_cases hx : x = k
    · by_cases hx' : x' = k
      · exact absurd (hx.trans hx'.symm) hxx
      · simp only [hx, hx', if_true, if_false]
        rcases away x' hx' with e | e
        · rw [e]
          cases hq : v'.ownBlock with
          | none => exact .inl rfl
          | some q => exact .inr (by simp)
        · exact .inr (Ne.symm e)
    · by_cases hx' : x' = k
      · simp only [hx, hx', if_true, if_false]; exact away x hx
      · simp only [hx, hx', if_false]; exact h.apart x x' hxx
theorem OwnGrp.from {B B' M : Nat} {w : World} {f : Int → List Sp} (h : OwnGrp B M w f) (hB : B' ≤ B) : OwnGrp B' M w f := let ⟨L, c, h⟩ := h; ⟨L, c, h.heap, fun k => (h.own k).from hB, h.apart⟩
/-- A store into a block of another type. -/
theorem OwnGrp.setc {B M n : Nat} {w : World} {f : Int → List Sp} {cs : Array Value} {t : TypeId} (h : OwnGrp B M w f) (hn : w.heap[n]? = some (.cells cs t (0, 0))) (ht : t ≠ 55) (i : Nat) (v : Value) : OwnGrp B M (w.setCell ⟨n, i, none⟩ v) f := by
  obtain ⟨L, c, h⟩ := h
  refine ⟨L, c, (Below.heap_setCell _ _ _ _ (fun e => ?_)).trans h.heap, fun k => (h.own k).same fun x hx => Below.heap_setCell _ _ _ _ (fun e => ?_), h.apart⟩
  · have e' : M = n := e
    rw [← e', h.heap] at hn; cases hn
  · have e' : x = n := e
    obtain ⟨cs', hc⟩ := (h.own k).cellsRow x hx
    rw [e', hn] at hc
    cases hc
    exact ht rfl
end Go.Proofs.Ytddmfkhmhdddeaa
