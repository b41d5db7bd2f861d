/- Walks of the reference: the safe fills. -/
import Derived.Test.YtacajmpggjgaiaaR3
import Derived.Test.YtacajmpggjgaiaaOwnSp
set_option linter.unusedVariables false
set_option linter.unusedSimpArgs false
namespace Go.Proofs.Ytacajmpggjgaiaa
open Go.RowKit Go.Sd

theorem OwnSpans.mono {B : Nat} {w w' : World} {v : Value} {xs : List Sea.Span} (h : OwnSpans B w v xs) (hb : Below w.heap.size w w') : OwnSpans B w' v xs :=
  h.kept (grown_of_below hb) (by cases v.ownBlock <;> simp)

/-- A table of one's own, from block B on: block b holds the rows' slices. -/
structure OwnSpMat (B b : Nat) (w : World) (vs : List Value) (rows : List (List Sea.Span)) : Prop where
  heap : w.heap[b]? = some (.cells vs.toArray 60)
  len : vs.length = rows.length
  low : B ≤ b
  own : ∀ i, i < rows.length → OwnSpans B w (spAt vs i) (Sea.spansAt rows i)
  ne : ∀ i, i < rows.length → (spAt vs i).ownBlock ≠ some b
  apart : ∀ i j, i < rows.length → j < rows.length → i ≠ j → (spAt vs i).ownBlock = none ∨ (spAt vs i).ownBlock ≠ (spAt vs j).ownBlock

theorem OwnSpMat.grown {B b : Nat} {w w' : World} {vs : List Value} {rows : List (List Sea.Span)} (h : OwnSpMat B b w vs rows) (hg : w.grownBy w' none) : OwnSpMat B b w' vs rows :=
  ⟨(hg.block b (Array.getElem?_eq_some_iff.1 h.heap).1 (by simp)).trans h.heap, h.len, h.low, fun i hi => (h.own i hi).kept hg (by cases (spAt vs i).ownBlock <;> simp), h.ne, h.apart⟩

theorem OwnSpMat.mono {B b : Nat} {w w' : World} {vs : List Value} {rows : List (List Sea.Span)} (h : OwnSpMat B b w vs rows) (hb : Below w.heap.size w w') : OwnSpMat B b w' vs rows := h.grown (grown_of_below hb)

theorem spAt_set {vs : List Value} {i j : Nat} {v : Value} (hi : i < vs.length) : spAt (vs.set i v) j = if j = i then v else spAt vs j := by
  unfold spAt
  by_cases h : j = i
  · subst h; simp [hi]
  · simp [h, List.getElem?_set, Ne.symm h]
theorem spansAt_set {rows : List (List Sea.Span)} {i j : Nat} {v : List Sea.Span} (hi : i < rows.length) : Sea.spansAt (rows.set i v) j = if j = i then v else Sea.spansAt rows j := by
  unfold Sea.spansAt
  by_cases h : j = i
  · subst h; simp [hi]
  · simp [h, List.getElem?_set, Ne.symm h]

theorem OwnSpMat.put {B b : Nat} {w w1 : World} {vs : List Value} {rows : List (List Sea.Span)} {i : Nat} {v' : Value} {row : List Sea.Span} (h : OwnSpMat B b w vs rows) (hi : i < rows.length)
    (hg : w.grownBy w1 (spAt vs i).ownBlock) (ho : OwnSpans B w1 v' (row)) (hat : v'.ownBlock = (spAt vs i).ownBlock ∨ ∃ m, v'.ownBlock = some m ∧ w.heap.size ≤ m) :
    OwnSpMat B b (w1.setCell ⟨b, i, none⟩ v') (vs.set i v') (rows.set i (row)) := by
  have hiv : i < vs.length := by rw [h.len]; exact hi
  have hlt := (Array.getElem?_eq_some_iff.1 h.heap).1
  have hb1 : w1.heap[b]? = some (.cells vs.toArray 60) := (hg.block b hlt (Ne.symm (h.ne i hi))).trans h.heap
  have hv'b : v'.ownBlock ≠ some b := by
    rcases hat with e | ⟨m, e, hm⟩
    · rw [e]; exact h.ne i hi
    · rw [e]; intro h'; cases h'; omega
  have hset : w1.grownBy (w1.setCell ⟨b, i, none⟩ v') (some b) := ⟨rfl, rfl, rfl, by simp [World.setCell], fun k _ hk => Below.heap_setCell _ _ _ _ (fun e => hk (by rw [e]))⟩
  have away : ∀ j, j < rows.length → j ≠ i → (spAt vs j).ownBlock = none ∨ (spAt vs j).ownBlock ≠ v'.ownBlock := by
    intro j hj hji
    rcases hat with e | ⟨m, e, hm⟩
    · rw [e]; exact h.apart j i hj hi hji
    · rw [e]
      cases hq : (spAt vs j).ownBlock with
      | none => exact .inl rfl
      | some q => exact .inr (by have := ((h.own j hj).lt q hq).2; intro h'; cases h'; omega)
  refine ⟨?_, by simp [h.len], h.low, ?_, ?_, ?_⟩
  · simp only [World.setCell, Array.getElem?_modify, if_true, hb1]
    simp
  · intro j hj
    rw [List.length_set] at hj
    rw [spAt_set hiv, spansAt_set hi]
    by_cases hji : j = i
    · rw [if_pos hji, if_pos hji]
      exact ho.kept hset (.inr hv'b)
    · rw [if_neg hji, if_neg hji]
      exact ((h.own j hj).kept hg (h.apart j i hj hi hji)).kept hset (.inr (h.ne j hj))
  · intro j hj
    rw [List.length_set] at hj
    rw [spAt_set hiv]
    by_cases hji : j = i
    · rw [if_pos hji]; exact hv'b
    · rw [if_neg hji]; exact h.ne j hj
  · intro j k hj hk hjk
    rw [List.length_set] at hj hk
    rw [spAt_set hiv, spAt_set hiv]
    by_cases hji : j = i
    · by_cases hki : k = i
      · omega
      · rw [if_pos hji, if_neg hki]
        rcases away k hk hki with e | e
        · rw [e]; cases hq : v'.ownBlock with
          | none => exact .inl rfl
          | some q => exact .inr (by simp)
        · exact .inr (Ne.symm e)
    · by_cases hki : k = i
      · rw [if_neg hji, if_pos hki]; exact away j hj hji
      · rw [if_neg hji, if_neg hki]; exact h.apart j k hj hk hjk


/-- A table that has just been made. -/
theorem OwnSpMat.made (B n : Nat) (w : World) (hB : B ≤ w.heap.size) : OwnSpMat B w.heap.size (w.alloc (.cells (Array.replicate n (.slice none 0 0)) 60)) (List.replicate n (.slice none 0 0)) (List.replicate n []) := by
  have hv : ∀ i, spAt (List.replicate n (.slice none 0 0)) i = .slice none 0 0 := by
    intro i; unfold spAt; by_cases h : i < n <;> simp [h]
  refine ⟨(World.alloc_heap_new _ _).trans (by simp), by simp, hB, ?_, ?_, ?_⟩
  · intro i hi
    rw [hv]
    have : Sea.spansAt (List.replicate n ([] : List Sea.Span)) i = [] := by unfold Sea.spansAt; by_cases h : i < n <;> simp [h]
    rw [this]
    exact OwnSpans.nil _ _
  · intro i _; rw [hv]; simp [Value.ownBlock]
  · intro i j _ _ _; rw [hv]; exact .inl rfl

theorem OwnSpMat.from {B B' b : Nat} {w : World} {vs : List Value} {rows : List (List Sea.Span)} (h : OwnSpMat B b w vs rows) (hB : B' ≤ B) : OwnSpMat B' b w vs rows :=
  ⟨h.heap, h.len, Nat.le_trans hB h.low, fun i hi => (h.own i hi).from hB, h.ne, h.apart⟩

/-- A row turns within its own block. -/
theorem OwnSpMat.turn {B b : Nat} {w w1 : World} {vs : List Value} {rows : List (List Sea.Span)} {i : Nat} {row : List Sea.Span} (h : OwnSpMat B b w vs rows) (hi : i < rows.length)
    (hg : w.grownBy w1 (spAt vs i).ownBlock) (ho : OwnSpans B w1 (spAt vs i) row) : OwnSpMat B b w1 vs (rows.set i row) := by
  have hlt := (Array.getElem?_eq_some_iff.1 h.heap).1
  refine ⟨(hg.block b hlt (Ne.symm (h.ne i hi))).trans h.heap, by simp [h.len], h.low, ?_, ?_, ?_⟩
  · intro j hj
    rw [List.length_set] at hj
    rw [spansAt_set hi]
    by_cases hji : j = i
    · subst hji; rw [if_pos rfl]; exact ho
    · rw [if_neg hji]; exact (h.own j hj).kept hg (h.apart j i hj hi hji)
  · intro j hj; rw [List.length_set] at hj; exact h.ne j hj
  · intro j k hj hk hjk; rw [List.length_set] at hj hk; exact h.apart j k hj hk hjk

theorem OwnSpMat.at {B b : Nat} {w : World} {vs : List Value} {rows : List (List Sea.Span)} (h : OwnSpMat B b w vs rows) (hm : rows.length ≤ maxLen) (cap : Nat) : SpanListsAt w (.slice (some ⟨b, 0, none⟩) rows.length cap) rows := by
  refine ⟨_, cap, rfl, hm, fun _ => ⟨b, 0, rfl, (Array.getElem?_eq_some_iff.1 h.heap).1, fun k hk => ⟨spAt vs k, ?_, (h.own k hk).at⟩⟩⟩
  rw [(row_cells h.heap).2.1]
  have : k < vs.length := by rw [h.len]; exact hk
  simp [spAt, this]

theorem sprow_len {B b : Nat} {w : World} {vs : List Value} {rows : List (List Sea.Span)} (h : OwnSpMat B b w vs rows) {i : Nat} (hi : i < rows.length) : w.cell? ⟨b, i, none⟩ = some (spAt vs i) ∧ w.frozen? ⟨b, i, none⟩ = false := by
  refine ⟨?_, (row_cells h.heap).2.2 i⟩
  rw [(row_cells h.heap).2.1]
  have : i < vs.length := by rw [h.len]; exact hi
  simp [spAt, this]

/-- The table of the safe fills: the days before t are done, on day t the first f fills. -/
def stab (s : Sea.S) (t f : Nat) : List (List Sea.Span) := (List.range (s.days.length + 1)).map fun k => if k < t then spansTo (wrow s (s.days.length - k)) (s.space + 1).toNat else if k = t then spansTo (wrow s (s.days.length - k)) f else []
theorem stab_len (s : Sea.S) (t f : Nat) : (stab s t f).length = s.days.length + 1 := by simp [stab]
theorem stab_at (s : Sea.S) (t f k : Nat) (h : k ≤ s.days.length) : Sea.spansAt (stab s t f) k = if k < t then spansTo (wrow s (s.days.length - k)) (s.space + 1).toNat else if k = t then spansTo (wrow s (s.days.length - k)) f else [] := by
  unfold Sea.spansAt stab
  simp [List.getD_eq_getElem?_getD, show k < s.days.length + 1 by omega]
theorem stab_start (s : Sea.S) : stab s 0 0 = List.replicate (s.days.length + 1) [] := by
  apply spl_ext (by simp [stab])
  intro k hk
  rw [stab_len] at hk
  rw [stab_at s 0 0 k (by omega), if_neg (by omega)]
  have h2 : Sea.spansAt (List.replicate (s.days.length + 1) []) k = [] := by unfold Sea.spansAt; simp [List.getD_eq_getElem?_getD, hk]
  rw [h2]
  split <;> rfl
theorem stab_set (s : Sea.S) (t f g : Nat) (ht : t ≤ s.days.length) (row : List Sea.Span) (hr : row = spansTo (wrow s (s.days.length - t)) g) : (stab s t f).set t row = stab s t g := by
  apply spl_ext (by simp [stab])
  intro k hk
  rw [List.length_set, stab_len] at hk
  rw [spansAt_set (by rw [stab_len]; omega), stab_at s t g k (by omega), stab_at s t f k (by omega)]
  by_cases h : k = t
  · subst h; rw [if_pos rfl, if_neg (by omega), if_pos rfl, hr]
  · rw [if_neg h, if_neg h, if_neg h]
theorem stab_next (s : Sea.S) (t : Nat) : stab s t (s.space + 1).toNat = stab s (t + 1) 0 := by
  apply spl_ext (by simp [stab])
  intro k hk
  rw [stab_len] at hk
  rw [stab_at _ _ _ k (by omega), stab_at _ _ _ k (by omega)]
  by_cases h : k < t
  · rw [if_pos h, if_pos (by omega)]
  · by_cases h2 : k = t
    · rw [if_neg h, if_pos h2, if_pos (by omega)]
    · rw [if_neg h, if_neg h2, if_neg (by omega)]
      split <;> rfl
theorem stab_end (s : Sea.S) : stab s (s.days.length + 1) 0 = safeRows s := by
  unfold stab safeRows
  apply List.map_congr_left
  intro k hk
  rw [if_pos (List.mem_range.1 hk)]

theorem spMade (n : Nat) : Value.cells (.slice none 0 0) = #[.slice none 0 0] := rfl
theorem run_make_spans (w : World) (n : Nat) (hn : n ≤ 1000) : (Instr.makeSlice 44 (.int .i64 (n : Int)) (.int .i64 (n : Int))).run Try.prog w =
    .ok (.slice (some ⟨w.heap.size, 0, none⟩) n n) (w.alloc (.cells (Array.replicate n (.slice none 0 0)) 60)) := by
  obtain ⟨i0, hi, hz0, hz1, hz2⟩ := info_parts infoSpans
  have h := run_makeSlice (P := Try.prog) w 44 60 i0 (.slice none 0 0) Try.underlying44 hi hz0 .i64 .i64 (n : Int) (n : Int) (by omega) (by omega) (by rw [hz1]; omega) (by rw [hz2]; omega) (by omega)
  rw [hz1, Int.toNat_natCast, Nat.mul_one, show Value.cells (.slice none 0 0) = #[.slice none 0 0] from rfl, madeCells_one] at h
  exact h

set_option maxRecDepth 100000 in
set_option maxHeartbeats 8000000 in
theorem refSafe (sv : Value) (s : Sea.S) (w : World) (hs : SeasonAt w sv s) (ok : Sea.Ok s) :
    Calls Try.prog 27 #[sv] w fun e w' => (∃ v, e = .returned v ∧ SpanListsAt w' v (safeRows s)) ∧ Below w.heap.size w w' := by
  have hs' := hs
  obtain ⟨rv, dv, rfl, -, -⟩ := hs'
  have hsp := ok.space
  have hnd := ok.ndays
  obtain ⟨W, hW⟩ : ∃ W, w.alloc (sBox s rv dv) = W := ⟨_, rfl⟩
  obtain ⟨hsz, hBw, q0, q1, q2, q3, q4, q5⟩ := box_season hW
  have hP : Hid (Calls Try.prog 65 #[.agg #[.int .i64 s.space, .int .i64 s.start, .int .i64 s.elo, .int .i64 s.ehi, rv, dv]] W fun e w' => ∃ b vs cap, e = .returned (.slice (some ⟨b, 0, none⟩) (s.days.length + 1) cap) ∧ OwnMat W.heap.size b w' vs (Sea.whole s.days.length (wrow s)) ∧ Below W.heap.size W w') := refWorsts _ s W (hs.mono hBw) ok
  have hmk := fun X => run_make_spans X (s.days.length + 1) (by omega)
  simp only [Int.natCast_add, Int.natCast_one] at hmk
  have hwl : Hid (∀ j, (wrow s j).length = (s.space + 1).toNat) := fun j => wrow_length s j
  have hwb : Hid (∀ j f, j ≤ s.days.length → Sea.at0 (wrow s j) f ≤ 1000000000000000) := fun j f hj => (wrow_bd ok j hj f).2
  clear hs ok
  go_enter Try.func27, Try.ntmps27
  go_wp2_with (go_at_call 65; refine Calls.mono hP.out ?_; rintro e w' ⟨wb, ws, wcap, rfl, hM, hb⟩; obtain ⟨X, rfl⟩ : ∃ X, X = w' := ⟨_, rfl⟩)
  have hT0 := OwnSpMat.made X.heap.size (s.days.length + 1) X (Nat.le_refl _)
  rw [← stab_start s] at hT0
  have hB0 : Below X.heap.size X (X.alloc (.cells (Array.replicate (s.days.length + 1) (.slice none 0 0)) 60)) := below_al (Below.refl _ _) _
  generalize X.alloc (.cells (Array.replicate (s.days.length + 1) (.slice none 0 0)) 60) = X1 at *
  replace hT0 : Hid (∃ vs, OwnSpMat X.heap.size X.heap.size X1 vs (stab s 0 0)) := ⟨_, hT0⟩
  have p0 := kept_cell hb q0
  have hXs := hb.size
  clear hmk hP q0 q1 q2 q3 q4 q5 hW
  have hMl : (Sea.whole s.days.length (wrow s)).length = s.days.length + 1 := by simp [Sea.whole]
  replace hMl := Lib.hid hMl
  have hMat : Hid (∀ t, t ≤ s.days.length → ∃ a off cap, X.cell? ⟨wb, t, none⟩ = some (.slice (some ⟨a, off, none⟩) (s.space + 1).toNat cap) ∧ a < X.heap.size ∧ ∀ k, k < (s.space + 1).toNat → X.cell? ⟨a, off + k, none⟩ = some (.int .i64 (Sea.at0 (wrow s (s.days.length - t)) k))) := by
    intro t ht
    have hrow := (hM.own t (by rw [hMl.out]; omega)).at
    rw [← Sea.tbl_whole, Sea.tbl_at _ _ _ _ _ (by omega), if_pos (by omega)] at hrow
    obtain ⟨a, off, cap, hv, hlt, -, hk⟩ := int_cell hrow (by rw [hwl.out]; omega)
    have r := (row_len hM (i := t) (by rw [hMl.out]; omega)).1
    rw [hv] at r
    refine ⟨a, off, cap, by rw [r, hwl.out], hlt, fun k hk2 => hk k (by rw [hwl.out]; exact hk2)⟩
  have hwbl : wb < X.heap.size := (Array.getElem?_eq_some_iff.1 hM.heap).1
  clear hM
  go_loopw [5] (fun i wr => ∃ t : Nat, t ≤ s.days.length + 1 ∧ i = .int .i64 t ∧ Hid (∃ vs, OwnSpMat X.heap.size X.heap.size wr vs (stab s t 0)) ∧ Below X.heap.size X wr) (fun i _ => s.days.length + 1 - (intOf i).toNat)
  case atStart => exact ⟨0, by omega, rfl, hT0, hB0⟩
  case round =>
    clear hT0 hB0
    obtain ⟨t, ht, rfl, hT, hB⟩ := hrel
    by_cases htl : t < s.days.length + 1
    · obtain ⟨U, rfl⟩ : ∃ U : World, U = wr := ⟨_, rfl⟩
      obtain ⟨ra, roff, rcap, hr1, hr2, hr3⟩ := hMat.out t (by omega)
      obtain ⟨row, hrow⟩ : ∃ row, wrow s (s.days.length - t) = row := ⟨_, rfl⟩
      have hrb : Hid (∀ f, Sea.at0 row f ≤ 1000000000000000) := fun f => by rw [← hrow]; exact hwb.out _ f (by omega)
      have hst : Hid (∀ f g r, r = spansTo row g → (stab s t f).set t r = stab s t g) := fun f g r hr => stab_set s t f g (by omega) r (by rw [hrow]; exact hr)
      have hsa : Hid (∀ f, Sea.spansAt (stab s t f) t = spansTo row f) := fun f => by rw [stab_at s t f t (by omega), if_neg (by omega), if_pos rfl, hrow]
      rw [hrow] at hr3
      clear hrow
      replace hr3 := Lib.hid hr3
      have htd : (t : Int) < (s.days.length : Int) + 1 := by omega
      go_wp2_with (fail)
      go_loopw [6] (fun i wr => ∃ f : Nat, (f : Int) ≤ s.space + 1 ∧ i = .int .i64 f ∧ Hid (∃ vs, OwnSpMat X.heap.size X.heap.size wr vs (stab s t f)) ∧ Below X.heap.size X wr) (fun i _ => (s.space + 1 - intOf i).toNat)
      case atStart => exact ⟨0, by omega, rfl, hT, hB⟩
      case round =>
        clear hT hB
        obtain ⟨f, hf, rfl, hT, hB⟩ := hrel
        have m0 := kept_cell hB p0
        by_cases hfl : (f : Int) ≤ s.space
        · have r1 := kept_cell hB hr1
          have r2 := kept_cell hB (hr3.out f (by omega))
          have hcb := hrb.out f
          have hstep : Hid (spansTo row (f + 1) = if Sea.at0 row f = Sea.never then spansTo row f else addSpan (spansTo row f) f) := rfl
          generalize hc : Sea.at0 row f = c at *
          replace hc := Lib.hid hc
          have hfi : (0 : Int) ≤ (f : Int) ∧ (f : Int) < ((s.space + 1).toNat : Int) := by omega
          by_cases hcn : 1000000000000000 ≤ c
          · have hT' : Hid (∃ vs, OwnSpMat X.heap.size X.heap.size wr vs (stab s t (f + 1))) := by
              have hce : c = Sea.never := by unfold Sea.never; omega
              have h1 : spansTo row (f + 1) = spansTo row f := by rw [hstep.out, if_pos hce]
              obtain ⟨vs, hM⟩ := hT.out
              refine ⟨vs, ?_⟩
              have h2 := stab_len s t f
              have h3 := hst.out f (f + 1) (Sea.spansAt (stab s t f) t) (by rw [hsa.out, h1])
              have h4 : (stab s t f).set t (Sea.spansAt (stab s t f) t) = stab s t f := by
                apply spl_ext (by simp)
                intro k _
                rw [spansAt_set (by omega)]
                by_cases hk : k = t
                · rw [hk, if_pos rfl]
                · rw [if_neg hk]
              rw [← h3, h4]
              exact hM
            go_wp2_with (fail)
            exact ⟨⟨f + 1, by omega, by go_num, hT', hB⟩, by simp [intOf]; omega⟩
          · obtain ⟨vs, hM⟩ := hT.out
            have hlen := stab_len s t f
            obtain ⟨z1, z2⟩ := sprow_len hM (i := t) (by omega)
            have hown := hM.own t (by omega)
            have hne := hM.ne t (by omega)
            rw [hsa.out] at hown
            have hs2 : Hid (spansTo row (f + 1) = addSpan (spansTo row f) f) := by show _ = _; rw [hstep.out, if_neg (by unfold Sea.never; omega)]
            have hxl := spansTo_len row f
            generalize hxs : spansTo row f = xs at *
            replace hxs := Lib.hid hxs
            obtain ⟨v0, hv0⟩ : ∃ v0, spAt vs t = v0 := ⟨_, rfl⟩
            rw [hv0] at z1 hown hne
            have hMH := Lib.hid hM
            have hwX := hB.size
            have hzl : X.heap.size < wr.heap.size := World.block_lt_of_cell? _ ⟨_, _, none⟩ z1
            obtain ⟨sa, scap, hsv, hsl⟩ := hown.slice
            replace hv0 := Lib.hid hv0
            have hcn2 : c < 1000000000000000 := by omega
            clear hM hcn hstep
            by_cases hz : xs.length = 0
            · have hap : Hid (addSpan xs f = xs ++ [⟨f, f⟩]) := addSpan_app (.inl hz)
              rw [hz] at hsv
              subst hsv
              replace hz := Lib.hid hz
              have hoH := Lib.hid hown
              clear hown
              go_wp2_with (at_builtin; refine wpList_app_span (by rfl) _ _ (by rfl) X.heap.size wr _ xs ⟨f, f⟩ (by rfl) hoH.out (by rfl) (by omega) hwX ?_; intro v1 w1 ho1 hg1 hat1; obtain ⟨a1, c1, he1, -⟩ := ho1.slice; subst he1; have z5 := (hg1.cell_far ⟨X.heap.size, t, none⟩ (by show X.heap.size < _; omega) (Ne.symm hne)).trans z1; have z6 := (hg1.frozen_far ⟨X.heap.size, t, none⟩ (by show X.heap.size < _; omega) (Ne.symm hne)).trans z2)
              have hput := OwnSpMat.put hMH.out (i := t) (by omega) (by rw [hv0.out]; exact hg1) ho1 (by rw [hv0.out]; exact hat1)
              rw [hst.out f (f + 1) _ (by rw [hs2.out, hap.out]), show (xs ++ [(⟨f, f⟩ : Sea.Span)]).length = xs.length + 1 by simp] at hput
              have hBn : Below X.heap.size X (w1.setCell ⟨X.heap.size, t, none⟩ (.slice a1 (xs.length + 1) c1)) := below_s (hB.grown hg1 hwX (fun k e => (hoH.out.lt k e).1)) (p := ⟨X.heap.size, t, none⟩) (Nat.le_refl _) _
              exact ⟨⟨f + 1, by omega, by go_num, ⟨_, hput⟩, hBn⟩, by simp [intOf]; omega⟩
            · clear hsv sa scap
              obtain ⟨sg, scap, rfl, hsg1, hsg2, -, hcells, hfr⟩ := hown.form (by omega)
              have hc1 := (hcells (xs.length - 1) (by omega)).2
              have hpos : 0 < xs.length := by omega
              have hposd : decide (0 < xs.length) = true := by simpa using hpos
              have hidx : (0 : Int) ≤ (xs.length : Int) - 1 ∧ (xs.length : Int) - 1 < (xs.length : Int) := by omega
              have hfr1 := hfr ((xs.length - 1) * 2 + 1)
              have hoH := Lib.hid hown
              clear hcells hfr hown
              generalize hh : (Sea.spanAt xs (xs.length - 1)).hi = hi at *
              by_cases hhi : hi = f - 1
              · have hap : Hid (addSpan xs f = xs.set (xs.length - 1) ⟨(Sea.spanAt xs (xs.length - 1)).lo, f⟩) := addSpan_set hpos (by rw [hh]; exact hhi)
                have hhe : (hi == (f : Int) - 1) = true := by simpa using hhi
                replace hhi := Lib.hid hhi
                replace hh := Lib.hid hh
                go_wp2_with (fail)
                have hst2 := hoH.out.high (xs.length - 1) (by omega) f
                have hput := OwnSpMat.turn hMH.out (i := t) (by omega) (by rw [hv0.out]; exact hst2.2) (by rw [hv0.out]; have := hst2.1; unfold OwnSpans at this ⊢; exact this)
                rw [hst.out f (f + 1) _ (by rw [hs2.out, hap.out])] at hput
                have hBn : Below X.heap.size X (wr.setCell ⟨sg, (xs.length - 1) * 2 + 1, none⟩ (.int .i64 f)) := below_s hB (p := ⟨sg, (xs.length - 1) * 2 + 1, none⟩) hsg1 _
                exact ⟨⟨f + 1, by omega, by go_num, ⟨_, hput⟩, hBn⟩, by simp [intOf]; omega⟩
              · have hap : Hid (addSpan xs f = xs ++ [⟨f, f⟩]) := addSpan_app (.inr (by rw [hh]; exact hhi))
                have hhe : (hi == (f : Int) - 1) = false := by simpa using hhi
                replace hhi := Lib.hid hhi
                replace hh := Lib.hid hh
                go_wp2_with (at_builtin; refine wpList_app_span (by rfl) _ _ (by rfl) X.heap.size wr _ xs ⟨f, f⟩ (by rfl) hoH.out (by rfl) (by omega) hwX ?_; intro v1 w1 ho1 hg1 hat1; obtain ⟨a1, c1, he1, -⟩ := ho1.slice; subst he1; have z5 := (hg1.cell_far ⟨X.heap.size, t, none⟩ (by show X.heap.size < _; omega) (Ne.symm hne)).trans z1; have z6 := (hg1.frozen_far ⟨X.heap.size, t, none⟩ (by show X.heap.size < _; omega) (Ne.symm hne)).trans z2)
                have hput := OwnSpMat.put hMH.out (i := t) (by omega) (by rw [hv0.out]; exact hg1) ho1 (by rw [hv0.out]; exact hat1)
                rw [hst.out f (f + 1) _ (by rw [hs2.out, hap.out]), show (xs ++ [(⟨f, f⟩ : Sea.Span)]).length = xs.length + 1 by simp] at hput
                have hBn : Below X.heap.size X (w1.setCell ⟨X.heap.size, t, none⟩ (.slice a1 (xs.length + 1) c1)) := below_s (hB.grown hg1 hwX (fun k e => (hoH.out.lt k e).1)) (p := ⟨X.heap.size, t, none⟩) (Nat.le_refl _) _
                exact ⟨⟨f + 1, by omega, by go_num, ⟨_, hput⟩, hBn⟩, by simp [intOf]; omega⟩
        · have hTn : Hid (∃ vs, OwnSpMat X.heap.size X.heap.size wr vs (stab s (t + 1) 0)) := by
            have := hT.out
            rwa [show f = (s.space + 1).toNat by omega, stab_next] at this
          go_wp2_with (fail)
          exact ⟨⟨t + 1, by omega, by go_num, hTn, hB⟩, by simp [intOf]; omega⟩
    · have hTn : Hid (∃ vs, OwnSpMat X.heap.size X.heap.size wr vs (safeRows s)) := by
        have := hT.out
        rwa [show t = s.days.length + 1 by omega, stab_end] at this
      have htd : ¬ ((t : Int) < (s.days.length : Int) + 1) := by omega
      have hsr : Hid ((safeRows s).length = s.days.length + 1) := by show _ = _; unfold safeRows; simp
      go_wp2_with (fail)
      go_ret
      obtain ⟨vs, hM⟩ := hTn.out
      have := hM.at (by rw [hsr.out]; unfold maxLen; omega) (s.days.length + 1)
      rw [hsr.out] at this
      exact ⟨⟨_, rfl, this⟩, hBw.trans ((hb.trans (hB.mono hXs)).mono (Nat.le_of_lt hsz))⟩
end Go.Proofs.Ytacajmpggjgaiaa
