/- Slices of spans, and slices of them, that a call makes itself and appends to. Plain: the season of the document's examples. -/
import Derived.Test.YtacajmpggjgaiaaP10
set_option linter.unusedVariables false
set_option linter.unusedSimpArgs false
namespace Go.Proofs.Ytacajmpggjgaiaa
open Go.RowKit Go.Sd

theorem infoSpan : (Try.prog.info? 23).map (fun i => (i.zero, i.size, i.bytes)) = some (some (.agg #[.int .i64 0, .int .i64 0]), 2, 16) := by kernel_rfl
theorem infoSpans : (Try.prog.info? 60).map (fun i => (i.zero, i.size, i.bytes)) = some (some (.slice none 0 0), 1, 24) := by kernel_rfl

/-- The cells of spans. -/
def spanCells : List Sea.Span → List Value
  | [] => []
  | x :: xs => .int .i64 x.lo :: .int .i64 x.hi :: spanCells xs
theorem spanCells_len : ∀ l, (spanCells l).length = l.length * 2
  | [] => rfl
  | x :: xs => by simp [spanCells, spanCells_len xs]; omega
theorem spanCells_app : ∀ l m, spanCells (l ++ m) = spanCells l ++ spanCells m
  | [], _ => rfl
  | x :: xs, m => by simp [spanCells, spanCells_app xs m]
theorem spanCells_get : ∀ (l : List Sea.Span) (k : Nat), k < l.length → (spanCells l)[k * 2]? = some (.int .i64 (Sea.spanAt l k).lo) ∧ (spanCells l)[k * 2 + 1]? = some (.int .i64 (Sea.spanAt l k).hi)
  | [], k, h => by simp at h
  | x :: xs, 0, _ => ⟨rfl, rfl⟩
  | x :: xs, k + 1, h => by
    have := spanCells_get xs k (by simpa using h)
    rw [show (k + 1) * 2 = k * 2 + 1 + 1 by omega]
    simpa [spanCells, Sea.spanAt] using this
theorem spanCells_set : ∀ (l : List Sea.Span) (k : Nat) (y : Int), k < l.length → (spanCells l).set (k * 2 + 1) (.int .i64 y) = spanCells (l.set k ⟨(Sea.spanAt l k).lo, y⟩)
  | [], k, _, h => by simp at h
  | x :: xs, 0, y, _ => rfl
  | x :: xs, k + 1, y, h => by
    have := spanCells_set xs k y (by simpa using h)
    rw [show (k + 1) * 2 + 1 = (k * 2 + 1) + 1 + 1 by omega]
    simp only [spanCells, List.set_cons_succ, this]
    rfl

/-- A slice of spans of one's own, from block B on. -/
def OwnSpans (B : Nat) (w : World) (v : Value) (xs : List Sea.Span) : Prop := w.ownsRow B 23 2 v xs.length (spanCells xs)
theorem OwnSpans.nil (B : Nat) (w : World) : OwnSpans B w (.slice none 0 0) [] := World.ownsRow_nil w B _ 2
theorem OwnSpans.kept {B : Nat} {w w' : World} {row : Option Nat} {v : Value} {xs : List Sea.Span} (h : OwnSpans B w v xs) (hg : w.grownBy w' row) (hne : v.ownBlock = none ∨ v.ownBlock ≠ row) : OwnSpans B w' v xs := World.ownsRow.kept h hg hne
theorem OwnSpans.lt {B : Nat} {w : World} {v : Value} {xs : List Sea.Span} (h : OwnSpans B w v xs) : ∀ k, v.ownBlock = some k → B ≤ k ∧ k < w.heap.size := World.ownsRow.lt h
theorem OwnSpans.same {B : Nat} {w w' : World} {v : Value} {xs : List Sea.Span} (h : OwnSpans B w v xs) (hb : ∀ k, v.ownBlock = some k → w'.heap[k]? = w.heap[k]?) : OwnSpans B w' v xs := by
  obtain ⟨h1, h2⟩ := h
  refine ⟨h1, ?_⟩
  rcases h2 with h2 | ⟨g, cap, cur, rfl, hB, hg, r⟩
  · exact .inl h2
  · exact .inr ⟨g, cap, cur, rfl, hB, (hb g rfl).trans hg, r⟩
theorem OwnSpans.from {B B' : Nat} {w : World} {v : Value} {xs : List Sea.Span} (h : OwnSpans B w v xs) (hB : B' ≤ B) : OwnSpans B' w v xs := by
  obtain ⟨h1, h2⟩ := h
  refine ⟨h1, ?_⟩
  rcases h2 with h2 | ⟨g, cap, cur, hv, hg, r⟩
  · exact .inl h2
  · exact .inr ⟨g, cap, cur, hv, by omega, r⟩
theorem OwnSpans.at {B : Nat} {w : World} {v : Value} {xs : List Sea.Span} (h : OwnSpans B w v xs) : SpansAt w v xs := by
  have hA := h
  obtain ⟨_, h2⟩ := h
  rcases h2 with ⟨rfl, h0⟩ | ⟨g, cap, cur, rfl, hB, hg, hn, hm, hs, ht⟩
  · refine ⟨none, 0, by rw [h0], by simp [h0], fun h => by omega⟩
  · refine ⟨some ⟨g, 0, none⟩, cap, rfl, by omega, fun _ => ⟨g, 0, rfl, (Array.getElem?_eq_some_iff.1 hg).1, fun k hk => ?_⟩⟩
    have c := spanCells_get xs k hk
    have a1 := hA.cellAt (k * 2) (by omega)
    have a2 := hA.cellAt (k * 2 + 1) (by omega)
    rw [Nat.zero_add]
    exact ⟨a1.trans c.1, a2.trans c.2⟩
/-- The form of one's own slice that is not empty. -/
theorem OwnSpans.form {B : Nat} {w : World} {v : Value} {xs : List Sea.Span} (h : OwnSpans B w v xs) (hn : 0 < xs.length) : ∃ g cap, v = .slice (some ⟨g, 0, none⟩) xs.length cap ∧ B ≤ g ∧ g < w.heap.size ∧ xs.length ≤ 9223372036854775807 ∧
    (∀ k, k < xs.length → w.cell? ⟨g, k * 2, none⟩ = some (.int .i64 (Sea.spanAt xs k).lo) ∧ w.cell? ⟨g, k * 2 + 1, none⟩ = some (.int .i64 (Sea.spanAt xs k).hi)) ∧ (∀ k, w.frozen? ⟨g, k, none⟩ = false) := by
  have h0 := h
  obtain ⟨_, h2⟩ := h
  rcases h2 with ⟨rfl, h0⟩ | ⟨g, cap, cur, rfl, hB, hg, hn', hm, hs, ht⟩
  · omega
  · unfold maxLen at hm
    refine ⟨g, cap, rfl, hB, (Array.getElem?_eq_some_iff.1 hg).1, by omega, fun k hk => ?_, fun k => h0.frozenAt k⟩
    have c := spanCells_get xs k hk
    exact ⟨(h0.cellAt (k * 2) (by omega)).trans c.1, (h0.cellAt (k * 2 + 1) (by omega)).trans c.2⟩
/-- 'xs[k].High = y'. -/
theorem OwnSpans.high {B : Nat} {w : World} {g cap : Nat} {xs : List Sea.Span} (h : OwnSpans B w (.slice (some ⟨g, 0, none⟩) xs.length cap) xs) (k : Nat) (hk : k < xs.length) (y : Int) :
    OwnSpans B (w.setCell ⟨g, k * 2 + 1, none⟩ (.int .i64 y)) (.slice (some ⟨g, 0, none⟩) xs.length cap) (xs.set k ⟨(Sea.spanAt xs k).lo, y⟩) ∧ w.grownBy (w.setCell ⟨g, k * 2 + 1, none⟩ (.int .i64 y)) (some g) := by
  have := h.stored (k * 2 + 1) (.int .i64 y)
  rw [spanCells_set xs k y hk] at this
  refine ⟨?_, this.2⟩
  unfold OwnSpans
  rw [List.length_set]
  exact this.1

/-- 'xs = append(xs, Span{..})'. -/
theorem wpList_app_span {ops : Array Oper} {rest : List Oper} {o : Oper} {a : Act} {Q : Exit → Act → World → Prop} (hgd : o.guard = none) (s x : Operand)
    (ho : o.op = .call { callee := .builtin .append, args := #[s, x], argTypes := #[60, 60] })
    (B : Nat) (w : World) (v : Value) (xs : List Sea.Span) (y : Sea.Span) (hs : a.eval s = v) (hown : OwnSpans B w v xs) (hx : a.eval x = .slice (some ⟨w.heap.size, 0, none⟩) 1 1)
    (hn : xs.length ≤ 1000000) (hB : B ≤ w.heap.size)
    (h : ∀ v' w', OwnSpans B w' v' (xs ++ [y]) → w.grownBy w' v.ownBlock → (v'.ownBlock = v.ownBlock ∨ ∃ m, v'.ownBlock = some m ∧ w.heap.size ≤ m) → wpList Try.prog ops Q rest (a.put o.dst v') w') :
    wpList Try.prog ops Q (o :: rest) a (w.alloc (.cells #[.int .i64 y.lo, .int .i64 y.hi] 23)) := by
  obtain ⟨i0, hi, hz0, hz1, hz2⟩ := info_parts infoSpan
  have hnw := World.alloc_heap_new w (.cells #[.int .i64 y.lo, .int .i64 y.hi] 23)
  refine wpList_append_own_at _ hgd s x 60 ho B 23 i0 _ 2 16 Try.underlying60 hi hz0 hz1 hz2 rfl (by decide) v xs.length _ hs (World.ownsRow.alloc hown _) ⟨w.heap.size, 0, none⟩ 1 1 [.int .i64 y.lo, .int .i64 y.hi] hx rfl ?_ ?_ ?_ ?_ ?_ ?_
  · exact World.news_of_block (cs := #[.int .i64 y.lo, .int .i64 y.hi]) (t := 23) (fr := (0, 0)) hnw
  · simp [Value.oneCell']
  · unfold maxLen; omega
  · omega
  · simp; omega
  · intro v' w' h1 h2 h3 h4
    refine h v' w' ?_ (grownBy_trans (World.grownBy_alloc w _ _) h2) ?_
    · unfold OwnSpans; rw [List.length_append, spanCells_app]; exact h1
    · rcases h4 with h4 | h4
      · exact .inl h4
      · exact .inr ⟨_, h4, by simp⟩

def spAt (vs : List Value) (i : Nat) : Value := vs.getD i (.slice none 0 0)
/-- A slice of slices of spans of one's own. -/
def OwnSpanRows (B : Nat) (w : World) (v : Value) (rows : List (List Sea.Span)) : Prop :=
  ∃ vs : List Value, vs.length = rows.length ∧ w.ownsRow B 60 1 v rows.length vs ∧ ∀ i, i < rows.length → OwnSpans B w (spAt vs i) (Sea.spansAt rows i) ∧ ((spAt vs i).ownBlock = none ∨ (spAt vs i).ownBlock ≠ v.ownBlock)

theorem OwnSpanRows.nil (B : Nat) (w : World) : OwnSpanRows B w (.slice none 0 0) [] := ⟨[], rfl, World.ownsRow_nil w B _ 1, fun i h => by simp at h⟩

theorem OwnSpanRows.same {B : Nat} {w w' : World} {v : Value} {rows : List (List Sea.Span)} (h : OwnSpanRows B w v rows) (hb : ∀ k, B ≤ k → k < w.heap.size → (w'.heap[k]? = w.heap[k]? ∨ ∃ es c, w.heap[k]? = some (.map es c))) : OwnSpanRows B w' v rows := by
  obtain ⟨vs, h1, h2, h3⟩ := h
  refine ⟨vs, h1, ?_, fun i hi => ⟨?_, (h3 i hi).2⟩⟩
  · obtain ⟨h4, h5⟩ := h2
    refine ⟨h4, ?_⟩
    rcases h5 with h5 | ⟨g, cap, cur, rfl, hB, hg, r⟩
    · exact .inl h5
    · refine .inr ⟨g, cap, cur, rfl, hB, ?_, r⟩
      rcases hb g hB (Array.getElem?_eq_some_iff.1 hg).1 with h | ⟨es, c, h⟩
      · exact h.trans hg
      · rw [h] at hg; cases hg
  · obtain ⟨h4, h5⟩ := (h3 i hi).1
    refine ⟨h4, ?_⟩
    rcases h5 with h5 | ⟨g, cap, cur, hv, hB, hg, r⟩
    · exact .inl h5
    · refine .inr ⟨g, cap, cur, hv, hB, ?_, r⟩
      rcases hb g hB (Array.getElem?_eq_some_iff.1 hg).1 with h | ⟨es, c, h⟩
      · exact h.trans hg
      · rw [h] at hg; cases hg

theorem OwnSpanRows.at {B : Nat} {w : World} {v : Value} {rows : List (List Sea.Span)} (h : OwnSpanRows B w v rows) : SpanListsAt w v rows := by
  obtain ⟨vs, h1, h2, h3⟩ := h
  have h0 := h2
  obtain ⟨_, h2⟩ := h2
  rcases h2 with ⟨rfl, hn⟩ | ⟨g, cap, cur, rfl, hB, hg, hn, hm, hs, ht⟩
  · exact ⟨none, 0, by rw [hn], by simp [hn], fun h => by omega⟩
  · refine ⟨some ⟨g, 0, none⟩, cap, rfl, by omega, fun _ => ⟨g, 0, rfl, (Array.getElem?_eq_some_iff.1 hg).1, fun k hk => ⟨spAt vs k, ?_, (h3 k hk).1.at⟩⟩⟩
    rw [Nat.zero_add, h0.cellAt k (by omega)]
    have : k < vs.length := by omega
    simp [spAt, this]

theorem OwnSpanRows.from {B B' : Nat} {w : World} {v : Value} {rows : List (List Sea.Span)} (h : OwnSpanRows B w v rows) (hB : B' ≤ B) : OwnSpanRows B' w v rows := by
  obtain ⟨vs, h1, h2, h3⟩ := h
  refine ⟨vs, h1, ?_, fun i hi => ⟨(h3 i hi).1.from hB, (h3 i hi).2⟩⟩
  obtain ⟨h4, h5⟩ := h2
  refine ⟨h4, ?_⟩
  rcases h5 with h5 | ⟨g, cap, cur, hv, hg, r⟩
  · exact .inl h5
  · exact .inr ⟨g, cap, cur, hv, by omega, r⟩
theorem OwnSpanRows.lt {B : Nat} {w : World} {v : Value} {rows : List (List Sea.Span)} (h : OwnSpanRows B w v rows) : ∀ k, v.ownBlock = some k → B ≤ k ∧ k < w.heap.size := by
  obtain ⟨vs, h1, h2, h3⟩ := h
  exact h2.lt
theorem OwnSpanRows.keptM {B : Nat} {w w' : World} {v : Value} {rows : List (List Sea.Span)} {mb : Nat} {s : Sea.S} (h : OwnSpanRows B w v rows) (hm : Memo w mb s) (hk : Kept (fun k => k ≠ mb) w w') : OwnSpanRows B w' v rows :=
  h.same fun k _ hk' => by
    by_cases e : k = mb
    · obtain ⟨es, c, h1, -⟩ := hm
      exact .inr ⟨es, c, by rw [e]; exact h1⟩
    · exact .inl (hk.block k hk' e)
theorem OwnSpanRows.no_map {B : Nat} {w : World} {v : Value} {rows : List (List Sea.Span)} {mb : Nat} {s : Sea.S} (h : OwnSpanRows B w v rows) (hm : Memo w mb s) : v.ownBlock ≠ some mb := by
  obtain ⟨vs, h1, ⟨_, h2⟩, h3⟩ := h
  obtain ⟨es, c, h1, -⟩ := hm
  rcases h2 with ⟨rfl, h0⟩ | ⟨g, cap, cur, rfl, hB, hg, hn, hm, hs, ht⟩
  · simp [Value.ownBlock]
  · intro e; simp [Value.ownBlock] at e; subst e; rw [hg] at h1; cases h1

/-- 'out = append(out, spans)'. -/
theorem wpList_app_spans {ops : Array Oper} {rest : List Oper} {o : Oper} {a : Act} {Q : Exit → Act → World → Prop} (hgd : o.guard = none) (s x : Operand)
    (ho : o.op = .call { callee := .builtin .append, args := #[s, x], argTypes := #[44, 44] })
    (B : Nat) (w : World) (v y : Value) (rows : List (List Sea.Span)) (xs : List Sea.Span) (hs : a.eval s = v) (hown : OwnSpanRows B w v rows) (hy : OwnSpans B w y xs) (hyv : y.ownBlock = none ∨ y.ownBlock ≠ v.ownBlock) (hx : a.eval x = .slice (some ⟨w.heap.size, 0, none⟩) 1 1)
    (hn : rows.length ≤ 1000000) (hB : B ≤ w.heap.size)
    (h : ∀ v' w', OwnSpanRows B w' v' (rows ++ [xs]) → w.grownBy w' v.ownBlock → (∀ k, v.ownBlock = some k → B ≤ k) → wpList Try.prog ops Q rest (a.put o.dst v') w') :
    wpList Try.prog ops Q (o :: rest) a (w.alloc (.cells #[y] 60)) := by
  obtain ⟨i0, hi, hz0, hz1, hz2⟩ := info_parts infoSpans
  obtain ⟨vs, h1, h2, h3⟩ := hown
  have hnw := World.alloc_heap_new w (.cells #[y] 60)
  have hyc : y.oneCell' = true := by
    obtain ⟨_, hy2⟩ := hy
    rcases hy2 with ⟨rfl, -⟩ | ⟨g, cap, cur, rfl, -⟩ <;> rfl
  refine wpList_append_own_at _ hgd s x 44 ho B 60 i0 _ 1 24 Try.underlying44 hi hz0 hz1 hz2 rfl (by decide) v rows.length _ hs (World.ownsRow.alloc h2 _) ⟨w.heap.size, 0, none⟩ 1 1 [y] hx rfl ?_ ?_ ?_ ?_ ?_ ?_
  · exact World.news_of_block (cs := #[y]) (t := 60) (fr := (0, 0)) hnw
  · simpa using hyc
  · unfold maxLen; omega
  · omega
  · simp; omega
  · intro v' w' g1 g2 g3 g4
    have hg : w.grownBy w' v.ownBlock := grownBy_trans (World.grownBy_alloc w _ _) g2
    have hvb := h2.lt
    refine h v' w' ⟨vs ++ [y], by simp [h1], by rw [List.length_append]; exact g1, fun i hi => ?_⟩ hg (fun k e => (hvb k e).1)
    rw [List.length_append] at hi
    have ap : ∀ (z : Value) (zs : List Sea.Span), OwnSpans B w z zs → (z.ownBlock = none ∨ z.ownBlock ≠ v.ownBlock) → OwnSpans B w' z zs ∧ (z.ownBlock = none ∨ z.ownBlock ≠ v'.ownBlock) := by
      intro z zs hz hzv
      refine ⟨hz.kept hg hzv, ?_⟩
      rcases g4 with e | e
      · rw [e]; exact hzv
      · rw [e]
        cases hzb : z.ownBlock with
        | none => exact .inl rfl
        | some q => refine .inr fun e' => ?_
                    have := (hz.lt q hzb).2
                    simp at e'
                    omega
    by_cases hil : i < rows.length
    · have e1 : spAt (vs ++ [y]) i = spAt vs i := by unfold spAt; rw [List.getD_eq_getElem?_getD, List.getD_eq_getElem?_getD, List.getElem?_append_left (by omega)]
      have e2 : Sea.spansAt (rows ++ [xs]) i = Sea.spansAt rows i := by unfold Sea.spansAt; rw [List.getD_eq_getElem?_getD, List.getD_eq_getElem?_getD, List.getElem?_append_left hil]
      rw [e1, e2]
      exact ap _ _ (h3 i hil).1 (h3 i hil).2
    · have hie : i = rows.length := by simp at hi; omega
      subst hie
      have e1 : spAt (vs ++ [y]) rows.length = y := by unfold spAt; simp [← h1]
      have e2 : Sea.spansAt (rows ++ [xs]) rows.length = xs := by unfold Sea.spansAt; simp
      rw [e1, e2]
      exact ap _ _ hy hyv

theorem OwnSpans.slice {B : Nat} {w : World} {v : Value} {xs : List Sea.Span} (h : OwnSpans B w v xs) : ∃ a cap, v = .slice a xs.length cap ∧ xs.length ≤ 9223372036854775807 := by
  obtain ⟨_, h2⟩ := h
  rcases h2 with ⟨rfl, h0⟩ | ⟨g, cap, cur, rfl, hB, hg, hn, hm, hs, ht⟩
  · exact ⟨none, 0, by rw [h0], by omega⟩
  · unfold maxLen at hm; exact ⟨_, cap, rfl, by omega⟩
theorem OwnSpans.no_map {B : Nat} {w : World} {v : Value} {xs : List Sea.Span} {mb : Nat} {s : Sea.S} (h : OwnSpans B w v xs) (hm : Memo w mb s) : v.ownBlock ≠ some mb := by
  obtain ⟨_, h2⟩ := h
  obtain ⟨es, c, h1, -⟩ := hm
  rcases h2 with ⟨rfl, h0⟩ | ⟨g, cap, cur, rfl, hB, hg, hn, hm, hs, ht⟩
  · simp [Value.ownBlock]
  · intro e; simp [Value.ownBlock] at e; subst e; rw [hg] at h1; cases h1
theorem OwnSpans.keptM {B : Nat} {w w' : World} {v : Value} {xs : List Sea.Span} {mb : Nat} {s : Sea.S} (h : OwnSpans B w v xs) (hm : Memo w mb s) (hk : Kept (fun k => k ≠ mb) w w') : OwnSpans B w' v xs :=
  h.same fun k e => hk.block k (h.lt k e).2 (fun e' => h.no_map hm (by rw [e, e']))
theorem Kept.tail {S : Nat → Prop} {a b c : World} {row : Option Nat} (h : Kept S a b) (hg : b.grownBy c row) (hr : ∀ k, row = some k → a.heap.size ≤ k) : Kept S a c :=
  ⟨hg.os.trans h.os, hg.tape.trans h.tape, hg.output.trans h.output, Nat.le_trans h.size hg.size, fun k hk hs => (hg.block k (Nat.lt_of_lt_of_le hk h.size) (fun e => by have := hr k e.symm; omega)).trans (h.block k hk hs)⟩
theorem MemoAt.tail {w w' : World} {mb : Nat} {s : Sea.S} {row : Option Nat} (h : Memo w mb s) (hg : w.grownBy w' row) (hr : row ≠ some mb) : Memo w' mb s := h.same (hg.block mb h.lt (Ne.symm hr))

/-! Plain -/
/-- A safe fill more. -/
def addSpan (l : List Sea.Span) (f : Int) : List Sea.Span :=
  if 0 < l.length ∧ (Sea.spanAt l (l.length - 1)).hi = f - 1 then l.set (l.length - 1) ⟨(Sea.spanAt l (l.length - 1)).lo, f⟩ else l ++ [⟨f, f⟩]
theorem addSpan_set {l : List Sea.Span} {f : Int} (h : 0 < l.length) (h2 : (Sea.spanAt l (l.length - 1)).hi = f - 1) : addSpan l f = l.set (l.length - 1) ⟨(Sea.spanAt l (l.length - 1)).lo, f⟩ := if_pos ⟨h, h2⟩
theorem addSpan_app {l : List Sea.Span} {f : Int} (h : l.length = 0 ∨ (Sea.spanAt l (l.length - 1)).hi ≠ f - 1) : addSpan l f = l ++ [⟨f, f⟩] := if_neg (by rintro ⟨h1, h2⟩; rcases h with h | h; omega; exact h h2)

/-- The safe ones of the first k fills. -/
def spansTo (row : List Int) : Nat → List Sea.Span
  | 0 => []
  | k + 1 => if Sea.at0 row k = Sea.never then spansTo row k else addSpan (spansTo row k) k
/-- The safe fills ahead of each day, and at the end. -/
def safeRows (s : Sea.S) : List (List Sea.Span) := (List.range (s.days.length + 1)).map fun d => spansTo (wrow s (s.days.length - d)) (s.space + 1).toNat
theorem spansTo_len (row : List Int) : ∀ k, (spansTo row k).length ≤ k
  | 0 => by simp [spansTo]
  | k + 1 => by
    have := spansTo_len row k
    unfold spansTo addSpan
    split
    · omega
    · split <;> simp <;> omega
end Go.Proofs.Ytacajmpggjgaiaa
namespace Go.Proofs.Ytacajmpggjgaiaa
open Go.Sd

def exS : Sea.S := ⟨10, 4, 4, 6, [⟨0, 4, 2⟩, ⟨5, 2, 4⟩], [⟨10, 8, 3, 3, 0, 10, -1, 1⟩, ⟨20, 18, 3, 3, 2, 10, -2, 0⟩, ⟨30, 25, 1, 4, 0, 9, 0, 0⟩]⟩
abbrev exN : List Int := [0, -1, 0]
abbrev exRow : List Int := [1000000000000000, 1000000000000000, 1000000000000000, 30, 0, -25, -50, -75, -100, -100, -100]
abbrev exSafe : List (List Sea.Span) := [[⟨0, 10⟩], [⟨2, 10⟩], [⟨3, 10⟩], [⟨4, 6⟩]]

theorem ex_valid : Sea.validB exS = true := by decide +kernel
theorem ex_noms : exS.nomsB exN = true := by decide +kernel
theorem ex_best : bestOf exS exN = ([3, 2, -4], -30, 0) := by decide +kernel
theorem ex_row : Sea.lstAt (exS.proof exN) 2 = exRow := by decide +kernel
theorem ex_safe : safeRows exS = exSafe := by decide +kernel
theorem ex_worst : worstErr exS 0 4 = (-1, 15, 0) := by decide +kernel
theorem ex_advise : adviseErr exS 0 4 1 = (3, -30, 0) := by decide +kernel
end Go.Proofs.Ytacajmpggjgaiaa
