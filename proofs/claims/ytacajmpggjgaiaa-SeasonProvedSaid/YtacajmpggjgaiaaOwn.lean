/- Slices that a call makes itself and appends to: lists of whole numbers. Slices of slices that a call makes itself: tables that grow row by row. Tables of one's own, whose rows keep clear of some blocks. -/
import Derived.Test.YtacajmpggjgaiaaVars
import Derived.Test.YtacajmpggjgaiaaMem
import Derived.Test.YtacajmpggjgaiaaRows
import Derived.Maps.AppendAt
import Derived.OwnWalk
import Derived.Laws.MakeOwn
set_option linter.unusedVariables false
set_option linter.unusedSimpArgs false
namespace Go.Proofs.Ytacajmpggjgaiaa
open Go.RowKit Go.Sd

theorem infoInt : (Try.prog.info? 3).map (fun i => (i.zero, i.size, i.bytes)) = some (some (.int .i64 0), 1, 8) := by kernel_rfl

/-- A slice of one's own, from block B on. -/
def OwnInts (B : Nat) (w : World) (v : Value) (xs : List Int) : Prop := w.ownsRow B 3 1 v xs.length (xs.map (Value.int .i64))

theorem OwnInts.nil (B : Nat) (w : World) : OwnInts B w (.slice none 0 0) [] := World.ownsRow_nil w B _ 1

theorem OwnInts.lt {B : Nat} {w : World} {v : Value} {xs : List Int} (h : OwnInts B w v xs) : ∀ k, v.ownBlock = some k → B ≤ k ∧ k < w.heap.size := World.ownsRow.lt h

theorem OwnInts.kept {B : Nat} {w w' : World} {row : Option Nat} {v : Value} {xs : List Int} (h : OwnInts B w v xs) (hg : w.grownBy w' row) (hne : v.ownBlock = none ∨ v.ownBlock ≠ row) : OwnInts B w' v xs := World.ownsRow.kept h hg hne

theorem grown_of_below {w w' : World} (h : Below w.heap.size w w') : w.grownBy w' none :=
  ⟨h.os, h.tape, h.output, h.size, fun k hk _ => h.block k hk⟩

theorem OwnInts.mono {B : Nat} {w w' : World} {v : Value} {xs : List Int} (h : OwnInts B w v xs) (hb : Below w.heap.size w w') : OwnInts B w' v xs :=
  h.kept (grown_of_below hb) (by cases v.ownBlock <;> simp)

theorem OwnInts.from {B B' : Nat} {w : World} {v : Value} {xs : List Int} (h : OwnInts B w v xs) (hB : B' ≤ B) : OwnInts B' w v xs := by
  obtain ⟨h1, h2⟩ := h
  refine ⟨h1, ?_⟩
  rcases h2 with h2 | ⟨g, cap, cur, hv, hg, r⟩
  · exact .inl h2
  · exact .inr ⟨g, cap, cur, hv, by omega, r⟩

theorem OwnInts.at {B : Nat} {w : World} {v : Value} {xs : List Int} (h : OwnInts B w v xs) : IntsAt w v xs := by
  obtain ⟨_, h2⟩ := h
  rcases h2 with ⟨rfl, h0⟩ | ⟨g, cap, cur, rfl, hB, hg, hn, hm, hs, ht⟩
  · refine ⟨none, 0, by rw [h0], by simp [h0], fun h => by omega⟩
  · refine ⟨some ⟨g, 0, none⟩, cap, rfl, by omega, fun _ => ⟨g, 0, rfl, (Array.getElem?_eq_some_iff.1 hg).1, fun k hk => ?_⟩⟩
    rw [Nat.zero_add, cell_of_row w g k cur _ (0, 0) hg]
    have h1 : (cur.toList.take (xs.length * 1))[k]? = (xs.map (Value.int .i64))[k]? := by rw [ht]
    rw [List.getElem?_take, if_pos (by omega)] at h1
    simp only [List.getElem?_map, List.getElem?_eq_getElem hk, Option.map_some] at h1
    rw [← Array.getElem?_toList, h1]
    simp [Sea.at0, hk]

/-- One number more. -/
theorem own_more {B : Nat} {w : World} {v : Value} {xs : List Int} {y : Int} (h : w.ownsRow B 3 1 v (xs.length + 1) (xs.map (Value.int .i64) ++ [.int .i64 y])) : OwnInts B w v (xs ++ [y]) := by
  unfold OwnInts
  simpa using h

/-- Behind an append. -/
theorem below_append {B : Nat} {W w w' : World} {v : Value} {xs : List Int} (hb : Below B W w) (hB : B ≤ w.heap.size) (ho : OwnInts B w v xs) (hg : w.grownBy w' v.ownBlock) : Below B W w' :=
  hb.grown hg hB fun k hk => (ho.lt k hk).1

theorem grownBy_trans {a b c : World} {row : Option Nat} (h : a.grownBy b row) (k : b.grownBy c row) : a.grownBy c row :=
  ⟨k.os.trans h.os, k.tape.trans h.tape, k.output.trans h.output, Nat.le_trans h.size k.size, fun i hi hne => (k.block i (Nat.lt_of_lt_of_le hi h.size) hne).trans (h.block i hi hne)⟩

/-- 'xs = append(xs, y)' on a slice of one's own: the number lies in a block of its own. -/
theorem wpList_app_int {ops : Array Oper} {rest : List Oper} {o : Oper} {a : Act} {Q : Exit → Act → World → Prop} (hgd : o.guard = none) (s x : Operand)
    (ho : o.op = .call { callee := .builtin .append, args := #[s, x], argTypes := #[28, 28] })
    (B : Nat) (w : World) (v : Value) (xs : List Int) (y : Int) (hs : a.eval s = v) (hown : OwnInts B w v xs) (hx : a.eval x = .slice (some ⟨w.heap.size, 0, none⟩) 1 1)
    (hn : xs.length ≤ 1000000) (hB : B ≤ w.heap.size)
    (h : ∀ v' w', OwnInts B w' v' (xs ++ [y]) → w.grownBy w' v.ownBlock → v' ≠ .slice none 0 0 → (v'.ownBlock = v.ownBlock ∨ ∃ m, v'.ownBlock = some m ∧ w.heap.size ≤ m) → wpList Try.prog ops Q rest (a.put o.dst v') w') :
    wpList Try.prog ops Q (o :: rest) a (w.alloc (.cells #[.int .i64 y] 3)) := by
  obtain ⟨i0, hi, hz0, hz1, hz2⟩ := info_parts infoInt
  refine wpList_append_own_at _ hgd s x 28 ho B 3 i0 (.int .i64 0) 1 8 Try.underlying28 hi hz0 hz1 hz2 rfl (by decide) v xs.length _ hs (World.ownsRow.alloc hown _) ⟨w.heap.size, 0, none⟩ 1 1 [.int .i64 y] hx rfl ?_ ?_ ?_ ?_ ?_ ?_
  · exact cell_one_new _ _ _
  · simp [Value.oneCell']
  · unfold maxLen; omega
  · omega
  · simp; omega
  · intro v' w' h1 h2 h3 h4
    refine h v' w' (own_more h1) (grownBy_trans (World.grownBy_alloc w _ _) h2) (fun e => by have := h3.1 e; omega) ?_
    rcases h4 with h4 | h4
    · exact .inl h4
    · exact .inr ⟨_, h4, by simp⟩

end Go.Proofs.Ytacajmpggjgaiaa
namespace Go.Proofs.Ytacajmpggjgaiaa
open Go.RowKit Go.Sd

def valAt (vs : List Value) (i : Nat) : Value := vs.getD i (.slice none 0 0)

/-- A table of one's own, from block B on: block b holds the rows' slices. -/
structure OwnMat (B b : Nat) (w : World) (vs : List Value) (rows : List (List Int)) : Prop where
  heap : w.heap[b]? = some (.cells vs.toArray 28)
  len : vs.length = rows.length
  low : B ≤ b
  own : ∀ i, i < rows.length → OwnInts B w (valAt vs i) (Sea.lstAt rows i)
  ne : ∀ i, i < rows.length → (valAt vs i).ownBlock ≠ some b
  apart : ∀ i j, i < rows.length → j < rows.length → i ≠ j → (valAt vs i).ownBlock = none ∨ (valAt vs i).ownBlock ≠ (valAt vs j).ownBlock

theorem OwnMat.grown {B b : Nat} {w w' : World} {vs : List Value} {rows : List (List Int)} (h : OwnMat B b w vs rows) (hg : w.grownBy w' none) : OwnMat B b w' vs rows :=
  ⟨(hg.block b (Array.getElem?_eq_some_iff.1 h.heap).1 (by simp)).trans h.heap, h.len, h.low, fun i hi => (h.own i hi).kept hg (by cases (valAt vs i).ownBlock <;> simp), h.ne, h.apart⟩

theorem OwnMat.mono {B b : Nat} {w w' : World} {vs : List Value} {rows : List (List Int)} (h : OwnMat B b w vs rows) (hb : Below w.heap.size w w') : OwnMat B b w' vs rows := h.grown (grown_of_below hb)

theorem valAt_set {vs : List Value} {i j : Nat} {v : Value} (hi : i < vs.length) : valAt (vs.set i v) j = if j = i then v else valAt vs j := by
  unfold valAt
  by_cases h : j = i
  · subst h; simp [hi]
  · simp [h, List.getElem?_set, Ne.symm h]
theorem lstAt_set {rows : List (List Int)} {i j : Nat} {v : List Int} (hi : i < rows.length) : Sea.lstAt (rows.set i v) j = if j = i then v else Sea.lstAt rows j := by
  unfold Sea.lstAt
  by_cases h : j = i
  · subst h; simp [hi]
  · simp [h, List.getElem?_set, Ne.symm h]

/-- One number more in row i: append, and the store of the row's slice. -/
theorem OwnMat.more {B b : Nat} {w w1 : World} {vs : List Value} {rows : List (List Int)} {i : Nat} {v' : Value} {y : Int} (h : OwnMat B b w vs rows) (hi : i < rows.length)
    (hg : w.grownBy w1 (valAt vs i).ownBlock) (ho : OwnInts B w1 v' (Sea.lstAt rows i ++ [y])) (hat : v'.ownBlock = (valAt vs i).ownBlock ∨ ∃ m, v'.ownBlock = some m ∧ w.heap.size ≤ m) :
    OwnMat B b (w1.setCell ⟨b, i, none⟩ v') (vs.set i v') (rows.set i (Sea.lstAt rows i ++ [y])) := by
  have hiv : i < vs.length := by rw [h.len]; exact hi
  have hlt := (Array.getElem?_eq_some_iff.1 h.heap).1
  have hb1 : w1.heap[b]? = some (.cells vs.toArray 28) := (hg.block b hlt (Ne.symm (h.ne i hi))).trans h.heap
  have hv'b : v'.ownBlock ≠ some b := by
    rcases hat with e | ⟨m, e, hm⟩
    · rw [e]; exact h.ne i hi
    · rw [e]; intro h'; cases h'; omega
  have hset : w1.grownBy (w1.setCell ⟨b, i, none⟩ v') (some b) := ⟨rfl, rfl, rfl, by simp [World.setCell], fun k _ hk => Below.heap_setCell _ _ _ _ (fun e => hk (by rw [e]))⟩
  have away : ∀ j, j < rows.length → j ≠ i → (valAt vs j).ownBlock = none ∨ (valAt vs j).ownBlock ≠ v'.ownBlock := by
    intro j hj hji
    rcases hat with e | ⟨m, e, hm⟩
    · rw [e]; exact h.apart j i hj hi hji
    · rw [e]
      cases hq : (valAt vs j).ownBlock with
      | none => exact .inl rfl
      | some q => exact .inr (by have := ((h.own j hj).lt q hq).2; intro h'; cases h'; omega)
  refine ⟨?_, by simp [h.len], h.low, ?_, ?_, ?_⟩
  · simp only [World.setCell, Array.getElem?_modify, if_true, hb1]
    simp
  · intro j hj
    rw [List.length_set] at hj
    rw [valAt_set hiv, lstAt_set hi]
    by_cases hji : j = i
    · rw [if_pos hji, if_pos hji]
      exact ho.kept hset (.inr hv'b)
    · rw [if_neg hji, if_neg hji]
      exact ((h.own j hj).kept hg (h.apart j i hj hi hji)).kept hset (.inr (h.ne j hj))
  · intro j hj
    rw [List.length_set] at hj
    rw [valAt_set hiv]
    by_cases hji : j = i
    · rw [if_pos hji]; exact hv'b
    · rw [if_neg hji]; exact h.ne j hj
  · intro j k hj hk hjk
    rw [List.length_set] at hj hk
    rw [valAt_set hiv, valAt_set hiv]
    by_cases hji : j = i
    · by_cases hki : k = i
      · omega
      · rw [if_pos hji, if_neg hki]
        rcases away k hk hki with e | e
        · rw [e]; cases hq : v'.ownBlock with
          | none => exact .inl rfl
          | some q => exact .inr (by simp)
        · exact .inr (Ne.symm e)
    · by_cases hki : k = i
      · rw [if_neg hji, if_pos hki]; exact away j hj hji
      · rw [if_neg hji, if_neg hki]; exact h.apart j k hj hk hjk

/-- A table of one's own is a list of lists. -/
theorem OwnMat.at {B b : Nat} {w : World} {vs : List Value} {rows : List (List Int)} (h : OwnMat B b w vs rows) (hm : rows.length ≤ maxLen) (cap : Nat) : ListsAt w (.slice (some ⟨b, 0, none⟩) rows.length cap) rows := by
  refine ⟨_, cap, rfl, hm, fun _ => ⟨b, 0, rfl, (Array.getElem?_eq_some_iff.1 h.heap).1, fun k hk => ⟨valAt vs k, ?_, (h.own k hk).at⟩⟩⟩
  rw [(row_cells h.heap).2.1]
  have : k < vs.length := by rw [h.len]; exact hk
  simp [valAt, this]

/-- A table that has just been made. -/
theorem OwnMat.made (B n : Nat) (w : World) (hB : B ≤ w.heap.size) : OwnMat B w.heap.size (w.alloc (.cells (Array.replicate n (.slice none 0 0)) 28)) (List.replicate n (.slice none 0 0)) (List.replicate n []) := by
  have hv : ∀ i, valAt (List.replicate n (.slice none 0 0)) i = .slice none 0 0 := by
    intro i; unfold valAt; by_cases h : i < n <;> simp [h]
  refine ⟨(World.alloc_heap_new _ _).trans (by simp), by simp, hB, ?_, ?_, ?_⟩
  · intro i hi
    rw [hv]
    have : Sea.lstAt (List.replicate n ([] : List Int)) i = [] := by unfold Sea.lstAt; by_cases h : i < n <;> simp [h]
    rw [this]
    exact OwnInts.nil _ _
  · intro i _; rw [hv]; simp [Value.ownBlock]
  · intro i j _ _ _; rw [hv]; exact .inl rfl
end Go.Proofs.Ytacajmpggjgaiaa
namespace Go.Proofs.Ytacajmpggjgaiaa
open Go.RowKit Go.Sd

/-- A table of one's own whose rows lie in none of some blocks. -/
def TabAt (B b : Nat) (bad : List Nat) (w : World) (rows : List (List Int)) : Prop :=
  ∃ vs, OwnMat B b w vs rows ∧ ∀ i, i < rows.length → ∀ k, k ∈ bad → (valAt vs i).ownBlock ≠ some k

theorem TabAt.mono {B b : Nat} {bad : List Nat} {w w' : World} {rows : List (List Int)} (h : TabAt B b bad w rows) (hb : Below w.heap.size w w') : TabAt B b bad w' rows := by
  obtain ⟨vs, h1, h2⟩ := h
  exact ⟨vs, h1.mono hb, h2⟩
theorem TabAt.add {B b : Nat} {bad : List Nat} {w : World} {rows : List (List Int)} (h : TabAt B b bad w rows) {m : Nat} (hm : w.heap.size ≤ m) : TabAt B b (m :: bad) w rows := by
  obtain ⟨vs, h1, h2⟩ := h
  refine ⟨vs, h1, fun i hi k hk e => ?_⟩
  rcases List.mem_cons.1 hk with rfl | hk
  · have := ((h1.own i hi).lt _ e).2; omega
  · exact h2 i hi k hk e
theorem TabAt.less {B b : Nat} {bad bad' : List Nat} {w : World} {rows : List (List Int)} (h : TabAt B b bad w rows) (hs : ∀ k, k ∈ bad' → k ∈ bad) : TabAt B b bad' w rows := by
  obtain ⟨vs, h1, h2⟩ := h
  exact ⟨vs, h1, fun i hi k hk => h2 i hi k (hs k hk)⟩

theorem OwnInts.same {B : Nat} {w w' : World} {v : Value} {xs : List Int} (h : OwnInts B w v xs) (hb : ∀ k, v.ownBlock = some k → w'.heap[k]? = w.heap[k]?) : OwnInts B w' v xs := by
  obtain ⟨h1, h2⟩ := h
  refine ⟨h1, ?_⟩
  rcases h2 with h2 | ⟨g, cap, cur, rfl, hB, hg, r⟩
  · exact .inl h2
  · exact .inr ⟨g, cap, cur, rfl, hB, (hb g rfl).trans hg, r⟩

theorem TabAt.kept {B b : Nat} {bad : List Nat} {w w' : World} {rows : List (List Int)} (h : TabAt B b bad w rows) (hk : Kept (fun k => B ≤ k ∧ k ∉ bad) w w') (hb : b ∉ bad) : TabAt B b bad w' rows := by
  obtain ⟨vs, h1, h2⟩ := h
  refine ⟨vs, ⟨(hk.block b (Array.getElem?_eq_some_iff.1 h1.heap).1 ⟨h1.low, hb⟩).trans h1.heap, h1.len, h1.low, fun i hi => (h1.own i hi).same fun k e => hk.block k ((h1.own i hi).lt k e).2 ⟨((h1.own i hi).lt k e).1, fun hm => h2 i hi k hm e⟩, h1.ne, h1.apart⟩, h2⟩

theorem TabAt.setCell {B b : Nat} {bad : List Nat} {w : World} {rows : List (List Int)} (h : TabAt B b bad w rows) {p : Addr} (hp : p.block ∈ bad) (hb : b ∉ bad) (u : Value) : TabAt B b bad (w.setCell p u) rows :=
  h.kept ((Kept.refl _ _).setCell (.inl fun h => h.2 hp) u) hb

/-- Behind 'out[i] = append(out[i], y)'. -/
theorem tab_more {B b : Nat} {bad : List Nat} {w w1 : World} {vs : List Value} {rows : List (List Int)} {i : Nat} {g cap : Nat} {y : Int} (h : OwnMat B b w vs rows) (hbad : ∀ i, i < rows.length → ∀ k, k ∈ bad → (valAt vs i).ownBlock ≠ some k)
    (hi : i < rows.length) (hlt : ∀ k, k ∈ bad → k < w.heap.size) (hbb : b ∉ bad) {n : Nat} (hn : n = (Sea.lstAt rows i).length)
    (hown : w1.ownsRow B 3 1 (.slice (some ⟨g, 0, none⟩) (n + 1) cap) (n + 1) ((Sea.lstAt rows i).map (Value.int .i64) ++ [.int .i64 y]))
    (hg : w.grownBy w1 (valAt vs i).ownBlock) (hat : (valAt vs i).ownBlock = some g ∨ w.heap.size ≤ g) :
    TabAt B b bad (w1.setCell ⟨b, i, none⟩ (.slice (some ⟨g, 0, none⟩) (n + 1) cap)) (rows.set i (Sea.lstAt rows i ++ [y])) ∧
      Kept (fun k => k < B ∨ k ∈ bad) w (w1.setCell ⟨b, i, none⟩ (.slice (some ⟨g, 0, none⟩) (n + 1) cap)) := by
  subst hn
  have hiv : i < vs.length := by rw [h.len]; exact hi
  have hm := h.more (i := i) (y := y) hi hg (own_more hown) (by rcases hat with e | e; exact .inl e.symm; exact .inr ⟨g, rfl, e⟩)
  refine ⟨⟨_, hm, ?_⟩, ?_⟩
  · intro j hj k hk
    rw [List.length_set] at hj
    rw [valAt_set hiv]
    by_cases hji : j = i
    · rw [if_pos hji]
      show some g ≠ _
      rcases hat with e | e
      · rw [← e]; exact hbad i hi k hk
      · intro h'; cases h'; have := hlt g hk; omega
    · rw [if_neg hji]; exact hbad j hj k hk
  · refine (Kept.grown hg ?_).setCell (p := ⟨b, i, none⟩) (.inl ?_) _
    · rintro k - (hk | hk) e
      · have := ((h.own i hi).lt k e.symm).1; omega
      · exact hbad i hi k hk e.symm
    · rintro (hk | hk)
      · have := h.low; have : b < B := hk; omega
      · exact hbb hk

theorem row_len {B b : Nat} {w : World} {vs : List Value} {rows : List (List Int)} (h : OwnMat B b w vs rows) {i : Nat} (hi : i < rows.length) :
    w.cell? ⟨b, i, none⟩ = some (valAt vs i) ∧ w.frozen? ⟨b, i, none⟩ = false := by
  have hvl : i < vs.length := by rw [h.len]; exact hi
  refine ⟨?_, (row_cells h.heap).2.2 _⟩
  rw [(row_cells h.heap).2.1]; simp [valAt, hvl]

/-- What a drawn region keeps hold of: the world has grown, two cells hold what they held. -/
theorem held2 {X w1 : World} (h : Below X.heap.size X w1) {b o b' o' : Nat} {v v' : Value} (h1 : X.cell? ⟨b, o, none⟩ = some v) (h2 : X.cell? ⟨b', o', none⟩ = some v') :
    Below X.heap.size X w1 ∧ w1.cell? ⟨b, o, none⟩ = some v ∧ w1.cell? ⟨b', o', none⟩ = some v' := ⟨h, kept_cell h h1, kept_cell h h2⟩
theorem below_al {X w1 : World} (h : Below X.heap.size X w1) (o : Obj) : Below X.heap.size X (w1.alloc o) := h.alloc h.size o
theorem below_tr {X w1 w2 : World} (h : Below X.heap.size X w1) (h2 : Below w1.heap.size w1 w2) : Below X.heap.size X w2 := h.trans (h2.mono h.size)

theorem below_s {X w1 : World} (h : Below X.heap.size X w1) {p : Addr} (hp : X.heap.size ≤ p.block) (u : Value) : Below X.heap.size X (w1.setCell p u) := h.setCell hp u
theorem block_al {w w1 : World} {o : Obj} (h : Below (w.alloc o).heap.size (w.alloc o) w1) : w1.heap[w.heap.size]? = some o :=
  (h.block _ (by rw [World.size_alloc]; exact Nat.lt_succ_self _)).trans (World.alloc_heap_new _ _)
theorem block_on {w w1 : World} {o : Obj} {n : Nat} (h : Below w.heap.size w w1) (hn : w.heap[n]? = some o) : w1.heap[n]? = some o :=
  (h.block _ (Array.getElem?_eq_some_iff.1 hn).1).trans hn
theorem cells5 {w : World} {n : Nat} {a b c d f : Value} {e : TypeId} (h : w.heap[n]? = some (.cells #[a, b, c, d, f] e)) :
    (w.cell? ⟨n, 0, none⟩ = some a ∧ w.cell? ⟨n, 1, none⟩ = some b ∧ w.cell? ⟨n, 2, none⟩ = some c ∧ w.cell? ⟨n, 3, none⟩ = some d ∧ w.cell? ⟨n, 4, none⟩ = some f) ∧
    w.frozen? ⟨n, 0, none⟩ = false ∧ w.frozen? ⟨n, 1, none⟩ = false ∧ w.frozen? ⟨n, 2, none⟩ = false ∧ w.frozen? ⟨n, 3, none⟩ = false ∧ w.frozen? ⟨n, 4, none⟩ = false := by
  obtain ⟨-, h1, h2⟩ := row_cells h
  exact ⟨⟨h1 0, h1 1, h1 2, h1 3, h1 4⟩, h2 0, h2 1, h2 2, h2 3, h2 4⟩

/-- The number in a variable's block. -/
def boxInt (p : Value) (w : World) : Int := match p with | .pointer (some a) => intOf ((w.cell? a).getD (.int .i64 0)) | _ => 0
theorem boxInt_of {w : World} {b o : Nat} {n : Int} (h : w.cell? ⟨b, o, none⟩ = some (.int .i64 n)) : boxInt (.pointer (some ⟨b, o, none⟩)) w = n := by
  show intOf ((w.cell? ⟨b, o, none⟩).getD _) = n
  rw [h]; rfl

/-- Cells of blocks that the rows keep clear of. -/
theorem Kept.cell2 {S : Nat → Prop} {w w' : World} (h : Kept S w w') {b o : Nat} {v : Value} (hs : S b) (hv : w.cell? ⟨b, o, none⟩ = some v) : w'.cell? ⟨b, o, none⟩ = some v := h.cell hs hv
end Go.Proofs.Ytacajmpggjgaiaa
