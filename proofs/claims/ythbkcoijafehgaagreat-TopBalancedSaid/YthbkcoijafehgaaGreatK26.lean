/- Laws and walks: LTab. -/
import Derived.Test.YthbkcoijafehgaaGreatK25
set_option linter.unusedVariables false
set_option linter.unusedSimpArgs false
namespace Go.Proofs.YthbkcoijafehgaaGreat.L
open Go.RowKit Go.Sd Lk
def valAt (vs : List Value) (i : Nat) : Value := vs.getD i (.slice none 0 0)
theorem valAt_set {vs : List Value} {i j : Nat} {v : Value} (hi : i < vs.length) : valAt (vs.set i v) j = if j = i then v else valAt vs j := by
  unfold valAt
  by_cases h : j = i
  · subst h; simp [hi]
  · simp [h, List.getElem?_set, Ne.symm h]
theorem getD_set {α : Type} {rows : List (List α)} {i j : Nat} {v : List α} (hi : i < rows.length) : (rows.set i v).getD j [] = if j = i then v else rows.getD j [] := by
  by_cases h : j = i
  · subst h; simp [hi]
  · simp [h, List.getElem?_set, Ne.symm h]
section
variable {α : Type} {R E : TypeId} {m : Nat} {enc : α → List Value} {B b : Nat} {bad : List Nat} {w w' w1 : World} {vs : List Value} {rows : List (List α)}
/-- A table of one's own, from block B on: block b holds the rows' slices. -/
structure OwnMat {α : Type} (R E : TypeId) (m : Nat) (enc : α → List Value) (B b : Nat) (w : World) (vs : List Value) (rows : List (List α)) : Prop where
  heap : w.heap[b]? = some (.cells vs.toArray R)
  len : vs.length = rows.length
  low : B ≤ b
  own : ∀ i, i < rows.length → OwnSt E m enc B w (valAt vs i) (rows.getD i [])
  ne : ∀ i, i < rows.length → (valAt vs i).ownBlock ≠ some b
  apart : ∀ i j, i < rows.length → j < rows.length → i ≠ j → (valAt vs i).ownBlock = none ∨ (valAt vs i).ownBlock ≠ (valAt vs j).ownBlock
theorem OwnMat.grown (h : OwnMat R E m enc B b w vs rows) (hg : w.grownBy w' none) : OwnMat R E m enc B b w' vs rows :=
  ⟨(hg.block b (Array.getElem?_eq_some_iff.1 h.heap).1 (by simp)).trans h.heap, h.len, h.low, fun i hi => (h.own i hi).kept hg (by cases (valAt vs i).ownBlock <;> simp), h.ne, h.apart⟩
theorem OwnMat.mono (h : OwnMat R E m enc B b w vs rows) (hb : Below w.heap.size w w') : OwnMat R E m enc B b w' vs rows := h.grown (grown_of_below hb)
/-- One element more in row i: append, and the store of the row's slice. -/
theorem OwnMat.more {i : Nat} {v' : Value} {y : α} (h : OwnMat R E m enc B b w vs rows) (hi : i < rows.length)
    (hg : w.grownBy w1 (valAt vs i).ownBlock) (ho : OwnSt E m enc B w1 v' (rows.getD i [] ++ [y])) (hat : v'.ownBlock = (valAt vs i).ownBlock ∨ ∃ k, v'.ownBlock = some k ∧ w.heap.size ≤ k) :
    OwnMat R E m enc B b (w1.setCell ⟨b, i, none⟩ v') (vs.set i v') (rows.set i (rows.getD i [] ++ [y])) := by
  have hiv : i < vs.length := by rw [h.len]; exact hi
  have hlt := (Array.getElem?_eq_some_iff.1 h.heap).1
  have hb1 : w1.heap[b]? = some (.cells vs.toArray R) := (hg.block b hlt (Ne.symm (h.ne i hi))).trans h.heap
  have hv'b : v'.ownBlock ≠ some b := by
    rcases hat with e | ⟨k, e, hk⟩
    · rw [e]; exact h.ne i hi
    · rw [e]; intro h'; cases h'; omega
  have hset : w1.grownBy (w1.setCell ⟨b, i, none⟩ v') (some b) := ⟨rfl, rfl, rfl, by simp [World.setCell], fun k _ hk => Below.heap_setCell _ _ _ _ (fun e => hk (by rw [e]))⟩
  have away : ∀ j, j < rows.length → j ≠ i → (valAt vs j).ownBlock = none ∨ (valAt vs j).ownBlock ≠ v'.ownBlock := by
    intro j hj hji
    rcases hat with e | ⟨k, e, hk⟩
    · rw [e]; exact h.apart j i hj hi hji
    · rw [e]
      cases hq : (valAt vs j).ownBlock with
      | none => exact .inl rfl
      | some q => exact .inr (by have := ((h.own j hj).lt q hq).2; intro h'; cases h'; omega)
  refine ⟨?_, by simp [h.len], h.low, ?_, ?_, ?_⟩
  · simp only [World.setCell, Array.getElem?_modify, if_true, hb1]
    simp
  · intro j hj
    rw [List.length_set] at hj
    rw [valAt_set hiv, getD_set hi]
    by_cases hji : j = i
    · rw [if_pos hji, if_pos hji]
      exact ho.kept hset (.inr hv'b)
    · rw [if_neg hji, if_neg hji]
      exact ((h.own j hj).kept hg (h.apart j i hj hi hji)).kept hset (.inr (h.ne j hj))
  · intro j hj
    rw [List.length_set] at hj
    rw [valAt_set hiv]
    by_cases hji : j = i
    · rw [if_pos hji]; exact hv'b
    · rw [if_neg hji]; exact h.ne j hj
  · intro j k hj hk hjk
    rw [List.length_set] at hj hk
    rw [valAt_set hiv, valAt_set hiv]
    by_cases hji : j = i
    · by_cases hki : k = i
      · omega
      · rw [if_pos hji, if_neg hki]
        rcases away k hk hki with e | e
        · rw [e]; cases hq : v'.ownBlock with
          | none => exact .inl rfl
          | some q => exact .inr (by simp)
        · exact .inr (Ne.symm e)
    · by_cases hki : k = i
      · rw [if_neg hji, if_pos hki]; exact away j hj hji
      · rw [if_neg hji, if_neg hki]; exact h.apart j k hj hk hjk
/-- A table of one's own is a list of lists. -/
theorem OwnMat.at (hm : ∀ x, (enc x).length = m) (d : α) (h : OwnMat R E m enc B b w vs rows) (hx : rows.length ≤ maxLen) (cap : Nat) : RowsAt m enc d w (.slice (some ⟨b, 0, none⟩) rows.length cap) rows := by
  refine ⟨_, cap, rfl, hx, fun _ => ⟨b, 0, rfl, (Array.getElem?_eq_some_iff.1 h.heap).1, fun k hk => ⟨valAt vs k, ?_, (h.own k hk).els hm d⟩⟩⟩
  rw [(row_cells h.heap).2.1]
  have : k < vs.length := by rw [h.len]; exact hk
  simp [valAt, this]
/-- A table that has just been made. -/
theorem OwnMat.made (R E : TypeId) (m : Nat) (enc : α → List Value) (B n : Nat) (w : World) (hB : B ≤ w.heap.size) : OwnMat R E m enc B w.heap.size (w.alloc (.cells (Array.replicate n (.slice none 0 0)) R)) (List.replicate n (.slice none 0 0)) (List.replicate n []) := by
  have hv : ∀ i, valAt (List.replicate n (.slice none 0 0)) i = .slice none 0 0 := by
    intro i; unfold valAt; by_cases h : i < n <;> simp [h]
  refine ⟨(World.alloc_heap_new _ _).trans (by simp), by simp, hB, ?_, ?_, ?_⟩
  · intro i hi
    rw [hv]
    have : (List.replicate n ([] : List α)).getD i [] = [] := by by_cases h : i < n <;> simp [h]
    rw [this]
    exact OwnSt.nil _ _ _ _ _
  · intro i _; rw [hv]; simp [Value.ownBlock]
  · intro i j _ _ _; rw [hv]; exact .inl rfl
/-- A table of one's own whose rows lie in none of some blocks. -/
def TabAt {α : Type} (R E : TypeId) (m : Nat) (enc : α → List Value) (B b : Nat) (bad : List Nat) (w : World) (rows : List (List α)) : Prop :=
  ∃ vs, OwnMat R E m enc B b w vs rows ∧ ∀ i, i < rows.length → ∀ k, k ∈ bad → (valAt vs i).ownBlock ≠ some k
theorem TabAt.mono (h : TabAt R E m enc B b bad w rows) (hb : Below w.heap.size w w') : TabAt R E m enc B b bad w' rows := by
  obtain ⟨vs, h1, h2⟩ := h
  exact ⟨vs, h1.mono hb, h2⟩
theorem TabAt.add (h : TabAt R E m enc B b bad w rows) {k : Nat} (hk : w.heap.size ≤ k) : TabAt R E m enc B b (k :: bad) w rows := by
  obtain ⟨vs, h1, h2⟩ := h
  refine ⟨vs, h1, fun i hi j hj e => ?_⟩
  rcases List.mem_cons.1 hj with rfl | hj
  · have := ((h1.own i hi).lt _ e).2; omega
  · exact h2 i hi j hj e
theorem TabAt.less {bad' : List Nat} (h : TabAt R E m enc B b bad w rows) (hs : ∀ k, k ∈ bad' → k ∈ bad) : TabAt R E m enc B b bad' w rows := by
  obtain ⟨vs, h1, h2⟩ := h
  exact ⟨vs, h1, fun i hi k hk => h2 i hi k (hs k hk)⟩
theorem TabAt.kept (h : TabAt R E m enc B b bad w rows) (hk : Kept (fun k => B ≤ k ∧ k ∉ bad) w w') (hb : b ∉ bad) : TabAt R E m enc B b bad w' rows := by
  obtain ⟨vs, h1, h2⟩ := h
  refine ⟨vs, ⟨(hk.block b (Array.getElem?_eq_some_iff.1 h1.heap).1 ⟨h1.low, hb⟩).trans h1.heap, h1.len, h1.low, fun i hi => (h1.own i hi).same fun k e => hk.block k ((h1.own i hi).lt k e).2 ⟨((h1.own i hi).lt k e).1, fun hm => h2 i hi k hm e⟩, h1.ne, h1.apart⟩, h2⟩
theorem TabAt.setCell (h : TabAt R E m enc B b bad w rows) {p : Addr} (hp : p.block ∈ bad ∨ p.block < B) (hb : b ∉ bad) (u : Value) : TabAt R E m enc B b bad (w.setCell p u) rows :=
  h.kept ((Kept.refl _ _).setCell (.inl fun h => by rcases hp with hp | hp; exact h.2 hp; have := h.1; omega) u) hb
/-- Behind 'out[i] = append(out[i], y)'. -/
theorem tab_more {i g cap : Nat} {y : α} (h : OwnMat R E m enc B b w vs rows) (hbad : ∀ i, i < rows.length → ∀ k, k ∈ bad → (valAt vs i).ownBlock ≠ some k)
    (hi : i < rows.length) (hlt : ∀ k, k ∈ bad → k < w.heap.size) (hbb : b ∉ bad) {n : Nat} (hn : n = (rows.getD i []).length)
    (hown : w1.ownsRow B E m (.slice (some ⟨g, 0, none⟩) (n + 1) cap) (n + 1) ((rows.getD i []).flatMap enc ++ enc y))
    (hg : w.grownBy w1 (valAt vs i).ownBlock) (hat : (valAt vs i).ownBlock = some g ∨ w.heap.size ≤ g) :
    TabAt R E m enc B b bad (w1.setCell ⟨b, i, none⟩ (.slice (some ⟨g, 0, none⟩) (n + 1) cap)) (rows.set i (rows.getD i [] ++ [y])) ∧
      Kept (fun k => k < B ∨ k ∈ bad) w (w1.setCell ⟨b, i, none⟩ (.slice (some ⟨g, 0, none⟩) (n + 1) cap)) := by
  subst hn
  have hiv : i < vs.length := by rw [h.len]; exact hi
  have ho : OwnSt E m enc B w1 (.slice (some ⟨g, 0, none⟩) ((rows.getD i []).length + 1) cap) (rows.getD i [] ++ [y]) := by
    unfold OwnSt
    rw [List.length_append, List.flatMap_append]
    simpa using hown
  have hm := h.more (i := i) (y := y) hi hg ho (by rcases hat with e | e; exact .inl e.symm; exact .inr ⟨g, rfl, e⟩)
  refine ⟨⟨_, hm, ?_⟩, ?_⟩
  · intro j hj k hk
    rw [List.length_set] at hj
    rw [valAt_set hiv]
    by_cases hji : j = i
    · rw [if_pos hji]
      show some g ≠ _
      rcases hat with e | e
      · rw [← e]; exact hbad i hi k hk
      · intro h'; cases h'; have := hlt g hk; omega
    · rw [if_neg hji]; exact hbad j hj k hk
  · refine (Kept.grown hg ?_).setCell (p := ⟨b, i, none⟩) (.inl ?_) _
    · rintro k - (hk | hk) e
      · have := ((h.own i hi).lt k e.symm).1; omega
      · exact hbad i hi k hk e.symm
    · rintro (hk | hk)
      · have := h.low; have : b < B := hk; omega
      · exact hbb hk
theorem row_len (h : OwnMat R E m enc B b w vs rows) {i : Nat} (hi : i < rows.length) :
    w.cell? ⟨b, i, none⟩ = some (valAt vs i) ∧ w.frozen? ⟨b, i, none⟩ = false := by
  have hvl : i < vs.length := by rw [h.len]; exact hi
  refine ⟨?_, (row_cells h.heap).2.2 _⟩
  rw [(row_cells h.heap).2.1]; simp [valAt, hvl]
end
abbrev SpTab (B b : Nat) (bad : List Nat) (w : World) (rows : List (List Sp)) : Prop := TabAt 43 23 2 spEnc B b bad w rows
/-! ### Rows that are made -/
theorem infoSps : (Tryz.prog.info? 43).map (fun i => (i.zero, i.size, i.bytes)) = some (some (.slice none 0 0), 1, 24) := by kernel_rfl
theorem madeCells_one (z : Value) (n : Nat) : madeCells #[z] n = Array.replicate n z := by
  apply Array.ext
  · simp [madeCells]
  · intro i h1 h2
    simp [madeCells, Nat.mod_one]
theorem madeCells_two (z : Value) (n : Nat) : madeCells #[z, z] n = Array.replicate n z := by
  apply Array.ext
  · simp [madeCells]
  · intro i h1 h2
    have : i % 2 = 0 ∨ i % 2 = 1 := by omega
    rcases this with h | h <;> simp [madeCells, h]
theorem spCells_zero : ∀ n, spCells (List.replicate n ⟨0, 0⟩) = List.replicate (n * 2) (.int .i64 0)
  | 0 => rfl
  | n + 1 => by
    rw [List.replicate_succ, show (n + 1) * 2 = n * 2 + 1 + 1 by omega, List.replicate_succ, List.replicate_succ]
    simp only [spCells, spCells_zero n]
theorem make_rows (w : World) (n : Nat) (hn : n ≤ 1000) : (Instr.makeSlice 44 (.int .i64 (n : Int)) (.int .i64 (n : Int))).run Tryz.prog w =
    .ok (.slice (some ⟨w.heap.size, 0, none⟩) n n) (w.alloc (.cells (Array.replicate n (.slice none 0 0)) 43)) := by
  obtain ⟨i0, hi, hz0, hz1, hz2⟩ := info_parts infoSps
  have h := run_makeSlice (P := Tryz.prog) w 44 43 i0 (.slice none 0 0) Tryz.underlying44 hi hz0 .i64 .i64 (n : Int) (n : Int) (by omega) (by omega) (by rw [hz1]; omega) (by rw [hz2]; omega) (by omega)
  rw [hz1, Int.toNat_natCast, Nat.mul_one, show Value.cells (.slice none 0 0) = #[.slice none 0 0] from rfl, madeCells_one] at h
  exact h
theorem make_sps (w : World) (n : Nat) (hn : n ≤ 1000) : (Instr.makeSlice 43 (.int .i64 (n : Int)) (.int .i64 (n : Int))).run Tryz.prog w =
    .ok (.slice (some ⟨w.heap.size, 0, none⟩) n n) (w.alloc (.cells (spCells (List.replicate n ⟨0, 0⟩)).toArray 23)) := by
  obtain ⟨i0, hi, hz0, hz1, hz2⟩ := info_parts infoSp
  have h := run_makeSlice (P := Tryz.prog) w 43 23 i0 (.agg #[.int .i64 0, .int .i64 0]) Tryz.underlying43 hi hz0 .i64 .i64 (n : Int) (n : Int) (by omega) (by omega) (by rw [hz1]; omega) (by rw [hz2]; omega) (by omega)
  rw [hz1, Int.toNat_natCast, show Value.cells (.agg #[.int .i64 0, .int .i64 0]) = #[.int .i64 0, .int .i64 0] from rfl, madeCells_two] at h
  rw [h, spCells_zero]
  simp
/-- Four new blocks. -/
theorem four_new {w W : World} {a b c d : Obj} (h : (((w.alloc a).alloc b).alloc c).alloc d = W) :
    W.heap[w.heap.size]? = some a ∧ W.heap[w.heap.size + 1]? = some b ∧ W.heap[w.heap.size + 1 + 1]? = some c ∧ W.heap[w.heap.size + 1 + 1 + 1]? = some d ∧ W.heap.size = w.heap.size + 4 ∧ Below w.heap.size w W := by
  obtain ⟨V, hV⟩ : ∃ V, (w.alloc a).alloc b = V := ⟨_, rfl⟩
  rw [hV] at h
  obtain ⟨e0, e1, s1, B1⟩ := two_new hV
  obtain ⟨e2, e3, s2, B2⟩ := two_new h
  rw [s1] at e2 e3
  exact ⟨kept_block B2 e0, kept_block B2 e1, e2, e3, by omega, below_tr B1 B2⟩
end Go.Proofs.YthbkcoijafehgaaGreat.L
