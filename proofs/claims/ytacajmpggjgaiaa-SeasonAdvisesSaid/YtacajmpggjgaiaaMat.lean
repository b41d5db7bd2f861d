/- Slices of slices that a call makes itself: tables that grow row by row. -/
import Derived.Test.YtacajmpggjgaiaaOwn
import Derived.Test.YtacajmpggjgaiaaRounds
import Derived.Laws.MakeOwn
set_option linter.unusedVariables false
set_option linter.unusedSimpArgs false
namespace Go.Proofs.Ytacajmpggjgaiaa
open Go.RowKit Go.Sd

def valAt (vs : List Value) (i : Nat) : Value := vs.getD i (.slice none 0 0)

/-- A table of one's own, from block B on: block b holds the rows' slices. -/
structure OwnMat (B b : Nat) (w : World) (vs : List Value) (rows : List (List Int)) : Prop where
  heap : w.heap[b]? = some (.cells vs.toArray 28)
  len : vs.length = rows.length
  low : B ≤ b
  own : ∀ i, i < rows.length → OwnInts B w (valAt vs i) (Sea.lstAt rows i)
  ne : ∀ i, i < rows.length → (valAt vs i).ownBlock ≠ some b
  apart : ∀ i j, i < rows.length → j < rows.length → i ≠ j → (valAt vs i).ownBlock = none ∨ (valAt vs i).ownBlock ≠ (valAt vs j).ownBlock

theorem OwnMat.grown {B b : Nat} {w w' : World} {vs : List Value} {rows : List (List Int)} (h : OwnMat B b w vs rows) (hg : w.grownBy w' none) : OwnMat B b w' vs rows :=
  ⟨(hg.block b (Array.getElem?_eq_some_iff.1 h.heap).1 (by simp)).trans h.heap, h.len, h.low, fun i hi => (h.own i hi).kept hg (by cases (valAt vs i).ownBlock <;> simp), h.ne, h.apart⟩

theorem OwnMat.mono {B b : Nat} {w w' : World} {vs : List Value} {rows : List (List Int)} (h : OwnMat B b w vs rows) (hb : Below w.heap.size w w') : OwnMat B b w' vs rows := h.grown (grown_of_below hb)

theorem valAt_set {vs : List Value} {i j : Nat} {v : Value} (hi : i < vs.length) : valAt (vs.set i v) j = if j = i then v else valAt vs j := by
  unfold valAt
  by_cases h : j = i
  · subst h; simp [hi]
  · simp [h, List.getElem?_set, Ne.symm h]
theorem lstAt_set {rows : List (List Int)} {i j : Nat} {v : List Int} (hi : i < rows.length) : Sea.lstAt (rows.set i v) j = if j = i then v else Sea.lstAt rows j := by
  unfold Sea.lstAt
  by_cases h : j = i
  · subst h; simp [hi]
  · simp [h, List.getElem?_set, Ne.symm h]

/-- One number more in row i: append, and the store of the row's slice. -/
theorem OwnMat.more {B b : Nat} {w w1 : World} {vs : List Value} {rows : List (List Int)} {i : Nat} {v' : Value} {y : Int} (h : OwnMat B b w vs rows) (hi : i < rows.length)
    (hg : w.grownBy w1 (valAt vs i).ownBlock) (ho : OwnInts B w1 v' (Sea.lstAt rows i ++ [y])) (hat : v'.ownBlock = (valAt vs i).ownBlock ∨ ∃ m, v'.ownBlock = some m ∧ w.heap.size ≤ m) :
    OwnMat B b (w1.setCell ⟨b, i, none⟩ v') (vs.set i v') (rows.set i (Sea.lstAt rows i ++ [y])) := by
  have hiv : i < vs.length := by rw [h.len]; exact hi
  have hlt := (Array.getElem?_eq_some_iff.1 h.heap).1
  have hb1 : w1.heap[b]? = some (.cells vs.toArray 28) := (hg.block b hlt (Ne.symm (h.ne i hi))).trans h.heap
  have hv'b : v'.ownBlock ≠ some b := by
    rcases hat with e | ⟨m, e, hm⟩
    · rw [e]; exact h.ne i hi
    · rw [e]; intro h'; cases h'; omega
  have hset : w1.grownBy (w1.setCell ⟨b, i, none⟩ v') (some b) := ⟨rfl, rfl, rfl, by simp [World.setCell], fun k _ hk => Below.heap_setCell _ _ _ _ (fun e => hk (by rw [e]))⟩
  have away : ∀ j, j < rows.length → j ≠ i → (valAt vs j).ownBlock = none ∨ (valAt vs j).ownBlock ≠ v'.ownBlock := by
    intro j hj hji
    rcases hat with e | ⟨m, e, hm⟩
    · rw [e]; exact h.apart j i hj hi hji
    · rw [e]
      cases hq : (valAt vs j).ownBlock with
      | none => exact .inl rfl
      | some q => exact .inr (by have := ((h.own j hj).lt q hq).2; intro h'; cases h'; omega)
  refine ⟨?_, by simp [h.len], h.low, ?_, ?_, ?_⟩
  · simp only [World.setCell, Array.getElem?_modify, if_true, hb1]
    simp
  · intro j hj
    rw [List.length_set] at hj
    rw [valAt_set hiv, lstAt_set hi]
    by_cases hji : j = i
    · rw [if_pos hji, if_pos hji]
      exact ho.kept hset (.inr hv'b)
    · rw [if_neg hji, if_neg hji]
      exact ((h.own j hj).kept hg (h.apart j i hj hi hji)).kept hset (.inr (h.ne j hj))
  · intro j hj
    rw [List.length_set] at hj
    rw [valAt_set hiv]
    by_cases hji : j = i
    · rw [if_pos hji]; exact hv'b
    · rw [if_neg hji]; exact h.ne j hj
  · intro j k hj hk hjk
    rw [List.length_set] at hj hk
    rw [valAt_set hiv, valAt_set hiv]
    by_cases hji : j = i
    · by_cases hki : k = i
      · omega
      · rw [if_pos hji, if_neg hki]
        rcases away k hk hki with e | e
        · rw [e]; cases hq : v'.ownBlock with
          | none => exact .inl rfl
          | some q => exact .inr (by simp)
        · exact .inr (Ne.symm e)
    · by_cases hki : k = i
      · rw [if_neg hji, if_pos hki]; exact away j hj hji
      · rw [if_neg hji, if_neg hki]; exact h.apart j k hj hk hjk

/-- A table of one's own is a list of lists. -/
theorem OwnMat.at {B b : Nat} {w : World} {vs : List Value} {rows : List (List Int)} (h : OwnMat B b w vs rows) (hm : rows.length ≤ maxLen) (cap : Nat) : ListsAt w (.slice (some ⟨b, 0, none⟩) rows.length cap) rows := by
  refine ⟨_, cap, rfl, hm, fun _ => ⟨b, 0, rfl, (Array.getElem?_eq_some_iff.1 h.heap).1, fun k hk => ⟨valAt vs k, ?_, (h.own k hk).at⟩⟩⟩
  rw [(row_cells h.heap).2.1]
  have : k < vs.length := by rw [h.len]; exact hk
  simp [valAt, this]

/-- A table that has just been made. -/
theorem OwnMat.made (B n : Nat) (w : World) (hB : B ≤ w.heap.size) : OwnMat B w.heap.size (w.alloc (.cells (Array.replicate n (.slice none 0 0)) 28)) (List.replicate n (.slice none 0 0)) (List.replicate n []) := by
  have hv : ∀ i, valAt (List.replicate n (.slice none 0 0)) i = .slice none 0 0 := by
    intro i; unfold valAt; by_cases h : i < n <;> simp [h]
  refine ⟨(World.alloc_heap_new _ _).trans (by simp), by simp, hB, ?_, ?_, ?_⟩
  · intro i hi
    rw [hv]
    have : Sea.lstAt (List.replicate n ([] : List Int)) i = [] := by unfold Sea.lstAt; by_cases h : i < n <;> simp [h]
    rw [this]
    exact OwnInts.nil _ _
  · intro i _; rw [hv]; simp [Value.ownBlock]
  · intro i j _ _ _; rw [hv]; exact .inl rfl
end Go.Proofs.Ytacajmpggjgaiaa
