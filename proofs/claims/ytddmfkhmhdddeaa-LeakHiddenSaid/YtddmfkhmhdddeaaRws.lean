/- Lists of lists of one's own that grow: out = append(out, row). -/
import Derived.Test.YtddmfkhmhdddeaaApl
import Derived.Test.YtddmfkhmhdddeaaKee
set_option linter.unusedVariables false
set_option linter.unusedSimpArgs false
namespace Go.Proofs.Ytddmfkhmhdddeaa
open Go.RowKit Go.Sd Lk

/-- A slice, as a value of one cell. -/
structure Slc where
  a : Option Addr
  n : Nat
  c : Nat
abbrev slV (s : Slc) : Value := .slice s.a s.n s.c
abbrev slEnc (s : Slc) : List Value := [slV s]
theorem slEnc_len (x : Slc) : (slEnc x).length = 1 := rfl
theorem slEnc_one (x : Slc) : ∀ u ∈ slEnc x, u.oneCell' = true := by simp [slEnc, Value.oneCell']
def slAt (l : List Slc) (k : Nat) : Slc := l.getD k ⟨none, 0, 0⟩
theorem slAt_app {l : List Slc} {x : Slc} {k : Nat} (h : k ≤ l.length) : slAt (l ++ [x]) k = if k = l.length then x else slAt l k := by
  unfold slAt
  by_cases hk : k = l.length
  · subst hk; simp
  · rw [if_neg hk, List.getD_eq_getElem?_getD, List.getElem?_append_left (by omega), ← List.getD_eq_getElem?_getD]
section
variable {α : Type} {enc : α → List Value} {m : Nat} {R E : TypeId} {B : Nat} {w w' : World} {v v' : Value} {rows : List (List α)}
/-- A list of lists of one's own, from block B on; no row lies in some blocks. -/
structure OwnRs {α : Type} (R E : TypeId) (m : Nat) (enc : α → List Value) (B : Nat) (bad : Nat → Prop) (w : World) (v : Value) (rows : List (List α)) : Prop where
  ex : ∃ ss : List Slc, OwnSt R 1 slEnc B w v ss ∧ ss.length = rows.length ∧ ∀ i, i < rows.length → OwnSt E m enc B w (slV (slAt ss i)) (rows.getD i []) ∧ (∀ k, (slV (slAt ss i)).ownBlock = some k → v.ownBlock ≠ some k ∧ ¬ bad k)
  far : ∀ k, v.ownBlock = some k → ¬ bad k
theorem OwnRs.nil {bad : Nat → Prop} : OwnRs (α := α) R E m enc B bad w (.slice none 0 0) [] := ⟨⟨[], OwnSt.nil _ _ _ _ _, rfl, fun i h => by simp at h⟩, fun k h => by cases h⟩
theorem OwnRs.mono {bad : Nat → Prop} (h : OwnRs R E m enc B bad w v rows) (hb : Below w.heap.size w w') : OwnRs R E m enc B bad w' v rows := by
  obtain ⟨⟨ss, h1, h2, h3⟩, h4⟩ := h
  exact ⟨⟨ss, h1.mono hb, h2, fun i hi => ⟨(h3 i hi).1.mono hb, (h3 i hi).2⟩⟩, h4⟩
/-- Blocks that do not belong to the list may change. -/
theorem OwnRs.kept {bad S : Nat → Prop} (h : OwnRs R E m enc B bad w v rows) (hk : Kept S w w') (hs : ∀ k, B ≤ k → ¬ bad k → S k) : OwnRs R E m enc B bad w' v rows := by
  obtain ⟨⟨ss, h1, h2, h3⟩, h4⟩ := h
  refine ⟨⟨ss, h1.same fun k e => hk.block k (h1.lt k e).2 (hs k (h1.lt k e).1 (h4 k e)), h2, fun i hi => ⟨?_, (h3 i hi).2⟩⟩, h4⟩
  exact (h3 i hi).1.same fun k e => hk.block k ((h3 i hi).1.lt k e).2 (hs k ((h3 i hi).1.lt k e).1 ((h3 i hi).2 k e).2)
/-- A row more: behind 'append(out, row)'. -/
theorem OwnRs.app {bad : Nat → Prop} {ss : List Slc} {s : Slc} {row : List α} (h1 : OwnSt R 1 slEnc B w v ss) (h2 : ss.length = rows.length)
    (h3 : ∀ i, i < rows.length → OwnSt E m enc B w (slV (slAt ss i)) (rows.getD i []) ∧ (∀ k, (slV (slAt ss i)).ownBlock = some k → v.ownBlock ≠ some k ∧ ¬ bad k)) (h4 : ∀ k, v.ownBlock = some k → ¬ bad k)
    (hr : OwnSt E m enc B w (slV s) row) (hrf : ∀ k, (slV s).ownBlock = some k → v.ownBlock ≠ some k ∧ ¬ bad k)
    (ho : OwnSt R 1 slEnc B w' v' (ss ++ [s])) (hg : w.grownBy w' v.ownBlock) (hat : v'.ownBlock = v.ownBlock ∨ ∃ k, v'.ownBlock = some k ∧ w.heap.size ≤ k) (hbad : ∀ k, w.heap.size ≤ k → ¬ bad k) :
    OwnRs R E m enc B bad w' v' (rows ++ [row]) := by
  have keep : ∀ (x : Slc) (l : List α), OwnSt E m enc B w (slV x) l → (∀ k, (slV x).ownBlock = some k → v.ownBlock ≠ some k ∧ ¬ bad k) → OwnSt E m enc B w' (slV x) l ∧ ∀ k, (slV x).ownBlock = some k → v'.ownBlock ≠ some k ∧ ¬ bad k := by
    intro x l hx hf
    refine ⟨hx.same fun k e => hg.block k (hx.lt k e).2 (fun e' => (hf k e).1 e'.symm), fun k e => ⟨?_, (hf k e).2⟩⟩
    rcases hat with e' | ⟨q, e', hq⟩
    · rw [e']; exact (hf k e).1
    · rw [e']; intro h; cases h; have := (hx.lt k e).2; omega
  refine ⟨⟨_, ho, by simp [h2], fun i hi => ?_⟩, fun k e => ?_⟩
  · rw [List.length_append, List.length_singleton] at hi
    rw [slAt_app (by omega), h2]
    by_cases hil : i = rows.length
    · subst hil
      rw [if_pos rfl]
      have : (rows ++ [row]).getD rows.length [] = row := by simp
      rw [this]
      exact keep _ _ hr hrf
    · rw [if_neg hil]
      have : (rows ++ [row]).getD i [] = rows.getD i [] := by
        rw [List.getD_eq_getElem?_getD, List.getElem?_append_left (by omega), ← List.getD_eq_getElem?_getD]
      rw [this]
      exact keep _ _ (h3 i (by omega)).1 (h3 i (by omega)).2
  · rcases hat with e' | ⟨q, e', hq⟩
    · exact h4 k (e' ▸ e)
    · rw [e'] at e; cases e; exact hbad _ hq
/-- A list of lists of one's own, as it is read. -/
theorem OwnRs.at {bad : Nat → Prop} (hm : ∀ x, (enc x).length = m) (d : α) (h : OwnRs R E m enc B bad w v rows) : RowsAt m enc d w v rows := by
  obtain ⟨⟨ss, h1, h2, h3⟩, -⟩ := h
  obtain ⟨a, cap, rfl, hmx, hc⟩ := h1.cells slEnc_len ⟨none, 0, 0⟩
  refine ⟨a, cap, by rw [h2], by rw [← h2]; exact hmx, fun h0 => ?_⟩
  obtain ⟨b, rfl, hlt, hk⟩ := hc (by omega)
  refine ⟨b, 0, rfl, hlt, fun k hk' => ⟨slV (slAt ss k), ?_, (h3 k hk').1.els hm d⟩⟩
  have := hk k 0 (by omega) (by omega)
  rw [Nat.mul_one, Nat.add_zero] at this
  rw [Nat.zero_add, this]
  rfl
end
end Go.Proofs.Ytddmfkhmhdddeaa
