/- Walks: bounds of a day are kept, or given up (the program). -/
import Derived.Test.YtddmfkhmhdddeaaCom
set_option linter.unusedVariables false
set_option linter.unusedSimpArgs false
namespace Lk
theorem spAt_set {l : List Sp} {i j : Nat} {v : Sp} (hi : i < l.length) : spAt (l.set i v) j = if j = i then v else spAt l j := by
  unfold spAt
  by_cases h : j = i
  · subst h; simp [hi]
  · simp [h, List.getElem?_set, Ne.symm h]
end Lk
namespace Go.Proofs.Ytddmfkhmhdddeaa
open Go.RowKit Go.Sd Lk

/-- The cells of spans. -/
def spCells : List Sp → List Value
  | [] => []
  | x :: xs => .int .i64 x.lo :: .int .i64 x.hi :: spCells xs
theorem spCells_len : ∀ l, (spCells l).length = l.length * 2
  | [] => rfl
  | x :: xs => by simp [spCells, spCells_len xs]; omega
theorem spCells_app : ∀ l m, spCells (l ++ m) = spCells l ++ spCells m
  | [], _ => rfl
  | x :: xs, m => by simp [spCells, spCells_app xs m]
theorem spCells_get : ∀ (l : List Sp) (k : Nat), k < l.length → (spCells l)[k * 2]? = some (.int .i64 (spAt l k).lo) ∧ (spCells l)[k * 2 + 1]? = some (.int .i64 (spAt l k).hi)
  | [], k, h => by simp at h
  | x :: xs, 0, _ => ⟨rfl, rfl⟩
  | x :: xs, k + 1, h => by
    have := spCells_get xs k (by simpa using h)
    rw [show (k + 1) * 2 = k * 2 + 1 + 1 by omega]
    simpa [spCells, spAt] using this
theorem spCells_set : ∀ (l : List Sp) (k : Nat) (y : Sp), k < l.length → ((spCells l).set (k * 2) (.int .i64 y.lo)).set (k * 2 + 1) (.int .i64 y.hi) = spCells (l.set k y)
  | [], k, _, h => by simp at h
  | x :: xs, 0, y, _ => rfl
  | x :: xs, k + 1, y, h => by
    have := spCells_set xs k y (by simpa using h)
    rw [show (k + 1) * 2 + 1 = (k * 2 + 1) + 1 + 1 by omega, show (k + 1) * 2 = k * 2 + 1 + 1 by omega]
    simp only [spCells, List.set_cons_succ, this]

/-- A block of spans. -/
def BlkAt (w : World) (q : Nat) (l : List Sp) : Prop := w.heap[q]? = some (.cells (spCells l).toArray 55)
theorem BlkAt.lt {w : World} {q : Nat} {l : List Sp} (h : BlkAt w q l) : q < w.heap.size := (Array.getElem?_eq_some_iff.1 h).1
theorem BlkAt.mono {w w' : World} {q : Nat} {l : List Sp} (h : BlkAt w q l) (hb : Below w.heap.size w w') : BlkAt w' q l := kept_block hb h
theorem BlkAt.kept {S : Nat → Prop} {w w' : World} {q : Nat} {l : List Sp} (h : BlkAt w q l) (hk : Kept S w w') (hs : S q) : BlkAt w' q l := (hk.block q h.lt hs).trans h
theorem BlkAt.cell {w : World} {q : Nat} {l : List Sp} (h : BlkAt w q l) {k : Nat} (hk : k < l.length) :
    (w.cell? ⟨q, k * 2, none⟩ = some (.int .i64 (spAt l k).lo) ∧ w.cell? ⟨q, k * 2 + 1, none⟩ = some (.int .i64 (spAt l k).hi)) ∧ w.frozen? ⟨q, k * 2, none⟩ = false ∧ w.frozen? ⟨q, k * 2 + 1, none⟩ = false := by
  obtain ⟨-, r, f⟩ := row_cells h
  have c := spCells_get l k hk
  refine ⟨⟨?_, ?_⟩, f _, f _⟩
  · rw [r]; simpa using c.1
  · rw [r]; simpa using c.2
theorem BlkAt.set {w : World} {q : Nat} {l : List Sp} (h : BlkAt w q l) {k : Nat} (hk : k < l.length) (y : Sp) :
    BlkAt ((w.setCell ⟨q, k * 2, none⟩ (.int .i64 y.lo)).setCell ⟨q, k * 2 + 1, none⟩ (.int .i64 y.hi)) q (l.set k y) := by
  unfold BlkAt at h ⊢
  rw [← spCells_set l k y hk]
  simp only [World.setCell, Array.getElem?_modify, if_true, h]
  simp
theorem BlkAt.sps {w : World} {q : Nat} {l : List Sp} (h : BlkAt w q l) (hm : l.length ≤ maxLen) (cap : Nat) : SpsAt w (.slice (some ⟨q, 0, none⟩) l.length cap) l := by
  refine ⟨_, cap, rfl, hm, fun _ => ⟨q, 0, rfl, h.lt, fun k i u hk hu => ?_⟩⟩
  obtain ⟨⟨c0, c1⟩, -, -⟩ := h.cell hk
  match i, hu with
  | 0, hu => cases hu; rw [Nat.zero_add]; exact c0
  | 1, hu => cases hu; rw [Nat.zero_add]; exact c1
  | i + 2, hu => simp at hu

/-- What is given up with. -/
abbrev noneV (z : Nat) : Value := .iface 118 (.agg #[.int .i64 z])
abbrev panicNo (z : Nat) : Ending := .panicked [{ v := noneV z, recovered := false }]

set_option maxRecDepth 100000 in
set_option maxHeartbeats 2000000 in
theorem progKeepNo (p : Nat) (fv wv rv bv : Value) (g : Gs) (z d : Nat) (s : Sp) (w : World) (hv : w.heap[p]? = some (viO fv wv rv g z bv)) (hs : s.hi < s.lo) :
    Calls Try.prog 99 #[.pointer (some ⟨p, 0, none⟩), .int .i64 d, spV s] w fun e w' => e = panicNo z ∧ Below w.heap.size w w' := by
  obtain ⟨W, hW⟩ : ∃ W, w.alloc (spO s) = W := ⟨_, rfl⟩
  obtain ⟨e0, b0, s0⟩ := boxed hW
  replace hv := kept_block b0 hv
  obtain ⟨v0, v1, v2, v3, v4, v5, v6, v7⟩ := rc8 hv
  obtain ⟨o0, o1⟩ := rc2 e0
  have zp := (Array.getElem?_eq_some_iff.1 hv).1
  have z0 := (Array.getElem?_eq_some_iff.1 e0).1
  clear s0 hv e0
  go_enter Try.func99, Try.ntmps99
  go_wp2
  exact ⟨rfl, rfl, b0⟩

set_option maxRecDepth 100000 in
set_option maxHeartbeats 2000000 in
theorem progKeepYes (p q : Nat) (fv wv rv : Value) (g : Gs) (z d cap : Nat) (s : Sp) (l : List Sp) (w : World) (hv : w.heap[p]? = some (viO fv wv rv g z (.slice (some ⟨q, 0, none⟩) l.length cap))) (hq : BlkAt w q l) (hd : d < l.length) (hm : l.length ≤ 1000) (hs : s.lo ≤ s.hi) :
    Calls Try.prog 99 #[.pointer (some ⟨p, 0, none⟩), .int .i64 d, spV s] w fun e w' => e = .returned (.tuple #[]) ∧ Kept (fun k => k ≠ q) w w' ∧ BlkAt w' q (l.set d s) := by
  obtain ⟨W, hW⟩ : ∃ W, w.alloc (spO s) = W := ⟨_, rfl⟩
  obtain ⟨e0, b0, s0⟩ := boxed hW
  replace hv := kept_block b0 hv
  replace hq := hq.mono b0
  obtain ⟨v0, v1, v2, v3, v4, v5, v6, v7⟩ := rc8 hv
  obtain ⟨o0, o1⟩ := rc2 e0
  have zp := (Array.getElem?_eq_some_iff.1 hv).1
  have z0 := (Array.getElem?_eq_some_iff.1 e0).1
  have zq := hq.lt
  have hdi : (d : Int) < (l.length : Int) := by omega
  have hq' := Lib.hid hq
  clear s0 hv e0 hq
  have hgc := grow_cell W
  go_enter Try.func99, Try.ntmps99
  go_wp2
  refine wp_grow_tail 7 (by kernel_rfl) (by kernel_rfl) ?_
  simp only [List.take_succ_cons, List.take_zero, List.drop_succ_cons, List.drop_zero]
  repeat (go_big_quiet_step (fail))
  refine wpQuiet_nil ?_
  rintro _ ⟨x, rfl⟩
  have hq2 := hq'.out.mono x.h
  obtain ⟨⟨c0, c1⟩, f0, f1⟩ := hq2.cell hd
  have hB := below_tr b0 x.h
  clear hgc
  go_wp2
  go_end0
  refine ⟨rfl, ((Kept.all hB).setCell (p := ⟨q, d * 2, none⟩) (.inl fun h => h rfl) _).setCell (p := ⟨q, d * 2 + 1, none⟩) (.inl fun h => h rfl) _, hq2.set hd s⟩
end Go.Proofs.Ytddmfkhmhdddeaa
