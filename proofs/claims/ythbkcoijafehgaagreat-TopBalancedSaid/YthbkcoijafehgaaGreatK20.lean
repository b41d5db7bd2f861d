/- Laws and walks: LLkm, LMem, LIdx. -/
import Derived.WalkKit
import Derived.Test.YthbkcoijafehgaaGreatChecked
import Derived.Test.YthbkcoijafehgaaGreatRows
import Derived.WalkSpells
import Derived.WalkLawsBesides
import Derived.Lib.Hide
import Derived.Test.YthbkcoijafehgaaGreatK01
set_option linter.unusedVariables false
set_option linter.unusedSimpArgs false
namespace Lk
structure Sp where
  lo : Int
  hi : Int
  deriving DecidableEq
structure Rd where
  day : Int
  zone : Int
  v : Sp
  deriving DecidableEq
structure Bk where
  first : List Sp
  flows : List (List Sp)
  reads : List Rd
structure Gs where
  zone : Int
  size : Int
  since : Int
  deriving DecidableEq
def spAt (l : List Sp) (k : Nat) : Sp := l.getD k ⟨0, 0⟩
def rwAt (l : List (List Sp)) (k : Nat) : List Sp := l.getD k []
def rdAt (l : List Rd) (k : Nat) : Rd := l.getD k ⟨0, 0, ⟨0, 0⟩⟩
def at0 (l : List Int) (k : Nat) : Int := l.getD k 0
def inB (x l h : Int) : Bool := decide (l ≤ x) && decide (x ≤ h)
def spB (s : Sp) (m : Int) : Bool := decide (-m ≤ s.lo) && decide (s.lo ≤ s.hi) && decide (s.hi ≤ m)
theorem inB_iff {x l h : Int} : inB x l h = true ↔ l ≤ x ∧ x ≤ h := by simp [inB]
theorem spB_iff {s : Sp} {m : Int} : spB s m = true ↔ -m ≤ s.lo ∧ s.lo ≤ s.hi ∧ s.hi ≤ m := by simp [spB, and_assoc]
def Bk.rdB (b : Bk) (r : Rd) : Bool := inB r.day 0 (b.flows.length - 1) && inB r.zone 0 (b.first.length - 1) && spB r.v 1000000000
def Bk.flowB (b : Bk) (l : List Sp) : Bool := decide (l.length = b.first.length) && l.all (spB · 100000000)
/-- Whether a book is as defined, apart from how many days and readings it has. -/
def Bk.bookB (b : Bk) : Bool := b.first.all (spB · 1000000000) && b.flows.all b.flowB && b.reads.all b.rdB && (inB b.first.length 1 6 && decide (0 < b.flows.length))
def Bk.longB (b : Bk) : Bool := decide (40 < b.reads.length) || decide (30 < b.flows.length)
/-- The error of a book, if all else is as defined or not. -/
def Bk.err (b : Bk) (fine : Bool) : Int := if b.longB = true then 3 else if (b.bookB && fine) = true then 0 else 2
def noGs : Gs := ⟨-1, 0, 0⟩
def Bk.gsB (b : Bk) (g : Gs) : Bool := decide (g = noGs) || (inB g.zone 0 (b.first.length - 1) && inB g.size 1 10000000 && inB g.since 0 (b.flows.length - 1))
/-- What a book that is as defined comes to. -/
structure Ok (b : Bk) : Prop where
  nz : 1 ≤ b.first.length ∧ b.first.length ≤ 6
  nd : 1 ≤ b.flows.length ∧ b.flows.length ≤ 30
  nr : b.reads.length ≤ 40
  first : ∀ k, k < b.first.length → -1000000000 ≤ (spAt b.first k).lo ∧ (spAt b.first k).lo ≤ (spAt b.first k).hi ∧ (spAt b.first k).hi ≤ 1000000000
  rows : ∀ d, d < b.flows.length → (rwAt b.flows d).length = b.first.length
  flows : ∀ d k, d < b.flows.length → k < b.first.length → -100000000 ≤ (spAt (rwAt b.flows d) k).lo ∧ (spAt (rwAt b.flows d) k).lo ≤ (spAt (rwAt b.flows d) k).hi ∧ (spAt (rwAt b.flows d) k).hi ≤ 100000000
  reads : ∀ k, k < b.reads.length → 0 ≤ (rdAt b.reads k).day ∧ (rdAt b.reads k).day < b.flows.length ∧ 0 ≤ (rdAt b.reads k).zone ∧ (rdAt b.reads k).zone < b.first.length ∧
    -1000000000 ≤ (rdAt b.reads k).v.lo ∧ (rdAt b.reads k).v.lo ≤ (rdAt b.reads k).v.hi ∧ (rdAt b.reads k).v.hi ≤ 1000000000
theorem ok_of {b : Bk} (h : b.bookB = true) (h2 : b.longB = false) : Ok b := by
  simp only [Bk.bookB, Bk.flowB, Bk.rdB, Bool.and_eq_true, inB_iff, spB_iff, List.all_eq_true, decide_eq_true_eq] at h
  simp only [Bk.longB, Bool.or_eq_false_iff, decide_eq_false_iff_not] at h2
  obtain ⟨⟨⟨h1, hf⟩, hr⟩, hz, hd⟩ := h
  refine ⟨by omega, by omega, by omega, fun k hk => ?_, fun d hd => ?_, fun d k hd hk => ?_, fun k hk => ?_⟩
  · have e : spAt b.first k = b.first[k] := by simp [spAt, hk]
    have := h1 _ (List.getElem_mem hk)
    rw [e]; exact this
  · have e : rwAt b.flows d = b.flows[d] := by simp [rwAt, hd]
    rw [e]; exact (hf _ (List.getElem_mem hd)).1
  · have e : rwAt b.flows d = b.flows[d] := by simp [rwAt, hd]
    have h3 := hf _ (List.getElem_mem hd)
    have hk' : k < b.flows[d].length := by rw [h3.1]; exact hk
    have e2 : spAt b.flows[d] k = b.flows[d][k] := by simp [spAt, hk']
    rw [e, e2]; exact h3.2 _ (List.getElem_mem hk')
  · have e : rdAt b.reads k = b.reads[k] := by simp [rdAt, hk]
    have := hr _ (List.getElem_mem hk)
    rw [e]; omega
/-- What two spans have in common. -/
def meet (a b : Sp) : Sp := ⟨max a.lo b.lo, min a.hi b.hi⟩
def meets (s : Sp) (l : List Sp) : Sp := l.foldl meet s
/-- The readings of a zone on a day, in their order. -/
def Bk.readsAt (b : Bk) (z d : Int) : List Sp := (b.reads.filter fun r => decide (r.zone = z) && decide (r.day = d)).map (·.v)
def Bk.flowAt (b : Bk) (d z : Nat) : Sp := spAt (rwAt b.flows d) z
def lost (g : Gs) (z d : Int) : Int := if g.zone = z ∧ g.since ≤ d then g.size else 0
/-- What comes to a zone on a day, less what leaks. -/
def Bk.comes (b : Bk) (g : Gs) (z d : Nat) : Sp := ⟨(b.flowAt d z).lo - lost g z d, (b.flowAt d z).hi - lost g z d⟩
def addSp (a c : Sp) : Sp := ⟨a.lo + c.lo, a.hi + c.hi⟩
/-- The contents ahead of day k that agree with all readings up to then. -/
def Bk.fwd (b : Bk) (g : Gs) (z : Nat) : Nat → Sp
  | 0 => spAt b.first z
  | k + 1 => meets (addSp (Bk.fwd b g z k) (b.comes g z k)) (b.readsAt z k)
/-- Whether there are some at the end of each of the first k days. -/
def Bk.okTo (b : Bk) (g : Gs) (z : Nat) : Nat → Bool
  | 0 => true
  | k + 1 => Bk.okTo b g z k && decide ((b.fwd g z (k + 1)).lo ≤ (b.fwd g z (k + 1)).hi)
def Bk.zoneB (b : Bk) (g : Gs) (z : Nat) : Bool := b.okTo g z b.flows.length
def Bk.agreeB (b : Bk) (g : Gs) : Bool := (List.range b.first.length).all (b.zoneB g)
/-- The contents at the end of the day that lies j days ahead of the last one, backwards. -/
def Bk.bwd (b : Bk) (g : Gs) (z : Nat) : Nat → Sp
  | 0 => b.fwd g z b.flows.length
  | j + 1 =>
    let d := b.flows.length - 1 - j
    meet (b.fwd g z d) ⟨(Bk.bwd b g z j).lo - (b.comes g z d).hi, (Bk.bwd b g z j).hi - (b.comes g z d).lo⟩
/-- The bounds of a zone at the end of a day. -/
def Bk.bnd (b : Bk) (g : Gs) (z d : Nat) : Sp := b.bwd g z (b.flows.length - 1 - d)
/-- The bounds of a guess, day by day. -/
def Bk.bounds (b : Bk) (g : Gs) : List (List Sp) := (List.range b.flows.length).map fun d => (List.range b.first.length).map fun z => b.bnd g z d
theorem rwAt_range {f : Nat → List Sp} {n k : Nat} (h : k < n) : rwAt ((List.range n).map f) k = f k := by simp [rwAt, h]
theorem sps_ext {a b : List Sp} (hl : a.length = b.length) (h : ∀ t, t < a.length → spAt a t = spAt b t) : a = b := by
  apply List.ext_getElem hl
  intro i h1 h2
  have := h i h1
  simpa [spAt, h1, h2] using this
end Lk
set_option linter.unusedVariables false
set_option linter.unusedSimpArgs false
namespace Go.Proofs.YthbkcoijafehgaaGreat.L
open Go.RowKit Go.Sd Lk
theorem bool_ret {a b : Bool} (h : a = b) : Ending.returned (.bool a) = .returned (.bool b) := by rw [h]
theorem int_ret {k : IntKind} {a b : Int} (h : a = b) : Ending.returned (.int k a) = .returned (.int k b) := by rw [h]
theorem kept_cell {w w' : World} (hb : Below w.heap.size w w') {b o : Nat} {v : Value} (h : w.cell? ⟨b, o, none⟩ = some v) : w'.cell? ⟨b, o, none⟩ = some v :=
  (hb.cell (p := ⟨b, o, none⟩) (World.block_lt_of_cell? w ⟨b, o, none⟩ h)).trans h
theorem kept_block {w w' : World} (hb : Below w.heap.size w w') {n : Nat} {o : Obj} (h : w.heap[n]? = some o) : w'.heap[n]? = some o :=
  (hb.block _ (Array.getElem?_eq_some_iff.1 h).1).trans h
theorem below_tr {X w1 w2 : World} (h : Below X.heap.size X w1) (h2 : Below w1.heap.size w1 w2) : Below X.heap.size X w2 := h.trans (h2.mono h.size)
/-- A new block. -/
theorem boxed {w W : World} {o : Obj} (h : w.alloc o = W) : W.heap[w.heap.size]? = some o ∧ Below w.heap.size w W ∧ W.heap.size = w.heap.size + 1 := by
  subst h
  exact ⟨World.alloc_heap_new w o, (Below.refl _ _).alloc (Nat.le_refl _) _, World.size_alloc _ _⟩
/-- All cells that lay hold what they held. -/
structure Kc (w w' : World) : Prop where
  size : w.heap.size ≤ w'.heap.size
  cell : ∀ b o v, w.cell? ⟨b, o, none⟩ = some v → w'.cell? ⟨b, o, none⟩ = some v
theorem Kc.refl (w : World) : Kc w w := ⟨Nat.le_refl _, fun _ _ _ h => h⟩
theorem Kc.trans {a b c : World} (h : Kc a b) (k : Kc b c) : Kc a c := ⟨Nat.le_trans h.size k.size, fun _ _ _ hv => k.cell _ _ _ (h.cell _ _ _ hv)⟩
theorem Kc.of {w w' : World} (h : Below w.heap.size w w') : Kc w w' := ⟨h.size, fun _ _ _ hv => kept_cell h hv⟩
/-- A slice of structs (or of values of one cell), element by element. -/
def ElsAt {α : Type} (m : Nat) (enc : α → List Value) (d : α) (w : World) (v : Value) (xs : List α) : Prop :=
  ∃ a cap, v = .slice a xs.length cap ∧ xs.length ≤ maxLen ∧
    (0 < xs.length → ∃ b off, a = some ⟨b, off, none⟩ ∧ b < w.heap.size ∧ ∀ k i u, k < xs.length → (enc (xs.getD k d))[i]? = some u → w.cell? ⟨b, off + k * m + i, none⟩ = some u)
section
variable {α : Type} {m : Nat} {enc : α → List Value} {d : α} {w w' : World} {v : Value} {xs : List α}
theorem ElsAt.kc (h : ElsAt m enc d w v xs) (hb : Kc w w') : ElsAt m enc d w' v xs := by
  obtain ⟨a, cap, rfl, hm, hc⟩ := h
  refine ⟨a, cap, rfl, hm, fun h0 => ?_⟩
  obtain ⟨b, off, rfl, hlt, hk⟩ := hc h0
  exact ⟨b, off, rfl, Nat.lt_of_lt_of_le hlt hb.size, fun k i u hk' hu => hb.cell _ _ _ (hk k i u hk' hu)⟩
theorem ElsAt.mono (h : ElsAt m enc d w v xs) (hb : Below w.heap.size w w') : ElsAt m enc d w' v xs := h.kc (.of hb)
theorem ElsAt.nil (w : World) : ElsAt m enc d w (.slice none 0 0) [] := ⟨none, 0, rfl, by simp, fun h => by simp at h⟩
/-- The form of a slice. -/
theorem ElsAt.form (h : ElsAt m enc d w v xs) : ∃ a cap, v = .slice a xs.length cap ∧ xs.length ≤ 9223372036854775807 ∧
    (0 < xs.length → ∃ b off, a = some ⟨b, off, none⟩ ∧ b < w.heap.size ∧ ∀ k i u, k < xs.length → (enc (xs.getD k d))[i]? = some u → w.cell? ⟨b, off + k * m + i, none⟩ = some u) := by
  obtain ⟨a, cap, rfl, hm, hc⟩ := h
  unfold maxLen at hm
  exact ⟨a, cap, rfl, by omega, hc⟩
end
abbrev spV (s : Sp) : Value := .agg #[.int .i64 s.lo, .int .i64 s.hi]
abbrev spEnc (s : Sp) : List Value := [.int .i64 s.lo, .int .i64 s.hi]
abbrev rdEnc (r : Rd) : List Value := [.int .i64 r.day, .int .i64 r.zone, .int .i64 r.v.lo, .int .i64 r.v.hi]
abbrev rdV (r : Rd) : Value := .agg #[.int .i64 r.day, .int .i64 r.zone, .int .i64 r.v.lo, .int .i64 r.v.hi]
abbrev intEnc (n : Int) : List Value := [.int .i64 n]
abbrev gsEnc (g : Gs) : List Value := [.int .i64 g.zone, .int .i64 g.size, .int .i64 g.since]
abbrev gsV (g : Gs) : Value := .agg #[.int .i64 g.zone, .int .i64 g.size, .int .i64 g.since]
abbrev SpsAt (w : World) (v : Value) (xs : List Sp) : Prop := ElsAt 2 spEnc ⟨0, 0⟩ w v xs
abbrev RdsAt (w : World) (v : Value) (xs : List Rd) : Prop := ElsAt 4 rdEnc ⟨0, 0, ⟨0, 0⟩⟩ w v xs
abbrev IntsAt (w : World) (v : Value) (xs : List Int) : Prop := ElsAt 1 intEnc 0 w v xs
abbrev GssAt (w : World) (v : Value) (xs : List Gs) : Prop := ElsAt 3 gsEnc ⟨0, 0, 0⟩ w v xs
/-- A slice of slices. -/
def RowsAt {α : Type} (m : Nat) (enc : α → List Value) (d : α) (w : World) (v : Value) (xs : List (List α)) : Prop :=
  ∃ a cap, v = .slice a xs.length cap ∧ xs.length ≤ maxLen ∧
    (0 < xs.length → ∃ b off, a = some ⟨b, off, none⟩ ∧ b < w.heap.size ∧ ∀ k, k < xs.length → ∃ ev, w.cell? ⟨b, off + k, none⟩ = some ev ∧ ElsAt m enc d w ev (xs.getD k []))
section
variable {α : Type} {m : Nat} {enc : α → List Value} {d : α} {w w' : World} {v : Value} {xs : List (List α)}
theorem RowsAt.kc (h : RowsAt m enc d w v xs) (hb : Kc w w') : RowsAt m enc d w' v xs := by
  obtain ⟨a, cap, rfl, hm, hc⟩ := h
  refine ⟨a, cap, rfl, hm, fun h0 => ?_⟩
  obtain ⟨b, off, rfl, hlt, hk⟩ := hc h0
  exact ⟨b, off, rfl, Nat.lt_of_lt_of_le hlt hb.size, fun k hk' => let ⟨ev, h1, h2⟩ := hk k hk'; ⟨ev, hb.cell _ _ _ h1, h2.kc hb⟩⟩
theorem RowsAt.mono (h : RowsAt m enc d w v xs) (hb : Below w.heap.size w w') : RowsAt m enc d w' v xs := h.kc (.of hb)
theorem RowsAt.nil (w : World) : RowsAt m enc d w (.slice none 0 0) [] := ⟨none, 0, rfl, by simp, fun h => by simp at h⟩
theorem RowsAt.form (h : RowsAt m enc d w v xs) : ∃ a cap, v = .slice a xs.length cap ∧ xs.length ≤ 9223372036854775807 ∧
    (0 < xs.length → ∃ b off, a = some ⟨b, off, none⟩ ∧ b < w.heap.size ∧ ∀ k, k < xs.length → ∃ ev, w.cell? ⟨b, off + k, none⟩ = some ev ∧ ElsAt m enc d w ev (xs.getD k [])) := by
  obtain ⟨a, cap, rfl, hm, hc⟩ := h
  unfold maxLen at hm
  exact ⟨a, cap, rfl, by omega, hc⟩
end
abbrev SpRowsAt (w : World) (v : Value) (xs : List (List Sp)) : Prop := RowsAt 2 spEnc ⟨0, 0⟩ w v xs
/-- A span in a slice. -/
theorem sp_cells {w : World} {v : Value} {xs : List Sp} (h : SpsAt w v xs) {k : Nat} (hk : k < xs.length) :
    ∃ b off cap, v = .slice (some ⟨b, off, none⟩) xs.length cap ∧ b < w.heap.size ∧ xs.length ≤ 9223372036854775807 ∧
      w.cell? ⟨b, off + k * 2, none⟩ = some (.int .i64 (spAt xs k).lo) ∧ w.cell? ⟨b, off + k * 2 + 1, none⟩ = some (.int .i64 (spAt xs k).hi) := by
  obtain ⟨a, cap, rfl, hm, hc⟩ := h.form
  obtain ⟨b, off, rfl, hlt, hx⟩ := hc (by omega)
  exact ⟨b, off, cap, rfl, hlt, hm, hx k 0 _ hk rfl, hx k 1 _ hk rfl⟩
theorem int_cells {w : World} {v : Value} {xs : List Int} (h : IntsAt w v xs) {k : Nat} (hk : k < xs.length) :
    ∃ b off cap, v = .slice (some ⟨b, off, none⟩) xs.length cap ∧ b < w.heap.size ∧ xs.length ≤ 9223372036854775807 ∧ w.cell? ⟨b, off + k, none⟩ = some (.int .i64 (at0 xs k)) := by
  obtain ⟨a, cap, rfl, hm, hc⟩ := h.form
  obtain ⟨b, off, rfl, hlt, hx⟩ := hc (by omega)
  have := hx k 0 _ hk rfl
  rw [Nat.mul_one, Nat.add_zero] at this
  exact ⟨b, off, cap, rfl, hlt, hm, this⟩
/-- A row of spans. -/
theorem sprow_cell {w : World} {v : Value} {xs : List (List Sp)} (h : SpRowsAt w v xs) {k : Nat} (hk : k < xs.length) :
    ∃ b off cap ev, v = .slice (some ⟨b, off, none⟩) xs.length cap ∧ b < w.heap.size ∧ xs.length ≤ 9223372036854775807 ∧ w.cell? ⟨b, off + k, none⟩ = some ev ∧ SpsAt w ev (rwAt xs k) := by
  obtain ⟨a, cap, rfl, hm, hc⟩ := h.form
  obtain ⟨b, off, rfl, hlt, hx⟩ := hc (by omega)
  obtain ⟨ev, h1, h2⟩ := hx k hk
  exact ⟨b, off, cap, ev, rfl, hlt, hm, h1, h2⟩
/-- A book by value. -/
structure BookAt (w : World) (fv wv rv : Value) (b : Bk) : Prop where
  first : SpsAt w fv b.first
  flows : SpRowsAt w wv b.flows
  reads : RdsAt w rv b.reads
theorem BookAt.kc {w w' : World} {fv wv rv : Value} {b : Bk} (h : BookAt w fv wv rv b) (hb : Kc w w') : BookAt w' fv wv rv b := ⟨h.first.kc hb, h.flows.kc hb, h.reads.kc hb⟩
theorem BookAt.mono {w w' : World} {fv wv rv : Value} {b : Bk} (h : BookAt w fv wv rv b) (hb : Below w.heap.size w w') : BookAt w' fv wv rv b := h.kc (.of hb)
abbrev bkV (fv wv rv : Value) : Value := .agg #[fv, wv, rv]
/-- The book in a box: of the type leak.book, or api.LeakBook. -/
abbrev bkO (fv wv rv : Value) : Obj := .cells #[fv, wv, rv] 100
abbrev bkA (fv wv rv : Value) : Obj := .cells #[fv, wv, rv] 47
abbrev gsO (g : Gs) : Obj := .cells #[.int .i64 g.zone, .int .i64 g.size, .int .i64 g.since] 58
abbrev spO (s : Sp) : Obj := .cells #[.int .i64 s.lo, .int .i64 s.hi] 23
abbrev rdO (r : Rd) : Obj := .cells #[.int .i64 r.day, .int .i64 r.zone, .int .i64 r.v.lo, .int .i64 r.v.hi] 54
/-- A contract that yields a Boolean: the Boolean is a letter, so that the walk can part on it. -/
def BoolB (b : Bool) (w : World) (e : Ending) (w' : World) : Prop := ∃ t, e = .returned (.bool t) ∧ Hid (b = t) ∧ Below w.heap.size w w'
def BoolS (b : Bool) (w : World) (e : Ending) (w' : World) : Prop := ∃ t, e = .returned (.bool t) ∧ Hid (b = t) ∧ w = w'
theorem BoolB.mk {b t : Bool} {w w' : World} (h : b = t) (hb : Below w.heap.size w w') : BoolB b w (.returned (.bool t)) w' := ⟨t, rfl, h, hb⟩
theorem BoolB.lit {b t : Bool} {w w' : World} {e : Ending} (h : BoolB b w e w') (hb : b = t) : e = .returned (.bool t) ∧ Below w.heap.size w w' := by
  obtain ⟨t', rfl, ht, hB⟩ := h
  exact ⟨by rw [← hb, ← ht.out], hB⟩
theorem progIn (a b c : Int) (w : World) :
    Calls Tryz.prog 48 #[.int .i64 a, .int .i64 b, .int .i64 c] w fun e w' => e = .returned (.bool (inB a b c)) ∧ w = w' := by
  by_cases h : b ≤ a
  · go_enter Tryz.func48, Tryz.ntmps48
    go_wp2
    go_ret
    exact ⟨by simp [inB, h], rfl⟩
  · go_enter Tryz.func48, Tryz.ntmps48
    go_wp2
    go_ret
    exact ⟨by simp [inB]; intro _; omega, rfl⟩
theorem spB_false {s : Sp} {m : Int} (hn : ¬ (-m ≤ s.lo ∧ s.lo ≤ s.hi ∧ s.hi ≤ m)) : spB s m = false := by
  cases hs : spB s m
  · rfl
  · exact absurd (spB_iff.1 hs) hn
theorem progSpan (s : Sp) (m : Int) (w : World) (hm : 0 ≤ m ∧ m ≤ 1000000000) :
    Calls Tryz.prog 77 #[spV s, .int .i64 m] w fun e w' => e = .returned (.bool (spB s m)) ∧ Below w.heap.size w w' := by
  by_cases h1 : -m ≤ s.lo
  · by_cases h2 : s.lo ≤ s.hi
    · by_cases h3 : s.hi ≤ m
      · have hf : Hid (spB s m = true) := spB_iff.2 ⟨h1, h2, h3⟩
        go_enter Tryz.func77, Tryz.ntmps77
        go_wp2
        go_ret
        exact ⟨bool_ret (by rw [hf.out]), (Below.refl _ _).alloc (Nat.le_refl _) _⟩
      · have hf : Hid (spB s m = false) := spB_false (by omega)
        have h3' : m < s.hi := by omega
        go_enter Tryz.func77, Tryz.ntmps77
        go_wp2
        go_ret
        exact ⟨bool_ret (by rw [hf.out]), (Below.refl _ _).alloc (Nat.le_refl _) _⟩
    · have hf : Hid (spB s m = false) := spB_false (by omega)
      have h2' : s.hi < s.lo := by omega
      go_enter Tryz.func77, Tryz.ntmps77
      go_wp2
      go_ret
      exact ⟨bool_ret hf.out.symm, (Below.refl _ _).alloc (Nat.le_refl _) _⟩
  · have hf : Hid (spB s m = false) := spB_false (by omega)
    have h1' : s.lo < -m := by omega
    go_enter Tryz.func77, Tryz.ntmps77
    go_wp2
    go_ret
    exact ⟨bool_ret hf.out.symm, (Below.refl _ _).alloc (Nat.le_refl _) _⟩
theorem progNothing (w : World) : Calls Tryz.prog 79 #[] w fun e w' => e = .returned (gsV noGs) ∧ Below w.heap.size w w' := by
  go_enter Tryz.func79, Tryz.ntmps79
  go_wp2
  refine bodyPost_ret (v := gsV noGs) (by simp [results, Tryz.results79, go_sem, noGs]) rfl ⟨rfl, ?_⟩
  exact (Below.refl _ _).alloc (Nat.le_refl _) _
theorem refNone (w : World) : Calls Tryz.prog 13 #[] w fun e w' => e = .returned (gsV noGs) ∧ Below w.heap.size w w' := by
  go_enter Tryz.func13, Tryz.ntmps13
  go_wp2
  refine bodyPost_ret (v := gsV noGs) (by simp [results, Tryz.results13, go_sem, noGs]) rfl ⟨rfl, ?_⟩
  exact (Below.refl _ _).alloc (Nat.le_refl _) _
theorem progZone (wv rv : Value) (a : Option Addr) (n cap : Nat) (k : Int) (w : World) (hm : n ≤ 9223372036854775807) :
    Calls Tryz.prog 76 #[bkV (.slice a n cap) wv rv, .int .i64 k] w fun e w' => e = .returned (.bool (inB k 0 (n - 1))) ∧ Below w.heap.size w w' := by
  go_enter Tryz.func76, Tryz.ntmps76
  go_wp2_with (go_at_call 48; refine (progIn _ _ _ _).mono ?_; rintro e w' ⟨rfl, rfl⟩)
  go_ret
  exact ⟨rfl, (Below.refl _ _).alloc (Nat.le_refl _) _⟩
theorem progDay (fv rv : Value) (a : Option Addr) (n cap : Nat) (k : Int) (w : World) (hm : n ≤ 9223372036854775807) :
    Calls Tryz.prog 75 #[bkV fv (.slice a n cap) rv, .int .i64 k] w fun e w' => e = .returned (.bool (inB k 0 (n - 1))) ∧ Below w.heap.size w w' := by
  go_enter Tryz.func75, Tryz.ntmps75
  go_wp2_with (go_at_call 48; refine (progIn _ _ _ _).mono ?_; rintro e w' ⟨rfl, rfl⟩)
  go_ret
  exact ⟨rfl, (Below.refl _ _).alloc (Nat.le_refl _) _⟩
end Go.Proofs.YthbkcoijafehgaaGreat.L
set_option linter.unusedVariables false
set_option linter.unusedSimpArgs false
namespace Lk
structure Dy where
  flow : Int
  reads : Bool
  content : Int
  deriving DecidableEq
def dyAt (l : List Dy) (k : Nat) : Dy := l.getD k ⟨0, false, 0⟩
def gsAt (l : List Gs) (k : Nat) : Gs := l.getD k ⟨0, 0, 0⟩
end Lk
namespace Go.Proofs.YthbkcoijafehgaaGreat.L
open Go.RowKit Go.Sd Lk
abbrev dyEnc (d : Dy) : List Value := [.int .i64 d.flow, .bool d.reads, .int .i64 d.content]
abbrev dyV (d : Dy) : Value := .agg #[.int .i64 d.flow, .bool d.reads, .int .i64 d.content]
abbrev DysAt (w : World) (v : Value) (xs : List Dy) : Prop := ElsAt 3 dyEnc ⟨0, false, 0⟩ w v xs
/-- What the search for an element leaves: a number that is not negative just if there is one. -/
def FoundP (b : Bool) (w : World) (e : Ending) (w' : World) : Prop := ∃ n : Int, e = .returned (.int .i64 n) ∧ (b = true ↔ 0 ≤ n) ∧ Below w.heap.size w w'
theorem any_none {α : Type} {l : List α} {p : α → Bool} (h : ∀ j (hj : j < l.length), p l[j] = false) : l.any p = false := by
  rw [List.any_eq_false]
  intro x hx
  obtain ⟨i, hi, rfl⟩ := List.getElem_of_mem hx
  rw [h i hi]; exact Bool.false_ne_true
theorem any_some {α : Type} {l : List α} {p : α → Bool} {j : Nat} (hj : j < l.length) (h : p l[j] = true) : l.any p = true := List.any_eq_true.2 ⟨_, List.getElem_mem hj, h⟩
theorem spAt_eq {l : List Sp} {j : Nat} (h : j < l.length) : spAt l j = l[j] := by simp [spAt, h]
set_option maxRecDepth 100000 in
set_option maxHeartbeats 2000000 in
theorem indexSps (v : Value) (l : List Sp) (p : Sp → Bool) (nf : Nat) (nb : Array Value) (w : World) (hv : SpsAt w v l) (en : ∀ args w, (callFunc nf args).run Tryz.prog w = .ok (.enter nf args) w)
    (hp : ∀ d, d ∈ l → ∀ X, Below w.heap.size w X → Calls Tryz.prog nf (#[spV d] ++ nb) X fun e X' => e = .returned (.bool (p d)) ∧ Below X.heap.size X X') :
    Calls Tryz.prog 108 #[v, .func (.func nf) #[] nb] w (FoundP (l.any p) w) := by
  obtain ⟨a, cap, rfl, hm, hc⟩ := hv.form
  clear hv
  replace hp := Lib.hid hp
  go_enter Tryz.func108, Tryz.ntmps108
  go_wp2_with (fail)
  have hg := grow_cell w
  go_loopw [8] (fun i wr => ∃ k : Nat, k ≤ l.length ∧ i = .int .i64 k ∧ Hid (∀ j (hj : j < l.length), j < k → p l[j] = false) ∧ ∃ g : Grow w, wr = g.x) (fun i _ => l.length - (intOf i).toNat)
  case atStart => exact ⟨0, by omega, rfl, (fun j _ h => by omega : ∀ j (hj : j < l.length), j < 0 → p l[j] = false), Grow.self w, rfl⟩
  case round =>
    obtain ⟨k, hk, rfl, hH, g, rfl⟩ := hrel
    by_cases hlt : k < l.length
    · obtain ⟨b, off, rfl, hbl, hx⟩ := hc (by omega)
      have c0 : w.cell? ⟨b, off + k * 2, none⟩ = some (.int .i64 (spAt l k).lo) := hx k 0 _ hlt rfl
      have c1 : w.cell? ⟨b, off + k * 2 + 1, none⟩ = some (.int .i64 (spAt l k).hi) := hx k 1 _ hlt rfl
      have hki : (0 : Int) ≤ (k : Int) ∧ (k : Int) < l.length := by omega
      have hcall := hp.out (spAt l k) (by rw [spAt_eq hlt]; exact List.getElem_mem hlt) g.x g.h
      rw [spAt_eq hlt] at c0 c1 hcall
      clear hx hc
      cases ht : p l[k]
      · rw [ht] at hcall
        have hH' : Hid (∀ j (hj : j < l.length), j < k + 1 → p l[j] = false) := fun j hj hjk => by
          rcases Nat.lt_succ_iff_lt_or_eq.1 hjk with h | rfl
          · exact hH.out j hj h
          · exact ht
        replace ht := Lib.hid ht
        replace hcall := Lib.hid hcall
        go_wp2_with ((with_reducible refine Calls.mono hcall.out ?_); rintro e w' ⟨rfl, hb'⟩; obtain ⟨g1, rfl⟩ := g.next hb')
        exact ⟨⟨k + 1, by omega, by go_num, hH', g1, rfl⟩, by simp [intOf]; omega⟩
      · rw [ht] at hcall
        have hany := Lib.hid (any_some hlt ht)
        replace ht := Lib.hid ht
        replace hcall := Lib.hid hcall
        go_wp2_with ((with_reducible refine Calls.mono hcall.out ?_); rintro e w' ⟨rfl, hb'⟩; obtain ⟨g1, rfl⟩ := g.next hb')
        go_ret
        exact ⟨k, rfl, ⟨fun _ => by omega, fun _ => hany.out⟩, g1.h⟩
    · have hany := Lib.hid (any_none fun j hj => hH.out j hj (by omega))
      go_wp2_with (fail)
      go_ret
      exact ⟨-1, rfl, ⟨(fun h => by rw [hany.out] at h; cases h), (fun h => by omega)⟩, g.h⟩
theorem containsSps (v : Value) (l : List Sp) (p : Sp → Bool) (nf : Nat) (nb : Array Value) (w : World) (hv : SpsAt w v l) (en : ∀ args w, (callFunc nf args).run Tryz.prog w = .ok (.enter nf args) w)
    (hp : ∀ d, d ∈ l → ∀ X, Below w.heap.size w X → Calls Tryz.prog nf (#[spV d] ++ nb) X fun e X' => e = .returned (.bool (p d)) ∧ Below X.heap.size X X') :
    Calls Tryz.prog 98 #[v, .func (.func nf) #[] nb] w (BoolB (l.any p) w) := by
  have hc := Lib.hid (indexSps v l p nf nb w hv en hp)
  obtain ⟨a, cap, rfl, -, -⟩ := hv
  clear hp
  cases ht : l.any p
  all_goals
    replace ht := Lib.hid ht
    go_enter Tryz.func98, Tryz.ntmps98
    go_wp2_with (go_at_call 108; refine Calls.mono hc.out ?_; rintro e w' ⟨n, rfl, hn, hb⟩; rw [ht.out] at hn; have hn' : Hid (_ ↔ (0 : Int) ≤ n) := hn; clear hn)
    go_ret
    refine ⟨_, rfl, ?_, hb⟩
    have := hn'.out
    simp at this
    show _ = _
    simp [this]
theorem rdAt_eq {l : List Rd} {j : Nat} (h : j < l.length) : rdAt l j = l[j] := by simp [rdAt, h]
set_option maxRecDepth 100000 in
set_option maxHeartbeats 2000000 in
theorem indexRds (v : Value) (l : List Rd) (p : Rd → Bool) (nf : Nat) (nb : Array Value) (w : World) (hv : RdsAt w v l) (en : ∀ args w, (callFunc nf args).run Tryz.prog w = .ok (.enter nf args) w)
    (hp : ∀ d, d ∈ l → ∀ X, Below w.heap.size w X → Calls Tryz.prog nf (#[rdV d] ++ nb) X fun e X' => e = .returned (.bool (p d)) ∧ Below X.heap.size X X') :
    Calls Tryz.prog 100 #[v, .func (.func nf) #[] nb] w (FoundP (l.any p) w) := by
  obtain ⟨a, cap, rfl, hm, hc⟩ := hv.form
  clear hv
  replace hp := Lib.hid hp
  go_enter Tryz.func100, Tryz.ntmps100
  go_wp2_with (fail)
  have hg := grow_cell w
  go_loopw [8] (fun i wr => ∃ k : Nat, k ≤ l.length ∧ i = .int .i64 k ∧ Hid (∀ j (hj : j < l.length), j < k → p l[j] = false) ∧ ∃ g : Grow w, wr = g.x) (fun i _ => l.length - (intOf i).toNat)
  case atStart => exact ⟨0, by omega, rfl, (fun j _ h => by omega : ∀ j (hj : j < l.length), j < 0 → p l[j] = false), Grow.self w, rfl⟩
  case round =>
    obtain ⟨k, hk, rfl, hH, g, rfl⟩ := hrel
    by_cases hlt : k < l.length
    · obtain ⟨b, off, rfl, hbl, hx⟩ := hc (by omega)
      have c0 : w.cell? ⟨b, off + k * 4, none⟩ = some (.int .i64 (rdAt l k).day) := hx k 0 _ hlt rfl
      have c1 : w.cell? ⟨b, off + k * 4 + 1, none⟩ = some (.int .i64 (rdAt l k).zone) := hx k 1 _ hlt rfl
      have c2 : w.cell? ⟨b, off + k * 4 + 2, none⟩ = some (.int .i64 (rdAt l k).v.lo) := hx k 2 _ hlt rfl
      have c3 : w.cell? ⟨b, off + k * 4 + 3, none⟩ = some (.int .i64 (rdAt l k).v.hi) := hx k 3 _ hlt rfl
      have hki : (0 : Int) ≤ (k : Int) ∧ (k : Int) < l.length := by omega
      have hcall := hp.out (rdAt l k) (by rw [rdAt_eq hlt]; exact List.getElem_mem hlt) g.x g.h
      rw [rdAt_eq hlt] at c0 c1 c2 c3 hcall
      clear hx hc
      cases ht : p l[k]
      · rw [ht] at hcall
        have hH' : Hid (∀ j (hj : j < l.length), j < k + 1 → p l[j] = false) := fun j hj hjk => by
          rcases Nat.lt_succ_iff_lt_or_eq.1 hjk with h | rfl
          · exact hH.out j hj h
          · exact ht
        replace ht := Lib.hid ht
        replace hcall := Lib.hid hcall
        go_wp2_with ((with_reducible refine Calls.mono hcall.out ?_); rintro e w' ⟨rfl, hb'⟩; obtain ⟨g1, rfl⟩ := g.next hb')
        exact ⟨⟨k + 1, by omega, by go_num, hH', g1, rfl⟩, by simp [intOf]; omega⟩
      · rw [ht] at hcall
        have hany := Lib.hid (any_some hlt ht)
        replace ht := Lib.hid ht
        replace hcall := Lib.hid hcall
        go_wp2_with ((with_reducible refine Calls.mono hcall.out ?_); rintro e w' ⟨rfl, hb'⟩; obtain ⟨g1, rfl⟩ := g.next hb')
        go_ret
        exact ⟨k, rfl, ⟨fun _ => by omega, fun _ => hany.out⟩, g1.h⟩
    · have hany := Lib.hid (any_none fun j hj => hH.out j hj (by omega))
      go_wp2_with (fail)
      go_ret
      exact ⟨-1, rfl, ⟨(fun h => by rw [hany.out] at h; cases h), (fun h => by omega)⟩, g.h⟩
theorem containsRds (v : Value) (l : List Rd) (p : Rd → Bool) (nf : Nat) (nb : Array Value) (w : World) (hv : RdsAt w v l) (en : ∀ args w, (callFunc nf args).run Tryz.prog w = .ok (.enter nf args) w)
    (hp : ∀ d, d ∈ l → ∀ X, Below w.heap.size w X → Calls Tryz.prog nf (#[rdV d] ++ nb) X fun e X' => e = .returned (.bool (p d)) ∧ Below X.heap.size X X') :
    Calls Tryz.prog 73 #[v, .func (.func nf) #[] nb] w (BoolB (l.any p) w) := by
  have hc := Lib.hid (indexRds v l p nf nb w hv en hp)
  obtain ⟨a, cap, rfl, -, -⟩ := hv
  clear hp
  cases ht : l.any p
  all_goals
    replace ht := Lib.hid ht
    go_enter Tryz.func73, Tryz.ntmps73
    go_wp2_with (go_at_call 100; refine Calls.mono hc.out ?_; rintro e w' ⟨n, rfl, hn, hb⟩; rw [ht.out] at hn; have hn' : Hid (_ ↔ (0 : Int) ≤ n) := hn; clear hn)
    go_ret
    refine ⟨_, rfl, ?_, hb⟩
    have := hn'.out
    simp at this
    show _ = _
    simp [this]
theorem gsAt_eq {l : List Gs} {j : Nat} (h : j < l.length) : gsAt l j = l[j] := by simp [gsAt, h]
set_option maxRecDepth 100000 in
set_option maxHeartbeats 2000000 in
theorem indexGss (v : Value) (l : List Gs) (p : Gs → Bool) (nf : Nat) (nb : Array Value) (w : World) (hv : GssAt w v l) (en : ∀ args w, (callFunc nf args).run Tryz.prog w = .ok (.enter nf args) w)
    (hp : ∀ d, d ∈ l → ∀ X, Below w.heap.size w X → Calls Tryz.prog nf (#[gsV d] ++ nb) X fun e X' => e = .returned (.bool (p d)) ∧ Below X.heap.size X X') :
    Calls Tryz.prog 78 #[v, .func (.func nf) #[] nb] w (FoundP (l.any p) w) := by
  obtain ⟨a, cap, rfl, hm, hc⟩ := hv.form
  clear hv
  replace hp := Lib.hid hp
  go_enter Tryz.func78, Tryz.ntmps78
  go_wp2_with (fail)
  have hg := grow_cell w
  go_loopw [8] (fun i wr => ∃ k : Nat, k ≤ l.length ∧ i = .int .i64 k ∧ Hid (∀ j (hj : j < l.length), j < k → p l[j] = false) ∧ ∃ g : Grow w, wr = g.x) (fun i _ => l.length - (intOf i).toNat)
  case atStart => exact ⟨0, by omega, rfl, (fun j _ h => by omega : ∀ j (hj : j < l.length), j < 0 → p l[j] = false), Grow.self w, rfl⟩
  case round =>
    obtain ⟨k, hk, rfl, hH, g, rfl⟩ := hrel
    by_cases hlt : k < l.length
    · obtain ⟨b, off, rfl, hbl, hx⟩ := hc (by omega)
      have c0 : w.cell? ⟨b, off + k * 3, none⟩ = some (.int .i64 (gsAt l k).zone) := hx k 0 _ hlt rfl
      have c1 : w.cell? ⟨b, off + k * 3 + 1, none⟩ = some (.int .i64 (gsAt l k).size) := hx k 1 _ hlt rfl
      have c2 : w.cell? ⟨b, off + k * 3 + 2, none⟩ = some (.int .i64 (gsAt l k).since) := hx k 2 _ hlt rfl
      have hki : (0 : Int) ≤ (k : Int) ∧ (k : Int) < l.length := by omega
      have hcall := hp.out (gsAt l k) (by rw [gsAt_eq hlt]; exact List.getElem_mem hlt) g.x g.h
      rw [gsAt_eq hlt] at c0 c1 c2 hcall
      clear hx hc
      cases ht : p l[k]
      · rw [ht] at hcall
        have hH' : Hid (∀ j (hj : j < l.length), j < k + 1 → p l[j] = false) := fun j hj hjk => by
          rcases Nat.lt_succ_iff_lt_or_eq.1 hjk with h | rfl
          · exact hH.out j hj h
          · exact ht
        replace ht := Lib.hid ht
        replace hcall := Lib.hid hcall
        go_wp2_with ((with_reducible refine Calls.mono hcall.out ?_); rintro e w' ⟨rfl, hb'⟩; obtain ⟨g1, rfl⟩ := g.next hb')
        exact ⟨⟨k + 1, by omega, by go_num, hH', g1, rfl⟩, by simp [intOf]; omega⟩
      · rw [ht] at hcall
        have hany := Lib.hid (any_some hlt ht)
        replace ht := Lib.hid ht
        replace hcall := Lib.hid hcall
        go_wp2_with ((with_reducible refine Calls.mono hcall.out ?_); rintro e w' ⟨rfl, hb'⟩; obtain ⟨g1, rfl⟩ := g.next hb')
        go_ret
        exact ⟨k, rfl, ⟨fun _ => by omega, fun _ => hany.out⟩, g1.h⟩
    · have hany := Lib.hid (any_none fun j hj => hH.out j hj (by omega))
      go_wp2_with (fail)
      go_ret
      exact ⟨-1, rfl, ⟨(fun h => by rw [hany.out] at h; cases h), (fun h => by omega)⟩, g.h⟩
theorem containsGss (v : Value) (l : List Gs) (p : Gs → Bool) (nf : Nat) (nb : Array Value) (w : World) (hv : GssAt w v l) (en : ∀ args w, (callFunc nf args).run Tryz.prog w = .ok (.enter nf args) w)
    (hp : ∀ d, d ∈ l → ∀ X, Below w.heap.size w X → Calls Tryz.prog nf (#[gsV d] ++ nb) X fun e X' => e = .returned (.bool (p d)) ∧ Below X.heap.size X X') :
    Calls Tryz.prog 56 #[v, .func (.func nf) #[] nb] w (BoolB (l.any p) w) := by
  have hc := Lib.hid (indexGss v l p nf nb w hv en hp)
  obtain ⟨a, cap, rfl, -, -⟩ := hv
  clear hp
  cases ht : l.any p
  all_goals
    replace ht := Lib.hid ht
    go_enter Tryz.func56, Tryz.ntmps56
    go_wp2_with (go_at_call 78; refine Calls.mono hc.out ?_; rintro e w' ⟨n, rfl, hn, hb⟩; rw [ht.out] at hn; have hn' : Hid (_ ↔ (0 : Int) ≤ n) := hn; clear hn)
    go_ret
    refine ⟨_, rfl, ?_, hb⟩
    have := hn'.out
    simp at this
    show _ = _
    simp [this]
theorem dyAt_eq {l : List Dy} {j : Nat} (h : j < l.length) : dyAt l j = l[j] := by simp [dyAt, h]
set_option maxRecDepth 100000 in
set_option maxHeartbeats 2000000 in
theorem indexDys (v : Value) (l : List Dy) (p : Dy → Bool) (nf : Nat) (nb : Array Value) (w : World) (hv : DysAt w v l) (en : ∀ args w, (callFunc nf args).run Tryz.prog w = .ok (.enter nf args) w)
    (hp : ∀ d, d ∈ l → ∀ X, Below w.heap.size w X → Calls Tryz.prog nf (#[dyV d] ++ nb) X fun e X' => e = .returned (.bool (p d)) ∧ Below X.heap.size X X') :
    Calls Tryz.prog 68 #[v, .func (.func nf) #[] nb] w (FoundP (l.any p) w) := by
  obtain ⟨a, cap, rfl, hm, hc⟩ := hv.form
  clear hv
  replace hp := Lib.hid hp
  go_enter Tryz.func68, Tryz.ntmps68
  go_wp2_with (fail)
  have hg := grow_cell w
  go_loopw [8] (fun i wr => ∃ k : Nat, k ≤ l.length ∧ i = .int .i64 k ∧ Hid (∀ j (hj : j < l.length), j < k → p l[j] = false) ∧ ∃ g : Grow w, wr = g.x) (fun i _ => l.length - (intOf i).toNat)
  case atStart => exact ⟨0, by omega, rfl, (fun j _ h => by omega : ∀ j (hj : j < l.length), j < 0 → p l[j] = false), Grow.self w, rfl⟩
  case round =>
    obtain ⟨k, hk, rfl, hH, g, rfl⟩ := hrel
    by_cases hlt : k < l.length
    · obtain ⟨b, off, rfl, hbl, hx⟩ := hc (by omega)
      have c0 : w.cell? ⟨b, off + k * 3, none⟩ = some (.int .i64 (dyAt l k).flow) := hx k 0 _ hlt rfl
      have c1 : w.cell? ⟨b, off + k * 3 + 1, none⟩ = some (.bool (dyAt l k).reads) := hx k 1 _ hlt rfl
      have c2 : w.cell? ⟨b, off + k * 3 + 2, none⟩ = some (.int .i64 (dyAt l k).content) := hx k 2 _ hlt rfl
      have hki : (0 : Int) ≤ (k : Int) ∧ (k : Int) < l.length := by omega
      have hcall := hp.out (dyAt l k) (by rw [dyAt_eq hlt]; exact List.getElem_mem hlt) g.x g.h
      rw [dyAt_eq hlt] at c0 c1 c2 hcall
      clear hx hc
      cases ht : p l[k]
      · rw [ht] at hcall
        have hH' : Hid (∀ j (hj : j < l.length), j < k + 1 → p l[j] = false) := fun j hj hjk => by
          rcases Nat.lt_succ_iff_lt_or_eq.1 hjk with h | rfl
          · exact hH.out j hj h
          · exact ht
        replace ht := Lib.hid ht
        replace hcall := Lib.hid hcall
        go_wp2_with ((with_reducible refine Calls.mono hcall.out ?_); rintro e w' ⟨rfl, hb'⟩; obtain ⟨g1, rfl⟩ := g.next hb')
        exact ⟨⟨k + 1, by omega, by go_num, hH', g1, rfl⟩, by simp [intOf]; omega⟩
      · rw [ht] at hcall
        have hany := Lib.hid (any_some hlt ht)
        replace ht := Lib.hid ht
        replace hcall := Lib.hid hcall
        go_wp2_with ((with_reducible refine Calls.mono hcall.out ?_); rintro e w' ⟨rfl, hb'⟩; obtain ⟨g1, rfl⟩ := g.next hb')
        go_ret
        exact ⟨k, rfl, ⟨fun _ => by omega, fun _ => hany.out⟩, g1.h⟩
    · have hany := Lib.hid (any_none fun j hj => hH.out j hj (by omega))
      go_wp2_with (fail)
      go_ret
      exact ⟨-1, rfl, ⟨(fun h => by rw [hany.out] at h; cases h), (fun h => by omega)⟩, g.h⟩
theorem containsDys (v : Value) (l : List Dy) (p : Dy → Bool) (nf : Nat) (nb : Array Value) (w : World) (hv : DysAt w v l) (en : ∀ args w, (callFunc nf args).run Tryz.prog w = .ok (.enter nf args) w)
    (hp : ∀ d, d ∈ l → ∀ X, Below w.heap.size w X → Calls Tryz.prog nf (#[dyV d] ++ nb) X fun e X' => e = .returned (.bool (p d)) ∧ Below X.heap.size X X') :
    Calls Tryz.prog 46 #[v, .func (.func nf) #[] nb] w (BoolB (l.any p) w) := by
  have hc := Lib.hid (indexDys v l p nf nb w hv en hp)
  obtain ⟨a, cap, rfl, -, -⟩ := hv
  clear hp
  cases ht : l.any p
  all_goals
    replace ht := Lib.hid ht
    go_enter Tryz.func46, Tryz.ntmps46
    go_wp2_with (go_at_call 68; refine Calls.mono hc.out ?_; rintro e w' ⟨n, rfl, hn, hb⟩; rw [ht.out] at hn; have hn' : Hid (_ ↔ (0 : Int) ≤ n) := hn; clear hn)
    go_ret
    refine ⟨_, rfl, ?_, hb⟩
    have := hn'.out
    simp at this
    show _ = _
    simp [this]
end Go.Proofs.YthbkcoijafehgaaGreat.L
