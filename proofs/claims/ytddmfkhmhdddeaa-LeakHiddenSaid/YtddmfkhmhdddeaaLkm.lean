/- The plain model of leaks: no Go in sight. Books, guesses, what is known of a zone day by day. -/
import Derived.WalkKit
set_option linter.unusedVariables false
set_option linter.unusedSimpArgs false
namespace Lk

structure Sp where
  lo : Int
  hi : Int
  deriving DecidableEq
structure Rd where
  day : Int
  zone : Int
  v : Sp
  deriving DecidableEq
structure Bk where
  first : List Sp
  flows : List (List Sp)
  reads : List Rd
structure Gs where
  zone : Int
  size : Int
  since : Int
  deriving DecidableEq

def spAt (l : List Sp) (k : Nat) : Sp := l.getD k ⟨0, 0⟩
def rwAt (l : List (List Sp)) (k : Nat) : List Sp := l.getD k []
def rdAt (l : List Rd) (k : Nat) : Rd := l.getD k ⟨0, 0, ⟨0, 0⟩⟩
def at0 (l : List Int) (k : Nat) : Int := l.getD k 0
def lstAt (l : List (List Int)) (k : Nat) : List Int := l.getD k []

def inB (x l h : Int) : Bool := decide (l ≤ x) && decide (x ≤ h)
def spB (s : Sp) (m : Int) : Bool := decide (-m ≤ s.lo) && decide (s.lo ≤ s.hi) && decide (s.hi ≤ m)
theorem inB_iff {x l h : Int} : inB x l h = true ↔ l ≤ x ∧ x ≤ h := by simp [inB]
theorem inB_not {x l h : Int} : inB x l h = false ↔ ¬ (l ≤ x ∧ x ≤ h) := by rw [← inB_iff]; simp
theorem spB_iff {s : Sp} {m : Int} : spB s m = true ↔ -m ≤ s.lo ∧ s.lo ≤ s.hi ∧ s.hi ≤ m := by simp [spB, and_assoc]

def Bk.rdB (b : Bk) (r : Rd) : Bool := inB r.day 0 (b.flows.length - 1) && inB r.zone 0 (b.first.length - 1) && spB r.v 1000000000
def Bk.flowB (b : Bk) (l : List Sp) : Bool := decide (l.length = b.first.length) && l.all (spB · 100000000)
/-- Whether a book is as defined, apart from how many days and readings it has. -/
def Bk.bookB (b : Bk) : Bool := b.first.all (spB · 1000000000) && b.flows.all b.flowB && b.reads.all b.rdB && (inB b.first.length 1 6 && decide (0 < b.flows.length))
def Bk.longB (b : Bk) : Bool := decide (40 < b.reads.length) || decide (30 < b.flows.length)
/-- The error of a book, if all else is as defined or not. -/
def Bk.err (b : Bk) (fine : Bool) : Int := if b.longB = true then 3 else if (b.bookB && fine) = true then 0 else 2

def noGs : Gs := ⟨-1, 0, 0⟩
def Bk.gsB (b : Bk) (g : Gs) : Bool := decide (g = noGs) || (inB g.zone 0 (b.first.length - 1) && inB g.size 1 10000000 && inB g.since 0 (b.flows.length - 1))

/-- What a book that is as defined comes to. -/
structure Ok (b : Bk) : Prop where
  nz : 1 ≤ b.first.length ∧ b.first.length ≤ 6
  nd : 1 ≤ b.flows.length ∧ b.flows.length ≤ 30
  nr : b.reads.length ≤ 40
  first : ∀ k, k < b.first.length → -1000000000 ≤ (spAt b.first k).lo ∧ (spAt b.first k).lo ≤ (spAt b.first k).hi ∧ (spAt b.first k).hi ≤ 1000000000
  rows : ∀ d, d < b.flows.length → (rwAt b.flows d).length = b.first.length
  flows : ∀ d k, d < b.flows.length → k < b.first.length → -100000000 ≤ (spAt (rwAt b.flows d) k).lo ∧ (spAt (rwAt b.flows d) k).lo ≤ (spAt (rwAt b.flows d) k).hi ∧ (spAt (rwAt b.flows d) k).hi ≤ 100000000
  reads : ∀ k, k < b.reads.length → 0 ≤ (rdAt b.reads k).day ∧ (rdAt b.reads k).day < b.flows.length ∧ 0 ≤ (rdAt b.reads k).zone ∧ (rdAt b.reads k).zone < b.first.length ∧
    -1000000000 ≤ (rdAt b.reads k).v.lo ∧ (rdAt b.reads k).v.lo ≤ (rdAt b.reads k).v.hi ∧ (rdAt b.reads k).v.hi ≤ 1000000000

theorem ok_of {b : Bk} (h : b.bookB = true) (h2 : b.longB = false) : Ok b := by
  simp only [Bk.bookB, Bk.flowB, Bk.rdB, Bool.and_eq_true, inB_iff, spB_iff, List.all_eq_true, decide_eq_true_eq] at h
  simp only [Bk.longB, Bool.or_eq_false_iff, decide_eq_false_iff_not] at h2
  obtain ⟨⟨⟨h1, hf⟩, hr⟩, hz, hd⟩ := h
  refine ⟨by omega, by omega, by omega, fun k hk => ?_, fun d hd => ?_, fun d k hd hk => ?_, fun k hk => ?_⟩
  · have e : spAt b.first k = b.first[k] := by simp [spAt, hk]
    have := h1 _ (List.getElem_mem hk)
    rw [e]; exact this
  · have e : rwAt b.flows d = b.flows[d] := by simp [rwAt, hd]
    rw [e]; exact (hf _ (List.getElem_mem hd)).1
  · have e : rwAt b.flows d = b.flows[d] := by simp [rwAt, hd]
    have h3 := hf _ (List.getElem_mem hd)
    have hk' : k < b.flows[d].length := by rw [h3.1]; exact hk
    have e2 : spAt b.flows[d] k = b.flows[d][k] := by simp [spAt, hk']
    rw [e, e2]; exact h3.2 _ (List.getElem_mem hk')
  · have e : rdAt b.reads k = b.reads[k] := by simp [rdAt, hk]
    have := hr _ (List.getElem_mem hk)
    rw [e]; omega
theorem Ok.long {b : Bk} (h : Ok b) : b.longB = false := by
  have h1 := h.nr; have h2 := h.nd
  simp only [Bk.longB, Bool.or_eq_false_iff, decide_eq_false_iff_not]; omega

/-- What two spans have in common. -/
def meet (a b : Sp) : Sp := ⟨max a.lo b.lo, min a.hi b.hi⟩
def meets (s : Sp) (l : List Sp) : Sp := l.foldl meet s
/-- The readings of a zone on a day, in their order. -/
def Bk.readsAt (b : Bk) (z d : Int) : List Sp := (b.reads.filter fun r => decide (r.zone = z) && decide (r.day = d)).map (·.v)
def Bk.flowAt (b : Bk) (d z : Nat) : Sp := spAt (rwAt b.flows d) z
def lost (g : Gs) (z d : Int) : Int := if g.zone = z ∧ g.since ≤ d then g.size else 0
/-- What comes to a zone on a day, less what leaks. -/
def Bk.comes (b : Bk) (g : Gs) (z d : Nat) : Sp := ⟨(b.flowAt d z).lo - lost g z d, (b.flowAt d z).hi - lost g z d⟩
def addSp (a c : Sp) : Sp := ⟨a.lo + c.lo, a.hi + c.hi⟩
/-- The contents ahead of day k that agree with all readings up to then. -/
def Bk.fwd (b : Bk) (g : Gs) (z : Nat) : Nat → Sp
  | 0 => spAt b.first z
  | k + 1 => meets (addSp (Bk.fwd b g z k) (b.comes g z k)) (b.readsAt z k)
/-- Whether there are some at the end of each of the first k days. -/
def Bk.okTo (b : Bk) (g : Gs) (z : Nat) : Nat → Bool
  | 0 => true
  | k + 1 => Bk.okTo b g z k && decide ((b.fwd g z (k + 1)).lo ≤ (b.fwd g z (k + 1)).hi)
def Bk.zoneB (b : Bk) (g : Gs) (z : Nat) : Bool := b.okTo g z b.flows.length
def Bk.agreeB (b : Bk) (g : Gs) : Bool := (List.range b.first.length).all (b.zoneB g)
/-- The contents at the end of the day that lies j days ahead of the last one, backwards. -/
def Bk.bwd (b : Bk) (g : Gs) (z : Nat) : Nat → Sp
  | 0 => b.fwd g z b.flows.length
  | j + 1 =>
    let d := b.flows.length - 1 - j
    meet (b.fwd g z d) ⟨(Bk.bwd b g z j).lo - (b.comes g z d).hi, (Bk.bwd b g z j).hi - (b.comes g z d).lo⟩
/-- The bounds of a zone at the end of a day. -/
def Bk.bnd (b : Bk) (g : Gs) (z d : Nat) : Sp := b.bwd g z (b.flows.length - 1 - d)
/-- The bounds of a guess, day by day. -/
def Bk.bounds (b : Bk) (g : Gs) : List (List Sp) := (List.range b.flows.length).map fun d => (List.range b.first.length).map fun z => b.bnd g z d

theorem spAt_range {f : Nat → Sp} {n k : Nat} (h : k < n) : spAt ((List.range n).map f) k = f k := by simp [spAt, h]
theorem rwAt_range {f : Nat → List Sp} {n k : Nat} (h : k < n) : rwAt ((List.range n).map f) k = f k := by simp [rwAt, h]
theorem sps_ext {a b : List Sp} (hl : a.length = b.length) (h : ∀ t, t < a.length → spAt a t = spAt b t) : a = b := by
  apply List.ext_getElem hl
  intro i h1 h2
  have := h i h1
  simpa [spAt, h1, h2] using this
theorem rows_ext {a b : List (List Sp)} (hl : a.length = b.length) (h : ∀ t, t < a.length → rwAt a t = rwAt b t) : a = b := by
  apply List.ext_getElem hl
  intro i h1 h2
  have := h i h1
  simpa [rwAt, h1, h2] using this
end Lk
