/- Gas: walks: the rule of a state (the program): an array of functions. -/
import Derived.Test.YtdilgjhdimlbkaaA7
import Derived.Test.YtdilgjhdimlbkaaA3
import Derived.Laws.EntriesVeiled
set_option linter.unusedVariables false
set_option linter.unusedSimpArgs false
namespace Go.Proofs.Ytdilgjhdimlbkaa
open Go.RowKit Go.Sd Gas

def rul1 (c : Cav) (s : St) : Bool := decide (force c s.low < c.least * c.vhi * 10000000)
def rul2 (c : Cav) (s : St) : Bool := decide (force c s.high > c.most * c.vlo * 10000000)
theorem BoolB.lit {b t : Bool} {w w' : World} {e : Ending} (h : BoolB b w e w') (hb : b = t) : e = .returned (.bool t) ∧ Below w.heap.size w w' := by
  obtain ⟨t', rfl, ht, hB⟩ := h
  exact ⟨by rw [← hb, ← ht.out], hB⟩
theorem press_bd {c : Cav} (hc : c.Ok) : (0 ≤ c.least * (c.vhi * 10000000) ∧ c.least * (c.vhi * 10000000) ≤ 1000000000000000000) ∧ (0 ≤ c.most * (c.vlo * 10000000) ∧ c.most * (c.vlo * 10000000) ≤ 1000000000000000000) := by
  have := hc.v; have := hc.p
  have a := bd_mul (A := 100000) (B := 10000000000000) (a := c.least) (b := c.vhi * 10000000) ⟨by omega, by omega⟩ ⟨by omega, by omega⟩
  have b := bd_mul (A := 100000) (B := 10000000000000) (a := c.most) (b := c.vlo * 10000000) ⟨by omega, by omega⟩ ⟨by omega, by omega⟩
  exact ⟨⟨a.1, by omega⟩, ⟨b.1, by omega⟩⟩

/-- The tests of a state, in their order. -/
def rulAt (c : Cav) (s : St) (k : Nat) : Bool := match k with
  | 0 => rul1 c s
  | 1 => rul2 c s
  | 2 => thin c s
  | _ => rich c s
def rulTo (c : Cav) (s : St) (k : Nat) : Prop := ∀ j, j < k → rulAt c s j = false
theorem rulTo.next {c : Cav} {s : St} {k : Nat} (h : rulTo c s k) (h1 : rulAt c s k = false) : rulTo c s (k + 1) := by
  intro j hj
  by_cases e : j = k
  · rw [e]; exact h1
  · exact h j (by omega)
theorem sure_at {c : Cav} {s : St} {k : Nat} (hk : k < 4) (h : rulTo c s k) (h1 : rulAt c s k = true) : sure c s = 2 + (k : Int) := by
  have e0 : rul1 c s = decide (force c s.low < c.least * c.vhi * 10000000) := rfl
  have e1 : rul2 c s = decide (force c s.high > c.most * c.vlo * 10000000) := rfl
  match k, hk with
  | 0, _ => simp only [rulAt, e0, decide_eq_true_eq] at h1; simp [sure, h1]
  | 1, _ =>
    have a := h 0 (by omega)
    simp only [rulAt, e0, e1, decide_eq_true_eq, decide_eq_false_iff_not] at h1 a; simp [sure, a, h1]
  | 2, _ =>
    have a := h 0 (by omega); have b := h 1 (by omega)
    simp only [rulAt, e0, e1, decide_eq_true_eq, decide_eq_false_iff_not] at h1 a b; simp [sure, a, b, h1]
  | 3, _ =>
    have a := h 0 (by omega); have b := h 1 (by omega); have d := h 2 (by omega)
    simp only [rulAt, e0, e1, decide_eq_true_eq, decide_eq_false_iff_not] at h1 a b d; simp [sure, a, b, d, h1]
theorem sure_fine {c : Cav} {s : St} (h : rulTo c s 4) : sure c s = 1 := by
  have a := h 0 (by omega); have b := h 1 (by omega); have d := h 2 (by omega); have e := h 3 (by omega)
  have e0 : rul1 c s = decide (force c s.low < c.least * c.vhi * 10000000) := rfl
  have e1 : rul2 c s = decide (force c s.high > c.most * c.vlo * 10000000) := rfl
  simp only [rulAt, e0, e1, decide_eq_false_iff_not] at a b d e; simp [sure, a, b, d, e]

end Go.Proofs.Ytdilgjhdimlbkaa
