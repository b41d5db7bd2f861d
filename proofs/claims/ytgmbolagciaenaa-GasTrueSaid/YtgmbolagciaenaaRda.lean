/- Gas: ref.Do: the document's state behind any operation, and what is withdrawn. -/
import Derived.Test.YtgmbolagciaenaaRd1
import Derived.Test.YtgmbolagciaenaaRd2
import Derived.Test.YtgmbolagciaenaaRd3
import Derived.Test.YtgmbolagciaenaaDof
set_option linter.unusedVariables false
set_option linter.unusedSimpArgs false
namespace Go.Proofs.Ytgmbolagciaenaa
open Go.RowKit Go.Sd Gas

/-- What ref.Do yields. -/
structure RefDo (c : Cav) (s : St) (o : Gas.Op) (n : St) (q : Out) (b : Bool) : Prop where
  calls : ∀ w, Calls Try.prog 21 #[cavV c, stV s, opV o] w fun e w' => e = .returned (doV n q b) ∧ Below w.heap.size w w'
  is : act c s o = if b = true then some (n, q) else none
theorem refDoAll {c : Cav} {s : St} {o : Gas.Op} (hc : c.Ok) (hs : s.Ok) (ho : o.Fit) : ∃ n q b, RefDo c s o n q b := by
  obtain ⟨k, lg, ly, lt, lw, m, a, b, x, y⟩ := o
  rcases ho with ⟨hk, hl⟩ | ⟨hk, h1, h2⟩ | ⟨hk, h1, h2⟩
  · have hk : k = 1 := hk
    subst hk
    have hl : (⟨lg, ly, lt, lw⟩ : Pt).Wide := hl
    refine ⟨_, _, _, fun w => refDo1 c s ⟨lg, ly, lt, lw⟩ m a b x y w hc hs hl, ?_⟩
    unfold act
    rw [if_pos rfl]
    by_cases e1 : s.ghi + lg ≤ 1000000 <;> by_cases e2 : s.yhi + ly ≤ 1000000 <;> by_cases e3 : s.whi + lw ≤ 1000000000 <;> simp [e1, e2, e3, Op.lot]
  · have hk : k = 2 := hk
    subst hk
    have h1 : 0 ≤ m := h1
    have h2 : m ≤ 100000000 := h2
    by_cases e : m ≤ s.glo + s.ylo
    · refine ⟨_, _, _, fun w => refDo2 c s lg ly lt lw m a b x y w hs ⟨h1, h2⟩ e, ?_⟩
      simp only [act]
      rw [if_neg (by decide), if_pos trivial, if_pos e]
      rfl
    · refine ⟨_, _, _, fun w => refDo2No c s lg ly lt lw m a b x y w hs ⟨h1, h2⟩ e, ?_⟩
      simp only [act]
      rw [if_neg (by decide), if_pos trivial, if_neg e]
      rfl
  · have hk : k = 3 := hk
    subst hk
    refine ⟨_, _, _, fun w => refDo3 c s lg ly lt lw m a b x y w hc hs h1 h2, ?_⟩
    have e1 := hs.g.2.2
    have e2 := hs.y.2.2
    simp only [act]
    rw [if_neg (by decide), if_neg (by decide)]
    by_cases e3 : s.whi + y ≤ 1000000000 <;> simp [e1, e2, e3]
theorem RefDo.some {c : Cav} {s n' : St} {o : Gas.Op} {n : St} {q q' : Out} {b : Bool} (h : RefDo c s o n q b) (ha : act c s o = some (n', q')) (w : World) :
    Calls Try.prog 21 #[cavV c, stV s, opV o] w fun e w' => e = .returned (doV n' q' true) ∧ Below w.heap.size w w' := by
  have h2 := h.is
  rw [ha] at h2
  cases b
  · cases h2
  · simp only [if_true, Option.some.injEq, Prod.mk.injEq] at h2
    obtain ⟨rfl, rfl⟩ := h2
    exact h.calls w
theorem RefDo.none {c : Cav} {s : St} {o : Gas.Op} {n : St} {q : Out} {b : Bool} (h : RefDo c s o n q b) (ha : act c s o = none) (w : World) :
    Calls Try.prog 21 #[cavV c, stV s, opV o] w fun e w' => e = .returned (doV n q false) ∧ Below w.heap.size w w' := by
  have h2 := h.is
  rw [ha] at h2
  cases b
  · exact h.calls w
  · cases h2
end Go.Proofs.Ytgmbolagciaenaa
