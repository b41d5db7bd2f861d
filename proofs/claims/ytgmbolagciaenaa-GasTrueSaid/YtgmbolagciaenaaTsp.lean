/- Gas: what steps are, step by step; sub-slices of one element. -/
import Derived.Test.YtgmbolagciaenaaSta
import Derived.Test.YtgmbolagciaenaaHs
import Derived.Test.YtgmbolagciaenaaPly
import Derived.Test.YtgmbolagciaenaaPl2
import Derived.Test.YtgmbolagciaenaaDo1
set_option linter.unusedVariables false
set_option linter.unusedSimpArgs false
namespace Gas
/-- The state ahead of an operation. -/
def stBefore (s : St) (r : List St) (i : Nat) : St := if i = 0 then s else theSt r (i - 1)
theorem stepsFrom_spec {c : Cav} : ∀ (l : List Op) (s : St) (acc : List St) (k : Nat) {r : List St} {n : Int}, stepsFrom c l s acc k = (r, n) →
    ∃ q, r = acc ++ q ∧ ((n = -1 ∧ q.length = l.length) ∨ (n = k + q.length ∧ q.length < l.length)) ∧ ∀ i, i < q.length → ∃ o, act c (stBefore s q i) (theOp l i) = some (theSt q i, o)
  | [], s, acc, k, r, n, h => by
    simp only [stepsFrom, Prod.mk.injEq] at h
    exact ⟨[], by simp [h.1], .inl ⟨h.2.symm, rfl⟩, fun i hi => by simp at hi⟩
  | o :: l, s, acc, k, r, n, h => by
    simp only [stepsFrom] at h
    cases hx : act c s o with
    | none =>
      rw [hx] at h
      simp only [Prod.mk.injEq] at h
      exact ⟨[], by simp [h.1], .inr ⟨by simp [← h.2], by simp⟩, fun i hi => by simp at hi⟩
    | some y =>
      obtain ⟨y, g⟩ := y
      rw [hx] at h
      obtain ⟨q, h1, h2, h3⟩ := stepsFrom_spec l y _ _ h
      refine ⟨y :: q, by simp [h1], ?_, fun i hi => ?_⟩
      · rcases h2 with ⟨h2, h4⟩ | ⟨h2, h4⟩
        · exact .inl ⟨h2, by simp [h4]⟩
        · exact .inr ⟨by simp at h2 ⊢; omega, by simpa using h4⟩
      · match i, hi with
        | 0, _ => exact ⟨g, by simpa [stBefore, theOp, theSt] using hx⟩
        | i + 1, hi =>
          obtain ⟨o', h5⟩ := h3 i (by simpa using hi)
          refine ⟨o', ?_⟩
          have e1 : stBefore s (y :: q) (i + 1) = stBefore y q i := by
            unfold stBefore
            rw [if_neg (by omega)]
            cases i with
            | zero => rfl
            | succ i => rw [if_neg (by omega)]; simp [theSt]
          have e2 : theOp (o :: l) (i + 1) = theOp l i := by simp [theOp]
          have e3 : theSt (y :: q) (i + 1) = theSt q i := by simp [theSt]
          rw [e1, e2, e3]; exact h5
theorem steps_spec {c : Cav} {l : List Op} {s : St} {r : List St} {n : Int} (h : steps c s l = (r, n)) :
    ((n = -1 ∧ r.length = l.length) ∨ (n = r.length ∧ r.length < l.length)) ∧ ∀ i, i < r.length → ∃ o, act c (stBefore s r i) (theOp l i) = some (theSt r i, o) := by
  obtain ⟨q, h1, h2, h3⟩ := stepsFrom_spec l s [] 0 h
  rw [List.nil_append] at h1
  subst h1
  exact ⟨by simpa using h2, h3⟩
theorem playErr_ok1 {c : Cav} {p : Pt} {l : List Gas.Op} {xa xb : List Int} (h1 : l.length ≤ 20) (h2 : c.ok = true) (h3 : p.ok = true) (h4 : opsB l = true) (h5 : truthB l xa xb = true) : playErr c p l xa xb = 0 := by
  unfold playErr
  rw [if_neg (by omega), h2, h3, h4, h5]; rfl
end Gas
namespace Go.Proofs.Ytgmbolagciaenaa
open Go.RowKit Go.Sd Gas
/-- What 'l[k:k+1]' is. -/
def oneV (b off m k cap : Nat) : Value := .slice (some ⟨b, off + k * m, none⟩) 1 (cap - k)
def oneI (b off k cap : Nat) : Value := .slice (some ⟨b, off + k, none⟩) 1 (cap - k)
theorem ops_one {w : World} {b off cap : Nat} {xs : List Gas.Op} (hm : xs.length ≤ maxLen) {k : Nat} (hk : OpCells w b (off + k * 10) (theOp xs k)) (hb : b < w.heap.size) : OpsAt w (oneV b off 10 k cap) [theOp xs k] := by
  refine ⟨_, _, rfl, by simp [maxLen], fun _ => ⟨b, off + k * 10, rfl, hb, fun j hj => ?_⟩⟩
  obtain rfl : j = 0 := by simp at hj; omega
  simpa [theOp] using hk
theorem ints_one {w : World} {b off cap : Nat} {u : Int} {k : Nat} (hk : w.cell? ⟨b, off + k, none⟩ = some (.int .i64 u)) (hb : b < w.heap.size) : IntsAt w (oneI b off k cap) [u] := by
  refine ⟨_, _, rfl, by simp [maxLen], fun _ => ⟨b, off + k, rfl, hb, fun j hj => ?_⟩⟩
  obtain rfl : j = 0 := by simp at hj; omega
  simpa [at0] using hk
/-- Play of one operation, whatever is true of it. -/
theorem onePlay {c : Cav} {s n : St} {o : Gas.Op} {q : Out} {p : Pt} {u v : Int} (hc : c.ok = true) (hs : s.Ok) (ho : o.ok = true) (h : act c s o = some (n, q)) (hp : s.Has p) (hu : inB u o.slo o.shi = true) (hv : inB v o.wlo o.whi = true) :
    ∃ x g : Pt, n.Has x ∧ q.Has g ∧ n.Ok ∧ ∀ (lv av bv : Value) (w : World), OpsAt w lv [o] → IntsAt w av [u] → IntsAt w bv [v] →
      Calls Try.prog 23 #[cavV c, ptV p, lv, av, bv] w fun e w' => e = .returned (.tuple #[ptV x, .agg #[.int .i64 g.g, .int .i64 g.y, .int .i64 0, .int .i64 g.w], .int .i64 0]) ∧ Below w.heap.size w w' := by
  obtain ⟨x, g, h1, h2, h3, h4⟩ := act_sound (Cav.ok_iff.1 hc) hs (Op.ok_is ho) hp (inB_iff.1 hu) (inB_iff.1 hv) h
  refine ⟨x, g, h2, h3, h4, fun lv av bv w hl ha hb => ?_⟩
  have hpo : p.ok = true := Pt.ok_iff.2 (hp.ok hs)
  have ht : truthB [o] [u] [v] = true := truth_iff.2 ⟨rfl, rfl, fun j hj => by
    obtain rfl : j = 0 := by simp at hj; omega
    show (inB u o.slo o.shi && inB v o.wlo o.whi) = true
    rw [hu, hv]; rfl⟩
  have he := playErr_ok1 (c := c) (p := p) (l := [o]) (xa := [u]) (xb := [v]) (by simp) hc hpo (by simp [opsB, ho]) ht
  have hpl : play c p [o] [u] [v] = some (x, addPt ⟨0, 0, 0, 0⟩ g) := by
    show (match one c p o u v with | none => none | some (x, g) => some (x, addPt ⟨0, 0, 0, 0⟩ g)) = _
    rw [h1]
  have := progPlaySome w hl ha hb he hpl
  have e : ptV (addPt ⟨0, 0, 0, 0⟩ g) = .agg #[.int .i64 g.g, .int .i64 g.y, .int .i64 0, .int .i64 g.w] := by simp [addPt]
  rw [e] at this
  exact this
end Go.Proofs.Ytgmbolagciaenaa
