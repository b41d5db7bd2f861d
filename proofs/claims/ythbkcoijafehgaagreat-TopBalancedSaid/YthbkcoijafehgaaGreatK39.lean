/- Laws and walks: Tbe. -/
import Derived.Test.YthbkcoijafehgaaGreatK37
set_option linter.unusedVariables false
set_option linter.unusedSimpArgs false
namespace Go.Proofs.YthbkcoijafehgaaGreat.L
open Go.RowKit Go.Sd Lk Lc
/-- The flows are given to the book that lacks: what stands there. -/
theorem TbSt.close {U : World} {pb bb lb : Nat} {fv hv wv rv qv : Value} {y : Gas.Pt} {L : List Int} {F : List (List Sp)} {R Q : List Rd} {X Z : World} (h : TbSt U pb bb lb fv hv wv rv qv y L F R Q X) (hU : TbB U pb bb lb)
    (hZ : X.setCell ⟨lb, 1, none⟩ wv = Z) :
    SpRowsAt Z wv F ∧ RdsAt Z rv R ∧ RdsAt Z qv Q ∧ IntsAt Z hv L ∧ Z.heap[bb]? = some (bkA fv wv rv) ∧ Z.heap[lb]? = some (bkA fv wv qv) ∧ ∀ k, k < U.heap.size → k ≠ pb → k ≠ bb → k ≠ lb → Z.heap[k]? = U.heap[k]? := by
  subst hZ
  obtain ⟨h1, h2, h3, h4, col, h5⟩ := h
  obtain ⟨k1, k2, k3, k4⟩ := h5.set (p := ⟨lb, 1, none⟩) hU.l wv
  have hs := set_one h4 1 wv
  simp only [List.setIfInBounds_toArray, List.set_cons_succ, List.set_cons_zero] at hs
  exact ⟨k2.at, OwnRds.rds k3.1, OwnRds.rds k4.1, OwnInts.ints k1.1, (Below.heap_setCell _ _ _ _ hU.nbl).trans h3, hs, fun k a0 a1 a2 a3 => (Below.heap_setCell _ _ _ _ a3).trans (h1.block k a0 ⟨a0, a1, a2, a3⟩)⟩
def RwIs (rows : List (List Sp)) : Value → World → Prop := fun v x => ∃ u, v = .tuple #[u, .int .i64 0] ∧ SpRowsAt x u rows
def RwV (rows : List (List Sp)) : Value → World → Prop := fun v x => SpRowsAt x v rows
theorem pers_rwis (rows : List (List Sp)) : Pers (RwIs rows) := fun v w w' hb h => by
  obtain ⟨u, h1, h2⟩ := h
  exact ⟨u, h1, h2.mono hb⟩
theorem pers_rwv (rows : List (List Sp)) : Pers (RwV rows) := fun v w w' hb h => RowsAt.mono h hb
/-- A row of one span, of many. -/
theorem row_at {X : World} {a : Option Addr} {n cap : Nat} {f : Nat → Sp} (h : SpRowsAt X (.slice a n cap) ((List.range n).map fun d => [f d])) {k : Nat} (hk : k < n) :
    ∃ xb xo rb ro rc, a = some ⟨xb, xo, none⟩ ∧ xb < X.heap.size ∧ X.cell? ⟨xb, xo + k, none⟩ = some (.slice (some ⟨rb, ro, none⟩) 1 rc) ∧ rb < X.heap.size ∧ X.cell? ⟨rb, ro, none⟩ = some (.int .i64 (f k).lo) ∧ X.cell? ⟨rb, ro + 1, none⟩ = some (.int .i64 (f k).hi) := by
  obtain ⟨a', cap', e, -, hc⟩ := h.form
  simp only [Value.slice.injEq] at e
  obtain ⟨rfl, -, rfl⟩ := e
  obtain ⟨xb, xo, rfl, hlt, hx⟩ := hc (by simp; omega)
  obtain ⟨ev, h1, h2⟩ := hx k (by simp; omega)
  have e : ((List.range n).map fun d => [f d]).getD k [] = [f k] := by simp [List.getD, hk]
  rw [e] at h2
  obtain ⟨ra, rc, rfl, -, hr⟩ := h2.form
  obtain ⟨rb, ro, rfl, hrl, hrx⟩ := hr (by simp)
  exact ⟨xb, xo, rb, ro, rc, rfl, hlt, h1, hrl, hrx 0 0 _ (by simp) rfl, hrx 0 1 _ (by simp) rfl⟩
theorem rows_len {X : World} {v : Value} {n : Nat} {f : Nat → Sp} (h : SpRowsAt X v ((List.range n).map fun d => [f d])) : ∃ a cap, v = .slice a n cap := by
  obtain ⟨a, cap, rfl, -, -⟩ := h.form
  exact ⟨a, cap, by rw [List.length_map, List.length_range]⟩
end Go.Proofs.YthbkcoijafehgaaGreat.L
