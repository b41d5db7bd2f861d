/- A list of lists of whole numbers that comes in as an argument lies in memory as the walks want it. -/
import Derived.Test.YtacajmpggjgaiaaFrame
set_option linter.unusedVariables false
set_option linter.unusedSimpArgs false
namespace Go.Proofs.Ytacajmpggjgaiaa
open Go.ChangeShapes Go.WideShapes Go.Deep

theorem cells_nums : Try.prog.cellsOf 28 = 1 := by kernel_rfl

section
variable {H : Type} {enc : TypeId × Value → H} {w : World} {base : Nat} {spare : Nat → Bool} {held : Bool}

theorem open_numss {fuel : Nat} {cs : List Value} {x : DataW H × List MemPlace} (h : DataW.trod enc Try.prog w base spare held fuel 35 cs = some x) :
    ∃ v xs, cs = [v] ∧ ListsAt w v xs := by
  rcases open_slice Try.underlying35 h with ⟨h0, -⟩ | ⟨a, len, cap, m, n, D, Pl, hcs, hb, hl, hm, hmm, hx, hi⟩
  · exact ⟨_, [], h0, none, 0, rfl, by simp, fun h => absurd h (by simp)⟩
  · have hle : len ≤ m := by rw [hmm]; split <;> omega
    obtain ⟨xs, hxl, hxs⟩ := list_of ([] : List Int) (P := fun i z => ∃ ev, w.cell? (a.add i) = some ev ∧ IntsAt w ev z) len (fun i hil => by
      obtain ⟨cs', hc, ht⟩ := hi i (by omega)
      rw [cells_nums, Nat.mul_one] at hc
      obtain ⟨v, ys, rfl, hv⟩ := open_nums ht
      have := (World.cells?_some hc).2.2 0 (by omega)
      have e : (a.add i).add 0 = a.add i := by simp [Addr.add]
      rw [e] at this
      exact ⟨ys, v, this, hv⟩)
    refine ⟨_, xs, hcs, some a, cap, by rw [hxl], by omega, fun h0 => ?_⟩
    obtain ⟨b, off, spot⟩ := a
    obtain ⟨ev0, hc0, -⟩ := hxs 0 (by omega)
    have hs : spot = none := by simpa [Addr.add] using World.cell?_spot hc0
    subst hs
    simp only [add_none] at hxs hc0
    exact ⟨b, off, rfl, World.block_lt_of_cell? w ⟨b, off + 0, none⟩ hc0, fun k hk => hxs k (by omega)⟩

set_option maxRecDepth 100000 in
theorem open_lists {r : Reach} {b0 : Nat} {v : Value} {d : DataW H} {p : List MemPlace} (hv : Value.okWide Try.prog w r b0 35 v) (h : DataW.Trod enc Try.prog w base spare held 35 v d p) :
    ∃ l, ListsAt w v l := by
  obtain ⟨a, n, c, rfl⟩ := okWide_slice Try.underlying35 hv
  obtain ⟨fuel, hf⟩ := h
  obtain ⟨v, xs, e, hx⟩ := open_numss hf
  simp [Value.cells] at e
  subst e
  exact ⟨xs, hx⟩
end
end Go.Proofs.Ytacajmpggjgaiaa
