/- The form's own reach of a book's readings: how many there can be. -/
import Derived.Test.YtddmfkhmhdddeaaFrl
import Derived.SizedLaws
set_option linter.unusedVariables false
set_option linter.unusedSimpArgs false
namespace Go.Proofs.Ytddmfkhmhdddeaa
open Go.ChangeShapes Go.WideShapes Go.Deep Go.RowKit Go.Sd Lk
section
variable {H : Type} {enc : TypeId × Value → H} {w : World} {base : Nat} {spare : Nat → Bool} {held : Bool}
theorem bytes_rd : Try.prog.bytesOf 57 = 32 := by kernel_rfl
set_option maxRecDepth 100000 in
theorem bk_sized {fv wv : Value} {a : Option Addr} {n cap : Nat} {d : DataW H} {p : List MemPlace} (h : DataW.Trod enc Try.prog w base spare held 26 (bkV fv wv (.slice a n cap)) d p)
    (hs : ∀ x ∈ d.weights Try.prog 26, x ≤ reachBytes) : n * 32 ≤ 140737488351232 := by
  obtain ⟨fuel, hf⟩ := h
  have hf' : DataW.trod enc Try.prog w base spare held fuel 26 [fv, wv, .slice a n cap] = some (d, p) := by simpa [Value.cells] using hf
  obtain ⟨xs, n', -, hx, -, hxl, hg⟩ := DataW.trod_struct Try.underlying26 hf'
  have hx3 : xs.length = 3 := hxl
  have f2 : DataW.trod enc Try.prog w base spare held n' 24 (([fv, wv, .slice a n cap].drop 2).take (Try.prog.cellsOf 24)) = xs[2]? := hg 2 _ rfl
  rw [cells_rds] at f2
  clear hg hf hf' hxl
  match xs, hx3, hx, f2 with
  | [y0, y1, y2], _, hx, f2 =>
    have f2' : DataW.trod enc Try.prog w base spare held n' 24 [.slice a n cap] = some y2 := by simpa using f2
    have hd : d = .agg [y0.1, y1.1, y2.1] := by simpa using congrArg Prod.fst hx
    rcases open_slice Try.underlying24 f2' with ⟨h0, -⟩ | ⟨a', len, cap', mm, m, D, Pl, hcs, hb, hl, hmx, hmm, hx2, hi⟩
    · have : n = 0 := by simpa using (by simpa using h0 : a = none ∧ n = 0 ∧ cap = 0).2.1
      omega
    · have hn : n = len := by simpa using (by simpa using hcs : a = some a' ∧ n = len ∧ cap = cap').2.1
      obtain ⟨d2, p2⟩ := y2
      obtain ⟨rfl, rfl⟩ : d2 = _ ∧ p2 = _ := by simpa using hx2
      have hw := hs _ (by
        rw [hd, DataW.weights, Try.underlying26]
        exact DataW.weights_mem_each (j := 2) rfl rfl _ (by rw [DataW.weights, Try.underlying24]; exact List.mem_cons_self))
      rw [bytes_rd] at hw
      simp only [List.length_map, List.length_range, reachBytes] at hw
      omega
end
end Go.Proofs.Ytddmfkhmhdddeaa
