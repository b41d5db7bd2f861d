/- Leaks: books, guesses, days of a watch and lists that come in as arguments lie in memory as the walks want them. What the frame of each statement of this seat leans on. -/
import Derived.Test.YtddmfkhmhdddeaaKno
import Derived.ProofKit
import Derived.OpenShut
import Derived.Deep.Slices
import Derived.ChangeOld
import Derived.ChangeArms
import Derived.Test.YtddmfkhmhdddeaaRows
import Derived.WalkKit
import Derived.ShutString
import Derived.Below
set_option linter.unusedVariables false
set_option linter.unusedSimpArgs false
namespace Go.Proofs.Ytddmfkhmhdddeaa
open Go.ChangeShapes Go.WideShapes Go.Deep Go.Sd Lk

set_option maxRecDepth 100000 in
theorem list_of {α : Type} (d : α) {P : Nat → α → Prop} : ∀ (n : Nat), (∀ i, i < n → ∃ x, P i x) → ∃ xs : List α, xs.length = n ∧ ∀ i, i < n → P i (xs.getD i d)
  | 0, _ => ⟨[], rfl, fun i h => absurd h (Nat.not_lt_zero i)⟩
  | n + 1, h => by
    obtain ⟨xs, hl, hx⟩ := list_of d n (fun i hi => h i (by omega))
    obtain ⟨x, hp⟩ := h n (by omega)
    refine ⟨xs ++ [x], by simp [hl], fun i hi => ?_⟩
    by_cases e : i < n
    · have := hx i e
      rwa [List.getD_eq_getElem?_getD, List.getElem?_append_left (by omega), ← List.getD_eq_getElem?_getD]
    · obtain rfl : i = n := by omega
      rw [List.getD_eq_getElem?_getD, List.getElem?_append_right (by omega)]
      simpa [hl] using hp

set_option maxRecDepth 100000 in
theorem add_none (b off i : Nat) : (⟨b, off, none⟩ : Addr).add i = ⟨b, off + i, none⟩ := by
  unfold Addr.add
  by_cases h : i = 0 <;> simp [h]

set_option maxRecDepth 100000 in
theorem cells_int : Try.prog.cellsOf 3 = 1 := by kernel_rfl
set_option maxRecDepth 100000 in
theorem cells_bool : Try.prog.cellsOf 4 = 1 := by kernel_rfl
set_option maxRecDepth 100000 in
theorem cells_sp : Try.prog.cellsOf 55 = 2 := by kernel_rfl
set_option maxRecDepth 100000 in
theorem cells_rd : Try.prog.cellsOf 57 = 4 := by kernel_rfl
set_option maxRecDepth 100000 in
theorem cells_gs : Try.prog.cellsOf 28 = 3 := by kernel_rfl
set_option maxRecDepth 100000 in
theorem cells_dy : Try.prog.cellsOf 79 = 3 := by kernel_rfl
set_option maxRecDepth 100000 in
theorem cells_bk : Try.prog.cellsOf 26 = 3 := by kernel_rfl
set_option maxRecDepth 100000 in
theorem cells_sps : Try.prog.cellsOf 22 = 1 := by kernel_rfl
set_option maxRecDepth 100000 in
theorem cells_spss : Try.prog.cellsOf 23 = 1 := by kernel_rfl
set_option maxRecDepth 100000 in
theorem cells_rds : Try.prog.cellsOf 24 = 1 := by kernel_rfl
set_option maxRecDepth 100000 in
theorem cells_ints : Try.prog.cellsOf 38 = 1 := by kernel_rfl

section
variable {H : Type} {enc : TypeId × Value → H} {w : World} {base : Nat} {spare : Nat → Bool} {held : Bool}
set_option maxRecDepth 100000 in
theorem open_intC {n : Nat} {cs : List Value} {x : DataW H × List MemPlace} (h : DataW.trod enc Try.prog w base spare held n 3 cs = some x) : ∃ z, cs = [.int .i64 z] := by
  obtain ⟨z, hz, -, -⟩ := DataW.trod_int Try.underlying3 h
  exact ⟨z, hz⟩
set_option maxRecDepth 100000 in
theorem open_boolC {n : Nat} {cs : List Value} {x : DataW H × List MemPlace} (h : DataW.trod enc Try.prog w base spare held n 4 cs = some x) : ∃ z, cs = [.bool z] := by
  obtain ⟨z, hz, -⟩ := DataW.trod_bool Try.underlying4 h
  exact ⟨z, hz⟩
set_option maxRecDepth 100000 in
theorem open_spC {fuel : Nat} {cs : List Value} {x : DataW H × List MemPlace} (h : DataW.trod enc Try.prog w base spare held fuel 55 cs = some x) : ∃ r : Sp, cs = spEnc r := by
  obtain ⟨xs, n, -, -, hlen, hxl, hf⟩ := DataW.trod_struct Try.underlying55 h
  rw [cells_sp] at hlen
  have hx : xs.length = 2 := hxl
  have f0 : DataW.trod enc Try.prog w base spare held n 3 ((cs.drop 0).take (Try.prog.cellsOf 3)) = xs[0]? := hf 0 _ rfl
  have f1 : DataW.trod enc Try.prog w base spare held n 3 ((cs.drop 1).take (Try.prog.cellsOf 3)) = xs[1]? := hf 1 _ rfl
  rw [cells_int, List.getElem?_eq_getElem (by omega)] at f0
  rw [cells_int, List.getElem?_eq_getElem (by omega)] at f1
  clear hf
  match cs, hlen, f0, f1 with
  | [c0, c1], _, f0, f1 =>
    obtain ⟨z0, e0⟩ := open_intC f0
    obtain ⟨z1, e1⟩ := open_intC f1
    simp at e0 e1
    subst e0
    subst e1
    exact ⟨⟨z0, z1⟩, rfl⟩
set_option maxRecDepth 100000 in
theorem open_rdC {fuel : Nat} {cs : List Value} {x : DataW H × List MemPlace} (h : DataW.trod enc Try.prog w base spare held fuel 57 cs = some x) : ∃ r : Rd, cs = rdEnc r := by
  obtain ⟨xs, n, -, -, hlen, hxl, hf⟩ := DataW.trod_struct Try.underlying57 h
  rw [cells_rd] at hlen
  have hx : xs.length = 3 := hxl
  have f0 : DataW.trod enc Try.prog w base spare held n 3 ((cs.drop 0).take (Try.prog.cellsOf 3)) = xs[0]? := hf 0 _ rfl
  have f1 : DataW.trod enc Try.prog w base spare held n 3 ((cs.drop 1).take (Try.prog.cellsOf 3)) = xs[1]? := hf 1 _ rfl
  have f2 : DataW.trod enc Try.prog w base spare held n 55 ((cs.drop 2).take (Try.prog.cellsOf 55)) = xs[2]? := hf 2 _ rfl
  rw [cells_int, List.getElem?_eq_getElem (by omega)] at f0
  rw [cells_int, List.getElem?_eq_getElem (by omega)] at f1
  rw [cells_sp, List.getElem?_eq_getElem (by omega)] at f2
  clear hf
  match cs, hlen, f0, f1, f2 with
  | [c0, c1, c2, c3], _, f0, f1, f2 =>
    obtain ⟨z0, e0⟩ := open_intC f0
    obtain ⟨z1, e1⟩ := open_intC f1
    obtain ⟨⟨r2, s2⟩, e2⟩ := open_spC f2
    simp at e0 e1 e2
    subst e0
    subst e1
    obtain ⟨a2, b2⟩ := e2
    subst a2 b2
    exact ⟨⟨z0, z1, ⟨r2, s2⟩⟩, rfl⟩
set_option maxRecDepth 100000 in
theorem open_gsC {fuel : Nat} {cs : List Value} {x : DataW H × List MemPlace} (h : DataW.trod enc Try.prog w base spare held fuel 28 cs = some x) : ∃ r : Gs, cs = gsEnc r := by
  obtain ⟨xs, n, -, -, hlen, hxl, hf⟩ := DataW.trod_struct Try.underlying28 h
  rw [cells_gs] at hlen
  have hx : xs.length = 3 := hxl
  have f0 : DataW.trod enc Try.prog w base spare held n 3 ((cs.drop 0).take (Try.prog.cellsOf 3)) = xs[0]? := hf 0 _ rfl
  have f1 : DataW.trod enc Try.prog w base spare held n 3 ((cs.drop 1).take (Try.prog.cellsOf 3)) = xs[1]? := hf 1 _ rfl
  have f2 : DataW.trod enc Try.prog w base spare held n 3 ((cs.drop 2).take (Try.prog.cellsOf 3)) = xs[2]? := hf 2 _ rfl
  rw [cells_int, List.getElem?_eq_getElem (by omega)] at f0
  rw [cells_int, List.getElem?_eq_getElem (by omega)] at f1
  rw [cells_int, List.getElem?_eq_getElem (by omega)] at f2
  clear hf
  match cs, hlen, f0, f1, f2 with
  | [c0, c1, c2], _, f0, f1, f2 =>
    obtain ⟨z0, e0⟩ := open_intC f0
    obtain ⟨z1, e1⟩ := open_intC f1
    obtain ⟨z2, e2⟩ := open_intC f2
    simp at e0 e1 e2
    subst e0
    subst e1
    subst e2
    exact ⟨⟨z0, z1, z2⟩, rfl⟩
set_option maxRecDepth 100000 in
theorem open_dyC {fuel : Nat} {cs : List Value} {x : DataW H × List MemPlace} (h : DataW.trod enc Try.prog w base spare held fuel 79 cs = some x) : ∃ r : Dy, cs = dyEnc r := by
  obtain ⟨xs, n, -, -, hlen, hxl, hf⟩ := DataW.trod_struct Try.underlying79 h
  rw [cells_dy] at hlen
  have hx : xs.length = 3 := hxl
  have f0 : DataW.trod enc Try.prog w base spare held n 3 ((cs.drop 0).take (Try.prog.cellsOf 3)) = xs[0]? := hf 0 _ rfl
  have f1 : DataW.trod enc Try.prog w base spare held n 4 ((cs.drop 1).take (Try.prog.cellsOf 4)) = xs[1]? := hf 1 _ rfl
  have f2 : DataW.trod enc Try.prog w base spare held n 3 ((cs.drop 2).take (Try.prog.cellsOf 3)) = xs[2]? := hf 2 _ rfl
  rw [cells_int, List.getElem?_eq_getElem (by omega)] at f0
  rw [cells_bool, List.getElem?_eq_getElem (by omega)] at f1
  rw [cells_int, List.getElem?_eq_getElem (by omega)] at f2
  clear hf
  match cs, hlen, f0, f1, f2 with
  | [c0, c1, c2], _, f0, f1, f2 =>
    obtain ⟨z0, e0⟩ := open_intC f0
    obtain ⟨z1, e1⟩ := open_boolC f1
    obtain ⟨z2, e2⟩ := open_intC f2
    simp at e0 e1 e2
    subst e0
    subst e1
    subst e2
    exact ⟨⟨z0, z1, z2⟩, rfl⟩

set_option maxRecDepth 100000 in
/-- A slice of structs. -/
theorem open_els {α : Type} {m : Nat} {en : α → List Value} {d : α} {S E : TypeId} (ht : Try.prog.underlying S = some (.slice E)) (hc : Try.prog.cellsOf E = m) (hm : ∀ x, (en x).length = m) (hm0 : 0 < m)
    (hE : ∀ {fuel : Nat} {cs : List Value} {x : DataW H × List MemPlace}, DataW.trod enc Try.prog w base spare held fuel E cs = some x → ∃ r : α, cs = en r)
    {fuel : Nat} {cs : List Value} {x : DataW H × List MemPlace} (h : DataW.trod enc Try.prog w base spare held fuel S cs = some x) : ∃ v xs, cs = [v] ∧ ElsAt m en d w v xs ∧ capOk v := by
  rcases open_slice ht h with ⟨h0, -⟩ | ⟨a, len, cap, mm, n, D, Pl, hcs, hb, hl, hmx, hmm, hx, hi⟩
  · exact ⟨_, [], h0, ElsAt.nil _, fun a n cap e => by cases e; exact Nat.le_refl _⟩
  · have hle : len ≤ mm := by rw [hmm]; split <;> omega
    obtain ⟨xs, hxl, hxs⟩ := list_of d (P := fun i r => ∀ j, j < m → w.cell? ((a.add (i * m)).add j) = (en r)[j]?) len (fun i hil => by
      obtain ⟨cs', hc', ht'⟩ := hi i (by omega)
      rw [hc] at hc'
      obtain ⟨r, rfl⟩ := hE ht'
      exact ⟨r, (World.cells?_some hc').2.2⟩)
    refine ⟨_, xs, hcs, ⟨some a, cap, by rw [hxl], by omega, fun h0 => ?_⟩, fun a n cap e => by cases e; exact hl⟩
    obtain ⟨b, off, spot⟩ := a
    have hz : ∃ u, (en (xs.getD 0 d))[0]? = some u := ⟨_, List.getElem?_eq_getElem (by rw [hm]; exact hm0)⟩
    obtain ⟨u, hu⟩ := hz
    have h00 := hxs 0 (by omega) 0 hm0
    rw [hu] at h00
    have hs : spot = none := by simpa [Addr.add] using World.cell?_spot h00
    subst hs
    simp only [add_none] at hxs h00
    refine ⟨b, off, rfl, World.block_lt_of_cell? w ⟨b, _, none⟩ h00, fun k i u hk hu => ?_⟩
    have hi' : i < m := by
      have := (List.getElem?_eq_some_iff.1 hu).1
      rwa [hm] at this
    rw [hxs k (by omega) i hi', hu]
set_option maxRecDepth 100000 in
/-- A slice of slices of structs. -/
theorem open_rows {α : Type} {m : Nat} {en : α → List Value} {d : α} {S R : TypeId} (ht : Try.prog.underlying S = some (.slice R)) (hc : Try.prog.cellsOf R = 1)
    (hE : ∀ {fuel : Nat} {cs : List Value} {x : DataW H × List MemPlace}, DataW.trod enc Try.prog w base spare held fuel R cs = some x → ∃ v xs, cs = [v] ∧ ElsAt m en d w v xs ∧ capOk v)
    {fuel : Nat} {cs : List Value} {x : DataW H × List MemPlace} (h : DataW.trod enc Try.prog w base spare held fuel S cs = some x) : ∃ v xs, cs = [v] ∧ RowsAt m en d w v xs ∧ capOk v := by
  rcases open_slice ht h with ⟨h0, -⟩ | ⟨a, len, cap, mm, n, D, Pl, hcs, hb, hl, hmx, hmm, hx, hi⟩
  · exact ⟨_, [], h0, RowsAt.nil _, fun a n cap e => by cases e; exact Nat.le_refl _⟩
  · have hle : len ≤ mm := by rw [hmm]; split <;> omega
    obtain ⟨xs, hxl, hxs⟩ := list_of ([] : List α) (P := fun i z => ∃ ev, w.cell? (a.add i) = some ev ∧ ElsAt m en d w ev z) len (fun i hil => by
      obtain ⟨cs', hc', ht'⟩ := hi i (by omega)
      rw [hc, Nat.mul_one] at hc'
      obtain ⟨v, ys, rfl, hv, -⟩ := hE ht'
      have := (World.cells?_some hc').2.2 0 (by omega)
      have e : (a.add i).add 0 = a.add i := by simp [Addr.add]
      rw [e] at this
      exact ⟨ys, v, this, hv⟩)
    refine ⟨_, xs, hcs, ⟨some a, cap, by rw [hxl], by omega, fun h0 => ?_⟩, fun a n cap e => by cases e; exact hl⟩
    obtain ⟨b, off, spot⟩ := a
    obtain ⟨ev0, hc0, -⟩ := hxs 0 (by omega)
    have hs : spot = none := by simpa [Addr.add] using World.cell?_spot hc0
    subst hs
    simp only [add_none] at hxs hc0
    exact ⟨b, off, rfl, World.block_lt_of_cell? w ⟨b, off + 0, none⟩ hc0, fun k hk => hxs k (by omega)⟩
set_option maxRecDepth 100000 in
theorem gsEnc_len (x : Gs) : (gsEnc x).length = 3 := rfl
set_option maxRecDepth 100000 in
theorem open_spsC {fuel : Nat} {cs : List Value} {x : DataW H × List MemPlace} (h : DataW.trod enc Try.prog w base spare held fuel 22 cs = some x) : ∃ v xs, cs = [v] ∧ SpsAt w v xs ∧ capOk v :=
  open_els Try.underlying22 cells_sp spEnc_len (by omega) open_spC h
set_option maxRecDepth 100000 in
theorem open_rdsC {fuel : Nat} {cs : List Value} {x : DataW H × List MemPlace} (h : DataW.trod enc Try.prog w base spare held fuel 24 cs = some x) : ∃ v xs, cs = [v] ∧ RdsAt w v xs ∧ capOk v :=
  open_els Try.underlying24 cells_rd rdEnc_len (by omega) open_rdC h
set_option maxRecDepth 100000 in
theorem open_spssC {fuel : Nat} {cs : List Value} {x : DataW H × List MemPlace} (h : DataW.trod enc Try.prog w base spare held fuel 23 cs = some x) : ∃ v xs, cs = [v] ∧ SpRowsAt w v xs ∧ capOk v :=
  open_rows Try.underlying23 cells_sps open_spsC h
set_option maxRecDepth 100000 in
theorem open_intsC {fuel : Nat} {cs : List Value} {x : DataW H × List MemPlace} (h : DataW.trod enc Try.prog w base spare held fuel 38 cs = some x) : ∃ v xs, cs = [v] ∧ IntsAt w v xs ∧ capOk v :=
  open_els Try.underlying38 cells_int intEnc_len (by omega) open_intC h

set_option maxRecDepth 100000 in
theorem open_bk {r : Reach} {b0 : Nat} {v : Value} {d : DataW H} {p : List MemPlace} (hv : Value.okWide Try.prog w r b0 26 v) (h : DataW.Trod enc Try.prog w base spare held 26 v d p) :
    ∃ fv wv rv b, v = bkV fv wv rv ∧ BookAt w fv wv rv b ∧ capOk rv := by
  obtain ⟨cs, rfl, hsz⟩ := okWide_struct Try.underlying26 hv
  rw [cells_bk] at hsz
  obtain ⟨cs⟩ := cs
  have hlen : cs.length = 3 := hsz
  obtain ⟨fuel, hf⟩ := h
  have hf' : DataW.trod enc Try.prog w base spare held fuel 26 cs = some (d, p) := by simpa [Value.cells] using hf
  obtain ⟨xs, n, -, -, -, hxl, hg⟩ := DataW.trod_struct Try.underlying26 hf'
  have hx : xs.length = 3 := hxl
  have f0 : DataW.trod enc Try.prog w base spare held n 22 ((cs.drop 0).take (Try.prog.cellsOf 22)) = xs[0]? := hg 0 _ rfl
  have f1 : DataW.trod enc Try.prog w base spare held n 23 ((cs.drop 1).take (Try.prog.cellsOf 23)) = xs[1]? := hg 1 _ rfl
  have f2 : DataW.trod enc Try.prog w base spare held n 24 ((cs.drop 2).take (Try.prog.cellsOf 24)) = xs[2]? := hg 2 _ rfl
  rw [cells_sps, List.getElem?_eq_getElem (by omega)] at f0
  rw [cells_spss, List.getElem?_eq_getElem (by omega)] at f1
  rw [cells_rds, List.getElem?_eq_getElem (by omega)] at f2
  clear hg hf hf' hv
  match cs, hlen, f0, f1, f2 with
  | [c0, c1, c2], _, f0, f1, f2 =>
    obtain ⟨v0, l0, e0, h0, -⟩ := open_spsC f0
    obtain ⟨v1, l1, e1, h1, -⟩ := open_spssC f1
    obtain ⟨v2, l2, e2, h2, h3⟩ := open_rdsC f2
    simp at e0 e1 e2
    subst e0 e1 e2
    exact ⟨_, _, _, ⟨l0, l1, l2⟩, rfl, ⟨h0, h1, h2⟩, h3⟩
set_option maxRecDepth 100000 in
theorem open_gs {r : Reach} {b0 : Nat} {v : Value} {d : DataW H} {p : List MemPlace} (hv : Value.okWide Try.prog w r b0 28 v) (h : DataW.Trod enc Try.prog w base spare held 28 v d p) : ∃ g : Gs, v = gsV g := by
  obtain ⟨cs, rfl, hsz⟩ := okWide_struct Try.underlying28 hv
  obtain ⟨cs⟩ := cs
  obtain ⟨fuel, hf⟩ := h
  have hf' : DataW.trod enc Try.prog w base spare held fuel 28 cs = some (d, p) := by simpa [Value.cells] using hf
  obtain ⟨s, rfl⟩ := open_gsC hf'
  exact ⟨s, rfl⟩
set_option maxRecDepth 100000 in
theorem open_rd {r : Reach} {b0 : Nat} {v : Value} {d : DataW H} {p : List MemPlace} (hv : Value.okWide Try.prog w r b0 57 v) (h : DataW.Trod enc Try.prog w base spare held 57 v d p) : ∃ g : Rd, v = rdV g := by
  obtain ⟨cs, rfl, hsz⟩ := okWide_struct Try.underlying57 hv
  obtain ⟨cs⟩ := cs
  obtain ⟨fuel, hf⟩ := h
  have hf' : DataW.trod enc Try.prog w base spare held fuel 57 cs = some (d, p) := by simpa [Value.cells] using hf
  obtain ⟨s, rfl⟩ := open_rdC hf'
  exact ⟨s, rfl⟩
set_option maxRecDepth 100000 in
theorem open_dys {r : Reach} {b0 : Nat} {v : Value} {d : DataW H} {p : List MemPlace} (hv : Value.okWide Try.prog w r b0 43 v) (h : DataW.Trod enc Try.prog w base spare held 43 v d p) : ∃ l, DysAt w v l := by
  obtain ⟨a, n, c, rfl⟩ := okWide_slice Try.underlying43 hv
  obtain ⟨fuel, hf⟩ := h
  obtain ⟨v, xs, e, hx, -⟩ := open_els (m := 3) (en := dyEnc) (d := ⟨0, false, 0⟩) Try.underlying43 cells_dy dyEnc_len (by omega) open_dyC hf
  simp [Value.cells] at e
  subst e
  exact ⟨xs, hx⟩
set_option maxRecDepth 100000 in
theorem open_ints {r : Reach} {b0 : Nat} {v : Value} {d : DataW H} {p : List MemPlace} (hv : Value.okWide Try.prog w r b0 38 v) (h : DataW.Trod enc Try.prog w base spare held 38 v d p) : ∃ l, IntsAt w v l := by
  obtain ⟨a, n, c, rfl⟩ := okWide_slice Try.underlying38 hv
  obtain ⟨fuel, hf⟩ := h
  obtain ⟨v, xs, e, hx, -⟩ := open_intsC hf
  simp [Value.cells] at e
  subst e
  exact ⟨xs, hx⟩
set_option maxRecDepth 100000 in
theorem open_lists {r : Reach} {b0 : Nat} {v : Value} {d : DataW H} {p : List MemPlace} (hv : Value.okWide Try.prog w r b0 66 v) (h : DataW.Trod enc Try.prog w base spare held 66 v d p) : ∃ l, ListsAt w v l := by
  obtain ⟨a, n, c, rfl⟩ := okWide_slice Try.underlying66 hv
  obtain ⟨fuel, hf⟩ := h
  obtain ⟨v, xs, e, hx, -⟩ := open_rows (m := 1) (en := intEnc) (d := 0) Try.underlying66 cells_ints open_intsC hf
  simp [Value.cells] at e
  subst e
  exact ⟨xs, hx⟩
end
set_option maxRecDepth 100000 in
theorem frOwn : ownKnob Try.prog.godebug = none := by kernel_rfl
set_option maxRecDepth 100000 in
theorem frLaid : laidOutB Try.prog = true := by kernel_rfl
end Go.Proofs.Ytddmfkhmhdddeaa
