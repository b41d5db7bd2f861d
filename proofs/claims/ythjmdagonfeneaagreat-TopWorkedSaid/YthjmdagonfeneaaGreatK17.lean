/- Laws and walks: SFrame. -/
import Derived.Test.YthjmdagonfeneaaGreatK16
set_option maxRecDepth 100000
set_option maxHeartbeats 16000000
set_option linter.unusedVariables false
set_option linter.unusedSimpArgs false
namespace Go.Proofs.YthjmdagonfeneaaGreat.S
open Go.ChangeShapes Go.WideShapes Go.Deep
theorem list_of {α : Type} (d : α) {P : Nat → α → Prop} : ∀ (n : Nat), (∀ i, i < n → ∃ x, P i x) → ∃ xs : List α, xs.length = n ∧ ∀ i, i < n → P i (xs.getD i d)
 | 0, _ => ⟨[], rfl, fun i h => absurd h (Nat.not_lt_zero i)⟩
 | n + 1, h => by
  obtain ⟨xs, hl, hx⟩ := list_of d n (fun i hi => h i (by omega))
  obtain ⟨x, hp⟩ := h n (by omega)
  refine ⟨xs ++ [x], by simp [hl], fun i hi => ?_⟩
  by_cases e : i < n
  · have := hx i e
    rwa [List.getD_eq_getElem?_getD, List.getElem?_append_left (by omega), ← List.getD_eq_getElem?_getD]
  · obtain rfl : i = n := by omega
    rw [List.getD_eq_getElem?_getD, List.getElem?_append_right (by omega)]
    simpa [hl] using hp
theorem add_none (b off i : Nat) : (⟨b, off, none⟩ : Addr).add i = ⟨b, off + i, none⟩ := by
 unfold Addr.add
 by_cases h : i = 0 <;> simp [h]
theorem cells_int : Tryz.prog.cellsOf 3 = 1 := by kernel_rfl
theorem cells_span : Tryz.prog.cellsOf 23 = 2 := by kernel_rfl
theorem cells_row : Tryz.prog.cellsOf 63 = 3 := by kernel_rfl
theorem cells_day : Tryz.prog.cellsOf 44 = 8 := by kernel_rfl
theorem cells_season : Tryz.prog.cellsOf 27 = 6 := by kernel_rfl
theorem cells_rows : Tryz.prog.cellsOf 24 = 1 := by kernel_rfl
theorem cells_days : Tryz.prog.cellsOf 25 = 1 := by kernel_rfl
section
variable {H : Type} {enc : TypeId × Value → H} {w : World} {base : Nat} {spare : Nat → Bool} {held : Bool}
theorem open_i {n : Nat} {cs : List Value} {l : List (DataW H × List MemPlace)} {i : Nat} (h : DataW.trod enc Tryz.prog w base spare held n 3 cs = l[i]?) (hi : i < l.length) : ∃ z, cs = [.int .i64 z] := by
 rw [List.getElem?_eq_getElem hi] at h
 obtain ⟨z, hz, -, -⟩ := DataW.trod_int Tryz.underlying3 h
 exact ⟨z, hz⟩
theorem open_span {n : Nat} {cs : List Value} {l : List (DataW H × List MemPlace)} {i : Nat} (h : DataW.trod enc Tryz.prog w base spare held n 23 cs = l[i]?) (hi : i < l.length) : ∃ a b, cs = [.int .i64 a, .int .i64 b] := by
 rw [List.getElem?_eq_getElem hi] at h
 obtain ⟨xs, n, -, -, hlen, hxl, hf⟩ := DataW.trod_struct Tryz.underlying23 h
 rw [cells_span] at hlen
 have hx : xs.length = 2 := hxl
 have f0 : DataW.trod enc Tryz.prog w base spare held n 3 ((cs.drop 0).take (Tryz.prog.cellsOf 3)) = xs[0]? := hf 0 _ rfl
 have f1 : DataW.trod enc Tryz.prog w base spare held n 3 ((cs.drop 1).take (Tryz.prog.cellsOf 3)) = xs[1]? := hf 1 _ rfl
 rw [cells_int] at f0 f1
 clear hf
 match cs, hlen, f0, f1 with
 | [c0, c1], _, f0, f1 =>
  obtain ⟨z0, e0⟩ := open_i f0 (by omega)
  obtain ⟨z1, e1⟩ := open_i f1 (by omega)
  simp at e0 e1
  subst e0 e1
  exact ⟨_, _, rfl⟩
theorem open_row {fuel : Nat} {cs : List Value} {x : DataW H × List MemPlace} (h : DataW.trod enc Tryz.prog w base spare held fuel 63 cs = some x) : ∃ r : Sea.Row, cs = [.int .i64 r.fill, .int .i64 r.inn, .int .i64 r.out] := by
 obtain ⟨xs, n, -, -, hlen, hxl, hf⟩ := DataW.trod_struct Tryz.underlying63 h
 rw [cells_row] at hlen
 have hx : xs.length = 3 := hxl
 have f0 : DataW.trod enc Tryz.prog w base spare held n 3 ((cs.drop 0).take (Tryz.prog.cellsOf 3)) = xs[0]? := hf 0 _ rfl
 have f1 : DataW.trod enc Tryz.prog w base spare held n 3 ((cs.drop 1).take (Tryz.prog.cellsOf 3)) = xs[1]? := hf 1 _ rfl
 have f2 : DataW.trod enc Tryz.prog w base spare held n 3 ((cs.drop 2).take (Tryz.prog.cellsOf 3)) = xs[2]? := hf 2 _ rfl
 rw [cells_int] at f0 f1 f2
 clear hf
 match cs, hlen, f0, f1, f2 with
 | [c0, c1, c2], _, f0, f1, f2 =>
  obtain ⟨z0, e0⟩ := open_i f0 (by omega)
  obtain ⟨z1, e1⟩ := open_i f1 (by omega)
  obtain ⟨z2, e2⟩ := open_i f2 (by omega)
  simp at e0 e1 e2
  subst e0 e1 e2
  exact ⟨⟨_, _, _⟩, rfl⟩
theorem open_day {fuel : Nat} {cs : List Value} {x : DataW H × List MemPlace} (h : DataW.trod enc Tryz.prog w base spare held fuel 44 cs = some x) :
    ∃ d : Sea.Day, cs = [.int .i64 d.buy, .int .i64 d.sell, .int .i64 d.offer, .int .i64 d.take, .int .i64 d.glo, .int .i64 d.ghi, .int .i64 d.nlo, .int .i64 d.nhi] := by
 obtain ⟨xs, n, -, -, hlen, hxl, hf⟩ := DataW.trod_struct Tryz.underlying44 h
 rw [cells_day] at hlen
 have hx : xs.length = 6 := hxl
 have f0 : DataW.trod enc Tryz.prog w base spare held n 3 ((cs.drop 0).take (Tryz.prog.cellsOf 3)) = xs[0]? := hf 0 _ rfl
 have f1 : DataW.trod enc Tryz.prog w base spare held n 3 ((cs.drop 1).take (Tryz.prog.cellsOf 3)) = xs[1]? := hf 1 _ rfl
 have f2 : DataW.trod enc Tryz.prog w base spare held n 3 ((cs.drop 2).take (Tryz.prog.cellsOf 3)) = xs[2]? := hf 2 _ rfl
 have f3 : DataW.trod enc Tryz.prog w base spare held n 3 ((cs.drop 3).take (Tryz.prog.cellsOf 3)) = xs[3]? := hf 3 _ rfl
 have f4 : DataW.trod enc Tryz.prog w base spare held n 23 ((cs.drop 4).take (Tryz.prog.cellsOf 23)) = xs[4]? := hf 4 _ rfl
 have f5 : DataW.trod enc Tryz.prog w base spare held n 23 ((cs.drop 6).take (Tryz.prog.cellsOf 23)) = xs[5]? := hf 5 _ rfl
 rw [cells_int] at f0 f1 f2 f3
 rw [cells_span] at f4 f5
 clear hf
 match cs, hlen, f0, f1, f2, f3, f4, f5 with
 | [c0, c1, c2, c3, c4, c5, c6, c7], _, f0, f1, f2, f3, f4, f5 =>
  obtain ⟨z0, e0⟩ := open_i f0 (by omega)
  obtain ⟨z1, e1⟩ := open_i f1 (by omega)
  obtain ⟨z2, e2⟩ := open_i f2 (by omega)
  obtain ⟨z3, e3⟩ := open_i f3 (by omega)
  obtain ⟨z4, z5, e4⟩ := open_span f4 (by omega)
  obtain ⟨z6, z7, e5⟩ := open_span f5 (by omega)
  simp at e0 e1 e2 e3 e4 e5
  obtain ⟨e4, e6⟩ := e4
  obtain ⟨e5, e7⟩ := e5
  subst e0 e1 e2 e3 e4 e5 e6 e7
  exact ⟨⟨_, _, _, _, _, _, _, _⟩, rfl⟩
theorem open_rows {fuel : Nat} {cs : List Value} {x : DataW H × List MemPlace} (h : DataW.trod enc Tryz.prog w base spare held fuel 24 cs = some x) :
    ∃ v xs, cs = [v] ∧ RowsAt w v xs := by
 rcases open_slice Tryz.underlying24 h with ⟨h0, -⟩ | ⟨a, len, cap, m, n, D, Pl, hcs, hb, hl, hm, hmm, hx, hi⟩
 · exact ⟨_, [], h0, none, 0, rfl, by simp, fun h => absurd h (by simp)⟩
 · have hle : len ≤ m := by rw [hmm]; split <;> omega
   obtain ⟨xs, hxl, hxs⟩ := list_of (⟨0, 0, 0⟩ : Sea.Row) (P := fun i r => ∀ j, j < 3 → w.cell? ((a.add (i * 3)).add j) = [Value.int .i64 r.fill, .int .i64 r.inn, .int .i64 r.out][j]?) len (fun i hil => by
    obtain ⟨cs', hc, ht⟩ := hi i (by omega)
    rw [cells_row] at hc
    obtain ⟨r, rfl⟩ := open_row ht
    exact ⟨r, (World.cells?_some hc).2.2⟩)
   refine ⟨_, xs, hcs, some a, cap, by rw [hxl], by omega, fun h0 => ?_⟩
   obtain ⟨b, off, spot⟩ := a
   have hs : spot = none := by simpa [Addr.add] using World.cell?_spot (hxs 0 (by omega) 0 (by omega))
   subst hs
   have hz : w.cell? ⟨b, off, none⟩ = some (.int .i64 (xs.getD 0 ⟨0, 0, 0⟩).fill) := by simpa [Addr.add] using hxs 0 (by omega) 0 (by omega)
   refine ⟨b, off, rfl, World.block_lt_of_cell? w ⟨b, off, none⟩ hz, fun k hk => ?_⟩
   have e := fun j hj => hxs k (by omega) j hj
   simp only [add_none] at e
   exact ⟨e 0 (by omega), e 1 (by omega), e 2 (by omega)⟩
theorem open_days {fuel : Nat} {cs : List Value} {x : DataW H × List MemPlace} (h : DataW.trod enc Tryz.prog w base spare held fuel 25 cs = some x) :
    ∃ v xs, cs = [v] ∧ DaysAt w v xs := by
 rcases open_slice Tryz.underlying25 h with ⟨h0, -⟩ | ⟨a, len, cap, m, n, D, Pl, hcs, hb, hl, hm, hmm, hx, hi⟩
 · exact ⟨_, [], h0, none, 0, rfl, by simp, fun h => absurd h (by simp)⟩
 · have hle : len ≤ m := by rw [hmm]; split <;> omega
   obtain ⟨xs, hxl, hxs⟩ := list_of (⟨0, 0, 0, 0, 0, 0, 0, 0⟩ : Sea.Day) (P := fun i d => ∀ j, j < 8 → w.cell? ((a.add (i * 8)).add j) = [Value.int .i64 d.buy, .int .i64 d.sell, .int .i64 d.offer, .int .i64 d.take, .int .i64 d.glo, .int .i64 d.ghi, .int .i64 d.nlo, .int .i64 d.nhi][j]?) len (fun i hil => by
    obtain ⟨cs', hc, ht⟩ := hi i (by omega)
    rw [cells_day] at hc
    obtain ⟨r, rfl⟩ := open_day ht
    exact ⟨r, (World.cells?_some hc).2.2⟩)
   refine ⟨_, xs, hcs, some a, cap, by rw [hxl], by omega, fun h0 => ?_⟩
   obtain ⟨b, off, spot⟩ := a
   have hs : spot = none := by simpa [Addr.add] using World.cell?_spot (hxs 0 (by omega) 0 (by omega))
   subst hs
   have hz : w.cell? ⟨b, off, none⟩ = some (.int .i64 (xs.getD 0 ⟨0, 0, 0, 0, 0, 0, 0, 0⟩).buy) := by simpa [Addr.add] using hxs 0 (by omega) 0 (by omega)
   refine ⟨b, off, rfl, World.block_lt_of_cell? w ⟨b, off, none⟩ hz, fun k hk => ?_⟩
   have e := fun j hj => hxs k (by omega) j hj
   simp only [add_none] at e
   exact ⟨e 0 (by omega), e 1 (by omega), e 2 (by omega), e 3 (by omega), e 4 (by omega), e 5 (by omega), e 6 (by omega), e 7 (by omega)⟩
theorem open_season {r : Reach} {b0 : Nat} {v : Value} {d : DataW H} {p : List MemPlace} (hv : Value.okWide Tryz.prog w r b0 27 v) (h : DataW.Trod enc Tryz.prog w base spare held 27 v d p) :
    ∃ s, SeasonAt w v s := by
 obtain ⟨cs, rfl, hsz⟩ := okWide_struct Tryz.underlying27 hv
 rw [cells_season] at hsz
 obtain ⟨cs⟩ := cs
 have hlen : cs.length = 6 := hsz
 obtain ⟨fuel, hf⟩ := h
 have hf' : DataW.trod enc Tryz.prog w base spare held fuel 27 cs = some (d, p) := by simpa [Value.cells] using hf
 obtain ⟨xs, n, -, -, -, hxl, hg⟩ := DataW.trod_struct Tryz.underlying27 hf'
 have hx : xs.length = 5 := hxl
 have f0 : DataW.trod enc Tryz.prog w base spare held n 3 ((cs.drop 0).take (Tryz.prog.cellsOf 3)) = xs[0]? := hg 0 _ rfl
 have f1 : DataW.trod enc Tryz.prog w base spare held n 3 ((cs.drop 1).take (Tryz.prog.cellsOf 3)) = xs[1]? := hg 1 _ rfl
 have f2 : DataW.trod enc Tryz.prog w base spare held n 23 ((cs.drop 2).take (Tryz.prog.cellsOf 23)) = xs[2]? := hg 2 _ rfl
 have f3 : DataW.trod enc Tryz.prog w base spare held n 24 ((cs.drop 4).take (Tryz.prog.cellsOf 24)) = xs[3]? := hg 3 _ rfl
 have f4 : DataW.trod enc Tryz.prog w base spare held n 25 ((cs.drop 5).take (Tryz.prog.cellsOf 25)) = xs[4]? := hg 4 _ rfl
 rw [cells_int] at f0 f1
 rw [cells_span] at f2
 rw [cells_rows, List.getElem?_eq_getElem (by omega)] at f3
 rw [cells_days, List.getElem?_eq_getElem (by omega)] at f4
 clear hg hf hf' hv
 match cs, hlen, f0, f1, f2, f3, f4 with
 | [c0, c1, c2, c3, c4, c5], _, f0, f1, f2, f3, f4 =>
  obtain ⟨z0, e0⟩ := open_i f0 (by omega)
  obtain ⟨z1, e1⟩ := open_i f1 (by omega)
  obtain ⟨z2, z3, e2⟩ := open_span f2 (by omega)
  obtain ⟨v3, rows, e3, hr⟩ := open_rows f3
  obtain ⟨v4, days, e4, hd⟩ := open_days f4
  simp at e0 e1 e2 e3 e4
  obtain ⟨e2, e5⟩ := e2
  subst e0 e1 e2 e3 e4 e5
  exact ⟨⟨z0, z1, z2, z3, rows, days⟩, _, _, rfl, hr, hd⟩
end
end Go.Proofs.YthjmdagonfeneaaGreat.S
namespace Go.Proofs.YthjmdagonfeneaaGreat.S
open Go.ChangeShapes Go.WideShapes Go.Deep
section
variable {H : Type} {enc : TypeId × Value → H} {w : World} {base : Nat} {spare : Nat → Bool} {held : Bool}
theorem open_nums {fuel : Nat} {cs : List Value} {x : DataW H × List MemPlace} (h : DataW.trod enc Tryz.prog w base spare held fuel 28 cs = some x) :
    ∃ v xs, cs = [v] ∧ IntsAt w v xs := by
 rcases open_slice Tryz.underlying28 h with ⟨h0, -⟩ | ⟨a, len, cap, m, n, D, Pl, hcs, hb, hl, hm, hmm, hx, hi⟩
 · exact ⟨_, [], h0, none, 0, rfl, by simp, fun h => absurd h (by simp)⟩
 · have hle : len ≤ m := by rw [hmm]; split <;> omega
   obtain ⟨xs, hxl, hxs⟩ := list_of (0 : Int) (P := fun i z => w.cell? (a.add i) = some (.int .i64 z)) len (fun i hil => by
    obtain ⟨cs', hc, ht⟩ := hi i (by omega)
    rw [cells_int, Nat.mul_one] at hc
    obtain ⟨z, rfl, -, -⟩ := DataW.trod_int Tryz.underlying3 ht
    have := (World.cells?_some hc).2.2 0 (by omega)
    have e : (a.add i).add 0 = a.add i := by simp [Addr.add]
    rw [e] at this
    exact ⟨z, this⟩)
   refine ⟨_, xs, hcs, some a, cap, by rw [hxl], by omega, fun h0 => ?_⟩
   obtain ⟨b, off, spot⟩ := a
   have hs : spot = none := by simpa [Addr.add] using World.cell?_spot (hxs 0 (by omega))
   subst hs
   simp only [add_none] at hxs
   exact ⟨b, off, rfl, World.block_lt_of_cell? w ⟨b, off + 0, none⟩ (hxs 0 (by omega)), fun k hk => hxs k (by omega)⟩
theorem open_list {r : Reach} {b0 : Nat} {v : Value} {d : DataW H} {p : List MemPlace} (hv : Value.okWide Tryz.prog w r b0 28 v) (h : DataW.Trod enc Tryz.prog w base spare held 28 v d p) :
    ∃ l, IntsAt w v l := by
 obtain ⟨a, n, c, rfl⟩ := okWide_slice Tryz.underlying28 hv
 obtain ⟨fuel, hf⟩ := h
 obtain ⟨v, xs, e, hx⟩ := open_nums hf
 simp [Value.cells] at e
 subst e
 exact ⟨xs, hx⟩
end
end Go.Proofs.YthjmdagonfeneaaGreat.S
namespace Go.Proofs.YthjmdagonfeneaaGreat.S
open Go.ChangeShapes Go.WideShapes Go.ChangeAt Go.RowKit
theorem frOwn : ownKnob Tryz.prog.godebug = none := by kernel_rfl
theorem frLaid : laidOutB Tryz.prog = true := by kernel_rfl
end Go.Proofs.YthjmdagonfeneaaGreat.S
