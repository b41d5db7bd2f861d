/- Laws and walks: GFrg, GStm, GExc, GDo. -/
import Derived.ProofKit
import Derived.OpenShut
import Derived.Deep.Slices
import Derived.ChangeOld
import Derived.Test.YthbkcoijafehgaaGreatRows
import Derived.WalkKit
import Derived.ShutString
import Derived.Below
import Derived.Test.YthbkcoijafehgaaGreatK02
import Derived.Test.YthbkcoijafehgaaGreatK04
import Derived.Test.YthbkcoijafehgaaGreatK14
set_option linter.unusedVariables false
set_option linter.unusedSimpArgs false
namespace Go.Proofs.YthbkcoijafehgaaGreat.G
open Go.ChangeShapes Go.WideShapes Go.Deep Go.Sd Gas
set_option maxRecDepth 100000 in
theorem list_of {α : Type} (d : α) {P : Nat → α → Prop} : ∀ (n : Nat), (∀ i, i < n → ∃ x, P i x) → ∃ xs : List α, xs.length = n ∧ ∀ i, i < n → P i (xs.getD i d)
  | 0, _ => ⟨[], rfl, fun i h => absurd h (Nat.not_lt_zero i)⟩
  | n + 1, h => by
    obtain ⟨xs, hl, hx⟩ := list_of d n (fun i hi => h i (by omega))
    obtain ⟨x, hp⟩ := h n (by omega)
    refine ⟨xs ++ [x], by simp [hl], fun i hi => ?_⟩
    by_cases e : i < n
    · have := hx i e
      rwa [List.getD_eq_getElem?_getD, List.getElem?_append_left (by omega), ← List.getD_eq_getElem?_getD]
    · obtain rfl : i = n := by omega
      rw [List.getD_eq_getElem?_getD, List.getElem?_append_right (by omega)]
      simpa [hl] using hp
set_option maxRecDepth 100000 in
theorem add_none (b off i : Nat) : (⟨b, off, none⟩ : Addr).add i = ⟨b, off + i, none⟩ := by
  unfold Addr.add
  by_cases h : i = 0 <;> simp [h]
set_option maxRecDepth 100000 in
theorem cells_int : Tryz.prog.cellsOf 3 = 1 := by kernel_rfl
set_option maxRecDepth 100000 in
theorem cells_kind : Tryz.prog.cellsOf 50 = 1 := by kernel_rfl
set_option maxRecDepth 100000 in
theorem cells_span : Tryz.prog.cellsOf 23 = 2 := by kernel_rfl
set_option maxRecDepth 100000 in
theorem cells_pair : Tryz.prog.cellsOf 24 = 2 := by kernel_rfl
set_option maxRecDepth 100000 in
theorem cells_cav : Tryz.prog.cellsOf 26 = 11 := by kernel_rfl
set_option maxRecDepth 100000 in
theorem cells_st : Tryz.prog.cellsOf 28 = 8 := by kernel_rfl
set_option maxRecDepth 100000 in
theorem cells_pt : Tryz.prog.cellsOf 31 = 4 := by kernel_rfl
set_option maxRecDepth 100000 in
theorem cells_op : Tryz.prog.cellsOf 52 = 10 := by kernel_rfl
section
variable {H : Type} {enc : TypeId × Value → H} {w : World} {base : Nat} {spare : Nat → Bool} {held : Bool}
set_option maxRecDepth 100000 in
theorem open_int {n : Nat} {cs : List Value} {x : DataW H × List MemPlace} (h : DataW.trod enc Tryz.prog w base spare held n 3 cs = some x) : ∃ z, cs = [.int .i64 z] := by
  obtain ⟨z, hz, -, -⟩ := DataW.trod_int Tryz.underlying3 h
  exact ⟨z, hz⟩
set_option maxRecDepth 100000 in
theorem open_kind {n : Nat} {cs : List Value} {x : DataW H × List MemPlace} (h : DataW.trod enc Tryz.prog w base spare held n 50 cs = some x) : ∃ z, cs = [.int .i64 z] := by
  obtain ⟨z, hz, -, -⟩ := DataW.trod_int Tryz.underlying50 h
  exact ⟨z, hz⟩
set_option maxRecDepth 100000 in
theorem open_spanC {fuel : Nat} {cs : List Value} {x : DataW H × List MemPlace} (h : DataW.trod enc Tryz.prog w base spare held fuel 23 cs = some x) : ∃ z0 z1, cs = [.int .i64 z0, .int .i64 z1] := by
  obtain ⟨xs, n, -, -, hlen, hxl, hf⟩ := DataW.trod_struct Tryz.underlying23 h
  rw [cells_span] at hlen
  have hx : xs.length = 2 := hxl
  have f0 : DataW.trod enc Tryz.prog w base spare held n 3 ((cs.drop 0).take (Tryz.prog.cellsOf 3)) = xs[0]? := hf 0 _ rfl
  have f1 : DataW.trod enc Tryz.prog w base spare held n 3 ((cs.drop 1).take (Tryz.prog.cellsOf 3)) = xs[1]? := hf 1 _ rfl
  rw [cells_int, List.getElem?_eq_getElem (by omega)] at f0
  rw [cells_int, List.getElem?_eq_getElem (by omega)] at f1
  clear hf
  match cs, hlen, f0, f1 with
  | [c0, c1], _, f0, f1 =>
    obtain ⟨z0, e0⟩ := open_int f0
    obtain ⟨z1, e1⟩ := open_int f1
    simp at e0 e1
    subst e0
    subst e1
    exact ⟨_, _, rfl⟩
set_option maxRecDepth 100000 in
theorem open_pairC {fuel : Nat} {cs : List Value} {x : DataW H × List MemPlace} (h : DataW.trod enc Tryz.prog w base spare held fuel 24 cs = some x) : ∃ z0 z1, cs = [.int .i64 z0, .int .i64 z1] := by
  obtain ⟨xs, n, -, -, hlen, hxl, hf⟩ := DataW.trod_array Tryz.underlying24 h
  rw [cells_pair] at hlen
  have hx : xs.length = 2 := hxl
  have f0 : DataW.trod enc Tryz.prog w base spare held n 3 ((cs.drop 0).take (Tryz.prog.cellsOf 3)) = xs[0]? := (by have h0 := hf 0 (by omega); rw [cells_int] at h0 ⊢; exact h0)
  have f1 : DataW.trod enc Tryz.prog w base spare held n 3 ((cs.drop 1).take (Tryz.prog.cellsOf 3)) = xs[1]? := (by have h0 := hf 1 (by omega); rw [cells_int] at h0 ⊢; exact h0)
  rw [cells_int, List.getElem?_eq_getElem (by omega)] at f0
  rw [cells_int, List.getElem?_eq_getElem (by omega)] at f1
  clear hf
  match cs, hlen, f0, f1 with
  | [c0, c1], _, f0, f1 =>
    obtain ⟨z0, e0⟩ := open_int f0
    obtain ⟨z1, e1⟩ := open_int f1
    simp at e0 e1
    subst e0
    subst e1
    exact ⟨_, _, rfl⟩
set_option maxRecDepth 100000 in
theorem open_cavC {fuel : Nat} {cs : List Value} {x : DataW H × List MemPlace} (h : DataW.trod enc Tryz.prog w base spare held fuel 26 cs = some x) : ∃ r : Cav, cs = [.int .i64 r.vlo, .int .i64 r.vhi, .int .i64 r.least, .int .i64 r.most, .int .i64 r.f0, .int .i64 r.f1, .int .i64 r.h0, .int .i64 r.h1, .int .i64 r.rock, .int .i64 r.plo, .int .i64 r.phi] := by
  obtain ⟨xs, n, -, -, hlen, hxl, hf⟩ := DataW.trod_struct Tryz.underlying26 h
  rw [cells_cav] at hlen
  have hx : xs.length = 7 := hxl
  have f0 : DataW.trod enc Tryz.prog w base spare held n 23 ((cs.drop 0).take (Tryz.prog.cellsOf 23)) = xs[0]? := hf 0 _ rfl
  have f1 : DataW.trod enc Tryz.prog w base spare held n 3 ((cs.drop 2).take (Tryz.prog.cellsOf 3)) = xs[1]? := hf 1 _ rfl
  have f2 : DataW.trod enc Tryz.prog w base spare held n 3 ((cs.drop 3).take (Tryz.prog.cellsOf 3)) = xs[2]? := hf 2 _ rfl
  have f3 : DataW.trod enc Tryz.prog w base spare held n 24 ((cs.drop 4).take (Tryz.prog.cellsOf 24)) = xs[3]? := hf 3 _ rfl
  have f4 : DataW.trod enc Tryz.prog w base spare held n 24 ((cs.drop 6).take (Tryz.prog.cellsOf 24)) = xs[4]? := hf 4 _ rfl
  have f5 : DataW.trod enc Tryz.prog w base spare held n 3 ((cs.drop 8).take (Tryz.prog.cellsOf 3)) = xs[5]? := hf 5 _ rfl
  have f6 : DataW.trod enc Tryz.prog w base spare held n 23 ((cs.drop 9).take (Tryz.prog.cellsOf 23)) = xs[6]? := hf 6 _ rfl
  rw [cells_span, List.getElem?_eq_getElem (by omega)] at f0
  rw [cells_int, List.getElem?_eq_getElem (by omega)] at f1
  rw [cells_int, List.getElem?_eq_getElem (by omega)] at f2
  rw [cells_pair, List.getElem?_eq_getElem (by omega)] at f3
  rw [cells_pair, List.getElem?_eq_getElem (by omega)] at f4
  rw [cells_int, List.getElem?_eq_getElem (by omega)] at f5
  rw [cells_span, List.getElem?_eq_getElem (by omega)] at f6
  clear hf
  match cs, hlen, f0, f1, f2, f3, f4, f5, f6 with
  | [c0, c1, c2, c3, c4, c5, c6, c7, c8, c9, c10], _, f0, f1, f2, f3, f4, f5, f6 =>
    obtain ⟨z0, z1, e0⟩ := open_spanC f0
    obtain ⟨z2, e1⟩ := open_int f1
    obtain ⟨z3, e2⟩ := open_int f2
    obtain ⟨z4, z5, e3⟩ := open_pairC f3
    obtain ⟨z6, z7, e4⟩ := open_pairC f4
    obtain ⟨z8, e5⟩ := open_int f5
    obtain ⟨z9, z10, e6⟩ := open_spanC f6
    simp at e0 e1 e2 e3 e4 e5 e6
    obtain ⟨e0_0, e0_1⟩ := e0
    subst e0_0 e0_1
    subst e1
    subst e2
    obtain ⟨e3_0, e3_1⟩ := e3
    subst e3_0 e3_1
    obtain ⟨e4_0, e4_1⟩ := e4
    subst e4_0 e4_1
    subst e5
    obtain ⟨e6_0, e6_1⟩ := e6
    subst e6_0 e6_1
    exact ⟨⟨z0, z1, z2, z3, z4, z5, z6, z7, z8, z9, z10⟩, rfl⟩
set_option maxRecDepth 100000 in
theorem open_stC {fuel : Nat} {cs : List Value} {x : DataW H × List MemPlace} (h : DataW.trod enc Tryz.prog w base spare held fuel 28 cs = some x) : ∃ r : St, cs = [.int .i64 r.glo, .int .i64 r.ghi, .int .i64 r.ylo, .int .i64 r.yhi, .int .i64 r.tlo, .int .i64 r.thi, .int .i64 r.wlo, .int .i64 r.whi] := by
  obtain ⟨xs, n, -, -, hlen, hxl, hf⟩ := DataW.trod_struct Tryz.underlying28 h
  rw [cells_st] at hlen
  have hx : xs.length = 4 := hxl
  have f0 : DataW.trod enc Tryz.prog w base spare held n 23 ((cs.drop 0).take (Tryz.prog.cellsOf 23)) = xs[0]? := hf 0 _ rfl
  have f1 : DataW.trod enc Tryz.prog w base spare held n 23 ((cs.drop 2).take (Tryz.prog.cellsOf 23)) = xs[1]? := hf 1 _ rfl
  have f2 : DataW.trod enc Tryz.prog w base spare held n 23 ((cs.drop 4).take (Tryz.prog.cellsOf 23)) = xs[2]? := hf 2 _ rfl
  have f3 : DataW.trod enc Tryz.prog w base spare held n 23 ((cs.drop 6).take (Tryz.prog.cellsOf 23)) = xs[3]? := hf 3 _ rfl
  rw [cells_span, List.getElem?_eq_getElem (by omega)] at f0
  rw [cells_span, List.getElem?_eq_getElem (by omega)] at f1
  rw [cells_span, List.getElem?_eq_getElem (by omega)] at f2
  rw [cells_span, List.getElem?_eq_getElem (by omega)] at f3
  clear hf
  match cs, hlen, f0, f1, f2, f3 with
  | [c0, c1, c2, c3, c4, c5, c6, c7], _, f0, f1, f2, f3 =>
    obtain ⟨z0, z1, e0⟩ := open_spanC f0
    obtain ⟨z2, z3, e1⟩ := open_spanC f1
    obtain ⟨z4, z5, e2⟩ := open_spanC f2
    obtain ⟨z6, z7, e3⟩ := open_spanC f3
    simp at e0 e1 e2 e3
    obtain ⟨e0_0, e0_1⟩ := e0
    subst e0_0 e0_1
    obtain ⟨e1_0, e1_1⟩ := e1
    subst e1_0 e1_1
    obtain ⟨e2_0, e2_1⟩ := e2
    subst e2_0 e2_1
    obtain ⟨e3_0, e3_1⟩ := e3
    subst e3_0 e3_1
    exact ⟨⟨z0, z1, z2, z3, z4, z5, z6, z7⟩, rfl⟩
set_option maxRecDepth 100000 in
theorem open_ptC {fuel : Nat} {cs : List Value} {x : DataW H × List MemPlace} (h : DataW.trod enc Tryz.prog w base spare held fuel 31 cs = some x) : ∃ r : Pt, cs = [.int .i64 r.g, .int .i64 r.y, .int .i64 r.t, .int .i64 r.w] := by
  obtain ⟨xs, n, -, -, hlen, hxl, hf⟩ := DataW.trod_struct Tryz.underlying31 h
  rw [cells_pt] at hlen
  have hx : xs.length = 4 := hxl
  have f0 : DataW.trod enc Tryz.prog w base spare held n 3 ((cs.drop 0).take (Tryz.prog.cellsOf 3)) = xs[0]? := hf 0 _ rfl
  have f1 : DataW.trod enc Tryz.prog w base spare held n 3 ((cs.drop 1).take (Tryz.prog.cellsOf 3)) = xs[1]? := hf 1 _ rfl
  have f2 : DataW.trod enc Tryz.prog w base spare held n 3 ((cs.drop 2).take (Tryz.prog.cellsOf 3)) = xs[2]? := hf 2 _ rfl
  have f3 : DataW.trod enc Tryz.prog w base spare held n 3 ((cs.drop 3).take (Tryz.prog.cellsOf 3)) = xs[3]? := hf 3 _ rfl
  rw [cells_int, List.getElem?_eq_getElem (by omega)] at f0
  rw [cells_int, List.getElem?_eq_getElem (by omega)] at f1
  rw [cells_int, List.getElem?_eq_getElem (by omega)] at f2
  rw [cells_int, List.getElem?_eq_getElem (by omega)] at f3
  clear hf
  match cs, hlen, f0, f1, f2, f3 with
  | [c0, c1, c2, c3], _, f0, f1, f2, f3 =>
    obtain ⟨z0, e0⟩ := open_int f0
    obtain ⟨z1, e1⟩ := open_int f1
    obtain ⟨z2, e2⟩ := open_int f2
    obtain ⟨z3, e3⟩ := open_int f3
    simp at e0 e1 e2 e3
    subst e0
    subst e1
    subst e2
    subst e3
    exact ⟨⟨z0, z1, z2, z3⟩, rfl⟩
set_option maxRecDepth 100000 in
theorem open_opC {fuel : Nat} {cs : List Value} {x : DataW H × List MemPlace} (h : DataW.trod enc Tryz.prog w base spare held fuel 52 cs = some x) : ∃ r : Gas.Op, cs = [.int .i64 r.kind, .int .i64 r.lg, .int .i64 r.ly, .int .i64 r.lt, .int .i64 r.lw, .int .i64 r.moles, .int .i64 r.slo, .int .i64 r.shi, .int .i64 r.wlo, .int .i64 r.whi] := by
  obtain ⟨xs, n, -, -, hlen, hxl, hf⟩ := DataW.trod_struct Tryz.underlying52 h
  rw [cells_op] at hlen
  have hx : xs.length = 5 := hxl
  have f0 : DataW.trod enc Tryz.prog w base spare held n 50 ((cs.drop 0).take (Tryz.prog.cellsOf 50)) = xs[0]? := hf 0 _ rfl
  have f1 : DataW.trod enc Tryz.prog w base spare held n 31 ((cs.drop 1).take (Tryz.prog.cellsOf 31)) = xs[1]? := hf 1 _ rfl
  have f2 : DataW.trod enc Tryz.prog w base spare held n 3 ((cs.drop 5).take (Tryz.prog.cellsOf 3)) = xs[2]? := hf 2 _ rfl
  have f3 : DataW.trod enc Tryz.prog w base spare held n 23 ((cs.drop 6).take (Tryz.prog.cellsOf 23)) = xs[3]? := hf 3 _ rfl
  have f4 : DataW.trod enc Tryz.prog w base spare held n 23 ((cs.drop 8).take (Tryz.prog.cellsOf 23)) = xs[4]? := hf 4 _ rfl
  rw [cells_kind, List.getElem?_eq_getElem (by omega)] at f0
  rw [cells_pt, List.getElem?_eq_getElem (by omega)] at f1
  rw [cells_int, List.getElem?_eq_getElem (by omega)] at f2
  rw [cells_span, List.getElem?_eq_getElem (by omega)] at f3
  rw [cells_span, List.getElem?_eq_getElem (by omega)] at f4
  clear hf
  match cs, hlen, f0, f1, f2, f3, f4 with
  | [c0, c1, c2, c3, c4, c5, c6, c7, c8, c9], _, f0, f1, f2, f3, f4 =>
    obtain ⟨z0, e0⟩ := open_kind f0
    obtain ⟨r1, e1⟩ := open_ptC f1
    obtain ⟨z5, e2⟩ := open_int f2
    obtain ⟨z6, z7, e3⟩ := open_spanC f3
    obtain ⟨z8, z9, e4⟩ := open_spanC f4
    simp at e0 e1 e2 e3 e4
    subst e0
    obtain ⟨e1_0, e1_1, e1_2, e1_3⟩ := e1
    subst e1_0 e1_1 e1_2 e1_3
    subst e2
    obtain ⟨e3_0, e3_1⟩ := e3
    subst e3_0 e3_1
    obtain ⟨e4_0, e4_1⟩ := e4
    subst e4_0 e4_1
    exact ⟨⟨z0, r1.g, r1.y, r1.t, r1.w, z5, z6, z7, z8, z9⟩, rfl⟩
set_option maxRecDepth 100000 in
theorem open_cav {r : Reach} {b0 : Nat} {v : Value} {d : DataW H} {p : List MemPlace} (hv : Value.okWide Tryz.prog w r b0 26 v) (h : DataW.Trod enc Tryz.prog w base spare held 26 v d p) : ∃ s : Cav, v = cavV s := by
  obtain ⟨cs, rfl, hsz⟩ := okWide_struct Tryz.underlying26 hv
  obtain ⟨cs⟩ := cs
  obtain ⟨fuel, hf⟩ := h
  have hf' : DataW.trod enc Tryz.prog w base spare held fuel 26 cs = some (d, p) := by simpa [Value.cells] using hf
  obtain ⟨s, rfl⟩ := open_cavC hf'
  exact ⟨s, rfl⟩
set_option maxRecDepth 100000 in
theorem open_st {r : Reach} {b0 : Nat} {v : Value} {d : DataW H} {p : List MemPlace} (hv : Value.okWide Tryz.prog w r b0 28 v) (h : DataW.Trod enc Tryz.prog w base spare held 28 v d p) : ∃ s : St, v = stV s := by
  obtain ⟨cs, rfl, hsz⟩ := okWide_struct Tryz.underlying28 hv
  obtain ⟨cs⟩ := cs
  obtain ⟨fuel, hf⟩ := h
  have hf' : DataW.trod enc Tryz.prog w base spare held fuel 28 cs = some (d, p) := by simpa [Value.cells] using hf
  obtain ⟨s, rfl⟩ := open_stC hf'
  exact ⟨s, rfl⟩
set_option maxRecDepth 100000 in
theorem open_pt {r : Reach} {b0 : Nat} {v : Value} {d : DataW H} {p : List MemPlace} (hv : Value.okWide Tryz.prog w r b0 31 v) (h : DataW.Trod enc Tryz.prog w base spare held 31 v d p) : ∃ s : Pt, v = ptV s := by
  obtain ⟨cs, rfl, hsz⟩ := okWide_struct Tryz.underlying31 hv
  obtain ⟨cs⟩ := cs
  obtain ⟨fuel, hf⟩ := h
  have hf' : DataW.trod enc Tryz.prog w base spare held fuel 31 cs = some (d, p) := by simpa [Value.cells] using hf
  obtain ⟨s, rfl⟩ := open_ptC hf'
  exact ⟨s, rfl⟩
set_option maxRecDepth 100000 in
theorem open_nums {fuel : Nat} {cs : List Value} {x : DataW H × List MemPlace} (h : DataW.trod enc Tryz.prog w base spare held fuel 32 cs = some x) :
    ∃ v xs, cs = [v] ∧ IntsAt w v xs := by
  rcases open_slice Tryz.underlying32 h with ⟨h0, -⟩ | ⟨a, len, cap, m, n, D, Pl, hcs, hb, hl, hm, hmm, hx, hi⟩
  · exact ⟨_, [], h0, none, 0, rfl, by simp, fun h => absurd h (by simp)⟩
  · have hle : len ≤ m := by rw [hmm]; split <;> omega
    obtain ⟨xs, hxl, hxs⟩ := list_of (0 : Int) (P := fun i z => w.cell? (a.add i) = some (.int .i64 z)) len (fun i hil => by
      obtain ⟨cs', hc, ht⟩ := hi i (by omega)
      rw [cells_int, Nat.mul_one] at hc
      obtain ⟨z, rfl, -, -⟩ := DataW.trod_int Tryz.underlying3 ht
      have := (World.cells?_some hc).2.2 0 (by omega)
      have e : (a.add i).add 0 = a.add i := by simp [Addr.add]
      rw [e] at this
      exact ⟨z, this⟩)
    refine ⟨_, xs, hcs, some a, cap, by rw [hxl], by omega, fun h0 => ?_⟩
    obtain ⟨b, off, spot⟩ := a
    have hs : spot = none := by simpa [Addr.add] using World.cell?_spot (hxs 0 (by omega))
    subst hs
    simp only [add_none] at hxs
    exact ⟨b, off, rfl, World.block_lt_of_cell? w ⟨b, off + 0, none⟩ (hxs 0 (by omega)), fun k hk => hxs k (by omega)⟩
set_option maxRecDepth 100000 in
theorem open_list {r : Reach} {b0 : Nat} {v : Value} {d : DataW H} {p : List MemPlace} (hv : Value.okWide Tryz.prog w r b0 32 v) (h : DataW.Trod enc Tryz.prog w base spare held 32 v d p) :
    ∃ l, IntsAt w v l := by
  obtain ⟨a, n, c, rfl⟩ := okWide_slice Tryz.underlying32 hv
  obtain ⟨fuel, hf⟩ := h
  obtain ⟨v, xs, e, hx⟩ := open_nums hf
  simp [Value.cells] at e
  subst e
  exact ⟨xs, hx⟩
set_option maxRecDepth 100000 in
theorem open_opsC {fuel : Nat} {cs : List Value} {x : DataW H × List MemPlace} (h : DataW.trod enc Tryz.prog w base spare held fuel 29 cs = some x) :
    ∃ v xs, cs = [v] ∧ OpsAt w v xs := by
  rcases open_slice Tryz.underlying29 h with ⟨h0, -⟩ | ⟨a, len, cap, m, n, D, Pl, hcs, hb, hl, hm, hmm, hx, hi⟩
  · exact ⟨_, [], h0, none, 0, rfl, by simp, fun h => absurd h (by simp)⟩
  · have hle : len ≤ m := by rw [hmm]; split <;> omega
    obtain ⟨xs, hxl, hxs⟩ := list_of (⟨0, 0, 0, 0, 0, 0, 0, 0, 0, 0⟩ : Gas.Op) (P := fun i d => ∀ j, j < 10 → w.cell? ((a.add (i * 10)).add j) = [Value.int .i64 d.kind, .int .i64 d.lg, .int .i64 d.ly, .int .i64 d.lt, .int .i64 d.lw, .int .i64 d.moles, .int .i64 d.slo, .int .i64 d.shi, .int .i64 d.wlo, .int .i64 d.whi][j]?) len (fun i hil => by
      obtain ⟨cs', hc, ht⟩ := hi i (by omega)
      rw [cells_op] at hc
      obtain ⟨r, rfl⟩ := open_opC ht
      exact ⟨r, (World.cells?_some hc).2.2⟩)
    refine ⟨_, xs, hcs, some a, cap, by rw [hxl], by omega, fun h0 => ?_⟩
    obtain ⟨b, off, spot⟩ := a
    have hs : spot = none := by simpa [Addr.add] using World.cell?_spot (hxs 0 (by omega) 0 (by omega))
    subst hs
    have hz : w.cell? ⟨b, off, none⟩ = some (.int .i64 (xs.getD 0 ⟨0, 0, 0, 0, 0, 0, 0, 0, 0, 0⟩).kind) := by simpa [Addr.add] using hxs 0 (by omega) 0 (by omega)
    refine ⟨b, off, rfl, World.block_lt_of_cell? w ⟨b, off, none⟩ hz, fun k hk => ?_⟩
    have e := fun j hj => hxs k (by omega) j hj
    simp only [add_none] at e
    exact ⟨e 0 (by omega), e 1 (by omega), e 2 (by omega), e 3 (by omega), e 4 (by omega), e 5 (by omega), e 6 (by omega), e 7 (by omega), e 8 (by omega), e 9 (by omega)⟩
set_option maxRecDepth 100000 in
theorem open_ops {r : Reach} {b0 : Nat} {v : Value} {d : DataW H} {p : List MemPlace} (hv : Value.okWide Tryz.prog w r b0 29 v) (h : DataW.Trod enc Tryz.prog w base spare held 29 v d p) :
    ∃ l, OpsAt w v l := by
  obtain ⟨a, n, c, rfl⟩ := okWide_slice Tryz.underlying29 hv
  obtain ⟨fuel, hf⟩ := h
  obtain ⟨v, xs, e, hx⟩ := open_opsC hf
  simp [Value.cells] at e
  subst e
  exact ⟨xs, hx⟩
end
set_option maxRecDepth 100000 in
theorem frOwn : ownKnob Tryz.prog.godebug = none := by kernel_rfl
set_option maxRecDepth 100000 in
theorem frLaid : laidOutB Tryz.prog = true := by kernel_rfl
end Go.Proofs.YthbkcoijafehgaaGreat.G
set_option linter.unusedVariables false
set_option linter.unusedSimpArgs false
namespace Gas
def theSt (l : List St) (k : Nat) : St := l.getD k ⟨0, 0, 0, 0, 0, 0, 0, 0⟩
theorem drop_theOp {l : List Op} {k : Nat} (h : k < l.length) : l.drop k = theOp l k :: l.drop (k + 1) := by rw [theOp_lt h]; exact List.drop_eq_getElem_cons h
/-- The states behind operations, on top of those told so far, and the first one that cannot be done. -/
def stepsFrom (c : Cav) : List Op → St → List St → Nat → List St × Int
  | [], _, acc, _ => (acc, -1)
  | o :: r, s, acc, k => match act c s o with
    | none => (acc, (k : Int))
    | some (x, _) => stepsFrom c r x (acc ++ [x]) (k + 1)
def steps (c : Cav) (s : St) (l : List Op) : List St × Int := stepsFrom c l s [] 0
theorem steps_stop {c : Cav} {l : List Op} {s : St} {acc : List St} {k : Nat} (h : k < l.length) (ha : act c s (theOp l k) = none) : stepsFrom c (l.drop k) s acc k = (acc, (k : Int)) := by
  rw [drop_theOp h]; simp only [stepsFrom, ha]
theorem steps_next {c : Cav} {l : List Op} {s x : St} {q : Out} {acc : List St} {k : Nat} (h : k < l.length) (ha : act c s (theOp l k) = some (x, q)) : stepsFrom c (l.drop k) s acc k = stepsFrom c (l.drop (k + 1)) x (acc ++ [x]) (k + 1) := by
  rw [drop_theOp h]; simp only [stepsFrom, ha]
theorem steps_end {c : Cav} {l : List Op} {s : St} {acc : List St} : stepsFrom c (l.drop l.length) s acc l.length = (acc, -1) := by
  rw [List.drop_length]; rfl
end Gas
namespace Go.Proofs.YthbkcoijafehgaaGreat.G
open Go.RowKit Go.Sd Gas
section
variable {α : Type} {enc : α → List Value} {m : Nat}
theorem fl_get (hm : ∀ x, (enc x).length = m) (d : α) : ∀ (xs : List α) (k i : Nat), k < xs.length → i < m → (xs.flatMap enc)[k * m + i]? = (enc (xs.getD k d))[i]?
  | [], k, i, h, _ => by simp at h
  | x :: xs, 0, i, _, hi => by
    rw [List.flatMap_cons, List.getElem?_append_left (by rw [hm x]; omega)]
    simp
  | x :: xs, k + 1, i, h, hi => by
    have ih := fl_get hm d xs k i (by simpa using h) hi
    rw [List.flatMap_cons, List.getElem?_append_right (by rw [hm x, Nat.add_mul]; omega), hm x, show (k + 1) * m + i - m = k * m + i by rw [Nat.add_mul]; omega, ih]
    simp
/-- A slice of structs of one's own. -/
def OwnSt (E : TypeId) (m : Nat) (enc : α → List Value) (B : Nat) (w : World) (v : Value) (xs : List α) : Prop := w.ownsRow B E m v xs.length (xs.flatMap enc)
theorem OwnSt.nil (E : TypeId) (m : Nat) (enc : α → List Value) (B : Nat) (w : World) : OwnSt E m enc B w (.slice none 0 0) [] := World.ownsRow_nil w B _ m
theorem OwnSt.kept {E : TypeId} {B : Nat} {w w' : World} {row : Option Nat} {v : Value} {xs : List α} (h : OwnSt E m enc B w v xs) (hg : w.grownBy w' row) (hne : v.ownBlock = none ∨ v.ownBlock ≠ row) : OwnSt E m enc B w' v xs := World.ownsRow.kept h hg hne
theorem OwnSt.mono {E : TypeId} {B : Nat} {w w' : World} {v : Value} {xs : List α} (h : OwnSt E m enc B w v xs) (hb : Below w.heap.size w w') : OwnSt E m enc B w' v xs := h.kept (grown_of_below hb) (by cases v.ownBlock <;> simp)
theorem OwnSt.lt {E : TypeId} {B : Nat} {w : World} {v : Value} {xs : List α} (h : OwnSt E m enc B w v xs) : ∀ k, v.ownBlock = some k → B ≤ k ∧ k < w.heap.size := World.ownsRow.lt h
theorem OwnSt.cellset {E : TypeId} {B : Nat} {w : World} {v : Value} {xs : List α} (h : OwnSt E m enc B w v xs) {p : Addr} (hp : p.block < B) (u : Value) : OwnSt E m enc B (w.setCell p u) v xs :=
  h.kept (row := some p.block) ⟨rfl, rfl, rfl, by simp [World.setCell], fun k _ hk => Below.heap_setCell _ _ _ _ (fun e => hk (by rw [e]))⟩ (.inr fun e => by have := (h.lt _ e).1; omega)
theorem OwnSt.from {E : TypeId} {B B' : Nat} {w : World} {v : Value} {xs : List α} (h : OwnSt E m enc B w v xs) (hB : B' ≤ B) : OwnSt E m enc B' w v xs := by
  obtain ⟨h1, h2⟩ := h
  refine ⟨h1, ?_⟩
  rcases h2 with h2 | ⟨g, cap, cur, hv, hg, r⟩
  · exact .inl h2
  · exact .inr ⟨g, cap, cur, hv, by omega, r⟩
theorem OwnSt.slice {E : TypeId} {B : Nat} {w : World} {v : Value} {xs : List α} (h : OwnSt E m enc B w v xs) : ∃ a cap, v = .slice a xs.length cap := by
  obtain ⟨_, h2⟩ := h
  rcases h2 with ⟨rfl, h0⟩ | ⟨g, cap, cur, rfl, _⟩
  · exact ⟨none, 0, by rw [h0]⟩
  · exact ⟨_, cap, rfl⟩
theorem OwnSt.cells {E : TypeId} {B : Nat} {w : World} {v : Value} {xs : List α} (hm : ∀ x, (enc x).length = m) (d : α) (h : OwnSt E m enc B w v xs) : ∃ a cap, v = .slice a xs.length cap ∧ xs.length ≤ maxLen ∧
    (0 < xs.length → ∃ b, a = some ⟨b, 0, none⟩ ∧ b < w.heap.size ∧ ∀ k i, k < xs.length → i < m → w.cell? ⟨b, k * m + i, none⟩ = (enc (xs.getD k d))[i]?) := by
  have h0 := h
  obtain ⟨_, h2⟩ := h
  rcases h2 with ⟨rfl, hn⟩ | ⟨g, cap, cur, rfl, hB, hg, hn, hmx, hs, ht⟩
  · exact ⟨none, 0, by rw [hn], by simp [hn], fun h => by omega⟩
  · refine ⟨_, cap, rfl, by omega, fun hp => ⟨g, rfl, (Array.getElem?_eq_some_iff.1 hg).1, fun k i hk hi => ?_⟩⟩
    have hlt : k * m + i < xs.length * m := by
      have : (k + 1) * m ≤ xs.length * m := Nat.mul_le_mul_right m (by omega)
      rw [Nat.add_mul] at this; omega
    rw [h0.cellAt (k * m + i) hlt, fl_get hm d xs k i hk hi]
/-- 'xs = append(xs, y)', y a struct. -/
theorem wpList_app_st (hm : ∀ x, (enc x).length = m) (T E : TypeId) (z : Value) (bytes : Nat) (hT : Tryz.prog.underlying T = some (.slice E)) (hinfo : (Tryz.prog.info? E).map (fun i => (i.zero, i.size, i.bytes)) = some (some z, m, bytes))
    (hzc : z.cells.size = m) (hm0 : 0 < m) (hby : bytes ≤ 1000) (hone : ∀ x, ∀ u ∈ enc x, u.oneCell' = true)
    {ops : Array Oper} {rest : List Oper} {o : Oper} {a : Act} {Q : Exit → Act → World → Prop} (hgd : o.guard = none) (s x : Operand)
    (ho : o.op = .call { callee := .builtin .append, args := #[s, x], argTypes := #[T, T] })
    (B : Nat) (w : World) (v : Value) (xs : List α) (y : α) (hs : a.eval s = v) (hown : OwnSt E m enc B w v xs) (hx : a.eval x = .slice (some ⟨w.heap.size, 0, none⟩) 1 1)
    (hn : xs.length ≤ 1000000) (hB : B ≤ w.heap.size)
    (h : ∀ v' w', OwnSt E m enc B w' v' (xs ++ [y]) → w.grownBy w' v.ownBlock → (v'.ownBlock = v.ownBlock ∨ ∃ k, v'.ownBlock = some k ∧ w.heap.size ≤ k) → wpList Tryz.prog ops Q rest (a.put o.dst v') w') :
    wpList Tryz.prog ops Q (o :: rest) a (w.alloc (.cells (enc y).toArray E)) := by
  obtain ⟨i0, hi, hz0, hz1, hz2⟩ := info_parts hinfo
  have hnw := World.alloc_heap_new w (.cells (enc y).toArray E)
  refine wpList_append_own_at _ hgd s x T ho B E i0 _ m bytes hT hi hz0 hz1 hz2 hzc hm0 v xs.length _ hs (World.ownsRow.alloc hown _) ⟨w.heap.size, 0, none⟩ 1 1 (enc y) hx (by rw [hm y]; omega) ?_ (hone y) ?_ ?_ ?_ ?_
  · exact World.news_of_block (cs := (enc y).toArray) (t := E) (fr := (0, 0)) hnw
  · unfold maxLen; omega
  · have : (xs.length + 1) * bytes ≤ 1000001 * 1000 := Nat.mul_le_mul (by omega) hby
    omega
  · simp; omega
  · intro v' w' h1 h2 h3 h4
    refine h v' w' ?_ (grownBy_trans (World.grownBy_alloc w _ _) h2) ?_
    · unfold OwnSt
      rw [List.length_append, List.flatMap_append]
      simpa using h1
    · rcases h4 with h4 | h4
      · exact .inl h4
      · exact .inr ⟨_, h4, by simp⟩
end
abbrev stEnc (s : St) : List Value := [.int .i64 s.glo, .int .i64 s.ghi, .int .i64 s.ylo, .int .i64 s.yhi, .int .i64 s.tlo, .int .i64 s.thi, .int .i64 s.wlo, .int .i64 s.whi]
theorem stEnc_len (x : St) : (stEnc x).length = 8 := rfl
theorem stEnc_one (x : St) : ∀ u ∈ stEnc x, u.oneCell' = true := by simp [stEnc, Value.oneCell']
theorem infoSt : (Tryz.prog.info? 28).map (fun i => (i.zero, i.size, i.bytes)) = some (some (.agg #[.int .i64 0, .int .i64 0, .int .i64 0, .int .i64 0, .int .i64 0, .int .i64 0, .int .i64 0, .int .i64 0]), 8, 64) := by kernel_rfl
abbrev OwnSts (B : Nat) (w : World) (v : Value) (xs : List St) : Prop := OwnSt 28 8 stEnc B w v xs
/-- The eight cells of a state. -/
def StCells (w : World) (b o : Nat) (x : St) : Prop :=
  w.cell? ⟨b, o, none⟩ = some (.int .i64 x.glo) ∧ w.cell? ⟨b, o + 1, none⟩ = some (.int .i64 x.ghi) ∧ w.cell? ⟨b, o + 2, none⟩ = some (.int .i64 x.ylo) ∧ w.cell? ⟨b, o + 3, none⟩ = some (.int .i64 x.yhi) ∧ w.cell? ⟨b, o + 4, none⟩ = some (.int .i64 x.tlo) ∧ w.cell? ⟨b, o + 5, none⟩ = some (.int .i64 x.thi) ∧ w.cell? ⟨b, o + 6, none⟩ = some (.int .i64 x.wlo) ∧ w.cell? ⟨b, o + 7, none⟩ = some (.int .i64 x.whi)
theorem StCells.mono {w w' : World} {b o : Nat} {x : St} (h : StCells w b o x) (hb : Below w.heap.size w w') : StCells w' b o x := by
  obtain ⟨h0, h1, h2, h3, h4, h5, h6, h7⟩ := h
  exact ⟨kept_cell hb h0, kept_cell hb h1, kept_cell hb h2, kept_cell hb h3, kept_cell hb h4, kept_cell hb h5, kept_cell hb h6, kept_cell hb h7⟩
/-- A slice that reads as a list of states. -/
def StsAt (w : World) (v : Value) (xs : List St) : Prop :=
  ∃ a cap, v = .slice a xs.length cap ∧ xs.length ≤ maxLen ∧
    (0 < xs.length → ∃ b off, a = some ⟨b, off, none⟩ ∧ b < w.heap.size ∧ ∀ k, k < xs.length → StCells w b (off + k * 8) (theSt xs k))
theorem StsAt.mono {w w' : World} {v : Value} {xs : List St} (h : StsAt w v xs) (hb : Below w.heap.size w w') : StsAt w' v xs := by
  obtain ⟨a, cap, rfl, hm, hc⟩ := h
  refine ⟨a, cap, rfl, hm, fun h0 => ?_⟩
  obtain ⟨b, off, rfl, hlt, hk⟩ := hc h0
  exact ⟨b, off, rfl, Nat.lt_of_lt_of_le hlt hb.size, fun k hk' => (hk k hk').mono hb⟩
theorem own_sts {B : Nat} {w : World} {v : Value} {xs : List St} (h : OwnSts B w v xs) : StsAt w v xs := by
  obtain ⟨a, cap, rfl, hm, hk⟩ := h.cells stEnc_len ⟨0, 0, 0, 0, 0, 0, 0, 0⟩
  refine ⟨a, cap, rfl, hm, fun hp => ?_⟩
  obtain ⟨b, rfl, hlt, hc⟩ := hk hp
  refine ⟨b, 0, rfl, hlt, fun k hk => ?_⟩
  simp only [Nat.zero_add]
  exact ⟨hc k 0 hk (by omega), hc k 1 hk (by omega), hc k 2 hk (by omega), hc k 3 hk (by omega), hc k 4 hk (by omega), hc k 5 hk (by omega), hc k 6 hk (by omega), hc k 7 hk (by omega)⟩
theorem StsAt.nil (w : World) : StsAt w (.slice none 0 0) [] := ⟨none, 0, rfl, by simp, fun h => by simp at h⟩
end Go.Proofs.YthbkcoijafehgaaGreat.G
set_option linter.unusedVariables false
set_option linter.unusedSimpArgs false
namespace Gas
def exC : Cav := ⟨1000, 1100, 2000, 9000, 900, 1000, 36, 29, 3200, 0, 100⟩
def exS : St := ⟨2000, 2100, 100, 110, 3000, 3100, 50000, 60000⟩
def exW : Op := ⟨2, 0, 0, 0, 0, 210, 0, 0, 0, 0⟩
end Gas
namespace Go.Proofs.YthbkcoijafehgaaGreat.G
open Go.RowKit Go.Sd Gas
set_option maxRecDepth 100000 in
set_option maxHeartbeats 2000000 in
theorem lawC (w : World) : Calls Tryz.prog 22 #[] w fun e w' => e = .returned (cavV exC) ∧ Below w.heap.size w w' := by
  obtain ⟨W, hW⟩ : ∃ W, w.alloc (.cells #[.int .i64 0, .int .i64 0, .int .i64 0, .int .i64 0, .int .i64 0, .int .i64 0, .int .i64 0, .int .i64 0, .int .i64 0, .int .i64 0, .int .i64 0] 26) = W := ⟨_, rfl⟩
  obtain ⟨eW0, bW0, sW0⟩ := boxed hW
  have hBw : Below w.heap.size w W := bW0
  obtain ⟨zW0, rW0, tW0⟩ := row_cells eW0
  obtain ⟨qW0_0, qW0_1, qW0_2, qW0_3, qW0_4, qW0_5, qW0_6, qW0_7, qW0_8, qW0_9, qW0_10⟩ := rc11 eW0
  obtain ⟨fW0_0, fW0_1, fW0_2, fW0_3, fW0_4, fW0_5, fW0_6, fW0_7, fW0_8, fW0_9, fW0_10⟩ := rf11 eW0
  clear rW0 tW0 eW0
  have xW0 : w.heap.size ≤ w.heap.size := by omega
  clear bW0 sW0
  go_enter Tryz.func22, Tryz.ntmps22
  go_wp2
  refine bodyPost_ret (v := cavV exC) (by simp [results, Tryz.results22, go_sem, exC, *]) rfl ⟨rfl, ?_⟩
  repeat' (first | (with_reducible exact hBw) | (with_reducible exact Nat.le_refl _) | (with_reducible refine Below.setCell ?_ ?_ _))
set_option maxRecDepth 100000 in
set_option maxHeartbeats 2000000 in
theorem lawS (w : World) : Calls Tryz.prog 23 #[] w fun e w' => e = .returned (stV exS) ∧ Below w.heap.size w w' := by
  obtain ⟨W, hW⟩ : ∃ W, w.alloc (.cells #[.int .i64 0, .int .i64 0, .int .i64 0, .int .i64 0, .int .i64 0, .int .i64 0, .int .i64 0, .int .i64 0] 28) = W := ⟨_, rfl⟩
  obtain ⟨eW0, bW0, sW0⟩ := boxed hW
  have hBw : Below w.heap.size w W := bW0
  obtain ⟨zW0, rW0, tW0⟩ := row_cells eW0
  obtain ⟨qW0_0, qW0_1, qW0_2, qW0_3, qW0_4, qW0_5, qW0_6, qW0_7⟩ := rc8 eW0
  obtain ⟨fW0_0, fW0_1, fW0_2, fW0_3, fW0_4, fW0_5, fW0_6, fW0_7⟩ := rf8 eW0
  clear rW0 tW0 eW0
  have xW0 : w.heap.size ≤ w.heap.size := by omega
  clear bW0 sW0
  go_enter Tryz.func23, Tryz.ntmps23
  go_wp2
  refine bodyPost_ret (v := stV exS) (by simp [results, Tryz.results23, go_sem, exS, *]) rfl ⟨rfl, ?_⟩
  repeat' (first | (with_reducible exact hBw) | (with_reducible exact Nat.le_refl _) | (with_reducible refine Below.setCell ?_ ?_ _))
end Go.Proofs.YthbkcoijafehgaaGreat.G
set_option linter.unusedVariables false
set_option linter.unusedSimpArgs false
namespace Go.Proofs.YthbkcoijafehgaaGreat.G
open Go.RowKit Go.Sd Gas
theorem validT {c : Cav} {t : Bool} (w : World) (h : c.ok = t) : Calls Tryz.prog 26 #[cavV c] w fun e w' => e = .returned (.bool t) ∧ Below w.heap.size w w' :=
  (progValid c w).mono fun e w' ⟨t', he, ht, hb⟩ => ⟨by rw [he, ← h, ← ht.out], hb⟩
theorem stateT {s : St} {t : Bool} (w : World) (h : s.ok = t) : Calls Tryz.prog 27 #[stV s] w fun e w' => e = .returned (.bool t) ∧ Below w.heap.size w w' :=
  (progState s w).mono fun e w' ⟨t', he, ht, hb⟩ => ⟨by rw [he, ← h, ← ht.out], hb⟩
theorem opT {o : Gas.Op} {t : Bool} (w : World) (h : o.ok = t) : Calls Tryz.prog 45 #[opV o] w fun e w' => e = .returned (.bool t) ∧ Below w.heap.size w w' :=
  (progOp o w).mono fun e w' ⟨t', he, ht, hb⟩ => ⟨by rw [he, ← h, ← ht.out], hb⟩
end Go.Proofs.YthbkcoijafehgaaGreat.G
