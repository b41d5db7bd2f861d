/- Gas: caverns, states, contents and operations that come in as arguments are aggregates of whole numbers; lists of numbers and of operations lie in memory as the walks want them. What the frame of each statement of this seat leans on. -/
import Derived.Test.YtdilgjhdimlbkaaOps
import Derived.ProofKit
import Derived.OpenShut
import Derived.Deep.Slices
import Derived.ChangeOld
import Derived.Test.YtdilgjhdimlbkaaRows
import Derived.WalkKit
import Derived.ShutString
import Derived.Below
set_option linter.unusedVariables false
set_option linter.unusedSimpArgs false
namespace Go.Proofs.Ytdilgjhdimlbkaa
open Go.ChangeShapes Go.WideShapes Go.Deep Go.Sd Gas

set_option maxRecDepth 100000 in
theorem list_of {α : Type} (d : α) {P : Nat → α → Prop} : ∀ (n : Nat), (∀ i, i < n → ∃ x, P i x) → ∃ xs : List α, xs.length = n ∧ ∀ i, i < n → P i (xs.getD i d)
  | 0, _ => ⟨[], rfl, fun i h => absurd h (Nat.not_lt_zero i)⟩
  | n + 1, h => by
    obtain ⟨xs, hl, hx⟩ := list_of d n (fun i hi => h i (by omega))
    obtain ⟨x, hp⟩ := h n (by omega)
    refine ⟨xs ++ [x], by simp [hl], fun i hi => ?_⟩
    by_cases e : i < n
    · have := hx i e
      rwa [List.getD_eq_getElem?_getD, List.getElem?_append_left (by omega), ← List.getD_eq_getElem?_getD]
    · obtain rfl : i = n := by omega
      rw [List.getD_eq_getElem?_getD, List.getElem?_append_right (by omega)]
      simpa [hl] using hp

set_option maxRecDepth 100000 in
theorem add_none (b off i : Nat) : (⟨b, off, none⟩ : Addr).add i = ⟨b, off + i, none⟩ := by
  unfold Addr.add
  by_cases h : i = 0 <;> simp [h]

set_option maxRecDepth 100000 in
theorem cells_int : Try.prog.cellsOf 3 = 1 := by kernel_rfl
set_option maxRecDepth 100000 in
theorem cells_kind : Try.prog.cellsOf 54 = 1 := by kernel_rfl
set_option maxRecDepth 100000 in
theorem cells_span : Try.prog.cellsOf 23 = 2 := by kernel_rfl
set_option maxRecDepth 100000 in
theorem cells_pair : Try.prog.cellsOf 24 = 2 := by kernel_rfl
set_option maxRecDepth 100000 in
theorem cells_cav : Try.prog.cellsOf 26 = 11 := by kernel_rfl
set_option maxRecDepth 100000 in
theorem cells_st : Try.prog.cellsOf 48 = 8 := by kernel_rfl
set_option maxRecDepth 100000 in
theorem cells_pt : Try.prog.cellsOf 28 = 4 := by kernel_rfl
set_option maxRecDepth 100000 in
theorem cells_op : Try.prog.cellsOf 57 = 10 := by kernel_rfl

section
variable {H : Type} {enc : TypeId × Value → H} {w : World} {base : Nat} {spare : Nat → Bool} {held : Bool}
set_option maxRecDepth 100000 in
theorem open_int {n : Nat} {cs : List Value} {x : DataW H × List MemPlace} (h : DataW.trod enc Try.prog w base spare held n 3 cs = some x) : ∃ z, cs = [.int .i64 z] := by
  obtain ⟨z, hz, -, -⟩ := DataW.trod_int Try.underlying3 h
  exact ⟨z, hz⟩
set_option maxRecDepth 100000 in
theorem open_kind {n : Nat} {cs : List Value} {x : DataW H × List MemPlace} (h : DataW.trod enc Try.prog w base spare held n 54 cs = some x) : ∃ z, cs = [.int .i64 z] := by
  obtain ⟨z, hz, -, -⟩ := DataW.trod_int Try.underlying54 h
  exact ⟨z, hz⟩
set_option maxRecDepth 100000 in
theorem open_spanC {fuel : Nat} {cs : List Value} {x : DataW H × List MemPlace} (h : DataW.trod enc Try.prog w base spare held fuel 23 cs = some x) : ∃ z0 z1, cs = [.int .i64 z0, .int .i64 z1] := by
  obtain ⟨xs, n, -, -, hlen, hxl, hf⟩ := DataW.trod_struct Try.underlying23 h
  rw [cells_span] at hlen
  have hx : xs.length = 2 := hxl
  have f0 : DataW.trod enc Try.prog w base spare held n 3 ((cs.drop 0).take (Try.prog.cellsOf 3)) = xs[0]? := hf 0 _ rfl
  have f1 : DataW.trod enc Try.prog w base spare held n 3 ((cs.drop 1).take (Try.prog.cellsOf 3)) = xs[1]? := hf 1 _ rfl
  rw [cells_int, List.getElem?_eq_getElem (by omega)] at f0
  rw [cells_int, List.getElem?_eq_getElem (by omega)] at f1
  clear hf
  match cs, hlen, f0, f1 with
  | [c0, c1], _, f0, f1 =>
    obtain ⟨z0, e0⟩ := open_int f0
    obtain ⟨z1, e1⟩ := open_int f1
    simp at e0 e1
    subst e0
    subst e1
    exact ⟨_, _, rfl⟩
set_option maxRecDepth 100000 in
theorem open_pairC {fuel : Nat} {cs : List Value} {x : DataW H × List MemPlace} (h : DataW.trod enc Try.prog w base spare held fuel 24 cs = some x) : ∃ z0 z1, cs = [.int .i64 z0, .int .i64 z1] := by
  obtain ⟨xs, n, -, -, hlen, hxl, hf⟩ := DataW.trod_array Try.underlying24 h
  rw [cells_pair] at hlen
  have hx : xs.length = 2 := hxl
  have f0 : DataW.trod enc Try.prog w base spare held n 3 ((cs.drop 0).take (Try.prog.cellsOf 3)) = xs[0]? := (by have h0 := hf 0 (by omega); rw [cells_int] at h0 ⊢; exact h0)
  have f1 : DataW.trod enc Try.prog w base spare held n 3 ((cs.drop 1).take (Try.prog.cellsOf 3)) = xs[1]? := (by have h0 := hf 1 (by omega); rw [cells_int] at h0 ⊢; exact h0)
  rw [cells_int, List.getElem?_eq_getElem (by omega)] at f0
  rw [cells_int, List.getElem?_eq_getElem (by omega)] at f1
  clear hf
  match cs, hlen, f0, f1 with
  | [c0, c1], _, f0, f1 =>
    obtain ⟨z0, e0⟩ := open_int f0
    obtain ⟨z1, e1⟩ := open_int f1
    simp at e0 e1
    subst e0
    subst e1
    exact ⟨_, _, rfl⟩
set_option maxRecDepth 100000 in
theorem open_cavC {fuel : Nat} {cs : List Value} {x : DataW H × List MemPlace} (h : DataW.trod enc Try.prog w base spare held fuel 26 cs = some x) : ∃ r : Cav, cs = [.int .i64 r.vlo, .int .i64 r.vhi, .int .i64 r.least, .int .i64 r.most, .int .i64 r.f0, .int .i64 r.f1, .int .i64 r.h0, .int .i64 r.h1, .int .i64 r.rock, .int .i64 r.plo, .int .i64 r.phi] := by
  obtain ⟨xs, n, -, -, hlen, hxl, hf⟩ := DataW.trod_struct Try.underlying26 h
  rw [cells_cav] at hlen
  have hx : xs.length = 7 := hxl
  have f0 : DataW.trod enc Try.prog w base spare held n 23 ((cs.drop 0).take (Try.prog.cellsOf 23)) = xs[0]? := hf 0 _ rfl
  have f1 : DataW.trod enc Try.prog w base spare held n 3 ((cs.drop 2).take (Try.prog.cellsOf 3)) = xs[1]? := hf 1 _ rfl
  have f2 : DataW.trod enc Try.prog w base spare held n 3 ((cs.drop 3).take (Try.prog.cellsOf 3)) = xs[2]? := hf 2 _ rfl
  have f3 : DataW.trod enc Try.prog w base spare held n 24 ((cs.drop 4).take (Try.prog.cellsOf 24)) = xs[3]? := hf 3 _ rfl
  have f4 : DataW.trod enc Try.prog w base spare held n 24 ((cs.drop 6).take (Try.prog.cellsOf 24)) = xs[4]? := hf 4 _ rfl
  have f5 : DataW.trod enc Try.prog w base spare held n 3 ((cs.drop 8).take (Try.prog.cellsOf 3)) = xs[5]? := hf 5 _ rfl
  have f6 : DataW.trod enc Try.prog w base spare held n 23 ((cs.drop 9).take (Try.prog.cellsOf 23)) = xs[6]? := hf 6 _ rfl
  rw [cells_span, List.getElem?_eq_getElem (by omega)] at f0
  rw [cells_int, List.getElem?_eq_getElem (by omega)] at f1
  rw [cells_int, List.getElem?_eq_getElem (by omega)] at f2
  rw [cells_pair, List.getElem?_eq_getElem (by omega)] at f3
  rw [cells_pair, List.getElem?_eq_getElem (by omega)] at f4
  rw [cells_int, List.getElem?_eq_getElem (by omega)] at f5
  rw [cells_span, List.getElem?_eq_getElem (by omega)] at f6
  clear hf
  match cs, hlen, f0, f1, f2, f3, f4, f5, f6 with
  | [c0, c1, c2, c3, c4, c5, c6, c7, c8, c9, c10], _, f0, f1, f2, f3, f4, f5, f6 =>
    obtain ⟨z0, z1, e0⟩ := open_spanC f0
    obtain ⟨z2, e1⟩ := open_int f1
    obtain ⟨z3, e2⟩ := open_int f2
    obtain ⟨z4, z5, e3⟩ := open_pairC f3
    obtain ⟨z6, z7, e4⟩ := open_pairC f4
    obtain ⟨z8, e5⟩ := open_int f5
    obtain ⟨z9, z10, e6⟩ := open_spanC f6
    simp at e0 e1 e2 e3 e4 e5 e6
    obtain ⟨e0_0, e0_1⟩ := e0
    subst e0_0 e0_1
    subst e1
    subst e2
    obtain ⟨e3_0, e3_1⟩ := e3
    subst e3_0 e3_1
    obtain ⟨e4_0, e4_1⟩ := e4
    subst e4_0 e4_1
    subst e5
    obtain ⟨e6_0, e6_1⟩ := e6
    subst e6_0 e6_1
    exact ⟨⟨z0, z1, z2, z3, z4, z5, z6, z7, z8, z9, z10⟩, rfl⟩
set_option maxRecDepth 100000 in
theorem open_stC {fuel : Nat} {cs : List Value} {x : DataW H × List MemPlace} (h : DataW.trod enc Try.prog w base spare held fuel 48 cs = some x) : ∃ r : St, cs = [.int .i64 r.glo, .int .i64 r.ghi, .int .i64 r.ylo, .int .i64 r.yhi, .int .i64 r.tlo, .int .i64 r.thi, .int .i64 r.wlo, .int .i64 r.whi] := by
  obtain ⟨xs, n, -, -, hlen, hxl, hf⟩ := DataW.trod_struct Try.underlying48 h
  rw [cells_st] at hlen
  have hx : xs.length = 4 := hxl
  have f0 : DataW.trod enc Try.prog w base spare held n 23 ((cs.drop 0).take (Try.prog.cellsOf 23)) = xs[0]? := hf 0 _ rfl
  have f1 : DataW.trod enc Try.prog w base spare held n 23 ((cs.drop 2).take (Try.prog.cellsOf 23)) = xs[1]? := hf 1 _ rfl
  have f2 : DataW.trod enc Try.prog w base spare held n 23 ((cs.drop 4).take (Try.prog.cellsOf 23)) = xs[2]? := hf 2 _ rfl
  have f3 : DataW.trod enc Try.prog w base spare held n 23 ((cs.drop 6).take (Try.prog.cellsOf 23)) = xs[3]? := hf 3 _ rfl
  rw [cells_span, List.getElem?_eq_getElem (by omega)] at f0
  rw [cells_span, List.getElem?_eq_getElem (by omega)] at f1
  rw [cells_span, List.getElem?_eq_getElem (by omega)] at f2
  rw [cells_span, List.getElem?_eq_getElem (by omega)] at f3
  clear hf
  match cs, hlen, f0, f1, f2, f3 with
  | [c0, c1, c2, c3, c4, c5, c6, c7], _, f0, f1, f2, f3 =>
    obtain ⟨z0, z1, e0⟩ := open_spanC f0
    obtain ⟨z2, z3, e1⟩ := open_spanC f1
    obtain ⟨z4, z5, e2⟩ := open_spanC f2
    obtain ⟨z6, z7, e3⟩ := open_spanC f3
    simp at e0 e1 e2 e3
    obtain ⟨e0_0, e0_1⟩ := e0
    subst e0_0 e0_1
    obtain ⟨e1_0, e1_1⟩ := e1
    subst e1_0 e1_1
    obtain ⟨e2_0, e2_1⟩ := e2
    subst e2_0 e2_1
    obtain ⟨e3_0, e3_1⟩ := e3
    subst e3_0 e3_1
    exact ⟨⟨z0, z1, z2, z3, z4, z5, z6, z7⟩, rfl⟩
set_option maxRecDepth 100000 in
theorem open_ptC {fuel : Nat} {cs : List Value} {x : DataW H × List MemPlace} (h : DataW.trod enc Try.prog w base spare held fuel 28 cs = some x) : ∃ r : Pt, cs = [.int .i64 r.g, .int .i64 r.y, .int .i64 r.t, .int .i64 r.w] := by
  obtain ⟨xs, n, -, -, hlen, hxl, hf⟩ := DataW.trod_struct Try.underlying28 h
  rw [cells_pt] at hlen
  have hx : xs.length = 4 := hxl
  have f0 : DataW.trod enc Try.prog w base spare held n 3 ((cs.drop 0).take (Try.prog.cellsOf 3)) = xs[0]? := hf 0 _ rfl
  have f1 : DataW.trod enc Try.prog w base spare held n 3 ((cs.drop 1).take (Try.prog.cellsOf 3)) = xs[1]? := hf 1 _ rfl
  have f2 : DataW.trod enc Try.prog w base spare held n 3 ((cs.drop 2).take (Try.prog.cellsOf 3)) = xs[2]? := hf 2 _ rfl
  have f3 : DataW.trod enc Try.prog w base spare held n 3 ((cs.drop 3).take (Try.prog.cellsOf 3)) = xs[3]? := hf 3 _ rfl
  rw [cells_int, List.getElem?_eq_getElem (by omega)] at f0
  rw [cells_int, List.getElem?_eq_getElem (by omega)] at f1
  rw [cells_int, List.getElem?_eq_getElem (by omega)] at f2
  rw [cells_int, List.getElem?_eq_getElem (by omega)] at f3
  clear hf
  match cs, hlen, f0, f1, f2, f3 with
  | [c0, c1, c2, c3], _, f0, f1, f2, f3 =>
    obtain ⟨z0, e0⟩ := open_int f0
    obtain ⟨z1, e1⟩ := open_int f1
    obtain ⟨z2, e2⟩ := open_int f2
    obtain ⟨z3, e3⟩ := open_int f3
    simp at e0 e1 e2 e3
    subst e0
    subst e1
    subst e2
    subst e3
    exact ⟨⟨z0, z1, z2, z3⟩, rfl⟩
set_option maxRecDepth 100000 in
theorem open_opC {fuel : Nat} {cs : List Value} {x : DataW H × List MemPlace} (h : DataW.trod enc Try.prog w base spare held fuel 57 cs = some x) : ∃ r : Gas.Op, cs = [.int .i64 r.kind, .int .i64 r.lg, .int .i64 r.ly, .int .i64 r.lt, .int .i64 r.lw, .int .i64 r.moles, .int .i64 r.slo, .int .i64 r.shi, .int .i64 r.wlo, .int .i64 r.whi] := by
  obtain ⟨xs, n, -, -, hlen, hxl, hf⟩ := DataW.trod_struct Try.underlying57 h
  rw [cells_op] at hlen
  have hx : xs.length = 5 := hxl
  have f0 : DataW.trod enc Try.prog w base spare held n 54 ((cs.drop 0).take (Try.prog.cellsOf 54)) = xs[0]? := hf 0 _ rfl
  have f1 : DataW.trod enc Try.prog w base spare held n 28 ((cs.drop 1).take (Try.prog.cellsOf 28)) = xs[1]? := hf 1 _ rfl
  have f2 : DataW.trod enc Try.prog w base spare held n 3 ((cs.drop 5).take (Try.prog.cellsOf 3)) = xs[2]? := hf 2 _ rfl
  have f3 : DataW.trod enc Try.prog w base spare held n 23 ((cs.drop 6).take (Try.prog.cellsOf 23)) = xs[3]? := hf 3 _ rfl
  have f4 : DataW.trod enc Try.prog w base spare held n 23 ((cs.drop 8).take (Try.prog.cellsOf 23)) = xs[4]? := hf 4 _ rfl
  rw [cells_kind, List.getElem?_eq_getElem (by omega)] at f0
  rw [cells_pt, List.getElem?_eq_getElem (by omega)] at f1
  rw [cells_int, List.getElem?_eq_getElem (by omega)] at f2
  rw [cells_span, List.getElem?_eq_getElem (by omega)] at f3
  rw [cells_span, List.getElem?_eq_getElem (by omega)] at f4
  clear hf
  match cs, hlen, f0, f1, f2, f3, f4 with
  | [c0, c1, c2, c3, c4, c5, c6, c7, c8, c9], _, f0, f1, f2, f3, f4 =>
    obtain ⟨z0, e0⟩ := open_kind f0
    obtain ⟨r1, e1⟩ := open_ptC f1
    obtain ⟨z5, e2⟩ := open_int f2
    obtain ⟨z6, z7, e3⟩ := open_spanC f3
    obtain ⟨z8, z9, e4⟩ := open_spanC f4
    simp at e0 e1 e2 e3 e4
    subst e0
    obtain ⟨e1_0, e1_1, e1_2, e1_3⟩ := e1
    subst e1_0 e1_1 e1_2 e1_3
    subst e2
    obtain ⟨e3_0, e3_1⟩ := e3
    subst e3_0 e3_1
    obtain ⟨e4_0, e4_1⟩ := e4
    subst e4_0 e4_1
    exact ⟨⟨z0, r1.g, r1.y, r1.t, r1.w, z5, z6, z7, z8, z9⟩, rfl⟩

set_option maxRecDepth 100000 in
theorem open_cav {r : Reach} {b0 : Nat} {v : Value} {d : DataW H} {p : List MemPlace} (hv : Value.okWide Try.prog w r b0 26 v) (h : DataW.Trod enc Try.prog w base spare held 26 v d p) : ∃ s : Cav, v = cavV s := by
  obtain ⟨cs, rfl, hsz⟩ := okWide_struct Try.underlying26 hv
  obtain ⟨cs⟩ := cs
  obtain ⟨fuel, hf⟩ := h
  have hf' : DataW.trod enc Try.prog w base spare held fuel 26 cs = some (d, p) := by simpa [Value.cells] using hf
  obtain ⟨s, rfl⟩ := open_cavC hf'
  exact ⟨s, rfl⟩

set_option maxRecDepth 100000 in
theorem open_st {r : Reach} {b0 : Nat} {v : Value} {d : DataW H} {p : List MemPlace} (hv : Value.okWide Try.prog w r b0 48 v) (h : DataW.Trod enc Try.prog w base spare held 48 v d p) : ∃ s : St, v = stV s := by
  obtain ⟨cs, rfl, hsz⟩ := okWide_struct Try.underlying48 hv
  obtain ⟨cs⟩ := cs
  obtain ⟨fuel, hf⟩ := h
  have hf' : DataW.trod enc Try.prog w base spare held fuel 48 cs = some (d, p) := by simpa [Value.cells] using hf
  obtain ⟨s, rfl⟩ := open_stC hf'
  exact ⟨s, rfl⟩

set_option maxRecDepth 100000 in
theorem open_pt {r : Reach} {b0 : Nat} {v : Value} {d : DataW H} {p : List MemPlace} (hv : Value.okWide Try.prog w r b0 28 v) (h : DataW.Trod enc Try.prog w base spare held 28 v d p) : ∃ s : Pt, v = ptV s := by
  obtain ⟨cs, rfl, hsz⟩ := okWide_struct Try.underlying28 hv
  obtain ⟨cs⟩ := cs
  obtain ⟨fuel, hf⟩ := h
  have hf' : DataW.trod enc Try.prog w base spare held fuel 28 cs = some (d, p) := by simpa [Value.cells] using hf
  obtain ⟨s, rfl⟩ := open_ptC hf'
  exact ⟨s, rfl⟩

set_option maxRecDepth 100000 in
theorem open_op {r : Reach} {b0 : Nat} {v : Value} {d : DataW H} {p : List MemPlace} (hv : Value.okWide Try.prog w r b0 57 v) (h : DataW.Trod enc Try.prog w base spare held 57 v d p) : ∃ s : Gas.Op, v = opV s := by
  obtain ⟨cs, rfl, hsz⟩ := okWide_struct Try.underlying57 hv
  obtain ⟨cs⟩ := cs
  obtain ⟨fuel, hf⟩ := h
  have hf' : DataW.trod enc Try.prog w base spare held fuel 57 cs = some (d, p) := by simpa [Value.cells] using hf
  obtain ⟨s, rfl⟩ := open_opC hf'
  exact ⟨s, rfl⟩

set_option maxRecDepth 100000 in
theorem open_nums {fuel : Nat} {cs : List Value} {x : DataW H × List MemPlace} (h : DataW.trod enc Try.prog w base spare held fuel 30 cs = some x) :
    ∃ v xs, cs = [v] ∧ IntsAt w v xs := by
  rcases open_slice Try.underlying30 h with ⟨h0, -⟩ | ⟨a, len, cap, m, n, D, Pl, hcs, hb, hl, hm, hmm, hx, hi⟩
  · exact ⟨_, [], h0, none, 0, rfl, by simp, fun h => absurd h (by simp)⟩
  · have hle : len ≤ m := by rw [hmm]; split <;> omega
    obtain ⟨xs, hxl, hxs⟩ := list_of (0 : Int) (P := fun i z => w.cell? (a.add i) = some (.int .i64 z)) len (fun i hil => by
      obtain ⟨cs', hc, ht⟩ := hi i (by omega)
      rw [cells_int, Nat.mul_one] at hc
      obtain ⟨z, rfl, -, -⟩ := DataW.trod_int Try.underlying3 ht
      have := (World.cells?_some hc).2.2 0 (by omega)
      have e : (a.add i).add 0 = a.add i := by simp [Addr.add]
      rw [e] at this
      exact ⟨z, this⟩)
    refine ⟨_, xs, hcs, some a, cap, by rw [hxl], by omega, fun h0 => ?_⟩
    obtain ⟨b, off, spot⟩ := a
    have hs : spot = none := by simpa [Addr.add] using World.cell?_spot (hxs 0 (by omega))
    subst hs
    simp only [add_none] at hxs
    exact ⟨b, off, rfl, World.block_lt_of_cell? w ⟨b, off + 0, none⟩ (hxs 0 (by omega)), fun k hk => hxs k (by omega)⟩
set_option maxRecDepth 100000 in
theorem open_list {r : Reach} {b0 : Nat} {v : Value} {d : DataW H} {p : List MemPlace} (hv : Value.okWide Try.prog w r b0 30 v) (h : DataW.Trod enc Try.prog w base spare held 30 v d p) :
    ∃ l, IntsAt w v l := by
  obtain ⟨a, n, c, rfl⟩ := okWide_slice Try.underlying30 hv
  obtain ⟨fuel, hf⟩ := h
  obtain ⟨v, xs, e, hx⟩ := open_nums hf
  simp [Value.cells] at e
  subst e
  exact ⟨xs, hx⟩

set_option maxRecDepth 100000 in
theorem open_opsC {fuel : Nat} {cs : List Value} {x : DataW H × List MemPlace} (h : DataW.trod enc Try.prog w base spare held fuel 29 cs = some x) :
    ∃ v xs, cs = [v] ∧ OpsAt w v xs := by
  rcases open_slice Try.underlying29 h with ⟨h0, -⟩ | ⟨a, len, cap, m, n, D, Pl, hcs, hb, hl, hm, hmm, hx, hi⟩
  · exact ⟨_, [], h0, none, 0, rfl, by simp, fun h => absurd h (by simp)⟩
  · have hle : len ≤ m := by rw [hmm]; split <;> omega
    obtain ⟨xs, hxl, hxs⟩ := list_of (⟨0, 0, 0, 0, 0, 0, 0, 0, 0, 0⟩ : Gas.Op) (P := fun i d => ∀ j, j < 10 → w.cell? ((a.add (i * 10)).add j) = [Value.int .i64 d.kind, .int .i64 d.lg, .int .i64 d.ly, .int .i64 d.lt, .int .i64 d.lw, .int .i64 d.moles, .int .i64 d.slo, .int .i64 d.shi, .int .i64 d.wlo, .int .i64 d.whi][j]?) len (fun i hil => by
      obtain ⟨cs', hc, ht⟩ := hi i (by omega)
      rw [cells_op] at hc
      obtain ⟨r, rfl⟩ := open_opC ht
      exact ⟨r, (World.cells?_some hc).2.2⟩)
    refine ⟨_, xs, hcs, some a, cap, by rw [hxl], by omega, fun h0 => ?_⟩
    obtain ⟨b, off, spot⟩ := a
    have hs : spot = none := by simpa [Addr.add] using World.cell?_spot (hxs 0 (by omega) 0 (by omega))
    subst hs
    have hz : w.cell? ⟨b, off, none⟩ = some (.int .i64 (xs.getD 0 ⟨0, 0, 0, 0, 0, 0, 0, 0, 0, 0⟩).kind) := by simpa [Addr.add] using hxs 0 (by omega) 0 (by omega)
    refine ⟨b, off, rfl, World.block_lt_of_cell? w ⟨b, off, none⟩ hz, fun k hk => ?_⟩
    have e := fun j hj => hxs k (by omega) j hj
    simp only [add_none] at e
    exact ⟨e 0 (by omega), e 1 (by omega), e 2 (by omega), e 3 (by omega), e 4 (by omega), e 5 (by omega), e 6 (by omega), e 7 (by omega), e 8 (by omega), e 9 (by omega)⟩
set_option maxRecDepth 100000 in
theorem open_ops {r : Reach} {b0 : Nat} {v : Value} {d : DataW H} {p : List MemPlace} (hv : Value.okWide Try.prog w r b0 29 v) (h : DataW.Trod enc Try.prog w base spare held 29 v d p) :
    ∃ l, OpsAt w v l := by
  obtain ⟨a, n, c, rfl⟩ := okWide_slice Try.underlying29 hv
  obtain ⟨fuel, hf⟩ := h
  obtain ⟨v, xs, e, hx⟩ := open_opsC hf
  simp [Value.cells] at e
  subst e
  exact ⟨xs, hx⟩
end
set_option maxRecDepth 100000 in
theorem frOwn : ownKnob Try.prog.godebug = none := by kernel_rfl
set_option maxRecDepth 100000 in
theorem frLaid : laidOutB Try.prog = true := by kernel_rfl
end Go.Proofs.Ytdilgjhdimlbkaa
