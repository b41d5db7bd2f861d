/- Laws and walks: GFrg, SMem. -/
import Derived.ProofKit
import Derived.OpenShut
import Derived.Deep.Slices
import Derived.ChangeOld
import Derived.Test.YthjmdagonfeneaaGreatRows
import Derived.ShutString
import Derived.Below
import Derived.Test.YthjmdagonfeneaaGreatK15
set_option maxRecDepth 100000
set_option maxHeartbeats 16000000
set_option linter.unusedVariables false
set_option linter.unusedSimpArgs false
namespace Go.Proofs.YthjmdagonfeneaaGreat.G
open Go.ChangeShapes Go.WideShapes Go.Deep Go.Sd Gas
theorem list_of {α : Type} (d : α) {P : Nat → α → Prop} : ∀ (n : Nat), (∀ i, i < n → ∃ x, P i x) → ∃ xs : List α, xs.length = n ∧ ∀ i, i < n → P i (xs.getD i d)
 | 0, _ => ⟨[], rfl, fun i h => absurd h (Nat.not_lt_zero i)⟩
 | n + 1, h => by
  obtain ⟨xs, hl, hx⟩ := list_of d n (fun i hi => h i (by omega))
  obtain ⟨x, hp⟩ := h n (by omega)
  refine ⟨xs ++ [x], by simp [hl], fun i hi => ?_⟩
  by_cases e : i < n
  · have := hx i e
    rwa [List.getD_eq_getElem?_getD, List.getElem?_append_left (by omega), ← List.getD_eq_getElem?_getD]
  · obtain rfl : i = n := by omega
    rw [List.getD_eq_getElem?_getD, List.getElem?_append_right (by omega)]
    simpa [hl] using hp
theorem add_none (b off i : Nat) : (⟨b, off, none⟩ : Addr).add i = ⟨b, off + i, none⟩ := by
 unfold Addr.add
 by_cases h : i = 0 <;> simp [h]
theorem cells_int : Tryz.prog.cellsOf 3 = 1 := by kernel_rfl
theorem cells_span : Tryz.prog.cellsOf 23 = 2 := by kernel_rfl
theorem cells_pair : Tryz.prog.cellsOf 29 = 2 := by kernel_rfl
theorem cells_cav : Tryz.prog.cellsOf 31 = 11 := by kernel_rfl
theorem cells_st : Tryz.prog.cellsOf 33 = 8 := by kernel_rfl
theorem cells_pt : Tryz.prog.cellsOf 35 = 4 := by kernel_rfl
section
variable {H : Type} {enc : TypeId × Value → H} {w : World} {base : Nat} {spare : Nat → Bool} {held : Bool}
theorem open_int {n : Nat} {cs : List Value} {x : DataW H × List MemPlace} (h : DataW.trod enc Tryz.prog w base spare held n 3 cs = some x) : ∃ z, cs = [.int .i64 z] := by
 obtain ⟨z, hz, -, -⟩ := DataW.trod_int Tryz.underlying3 h
 exact ⟨z, hz⟩
theorem open_spanC {fuel : Nat} {cs : List Value} {x : DataW H × List MemPlace} (h : DataW.trod enc Tryz.prog w base spare held fuel 23 cs = some x) : ∃ z0 z1, cs = [.int .i64 z0, .int .i64 z1] := by
 obtain ⟨xs, n, -, -, hlen, hxl, hf⟩ := DataW.trod_struct Tryz.underlying23 h
 rw [cells_span] at hlen
 have hx : xs.length = 2 := hxl
 have f0 : DataW.trod enc Tryz.prog w base spare held n 3 ((cs.drop 0).take (Tryz.prog.cellsOf 3)) = xs[0]? := hf 0 _ rfl
 have f1 : DataW.trod enc Tryz.prog w base spare held n 3 ((cs.drop 1).take (Tryz.prog.cellsOf 3)) = xs[1]? := hf 1 _ rfl
 rw [cells_int, List.getElem?_eq_getElem (by omega)] at f0
 rw [cells_int, List.getElem?_eq_getElem (by omega)] at f1
 clear hf
 match cs, hlen, f0, f1 with
 | [c0, c1], _, f0, f1 =>
  obtain ⟨z0, e0⟩ := open_int f0
  obtain ⟨z1, e1⟩ := open_int f1
  simp at e0 e1
  subst e0
  subst e1
  exact ⟨_, _, rfl⟩
theorem open_pairC {fuel : Nat} {cs : List Value} {x : DataW H × List MemPlace} (h : DataW.trod enc Tryz.prog w base spare held fuel 29 cs = some x) : ∃ z0 z1, cs = [.int .i64 z0, .int .i64 z1] := by
 obtain ⟨xs, n, -, -, hlen, hxl, hf⟩ := DataW.trod_array Tryz.underlying29 h
 rw [cells_pair] at hlen
 have hx : xs.length = 2 := hxl
 have f0 : DataW.trod enc Tryz.prog w base spare held n 3 ((cs.drop 0).take (Tryz.prog.cellsOf 3)) = xs[0]? := (by have h0 := hf 0 (by omega); rw [cells_int] at h0 ⊢; exact h0)
 have f1 : DataW.trod enc Tryz.prog w base spare held n 3 ((cs.drop 1).take (Tryz.prog.cellsOf 3)) = xs[1]? := (by have h0 := hf 1 (by omega); rw [cells_int] at h0 ⊢; exact h0)
 rw [cells_int, List.getElem?_eq_getElem (by omega)] at f0
 rw [cells_int, List.getElem?_eq_getElem (by omega)] at f1
 clear hf
 match cs, hlen, f0, f1 with
 | [c0, c1], _, f0, f1 =>
  obtain ⟨z0, e0⟩ := open_int f0
  obtain ⟨z1, e1⟩ := open_int f1
  simp at e0 e1
  subst e0
  subst e1
  exact ⟨_, _, rfl⟩
theorem open_cavC {fuel : Nat} {cs : List Value} {x : DataW H × List MemPlace} (h : DataW.trod enc Tryz.prog w base spare held fuel 31 cs = some x) : ∃ r : Cav, cs = [.int .i64 r.vlo, .int .i64 r.vhi, .int .i64 r.least, .int .i64 r.most, .int .i64 r.f0, .int .i64 r.f1, .int .i64 r.h0, .int .i64 r.h1, .int .i64 r.rock, .int .i64 r.plo, .int .i64 r.phi] := by
 obtain ⟨xs, n, -, -, hlen, hxl, hf⟩ := DataW.trod_struct Tryz.underlying31 h
 rw [cells_cav] at hlen
 have hx : xs.length = 7 := hxl
 have f0 : DataW.trod enc Tryz.prog w base spare held n 23 ((cs.drop 0).take (Tryz.prog.cellsOf 23)) = xs[0]? := hf 0 _ rfl
 have f1 : DataW.trod enc Tryz.prog w base spare held n 3 ((cs.drop 2).take (Tryz.prog.cellsOf 3)) = xs[1]? := hf 1 _ rfl
 have f2 : DataW.trod enc Tryz.prog w base spare held n 3 ((cs.drop 3).take (Tryz.prog.cellsOf 3)) = xs[2]? := hf 2 _ rfl
 have f3 : DataW.trod enc Tryz.prog w base spare held n 29 ((cs.drop 4).take (Tryz.prog.cellsOf 29)) = xs[3]? := hf 3 _ rfl
 have f4 : DataW.trod enc Tryz.prog w base spare held n 29 ((cs.drop 6).take (Tryz.prog.cellsOf 29)) = xs[4]? := hf 4 _ rfl
 have f5 : DataW.trod enc Tryz.prog w base spare held n 3 ((cs.drop 8).take (Tryz.prog.cellsOf 3)) = xs[5]? := hf 5 _ rfl
 have f6 : DataW.trod enc Tryz.prog w base spare held n 23 ((cs.drop 9).take (Tryz.prog.cellsOf 23)) = xs[6]? := hf 6 _ rfl
 rw [cells_span, List.getElem?_eq_getElem (by omega)] at f0
 rw [cells_int, List.getElem?_eq_getElem (by omega)] at f1
 rw [cells_int, List.getElem?_eq_getElem (by omega)] at f2
 rw [cells_pair, List.getElem?_eq_getElem (by omega)] at f3
 rw [cells_pair, List.getElem?_eq_getElem (by omega)] at f4
 rw [cells_int, List.getElem?_eq_getElem (by omega)] at f5
 rw [cells_span, List.getElem?_eq_getElem (by omega)] at f6
 clear hf
 match cs, hlen, f0, f1, f2, f3, f4, f5, f6 with
 | [c0, c1, c2, c3, c4, c5, c6, c7, c8, c9, c10], _, f0, f1, f2, f3, f4, f5, f6 =>
  obtain ⟨z0, z1, e0⟩ := open_spanC f0
  obtain ⟨z2, e1⟩ := open_int f1
  obtain ⟨z3, e2⟩ := open_int f2
  obtain ⟨z4, z5, e3⟩ := open_pairC f3
  obtain ⟨z6, z7, e4⟩ := open_pairC f4
  obtain ⟨z8, e5⟩ := open_int f5
  obtain ⟨z9, z10, e6⟩ := open_spanC f6
  simp at e0 e1 e2 e3 e4 e5 e6
  obtain ⟨e0_0, e0_1⟩ := e0
  subst e0_0 e0_1
  subst e1
  subst e2
  obtain ⟨e3_0, e3_1⟩ := e3
  subst e3_0 e3_1
  obtain ⟨e4_0, e4_1⟩ := e4
  subst e4_0 e4_1
  subst e5
  obtain ⟨e6_0, e6_1⟩ := e6
  subst e6_0 e6_1
  exact ⟨⟨z0, z1, z2, z3, z4, z5, z6, z7, z8, z9, z10⟩, rfl⟩
theorem open_stC {fuel : Nat} {cs : List Value} {x : DataW H × List MemPlace} (h : DataW.trod enc Tryz.prog w base spare held fuel 33 cs = some x) : ∃ r : St, cs = [.int .i64 r.glo, .int .i64 r.ghi, .int .i64 r.ylo, .int .i64 r.yhi, .int .i64 r.tlo, .int .i64 r.thi, .int .i64 r.wlo, .int .i64 r.whi] := by
 obtain ⟨xs, n, -, -, hlen, hxl, hf⟩ := DataW.trod_struct Tryz.underlying33 h
 rw [cells_st] at hlen
 have hx : xs.length = 4 := hxl
 have f0 : DataW.trod enc Tryz.prog w base spare held n 23 ((cs.drop 0).take (Tryz.prog.cellsOf 23)) = xs[0]? := hf 0 _ rfl
 have f1 : DataW.trod enc Tryz.prog w base spare held n 23 ((cs.drop 2).take (Tryz.prog.cellsOf 23)) = xs[1]? := hf 1 _ rfl
 have f2 : DataW.trod enc Tryz.prog w base spare held n 23 ((cs.drop 4).take (Tryz.prog.cellsOf 23)) = xs[2]? := hf 2 _ rfl
 have f3 : DataW.trod enc Tryz.prog w base spare held n 23 ((cs.drop 6).take (Tryz.prog.cellsOf 23)) = xs[3]? := hf 3 _ rfl
 rw [cells_span, List.getElem?_eq_getElem (by omega)] at f0
 rw [cells_span, List.getElem?_eq_getElem (by omega)] at f1
 rw [cells_span, List.getElem?_eq_getElem (by omega)] at f2
 rw [cells_span, List.getElem?_eq_getElem (by omega)] at f3
 clear hf
 match cs, hlen, f0, f1, f2, f3 with
 | [c0, c1, c2, c3, c4, c5, c6, c7], _, f0, f1, f2, f3 =>
  obtain ⟨z0, z1, e0⟩ := open_spanC f0
  obtain ⟨z2, z3, e1⟩ := open_spanC f1
  obtain ⟨z4, z5, e2⟩ := open_spanC f2
  obtain ⟨z6, z7, e3⟩ := open_spanC f3
  simp at e0 e1 e2 e3
  obtain ⟨e0_0, e0_1⟩ := e0
  subst e0_0 e0_1
  obtain ⟨e1_0, e1_1⟩ := e1
  subst e1_0 e1_1
  obtain ⟨e2_0, e2_1⟩ := e2
  subst e2_0 e2_1
  obtain ⟨e3_0, e3_1⟩ := e3
  subst e3_0 e3_1
  exact ⟨⟨z0, z1, z2, z3, z4, z5, z6, z7⟩, rfl⟩
theorem open_ptC {fuel : Nat} {cs : List Value} {x : DataW H × List MemPlace} (h : DataW.trod enc Tryz.prog w base spare held fuel 35 cs = some x) : ∃ r : Pt, cs = [.int .i64 r.g, .int .i64 r.y, .int .i64 r.t, .int .i64 r.w] := by
 obtain ⟨xs, n, -, -, hlen, hxl, hf⟩ := DataW.trod_struct Tryz.underlying35 h
 rw [cells_pt] at hlen
 have hx : xs.length = 4 := hxl
 have f0 : DataW.trod enc Tryz.prog w base spare held n 3 ((cs.drop 0).take (Tryz.prog.cellsOf 3)) = xs[0]? := hf 0 _ rfl
 have f1 : DataW.trod enc Tryz.prog w base spare held n 3 ((cs.drop 1).take (Tryz.prog.cellsOf 3)) = xs[1]? := hf 1 _ rfl
 have f2 : DataW.trod enc Tryz.prog w base spare held n 3 ((cs.drop 2).take (Tryz.prog.cellsOf 3)) = xs[2]? := hf 2 _ rfl
 have f3 : DataW.trod enc Tryz.prog w base spare held n 3 ((cs.drop 3).take (Tryz.prog.cellsOf 3)) = xs[3]? := hf 3 _ rfl
 rw [cells_int, List.getElem?_eq_getElem (by omega)] at f0
 rw [cells_int, List.getElem?_eq_getElem (by omega)] at f1
 rw [cells_int, List.getElem?_eq_getElem (by omega)] at f2
 rw [cells_int, List.getElem?_eq_getElem (by omega)] at f3
 clear hf
 match cs, hlen, f0, f1, f2, f3 with
 | [c0, c1, c2, c3], _, f0, f1, f2, f3 =>
  obtain ⟨z0, e0⟩ := open_int f0
  obtain ⟨z1, e1⟩ := open_int f1
  obtain ⟨z2, e2⟩ := open_int f2
  obtain ⟨z3, e3⟩ := open_int f3
  simp at e0 e1 e2 e3
  subst e0
  subst e1
  subst e2
  subst e3
  exact ⟨⟨z0, z1, z2, z3⟩, rfl⟩
theorem open_cav {r : Reach} {b0 : Nat} {v : Value} {d : DataW H} {p : List MemPlace} (hv : Value.okWide Tryz.prog w r b0 31 v) (h : DataW.Trod enc Tryz.prog w base spare held 31 v d p) : ∃ s : Cav, v = cavV s := by
 obtain ⟨cs, rfl, hsz⟩ := okWide_struct Tryz.underlying31 hv
 obtain ⟨cs⟩ := cs
 obtain ⟨fuel, hf⟩ := h
 have hf' : DataW.trod enc Tryz.prog w base spare held fuel 31 cs = some (d, p) := by simpa [Value.cells] using hf
 obtain ⟨s, rfl⟩ := open_cavC hf'
 exact ⟨s, rfl⟩
theorem open_st {r : Reach} {b0 : Nat} {v : Value} {d : DataW H} {p : List MemPlace} (hv : Value.okWide Tryz.prog w r b0 33 v) (h : DataW.Trod enc Tryz.prog w base spare held 33 v d p) : ∃ s : St, v = stV s := by
 obtain ⟨cs, rfl, hsz⟩ := okWide_struct Tryz.underlying33 hv
 obtain ⟨cs⟩ := cs
 obtain ⟨fuel, hf⟩ := h
 have hf' : DataW.trod enc Tryz.prog w base spare held fuel 33 cs = some (d, p) := by simpa [Value.cells] using hf
 obtain ⟨s, rfl⟩ := open_stC hf'
 exact ⟨s, rfl⟩
theorem open_pt {r : Reach} {b0 : Nat} {v : Value} {d : DataW H} {p : List MemPlace} (hv : Value.okWide Tryz.prog w r b0 35 v) (h : DataW.Trod enc Tryz.prog w base spare held 35 v d p) : ∃ s : Pt, v = ptV s := by
 obtain ⟨cs, rfl, hsz⟩ := okWide_struct Tryz.underlying35 hv
 obtain ⟨cs⟩ := cs
 obtain ⟨fuel, hf⟩ := h
 have hf' : DataW.trod enc Tryz.prog w base spare held fuel 35 cs = some (d, p) := by simpa [Value.cells] using hf
 obtain ⟨s, rfl⟩ := open_ptC hf'
 exact ⟨s, rfl⟩
theorem open_nums {fuel : Nat} {cs : List Value} {x : DataW H × List MemPlace} (h : DataW.trod enc Tryz.prog w base spare held fuel 28 cs = some x) :
    ∃ v xs, cs = [v] ∧ IntsAt w v xs := by
 rcases open_slice Tryz.underlying28 h with ⟨h0, -⟩ | ⟨a, len, cap, m, n, D, Pl, hcs, hb, hl, hm, hmm, hx, hi⟩
 · exact ⟨_, [], h0, none, 0, rfl, by simp, fun h => absurd h (by simp)⟩
 · have hle : len ≤ m := by rw [hmm]; split <;> omega
   obtain ⟨xs, hxl, hxs⟩ := list_of (0 : Int) (P := fun i z => w.cell? (a.add i) = some (.int .i64 z)) len (fun i hil => by
    obtain ⟨cs', hc, ht⟩ := hi i (by omega)
    rw [cells_int, Nat.mul_one] at hc
    obtain ⟨z, rfl, -, -⟩ := DataW.trod_int Tryz.underlying3 ht
    have := (World.cells?_some hc).2.2 0 (by omega)
    have e : (a.add i).add 0 = a.add i := by simp [Addr.add]
    rw [e] at this
    exact ⟨z, this⟩)
   refine ⟨_, xs, hcs, some a, cap, by rw [hxl], by omega, fun h0 => ?_⟩
   obtain ⟨b, off, spot⟩ := a
   have hs : spot = none := by simpa [Addr.add] using World.cell?_spot (hxs 0 (by omega))
   subst hs
   simp only [add_none] at hxs
   exact ⟨b, off, rfl, World.block_lt_of_cell? w ⟨b, off + 0, none⟩ (hxs 0 (by omega)), fun k hk => hxs k (by omega)⟩
theorem open_list {r : Reach} {b0 : Nat} {v : Value} {d : DataW H} {p : List MemPlace} (hv : Value.okWide Tryz.prog w r b0 28 v) (h : DataW.Trod enc Tryz.prog w base spare held 28 v d p) :
    ∃ l, IntsAt w v l := by
 obtain ⟨a, n, c, rfl⟩ := okWide_slice Tryz.underlying28 hv
 obtain ⟨fuel, hf⟩ := h
 obtain ⟨v, xs, e, hx⟩ := open_nums hf
 simp [Value.cells] at e
 subst e
 exact ⟨xs, hx⟩
end
theorem frOwn : ownKnob Tryz.prog.godebug = none := by kernel_rfl
theorem frLaid : laidOutB Tryz.prog = true := by kernel_rfl
end Go.Proofs.YthjmdagonfeneaaGreat.G
set_option linter.unusedVariables false
set_option linter.unusedSimpArgs false
namespace Sea
structure Row where
 fill : Int
 inn : Int
 out : Int
structure Day where
 buy : Int
 sell : Int
 offer : Int
 take : Int
 glo : Int
 ghi : Int
 nlo : Int
 nhi : Int
structure S where
 space : Int
 start : Int
 elo : Int
 ehi : Int
 rows : List Row
 days : List Day
def rowAt (l : List Row) (k : Nat) : Row := l.getD k ⟨0, 0, 0⟩
def dayAt (l : List Day) (k : Nat) : Day := l.getD k ⟨0, 0, 0, 0, 0, 0, 0, 0⟩
def at0 (l : List Int) (k : Nat) : Int := l.getD k 0
def never : Int := 1000000000000000
def inB (x low high : Int) : Bool := decide (low ≤ x) && decide (x ≤ high)
def spanB (lo hi low high : Int) : Bool := decide (low ≤ lo) && decide (lo ≤ hi) && decide (hi ≤ high)
def rowB (rows : List Row) (i : Nat) : Bool :=
 inB (rowAt rows i).fill 0 100 && inB (rowAt rows i).inn 0 100 && inB (rowAt rows i).out 0 100 &&
  !(decide (i = 0) && decide ((rowAt rows i).fill ≠ 0)) && !(decide (0 < i) && decide ((rowAt rows i).fill ≤ (rowAt rows (i - 1)).fill))
def rowsB (rows : List Row) : Bool := (List.range rows.length).all (rowB rows)
def dayB (space : Int) (d : Day) : Bool :=
 inB d.buy 0 1000000 && inB d.sell 0 1000000 && inB d.offer 0 100 && inB d.take 0 100 && spanB d.glo d.ghi 0 space && spanB d.nlo d.nhi (-100) 100
def daysB (s : S) : Bool := (List.range s.days.length).all fun i => dayB s.space (dayAt s.days i)
def headB (s : S) : Bool :=
 inB s.space 1 100 && inB s.start 0 s.space && spanB s.elo s.ehi 0 s.space && inB s.rows.length 1 8 && inB s.days.length 1 20
def validB (s : S) : Bool := headB s && rowsB s.rows && daysB s
structure Ok (s : S) : Prop where
 space : 1 ≤ s.space ∧ s.space ≤ 100
 start : 0 ≤ s.start ∧ s.start ≤ s.space
 fin : 0 ≤ s.elo ∧ s.elo ≤ s.ehi ∧ s.ehi ≤ s.space
 nrows : 1 ≤ s.rows.length ∧ s.rows.length ≤ 8
 ndays : 1 ≤ s.days.length ∧ s.days.length ≤ 20
 row0 : (rowAt s.rows 0).fill = 0
 rows : ∀ k, k < s.rows.length → 0 ≤ (rowAt s.rows k).fill ∧ (rowAt s.rows k).fill ≤ 100 ∧ 0 ≤ (rowAt s.rows k).inn ∧ (rowAt s.rows k).inn ≤ 100 ∧ 0 ≤ (rowAt s.rows k).out ∧ (rowAt s.rows k).out ≤ 100
 days : ∀ k, k < s.days.length → 0 ≤ (dayAt s.days k).buy ∧ (dayAt s.days k).buy ≤ 1000000 ∧ 0 ≤ (dayAt s.days k).sell ∧ (dayAt s.days k).sell ≤ 1000000 ∧
  0 ≤ (dayAt s.days k).offer ∧ (dayAt s.days k).offer ≤ 100 ∧ 0 ≤ (dayAt s.days k).take ∧ (dayAt s.days k).take ≤ 100 ∧
  0 ≤ (dayAt s.days k).glo ∧ (dayAt s.days k).glo ≤ (dayAt s.days k).ghi ∧ (dayAt s.days k).ghi ≤ s.space ∧
  -100 ≤ (dayAt s.days k).nlo ∧ (dayAt s.days k).nlo ≤ (dayAt s.days k).nhi ∧ (dayAt s.days k).nhi ≤ 100
theorem inB_iff {x l h : Int} : inB x l h = true ↔ l ≤ x ∧ x ≤ h := by simp [inB]
theorem spanB_iff {a b l h : Int} : spanB a b l h = true ↔ l ≤ a ∧ a ≤ b ∧ b ≤ h := by simp [spanB, and_assoc]
theorem ok_of_valid {s : S} (h : validB s = true) : Ok s := by
 simp only [validB, headB, rowsB, daysB, Bool.and_eq_true, inB_iff, spanB_iff, List.all_eq_true, List.mem_range] at h
 obtain ⟨⟨⟨⟨⟨⟨h1, h2⟩, h3⟩, h4⟩, h5⟩, hr⟩, hd⟩ := h
 refine ⟨h1, h2, h3, by omega, by omega, ?_, fun k hk => ?_, fun k hk => ?_⟩
 · have := hr 0 (by omega)
   simp only [rowB, Bool.and_eq_true, inB_iff] at this
   have h6 := this.1.2
   simp at h6
   exact h6
 · have := hr k hk
   simp only [rowB, Bool.and_eq_true, inB_iff] at this
   omega
 · have := hd k hk
   simp only [dayB, Bool.and_eq_true, inB_iff, spanB_iff] at this
   omega
def limTo (rows : List Row) (fill : Int) : Nat → Row
 | 0 => rowAt rows 0
 | k + 1 => if (rowAt rows k).fill ≤ fill then rowAt rows k else limTo rows fill k
def S.lim (s : S) (fill : Int) : Row := limTo s.rows fill s.rows.length
def S.rule (s : S) (day : Nat) (fill nom x : Int) : Int :=
 if (dayAt s.days day).offer < x then 2
 else if (dayAt s.days day).take < -x then 3
 else if (s.lim fill).inn < nom + x then 4
 else if (s.lim fill).out < -nom - x then 5
 else if inB (fill + nom + x) (dayAt s.days day).glo (dayAt s.days day).ghi = false then 6
 else if (day : Int) = (s.days.length : Int) - 1 ∧ inB (fill + nom + x) s.elo s.ehi = false then 7
 else 1
def S.cost (s : S) (day : Nat) (x : Int) : Int := if x < 0 then x * (dayAt s.days day).sell else x * (dayAt s.days day).buy
def leastTo (s : S) (day : Nat) (fill nom : Int) (next : List Int) : Nat → Int × Int
 | 0 => (never, 0)
 | k + 1 =>
  let b := leastTo s day fill nom next k
  let x := (k : Int) - (dayAt s.days day).take
  if s.rule day fill nom x = 1 ∧ at0 next (fill + nom + x).toNat < never ∧ s.cost day x + at0 next (fill + nom + x).toNat < b.1
  then (s.cost day x + at0 next (fill + nom + x).toNat, x) else b
def S.least (s : S) (day : Nat) (fill nom : Int) (next : List Int) : Int × Int :=
 leastTo s day fill nom next ((dayAt s.days day).take + (dayAt s.days day).offer + 1).toNat
def lstAt (l : List (List Int)) (k : Nat) : List Int := l.getD k []
def before : List Int → List Int → Bool
 | a :: ar, b :: br => if a = b then before ar br else decide (a < b)
 | _, _ => false
def S.lastAt (s : S) (f : Int) : Int := if inB f s.elo s.ehi then 0 else never
def S.last (s : S) : List Int := (List.range (s.space + 1).toNat).map fun (f : Nat) => s.lastAt (f : Int)
def S.nomsB (s : S) (l : List Int) : Bool := decide (l.length = s.days.length) && (List.range l.length).all fun t => inB (at0 l t) (dayAt s.days t).nlo (dayAt s.days t).nhi
def S.planB (s : S) (l : List Int) : Bool := (l.all fun n => inB n (-100) 100) && decide (l.length = s.days.length)
end Sea
namespace Sea
def tbl (n : Nat) (v : Nat → List Int) (j m : Nat) : List (List Int) :=
 (List.range (n + 1)).map fun t => if n < t + j then v (n - t) else if t + j = n then (v j).take m else []
theorem tbl_length (n : Nat) (v : Nat → List Int) (j m : Nat) : (tbl n v j m).length = n + 1 := by simp [tbl]
theorem tbl_at (n : Nat) (v : Nat → List Int) (j m t : Nat) (h : t ≤ n) : lstAt (tbl n v j m) t = if n < t + j then v (n - t) else if t + j = n then (v j).take m else [] := by
 unfold lstAt tbl
 simp [show t < n + 1 by omega]
theorem lists_ext {a b : List (List Int)} (hl : a.length = b.length) (h : ∀ t, t < a.length → lstAt a t = lstAt b t) : a = b := by
 apply List.ext_getElem hl
 intro i h1 h2
 have := h i h1
 unfold lstAt at this
 simpa [h1, h2] using this
theorem tbl_start (n : Nat) (v : Nat → List Int) : tbl n v 0 0 = List.replicate (n + 1) [] := by
 apply lists_ext (by simp [tbl])
 intro t ht
 rw [tbl_length] at ht
 rw [tbl_at n v 0 0 t (by omega), if_neg (by omega)]
 have : lstAt (List.replicate (n + 1) ([] : List Int)) t = [] := by unfold lstAt; simp [ht]
 rw [this]; split <;> simp
theorem tbl_more (n : Nat) (v : Nat → List Int) (j m : Nat) (y : Int) (hj : j ≤ n) (hm : (v j)[m]? = some y) :
    (tbl n v j m).set (n - j) (lstAt (tbl n v j m) (n - j) ++ [y]) = tbl n v j (m + 1) := by
 apply lists_ext (by simp [tbl])
 intro t ht
 rw [List.length_set, tbl_length] at ht
 have hs : lstAt ((tbl n v j m).set (n - j) (lstAt (tbl n v j m) (n - j) ++ [y])) t = if t = n - j then lstAt (tbl n v j m) (n - j) ++ [y] else lstAt (tbl n v j m) t := by
  unfold lstAt
  by_cases h : t = n - j
  · subst h; simp [tbl_length, show n - j < n + 1 by omega]
  · simp [h, List.getElem?_set, Ne.symm h]
 rw [hs, tbl_at n v j (m + 1) t (by omega)]
 by_cases h : t = n - j
 · rw [if_pos h, tbl_at n v j m (n - j) (by omega), if_neg (by omega), if_pos (by omega), if_neg (by omega), if_pos (by omega), List.take_add_one, hm]
   rfl
 · rw [if_neg h, tbl_at n v j m t (by omega)]
   by_cases h1 : n < t + j
   · rw [if_pos h1, if_pos h1]
   · rw [if_neg h1, if_neg h1, if_neg (by omega), if_neg (by omega)]
theorem tbl_next (n : Nat) (v : Nat → List Int) (j m : Nat) (hj : j ≤ n) (hm : (v j).length ≤ m) : tbl n v j m = tbl n v (j + 1) 0 := by
 apply lists_ext (by simp [tbl])
 intro t ht
 rw [tbl_length] at ht
 rw [tbl_at n v j m t (by omega), tbl_at n v (j + 1) 0 t (by omega)]
 by_cases h1 : n < t + j
 · rw [if_pos h1, if_pos (by omega)]
 · rw [if_neg h1]
   by_cases h2 : t + j = n
   · rw [if_pos h2, if_pos (by omega), List.take_of_length_le hm, show n - t = j by omega]
   · rw [if_neg h2, if_neg (by omega)]; split <;> simp
def whole (n : Nat) (v : Nat → List Int) : List (List Int) := (List.range (n + 1)).map fun t => v (n - t)
theorem tbl_whole (n : Nat) (v : Nat → List Int) : tbl n v (n + 1) 0 = whole n v := by
 unfold tbl whole
 apply List.map_congr_left
 intro t ht
 rw [if_pos (by omega)]
def S.vals (s : S) (noms : List Int) : Nat → List Int
 | 0 => s.last
 | j + 1 => (List.range (s.space + 1).toNat).map fun (f : Nat) => (s.least (s.days.length - 1 - j) f (at0 noms (s.days.length - 1 - j)) (S.vals s noms j)).1
def S.proof (s : S) (noms : List Int) : List (List Int) := whole s.days.length (s.vals noms)
theorem S.vals_length (s : S) (noms : List Int) (j : Nat) : (s.vals noms j).length = (s.space + 1).toNat := by cases j <;> simp [S.vals, S.last]
end Sea
namespace Go.Proofs.YthjmdagonfeneaaGreat.S
open Go.RowKit
def IntsAt (w : World) (v : Value) (xs : List Int) : Prop :=
 ∃ a cap, v = .slice a xs.length cap ∧ xs.length ≤ maxLen ∧
  (0 < xs.length → ∃ b off, a = some ⟨b, off, none⟩ ∧ b < w.heap.size ∧ ∀ k, k < xs.length → w.cell? ⟨b, off + k, none⟩ = some (.int .i64 (Sea.at0 xs k)))
def RowCells (w : World) (b o : Nat) (r : Sea.Row) : Prop :=
 w.cell? ⟨b, o, none⟩ = some (.int .i64 r.fill) ∧ w.cell? ⟨b, o + 1, none⟩ = some (.int .i64 r.inn) ∧ w.cell? ⟨b, o + 2, none⟩ = some (.int .i64 r.out)
def DayCells (w : World) (b o : Nat) (d : Sea.Day) : Prop :=
 w.cell? ⟨b, o, none⟩ = some (.int .i64 d.buy) ∧ w.cell? ⟨b, o + 1, none⟩ = some (.int .i64 d.sell) ∧ w.cell? ⟨b, o + 2, none⟩ = some (.int .i64 d.offer) ∧
 w.cell? ⟨b, o + 3, none⟩ = some (.int .i64 d.take) ∧ w.cell? ⟨b, o + 4, none⟩ = some (.int .i64 d.glo) ∧ w.cell? ⟨b, o + 5, none⟩ = some (.int .i64 d.ghi) ∧
 w.cell? ⟨b, o + 6, none⟩ = some (.int .i64 d.nlo) ∧ w.cell? ⟨b, o + 7, none⟩ = some (.int .i64 d.nhi)
def RowsAt (w : World) (v : Value) (xs : List Sea.Row) : Prop :=
 ∃ a cap, v = .slice a xs.length cap ∧ xs.length ≤ maxLen ∧
  (0 < xs.length → ∃ b off, a = some ⟨b, off, none⟩ ∧ b < w.heap.size ∧ ∀ k, k < xs.length → RowCells w b (off + k * 3) (Sea.rowAt xs k))
def DaysAt (w : World) (v : Value) (xs : List Sea.Day) : Prop :=
 ∃ a cap, v = .slice a xs.length cap ∧ xs.length ≤ maxLen ∧
  (0 < xs.length → ∃ b off, a = some ⟨b, off, none⟩ ∧ b < w.heap.size ∧ ∀ k, k < xs.length → DayCells w b (off + k * 8) (Sea.dayAt xs k))
def SeasonAt (w : World) (v : Value) (s : Sea.S) : Prop :=
 ∃ rv dv, v = .agg #[.int .i64 s.space, .int .i64 s.start, .int .i64 s.elo, .int .i64 s.ehi, rv, dv] ∧ RowsAt w rv s.rows ∧ DaysAt w dv s.days
abbrev rowV (r : Sea.Row) : Value := .agg #[.int .i64 r.fill, .int .i64 r.inn, .int .i64 r.out]
abbrev sBox (s : Sea.S) (rv dv : Value) : Obj := .cells #[.int .i64 s.space, .int .i64 s.start, .int .i64 s.elo, .int .i64 s.ehi, rv, dv] 27
theorem box_season {w W : World} {s : Sea.S} {rv dv : Value} (h : w.alloc (sBox s rv dv) = W) :
    w.heap.size < W.heap.size ∧ Below w.heap.size w W ∧
    W.cell? ⟨w.heap.size, 0, none⟩ = some (.int .i64 s.space) ∧ W.cell? ⟨w.heap.size, 1, none⟩ = some (.int .i64 s.start) ∧
    W.cell? ⟨w.heap.size, 2, none⟩ = some (.int .i64 s.elo) ∧ W.cell? ⟨w.heap.size, 3, none⟩ = some (.int .i64 s.ehi) ∧
    W.cell? ⟨w.heap.size, 4, none⟩ = some rv ∧ W.cell? ⟨w.heap.size, 5, none⟩ = some dv := by
 subst h
 refine ⟨by simp, (Below.refl _ _).alloc (Nat.le_refl _) _, ?_, ?_, ?_, ?_, ?_, ?_⟩ <;> simp [sBox]
/-! What stays -/
theorem kept_cell {w w' : World} (hb : Below w.heap.size w w') {b o : Nat} {v : Value} (h : w.cell? ⟨b, o, none⟩ = some v) : w'.cell? ⟨b, o, none⟩ = some v :=
 (hb.cell (p := ⟨b, o, none⟩) (World.block_lt_of_cell? w ⟨b, o, none⟩ h)).trans h
theorem RowCells.mono {w w' : World} {b o : Nat} {r : Sea.Row} (h : RowCells w b o r) (hb : Below w.heap.size w w') : RowCells w' b o r :=
 ⟨kept_cell hb h.1, kept_cell hb h.2.1, kept_cell hb h.2.2⟩
theorem DayCells.mono {w w' : World} {b o : Nat} {r : Sea.Day} (h : DayCells w b o r) (hb : Below w.heap.size w w') : DayCells w' b o r :=
 ⟨kept_cell hb h.1, kept_cell hb h.2.1, kept_cell hb h.2.2.1, kept_cell hb h.2.2.2.1, kept_cell hb h.2.2.2.2.1, kept_cell hb h.2.2.2.2.2.1, kept_cell hb h.2.2.2.2.2.2.1, kept_cell hb h.2.2.2.2.2.2.2⟩
theorem IntsAt.mono {w w' : World} {v : Value} {xs : List Int} (h : IntsAt w v xs) (hb : Below w.heap.size w w') : IntsAt w' v xs := by
 obtain ⟨a, cap, rfl, hm, hc⟩ := h
 refine ⟨a, cap, rfl, hm, fun h0 => ?_⟩
 obtain ⟨b, off, rfl, hlt, hk⟩ := hc h0
 exact ⟨b, off, rfl, Nat.lt_of_lt_of_le hlt hb.size, fun k hk' => kept_cell hb (hk k hk')⟩
theorem RowsAt.mono {w w' : World} {v : Value} {xs : List Sea.Row} (h : RowsAt w v xs) (hb : Below w.heap.size w w') : RowsAt w' v xs := by
 obtain ⟨a, cap, rfl, hm, hc⟩ := h
 refine ⟨a, cap, rfl, hm, fun h0 => ?_⟩
 obtain ⟨b, off, rfl, hlt, hk⟩ := hc h0
 exact ⟨b, off, rfl, Nat.lt_of_lt_of_le hlt hb.size, fun k hk' => (hk k hk').mono hb⟩
theorem DaysAt.mono {w w' : World} {v : Value} {xs : List Sea.Day} (h : DaysAt w v xs) (hb : Below w.heap.size w w') : DaysAt w' v xs := by
 obtain ⟨a, cap, rfl, hm, hc⟩ := h
 refine ⟨a, cap, rfl, hm, fun h0 => ?_⟩
 obtain ⟨b, off, rfl, hlt, hk⟩ := hc h0
 exact ⟨b, off, rfl, Nat.lt_of_lt_of_le hlt hb.size, fun k hk' => (hk k hk').mono hb⟩
theorem SeasonAt.mono {w w' : World} {v : Value} {s : Sea.S} (h : SeasonAt w v s) (hb : Below w.heap.size w w') : SeasonAt w' v s := by
 obtain ⟨rv, dv, rfl, hr, hd⟩ := h
 exact ⟨rv, dv, rfl, hr.mono hb, hd.mono hb⟩
end Go.Proofs.YthjmdagonfeneaaGreat.S
