/- Laws and walks: SFrame, LLkm, LMem, LIdx, LChk, LKee, LOwn. -/
import Derived.WalkSpells
import Derived.WalkLawsBesides
import Derived.RegionTactic
import Derived.Test.YtpcamocnlnlgiaaGreatK04
set_option maxRecDepth 100000
set_option maxHeartbeats 16000000
set_option linter.unusedVariables false
set_option linter.unusedSimpArgs false
namespace Go.Proofs.YtpcamocnlnlgiaaGreat.S
open Go.ChangeShapes Go.WideShapes Go.Deep
theorem list_of {α : Type} (d : α) {P : Nat → α → Prop} : ∀ (n : Nat), (∀ i, i < n → ∃ x, P i x) → ∃ xs : List α, xs.length = n ∧ ∀ i, i < n → P i (xs.getD i d)
 | 0, _ => ⟨[], rfl, fun i h => absurd h (Nat.not_lt_zero i)⟩
 | n + 1, h => by
  obtain ⟨xs, hl, hx⟩ := list_of d n (fun i hi => h i (by omega))
  obtain ⟨x, hp⟩ := h n (by omega)
  refine ⟨xs ++ [x], by simp [hl], fun i hi => ?_⟩
  by_cases e : i < n
  · have := hx i e
    rwa [List.getD_eq_getElem?_getD, List.getElem?_append_left (by omega), ← List.getD_eq_getElem?_getD]
  · obtain rfl : i = n := by omega
    rw [List.getD_eq_getElem?_getD, List.getElem?_append_right (by omega)]
    simpa [hl] using hp
theorem add_none (b off i : Nat) : (⟨b, off, none⟩ : Addr).add i = ⟨b, off + i, none⟩ := by
 unfold Addr.add
 by_cases h : i = 0 <;> simp [h]
theorem cells_int : Tryz.prog.cellsOf 3 = 1 := by kernel_rfl
theorem cells_span : Tryz.prog.cellsOf 23 = 2 := by kernel_rfl
theorem cells_row : Tryz.prog.cellsOf 37 = 3 := by kernel_rfl
theorem cells_day : Tryz.prog.cellsOf 39 = 8 := by kernel_rfl
theorem cells_season : Tryz.prog.cellsOf 30 = 6 := by kernel_rfl
theorem cells_rows : Tryz.prog.cellsOf 27 = 1 := by kernel_rfl
theorem cells_days : Tryz.prog.cellsOf 28 = 1 := by kernel_rfl
section
variable {H : Type} {enc : TypeId × Value → H} {w : World} {base : Nat} {spare : Nat → Bool} {held : Bool}
theorem open_i {n : Nat} {cs : List Value} {l : List (DataW H × List MemPlace)} {i : Nat} (h : DataW.trod enc Tryz.prog w base spare held n 3 cs = l[i]?) (hi : i < l.length) : ∃ z, cs = [.int .i64 z] := by
 rw [List.getElem?_eq_getElem hi] at h
 obtain ⟨z, hz, -, -⟩ := DataW.trod_int Tryz.underlying3 h
 exact ⟨z, hz⟩
theorem open_span {n : Nat} {cs : List Value} {l : List (DataW H × List MemPlace)} {i : Nat} (h : DataW.trod enc Tryz.prog w base spare held n 23 cs = l[i]?) (hi : i < l.length) : ∃ a b, cs = [.int .i64 a, .int .i64 b] := by
 rw [List.getElem?_eq_getElem hi] at h
 obtain ⟨xs, n, -, -, hlen, hxl, hf⟩ := DataW.trod_struct Tryz.underlying23 h
 rw [cells_span] at hlen
 have hx : xs.length = 2 := hxl
 have f0 : DataW.trod enc Tryz.prog w base spare held n 3 ((cs.drop 0).take (Tryz.prog.cellsOf 3)) = xs[0]? := hf 0 _ rfl
 have f1 : DataW.trod enc Tryz.prog w base spare held n 3 ((cs.drop 1).take (Tryz.prog.cellsOf 3)) = xs[1]? := hf 1 _ rfl
 rw [cells_int] at f0 f1
 clear hf
 match cs, hlen, f0, f1 with
 | [c0, c1], _, f0, f1 =>
  obtain ⟨z0, e0⟩ := open_i f0 (by omega)
  obtain ⟨z1, e1⟩ := open_i f1 (by omega)
  simp at e0 e1
  subst e0 e1
  exact ⟨_, _, rfl⟩
theorem open_row {fuel : Nat} {cs : List Value} {x : DataW H × List MemPlace} (h : DataW.trod enc Tryz.prog w base spare held fuel 37 cs = some x) : ∃ r : Sea.Row, cs = [.int .i64 r.fill, .int .i64 r.inn, .int .i64 r.out] := by
 obtain ⟨xs, n, -, -, hlen, hxl, hf⟩ := DataW.trod_struct Tryz.underlying37 h
 rw [cells_row] at hlen
 have hx : xs.length = 3 := hxl
 have f0 : DataW.trod enc Tryz.prog w base spare held n 3 ((cs.drop 0).take (Tryz.prog.cellsOf 3)) = xs[0]? := hf 0 _ rfl
 have f1 : DataW.trod enc Tryz.prog w base spare held n 3 ((cs.drop 1).take (Tryz.prog.cellsOf 3)) = xs[1]? := hf 1 _ rfl
 have f2 : DataW.trod enc Tryz.prog w base spare held n 3 ((cs.drop 2).take (Tryz.prog.cellsOf 3)) = xs[2]? := hf 2 _ rfl
 rw [cells_int] at f0 f1 f2
 clear hf
 match cs, hlen, f0, f1, f2 with
 | [c0, c1, c2], _, f0, f1, f2 =>
  obtain ⟨z0, e0⟩ := open_i f0 (by omega)
  obtain ⟨z1, e1⟩ := open_i f1 (by omega)
  obtain ⟨z2, e2⟩ := open_i f2 (by omega)
  simp at e0 e1 e2
  subst e0 e1 e2
  exact ⟨⟨_, _, _⟩, rfl⟩
theorem open_day {fuel : Nat} {cs : List Value} {x : DataW H × List MemPlace} (h : DataW.trod enc Tryz.prog w base spare held fuel 39 cs = some x) :
    ∃ d : Sea.Day, cs = [.int .i64 d.buy, .int .i64 d.sell, .int .i64 d.offer, .int .i64 d.take, .int .i64 d.glo, .int .i64 d.ghi, .int .i64 d.nlo, .int .i64 d.nhi] := by
 obtain ⟨xs, n, -, -, hlen, hxl, hf⟩ := DataW.trod_struct Tryz.underlying39 h
 rw [cells_day] at hlen
 have hx : xs.length = 6 := hxl
 have f0 : DataW.trod enc Tryz.prog w base spare held n 3 ((cs.drop 0).take (Tryz.prog.cellsOf 3)) = xs[0]? := hf 0 _ rfl
 have f1 : DataW.trod enc Tryz.prog w base spare held n 3 ((cs.drop 1).take (Tryz.prog.cellsOf 3)) = xs[1]? := hf 1 _ rfl
 have f2 : DataW.trod enc Tryz.prog w base spare held n 3 ((cs.drop 2).take (Tryz.prog.cellsOf 3)) = xs[2]? := hf 2 _ rfl
 have f3 : DataW.trod enc Tryz.prog w base spare held n 3 ((cs.drop 3).take (Tryz.prog.cellsOf 3)) = xs[3]? := hf 3 _ rfl
 have f4 : DataW.trod enc Tryz.prog w base spare held n 23 ((cs.drop 4).take (Tryz.prog.cellsOf 23)) = xs[4]? := hf 4 _ rfl
 have f5 : DataW.trod enc Tryz.prog w base spare held n 23 ((cs.drop 6).take (Tryz.prog.cellsOf 23)) = xs[5]? := hf 5 _ rfl
 rw [cells_int] at f0 f1 f2 f3
 rw [cells_span] at f4 f5
 clear hf
 match cs, hlen, f0, f1, f2, f3, f4, f5 with
 | [c0, c1, c2, c3, c4, c5, c6, c7], _, f0, f1, f2, f3, f4, f5 =>
  obtain ⟨z0, e0⟩ := open_i f0 (by omega)
  obtain ⟨z1, e1⟩ := open_i f1 (by omega)
  obtain ⟨z2, e2⟩ := open_i f2 (by omega)
  obtain ⟨z3, e3⟩ := open_i f3 (by omega)
  obtain ⟨z4, z5, e4⟩ := open_span f4 (by omega)
  obtain ⟨z6, z7, e5⟩ := open_span f5 (by omega)
  simp at e0 e1 e2 e3 e4 e5
  obtain ⟨e4, e6⟩ := e4
  obtain ⟨e5, e7⟩ := e5
  subst e0 e1 e2 e3 e4 e5 e6 e7
  exact ⟨⟨_, _, _, _, _, _, _, _⟩, rfl⟩
theorem open_rows {fuel : Nat} {cs : List Value} {x : DataW H × List MemPlace} (h : DataW.trod enc Tryz.prog w base spare held fuel 27 cs = some x) :
    ∃ v xs, cs = [v] ∧ RowsAt w v xs := by
 rcases open_slice Tryz.underlying27 h with ⟨h0, -⟩ | ⟨a, len, cap, m, n, D, Pl, hcs, hb, hl, hm, hmm, hx, hi⟩
 · exact ⟨_, [], h0, none, 0, rfl, by simp, fun h => absurd h (by simp)⟩
 · have hle : len ≤ m := by rw [hmm]; split <;> omega
   obtain ⟨xs, hxl, hxs⟩ := list_of (⟨0, 0, 0⟩ : Sea.Row) (P := fun i r => ∀ j, j < 3 → w.cell? ((a.add (i * 3)).add j) = [Value.int .i64 r.fill, .int .i64 r.inn, .int .i64 r.out][j]?) len (fun i hil => by
    obtain ⟨cs', hc, ht⟩ := hi i (by omega)
    rw [cells_row] at hc
    obtain ⟨r, rfl⟩ := open_row ht
    exact ⟨r, (World.cells?_some hc).2.2⟩)
   refine ⟨_, xs, hcs, some a, cap, by rw [hxl], by omega, fun h0 => ?_⟩
   obtain ⟨b, off, spot⟩ := a
   have hs : spot = none := by simpa [Addr.add] using World.cell?_spot (hxs 0 (by omega) 0 (by omega))
   subst hs
   have hz : w.cell? ⟨b, off, none⟩ = some (.int .i64 (xs.getD 0 ⟨0, 0, 0⟩).fill) := by simpa [Addr.add] using hxs 0 (by omega) 0 (by omega)
   refine ⟨b, off, rfl, World.block_lt_of_cell? w ⟨b, off, none⟩ hz, fun k hk => ?_⟩
   have e := fun j hj => hxs k (by omega) j hj
   simp only [add_none] at e
   exact ⟨e 0 (by omega), e 1 (by omega), e 2 (by omega)⟩
theorem open_days {fuel : Nat} {cs : List Value} {x : DataW H × List MemPlace} (h : DataW.trod enc Tryz.prog w base spare held fuel 28 cs = some x) :
    ∃ v xs, cs = [v] ∧ DaysAt w v xs := by
 rcases open_slice Tryz.underlying28 h with ⟨h0, -⟩ | ⟨a, len, cap, m, n, D, Pl, hcs, hb, hl, hm, hmm, hx, hi⟩
 · exact ⟨_, [], h0, none, 0, rfl, by simp, fun h => absurd h (by simp)⟩
 · have hle : len ≤ m := by rw [hmm]; split <;> omega
   obtain ⟨xs, hxl, hxs⟩ := list_of (⟨0, 0, 0, 0, 0, 0, 0, 0⟩ : Sea.Day) (P := fun i d => ∀ j, j < 8 → w.cell? ((a.add (i * 8)).add j) = [Value.int .i64 d.buy, .int .i64 d.sell, .int .i64 d.offer, .int .i64 d.take, .int .i64 d.glo, .int .i64 d.ghi, .int .i64 d.nlo, .int .i64 d.nhi][j]?) len (fun i hil => by
    obtain ⟨cs', hc, ht⟩ := hi i (by omega)
    rw [cells_day] at hc
    obtain ⟨r, rfl⟩ := open_day ht
    exact ⟨r, (World.cells?_some hc).2.2⟩)
   refine ⟨_, xs, hcs, some a, cap, by rw [hxl], by omega, fun h0 => ?_⟩
   obtain ⟨b, off, spot⟩ := a
   have hs : spot = none := by simpa [Addr.add] using World.cell?_spot (hxs 0 (by omega) 0 (by omega))
   subst hs
   have hz : w.cell? ⟨b, off, none⟩ = some (.int .i64 (xs.getD 0 ⟨0, 0, 0, 0, 0, 0, 0, 0⟩).buy) := by simpa [Addr.add] using hxs 0 (by omega) 0 (by omega)
   refine ⟨b, off, rfl, World.block_lt_of_cell? w ⟨b, off, none⟩ hz, fun k hk => ?_⟩
   have e := fun j hj => hxs k (by omega) j hj
   simp only [add_none] at e
   exact ⟨e 0 (by omega), e 1 (by omega), e 2 (by omega), e 3 (by omega), e 4 (by omega), e 5 (by omega), e 6 (by omega), e 7 (by omega)⟩
theorem open_season {r : Reach} {b0 : Nat} {v : Value} {d : DataW H} {p : List MemPlace} (hv : Value.okWide Tryz.prog w r b0 30 v) (h : DataW.Trod enc Tryz.prog w base spare held 30 v d p) :
    ∃ s, SeasonAt w v s := by
 obtain ⟨cs, rfl, hsz⟩ := okWide_struct Tryz.underlying30 hv
 rw [cells_season] at hsz
 obtain ⟨cs⟩ := cs
 have hlen : cs.length = 6 := hsz
 obtain ⟨fuel, hf⟩ := h
 have hf' : DataW.trod enc Tryz.prog w base spare held fuel 30 cs = some (d, p) := by simpa [Value.cells] using hf
 obtain ⟨xs, n, -, -, -, hxl, hg⟩ := DataW.trod_struct Tryz.underlying30 hf'
 have hx : xs.length = 5 := hxl
 have f0 : DataW.trod enc Tryz.prog w base spare held n 3 ((cs.drop 0).take (Tryz.prog.cellsOf 3)) = xs[0]? := hg 0 _ rfl
 have f1 : DataW.trod enc Tryz.prog w base spare held n 3 ((cs.drop 1).take (Tryz.prog.cellsOf 3)) = xs[1]? := hg 1 _ rfl
 have f2 : DataW.trod enc Tryz.prog w base spare held n 23 ((cs.drop 2).take (Tryz.prog.cellsOf 23)) = xs[2]? := hg 2 _ rfl
 have f3 : DataW.trod enc Tryz.prog w base spare held n 27 ((cs.drop 4).take (Tryz.prog.cellsOf 27)) = xs[3]? := hg 3 _ rfl
 have f4 : DataW.trod enc Tryz.prog w base spare held n 28 ((cs.drop 5).take (Tryz.prog.cellsOf 28)) = xs[4]? := hg 4 _ rfl
 rw [cells_int] at f0 f1
 rw [cells_span] at f2
 rw [cells_rows, List.getElem?_eq_getElem (by omega)] at f3
 rw [cells_days, List.getElem?_eq_getElem (by omega)] at f4
 clear hg hf hf' hv
 match cs, hlen, f0, f1, f2, f3, f4 with
 | [c0, c1, c2, c3, c4, c5], _, f0, f1, f2, f3, f4 =>
  obtain ⟨z0, e0⟩ := open_i f0 (by omega)
  obtain ⟨z1, e1⟩ := open_i f1 (by omega)
  obtain ⟨z2, z3, e2⟩ := open_span f2 (by omega)
  obtain ⟨v3, rows, e3, hr⟩ := open_rows f3
  obtain ⟨v4, days, e4, hd⟩ := open_days f4
  simp at e0 e1 e2 e3 e4
  obtain ⟨e2, e5⟩ := e2
  subst e0 e1 e2 e3 e4 e5
  exact ⟨⟨z0, z1, z2, z3, rows, days⟩, _, _, rfl, hr, hd⟩
end
end Go.Proofs.YtpcamocnlnlgiaaGreat.S
namespace Go.Proofs.YtpcamocnlnlgiaaGreat.S
open Go.ChangeShapes Go.WideShapes Go.Deep
end Go.Proofs.YtpcamocnlnlgiaaGreat.S
namespace Go.Proofs.YtpcamocnlnlgiaaGreat.S
open Go.ChangeShapes Go.WideShapes Go.ChangeAt Go.RowKit
theorem frOwn : ownKnob Tryz.prog.godebug = none := by kernel_rfl
theorem frLaid : laidOutB Tryz.prog = true := by kernel_rfl
end Go.Proofs.YtpcamocnlnlgiaaGreat.S
set_option linter.unusedVariables false
set_option linter.unusedSimpArgs false
namespace Lk
structure Sp where
 lo : Int
 hi : Int
 deriving DecidableEq
structure Rd where
 day : Int
 zone : Int
 v : Sp
 deriving DecidableEq
structure Bk where
 first : List Sp
 flows : List (List Sp)
 reads : List Rd
def spAt (l : List Sp) (k : Nat) : Sp := l.getD k ⟨0, 0⟩
def rwAt (l : List (List Sp)) (k : Nat) : List Sp := l.getD k []
def rdAt (l : List Rd) (k : Nat) : Rd := l.getD k ⟨0, 0, ⟨0, 0⟩⟩
def at0 (l : List Int) (k : Nat) : Int := l.getD k 0
def lstAt (l : List (List Int)) (k : Nat) : List Int := l.getD k []
def inB (x l h : Int) : Bool := decide (l ≤ x) && decide (x ≤ h)
def spB (s : Sp) (m : Int) : Bool := decide (-m ≤ s.lo) && decide (s.lo ≤ s.hi) && decide (s.hi ≤ m)
theorem inB_iff {x l h : Int} : inB x l h = true ↔ l ≤ x ∧ x ≤ h := by simp [inB]
theorem spB_iff {s : Sp} {m : Int} : spB s m = true ↔ -m ≤ s.lo ∧ s.lo ≤ s.hi ∧ s.hi ≤ m := by simp [spB, and_assoc]
def Bk.rdB (b : Bk) (r : Rd) : Bool := inB r.day 0 (b.flows.length - 1) && inB r.zone 0 (b.first.length - 1) && spB r.v 1000000000
def Bk.flowB (b : Bk) (l : List Sp) : Bool := decide (l.length = b.first.length) && l.all (spB · 100000000)
def Bk.bookB (b : Bk) : Bool := b.first.all (spB · 1000000000) && b.flows.all b.flowB && b.reads.all b.rdB && (inB b.first.length 1 6 && decide (0 < b.flows.length))
def Bk.longB (b : Bk) : Bool := decide (40 < b.reads.length) || decide (30 < b.flows.length)
structure Ok (b : Bk) : Prop where
 nz : 1 ≤ b.first.length ∧ b.first.length ≤ 6
 nd : 1 ≤ b.flows.length ∧ b.flows.length ≤ 30
 nr : b.reads.length ≤ 40
 first : ∀ k, k < b.first.length → -1000000000 ≤ (spAt b.first k).lo ∧ (spAt b.first k).lo ≤ (spAt b.first k).hi ∧ (spAt b.first k).hi ≤ 1000000000
 rows : ∀ d, d < b.flows.length → (rwAt b.flows d).length = b.first.length
 flows : ∀ d k, d < b.flows.length → k < b.first.length → -100000000 ≤ (spAt (rwAt b.flows d) k).lo ∧ (spAt (rwAt b.flows d) k).lo ≤ (spAt (rwAt b.flows d) k).hi ∧ (spAt (rwAt b.flows d) k).hi ≤ 100000000
 reads : ∀ k, k < b.reads.length → 0 ≤ (rdAt b.reads k).day ∧ (rdAt b.reads k).day < b.flows.length ∧ 0 ≤ (rdAt b.reads k).zone ∧ (rdAt b.reads k).zone < b.first.length ∧
  -1000000000 ≤ (rdAt b.reads k).v.lo ∧ (rdAt b.reads k).v.lo ≤ (rdAt b.reads k).v.hi ∧ (rdAt b.reads k).v.hi ≤ 1000000000
theorem ok_of {b : Bk} (h : b.bookB = true) (h2 : b.longB = false) : Ok b := by
 simp only [Bk.bookB, Bk.flowB, Bk.rdB, Bool.and_eq_true, inB_iff, spB_iff, List.all_eq_true, decide_eq_true_eq] at h
 simp only [Bk.longB, Bool.or_eq_false_iff, decide_eq_false_iff_not] at h2
 obtain ⟨⟨⟨h1, hf⟩, hr⟩, hz, hd⟩ := h
 refine ⟨by omega, by omega, by omega, fun k hk => ?_, fun d hd => ?_, fun d k hd hk => ?_, fun k hk => ?_⟩
 · have e : spAt b.first k = b.first[k] := by simp [spAt, hk]
   have := h1 _ (List.getElem_mem hk)
   rw [e]; exact this
 · have e : rwAt b.flows d = b.flows[d] := by simp [rwAt, hd]
   rw [e]; exact (hf _ (List.getElem_mem hd)).1
 · have e : rwAt b.flows d = b.flows[d] := by simp [rwAt, hd]
   have h3 := hf _ (List.getElem_mem hd)
   have hk' : k < b.flows[d].length := by rw [h3.1]; exact hk
   have e2 : spAt b.flows[d] k = b.flows[d][k] := by simp [spAt, hk']
   rw [e, e2]; exact h3.2 _ (List.getElem_mem hk')
 · have e : rdAt b.reads k = b.reads[k] := by simp [rdAt, hk]
   have := hr _ (List.getElem_mem hk)
   rw [e]; omega
end Lk
set_option linter.unusedVariables false
set_option linter.unusedSimpArgs false
namespace Go.Proofs.YtpcamocnlnlgiaaGreat.L
open Go.RowKit Go.Sd Lk
theorem bool_ret {a b : Bool} (h : a = b) : Ending.returned (.bool a) = .returned (.bool b) := by rw [h]
theorem int_ret {k : IntKind} {a b : Int} (h : a = b) : Ending.returned (.int k a) = .returned (.int k b) := by rw [h]
theorem kept_cell {w w' : World} (hb : Below w.heap.size w w') {b o : Nat} {v : Value} (h : w.cell? ⟨b, o, none⟩ = some v) : w'.cell? ⟨b, o, none⟩ = some v :=
 (hb.cell (p := ⟨b, o, none⟩) (World.block_lt_of_cell? w ⟨b, o, none⟩ h)).trans h
theorem kept_block {w w' : World} (hb : Below w.heap.size w w') {n : Nat} {o : Obj} (h : w.heap[n]? = some o) : w'.heap[n]? = some o :=
 (hb.block _ (zqo h)).trans h
theorem below_tr {X w1 w2 : World} (h : Below X.heap.size X w1) (h2 : Below w1.heap.size w1 w2) : Below X.heap.size X w2 := h.trans (h2.mono h.size)
theorem boxed {w W : World} {o : Obj} (h : w.alloc o = W) : W.heap[w.heap.size]? = some o ∧ Below w.heap.size w W ∧ W.heap.size = w.heap.size + 1 := by
 subst h
 exact ⟨World.alloc_heap_new w o, (Below.refl _ _).alloc (Nat.le_refl _) _, World.size_alloc _ _⟩
structure Kc (w w' : World) : Prop where
 size : w.heap.size ≤ w'.heap.size
 cell : ∀ b o v, w.cell? ⟨b, o, none⟩ = some v → w'.cell? ⟨b, o, none⟩ = some v
theorem Kc.refl (w : World) : Kc w w := ⟨Nat.le_refl _, fun _ _ _ h => h⟩
theorem Kc.trans {a b c : World} (h : Kc a b) (k : Kc b c) : Kc a c := ⟨Nat.le_trans h.size k.size, fun _ _ _ hv => k.cell _ _ _ (h.cell _ _ _ hv)⟩
theorem Kc.of {w w' : World} (h : Below w.heap.size w w') : Kc w w' := ⟨h.size, fun _ _ _ hv => kept_cell h hv⟩
def ElsAt {α : Type} (m : Nat) (enc : α → List Value) (d : α) (w : World) (v : Value) (xs : List α) : Prop :=
 ∃ a cap, v = .slice a xs.length cap ∧ xs.length ≤ maxLen ∧
  (0 < xs.length → ∃ b off, a = some ⟨b, off, none⟩ ∧ b < w.heap.size ∧ ∀ k i u, k < xs.length → (enc (xs.getD k d))[i]? = some u → w.cell? ⟨b, off + k * m + i, none⟩ = some u)
section
variable {α : Type} {m : Nat} {enc : α → List Value} {d : α} {w w' : World} {v : Value} {xs : List α}
theorem ElsAt.kc (h : ElsAt m enc d w v xs) (hb : Kc w w') : ElsAt m enc d w' v xs := by
 obtain ⟨a, cap, rfl, hm, hc⟩ := h
 refine ⟨a, cap, rfl, hm, fun h0 => ?_⟩
 obtain ⟨b, off, rfl, hlt, hk⟩ := hc h0
 exact ⟨b, off, rfl, Nat.lt_of_lt_of_le hlt hb.size, fun k i u hk' hu => hb.cell _ _ _ (hk k i u hk' hu)⟩
theorem ElsAt.mono (h : ElsAt m enc d w v xs) (hb : Below w.heap.size w w') : ElsAt m enc d w' v xs := h.kc (.of hb)
theorem ElsAt.nil (w : World) : ElsAt m enc d w (.slice none 0 0) [] := ⟨none, 0, rfl, by simp, fun h => by simp at h⟩
theorem ElsAt.form (h : ElsAt m enc d w v xs) : ∃ a cap, v = .slice a xs.length cap ∧ xs.length ≤ 9223372036854775807 ∧
    (0 < xs.length → ∃ b off, a = some ⟨b, off, none⟩ ∧ b < w.heap.size ∧ ∀ k i u, k < xs.length → (enc (xs.getD k d))[i]? = some u → w.cell? ⟨b, off + k * m + i, none⟩ = some u) := by
 obtain ⟨a, cap, rfl, hm, hc⟩ := h
 unfold maxLen at hm
 exact ⟨a, cap, rfl, by omega, hc⟩
end
abbrev spEnc (s : Sp) : List Value := [.int .i64 s.lo, .int .i64 s.hi]
abbrev rdEnc (r : Rd) : List Value := [.int .i64 r.day, .int .i64 r.zone, .int .i64 r.v.lo, .int .i64 r.v.hi]
abbrev intEnc (n : Int) : List Value := [.int .i64 n]
abbrev SpsAt (w : World) (v : Value) (xs : List Sp) : Prop := ElsAt 2 spEnc ⟨0, 0⟩ w v xs
abbrev RdsAt (w : World) (v : Value) (xs : List Rd) : Prop := ElsAt 4 rdEnc ⟨0, 0, ⟨0, 0⟩⟩ w v xs
abbrev IntsAt (w : World) (v : Value) (xs : List Int) : Prop := ElsAt 1 intEnc 0 w v xs
def RowsAt {α : Type} (m : Nat) (enc : α → List Value) (d : α) (w : World) (v : Value) (xs : List (List α)) : Prop :=
 ∃ a cap, v = .slice a xs.length cap ∧ xs.length ≤ maxLen ∧
  (0 < xs.length → ∃ b off, a = some ⟨b, off, none⟩ ∧ b < w.heap.size ∧ ∀ k, k < xs.length → ∃ ev, w.cell? ⟨b, off + k, none⟩ = some ev ∧ ElsAt m enc d w ev (xs.getD k []))
section
variable {α : Type} {m : Nat} {enc : α → List Value} {d : α} {w w' : World} {v : Value} {xs : List (List α)}
theorem RowsAt.kc (h : RowsAt m enc d w v xs) (hb : Kc w w') : RowsAt m enc d w' v xs := by
 obtain ⟨a, cap, rfl, hm, hc⟩ := h
 refine ⟨a, cap, rfl, hm, fun h0 => ?_⟩
 obtain ⟨b, off, rfl, hlt, hk⟩ := hc h0
 exact ⟨b, off, rfl, Nat.lt_of_lt_of_le hlt hb.size, fun k hk' => let ⟨ev, h1, h2⟩ := hk k hk'; ⟨ev, hb.cell _ _ _ h1, h2.kc hb⟩⟩
theorem RowsAt.mono (h : RowsAt m enc d w v xs) (hb : Below w.heap.size w w') : RowsAt m enc d w' v xs := h.kc (.of hb)
theorem RowsAt.nil (w : World) : RowsAt m enc d w (.slice none 0 0) [] := ⟨none, 0, rfl, by simp, fun h => by simp at h⟩
theorem RowsAt.form (h : RowsAt m enc d w v xs) : ∃ a cap, v = .slice a xs.length cap ∧ xs.length ≤ 9223372036854775807 ∧
    (0 < xs.length → ∃ b off, a = some ⟨b, off, none⟩ ∧ b < w.heap.size ∧ ∀ k, k < xs.length → ∃ ev, w.cell? ⟨b, off + k, none⟩ = some ev ∧ ElsAt m enc d w ev (xs.getD k [])) := by
 obtain ⟨a, cap, rfl, hm, hc⟩ := h
 unfold maxLen at hm
 exact ⟨a, cap, rfl, by omega, hc⟩
end
abbrev SpRowsAt (w : World) (v : Value) (xs : List (List Sp)) : Prop := RowsAt 2 spEnc ⟨0, 0⟩ w v xs
abbrev ListsAt (w : World) (v : Value) (xs : List (List Int)) : Prop := RowsAt 1 intEnc 0 w v xs
structure BookAt (w : World) (fv wv rv : Value) (b : Bk) : Prop where
 first : SpsAt w fv b.first
 flows : SpRowsAt w wv b.flows
 reads : RdsAt w rv b.reads
theorem BookAt.kc {w w' : World} {fv wv rv : Value} {b : Bk} (h : BookAt w fv wv rv b) (hb : Kc w w') : BookAt w' fv wv rv b := ⟨h.first.kc hb, h.flows.kc hb, h.reads.kc hb⟩
theorem BookAt.mono {w w' : World} {fv wv rv : Value} {b : Bk} (h : BookAt w fv wv rv b) (hb : Below w.heap.size w w') : BookAt w' fv wv rv b := h.kc (.of hb)
def BoolB (b : Bool) (w : World) (e : Ending) (w' : World) : Prop := ∃ t, e = .returned (.bool t) ∧ Hid (b = t) ∧ Below w.heap.size w w'
def BoolS (b : Bool) (w : World) (e : Ending) (w' : World) : Prop := ∃ t, e = .returned (.bool t) ∧ Hid (b = t) ∧ w = w'
theorem BoolB.mk {b t : Bool} {w w' : World} (h : b = t) (hb : Below w.heap.size w w') : BoolB b w (.returned (.bool t)) w' := ⟨t, rfl, h, hb⟩
theorem BoolB.lit {b t : Bool} {w w' : World} {e : Ending} (h : BoolB b w e w') (hb : b = t) : e = .returned (.bool t) ∧ Below w.heap.size w w' := by
 obtain ⟨t', rfl, ht, hB⟩ := h
 exact ⟨by rw [← hb, ← ht.out], hB⟩
end Go.Proofs.YtpcamocnlnlgiaaGreat.L
set_option linter.unusedVariables false
set_option linter.unusedSimpArgs false
namespace Lk
structure Dy where
 flow : Int
 reads : Bool
 content : Int
 deriving DecidableEq
end Lk
namespace Go.Proofs.YtpcamocnlnlgiaaGreat.L
open Go.RowKit Go.Sd Lk
abbrev dyV (d : Dy) : Value := .agg #[.int .i64 d.flow, .bool d.reads, .int .i64 d.content]
def FoundP (b : Bool) (w : World) (e : Ending) (w' : World) : Prop := ∃ n : Int, e = .returned (.int .i64 n) ∧ (b = true ↔ 0 ≤ n) ∧ Below w.heap.size w w'
theorem any_none {α : Type} {l : List α} {p : α → Bool} (h : ∀ j (hj : j < l.length), p l[j] = false) : l.any p = false := by
 rw [List.any_eq_false]
 intro x hx
 obtain ⟨i, hi, rfl⟩ := List.getElem_of_mem hx
 rw [h i hi]; exact Bool.false_ne_true
theorem any_some {α : Type} {l : List α} {p : α → Bool} {j : Nat} (hj : j < l.length) (h : p l[j] = true) : l.any p = true := List.any_eq_true.2 ⟨_, List.getElem_mem hj, h⟩
end Go.Proofs.YtpcamocnlnlgiaaGreat.L
set_option linter.unusedVariables false
set_option linter.unusedSimpArgs false
namespace Lk
theorem all_not {α : Type} (l : List α) (p : α → Bool) : (!l.any fun x => !p x) = l.all p := by
 induction l with
 | nil => rfl
 | cons x l ih => simp [← ih]
end Lk
namespace Go.Proofs.YtpcamocnlnlgiaaGreat.L
open Go.RowKit Go.Sd Lk
end Go.Proofs.YtpcamocnlnlgiaaGreat.L
set_option linter.unusedVariables false
set_option linter.unusedSimpArgs false
namespace Lk
end Lk
namespace Go.Proofs.YtpcamocnlnlgiaaGreat.L
open Go.RowKit Go.Sd Lk
def spCells : List Sp → List Value
 | [] => []
 | x :: xs => .int .i64 x.lo :: .int .i64 x.hi :: spCells xs
theorem spCells_get : ∀ (l : List Sp) (k : Nat), k < l.length → (spCells l)[k * 2]? = some (.int .i64 (spAt l k).lo) ∧ (spCells l)[k * 2 + 1]? = some (.int .i64 (spAt l k).hi)
 | [], k, h => by simp at h
 | x :: xs, 0, _ => ⟨rfl, rfl⟩
 | x :: xs, k + 1, h => by
  have := spCells_get xs k (by simpa using h)
  rw [show (k + 1) * 2 = k * 2 + 1 + 1 by omega]
  simpa [spCells, spAt] using this
theorem spCells_set : ∀ (l : List Sp) (k : Nat) (y : Sp), k < l.length → ((spCells l).set (k * 2) (.int .i64 y.lo)).set (k * 2 + 1) (.int .i64 y.hi) = spCells (l.set k y)
 | [], k, _, h => by simp at h
 | x :: xs, 0, y, _ => rfl
 | x :: xs, k + 1, y, h => by
  have := spCells_set xs k y (by simpa using h)
  rw [show (k + 1) * 2 + 1 = (k * 2 + 1) + 1 + 1 by omega, show (k + 1) * 2 = k * 2 + 1 + 1 by omega]
  simp only [spCells, List.set_cons_succ, this]
def BlkAt (w : World) (q : Nat) (l : List Sp) : Prop := w.heap[q]? = some (.cells (spCells l).toArray 23)
theorem BlkAt.lt {w : World} {q : Nat} {l : List Sp} (h : BlkAt w q l) : q < w.heap.size := (zqo h)
theorem BlkAt.mono {w w' : World} {q : Nat} {l : List Sp} (h : BlkAt w q l) (hb : Below w.heap.size w w') : BlkAt w' q l := kept_block hb h
theorem BlkAt.kept {S : Nat → Prop} {w w' : World} {q : Nat} {l : List Sp} (h : BlkAt w q l) (hk : Kept S w w') (hs : S q) : BlkAt w' q l := (hk.block q h.lt hs).trans h
theorem BlkAt.cell {w : World} {q : Nat} {l : List Sp} (h : BlkAt w q l) {k : Nat} (hk : k < l.length) :
    (w.cell? ⟨q, k * 2, none⟩ = some (.int .i64 (spAt l k).lo) ∧ w.cell? ⟨q, k * 2 + 1, none⟩ = some (.int .i64 (spAt l k).hi)) ∧ w.frozen? ⟨q, k * 2, none⟩ = false ∧ w.frozen? ⟨q, k * 2 + 1, none⟩ = false := by
 obtain ⟨-, r, f⟩ := row_cells h
 have c := spCells_get l k hk
 refine ⟨⟨?_, ?_⟩, f _, f _⟩
 · rw [r]; simpa using c.1
 · rw [r]; simpa using c.2
theorem BlkAt.set {w : World} {q : Nat} {l : List Sp} (h : BlkAt w q l) {k : Nat} (hk : k < l.length) (y : Sp) :
    BlkAt ((w.setCell ⟨q, k * 2, none⟩ (.int .i64 y.lo)).setCell ⟨q, k * 2 + 1, none⟩ (.int .i64 y.hi)) q (l.set k y) := by
 unfold BlkAt at h ⊢
 rw [← spCells_set l k y hk]
 simp only [World.setCell, Array.getElem?_modify, if_true, h]
 simp
end Go.Proofs.YtpcamocnlnlgiaaGreat.L
set_option linter.unusedVariables false
set_option linter.unusedSimpArgs false
namespace Go.Proofs.YtpcamocnlnlgiaaGreat.L
open Go.RowKit Go.Sd Lk
theorem grown_of_below {w w' : World} (h : Below w.heap.size w w') : w.grownBy w' none :=
 ⟨h.os, h.tape, h.output, h.size, fun k hk _ => h.block k hk⟩
theorem grownBy_trans {a b c : World} {row : Option Nat} (h : a.grownBy b row) (k : b.grownBy c row) : a.grownBy c row :=
 ⟨k.os.trans h.os, k.tape.trans h.tape, k.output.trans h.output, Nat.le_trans h.size k.size, fun i hi hne => (k.block i (Nat.lt_of_lt_of_le hi h.size) hne).trans (h.block i hi hne)⟩
section
variable {α : Type} {enc : α → List Value} {m : Nat}
theorem fl_get (hm : ∀ x, (enc x).length = m) (d : α) : ∀ (xs : List α) (k i : Nat), k < xs.length → i < m → (xs.flatMap enc)[k * m + i]? = (enc (xs.getD k d))[i]?
 | [], k, i, h, _ => by simp at h
 | x :: xs, 0, i, _, hi => by
  rw [List.flatMap_cons, List.getElem?_append_left (by rw [hm x]; omega)]
  simp
 | x :: xs, k + 1, i, h, hi => by
  have ih := fl_get hm d xs k i (by simpa using h) hi
  rw [List.flatMap_cons, List.getElem?_append_right (by rw [hm x, Nat.add_mul]; omega), hm x, show (k + 1) * m + i - m = k * m + i by rw [Nat.add_mul]; omega, ih]
  simp
def OwnSt (E : TypeId) (m : Nat) (enc : α → List Value) (B : Nat) (w : World) (v : Value) (xs : List α) : Prop := w.ownsRow B E m v xs.length (xs.flatMap enc)
theorem OwnSt.nil (E : TypeId) (m : Nat) (enc : α → List Value) (B : Nat) (w : World) : OwnSt E m enc B w (.slice none 0 0) [] := World.ownsRow_nil w B _ m
theorem OwnSt.kept {E : TypeId} {B : Nat} {w w' : World} {row : Option Nat} {v : Value} {xs : List α} (h : OwnSt E m enc B w v xs) (hg : w.grownBy w' row) (hne : v.ownBlock = none ∨ v.ownBlock ≠ row) : OwnSt E m enc B w' v xs := World.ownsRow.kept h hg hne
theorem OwnSt.mono {E : TypeId} {B : Nat} {w w' : World} {v : Value} {xs : List α} (h : OwnSt E m enc B w v xs) (hb : Below w.heap.size w w') : OwnSt E m enc B w' v xs := h.kept (grown_of_below hb) (by cases v.ownBlock <;> simp)
theorem OwnSt.lt {E : TypeId} {B : Nat} {w : World} {v : Value} {xs : List α} (h : OwnSt E m enc B w v xs) : ∀ k, v.ownBlock = some k → B ≤ k ∧ k < w.heap.size := World.ownsRow.lt h
theorem OwnSt.cellset {E : TypeId} {B : Nat} {w : World} {v : Value} {xs : List α} (h : OwnSt E m enc B w v xs) {p : Addr} (hp : p.block < B) (u : Value) : OwnSt E m enc B (w.setCell p u) v xs :=
 h.kept (row := some p.block) ⟨rfl, rfl, rfl, by simp [World.setCell], fun k _ hk => Below.heap_setCell _ _ _ _ (fun e => hk (by rw [e]))⟩ (.inr fun e => by have := (h.lt _ e).1; omega)
theorem OwnSt.from {E : TypeId} {B B' : Nat} {w : World} {v : Value} {xs : List α} (h : OwnSt E m enc B w v xs) (hB : B' ≤ B) : OwnSt E m enc B' w v xs := by
 obtain ⟨h1, h2⟩ := h
 refine ⟨h1, ?_⟩
 rcases h2 with h2 | ⟨g, cap, cur, hv, hg, r⟩
 · exact .inl h2
 · exact .inr ⟨g, cap, cur, hv, by omega, r⟩
theorem OwnSt.slice {E : TypeId} {B : Nat} {w : World} {v : Value} {xs : List α} (h : OwnSt E m enc B w v xs) : ∃ a cap, v = .slice a xs.length cap := by
 obtain ⟨_, h2⟩ := h
 rcases h2 with ⟨rfl, h0⟩ | ⟨g, cap, cur, rfl, _⟩
 · exact ⟨none, 0, by rw [h0]⟩
 · exact ⟨_, cap, rfl⟩
theorem OwnSt.cells {E : TypeId} {B : Nat} {w : World} {v : Value} {xs : List α} (hm : ∀ x, (enc x).length = m) (d : α) (h : OwnSt E m enc B w v xs) : ∃ a cap, v = .slice a xs.length cap ∧ xs.length ≤ maxLen ∧
    (0 < xs.length → ∃ b, a = some ⟨b, 0, none⟩ ∧ b < w.heap.size ∧ ∀ k i, k < xs.length → i < m → w.cell? ⟨b, k * m + i, none⟩ = (enc (xs.getD k d))[i]?) := by
 have h0 := h
 obtain ⟨_, h2⟩ := h
 rcases h2 with ⟨rfl, hn⟩ | ⟨g, cap, cur, rfl, hB, hg, hn, hmx, hs, ht⟩
 · exact ⟨none, 0, by rw [hn], by simp [hn], fun h => by omega⟩
 · refine ⟨_, cap, rfl, by omega, fun hp => ⟨g, rfl, (zqo hg), fun k i hk hi => ?_⟩⟩
   have hlt : k * m + i < xs.length * m := by
    have : (k + 1) * m ≤ xs.length * m := Nat.mul_le_mul_right m (by omega)
    rw [Nat.add_mul] at this; omega
   rw [h0.cellAt (k * m + i) hlt, fl_get hm d xs k i hk hi]
end
section
variable {α : Type} {enc : α → List Value} {m : Nat} {E : TypeId} {B : Nat} {w w' : World} {v : Value} {xs : List α}
theorem OwnSt.same (h : OwnSt E m enc B w v xs) (hb : ∀ k, v.ownBlock = some k → w'.heap[k]? = w.heap[k]?) : OwnSt E m enc B w' v xs := by
 obtain ⟨h1, h2⟩ := h
 refine ⟨h1, ?_⟩
 rcases h2 with h2 | ⟨g, cap, cur, rfl, hB, hg, r⟩
 · exact .inl h2
 · exact .inr ⟨g, cap, cur, rfl, hB, (hb g rfl).trans hg, r⟩
theorem OwnSt.els (hm : ∀ x, (enc x).length = m) (d : α) (h : OwnSt E m enc B w v xs) : ElsAt m enc d w v xs := by
 obtain ⟨a, cap, rfl, hmx, hc⟩ := h.cells hm d
 refine ⟨a, cap, rfl, hmx, fun h0 => ?_⟩
 obtain ⟨b, rfl, hlt, hk⟩ := hc h0
 refine ⟨b, 0, rfl, hlt, fun k i u hk' hu => ?_⟩
 have hi : i < m := by
  have := (List.getElem?_eq_some_iff.1 hu).1
  rwa [hm] at this
 rw [Nat.zero_add, hk k i hk' hi]; exact hu
end
theorem infoInt : (Tryz.prog.info? 3).map (fun i => (i.zero, i.size, i.bytes)) = some (some (.int .i64 0), 1, 8) := by kernel_rfl
theorem intEnc_len (x : Int) : (intEnc x).length = 1 := rfl
abbrev OwnInts (B : Nat) (w : World) (v : Value) (xs : List Int) : Prop := OwnSt 3 1 intEnc B w v xs
theorem OwnInts.ints {B : Nat} {w : World} {v : Value} {xs : List Int} (h : OwnInts B w v xs) : IntsAt w v xs := h.els intEnc_len 0
end Go.Proofs.YtpcamocnlnlgiaaGreat.L
