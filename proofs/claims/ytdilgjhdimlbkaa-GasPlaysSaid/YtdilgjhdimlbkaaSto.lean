/- Gas: stores into blocks: what lies in a block behind them, and in others. Gas: the plain model: what is made of the corners of a state is what the document says. -/
import Derived.Test.YtdilgjhdimlbkaaInj
set_option linter.unusedVariables false
set_option linter.unusedSimpArgs false
namespace Go.Proofs.Ytdilgjhdimlbkaa
open Go.RowKit Go.Sd Gas
theorem set_far {w : World} {n m : Nat} {c : Option Obj} (o : Nat) (v : Value) (hne : m ≠ n) (h : w.heap[m]? = c) : (w.setCell ⟨n, o, none⟩ v).heap[m]? = c :=
  (Below.heap_setCell _ _ _ _ hne).trans h
theorem set_cells4 {w : World} {n : Nat} {a0 a1 a2 a3 : Value} {e : TypeId} (h : w.heap[n]? = some (.cells #[a0, a1, a2, a3] e (0, 0))) (b0 b1 b2 b3 : Value) :
    ((((w.setCell ⟨n, 0, none⟩ b0).setCell ⟨n, 1, none⟩ b1).setCell ⟨n, 2, none⟩ b2).setCell ⟨n, 3, none⟩ b3).heap[n]? = some (.cells #[b0, b1, b2, b3] e (0, 0)) := by
  have h0 := set_one h 0 b0
  have h1 := set_one h0 1 b1
  have h2 := set_one h1 2 b2
  have h3 := set_one h2 3 b3
  simpa using h3
theorem set_other4 {w : World} {n m : Nat} (b0 b1 b2 b3 : Value) (h : m ≠ n) : ((((w.setCell ⟨n, 0, none⟩ b0).setCell ⟨n, 1, none⟩ b1).setCell ⟨n, 2, none⟩ b2).setCell ⟨n, 3, none⟩ b3).heap[m]? = w.heap[m]? := by
  rw [Below.heap_setCell _ _ _ _ (by simpa using h), Below.heap_setCell _ _ _ _ (by simpa using h), Below.heap_setCell _ _ _ _ (by simpa using h), Below.heap_setCell _ _ _ _ (by simpa using h)]
theorem set_below4 {B : Nat} {v w : World} {n : Nat} (hk : Below B v w) (h : B ≤ n) (b0 b1 b2 b3 : Value) : Below B v ((((w.setCell ⟨n, 0, none⟩ b0).setCell ⟨n, 1, none⟩ b1).setCell ⟨n, 2, none⟩ b2).setCell ⟨n, 3, none⟩ b3) :=
  (((hk.setCell h _).setCell h _).setCell h _).setCell h _
theorem cells4_ex {w : World} {n : Nat} {e : TypeId} (h : ∃ a0 a1 a2 a3 : Value, w.heap[n]? = some (.cells #[a0, a1, a2, a3] e (0, 0))) (b0 b1 b2 b3 : Value) : ∃ a0 a1 a2 a3 : Value, ((((w.setCell ⟨n, 0, none⟩ b0).setCell ⟨n, 1, none⟩ b1).setCell ⟨n, 2, none⟩ b2).setCell ⟨n, 3, none⟩ b3).heap[n]? = some (.cells #[a0, a1, a2, a3] e (0, 0)) := by
  obtain ⟨a0, a1, a2, a3, h⟩ := h; exact ⟨_, _, _, _, set_cells4 h _ _ _ _⟩
theorem cells6_ex {w : World} {n : Nat} {e : TypeId} (h : ∃ a0 a1 a2 a3 a4 a5 : Value, w.heap[n]? = some (.cells #[a0, a1, a2, a3, a4, a5] e (0, 0))) (b0 b1 b2 b3 b4 b5 : Value) : ∃ a0 a1 a2 a3 a4 a5 : Value, ((((((w.setCell ⟨n, 0, none⟩ b0).setCell ⟨n, 1, none⟩ b1).setCell ⟨n, 2, none⟩ b2).setCell ⟨n, 3, none⟩ b3).setCell ⟨n, 4, none⟩ b4).setCell ⟨n, 5, none⟩ b5).heap[n]? = some (.cells #[a0, a1, a2, a3, a4, a5] e (0, 0)) := by
  obtain ⟨a0, a1, a2, a3, a4, a5, h⟩ := h; exact ⟨_, _, _, _, _, _, set_cells6 h _ _ _ _ _ _⟩
theorem cells8_ex {w : World} {n : Nat} {e : TypeId} (h : ∃ a0 a1 a2 a3 a4 a5 a6 a7 : Value, w.heap[n]? = some (.cells #[a0, a1, a2, a3, a4, a5, a6, a7] e (0, 0))) (b0 b1 b2 b3 b4 b5 b6 b7 : Value) : ∃ a0 a1 a2 a3 a4 a5 a6 a7 : Value, ((((((((w.setCell ⟨n, 0, none⟩ b0).setCell ⟨n, 1, none⟩ b1).setCell ⟨n, 2, none⟩ b2).setCell ⟨n, 3, none⟩ b3).setCell ⟨n, 4, none⟩ b4).setCell ⟨n, 5, none⟩ b5).setCell ⟨n, 6, none⟩ b6).setCell ⟨n, 7, none⟩ b7).heap[n]? = some (.cells #[a0, a1, a2, a3, a4, a5, a6, a7] e (0, 0)) := by
  obtain ⟨a0, a1, a2, a3, a4, a5, a6, a7, h⟩ := h; exact ⟨_, _, _, _, _, _, _, _, set_cells8 h _ _ _ _ _ _ _ _⟩
theorem other4_ex4 {w : World} {n k : Nat} {e : TypeId} (h : ∃ a0 a1 a2 a3 : Value, w.heap[k]? = some (.cells #[a0, a1, a2, a3] e (0, 0))) (b0 b1 b2 b3 : Value) (hne : k ≠ n) : ∃ a0 a1 a2 a3 : Value, ((((w.setCell ⟨n, 0, none⟩ b0).setCell ⟨n, 1, none⟩ b1).setCell ⟨n, 2, none⟩ b2).setCell ⟨n, 3, none⟩ b3).heap[k]? = some (.cells #[a0, a1, a2, a3] e (0, 0)) := by
  obtain ⟨a0, a1, a2, a3, h⟩ := h; exact ⟨_, _, _, _, (set_other4 _ _ _ _ hne).trans h⟩
theorem other4_ex6 {w : World} {n k : Nat} {e : TypeId} (h : ∃ a0 a1 a2 a3 a4 a5 : Value, w.heap[k]? = some (.cells #[a0, a1, a2, a3, a4, a5] e (0, 0))) (b0 b1 b2 b3 : Value) (hne : k ≠ n) : ∃ a0 a1 a2 a3 a4 a5 : Value, ((((w.setCell ⟨n, 0, none⟩ b0).setCell ⟨n, 1, none⟩ b1).setCell ⟨n, 2, none⟩ b2).setCell ⟨n, 3, none⟩ b3).heap[k]? = some (.cells #[a0, a1, a2, a3, a4, a5] e (0, 0)) := by
  obtain ⟨a0, a1, a2, a3, a4, a5, h⟩ := h; exact ⟨_, _, _, _, _, _, (set_other4 _ _ _ _ hne).trans h⟩
theorem other4_ex8 {w : World} {n k : Nat} {e : TypeId} (h : ∃ a0 a1 a2 a3 a4 a5 a6 a7 : Value, w.heap[k]? = some (.cells #[a0, a1, a2, a3, a4, a5, a6, a7] e (0, 0))) (b0 b1 b2 b3 : Value) (hne : k ≠ n) : ∃ a0 a1 a2 a3 a4 a5 a6 a7 : Value, ((((w.setCell ⟨n, 0, none⟩ b0).setCell ⟨n, 1, none⟩ b1).setCell ⟨n, 2, none⟩ b2).setCell ⟨n, 3, none⟩ b3).heap[k]? = some (.cells #[a0, a1, a2, a3, a4, a5, a6, a7] e (0, 0)) := by
  obtain ⟨a0, a1, a2, a3, a4, a5, a6, a7, h⟩ := h; exact ⟨_, _, _, _, _, _, _, _, (set_other4 _ _ _ _ hne).trans h⟩
theorem other6_ex4 {w : World} {n k : Nat} {e : TypeId} (h : ∃ a0 a1 a2 a3 : Value, w.heap[k]? = some (.cells #[a0, a1, a2, a3] e (0, 0))) (b0 b1 b2 b3 b4 b5 : Value) (hne : k ≠ n) : ∃ a0 a1 a2 a3 : Value, ((((((w.setCell ⟨n, 0, none⟩ b0).setCell ⟨n, 1, none⟩ b1).setCell ⟨n, 2, none⟩ b2).setCell ⟨n, 3, none⟩ b3).setCell ⟨n, 4, none⟩ b4).setCell ⟨n, 5, none⟩ b5).heap[k]? = some (.cells #[a0, a1, a2, a3] e (0, 0)) := by
  obtain ⟨a0, a1, a2, a3, h⟩ := h; exact ⟨_, _, _, _, (set_other6 _ _ _ _ _ _ hne).trans h⟩
theorem other6_ex6 {w : World} {n k : Nat} {e : TypeId} (h : ∃ a0 a1 a2 a3 a4 a5 : Value, w.heap[k]? = some (.cells #[a0, a1, a2, a3, a4, a5] e (0, 0))) (b0 b1 b2 b3 b4 b5 : Value) (hne : k ≠ n) : ∃ a0 a1 a2 a3 a4 a5 : Value, ((((((w.setCell ⟨n, 0, none⟩ b0).setCell ⟨n, 1, none⟩ b1).setCell ⟨n, 2, none⟩ b2).setCell ⟨n, 3, none⟩ b3).setCell ⟨n, 4, none⟩ b4).setCell ⟨n, 5, none⟩ b5).heap[k]? = some (.cells #[a0, a1, a2, a3, a4, a5] e (0, 0)) := by
  obtain ⟨a0, a1, a2, a3, a4, a5, h⟩ := h; exact ⟨_, _, _, _, _, _, (set_other6 _ _ _ _ _ _ hne).trans h⟩
theorem other6_ex8 {w : World} {n k : Nat} {e : TypeId} (h : ∃ a0 a1 a2 a3 a4 a5 a6 a7 : Value, w.heap[k]? = some (.cells #[a0, a1, a2, a3, a4, a5, a6, a7] e (0, 0))) (b0 b1 b2 b3 b4 b5 : Value) (hne : k ≠ n) : ∃ a0 a1 a2 a3 a4 a5 a6 a7 : Value, ((((((w.setCell ⟨n, 0, none⟩ b0).setCell ⟨n, 1, none⟩ b1).setCell ⟨n, 2, none⟩ b2).setCell ⟨n, 3, none⟩ b3).setCell ⟨n, 4, none⟩ b4).setCell ⟨n, 5, none⟩ b5).heap[k]? = some (.cells #[a0, a1, a2, a3, a4, a5, a6, a7] e (0, 0)) := by
  obtain ⟨a0, a1, a2, a3, a4, a5, a6, a7, h⟩ := h; exact ⟨_, _, _, _, _, _, _, _, (set_other6 _ _ _ _ _ _ hne).trans h⟩
theorem other8_ex4 {w : World} {n k : Nat} {e : TypeId} (h : ∃ a0 a1 a2 a3 : Value, w.heap[k]? = some (.cells #[a0, a1, a2, a3] e (0, 0))) (b0 b1 b2 b3 b4 b5 b6 b7 : Value) (hne : k ≠ n) : ∃ a0 a1 a2 a3 : Value, ((((((((w.setCell ⟨n, 0, none⟩ b0).setCell ⟨n, 1, none⟩ b1).setCell ⟨n, 2, none⟩ b2).setCell ⟨n, 3, none⟩ b3).setCell ⟨n, 4, none⟩ b4).setCell ⟨n, 5, none⟩ b5).setCell ⟨n, 6, none⟩ b6).setCell ⟨n, 7, none⟩ b7).heap[k]? = some (.cells #[a0, a1, a2, a3] e (0, 0)) := by
  obtain ⟨a0, a1, a2, a3, h⟩ := h; exact ⟨_, _, _, _, (set_other8 _ _ _ _ _ _ _ _ hne).trans h⟩
theorem other8_ex6 {w : World} {n k : Nat} {e : TypeId} (h : ∃ a0 a1 a2 a3 a4 a5 : Value, w.heap[k]? = some (.cells #[a0, a1, a2, a3, a4, a5] e (0, 0))) (b0 b1 b2 b3 b4 b5 b6 b7 : Value) (hne : k ≠ n) : ∃ a0 a1 a2 a3 a4 a5 : Value, ((((((((w.setCell ⟨n, 0, none⟩ b0).setCell ⟨n, 1, none⟩ b1).setCell ⟨n, 2, none⟩ b2).setCell ⟨n, 3, none⟩ b3).setCell ⟨n, 4, none⟩ b4).setCell ⟨n, 5, none⟩ b5).setCell ⟨n, 6, none⟩ b6).setCell ⟨n, 7, none⟩ b7).heap[k]? = some (.cells #[a0, a1, a2, a3, a4, a5] e (0, 0)) := by
  obtain ⟨a0, a1, a2, a3, a4, a5, h⟩ := h; exact ⟨_, _, _, _, _, _, (set_other8 _ _ _ _ _ _ _ _ hne).trans h⟩
theorem other8_ex8 {w : World} {n k : Nat} {e : TypeId} (h : ∃ a0 a1 a2 a3 a4 a5 a6 a7 : Value, w.heap[k]? = some (.cells #[a0, a1, a2, a3, a4, a5, a6, a7] e (0, 0))) (b0 b1 b2 b3 b4 b5 b6 b7 : Value) (hne : k ≠ n) : ∃ a0 a1 a2 a3 a4 a5 a6 a7 : Value, ((((((((w.setCell ⟨n, 0, none⟩ b0).setCell ⟨n, 1, none⟩ b1).setCell ⟨n, 2, none⟩ b2).setCell ⟨n, 3, none⟩ b3).setCell ⟨n, 4, none⟩ b4).setCell ⟨n, 5, none⟩ b5).setCell ⟨n, 6, none⟩ b6).setCell ⟨n, 7, none⟩ b7).heap[k]? = some (.cells #[a0, a1, a2, a3, a4, a5, a6, a7] e (0, 0)) := by
  obtain ⟨a0, a1, a2, a3, a4, a5, a6, a7, h⟩ := h; exact ⟨_, _, _, _, _, _, _, _, (set_other8 _ _ _ _ _ _ _ _ hne).trans h⟩
end Go.Proofs.Ytdilgjhdimlbkaa
namespace Gas
theorem corner_mem (s : St) (a b c d : Bool) : (⟨endOf s.glo s.ghi a, endOf s.ylo s.yhi b, endOf s.tlo s.thi c, endOf s.wlo s.whi d⟩ : Pt) ∈ corners s := by
  refine List.mem_map.2 ⟨a.toNat + 2 * b.toNat + 4 * c.toNat + 8 * d.toNat, ?_, ?_⟩
  · cases a <;> cases b <;> cases c <;> cases d <;> simp
  · cases a <;> cases b <;> cases c <;> cases d <;> rfl
theorem corners_has {s : St} (hs : s.Ok) {p : Pt} (h : p ∈ corners s) : s.Has p := by
  unfold corners cornersTo at h
  rw [List.mem_map] at h
  obtain ⟨k, -, rfl⟩ := h
  have := hs.g; have := hs.y; have := hs.t; have := hs.w
  refine ⟨⟨?_, ?_⟩, ⟨?_, ?_⟩, ⟨?_, ?_⟩, ⟨?_, ?_⟩⟩ <;> simp only [cornerAt, endOf] <;> split <;> omega

/-- The box of contents that reach all ends. -/
theorem box_eq {l : List Pt} {T : St} (h : ∀ p ∈ l, T.Has p) (a1 : ∃ p ∈ l, p.g = T.glo) (a2 : ∃ p ∈ l, p.g = T.ghi) (b1 : ∃ p ∈ l, p.y = T.ylo) (b2 : ∃ p ∈ l, p.y = T.yhi)
    (c1 : ∃ p ∈ l, p.t = T.tlo) (c2 : ∃ p ∈ l, p.t = T.thi) (d1 : ∃ p ∈ l, p.w = T.wlo) (d2 : ∃ p ∈ l, p.w = T.whi) : boxOf l = T := by
  have e (f : Pt → Int) (lo hi : Int) (h1 : ∃ p ∈ l, f p = lo) (h2 : ∃ p ∈ l, f p = hi) (h3 : ∀ p ∈ l, lo ≤ f p ∧ f p ≤ hi) : wideL (l.map f) = (lo, hi) := by
    refine wide_eq (List.mem_map.2 h1) (List.mem_map.2 h2) fun x hx => ?_
    obtain ⟨p, hp, rfl⟩ := List.mem_map.1 hx
    exact h3 p hp
  have e1 := e (·.g) T.glo T.ghi a1 a2 fun p hp => (h p hp).g
  have e2 := e (·.y) T.ylo T.yhi b1 b2 fun p hp => (h p hp).y
  have e3 := e (·.t) T.tlo T.thi c1 c2 fun p hp => (h p hp).t
  have e4 := e (·.w) T.wlo T.whi d1 d2 fun p hp => (h p hp).w
  unfold boxOf
  rw [e1, e2, e3, e4]
theorem at_corner {s : St} {f : Pt → Pt} (a b c d : Bool) {r : Pt → Int} {v : Int} (h : r (f ⟨endOf s.glo s.ghi a, endOf s.ylo s.yhi b, endOf s.tlo s.thi c, endOf s.wlo s.whi d⟩) = v) : ∃ p ∈ (corners s).map f, r p = v :=
  ⟨_, List.mem_map.2 ⟨_, corner_mem s a b c d, rfl⟩, h⟩
theorem min_cases {a b : Int} : min a b = a ∨ min a b = b := by omega
theorem max_cases {a b : Int} : max a b = a ∨ max a b = b := by omega

theorem inj_all {c : Cav} {s : St} {l : Pt} (hc : c.Ok) (hs : s.Ok) (hl : l.Wide) :
    (∀ p ∈ corners s, (inject c p l).ok = true) ↔ (s.ghi + l.g ≤ 1000000 ∧ s.yhi + l.y ≤ 1000000 ∧ s.whi + l.w ≤ 1000000000) := by
  constructor
  · intro h
    have := Pt.ok_iff.1 (h _ (corner_mem s true true true true))
    exact ⟨this.g.2, this.y.2, this.w.2⟩
  · intro h p hp
    exact Pt.ok_iff.2 ((inj_has hc hs ⟨hl.g.1, hl.y.1⟩ (corners_has hs hp)).ok (inj_ok hc hs ⟨hl.g.1, hl.y.1, hl.w.1, hl.t.1, hl.t.2⟩ h))
theorem inj_box {c : Cav} {s : St} {l : Pt} (hc : c.Ok) (hs : s.Ok) (hl : l.Wide) : boxOf ((corners s).map fun p => inject c p l) = injS c s l := by
  refine box_eq ?_ (at_corner false false false false rfl) (at_corner true true true true rfl) (at_corner false false false false rfl) (at_corner true true true true rfl) ?_ ?_ (at_corner false false false false rfl) (at_corner true true true true rfl)
  · intro q hq
    obtain ⟨p, hp, rfl⟩ := List.mem_map.1 hq
    exact inj_has hc hs ⟨hl.g.1, hl.y.1⟩ (corners_has hs hp)
  · rcases min_cases (a := warm (heat c s.low) s.tlo (heat c l) l.t) (b := warm (heat c s.high) s.tlo (heat c l) l.t) with e | e
    · exact at_corner false false false false e.symm
    · exact at_corner true true false false e.symm
  · rcases max_cases (a := warm (heat c s.low) s.thi (heat c l) l.t) (b := warm (heat c s.high) s.thi (heat c l) l.t) with e | e
    · exact at_corner false false true false e.symm
    · exact at_corner true true true false e.symm

theorem left_all {s : St} {m : Int} (hs : s.Ok) : (∀ p ∈ corners s, m ≤ p.g + p.y) ↔ m ≤ s.glo + s.ylo := by
  constructor
  · intro h
    exact h _ (corner_mem s false false false false)
  · intro h p hp
    have := corners_has hs hp
    have := this.g; have := ‹s.Has p›.y
    omega
theorem left_box {s : St} {m : Int} (hs : s.Ok) (hm : 0 ≤ m) (h : m ≤ s.glo + s.ylo) : boxOf ((corners s).map fun p => left p m) = leftS s m := by
  refine box_eq ?_ (at_corner false false false false rfl) (at_corner true true true true rfl) (at_corner false false false false rfl) (at_corner true true true true rfl) (at_corner false false false false rfl) (at_corner true true true true rfl) (at_corner false false false false rfl) (at_corner true true true true rfl)
  intro q hq
  obtain ⟨p, hp, rfl⟩ := List.mem_map.1 hq
  exact (left_has hs hm h (corners_has hs hp)).1
def Out.st (o : Out) : St := ⟨o.glo, o.ghi, o.ylo, o.yhi, 0, 0, o.wlo, o.whi⟩
theorem out_box {s : St} {m : Int} (hs : s.Ok) (hm : 0 ≤ m) (h : m ≤ s.glo + s.ylo) : boxOf ((corners s).map fun p => out p m) = (outS s m).st := by
  refine box_eq ?_ (at_corner false true true true rfl) (at_corner true false true true rfl) (at_corner true false true true rfl) (at_corner false true true true rfl) (at_corner false false false false rfl) (at_corner true true true true rfl) (at_corner true true false false rfl) (at_corner false false true true rfl)
  intro q hq
  obtain ⟨p, hp, rfl⟩ := List.mem_map.1 hq
  have := (left_has hs hm h (corners_has hs hp)).2
  exact ⟨this.g, this.y, ⟨by have := this.t; simp only [Out.st]; omega, by have := this.t; simp only [Out.st]; omega⟩, this.w⟩

theorem rest_all {c : Cav} {s : St} {a b x y : Int} (hc : c.Ok) (hs : s.Ok) (h : 0 ≤ a ∧ a ≤ b ∧ b ≤ 1000) (k : 0 ≤ x ∧ x ≤ y) :
    (∀ p ∈ corners s, ((rest c p a x).ok && (rest c p b y).ok) = true) ↔ s.whi + y ≤ 1000000000 := by
  constructor
  · intro g
    have := g _ (corner_mem s true true true true)
    rw [Bool.and_eq_true] at this
    exact (Pt.ok_iff.1 this.2).w.2
  · intro g p hp
    have e := rest_ok hc hs h k g
    rw [Bool.and_eq_true]
    exact ⟨Pt.ok_iff.2 ((rest_has hc h (corners_has hs hp) ⟨Int.le_refl _, h.2.1⟩ ⟨Int.le_refl _, k.2⟩).ok e), Pt.ok_iff.2 ((rest_has hc h (corners_has hs hp) ⟨h.2.1, Int.le_refl _⟩ ⟨k.2, Int.le_refl _⟩).ok e)⟩
theorem at_corner2 {s : St} {f g : Pt → Pt} (a b c d : Bool) {r : Pt → Int} {v : Int} (h : r (f ⟨endOf s.glo s.ghi a, endOf s.ylo s.yhi b, endOf s.tlo s.thi c, endOf s.wlo s.whi d⟩) = v ∨ r (g ⟨endOf s.glo s.ghi a, endOf s.ylo s.yhi b, endOf s.tlo s.thi c, endOf s.wlo s.whi d⟩) = v) :
    ∃ p ∈ (corners s).flatMap fun p => [f p, g p], r p = v := by
  rcases h with h | h
  · exact ⟨_, List.mem_flatMap.2 ⟨_, corner_mem s a b c d, List.Mem.head _⟩, h⟩
  · exact ⟨_, List.mem_flatMap.2 ⟨_, corner_mem s a b c d, List.Mem.tail _ (List.Mem.head _)⟩, h⟩
theorem rest_box {c : Cav} {s : St} {a b x y : Int} (hc : c.Ok) (hs : s.Ok) (h : 0 ≤ a ∧ a ≤ b ∧ b ≤ 1000) (k : 0 ≤ x ∧ x ≤ y) :
    boxOf ((corners s).flatMap fun p => [rest c p a x, rest c p b y]) = restS c s a b x y := by
  refine box_eq ?_ (at_corner2 false false false false (.inl rfl)) (at_corner2 true true true true (.inl rfl)) (at_corner2 false false false false (.inl rfl)) (at_corner2 true true true true (.inl rfl)) (at_corner2 false false false false ?_) (at_corner2 true true true true ?_) (at_corner2 false false false false (.inl rfl)) (at_corner2 true true true true (.inr rfl))
  · intro q hq
    obtain ⟨p, hp, hq⟩ := List.mem_flatMap.1 hq
    simp only [List.mem_cons, List.not_mem_nil, or_false] at hq
    rcases hq with rfl | rfl
    · exact rest_has hc h (corners_has hs hp) ⟨Int.le_refl _, h.2.1⟩ ⟨Int.le_refl _, k.2⟩
    · exact rest_has hc h (corners_has hs hp) ⟨h.2.1, Int.le_refl _⟩ ⟨k.2, Int.le_refl _⟩
  · rcases min_cases (a := near c.rock s.tlo a) (b := near c.rock s.tlo b) with e | e
    · exact .inl e.symm
    · exact .inr e.symm
  · rcases max_cases (a := near c.rock s.thi a) (b := near c.rock s.thi b) with e | e
    · exact .inl e.symm
    · exact .inr e.symm

/-- What an operation can be that the walks take: as defined, or so many lots, or so many units. -/
def Op.Fit (o : Op) : Prop := (o.kind = 1 ∧ o.lot.Wide) ∨ (o.kind = 2 ∧ 0 ≤ o.moles ∧ o.moles ≤ 100000000) ∨ (o.kind = 3 ∧ (0 ≤ o.slo ∧ o.slo ≤ o.shi ∧ o.shi ≤ 1000) ∧ (0 ≤ o.wlo ∧ o.wlo ≤ o.whi ∧ o.whi ≤ 1000000))
theorem Op.Is.fit {o : Op} (h : o.Is) : o.Fit := by
  cases h with
  | inject p h => exact .inl ⟨rfl, h.wide⟩
  | withdraw m h => exact .inr (.inl ⟨rfl, h.1, by show m ≤ _; omega⟩)
  | rest a b x y h k => exact .inr (.inr ⟨rfl, h, k⟩)
end Gas
