/- Laws and walks: GPut, GInj, GSto, GDof, GPrs, GOps, GFrg, SMem. -/
import Derived.Deep.AppendLies
import Derived.Shelf.Abstract
import Derived.Shelf.RegionOpen
import Derived.OwnWalkIn
import Derived.TacticsInMore
import Derived.LoopNIn
import Derived.LoopIn
import Derived.MapKept
import Derived.Maps.OwnOps
import Derived.Recover
import Derived.Defers
import Derived.Laws.Pointers
import Derived.ProofKit
import Derived.OpenShut
import Derived.Deep.Slices
import Derived.ChangeOld
import Derived.Test.YtpcamocnlnlgiaaGreatRows
import Derived.ShutString
import Derived.Below
import Derived.Test.YtpcamocnlnlgiaaGreatK03
set_option maxRecDepth 100000
set_option maxHeartbeats 16000000
set_option linter.unusedVariables false
set_option linter.unusedSimpArgs false
namespace Go.Proofs.YtpcamocnlnlgiaaGreat.G
open Go.RowKit Go.Sd Gas
structure PutMid (B : Nat) (X : World) (v : Nat → Value) (l : Nat → List Int) (x : Nat → Int) (bb : Nat) (listed : Array Bool) (a : Act) (w : World) (r : Nat → Value) : Prop where
 sz : a.tmps.size = 48
 df : a.defers = []
 ps : ∀ i, 4 ≤ i → i < 8 → a.tmps[i]? = some (.pointer (some ⟨bb, 0, none⟩))
 xs : ∀ k, k < 4 → a.tmps[8 * k + 13]? = some (.int .i64 (x k))
 vs : ∀ k, k < 4 → a.tmps[8 * k + 11]? = some (v k)
 done : ∀ k, k < 4 → listed.getD (8 * k + 11) true = true → a.tmps[8 * k + 15]? = some (r k) ∧ OwnInts B w (r k) (l k ++ [x k])
 todo : ∀ k, k < 4 → listed.getD (8 * k + 11) true = false → r k = v k ∧ OwnInts B w (v k) (l k)
 orig : ∀ k, k < 4 → (r k).ownBlock = (v k).ownBlock ∨ ∃ m, X.heap.size ≤ m ∧ (r k).ownBlock = some m
 dis : ∀ i j, i < 4 → j < 4 → i ≠ j → ∀ b, (r i).ownBlock = some b → (r j).ownBlock ≠ some b
 built : ∀ k, k < 4 → listed.getD (8 * k + 10) true = true → listed.getD (8 * k + 11) true = false →
  ∃ n, a.tmps[8 * k + 14]? = some (.slice (some ⟨n, 0, none⟩) 1 1) ∧ w.heap[n]? = some (.cells #[.int .i64 (x k)] 3 (0, 0)) ∧ ∀ j, j < 4 → (r j).ownBlock ≠ some n
 kept : Kept (fun b => ∀ k, k < 4 → (v k).ownBlock ≠ some b) X w
 base : B ≤ X.heap.size
section
variable {B : Nat} {X : World} {v : Nat → Value} {l : Nat → List Int} {x : Nat → Int} {bb : Nat} {listed : Array Bool} {a : Act} {w : World} {r : Nat → Value}
theorem PutMid.lt (h : PutMid B X v l x bb listed a w r) {k : Nat} (hk : k < 4) : ∀ b, (r k).ownBlock = some b → B ≤ b ∧ b < w.heap.size := by
 intro b hb
 cases hl : listed.getD (8 * k + 11) true with
 | true => exact (h.done k hk hl).2.lt b hb
 | false => have := h.todo k hk hl; rw [this.1] at hb; exact this.2.lt b hb
end
end Go.Proofs.YtpcamocnlnlgiaaGreat.G
namespace Go.Proofs.YtpcamocnlnlgiaaGreat.G
open Go.RowKit Go.Sd Gas
theorem own_slice {B : Nat} {w : World} {v : Value} {xs : List Int} (h : OwnInts B w v xs) : ∃ p n c, v = .slice p n c := by
 obtain ⟨_, h2⟩ := h
 rcases h2 with ⟨rfl, _⟩ | ⟨g, cap, cur, rfl, _⟩ <;> exact ⟨_, _, _, rfl⟩
theorem OwnInts.block {B : Nat} {w w' : World} {v : Value} {xs : List Int} (h : OwnInts B w v xs) (hb : ∀ k, v.ownBlock = some k → w'.heap[k]? = w.heap[k]?) : OwnInts B w' v xs := by
 obtain ⟨h1, h2⟩ := h
 refine ⟨h1, ?_⟩
 rcases h2 with h2 | ⟨g, cap, cur, rfl, hB, hg, r⟩
 · exact .inl h2
 · exact .inr ⟨g, cap, cur, rfl, hB, (hb g rfl).trans hg, r⟩
end Go.Proofs.YtpcamocnlnlgiaaGreat.G
namespace Go.Proofs.YtpcamocnlnlgiaaGreat.G
open Go.RowKit Go.Sd Gas
end Go.Proofs.YtpcamocnlnlgiaaGreat.G
set_option linter.unusedVariables false
set_option linter.unusedSimpArgs false
namespace Go.Proofs.YtpcamocnlnlgiaaGreat.G
open Go.RowKit Go.Sd Gas
attribute [local go_sem] Oper.semAt_some
theorem set_one {w : World} {n : Nat} {c : Array Value} {e : TypeId} (h : w.heap[n]? = some (.cells c e (0, 0))) (i : Nat) (v : Value) : (w.setCell ⟨n, i, none⟩ v).heap[n]? = some (.cells (c.setIfInBounds i v) e (0, 0)) := by
 simp only [World.setCell, Array.getElem?_modify, if_true, h]
 rfl
end Go.Proofs.YtpcamocnlnlgiaaGreat.G
set_option linter.unusedVariables false
set_option linter.unusedSimpArgs false
namespace Go.Proofs.YtpcamocnlnlgiaaGreat.G
open Go.RowKit Go.Sd Gas
theorem set_cells4 {w : World} {n : Nat} {a0 a1 a2 a3 : Value} {e : TypeId} (h : w.heap[n]? = some (.cells #[a0, a1, a2, a3] e (0, 0))) (b0 b1 b2 b3 : Value) :
    ((((w.setCell ⟨n, 0, none⟩ b0).setCell ⟨n, 1, none⟩ b1).setCell ⟨n, 2, none⟩ b2).setCell ⟨n, 3, none⟩ b3).heap[n]? = some (.cells #[b0, b1, b2, b3] e (0, 0)) := by
 have h0 := set_one h 0 b0
 have h1 := set_one h0 1 b1
 have h2 := set_one h1 2 b2
 have h3 := set_one h2 3 b3
 simpa using h3
theorem set_below4 {B : Nat} {v w : World} {n : Nat} (hk : Below B v w) (h : B ≤ n) (b0 b1 b2 b3 : Value) : Below B v ((((w.setCell ⟨n, 0, none⟩ b0).setCell ⟨n, 1, none⟩ b1).setCell ⟨n, 2, none⟩ b2).setCell ⟨n, 3, none⟩ b3) :=
 (((hk.setCell h _).setCell h _).setCell h _).setCell h _
end Go.Proofs.YtpcamocnlnlgiaaGreat.G
namespace Gas
def Out.st (o : Out) : St := ⟨o.glo, o.ghi, o.ylo, o.yhi, 0, 0, o.wlo, o.whi⟩
def Op.Fit (o : Op) : Prop := (o.kind = 1 ∧ o.lot.Wide) ∨ (o.kind = 2 ∧ 0 ≤ o.moles ∧ o.moles ≤ 100000000) ∨ (o.kind = 3 ∧ (0 ≤ o.slo ∧ o.slo ≤ o.shi ∧ o.shi ≤ 1000) ∧ (0 ≤ o.wlo ∧ o.wlo ≤ o.whi ∧ o.whi ≤ 1000000))
theorem Op.Is.fit {o : Op} (h : o.Is) : o.Fit := by
 cases h with
 | inject p h => exact .inl ⟨rfl, h.wide⟩
 | withdraw m h => exact .inr (.inl ⟨rfl, h.1, by show m ≤ _; omega⟩)
 | rest a b x y h k => exact .inr (.inr ⟨rfl, h, k⟩)
end Gas
set_option linter.unusedVariables false
set_option linter.unusedSimpArgs false
namespace Go.Proofs.YtpcamocnlnlgiaaGreat.G
open Go.RowKit Go.Sd Gas
abbrev st0 : Gas.St := ⟨0, 0, 0, 0, 0, 0, 0, 0⟩
end Go.Proofs.YtpcamocnlnlgiaaGreat.G
set_option linter.unusedVariables false
set_option linter.unusedSimpArgs false
namespace Go.Proofs.YtpcamocnlnlgiaaGreat.G
open Go.RowKit Go.Sd Gas
theorem mul_bd {c : Cav} (hc : c.Ok) {v : Int} (hv : 1 ≤ v ∧ v ≤ 1000000) : (0 ≤ c.least * v ∧ c.least * v ≤ 100000000000) ∧ (0 ≤ c.most * v ∧ c.most * v ≤ 100000000000) := by
 have := hc.p
 have a := bd_mul (A := 100000) (B := 1000000) (a := c.least) (b := v) ⟨by omega, by omega⟩ ⟨by omega, hv.2⟩
 have b := bd_mul (A := 100000) (B := 1000000) (a := c.most) (b := v) ⟨by omega, by omega⟩ ⟨by omega, hv.2⟩
 exact ⟨⟨a.1, by omega⟩, ⟨b.1, by omega⟩⟩
theorem force_nn {c : Cav} {p : Pt} (hc : c.Ok) (hg : 0 ≤ p.g ∧ p.g ≤ 1000000) (hy : 0 ≤ p.y ∧ p.y ≤ 1000000) (ht : 0 ≤ p.t ∧ p.t ≤ 5000) : 0 ≤ force c p ∧ force c p ≤ 400000000000000000 := by
 have := force_bd hc hg hy ht; unfold force; omega
theorem lowT {s : St} (hs : s.Ok) : (0 ≤ s.low.t ∧ s.low.t ≤ 5000) ∧ (0 ≤ s.high.t ∧ s.high.t ≤ 5000) := by have := hs.t; simp only [St.low, St.high]; omega
end Go.Proofs.YtpcamocnlnlgiaaGreat.G
set_option linter.unusedVariables false
set_option linter.unusedSimpArgs false
namespace Gas
def theOp (l : List Op) (k : Nat) : Op := l.getD k ⟨0, 0, 0, 0, 0, 0, 0, 0, 0, 0⟩
end Gas
namespace Go.Proofs.YtpcamocnlnlgiaaGreat.G
open Go.RowKit Go.Sd Gas
def OpCells (w : World) (b o : Nat) (x : Gas.Op) : Prop :=
 w.cell? ⟨b, o, none⟩ = some (.int .i64 x.kind) ∧ w.cell? ⟨b, o + 1, none⟩ = some (.int .i64 x.lg) ∧ w.cell? ⟨b, o + 2, none⟩ = some (.int .i64 x.ly) ∧ w.cell? ⟨b, o + 3, none⟩ = some (.int .i64 x.lt) ∧ w.cell? ⟨b, o + 4, none⟩ = some (.int .i64 x.lw) ∧ w.cell? ⟨b, o + 5, none⟩ = some (.int .i64 x.moles) ∧ w.cell? ⟨b, o + 6, none⟩ = some (.int .i64 x.slo) ∧ w.cell? ⟨b, o + 7, none⟩ = some (.int .i64 x.shi) ∧ w.cell? ⟨b, o + 8, none⟩ = some (.int .i64 x.wlo) ∧ w.cell? ⟨b, o + 9, none⟩ = some (.int .i64 x.whi)
theorem OpCells.mono {w w' : World} {b o : Nat} {x : Gas.Op} (h : OpCells w b o x) (hb : Below w.heap.size w w') : OpCells w' b o x := by
 obtain ⟨h0, h1, h2, h3, h4, h5, h6, h7, h8, h9⟩ := h
 exact ⟨kept_cell hb h0, kept_cell hb h1, kept_cell hb h2, kept_cell hb h3, kept_cell hb h4, kept_cell hb h5, kept_cell hb h6, kept_cell hb h7, kept_cell hb h8, kept_cell hb h9⟩
def OpsAt (w : World) (v : Value) (xs : List Gas.Op) : Prop :=
 ∃ a cap, v = .slice a xs.length cap ∧ xs.length ≤ maxLen ∧
  (0 < xs.length → ∃ b off, a = some ⟨b, off, none⟩ ∧ b < w.heap.size ∧ ∀ k, k < xs.length → OpCells w b (off + k * 10) (theOp xs k))
theorem OpsAt.mono {w w' : World} {v : Value} {xs : List Gas.Op} (h : OpsAt w v xs) (hb : Below w.heap.size w w') : OpsAt w' v xs := by
 obtain ⟨a, cap, rfl, hm, hc⟩ := h
 refine ⟨a, cap, rfl, hm, fun h0 => ?_⟩
 obtain ⟨b, off, rfl, hlt, hk⟩ := hc h0
 exact ⟨b, off, rfl, Nat.lt_of_lt_of_le hlt hb.size, fun k hk' => (hk k hk').mono hb⟩
end Go.Proofs.YtpcamocnlnlgiaaGreat.G
set_option linter.unusedVariables false
set_option linter.unusedSimpArgs false
namespace Go.Proofs.YtpcamocnlnlgiaaGreat.G
open Go.ChangeShapes Go.WideShapes Go.Deep Go.Sd Gas
theorem list_of {α : Type} (d : α) {P : Nat → α → Prop} : ∀ (n : Nat), (∀ i, i < n → ∃ x, P i x) → ∃ xs : List α, xs.length = n ∧ ∀ i, i < n → P i (xs.getD i d)
 | 0, _ => ⟨[], rfl, fun i h => absurd h (Nat.not_lt_zero i)⟩
 | n + 1, h => by
  obtain ⟨xs, hl, hx⟩ := list_of d n (fun i hi => h i (by omega))
  obtain ⟨x, hp⟩ := h n (by omega)
  refine ⟨xs ++ [x], by simp [hl], fun i hi => ?_⟩
  by_cases e : i < n
  · have := hx i e
    rwa [List.getD_eq_getElem?_getD, List.getElem?_append_left (by omega), ← List.getD_eq_getElem?_getD]
  · obtain rfl : i = n := by omega
    rw [List.getD_eq_getElem?_getD, List.getElem?_append_right (by omega)]
    simpa [hl] using hp
theorem add_none (b off i : Nat) : (⟨b, off, none⟩ : Addr).add i = ⟨b, off + i, none⟩ := by
 unfold Addr.add
 by_cases h : i = 0 <;> simp [h]
theorem cells_int : Tryz.prog.cellsOf 3 = 1 := by kernel_rfl
theorem cells_span : Tryz.prog.cellsOf 23 = 2 := by kernel_rfl
theorem frOwn : ownKnob Tryz.prog.godebug = none := by kernel_rfl
theorem frLaid : laidOutB Tryz.prog = true := by kernel_rfl
end Go.Proofs.YtpcamocnlnlgiaaGreat.G
set_option linter.unusedVariables false
set_option linter.unusedSimpArgs false
namespace Sea
structure Row where
 fill : Int
 inn : Int
 out : Int
structure Day where
 buy : Int
 sell : Int
 offer : Int
 take : Int
 glo : Int
 ghi : Int
 nlo : Int
 nhi : Int
structure S where
 space : Int
 start : Int
 elo : Int
 ehi : Int
 rows : List Row
 days : List Day
def rowAt (l : List Row) (k : Nat) : Row := l.getD k ⟨0, 0, 0⟩
def dayAt (l : List Day) (k : Nat) : Day := l.getD k ⟨0, 0, 0, 0, 0, 0, 0, 0⟩
def at0 (l : List Int) (k : Nat) : Int := l.getD k 0
def never : Int := 1000000000000000
def inB (x low high : Int) : Bool := decide (low ≤ x) && decide (x ≤ high)
def spanB (lo hi low high : Int) : Bool := decide (low ≤ lo) && decide (lo ≤ hi) && decide (hi ≤ high)
def rowB (rows : List Row) (i : Nat) : Bool :=
 inB (rowAt rows i).fill 0 100 && inB (rowAt rows i).inn 0 100 && inB (rowAt rows i).out 0 100 &&
  !(decide (i = 0) && decide ((rowAt rows i).fill ≠ 0)) && !(decide (0 < i) && decide ((rowAt rows i).fill ≤ (rowAt rows (i - 1)).fill))
def rowsB (rows : List Row) : Bool := (List.range rows.length).all (rowB rows)
def dayB (space : Int) (d : Day) : Bool :=
 inB d.buy 0 1000000 && inB d.sell 0 1000000 && inB d.offer 0 100 && inB d.take 0 100 && spanB d.glo d.ghi 0 space && spanB d.nlo d.nhi (-100) 100
def daysB (s : S) : Bool := (List.range s.days.length).all fun i => dayB s.space (dayAt s.days i)
def headB (s : S) : Bool :=
 inB s.space 1 100 && inB s.start 0 s.space && spanB s.elo s.ehi 0 s.space && inB s.rows.length 1 8 && inB s.days.length 1 20
def validB (s : S) : Bool := headB s && rowsB s.rows && daysB s
structure Ok (s : S) : Prop where
 space : 1 ≤ s.space ∧ s.space ≤ 100
 start : 0 ≤ s.start ∧ s.start ≤ s.space
 fin : 0 ≤ s.elo ∧ s.elo ≤ s.ehi ∧ s.ehi ≤ s.space
 nrows : 1 ≤ s.rows.length ∧ s.rows.length ≤ 8
 ndays : 1 ≤ s.days.length ∧ s.days.length ≤ 20
 row0 : (rowAt s.rows 0).fill = 0
 rows : ∀ k, k < s.rows.length → 0 ≤ (rowAt s.rows k).fill ∧ (rowAt s.rows k).fill ≤ 100 ∧ 0 ≤ (rowAt s.rows k).inn ∧ (rowAt s.rows k).inn ≤ 100 ∧ 0 ≤ (rowAt s.rows k).out ∧ (rowAt s.rows k).out ≤ 100
 days : ∀ k, k < s.days.length → 0 ≤ (dayAt s.days k).buy ∧ (dayAt s.days k).buy ≤ 1000000 ∧ 0 ≤ (dayAt s.days k).sell ∧ (dayAt s.days k).sell ≤ 1000000 ∧
  0 ≤ (dayAt s.days k).offer ∧ (dayAt s.days k).offer ≤ 100 ∧ 0 ≤ (dayAt s.days k).take ∧ (dayAt s.days k).take ≤ 100 ∧
  0 ≤ (dayAt s.days k).glo ∧ (dayAt s.days k).glo ≤ (dayAt s.days k).ghi ∧ (dayAt s.days k).ghi ≤ s.space ∧
  -100 ≤ (dayAt s.days k).nlo ∧ (dayAt s.days k).nlo ≤ (dayAt s.days k).nhi ∧ (dayAt s.days k).nhi ≤ 100
theorem inB_iff {x l h : Int} : inB x l h = true ↔ l ≤ x ∧ x ≤ h := by simp [inB]
theorem spanB_iff {a b l h : Int} : spanB a b l h = true ↔ l ≤ a ∧ a ≤ b ∧ b ≤ h := by simp [spanB, and_assoc]
theorem ok_of_valid {s : S} (h : validB s = true) : Ok s := by
 simp only [validB, headB, rowsB, daysB, Bool.and_eq_true, inB_iff, spanB_iff, List.all_eq_true, List.mem_range] at h
 obtain ⟨⟨⟨⟨⟨⟨h1, h2⟩, h3⟩, h4⟩, h5⟩, hr⟩, hd⟩ := h
 refine ⟨h1, h2, h3, by omega, by omega, ?_, fun k hk => ?_, fun k hk => ?_⟩
 · have := hr 0 (by omega)
   simp only [rowB, Bool.and_eq_true, inB_iff] at this
   have h6 := this.1.2
   simp at h6
   exact h6
 · have := hr k hk
   simp only [rowB, Bool.and_eq_true, inB_iff] at this
   omega
 · have := hd k hk
   simp only [dayB, Bool.and_eq_true, inB_iff, spanB_iff] at this
   omega
def limTo (rows : List Row) (fill : Int) : Nat → Row
 | 0 => rowAt rows 0
 | k + 1 => if (rowAt rows k).fill ≤ fill then rowAt rows k else limTo rows fill k
def S.lim (s : S) (fill : Int) : Row := limTo s.rows fill s.rows.length
def S.rule (s : S) (day : Nat) (fill nom x : Int) : Int :=
 if (dayAt s.days day).offer < x then 2
 else if (dayAt s.days day).take < -x then 3
 else if (s.lim fill).inn < nom + x then 4
 else if (s.lim fill).out < -nom - x then 5
 else if inB (fill + nom + x) (dayAt s.days day).glo (dayAt s.days day).ghi = false then 6
 else if (day : Int) = (s.days.length : Int) - 1 ∧ inB (fill + nom + x) s.elo s.ehi = false then 7
 else 1
def S.cost (s : S) (day : Nat) (x : Int) : Int := if x < 0 then x * (dayAt s.days day).sell else x * (dayAt s.days day).buy
def leastTo (s : S) (day : Nat) (fill nom : Int) (next : List Int) : Nat → Int × Int
 | 0 => (never, 0)
 | k + 1 =>
  let b := leastTo s day fill nom next k
  let x := (k : Int) - (dayAt s.days day).take
  if s.rule day fill nom x = 1 ∧ at0 next (fill + nom + x).toNat < never ∧ s.cost day x + at0 next (fill + nom + x).toNat < b.1
  then (s.cost day x + at0 next (fill + nom + x).toNat, x) else b
def S.least (s : S) (day : Nat) (fill nom : Int) (next : List Int) : Int × Int :=
 leastTo s day fill nom next ((dayAt s.days day).take + (dayAt s.days day).offer + 1).toNat
def lstAt (l : List (List Int)) (k : Nat) : List Int := l.getD k []
structure Span where
 lo : Int
 hi : Int
 deriving DecidableEq
def spanAt (l : List Span) (k : Nat) : Span := l.getD k ⟨0, 0⟩
def spansAt (l : List (List Span)) (k : Nat) : List Span := l.getD k []
def before : List Int → List Int → Bool
 | a :: ar, b :: br => if a = b then before ar br else decide (a < b)
 | _, _ => false
def S.lastAt (s : S) (f : Int) : Int := if inB f s.elo s.ehi then 0 else never
def S.last (s : S) : List Int := (List.range (s.space + 1).toNat).map fun (f : Nat) => s.lastAt (f : Int)
def S.nomsB (s : S) (l : List Int) : Bool := decide (l.length = s.days.length) && (List.range l.length).all fun t => inB (at0 l t) (dayAt s.days t).nlo (dayAt s.days t).nhi
def S.planB (s : S) (l : List Int) : Bool := (l.all fun n => inB n (-100) 100) && decide (l.length = s.days.length)
end Sea
namespace Sea
def tbl (n : Nat) (v : Nat → List Int) (j m : Nat) : List (List Int) :=
 (List.range (n + 1)).map fun t => if n < t + j then v (n - t) else if t + j = n then (v j).take m else []
theorem tbl_length (n : Nat) (v : Nat → List Int) (j m : Nat) : (tbl n v j m).length = n + 1 := by simp [tbl]
theorem tbl_at (n : Nat) (v : Nat → List Int) (j m t : Nat) (h : t ≤ n) : lstAt (tbl n v j m) t = if n < t + j then v (n - t) else if t + j = n then (v j).take m else [] := by
 unfold lstAt tbl
 simp [show t < n + 1 by omega]
theorem lists_ext {a b : List (List Int)} (hl : a.length = b.length) (h : ∀ t, t < a.length → lstAt a t = lstAt b t) : a = b := by
 apply List.ext_getElem hl
 intro i h1 h2
 have := h i h1
 unfold lstAt at this
 simpa [h1, h2] using this
theorem tbl_start (n : Nat) (v : Nat → List Int) : tbl n v 0 0 = List.replicate (n + 1) [] := by
 apply lists_ext (by simp [tbl])
 intro t ht
 rw [tbl_length] at ht
 rw [tbl_at n v 0 0 t (by omega), if_neg (by omega)]
 have : lstAt (List.replicate (n + 1) ([] : List Int)) t = [] := by unfold lstAt; simp [ht]
 rw [this]; split <;> simp
theorem tbl_more (n : Nat) (v : Nat → List Int) (j m : Nat) (y : Int) (hj : j ≤ n) (hm : (v j)[m]? = some y) :
    (tbl n v j m).set (n - j) (lstAt (tbl n v j m) (n - j) ++ [y]) = tbl n v j (m + 1) := by
 apply lists_ext (by simp [tbl])
 intro t ht
 rw [List.length_set, tbl_length] at ht
 have hs : lstAt ((tbl n v j m).set (n - j) (lstAt (tbl n v j m) (n - j) ++ [y])) t = if t = n - j then lstAt (tbl n v j m) (n - j) ++ [y] else lstAt (tbl n v j m) t := by
  unfold lstAt
  by_cases h : t = n - j
  · subst h; simp [tbl_length, show n - j < n + 1 by omega]
  · simp [h, List.getElem?_set, Ne.symm h]
 rw [hs, tbl_at n v j (m + 1) t (by omega)]
 by_cases h : t = n - j
 · rw [if_pos h, tbl_at n v j m (n - j) (by omega), if_neg (by omega), if_pos (by omega), if_neg (by omega), if_pos (by omega), List.take_add_one, hm]
   rfl
 · rw [if_neg h, tbl_at n v j m t (by omega)]
   by_cases h1 : n < t + j
   · rw [if_pos h1, if_pos h1]
   · rw [if_neg h1, if_neg h1, if_neg (by omega), if_neg (by omega)]
theorem tbl_next (n : Nat) (v : Nat → List Int) (j m : Nat) (hj : j ≤ n) (hm : (v j).length ≤ m) : tbl n v j m = tbl n v (j + 1) 0 := by
 apply lists_ext (by simp [tbl])
 intro t ht
 rw [tbl_length] at ht
 rw [tbl_at n v j m t (by omega), tbl_at n v (j + 1) 0 t (by omega)]
 by_cases h1 : n < t + j
 · rw [if_pos h1, if_pos (by omega)]
 · rw [if_neg h1]
   by_cases h2 : t + j = n
   · rw [if_pos h2, if_pos (by omega), List.take_of_length_le hm, show n - t = j by omega]
   · rw [if_neg h2, if_neg (by omega)]; split <;> simp
def whole (n : Nat) (v : Nat → List Int) : List (List Int) := (List.range (n + 1)).map fun t => v (n - t)
theorem tbl_whole (n : Nat) (v : Nat → List Int) : tbl n v (n + 1) 0 = whole n v := by
 unfold tbl whole
 apply List.map_congr_left
 intro t ht
 rw [if_pos (by omega)]
def S.vals (s : S) (noms : List Int) : Nat → List Int
 | 0 => s.last
 | j + 1 => (List.range (s.space + 1).toNat).map fun (f : Nat) => (s.least (s.days.length - 1 - j) f (at0 noms (s.days.length - 1 - j)) (S.vals s noms j)).1
def S.proof (s : S) (noms : List Int) : List (List Int) := whole s.days.length (s.vals noms)
theorem S.vals_length (s : S) (noms : List Int) (j : Nat) : (s.vals noms j).length = (s.space + 1).toNat := by cases j <;> simp [S.vals, S.last]
end Sea
namespace Go.Proofs.YtpcamocnlnlgiaaGreat.S
open Go.RowKit
def IntsAt (w : World) (v : Value) (xs : List Int) : Prop :=
 ∃ a cap, v = .slice a xs.length cap ∧ xs.length ≤ maxLen ∧
  (0 < xs.length → ∃ b off, a = some ⟨b, off, none⟩ ∧ b < w.heap.size ∧ ∀ k, k < xs.length → w.cell? ⟨b, off + k, none⟩ = some (.int .i64 (Sea.at0 xs k)))
def RowCells (w : World) (b o : Nat) (r : Sea.Row) : Prop :=
 w.cell? ⟨b, o, none⟩ = some (.int .i64 r.fill) ∧ w.cell? ⟨b, o + 1, none⟩ = some (.int .i64 r.inn) ∧ w.cell? ⟨b, o + 2, none⟩ = some (.int .i64 r.out)
def DayCells (w : World) (b o : Nat) (d : Sea.Day) : Prop :=
 w.cell? ⟨b, o, none⟩ = some (.int .i64 d.buy) ∧ w.cell? ⟨b, o + 1, none⟩ = some (.int .i64 d.sell) ∧ w.cell? ⟨b, o + 2, none⟩ = some (.int .i64 d.offer) ∧
 w.cell? ⟨b, o + 3, none⟩ = some (.int .i64 d.take) ∧ w.cell? ⟨b, o + 4, none⟩ = some (.int .i64 d.glo) ∧ w.cell? ⟨b, o + 5, none⟩ = some (.int .i64 d.ghi) ∧
 w.cell? ⟨b, o + 6, none⟩ = some (.int .i64 d.nlo) ∧ w.cell? ⟨b, o + 7, none⟩ = some (.int .i64 d.nhi)
def RowsAt (w : World) (v : Value) (xs : List Sea.Row) : Prop :=
 ∃ a cap, v = .slice a xs.length cap ∧ xs.length ≤ maxLen ∧
  (0 < xs.length → ∃ b off, a = some ⟨b, off, none⟩ ∧ b < w.heap.size ∧ ∀ k, k < xs.length → RowCells w b (off + k * 3) (Sea.rowAt xs k))
def DaysAt (w : World) (v : Value) (xs : List Sea.Day) : Prop :=
 ∃ a cap, v = .slice a xs.length cap ∧ xs.length ≤ maxLen ∧
  (0 < xs.length → ∃ b off, a = some ⟨b, off, none⟩ ∧ b < w.heap.size ∧ ∀ k, k < xs.length → DayCells w b (off + k * 8) (Sea.dayAt xs k))
def ListsAt (w : World) (v : Value) (xs : List (List Int)) : Prop :=
 ∃ a cap, v = .slice a xs.length cap ∧ xs.length ≤ maxLen ∧
  (0 < xs.length → ∃ b off, a = some ⟨b, off, none⟩ ∧ b < w.heap.size ∧ ∀ k, k < xs.length → ∃ ev, w.cell? ⟨b, off + k, none⟩ = some ev ∧ IntsAt w ev (Sea.lstAt xs k))
def SpansAt (w : World) (v : Value) (xs : List Sea.Span) : Prop :=
 ∃ a cap, v = .slice a xs.length cap ∧ xs.length ≤ maxLen ∧
  (0 < xs.length → ∃ b off, a = some ⟨b, off, none⟩ ∧ b < w.heap.size ∧ ∀ k, k < xs.length →
   w.cell? ⟨b, off + k * 2, none⟩ = some (.int .i64 (Sea.spanAt xs k).lo) ∧ w.cell? ⟨b, off + k * 2 + 1, none⟩ = some (.int .i64 (Sea.spanAt xs k).hi))
def SpanListsAt (w : World) (v : Value) (xs : List (List Sea.Span)) : Prop :=
 ∃ a cap, v = .slice a xs.length cap ∧ xs.length ≤ maxLen ∧
  (0 < xs.length → ∃ b off, a = some ⟨b, off, none⟩ ∧ b < w.heap.size ∧ ∀ k, k < xs.length → ∃ ev, w.cell? ⟨b, off + k, none⟩ = some ev ∧ SpansAt w ev (Sea.spansAt xs k))
def SeasonAt (w : World) (v : Value) (s : Sea.S) : Prop :=
 ∃ rv dv, v = .agg #[.int .i64 s.space, .int .i64 s.start, .int .i64 s.elo, .int .i64 s.ehi, rv, dv] ∧ RowsAt w rv s.rows ∧ DaysAt w dv s.days
abbrev rowV (r : Sea.Row) : Value := .agg #[.int .i64 r.fill, .int .i64 r.inn, .int .i64 r.out]
abbrev sBox (s : Sea.S) (rv dv : Value) : Obj := .cells #[.int .i64 s.space, .int .i64 s.start, .int .i64 s.elo, .int .i64 s.ehi, rv, dv] 30
theorem box_season {w W : World} {s : Sea.S} {rv dv : Value} (h : w.alloc (sBox s rv dv) = W) :
    w.heap.size < W.heap.size ∧ Below w.heap.size w W ∧
    W.cell? ⟨w.heap.size, 0, none⟩ = some (.int .i64 s.space) ∧ W.cell? ⟨w.heap.size, 1, none⟩ = some (.int .i64 s.start) ∧
    W.cell? ⟨w.heap.size, 2, none⟩ = some (.int .i64 s.elo) ∧ W.cell? ⟨w.heap.size, 3, none⟩ = some (.int .i64 s.ehi) ∧
    W.cell? ⟨w.heap.size, 4, none⟩ = some rv ∧ W.cell? ⟨w.heap.size, 5, none⟩ = some dv := by
 subst h
 refine ⟨by simp, (Below.refl _ _).alloc (Nat.le_refl _) _, ?_, ?_, ?_, ?_, ?_, ?_⟩ <;> simp [sBox]
/-! What stays -/
theorem kept_cell {w w' : World} (hb : Below w.heap.size w w') {b o : Nat} {v : Value} (h : w.cell? ⟨b, o, none⟩ = some v) : w'.cell? ⟨b, o, none⟩ = some v :=
 (hb.cell (p := ⟨b, o, none⟩) (World.block_lt_of_cell? w ⟨b, o, none⟩ h)).trans h
theorem RowCells.mono {w w' : World} {b o : Nat} {r : Sea.Row} (h : RowCells w b o r) (hb : Below w.heap.size w w') : RowCells w' b o r :=
 ⟨kept_cell hb h.1, kept_cell hb h.2.1, kept_cell hb h.2.2⟩
theorem DayCells.mono {w w' : World} {b o : Nat} {r : Sea.Day} (h : DayCells w b o r) (hb : Below w.heap.size w w') : DayCells w' b o r :=
 ⟨kept_cell hb h.1, kept_cell hb h.2.1, kept_cell hb h.2.2.1, kept_cell hb h.2.2.2.1, kept_cell hb h.2.2.2.2.1, kept_cell hb h.2.2.2.2.2.1, kept_cell hb h.2.2.2.2.2.2.1, kept_cell hb h.2.2.2.2.2.2.2⟩
theorem IntsAt.mono {w w' : World} {v : Value} {xs : List Int} (h : IntsAt w v xs) (hb : Below w.heap.size w w') : IntsAt w' v xs := by
 obtain ⟨a, cap, rfl, hm, hc⟩ := h
 refine ⟨a, cap, rfl, hm, fun h0 => ?_⟩
 obtain ⟨b, off, rfl, hlt, hk⟩ := hc h0
 exact ⟨b, off, rfl, Nat.lt_of_lt_of_le hlt hb.size, fun k hk' => kept_cell hb (hk k hk')⟩
theorem RowsAt.mono {w w' : World} {v : Value} {xs : List Sea.Row} (h : RowsAt w v xs) (hb : Below w.heap.size w w') : RowsAt w' v xs := by
 obtain ⟨a, cap, rfl, hm, hc⟩ := h
 refine ⟨a, cap, rfl, hm, fun h0 => ?_⟩
 obtain ⟨b, off, rfl, hlt, hk⟩ := hc h0
 exact ⟨b, off, rfl, Nat.lt_of_lt_of_le hlt hb.size, fun k hk' => (hk k hk').mono hb⟩
theorem DaysAt.mono {w w' : World} {v : Value} {xs : List Sea.Day} (h : DaysAt w v xs) (hb : Below w.heap.size w w') : DaysAt w' v xs := by
 obtain ⟨a, cap, rfl, hm, hc⟩ := h
 refine ⟨a, cap, rfl, hm, fun h0 => ?_⟩
 obtain ⟨b, off, rfl, hlt, hk⟩ := hc h0
 exact ⟨b, off, rfl, Nat.lt_of_lt_of_le hlt hb.size, fun k hk' => (hk k hk').mono hb⟩
theorem SeasonAt.mono {w w' : World} {v : Value} {s : Sea.S} (h : SeasonAt w v s) (hb : Below w.heap.size w w') : SeasonAt w' v s := by
 obtain ⟨rv, dv, rfl, hr, hd⟩ := h
 exact ⟨rv, dv, rfl, hr.mono hb, hd.mono hb⟩
theorem ListsAt.mono {w w' : World} {v : Value} {xs : List (List Int)} (h : ListsAt w v xs) (hb : Below w.heap.size w w') : ListsAt w' v xs := by
 obtain ⟨a, cap, rfl, hm, hc⟩ := h
 refine ⟨a, cap, rfl, hm, fun h0 => ?_⟩
 obtain ⟨b, off, rfl, hlt, hk⟩ := hc h0
 exact ⟨b, off, rfl, Nat.lt_of_lt_of_le hlt hb.size, fun k hk' => let ⟨ev, h1, h2⟩ := hk k hk'; ⟨ev, kept_cell hb h1, h2.mono hb⟩⟩
theorem SpansAt.mono {w w' : World} {v : Value} {xs : List Sea.Span} (h : SpansAt w v xs) (hb : Below w.heap.size w w') : SpansAt w' v xs := by
 obtain ⟨a, cap, rfl, hm, hc⟩ := h
 refine ⟨a, cap, rfl, hm, fun h0 => ?_⟩
 obtain ⟨b, off, rfl, hlt, hk⟩ := hc h0
 exact ⟨b, off, rfl, Nat.lt_of_lt_of_le hlt hb.size, fun k hk' => ⟨kept_cell hb (hk k hk').1, kept_cell hb (hk k hk').2⟩⟩
theorem SpanListsAt.mono {w w' : World} {v : Value} {xs : List (List Sea.Span)} (h : SpanListsAt w v xs) (hb : Below w.heap.size w w') : SpanListsAt w' v xs := by
 obtain ⟨a, cap, rfl, hm, hc⟩ := h
 refine ⟨a, cap, rfl, hm, fun h0 => ?_⟩
 obtain ⟨b, off, rfl, hlt, hk⟩ := hc h0
 exact ⟨b, off, rfl, Nat.lt_of_lt_of_le hlt hb.size, fun k hk' => let ⟨ev, h1, h2⟩ := hk k hk'; ⟨ev, kept_cell hb h1, h2.mono hb⟩⟩
end Go.Proofs.YtpcamocnlnlgiaaGreat.S
