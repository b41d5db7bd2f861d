/- Worlds that have grown: all that lay in w lies unturned; a region that draws its order and whose callees make memory of their own. A region that draws its order, holds calls whose callees make memory of their own, makes variables, and ends in stores: one walk, in the order of the text. A region that draws its order and lays variables: their making and their first stores are left out of the walk; behind it the variables lie somewhere, and hold what they hold. A region that draws its order and lays variables, and in which a call hands back a value that hangs on the world, which one other call takes: the making of variables, their first stores and the two calls are left out of the walk. Ranges over a function at the wide fence: an iterator that keeps its own state in cells, and that reads what lay; rounds that may turn other blocks. -/
import Derived.WalkKit
import Derived.WalkSmall
import Derived.Deep.QuietTactic
import Derived.BigQuiet
import Derived.StillTail
import Derived.RangeFuncRecord
import Derived.Laws.Tables
import Derived.RangeFuncNested
import Derived.RangeFuncBound
import Derived.RangeFuncCalls
import Derived.RangeFuncLeaves
set_option linter.unusedVariables false
set_option linter.unusedSimpArgs false
namespace Go
open Go.RowKit

/-- A world in which all that lay in w lies unturned. -/
structure Grow (w : World) where
  x : World
  h : Below w.heap.size w x

def Grow.self (w : World) : Grow w := ⟨w, Below.refl _ _⟩

instance (w : World) : Nonempty (Grow w) := ⟨Grow.self w⟩

theorem Grow.cell {w : World} (g : Grow w) {b o : Nat} {v : Value} (h : w.cell? ⟨b, o, none⟩ = some v) : g.x.cell? ⟨b, o, none⟩ = some v :=
  (g.h.cell (p := ⟨b, o, none⟩) (World.block_lt_of_cell? w ⟨b, o, none⟩ h)).trans h

theorem Grow.size {w : World} (g : Grow w) : w.heap.size ≤ g.x.heap.size := g.h.size

/-- What has grown out of a grown world has grown. -/
theorem Grow.step {w W w1 : World} (h : Below w.heap.size w W) (hb : Below W.heap.size W w1) : ∃ g : Grow w, w1 = g.x :=
  ⟨⟨w1, h.trans (hb.mono h.size)⟩, rfl⟩

/-- One goes on from a grown world. -/
theorem Grow.next {w w1 : World} (g : Grow w) (hb : Below g.x.heap.size g.x w1) : ∃ g' : Grow w, w1 = g'.x := Grow.step g.h hb

theorem Grow.alloc {w : World} (g : Grow w) (o : Obj) : ∃ g' : Grow w, g.x.alloc o = g'.x := Grow.step (g.h.alloc g.h.size o) (Below.refl _ _)

/-- A region that draws its order, whose operations only read and whose callees make memory of their own: one walk, in the order of the text. -/
theorem wp_region_grow {P : Program} {id : Nat} {Q : Exit → Act → World → Prop} {a : Act} {w : World} {l : List Oper} (hm : P.follows .mixedOrders = true) (hB : Region.lexB .any l.toArray = true)
    (h : wpQuiet P l.toArray (fun w' => ∃ g : Grow w, w' = g.x) (fun a' => ∀ w', (∃ g : Grow w, w' = g.x) → Q .normal a' w') l a) : (Code.region id l.toArray true).wp P Q a w :=
  wp_region_quiet (C := fun w' => ∃ g : Grow w, w' = g.x) hm hB ⟨⟨w.drew, (Below.refl _ _).drew⟩, rfl⟩ (by simpa using h)

/-- A callee's contract, met in a grown world. -/
theorem Calls.grow {P : Program} {f : FuncId} {args : Array Value} {w : World} {g : Grow w} {v : Value}
    (h : Calls P f args g.x fun e w' => e = .returned v ∧ Below g.x.heap.size g.x w') : Calls P f args g.x fun e w'' => e = .returned v ∧ ∃ g' : Grow w, w'' = g'.x :=
  h.mono fun _ _ ⟨he, hb⟩ => ⟨he, g.next hb⟩

theorem Calls.grow_same {P : Program} {f : FuncId} {args : Array Value} {w : World} {g : Grow w} {v : Value}
    (h : Calls P f args g.x fun e w' => e = .returned v ∧ g.x = w') : Calls P f args g.x fun e w'' => e = .returned v ∧ ∃ g' : Grow w, w'' = g'.x :=
  h.mono fun _ _ ⟨he, hb⟩ => ⟨he, g, hb.symm⟩

/-- A contract that stands in all worlds grown out of w, met in one that has grown out of a grown one. -/
theorem Calls.grow_of {P : Program} {f : FuncId} {args : Array Value} {w : World} {v : Value} (h : ∀ g : Grow w, Calls P f args g.x fun e w' => e = .returned v ∧ Below g.x.heap.size g.x w') (g : Grow w) {g' : Grow g.x} :
    Calls P f args g'.x fun e w'' => e = .returned v ∧ ∃ g'' : Grow g.x, w'' = g''.x :=
  (h ⟨g'.x, g.h.trans (g'.h.mono g.size)⟩).mono fun _ _ ⟨he, hb⟩ => ⟨he, g'.next hb⟩

/-- One rule for all grown worlds. -/
theorem grow_cell (W : World) : ∀ (g : Grow W) (b o : Nat), b < W.heap.size → g.x.cell? ⟨b, o, none⟩ = W.cell? ⟨b, o, none⟩ :=
  fun g b o h => g.h.cell (p := ⟨b, o, none⟩) h
theorem below_cell {W w1 : World} (hb : Below W.heap.size W w1) : ∀ (b o : Nat), b < W.heap.size → w1.cell? ⟨b, o, none⟩ = W.cell? ⟨b, o, none⟩ :=
  fun b o h => hb.cell (p := ⟨b, o, none⟩) h
theorem below_frozen {W w1 : World} (hb : Below W.heap.size W w1) : ∀ (b o : Nat), b < W.heap.size → w1.frozen? ⟨b, o, none⟩ = W.frozen? ⟨b, o, none⟩ :=
  fun b o h => hb.frozen (p := ⟨b, o, none⟩) h
theorem grow_frozen (W : World) : ∀ (g : Grow W) (b o : Nat), b < W.heap.size → g.x.frozen? ⟨b, o, none⟩ = W.frozen? ⟨b, o, none⟩ :=
  fun g b o h => g.h.frozen (p := ⟨b, o, none⟩) h
theorem Grow.lt {W : World} (g : Grow W) {b : Nat} (h : b < W.heap.size) : b < g.x.heap.size := Nat.lt_of_lt_of_le h g.size

end Go
namespace Go.Sd
open Go Go.RowKit

/-! ### What lies there -/
theorem row_cells {w : World} {n : Nat} {c : Array Value} {e : TypeId} (h : w.heap[n]? = some (.cells c e)) :
    n < w.heap.size ∧ (∀ i, w.cell? ⟨n, i, none⟩ = c[i]?) ∧ (∀ i, w.frozen? ⟨n, i, none⟩ = false) :=
  ⟨(Array.getElem?_eq_some_iff.1 h).1, fun i => cell_of_row w n i c e (0, 0) h, fun i => by simp [World.frozen?, h]⟩

theorem rc1 {w : World} {n : Nat} {a0 : Value} {e : TypeId} (h : w.heap[n]? = some (.cells #[a0] e (0, 0))) : w.cell? ⟨n, 0, none⟩ = some a0 := by
  have r := (row_cells h).2.1
  exact r 0
theorem rf1 {w : World} {n : Nat} {a0 : Value} {e : TypeId} (h : w.heap[n]? = some (.cells #[a0] e (0, 0))) : w.frozen? ⟨n, 0, none⟩ = false := by
  have r := (row_cells h).2.2
  exact r 0
theorem rc2 {w : World} {n : Nat} {a0 a1 : Value} {e : TypeId} (h : w.heap[n]? = some (.cells #[a0, a1] e (0, 0))) : w.cell? ⟨n, 0, none⟩ = some a0 ∧ w.cell? ⟨n, 1, none⟩ = some a1 := by
  have r := (row_cells h).2.1
  exact ⟨r 0, r 1⟩
theorem rf2 {w : World} {n : Nat} {a0 a1 : Value} {e : TypeId} (h : w.heap[n]? = some (.cells #[a0, a1] e (0, 0))) : w.frozen? ⟨n, 0, none⟩ = false ∧ w.frozen? ⟨n, 1, none⟩ = false := by
  have r := (row_cells h).2.2
  exact ⟨r 0, r 1⟩
theorem rc4 {w : World} {n : Nat} {a0 a1 a2 a3 : Value} {e : TypeId} (h : w.heap[n]? = some (.cells #[a0, a1, a2, a3] e (0, 0))) : w.cell? ⟨n, 0, none⟩ = some a0 ∧ w.cell? ⟨n, 1, none⟩ = some a1 ∧ w.cell? ⟨n, 2, none⟩ = some a2 ∧ w.cell? ⟨n, 3, none⟩ = some a3 := by
  have r := (row_cells h).2.1
  exact ⟨r 0, r 1, r 2, r 3⟩
theorem rf4 {w : World} {n : Nat} {a0 a1 a2 a3 : Value} {e : TypeId} (h : w.heap[n]? = some (.cells #[a0, a1, a2, a3] e (0, 0))) : w.frozen? ⟨n, 0, none⟩ = false ∧ w.frozen? ⟨n, 1, none⟩ = false ∧ w.frozen? ⟨n, 2, none⟩ = false ∧ w.frozen? ⟨n, 3, none⟩ = false := by
  have r := (row_cells h).2.2
  exact ⟨r 0, r 1, r 2, r 3⟩
theorem rc6 {w : World} {n : Nat} {a0 a1 a2 a3 a4 a5 : Value} {e : TypeId} (h : w.heap[n]? = some (.cells #[a0, a1, a2, a3, a4, a5] e (0, 0))) : w.cell? ⟨n, 0, none⟩ = some a0 ∧ w.cell? ⟨n, 1, none⟩ = some a1 ∧ w.cell? ⟨n, 2, none⟩ = some a2 ∧ w.cell? ⟨n, 3, none⟩ = some a3 ∧ w.cell? ⟨n, 4, none⟩ = some a4 ∧ w.cell? ⟨n, 5, none⟩ = some a5 := by
  have r := (row_cells h).2.1
  exact ⟨r 0, r 1, r 2, r 3, r 4, r 5⟩
theorem rf6 {w : World} {n : Nat} {a0 a1 a2 a3 a4 a5 : Value} {e : TypeId} (h : w.heap[n]? = some (.cells #[a0, a1, a2, a3, a4, a5] e (0, 0))) : w.frozen? ⟨n, 0, none⟩ = false ∧ w.frozen? ⟨n, 1, none⟩ = false ∧ w.frozen? ⟨n, 2, none⟩ = false ∧ w.frozen? ⟨n, 3, none⟩ = false ∧ w.frozen? ⟨n, 4, none⟩ = false ∧ w.frozen? ⟨n, 5, none⟩ = false := by
  have r := (row_cells h).2.2
  exact ⟨r 0, r 1, r 2, r 3, r 4, r 5⟩
theorem rc8 {w : World} {n : Nat} {a0 a1 a2 a3 a4 a5 a6 a7 : Value} {e : TypeId} (h : w.heap[n]? = some (.cells #[a0, a1, a2, a3, a4, a5, a6, a7] e (0, 0))) : w.cell? ⟨n, 0, none⟩ = some a0 ∧ w.cell? ⟨n, 1, none⟩ = some a1 ∧ w.cell? ⟨n, 2, none⟩ = some a2 ∧ w.cell? ⟨n, 3, none⟩ = some a3 ∧ w.cell? ⟨n, 4, none⟩ = some a4 ∧ w.cell? ⟨n, 5, none⟩ = some a5 ∧ w.cell? ⟨n, 6, none⟩ = some a6 ∧ w.cell? ⟨n, 7, none⟩ = some a7 := by
  have r := (row_cells h).2.1
  exact ⟨r 0, r 1, r 2, r 3, r 4, r 5, r 6, r 7⟩
theorem rf8 {w : World} {n : Nat} {a0 a1 a2 a3 a4 a5 a6 a7 : Value} {e : TypeId} (h : w.heap[n]? = some (.cells #[a0, a1, a2, a3, a4, a5, a6, a7] e (0, 0))) : w.frozen? ⟨n, 0, none⟩ = false ∧ w.frozen? ⟨n, 1, none⟩ = false ∧ w.frozen? ⟨n, 2, none⟩ = false ∧ w.frozen? ⟨n, 3, none⟩ = false ∧ w.frozen? ⟨n, 4, none⟩ = false ∧ w.frozen? ⟨n, 5, none⟩ = false ∧ w.frozen? ⟨n, 6, none⟩ = false ∧ w.frozen? ⟨n, 7, none⟩ = false := by
  have r := (row_cells h).2.2
  exact ⟨r 0, r 1, r 2, r 3, r 4, r 5, r 6, r 7⟩
theorem rc10 {w : World} {n : Nat} {a0 a1 a2 a3 a4 a5 a6 a7 a8 a9 : Value} {e : TypeId} (h : w.heap[n]? = some (.cells #[a0, a1, a2, a3, a4, a5, a6, a7, a8, a9] e (0, 0))) : w.cell? ⟨n, 0, none⟩ = some a0 ∧ w.cell? ⟨n, 1, none⟩ = some a1 ∧ w.cell? ⟨n, 2, none⟩ = some a2 ∧ w.cell? ⟨n, 3, none⟩ = some a3 ∧ w.cell? ⟨n, 4, none⟩ = some a4 ∧ w.cell? ⟨n, 5, none⟩ = some a5 ∧ w.cell? ⟨n, 6, none⟩ = some a6 ∧ w.cell? ⟨n, 7, none⟩ = some a7 ∧ w.cell? ⟨n, 8, none⟩ = some a8 ∧ w.cell? ⟨n, 9, none⟩ = some a9 := by
  have r := (row_cells h).2.1
  exact ⟨r 0, r 1, r 2, r 3, r 4, r 5, r 6, r 7, r 8, r 9⟩
theorem rf10 {w : World} {n : Nat} {a0 a1 a2 a3 a4 a5 a6 a7 a8 a9 : Value} {e : TypeId} (h : w.heap[n]? = some (.cells #[a0, a1, a2, a3, a4, a5, a6, a7, a8, a9] e (0, 0))) : w.frozen? ⟨n, 0, none⟩ = false ∧ w.frozen? ⟨n, 1, none⟩ = false ∧ w.frozen? ⟨n, 2, none⟩ = false ∧ w.frozen? ⟨n, 3, none⟩ = false ∧ w.frozen? ⟨n, 4, none⟩ = false ∧ w.frozen? ⟨n, 5, none⟩ = false ∧ w.frozen? ⟨n, 6, none⟩ = false ∧ w.frozen? ⟨n, 7, none⟩ = false ∧ w.frozen? ⟨n, 8, none⟩ = false ∧ w.frozen? ⟨n, 9, none⟩ = false := by
  have r := (row_cells h).2.2
  exact ⟨r 0, r 1, r 2, r 3, r 4, r 5, r 6, r 7, r 8, r 9⟩
theorem rc11 {w : World} {n : Nat} {a0 a1 a2 a3 a4 a5 a6 a7 a8 a9 a10 : Value} {e : TypeId} (h : w.heap[n]? = some (.cells #[a0, a1, a2, a3, a4, a5, a6, a7, a8, a9, a10] e (0, 0))) : w.cell? ⟨n, 0, none⟩ = some a0 ∧ w.cell? ⟨n, 1, none⟩ = some a1 ∧ w.cell? ⟨n, 2, none⟩ = some a2 ∧ w.cell? ⟨n, 3, none⟩ = some a3 ∧ w.cell? ⟨n, 4, none⟩ = some a4 ∧ w.cell? ⟨n, 5, none⟩ = some a5 ∧ w.cell? ⟨n, 6, none⟩ = some a6 ∧ w.cell? ⟨n, 7, none⟩ = some a7 ∧ w.cell? ⟨n, 8, none⟩ = some a8 ∧ w.cell? ⟨n, 9, none⟩ = some a9 ∧ w.cell? ⟨n, 10, none⟩ = some a10 := by
  have r := (row_cells h).2.1
  exact ⟨r 0, r 1, r 2, r 3, r 4, r 5, r 6, r 7, r 8, r 9, r 10⟩
theorem rf11 {w : World} {n : Nat} {a0 a1 a2 a3 a4 a5 a6 a7 a8 a9 a10 : Value} {e : TypeId} (h : w.heap[n]? = some (.cells #[a0, a1, a2, a3, a4, a5, a6, a7, a8, a9, a10] e (0, 0))) : w.frozen? ⟨n, 0, none⟩ = false ∧ w.frozen? ⟨n, 1, none⟩ = false ∧ w.frozen? ⟨n, 2, none⟩ = false ∧ w.frozen? ⟨n, 3, none⟩ = false ∧ w.frozen? ⟨n, 4, none⟩ = false ∧ w.frozen? ⟨n, 5, none⟩ = false ∧ w.frozen? ⟨n, 6, none⟩ = false ∧ w.frozen? ⟨n, 7, none⟩ = false ∧ w.frozen? ⟨n, 8, none⟩ = false ∧ w.frozen? ⟨n, 9, none⟩ = false ∧ w.frozen? ⟨n, 10, none⟩ = false := by
  have r := (row_cells h).2.2
  exact ⟨r 0, r 1, r 2, r 3, r 4, r 5, r 6, r 7, r 8, r 9, r 10⟩
end Go.Sd
namespace Go.Sd
open Go Go.RowKit

/-- The blocks in S that lay lie as they lay; the streams are as they were; no block has gone. -/
structure Kept (S : Nat → Prop) (w w' : World) : Prop where
  os : w'.os = w.os
  tape : w'.tape = w.tape
  output : w'.output = w.output
  size : w.heap.size ≤ w'.heap.size
  block : ∀ k, k < w.heap.size → S k → w'.heap[k]? = w.heap[k]?

section
variable {S T : Nat → Prop} {w a b c w' : World}
theorem Kept.refl (S : Nat → Prop) (w : World) : Kept S w w := ⟨rfl, rfl, rfl, Nat.le_refl _, fun _ _ _ => rfl⟩
theorem Kept.trans (h : Kept S a b) (k : Kept S b c) : Kept S a c :=
  ⟨k.os.trans h.os, k.tape.trans h.tape, k.output.trans h.output, Nat.le_trans h.size k.size, fun i hi hs => (k.block i (Nat.lt_of_lt_of_le hi h.size) hs).trans (h.block i hi hs)⟩
theorem Kept.mono (h : Kept S a b) (hs : ∀ k, k < a.heap.size → T k → S k) : Kept T a b := ⟨h.os, h.tape, h.output, h.size, fun k hk ht => h.block k hk (hs k hk ht)⟩
theorem Kept.of_below {B : Nat} (h : Below B a b) (hs : ∀ k, k < a.heap.size → S k → k < B) : Kept S a b := ⟨h.os, h.tape, h.output, h.size, fun k hk ht => h.block k (hs k hk ht)⟩
theorem Kept.all (h : Below a.heap.size a b) : Kept S a b := .of_below h fun _ hk _ => hk
theorem Kept.below {B : Nat} (h : Kept S a b) (hB : B ≤ a.heap.size) (hs : ∀ k, k < B → S k) : Below B a b := ⟨h.os, h.tape, h.output, h.size, fun k hk => h.block k (Nat.lt_of_lt_of_le hk hB) (hs k hk)⟩
theorem Kept.grown {row : Option Nat} (h : a.grownBy b row) (hs : ∀ k, k < a.heap.size → S k → some k ≠ row) : Kept S a b := ⟨h.os, h.tape, h.output, h.size, fun k hk ht => h.block k hk (hs k hk ht)⟩
theorem Kept.grownBy {row : Option Nat} (h : Kept (fun k => some k ≠ row) a b) : a.grownBy b row := ⟨h.os, h.tape, h.output, h.size, fun k hk ht => h.block k hk ht⟩
theorem Kept.alloc (h : Kept S a w) (o : Obj) : Kept S a (w.alloc o) := h.trans (.of_below ((Below.refl w.heap.size _).alloc (Nat.le_refl _) _) fun _ hk _ => hk)
theorem Kept.setCell (h : Kept S a w) {p : Addr} (hp : ¬ S p.block ∨ a.heap.size ≤ p.block) (u : Value) : Kept S a (w.setCell p u) :=
  ⟨h.os, h.tape, h.output, by have := h.size; simpa [World.setCell] using this, fun k hk hs => (Below.heap_setCell w p u k (by rintro rfl; rcases hp with hp | hp; exact hp hs; omega)).trans (h.block k hk hs)⟩
theorem Kept.drew (h : Kept S a w) : Kept S a w.drew := ⟨h.os, h.tape, h.output, h.size, h.block⟩
theorem Kept.putObj (h : Kept S a w) {r : Nat} (hr : ¬ S r ∨ a.heap.size ≤ r) (o : Obj) : Kept S a (w.putObj r o) :=
  ⟨h.os, h.tape, h.output, by rw [World.putObj_size]; exact h.size, fun k hk hs => (World.putObj_heap_other (by rintro rfl; rcases hr with hp | hp; exact hp hs; omega)).trans (h.block k hk hs)⟩
theorem Kept.cell (h : Kept S w w') {b o : Nat} {v : Value} (hs : S b) (hv : w.cell? ⟨b, o, none⟩ = some v) : w'.cell? ⟨b, o, none⟩ = some v :=
  (World.cell?_of_block (w := w) (a := ⟨b, o, none⟩) (h.block b (World.block_lt_of_cell? w ⟨b, o, none⟩ hv) hs)).trans hv
theorem below_putObj {B : Nat} (h : Below B a w) {r : Nat} (hr : B ≤ r) (o : Obj) : Below B a (w.putObj r o) :=
  ⟨h.os, h.tape, h.output, by rw [World.putObj_size]; exact h.size, fun k hk => (World.putObj_heap_other (by omega)).trans (h.block k hk)⟩
end

end Go.Sd
