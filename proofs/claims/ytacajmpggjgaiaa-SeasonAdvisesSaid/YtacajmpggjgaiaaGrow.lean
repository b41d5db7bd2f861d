/- Worlds that have grown: all that lay in w lies unturned; a region that draws its order and whose callees make memory of their own. -/
import Derived.WalkKit
import Derived.WalkSmall
import Derived.Deep.QuietTactic
import Derived.BigQuiet
set_option linter.unusedVariables false
set_option linter.unusedSimpArgs false
namespace Go
open Go.RowKit

/-- A world in which all that lay in w lies unturned. -/
structure Grow (w : World) where
  x : World
  h : Below w.heap.size w x

def Grow.self (w : World) : Grow w := ⟨w, Below.refl _ _⟩

instance (w : World) : Nonempty (Grow w) := ⟨Grow.self w⟩

theorem Grow.cell {w : World} (g : Grow w) {b o : Nat} {v : Value} (h : w.cell? ⟨b, o, none⟩ = some v) : g.x.cell? ⟨b, o, none⟩ = some v :=
  (g.h.cell (p := ⟨b, o, none⟩) (World.block_lt_of_cell? w ⟨b, o, none⟩ h)).trans h

theorem Grow.size {w : World} (g : Grow w) : w.heap.size ≤ g.x.heap.size := g.h.size

theorem Below.size_le {w x : World} {B : Nat} (h : Below B w x) : w.heap.size ≤ x.heap.size := h.size

/-- What has grown out of a grown world has grown. -/
theorem Grow.step {w W w1 : World} (h : Below w.heap.size w W) (hb : Below W.heap.size W w1) : ∃ g : Grow w, w1 = g.x :=
  ⟨⟨w1, h.trans (hb.mono h.size)⟩, rfl⟩

/-- One goes on from a grown world. -/
theorem Grow.next {w w1 : World} (g : Grow w) (hb : Below g.x.heap.size g.x w1) : ∃ g' : Grow w, w1 = g'.x := Grow.step g.h hb

theorem Grow.alloc {w : World} (g : Grow w) (o : Obj) : ∃ g' : Grow w, g.x.alloc o = g'.x := Grow.step (g.h.alloc g.h.size o) (Below.refl _ _)

/-- Below what lay before a block of one's own was made. -/
theorem Grow.below1 {w : World} {o : Obj} (g : Grow (w.alloc o)) : Below w.heap.size w g.x :=
  ((Below.refl _ _).alloc (Nat.le_refl _) _).trans (g.h.mono (by simp))
theorem Grow.below2 {w : World} {o o' : Obj} (g : Grow ((w.alloc o).alloc o')) : Below w.heap.size w g.x :=
  (((Below.refl _ _).alloc (Nat.le_refl _) _).alloc (by simp) _).trans (g.h.mono (by simp; omega))
theorem Grow.below3 {w : World} {o o' o'' : Obj} (g : Grow (((w.alloc o).alloc o').alloc o'')) : Below w.heap.size w g.x :=
  ((((Below.refl _ _).alloc (Nat.le_refl _) _).alloc (by simp) _).alloc (by simp; omega) _).trans (g.h.mono (by simp; omega))

/-- A region that draws its order, whose operations only read and whose callees make memory of their own: one walk, in the order of the text. -/
theorem wp_region_grow {P : Program} {id : Nat} {Q : Exit → Act → World → Prop} {a : Act} {w : World} {l : List Oper} (hm : P.follows .mixedOrders = true) (hB : Region.lexB .any l.toArray = true)
    (h : wpQuiet P l.toArray (fun w' => ∃ g : Grow w, w' = g.x) (fun a' => ∀ w', (∃ g : Grow w, w' = g.x) → Q .normal a' w') l a) : (Code.region id l.toArray true).wp P Q a w :=
  wp_region_quiet (C := fun w' => ∃ g : Grow w, w' = g.x) hm hB ⟨⟨w.drew, (Below.refl _ _).drew⟩, rfl⟩ (by simpa using h)

/-- A callee's contract, met in a grown world. -/
theorem Calls.grow {P : Program} {f : FuncId} {args : Array Value} {w : World} {g : Grow w} {v : Value}
    (h : Calls P f args g.x fun e w' => e = .returned v ∧ Below g.x.heap.size g.x w') : Calls P f args g.x fun e w'' => e = .returned v ∧ ∃ g' : Grow w, w'' = g'.x :=
  h.mono fun _ _ ⟨he, hb⟩ => ⟨he, g.next hb⟩

theorem Calls.grow_same {P : Program} {f : FuncId} {args : Array Value} {w : World} {g : Grow w} {v : Value}
    (h : Calls P f args g.x fun e w' => e = .returned v ∧ g.x = w') : Calls P f args g.x fun e w'' => e = .returned v ∧ ∃ g' : Grow w, w'' = g'.x :=
  h.mono fun _ _ ⟨he, hb⟩ => ⟨he, g, hb.symm⟩

/-- A contract that stands in all worlds grown out of w, met in one that has grown out of a grown one. -/
theorem Calls.grow_of {P : Program} {f : FuncId} {args : Array Value} {w : World} {v : Value} (h : ∀ g : Grow w, Calls P f args g.x fun e w' => e = .returned v ∧ Below g.x.heap.size g.x w') (g : Grow w) {g' : Grow g.x} :
    Calls P f args g'.x fun e w'' => e = .returned v ∧ ∃ g'' : Grow g.x, w'' = g''.x :=
  (h ⟨g'.x, g.h.trans (g'.h.mono g.size)⟩).mono fun _ _ ⟨he, hb⟩ => ⟨he, g'.next hb⟩

/-- One rule for all grown worlds. -/
theorem grow_cell (W : World) : ∀ (g : Grow W) (b o : Nat), b < W.heap.size → g.x.cell? ⟨b, o, none⟩ = W.cell? ⟨b, o, none⟩ :=
  fun g b o h => g.h.cell (p := ⟨b, o, none⟩) h
theorem below_cell {W w1 : World} (hb : Below W.heap.size W w1) : ∀ (b o : Nat), b < W.heap.size → w1.cell? ⟨b, o, none⟩ = W.cell? ⟨b, o, none⟩ :=
  fun b o h => hb.cell (p := ⟨b, o, none⟩) h
theorem below_frozen {W w1 : World} (hb : Below W.heap.size W w1) : ∀ (b o : Nat), b < W.heap.size → w1.frozen? ⟨b, o, none⟩ = W.frozen? ⟨b, o, none⟩ :=
  fun b o h => hb.frozen (p := ⟨b, o, none⟩) h
theorem grow_frozen (W : World) : ∀ (g : Grow W) (b o : Nat), b < W.heap.size → g.x.frozen? ⟨b, o, none⟩ = W.frozen? ⟨b, o, none⟩ :=
  fun g b o h => g.h.frozen (p := ⟨b, o, none⟩) h
theorem Grow.lt {W : World} (g : Grow W) {b : Nat} (h : b < W.heap.size) : b < g.x.heap.size := Nat.lt_of_lt_of_le h g.size

end Go
