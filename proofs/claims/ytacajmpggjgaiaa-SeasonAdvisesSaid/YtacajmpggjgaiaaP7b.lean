/- Walks: the iterator of orders is made; the first of the orders. -/
import Derived.Test.YtacajmpggjgaiaaP7
set_option linter.unusedVariables false
set_option linter.unusedSimpArgs false
namespace Go.Proofs.Ytacajmpggjgaiaa
open Go.RowKit Go.Sd

/-- The iterator over the orders of a fill on a day with a nomination, as a value: it has captured three variables. -/
def IterAt (w : World) (v : Value) (lv : Value) (k : Nat) (fill nom : Int) : Prop :=
  ∃ n, v = .func (.func 84) #[] #[.pointer (some ⟨n, 0, none⟩), .pointer (some ⟨n + 1, 0, none⟩), .pointer (some ⟨n + 2, 0, none⟩)] ∧
    w.cell? ⟨n, 0, none⟩ = some lv ∧ w.cell? ⟨n + 1, 0, none⟩ = some (.int .i64 k) ∧ w.cell? ⟨n + 1, 1, none⟩ = some (.int .i64 fill) ∧ w.cell? ⟨n + 2, 0, none⟩ = some (.int .i64 nom)

theorem IterAt.mono {w w' : World} {v lv : Value} {k : Nat} {fill nom : Int} (h : IterAt w v lv k fill nom) (hb : Kc w w') : IterAt w' v lv k fill nom := by
  obtain ⟨n, rfl, h0, h1, h2, h3⟩ := h
  exact ⟨n, rfl, hb.cell _ _ _ h0, hb.cell _ _ _ h1, hb.cell _ _ _ h2, hb.cell _ _ _ h3⟩

theorem three_new {w W : World} {a b c : Obj} (h : ((w.alloc a).alloc b).alloc c = W) :
    W.heap[w.heap.size]? = some a ∧ W.heap[w.heap.size + 1]? = some b ∧ W.heap[w.heap.size + 2]? = some c ∧ W.heap.size = w.heap.size + 3 ∧ Below w.heap.size w W := by
  subst h
  have e1 := World.alloc_heap_new (w.alloc a) b
  have e2 := World.alloc_heap_new ((w.alloc a).alloc b) c
  simp only [World.size_alloc] at e1 e2
  refine ⟨?_, ?_, e2, by simp, ((((Below.refl _ _).alloc (Nat.le_refl _) _).alloc (by simp) _).alloc (by simp; omega) _)⟩
  · exact (Below.heap_alloc _ _ _ (by simp; omega)).trans ((Below.heap_alloc _ _ _ (by simp)).trans (World.alloc_heap_new w a))
  · exact (Below.heap_alloc _ _ _ (by simp)).trans e1

theorem progOrders (lp : Option Addr) (k : Nat) (fill nom : Int) (w : World) :
    Calls Try.prog 55 #[.pointer lp, .agg #[.int .i64 k, .int .i64 fill], .int .i64 nom] w fun e w' =>
      ∃ v, e = .returned v ∧ IterAt w' v (.pointer lp) k fill nom ∧ Below w.heap.size w w' := by
  go_enter Try.func55, Try.ntmps55
  go_wp2
  go_ret
  generalize hW : ((w.alloc _).alloc _).alloc _ = W
  obtain ⟨n0, n1, n2, -, hB⟩ := three_new hW
  exact ⟨_, rfl, ⟨w.heap.size, rfl, (row_cells n0).2.1 0, (row_cells n1).2.1 0, (row_cells n1).2.1 1, (row_cells n2).2.1 0⟩, hB⟩

theorem enter_fn (f : Nat) (h : ∀ args w, (callFunc f args).run Try.prog w = .ok (.enter f args) w) : ∀ args w, (callFunc f args).run Try.prog w = .ok (.enter f args) w := h
theorem enter_iter : ∀ (args : Array Value) (w : World), (callFunc 84 args).run Try.prog w = .ok (.enter 84 args) w := fun _ _ => by kernel_rfl

/-- The first of the orders of a fill on a day, over any number that leaves a word on the world standing. -/
theorem progFirstOrders (lv mv v : Value) (s : Sea.S) (k : Nat) (fill nom : Int) (num : Int → Int) (nf : Nat) (nb : Array Value) (w : World) (S : Nat → Prop) (Inv : World → Prop)
    (hl : LookAt w lv mv s) (hk : k < s.days.length) (ok : Sea.Ok s) (b1 : 0 ≤ fill ∧ fill ≤ 100) (b2 : -100 ≤ nom ∧ nom ≤ 100) (hv : IterAt w v lv k fill nom)
    (en : ∀ args w, (callFunc nf args).run Try.prog w = .ok (.enter nf args) w) (hS : ∀ b o v, w.cell? ⟨b, o, none⟩ = some v → S b) (hS2 : ∀ k, S k → k < w.heap.size)
    (h0 : Inv w) (hInv : ∀ X Y, Inv X → Below w.heap.size X Y → Inv Y)
    (hnum : ∀ u, u ∈ ordersOf s k fill nom → ∀ X, Kept S w X → w.heap.size ≤ X.heap.size → Inv X → Calls Try.prog nf (#[ordV lv k fill nom u] ++ nb) X fun e X' => e = .returned (.int .i64 (num u)) ∧ Kept (fun b => S b ∨ w.heap.size ≤ b) X X' ∧ Inv X') :
    Calls Try.prog 54 #[v, .func (.func nf) #[] nb] w fun e w' =>
      e = .returned (.tuple #[.agg (outC lv k fill nom (firstOf num (ordersOf s k fill nom)).2), .int .i64 (firstOf num (ordersOf s k fill nom)).1, .bool (decide ((firstOf num (ordersOf s k fill nom)).1 < Sea.never))]) ∧ Kept S w w' ∧ Inv w' := by
  obtain ⟨n, rfl, c0, c1, c2, c3⟩ := hv
  obtain ⟨lb, hlb⟩ : ∃ lp, lv = .pointer lp := by obtain ⟨b, _, _, h, _⟩ := hl; exact ⟨_, h⟩
  subst hlb
  exact progFirst lb k fill nom (ordersOf s k fill nom) num _ nf _ nb w S Inv enter_iter en
    (orders_yields mv s k fill nom w S _ n (n + 1) (n + 2) hl hk ok b1 b2 c0 c1 c2 c3 hS) hS2 h0 hInv hnum

/-- The same over a number that only makes memory. -/
theorem progFirstPlain (lv mv v : Value) (s : Sea.S) (k : Nat) (fill nom : Int) (num : Int → Int) (nf : Nat) (nb : Array Value) (w : World)
    (hl : LookAt w lv mv s) (hk : k < s.days.length) (ok : Sea.Ok s) (b1 : 0 ≤ fill ∧ fill ≤ 100) (b2 : -100 ≤ nom ∧ nom ≤ 100) (hv : IterAt w v lv k fill nom)
    (en : ∀ args w, (callFunc nf args).run Try.prog w = .ok (.enter nf args) w)
    (hnum : ∀ u, u ∈ ordersOf s k fill nom → ∀ X, Below w.heap.size w X → Calls Try.prog nf (#[ordV lv k fill nom u] ++ nb) X fun e X' => e = .returned (.int .i64 (num u)) ∧ Below X.heap.size X X') :
    Calls Try.prog 54 #[v, .func (.func nf) #[] nb] w fun e w' =>
      e = .returned (.tuple #[.agg (outC lv k fill nom (firstOf num (ordersOf s k fill nom)).2), .int .i64 (firstOf num (ordersOf s k fill nom)).1, .bool (decide ((firstOf num (ordersOf s k fill nom)).1 < Sea.never))]) ∧ Below w.heap.size w w' := by
  refine (progFirstOrders lv mv v s k fill nom num nf nb w (fun b => b < w.heap.size) (fun _ => True) hl hk ok b1 b2 hv en (fun b o v h => World.block_lt_of_cell? w ⟨b, o, none⟩ h) (fun _ h => h) trivial (fun _ _ _ _ => trivial) ?_).mono ?_
  · intro u hu X hX hs _
    refine (hnum u hu X (hX.below (Nat.le_refl _) fun _ h => h)).mono ?_
    rintro e X' ⟨he, hb⟩
    exact ⟨he, .all hb, trivial⟩
  · rintro e w' ⟨he, hk, -⟩
    exact ⟨he, hk.below (Nat.le_refl _) fun _ h => h⟩

/-- The same, the order's five cells written out. -/
theorem progFirstCells (lv mv v : Value) (s : Sea.S) (k : Nat) (fill nom : Int) (num : Int → Int) (nf : Nat) (nb : Array Value) (w : World)
    (hl : LookAt w lv mv s) (hk : k < s.days.length) (ok : Sea.Ok s) (b1 : 0 ≤ fill ∧ fill ≤ 100) (b2 : -100 ≤ nom ∧ nom ≤ 100) (hv : IterAt w v lv k fill nom)
    (en : ∀ args w, (callFunc nf args).run Try.prog w = .ok (.enter nf args) w)
    (hnum : ∀ u, u ∈ ordersOf s k fill nom → ∀ X, Below w.heap.size w X → Calls Try.prog nf (#[ordV lv k fill nom u] ++ nb) X fun e X' => e = .returned (.int .i64 (num u)) ∧ Below X.heap.size X X') :
    Calls Try.prog 54 #[v, .func (.func nf) #[] nb] w fun e w' => ∃ p a b c d,
      e = .returned (.tuple #[.agg #[.pointer p, .int .i64 a, .int .i64 b, .int .i64 c, .int .i64 d], .int .i64 (firstOf num (ordersOf s k fill nom)).1, .bool (decide ((firstOf num (ordersOf s k fill nom)).1 < Sea.never))]) ∧ Below w.heap.size w w' ∧
      Hid (outC lv k fill nom (firstOf num (ordersOf s k fill nom)).2 = #[.pointer p, .int .i64 a, .int .i64 b, .int .i64 c, .int .i64 d]) := by
  obtain ⟨lb, rfl⟩ : ∃ lp, lv = .pointer lp := by obtain ⟨b, _, _, h, _⟩ := hl; exact ⟨_, h⟩
  obtain ⟨p, a, b, c, d, ho⟩ := out_cells lb k fill nom (firstOf num (ordersOf s k fill nom)).2
  refine (progFirstPlain _ mv v s k fill nom num nf nb w hl hk ok b1 b2 hv en hnum).mono ?_
  rintro e w' ⟨he, hb⟩
  exact ⟨p, a, b, c, d, by rw [he, ho], hb, ho⟩
end Go.Proofs.Ytacajmpggjgaiaa
