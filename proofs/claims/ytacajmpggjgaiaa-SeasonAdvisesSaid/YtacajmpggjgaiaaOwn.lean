/- Slices that a call makes itself and appends to: lists of whole numbers. -/
import Derived.Test.YtacajmpggjgaiaaVars
import Derived.Test.YtacajmpggjgaiaaMem
import Derived.Test.YtacajmpggjgaiaaRows
import Derived.Maps.AppendAt
import Derived.OwnWalk
set_option linter.unusedVariables false
set_option linter.unusedSimpArgs false
namespace Go.Proofs.Ytacajmpggjgaiaa
open Go.RowKit Go.Sd

theorem infoInt : (Try.prog.info? 3).map (fun i => (i.zero, i.size, i.bytes)) = some (some (.int .i64 0), 1, 8) := by kernel_rfl

/-- A slice of one's own, from block B on. -/
def OwnInts (B : Nat) (w : World) (v : Value) (xs : List Int) : Prop := w.ownsRow B 3 1 v xs.length (xs.map (Value.int .i64))

theorem OwnInts.nil (B : Nat) (w : World) : OwnInts B w (.slice none 0 0) [] := World.ownsRow_nil w B _ 1

theorem OwnInts.lt {B : Nat} {w : World} {v : Value} {xs : List Int} (h : OwnInts B w v xs) : ∀ k, v.ownBlock = some k → B ≤ k ∧ k < w.heap.size := World.ownsRow.lt h

theorem OwnInts.kept {B : Nat} {w w' : World} {row : Option Nat} {v : Value} {xs : List Int} (h : OwnInts B w v xs) (hg : w.grownBy w' row) (hne : v.ownBlock = none ∨ v.ownBlock ≠ row) : OwnInts B w' v xs := World.ownsRow.kept h hg hne

theorem grown_of_below {w w' : World} (h : Below w.heap.size w w') : w.grownBy w' none :=
  ⟨h.os, h.tape, h.output, h.size, fun k hk _ => h.block k hk⟩

theorem OwnInts.mono {B : Nat} {w w' : World} {v : Value} {xs : List Int} (h : OwnInts B w v xs) (hb : Below w.heap.size w w') : OwnInts B w' v xs :=
  h.kept (grown_of_below hb) (by cases v.ownBlock <;> simp)

theorem OwnInts.from {B B' : Nat} {w : World} {v : Value} {xs : List Int} (h : OwnInts B w v xs) (hB : B' ≤ B) : OwnInts B' w v xs := by
  obtain ⟨h1, h2⟩ := h
  refine ⟨h1, ?_⟩
  rcases h2 with h2 | ⟨g, cap, cur, hv, hg, r⟩
  · exact .inl h2
  · exact .inr ⟨g, cap, cur, hv, by omega, r⟩

theorem OwnInts.at {B : Nat} {w : World} {v : Value} {xs : List Int} (h : OwnInts B w v xs) : IntsAt w v xs := by
  obtain ⟨_, h2⟩ := h
  rcases h2 with ⟨rfl, h0⟩ | ⟨g, cap, cur, rfl, hB, hg, hn, hm, hs, ht⟩
  · refine ⟨none, 0, by rw [h0], by simp [h0], fun h => by omega⟩
  · refine ⟨some ⟨g, 0, none⟩, cap, rfl, by omega, fun _ => ⟨g, 0, rfl, (Array.getElem?_eq_some_iff.1 hg).1, fun k hk => ?_⟩⟩
    rw [Nat.zero_add, cell_of_row w g k cur _ (0, 0) hg]
    have h1 : (cur.toList.take (xs.length * 1))[k]? = (xs.map (Value.int .i64))[k]? := by rw [ht]
    rw [List.getElem?_take, if_pos (by omega)] at h1
    simp only [List.getElem?_map, List.getElem?_eq_getElem hk, Option.map_some] at h1
    rw [← Array.getElem?_toList, h1]
    simp [Sea.at0, hk]

/-- One number more. -/
theorem own_more {B : Nat} {w : World} {v : Value} {xs : List Int} {y : Int} (h : w.ownsRow B 3 1 v (xs.length + 1) (xs.map (Value.int .i64) ++ [.int .i64 y])) : OwnInts B w v (xs ++ [y]) := by
  unfold OwnInts
  simpa using h

/-- Behind an append. -/
theorem below_append {B : Nat} {W w w' : World} {v : Value} {xs : List Int} (hb : Below B W w) (hB : B ≤ w.heap.size) (ho : OwnInts B w v xs) (hg : w.grownBy w' v.ownBlock) : Below B W w' :=
  hb.grown hg hB fun k hk => (ho.lt k hk).1

theorem grownBy_trans {a b c : World} {row : Option Nat} (h : a.grownBy b row) (k : b.grownBy c row) : a.grownBy c row :=
  ⟨k.os.trans h.os, k.tape.trans h.tape, k.output.trans h.output, Nat.le_trans h.size k.size, fun i hi hne => (k.block i (Nat.lt_of_lt_of_le hi h.size) hne).trans (h.block i hi hne)⟩

/-- 'xs = append(xs, y)' on a slice of one's own: the number lies in a block of its own. -/
theorem wpList_app_int {ops : Array Oper} {rest : List Oper} {o : Oper} {a : Act} {Q : Exit → Act → World → Prop} (hgd : o.guard = none) (s x : Operand)
    (ho : o.op = .call { callee := .builtin .append, args := #[s, x], argTypes := #[28, 28] })
    (B : Nat) (w : World) (v : Value) (xs : List Int) (y : Int) (hs : a.eval s = v) (hown : OwnInts B w v xs) (hx : a.eval x = .slice (some ⟨w.heap.size, 0, none⟩) 1 1)
    (hn : xs.length ≤ 1000000) (hB : B ≤ w.heap.size)
    (h : ∀ v' w', OwnInts B w' v' (xs ++ [y]) → w.grownBy w' v.ownBlock → v' ≠ .slice none 0 0 → (v'.ownBlock = v.ownBlock ∨ ∃ m, v'.ownBlock = some m ∧ w.heap.size ≤ m) → wpList Try.prog ops Q rest (a.put o.dst v') w') :
    wpList Try.prog ops Q (o :: rest) a (w.alloc (.cells #[.int .i64 y] 3)) := by
  obtain ⟨i0, hi, hz0, hz1, hz2⟩ := info_parts infoInt
  refine wpList_append_own_at _ hgd s x 28 ho B 3 i0 (.int .i64 0) 1 8 Try.underlying28 hi hz0 hz1 hz2 rfl (by decide) v xs.length _ hs (World.ownsRow.alloc hown _) ⟨w.heap.size, 0, none⟩ 1 1 [.int .i64 y] hx rfl ?_ ?_ ?_ ?_ ?_ ?_
  · exact cell_one_new _ _ _
  · simp [Value.oneCell']
  · unfold maxLen; omega
  · omega
  · simp; omega
  · intro v' w' h1 h2 h3 h4
    refine h v' w' (own_more h1) (grownBy_trans (World.grownBy_alloc w _ _) h2) (fun e => by have := h3.1 e; omega) ?_
    rcases h4 with h4 | h4
    · exact .inl h4
    · exact .inr ⟨_, h4, by simp⟩

end Go.Proofs.Ytacajmpggjgaiaa
