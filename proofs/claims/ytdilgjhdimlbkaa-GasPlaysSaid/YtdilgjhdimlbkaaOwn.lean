/- Gas: lists of whole numbers in memory; slices that a call makes itself and appends to. Gas: the walk of wide: the span of some numbers. -/
import Derived.Test.YtdilgjhdimlbkaaA1
import Derived.Maps.AppendAt
import Derived.OwnWalk
import Derived.Laws.MakeOwn
set_option linter.unusedVariables false
set_option linter.unusedSimpArgs false
namespace Gas
/-- The number at a place of a list; 0 beyond its end. -/
def at0 (l : List Int) (k : Nat) : Int := l.getD k 0
end Gas
namespace Go.Proofs.Ytdilgjhdimlbkaa
open Go.RowKit Go.Sd

/-- A slice that reads as a list of whole numbers. -/
def IntsAt (w : World) (v : Value) (xs : List Int) : Prop :=
  ∃ a cap, v = .slice a xs.length cap ∧ xs.length ≤ maxLen ∧
    (0 < xs.length → ∃ b off, a = some ⟨b, off, none⟩ ∧ b < w.heap.size ∧ ∀ k, k < xs.length → w.cell? ⟨b, off + k, none⟩ = some (.int .i64 (Gas.at0 xs k)))
theorem kept_cell {w w' : World} (hb : Below w.heap.size w w') {b o : Nat} {v : Value} (h : w.cell? ⟨b, o, none⟩ = some v) : w'.cell? ⟨b, o, none⟩ = some v :=
  (hb.cell (p := ⟨b, o, none⟩) (World.block_lt_of_cell? w ⟨b, o, none⟩ h)).trans h
theorem IntsAt.mono {w w' : World} {v : Value} {xs : List Int} (h : IntsAt w v xs) (hb : Below w.heap.size w w') : IntsAt w' v xs := by
  obtain ⟨a, cap, rfl, hm, hc⟩ := h
  refine ⟨a, cap, rfl, hm, fun h0 => ?_⟩
  obtain ⟨b, off, rfl, hlt, hk⟩ := hc h0
  exact ⟨b, off, rfl, Nat.lt_of_lt_of_le hlt hb.size, fun k hk' => kept_cell hb (hk k hk')⟩

theorem infoInt : (Try.prog.info? 3).map (fun i => (i.zero, i.size, i.bytes)) = some (some (.int .i64 0), 1, 8) := by kernel_rfl

/-- A slice of one's own, from block B on. -/
def OwnInts (B : Nat) (w : World) (v : Value) (xs : List Int) : Prop := w.ownsRow B 3 1 v xs.length (xs.map (Value.int .i64))

theorem OwnInts.nil (B : Nat) (w : World) : OwnInts B w (.slice none 0 0) [] := World.ownsRow_nil w B _ 1

theorem OwnInts.lt {B : Nat} {w : World} {v : Value} {xs : List Int} (h : OwnInts B w v xs) : ∀ k, v.ownBlock = some k → B ≤ k ∧ k < w.heap.size := World.ownsRow.lt h

theorem OwnInts.kept {B : Nat} {w w' : World} {row : Option Nat} {v : Value} {xs : List Int} (h : OwnInts B w v xs) (hg : w.grownBy w' row) (hne : v.ownBlock = none ∨ v.ownBlock ≠ row) : OwnInts B w' v xs := World.ownsRow.kept h hg hne

theorem grown_of_below {w w' : World} (h : Below w.heap.size w w') : w.grownBy w' none :=
  ⟨h.os, h.tape, h.output, h.size, fun k hk _ => h.block k hk⟩

theorem OwnInts.mono {B : Nat} {w w' : World} {v : Value} {xs : List Int} (h : OwnInts B w v xs) (hb : Below w.heap.size w w') : OwnInts B w' v xs :=
  h.kept (grown_of_below hb) (by cases v.ownBlock <;> simp)

theorem OwnInts.from {B B' : Nat} {w : World} {v : Value} {xs : List Int} (h : OwnInts B w v xs) (hB : B' ≤ B) : OwnInts B' w v xs := by
  obtain ⟨h1, h2⟩ := h
  refine ⟨h1, ?_⟩
  rcases h2 with h2 | ⟨g, cap, cur, hv, hg, r⟩
  · exact .inl h2
  · exact .inr ⟨g, cap, cur, hv, by omega, r⟩

theorem OwnInts.at {B : Nat} {w : World} {v : Value} {xs : List Int} (h : OwnInts B w v xs) : IntsAt w v xs := by
  obtain ⟨_, h2⟩ := h
  rcases h2 with ⟨rfl, h0⟩ | ⟨g, cap, cur, rfl, hB, hg, hn, hm, hs, ht⟩
  · refine ⟨none, 0, by rw [h0], by simp [h0], fun h => by omega⟩
  · refine ⟨some ⟨g, 0, none⟩, cap, rfl, by omega, fun _ => ⟨g, 0, rfl, (Array.getElem?_eq_some_iff.1 hg).1, fun k hk => ?_⟩⟩
    rw [Nat.zero_add, cell_of_row w g k cur _ (0, 0) hg]
    have h1 : (cur.toList.take (xs.length * 1))[k]? = (xs.map (Value.int .i64))[k]? := by rw [ht]
    rw [List.getElem?_take, if_pos (by omega)] at h1
    simp only [List.getElem?_map, List.getElem?_eq_getElem hk, Option.map_some] at h1
    rw [← Array.getElem?_toList, h1]
    simp [Gas.at0, hk]

/-- One number more. -/
theorem own_more {B : Nat} {w : World} {v : Value} {xs : List Int} {y : Int} (h : w.ownsRow B 3 1 v (xs.length + 1) (xs.map (Value.int .i64) ++ [.int .i64 y])) : OwnInts B w v (xs ++ [y]) := by
  unfold OwnInts
  simpa using h

/-- Behind an append. -/
theorem below_append {B : Nat} {W w w' : World} {v : Value} {xs : List Int} (hb : Below B W w) (hB : B ≤ w.heap.size) (ho : OwnInts B w v xs) (hg : w.grownBy w' v.ownBlock) : Below B W w' :=
  hb.grown hg hB fun k hk => (ho.lt k hk).1

theorem grownBy_trans {a b c : World} {row : Option Nat} (h : a.grownBy b row) (k : b.grownBy c row) : a.grownBy c row :=
  ⟨k.os.trans h.os, k.tape.trans h.tape, k.output.trans h.output, Nat.le_trans h.size k.size, fun i hi hne => (k.block i (Nat.lt_of_lt_of_le hi h.size) hne).trans (h.block i hi hne)⟩

/-- 'xs = append(xs, y)' on a slice of one's own: the number lies in a block of its own. -/
theorem wpList_app_int {ops : Array Oper} {rest : List Oper} {o : Oper} {a : Act} {Q : Exit → Act → World → Prop} (hgd : o.guard = none) (s x : Operand)
    (ho : o.op = .call { callee := .builtin .append, args := #[s, x], argTypes := #[30, 30] })
    (B : Nat) (w : World) (v : Value) (xs : List Int) (y : Int) (hs : a.eval s = v) (hown : OwnInts B w v xs) (hx : a.eval x = .slice (some ⟨w.heap.size, 0, none⟩) 1 1)
    (hn : xs.length ≤ 1000000) (hB : B ≤ w.heap.size)
    (h : ∀ v' w', OwnInts B w' v' (xs ++ [y]) → w.grownBy w' v.ownBlock → v' ≠ .slice none 0 0 → (v'.ownBlock = v.ownBlock ∨ ∃ m, v'.ownBlock = some m ∧ w.heap.size ≤ m) → wpList Try.prog ops Q rest (a.put o.dst v') w') :
    wpList Try.prog ops Q (o :: rest) a (w.alloc (.cells #[.int .i64 y] 3)) := by
  obtain ⟨i0, hi, hz0, hz1, hz2⟩ := info_parts infoInt
  refine wpList_append_own_at _ hgd s x 30 ho B 3 i0 (.int .i64 0) 1 8 Try.underlying30 hi hz0 hz1 hz2 rfl (by decide) v xs.length _ hs (World.ownsRow.alloc hown _) ⟨w.heap.size, 0, none⟩ 1 1 [.int .i64 y] hx rfl ?_ ?_ ?_ ?_ ?_ ?_
  · exact cell_one_new _ _ _
  · simp [Value.oneCell']
  · unfold maxLen; omega
  · omega
  · simp; omega
  · intro v' w' h1 h2 h3 h4
    refine h v' w' (own_more h1) (grownBy_trans (World.grownBy_alloc w _ _) h2) (fun e => by have := h3.1 e; omega) ?_
    rcases h4 with h4 | h4
    · exact .inl h4
    · exact .inr ⟨_, h4, by simp⟩

end Go.Proofs.Ytdilgjhdimlbkaa
namespace Gas
/-- The span of some numbers. -/
def wideStep (s : Int × Int) (n : Int) : Int × Int := (min s.1 n, max s.2 n)
def wideL : List Int → Int × Int
  | [] => (0, 0)
  | x :: r => r.foldl wideStep (x, x)
theorem wideL_snoc {xs : List Int} (n : Int) (h : xs ≠ []) : wideL (xs ++ [n]) = wideStep (wideL xs) n := by
  cases xs with
  | nil => exact absurd rfl h
  | cons x r => simp [wideL, List.foldl_append]
theorem wideL_one (n : Int) : wideL [n] = (n, n) := rfl
theorem take_at0 (xs : List Int) (k : Nat) (h : k < xs.length) : xs.take (k + 1) = xs.take k ++ [at0 xs k] := by
  rw [List.take_succ_eq_append_getElem h]; simp [at0, h]
theorem wide_next (xs : List Int) (k : Nat) (h : k < xs.length) : wideL (xs.take (k + 1)) = if k = 0 then (at0 xs k, at0 xs k) else wideStep (wideL (xs.take k)) (at0 xs k) := by
  rw [take_at0 xs k h]
  split
  · rename_i h0; subst h0; simp [wideL]
  · rw [wideL_snoc]
    intro h1
    have := congrArg List.length h1
    rw [List.length_take, List.length_nil] at this
    omega
/-- What the span of some numbers is: both ends are among them, and all lie in between. -/
theorem wideL_spec : ∀ (xs : List Int), xs ≠ [] → (wideL xs).1 ∈ xs ∧ (wideL xs).2 ∈ xs ∧ ∀ x ∈ xs, (wideL xs).1 ≤ x ∧ x ≤ (wideL xs).2 := by
  intro xs h
  cases xs with
  | nil => exact absurd rfl h
  | cons x r =>
    suffices hs : ∀ (r : List Int) (a b : Int) (ys : List Int), a ∈ ys → b ∈ ys → (∀ y ∈ ys, a ≤ y ∧ y ≤ b) →
        (r.foldl wideStep (a, b)).1 ∈ ys ++ r ∧ (r.foldl wideStep (a, b)).2 ∈ ys ++ r ∧ ∀ y ∈ ys ++ r, (r.foldl wideStep (a, b)).1 ≤ y ∧ y ≤ (r.foldl wideStep (a, b)).2 by
      have := hs r x x [x] (by simp) (by simp) (by simp)
      simpa [wideL] using this
    intro r
    induction r with
    | nil => intro a b ys ha hb hy; simpa using ⟨ha, hb, hy⟩
    | cons n r ih =>
      intro a b ys ha hb hy
      have := ih (min a n) (max b n) (ys ++ [n]) (by simp only [Int.min_def]; split <;> simp [ha]) (by simp only [Int.max_def]; split <;> simp [hb]) (by
        intro y hy'
        rcases List.mem_append.1 hy' with h | h
        · have := hy y h; omega
        · have : y = n := by simpa using h
          have := (hy a ha); omega)
      simpa [wideStep] using this
theorem wide_eq {xs : List Int} {lo hi : Int} (h1 : lo ∈ xs) (h2 : hi ∈ xs) (h : ∀ x ∈ xs, lo ≤ x ∧ x ≤ hi) : wideL xs = (lo, hi) := by
  have hne : xs ≠ [] := by rintro rfl; cases h1
  obtain ⟨a, b, c⟩ := wideL_spec xs hne
  have a1 := h _ a; have b1 := h _ b; have c1 := c _ h1; have c2 := c _ h2
  exact Prod.ext (by simp only; omega) (by simp only; omega)
end Gas
namespace Go.Proofs.Ytdilgjhdimlbkaa
open Go.RowKit Go.Sd Gas

set_option maxRecDepth 100000 in
set_option maxHeartbeats 2000000 in
theorem progWide (lv : Value) (xs : List Int) (w : World) (hx : IntsAt w lv xs) :
    Calls Try.prog 54 #[lv] w fun e w' => e = .returned (.agg #[.int .i64 (wideL xs).1, .int .i64 (wideL xs).2]) ∧ Below w.heap.size w w' := by
  obtain ⟨a, cap, rfl, hm, hc⟩ := hx
  unfold maxLen at hm
  have hm' : xs.length ≤ 9223372036854775807 := by omega
  obtain ⟨W, hW⟩ : ∃ W, w.alloc (.cells #[.int .i64 0, .int .i64 0] 23) = W := ⟨_, rfl⟩
  obtain ⟨e0, b0, s0⟩ := boxed hW
  obtain ⟨z0, r0, t0⟩ := row_cells e0
  have q0 := r0 0
  have q1 := r0 1
  have f0 := t0 0
  have f1 := t0 1
  simp only [List.getElem?_toArray, List.getElem?_cons_zero, List.getElem?_cons_succ] at q0 q1
  have hcW : 0 < xs.length → ∃ b off, a = some ⟨b, off, none⟩ ∧ b < W.heap.size ∧ ∀ k, k < xs.length → W.cell? ⟨b, off + k, none⟩ = some (.int .i64 (at0 xs k)) := fun h => by
    obtain ⟨b, off, h1, h2, h3⟩ := hc h
    exact ⟨b, off, h1, Nat.lt_of_lt_of_le h2 b0.size, fun k hk => kept_cell b0 (h3 k hk)⟩
  replace hcW := Lib.hid hcW
  clear hc e0 r0 t0 s0
  go_enter Try.func54, Try.ntmps54
  go_wp2
  go_loopw [4, 5, 8] (fun _ _ i wr => ∃ k : Nat, k ≤ xs.length ∧ i = .int .i64 k ∧ wr = W.alloc (.cells #[.int .i64 (wideL (xs.take k)).1, .int .i64 (wideL (xs.take k)).2] 23)) (fun _ _ i _ => xs.length - (intOf i).toNat)
  case atStart => exact ⟨0, Nat.zero_le _, rfl, rfl⟩
  case round =>
    obtain ⟨k, hk, rfl, rfl⟩ := hrel
    by_cases hlt : k < xs.length
    · obtain ⟨b, off, rfl, hb, hcell⟩ := hcW.out (by omega)
      have c0 := hcell k hlt
      clear hcell
      have hki : (k : Int) < (xs.length : Int) := by omega
      have hn := Lib.hid (wide_next xs k hlt)
      generalize at0 xs k = n at *
      obtain ⟨s1, hs1⟩ : ∃ s1, wideL (xs.take k) = s1 := ⟨_, rfl⟩
      rw [hs1] at hn ⊢
      clear hs1
      by_cases h0 : k = 0
      · subst h0
        have hn2 : wideL (xs.take (0 + 1)) = (n, n) := by have := hn.out; simpa using this
        replace hn2 := Lib.hid hn2
        clear hn
        rw [Nat.add_zero] at c0
        go_wp2
        exact ⟨⟨0 + 1, by omega, by go_num, by rw [hn2.out]⟩, by simp [intOf]; omega⟩
      · have h0' : ¬ (k : Int) = 0 := by omega
        have hn2 : wideL (xs.take (k + 1)) = wideStep s1 n := by have := hn.out; rwa [if_neg h0] at this
        replace hn2 := Lib.hid hn2
        replace h0 := Lib.hid h0
        clear hn
        have e1 : (if n < s1.1 then n else s1.1) = min s1.1 n := by rw [Int.min_def]; split <;> split <;> omega
        have e2 : (if s1.2 < n then n else s1.2) = max s1.2 n := by rw [Int.max_def]; split <;> split <;> omega
        go_wp2
        exact ⟨⟨k + 1, by omega, by go_num, by rw [hn2.out]; rfl⟩, by simp [intOf]; omega⟩
    · obtain rfl : k = xs.length := by omega
      rw [List.take_length]
      go_wp2
      refine bodyPost_ret (v := .agg #[.int .i64 (wideL xs).1, .int .i64 (wideL xs).2]) (by simp [results, Try.results54, go_sem, *]) rfl ⟨rfl, ?_⟩
      refine Below.alloc ?_ (by simp; exact b0.size) _
      repeat' (first | (with_reducible exact b0) | (exact Nat.le_refl _) | refine Below.setCell ?_ ?_ _)
end Go.Proofs.Ytdilgjhdimlbkaa
