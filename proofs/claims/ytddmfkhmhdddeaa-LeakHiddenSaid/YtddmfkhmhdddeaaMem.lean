/- How the data of leaks lie in memory: spans, lists of spans, readings, books; what stays when the world grows. -/
import Derived.Test.YtddmfkhmhdddeaaChecked
import Derived.Test.YtddmfkhmhdddeaaRows
import Derived.Test.YtddmfkhmhdddeaaVars
import Derived.Test.YtddmfkhmhdddeaaLkm
import Derived.WalkKit
import Derived.WalkSpells
import Derived.WalkLawsBesides
import Derived.Lib.Hide
set_option linter.unusedVariables false
set_option linter.unusedSimpArgs false
namespace Go.Proofs.Ytddmfkhmhdddeaa
open Go.RowKit Go.Sd Lk

theorem bool_ret {a b : Bool} (h : a = b) : Ending.returned (.bool a) = .returned (.bool b) := by rw [h]
theorem int_val {k : IntKind} {a b : Int} (h : a = b) : Value.int k a = .int k b := by rw [h]
theorem int_ret {k : IntKind} {a b : Int} (h : a = b) : Ending.returned (.int k a) = .returned (.int k b) := by rw [h]

theorem kept_cell {w w' : World} (hb : Below w.heap.size w w') {b o : Nat} {v : Value} (h : w.cell? ⟨b, o, none⟩ = some v) : w'.cell? ⟨b, o, none⟩ = some v :=
  (hb.cell (p := ⟨b, o, none⟩) (World.block_lt_of_cell? w ⟨b, o, none⟩ h)).trans h
theorem kept_block {w w' : World} (hb : Below w.heap.size w w') {n : Nat} {o : Obj} (h : w.heap[n]? = some o) : w'.heap[n]? = some o :=
  (hb.block _ (Array.getElem?_eq_some_iff.1 h).1).trans h
theorem below_tr {X w1 w2 : World} (h : Below X.heap.size X w1) (h2 : Below w1.heap.size w1 w2) : Below X.heap.size X w2 := h.trans (h2.mono h.size)
/-- A new block. -/
theorem boxed {w W : World} {o : Obj} (h : w.alloc o = W) : W.heap[w.heap.size]? = some o ∧ Below w.heap.size w W ∧ W.heap.size = w.heap.size + 1 := by
  subst h
  exact ⟨World.alloc_heap_new w o, (Below.refl _ _).alloc (Nat.le_refl _) _, World.size_alloc _ _⟩

/-- All cells that lay hold what they held. -/
structure Kc (w w' : World) : Prop where
  size : w.heap.size ≤ w'.heap.size
  cell : ∀ b o v, w.cell? ⟨b, o, none⟩ = some v → w'.cell? ⟨b, o, none⟩ = some v
theorem Kc.refl (w : World) : Kc w w := ⟨Nat.le_refl _, fun _ _ _ h => h⟩
theorem Kc.trans {a b c : World} (h : Kc a b) (k : Kc b c) : Kc a c := ⟨Nat.le_trans h.size k.size, fun _ _ _ hv => k.cell _ _ _ (h.cell _ _ _ hv)⟩
theorem Kc.of {w w' : World} (h : Below w.heap.size w w') : Kc w w' := ⟨h.size, fun _ _ _ hv => kept_cell h hv⟩

/-- A slice of structs (or of values of one cell), element by element. -/
def ElsAt {α : Type} (m : Nat) (enc : α → List Value) (d : α) (w : World) (v : Value) (xs : List α) : Prop :=
  ∃ a cap, v = .slice a xs.length cap ∧ xs.length ≤ maxLen ∧
    (0 < xs.length → ∃ b off, a = some ⟨b, off, none⟩ ∧ b < w.heap.size ∧ ∀ k i u, k < xs.length → (enc (xs.getD k d))[i]? = some u → w.cell? ⟨b, off + k * m + i, none⟩ = some u)
section
variable {α : Type} {m : Nat} {enc : α → List Value} {d : α} {w w' : World} {v : Value} {xs : List α}
theorem ElsAt.kc (h : ElsAt m enc d w v xs) (hb : Kc w w') : ElsAt m enc d w' v xs := by
  obtain ⟨a, cap, rfl, hm, hc⟩ := h
  refine ⟨a, cap, rfl, hm, fun h0 => ?_⟩
  obtain ⟨b, off, rfl, hlt, hk⟩ := hc h0
  exact ⟨b, off, rfl, Nat.lt_of_lt_of_le hlt hb.size, fun k i u hk' hu => hb.cell _ _ _ (hk k i u hk' hu)⟩
theorem ElsAt.mono (h : ElsAt m enc d w v xs) (hb : Below w.heap.size w w') : ElsAt m enc d w' v xs := h.kc (.of hb)
theorem ElsAt.nil (w : World) : ElsAt m enc d w (.slice none 0 0) [] := ⟨none, 0, rfl, by simp, fun h => by simp at h⟩
/-- The form of a slice. -/
theorem ElsAt.form (h : ElsAt m enc d w v xs) : ∃ a cap, v = .slice a xs.length cap ∧ xs.length ≤ 9223372036854775807 ∧
    (0 < xs.length → ∃ b off, a = some ⟨b, off, none⟩ ∧ b < w.heap.size ∧ ∀ k i u, k < xs.length → (enc (xs.getD k d))[i]? = some u → w.cell? ⟨b, off + k * m + i, none⟩ = some u) := by
  obtain ⟨a, cap, rfl, hm, hc⟩ := h
  unfold maxLen at hm
  exact ⟨a, cap, rfl, by omega, hc⟩
end

abbrev spV (s : Sp) : Value := .agg #[.int .i64 s.lo, .int .i64 s.hi]
abbrev spEnc (s : Sp) : List Value := [.int .i64 s.lo, .int .i64 s.hi]
abbrev rdEnc (r : Rd) : List Value := [.int .i64 r.day, .int .i64 r.zone, .int .i64 r.v.lo, .int .i64 r.v.hi]
abbrev rdV (r : Rd) : Value := .agg #[.int .i64 r.day, .int .i64 r.zone, .int .i64 r.v.lo, .int .i64 r.v.hi]
abbrev intEnc (n : Int) : List Value := [.int .i64 n]
abbrev gsEnc (g : Gs) : List Value := [.int .i64 g.zone, .int .i64 g.size, .int .i64 g.since]
abbrev gsV (g : Gs) : Value := .agg #[.int .i64 g.zone, .int .i64 g.size, .int .i64 g.since]
abbrev SpsAt (w : World) (v : Value) (xs : List Sp) : Prop := ElsAt 2 spEnc ⟨0, 0⟩ w v xs
abbrev RdsAt (w : World) (v : Value) (xs : List Rd) : Prop := ElsAt 4 rdEnc ⟨0, 0, ⟨0, 0⟩⟩ w v xs
abbrev IntsAt (w : World) (v : Value) (xs : List Int) : Prop := ElsAt 1 intEnc 0 w v xs
abbrev GssAt (w : World) (v : Value) (xs : List Gs) : Prop := ElsAt 3 gsEnc ⟨0, 0, 0⟩ w v xs

/-- A slice of slices. -/
def RowsAt {α : Type} (m : Nat) (enc : α → List Value) (d : α) (w : World) (v : Value) (xs : List (List α)) : Prop :=
  ∃ a cap, v = .slice a xs.length cap ∧ xs.length ≤ maxLen ∧
    (0 < xs.length → ∃ b off, a = some ⟨b, off, none⟩ ∧ b < w.heap.size ∧ ∀ k, k < xs.length → ∃ ev, w.cell? ⟨b, off + k, none⟩ = some ev ∧ ElsAt m enc d w ev (xs.getD k []))
section
variable {α : Type} {m : Nat} {enc : α → List Value} {d : α} {w w' : World} {v : Value} {xs : List (List α)}
theorem RowsAt.kc (h : RowsAt m enc d w v xs) (hb : Kc w w') : RowsAt m enc d w' v xs := by
  obtain ⟨a, cap, rfl, hm, hc⟩ := h
  refine ⟨a, cap, rfl, hm, fun h0 => ?_⟩
  obtain ⟨b, off, rfl, hlt, hk⟩ := hc h0
  exact ⟨b, off, rfl, Nat.lt_of_lt_of_le hlt hb.size, fun k hk' => let ⟨ev, h1, h2⟩ := hk k hk'; ⟨ev, hb.cell _ _ _ h1, h2.kc hb⟩⟩
theorem RowsAt.mono (h : RowsAt m enc d w v xs) (hb : Below w.heap.size w w') : RowsAt m enc d w' v xs := h.kc (.of hb)
theorem RowsAt.nil (w : World) : RowsAt m enc d w (.slice none 0 0) [] := ⟨none, 0, rfl, by simp, fun h => by simp at h⟩
theorem RowsAt.form (h : RowsAt m enc d w v xs) : ∃ a cap, v = .slice a xs.length cap ∧ xs.length ≤ 9223372036854775807 ∧
    (0 < xs.length → ∃ b off, a = some ⟨b, off, none⟩ ∧ b < w.heap.size ∧ ∀ k, k < xs.length → ∃ ev, w.cell? ⟨b, off + k, none⟩ = some ev ∧ ElsAt m enc d w ev (xs.getD k [])) := by
  obtain ⟨a, cap, rfl, hm, hc⟩ := h
  unfold maxLen at hm
  exact ⟨a, cap, rfl, by omega, hc⟩
end
abbrev SpRowsAt (w : World) (v : Value) (xs : List (List Sp)) : Prop := RowsAt 2 spEnc ⟨0, 0⟩ w v xs
abbrev ListsAt (w : World) (v : Value) (xs : List (List Int)) : Prop := RowsAt 1 intEnc 0 w v xs

/-- A span in a slice. -/
theorem sp_cells {w : World} {v : Value} {xs : List Sp} (h : SpsAt w v xs) {k : Nat} (hk : k < xs.length) :
    ∃ b off cap, v = .slice (some ⟨b, off, none⟩) xs.length cap ∧ b < w.heap.size ∧ xs.length ≤ 9223372036854775807 ∧
      w.cell? ⟨b, off + k * 2, none⟩ = some (.int .i64 (spAt xs k).lo) ∧ w.cell? ⟨b, off + k * 2 + 1, none⟩ = some (.int .i64 (spAt xs k).hi) := by
  obtain ⟨a, cap, rfl, hm, hc⟩ := h.form
  obtain ⟨b, off, rfl, hlt, hx⟩ := hc (by omega)
  exact ⟨b, off, cap, rfl, hlt, hm, hx k 0 _ hk rfl, hx k 1 _ hk rfl⟩
theorem rd_cells {w : World} {v : Value} {xs : List Rd} (h : RdsAt w v xs) {k : Nat} (hk : k < xs.length) :
    ∃ b off cap, v = .slice (some ⟨b, off, none⟩) xs.length cap ∧ b < w.heap.size ∧ xs.length ≤ 9223372036854775807 ∧
      w.cell? ⟨b, off + k * 4, none⟩ = some (.int .i64 (rdAt xs k).day) ∧ w.cell? ⟨b, off + k * 4 + 1, none⟩ = some (.int .i64 (rdAt xs k).zone) ∧
      w.cell? ⟨b, off + k * 4 + 2, none⟩ = some (.int .i64 (rdAt xs k).v.lo) ∧ w.cell? ⟨b, off + k * 4 + 3, none⟩ = some (.int .i64 (rdAt xs k).v.hi) := by
  obtain ⟨a, cap, rfl, hm, hc⟩ := h.form
  obtain ⟨b, off, rfl, hlt, hx⟩ := hc (by omega)
  exact ⟨b, off, cap, rfl, hlt, hm, hx k 0 _ hk rfl, hx k 1 _ hk rfl, hx k 2 _ hk rfl, hx k 3 _ hk rfl⟩
theorem int_cells {w : World} {v : Value} {xs : List Int} (h : IntsAt w v xs) {k : Nat} (hk : k < xs.length) :
    ∃ b off cap, v = .slice (some ⟨b, off, none⟩) xs.length cap ∧ b < w.heap.size ∧ xs.length ≤ 9223372036854775807 ∧ w.cell? ⟨b, off + k, none⟩ = some (.int .i64 (at0 xs k)) := by
  obtain ⟨a, cap, rfl, hm, hc⟩ := h.form
  obtain ⟨b, off, rfl, hlt, hx⟩ := hc (by omega)
  have := hx k 0 _ hk rfl
  rw [Nat.mul_one, Nat.add_zero] at this
  exact ⟨b, off, cap, rfl, hlt, hm, this⟩
/-- A row of spans. -/
theorem sprow_cell {w : World} {v : Value} {xs : List (List Sp)} (h : SpRowsAt w v xs) {k : Nat} (hk : k < xs.length) :
    ∃ b off cap ev, v = .slice (some ⟨b, off, none⟩) xs.length cap ∧ b < w.heap.size ∧ xs.length ≤ 9223372036854775807 ∧ w.cell? ⟨b, off + k, none⟩ = some ev ∧ SpsAt w ev (rwAt xs k) := by
  obtain ⟨a, cap, rfl, hm, hc⟩ := h.form
  obtain ⟨b, off, rfl, hlt, hx⟩ := hc (by omega)
  obtain ⟨ev, h1, h2⟩ := hx k hk
  exact ⟨b, off, cap, ev, rfl, hlt, hm, h1, h2⟩
theorem list_cell {w : World} {v : Value} {xs : List (List Int)} (h : ListsAt w v xs) {k : Nat} (hk : k < xs.length) :
    ∃ b off cap ev, v = .slice (some ⟨b, off, none⟩) xs.length cap ∧ b < w.heap.size ∧ xs.length ≤ 9223372036854775807 ∧ w.cell? ⟨b, off + k, none⟩ = some ev ∧ IntsAt w ev (lstAt xs k) := by
  obtain ⟨a, cap, rfl, hm, hc⟩ := h.form
  obtain ⟨b, off, rfl, hlt, hx⟩ := hc (by omega)
  obtain ⟨ev, h1, h2⟩ := hx k hk
  exact ⟨b, off, cap, ev, rfl, hlt, hm, h1, h2⟩

/-- A book by value. -/
structure BookAt (w : World) (fv wv rv : Value) (b : Bk) : Prop where
  first : SpsAt w fv b.first
  flows : SpRowsAt w wv b.flows
  reads : RdsAt w rv b.reads
theorem BookAt.kc {w w' : World} {fv wv rv : Value} {b : Bk} (h : BookAt w fv wv rv b) (hb : Kc w w') : BookAt w' fv wv rv b := ⟨h.first.kc hb, h.flows.kc hb, h.reads.kc hb⟩
theorem BookAt.mono {w w' : World} {fv wv rv : Value} {b : Bk} (h : BookAt w fv wv rv b) (hb : Below w.heap.size w w') : BookAt w' fv wv rv b := h.kc (.of hb)
abbrev bkV (fv wv rv : Value) : Value := .agg #[fv, wv, rv]
/-- The book in a box: of the type leak.book, or api.LeakBook. -/
abbrev bkO (fv wv rv : Value) : Obj := .cells #[fv, wv, rv] 93
abbrev bkA (fv wv rv : Value) : Obj := .cells #[fv, wv, rv] 26
abbrev gsO (g : Gs) : Obj := .cells #[.int .i64 g.zone, .int .i64 g.size, .int .i64 g.since] 28
abbrev spO (s : Sp) : Obj := .cells #[.int .i64 s.lo, .int .i64 s.hi] 55
abbrev rdO (r : Rd) : Obj := .cells #[.int .i64 r.day, .int .i64 r.zone, .int .i64 r.v.lo, .int .i64 r.v.hi] 57

/-- A contract that yields a Boolean: the Boolean is a letter, so that the walk can part on it. -/
def BoolB (b : Bool) (w : World) (e : Ending) (w' : World) : Prop := ∃ t, e = .returned (.bool t) ∧ Hid (b = t) ∧ Below w.heap.size w w'
def BoolS (b : Bool) (w : World) (e : Ending) (w' : World) : Prop := ∃ t, e = .returned (.bool t) ∧ Hid (b = t) ∧ w = w'
theorem BoolB.mk {b t : Bool} {w w' : World} (h : b = t) (hb : Below w.heap.size w w') : BoolB b w (.returned (.bool t)) w' := ⟨t, rfl, h, hb⟩
theorem BoolB.lit {b t : Bool} {w w' : World} {e : Ending} (h : BoolB b w e w') (hb : b = t) : e = .returned (.bool t) ∧ Below w.heap.size w w' := by
  obtain ⟨t', rfl, ht, hB⟩ := h
  exact ⟨by rw [← hb, ← ht.out], hB⟩

theorem progIn (a b c : Int) (w : World) :
    Calls Try.prog 63 #[.int .i64 a, .int .i64 b, .int .i64 c] w fun e w' => e = .returned (.bool (inB a b c)) ∧ w = w' := by
  by_cases h : b ≤ a
  · go_enter Try.func63, Try.ntmps63
    go_wp2
    go_ret
    exact ⟨by simp [inB, h], rfl⟩
  · go_enter Try.func63, Try.ntmps63
    go_wp2
    go_ret
    exact ⟨by simp [inB]; intro _; omega, rfl⟩
theorem refIn (a b c : Int) (w : World) :
    Calls Try.prog 54 #[.int .i64 a, .int .i64 b, .int .i64 c] w fun e w' => e = .returned (.bool (inB a b c)) ∧ w = w' := by
  by_cases h : b ≤ a
  · go_enter Try.func54, Try.ntmps54
    go_wp2
    go_ret
    exact ⟨by simp [inB, h], rfl⟩
  · go_enter Try.func54, Try.ntmps54
    go_wp2
    go_ret
    exact ⟨by simp [inB]; intro _; omega, rfl⟩
theorem progInS (a b c : Int) (w : World) : Calls Try.prog 63 #[.int .i64 a, .int .i64 b, .int .i64 c] w (BoolS (inB a b c) w) := (progIn a b c w).mono (by rintro e w' ⟨rfl, rfl⟩; exact ⟨_, rfl, rfl, rfl⟩)
theorem refInS (a b c : Int) (w : World) : Calls Try.prog 54 #[.int .i64 a, .int .i64 b, .int .i64 c] w (BoolS (inB a b c) w) := (refIn a b c w).mono (by rintro e w' ⟨rfl, rfl⟩; exact ⟨_, rfl, rfl, rfl⟩)

theorem spB_false {s : Sp} {m : Int} (hn : ¬ (-m ≤ s.lo ∧ s.lo ≤ s.hi ∧ s.hi ≤ m)) : spB s m = false := by
  cases hs : spB s m
  · rfl
  · exact absurd (spB_iff.1 hs) hn

theorem progSpan (s : Sp) (m : Int) (w : World) (hm : 0 ≤ m ∧ m ≤ 1000000000) :
    Calls Try.prog 86 #[spV s, .int .i64 m] w fun e w' => e = .returned (.bool (spB s m)) ∧ Below w.heap.size w w' := by
  by_cases h1 : -m ≤ s.lo
  · by_cases h2 : s.lo ≤ s.hi
    · by_cases h3 : s.hi ≤ m
      · have hf : Hid (spB s m = true) := spB_iff.2 ⟨h1, h2, h3⟩
        go_enter Try.func86, Try.ntmps86
        go_wp2
        go_ret
        exact ⟨bool_ret (by rw [hf.out]), (Below.refl _ _).alloc (Nat.le_refl _) _⟩
      · have hf : Hid (spB s m = false) := spB_false (by omega)
        have h3' : m < s.hi := by omega
        go_enter Try.func86, Try.ntmps86
        go_wp2
        go_ret
        exact ⟨bool_ret (by rw [hf.out]), (Below.refl _ _).alloc (Nat.le_refl _) _⟩
    · have hf : Hid (spB s m = false) := spB_false (by omega)
      have h2' : s.hi < s.lo := by omega
      go_enter Try.func86, Try.ntmps86
      go_wp2
      go_ret
      exact ⟨bool_ret hf.out.symm, (Below.refl _ _).alloc (Nat.le_refl _) _⟩
  · have hf : Hid (spB s m = false) := spB_false (by omega)
    have h1' : s.lo < -m := by omega
    go_enter Try.func86, Try.ntmps86
    go_wp2
    go_ret
    exact ⟨bool_ret hf.out.symm, (Below.refl _ _).alloc (Nat.le_refl _) _⟩

theorem refSpan (s : Sp) (n m : Int) (w : World) (hm : 0 ≤ m ∧ m ≤ 1000000000) (hn : n = -m) :
    Calls Try.prog 82 #[spV s, .int .i64 n, .int .i64 m] w fun e w' => e = .returned (.bool (spB s m)) ∧ Below w.heap.size w w' := by
  have hn' := Lib.hid hn
  clear hn
  by_cases h1 : n ≤ s.lo
  · by_cases h2 : s.lo ≤ s.hi
    · by_cases h3 : s.hi ≤ m
      · have hf : Hid (spB s m = true) := spB_iff.2 ⟨by have := hn'.out; omega, h2, h3⟩
        go_enter Try.func82, Try.ntmps82
        go_wp2
        go_ret
        exact ⟨bool_ret (by rw [hf.out]), (Below.refl _ _).alloc (Nat.le_refl _) _⟩
      · have hf : Hid (spB s m = false) := spB_false (by omega)
        have h3' : m < s.hi := by omega
        go_enter Try.func82, Try.ntmps82
        go_wp2
        go_ret
        exact ⟨bool_ret (by rw [hf.out]), (Below.refl _ _).alloc (Nat.le_refl _) _⟩
    · have hf : Hid (spB s m = false) := spB_false (by omega)
      have h2' : s.hi < s.lo := by omega
      go_enter Try.func82, Try.ntmps82
      go_wp2
      go_ret
      exact ⟨bool_ret hf.out.symm, (Below.refl _ _).alloc (Nat.le_refl _) _⟩
  · have hf : Hid (spB s m = false) := spB_false (by have := hn'.out; omega)
    have h1' : s.lo < n := by omega
    go_enter Try.func82, Try.ntmps82
    go_wp2
    go_ret
    exact ⟨bool_ret hf.out.symm, (Below.refl _ _).alloc (Nat.le_refl _) _⟩

theorem progNothing (w : World) : Calls Try.prog 67 #[] w fun e w' => e = .returned (gsV noGs) ∧ Below w.heap.size w w' := by
  go_enter Try.func67, Try.ntmps67
  go_wp2
  refine bodyPost_ret (v := gsV noGs) (by simp [results, Try.results67, go_sem, noGs]) rfl ⟨rfl, ?_⟩
  exact (Below.refl _ _).alloc (Nat.le_refl _) _
theorem refNone (w : World) : Calls Try.prog 40 #[] w fun e w' => e = .returned (gsV noGs) ∧ Below w.heap.size w w' := by
  go_enter Try.func40, Try.ntmps40
  go_wp2
  refine bodyPost_ret (v := gsV noGs) (by simp [results, Try.results40, go_sem, noGs]) rfl ⟨rfl, ?_⟩
  exact (Below.refl _ _).alloc (Nat.le_refl _) _

theorem progZone (wv rv : Value) (a : Option Addr) (n cap : Nat) (k : Int) (w : World) (hm : n ≤ 9223372036854775807) :
    Calls Try.prog 70 #[bkV (.slice a n cap) wv rv, .int .i64 k] w fun e w' => e = .returned (.bool (inB k 0 (n - 1))) ∧ Below w.heap.size w w' := by
  go_enter Try.func70, Try.ntmps70
  go_wp2_with (go_at_call 63; refine (progIn _ _ _ _).mono ?_; rintro e w' ⟨rfl, rfl⟩)
  go_ret
  exact ⟨rfl, (Below.refl _ _).alloc (Nat.le_refl _) _⟩
theorem progDay (fv rv : Value) (a : Option Addr) (n cap : Nat) (k : Int) (w : World) (hm : n ≤ 9223372036854775807) :
    Calls Try.prog 71 #[bkV fv (.slice a n cap) rv, .int .i64 k] w fun e w' => e = .returned (.bool (inB k 0 (n - 1))) ∧ Below w.heap.size w w' := by
  go_enter Try.func71, Try.ntmps71
  go_wp2_with (go_at_call 63; refine (progIn _ _ _ _).mono ?_; rintro e w' ⟨rfl, rfl⟩)
  go_ret
  exact ⟨rfl, (Below.refl _ _).alloc (Nat.le_refl _) _⟩
end Go.Proofs.Ytddmfkhmhdddeaa
