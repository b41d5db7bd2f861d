/- Walks: what spans have in common; what comes to a zone on a day; bounds of a day are kept; days forwards and backwards. -/
import Derived.Test.YtddmfkhmhdddeaaGue
set_option linter.unusedVariables false
set_option linter.unusedSimpArgs false
namespace Lk
theorem meets_take {s : Sp} {l : List Sp} {k : Nat} (h : k < l.length) : meets s (l.take (k + 1)) = meet (meets s (l.take k)) (spAt l k) := by
  have e : spAt l k = l[k] := by simp [spAt, h]
  rw [List.take_succ_eq_append_getElem h, e]
  simp only [meets, List.foldl_append, List.foldl_cons, List.foldl_nil]
theorem meets_all {s : Sp} {l : List Sp} : meets s (l.take l.length) = meets s l := by rw [List.take_length]
theorem max_if (a b : Int) : (if a < b then b else a) = max a b := by rw [Int.max_def]; split <;> split <;> omega
theorem min_if (a b : Int) : (if b < a then b else a) = min a b := by rw [Int.min_def]; split <;> split <;> omega
end Lk
namespace Go.Proofs.Ytddmfkhmhdddeaa
open Go.RowKit Go.Sd Lk

theorem set2 {w : World} {n : Nat} {a b : Value} {e : TypeId} (h : w.heap[n]? = some (.cells #[a, b] e)) (a' b' : Value) :
    ((w.setCell ⟨n, 0, none⟩ a').setCell ⟨n, 1, none⟩ b').heap[n]? = some (.cells #[a', b'] e) := by
  simp only [World.setCell, Array.getElem?_modify, if_true, h]
  rfl
theorem set2_other {w : World} {n m : Nat} {i j : Nat} (a' b' : Value) (h : m ≠ n) : ((w.setCell ⟨n, i, none⟩ a').setCell ⟨n, j, none⟩ b').heap[m]? = w.heap[m]? := by
  rw [Below.heap_setCell _ _ _ _ h, Below.heap_setCell _ _ _ _ h]
theorem below_set2 {B : Nat} {w : World} {n : Nat} {i j : Nat} (a' b' : Value) (h : B ≤ n) : Below B w ((w.setCell ⟨n, i, none⟩ a').setCell ⟨n, j, none⟩ b') :=
  ((Below.refl B w).setCell (p := ⟨n, i, none⟩) h a').setCell (p := ⟨n, j, none⟩) h b'
theorem two_new {w W : World} {a b : Obj} (h : (w.alloc a).alloc b = W) :
    W.heap[w.heap.size]? = some a ∧ W.heap[w.heap.size + 1]? = some b ∧ W.heap.size = w.heap.size + 2 ∧ Below w.heap.size w W := by
  subst h
  have e1 := World.alloc_heap_new (w.alloc a) b
  simp only [World.size_alloc] at e1
  exact ⟨(Below.heap_alloc _ _ _ (by simp)).trans (World.alloc_heap_new w a), e1, by simp, ((Below.refl _ _).alloc (Nat.le_refl _) _).alloc (by simp) _⟩

set_option maxRecDepth 100000 in
set_option maxHeartbeats 2000000 in
theorem progMeet (s : Sp) (lv : Value) (l : List Sp) (w : World) (hl : SpsAt w lv l) :
    Calls Try.prog 98 #[spV s, lv] w fun e w' => e = .returned (spV (meets s l)) ∧ Below w.heap.size w w' := by
  obtain ⟨W, hW⟩ : ∃ W, (w.alloc (spO s)).alloc (spO ⟨0, 0⟩) = W := ⟨_, rfl⟩
  obtain ⟨e0, e1, s0, b0⟩ := two_new hW
  obtain ⟨a, cap, rfl, hm, hx⟩ := hl.form
  have hx2 := Lib.hid hx
  clear hx hl
  go_enter Try.func98, Try.ntmps98
  go_wp2
  go_loopw [9] (fun i wr => ∃ k : Nat, k ≤ l.length ∧ i = .int .i64 k ∧ Hid (∃ t, t = meets s (l.take k) ∧ wr.heap[w.heap.size]? = some (spO t) ∧ wr.heap[w.heap.size + 1]? = some (spO ⟨0, 0⟩) ∧ Below w.heap.size w wr)) (fun i _ => l.length - (intOf i).toNat)
  case atStart => exact ⟨0, by omega, rfl, s, rfl, e0, e1, b0⟩
  case round =>
    obtain ⟨k, hk, rfl, hH⟩ := hrel
    obtain ⟨t, ht, f0, f1, hB⟩ := hH.out
    clear hH
    obtain ⟨c0, c1⟩ := rc2 f0
    obtain ⟨d0, d1⟩ := rf2 f0
    obtain ⟨c2, c3⟩ := rc2 f1
    obtain ⟨d2, d3⟩ := rf2 f1
    have z0 := (Array.getElem?_eq_some_iff.1 f0).1
    have z1 := (Array.getElem?_eq_some_iff.1 f1).1
    replace ht := Lib.hid ht
    by_cases hkl : k < l.length
    · obtain ⟨b, off, rfl, hb, hx⟩ := hx2.out (by omega)
      have x0 : wr.cell? ⟨b, off + k * 2, none⟩ = some (.int .i64 (spAt l k).lo) := kept_cell hB (hx k 0 _ hkl rfl)
      have x1 : wr.cell? ⟨b, off + k * 2 + 1, none⟩ = some (.int .i64 (spAt l k).hi) := kept_cell hB (hx k 1 _ hkl rfl)
      clear hx
      have hn := Lib.hid (meets_take (s := s) hkl)
      generalize spAt l k = x at *
      have hlt : (k : Int) < (l.length : Int) := by omega
      have m1 := max_if t.lo x.lo
      have m2 := min_if t.hi x.hi
      go_wp2
      have y0 := set2 f0 (.int .i64 (max t.lo x.lo)) (.int .i64 (min t.hi x.hi))
      have y1 := (set2_other (w := wr) (i := 0) (j := 1) (.int .i64 (max t.lo x.lo)) (.int .i64 (min t.hi x.hi)) (show w.heap.size + 1 ≠ w.heap.size by omega)).trans f1
      have y2 := hB.trans (below_set2 (w := wr) (i := 0) (j := 1) (.int .i64 (max t.lo x.lo)) (.int .i64 (min t.hi x.hi)) (Nat.le_refl w.heap.size))
      refine ⟨⟨k + 1, by omega, by go_num, meet t x, by rw [hn.out, ← ht.out], ?_, ?_, y2.alloc y2.size _⟩, by simp [intOf]; omega⟩
      · exact (Below.heap_alloc _ _ _ (Array.getElem?_eq_some_iff.1 y0).1).trans y0
      · exact (Below.heap_alloc _ _ _ (Array.getElem?_eq_some_iff.1 y1).1).trans y1
    · obtain rfl : k = l.length := by omega
      go_wp2
      obtain ⟨c4, c5⟩ := rc2 (set2 f1 (.int .i64 t.lo) (.int .i64 t.hi))
      refine bodyPost_ret (v := spV t) (by simp [results, Try.results98, go_sem, c4, c5]) rfl ⟨by rw [ht.out, meets_all], hB.trans (below_set2 _ _ (by omega))⟩
end Go.Proofs.Ytddmfkhmhdddeaa
