/- Walks: a reading taken in (the reference). -/
import Derived.Test.YtddmfkhmhdddeaaRef
import Derived.Test.YtddmfkhmhdddeaaRea
set_option linter.unusedVariables false
set_option linter.unusedSimpArgs false
namespace Lk
theorem meets_snoc (s : Sp) (l : List Sp) (x : Sp) : meets s (l ++ [x]) = meet (meets s l) x := by simp [meets]
end Lk
namespace Go.Proofs.Ytddmfkhmhdddeaa
open Go.RowKit Go.Sd Lk

set_option maxRecDepth 100000 in
set_option maxHeartbeats 4000000 in
theorem refRead (fv wv rv : Value) (b : Bk) (z d : Int) (s : Sp) (w : World) (hb : BookAt w fv wv rv b) :
    Calls Try.prog 73 #[bkV fv wv rv, .int .i64 z, .int .i64 d, spV s] w fun e w' => e = .returned (spV (meets s (b.readsAt z d))) ∧ Below w.heap.size w w' := by
  obtain ⟨W0, hW0⟩ : ∃ W0, w.alloc (bkA fv wv rv) = W0 := ⟨_, rfl⟩
  obtain ⟨i0, b00, s00⟩ := boxed hW0
  obtain ⟨W, hW⟩ : ∃ W, (W0.alloc (spO s)).alloc (spO ⟨0, 0⟩) = W := ⟨_, rfl⟩
  obtain ⟨e1, e2, s0, b0⟩ := two_new hW
  have i1 := kept_block b0 i0
  have hBW := below_tr b00 b0
  rw [s00] at e1 e2
  obtain ⟨ra, rc, rfl, hrm, hx⟩ := hb.reads.form
  have hx2 := Lib.hid hx
  clear hx hb
  go_enter Try.func73, Try.ntmps73
  go_wp2
  go_loopw [9] (fun i wr => ∃ k : Nat, k ≤ b.reads.length ∧ i = .int .i64 k ∧ Hid (∃ t, t = meets s (b.readsTo z d k) ∧ wr.heap[w.heap.size]? = some (bkA fv wv (.slice ra b.reads.length rc)) ∧ wr.heap[w.heap.size + 1]? = some (spO t) ∧ wr.heap[w.heap.size + 1 + 1]? = some (spO ⟨0, 0⟩) ∧ Below w.heap.size w wr)) (fun i _ => b.reads.length - (intOf i).toNat)
  case atStart => exact ⟨0, by omega, rfl, s, rfl, i1, e1, e2, hBW⟩
  case round =>
    obtain ⟨k, hk, rfl, hH⟩ := hrel
    obtain ⟨t, ht, f0, f1, f2, hB⟩ := hH.out
    clear hH i0 i1 e1 e2 hW hW0 b00 b0 hBW s0 s00
    obtain ⟨q0, q1, q2⟩ := rc3 f0
    obtain ⟨c0, c1⟩ := rc2 f1
    obtain ⟨d0, d1⟩ := rf2 f1
    obtain ⟨c2, c3⟩ := rc2 f2
    obtain ⟨d2, d3⟩ := rf2 f2
    have z0 := (Array.getElem?_eq_some_iff.1 f0).1
    have z1 := (Array.getElem?_eq_some_iff.1 f1).1
    have z2 := (Array.getElem?_eq_some_iff.1 f2).1
    replace ht := Lib.hid ht
    by_cases hkl : k < b.reads.length
    · obtain ⟨rb, off, rfl, hrb, hx⟩ := hx2.out (by omega)
      have x0 : wr.cell? ⟨rb, off + k * 4, none⟩ = some (.int .i64 (rdAt b.reads k).day) := kept_cell hB (hx k 0 _ hkl rfl)
      have x1 : wr.cell? ⟨rb, off + k * 4 + 1, none⟩ = some (.int .i64 (rdAt b.reads k).zone) := kept_cell hB (hx k 1 _ hkl rfl)
      have x2 : wr.cell? ⟨rb, off + k * 4 + 2, none⟩ = some (.int .i64 (rdAt b.reads k).v.lo) := kept_cell hB (hx k 2 _ hkl rfl)
      have x3 : wr.cell? ⟨rb, off + k * 4 + 3, none⟩ = some (.int .i64 (rdAt b.reads k).v.hi) := kept_cell hB (hx k 3 _ hkl rfl)
      have hlt : (k : Int) < (b.reads.length : Int) := by omega
      have hn := Lib.hid (readsTo_succ (b := b) (z := z) (d := d) hkl)
      clear hx
      generalize rdAt b.reads k = r at *
      obtain ⟨V, hV⟩ : ∃ V, wr.alloc (rdO r) = V := ⟨_, rfl⟩
      obtain ⟨g0, hBV, sV⟩ := boxed hV
      have hBwV := hB.trans (hBV.mono hB.size)
      obtain ⟨r0, r1, r2, r3⟩ := rc4 g0
      have v0 := kept_block hBV f0
      have v1 := kept_block hBV f1
      have v2 := kept_block hBV f2
      by_cases hz : r.zone = z ∧ r.day = d
      · have hn2 := Lib.hid (hn.out.trans (if_pos hz))
        obtain ⟨hz1, hz2⟩ := hz
        subst hz1 hz2
        have kM := Lib.hid (refMeet t r.v V)
        obtain ⟨p0, p1⟩ := rc2 v1
        have zv1 := (Array.getElem?_eq_some_iff.1 v1).1
        have zv3 := (Array.getElem?_eq_some_iff.1 g0).1
        go_wp2_with (go_at_call 65; (with_reducible refine Calls.mono kM.out ?_); rintro e y ⟨rfl, hB2⟩; obtain ⟨e0, e1⟩ := rf2 (kept_block hB2 v1); obtain ⟨e2, e3⟩ := rc2 (kept_block hB2 v1); have zy := (Array.getElem?_eq_some_iff.1 (kept_block hB2 v1)).1)
        have y1 := kept_block hB2 v1
        have y0 := kept_block hB2 v0
        have y2 := kept_block hB2 v2
        have u1 := set2 y1 (.int .i64 (meet t r.v).lo) (.int .i64 (meet t r.v).hi)
        refine ⟨⟨k + 1, by omega, by go_num, meet t r.v, by rw [hn2.out, meets_snoc, ← ht.out], ?_, u1, ?_, (hBwV.trans (hB2.mono hBwV.size)).trans (below_set2 _ _ (by omega))⟩, by simp [intOf]; omega⟩
        · exact (set2_other _ _ (by omega)).trans y0
        · exact (set2_other _ _ (by omega)).trans y2
      · have hn2 := Lib.hid (hn.out.trans (if_neg hz))
        have fin : Hid (∃ t, t = meets s (b.readsTo z d (k + 1)) ∧ V.heap[w.heap.size]? = some (bkA fv wv (.slice (some ⟨rb, off, none⟩) b.reads.length rc)) ∧ V.heap[w.heap.size + 1]? = some (spO t) ∧ V.heap[w.heap.size + 1 + 1]? = some (spO ⟨0, 0⟩) ∧ Below w.heap.size w V) := ⟨t, by rw [hn2.out]; exact ht.out, v0, v1, v2, hBwV⟩
        by_cases h1 : r.zone = z
        · have h2 : ¬ r.day = d := fun h => hz ⟨h1, h⟩
          clear hz hn
          subst h1
          go_wp2
          exact ⟨⟨k + 1, by omega, by go_num, fin⟩, by simp [intOf]; omega⟩
        · clear hz hn
          go_wp2
          exact ⟨⟨k + 1, by omega, by go_num, fin⟩, by simp [intOf]; omega⟩
    · obtain rfl : k = b.reads.length := by omega
      go_wp2
      obtain ⟨c4, c5⟩ := rc2 (set2 f2 (.int .i64 t.lo) (.int .i64 t.hi))
      refine bodyPost_ret (v := spV t) (by simp [results, Try.results73, go_sem, c4, c5]) rfl ⟨by rw [ht.out, readsTo_all], hB.trans (below_set2 _ _ (by omega))⟩
end Go.Proofs.Ytddmfkhmhdddeaa
