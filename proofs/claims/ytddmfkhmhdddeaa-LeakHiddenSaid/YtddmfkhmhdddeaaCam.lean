/- Walks: what came to a zone between two times; the last number up to which something holds (the program). -/
import Derived.Test.YtddmfkhmhdddeaaAgr
set_option linter.unusedVariables false
set_option linter.unusedSimpArgs false
namespace Lk
/-- What came to a zone on j days from day s on. -/
def Bk.camN (b : Bk) (z s : Nat) : Nat → Sp
  | 0 => ⟨0, 0⟩
  | j + 1 => addSp (Bk.camN b z s j) (b.flowAt (s + j) z)
/-- What came to a zone behind a time, up to another one. -/
def Bk.came (b : Bk) (z : Nat) (a c : Int) : Sp := b.camN z (a + 1).toNat (c - a).toNat
theorem camN_bd {b : Bk} (ok : Ok b) {z s : Nat} (hz : z < b.first.length) (j : Nat) : s + j ≤ b.flows.length → -100000000 * (j : Int) ≤ (b.camN z s j).lo ∧ (b.camN z s j).lo ≤ (b.camN z s j).hi ∧ (b.camN z s j).hi ≤ 100000000 * (j : Int) := by
  induction j with
  | zero => intro _; simp [Bk.camN]
  | succ j ih =>
    intro h
    have h1 := ih (by omega)
    have h2 := ok.flows (s + j) z (by omega) hz
    simp only [Bk.camN, addSp, Bk.flowAt]
    push_cast
    omega
end Lk
namespace Go.Proofs.Ytddmfkhmhdddeaa
open Go.RowKit Go.Sd Lk

theorem three_new {w W : World} {a b c : Obj} (h : ((w.alloc a).alloc b).alloc c = W) :
    W.heap[w.heap.size]? = some a ∧ W.heap[w.heap.size + 1]? = some b ∧ W.heap[w.heap.size + 1 + 1]? = some c ∧ W.heap.size = w.heap.size + 3 ∧ Below w.heap.size w W := by
  obtain ⟨V, hV⟩ : ∃ V, (w.alloc a).alloc b = V := ⟨_, rfl⟩
  rw [hV] at h
  obtain ⟨e0, e1, s1, B1⟩ := two_new hV
  obtain ⟨e2, B2, s2⟩ := boxed h
  rw [s1] at e2
  exact ⟨kept_block B2 e0, kept_block B2 e1, e2, by omega, below_tr B1 B2⟩

set_option maxRecDepth 100000 in
set_option maxHeartbeats 4000000 in
theorem progCame (fv wv rv : Value) (b : Bk) (z s : Nat) (c : Int) (w : World) (hb : BookAt w fv wv rv b) (ok : Ok b) (hz : z < b.first.length) (hc : (s : Int) - 1 ≤ c ∧ c < b.flows.length) :
    Calls Try.prog 88 #[bkV fv wv rv, .int .i64 z, .int .i64 ((s : Int) - 1), .int .i64 c] w fun e w' => e = .returned (spV (b.camN z s (c + 1 - s).toNat)) ∧ Below w.heap.size w w' := by
  obtain ⟨n, hn⟩ : ∃ n : Nat, c + 1 - s = n := ⟨(c + 1 - s).toNat, by omega⟩
  have hnt : (c + 1 - s).toNat = n := by omega
  rw [hnt]
  obtain rfl : c = (s : Int) - 1 + n := by omega
  have hnd := ok.nd
  have hnz := ok.nz
  obtain ⟨W, hW⟩ : ∃ W, ((w.alloc (bkO fv wv rv)).alloc (spO ⟨0, 0⟩)).alloc (spO ⟨0, 0⟩) = W := ⟨_, rfl⟩
  obtain ⟨e0, e1, e2, s2, B2⟩ := three_new hW
  have hbW := Lib.hid (hb.mono B2)
  obtain ⟨fa, fc, rfl, hfm, -⟩ := hb.first.form
  obtain ⟨wa, wc, rfl, hwm, -⟩ := hb.flows.form
  obtain ⟨ra, rc, rfl, hrm, -⟩ := hb.reads.form
  have hH0 : Hid (W.heap[w.heap.size]? = some (bkO (.slice fa b.first.length fc) (.slice wa b.flows.length wc) (.slice ra b.reads.length rc)) ∧ W.heap[w.heap.size + 1]? = some (spO ⟨0, 0⟩) ∧ W.heap[w.heap.size + 1 + 1]? = some (spO (b.camN z s 0)) ∧ Below w.heap.size w W) := Lib.hid ⟨e0, e1, e2, B2⟩
  have hsub : IntKind.i64.wrap ((s : Int) - 1 + 1) = s := by rw [IntWalk.i64_in] <;> omega
  have hbw := Lib.hid hb
  clear e0 e1 e2 s2 B2 hb hbW
  go_enter Try.func88, Try.ntmps88
  go_wp2
  go_loopw [10] (fun i wr => ∃ j : Nat, j ≤ n ∧ i = .int .i64 ((s : Int) + j) ∧ Hid (wr.heap[w.heap.size]? = some (bkO (.slice fa b.first.length fc) (.slice wa b.flows.length wc) (.slice ra b.reads.length rc)) ∧ wr.heap[w.heap.size + 1]? = some (spO ⟨0, 0⟩) ∧ wr.heap[w.heap.size + 1 + 1]? = some (spO (b.camN z s j)) ∧ Below w.heap.size w wr)) (fun i _ => n - (intOf i - s).toNat)
  case atStart => exact ⟨0, by omega, by go_num, hH0.out⟩
  case round =>
    obtain ⟨j, hj, rfl, hH⟩ := hrel
    obtain ⟨f0, f1, f2, hB⟩ := hH.out
    clear hH hH0 hW hsub
    obtain ⟨q0, q1, q2⟩ := rc3 f0
    obtain ⟨p0, p1⟩ := rc2 f2
    obtain ⟨g0, g1⟩ := rf2 f2
    obtain ⟨p2, p3⟩ := rc2 f1
    obtain ⟨g2, g3⟩ := rf2 f1
    have z0 := (Array.getElem?_eq_some_iff.1 f0).1
    have z1 := (Array.getElem?_eq_some_iff.1 f1).1
    have z2 := (Array.getElem?_eq_some_iff.1 f2).1
    have hbd := camN_bd ok hz (s := s) j (by omega)
    by_cases hlt : j < n
    · have hbr := hbw.out.mono hB
      obtain ⟨wb, wo, wc2, ev, hwv, hwb, hwm2, x0, hev⟩ := sprow_cell hbr.flows (k := s + j) (by omega)
      obtain ⟨rfl, rfl⟩ : wa = some ⟨wb, wo, none⟩ ∧ wc = wc2 := by simpa using hwv
      have hrow := ok.rows (s + j) (by omega)
      obtain ⟨fb, fo, fc2, rfl, hfb, hfm2, y0, y1⟩ := sp_cells hev (k := z) (by rw [hrow]; exact hz)
      rw [hrow] at x0 hfm2
      have hfl := ok.flows (s + j) z (by omega) hz
      have hnx : Hid (b.camN z s (j + 1) = addSp (b.camN z s j) (spAt (rwAt b.flows (s + j)) z)) := rfl
      have hB' := Lib.hid hB
      have hzi : (z : Int) < (b.first.length : Int) := by omega
      have hdi : (0 : Int) ≤ (s : Int) + j ∧ (s : Int) + j < (b.flows.length : Int) ∧ (s : Int) + j ≤ s - 1 + n := by omega
      have htn : ((s : Int) + j).toNat = s + j := by omega
      clear hbr hwv hrow hev
      generalize spAt (rwAt b.flows (s + j)) z = f at *
      generalize hc2 : b.camN z s (j + 1) = c2 at *
      replace hc2 := Lib.hid hc2
      generalize b.camN z s j = c1 at *
      clear hB
      have z3 := World.block_lt_of_cell? wr ⟨wb, _, none⟩ x0
      have z4 := World.block_lt_of_cell? wr ⟨fb, _, none⟩ y0
      simp only at z3 z4
      go_wp2
      obtain ⟨Y, hY⟩ : ∃ Y, (wr.setCell ⟨w.heap.size + 1 + 1, 0, none⟩ (.int .i64 (c1.lo + f.lo))).setCell ⟨w.heap.size + 1 + 1, 1, none⟩ (.int .i64 (c1.hi + f.hi)) = Y := ⟨_, rfl⟩
      have y2 := set2 f2 (.int .i64 (c1.lo + f.lo)) (.int .i64 (c1.hi + f.hi))
      have y3 : ∀ m o, m ≠ w.heap.size + 1 + 1 → wr.heap[m]? = some o → Y.heap[m]? = some o := fun m o hm h => by rw [← hY]; exact (set2_other _ _ hm).trans h
      have hBY : Below w.heap.size w Y := by rw [← hY]; exact hB'.out.trans (below_set2 _ _ (by omega))
      rw [hY] at y2 ⊢
      have ha : Below Y.heap.size Y (Y.alloc (.cells #[.int .i64 f.lo, .int .i64 f.hi] 55)) := (Below.refl _ _).alloc (Nat.le_refl _) _
      refine ⟨⟨j + 1, by omega, by go_num, kept_block ha (y3 _ _ (by omega) f0), kept_block ha (y3 _ _ (by omega) f1), ?_, below_tr hBY ha⟩, by simp [intOf]; omega⟩
      rw [hc2.out, hnx.out]
      exact kept_block ha y2
    · obtain rfl : j = n := by omega
      go_wp2
      obtain ⟨c4, c5⟩ := rc2 (set2 f1 (.int .i64 (b.camN z s j).lo) (.int .i64 (b.camN z s j).hi))
      refine bodyPost_ret (v := spV (b.camN z s j)) (by simp [results, Try.results88, go_sem, c4, c5]) rfl ⟨rfl, hB.trans (below_set2 _ _ (by omega))⟩

/-- The last number of a range up to which something holds, if it holds for the first one. -/
def MostOf (p : Int → Bool) (lo hi r : Int) : Prop := lo ≤ r ∧ r ≤ hi ∧ p r = true ∧ (r < hi → p (r + 1) = false)

set_option maxHeartbeats 2000000 in
theorem progMost (nf : Nat) (nb : Array Value) (p : Int → Bool) (lo hi : Int) (w : World) (hl : 0 ≤ lo ∧ lo ≤ hi ∧ hi ≤ 10000000) (h0 : p lo = true) (hm : ∀ i j, lo ≤ i → i ≤ j → j ≤ hi → p j = true → p i = true)
    (en : ∀ args w, (callFunc nf args).run Try.prog w = .ok (.enter nf args) w)
    (hp : ∀ n, lo ≤ n → n ≤ hi → Calls Try.prog nf (#[.int .i64 n] ++ nb) w fun e w' => e = .returned (.bool (p n)) ∧ w = w') :
    Calls Try.prog 91 #[.int .i64 lo, .int .i64 hi, .func (.func nf) #[] nb] w fun e w' => w = w' ∧ ∃ r, e = .returned (.int .i64 r) ∧ MostOf p lo hi r := by
  have hp' := Lib.hid hp
  have hm' := Lib.hid hm
  clear hp hm
  go_enter Try.func91, Try.ntmps91
  go_wp2
  go_loopw [0, 1] (fun l h wr => ∃ a c : Int, l = .int .i64 a ∧ h = .int .i64 c ∧ wr = w ∧ lo ≤ a ∧ a ≤ c ∧ c ≤ hi ∧ Hid (p a = true ∧ (c < hi → p (c + 1) = false))) (fun l h _ => (intOf h - intOf l).toNat)
  case atStart => exact ⟨lo, hi, rfl, rfl, rfl, by omega, by omega, by omega, h0, fun h => absurd h (by omega)⟩
  case round =>
    obtain ⟨a, c, rfl, rfl, rfl, h1, h2, h3, hI⟩ := hrel
    by_cases hac : a < c
    · obtain ⟨d, hd⟩ : ∃ d, (c - a + 1).tdiv 2 = d := ⟨_, rfl⟩
      have hdb : 1 ≤ d ∧ d ≤ c - a := by
        rw [Int.tdiv_eq_ediv_of_nonneg (by omega)] at hd
        omega
      have hcall := hp'.out (a + d) (by omega) (by omega)
      have hm1 := Lib.hid (fun h => hm'.out a (a + d) (by omega) (by omega) (by omega) h)
      cases ht : p (a + d)
      · rw [ht] at hcall
        replace hcall := Lib.hid hcall
        replace ht := Lib.hid ht
        go_wp2_with ((with_reducible refine Calls.mono hcall.out ?_); rintro e w' ⟨rfl, rfl⟩)
        refine ⟨⟨a, a + d - 1, rfl, rfl, (by first | rfl | trivial), by omega, by omega, by omega, hI.out.1, fun _ => by rw [Int.sub_add_cancel]; exact ht.out⟩, by simp [intOf]; omega⟩
      · rw [ht] at hcall
        replace hcall := Lib.hid hcall
        replace ht := Lib.hid ht
        go_wp2_with ((with_reducible refine Calls.mono hcall.out ?_); rintro e w' ⟨rfl, rfl⟩)
        refine ⟨⟨a + d, c, rfl, rfl, (by first | rfl | trivial), by omega, by omega, by omega, ht.out, hI.out.2⟩, by simp [intOf]; omega⟩
    · obtain rfl : a = c := by omega
      go_wp2
      go_ret
      exact ⟨rfl, a, rfl, by omega, by omega, hI.out.1, hI.out.2⟩
end Go.Proofs.Ytddmfkhmhdddeaa
