/- Walks: the bounds of a zone with a guess (the reference). -/
import Derived.Test.YtddmfkhmhdddeaaRFo
import Derived.Test.YtddmfkhmhdddeaaBwd
set_option linter.unusedVariables false
set_option linter.unusedSimpArgs false
namespace Lk
def Bk.bndL (b : Bk) (g : Gs) (z : Nat) : List Sp := (List.range b.flows.length).map fun d => b.bnd g z d
theorem bndL_len {b : Bk} {g : Gs} {z : Nat} : (b.bndL g z).length = b.flows.length := by simp [Bk.bndL]
theorem fwdL_at {b : Bk} {g : Gs} {z k d : Nat} (h : d < k) : spAt (b.fwdL g z k) d = b.fwd g z (d + 1) := spAt_range h
/-- A list of which the last j + 1 days are done. -/
def Bk.half (b : Bk) (g : Gs) (z j : Nat) (l : List Sp) : Prop := l.length = b.flows.length ∧ ∀ t, t < b.flows.length → spAt l t = if b.flows.length - 1 - t ≤ j then b.bnd g z t else b.fwd g z (t + 1)
theorem half_0 {b : Bk} {g : Gs} {z : Nat} (h : 0 < b.flows.length) : b.half g z 0 (b.fwdL g z b.flows.length) := by
  refine ⟨fwdL_len, fun t ht => ?_⟩
  rw [fwdL_at ht]
  split
  · obtain rfl : t = b.flows.length - 1 := by omega
    unfold Bk.bnd
    rw [show b.flows.length - 1 - (b.flows.length - 1) = 0 by omega, show b.flows.length - 1 + 1 = b.flows.length by omega]
    rfl
  · rfl
theorem half_all {b : Bk} {g : Gs} {z : Nat} {l : List Sp} (h : b.half g z (b.flows.length - 1) l) : l = b.bndL g z := by
  refine sps_ext (by rw [h.1, bndL_len]) fun t ht => ?_
  rw [h.1] at ht
  rw [h.2 t ht, if_pos (by omega)]
  exact (spAt_range ht).symm
theorem half_next {b : Bk} {g : Gs} {z j k : Nat} {l : List Sp} (h : b.half g z j l) (hk : k + 1 + j + 1 = b.flows.length) : b.half g z (j + 1) (l.set k (b.bnd g z k)) := by
  refine ⟨by rw [List.length_set]; exact h.1, fun t ht => ?_⟩
  rw [spAt_set (by rw [h.1]; omega)]
  by_cases htk : t = k
  · subst htk; rw [if_pos rfl, if_pos (by omega)]
  · rw [if_neg htk, h.2 t ht]
    by_cases h1 : b.flows.length - 1 - t ≤ j
    · rw [if_pos h1, if_pos (by omega)]
    · rw [if_neg h1, if_neg (by omega)]
theorem bnd_eq {b : Bk} {g : Gs} {z k : Nat} (h : k + 1 < b.flows.length) : b.bnd g z k = meet (b.fwd g z (k + 1)) ⟨(b.bnd g z (k + 1)).lo - (b.flowAt (k + 1) z).hi + lost g z (k + 1 : Nat), (b.bnd g z (k + 1)).hi - (b.flowAt (k + 1) z).lo + lost g z (k + 1 : Nat)⟩ := by
  unfold Bk.bnd
  rw [show b.flows.length - 1 - k = (b.flows.length - 1 - (k + 1)) + 1 by omega]
  simp only [Bk.bwd, Bk.comes]
  rw [show b.flows.length - 1 - (b.flows.length - 1 - (k + 1)) = k + 1 by omega]
  congr 2 <;> omega
end Lk
namespace Go.Proofs.Ytddmfkhmhdddeaa
open Go.RowKit Go.Sd Lk

theorem spCells_flat : ∀ l, spCells l = l.flatMap spEnc
  | [] => rfl
  | x :: xs => by simp [spCells, spCells_flat xs]
/-- A block that begins with spans. -/
def BlkIn (w : World) (q : Nat) (l : List Sp) : Prop := ∃ rest, w.heap[q]? = some (.cells (spCells l ++ rest).toArray 55)
theorem BlkIn.lt {w : World} {q : Nat} {l : List Sp} (h : BlkIn w q l) : q < w.heap.size := let ⟨_, h⟩ := h; (Array.getElem?_eq_some_iff.1 h).1
theorem BlkIn.mono {w w' : World} {q : Nat} {l : List Sp} (h : BlkIn w q l) (hb : Below w.heap.size w w') : BlkIn w' q l := let ⟨r, h⟩ := h; ⟨r, kept_block hb h⟩
theorem BlkIn.same {w w' : World} {q : Nat} {l : List Sp} (h : BlkIn w q l) (hb : w'.heap[q]? = w.heap[q]?) : BlkIn w' q l := let ⟨r, h⟩ := h; ⟨r, hb.trans h⟩
theorem BlkIn.cell {w : World} {q : Nat} {l : List Sp} (h : BlkIn w q l) {k : Nat} (hk : k < l.length) :
    (w.cell? ⟨q, k * 2, none⟩ = some (.int .i64 (spAt l k).lo) ∧ w.cell? ⟨q, k * 2 + 1, none⟩ = some (.int .i64 (spAt l k).hi)) ∧ w.frozen? ⟨q, k * 2, none⟩ = false ∧ w.frozen? ⟨q, k * 2 + 1, none⟩ = false := by
  obtain ⟨rest, h⟩ := h
  obtain ⟨-, r, f⟩ := row_cells h
  have c := spCells_get l k hk
  have hl := spCells_len l
  refine ⟨⟨?_, ?_⟩, f _, f _⟩
  · rw [r, List.getElem?_toArray, List.getElem?_append_left (by omega)]; exact c.1
  · rw [r, List.getElem?_toArray, List.getElem?_append_left (by omega)]; exact c.2
theorem BlkIn.set {w : World} {q : Nat} {l : List Sp} (h : BlkIn w q l) {k : Nat} (hk : k < l.length) (y : Sp) :
    BlkIn ((w.setCell ⟨q, k * 2, none⟩ (.int .i64 y.lo)).setCell ⟨q, k * 2 + 1, none⟩ (.int .i64 y.hi)) q (l.set k y) := by
  obtain ⟨rest, h⟩ := h
  have hl := spCells_len l
  refine ⟨rest, ?_⟩
  rw [← spCells_set l k y hk, ← List.set_append_left _ _ (by rw [List.length_set]; omega), ← List.set_append_left _ _ (by omega)]
  simp only [World.setCell, Array.getElem?_modify, if_true, h]
  simp
theorem BlkIn.sps {w : World} {q : Nat} {l : List Sp} (h : BlkIn w q l) (hm : l.length ≤ maxLen) (cap : Nat) : SpsAt w (.slice (some ⟨q, 0, none⟩) l.length cap) l := by
  refine ⟨_, cap, rfl, hm, fun _ => ⟨q, 0, rfl, h.lt, fun k i u hk hu => ?_⟩⟩
  obtain ⟨⟨c0, c1⟩, -, -⟩ := h.cell hk
  match i, hu with
  | 0, hu => cases hu; rw [Nat.zero_add]; exact c0
  | 1, hu => cases hu; rw [Nat.zero_add]; exact c1
  | i + 2, hu => simp at hu
theorem blk_of_own {B : Nat} {w : World} {a : Option Addr} {n cap : Nat} {l : List Sp} (h : OwnSps B w (.slice a n cap) l) (h0 : 0 < l.length) : ∃ q, a = some ⟨q, 0, none⟩ ∧ B ≤ q ∧ BlkIn w q l := by
  obtain ⟨h1, h2⟩ := h
  rcases h2 with ⟨-, hn⟩ | ⟨q, c, cur, hv, hB, hg, -, -, hs, ht⟩
  · omega
  · cases hv
    refine ⟨q, rfl, hB, cur.toList.drop (l.length * 2), ?_⟩
    rw [spCells_flat, ← ht, List.take_append_drop]
    exact hg

def ZonePo (b : Bk) (g : Gs) (z : Nat) (w : World) (e : Ending) (w' : World) : Prop := Below w.heap.size w w' ∧
  ((b.zoneB g z = true ∧ ∃ q cap, e = .returned (.tuple #[.slice (some ⟨q, 0, none⟩) b.flows.length cap, .bool true]) ∧ w.heap.size ≤ q ∧ BlkIn w' q (b.bndL g z)) ∨ (b.zoneB g z = false ∧ e = .returned (.tuple #[.slice none 0 0, .bool false])))
structure RzSt (b : Bk) (g : Gs) (z : Nat) (w : World) (fv wv rv : Value) (q j : Nat) (l : List Sp) (W : World) : Prop where
  bk : W.heap[w.heap.size]? = some (bkA fv wv rv)
  gs : W.heap[w.heap.size + 1]? = some (gsO g)
  blk : BlkIn W q l
  half : b.half g z j l
  bel : Below w.heap.size w W
theorem RzSt.mono {b : Bk} {g : Gs} {z : Nat} {w : World} {fv wv rv : Value} {q j : Nat} {l : List Sp} {W V : World} (h : RzSt b g z w fv wv rv q j l W) (hb : Below W.heap.size W V) : RzSt b g z w fv wv rv q j l V :=
  ⟨kept_block hb h.bk, kept_block hb h.gs, h.blk.mono hb, h.half, below_tr h.bel hb⟩
theorem RzSt.next {b : Bk} {g : Gs} {z : Nat} {w : World} {fv wv rv : Value} {q j k : Nat} {l : List Sp} {W : World} (h : RzSt b g z w fv wv rv q j l W) (hq : w.heap.size + 2 ≤ q) (hk : k + 1 + j + 1 = b.flows.length) :
    RzSt b g z w fv wv rv q (j + 1) (l.set k (b.bnd g z k)) ((W.setCell ⟨q, k * 2, none⟩ (.int .i64 (b.bnd g z k).lo)).setCell ⟨q, k * 2 + 1, none⟩ (.int .i64 (b.bnd g z k).hi)) :=
  ⟨(set2_other _ _ (by omega)).trans h.bk, (set2_other _ _ (by omega)).trans h.gs, h.blk.set (by rw [h.half.1]; omega) _, half_next h.half hk, h.bel.trans (below_set2 _ _ (by omega))⟩

set_option maxRecDepth 100000 in
set_option maxHeartbeats 4000000 in
theorem refZone (fv wv rv : Value) (b : Bk) (g : Gs) (z : Nat) (w : World) (hb : BookAt w fv wv rv b) (ok : Ok b) (hg : b.gsB g = true) (hz : z < b.first.length) :
    Calls Try.prog 56 #[bkV fv wv rv, gsV g, .int .i64 z] w (ZonePo b g z w) := by
  have hnd := ok.nd
  have hb0 := Lib.hid hb
  have hzi : (z : Int) < (b.first.length : Int) := by omega
  obtain ⟨W, hW⟩ : ∃ W, (w.alloc (bkA fv wv rv)).alloc (gsO g) = W := ⟨_, rfl⟩
  obtain ⟨e0, e1, s0, b0⟩ := two_new hW
  have kF := Lib.hid (refForward fv wv rv b g z W (hb.mono b0) ok hg hz)
  obtain ⟨fa, fc, rfl, hfm, -⟩ := hb.first.form
  obtain ⟨wa, wc, rfl, hwm, -⟩ := hb.flows.form
  obtain ⟨ra, rc, rfl, hrm, -⟩ := hb.reads.form
  obtain ⟨q0, q1, q2⟩ := rc3 e0
  obtain ⟨g0, g1, g2⟩ := rc3 e1
  have zW := (Array.getElem?_eq_some_iff.1 e0).1
  have zG := (Array.getElem?_eq_some_iff.1 e1).1
  have hE0 := Lib.hid e0
  have hE1 := Lib.hid e1
  have hBW := Lib.hid b0
  have hWs : Hid (W.heap.size = w.heap.size + 2) := Lib.hid s0
  replace hW := Lib.hid hW
  clear hb e0 e1 b0 s0
  cases hzb : b.zoneB g z
  · have kN : Hid (Calls Try.prog 55 _ W fun e w' => e = .returned (.tuple #[.slice none 0 0, .bool false]) ∧ Below W.heap.size W w') := Lib.hid (kF.out.mono (by
      rintro e y ⟨hB2, ⟨hx, -⟩ | ⟨hx, rfl⟩⟩
      · rw [hzb] at hx; cases hx
      · exact ⟨rfl, hB2⟩))
    go_enter Try.func56, Try.ntmps56
    go_wp2_with (go_at_call 55; rw [hW.out]; (with_reducible refine Calls.mono kN.out ?_); rintro e y ⟨rfl, hB2⟩)
    refine bodyPost_ret (v := .tuple #[_, _]) (by simp [results, Try.results56, go_sem]; exact ⟨rfl, rfl⟩) rfl ?_
    exact ⟨below_tr hBW.out hB2, .inr ⟨hzb, rfl⟩⟩
  · have kN : Hid (Calls Try.prog 55 _ W fun e w' => (∃ a cap, e = .returned (.tuple #[.slice a b.flows.length cap, .bool true]) ∧ OwnSps W.heap.size w' (.slice a b.flows.length cap) (b.fwdL g z b.flows.length)) ∧ Below W.heap.size W w') := Lib.hid (kF.out.mono (by
      rintro e y ⟨hB2, ⟨hx, a, cap, rfl, ho⟩ | ⟨hx, -⟩⟩
      · exact ⟨⟨a, cap, rfl, ho⟩, hB2⟩
      · rw [hzb] at hx; cases hx))
    go_enter Try.func56, Try.ntmps56
    go_wp2_with (go_at_call 55; rw [hW.out]; (with_reducible refine Calls.mono kN.out ?_); rintro e y ⟨⟨a, cap, rfl, ho⟩, hB2⟩)
    obtain ⟨q, rfl, hWq, hblk⟩ := blk_of_own ho (by rw [fwdL_len]; omega)
    have hwq : w.heap.size + 2 ≤ q := by rw [← hWs.out]; exact hWq
    have hS0 : Hid (RzSt b g z w (.slice fa b.first.length fc) (.slice wa b.flows.length wc) (.slice ra b.reads.length rc) q 0 (b.fwdL g z b.flows.length) y) := Lib.hid ⟨kept_block hB2 hE0.out, kept_block hB2 hE1.out, hblk, half_0 (by omega), below_tr hBW.out hB2⟩
    clear q0 q1 q2 g0 g1 g2 zW zG hB2 ho hblk kN kF hW hWq hWs hE0 hE1 hBW
    go_loopw [10] (fun i wr => ∃ (k j : Nat) (l : List Sp), k + j + 1 = b.flows.length ∧ i = .int .i64 ((k : Int) - 1) ∧ Hid (RzSt b g z w (.slice fa b.first.length fc) (.slice wa b.flows.length wc) (.slice ra b.reads.length rc) q j l wr)) (fun i _ => (intOf i + 1).toNat)
    case atStart => exact ⟨b.flows.length - 1, 0, _, by omega, by go_num, hS0.out⟩
    case round =>
      obtain ⟨k, j, l, hkj, hi, hH⟩ := hrel
      clear hS0
      cases k with
      | zero =>
        rw [show ((0 : Nat) : Int) - 1 = -1 by omega] at hi
        subst hi
        have hl : l = b.bndL g z := half_all (by rw [show b.flows.length - 1 = j by omega]; exact hH.out.half)
        have hfin := Lib.hid hH.out.blk
        rw [hl] at hfin
        clear hl
        go_wp2
        refine bodyPost_ret (v := .tuple #[_, _]) (by simp [results, Try.results56, go_sem]; exact ⟨rfl, rfl⟩) rfl ?_
        exact ⟨hH.out.bel, .inl ⟨hzb, _, _, rfl, by omega, hfin.out⟩⟩
      | succ k =>
        rw [show ((k + 1 : Nat) : Int) - 1 = k by omega] at hi
        subst hi
        have hbr := hb0.out.mono hH.out.bel
        have hki : (k : Int) + 1 < (b.flows.length : Int) := by omega
        obtain ⟨rb, ro, rk, ev, hrv, hrb, -, x1, hrow⟩ := sprow_cell hbr.flows (k := k + 1) (by omega)
        obtain ⟨rfl, rfl⟩ : wa = some ⟨rb, ro, none⟩ ∧ wc = rk := by simpa using hrv
        obtain ⟨tb, tof, tc, rfl, htb, -, x2, x3⟩ := sp_cells hrow (k := z) (by rw [ok.rows (k + 1) (by omega)]; exact hz)
        rw [ok.rows (k + 1) (by omega)] at x1
        obtain ⟨q0, q1, q2⟩ := rc3 hH.out.bk
        obtain ⟨g0, g1, g2⟩ := rc3 hH.out.gs
        have zS := (Array.getElem?_eq_some_iff.1 hH.out.bk).1
        have zG := (Array.getElem?_eq_some_iff.1 hH.out.gs).1
        have hll := hH.out.half.1
        have hlk : spAt l k = b.fwd g z (k + 1) := by rw [hH.out.half.2 k (by omega), if_neg (by omega)]
        have hlk1 : spAt l (k + 1) = b.bnd g z (k + 1) := by rw [hH.out.half.2 (k + 1) (by omega), if_pos (by omega)]
        have hfb := fwd_bd ok hg hz (k + 1) (by omega)
        have hbi := bwd_in ok hg hz hzb (b.flows.length - 1 - (k + 1)) (by omega)
        have hfb2 := fwd_bd ok hg hz (b.flows.length - (b.flows.length - 1 - (k + 1))) (by omega)
        have hnb : -10000000000 ≤ (b.bnd g z (k + 1)).lo ∧ (b.bnd g z (k + 1)).lo ≤ 10000000000 ∧ -10000000000 ≤ (b.bnd g z (k + 1)).hi ∧ (b.bnd g z (k + 1)).hi ≤ 10000000000 := by unfold Bk.bnd; omega
        have hlb : 0 ≤ lost g z (k + 1 : Nat) ∧ lost g z (k + 1 : Nat) ≤ 10000000 := by
          have hsz : 0 ≤ g.size ∧ g.size ≤ 10000000 := by
            simp only [Bk.gsB, Bool.or_eq_true, decide_eq_true_eq, Bool.and_eq_true, inB_iff] at hg
            rcases hg with rfl | hg
            · simp [noGs]
            · omega
          unfold lost; split <;> omega
        have hfl := ok.flows (k + 1) z (by omega) hz
        have hbe := bnd_eq (b := b) (g := g) (z := z) (k := k) (by omega)
        have kL0 := fun x => refLost g z (k + 1 : Nat) x
        have kM0 := fun x => refMeet (b.fwd g z (k + 1)) ⟨(b.bnd g z (k + 1)).lo - (b.flowAt (k + 1) z).hi + lost g z (k + 1 : Nat), (b.bnd g z (k + 1)).hi - (b.flowAt (k + 1) z).lo + lost g z (k + 1 : Nat)⟩ x
        rw [← hbe] at kM0
        have hnext : Hid (∀ V, RzSt b g z w (.slice fa b.first.length fc) (.slice (some ⟨rb, ro, none⟩) b.flows.length wc) (.slice ra b.reads.length rc) q j l V → RzSt b g z w (.slice fa b.first.length fc) (.slice (some ⟨rb, ro, none⟩) b.flows.length wc) (.slice ra b.reads.length rc) q (j + 1) (l.set k (b.bnd g z k)) ((V.setCell ⟨q, k * 2, none⟩ (.int .i64 (b.bnd g z k).lo)).setCell ⟨q, k * 2 + 1, none⟩ (.int .i64 (b.bnd g z k).hi))) := Lib.hid fun V h => h.next hwq (by omega)
        have hfx : spAt (rwAt b.flows (k + 1)) z = b.flowAt (k + 1) z := rfl
        rw [hfx] at x2 x3 hfl
        rw [show ((k + 1 : Nat) : Int) = (k : Int) + 1 by omega] at kL0 kM0 hlb
        generalize b.bnd g z k = s1 at *
        generalize b.bnd g z (k + 1) = nx at *
        generalize b.fwd g z (k + 1) = s at *
        generalize b.flowAt (k + 1) z = f at *
        generalize lost g z ((k : Int) + 1) = n at *
        have kL := Lib.hid kL0
        have kM := Lib.hid kM0
        have hkj2 := Lib.hid hkj
        clear kL0 kM0 hbe hbi hfb2 hrow hbr hrv hfx hkj
        go_wp2
        refine plain_region (by kernel_rfl) (any_region_locN 15 75 [] [29, 30, 31, 32, 33, 34, 35, 36, 37, 38, 39, 40, 41, 42, 11] [[], [0], [], [2], [1, 3], [4], [], [5, 6], [7], [], [], [], [11], [9, 10, 12], []] [IsV (.pointer (some ⟨w.heap.size, 1, none⟩)), IsV (.slice (some ⟨rb, ro, none⟩) b.flows.length wc), IsV (.int .i64 k), IsV (.int .i64 ((k : Int) + 1)), IsV (.pointer (some ⟨rb, ro + (k + 1), none⟩)), IsV (.slice (some ⟨tb, tof, none⟩) b.first.length tc), IsV (.int .i64 z), IsV (.pointer (some ⟨tb, tof + z * 2, none⟩)), IsV (spV f), IsV (gsV g), IsV (.int .i64 z), IsV (.int .i64 k), IsV (.int .i64 ((k : Int) + 1)), IsV (.int .i64 n), NewAt wr.heap.size #[.int .i64 0, .int .i64 0] 55] [14] (by kernel_rfl) (by kernel_rfl) (by kernel_rfl) (by kernel_rfl) (by kernel_rfl) rfl OnlyN.panic ?_ ?_ ?_ (fun j hj => nomatch hj) ?_)
        · exact List.forall_mem_cons.2 ⟨pers_v _, List.forall_mem_cons.2 ⟨pers_v _, List.forall_mem_cons.2 ⟨pers_v _, List.forall_mem_cons.2 ⟨pers_v _, List.forall_mem_cons.2 ⟨pers_v _, List.forall_mem_cons.2 ⟨pers_v _, List.forall_mem_cons.2 ⟨pers_v _, List.forall_mem_cons.2 ⟨pers_v _, List.forall_mem_cons.2 ⟨pers_v _, List.forall_mem_cons.2 ⟨pers_v _, List.forall_mem_cons.2 ⟨pers_v _, List.forall_mem_cons.2 ⟨pers_v _, List.forall_mem_cons.2 ⟨pers_v _, List.forall_mem_cons.2 ⟨pers_v _, List.forall_mem_cons.2 ⟨pers_new _ _ _, fun f h => nomatch h⟩⟩⟩⟩⟩⟩⟩⟩⟩⟩⟩⟩⟩⟩⟩
        · intro k hk u x hu
          obtain rfl : k = 14 := by simpa using hk
          exact NewAt.isNew (show NewAt _ _ _ u x from hu)
        · refine ⟨?_, ?_, ?_, ?_, ?_, ?_, ?_, ?_, ?_, ?_, ?_, ?_, ?_, ?_, ?_, trivial⟩
          · intro vals x hb hf
            simp only [fillS, List.getD_cons_succ, List.getD_cons_zero, Act.put, List.setIfInBounds_toArray, List.set_cons_zero, List.set_cons_succ]
            clear hf
            have u1 := kept_cell hb q1
            have ux1 := kept_cell hb x1
            have ux2 := kept_cell hb x2
            have ux3 := kept_cell hb x3
            have ug0 := kept_cell hb g0
            have ug1 := kept_cell hb g1
            have ug2 := kept_cell hb g2
            have zx := Nat.lt_of_lt_of_le zS hb.size
            have zx2 := Nat.lt_of_lt_of_le zG hb.size
            go_wp2
            exact ⟨rfl, rfl, Below.refl _ _, _, rfl, rfl, (fun h => absurd h (by decide))⟩
          · intro vals x hb hf
            simp only [fillS, List.getD_cons_succ, List.getD_cons_zero, Act.put, List.setIfInBounds_toArray, List.set_cons_zero, List.set_cons_succ]
            have h0 : vals 0 = .pointer (some ⟨w.heap.size, 1, none⟩) := hf.1
            rw [h0]
            clear h0
            clear hf
            have u1 := kept_cell hb q1
            have ux1 := kept_cell hb x1
            have ux2 := kept_cell hb x2
            have ux3 := kept_cell hb x3
            have ug0 := kept_cell hb g0
            have ug1 := kept_cell hb g1
            have ug2 := kept_cell hb g2
            have zx := Nat.lt_of_lt_of_le zS hb.size
            have zx2 := Nat.lt_of_lt_of_le zG hb.size
            go_wp2
            exact ⟨rfl, rfl, Below.refl _ _, _, rfl, rfl, (fun h => absurd h (by decide))⟩
          · intro vals x hb hf
            simp only [fillS, List.getD_cons_succ, List.getD_cons_zero, Act.put, List.setIfInBounds_toArray, List.set_cons_zero, List.set_cons_succ]
            clear hf
            have u1 := kept_cell hb q1
            have ux1 := kept_cell hb x1
            have ux2 := kept_cell hb x2
            have ux3 := kept_cell hb x3
            have ug0 := kept_cell hb g0
            have ug1 := kept_cell hb g1
            have ug2 := kept_cell hb g2
            have zx := Nat.lt_of_lt_of_le zS hb.size
            have zx2 := Nat.lt_of_lt_of_le zG hb.size
            go_wp2
            exact ⟨rfl, rfl, Below.refl _ _, _, rfl, rfl, (fun h => absurd h (by decide))⟩
          · intro vals x hb hf
            simp only [fillS, List.getD_cons_succ, List.getD_cons_zero, Act.put, List.setIfInBounds_toArray, List.set_cons_zero, List.set_cons_succ]
            have h2 : vals 2 = .int .i64 k := hf.1
            rw [h2]
            clear h2
            clear hf
            have u1 := kept_cell hb q1
            have ux1 := kept_cell hb x1
            have ux2 := kept_cell hb x2
            have ux3 := kept_cell hb x3
            have ug0 := kept_cell hb g0
            have ug1 := kept_cell hb g1
            have ug2 := kept_cell hb g2
            have zx := Nat.lt_of_lt_of_le zS hb.size
            have zx2 := Nat.lt_of_lt_of_le zG hb.size
            go_wp2
            exact ⟨rfl, rfl, Below.refl _ _, _, rfl, rfl, (fun h => absurd h (by decide))⟩
          · intro vals x hb hf
            simp only [fillS, List.getD_cons_succ, List.getD_cons_zero, Act.put, List.setIfInBounds_toArray, List.set_cons_zero, List.set_cons_succ]
            have h1 : vals 1 = .slice (some ⟨rb, ro, none⟩) b.flows.length wc := hf.1
            rw [h1]
            clear h1
            have h3 : vals 3 = .int .i64 ((k : Int) + 1) := hf.2.1
            rw [h3]
            clear h3
            clear hf
            have u1 := kept_cell hb q1
            have ux1 := kept_cell hb x1
            have ux2 := kept_cell hb x2
            have ux3 := kept_cell hb x3
            have ug0 := kept_cell hb g0
            have ug1 := kept_cell hb g1
            have ug2 := kept_cell hb g2
            have zx := Nat.lt_of_lt_of_le zS hb.size
            have zx2 := Nat.lt_of_lt_of_le zG hb.size
            go_wp2
            exact ⟨rfl, rfl, Below.refl _ _, _, rfl, rfl, (fun h => absurd h (by decide))⟩
          · intro vals x hb hf
            simp only [fillS, List.getD_cons_succ, List.getD_cons_zero, Act.put, List.setIfInBounds_toArray, List.set_cons_zero, List.set_cons_succ]
            have h4 : vals 4 = .pointer (some ⟨rb, ro + (k + 1), none⟩) := hf.1
            rw [h4]
            clear h4
            clear hf
            have u1 := kept_cell hb q1
            have ux1 := kept_cell hb x1
            have ux2 := kept_cell hb x2
            have ux3 := kept_cell hb x3
            have ug0 := kept_cell hb g0
            have ug1 := kept_cell hb g1
            have ug2 := kept_cell hb g2
            have zx := Nat.lt_of_lt_of_le zS hb.size
            have zx2 := Nat.lt_of_lt_of_le zG hb.size
            go_wp2
            exact ⟨rfl, rfl, Below.refl _ _, _, rfl, rfl, (fun h => absurd h (by decide))⟩
          · intro vals x hb hf
            simp only [fillS, List.getD_cons_succ, List.getD_cons_zero, Act.put, List.setIfInBounds_toArray, List.set_cons_zero, List.set_cons_succ]
            clear hf
            have u1 := kept_cell hb q1
            have ux1 := kept_cell hb x1
            have ux2 := kept_cell hb x2
            have ux3 := kept_cell hb x3
            have ug0 := kept_cell hb g0
            have ug1 := kept_cell hb g1
            have ug2 := kept_cell hb g2
            have zx := Nat.lt_of_lt_of_le zS hb.size
            have zx2 := Nat.lt_of_lt_of_le zG hb.size
            go_wp2
            exact ⟨rfl, rfl, Below.refl _ _, _, rfl, rfl, (fun h => absurd h (by decide))⟩
          · intro vals x hb hf
            simp only [fillS, List.getD_cons_succ, List.getD_cons_zero, Act.put, List.setIfInBounds_toArray, List.set_cons_zero, List.set_cons_succ]
            have h5 : vals 5 = .slice (some ⟨tb, tof, none⟩) b.first.length tc := hf.1
            rw [h5]
            clear h5
            have h6 : vals 6 = .int .i64 z := hf.2.1
            rw [h6]
            clear h6
            clear hf
            have u1 := kept_cell hb q1
            have ux1 := kept_cell hb x1
            have ux2 := kept_cell hb x2
            have ux3 := kept_cell hb x3
            have ug0 := kept_cell hb g0
            have ug1 := kept_cell hb g1
            have ug2 := kept_cell hb g2
            have zx := Nat.lt_of_lt_of_le zS hb.size
            have zx2 := Nat.lt_of_lt_of_le zG hb.size
            go_wp2
            exact ⟨rfl, rfl, Below.refl _ _, _, rfl, rfl, (fun h => absurd h (by decide))⟩
          · intro vals x hb hf
            simp only [fillS, List.getD_cons_succ, List.getD_cons_zero, Act.put, List.setIfInBounds_toArray, List.set_cons_zero, List.set_cons_succ]
            have h7 : vals 7 = .pointer (some ⟨tb, tof + z * 2, none⟩) := hf.1
            rw [h7]
            clear h7
            clear hf
            have u1 := kept_cell hb q1
            have ux1 := kept_cell hb x1
            have ux2 := kept_cell hb x2
            have ux3 := kept_cell hb x3
            have ug0 := kept_cell hb g0
            have ug1 := kept_cell hb g1
            have ug2 := kept_cell hb g2
            have zx := Nat.lt_of_lt_of_le zS hb.size
            have zx2 := Nat.lt_of_lt_of_le zG hb.size
            go_wp2
            exact ⟨rfl, rfl, Below.refl _ _, _, rfl, rfl, (fun h => absurd h (by decide))⟩
          · intro vals x hb hf
            simp only [fillS, List.getD_cons_succ, List.getD_cons_zero, Act.put, List.setIfInBounds_toArray, List.set_cons_zero, List.set_cons_succ]
            clear hf
            have u1 := kept_cell hb q1
            have ux1 := kept_cell hb x1
            have ux2 := kept_cell hb x2
            have ux3 := kept_cell hb x3
            have ug0 := kept_cell hb g0
            have ug1 := kept_cell hb g1
            have ug2 := kept_cell hb g2
            have zx := Nat.lt_of_lt_of_le zS hb.size
            have zx2 := Nat.lt_of_lt_of_le zG hb.size
            go_wp2
            exact ⟨rfl, rfl, Below.refl _ _, _, rfl, rfl, (fun h => absurd h (by decide))⟩
          · intro vals x hb hf
            simp only [fillS, List.getD_cons_succ, List.getD_cons_zero, Act.put, List.setIfInBounds_toArray, List.set_cons_zero, List.set_cons_succ]
            clear hf
            have u1 := kept_cell hb q1
            have ux1 := kept_cell hb x1
            have ux2 := kept_cell hb x2
            have ux3 := kept_cell hb x3
            have ug0 := kept_cell hb g0
            have ug1 := kept_cell hb g1
            have ug2 := kept_cell hb g2
            have zx := Nat.lt_of_lt_of_le zS hb.size
            have zx2 := Nat.lt_of_lt_of_le zG hb.size
            go_wp2
            exact ⟨rfl, rfl, Below.refl _ _, _, rfl, rfl, (fun h => absurd h (by decide))⟩
          · intro vals x hb hf
            simp only [fillS, List.getD_cons_succ, List.getD_cons_zero, Act.put, List.setIfInBounds_toArray, List.set_cons_zero, List.set_cons_succ]
            clear hf
            have u1 := kept_cell hb q1
            have ux1 := kept_cell hb x1
            have ux2 := kept_cell hb x2
            have ux3 := kept_cell hb x3
            have ug0 := kept_cell hb g0
            have ug1 := kept_cell hb g1
            have ug2 := kept_cell hb g2
            have zx := Nat.lt_of_lt_of_le zS hb.size
            have zx2 := Nat.lt_of_lt_of_le zG hb.size
            go_wp2
            exact ⟨rfl, rfl, Below.refl _ _, _, rfl, rfl, (fun h => absurd h (by decide))⟩
          · intro vals x hb hf
            simp only [fillS, List.getD_cons_succ, List.getD_cons_zero, Act.put, List.setIfInBounds_toArray, List.set_cons_zero, List.set_cons_succ]
            have h11 : vals 11 = .int .i64 k := hf.1
            rw [h11]
            clear h11
            clear hf
            have u1 := kept_cell hb q1
            have ux1 := kept_cell hb x1
            have ux2 := kept_cell hb x2
            have ux3 := kept_cell hb x3
            have ug0 := kept_cell hb g0
            have ug1 := kept_cell hb g1
            have ug2 := kept_cell hb g2
            have zx := Nat.lt_of_lt_of_le zS hb.size
            have zx2 := Nat.lt_of_lt_of_le zG hb.size
            go_wp2
            exact ⟨rfl, rfl, Below.refl _ _, _, rfl, rfl, (fun h => absurd h (by decide))⟩
          · intro vals x hb hf
            simp only [fillS, List.getD_cons_succ, List.getD_cons_zero, Act.put, List.setIfInBounds_toArray, List.set_cons_zero, List.set_cons_succ]
            have h9 : vals 9 = gsV g := hf.1
            rw [h9]
            clear h9
            have h10 : vals 10 = .int .i64 z := hf.2.1
            rw [h10]
            clear h10
            have h12 : vals 12 = .int .i64 ((k : Int) + 1) := hf.2.2.1
            rw [h12]
            clear h12
            clear hf
            have u1 := kept_cell hb q1
            have ux1 := kept_cell hb x1
            have ux2 := kept_cell hb x2
            have ux3 := kept_cell hb x3
            have ug0 := kept_cell hb g0
            have ug1 := kept_cell hb g1
            have ug2 := kept_cell hb g2
            have zx := Nat.lt_of_lt_of_le zS hb.size
            have zx2 := Nat.lt_of_lt_of_le zG hb.size
            go_wp2_with (go_at_call 68; (with_reducible refine Calls.mono (kL.out x) ?_); rintro e y ⟨rfl, hB⟩)
            exact ⟨rfl, rfl, hB, _, rfl, rfl, (fun h => absurd h (by decide))⟩
          · intro vals x hb hf
            simp only [fillS, List.getD_cons_succ, List.getD_cons_zero, Act.put, List.setIfInBounds_toArray, List.set_cons_zero, List.set_cons_succ]
            clear hf
            go_wp2
            exact ⟨rfl, rfl, (Below.refl _ _).alloc (Nat.le_refl _) _, _, rfl, ⟨_, rfl, hb.size, World.alloc_heap_new _ _⟩, fun _ => rfl⟩
        intro vals x hb hf hp
        have hrange : List.range 15 = [0, 1, 2, 3, 4, 5, 6, 7, 8, 9, 10, 11, 12, 13, 14] := by rfl
        rw [hrange]
        simp only [fillS, List.getD_cons_succ, List.getD_cons_zero, Act.put, List.setIfInBounds_toArray, List.set_cons_zero, List.set_cons_succ]
        have h0 : vals 0 = .pointer (some ⟨w.heap.size, 1, none⟩) := hf 0 (by omega)
        have h1 : vals 1 = .slice (some ⟨rb, ro, none⟩) b.flows.length wc := hf 1 (by omega)
        have h2 : vals 2 = .int .i64 k := hf 2 (by omega)
        have h3 : vals 3 = .int .i64 ((k : Int) + 1) := hf 3 (by omega)
        have h4 : vals 4 = .pointer (some ⟨rb, ro + (k + 1), none⟩) := hf 4 (by omega)
        have h5 : vals 5 = .slice (some ⟨tb, tof, none⟩) b.first.length tc := hf 5 (by omega)
        have h6 : vals 6 = .int .i64 z := hf 6 (by omega)
        have h7 : vals 7 = .pointer (some ⟨tb, tof + z * 2, none⟩) := hf 7 (by omega)
        have h8 : vals 8 = spV f := hf 8 (by omega)
        have h9 : vals 9 = gsV g := hf 9 (by omega)
        have h10 : vals 10 = .int .i64 z := hf 10 (by omega)
        have h11 : vals 11 = .int .i64 k := hf 11 (by omega)
        have h12 : vals 12 = .int .i64 ((k : Int) + 1) := hf 12 (by omega)
        have f13 : (IsV (.int .i64 n)) (vals 13) x := hf 13 (by omega)
        obtain ⟨blk11, hv11, l11, A11⟩ : NewAt wr.heap.size #[.int .i64 0, .int .i64 0] 55 (vals 14) x := hf 14 (by omega)
        rw [h0, h1, h2, h3, h4, h5, h6, h7, h8, h9, h10, h11, h12, hv11]
        clear h0 h1 h2 h3 h4 h5 h6 h7 h8 h9 h10 h11 h12 hv11 hf hp hrange
        obtain ⟨p11_0, p11_1⟩ := rc2 A11
        obtain ⟨g11_0, g11_1⟩ := rf2 A11
        simp only [List.drop_succ_cons, List.drop_zero]
        rw [show vals 13 = .int .i64 n from f13]
        clear f13 q0 q1 q2 x1 x2 x3 g0 g1 g2 kL
        obtain ⟨p0, p1⟩ := rc2 A11
        obtain ⟨o0, o1⟩ := rf2 A11
        have z11 := (Array.getElem?_eq_some_iff.1 A11).1
        go_wp2
        refine OnlyN.mk ?_
        obtain ⟨Y, hY⟩ : ∃ Y, (x.setCell ⟨blk11, 0, none⟩ (.int .i64 f.lo)).setCell ⟨blk11, 1, none⟩ (.int .i64 f.hi) = Y := ⟨_, rfl⟩
        have hBY : Below wr.heap.size wr Y := by rw [← hY]; exact hb.trans (below_set2 _ _ l11)
        have eY := set2 A11 (.int .i64 f.lo) (.int .i64 f.hi)
        rw [hY] at eY ⊢
        clear hY p0 p1 o0 o1 z11 A11 hb
        have hSY := Lib.hid (hH.out.mono hBY)
        clear hH
        obtain ⟨p0, p1⟩ := rc2 eY
        obtain ⟨⟨c0, c1⟩, -, -⟩ := hSY.out.blk.cell (k := k) (by omega)
        obtain ⟨⟨d0, d1⟩, -, -⟩ := hSY.out.blk.cell (k := k + 1) (by omega)
        rw [hlk] at c0 c1
        rw [hlk1] at d0 d1
        have z11 := (Array.getElem?_eq_some_iff.1 eY).1
        have zq := hSY.out.blk.lt
        clear zS zG
        go_wp2
        refine plain_region (by kernel_rfl) (any_region_locN 31 75 [] [43, 44, 45, 46, 47, 48, 49, 50, 51, 52, 53, 54, 55, 56, 57, 58, 59, 60, 61, 62, 63, 64, 65, 66, 67, 68, 69, 70, 71, 72, 73] [[], [], [], [], [2, 3], [4], [], [], [7], [6, 8], [9], [10], [], [12], [11, 13], [], [14, 15], [], [], [18], [17, 19], [20], [21], [], [23], [22, 24], [], [25, 26], [16, 27], [5, 28], [0, 1]] [IsV (.slice (some ⟨q, 0, none⟩) b.flows.length cap), IsV (.int .i64 k), IsV (.slice (some ⟨q, 0, none⟩) b.flows.length cap), IsV (.int .i64 k), IsV (.pointer (some ⟨q, k * 2, none⟩)), IsV (spV s), IsV (.slice (some ⟨q, 0, none⟩) b.flows.length cap), IsV (.int .i64 k), IsV (.int .i64 ((k : Int) + 1)), IsV (.pointer (some ⟨q, (k + 1) * 2, none⟩)), IsV (.pointer (some ⟨q, (k + 1) * 2, none⟩)), IsV (.int .i64 nx.lo), IsV (.pointer (some ⟨blk11, 1, none⟩)), IsV (.int .i64 f.hi), IsV (.int .i64 (nx.lo - f.hi)), IsV (.int .i64 n), IsV (.int .i64 (nx.lo - f.hi + n)), IsV (.slice (some ⟨q, 0, none⟩) b.flows.length cap), IsV (.int .i64 k), IsV (.int .i64 ((k : Int) + 1)), IsV (.pointer (some ⟨q, (k + 1) * 2, none⟩)), IsV (.pointer (some ⟨q, (k + 1) * 2 + 1, none⟩)), IsV (.int .i64 nx.hi), IsV (.pointer (some ⟨blk11, 0, none⟩)), IsV (.int .i64 f.lo), IsV (.int .i64 (nx.hi - f.lo)), IsV (.int .i64 n), IsV (.int .i64 (nx.hi - f.lo + n)), IsV (spV ⟨nx.lo - f.hi + n, nx.hi - f.lo + n⟩), IsV (spV s1), IsV (.pointer (some ⟨q, k * 2, none⟩))] [] (by kernel_rfl) (by kernel_rfl) (by kernel_rfl) (by kernel_rfl) (by kernel_rfl) rfl OnlyN.panic ?_ ?_ ?_ (fun j hj => nomatch hj) ?_)
        · exact List.forall_mem_cons.2 ⟨pers_v _, List.forall_mem_cons.2 ⟨pers_v _, List.forall_mem_cons.2 ⟨pers_v _, List.forall_mem_cons.2 ⟨pers_v _, List.forall_mem_cons.2 ⟨pers_v _, List.forall_mem_cons.2 ⟨pers_v _, List.forall_mem_cons.2 ⟨pers_v _, List.forall_mem_cons.2 ⟨pers_v _, List.forall_mem_cons.2 ⟨pers_v _, List.forall_mem_cons.2 ⟨pers_v _, List.forall_mem_cons.2 ⟨pers_v _, List.forall_mem_cons.2 ⟨pers_v _, List.forall_mem_cons.2 ⟨pers_v _, List.forall_mem_cons.2 ⟨pers_v _, List.forall_mem_cons.2 ⟨pers_v _, List.forall_mem_cons.2 ⟨pers_v _, List.forall_mem_cons.2 ⟨pers_v _, List.forall_mem_cons.2 ⟨pers_v _, List.forall_mem_cons.2 ⟨pers_v _, List.forall_mem_cons.2 ⟨pers_v _, List.forall_mem_cons.2 ⟨pers_v _, List.forall_mem_cons.2 ⟨pers_v _, List.forall_mem_cons.2 ⟨pers_v _, List.forall_mem_cons.2 ⟨pers_v _, List.forall_mem_cons.2 ⟨pers_v _, List.forall_mem_cons.2 ⟨pers_v _, List.forall_mem_cons.2 ⟨pers_v _, List.forall_mem_cons.2 ⟨pers_v _, List.forall_mem_cons.2 ⟨pers_v _, List.forall_mem_cons.2 ⟨pers_v _, List.forall_mem_cons.2 ⟨pers_v _, fun f h => nomatch h⟩⟩⟩⟩⟩⟩⟩⟩⟩⟩⟩⟩⟩⟩⟩⟩⟩⟩⟩⟩⟩⟩⟩⟩⟩⟩⟩⟩⟩⟩⟩
        · intro k hk; cases hk
        · refine ⟨?_, ?_, ?_, ?_, ?_, ?_, ?_, ?_, ?_, ?_, ?_, ?_, ?_, ?_, ?_, ?_, ?_, ?_, ?_, ?_, ?_, ?_, ?_, ?_, ?_, ?_, ?_, ?_, ?_, ?_, ?_, trivial⟩
          · intro vals x hb hf
            simp only [fillS, List.getD_cons_succ, List.getD_cons_zero, Act.put, List.setIfInBounds_toArray, List.set_cons_zero, List.set_cons_succ]
            clear hf
            have u0 := kept_cell hb c0
            have u1 := kept_cell hb c1
            have v0 := kept_cell hb d0
            have v1 := kept_cell hb d1
            have w0 := kept_cell hb p0
            have w1 := kept_cell hb p1
            have zx := Nat.lt_of_lt_of_le z11 hb.size
            have zx2 := Nat.lt_of_lt_of_le zq hb.size
            go_wp2
            exact ⟨rfl, rfl, Below.refl _ _, _, rfl, rfl, (fun h => absurd h (by decide))⟩
          · intro vals x hb hf
            simp only [fillS, List.getD_cons_succ, List.getD_cons_zero, Act.put, List.setIfInBounds_toArray, List.set_cons_zero, List.set_cons_succ]
            clear hf
            have u0 := kept_cell hb c0
            have u1 := kept_cell hb c1
            have v0 := kept_cell hb d0
            have v1 := kept_cell hb d1
            have w0 := kept_cell hb p0
            have w1 := kept_cell hb p1
            have zx := Nat.lt_of_lt_of_le z11 hb.size
            have zx2 := Nat.lt_of_lt_of_le zq hb.size
            go_wp2
            exact ⟨rfl, rfl, Below.refl _ _, _, rfl, rfl, (fun h => absurd h (by decide))⟩
          · intro vals x hb hf
            simp only [fillS, List.getD_cons_succ, List.getD_cons_zero, Act.put, List.setIfInBounds_toArray, List.set_cons_zero, List.set_cons_succ]
            clear hf
            have u0 := kept_cell hb c0
            have u1 := kept_cell hb c1
            have v0 := kept_cell hb d0
            have v1 := kept_cell hb d1
            have w0 := kept_cell hb p0
            have w1 := kept_cell hb p1
            have zx := Nat.lt_of_lt_of_le z11 hb.size
            have zx2 := Nat.lt_of_lt_of_le zq hb.size
            go_wp2
            exact ⟨rfl, rfl, Below.refl _ _, _, rfl, rfl, (fun h => absurd h (by decide))⟩
          · intro vals x hb hf
            simp only [fillS, List.getD_cons_succ, List.getD_cons_zero, Act.put, List.setIfInBounds_toArray, List.set_cons_zero, List.set_cons_succ]
            clear hf
            have u0 := kept_cell hb c0
            have u1 := kept_cell hb c1
            have v0 := kept_cell hb d0
            have v1 := kept_cell hb d1
            have w0 := kept_cell hb p0
            have w1 := kept_cell hb p1
            have zx := Nat.lt_of_lt_of_le z11 hb.size
            have zx2 := Nat.lt_of_lt_of_le zq hb.size
            go_wp2
            exact ⟨rfl, rfl, Below.refl _ _, _, rfl, rfl, (fun h => absurd h (by decide))⟩
          · intro vals x hb hf
            simp only [fillS, List.getD_cons_succ, List.getD_cons_zero, Act.put, List.setIfInBounds_toArray, List.set_cons_zero, List.set_cons_succ]
            have h2 : vals 2 = .slice (some ⟨q, 0, none⟩) b.flows.length cap := hf.1
            rw [h2]
            clear h2
            have h3 : vals 3 = .int .i64 k := hf.2.1
            rw [h3]
            clear h3
            clear hf
            have u0 := kept_cell hb c0
            have u1 := kept_cell hb c1
            have v0 := kept_cell hb d0
            have v1 := kept_cell hb d1
            have w0 := kept_cell hb p0
            have w1 := kept_cell hb p1
            have zx := Nat.lt_of_lt_of_le z11 hb.size
            have zx2 := Nat.lt_of_lt_of_le zq hb.size
            go_wp2
            exact ⟨rfl, rfl, Below.refl _ _, _, rfl, rfl, (fun h => absurd h (by decide))⟩
          · intro vals x hb hf
            simp only [fillS, List.getD_cons_succ, List.getD_cons_zero, Act.put, List.setIfInBounds_toArray, List.set_cons_zero, List.set_cons_succ]
            have h4 : vals 4 = .pointer (some ⟨q, k * 2, none⟩) := hf.1
            rw [h4]
            clear h4
            clear hf
            have u0 := kept_cell hb c0
            have u1 := kept_cell hb c1
            have v0 := kept_cell hb d0
            have v1 := kept_cell hb d1
            have w0 := kept_cell hb p0
            have w1 := kept_cell hb p1
            have zx := Nat.lt_of_lt_of_le z11 hb.size
            have zx2 := Nat.lt_of_lt_of_le zq hb.size
            go_wp2
            exact ⟨rfl, rfl, Below.refl _ _, _, rfl, rfl, (fun h => absurd h (by decide))⟩
          · intro vals x hb hf
            simp only [fillS, List.getD_cons_succ, List.getD_cons_zero, Act.put, List.setIfInBounds_toArray, List.set_cons_zero, List.set_cons_succ]
            clear hf
            have u0 := kept_cell hb c0
            have u1 := kept_cell hb c1
            have v0 := kept_cell hb d0
            have v1 := kept_cell hb d1
            have w0 := kept_cell hb p0
            have w1 := kept_cell hb p1
            have zx := Nat.lt_of_lt_of_le z11 hb.size
            have zx2 := Nat.lt_of_lt_of_le zq hb.size
            go_wp2
            exact ⟨rfl, rfl, Below.refl _ _, _, rfl, rfl, (fun h => absurd h (by decide))⟩
          · intro vals x hb hf
            simp only [fillS, List.getD_cons_succ, List.getD_cons_zero, Act.put, List.setIfInBounds_toArray, List.set_cons_zero, List.set_cons_succ]
            clear hf
            have u0 := kept_cell hb c0
            have u1 := kept_cell hb c1
            have v0 := kept_cell hb d0
            have v1 := kept_cell hb d1
            have w0 := kept_cell hb p0
            have w1 := kept_cell hb p1
            have zx := Nat.lt_of_lt_of_le z11 hb.size
            have zx2 := Nat.lt_of_lt_of_le zq hb.size
            go_wp2
            exact ⟨rfl, rfl, Below.refl _ _, _, rfl, rfl, (fun h => absurd h (by decide))⟩
          · intro vals x hb hf
            simp only [fillS, List.getD_cons_succ, List.getD_cons_zero, Act.put, List.setIfInBounds_toArray, List.set_cons_zero, List.set_cons_succ]
            have h7 : vals 7 = .int .i64 k := hf.1
            rw [h7]
            clear h7
            clear hf
            have u0 := kept_cell hb c0
            have u1 := kept_cell hb c1
            have v0 := kept_cell hb d0
            have v1 := kept_cell hb d1
            have w0 := kept_cell hb p0
            have w1 := kept_cell hb p1
            have zx := Nat.lt_of_lt_of_le z11 hb.size
            have zx2 := Nat.lt_of_lt_of_le zq hb.size
            go_wp2
            exact ⟨rfl, rfl, Below.refl _ _, _, rfl, rfl, (fun h => absurd h (by decide))⟩
          · intro vals x hb hf
            simp only [fillS, List.getD_cons_succ, List.getD_cons_zero, Act.put, List.setIfInBounds_toArray, List.set_cons_zero, List.set_cons_succ]
            have h6 : vals 6 = .slice (some ⟨q, 0, none⟩) b.flows.length cap := hf.1
            rw [h6]
            clear h6
            have h8 : vals 8 = .int .i64 ((k : Int) + 1) := hf.2.1
            rw [h8]
            clear h8
            clear hf
            have u0 := kept_cell hb c0
            have u1 := kept_cell hb c1
            have v0 := kept_cell hb d0
            have v1 := kept_cell hb d1
            have w0 := kept_cell hb p0
            have w1 := kept_cell hb p1
            have zx := Nat.lt_of_lt_of_le z11 hb.size
            have zx2 := Nat.lt_of_lt_of_le zq hb.size
            go_wp2
            exact ⟨rfl, rfl, Below.refl _ _, _, rfl, rfl, (fun h => absurd h (by decide))⟩
          · intro vals x hb hf
            simp only [fillS, List.getD_cons_succ, List.getD_cons_zero, Act.put, List.setIfInBounds_toArray, List.set_cons_zero, List.set_cons_succ]
            have h9 : vals 9 = .pointer (some ⟨q, (k + 1) * 2, none⟩) := hf.1
            rw [h9]
            clear h9
            clear hf
            have u0 := kept_cell hb c0
            have u1 := kept_cell hb c1
            have v0 := kept_cell hb d0
            have v1 := kept_cell hb d1
            have w0 := kept_cell hb p0
            have w1 := kept_cell hb p1
            have zx := Nat.lt_of_lt_of_le z11 hb.size
            have zx2 := Nat.lt_of_lt_of_le zq hb.size
            go_wp2
            exact ⟨rfl, rfl, Below.refl _ _, _, rfl, rfl, (fun h => absurd h (by decide))⟩
          · intro vals x hb hf
            simp only [fillS, List.getD_cons_succ, List.getD_cons_zero, Act.put, List.setIfInBounds_toArray, List.set_cons_zero, List.set_cons_succ]
            have h10 : vals 10 = .pointer (some ⟨q, (k + 1) * 2, none⟩) := hf.1
            rw [h10]
            clear h10
            clear hf
            have u0 := kept_cell hb c0
            have u1 := kept_cell hb c1
            have v0 := kept_cell hb d0
            have v1 := kept_cell hb d1
            have w0 := kept_cell hb p0
            have w1 := kept_cell hb p1
            have zx := Nat.lt_of_lt_of_le z11 hb.size
            have zx2 := Nat.lt_of_lt_of_le zq hb.size
            go_wp2
            exact ⟨rfl, rfl, Below.refl _ _, _, rfl, rfl, (fun h => absurd h (by decide))⟩
          · intro vals x hb hf
            simp only [fillS, List.getD_cons_succ, List.getD_cons_zero, Act.put, List.setIfInBounds_toArray, List.set_cons_zero, List.set_cons_succ]
            clear hf
            have u0 := kept_cell hb c0
            have u1 := kept_cell hb c1
            have v0 := kept_cell hb d0
            have v1 := kept_cell hb d1
            have w0 := kept_cell hb p0
            have w1 := kept_cell hb p1
            have zx := Nat.lt_of_lt_of_le z11 hb.size
            have zx2 := Nat.lt_of_lt_of_le zq hb.size
            go_wp2
            exact ⟨rfl, rfl, Below.refl _ _, _, rfl, rfl, (fun h => absurd h (by decide))⟩
          · intro vals x hb hf
            simp only [fillS, List.getD_cons_succ, List.getD_cons_zero, Act.put, List.setIfInBounds_toArray, List.set_cons_zero, List.set_cons_succ]
            have h12 : vals 12 = .pointer (some ⟨blk11, 1, none⟩) := hf.1
            rw [h12]
            clear h12
            clear hf
            have u0 := kept_cell hb c0
            have u1 := kept_cell hb c1
            have v0 := kept_cell hb d0
            have v1 := kept_cell hb d1
            have w0 := kept_cell hb p0
            have w1 := kept_cell hb p1
            have zx := Nat.lt_of_lt_of_le z11 hb.size
            have zx2 := Nat.lt_of_lt_of_le zq hb.size
            go_wp2
            exact ⟨rfl, rfl, Below.refl _ _, _, rfl, rfl, (fun h => absurd h (by decide))⟩
          · intro vals x hb hf
            simp only [fillS, List.getD_cons_succ, List.getD_cons_zero, Act.put, List.setIfInBounds_toArray, List.set_cons_zero, List.set_cons_succ]
            have h11 : vals 11 = .int .i64 nx.lo := hf.1
            rw [h11]
            clear h11
            have h13 : vals 13 = .int .i64 f.hi := hf.2.1
            rw [h13]
            clear h13
            clear hf
            have u0 := kept_cell hb c0
            have u1 := kept_cell hb c1
            have v0 := kept_cell hb d0
            have v1 := kept_cell hb d1
            have w0 := kept_cell hb p0
            have w1 := kept_cell hb p1
            have zx := Nat.lt_of_lt_of_le z11 hb.size
            have zx2 := Nat.lt_of_lt_of_le zq hb.size
            go_wp2
            exact ⟨rfl, rfl, Below.refl _ _, _, rfl, rfl, (fun h => absurd h (by decide))⟩
          · intro vals x hb hf
            simp only [fillS, List.getD_cons_succ, List.getD_cons_zero, Act.put, List.setIfInBounds_toArray, List.set_cons_zero, List.set_cons_succ]
            clear hf
            have u0 := kept_cell hb c0
            have u1 := kept_cell hb c1
            have v0 := kept_cell hb d0
            have v1 := kept_cell hb d1
            have w0 := kept_cell hb p0
            have w1 := kept_cell hb p1
            have zx := Nat.lt_of_lt_of_le z11 hb.size
            have zx2 := Nat.lt_of_lt_of_le zq hb.size
            go_wp2
            exact ⟨rfl, rfl, Below.refl _ _, _, rfl, rfl, (fun h => absurd h (by decide))⟩
          · intro vals x hb hf
            simp only [fillS, List.getD_cons_succ, List.getD_cons_zero, Act.put, List.setIfInBounds_toArray, List.set_cons_zero, List.set_cons_succ]
            have h14 : vals 14 = .int .i64 (nx.lo - f.hi) := hf.1
            rw [h14]
            clear h14
            have h15 : vals 15 = .int .i64 n := hf.2.1
            rw [h15]
            clear h15
            clear hf
            have u0 := kept_cell hb c0
            have u1 := kept_cell hb c1
            have v0 := kept_cell hb d0
            have v1 := kept_cell hb d1
            have w0 := kept_cell hb p0
            have w1 := kept_cell hb p1
            have zx := Nat.lt_of_lt_of_le z11 hb.size
            have zx2 := Nat.lt_of_lt_of_le zq hb.size
            go_wp2
            exact ⟨rfl, rfl, Below.refl _ _, _, rfl, rfl, (fun h => absurd h (by decide))⟩
          · intro vals x hb hf
            simp only [fillS, List.getD_cons_succ, List.getD_cons_zero, Act.put, List.setIfInBounds_toArray, List.set_cons_zero, List.set_cons_succ]
            clear hf
            have u0 := kept_cell hb c0
            have u1 := kept_cell hb c1
            have v0 := kept_cell hb d0
            have v1 := kept_cell hb d1
            have w0 := kept_cell hb p0
            have w1 := kept_cell hb p1
            have zx := Nat.lt_of_lt_of_le z11 hb.size
            have zx2 := Nat.lt_of_lt_of_le zq hb.size
            go_wp2
            exact ⟨rfl, rfl, Below.refl _ _, _, rfl, rfl, (fun h => absurd h (by decide))⟩
          · intro vals x hb hf
            simp only [fillS, List.getD_cons_succ, List.getD_cons_zero, Act.put, List.setIfInBounds_toArray, List.set_cons_zero, List.set_cons_succ]
            clear hf
            have u0 := kept_cell hb c0
            have u1 := kept_cell hb c1
            have v0 := kept_cell hb d0
            have v1 := kept_cell hb d1
            have w0 := kept_cell hb p0
            have w1 := kept_cell hb p1
            have zx := Nat.lt_of_lt_of_le z11 hb.size
            have zx2 := Nat.lt_of_lt_of_le zq hb.size
            go_wp2
            exact ⟨rfl, rfl, Below.refl _ _, _, rfl, rfl, (fun h => absurd h (by decide))⟩
          · intro vals x hb hf
            simp only [fillS, List.getD_cons_succ, List.getD_cons_zero, Act.put, List.setIfInBounds_toArray, List.set_cons_zero, List.set_cons_succ]
            have h18 : vals 18 = .int .i64 k := hf.1
            rw [h18]
            clear h18
            clear hf
            have u0 := kept_cell hb c0
            have u1 := kept_cell hb c1
            have v0 := kept_cell hb d0
            have v1 := kept_cell hb d1
            have w0 := kept_cell hb p0
            have w1 := kept_cell hb p1
            have zx := Nat.lt_of_lt_of_le z11 hb.size
            have zx2 := Nat.lt_of_lt_of_le zq hb.size
            go_wp2
            exact ⟨rfl, rfl, Below.refl _ _, _, rfl, rfl, (fun h => absurd h (by decide))⟩
          · intro vals x hb hf
            simp only [fillS, List.getD_cons_succ, List.getD_cons_zero, Act.put, List.setIfInBounds_toArray, List.set_cons_zero, List.set_cons_succ]
            have h17 : vals 17 = .slice (some ⟨q, 0, none⟩) b.flows.length cap := hf.1
            rw [h17]
            clear h17
            have h19 : vals 19 = .int .i64 ((k : Int) + 1) := hf.2.1
            rw [h19]
            clear h19
            clear hf
            have u0 := kept_cell hb c0
            have u1 := kept_cell hb c1
            have v0 := kept_cell hb d0
            have v1 := kept_cell hb d1
            have w0 := kept_cell hb p0
            have w1 := kept_cell hb p1
            have zx := Nat.lt_of_lt_of_le z11 hb.size
            have zx2 := Nat.lt_of_lt_of_le zq hb.size
            go_wp2
            exact ⟨rfl, rfl, Below.refl _ _, _, rfl, rfl, (fun h => absurd h (by decide))⟩
          · intro vals x hb hf
            simp only [fillS, List.getD_cons_succ, List.getD_cons_zero, Act.put, List.setIfInBounds_toArray, List.set_cons_zero, List.set_cons_succ]
            have h20 : vals 20 = .pointer (some ⟨q, (k + 1) * 2, none⟩) := hf.1
            rw [h20]
            clear h20
            clear hf
            have u0 := kept_cell hb c0
            have u1 := kept_cell hb c1
            have v0 := kept_cell hb d0
            have v1 := kept_cell hb d1
            have w0 := kept_cell hb p0
            have w1 := kept_cell hb p1
            have zx := Nat.lt_of_lt_of_le z11 hb.size
            have zx2 := Nat.lt_of_lt_of_le zq hb.size
            go_wp2
            exact ⟨rfl, rfl, Below.refl _ _, _, rfl, rfl, (fun h => absurd h (by decide))⟩
          · intro vals x hb hf
            simp only [fillS, List.getD_cons_succ, List.getD_cons_zero, Act.put, List.setIfInBounds_toArray, List.set_cons_zero, List.set_cons_succ]
            have h21 : vals 21 = .pointer (some ⟨q, (k + 1) * 2 + 1, none⟩) := hf.1
            rw [h21]
            clear h21
            clear hf
            have u0 := kept_cell hb c0
            have u1 := kept_cell hb c1
            have v0 := kept_cell hb d0
            have v1 := kept_cell hb d1
            have w0 := kept_cell hb p0
            have w1 := kept_cell hb p1
            have zx := Nat.lt_of_lt_of_le z11 hb.size
            have zx2 := Nat.lt_of_lt_of_le zq hb.size
            go_wp2
            exact ⟨rfl, rfl, Below.refl _ _, _, rfl, rfl, (fun h => absurd h (by decide))⟩
          · intro vals x hb hf
            simp only [fillS, List.getD_cons_succ, List.getD_cons_zero, Act.put, List.setIfInBounds_toArray, List.set_cons_zero, List.set_cons_succ]
            clear hf
            have u0 := kept_cell hb c0
            have u1 := kept_cell hb c1
            have v0 := kept_cell hb d0
            have v1 := kept_cell hb d1
            have w0 := kept_cell hb p0
            have w1 := kept_cell hb p1
            have zx := Nat.lt_of_lt_of_le z11 hb.size
            have zx2 := Nat.lt_of_lt_of_le zq hb.size
            go_wp2
            exact ⟨rfl, rfl, Below.refl _ _, _, rfl, rfl, (fun h => absurd h (by decide))⟩
          · intro vals x hb hf
            simp only [fillS, List.getD_cons_succ, List.getD_cons_zero, Act.put, List.setIfInBounds_toArray, List.set_cons_zero, List.set_cons_succ]
            have h23 : vals 23 = .pointer (some ⟨blk11, 0, none⟩) := hf.1
            rw [h23]
            clear h23
            clear hf
            have u0 := kept_cell hb c0
            have u1 := kept_cell hb c1
            have v0 := kept_cell hb d0
            have v1 := kept_cell hb d1
            have w0 := kept_cell hb p0
            have w1 := kept_cell hb p1
            have zx := Nat.lt_of_lt_of_le z11 hb.size
            have zx2 := Nat.lt_of_lt_of_le zq hb.size
            go_wp2
            exact ⟨rfl, rfl, Below.refl _ _, _, rfl, rfl, (fun h => absurd h (by decide))⟩
          · intro vals x hb hf
            simp only [fillS, List.getD_cons_succ, List.getD_cons_zero, Act.put, List.setIfInBounds_toArray, List.set_cons_zero, List.set_cons_succ]
            have h22 : vals 22 = .int .i64 nx.hi := hf.1
            rw [h22]
            clear h22
            have h24 : vals 24 = .int .i64 f.lo := hf.2.1
            rw [h24]
            clear h24
            clear hf
            have u0 := kept_cell hb c0
            have u1 := kept_cell hb c1
            have v0 := kept_cell hb d0
            have v1 := kept_cell hb d1
            have w0 := kept_cell hb p0
            have w1 := kept_cell hb p1
            have zx := Nat.lt_of_lt_of_le z11 hb.size
            have zx2 := Nat.lt_of_lt_of_le zq hb.size
            go_wp2
            exact ⟨rfl, rfl, Below.refl _ _, _, rfl, rfl, (fun h => absurd h (by decide))⟩
          · intro vals x hb hf
            simp only [fillS, List.getD_cons_succ, List.getD_cons_zero, Act.put, List.setIfInBounds_toArray, List.set_cons_zero, List.set_cons_succ]
            clear hf
            have u0 := kept_cell hb c0
            have u1 := kept_cell hb c1
            have v0 := kept_cell hb d0
            have v1 := kept_cell hb d1
            have w0 := kept_cell hb p0
            have w1 := kept_cell hb p1
            have zx := Nat.lt_of_lt_of_le z11 hb.size
            have zx2 := Nat.lt_of_lt_of_le zq hb.size
            go_wp2
            exact ⟨rfl, rfl, Below.refl _ _, _, rfl, rfl, (fun h => absurd h (by decide))⟩
          · intro vals x hb hf
            simp only [fillS, List.getD_cons_succ, List.getD_cons_zero, Act.put, List.setIfInBounds_toArray, List.set_cons_zero, List.set_cons_succ]
            have h25 : vals 25 = .int .i64 (nx.hi - f.lo) := hf.1
            rw [h25]
            clear h25
            have h26 : vals 26 = .int .i64 n := hf.2.1
            rw [h26]
            clear h26
            clear hf
            have u0 := kept_cell hb c0
            have u1 := kept_cell hb c1
            have v0 := kept_cell hb d0
            have v1 := kept_cell hb d1
            have w0 := kept_cell hb p0
            have w1 := kept_cell hb p1
            have zx := Nat.lt_of_lt_of_le z11 hb.size
            have zx2 := Nat.lt_of_lt_of_le zq hb.size
            go_wp2
            exact ⟨rfl, rfl, Below.refl _ _, _, rfl, rfl, (fun h => absurd h (by decide))⟩
          · intro vals x hb hf
            simp only [fillS, List.getD_cons_succ, List.getD_cons_zero, Act.put, List.setIfInBounds_toArray, List.set_cons_zero, List.set_cons_succ]
            have h16 : vals 16 = .int .i64 (nx.lo - f.hi + n) := hf.1
            rw [h16]
            clear h16
            have h27 : vals 27 = .int .i64 (nx.hi - f.lo + n) := hf.2.1
            rw [h27]
            clear h27
            clear hf
            have u0 := kept_cell hb c0
            have u1 := kept_cell hb c1
            have v0 := kept_cell hb d0
            have v1 := kept_cell hb d1
            have w0 := kept_cell hb p0
            have w1 := kept_cell hb p1
            have zx := Nat.lt_of_lt_of_le z11 hb.size
            have zx2 := Nat.lt_of_lt_of_le zq hb.size
            go_wp2
            exact ⟨rfl, rfl, Below.refl _ _, _, rfl, rfl, (fun h => absurd h (by decide))⟩
          · intro vals x hb hf
            simp only [fillS, List.getD_cons_succ, List.getD_cons_zero, Act.put, List.setIfInBounds_toArray, List.set_cons_zero, List.set_cons_succ]
            have h5 : vals 5 = spV s := hf.1
            rw [h5]
            clear h5
            have h28 : vals 28 = spV ⟨nx.lo - f.hi + n, nx.hi - f.lo + n⟩ := hf.2.1
            rw [h28]
            clear h28
            clear hf
            have u0 := kept_cell hb c0
            have u1 := kept_cell hb c1
            have v0 := kept_cell hb d0
            have v1 := kept_cell hb d1
            have w0 := kept_cell hb p0
            have w1 := kept_cell hb p1
            have zx := Nat.lt_of_lt_of_le z11 hb.size
            have zx2 := Nat.lt_of_lt_of_le zq hb.size
            go_wp2_with (go_at_call 65; (with_reducible refine Calls.mono (kM.out x) ?_); rintro e y ⟨rfl, hB⟩)
            exact ⟨rfl, rfl, hB, _, rfl, rfl, (fun h => absurd h (by decide))⟩
          · intro vals x hb hf
            simp only [fillS, List.getD_cons_succ, List.getD_cons_zero, Act.put, List.setIfInBounds_toArray, List.set_cons_zero, List.set_cons_succ]
            have h0 : vals 0 = .slice (some ⟨q, 0, none⟩) b.flows.length cap := hf.1
            rw [h0]
            clear h0
            have h1 : vals 1 = .int .i64 k := hf.2.1
            rw [h1]
            clear h1
            clear hf
            have u0 := kept_cell hb c0
            have u1 := kept_cell hb c1
            have v0 := kept_cell hb d0
            have v1 := kept_cell hb d1
            have w0 := kept_cell hb p0
            have w1 := kept_cell hb p1
            have zx := Nat.lt_of_lt_of_le z11 hb.size
            have zx2 := Nat.lt_of_lt_of_le zq hb.size
            go_wp2
            exact ⟨rfl, rfl, Below.refl _ _, _, rfl, rfl, (fun h => absurd h (by decide))⟩
        intro vals x hb hf hp
        have hrange : List.range 31 = [0, 1, 2, 3, 4, 5, 6, 7, 8, 9, 10, 11, 12, 13, 14, 15, 16, 17, 18, 19, 20, 21, 22, 23, 24, 25, 26, 27, 28, 29, 30] := by rfl
        rw [hrange]
        simp only [fillS, List.getD_cons_succ, List.getD_cons_zero, Act.put, List.setIfInBounds_toArray, List.set_cons_zero, List.set_cons_succ]
        have h0 : vals 0 = .slice (some ⟨q, 0, none⟩) b.flows.length cap := hf 0 (by omega)
        have h1 : vals 1 = .int .i64 k := hf 1 (by omega)
        have h2 : vals 2 = .slice (some ⟨q, 0, none⟩) b.flows.length cap := hf 2 (by omega)
        have h3 : vals 3 = .int .i64 k := hf 3 (by omega)
        have h4 : vals 4 = .pointer (some ⟨q, k * 2, none⟩) := hf 4 (by omega)
        have h5 : vals 5 = spV s := hf 5 (by omega)
        have h6 : vals 6 = .slice (some ⟨q, 0, none⟩) b.flows.length cap := hf 6 (by omega)
        have h7 : vals 7 = .int .i64 k := hf 7 (by omega)
        have h8 : vals 8 = .int .i64 ((k : Int) + 1) := hf 8 (by omega)
        have h9 : vals 9 = .pointer (some ⟨q, (k + 1) * 2, none⟩) := hf 9 (by omega)
        have h10 : vals 10 = .pointer (some ⟨q, (k + 1) * 2, none⟩) := hf 10 (by omega)
        have h11 : vals 11 = .int .i64 nx.lo := hf 11 (by omega)
        have h12 : vals 12 = .pointer (some ⟨blk11, 1, none⟩) := hf 12 (by omega)
        have h13 : vals 13 = .int .i64 f.hi := hf 13 (by omega)
        have h14 : vals 14 = .int .i64 (nx.lo - f.hi) := hf 14 (by omega)
        have h15 : vals 15 = .int .i64 n := hf 15 (by omega)
        have h16 : vals 16 = .int .i64 (nx.lo - f.hi + n) := hf 16 (by omega)
        have h17 : vals 17 = .slice (some ⟨q, 0, none⟩) b.flows.length cap := hf 17 (by omega)
        have h18 : vals 18 = .int .i64 k := hf 18 (by omega)
        have h19 : vals 19 = .int .i64 ((k : Int) + 1) := hf 19 (by omega)
        have h20 : vals 20 = .pointer (some ⟨q, (k + 1) * 2, none⟩) := hf 20 (by omega)
        have h21 : vals 21 = .pointer (some ⟨q, (k + 1) * 2 + 1, none⟩) := hf 21 (by omega)
        have h22 : vals 22 = .int .i64 nx.hi := hf 22 (by omega)
        have h23 : vals 23 = .pointer (some ⟨blk11, 0, none⟩) := hf 23 (by omega)
        have h24 : vals 24 = .int .i64 f.lo := hf 24 (by omega)
        have h25 : vals 25 = .int .i64 (nx.hi - f.lo) := hf 25 (by omega)
        have h26 : vals 26 = .int .i64 n := hf 26 (by omega)
        have h27 : vals 27 = .int .i64 (nx.hi - f.lo + n) := hf 27 (by omega)
        have h28 : vals 28 = spV ⟨nx.lo - f.hi + n, nx.hi - f.lo + n⟩ := hf 28 (by omega)
        have f29 : (IsV (spV s1)) (vals 29) x := hf 29 (by omega)
        have h30 : vals 30 = .pointer (some ⟨q, k * 2, none⟩) := hf 30 (by omega)
        rw [h0, h1, h2, h3, h4, h5, h6, h7, h8, h9, h10, h11, h12, h13, h14, h15, h16, h17, h18, h19, h20, h21, h22, h23, h24, h25, h26, h27, h28, h30]
        clear h0 h1 h2 h3 h4 h5 h6 h7 h8 h9 h10 h11 h12 h13 h14 h15 h16 h17 h18 h19 h20 h21 h22 h23 h24 h25 h26 h27 h28 h30 hf hp hrange
        simp only [List.drop_succ_cons, List.drop_zero]
        rw [show vals 29 = spV s1 from f29]
        have hSx := Lib.hid (hSY.out.mono hb)
        clear f29 c0 c1 d0 d1 p0 p1 z11 zq
        obtain ⟨⟨c0, c1⟩, o0, o1⟩ := hSx.out.blk.cell (k := k) (by omega)
        have zq := hSx.out.blk.lt
        go_wp2
        refine OnlyN.mk ?_
        go_wp2
        exact ⟨⟨k, j + 1, _, by have := hkj2.out; omega, by go_num, hnext.out _ hSx.out⟩, by simp [intOf]⟩
end Go.Proofs.Ytddmfkhmhdddeaa
