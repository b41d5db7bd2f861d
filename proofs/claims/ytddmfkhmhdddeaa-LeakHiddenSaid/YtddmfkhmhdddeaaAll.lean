/- Walks: all that is known of the content of a zone (the program). -/
import Derived.Test.YtddmfkhmhdddeaaCam
set_option linter.unusedVariables false
set_option linter.unusedSimpArgs false
namespace Lk
/-- What is known of a zone's content at a time: the end of a day, or -1. -/
structure Kn where
  day : Int
  v : Sp
  deriving DecidableEq
def knAt (l : List Kn) (k : Nat) : Kn := l.getD k ⟨0, ⟨0, 0⟩⟩
def Bk.allTo (b : Bk) (z k : Nat) : List Kn := ⟨-1, spAt b.first z⟩ :: ((b.reads.take k).filter fun r : Rd => decide (r.zone = (z : Int))).map fun r => ⟨r.day, r.v⟩
def Bk.allK (b : Bk) (z : Nat) : List Kn := ⟨-1, spAt b.first z⟩ :: (b.reads.filter fun r : Rd => decide (r.zone = (z : Int))).map fun r => ⟨r.day, r.v⟩
theorem allTo_all {b : Bk} {z : Nat} : b.allTo z b.reads.length = b.allK z := by unfold Bk.allTo Bk.allK; rw [List.take_length]
theorem allTo_0 {b : Bk} {z : Nat} : b.allTo z 0 = [⟨-1, spAt b.first z⟩] := by simp [Bk.allTo]
theorem allTo_take {b : Bk} {z k : Nat} (h : k < b.reads.length) (hz : (rdAt b.reads k).zone = z) : b.allTo z (k + 1) = b.allTo z k ++ [⟨(rdAt b.reads k).day, (rdAt b.reads k).v⟩] := by
  have e : rdAt b.reads k = b.reads[k] := by simp [rdAt, h]
  unfold Bk.allTo
  rw [List.take_succ_eq_append_getElem h, List.filter_append, List.map_append, ← e]
  simp [hz]
theorem allTo_skip {b : Bk} {z k : Nat} (h : k < b.reads.length) (hz : ¬ (rdAt b.reads k).zone = z) : b.allTo z (k + 1) = b.allTo z k := by
  have e : rdAt b.reads k = b.reads[k] := by simp [rdAt, h]
  unfold Bk.allTo
  rw [List.take_succ_eq_append_getElem h, List.filter_append, List.map_append, ← e]
  simp [hz]
theorem allTo_len {b : Bk} {z k : Nat} : (b.allTo z k).length ≤ b.reads.length + 1 := by
  unfold Bk.allTo
  rw [List.length_cons, List.length_map]
  have := List.length_filter_le (fun r : Rd => decide (r.zone = (z : Int))) (b.reads.take k)
  rw [List.length_take] at this
  omega
theorem mem_allK {b : Bk} (ok : Ok b) {z : Nat} (hz : z < b.first.length) {x : Kn} (h : x ∈ b.allK z) : -1 ≤ x.day ∧ x.day < b.flows.length ∧ -1000000000 ≤ x.v.lo ∧ x.v.lo ≤ x.v.hi ∧ x.v.hi ≤ 1000000000 := by
  unfold Bk.allK at h
  rcases List.mem_cons.1 h with rfl | h
  · have := ok.first z hz; have := ok.nd; simp only; omega
  · obtain ⟨r, hr, rfl⟩ := List.mem_map.1 h
    obtain ⟨i, hi, rfl⟩ := List.getElem_of_mem (List.mem_filter.1 hr).1
    have := ok.reads i hi
    have e : rdAt b.reads i = b.reads[i] := by simp [rdAt, hi]
    rw [e] at this; simp only; omega
end Lk
namespace Go.Proofs.Ytddmfkhmhdddeaa
open Go.RowKit Go.Sd Lk

abbrev knEnc (k : Kn) : List Value := [.int .i64 k.day, .int .i64 k.v.lo, .int .i64 k.v.hi]
abbrev knV (k : Kn) : Value := .agg #[.int .i64 k.day, .int .i64 k.v.lo, .int .i64 k.v.hi]
abbrev knO (k : Kn) : Obj := .cells #[.int .i64 k.day, .int .i64 k.v.lo, .int .i64 k.v.hi] 129
abbrev KnsAt (w : World) (v : Value) (xs : List Kn) : Prop := ElsAt 3 knEnc ⟨0, ⟨0, 0⟩⟩ w v xs
theorem knEnc_len (x : Kn) : (knEnc x).length = 3 := rfl
theorem knEnc_one (x : Kn) : ∀ u ∈ knEnc x, u.oneCell' = true := by simp [knEnc, Value.oneCell']
theorem infoKn : (Try.prog.info? 129).map (fun i => (i.zero, i.size, i.bytes)) = some (some (.agg #[.int .i64 0, .int .i64 0, .int .i64 0]), 3, 24) := by kernel_rfl
abbrev OwnKns (B : Nat) (w : World) (v : Value) (xs : List Kn) : Prop := OwnSt 129 3 knEnc B w v xs
/-- A slice of one element that has just been made. -/
theorem own_one {α : Type} {enc : α → List Value} {m : Nat} (hm : ∀ x, (enc x).length = m) (E : TypeId) (B : Nat) (w : World) (x : α) (hB : B ≤ w.heap.size) : OwnSt E m enc B (w.alloc (.cells (enc x).toArray E)) (.slice (some ⟨w.heap.size, 0, none⟩) 1 1) [x] := by
  refine ⟨by simp [hm], .inr ⟨w.heap.size, 1, (enc x).toArray, rfl, hB, World.alloc_heap_new _ _, Nat.le_refl _, (show (1 : Nat) ≤ maxLen by decide), by simp [hm], ?_⟩⟩
  simp [← hm x]

set_option maxRecDepth 100000 in
set_option maxHeartbeats 4000000 in
theorem progAll (fv wv rv : Value) (b : Bk) (z : Nat) (w : World) (hb : BookAt w fv wv rv b) (ok : Ok b) (hz : z < b.first.length) :
    Calls Try.prog 104 #[bkV fv wv rv, .int .i64 z] w fun e w' => (∃ a cap, e = .returned (.slice a (b.allK z).length cap) ∧ OwnKns w.heap.size w' (.slice a (b.allK z).length cap) (b.allK z)) ∧ Below w.heap.size w w' := by
  have hnd := ok.nd
  have hnr := ok.nr
  obtain ⟨W, hW⟩ : ∃ W, w.alloc (bkO fv wv rv) = W := ⟨_, rfl⟩
  obtain ⟨e0, b0, s0⟩ := boxed hW
  have hbW := hb.mono b0
  obtain ⟨fb, fo, fc, rfl, hfb, hfm, y0, y1⟩ := sp_cells hbW.first hz
  obtain ⟨wa, wc, rfl, hwm, -⟩ := hbW.flows.form
  obtain ⟨ra, rc, rfl, hrm, hx⟩ := hbW.reads.form
  have hx2 := Lib.hid hx
  obtain ⟨q0, q1, q2⟩ := rc3 e0
  have z0 := (Array.getElem?_eq_some_iff.1 e0).1
  have hzi : (z : Int) < (b.first.length : Int) := by omega
  obtain ⟨V, hV⟩ : ∃ V, W.alloc (knO ⟨-1, spAt b.first z⟩) = V := ⟨_, rfl⟩
  have hO0 : Hid (OwnKns W.heap.size V (.slice (some ⟨W.heap.size, 0, none⟩) 1 1) (b.allTo z 0)) := Lib.hid (by rw [← hV, allTo_0]; exact own_one knEnc_len _ _ W _ (Nat.le_refl _))
  have BV : Below W.heap.size W V := by rw [← hV]; exact (Below.refl _ _).alloc (Nat.le_refl _) _
  have hH0 : Hid (V.heap[w.heap.size]? = some (bkO (.slice (some ⟨fb, fo, none⟩) b.first.length fc) (.slice wa b.flows.length wc) (.slice ra b.reads.length rc)) ∧ Below W.heap.size W V) := Lib.hid ⟨kept_block BV e0, BV⟩
  have Q2 := kept_cell BV q2
  have hbw := Lib.hid b0
  generalize hs : spAt b.first z = s at *
  clear hx hb hbW e0 s0 b0 BV
  go_enter Try.func104, Try.ntmps104
  go_wp2
  have hzW : w.heap.size < W.heap.size := z0
  clear Q2 q0 q1 q2 hW y0 y1 hV z0
  go_loopw [5, 20] (fun p i wr => ∃ (k : Nat) (v : Value), k ≤ b.reads.length ∧ v = p ∧ i = .int .i64 k ∧ Hid (OwnKns W.heap.size wr v (b.allTo z k) ∧ wr.heap[w.heap.size]? = some (bkO (.slice (some ⟨fb, fo, none⟩) b.first.length fc) (.slice wa b.flows.length wc) (.slice ra b.reads.length rc)) ∧ Below W.heap.size W wr)) (fun _ i _ => b.reads.length - (intOf i).toNat)
  case atStart => exact ⟨0, _, by omega, rfl, rfl, hO0.out, hH0.out.1, hH0.out.2⟩
  case round =>
    obtain ⟨k, v, hk, rfl, rfl, hH⟩ := hrel
    obtain ⟨ho, hbk, hB⟩ := hH.out
    clear hH hO0 hH0
    obtain ⟨q0, q1, q2⟩ := rc3 hbk
    have z0 := (Array.getElem?_eq_some_iff.1 hbk).1
    by_cases hlt : k < b.reads.length
    · obtain ⟨rb, off, rfl, hrb, hx⟩ := hx2.out (by omega)
      have x0 : wr.cell? ⟨rb, off + k * 4, none⟩ = some (.int .i64 (rdAt b.reads k).day) := kept_cell hB (hx k 0 _ hlt rfl)
      have x1 : wr.cell? ⟨rb, off + k * 4 + 1, none⟩ = some (.int .i64 (rdAt b.reads k).zone) := kept_cell hB (hx k 1 _ hlt rfl)
      have x2 : wr.cell? ⟨rb, off + k * 4 + 2, none⟩ = some (.int .i64 (rdAt b.reads k).v.lo) := kept_cell hB (hx k 2 _ hlt rfl)
      have x3 : wr.cell? ⟨rb, off + k * 4 + 3, none⟩ = some (.int .i64 (rdAt b.reads k).v.hi) := kept_cell hB (hx k 3 _ hlt rfl)
      have hki : (k : Int) < (b.reads.length : Int) := by omega
      have hskip := Lib.hid (allTo_skip (b := b) (z := z) hlt)
      have htake := Lib.hid (allTo_take (b := b) (z := z) hlt)
      clear hx
      generalize rdAt b.reads k = r at *
      obtain ⟨N, hN⟩ : ∃ N, wr.alloc (rdO r) = N := ⟨_, rfl⟩
      obtain ⟨en, BN, sN⟩ := boxed hN
      obtain ⟨r0, r1, r2, r3⟩ := rc4 en
      have zn := (Array.getElem?_eq_some_iff.1 en).1
      have hoN := Lib.hid (ho.mono BN)
      have hbN := Lib.hid (kept_block BN hbk)
      have hBN := Lib.hid (below_tr hB BN)
      have hWN : W.heap.size ≤ N.heap.size := hBN.out.size
      by_cases hz2 : r.zone = (z : Int)
      · have hzz : (r.zone == (z : Int)) = true := by simpa using hz2
        have hnx := Lib.hid (htake.out hz2)
        have hlen : (b.allTo z k).length ≤ 1000000 := Nat.le_trans allTo_len (by omega)
        obtain ⟨a1, c1, hva⟩ := ho.slice
        have hlt' := Lib.hid ho.lt
        subst hva
        clear hskip htake hz2 ho hbk hB en BN sN
        generalize hl1 : b.allTo z k = l1 at *
        replace hl1 := Lib.hid hl1
        go_wp2_with (at_builtin; refine wpList_app_st (enc := knEnc) knEnc_len 148 129 _ 24 Try.underlying148 infoKn rfl (by omega) (by omega) knEnc_one (by rfl) _ _ (by rfl) W.heap.size N (.slice a1 l1.length c1) l1 ⟨r.day, r.v⟩ (by rfl) hoN.out (by rfl) hlen hWN ?_; intro v1 w1 ho1 hg1 hat1; obtain ⟨a2, c2, he1⟩ := ho1.slice; subst he1)
        refine ⟨⟨k + 1, _, by omega, rfl, by go_num, ?_, (hg1.block _ (Nat.lt_of_lt_of_le hzW hWN) (fun e => by have := (hlt'.out _ e.symm).1; omega)).trans hbN.out, hBN.out.grown hg1 hWN (fun k e => (hlt'.out k e).1)⟩, by simp [intOf]; omega⟩
        rw [hnx.out]
        first | exact ho1 | (rw [List.length_append, List.length_singleton] at ho1; exact ho1)
      · have hzz : (r.zone == (z : Int)) = false := by simpa using hz2
        have hnx := Lib.hid (hskip.out hz2)
        clear hskip htake ho hbk hB en BN sN
        go_wp2
        refine ⟨⟨k + 1, _, by omega, rfl, by go_num, ?_, hbN.out, hBN.out⟩, by simp [intOf]; omega⟩
        rw [hnx.out]
        exact hoN.out
    · obtain rfl : k = b.reads.length := by omega
      have hko : OwnKns w.heap.size wr v (b.allTo z b.reads.length) := ho.from (by omega)
      obtain ⟨a1, c1, hva⟩ := ho.slice
      subst hva
      rw [allTo_all] at hko ⊢
      have hfin := Lib.hid hko
      have hBf := Lib.hid (below_tr hbw.out hB)
      clear hko ho hbk hB
      go_wp2
      go_ret
      exact ⟨⟨_, _, rfl, hfin.out⟩, hBf.out⟩
end Go.Proofs.Ytddmfkhmhdddeaa
