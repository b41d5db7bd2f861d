/- Walks: all suspects; whether a leak is certain (the reference). -/
import Derived.Test.YtddmfkhmhdddeaaRZs
import Derived.Test.YtddmfkhmhdddeaaLCk
set_option linter.unusedVariables false
set_option linter.unusedSimpArgs false
namespace Lk
theorem rs_yes {b : Bk} (ok : Ok b) {z : Nat} (hz : z < b.first.length) {since : Int} (hs : 0 ≤ since) (h : (b.sizesK z since).lo ≤ (b.sizesK z since).hi) : b.rsR z since = (b.sizesK z since, true) := by
  have he := rs_eq ok hz hs
  have h1 : (b.rsR z since).2 = true := by rw [he.1]; simpa using h
  have h2 := he.2 h1
  exact Prod.ext h2 h1
theorem rs_no {b : Bk} (ok : Ok b) {z : Nat} (hz : z < b.first.length) {since : Int} (hs : 0 ≤ since) (h : ¬ (b.sizesK z since).lo ≤ (b.sizesK z since).hi) : (b.rsR z since).2 = false := by
  rw [(rs_eq ok hz hs).1]; simpa using h
end Lk
namespace Go.Proofs.Ytddmfkhmhdddeaa
open Go.RowKit Go.Sd Lk

/-- What the reference's sizes tell, by the program's. -/
theorem sizesForm (fv wv rv : Value) (b : Bk) (z : Nat) (since : Int) (w : World) (hb : BookAt w fv wv rv b) (ok : Ok b) (hz : z < b.first.length) (hs : 0 ≤ since ∧ since ≤ 1000) :
    Calls Try.prog 48 #[bkV fv wv rv, .int .i64 z, .int .i64 since] w fun e w' => (∃ x : Sp, e = .returned (.tuple #[spV x, .bool (decide ((b.sizesK z since).lo ≤ (b.sizesK z since).hi))]) ∧ ((b.sizesK z since).lo ≤ (b.sizesK z since).hi → x = b.sizesK z since)) ∧ Below w.heap.size w w' :=
  (refSizes fv wv rv b z since w hb ok hz hs).mono (by
    rintro e w' ⟨rfl, hB⟩
    have he := rs_eq ok hz hs.1
    exact ⟨⟨_, by rw [he.1], fun h => he.2 (by rw [he.1]; simpa using h)⟩, hB⟩)

set_option maxRecDepth 100000 in
set_option maxHeartbeats 4000000 in
theorem refSuspects (fv wv rv : Value) (b : Bk) (w : World) (hb : BookAt w fv wv rv b) (ok : Ok b) :
    Calls Try.prog 46 #[bkV fv wv rv] w fun e w' => (∃ a cap, e = .returned (.slice a b.susL.length cap) ∧ SusAt w' (.slice a b.susL.length cap) b.susL) ∧ Below w.heap.size w w' := by
  have hnd := ok.nd
  have hnz := ok.nz
  obtain ⟨W, hW⟩ : ∃ W, w.alloc (bkA fv wv rv) = W := ⟨_, rfl⟩
  obtain ⟨e0, b0, s0⟩ := boxed hW
  have hb0 := Lib.hid hb
  obtain ⟨fa, fc, rfl, hfm, -⟩ := hb.first.form
  obtain ⟨wa, wc, rfl, hwm, -⟩ := hb.flows.form
  obtain ⟨ra, rc, rfl, hrm, -⟩ := hb.reads.form
  obtain ⟨q0, q1, q2⟩ := rc3 e0
  have z0 := (Array.getElem?_eq_some_iff.1 e0).1
  have hO0 : Hid (OwnSus W.heap.size W (.slice none 0 0) (b.susTo 0 0)) := Lib.hid (OwnSt.nil _ _ _ _ _)
  have hbw := Lib.hid b0
  have he0 := Lib.hid e0
  clear hb e0 s0 b0
  go_enter Try.func46, Try.ntmps46
  go_wp2
  clear q0 q1 q2 hW
  go_loopw [3, 4] (fun p i wr => ∃ (k : Nat) (v : Value), k ≤ b.first.length ∧ v = p ∧ i = .int .i64 k ∧ Hid (OwnSus W.heap.size wr v (b.susTo k 0) ∧ Below W.heap.size W wr)) (fun _ i _ => b.first.length - (intOf i).toNat)
  case atStart => exact ⟨0, _, by omega, rfl, rfl, hO0.out, Below.refl _ _⟩
  case round =>
    obtain ⟨k, v, hk, rfl, rfl, hH⟩ := hrel
    clear hO0
    by_cases hlt : k < b.first.length
    · have hki : (k : Int) < (b.first.length : Int) := by omega
      have ebk := kept_block hH.out.2 he0.out
      obtain ⟨q0, q1, q2⟩ := rc3 ebk
      have zb := (Array.getElem?_eq_some_iff.1 ebk).1
      have hH2 := Lib.hid hH.out
      clear ebk
      obtain ⟨S, rfl⟩ : ∃ S : World, S = wr := ⟨_, rfl⟩
      go_wp2
      clear q0 q1 q2 zb
      go_loopw [3, 5] (fun p i wr => ∃ (t : Nat) (v : Value), t ≤ b.flows.length ∧ v = p ∧ i = .int .i64 t ∧ Hid (OwnSus W.heap.size wr v (b.susTo k t) ∧ Below W.heap.size W wr)) (fun _ i _ => b.flows.length - (intOf i).toNat)
      case atStart => exact ⟨0, _, by omega, rfl, rfl, hH2.out⟩
      case round =>
        obtain ⟨t, v, ht, rfl, rfl, hG⟩ := hrel
        obtain ⟨ho, hB⟩ := hG.out
        clear hG hH hH2
        have ebk := kept_block hB he0.out
        obtain ⟨q0, q1, q2⟩ := rc3 ebk
        have zb := (Array.getElem?_eq_some_iff.1 ebk).1
        clear ebk
        by_cases htl : t < b.flows.length
        · have hti : (t : Int) < (b.flows.length : Int) := by omega
          have kS := Lib.hid (sizesForm _ _ _ b k t wr (hb0.out.mono (below_tr hbw.out hB)) ok hlt (by omega))
          have htake := Lib.hid (susTo_take (b := b) (z := k) (t := t))
          have hskip := Lib.hid (susTo_skip (b := b) (z := k) (t := t))
          have hlen : (b.susTo k t).length ≤ 1000000 := by
            have h1 := susTo_len (b := b) (z := k) (t := t) (by omega)
            have : (k + 1) * b.flows.length ≤ 7 * 30 := Nat.mul_le_mul (by omega) (by omega)
            omega
          generalize b.sizesK k t = s at *
          obtain ⟨a1, c1, hva⟩ := ho.slice
          subst hva
          have ho' := Lib.hid ho
          have hB' := Lib.hid hB
          clear ho hB
          generalize hl1 : b.susTo k t = l1 at *
          replace hl1 := Lib.hid hl1
          have hWr : W.heap.size ≤ wr.heap.size := hB'.out.size
          by_cases hs : s.lo ≤ s.hi
          · have hnx := Lib.hid (htake.out hs)
            have kT : Hid (Calls Try.prog 48 _ wr fun e w' => e = .returned (.tuple #[spV s, .bool true]) ∧ Below wr.heap.size wr w') := Lib.hid (kS.out.mono (by
              rintro e w' ⟨⟨x, rfl, hx⟩, hB⟩
              refine ⟨?_, hB⟩
              rw [hx hs, decide_eq_true hs]))
            clear htake hskip kS
            go_wp2_with (first | (go_at_call 48; (with_reducible refine Calls.mono kT.out ?_); rintro e w1 ⟨rfl, hB1⟩; obtain ⟨N, hN⟩ : ∃ N, w1.alloc (spO s) = N := ⟨_, rfl⟩; obtain ⟨en, BN, sN⟩ := boxed hN; obtain ⟨n0, n1⟩ := rc2 en; have zn := (Array.getElem?_eq_some_iff.1 en).1; have B1N := below_tr hB1 BN; clear sN) | (at_builtin; refine wpList_app_st (enc := suEnc) suEnc_len 58 64 _ 32 Try.underlying58 infoSu rfl (by omega) (by omega) suEnc_one (by rfl) _ _ (by rfl) W.heap.size N (.slice a1 l1.length c1) l1 ⟨k, t, s⟩ (by rfl) (ho'.out.mono B1N) (by rfl) hlen (Nat.le_trans hWr B1N.size) ?_; intro v1 w2 ho1 hg1 hat1; obtain ⟨a2, c2, he1⟩ := ho1.slice; subst he1))
            refine ⟨⟨t + 1, _, by omega, rfl, by go_num, ?_, (hB'.out.trans (B1N.mono hWr)).grown hg1 (Nat.le_trans hWr B1N.size) (fun k e => (ho'.out.lt k e).1)⟩, by simp [intOf]; omega⟩
            rw [hnx.out]
            first | exact ho1 | (rw [List.length_append, List.length_singleton] at ho1; exact ho1)
          · have hnx := Lib.hid (hskip.out hs)
            have kT : Hid (Calls Try.prog 48 _ wr fun e w' => (∃ x : Sp, e = .returned (.tuple #[spV x, .bool false])) ∧ Below wr.heap.size wr w') := Lib.hid (kS.out.mono (by
              rintro e w' ⟨⟨x, rfl, -⟩, hB⟩
              exact ⟨⟨x, by rw [decide_eq_false hs]⟩, hB⟩))
            clear htake hskip kS
            go_wp2_with (go_at_call 48; (with_reducible refine Calls.mono kT.out ?_); rintro e w1 ⟨⟨x, rfl⟩, hB1⟩; obtain ⟨N, hN⟩ : ∃ N, w1.alloc (spO x) = N := ⟨_, rfl⟩; obtain ⟨en, BN, sN⟩ := boxed hN; obtain ⟨n0, n1⟩ := rc2 en; have zn := (Array.getElem?_eq_some_iff.1 en).1; have B1N := below_tr hB1 BN; clear sN)
            refine ⟨⟨t + 1, _, by omega, rfl, by go_num, ?_, hB'.out.trans (B1N.mono hWr)⟩, by simp [intOf]; omega⟩
            rw [hnx.out]
            exact ho'.out.mono B1N
        · obtain rfl : t = b.flows.length := by omega
          rw [← susTo_next] at ho
          have ho' := Lib.hid ho
          have hB' := Lib.hid hB
          clear ho hB
          go_wp2
          exact ⟨⟨k + 1, _, by omega, rfl, by go_num, ho'.out, hB'.out⟩, by simp [intOf]; omega⟩
    · obtain rfl : k = b.first.length := by omega
      obtain ⟨ho, hB⟩ := hH.out
      have ebk := kept_block hB he0.out
      obtain ⟨q0, q1, q2⟩ := rc3 ebk
      have zb := (Array.getElem?_eq_some_iff.1 ebk).1
      have hos : SusAt wr v b.susL := ho.els suEnc_len _
      obtain ⟨a1, c1, rfl, -, -⟩ := hos.form
      have hfin := Lib.hid hos
      have hBf := Lib.hid (below_tr hbw.out hB)
      clear hos ho hB hH ebk
      go_wp2
      go_ret
      exact ⟨⟨_, _, rfl, hfin.out⟩, hBf.out⟩

set_option maxRecDepth 100000 in
set_option maxHeartbeats 4000000 in
theorem refCertain (fv wv rv : Value) (b : Bk) (w : World) (hb : BookAt w fv wv rv b) (ok : Ok b) :
    Calls Try.prog 47 #[bkV fv wv rv] w fun e w' => e = .returned (.bool b.certB) ∧ Below w.heap.size w w' := by
  obtain ⟨W, hW⟩ : ∃ W, w.alloc (bkA fv wv rv) = W := ⟨_, rfl⟩
  obtain ⟨e0, b0, s0⟩ := boxed hW
  have hbW := hb.mono b0
  obtain ⟨fa, fc, rfl, hfm, -⟩ := hb.first.form
  obtain ⟨wa, wc, rfl, hwm, -⟩ := hb.flows.form
  obtain ⟨ra, rc, rfl, hrm, -⟩ := hb.reads.form
  obtain ⟨q0, q1, q2⟩ := rc3 e0
  have z0 := (Array.getElem?_eq_some_iff.1 e0).1
  have hBW := Lib.hid b0
  have he0 := Lib.hid e0
  have hce : Hid (b.certB = (!b.agreeB noGs && decide (0 < b.susL.length))) := rfl
  have kN := Lib.hid (fun x => refNone x)
  have kA0 := fun x (h : Below W.heap.size W x) => refAgree _ _ _ b noGs x (hbW.mono h) (fwdOk _ _ _ ok (by simp [Bk.gsB]))
  have kS := Lib.hid (fun x (h : Below W.heap.size W x) => refSuspects _ _ _ b x (hbW.mono h) ok)
  clear hb hbW e0 s0 b0
  cases ha : b.agreeB noGs
  all_goals
    rw [ha] at kA0 hce
    have kA := Lib.hid kA0
    clear kA0 ha
    go_enter Try.func47, Try.ntmps47
    go_wp2
    go_region_with (first | (go_at_call 40; (with_reducible refine Calls.mono (kN.out _) ?_); rintro e w1 ⟨rfl, h1⟩; replace h1 : Below W.heap.size W w1 := ((Below.refl W.heap.size W).drew).trans h1; obtain ⟨q0, q1, q2⟩ := rc3 (kept_block h1 he0.out); have z0 := (Array.getElem?_eq_some_iff.1 (kept_block h1 he0.out)).1) | (go_at_call 22; (with_reducible refine Calls.mono (kA.out _ h1) ?_); rintro e w2 ⟨rfl, hB⟩; have h2 := below_tr h1 hB; obtain ⟨q0, q1, q2⟩ := rc3 (kept_block h2 he0.out); have z0 := (Array.getElem?_eq_some_iff.1 (kept_block h2 he0.out)).1) | (go_at_call 46; (with_reducible refine Calls.mono (kS.out _ h2) ?_); rintro e w3 ⟨⟨a, c, rfl, -⟩, hB3⟩))
  all_goals
    go_wp2
    go_ret
    exact ⟨by rw [hce.out]; first | rfl | simp, by first | (with_reducible exact (below_tr hBW.out (below_tr h2 hB3))) | (with_reducible exact (below_tr hBW.out h2))⟩
end Go.Proofs.Ytddmfkhmhdddeaa
