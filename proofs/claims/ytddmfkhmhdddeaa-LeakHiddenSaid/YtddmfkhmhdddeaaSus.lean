/- Walks: all suspects; sizes, suspects, whether a leak is certain (the program's exported functions). -/
import Derived.Test.YtddmfkhmhdddeaaSiz
set_option linter.unusedVariables false
set_option linter.unusedSimpArgs false
namespace Lk
structure Su where
  zone : Int
  since : Int
  s : Sp
  deriving DecidableEq
def suAt (l : List Su) (k : Nat) : Su := l.getD k ⟨0, 0, ⟨0, 0⟩⟩
def Bk.sus (b : Bk) (z d : Nat) : Option Su := if (b.sizesK z d).lo ≤ (b.sizesK z d).hi then some ⟨z, d, b.sizesK z d⟩ else none
/-- The suspects of the first z zones, and of the first t days of the next one. -/
def Bk.susTo (b : Bk) (z t : Nat) : List Su := ((List.range z).flatMap fun i => (List.range b.flows.length).filterMap (b.sus i)) ++ (List.range t).filterMap (b.sus z)
def Bk.susL (b : Bk) : List Su := b.susTo b.first.length 0
theorem susTo_take {b : Bk} {z t : Nat} (h : (b.sizesK z t).lo ≤ (b.sizesK z t).hi) : b.susTo z (t + 1) = b.susTo z t ++ [⟨z, t, b.sizesK z t⟩] := by
  simp [Bk.susTo, List.range_succ, Bk.sus, h]
theorem susTo_skip {b : Bk} {z t : Nat} (h : ¬ (b.sizesK z t).lo ≤ (b.sizesK z t).hi) : b.susTo z (t + 1) = b.susTo z t := by
  simp [Bk.susTo, List.range_succ, Bk.sus, h]
theorem susTo_next {b : Bk} {z : Nat} : b.susTo (z + 1) 0 = b.susTo z b.flows.length := by simp [Bk.susTo, List.range_succ]
theorem filterMap_len {α β : Type} (f : α → Option β) : ∀ l : List α, (l.filterMap f).length ≤ l.length
  | [] => Nat.le_refl _
  | x :: l => by
    have := filterMap_len f l
    rw [List.filterMap_cons]
    split <;> simp <;> omega
theorem susTo_len {b : Bk} {z t : Nat} (ht : t ≤ b.flows.length) : (b.susTo z t).length ≤ (z + 1) * b.flows.length := by
  induction z generalizing t with
  | zero =>
    have := filterMap_len (b.sus 0) (List.range t)
    simp only [Bk.susTo, List.range_zero, List.flatMap_nil, List.nil_append]
    simp at this; omega
  | succ z ih =>
    have h1 := ih (t := b.flows.length) (Nat.le_refl _)
    have h2 : b.susTo (z + 1) t = b.susTo z b.flows.length ++ (List.range t).filterMap (b.sus (z + 1)) := by
      rw [← susTo_next]; simp [Bk.susTo]
    have := filterMap_len (b.sus (z + 1)) (List.range t)
    rw [h2, List.length_append, Nat.add_mul (z + 1) 1]
    simp at this; omega
/-- The sizes that are told, and the error. -/
def Bk.szR (b : Bk) (z since : Int) : Sp × Int := if b.err true ≠ 0 then (⟨0, 0⟩, b.err true) else if (inB z 0 (b.first.length - 1) && inB since 0 (b.flows.length - 1)) = false then (⟨0, 0⟩, 2)
  else if (b.sizesK z.toNat since).hi < (b.sizesK z.toNat since).lo then (⟨0, 0⟩, 5) else (b.sizesK z.toNat since, 0)
def Bk.certB (b : Bk) : Bool := !b.agreeB noGs && decide (0 < b.susL.length)
end Lk
namespace Go.Proofs.Ytddmfkhmhdddeaa
open Go.RowKit Go.Sd Lk

abbrev suEnc (x : Su) : List Value := [.int .i64 x.zone, .int .i64 x.since, .int .i64 x.s.lo, .int .i64 x.s.hi]
abbrev SusAt (w : World) (v : Value) (xs : List Su) : Prop := ElsAt 4 suEnc ⟨0, 0, ⟨0, 0⟩⟩ w v xs
theorem suEnc_len (x : Su) : (suEnc x).length = 4 := rfl
theorem suEnc_one (x : Su) : ∀ u ∈ suEnc x, u.oneCell' = true := by simp [suEnc, Value.oneCell']
theorem infoSu : (Try.prog.info? 64).map (fun i => (i.zero, i.size, i.bytes)) = some (some (.agg #[.int .i64 0, .int .i64 0, .int .i64 0, .int .i64 0]), 4, 32) := by kernel_rfl
abbrev OwnSus (B : Nat) (w : World) (v : Value) (xs : List Su) : Prop := OwnSt 64 4 suEnc B w v xs

set_option maxRecDepth 100000 in
set_option maxHeartbeats 4000000 in
theorem progSus (fv wv rv : Value) (b : Bk) (w : World) (hb : BookAt w fv wv rv b) (ok : Ok b) :
    Calls Try.prog 66 #[bkV fv wv rv] w fun e w' => (∃ a cap, e = .returned (.slice a b.susL.length cap) ∧ SusAt w' (.slice a b.susL.length cap) b.susL) ∧ Below w.heap.size w w' := by
  have hnd := ok.nd
  have hnz := ok.nz
  obtain ⟨W, hW⟩ : ∃ W, w.alloc (bkO fv wv rv) = W := ⟨_, rfl⟩
  obtain ⟨e0, b0, s0⟩ := boxed hW
  have hb0 := Lib.hid hb
  obtain ⟨fa, fc, rfl, hfm, -⟩ := hb.first.form
  obtain ⟨wa, wc, rfl, hwm, -⟩ := hb.flows.form
  obtain ⟨ra, rc, rfl, hrm, -⟩ := hb.reads.form
  obtain ⟨q0, q1, q2⟩ := rc3 e0
  have z0 := (Array.getElem?_eq_some_iff.1 e0).1
  have hO0 : Hid (OwnSus W.heap.size W (.slice none 0 0) (b.susTo 0 0)) := Lib.hid (OwnSt.nil _ _ _ _ _)
  have hbw := Lib.hid b0
  have he0 := Lib.hid e0
  clear hb e0 s0 b0
  go_enter Try.func66, Try.ntmps66
  go_wp2
  clear q0 q1 q2 hW
  go_loopw [3, 11] (fun p i wr => ∃ (k : Nat) (v : Value), k ≤ b.first.length ∧ v = p ∧ i = .int .i64 k ∧ Hid (OwnSus W.heap.size wr v (b.susTo k 0) ∧ Below W.heap.size W wr)) (fun _ i _ => b.first.length - (intOf i).toNat)
  case atStart => exact ⟨0, _, by omega, rfl, rfl, hO0.out, Below.refl _ _⟩
  case round =>
    obtain ⟨k, v, hk, rfl, rfl, hH⟩ := hrel
    clear hO0
    by_cases hlt : k < b.first.length
    · have hki : (k : Int) < (b.first.length : Int) := by omega
      have ebk := kept_block hH.out.2 he0.out
      obtain ⟨q0, q1, q2⟩ := rc3 ebk
      have zb := (Array.getElem?_eq_some_iff.1 ebk).1
      have hH2 := Lib.hid hH.out
      clear ebk
      obtain ⟨S, rfl⟩ : ∃ S : World, S = wr := ⟨_, rfl⟩
      go_wp2
      clear q0 q1 q2 zb
      go_loopw [3, 18] (fun p i wr => ∃ (t : Nat) (v : Value), t ≤ b.flows.length ∧ v = p ∧ i = .int .i64 t ∧ Hid (OwnSus W.heap.size wr v (b.susTo k t) ∧ Below W.heap.size W wr)) (fun _ i _ => b.flows.length - (intOf i).toNat)
      case atStart => exact ⟨0, _, by omega, rfl, rfl, hH2.out⟩
      case round =>
        obtain ⟨t, v, ht, rfl, rfl, hG⟩ := hrel
        obtain ⟨ho, hB⟩ := hG.out
        clear hG hH hH2
        by_cases htl : t < b.flows.length
        · have hti : (t : Int) < (b.flows.length : Int) := by omega
          have ebk := kept_block hB he0.out
          obtain ⟨q0, q1, q2⟩ := rc3 ebk
          have zb := (Array.getElem?_eq_some_iff.1 ebk).1
          have kS := Lib.hid (progSizesK _ _ _ b k t wr (hb0.out.mono (below_tr hbw.out hB)) ok hlt (by omega))
          have htake := Lib.hid (susTo_take (b := b) (z := k) (t := t))
          have hskip := Lib.hid (susTo_skip (b := b) (z := k) (t := t))
          have hlen : (b.susTo k t).length ≤ 1000000 := by
            have h1 := susTo_len (b := b) (z := k) (t := t) (by omega)
            have : (k + 1) * b.flows.length ≤ 7 * 30 := Nat.mul_le_mul (by omega) (by omega)
            omega
          generalize b.sizesK k t = s at *
          obtain ⟨a1, c1, hva⟩ := ho.slice
          subst hva
          have ho' := Lib.hid ho
          have hB' := Lib.hid hB
          clear ho hB ebk
          generalize hl1 : b.susTo k t = l1 at *
          replace hl1 := Lib.hid hl1
          have hWr : W.heap.size ≤ wr.heap.size := hB'.out.size
          by_cases hs : s.lo ≤ s.hi
          · have hnx := Lib.hid (htake.out hs)
            clear htake hskip
            go_wp2_with (first | (go_at_call 72; (with_reducible refine Calls.mono kS.out ?_); rintro e w1 ⟨rfl, hB1⟩; obtain ⟨N, hN⟩ : ∃ N, w1.alloc (spO s) = N := ⟨_, rfl⟩; obtain ⟨en, BN, sN⟩ := boxed hN; obtain ⟨n0, n1⟩ := rc2 en; have zn := (Array.getElem?_eq_some_iff.1 en).1; have B1N := below_tr hB1 BN; clear sN) | (at_builtin; refine wpList_app_st (enc := suEnc) suEnc_len 58 64 _ 32 Try.underlying58 infoSu rfl (by omega) (by omega) suEnc_one (by rfl) _ _ (by rfl) W.heap.size N (.slice a1 l1.length c1) l1 ⟨k, t, s⟩ (by rfl) (ho'.out.mono B1N) (by rfl) hlen (Nat.le_trans hWr B1N.size) ?_; intro v1 w2 ho1 hg1 hat1; obtain ⟨a2, c2, he1⟩ := ho1.slice; subst he1))
            refine ⟨⟨t + 1, _, by omega, rfl, by go_num, ?_, (hB'.out.trans (B1N.mono hWr)).grown hg1 (Nat.le_trans hWr B1N.size) (fun k e => (ho'.out.lt k e).1)⟩, by simp [intOf]; omega⟩
            rw [hnx.out]
            first | exact ho1 | (rw [List.length_append, List.length_singleton] at ho1; exact ho1)
          · have hnx := Lib.hid (hskip.out hs)
            have hs2 : decide (s.lo ≤ s.hi) = false := by simpa using hs
            clear htake hskip
            go_wp2_with (go_at_call 72; (with_reducible refine Calls.mono kS.out ?_); rintro e w1 ⟨rfl, hB1⟩; obtain ⟨N, hN⟩ : ∃ N, w1.alloc (spO s) = N := ⟨_, rfl⟩; obtain ⟨en, BN, sN⟩ := boxed hN; obtain ⟨n0, n1⟩ := rc2 en; have zn := (Array.getElem?_eq_some_iff.1 en).1; have B1N := below_tr hB1 BN; clear sN)
            refine ⟨⟨t + 1, _, by omega, rfl, by go_num, ?_, hB'.out.trans (B1N.mono hWr)⟩, by simp [intOf]; omega⟩
            rw [hnx.out]
            exact ho'.out.mono B1N
        · obtain rfl : t = b.flows.length := by omega
          rw [← susTo_next] at ho
          have ho' := Lib.hid ho
          have hB' := Lib.hid hB
          clear ho hB
          go_wp2
          exact ⟨⟨k + 1, _, by omega, rfl, by go_num, ho'.out, hB'.out⟩, by simp [intOf]; omega⟩
    · obtain rfl : k = b.first.length := by omega
      obtain ⟨ho, hB⟩ := hH.out
      have hos : SusAt wr v b.susL := ho.els suEnc_len _
      obtain ⟨a1, c1, rfl, -, -⟩ := hos.form
      have hfin := Lib.hid hos
      have hBf := Lib.hid (below_tr hbw.out hB)
      clear hos ho hB hH
      go_wp2
      go_ret
      exact ⟨⟨_, _, rfl, hfin.out⟩, hBf.out⟩

def SuspPost (b : Bk) (w : World) (e : Ending) (w' : World) : Prop := Below w.heap.size w w' ∧
  ((b.err true ≠ 0 ∧ e = .returned (.tuple #[.slice none 0 0, .int .i64 (b.err true)])) ∨ (b.err true = 0 ∧ ∃ a cap, e = .returned (.tuple #[.slice a b.susL.length cap, .int .i64 0]) ∧ SusAt w' (.slice a b.susL.length cap) b.susL))

set_option maxRecDepth 100000 in
set_option maxHeartbeats 4000000 in
theorem progSuspects (fv wv rv : Value) (b : Bk) (w : World) (hb : BookAt w fv wv rv b) : Calls Try.prog 33 #[bkV fv wv rv] w (SuspPost b w) := by
  obtain ⟨W, hW⟩ : ∃ W, (w.alloc (bkA fv wv rv)).alloc (bkO fv wv rv) = W := ⟨_, rfl⟩
  obtain ⟨e0, e1, s1, B1⟩ := two_new hW
  have hbW := Lib.hid (hb.mono B1)
  have kC := Lib.hid (progChecked fv wv rv b W hbW.out)
  have hez := Lib.hid (err_zero (b := b) (f := true))
  obtain ⟨fa, fc, rfl, hfm, -⟩ := hb.first.form
  obtain ⟨wa, wc, rfl, hwm, -⟩ := hb.flows.form
  obtain ⟨ra, rc, rfl, hrm, -⟩ := hb.reads.form
  obtain ⟨q0, q1, q2⟩ := rc3 e1
  have z1 := (Array.getElem?_eq_some_iff.1 e1).1
  have hwB := Lib.hid B1
  replace hW := Lib.hid hW
  clear hb e0 e1 s1 B1
  unfold SuspPost
  generalize b.err true = er at *
  by_cases h : er = 0
  · have ok := Lib.hid (ok_of (hez.out h).2.1 (hez.out h).1)
    have kS := Lib.hid (fun X (hX : Below W.heap.size W X) => progSus _ _ _ b X (hbW.out.mono hX) ok.out)
    subst h
    go_enter Try.func33, Try.ntmps33
    go_wp2_with (first | (go_at_call 57; rw [hW.out]; (with_reducible refine Calls.mono kC.out ?_); rintro e w1 ⟨rfl, hb1⟩; replace q0 := kept_cell hb1 q0; replace q1 := kept_cell hb1 q1; replace q2 := kept_cell hb1 q2) | (go_at_call 66; (with_reducible refine Calls.mono (kS.out _ hb1) ?_); rintro e w2 ⟨⟨a, c, rfl, hs⟩, hb2⟩))
    refine bodyPost_ret (v := .tuple #[_, _]) (by simp [results, Try.results33, go_sem]; exact ⟨rfl, rfl⟩) rfl ?_
    exact ⟨below_tr hwB.out (below_tr hb1 hb2), .inr ⟨trivial, _, _, rfl, hs⟩⟩
  · have hd : decide (er = 0) = false := by simpa using h
    go_enter Try.func33, Try.ntmps33
    go_wp2_with (go_at_call 57; rw [hW.out]; (with_reducible refine Calls.mono kC.out ?_); rintro e w1 ⟨rfl, hb1⟩)
    refine bodyPost_ret (v := .tuple #[_, _]) (by simp [results, Try.results33, go_sem]; exact ⟨rfl, rfl⟩) rfl ?_
    exact ⟨below_tr hwB.out hb1, .inl ⟨h, rfl⟩⟩
end Go.Proofs.Ytddmfkhmhdddeaa
