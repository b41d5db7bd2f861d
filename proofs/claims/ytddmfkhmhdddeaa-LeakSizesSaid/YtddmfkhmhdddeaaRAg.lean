/- Walks: whether a guess agrees with a book (the reference), if ref.Forward does as said. -/
import Derived.Test.YtddmfkhmhdddeaaDn
set_option linter.unusedVariables false
set_option linter.unusedSimpArgs false
namespace Go.Proofs.Ytddmfkhmhdddeaa
open Go.RowKit Go.Sd Lk

/-- What ref.Forward is to do (its walk is still to come). -/
def FwdOk (b : Bk) (g : Gs) (fv wv rv : Value) : Prop := ∀ (z : Nat) (w : World), z < b.first.length → BookAt w fv wv rv b →
  Calls Try.prog 55 #[bkV fv wv rv, gsV g, .int .i64 z] w fun e w' => Below w.heap.size w w' ∧ ∃ v, e = .returned (.tuple #[v, .bool (b.zoneB g z)]) ∧ (b.zoneB g z = true → SpsAt w' v ((List.range b.flows.length).map fun d => b.fwd g z (d + 1)))

set_option maxRecDepth 100000 in
set_option maxHeartbeats 4000000 in
theorem refAgree (fv wv rv : Value) (b : Bk) (x : Gs) (w : World) (hb : BookAt w fv wv rv b) (hF : FwdOk b x fv wv rv) :
    Calls Try.prog 22 #[bkV fv wv rv, gsV x] w fun e w' => e = .returned (.bool (b.agreeB x)) ∧ Below w.heap.size w w' := by
  obtain ⟨W, hW⟩ : ∃ W, (w.alloc (bkA fv wv rv)).alloc (gsO x) = W := ⟨_, rfl⟩
  obtain ⟨e0, e1, s0, b0⟩ := two_new hW
  obtain ⟨q0, q1, q2⟩ := rc3 e0
  have hE := Lib.hid e0
  have hG := Lib.hid e1
  have hBk := Lib.hid (hb.mono b0)
  have hFw := Lib.hid hF
  obtain ⟨fa, fc, rfl, hfm, -⟩ := hb.first.form
  have hBW := Lib.hid b0
  clear hb hF
  go_enter Try.func22, Try.ntmps22
  go_wp2
  clear q0 q1 q2 e0 e1 b0 s0
  go_loopw [5] (fun i wr => ∃ g : Grow W, wr = g.x ∧ ∃ k : Nat, k ≤ b.first.length ∧ i = .int .i64 k ∧ Hid (∀ j, j < k → b.zoneB x j = true)) (fun i _ => b.first.length - (intOf i).toNat)
  case atStart => exact ⟨Grow.self W, rfl, 0, Nat.zero_le _, rfl, fun j hj => absurd hj (Nat.not_lt_zero _)⟩
  case round =>
    obtain ⟨g, rfl, k, hk, rfl, hH⟩ := hrel
    obtain ⟨U, hU⟩ : ∃ U, g.x = U := ⟨_, rfl⟩
    have hBU : Below W.heap.size W U := by rw [← hU]; exact g.h
    rw [hU]
    clear hU g
    obtain ⟨q0, q1, q2⟩ := rc3 (kept_block hBU hE.out)
    obtain ⟨g0, g1, g2⟩ := rc3 (kept_block hBU hG.out)
    have zU := (Array.getElem?_eq_some_iff.1 (kept_block hBU hE.out)).1
    have zU2 := (Array.getElem?_eq_some_iff.1 (kept_block hBU hG.out)).1
    by_cases hlt : k < b.first.length
    · have hki : (k : Int) < (b.first.length : Int) := by omega
      have kF := hFw.out k U hlt (hBk.out.mono hBU)
      replace hBU := Lib.hid hBU
      cases hs : b.zoneB x k
      · have hr := Lib.hid (show b.agreeB x = false by rw [Bk.agreeB]; exact all_no (by simpa using hlt) (by simpa using hs))
        rw [hs] at kF
        replace kF := Lib.hid kF
        clear hs hH
        go_wp2_with (go_at_call 55; (with_reducible refine Calls.mono kF.out ?_); rintro e y ⟨hB2, v, rfl, -⟩)
        go_ret
        exact ⟨by rw [hr.out]; rfl, below_tr hBW.out (below_tr hBU.out hB2)⟩
      · have hH2 := Lib.hid (upto_succ (P := fun j => b.zoneB x j = true) hH.out hs)
        rw [hs] at kF
        replace kF := Lib.hid kF
        clear hs hH
        go_wp2_with (go_at_call 55; (with_reducible refine Calls.mono kF.out ?_); rintro e y ⟨hB2, v, rfl, -⟩)
        exact ⟨⟨⟨y, below_tr hBU.out hB2⟩, rfl, k + 1, by omega, by go_num, hH2⟩, by simp [intOf]; omega⟩
    · obtain rfl : k = b.first.length := by omega
      have hr := Lib.hid (show b.agreeB x = true by rw [Bk.agreeB]; exact all_to fun j hj => by simpa using hH.out j (by simpa using hj))
      go_wp2
      go_ret
      exact ⟨by rw [hr.out]; rfl, below_tr hBW.out hBU⟩
end Go.Proofs.Ytddmfkhmhdddeaa
