/- Walks: the number of the proof. -/
import Derived.Test.YtacajmpggjgaiaaPl1
set_option linter.unusedVariables false
set_option linter.unusedSimpArgs false
namespace Go.Proofs.Ytacajmpggjgaiaa
open Go.RowKit Go.Sd

/-- Element i of a slice of slices. -/
def ElemAt (w : World) (ov : Value) (n i : Nat) (ev : Value) : Prop :=
  ∃ ob oo cap, ov = .slice (some ⟨ob, oo, none⟩) n cap ∧ n ≤ 9223372036854775807 ∧ i < n ∧ w.cell? ⟨ob, oo + i, none⟩ = some ev

set_option maxRecDepth 10000 in
set_option maxHeartbeats 2000000 in
theorem progProof1 (lv mv : Value) (s : Sea.S) (k : Nat) (fill nom u : Int) (w : World) (bo bd n : Nat) (ov ev : Value) (next : List Int) (hl : LookAt w lv mv s) (hk : k < s.days.length) (ok : Sea.Ok s)
    (b1 : 0 ≤ fill ∧ fill ≤ 100) (b2 : -100 ≤ nom ∧ nom ≤ 100) (b3 : -100 ≤ u ∧ u ≤ 100) (hi : 0 ≤ fill + nom + u) (hi2 : fill + nom + u < next.length)
    (hbd : -Sea.never ≤ Sea.at0 next (fill + nom + u).toNat ∧ Sea.at0 next (fill + nom + u).toNat ≤ Sea.never)
    (c0 : w.cell? ⟨bo, 0, none⟩ = some ov) (c1 : w.cell? ⟨bd, 0, none⟩ = some (.int .i64 k)) (he : ElemAt w ov n (k + 1) ev) (hv : IntsAt w ev next) (hn : n ≤ 100) :
    Calls Try.prog 83 #[ordV lv k fill nom u, .pointer (some ⟨bo, 0, none⟩), .pointer (some ⟨bd, 0, none⟩)] w fun e w' => e = .returned (.int .i64 (withOf s k fill nom next u)) ∧ Below w.heap.size w w' := by
  obtain ⟨ob, oo, cap, rfl, hm, hin, ce⟩ := he
  have hbo := World.block_lt_of_cell? w ⟨bo, 0, none⟩ c0
  have hbd2 := World.block_lt_of_cell? w ⟨bd, 0, none⟩ c1
  have hbe := World.block_lt_of_cell? w ⟨ob, oo + (k + 1), none⟩ ce
  simp only at hbo hbd2 hbe
  have hw : ∀ w1, Kc w w1 → Calls Try.prog 57 #[ordV lv k fill nom u, ev] w1 fun e w' => e = .returned (.int .i64 (withOf s k fill nom next u)) ∧ Below w1.heap.size w1 w' :=
    fun w1 h => progWith lv mv s k fill nom u w1 ev next (hl.kc h) hk ok b1 b2 b3 (hv.kc h) hi hi2 hbd
  clear hv hi hi2 hbd b1 b2 b3 ok hk hl
  have hin' : (k : Int) + 1 < (n : Int) := by omega
  go_enter Try.func83, Try.ntmps83
  go_wp2
  generalize hW : w.alloc (oBox _ k fill nom u) = W
  obtain ⟨hsz, hBw, q0, q1, q2, q3, q4⟩ := box_order hW
  clear hW
  have d0 := kept_cell hBw c0
  have d1 := kept_cell hBw c1
  have d2 := kept_cell hBw ce
  have hs := hBw.size
  have hbo' : bo < W.heap.size := by omega
  have hbd' : bd < W.heap.size := by omega
  have hbe' : ob < W.heap.size := by omega
  clear c0 c1 ce
  have hg := grow_cell W
  refine wp_region_grow (by kernel_rfl) (by kernel_rfl) ?_
  repeat (go_big_quiet_step ((first | (go_at_call 57; exact Calls.grow (hw _ (Kc.of (hBw.trans ((Grow.h _).mono hBw.size))))))))
  refine wpQuiet_nil ?_
  rintro _ ⟨g, rfl⟩
  go_wp2
  go_ret
  exact ⟨rfl, hBw.trans (g.h.mono hBw.size)⟩
end Go.Proofs.Ytacajmpggjgaiaa
