/- Walks: the days of a book, forwards or backwards, one after the other (an iterator). -/
import Derived.Test.YtddmfkhmhdddeaaKee
import Derived.Shelf.Abstract
import Derived.Shelf.RegionOpen
import Derived.OwnWalkIn
import Derived.TacticsInMore
import Derived.LoopNIn
import Derived.LoopIn
set_option linter.unusedVariables false
set_option linter.unusedSimpArgs false
namespace Lk
def dayOf (n : Nat) (bw : Bool) (t : Nat) : Nat := if bw = true then n - 1 - t else t
def daysTo (n : Nat) (bw : Bool) (k : Nat) : List Nat := (List.range k).map (dayOf n bw)
theorem daysTo_succ (n : Nat) (bw : Bool) (k : Nat) : daysTo n bw (k + 1) = daysTo n bw k ++ [dayOf n bw k] := by simp [daysTo, List.range_succ]
theorem daysTo_prefix {n : Nat} {bw : Bool} {i j : Nat} (h : i ≤ j) : daysTo n bw i <+: daysTo n bw j := by
  induction j with
  | zero => obtain rfl : i = 0 := by omega
            exact List.prefix_refl _
  | succ j ih =>
    by_cases hi : i = j + 1
    · subst hi; exact List.prefix_refl _
    · rw [daysTo_succ]; exact (ih (by omega)).trans (List.prefix_append _ _)
theorem daysTo_pre {n : Nat} {bw : Bool} {pre : List Nat} {x k : Nat} (h : pre ++ [x] <+: daysTo n bw k) : pre = daysTo n bw pre.length ∧ x = dayOf n bw pre.length ∧ pre.length < k := by
  have hl : pre.length + 1 ≤ k := by have := h.length_le; simpa [daysTo] using this
  have h2 : daysTo n bw (pre.length + 1) <+: daysTo n bw k := daysTo_prefix hl
  have h3 : pre ++ [x] = daysTo n bw (pre.length + 1) := by
    have a := List.prefix_iff_eq_take.1 h
    have b := List.prefix_iff_eq_take.1 h2
    rw [a, b]; simp [daysTo]
  rw [daysTo_succ] at h3
  have h4 := List.append_inj h3 (by simp [daysTo])
  exact ⟨h4.1, by simpa using h4.2, hl⟩
end Lk
namespace Go.Proofs.Ytddmfkhmhdddeaa
open Go.RowKit Go.Sd Lk
attribute [local go_sem] Oper.semAt_some

theorem progDays (fv wv rv : Value) (bw : Bool) (w : World) :
    Calls Try.prog 96 #[bkV fv wv rv, .bool bw] w fun e w' =>
      e = .returned (.func (.func 105) #[] #[.pointer (some ⟨w.heap.size, 0, none⟩), .pointer (some ⟨w.heap.size + 1, 0, none⟩)]) ∧
      w' = (w.alloc (bkO fv wv rv)).alloc (.cells #[.bool bw] 4) := by
  go_enter Try.func96, Try.ntmps96
  go_wp2
  go_ret
  exact ⟨rfl, rfl⟩
theorem enter_days1 : ∀ (args : Array Value) (w : World), (callFunc 105 args).run Try.prog w = .ok (.enter 105 args) w := fun _ _ => by kernel_rfl

set_option maxRecDepth 100000 in
set_option maxHeartbeats 4000000 in
theorem days_yields (n wc : Nat) (wa : Option Addr) (bw : Bool) (w : World) (S : Nat → Prop) (bb bo : Nat) (hn : n ≤ 1000)
    (c0 : w.cell? ⟨bb, 1, none⟩ = some (.slice wa n wc)) (c1 : w.cell? ⟨bo, 0, none⟩ = some (.bool bw)) (hS0 : S bb) (hS1 : S bo) :
    SeqsG Try.prog 105 #[.pointer (some ⟨bb, 0, none⟩), .pointer (some ⟨bo, 0, none⟩)] (fun t : Nat => #[.int .i64 t]) (daysTo n bw n) S w := by
  intro l J Jx Jp W hKW hJ hJx hY h0
  have d0 : W.cell? ⟨bb, 1, none⟩ = some (.slice wa n wc) := hKW.cell hS0 c0
  have hbs := World.block_lt_of_cell? W ⟨bb, 1, none⟩ d0
  simp only at hbs
  refine callsIn_wide.2 ?_
  go_enter Try.func105, Try.ntmps105
  go_wp2
  refine (wpIn_wide (n := 0)).1 ?_
  gi_loopw [9] (fun i wr => ∃ k : Nat, k ≤ n ∧ i = .int .i64 k ∧ Hid (Kept S w wr ∧ J (daysTo n bw k) wr)) (fun i _ => (n - intOf i).toNat)
  case atStart => exact ⟨0, by omega, by go_num, hKW, h0⟩
  case round =>
    obtain ⟨k, hk, rfl, hH⟩ := hrel
    have d0 : wr.cell? ⟨bb, 1, none⟩ = some (.slice wa n wc) := hH.out.1.cell hS0 c0
    have d1 : wr.cell? ⟨bo, 0, none⟩ = some (.bool bw) := hH.out.1.cell hS1 c1
    by_cases hlt : k < n
    · have hki : (k : Int) < (n : Int) := by omega
      have hpre : daysTo n bw k ++ [dayOf n bw k] <+: daysTo n bw n := by rw [← daysTo_succ]; exact daysTo_prefix (by omega)
      obtain ⟨fn, tmps, assign, body, hy0, hR⟩ := hY _ _ wr hpre hH.out.1 hH.out.2
      cases bw
      · have hy : (Instr.yield l #[.int .i64 (k : Int)]).run Try.prog wr = .ok (.round l fn tmps assign body) wr := hy0
        clear hy0
        gi_wp2
        refine ⟨rfl, hR.mono ?_⟩
        clear hy hR d0 d1
        rintro e W3 (⟨rfl, hJ4, hk4⟩ | ⟨rfl, hJx4⟩ | ⟨c, rfl, hJp⟩)
        · have hK4 : Kept S w W3 := hH.out.1.trans hk4
          gi_wp2
          exact ⟨⟨k + 1, by omega, by go_num, hK4, by rw [daysTo_succ]; exact hJ4⟩, by simp [intOf]; omega⟩
        · gi_wp2
          exact bodyPost_ret (results_none rfl _ _ _) rfl (.inl ⟨⟨_, rfl⟩, .inr hJx4⟩)
        · exact ⟨rfl, .inr ⟨c, rfl, hJp⟩⟩
      · have hy : (Instr.yield l #[.int .i64 ((n : Int) - 1 - (k : Int))]).run Try.prog wr = .ok (.round l fn tmps assign body) wr := by
          have : ((dayOf n true k : Nat) : Int) = (n : Int) - 1 - (k : Int) := by simp [dayOf]; omega
          rw [← this]; exact hy0
        clear hy0
        gi_wp2
        refine ⟨rfl, hR.mono ?_⟩
        clear hy hR d0 d1
        rintro e W3 (⟨rfl, hJ4, hk4⟩ | ⟨rfl, hJx4⟩ | ⟨c, rfl, hJp⟩)
        · have hK4 : Kept S w W3 := hH.out.1.trans hk4
          gi_wp2
          exact ⟨⟨k + 1, by omega, by go_num, hK4, by rw [daysTo_succ]; exact hJ4⟩, by simp [intOf]; omega⟩
        · gi_wp2
          exact bodyPost_ret (results_none rfl _ _ _) rfl (.inl ⟨⟨_, rfl⟩, .inr hJx4⟩)
        · exact ⟨rfl, .inr ⟨c, rfl, hJp⟩⟩
    · obtain rfl : k = n := by omega
      gi_wp2
      go_end0
      exact .inl ⟨⟨_, rfl⟩, .inl hH.out.2⟩
end Go.Proofs.Ytddmfkhmhdddeaa
