/- Gas: operations in memory; walks: whether operations are as defined, and what is true of them. -/
import Derived.Test.YtdilgjhdimlbkaaPrs
import Derived.Test.YtdilgjhdimlbkaaOwn
set_option linter.unusedVariables false
set_option linter.unusedSimpArgs false
namespace Gas
def theOp (l : List Op) (k : Nat) : Op := l.getD k ⟨0, 0, 0, 0, 0, 0, 0, 0, 0, 0⟩
theorem theOp_lt {l : List Op} {k : Nat} (h : k < l.length) : theOp l k = l[k] := by simp [theOp, h]
theorem theOp_mem {l : List Op} {k : Nat} (h : k < l.length) : theOp l k ∈ l := by rw [theOp_lt h]; exact List.getElem_mem h
def opsB (l : List Op) : Bool := l.all Op.ok
theorem opsB_iff {l : List Op} : opsB l = true ↔ ∀ k, k < l.length → (theOp l k).ok = true := by
  unfold opsB
  rw [List.all_eq_true]
  constructor
  · intro h k hk; exact h _ (theOp_mem hk)
  · intro h x hx
    obtain ⟨k, hk, rfl⟩ := List.getElem_of_mem hx
    rw [← theOp_lt hk]; exact h k hk
theorem opsB_not {l : List Op} {k : Nat} (hk : k < l.length) (h : (theOp l k).ok = false) : opsB l = false := by
  cases hb : opsB l
  · rfl
  · rw [opsB_iff.1 hb k hk] at h; cases h
/-- Whether numbers are what is true of operations. -/
def truthB (l : List Op) (a b : List Int) : Bool := decide (a.length = l.length) && decide (b.length = l.length) && (List.range l.length).all fun k => inB (at0 a k) (theOp l k).slo (theOp l k).shi && inB (at0 b k) (theOp l k).wlo (theOp l k).whi
end Gas
namespace Go.Proofs.Ytdilgjhdimlbkaa
open Go.RowKit Go.Sd Gas

/-- The ten cells of an operation. -/
def OpCells (w : World) (b o : Nat) (x : Gas.Op) : Prop :=
  w.cell? ⟨b, o, none⟩ = some (.int .i64 x.kind) ∧ w.cell? ⟨b, o + 1, none⟩ = some (.int .i64 x.lg) ∧ w.cell? ⟨b, o + 2, none⟩ = some (.int .i64 x.ly) ∧ w.cell? ⟨b, o + 3, none⟩ = some (.int .i64 x.lt) ∧ w.cell? ⟨b, o + 4, none⟩ = some (.int .i64 x.lw) ∧ w.cell? ⟨b, o + 5, none⟩ = some (.int .i64 x.moles) ∧ w.cell? ⟨b, o + 6, none⟩ = some (.int .i64 x.slo) ∧ w.cell? ⟨b, o + 7, none⟩ = some (.int .i64 x.shi) ∧ w.cell? ⟨b, o + 8, none⟩ = some (.int .i64 x.wlo) ∧ w.cell? ⟨b, o + 9, none⟩ = some (.int .i64 x.whi)
theorem OpCells.mono {w w' : World} {b o : Nat} {x : Gas.Op} (h : OpCells w b o x) (hb : Below w.heap.size w w') : OpCells w' b o x := by
  obtain ⟨h0, h1, h2, h3, h4, h5, h6, h7, h8, h9⟩ := h
  exact ⟨kept_cell hb h0, kept_cell hb h1, kept_cell hb h2, kept_cell hb h3, kept_cell hb h4, kept_cell hb h5, kept_cell hb h6, kept_cell hb h7, kept_cell hb h8, kept_cell hb h9⟩
/-- A slice that reads as a list of operations. -/
def OpsAt (w : World) (v : Value) (xs : List Gas.Op) : Prop :=
  ∃ a cap, v = .slice a xs.length cap ∧ xs.length ≤ maxLen ∧
    (0 < xs.length → ∃ b off, a = some ⟨b, off, none⟩ ∧ b < w.heap.size ∧ ∀ k, k < xs.length → OpCells w b (off + k * 10) (theOp xs k))
theorem OpsAt.mono {w w' : World} {v : Value} {xs : List Gas.Op} (h : OpsAt w v xs) (hb : Below w.heap.size w w') : OpsAt w' v xs := by
  obtain ⟨a, cap, rfl, hm, hc⟩ := h
  refine ⟨a, cap, rfl, hm, fun h0 => ?_⟩
  obtain ⟨b, off, rfl, hlt, hk⟩ := hc h0
  exact ⟨b, off, rfl, Nat.lt_of_lt_of_le hlt hb.size, fun k hk' => (hk k hk').mono hb⟩

def opsErr (l : List Gas.Op) : Int := if 20 < l.length then 3 else if opsB l = true then 0 else 2

set_option maxRecDepth 100000 in
set_option maxHeartbeats 4000000 in
theorem progOps (lv : Value) (xs : List Gas.Op) (w : World) (hx : OpsAt w lv xs) :
    Calls Try.prog 16 #[lv] w fun e w' => e = .returned (.int .i64 (opsErr xs)) ∧ Below w.heap.size w w' := by
  obtain ⟨a, cap, rfl, hm, hc⟩ := hx
  unfold maxLen at hm
  have hm' : xs.length ≤ 9223372036854775807 := by omega
  have hcW := Lib.hid hc
  clear hc
  by_cases hlong : 20 < xs.length
  · have he : Hid (opsErr xs = 3) := Lib.hid (by unfold opsErr; rw [if_pos hlong])
    rw [he.out]
    have h1 : (20 : Int) < (xs.length : Int) := by omega
    clear he hlong
    go_enter Try.func16, Try.ntmps16
    go_wp2
    go_ret
    exact ⟨rfl, Below.refl _ _⟩
  have hsh : (xs.length : Int) ≤ 20 := by omega
  obtain ⟨r, hr⟩ : ∃ r, opsErr xs = r := ⟨_, rfl⟩
  rw [hr]
  replace hr : Hid ((if opsB xs = true then 0 else 2) = r) := Lib.hid (by rw [← hr]; unfold opsErr; rw [if_neg hlong])
  clear hlong
  go_enter Try.func16, Try.ntmps16
  go_wp2
  go_loopw [10] (fun i wr => ∃ g : Grow w, wr = g.x ∧ ∃ k : Nat, k ≤ xs.length ∧ i = .int .i64 k ∧ Hid (∀ j, j < k → (theOp xs j).ok = true)) (fun i _ => xs.length - (intOf i).toNat)
  case atStart => exact ⟨Grow.self w, rfl, 0, Nat.zero_le _, rfl, fun j hj => absurd hj (by omega)⟩
  case round =>
    obtain ⟨g, rfl, k, hk, rfl, hH⟩ := hrel
    by_cases hlt : k < xs.length
    · obtain ⟨b, off, rfl, hb, hcell⟩ := hcW.out (by omega)
      obtain ⟨c0, c1, c2, c3, c4, c5, c6, c7, c8, c9⟩ := (hcell k hlt).mono g.h
      clear hcell
      have hki : (k : Int) < (xs.length : Int) := by omega
      obtain ⟨x, hxe⟩ : ∃ x, theOp xs k = x := ⟨_, rfl⟩
      simp only [hxe] at c0 c1 c2 c3 c4 c5 c6 c7 c8 c9
      obtain ⟨g2, hg2⟩ := g.alloc (.cells #[.int .i64 x.kind, .int .i64 x.lg, .int .i64 x.ly, .int .i64 x.lt, .int .i64 x.lw, .int .i64 x.moles, .int .i64 x.slo, .int .i64 x.shi, .int .i64 x.wlo, .int .i64 x.whi] 57)
      have e2 := World.alloc_heap_new g.x (.cells #[.int .i64 x.kind, .int .i64 x.lg, .int .i64 x.ly, .int .i64 x.lt, .int .i64 x.lw, .int .i64 x.moles, .int .i64 x.slo, .int .i64 x.shi, .int .i64 x.wlo, .int .i64 x.whi] 57)
      rw [hg2] at e2
      obtain ⟨z2, r2, -⟩ := row_cells e2
      have q0 := r2 0
      have q1 := r2 1
      have q2 := r2 2
      have q3 := r2 3
      have q4 := r2 4
      have q5 := r2 5
      have q6 := r2 6
      have q7 := r2 7
      have q8 := r2 8
      have q9 := r2 9
      simp only [List.getElem?_toArray, List.getElem?_cons_zero, List.getElem?_cons_succ] at q0 q1 q2 q3 q4 q5 q6 q7 q8 q9
      clear r2 e2
      cases hok : x.ok
      · have kO := Lib.hid (fun w => (progOp x w).mono fun e w' hb => BoolB.lit hb hok)
        have hres : Hid (opsB xs = false) := Lib.hid (opsB_not hlt (by rw [hxe]; exact hok))
        replace hxe := Lib.hid hxe
        clear hok
        go_wp2_with (go_at_call 34; refine Calls.mono (kO.out _) ?_; rintro e w1 ⟨rfl, hB⟩; obtain ⟨g3, rfl⟩ := g2.next hB; clear hB)
        go_ret
        exact ⟨by rw [← hr.out, hres.out]; rfl, g3.h⟩
      · have kO := Lib.hid (fun w => (progOp x w).mono fun e w' hb => BoolB.lit hb hok)
        replace hH : Hid (∀ j, j < k + 1 → (theOp xs j).ok = true) := Lib.hid (fun j hj => by
          by_cases e : j = k
          · rw [e, hxe]; exact hok
          · exact hH.out j (by omega))
        replace hxe := Lib.hid hxe
        clear hok
        go_wp2_with (go_at_call 34; refine Calls.mono (kO.out _) ?_; rintro e w1 ⟨rfl, hB⟩; obtain ⟨g3, rfl⟩ := g2.next hB; clear hB)
        exact ⟨⟨g3, rfl, k + 1, by omega, by go_num, hH⟩, by simp [intOf]; omega⟩
    · obtain rfl : k = xs.length := by omega
      have hres : Hid (opsB xs = true) := Lib.hid (opsB_iff.2 hH.out)
      go_wp2
      go_ret
      exact ⟨by rw [← hr.out, hres.out]; rfl, g.h⟩
end Go.Proofs.Ytdilgjhdimlbkaa
