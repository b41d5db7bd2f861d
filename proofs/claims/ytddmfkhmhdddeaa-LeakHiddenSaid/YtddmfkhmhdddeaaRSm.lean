/- Walks: whether two lists are equal (the reference): they are. -/
import Derived.Test.YtddmfkhmhdddeaaBla
set_option linter.unusedVariables false
set_option linter.unusedSimpArgs false
namespace Go.Proofs.Ytddmfkhmhdddeaa
open Go.RowKit Go.Sd Lk

set_option maxRecDepth 100000 in
set_option maxHeartbeats 4000000 in
theorem refSame (av bv : Value) (xs : List Int) (w : World) (ha : IntsAt w av xs) (hb : IntsAt w bv xs) :
    Calls Try.prog 26 #[av, bv] w fun e w' => e = .returned (.bool true) ∧ Below w.heap.size w w' := by
  obtain ⟨a, cap, rfl, hm, hc⟩ := ha.form
  obtain ⟨a2, cap2, rfl, -, hc2⟩ := hb.form
  have hcA := Lib.hid hc; have hcB := Lib.hid hc2
  clear hc hc2 ha hb
  go_enter Try.func26, Try.ntmps26
  go_wp2
  go_loopw [5] (fun i wr => ∃ g : Grow w, wr = g.x ∧ ∃ k : Nat, k ≤ xs.length ∧ i = .int .i64 k) (fun i _ => xs.length - (intOf i).toNat)
  case atStart => exact ⟨Grow.self w, rfl, 0, Nat.zero_le _, rfl⟩
  case round =>
    obtain ⟨g, rfl, k, hk, rfl⟩ := hrel
    by_cases hlt : k < xs.length
    · obtain ⟨b, off, rfl, hb, hcell⟩ := hcA.out (by omega)
      obtain ⟨b2, off2, rfl, hb2, hcell2⟩ := hcB.out (by omega)
      have c0 := kept_cell g.h (hcell k 0 _ hlt rfl)
      have d0 := kept_cell g.h (hcell2 k 0 _ hlt rfl)
      rw [Nat.mul_one, Nat.add_zero] at c0 d0
      clear hcell hcell2
      have hki : (k : Int) < (xs.length : Int) := by omega
      generalize xs.getD k 0 = x at *
      obtain ⟨V, hV⟩ : ∃ V, g.x = V := ⟨_, rfl⟩
      have hBV : Below w.heap.size w V := by rw [← hV]; exact g.h
      rw [hV] at c0 d0 ⊢
      have zb := World.block_lt_of_cell? _ ⟨b, _, none⟩ c0
      have zb2 := World.block_lt_of_cell? _ ⟨b2, _, none⟩ d0
      simp only at zb zb2
      have hgc := grow_cell V
      go_wp2
      refine wp_region_grow (by kernel_rfl) (by kernel_rfl) ?_
      repeat (go_big_quiet_step (fail))
      refine wpQuiet_nil ?_
      rintro _ ⟨g, rfl⟩
      go_wp2
      obtain ⟨g3, hg3⟩ : ∃ g3 : Grow w, g.x = g3.x := ⟨⟨g.x, hBV.trans (g.h.mono hBV.size)⟩, rfl⟩
      exact ⟨⟨g3, hg3, k + 1, by omega, by go_num⟩, by simp [intOf]; omega⟩
    · obtain rfl : k = xs.length := by omega
      go_wp2
      go_ret
      exact ⟨rfl, g.h⟩

set_option maxRecDepth 100000 in
set_option maxHeartbeats 4000000 in
theorem refSameSus (av bv : Value) (xs : List Su) (w : World) (ha : SusAt w av xs) (hb : SusAt w bv xs) :
    Calls Try.prog 45 #[av, bv] w fun e w' => e = .returned (.bool true) ∧ Below w.heap.size w w' := by
  obtain ⟨a, cap, rfl, hm, hc⟩ := ha.form
  obtain ⟨a2, cap2, rfl, -, hc2⟩ := hb.form
  have hcA := Lib.hid hc; have hcB := Lib.hid hc2
  clear hc hc2 ha hb
  go_enter Try.func45, Try.ntmps45
  go_wp2
  go_loopw [5] (fun i wr => ∃ g : Grow w, wr = g.x ∧ ∃ k : Nat, k ≤ xs.length ∧ i = .int .i64 k) (fun i _ => xs.length - (intOf i).toNat)
  case atStart => exact ⟨Grow.self w, rfl, 0, Nat.zero_le _, rfl⟩
  case round =>
    obtain ⟨g, rfl, k, hk, rfl⟩ := hrel
    by_cases hlt : k < xs.length
    · obtain ⟨b, off, rfl, hb, hcell⟩ := hcA.out (by omega)
      obtain ⟨b2, off2, rfl, hb2, hcell2⟩ := hcB.out (by omega)
      have c0 := kept_cell g.h (hcell k 0 _ hlt rfl)
      have c1 := kept_cell g.h (hcell k 1 _ hlt rfl)
      have c2 := kept_cell g.h (hcell k 2 _ hlt rfl)
      have c3 := kept_cell g.h (hcell k 3 _ hlt rfl)
      have d0 := kept_cell g.h (hcell2 k 0 _ hlt rfl)
      have d1 := kept_cell g.h (hcell2 k 1 _ hlt rfl)
      have d2 := kept_cell g.h (hcell2 k 2 _ hlt rfl)
      have d3 := kept_cell g.h (hcell2 k 3 _ hlt rfl)
      rw [Nat.add_zero] at c0 d0
      clear hcell hcell2
      have hki : (k : Int) < (xs.length : Int) := by omega
      generalize xs.getD k ⟨0, 0, ⟨0, 0⟩⟩ = x at *
      obtain ⟨V, hV⟩ : ∃ V, g.x = V := ⟨_, rfl⟩
      have hBV : Below w.heap.size w V := by rw [← hV]; exact g.h
      rw [hV] at c0 c1 c2 c3 d0 d1 d2 d3 ⊢
      have zb := World.block_lt_of_cell? _ ⟨b, _, none⟩ c0
      have zb2 := World.block_lt_of_cell? _ ⟨b2, _, none⟩ d0
      simp only at zb zb2
      have hgc := grow_cell V
      go_wp2
      refine wp_region_grow (by kernel_rfl) (by kernel_rfl) ?_
      repeat (go_big_quiet_step (fail))
      refine wpQuiet_nil ?_
      rintro _ ⟨g, rfl⟩
      go_wp2
      obtain ⟨g3, hg3⟩ : ∃ g3 : Grow w, g.x = g3.x := ⟨⟨g.x, hBV.trans (g.h.mono hBV.size)⟩, rfl⟩
      exact ⟨⟨g3, hg3, k + 1, by omega, by go_num⟩, by simp [intOf]; omega⟩
    · obtain rfl : k = xs.length := by omega
      go_wp2
      go_ret
      exact ⟨rfl, g.h⟩

set_option maxRecDepth 100000 in
set_option maxHeartbeats 4000000 in
theorem refSameDays (av bv : Value) (xs : List (List Sp)) (w : World) (ha : SpRowsAt w av xs) (hb : SpRowsAt w bv xs) :
    Calls Try.prog 23 #[av, bv] w fun e w' => e = .returned (.bool true) ∧ Below w.heap.size w w' := by
  obtain ⟨a, cap, rfl, hm, -⟩ := ha.form
  obtain ⟨a2, cap2, rfl, -, -⟩ := hb.form
  have hA := Lib.hid ha; have hB := Lib.hid hb
  clear ha hb
  go_enter Try.func23, Try.ntmps23
  go_wp2
  go_loopw [5] (fun i wr => ∃ g : Grow w, wr = g.x ∧ ∃ k : Nat, k ≤ xs.length ∧ i = .int .i64 k) (fun i _ => xs.length - (intOf i).toNat)
  case atStart => exact ⟨Grow.self w, rfl, 0, Nat.zero_le _, rfl⟩
  case round =>
    obtain ⟨g, rfl, k, hk, rfl⟩ := hrel
    by_cases hlt : k < xs.length
    · have hki : (k : Int) < (xs.length : Int) := by omega
      obtain ⟨V, hV⟩ : ∃ V, g.x = V := ⟨_, rfl⟩
      have hBV : Below w.heap.size w V := by rw [← hV]; exact g.h
      rw [hV]
      clear hV g
      obtain ⟨b1, o1, k1, ev1, hv1, hl1, -, x1, hr1⟩ := sprow_cell (hA.out.mono hBV) (k := k) hlt
      obtain ⟨b2, o2, k2, ev2, hv2, hl2, -, x2, hr2⟩ := sprow_cell (hB.out.mono hBV) (k := k) hlt
      obtain ⟨rfl, rfl⟩ : a = some ⟨b1, o1, none⟩ ∧ cap = k1 := by simpa using hv1
      obtain ⟨rfl, rfl⟩ : a2 = some ⟨b2, o2, none⟩ ∧ cap2 = k2 := by simpa using hv2
      generalize rwAt xs k = row at *
      obtain ⟨r1, c1, rfl, hn1, -⟩ := hr1.form
      obtain ⟨r2, c2, rfl, -, -⟩ := hr2.form
      have hR1 := Lib.hid hr1
      have hR2 := Lib.hid hr2
      have X1 := Lib.hid x1
      have X2 := Lib.hid x2
      have hgc := grow_cell V
      clear hv1 hv2 hr1 hr2
      go_wp2
      refine wp_region_grow (by kernel_rfl) (by kernel_rfl) ?_
      repeat (go_big_quiet_step (fail))
      refine wpQuiet_nil ?_
      rintro _ ⟨g, rfl⟩
      have hg0 := g.h
      clear hgc
      generalize g.x = Y at *
      replace x1 := kept_cell hg0 x1
      replace x2 := kept_cell hg0 x2
      have y1 := World.block_lt_of_cell? Y ⟨b1, _, none⟩ x1
      simp only at y1
      have hBY := Lib.hid (below_tr hBV hg0)
      have hVY := Lib.hid hg0
      clear hg0 hBV hl1 hl2
      go_wp2
      clear x1 x2 y1
      go_loopw [6] (fun i wr => ∃ g : Grow Y, wr = g.x ∧ ∃ j : Nat, j ≤ row.length ∧ i = .int .i64 j) (fun i _ => row.length - (intOf i).toNat)
      case atStart => exact ⟨Grow.self Y, rfl, 0, Nat.zero_le _, rfl⟩
      case round =>
        obtain ⟨g, rfl, j, hj, rfl⟩ := hrel
        have hYg := g.h
        obtain ⟨U, hU⟩ : ∃ U, g.x = U := ⟨_, rfl⟩
        rw [hU] at hYg ⊢
        clear hU g
        have x1 := kept_cell (below_tr hVY.out hYg) X1.out
        have x2 := kept_cell (below_tr hVY.out hYg) X2.out
        have y1 := World.block_lt_of_cell? U ⟨b1, _, none⟩ x1
        have y2 := World.block_lt_of_cell? U ⟨b2, _, none⟩ x2
        simp only at y1 y2
        by_cases hjl : j < row.length
        · have hji : (j : Int) < (row.length : Int) := by omega
          obtain ⟨d1, p1, t1, hw1, hd1, -, s1l, s1h⟩ := sp_cells (hR1.out.mono (below_tr hVY.out hYg)) (k := j) hjl
          obtain ⟨d2, p2, t2, hw2, hd2, -, s2l, s2h⟩ := sp_cells (hR2.out.mono (below_tr hVY.out hYg)) (k := j) hjl
          obtain ⟨rfl, rfl⟩ : r1 = some ⟨d1, p1, none⟩ ∧ c1 = t1 := by simpa using hw1
          obtain ⟨rfl, rfl⟩ : r2 = some ⟨d2, p2, none⟩ ∧ c2 = t2 := by simpa using hw2
          generalize spAt row j = s at *
          have hgc := grow_cell U
          clear hw1 hw2
          go_wp2
          refine wp_region_grow (by kernel_rfl) (by kernel_rfl) ?_
          repeat (go_big_quiet_step (fail))
          refine wpQuiet_nil ?_
          rintro _ ⟨g, rfl⟩
          go_wp2
          obtain ⟨g3, hg3⟩ : ∃ g3 : Grow Y, g.x = g3.x := ⟨⟨g.x, below_tr hYg g.h⟩, rfl⟩
          exact ⟨⟨g3, hg3, j + 1, by omega, by go_num⟩, by simp [intOf]; omega⟩
        · obtain rfl : j = row.length := by omega
          go_wp2
          obtain ⟨g3, hg3⟩ : ∃ g3 : Grow w, U = g3.x := ⟨⟨U, below_tr hBY.out hYg⟩, rfl⟩
          exact ⟨⟨g3, hg3, k + 1, by omega, by go_num⟩, by simp [intOf]; omega⟩
    · obtain rfl : k = xs.length := by omega
      go_wp2
      go_ret
      exact ⟨rfl, g.h⟩
end Go.Proofs.Ytddmfkhmhdddeaa
