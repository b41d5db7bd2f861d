/- Gas: walks of the numbers: pressures, heats, shares, temperatures. -/
import Derived.Test.YtdilgjhdimlbkaaA1
set_option linter.unusedVariables false
set_option linter.unusedSimpArgs false
namespace Go.Proofs.Ytdilgjhdimlbkaa
open Go.RowKit Go.Sd Gas

theorem int_ret {k : IntKind} {a b : Int} (h : a = b) : Ending.returned (.int k a) = .returned (.int k b) := by rw [h]
theorem bd_mul {a b A B : Int} (ha : 0 ≤ a ∧ a ≤ A) (hb : 0 ≤ b ∧ b ≤ B) : 0 ≤ a * b ∧ a * b ≤ A * B :=
  ⟨Int.mul_nonneg ha.1 hb.1, Int.mul_le_mul ha.2 hb.2 hb.1 (by omega)⟩

/-- The bounds of a content for the pressure. -/
theorem force_bd {c : Cav} {p : Pt} (hc : c.Ok) (hg : 0 ≤ p.g ∧ p.g ≤ 1000000) (hy : 0 ≤ p.y ∧ p.y ≤ 1000000) (ht : 0 ≤ p.t ∧ p.t ≤ 5000) :
    (0 ≤ p.g * c.f0 ∧ p.g * c.f0 ≤ 2000000000) ∧ (0 ≤ p.y * c.f1 ∧ p.y * c.f1 ≤ 2000000000) ∧ (0 ≤ (p.g * c.f0 + p.y * c.f1) * p.t ∧ (p.g * c.f0 + p.y * c.f1) * p.t ≤ 20000000000000) := by
  have a := bd_mul (B := 2000) hg ⟨by have := hc.f0; omega, hc.f0.2⟩
  have b := bd_mul (B := 2000) hy ⟨by have := hc.f1; omega, hc.f1.2⟩
  have d := bd_mul (A := 4000000000) (B := 5000) (a := p.g * c.f0 + p.y * c.f1) ⟨by omega, by omega⟩ ht
  exact ⟨⟨a.1, by omega⟩, ⟨b.1, by omega⟩, ⟨d.1, by omega⟩⟩

set_option maxHeartbeats 1000000 in
theorem progPress (c : Cav) (p : Pt) (v : Int) (w : World) (hc : c.Ok) (hg : 0 ≤ p.g ∧ p.g ≤ 1000000) (hy : 0 ≤ p.y ∧ p.y ≤ 1000000) (ht : 0 ≤ p.t ∧ p.t ≤ 5000) (hv : 0 ≤ v ∧ v ≤ 1000000) :
    Calls Try.prog 30 #[cavV c, ptV p, .int .i64 v] w fun e w' => e = .returned (.tuple #[.int .i64 (force c p), .int .i64 (v * 10000000)]) ∧ Below w.heap.size w w' := by
  obtain ⟨b1, b2, b3⟩ := force_bd hc hg hy ht
  obtain ⟨W1, hW1⟩ : ∃ W1, w.alloc (.cells #[.int .i64 c.vlo, .int .i64 c.vhi, .int .i64 c.least, .int .i64 c.most, .int .i64 c.f0, .int .i64 c.f1, .int .i64 c.h0, .int .i64 c.h1, .int .i64 c.rock, .int .i64 c.plo, .int .i64 c.phi] 59) = W1 := ⟨_, rfl⟩
  obtain ⟨eW0, bW0, sW0⟩ := boxed hW1
  obtain ⟨W, hW⟩ : ∃ W, W1.alloc (.cells #[.int .i64 p.g, .int .i64 p.y, .int .i64 p.t, .int .i64 p.w] 28) = W := ⟨_, rfl⟩
  obtain ⟨eW1, bW1, sW1⟩ := boxed hW
  replace eW0 := (bW1.block _ (Array.getElem?_eq_some_iff.1 eW0).1).trans eW0
  have hBw : Below w.heap.size w W := (by have := sW0; have := sW1; exact (bW0.trans (bW1.mono (by omega))))
  obtain ⟨zW0, rW0, tW0⟩ := row_cells eW0
  obtain ⟨qW0_0, qW0_1, qW0_2, qW0_3, qW0_4, qW0_5, qW0_6, qW0_7, qW0_8, qW0_9, qW0_10⟩ := rc11 eW0
  clear rW0 tW0 eW0
  obtain ⟨zW1, rW1, tW1⟩ := row_cells eW1
  obtain ⟨qW1_0, qW1_1, qW1_2, qW1_3⟩ := rc4 eW1
  clear rW1 tW1 eW1
  have xW0 : w.heap.size ≤ w.heap.size := by omega
  have xW1 : w.heap.size ≤ W1.heap.size := by omega
  clear bW0 sW0 bW1 sW1
  go_enter Try.func30, Try.ntmps30
  go_wp2
  go_ret2
  exact ⟨rfl, hBw⟩

/-- The bounds of the shares. -/
theorem share_bd {c : Cav} {s : St} (hc : c.Ok) (hs : s.Ok) :
    (0 ≤ c.plo * (s.ghi + s.ylo) ∧ c.plo * (s.ghi + s.ylo) ≤ 2000000000) ∧ (0 ≤ c.phi * (s.glo + s.yhi) ∧ c.phi * (s.glo + s.yhi) ≤ 2000000000) := by
  have := hs.g; have := hs.y; have := hc.pur
  have a := bd_mul (A := 1000) (B := 2000000) (a := c.plo) (b := s.ghi + s.ylo) ⟨by omega, by omega⟩ ⟨by omega, by omega⟩
  have b := bd_mul (A := 1000) (B := 2000000) (a := c.phi) (b := s.glo + s.yhi) ⟨by omega, by omega⟩ ⟨by omega, by omega⟩
  exact ⟨⟨a.1, by omega⟩, ⟨b.1, by omega⟩⟩
theorem gas_bd {s : St} (hs : s.Ok) : (0 ≤ s.glo ∧ s.glo ≤ 1000000) ∧ (0 ≤ s.ghi ∧ s.ghi ≤ 1000000) ∧ (0 ≤ s.ylo ∧ s.ylo ≤ 1000000) ∧ (0 ≤ s.yhi ∧ s.yhi ≤ 1000000) := by
  have := hs.g; have := hs.y
  exact ⟨⟨by omega, by omega⟩, ⟨by omega, by omega⟩, ⟨by omega, by omega⟩, ⟨by omega, by omega⟩⟩

set_option maxHeartbeats 1000000 in
theorem refPart (m n d : Int) (w : World) (h0 : 0 ≤ m * n ∧ m * n ≤ 1000000000000000000) (hd : 0 ≤ d ∧ d ≤ 1000000000000) :
    Calls Try.prog 42 #[.int .i64 m, .int .i64 n, .int .i64 d] w fun e w' => e = .returned (.int .i64 (Gas.part m n d)) ∧ w = w' := by
  by_cases hz : d = 0
  · subst hz
    go_enter Try.func42, Try.ntmps42
    go_wp2
    go_ret
    exact ⟨int_ret (by simp [Gas.part]), rfl⟩
  · have hq : Gas.part m n d = m * n / d := by unfold Gas.part; rw [if_neg hz]
    have hq0 : 0 ≤ m * n / d := Int.ediv_nonneg h0.1 hd.1
    have hq1 : m * n / d ≤ m * n := Int.ediv_le_self _ h0.1
    replace hq := Lib.hid hq
    have ht : (m * n).tdiv d = m * n / d := Int.tdiv_eq_ediv_of_nonneg h0.1
    replace ht := Lib.hid ht
    go_enter Try.func42, Try.ntmps42
    go_wp2
    go_ret
    exact ⟨int_ret (by rw [hq.out]), rfl⟩
set_option maxHeartbeats 1000000 in
theorem progPart (m n d : Int) (w : World) (h0 : 0 ≤ m * n ∧ m * n ≤ 1000000000000000000) (hd : 0 ≤ d ∧ d ≤ 1000000000000) :
    Calls Try.prog 39 #[.int .i64 m, .int .i64 n, .int .i64 d] w fun e w' => e = .returned (.int .i64 (Gas.part m n d)) ∧ w = w' := by
  by_cases hz : d = 0
  · subst hz
    go_enter Try.func39, Try.ntmps39
    go_wp2
    go_ret
    exact ⟨int_ret (by simp [Gas.part]), rfl⟩
  · have hq : Gas.part m n d = m * n / d := by unfold Gas.part; rw [if_neg hz]
    have hq0 : 0 ≤ m * n / d := Int.ediv_nonneg h0.1 hd.1
    have hq1 : m * n / d ≤ m * n := Int.ediv_le_self _ h0.1
    replace hq := Lib.hid hq
    have ht : (m * n).tdiv d = m * n / d := Int.tdiv_eq_ediv_of_nonneg h0.1
    replace ht := Lib.hid ht
    go_enter Try.func39, Try.ntmps39
    go_wp2
    go_ret
    exact ⟨int_ret (by rw [hq.out]), rfl⟩

theorem heat_bd {c : Cav} {p : Pt} (hc : c.Ok) (hg : 0 ≤ p.g ∧ p.g ≤ 100000000) (hy : 0 ≤ p.y ∧ p.y ≤ 100000000) :
    (0 ≤ p.g * c.h0 ∧ p.g * c.h0 ≤ 10000000000) ∧ (0 ≤ p.y * c.h1 ∧ p.y * c.h1 ≤ 10000000000) := by
  have a := bd_mul (B := 100) hg ⟨by have := hc.h0; omega, hc.h0.2⟩
  have b := bd_mul (B := 100) hy ⟨by have := hc.h1; omega, hc.h1.2⟩
  exact ⟨⟨a.1, by omega⟩, ⟨b.1, by omega⟩⟩
set_option maxHeartbeats 1000000 in
theorem refHeat (c : Cav) (p : Pt) (w : World) (hc : c.Ok) (hg : 0 ≤ p.g ∧ p.g ≤ 100000000) (hy : 0 ≤ p.y ∧ p.y ≤ 100000000) :
    Calls Try.prog 41 #[cavV c, ptV p] w fun e w' => e = .returned (.int .i64 (heat c p)) ∧ Below w.heap.size w w' := by
  obtain ⟨b1, b2⟩ := heat_bd hc hg hy
  obtain ⟨W1, hW1⟩ : ∃ W1, w.alloc (.cells #[.int .i64 c.vlo, .int .i64 c.vhi, .int .i64 c.least, .int .i64 c.most, .int .i64 c.f0, .int .i64 c.f1, .int .i64 c.h0, .int .i64 c.h1, .int .i64 c.rock, .int .i64 c.plo, .int .i64 c.phi] 26) = W1 := ⟨_, rfl⟩
  obtain ⟨eW0, bW0, sW0⟩ := boxed hW1
  obtain ⟨W, hW⟩ : ∃ W, W1.alloc (.cells #[.int .i64 p.g, .int .i64 p.y, .int .i64 p.t, .int .i64 p.w] 28) = W := ⟨_, rfl⟩
  obtain ⟨eW1, bW1, sW1⟩ := boxed hW
  replace eW0 := (bW1.block _ (Array.getElem?_eq_some_iff.1 eW0).1).trans eW0
  have hBw : Below w.heap.size w W := (by have := sW0; have := sW1; exact (bW0.trans (bW1.mono (by omega))))
  obtain ⟨zW0, rW0, tW0⟩ := row_cells eW0
  obtain ⟨qW0_0, qW0_1, qW0_2, qW0_3, qW0_4, qW0_5, qW0_6, qW0_7, qW0_8, qW0_9, qW0_10⟩ := rc11 eW0
  clear rW0 tW0 eW0
  obtain ⟨zW1, rW1, tW1⟩ := row_cells eW1
  obtain ⟨qW1_0, qW1_1, qW1_2, qW1_3⟩ := rc4 eW1
  clear rW1 tW1 eW1
  have xW0 : w.heap.size ≤ w.heap.size := by omega
  have xW1 : w.heap.size ≤ W1.heap.size := by omega
  clear bW0 sW0 bW1 sW1
  go_enter Try.func41, Try.ntmps41
  go_wp2
  go_ret
  exact ⟨int_ret rfl, hBw⟩
set_option maxHeartbeats 2000000 in
theorem refWarm (c : Cav) (h t : Int) (l : Pt) (w : World) (hc : c.Ok) (hh : 0 ≤ h ∧ h ≤ 20000000000) (ht : 0 ≤ t ∧ t ≤ 5000) (hg : 0 ≤ l.g ∧ l.g ≤ 100000000) (hy : 0 ≤ l.y ∧ l.y ≤ 100000000) (hlt : 0 ≤ l.t ∧ l.t ≤ 5000) :
    Calls Try.prog 40 #[cavV c, .int .i64 h, .int .i64 t, ptV l] w fun e w' => e = .returned (.int .i64 (warm h t (heat c l) l.t)) ∧ Below w.heap.size w w' := by
  have hb := heat_bd hc hg hy
  have hL : 0 ≤ heat c l ∧ heat c l ≤ 20000000000 := by unfold heat; omega
  have hH := fun w' => refHeat c l w' hc hg hy
  have m1 := bd_mul hh ht
  have m2 := bd_mul hL hlt
  generalize heat c l = L at *
  clear hb hg hy hc
  obtain ⟨W1, hW1⟩ : ∃ W1, w.alloc (.cells #[.int .i64 c.vlo, .int .i64 c.vhi, .int .i64 c.least, .int .i64 c.most, .int .i64 c.f0, .int .i64 c.f1, .int .i64 c.h0, .int .i64 c.h1, .int .i64 c.rock, .int .i64 c.plo, .int .i64 c.phi] 26) = W1 := ⟨_, rfl⟩
  obtain ⟨eW0, bW0, sW0⟩ := boxed hW1
  obtain ⟨W, hW⟩ : ∃ W, W1.alloc (.cells #[.int .i64 l.g, .int .i64 l.y, .int .i64 l.t, .int .i64 l.w] 28) = W := ⟨_, rfl⟩
  obtain ⟨eW1, bW1, sW1⟩ := boxed hW
  replace eW0 := (bW1.block _ (Array.getElem?_eq_some_iff.1 eW0).1).trans eW0
  have hBw : Below w.heap.size w W := (by have := sW0; have := sW1; exact (bW0.trans (bW1.mono (by omega))))
  obtain ⟨zW0, rW0, tW0⟩ := row_cells eW0
  obtain ⟨qW0_0, qW0_1, qW0_2, qW0_3, qW0_4, qW0_5, qW0_6, qW0_7, qW0_8, qW0_9, qW0_10⟩ := rc11 eW0
  clear rW0 tW0 eW0
  obtain ⟨zW1, rW1, tW1⟩ := row_cells eW1
  obtain ⟨qW1_0, qW1_1, qW1_2, qW1_3⟩ := rc4 eW1
  clear rW1 tW1 eW1
  have xW0 : w.heap.size ≤ w.heap.size := by omega
  have xW1 : w.heap.size ≤ W1.heap.size := by omega
  clear bW0 sW0 bW1 sW1
  have hg := grow_cell W
  by_cases hz : h + L = 0
  · have hw : warm h t L l.t = t := by unfold warm; rw [if_pos hz]
    replace hw := Lib.hid hw
    obtain rfl : h = 0 := by omega
    obtain rfl : L = 0 := by omega
    clear hz m1 m2
    go_enter Try.func40, Try.ntmps40
    go_wp2_with (go_at_call 41; refine Calls.mono (hH _) ?_; rintro e w1 ⟨rfl, hB⟩; (first | (obtain ⟨g, rfl⟩ := g.next hB) | (obtain ⟨g, rfl⟩ : ∃ g : Grow W, w1 = g.x := ⟨⟨w1, hB⟩, rfl⟩)); clear hB)
    go_ret
    exact ⟨int_ret hw.out.symm, hBw.trans (g.h.mono hBw.size)⟩
  · have hw : warm h t L l.t = (h * t + L * l.t) / (h + L) := by unfold warm; rw [if_neg hz]
    have hq0 : 0 ≤ (h * t + L * l.t) / (h + L) := Int.ediv_nonneg (by omega) (by omega)
    have hq1 : (h * t + L * l.t) / (h + L) ≤ h * t + L * l.t := Int.ediv_le_self _ (by omega)
    replace hw := Lib.hid hw
    go_enter Try.func40, Try.ntmps40
    go_wp2_with (go_at_call 41; refine Calls.mono (hH _) ?_; rintro e w1 ⟨rfl, hB⟩; (first | (obtain ⟨g, rfl⟩ := g.next hB) | (obtain ⟨g, rfl⟩ : ∃ g : Grow W, w1 = g.x := ⟨⟨w1, hB⟩, rfl⟩)); clear hB)
    go_ret
    exact ⟨int_ret hw.out.symm, hBw.trans (g.h.mono hBw.size)⟩
set_option maxHeartbeats 2000000 in
theorem refNear (c : Cav) (t s : Int) (w : World) (hc : c.Ok) (ht : 2000 ≤ t ∧ t ≤ 5000) (hs : 0 ≤ s ∧ s ≤ 1000) :
    Calls Try.prog 43 #[cavV c, .int .i64 t, .int .i64 s] w fun e w' => e = .returned (.int .i64 (near c.rock t s)) ∧ Below w.heap.size w w' := by
  have hr := hc.rock
  have m1 : -3000000 ≤ (c.rock - t) * s ∧ (c.rock - t) * s ≤ 3000000 := by
    have a := Int.mul_le_mul_of_nonneg_right (show c.rock - t ≤ 3000 by omega) hs.1
    have b := Int.mul_le_mul_of_nonneg_right (show -3000 ≤ c.rock - t by omega) hs.1
    omega
  have hn : Hid (near c.rock t s = t + ((c.rock - t) * s).tdiv 1000) := by unfold near; exact rfl
  have hq : -3000 ≤ ((c.rock - t) * s).tdiv 1000 ∧ ((c.rock - t) * s).tdiv 1000 ≤ 3000 := by rw [tdiv_k]; split <;> omega
  obtain ⟨W, hW⟩ : ∃ W, w.alloc (.cells #[.int .i64 c.vlo, .int .i64 c.vhi, .int .i64 c.least, .int .i64 c.most, .int .i64 c.f0, .int .i64 c.f1, .int .i64 c.h0, .int .i64 c.h1, .int .i64 c.rock, .int .i64 c.plo, .int .i64 c.phi] 26) = W := ⟨_, rfl⟩
  obtain ⟨eW0, bW0, sW0⟩ := boxed hW
  have hBw : Below w.heap.size w W := bW0
  obtain ⟨zW0, rW0, tW0⟩ := row_cells eW0
  obtain ⟨qW0_0, qW0_1, qW0_2, qW0_3, qW0_4, qW0_5, qW0_6, qW0_7, qW0_8, qW0_9, qW0_10⟩ := rc11 eW0
  clear rW0 tW0 eW0
  have xW0 : w.heap.size ≤ w.heap.size := by omega
  clear bW0 sW0
  go_enter Try.func43, Try.ntmps43
  go_wp2
  go_ret
  exact ⟨int_ret hn.out.symm, hBw⟩
end Go.Proofs.Ytdilgjhdimlbkaa
