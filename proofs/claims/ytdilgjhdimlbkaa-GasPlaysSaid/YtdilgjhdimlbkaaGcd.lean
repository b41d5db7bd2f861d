/- Gas: walks: fractions in lowest terms: by a recursion (the reference), by a loop (the program). -/
import Derived.Test.YtdilgjhdimlbkaaA7
import Derived.BigRegion
set_option linter.unusedVariables false
set_option linter.unusedSimpArgs false
namespace Gas
/-- The greatest common divisor of two numbers that are not negative. -/
def gcdI (a b : Int) : Int := (Nat.gcd a.toNat b.toNat : Nat)
theorem gcdI_zero {a : Int} (h : 0 ≤ a) : gcdI a 0 = a := by simp [gcdI]; omega
theorem toNat_mod {a b : Int} (ha : 0 ≤ a) (hb : 0 < b) : (a % b).toNat = a.toNat % b.toNat := by
  obtain ⟨m, rfl⟩ := Int.eq_ofNat_of_zero_le ha
  obtain ⟨n, rfl⟩ := Int.eq_ofNat_of_zero_le (show 0 ≤ b by omega)
  simp only [Int.toNat_natCast]; omega
theorem gcdI_step {a b : Int} (ha : 0 ≤ a) (hb : 0 < b) : gcdI b (a % b) = gcdI a b := by
  unfold gcdI
  rw [toNat_mod ha hb, Nat.gcd_comm b.toNat, ← Nat.gcd_rec, Nat.gcd_comm]
theorem gcdI_pos {a b : Int} (h : 0 < b) : 0 < gcdI a b := by
  unfold gcdI
  have := Nat.gcd_pos_of_pos_right a.toNat (show 0 < b.toNat by omega)
  omega
theorem gcdI_comm (a b : Int) : gcdI a b = gcdI b a := by unfold gcdI; rw [Nat.gcd_comm]
theorem gcdI_le {a b : Int} (h : 0 < b) : gcdI a b ≤ b := by
  unfold gcdI
  have := Nat.gcd_le_right a.toNat (show 0 < b.toNat by omega)
  omega
/-- A fraction in lowest terms. -/
structure Fr where
  (n d : Int)
def frac (a b : Int) : Fr := ⟨a / gcdI a b, b / gcdI a b⟩
end Gas
namespace Go.Proofs.Ytdilgjhdimlbkaa
open Go.RowKit Go.Sd Gas
abbrev frV (f : Fr) : Value := .agg #[.int .i64 f.n, .int .i64 f.d]

set_option maxHeartbeats 2000000 in
theorem progReduced (a b : Int) (w : World) (ha : 0 ≤ a ∧ a ≤ 4000000000000000000) (hb : 0 < b ∧ b ≤ 4000000000000000000) :
    Calls Try.prog 33 #[.int .i64 a, .int .i64 b] w fun e w' => e = .returned (frV (frac a b)) ∧ Below w.heap.size w w' := by
  obtain ⟨W, hW⟩ : ∃ W, w.alloc (.cells #[.int .i64 0, .int .i64 0] 43) = W := ⟨_, rfl⟩
  obtain ⟨eW0, bW0, sW0⟩ := boxed hW
  have hBw : Below w.heap.size w W := bW0
  obtain ⟨zW0, rW0, tW0⟩ := row_cells eW0
  obtain ⟨qW0_0, qW0_1⟩ := rc2 eW0
  obtain ⟨fW0_0, fW0_1⟩ := rf2 eW0
  clear rW0 tW0 eW0
  have xW0 : w.heap.size ≤ w.heap.size := by omega
  clear bW0 sW0
  go_enter Try.func33, Try.ntmps33
  go_wp2
  go_loopw [5, 6] (fun x y wr => ∃ g : Grow W, wr = g.x ∧ ∃ p q : Int, x = .int .i64 p ∧ y = .int .i64 q ∧ (0 < p ∧ p ≤ 4000000000000000000) ∧ (0 ≤ q ∧ q ≤ 4000000000000000000) ∧ Hid (gcdI p q = gcdI a b)) (fun x y _ => (intOf y).toNat)
  case atStart => exact ⟨Grow.self W, rfl, b, a, rfl, rfl, hb, ha, gcdI_comm b a⟩
  case round =>
    obtain ⟨g, rfl, p, q, rfl, rfl, hp, hq, hpq⟩ := hrel
    have hg := grow_cell W
    have hgf := grow_frozen W
    by_cases h0 : q = 0
    · subst h0
      have hz := gcdI_zero (a := p) (by omega)
      rw [hz] at hpq
      have hf : Hid (frac a b = ⟨a / p, b / p⟩) := Lib.hid (by unfold frac; rw [← hpq.out])
      have hq1 : 0 ≤ a / p := Int.ediv_nonneg ha.1 (by omega)
      have hq2 : a / p ≤ a := Int.ediv_le_self _ ha.1
      have hq3 : 0 ≤ b / p := Int.ediv_nonneg (by omega) (by omega)
      have hq4 : b / p ≤ b := Int.ediv_le_self _ (by omega)
      clear hz hpq
      go_wp2
      go_region
      go_wp2
      refine bodyPost_ret (v := frV ⟨a / p, b / p⟩) (by simp [results, Try.results33, go_sem, *]) rfl ⟨by rw [hf.out], ?_⟩
      exact (((hBw.trans (g.h.mono hBw.size)).setCell (p := ⟨w.heap.size, 0, none⟩) (Nat.le_refl _) _).setCell (p := ⟨w.heap.size, 1, none⟩) (Nat.le_refl _) _).drew
    · have hm0 := Int.emod_nonneg p h0
      have hm1 := Int.emod_lt_of_pos p (show 0 < q by omega)
      have hs := gcdI_step (a := p) (b := q) (by omega) (by omega)
      have hs2 : Hid (gcdI q (p % q) = gcdI a b) := Lib.hid (hs.trans hpq.out)
      clear hs hpq
      go_wp2
      go_region
      go_wp2
      obtain ⟨g2, hg2⟩ := g.next (Below.refl g.x.heap.size g.x).drew
      exact ⟨⟨g2, hg2, q, p % q, rfl, rfl, by omega, by omega, hs2⟩, by simp [intOf]; omega⟩
end Go.Proofs.Ytdilgjhdimlbkaa
