/- The plain law of balances: what is true agrees, lies within the bounds, and is among the suspects (no Go in sight). -/
import Derived.Test.YtddmfkhmhdddeaaBnl
import Derived.Test.YtddmfkhmhdddeaaRTh
import Derived.Test.YtddmfkhmhdddeaaRCo
set_option linter.unusedVariables false
set_option linter.unusedSimpArgs false
namespace Lk
theorem truthB_iff {b : Bk} {xs : List Int} {ys : List (List Int)} (h : b.truthB xs ys = true) : xs.length = b.first.length ∧ ys.length = b.flows.length ∧
    (∀ i, i < xs.length → (spAt b.first i).lo ≤ at0 xs i ∧ at0 xs i ≤ (spAt b.first i).hi) ∧
    ∀ d, d < ys.length → (lstAt ys d).length = xs.length ∧ ∀ i, i < xs.length → (b.flowAt d i).lo ≤ at0 (lstAt ys d) i ∧ at0 (lstAt ys d) i ≤ (b.flowAt d i).hi := by
  simp only [Bk.truthB, Bool.and_eq_true, decide_eq_true_eq, List.all_eq_true, List.mem_range, inB_iff, Bk.flowT] at h
  exact h
theorem conL_at {g : Gs} {xs : List Int} {ys : List (List Int)} {n d : Nat} (h : d < n) : lstAt (conL g xs ys n) d = rowC g xs ys (d + 1) := by simp [lstAt, conL, h]
theorem rowC_at {g : Gs} {xs : List Int} {ys : List (List Int)} {i k : Nat} (h : i < xs.length) : at0 (rowC g xs ys k) i = conN g xs ys i k := at0_range h
theorem truth_of {b : Bk} (ok : Ok b) {g : Gs} {xs : List Int} {ys : List (List Int)} (hT : b.truthB xs ys = true) (hH : b.holdsB (conL g xs ys ys.length) = true) {z : Nat} (hz : z < b.first.length) : TruthZ b g z (conN g xs ys z) := by
  obtain ⟨h1, h2, h3, h4⟩ := truthB_iff hT
  refine ⟨fun k hk => ?_, fun x hx => ?_⟩
  · have := (h4 k (by omega)).2 z (by omega)
    simp only [conN, Bk.comes]
    omega
  · rcases mem_allK_iff.1 hx with rfl | ⟨r, hr, hrz, rfl⟩
    · have := h3 z (by omega)
      simpa [conN] using this
    · have hd := rd_day ok hr
      rw [Bk.holdsB, List.all_eq_true] at hH
      have := hH r hr
      rw [Bk.holdB, inB_iff, conL_at (by omega), hrz, Int.toNat_natCast, rowC_at (by omega)] at this
      simp only
      rw [show (r.day + 1).toNat = r.day.toNat + 1 by omega]
      exact this
section
variable {b : Bk} {g : Gs} {xs : List Int} {ys : List (List Int)}
theorem true_agree (ok : Ok b) (hT : b.truthB xs ys = true) (hH : b.holdsB (conL g xs ys ys.length) = true) : b.agreeB g = true := by
  rw [Bk.agreeB, List.all_eq_true]
  intro z hz
  exact truth_zone ok (List.mem_range.1 hz) (truth_of ok hT hH (List.mem_range.1 hz))
theorem true_bnd (ok : Ok b) (hT : b.truthB xs ys = true) (hH : b.holdsB (conL g xs ys ys.length) = true) {z d : Nat} (hz : z < b.first.length) (hd : d < b.flows.length) : (b.bnd g z d).lo ≤ conN g xs ys z (d + 1) ∧ conN g xs ys z (d + 1) ≤ (b.bnd g z d).hi :=
  truth_bnd ok hz hd (truth_of ok hT hH hz)
/-- A leak that agrees is among the suspects. -/
theorem agree_sus (ok : Ok b) (hg : b.gsB g = true) (hz : 0 ≤ g.zone) (h : b.agreeB g = true) : ∃ x, x ∈ b.susL ∧ x.zone = g.zone ∧ x.since = g.since ∧ x.s.lo ≤ g.size ∧ g.size ≤ x.s.hi := by
  have hgs : g.zone < b.first.length ∧ (1 ≤ g.size ∧ g.size ≤ 10000000) ∧ (0 ≤ g.since ∧ g.since < b.flows.length) := by
    simp only [Bk.gsB, Bool.or_eq_true, decide_eq_true_eq, Bool.and_eq_true, inB_iff] at hg
    rcases hg with rfl | hg
    · simp [noGs] at hz
    · omega
  obtain ⟨gz, n, since⟩ := g
  simp only at hz hgs ⊢
  obtain ⟨z, rfl⟩ : ∃ z : Nat, gz = z := ⟨gz.toNat, by omega⟩
  obtain ⟨t, rfl⟩ : ∃ t : Nat, since = t := ⟨since.toNat, by omega⟩
  have hs := (sizes_agree ok (show z < b.first.length by omega) hgs.2.2.1 hgs.2.1).2 h
  exact ⟨⟨z, t, b.sizesK z t⟩, mem_susL.2 ⟨z, t, by omega, by omega, by omega, rfl⟩, rfl, rfl, hs.1, hs.2⟩
/-- A leak is certain just if no guess without one agrees, where some guess agrees. -/
theorem agree_cert (ok : Ok b) (hg : b.gsB g = true) (h : b.agreeB g = true) : b.certB = !b.agreeB noGs := by
  cases hn : b.agreeB noGs
  · have hz : 0 ≤ g.zone := by
      simp only [Bk.gsB, Bool.or_eq_true, decide_eq_true_eq, Bool.and_eq_true, inB_iff] at hg
      rcases hg with rfl | hg
      · rw [hn] at h; cases h
      · omega
    obtain ⟨x, hx, -⟩ := agree_sus ok hg hz h
    have : 0 < b.susL.length := List.length_pos_of_mem hx
    simp [Bk.certB, hn, this]
  · simp [Bk.certB, hn]
theorem conN_bd (ok : Ok b) (hg : b.gsB g = true) (hT : b.truthB xs ys = true) {i : Nat} (hi : i < b.first.length) : ∀ d, d ≤ ys.length → -1000000000 - 110000000 * (d : Int) ≤ conN g xs ys i d ∧ conN g xs ys i d ≤ 1000000000 + 110000000 * (d : Int)
  | 0, _ => by
    obtain ⟨h1, h2, h3, h4⟩ := truthB_iff hT
    have := h3 i (by omega)
    have := ok.first i hi
    simp only [conN]; omega
  | d + 1, hd => by
    have ih := conN_bd ok hg hT hi d (by omega)
    obtain ⟨h1, h2, h3, h4⟩ := truthB_iff hT
    have a := (h4 d (by omega)).2 i (by omega)
    have f := ok.flows d i (by omega) hi
    have hl : 0 ≤ lost g i d ∧ lost g i d ≤ 10000000 := by
      have hsz : 0 ≤ g.size ∧ g.size ≤ 10000000 := by
        simp only [Bk.gsB, Bool.or_eq_true, decide_eq_true_eq, Bool.and_eq_true, inB_iff] at hg
        rcases hg with rfl | hg
        · simp [noGs]
        · omega
      unfold lost; split <;> omega
    unfold Bk.flowAt at a
    simp only [conN]; push_cast; omega
end
end Lk
