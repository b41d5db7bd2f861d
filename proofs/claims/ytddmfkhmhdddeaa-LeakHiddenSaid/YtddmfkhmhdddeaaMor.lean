/- The plain law of more readings: a reading more never adds a suspect, nor a size (no Go in sight). -/
import Derived.Test.YtddmfkhmhdddeaaSzl
import Derived.Test.YtddmfkhmhdddeaaCer
set_option linter.unusedVariables false
set_option linter.unusedSimpArgs false
namespace Lk
/-- A book with a reading more. -/
def Bk.more (b : Bk) (r : Rd) : Bk := ⟨b.first, b.flows, b.reads ++ [r]⟩
theorem more_allK {b : Bk} {r : Rd} {z : Nat} {x : Kn} (h : x ∈ b.allK z) : x ∈ (b.more r).allK z := by
  rcases mem_allK_iff.1 h with h | ⟨q, hq, hz, rfl⟩
  · exact mem_allK_iff.2 (.inl h)
  · exact mem_allK_iff.2 (.inr ⟨q, List.mem_append_left _ hq, hz, rfl⟩)
theorem more_cum {b : Bk} {r : Rd} {g : Gs} {z : Nat} : ∀ k, (b.more r).cumLo g z k = b.cumLo g z k ∧ (b.more r).cumHi g z k = b.cumHi g z k
  | 0 => ⟨rfl, rfl⟩
  | k + 1 => by
    obtain ⟨h1, h2⟩ := more_cum (b := b) (r := r) (g := g) (z := z) k
    simp only [Bk.cumLo, Bk.cumHi, h1, h2]
    exact ⟨rfl, rfl⟩
theorem more_pair {b : Bk} {r : Rd} {g : Gs} {z : Nat} {x y : Kn} : (b.more r).pairOk g z x y ↔ b.pairOk g z x y := by
  unfold Bk.pairOk
  rw [(more_cum _).1, (more_cum _).1, (more_cum _).2, (more_cum _).2]
theorem more_zone {b : Bk} (ok : Ok b) {r : Rd} (ok2 : Ok (b.more r)) {g : Gs} {z : Nat} (hz : z < b.first.length) (h : (b.more r).zoneB g z = true) : b.zoneB g z = true := by
  rw [zone_pairs ok2 (show z < (b.more r).first.length from hz)] at h
  rw [zone_pairs ok hz]
  intro x y hx hy hd
  exact more_pair.1 (h x y (more_allK hx) (more_allK hy) hd)
theorem more_agree {b : Bk} (ok : Ok b) {r : Rd} (ok2 : Ok (b.more r)) {g : Gs} (h : (b.more r).agreeB g = true) : b.agreeB g = true := by
  rw [Bk.agreeB, List.all_eq_true] at h ⊢
  intro z hz
  exact more_zone ok ok2 (List.mem_range.1 hz) (h z hz)
theorem mem_susL {b : Bk} {x : Su} : x ∈ b.susL ↔ ∃ z t, z < b.first.length ∧ t < b.flows.length ∧ (b.sizesK z t).lo ≤ (b.sizesK z t).hi ∧ x = ⟨z, t, b.sizesK z t⟩ := by
  unfold Bk.susL Bk.susTo
  simp only [List.range_zero, List.filterMap_nil, List.append_nil, List.mem_flatMap, List.mem_filterMap, List.mem_range, Bk.sus]
  constructor
  · rintro ⟨z, hz, t, ht, h⟩
    split at h
    · rename_i hs; cases h; exact ⟨z, t, hz, ht, hs, rfl⟩
    · cases h
  · rintro ⟨z, t, hz, ht, hs, rfl⟩
    exact ⟨z, hz, t, ht, by rw [if_pos hs]⟩
/-- A suspect of the book with a reading more is one without it, with no fewer sizes. -/
theorem more_sus {b : Bk} (ok : Ok b) {r : Rd} (ok2 : Ok (b.more r)) {x : Su} (h : x ∈ (b.more r).susL) : ∃ y, y ∈ b.susL ∧ y.zone = x.zone ∧ y.since = x.since ∧ y.s.lo ≤ x.s.lo ∧ x.s.hi ≤ y.s.hi := by
  obtain ⟨z, t, hz, ht, hs, rfl⟩ := mem_susL.1 h
  have hz' : z < b.first.length := hz
  have ht' : t < b.flows.length := ht
  have hr := sizes_range hs
  have key : ∀ n, 1 ≤ n ∧ n ≤ 10000000 → ((b.more r).sizesK z t).lo ≤ n ∧ n ≤ ((b.more r).sizesK z t).hi → (b.sizesK z t).lo ≤ n ∧ n ≤ (b.sizesK z t).hi := by
    intro n hn h
    exact (sizes_agree ok hz' (by omega) hn).2 (more_agree ok ok2 ((sizes_agree ok2 hz (by omega) hn).1 h))
  have h1 := key _ (show 1 ≤ ((b.more r).sizesK z t).lo ∧ ((b.more r).sizesK z t).lo ≤ 10000000 by omega) ⟨Int.le_refl _, hs⟩
  have h2 := key _ (show 1 ≤ ((b.more r).sizesK z t).hi ∧ ((b.more r).sizesK z t).hi ≤ 10000000 by omega) ⟨hs, Int.le_refl _⟩
  exact ⟨⟨z, t, b.sizesK z t⟩, mem_susL.2 ⟨z, t, hz', ht', by omega, rfl⟩, rfl, rfl, h1.1, h2.2⟩
/-- A certain leak stays certain, as long as some guess agrees. -/
theorem more_cert {b : Bk} (ok : Ok b) {r : Rd} (ok2 : Ok (b.more r)) (h : b.certB = true) (h2 : 0 < (b.more r).susL.length) : (b.more r).certB = true := by
  simp only [Bk.certB, Bool.and_eq_true, Bool.not_eq_true', decide_eq_true_eq] at h ⊢
  refine ⟨?_, h2⟩
  cases hc : (b.more r).agreeB noGs
  · rfl
  · rw [more_agree ok ok2 hc] at h; exact absurd h.1 (by simp)
end Lk
