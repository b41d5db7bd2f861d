/- The plain law of readings that tell: the reading that tells two guesses apart agrees with the true one alone (no Go in sight). -/
import Derived.Test.YtddmfkhmhdddeaaTru
set_option linter.unusedVariables false
set_option linter.unusedSimpArgs false
namespace Lk
theorem bnd_lo {b : Bk} (ok : Ok b) {g : Gs} {z d : Nat} (hz : z < b.first.length) (hd : d < b.flows.length) (y : Int) : (b.bnd g z d).lo ≤ y ↔ ∀ x, x ∈ b.allK z →
    (x.day ≤ (d : Int) → x.v.lo + (b.cumLo g z (d + 1) - b.cumLo g z (x.day + 1).toNat) ≤ y) ∧ ((d : Int) < x.day → x.v.lo ≤ y + (b.cumHi g z (x.day + 1).toNat - b.cumHi g z (d + 1))) := by
  have h1 := bwd_lo ok (g := g) hz (b.flows.length - 1 - d) (by omega) y
  rw [show b.flows.length - (b.flows.length - 1 - d) = d + 1 by omega] at h1
  unfold Bk.bnd
  rw [h1]
  constructor
  · intro a x hx
    have a' := a x hx
    exact ⟨fun h => by have := a'.1 (by omega); omega, fun h => by have := a'.2 (by omega); omega⟩
  · intro h x hx
    have h' := h x hx
    exact ⟨fun hd => by have := h'.1 (by omega); omega, fun hd => by have := h'.2 (by omega); omega⟩
theorem bnd_hi {b : Bk} (ok : Ok b) {g : Gs} {z d : Nat} (hz : z < b.first.length) (hd : d < b.flows.length) (y : Int) : y ≤ (b.bnd g z d).hi ↔ ∀ x, x ∈ b.allK z →
    (x.day ≤ (d : Int) → y ≤ x.v.hi + (b.cumHi g z (d + 1) - b.cumHi g z (x.day + 1).toNat)) ∧ ((d : Int) < x.day → y + (b.cumLo g z (x.day + 1).toNat - b.cumLo g z (d + 1)) ≤ x.v.hi) := by
  have h1 := bwd_hi ok (g := g) hz (b.flows.length - 1 - d) (by omega) y
  rw [show b.flows.length - (b.flows.length - 1 - d) = d + 1 by omega] at h1
  unfold Bk.bnd
  rw [h1]
  constructor
  · intro a x hx
    have a' := a x hx
    exact ⟨fun h => by have := a'.1 (by omega); omega, fun h => by have := a'.2 (by omega); omega⟩
  · intro h x hx
    have h' := h x hx
    exact ⟨fun hd => by have := h'.1 (by omega); omega, fun hd => by have := h'.2 (by omega); omega⟩
/-- A reading more with which a zone agrees meets the bounds. -/
theorem more_meets {b : Bk} (ok : Ok b) {g : Gs} {z d : Nat} {s : Sp} (ok2 : Ok (b.more ⟨d, z, s⟩)) (hz : z < b.first.length) (hd : d < b.flows.length) (h : (b.more ⟨d, z, s⟩).zoneB g z = true) :
    (b.bnd g z d).lo ≤ s.hi ∧ s.lo ≤ (b.bnd g z d).hi := by
  rw [zone_pairs ok2 (show z < (b.more ⟨d, z, s⟩).first.length from hz)] at h
  have hn : (⟨(d : Int), s⟩ : Kn) ∈ (b.more ⟨d, z, s⟩).allK z := more_allK_iff.2 (.inr ⟨rfl, rfl⟩)
  have key : ∀ x, x ∈ b.allK z → (x.day ≤ (d : Int) → b.pairOk g z x ⟨d, s⟩) ∧ ((d : Int) < x.day → b.pairOk g z ⟨d, s⟩ x) := fun x hx =>
    ⟨fun hxd => more_pair.1 (h x _ (more_allK hx) hn hxd), fun hxd => more_pair.1 (h _ x hn (more_allK hx) (Int.le_of_lt hxd))⟩
  unfold Bk.pairOk at key
  simp only at key
  rw [show ((d : Int) + 1).toNat = d + 1 by omega] at key
  refine ⟨(bnd_lo ok hz hd _).2 fun x hx => ?_, (bnd_hi ok hz hd _).2 fun x hx => ?_⟩
  · have k := key x hx
    exact ⟨fun hxd => by have := k.1 hxd; omega, fun hxd => by have := k.2 hxd; omega⟩
  · have k := key x hx
    exact ⟨fun hxd => by have := k.1 hxd; omega, fun hxd => by have := k.2 hxd; omega⟩
theorem more_err {b : Bk} {r : Rd} (h : b.err true = 0) (hl : b.reads.length < 40) (hr : b.rdB r = true) : (b.more r).err true = 0 := by
  obtain ⟨h1, h2, -⟩ := err_zero h
  have hb : (b.more r).bookB = true := by
    unfold Bk.bookB at h2 ⊢
    have e : (b.more r).reads.all (b.more r).rdB = (b.reads.all b.rdB && b.rdB r) := by
      show (b.reads ++ [r]).all b.rdB = _
      simp
    have e1 : (b.more r).first = b.first := rfl
    have e2 : (b.more r).flows = b.flows := rfl
    have e3 : (b.more r).flowB = b.flowB := rfl
    rw [e, e1, e2, e3, hr, Bool.and_true]
    exact h2
  have hl2 : (b.more r).longB = false := by
    simp only [Bk.longB, Bool.or_eq_false_iff, decide_eq_false_iff_not] at h1 ⊢
    simp only [Bk.more, List.length_append, List.length_singleton]
    omega
  unfold Bk.err
  rw [hl2, hb]
  rfl
theorem tl_zero {b : Bk} {g h : Gs} {wrong : Int} (hf : (b.gsB g && b.gsB h) = true) (hw : inB wrong 0 10000000 = true) (he : b.err true = 0) :
    (b.tlR g h wrong).2.2 = 0 ∧ (∃ d z : Nat, (b.tlR g h wrong).1 = d ∧ (b.tlR g h wrong).2.1 = z ∧ d < b.flows.length ∧ z < b.first.length ∧ b.tellB g h wrong d z = true) ∨ (b.tlR g h wrong).2.2 = 5 ∨ (b.tlR g h wrong).2.2 = 7 := by
  have h1 : b.err (b.gsB g && b.gsB h) = 0 := by rw [hf]; exact he
  cases ha : (b.agreeB g && b.agreeB h)
  · rw [tlR_rule h1 hw ha]; exact .inr (.inr rfl)
  · cases ht : b.tellD g h wrong with
    | none => rw [tlR_no h1 hw ha ht]; exact .inr (.inl rfl)
    | some p =>
      obtain ⟨t, z⟩ := p
      rw [tlR_yes h1 hw ha ht]
      have hp := List.find?_some ht
      have hm := List.mem_of_find?_eq_some ht
      simp only [Bk.dayZones, List.mem_flatMap, List.mem_map, List.mem_range] at hm
      obtain ⟨u, hu, v, hv, e⟩ := hm
      cases e
      exact .inl ⟨rfl, t, z, rfl, rfl, hu, hv, hp⟩
/-- With the reading that tells, the true guess agrees, and the other one does not. -/
theorem told_agree {b : Bk} (ok : Ok b) {g h : Gs} {wrong y n : Int} {xs : List Int} {ys : List (List Int)} {d z : Nat} (hT : b.truthB xs ys = true) (hH : b.holdsB (conL g xs ys ys.length) = true) (hd : d < b.flows.length) (hz : z < b.first.length)
    (ht : b.tellB g h wrong d z = true) (hy : -wrong ≤ y ∧ y ≤ wrong) (hn : n = conN g xs ys z (d + 1) + y) (ok2 : Ok (b.more ⟨d, z, ⟨n - wrong, n + wrong⟩⟩)) :
    (b.more ⟨d, z, ⟨n - wrong, n + wrong⟩⟩).agreeB g = true ∧ (b.more ⟨d, z, ⟨n - wrong, n + wrong⟩⟩).agreeB h = false := by
  obtain ⟨h1, h2, -, -⟩ := truthB_iff hT
  constructor
  · refine true_agree ok2 (xs := xs) (ys := ys) hT ?_
    have e : (b.more ⟨d, z, ⟨n - wrong, n + wrong⟩⟩).holdsB (conL g xs ys ys.length) = (b.holdsB (conL g xs ys ys.length) && Bk.holdB (conL g xs ys ys.length) ⟨d, z, ⟨n - wrong, n + wrong⟩⟩) := by
      unfold Bk.holdsB Bk.more
      simp
    rw [e, hH, Bool.true_and, Bk.holdB, inB_iff]
    simp only [Int.toNat_natCast]
    rw [conL_at (by omega), rowC_at (by omega)]
    omega
  · cases hc : (b.more ⟨d, z, ⟨n - wrong, n + wrong⟩⟩).agreeB h
    · rfl
    · exfalso
      rw [Bk.agreeB, List.all_eq_true] at hc
      have hm := more_meets ok ok2 hz hd (hc z (List.mem_range.2 hz))
      have hb := true_bnd ok hT hH hz hd
      simp only [Bk.tellB, Bool.or_eq_true, decide_eq_true_eq] at ht
      simp only at hm
      omega
end Lk
