/- The plain law of bounds: they hold just what agrees with all that is known (no Go in sight). -/
import Derived.Test.YtddmfkhmhdddeaaMor
set_option linter.unusedVariables false
set_option linter.unusedSimpArgs false
namespace Lk
theorem bwd_lo {b : Bk} (ok : Ok b) {g : Gs} {z : Nat} (hz : z < b.first.length) : ∀ j, j < b.flows.length → ∀ y, (b.bwd g z j).lo ≤ y ↔ ∀ x, x ∈ b.allK z →
    (x.day < ((b.flows.length - j : Nat) : Int) → x.v.lo - b.cumLo g z (x.day + 1).toNat + b.cumLo g z (b.flows.length - j) ≤ y) ∧
    (((b.flows.length - j : Nat) : Int) ≤ x.day → x.v.lo - b.cumHi g z (x.day + 1).toNat + b.cumHi g z (b.flows.length - j) ≤ y)
  | 0, _, y => by
    have h := fwd_lo ok (g := g) (z := z) b.flows.length (y - b.cumLo g z b.flows.length)
    simp only [Bk.bwd, Nat.sub_zero]
    constructor
    · intro hy x hx
      have := mem_allK ok hz hx
      have a := h.1 (by omega) x hx (by omega)
      exact ⟨fun _ => by omega, fun hd => by omega⟩
    · intro hy
      have := h.2 fun x hx hd => by have := (hy x hx).1 hd; omega
      omega
  | j + 1, hj, y => by
    have ih := bwd_lo ok (g := g) hz j (by omega) (y + (b.comes g z (b.flows.length - 1 - j)).hi)
    have hf := fwd_lo ok (g := g) (z := z) (b.flows.length - 1 - j) (y - b.cumLo g z (b.flows.length - 1 - j))
    have hc := ok.flows (b.flows.length - 1 - j) z (by omega) hz
    rw [show b.flows.length - j = (b.flows.length - 1 - j) + 1 by omega] at ih
    rw [show b.flows.length - (j + 1) = b.flows.length - 1 - j by omega]
    simp only [Bk.bwd, meet]
    generalize b.flows.length - 1 - j = d at *
    have eL : b.cumLo g z (d + 1) = b.cumLo g z d + (b.comes g z d).lo := rfl
    have eH : b.cumHi g z (d + 1) = b.cumHi g z d + (b.comes g z d).hi := rfl
    have hcl : (b.comes g z d).lo ≤ (b.comes g z d).hi := by simp only [Bk.comes, Bk.flowAt]; omega
    constructor
    · intro hy x hx
      have a := hf.1 (by omega) x hx
      have c := (ih.1 (by omega)) x hx
      refine ⟨fun hd => by have := a hd; omega, fun hd => ?_⟩
      by_cases he : x.day = d
      · have := c.1 (by omega)
        rw [show (x.day + 1).toNat = d + 1 by omega] at this ⊢
        omega
      · have := c.2 (by omega); omega
    · intro hy
      have a := hf.2 fun x hx hd => by have := (hy x hx).1 hd; omega
      have c := ih.2 fun x hx => by
        have h := hy x hx
        refine ⟨fun hd => ?_, fun hd => by have := h.2 (by omega); omega⟩
        by_cases he : x.day = d
        · have := h.2 (by omega)
          rw [show (x.day + 1).toNat = d + 1 by omega] at this ⊢
          omega
        · have := h.1 (by omega); omega
      omega
theorem bwd_hi {b : Bk} (ok : Ok b) {g : Gs} {z : Nat} (hz : z < b.first.length) : ∀ j, j < b.flows.length → ∀ y, y ≤ (b.bwd g z j).hi ↔ ∀ x, x ∈ b.allK z →
    (x.day < ((b.flows.length - j : Nat) : Int) → y ≤ x.v.hi - b.cumHi g z (x.day + 1).toNat + b.cumHi g z (b.flows.length - j)) ∧
    (((b.flows.length - j : Nat) : Int) ≤ x.day → y ≤ x.v.hi - b.cumLo g z (x.day + 1).toNat + b.cumLo g z (b.flows.length - j))
  | 0, _, y => by
    have h := fwd_hi ok (g := g) (z := z) b.flows.length (y - b.cumHi g z b.flows.length)
    simp only [Bk.bwd, Nat.sub_zero]
    constructor
    · intro hy x hx
      have := mem_allK ok hz hx
      have a := h.1 (by omega) x hx (by omega)
      exact ⟨fun _ => by omega, fun hd => by omega⟩
    · intro hy
      have := h.2 fun x hx hd => by have := (hy x hx).1 hd; omega
      omega
  | j + 1, hj, y => by
    have ih := bwd_hi ok (g := g) hz j (by omega) (y + (b.comes g z (b.flows.length - 1 - j)).lo)
    have hf := fwd_hi ok (g := g) (z := z) (b.flows.length - 1 - j) (y - b.cumHi g z (b.flows.length - 1 - j))
    have hc := ok.flows (b.flows.length - 1 - j) z (by omega) hz
    rw [show b.flows.length - j = (b.flows.length - 1 - j) + 1 by omega] at ih
    rw [show b.flows.length - (j + 1) = b.flows.length - 1 - j by omega]
    simp only [Bk.bwd, meet]
    generalize b.flows.length - 1 - j = d at *
    have eL : b.cumLo g z (d + 1) = b.cumLo g z d + (b.comes g z d).lo := rfl
    have eH : b.cumHi g z (d + 1) = b.cumHi g z d + (b.comes g z d).hi := rfl
    have hcl : (b.comes g z d).lo ≤ (b.comes g z d).hi := by simp only [Bk.comes, Bk.flowAt]; omega
    constructor
    · intro hy x hx
      have a := hf.1 (by omega) x hx
      have c := (ih.1 (by omega)) x hx
      refine ⟨fun hd => by have := a hd; omega, fun hd => ?_⟩
      by_cases he : x.day = d
      · have := c.1 (by omega)
        rw [show (x.day + 1).toNat = d + 1 by omega] at this ⊢
        omega
      · have := c.2 (by omega); omega
    · intro hy
      have a := hf.2 fun x hx hd => by have := (hy x hx).1 hd; omega
      have c := ih.2 fun x hx => by
        have h := hy x hx
        refine ⟨fun hd => ?_, fun hd => by have := h.2 (by omega); omega⟩
        by_cases he : x.day = d
        · have := h.2 (by omega)
          rw [show (x.day + 1).toNat = d + 1 by omega] at this ⊢
          omega
        · have := h.1 (by omega); omega
      omega
/-- A number lies within the bounds of a day just if it agrees with all that is known. -/
def Bk.numOk (b : Bk) (g : Gs) (z d : Nat) (n : Int) : Prop := ∀ x, x ∈ b.allK z →
  (x.day ≤ (d : Int) → x.v.lo + (b.cumLo g z (d + 1) - b.cumLo g z (x.day + 1).toNat) ≤ n ∧ n ≤ x.v.hi + (b.cumHi g z (d + 1) - b.cumHi g z (x.day + 1).toNat)) ∧
  ((d : Int) < x.day → n + (b.cumLo g z (x.day + 1).toNat - b.cumLo g z (d + 1)) ≤ x.v.hi ∧ x.v.lo ≤ n + (b.cumHi g z (x.day + 1).toNat - b.cumHi g z (d + 1)))
theorem bnd_in {b : Bk} (ok : Ok b) {g : Gs} {z d : Nat} (hz : z < b.first.length) (hd : d < b.flows.length) (n : Int) : ((b.bnd g z d).lo ≤ n ∧ n ≤ (b.bnd g z d).hi) ↔ b.numOk g z d n := by
  have h1 := bwd_lo ok (g := g) hz (b.flows.length - 1 - d) (by omega) n
  have h2 := bwd_hi ok (g := g) hz (b.flows.length - 1 - d) (by omega) n
  rw [show b.flows.length - (b.flows.length - 1 - d) = d + 1 by omega] at h1 h2
  unfold Bk.bnd Bk.numOk
  rw [h1, h2]
  constructor
  · rintro ⟨a, c⟩ x hx
    have a' := a x hx
    have c' := c x hx
    refine ⟨fun h => ?_, fun h => ?_⟩
    · have := a'.1 (by omega); have := c'.1 (by omega); omega
    · have := a'.2 (by omega); have := c'.2 (by omega); omega
  · intro h
    refine ⟨fun x hx => ?_, fun x hx => ?_⟩
    · have := h x hx
      exact ⟨fun hd => by have := this.1 (by omega); omega, fun hd => by have := this.2 (by omega); omega⟩
    · have := h x hx
      exact ⟨fun hd => by have := this.1 (by omega); omega, fun hd => by have := this.2 (by omega); omega⟩
theorem more_allK_iff {b : Bk} {r : Rd} {z : Nat} {x : Kn} : x ∈ (b.more r).allK z ↔ x ∈ b.allK z ∨ (r.zone = (z : Int) ∧ x = ⟨r.day, r.v⟩) := by
  rw [mem_allK_iff, mem_allK_iff]
  unfold Bk.more
  simp only [List.mem_append, List.mem_singleton]
  constructor
  · rintro (h | ⟨q, hq | rfl, hz, rfl⟩)
    · exact .inl (.inl h)
    · exact .inl (.inr ⟨q, hq, hz, rfl⟩)
    · exact .inr ⟨hz, rfl⟩
  · rintro ((h | ⟨q, hq, hz, rfl⟩) | ⟨hz, rfl⟩)
    · exact .inl h
    · exact .inr ⟨q, .inl hq, hz, rfl⟩
    · exact .inr ⟨r, .inr rfl, hz, rfl⟩
/-- A reading more that says just a number: the zone still agrees just if the number lies within the bounds. -/
theorem more_point {b : Bk} (ok : Ok b) {g : Gs} {z d : Nat} {n : Int} (ok2 : Ok (b.more ⟨d, z, ⟨n, n⟩⟩)) (hz : z < b.first.length) (hd : d < b.flows.length) (h : b.zoneB g z = true) :
    (b.more ⟨d, z, ⟨n, n⟩⟩).zoneB g z = true ↔ (b.bnd g z d).lo ≤ n ∧ n ≤ (b.bnd g z d).hi := by
  rw [bnd_in ok hz hd, zone_pairs ok2 (show z < (b.more ⟨d, z, ⟨n, n⟩⟩).first.length from hz)]
  rw [zone_pairs ok hz] at h
  constructor
  · intro h2 x hx
    have hx2 := more_allK (r := ⟨d, z, ⟨n, n⟩⟩) hx
    have hn : (⟨(d : Int), ⟨n, n⟩⟩ : Kn) ∈ (b.more ⟨d, z, ⟨n, n⟩⟩).allK z := more_allK_iff.2 (.inr ⟨rfl, rfl⟩)
    refine ⟨fun hxd => ?_, fun hxd => ?_⟩
    · have := more_pair.1 (h2 x _ hx2 hn hxd)
      unfold Bk.pairOk at this
      simp only at this
      rw [show ((d : Int) + 1).toNat = d + 1 by omega] at this
      omega
    · have := more_pair.1 (h2 _ x hn hx2 (Int.le_of_lt hxd))
      unfold Bk.pairOk at this
      simp only at this
      rw [show ((d : Int) + 1).toNat = d + 1 by omega] at this
      omega
  · intro hn x y hx hy hxy
    refine more_pair.2 ?_
    rcases more_allK_iff.1 hx with hx | ⟨_, rfl⟩
    · rcases more_allK_iff.1 hy with hy | ⟨_, rfl⟩
      · exact h x y hx hy hxy
      · have := (hn x hx).1 hxy
        unfold Bk.pairOk
        simp only
        rw [show ((d : Int) + 1).toNat = d + 1 by omega]
        omega
    · rcases more_allK_iff.1 hy with hy | ⟨_, rfl⟩
      · unfold Bk.pairOk
        simp only at hxy ⊢
        rw [show ((d : Int) + 1).toNat = d + 1 by omega]
        by_cases he : y.day = d
        · have := (hn y hy).1 (by omega)
          rw [show (y.day + 1).toNat = d + 1 by omega] at this ⊢
          omega
        · have := (hn y hy).2 (by omega)
          omega
      · unfold Bk.pairOk
        simp only
        omega
theorem more_other {b : Bk} {g : Gs} {r : Rd} {i : Nat} (h : r.zone ≠ (i : Int)) : (b.more r).zoneB g i = b.zoneB g i := by
  refine zone_congr rfl rfl (fun d => rfl) fun d => ?_
  unfold Bk.readsAt Bk.more
  simp only [List.filter_append, List.map_append]
  have : List.filter (fun r : Rd => decide (r.zone = (i : Int)) && decide (r.day = (d : Int))) [r] = [] := by simp [h]
  rw [this]
  simp
/-- With a reading more that says just a number, a guess still agrees just if the number lies within its bounds. -/
theorem more_point_agree {b : Bk} (ok : Ok b) {g : Gs} {z d : Nat} {n : Int} (ok2 : Ok (b.more ⟨d, z, ⟨n, n⟩⟩)) (hz : z < b.first.length) (hd : d < b.flows.length) (h : b.agreeB g = true) :
    (b.more ⟨d, z, ⟨n, n⟩⟩).agreeB g = true ↔ (b.bnd g z d).lo ≤ n ∧ n ≤ (b.bnd g z d).hi := by
  rw [Bk.agreeB, List.all_eq_true] at h
  rw [← more_point ok ok2 hz hd (h z (List.mem_range.2 hz)), Bk.agreeB, List.all_eq_true]
  constructor
  · intro h2; exact h2 z (List.mem_range.2 hz)
  · intro h2 i hi
    by_cases he : i = z
    · rw [he]; exact h2
    · rw [more_other (by simp only; omega)]; exact h i hi
/-- What is true of a zone: its content at each time (0: at first; k + 1: at the end of day k). -/
structure TruthZ (b : Bk) (g : Gs) (z : Nat) (c : Nat → Int) : Prop where
  step : ∀ k, k < b.flows.length → c k + (b.comes g z k).lo ≤ c (k + 1) ∧ c (k + 1) ≤ c k + (b.comes g z k).hi
  known : ∀ x, x ∈ b.allK z → x.v.lo ≤ c (x.day + 1).toNat ∧ c (x.day + 1).toNat ≤ x.v.hi
theorem truth_cum {b : Bk} {g : Gs} {z : Nat} {c : Nat → Int} (h : TruthZ b g z c) {s t : Nat} (hst : s ≤ t) (ht : t ≤ b.flows.length) :
    b.cumLo g z t - b.cumLo g z s ≤ c t - c s ∧ c t - c s ≤ b.cumHi g z t - b.cumHi g z s := by
  induction t with
  | zero => obtain rfl : s = 0 := by omega
            omega
  | succ t ih =>
    by_cases he : s = t + 1
    · subst he; omega
    · have h1 := ih (by omega) (by omega)
      have h2 := h.step t (by omega)
      simp only [Bk.cumLo, Bk.cumHi]
      omega
/-- What is true agrees, and lies within the bounds. -/
theorem truth_zone {b : Bk} (ok : Ok b) {g : Gs} {z : Nat} {c : Nat → Int} (hz : z < b.first.length) (h : TruthZ b g z c) : b.zoneB g z = true := by
  rw [zone_pairs ok hz]
  intro x y hx hy hd
  have a := h.known x hx
  have e := h.known y hy
  have hxd := mem_allK ok hz hx
  have hyd := mem_allK ok hz hy
  have := truth_cum h (s := (x.day + 1).toNat) (t := (y.day + 1).toNat) (by omega) (by omega)
  unfold Bk.pairOk
  omega
theorem truth_bnd {b : Bk} (ok : Ok b) {g : Gs} {z d : Nat} {c : Nat → Int} (hz : z < b.first.length) (hd : d < b.flows.length) (h : TruthZ b g z c) : (b.bnd g z d).lo ≤ c (d + 1) ∧ c (d + 1) ≤ (b.bnd g z d).hi := by
  rw [bnd_in ok hz hd]
  intro x hx
  have a := h.known x hx
  have hxd := mem_allK ok hz hx
  refine ⟨fun hxd' => ?_, fun hxd' => ?_⟩
  · have := truth_cum h (s := (x.day + 1).toNat) (t := d + 1) (by omega) (by omega)
    omega
  · have := truth_cum h (s := d + 1) (t := (x.day + 1).toNat) (by omega) (by omega)
    omega
end Lk
