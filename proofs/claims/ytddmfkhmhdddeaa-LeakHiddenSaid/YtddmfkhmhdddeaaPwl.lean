/- The plain law of pairs: a zone agrees with a guess just if each two times at which its content is known do (no Go in sight). -/
import Derived.Test.YtddmfkhmhdddeaaSiz
set_option linter.unusedVariables false
set_option linter.unusedSimpArgs false
namespace Lk
/-- What came at least, and at most, up to a day, less what leaked. -/
def Bk.cumLo (b : Bk) (g : Gs) (z : Nat) : Nat → Int
  | 0 => 0
  | k + 1 => Bk.cumLo b g z k + (b.comes g z k).lo
def Bk.cumHi (b : Bk) (g : Gs) (z : Nat) : Nat → Int
  | 0 => 0
  | k + 1 => Bk.cumHi b g z k + (b.comes g z k).hi
theorem cum_le {b : Bk} (ok : Ok b) {g : Gs} {z : Nat} (hz : z < b.first.length) {s t : Nat} (h : s ≤ t) (ht : t ≤ b.flows.length) : b.cumLo g z t - b.cumLo g z s ≤ b.cumHi g z t - b.cumHi g z s := by
  induction t with
  | zero => obtain rfl : s = 0 := by omega
            omega
  | succ t ih =>
    by_cases he : s = t + 1
    · subst he; omega
    · have := ih (by omega) (by omega)
      have hf := ok.flows t z (by omega) hz
      simp only [Bk.cumLo, Bk.cumHi, Bk.comes, Bk.flowAt]
      omega
theorem mem_allK_iff {b : Bk} {z : Nat} {x : Kn} : x ∈ b.allK z ↔ x = ⟨-1, spAt b.first z⟩ ∨ ∃ r, r ∈ b.reads ∧ r.zone = (z : Int) ∧ x = ⟨r.day, r.v⟩ := by
  unfold Bk.allK
  rw [List.mem_cons, List.mem_map]
  simp only [List.mem_filter, decide_eq_true_eq]
  constructor
  · rintro (h | ⟨r, ⟨h1, h2⟩, rfl⟩)
    · exact .inl h
    · exact .inr ⟨r, h1, h2, rfl⟩
  · rintro (h | ⟨r, h1, h2, rfl⟩)
    · exact .inl h
    · exact .inr ⟨r, ⟨h1, h2⟩, rfl⟩
theorem mem_readsAt_iff {b : Bk} {z d : Int} {s : Sp} : s ∈ b.readsAt z d ↔ ∃ r, r ∈ b.reads ∧ r.zone = z ∧ r.day = d ∧ r.v = s := by
  unfold Bk.readsAt
  simp only [List.mem_map, List.mem_filter, Bool.and_eq_true, decide_eq_true_eq]
  constructor
  · rintro ⟨r, ⟨h1, h2, h3⟩, rfl⟩; exact ⟨r, h1, h2, h3, rfl⟩
  · rintro ⟨r, h1, h2, h3, rfl⟩; exact ⟨r, ⟨h1, h2, h3⟩, rfl⟩
theorem rd_day {b : Bk} (ok : Ok b) {r : Rd} (h : r ∈ b.reads) : 0 ≤ r.day ∧ r.day < b.flows.length ∧ r.v.lo ≤ r.v.hi := by
  obtain ⟨i, hi, rfl⟩ := List.getElem_of_mem h
  have := ok.reads i hi
  have e : rdAt b.reads i = b.reads[i] := by simp [rdAt, hi]
  rw [e] at this; omega
theorem meets_lo {y : Int} : ∀ (l : List Sp) (s : Sp), (meets s l).lo ≤ y ↔ s.lo ≤ y ∧ ∀ x ∈ l, x.lo ≤ y
  | [], s => by simp [meets]
  | x :: l, s => by
    have := meets_lo (y := y) l (meet s x)
    have e : meets s (x :: l) = meets (meet s x) l := rfl
    rw [e, this]
    simp only [meet, List.mem_cons, forall_eq_or_imp]
    constructor
    · rintro ⟨h1, h2⟩; exact ⟨by omega, by omega, h2⟩
    · rintro ⟨h1, h2, h3⟩; exact ⟨by omega, h3⟩
theorem meets_hi {y : Int} : ∀ (l : List Sp) (s : Sp), y ≤ (meets s l).hi ↔ y ≤ s.hi ∧ ∀ x ∈ l, y ≤ x.hi
  | [], s => by simp [meets]
  | x :: l, s => by
    have := meets_hi (y := y) l (meet s x)
    have e : meets s (x :: l) = meets (meet s x) l := rfl
    rw [e, this]
    simp only [meet, List.mem_cons, forall_eq_or_imp]
    constructor
    · rintro ⟨h1, h2⟩; exact ⟨by omega, by omega, h2⟩
    · rintro ⟨h1, h2, h3⟩; exact ⟨by omega, h3⟩
theorem fwd_lo {b : Bk} (ok : Ok b) {g : Gs} {z : Nat} : ∀ (k : Nat) (y : Int), (b.fwd g z k).lo - b.cumLo g z k ≤ y ↔ ∀ x, x ∈ b.allK z → x.day < k → x.v.lo - b.cumLo g z (x.day + 1).toNat ≤ y
  | 0, y => by
    simp only [Bk.fwd, Bk.cumLo]
    constructor
    · intro h x hx hd
      rcases mem_allK_iff.1 hx with rfl | ⟨r, hr, _, rfl⟩
      · simpa [Bk.cumLo] using h
      · have := rd_day ok hr; simp only at hd; omega
    · intro h
      have := h _ (mem_allK_iff.2 (.inl rfl)) (by simp)
      simpa [Bk.cumLo] using this
  | k + 1, y => by
    have ih := fwd_lo ok (g := g) (z := z) k y
    have e : (b.fwd g z (k + 1)).lo - b.cumLo g z (k + 1) ≤ y ↔ (b.fwd g z (k + 1)).lo ≤ y + b.cumLo g z (k + 1) := by omega
    rw [e]
    simp only [Bk.fwd]
    rw [meets_lo]
    have e2 : (addSp (b.fwd g z k) (b.comes g z k)).lo ≤ y + b.cumLo g z (k + 1) ↔ (b.fwd g z k).lo - b.cumLo g z k ≤ y := by simp only [addSp, Bk.cumLo]; omega
    rw [e2, ih]
    constructor
    · rintro ⟨h1, h2⟩ x hx hd
      by_cases hk : x.day < k
      · exact h1 x hx hk
      · rcases mem_allK_iff.1 hx with rfl | ⟨r, hr, hrz, rfl⟩
        · simp only at hk; omega
        · simp only at hk hd ⊢
          have hday : r.day = (k : Int) := by push_cast at hd; omega
          have := h2 r.v (mem_readsAt_iff.2 ⟨r, hr, hrz, hday, rfl⟩)
          rw [hday, show ((k : Int) + 1).toNat = k + 1 by omega]
          omega
    · intro h
      refine ⟨fun x hx hd => h x hx (by push_cast; omega), fun s hs => ?_⟩
      obtain ⟨r, hr, hrz, hday, rfl⟩ := mem_readsAt_iff.1 hs
      have := h ⟨r.day, r.v⟩ (mem_allK_iff.2 (.inr ⟨r, hr, hrz, rfl⟩)) (by simp only; push_cast; omega)
      simp only at this
      rw [hday, show ((k : Int) + 1).toNat = k + 1 by omega] at this
      omega
theorem fwd_hi {b : Bk} (ok : Ok b) {g : Gs} {z : Nat} : ∀ (k : Nat) (y : Int), y ≤ (b.fwd g z k).hi - b.cumHi g z k ↔ ∀ x, x ∈ b.allK z → x.day < k → y ≤ x.v.hi - b.cumHi g z (x.day + 1).toNat
  | 0, y => by
    simp only [Bk.fwd, Bk.cumHi]
    constructor
    · intro h x hx hd
      rcases mem_allK_iff.1 hx with rfl | ⟨r, hr, _, rfl⟩
      · simpa [Bk.cumHi] using h
      · have := rd_day ok hr; simp only at hd; omega
    · intro h
      have := h _ (mem_allK_iff.2 (.inl rfl)) (by simp)
      simpa [Bk.cumHi] using this
  | k + 1, y => by
    have ih := fwd_hi ok (g := g) (z := z) k y
    have e : y ≤ (b.fwd g z (k + 1)).hi - b.cumHi g z (k + 1) ↔ y + b.cumHi g z (k + 1) ≤ (b.fwd g z (k + 1)).hi := by omega
    rw [e]
    simp only [Bk.fwd]
    rw [meets_hi]
    have e2 : y + b.cumHi g z (k + 1) ≤ (addSp (b.fwd g z k) (b.comes g z k)).hi ↔ y ≤ (b.fwd g z k).hi - b.cumHi g z k := by simp only [addSp, Bk.cumHi]; omega
    rw [e2, ih]
    constructor
    · rintro ⟨h1, h2⟩ x hx hd
      by_cases hk : x.day < k
      · exact h1 x hx hk
      · rcases mem_allK_iff.1 hx with rfl | ⟨r, hr, hrz, rfl⟩
        · simp only at hk; omega
        · simp only at hk hd ⊢
          have hday : r.day = (k : Int) := by push_cast at hd; omega
          have := h2 r.v (mem_readsAt_iff.2 ⟨r, hr, hrz, hday, rfl⟩)
          rw [hday, show ((k : Int) + 1).toNat = k + 1 by omega]
          omega
    · intro h
      refine ⟨fun x hx hd => h x hx (by push_cast; omega), fun s hs => ?_⟩
      obtain ⟨r, hr, hrz, hday, rfl⟩ := mem_readsAt_iff.1 hs
      have := h ⟨r.day, r.v⟩ (mem_allK_iff.2 (.inr ⟨r, hr, hrz, rfl⟩)) (by simp only; push_cast; omega)
      simp only at this
      rw [hday, show ((k : Int) + 1).toNat = k + 1 by omega] at this
      omega
theorem okTo_iff {b : Bk} {g : Gs} {z : Nat} : ∀ n, b.okTo g z n = true ↔ ∀ k, k < n → (b.fwd g z (k + 1)).lo ≤ (b.fwd g z (k + 1)).hi
  | 0 => by simp [Bk.okTo]
  | n + 1 => by
    rw [Bk.okTo, Bool.and_eq_true, okTo_iff n, decide_eq_true_eq]
    constructor
    · rintro ⟨h1, h2⟩ k hk
      rcases Nat.lt_succ_iff_lt_or_eq.1 hk with h | rfl
      · exact h1 k h
      · exact h2
    · intro h; exact ⟨fun k hk => h k (by omega), h n (by omega)⟩
/-- What two times at which a content is known must be like. -/
def Bk.pairOk (b : Bk) (g : Gs) (z : Nat) (x y : Kn) : Prop :=
  x.v.lo + (b.cumLo g z (y.day + 1).toNat - b.cumLo g z (x.day + 1).toNat) ≤ y.v.hi ∧ y.v.lo ≤ x.v.hi + (b.cumHi g z (y.day + 1).toNat - b.cumHi g z (x.day + 1).toNat)
theorem zone_pairs {b : Bk} (ok : Ok b) {g : Gs} {z : Nat} (hz : z < b.first.length) : b.zoneB g z = true ↔ ∀ x y, x ∈ b.allK z → y ∈ b.allK z → x.day ≤ y.day → b.pairOk g z x y := by
  have hday : ∀ x, x ∈ b.allK z → -1 ≤ x.day ∧ x.day < b.flows.length ∧ x.v.lo ≤ x.v.hi := fun x hx => by
    have := mem_allK ok hz hx; omega
  rw [Bk.zoneB, okTo_iff]
  constructor
  · intro h x y hx hy hd
    have hxd := hday x hx
    have hyd := hday y hy
    have hk : (b.fwd g z (y.day + 1).toNat).lo ≤ (b.fwd g z (y.day + 1).toNat).hi := by
      cases hn : (y.day + 1).toNat with
      | zero => have := ok.first z hz; simp only [Bk.fwd]; omega
      | succ k => exact h k (by omega)
    have hlo := fwd_lo ok (g := g) (z := z) (y.day + 1).toNat
    have hhi := fwd_hi ok (g := g) (z := z) (y.day + 1).toNat
    have a1 := (hlo _).1 (Int.le_refl _) x hx (by omega)
    have a2 := (hhi _).1 (Int.le_refl _) y hy (by omega)
    have a3 := (hlo _).1 (Int.le_refl _) y hy (by omega)
    have a4 := (hhi _).1 (Int.le_refl _) x hx (by omega)
    exact ⟨by omega, by omega⟩
  · intro h k hk
    have hlo := fwd_lo ok (g := g) (z := z) (k + 1)
    have hhi := fwd_hi ok (g := g) (z := z) (k + 1)
    have key : (b.fwd g z (k + 1)).lo - b.cumLo g z (k + 1) ≤ (b.fwd g z (k + 1)).hi - b.cumLo g z (k + 1) := by
      rw [hlo]
      intro x hx hxk
      have hxd := hday x hx
      have : x.v.lo - b.cumLo g z (x.day + 1).toNat + b.cumLo g z (k + 1) - b.cumHi g z (k + 1) ≤ (b.fwd g z (k + 1)).hi - b.cumHi g z (k + 1) := by
        rw [hhi]
        intro y hy hyk
        have hyd := hday y hy
        by_cases hd : x.day ≤ y.day
        · have h1 := (h x y hx hy hd).1
          have h2 := cum_le ok (g := g) hz (s := (y.day + 1).toNat) (t := k + 1) (by omega) (by omega)
          omega
        · have h1 := (h y x hy hx (by omega)).2
          have h2 := cum_le ok (g := g) hz (s := (x.day + 1).toNat) (t := k + 1) (by omega) (by omega)
          omega
      omega
    omega
end Lk
