/- The plain law of sizes: a guess agrees just if its size is among those that are told (no Go in sight). -/
import Derived.Test.YtddmfkhmhdddeaaPwl
set_option linter.unusedVariables false
set_option linter.unusedSimpArgs false
namespace Lk
theorem zone_congr {b b' : Bk} {g g' : Gs} {i : Nat} (h0 : spAt b.first i = spAt b'.first i) (hl : b.flows.length = b'.flows.length) (hc : ∀ d, b.comes g i d = b'.comes g' i d) (hr : ∀ d : Nat, b.readsAt i d = b'.readsAt i d) : b.zoneB g i = b'.zoneB g' i := by
  have hf : ∀ k, b.fwd g i k = b'.fwd g' i k := by
    intro k
    induction k with
    | zero => exact h0
    | succ k ih => simp only [Bk.fwd, ih, hc k, hr k]
  have ho : ∀ k, b.okTo g i k = b'.okTo g' i k := by
    intro k
    induction k with
    | zero => rfl
    | succ k ih => simp only [Bk.okTo, ih, hf]
  rw [Bk.zoneB, Bk.zoneB, hl, ho]
/-- What has leaked up to a day. -/
def lostTo (g : Gs) (z : Nat) : Nat → Int
  | 0 => 0
  | k + 1 => lostTo g z k + lost g z k
theorem lost_none (z : Nat) (d : Int) : lost noGs z d = 0 := by
  unfold lost noGs
  rw [if_neg]
  rintro ⟨h, -⟩
  simp only at h
  omega
theorem cumLo_lost {b : Bk} {g : Gs} {z : Nat} : ∀ k, b.cumLo g z k = b.cumLo noGs z k - lostTo g z k
  | 0 => rfl
  | k + 1 => by
    have := cumLo_lost (b := b) (g := g) (z := z) k
    simp only [Bk.cumLo, lostTo, Bk.comes, lost_none]
    omega
theorem cumHi_lost {b : Bk} {g : Gs} {z : Nat} : ∀ k, b.cumHi g z k = b.cumHi noGs z k - lostTo g z k
  | 0 => rfl
  | k + 1 => by
    have := cumHi_lost (b := b) (g := g) (z := z) k
    simp only [Bk.cumHi, lostTo, Bk.comes, lost_none]
    omega
theorem lostTo_eq {z : Nat} {n since : Int} (h : 0 ≤ since) : ∀ k : Nat, lostTo ⟨z, n, since⟩ z k = n * max 0 ((k : Int) - since)
  | 0 => by rw [show max (0 : Int) (((0 : Nat) : Int) - since) = 0 by omega]; simp [lostTo]
  | k + 1 => by
    rw [lostTo, lostTo_eq h k, lost]
    simp only [true_and]
    split
    · rw [show max (0 : Int) (((k + 1 : Nat) : Int) - since) = max 0 ((k : Int) - since) + 1 by omega, Int.mul_add, Int.mul_one]
    · rw [show max (0 : Int) (((k + 1 : Nat) : Int) - since) = max 0 ((k : Int) - since) by omega, Int.add_zero]
theorem camN_lo {b : Bk} {z s : Nat} : ∀ j, (b.camN z s j).lo = b.cumLo noGs z (s + j) - b.cumLo noGs z s ∧ (b.camN z s j).hi = b.cumHi noGs z (s + j) - b.cumHi noGs z s
  | 0 => by simp [Bk.camN]
  | j + 1 => by
    obtain ⟨h1, h2⟩ := camN_lo (b := b) (z := z) (s := s) j
    rw [show s + (j + 1) = (s + j) + 1 by omega]
    simp only [Bk.camN, addSp, Bk.cumLo, Bk.cumHi, Bk.comes, lost_none]
    omega
theorem came_lo {b : Bk} {z : Nat} {a c : Int} (h : -1 ≤ a) (h2 : a ≤ c) : (b.came z a c).lo = b.cumLo noGs z (c + 1).toNat - b.cumLo noGs z (a + 1).toNat ∧ (b.came z a c).hi = b.cumHi noGs z (c + 1).toNat - b.cumHi noGs z (a + 1).toNat := by
  unfold Bk.came
  have := camN_lo (b := b) (z := z) (s := (a + 1).toNat) (c - a).toNat
  rw [show (a + 1).toNat + (c - a).toNat = (c + 1).toNat by omega] at this
  exact this
/-- Whether a size suits two times. -/
def Bk.szOk (b : Bk) (z : Nat) (since n : Int) (x y : Kn) : Prop :=
  x.v.lo + (b.came z x.day y.day).lo - y.v.hi ≤ n * leakDays since x y ∧ n * leakDays since x y ≤ x.v.hi + (b.came z x.day y.day).hi - y.v.lo
theorem pairOk_sz {b : Bk} {z : Nat} {n since : Int} (hs : 0 ≤ since) {x y : Kn} (hx : -1 ≤ x.day) (hd : x.day ≤ y.day) : b.pairOk ⟨z, n, since⟩ z x y ↔ b.szOk z since n x y := by
  have h1 := came_lo (b := b) (z := z) hx hd
  have e : n * leakDays since x y = lostTo ⟨z, n, since⟩ z (y.day + 1).toNat - lostTo ⟨z, n, since⟩ z (x.day + 1).toNat := by
    rw [lostTo_eq hs, lostTo_eq hs, ← Int.mul_sub, leakDays]
    congr 1
    omega
  unfold Bk.pairOk Bk.szOk
  rw [e, h1.1, h1.2, cumLo_lost, cumLo_lost (k := (x.day + 1).toNat), cumHi_lost, cumHi_lost (k := (x.day + 1).toNat)]
  constructor <;> rintro ⟨a, c⟩ <;> constructor <;> omega
theorem szStep_in {b : Bk} {z : Nat} {since n : Int} (hn : 1 ≤ n ∧ n ≤ 10000000) (o : Sp) (p : Kn × Kn) :
    (∃ s, b.szStep z since o p = some s ∧ s.lo ≤ n ∧ n ≤ s.hi) ↔ (o.lo ≤ n ∧ n ≤ o.hi) ∧ b.szOk z since n p.1 p.2 := by
  unfold Bk.szStep Bk.szOk
  simp only []
  have hD : 0 ≤ leakDays since p.1 p.2 := by unfold leakDays; omega
  generalize leakDays since p.1 p.2 = D at *
  generalize (b.came z p.1.day p.2.day) = c
  generalize p.1.v.lo + c.lo - p.2.v.hi = least
  generalize p.1.v.hi + c.hi - p.2.v.lo = great
  by_cases h0 : D = 0
  · subst h0
    rw [if_pos rfl, Int.mul_zero]
    by_cases h : 0 < least ∨ great < 0
    · rw [if_pos h]
      constructor
      · rintro ⟨s, hs, _⟩; cases hs
      · rintro ⟨_, h1, h2⟩; omega
    · rw [if_neg h]
      constructor
      · rintro ⟨s, hs, h1, h2⟩; cases hs; exact ⟨⟨h1, h2⟩, by omega, by omega⟩
      · rintro ⟨h1, h2⟩; exact ⟨o, rfl, h1⟩
  · rw [if_neg h0]
    have hD1 : 0 < D := by omega
    have hge : D ≤ n * D := by
      calc D = 1 * D := by omega
        _ ≤ n * D := Int.mul_le_mul_of_nonneg_right hn.1 hD
    by_cases h : great < D
    · rw [if_pos h]
      constructor
      · rintro ⟨s, hs, _⟩; cases hs
      · rintro ⟨_, h1, h2⟩; omega
    · rw [if_neg h]
      have hhi : n ≤ great / D ↔ n * D ≤ great := Int.le_ediv_iff_mul_le hD1
      have hlo : n ≤ (least - 1) / D ↔ n * D ≤ least - 1 := Int.le_ediv_iff_mul_le hD1
      constructor
      · rintro ⟨s, hs, h1, h2⟩
        cases hs
        simp only at h1 h2
        refine ⟨⟨by split at h1 <;> omega, by omega⟩, ?_, hhi.1 (by omega)⟩
        by_cases hl : 0 < least
        · rw [if_pos hl] at h1
          have : ¬ n ≤ (least - 1) / D := by omega
          rw [hlo] at this; omega
        · omega
      · rintro ⟨⟨h1, h2⟩, h3, h4⟩
        refine ⟨_, rfl, ?_, ?_⟩
        · show (if 0 < least then max o.lo (1 + min 10000000 ((least - 1) / D)) else o.lo) ≤ n
          split
          · have : ¬ n ≤ (least - 1) / D := by rw [hlo]; omega
            omega
          · exact h1
        · show n ≤ min o.hi (min 10000000 (great / D))
          have := hhi.2 h4
          omega
theorem szStep_range {b : Bk} {z : Nat} {since : Int} {o s : Sp} {p : Kn × Kn} (h : b.szStep z since o p = some s) : o.lo ≤ s.lo ∧ s.hi ≤ o.hi := by
  unfold Bk.szStep at h
  simp only at h
  split at h
  · split at h
    · cases h
    · cases h; omega
  · split at h
    · cases h
    · cases h
      simp only
      split <;> omega
theorem szFold_in {b : Bk} {z : Nat} {since n : Int} (hn : 1 ≤ n ∧ n ≤ 10000000) : ∀ (l : List (Kn × Kn)) (o : Sp),
    (∃ s, l.foldlM (b.szStep z since) o = some s ∧ s.lo ≤ n ∧ n ≤ s.hi) ↔ (o.lo ≤ n ∧ n ≤ o.hi) ∧ ∀ p, p ∈ l → b.szOk z since n p.1 p.2
  | [], o => by
    constructor
    · rintro ⟨s, hs, h⟩; cases hs; exact ⟨h, fun p hp => by cases hp⟩
    · rintro ⟨h, _⟩; exact ⟨o, rfl, h⟩
  | p :: l, o => by
    have hst := szStep_in (b := b) (z := z) (since := since) hn o p
    constructor
    · rintro ⟨s, hs, h⟩
      rw [List.foldlM_cons] at hs
      cases hp : b.szStep z since o p with
      | none => rw [hp] at hs; cases hs
      | some o' =>
        rw [hp] at hs
        have h2 := (szFold_in hn l o').1 ⟨s, hs, h⟩
        have h3 := hst.1 ⟨o', hp, h2.1⟩
        refine ⟨h3.1, fun q hq => ?_⟩
        rcases List.mem_cons.1 hq with rfl | hq
        · exact h3.2
        · exact h2.2 q hq
    · rintro ⟨h1, h2⟩
      obtain ⟨o', ho, h3⟩ := hst.2 ⟨h1, h2 p List.mem_cons_self⟩
      obtain ⟨s, hs, h⟩ := (szFold_in hn l o').2 ⟨h3, fun q hq => h2 q (List.mem_cons_of_mem _ hq)⟩
      exact ⟨s, by rw [List.foldlM_cons, ho]; exact hs, h⟩
theorem szFold_range {b : Bk} {z : Nat} {since : Int} : ∀ (l : List (Kn × Kn)) (o s : Sp), l.foldlM (b.szStep z since) o = some s → o.lo ≤ s.lo ∧ s.hi ≤ o.hi
  | [], o, s, h => by cases h; omega
  | p :: l, o, s, h => by
    rw [List.foldlM_cons] at h
    cases hp : b.szStep z since o p with
    | none => rw [hp] at h; cases h
    | some o' =>
      rw [hp] at h
      have h1 := szStep_range hp
      have h2 := szFold_range l o' s h
      omega
theorem mem_pairsOf {l : List Kn} {p : Kn × Kn} : p ∈ pairsOf l ↔ ∃ i, i < l.length ∧ ∃ k, k < i ∧ p = ordP l k i := by
  simp only [pairsOf, pairsTo, List.range_zero, List.map_nil, List.append_nil, List.mem_flatMap, List.mem_map, List.mem_range]
  constructor
  · rintro ⟨i, hi, k, hk, rfl⟩; exact ⟨i, hi, k, hk, rfl⟩
  · rintro ⟨i, hi, k, hk, rfl⟩; exact ⟨i, hi, k, hk, rfl⟩
theorem pairsOf_all {l : List Kn} {Q : Kn → Kn → Prop} (hr : ∀ x, x ∈ l → Q x x) (hs : ∀ x y, x ∈ l → y ∈ l → x.day = y.day → Q x y → Q y x) : (∀ p, p ∈ pairsOf l → Q p.1 p.2) ↔ ∀ x y, x ∈ l → y ∈ l → x.day ≤ y.day → Q x y := by
  constructor
  · intro h x y hx hy hd
    obtain ⟨i, hi, rfl⟩ := List.getElem_of_mem hx
    obtain ⟨k, hk, rfl⟩ := List.getElem_of_mem hy
    have ei : knAt l i = l[i] := by simp [knAt, hi]
    have ek : knAt l k = l[k] := by simp [knAt, hk]
    by_cases h1 : k < i
    · have := h _ (mem_pairsOf.2 ⟨i, hi, k, h1, rfl⟩)
      unfold ordP at this
      rw [ei, ek] at this
      split at this
      · exact this
      · exact hs _ _ hy hx (by omega) this
    · by_cases h2 : i < k
      · have := h _ (mem_pairsOf.2 ⟨k, hk, i, h2, rfl⟩)
        unfold ordP at this
        rw [ei, ek, if_neg (by omega)] at this
        exact this
      · obtain rfl : i = k := by omega
        exact hr _ hx
  · intro h p hp
    obtain ⟨i, hi, k, hk, rfl⟩ := mem_pairsOf.1 hp
    have := ordP_mem (l := l) (show k < l.length by omega) hi
    exact h _ _ this.1 this.2 (ordP_day l k i)
theorem szOk_all {b : Bk} (ok : Ok b) {z : Nat} (hz : z < b.first.length) {n since : Int} (hs : 0 ≤ since) : (∀ p, p ∈ pairsOf (b.allK z) → b.szOk z since n p.1 p.2) ↔ b.zoneB ⟨z, n, since⟩ z = true := by
  have hday : ∀ x, x ∈ b.allK z → -1 ≤ x.day ∧ x.day < b.flows.length ∧ x.v.lo ≤ x.v.hi := fun x hx => by
    have := mem_allK ok hz hx; omega
  have same : ∀ x y : Kn, x.day = y.day → (b.szOk z since n x y ↔ x.v.lo ≤ y.v.hi ∧ y.v.lo ≤ x.v.hi) := by
    intro x y h
    have h1 : (b.came z x.day y.day) = ⟨0, 0⟩ := by unfold Bk.came; rw [show (y.day - x.day).toNat = 0 by omega]; rfl
    have h2 : leakDays since x y = 0 := by unfold leakDays; omega
    unfold Bk.szOk
    rw [h1, h2, Int.mul_zero]
    simp only
    omega
  rw [pairsOf_all (fun x hx => (same x x rfl).2 ⟨(hday x hx).2.2, (hday x hx).2.2⟩) (fun x y hx hy hd h => (same y x hd.symm).2 (by have := (same x y hd).1 h; omega)), zone_pairs ok hz]
  constructor
  · intro h x y hx hy hd
    exact (pairOk_sz hs (hday x hx).1 hd).2 (h x y hx hy hd)
  · intro h x y hx hy hd
    exact (pairOk_sz hs (hday x hx).1 hd).1 (h x y hx hy hd)
theorem oth_agree {b : Bk} (ok : Ok b) {z : Nat} : (b.others z).agreeB noGs = true ↔ ∀ i, i < b.first.length → i ≠ z → b.zoneB noGs i = true := by
  have same : ∀ i, i ≠ z → (b.others z).zoneB noGs i = b.zoneB noGs i := by
    intro i hi
    refine zone_congr rfl rfl (fun d => rfl) fun d => ?_
    unfold Bk.readsAt Bk.others
    simp only [List.filter_filter]
    congr 1
    apply List.filter_congr
    intro r _
    by_cases h : r.zone = (i : Int)
    · have : r.zone ≠ (z : Int) := by omega
      simp [h]; omega
    · simp [h]
  have own : z < b.first.length → (b.others z).zoneB noGs z = true := by
    intro hz
    rw [zone_pairs (oth_ok ok z) hz]
    have only : ∀ x, x ∈ (b.others z).allK z → x = ⟨-1, spAt b.first z⟩ := by
      intro x hx
      rcases mem_allK_iff.1 hx with h | ⟨r, hr, hrz, _⟩
      · exact h
      · have := (List.mem_filter.1 hr).2
        simp at this; omega
    intro x y hx hy _
    rw [only x hx, only y hy]
    have := ok.first z hz
    unfold Bk.pairOk
    simp only
    omega
  rw [Bk.agreeB, List.all_eq_true]
  constructor
  · intro h i hi hiz
    have := h i (List.mem_range.2 hi)
    rwa [same i hiz] at this
  · intro h i hi
    have hi' : i < b.first.length := List.mem_range.1 hi
    by_cases hiz : i = z
    · subst hiz; exact own hi'
    · rw [same i hiz]; exact h i hi' hiz
theorem agree_leak {b : Bk} {z : Nat} (hz : z < b.first.length) {n since : Int} : b.agreeB ⟨z, n, since⟩ = true ↔ b.zoneB ⟨z, n, since⟩ z = true ∧ ∀ i, i < b.first.length → i ≠ z → b.zoneB noGs i = true := by
  have same : ∀ i, i ≠ z → b.zoneB ⟨z, n, since⟩ i = b.zoneB noGs i := by
    intro i hi
    refine zone_congr rfl rfl (fun d => ?_) fun d => rfl
    have : lost ⟨z, n, since⟩ i d = 0 := by unfold lost; rw [if_neg]; rintro ⟨h, -⟩; simp only at h; omega
    simp only [Bk.comes, this, lost_none]
  rw [Bk.agreeB, List.all_eq_true]
  constructor
  · intro h
    refine ⟨h z (List.mem_range.2 hz), fun i hi hiz => ?_⟩
    have := h i (List.mem_range.2 hi)
    rwa [same i hiz] at this
  · rintro ⟨h1, h2⟩ i hi
    by_cases hiz : i = z
    · subst hiz; exact h1
    · rw [same i hiz]; exact h2 i (List.mem_range.1 hi) hiz
/-- A guess agrees just if its size is among those that are told. -/
theorem sizes_agree {b : Bk} (ok : Ok b) {z : Nat} (hz : z < b.first.length) {n since : Int} (hs : 0 ≤ since) (hn : 1 ≤ n ∧ n ≤ 10000000) : (b.sizesK z since).lo ≤ n ∧ n ≤ (b.sizesK z since).hi ↔ b.agreeB ⟨z, n, since⟩ = true := by
  rw [agree_leak hz, ← szOk_all ok hz hs, Bk.sizesK]
  have ho := oth_agree ok (z := z)
  have hf := szFold_in (b := b) (z := z) (since := since) hn (pairsOf (b.allK z)) ⟨1, 10000000⟩
  by_cases h : (b.others z).agreeB noGs = true
  · rw [if_pos h]
    rw [ho] at h
    constructor
    · intro hh
      cases hp : b.szAll z since (pairsOf (b.allK z)) with
      | none => rw [hp] at hh; simp only [Option.getD_none] at hh; omega
      | some s => rw [hp] at hh; exact ⟨(hf.1 ⟨s, hp, hh⟩).2, h⟩
    · rintro ⟨h1, _⟩
      obtain ⟨s, hs, hh⟩ := hf.2 ⟨hn, h1⟩
      have hs' : b.szAll z since (pairsOf (b.allK z)) = some s := hs
      rw [hs']; exact hh
  · rw [if_neg h]
    rw [ho] at h
    constructor
    · intro hh; simp only at hh; omega
    · rintro ⟨_, h2⟩; exact (h h2).elim
theorem sizes_range {b : Bk} {z : Nat} {since : Int} : (b.sizesK z since).lo ≤ (b.sizesK z since).hi → 1 ≤ (b.sizesK z since).lo ∧ (b.sizesK z since).hi ≤ 10000000 := by
  rw [Bk.sizesK]
  split
  · cases hp : b.szAll z since (pairsOf (b.allK z)) with
    | none => simp
    | some s => intro _; exact szFold_range _ _ _ hp
  · simp
end Lk
