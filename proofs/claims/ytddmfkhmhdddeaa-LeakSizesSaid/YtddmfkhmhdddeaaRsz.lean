/- The plain law of the reference's sizes: all pairs of times tell the same sizes as all pairs of what is known (no Go in sight). -/
import Derived.Test.YtddmfkhmhdddeaaSzl
import Derived.Test.YtddmfkhmhdddeaaDn
set_option linter.unusedVariables false
set_option linter.unusedSimpArgs false
namespace Lk
def wideSp : Sp := ⟨-2000000000, 2000000000⟩
/-- What is known of a zone ahead of day 0, and at the end of a day. -/
def Bk.atK (b : Bk) (z : Nat) : Nat → Sp
  | 0 => spAt b.first z
  | d + 1 => meets wideSp (b.readsAt z d)
/-- How many of r days from day i on leak. -/
def rsDays (since : Int) (i : Nat) : Nat → Int
  | 0 => 0
  | r + 1 => rsDays since i r + (if since ≤ ((i + r : Nat) : Int) then 1 else 0)
def Bk.rsM (b : Bk) (z i r : Nat) : Sp := ⟨(b.atK z i).lo + (b.camN z i (r + 1)).lo - (b.atK z (i + r + 1)).hi, (b.atK z i).hi + (b.camN z i (r + 1)).hi - (b.atK z (i + r + 1)).lo⟩
def Bk.rsStep (b : Bk) (z : Nat) (since : Int) (i : Nat) (o : Sp) (r : Nat) : Option Sp :=
  if b.atK z (i + r + 1) = wideSp ∨ (1 ≤ i ∧ b.atK z i = wideSp) then some o
  else if rsDays since i (r + 1) = 0 then (if 0 < (b.rsM z i r).lo ∨ (b.rsM z i r).hi < 0 then none else some o)
  else some (meet o ⟨Go.Proofs.Ytddmfkhmhdddeaa.upI (b.rsM z i r).lo (rsDays since i (r + 1)), Go.Proofs.Ytddmfkhmhdddeaa.dnI (b.rsM z i r).hi (rsDays since i (r + 1))⟩)
def Bk.rsIn (b : Bk) (z : Nat) (since : Int) (i : Nat) (o : Sp) : Nat → Option Sp
  | 0 => some o
  | r + 1 => (Bk.rsIn b z since i o r).bind fun o => b.rsStep z since i o r
def Bk.rsRow (b : Bk) (z : Nat) (since : Int) (i : Nat) (o : Sp) : Option Sp := if (b.atK z i).hi < (b.atK z i).lo then none else b.rsIn z since i o (b.flows.length - i)
def Bk.rsOut (b : Bk) (z : Nat) (since : Int) : Nat → Option Sp
  | 0 => some ⟨1, 10000000⟩
  | i + 1 => (Bk.rsOut b z since i).bind fun o => b.rsRow z since i o
def Bk.othOk (b : Bk) (z : Nat) : Bool := (List.range b.first.length).all fun i => b.zoneB noGs i || decide (i = z)
def Bk.rsR (b : Bk) (z : Nat) (since : Int) : Sp × Bool := if b.othOk z = false then (⟨0, 0⟩, false) else match b.rsOut z since (b.flows.length + 1) with
  | none => (⟨0, 0⟩, false)
  | some o => (o, decide (o.lo ≤ o.hi))

theorem rsDays_eq {since : Int} (h : 0 ≤ since) {i : Nat} : ∀ r, rsDays since i r = max 0 (((i + r : Nat) : Int) - max (i : Int) since)
  | 0 => by simp only [rsDays]; omega
  | r + 1 => by rw [rsDays, rsDays_eq h r]; split <;> omega
theorem atK_wide {b : Bk} (ok : Ok b) {z d : Nat} (h : b.atK z (d + 1) = wideSp) : b.readsAt z d = [] := by
  cases hl : b.readsAt z d with
  | nil => rfl
  | cons x l =>
    have hx := mem_readsAt ok (show x ∈ b.readsAt z d by rw [hl]; exact List.mem_cons_self)
    rw [Bk.atK, hl] at h
    have h1 := (meets_lo (y := wideSp.lo) (x :: l) wideSp).1 (by rw [h]; exact Int.le_refl _)
    have := h1.2 x List.mem_cons_self
    simp only [wideSp] at this
    omega
theorem atK_lo {b : Bk} (ok : Ok b) {z k : Nat} (h : k = 0 ∨ b.atK z k ≠ wideSp) (v : Int) : (b.atK z k).lo ≤ v ↔ ∀ x, x ∈ b.allK z → x.day = (k : Int) - 1 → x.v.lo ≤ v := by
  cases k with
  | zero =>
    constructor
    · intro hv x hx hd
      rcases mem_allK_iff.1 hx with rfl | ⟨r, hr, _, rfl⟩
      · exact hv
      · have := rd_day ok hr; simp only at hd; omega
    · intro hv; exact hv _ (mem_allK_iff.2 (.inl rfl)) (by simp)
  | succ d =>
    have hne : b.readsAt z d ≠ [] := by
      intro h0
      rcases h with h | h
      · omega
      · exact h (by rw [Bk.atK, h0]; rfl)
    rw [Bk.atK, meets_lo]
    constructor
    · rintro ⟨_, hv⟩ x hx hd
      rcases mem_allK_iff.1 hx with rfl | ⟨r, hr, hz, rfl⟩
      · simp only at hd; omega
      · exact hv r.v (mem_readsAt_iff.2 ⟨r, hr, hz, by simp only at hd; omega, rfl⟩)
    · intro hv
      have key : ∀ s, s ∈ b.readsAt z d → s.lo ≤ v := fun s hs => by
        obtain ⟨r, hr, hz, hd, rfl⟩ := mem_readsAt_iff.1 hs
        exact hv ⟨r.day, r.v⟩ (mem_allK_iff.2 (.inr ⟨r, hr, hz, rfl⟩)) (by simp only; omega)
      refine ⟨?_, key⟩
      obtain ⟨s, hs⟩ := List.exists_mem_of_ne_nil _ hne
      have h1 := key s hs
      have h2 := mem_readsAt ok hs
      simp only [wideSp]; omega
theorem atK_hi {b : Bk} (ok : Ok b) {z k : Nat} (h : k = 0 ∨ b.atK z k ≠ wideSp) (v : Int) : v ≤ (b.atK z k).hi ↔ ∀ x, x ∈ b.allK z → x.day = (k : Int) - 1 → v ≤ x.v.hi := by
  cases k with
  | zero =>
    constructor
    · intro hv x hx hd
      rcases mem_allK_iff.1 hx with rfl | ⟨r, hr, _, rfl⟩
      · exact hv
      · have := rd_day ok hr; simp only at hd; omega
    · intro hv; exact hv _ (mem_allK_iff.2 (.inl rfl)) (by simp)
  | succ d =>
    have hne : b.readsAt z d ≠ [] := by
      intro h0
      rcases h with h | h
      · omega
      · exact h (by rw [Bk.atK, h0]; rfl)
    rw [Bk.atK, meets_hi]
    constructor
    · rintro ⟨_, hv⟩ x hx hd
      rcases mem_allK_iff.1 hx with rfl | ⟨r, hr, hz, rfl⟩
      · simp only at hd; omega
      · exact hv r.v (mem_readsAt_iff.2 ⟨r, hr, hz, by simp only at hd; omega, rfl⟩)
    · intro hv
      have key : ∀ s, s ∈ b.readsAt z d → v ≤ s.hi := fun s hs => by
        obtain ⟨r, hr, hz, hd, rfl⟩ := mem_readsAt_iff.1 hs
        exact hv ⟨r.day, r.v⟩ (mem_allK_iff.2 (.inr ⟨r, hr, hz, rfl⟩)) (by simp only; omega)
      refine ⟨?_, key⟩
      obtain ⟨s, hs⟩ := List.exists_mem_of_ne_nil _ hne
      have h1 := key s hs
      have h2 := mem_readsAt ok hs
      simp only [wideSp]; omega
theorem no_reads {b : Bk} (ok : Ok b) {z d : Nat} (h : b.atK z (d + 1) = wideSp) : ∀ x, x ∈ b.allK z → x.day = (d : Int) → False := by
  intro x hx hd
  rcases mem_allK_iff.1 hx with rfl | ⟨r, hr, hz, rfl⟩
  · simp only at hd; omega
  · have : r.v ∈ b.readsAt z d := mem_readsAt_iff.2 ⟨r, hr, hz, hd, rfl⟩
    rw [atK_wide ok h] at this; cases this
/-- Whether a size suits all that is known at two times. -/
def Bk.rsOkB (b : Bk) (z : Nat) (since n : Int) (i r : Nat) : Prop := ∀ x y, x ∈ b.allK z → y ∈ b.allK z → x.day = (i : Int) - 1 → y.day = ((i + r : Nat) : Int) → b.szOk z since n x y
theorem rsStep_in {b : Bk} (ok : Ok b) {z : Nat} {since n : Int} (hs : 0 ≤ since) (hn : 1 ≤ n ∧ n ≤ 10000000) (i r : Nat) (o : Sp) :
    (∃ s, b.rsStep z since i o r = some s ∧ s.lo ≤ n ∧ n ≤ s.hi) ↔ (o.lo ≤ n ∧ n ≤ o.hi) ∧ b.rsOkB z since n i r := by
  unfold Bk.rsStep
  by_cases hw : b.atK z (i + r + 1) = wideSp ∨ (1 ≤ i ∧ b.atK z i = wideSp)
  · rw [if_pos hw]
    have hv : b.rsOkB z since n i r := by
      intro x y hx hy hxd hyd
      rcases hw with h | ⟨h1, h⟩
      · exact (no_reads ok h y hy hyd).elim
      · obtain ⟨d, rfl⟩ : ∃ d, i = d + 1 := ⟨i - 1, by omega⟩
        exact (no_reads ok h x hx (by omega)).elim
    constructor
    · rintro ⟨s, h, h1⟩; cases h; exact ⟨h1, hv⟩
    · rintro ⟨h, _⟩; exact ⟨o, rfl, h⟩
  · rw [if_neg hw]
    have hz2 : b.atK z (i + r + 1) ≠ wideSp := fun h => hw (.inl h)
    have ha2 : i = 0 ∨ b.atK z i ≠ wideSp := by
      by_cases h : i = 0
      · exact .inl h
      · exact .inr fun h' => hw (.inr ⟨by omega, h'⟩)
    have hD := rsDays_eq hs (i := i) (r + 1)
    have hM : b.rsOkB z since n i r ↔ (b.rsM z i r).lo ≤ n * rsDays since i (r + 1) ∧ n * rsDays since i (r + 1) ≤ (b.rsM z i r).hi := by
      have hl : ∀ x y : Kn, x.day = (i : Int) - 1 → y.day = ((i + r : Nat) : Int) → leakDays since x y = rsDays since i (r + 1) ∧ b.came z x.day y.day = b.camN z i (r + 1) := by
        intro x y hx hy
        refine ⟨by unfold leakDays; rw [hD]; omega, ?_⟩
        unfold Bk.came
        rw [show (x.day + 1).toNat = i by omega, show (y.day - x.day).toNat = r + 1 by omega]
      generalize rsDays since i (r + 1) = D at *
      generalize hN : n * D = N at *
      unfold Bk.rsM
      simp only
      have h1 := fun v => atK_lo ok ha2 v
      have h2 := fun v => atK_hi ok (.inr hz2) v
      have h3 := fun v => atK_hi ok ha2 v
      have h4 := fun v => atK_lo ok (.inr hz2) v
      generalize b.camN z i (r + 1) = c at *
      have ey : ∀ y : Kn, y.day = ((i + r + 1 : Nat) : Int) - 1 ↔ y.day = ((i + r : Nat) : Int) := fun y => by omega
      have e1 : (b.atK z i).lo + c.lo - (b.atK z (i + r + 1)).hi ≤ N ↔ ∀ x y, x ∈ b.allK z → y ∈ b.allK z → x.day = (i : Int) - 1 → y.day = ((i + r : Nat) : Int) → x.v.lo + c.lo - y.v.hi ≤ N := by
        constructor
        · intro h x y hx hy hxd hyd
          have a := (h1 _).1 (Int.le_refl _) x hx hxd
          have d := (h2 _).1 (Int.le_refl _) y hy ((ey y).2 hyd)
          omega
        · intro h
          have : (b.atK z i).lo ≤ N - c.lo + (b.atK z (i + r + 1)).hi := (h1 _).2 fun x hx hxd => by
            have : x.v.lo + c.lo - N ≤ (b.atK z (i + r + 1)).hi := (h2 _).2 fun y hy hyd => by
              have := h x y hx hy hxd ((ey y).1 hyd); omega
            omega
          omega
      have e2 : N ≤ (b.atK z i).hi + c.hi - (b.atK z (i + r + 1)).lo ↔ ∀ x y, x ∈ b.allK z → y ∈ b.allK z → x.day = (i : Int) - 1 → y.day = ((i + r : Nat) : Int) → N ≤ x.v.hi + c.hi - y.v.lo := by
        constructor
        · intro h x y hx hy hxd hyd
          have a := (h3 _).1 (Int.le_refl _) x hx hxd
          have d := (h4 _).1 (Int.le_refl _) y hy ((ey y).2 hyd)
          omega
        · intro h
          have : N - c.hi + (b.atK z (i + r + 1)).lo ≤ (b.atK z i).hi := (h3 _).2 fun x hx hxd => by
            have : (b.atK z (i + r + 1)).lo ≤ x.v.hi + c.hi - N := (h4 _).2 fun y hy hyd => by
              have := h x y hx hy hxd ((ey y).1 hyd); omega
            omega
          omega
      rw [e1, e2]
      constructor
      · intro h
        refine ⟨fun x y hx hy hxd hyd => ?_, fun x y hx hy hxd hyd => ?_⟩
        · have := (h x y hx hy hxd hyd).1
          rw [(hl x y hxd hyd).1, (hl x y hxd hyd).2, hN] at this
          exact this
        · have := (h x y hx hy hxd hyd).2
          rw [(hl x y hxd hyd).1, (hl x y hxd hyd).2, hN] at this
          exact this
      · rintro ⟨ha, hb⟩ x y hx hy hxd hyd
        unfold Bk.szOk
        rw [(hl x y hxd hyd).1, (hl x y hxd hyd).2, hN]
        exact ⟨ha x y hx hy hxd hyd, hb x y hx hy hxd hyd⟩
    rw [hM]
    generalize b.rsM z i r = m
    by_cases h0 : rsDays since i (r + 1) = 0
    · rw [if_pos h0, h0, Int.mul_zero]
      by_cases hb : 0 < m.lo ∨ m.hi < 0
      · rw [if_pos hb]
        constructor
        · rintro ⟨s, h, _⟩; cases h
        · rintro ⟨_, h1, h2⟩; omega
      · rw [if_neg hb]
        constructor
        · rintro ⟨s, h, h1⟩; cases h; exact ⟨h1, by omega, by omega⟩
        · rintro ⟨h, _⟩; exact ⟨o, rfl, h⟩
    · rw [if_neg h0]
      have hD1 : 0 < rsDays since i (r + 1) := by omega
      generalize rsDays since i (r + 1) = D at *
      have e1 : n ≤ Go.Proofs.Ytddmfkhmhdddeaa.dnI m.hi D ↔ n * D ≤ m.hi := by rw [Go.Proofs.Ytddmfkhmhdddeaa.dnI_eq hD1]; exact Int.le_ediv_iff_mul_le hD1
      have e2 : Go.Proofs.Ytddmfkhmhdddeaa.upI m.lo D ≤ n ↔ m.lo ≤ n * D := by
        unfold Go.Proofs.Ytddmfkhmhdddeaa.upI
        rw [Go.Proofs.Ytddmfkhmhdddeaa.dnI_eq hD1]
        have h1 : -n ≤ -m.lo / D ↔ -n * D ≤ -m.lo := Int.le_ediv_iff_mul_le hD1
        rw [Int.neg_mul] at h1
        omega
      constructor
      · rintro ⟨s, h, h1, h2⟩
        cases h
        simp only [meet] at h1 h2
        exact ⟨⟨by omega, by omega⟩, e2.1 (by omega), e1.1 (by omega)⟩
      · rintro ⟨⟨h1, h2⟩, h3, h4⟩
        refine ⟨_, rfl, ?_, ?_⟩
        · have := e2.2 h3; simp only [meet]; omega
        · have := e1.2 h4; simp only [meet]; omega
theorem rsStep_range {b : Bk} {z : Nat} {since : Int} {i r : Nat} {o s : Sp} (h : b.rsStep z since i o r = some s) : o.lo ≤ s.lo ∧ s.hi ≤ o.hi := by
  unfold Bk.rsStep at h
  split at h
  · cases h; omega
  · split at h
    · split at h
      · cases h
      · cases h; omega
    · cases h; simp only [meet]; omega
theorem rsIn_in {b : Bk} (ok : Ok b) {z : Nat} {since n : Int} (hs : 0 ≤ since) (hn : 1 ≤ n ∧ n ≤ 10000000) (i : Nat) (o : Sp) : ∀ r,
    (∃ s, b.rsIn z since i o r = some s ∧ s.lo ≤ n ∧ n ≤ s.hi) ↔ (o.lo ≤ n ∧ n ≤ o.hi) ∧ ∀ q, q < r → b.rsOkB z since n i q
  | 0 => by
    constructor
    · rintro ⟨s, h, h1⟩; cases h; exact ⟨h1, fun q hq => by omega⟩
    · rintro ⟨h, _⟩; exact ⟨o, rfl, h⟩
  | r + 1 => by
    have ih := rsIn_in ok hs hn (z := z) i o r
    rw [Bk.rsIn]
    constructor
    · rintro ⟨s, h, h1⟩
      cases hp : b.rsIn z since i o r with
      | none => rw [hp] at h; cases h
      | some o' =>
        rw [hp] at h
        have h2 := (rsStep_in ok hs hn i r o').1 ⟨s, h, h1⟩
        have h3 := ih.1 ⟨o', hp, h2.1⟩
        refine ⟨h3.1, fun q hq => ?_⟩
        rcases Nat.lt_succ_iff_lt_or_eq.1 hq with h' | rfl
        · exact h3.2 q h'
        · exact h2.2
    · rintro ⟨h, hq⟩
      obtain ⟨o', hp, h1⟩ := ih.2 ⟨h, fun q hq' => hq q (by omega)⟩
      obtain ⟨s, h2, h3⟩ := (rsStep_in ok hs hn i r o').2 ⟨h1, hq r (by omega)⟩
      exact ⟨s, by rw [hp]; exact h2, h3⟩
theorem rsIn_range {b : Bk} {z : Nat} {since : Int} {i : Nat} {o : Sp} : ∀ r s, b.rsIn z since i o r = some s → o.lo ≤ s.lo ∧ s.hi ≤ o.hi
  | 0, s, h => by cases h; omega
  | r + 1, s, h => by
    rw [Bk.rsIn] at h
    cases hp : b.rsIn z since i o r with
    | none => rw [hp] at h; cases h
    | some o' =>
      rw [hp] at h
      have h1 := rsIn_range r o' hp
      have h2 := rsStep_range h
      omega
theorem rsRow_in {b : Bk} (ok : Ok b) {z : Nat} {since n : Int} (hs : 0 ≤ since) (hn : 1 ≤ n ∧ n ≤ 10000000) (i : Nat) (o : Sp) :
    (∃ s, b.rsRow z since i o = some s ∧ s.lo ≤ n ∧ n ≤ s.hi) ↔ (o.lo ≤ n ∧ n ≤ o.hi) ∧ (∀ x y, x ∈ b.allK z → y ∈ b.allK z → x.day = (i : Int) - 1 → y.day = (i : Int) - 1 → x.v.lo ≤ y.v.hi) ∧ ∀ q, q < b.flows.length - i → b.rsOkB z since n i q := by
  have hin := rsIn_in ok hs hn (z := z) i o (b.flows.length - i)
  have hsame : ¬ (b.atK z i).hi < (b.atK z i).lo ↔ ∀ x y, x ∈ b.allK z → y ∈ b.allK z → x.day = (i : Int) - 1 → y.day = (i : Int) - 1 → x.v.lo ≤ y.v.hi := by
    by_cases h : i = 0 ∨ b.atK z i ≠ wideSp
    · have h1 := fun v => atK_lo ok h v
      have h2 := fun v => atK_hi ok h v
      constructor
      · intro h x y hx hy hxd hyd
        have a := (h1 _).1 (Int.le_refl _) x hx hxd
        have d := (h2 _).1 (Int.le_refl _) y hy hyd
        omega
      · intro h
        have : (b.atK z i).lo ≤ (b.atK z i).hi := (h1 _).2 fun x hx hxd => (h2 _).2 fun y hy hyd => h x y hx hy hxd hyd
        omega
    · have hw : b.atK z i = wideSp := Classical.byContradiction fun h' => h (.inr h')
      obtain ⟨d, rfl⟩ : ∃ d, i = d + 1 := ⟨i - 1, by omega⟩
      constructor
      · intro _ x y hx hy hxd _; exact (no_reads ok hw x hx (by omega)).elim
      · intro _; rw [hw]; decide
  unfold Bk.rsRow
  by_cases h : (b.atK z i).hi < (b.atK z i).lo
  · rw [if_pos h]
    constructor
    · rintro ⟨s, h', _⟩; cases h'
    · rintro ⟨_, h', _⟩; exact (hsame.2 h' h).elim
  · rw [if_neg h, hin]
    constructor
    · rintro ⟨h1, h2⟩; exact ⟨h1, hsame.1 h, h2⟩
    · rintro ⟨h1, _, h2⟩; exact ⟨h1, h2⟩
theorem rsOut_in {b : Bk} (ok : Ok b) {z : Nat} {since n : Int} (hs : 0 ≤ since) (hn : 1 ≤ n ∧ n ≤ 10000000) : ∀ k,
    (∃ s, b.rsOut z since k = some s ∧ s.lo ≤ n ∧ n ≤ s.hi) ↔ ∀ i, i < k → (∀ x y, x ∈ b.allK z → y ∈ b.allK z → x.day = (i : Int) - 1 → y.day = (i : Int) - 1 → x.v.lo ≤ y.v.hi) ∧ ∀ q, q < b.flows.length - i → b.rsOkB z since n i q
  | 0 => by
    constructor
    · rintro _ i hi; omega
    · intro _; exact ⟨_, rfl, hn⟩
  | k + 1 => by
    have ih := rsOut_in ok hs hn (z := z) k
    rw [Bk.rsOut]
    constructor
    · rintro ⟨s, h, h1⟩
      cases hp : b.rsOut z since k with
      | none => rw [hp] at h; cases h
      | some o' =>
        rw [hp] at h
        have h2 := (rsRow_in ok hs hn k o').1 ⟨s, h, h1⟩
        have h3 := ih.1 ⟨o', hp, h2.1⟩
        intro i hi
        rcases Nat.lt_succ_iff_lt_or_eq.1 hi with h' | rfl
        · exact h3 i h'
        · exact h2.2
    · intro h
      obtain ⟨o', hp, h1⟩ := ih.2 fun i hi => h i (by omega)
      obtain ⟨s, h2, h3⟩ := (rsRow_in ok hs hn k o').2 ⟨h1, h k (by omega)⟩
      exact ⟨s, by rw [hp]; exact h2, h3⟩
theorem rsOut_range {b : Bk} {z : Nat} {since : Int} : ∀ k s, b.rsOut z since k = some s → 1 ≤ s.lo ∧ s.hi ≤ 10000000
  | 0, s, h => by cases h; exact ⟨by simp, by simp⟩
  | k + 1, s, h => by
    rw [Bk.rsOut] at h
    cases hp : b.rsOut z since k with
    | none => rw [hp] at h; cases h
    | some o' =>
      rw [hp] at h
      have h1 := rsOut_range k o' hp
      have h2 : b.rsRow z since k o' = some s := h
      unfold Bk.rsRow at h2
      split at h2
      · cases h2
      · have := rsIn_range _ _ h2
        omega
theorem othOk_iff {b : Bk} {z : Nat} : b.othOk z = true ↔ ∀ i, i < b.first.length → i ≠ z → b.zoneB noGs i = true := by
  unfold Bk.othOk
  rw [List.all_eq_true]
  constructor
  · intro h i hi hiz
    have := h i (List.mem_range.2 hi)
    simpa [hiz] using this
  · intro h i hi
    by_cases hiz : i = z
    · simp [hiz]
    · simp [h i (List.mem_range.1 hi) hiz]
/-- What the reference's pairs tell. -/
theorem rs_agree {b : Bk} (ok : Ok b) {z : Nat} (hz : z < b.first.length) {n since : Int} (hs : 0 ≤ since) (hn : 1 ≤ n ∧ n ≤ 10000000) :
    b.othOk z = true → ((∃ s, b.rsOut z since (b.flows.length + 1) = some s ∧ s.lo ≤ n ∧ n ≤ s.hi) ↔ b.agreeB ⟨z, n, since⟩ = true) := by
  intro ho
  rw [agree_leak hz, rsOut_in ok hs hn, ← szOk_all ok hz hs]
  have hday : ∀ x, x ∈ b.allK z → -1 ≤ x.day ∧ x.day < b.flows.length ∧ x.v.lo ≤ x.v.hi := fun x hx => by
    have := mem_allK ok hz hx; omega
  have same : ∀ x y : Kn, x.day = y.day → (b.szOk z since n x y ↔ x.v.lo ≤ y.v.hi ∧ y.v.lo ≤ x.v.hi) := by
    intro x y h
    have h1 : (b.came z x.day y.day) = ⟨0, 0⟩ := by unfold Bk.came; rw [show (y.day - x.day).toNat = 0 by omega]; rfl
    have h2 : leakDays since x y = 0 := by unfold leakDays; omega
    unfold Bk.szOk
    rw [h1, h2, Int.mul_zero]
    simp only
    omega
  rw [pairsOf_all (fun x hx => (same x x rfl).2 ⟨(hday x hx).2.2, (hday x hx).2.2⟩) (fun x y hx hy hd h => (same y x hd.symm).2 (by have := (same x y hd).1 h; omega))]
  constructor
  · intro h
    refine ⟨fun x y hx hy hd => ?_, othOk_iff.1 ho⟩
    have hxd := hday x hx
    have hyd := hday y hy
    have hi := h (x.day + 1).toNat (by omega)
    by_cases he : x.day = y.day
    · exact (same x y he).2 ⟨hi.1 x y hx hy (by omega) (by omega), hi.1 y x hy hx (by omega) (by omega)⟩
    · exact hi.2 (y.day - (x.day + 1)).toNat (by omega) x y hx hy (by omega) (by omega)
  · rintro ⟨h, _⟩ i hi
    refine ⟨fun x y hx hy hxd hyd => ((same x y (by omega)).1 (h x y hx hy (by omega))).1, fun q hq x y hx hy hxd hyd => h x y hx hy (by omega)⟩
/-- The reference's sizes are the program's. -/
theorem rs_eq {b : Bk} (ok : Ok b) {z : Nat} (hz : z < b.first.length) {since : Int} (hs : 0 ≤ since) :
    (b.rsR z since).2 = decide ((b.sizesK z since).lo ≤ (b.sizesK z since).hi) ∧ ((b.rsR z since).2 = true → (b.rsR z since).1 = b.sizesK z since) := by
  have hr := sizes_range (b := b) (z := z) (since := since)
  have hin := fun n hn => sizes_agree ok hz (n := n) hs hn
  cases ho : b.othOk z
  · have hno : ¬ (b.sizesK z since).lo ≤ (b.sizesK z since).hi := by
      intro h
      have h1 := hr h
      have h2 := (hin (b.sizesK z since).lo (by omega)).1 ⟨Int.le_refl _, h⟩
      rw [agree_leak hz] at h2
      rw [othOk_iff.2 h2.2] at ho; cases ho
    unfold Bk.rsR
    rw [if_pos ho]
    exact ⟨by simp [hno], fun h => by cases h⟩
  · have hag := fun n hn => rs_agree ok hz (n := n) hs hn ho
    unfold Bk.rsR
    rw [if_neg (by rw [ho]; simp)]
    cases hp : b.rsOut z since (b.flows.length + 1) with
    | none =>
      have hno : ¬ (b.sizesK z since).lo ≤ (b.sizesK z since).hi := by
        intro h
        have h1 := hr h
        obtain ⟨s, h2, _⟩ := (hag (b.sizesK z since).lo (by omega)).2 ((hin (b.sizesK z since).lo (by omega)).1 ⟨Int.le_refl _, h⟩)
        rw [hp] at h2; cases h2
      exact ⟨by simp [hno], fun h => by cases h⟩
    | some o =>
      have hor := rsOut_range _ _ hp
      have iff : ∀ n, 1 ≤ n ∧ n ≤ 10000000 → (o.lo ≤ n ∧ n ≤ o.hi ↔ (b.sizesK z since).lo ≤ n ∧ n ≤ (b.sizesK z since).hi) := by
        intro n hn
        rw [hin n hn, ← hag n hn]
        constructor
        · intro h; exact ⟨o, hp, h⟩
        · rintro ⟨s, h1, h2⟩; rw [hp] at h1; cases h1; exact h2
      have key : o.lo ≤ o.hi ↔ (b.sizesK z since).lo ≤ (b.sizesK z since).hi := by
        constructor
        · intro h; have := (iff o.lo (by omega)).1 ⟨Int.le_refl _, h⟩; omega
        · intro h; have h1 := hr h; have := (iff (b.sizesK z since).lo (by omega)).2 ⟨Int.le_refl _, h⟩; omega
      refine ⟨by simp only [key], fun h => ?_⟩
      simp only [decide_eq_true_eq] at h
      have h2 := key.1 h
      have h1 := hr h2
      have a := (iff o.lo (by omega)).1 ⟨Int.le_refl _, h⟩
      have c := (iff o.hi (by omega)).1 ⟨h, Int.le_refl _⟩
      have d := (iff (b.sizesK z since).lo (by omega)).2 ⟨Int.le_refl _, h2⟩
      have e := (iff (b.sizesK z since).hi (by omega)).2 ⟨h2, Int.le_refl _⟩
      show o = b.sizesK z since
      obtain ⟨ol, oh⟩ := o
      generalize b.sizesK z since = sk at *
      obtain ⟨sl, sh⟩ := sk
      simp only at a c d e
      congr 1 <;> omega
end Lk
