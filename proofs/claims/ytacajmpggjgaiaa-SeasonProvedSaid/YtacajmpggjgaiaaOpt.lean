/- Plain: no plan that holds costs less than the cheapest one, nor as much and comes before. -/
import Derived.Test.YtacajmpggjgaiaaPly
import Derived.Test.YtacajmpggjgaiaaTab2
set_option linter.unusedVariables false
set_option linter.unusedSimpArgs false
namespace Go.Proofs.Ytacajmpggjgaiaa
open Go.Sd

theorem leastTo_le {s : Sea.S} {d : Nat} {f nom : Int} {next : List Int} : ∀ (k i : Nat), i < k → s.rule d f nom ((i : Int) - (Sea.dayAt s.days d).take) = 1 → Sea.at0 next (f + nom + ((i : Int) - (Sea.dayAt s.days d).take)).toNat < Sea.never →
    (Sea.leastTo s d f nom next k).1 ≤ s.cost d ((i : Int) - (Sea.dayAt s.days d).take) + Sea.at0 next (f + nom + ((i : Int) - (Sea.dayAt s.days d).take)).toNat
  | 0, i, h, _, _ => by omega
  | k + 1, i, h, hr, hn => by
    simp only [Sea.leastTo]
    by_cases e : i = k
    · subst e
      split
      · exact Int.le_refl _
      · rename_i hc
        have : ¬ (s.cost d ((i : Int) - (Sea.dayAt s.days d).take) + Sea.at0 next (f + nom + ((i : Int) - (Sea.dayAt s.days d).take)).toNat < (Sea.leastTo s d f nom next i).1) := fun h3 => hc ⟨hr, hn, h3⟩
        omega
    · have := leastTo_le k i (by omega) hr hn
      split
      · rename_i hc; omega
      · exact this
theorem leastTo_idx {s : Sea.S} {d : Nat} {f nom : Int} {next : List Int} : ∀ (k : Nat), (Sea.leastTo s d f nom next k).1 < Sea.never → ∃ i : Nat, i < k ∧ (Sea.leastTo s d f nom next k).2 = (i : Int) - (Sea.dayAt s.days d).take
  | 0, h => by simp [Sea.leastTo] at h
  | k + 1, h => by
    simp only [Sea.leastTo] at h ⊢
    split
    · exact ⟨k, by omega, rfl⟩
    · rename_i hc
      rw [if_neg hc] at h
      obtain ⟨i, hi, he⟩ := leastTo_idx k h
      exact ⟨i, by omega, he⟩
theorem leastTo_tie {s : Sea.S} {d : Nat} {f nom : Int} {next : List Int} : ∀ (k i : Nat), i < k → s.rule d f nom ((i : Int) - (Sea.dayAt s.days d).take) = 1 → Sea.at0 next (f + nom + ((i : Int) - (Sea.dayAt s.days d).take)).toNat < Sea.never →
    (i : Int) - (Sea.dayAt s.days d).take < (Sea.leastTo s d f nom next k).2 → (Sea.leastTo s d f nom next k).1 < Sea.never →
    (Sea.leastTo s d f nom next k).1 < s.cost d ((i : Int) - (Sea.dayAt s.days d).take) + Sea.at0 next (f + nom + ((i : Int) - (Sea.dayAt s.days d).take)).toNat
  | 0, i, h, _, _, _, _ => by omega
  | k + 1, i, h, hr, hn, hlt, hv => by
    simp only [Sea.leastTo] at hlt hv ⊢
    by_cases hc : s.rule d f nom ((k : Int) - (Sea.dayAt s.days d).take) = 1 ∧ Sea.at0 next (f + nom + ((k : Int) - (Sea.dayAt s.days d).take)).toNat < Sea.never ∧ s.cost d ((k : Int) - (Sea.dayAt s.days d).take) + Sea.at0 next (f + nom + ((k : Int) - (Sea.dayAt s.days d).take)).toNat < (Sea.leastTo s d f nom next k).1
    · rw [if_pos hc] at hlt ⊢
      simp only at hlt ⊢
      have := leastTo_le (s := s) (d := d) (f := f) (nom := nom) (next := next) k i (by omega) hr hn
      omega
    · rw [if_neg hc] at hlt hv ⊢
      by_cases e : i = k
      · obtain ⟨i2, hi2, he⟩ := leastTo_idx k hv
        omega
      · exact leastTo_tie k i (by omega) hr hn hlt hv

/-- An order that is possible lies between what can be sold and bought. -/
theorem rule_range {s : Sea.S} {d : Nat} {f nom x : Int} (h : s.rule d f nom x = 1) : -(Sea.dayAt s.days d).take ≤ x ∧ x ≤ (Sea.dayAt s.days d).offer := by
  unfold Sea.S.rule at h
  split at h
  · omega
  · split at h
    · omega
    · omega
theorem rule_last {s : Sea.S} {d : Nat} {f nom x : Int} (h : s.rule d f nom x = 1) (hd : d + 1 = s.days.length) : Sea.inB (f + nom + x) s.elo s.ehi = true := by
  unfold Sea.S.rule at h
  split at h
  · omega
  · split at h
    · omega
    · split at h
      · omega
      · split at h
        · omega
        · split at h
          · omega
          · split at h
            · omega
            · rename_i hn
              cases hb : Sea.inB (f + nom + x) s.elo s.ehi
              · exact absurd ⟨by omega, hb⟩ hn
              · rfl

theorem least_le {s : Sea.S} {d : Nat} {f nom x : Int} {next : List Int} (hr : s.rule d f nom x = 1) (hn : Sea.at0 next (f + nom + x).toNat < Sea.never) :
    (s.least d f nom next).1 ≤ s.cost d x + Sea.at0 next (f + nom + x).toNat := by
  have hg := rule_range hr
  obtain ⟨i, hi⟩ := Int.eq_ofNat_of_zero_le (show 0 ≤ x + (Sea.dayAt s.days d).take by omega)
  have hx : x = (i : Int) - (Sea.dayAt s.days d).take := by omega
  have := leastTo_le (s := s) (d := d) (f := f) (nom := nom) (next := next) ((Sea.dayAt s.days d).take + (Sea.dayAt s.days d).offer + 1).toNat i (by omega) (by rw [← hx]; exact hr) (by rw [← hx]; exact hn)
  rw [← hx] at this
  exact this
theorem least_tie {s : Sea.S} {d : Nat} {f nom x : Int} {next : List Int} (hr : s.rule d f nom x = 1) (hn : Sea.at0 next (f + nom + x).toNat < Sea.never) (hlt : x < (s.least d f nom next).2) (hv : (s.least d f nom next).1 < Sea.never) :
    (s.least d f nom next).1 < s.cost d x + Sea.at0 next (f + nom + x).toNat := by
  have hg := rule_range hr
  obtain ⟨i, hi⟩ := Int.eq_ofNat_of_zero_le (show 0 ≤ x + (Sea.dayAt s.days d).take by omega)
  have hx : x = (i : Int) - (Sea.dayAt s.days d).take := by omega
  have := leastTo_tie (s := s) (d := d) (f := f) (nom := nom) (next := next) ((Sea.dayAt s.days d).take + (Sea.dayAt s.days d).offer + 1).toNat i (by omega) (by rw [← hx]; exact hr) (by rw [← hx]; exact hn) (by rw [← hx]; exact hlt) hv
  rw [← hx] at this
  exact this

theorem faultTo_less {s : Sea.S} {noms plan : List Int} {t n : Nat} (h : faultTo s noms plan n = none) (ht : t ≤ n) : faultTo s noms plan t = none := by
  cases h1 : faultTo s noms plan t with
  | none => rfl
  | some d => rw [faultTo_stay h1 n ht] at h; cases h

theorem vals_step {s : Sea.S} (noms : List Int) {j d : Nat} {f : Int} (hd : d + 1 + j = s.days.length) (hf : 0 ≤ f ∧ f ≤ s.space) :
    Sea.at0 (s.vals noms (j + 1)) f.toNat = (s.least d f (Sea.at0 noms d) (s.vals noms j)).1 := by
  obtain ⟨k, rfl⟩ := Int.eq_ofNat_of_zero_le hf.1
  rw [Int.toNat_natCast, Sea.S.vals, at0_map (by omega), show s.days.length - 1 - j = d by omega]
theorem vals_end {s : Sea.S} (noms : List Int) {f : Int} (hf : 0 ≤ f ∧ f ≤ s.space) (h : Sea.inB f s.elo s.ehi = true) : Sea.at0 (s.vals noms 0) f.toNat = 0 := by
  obtain ⟨k, rfl⟩ := Int.eq_ofNat_of_zero_le hf.1
  rw [Int.toNat_natCast]
  show Sea.at0 s.last k = 0
  unfold Sea.S.last
  rw [at0_map (by omega)]
  unfold Sea.S.lastAt
  rw [if_pos h]

/-- What a plan that holds still costs from a day on is no less than the value there. -/
theorem play_lower {s : Sea.S} (ok : Sea.Ok s) {noms plan : List Int} (hp : planB s plan = true) (hF : faultTo s noms plan s.days.length = none) : ∀ j t, t + j = s.days.length →
    Sea.at0 (s.vals noms j) (playTo s noms plan t).2.1.toNat ≤ (playTo s noms plan s.days.length).2.2 - (playTo s noms plan t).2.2 ∧ Sea.at0 (s.vals noms j) (playTo s noms plan t).2.1.toNat < Sea.never
  | 0, t, ht => by
    obtain rfl : t = s.days.length := by omega
    have hnd := ok.ndays
    obtain ⟨m, hm⟩ : ∃ m, s.days.length = m + 1 := ⟨s.days.length - 1, by omega⟩
    have hi := play_inv ok hp s.days.length (Nat.le_refl _) hF
    rw [hm] at hF hi ⊢
    have hr := (faultTo_none hF).2
    have he := rule_last hr (by omega)
    have : (playTo s noms plan (m + 1)).2.1 = (playTo s noms plan m).2.1 + Sea.at0 noms m + Sea.at0 plan m := rfl
    rw [vals_end noms hi.1 (by rw [this]; exact he)]
    unfold Sea.never
    omega
  | j + 1, t, ht => by
    have hnd := ok.ndays
    have h1 := faultTo_less hF (t := t + 1) (by omega)
    obtain ⟨h2, hr⟩ := faultTo_none h1
    obtain ⟨i1, i2⟩ := play_lower ok hp hF j (t + 1) (by omega)
    have b1 := play_inv ok hp t (by omega) h2
    have b2 := play_inv ok hp s.days.length (Nat.le_refl _) hF
    have hs : playTo s noms plan (t + 1) = ((playTo s noms plan t).1 ++ [(playTo s noms plan t).2.1 + Sea.at0 noms t + Sea.at0 plan t], (playTo s noms plan t).2.1 + Sea.at0 noms t + Sea.at0 plan t, (playTo s noms plan t).2.2 + s.cost t (Sea.at0 plan t)) := rfl
    rw [hs] at i1 i2
    simp only at i1 i2
    have hl := least_le (next := s.vals noms j) hr i2
    rw [vals_step (d := t) noms (by omega) b1.1]
    have : ((t : Int)) ≤ 20 := by omega
    unfold Sea.never
    omega

/-- Whatever plan holds, it costs no less than the least cost. -/
theorem best_le {s : Sea.S} (ok : Sea.Ok s) {noms plan : List Int} (hp : planB s plan = true) (hF : faultTo s noms plan s.days.length = none) :
    bestCost s noms ≤ (playTo s noms plan s.days.length).2.2 ∧ bestCost s noms < Sea.never := by
  have := play_lower ok hp hF s.days.length 0 (by omega)
  have h0 : (playTo s noms plan 0).2.1 = s.start := rfl
  have h1 : (playTo s noms plan 0).2.2 = 0 := rfl
  rw [h0, h1] at this
  unfold bestCost
  omega

theorem planTo_at {s : Sea.S} {noms : List Int} {t : Nat} : ∀ m, t < m → Sea.at0 (planTo s noms m).1 t = (s.least t (planTo s noms t).2 (Sea.at0 noms t) (s.vals noms (s.days.length - 1 - t))).2
  | 0, h => by omega
  | m + 1, h => by
    have hl := planTo_len s noms m
    simp only [planTo]
    unfold Sea.at0
    by_cases e : t = m
    · subst e
      rw [List.getD_eq_getElem?_getD, List.getElem?_append_right (by omega)]
      simp [hl]
    · have := planTo_at (s := s) (noms := noms) m (t := t) (by omega)
      unfold Sea.at0 at this
      rw [List.getD_eq_getElem?_getD, List.getElem?_append_left (by omega), ← List.getD_eq_getElem?_getD]
      exact this

/-- The cheapest plan holds day by day, and what it has cost and the value there are the least cost. -/
theorem plan_play {s : Sea.S} (ok : Sea.Ok s) {noms : List Int} (h : ¬ bestCost s noms = Sea.never) : ∀ t, t ≤ s.days.length →
    faultTo s noms (planTo s noms s.days.length).1 t = none ∧ (playTo s noms (planTo s noms s.days.length).1 t).2.1 = (planTo s noms t).2 ∧ (0 ≤ (planTo s noms t).2 ∧ (planTo s noms t).2 ≤ s.space) ∧
      Sea.at0 (s.vals noms (s.days.length - t)) (planTo s noms t).2.toNat < Sea.never ∧ (playTo s noms (planTo s noms s.days.length).1 t).2.2 + Sea.at0 (s.vals noms (s.days.length - t)) (planTo s noms t).2.toNat = bestCost s noms ∧
      ∀ k, k < t → -100 ≤ Sea.at0 (planTo s noms s.days.length).1 k ∧ Sea.at0 (planTo s noms s.days.length).1 k ≤ 100
  | 0, _ => by
    refine ⟨rfl, rfl, ok.start, ?_, ?_, fun k hk => by omega⟩
    · have := (vals_bd ok noms s.days.length (Nat.le_refl _) s.start.toNat).2
      unfold bestCost at h
      show Sea.at0 (s.vals noms (s.days.length - 0)) s.start.toNat < _
      rw [Nat.sub_zero]
      omega
    · show (0 : Int) + Sea.at0 (s.vals noms (s.days.length - 0)) s.start.toNat = _
      rw [Nat.sub_zero]
      unfold bestCost
      omega
  | t + 1, ht => by
    obtain ⟨h1, h2, h3, h4, h5, h6⟩ := plan_play ok h t (by omega)
    obtain ⟨j, hj⟩ : ∃ j, t + 1 + j = s.days.length := ⟨s.days.length - t - 1, by omega⟩
    rw [show s.days.length - t = j + 1 by omega] at h4 h5
    obtain ⟨u, hu1, -, hu3, hu4, hu5, hu6, hu7⟩ := step_of ok noms hj h3 h4
    have ho := order_in ok (by omega) hu1
    have hat : Sea.at0 (planTo s noms s.days.length).1 t = u := by
      rw [planTo_at s.days.length (by omega), show s.days.length - 1 - t = j by omega, hu3]
    have hpl : (planTo s noms (t + 1)).2 = (planTo s noms t).2 + Sea.at0 noms t + u := by
      show (planTo s noms t).2 + Sea.at0 noms t + (s.least t (planTo s noms t).2 (Sea.at0 noms t) (s.vals noms (s.days.length - 1 - t))).2 = _
      rw [show s.days.length - 1 - t = j by omega, hu3]
    have hr : ruleOn s noms (planTo s noms s.days.length).1 t = 1 := by
      unfold ruleOn
      rw [h2, hat]
      exact ho.2.2.1
    refine ⟨faultTo_miss h1 hr, ?_, ?_, ?_, ?_, ?_⟩
    · show (playTo s noms (planTo s noms s.days.length).1 t).2.1 + Sea.at0 noms t + Sea.at0 (planTo s noms s.days.length).1 t = _
      rw [h2, hat, hpl]
    · rw [hpl]; exact ⟨hu4, hu5⟩
    · rw [hpl, show s.days.length - (t + 1) = j by omega]; exact hu6
    · show (playTo s noms (planTo s noms s.days.length).1 t).2.2 + s.cost t (Sea.at0 (planTo s noms s.days.length).1 t) + _ = _
      rw [hpl, show s.days.length - (t + 1) = j by omega, hat]
      omega
    · intro k hk
      by_cases e : k = t
      · subst e; rw [hat]; exact ⟨ho.1, ho.2.1⟩
      · exact h6 k (by omega)

theorem best_plan {s : Sea.S} (ok : Sea.Ok s) {noms : List Int} (h : ¬ bestCost s noms = Sea.never) :
    planB s (planTo s noms s.days.length).1 = true ∧ faultTo s noms (planTo s noms s.days.length).1 s.days.length = none ∧ (playTo s noms (planTo s noms s.days.length).1 s.days.length).2.2 = bestCost s noms := by
  obtain ⟨h1, h2, h3, -, h5, h6⟩ := plan_play ok h s.days.length (Nat.le_refl _)
  have hl := planTo_len s noms s.days.length
  have hp : planB s (planTo s noms s.days.length).1 = true := by
    unfold planB
    rw [Bool.and_eq_true]
    refine ⟨List.all_eq_true.2 fun k hk => ?_, by simpa using hl⟩
    rw [List.mem_range, hl] at hk
    exact Sea.inB_iff.2 (h6 k hk)
  refine ⟨hp, h1, ?_⟩
  have := play_lower ok hp h1 0 s.days.length (by omega)
  rw [Nat.sub_self] at h5
  have hnd := ok.ndays
  obtain ⟨m, hm⟩ : ∃ m, s.days.length = m + 1 := ⟨s.days.length - 1, by omega⟩
  have h1' := h1
  rw [hm] at h1'
  have hr := (faultTo_none h1').2
  have he := rule_last hr (by omega)
  rw [← hm] at he
  have e2 : (playTo s noms (planTo s noms s.days.length).1 m).2.1 + Sea.at0 noms m + Sea.at0 (planTo s noms s.days.length).1 m = (planTo s noms s.days.length).2 := by
    rw [← h2]
    have : ∀ q, q = m + 1 → (playTo s noms (planTo s noms s.days.length).1 m).2.1 + Sea.at0 noms m + Sea.at0 (planTo s noms s.days.length).1 m = (playTo s noms (planTo s noms s.days.length).1 q).2.1 := fun q hq => by subst hq; rfl
    exact this _ hm
  rw [e2] at he
  rw [vals_end noms h3 he] at h5
  omega

/-- The first place where two lists differ. -/
theorem first_diff (a b : List Int) : ∀ n, (∀ j, j < n → Sea.at0 a j = Sea.at0 b j) ∨ ∃ k, k < n ∧ (∀ j, j < k → Sea.at0 a j = Sea.at0 b j) ∧ Sea.at0 a k ≠ Sea.at0 b k
  | 0 => .inl fun j h => by omega
  | n + 1 => by
    rcases first_diff a b n with h | ⟨k, h1, h2, h3⟩
    · by_cases e : Sea.at0 a n = Sea.at0 b n
      · exact .inl fun j hj => by
          by_cases e2 : j = n
          · rw [e2]; exact e
          · exact h j (by omega)
      · exact .inr ⟨n, by omega, h, e⟩
    · exact .inr ⟨k, by omega, h2, h3⟩

theorem playTo_same {s : Sea.S} {noms a b : List Int} : ∀ k, (∀ j, j < k → Sea.at0 a j = Sea.at0 b j) → playTo s noms a k = playTo s noms b k
  | 0, _ => rfl
  | k + 1, h => by
    have := playTo_same (s := s) (noms := noms) k fun j hj => h j (by omega)
    simp only [playTo, this, h k (by omega)]

/-- No plan that holds and costs as much comes before the cheapest one. -/
theorem best_tie {s : Sea.S} (ok : Sea.Ok s) {noms other : List Int} (h : ¬ bestCost s noms = Sea.never) (hp : planB s other = true) (hF : faultTo s noms other s.days.length = none) (hc : (playTo s noms other s.days.length).2.2 = bestCost s noms) :
    Sea.before other (planTo s noms s.days.length).1 = false := by
  have hl := planTo_len s noms s.days.length
  have hol := (planB_at hp).1
  rcases first_diff other (planTo s noms s.days.length).1 s.days.length with hd | ⟨k, hk, hd, hne⟩
  · exact before_none fun j hj _ => hd j (by omega)
  · rw [before_iff hd (by omega) (by omega) hne, decide_eq_false_iff_not]
    intro hlt
    obtain ⟨j, hj⟩ : ∃ j, k + 1 + j = s.days.length := ⟨s.days.length - k - 1, by omega⟩
    obtain ⟨h1, h2, h3, h4, h5, -⟩ := plan_play ok h k (by omega)
    rw [show s.days.length - k = j + 1 by omega] at h4 h5
    have hsame := playTo_same (s := s) (noms := noms) k hd
    have hFk := faultTo_less hF (t := k + 1) (by omega)
    have hr := (faultTo_none hFk).2
    have hlow := play_lower ok hp hF j (k + 1) (by omega)
    have hs : playTo s noms other (k + 1) = ((playTo s noms other k).1 ++ [(playTo s noms other k).2.1 + Sea.at0 noms k + Sea.at0 other k], (playTo s noms other k).2.1 + Sea.at0 noms k + Sea.at0 other k, (playTo s noms other k).2.2 + s.cost k (Sea.at0 other k)) := rfl
    rw [hs] at hlow
    simp only at hlow
    unfold ruleOn at hr
    rw [hsame] at hr hlow
    rw [h2] at hr hlow
    rw [planTo_at s.days.length (by omega), show s.days.length - 1 - k = j by omega] at hlt
    rw [vals_step noms hj h3] at h4 h5
    have := least_tie (next := s.vals noms j) hr hlow.2 hlt h4
    omega
end Go.Proofs.Ytacajmpggjgaiaa
