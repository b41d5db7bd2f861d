/- Plain: what comes at the worst, and what is advised. -/
import Derived.Test.YtacajmpggjgaiaaOpt
import Derived.Test.YtacajmpggjgaiaaOwnSp
set_option linter.unusedVariables false
set_option linter.unusedSimpArgs false
namespace Go.Proofs.Ytacajmpggjgaiaa
open Go.Sd

theorem leastTo_hit {s : Sea.S} {d : Nat} {f nom : Int} {next : List Int} : ∀ (k : Nat), (Sea.leastTo s d f nom next k).1 < Sea.never → ∃ x : Int, (Sea.leastTo s d f nom next k).2 = x ∧ s.rule d f nom x = 1 ∧ Sea.at0 next (f + nom + x).toNat < Sea.never ∧
    (Sea.leastTo s d f nom next k).1 = s.cost d x + Sea.at0 next (f + nom + x).toNat
  | 0, h => by simp [Sea.leastTo] at h
  | k + 1, h => by
    simp only [Sea.leastTo] at h ⊢
    split
    · rename_i hc; exact ⟨_, rfl, hc.1, hc.2.1, rfl⟩
    · rename_i hc
      rw [if_neg hc] at h
      exact leastTo_hit k h
/-- The least sum is reached by its order, which is possible. -/
theorem least_hit {s : Sea.S} (ok : Sea.Ok s) {d : Nat} (hd : d < s.days.length) {f nom : Int} {next : List Int} (h : (s.least d f nom next).1 < Sea.never) :
    s.rule d f nom (s.least d f nom next).2 = 1 ∧ (-100 ≤ (s.least d f nom next).2 ∧ (s.least d f nom next).2 ≤ 100) ∧ (0 ≤ f + nom + (s.least d f nom next).2 ∧ f + nom + (s.least d f nom next).2 ≤ s.space) ∧
      Sea.at0 next (f + nom + (s.least d f nom next).2).toNat < Sea.never ∧ (s.least d f nom next).1 = s.cost d (s.least d f nom next).2 + Sea.at0 next (f + nom + (s.least d f nom next).2).toNat := by
  have hdd := ok.days d hd
  unfold Sea.S.least at h ⊢
  obtain ⟨x, hx, h1, h2, h3⟩ := leastTo_hit _ h
  have hr := rule_range h1
  have hf := rule_fine h1 (by omega) (by omega)
  rw [hx]
  exact ⟨h1, by omega, hf, h2, h3⟩

theorem worstTo_in {s : Sea.S} {d : Nat} {f : Int} {next : List Int} : ∀ k, (worstTo s d f next k).1 = (Sea.dayAt s.days d).nlo ∨ ∃ i : Nat, i < k ∧ (worstTo s d f next k).1 = (Sea.dayAt s.days d).nlo + i
  | 0 => .inl rfl
  | k + 1 => by
    simp only [worstTo]
    split
    · exact .inr ⟨k, by omega, rfl⟩
    · rcases worstTo_in (s := s) (d := d) (f := f) (next := next) k with h | ⟨i, hi, he⟩
      · exact .inl h
      · exact .inr ⟨i, by omega, he⟩
theorem worst_in {s : Sea.S} (ok : Sea.Ok s) {d : Nat} (hd : d < s.days.length) (f : Int) (next : List Int) : (Sea.dayAt s.days d).nlo ≤ (worstOf s d f next).1 ∧ (worstOf s d f next).1 ≤ (Sea.dayAt s.days d).nhi := by
  have hdd := ok.days d hd
  unfold worstOf
  rcases worstTo_in (s := s) (d := d) (f := f) (next := next) ((Sea.dayAt s.days d).nhi - (Sea.dayAt s.days d).nlo + 1).toNat with h | ⟨i, hi, he⟩
  · omega
  · omega

theorem worstTo_ge {s : Sea.S} {d : Nat} {f : Int} {next : List Int} : ∀ (k i : Nat), i < k → (s.least d f ((Sea.dayAt s.days d).nlo + i) next).1 ≤ (worstTo s d f next k).2
  | 0, i, h => by omega
  | k + 1, i, h => by
    simp only [worstTo]
    by_cases e : i = k
    · subst e
      split
      · exact Int.le_refl _
      · omega
    · have := worstTo_ge (s := s) (d := d) (f := f) (next := next) k i (by omega)
      split
      · simp only; omega
      · exact this
/-- The worst cost is no less than the least sum of any nomination. -/
theorem worst_ge {s : Sea.S} {d : Nat} {f nom : Int} {next : List Int} (h : (Sea.dayAt s.days d).nlo ≤ nom ∧ nom ≤ (Sea.dayAt s.days d).nhi) : (s.least d f nom next).1 ≤ (worstOf s d f next).2 := by
  obtain ⟨i, hi⟩ := Int.eq_ofNat_of_zero_le (show 0 ≤ nom - (Sea.dayAt s.days d).nlo by omega)
  have := worstTo_ge (s := s) (d := d) (f := f) (next := next) ((Sea.dayAt s.days d).nhi - (Sea.dayAt s.days d).nlo + 1).toNat i (by omega)
  rw [show (Sea.dayAt s.days d).nlo + (i : Int) = nom by omega] at this
  exact this

theorem worstTo_val {s : Sea.S} {d : Nat} {f : Int} {next : List Int} (hb : -Sea.never < (s.least d f (Sea.dayAt s.days d).nlo next).1) : ∀ k, (worstTo s d f next (k + 1)).2 = (s.least d f (worstTo s d f next (k + 1)).1 next).1
  | 0 => by
    have h0 : (Sea.dayAt s.days d).nlo + ((0 : Nat) : Int) = (Sea.dayAt s.days d).nlo := by omega
    rw [worstTo, if_pos (by rw [h0]; exact hb)]
  | k + 1 => by
    rw [worstTo]
    split
    · rfl
    · exact worstTo_val hb k
/-- The worst cost is the least sum of the worst nomination. -/
theorem worst_val {s : Sea.S} (ok : Sea.Ok s) {d j : Nat} (hd : d < s.days.length) (hj : j ≤ s.days.length) (f : Int) : (worstOf s d f (wrow s j)).2 = (s.least d f (worstOf s d f (wrow s j)).1 (wrow s j)).1 := by
  have hdd := ok.days d hd
  have hn := ok.ndays
  unfold worstOf
  obtain ⟨m, hm⟩ : ∃ m, ((Sea.dayAt s.days d).nhi - (Sea.dayAt s.days d).nlo + 1).toNat = m + 1 := ⟨((Sea.dayAt s.days d).nhi - (Sea.dayAt s.days d).nlo).toNat, by omega⟩
  rw [hm]
  refine worstTo_val ?_ m
  have := least_bd ok hd f (Sea.dayAt s.days d).nlo (wrow s j) (100000000 * (j : Int)) (by omega) (by omega) (fun i => (wrow_bd ok j hj i).1) ((Sea.dayAt s.days d).take + (Sea.dayAt s.days d).offer + 1).toNat (by rw [Int.toNat_of_nonneg]; exact Int.le_refl _; omega)
  unfold Sea.S.least
  unfold Sea.never
  omega

theorem wrow_step {s : Sea.S} (ok : Sea.Ok s) {j d : Nat} {f : Int} (hd : d + 1 + j = s.days.length) (hf : 0 ≤ f ∧ f ≤ s.space) : Sea.at0 (wrow s (j + 1)) f.toNat = (worstOf s d f (wrow s j)).2 := by
  obtain ⟨k, rfl⟩ := Int.eq_ofNat_of_zero_le hf.1
  rw [Int.toNat_natCast]
  exact wrow_next ok hd hf.2
theorem wrow_end {s : Sea.S} {f : Int} (hf : 0 ≤ f ∧ f ≤ s.space) (h : Sea.inB f s.elo s.ehi = true) : Sea.at0 (wrow s 0) f.toNat = 0 := vals_end [] hf h

/-- Against the worst nominations, what a plan that holds still costs is no less than the worst cost. -/
theorem worst_lower {s : Sea.S} (ok : Sea.Ok s) {noms plan : List Int} (hp : planB s plan = true) (hF : faultTo s noms plan s.days.length = none)
    (hw : ∀ k, k < s.days.length → Sea.at0 noms k = (worstOf s k (playTo s noms plan k).2.1 (wrow s (s.days.length - 1 - k))).1) : ∀ j t, t + j = s.days.length →
    Sea.at0 (wrow s j) (playTo s noms plan t).2.1.toNat ≤ (playTo s noms plan s.days.length).2.2 - (playTo s noms plan t).2.2 ∧ Sea.at0 (wrow s j) (playTo s noms plan t).2.1.toNat < Sea.never
  | 0, t, ht => by
    obtain rfl : t = s.days.length := by omega
    have := play_lower ok hp hF 0 s.days.length (by omega)
    exact this
  | j + 1, t, ht => by
    have hnd := ok.ndays
    have h1 := faultTo_less hF (t := t + 1) (by omega)
    obtain ⟨h2, hr⟩ := faultTo_none h1
    obtain ⟨i1, i2⟩ := worst_lower ok hp hF hw j (t + 1) (by omega)
    have b1 := play_inv ok hp t (by omega) h2
    have b2 := play_inv ok hp s.days.length (Nat.le_refl _) hF
    have hs : playTo s noms plan (t + 1) = ((playTo s noms plan t).1 ++ [(playTo s noms plan t).2.1 + Sea.at0 noms t + Sea.at0 plan t], (playTo s noms plan t).2.1 + Sea.at0 noms t + Sea.at0 plan t, (playTo s noms plan t).2.2 + s.cost t (Sea.at0 plan t)) := rfl
    rw [hs] at i1 i2
    simp only at i1 i2
    have hl := least_le (next := wrow s j) hr i2
    have hwt := hw t (by omega)
    rw [show s.days.length - 1 - t = j by omega] at hwt
    rw [wrow_step (d := t) ok (by omega) b1.1, worst_val ok (by omega) (by omega), ← hwt]
    have : ((t : Int)) ≤ 20 := by omega
    unfold Sea.never
    omega

/-- The worst cost of the start. -/
def worstCost (s : Sea.S) : Int := Sea.at0 (wrow s s.days.length) s.start.toNat
theorem worst_cost_le {s : Sea.S} (ok : Sea.Ok s) {noms plan : List Int} (hp : planB s plan = true) (hF : faultTo s noms plan s.days.length = none)
    (hw : ∀ k, k < s.days.length → Sea.at0 noms k = (worstOf s k (playTo s noms plan k).2.1 (wrow s (s.days.length - 1 - k))).1) : worstCost s ≤ (playTo s noms plan s.days.length).2.2 ∧ worstCost s < Sea.never := by
  have := worst_lower ok hp hF hw s.days.length 0 (by omega)
  have h0 : (playTo s noms plan 0).2.1 = s.start := rfl
  have h1 : (playTo s noms plan 0).2.2 = 0 := rfl
  rw [h0, h1] at this
  unfold worstCost
  omega
theorem worstCost_eq {s : Sea.S} (ok : Sea.Ok s) : worstCost s = (worstOf s 0 s.start (wrow s (s.days.length - 1))).2 := by
  have hn := ok.ndays
  unfold worstCost
  obtain ⟨j, hj⟩ : ∃ j, s.days.length = j + 1 := ⟨s.days.length - 1, by omega⟩
  have : ∀ q, q = j + 1 → Sea.at0 (wrow s q) s.start.toNat = (worstOf s 0 s.start (wrow s (q - 1))).2 := fun q hq => by subst hq; exact wrow_step ok (by omega) ok.start
  exact this _ hj

/-! What is advised, day by day -/
/-- The orders that are advised on the first t days, the fill and what has been paid behind them. -/
def serveTo (s : Sea.S) (noms : List Int) : Nat → List Int × Int × Int
  | 0 => ([], s.start, 0)
  | t + 1 =>
    let x := (s.least t (serveTo s noms t).2.1 (Sea.at0 noms t) (wrow s (s.days.length - 1 - t))).2
    ((serveTo s noms t).1 ++ [x], (serveTo s noms t).2.1 + Sea.at0 noms t + x, (serveTo s noms t).2.2 + s.cost t x)
theorem serveTo_len (s : Sea.S) (noms : List Int) : ∀ t, (serveTo s noms t).1.length = t
  | 0 => rfl
  | t + 1 => by simp [serveTo, serveTo_len s noms t]
theorem serveTo_at {s : Sea.S} {noms : List Int} {t : Nat} : ∀ m, t < m → Sea.at0 (serveTo s noms m).1 t = (s.least t (serveTo s noms t).2.1 (Sea.at0 noms t) (wrow s (s.days.length - 1 - t))).2
  | 0, h => by omega
  | m + 1, h => by
    have hl := serveTo_len s noms m
    simp only [serveTo]
    unfold Sea.at0
    by_cases e : t = m
    · subst e
      rw [List.getD_eq_getElem?_getD, List.getElem?_append_right (by omega)]
      simp [hl]
    · have := serveTo_at (s := s) (noms := noms) m (t := t) (by omega)
      unfold Sea.at0 at this
      rw [List.getD_eq_getElem?_getD, List.getElem?_append_left (by omega), ← List.getD_eq_getElem?_getD]
      exact this

theorem noms_in {s : Sea.S} {noms : List Int} (h : s.nomsB noms = true) {k : Nat} (hk : k < s.days.length) : (Sea.dayAt s.days k).nlo ≤ Sea.at0 noms k ∧ Sea.at0 noms k ≤ (Sea.dayAt s.days k).nhi := by
  unfold Sea.S.nomsB at h
  rw [Bool.and_eq_true, decide_eq_true_eq, List.all_eq_true] at h
  exact Sea.inB_iff.1 (h.2 k (by rw [List.mem_range, h.1]; exact hk))

/-- One day of what is advised. -/
theorem serve_day {s : Sea.S} (ok : Sea.Ok s) {noms : List Int} (hno : s.nomsB noms = true) {t j : Nat} (hj : t + 1 + j = s.days.length) {f : Int} (hf : 0 ≤ f ∧ f ≤ s.space) (h : Sea.at0 (wrow s (j + 1)) f.toNat < Sea.never) :
    (s.least t f (Sea.at0 noms t) (wrow s j)).1 ≤ Sea.at0 (wrow s (j + 1)) f.toNat := by
  rw [wrow_step ok hj hf]
  exact worst_ge (noms_in hno (by omega))

theorem serve_inv {s : Sea.S} (ok : Sea.Ok s) {noms : List Int} (hno : s.nomsB noms = true) (h : worstCost s < Sea.never) : ∀ t, t ≤ s.days.length →
    (0 ≤ (serveTo s noms t).2.1 ∧ (serveTo s noms t).2.1 ≤ s.space) ∧ Sea.at0 (wrow s (s.days.length - t)) (serveTo s noms t).2.1.toNat < Sea.never ∧
      (serveTo s noms t).2.2 + Sea.at0 (wrow s (s.days.length - t)) (serveTo s noms t).2.1.toNat ≤ worstCost s ∧ (-(100000000 * (t : Int)) ≤ (serveTo s noms t).2.2 ∧ (serveTo s noms t).2.2 ≤ 100000000 * (t : Int)) ∧
      faultTo s noms (serveTo s noms s.days.length).1 t = none ∧ (playTo s noms (serveTo s noms s.days.length).1 t).2.1 = (serveTo s noms t).2.1 ∧ (playTo s noms (serveTo s noms s.days.length).1 t).2.2 = (serveTo s noms t).2.2 ∧
      ∀ k, k < t → -100 ≤ Sea.at0 (serveTo s noms s.days.length).1 k ∧ Sea.at0 (serveTo s noms s.days.length).1 k ≤ 100
  | 0, _ => by
    refine ⟨ok.start, by rw [Nat.sub_zero]; exact h, ?_, by simp [serveTo], rfl, rfl, rfl, fun k hk => by omega⟩
    rw [Nat.sub_zero]
    show 0 + worstCost s ≤ _
    omega
  | t + 1, ht => by
    obtain ⟨h1, h2, h3, h4, h5, h6, h7, h8⟩ := serve_inv ok hno h t (by omega)
    obtain ⟨j, hj⟩ : ∃ j, t + 1 + j = s.days.length := ⟨s.days.length - t - 1, by omega⟩
    rw [show s.days.length - t = j + 1 by omega] at h2 h3
    have hle := serve_day ok hno hj h1 h2
    obtain ⟨k1, k2, k3, k4, k5⟩ := least_hit ok (d := t) (by omega) (next := wrow s j) (f := (serveTo s noms t).2.1) (nom := Sea.at0 noms t) (by omega)
    have hat : Sea.at0 (serveTo s noms s.days.length).1 t = (s.least t (serveTo s noms t).2.1 (Sea.at0 noms t) (wrow s j)).2 := by
      rw [serveTo_at s.days.length (by omega), show s.days.length - 1 - t = j by omega]
    have hs : serveTo s noms (t + 1) = ((serveTo s noms t).1 ++ [(s.least t (serveTo s noms t).2.1 (Sea.at0 noms t) (wrow s j)).2], (serveTo s noms t).2.1 + Sea.at0 noms t + (s.least t (serveTo s noms t).2.1 (Sea.at0 noms t) (wrow s j)).2, (serveTo s noms t).2.2 + s.cost t (s.least t (serveTo s noms t).2.1 (Sea.at0 noms t) (wrow s j)).2) := by
      simp only [serveTo, show s.days.length - 1 - t = j by omega]
    have hc := cost_bd ok (d := t) (by omega) k2
    have hr : ruleOn s noms (serveTo s noms s.days.length).1 t = 1 := by
      unfold ruleOn; rw [h6, hat]; exact k1
    rw [hs]
    rw [show s.days.length - (t + 1) = j by omega]
    refine ⟨k3, k4, ?_, ?_, faultTo_miss h5 hr, ?_, ?_, ?_⟩
    · simp only; omega
    · simp only; omega
    · show (playTo s noms (serveTo s noms s.days.length).1 t).2.1 + Sea.at0 noms t + Sea.at0 (serveTo s noms s.days.length).1 t = _
      rw [h6, hat]
    · show (playTo s noms (serveTo s noms s.days.length).1 t).2.2 + s.cost t (Sea.at0 (serveTo s noms s.days.length).1 t) = _
      rw [h7, hat]
    · intro k hk
      by_cases e : k = t
      · subst e; rw [hat]; exact k2
      · exact h8 k (by omega)

/-- What is advised holds, and costs what has been paid. -/
theorem serve_play {s : Sea.S} (ok : Sea.Ok s) {noms : List Int} (hno : s.nomsB noms = true) (h : worstCost s < Sea.never) :
    planB s (serveTo s noms s.days.length).1 = true ∧ (∃ l, l.length = s.days.length ∧ playOf s noms (serveTo s noms s.days.length).1 = (l, (serveTo s noms s.days.length).2.2, 0, 1)) ∧ (serveTo s noms s.days.length).2.2 ≤ worstCost s := by
  obtain ⟨h1, h2, h3, h4, h5, h6, h7, h8⟩ := serve_inv ok hno h s.days.length (Nat.le_refl _)
  have hl := serveTo_len s noms s.days.length
  have hp : planB s (serveTo s noms s.days.length).1 = true := by
    unfold planB
    rw [Bool.and_eq_true]
    refine ⟨List.all_eq_true.2 fun k hk => ?_, by simpa using hl⟩
    rw [List.mem_range, hl] at hk
    exact Sea.inB_iff.2 (h8 k hk)
  refine ⟨hp, ⟨_, playTo_len s noms (serveTo s noms s.days.length).1 s.days.length, ?_⟩, ?_⟩
  · rw [playOf_fine (by rw [hl]; exact h5), hl, h7]
  · have hlow := (play_lower ok hp h5 0 s.days.length (by omega)).1
    rw [Nat.sub_self] at h3
    have hend := (play_lower ok hp h5 0 s.days.length (by omega)).2
    have hnd := ok.ndays
    obtain ⟨m, hm⟩ : ∃ m, s.days.length = m + 1 := ⟨s.days.length - 1, by omega⟩
    have h5' := h5
    rw [hm] at h5'
    have he := rule_last (faultTo_none h5').2 (by omega)
    have e2 : ∀ q, q = m + 1 → (playTo s noms (serveTo s noms s.days.length).1 m).2.1 + Sea.at0 noms m + Sea.at0 (serveTo s noms s.days.length).1 m = (playTo s noms (serveTo s noms s.days.length).1 q).2.1 := fun q hq => by subst hq; rfl
    rw [← hm, e2 _ hm, h6] at he
    rw [wrow_end h1 he] at h3
    omega

/-! The spans of the safe fills -/
theorem isSafe_append (l m : List Sea.Span) (f : Int) : Sea.isSafe (l ++ m) f = (Sea.isSafe l f || Sea.isSafe m f) := by simp [Sea.isSafe, List.any_append]
theorem spans_inv (row : List Int) : ∀ k : Nat, (∀ i, i < (spansTo row k).length → (Sea.spanAt (spansTo row k) i).lo ≤ (Sea.spanAt (spansTo row k) i).hi ∧ (Sea.spanAt (spansTo row k) i).hi < k) ∧
    ∀ f : Nat, Sea.isSafe (spansTo row k) f = (decide (f < k) && decide (Sea.at0 row f ≠ Sea.never))
  | 0 => ⟨fun i h => by simp [spansTo] at h, fun f => by simp [spansTo, Sea.isSafe]⟩
  | k + 1 => by
    obtain ⟨h1, h2⟩ := spans_inv row k
    simp only [spansTo]
    by_cases hc : Sea.at0 row k = Sea.never
    · rw [if_pos hc]
      refine ⟨fun i hi => ⟨(h1 i hi).1, by have := (h1 i hi).2; omega⟩, fun f => ?_⟩
      rw [h2]
      by_cases e : f = k
      · subst e; simp [hc]
      · have : decide (f < k) = decide (f < k + 1) := by by_cases h : f < k <;> simp [h] <;> omega
        rw [this]
    · rw [if_neg hc]
      unfold addSpan
      by_cases hs : 0 < (spansTo row k).length ∧ (Sea.spanAt (spansTo row k) ((spansTo row k).length - 1)).hi = (k : Int) - 1
      · rw [if_pos hs]
        obtain ⟨hp, hh⟩ := hs
        have hlo := (h1 ((spansTo row k).length - 1) (by omega)).1
        generalize hl : spansTo row k = l at *
        obtain ⟨m, z, rfl⟩ : ∃ m z, l = m ++ [z] := ⟨l.dropLast, l.getLast (by intro e; rw [e] at hp; simp at hp), (List.dropLast_concat_getLast _).symm⟩
        have hz : Sea.spanAt (m ++ [z]) ((m ++ [z]).length - 1) = z := by unfold Sea.spanAt; simp
        rw [hz] at hh hlo ⊢
        have hset : (m ++ [z]).set ((m ++ [z]).length - 1) ⟨z.lo, k⟩ = m ++ [⟨z.lo, k⟩] := by simp
        rw [hset]
        refine ⟨fun i hi => ?_, fun f => ?_⟩
        · by_cases e : i = m.length
          · subst e
            have : Sea.spanAt (m ++ [(⟨z.lo, k⟩ : Sea.Span)]) m.length = ⟨z.lo, k⟩ := by unfold Sea.spanAt; simp
            rw [this]; simp only; omega
          · have hi2 : i < m.length := by simp at hi; omega
            have := h1 i (by simp; omega)
            have e1 : Sea.spanAt (m ++ [z]) i = Sea.spanAt m i := by unfold Sea.spanAt; simp [List.getD_eq_getElem?_getD, List.getElem?_append_left hi2]
            have e2 : Sea.spanAt (m ++ [(⟨z.lo, k⟩ : Sea.Span)]) i = Sea.spanAt m i := by unfold Sea.spanAt; simp [List.getD_eq_getElem?_getD, List.getElem?_append_left hi2]
            rw [e1] at this
            rw [e2]; omega
        · have hf := h2 f
          rw [isSafe_append] at hf ⊢
          have s1 : Sea.isSafe [z] f = Sea.inB f z.lo z.hi := by simp [Sea.isSafe]
          have s2 : Sea.isSafe [(⟨z.lo, k⟩ : Sea.Span)] f = Sea.inB f z.lo k := by simp [Sea.isSafe]
          rw [s1] at hf
          rw [s2]
          by_cases e : f = k
          · subst e
            have : Sea.inB (f : Int) z.lo f = true := Sea.inB_iff.2 ⟨by omega, Int.le_refl _⟩
            simp [this, hc]
          · have e3 : Sea.inB (f : Int) z.lo k = Sea.inB f z.lo z.hi := by
              rw [Bool.eq_iff_iff, Sea.inB_iff, Sea.inB_iff]; omega
            have e4 : decide (f < k) = decide (f < k + 1) := by by_cases h : f < k <;> simp [h] <;> omega
            rw [e3, hf, e4]
      · rw [if_neg hs]
        refine ⟨fun i hi => ?_, fun f => ?_⟩
        · by_cases e : i = (spansTo row k).length
          · subst e
            have : Sea.spanAt (spansTo row k ++ [(⟨k, k⟩ : Sea.Span)]) (spansTo row k).length = ⟨k, k⟩ := by unfold Sea.spanAt; simp
            rw [this]; simp only; omega
          · have hi2 : i < (spansTo row k).length := by simp at hi; omega
            have := h1 i hi2
            have e2 : Sea.spanAt (spansTo row k ++ [(⟨k, k⟩ : Sea.Span)]) i = Sea.spanAt (spansTo row k) i := by unfold Sea.spanAt; simp [List.getD_eq_getElem?_getD, List.getElem?_append_left hi2]
            rw [e2]; omega
        · rw [isSafe_append, h2]
          have s2 : Sea.isSafe [(⟨k, k⟩ : Sea.Span)] f = Sea.inB f k k := by simp [Sea.isSafe]
          rw [s2]
          by_cases e : f = k
          · subst e
            have : Sea.inB (f : Int) f f = true := Sea.inB_iff.2 ⟨Int.le_refl _, Int.le_refl _⟩
            simp [this, hc]
          · have e3 : Sea.inB (f : Int) k k = false := Sea.inB_not.2 (by omega)
            have e4 : decide (f < k) = decide (f < k + 1) := by by_cases h : f < k <;> simp [h] <;> omega
            rw [e3, e4, Bool.or_false]

theorem safe_len (s : Sea.S) : (safeRows s).length = s.days.length + 1 := by unfold safeRows; simp
/-- A fill lies in the safe spans just if its worst cost is not SeasonNever. -/
theorem safe_iff {s : Sea.S} (ok : Sea.Ok s) {t : Nat} (ht : t ≤ s.days.length) {f : Int} (hf : 0 ≤ f ∧ f ≤ s.space) : Sea.isSafe (Sea.spansAt (safeRows s) t) f = decide (Sea.at0 (wrow s (s.days.length - t)) f.toNat < Sea.never) := by
  obtain ⟨k, rfl⟩ := Int.eq_ofNat_of_zero_le hf.1
  have hr : Sea.spansAt (safeRows s) t = spansTo (wrow s (s.days.length - t)) (s.space + 1).toNat := by
    unfold Sea.spansAt safeRows
    simp [List.getD_eq_getElem?_getD, show t < s.days.length + 1 by omega]
  have hb := (wrow_bd ok (s.days.length - t) (by omega) k).2
  rw [hr, (spans_inv _ _).2 k, Int.toNat_natCast, decide_eq_true (by omega), Bool.true_and]
  rw [Bool.eq_iff_iff, decide_eq_true_eq, decide_eq_true_eq]
  omega
end Go.Proofs.Ytacajmpggjgaiaa
