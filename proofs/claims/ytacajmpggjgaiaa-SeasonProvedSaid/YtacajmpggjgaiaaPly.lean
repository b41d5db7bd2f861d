/- Plain: what a plan does, day by day, up to its fault. -/
import Derived.Test.YtacajmpggjgaiaaR5
set_option linter.unusedVariables false
set_option linter.unusedSimpArgs false
namespace Go.Proofs.Ytacajmpggjgaiaa
open Go.Sd

/-- The fills, the fill and the cost behind the first t days of a plan. -/
def playTo (s : Sea.S) (noms plan : List Int) : Nat → List Int × Int × Int
  | 0 => ([], s.start, 0)
  | t + 1 => ((playTo s noms plan t).1 ++ [(playTo s noms plan t).2.1 + Sea.at0 noms t + Sea.at0 plan t], (playTo s noms plan t).2.1 + Sea.at0 noms t + Sea.at0 plan t, (playTo s noms plan t).2.2 + s.cost t (Sea.at0 plan t))

/-- The rule that day t of a plan breaks. -/
def ruleOn (s : Sea.S) (noms plan : List Int) (t : Nat) : Int := s.rule t (playTo s noms plan t).2.1 (Sea.at0 noms t) (Sea.at0 plan t)

/-- The first fault of the first k days. -/
def faultTo (s : Sea.S) (noms plan : List Int) : Nat → Option Nat
  | 0 => none
  | t + 1 => match faultTo s noms plan t with
    | some d => some d
    | none => if ruleOn s noms plan t = 1 then none else some t

/-- The fills, the cost and the fault (day, rule) of a plan. -/
def playOf (s : Sea.S) (noms plan : List Int) : List Int × Int × Int × Int :=
  match faultTo s noms plan plan.length with
  | some d => ((playTo s noms plan d).1, (playTo s noms plan d).2.2, (d : Int), ruleOn s noms plan d)
  | none => ((playTo s noms plan plan.length).1, (playTo s noms plan plan.length).2.2, 0, 1)

theorem playTo_len (s : Sea.S) (noms plan : List Int) : ∀ t, (playTo s noms plan t).1.length = t
  | 0 => rfl
  | t + 1 => by simp [playTo, playTo_len s noms plan t]

theorem faultTo_stay {s : Sea.S} {noms plan : List Int} {k d : Nat} (h : faultTo s noms plan k = some d) : ∀ n, k ≤ n → faultTo s noms plan n = some d := by
  intro n
  induction n with
  | zero => intro hk; obtain rfl : k = 0 := by omega
            exact h
  | succ n ih =>
    intro hk
    by_cases e : k = n + 1
    · rw [← e]; exact h
    · have := ih (by omega)
      simp only [faultTo, this]
theorem faultTo_hit {s : Sea.S} {noms plan : List Int} {t n : Nat} (h : faultTo s noms plan t = none) (hr : ¬ ruleOn s noms plan t = 1) (hn : t < n) : faultTo s noms plan n = some t :=
  faultTo_stay (k := t + 1) (by simp only [faultTo, h, if_neg hr]) n hn
theorem faultTo_miss {s : Sea.S} {noms plan : List Int} {t : Nat} (h : faultTo s noms plan t = none) (hr : ruleOn s noms plan t = 1) : faultTo s noms plan (t + 1) = none := by
  simp only [faultTo, h, if_pos hr]
theorem faultTo_none {s : Sea.S} {noms plan : List Int} {t : Nat} (h : faultTo s noms plan (t + 1) = none) : faultTo s noms plan t = none ∧ ruleOn s noms plan t = 1 := by
  simp only [faultTo] at h
  cases h1 : faultTo s noms plan t with
  | some d => simp [h1] at h
  | none => simp only [h1] at h
            refine ⟨rfl, ?_⟩
            by_cases hr : ruleOn s noms plan t = 1
            · exact hr
            · simp [hr] at h
theorem playOf_hit {s : Sea.S} {noms plan : List Int} {t : Nat} (h : faultTo s noms plan t = none) (hr : ¬ ruleOn s noms plan t = 1) (hn : t < plan.length) : playOf s noms plan = ((playTo s noms plan t).1, (playTo s noms plan t).2.2, (t : Int), ruleOn s noms plan t) := by
  simp only [playOf, faultTo_hit h hr hn]
theorem playOf_fine {s : Sea.S} {noms plan : List Int} (h : faultTo s noms plan plan.length = none) : playOf s noms plan = ((playTo s noms plan plan.length).1, (playTo s noms plan plan.length).2.2, 0, 1) := by
  simp only [playOf, h]

theorem planB_at {s : Sea.S} {plan : List Int} (h : planB s plan = true) : plan.length = s.days.length ∧ ∀ k, k < plan.length → -100 ≤ Sea.at0 plan k ∧ Sea.at0 plan k ≤ 100 := by
  unfold planB at h
  rw [Bool.and_eq_true] at h
  refine ⟨by simpa using h.2, fun k hk => ?_⟩
  have := List.all_eq_true.1 h.1 k (List.mem_range.2 hk)
  exact Sea.inB_iff.1 this

/-- As long as there is no fault the fill lies in the room, and the cost is not great. -/
theorem play_inv {s : Sea.S} (ok : Sea.Ok s) {noms plan : List Int} (hp : planB s plan = true) : ∀ t, t ≤ s.days.length → faultTo s noms plan t = none →
    (0 ≤ (playTo s noms plan t).2.1 ∧ (playTo s noms plan t).2.1 ≤ s.space) ∧ -(100000000 * (t : Int)) ≤ (playTo s noms plan t).2.2 ∧ (playTo s noms plan t).2.2 ≤ 100000000 * (t : Int)
  | 0, _, _ => ⟨ok.start, by simp [playTo], by simp [playTo]⟩
  | t + 1, ht, h => by
    obtain ⟨h1, h2⟩ := faultTo_none h
    obtain ⟨i1, i2, i3⟩ := play_inv ok hp t (by omega) h1
    have hd := ok.days t (by omega)
    have hb := planB_at hp
    have hr := rule_fine h2 (by omega) (by omega)
    have hc := cost_bd ok (d := t) (by omega) (hb.2 t (by omega))
    simp only [playTo]
    refine ⟨hr, ?_, ?_⟩ <;> omega
end Go.Proofs.Ytacajmpggjgaiaa
