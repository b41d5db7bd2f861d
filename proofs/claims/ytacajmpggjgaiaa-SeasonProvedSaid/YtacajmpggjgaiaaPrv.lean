/- The plain law of proofs: the proof is fair, its floor is the least cost; what is fair says no more than any plan that holds costs. -/
import Derived.Test.YtacajmpggjgaiaaR10
import Derived.Test.YtacajmpggjgaiaaOpt
set_option linter.unusedVariables false
set_option linter.unusedSimpArgs false
namespace Go.Proofs.Ytacajmpggjgaiaa
open Go.RowKit Go.Sd

theorem proof_row (s : Sea.S) (noms : List Int) {t : Nat} (ht : t ≤ s.days.length) : Sea.lstAt (s.proof noms) t = s.vals noms (s.days.length - t) := by
  unfold Sea.S.proof; rw [← Sea.tbl_whole, Sea.tbl_at _ _ _ _ _ (by omega), if_pos (by omega)]
theorem proof_valsB {s : Sea.S} (ok : Sea.Ok s) (noms : List Int) : valsB s (s.proof noms) = true := by
  have hnd := ok.ndays
  have hsp := ok.space
  unfold valsB
  rw [Bool.and_eq_true, decide_eq_true_eq]
  refine ⟨?_, proof_len s noms⟩
  rw [List.all_eq_true]
  intro t ht
  rw [List.mem_range, proof_len] at ht
  rw [proof_row s noms (by omega)]
  unfold rowOkB
  rw [Bool.and_eq_true, decide_eq_true_eq, Sea.S.vals_length]
  refine ⟨by omega, ?_⟩
  rw [List.all_eq_true]
  intro k _
  refine Sea.inB_iff.2 ?_
  have := vals_bd ok noms (s.days.length - t) (by omega) k
  unfold Sea.never at this
  constructor <;> omega
theorem proof_fairB {s : Sea.S} (ok : Sea.Ok s) (noms : List Int) : fairB s noms (s.proof noms) = true := by
  have hnd := ok.ndays
  have hsp := ok.space
  have hfin := ok.fin
  refine fair_yes (fun i hi => ?_) (fun t ht f hf => ?_)
  · rw [proof_row s noms (Nat.le_refl _), Nat.sub_self, vals_end noms (f := s.elo + i) (by omega) (Sea.inB_iff.2 (by omega))]
    exact Int.le_refl _
  · have h := vals_step (s := s) noms (j := s.days.length - 1 - t) (d := t) (f := (f : Int)) (by omega) (by omega)
    rw [Int.toNat_natCast] at h
    rw [proof_row s noms (by omega), proof_row s noms (by omega), show s.days.length - t = s.days.length - 1 - t + 1 by omega, show s.days.length - (t + 1) = s.days.length - 1 - t by omega, h]
    exact Int.le_refl _
theorem proof_floor (s : Sea.S) (noms : List Int) : Sea.at0 (Sea.lstAt (s.proof noms) 0) s.start.toNat = bestCost s noms := by
  rw [proof_row0]; rfl

theorem fair_facts {s : Sea.S} {noms : List Int} {l : List (List Int)} (h : fairB s noms l = true) :
    (∀ i, i < (s.ehi - s.elo + 1).toNat → Sea.at0 (Sea.lstAt l s.days.length) (s.elo + i).toNat ≤ 0) ∧
    (∀ t, t < s.days.length → ∀ f : Nat, f < (s.space + 1).toNat → Sea.at0 (Sea.lstAt l t) f ≤ (s.least t f (Sea.at0 noms t) (Sea.lstAt l (t + 1))).1) := by
  unfold fairB at h
  rw [Bool.and_eq_true] at h
  refine ⟨fun i hi => of_decide_eq_true (List.all_eq_true.1 h.1 i (List.mem_range.2 hi)), fun t ht f hf => ?_⟩
  have := List.all_eq_true.1 h.2 t (List.mem_range.2 ht)
  exact of_decide_eq_true (List.all_eq_true.1 this f (List.mem_range.2 hf))

theorem fair_lower {s : Sea.S} (ok : Sea.Ok s) {noms plan : List Int} {l : List (List Int)} (hfb : fairB s noms l = true) (hp : planB s plan = true) (hF : faultTo s noms plan s.days.length = none) : ∀ j t, t + j = s.days.length →
    Sea.at0 (Sea.lstAt l t) (playTo s noms plan t).2.1.toNat ≤ (playTo s noms plan s.days.length).2.2 - (playTo s noms plan t).2.2 ∧ Sea.at0 (Sea.lstAt l t) (playTo s noms plan t).2.1.toNat < Sea.never
  | 0, t, ht => by
    obtain rfl : t = s.days.length := by omega
    have hnd := ok.ndays
    have hfin := ok.fin
    have h1 := (fair_facts hfb).1
    obtain ⟨m, hm⟩ : ∃ m, s.days.length = m + 1 := ⟨s.days.length - 1, by omega⟩
    have hi := play_inv ok hp s.days.length (Nat.le_refl _) hF
    have he : Sea.inB (playTo s noms plan s.days.length).2.1 s.elo s.ehi = true := by
      rw [hm] at hF ⊢
      have hr := (faultTo_none hF).2
      have he := rule_last hr (by omega)
      have e : (playTo s noms plan (m + 1)).2.1 = (playTo s noms plan m).2.1 + Sea.at0 noms m + Sea.at0 plan m := rfl
      rw [e]; exact he
    have he2 := Sea.inB_iff.1 he
    have h2 := h1 ((playTo s noms plan s.days.length).2.1 - s.elo).toNat (by omega)
    rw [show s.elo + (((playTo s noms plan s.days.length).2.1 - s.elo).toNat : Int) = (playTo s noms plan s.days.length).2.1 by omega] at h2
    unfold Sea.never
    omega
  | j + 1, t, ht => by
    have hnd := ok.ndays
    have h1 := faultTo_less hF (t := t + 1) (by omega)
    obtain ⟨h2, hr⟩ := faultTo_none h1
    obtain ⟨i1, i2⟩ := fair_lower ok hfb hp hF j (t + 1) (by omega)
    have b1 := play_inv ok hp t (by omega) h2
    have b2 := play_inv ok hp s.days.length (Nat.le_refl _) hF
    have hs : playTo s noms plan (t + 1) = ((playTo s noms plan t).1 ++ [(playTo s noms plan t).2.1 + Sea.at0 noms t + Sea.at0 plan t], (playTo s noms plan t).2.1 + Sea.at0 noms t + Sea.at0 plan t, (playTo s noms plan t).2.2 + s.cost t (Sea.at0 plan t)) := rfl
    rw [hs] at i1 i2
    simp only at i1 i2
    have hl := least_le (next := Sea.lstAt l (t + 1)) hr i2
    have h3 := (fair_facts hfb).2 t (by omega) (playTo s noms plan t).2.1.toNat (by omega)
    rw [Int.toNat_of_nonneg b1.1.1] at h3
    have : ((t : Int)) ≤ 20 := by omega
    unfold Sea.never
    omega
/-- What is fair says no more than any plan that holds costs. -/
theorem fair_le {s : Sea.S} (ok : Sea.Ok s) {noms plan : List Int} {l : List (List Int)} (hfb : fairB s noms l = true) (hp : planB s plan = true) (hF : faultTo s noms plan s.days.length = none) :
    Sea.at0 (Sea.lstAt l 0) s.start.toNat ≤ (playTo s noms plan s.days.length).2.2 ∧ Sea.at0 (Sea.lstAt l 0) s.start.toNat < Sea.never := by
  have := fair_lower ok hfb hp hF s.days.length 0 (by omega)
  have h0 : (playTo s noms plan 0).2.1 = s.start := rfl
  have h1 : (playTo s noms plan 0).2.2 = 0 := rfl
  rw [h0, h1] at this
  omega
end Go.Proofs.Ytacajmpggjgaiaa
