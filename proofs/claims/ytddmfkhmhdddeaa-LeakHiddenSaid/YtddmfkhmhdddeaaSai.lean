/- The plain law of watches: the book of what the meters said agrees with the leak, and not without one behind the day on which it is found (no Go in sight). -/
import Derived.Test.YtddmfkhmhdddeaaBnl
import Derived.Test.YtddmfkhmhdddeaaFdp
import Derived.Test.YtddmfkhmhdddeaaBnt
set_option linter.unusedVariables false
set_option linter.unusedSimpArgs false
namespace Lk
/-- By how much a meter is wrong, at most by some number. -/
def bnt (n m : Int) : Int := max (-m) (min m n)
/-- The content in truth, ahead of day k. -/
def nowT (first : Int) (flows : List Int) (size since : Int) : Nat → Int
  | 0 => first
  | k + 1 => nowT first flows size since k + at0 flows k - leaks size since k
def sdFlow (w : List Dy) (flows wrong : List Int) (d : Nat) : Sp := ⟨at0 flows d + bnt (at0 wrong d) (dyAt w d).flow - (dyAt w d).flow, at0 flows d + bnt (at0 wrong d) (dyAt w d).flow + (dyAt w d).flow⟩
def sdRead (w : List Dy) (first : Int) (flows wrong : List Int) (size since : Int) (d : Nat) : Rd :=
  ⟨d, 0, ⟨nowT first flows size since (d + 1) + bnt ((at0 wrong d).tdiv 7) (dyAt w d).content - (dyAt w d).content, nowT first flows size since (d + 1) + bnt ((at0 wrong d).tdiv 7) (dyAt w d).content + (dyAt w d).content⟩⟩
/-- What the meters of a watch say on the first n days. -/
def saidB (w : List Dy) (first : Int) (flows : List Int) (size since : Int) (wrong : List Int) (n : Nat) : Bk :=
  ⟨[⟨-1000000000, 1000000000⟩], (List.range n).map (fun d => [sdFlow w flows wrong d]), (List.range n).filterMap fun d => if (dyAt w d).reads then some (sdRead w first flows wrong size since d) else none⟩
structure SaidOk (w : List Dy) (first : Int) (flows : List Int) (size since : Int) (wrong : List Int) (n : Nat) : Prop where
  wok : WOk w
  size : 1 ≤ size ∧ size ≤ 10000000
  since : 0 ≤ since
  first : -10000 ≤ first ∧ first ≤ 10000
  flows : ∀ d, d < n → -10000 ≤ at0 flows d ∧ at0 flows d ≤ 10000
  n : 1 ≤ n ∧ n ≤ w.length ∧ n ≤ 20
section
variable {w : List Dy} {first : Int} {flows : List Int} {size since : Int} {wrong : List Int} {n : Nat}
theorem nowT_bd (h : SaidOk w first flows size since wrong n) : ∀ k, k ≤ n → -10000 - 10010000 * (k : Int) ≤ nowT first flows size since k ∧ nowT first flows size since k ≤ 10000 + 10010000 * (k : Int)
  | 0, _ => by have := h.first; simp only [nowT]; omega
  | k + 1, hk => by
    have := nowT_bd h k (by omega)
    have hf := h.flows k (by omega)
    have hs := h.size
    have hl : 0 ≤ leaks size since k ∧ leaks size since k ≤ 10000000 := by unfold leaks; split <;> omega
    simp only [nowT]; push_cast; omega
theorem said_flow {d : Nat} (hd : d < n) : (saidB w first flows size since wrong n).flowAt d 0 = sdFlow w flows wrong d := by
  simp [Bk.flowAt, saidB, rwAt, hd, spAt]
theorem mem_said {r : Rd} : r ∈ (saidB w first flows size since wrong n).reads ↔ ∃ d, d < n ∧ (dyAt w d).reads = true ∧ r = sdRead w first flows wrong size since d := by
  simp only [saidB, List.mem_filterMap, List.mem_range]
  constructor
  · rintro ⟨d, hd, h⟩
    split at h
    · rename_i hr; cases h; exact ⟨d, hd, hr, rfl⟩
    · cases h
  · rintro ⟨d, hd, hr, rfl⟩
    exact ⟨d, hd, by rw [if_pos hr]⟩
theorem said_ok (h : SaidOk w first flows size since wrong n) : Ok (saidB w first flows size since wrong n) := by
  have hn := h.n
  refine ⟨by simp [saidB], by simp [saidB]; omega, ?_, ?_, ?_, ?_, ?_⟩
  · have := filterMap_len (fun d => if (dyAt w d).reads then some (sdRead w first flows wrong size since d) else none) (List.range n)
    simp [saidB] at this ⊢; omega
  · intro k hk
    obtain rfl : k = 0 := by simpa [saidB] using hk
    simp [saidB, spAt]
  · intro d hd
    have hd' : d < n := by simpa [saidB] using hd
    simp [saidB, rwAt, hd']
  · intro d k hd hk
    have hd' : d < n := by simpa [saidB] using hd
    obtain rfl : k = 0 := by simpa [saidB] using hk
    have e := said_flow (w := w) (first := first) (flows := flows) (size := size) (since := since) (wrong := wrong) hd'
    unfold Bk.flowAt at e
    rw [e]
    have hf := h.flows d hd'
    have hw := h.wok.day d (by omega)
    simp only [sdFlow, bnt]; omega
  · intro k hk
    have hm : rdAt (saidB w first flows size since wrong n).reads k ∈ (saidB w first flows size since wrong n).reads := by simp [rdAt, hk]
    obtain ⟨d, hd, hr, e⟩ := mem_said.1 hm
    rw [e]
    have hw := h.wok.day d (by omega)
    have hnb := nowT_bd h (d + 1) (by omega)
    have hl : (saidB w first flows size since wrong n).flows.length = n := by simp [saidB]
    have hl2 : (saidB w first flows size since wrong n).first.length = 1 := by simp [saidB]
    rw [hl, hl2]
    simp only [sdRead, bnt]
    push_cast at hnb
    omega
/-- The book agrees with the leak. -/
theorem said_leak (h : SaidOk w first flows size since wrong n) : (saidB w first flows size since wrong n).agreeB ⟨0, size, since⟩ = true := by
  have hz : 0 < (saidB w first flows size since wrong n).first.length := by simp [saidB]
  have hl : (saidB w first flows size since wrong n).flows.length = n := by simp [saidB]
  have hn := h.n
  have key : (saidB w first flows size since wrong n).zoneB ⟨0, size, since⟩ 0 = true := by
    refine truth_zone (said_ok h) hz (c := nowT first flows size since) ⟨fun k hk => ?_, fun x hx => ?_⟩
    · rw [hl] at hk
      have hw := h.wok.day k (by omega)
      have e : lost ⟨0, size, since⟩ ((0 : Nat) : Int) (k : Int) = leaks size since k := by
        unfold lost leaks; simp
      simp only [Bk.comes, said_flow hk, e, sdFlow, nowT, bnt]
      omega
    · rcases mem_allK_iff.1 hx with rfl | ⟨r, hr, hz, rfl⟩
      · have := h.first
        simp [saidB, spAt, nowT]; omega
      · obtain ⟨d, hd, hrd, rfl⟩ := mem_said.1 hr
        have hw := h.wok.day d (by omega)
        simp only [sdRead, bnt]
        rw [show ((d : Int) + 1).toNat = d + 1 by omega]
        omega
  rw [Bk.agreeB, List.all_eq_true]
  intro i hi
  have hi' : i < (saidB w first flows size since wrong n).first.length := List.mem_range.1 hi
  obtain rfl : i = 0 := by simpa [saidB] using hi'
  exact key
theorem said_cum (h : SaidOk w first flows size since wrong n) {s t : Nat} (hst : s ≤ t) (ht : t ≤ n) :
    nowT first flows size since t - nowT first flows size since s + (cumL size since t - cumL size since s) - (cumF w t - cumF w s) ≤ (saidB w first flows size since wrong n).cumLo noGs 0 t - (saidB w first flows size since wrong n).cumLo noGs 0 s := by
  induction t with
  | zero => obtain rfl : s = 0 := by omega
            omega
  | succ t ih =>
    by_cases he : s = t + 1
    · subst he; omega
    · have h1 := ih (by omega) (by omega)
      have hw := h.wok.day t (by have := h.n; omega)
      have e : lost noGs ((0 : Nat) : Int) (t : Int) = 0 := lost_none 0 t
      simp only [Bk.cumLo, Bk.comes, said_flow (show t < n by omega), e, sdFlow, nowT, cumL, cumF, bnt]
      omega
/-- Behind the day on which the leak is found, the book does not agree without one. -/
theorem said_none (h : SaidOk w first flows size since wrong (n + 1)) (hf : foundB w size since n = true) : (saidB w first flows size since wrong (n + 1)).agreeB noGs = false := by
  have hz : 0 < (saidB w first flows size since wrong (n + 1)).first.length := by simp [saidB]
  have hl : (saidB w first flows size since wrong (n + 1)).flows.length = n + 1 := by simp [saidB]
  have hn := h.n
  cases hc : (saidB w first flows size since wrong (n + 1)).agreeB noGs
  · rfl
  · exfalso
    rw [Bk.agreeB, List.all_eq_true] at hc
    have hzb := hc 0 (List.mem_range.2 hz)
    rw [zone_pairs (said_ok h) hz] at hzb
    unfold foundB at hf
    rw [Bool.and_eq_true, List.any_eq_true] at hf
    obtain ⟨hrn, j, hj, hh⟩ := hf
    rw [List.mem_range] at hj
    rw [hitB, Bool.and_eq_true, decide_eq_true_eq, apart_eq (j + 1) (by omega), missing_eq h.since (by omega), show n + 1 - (j + 1) = (n - 1 - j) + 1 by omega] at hh
    obtain ⟨hrs, hlt⟩ := hh
    have hsn : n - 1 - j < n := by omega
    generalize n - 1 - j = s at *
    have hx : (⟨(s : Int), (sdRead w first flows wrong size since s).v⟩ : Kn) ∈ (saidB w first flows size since wrong (n + 1)).allK 0 :=
      mem_allK_iff.2 (.inr ⟨_, mem_said.2 ⟨s, by omega, hrs, rfl⟩, rfl, rfl⟩)
    have hy : (⟨(n : Int), (sdRead w first flows wrong size since n).v⟩ : Kn) ∈ (saidB w first flows size since wrong (n + 1)).allK 0 :=
      mem_allK_iff.2 (.inr ⟨_, mem_said.2 ⟨n, by omega, hrn, rfl⟩, rfl, rfl⟩)
    have hp := (hzb _ _ hx hy (by simp only; omega)).1
    have hcum := said_cum h (s := s + 1) (t := n + 1) (by omega) (Nat.le_refl _)
    have hws := h.wok.day s (by omega)
    have hwn := h.wok.day n (by omega)
    simp only at hp
    rw [show ((n : Int) + 1).toNat = n + 1 by omega, show ((s : Int) + 1).toNat = s + 1 by omega] at hp
    simp only [sdRead, bnt] at hp
    omega
end
end Lk
