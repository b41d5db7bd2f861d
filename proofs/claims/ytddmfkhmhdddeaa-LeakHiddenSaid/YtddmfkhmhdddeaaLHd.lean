/- The plain law of leaks that are not found: a truth with the leak and a truth without one, and what the meters say half way between both (no Go in sight). Walks: the law LeakHidden. -/
import Derived.Test.YtddmfkhmhdddeaaSai
import Derived.Test.YtddmfkhmhdddeaaRSd
import Derived.Test.YtddmfkhmhdddeaaRWa
import Derived.Deep.Cut
import Derived.Deep.CutRange
import Derived.BigRegion
set_option linter.unusedVariables false
set_option linter.unusedSimpArgs false
namespace Lk
/-- By how much both truths can differ at the end of a day, as far as the day itself goes. -/
def hBase (w : List Dy) (d : Nat) : Int × Int := if (dyAt w d).reads then (-2 * (dyAt w d).content, 2 * (dyAt w d).content) else (-1000, 1000)
/-- The same with the days behind it, of which there are j. -/
def hEnd (w : List Dy) (size since : Int) (n : Nat) : Nat → Int × Int
  | 0 => hBase w (n - 1)
  | j + 1 => (max (hBase w (n - 1 - (j + 1))).1 ((hEnd w size since n j).1 - leaks size since (n - 1 - (j + 1) + 1) - 2 * (dyAt w (n - 1 - (j + 1) + 1)).flow),
      min (hBase w (n - 1 - (j + 1))).2 ((hEnd w size since n j).2 - leaks size since (n - 1 - (j + 1) + 1) + 2 * (dyAt w (n - 1 - (j + 1) + 1)).flow))
def hLo (w : List Dy) (size since : Int) (n d : Nat) : Int := (hEnd w size since n (n - 1 - d)).1
def hHi (w : List Dy) (size since : Int) (n d : Nat) : Int := (hEnd w size since n (n - 1 - d)).2
/-- By how much the contents differ ahead of a day. -/
def hM (w : List Dy) (size since : Int) (n : Nat) : Nat → Int
  | 0 => 0
  | d + 1 => max (if d = 0 then hLo w size since n 0 else hM w size since n d + leaks size since d - 2 * (dyAt w d).flow)
      (min (if d = 0 then hHi w size since n 0 else hM w size since n d + leaks size since d + 2 * (dyAt w d).flow) (max (hLo w size since n d) (min (hHi w size since n d) (hM w size since n d + leaks size since d))))
def hCame (w : List Dy) (size since : Int) (n d : Nat) : Int := if d = 0 then 0 else hM w size since n (d + 1) - hM w size since n d - leaks size since d
def hdFlow (w : List Dy) (size since : Int) (n d : Nat) : Sp := ⟨(hCame w size since n d).tdiv 2 - (dyAt w d).flow, (hCame w size since n d).tdiv 2 + (dyAt w d).flow⟩
def hdRead (w : List Dy) (size since : Int) (n d : Nat) : Rd :=
  ⟨d, 0, ⟨-cumL size since (d + 1) + (hM w size since n (d + 1)).tdiv 2 - (dyAt w d).content, -cumL size since (d + 1) + (hM w size since n (d + 1)).tdiv 2 + (dyAt w d).content⟩⟩
def hdF (w : List Dy) (size since : Int) (n m : Nat) : List (List Sp) := (List.range m).map fun d => [hdFlow w size since n d]
def hdR (w : List Dy) (size since : Int) (n m : Nat) : List Rd := (List.range m).filterMap fun d => if (dyAt w d).reads then some (hdRead w size since n d) else none
def hdB (w : List Dy) (size since : Int) (n : Nat) : Bk := ⟨[⟨-10000, 10000⟩], hdF w size since n n, hdR w size since n n⟩
structure HidOk (w : List Dy) (size since : Int) (n : Nat) : Prop where
  wok : WOk w
  none : ∀ t, t < n → foundB w size since t = false
  small : ∀ d, d < w.length → (dyAt w d).flow ≤ 3 ∧ (dyAt w d).content ≤ 3
  size : 1 ≤ size ∧ size ≤ 3
  since : 0 ≤ since
  n : 1 ≤ n ∧ n ≤ w.length ∧ n ≤ 8
section
variable {w : List Dy} {size since : Int} {n : Nat}
theorem hLo_last : hLo w size since n (n - 1) = (hBase w (n - 1)).1 := by simp [hLo, hEnd]
theorem hHi_last : hHi w size since n (n - 1) = (hBase w (n - 1)).2 := by simp [hHi, hEnd]
theorem hLo_step {d : Nat} (h : d + 1 < n) : hLo w size since n d = max (hBase w d).1 (hLo w size since n (d + 1) - leaks size since (d + 1) - 2 * (dyAt w (d + 1)).flow) := by
  unfold hLo
  rw [show n - 1 - d = (n - 1 - (d + 1)) + 1 by omega, hEnd, show n - 1 - (n - 1 - (d + 1) + 1) = d by omega]
theorem hHi_step {d : Nat} (h : d + 1 < n) : hHi w size since n d = min (hBase w d).2 (hHi w size since n (d + 1) - leaks size since (d + 1) + 2 * (dyAt w (d + 1)).flow) := by
  unfold hHi
  rw [show n - 1 - d = (n - 1 - (d + 1)) + 1 by omega, hEnd, show n - 1 - (n - 1 - (d + 1) + 1) = d by omega]
theorem cumL_bd (h1 : 1 ≤ size) (h2 : size ≤ 3) : ∀ k : Nat, 0 ≤ cumL size since k ∧ cumL size since k ≤ 3 * k
  | 0 => by simp [cumL]
  | k + 1 => by
    have := cumL_bd h1 h2 k
    rw [cumL, leaks]; push_cast; split <;> omega
theorem cumF_bd (h : ∀ d, d < w.length → 0 ≤ (dyAt w d).flow ∧ (dyAt w d).flow ≤ 3) : ∀ k : Nat, k ≤ w.length → 0 ≤ cumF w k ∧ cumF w k ≤ 6 * k
  | 0, _ => by simp [cumF]
  | k + 1, hk => by
    have := cumF_bd h k (by omega)
    have := h k (by omega)
    rw [cumF]; push_cast; omega
theorem hBase_bd (h : HidOk w size since n) {d : Nat} (hd : d < w.length) : -1000 ≤ (hBase w d).1 ∧ (hBase w d).1 ≤ 0 ∧ 0 ≤ (hBase w d).2 ∧ (hBase w d).2 ≤ 1000 := by
  have h1 := h.wok.day d hd
  have h2 := h.small d hd
  unfold hBase
  split <;> simp only <;> omega
/-- What the least difference is made of. -/
theorem hLo_iff : ∀ j d, d + j + 1 = n → ∀ y, hLo w size since n d ≤ y ↔ ∀ t, d ≤ t → t < n → (hBase w t).1 - (cumL size since (t + 1) - cumL size since (d + 1)) - (cumF w (t + 1) - cumF w (d + 1)) ≤ y
  | 0, d, h, y => by
    obtain rfl : n = d + 1 := by omega
    rw [show hLo w size since (d + 1) d = (hBase w d).1 from hLo_last (n := d + 1)]
    constructor
    · intro hy t h1 h2
      obtain rfl : t = d := by omega
      omega
    · intro hy; have := hy d (by omega) (by omega); omega
  | j + 1, d, h, y => by
    have ih := hLo_iff j (d + 1) (by omega)
    rw [hLo_step (by omega)]
    have eF : cumF w (d + 1 + 1) = cumF w (d + 1) + 2 * (dyAt w (d + 1)).flow := rfl
    have eL : cumL size since (d + 1 + 1) = cumL size since (d + 1) + leaks size since (d + 1) := rfl
    have ihy := ih (y + leaks size since (d + 1) + 2 * (dyAt w (d + 1)).flow)
    constructor
    · intro hy t h1 h2
      by_cases he : t = d
      · subst he; omega
      · have := ihy.1 (by omega) t (by omega) h2
        omega
    · intro hy
      have h1 := hy d (by omega) (by omega)
      have h2 := ihy.2 (fun t a b => by have := hy t (by omega) b; omega)
      omega
theorem hHi_iff : ∀ j d, d + j + 1 = n → ∀ y, y ≤ hHi w size since n d ↔ ∀ t, d ≤ t → t < n → y ≤ (hBase w t).2 - (cumL size since (t + 1) - cumL size since (d + 1)) + (cumF w (t + 1) - cumF w (d + 1))
  | 0, d, h, y => by
    obtain rfl : n = d + 1 := by omega
    rw [show hHi w size since (d + 1) d = (hBase w d).2 from hHi_last (n := d + 1)]
    constructor
    · intro hy t h1 h2
      obtain rfl : t = d := by omega
      omega
    · intro hy; have := hy d (by omega) (by omega); omega
  | j + 1, d, h, y => by
    have ih := hHi_iff j (d + 1) (by omega)
    rw [hHi_step (by omega)]
    have eF : cumF w (d + 1 + 1) = cumF w (d + 1) + 2 * (dyAt w (d + 1)).flow := rfl
    have eL : cumL size since (d + 1 + 1) = cumL size since (d + 1) + leaks size since (d + 1) := rfl
    have ihy := ih (y + leaks size since (d + 1) - 2 * (dyAt w (d + 1)).flow)
    constructor
    · intro hy t h1 h2
      by_cases he : t = d
      · subst he; omega
      · have := ihy.1 (by omega) t (by omega) h2
        omega
    · intro hy
      have h1 := hy d (by omega) (by omega)
      have h2 := ihy.2 (fun t a b => by have := hy t (by omega) b; omega)
      omega
/-- As long as nothing is found, there is a difference. -/
theorem h_order (h : HidOk w size since n) {d : Nat} (hd : d < n) : hLo w size since n d ≤ hHi w size since n d := by
  have hn := h.n
  rw [hLo_iff (n - 1 - d) d (by omega)]
  intro t h1 h2
  have key : ∀ y, y ≤ hHi w size since n d ↔ _ := hHi_iff (n - 1 - d) d (by omega)
  refine (key _).2 fun u h3 h4 => ?_
  have hs := h.small
  have hfl : ∀ d, d < w.length → 0 ≤ (dyAt w d).flow ∧ (dyAt w d).flow ≤ 3 := fun d hd => ⟨(h.wok.day d hd).1, (hs d hd).1⟩
  have f1 := cumF_bd hfl (t + 1) (by omega)
  have f2 := cumF_bd hfl (u + 1) (by omega)
  have f3 := cumF_bd hfl (d + 1) (by omega)
  have m1 := cumF_mono h.wok (s := d + 1) (t := t + 1) (by omega) (by omega)
  have m2 := cumF_mono h.wok (s := d + 1) (t := u + 1) (by omega) (by omega)
  have l1 := cumL_bd (since := since) h.size.1 h.size.2 (t + 1)
  have l2 := cumL_bd (since := since) h.size.1 h.size.2 (u + 1)
  have l3 := cumL_bd (since := since) h.size.1 h.size.2 (d + 1)
  have n1 := cumL_mono (since := since) h.size.1 (s := d + 1) (t := t + 1) (by omega)
  have n2 := cumL_mono (since := since) h.size.1 (s := d + 1) (t := u + 1) (by omega)
  have b1 := hBase_bd h (d := t) (by omega)
  have b2 := hBase_bd h (d := u) (by omega)
  have dt := h.wok.day t (by omega)
  have du := h.wok.day u (by omega)
  have st := hs t (by omega)
  have su := hs u (by omega)
  by_cases hrt : (dyAt w t).reads = true
  · by_cases hru : (dyAt w u).reads = true
    · have e1 : (hBase w t).1 = -2 * (dyAt w t).content := by simp [hBase, hrt]
      have e2 : (hBase w u).2 = 2 * (dyAt w u).content := by simp [hBase, hru]
      rw [e1, e2]
      rcases Nat.lt_trichotomy t u with hlt | rfl | hlt
      · have hf := h.none u h4
        rw [foundB, hru, Bool.true_and, List.any_eq_false] at hf
        have := hf (u - 1 - t) (List.mem_range.2 (by omega))
        rw [hitB, Bool.and_eq_true, decide_eq_true_eq, apart_eq _ (by omega), missing_eq h.since (by omega), show u - 1 - (u - 1 - t) = t by omega, show u + 1 - (u - 1 - t + 1) = t + 1 by omega] at this
        have h5 : ¬ 2 * (dyAt w u).content + (cumF w (u + 1) - cumF w (t + 1)) + 2 * (dyAt w t).content < cumL size since (u + 1) - cumL size since (t + 1) := fun hx => this ⟨hrt, hx⟩
        omega
      · omega
      · have := cumL_mono (since := since) h.size.1 (s := u + 1) (t := t + 1) (by omega)
        omega
    · have e2 : (hBase w u).2 = 1000 := by simp [hBase, hru]
      omega
  · have e1 : (hBase w t).1 = -1000 := by simp [hBase, hrt]
    omega
/-- The difference lies between both ends, and changes by no more than the meters allow. -/
theorem hM_in (h : HidOk w size since n) : ∀ d, d < n → (hLo w size since n d ≤ hM w size since n (d + 1) ∧ hM w size since n (d + 1) ≤ hHi w size since n d) ∧
    (1 ≤ d → hM w size since n d + leaks size since d - 2 * (dyAt w d).flow ≤ hM w size since n (d + 1) ∧ hM w size since n (d + 1) ≤ hM w size since n d + leaks size since d + 2 * (dyAt w d).flow)
  | 0, hd => by
    have := h_order h hd
    have e : hM w size since n (0 + 1) = max (hLo w size since n 0) (min (hHi w size since n 0) (max (hLo w size since n 0) (min (hHi w size since n 0) (0 + leaks size since 0)))) := by simp [hM]
    rw [e]
    refine ⟨by omega, fun h => absurd h (by omega)⟩
  | d + 1, hd => by
    have ih := (hM_in h d (by omega)).1
    have ho := h_order h hd
    have hl := hLo_step (w := w) (size := size) (since := since) (n := n) (d := d) hd
    have hh := hHi_step (w := w) (size := size) (since := since) (n := n) (d := d) hd
    have hf := h.wok.day (d + 1) (by have := h.n; omega)
    rw [hM, if_neg (by omega), if_neg (by omega)]
    generalize hM w size since n (d + 1) = m at *
    generalize hLo w size since n (d + 1) = lo at *
    generalize hHi w size since n (d + 1) = hi at *
    refine ⟨by omega, fun _ => by omega⟩
theorem hM_base (h : HidOk w size since n) {d : Nat} (hd : d < n) : (hBase w d).1 ≤ hM w size since n (d + 1) ∧ hM w size since n (d + 1) ≤ (hBase w d).2 := by
  have h1 := (hM_in h d hd).1
  by_cases he : d + 1 < n
  · have := hLo_step (w := w) (size := size) (since := since) (n := n) he
    have := hHi_step (w := w) (size := size) (since := since) (n := n) he
    omega
  · obtain rfl : d = n - 1 := by omega
    rw [hLo_last, hHi_last] at h1
    exact h1
theorem hM_bd (h : HidOk w size since n) {d : Nat} (hd : d ≤ n) : -1000 ≤ hM w size since n d ∧ hM w size since n d ≤ 1000 := by
  cases d with
  | zero => simp [hM]
  | succ d =>
    have h1 := hM_base h (show d < n by omega)
    have h2 := hBase_bd h (d := d) (by have := h.n; omega)
    omega
theorem hCame_bd (h : HidOk w size since n) {d : Nat} (hd : d < n) : -2 * (dyAt w d).flow ≤ hCame w size since n d ∧ hCame w size since n d ≤ 2 * (dyAt w d).flow := by
  have hf := h.wok.day d (by have := h.n; omega)
  unfold hCame
  split
  · omega
  · have := (hM_in h d hd).2 (by omega)
    omega
theorem half (x : Int) : -1 ≤ x - 2 * x.tdiv 2 ∧ x - 2 * x.tdiv 2 ≤ 1 := by
  rcases Int.le_total 0 x with h | h
  · rw [Int.tdiv_eq_ediv_of_nonneg h]; omega
  · obtain ⟨y, rfl⟩ : ∃ y, x = -y := ⟨-x, by omega⟩
    rw [Int.neg_tdiv, Int.tdiv_eq_ediv_of_nonneg (by omega)]; omega
/-- The content without a leak. -/
def hCon (w : List Dy) (size since : Int) (n : Nat) : Nat → Int
  | 0 => -cumL size since 1 + hM w size since n 1
  | k + 1 => -cumL size since (k + 1) + hM w size since n (k + 1)
theorem hdF_len {m : Nat} : (hdF w size since n m).length = m := by simp [hdF]
theorem hd_flow {d : Nat} (hd : d < n) : (hdB w size since n).flowAt d 0 = hdFlow w size since n d := by
  simp [Bk.flowAt, hdB, hdF, rwAt, hd, spAt]
theorem mem_hd {r : Rd} : r ∈ (hdB w size since n).reads ↔ ∃ d, d < n ∧ (dyAt w d).reads = true ∧ r = hdRead w size since n d := by
  simp only [hdB, hdR, List.mem_filterMap, List.mem_range]
  constructor
  · rintro ⟨d, hd, h⟩
    split at h
    · rename_i hr; cases h; exact ⟨d, hd, hr, rfl⟩
    · cases h
  · rintro ⟨d, hd, hr, rfl⟩
    exact ⟨d, hd, by rw [if_pos hr]⟩
theorem hd_ok (h : HidOk w size since n) : Ok (hdB w size since n) := by
  have hn := h.n
  refine ⟨by simp [hdB], by simp [hdB, hdF]; omega, ?_, ?_, ?_, ?_, ?_⟩
  · have := filterMap_len (fun d => if (dyAt w d).reads then some (hdRead w size since n d) else none) (List.range n)
    simp [hdB, hdR] at this ⊢; omega
  · intro k hk
    obtain rfl : k = 0 := by simpa [hdB] using hk
    simp [hdB, spAt]
  · intro d hd
    have hd' : d < n := by simpa [hdB, hdF] using hd
    simp [hdB, hdF, rwAt, hd']
  · intro d k hd hk
    have hd' : d < n := by simpa [hdB, hdF] using hd
    obtain rfl : k = 0 := by simpa [hdB] using hk
    have e := hd_flow (w := w) (size := size) (since := since) hd'
    unfold Bk.flowAt at e
    rw [e]
    have hf := hCame_bd h hd'
    have hw := h.wok.day d (by omega)
    have hs := h.small d (by omega)
    have hh := half (hCame w size since n d)
    simp only [hdFlow]; omega
  · intro k hk
    have hm : rdAt (hdB w size since n).reads k ∈ (hdB w size since n).reads := by simp [rdAt, hk]
    obtain ⟨d, hd, hr, e⟩ := mem_hd.1 hm
    rw [e]
    have hw := h.wok.day d (by omega)
    have hs := h.small d (by omega)
    have hnb := hM_bd h (show d + 1 ≤ n by omega)
    have hcl := cumL_bd (since := since) h.size.1 h.size.2 (d + 1)
    have hl : (hdB w size since n).flows.length = n := by simp [hdB, hdF]
    have hl2 : (hdB w size since n).first.length = 1 := by simp [hdB]
    rw [hl, hl2]
    have hh := half (hM w size since n (d + 1))
    simp only [hdRead]
    push_cast at hcl
    omega
theorem hd_zone (h : HidOk w size since n) {g : Gs} (hz : (hdB w size since n).zoneB g 0 = true) : (hdB w size since n).agreeB g = true := by
  rw [Bk.agreeB, List.all_eq_true]
  intro i hi
  have hi' : i < (hdB w size since n).first.length := List.mem_range.1 hi
  obtain rfl : i = 0 := by simpa [hdB] using hi'
  exact hz
/-- The book agrees with the leak that was there, if there was any. -/
theorem hd_leak (h : HidOk w size since n) {g : Gs} (hg : ∀ k : Nat, k < n → lost g ((0 : Nat) : Int) (k : Int) = leaks size since k) : (hdB w size since n).agreeB g = true := by
  have hz : 0 < (hdB w size since n).first.length := by simp [hdB]
  have hl : (hdB w size since n).flows.length = n := by simp [hdB, hdF]
  have hn := h.n
  refine hd_zone h (truth_zone (hd_ok h) hz (c := fun k => -cumL size since k) ⟨fun k hk => ?_, fun x hx => ?_⟩)
  · rw [hl] at hk
    have hw := h.wok.day k (by omega)
    have hf := hCame_bd h hk
    have eL : cumL size since (k + 1) = cumL size since k + leaks size since k := rfl
    have hh := half (hCame w size since n k)
    simp only [Bk.comes, hd_flow hk, hg k hk, hdFlow]
    omega
  · rcases mem_allK_iff.1 hx with rfl | ⟨r, hr, hz, rfl⟩
    · simp [hdB, spAt, cumL]
    · obtain ⟨d, hd, hrd, rfl⟩ := mem_hd.1 hr
      have hw := h.wok.day d (by omega)
      have hm := hM_base h hd
      rw [hBase, if_pos hrd] at hm
      simp only [hdRead]
      rw [show ((d : Int) + 1).toNat = d + 1 by omega]
      simp only at hm
      have hh := half (hM w size since n (d + 1))
      omega
/-- The book agrees without a leak. -/
theorem hd_none (h : HidOk w size since n) : (hdB w size since n).agreeB noGs = true := by
  have hz : 0 < (hdB w size since n).first.length := by simp [hdB]
  have hl : (hdB w size since n).flows.length = n := by simp [hdB, hdF]
  have hn := h.n
  refine hd_zone h (truth_zone (hd_ok h) hz (c := hCon w size since n) ⟨fun k hk => ?_, fun x hx => ?_⟩)
  · rw [hl] at hk
    have hw := h.wok.day k (by omega)
    have hf := hCame_bd h hk
    have hh := half (hCame w size since n k)
    have e : lost noGs ((0 : Nat) : Int) (k : Int) = 0 := lost_none 0 k
    simp only [Bk.comes, hd_flow hk, e, hdFlow]
    cases k with
    | zero =>
      have e1 : hCame w size since n 0 = 0 := rfl
      rw [e1] at hf hh ⊢
      simp only [hCon, Nat.zero_add]
      omega
    | succ k =>
      have eL : cumL size since (k + 1 + 1) = cumL size since (k + 1) + leaks size since (k + 1) := rfl
      have e1 : hCame w size since n (k + 1) = hM w size since n (k + 1 + 1) - hM w size since n (k + 1) - leaks size since (k + 1) := rfl
      simp only [hCon]
      omega
  · rcases mem_allK_iff.1 hx with rfl | ⟨r, hr, hz, rfl⟩
    · have hm := hM_bd h (show 1 ≤ n by omega)
      have hc := cumL_bd (since := since) h.size.1 h.size.2 1
      simp [hdB, spAt, hCon]; push_cast at hc; omega
    · obtain ⟨d, hd, hrd, rfl⟩ := mem_hd.1 hr
      have hw := h.wok.day d (by omega)
      have hm := hM_base h hd
      rw [hBase, if_pos hrd] at hm
      have hh := half (hM w size since n (d + 1))
      simp only [hdRead]
      rw [show ((d : Int) + 1).toNat = d + 1 by omega]
      simp only [hCon]
      simp only at hm
      omega
end
end Lk
namespace Lk
section
variable {w : List Dy} {size since : Int} {n : Nat}
theorem hd_err (h : HidOk w size since n) : (hdB w size since n).err true = 0 := by
  have ok := hd_ok h
  have hl := ok.long
  have hn := h.n
  have hb : (hdB w size since n).bookB = true := by
    simp only [Bk.bookB, Bool.and_eq_true, List.all_eq_true, inB_iff, decide_eq_true_eq, spB_iff, Bk.flowB, Bk.rdB]
    refine ⟨⟨⟨fun x hx => ?_, fun x hx => ?_⟩, fun x hx => ?_⟩, by have := ok.nz; omega, by have := ok.nd; omega⟩
    · obtain ⟨k, hk, rfl⟩ := List.getElem_of_mem hx
      have := ok.first k hk
      simpa [spAt, hk] using this
    · obtain ⟨d, hd, rfl⟩ := List.getElem_of_mem hx
      have e : rwAt (hdB w size since n).flows d = (hdB w size since n).flows[d] := by simp [rwAt, hd]
      have hr := ok.rows d hd
      rw [e] at hr
      refine ⟨hr, fun s hs => ?_⟩
      obtain ⟨k, hk, rfl⟩ := List.getElem_of_mem hs
      have := ok.flows d k hd (by omega)
      rw [e] at this
      simpa [spAt, hk] using this
    · obtain ⟨k, hk, rfl⟩ := List.getElem_of_mem hx
      have := ok.reads k hk
      simp only [rdAt, List.getD_eq_getElem?_getD, List.getElem?_eq_getElem hk, Option.getD_some] at this
      omega
  unfold Bk.err
  rw [hl, hb]
  rfl
/-- The guess that is asked for at last. -/
theorem hd_guess (h : HidOk w size since n) : ∃ g : Gs, ((n : Int) ≤ since → g = noGs) ∧ (since < n → g = ⟨0, size, since⟩) ∧ (hdB w size since n).gsB g = true ∧ (hdB w size since n).agreeB g = true := by
  have hl : (hdB w size since n).flows.length = n := by simp [hdB, hdF]
  have h1 := h.size
  have h2 := h.since
  by_cases hs : (n : Int) ≤ since
  · exact ⟨noGs, fun _ => rfl, fun h => absurd h (by omega), by simp [Bk.gsB], hd_none h⟩
  · refine ⟨⟨0, size, since⟩, fun h => absurd h hs, fun _ => rfl, ?_, hd_leak h fun k hk => ?_⟩
    · simp only [Bk.gsB, Bool.or_eq_true, decide_eq_true_eq, Bool.and_eq_true, inB_iff, hl]
      right
      simp [hdB]; omega
    · unfold lost leaks; simp
theorem hd_cases (h : Go.Proofs.Ytddmfkhmhdddeaa.wdE w size since = 0) (hl : w.length ≤ 8) (hs : size ≤ 3) (hsm : ∀ d, d < w.length → (dyAt w d).flow ≤ 3 ∧ (dyAt w d).content ≤ 3) :
    ∃ n : Nat, HidOk w size since n ∧ (fdR w size since = ((n : Int), 0) ∨ fdR w size since = (0, 5) ∧ n = w.length) := by
  have hw : watchB w size since = true := by
    unfold Go.Proofs.Ytddmfkhmhdddeaa.wdE at h
    rw [if_neg (by omega)] at h
    cases hc : watchB w size since
    · rw [hc] at h; simp at h
    · rfl
  obtain ⟨wok, hsz, hsi⟩ := watch_ok hw (by omega)
  unfold fdR
  rw [if_neg (by omega), if_neg (by simp [hw])]
  cases hf : foundD w size since with
  | none =>
    refine ⟨w.length, ⟨wok, fun t ht => ?_, hsm, ⟨hsz.1, hs⟩, hsi.1, ⟨by omega, by omega, by omega⟩⟩, .inr ⟨rfl, rfl⟩⟩
    have := List.find?_eq_none.1 hf t (List.mem_range.2 ht)
    simpa using this
  | some n =>
    have hf2 := hf
    unfold foundD at hf2
    rw [List.find?_range_eq_some] at hf2
    obtain ⟨h1, h2, h3⟩ := hf2
    have hn : n < w.length := by simpa using h2
    have hpos : 1 ≤ n := by
      rw [foundB, Bool.and_eq_true, List.any_eq_true] at h1
      obtain ⟨-, j, hj, -⟩ := h1
      have := List.mem_range.1 hj
      omega
    refine ⟨n, ⟨wok, fun t ht => ?_, hsm, ⟨hsz.1, hs⟩, hsi.1, ⟨hpos, by omega, by omega⟩⟩, .inl rfl⟩
    have := h3 t ht
    simpa using this
theorem hEnds_bd (h : HidOk w size since n) {d : Nat} (hd : d < n) : (-1000 ≤ hLo w size since n d ∧ hLo w size since n d ≤ 1000) ∧ (-1000 ≤ hHi w size since n d ∧ hHi w size since n d ≤ 1000) := by
  have h1 := (hM_in h d hd).1
  have h2 := hM_bd h (show d + 1 ≤ n by omega)
  have h3 := hBase_bd h (d := d) (by have := h.n; omega)
  by_cases he : d + 1 < n
  · have := hLo_step (w := w) (size := size) (since := since) (n := n) he
    have := hHi_step (w := w) (size := size) (since := since) (n := n) he
    omega
  · obtain rfl : d = n - 1 := by omega
    rw [hLo_last] at h1 ⊢
    rw [hHi_last] at h1 ⊢
    omega
/-- The ends from a day on; nothing ahead of it yet. -/
def loL (w : List Dy) (size since : Int) (n d : Nat) : List Int := (List.range n).map fun j => if d ≤ j then hLo w size since n j else 0
def hiL (w : List Dy) (size since : Int) (n d : Nat) : List Int := (List.range n).map fun j => if d ≤ j then hHi w size since n j else 0
theorem loL_len {d : Nat} : (loL w size since n d).length = n := by simp [loL]
theorem hiL_len {d : Nat} : (hiL w size since n d).length = n := by simp [hiL]
theorem loL_at {d k : Nat} (hk : k < n) (hd : d ≤ k) : at0 (loL w size since n d) k = hLo w size since n k := by simp [at0, loL, hk, hd]
theorem hiL_at {d k : Nat} (hk : k < n) (hd : d ≤ k) : at0 (hiL w size since n d) k = hHi w size since n k := by simp [at0, hiL, hk, hd]
theorem loL_set {d : Nat} : (loL w size since n (d + 1)).set d (hLo w size since n d) = loL w size since n d := by
  apply List.ext_getElem
  · simp [loL]
  · intro k h1 h2
    simp only [loL, List.getElem_set, List.getElem_map, List.getElem_range]
    split
    · rename_i h; subst h; simp
    · split <;> split <;> first | rfl | omega
theorem hiL_set {d : Nat} : (hiL w size since n (d + 1)).set d (hHi w size since n d) = hiL w size since n d := by
  apply List.ext_getElem
  · simp [hiL]
  · intro k h1 h2
    simp only [hiL, List.getElem_set, List.getElem_map, List.getElem_range]
    split
    · rename_i h; subst h; simp
    · split <;> split <;> first | rfl | omega
theorem loL_zero : loL w size since n n = List.replicate n 0 := by
  apply List.ext_getElem
  · simp [loL]
  · intro k h1 h2
    simp only [loL, List.getElem_map, List.getElem_range, List.getElem_replicate]
    rw [if_neg]; simp [loL] at h1; omega
theorem hiL_zero : hiL w size since n n = List.replicate n 0 := by
  apply List.ext_getElem
  · simp [hiL]
  · intro k h1 h2
    simp only [hiL, List.getElem_map, List.getElem_range, List.getElem_replicate]
    rw [if_neg]; simp [hiL] at h1; omega
theorem hdF_succ {m : Nat} : hdF w size since n (m + 1) = hdF w size since n m ++ [[hdFlow w size since n m]] := by simp [hdF, List.range_succ]
theorem hdR_yes {m : Nat} (h : (dyAt w m).reads = true) : hdR w size since n (m + 1) = hdR w size since n m ++ [hdRead w size since n m] := by simp [hdR, List.range_succ, h]
theorem hdR_no {m : Nat} (h : (dyAt w m).reads = false) : hdR w size since n (m + 1) = hdR w size since n m := by simp [hdR, List.range_succ, h]
theorem hdR_len : ∀ m, (hdR w size since n m).length ≤ m
  | 0 => by simp [hdR]
  | m + 1 => by
    have := hdR_len m
    cases h : (dyAt w m).reads
    · rw [hdR_no h]; omega
    · rw [hdR_yes h, List.length_append]; simp; omega
end
end Lk
namespace Go.Proofs.Ytddmfkhmhdddeaa
open Go.RowKit Go.Sd Lk

/-- A block of whole numbers. -/
def IntBlk (w : World) (T : Nat) (L : List Int) : Prop := w.heap[T]? = some (.cells (L.map fun x : Int => Value.int .i64 x).toArray 3)
theorem IntBlk.mono {w w' : World} {T : Nat} {L : List Int} (h : IntBlk w T L) (hb : Below w.heap.size w w') : IntBlk w' T L := kept_block hb h
theorem IntBlk.lt {w : World} {T : Nat} {L : List Int} (h : IntBlk w T L) : T < w.heap.size := (Array.getElem?_eq_some_iff.1 h).1
theorem IntBlk.cell {w : World} {T : Nat} {L : List Int} (h : IntBlk w T L) {k : Nat} (hk : k < L.length) : w.cell? ⟨T, k, none⟩ = some (.int .i64 (at0 L k)) ∧ w.frozen? ⟨T, k, none⟩ = false := by
  obtain ⟨-, r, f⟩ := row_cells h
  refine ⟨?_, f _⟩
  rw [r]
  simp [at0, hk]
theorem IntBlk.set {w : World} {T : Nat} {L : List Int} (h : IntBlk w T L) (k : Nat) (v : Int) : IntBlk (w.setCell ⟨T, k, none⟩ (.int .i64 v)) T (L.set k v) := by
  unfold IntBlk at h ⊢
  have := set_one h k (.int .i64 v)
  rw [this]
  simp [List.map_set]
theorem IntBlk.other {w : World} {T U k : Nat} {L : List Int} {v : Value} (h : IntBlk w T L) (hn : T ≠ U) : IntBlk (w.setCell ⟨U, k, none⟩ v) T L := (Below.heap_setCell _ _ _ _ (by simpa using hn)).trans h
theorem make_intz (w : World) (n : Nat) (hn : n ≤ 1000) : (Instr.makeSlice 38 (.int .i64 (n : Int)) (.int .i64 (n : Int))).run Try.prog w =
    .ok (.slice (some ⟨w.heap.size, 0, none⟩) n n) (w.alloc (.cells ((List.replicate n (0 : Int)).map fun x : Int => Value.int .i64 x).toArray 3)) := by
  rw [make_ints w n hn]
  simp
/-- What stands in the rounds of the ends. -/
structure HS (w0 : World) (b1 b2 : Nat) (A B : List Int) (X : World) : Prop where
  lo : IntBlk X b1 A
  hi : IntBlk X b2 B
  bel : Below w0.heap.size w0 X
theorem HS.mono {w0 : World} {b1 b2 : Nat} {A B : List Int} {X Y : World} (h : HS w0 b1 b2 A B X) (hb : Below X.heap.size X Y) : HS w0 b1 b2 A B Y := ⟨h.lo.mono hb, h.hi.mono hb, below_tr h.bel hb⟩
theorem HS.drew {w0 : World} {b1 b2 : Nat} {A B : List Int} {X : World} (h : HS w0 b1 b2 A B X) : HS w0 b1 b2 A B X.drew := ⟨h.lo, h.hi, h.bel.drew⟩
theorem at0_set {L : List Int} {i j : Nat} {v : Int} (h : j ≠ i) : at0 (L.set i v) j = at0 L j := by simp [at0, List.getElem?_set, Ne.symm h]
theorem at0_self {L : List Int} {i : Nat} {v : Int} (h : i < L.length) : at0 (L.set i v) i = v := by simp [at0, h]
theorem HS.new {w0 w : World} {n : Nat} (h : Below w0.heap.size w0 w) :
    IntBlk ((w.alloc (.cells (Array.replicate n (.int .i64 0)) 3)).alloc (.cells (Array.replicate n (.int .i64 0)) 3)).drew w.heap.size (List.replicate n 0) ∧
    IntBlk ((w.alloc (.cells (Array.replicate n (.int .i64 0)) 3)).alloc (.cells (Array.replicate n (.int .i64 0)) 3)).drew (w.heap.size + 1) (List.replicate n 0) ∧
    Below w0.heap.size w0 ((w.alloc (.cells (Array.replicate n (.int .i64 0)) 3)).alloc (.cells (Array.replicate n (.int .i64 0)) 3)).drew := by
  obtain ⟨e0, e1, -, b⟩ := two_new (w := w) (a := .cells (Array.replicate n (.int .i64 0)) 3) (b := .cells (Array.replicate n (.int .i64 0)) 3) rfl
  have hx : ((List.replicate n (0 : Int)).map fun x : Int => Value.int .i64 x).toArray = Array.replicate n (.int .i64 0) := by simp
  unfold IntBlk
  rw [hx]
  exact ⟨e0, e1, (below_tr h b).drew⟩
theorem HS.two {w0 : World} {b1 b2 : Nat} {A B : List Int} {X : World} (h : HS w0 b1 b2 A B X) (hne : b1 ≠ b2) (h1 : w0.heap.size ≤ b1) (h2 : w0.heap.size ≤ b2) (k : Nat) (u v : Int) :
    HS w0 b1 b2 (A.set k u) (B.set k v) ((X.setCell ⟨b1, k, none⟩ (.int .i64 u)).setCell ⟨b2, k, none⟩ (.int .i64 v)) :=
  ⟨(h.lo.set k u).other hne, (h.hi.other (Ne.symm hne)).set k v, (h.bel.setCell (p := ⟨b1, k, none⟩) h1 _).setCell (p := ⟨b2, k, none⟩) h2 _⟩

set_option maxRecDepth 100000 in
set_option maxHeartbeats 4000000 in
theorem lawHidden (lv : Value) (l : List Dy) (size since : Int) (w : World) (hl : DysAt w lv l) :
    Calls Try.prog 12 #[lv, .int .i64 size, .int .i64 since] w fun e w' => e = .returned (.bool true) ∧ Below w.heap.size w w' := by
  have kK := Lib.hid (fun X => progKnown X)
  have kT0 := lawWatched lv l size since w hl
  have hlh := Lib.hid hl
  obtain ⟨la, lc, rfl, hlm, -⟩ := hl.form
  have hw23 : Hid (wdE l size since = 0 ∨ wdE l size since = 2 ∨ wdE l size since = 3) := Lib.hid (by unfold wdE; split; exact .inr (.inr rfl); split; exact .inl rfl; exact .inr (.inl rfl))
  clear hl
  go_enter Try.func12, Try.ntmps12
  go_upto_region 1 with fail
  go_cut [43] from 30 to 43 (fun c wx => ∃ G : Bool, c = .bool G ∧ Hid (wx = w ∧ (G = false → l.length ≤ 8 ∧ wdE l size since = 0 ∧ size ≤ 3)))
  case first =>
    by_cases hp0 : 8 < l.length
    · have d0 : decide ((8 : Int) < (l.length : Int)) = true := decide_eq_true (by omega)
      have d1 : decide (8 < l.length) = true := decide_eq_true hp0
      go_wp2_with fail
      go_meet
      exact ⟨true, rfl, Lib.hid ⟨rfl, fun h => (by cases h)⟩⟩
    · have d0 : decide ((8 : Int) < (l.length : Int)) = false := decide_eq_false (by omega)
      have d1 : decide (8 < l.length) = false := decide_eq_false hp0
      rcases hw23.out with he | he | he
      · rw [he] at kT0
        have kT := Lib.hid kT0
        have heh := Lib.hid he
        clear kT0 he
        go_wp2_with (go_at_call 29; (with_reducible refine Calls.mono kT.out ?_); rintro e w1 ⟨rfl, rfl⟩)
        go_meet
        exact ⟨decide (3 < size), rfl, Lib.hid ⟨rfl, fun h => ⟨by omega, heh.out, by have := of_decide_eq_false h; omega⟩⟩⟩
      · rw [he] at kT0
        have kT := Lib.hid kT0
        clear kT0 he
        go_wp2_with (go_at_call 29; (with_reducible refine Calls.mono kT.out ?_); rintro e w1 ⟨rfl, rfl⟩)
        go_meet
        exact ⟨true, rfl, Lib.hid ⟨rfl, fun h => (by cases h)⟩⟩
      · rw [he] at kT0
        have kT := Lib.hid kT0
        clear kT0 he
        go_wp2_with (go_at_call 29; (with_reducible refine Calls.mono kT.out ?_); rintro e w1 ⟨rfl, rfl⟩)
        go_meet
        exact ⟨true, rfl, Lib.hid ⟨rfl, fun h => (by cases h)⟩⟩
  case rest =>
  obtain ⟨G, rfl, hH⟩ := hcut
  obtain ⟨rfl, hF⟩ := hH.out
  clear hH kT0
  cases G
  · obtain ⟨h8, hwd, hs3⟩ := hF rfl
    clear hF
    replace hwd := Lib.hid hwd
    go_wp2_with fail
    go_loopw [7] (fun i wr => wr = wc ∧ ∃ d : Nat, d ≤ l.length ∧ i = .int .i64 d ∧ Hid (∀ j, j < d → (dyAt l j).flow ≤ 3 ∧ (dyAt l j).content ≤ 3)) (fun i _ => l.length - (intOf i).toNat)
    case atStart => exact ⟨rfl, 0, by omega, rfl, Lib.hid fun j hj => absurd hj (Nat.not_lt_zero _)⟩
    case round =>
      obtain ⟨rfl, d, hd, rfl, hB⟩ := hrel
      by_cases hdl : d < l.length
      · have hdi : (d : Int) < (l.length : Int) := by omega
        obtain ⟨da, dc, hv3, hm3, hc3⟩ := hlh.out
        obtain ⟨bb, off, rfl, hbb, hcells⟩ := hc3 (by omega)
        obtain ⟨rfl, rfl⟩ : la = some ⟨bb, off, none⟩ ∧ lc = dc := by simpa using hv3
        have s0 : wr.cell? ⟨bb, off + d * 3, none⟩ = some (.int .i64 (dyAt l d).flow) := hcells d 0 _ hdl rfl
        have s2 : wr.cell? ⟨bb, off + d * 3 + 2, none⟩ = some (.int .i64 (dyAt l d).content) := hcells d 2 _ hdl rfl
        have hB2 : Hid ((dyAt l d).flow ≤ 3 → (dyAt l d).content ≤ 3 → ∀ j, j < d + 1 → (dyAt l j).flow ≤ 3 ∧ (dyAt l j).content ≤ 3) := Lib.hid fun h1 h2 j hj => by
          rcases Nat.lt_succ_iff_lt_or_eq.1 hj with h' | rfl
          · exact hB.out j h'
          · exact ⟨h1, h2⟩
        clear hv3 hm3 hc3 hcells hB
        generalize (dyAt l d).flow = f at *
        generalize (dyAt l d).content = g at *
        by_cases h1 : 3 < f
        · have d1 : decide (3 < f) = true := decide_eq_true h1
          go_wp2_with (go_at_call 18; (with_reducible refine Calls.mono (kK.out _) ?_); rintro e w9 ⟨rfl, hB9⟩)
          go_ret
          exact ⟨rfl, hB9⟩
        · have d1 : decide (3 < f) = false := decide_eq_false h1
          by_cases h2 : 3 < g
          · have d2 : decide (3 < g) = true := decide_eq_true h2
            go_wp2_with (go_at_call 18; (with_reducible refine Calls.mono (kK.out _) ?_); rintro e w9 ⟨rfl, hB9⟩)
            go_ret
            exact ⟨rfl, hB9⟩
          · have d2 : decide (3 < g) = false := decide_eq_false h2
            have hB3 := Lib.hid (hB2.out (by omega) (by omega))
            clear hB2 h1 h2
            go_wp2_with fail
            exact ⟨⟨trivial, d + 1, by omega, by go_num, hB3⟩, by simp [intOf]; omega⟩
      · obtain rfl : d = l.length := by omega
        obtain ⟨n, hok, hfd⟩ := hd_cases hwd.out h8 hs3 hB.out
        have kF0 := progFound (.slice la l.length lc) l size since wr hlh.out
        unfold FoundPost at kF0
        clear hB hwd
        have hn1 := hok.n
        have hsz := hok.size
        have hsi := hok.since
        have hokh := Lib.hid hok
        clear hok
        generalize hW0 : wr = W0 at *
        replace hW0 := Lib.hid hW0
        obtain ⟨da, dc, hv3, hm3, hc3⟩ := hlh.out
        obtain ⟨bb, off, rfl, hbb, hcells⟩ := hc3 (by omega)
        obtain ⟨rfl, rfl⟩ : la = some ⟨bb, off, none⟩ ∧ lc = dc := by simpa using hv3
        have hdy : Hid (∀ d, d < l.length → W0.cell? ⟨bb, off + d * 3, none⟩ = some (.int .i64 (dyAt l d).flow) ∧ W0.cell? ⟨bb, off + d * 3 + 1, none⟩ = some (.bool (dyAt l d).reads) ∧ W0.cell? ⟨bb, off + d * 3 + 2, none⟩ = some (.int .i64 (dyAt l d).content)) :=
          Lib.hid fun d hd => ⟨hcells d 0 _ hd rfl, hcells d 1 _ hd rfl, hcells d 2 _ hd rfl⟩
        clear hv3 hm3 hc3 hcells
        go_upto_region 8 with fail
        go_cut [8, 9] from 66 to 72 (fun c e wx => ∃ r : Int × Int, c = .int .i64 r.1 ∧ e = .int .i64 r.2 ∧ Hid (r = fdR l size since ∧ Below W0.heap.size W0 wx))
        case first =>
          have kF := Lib.hid kF0
          clear kF0 hfd
          go_wp2_with (go_at_call 28; (with_reducible refine Calls.mono kF.out ?_); rintro e w2 ⟨rfl, h2⟩)
          go_meet
          exact ⟨fdR l size since, rfl, rfl, Lib.hid ⟨rfl, h2⟩⟩
        case rest =>
        obtain ⟨R, rfl, rfl, hH⟩ := hcut
        clear kF0
        go_upto_if 74 with fail
        go_cut [8] from 73 to 78 (fun c wx => c = .int .i64 n ∧ wx = wc)
        case first =>
          obtain ⟨hR, -⟩ := hH.out
          rcases hfd with h | ⟨h, rfl⟩
          · rw [h] at hR
            subst hR
            go_wp2_with fail
            go_meet
            exact ⟨rfl, rfl⟩
          · rw [h] at hR
            subst hR
            go_wp2_with fail
            go_meet
            exact ⟨rfl, rfl⟩
        case rest =>
        obtain ⟨rfl, rfl⟩ := hcut
        have hwB1 := Lib.hid hH.out.2
        clear hH hfd
        have d0 : decide ((n : Int) = 0) = false := decide_eq_false (by omega)
        have d1 : ¬ (n : Int) = 0 := by omega
        have d2 : ((n : Int) == 0) = false := by simpa using d1
        go_upto_region 15 with fail
        go_cut [10, 11] from 82 to 85 (fun c1 c2 wx => ∃ b1 b2 : Nat, c1 = .slice (some ⟨b1, 0, none⟩) n n ∧ c2 = .slice (some ⟨b2, 0, none⟩) n n ∧ Hid (b1 ≠ b2 ∧ W0.heap.size ≤ b1 ∧ W0.heap.size ≤ b2 ∧ HS W0 b1 b2 (loL l size since n n) (hiL l size since n n) wx))
        case first =>
          have hmk := fun X => make_intz X n (by omega)
          go_region
          all_goals
            go_wp2_with fail
            go_meet
            obtain ⟨k1, k2, k3⟩ := HS.new (n := n) hwB1.out
            have hle := hwB1.out.size
            rw [loL_zero, hiL_zero]
            first
            | exact ⟨_, _, rfl, rfl, Lib.hid ⟨by omega, by omega, by omega, ⟨k1, k2, k3⟩⟩⟩
            | exact ⟨_, _, rfl, rfl, Lib.hid ⟨by omega, by omega, by omega, ⟨k2, k1, k3⟩⟩⟩
        case rest =>
        obtain ⟨b1, b2, rfl, rfl, hH⟩ := hcut
        have hbs := Lib.hid (And.intro hH.out.1 (And.intro hH.out.2.1 hH.out.2.2.1))
        have hS0 := Lib.hid hH.out.2.2.2
        clear hH hwB1 d0 d1 d2
        go_wp2_with fail
        go_loopw [12] (fun i X => ∃ d : Nat, d ≤ n ∧ i = .int .i64 ((d : Int) - 1) ∧ Hid (HS W0 b1 b2 (loL l size since n d) (hiL l size since n d) X)) (fun i _ => (intOf i + 1).toNat)
        case atStart => exact ⟨n, Nat.le_refl _, rfl, hS0.out⟩
        case round =>
          obtain ⟨d, hd, rfl, hG⟩ := hrel
          clear hS0
          by_cases hd0 : d = 0
          · have hi : (d : Int) - 1 = -1 := by omega
            rw [hi]
            clear hi
            subst hd0
            obtain ⟨W2, hW2⟩ : ∃ W2, wr.alloc (spO ⟨-10000, 10000⟩) = W2 := ⟨_, rfl⟩
            obtain ⟨W3, hW3⟩ : ∃ W3, W2.alloc (bkA (.slice (some ⟨wr.heap.size, 0, none⟩) 1 1) (.slice none 0 0) (.slice none 0 0)) = W3 := ⟨_, rfl⟩
            obtain ⟨e1, B1, s1⟩ := boxed hW2
            obtain ⟨e2, B2, s2⟩ := boxed hW3
            have hAr := Lib.hid (hG.out.mono B1)
            have hE1 := Lib.hid e1
            have hS1 : Hid (SdSt W2 (.slice (some ⟨wr.heap.size, 0, none⟩) 1 1) (hdF l size since n 0) (hdR l size since n 0) (.slice none 0 0) (.slice none 0 0) W3) := Lib.hid ⟨e2, OwnRs.nil, OwnSt.nil _ _ _ _ _, B2, by omega⟩
            have hlt1 : Hid (wr.heap.size < W2.heap.size) := Lib.hid (by omega)
            replace hW3 := Lib.hid hW3
            clear hG e1 e2 B1 B2 s1 s2
            go_upto_region 28 with fail
            rw [hW3.out]
            clear hW2 hW3
            generalize wr.heap.size = Wb at *
            go_wp2_with fail
            go_loopw [15, 16, 17] (fun mo nw i X => ∃ (d : Nat) (wv rv : Value), d ≤ n ∧ mo = .int .i64 (hM l size since n d) ∧ nw = .int .i64 (-cumL size since d) ∧ i = .int .i64 d ∧ Hid (SdSt W2 (.slice (some ⟨Wb, 0, none⟩) 1 1) (hdF l size since n d) (hdR l size since n d) wv rv X)) (fun _ _ i _ => n - (intOf i).toNat)
            case atStart => exact ⟨0, _, _, by omega, rfl, rfl, rfl, hS1.out⟩
            case round =>
              obtain ⟨d, wv, rv, hd, rfl, rfl, rfl, hG⟩ := hrel
              clear hS1
              by_cases hdn : d < n
              · as_aux_lemma =>
                  have hdi : (d : Int) < (n : Int) := by omega
                  have hdl : d < l.length := by omega
                  have hdl2 : (d : Int) < (l.length : Int) := by omega
                  have hKb : 0 ≤ leaks size since d ∧ leaks size since d ≤ 3 := by unfold leaks; split <;> omega
                  have hKe : leaks size since d = if since ≤ (d : Int) then size else 0 := rfl
                  have hMb := hM_bd hokh.out hd
                  have hMb2 := hM_bd hokh.out (show d + 1 ≤ n by omega)
                  have hNb := cumL_bd (since := since) hsz.1 hsz.2 d
                  have hNe : -cumL size since (d + 1) = -cumL size since d - leaks size since d := by rw [cumL]; omega
                  have hN1b : -30 ≤ -cumL size since (d + 1) ∧ -cumL size since (d + 1) ≤ 0 := by have := cumL_bd (since := since) hsz.1 hsz.2 (d + 1); omega
                  obtain ⟨hLb, hHb⟩ := hEnds_bd hokh.out hdn
                  obtain ⟨hLb0, hHb0⟩ := hEnds_bd hokh.out (show 0 < n by omega)
                  have hCb := hCame_bd hokh.out hdn
                  have hday := hokh.out.wok.day d hdl
                  have hsm := hokh.out.small d hdl
                  obtain ⟨c0, c1, c2⟩ := hdy.out d hdl
                  have hMe : hM l size since n (d + 1) = max (if d = 0 then hLo l size since n 0 else hM l size since n d + leaks size since d - 2 * (dyAt l d).flow) (min (if d = 0 then hHi l size since n 0 else hM l size since n d + leaks size since d + 2 * (dyAt l d).flow) (max (hLo l size since n d) (min (hHi l size since n d) (hM l size since n d + leaks size since d)))) := rfl
                  have hCe : hCame l size since n d = if d = 0 then 0 else hM l size since n (d + 1) - hM l size since n d - leaks size since d := rfl
                  have hF : Hid (hdF l size since n (d + 1) = hdF l size since n d ++ [[⟨(hCame l size since n d).tdiv 2 - (dyAt l d).flow, (hCame l size since n d).tdiv 2 + (dyAt l d).flow⟩]]) := Lib.hid hdF_succ
                  have hRy : Hid ((dyAt l d).reads = true → hdR l size since n (d + 1) = hdR l size since n d ++ [⟨d, 0, ⟨-cumL size since (d + 1) + (hM l size since n (d + 1)).tdiv 2 - (dyAt l d).content, -cumL size since (d + 1) + (hM l size since n (d + 1)).tdiv 2 + (dyAt l d).content⟩⟩]) := Lib.hid fun h => hdR_yes h
                  have hRn : Hid ((dyAt l d).reads = false → hdR l size since n (d + 1) = hdR l size since n d) := Lib.hid fun h => hdR_no h
                  have hFl : Hid ((hdF l size since n d).length = d) := Lib.hid hdF_len
                  have hRl := hdR_len (w := l) (size := size) (since := since) (n := n) d
                  replace hKe := Lib.hid hKe
                  replace hMe := Lib.hid hMe
                  replace hCe := Lib.hid hCe
                  replace hNe := Lib.hid hNe
                  obtain ⟨LO, hLO⟩ : ∃ x, hLo l size since n d = x := ⟨_, rfl⟩
                  have hg0 : W2.cell? ⟨b1, 0, none⟩ = some (.int .i64 (hLo l size since n 0)) := by have := (hAr.out.lo.cell (k := 0) (by rw [loL_len]; omega)).1; rwa [loL_at (by omega) (Nat.le_refl _)] at this
                  have hg1 : W2.cell? ⟨b2, 0, none⟩ = some (.int .i64 (hHi l size since n 0)) := by have := (hAr.out.hi.cell (k := 0) (by rw [hiL_len]; omega)).1; rwa [hiL_at (by omega) (Nat.le_refl _)] at this
                  have hg2 : W2.cell? ⟨b1, d, none⟩ = some (.int .i64 (hLo l size since n d)) := by have := (hAr.out.lo.cell (k := d) (by rw [loL_len]; omega)).1; rwa [loL_at hdn (Nat.zero_le _)] at this
                  have hg3 : W2.cell? ⟨b2, d, none⟩ = some (.int .i64 (hHi l size since n d)) := by have := (hAr.out.hi.cell (k := d) (by rw [hiL_len]; omega)).1; rwa [hiL_at hdn (Nat.zero_le _)] at this
                  have zb1 := hAr.out.lo.lt
                  have zb2 := hAr.out.hi.lt
                  have zbb := Nat.lt_of_lt_of_le hbb hAr.out.bel.size
                  replace c0 := kept_cell hAr.out.bel c0
                  replace c1 := kept_cell hAr.out.bel c1
                  replace c2 := kept_cell hAr.out.bel c2
                  clear hLO LO
                  generalize hFe : hdF l size since n (d + 1) = FF' at *
                  generalize hRe : hdR l size since n (d + 1) = RR' at *
                  generalize hdF l size since n d = FF at *
                  generalize hdR l size since n d = RR at *
                  replace hFe := Lib.hid hFe
                  replace hRe := Lib.hid hRe
                  generalize hM1 : hM l size since n (d + 1) = M1 at *
                  generalize hM l size since n d = M at *
                  generalize hN1 : -cumL size since (d + 1) = N1 at *
                  obtain ⟨N, hN⟩ : ∃ N, -cumL size since d = N := ⟨_, rfl⟩
                  rw [hN] at hNe ⊢
                  have hNb2 : -24 ≤ N ∧ N ≤ 0 := by omega
                  clear hN hNb
                  generalize hCame l size since n d = CA at *
                  generalize leaks size since d = K at *
                  generalize hLo l size since n d = LO at *
                  generalize hHi l size since n d = HI at *
                  generalize hLo l size since n 0 = LO0 at *
                  generalize hHi l size since n 0 = HI0 at *
                  generalize dyAt l d = y at *
                  obtain ⟨fl, yr, ct⟩ := y
                  simp only at c0 c1 c2 hday hsm hCb hF hRy hRn hMe
                  replace hM1 := Lib.hid hM1
                  replace hN1 := Lib.hid hN1
                  obtain ⟨LE, hLE⟩ : ∃ x, (if d = 0 then LO0 else M + K - 2 * fl) = x := ⟨_, rfl⟩
                  obtain ⟨MO, hMO⟩ : ∃ x, (if d = 0 then HI0 else M + K + 2 * fl) = x := ⟨_, rfl⟩
                  rw [hLE, hMO] at hMe
                  replace hLE := Lib.hid hLE
                  replace hMO := Lib.hid hMO
                  -- how much leaks
                  go_upto_if 186 with fail
                  go_cut [18] from 179 to 187 (fun c wx => c = .int .i64 K ∧ Hid (SdSt W2 (.slice (some ⟨Wb, 0, none⟩) 1 1) FF RR wv rv wx))
                  case first =>
                    by_cases hs : since ≤ (d : Int)
                    · have d3 : decide (since ≤ (d : Int)) = true := decide_eq_true hs
                      have hk := hKe.out
                      rw [if_pos hs] at hk
                      subst hk
                      go_wp2_with fail
                      go_meet
                      exact ⟨rfl, hG⟩
                    · have d3 : decide (since ≤ (d : Int)) = false := decide_eq_false hs
                      have hk := hKe.out
                      rw [if_neg hs] at hk
                      subst hk
                      go_wp2_with fail
                      go_meet
                      exact ⟨rfl, hG⟩
                  case rest =>
                  obtain ⟨rfl, hG1⟩ := hcut
                  clear hG hKe
                  go_upto_region 36 with fail
                  rw [show N - K = N1 from hNe.out.symm]
                  go_cut [19, 20] from 188 to 210 (fun u1 u2 wx => u1 = .int .i64 (M + K - 2 * fl) ∧ u2 = .int .i64 (M + K + 2 * fl) ∧ Hid (SdSt W2 (.slice (some ⟨Wb, 0, none⟩) 1 1) FF RR wv rv wx))
                  case first =>
                    have t0 := kept_cell hG1.out.bel c0
                    have t1 := Nat.lt_of_lt_of_le zbb hG1.out.bel.size
                    have hgW := grow_cell wc
                    refine wp_region_grow (by kernel_rfl) (by kernel_rfl) ?_
                    repeat (go_big_quiet_step (fail))
                    refine wpQuiet_nil ?_
                    rintro _ ⟨g, rfl⟩
                    go_wp2_with fail
                    go_meet
                    exact ⟨rfl, rfl, Lib.hid (hG1.out.mono g.h)⟩
                  case rest =>
                  obtain ⟨rfl, rfl, hG⟩ := hcut
                  clear hG1
                  go_upto_if 212 with fail
                  go_cut [19, 20] from 211 to 218 (fun u1 u2 wx => u1 = .int .i64 LE ∧ u2 = .int .i64 MO ∧ Hid (SdSt W2 (.slice (some ⟨Wb, 0, none⟩) 1 1) FF RR wv rv wx))
                  case first =>
                    have t0 := kept_cell hG.out.bel hg0
                    have t1 := kept_cell hG.out.bel hg1
                    have w1 := Nat.lt_of_lt_of_le zb1 hG.out.bel.size
                    have w2 := Nat.lt_of_lt_of_le zb2 hG.out.bel.size
                    have h1 := hLE.out
                    have h2 := hMO.out
                    by_cases hz : d = 0
                    · rw [if_pos hz] at h1 h2
                      subst h1 h2
                      have d3 : decide ((d : Int) = 0) = true := decide_eq_true (by omega)
                      have d4 : ((d : Int) == 0) = true := by simpa using hz
                      have d5 : (0 : Int) < (n : Int) := by omega
                      go_wp2_with fail
                      have hgW := grow_cell wc
                      refine wp_region_grow (by kernel_rfl) (by kernel_rfl) ?_
                      repeat (go_big_quiet_step (fail))
                      refine wpQuiet_nil ?_
                      rintro _ ⟨g, rfl⟩
                      go_wp2_with fail
                      go_meet
                      exact ⟨rfl, rfl, Lib.hid (hG.out.mono g.h)⟩
                    · rw [if_neg hz] at h1 h2
                      subst h1 h2
                      have d3 : decide ((d : Int) = 0) = false := decide_eq_false (by omega)
                      have d4 : ((d : Int) == 0) = false := by simpa using hz
                      go_wp2_with fail
                      go_meet
                      exact ⟨rfl, rfl, hG⟩
                  case rest =>
                  obtain ⟨rfl, rfl, hG1⟩ := hcut
                  clear hG
                  have hLEb : -10000 ≤ LE ∧ LE ≤ 10000 := by have := hLE.out; split at this <;> omega
                  have hMOb : -10000 ≤ MO ∧ MO ≤ 10000 := by have := hMO.out; split at this <;> omega
                  clear hLE hMO
                  go_upto_region 39 with fail
                  go_cut [21] from 219 to 235 (fun u1 wx => u1 = .int .i64 M1 ∧ Hid (SdSt W2 (.slice (some ⟨Wb, 0, none⟩) 1 1) FF RR wv rv wx))
                  case first =>
                    have t0 := kept_cell hG1.out.bel hg2
                    have t1 := kept_cell hG1.out.bel hg3
                    have w1 := Nat.lt_of_lt_of_le zb1 hG1.out.bel.size
                    have w2 := Nat.lt_of_lt_of_le zb2 hG1.out.bel.size
                    have q1 := min_if HI (M + K)
                    have q2 := max_if LO (min HI (M + K))
                    have q3 := min_if MO (max LO (min HI (M + K)))
                    have q4 := max_if LE (min MO (max LO (min HI (M + K))))
                    rw [← hMe.out] at q4
                    generalize min MO (max LO (min HI (M + K))) = m3 at *
                    generalize max LO (min HI (M + K)) = m2 at *
                    generalize min HI (M + K) = m1 at *
                    have hgW := grow_cell wc
                    refine wp_region_grow (by kernel_rfl) (by kernel_rfl) ?_
                    repeat (go_big_quiet_step (fail))
                    refine wpQuiet_nil ?_
                    rintro _ ⟨g, rfl⟩
                    go_wp2_with fail
                    go_meet
                    exact ⟨rfl, Lib.hid (hG1.out.mono g.h)⟩
                  case rest =>
                  obtain ⟨rfl, hG⟩ := hcut
                  clear hG1 hg0 hg1 hg2 hg3 hLEb hMOb hMe zb1 zb2 hLb hHb hLb0 hHb0
                  go_upto_if 242 with fail
                  go_cut [22] from 236 to 242 (fun u1 wx => u1 = .int .i64 CA ∧ Hid (SdSt W2 (.slice (some ⟨Wb, 0, none⟩) 1 1) FF RR wv rv wx))
                  case first =>
                    have h1 := hCe.out
                    by_cases hz : d = 0
                    · rw [if_pos hz] at h1
                      subst h1
                      have d3 : decide ((d : Int) = 0) = true := decide_eq_true (by omega)
                      have d4 : ((d : Int) == 0) = true := by simpa using hz
                      go_wp2_with fail
                      go_meet
                      exact ⟨rfl, hG⟩
                    · rw [if_neg hz] at h1
                      subst h1
                      have d3 : decide ((d : Int) = 0) = false := decide_eq_false (by omega)
                      have d4 : ((d : Int) == 0) = false := by simpa using hz
                      go_wp2_with fail
                      go_meet
                      exact ⟨rfl, hG⟩
                  case rest =>
                  obtain ⟨rfl, hG1⟩ := hcut
                  clear hG hCe
                  have hhf := half CA
                  go_upto_region 44 with fail
                  generalize CA.tdiv 2 = F at *
                  replace hF := Lib.hid hF.out
                  obtain ⟨⟨ss, hs1, hs2, hs3⟩, hfar⟩ := hG1.out.flows
                  obtain ⟨va, vc, rfl⟩ := hs1.slice
                  obtain ⟨ra, rc, rfl⟩ := hG1.out.reads.slice
                  obtain ⟨o0, o1, o2⟩ := rc3 hG1.out.box
                  have zo := (Array.getElem?_eq_some_iff.1 hG1.out.box).1
                  have t0 := kept_cell hG1.out.bel c0
                  have z0 := Nat.lt_of_lt_of_le zbb hG1.out.bel.size
                  have hssl : ss.length ≤ 30 := by
                    rw [hs2]; have := hFl.out; omega
                  have hGYh := hG1
                  replace hs2 := Lib.hid hs2
                  clear hG1
                  refine plain_region (by kernel_rfl) (any_region_locN 19 332 [] [245, 246, 247, 248, 249, 250, 251, 252, 253, 254, 255, 256, 257, 258, 259, 260, 261, 262, 263] [[], [0], [], [], [], [3, 4], [5], [6], [2, 7], [], [], [], [10, 11], [12], [13], [9, 14], [8, 15], [16], [17]] [IsV (.pointer (some ⟨W2.heap.size, 1, none⟩)), IsV (.slice va ss.length vc), IsV (.int .i64 (F)), IsV (.slice (some ⟨bb, off, none⟩) l.length lc), IsV (.int .i64 d), IsV (.pointer (some ⟨bb, off + d * 3, none⟩)), IsV (.pointer (some ⟨bb, off + d * 3, none⟩)), IsV (.int .i64 fl), IsV (.int .i64 (F - fl)), IsV (.int .i64 (F)), IsV (.slice (some ⟨bb, off, none⟩) l.length lc), IsV (.int .i64 d), IsV (.pointer (some ⟨bb, off + d * 3, none⟩)), IsV (.pointer (some ⟨bb, off + d * 3, none⟩)), IsV (.int .i64 fl), IsV (.int .i64 (F + fl)), IsV (.agg #[.int .i64 (F - fl), .int .i64 (F + fl)]), SlIs wc.heap.size [.int .i64 (F - fl), .int .i64 (F + fl)] 55, SlIs2 wc.heap.size [.int .i64 (F - fl), .int .i64 (F + fl)] 55 22] [] (by kernel_rfl) (by kernel_rfl) (by kernel_rfl) (by kernel_rfl) (by kernel_rfl) rfl OnlyN.panic ?_ ?_ ?_ (fun j hj => nomatch hj) ?_)
                  · exact List.forall_mem_cons.2 ⟨pers_v _, List.forall_mem_cons.2 ⟨pers_v _, List.forall_mem_cons.2 ⟨pers_v _, List.forall_mem_cons.2 ⟨pers_v _, List.forall_mem_cons.2 ⟨pers_v _, List.forall_mem_cons.2 ⟨pers_v _, List.forall_mem_cons.2 ⟨pers_v _, List.forall_mem_cons.2 ⟨pers_v _, List.forall_mem_cons.2 ⟨pers_v _, List.forall_mem_cons.2 ⟨pers_v _, List.forall_mem_cons.2 ⟨pers_v _, List.forall_mem_cons.2 ⟨pers_v _, List.forall_mem_cons.2 ⟨pers_v _, List.forall_mem_cons.2 ⟨pers_v _, List.forall_mem_cons.2 ⟨pers_v _, List.forall_mem_cons.2 ⟨pers_v _, List.forall_mem_cons.2 ⟨pers_v _, List.forall_mem_cons.2 ⟨pers_sl _ _ _, List.forall_mem_cons.2 ⟨pers_sl2 _ _ _ _, fun f h => nomatch h⟩⟩⟩⟩⟩⟩⟩⟩⟩⟩⟩⟩⟩⟩⟩⟩⟩⟩⟩
                  · intro k hk; cases hk
                  · refine ⟨?_, ?_, ?_, ?_, ?_, ?_, ?_, ?_, ?_, ?_, ?_, ?_, ?_, ?_, ?_, ?_, ?_, ?_, ?_, trivial⟩
                    · intro vals x hb hf
                      simp only [fillS, List.getD_cons_succ, List.getD_cons_zero, Act.put, List.setIfInBounds_toArray, List.set_cons_zero, List.set_cons_succ]
                      clear hf
                      have w0 := kept_cell hb t0
                      have w1 := kept_cell hb o1
                      have wz := Nat.lt_of_lt_of_le z0 hb.size
                      have wo := Nat.lt_of_lt_of_le zo hb.size
                      go_wp2
                      exact ⟨rfl, rfl, Below.refl _ _, _, rfl, rfl, (fun h => absurd h (by decide))⟩
                    · intro vals x hb hf
                      simp only [fillS, List.getD_cons_succ, List.getD_cons_zero, Act.put, List.setIfInBounds_toArray, List.set_cons_zero, List.set_cons_succ]
                      have h0 : vals 0 = .pointer (some ⟨W2.heap.size, 1, none⟩) := hf.1
                      rw [h0]
                      clear h0
                      clear hf
                      have w0 := kept_cell hb t0
                      have w1 := kept_cell hb o1
                      have wz := Nat.lt_of_lt_of_le z0 hb.size
                      have wo := Nat.lt_of_lt_of_le zo hb.size
                      go_wp2
                      exact ⟨rfl, rfl, Below.refl _ _, _, rfl, rfl, (fun h => absurd h (by decide))⟩
                    · intro vals x hb hf
                      simp only [fillS, List.getD_cons_succ, List.getD_cons_zero, Act.put, List.setIfInBounds_toArray, List.set_cons_zero, List.set_cons_succ]
                      clear hf
                      have w0 := kept_cell hb t0
                      have w1 := kept_cell hb o1
                      have wz := Nat.lt_of_lt_of_le z0 hb.size
                      have wo := Nat.lt_of_lt_of_le zo hb.size
                      go_wp2
                      exact ⟨rfl, rfl, Below.refl _ _, _, rfl, rfl, (fun h => absurd h (by decide))⟩
                    · intro vals x hb hf
                      simp only [fillS, List.getD_cons_succ, List.getD_cons_zero, Act.put, List.setIfInBounds_toArray, List.set_cons_zero, List.set_cons_succ]
                      clear hf
                      have w0 := kept_cell hb t0
                      have w1 := kept_cell hb o1
                      have wz := Nat.lt_of_lt_of_le z0 hb.size
                      have wo := Nat.lt_of_lt_of_le zo hb.size
                      go_wp2
                      exact ⟨rfl, rfl, Below.refl _ _, _, rfl, rfl, (fun h => absurd h (by decide))⟩
                    · intro vals x hb hf
                      simp only [fillS, List.getD_cons_succ, List.getD_cons_zero, Act.put, List.setIfInBounds_toArray, List.set_cons_zero, List.set_cons_succ]
                      clear hf
                      have w0 := kept_cell hb t0
                      have w1 := kept_cell hb o1
                      have wz := Nat.lt_of_lt_of_le z0 hb.size
                      have wo := Nat.lt_of_lt_of_le zo hb.size
                      go_wp2
                      exact ⟨rfl, rfl, Below.refl _ _, _, rfl, rfl, (fun h => absurd h (by decide))⟩
                    · intro vals x hb hf
                      simp only [fillS, List.getD_cons_succ, List.getD_cons_zero, Act.put, List.setIfInBounds_toArray, List.set_cons_zero, List.set_cons_succ]
                      have h3 : vals 3 = .slice (some ⟨bb, off, none⟩) l.length lc := hf.1
                      rw [h3]
                      clear h3
                      have h4 : vals 4 = .int .i64 d := hf.2.1
                      rw [h4]
                      clear h4
                      clear hf
                      have w0 := kept_cell hb t0
                      have w1 := kept_cell hb o1
                      have wz := Nat.lt_of_lt_of_le z0 hb.size
                      have wo := Nat.lt_of_lt_of_le zo hb.size
                      go_wp2
                      exact ⟨rfl, rfl, Below.refl _ _, _, rfl, rfl, (fun h => absurd h (by decide))⟩
                    · intro vals x hb hf
                      simp only [fillS, List.getD_cons_succ, List.getD_cons_zero, Act.put, List.setIfInBounds_toArray, List.set_cons_zero, List.set_cons_succ]
                      have h5 : vals 5 = .pointer (some ⟨bb, off + d * 3, none⟩) := hf.1
                      rw [h5]
                      clear h5
                      clear hf
                      have w0 := kept_cell hb t0
                      have w1 := kept_cell hb o1
                      have wz := Nat.lt_of_lt_of_le z0 hb.size
                      have wo := Nat.lt_of_lt_of_le zo hb.size
                      go_wp2
                      exact ⟨rfl, rfl, Below.refl _ _, _, rfl, rfl, (fun h => absurd h (by decide))⟩
                    · intro vals x hb hf
                      simp only [fillS, List.getD_cons_succ, List.getD_cons_zero, Act.put, List.setIfInBounds_toArray, List.set_cons_zero, List.set_cons_succ]
                      have h6 : vals 6 = .pointer (some ⟨bb, off + d * 3, none⟩) := hf.1
                      rw [h6]
                      clear h6
                      clear hf
                      have w0 := kept_cell hb t0
                      have w1 := kept_cell hb o1
                      have wz := Nat.lt_of_lt_of_le z0 hb.size
                      have wo := Nat.lt_of_lt_of_le zo hb.size
                      go_wp2
                      exact ⟨rfl, rfl, Below.refl _ _, _, rfl, rfl, (fun h => absurd h (by decide))⟩
                    · intro vals x hb hf
                      simp only [fillS, List.getD_cons_succ, List.getD_cons_zero, Act.put, List.setIfInBounds_toArray, List.set_cons_zero, List.set_cons_succ]
                      have h2 : vals 2 = .int .i64 (F) := hf.1
                      rw [h2]
                      clear h2
                      have h7 : vals 7 = .int .i64 fl := hf.2.1
                      rw [h7]
                      clear h7
                      clear hf
                      have w0 := kept_cell hb t0
                      have w1 := kept_cell hb o1
                      have wz := Nat.lt_of_lt_of_le z0 hb.size
                      have wo := Nat.lt_of_lt_of_le zo hb.size
                      go_wp2
                      exact ⟨rfl, rfl, Below.refl _ _, _, rfl, rfl, (fun h => absurd h (by decide))⟩
                    · intro vals x hb hf
                      simp only [fillS, List.getD_cons_succ, List.getD_cons_zero, Act.put, List.setIfInBounds_toArray, List.set_cons_zero, List.set_cons_succ]
                      clear hf
                      have w0 := kept_cell hb t0
                      have w1 := kept_cell hb o1
                      have wz := Nat.lt_of_lt_of_le z0 hb.size
                      have wo := Nat.lt_of_lt_of_le zo hb.size
                      go_wp2
                      exact ⟨rfl, rfl, Below.refl _ _, _, rfl, rfl, (fun h => absurd h (by decide))⟩
                    · intro vals x hb hf
                      simp only [fillS, List.getD_cons_succ, List.getD_cons_zero, Act.put, List.setIfInBounds_toArray, List.set_cons_zero, List.set_cons_succ]
                      clear hf
                      have w0 := kept_cell hb t0
                      have w1 := kept_cell hb o1
                      have wz := Nat.lt_of_lt_of_le z0 hb.size
                      have wo := Nat.lt_of_lt_of_le zo hb.size
                      go_wp2
                      exact ⟨rfl, rfl, Below.refl _ _, _, rfl, rfl, (fun h => absurd h (by decide))⟩
                    · intro vals x hb hf
                      simp only [fillS, List.getD_cons_succ, List.getD_cons_zero, Act.put, List.setIfInBounds_toArray, List.set_cons_zero, List.set_cons_succ]
                      clear hf
                      have w0 := kept_cell hb t0
                      have w1 := kept_cell hb o1
                      have wz := Nat.lt_of_lt_of_le z0 hb.size
                      have wo := Nat.lt_of_lt_of_le zo hb.size
                      go_wp2
                      exact ⟨rfl, rfl, Below.refl _ _, _, rfl, rfl, (fun h => absurd h (by decide))⟩
                    · intro vals x hb hf
                      simp only [fillS, List.getD_cons_succ, List.getD_cons_zero, Act.put, List.setIfInBounds_toArray, List.set_cons_zero, List.set_cons_succ]
                      have h10 : vals 10 = .slice (some ⟨bb, off, none⟩) l.length lc := hf.1
                      rw [h10]
                      clear h10
                      have h11 : vals 11 = .int .i64 d := hf.2.1
                      rw [h11]
                      clear h11
                      clear hf
                      have w0 := kept_cell hb t0
                      have w1 := kept_cell hb o1
                      have wz := Nat.lt_of_lt_of_le z0 hb.size
                      have wo := Nat.lt_of_lt_of_le zo hb.size
                      go_wp2
                      exact ⟨rfl, rfl, Below.refl _ _, _, rfl, rfl, (fun h => absurd h (by decide))⟩
                    · intro vals x hb hf
                      simp only [fillS, List.getD_cons_succ, List.getD_cons_zero, Act.put, List.setIfInBounds_toArray, List.set_cons_zero, List.set_cons_succ]
                      have h12 : vals 12 = .pointer (some ⟨bb, off + d * 3, none⟩) := hf.1
                      rw [h12]
                      clear h12
                      clear hf
                      have w0 := kept_cell hb t0
                      have w1 := kept_cell hb o1
                      have wz := Nat.lt_of_lt_of_le z0 hb.size
                      have wo := Nat.lt_of_lt_of_le zo hb.size
                      go_wp2
                      exact ⟨rfl, rfl, Below.refl _ _, _, rfl, rfl, (fun h => absurd h (by decide))⟩
                    · intro vals x hb hf
                      simp only [fillS, List.getD_cons_succ, List.getD_cons_zero, Act.put, List.setIfInBounds_toArray, List.set_cons_zero, List.set_cons_succ]
                      have h13 : vals 13 = .pointer (some ⟨bb, off + d * 3, none⟩) := hf.1
                      rw [h13]
                      clear h13
                      clear hf
                      have w0 := kept_cell hb t0
                      have w1 := kept_cell hb o1
                      have wz := Nat.lt_of_lt_of_le z0 hb.size
                      have wo := Nat.lt_of_lt_of_le zo hb.size
                      go_wp2
                      exact ⟨rfl, rfl, Below.refl _ _, _, rfl, rfl, (fun h => absurd h (by decide))⟩
                    · intro vals x hb hf
                      simp only [fillS, List.getD_cons_succ, List.getD_cons_zero, Act.put, List.setIfInBounds_toArray, List.set_cons_zero, List.set_cons_succ]
                      have h9 : vals 9 = .int .i64 (F) := hf.1
                      rw [h9]
                      clear h9
                      have h14 : vals 14 = .int .i64 fl := hf.2.1
                      rw [h14]
                      clear h14
                      clear hf
                      have w0 := kept_cell hb t0
                      have w1 := kept_cell hb o1
                      have wz := Nat.lt_of_lt_of_le z0 hb.size
                      have wo := Nat.lt_of_lt_of_le zo hb.size
                      go_wp2
                      exact ⟨rfl, rfl, Below.refl _ _, _, rfl, rfl, (fun h => absurd h (by decide))⟩
                    · intro vals x hb hf
                      simp only [fillS, List.getD_cons_succ, List.getD_cons_zero, Act.put, List.setIfInBounds_toArray, List.set_cons_zero, List.set_cons_succ]
                      have h8 : vals 8 = .int .i64 (F - fl) := hf.1
                      rw [h8]
                      clear h8
                      have h15 : vals 15 = .int .i64 (F + fl) := hf.2.1
                      rw [h15]
                      clear h15
                      clear hf
                      have w0 := kept_cell hb t0
                      have w1 := kept_cell hb o1
                      have wz := Nat.lt_of_lt_of_le z0 hb.size
                      have wo := Nat.lt_of_lt_of_le zo hb.size
                      go_wp2
                      exact ⟨rfl, rfl, Below.refl _ _, _, rfl, rfl, (fun h => absurd h (by decide))⟩
                    · intro vals x hb hf
                      simp only [fillS, List.getD_cons_succ, List.getD_cons_zero, Act.put, List.setIfInBounds_toArray, List.set_cons_zero, List.set_cons_succ]
                      have h16 : vals 16 = .agg #[.int .i64 (F - fl), .int .i64 (F + fl)] := hf.1
                      rw [h16]
                      clear h16
                      clear hf
                      have w0 := kept_cell hb t0
                      have w1 := kept_cell hb o1
                      have wz := Nat.lt_of_lt_of_le z0 hb.size
                      have wo := Nat.lt_of_lt_of_le zo hb.size
                      go_wp2
                      exact ⟨rfl, rfl, (Below.refl _ _).alloc (Nat.le_refl _) _, _, rfl, ⟨_, rfl, hb.size, World.alloc_heap_new _ _⟩, (fun h => absurd h (by decide))⟩
                    · intro vals x hb hf
                      simp only [fillS, List.getD_cons_succ, List.getD_cons_zero, Act.put, List.setIfInBounds_toArray, List.set_cons_zero, List.set_cons_succ]
                      have f17 : (SlIs wc.heap.size [.int .i64 (F - fl), .int .i64 (F + fl)] 55) (vals 17) x := hf.1
                      clear hf
                      have w0 := kept_cell hb t0
                      have w1 := kept_cell hb o1
                      have wz := Nat.lt_of_lt_of_le z0 hb.size
                      have wo := Nat.lt_of_lt_of_le zo hb.size
                      obtain ⟨b1, hv17, hb1, hbk1⟩ := f17
                      rw [hv17]
                      go_wp2
                      exact ⟨rfl, rfl, (Below.refl _ _).alloc (Nat.le_refl _) _, _, rfl, ⟨_, b1, rfl, hb.size, hb1, World.alloc_heap_new _ _, kept_block ((Below.refl _ _).alloc (Nat.le_refl _) _) hbk1⟩, (fun h => absurd h (by decide))⟩
                  intro vals x hb hf hp
                  have hrange : List.range 19 = [0, 1, 2, 3, 4, 5, 6, 7, 8, 9, 10, 11, 12, 13, 14, 15, 16, 17, 18] := by rfl
                  rw [hrange]
                  simp only [fillS, List.getD_cons_succ, List.getD_cons_zero, Act.put, List.setIfInBounds_toArray, List.set_cons_zero, List.set_cons_succ]
                  have h0 : vals 0 = .pointer (some ⟨W2.heap.size, 1, none⟩) := hf 0 (by omega)
                  have h1 : vals 1 = .slice va ss.length vc := hf 1 (by omega)
                  have h2 : vals 2 = .int .i64 (F) := hf 2 (by omega)
                  have h3 : vals 3 = .slice (some ⟨bb, off, none⟩) l.length lc := hf 3 (by omega)
                  have h4 : vals 4 = .int .i64 d := hf 4 (by omega)
                  have h5 : vals 5 = .pointer (some ⟨bb, off + d * 3, none⟩) := hf 5 (by omega)
                  have h6 : vals 6 = .pointer (some ⟨bb, off + d * 3, none⟩) := hf 6 (by omega)
                  have h7 : vals 7 = .int .i64 fl := hf 7 (by omega)
                  have h8 : vals 8 = .int .i64 (F - fl) := hf 8 (by omega)
                  have h9 : vals 9 = .int .i64 (F) := hf 9 (by omega)
                  have h10 : vals 10 = .slice (some ⟨bb, off, none⟩) l.length lc := hf 10 (by omega)
                  have h11 : vals 11 = .int .i64 d := hf 11 (by omega)
                  have h12 : vals 12 = .pointer (some ⟨bb, off + d * 3, none⟩) := hf 12 (by omega)
                  have h13 : vals 13 = .pointer (some ⟨bb, off + d * 3, none⟩) := hf 13 (by omega)
                  have h14 : vals 14 = .int .i64 fl := hf 14 (by omega)
                  have h15 : vals 15 = .int .i64 (F + fl) := hf 15 (by omega)
                  have h16 : vals 16 = .agg #[.int .i64 (F - fl), .int .i64 (F + fl)] := hf 16 (by omega)
                  have f17 : (SlIs wc.heap.size [.int .i64 (F - fl), .int .i64 (F + fl)] 55) (vals 17) x := hf 17 (by omega)
                  have f18 : (SlIs2 wc.heap.size [.int .i64 (F - fl), .int .i64 (F + fl)] 55 22) (vals 18) x := hf 18 (by omega)
                  rw [h0, h1, h2, h3, h4, h5, h6, h7, h8, h9, h10, h11, h12, h13, h14, h15, h16]
                  clear h0 h1 h2 h3 h4 h5 h6 h7 h8 h9 h10 h11 h12 h13 h14 h15 h16 hf hp hrange
                  simp only [List.drop_succ_cons, List.drop_zero]
                  obtain ⟨b2, b1, hv18, hq2, hq1, hk2, hk1⟩ := f18
                  rw [show vals 18 = _ from hv18]
                  clear f17 hv18
                  generalize vals 17 = v17
                  have hGx := hGYh.out.mono hb
                  have hcell : ∀ k i u, k < ([⟨some ⟨b1, 0, none⟩, 1, 1⟩] : List Slc).length → (slEnc (([⟨some ⟨b1, 0, none⟩, 1, 1⟩] : List Slc).getD k ⟨none, 0, 0⟩))[i]? = some u → x.cell? ⟨b2, 0 + k * 1 + i, none⟩ = some u := by
                    intro k i u hk hu
                    obtain rfl : k = 0 := by simpa using hk
                    match i, hu with
                    | 0, hu => cases hu; exact rc1 hk2
                    | i + 1, hu => simp at hu
                  have hBx := hGx.size
                  have hsx1 := hs1.mono hb
                  have hsr : ∀ q, (Value.slice ra RR.length rc).ownBlock = some q → q < wc.heap.size := fun q e => (hGYh.out.reads.lt q e).2
                  have hsw : ∀ q, (Value.slice va ss.length vc).ownBlock = some q → q < wc.heap.size := fun q e => (hs1.lt q e).2
                  have hxs := hb.size
                  have hbxx := hGx.box
                  go_wp2_with (at_builtin; refine wpList_app_all (enc := slEnc) slEnc_len ⟨none, 0, 0⟩ 23 22 _ 24 Try.underlying23 infoSlS rfl (by omega) (by omega) slEnc_one (by rfl) _ _ (by rfl) (W2.heap.size + 1) x (.slice va ss.length vc) ss [⟨some ⟨b1, 0, none⟩, 1, 1⟩] (by rfl) hsx1 b2 0 1 (by rfl) hcell (by omega) (by simp) hBx ?_; intro v3 w3 ho3 hg3 hat3; obtain ⟨a3, c3, he3⟩ := ho3.slice; rw [show (ss ++ [(⟨some ⟨b1, 0, none⟩, 1, 1⟩ : Slc)]).length = ss.length + 1 by simp] at he3; subst he3; have hbx3 : w3.heap[W2.heap.size]? = some (bkA (.slice (some ⟨Wb, 0, none⟩) 1 1) (.slice va ss.length vc) (.slice ra RR.length rc)) := (hg3.block _ (Array.getElem?_eq_some_iff.1 hbxx).1 (fun e => by have := (hsx1.lt _ e.symm).1; omega)).trans hbxx; obtain ⟨p0, p1, p2⟩ := rc3 hbx3; obtain ⟨k0, k1, k2⟩ := rf3 hbx3; have zx := (Array.getElem?_eq_some_iff.1 hbx3).1)
                  refine OnlyN.mk ?_
                  have hown := OwnRs.app (s := ⟨some ⟨b1, 0, none⟩, 1, 1⟩) (row := [(⟨F - fl, F + fl⟩ : Sp)]) hsx1 hs2.out (fun i hi => ⟨(hs3 i hi).1.mono hb, (hs3 i hi).2⟩) hfar (own_oneS (enc := spEnc) (m := 2) ⟨F - fl, F + fl⟩ rfl (Nat.le_trans hGYh.out.size hq1) hk1)
                    (fun q e => by
                      obtain rfl : b1 = q := by simpa [Value.ownBlock] using e
                      exact ⟨fun e' => by have := hsw _ e'; omega, fun e' => by have := hsr _ e'; omega⟩) ho3 hg3 (by rcases hat3 with e | e; exact .inl e; exact .inr ⟨_, e, Nat.le_refl _⟩) (fun k hk e => by have := hsr _ e; omega)
                  have hGZ := hGx.flow hg3 hown (fun k e => (hsx1.lt k e).1) (fun k e => hfar k e)
                  rw [← hF.out] at hGZ
                  have hGZh := Lib.hid hGZ
                  generalize w3.setCell ⟨W2.heap.size, 1, none⟩ (.slice a3 (ss.length + 1) c3) = Z at *
                  clear hown hGZ ho3 hg3 hat3 hbx3 p0 p1 p2 k0 k1 k2 zx hGx hcell hBx hsx1 hsr hsw hxs hbxx hk1 hk2 hGYh hs1 hs2 hs3 hfar o0 o1 o2 zo t0 z0 hb
                  generalize ss.length + 1 = sn at *
                  have t1 := kept_cell hGZh.out.bel c1
                  have z0 := Nat.lt_of_lt_of_le zbb hGZh.out.bel.size
                  cases yr
                  · have hR := hRn.out rfl
                    have hfin : Hid (SdSt W2 (.slice (some ⟨Wb, 0, none⟩) 1 1) (hdF l size since n (d + 1)) (hdR l size since n (d + 1)) (.slice a3 sn c3) (.slice ra RR.length rc) Z) := Lib.hid (by rw [hFe.out, hRe.out, hR]; exact hGZh.out)
                    clear hR hGZh
                    go_wp2_with fail
                    exact ⟨⟨d + 1, _, _, by omega, by rw [hM1.out], by rw [hN1.out], by go_num, hfin⟩, by simp [intOf]; omega⟩
                  · have hRq := Lib.hid (hRy.out rfl)
                    clear hRy hRn
                    have hhq := half M1
                    go_upto_region 48 with fail
                    generalize M1.tdiv 2 = Q at *
                    clear t1 z0
                    obtain ⟨o0, o1, o2⟩ := rc3 hGZh.out.box
                    have zo := (Array.getElem?_eq_some_iff.1 hGZh.out.box).1
                    have t2 := kept_cell hGZh.out.bel c2
                    have z0 := Nat.lt_of_lt_of_le zbb hGZh.out.bel.size
                    have hGYh := hGZh
                    clear hGZh
                    refine plain_region (by kernel_rfl) (any_region_locN 20 332 [] [276, 277, 278, 279, 280, 281, 282, 283, 284, 285, 286, 287, 288, 289, 290, 291, 292, 293, 294, 295] [[], [0], [], [], [], [], [4, 5], [6], [7], [3, 8], [], [], [], [11, 12], [13], [14], [10, 15], [9, 16], [2, 17], [18]] [IsV (.pointer (some ⟨W2.heap.size, 2, none⟩)), IsV (.slice ra RR.length rc), IsV (.int .i64 d), IsV (.int .i64 (N1 + Q)), IsV (.slice (some ⟨bb, off, none⟩) l.length lc), IsV (.int .i64 d), IsV (.pointer (some ⟨bb, off + d * 3, none⟩)), IsV (.pointer (some ⟨bb, off + d * 3 + 2, none⟩)), IsV (.int .i64 ct), IsV (.int .i64 (N1 + Q - ct)), IsV (.int .i64 (N1 + Q)), IsV (.slice (some ⟨bb, off, none⟩) l.length lc), IsV (.int .i64 d), IsV (.pointer (some ⟨bb, off + d * 3, none⟩)), IsV (.pointer (some ⟨bb, off + d * 3 + 2, none⟩)), IsV (.int .i64 ct), IsV (.int .i64 (N1 + Q + ct)), IsV (.agg #[.int .i64 (N1 + Q - ct), .int .i64 (N1 + Q + ct)]), IsV (.agg #[.int .i64 d, .int .i64 0, .int .i64 (N1 + Q - ct), .int .i64 (N1 + Q + ct)]), SlIs Z.heap.size [.int .i64 d, .int .i64 0, .int .i64 (N1 + Q - ct), .int .i64 (N1 + Q + ct)] 57] [] (by kernel_rfl) (by kernel_rfl) (by kernel_rfl) (by kernel_rfl) (by kernel_rfl) rfl OnlyN.panic ?_ ?_ ?_ (fun j hj => nomatch hj) ?_)
                    · exact List.forall_mem_cons.2 ⟨pers_v _, List.forall_mem_cons.2 ⟨pers_v _, List.forall_mem_cons.2 ⟨pers_v _, List.forall_mem_cons.2 ⟨pers_v _, List.forall_mem_cons.2 ⟨pers_v _, List.forall_mem_cons.2 ⟨pers_v _, List.forall_mem_cons.2 ⟨pers_v _, List.forall_mem_cons.2 ⟨pers_v _, List.forall_mem_cons.2 ⟨pers_v _, List.forall_mem_cons.2 ⟨pers_v _, List.forall_mem_cons.2 ⟨pers_v _, List.forall_mem_cons.2 ⟨pers_v _, List.forall_mem_cons.2 ⟨pers_v _, List.forall_mem_cons.2 ⟨pers_v _, List.forall_mem_cons.2 ⟨pers_v _, List.forall_mem_cons.2 ⟨pers_v _, List.forall_mem_cons.2 ⟨pers_v _, List.forall_mem_cons.2 ⟨pers_v _, List.forall_mem_cons.2 ⟨pers_v _, List.forall_mem_cons.2 ⟨pers_sl _ _ _, fun f h => nomatch h⟩⟩⟩⟩⟩⟩⟩⟩⟩⟩⟩⟩⟩⟩⟩⟩⟩⟩⟩⟩
                    · intro k hk; cases hk
                    · refine ⟨?_, ?_, ?_, ?_, ?_, ?_, ?_, ?_, ?_, ?_, ?_, ?_, ?_, ?_, ?_, ?_, ?_, ?_, ?_, ?_, trivial⟩
                      · intro vals x hb hf
                        simp only [fillS, List.getD_cons_succ, List.getD_cons_zero, Act.put, List.setIfInBounds_toArray, List.set_cons_zero, List.set_cons_succ]
                        clear hf
                        have w0 := kept_cell hb t2
                        have w1 := kept_cell hb o2
                        have wz := Nat.lt_of_lt_of_le z0 hb.size
                        have wo := Nat.lt_of_lt_of_le zo hb.size
                        go_wp2
                        exact ⟨rfl, rfl, Below.refl _ _, _, rfl, rfl, (fun h => absurd h (by decide))⟩
                      · intro vals x hb hf
                        simp only [fillS, List.getD_cons_succ, List.getD_cons_zero, Act.put, List.setIfInBounds_toArray, List.set_cons_zero, List.set_cons_succ]
                        have h0 : vals 0 = .pointer (some ⟨W2.heap.size, 2, none⟩) := hf.1
                        rw [h0]
                        clear h0
                        clear hf
                        have w0 := kept_cell hb t2
                        have w1 := kept_cell hb o2
                        have wz := Nat.lt_of_lt_of_le z0 hb.size
                        have wo := Nat.lt_of_lt_of_le zo hb.size
                        go_wp2
                        exact ⟨rfl, rfl, Below.refl _ _, _, rfl, rfl, (fun h => absurd h (by decide))⟩
                      · intro vals x hb hf
                        simp only [fillS, List.getD_cons_succ, List.getD_cons_zero, Act.put, List.setIfInBounds_toArray, List.set_cons_zero, List.set_cons_succ]
                        clear hf
                        have w0 := kept_cell hb t2
                        have w1 := kept_cell hb o2
                        have wz := Nat.lt_of_lt_of_le z0 hb.size
                        have wo := Nat.lt_of_lt_of_le zo hb.size
                        go_wp2
                        exact ⟨rfl, rfl, Below.refl _ _, _, rfl, rfl, (fun h => absurd h (by decide))⟩
                      · intro vals x hb hf
                        simp only [fillS, List.getD_cons_succ, List.getD_cons_zero, Act.put, List.setIfInBounds_toArray, List.set_cons_zero, List.set_cons_succ]
                        clear hf
                        have w0 := kept_cell hb t2
                        have w1 := kept_cell hb o2
                        have wz := Nat.lt_of_lt_of_le z0 hb.size
                        have wo := Nat.lt_of_lt_of_le zo hb.size
                        go_wp2
                        exact ⟨rfl, rfl, Below.refl _ _, _, rfl, rfl, (fun h => absurd h (by decide))⟩
                      · intro vals x hb hf
                        simp only [fillS, List.getD_cons_succ, List.getD_cons_zero, Act.put, List.setIfInBounds_toArray, List.set_cons_zero, List.set_cons_succ]
                        clear hf
                        have w0 := kept_cell hb t2
                        have w1 := kept_cell hb o2
                        have wz := Nat.lt_of_lt_of_le z0 hb.size
                        have wo := Nat.lt_of_lt_of_le zo hb.size
                        go_wp2
                        exact ⟨rfl, rfl, Below.refl _ _, _, rfl, rfl, (fun h => absurd h (by decide))⟩
                      · intro vals x hb hf
                        simp only [fillS, List.getD_cons_succ, List.getD_cons_zero, Act.put, List.setIfInBounds_toArray, List.set_cons_zero, List.set_cons_succ]
                        clear hf
                        have w0 := kept_cell hb t2
                        have w1 := kept_cell hb o2
                        have wz := Nat.lt_of_lt_of_le z0 hb.size
                        have wo := Nat.lt_of_lt_of_le zo hb.size
                        go_wp2
                        exact ⟨rfl, rfl, Below.refl _ _, _, rfl, rfl, (fun h => absurd h (by decide))⟩
                      · intro vals x hb hf
                        simp only [fillS, List.getD_cons_succ, List.getD_cons_zero, Act.put, List.setIfInBounds_toArray, List.set_cons_zero, List.set_cons_succ]
                        have h4 : vals 4 = .slice (some ⟨bb, off, none⟩) l.length lc := hf.1
                        rw [h4]
                        clear h4
                        have h5 : vals 5 = .int .i64 d := hf.2.1
                        rw [h5]
                        clear h5
                        clear hf
                        have w0 := kept_cell hb t2
                        have w1 := kept_cell hb o2
                        have wz := Nat.lt_of_lt_of_le z0 hb.size
                        have wo := Nat.lt_of_lt_of_le zo hb.size
                        go_wp2
                        exact ⟨rfl, rfl, Below.refl _ _, _, rfl, rfl, (fun h => absurd h (by decide))⟩
                      · intro vals x hb hf
                        simp only [fillS, List.getD_cons_succ, List.getD_cons_zero, Act.put, List.setIfInBounds_toArray, List.set_cons_zero, List.set_cons_succ]
                        have h6 : vals 6 = .pointer (some ⟨bb, off + d * 3, none⟩) := hf.1
                        rw [h6]
                        clear h6
                        clear hf
                        have w0 := kept_cell hb t2
                        have w1 := kept_cell hb o2
                        have wz := Nat.lt_of_lt_of_le z0 hb.size
                        have wo := Nat.lt_of_lt_of_le zo hb.size
                        go_wp2
                        exact ⟨rfl, rfl, Below.refl _ _, _, rfl, rfl, (fun h => absurd h (by decide))⟩
                      · intro vals x hb hf
                        simp only [fillS, List.getD_cons_succ, List.getD_cons_zero, Act.put, List.setIfInBounds_toArray, List.set_cons_zero, List.set_cons_succ]
                        have h7 : vals 7 = .pointer (some ⟨bb, off + d * 3 + 2, none⟩) := hf.1
                        rw [h7]
                        clear h7
                        clear hf
                        have w0 := kept_cell hb t2
                        have w1 := kept_cell hb o2
                        have wz := Nat.lt_of_lt_of_le z0 hb.size
                        have wo := Nat.lt_of_lt_of_le zo hb.size
                        go_wp2
                        exact ⟨rfl, rfl, Below.refl _ _, _, rfl, rfl, (fun h => absurd h (by decide))⟩
                      · intro vals x hb hf
                        simp only [fillS, List.getD_cons_succ, List.getD_cons_zero, Act.put, List.setIfInBounds_toArray, List.set_cons_zero, List.set_cons_succ]
                        have h3 : vals 3 = .int .i64 (N1 + Q) := hf.1
                        rw [h3]
                        clear h3
                        have h8 : vals 8 = .int .i64 ct := hf.2.1
                        rw [h8]
                        clear h8
                        clear hf
                        have w0 := kept_cell hb t2
                        have w1 := kept_cell hb o2
                        have wz := Nat.lt_of_lt_of_le z0 hb.size
                        have wo := Nat.lt_of_lt_of_le zo hb.size
                        go_wp2
                        exact ⟨rfl, rfl, Below.refl _ _, _, rfl, rfl, (fun h => absurd h (by decide))⟩
                      · intro vals x hb hf
                        simp only [fillS, List.getD_cons_succ, List.getD_cons_zero, Act.put, List.setIfInBounds_toArray, List.set_cons_zero, List.set_cons_succ]
                        clear hf
                        have w0 := kept_cell hb t2
                        have w1 := kept_cell hb o2
                        have wz := Nat.lt_of_lt_of_le z0 hb.size
                        have wo := Nat.lt_of_lt_of_le zo hb.size
                        go_wp2
                        exact ⟨rfl, rfl, Below.refl _ _, _, rfl, rfl, (fun h => absurd h (by decide))⟩
                      · intro vals x hb hf
                        simp only [fillS, List.getD_cons_succ, List.getD_cons_zero, Act.put, List.setIfInBounds_toArray, List.set_cons_zero, List.set_cons_succ]
                        clear hf
                        have w0 := kept_cell hb t2
                        have w1 := kept_cell hb o2
                        have wz := Nat.lt_of_lt_of_le z0 hb.size
                        have wo := Nat.lt_of_lt_of_le zo hb.size
                        go_wp2
                        exact ⟨rfl, rfl, Below.refl _ _, _, rfl, rfl, (fun h => absurd h (by decide))⟩
                      · intro vals x hb hf
                        simp only [fillS, List.getD_cons_succ, List.getD_cons_zero, Act.put, List.setIfInBounds_toArray, List.set_cons_zero, List.set_cons_succ]
                        clear hf
                        have w0 := kept_cell hb t2
                        have w1 := kept_cell hb o2
                        have wz := Nat.lt_of_lt_of_le z0 hb.size
                        have wo := Nat.lt_of_lt_of_le zo hb.size
                        go_wp2
                        exact ⟨rfl, rfl, Below.refl _ _, _, rfl, rfl, (fun h => absurd h (by decide))⟩
                      · intro vals x hb hf
                        simp only [fillS, List.getD_cons_succ, List.getD_cons_zero, Act.put, List.setIfInBounds_toArray, List.set_cons_zero, List.set_cons_succ]
                        have h11 : vals 11 = .slice (some ⟨bb, off, none⟩) l.length lc := hf.1
                        rw [h11]
                        clear h11
                        have h12 : vals 12 = .int .i64 d := hf.2.1
                        rw [h12]
                        clear h12
                        clear hf
                        have w0 := kept_cell hb t2
                        have w1 := kept_cell hb o2
                        have wz := Nat.lt_of_lt_of_le z0 hb.size
                        have wo := Nat.lt_of_lt_of_le zo hb.size
                        go_wp2
                        exact ⟨rfl, rfl, Below.refl _ _, _, rfl, rfl, (fun h => absurd h (by decide))⟩
                      · intro vals x hb hf
                        simp only [fillS, List.getD_cons_succ, List.getD_cons_zero, Act.put, List.setIfInBounds_toArray, List.set_cons_zero, List.set_cons_succ]
                        have h13 : vals 13 = .pointer (some ⟨bb, off + d * 3, none⟩) := hf.1
                        rw [h13]
                        clear h13
                        clear hf
                        have w0 := kept_cell hb t2
                        have w1 := kept_cell hb o2
                        have wz := Nat.lt_of_lt_of_le z0 hb.size
                        have wo := Nat.lt_of_lt_of_le zo hb.size
                        go_wp2
                        exact ⟨rfl, rfl, Below.refl _ _, _, rfl, rfl, (fun h => absurd h (by decide))⟩
                      · intro vals x hb hf
                        simp only [fillS, List.getD_cons_succ, List.getD_cons_zero, Act.put, List.setIfInBounds_toArray, List.set_cons_zero, List.set_cons_succ]
                        have h14 : vals 14 = .pointer (some ⟨bb, off + d * 3 + 2, none⟩) := hf.1
                        rw [h14]
                        clear h14
                        clear hf
                        have w0 := kept_cell hb t2
                        have w1 := kept_cell hb o2
                        have wz := Nat.lt_of_lt_of_le z0 hb.size
                        have wo := Nat.lt_of_lt_of_le zo hb.size
                        go_wp2
                        exact ⟨rfl, rfl, Below.refl _ _, _, rfl, rfl, (fun h => absurd h (by decide))⟩
                      · intro vals x hb hf
                        simp only [fillS, List.getD_cons_succ, List.getD_cons_zero, Act.put, List.setIfInBounds_toArray, List.set_cons_zero, List.set_cons_succ]
                        have h10 : vals 10 = .int .i64 (N1 + Q) := hf.1
                        rw [h10]
                        clear h10
                        have h15 : vals 15 = .int .i64 ct := hf.2.1
                        rw [h15]
                        clear h15
                        clear hf
                        have w0 := kept_cell hb t2
                        have w1 := kept_cell hb o2
                        have wz := Nat.lt_of_lt_of_le z0 hb.size
                        have wo := Nat.lt_of_lt_of_le zo hb.size
                        go_wp2
                        exact ⟨rfl, rfl, Below.refl _ _, _, rfl, rfl, (fun h => absurd h (by decide))⟩
                      · intro vals x hb hf
                        simp only [fillS, List.getD_cons_succ, List.getD_cons_zero, Act.put, List.setIfInBounds_toArray, List.set_cons_zero, List.set_cons_succ]
                        have h9 : vals 9 = .int .i64 (N1 + Q - ct) := hf.1
                        rw [h9]
                        clear h9
                        have h16 : vals 16 = .int .i64 (N1 + Q + ct) := hf.2.1
                        rw [h16]
                        clear h16
                        clear hf
                        have w0 := kept_cell hb t2
                        have w1 := kept_cell hb o2
                        have wz := Nat.lt_of_lt_of_le z0 hb.size
                        have wo := Nat.lt_of_lt_of_le zo hb.size
                        go_wp2
                        exact ⟨rfl, rfl, Below.refl _ _, _, rfl, rfl, (fun h => absurd h (by decide))⟩
                      · intro vals x hb hf
                        simp only [fillS, List.getD_cons_succ, List.getD_cons_zero, Act.put, List.setIfInBounds_toArray, List.set_cons_zero, List.set_cons_succ]
                        have h2 : vals 2 = .int .i64 d := hf.1
                        rw [h2]
                        clear h2
                        have h17 : vals 17 = .agg #[.int .i64 (N1 + Q - ct), .int .i64 (N1 + Q + ct)] := hf.2.1
                        rw [h17]
                        clear h17
                        clear hf
                        have w0 := kept_cell hb t2
                        have w1 := kept_cell hb o2
                        have wz := Nat.lt_of_lt_of_le z0 hb.size
                        have wo := Nat.lt_of_lt_of_le zo hb.size
                        go_wp2
                        exact ⟨rfl, rfl, Below.refl _ _, _, rfl, rfl, (fun h => absurd h (by decide))⟩
                      · intro vals x hb hf
                        simp only [fillS, List.getD_cons_succ, List.getD_cons_zero, Act.put, List.setIfInBounds_toArray, List.set_cons_zero, List.set_cons_succ]
                        have h18 : vals 18 = .agg #[.int .i64 d, .int .i64 0, .int .i64 (N1 + Q - ct), .int .i64 (N1 + Q + ct)] := hf.1
                        rw [h18]
                        clear h18
                        clear hf
                        have w0 := kept_cell hb t2
                        have w1 := kept_cell hb o2
                        have wz := Nat.lt_of_lt_of_le z0 hb.size
                        have wo := Nat.lt_of_lt_of_le zo hb.size
                        go_wp2
                        exact ⟨rfl, rfl, (Below.refl _ _).alloc (Nat.le_refl _) _, _, rfl, ⟨_, rfl, hb.size, World.alloc_heap_new _ _⟩, (fun h => absurd h (by decide))⟩
                    intro vals x hb hf hp
                    have hrange : List.range 20 = [0, 1, 2, 3, 4, 5, 6, 7, 8, 9, 10, 11, 12, 13, 14, 15, 16, 17, 18, 19] := by rfl
                    rw [hrange]
                    simp only [fillS, List.getD_cons_succ, List.getD_cons_zero, Act.put, List.setIfInBounds_toArray, List.set_cons_zero, List.set_cons_succ]
                    have h0 : vals 0 = .pointer (some ⟨W2.heap.size, 2, none⟩) := hf 0 (by omega)
                    have h1 : vals 1 = .slice ra RR.length rc := hf 1 (by omega)
                    have h2 : vals 2 = .int .i64 d := hf 2 (by omega)
                    have h3 : vals 3 = .int .i64 (N1 + Q) := hf 3 (by omega)
                    have h4 : vals 4 = .slice (some ⟨bb, off, none⟩) l.length lc := hf 4 (by omega)
                    have h5 : vals 5 = .int .i64 d := hf 5 (by omega)
                    have h6 : vals 6 = .pointer (some ⟨bb, off + d * 3, none⟩) := hf 6 (by omega)
                    have h7 : vals 7 = .pointer (some ⟨bb, off + d * 3 + 2, none⟩) := hf 7 (by omega)
                    have h8 : vals 8 = .int .i64 ct := hf 8 (by omega)
                    have h9 : vals 9 = .int .i64 (N1 + Q - ct) := hf 9 (by omega)
                    have h10 : vals 10 = .int .i64 (N1 + Q) := hf 10 (by omega)
                    have h11 : vals 11 = .slice (some ⟨bb, off, none⟩) l.length lc := hf 11 (by omega)
                    have h12 : vals 12 = .int .i64 d := hf 12 (by omega)
                    have h13 : vals 13 = .pointer (some ⟨bb, off + d * 3, none⟩) := hf 13 (by omega)
                    have h14 : vals 14 = .pointer (some ⟨bb, off + d * 3 + 2, none⟩) := hf 14 (by omega)
                    have h15 : vals 15 = .int .i64 ct := hf 15 (by omega)
                    have h16 : vals 16 = .int .i64 (N1 + Q + ct) := hf 16 (by omega)
                    have h17 : vals 17 = .agg #[.int .i64 (N1 + Q - ct), .int .i64 (N1 + Q + ct)] := hf 17 (by omega)
                    have h18 : vals 18 = .agg #[.int .i64 d, .int .i64 0, .int .i64 (N1 + Q - ct), .int .i64 (N1 + Q + ct)] := hf 18 (by omega)
                    have f19 : (SlIs Z.heap.size [.int .i64 d, .int .i64 0, .int .i64 (N1 + Q - ct), .int .i64 (N1 + Q + ct)] 57) (vals 19) x := hf 19 (by omega)
                    rw [h0, h1, h2, h3, h4, h5, h6, h7, h8, h9, h10, h11, h12, h13, h14, h15, h16, h17, h18]
                    clear h0 h1 h2 h3 h4 h5 h6 h7 h8 h9 h10 h11 h12 h13 h14 h15 h16 h17 h18 hf hp hrange
                    simp only [List.drop_succ_cons, List.drop_zero]
                    obtain ⟨b1, hv19, hq1, hk1⟩ := f19
                    rw [show vals 19 = _ from hv19]
                    have hGx := hGYh.out.mono hb
                    have hBx := hGx.size
                    have hbxx := hGx.box
                    have hrx := hGx.reads
                    have hr32 : RR.length * 32 ≤ 140737488351232 := by omega
                    clear hv19 hGYh o0 o1 o2 zo t2 z0
                    go_wp2_with (at_builtin; refine wpList_app_rd (by rfl) _ _ (by rfl) (W2.heap.size + 1) x (.slice ra RR.length rc) RR ⟨d, 0, ⟨N1 + Q - ct, N1 + Q + ct⟩⟩ b1 (by rfl) (by rfl) hrx hr32 hBx hk1 ?_; intro v3 w3 ho3 hg3 hat3; obtain ⟨a4, c4, he3⟩ := ho3.slice; rw [show (RR ++ [(⟨d, 0, ⟨N1 + Q - ct, N1 + Q + ct⟩⟩ : Rd)]).length = RR.length + 1 by simp] at he3; subst he3; have hbx3 : w3.heap[W2.heap.size]? = some (bkA (.slice (some ⟨Wb, 0, none⟩) 1 1) (.slice a3 sn c3) (.slice ra RR.length rc)) := (hg3.block _ (Array.getElem?_eq_some_iff.1 hbxx).1 (fun e => by have := (hrx.lt _ e.symm).1; omega)).trans hbxx; obtain ⟨p0, p1, p2⟩ := rc3 hbx3; obtain ⟨k0, k1, k2⟩ := rf3 hbx3; have zx := (Array.getElem?_eq_some_iff.1 hbx3).1)
                    refine OnlyN.mk ?_
                    have hGU := hGx.read hg3 ho3 hat3
                    rw [← hRq.out] at hGU
                    have hfin : Hid (SdSt W2 (.slice (some ⟨Wb, 0, none⟩) 1 1) (hdF l size since n (d + 1)) (hdR l size since n (d + 1)) (.slice a3 sn c3) (.slice a4 (RR.length + 1) c4) (w3.setCell ⟨W2.heap.size, 2, none⟩ (.slice a4 (RR.length + 1) c4))) := Lib.hid (by rw [hFe.out, hRe.out]; exact hGU)
                    generalize w3.setCell ⟨W2.heap.size, 2, none⟩ (.slice a4 (RR.length + 1) c4) = U at *
                    clear hGU ho3 hg3 hat3 hbx3 p0 p1 p2 k0 k1 k2 zx hGx hBx hbxx hrx hk1 hb
                    go_wp2_with fail
                    exact ⟨⟨d + 1, _, _, by omega, by rw [hM1.out], by rw [hN1.out], by go_num, hfin⟩, by simp [intOf]; omega⟩
              · obtain rfl : d = n := by omega
                have hG0 := hG.out
                obtain ⟨va, vc, hva⟩ : ∃ a c, wv = .slice a (hdF l size since d d).length c := by
                  obtain ⟨⟨ss, h1, h2, -⟩, -⟩ := hG0.flows
                  obtain ⟨a, c, h⟩ := h1.slice
                  exact ⟨a, c, by rw [h, h2]⟩
                obtain ⟨ra, rc, hra⟩ := hG0.reads.slice
                subst hva
                subst hra
                have hbk : BookAt wr (.slice (some ⟨Wb, 0, none⟩) 1 1) (.slice va (hdF l size since d d).length vc) (.slice ra (hdR l size since d d).length rc) (hdB l size since d) :=
                  ⟨els_blk spEnc_len ⟨0, 0⟩ [⟨-10000, 10000⟩] (kept_block hG0.bel hE1.out) rfl (by simp [maxLen]) 1, hG0.flows.at spEnc_len ⟨0, 0⟩, OwnRds.rds hG0.reads⟩
                have hbox := hG0.box
                have hwB := Lib.hid (below_tr hAr.out.bel hG0.bel)
                have hlW := hG0.size
                obtain ⟨GG, hg1, hg2, hgs, hye⟩ := hd_guess hokh.out
                have her := Lib.hid (hd_err hokh.out)
                have hno := Lib.hid (hd_none hokh.out)
                replace hgs := Lib.hid hgs
                replace hye := Lib.hid hye
                clear hG hG0 hAr hE1 hokh hdy hlh hbs hbb hlt1
                generalize (hdF l size since d d).length = fl at *
                generalize (hdR l size since d d).length = rl at *
                generalize hdB l size since d = b at *
                generalize W2.heap.size = Bx at *
                have hbkH := Lib.hid hbk
                have kN := Lib.hid (fun X (h : Below wr.heap.size wr X) => (progAgree _ _ _ b noGs X (hbkH.out.mono h)).mono (fun e w' (h : AgreePost _ _ _ e w') => (by
                  unfold AgreePost at h
                  rw [agr_none, her.out, hno.out] at h
                  simpa using h : e = .returned (.tuple #[.bool true, .int .i64 0]) ∧ Below X.heap.size X w')))
                have kY := Lib.hid (fun X (h : Below wr.heap.size wr X) => (progAgree _ _ _ b GG X (hbkH.out.mono h)).mono (fun e w' (h : AgreePost _ _ _ e w') => (by
                  unfold AgreePost at h
                  rw [hgs.out, her.out, hye.out] at h
                  simpa using h : e = .returned (.tuple #[.bool true, .int .i64 0]) ∧ Below X.heap.size X w')))
                have hEV := Lib.hid hbox
                obtain ⟨v0, v1, v2⟩ := rc3 hbox
                have zv := (Array.getElem?_eq_some_iff.1 hbox).1
                clear hbk hbox her hno hgs hye hbkH
                go_upto_region 49 with fail
                refine plain_region (by kernel_rfl) (any_region_locN 6 332 [5] [299, 300, 301, 298, 302, 303] [[], [], [0, 1], [2], [3], [3]] [IsV (bkV (.slice (some ⟨Wb, 0, none⟩) 1 1) (.slice va fl vc) (.slice ra rl rc)), IsV (gsV noGs), IsV (.tuple #[.bool true, .int .i64 0]), IsV (.tuple #[.bool true, .int .i64 0]), IsV (.bool true), IsV (.int .i64 0)] [] (by kernel_rfl) (by kernel_rfl) (by kernel_rfl) (by kernel_rfl) (by kernel_rfl) rfl OnlyN.panic ?_ ?_ ?_ ?_ ?_)
                · exact List.forall_mem_cons.2 ⟨pers_v _, List.forall_mem_cons.2 ⟨pers_v _, List.forall_mem_cons.2 ⟨pers_v _, List.forall_mem_cons.2 ⟨pers_v _, List.forall_mem_cons.2 ⟨pers_v _, List.forall_mem_cons.2 ⟨pers_v _, fun f h => nomatch h⟩⟩⟩⟩⟩⟩
                · intro k hk; cases hk
                · refine ⟨?_, ?_, ?_, ?_, ?_, ?_, trivial⟩
                  · intro vals x hb hf
                    simp only [fillS, List.getD_cons_succ, List.getD_cons_zero, Act.put, List.setIfInBounds_toArray, List.set_cons_zero, List.set_cons_succ]
                    clear hf
                    obtain ⟨p0, p1, p2⟩ := rc3 (kept_block hb hEV.out)
                    have zw := (Array.getElem?_eq_some_iff.1 (kept_block hb hEV.out)).1
                    go_wp2
                    exact ⟨rfl, rfl, Below.refl _ _, _, rfl, rfl, (fun h => absurd h (by decide))⟩
                  · intro vals x hb hf
                    simp only [fillS, List.getD_cons_succ, List.getD_cons_zero, Act.put, List.setIfInBounds_toArray, List.set_cons_zero, List.set_cons_succ]
                    clear hf
                    obtain ⟨p0, p1, p2⟩ := rc3 (kept_block hb hEV.out)
                    have zw := (Array.getElem?_eq_some_iff.1 (kept_block hb hEV.out)).1
                    go_wp2_with (go_at_call 40; (with_reducible refine Calls.mono (refNone x) ?_); rintro e y ⟨rfl, hB⟩)
                    exact ⟨rfl, rfl, hB, _, rfl, rfl, (fun h => absurd h (by decide))⟩
                  · intro vals x hb hf
                    simp only [fillS, List.getD_cons_succ, List.getD_cons_zero, Act.put, List.setIfInBounds_toArray, List.set_cons_zero, List.set_cons_succ]
                    have h0 : vals 0 = bkV (.slice (some ⟨Wb, 0, none⟩) 1 1) (.slice va fl vc) (.slice ra rl rc) := hf.1
                    rw [h0]
                    clear h0
                    have f1 : (IsV (gsV noGs)) (vals 1) x := hf.2.1
                    clear hf
                    obtain ⟨p0, p1, p2⟩ := rc3 (kept_block hb hEV.out)
                    have zw := (Array.getElem?_eq_some_iff.1 (kept_block hb hEV.out)).1
                    rw [show vals 1 = gsV noGs from f1]
                    go_wp2_with (go_at_call 39; (with_reducible refine Calls.mono (kN.out x hb) ?_); rintro e y ⟨rfl, hB⟩)
                    exact ⟨rfl, rfl, hB, _, rfl, rfl, (fun h => absurd h (by decide))⟩
                  · intro vals x hb hf
                    simp only [fillS, List.getD_cons_succ, List.getD_cons_zero, Act.put, List.setIfInBounds_toArray, List.set_cons_zero, List.set_cons_succ]
                    have f2 : (IsV (.tuple #[.bool true, .int .i64 0])) (vals 2) x := hf.1
                    clear hf
                    obtain ⟨p0, p1, p2⟩ := rc3 (kept_block hb hEV.out)
                    have zw := (Array.getElem?_eq_some_iff.1 (kept_block hb hEV.out)).1
                    rw [show vals 2 = .tuple #[.bool true, .int .i64 0] from f2]
                    go_wp2
                    exact ⟨rfl, rfl, Below.refl _ _, _, rfl, rfl, (fun h => absurd h (by decide))⟩
                  · intro vals x hb hf
                    simp only [fillS, List.getD_cons_succ, List.getD_cons_zero, Act.put, List.setIfInBounds_toArray, List.set_cons_zero, List.set_cons_succ]
                    have f3 : (IsV (.tuple #[.bool true, .int .i64 0])) (vals 3) x := hf.1
                    clear hf
                    obtain ⟨p0, p1, p2⟩ := rc3 (kept_block hb hEV.out)
                    have zw := (Array.getElem?_eq_some_iff.1 (kept_block hb hEV.out)).1
                    rw [show vals 3 = .tuple #[.bool true, .int .i64 0] from f3]
                    go_wp2
                    exact ⟨rfl, rfl, Below.refl _ _, _, rfl, rfl, (fun h => absurd h (by decide))⟩
                  · intro vals x hb hf
                    simp only [fillS, List.getD_cons_succ, List.getD_cons_zero, Act.put, List.setIfInBounds_toArray, List.set_cons_zero, List.set_cons_succ]
                    have f3 : (IsV (.tuple #[.bool true, .int .i64 0])) (vals 3) x := hf.1
                    clear hf
                    rw [show vals 3 = .tuple #[.bool true, .int .i64 0] from f3]
                    go_wp2
                    exact ⟨rfl, rfl, Below.refl _ _, _, rfl, rfl, (fun h => absurd h (by decide))⟩
                · intro j hj o ho vals x hb hf
                  obtain rfl : j = 5 := by simpa using hj
                  obtain rfl := Option.some.inj ho
                  simp only [fillS, List.getD_cons_succ, List.getD_cons_zero, Act.put, List.setIfInBounds_toArray, List.set_cons_zero, List.set_cons_succ]
                  have f3 : (IsV (.tuple #[.bool true, .int .i64 0])) (vals 3) x := hf.1
                  rw [show vals 3 = .tuple #[.bool true, .int .i64 0] from f3]
                  exact ⟨_, .inl ⟨rfl, fun w => rfl⟩, rfl, (fun h => absurd h (by decide))⟩
                intro vals x hb hf hp
                have hrange : List.range 6 = [0, 1, 2, 3, 4, 5] := by rfl
                rw [hrange]
                simp only [fillS, List.getD_cons_succ, List.getD_cons_zero, Act.put, List.setIfInBounds_toArray, List.set_cons_zero, List.set_cons_succ]
                have h0 : vals 0 = bkV (.slice (some ⟨Wb, 0, none⟩) 1 1) (.slice va fl vc) (.slice ra rl rc) := hf 0 (by omega)
                have f1 : (IsV (gsV noGs)) (vals 1) x := hf 1 (by omega)
                have f2 : (IsV (.tuple #[.bool true, .int .i64 0])) (vals 2) x := hf 2 (by omega)
                have f3 : (IsV (.tuple #[.bool true, .int .i64 0])) (vals 3) x := hf 3 (by omega)
                have f4 : (IsV (.bool true)) (vals 4) x := hf 4 (by omega)
                have h5 : vals 5 = .int .i64 0 := hf 5 (by omega)
                rw [h0, h5]
                clear h0 h5 hf hp hrange
                simp only [List.drop_succ_cons, List.drop_zero]
                rw [show vals 4 = .bool true from f4]
                have hbx := Lib.hid hb
                clear f1 f2 f3 f4 v0 v1 v2 zv kN
                obtain ⟨V, hV⟩ : ∃ V, x.alloc (gsO ⟨0, size, since⟩) = V := ⟨_, rfl⟩
                obtain ⟨eV, bV, sV⟩ := boxed hV
                have heV := Lib.hid eV
                have hbV := Lib.hid bV
                have hxs : Hid (wr.heap.size ≤ x.heap.size) := Lib.hid hb.size
                replace hV := Lib.hid hV
                clear eV bV sV hb
                go_wp2_with fail
                refine OnlyN.mk ?_
                go_upto_region 51 with fail
                rw [hV.out]
                go_upto_if 309 with fail
                go_cut [] from 304 to 310 (fun wx => Hid (wx.heap[x.heap.size]? = some (gsO GG) ∧ Below x.heap.size x wx))
                case first =>
                  by_cases hs : (d : Int) ≤ since
                  · have d3 : decide ((d : Int) ≤ since) = true := decide_eq_true hs
                    have hGG := Lib.hid (hg1 hs)
                    obtain ⟨r0, r1, r2⟩ := rf3 heV.out
                    obtain ⟨q0, q1, q2⟩ := rc3 heV.out
                    have zq := (Array.getElem?_eq_some_iff.1 heV.out).1
                    go_wp2_with (go_at_call 40; (with_reducible refine Calls.mono (refNone V) ?_); rintro e w6 ⟨rfl, hB6⟩; obtain ⟨r0, r1, r2⟩ := rf3 (kept_block hB6 heV.out); obtain ⟨q0, q1, q2⟩ := rc3 (kept_block hB6 heV.out); have zq := (Array.getElem?_eq_some_iff.1 (kept_block hB6 heV.out)).1)
                    go_meet
                    rw [hGG.out]
                    refine Lib.hid ⟨set3 (kept_block hB6 heV.out) _ _ _, ?_⟩
                    exact (below_tr hbV.out hB6).trans (below_set3 _ _ _ (Nat.le_refl _))
                  · have d3 : decide ((d : Int) ≤ since) = false := decide_eq_false hs
                    have hGG := Lib.hid (hg2 (by omega))
                    go_wp2_with fail
                    go_meet
                    rw [hGG.out]
                    exact Lib.hid ⟨heV.out, hbV.out⟩
                case rest =>
                clear hV heV hbV hg1 hg2
                have hbw := Lib.hid (below_tr hbx.out hcut.out.2)
                obtain ⟨q0, q1, q2⟩ := rc3 hcut.out.1
                obtain ⟨v0, v1, v2⟩ := rc3 (kept_block hbw.out hEV.out)
                have zv := (Array.getElem?_eq_some_iff.1 (kept_block hbw.out hEV.out)).1
                have zq := (Array.getElem?_eq_some_iff.1 hcut.out.1).1
                clear hcut
                go_wp2_with (first | (go_at_call 39; (with_reducible refine Calls.mono (kY.out _ hbw.out) ?_); rintro e w6 ⟨rfl, hB6⟩) | (go_at_call 18; (with_reducible refine Calls.mono (kK.out _) ?_); rintro e w9 ⟨rfl, hB9⟩))
                go_ret
                rw [hW0.out]
                exact ⟨rfl, below_tr hwB.out (below_tr hbw.out (below_tr hB6 hB9))⟩
          · as_aux_lemma =>
              obtain ⟨e, rfl⟩ : ∃ e, d = e + 1 := ⟨d - 1, by omega⟩
              have hi : ((e + 1 : Nat) : Int) - 1 = (e : Int) := by omega
              rw [hi]
              clear hi hd0
              have hen : e < n := by omega
              have hel : e < l.length := by omega
              have hei : (e : Int) < (n : Int) := by omega
              have hei2 : (e : Int) < (l.length : Int) := by omega
              go_upto_region 19 with fail
              go_cut [] from 88 to 97 (fun wx => Hid (HS W0 b1 b2 ((loL l size since n (e + 1)).set e (-1000)) ((hiL l size since n (e + 1)).set e 1000) wx))
              case first =>
                obtain ⟨m1, f1⟩ := hG.out.lo.cell (k := e) (by rw [loL_len]; exact hen)
                obtain ⟨m2, f2⟩ := hG.out.hi.cell (k := e) (by rw [hiL_len]; exact hen)
                have z1 := hG.out.lo.lt
                have z2 := hG.out.hi.lt
                have hne := hbs.out.1
                have hne2 := Ne.symm hbs.out.1
                go_wp2_with fail
                go_meet
                exact Lib.hid (hG.out.two hbs.out.1 hbs.out.2.1 hbs.out.2.2 e _ _)
              case rest =>
              clear hG
              have hG := hcut
              clear hcut
              have hday := hokh.out.wok.day e hel
              have hsm := hokh.out.small e hel
              obtain ⟨c0, c1, c2⟩ := hdy.out e hel
              have x1 := kept_cell hG.out.bel c1
              have zb := Nat.lt_of_lt_of_le hbb hG.out.bel.size
              go_upto_if 102 with fail
              go_cut [] from 98 to 120 (fun wx => Hid (HS W0 b1 b2 ((loL l size since n (e + 1)).set e (hBase l e).1) ((hiL l size since n (e + 1)).set e (hBase l e).2) wx))
              case first =>
                have x2 := kept_cell hG.out.bel c2
                obtain ⟨m1, f1⟩ := hG.out.lo.cell (k := e) (by rw [List.length_set, loL_len]; exact hen)
                obtain ⟨m2, f2⟩ := hG.out.hi.cell (k := e) (by rw [List.length_set, hiL_len]; exact hen)
                have z1 := hG.out.lo.lt
                have z2 := hG.out.hi.lt
                have hne := hbs.out.1
                have hne2 := Ne.symm hbs.out.1
                have hfin := fun a b => hG.out.two hbs.out.1 hbs.out.2.1 hbs.out.2.2 e a b
                simp only [List.set_set] at hfin
                replace hfin := Lib.hid hfin
                have hbase : Hid (hBase l e = if (dyAt l e).reads then (-2 * (dyAt l e).content, 2 * (dyAt l e).content) else (-1000, 1000)) := Lib.hid rfl
                generalize (dyAt l e).content = ct at *
                cases hr : (dyAt l e).reads
                · rw [hr] at x1 hbase
                  have hG2 := hG
                  clear x2 m1 m2 f1 f2 hfin
                  go_wp2_with fail
                  go_meet
                  rw [hbase.out]
                  exact hG2
                · rw [hr] at x1 hbase
                  go_wp2_with fail
                  go_region
                  go_wp2_with fail
                  go_meet
                  rw [hbase.out]
                  exact Lib.hid (hfin.out _ _).drew
              case rest =>
              clear hG x1 zb
              have hG := hcut
              clear hcut
              go_upto_if 124 with fail
              · have hbd := hBase_bd hokh.out hel
                by_cases he : e + 1 < n
                · have d1 : decide ((e : Int) < (n : Int) - 1) = true := decide_eq_true (by omega)
                  have d2 : (e : Int) < (n : Int) - 1 := by omega
                  have hel1 : e + 1 < l.length := by omega
                  have hei1 : (e : Int) + 1 < (n : Int) := by omega
                  have hei3 : (e : Int) + 1 < (l.length : Int) := by omega
                  obtain ⟨m1, f1⟩ := hG.out.lo.cell (k := e) (by rw [List.length_set, loL_len]; exact hen)
                  obtain ⟨m2, f2⟩ := hG.out.hi.cell (k := e) (by rw [List.length_set, hiL_len]; exact hen)
                  obtain ⟨m3, -⟩ := hG.out.lo.cell (k := e + 1) (by rw [List.length_set, loL_len]; exact he)
                  obtain ⟨m4, -⟩ := hG.out.hi.cell (k := e + 1) (by rw [List.length_set, hiL_len]; exact he)
                  rw [at0_self (by rw [loL_len]; exact hen)] at m1
                  rw [at0_self (by rw [hiL_len]; exact hen)] at m2
                  rw [at0_set (by omega), loL_at he (Nat.le_refl _)] at m3
                  rw [at0_set (by omega), hiL_at he (Nat.le_refl _)] at m4
                  obtain ⟨g0, -, -⟩ := hdy.out (e + 1) hel1
                  have x3 := kept_cell hG.out.bel g0
                  have zb := Nat.lt_of_lt_of_le hbb hG.out.bel.size
                  have z1 := hG.out.lo.lt
                  have z2 := hG.out.hi.lt
                  have hne := hbs.out.1
                  have hne2 := Ne.symm hbs.out.1
                  have hlo := hLo_step (w := l) (size := size) (since := since) (n := n) he
                  have hhi := hHi_step (w := l) (size := size) (since := since) (n := n) he
                  obtain ⟨hL1, hH1⟩ := hEnds_bd hokh.out he
                  have hf1 := hokh.out.wok.day (e + 1) hel1
                  have hf2 := hokh.out.small (e + 1) hel1
                  have hKe : leaks size since (e + 1) = if since ≤ ((e + 1 : Nat) : Int) then size else 0 := rfl
                  have hKb : 0 ≤ leaks size since (e + 1) ∧ leaks size since (e + 1) ≤ 3 := by unfold leaks; split <;> omega
                  have hend := Lib.hid (fun X (h : HS W0 b1 b2 ((loL l size since n (e + 1)).set e (max (hBase l e).1 (hLo l size since n (e + 1) - leaks size since (e + 1) - 2 * (dyAt l (e + 1)).flow))) ((hiL l size since n (e + 1)).set e (min (hBase l e).2 (hHi l size since n (e + 1) - leaks size since (e + 1) + 2 * (dyAt l (e + 1)).flow))) X) =>
                    (by rw [← loL_set (w := l) (size := size) (since := since) (n := n) (d := e), ← hiL_set (w := l) (size := size) (since := since) (n := n) (d := e), hlo, hhi]; exact h : HS W0 b1 b2 (loL l size since n e) (hiL l size since n e) X))
                  replace hKe := Lib.hid hKe
                  generalize leaks size since (e + 1) = K at *
                  generalize hLo l size since n (e + 1) = L1 at *
                  generalize hHi l size since n (e + 1) = H1 at *
                  generalize (dyAt l (e + 1)).flow = fl at *
                  generalize (hBase l e).1 = bl at *
                  generalize (hBase l e).2 = bh at *
                  clear hlo hhi g0 c0 c1 c2
                  go_upto_if 128 with fail
                  go_cut [13] from 121 to 129 (fun c wx => c = .int .i64 K ∧ wx = wc)
                  case first =>
                    by_cases hs : since ≤ ((e + 1 : Nat) : Int)
                    · have d3 : decide (since ≤ (e : Int) + 1) = true := decide_eq_true (by omega)
                      have d4 : since ≤ (e : Int) + 1 := by omega
                      have hk := hKe.out
                      rw [if_pos hs] at hk
                      subst hk
                      go_wp2_with fail
                      go_meet
                      exact ⟨rfl, rfl⟩
                    · have d3 : decide (since ≤ (e : Int) + 1) = false := decide_eq_false (by omega)
                      have d4 : ¬ since ≤ (e : Int) + 1 := by omega
                      have hk := hKe.out
                      rw [if_neg hs] at hk
                      subst hk
                      go_wp2_with fail
                      go_meet
                      exact ⟨rfl, rfl⟩
                  case rest =>
                  obtain ⟨rfl, rfl⟩ := hcut
                  have q1 := max_if bl (L1 - K - 2 * fl)
                  have q2 := min_if bh (H1 - K + 2 * fl)
                  generalize max bl (L1 - K - 2 * fl) = M1 at *
                  generalize min bh (H1 - K + 2 * fl) = M2 at *
                  clear hKe d1 d2
                  go_wp2_with fail
                  refine plain_region (by kernel_rfl) (any_region_locN 44 332 [2, 3, 33, 34, 41, 42, 43] [130, 131, 132, 133, 134, 135, 136, 137, 138, 139, 140, 141, 142, 143, 144, 145, 146, 147, 148, 149, 150, 151, 152, 153, 154, 155, 156, 157, 158, 159, 160, 161, 162, 163, 164, 165, 166, 167, 168, 169, 170, 171, 172, 173] [[], [], [], [], [], [], [4, 5], [6], [], [], [9], [8, 10], [11], [], [12, 13], [], [], [16], [15, 17], [18], [19], [20], [14, 21], [7, 22], [], [], [24, 25], [26], [], [], [29], [28, 30], [31], [], [32, 33], [], [], [36], [35, 37], [38], [39], [40], [34, 41], [27, 42]] [IsV (.slice (some ⟨b1, 0, none⟩) n n), IsV (.int .i64 e), IsV (.slice (some ⟨b2, 0, none⟩) n n), IsV (.int .i64 e), IsV (.slice (some ⟨b1, 0, none⟩) n n), IsV (.int .i64 e), IsV (.pointer (some ⟨b1, e, none⟩)), IsV (.int .i64 (bl)), IsV (.slice (some ⟨b1, 0, none⟩) n n), IsV (.int .i64 e), IsV (.int .i64 ((e : Int) + 1)), IsV (.pointer (some ⟨b1, e + 1, none⟩)), IsV (.int .i64 (L1)), IsV (.int .i64 (K)), IsV (.int .i64 (L1 - K)), IsV (.slice (some ⟨bb, off, none⟩) l.length lc), IsV (.int .i64 e), IsV (.int .i64 ((e : Int) + 1)), IsV (.pointer (some ⟨bb, off + (e + 1) * 3, none⟩)), IsV (.pointer (some ⟨bb, off + (e + 1) * 3, none⟩)), IsV (.int .i64 (fl)), IsV (.int .i64 (2 * fl)), IsV (.int .i64 (L1 - K - 2 * fl)), IsV (.int .i64 (M1)), IsV (.slice (some ⟨b2, 0, none⟩) n n), IsV (.int .i64 e), IsV (.pointer (some ⟨b2, e, none⟩)), IsV (.int .i64 (bh)), IsV (.slice (some ⟨b2, 0, none⟩) n n), IsV (.int .i64 e), IsV (.int .i64 ((e : Int) + 1)), IsV (.pointer (some ⟨b2, e + 1, none⟩)), IsV (.int .i64 (H1)), IsV (.int .i64 (K)), IsV (.int .i64 (H1 - K)), IsV (.slice (some ⟨bb, off, none⟩) l.length lc), IsV (.int .i64 e), IsV (.int .i64 ((e : Int) + 1)), IsV (.pointer (some ⟨bb, off + (e + 1) * 3, none⟩)), IsV (.pointer (some ⟨bb, off + (e + 1) * 3, none⟩)), IsV (.int .i64 (fl)), IsV (.int .i64 (2 * fl)), IsV (.int .i64 (H1 - K + 2 * fl)), IsV (.int .i64 (M2))] [] (by kernel_rfl) (by kernel_rfl) (by kernel_rfl) (by kernel_rfl) (by kernel_rfl) rfl OnlyN.panic ?_ ?_ ?_ ?_ ?_)
                  · exact List.forall_mem_cons.2 ⟨pers_v _, List.forall_mem_cons.2 ⟨pers_v _, List.forall_mem_cons.2 ⟨pers_v _, List.forall_mem_cons.2 ⟨pers_v _, List.forall_mem_cons.2 ⟨pers_v _, List.forall_mem_cons.2 ⟨pers_v _, List.forall_mem_cons.2 ⟨pers_v _, List.forall_mem_cons.2 ⟨pers_v _, List.forall_mem_cons.2 ⟨pers_v _, List.forall_mem_cons.2 ⟨pers_v _, List.forall_mem_cons.2 ⟨pers_v _, List.forall_mem_cons.2 ⟨pers_v _, List.forall_mem_cons.2 ⟨pers_v _, List.forall_mem_cons.2 ⟨pers_v _, List.forall_mem_cons.2 ⟨pers_v _, List.forall_mem_cons.2 ⟨pers_v _, List.forall_mem_cons.2 ⟨pers_v _, List.forall_mem_cons.2 ⟨pers_v _, List.forall_mem_cons.2 ⟨pers_v _, List.forall_mem_cons.2 ⟨pers_v _, List.forall_mem_cons.2 ⟨pers_v _, List.forall_mem_cons.2 ⟨pers_v _, List.forall_mem_cons.2 ⟨pers_v _, List.forall_mem_cons.2 ⟨pers_v _, List.forall_mem_cons.2 ⟨pers_v _, List.forall_mem_cons.2 ⟨pers_v _, List.forall_mem_cons.2 ⟨pers_v _, List.forall_mem_cons.2 ⟨pers_v _, List.forall_mem_cons.2 ⟨pers_v _, List.forall_mem_cons.2 ⟨pers_v _, List.forall_mem_cons.2 ⟨pers_v _, List.forall_mem_cons.2 ⟨pers_v _, List.forall_mem_cons.2 ⟨pers_v _, List.forall_mem_cons.2 ⟨pers_v _, List.forall_mem_cons.2 ⟨pers_v _, List.forall_mem_cons.2 ⟨pers_v _, List.forall_mem_cons.2 ⟨pers_v _, List.forall_mem_cons.2 ⟨pers_v _, List.forall_mem_cons.2 ⟨pers_v _, List.forall_mem_cons.2 ⟨pers_v _, List.forall_mem_cons.2 ⟨pers_v _, List.forall_mem_cons.2 ⟨pers_v _, List.forall_mem_cons.2 ⟨pers_v _, List.forall_mem_cons.2 ⟨pers_v _, fun f h => nomatch h⟩⟩⟩⟩⟩⟩⟩⟩⟩⟩⟩⟩⟩⟩⟩⟩⟩⟩⟩⟩⟩⟩⟩⟩⟩⟩⟩⟩⟩⟩⟩⟩⟩⟩⟩⟩⟩⟩⟩⟩⟩⟩⟩⟩
                  · intro k hk; cases hk
                  · refine ⟨?_, ?_, ?_, ?_, ?_, ?_, ?_, ?_, ?_, ?_, ?_, ?_, ?_, ?_, ?_, ?_, ?_, ?_, ?_, ?_, ?_, ?_, ?_, ?_, ?_, ?_, ?_, ?_, ?_, ?_, ?_, ?_, ?_, ?_, ?_, ?_, ?_, ?_, ?_, ?_, ?_, ?_, ?_, ?_, trivial⟩
                    · intro vals x hb hf
                      simp only [fillS, List.getD_cons_succ, List.getD_cons_zero, Act.put, List.setIfInBounds_toArray, List.set_cons_zero, List.set_cons_succ]
                      clear hf
                      have y1 := kept_cell hb m1
                      have y2 := kept_cell hb m2
                      have y3 := kept_cell hb m3
                      have y4 := kept_cell hb m4
                      have y5 := kept_cell hb x3
                      have w1 := Nat.lt_of_lt_of_le z1 hb.size
                      have w2 := Nat.lt_of_lt_of_le z2 hb.size
                      have w3 := Nat.lt_of_lt_of_le zb hb.size
                      go_wp2
                      exact ⟨rfl, rfl, Below.refl _ _, _, rfl, rfl, (fun h => absurd h (by decide))⟩
                    · intro vals x hb hf
                      simp only [fillS, List.getD_cons_succ, List.getD_cons_zero, Act.put, List.setIfInBounds_toArray, List.set_cons_zero, List.set_cons_succ]
                      clear hf
                      have y1 := kept_cell hb m1
                      have y2 := kept_cell hb m2
                      have y3 := kept_cell hb m3
                      have y4 := kept_cell hb m4
                      have y5 := kept_cell hb x3
                      have w1 := Nat.lt_of_lt_of_le z1 hb.size
                      have w2 := Nat.lt_of_lt_of_le z2 hb.size
                      have w3 := Nat.lt_of_lt_of_le zb hb.size
                      go_wp2
                      exact ⟨rfl, rfl, Below.refl _ _, _, rfl, rfl, (fun h => absurd h (by decide))⟩
                    · intro vals x hb hf
                      simp only [fillS, List.getD_cons_succ, List.getD_cons_zero, Act.put, List.setIfInBounds_toArray, List.set_cons_zero, List.set_cons_succ]
                      clear hf
                      go_wp2
                      exact ⟨rfl, rfl, Below.refl _ _, _, rfl, rfl, (fun h => absurd h (by decide))⟩
                    · intro vals x hb hf
                      simp only [fillS, List.getD_cons_succ, List.getD_cons_zero, Act.put, List.setIfInBounds_toArray, List.set_cons_zero, List.set_cons_succ]
                      clear hf
                      go_wp2
                      exact ⟨rfl, rfl, Below.refl _ _, _, rfl, rfl, (fun h => absurd h (by decide))⟩
                    · intro vals x hb hf
                      simp only [fillS, List.getD_cons_succ, List.getD_cons_zero, Act.put, List.setIfInBounds_toArray, List.set_cons_zero, List.set_cons_succ]
                      clear hf
                      have y1 := kept_cell hb m1
                      have y2 := kept_cell hb m2
                      have y3 := kept_cell hb m3
                      have y4 := kept_cell hb m4
                      have y5 := kept_cell hb x3
                      have w1 := Nat.lt_of_lt_of_le z1 hb.size
                      have w2 := Nat.lt_of_lt_of_le z2 hb.size
                      have w3 := Nat.lt_of_lt_of_le zb hb.size
                      go_wp2
                      exact ⟨rfl, rfl, Below.refl _ _, _, rfl, rfl, (fun h => absurd h (by decide))⟩
                    · intro vals x hb hf
                      simp only [fillS, List.getD_cons_succ, List.getD_cons_zero, Act.put, List.setIfInBounds_toArray, List.set_cons_zero, List.set_cons_succ]
                      clear hf
                      have y1 := kept_cell hb m1
                      have y2 := kept_cell hb m2
                      have y3 := kept_cell hb m3
                      have y4 := kept_cell hb m4
                      have y5 := kept_cell hb x3
                      have w1 := Nat.lt_of_lt_of_le z1 hb.size
                      have w2 := Nat.lt_of_lt_of_le z2 hb.size
                      have w3 := Nat.lt_of_lt_of_le zb hb.size
                      go_wp2
                      exact ⟨rfl, rfl, Below.refl _ _, _, rfl, rfl, (fun h => absurd h (by decide))⟩
                    · intro vals x hb hf
                      simp only [fillS, List.getD_cons_succ, List.getD_cons_zero, Act.put, List.setIfInBounds_toArray, List.set_cons_zero, List.set_cons_succ]
                      have h4 : vals 4 = .slice (some ⟨b1, 0, none⟩) n n := hf.1
                      rw [h4]
                      clear h4
                      have h5 : vals 5 = .int .i64 e := hf.2.1
                      rw [h5]
                      clear h5
                      clear hf
                      have y1 := kept_cell hb m1
                      have y2 := kept_cell hb m2
                      have y3 := kept_cell hb m3
                      have y4 := kept_cell hb m4
                      have y5 := kept_cell hb x3
                      have w1 := Nat.lt_of_lt_of_le z1 hb.size
                      have w2 := Nat.lt_of_lt_of_le z2 hb.size
                      have w3 := Nat.lt_of_lt_of_le zb hb.size
                      go_wp2
                      exact ⟨rfl, rfl, Below.refl _ _, _, rfl, rfl, (fun h => absurd h (by decide))⟩
                    · intro vals x hb hf
                      simp only [fillS, List.getD_cons_succ, List.getD_cons_zero, Act.put, List.setIfInBounds_toArray, List.set_cons_zero, List.set_cons_succ]
                      have h6 : vals 6 = .pointer (some ⟨b1, e, none⟩) := hf.1
                      rw [h6]
                      clear h6
                      clear hf
                      have y1 := kept_cell hb m1
                      have y2 := kept_cell hb m2
                      have y3 := kept_cell hb m3
                      have y4 := kept_cell hb m4
                      have y5 := kept_cell hb x3
                      have w1 := Nat.lt_of_lt_of_le z1 hb.size
                      have w2 := Nat.lt_of_lt_of_le z2 hb.size
                      have w3 := Nat.lt_of_lt_of_le zb hb.size
                      go_wp2
                      exact ⟨rfl, rfl, Below.refl _ _, _, rfl, rfl, (fun h => absurd h (by decide))⟩
                    · intro vals x hb hf
                      simp only [fillS, List.getD_cons_succ, List.getD_cons_zero, Act.put, List.setIfInBounds_toArray, List.set_cons_zero, List.set_cons_succ]
                      clear hf
                      have y1 := kept_cell hb m1
                      have y2 := kept_cell hb m2
                      have y3 := kept_cell hb m3
                      have y4 := kept_cell hb m4
                      have y5 := kept_cell hb x3
                      have w1 := Nat.lt_of_lt_of_le z1 hb.size
                      have w2 := Nat.lt_of_lt_of_le z2 hb.size
                      have w3 := Nat.lt_of_lt_of_le zb hb.size
                      go_wp2
                      exact ⟨rfl, rfl, Below.refl _ _, _, rfl, rfl, (fun h => absurd h (by decide))⟩
                    · intro vals x hb hf
                      simp only [fillS, List.getD_cons_succ, List.getD_cons_zero, Act.put, List.setIfInBounds_toArray, List.set_cons_zero, List.set_cons_succ]
                      clear hf
                      have y1 := kept_cell hb m1
                      have y2 := kept_cell hb m2
                      have y3 := kept_cell hb m3
                      have y4 := kept_cell hb m4
                      have y5 := kept_cell hb x3
                      have w1 := Nat.lt_of_lt_of_le z1 hb.size
                      have w2 := Nat.lt_of_lt_of_le z2 hb.size
                      have w3 := Nat.lt_of_lt_of_le zb hb.size
                      go_wp2
                      exact ⟨rfl, rfl, Below.refl _ _, _, rfl, rfl, (fun h => absurd h (by decide))⟩
                    · intro vals x hb hf
                      simp only [fillS, List.getD_cons_succ, List.getD_cons_zero, Act.put, List.setIfInBounds_toArray, List.set_cons_zero, List.set_cons_succ]
                      have h9 : vals 9 = .int .i64 e := hf.1
                      rw [h9]
                      clear h9
                      clear hf
                      have y1 := kept_cell hb m1
                      have y2 := kept_cell hb m2
                      have y3 := kept_cell hb m3
                      have y4 := kept_cell hb m4
                      have y5 := kept_cell hb x3
                      have w1 := Nat.lt_of_lt_of_le z1 hb.size
                      have w2 := Nat.lt_of_lt_of_le z2 hb.size
                      have w3 := Nat.lt_of_lt_of_le zb hb.size
                      go_wp2
                      exact ⟨rfl, rfl, Below.refl _ _, _, rfl, rfl, (fun h => absurd h (by decide))⟩
                    · intro vals x hb hf
                      simp only [fillS, List.getD_cons_succ, List.getD_cons_zero, Act.put, List.setIfInBounds_toArray, List.set_cons_zero, List.set_cons_succ]
                      have h8 : vals 8 = .slice (some ⟨b1, 0, none⟩) n n := hf.1
                      rw [h8]
                      clear h8
                      have h10 : vals 10 = .int .i64 ((e : Int) + 1) := hf.2.1
                      rw [h10]
                      clear h10
                      clear hf
                      have y1 := kept_cell hb m1
                      have y2 := kept_cell hb m2
                      have y3 := kept_cell hb m3
                      have y4 := kept_cell hb m4
                      have y5 := kept_cell hb x3
                      have w1 := Nat.lt_of_lt_of_le z1 hb.size
                      have w2 := Nat.lt_of_lt_of_le z2 hb.size
                      have w3 := Nat.lt_of_lt_of_le zb hb.size
                      go_wp2
                      exact ⟨rfl, rfl, Below.refl _ _, _, rfl, rfl, (fun h => absurd h (by decide))⟩
                    · intro vals x hb hf
                      simp only [fillS, List.getD_cons_succ, List.getD_cons_zero, Act.put, List.setIfInBounds_toArray, List.set_cons_zero, List.set_cons_succ]
                      have h11 : vals 11 = .pointer (some ⟨b1, e + 1, none⟩) := hf.1
                      rw [h11]
                      clear h11
                      clear hf
                      have y1 := kept_cell hb m1
                      have y2 := kept_cell hb m2
                      have y3 := kept_cell hb m3
                      have y4 := kept_cell hb m4
                      have y5 := kept_cell hb x3
                      have w1 := Nat.lt_of_lt_of_le z1 hb.size
                      have w2 := Nat.lt_of_lt_of_le z2 hb.size
                      have w3 := Nat.lt_of_lt_of_le zb hb.size
                      go_wp2
                      exact ⟨rfl, rfl, Below.refl _ _, _, rfl, rfl, (fun h => absurd h (by decide))⟩
                    · intro vals x hb hf
                      simp only [fillS, List.getD_cons_succ, List.getD_cons_zero, Act.put, List.setIfInBounds_toArray, List.set_cons_zero, List.set_cons_succ]
                      clear hf
                      have y1 := kept_cell hb m1
                      have y2 := kept_cell hb m2
                      have y3 := kept_cell hb m3
                      have y4 := kept_cell hb m4
                      have y5 := kept_cell hb x3
                      have w1 := Nat.lt_of_lt_of_le z1 hb.size
                      have w2 := Nat.lt_of_lt_of_le z2 hb.size
                      have w3 := Nat.lt_of_lt_of_le zb hb.size
                      go_wp2
                      exact ⟨rfl, rfl, Below.refl _ _, _, rfl, rfl, (fun h => absurd h (by decide))⟩
                    · intro vals x hb hf
                      simp only [fillS, List.getD_cons_succ, List.getD_cons_zero, Act.put, List.setIfInBounds_toArray, List.set_cons_zero, List.set_cons_succ]
                      have h12 : vals 12 = .int .i64 (L1) := hf.1
                      rw [h12]
                      clear h12
                      have h13 : vals 13 = .int .i64 (K) := hf.2.1
                      rw [h13]
                      clear h13
                      clear hf
                      have y1 := kept_cell hb m1
                      have y2 := kept_cell hb m2
                      have y3 := kept_cell hb m3
                      have y4 := kept_cell hb m4
                      have y5 := kept_cell hb x3
                      have w1 := Nat.lt_of_lt_of_le z1 hb.size
                      have w2 := Nat.lt_of_lt_of_le z2 hb.size
                      have w3 := Nat.lt_of_lt_of_le zb hb.size
                      go_wp2
                      exact ⟨rfl, rfl, Below.refl _ _, _, rfl, rfl, (fun h => absurd h (by decide))⟩
                    · intro vals x hb hf
                      simp only [fillS, List.getD_cons_succ, List.getD_cons_zero, Act.put, List.setIfInBounds_toArray, List.set_cons_zero, List.set_cons_succ]
                      clear hf
                      have y1 := kept_cell hb m1
                      have y2 := kept_cell hb m2
                      have y3 := kept_cell hb m3
                      have y4 := kept_cell hb m4
                      have y5 := kept_cell hb x3
                      have w1 := Nat.lt_of_lt_of_le z1 hb.size
                      have w2 := Nat.lt_of_lt_of_le z2 hb.size
                      have w3 := Nat.lt_of_lt_of_le zb hb.size
                      go_wp2
                      exact ⟨rfl, rfl, Below.refl _ _, _, rfl, rfl, (fun h => absurd h (by decide))⟩
                    · intro vals x hb hf
                      simp only [fillS, List.getD_cons_succ, List.getD_cons_zero, Act.put, List.setIfInBounds_toArray, List.set_cons_zero, List.set_cons_succ]
                      clear hf
                      have y1 := kept_cell hb m1
                      have y2 := kept_cell hb m2
                      have y3 := kept_cell hb m3
                      have y4 := kept_cell hb m4
                      have y5 := kept_cell hb x3
                      have w1 := Nat.lt_of_lt_of_le z1 hb.size
                      have w2 := Nat.lt_of_lt_of_le z2 hb.size
                      have w3 := Nat.lt_of_lt_of_le zb hb.size
                      go_wp2
                      exact ⟨rfl, rfl, Below.refl _ _, _, rfl, rfl, (fun h => absurd h (by decide))⟩
                    · intro vals x hb hf
                      simp only [fillS, List.getD_cons_succ, List.getD_cons_zero, Act.put, List.setIfInBounds_toArray, List.set_cons_zero, List.set_cons_succ]
                      have h16 : vals 16 = .int .i64 e := hf.1
                      rw [h16]
                      clear h16
                      clear hf
                      have y1 := kept_cell hb m1
                      have y2 := kept_cell hb m2
                      have y3 := kept_cell hb m3
                      have y4 := kept_cell hb m4
                      have y5 := kept_cell hb x3
                      have w1 := Nat.lt_of_lt_of_le z1 hb.size
                      have w2 := Nat.lt_of_lt_of_le z2 hb.size
                      have w3 := Nat.lt_of_lt_of_le zb hb.size
                      go_wp2
                      exact ⟨rfl, rfl, Below.refl _ _, _, rfl, rfl, (fun h => absurd h (by decide))⟩
                    · intro vals x hb hf
                      simp only [fillS, List.getD_cons_succ, List.getD_cons_zero, Act.put, List.setIfInBounds_toArray, List.set_cons_zero, List.set_cons_succ]
                      have h15 : vals 15 = .slice (some ⟨bb, off, none⟩) l.length lc := hf.1
                      rw [h15]
                      clear h15
                      have h17 : vals 17 = .int .i64 ((e : Int) + 1) := hf.2.1
                      rw [h17]
                      clear h17
                      clear hf
                      have y1 := kept_cell hb m1
                      have y2 := kept_cell hb m2
                      have y3 := kept_cell hb m3
                      have y4 := kept_cell hb m4
                      have y5 := kept_cell hb x3
                      have w1 := Nat.lt_of_lt_of_le z1 hb.size
                      have w2 := Nat.lt_of_lt_of_le z2 hb.size
                      have w3 := Nat.lt_of_lt_of_le zb hb.size
                      go_wp2
                      exact ⟨rfl, rfl, Below.refl _ _, _, rfl, rfl, (fun h => absurd h (by decide))⟩
                    · intro vals x hb hf
                      simp only [fillS, List.getD_cons_succ, List.getD_cons_zero, Act.put, List.setIfInBounds_toArray, List.set_cons_zero, List.set_cons_succ]
                      have h18 : vals 18 = .pointer (some ⟨bb, off + (e + 1) * 3, none⟩) := hf.1
                      rw [h18]
                      clear h18
                      clear hf
                      have y1 := kept_cell hb m1
                      have y2 := kept_cell hb m2
                      have y3 := kept_cell hb m3
                      have y4 := kept_cell hb m4
                      have y5 := kept_cell hb x3
                      have w1 := Nat.lt_of_lt_of_le z1 hb.size
                      have w2 := Nat.lt_of_lt_of_le z2 hb.size
                      have w3 := Nat.lt_of_lt_of_le zb hb.size
                      go_wp2
                      exact ⟨rfl, rfl, Below.refl _ _, _, rfl, rfl, (fun h => absurd h (by decide))⟩
                    · intro vals x hb hf
                      simp only [fillS, List.getD_cons_succ, List.getD_cons_zero, Act.put, List.setIfInBounds_toArray, List.set_cons_zero, List.set_cons_succ]
                      have h19 : vals 19 = .pointer (some ⟨bb, off + (e + 1) * 3, none⟩) := hf.1
                      rw [h19]
                      clear h19
                      clear hf
                      have y1 := kept_cell hb m1
                      have y2 := kept_cell hb m2
                      have y3 := kept_cell hb m3
                      have y4 := kept_cell hb m4
                      have y5 := kept_cell hb x3
                      have w1 := Nat.lt_of_lt_of_le z1 hb.size
                      have w2 := Nat.lt_of_lt_of_le z2 hb.size
                      have w3 := Nat.lt_of_lt_of_le zb hb.size
                      go_wp2
                      exact ⟨rfl, rfl, Below.refl _ _, _, rfl, rfl, (fun h => absurd h (by decide))⟩
                    · intro vals x hb hf
                      simp only [fillS, List.getD_cons_succ, List.getD_cons_zero, Act.put, List.setIfInBounds_toArray, List.set_cons_zero, List.set_cons_succ]
                      have h20 : vals 20 = .int .i64 (fl) := hf.1
                      rw [h20]
                      clear h20
                      clear hf
                      have y1 := kept_cell hb m1
                      have y2 := kept_cell hb m2
                      have y3 := kept_cell hb m3
                      have y4 := kept_cell hb m4
                      have y5 := kept_cell hb x3
                      have w1 := Nat.lt_of_lt_of_le z1 hb.size
                      have w2 := Nat.lt_of_lt_of_le z2 hb.size
                      have w3 := Nat.lt_of_lt_of_le zb hb.size
                      go_wp2
                      exact ⟨rfl, rfl, Below.refl _ _, _, rfl, rfl, (fun h => absurd h (by decide))⟩
                    · intro vals x hb hf
                      simp only [fillS, List.getD_cons_succ, List.getD_cons_zero, Act.put, List.setIfInBounds_toArray, List.set_cons_zero, List.set_cons_succ]
                      have h14 : vals 14 = .int .i64 (L1 - K) := hf.1
                      rw [h14]
                      clear h14
                      have h21 : vals 21 = .int .i64 (2 * fl) := hf.2.1
                      rw [h21]
                      clear h21
                      clear hf
                      have y1 := kept_cell hb m1
                      have y2 := kept_cell hb m2
                      have y3 := kept_cell hb m3
                      have y4 := kept_cell hb m4
                      have y5 := kept_cell hb x3
                      have w1 := Nat.lt_of_lt_of_le z1 hb.size
                      have w2 := Nat.lt_of_lt_of_le z2 hb.size
                      have w3 := Nat.lt_of_lt_of_le zb hb.size
                      go_wp2
                      exact ⟨rfl, rfl, Below.refl _ _, _, rfl, rfl, (fun h => absurd h (by decide))⟩
                    · intro vals x hb hf
                      simp only [fillS, List.getD_cons_succ, List.getD_cons_zero, Act.put, List.setIfInBounds_toArray, List.set_cons_zero, List.set_cons_succ]
                      have h7 : vals 7 = .int .i64 (bl) := hf.1
                      rw [h7]
                      clear h7
                      have h22 : vals 22 = .int .i64 (L1 - K - 2 * fl) := hf.2.1
                      rw [h22]
                      clear h22
                      clear hf
                      have y1 := kept_cell hb m1
                      have y2 := kept_cell hb m2
                      have y3 := kept_cell hb m3
                      have y4 := kept_cell hb m4
                      have y5 := kept_cell hb x3
                      have w1 := Nat.lt_of_lt_of_le z1 hb.size
                      have w2 := Nat.lt_of_lt_of_le z2 hb.size
                      have w3 := Nat.lt_of_lt_of_le zb hb.size
                      go_wp2
                      exact ⟨rfl, rfl, Below.refl _ _, _, rfl, rfl, (fun h => absurd h (by decide))⟩
                    · intro vals x hb hf
                      simp only [fillS, List.getD_cons_succ, List.getD_cons_zero, Act.put, List.setIfInBounds_toArray, List.set_cons_zero, List.set_cons_succ]
                      clear hf
                      have y1 := kept_cell hb m1
                      have y2 := kept_cell hb m2
                      have y3 := kept_cell hb m3
                      have y4 := kept_cell hb m4
                      have y5 := kept_cell hb x3
                      have w1 := Nat.lt_of_lt_of_le z1 hb.size
                      have w2 := Nat.lt_of_lt_of_le z2 hb.size
                      have w3 := Nat.lt_of_lt_of_le zb hb.size
                      go_wp2
                      exact ⟨rfl, rfl, Below.refl _ _, _, rfl, rfl, (fun h => absurd h (by decide))⟩
                    · intro vals x hb hf
                      simp only [fillS, List.getD_cons_succ, List.getD_cons_zero, Act.put, List.setIfInBounds_toArray, List.set_cons_zero, List.set_cons_succ]
                      clear hf
                      have y1 := kept_cell hb m1
                      have y2 := kept_cell hb m2
                      have y3 := kept_cell hb m3
                      have y4 := kept_cell hb m4
                      have y5 := kept_cell hb x3
                      have w1 := Nat.lt_of_lt_of_le z1 hb.size
                      have w2 := Nat.lt_of_lt_of_le z2 hb.size
                      have w3 := Nat.lt_of_lt_of_le zb hb.size
                      go_wp2
                      exact ⟨rfl, rfl, Below.refl _ _, _, rfl, rfl, (fun h => absurd h (by decide))⟩
                    · intro vals x hb hf
                      simp only [fillS, List.getD_cons_succ, List.getD_cons_zero, Act.put, List.setIfInBounds_toArray, List.set_cons_zero, List.set_cons_succ]
                      have h24 : vals 24 = .slice (some ⟨b2, 0, none⟩) n n := hf.1
                      rw [h24]
                      clear h24
                      have h25 : vals 25 = .int .i64 e := hf.2.1
                      rw [h25]
                      clear h25
                      clear hf
                      have y1 := kept_cell hb m1
                      have y2 := kept_cell hb m2
                      have y3 := kept_cell hb m3
                      have y4 := kept_cell hb m4
                      have y5 := kept_cell hb x3
                      have w1 := Nat.lt_of_lt_of_le z1 hb.size
                      have w2 := Nat.lt_of_lt_of_le z2 hb.size
                      have w3 := Nat.lt_of_lt_of_le zb hb.size
                      go_wp2
                      exact ⟨rfl, rfl, Below.refl _ _, _, rfl, rfl, (fun h => absurd h (by decide))⟩
                    · intro vals x hb hf
                      simp only [fillS, List.getD_cons_succ, List.getD_cons_zero, Act.put, List.setIfInBounds_toArray, List.set_cons_zero, List.set_cons_succ]
                      have h26 : vals 26 = .pointer (some ⟨b2, e, none⟩) := hf.1
                      rw [h26]
                      clear h26
                      clear hf
                      have y1 := kept_cell hb m1
                      have y2 := kept_cell hb m2
                      have y3 := kept_cell hb m3
                      have y4 := kept_cell hb m4
                      have y5 := kept_cell hb x3
                      have w1 := Nat.lt_of_lt_of_le z1 hb.size
                      have w2 := Nat.lt_of_lt_of_le z2 hb.size
                      have w3 := Nat.lt_of_lt_of_le zb hb.size
                      go_wp2
                      exact ⟨rfl, rfl, Below.refl _ _, _, rfl, rfl, (fun h => absurd h (by decide))⟩
                    · intro vals x hb hf
                      simp only [fillS, List.getD_cons_succ, List.getD_cons_zero, Act.put, List.setIfInBounds_toArray, List.set_cons_zero, List.set_cons_succ]
                      clear hf
                      have y1 := kept_cell hb m1
                      have y2 := kept_cell hb m2
                      have y3 := kept_cell hb m3
                      have y4 := kept_cell hb m4
                      have y5 := kept_cell hb x3
                      have w1 := Nat.lt_of_lt_of_le z1 hb.size
                      have w2 := Nat.lt_of_lt_of_le z2 hb.size
                      have w3 := Nat.lt_of_lt_of_le zb hb.size
                      go_wp2
                      exact ⟨rfl, rfl, Below.refl _ _, _, rfl, rfl, (fun h => absurd h (by decide))⟩
                    · intro vals x hb hf
                      simp only [fillS, List.getD_cons_succ, List.getD_cons_zero, Act.put, List.setIfInBounds_toArray, List.set_cons_zero, List.set_cons_succ]
                      clear hf
                      have y1 := kept_cell hb m1
                      have y2 := kept_cell hb m2
                      have y3 := kept_cell hb m3
                      have y4 := kept_cell hb m4
                      have y5 := kept_cell hb x3
                      have w1 := Nat.lt_of_lt_of_le z1 hb.size
                      have w2 := Nat.lt_of_lt_of_le z2 hb.size
                      have w3 := Nat.lt_of_lt_of_le zb hb.size
                      go_wp2
                      exact ⟨rfl, rfl, Below.refl _ _, _, rfl, rfl, (fun h => absurd h (by decide))⟩
                    · intro vals x hb hf
                      simp only [fillS, List.getD_cons_succ, List.getD_cons_zero, Act.put, List.setIfInBounds_toArray, List.set_cons_zero, List.set_cons_succ]
                      have h29 : vals 29 = .int .i64 e := hf.1
                      rw [h29]
                      clear h29
                      clear hf
                      have y1 := kept_cell hb m1
                      have y2 := kept_cell hb m2
                      have y3 := kept_cell hb m3
                      have y4 := kept_cell hb m4
                      have y5 := kept_cell hb x3
                      have w1 := Nat.lt_of_lt_of_le z1 hb.size
                      have w2 := Nat.lt_of_lt_of_le z2 hb.size
                      have w3 := Nat.lt_of_lt_of_le zb hb.size
                      go_wp2
                      exact ⟨rfl, rfl, Below.refl _ _, _, rfl, rfl, (fun h => absurd h (by decide))⟩
                    · intro vals x hb hf
                      simp only [fillS, List.getD_cons_succ, List.getD_cons_zero, Act.put, List.setIfInBounds_toArray, List.set_cons_zero, List.set_cons_succ]
                      have h28 : vals 28 = .slice (some ⟨b2, 0, none⟩) n n := hf.1
                      rw [h28]
                      clear h28
                      have h30 : vals 30 = .int .i64 ((e : Int) + 1) := hf.2.1
                      rw [h30]
                      clear h30
                      clear hf
                      have y1 := kept_cell hb m1
                      have y2 := kept_cell hb m2
                      have y3 := kept_cell hb m3
                      have y4 := kept_cell hb m4
                      have y5 := kept_cell hb x3
                      have w1 := Nat.lt_of_lt_of_le z1 hb.size
                      have w2 := Nat.lt_of_lt_of_le z2 hb.size
                      have w3 := Nat.lt_of_lt_of_le zb hb.size
                      go_wp2
                      exact ⟨rfl, rfl, Below.refl _ _, _, rfl, rfl, (fun h => absurd h (by decide))⟩
                    · intro vals x hb hf
                      simp only [fillS, List.getD_cons_succ, List.getD_cons_zero, Act.put, List.setIfInBounds_toArray, List.set_cons_zero, List.set_cons_succ]
                      have h31 : vals 31 = .pointer (some ⟨b2, e + 1, none⟩) := hf.1
                      rw [h31]
                      clear h31
                      clear hf
                      have y1 := kept_cell hb m1
                      have y2 := kept_cell hb m2
                      have y3 := kept_cell hb m3
                      have y4 := kept_cell hb m4
                      have y5 := kept_cell hb x3
                      have w1 := Nat.lt_of_lt_of_le z1 hb.size
                      have w2 := Nat.lt_of_lt_of_le z2 hb.size
                      have w3 := Nat.lt_of_lt_of_le zb hb.size
                      go_wp2
                      exact ⟨rfl, rfl, Below.refl _ _, _, rfl, rfl, (fun h => absurd h (by decide))⟩
                    · intro vals x hb hf
                      simp only [fillS, List.getD_cons_succ, List.getD_cons_zero, Act.put, List.setIfInBounds_toArray, List.set_cons_zero, List.set_cons_succ]
                      clear hf
                      go_wp2
                      exact ⟨rfl, rfl, Below.refl _ _, _, rfl, rfl, (fun h => absurd h (by decide))⟩
                    · intro vals x hb hf
                      simp only [fillS, List.getD_cons_succ, List.getD_cons_zero, Act.put, List.setIfInBounds_toArray, List.set_cons_zero, List.set_cons_succ]
                      have h32 : vals 32 = .int .i64 (H1) := hf.1
                      rw [h32]
                      clear h32
                      have h33 : vals 33 = .int .i64 (K) := hf.2.1
                      rw [h33]
                      clear h33
                      clear hf
                      go_wp2
                      exact ⟨rfl, rfl, Below.refl _ _, _, rfl, rfl, (fun h => absurd h (by decide))⟩
                    · intro vals x hb hf
                      simp only [fillS, List.getD_cons_succ, List.getD_cons_zero, Act.put, List.setIfInBounds_toArray, List.set_cons_zero, List.set_cons_succ]
                      clear hf
                      have y1 := kept_cell hb m1
                      have y2 := kept_cell hb m2
                      have y3 := kept_cell hb m3
                      have y4 := kept_cell hb m4
                      have y5 := kept_cell hb x3
                      have w1 := Nat.lt_of_lt_of_le z1 hb.size
                      have w2 := Nat.lt_of_lt_of_le z2 hb.size
                      have w3 := Nat.lt_of_lt_of_le zb hb.size
                      go_wp2
                      exact ⟨rfl, rfl, Below.refl _ _, _, rfl, rfl, (fun h => absurd h (by decide))⟩
                    · intro vals x hb hf
                      simp only [fillS, List.getD_cons_succ, List.getD_cons_zero, Act.put, List.setIfInBounds_toArray, List.set_cons_zero, List.set_cons_succ]
                      clear hf
                      have y1 := kept_cell hb m1
                      have y2 := kept_cell hb m2
                      have y3 := kept_cell hb m3
                      have y4 := kept_cell hb m4
                      have y5 := kept_cell hb x3
                      have w1 := Nat.lt_of_lt_of_le z1 hb.size
                      have w2 := Nat.lt_of_lt_of_le z2 hb.size
                      have w3 := Nat.lt_of_lt_of_le zb hb.size
                      go_wp2
                      exact ⟨rfl, rfl, Below.refl _ _, _, rfl, rfl, (fun h => absurd h (by decide))⟩
                    · intro vals x hb hf
                      simp only [fillS, List.getD_cons_succ, List.getD_cons_zero, Act.put, List.setIfInBounds_toArray, List.set_cons_zero, List.set_cons_succ]
                      have h36 : vals 36 = .int .i64 e := hf.1
                      rw [h36]
                      clear h36
                      clear hf
                      have y1 := kept_cell hb m1
                      have y2 := kept_cell hb m2
                      have y3 := kept_cell hb m3
                      have y4 := kept_cell hb m4
                      have y5 := kept_cell hb x3
                      have w1 := Nat.lt_of_lt_of_le z1 hb.size
                      have w2 := Nat.lt_of_lt_of_le z2 hb.size
                      have w3 := Nat.lt_of_lt_of_le zb hb.size
                      go_wp2
                      exact ⟨rfl, rfl, Below.refl _ _, _, rfl, rfl, (fun h => absurd h (by decide))⟩
                    · intro vals x hb hf
                      simp only [fillS, List.getD_cons_succ, List.getD_cons_zero, Act.put, List.setIfInBounds_toArray, List.set_cons_zero, List.set_cons_succ]
                      have h35 : vals 35 = .slice (some ⟨bb, off, none⟩) l.length lc := hf.1
                      rw [h35]
                      clear h35
                      have h37 : vals 37 = .int .i64 ((e : Int) + 1) := hf.2.1
                      rw [h37]
                      clear h37
                      clear hf
                      have y1 := kept_cell hb m1
                      have y2 := kept_cell hb m2
                      have y3 := kept_cell hb m3
                      have y4 := kept_cell hb m4
                      have y5 := kept_cell hb x3
                      have w1 := Nat.lt_of_lt_of_le z1 hb.size
                      have w2 := Nat.lt_of_lt_of_le z2 hb.size
                      have w3 := Nat.lt_of_lt_of_le zb hb.size
                      go_wp2
                      exact ⟨rfl, rfl, Below.refl _ _, _, rfl, rfl, (fun h => absurd h (by decide))⟩
                    · intro vals x hb hf
                      simp only [fillS, List.getD_cons_succ, List.getD_cons_zero, Act.put, List.setIfInBounds_toArray, List.set_cons_zero, List.set_cons_succ]
                      have h38 : vals 38 = .pointer (some ⟨bb, off + (e + 1) * 3, none⟩) := hf.1
                      rw [h38]
                      clear h38
                      clear hf
                      have y1 := kept_cell hb m1
                      have y2 := kept_cell hb m2
                      have y3 := kept_cell hb m3
                      have y4 := kept_cell hb m4
                      have y5 := kept_cell hb x3
                      have w1 := Nat.lt_of_lt_of_le z1 hb.size
                      have w2 := Nat.lt_of_lt_of_le z2 hb.size
                      have w3 := Nat.lt_of_lt_of_le zb hb.size
                      go_wp2
                      exact ⟨rfl, rfl, Below.refl _ _, _, rfl, rfl, (fun h => absurd h (by decide))⟩
                    · intro vals x hb hf
                      simp only [fillS, List.getD_cons_succ, List.getD_cons_zero, Act.put, List.setIfInBounds_toArray, List.set_cons_zero, List.set_cons_succ]
                      have h39 : vals 39 = .pointer (some ⟨bb, off + (e + 1) * 3, none⟩) := hf.1
                      rw [h39]
                      clear h39
                      clear hf
                      have y1 := kept_cell hb m1
                      have y2 := kept_cell hb m2
                      have y3 := kept_cell hb m3
                      have y4 := kept_cell hb m4
                      have y5 := kept_cell hb x3
                      have w1 := Nat.lt_of_lt_of_le z1 hb.size
                      have w2 := Nat.lt_of_lt_of_le z2 hb.size
                      have w3 := Nat.lt_of_lt_of_le zb hb.size
                      go_wp2
                      exact ⟨rfl, rfl, Below.refl _ _, _, rfl, rfl, (fun h => absurd h (by decide))⟩
                    · intro vals x hb hf
                      simp only [fillS, List.getD_cons_succ, List.getD_cons_zero, Act.put, List.setIfInBounds_toArray, List.set_cons_zero, List.set_cons_succ]
                      have h40 : vals 40 = .int .i64 (fl) := hf.1
                      rw [h40]
                      clear h40
                      clear hf
                      go_wp2
                      exact ⟨rfl, rfl, Below.refl _ _, _, rfl, rfl, (fun h => absurd h (by decide))⟩
                    · intro vals x hb hf
                      simp only [fillS, List.getD_cons_succ, List.getD_cons_zero, Act.put, List.setIfInBounds_toArray, List.set_cons_zero, List.set_cons_succ]
                      have h34 : vals 34 = .int .i64 (H1 - K) := hf.1
                      rw [h34]
                      clear h34
                      have h41 : vals 41 = .int .i64 (2 * fl) := hf.2.1
                      rw [h41]
                      clear h41
                      clear hf
                      go_wp2
                      exact ⟨rfl, rfl, Below.refl _ _, _, rfl, rfl, (fun h => absurd h (by decide))⟩
                    · intro vals x hb hf
                      simp only [fillS, List.getD_cons_succ, List.getD_cons_zero, Act.put, List.setIfInBounds_toArray, List.set_cons_zero, List.set_cons_succ]
                      have h27 : vals 27 = .int .i64 (bh) := hf.1
                      rw [h27]
                      clear h27
                      have h42 : vals 42 = .int .i64 (H1 - K + 2 * fl) := hf.2.1
                      rw [h42]
                      clear h42
                      clear hf
                      go_wp2
                      exact ⟨rfl, rfl, Below.refl _ _, _, rfl, rfl, (fun h => absurd h (by decide))⟩
                  · intro j hj o ho vals x hb hf
                    simp only [List.mem_cons, List.not_mem_nil, or_false] at hj
                    rcases hj with rfl | rfl | rfl | rfl | rfl | rfl | rfl
                    · obtain rfl := Option.some.inj ho
                      simp only [fillS, List.getD_cons_succ, List.getD_cons_zero, Act.put, List.setIfInBounds_toArray, List.set_cons_zero, List.set_cons_succ]
                      exact ⟨.slice (some ⟨b2, 0, none⟩) n n, .inl ⟨rfl, fun w => (by first | rfl | (go_simp; done) | (go_simp; exact IntWalk.i64_in _ (by omega)))⟩, rfl, (fun h => absurd h (by decide))⟩
                    · obtain rfl := Option.some.inj ho
                      simp only [fillS, List.getD_cons_succ, List.getD_cons_zero, Act.put, List.setIfInBounds_toArray, List.set_cons_zero, List.set_cons_succ]
                      exact ⟨.int .i64 e, .inl ⟨rfl, fun w => (by first | rfl | (go_simp; done) | (go_simp; exact IntWalk.i64_in _ (by omega)))⟩, rfl, (fun h => absurd h (by decide))⟩
                    · obtain rfl := Option.some.inj ho
                      simp only [fillS, List.getD_cons_succ, List.getD_cons_zero, Act.put, List.setIfInBounds_toArray, List.set_cons_zero, List.set_cons_succ]
                      exact ⟨.int .i64 (K), .inl ⟨rfl, fun w => (by first | rfl | (go_simp; done) | (go_simp; exact IntWalk.i64_in _ (by omega)))⟩, rfl, (fun h => absurd h (by decide))⟩
                    · obtain rfl := Option.some.inj ho
                      simp only [fillS, List.getD_cons_succ, List.getD_cons_zero, Act.put, List.setIfInBounds_toArray, List.set_cons_zero, List.set_cons_succ]
                      have h32 : vals 32 = .int .i64 (H1) := hf.1
                      rw [h32]
                      clear h32
                      have h33 : vals 33 = .int .i64 (K) := hf.2.1
                      rw [h33]
                      clear h33
                      exact ⟨.int .i64 (H1 - K), .inl ⟨rfl, fun w => (by first | rfl | (go_simp; done) | (go_simp; exact IntWalk.i64_in _ (by omega)))⟩, rfl, (fun h => absurd h (by decide))⟩
                    · obtain rfl := Option.some.inj ho
                      simp only [fillS, List.getD_cons_succ, List.getD_cons_zero, Act.put, List.setIfInBounds_toArray, List.set_cons_zero, List.set_cons_succ]
                      have h40 : vals 40 = .int .i64 (fl) := hf.1
                      rw [h40]
                      clear h40
                      exact ⟨.int .i64 (2 * fl), .inl ⟨rfl, fun w => (by first | rfl | (go_simp; done) | (go_simp; exact IntWalk.i64_in _ (by omega)))⟩, rfl, (fun h => absurd h (by decide))⟩
                    · obtain rfl := Option.some.inj ho
                      simp only [fillS, List.getD_cons_succ, List.getD_cons_zero, Act.put, List.setIfInBounds_toArray, List.set_cons_zero, List.set_cons_succ]
                      have h34 : vals 34 = .int .i64 (H1 - K) := hf.1
                      rw [h34]
                      clear h34
                      have h41 : vals 41 = .int .i64 (2 * fl) := hf.2.1
                      rw [h41]
                      clear h41
                      exact ⟨.int .i64 (H1 - K + 2 * fl), .inl ⟨rfl, fun w => (by first | rfl | (go_simp; done) | (go_simp; exact IntWalk.i64_in _ (by omega)))⟩, rfl, (fun h => absurd h (by decide))⟩
                    · obtain rfl := Option.some.inj ho
                      simp only [fillS, List.getD_cons_succ, List.getD_cons_zero, Act.put, List.setIfInBounds_toArray, List.set_cons_zero, List.set_cons_succ]
                      have h27 : vals 27 = .int .i64 (bh) := hf.1
                      rw [h27]
                      clear h27
                      have h42 : vals 42 = .int .i64 (H1 - K + 2 * fl) := hf.2.1
                      rw [h42]
                      clear h42
                      exact ⟨.int .i64 (M2), .inl ⟨rfl, fun w => (by first | rfl | (go_simp; done) | (go_simp; exact IntWalk.i64_in _ (by omega)))⟩, rfl, (fun h => absurd h (by decide))⟩
                  intro vals x hb hf hp
                  have hrange : List.range 44 = [0, 1, 2, 3, 4, 5, 6, 7, 8, 9, 10, 11, 12, 13, 14, 15, 16, 17, 18, 19, 20, 21, 22, 23, 24, 25, 26, 27, 28, 29, 30, 31, 32, 33, 34, 35, 36, 37, 38, 39, 40, 41, 42, 43] := by rfl
                  rw [hrange]
                  simp only [fillS, List.getD_cons_succ, List.getD_cons_zero, Act.put, List.setIfInBounds_toArray, List.set_cons_zero, List.set_cons_succ]
                  have h0 : vals 0 = .slice (some ⟨b1, 0, none⟩) n n := hf 0 (by omega)
                  have h1 : vals 1 = .int .i64 e := hf 1 (by omega)
                  have h2 : vals 2 = .slice (some ⟨b2, 0, none⟩) n n := hf 2 (by omega)
                  have h3 : vals 3 = .int .i64 e := hf 3 (by omega)
                  have h4 : vals 4 = .slice (some ⟨b1, 0, none⟩) n n := hf 4 (by omega)
                  have h5 : vals 5 = .int .i64 e := hf 5 (by omega)
                  have h6 : vals 6 = .pointer (some ⟨b1, e, none⟩) := hf 6 (by omega)
                  have h7 : vals 7 = .int .i64 (bl) := hf 7 (by omega)
                  have h8 : vals 8 = .slice (some ⟨b1, 0, none⟩) n n := hf 8 (by omega)
                  have h9 : vals 9 = .int .i64 e := hf 9 (by omega)
                  have h10 : vals 10 = .int .i64 ((e : Int) + 1) := hf 10 (by omega)
                  have h11 : vals 11 = .pointer (some ⟨b1, e + 1, none⟩) := hf 11 (by omega)
                  have h12 : vals 12 = .int .i64 (L1) := hf 12 (by omega)
                  have h13 : vals 13 = .int .i64 (K) := hf 13 (by omega)
                  have h14 : vals 14 = .int .i64 (L1 - K) := hf 14 (by omega)
                  have h15 : vals 15 = .slice (some ⟨bb, off, none⟩) l.length lc := hf 15 (by omega)
                  have h16 : vals 16 = .int .i64 e := hf 16 (by omega)
                  have h17 : vals 17 = .int .i64 ((e : Int) + 1) := hf 17 (by omega)
                  have h18 : vals 18 = .pointer (some ⟨bb, off + (e + 1) * 3, none⟩) := hf 18 (by omega)
                  have h19 : vals 19 = .pointer (some ⟨bb, off + (e + 1) * 3, none⟩) := hf 19 (by omega)
                  have h20 : vals 20 = .int .i64 (fl) := hf 20 (by omega)
                  have h21 : vals 21 = .int .i64 (2 * fl) := hf 21 (by omega)
                  have h22 : vals 22 = .int .i64 (L1 - K - 2 * fl) := hf 22 (by omega)
                  have h23 : vals 23 = .int .i64 (M1) := hf 23 (by omega)
                  have h24 : vals 24 = .slice (some ⟨b2, 0, none⟩) n n := hf 24 (by omega)
                  have h25 : vals 25 = .int .i64 e := hf 25 (by omega)
                  have h26 : vals 26 = .pointer (some ⟨b2, e, none⟩) := hf 26 (by omega)
                  have h27 : vals 27 = .int .i64 (bh) := hf 27 (by omega)
                  have h28 : vals 28 = .slice (some ⟨b2, 0, none⟩) n n := hf 28 (by omega)
                  have h29 : vals 29 = .int .i64 e := hf 29 (by omega)
                  have h30 : vals 30 = .int .i64 ((e : Int) + 1) := hf 30 (by omega)
                  have h31 : vals 31 = .pointer (some ⟨b2, e + 1, none⟩) := hf 31 (by omega)
                  have h32 : vals 32 = .int .i64 (H1) := hf 32 (by omega)
                  have h33 : vals 33 = .int .i64 (K) := hf 33 (by omega)
                  have h34 : vals 34 = .int .i64 (H1 - K) := hf 34 (by omega)
                  have h35 : vals 35 = .slice (some ⟨bb, off, none⟩) l.length lc := hf 35 (by omega)
                  have h36 : vals 36 = .int .i64 e := hf 36 (by omega)
                  have h37 : vals 37 = .int .i64 ((e : Int) + 1) := hf 37 (by omega)
                  have h38 : vals 38 = .pointer (some ⟨bb, off + (e + 1) * 3, none⟩) := hf 38 (by omega)
                  have h39 : vals 39 = .pointer (some ⟨bb, off + (e + 1) * 3, none⟩) := hf 39 (by omega)
                  have h40 : vals 40 = .int .i64 (fl) := hf 40 (by omega)
                  have h41 : vals 41 = .int .i64 (2 * fl) := hf 41 (by omega)
                  have h42 : vals 42 = .int .i64 (H1 - K + 2 * fl) := hf 42 (by omega)
                  have h43 : vals 43 = .int .i64 (M2) := hf 43 (by omega)
                  rw [h0, h1, h2, h3, h4, h5, h6, h7, h8, h9, h10, h11, h12, h13, h14, h15, h16, h17, h18, h19, h20, h21, h22, h23, h24, h25, h26, h27, h28, h29, h30, h31, h32, h33, h34, h35, h36, h37, h38, h39, h40, h41, h42, h43]
                  clear h0 h1 h2 h3 h4 h5 h6 h7 h8 h9 h10 h11 h12 h13 h14 h15 h16 h17 h18 h19 h20 h21 h22 h23 h24 h25 h26 h27 h28 h29 h30 h31 h32 h33 h34 h35 h36 h37 h38 h39 h40 h41 h42 h43 hf hp hrange
                  simp only [List.drop_succ_cons, List.drop_zero]
                  have hGx := hG.out.mono hb
                  have hfin := fun a b => hGx.two hbs.out.1 hbs.out.2.1 hbs.out.2.2 e a b
                  simp only [List.set_set] at hfin
                  replace hfin := Lib.hid hfin
                  clear m1 m2 m3 m4 x3 f1 f2 z1 z2 zb
                  obtain ⟨m1, f1⟩ := hGx.lo.cell (k := e) (by rw [List.length_set, loL_len]; exact hen)
                  obtain ⟨m2, f2⟩ := hGx.hi.cell (k := e) (by rw [List.length_set, hiL_len]; exact hen)
                  have z1 := hGx.lo.lt
                  have z2 := hGx.hi.lt
                  clear hGx
                  go_wp2_with fail
                  refine OnlyN.mk ?_
                  go_wp2_with fail
                  exact ⟨⟨e, by omega, by go_num, Lib.hid (hend.out _ (hfin.out _ _))⟩, by simp [intOf]⟩
                · have d1 : decide ((e : Int) < (n : Int) - 1) = false := decide_eq_false (by omega)
                  have d2 : ¬ (e : Int) < (n : Int) - 1 := by omega
                  obtain rfl : e = n - 1 := by omega
                  have hlo := hLo_last (w := l) (size := size) (since := since) (n := n)
                  have hhi := hHi_last (w := l) (size := size) (since := since) (n := n)
                  have hfin := hG.out
                  rw [← hlo, ← hhi, loL_set, hiL_set] at hfin
                  replace hfin := Lib.hid hfin
                  clear hlo hhi hG hbd
                  go_wp2_with fail
                  exact ⟨⟨n - 1, by omega, by go_num, hfin⟩, by simp [intOf]⟩
  · clear hF
    go_wp2_with (go_at_call 18; (with_reducible refine Calls.mono (kK.out _) ?_); rintro e w9 ⟨rfl, hB9⟩)
    go_ret
    exact ⟨rfl, hB9⟩
end Go.Proofs.Ytddmfkhmhdddeaa
