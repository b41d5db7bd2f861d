/- Plain: wider seasons. -/
import Derived.Test.YtacajmpggjgaiaaWor
set_option linter.unusedVariables false
set_option linter.unusedSimpArgs false
namespace Go.Proofs.Ytacajmpggjgaiaa
open Go.Sd

/-- A row, and a day, that are wider; a season that is. -/
def widRow (byN : Int) (r : Sea.Row) : Sea.Row := ⟨r.fill, min 100 (r.inn + byN), min 100 (r.out + byN)⟩
def widDay (space byN less : Int) (d : Sea.Day) : Sea.Day := ⟨d.buy, d.sell, min 100 (d.offer + byN), min 100 (d.take + byN), max 0 (d.glo - byN), min space (d.ghi + byN), d.nlo, max d.nlo (d.nhi - less)⟩
def wid (s : Sea.S) (byN less : Int) : Sea.S := ⟨s.space, s.start, s.elo, s.ehi, s.rows.map (widRow byN), s.days.map (widDay s.space byN less)⟩

theorem wid_row {s : Sea.S} {byN less : Int} {k : Nat} (h : k < s.rows.length) : Sea.rowAt (wid s byN less).rows k = widRow byN (Sea.rowAt s.rows k) := by
  simp [Sea.rowAt, wid, h]
theorem wid_day {s : Sea.S} {byN less : Int} {k : Nat} (h : k < s.days.length) : Sea.dayAt (wid s byN less).days k = widDay s.space byN less (Sea.dayAt s.days k) := by
  simp [Sea.dayAt, wid, h]
theorem wid_nrows (s : Sea.S) (byN less : Int) : (wid s byN less).rows.length = s.rows.length := by simp [wid]
theorem wid_ndays (s : Sea.S) (byN less : Int) : (wid s byN less).days.length = s.days.length := by simp [wid]

theorem rowB_iff {rows : List Sea.Row} {i : Nat} : Sea.rowB rows i = true ↔ (0 ≤ (Sea.rowAt rows i).fill ∧ (Sea.rowAt rows i).fill ≤ 100) ∧ (0 ≤ (Sea.rowAt rows i).inn ∧ (Sea.rowAt rows i).inn ≤ 100) ∧ (0 ≤ (Sea.rowAt rows i).out ∧ (Sea.rowAt rows i).out ≤ 100) ∧
    (i = 0 → (Sea.rowAt rows i).fill = 0) ∧ (0 < i → (Sea.rowAt rows (i - 1)).fill < (Sea.rowAt rows i).fill) := by
  unfold Sea.rowB
  simp only [Bool.and_eq_true, Sea.inB_iff, Bool.not_eq_true', Bool.and_eq_false_iff, decide_eq_false_iff_not]
  constructor
  · rintro ⟨⟨⟨⟨h1, h2⟩, h3⟩, h4⟩, h5⟩
    refine ⟨h1, h2, h3, fun e => ?_, fun e => ?_⟩
    · rcases h4 with h | h
      · exact absurd e h
      · omega
    · rcases h5 with h | h
      · exact absurd e h
      · omega
  · rintro ⟨h1, h2, h3, h4, h5⟩
    refine ⟨⟨⟨⟨h1, h2⟩, h3⟩, ?_⟩, ?_⟩
    · by_cases e : i = 0
      · exact .inr (by have := h4 e; omega)
      · exact .inl e
    · by_cases e : 0 < i
      · exact .inr (by have := h5 e; omega)
      · exact .inl e

theorem wid_valid {s : Sea.S} (hv : Sea.validB s = true) {byN less : Int} (hb : 0 ≤ byN) (hl : 0 ≤ less) : Sea.validB (wid s byN less) = true := by
  have ok := Sea.ok_of_valid hv
  simp only [Sea.validB, Sea.headB, Sea.rowsB, Sea.daysB, Bool.and_eq_true, List.all_eq_true, List.mem_range] at hv ⊢
  obtain ⟨⟨hh, hr⟩, hd⟩ := hv
  rw [wid_nrows, wid_ndays]
  refine ⟨⟨hh, fun k hk => ?_⟩, fun k hk => ?_⟩
  · have h := rowB_iff.1 (hr k hk)
    rw [rowB_iff, wid_row hk]
    have h0 := ok.rows k hk
    refine ⟨h.1, ?_, ?_, h.2.2.2.1, fun e => ?_⟩
    · simp only [widRow]; omega
    · simp only [widRow]; omega
    · rw [wid_row (by omega)]; exact h.2.2.2.2 e
  · have h := hd k hk
    rw [wid_day hk]
    have h0 := ok.days k hk
    have hsp := ok.space
    simp only [Sea.dayB, Bool.and_eq_true, Sea.inB_iff, Sea.spanB_iff] at h ⊢
    show _
    simp only [widDay, wid]
    omega

theorem wid_lim {s : Sea.S} {byN less : Int} (hb : 0 ≤ byN) (hrows : ∀ k, k < s.rows.length → (Sea.rowAt s.rows k).inn ≤ 100 ∧ (Sea.rowAt s.rows k).out ≤ 100) (fill : Int) : ∀ k, k ≤ s.rows.length → 0 < s.rows.length →
    (Sea.limTo s.rows fill k).inn ≤ (Sea.limTo (wid s byN less).rows fill k).inn ∧ (Sea.limTo s.rows fill k).out ≤ (Sea.limTo (wid s byN less).rows fill k).out
  | 0, _, h0 => by
    have := hrows 0 h0
    simp only [Sea.limTo]
    rw [wid_row h0]
    simp only [widRow]
    omega
  | k + 1, hk, h0 => by
    have ih := wid_lim (less := less) hb hrows fill k (by omega) h0
    have := hrows k (by omega)
    have e : (widRow byN (Sea.rowAt s.rows k)).fill = (Sea.rowAt s.rows k).fill := rfl
    simp only [Sea.limTo]
    rw [wid_row (by omega), e]
    split
    · simp only [widRow]; omega
    · exact ih

/-- An order that is possible is so in a wider season. -/
theorem wid_rule {s : Sea.S} (ok : Sea.Ok s) {byN less : Int} (hb : 0 ≤ byN) {d : Nat} (hd : d < s.days.length) {f nom x : Int} (h : s.rule d f nom x = 1) : (wid s byN less).rule d f nom x = 1 := by
  have hl := wid_lim (less := less) hb (fun k hk => ⟨(ok.rows k hk).2.2.2.1, (ok.rows k hk).2.2.2.2.2⟩) f s.rows.length (Nat.le_refl _) (by have := ok.nrows; omega)
  have h1 : (s.lim f).inn ≤ ((wid s byN less).lim f).inn ∧ (s.lim f).out ≤ ((wid s byN less).lim f).out := by
    unfold Sea.S.lim; rw [wid_nrows]; exact hl
  have hdd := ok.days d hd
  have hg : (widDay s.space byN less (Sea.dayAt s.days d)).glo ≤ (Sea.dayAt s.days d).glo ∧ (Sea.dayAt s.days d).ghi ≤ (widDay s.space byN less (Sea.dayAt s.days d)).ghi ∧ (Sea.dayAt s.days d).offer ≤ (widDay s.space byN less (Sea.dayAt s.days d)).offer ∧ (Sea.dayAt s.days d).take ≤ (widDay s.space byN less (Sea.dayAt s.days d)).take := by
    simp only [widDay]; omega
  unfold Sea.S.rule at h ⊢
  rw [wid_day hd, wid_ndays]
  have he : (wid s byN less).elo = s.elo ∧ (wid s byN less).ehi = s.ehi := ⟨rfl, rfl⟩
  rw [he.1, he.2]
  generalize widDay s.space byN less (Sea.dayAt s.days d) = wd at *
  generalize (wid s byN less).lim f = wl at *
  generalize s.lim f = sl at *
  generalize Sea.dayAt s.days d = sd at *
  split at h
  · omega
  rw [if_neg (by omega)]
  split at h
  · omega
  rw [if_neg (by omega)]
  split at h
  · omega
  rw [if_neg (by omega)]
  split at h
  · omega
  rw [if_neg (by omega)]
  split at h
  · omega
  rename_i hin
  have hin2 : Sea.inB (f + nom + x) sd.glo sd.ghi = true := by simpa using hin
  have hin3 : Sea.inB (f + nom + x) wd.glo wd.ghi = true := Sea.inB_iff.2 (by have := Sea.inB_iff.1 hin2; omega)
  rw [if_neg (by rw [hin3]; simp)]
  exact h

theorem wid_cost {s : Sea.S} {byN less : Int} {d : Nat} (hd : d < s.days.length) (x : Int) : (wid s byN less).cost d x = s.cost d x := by
  unfold Sea.S.cost
  rw [wid_day hd]
  rfl

/-- Wider seasons never cost more at the worst. -/
theorem wid_le {s : Sea.S} (hv : Sea.validB s = true) {byN less : Int} (hb : 0 ≤ byN) (hl : 0 ≤ less) : ∀ j, j ≤ s.days.length → ∀ f : Int, 0 ≤ f ∧ f ≤ s.space → Sea.at0 (wrow (wid s byN less) j) f.toNat ≤ Sea.at0 (wrow s j) f.toNat
  | 0, _, f, hf => Int.le_refl _
  | j + 1, hj, f, hf => by
    have ok := Sea.ok_of_valid hv
    have okx := Sea.ok_of_valid (wid_valid hv hb hl)
    have ih := wid_le hv hb hl j (by omega)
    obtain ⟨d, hd⟩ : ∃ d, d + 1 + j = s.days.length := ⟨s.days.length - 1 - j, by omega⟩
    have hn := wid_ndays s byN less
    rw [wrow_step ok hd hf, wrow_step okx (by rw [hn]; exact hd) hf, worst_val okx (by omega) (by omega)]
    have hin := worst_in okx (d := d) (by omega) f (wrow (wid s byN less) j)
    generalize (worstOf (wid s byN less) d f (wrow (wid s byN less) j)).1 = nm at *
    rw [wid_day (by omega)] at hin
    have hdd := ok.days d (by omega)
    have hin2 : (Sea.dayAt s.days d).nlo ≤ nm ∧ nm ≤ (Sea.dayAt s.days d).nhi := by
      simp only [widDay] at hin; omega
    refine Int.le_trans ?_ (worst_ge hin2)
    by_cases hlt : (s.least d f nm (wrow s j)).1 < Sea.never
    · obtain ⟨k1, k2, k3, k4, k5⟩ := least_hit ok (by omega) hlt
      have hle := ih _ k3
      have := least_le (s := wid s byN less) (next := wrow (wid s byN less) j) (wid_rule (less := less) ok hb (by omega) k1) (by omega)
      rw [wid_cost (by omega)] at this
      omega
    · have hbx := (worst_ge (s := wid s byN less) (d := d) (f := f) (next := wrow (wid s byN less) j) (nom := nm) (by rw [wid_day (by omega)]; exact hin))
      have hub := (wrow_bd okx (j + 1) (by omega) f.toNat).2
      rw [wrow_step okx (by rw [hn]; exact hd) hf] at hub
      omega

/-- Who knows all nominations pays no more than the worst cost. -/
theorem best_worst {s : Sea.S} (ok : Sea.Ok s) {noms : List Int} (hno : s.nomsB noms = true) (h : worstCost s < Sea.never) : bestCost s noms ≤ worstCost s ∧ bestCost s noms < Sea.never := by
  obtain ⟨hp, -, -⟩ := serve_play ok hno h
  obtain ⟨-, -, -, -, h5, -, h7, -⟩ := serve_inv ok hno h s.days.length (Nat.le_refl _)
  have h2 := (serve_play ok hno h).2.2
  have := best_le ok hp h5
  rw [h7] at this
  omega

theorem wid_safe {s : Sea.S} (hv : Sea.validB s = true) {byN less : Int} (hb : 0 ≤ byN) (hl : 0 ≤ less) {t : Nat} (ht : t ≤ s.days.length) {f : Int} (hf : 0 ≤ f ∧ f ≤ s.space) (h : Sea.isSafe (Sea.spansAt (safeRows s) t) f = true) :
    Sea.isSafe (Sea.spansAt (safeRows (wid s byN less)) t) f = true := by
  have ok := Sea.ok_of_valid hv
  have okx := Sea.ok_of_valid (wid_valid hv hb hl)
  have hn := wid_ndays s byN less
  rw [safe_iff ok ht hf, decide_eq_true_eq] at h
  rw [safe_iff okx (by omega) (f := f) hf, decide_eq_true_eq, hn]
  have := wid_le hv hb hl (s.days.length - t) (by omega) f hf
  omega
end Go.Proofs.Ytacajmpggjgaiaa
