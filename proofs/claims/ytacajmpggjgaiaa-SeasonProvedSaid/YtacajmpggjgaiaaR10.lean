/- Walks of the reference: whether values are fair. -/
import Derived.Test.YtacajmpggjgaiaaR9
set_option linter.unusedVariables false
set_option linter.unusedSimpArgs false
namespace Go.Proofs.Ytacajmpggjgaiaa
open Go.RowKit Go.Sd

/-- Whether values are fair for nominations. -/
def fairB (s : Sea.S) (noms : List Int) (l : List (List Int)) : Bool :=
  (List.range (s.ehi - s.elo + 1).toNat).all (fun i => decide (Sea.at0 (Sea.lstAt l s.days.length) (s.elo + i).toNat ≤ 0)) &&
  (List.range s.days.length).all fun t => (List.range (s.space + 1).toNat).all fun f => decide (Sea.at0 (Sea.lstAt l t) f ≤ (s.least t f (Sea.at0 noms t) (Sea.lstAt l (t + 1))).1)

theorem vals_facts {s : Sea.S} {l : List (List Int)} (h : valsB s l = true) : l.length = s.days.length + 1 ∧ ∀ t, t ≤ s.days.length → ((Sea.lstAt l t).length : Int) = s.space + 1 ∧
    ∀ k, k < (Sea.lstAt l t).length → -1000000000000000 ≤ Sea.at0 (Sea.lstAt l t) k ∧ Sea.at0 (Sea.lstAt l t) k ≤ 1000000000000000 := by
  unfold valsB at h
  rw [Bool.and_eq_true, decide_eq_true_eq] at h
  refine ⟨h.2, fun t ht => ?_⟩
  have := List.all_eq_true.1 h.1 t (by rw [List.mem_range, h.2]; omega)
  unfold rowOkB at this
  rw [Bool.and_eq_true, decide_eq_true_eq] at this
  exact ⟨this.1, fun k hk => Sea.inB_iff.1 (List.all_eq_true.1 this.2 k (List.mem_range.2 hk))⟩

/-- The lists in memory, row by row. -/
def RowsIn (W : World) (b off : Nat) (s : Sea.S) (l : List (List Int)) : Prop :=
  ∀ t, t ≤ s.days.length → ∃ eb eo ec, W.cell? ⟨b, off + t, none⟩ = some (.slice (some ⟨eb, eo, none⟩) (s.space + 1).toNat ec) ∧ eb < W.heap.size ∧ (∀ k, k < (s.space + 1).toNat → W.cell? ⟨eb, eo + k, none⟩ = some (.int .i64 (Sea.at0 (Sea.lstAt l t) k))) ∧
    IntsAt W (.slice (some ⟨eb, eo, none⟩) (s.space + 1).toNat ec) (Sea.lstAt l t)
theorem rows_in {s : Sea.S} (ok : Sea.Ok s) {l : List (List Int)} (h : valsB s l = true) {W : World} {lv : Value} (hl : ListsAt W lv l) : ∃ b off cap, lv = .slice (some ⟨b, off, none⟩) (s.days.length + 1) cap ∧ b < W.heap.size ∧ RowsIn W b off s l := by
  obtain ⟨hlen, hf⟩ := vals_facts h
  have hsp := ok.space
  obtain ⟨b, off, cap, he, hlt, -, hk⟩ := lst_cell hl (by omega)
  rw [hlen] at he
  refine ⟨b, off, cap, he, hlt, fun t ht => ?_⟩
  obtain ⟨ev, h1, h2⟩ := hk t (by omega)
  have hrl := (hf t ht).1
  obtain ⟨eb, eo, ec, rfl, h3, -, h4⟩ := int_cell h2 (by omega)
  have hrl2 : (Sea.lstAt l t).length = (s.space + 1).toNat := by omega
  rw [hrl2] at h1 h2
  exact ⟨eb, eo, ec, h1, h3, fun k hk => h4 k (by omega), h2⟩
theorem RowsIn.mono {W W' : World} {b off : Nat} {s : Sea.S} {l : List (List Int)} (h : RowsIn W b off s l) (hb : Below W.heap.size W W') : RowsIn W' b off s l := fun t ht => by
  obtain ⟨eb, eo, ec, h1, h2, h3, h4⟩ := h t ht
  exact ⟨eb, eo, ec, kept_cell hb h1, Nat.lt_of_lt_of_le h2 hb.size, fun k hk => kept_cell hb (h3 k hk), h4.mono hb⟩

theorem fair_no1 {s : Sea.S} {noms : List Int} {l : List (List Int)} {i : Nat} (hi : i < (s.ehi - s.elo + 1).toNat) (h : ¬ Sea.at0 (Sea.lstAt l s.days.length) (s.elo + i).toNat ≤ 0) : fairB s noms l = false := by
  unfold fairB
  rw [all_range_not hi (decide_eq_false h), Bool.false_and]
theorem fair_no2 {s : Sea.S} {noms : List Int} {l : List (List Int)} {t f : Nat} (ht : t < s.days.length) (hf : f < (s.space + 1).toNat) (h : ¬ Sea.at0 (Sea.lstAt l t) f ≤ (s.least t f (Sea.at0 noms t) (Sea.lstAt l (t + 1))).1) : fairB s noms l = false := by
  unfold fairB
  rw [all_range_not ht (all_range_not hf (decide_eq_false h)), Bool.and_false]
theorem fair_yes {s : Sea.S} {noms : List Int} {l : List (List Int)} (h1 : ∀ i, i < (s.ehi - s.elo + 1).toNat → Sea.at0 (Sea.lstAt l s.days.length) (s.elo + i).toNat ≤ 0)
    (h2 : ∀ t, t < s.days.length → ∀ f : Nat, f < (s.space + 1).toNat → Sea.at0 (Sea.lstAt l t) f ≤ (s.least t f (Sea.at0 noms t) (Sea.lstAt l (t + 1))).1) : fairB s noms l = true := by
  unfold fairB
  rw [all_range fun i hi => decide_eq_true (h1 i hi), all_range fun t ht => all_range fun f hf => decide_eq_true (h2 t ht f hf)]
  rfl

set_option maxRecDepth 100000 in
set_option maxHeartbeats 8000000 in
theorem refFair (sv nv lv : Value) (s : Sea.S) (noms : List Int) (l : List (List Int)) (w : World) (hs : SeasonAt w sv s) (hn : IntsAt w nv noms) (hl : ListsAt w lv l) (ok : Sea.Ok s) (hno : s.nomsB noms = true) (hva : valsB s l = true) :
    Calls Try.prog 44 #[sv, nv, lv] w (BoolPost (fairB s noms l) w) := by
  have hs' := hs
  obtain ⟨rv, dv, rfl, -, ⟨da, dcap, rfl, hdm, -⟩⟩ := hs'
  unfold maxLen at hdm
  have hsp := ok.space
  have hnd := ok.ndays
  have hfin := ok.fin
  obtain ⟨W, hW⟩ : ∃ W, w.alloc (sBox s rv (.slice da s.days.length dcap)) = W := ⟨_, rfl⟩
  obtain ⟨hsz, hBw, q0, q1, q2, q3, q4, q5⟩ := box_season hW
  obtain ⟨b, off, cap, rfl, hbl, hrows⟩ := rows_in ok hva (hl.mono hBw)
  obtain ⟨hnl, hnb⟩ := noms_bd ok hno
  obtain ⟨nb, noff, ncap, rfl, hnlt, hnm, hnk⟩ := int_cell (hn.mono hBw) (by omega)
  have hvf := (vals_facts hva).2
  have hone : Hid (∀ (t f : Nat) (nv : Value) X, Below w.heap.size w X → t < s.days.length → (f : Int) ≤ s.space → IntsAt X nv (Sea.lstAt l (t + 1)) → Calls Try.prog 62 #[.agg #[.int .i64 s.space, .int .i64 s.start, .int .i64 s.elo, .int .i64 s.ehi, rv, .slice da s.days.length dcap], .int .i64 t, .int .i64 f, .int .i64 (Sea.at0 noms t), nv] X fun e w' => e = .returned (.tuple #[.int .i64 (s.least t f (Sea.at0 noms t) (Sea.lstAt l (t + 1))).1, .int .i64 (s.least t f (Sea.at0 noms t) (Sea.lstAt l (t + 1))).2]) ∧ Below X.heap.size X w') := by
    intro t f nv X hX ht hf hx
    have h := refLeast _ nv s (Sea.lstAt l (t + 1)) t f (Sea.at0 noms t) X (hs.mono hX) ok (by omega) (by omega) ⟨by omega, hf⟩ (hnb t ht) hx (hvf (t + 1) (by omega)).1 (hvf (t + 1) (by omega)).2
    rw [Int.toNat_natCast] at h
    exact h
  have hg := grow_cell W
  replace hvf := Lib.hid hvf
  replace hnk := Lib.hid hnk
  replace hrows := Lib.hid hrows
  replace hnl := Lib.hid hnl
  replace hva := Lib.hid hva
  replace hno := Lib.hid hno
  clear hs hn hl hnb
  go_enter Try.func44, Try.ntmps44
  go_wp2_with (fail)
  go_loopw [7] (fun i wr => ∃ k : Nat, s.elo + k ≤ s.ehi + 1 ∧ i = .int .i64 (s.elo + k) ∧ Hid (∀ j, j < k → Sea.at0 (Sea.lstAt l s.days.length) (s.elo + j).toNat ≤ 0) ∧ ∃ g : Grow W, wr = g.x) (fun i _ => (s.ehi + 1 - intOf i).toNat)
  case atStart => exact ⟨0, by omega, by simp, (fun j h => by omega : ∀ j : Nat, j < 0 → Sea.at0 (Sea.lstAt l s.days.length) (s.elo + j).toNat ≤ 0), Grow.self W, rfl⟩
  case round =>
    obtain ⟨k, hk, rfl, hH, g, rfl⟩ := hrel
    have m5 := g.cell q5
    have hgs := g.size
    by_cases hkl : s.elo + k ≤ s.ehi
    · obtain ⟨eb, eo, ec, h1, h2, h3, -⟩ := hrows.out s.days.length (Nat.le_refl _)
      have h4 := h3 (s.elo + k).toNat (by omega)
      have hnn : (0 : Int) ≤ (s.days.length : Int) ∧ (s.days.length : Int) < (s.days.length : Int) + 1 := by omega
      have hki : (0 : Int) ≤ s.elo + k ∧ s.elo + k < ((s.space + 1).toNat : Int) := by omega
      by_cases hp : 0 < Sea.at0 (Sea.lstAt l s.days.length) (s.elo + k).toNat
      · have hf := Lib.hid (fair_no1 (noms := noms) (i := k) (by omega) (Int.not_le.2 hp))
        clear h3
        generalize Sea.at0 (Sea.lstAt l s.days.length) (s.elo + k).toNat = z at *
        go_wp2_with (fail)
        go_ret
        exact BoolPost.of hf.out (hBw.trans (g.h.mono (Nat.le_of_lt hsz)))
      · have hH2 : Hid (∀ j, j < k + 1 → Sea.at0 (Sea.lstAt l s.days.length) (s.elo + j).toNat ≤ 0) := upto_succ hH.out (by omega)
        clear h3
        generalize Sea.at0 (Sea.lstAt l s.days.length) (s.elo + k).toNat = z at *
        go_wp2_with (fail)
        exact ⟨⟨k + 1, by omega, by go_num, hH2, g, rfl⟩, by simp [intOf]; omega⟩
    · have hA : Hid (∀ i, i < (s.ehi - s.elo + 1).toNat → Sea.at0 (Sea.lstAt l s.days.length) (s.elo + i).toNat ≤ 0) := fun i hi => hH.out i (by omega)
      clear hH
      go_wp2_with (fail)
      go_loopw [8] (fun i wr => ∃ t : Nat, t ≤ s.days.length ∧ i = .int .i64 t ∧ Hid (∀ j, j < t → ∀ f : Nat, f < (s.space + 1).toNat → Sea.at0 (Sea.lstAt l j) f ≤ (s.least j f (Sea.at0 noms j) (Sea.lstAt l (j + 1))).1) ∧ ∃ g : Grow W, wr = g.x) (fun i _ => s.days.length - (intOf i).toNat)
      case atStart => exact ⟨0, by omega, rfl, (fun j h => by omega : ∀ j, j < 0 → ∀ f : Nat, f < (s.space + 1).toNat → Sea.at0 (Sea.lstAt l j) f ≤ (s.least j f (Sea.at0 noms j) (Sea.lstAt l (j + 1))).1), g, rfl⟩
      case round =>
        clear m5 hgs g
        obtain ⟨t, ht, rfl, hH, g, rfl⟩ := hrel
        have m5 := g.cell q5
        by_cases htl : t < s.days.length
        · obtain ⟨eb, eo, ec, h1, h2, h3, -⟩ := hrows.out t (by omega)
          obtain ⟨eb2, eo2, ec2, h5, h6, -, h7⟩ := hrows.out (t + 1) (by omega)
          have e0 := hnk.out t (by rw [hnl.out]; exact htl)
          have hti : (0 : Int) ≤ (t : Int) ∧ (t : Int) < noms.length ∧ (t : Int) < (s.days.length : Int) + 1 ∧ (0 : Int) ≤ (t : Int) + 1 ∧ (t : Int) + 1 < (s.days.length : Int) + 1 := by rw [hnl.out]; omega
          have hvt := fun f X hX hf hx => hone.out t f (.slice (some ⟨eb2, eo2, none⟩) (s.space + 1).toNat ec2) X hX htl hf hx
          replace hvt := Lib.hid hvt
          replace h3 := Lib.hid h3
          replace h7 := Lib.hid h7
          go_wp2_with (fail)
          clear m5
          go_loopw [9] (fun i wr => ∃ f : Nat, (f : Int) ≤ s.space + 1 ∧ i = .int .i64 f ∧ Hid (∀ j : Nat, j < f → Sea.at0 (Sea.lstAt l t) j ≤ (s.least t j (Sea.at0 noms t) (Sea.lstAt l (t + 1))).1) ∧ Below W.heap.size W wr) (fun i _ => (s.space + 1 - intOf i).toNat)
          case atStart => exact ⟨0, by omega, rfl, (fun j h => by omega : ∀ j : Nat, j < 0 → Sea.at0 (Sea.lstAt l t) j ≤ (s.least t j (Sea.at0 noms t) (Sea.lstAt l (t + 1))).1), g.h⟩
          case round =>
            clear g
            obtain ⟨f, hf, rfl, hF, hB⟩ := hrel
            have m0 := kept_cell hB q0
            have m1 := kept_cell hB q1
            have m2 := kept_cell hB q2
            have m3 := kept_cell hB q3
            have m4 := kept_cell hB q4
            have m5 := kept_cell hB q5
            by_cases hfl : (f : Int) ≤ s.space
            · have y1 := kept_cell hB h1
              have y2 := kept_cell hB (h3.out f (by omega))
              have y5 := kept_cell hB h5
              have y0 := kept_cell hB e0
              have hfi : (0 : Int) ≤ (f : Int) ∧ (f : Int) < ((s.space + 1).toNat : Int) := by omega
              have hbx := World.block_lt_of_cell? _ ⟨_, _, none⟩ m0
              have hbb := World.block_lt_of_cell? _ ⟨_, _, none⟩ y5
              have hbn := World.block_lt_of_cell? _ ⟨_, _, none⟩ y0
              have hbe := World.block_lt_of_cell? _ ⟨_, _, none⟩ y2
              simp only at hbx hbb hbn hbe
              have hwwr : Below w.heap.size w wr := hBw.trans (hB.mono (Nat.le_of_lt hsz))
              have hv := fun g : Grow wr => hvt.out f g.x (hwwr.trans (g.h.mono hwwr.size)) hfl ((h7.out.mono hB).mono g.h)
              obtain ⟨lc, hlc⟩ : ∃ x, (s.least t f (Sea.at0 noms t) (Sea.lstAt l (t + 1))).1 = x := ⟨_, rfl⟩
              obtain ⟨lo, hlo⟩ : ∃ x, (s.least t f (Sea.at0 noms t) (Sea.lstAt l (t + 1))).2 = x := ⟨_, rfl⟩
              simp only [hlc, hlo] at hv
              replace hv := Lib.hid hv
              obtain ⟨z, hz⟩ : ∃ z, Sea.at0 (Sea.lstAt l t) f = z := ⟨_, rfl⟩
              rw [hz] at y2
              have hno := fun h => fair_no2 (s := s) (noms := noms) (l := l) htl (show f < (s.space + 1).toNat by omega) h
              rw [hz, hlc] at hno
              have hcont := fun (h : Sea.at0 (Sea.lstAt l t) f ≤ (s.least t f (Sea.at0 noms t) (Sea.lstAt l (t + 1))).1) => upto_succ hF.out h
              rw [hz, hlc] at hcont
              replace hno := Lib.hid hno
              replace hcont := Lib.hid hcont
              replace hlc := Lib.hid hlc
              replace hlo := Lib.hid hlo
              replace hz := Lib.hid hz
              generalize Sea.at0 noms t = nt at *
              have hg := grow_cell wr
              go_wp2_with (fail)
              refine wp_region_grow (by kernel_rfl) (by kernel_rfl) ?_
              repeat (go_big_quiet_step ((first | (go_at_call 62; exact Calls.grow (hv.out _)))))
              refine wpQuiet_nil ?_
              rintro _ ⟨g, rfl⟩
              have hBg := hB.trans (g.h.mono hB.size)
              by_cases hgt : lc < z
              · have hf2 := Lib.hid (hno.out (by omega))
                go_wp2_with (fail)
                go_ret
                exact BoolPost.of hf2.out (hBw.trans (hBg.mono (Nat.le_of_lt hsz)))
              · have hc2 := Lib.hid (hcont.out (by omega))
                go_wp2_with (fail)
                exact ⟨⟨f + 1, by omega, by go_num, hc2.out, hBg⟩, by simp [intOf]; omega⟩
            · have hH2 : Hid (∀ j, j < t + 1 → ∀ f : Nat, f < (s.space + 1).toNat → Sea.at0 (Sea.lstAt l j) f ≤ (s.least j f (Sea.at0 noms j) (Sea.lstAt l (j + 1))).1) := upto_succ hH.out fun f2 hf2 => hF.out f2 (by omega)
              go_wp2_with (fail)
              exact ⟨⟨t + 1, by omega, by go_num, hH2, ⟨wr, hB⟩, rfl⟩, by simp [intOf]; omega⟩
        · have hf := Lib.hid (fair_yes (noms := noms) hA.out fun j hj f hf => hH.out j (by omega) f hf)
          go_wp2_with (fail)
          go_ret
          exact BoolPost.of hf.out (hBw.trans (g.h.mono (Nat.le_of_lt hsz)))
end Go.Proofs.Ytacajmpggjgaiaa
