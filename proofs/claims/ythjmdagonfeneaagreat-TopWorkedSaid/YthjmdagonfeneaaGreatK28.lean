/- Laws and walks: SP10, SOwnSp. -/
import Derived.Test.YthjmdagonfeneaaGreatK27
set_option maxRecDepth 100000
set_option maxHeartbeats 16000000
set_option linter.unusedVariables false
set_option linter.unusedSimpArgs false
namespace Go.Proofs.YthjmdagonfeneaaGreat.S
open Go.RowKit Go.Sd
theorem run_make_memo (w : World) : (Instr.makeMap 94 none).run Tryz.prog w = .ok (.map (some w.heap.size)) (w.alloc (.map #[] 0)) := by kernel_rfl
theorem progLooking (sv : Value) (s : Sea.S) (w : World) (hs : SeasonAt w sv s) :
    Calls Tryz.prog 52 #[sv] w fun e w' => ∃ lv mb, e = .returned lv ∧ LookAt w' lv (.map (some mb)) s ∧ Memo w' mb s ∧ w.heap.size ≤ mb ∧ Below w.heap.size w w' := by
 obtain ⟨rv, dv, rfl, hr, hd⟩ := hs
 have hmk := run_make_memo
 go_enter Tryz.func52, Tryz.ntmps52
 go_wp2
 go_ret
 have hB1 : Below w.heap.size w ((w.alloc (sBox s rv dv)).alloc (.map #[] 0)) := below_al (below_al (Below.refl _ _) _) _
 have hl := look_new (w := (w.alloc (sBox s rv dv)).alloc (.map #[] 0)) (s := s) (mv := .map (some (w.heap.size + 1))) rfl (hr.mono hB1) (hd.mono hB1)
 have hn : ((w.alloc (sBox s rv dv)).alloc (.map #[] 0)).heap[w.heap.size + 1]? = some (.map #[] 0) := by
  have := World.alloc_heap_new (w.alloc (sBox s rv dv)) (.map #[] 0)
  rwa [World.size_alloc] at this
 have hm : Memo ((w.alloc (sBox s rv dv)).alloc (.map #[] 0)) (w.heap.size + 1) s := ⟨#[], 0, hn, fun e he => by simp at he⟩
 simp only [World.size_alloc] at hl
 exact ⟨_, _, rfl, hl, hm.mono ((Below.refl _ _).alloc (Nat.le_refl _) _), Nat.le_succ _, below_al hB1 _⟩
def askedB (s : Sea.S) (day fill : Int) : Bool := Sea.validB s && Sea.inB day 0 (s.days.length - 1) && Sea.inB fill 0 s.space
theorem progAsked (sv : Value) (s : Sea.S) (day fill : Int) (w : World) (hs : SeasonAt w sv s) :
    Calls Tryz.prog 51 #[sv, .int .i64 day, .int .i64 fill] w fun e w' => e = .returned (.bool (askedB s day fill)) ∧ Below w.heap.size w w' := by
 have hs' := hs
 obtain ⟨rv, dv, rfl, hr, ⟨da, dcap, rfl, hdm, -⟩⟩ := hs'
 unfold maxLen at hdm
 have hBw : Below w.heap.size w (w.alloc (sBox s rv (.slice da s.days.length dcap))) := (Below.refl _ _).alloc (Nat.le_refl _) _
 have hg := grow_cell (w.alloc (sBox s rv (.slice da s.days.length dcap)))
 have hf : Hid (askedB s day fill = (Sea.validB s && Sea.inB day 0 (s.days.length - 1) && Sea.inB fill 0 s.space)) := rfl
 obtain ⟨t, ht⟩ : ∃ t, Sea.validB s = t := ⟨_, rfl⟩
 have hv := Lib.hid (progValidT (t := t) _ (hs.mono hBw) ht)
 replace ht := Lib.hid ht
 clear hs
 cases t
 · go_enter Tryz.func51, Tryz.ntmps51
   go_wp2_with (go_at_call 35; refine Calls.mono hv.out ?_; rintro e w' ⟨rfl, hb⟩)
   go_ret
   exact ⟨bool_ret (by rw [hf.out, ht.out]; rfl), hBw.trans (hb.mono hBw.size)⟩
 · cases h1 : Sea.inB day 0 (s.days.length - 1)
   · go_enter Tryz.func51, Tryz.ntmps51
     go_wp2_with (first | (go_at_call 35; refine Calls.mono hv.out ?_; rintro e w' ⟨rfl, hb⟩; obtain ⟨g1, rfl⟩ : ∃ g1 : Grow (w.alloc (sBox s rv (.slice da s.days.length dcap))), w' = g1.x := ⟨⟨w', hb⟩, rfl⟩) | (go_at_call 45; refine (progInT (by assumption) _).mono ?_; rintro e w' ⟨rfl, rfl⟩))
     go_ret
     exact ⟨bool_ret (by rw [hf.out, ht.out, h1]; rfl), hBw.trans (g1.h.mono hBw.size)⟩
   · cases h2 : Sea.inB fill 0 s.space
     all_goals
      go_enter Tryz.func51, Tryz.ntmps51
      go_wp2_with (first | (go_at_call 35; refine Calls.mono hv.out ?_; rintro e w' ⟨rfl, hb⟩; obtain ⟨g1, rfl⟩ : ∃ g1 : Grow (w.alloc (sBox s rv (.slice da s.days.length dcap))), w' = g1.x := ⟨⟨w', hb⟩, rfl⟩) | (go_at_call 45; refine (progInT (by assumption) _).mono ?_; rintro e w' ⟨rfl, rfl⟩))
      go_ret
      exact ⟨bool_ret (by rw [hf.out, ht.out, h1, h2]; rfl), hBw.trans (g1.h.mono hBw.size)⟩
theorem progAskedT {sv : Value} {s : Sea.S} {day fill : Int} {t : Bool} (w : World) (hs : SeasonAt w sv s) (h : askedB s day fill = t) :
    Calls Tryz.prog 51 #[sv, .int .i64 day, .int .i64 fill] w fun e w' => e = .returned (.bool t) ∧ Below w.heap.size w w' := by
 rw [← h]; exact progAsked sv s day fill w hs
theorem asked_yes {s : Sea.S} {day fill : Int} (h : askedB s day fill = true) : Sea.validB s = true ∧ ∃ d f : Nat, day = d ∧ fill = f ∧ d < s.days.length ∧ (f : Int) ≤ s.space := by
 unfold askedB at h
 rw [Bool.and_eq_true, Bool.and_eq_true, Sea.inB_iff, Sea.inB_iff] at h
 obtain ⟨⟨h1, h2⟩, h3⟩ := h
 obtain ⟨d, rfl⟩ := Int.eq_ofNat_of_zero_le h2.1
 obtain ⟨f, rfl⟩ := Int.eq_ofNat_of_zero_le h3.1
 exact ⟨h1, d, f, rfl, rfl, by omega, by omega⟩
def Three (x : Int × Int × Int) (w : World) (e : Ending) (w' : World) : Prop := e = .returned (.tuple #[.int .i64 x.1, .int .i64 x.2.1, .int .i64 x.2.2]) ∧ Below w.heap.size w w'
theorem Three.of {x : Int × Int × Int} {w w' : World} {a b c : Int} (h : x = (a, b, c)) (hb : Below w.heap.size w w') : Three x w (.returned (.tuple #[.int .i64 a, .int .i64 b, .int .i64 c])) w' := by
 subst h; exact ⟨rfl, hb⟩
theorem below_of_kept {w X Y : World} {mb : Nat} (hB : Below w.heap.size w X) (hm : w.heap.size ≤ mb) (hk : Kept (fun k => k ≠ mb) X Y) : Below w.heap.size w Y := by
 refine hB.trans (hk.below hB.size fun k hk => ?_)
 omega
def adviseErr (s : Sea.S) (day fill nom : Int) : Int × Int × Int :=
 if askedB s day fill = true ∧ Sea.inB nom (Sea.dayAt s.days day.toNat).nlo (Sea.dayAt s.days day.toNat).nhi = true then
  (if (s.least day.toNat fill nom (wrow s (s.days.length - 1 - day.toNat))).1 < Sea.never then ((s.least day.toNat fill nom (wrow s (s.days.length - 1 - day.toNat))).2, (s.least day.toNat fill nom (wrow s (s.days.length - 1 - day.toNat))).1, 0) else (0, 0, 5))
 else (0, 0, 2)
theorem adviseErr_no {s : Sea.S} {day fill nom : Int} (h : askedB s day fill = false) : adviseErr s day fill nom = (0, 0, 2) := if_neg (by rw [h]; rintro ⟨h, -⟩; cases h)
theorem adviseErr_nom {s : Sea.S} {d f : Nat} {nom : Int} (h : Sea.inB nom (Sea.dayAt s.days d).nlo (Sea.dayAt s.days d).nhi = false) : adviseErr s d f nom = (0, 0, 2) := if_neg (by rw [Int.toNat_natCast, h]; rintro ⟨-, h⟩; cases h)
theorem adviseErr_yes {s : Sea.S} {d f : Nat} {nom : Int} (h : askedB s d f = true) (h2 : Sea.inB nom (Sea.dayAt s.days d).nlo (Sea.dayAt s.days d).nhi = true) : adviseErr s d f nom =
    if (s.least d f nom (wrow s (s.days.length - 1 - d))).1 < Sea.never then ((s.least d f nom (wrow s (s.days.length - 1 - d))).2, (s.least d f nom (wrow s (s.days.length - 1 - d))).1, 0) else (0, 0, 5) := by
 unfold adviseErr; rw [Int.toNat_natCast, if_pos ⟨h, h2⟩]
theorem progAdviseErr (sv : Value) (s : Sea.S) (day fill nom : Int) (w : World) (hs : SeasonAt w sv s) :
    Calls Tryz.prog 15 #[sv, .int .i64 day, .int .i64 fill, .int .i64 nom] w (Three (adviseErr s day fill nom) w) := by
 have hs' := hs
 obtain ⟨rv, dv, rfl, hr, hd⟩ := hs'
 have hBw : Below w.heap.size w (w.alloc (sBox s rv dv)) := (Below.refl _ _).alloc (Nat.le_refl _) _
 cases ht : askedB s day fill
 · have he := Lib.hid (adviseErr_no (nom := nom) ht)
   have hv := fun g : Grow (w.alloc (sBox s rv dv)) => progAskedT g.x ((hs.mono hBw).mono g.h) ht
   replace ht := Lib.hid ht
   replace hv := Lib.hid hv
   have hg := grow_cell (w.alloc (sBox s rv dv))
   go_enter Tryz.func15, Tryz.ntmps15
   go_wp2
   refine wp_region_grow (by kernel_rfl) (by kernel_rfl) ?_
   repeat (go_big_quiet_step ((first | (go_at_call 51; exact Calls.grow (hv.out _)))))
   refine wpQuiet_nil ?_
   rintro _ ⟨g, rfl⟩
   go_wp2
   go_ret3
   exact Three.of he.out (hBw.trans (g.h.mono hBw.size))
 · have hv := fun g : Grow (w.alloc (sBox s rv dv)) => progAskedT g.x ((hs.mono hBw).mono g.h) ht
   obtain ⟨hval, d, f, rfl, rfl, hd1, hf1⟩ := asked_yes ht
   obtain ⟨b, off, cap, rfl, hbl, hdm, c0, c1, c2, c3, c4, c5, c6, c7⟩ := day_cells hd hd1
   have hdi : (0 : Int) ≤ (d : Int) ∧ (d : Int) < (s.days.length : Int) := by omega
   replace c6 := kept_cell hBw c6
   replace c7 := kept_cell hBw c7
   have hbl2 : b < (w.alloc (sBox s rv (.slice (some ⟨b, off, none⟩) s.days.length cap))).heap.size := Nat.lt_of_lt_of_le hbl hBw.size
   clear c0 c1 c2 c3 c4 c5
   have hg := grow_cell (w.alloc (sBox s rv (.slice (some ⟨b, off, none⟩) s.days.length cap)))
   cases h1 : Sea.inB nom (Sea.dayAt s.days d).nlo (Sea.dayAt s.days d).nhi
   · have he := Lib.hid (adviseErr_nom (f := f) h1)
     replace ht := Lib.hid ht
     replace hv := Lib.hid hv
     have hin := fun X => progInT h1 X
     replace h1 := Lib.hid h1
     go_enter Tryz.func15, Tryz.ntmps15
     go_wp2
     refine wp_region_grow (by kernel_rfl) (by kernel_rfl) ?_
     repeat (go_big_quiet_step ((first | (go_at_call 51; exact Calls.grow (hv.out _)) | (go_at_call 45; exact Calls.grow_same (hin _)))))
     refine wpQuiet_nil ?_
     rintro _ ⟨g, rfl⟩
     go_wp2
     go_ret3
     exact Three.of he.out (hBw.trans (g.h.mono hBw.size))
   · have he := adviseErr_yes ht h1
     have ok := Sea.ok_of_valid hval
     have hnb := ok.days d hd1
     have hnm := Sea.inB_iff.1 h1
     have hlo := fun g : Grow (w.alloc (sBox s rv (.slice (some ⟨b, off, none⟩) s.days.length cap))) => progLooking _ s g.x ((hs.mono hBw).mono g.h)
     have hfi := fun lv mb v X hl hm hv => progFirstSum s lv mb d (s.days.length - 1 - d) (progWorstAll s lv mb ok (s.days.length - 1 - d) (d + 1) (by omega)) (by omega) ok f nom v X hl hm ⟨by omega, by have := ok.space; omega⟩ ⟨by omega, by omega⟩ hv
     have hin := fun X => progInT h1 X
     replace ht := Lib.hid ht
     replace hv := Lib.hid hv
     replace hlo := Lib.hid hlo
     replace hval := Lib.hid hval
     replace h1 := Lib.hid h1
     generalize hle : s.least d f nom (wrow s (s.days.length - 1 - d)) = le at *
     obtain ⟨lc, lx⟩ := le
     replace hle := Lib.hid hle
     replace hfi := Lib.hid hfi
     clear hr hd hs hnb hnm
     have he2 : Hid (adviseErr s d f nom = if lc < Sea.never then (lx, lc, 0) else (0, 0, 5)) := he
     clear he
     cases hln : decide (lc < Sea.never)
     all_goals
      have hdc := Lib.hid hln
      clear hln
      go_enter Tryz.func15, Tryz.ntmps15
      go_wp2
      refine wp_region_grow (by kernel_rfl) (by kernel_rfl) ?_
      repeat (go_big_quiet_step ((first | (go_at_call 51; exact Calls.grow (hv.out _)) | (go_at_call 45; exact Calls.grow_same (hin _)))))
      refine wpQuiet_nil ?_
      rintro _ ⟨g, rfl⟩
      have hBg : Below w.heap.size w g.x := hBw.trans (g.h.mono hBw.size)
      go_wp2_with (first
       | (go_at_call 52; refine Calls.mono (hlo.out g) ?_; rintro e X ⟨lv, mb, rfl, hl, hm, hmb, hb1⟩)
       | (go_at_call 39; obtain ⟨lb, hlb⟩ : ∃ lp, lv = .pointer lp := (by obtain ⟨b, _, _, h, _⟩ := hl; exact ⟨_, h⟩); subst hlb; refine (progOrders _ _ _ _ _).mono ?_; rintro e X2 ⟨iv, rfl, hiv, hb2⟩)
       | (go_at_call 38; refine Calls.mono (hfi.out _ mb iv X2 (hl.mono hb2) (hm.mono hb2) hiv) ?_; rintro e Y ⟨op, oa, ob, oc, od, rfl, hk, hm2, hod⟩; rw [hdc.out]; replace hod := Lib.hid hod))
      go_ret3
      have hB9 := below_al (below_of_kept (below_tr (below_tr hBg hb1) hb2) (by have := hBg.size; omega) hk) (.cells #[.pointer op, .int .i64 oa, .int .i64 ob, .int .i64 oc, .int .i64 od] 102)
     · exact Three.of (by rw [he2.out, if_neg (by have := hdc.out; simpa using this)]) hB9
     · have hlt : lc < Sea.never := by have := hdc.out; simpa using this
       exact Three.of (by rw [he2.out, if_pos hlt, hod.out hlt]) hB9
end Go.Proofs.YthjmdagonfeneaaGreat.S
set_option linter.unusedVariables false
set_option linter.unusedSimpArgs false
namespace Go.Proofs.YthjmdagonfeneaaGreat.S
open Go.RowKit Go.Sd
def spAt (vs : List Value) (i : Nat) : Value := vs.getD i (.slice none 0 0)
/-! Plain -/
end Go.Proofs.YthjmdagonfeneaaGreat.S
namespace Go.Proofs.YthjmdagonfeneaaGreat.S
open Go.Sd
def exS : Sea.S := ⟨10, 4, 4, 6, [⟨0, 4, 2⟩, ⟨5, 2, 4⟩], [⟨10, 8, 3, 3, 0, 10, -1, 1⟩, ⟨20, 18, 3, 3, 2, 10, -2, 0⟩, ⟨30, 25, 1, 4, 0, 9, 0, 0⟩]⟩
end Go.Proofs.YthjmdagonfeneaaGreat.S
