/- Walks: what a plan does (the program), day by day. -/
import Derived.Test.YtacajmpggjgaiaaQ3
import Derived.Test.YtacajmpggjgaiaaR8
set_option linter.unusedVariables false
set_option linter.unusedSimpArgs false
namespace Go.Proofs.Ytacajmpggjgaiaa
open Go.RowKit Go.Sd

/-- What Play leaves. -/
def PlayPost (s : Sea.S) (noms plan : List Int) (w : World) (e : Ending) (w' : World) : Prop :=
  (∃ v, e = .returned (.tuple #[v, .int .i64 (playOf s noms plan).2.1, .agg #[.int .i64 (playOf s noms plan).2.2.1, .int .i64 (playOf s noms plan).2.2.2], .int .i64 0]) ∧ IntsAt w' v (playOf s noms plan).1) ∧ Below w.heap.size w w'
theorem PlayPost.of {s : Sea.S} {noms plan l : List Int} {c d r : Int} {w w' : World} {v : Value} (h : playOf s noms plan = (l, c, d, r)) (ho : IntsAt w' v l) (hb : Below w.heap.size w w') :
    PlayPost s noms plan w (.returned (.tuple #[v, .int .i64 c, .agg #[.int .i64 d, .int .i64 r], .int .i64 0])) w' := by
  unfold PlayPost; rw [h]; exact ⟨⟨v, rfl, ho⟩, hb⟩

set_option maxRecDepth 100000 in
set_option maxHeartbeats 16000000 in
theorem progPlayYes (sv nv pv : Value) (s : Sea.S) (noms plan : List Int) (w : World) (hs : SeasonAt w sv s) (hn : IntsAt w nv noms) (hp : IntsAt w pv plan) (ht : Sea.validB s = true) (hno : s.nomsB noms = true) (hpl : planB s plan = true) :
    Calls Try.prog 45 #[sv, nv, pv] w (PlayPost s noms plan w) := by
  have hs' := hs
  obtain ⟨rv, dv, rfl, hr, hd⟩ := hs'
  obtain ⟨W, hW⟩ : ∃ W, w.alloc (sBox s rv dv) = W := ⟨_, rfl⟩
  obtain ⟨hsz, hBw, q0, q1, q2, q3, q4, q5⟩ := box_season hW
  obtain ⟨X, hX⟩ : ∃ X, W.alloc (.cells #[.int .i64 0, .int .i64 0] 74) = X := ⟨_, rfl⟩
  have hBX : Below W.heap.size W X := by rw [← hX]; exact (Below.refl _ _).alloc (Nat.le_refl _) _
  have hnew := World.alloc_heap_new W (.cells #[.int .i64 0, .int .i64 0] 74)
  rw [hX] at hnew
  obtain ⟨hWX, d0, f0⟩ := row_cells hnew
  have d0a := d0 0
  have d0b := d0 1
  have f0a := f0 0
  have f0b := f0 1
  simp only [List.getElem?_toArray, List.getElem?_cons_zero, List.getElem?_cons_succ] at d0a d0b
  clear d0 f0 hnew
  have p0 := kept_cell hBX q0
  have p1 := kept_cell hBX q1
  have p2 := kept_cell hBX q2
  have p3 := kept_cell hBX q3
  have p4 := kept_cell hBX q4
  have p5 := kept_cell hBX q5
  have hwX : Below w.heap.size w X := hBw.trans (hBX.mono (Nat.le_of_lt hsz))
  have hwXs : w.heap.size < X.heap.size := Nat.lt_trans hsz hWX
  have hg := grow_cell X
  have hgf := grow_frozen X
  have ok := Sea.ok_of_valid ht
  have hsp := ok.space
  have hnd := ok.ndays
  have hv : Hid (Calls Try.prog 51 #[.agg #[.int .i64 s.space, .int .i64 s.start, .int .i64 s.elo, .int .i64 s.ehi, rv, dv]] X fun e w' => e = .returned (.bool true) ∧ Below X.heap.size X w') := progValidT X (hs.mono hwX) ht
  have hnn : Hid (∀ g : Grow X, Calls Try.prog 52 #[.agg #[.int .i64 s.space, .int .i64 s.start, .int .i64 s.elo, .int .i64 s.ehi, rv, dv], nv] g.x fun e w' => e = .returned (.bool true) ∧ Below g.x.heap.size g.x w') := fun g => progNominatedT g.x ((hs.mono hwX).mono g.h) ((hn.mono hwX).mono g.h) hno
  have hany : (plan.any fun d => !Sea.inB d (-100) 100) = false := by
    have := hpl
    rw [planAny, Bool.and_eq_true] at this
    simpa using this.1
  obtain ⟨hnl, hnb⟩ := noms_bd ok hno
  obtain ⟨hll, hlb⟩ := planB_at hpl
  have hpX := hp.mono hwX
  have hnX := hn.mono hwX
  obtain ⟨nb, noff, ncap, rfl, hnlt, hnm, hnk⟩ := int_cell hnX (by omega)
  obtain ⟨lb, loff, lcap, rfl, hplt, hpm, hpk⟩ := int_cell hpX (by omega)
  have hcc : Hid (∀ g : Grow X, Calls Try.prog 74 #[.slice (some ⟨lb, loff, none⟩) plan.length lcap, .func (.func 75) #[] #[]] g.x fun e w' => e = .returned (.bool false) ∧ Below g.x.heap.size g.x w') := fun g => by rw [← hany]; exact containsInts _ plan _ _ _ g.x (hpX.mono g.h) enter_play1 fun d X' hX' => progPlay1 d X'
  have hle : ((plan.length : Int) != (s.days.length : Int)) = false := by rw [hll]; simp
  have hrS := hr
  have hdS := hd
  obtain ⟨da, dcap, rfl, hdm, -⟩ := hd
  unfold maxLen at hdm
  have hcb : Hid (∀ t, t < s.days.length → -100000000 ≤ s.cost t (Sea.at0 plan t) ∧ s.cost t (Sea.at0 plan t) ≤ 100000000) := fun t ht => cost_bd ok ht (hlb t (by omega))
  replace hnk := Lib.hid hnk
  replace hpk := Lib.hid hpk
  replace hnb := Lib.hid hnb
  replace hlb := Lib.hid hlb
  replace hnl := Lib.hid hnl
  replace hll := Lib.hid hll
  replace hany := Lib.hid hany
  have hokH := Lib.hid ok
  have hplH := Lib.hid hpl
  clear hs hn hp hnX hpX ht hno hpl ok
  go_enter Try.func45, Try.ntmps45
  go_wp2_with (first | (go_at_call 51; refine Calls.mono hv.out ?_; rintro e w' ⟨rfl, hb1⟩; obtain ⟨g1, rfl⟩ : ∃ g1 : Grow X, w' = g1.x := ⟨⟨w', hb1⟩, rfl⟩) | (go_at_call 52; refine Calls.mono (hnn.out g1) ?_; rintro e w' ⟨rfl, hb2⟩; obtain ⟨g2, rfl⟩ := g1.next hb2) | (go_at_call 74; refine Calls.mono (hcc.out g2) ?_; rintro e w' ⟨rfl, hb3⟩; obtain ⟨g3, rfl⟩ := g2.next hb3; have hBg3 := hwX.trans (g3.h.mono hwX.size); have hlk := look_new (w := g3.x) (s := s) (mv := .map none) rfl (hrS.mono hBg3) (hdS.mono hBg3); obtain ⟨g4, hg4⟩ := g3.alloc (lBox s rv (.slice da s.days.length dcap) (.map none)); rw [hg4] at hlk))
  obtain ⟨lvb, hlvb⟩ : ∃ lvb, lvb = g3.x.heap.size := ⟨_, rfl⟩
  rw [← hlvb] at hlk ⊢
  go_quiet (fail)
  go_wp2_with (fail)
  obtain ⟨g5, hg5⟩ := g4.next (below_drewN (Below.refl _ _) nq)
  rw [hg5]
  have hlk5 : LookAt g5.x (.pointer (some ⟨lvb, 0, none⟩)) (.map none) s := by rw [← hg5]; exact hlk.mono (below_drewN (Below.refl _ _) nq)
  have n0 := g5.cell d0a
  have n1 := g5.cell d0b
  have n2 := (hgf g5 _ _ hWX).trans f0a
  have n3 := (hgf g5 _ _ hWX).trans f0b
  have hZ0 : Below w.heap.size w g5.x := hwX.trans (g5.h.mono hwX.size)
  have hWZ : W.heap.size < g5.x.heap.size := Nat.lt_of_lt_of_le hWX g5.size
  have hnkZ : Hid (∀ k, k < noms.length → g5.x.cell? ⟨nb, noff + k, none⟩ = some (.int .i64 (Sea.at0 noms k))) := fun k hk => g5.cell (hnk.out k hk)
  have hpkZ : Hid (∀ k, k < plan.length → g5.x.cell? ⟨lb, loff + k, none⟩ = some (.int .i64 (Sea.at0 plan k))) := fun k hk => g5.cell (hpk.out k hk)
  generalize g5.x = Z at *
  clear hg5 hlk hg4 hb1 hb2 hb3 hBg3 hv hnn hcc hg hgf p0 p1 p2 p3 p4 p5 q0 q1 q2 q3 q4 q5 d0a d0b f0a f0b hX hW hrS hdS hr hnk hpk hlvb
  go_loopw [11, 12, 13, 47] (fun p cost fill i wr => ∃ (t : Nat) (v : Value), t ≤ plan.length ∧ v = p ∧ i = .int .i64 t ∧ fill = .int .i64 (playTo s noms plan t).2.1 ∧ cost = .int .i64 (playTo s noms plan t).2.2 ∧
    Hid (faultTo s noms plan t = none) ∧ OwnInts Z.heap.size wr v (playTo s noms plan t).1 ∧ Below Z.heap.size Z wr) (fun _ _ _ i _ => plan.length - (intOf i).toNat)
  case atStart => exact ⟨0, _, by omega, rfl, rfl, rfl, rfl, (rfl : faultTo s noms plan 0 = none), OwnInts.nil _ _, Below.refl _ _⟩
  case round =>
    obtain ⟨t, v, ht, rfl, rfl, rfl, rfl, hF, ho, hB⟩ := hrel
    have hinv := play_inv hokH.out hplH.out t (by have := hll.out; omega) hF.out
    have hBs := hB.size
    have n0 := kept_cell hB n0
    have n1 := kept_cell hB n1
    have n2 := (hB.frozen (p := ⟨W.heap.size, 0, none⟩) hWZ).trans n2
    have n3 := (hB.frozen (p := ⟨W.heap.size, 1, none⟩) hWZ).trans n3
    have hplen := playTo_len s noms plan t
    have hroE : Hid (ruleOn s noms plan t = s.rule t (playTo s noms plan t).2.1 (Sea.at0 noms t) (Sea.at0 plan t)) := rfl
    have hne : Hid (playTo s noms plan (t + 1) = ((playTo s noms plan t).1 ++ [(playTo s noms plan t).2.1 + Sea.at0 noms t + Sea.at0 plan t], (playTo s noms plan t).2.1 + Sea.at0 noms t + Sea.at0 plan t, (playTo s noms plan t).2.2 + s.cost t (Sea.at0 plan t))) := rfl
    have hhit := fun hr hl => playOf_hit (s := s) (noms := noms) (plan := plan) (t := t) hF.out hr hl
    replace hhit := Lib.hid hhit
    have hfin : t = plan.length → playOf s noms plan = ((playTo s noms plan t).1, (playTo s noms plan t).2.2, 0, 1) := fun e => by rw [e]; exact playOf_fine (by rw [← e]; exact hF.out)
    replace hfin := Lib.hid hfin
    generalize playTo s noms plan t = pt at *
    obtain ⟨l, fill, cost⟩ := pt
    simp only at hinv hroE hne hhit hfin ho hplen
    obtain ⟨hi1, hi2⟩ := hinv
    have hlen : l.length ≤ 1000000 := by have := hll.out; omega
    replace hplen := Lib.hid hplen
    have hwwr : Below w.heap.size w wr := hZ0.trans (hB.mono hZ0.size)
    by_cases hlt : t < plan.length
    · have htd : t < s.days.length := by have := hll.out; omega
      have e0 := kept_cell hB (hnkZ.out t (by have := hnl.out; omega))
      have e1 := kept_cell hB (hpkZ.out t hlt)
      have hnt := hnb.out t htd
      have hlt2 := hlb.out t hlt
      have hct := hcb.out t htd
      have hff : 0 ≤ fill ∧ fill ≤ 100 := by omega
      have hR := fun (Y : World) (hY : Below wr.heap.size wr Y) => progRule (.pointer (some ⟨lvb, 0, none⟩)) (.map none) s t fill (Sea.at0 noms t) (Sea.at0 plan t) Y (hlk5.mono (hB.trans (hY.mono hBs))) htd hokH.out hff hnt hlt2
      have hBe := fun (Y : World) => progBehind (.pointer (some ⟨lvb, 0, none⟩)) t fill (Sea.at0 noms t) (Sea.at0 plan t) Y hff hnt hlt2
      have hC := fun (Y : World) (hY : Below Z.heap.size Z Y) => progCost (.pointer (some ⟨lvb, 0, none⟩)) (.map none) s t fill (Sea.at0 noms t) (Sea.at0 plan t) Y (hlk5.mono hY) htd hokH.out hlt2
      simp only [← hroE.out] at hR
      generalize Sea.at0 noms t = nt at *
      generalize Sea.at0 plan t = x at *
      generalize s.cost t x = ct at *
      have hidx : (0 : Int) ≤ (t : Int) ∧ (t : Int) < noms.length ∧ (t : Int) < plan.length := by have := hnl.out; omega
      obtain ⟨O, hO⟩ : ∃ O, wr.alloc (oBox (.pointer (some ⟨lvb, 0, none⟩)) t fill nt x) = O := ⟨_, rfl⟩
      obtain ⟨hOs, hBO, o0, o1, o2, o3, o4⟩ := box_order hO
      have hRO := Lib.hid (hR O hBO)
      replace hBe := Lib.hid hBe
      replace hC := Lib.hid hC
      have hoH := Lib.hid ho
      have hob := Lib.hid ho.lt
      clear hR ho
      by_cases hr : ruleOn s noms plan t = 1
      · have hFn := Lib.hid (faultTo_miss hF.out hr)
        rw [hr] at hRO
        replace hr := Lib.hid hr
        have hne2 : v.ownBlock ≠ some wr.heap.size := fun e => by have := (hob.out _ e).2; omega
        go_wp2_with (first
          | (go_at_call 76; refine Calls.mono hRO.out ?_; rintro e w1 ⟨rfl, hb1⟩; have o0 := kept_cell hb1 o0; have o1 := kept_cell hb1 o1; have o2 := kept_cell hb1 o2; have o3 := kept_cell hb1 o3; have o4 := kept_cell hb1 o4)
          | (go_at_call 58; refine Calls.mono (hBe.out _) ?_; rintro e w2 ⟨rfl, hb2⟩; have o0 := kept_cell hb2 o0; have o1 := kept_cell hb2 o1; have o2 := kept_cell hb2 o2; have o3 := kept_cell hb2 o3; have o4 := kept_cell hb2 o4; have hB2 := below_tr (below_tr hBO hb1) hb2; have hoK := Lib.hid (hoH.out.mono hB2); have hK2 := hB.trans (hB2.mono hBs); have hKs := hK2.size; have hol := World.block_lt_of_cell? _ ⟨_, _, none⟩ o0)
          | (at_builtin; refine wpList_app_int (by rfl) _ _ (by rfl) Z.heap.size w2 v _ (fill + nt + x) (by rfl) hoK.out (by rfl) hlen hKs ?_; intro v1 w3 ho1 hg1 hn1 hat1; have o0 := (hg1.cell_far ⟨wr.heap.size, 0, none⟩ hol (Ne.symm hne2)).trans o0; have o1 := (hg1.cell_far ⟨wr.heap.size, 1, none⟩ hol (Ne.symm hne2)).trans o1; have o2 := (hg1.cell_far ⟨wr.heap.size, 2, none⟩ hol (Ne.symm hne2)).trans o2; have o3 := (hg1.cell_far ⟨wr.heap.size, 3, none⟩ hol (Ne.symm hne2)).trans o3; have o4 := (hg1.cell_far ⟨wr.heap.size, 4, none⟩ hol (Ne.symm hne2)).trans o4; have hB3 := below_append hK2 hKs hoK.out hg1; replace ho1 := Lib.hid ho1)
          | (go_at_call 77; refine Calls.mono (hC.out _ hB3) ?_; rintro e w4 ⟨rfl, hb4⟩))
        have hB4 := hB3.trans (hb4.mono hB3.size)
        exact ⟨⟨t + 1, v1, by omega, rfl, by go_num, by rw [hne.out], by rw [hne.out], hFn, by rw [hne.out]; exact ho1.out.mono hb4, hB4⟩, by simp [intOf]; omega⟩
      · have hrn : (ruleOn s noms plan t != 1) = true := by simpa using hr
        have hH := Lib.hid (hhit.out hr hlt)
        replace hr := Lib.hid hr
        go_wp2_with (first
          | (go_at_call 76; refine Calls.mono hRO.out ?_; rintro e w1 ⟨rfl, hb1⟩; have hBY := below_tr hBO hb1; have n0 := kept_cell hBY n0; have n1 := kept_cell hBY n1; have n2 := (hBY.frozen (p := ⟨W.heap.size, 0, none⟩) (Nat.lt_of_lt_of_le hWZ hBs)).trans n2; have n3 := (hBY.frozen (p := ⟨W.heap.size, 1, none⟩) (Nat.lt_of_lt_of_le hWZ hBs)).trans n3))
        refine bodyPost_ret (v := .tuple #[v, .int .i64 cost, .agg #[.int .i64 t, .int .i64 (ruleOn s noms plan t)], .int .i64 0]) (by simp [results, Try.results45, go_sem, n0, n1, n2, n3]) rfl ?_
        have hwY := hwwr.trans (hBY.mono hwwr.size)
        exact PlayPost.of hH.out (((hoH.out.mono hBY).cellset hWZ _).cellset hWZ _).at ((hwY.setCell (by show _ ≤ W.heap.size; omega) _).setCell (by show _ ≤ W.heap.size; omega) _)
    · have hle : t = plan.length := by omega
      have hti : ¬ ((t : Int) < (plan.length : Int)) := by omega
      have hH := Lib.hid (hfin.out hle)
      have hoH := Lib.hid ho
      replace hle := Lib.hid hle
      clear ho
      go_wp2_with (fail)
      refine bodyPost_ret (v := .tuple #[v, .int .i64 cost, .agg #[.int .i64 0, .int .i64 1], .int .i64 0]) (by simp [results, Try.results45, go_sem, n0, n1, n2, n3]) rfl ?_
      exact PlayPost.of hH.out ((hoH.out.cellset hWZ _).cellset hWZ _).at ((hwwr.setCell (by show _ ≤ W.heap.size; omega) _).setCell (by show _ ≤ W.heap.size; omega) _)
end Go.Proofs.Ytacajmpggjgaiaa
