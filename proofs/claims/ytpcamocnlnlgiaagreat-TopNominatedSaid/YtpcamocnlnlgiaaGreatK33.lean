/- Laws and walks: SR3, SR8, SQ4, SR6, SS4, SS6, SOpt. -/
import Derived.Test.YtpcamocnlnlgiaaGreatK32
set_option maxRecDepth 100000
set_option maxHeartbeats 16000000
set_option linter.unusedVariables false
set_option linter.unusedSimpArgs false
namespace Go.Proofs.YtpcamocnlnlgiaaGreat.S
open Go.RowKit Go.Sd
theorem OwnMat.put {B b : Nat} {w w1 : World} {vs : List Value} {rows : List (List Int)} {i : Nat} {v' : Value} {row : List Int} (h : OwnMat B b w vs rows) (hi : i < rows.length)
    (hg : w.grownBy w1 (valAt vs i).ownBlock) (ho : OwnInts B w1 v' (row)) (hat : v'.ownBlock = (valAt vs i).ownBlock ∨ ∃ m, v'.ownBlock = some m ∧ w.heap.size ≤ m) :
    OwnMat B b (w1.setCell ⟨b, i, none⟩ v') (vs.set i v') (rows.set i (row)) := by
 have hiv : i < vs.length := by rw [h.len]; exact hi
 have hlt := (zqo h.heap)
 have hb1 : w1.heap[b]? = some (.cells vs.toArray 41) := (hg.block b hlt (Ne.symm (h.ne i hi))).trans h.heap
 have hv'b : v'.ownBlock ≠ some b := by
  rcases hat with e | ⟨m, e, hm⟩
  · rw [e]; exact h.ne i hi
  · rw [e]; intro h'; cases h'; omega
 have hset : w1.grownBy (w1.setCell ⟨b, i, none⟩ v') (some b) := ⟨rfl, rfl, rfl, by simp [World.setCell], fun k _ hk => Below.heap_setCell _ _ _ _ (fun e => hk (by rw [e]))⟩
 have away : ∀ j, j < rows.length → j ≠ i → (valAt vs j).ownBlock = none ∨ (valAt vs j).ownBlock ≠ v'.ownBlock := by
  intro j hj hji
  rcases hat with e | ⟨m, e, hm⟩
  · rw [e]; exact h.apart j i hj hi hji
  · rw [e]
    cases hq : (valAt vs j).ownBlock with
    | none => exact .inl rfl
    | some q => exact .inr (by have := ((h.own j hj).lt q hq).2; intro h'; cases h'; omega)
 refine ⟨?_, by simp [h.len], h.low, ?_, ?_, ?_⟩
 · simp only [World.setCell, Array.getElem?_modify, if_true, hb1]
   simp
 · intro j hj
   rw [List.length_set] at hj
   rw [valAt_set hiv, lstAt_set hi]
   by_cases hji : j = i
   · rw [if_pos hji, if_pos hji]
     exact ho.kept hset (.inr hv'b)
   · rw [if_neg hji, if_neg hji]
     exact ((h.own j hj).kept hg (h.apart j i hj hi hji)).kept hset (.inr (h.ne j hj))
 · intro j hj
   rw [List.length_set] at hj
   rw [valAt_set hiv]
   by_cases hji : j = i
   · rw [if_pos hji]; exact hv'b
   · rw [if_neg hji]; exact h.ne j hj
 · intro j k hj hk hjk
   rw [List.length_set] at hj hk
   rw [valAt_set hiv, valAt_set hiv]
   by_cases hji : j = i
   · by_cases hki : k = i
     · omega
     · rw [if_pos hji, if_neg hki]
       rcases away k hk hki with e | e
       · rw [e]; cases hq : v'.ownBlock with
         | none => exact .inl rfl
         | some q => exact .inr (by simp)
       · exact .inr (Ne.symm e)
   · by_cases hki : k = i
     · rw [if_neg hji, if_pos hki]; exact away j hj hji
     · rw [if_neg hji, if_neg hki]; exact h.apart j k hj hk hjk
theorem OwnMat.from {B B' b : Nat} {w : World} {vs : List Value} {rows : List (List Int)} (h : OwnMat B b w vs rows) (hB : B' ≤ B) : OwnMat B' b w vs rows :=
 ⟨h.heap, h.len, Nat.le_trans hB h.low, fun i hi => (h.own i hi).from hB, h.ne, h.apart⟩
theorem OwnInts.slice {B : Nat} {w : World} {v : Value} {xs : List Int} (h : OwnInts B w v xs) : ∃ a n cap, v = .slice a n cap := by
 obtain ⟨_, h2⟩ := h
 rcases h2 with ⟨rfl, _⟩ | ⟨g, cap, cur, rfl, _⟩
 · exact ⟨_, _, _, rfl⟩
 · exact ⟨_, _, _, rfl⟩
end Go.Proofs.YtpcamocnlnlgiaaGreat.S
set_option linter.unusedVariables false
set_option linter.unusedSimpArgs false
namespace Go.Proofs.YtpcamocnlnlgiaaGreat.S
open Go.RowKit Go.Sd
def RefPlayPost (s : Sea.S) (noms plan : List Int) (w : World) (e : Ending) (w' : World) : Prop :=
 (∃ v, e = .returned (.tuple #[v, .int .i64 (playOf s noms plan).2.1, .agg #[.int .i64 (playOf s noms plan).2.2.1, .int .i64 (playOf s noms plan).2.2.2]]) ∧ IntsAt w' v (playOf s noms plan).1) ∧ Below w.heap.size w w'
theorem RefPlayPost.of {s : Sea.S} {noms plan l : List Int} {c d r : Int} {w w' : World} {v : Value} (h : playOf s noms plan = (l, c, d, r)) (ho : IntsAt w' v l) (hb : Below w.heap.size w w') :
    RefPlayPost s noms plan w (.returned (.tuple #[v, .int .i64 c, .agg #[.int .i64 d, .int .i64 r]])) w' := by
 unfold RefPlayPost; rw [h]; exact ⟨⟨v, rfl, ho⟩, hb⟩
theorem OwnInts.cellset {B : Nat} {w : World} {v : Value} {xs : List Int} (h : OwnInts B w v xs) {p : Addr} (hp : p.block < B) (u : Value) : OwnInts B (w.setCell p u) v xs :=
 h.same fun k e => Below.heap_setCell _ _ _ _ (fun e' => by have := (h.lt k e).1; rw [e'] at this; omega)
end Go.Proofs.YtpcamocnlnlgiaaGreat.S
set_option linter.unusedVariables false
set_option linter.unusedSimpArgs false
namespace Go.Proofs.YtpcamocnlnlgiaaGreat.S
open Go.RowKit Go.Sd
def PlayPost (s : Sea.S) (noms plan : List Int) (w : World) (e : Ending) (w' : World) : Prop :=
 (∃ v, e = .returned (.tuple #[v, .int .i64 (playOf s noms plan).2.1, .agg #[.int .i64 (playOf s noms plan).2.2.1, .int .i64 (playOf s noms plan).2.2.2], .int .i64 0]) ∧ IntsAt w' v (playOf s noms plan).1) ∧ Below w.heap.size w w'
theorem PlayPost.of {s : Sea.S} {noms plan l : List Int} {c d r : Int} {w w' : World} {v : Value} (h : playOf s noms plan = (l, c, d, r)) (ho : IntsAt w' v l) (hb : Below w.heap.size w w') :
    PlayPost s noms plan w (.returned (.tuple #[v, .int .i64 c, .agg #[.int .i64 d, .int .i64 r], .int .i64 0])) w' := by
 unfold PlayPost; rw [h]; exact ⟨⟨v, rfl, ho⟩, hb⟩
theorem progPlayYes (sv nv pv : Value) (s : Sea.S) (noms plan : List Int) (w : World) (hs : SeasonAt w sv s) (hn : IntsAt w nv noms) (hp : IntsAt w pv plan) (ht : Sea.validB s = true) (hno : s.nomsB noms = true) (hpl : planB s plan = true) :
    Calls Tryz.prog 9 #[sv, nv, pv] w (PlayPost s noms plan w) := by
 have hs' := hs
 obtain ⟨rv, dv, rfl, hr, hd⟩ := hs'
 obtain ⟨W, hW⟩ : ∃ W, w.alloc (sBox s rv dv) = W := ⟨_, rfl⟩
 obtain ⟨hsz, hBw, q0, q1, q2, q3, q4, q5⟩ := box_season hW
 obtain ⟨X, hX⟩ : ∃ X, W.alloc (.cells #[.int .i64 0, .int .i64 0] 46) = X := ⟨_, rfl⟩
 have hBX : Below W.heap.size W X := by rw [← hX]; exact (Below.refl _ _).alloc (Nat.le_refl _) _
 have hnew := World.alloc_heap_new W (.cells #[.int .i64 0, .int .i64 0] 46)
 rw [hX] at hnew
 obtain ⟨hWX, d0, f0⟩ := row_cells hnew
 have d0a := d0 0
 have d0b := d0 1
 have f0a := f0 0
 have f0b := f0 1
 simp only [List.getElem?_toArray, List.getElem?_cons_zero, List.getElem?_cons_succ] at d0a d0b
 clear d0 f0 hnew
 have p0 := kept_cell hBX q0
 have p1 := kept_cell hBX q1
 have p2 := kept_cell hBX q2
 have p3 := kept_cell hBX q3
 have p4 := kept_cell hBX q4
 have p5 := kept_cell hBX q5
 have hwX : Below w.heap.size w X := hBw.trans (hBX.mono (Nat.le_of_lt hsz))
 have hwXs : w.heap.size < X.heap.size := Nat.lt_trans hsz hWX
 have hg := grow_cell X
 have hgf := grow_frozen X
 have ok := Sea.ok_of_valid ht
 have hsp := ok.space
 have hnd := ok.ndays
 have hv : Hid (Calls Tryz.prog 29 #[.agg #[.int .i64 s.space, .int .i64 s.start, .int .i64 s.elo, .int .i64 s.ehi, rv, dv]] X fun e w' => e = .returned (.bool true) ∧ Below X.heap.size X w') := progValidT X (hs.mono hwX) ht
 have hnn : Hid (∀ g : Grow X, Calls Tryz.prog 30 #[.agg #[.int .i64 s.space, .int .i64 s.start, .int .i64 s.elo, .int .i64 s.ehi, rv, dv], nv] g.x fun e w' => e = .returned (.bool true) ∧ Below g.x.heap.size g.x w') := fun g => progNominatedT g.x ((hs.mono hwX).mono g.h) ((hn.mono hwX).mono g.h) hno
 have hany : (plan.any fun d => !Sea.inB d (-100) 100) = false := by
  have := hpl
  rw [planAny, Bool.and_eq_true] at this
  simpa using this.1
 obtain ⟨hnl, hnb⟩ := noms_bd ok hno
 obtain ⟨hll, hlb⟩ := planB_at hpl
 have hpX := hp.mono hwX
 have hnX := hn.mono hwX
 obtain ⟨nb, noff, ncap, rfl, hnlt, hnm, hnk⟩ := int_cell hnX (by omega)
 obtain ⟨lb, loff, lcap, rfl, hplt, hpm, hpk⟩ := int_cell hpX (by omega)
 have hcc : Hid (∀ g : Grow X, Calls Tryz.prog 37 #[.slice (some ⟨lb, loff, none⟩) plan.length lcap, .func (.func 38) #[] #[]] g.x fun e w' => e = .returned (.bool false) ∧ Below g.x.heap.size g.x w') := fun g => by rw [← hany]; exact containsInts _ plan _ _ _ g.x (hpX.mono g.h) enter_play1 fun d X' hX' => progPlay1 d X'
 have hle : ((plan.length : Int) != (s.days.length : Int)) = false := by rw [hll]; simp
 have hrS := hr
 have hdS := hd
 obtain ⟨da, dcap, rfl, hdm, -⟩ := hd
 unfold maxLen at hdm
 have hcb : Hid (∀ t, t < s.days.length → -100000000 ≤ s.cost t (Sea.at0 plan t) ∧ s.cost t (Sea.at0 plan t) ≤ 100000000) := fun t ht => cost_bd ok ht (hlb t (by omega))
 replace hnk := Lib.hid hnk
 replace hpk := Lib.hid hpk
 replace hnb := Lib.hid hnb
 replace hlb := Lib.hid hlb
 replace hnl := Lib.hid hnl
 replace hll := Lib.hid hll
 replace hany := Lib.hid hany
 have hokH := Lib.hid ok
 have hplH := Lib.hid hpl
 clear hs hn hp hnX hpX ht hno hpl ok
 go_enter Tryz.func9, Tryz.ntmps9
 go_wp2_with (first | (go_at_call 29; refine Calls.mono hv.out ?_; rintro e w' ⟨rfl, hb1⟩; obtain ⟨g1, rfl⟩ : ∃ g1 : Grow X, w' = g1.x := ⟨⟨w', hb1⟩, rfl⟩) | (go_at_call 30; refine Calls.mono (hnn.out g1) ?_; rintro e w' ⟨rfl, hb2⟩; obtain ⟨g2, rfl⟩ := g1.next hb2) | (go_at_call 37; refine Calls.mono (hcc.out g2) ?_; rintro e w' ⟨rfl, hb3⟩; obtain ⟨g3, rfl⟩ := g2.next hb3; have hBg3 := hwX.trans (g3.h.mono hwX.size); have hlk := look_new (w := g3.x) (s := s) (mv := .map none) rfl (hrS.mono hBg3) (hdS.mono hBg3); obtain ⟨g4, hg4⟩ := g3.alloc (lBox s rv (.slice da s.days.length dcap) (.map none)); rw [hg4] at hlk))
 obtain ⟨lvb, hlvb⟩ : ∃ lvb, lvb = g3.x.heap.size := ⟨_, rfl⟩
 rw [← hlvb] at hlk ⊢
 go_quiet (fail)
 go_wp2_with (fail)
 obtain ⟨g5, hg5⟩ := g4.next (below_drewN (Below.refl _ _) nq)
 rw [hg5]
 have hlk5 : LookAt g5.x (.pointer (some ⟨lvb, 0, none⟩)) (.map none) s := by rw [← hg5]; exact hlk.mono (below_drewN (Below.refl _ _) nq)
 have n0 := g5.cell d0a
 have n1 := g5.cell d0b
 have n2 := (hgf g5 _ _ hWX).trans f0a
 have n3 := (hgf g5 _ _ hWX).trans f0b
 have hZ0 : Below w.heap.size w g5.x := hwX.trans (g5.h.mono hwX.size)
 have hWZ : W.heap.size < g5.x.heap.size := Nat.lt_of_lt_of_le hWX g5.size
 have hnkZ : Hid (∀ k, k < noms.length → g5.x.cell? ⟨nb, noff + k, none⟩ = some (.int .i64 (Sea.at0 noms k))) := fun k hk => g5.cell (hnk.out k hk)
 have hpkZ : Hid (∀ k, k < plan.length → g5.x.cell? ⟨lb, loff + k, none⟩ = some (.int .i64 (Sea.at0 plan k))) := fun k hk => g5.cell (hpk.out k hk)
 generalize g5.x = Z at *
 clear hg5 hlk hg4 hb1 hb2 hb3 hBg3 hv hnn hcc hg hgf p0 p1 p2 p3 p4 p5 q0 q1 q2 q3 q4 q5 d0a d0b f0a f0b hX hW hrS hdS hr hnk hpk hlvb
 go_loopw [11, 12, 13, 47] (fun p cost fill i wr => ∃ (t : Nat) (v : Value), t ≤ plan.length ∧ v = p ∧ i = .int .i64 t ∧ fill = .int .i64 (playTo s noms plan t).2.1 ∧ cost = .int .i64 (playTo s noms plan t).2.2 ∧
  Hid (faultTo s noms plan t = none) ∧ OwnInts Z.heap.size wr v (playTo s noms plan t).1 ∧ Below Z.heap.size Z wr) (fun _ _ _ i _ => plan.length - (intOf i).toNat)
 case atStart => exact ⟨0, _, by omega, rfl, rfl, rfl, rfl, (rfl : faultTo s noms plan 0 = none), OwnInts.nil _ _, Below.refl _ _⟩
 case round =>
  obtain ⟨t, v, ht, rfl, rfl, rfl, rfl, hF, ho, hB⟩ := hrel
  have hinv := play_inv hokH.out hplH.out t (by have := hll.out; omega) hF.out
  have hBs := hB.size
  have n0 := kept_cell hB n0
  have n1 := kept_cell hB n1
  have n2 := (hB.frozen (p := ⟨W.heap.size, 0, none⟩) hWZ).trans n2
  have n3 := (hB.frozen (p := ⟨W.heap.size, 1, none⟩) hWZ).trans n3
  have hplen := playTo_len s noms plan t
  have hroE : Hid (ruleOn s noms plan t = s.rule t (playTo s noms plan t).2.1 (Sea.at0 noms t) (Sea.at0 plan t)) := rfl
  have hne : Hid (playTo s noms plan (t + 1) = ((playTo s noms plan t).1 ++ [(playTo s noms plan t).2.1 + Sea.at0 noms t + Sea.at0 plan t], (playTo s noms plan t).2.1 + Sea.at0 noms t + Sea.at0 plan t, (playTo s noms plan t).2.2 + s.cost t (Sea.at0 plan t))) := rfl
  have hhit := fun hr hl => playOf_hit (s := s) (noms := noms) (plan := plan) (t := t) hF.out hr hl
  replace hhit := Lib.hid hhit
  have hfin : t = plan.length → playOf s noms plan = ((playTo s noms plan t).1, (playTo s noms plan t).2.2, 0, 1) := fun e => by rw [e]; exact playOf_fine (by rw [← e]; exact hF.out)
  replace hfin := Lib.hid hfin
  generalize playTo s noms plan t = pt at *
  obtain ⟨l, fill, cost⟩ := pt
  simp only at hinv hroE hne hhit hfin ho hplen
  obtain ⟨hi1, hi2⟩ := hinv
  have hlen : l.length ≤ 1000000 := by have := hll.out; omega
  replace hplen := Lib.hid hplen
  have hwwr : Below w.heap.size w wr := hZ0.trans (hB.mono hZ0.size)
  by_cases hlt : t < plan.length
  · have htd : t < s.days.length := by have := hll.out; omega
    have e0 := kept_cell hB (hnkZ.out t (by have := hnl.out; omega))
    have e1 := kept_cell hB (hpkZ.out t hlt)
    have hnt := hnb.out t htd
    have hlt2 := hlb.out t hlt
    have hct := hcb.out t htd
    have hff : 0 ≤ fill ∧ fill ≤ 100 := by omega
    have hR := fun (Y : World) (hY : Below wr.heap.size wr Y) => progRule (.pointer (some ⟨lvb, 0, none⟩)) (.map none) s t fill (Sea.at0 noms t) (Sea.at0 plan t) Y (hlk5.mono (hB.trans (hY.mono hBs))) htd hokH.out hff hnt hlt2
    have hBe := fun (Y : World) => progBehind (.pointer (some ⟨lvb, 0, none⟩)) t fill (Sea.at0 noms t) (Sea.at0 plan t) Y hff hnt hlt2
    have hC := fun (Y : World) (hY : Below Z.heap.size Z Y) => progCost (.pointer (some ⟨lvb, 0, none⟩)) (.map none) s t fill (Sea.at0 noms t) (Sea.at0 plan t) Y (hlk5.mono hY) htd hokH.out hlt2
    simp only [← hroE.out] at hR
    generalize Sea.at0 noms t = nt at *
    generalize Sea.at0 plan t = x at *
    generalize s.cost t x = ct at *
    have hidx : (0 : Int) ≤ (t : Int) ∧ (t : Int) < noms.length ∧ (t : Int) < plan.length := by have := hnl.out; omega
    obtain ⟨O, hO⟩ : ∃ O, wr.alloc (oBox (.pointer (some ⟨lvb, 0, none⟩)) t fill nt x) = O := ⟨_, rfl⟩
    obtain ⟨hOs, hBO, o0, o1, o2, o3, o4⟩ := box_order hO
    have hRO := Lib.hid (hR O hBO)
    replace hBe := Lib.hid hBe
    replace hC := Lib.hid hC
    have hoH := Lib.hid ho
    have hob := Lib.hid ho.lt
    clear hR ho
    by_cases hr : ruleOn s noms plan t = 1
    · have hFn := Lib.hid (faultTo_miss hF.out hr)
      rw [hr] at hRO
      replace hr := Lib.hid hr
      have hne2 : v.ownBlock ≠ some wr.heap.size := fun e => by have := (hob.out _ e).2; omega
      go_wp2_with (first
       | (go_at_call 40; refine Calls.mono hRO.out ?_; rintro e w1 ⟨rfl, hb1⟩; have o0 := kept_cell hb1 o0; have o1 := kept_cell hb1 o1; have o2 := kept_cell hb1 o2; have o3 := kept_cell hb1 o3; have o4 := kept_cell hb1 o4)
       | (go_at_call 36; refine Calls.mono (hBe.out _) ?_; rintro e w2 ⟨rfl, hb2⟩; have o0 := kept_cell hb2 o0; have o1 := kept_cell hb2 o1; have o2 := kept_cell hb2 o2; have o3 := kept_cell hb2 o3; have o4 := kept_cell hb2 o4; have hB2 := below_tr (below_tr hBO hb1) hb2; have hoK := Lib.hid (hoH.out.mono hB2); have hK2 := hB.trans (hB2.mono hBs); have hKs := hK2.size; have hol := World.block_lt_of_cell? _ ⟨_, _, none⟩ o0)
       | (at_builtin; refine wpList_app_int (by rfl) _ _ (by rfl) Z.heap.size w2 v _ (fill + nt + x) (by rfl) hoK.out (by rfl) hlen hKs ?_; intro v1 w3 ho1 hg1 hn1 hat1; have o0 := (hg1.cell_far ⟨wr.heap.size, 0, none⟩ hol (Ne.symm hne2)).trans o0; have o1 := (hg1.cell_far ⟨wr.heap.size, 1, none⟩ hol (Ne.symm hne2)).trans o1; have o2 := (hg1.cell_far ⟨wr.heap.size, 2, none⟩ hol (Ne.symm hne2)).trans o2; have o3 := (hg1.cell_far ⟨wr.heap.size, 3, none⟩ hol (Ne.symm hne2)).trans o3; have o4 := (hg1.cell_far ⟨wr.heap.size, 4, none⟩ hol (Ne.symm hne2)).trans o4; have hB3 := below_append hK2 hKs hoK.out hg1; replace ho1 := Lib.hid ho1)
       | (go_at_call 41; refine Calls.mono (hC.out _ hB3) ?_; rintro e w4 ⟨rfl, hb4⟩))
      have hB4 := hB3.trans (hb4.mono hB3.size)
      exact ⟨⟨t + 1, v1, by omega, rfl, by go_num, by rw [hne.out], by rw [hne.out], hFn, by rw [hne.out]; exact ho1.out.mono hb4, hB4⟩, by simp [intOf]; omega⟩
    · have hrn : (ruleOn s noms plan t != 1) = true := by simpa using hr
      have hH := Lib.hid (hhit.out hr hlt)
      replace hr := Lib.hid hr
      go_wp2_with (first
       | (go_at_call 40; refine Calls.mono hRO.out ?_; rintro e w1 ⟨rfl, hb1⟩; have hBY := below_tr hBO hb1; have n0 := kept_cell hBY n0; have n1 := kept_cell hBY n1; have n2 := (hBY.frozen (p := ⟨W.heap.size, 0, none⟩) (Nat.lt_of_lt_of_le hWZ hBs)).trans n2; have n3 := (hBY.frozen (p := ⟨W.heap.size, 1, none⟩) (Nat.lt_of_lt_of_le hWZ hBs)).trans n3))
      refine bodyPost_ret (v := .tuple #[v, .int .i64 cost, .agg #[.int .i64 t, .int .i64 (ruleOn s noms plan t)], .int .i64 0]) (by simp [results, Tryz.results9, go_sem, n0, n1, n2, n3]) rfl ?_
      have hwY := hwwr.trans (hBY.mono hwwr.size)
      exact PlayPost.of hH.out (((hoH.out.mono hBY).cellset hWZ _).cellset hWZ _).at ((hwY.setCell (by show _ ≤ W.heap.size; omega) _).setCell (by show _ ≤ W.heap.size; omega) _)
  · have hle : t = plan.length := by omega
    have hti : ¬ ((t : Int) < (plan.length : Int)) := by omega
    have hH := Lib.hid (hfin.out hle)
    have hoH := Lib.hid ho
    replace hle := Lib.hid hle
    clear ho
    go_wp2_with (fail)
    refine bodyPost_ret (v := .tuple #[v, .int .i64 cost, .agg #[.int .i64 0, .int .i64 1], .int .i64 0]) (by simp [results, Tryz.results9, go_sem, n0, n1, n2, n3]) rfl ?_
    exact PlayPost.of hH.out ((hoH.out.cellset hWZ _).cellset hWZ _).at ((hwwr.setCell (by show _ ≤ W.heap.size; omega) _).setCell (by show _ ≤ W.heap.size; omega) _)
end Go.Proofs.YtpcamocnlnlgiaaGreat.S
set_option linter.unusedVariables false
set_option linter.unusedSimpArgs false
namespace Go.Proofs.YtpcamocnlnlgiaaGreat.S
open Go.RowKit Go.Sd
def RefBestPost (s : Sea.S) (noms : List Int) (w : World) (e : Ending) (w' : World) : Prop :=
 ∃ v, e = .returned (.tuple #[v, .int .i64 (bestCost s noms), .bool true]) ∧ OwnInts w.heap.size w' v (planTo s noms s.days.length).1 ∧ Below w.heap.size w w'
theorem RefBestPost.of {s : Sea.S} {noms : List Int} {w w' : World} {v : Value} {c : Int} (h : bestCost s noms = c) (ho : OwnInts w.heap.size w' v (planTo s noms s.days.length).1) (hb : Below w.heap.size w w') :
    RefBestPost s noms w (.returned (.tuple #[v, .int .i64 c, .bool true])) w' := ⟨v, by rw [h], ho, hb⟩
end Go.Proofs.YtpcamocnlnlgiaaGreat.S
set_option linter.unusedVariables false
set_option linter.unusedSimpArgs false
namespace Go.Proofs.YtpcamocnlnlgiaaGreat.S
open Go.RowKit Go.Sd
theorem IntsAt.nil (w : World) : IntsAt w (.slice none 0 0) [] := ⟨none, 0, rfl, by simp, fun h => absurd h (by simp)⟩
theorem IntsAt.form {w : World} {v : Value} {l : List Int} (h : IntsAt w v l) : ∃ a cap, v = .slice a l.length cap := by
 obtain ⟨a, cap, rfl, -⟩ := h
 exact ⟨a, cap, rfl⟩
theorem progBestT {sv nv : Value} {s : Sea.S} {noms l : List Int} {c f : Int} (w : World) (hs : SeasonAt w sv s) (hn : IntsAt w nv noms) (h : bestOf s noms = (l, c, f)) :
    Calls Tryz.prog 8 #[sv, nv] w fun e w' => (∃ a cap, e = .returned (.tuple #[.slice a l.length cap, .int .i64 c, .int .i64 f]) ∧ IntsAt w' (.slice a l.length cap) l) ∧ Below w.heap.size w w' := by
 cases ht : Sea.validB s
 · rw [bestOf_no (.inl ht)] at h
   cases h
   exact (progBestNo sv nv s noms w hs hn (.inl ht)).mono fun e w' ⟨he, hb⟩ => ⟨⟨none, 0, he, IntsAt.nil _⟩, hb⟩
 · cases hno : s.nomsB noms
   · rw [bestOf_no (.inr hno)] at h
     cases h
     exact (progBestNo sv nv s noms w hs hn (.inr hno)).mono fun e w' ⟨he, hb⟩ => ⟨⟨none, 0, he, IntsAt.nil _⟩, hb⟩
   · refine (progBestYes sv nv s noms w hs hn ht hno).mono fun e w' hp => ?_
     obtain ⟨v, he, ho, hb⟩ := hp
     rw [h] at he ho
     obtain ⟨a, cap, rfl⟩ := ho.at.form
     exact ⟨⟨a, cap, he, ho.at⟩, hb⟩
end Go.Proofs.YtpcamocnlnlgiaaGreat.S
set_option linter.unusedVariables false
set_option linter.unusedSimpArgs false
namespace Go.Proofs.YtpcamocnlnlgiaaGreat.S
open Go.RowKit Go.Sd
theorem progPlayT {sv nv pv : Value} {s : Sea.S} {noms plan l : List Int} {c d r : Int} (w : World) (hs : SeasonAt w sv s) (hn : IntsAt w nv noms) (hp : IntsAt w pv plan) (ht : Sea.validB s = true) (hno : s.nomsB noms = true) (hpl : planB s plan = true) (h : playOf s noms plan = (l, c, d, r)) :
    Calls Tryz.prog 9 #[sv, nv, pv] w fun e w' => (∃ a cap, e = .returned (.tuple #[.slice a l.length cap, .int .i64 c, .agg #[.int .i64 d, .int .i64 r], .int .i64 0]) ∧ IntsAt w' (.slice a l.length cap) l) ∧ Below w.heap.size w w' := by
 refine (progPlayYes sv nv pv s noms plan w hs hn hp ht hno hpl).mono fun e w' hpo => ?_
 unfold PlayPost at hpo
 rw [h] at hpo
 obtain ⟨⟨v, he, ho⟩, hb⟩ := hpo
 obtain ⟨a, cap, rfl⟩ := ho.form
 exact ⟨⟨a, cap, he, ho⟩, hb⟩
end Go.Proofs.YtpcamocnlnlgiaaGreat.S
set_option linter.unusedVariables false
set_option linter.unusedSimpArgs false
namespace Go.Proofs.YtpcamocnlnlgiaaGreat.S
open Go.Sd
theorem leastTo_le {s : Sea.S} {d : Nat} {f nom : Int} {next : List Int} : ∀ (k i : Nat), i < k → s.rule d f nom ((i : Int) - (Sea.dayAt s.days d).take) = 1 → Sea.at0 next (f + nom + ((i : Int) - (Sea.dayAt s.days d).take)).toNat < Sea.never →
    (Sea.leastTo s d f nom next k).1 ≤ s.cost d ((i : Int) - (Sea.dayAt s.days d).take) + Sea.at0 next (f + nom + ((i : Int) - (Sea.dayAt s.days d).take)).toNat
 | 0, i, h, _, _ => by omega
 | k + 1, i, h, hr, hn => by
  simp only [Sea.leastTo]
  by_cases e : i = k
  · subst e
    split
    · exact Int.le_refl _
    · rename_i hc
      have : ¬ (s.cost d ((i : Int) - (Sea.dayAt s.days d).take) + Sea.at0 next (f + nom + ((i : Int) - (Sea.dayAt s.days d).take)).toNat < (Sea.leastTo s d f nom next i).1) := fun h3 => hc ⟨hr, hn, h3⟩
      omega
  · have := leastTo_le k i (by omega) hr hn
    split
    · rename_i hc; omega
    · exact this
theorem rule_range {s : Sea.S} {d : Nat} {f nom x : Int} (h : s.rule d f nom x = 1) : -(Sea.dayAt s.days d).take ≤ x ∧ x ≤ (Sea.dayAt s.days d).offer := by
 unfold Sea.S.rule at h
 split at h
 · omega
 · split at h
   · omega
   · omega
theorem rule_last {s : Sea.S} {d : Nat} {f nom x : Int} (h : s.rule d f nom x = 1) (hd : d + 1 = s.days.length) : Sea.inB (f + nom + x) s.elo s.ehi = true := by
 unfold Sea.S.rule at h
 split at h
 · omega
 · split at h
   · omega
   · split at h
     · omega
     · split at h
       · omega
       · split at h
         · omega
         · split at h
           · omega
           · rename_i hn
             cases hb : Sea.inB (f + nom + x) s.elo s.ehi
             · exact absurd ⟨by omega, hb⟩ hn
             · rfl
theorem least_le {s : Sea.S} {d : Nat} {f nom x : Int} {next : List Int} (hr : s.rule d f nom x = 1) (hn : Sea.at0 next (f + nom + x).toNat < Sea.never) :
    (s.least d f nom next).1 ≤ s.cost d x + Sea.at0 next (f + nom + x).toNat := by
 have hg := rule_range hr
 obtain ⟨i, hi⟩ := Int.eq_ofNat_of_zero_le (show 0 ≤ x + (Sea.dayAt s.days d).take by omega)
 have hx : x = (i : Int) - (Sea.dayAt s.days d).take := by omega
 have := leastTo_le (s := s) (d := d) (f := f) (nom := nom) (next := next) ((Sea.dayAt s.days d).take + (Sea.dayAt s.days d).offer + 1).toNat i (by omega) (by rw [← hx]; exact hr) (by rw [← hx]; exact hn)
 rw [← hx] at this
 exact this
theorem faultTo_less {s : Sea.S} {noms plan : List Int} {t n : Nat} (h : faultTo s noms plan n = none) (ht : t ≤ n) : faultTo s noms plan t = none := by
 cases h1 : faultTo s noms plan t with
 | none => rfl
 | some d => rw [faultTo_stay h1 n ht] at h; cases h
theorem vals_step {s : Sea.S} (noms : List Int) {j d : Nat} {f : Int} (hd : d + 1 + j = s.days.length) (hf : 0 ≤ f ∧ f ≤ s.space) :
    Sea.at0 (s.vals noms (j + 1)) f.toNat = (s.least d f (Sea.at0 noms d) (s.vals noms j)).1 := by
 obtain ⟨k, rfl⟩ := Int.eq_ofNat_of_zero_le hf.1
 rw [Int.toNat_natCast, Sea.S.vals, at0_map (by omega), show s.days.length - 1 - j = d by omega]
theorem vals_end {s : Sea.S} (noms : List Int) {f : Int} (hf : 0 ≤ f ∧ f ≤ s.space) (h : Sea.inB f s.elo s.ehi = true) : Sea.at0 (s.vals noms 0) f.toNat = 0 := by
 obtain ⟨k, rfl⟩ := Int.eq_ofNat_of_zero_le hf.1
 rw [Int.toNat_natCast]
 show Sea.at0 s.last k = 0
 unfold Sea.S.last
 rw [at0_map (by omega)]
 unfold Sea.S.lastAt
 rw [if_pos h]
theorem play_lower {s : Sea.S} (ok : Sea.Ok s) {noms plan : List Int} (hp : planB s plan = true) (hF : faultTo s noms plan s.days.length = none) : ∀ j t, t + j = s.days.length →
    Sea.at0 (s.vals noms j) (playTo s noms plan t).2.1.toNat ≤ (playTo s noms plan s.days.length).2.2 - (playTo s noms plan t).2.2 ∧ Sea.at0 (s.vals noms j) (playTo s noms plan t).2.1.toNat < Sea.never
 | 0, t, ht => by
  obtain rfl : t = s.days.length := by omega
  have hnd := ok.ndays
  obtain ⟨m, hm⟩ : ∃ m, s.days.length = m + 1 := ⟨s.days.length - 1, by omega⟩
  have hi := play_inv ok hp s.days.length (Nat.le_refl _) hF
  rw [hm] at hF hi ⊢
  have hr := (faultTo_none hF).2
  have he := rule_last hr (by omega)
  have : (playTo s noms plan (m + 1)).2.1 = (playTo s noms plan m).2.1 + Sea.at0 noms m + Sea.at0 plan m := rfl
  rw [vals_end noms hi.1 (by rw [this]; exact he)]
  unfold Sea.never
  omega
 | j + 1, t, ht => by
  have hnd := ok.ndays
  have h1 := faultTo_less hF (t := t + 1) (by omega)
  obtain ⟨h2, hr⟩ := faultTo_none h1
  obtain ⟨i1, i2⟩ := play_lower ok hp hF j (t + 1) (by omega)
  have b1 := play_inv ok hp t (by omega) h2
  have b2 := play_inv ok hp s.days.length (Nat.le_refl _) hF
  have hs : playTo s noms plan (t + 1) = ((playTo s noms plan t).1 ++ [(playTo s noms plan t).2.1 + Sea.at0 noms t + Sea.at0 plan t], (playTo s noms plan t).2.1 + Sea.at0 noms t + Sea.at0 plan t, (playTo s noms plan t).2.2 + s.cost t (Sea.at0 plan t)) := rfl
  rw [hs] at i1 i2
  simp only at i1 i2
  have hl := least_le (next := s.vals noms j) hr i2
  rw [vals_step (d := t) noms (by omega) b1.1]
  have : ((t : Int)) ≤ 20 := by omega
  unfold Sea.never
  omega
theorem planTo_at {s : Sea.S} {noms : List Int} {t : Nat} : ∀ m, t < m → Sea.at0 (planTo s noms m).1 t = (s.least t (planTo s noms t).2 (Sea.at0 noms t) (s.vals noms (s.days.length - 1 - t))).2
 | 0, h => by omega
 | m + 1, h => by
  have hl := planTo_len s noms m
  simp only [planTo]
  unfold Sea.at0
  by_cases e : t = m
  · subst e
    rw [List.getD_eq_getElem?_getD, List.getElem?_append_right (by omega)]
    simp [hl]
  · have := planTo_at (s := s) (noms := noms) m (t := t) (by omega)
    unfold Sea.at0 at this
    rw [List.getD_eq_getElem?_getD, List.getElem?_append_left (by omega), ← List.getD_eq_getElem?_getD]
    exact this
theorem plan_play {s : Sea.S} (ok : Sea.Ok s) {noms : List Int} (h : ¬ bestCost s noms = Sea.never) : ∀ t, t ≤ s.days.length →
    faultTo s noms (planTo s noms s.days.length).1 t = none ∧ (playTo s noms (planTo s noms s.days.length).1 t).2.1 = (planTo s noms t).2 ∧ (0 ≤ (planTo s noms t).2 ∧ (planTo s noms t).2 ≤ s.space) ∧
     Sea.at0 (s.vals noms (s.days.length - t)) (planTo s noms t).2.toNat < Sea.never ∧ (playTo s noms (planTo s noms s.days.length).1 t).2.2 + Sea.at0 (s.vals noms (s.days.length - t)) (planTo s noms t).2.toNat = bestCost s noms ∧
     ∀ k, k < t → -100 ≤ Sea.at0 (planTo s noms s.days.length).1 k ∧ Sea.at0 (planTo s noms s.days.length).1 k ≤ 100
 | 0, _ => by
  refine ⟨rfl, rfl, ok.start, ?_, ?_, fun k hk => by omega⟩
  · have := (vals_bd ok noms s.days.length (Nat.le_refl _) s.start.toNat).2
    unfold bestCost at h
    show Sea.at0 (s.vals noms (s.days.length - 0)) s.start.toNat < _
    rw [Nat.sub_zero]
    omega
  · show (0 : Int) + Sea.at0 (s.vals noms (s.days.length - 0)) s.start.toNat = _
    rw [Nat.sub_zero]
    unfold bestCost
    omega
 | t + 1, ht => by
  obtain ⟨h1, h2, h3, h4, h5, h6⟩ := plan_play ok h t (by omega)
  obtain ⟨j, hj⟩ : ∃ j, t + 1 + j = s.days.length := ⟨s.days.length - t - 1, by omega⟩
  rw [show s.days.length - t = j + 1 by omega] at h4 h5
  obtain ⟨u, hu1, -, hu3, hu4, hu5, hu6, hu7⟩ := step_of ok noms hj h3 h4
  have ho := order_in ok (by omega) hu1
  have hat : Sea.at0 (planTo s noms s.days.length).1 t = u := by
   rw [planTo_at s.days.length (by omega), show s.days.length - 1 - t = j by omega, hu3]
  have hpl : (planTo s noms (t + 1)).2 = (planTo s noms t).2 + Sea.at0 noms t + u := by
   show (planTo s noms t).2 + Sea.at0 noms t + (s.least t (planTo s noms t).2 (Sea.at0 noms t) (s.vals noms (s.days.length - 1 - t))).2 = _
   rw [show s.days.length - 1 - t = j by omega, hu3]
  have hr : ruleOn s noms (planTo s noms s.days.length).1 t = 1 := by
   unfold ruleOn
   rw [h2, hat]
   exact ho.2.2.1
  refine ⟨faultTo_miss h1 hr, ?_, ?_, ?_, ?_, ?_⟩
  · show (playTo s noms (planTo s noms s.days.length).1 t).2.1 + Sea.at0 noms t + Sea.at0 (planTo s noms s.days.length).1 t = _
    rw [h2, hat, hpl]
  · rw [hpl]; exact ⟨hu4, hu5⟩
  · rw [hpl, show s.days.length - (t + 1) = j by omega]; exact hu6
  · show (playTo s noms (planTo s noms s.days.length).1 t).2.2 + s.cost t (Sea.at0 (planTo s noms s.days.length).1 t) + _ = _
    rw [hpl, show s.days.length - (t + 1) = j by omega, hat]
    omega
  · intro k hk
    by_cases e : k = t
    · subst e; rw [hat]; exact ⟨ho.1, ho.2.1⟩
    · exact h6 k (by omega)
theorem best_plan {s : Sea.S} (ok : Sea.Ok s) {noms : List Int} (h : ¬ bestCost s noms = Sea.never) :
    planB s (planTo s noms s.days.length).1 = true ∧ faultTo s noms (planTo s noms s.days.length).1 s.days.length = none ∧ (playTo s noms (planTo s noms s.days.length).1 s.days.length).2.2 = bestCost s noms := by
 obtain ⟨h1, h2, h3, -, h5, h6⟩ := plan_play ok h s.days.length (Nat.le_refl _)
 have hl := planTo_len s noms s.days.length
 have hp : planB s (planTo s noms s.days.length).1 = true := by
  unfold planB
  rw [Bool.and_eq_true]
  refine ⟨List.all_eq_true.2 fun k hk => ?_, by simpa using hl⟩
  rw [List.mem_range, hl] at hk
  exact Sea.inB_iff.2 (h6 k hk)
 refine ⟨hp, h1, ?_⟩
 have := play_lower ok hp h1 0 s.days.length (by omega)
 rw [Nat.sub_self] at h5
 have hnd := ok.ndays
 obtain ⟨m, hm⟩ : ∃ m, s.days.length = m + 1 := ⟨s.days.length - 1, by omega⟩
 have h1' := h1
 rw [hm] at h1'
 have hr := (faultTo_none h1').2
 have he := rule_last hr (by omega)
 rw [← hm] at he
 have e2 : (playTo s noms (planTo s noms s.days.length).1 m).2.1 + Sea.at0 noms m + Sea.at0 (planTo s noms s.days.length).1 m = (planTo s noms s.days.length).2 := by
  rw [← h2]
  have : ∀ q, q = m + 1 → (playTo s noms (planTo s noms s.days.length).1 m).2.1 + Sea.at0 noms m + Sea.at0 (planTo s noms s.days.length).1 m = (playTo s noms (planTo s noms s.days.length).1 q).2.1 := fun q hq => by subst hq; rfl
  exact this _ hm
 rw [e2] at he
 rw [vals_end noms h3 he] at h5
 omega
end Go.Proofs.YtpcamocnlnlgiaaGreat.S
