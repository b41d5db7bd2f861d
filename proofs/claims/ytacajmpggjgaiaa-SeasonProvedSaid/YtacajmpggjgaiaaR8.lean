/- Walks of the reference: what a plan does. -/
import Derived.Test.YtacajmpggjgaiaaPly
import Derived.Test.YtacajmpggjgaiaaR3
set_option linter.unusedVariables false
set_option linter.unusedSimpArgs false
namespace Go.Proofs.Ytacajmpggjgaiaa
open Go.RowKit Go.Sd

/-- What the reference's Play leaves. -/
def RefPlayPost (s : Sea.S) (noms plan : List Int) (w : World) (e : Ending) (w' : World) : Prop :=
  (∃ v, e = .returned (.tuple #[v, .int .i64 (playOf s noms plan).2.1, .agg #[.int .i64 (playOf s noms plan).2.2.1, .int .i64 (playOf s noms plan).2.2.2]]) ∧ IntsAt w' v (playOf s noms plan).1) ∧ Below w.heap.size w w'
theorem RefPlayPost.of {s : Sea.S} {noms plan l : List Int} {c d r : Int} {w w' : World} {v : Value} (h : playOf s noms plan = (l, c, d, r)) (ho : IntsAt w' v l) (hb : Below w.heap.size w w') :
    RefPlayPost s noms plan w (.returned (.tuple #[v, .int .i64 c, .agg #[.int .i64 d, .int .i64 r]])) w' := by
  unfold RefPlayPost; rw [h]; exact ⟨⟨v, rfl, ho⟩, hb⟩

theorem OwnInts.cellset {B : Nat} {w : World} {v : Value} {xs : List Int} (h : OwnInts B w v xs) {p : Addr} (hp : p.block < B) (u : Value) : OwnInts B (w.setCell p u) v xs :=
  h.same fun k e => Below.heap_setCell _ _ _ _ (fun e' => by have := (h.lt k e).1; rw [e'] at this; omega)

set_option maxRecDepth 100000 in
set_option maxHeartbeats 8000000 in
theorem refPlay (sv nv pv : Value) (s : Sea.S) (noms plan : List Int) (w : World) (hs : SeasonAt w sv s) (hn : IntsAt w nv noms) (hp : IntsAt w pv plan) (ok : Sea.Ok s) (hno : s.nomsB noms = true) (hpl : planB s plan = true) :
    Calls Try.prog 47 #[sv, nv, pv] w (RefPlayPost s noms plan w) := by
  have hs' := hs
  obtain ⟨rv, dv, rfl, -, -⟩ := hs'
  have hsp := ok.space
  have hnd := ok.ndays
  obtain ⟨hnl, hnb⟩ := noms_bd ok hno
  obtain ⟨hll, hlb⟩ := planB_at hpl
  obtain ⟨W, hW⟩ : ∃ W, w.alloc (sBox s rv dv) = W := ⟨_, rfl⟩
  obtain ⟨hsz, hBw, q0, q1, q2, q3, q4, q5⟩ := box_season hW
  obtain ⟨X, hX⟩ : ∃ X, W.alloc (.cells #[.int .i64 0, .int .i64 0] 74) = X := ⟨_, rfl⟩
  have hBX : Below W.heap.size W X := by rw [← hX]; exact (Below.refl _ _).alloc (Nat.le_refl _) _
  have hnew := World.alloc_heap_new W (.cells #[.int .i64 0, .int .i64 0] 74)
  rw [hX] at hnew
  obtain ⟨hWX, d0, f0⟩ := row_cells hnew
  have d0a := d0 0
  have d0b := d0 1
  have f0a := f0 0
  have f0b := f0 1
  simp only [List.getElem?_toArray, List.getElem?_cons_zero, List.getElem?_cons_succ] at d0a d0b
  clear d0 f0 hnew
  have p0 := kept_cell hBX q0
  have p1 := kept_cell hBX q1
  have p2 := kept_cell hBX q2
  have p3 := kept_cell hBX q3
  have p4 := kept_cell hBX q4
  have p5 := kept_cell hBX q5
  have hwX : Below w.heap.size w X := hBw.trans (hBX.mono (Nat.le_of_lt hsz))
  have hnX := hn.mono hwX
  have hpX := hp.mono hwX
  obtain ⟨nb, noff, ncap, rfl, hnlt, hnm, hnk⟩ := int_cell hnX (by omega)
  obtain ⟨lb, loff, lcap, rfl, hplt, hpm, hpk⟩ := int_cell hpX (by omega)
  have hrb : Hid (∀ (t : Nat) (fill : Int) (Y : World), Below w.heap.size w Y → t < s.days.length → 0 ≤ fill ∧ fill ≤ s.space → Calls Try.prog 78 #[.agg #[.int .i64 s.space, .int .i64 s.start, .int .i64 s.elo, .int .i64 s.ehi, rv, dv], .int .i64 t, .int .i64 fill, .int .i64 (Sea.at0 noms t), .int .i64 (Sea.at0 plan t)] Y fun e w' => e = .returned (.int .i64 (s.rule t fill (Sea.at0 noms t) (Sea.at0 plan t))) ∧ Below Y.heap.size Y w') := by
    intro t fill Y hY ht hf
    have h := refBreaks _ s t fill (Sea.at0 noms t) (Sea.at0 plan t) Y (hs.mono hY) ok (by omega) (by omega) (by omega) (hnb t ht) (hlb t (by omega))
    rw [Int.toNat_natCast] at h
    exact h
  have hrc : Hid (∀ (t : Nat) (Y : World), Below w.heap.size w Y → t < s.days.length → Calls Try.prog 49 #[.agg #[.int .i64 s.space, .int .i64 s.start, .int .i64 s.elo, .int .i64 s.ehi, rv, dv], .int .i64 t, .int .i64 (Sea.at0 plan t)] Y fun e w' => e = .returned (.int .i64 (s.cost t (Sea.at0 plan t))) ∧ Below Y.heap.size Y w') := by
    intro t Y hY ht
    have h := refCost _ s t (Sea.at0 plan t) Y (hs.mono hY) ok (by omega) (by omega) (hlb t (by omega))
    rw [Int.toNat_natCast] at h
    exact h
  have hcb : Hid (∀ t, t < s.days.length → -100000000 ≤ s.cost t (Sea.at0 plan t) ∧ s.cost t (Sea.at0 plan t) ≤ 100000000) := fun t ht => cost_bd ok ht (hlb t (by omega))
  replace hnk := Lib.hid hnk
  replace hpk := Lib.hid hpk
  replace hnb := Lib.hid hnb
  replace hlb := Lib.hid hlb
  have hnl' : (noms.length : Int) = (s.days.length : Int) := by omega
  have hnlH := Lib.hid hnl
  have hllH := Lib.hid hll
  have hok := Lib.hid ok
  have hplH := Lib.hid hpl
  clear hs hn hp hnX hpX hno hpl ok q0 q1 q2 q3 q4 q5 hnl' hnl hll
  go_enter Try.func47, Try.ntmps47
  go_wp2_with (fail)
  go_loopw [9, 10, 11, 12] (fun p fill cost i wr => ∃ (t : Nat) (v : Value), t ≤ plan.length ∧ v = p ∧ i = .int .i64 t ∧ fill = .int .i64 (playTo s noms plan t).2.1 ∧ cost = .int .i64 (playTo s noms plan t).2.2 ∧
    Hid (faultTo s noms plan t = none) ∧ OwnInts X.heap.size wr v (playTo s noms plan t).1 ∧ Below X.heap.size X wr) (fun _ _ _ i _ => plan.length - (intOf i).toNat)
  case atStart => exact ⟨0, _, by omega, rfl, rfl, rfl, rfl, (rfl : faultTo s noms plan 0 = none), OwnInts.nil _ _, Below.refl _ _⟩
  case round =>
    obtain ⟨t, v, ht, rfl, rfl, rfl, rfl, hF, ho, hB⟩ := hrel
    have hinv := play_inv hok.out hplH.out t (by have := hllH.out; omega) hF.out
    have hBs := hB.size
    have m0 := kept_cell hB p0
    have m1 := kept_cell hB p1
    have m2 := kept_cell hB p2
    have m3 := kept_cell hB p3
    have m4 := kept_cell hB p4
    have m5 := kept_cell hB p5
    have n0 := kept_cell hB d0a
    have n1 := kept_cell hB d0b
    have n2 := (hB.frozen (p := ⟨W.heap.size, 0, none⟩) hWX).trans f0a
    have n3 := (hB.frozen (p := ⟨W.heap.size, 1, none⟩) hWX).trans f0b
    have hplen := playTo_len s noms plan t
    have hroE : Hid (ruleOn s noms plan t = s.rule t (playTo s noms plan t).2.1 (Sea.at0 noms t) (Sea.at0 plan t)) := rfl
    have hne : Hid (playTo s noms plan (t + 1) = ((playTo s noms plan t).1 ++ [(playTo s noms plan t).2.1 + Sea.at0 noms t + Sea.at0 plan t], (playTo s noms plan t).2.1 + Sea.at0 noms t + Sea.at0 plan t, (playTo s noms plan t).2.2 + s.cost t (Sea.at0 plan t))) := rfl
    have hhit := fun hr hl => playOf_hit (s := s) (noms := noms) (plan := plan) (t := t) hF.out hr hl
    replace hhit := Lib.hid hhit
    have hfin : t = plan.length → playOf s noms plan = ((playTo s noms plan t).1, (playTo s noms plan t).2.2, 0, 1) := fun e => by rw [e]; exact playOf_fine (by rw [← e]; exact hF.out)
    replace hfin := Lib.hid hfin
    generalize playTo s noms plan t = pt at *
    obtain ⟨l, fill, cost⟩ := pt
    simp only at hinv hroE hne hhit hfin ho hplen
    obtain ⟨hi1, hi2⟩ := hinv
    have hlen : l.length ≤ 1000000 := by have := hllH.out; omega
    replace hplen := Lib.hid hplen
    by_cases hlt : t < plan.length
    · have htd : t < s.days.length := by have := hllH.out; omega
      have e0 := kept_cell hB (hnk.out t (by have := hnlH.out; omega))
      have e1 := kept_cell hB (hpk.out t hlt)
      have hB1 := hrb.out t fill
      have hC1 := hrc.out t
      have hnt := hnb.out t htd
      have hlt2 := hlb.out t hlt
      have hct := hcb.out t htd
      rw [← hroE.out] at hB1
      generalize Sea.at0 noms t = nt at *
      generalize Sea.at0 plan t = x at *
      generalize s.cost t x = ct at *
      have hidx : (0 : Int) ≤ (t : Int) ∧ (t : Int) < noms.length ∧ (t : Int) < plan.length := by have := hnlH.out; omega
      have hnbl : nb < wr.heap.size := Nat.lt_of_lt_of_le hnlt hBs
      have hpbl : lb < wr.heap.size := Nat.lt_of_lt_of_le hplt hBs
      have hbx := World.block_lt_of_cell? _ ⟨_, _, none⟩ m0
      simp only at hbx
      have hwW : Below w.heap.size w wr := hwX.trans (hB.mono (hwX.size))
      have hv : Hid (∀ g : Grow wr, Calls Try.prog 78 #[.agg #[.int .i64 s.space, .int .i64 s.start, .int .i64 s.elo, .int .i64 s.ehi, rv, dv], .int .i64 t, .int .i64 fill, .int .i64 nt, .int .i64 x] g.x fun e w' => e = .returned (.int .i64 (ruleOn s noms plan t)) ∧ Below g.x.heap.size g.x w') := fun g => hB1 g.x (hwW.trans (g.h.mono hwW.size)) htd hi1
      have hoH := Lib.hid ho
      have hg := grow_cell wr
      clear ho hB1
      replace hC1 := Lib.hid hC1
      go_wp2_with (fail)
      refine wp_region_grow (by kernel_rfl) (by kernel_rfl) ?_
      repeat (go_big_quiet_step ((first | (go_at_call 78; exact Calls.grow (hv.out _)))))
      refine wpQuiet_nil ?_
      rintro _ ⟨g, rfl⟩
      have hoG := Lib.hid (hoH.out.mono g.h)
      have hBG := hB.trans (g.h.mono hBs)
      have hGs := hBG.size
      obtain ⟨Y, hY⟩ : ∃ Y, Y = g.x := ⟨_, rfl⟩
      have hWY : Below wr.heap.size wr Y := by rw [hY]; exact g.h
      rw [← hY] at hoG hBG hGs ⊢
      have m0 := kept_cell hWY m0
      have m1 := kept_cell hWY m1
      have m2 := kept_cell hWY m2
      have m3 := kept_cell hWY m3
      have m4 := kept_cell hWY m4
      have m5 := kept_cell hWY m5
      have e0 := kept_cell hWY e0
      have e1 := kept_cell hWY e1
      have n0 := kept_cell hWY n0
      have n1 := kept_cell hWY n1
      have n2 := (hBG.frozen (p := ⟨W.heap.size, 0, none⟩) hWX).trans f0a
      have n3 := (hBG.frozen (p := ⟨W.heap.size, 1, none⟩) hWX).trans f0b
      have hwY : Below w.heap.size w Y := hwX.trans (hBG.mono (hwX.size))
      clear hv hY hg hB hoH g hwW
      by_cases hr : ruleOn s noms plan t = 1
      · have hFn := Lib.hid (faultTo_miss hF.out hr)
        rw [hr]
        replace hr := Lib.hid hr
        have hg := grow_cell Y
        have hnbl : nb < Y.heap.size := Nat.lt_of_lt_of_le hnlt hGs
        have hpbl : lb < Y.heap.size := Nat.lt_of_lt_of_le hplt hGs
        have hbx := World.block_lt_of_cell? _ ⟨_, _, none⟩ m0
        simp only at hbx
        have hv : Hid (∀ g : Grow Y, Calls Try.prog 49 #[.agg #[.int .i64 s.space, .int .i64 s.start, .int .i64 s.elo, .int .i64 s.ehi, rv, dv], .int .i64 t, .int .i64 x] g.x fun e w' => e = .returned (.int .i64 ct) ∧ Below g.x.heap.size g.x w') := fun g => hC1.out g.x (hwY.trans (g.h.mono hwY.size)) htd
        go_wp2_with (fail)
        refine wp_region_grow (by kernel_rfl) (by kernel_rfl) ?_
        repeat (go_big_quiet_step ((first | (go_at_call 49; exact Calls.grow (hv.out _)))))
        refine wpQuiet_nil ?_
        rintro _ ⟨g, rfl⟩
        have hoZ := Lib.hid (hoG.out.mono g.h)
        have hBZ := hBG.trans (g.h.mono hGs)
        have hZs := hBZ.size
        go_wp2_with (at_builtin; refine wpList_app_int (by rfl) _ _ (by rfl) X.heap.size g.x v _ (fill + nt + x) (by rfl) hoZ.out (by rfl) hlen hZs ?_; intro v1 w1 ho1 hg1 hn1 hat1; have hB1 := Lib.hid (below_append hBZ hZs hoZ.out hg1); replace ho1 := Lib.hid ho1)
        exact ⟨⟨t + 1, v1, by omega, rfl, by go_num, by rw [hne.out], by rw [hne.out], hFn, by rw [hne.out]; exact ho1.out, hB1.out⟩, by simp [intOf]; omega⟩
      · have hrn : (ruleOn s noms plan t != 1) = true := by simpa using hr
        have hH := Lib.hid (hhit.out hr hlt)
        replace hr := Lib.hid hr
        go_wp2_with (fail)
        refine bodyPost_ret (v := .tuple #[v, .int .i64 cost, .agg #[.int .i64 t, .int .i64 (ruleOn s noms plan t)]]) (by simp [results, Try.results47, go_sem, n0, n1, n2, n3]) rfl ?_
        refine RefPlayPost.of hH.out ((hoG.out.cellset hWX _).cellset hWX _).at ((hwY.setCell (by show _ ≤ W.heap.size; omega) _).setCell (by show _ ≤ W.heap.size; omega) _)
    · have hle : t = plan.length := by omega
      have hti : ¬ ((t : Int) < (plan.length : Int)) := by omega
      have hH := Lib.hid (hfin.out hle)
      have hoH := Lib.hid ho
      have hwY : Below w.heap.size w wr := hwX.trans (hB.mono (hwX.size))
      replace hle := Lib.hid hle
      clear ho
      go_wp2_with (fail)
      refine bodyPost_ret (v := .tuple #[v, .int .i64 cost, .agg #[.int .i64 0, .int .i64 1]]) (by simp [results, Try.results47, go_sem, n0, n1, n2, n3]) rfl ?_
      exact RefPlayPost.of hH.out ((hoH.out.cellset hWX _).cellset hWX _).at ((hwY.setCell (by show _ ≤ W.heap.size; omega) _).setCell (by show _ ≤ W.heap.size; omega) _)
end Go.Proofs.Ytacajmpggjgaiaa
