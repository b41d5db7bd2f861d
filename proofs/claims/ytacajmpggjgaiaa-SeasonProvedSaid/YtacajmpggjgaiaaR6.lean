/- Walks of the reference: the cheapest plan. -/
import Derived.Test.YtacajmpggjgaiaaR5
import Derived.Test.YtacajmpggjgaiaaR3
import Derived.Test.YtacajmpggjgaiaaV5
set_option linter.unusedVariables false
set_option linter.unusedSimpArgs false
namespace Go.Proofs.Ytacajmpggjgaiaa
open Go.RowKit Go.Sd

set_option maxRecDepth 100000 in
set_option maxHeartbeats 4000000 in
theorem refBestNone (sv nv : Value) (s : Sea.S) (noms : List Int) (w : World) (hs : SeasonAt w sv s) (hn : IntsAt w nv noms) (ok : Sea.Ok s) (hno : s.nomsB noms = true) (h : bestCost s noms = Sea.never) :
    Calls Try.prog 23 #[sv, nv] w fun e w' => e = .returned (.tuple #[.slice none 0 0, .int .i64 0, .bool false]) ∧ Below w.heap.size w w' := by
  have hs' := hs
  obtain ⟨rv, dv, rfl, -, -⟩ := hs'
  have hsp := ok.space
  have hst := ok.start
  obtain ⟨W, hW⟩ : ∃ W, w.alloc (sBox s rv dv) = W := ⟨_, rfl⟩
  obtain ⟨hsz, hBw, q0, q1, q2, q3, q4, q5⟩ := box_season hW
  have hg := grow_cell W
  have hP : Hid (Calls Try.prog 22 #[.agg #[.int .i64 s.space, .int .i64 s.start, .int .i64 s.elo, .int .i64 s.ehi, rv, dv], nv] W fun e w' => ∃ b vs cap, e = .returned (.slice (some ⟨b, 0, none⟩) (s.days.length + 1) cap) ∧ OwnMat W.heap.size b w' vs (Sea.whole s.days.length (s.vals noms)) ∧ Below W.heap.size W w') := refProof _ nv noms s W (hs.mono hBw) ok (hn.mono hBw) hno
  replace h : Hid (Sea.at0 (s.vals noms s.days.length) s.start.toNat = 1000000000000000) := h
  have hnl := (noms_bd ok hno).1
  have hnd := ok.ndays
  replace hnl := Lib.hid hnl
  clear hs hn hno
  go_enter Try.func23, Try.ntmps23
  go_wp2_with (go_at_call 22; refine Calls.mono hP.out ?_; rintro e w' ⟨pb, vs, pcap, rfl, hM, hb⟩; obtain ⟨g, rfl⟩ : ∃ g : Grow W, w' = g.x := ⟨⟨w', hb⟩, rfl⟩)
  replace hM : OwnMat W.heap.size pb g.x vs (s.proof noms) := hM
  have hrow := (hM.own 0 (by rw [proof_len]; omega)).at
  rw [proof_row0] at hrow
  obtain ⟨vb, voff, vcap, hv0, hvlt, hvm, hvk⟩ := int_cell hrow (by rw [Sea.S.vals_length]; omega)
  have hvl := Lib.hid (Sea.S.vals_length s noms s.days.length)
  have r0 := (row_len hM (i := 0) (by rw [proof_len]; omega)).1
  rw [hv0] at r0
  have rv0 := hvk s.start.toNat (by rw [hvl.out]; omega)
  rw [h.out] at rv0
  have hstl : (0 : Int) ≤ s.start ∧ s.start < ((s.vals noms s.days.length).length : Int) := by rw [hvl.out]; omega
  have m1 := g.cell q1
  have hn1 : (0 : Int) < (s.days.length : Int) + 1 := by omega
  have hsg := g.size
  replace hv0 := Lib.hid hv0
  replace hvk := Lib.hid hvk
  clear hM hrow hg
  go_quiet (fail)
  go_wp2_with (fail)
  go_ret3
  exact ⟨rfl, below_drewN (hBw.trans (g.h.mono (Nat.le_of_lt hsz))) _⟩

/-- What the reference's Best leaves. -/
def RefBestPost (s : Sea.S) (noms : List Int) (w : World) (e : Ending) (w' : World) : Prop :=
  ∃ v, e = .returned (.tuple #[v, .int .i64 (bestCost s noms), .bool true]) ∧ OwnInts w.heap.size w' v (planTo s noms s.days.length).1 ∧ Below w.heap.size w w'

theorem RefBestPost.of {s : Sea.S} {noms : List Int} {w w' : World} {v : Value} {c : Int} (h : bestCost s noms = c) (ho : OwnInts w.heap.size w' v (planTo s noms s.days.length).1) (hb : Below w.heap.size w w') :
    RefBestPost s noms w (.returned (.tuple #[v, .int .i64 c, .bool true])) w' := ⟨v, by rw [h], ho, hb⟩

set_option maxRecDepth 100000 in
set_option maxHeartbeats 8000000 in
theorem refBestYes (sv nv : Value) (s : Sea.S) (noms : List Int) (w : World) (hs : SeasonAt w sv s) (hn : IntsAt w nv noms) (ok : Sea.Ok s) (hno : s.nomsB noms = true) (h : ¬ bestCost s noms = Sea.never) :
    Calls Try.prog 23 #[sv, nv] w (RefBestPost s noms w) := by
  have hs' := hs
  obtain ⟨rv, dv, rfl, -, ⟨da, dcap, rfl, hdm, -⟩⟩ := hs'
  unfold maxLen at hdm
  have hsp := ok.space
  have hst := ok.start
  obtain ⟨W, hW⟩ : ∃ W, w.alloc (sBox s rv (.slice da s.days.length dcap)) = W := ⟨_, rfl⟩
  obtain ⟨hsz, hBw, q0, q1, q2, q3, q4, q5⟩ := box_season hW
  have hg := grow_cell W
  have hP : Hid (Calls Try.prog 22 #[.agg #[.int .i64 s.space, .int .i64 s.start, .int .i64 s.elo, .int .i64 s.ehi, rv, .slice da s.days.length dcap], nv] W fun e w' => ∃ b vs cap, e = .returned (.slice (some ⟨b, 0, none⟩) (s.days.length + 1) cap) ∧ OwnMat W.heap.size b w' vs (Sea.whole s.days.length (s.vals noms)) ∧ Below W.heap.size W w') := refProof _ nv noms s W (hs.mono hBw) ok (hn.mono hBw) hno
  have hnl := Lib.hid (noms_bd ok hno).1
  have hnb := Lib.hid (noms_bd ok hno).2
  have hnd := ok.ndays
  have hnW := hn.mono hBw
  obtain ⟨nb, noff, ncap, rfl, hnlt, hnm, hnk⟩ := int_cell hnW (by rw [hnl.out]; omega)
  have hone : Hid (∀ (d j f : Nat) (nv : Value) X, Below w.heap.size w X → d + 1 + j = s.days.length → (f : Int) ≤ s.space → IntsAt X nv (s.vals noms j) → Calls Try.prog 62 #[.agg #[.int .i64 s.space, .int .i64 s.start, .int .i64 s.elo, .int .i64 s.ehi, rv, .slice da s.days.length dcap], .int .i64 d, .int .i64 f, .int .i64 (Sea.at0 noms d), nv] X fun e w' => e = .returned (.tuple #[.int .i64 (s.least d f (Sea.at0 noms d) (s.vals noms j)).1, .int .i64 (s.least d f (Sea.at0 noms d) (s.vals noms j)).2]) ∧ Below X.heap.size X w') := by
    intro d j f nv X hX hd hf hx
    have h := refLeast _ nv s (s.vals noms j) d f (Sea.at0 noms d) X (hs.mono hX) ok (by omega) (by omega) ⟨by omega, hf⟩ ((noms_bd ok hno).2 d (by omega)) hx (by rw [Sea.S.vals_length]; omega) (fun k _ => by have := vals_bd ok noms j (by omega) k; unfold Sea.never at this; omega)
    rw [Int.toNat_natCast] at h
    exact h
  have hbst : Hid (bestCost s noms = Sea.at0 (s.vals noms s.days.length) s.start.toNat) := rfl
  have hbd := (vals_bd ok noms s.days.length (Nat.le_refl _) s.start.toNat).2
  have hlt : Sea.at0 (s.vals noms s.days.length) s.start.toNat < 1000000000000000 := by
    rw [hbst.out] at h; unfold Sea.never at h hbd; omega
  have hinit : Hid (0 ≤ s.start ∧ s.start ≤ s.space ∧ Sea.at0 (s.vals noms (s.days.length - 0)) s.start.toNat < Sea.never) := ⟨hst.1, hst.2, by rw [Nat.sub_zero]; exact hlt⟩
  clear hs hn hnW hno h hbd
  replace hnk := Lib.hid hnk
  go_enter Try.func23, Try.ntmps23
  go_wp2_with (go_at_call 22; refine Calls.mono hP.out ?_; rintro e w' ⟨pb, vs, pcap, rfl, hM, hb⟩; obtain ⟨g, rfl⟩ : ∃ g : Grow W, w' = g.x := ⟨⟨w', hb⟩, rfl⟩)
  replace hM : OwnMat W.heap.size pb g.x vs (s.proof noms) := hM
  have hrow := (hM.own 0 (by rw [proof_len]; omega)).at
  rw [proof_row0] at hrow
  obtain ⟨vb, voff, vcap, hv0, hvlt, hvm, hvk⟩ := int_cell hrow (by rw [Sea.S.vals_length]; omega)
  have hvl := Lib.hid (Sea.S.vals_length s noms s.days.length)
  have r0 := (row_len hM (i := 0) (by rw [proof_len]; omega)).1
  rw [hv0] at r0
  have rv0 := hvk s.start.toNat (by rw [hvl.out]; omega)
  have hstl : (0 : Int) ≤ s.start ∧ s.start < ((s.vals noms s.days.length).length : Int) := by rw [hvl.out]; omega
  have m1 := g.cell q1
  have hn1 : (0 : Int) < (s.days.length : Int) + 1 := by omega
  have hsg := g.size
  replace hv0 := Lib.hid hv0
  replace hvk := Lib.hid hvk
  clear hrow hg hP
  generalize hbv : Sea.at0 (s.vals noms s.days.length) s.start.toNat = bc at *
  replace hbv := Lib.hid hbv
  go_quiet (fail)
  go_wp2_with (fail)
  obtain ⟨g2, hg2⟩ := g.next (below_drewN (Below.refl _ _) nq)
  rw [hg2]
  have hM2 : OwnMat W.heap.size pb g2.x vs (s.proof noms) := hM.mono (by rw [← hg2]; exact below_drewN (Below.refl _ _) nq)
  have r2 : g2.x.cell? ⟨pb, 0, none⟩ = some (.slice (some ⟨vb, voff, none⟩) (s.vals noms s.days.length).length vcap) := by rw [← hg2]; exact r0
  have rv2 : g2.x.cell? ⟨vb, voff + s.start.toNat, none⟩ = some (.int .i64 bc) := by rw [← hg2]; exact rv0
  have p0 := g2.cell q0
  have p1 := g2.cell q1
  have p2 := g2.cell q2
  have p3 := g2.cell q3
  have p4 := g2.cell q4
  have p5 := g2.cell q5
  have hXs := g2.size
  have hX0 : Below w.heap.size w g2.x := hBw.trans (g2.h.mono (Nat.le_of_lt hsz))
  have hnk2 : Hid (∀ k, k < noms.length → g2.x.cell? ⟨nb, noff + k, none⟩ = some (.int .i64 (Sea.at0 noms k))) := fun k hk => g2.cell (hnk.out k hk)
  have hnX : nb < g2.x.heap.size := Nat.lt_of_lt_of_le hnlt hXs
  have hwX : w.heap.size < g2.x.heap.size := Nat.lt_of_lt_of_le hsz hXs
  generalize hX : g2.x = X at *
  clear hX hg2 hM r0 rv0 m1 q0 q1 q2 q3 q4 q5 hsg hb hnk hW
  go_wp2_with (fail)
  go_loopw [8, 9, 10] (fun p fill i wr => ∃ (t : Nat) (v : Value), t ≤ s.days.length ∧ v = p ∧ i = .int .i64 t ∧ fill = .int .i64 (planTo s noms t).2 ∧
    Hid (0 ≤ (planTo s noms t).2 ∧ (planTo s noms t).2 ≤ s.space ∧ Sea.at0 (s.vals noms (s.days.length - t)) (planTo s noms t).2.toNat < Sea.never) ∧ OwnInts X.heap.size wr v (planTo s noms t).1 ∧ Below X.heap.size X wr) (fun _ _ i _ => s.days.length - (intOf i).toNat)
  case atStart =>
    refine ⟨0, _, by omega, rfl, rfl, rfl, ?_, OwnInts.nil _ _, Below.refl _ _⟩
    show 0 ≤ s.start ∧ s.start ≤ s.space ∧ Sea.at0 (s.vals noms (s.days.length - 0)) s.start.toNat < Sea.never
    rw [Nat.sub_zero, hbv.out]
    exact ⟨hinit.out.1, hinit.out.2.1, hlt⟩
  case round =>
    obtain ⟨t, v, ht, rfl, rfl, rfl, hI, ho, hB⟩ := hrel
    have m0 := kept_cell hB p0
    have m1 := kept_cell hB p1
    have m2 := kept_cell hB p2
    have m3 := kept_cell hB p3
    have m4 := kept_cell hB p4
    have m5 := kept_cell hB p5
    have hBs := hB.size
    by_cases hlt2 : t < s.days.length
    · obtain ⟨j, hj⟩ : ∃ j, t + 1 + j = s.days.length := ⟨s.days.length - t - 1, by omega⟩
      obtain ⟨hf0, hf1, hf2⟩ := hI.out
      rw [show s.days.length - t = j + 1 by omega] at hf2
      obtain ⟨f, hf⟩ := Int.eq_ofNat_of_zero_le hf0
      obtain ⟨u, hu1, hu2, hu3, hu4, hu5, hu6, -⟩ := step_of ok noms hj ⟨hf0, hf1⟩ hf2
      have hnext : planTo s noms (t + 1) = ((planTo s noms t).1 ++ [u], (planTo s noms t).2 + Sea.at0 noms t + u) := by
        show (((planTo s noms t).1 ++ [(s.least t (planTo s noms t).2 (Sea.at0 noms t) (s.vals noms (s.days.length - 1 - t))).2]), _) = _
        rw [show s.days.length - 1 - t = j by omega, hu3]
      have hlen : (planTo s noms t).1.length ≤ 1000 := by rw [planTo_len]; omega
      have huo := order_in ok hlt2 hu1
      have hnt := hnb.out t hlt2
      generalize hpl : planTo s noms t = pl at *
      obtain ⟨pl1, pl2⟩ := pl
      simp only at hf hf0 hf1 hf2 hu1 hu2 hu3 hu4 hu5 hu6 hnext hlen ho huo
      subst hf
      have hMw := hM2.mono hB
      have hpl2 := proof_len s noms
      have hrw := row_len hMw (i := t + 1) (by rw [hpl2]; omega)
      have y1 := hrw.1
      have hnx : IntsAt wr (valAt vs (t + 1)) (s.vals noms j) := by
        have := (hMw.own (t + 1) (by rw [hpl2]; omega)).at
        unfold Sea.S.proof at this
        rwa [← Sea.tbl_whole, Sea.tbl_at _ _ _ _ _ (by omega), if_pos (by omega), show s.days.length - (t + 1) = j by omega] at this
      obtain ⟨nx, hnxe⟩ : ∃ nx, valAt vs (t + 1) = nx := ⟨_, rfl⟩
      rw [hnxe] at y1 hnx
      have hv : Hid (∀ g : Grow wr, Calls Try.prog 62 #[.agg #[.int .i64 s.space, .int .i64 s.start, .int .i64 s.elo, .int .i64 s.ehi, rv, .slice da s.days.length dcap], .int .i64 t, .int .i64 f, .int .i64 (Sea.at0 noms t), nx] g.x fun e w' => e = .returned (.tuple #[.int .i64 (s.least t f (Sea.at0 noms t) (s.vals noms j)).1, .int .i64 (s.least t f (Sea.at0 noms t) (s.vals noms j)).2]) ∧ Below g.x.heap.size g.x w') := fun g => hone.out t j f nx g.x (hX0.trans ((hB.trans (g.h.mono hBs)).mono (Nat.le_of_lt hwX))) hj (by omega) (hnx.mono g.h)
      rw [hu3] at hv
      obtain ⟨lc, hlc⟩ : ∃ lc, (s.least t f (Sea.at0 noms t) (s.vals noms j)).1 = lc := ⟨_, rfl⟩
      rw [hlc] at hv
      have e0 := kept_cell hB (hnk2.out t (by rw [hnl.out]; omega))
      have hdj : (0 : Int) ≤ (t : Int) ∧ (t : Int) < noms.length ∧ (t : Int) < s.days.length := by rw [hnl.out]; omega
      have hdi : (0 : Int) ≤ (t : Int) + 1 ∧ (t : Int) + 1 < (s.days.length : Int) + 1 := by omega
      have hff : (0 : Int) ≤ (f : Int) ∧ (f : Int) ≤ 100 := by omega
      generalize Sea.at0 noms t = nt at *
      have hnbl : nb < wr.heap.size := Nat.lt_of_lt_of_le hnX hBs
      have hpbl := World.block_lt_of_cell? _ ⟨_, _, none⟩ y1
      have hbox := World.block_lt_of_cell? _ ⟨_, _, none⟩ m0
      simp only at hpbl hbox
      have hnextH := Lib.hid hnext
      have hIn : Hid (0 ≤ (f : Int) + nt + u ∧ (f : Int) + nt + u ≤ s.space ∧ Sea.at0 (s.vals noms j) ((f : Int) + nt + u).toNat < Sea.never) := ⟨hu4, hu5, hu6⟩
      have huB : -100 ≤ u ∧ u ≤ 100 := ⟨huo.1, huo.2.1⟩
      have Ho := Lib.hid ho
      have hob := Lib.hid ho.lt
      have hjH := Lib.hid hj
      clear hlc hpl hnext hnxe hnx hrw hMw hu1 hu2 hu3 hu4 hu5 hu6 hI hf2 huo ho hnb
      have hg := grow_cell wr
      go_wp2_with (fail)
      refine wp_region_grow (by kernel_rfl) (by kernel_rfl) ?_
      repeat (go_big_quiet_step ((first | (go_at_call 62; exact Calls.grow (hv.out _)))))
      refine wpQuiet_nil ?_
      rintro _ ⟨g, rfl⟩
      obtain ⟨Y, hY⟩ : ∃ Y, Y = g.x := ⟨_, rfl⟩
      have hBY : Below wr.heap.size wr Y := by rw [hY]; exact g.h
      rw [← hY]
      clear hv hY g hg y1 m0 m1 m2 m3 m4 m5
      go_wp2_with (fail)
      have hYs := hBY.size
      have HoY := (Ho.out).mono hBY
      have al0 : v.ownBlock ≠ some nb := fun e => by have := (hob.out _ e).1; omega
      have z0 := kept_cell hBY e0
      have zl0 : nb < Y.heap.size := Nat.lt_of_lt_of_le hnbl hYs
      have kx : ∀ (o : Obj) (b off : Nat) (v : Value), Y.cell? ⟨b, off, none⟩ = some v → (Y.alloc o).drew.cell? ⟨b, off, none⟩ = some v := fun o b off v h => kept_cell (((Below.refl _ _).alloc (Nat.le_refl _) o).drew) h
      have hBd : Below Y.heap.size Y Y.drew := (Below.refl _ _).drew
      have hl1 : pl1.length + 1 ≤ maxLen := by unfold maxLen; omega
      have hl2 : (pl1.length + 1) * 8 ≤ 140737488355328 := by omega
      obtain ⟨i0, hi0, hz0, hz1, hz2⟩ := info_parts infoInt
      have HoH := Lib.hid HoY
      have hXY : X.heap.size ≤ Y.heap.size := by omega
      have hwr1 : IntKind.i64.wrap ((f : Int) + nt) = (f : Int) + nt := IntWalk.i64_in _ (by omega)
      have hwr2 : IntKind.i64.wrap ((f : Int) + nt + u) = (f : Int) + nt + u := IntWalk.i64_in _ (by omega)
      clear HoY e0 Ho
      refine wp_region_held_drew (S := (fun w' => w'.cell? ⟨nb, noff + t, none⟩ = some (.int .i64 nt))) (by kernel_rfl) ?_ (fun hHeld => ?_)
      · first | (first | exact hc0 | exact kx _ _ _ _ z0 | exact kept_cell hBd z0) | (dsimp only; (first | exact hc0 | exact kx _ _ _ _ z0 | exact kept_cell hBd z0))
      refine wpAnyH_take (i := 0) (v := ?_) rfl (by kernel_rfl) (by kernel_rfl) (by kernel_rfl) (fun _ _ _ h => h) (Or.inl ⟨by rfl, ?_⟩) (by assumption) ?_
      rotate_left
      · intro w hSw; (try dsimp only at hSw); go_simp; (try with_reducible rfl)
      try simp only [Act.put, List.setIfInBounds_toArray, List.set_cons_zero, List.set_cons_succ]
      refine wpAnyH_take (i := 1) (v := ?_) rfl (by kernel_rfl) (by kernel_rfl) (by kernel_rfl) (fun _ _ _ h => h) (Or.inl ⟨by rfl, ?_⟩) (by assumption) ?_
      rotate_left
      · intro w hSw; (try dsimp only at hSw); go_simp; (try with_reducible rfl)
      try simp only [Act.put, List.setIfInBounds_toArray, List.set_cons_zero, List.set_cons_succ]
      refine wpAnyH_take (i := 4) (v := ?_) rfl (by kernel_rfl) (by kernel_rfl) (by kernel_rfl) (fun _ _ _ h => h) (Or.inl ⟨by rfl, ?_⟩) (by assumption) ?_
      rotate_left
      · intro w hSw; (try dsimp only at hSw); go_simp; (try with_reducible rfl)
      try simp only [Act.put, List.setIfInBounds_toArray, List.set_cons_zero, List.set_cons_succ]
      refine wpAnyH_take (i := 5) (v := ?_) rfl (by kernel_rfl) (by kernel_rfl) (by kernel_rfl) (fun _ _ _ h => h) (Or.inl ⟨by rfl, ?_⟩) (by assumption) ?_
      rotate_left
      · intro w hSw; (try dsimp only at hSw); go_simp; (try with_reducible rfl)
      try simp only [Act.put, List.setIfInBounds_toArray, List.set_cons_zero, List.set_cons_succ]
      refine wpAnyH_take (i := 6) (v := ?_) rfl (by kernel_rfl) (by kernel_rfl) (by kernel_rfl) (fun _ _ _ h => h) (Or.inl ⟨by rfl, ?_⟩) (by assumption) ?_
      rotate_left
      · intro w hSw; (try dsimp only at hSw); go_simp; (try with_reducible rfl)
      try simp only [Act.put, List.setIfInBounds_toArray, List.set_cons_zero, List.set_cons_succ]
      refine wpAnyH_take (i := 7) (v := ?_) rfl (by kernel_rfl) (by kernel_rfl) (by kernel_rfl) (fun _ _ _ h => h) (Or.inl ⟨by rfl, ?_⟩) (by assumption) ?_
      rotate_left
      · intro w hSw; (try dsimp only at hSw); go_simp; (try with_reducible rfl)
      try simp only [Act.put, List.setIfInBounds_toArray, List.set_cons_zero, List.set_cons_succ]
      refine wpAnyH_take (i := 8) (v := ?_) rfl (by kernel_rfl) (by kernel_rfl) (by kernel_rfl) (fun _ _ _ h => h) (Or.inl ⟨by rfl, ?_⟩) (by assumption) ?_
      rotate_left
      · intro w hSw; (try dsimp only at hSw); go_simp; (try with_reducible rfl)
      try simp only [Act.put, List.setIfInBounds_toArray, List.set_cons_zero, List.set_cons_succ]
      refine wpAnyH_take (i := 9) (v := ?_) rfl (by kernel_rfl) (by kernel_rfl) (by kernel_rfl) (fun _ _ _ h => h) (Or.inl ⟨by rfl, ?_⟩) (by assumption) ?_
      rotate_left
      · intro w hSw; (try dsimp only at hSw); go_simp; (try with_reducible rfl)
      try simp only [Act.put, List.setIfInBounds_toArray, List.set_cons_zero, List.set_cons_succ]
      refine wpAnyH_take (i := 10) (v := ?_) rfl (by kernel_rfl) (by kernel_rfl) (by kernel_rfl) (fun _ _ _ h => h) (Or.inl ⟨by rfl, ?_⟩) (by assumption) ?_
      rotate_left
      · intro w hSw; (try dsimp only at hSw); go_simp; (try with_reducible rfl)
      try simp only [Act.put, List.setIfInBounds_toArray, List.set_cons_zero, List.set_cons_succ]
      refine wpAnyH_take (i := 11) (v := ?_) rfl (by kernel_rfl) (by kernel_rfl) (by kernel_rfl) (fun _ _ _ h => h) (Or.inl ⟨by rfl, ?_⟩) (by assumption) ?_
      rotate_left
      · intro w hSw; (try dsimp only at hSw); go_simp; (try with_reducible rfl)
      try simp only [Act.put, List.setIfInBounds_toArray, List.set_cons_zero, List.set_cons_succ]
      refine wpAnyH_ready (rs := [2]) (by kernel_rfl) (by simp) ?_
      refine AllReadyH.cons rfl (fun K hK => ?_) AllReadyH.nil
      go_simp
      refine hK.out _ _ ?_ (fun hNow => ?_)
      · first | (first | exact hc0 | exact kx _ _ _ _ z0 | exact kept_cell hBd z0) | (dsimp only; (first | exact hc0 | exact kx _ _ _ _ z0 | exact kept_cell hBd z0))
      clear hK K hHeld
      have hHeld := hNow
      clear hNow
      try simp only [Act.put, List.setIfInBounds_toArray, List.set_cons_zero, List.set_cons_succ]
      refine wpAnyH_ready (rs := [3]) (by kernel_rfl) (by simp) ?_
      refine AllReadyH.cons rfl (fun K hK => ?_) AllReadyH.nil
      (refine step_append_lies _ (by rfl) _ _ _ (by rfl) X.heap.size 3 i0 _ 1 8 Try.underlying28 hi0 hz0 hz1 hz2 rfl (by decide) v _ _ (by rfl) ((World.ownsRow.alloc HoH.out _).drew) ⟨Y.heap.size, 0, none⟩ 1 1 [.int .i64 u] (by rfl) (by rfl) (World.news_of_block (cs := #[.int .i64 u]) (t := 3) (fr := (0, 0)) (heap_alloc_new Y _)) (by simp [Value.oneCell']) (by decide) hl1 hl2 (by simp; omega) (Y.heap.size + 1) (by simp) ?_; intro gg gcap w1 hown1 hgrow hat hglt; have hc0 := (hgrow.cell_far _ (by simp; omega) (Ne.symm al0)).trans (kx _ _ _ _ z0))
      refine hK.out _ _ ?_ (fun hNow => ?_)
      · first | (first | exact hc0 | exact kx _ _ _ _ z0 | exact kept_cell hBd z0) | (dsimp only; (first | exact hc0 | exact kx _ _ _ _ z0 | exact kept_cell hBd z0))
      clear hK K hHeld
      have hHeld := hNow
      clear hNow
      try simp only [Act.put, List.setIfInBounds_toArray, List.set_cons_zero, List.set_cons_succ]
      refine wpAnyH_ready (rs := [12]) (by kernel_rfl) (by simp) ?_
      refine AllReadyH.cons rfl (fun K hK => ?_) AllReadyH.nil
      go_simp
      refine hK.out _ _ ?_ (fun hNow => ?_)
      · first | (first | exact hc0 | exact kx _ _ _ _ z0 | exact kept_cell hBd z0) | (dsimp only; (first | exact hc0 | exact kx _ _ _ _ z0 | exact kept_cell hBd z0))
      clear hK K hHeld
      have hHeld := hNow
      clear hNow
      try simp only [Act.put, List.setIfInBounds_toArray, List.set_cons_zero, List.set_cons_succ]
      refine wpAnyH_ready (rs := [13]) (by kernel_rfl) (by simp) ?_
      refine AllReadyH.cons rfl (fun K hK => ?_) AllReadyH.nil
      go_simp
      refine hK.out _ _ ?_ (fun hNow => ?_)
      · first | (first | exact hc0 | exact kx _ _ _ _ z0 | exact kept_cell hBd z0) | (dsimp only; (first | exact hc0 | exact kx _ _ _ _ z0 | exact kept_cell hBd z0))
      clear hK K hHeld
      have hHeld := hNow
      clear hNow
      try simp only [Act.put, List.setIfInBounds_toArray, List.set_cons_zero, List.set_cons_succ]
      refine wpAnyH_done (by kernel_rfl) ?_ _
      have hgY : Y.grownBy w1 v.ownBlock := grownBy_trans (World.grownBy_alloc Y _ _) ⟨hgrow.os, hgrow.tape, hgrow.output, hgrow.size, hgrow.block⟩
      have hBn : Below X.heap.size X w1 := below_append (hB.trans (hBY.mono hBs)) hXY HoH.out hgY
      have hon := Lib.hid (own_more hown1)
      clear hown1 hgrow hgY
      go_wp2_with (fail)
      refine ⟨⟨t + 1, _, by omega, rfl, by go_num, by rw [hnextH.out], ?_, ?_, hBn⟩, by simp [intOf]; omega⟩
      · show 0 ≤ _ ∧ _
        rw [hnextH.out, show s.days.length - (t + 1) = j by omega]
        exact hIn.out
      · rw [hnextH.out]; exact hon.out
    · have hte : Hid (t = s.days.length) := by show _ = _; omega
      have hti : ¬ ((t : Int) < s.days.length) := by omega
      have k2 := kept_cell hB r2
      have k3 := kept_cell hB rv2
      have Ho := Lib.hid ho
      clear ho
      go_wp2_with (fail)
      go_quiet (fail)
      go_wp2_with (fail)
      go_ret3
      refine RefBestPost.of hbst.out ?_ (below_drewN (hX0.trans (hB.mono (Nat.le_of_lt hwX))) _)
      have := (Ho.out.from (Nat.le_of_lt hwX)).mono (below_drewN (Below.refl _ _) nq)
      rwa [hte.out] at this
end Go.Proofs.Ytacajmpggjgaiaa
