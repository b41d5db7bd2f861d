/- Laws and walks: SV4, SV5, SP9, SP10. -/
import Derived.Test.YtpcamocnlnlgiaaGreatK29
set_option maxRecDepth 100000
set_option maxHeartbeats 16000000
set_option linter.unusedVariables false
set_option linter.unusedSimpArgs false
namespace Go.Proofs.YtpcamocnlnlgiaaGreat.S
open Go.RowKit Go.Sd
theorem progValidT {sv : Value} {s : Sea.S} {t : Bool} (w : World) (hs : SeasonAt w sv s) (h : Sea.validB s = t) : Calls Tryz.prog 29 #[sv] w fun e w' => e = .returned (.bool t) ∧ Below w.heap.size w w' := by
 rw [← h]; exact progValid sv s w hs
theorem progNominated (sv lv : Value) (s : Sea.S) (l : List Int) (w : World) (hs : SeasonAt w sv s) (hl : IntsAt w lv l) :
    Calls Tryz.prog 30 #[sv, lv] w fun e w' => e = .returned (.bool (s.nomsB l)) ∧ Below w.heap.size w w' := by
 obtain ⟨rv, dv, rfl, -, ⟨da, dcap, rfl, hdm, hdk⟩⟩ := hs
 obtain ⟨aa, ac, rfl, ham, hac⟩ := hl
 unfold maxLen at ham hdm
 go_enter Tryz.func30, Tryz.ntmps30
 go_wp2_with (fail)
 generalize hW : w.alloc (sBox s _ _) = W
 obtain ⟨hsz, hBw, q0, q1, q2, q3, q4, q5⟩ := box_season hW
 clear hW
 have hg := grow_cell W
 go_loopw [9] (fun i wr => ∃ k : Nat, k ≤ l.length ∧ i = .int .i64 k ∧ Hid (∀ j, j < k → j < s.days.length → Sea.inB (Sea.at0 l j) (Sea.dayAt s.days j).nlo (Sea.dayAt s.days j).nhi = true) ∧ ∃ g : Grow W, wr = g.x) (fun i _ => l.length - (intOf i).toNat)
 case atStart => exact ⟨0, by omega, rfl, (fun j h => by omega : ∀ j, j < 0 → j < s.days.length → Sea.inB (Sea.at0 l j) (Sea.dayAt s.days j).nlo (Sea.dayAt s.days j).nhi = true), Grow.self W, rfl⟩
 case round =>
  obtain ⟨k, hk, rfl, hH, g, rfl⟩ := hrel
  by_cases hlt : k < l.length
  · obtain ⟨ab, ao, rfl, hal, hak⟩ := hac (by omega)
    have ca := kept_cell hBw (hak k hlt)
    have hal2 : ab < W.heap.size := by omega
    have hki : (0 : Int) ≤ (k : Int) ∧ (k : Int) < l.length := by omega
    clear hak hac
    by_cases hkd : k < s.days.length
    · obtain ⟨db, doff, rfl, hdl, hdc⟩ := hdk (by omega)
      obtain ⟨c0, c1, c2, c3, c4, c5, c6, c7⟩ := (hdc k hkd).mono hBw
      have hdl2 : db < W.heap.size := by omega
      have hkd1 : (k : Int) < s.days.length := by omega
      have hkd2 : decide (k < s.days.length) = true := by simpa using hkd
      clear hdc hdk
      cases h1 : Sea.inB (Sea.at0 l k) (Sea.dayAt s.days k).nlo (Sea.dayAt s.days k).nhi
      · have hf : Hid (s.nomsB l = false) := by
         show _ = _
         unfold Sea.S.nomsB
         rw [all_range_not hlt h1, Bool.and_false]
        go_wp2_with (fail)
        go_quiet ((go_at_call 39; exact Calls.quiet_of_same ((progInT (by assumption) _).mono (by rintro e w' ⟨rfl, rfl⟩; exact ⟨rfl, rfl⟩))))
        go_wp2_with (fail)
        go_ret
        exact ⟨bool_ret hf.out.symm, below_drewN (hBw.trans (g.h.mono hBw.size)) _⟩
      · have hH' : Hid (∀ j, j < k + 1 → j < s.days.length → Sea.inB (Sea.at0 l j) (Sea.dayAt s.days j).nlo (Sea.dayAt s.days j).nhi = true) := upto_succ hH.out fun _ => h1
        go_wp2_with (fail)
        go_quiet ((go_at_call 39; exact Calls.quiet_of_same ((progInT (by assumption) _).mono (by rintro e w' ⟨rfl, rfl⟩; exact ⟨rfl, rfl⟩))))
        go_wp2_with (fail)
        obtain ⟨g2, hg2⟩ := g.next (below_drewN (Below.refl _ _) nq)
        exact ⟨⟨k + 1, by omega, by go_num, hH', g2, hg2⟩, by simp [intOf]; omega⟩
    · have hH' : Hid (∀ j, j < k + 1 → j < s.days.length → Sea.inB (Sea.at0 l j) (Sea.dayAt s.days j).nlo (Sea.dayAt s.days j).nhi = true) := upto_succ hH.out fun h => absurd h hkd
      have hkd1 : (s.days.length : Int) ≤ (k : Int) := by omega
      have hkd2 : decide (k < s.days.length) = false := by simpa using hkd
      go_wp2_with (fail)
      go_quiet (fail)
      go_wp2_with (fail)
      obtain ⟨g2, hg2⟩ := g.next (below_drewN (Below.refl _ _) nq)
      exact ⟨⟨k + 1, by omega, by go_num, hH', g2, hg2⟩, by simp [intOf]; omega⟩
  · have hf : Hid (s.nomsB l = decide (l.length = s.days.length)) := by
     show _ = _
     unfold Sea.S.nomsB
     by_cases he : l.length = s.days.length
     · rw [all_range fun j hj => hH.out j (by omega) (by omega), Bool.and_true]
     · simp [he]
    by_cases he : l.length = s.days.length
    · have hbe : ((l.length : Int) == (s.days.length : Int)) = true := by rw [he]; simp
      have he2 : Hid (decide (l.length = s.days.length) = true) := by show _ = _; simp [he]
      clear he
      go_wp2_with (fail)
      go_ret
      exact ⟨bool_ret (by rw [hf.out, he2.out]), hBw.trans (g.h.mono hBw.size)⟩
    · have hbe : ((l.length : Int) == (s.days.length : Int)) = false := by simp; omega
      have he2 : Hid (decide (l.length = s.days.length) = false) := by show _ = _; simp [he]
      clear he
      go_wp2_with (fail)
      go_ret
      exact ⟨bool_ret (by rw [hf.out, he2.out]), hBw.trans (g.h.mono hBw.size)⟩
theorem progNominatedT {sv lv : Value} {s : Sea.S} {l : List Int} {t : Bool} (w : World) (hs : SeasonAt w sv s) (hl : IntsAt w lv l) (h : s.nomsB l = t) :
    Calls Tryz.prog 30 #[sv, lv] w fun e w' => e = .returned (.bool t) ∧ Below w.heap.size w w' := by
 rw [← h]; exact progNominated sv lv s l w hs hl
abbrev lBox (s : Sea.S) (rv dv mv : Value) : Obj := .cells #[.int .i64 s.space, .int .i64 s.start, .int .i64 s.elo, .int .i64 s.ehi, rv, dv, mv] 99
theorem look_new {w W : World} {s : Sea.S} {rv dv mv : Value} (h : w.alloc (lBox s rv dv mv) = W) (hr : RowsAt w rv s.rows) (hd : DaysAt w dv s.days) : LookAt W (.pointer (some ⟨w.heap.size, 0, none⟩)) mv s := by
 have hB : Below w.heap.size w W := by rw [← h]; exact (Below.refl _ _).alloc (Nat.le_refl _) _
 have hn : W.heap[w.heap.size]? = some (lBox s rv dv mv) := by rw [← h]; exact World.alloc_heap_new _ _
 obtain ⟨z, d, -⟩ := row_cells hn
 exact ⟨w.heap.size, rv, dv, rfl, ⟨d 0, d 1, d 2, d 3, d 4, d 5, d 6⟩, z, hr.mono hB, hd.mono hB⟩
end Go.Proofs.YtpcamocnlnlgiaaGreat.S
set_option linter.unusedVariables false
set_option linter.unusedSimpArgs false
namespace Go.Proofs.YtpcamocnlnlgiaaGreat.S
open Go.RowKit Go.Sd
theorem progBest1 (lv mv : Value) (s : Sea.S) (k : Nat) (fill nom u : Int) (w : World) (bo bd n : Nat) (ov ev : Value) (next : List Int) (hl : LookAt w lv mv s) (hk : k < s.days.length) (ok : Sea.Ok s)
    (b1 : 0 ≤ fill ∧ fill ≤ 100) (b2 : -100 ≤ nom ∧ nom ≤ 100) (b3 : -100 ≤ u ∧ u ≤ 100) (hi : 0 ≤ fill + nom + u) (hi2 : fill + nom + u < next.length)
    (hbd : -Sea.never ≤ Sea.at0 next (fill + nom + u).toNat ∧ Sea.at0 next (fill + nom + u).toNat ≤ Sea.never)
    (c0 : w.cell? ⟨bo, 0, none⟩ = some ov) (c1 : w.cell? ⟨bd, 0, none⟩ = some (.int .i64 k)) (he : ElemAt w ov n (k + 1) ev) (hv : IntsAt w ev next) (hn : n ≤ 100) :
    Calls Tryz.prog 34 #[ordV lv k fill nom u, .pointer (some ⟨bo, 0, none⟩), .pointer (some ⟨bd, 0, none⟩)] w fun e w' => e = .returned (.int .i64 (withOf s k fill nom next u)) ∧ Below w.heap.size w w' := by
 obtain ⟨ob, oo, cap, rfl, hm, hin, ce⟩ := he
 have hbo := World.block_lt_of_cell? w ⟨bo, 0, none⟩ c0
 have hbd2 := World.block_lt_of_cell? w ⟨bd, 0, none⟩ c1
 have hbe := World.block_lt_of_cell? w ⟨ob, oo + (k + 1), none⟩ ce
 simp only at hbo hbd2 hbe
 have hw : ∀ w1, Kc w w1 → Calls Tryz.prog 35 #[ordV lv k fill nom u, ev] w1 fun e w' => e = .returned (.int .i64 (withOf s k fill nom next u)) ∧ Below w1.heap.size w1 w' :=
  fun w1 h => progWith lv mv s k fill nom u w1 ev next (hl.kc h) hk ok b1 b2 b3 (hv.kc h) hi hi2 hbd
 clear hv hi hi2 hbd b1 b2 b3 ok hk hl
 have hin' : (k : Int) + 1 < (n : Int) := by omega
 go_enter Tryz.func34, Tryz.ntmps34
 go_wp2
 generalize hW : w.alloc (oBox _ k fill nom u) = W
 obtain ⟨hsz, hBw, q0, q1, q2, q3, q4⟩ := box_order hW
 clear hW
 have d0 := kept_cell hBw c0
 have d1 := kept_cell hBw c1
 have d2 := kept_cell hBw ce
 have hs := hBw.size
 have hbo' : bo < W.heap.size := by omega
 have hbd' : bd < W.heap.size := by omega
 have hbe' : ob < W.heap.size := by omega
 clear c0 c1 ce
 have hg := grow_cell W
 refine wp_region_grow (by kernel_rfl) (by kernel_rfl) ?_
 repeat (go_big_quiet_step ((first | (go_at_call 35; exact Calls.grow (hw _ (Kc.of (hBw.trans ((Grow.h _).mono hBw.size))))))))
 refine wpQuiet_nil ?_
 rintro _ ⟨g, rfl⟩
 go_wp2
 go_ret
 exact ⟨rfl, hBw.trans (g.h.mono hBw.size)⟩
theorem enter_b1 : ∀ (args : Array Value) (w : World), (callFunc 34 args).run Tryz.prog w = .ok (.enter 34 args) w := fun _ _ => by kernel_rfl
theorem best_num (lv mv : Value) (s : Sea.S) (noms : List Int) (wr : World) (B b bo bd j d f m : Nat) (bad : List Nat) (hl : LookAt wr lv mv s) (ok : Sea.Ok s) (hno : s.nomsB noms = true) (hd : d + 1 + j = s.days.length)
    (hf : (f : Int) ≤ s.space) (vs : List Value) (hM : OwnMat B b wr vs (s.proof noms)) (pcap : Nat) (c0 : wr.cell? ⟨bo, 0, none⟩ = some (.slice (some ⟨b, 0, none⟩) (s.days.length + 1) pcap))
    (c1 : wr.cell? ⟨bd, 0, none⟩ = some (.int .i64 d)) : ∀ u, u ∈ ordersOf s d f (Sea.at0 noms d) → ∀ X, Below wr.heap.size wr X →
     Calls Tryz.prog 34 (#[ordV lv d f (Sea.at0 noms d) u] ++ #[.pointer (some ⟨bo, 0, none⟩), .pointer (some ⟨bd, 0, none⟩)]) X fun e X' =>
      e = .returned (.int .i64 (withOf s d f (Sea.at0 noms d) (s.vals noms j) u)) ∧ Below X.heap.size X X' := by
 intro u hu X hX
 have hsd := ok.ndays
 have hsp := ok.space
 have hlen : (s.proof noms).length = s.days.length + 1 := by simp [Sea.S.proof, Sea.whole]
 have ho := order_in ok (by omega) hu
 have hat : Sea.lstAt (s.proof noms) (d + 1) = s.vals noms j := by
  unfold Sea.S.proof; rw [← Sea.tbl_whole, Sea.tbl_at _ _ _ _ _ (by omega), if_pos (by omega), show s.days.length - (d + 1) = j by omega]
 have hrow := (hM.own (d + 1) (by rw [hlen]; omega)).at
 rw [hat] at hrow
 have hcell := (row_len hM (i := d + 1) (by rw [hlen]; omega)).1
 have hbd := vals_bd ok noms j (by omega) (f + Sea.at0 noms d + u).toNat
 have hnb := (noms_bd ok hno).2 d (by omega)
 exact progBest1 lv mv s d f (Sea.at0 noms d) u X bo bd (s.days.length + 1) _ _ (s.vals noms j) (hl.mono hX) (by omega) ok (by omega) hnb ⟨ho.1, ho.2.1⟩ ho.2.2.2.1 (by rw [Sea.S.vals_length]; omega)
  ⟨by have := hbd.1; unfold Sea.never; omega, hbd.2⟩ (kept_cell hX c0) (kept_cell hX c1) ⟨b, 0, _, rfl, by omega, by omega, by rw [Nat.zero_add]; exact kept_cell hX hcell⟩ (hrow.mono hX) (by omega)
theorem proof_len (s : Sea.S) (noms : List Int) : (s.proof noms).length = s.days.length + 1 := by simp [Sea.S.proof, Sea.whole]
theorem proof_row0 (s : Sea.S) (noms : List Int) : Sea.lstAt (s.proof noms) 0 = s.vals noms s.days.length := by
 unfold Sea.S.proof; rw [← Sea.tbl_whole, Sea.tbl_at _ _ _ _ _ (by omega), if_pos (by omega), Nat.sub_zero]
theorem progBestNo (sv nv : Value) (s : Sea.S) (noms : List Int) (w : World) (hs : SeasonAt w sv s) (hn : IntsAt w nv noms) (hno : Sea.validB s = false ∨ s.nomsB noms = false) :
    Calls Tryz.prog 8 #[sv, nv] w fun e w' => e = .returned (.tuple #[.slice none 0 0, .int .i64 0, .int .i64 2]) ∧ Below w.heap.size w w' := by
 have hs' := hs
 obtain ⟨rv, dv, rfl, hr, hd⟩ := hs'
 have hBw : Below w.heap.size w (w.alloc (sBox s rv dv)) := (Below.refl _ _).alloc (Nat.le_refl _) _
 have hg := grow_cell (w.alloc (sBox s rv dv))
 cases ht : Sea.validB s
 · have hv := Lib.hid (progValidT (t := false) _ (hs.mono hBw) ht)
   replace hno := Lib.hid hno
   replace ht := Lib.hid ht
   go_enter Tryz.func8, Tryz.ntmps8
   go_wp2_with (first | (go_at_call 29; refine Calls.mono hv.out ?_; rintro e w' ⟨rfl, hb⟩; obtain ⟨g1, rfl⟩ : ∃ g1 : Grow (w.alloc (sBox s rv dv)), w' = g1.x := ⟨⟨w', hb⟩, rfl⟩))
   go_ret3
   exact ⟨rfl, hBw.trans (g1.h.mono hBw.size)⟩
 · have hn0 : s.nomsB noms = false := by rcases hno with h | h; rw [ht] at h; cases h; exact h
   have hv := Lib.hid (progValidT (t := true) _ (hs.mono hBw) ht)
   have hnn : Hid (∀ g : Grow (w.alloc (sBox s rv dv)), Calls Tryz.prog 30 #[_, nv] g.x fun e w' => e = .returned (.bool false) ∧ Below g.x.heap.size g.x w') := fun g => progNominatedT g.x ((hs.mono hBw).mono g.h) ((hn.mono hBw).mono g.h) hn0
   clear hno
   replace hn0 := Lib.hid hn0
   replace ht := Lib.hid ht
   go_enter Tryz.func8, Tryz.ntmps8
   go_wp2_with (first | (go_at_call 29; refine Calls.mono hv.out ?_; rintro e w' ⟨rfl, hb⟩; obtain ⟨g1, rfl⟩ : ∃ g1 : Grow (w.alloc (sBox s rv dv)), w' = g1.x := ⟨⟨w', hb⟩, rfl⟩) | (go_at_call 30; refine Calls.mono (hnn.out g1) ?_; rintro e w' ⟨rfl, hb2⟩; obtain ⟨g2, rfl⟩ := g1.next hb2))
   go_ret3
   exact ⟨rfl, hBw.trans (g2.h.mono hBw.size)⟩
def BestPost (s : Sea.S) (noms : List Int) (w : World) (e : Ending) (w' : World) : Prop :=
 ∃ v, e = .returned (.tuple #[v, .int .i64 (bestOf s noms).2.1, .int .i64 (bestOf s noms).2.2]) ∧ OwnInts w.heap.size w' v (bestOf s noms).1 ∧ Below w.heap.size w w'
theorem BestPost.of {s : Sea.S} {noms : List Int} {w w' : World} {v : Value} {l : List Int} {c f : Int} (h : bestOf s noms = (l, c, f)) (ho : OwnInts w.heap.size w' v l) (hb : Below w.heap.size w w') :
    BestPost s noms w (.returned (.tuple #[v, .int .i64 c, .int .i64 f])) w' := ⟨v, by rw [h], by rw [h]; exact ho, hb⟩
theorem progBestYes (sv nv : Value) (s : Sea.S) (noms : List Int) (w : World) (hs : SeasonAt w sv s) (hn : IntsAt w nv noms) (ht : Sea.validB s = true) (hno : s.nomsB noms = true) :
    Calls Tryz.prog 8 #[sv, nv] w (BestPost s noms w) := by
 have hs' := hs
 obtain ⟨rv, dv, rfl, hr, hd⟩ := hs'
 have hBw : Below w.heap.size w (w.alloc (sBox s rv dv)) := (Below.refl _ _).alloc (Nat.le_refl _) _
 have hg := grow_cell (w.alloc (sBox s rv dv))
 have ok := Sea.ok_of_valid ht
 have hv := Lib.hid (progValidT (t := true) _ (hs.mono hBw) ht)
 have hnn : Hid (∀ g : Grow (w.alloc (sBox s rv dv)), Calls Tryz.prog 30 #[_, nv] g.x fun e w' => e = .returned (.bool true) ∧ Below g.x.heap.size g.x w') := fun g => progNominatedT g.x ((hs.mono hBw).mono g.h) ((hn.mono hBw).mono g.h) hno
 obtain ⟨st, hst⟩ := Int.eq_ofNat_of_zero_le ok.start.1
 have hst2 : (st : Int) ≤ s.space := by have := ok.start.2; omega
 have hsp := ok.space
 have hnd := ok.ndays
 have hbc : Hid (bestCost s noms = Sea.at0 (s.vals noms s.days.length) st) := by show _ = _; unfold bestCost; rw [hst, Int.toNat_natCast]
 have hbnone := fun h => bestOf_none ht hno h
 have hbyes := fun h => bestOf_yes ht hno h
 replace hbnone := Lib.hid hbnone
 replace hbyes := Lib.hid hbyes
 have hno' := hno
 replace hno := Lib.hid hno
 replace ht := Lib.hid ht
 replace hno' := Lib.hid hno'
 have hst' := Lib.hid hst
 have hstc : ∀ g : Grow (w.alloc (sBox s rv dv)), g.x.cell? ⟨w.heap.size, 1, none⟩ = some (.int .i64 st) := fun g => by rw [hg g _ _ (by simp)]; rw [(row_cells (World.alloc_heap_new w (sBox s rv dv))).2.1]; simp [hst]
 have hdcc : ∀ g : Grow (w.alloc (sBox s rv dv)), g.x.cell? ⟨w.heap.size, 5, none⟩ = some dv := fun g => by rw [hg g _ _ (by simp)]; rw [(row_cells (World.alloc_heap_new w (sBox s rv dv))).2.1]; simp
 replace hdcc := Lib.hid hdcc
 clear hst
 go_enter Tryz.func8, Tryz.ntmps8
 go_wp2_with (first | (go_at_call 29; refine Calls.mono hv.out ?_; rintro e w' ⟨rfl, hb⟩; obtain ⟨g1, rfl⟩ : ∃ g1 : Grow (w.alloc (sBox s rv dv)), w' = g1.x := ⟨⟨w', hb⟩, rfl⟩) | (go_at_call 30; refine Calls.mono (hnn.out g1) ?_; rintro e w' ⟨rfl, hb2⟩; obtain ⟨g2, rfl⟩ := g1.next hb2; have hBg2 := hBw.trans (g2.h.mono hBw.size); have hlk := look_new (w := g2.x) (s := s) (mv := .map none) rfl (hr.mono hBg2) (hd.mono hBg2); obtain ⟨g3, hg3⟩ := g2.alloc (lBox s rv dv (.map none)); rw [hg3] at hlk) | (go_at_call 31; refine Calls.mono (progProof _ _ s g3.x nv noms hlk ok ((hn.mono hBw).mono g3.h) hno.out) ?_; rintro e w' ⟨pb, vs, pcap, rfl, hM, hb3⟩; obtain ⟨g4, rfl⟩ := g3.next hb3; obtain ⟨g5, hg5⟩ := g4.alloc (.cells #[.slice (some ⟨pb, 0, none⟩) (s.days.length + 1) pcap] 100); have hn5 := World.alloc_heap_new g4.x (.cells #[.slice (some ⟨pb, 0, none⟩) (s.days.length + 1) pcap] 100); rw [hg5] at hn5; have hM5 := hM.mono (w' := g5.x) (by rw [← hg5]; exact below_al (Below.refl _ _) _)))
 have hrow := (hM5.own 0 (by rw [proof_len]; omega)).at
 rw [proof_row0] at hrow
 obtain ⟨vb, voff, vcap, hv0, hvlt, hvm, hvk⟩ := int_cell hrow (by rw [Sea.S.vals_length]; omega)
 have hvl := Lib.hid (Sea.S.vals_length s noms s.days.length)
 have r0 := (row_len hM5 (i := 0) (by rw [proof_len]; omega)).1
 rw [hv0] at r0
 have rv0 := hvk st (by rw [hvl.out]; omega)
 have hstl : (0 : Int) ≤ (st : Int) ∧ (st : Int) < ((s.vals noms s.days.length).length : Int) := by rw [hvl.out]; omega
 have n0 := (row_cells hn5).2.1 0
 simp only [List.getElem?_toArray, List.getElem?_cons_zero] at n0
 have s1 := hstc g5
 have s5 := hdcc.out g5
 obtain ⟨da, dcap, rfl, hdm, -⟩ := hd
 unfold maxLen at hdm
 replace hstc := Lib.hid hstc
 clear hg
 have hn1 : (0 : Int) < (s.days.length : Int) + 1 := by omega
 generalize hbv : Sea.at0 (s.vals noms s.days.length) st = bc at *
 replace hbv := Lib.hid hbv
 replace hvk := Lib.hid hvk
 by_cases hbn : bc = 1000000000000000
 · have hb := hbnone.out (by rw [hbc.out]; exact hbn)
   replace hb := Lib.hid hb
   rw [hbn] at rv0
   replace hbn := Lib.hid hbn
   go_quiet (fail)
   go_wp2_with (fail)
   go_ret3
   exact BestPost.of hb.out (OwnInts.nil _ _) (below_drewN (hBw.trans (g5.h.mono hBw.size)) _)
 · have hb := hbyes.out (by rw [hbc.out]; exact hbn)
   have hne : (bc == 1000000000000000) = false := by simpa using hbn
   replace hb := Lib.hid hb
   replace hbn := Lib.hid hbn
   have hneq : (bc == 1000000000000000) = false := hne
   go_quiet (fail)
   go_wp2_with (fail)
   obtain ⟨g6, hg6⟩ := g5.next (below_drewN (Below.refl _ _) nq)
   rw [hg6]
   have hM6 : OwnMat g3.x.heap.size pb g6.x vs (s.proof noms) := hM5.mono (by rw [← hg6]; exact below_drewN (Below.refl _ _) nq)
   have hn6 : g6.x.heap[g4.x.heap.size]? = some (.cells #[.slice (some ⟨pb, 0, none⟩) (s.days.length + 1) pcap] 100) := by rw [← hg6]; exact hn5
   have m0 := (row_cells hn6).2.1 0
   simp only [List.getElem?_toArray, List.getElem?_cons_zero] at m0
   have m1 := hstc.out g6
   have m2 : g6.x.cell? ⟨pb, 0, none⟩ = some (Value.slice (some ⟨vb, voff, none⟩) (s.vals noms s.days.length).length vcap) := by rw [← hg6]; exact r0
   have m3 : g6.x.cell? ⟨vb, voff + st, none⟩ = some (.int .i64 bc) := by rw [← hg6]; exact rv0
   have hB36 : Below g3.x.heap.size g3.x g6.x := by rw [← hg6, ← hg5]; exact below_drewN (below_al hb3 _) nq
   clear hg6 hg5 hn5 hM5 hM r0 rv0 n0 s1 s5 hneq nq
   have hz0 := World.block_lt_of_cell? _ ⟨_, _, none⟩ m0
   have hz1 := World.block_lt_of_cell? _ ⟨_, _, none⟩ m1
   have hz2 := World.block_lt_of_cell? _ ⟨_, _, none⟩ m2
   have hz3 := World.block_lt_of_cell? _ ⟨_, _, none⟩ m3
   simp only at hz0 hz1 hz2 hz3
   have m4 := hdcc.out g6
   have hn7 : IntsAt g6.x nv noms := hn.mono (hBw.trans (g6.h.mono hBw.size))
   have hlk6 : LookAt g6.x (.pointer (some ⟨g2.x.heap.size, 0, none⟩)) (.map none) s := hlk.mono hB36
   have hnl := Lib.hid (noms_bd ok hno.out).1
   have hnb := Lib.hid (noms_bd ok hno.out).2
   have hBw6 : Below w.heap.size w g6.x := hBw.trans (g6.h.mono hBw.size)
   have hsz6 := hBw6.size
   obtain ⟨nbk, noff, ncap, rfl, hnlt, hnm, hnk⟩ := int_cell hn7 (by rw [hnl.out]; omega)
   generalize g2.x.heap.size = lb at *
   generalize g4.x.heap.size = po at *
   generalize hX : g6.x = X at *
   have hvk := Lib.hid hnk
   clear hnk hg3 hlk hBg2 hb2 hb3 hrow hvlt hB36 hn6 hn hn7
   go_loopw [9, 10, 43] (fun p now i wr => ∃ (t : Nat) (v : Value), t ≤ s.days.length ∧ v = p ∧ i = .int .i64 t ∧ now = .int .i64 (planTo s noms t).2 ∧
    Hid (0 ≤ (planTo s noms t).2 ∧ (planTo s noms t).2 ≤ s.space ∧ Sea.at0 (s.vals noms (s.days.length - t)) (planTo s noms t).2.toNat < Sea.never) ∧ OwnInts X.heap.size wr v (planTo s noms t).1 ∧ ∃ g : Grow X, wr = g.x) (fun _ _ i _ => s.days.length - (intOf i).toNat)
   case atStart =>
    refine ⟨0, _, by omega, rfl, rfl, ?_, ?_, OwnInts.nil _ _, Grow.self X, rfl⟩
    · show _ = Value.int .i64 s.start; rw [hst'.out]
    · show 0 ≤ s.start ∧ s.start ≤ s.space ∧ Sea.at0 (s.vals noms (s.days.length - 0)) s.start.toNat < Sea.never
      rw [hst'.out, Int.toNat_natCast, Nat.sub_zero, hbv.out]
      have := (vals_bd ok noms s.days.length (Nat.le_refl _) st).2
      rw [hbv.out] at this
      have := hbn.out
      unfold Sea.never at *
      omega
   case round =>
    obtain ⟨t, v, ht2, rfl, rfl, rfl, hI, ho, g, rfl⟩ := hrel
    by_cases hlt : t < s.days.length
    · obtain ⟨j, hj⟩ : ∃ j, t + 1 + j = s.days.length := ⟨s.days.length - t - 1, by omega⟩
      obtain ⟨hf0, hf1, hf2⟩ := hI.out
      rw [show s.days.length - t = j + 1 by omega] at hf2
      obtain ⟨f, hf⟩ := Int.eq_ofNat_of_zero_le hf0
      obtain ⟨u, hu1, hu2, hu3, hu4, hu5, hu6, -⟩ := step_of ok noms hj ⟨hf0, hf1⟩ hf2
      have hnext : planTo s noms (t + 1) = ((planTo s noms t).1 ++ [u], (planTo s noms t).2 + Sea.at0 noms t + u) := by
       show (((planTo s noms t).1 ++ [(s.least t (planTo s noms t).2 (Sea.at0 noms t) (s.vals noms (s.days.length - 1 - t))).2]), _) = _
       rw [show s.days.length - 1 - t = j by omega, hu3]
      have hlen : (planTo s noms t).1.length ≤ 1000000 := by rw [planTo_len]; omega
      have huo := order_in ok hlt hu1
      have hnt := hnb.out t hlt
      generalize hpl : planTo s noms t = pl at *
      obtain ⟨pl1, pl2⟩ := pl
      simp only at hf hf0 hf1 hf2 hu1 hu2 hu3 hu4 hu5 hu6 hnext hlen ho huo
      subst hf
      obtain ⟨best, hbest⟩ : ∃ best, (firstOf (withOf s t f (Sea.at0 noms t) (s.vals noms j)) (ordersOf s t f (Sea.at0 noms t))).1 = best := ⟨_, rfl⟩
      have hNum := fun (Y : World) (hY : Below X.heap.size X Y) (bd : Nat) (hc : Y.cell? ⟨bd, 0, none⟩ = some (.int .i64 t)) => best_num _ (.map none) s noms Y g3.x.heap.size pb po bd j t f 0 [] (hlk6.mono hY) ok hno.out hj (by omega) vs (hM6.mono hY) _ (kept_cell hY m0) hc
      obtain ⟨ga, hga⟩ := g.alloc (.cells #[.int .i64 (t : Int)] 3)
      have hnA := World.alloc_heap_new g.x (.cells #[.int .i64 (t : Int)] 3)
      rw [hga] at hnA
      have x0 := (row_cells hnA).2.1 0
      simp only [List.getElem?_toArray, List.getElem?_cons_zero] at x0
      have hgl : g.x.heap.size < ga.x.heap.size := (row_cells hnA).1
      have hgl2 : nbk < ga.x.heap.size := Nat.lt_of_lt_of_le hnlt ga.size
      have hBga : Below g.x.heap.size g.x ga.x := by rw [← hga]; exact below_al (Below.refl _ _) _
      have z0 := kept_cell ga.h (hvk.out t (by rw [hnl.out]; exact hlt))
      have hti : (0 : Int) ≤ (t : Int) ∧ (t : Int) < (noms.length : Int) ∧ (t : Int) < (s.days.length : Int) := by rw [hnl.out]; omega
      obtain ⟨Phi, hPhiE⟩ : ∃ Phi : Value → World → Prop, Phi = fun v w' => IterAt w' v (.pointer (some ⟨lb, 0, none⟩)) t f (Sea.at0 noms t) := ⟨_, rfl⟩
      have hPhi : ∀ v w1 w2, Phi v w1 → Below w1.heap.size w1 w2 → Phi v w2 := by rw [hPhiE]; exact fun v w1 w2 h hb => h.mono (.of hb)
      have cA : ∀ w', Below ga.x.heap.size ga.x w' → Calls Tryz.prog 33 #[.pointer (some ⟨lb, 0, none⟩), .agg #[.int .i64 t, .int .i64 f], .int .i64 (Sea.at0 noms t)] w' fun e w'' => ∃ v, e = .returned v ∧ Phi v w'' ∧ Below w'.heap.size w' w'' := by
       rw [hPhiE]; exact fun w' _ => progOrders _ _ _ _ _
      have cB : ∀ v w', Below ga.x.heap.size ga.x w' → Phi v w' → Calls Tryz.prog 32 #[v, .func (.func 34) #[] #[.pointer (some ⟨po, 0, none⟩), .pointer (some ⟨g.x.heap.size, 0, none⟩)]] w' fun e w'' => e = .returned (.tuple #[.agg #[.pointer (some ⟨lb, 0, none⟩), .int .i64 t, .int .i64 f, .int .i64 (Sea.at0 noms t), .int .i64 u], .int .i64 best, .bool (decide (best < 1000000000000000))]) ∧ Below w'.heap.size w' w'' := by
       rw [hPhiE]
       intro v w' hw' hv
       have hXw : Below X.heap.size X w' := below_tr ga.h hw'
       have := progFirstPlain _ _ _ s t f (Sea.at0 noms t) (withOf s t f (Sea.at0 noms t) (s.vals noms j)) 34 _ w' (hlk6.mono hXw) hlt ok (by omega) hnt hv enter_b1 (fun u hu Z hZ => hNum Z (below_tr hXw hZ) _ (kept_cell hZ (kept_cell hw' x0)) u hu Z (Below.refl _ _))
       rw [hu2, hbest] at this
       exact this
      replace hbest := Lib.hid hbest
      replace hPhiE := Lib.hid hPhiE
      replace hnext := Lib.hid hnext
      replace hpl := Lib.hid hpl
      have Ho := Lib.hid ho
      have hob := ho.lt
      replace hob := Lib.hid hob
      clear hNum hu1 hu2 hu3 ho hI hnA
      go_wp2_with (fail)
      refine wp_region_vars2 (va := [⟨15, 12, 105, #[.pointer none, .int .i64 0, .int .i64 0, .int .i64 0, .int .i64 0], 16, .tmp 58⟩]) (ab := ⟨8, 55, 10, .tuple #[.agg #[.pointer (some ⟨lb, 0, none⟩), .int .i64 t, .int .i64 f, .int .i64 (Sea.at0 noms t), .int .i64 u], .int .i64 best, .bool (decide (best < 1000000000000000))]⟩) (Φ := Phi) growth_below hPhi (by kernel_rfl) (by kernel_rfl) ?_ ?_ (by simp) (by simp) (fun TT ff hTT hff hcl => ?_)
      · intro p hp w
        simp only [List.mem_cons, List.not_mem_nil, or_false] at hp
        rcases hp with rfl <;> go_simp
      · intro p hp
        simp only [List.mem_cons, List.not_mem_nil, or_false] at hp
        rcases hp with rfl <;> kernel_rfl
      have hg : ∀ (g : TT) (b o : Nat), b < ga.x.heap.size → (ff g).cell? ⟨b, o, none⟩ = ga.x.cell? ⟨b, o, none⟩ := fun g => below_cell (hff g)
      simp only [lexOf2, lexOp, Nat.reduceEqDiff, List.zipIdx_cons, List.zipIdx_nil, List.map_cons, List.map_nil, isMade, List.any_cons, List.any_nil, Nat.reduceAdd, Nat.reduceBEq, Bool.or_false, Bool.false_or, Bool.or_self, Bool.false_eq_true, if_false, if_true, Nat.zero_add, BEq.rfl, Bool.or_true, Bool.true_or]
      simp only [Go.Sd.blank]
      repeat (go_big_quiet_step (fail))
      refine wpQuiet_nil ?_
      refine ⟨?_, ?_, ?_, ?_⟩
      · intro p hp
        simp only [List.mem_cons, List.not_mem_nil, or_false] at hp
        rcases hp with rfl <;> (constructor <;> simp [go_sem, Value.cells, Value.oneCell'])
      · intro o ho w' hw'
        cases ho
        exact ⟨_, _, by kernel_rfl, cA w' hw'⟩
      · intro o ho v w' hw' hv
        cases ho
        exact ⟨_, _, by kernel_rfl, cB v w' hw' hv⟩
      intro ns vA w' hB' hv
      obtain ⟨n1, rfl, hn1, hl1, hc1, hf1⟩ := vars_one hv
      clear hv hff hcl hg hTT ff TT cA cB hPhi
      simp only [placeV, Act.put, List.setIfInBounds_toArray, List.set_cons_zero, List.set_cons_succ]
      simp [go_sem] at hc1
      clear hPhiE Phi
      have o0 := hc1 0
      have o1 := hc1 1
      have o2 := hc1 2
      have o3 := hc1 3
      have o4 := hc1 4
      simp at o0 o1 o2 o3 o4
      have hn1' : ga.x.heap.size ≤ n1 := hn1
      have hBw' : Below g.x.heap.size g.x w' := below_tr hBga hB'
      have Ho' : Hid (OwnInts X.heap.size w' v pl1) := Ho.out.mono hBw'
      have hXw : Below X.heap.size X w' := below_tr g.h hBw'
      have hne : v.ownBlock ≠ some n1 := fun e => by have := (hob.out _ e).2; omega
      have huo2 : -100 ≤ u ∧ u ≤ 100 := ⟨huo.1, huo.2.1⟩
      have hff : (0 : Int) ≤ (f : Int) ∧ (f : Int) ≤ 100 := by omega
      have hXs := hXw.size
      replace hXw := Lib.hid hXw
      clear hc1 hf1 z0 x0 hga huo Ho
      go_wp2_with (first
       | (at_builtin; refine wpList_app_int rfl _ _ rfl X.heap.size w' v _ _ rfl Ho'.out rfl hlen (by omega) ?_; intro v1 w1 ho1 hg1 hn1 hat1; have e0 := (hg1.cell_far ⟨n1, 0, none⟩ hl1 (Ne.symm hne)).trans o0; have e1 := (hg1.cell_far ⟨n1, 1, none⟩ hl1 (Ne.symm hne)).trans o1; have e2 := (hg1.cell_far ⟨n1, 2, none⟩ hl1 (Ne.symm hne)).trans o2; have e3 := (hg1.cell_far ⟨n1, 3, none⟩ hl1 (Ne.symm hne)).trans o3; have e4 := (hg1.cell_far ⟨n1, 4, none⟩ hl1 (Ne.symm hne)).trans o4; have hXw1 : Hid (Below X.heap.size X w1) := below_append hXw.out hXs Ho'.out hg1; replace ho1 := Lib.hid ho1)
       | (go_at_call 36; refine (progBehind _ _ _ _ _ _ hff hnt huo2).mono ?_; rintro e w2 ⟨rfl, hb2⟩))
      obtain ⟨g9, rfl⟩ : ∃ g9 : Grow X, w2 = g9.x := ⟨⟨w2, hXw1.out.trans (hb2.mono hXw1.out.size)⟩, rfl⟩
      refine ⟨⟨t + 1, v1, by omega, rfl, by go_num, by rw [hnext.out], ?_, ?_, g9, rfl⟩, by simp [intOf]; omega⟩
      · show 0 ≤ _ ∧ _
        rw [hnext.out, show s.days.length - (t + 1) = j by omega]
        exact ⟨hu4, hu5, hu6⟩
      · rw [hnext.out]; exact ho1.out.mono hb2
    · obtain rfl : t = s.days.length := by omega
      have hlt' : (s.days.length : Int) < (s.days.length : Int) + 1 := by omega
      have k0 := kept_cell g.h m0
      have k1 := kept_cell g.h m1
      have k2 := kept_cell g.h m2
      have k3 := kept_cell g.h m3
      have Ho := Lib.hid ho
      clear ho
      go_wp2_with (fail)
      go_quiet (fail)
      go_wp2_with (fail)
      go_ret3
      refine BestPost.of (l := (planTo s noms s.days.length).1) ?_ ((Ho.out.from hBw6.size).mono (below_drewN (Below.refl _ _) nq)) (below_drewN (hBw6.trans (g.h.mono hBw6.size)) _)
      rw [hb.out, hbc.out]
end Go.Proofs.YtpcamocnlnlgiaaGreat.S
set_option linter.unusedVariables false
set_option linter.unusedSimpArgs false
namespace Go.Proofs.YtpcamocnlnlgiaaGreat.S
open Go.RowKit Go.Sd
abbrev spotV (d f : Int) : Value := .agg #[.int .i64 d, .int .i64 f]
def MemoAt (w : World) (mb : Nat) (P : Int → Int → Prop) (F : Int → Int → Int) : Prop :=
 ∃ es clock, w.heap[mb]? = some (.map es clock) ∧ ∀ e ∈ es.toList, ∃ d f, P d f ∧ e.key = spotV d f ∧ e.val = .int .i64 (F d f)
theorem MemoAt.same {w w' : World} {mb : Nat} {P : Int → Int → Prop} {F : Int → Int → Int} (h : MemoAt w mb P F) (hb : w'.heap[mb]? = w.heap[mb]?) : MemoAt w' mb P F := by
 obtain ⟨es, c, h1, h2⟩ := h
 exact ⟨es, c, hb.trans h1, h2⟩
theorem MemoAt.lt {w : World} {mb : Nat} {P : Int → Int → Prop} {F : Int → Int → Int} (h : MemoAt w mb P F) : mb < w.heap.size := by
 obtain ⟨es, c, h1, -⟩ := h
 exact (zqo h1)
theorem MemoAt.mono {w w' : World} {mb : Nat} {P : Int → Int → Prop} {F : Int → Int → Int} (h : MemoAt w mb P F) (hb : Below w.heap.size w w') : MemoAt w' mb P F := h.same (hb.block _ h.lt)
theorem MemoAt.no_cell {w : World} {mb : Nat} {P : Int → Int → Prop} {F : Int → Int → Int} (h : MemoAt w mb P F) {b o : Nat} {v : Value} (hc : w.cell? ⟨b, o, none⟩ = some v) : b ≠ mb := by
 obtain ⟨es, c, h1, -⟩ := h
 rintro rfl
 simp [World.cell?, h1] at hc
theorem MemoAt.kc {w w' : World} {mb : Nat} {P : Int → Int → Prop} {F : Int → Int → Int} (h : MemoAt w mb P F) (hk : Kept (fun k => k ≠ mb) w w') : Kc w w' := ⟨hk.size, fun _ _ _ hc => hk.cell (h.no_cell hc) hc⟩
end Go.Proofs.YtpcamocnlnlgiaaGreat.S
namespace Go.Proofs.YtpcamocnlnlgiaaGreat.S
open Go.RowKit Go.Sd
def memoF (s : Sea.S) (d f : Int) : Int := Sea.at0 (wrow s (s.days.length - d.toNat)) f.toNat
abbrev Memo (w : World) (mb : Nat) (s : Sea.S) : Prop := MemoAt w mb (fun _ _ => True) (memoF s)
structure GrM (W : World) (mb : Nat) (s : Sea.S) where
 x : World
 h : Kept (fun k => k ≠ mb) W x
 m : Memo x mb s
theorem GrM.next {W w1 : World} {mb : Nat} {s : Sea.S} (g : GrM W mb s) (hk : Kept (fun k => k ≠ mb) g.x w1) (hm : Memo w1 mb s) : ∃ g' : GrM W mb s, w1 = g'.x := ⟨⟨w1, g.h.trans hk, hm⟩, rfl⟩
theorem GrM.below {W w1 : World} {mb : Nat} {s : Sea.S} (g : GrM W mb s) (hb : Below g.x.heap.size g.x w1) : ∃ g' : GrM W mb s, w1 = g'.x := g.next (.all hb) (g.m.mono hb)
def NomSaid (s : Sea.S) (lv : Value) (mb d j f : Nat) (w : World) (e : Ending) (w' : World) : Prop :=
 e = .returned (.tuple #[.int .i64 (worstOf s d f (wrow s j)).1, .int .i64 (worstOf s d f (wrow s j)).2]) ∧ Kept (fun k => k ≠ mb) w w' ∧ Memo w' mb s
theorem NomSaid.of {s : Sea.S} {lv : Value} {mb d j f : Nat} {w w' : World} {n c : Int} (h : worstOf s d f (wrow s j) = (n, c)) (hk : Kept (fun k => k ≠ mb) w w') (hm : Memo w' mb s) :
    NomSaid s lv mb d j f w (.returned (.tuple #[.int .i64 n, .int .i64 c])) w' := ⟨by rw [h], hk, hm⟩
end Go.Proofs.YtpcamocnlnlgiaaGreat.S
set_option linter.unusedVariables false
set_option linter.unusedSimpArgs false
namespace Go.Proofs.YtpcamocnlnlgiaaGreat.S
open Go.RowKit Go.Sd
def Three (x : Int × Int × Int) (w : World) (e : Ending) (w' : World) : Prop := e = .returned (.tuple #[.int .i64 x.1, .int .i64 x.2.1, .int .i64 x.2.2]) ∧ Below w.heap.size w w'
theorem Three.of {x : Int × Int × Int} {w w' : World} {a b c : Int} (h : x = (a, b, c)) (hb : Below w.heap.size w w') : Three x w (.returned (.tuple #[.int .i64 a, .int .i64 b, .int .i64 c])) w' := by
 subst h; exact ⟨rfl, hb⟩
end Go.Proofs.YtpcamocnlnlgiaaGreat.S
