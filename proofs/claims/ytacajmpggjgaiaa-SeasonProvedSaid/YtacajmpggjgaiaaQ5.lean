/- Walks: whether values are fair (the program: a range over an iterator inside two loops). -/
import Derived.Test.YtacajmpggjgaiaaV6
import Derived.Test.YtacajmpggjgaiaaRnd
import Derived.Deep.LoopGhost
import Derived.Test.YtacajmpggjgaiaaWor
set_option linter.unusedVariables false
set_option linter.unusedSimpArgs false
namespace Go.Proofs.Ytacajmpggjgaiaa
open Go.RowKit Go.Sd
attribute [local go_sem] Oper.semAt_some

/-- The mark that a range over a function leaves in a frame. -/
def markD (D : Nat) : Deferred := { target := .collected D, args := #[] }
structure Marks (B : Nat) (Ds : List Nat) (w : World) : Prop where
  nd : Ds.Nodup
  on : ∀ D, D ∈ Ds → B ≤ D ∧ w.heap[D]? = some (.deferred (some []))
theorem Marks.nil (B : Nat) (w : World) : Marks B [] w := ⟨List.nodup_nil, fun D h => by cases h⟩
theorem Marks.cons {B : Nat} {Ds : List Nat} {w w' : World} {D : Nat} (h : Marks B Ds w) (hk : ∀ k, k ∈ Ds → w'.heap[k]? = w.heap[k]?) (hD : w.heap.size ≤ D) (hB : B ≤ w.heap.size) (hd : w'.heap[D]? = some (.deferred (some []))) : Marks B (D :: Ds) w' :=
  ⟨List.nodup_cons.2 ⟨fun hm => by have := (Array.getElem?_eq_some_iff.1 (h.on D hm).2).1; omega, h.nd⟩, fun k hm => by
    rcases List.mem_cons.1 hm with rfl | hm
    · exact ⟨by omega, hd⟩
    · exact ⟨(h.on k hm).1, (hk k hm).trans (h.on k hm).2⟩⟩
theorem Marks.mono {B : Nat} {Ds : List Nat} {w w' : World} (h : Marks B Ds w) (hk : ∀ k, k ∈ Ds → w'.heap[k]? = w.heap[k]?) : Marks B Ds w' := ⟨h.nd, fun k hm => ⟨(h.on k hm).1, (hk k hm).trans (h.on k hm).2⟩⟩
theorem Marks.lt {B : Nat} {Ds : List Nat} {w : World} (h : Marks B Ds w) {k : Nat} (hk : k ∈ Ds) : k < w.heap.size := (Array.getElem?_eq_some_iff.1 (h.on k hk).2).1
theorem leaves_marks {fn : Func} {tmps : Array Value} {R : Ending → World → Prop} {B : Nat} : ∀ (Ds : List Nat) (w : World), Marks B Ds w → (∀ w', Below B w w' → LeavesInM Fence.wide 0 Try.prog fn tmps R [] .returning w') →
    LeavesInM Fence.wide 0 Try.prog fn tmps R (Ds.map markD) .returning w
  | [], w, _, h => h w (Below.refl _ _)
  | D :: Ds, w, hm, h => by
    have hD := hm.on D (List.mem_cons_self ..)
    refine ⟨by simp, .inl ⟨D, _, rfl, run_takeDeferred hD.2, leaves_marks Ds _ ⟨(List.nodup_cons.1 hm.nd).2, fun k hk => ?_⟩ fun w' hb => h w' ((below_putObj (Below.refl B w) hD.1 _).trans hb)⟩⟩
    refine ⟨(hm.on k (List.mem_cons_of_mem _ hk)).1, (World.putObj_heap_other (fun e => ?_)).trans (hm.on k (List.mem_cons_of_mem _ hk)).2⟩
    subst e
    exact (List.nodup_cons.1 hm.nd).1 hk

theorem kept_same {S : Nat → Prop} {a w : World} {n : Nat} {v : Value} {e : TypeId} (h : Kept S a w) (hc : w.heap[n]? = some (.cells #[v] e)) : Kept S a (w.setCell ⟨n, 0, none⟩ v) :=
  ⟨h.os, h.tape, h.output, by have := h.size; simpa [World.setCell] using this, fun k hk hs => by
    by_cases e : k = n
    · subst e; exact (set1 hc v).trans (hc.symm.trans (h.block _ hk hs))
    · exact (Below.heap_setCell _ _ _ _ e).trans (h.block k hk hs)⟩

/-- Whether no order shows that a value is too great. -/
theorem fair_orders {s : Sea.S} (ok : Sea.Ok s) {t : Nat} (ht : t < s.days.length) {f nom z : Int} {next : List Int} (hn : ∀ i, Sea.at0 next i ≤ Sea.never) (hz : z ≤ Sea.never) :
    z ≤ (s.least t f nom next).1 ↔ ∀ u, u ∈ ordersOf s t f nom → Sea.at0 next (f + nom + u).toNat = Sea.never ∨ z ≤ s.cost t u + Sea.at0 next (f + nom + u).toNat := by
  constructor
  · intro h u hu
    have ho := order_in ok ht hu
    by_cases e : Sea.at0 next (f + nom + u).toNat = Sea.never
    · exact .inl e
    · have := least_le (next := next) ho.2.2.1 (by have := hn (f + nom + u).toNat; omega)
      exact .inr (by omega)
  · intro h
    by_cases hl : (s.least t f nom next).1 < Sea.never
    · obtain ⟨h1, h2, h3, h4, h5⟩ := least_hit ok ht hl
      have hg := rule_range h1
      have hd := ok.days t ht
      have hm : (s.least t f nom next).2 ∈ ordersOf s t f nom := by
        unfold ordersOf ordersTo
        rw [List.mem_filter, List.mem_map]
        refine ⟨⟨((s.least t f nom next).2 + (Sea.dayAt s.days t).take).toNat, List.mem_range.2 (by omega), by omega⟩, ?_⟩
        unfold possB
        exact decide_eq_true h1
      rcases h _ hm with e | e
      · omega
      · omega
    · omega

set_option maxRecDepth 100000 in
set_option maxHeartbeats 16000000 in
theorem progFair (lv mv nv vv : Value) (s : Sea.S) (noms : List Int) (l : List (List Int)) (w : World) (hlk : LookAt w lv mv s) (hn : IntsAt w nv noms) (hl : ListsAt w vv l) (ok : Sea.Ok s) (hno : s.nomsB noms = true) (hva : valsB s l = true) :
    Calls Try.prog 73 #[lv, nv, vv] w (BoolPost (fairB s noms l) w) := by
  have hsp := ok.space
  have hnd := ok.ndays
  have hfin := ok.fin
  obtain ⟨b, off, cap, rfl, hbl, hrows⟩ := rows_in ok hva hl
  obtain ⟨hnl, hnb⟩ := noms_bd ok hno
  obtain ⟨nb, noff, ncap, rfl, hnlt, hnm, hnk⟩ := int_cell hn (by omega)
  have hvf := (vals_facts hva).2
  obtain ⟨W1, hW1⟩ : ∃ W1, w.alloc (.cells #[.slice (some ⟨b, off, none⟩) (s.days.length + 1) cap] 35) = W1 := ⟨_, rfl⟩
  have hB1 : Below w.heap.size w W1 := by rw [← hW1]; exact below_al (Below.refl _ _) _
  have hn1 := World.alloc_heap_new w (.cells #[.slice (some ⟨b, off, none⟩) (s.days.length + 1) cap] 35)
  rw [hW1] at hn1
  obtain ⟨W, hW⟩ : ∃ W, W1.alloc (.cells #[.bool false] 4) = W := ⟨_, rfl⟩
  have hB2 : Below W1.heap.size W1 W := by rw [← hW]; exact below_al (Below.refl _ _) _
  have hn2 := World.alloc_heap_new W1 (.cells #[.bool false] 4)
  rw [hW] at hn2
  have hw1 := (Array.getElem?_eq_some_iff.1 hn1).1
  have hw2 := (Array.getElem?_eq_some_iff.1 hn2).1
  have hn1W := (hB2.block _ hw1).trans hn1
  have hBw : Below w.heap.size w W := hB1.trans (hB2.mono (Nat.le_of_lt hw1))
  obtain ⟨-, c1, -⟩ := row_cells hn1W
  obtain ⟨-, c2, f2⟩ := row_cells hn2
  have v0 := c1 0
  have r0 := c2 0
  have rf0 := f2 0
  simp only [List.getElem?_toArray, List.getElem?_cons_zero] at v0 r0
  have hlkW := hlk.mono hBw
  obtain ⟨lb, rv, dv, rfl, ⟨l0, l1, l2, l3, l4, l5, l6⟩, hlb, hr, hd⟩ := hlkW
  obtain ⟨da, dcap, rfl, hdm, -⟩ := hd
  unfold maxLen at hdm
  have hlkW := hlk.mono hBw
  have hrowsW := hrows.mono hBw
  have hnkW : Hid (∀ k, k < noms.length → W.cell? ⟨nb, noff + k, none⟩ = some (.int .i64 (Sea.at0 noms k))) := fun k hk => kept_cell hBw (hnk k hk)
  have hg := grow_cell W
  replace hvf := Lib.hid hvf
  replace hrowsW := Lib.hid hrowsW
  replace hnl := Lib.hid hnl
  replace hnb := Lib.hid hnb
  replace hva := Lib.hid hva
  replace hno := Lib.hid hno
  clear hl hn hnk hrows c1 c2 f2 hlk hn1
  refine (callsIn_wide (n := 0)).1 ?_
  refine callsIn_of_wp_marks Try.func73 rfl trivial ?_
  simp only [Try.ntmps73, List.size_toArray, List.length_cons, List.length_nil, Nat.reduceAdd, Nat.reduceSub, Array.replicate_succ, Array.replicate_zero, List.push_toArray, List.append_toArray, List.nil_append, List.cons_append]
  refine wpIn_wide.2 ?_
  go_wp2_with (fail)
  go_loopw [7] (fun i wr => ∃ k : Nat, s.elo + k ≤ s.ehi + 1 ∧ i = .int .i64 (s.elo + k) ∧ Hid (∀ j, j < k → Sea.at0 (Sea.lstAt l s.days.length) (s.elo + j).toNat ≤ 0) ∧ ∃ g : Grow W, wr = g.x) (fun i _ => (s.ehi + 1 - intOf i).toNat)
  case atStart => exact ⟨0, by omega, by simp, (fun j h => by omega : ∀ j : Nat, j < 0 → Sea.at0 (Sea.lstAt l s.days.length) (s.elo + j).toNat ≤ 0), Grow.self W, rfl⟩
  case round =>
    obtain ⟨k, hk, rfl, hH, g, rfl⟩ := hrel
    have m0 := g.cell v0
    have m1 := g.cell r0
    have m2 := (grow_frozen W g _ _ hw2).trans rf0
    by_cases hkl : s.elo + k ≤ s.ehi
    · obtain ⟨eb, eo, ec, h1, h2, h3, -⟩ := hrowsW.out s.days.length (Nat.le_refl _)
      have h4 := h3 (s.elo + k).toNat (by omega)
      have hnn : (0 : Int) ≤ (s.days.length : Int) ∧ (s.days.length : Int) < (s.days.length : Int) + 1 := by omega
      have hki : (0 : Int) ≤ s.elo + k ∧ s.elo + k < ((s.space + 1).toNat : Int) := by omega
      have hbW := World.block_lt_of_cell? _ ⟨_, _, none⟩ h1
      simp only at hbW
      have hgs := g.size
      by_cases hp : 0 < Sea.at0 (Sea.lstAt l s.days.length) (s.elo + k).toNat
      · have hf := Lib.hid (fair_no1 (noms := noms) (i := k) (by omega) (Int.not_le.2 hp))
        clear h3
        generalize Sea.at0 (Sea.lstAt l s.days.length) (s.elo + k).toNat = z at *
        go_wp2_with (fail)
        go_quiet (fail)
        go_wp2_with (fail)
        exact ⟨.bool false, by simp [results, Try.results73, go_sem, m1], BoolPost.of hf.out ((below_drewN (hBw.trans (g.h.mono hBw.size)) _).setCell (by show _ ≤ W1.heap.size; omega) _)⟩
      · have hH2 : Hid (∀ j, j < k + 1 → Sea.at0 (Sea.lstAt l s.days.length) (s.elo + j).toNat ≤ 0) := upto_succ hH.out (by omega)
        clear h3
        generalize Sea.at0 (Sea.lstAt l s.days.length) (s.elo + k).toNat = z at *
        go_wp2_with (fail)
        go_quiet (fail)
        go_wp2_with (fail)
        obtain ⟨g1, hg1⟩ := g.next (below_drewN (Below.refl _ _) nq)
        exact ⟨⟨k + 1, by omega, by go_num, hH2, g1, hg1⟩, by simp [intOf]; omega⟩
    · have hA : Hid (∀ i, i < (s.ehi - s.elo + 1).toNat → Sea.at0 (Sea.lstAt l s.days.length) (s.elo + i).toNat ≤ 0) := fun i hi => hH.out i (by omega)
      clear hH
      go_wp2_with (fail)
      -- LOOP2
      replace hA := Lib.hid hA
      refine wp_loop_ghost_k (fun n a wr => ∃ (t : Nat) (Ds : List Nat) (v8 v9 v48 v49 v50 v51 v52 v53 v54 v55 v56 v57 v58 v59 v60 v61 v62 v63 v64 v65 v66 v67 v94 v95 : Value), t ≤ s.days.length ∧ n = s.days.length - t ∧ Hid (∀ t', t' < t → ∀ f : Nat, f < (s.space + 1).toNat → Sea.at0 (Sea.lstAt l t') f ≤ (s.least t' f (Sea.at0 noms t') (Sea.lstAt l (t' + 1))).1) ∧
        Marks W.heap.size Ds wr ∧ (∃ g : Grow W, wr = g.x) ∧ a = { tmps := #[.pointer (some ⟨lb, 0, none⟩), .slice (some ⟨nb, noff, none⟩) noms.length ncap, .slice (some ⟨b, off, none⟩) (s.days.length + 1) cap, undef, undef, .pointer (some ⟨w.heap.size, 0, none⟩), .pointer (some ⟨W1.heap.size, 0, none⟩), .int .i64 (s.elo + k), v8, v9, undef, undef, .pointer (some ⟨lb, 0, none⟩), .pointer (some ⟨lb, 0, none⟩), .pointer (some ⟨lb, 0, none⟩), .pointer (some ⟨lb, 2, none⟩), .pointer (some ⟨lb, 2, none⟩), .int .i64 s.elo, .int .i64 (s.elo + k), .pointer (some ⟨lb, 0, none⟩), .pointer (some ⟨lb, 0, none⟩), .pointer (some ⟨lb, 0, none⟩), .pointer (some ⟨lb, 2, none⟩), .pointer (some ⟨lb, 3, none⟩), .int .i64 s.ehi, .bool false, u26, u27, u28, u29, u30, u31, u32, u33, u34, u35, u36, u37, u38, u39, u40, .pointer (some ⟨lb, 0, none⟩), .pointer (some ⟨lb, 0, none⟩), .pointer (some ⟨lb, 0, none⟩), .pointer (some ⟨lb, 5, none⟩), .slice da s.days.length dcap, .int .i64 s.days.length, .int .i64 (t : Nat), v48, v49, v50, v51, v52, v53, v54, v55, v56, v57, v58, v59, v60, v61, v62, v63, v64, v65, v66, v67, undef, undef, undef, undef, undef, undef, undef, undef, undef, undef, undef, undef, undef, undef, undef, undef, undef, undef, undef, undef, undef, undef, undef, undef, undef, undef, v94, v95], defers := Ds.map markD }) s.days.length ⟨0, [], _, _, _, _, _, _, _, _, _, _, _, _, _, _, _, _, _, _, _, _, _, _, _, _, by omega, by omega, (fun t' h => by omega : ∀ t' : Nat, t' < 0 → ∀ f : Nat, f < (s.space + 1).toNat → Sea.at0 (Sea.lstAt l t') f ≤ (s.least t' f (Sea.at0 noms t') (Sea.lstAt l (t' + 1))).1), Marks.nil _ _, ⟨g, rfl⟩, rfl⟩ ?_
      clear m0 m1 m2 g
      rintro _ _ wr ⟨t, Ds, v8, v9, v48, v49, v50, v51, v52, v53, v54, v55, v56, v57, v58, v59, v60, v61, v62, v63, v64, v65, v66, v67, v94, v95, ht, rfl, hH, hM, ⟨g, rfl⟩, rfl⟩ J K hJ hK
      have m0 := g.cell v0
      have m1 := g.cell r0
      have m2 := (grow_frozen W g _ _ hw2).trans rf0
      by_cases htl : (t : Int) < s.days.length
      · have hgs := g.size
        have hlbg := g.lt hlb
        have hold : ∀ o b off, b < g.x.heap.size → (g.x.alloc o).cell? ⟨b, off, none⟩ = g.x.cell? ⟨b, off, none⟩ := fun o b off h => below_cell ((Below.refl _ _).alloc (Nat.le_refl _) o) b off h
        go_wp2_with (fail)
        clear hold
        obtain ⟨V, hV⟩ : ∃ V, g.x.alloc (Obj.cells #[Value.int IntKind.i64 (t : Nat)] 3) = V := ⟨_, rfl⟩
        have hbV : Below g.x.heap.size g.x V := by rw [← hV]; exact below_al (Below.refl _ _) _
        have cV : V.cell? ⟨g.x.heap.size, 0, none⟩ = some (.int .i64 (t : Nat)) := by rw [← hV]; simp
        have hWV : Below W.heap.size W V := below_tr g.h hbV
        have hMV := hM.mono fun k hk => hbV.block k (hM.lt hk)
        rw [hV]
        clear hM
        refine wp_loop_ghost_k (fun n a wr => ∃ (f : Nat) (Ds : List Nat) (x9 x57 x58 x59 x60 x61 x62 x63 x64 x65 x66 x67 x94 : Value), f ≤ (s.space + 1).toNat ∧ n = (s.space + 1).toNat - f ∧ Hid (∀ f', f' < f → Sea.at0 (Sea.lstAt l t) f' ≤ (s.least t f' (Sea.at0 noms t) (Sea.lstAt l (t + 1))).1) ∧
          Marks W.heap.size Ds wr ∧ (∃ g2 : Grow V, wr = g2.x) ∧ a = { tmps := #[.pointer (some ⟨lb, 0, none⟩), .slice (some ⟨nb, noff, none⟩) noms.length ncap, .slice (some ⟨b, off, none⟩) (s.days.length + 1) cap, undef, undef, .pointer (some ⟨w.heap.size, 0, none⟩), .pointer (some ⟨W1.heap.size, 0, none⟩), .int .i64 (s.elo + k), .pointer (some ⟨g.x.heap.size, 0, none⟩), x9, undef, undef, .pointer (some ⟨lb, 0, none⟩), .pointer (some ⟨lb, 0, none⟩), .pointer (some ⟨lb, 0, none⟩), .pointer (some ⟨lb, 2, none⟩), .pointer (some ⟨lb, 2, none⟩), .int .i64 s.elo, .int .i64 (s.elo + k), .pointer (some ⟨lb, 0, none⟩), .pointer (some ⟨lb, 0, none⟩), .pointer (some ⟨lb, 0, none⟩), .pointer (some ⟨lb, 2, none⟩), .pointer (some ⟨lb, 3, none⟩), .int .i64 s.ehi, .bool false, u26, u27, u28, u29, u30, u31, u32, u33, u34, u35, u36, u37, u38, u39, u40, .pointer (some ⟨lb, 0, none⟩), .pointer (some ⟨lb, 0, none⟩), .pointer (some ⟨lb, 0, none⟩), .pointer (some ⟨lb, 5, none⟩), .slice da s.days.length dcap, .int .i64 s.days.length, .int .i64 (t : Nat), .bool true, .int .i64 (t : Nat), .pointer (some ⟨lb, 0, none⟩), .pointer (some ⟨lb, 0, none⟩), .pointer (some ⟨lb, 0, none⟩), .pointer (some ⟨lb, 0, none⟩), .int .i64 s.space, .int .i64 (s.space + 1), .int .i64 (f : Nat), x57, x58, x59, x60, x61, x62, x63, x64, x65, x66, x67, undef, undef, undef, undef, undef, undef, undef, undef, undef, undef, undef, undef, undef, undef, undef, undef, undef, undef, undef, undef, undef, undef, undef, undef, undef, undef, x94, v95], defers := Ds.map markD }) (s.space + 1).toNat ⟨0, Ds, _, _, _, _, _, _, _, _, _, _, _, _, _, by omega, by omega, (fun f' h => by omega : ∀ f' : Nat, f' < 0 → Sea.at0 (Sea.lstAt l t) f' ≤ (s.least t f' (Sea.at0 noms t) (Sea.lstAt l (t + 1))).1), hMV, ⟨Grow.self V, rfl⟩, rfl⟩ ?_
        clear hMV Ds
        rintro _ _ wr ⟨f, Ds, x9, x57, x58, x59, x60, x61, x62, x63, x64, x65, x66, x67, x94, hf, rfl, hF, hM, ⟨g2, rfl⟩, rfl⟩ J2 K2 hJ2 hK2
        by_cases hfl : (f : Int) < s.space + 1
        · have cT := g2.cell cV
          have hWg2 := below_tr hWV g2.h
          have htb := World.block_lt_of_cell? _ ⟨_, _, none⟩ cT
          simp only at htb
          go_wp2_with (fail)
          obtain ⟨Y, hY⟩ : ∃ Y, g2.x.alloc (Obj.cells #[Value.int IntKind.i64 (f : Nat)] 3) = Y := ⟨_, rfl⟩
          have hbY : Below g2.x.heap.size g2.x Y := by rw [← hY]; exact below_al (Below.refl _ _) _
          have cFY : Y.cell? ⟨g2.x.heap.size, 0, none⟩ = some (.int .i64 (f : Nat)) := by rw [← hY]; simp
          have cTY := kept_cell hbY cT
          have hWY := below_tr hWg2 hbY
          have hMY := hM.mono fun k hk => hbY.block k (hM.lt hk)
          have htn : t < noms.length := by have := hnl.out; omega
          have cNY := kept_cell hWY (hnkW.out t htn)
          rw [hY]
          clear hM
          have htn2 : (0 : Int) ≤ (t : Int) ∧ (t : Int) < (noms.length : Int) := by omega
          have hbd : Below Y.heap.size Y Y.drew := (Below.refl _ _).drew
          refine wp_region_noPanic ?_
          refine wp_region_held_drew (S := (fun w' => w'.cell? ⟨g.x.heap.size, 0, none⟩ = some (.int .i64 (t : Nat)) ∧ w'.cell? ⟨g2.x.heap.size, 0, none⟩ = some (.int .i64 (f : Nat)) ∧ w'.cell? ⟨nb, noff + t, none⟩ = some (.int .i64 (Sea.at0 noms t)))) (by kernel_rfl) ?_ (fun hHeld => ?_)
          · first | (first | exact ⟨kept_cell hbX cTY, kept_cell hbX cFY, kept_cell hbX cNY⟩ | exact ⟨kept_cell hbd cTY, kept_cell hbd cFY, kept_cell hbd cNY⟩) | (dsimp only; (first | exact ⟨kept_cell hbX cTY, kept_cell hbX cFY, kept_cell hbX cNY⟩ | exact ⟨kept_cell hbd cTY, kept_cell hbd cFY, kept_cell hbd cNY⟩))
          refine wpAnyH_take (i := 0) (v := ?_) rfl (by kernel_rfl) (by kernel_rfl) (by kernel_rfl) (fun _ _ _ h => h) (Or.inl ⟨by rfl, ?_⟩) (by assumption) ?_
          rotate_left
          · intro w hSw; (try dsimp only at hSw); go_simp; (try with_reducible rfl)
          try simp only [Act.put, List.setIfInBounds_toArray, List.set_cons_zero, List.set_cons_succ]
          refine wpAnyH_take (i := 1) (v := ?_) rfl (by kernel_rfl) (by kernel_rfl) (by kernel_rfl) (fun _ _ _ h => h) (Or.inl ⟨by rfl, ?_⟩) (by assumption) ?_
          rotate_left
          · intro w hSw; (try dsimp only at hSw); go_simp; (try with_reducible rfl)
          try simp only [Act.put, List.setIfInBounds_toArray, List.set_cons_zero, List.set_cons_succ]
          refine wpAnyH_take (i := 2) (v := ?_) rfl (by kernel_rfl) (by kernel_rfl) (by kernel_rfl) (fun _ _ _ h => h) (Or.inl ⟨by rfl, ?_⟩) (by assumption) ?_
          rotate_left
          · intro w hSw; (try dsimp only at hSw); go_simp; (try with_reducible rfl)
          try simp only [Act.put, List.setIfInBounds_toArray, List.set_cons_zero, List.set_cons_succ]
          refine wpAnyH_take (i := 3) (v := ?_) rfl (by kernel_rfl) (by kernel_rfl) (by kernel_rfl) (fun _ _ _ h => h) (Or.inl ⟨by rfl, ?_⟩) (by assumption) ?_
          rotate_left
          · intro w hSw; (try dsimp only at hSw); go_simp; (try with_reducible rfl)
          try simp only [Act.put, List.setIfInBounds_toArray, List.set_cons_zero, List.set_cons_succ]
          refine wpAnyH_take (i := 4) (v := ?_) rfl (by kernel_rfl) (by kernel_rfl) (by kernel_rfl) (fun _ _ _ h => h) (Or.inl ⟨by rfl, ?_⟩) (by assumption) ?_
          rotate_left
          · intro w hSw; (try dsimp only at hSw); go_simp; (try with_reducible rfl)
          try simp only [Act.put, List.setIfInBounds_toArray, List.set_cons_zero, List.set_cons_succ]
          refine wpAnyH_take (i := 5) (v := ?_) rfl (by kernel_rfl) (by kernel_rfl) (by kernel_rfl) (fun _ _ _ h => h) (Or.inl ⟨by rfl, ?_⟩) (by assumption) ?_
          rotate_left
          · intro w hSw; (try dsimp only at hSw); go_simp; (try with_reducible rfl)
          try simp only [Act.put, List.setIfInBounds_toArray, List.set_cons_zero, List.set_cons_succ]
          refine wpAnyH_take (i := 6) (v := ?_) rfl (by kernel_rfl) (by kernel_rfl) (by kernel_rfl) (fun _ _ _ h => h) (Or.inl ⟨by rfl, ?_⟩) (by assumption) ?_
          rotate_left
          · intro w hSw; (try dsimp only at hSw); go_simp; (try with_reducible rfl)
          try simp only [Act.put, List.setIfInBounds_toArray, List.set_cons_zero, List.set_cons_succ]
          refine wpAnyH_take (i := 7) (v := ?_) rfl (by kernel_rfl) (by kernel_rfl) (by kernel_rfl) (fun _ _ _ h => h) (Or.inl ⟨by rfl, ?_⟩) (by assumption) ?_
          rotate_left
          · intro w hSw; (try dsimp only at hSw); go_simp; (try with_reducible rfl)
          try simp only [Act.put, List.setIfInBounds_toArray, List.set_cons_zero, List.set_cons_succ]
          refine wpAnyH_ready (rs := [8]) (by kernel_rfl) (by simp) ?_
          refine AllReadyH.cons rfl (fun K hK => ?_) AllReadyH.nil
          go_simp
          (first | (go_at_call 55; refine Calls.mono (progOrders _ _ _ _ _) ?_; rintro e x1 ⟨iv, rfl, hiv, hb1⟩; have hbX := below_tr hbd hb1))
          refine hK.out _ _ ?_ (fun hNow => ?_)
          · first | (first | exact ⟨kept_cell hbX cTY, kept_cell hbX cFY, kept_cell hbX cNY⟩ | exact ⟨kept_cell hbd cTY, kept_cell hbd cFY, kept_cell hbd cNY⟩) | (dsimp only; (first | exact ⟨kept_cell hbX cTY, kept_cell hbX cFY, kept_cell hbX cNY⟩ | exact ⟨kept_cell hbd cTY, kept_cell hbd cFY, kept_cell hbd cNY⟩))
          clear hK K hHeld
          have hHeld := hNow
          clear hNow
          try simp only [Act.put, List.setIfInBounds_toArray, List.set_cons_zero, List.set_cons_succ]
          refine wpAnyH_done (by kernel_rfl) ?_ _
          refine NoPanic.normal ?_
          go_wp2_with (fail)
          obtain ⟨ni, rfl, c0, c1, c2, c3⟩ := hiv
          have hWx : Below W.heap.size W x1 := below_tr hWY hbX
          have hVx : Below V.heap.size V x1 := below_tr (below_tr g2.h hbY) hbX
          have hMx : Marks W.heap.size Ds x1 := hMY.mono fun k hk => hbX.block k (hMY.lt hk)
          have cTx := kept_cell hbX cTY
          have cFx := kept_cell hbX cFY
          have m0x := kept_cell hWx v0
          have hRx := (hWx.block _ hw2).trans hn2
          have hlkx := hlkW.mono hWx
          have htN : t < s.days.length := by omega
          have hnx : ∀ i, Sea.at0 (Sea.lstAt l (t + 1)) i ≤ Sea.never := fun i => by
            by_cases hi : i < (Sea.lstAt l (t + 1)).length
            · exact ((hvf.out (t + 1) (by omega)).2 i hi).2
            · have : Sea.at0 (Sea.lstAt l (t + 1)) i = 0 := by simp [Sea.at0, List.getElem?_eq_none (by omega : (Sea.lstAt l (t + 1)).length ≤ i)]
              rw [this]; decide
          have hfN : f < (s.space + 1).toNat := by omega
          have hzn : Sea.at0 (Sea.lstAt l t) f ≤ Sea.never := ((hvf.out t (by omega)).2 f (by have := (hvf.out t (by omega)).1; omega)).2
          have hfo := Lib.hid (fair_orders ok htN (f := f) (nom := Sea.at0 noms t) hnx hzn)
          replace hnx := Lib.hid hnx
          replace hM := Lib.hid hMx
          have hbn := hnb.out t htN
          clear cTY cFY cNY hMY hMx hbX hb1 hbd hbY cV cT
          refine (wpIn_wide (n := 0)).1 ?_
          refine wp_rangeFunc (gf := 84) (lb := #[.pointer (some ⟨ni, 0, none⟩), .pointer (some ⟨ni + 1, 0, none⟩), .pointer (some ⟨ni + 2, 0, none⟩)]) rfl enter_iter
            (orders_yields mv s t f (Sea.at0 noms t) x1 (fun b => b < x1.heap.size) _ ni (ni + 1) (ni + 2) hlkx htN ok (by omega) hbn c0 c1 c2 c3 (fun b o v h => World.block_lt_of_cell? x1 ⟨b, o, none⟩ h)) (fun _ h => h) (fun _ => rfl)
            (fun pre _ => Hid (∀ u, u ∈ pre → Sea.at0 (Sea.lstAt l (t + 1)) ((f : Int) + Sea.at0 noms t + u).toNat = Sea.never ∨ Sea.at0 (Sea.lstAt l t) f ≤ s.cost t u + Sea.at0 (Sea.lstAt l (t + 1)) ((f : Int) + Sea.at0 noms t + u).toNat))
            (fun c _ => c = .ret ∧ Hid ((s.least t f (Sea.at0 noms t) (Sea.lstAt l (t + 1))).1 < Sea.at0 (Sea.lstAt l t) f)) (fun _ _ _ h _ => h) (fun _ _ _ h _ => h) (fun u h => by cases h) ?_ ?_ ?_
          · rintro r pre u X hr1 hr2 hpre hkX hI
            gi_wp2
            refine ⟨(Kept.refl _ _).alloc _, ?_⟩
            intro W2 hk2 hs2
            try simp only [World.size_alloc] at hs2
            have hxX : Below x1.heap.size x1 X := hkX.below (Nat.le_refl _) (fun _ h => h)
            have hxsX := hxX.size
            have hXW2 : Below x1.heap.size X W2 := ((Below.refl _ X).alloc (by omega) _).trans (hk2.below (by rw [World.size_alloc]; omega) (by intro k hk; omega))
            have hx2 : Below x1.heap.size x1 W2 := hxX.trans hXW2
            have gx : W2.heap[X.heap.size]? = some (oBox (.pointer (some ⟨lb, 0, none⟩)) t f (Sea.at0 noms t) u) := (hk2.block _ (by rw [World.size_alloc]; omega) (by omega)).trans (World.alloc_heap_new X _)
            obtain ⟨zx, dx, fx⟩ := row_cells gx
            have y0 := dx 0
            have y1 := dx 1
            have y2 := dx 2
            have y3 := dx 3
            have y4 := dx 4
            simp only [oBox, List.getElem?_toArray, List.getElem?_cons_zero, List.getElem?_cons_succ] at y0 y1 y2 y3 y4
            clear dx fx gx hk2
            have m0w := kept_cell hx2 m0x
            have cTw := kept_cell hx2 cTx
            have cFw := kept_cell hx2 cFx
            have hRw := (hx2.block _ (Array.getElem?_eq_some_iff.1 hRx).1).trans hRx
            have hWw := below_tr hWx hx2
            have hu := order_in (u := u) ok htN (hpre.subset (by simp))
            obtain ⟨jj, hjj⟩ := Int.eq_ofNat_of_zero_le hu.2.2.2.1
            obtain ⟨eb, eo, ec, h1, h2, h3, -⟩ := hrowsW.out.mono hWw (t + 1) (by omega)
            obtain ⟨eb', eo', ec', h1', h2', h3', -⟩ := hrowsW.out.mono hWw t (by omega)
            have e1 := h3 jj (by omega)
            have e2 := h3' f hfN
            clear h3 h3'
            have hn1 := (hvf.out (t + 1) (by omega)).2 jj (by have := (hvf.out (t + 1) (by omega)).1; omega)
            have hz1 := (hvf.out t (by omega)).2 f (by have := (hvf.out t (by omega)).1; omega)
            obtain ⟨nx, hnxE⟩ : ∃ nx, Sea.at0 (Sea.lstAt l (t + 1)) jj = nx := ⟨_, rfl⟩
            rw [hnxE] at e1 hn1
            obtain ⟨z, hzE⟩ : ∃ z, Sea.at0 (Sea.lstAt l t) f = z := ⟨_, rfl⟩
            rw [hzE] at e2 hz1
            have hcst := fun Z (h : Below W2.heap.size W2 Z) => progCost (.pointer (some ⟨lb, 0, none⟩)) mv s t f (Sea.at0 noms t) u Z (hlkW.mono (below_tr hWw h)) htN ok ⟨hu.1, hu.2.1⟩
            have hcb := cost_bd ok htN ⟨hu.1, hu.2.1⟩
            obtain ⟨cst, hcE⟩ : ∃ cst, s.cost t u = cst := ⟨_, rfl⟩
            rw [hcE] at hcst hcb
            have hbh := fun Z => progBehind (.pointer (some ⟨lb, 0, none⟩)) t f (Sea.at0 noms t) u Z (by omega) hbn ⟨hu.1, hu.2.1⟩
            rw [hjj] at hbh
            replace hcst := Lib.hid hcst
            replace hbh := Lib.hid hbh
            have q1 : (0 : Int) ≤ (t : Int) + 1 ∧ (t : Int) + 1 < (s.days.length : Int) + 1 := by omega
            have q2 : (jj : Int) < ((s.space + 1).toNat : Int) := by omega
            have q3 : (f : Int) < ((s.space + 1).toNat : Int) := by omega
            have q4 : (t : Int) < (s.days.length : Int) + 1 := by omega
            have hatu : Sea.at0 (Sea.lstAt l (t + 1)) ((f : Int) + Sea.at0 noms t + u).toNat = nx := by rw [hjj, Int.toNat_natCast]; exact hnxE
            replace hatu := Lib.hid hatu
            replace hjj := Lib.hid hjj
            replace hnxE := Lib.hid hnxE
            replace hzE := Lib.hid hzE
            replace hcE := Lib.hid hcE
            have b0 := World.block_lt_of_cell? W2 ⟨_, _, none⟩ m0w
            have b1 := World.block_lt_of_cell? W2 ⟨_, _, none⟩ cTw
            have b2 := World.block_lt_of_cell? W2 ⟨_, _, none⟩ cFw
            have b3 := World.block_lt_of_cell? W2 ⟨_, _, none⟩ h1
            simp only at b0 b1 b2 b3
            have hg := grow_cell W2
            have hsucc : (nx = Sea.never ∨ z ≤ cst + nx) → ∀ v, v ∈ pre ++ [u] → Sea.at0 (Sea.lstAt l (t + 1)) ((f : Int) + Sea.at0 noms t + v).toNat = Sea.never ∨ Sea.at0 (Sea.lstAt l t) f ≤ s.cost t v + Sea.at0 (Sea.lstAt l (t + 1)) ((f : Int) + Sea.at0 noms t + v).toNat := by
              intro h v hv
              rcases List.mem_append.1 hv with hv | hv
              · exact hI.out v hv
              · rw [List.mem_singleton] at hv; subst hv; rw [hatu.out, hzE.out, hcE.out]; exact h
            replace hsucc := Lib.hid hsucc
            have hbadu : cst + nx < z → ¬ nx = 1000000000000000 → (s.least t f (Sea.at0 noms t) (Sea.lstAt l (t + 1))).1 < Sea.at0 (Sea.lstAt l t) f := by
              intro h1 h2
              by_cases h : (s.least t f (Sea.at0 noms t) (Sea.lstAt l (t + 1))).1 < Sea.at0 (Sea.lstAt l t) f
              · exact h
              · rcases hfo.out.1 (by omega) u (hpre.subset (by simp)) with h3 | h3
                · rw [hatu.out] at h3; exact absurd h3 h2
                · rw [hatu.out, hzE.out, hcE.out] at h3; omega
            replace hbadu := Lib.hid hbadu
            clear hI hs2
            gi_wp2_with (fail)
            refine round_grow (by kernel_rfl) (by kernel_rfl) (by kernel_rfl) ?_
            repeat (go_big_quiet_step ((first | (go_at_call 58; exact Calls.grow (hbh.out _)))))
            refine wpQuiet_nil ?_
            rintro _ ⟨g3, rfl⟩
            by_cases hnv : nx = 1000000000000000
            · subst hnv
              gi_wp2_with (fail)
              have hgg : ∀ (h : Grow g3.x) (b o : Nat), b < W2.heap.size → h.x.cell? ⟨b, o, none⟩ = W2.cell? ⟨b, o, none⟩ := fun h b o hb => (grow_cell g3.x h b o (Nat.lt_of_lt_of_le hb g3.size)).trans (grow_cell W2 g3 b o hb)
              refine round_grow (by kernel_rfl) (by kernel_rfl) (by kernel_rfl) ?_
              repeat (go_big_quiet_step (fail))
              refine wpQuiet_nil ?_
              rintro _ ⟨gx, rfl⟩
              clear hgg
              obtain ⟨g4, hg4⟩ := g3.next gx.h
              rw [hg4]
              clear hg4 gx
              gi_wp2_with (fail)
              exact ⟨.all g4.h, hsucc.out (.inl rfl)⟩
            · have hne : (nx == 1000000000000000) = false := by simpa using hnv
              have hd1 : decide (nx = 1000000000000000) = false := by simpa using hnv
              have hd2 : decide (¬ nx = 1000000000000000) = true := by simpa using hnv
              have hd3 : (nx != 1000000000000000) = true := by simpa using hnv
              replace hnv := Lib.hid hnv
              by_cases hlt : cst + nx < z
              · have hlt2 := Lib.hid hlt
                gi_wp2_with (fail)
                have hgg : ∀ (h : Grow g3.x) (b o : Nat), b < W2.heap.size → h.x.cell? ⟨b, o, none⟩ = W2.cell? ⟨b, o, none⟩ := fun h b o hb => (grow_cell g3.x h b o (Nat.lt_of_lt_of_le hb g3.size)).trans (grow_cell W2 g3 b o hb)
                refine round_grow (by kernel_rfl) (by kernel_rfl) (by kernel_rfl) ?_
                repeat (go_big_quiet_step ((first | (go_at_call 77; exact Calls.grow (hcst.out _ (g3.h.trans ((Grow.h _).mono g3.size)))))))
                refine wpQuiet_nil ?_
                rintro _ ⟨gx, rfl⟩
                clear hgg
                obtain ⟨g4, hg4⟩ := g3.next gx.h
                rw [hg4]
                clear hg4 gx
                have hR4 := (g4.h.block _ (Array.getElem?_eq_some_iff.1 hRw).1).trans hRw
                obtain ⟨-, dR, fR⟩ := row_cells hR4
                have r4 := dR 0
                have f4 := fR 0
                simp only [List.getElem?_toArray, List.getElem?_cons_zero] at r4
                gi_wp2_with (fail)
                exact ⟨kept_same (.all g4.h) hR4, rfl, hbadu.out hlt2.out hnv.out⟩
              · have hlt2 := Lib.hid hlt
                gi_wp2_with (fail)
                have hgg : ∀ (h : Grow g3.x) (b o : Nat), b < W2.heap.size → h.x.cell? ⟨b, o, none⟩ = W2.cell? ⟨b, o, none⟩ := fun h b o hb => (grow_cell g3.x h b o (Nat.lt_of_lt_of_le hb g3.size)).trans (grow_cell W2 g3 b o hb)
                refine round_grow (by kernel_rfl) (by kernel_rfl) (by kernel_rfl) ?_
                repeat (go_big_quiet_step ((first | (go_at_call 77; exact Calls.grow (hcst.out _ (g3.h.trans ((Grow.h _).mono g3.size)))))))
                refine wpQuiet_nil ?_
                rintro _ ⟨gx, rfl⟩
                clear hgg
                obtain ⟨g4, hg4⟩ := g3.next gx.h
                rw [hg4]
                clear hg4 gx
                gi_wp2_with (fail)
                exact ⟨.all g4.h, hsucc.out (.inr (by have := hlt2.out; omega))⟩
          · rintro D X hD hI hkX hDX
            have hMX := Marks.cons hM.out (fun k hk => hkX.block k (hM.out.lt hk) (hM.out.lt hk)) hD hWx.size hDX
            have hF2 : Hid (∀ f', f' < f + 1 → Sea.at0 (Sea.lstAt l t) f' ≤ (s.least t f' (Sea.at0 noms t) (Sea.lstAt l (t + 1))).1) := upto_succ hF.out (hfo.out.2 hI)
            have hVX : Below V.heap.size V X := below_tr hVx (hkX.below (Nat.le_refl _) (fun _ h => h))
            clear hI hF hfo
            simp only [Exit.inBlock, Exit.then]
            go_wp2_with (fail)
            exact Handed.intro ((s.space + 1).toNat - (f + 1)) (by omega) (hJ2 _ _ _ ⟨f + 1, D :: Ds, _, _, _, _, _, _, _, _, _, _, _, _, _, by omega, rfl, hF2, hMX, ⟨⟨X, hVX⟩, rfl⟩, rfl⟩)
          · rintro D c X hD ⟨rfl, hbad⟩ hkX hDX
            have hMX := Marks.cons hM.out (fun k hk => hkX.block k (hM.out.lt hk) (hM.out.lt hk)) hD hWx.size hDX
            have hRX := (hkX.block _ (Array.getElem?_eq_some_iff.1 hRx).1 (Array.getElem?_eq_some_iff.1 hRx).1).trans hRx
            have hbX := below_tr hWx (hkX.below (Nat.le_refl _) (fun _ h => h))
            refine wpIn_wide.2 ?_
            go_wp2_with (fail)
            refine leaves_marks (D :: Ds) X hMX fun w' hb => ?_
            have hcl := ((row_cells ((hb.block _ hw2).trans hRX)).2.1 0)
            simp only [List.getElem?_toArray, List.getElem?_cons_zero] at hcl
            exact ⟨.bool false, by simp [results, Try.results73, go_sem, hcl], BoolPost.of (fair_no2 htN hfN (Int.not_le.2 hbad)) (hBw.trans ((hbX.trans hb).mono hBw.size))⟩
        · have hF2 : ∀ f : Nat, f < (s.space + 1).toNat → Sea.at0 (Sea.lstAt l t) f ≤ (s.least t f (Sea.at0 noms t) (Sea.lstAt l (t + 1))).1 := fun f' h => hF.out f' (by omega)
          have hH2 : Hid (∀ t', t' < t + 1 → ∀ f : Nat, f < (s.space + 1).toNat → Sea.at0 (Sea.lstAt l t') f ≤ (s.least t' f (Sea.at0 noms t') (Sea.lstAt l (t' + 1))).1) := upto_succ hH.out hF2
          clear hH hF hF2
          go_wp2_with (fail)
          exact Handed.intro (s.days.length - (t + 1)) (by omega) (hJ _ _ _ ⟨t + 1, Ds, _, _, _, _, _, _, _, _, _, _, _, _, _, _, _, _, _, _, _, _, _, _, _, _, by omega, rfl, hH2, hM, ⟨⟨g2.x, below_tr hWV g2.h⟩, rfl⟩, rfl⟩)
      · have hH2 := hH.out
        have hte : t = s.days.length := by omega
        subst hte
        have hf9 := Lib.hid (fair_yes hA.out hH2)
        clear hH hH2
        go_wp2_with (fail)
        have hRg := (g.h.block _ hw2).trans hn2
        have hMX : Marks W.heap.size Ds (g.x.setCell ⟨W1.heap.size, 0, none⟩ (.bool true)) := hM.mono fun k hk => Below.heap_setCell _ _ _ _ (by have := (hM.on k hk).1; show k ≠ W1.heap.size; omega)
        refine leaves_marks Ds _ hMX fun w' hb => ?_
        have hcl := ((row_cells ((hb.block _ hw2).trans (set1 hRg (.bool true)))).2.1 0)
        simp only [List.getElem?_toArray, List.getElem?_cons_zero] at hcl
        exact ⟨.bool true, by simp [results, Try.results73, go_sem, hcl], BoolPost.of hf9.out ((below_s (hBw.trans (g.h.mono hBw.size)) (by show _ ≤ W1.heap.size; omega) _).trans (hb.mono hBw.size))⟩
end Go.Proofs.Ytacajmpggjgaiaa
