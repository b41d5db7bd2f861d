/- Walks: the values at the end; what is as defined. -/
import Derived.Test.YtacajmpggjgaiaaW3
import Derived.Test.YtacajmpggjgaiaaOwn
set_option linter.unusedVariables false
set_option linter.unusedSimpArgs false
namespace Go.Proofs.Ytacajmpggjgaiaa
open Go.RowKit Go.Sd

theorem last_len {s : Sea.S} (ok : Sea.Ok s) : (s.last.length : Int) = s.space + 1 := by
  have := ok.space
  simp [Sea.S.last]; omega
theorem last_at {s : Sea.S} {k : Nat} (h : k < s.last.length) : Sea.at0 s.last k = s.lastAt k := by
  simp only [Sea.S.last, List.length_map, List.length_range] at h
  simp [Sea.at0, Sea.S.last, h]

set_option maxHeartbeats 1000000 in
theorem refLast (sv : Value) (s : Sea.S) (w : World) (hs : SeasonAt w sv s) (ok : Sea.Ok s) :
    Calls Try.prog 61 #[sv] w fun e w' => ∃ v, e = .returned v ∧ OwnInts w.heap.size w' v s.last ∧ Below w.heap.size w w' := by
  obtain ⟨rv, dv, rfl, -, -⟩ := hs
  have hsp := ok.space
  obtain ⟨i0, hi, hz0, hz1, hz2⟩ := info_parts infoInt
  go_enter Try.func61, Try.ntmps61
  go_wp2
  generalize hW : w.alloc (sBox s rv dv) = W
  obtain ⟨hsz, hBw, q0, q1, q2, q3, q4, q5⟩ := box_season hW
  clear hW
  have hg := grow_cell W
  go_loopw [3, 4] (fun p i wr => ∃ (k : Nat) (v : Value), (k : Int) ≤ s.space + 1 ∧ v = p ∧ i = .int .i64 k ∧ OwnInts W.heap.size wr v ((List.range k).map fun (f : Nat) => s.lastAt (f : Int)) ∧ ∃ g : Grow W, wr = g.x) (fun _ i _ => (s.space + 1 - intOf i).toNat)
  case atStart => exact ⟨0, _, by omega, rfl, rfl, OwnInts.nil _ _, Grow.self W, rfl⟩
  case round =>
    obtain ⟨k, v, hk, rfl, rfl, ho, g, rfl⟩ := hrel
    by_cases hlt : (k : Int) ≤ s.space
    · have hgs := g.size
      have Ho := Lib.hid ho
      clear ho
      have hl : ((List.range k).map fun (f : Nat) => s.lastAt (f : Int)).length ≤ 1000000 := by simp; omega
      have hla : Hid (((List.range k).map fun (f : Nat) => s.lastAt (f : Int)) ++ [s.lastAt k] = (List.range (k + 1)).map fun (f : Nat) => s.lastAt (f : Int)) := by
        show _ = _
        rw [List.range_succ, List.map_append]; rfl
      cases he : Sea.inB k s.elo s.ehi
      all_goals
        have He := Lib.hid he
        have hy : Hid (s.lastAt k = if Sea.inB k s.elo s.ehi = true then 0 else Sea.never) := rfl
        clear he
        go_wp2_with (first | (go_at_call 59; refine (refIn _ _ _ _).mono ?_; rw [He.out]; rintro e w' ⟨rfl, rfl⟩) |
          (at_builtin; refine wpList_app_int rfl _ _ rfl W.heap.size g.x v _ _ rfl Ho.out rfl hl hgs ?_; intro v1 w1 ho1 hg1 hn1 _))
        obtain ⟨g1, rfl⟩ : ∃ g1 : Grow W, w1 = g1.x := ⟨⟨w1, below_append g.h hgs Ho.out hg1⟩, rfl⟩
        have ho2 : OwnInts W.heap.size g1.x v1 ((List.range (k + 1)).map fun (f : Nat) => s.lastAt (f : Int)) := by
          rw [← hla.out, hy.out, He.out]; exact ho1
        exact ⟨⟨k + 1, v1, by omega, rfl, by go_num, ho2, g1, rfl⟩, by simp [intOf]; omega⟩
    · have hke := Lib.hid (show (s.space + 1).toNat = k by omega)
      have Ho := Lib.hid ho
      clear ho
      go_wp2
      go_ret
      exact ⟨_, rfl, by unfold Sea.S.last; rw [hke.out]; exact Ho.out.from (by omega), hBw.trans (g.h.mono (by omega))⟩

theorem all_range {n : Nat} {f : Nat → Bool} (h : ∀ j, j < n → f j = true) : (List.range n).all f = true := List.all_eq_true.2 fun x hx => h x (List.mem_range.1 hx)
theorem all_range_not {n : Nat} {f : Nat → Bool} {k : Nat} (hk : k < n) (h : f k = false) : (List.range n).all f = false := by
  rw [List.all_eq_false]; exact ⟨k, List.mem_range.2 hk, by rw [h]; exact Bool.false_ne_true⟩
theorem upto_succ {p : Nat → Prop} {k : Nat} (h : ∀ j, j < k → p j) (hk : p k) : ∀ j, j < k + 1 → p j := fun j hj => by
  rcases Nat.lt_succ_iff_lt_or_eq.1 hj with h' | rfl
  · exact h j h'
  · exact hk

set_option maxHeartbeats 1000000 in
theorem refNoms (sv lv : Value) (s : Sea.S) (l : List Int) (w : World) (hs : SeasonAt w sv s) (hl : IntsAt w lv l) :
    Calls Try.prog 20 #[sv, lv] w fun e w' => e = .returned (.bool (s.nomsB l)) ∧ Below w.heap.size w w' := by
  have hs' := hs
  obtain ⟨rv, dv, rfl, -, ⟨da, dcap, rfl, hdm, -⟩⟩ := hs'
  obtain ⟨aa, ac, rfl, ham, hac⟩ := hl
  unfold maxLen at ham hdm
  by_cases hlen : l.length = s.days.length
  · have Hl := Lib.hid hlen
    have hl1 : l.length ≤ s.days.length := by omega
    have hbe : ((l.length : Int) == (s.days.length : Int)) = true := by rw [hlen]; simp
    have hbn : ((l.length : Int) != (s.days.length : Int)) = false := by rw [hlen]; simp
    clear hlen
    go_enter Try.func20, Try.ntmps20
    go_wp2
    generalize hW : w.alloc (sBox s rv (.slice da s.days.length dcap)) = W
    obtain ⟨hsz, hBw, q0, q1, q2, q3, q4, q5⟩ := box_season hW
    clear hW
    have hs2 := hs.mono hBw
    have hg := grow_cell W
    go_loopw [5] (fun i wr => ∃ k : Nat, k ≤ l.length ∧ i = .int .i64 k ∧ Hid (∀ j, j < k → Sea.inB (Sea.at0 l j) (Sea.dayAt s.days j).nlo (Sea.dayAt s.days j).nhi = true) ∧ ∃ g : Grow W, wr = g.x) (fun i _ => l.length - (intOf i).toNat)
    case atStart => exact ⟨0, by omega, rfl, (fun j h => by omega : ∀ j, j < 0 → Sea.inB (Sea.at0 l j) (Sea.dayAt s.days j).nlo (Sea.dayAt s.days j).nhi = true), Grow.self W, rfl⟩
    case round =>
      obtain ⟨k, hk, rfl, hH, g, rfl⟩ := hrel
      by_cases hlt : k < l.length
      · obtain ⟨ab, ao, rfl, hal, hak⟩ := hac (by omega)
        have ca := kept_cell hBw (hak k hlt)
        have hal2 : ab < W.heap.size := by omega
        clear hak hac
        have hlt' : (k : Int) < l.length := by omega
        cases he : Sea.inB (Sea.at0 l k) (Sea.dayAt s.days k).nlo (Sea.dayAt s.days k).nhi
        · have Hf : Hid (s.nomsB l = false) := by
            show _ = _
            unfold Sea.S.nomsB
            rw [all_range_not hlt he, Bool.and_false]
          have hc : ∀ h : Grow W, Calls Try.prog 33 #[.agg #[.int .i64 s.space, .int .i64 s.start, .int .i64 s.elo, .int .i64 s.ehi, rv, .slice da s.days.length dcap], .int .i64 k, .int .i64 (Sea.at0 l k)] h.x fun e w' => e = .returned (.bool false) ∧ Below h.x.heap.size h.x w' :=
            fun h => by have := refNom _ s k (Sea.at0 l k) h.x (hs2.mono h.h) (by omega) (by omega); rwa [Int.toNat_natCast, he] at this
          clear he
          go_wp2
          have hgg : ∀ (h : Grow g.x) (b o : Nat), b < W.heap.size → h.x.cell? ⟨b, o, none⟩ = W.cell? ⟨b, o, none⟩ := fun h b o hb => (grow_cell g.x h b o (Nat.lt_of_lt_of_le hb g.size)).trans (grow_cell W g b o hb)
          refine wp_region_grow (by kernel_rfl) (by kernel_rfl) ?_
          repeat (go_big_quiet_step ((first | (go_at_call 33; exact Calls.grow_of hc g))))
          refine wpQuiet_nil ?_
          rintro _ ⟨gx, rfl⟩
          clear hgg
          obtain ⟨g1, hg1⟩ := g.next gx.h
          rw [hg1]
          clear hg1 gx
          go_wp2
          go_ret
          exact ⟨bool_ret Hf.out.symm, hBw.trans (g1.h.mono (by omega))⟩
        · have hc : ∀ h : Grow W, Calls Try.prog 33 #[.agg #[.int .i64 s.space, .int .i64 s.start, .int .i64 s.elo, .int .i64 s.ehi, rv, .slice da s.days.length dcap], .int .i64 k, .int .i64 (Sea.at0 l k)] h.x fun e w' => e = .returned (.bool true) ∧ Below h.x.heap.size h.x w' :=
            fun h => by have := refNom _ s k (Sea.at0 l k) h.x (hs2.mono h.h) (by omega) (by omega); rwa [Int.toNat_natCast, he] at this
          have hH' : Hid (∀ j, j < k + 1 → Sea.inB (Sea.at0 l j) (Sea.dayAt s.days j).nlo (Sea.dayAt s.days j).nhi = true) := upto_succ hH.out he
          clear he
          go_wp2
          have hgg : ∀ (h : Grow g.x) (b o : Nat), b < W.heap.size → h.x.cell? ⟨b, o, none⟩ = W.cell? ⟨b, o, none⟩ := fun h b o hb => (grow_cell g.x h b o (Nat.lt_of_lt_of_le hb g.size)).trans (grow_cell W g b o hb)
          refine wp_region_grow (by kernel_rfl) (by kernel_rfl) ?_
          repeat (go_big_quiet_step ((first | (go_at_call 33; exact Calls.grow_of hc g))))
          refine wpQuiet_nil ?_
          rintro _ ⟨gx, rfl⟩
          clear hgg
          obtain ⟨g1, hg1⟩ := g.next gx.h
          rw [hg1]
          clear hg1 gx
          go_wp2
          exact ⟨⟨k + 1, by omega, by go_num, hH', g1, rfl⟩, by simp [intOf]; omega⟩
      · have Hf : Hid (s.nomsB l = true) := by
          show _ = _
          unfold Sea.S.nomsB
          rw [all_range fun j hj => hH.out j (by omega), decide_eq_true Hl.out]
          rfl
        go_wp2
        go_ret
        exact ⟨bool_ret Hf.out.symm, hBw.trans (g.h.mono (by omega))⟩
  · have Hf : Hid (s.nomsB l = false) := by
      show _ = _
      unfold Sea.S.nomsB
      rw [decide_eq_false hlen]; rfl
    go_enter Try.func20, Try.ntmps20
    go_wp2
    go_ret
    exact ⟨bool_ret Hf.out.symm, (Below.refl _ _).alloc (Nat.le_refl _) _⟩
end Go.Proofs.Ytacajmpggjgaiaa
