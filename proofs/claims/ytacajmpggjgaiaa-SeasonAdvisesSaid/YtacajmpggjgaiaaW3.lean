/- Walks: the reference's comparisons of lists. -/
import Derived.Test.YtacajmpggjgaiaaW2
set_option linter.unusedVariables false
set_option linter.unusedSimpArgs false
namespace Go.Proofs.Ytacajmpggjgaiaa
open Go.RowKit Go.Sd

theorem at0_ext {a b : List Int} (hl : a.length = b.length) (h : ∀ i, i < a.length → Sea.at0 a i = Sea.at0 b i) : a = b := by
  apply List.ext_getElem hl
  intro i h1 h2
  have := h i h1
  simpa [Sea.at0, h1, h2] using this

theorem at0_eq {a : List Int} {i : Nat} (h : i < a.length) : Sea.at0 a i = a[i] := by simp [Sea.at0, h]

set_option maxHeartbeats 1000000 in
theorem refSame (av bv : Value) (a b : List Int) (w : World) (ha : IntsAt w av a) (hb : IntsAt w bv b) :
    Calls Try.prog 24 #[av, bv] w fun e w' => e = .returned (.bool (decide (a = b))) ∧ Below w.heap.size w w' := by
  obtain ⟨aa, ac, rfl, ham, hac⟩ := ha
  obtain ⟨ba, bc, rfl, hbm, hbc⟩ := hb
  unfold maxLen at ham hbm
  by_cases hlen : a.length = b.length
  · have Hl := Lib.hid hlen
    have hl1 : a.length ≤ b.length := by omega
    have hl2 : b.length ≤ a.length := by omega
    have hbe : ((a.length : Int) == (b.length : Int)) = true := by rw [hlen]; simp
    have hbn : ((a.length : Int) != (b.length : Int)) = false := by rw [hlen]; simp
    clear hlen
    go_enter Try.func24, Try.ntmps24
    go_wp2
    go_loopw [5] (fun i wr => ∃ k : Nat, k ≤ a.length ∧ i = .int .i64 k ∧ Hid (∀ j, j < k → Sea.at0 a j = Sea.at0 b j) ∧ ∃ g : Grow w, wr = g.x) (fun i _ => a.length - (intOf i).toNat)
    case atStart => exact ⟨0, by omega, rfl, (fun j h => by omega : ∀ j, j < 0 → Sea.at0 a j = Sea.at0 b j), Grow.self w, rfl⟩
    case round =>
      obtain ⟨k, hk, rfl, hH, g, rfl⟩ := hrel
      by_cases hlt : k < a.length
      · obtain ⟨ab, ao, rfl, hal, hak⟩ := hac (by omega)
        obtain ⟨bb, bo, rfl, hbl, hbk⟩ := hbc (by omega)
        have ca := hak k hlt
        have cb := hbk k (by omega)
        clear hak hbk hac hbc
        have hlt' : (k : Int) < a.length := by omega
        have hlt2 : (k : Int) < b.length := by omega
        have hg := grow_cell w
        go_wp2
        have hgg : ∀ (h : Grow g.x) (b o : Nat), b < w.heap.size → h.x.cell? ⟨b, o, none⟩ = w.cell? ⟨b, o, none⟩ := fun h b o hb => (grow_cell g.x h b o (Nat.lt_of_lt_of_le hb g.size)).trans (grow_cell w g b o hb)
        refine wp_region_grow (by kernel_rfl) (by kernel_rfl) ?_
        repeat (go_big_quiet_step (fail))
        refine wpQuiet_nil ?_
        rintro _ ⟨gx, rfl⟩
        clear hgg
        obtain ⟨g1, hg1⟩ := g.next gx.h
        rw [hg1]
        clear hg1 gx
        go_wp2
        · go_ret
          refine ⟨bool_ret (decide_eq_false fun h => ?_).symm, g1.h⟩
          subst h
          simp_all
        · have h0 := ‹(Sea.at0 a k != Sea.at0 b k) = false›
          have hH' : Hid (∀ j, j < k + 1 → Sea.at0 a j = Sea.at0 b j) := fun j hj => by
            rcases Nat.lt_succ_iff_lt_or_eq.1 hj with h | rfl
            · exact hH.out j h
            · simpa using h0
          exact ⟨⟨k + 1, by omega, by go_num, hH', g1, rfl⟩, by simp [intOf]; omega⟩
      · go_wp2
        go_ret
        refine ⟨bool_ret ?_, g.h⟩
        exact (decide_eq_true (at0_ext Hl.out fun i hi => hH.out i (by omega))).symm
  · go_enter Try.func24, Try.ntmps24
    go_wp2
    go_ret
    exact ⟨bool_ret (decide_eq_false fun h => hlen (by rw [h])).symm, Below.refl _ _⟩

theorem lst_ext {a b : List (List Int)} (hl : a.length = b.length) (h : ∀ i, i < a.length → Sea.lstAt a i = Sea.lstAt b i) : a = b := by
  apply List.ext_getElem hl
  intro i h1 h2
  have := h i h1
  simpa [Sea.lstAt, h1, h2] using this

set_option maxHeartbeats 1000000 in
theorem refSameLists (av bv : Value) (a b : List (List Int)) (w : World) (ha : ListsAt w av a) (hb : ListsAt w bv b) :
    Calls Try.prog 21 #[av, bv] w fun e w' => e = .returned (.bool (decide (a = b))) ∧ Below w.heap.size w w' := by
  obtain ⟨aa, ac, rfl, ham, hac⟩ := ha
  obtain ⟨ba, bc, rfl, hbm, hbc⟩ := hb
  unfold maxLen at ham hbm
  by_cases hlen : a.length = b.length
  · have Hl := Lib.hid hlen
    have hl1 : a.length ≤ b.length := by omega
    have hl2 : b.length ≤ a.length := by omega
    have hbe : ((a.length : Int) == (b.length : Int)) = true := by rw [hlen]; simp
    have hbn : ((a.length : Int) != (b.length : Int)) = false := by rw [hlen]; simp
    clear hlen
    go_enter Try.func21, Try.ntmps21
    go_wp2
    go_loopw [5] (fun i wr => ∃ k : Nat, k ≤ a.length ∧ i = .int .i64 k ∧ Hid (∀ j, j < k → Sea.lstAt a j = Sea.lstAt b j) ∧ ∃ g : Grow w, wr = g.x) (fun i _ => a.length - (intOf i).toNat)
    case atStart => exact ⟨0, by omega, rfl, (fun j h => by omega : ∀ j, j < 0 → Sea.lstAt a j = Sea.lstAt b j), Grow.self w, rfl⟩
    case round =>
      obtain ⟨k, hk, rfl, hH, g, rfl⟩ := hrel
      by_cases hlt : k < a.length
      · obtain ⟨ab, ao, rfl, hal, hak⟩ := hac (by omega)
        obtain ⟨bb, bo, rfl, hbl, hbk⟩ := hbc (by omega)
        obtain ⟨ea, ca, ia⟩ := hak k hlt
        obtain ⟨eb, cb, ib⟩ := hbk k (by omega)
        clear hak hbk hac hbc
        have hlt' : (k : Int) < a.length := by omega
        have hlt2 : (k : Int) < b.length := by omega
        have hg := grow_cell w
        have hsame : ∀ h : Grow w, Calls Try.prog 24 #[ea, eb] h.x fun e w' => e = .returned (.bool (decide (Sea.lstAt a k = Sea.lstAt b k))) ∧ Below h.x.heap.size h.x w' :=
          fun h => refSame ea eb _ _ _ (ia.mono h.h) (ib.mono h.h)
        by_cases he : Sea.lstAt a k = Sea.lstAt b k
        · rw [show decide (Sea.lstAt a k = Sea.lstAt b k) = true from decide_eq_true he] at hsame
          have hH' : Hid (∀ j, j < k + 1 → Sea.lstAt a j = Sea.lstAt b j) := fun j hj => by
            rcases Nat.lt_succ_iff_lt_or_eq.1 hj with h | rfl
            · exact hH.out j h
            · exact he
          clear he
          go_wp2
          have hgg : ∀ (h : Grow g.x) (b o : Nat), b < w.heap.size → h.x.cell? ⟨b, o, none⟩ = w.cell? ⟨b, o, none⟩ := fun h b o hb => (grow_cell g.x h b o (Nat.lt_of_lt_of_le hb g.size)).trans (grow_cell w g b o hb)
          refine wp_region_grow (by kernel_rfl) (by kernel_rfl) ?_
          repeat (go_big_quiet_step ((first | (go_at_call 24; exact Calls.grow_of hsame g))))
          refine wpQuiet_nil ?_
          rintro _ ⟨gx, rfl⟩
          clear hgg
          obtain ⟨g1, hg1⟩ := g.next gx.h
          rw [hg1]
          clear hg1 gx
          go_wp2
          exact ⟨⟨k + 1, by omega, by go_num, hH', g1, rfl⟩, by simp [intOf]; omega⟩
        · rw [show decide (Sea.lstAt a k = Sea.lstAt b k) = false from decide_eq_false he] at hsame
          have he' := Lib.hid he
          clear he
          go_wp2
          have hgg : ∀ (h : Grow g.x) (b o : Nat), b < w.heap.size → h.x.cell? ⟨b, o, none⟩ = w.cell? ⟨b, o, none⟩ := fun h b o hb => (grow_cell g.x h b o (Nat.lt_of_lt_of_le hb g.size)).trans (grow_cell w g b o hb)
          refine wp_region_grow (by kernel_rfl) (by kernel_rfl) ?_
          repeat (go_big_quiet_step ((first | (go_at_call 24; exact Calls.grow_of hsame g))))
          refine wpQuiet_nil ?_
          rintro _ ⟨gx, rfl⟩
          clear hgg
          obtain ⟨g1, hg1⟩ := g.next gx.h
          rw [hg1]
          clear hg1 gx
          go_wp2
          go_ret
          exact ⟨bool_ret (decide_eq_false fun h => he'.out (by rw [h])).symm, g1.h⟩
      · go_wp2
        go_ret
        refine ⟨bool_ret ?_, g.h⟩
        exact (decide_eq_true (lst_ext Hl.out fun i hi => hH.out i (by omega))).symm
  · go_enter Try.func21, Try.ntmps21
    go_wp2
    go_ret
    exact ⟨bool_ret (decide_eq_false fun h => hlen (by rw [h])).symm, Below.refl _ _⟩
end Go.Proofs.Ytacajmpggjgaiaa
