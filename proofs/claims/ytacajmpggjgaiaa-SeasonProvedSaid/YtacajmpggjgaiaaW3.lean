/- Walks: the reference's comparisons of lists. Walks: the reference's comparisons of lists of spans; the order of lists; spans of safe fills. -/
import Derived.Test.YtacajmpggjgaiaaW1
import Derived.Laws.StructEq
set_option linter.unusedVariables false
set_option linter.unusedSimpArgs false
namespace Go.Proofs.Ytacajmpggjgaiaa
open Go.RowKit Go.Sd

theorem at0_ext {a b : List Int} (hl : a.length = b.length) (h : ∀ i, i < a.length → Sea.at0 a i = Sea.at0 b i) : a = b := by
  apply List.ext_getElem hl
  intro i h1 h2
  have := h i h1
  simpa [Sea.at0, h1, h2] using this

theorem at0_eq {a : List Int} {i : Nat} (h : i < a.length) : Sea.at0 a i = a[i] := by simp [Sea.at0, h]

set_option maxHeartbeats 1000000 in
theorem refSame (av bv : Value) (a b : List Int) (w : World) (ha : IntsAt w av a) (hb : IntsAt w bv b) :
    Calls Try.prog 24 #[av, bv] w fun e w' => e = .returned (.bool (decide (a = b))) ∧ Below w.heap.size w w' := by
  obtain ⟨aa, ac, rfl, ham, hac⟩ := ha
  obtain ⟨ba, bc, rfl, hbm, hbc⟩ := hb
  unfold maxLen at ham hbm
  by_cases hlen : a.length = b.length
  · have Hl := Lib.hid hlen
    have hl1 : a.length ≤ b.length := by omega
    have hl2 : b.length ≤ a.length := by omega
    have hbe : ((a.length : Int) == (b.length : Int)) = true := by rw [hlen]; simp
    have hbn : ((a.length : Int) != (b.length : Int)) = false := by rw [hlen]; simp
    clear hlen
    go_enter Try.func24, Try.ntmps24
    go_wp2
    go_loopw [5] (fun i wr => ∃ k : Nat, k ≤ a.length ∧ i = .int .i64 k ∧ Hid (∀ j, j < k → Sea.at0 a j = Sea.at0 b j) ∧ ∃ g : Grow w, wr = g.x) (fun i _ => a.length - (intOf i).toNat)
    case atStart => exact ⟨0, by omega, rfl, (fun j h => by omega : ∀ j, j < 0 → Sea.at0 a j = Sea.at0 b j), Grow.self w, rfl⟩
    case round =>
      obtain ⟨k, hk, rfl, hH, g, rfl⟩ := hrel
      by_cases hlt : k < a.length
      · obtain ⟨ab, ao, rfl, hal, hak⟩ := hac (by omega)
        obtain ⟨bb, bo, rfl, hbl, hbk⟩ := hbc (by omega)
        have ca := hak k hlt
        have cb := hbk k (by omega)
        clear hak hbk hac hbc
        have hlt' : (k : Int) < a.length := by omega
        have hlt2 : (k : Int) < b.length := by omega
        have hg := grow_cell w
        go_wp2
        have hgg : ∀ (h : Grow g.x) (b o : Nat), b < w.heap.size → h.x.cell? ⟨b, o, none⟩ = w.cell? ⟨b, o, none⟩ := fun h b o hb => (grow_cell g.x h b o (Nat.lt_of_lt_of_le hb g.size)).trans (grow_cell w g b o hb)
        refine wp_region_grow (by kernel_rfl) (by kernel_rfl) ?_
        repeat (go_big_quiet_step (fail))
        refine wpQuiet_nil ?_
        rintro _ ⟨gx, rfl⟩
        clear hgg
        obtain ⟨g1, hg1⟩ := g.next gx.h
        rw [hg1]
        clear hg1 gx
        go_wp2
        · go_ret
          refine ⟨bool_ret (decide_eq_false fun h => ?_).symm, g1.h⟩
          subst h
          simp_all
        · have h0 := ‹(Sea.at0 a k != Sea.at0 b k) = false›
          have hH' : Hid (∀ j, j < k + 1 → Sea.at0 a j = Sea.at0 b j) := fun j hj => by
            rcases Nat.lt_succ_iff_lt_or_eq.1 hj with h | rfl
            · exact hH.out j h
            · simpa using h0
          exact ⟨⟨k + 1, by omega, by go_num, hH', g1, rfl⟩, by simp [intOf]; omega⟩
      · go_wp2
        go_ret
        refine ⟨bool_ret ?_, g.h⟩
        exact (decide_eq_true (at0_ext Hl.out fun i hi => hH.out i (by omega))).symm
  · go_enter Try.func24, Try.ntmps24
    go_wp2
    go_ret
    exact ⟨bool_ret (decide_eq_false fun h => hlen (by rw [h])).symm, Below.refl _ _⟩

theorem lst_ext {a b : List (List Int)} (hl : a.length = b.length) (h : ∀ i, i < a.length → Sea.lstAt a i = Sea.lstAt b i) : a = b := by
  apply List.ext_getElem hl
  intro i h1 h2
  have := h i h1
  simpa [Sea.lstAt, h1, h2] using this

set_option maxHeartbeats 1000000 in
theorem refSameLists (av bv : Value) (a b : List (List Int)) (w : World) (ha : ListsAt w av a) (hb : ListsAt w bv b) :
    Calls Try.prog 21 #[av, bv] w fun e w' => e = .returned (.bool (decide (a = b))) ∧ Below w.heap.size w w' := by
  obtain ⟨aa, ac, rfl, ham, hac⟩ := ha
  obtain ⟨ba, bc, rfl, hbm, hbc⟩ := hb
  unfold maxLen at ham hbm
  by_cases hlen : a.length = b.length
  · have Hl := Lib.hid hlen
    have hl1 : a.length ≤ b.length := by omega
    have hl2 : b.length ≤ a.length := by omega
    have hbe : ((a.length : Int) == (b.length : Int)) = true := by rw [hlen]; simp
    have hbn : ((a.length : Int) != (b.length : Int)) = false := by rw [hlen]; simp
    clear hlen
    go_enter Try.func21, Try.ntmps21
    go_wp2
    go_loopw [5] (fun i wr => ∃ k : Nat, k ≤ a.length ∧ i = .int .i64 k ∧ Hid (∀ j, j < k → Sea.lstAt a j = Sea.lstAt b j) ∧ ∃ g : Grow w, wr = g.x) (fun i _ => a.length - (intOf i).toNat)
    case atStart => exact ⟨0, by omega, rfl, (fun j h => by omega : ∀ j, j < 0 → Sea.lstAt a j = Sea.lstAt b j), Grow.self w, rfl⟩
    case round =>
      obtain ⟨k, hk, rfl, hH, g, rfl⟩ := hrel
      by_cases hlt : k < a.length
      · obtain ⟨ab, ao, rfl, hal, hak⟩ := hac (by omega)
        obtain ⟨bb, bo, rfl, hbl, hbk⟩ := hbc (by omega)
        obtain ⟨ea, ca, ia⟩ := hak k hlt
        obtain ⟨eb, cb, ib⟩ := hbk k (by omega)
        clear hak hbk hac hbc
        have hlt' : (k : Int) < a.length := by omega
        have hlt2 : (k : Int) < b.length := by omega
        have hg := grow_cell w
        have hsame : ∀ h : Grow w, Calls Try.prog 24 #[ea, eb] h.x fun e w' => e = .returned (.bool (decide (Sea.lstAt a k = Sea.lstAt b k))) ∧ Below h.x.heap.size h.x w' :=
          fun h => refSame ea eb _ _ _ (ia.mono h.h) (ib.mono h.h)
        by_cases he : Sea.lstAt a k = Sea.lstAt b k
        · rw [show decide (Sea.lstAt a k = Sea.lstAt b k) = true from decide_eq_true he] at hsame
          have hH' : Hid (∀ j, j < k + 1 → Sea.lstAt a j = Sea.lstAt b j) := fun j hj => by
            rcases Nat.lt_succ_iff_lt_or_eq.1 hj with h | rfl
            · exact hH.out j h
            · exact he
          clear he
          go_wp2
          have hgg : ∀ (h : Grow g.x) (b o : Nat), b < w.heap.size → h.x.cell? ⟨b, o, none⟩ = w.cell? ⟨b, o, none⟩ := fun h b o hb => (grow_cell g.x h b o (Nat.lt_of_lt_of_le hb g.size)).trans (grow_cell w g b o hb)
          refine wp_region_grow (by kernel_rfl) (by kernel_rfl) ?_
          repeat (go_big_quiet_step ((first | (go_at_call 24; exact Calls.grow_of hsame g))))
          refine wpQuiet_nil ?_
          rintro _ ⟨gx, rfl⟩
          clear hgg
          obtain ⟨g1, hg1⟩ := g.next gx.h
          rw [hg1]
          clear hg1 gx
          go_wp2
          exact ⟨⟨k + 1, by omega, by go_num, hH', g1, rfl⟩, by simp [intOf]; omega⟩
        · rw [show decide (Sea.lstAt a k = Sea.lstAt b k) = false from decide_eq_false he] at hsame
          have he' := Lib.hid he
          clear he
          go_wp2
          have hgg : ∀ (h : Grow g.x) (b o : Nat), b < w.heap.size → h.x.cell? ⟨b, o, none⟩ = w.cell? ⟨b, o, none⟩ := fun h b o hb => (grow_cell g.x h b o (Nat.lt_of_lt_of_le hb g.size)).trans (grow_cell w g b o hb)
          refine wp_region_grow (by kernel_rfl) (by kernel_rfl) ?_
          repeat (go_big_quiet_step ((first | (go_at_call 24; exact Calls.grow_of hsame g))))
          refine wpQuiet_nil ?_
          rintro _ ⟨gx, rfl⟩
          clear hgg
          obtain ⟨g1, hg1⟩ := g.next gx.h
          rw [hg1]
          clear hg1 gx
          go_wp2
          go_ret
          exact ⟨bool_ret (decide_eq_false fun h => he'.out (by rw [h])).symm, g1.h⟩
      · go_wp2
        go_ret
        refine ⟨bool_ret ?_, g.h⟩
        exact (decide_eq_true (lst_ext Hl.out fun i hi => hH.out i (by omega))).symm
  · go_enter Try.func21, Try.ntmps21
    go_wp2
    go_ret
    exact ⟨bool_ret (decide_eq_false fun h => hlen (by rw [h])).symm, Below.refl _ _⟩
end Go.Proofs.Ytacajmpggjgaiaa
namespace Go.Proofs.Ytacajmpggjgaiaa
open Go.RowKit Go.Sd

theorem fields_span : (Try.prog.fieldsOf 23).toList = [⟨"Low", 3, 0, false, "", "", 0⟩, ⟨"High", 3, 1, false, "", "", 8⟩] := by kernel_rfl
theorem eqInt (d : Nat) (a b : Int) (w : World) : (Op.equalIn (d + 1) 3 (.int .i64 a) (.int .i64 b)).run Try.prog w = .ok (a == b) w := by
  simp [Op.equalIn, run_underlying Try.underlying3]
theorem partInt (cs : Array Value) (off : Nat) (v : Value) (h : cs[off]? = some v) (w : World) : (part 3 cs off).run Try.prog w = .ok v w := by
  simp [part, isAgg, run_underlying Try.underlying3, h]
theorem eqInt9 (a b : Int) (w : World) : (Op.equalIn 9999 3 (.int .i64 a) (.int .i64 b)).run Try.prog w = .ok (a == b) w := eqInt 9998 a b w
theorem part0 (x y : Value) (w : World) : (part 3 #[x, y] 0).run Try.prog w = .ok x w := partInt _ _ _ rfl w
theorem part1 (x y : Value) (w : World) : (part 3 #[x, y] 1).run Try.prog w = .ok y w := partInt _ _ _ rfl w
theorem run_neq_span (a b c d : Int) (w : World) : (binOp .neq 23 (.agg #[.int .i64 a, .int .i64 b]) (.agg #[.int .i64 c, .int .i64 d])).run Try.prog w = .ok (.bool (!(a == c && b == d))) w := by
  rw [run_neq_struct, run_equalIn_struct w 9999 23 _ _ (by kernel_rfl) (by kernel_rfl), fields_span]
  simp only [Op.eqFields]
  rw [if_pos (by decide), if_pos (by decide)]
  simp only [Sem.run_bind, Sem.run_ite, part0, part1, Result.andThen_ok, eqInt9]
  by_cases h : a = c <;> by_cases h' : b = d <;> simp [h, h', part0, part1, eqInt9, Sem.run]

theorem spl_ext {a b : List (List Sea.Span)} (hl : a.length = b.length) (h : ∀ i, i < a.length → Sea.spansAt a i = Sea.spansAt b i) : a = b := by
  apply List.ext_getElem hl
  intro i h1 h2
  have := h i h1
  simpa [Sea.spansAt, h1, h2] using this

theorem spn_ext {a b : List Sea.Span} (hl : a.length = b.length) (h : ∀ i, i < a.length → Sea.spanAt a i = Sea.spanAt b i) : a = b := by
  apply List.ext_getElem hl
  intro i h1 h2
  have := h i h1
  simpa [Sea.spanAt, h1, h2] using this

theorem span_eq {a b : Sea.Span} (h1 : a.lo = b.lo) (h2 : a.hi = b.hi) : a = b := by
  cases a; cases b; simp at h1 h2; subst h1; subst h2; rfl

set_option maxHeartbeats 1000000 in
theorem refSameSpans (av bv : Value) (a b : List (List Sea.Span)) (w : World) (ha : SpanListsAt w av a) (hb : SpanListsAt w bv b) :
    Calls Try.prog 26 #[av, bv] w fun e w' => e = .returned (.bool (decide (a = b))) ∧ Below w.heap.size w w' := by
  obtain ⟨aa, ac, rfl, ham, hac⟩ := ha
  obtain ⟨ba, bc, rfl, hbm, hbc⟩ := hb
  unfold maxLen at ham hbm
  by_cases hlen : a.length = b.length
  · have Hl := Lib.hid hlen
    have hl1 : a.length ≤ b.length := by omega
    have hl2 : b.length ≤ a.length := by omega
    have hbe : ((a.length : Int) == (b.length : Int)) = true := by rw [hlen]; simp
    have hbn : ((a.length : Int) != (b.length : Int)) = false := by rw [hlen]; simp
    clear hlen
    go_enter Try.func26, Try.ntmps26
    go_wp2
    go_loopw [5] (fun i wr => ∃ k : Nat, k ≤ a.length ∧ i = .int .i64 k ∧ Hid (∀ j, j < k → Sea.spansAt a j = Sea.spansAt b j) ∧ ∃ g : Grow w, wr = g.x) (fun i _ => a.length - (intOf i).toNat)
    case atStart => exact ⟨0, by omega, rfl, (fun j h => by omega : ∀ j, j < 0 → Sea.spansAt a j = Sea.spansAt b j), Grow.self w, rfl⟩
    case round =>
      obtain ⟨k, hk, rfl, hH, g, rfl⟩ := hrel
      by_cases hlt : k < a.length
      · obtain ⟨ab, ao, rfl, hal, hak⟩ := hac (by omega)
        obtain ⟨bb, bo, rfl, hbl, hbk⟩ := hbc (by omega)
        obtain ⟨ea, ca, ia⟩ := hak k hlt
        obtain ⟨eb, cb, ib⟩ := hbk k (by omega)
        clear hak hbk hac hbc
        obtain ⟨xa, xc, rfl, xm, xcell⟩ := ia
        obtain ⟨ya, yc, rfl, ym, ycell⟩ := ib
        unfold maxLen at xm ym
        have hlt' : (k : Int) < a.length := by omega
        have hlt2 : (k : Int) < b.length := by omega
        have hg := grow_cell w
        by_cases he : (Sea.spansAt a k).length = (Sea.spansAt b k).length
        · have hc1 : (((Sea.spansAt a k).length : Int) == ((Sea.spansAt b k).length : Int)) = true := by rw [he]; simp
          have hc2 : (((Sea.spansAt a k).length : Int) != ((Sea.spansAt b k).length : Int)) = false := by rw [he]; simp
          have He := Lib.hid he
          clear he
          go_wp2
          have hgg : ∀ (h : Grow g.x) (b o : Nat), b < w.heap.size → h.x.cell? ⟨b, o, none⟩ = w.cell? ⟨b, o, none⟩ := fun h b o hb => (grow_cell g.x h b o (Nat.lt_of_lt_of_le hb g.size)).trans (grow_cell w g b o hb)
          refine wp_region_grow (by kernel_rfl) (by kernel_rfl) ?_
          repeat (go_big_quiet_step (fail))
          refine wpQuiet_nil ?_
          rintro _ ⟨gx, rfl⟩
          clear hgg
          obtain ⟨g1, hg1⟩ := g.next gx.h
          rw [hg1]
          clear hg1 gx
          go_wp2
          go_loopw [6] (fun i wr => ∃ n : Nat, n ≤ (Sea.spansAt a k).length ∧ i = .int .i64 n ∧ Hid (∀ j, j < n → Sea.spanAt (Sea.spansAt a k) j = Sea.spanAt (Sea.spansAt b k) j) ∧ ∃ g : Grow w, wr = g.x) (fun i _ => (Sea.spansAt a k).length - (intOf i).toNat)
          case atStart => exact ⟨0, by omega, rfl, (fun j h => by omega : ∀ j, j < 0 → Sea.spanAt (Sea.spansAt a k) j = Sea.spanAt (Sea.spansAt b k) j), g1, rfl⟩
          case round =>
            obtain ⟨n, hn, rfl, hN, g2, rfl⟩ := hrel
            by_cases hnt : n < (Sea.spansAt a k).length
            · obtain ⟨xb, xo, rfl, xl, xk⟩ := xcell (by omega)
              obtain ⟨yb, yo, rfl, yl, yk⟩ := ycell (by have := He.out; omega)
              obtain ⟨x0, x1⟩ := xk n hnt
              obtain ⟨y0, y1⟩ := yk n (by have := He.out; omega)
              have hn1 : (n : Int) < (Sea.spansAt a k).length := by omega
              have hn2 : (n : Int) < (Sea.spansAt b k).length := by have := He.out; omega
              clear xk yk xcell ycell
              have hne := fun w => run_neq_span (Sea.spanAt (Sea.spansAt a k) n).lo (Sea.spanAt (Sea.spansAt a k) n).hi (Sea.spanAt (Sea.spansAt b k) n).lo (Sea.spanAt (Sea.spansAt b k) n).hi w
              go_wp2
              have hgg : ∀ (h : Grow g2.x) (b o : Nat), b < w.heap.size → h.x.cell? ⟨b, o, none⟩ = w.cell? ⟨b, o, none⟩ := fun h b o hb => (grow_cell g2.x h b o (Nat.lt_of_lt_of_le hb g2.size)).trans (grow_cell w g2 b o hb)
              refine wp_region_grow (by kernel_rfl) (by kernel_rfl) ?_
              repeat (go_big_quiet_step (fail))
              refine wpQuiet_nil ?_
              rintro _ ⟨gx, rfl⟩
              clear hgg
              obtain ⟨g3, hg3⟩ := g2.next gx.h
              rw [hg3]
              clear hg3 gx
              go_wp2
              · have h0 := ‹(!(Sea.spanAt (Sea.spansAt a k) n).lo == (Sea.spanAt (Sea.spansAt b k) n).lo) = true ∨ (!(Sea.spanAt (Sea.spansAt a k) n).hi == (Sea.spanAt (Sea.spansAt b k) n).hi) = true›
                go_ret
                refine ⟨bool_ret (decide_eq_false fun h => ?_).symm, g3.h⟩
                subst h
                simp at h0
              · have h0 := ‹(!(Sea.spanAt (Sea.spansAt a k) n).lo == (Sea.spanAt (Sea.spansAt b k) n).lo) = false ∧ (!(Sea.spanAt (Sea.spansAt a k) n).hi == (Sea.spanAt (Sea.spansAt b k) n).hi) = false›
                simp at h0
                have hN' : Hid (∀ j, j < n + 1 → Sea.spanAt (Sea.spansAt a k) j = Sea.spanAt (Sea.spansAt b k) j) := fun j hj => by
                  rcases Nat.lt_succ_iff_lt_or_eq.1 hj with h | rfl
                  · exact hN.out j h
                  · exact span_eq h0.1 h0.2
                exact ⟨⟨n + 1, by omega, by go_num, hN', g3, rfl⟩, by simp [intOf]; omega⟩
            · have hH' : Hid (∀ j, j < k + 1 → Sea.spansAt a j = Sea.spansAt b j) := fun j hj => by
                rcases Nat.lt_succ_iff_lt_or_eq.1 hj with h | rfl
                · exact hH.out j h
                · exact spn_ext He.out fun i hi => hN.out i (by omega)
              go_wp2
              exact ⟨⟨k + 1, by omega, by go_num, hH', g2, rfl⟩, by simp [intOf]; omega⟩
        · have hc1 : (((Sea.spansAt a k).length : Int) == ((Sea.spansAt b k).length : Int)) = false := by simp; omega
          have hc2 : (((Sea.spansAt a k).length : Int) != ((Sea.spansAt b k).length : Int)) = true := by simp; omega
          have He := Lib.hid he
          clear he
          go_wp2
          have hgg : ∀ (h : Grow g.x) (b o : Nat), b < w.heap.size → h.x.cell? ⟨b, o, none⟩ = w.cell? ⟨b, o, none⟩ := fun h b o hb => (grow_cell g.x h b o (Nat.lt_of_lt_of_le hb g.size)).trans (grow_cell w g b o hb)
          refine wp_region_grow (by kernel_rfl) (by kernel_rfl) ?_
          repeat (go_big_quiet_step (fail))
          refine wpQuiet_nil ?_
          rintro _ ⟨gx, rfl⟩
          clear hgg
          obtain ⟨g1, hg1⟩ := g.next gx.h
          rw [hg1]
          clear hg1 gx
          go_wp2
          go_ret
          exact ⟨bool_ret (decide_eq_false fun h => He.out (by rw [h])).symm, g1.h⟩
      · go_wp2
        go_ret
        refine ⟨bool_ret ?_, g.h⟩
        exact (decide_eq_true (spl_ext Hl.out fun i hi => hH.out i (by omega))).symm
  · go_enter Try.func26, Try.ntmps26
    go_wp2
    go_ret
    exact ⟨bool_ret (decide_eq_false fun h => hlen (by rw [h])).symm, Below.refl _ _⟩

theorem before_iff {a b : List Int} : ∀ {k : Nat}, (∀ j, j < k → Sea.at0 a j = Sea.at0 b j) → k < a.length → k < b.length → Sea.at0 a k ≠ Sea.at0 b k → Sea.before a b = decide (Sea.at0 a k < Sea.at0 b k) := by
  induction a generalizing b with
  | nil => intro k _ h; simp at h
  | cons x xs ih =>
    intro k hj hk hk' hne
    cases b with
    | nil => simp at hk'
    | cons y ys =>
      cases k with
      | zero =>
        have hxy : x ≠ y := hne
        simp only [Sea.before, if_neg hxy]
        rfl
      | succ k =>
        have h0 : x = y := hj 0 (by omega)
        simp only [Sea.before, if_pos h0]
        exact ih (b := ys) (k := k) (fun j hj' => hj (j + 1) (by omega)) (by simpa using hk) (by simpa using hk') hne

theorem before_none {a b : List Int} : (∀ j, j < a.length → j < b.length → Sea.at0 a j = Sea.at0 b j) → Sea.before a b = false := by
  induction a generalizing b with
  | nil => intro _; cases b <;> rfl
  | cons x xs ih =>
    intro h
    cases b with
    | nil => rfl
    | cons y ys =>
      have h0 : x = y := h 0 (by simp) (by simp)
      simp only [Sea.before, if_pos h0]
      exact ih fun j h1 h2 => h (j + 1) (by simpa using h1) (by simpa using h2)

set_option maxHeartbeats 1000000 in
theorem refBefore (av bv : Value) (a b : List Int) (w : World) (ha : IntsAt w av a) (hb : IntsAt w bv b) :
    Calls Try.prog 48 #[av, bv] w fun e w' => e = .returned (.bool (Sea.before a b)) ∧ Below w.heap.size w w' := by
  obtain ⟨aa, ac, rfl, ham, hac⟩ := ha
  obtain ⟨ba, bc, rfl, hbm, hbc⟩ := hb
  unfold maxLen at ham hbm
  go_enter Try.func48, Try.ntmps48
  go_wp2
  go_loopw [5] (fun i wr => ∃ k : Nat, k ≤ a.length ∧ k ≤ b.length ∧ i = .int .i64 k ∧ Hid (∀ j, j < k → Sea.at0 a j = Sea.at0 b j) ∧ ∃ g : Grow w, wr = g.x) (fun i _ => a.length - (intOf i).toNat)
  case atStart => exact ⟨0, by omega, by omega, rfl, (fun j h => by omega : ∀ j, j < 0 → Sea.at0 a j = Sea.at0 b j), Grow.self w, rfl⟩
  case round =>
    obtain ⟨k, hk, hkb, rfl, hH, g, rfl⟩ := hrel
    by_cases hlt : k < a.length
    · by_cases hltb : k < b.length
      · obtain ⟨ab, ao, rfl, hal, hak⟩ := hac (by omega)
        obtain ⟨bb, bo, rfl, hbl, hbk⟩ := hbc (by omega)
        have ca := hak k hlt
        have cb := hbk k (by omega)
        clear hak hbk hac hbc
        have hlt' : (k : Int) < a.length := by omega
        have hlt2 : (k : Int) < b.length := by omega
        have hg := grow_cell w
        by_cases he : Sea.at0 a k = Sea.at0 b k
        · have hH' : Hid (∀ j, j < k + 1 → Sea.at0 a j = Sea.at0 b j) := fun j hj => by
            rcases Nat.lt_succ_iff_lt_or_eq.1 hj with h | rfl
            · exact hH.out j h
            · exact he
          have hc2 : (Sea.at0 a k != Sea.at0 b k) = false := by rw [he]; simp
          clear he
          go_wp2
          have hgg : ∀ (h : Grow g.x) (b o : Nat), b < w.heap.size → h.x.cell? ⟨b, o, none⟩ = w.cell? ⟨b, o, none⟩ := fun h b o hb => (grow_cell g.x h b o (Nat.lt_of_lt_of_le hb g.size)).trans (grow_cell w g b o hb)
          refine wp_region_grow (by kernel_rfl) (by kernel_rfl) ?_
          repeat (go_big_quiet_step (fail))
          refine wpQuiet_nil ?_
          rintro _ ⟨gx, rfl⟩
          clear hgg
          obtain ⟨g1, hg1⟩ := g.next gx.h
          rw [hg1]
          clear hg1 gx
          go_wp2
          exact ⟨⟨k + 1, by omega, by omega, by go_num, hH', g1, rfl⟩, by simp [intOf]; omega⟩
        · have hc2 : (Sea.at0 a k != Sea.at0 b k) = true := by simpa using he
          have He := Lib.hid he
          clear he
          go_wp2
          have hgg : ∀ (h : Grow g.x) (b o : Nat), b < w.heap.size → h.x.cell? ⟨b, o, none⟩ = w.cell? ⟨b, o, none⟩ := fun h b o hb => (grow_cell g.x h b o (Nat.lt_of_lt_of_le hb g.size)).trans (grow_cell w g b o hb)
          refine wp_region_grow (by kernel_rfl) (by kernel_rfl) ?_
          repeat (go_big_quiet_step (fail))
          refine wpQuiet_nil ?_
          rintro _ ⟨gx, rfl⟩
          clear hgg
          obtain ⟨g1, hg1⟩ := g.next gx.h
          rw [hg1]
          clear hg1 gx
          go_wp2
          have hgg : ∀ (h : Grow g1.x) (b o : Nat), b < w.heap.size → h.x.cell? ⟨b, o, none⟩ = w.cell? ⟨b, o, none⟩ := fun h b o hb => (grow_cell g1.x h b o (Nat.lt_of_lt_of_le hb g1.size)).trans (grow_cell w g1 b o hb)
          refine wp_region_grow (by kernel_rfl) (by kernel_rfl) ?_
          repeat (go_big_quiet_step (fail))
          refine wpQuiet_nil ?_
          rintro _ ⟨gx, rfl⟩
          clear hgg
          obtain ⟨g2, hg2⟩ := g1.next gx.h
          rw [hg2]
          clear hg2 gx
          go_wp2
          go_ret
          exact ⟨bool_ret (before_iff hH.out hlt hltb He.out).symm, g2.h⟩
      · have hfin : Sea.before a b = false := before_none fun j h1 h2 => hH.out j (by omega)
        have Hf := Lib.hid hfin
        clear hfin
        go_wp2
        go_ret
        exact ⟨bool_ret Hf.out.symm, g.h⟩
    · have hfin : Sea.before a b = false := before_none fun j h1 h2 => hH.out j (by omega)
      have Hf := Lib.hid hfin
      clear hfin
      go_wp2
      go_ret
      exact ⟨bool_ret Hf.out.symm, g.h⟩

theorem isSafe_at {l : List Sea.Span} {fill : Int} {k : Nat} (hk : k < l.length) (h : Sea.inB fill (Sea.spanAt l k).lo (Sea.spanAt l k).hi = true) : Sea.isSafe l fill = true := by
  unfold Sea.isSafe
  rw [List.any_eq_true]
  exact ⟨l[k], List.getElem_mem hk, by simpa [Sea.spanAt, hk] using h⟩
theorem isSafe_none {l : List Sea.Span} {fill : Int} (h : ∀ k, k < l.length → Sea.inB fill (Sea.spanAt l k).lo (Sea.spanAt l k).hi = false) : Sea.isSafe l fill = false := by
  unfold Sea.isSafe
  rw [List.any_eq_false]
  intro x hx
  obtain ⟨k, hk, rfl⟩ := List.mem_iff_getElem.1 hx
  have := h k hk
  simp only [Sea.spanAt, List.getD_eq_getElem?_getD, List.getElem?_eq_getElem hk, Option.getD_some] at this
  rw [this]; exact Bool.false_ne_true

set_option maxHeartbeats 1000000 in
theorem refIsSafe (av : Value) (l : List Sea.Span) (fill : Int) (w : World) (ha : SpansAt w av l) :
    Calls Try.prog 36 #[av, .int .i64 fill] w fun e w' => e = .returned (.bool (Sea.isSafe l fill)) ∧ Below w.heap.size w w' := by
  obtain ⟨aa, ac, rfl, ham, hac⟩ := ha
  unfold maxLen at ham
  go_enter Try.func36, Try.ntmps36
  go_wp2
  go_loopw [5] (fun i wr => ∃ k : Nat, k ≤ l.length ∧ i = .int .i64 k ∧ Hid (∀ j, j < k → Sea.inB fill (Sea.spanAt l j).lo (Sea.spanAt l j).hi = false) ∧ ∃ g : Grow w, wr = g.x) (fun i _ => l.length - (intOf i).toNat)
  case atStart => exact ⟨0, by omega, rfl, (fun j h => by omega : ∀ j, j < 0 → Sea.inB fill (Sea.spanAt l j).lo (Sea.spanAt l j).hi = false), Grow.self w, rfl⟩
  case round =>
    obtain ⟨k, hk, rfl, hH, g, rfl⟩ := hrel
    by_cases hlt : k < l.length
    · obtain ⟨ab, ao, rfl, hal, hak⟩ := hac (by omega)
      obtain ⟨c0, c1⟩ := hak k hlt
      clear hak hac
      have hlt' : (k : Int) < l.length := by omega
      have hg := grow_cell w
      by_cases he : Sea.inB fill (Sea.spanAt l k).lo (Sea.spanAt l k).hi = true
      · have Hf := Lib.hid (isSafe_at hlt he)
        go_wp2
        have hgg : ∀ (h : Grow g.x) (b o : Nat), b < w.heap.size → h.x.cell? ⟨b, o, none⟩ = w.cell? ⟨b, o, none⟩ := fun h b o hb => (grow_cell g.x h b o (Nat.lt_of_lt_of_le hb g.size)).trans (grow_cell w g b o hb)
        refine wp_region_grow (by kernel_rfl) (by kernel_rfl) ?_
        repeat (go_big_quiet_step ((first | (go_at_call 59; exact Calls.grow_same (v := .bool true) ((refIn _ _ _ _).mono (by rintro e w' ⟨rfl, rfl⟩; exact ⟨by rw [he], rfl⟩))))))
        refine wpQuiet_nil ?_
        rintro _ ⟨gx, rfl⟩
        clear hgg
        obtain ⟨g1, hg1⟩ := g.next gx.h
        rw [hg1]
        clear hg1 gx
        go_wp2
        go_ret
        exact ⟨bool_ret Hf.out.symm, g1.h⟩
      · have he' : Sea.inB fill (Sea.spanAt l k).lo (Sea.spanAt l k).hi = false := by simpa using he
        clear he
        have hH' : Hid (∀ j, j < k + 1 → Sea.inB fill (Sea.spanAt l j).lo (Sea.spanAt l j).hi = false) := fun j hj => by
          rcases Nat.lt_succ_iff_lt_or_eq.1 hj with h | rfl
          · exact hH.out j h
          · exact he'
        go_wp2
        have hgg : ∀ (h : Grow g.x) (b o : Nat), b < w.heap.size → h.x.cell? ⟨b, o, none⟩ = w.cell? ⟨b, o, none⟩ := fun h b o hb => (grow_cell g.x h b o (Nat.lt_of_lt_of_le hb g.size)).trans (grow_cell w g b o hb)
        refine wp_region_grow (by kernel_rfl) (by kernel_rfl) ?_
        repeat (go_big_quiet_step ((first | (go_at_call 59; exact Calls.grow_same (v := .bool false) ((refIn _ _ _ _).mono (by rintro e w' ⟨rfl, rfl⟩; exact ⟨by rw [he'], rfl⟩))))))
        refine wpQuiet_nil ?_
        rintro _ ⟨gx, rfl⟩
        clear hgg
        obtain ⟨g1, hg1⟩ := g.next gx.h
        rw [hg1]
        clear hg1 gx
        go_wp2
        exact ⟨⟨k + 1, by omega, by go_num, hH', g1, rfl⟩, by simp [intOf]; omega⟩
    · have Hf := Lib.hid (isSafe_none fun j hj => hH.out j (by omega))
      go_wp2
      go_ret
      exact ⟨bool_ret Hf.out.symm, g.h⟩
end Go.Proofs.Ytacajmpggjgaiaa
