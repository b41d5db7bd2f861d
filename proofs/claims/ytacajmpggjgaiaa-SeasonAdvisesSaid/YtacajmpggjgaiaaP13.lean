/- Walks: what is known of the document's examples is true. -/
import Derived.Test.YtacajmpggjgaiaaP12
set_option linter.unusedVariables false
set_option linter.unusedSimpArgs false
namespace Go.Proofs.Ytacajmpggjgaiaa
open Go.RowKit Go.Sd

theorem ints_new {w : World} {n : Nat} {t : TypeId} (l : List Int) (hn : n = w.heap.size) (cap : Nat) (hl : l.length ≤ 1000) : IntsAt (w.alloc (.cells (l.map (Value.int .i64)).toArray t)) (.slice (some ⟨n, 0, none⟩) l.length cap) l := by
  subst hn; exact ints_at (World.alloc_heap_new _ _) cap hl

theorem span_one {w : World} {n : Nat} {x : Sea.Span} {t : TypeId} (h : w.heap[n]? = some (.cells #[.int .i64 x.lo, .int .i64 x.hi] t)) : SpansAt w (.slice (some ⟨n, 0, none⟩) 1 1) [x] := by
  refine ⟨_, 1, rfl, by unfold maxLen; simp, fun _ => ⟨n, 0, rfl, (Array.getElem?_eq_some_iff.1 h).1, fun k hk => ?_⟩⟩
  have hk : k < 1 := hk
  obtain rfl : k = 0 := by omega
  exact ⟨(row_cells h).2.1 0, (row_cells h).2.1 1⟩

theorem spans_lit {w X : World} {a b c d : Sea.Span} (h : ((((w.alloc (.cells #[.int .i64 a.lo, .int .i64 a.hi] 23)).alloc (.cells #[.int .i64 b.lo, .int .i64 b.hi] 23)).alloc (.cells #[.int .i64 c.lo, .int .i64 c.hi] 23)).alloc (.cells #[.int .i64 d.lo, .int .i64 d.hi] 23)).alloc
      (.cells #[.slice (some ⟨w.heap.size, 0, none⟩) 1 1, .slice (some ⟨w.heap.size + 1, 0, none⟩) 1 1, .slice (some ⟨w.heap.size + 1 + 1, 0, none⟩) 1 1, .slice (some ⟨w.heap.size + 1 + 1 + 1, 0, none⟩) 1 1] 60) = X) :
    SpanListsAt X (.slice (some ⟨w.heap.size + 1 + 1 + 1 + 1, 0, none⟩) 4 4) [[a], [b], [c], [d]] := by
  obtain ⟨X4, hX4⟩ : ∃ X4, (((w.alloc (.cells #[.int .i64 a.lo, .int .i64 a.hi] 23)).alloc (.cells #[.int .i64 b.lo, .int .i64 b.hi] 23)).alloc (.cells #[.int .i64 c.lo, .int .i64 c.hi] 23)).alloc (.cells #[.int .i64 d.lo, .int .i64 d.hi] 23) = X4 := ⟨_, rfl⟩
  obtain ⟨n1, n2, n3, n4, hsz, -⟩ := four_new hX4
  rw [hX4] at h
  have hB : Below X4.heap.size X4 X := by rw [← h]; exact (Below.refl _ _).alloc (Nat.le_refl _) _
  have e5 : X.heap[X4.heap.size]? = some (.cells #[.slice (some ⟨w.heap.size, 0, none⟩) 1 1, .slice (some ⟨w.heap.size + 1, 0, none⟩) 1 1, .slice (some ⟨w.heap.size + 1 + 1, 0, none⟩) 1 1, .slice (some ⟨w.heap.size + 1 + 1 + 1, 0, none⟩) 1 1] 60) := by rw [← h]; exact World.alloc_heap_new _ _
  rw [hsz] at e5
  have m1 := block_on hB n1
  have m2 := block_on hB n2
  have m3 := block_on hB n3
  have m4 := block_on hB n4
  obtain ⟨z, dd, -⟩ := row_cells e5
  refine ⟨_, 4, rfl, by unfold maxLen; simp, fun _ => ⟨_, 0, rfl, z, fun k hk => ?_⟩⟩
  have hk : k < 4 := hk
  match k, hk with
  | 0, _ => exact ⟨_, dd 0, span_one m1⟩
  | 1, _ => exact ⟨_, dd 1, span_one m2⟩
  | 2, _ => exact ⟨_, dd 2, span_one m3⟩
  | 3, _ => exact ⟨_, dd 3, span_one m4⟩

set_option maxRecDepth 100000 in
set_option maxHeartbeats 4000000 in
theorem progKnown (w : World) : Calls Try.prog 16 #[] w fun e w' => e = .returned (.bool true) ∧ Below w.heap.size w w' := by
  have hB : Below w.heap.size w (w.alloc (.cells #[.int .i64 0, .int .i64 (-1), .int .i64 0] 3)) := below_al (Below.refl _ _) _
  have hn : IntsAt (w.alloc (.cells #[.int .i64 0, .int .i64 (-1), .int .i64 0] 3)) (.slice (some ⟨w.heap.size, 0, none⟩) 3 3) exN := ints_new exN rfl 3 (by decide)
  go_enter Try.func16, Try.ntmps16
  go_wp2_with (first
    | (go_at_call 50; refine (progExample _).mono ?_; rintro e wA ⟨sv, rfl, hsv, hbA⟩; replace hB := below_tr hB hbA; replace hn := hn.mono hbA; (try replace hp := IntsAt.mono hp hbA); (try replace hvc := kept_cell hbA hvc); (try replace hvr := IntsAt.mono hvr hbA); (try replace hsl := SpanListsAt.mono hsl hbA))
    | (go_at_call 17; refine (knownBest _ _ _ hsv hn).mono ?_; rintro e wA ⟨pv, rfl, hp, hbA⟩; replace hB := below_tr hB hbA; replace hn := hn.mono hbA)
    | (go_at_call 18; refine (knownProof _ _ _ hsv hn).mono ?_; rintro e wA ⟨vb, vcap, rv, rfl, hvc, hvr, hbA⟩; replace hB := below_tr hB hbA; replace hn := hn.mono hbA; replace hp := IntsAt.mono hp hbA)
    | (go_at_call 25; refine (knownSafe _ _ hsv).mono ?_; rintro e wA ⟨lv, rfl, hsl, hbA⟩; replace hB := below_tr hB hbA; replace hn := hn.mono hbA; replace hp := IntsAt.mono hp hbA; replace hvc := kept_cell hbA hvc; replace hvr := IntsAt.mono hvr hbA)
    | (go_at_call 28; refine (knownWorst _ _ hsv).mono ?_; rintro e wA ⟨rfl, hbA⟩; replace hB := below_tr hB hbA; replace hn := hn.mono hbA; replace hp := IntsAt.mono hp hbA; replace hvc := kept_cell hbA hvc; replace hvr := IntsAt.mono hvr hbA; replace hsl := SpanListsAt.mono hsl hbA)
    | (go_at_call 29; refine (knownAdvise _ _ hsv).mono ?_; rintro e wA ⟨rfl, hbA⟩; replace hB := below_tr hB hbA; replace hn := hn.mono hbA; replace hp := IntsAt.mono hp hbA; replace hvc := kept_cell hbA hvc; replace hvr := IntsAt.mono hvr hbA; replace hsl := SpanListsAt.mono hsl hbA; clear hsv))
  have hX := spans_lit (w := wA) (a := ⟨0, 10⟩) (b := ⟨2, 10⟩) (c := ⟨3, 10⟩) (d := ⟨4, 6⟩) rfl
  have hB5 : Below wA.heap.size wA (((((wA.alloc (.cells #[.int .i64 0, .int .i64 10] 23)).alloc (.cells #[.int .i64 2, .int .i64 10] 23)).alloc (.cells #[.int .i64 3, .int .i64 10] 23)).alloc (.cells #[.int .i64 4, .int .i64 6] 23)).alloc
      (.cells #[.slice (some ⟨wA.heap.size, 0, none⟩) 1 1, .slice (some ⟨wA.heap.size + 1, 0, none⟩) 1 1, .slice (some ⟨wA.heap.size + 1 + 1, 0, none⟩) 1 1, .slice (some ⟨wA.heap.size + 1 + 1 + 1, 0, none⟩) 1 1] 60)) := below_al (below_al (below_al (below_al (below_al (Below.refl _ _) _) _) _) _) _
  simp only at hX
  have hz : wA.heap.size + 1 + 1 + 1 + 1 + 1 = (((((wA.alloc (.cells #[.int .i64 0, .int .i64 10] 23)).alloc (.cells #[.int .i64 2, .int .i64 10] 23)).alloc (.cells #[.int .i64 3, .int .i64 10] 23)).alloc (.cells #[.int .i64 4, .int .i64 6] 23)).alloc
      (.cells #[.slice (some ⟨wA.heap.size, 0, none⟩) 1 1, .slice (some ⟨wA.heap.size + 1, 0, none⟩) 1 1, .slice (some ⟨wA.heap.size + 1 + 1, 0, none⟩) 1 1, .slice (some ⟨wA.heap.size + 1 + 1 + 1, 0, none⟩) 1 1] 60)).heap.size := by simp only [World.size_alloc]
  generalize ((((wA.alloc (.cells #[.int .i64 0, .int .i64 10] 23)).alloc (.cells #[.int .i64 2, .int .i64 10] 23)).alloc (.cells #[.int .i64 3, .int .i64 10] 23)).alloc (.cells #[.int .i64 4, .int .i64 6] 23)).alloc
      (.cells #[.slice (some ⟨wA.heap.size, 0, none⟩) 1 1, .slice (some ⟨wA.heap.size + 1, 0, none⟩) 1 1, .slice (some ⟨wA.heap.size + 1 + 1, 0, none⟩) 1 1, .slice (some ⟨wA.heap.size + 1 + 1 + 1, 0, none⟩) 1 1] 60) = X at *
  have hBX := below_tr hB hB5
  have hX1 : Below X.heap.size X (X.alloc (.cells #[.int .i64 3, .int .i64 2, .int .i64 (-4)] 3)) := below_al (Below.refl _ _) _
  refine (knownSame _ _ [3, 2, -4] _ ((hp.mono hB5).mono hX1) (ints_new [3, 2, -4] hz 3 (by decide))).mono ?_
  rintro e w1 ⟨rfl, hb1⟩
  have hX2 : Below X.heap.size X w1 := below_tr hX1 hb1
  replace hvc := kept_cell hX2 (kept_cell hB5 hvc)
  replace hvr := (hvr.mono hB5).mono hX2
  replace hsl := (hsl.mono hB5).mono hX2
  replace hX := hX.mono hX2
  have hBw1 := below_tr hBX hX2
  clear hz hB5 hp hn hB hbA hBX hX1 hX2 hsv hb1
  go_wp2_with (first
    | (go_at_call 24; refine (knownSame _ _ exRow _ (IntsAt.mono hvr ((Below.refl _ _).alloc (Nat.le_refl _) _)) (ints_new exRow rfl 11 (by decide))).mono ?_; rintro e w2 ⟨rfl, hb2⟩)
    | (go_at_call 26; refine (knownSpans _ _ exSafe _ ((hsl.mono ((Below.refl _ _).alloc (Nat.le_refl _) _)).mono hb2) ((hX.mono ((Below.refl _ _).alloc (Nat.le_refl _) _)).mono hb2)).mono ?_; rintro e w3 ⟨rfl, hb3⟩))
  go_ret
  exact ⟨rfl, below_tr (below_tr (below_al hBw1 _) hb2) hb3⟩
end Go.Proofs.Ytacajmpggjgaiaa
