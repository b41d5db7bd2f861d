/- Walks: the season of the document's examples, and what is known of it. Walks: what is known of the document's examples is true. -/
import Derived.Test.YtacajmpggjgaiaaP11
import Derived.Test.YtacajmpggjgaiaaOwnSp
import Derived.Test.YtacajmpggjgaiaaW5
set_option linter.unusedVariables false
set_option linter.unusedSimpArgs false
namespace Go.Proofs.Ytacajmpggjgaiaa
open Go.RowKit Go.Sd

theorem ints_at {w : World} {n : Nat} {l : List Int} {t : TypeId} (h : w.heap[n]? = some (.cells (l.map (Value.int .i64)).toArray t)) (cap : Nat) (hl : l.length ≤ 1000) : IntsAt w (.slice (some ⟨n, 0, none⟩) l.length cap) l := by
  refine ⟨_, cap, rfl, by unfold maxLen; omega, fun _ => ⟨n, 0, rfl, (Array.getElem?_eq_some_iff.1 h).1, fun k hk => ?_⟩⟩
  rw [Nat.zero_add, (row_cells h).2.1 k]
  simp [Sea.at0, hk]

set_option maxRecDepth 100000 in
set_option maxHeartbeats 2000000 in
theorem progExample (w : World) : Calls Try.prog 50 #[] w fun e w' => ∃ v, e = .returned v ∧ SeasonAt w' v exS ∧ Below w.heap.size w w' := by
  go_enter Try.func50, Try.ntmps50
  go_wp2
  generalize hW : ((w.alloc _).alloc _).alloc _ = W
  obtain ⟨n0, n1, n2, -, hB⟩ := three_new hW
  clear hW
  obtain ⟨-, d0, -⟩ := row_cells n0
  obtain ⟨z1, d1, -⟩ := row_cells n1
  obtain ⟨z2, d2, -⟩ := row_cells n2
  have a0 := d0 0
  have a1 := d0 1
  have a2 := d0 2
  have a3 := d0 3
  have a4 := d0 4
  have a5 := d0 5
  simp only [List.getElem?_toArray, List.getElem?_cons_zero, List.getElem?_cons_succ] at a0 a1 a2 a3 a4 a5
  refine bodyPost_ret (v := .agg #[.int .i64 10, .int .i64 4, .int .i64 4, .int .i64 6, .slice (some ⟨w.heap.size + 1, 0, none⟩) 2 2, .slice (some ⟨w.heap.size + 1 + 1, 0, none⟩) 3 3])
    (by simp [results, Try.results50, go_sem, a0, a1, a2, a3, a4, a5]) rfl ⟨_, rfl, ⟨_, _, rfl, ⟨_, 2, rfl, by decide, fun _ => ⟨_, 0, rfl, z1, ?_⟩⟩, ⟨_, 3, rfl, by decide, fun _ => ⟨_, 0, rfl, z2, ?_⟩⟩⟩, hB⟩
  · intro k hk
    have hk : k < 2 := hk
    match k, hk with
    | 0, _ => exact ⟨d1 0, d1 1, d1 2⟩
    | 1, _ => exact ⟨d1 3, d1 4, d1 5⟩
  · intro k hk
    have hk : k < 3 := hk
    match k, hk with
    | 0, _ => exact ⟨d2 0, d2 1, d2 2, d2 3, d2 4, d2 5, d2 6, d2 7⟩
    | 1, _ => exact ⟨d2 8, d2 9, d2 10, d2 11, d2 12, d2 13, d2 14, d2 15⟩
    | 2, _ => exact ⟨d2 16, d2 17, d2 18, d2 19, d2 20, d2 21, d2 22, d2 23⟩

theorem knownBest (sv nv : Value) (w : World) (hs : SeasonAt w sv exS) (hn : IntsAt w nv exN) :
    Calls Try.prog 17 #[sv, nv] w fun e w' => ∃ v, e = .returned (.tuple #[v, .int .i64 (-30), .int .i64 0]) ∧ IntsAt w' v [3, 2, -4] ∧ Below w.heap.size w w' := by
  refine (progBestYes sv nv exS exN w hs hn ex_valid ex_noms).mono ?_
  rintro e w' ⟨v, he, ho, hb⟩
  rw [ex_best] at he ho
  exact ⟨v, he, ho.at, hb⟩

theorem knownProof (sv nv : Value) (w : World) (hs : SeasonAt w sv exS) (hn : IntsAt w nv exN) :
    Calls Try.prog 18 #[sv, nv] w fun e w' => ∃ b cap rv, e = .returned (.tuple #[.slice (some ⟨b, 0, none⟩) 4 cap, .int .i64 0]) ∧ w'.cell? ⟨b, 2, none⟩ = some rv ∧ IntsAt w' rv exRow ∧ Below w.heap.size w w' := by
  refine (progProofYes sv nv exS exN w hs hn ex_valid ex_noms).mono ?_
  rintro e w' ⟨b, vs, cap, he, hM, hb⟩
  have hl : (exS.proof exN).length = 4 := proof_len _ _
  have h1 := (hM.own 2 (by rw [hl]; decide)).at
  rw [ex_row] at h1
  exact ⟨b, cap, _, he, (row_len hM (i := 2) (by rw [hl]; decide)).1, h1, hb⟩

theorem knownSafe (sv : Value) (w : World) (hs : SeasonAt w sv exS) :
    Calls Try.prog 25 #[sv] w fun e w' => ∃ v, e = .returned (.tuple #[v, .int .i64 0]) ∧ SpanListsAt w' v exSafe ∧ Below w.heap.size w w' := by
  refine (progSafe sv exS w hs ex_valid).mono ?_
  rintro e w' ⟨v, he, ho, hb⟩
  rw [ex_safe] at ho
  exact ⟨v, he, ho.at, hb⟩

theorem knownWorst (sv : Value) (w : World) (hs : SeasonAt w sv exS) :
    Calls Try.prog 28 #[sv, .int .i64 0, .int .i64 4] w fun e w' => e = .returned (.tuple #[.int .i64 (-1), .int .i64 15, .int .i64 0]) ∧ Below w.heap.size w w' := by
  refine (progWorstErr sv exS 0 4 w hs).mono ?_
  rintro e w' ⟨he, hb⟩
  rw [ex_worst] at he
  exact ⟨he, hb⟩
theorem knownAdvise (sv : Value) (w : World) (hs : SeasonAt w sv exS) :
    Calls Try.prog 29 #[sv, .int .i64 0, .int .i64 4, .int .i64 1] w fun e w' => e = .returned (.tuple #[.int .i64 3, .int .i64 (-30), .int .i64 0]) ∧ Below w.heap.size w w' := by
  refine (progAdviseErr sv exS 0 4 1 w hs).mono ?_
  rintro e w' ⟨he, hb⟩
  rw [ex_advise] at he
  exact ⟨he, hb⟩
theorem knownSame (av bv : Value) (l : List Int) (w : World) (ha : IntsAt w av l) (hb : IntsAt w bv l) :
    Calls Try.prog 24 #[av, bv] w fun e w' => e = .returned (.bool true) ∧ Below w.heap.size w w' := by
  refine (refSame av bv l l w ha hb).mono ?_
  rintro e w' ⟨he, hb⟩
  exact ⟨by simpa using he, hb⟩
theorem knownSpans (av bv : Value) (l : List (List Sea.Span)) (w : World) (ha : SpanListsAt w av l) (hb : SpanListsAt w bv l) :
    Calls Try.prog 26 #[av, bv] w fun e w' => e = .returned (.bool true) ∧ Below w.heap.size w w' := by
  refine (refSameSpans av bv l l w ha hb).mono ?_
  rintro e w' ⟨he, hb⟩
  exact ⟨by simpa using he, hb⟩
end Go.Proofs.Ytacajmpggjgaiaa
namespace Go.Proofs.Ytacajmpggjgaiaa
open Go.RowKit Go.Sd

theorem ints_new {w : World} {n : Nat} {t : TypeId} (l : List Int) (hn : n = w.heap.size) (cap : Nat) (hl : l.length ≤ 1000) : IntsAt (w.alloc (.cells (l.map (Value.int .i64)).toArray t)) (.slice (some ⟨n, 0, none⟩) l.length cap) l := by
  subst hn; exact ints_at (World.alloc_heap_new _ _) cap hl

theorem span_one {w : World} {n : Nat} {x : Sea.Span} {t : TypeId} (h : w.heap[n]? = some (.cells #[.int .i64 x.lo, .int .i64 x.hi] t)) : SpansAt w (.slice (some ⟨n, 0, none⟩) 1 1) [x] := by
  refine ⟨_, 1, rfl, by unfold maxLen; simp, fun _ => ⟨n, 0, rfl, (Array.getElem?_eq_some_iff.1 h).1, fun k hk => ?_⟩⟩
  have hk : k < 1 := hk
  obtain rfl : k = 0 := by omega
  exact ⟨(row_cells h).2.1 0, (row_cells h).2.1 1⟩

theorem spans_lit {w X : World} {a b c d : Sea.Span} (h : ((((w.alloc (.cells #[.int .i64 a.lo, .int .i64 a.hi] 23)).alloc (.cells #[.int .i64 b.lo, .int .i64 b.hi] 23)).alloc (.cells #[.int .i64 c.lo, .int .i64 c.hi] 23)).alloc (.cells #[.int .i64 d.lo, .int .i64 d.hi] 23)).alloc
      (.cells #[.slice (some ⟨w.heap.size, 0, none⟩) 1 1, .slice (some ⟨w.heap.size + 1, 0, none⟩) 1 1, .slice (some ⟨w.heap.size + 1 + 1, 0, none⟩) 1 1, .slice (some ⟨w.heap.size + 1 + 1 + 1, 0, none⟩) 1 1] 60) = X) :
    SpanListsAt X (.slice (some ⟨w.heap.size + 1 + 1 + 1 + 1, 0, none⟩) 4 4) [[a], [b], [c], [d]] := by
  obtain ⟨X4, hX4⟩ : ∃ X4, (((w.alloc (.cells #[.int .i64 a.lo, .int .i64 a.hi] 23)).alloc (.cells #[.int .i64 b.lo, .int .i64 b.hi] 23)).alloc (.cells #[.int .i64 c.lo, .int .i64 c.hi] 23)).alloc (.cells #[.int .i64 d.lo, .int .i64 d.hi] 23) = X4 := ⟨_, rfl⟩
  obtain ⟨n1, n2, n3, n4, hsz, -⟩ := four_new hX4
  rw [hX4] at h
  have hB : Below X4.heap.size X4 X := by rw [← h]; exact (Below.refl _ _).alloc (Nat.le_refl _) _
  have e5 : X.heap[X4.heap.size]? = some (.cells #[.slice (some ⟨w.heap.size, 0, none⟩) 1 1, .slice (some ⟨w.heap.size + 1, 0, none⟩) 1 1, .slice (some ⟨w.heap.size + 1 + 1, 0, none⟩) 1 1, .slice (some ⟨w.heap.size + 1 + 1 + 1, 0, none⟩) 1 1] 60) := by rw [← h]; exact World.alloc_heap_new _ _
  rw [hsz] at e5
  have m1 := block_on hB n1
  have m2 := block_on hB n2
  have m3 := block_on hB n3
  have m4 := block_on hB n4
  obtain ⟨z, dd, -⟩ := row_cells e5
  refine ⟨_, 4, rfl, by unfold maxLen; simp, fun _ => ⟨_, 0, rfl, z, fun k hk => ?_⟩⟩
  have hk : k < 4 := hk
  match k, hk with
  | 0, _ => exact ⟨_, dd 0, span_one m1⟩
  | 1, _ => exact ⟨_, dd 1, span_one m2⟩
  | 2, _ => exact ⟨_, dd 2, span_one m3⟩
  | 3, _ => exact ⟨_, dd 3, span_one m4⟩

set_option maxRecDepth 100000 in
set_option maxHeartbeats 4000000 in
theorem progKnown (w : World) : Calls Try.prog 16 #[] w fun e w' => e = .returned (.bool true) ∧ Below w.heap.size w w' := by
  have hB : Below w.heap.size w (w.alloc (.cells #[.int .i64 0, .int .i64 (-1), .int .i64 0] 3)) := below_al (Below.refl _ _) _
  have hn : IntsAt (w.alloc (.cells #[.int .i64 0, .int .i64 (-1), .int .i64 0] 3)) (.slice (some ⟨w.heap.size, 0, none⟩) 3 3) exN := ints_new exN rfl 3 (by decide)
  go_enter Try.func16, Try.ntmps16
  go_wp2_with (first
    | (go_at_call 50; refine (progExample _).mono ?_; rintro e wA ⟨sv, rfl, hsv, hbA⟩; replace hB := below_tr hB hbA; replace hn := hn.mono hbA; (try replace hp := IntsAt.mono hp hbA); (try replace hvc := kept_cell hbA hvc); (try replace hvr := IntsAt.mono hvr hbA); (try replace hsl := SpanListsAt.mono hsl hbA))
    | (go_at_call 17; refine (knownBest _ _ _ hsv hn).mono ?_; rintro e wA ⟨pv, rfl, hp, hbA⟩; replace hB := below_tr hB hbA; replace hn := hn.mono hbA)
    | (go_at_call 18; refine (knownProof _ _ _ hsv hn).mono ?_; rintro e wA ⟨vb, vcap, rv, rfl, hvc, hvr, hbA⟩; replace hB := below_tr hB hbA; replace hn := hn.mono hbA; replace hp := IntsAt.mono hp hbA)
    | (go_at_call 25; refine (knownSafe _ _ hsv).mono ?_; rintro e wA ⟨lv, rfl, hsl, hbA⟩; replace hB := below_tr hB hbA; replace hn := hn.mono hbA; replace hp := IntsAt.mono hp hbA; replace hvc := kept_cell hbA hvc; replace hvr := IntsAt.mono hvr hbA)
    | (go_at_call 28; refine (knownWorst _ _ hsv).mono ?_; rintro e wA ⟨rfl, hbA⟩; replace hB := below_tr hB hbA; replace hn := hn.mono hbA; replace hp := IntsAt.mono hp hbA; replace hvc := kept_cell hbA hvc; replace hvr := IntsAt.mono hvr hbA; replace hsl := SpanListsAt.mono hsl hbA)
    | (go_at_call 29; refine (knownAdvise _ _ hsv).mono ?_; rintro e wA ⟨rfl, hbA⟩; replace hB := below_tr hB hbA; replace hn := hn.mono hbA; replace hp := IntsAt.mono hp hbA; replace hvc := kept_cell hbA hvc; replace hvr := IntsAt.mono hvr hbA; replace hsl := SpanListsAt.mono hsl hbA; clear hsv))
  have hX := spans_lit (w := wA) (a := ⟨0, 10⟩) (b := ⟨2, 10⟩) (c := ⟨3, 10⟩) (d := ⟨4, 6⟩) rfl
  have hB5 : Below wA.heap.size wA (((((wA.alloc (.cells #[.int .i64 0, .int .i64 10] 23)).alloc (.cells #[.int .i64 2, .int .i64 10] 23)).alloc (.cells #[.int .i64 3, .int .i64 10] 23)).alloc (.cells #[.int .i64 4, .int .i64 6] 23)).alloc
      (.cells #[.slice (some ⟨wA.heap.size, 0, none⟩) 1 1, .slice (some ⟨wA.heap.size + 1, 0, none⟩) 1 1, .slice (some ⟨wA.heap.size + 1 + 1, 0, none⟩) 1 1, .slice (some ⟨wA.heap.size + 1 + 1 + 1, 0, none⟩) 1 1] 60)) := below_al (below_al (below_al (below_al (below_al (Below.refl _ _) _) _) _) _) _
  simp only at hX
  have hz : wA.heap.size + 1 + 1 + 1 + 1 + 1 = (((((wA.alloc (.cells #[.int .i64 0, .int .i64 10] 23)).alloc (.cells #[.int .i64 2, .int .i64 10] 23)).alloc (.cells #[.int .i64 3, .int .i64 10] 23)).alloc (.cells #[.int .i64 4, .int .i64 6] 23)).alloc
      (.cells #[.slice (some ⟨wA.heap.size, 0, none⟩) 1 1, .slice (some ⟨wA.heap.size + 1, 0, none⟩) 1 1, .slice (some ⟨wA.heap.size + 1 + 1, 0, none⟩) 1 1, .slice (some ⟨wA.heap.size + 1 + 1 + 1, 0, none⟩) 1 1] 60)).heap.size := by simp only [World.size_alloc]
  generalize ((((wA.alloc (.cells #[.int .i64 0, .int .i64 10] 23)).alloc (.cells #[.int .i64 2, .int .i64 10] 23)).alloc (.cells #[.int .i64 3, .int .i64 10] 23)).alloc (.cells #[.int .i64 4, .int .i64 6] 23)).alloc
      (.cells #[.slice (some ⟨wA.heap.size, 0, none⟩) 1 1, .slice (some ⟨wA.heap.size + 1, 0, none⟩) 1 1, .slice (some ⟨wA.heap.size + 1 + 1, 0, none⟩) 1 1, .slice (some ⟨wA.heap.size + 1 + 1 + 1, 0, none⟩) 1 1] 60) = X at *
  have hBX := below_tr hB hB5
  have hX1 : Below X.heap.size X (X.alloc (.cells #[.int .i64 3, .int .i64 2, .int .i64 (-4)] 3)) := below_al (Below.refl _ _) _
  refine (knownSame _ _ [3, 2, -4] _ ((hp.mono hB5).mono hX1) (ints_new [3, 2, -4] hz 3 (by decide))).mono ?_
  rintro e w1 ⟨rfl, hb1⟩
  have hX2 : Below X.heap.size X w1 := below_tr hX1 hb1
  replace hvc := kept_cell hX2 (kept_cell hB5 hvc)
  replace hvr := (hvr.mono hB5).mono hX2
  replace hsl := (hsl.mono hB5).mono hX2
  replace hX := hX.mono hX2
  have hBw1 := below_tr hBX hX2
  clear hz hB5 hp hn hB hbA hBX hX1 hX2 hsv hb1
  go_wp2_with (first
    | (go_at_call 24; refine (knownSame _ _ exRow _ (IntsAt.mono hvr ((Below.refl _ _).alloc (Nat.le_refl _) _)) (ints_new exRow rfl 11 (by decide))).mono ?_; rintro e w2 ⟨rfl, hb2⟩)
    | (go_at_call 26; refine (knownSpans _ _ exSafe _ ((hsl.mono ((Below.refl _ _).alloc (Nat.le_refl _) _)).mono hb2) ((hX.mono ((Below.refl _ _).alloc (Nat.le_refl _) _)).mono hb2)).mono ?_; rintro e w3 ⟨rfl, hb3⟩))
  go_ret
  exact ⟨rfl, below_tr (below_tr (below_al hBw1 _) hb2) hb3⟩
end Go.Proofs.Ytacajmpggjgaiaa
