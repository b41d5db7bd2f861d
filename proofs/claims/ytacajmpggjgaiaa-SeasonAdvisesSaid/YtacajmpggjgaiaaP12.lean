/- Walks: the season of the document's examples, and what is known of it. -/
import Derived.Test.YtacajmpggjgaiaaP11
import Derived.Test.YtacajmpggjgaiaaKn
import Derived.Test.YtacajmpggjgaiaaW5
set_option linter.unusedVariables false
set_option linter.unusedSimpArgs false
namespace Go.Proofs.Ytacajmpggjgaiaa
open Go.RowKit Go.Sd

theorem ints_at {w : World} {n : Nat} {l : List Int} {t : TypeId} (h : w.heap[n]? = some (.cells (l.map (Value.int .i64)).toArray t)) (cap : Nat) (hl : l.length ≤ 1000) : IntsAt w (.slice (some ⟨n, 0, none⟩) l.length cap) l := by
  refine ⟨_, cap, rfl, by unfold maxLen; omega, fun _ => ⟨n, 0, rfl, (Array.getElem?_eq_some_iff.1 h).1, fun k hk => ?_⟩⟩
  rw [Nat.zero_add, (row_cells h).2.1 k]
  simp [Sea.at0, hk]

set_option maxRecDepth 100000 in
set_option maxHeartbeats 2000000 in
theorem progExample (w : World) : Calls Try.prog 50 #[] w fun e w' => ∃ v, e = .returned v ∧ SeasonAt w' v exS ∧ Below w.heap.size w w' := by
  go_enter Try.func50, Try.ntmps50
  go_wp2
  generalize hW : ((w.alloc _).alloc _).alloc _ = W
  obtain ⟨n0, n1, n2, -, hB⟩ := three_new hW
  clear hW
  obtain ⟨-, d0, -⟩ := row_cells n0
  obtain ⟨z1, d1, -⟩ := row_cells n1
  obtain ⟨z2, d2, -⟩ := row_cells n2
  have a0 := d0 0
  have a1 := d0 1
  have a2 := d0 2
  have a3 := d0 3
  have a4 := d0 4
  have a5 := d0 5
  simp only [List.getElem?_toArray, List.getElem?_cons_zero, List.getElem?_cons_succ] at a0 a1 a2 a3 a4 a5
  refine bodyPost_ret (v := .agg #[.int .i64 10, .int .i64 4, .int .i64 4, .int .i64 6, .slice (some ⟨w.heap.size + 1, 0, none⟩) 2 2, .slice (some ⟨w.heap.size + 1 + 1, 0, none⟩) 3 3])
    (by simp [results, Try.results50, go_sem, a0, a1, a2, a3, a4, a5]) rfl ⟨_, rfl, ⟨_, _, rfl, ⟨_, 2, rfl, by decide, fun _ => ⟨_, 0, rfl, z1, ?_⟩⟩, ⟨_, 3, rfl, by decide, fun _ => ⟨_, 0, rfl, z2, ?_⟩⟩⟩, hB⟩
  · intro k hk
    have hk : k < 2 := hk
    match k, hk with
    | 0, _ => exact ⟨d1 0, d1 1, d1 2⟩
    | 1, _ => exact ⟨d1 3, d1 4, d1 5⟩
  · intro k hk
    have hk : k < 3 := hk
    match k, hk with
    | 0, _ => exact ⟨d2 0, d2 1, d2 2, d2 3, d2 4, d2 5, d2 6, d2 7⟩
    | 1, _ => exact ⟨d2 8, d2 9, d2 10, d2 11, d2 12, d2 13, d2 14, d2 15⟩
    | 2, _ => exact ⟨d2 16, d2 17, d2 18, d2 19, d2 20, d2 21, d2 22, d2 23⟩

theorem knownBest (sv nv : Value) (w : World) (hs : SeasonAt w sv exS) (hn : IntsAt w nv exN) :
    Calls Try.prog 17 #[sv, nv] w fun e w' => ∃ v, e = .returned (.tuple #[v, .int .i64 (-30), .int .i64 0]) ∧ IntsAt w' v [3, 2, -4] ∧ Below w.heap.size w w' := by
  refine (progBestYes sv nv exS exN w hs hn ex_valid ex_noms).mono ?_
  rintro e w' ⟨v, he, ho, hb⟩
  rw [ex_best] at he ho
  exact ⟨v, he, ho.at, hb⟩

theorem knownProof (sv nv : Value) (w : World) (hs : SeasonAt w sv exS) (hn : IntsAt w nv exN) :
    Calls Try.prog 18 #[sv, nv] w fun e w' => ∃ b cap rv, e = .returned (.tuple #[.slice (some ⟨b, 0, none⟩) 4 cap, .int .i64 0]) ∧ w'.cell? ⟨b, 2, none⟩ = some rv ∧ IntsAt w' rv exRow ∧ Below w.heap.size w w' := by
  refine (progProofYes sv nv exS exN w hs hn ex_valid ex_noms).mono ?_
  rintro e w' ⟨b, vs, cap, he, hM, hb⟩
  have hl : (exS.proof exN).length = 4 := proof_len _ _
  have h1 := (hM.own 2 (by rw [hl]; decide)).at
  rw [ex_row] at h1
  exact ⟨b, cap, _, he, (row_len hM (i := 2) (by rw [hl]; decide)).1, h1, hb⟩

theorem knownSafe (sv : Value) (w : World) (hs : SeasonAt w sv exS) :
    Calls Try.prog 25 #[sv] w fun e w' => ∃ v, e = .returned (.tuple #[v, .int .i64 0]) ∧ SpanListsAt w' v exSafe ∧ Below w.heap.size w w' := by
  refine (progSafe sv exS w hs ex_valid).mono ?_
  rintro e w' ⟨v, he, ho, hb⟩
  rw [ex_safe] at ho
  exact ⟨v, he, ho.at, hb⟩

theorem knownWorst (sv : Value) (w : World) (hs : SeasonAt w sv exS) :
    Calls Try.prog 28 #[sv, .int .i64 0, .int .i64 4] w fun e w' => e = .returned (.tuple #[.int .i64 (-1), .int .i64 15, .int .i64 0]) ∧ Below w.heap.size w w' := by
  refine (progWorstErr sv exS 0 4 w hs).mono ?_
  rintro e w' ⟨he, hb⟩
  rw [ex_worst] at he
  exact ⟨he, hb⟩
theorem knownAdvise (sv : Value) (w : World) (hs : SeasonAt w sv exS) :
    Calls Try.prog 29 #[sv, .int .i64 0, .int .i64 4, .int .i64 1] w fun e w' => e = .returned (.tuple #[.int .i64 3, .int .i64 (-30), .int .i64 0]) ∧ Below w.heap.size w w' := by
  refine (progAdviseErr sv exS 0 4 1 w hs).mono ?_
  rintro e w' ⟨he, hb⟩
  rw [ex_advise] at he
  exact ⟨he, hb⟩
theorem knownSame (av bv : Value) (l : List Int) (w : World) (ha : IntsAt w av l) (hb : IntsAt w bv l) :
    Calls Try.prog 24 #[av, bv] w fun e w' => e = .returned (.bool true) ∧ Below w.heap.size w w' := by
  refine (refSame av bv l l w ha hb).mono ?_
  rintro e w' ⟨he, hb⟩
  exact ⟨by simpa using he, hb⟩
theorem knownSpans (av bv : Value) (l : List (List Sea.Span)) (w : World) (ha : SpanListsAt w av l) (hb : SpanListsAt w bv l) :
    Calls Try.prog 26 #[av, bv] w fun e w' => e = .returned (.bool true) ∧ Below w.heap.size w w' := by
  refine (refSameSpans av bv l l w ha hb).mono ?_
  rintro e w' ⟨he, hb⟩
  exact ⟨by simpa using he, hb⟩
end Go.Proofs.Ytacajmpggjgaiaa
