/- Walks: what a plan does (the program). -/
import Derived.Test.YtacajmpggjgaiaaQ2
import Derived.Test.YtacajmpggjgaiaaPly
import Derived.Test.YtacajmpggjgaiaaV5
set_option linter.unusedVariables false
set_option linter.unusedSimpArgs false
namespace Go.Proofs.Ytacajmpggjgaiaa
open Go.RowKit Go.Sd

theorem progPlay1 (d : Int) (w : World) : Calls Try.prog 75 #[.int .i64 d] w fun e w' => e = .returned (.bool (!Sea.inB d (-100) 100)) ∧ Below w.heap.size w w' := by
  cases ht : Sea.inB d (-100) 100
  all_goals
    replace ht := Lib.hid ht
    go_enter Try.func75, Try.ntmps75
    go_wp2_with (go_at_call 68; refine (progInT ht.out _).mono ?_; rintro e w' ⟨rfl, rfl⟩)
    go_ret
    exact ⟨rfl, Below.refl _ _⟩
theorem enter_play1 : ∀ (args : Array Value) (w : World), (callFunc 75 args).run Try.prog w = .ok (.enter 75 args) w := fun _ _ => by kernel_rfl

theorem planAny (s : Sea.S) (plan : List Int) : planB s plan = (!(plan.any fun d => !Sea.inB d (-100) 100) && decide (plan.length = s.days.length)) := by
  unfold planB
  congr 1
  rw [Bool.eq_iff_iff]
  simp only [List.all_eq_true, List.mem_range, Bool.not_eq_true', List.any_eq_false]
  constructor
  · intro h x hx
    obtain ⟨i, hi, rfl⟩ := List.getElem_of_mem hx
    have := h i hi
    rw [at0_eq hi] at this
    simp [this]
  · intro h i hi
    have := h _ (List.getElem_mem hi)
    rw [at0_eq hi]
    simpa using this

set_option maxRecDepth 100000 in
set_option maxHeartbeats 8000000 in
theorem progPlayNo (sv nv pv : Value) (s : Sea.S) (noms plan : List Int) (w : World) (hs : SeasonAt w sv s) (hn : IntsAt w nv noms) (hp : IntsAt w pv plan) (hbad : Sea.validB s = false ∨ s.nomsB noms = false ∨ planB s plan = false) :
    Calls Try.prog 45 #[sv, nv, pv] w fun e w' => e = .returned (.tuple #[.slice none 0 0, .int .i64 0, .agg #[.int .i64 0, .int .i64 0], .int .i64 2]) ∧ Below w.heap.size w w' := by
  have hs' := hs
  obtain ⟨rv, dv, rfl, hr, hd⟩ := hs'
  obtain ⟨W, hW⟩ : ∃ W, w.alloc (sBox s rv dv) = W := ⟨_, rfl⟩
  obtain ⟨hsz, hBw, q0, q1, q2, q3, q4, q5⟩ := box_season hW
  obtain ⟨X, hX⟩ : ∃ X, W.alloc (.cells #[.int .i64 0, .int .i64 0] 74) = X := ⟨_, rfl⟩
  have hBX : Below W.heap.size W X := by rw [← hX]; exact (Below.refl _ _).alloc (Nat.le_refl _) _
  have hnew := World.alloc_heap_new W (.cells #[.int .i64 0, .int .i64 0] 74)
  rw [hX] at hnew
  obtain ⟨hWX, d0, f0⟩ := row_cells hnew
  have d0a := d0 0
  have d0b := d0 1
  have f0a := f0 0
  have f0b := f0 1
  simp only [List.getElem?_toArray, List.getElem?_cons_zero, List.getElem?_cons_succ] at d0a d0b
  clear d0 f0 hnew
  have p0 := kept_cell hBX q0
  have p1 := kept_cell hBX q1
  have p2 := kept_cell hBX q2
  have p3 := kept_cell hBX q3
  have p4 := kept_cell hBX q4
  have p5 := kept_cell hBX q5
  have hwX : Below w.heap.size w X := hBw.trans (hBX.mono (Nat.le_of_lt hsz))
  have hwXs : w.heap.size < X.heap.size := Nat.lt_trans hsz hWX
  have hg := grow_cell X
  have hgf := grow_frozen X
  cases ht : Sea.validB s
  · have hv : Hid (Calls Try.prog 51 #[.agg #[.int .i64 s.space, .int .i64 s.start, .int .i64 s.elo, .int .i64 s.ehi, rv, dv]] X fun e w' => e = .returned (.bool false) ∧ Below X.heap.size X w') := progValidT X (hs.mono hwX) ht
    replace ht := Lib.hid ht
    clear hs hbad
    go_enter Try.func45, Try.ntmps45
    go_wp2_with (first | (go_at_call 51; refine Calls.mono hv.out ?_; rintro e w' ⟨rfl, hb1⟩; obtain ⟨g1, rfl⟩ : ∃ g1 : Grow X, w' = g1.x := ⟨⟨w', hb1⟩, rfl⟩))
    have n0 := g1.cell d0a
    have n1 := g1.cell d0b
    have n2 := (hgf g1 _ _ hWX).trans f0a
    have n3 := (hgf g1 _ _ hWX).trans f0b
    go_wp2_with (fail)
    refine bodyPost_ret (v := .tuple #[.slice none 0 0, .int .i64 0, .agg #[.int .i64 0, .int .i64 0], .int .i64 2]) (by simp [results, Try.results45, go_sem, n0, n1, n2, n3]) rfl ⟨rfl, ?_⟩
    exact ((hwX.trans (g1.h.mono hwX.size)).setCell (by show _ ≤ W.heap.size; omega) _).setCell (by show _ ≤ W.heap.size; omega) _
  · have hv : Hid (Calls Try.prog 51 #[.agg #[.int .i64 s.space, .int .i64 s.start, .int .i64 s.elo, .int .i64 s.ehi, rv, dv]] X fun e w' => e = .returned (.bool true) ∧ Below X.heap.size X w') := progValidT X (hs.mono hwX) ht
    cases hno : s.nomsB noms
    · have hnn : Hid (∀ g : Grow X, Calls Try.prog 52 #[.agg #[.int .i64 s.space, .int .i64 s.start, .int .i64 s.elo, .int .i64 s.ehi, rv, dv], nv] g.x fun e w' => e = .returned (.bool false) ∧ Below g.x.heap.size g.x w') := fun g => progNominatedT g.x ((hs.mono hwX).mono g.h) ((hn.mono hwX).mono g.h) hno
      replace ht := Lib.hid ht
      replace hno := Lib.hid hno
      clear hs hbad
      go_enter Try.func45, Try.ntmps45
      go_wp2_with (first | (go_at_call 51; refine Calls.mono hv.out ?_; rintro e w' ⟨rfl, hb1⟩; obtain ⟨g1, rfl⟩ : ∃ g1 : Grow X, w' = g1.x := ⟨⟨w', hb1⟩, rfl⟩) | (go_at_call 52; refine Calls.mono (hnn.out g1) ?_; rintro e w' ⟨rfl, hb2⟩; obtain ⟨g2, rfl⟩ := g1.next hb2))
      have n0 := g2.cell d0a
      have n1 := g2.cell d0b
      have n2 := (hgf g2 _ _ hWX).trans f0a
      have n3 := (hgf g2 _ _ hWX).trans f0b
      go_wp2_with (fail)
      refine bodyPost_ret (v := .tuple #[.slice none 0 0, .int .i64 0, .agg #[.int .i64 0, .int .i64 0], .int .i64 2]) (by simp [results, Try.results45, go_sem, n0, n1, n2, n3]) rfl ⟨rfl, ?_⟩
      exact ((hwX.trans (g2.h.mono hwX.size)).setCell (by show _ ≤ W.heap.size; omega) _).setCell (by show _ ≤ W.heap.size; omega) _
    · have hnn : Hid (∀ g : Grow X, Calls Try.prog 52 #[.agg #[.int .i64 s.space, .int .i64 s.start, .int .i64 s.elo, .int .i64 s.ehi, rv, dv], nv] g.x fun e w' => e = .returned (.bool true) ∧ Below g.x.heap.size g.x w') := fun g => progNominatedT g.x ((hs.mono hwX).mono g.h) ((hn.mono hwX).mono g.h) hno
      have hpn : planB s plan = false := by rcases hbad with h | h | h; (rw [ht] at h; cases h); (rw [hno] at h; cases h); exact h
      rw [planAny] at hpn
      obtain ⟨pa, pcap, rfl, hpm, -⟩ := id hp
      obtain ⟨da, dcap, rfl, hdm, -⟩ := hd
      unfold maxLen at hpm hdm
      replace ht := Lib.hid ht
      replace hno := Lib.hid hno
      by_cases hl : plan.length = s.days.length
      · have hany : (plan.any fun d => !Sea.inB d (-100) 100) = true := by simpa [hl] using hpn
        have hcc : Hid (∀ g : Grow X, Calls Try.prog 74 #[.slice pa plan.length pcap, .func (.func 75) #[] #[]] g.x fun e w' => e = .returned (.bool true) ∧ Below g.x.heap.size g.x w') := fun g => by rw [← hany]; exact containsInts _ plan _ _ _ g.x ((hp.mono hwX).mono g.h) enter_play1 fun d X' hX' => progPlay1 d X'
        have hle : ((plan.length : Int) != (s.days.length : Int)) = false := by rw [hl]; simp
        replace hany := Lib.hid hany
        replace hpn := Lib.hid hpn
        replace hl := Lib.hid hl
        clear hs hbad hp
        go_enter Try.func45, Try.ntmps45
        go_wp2_with (first | (go_at_call 51; refine Calls.mono hv.out ?_; rintro e w' ⟨rfl, hb1⟩; obtain ⟨g1, rfl⟩ : ∃ g1 : Grow X, w' = g1.x := ⟨⟨w', hb1⟩, rfl⟩) | (go_at_call 52; refine Calls.mono (hnn.out g1) ?_; rintro e w' ⟨rfl, hb2⟩; obtain ⟨g2, rfl⟩ := g1.next hb2) | (go_at_call 74; refine Calls.mono (hcc.out g2) ?_; rintro e w' ⟨rfl, hb3⟩; obtain ⟨g3, rfl⟩ := g2.next hb3))
        have n0 := g3.cell d0a
        have n1 := g3.cell d0b
        have n2 := (hgf g3 _ _ hWX).trans f0a
        have n3 := (hgf g3 _ _ hWX).trans f0b
        go_wp2_with (fail)
        refine bodyPost_ret (v := .tuple #[.slice none 0 0, .int .i64 0, .agg #[.int .i64 0, .int .i64 0], .int .i64 2]) (by simp [results, Try.results45, go_sem, n0, n1, n2, n3]) rfl ⟨rfl, ?_⟩
        exact ((hwX.trans (g3.h.mono hwX.size)).setCell (by show _ ≤ W.heap.size; omega) _).setCell (by show _ ≤ W.heap.size; omega) _
      · have hle : ((plan.length : Int) != (s.days.length : Int)) = true := by simp; omega
        replace hpn := Lib.hid hpn
        replace hl := Lib.hid hl
        clear hs hbad hp
        go_enter Try.func45, Try.ntmps45
        go_wp2_with (first | (go_at_call 51; refine Calls.mono hv.out ?_; rintro e w' ⟨rfl, hb1⟩; obtain ⟨g1, rfl⟩ : ∃ g1 : Grow X, w' = g1.x := ⟨⟨w', hb1⟩, rfl⟩) | (go_at_call 52; refine Calls.mono (hnn.out g1) ?_; rintro e w' ⟨rfl, hb2⟩; obtain ⟨g2, rfl⟩ := g1.next hb2))
        have n0 := g2.cell d0a
        have n1 := g2.cell d0b
        have n2 := (hgf g2 _ _ hWX).trans f0a
        have n3 := (hgf g2 _ _ hWX).trans f0b
        go_wp2_with (fail)
        refine bodyPost_ret (v := .tuple #[.slice none 0 0, .int .i64 0, .agg #[.int .i64 0, .int .i64 0], .int .i64 2]) (by simp [results, Try.results45, go_sem, n0, n1, n2, n3]) rfl ⟨rfl, ?_⟩
        exact ((hwX.trans (g2.h.mono hwX.size)).setCell (by show _ ≤ W.heap.size; omega) _).setCell (by show _ ≤ W.heap.size; omega) _
end Go.Proofs.Ytacajmpggjgaiaa
