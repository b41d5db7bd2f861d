/- Walks: whether lists are values (the program). -/
import Derived.Test.YtacajmpggjgaiaaV4
import Derived.Test.YtacajmpggjgaiaaR10
set_option linter.unusedVariables false
set_option linter.unusedSimpArgs false
namespace Go.Proofs.Ytacajmpggjgaiaa
open Go.RowKit Go.Sd

theorem lstAt_eq {l : List (List Int)} {j : Nat} (h : j < l.length) : Sea.lstAt l j = l[j] := by simp [Sea.lstAt, h]
theorem all_not_any {l : List Int} {p : Int → Bool} : ((List.range l.length).all fun k => p (Sea.at0 l k)) = !(l.any fun n => !p n) := by
  rw [Bool.eq_iff_iff]
  simp only [List.all_eq_true, List.mem_range, Bool.not_eq_true', List.any_eq_false]
  constructor
  · intro h x hx
    obtain ⟨i, hi, rfl⟩ := List.getElem_of_mem hx
    have := h i hi
    rw [at0_eq hi] at this
    simp [this]
  · intro h i hi
    have := h _ (List.getElem_mem hi)
    rw [at0_eq hi]
    simpa using this
theorem all_not_any2 {l : List (List Int)} {p : List Int → Bool} : ((List.range l.length).all fun k => p (Sea.lstAt l k)) = !(l.any fun n => !p n) := by
  rw [Bool.eq_iff_iff]
  simp only [List.all_eq_true, List.mem_range, Bool.not_eq_true', List.any_eq_false]
  constructor
  · intro h x hx
    obtain ⟨i, hi, rfl⟩ := List.getElem_of_mem hx
    have := h i hi
    rw [lstAt_eq hi] at this
    simp [this]
  · intro h i hi
    have := h _ (List.getElem_mem hi)
    rw [lstAt_eq hi]
    simpa using this

set_option maxRecDepth 100000 in
set_option maxHeartbeats 2000000 in
theorem indexLists (v : Value) (l : List (List Int)) (p : List Int → Bool) (nf : Nat) (nb : Array Value) (w : World) (hv : ListsAt w v l) (en : ∀ args w, (callFunc nf args).run Try.prog w = .ok (.enter nf args) w)
    (hp : ∀ ev x X, Below w.heap.size w X → IntsAt X ev x → Calls Try.prog nf (#[ev] ++ nb) X fun e X' => e = .returned (.bool (p x)) ∧ Below X.heap.size X X') :
    Calls Try.prog 94 #[v, .func (.func nf) #[] nb] w (Found (l.any p) w) := by
  obtain ⟨a, cap, rfl, hm, hc⟩ := hv
  unfold maxLen at hm
  replace hp := Lib.hid hp
  go_enter Try.func94, Try.ntmps94
  go_wp2_with (fail)
  have hg := grow_cell w
  go_loopw [8] (fun i wr => ∃ k : Nat, k ≤ l.length ∧ i = .int .i64 k ∧ Hid (∀ j (hj : j < l.length), j < k → p l[j] = false) ∧ ∃ g : Grow w, wr = g.x) (fun i _ => l.length - (intOf i).toNat)
  case atStart => exact ⟨0, by omega, rfl, (fun j _ h => by omega : ∀ j (hj : j < l.length), j < 0 → p l[j] = false), Grow.self w, rfl⟩
  case round =>
    obtain ⟨k, hk, rfl, hH, g, rfl⟩ := hrel
    by_cases hlt : k < l.length
    · obtain ⟨b, off, rfl, hbl, hcell⟩ := hc (by omega)
      obtain ⟨ev, c0, hev⟩ := hcell k hlt
      have hki : (0 : Int) ≤ (k : Int) ∧ (k : Int) < l.length := by omega
      rw [lstAt_eq hlt] at hev
      have hcall := hp.out ev l[k] g.x g.h (hev.mono g.h)
      clear hcell hc hev
      cases ht : p l[k]
      · rw [ht] at hcall
        have hH' : Hid (∀ j (hj : j < l.length), j < k + 1 → p l[j] = false) := fun j hj hjk => by
          rcases Nat.lt_succ_iff_lt_or_eq.1 hjk with h | rfl
          · exact hH.out j hj h
          · exact ht
        replace ht := Lib.hid ht
        replace hcall := Lib.hid hcall
        go_wp2_with ((with_reducible refine Calls.mono hcall.out ?_); rintro e w' ⟨rfl, hb'⟩; obtain ⟨g1, rfl⟩ := g.next hb')
        exact ⟨⟨k + 1, by omega, by go_num, hH', g1, rfl⟩, by simp [intOf]; omega⟩
      · rw [ht] at hcall
        have hany := Lib.hid (any_some hlt ht)
        replace ht := Lib.hid ht
        replace hcall := Lib.hid hcall
        go_wp2_with ((with_reducible refine Calls.mono hcall.out ?_); rintro e w' ⟨rfl, hb'⟩; obtain ⟨g1, rfl⟩ := g.next hb')
        go_ret
        exact ⟨k, rfl, ⟨fun _ => by omega, fun _ => hany.out⟩, g1.h⟩
    · have hany := Lib.hid (any_none fun j hj => hH.out j hj (by omega))
      go_wp2_with (fail)
      go_ret
      exact ⟨-1, rfl, ⟨(fun h => by rw [hany.out] at h; cases h), (fun h => by omega)⟩, g.h⟩

theorem containsLists (v : Value) (l : List (List Int)) (p : List Int → Bool) (nf : Nat) (nb : Array Value) (w : World) (hv : ListsAt w v l) (en : ∀ args w, (callFunc nf args).run Try.prog w = .ok (.enter nf args) w)
    (hp : ∀ ev x X, Below w.heap.size w X → IntsAt X ev x → Calls Try.prog nf (#[ev] ++ nb) X fun e X' => e = .returned (.bool (p x)) ∧ Below X.heap.size X X') :
    Calls Try.prog 86 #[v, .func (.func nf) #[] nb] w fun e w' => e = .returned (.bool (l.any p)) ∧ Below w.heap.size w w' := by
  have hc := Lib.hid (indexLists v l p nf nb w hv en hp)
  clear hp
  cases ht : l.any p
  all_goals
    replace ht := Lib.hid ht
    go_enter Try.func86, Try.ntmps86
    go_wp2_with (go_at_call 94; refine Calls.mono hc.out ?_; rintro e w' ⟨n, rfl, hn, hb⟩; rw [ht.out] at hn; have hn' : Hid (_ ↔ (0 : Int) ≤ n) := hn; clear hn)
    go_ret
    refine ⟨bool_ret ?_, hb⟩
    have := hn'.out
    simp at this
    simp [this]

/-- A number that is no value. -/
def badV (n : Int) : Bool := !Sea.inB n (-1000000000000000) 1000000000000000
theorem progValues2 (d : Int) (w : World) : Calls Try.prog 88 #[.int .i64 d] w fun e w' => e = .returned (.bool (badV d)) ∧ Below w.heap.size w w' := by
  unfold badV
  cases ht : Sea.inB d (-1000000000000000) 1000000000000000
  all_goals
    replace ht := Lib.hid ht
    go_enter Try.func88, Try.ntmps88
    go_wp2_with (go_at_call 68; refine (progInT ht.out _).mono ?_; rintro e w' ⟨rfl, rfl⟩)
    go_ret
    exact ⟨rfl, Below.refl _ _⟩
theorem enter_values2 : ∀ (args : Array Value) (w : World), (callFunc 88 args).run Try.prog w = .ok (.enter 88 args) w := fun _ _ => by kernel_rfl
theorem enter_values1 : ∀ (args : Array Value) (w : World), (callFunc 87 args).run Try.prog w = .ok (.enter 87 args) w := fun _ _ => by kernel_rfl

theorem rowOk_any (s : Sea.S) (x : List Int) : rowOkB s x = (decide ((x.length : Int) = s.space + 1) && !(x.any badV)) := by
  unfold rowOkB; rw [all_not_any (p := fun n => Sea.inB n (-1000000000000000) 1000000000000000)]; rfl

set_option maxRecDepth 100000 in
set_option maxHeartbeats 2000000 in
theorem progValues1 (s : Sea.S) (ev : Value) (x : List Int) (b : Nat) (w : World) (c0 : w.cell? ⟨b, 0, none⟩ = some (.int .i64 s.space)) (hx : IntsAt w ev x) (hsp : 1 ≤ s.space ∧ s.space ≤ 100) :
    Calls Try.prog 87 #[ev, .pointer (some ⟨b, 0, none⟩)] w fun e w' => e = .returned (.bool (!rowOkB s x)) ∧ Below w.heap.size w w' := by
  have hc := Lib.hid (containsInts ev x badV 88 #[] w hx enter_values2 fun d X _ => progValues2 d X)
  obtain ⟨a, cap, rfl, hm, -⟩ := hx
  unfold maxLen at hm
  by_cases hl : (x.length : Int) = s.space + 1
  · have hle : ((x.length : Int) != s.space + 1) = false := by simpa using hl
    have hr : Hid (rowOkB s x = !(x.any badV)) := by show _ = _; rw [rowOk_any, decide_eq_true hl, Bool.true_and]
    generalize x.any badV = t at *
    replace hl := Lib.hid hl
    go_enter Try.func87, Try.ntmps87
    go_wp2_with (go_at_call 74; refine Calls.mono hc.out ?_; rintro e w' ⟨rfl, hb⟩)
    go_ret
    exact ⟨bool_ret (by rw [hr.out]; simp), hb⟩
  · have hle : ((x.length : Int) != s.space + 1) = true := by simpa using hl
    have hr : Hid (rowOkB s x = false) := by show _ = _; rw [rowOk_any, decide_eq_false hl, Bool.false_and]
    replace hl := Lib.hid hl
    go_enter Try.func87, Try.ntmps87
    go_wp2_with (fail)
    go_ret
    exact ⟨bool_ret (by rw [hr.out]; rfl), Below.refl _ _⟩

theorem vals_any (s : Sea.S) (l : List (List Int)) : valsB s l = (decide (l.length = s.days.length + 1) && !(l.any fun x => !rowOkB s x)) := by
  unfold valsB; rw [all_not_any2 (p := fun x => rowOkB s x), Bool.and_comm]

set_option maxRecDepth 100000 in
set_option maxHeartbeats 2000000 in
theorem progValues (sv lv : Value) (s : Sea.S) (l : List (List Int)) (w : World) (hs : SeasonAt w sv s) (hl : ListsAt w lv l) (ok : Sea.Ok s) :
    Calls Try.prog 72 #[sv, lv] w (BoolPost (valsB s l) w) := by
  have hs' := hs
  obtain ⟨rv, dv, rfl, -, ⟨da, dcap, rfl, hdm, -⟩⟩ := hs'
  unfold maxLen at hdm
  have hsp := ok.space
  have hnd := ok.ndays
  obtain ⟨W, hW⟩ : ∃ W, w.alloc (sBox s rv (.slice da s.days.length dcap)) = W := ⟨_, rfl⟩
  obtain ⟨hsz, hBw, q0, q1, q2, q3, q4, q5⟩ := box_season hW
  have hc := Lib.hid (containsLists lv l (fun x => !rowOkB s x) 87 #[.pointer (some ⟨w.heap.size, 0, none⟩)] W (hl.mono hBw) enter_values1 fun ev x X hX hx => progValues1 s ev x w.heap.size X (kept_cell hX q0) hx hsp)
  obtain ⟨a, cap, rfl, hm, -⟩ := hl
  unfold maxLen at hm
  by_cases hl : l.length = s.days.length + 1
  · have hle : ((l.length : Int) == (s.days.length : Int) + 1) = true := by rw [hl]; simp
    have hr : Hid (valsB s l = !(l.any fun x => !rowOkB s x)) := by show _ = _; rw [vals_any, decide_eq_true hl, Bool.true_and]
    generalize (l.any fun x => !rowOkB s x) = t at *
    replace hl := Lib.hid hl
    go_enter Try.func72, Try.ntmps72
    go_wp2_with (go_at_call 86; refine Calls.mono hc.out ?_; rintro e w' ⟨rfl, hb⟩)
    go_ret
    exact BoolPost.of (by rw [hr.out]) (hBw.trans (hb.mono (Nat.le_of_lt hsz)))
  · have hle : ((l.length : Int) == (s.days.length : Int) + 1) = false := beq_eq_false_iff_ne.2 (fun h => hl (by omega))
    have hr : Hid (valsB s l = false) := by show _ = _; rw [vals_any, decide_eq_false hl, Bool.false_and]
    replace hl := Lib.hid hl
    go_enter Try.func72, Try.ntmps72
    go_wp2_with (fail)
    go_ret
    exact BoolPost.of hr.out hBw
end Go.Proofs.Ytacajmpggjgaiaa
