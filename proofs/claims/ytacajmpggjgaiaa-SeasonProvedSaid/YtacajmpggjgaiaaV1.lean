/- Walks: what is as defined (the program). Walks: whether some element of a list meets a test (slices.ContainsFunc at days and at whole numbers). -/
import Derived.Test.YtacajmpggjgaiaaP8
set_option linter.unusedVariables false
set_option linter.unusedSimpArgs false
namespace Go.Proofs.Ytacajmpggjgaiaa
open Go.RowKit Go.Sd

theorem spanB_false {a b l h : Int} (hn : ¬ (l ≤ a ∧ a ≤ b ∧ b ≤ h)) : Sea.spanB a b l h = false := by
  cases hs : Sea.spanB a b l h
  · rfl
  · exact absurd (Sea.spanB_iff.1 hs) hn

theorem progSpan (lo hi a b : Int) (w : World) :
    Calls Try.prog 80 #[.agg #[.int .i64 lo, .int .i64 hi], .int .i64 a, .int .i64 b] w fun e w' => e = .returned (.bool (Sea.spanB lo hi a b)) ∧ Below w.heap.size w w' := by
  by_cases h1 : a ≤ lo
  · by_cases h2 : lo ≤ hi
    · by_cases h3 : hi ≤ b
      · have hf : Hid (Sea.spanB lo hi a b = true) := Sea.spanB_iff.2 ⟨h1, h2, h3⟩
        go_enter Try.func80, Try.ntmps80
        go_wp2
        go_ret
        exact ⟨bool_ret (by rw [hf.out]), (Below.refl _ _).alloc (Nat.le_refl _) _⟩
      · have hf : Hid (Sea.spanB lo hi a b = false) := spanB_false (by omega)
        have h3' : b < hi := by omega
        go_enter Try.func80, Try.ntmps80
        go_wp2
        go_ret
        exact ⟨bool_ret (by rw [hf.out]), (Below.refl _ _).alloc (Nat.le_refl _) _⟩
    · have hf : Hid (Sea.spanB lo hi a b = false) := spanB_false (by omega)
      have h2' : hi < lo := by omega
      go_enter Try.func80, Try.ntmps80
      go_wp2
      go_ret
      exact ⟨bool_ret hf.out.symm, (Below.refl _ _).alloc (Nat.le_refl _) _⟩
  · have hf : Hid (Sea.spanB lo hi a b = false) := spanB_false (by omega)
    have h1' : lo < a := by omega
    go_enter Try.func80, Try.ntmps80
    go_wp2
    go_ret
    exact ⟨bool_ret hf.out.symm, (Below.refl _ _).alloc (Nat.le_refl _) _⟩

/-- A day as a value. -/
abbrev dayV (d : Sea.Day) : Value := .agg #[.int .i64 d.buy, .int .i64 d.sell, .int .i64 d.offer, .int .i64 d.take, .int .i64 d.glo, .int .i64 d.ghi, .int .i64 d.nlo, .int .i64 d.nhi]
abbrev dayO (d : Sea.Day) : Obj := .cells #[.int .i64 d.buy, .int .i64 d.sell, .int .i64 d.offer, .int .i64 d.take, .int .i64 d.glo, .int .i64 d.ghi, .int .i64 d.nlo, .int .i64 d.nhi] 82

theorem box_day {w W : World} {d : Sea.Day} (h : w.alloc (dayO d) = W) : w.heap.size < W.heap.size ∧ Below w.heap.size w W ∧ DayCells W w.heap.size 0 d := by
  subst h
  refine ⟨by simp, (Below.refl _ _).alloc (Nat.le_refl _) _, ?_, ?_, ?_, ?_, ?_, ?_, ?_, ?_⟩ <;> simp [dayO]

set_option maxRecDepth 100000 in
set_option maxHeartbeats 2000000 in
theorem progDay (space : Int) (d : Sea.Day) (w : World) (b : Nat) (c0 : w.cell? ⟨b, 0, none⟩ = some (.int .i64 space)) :
    Calls Try.prog 79 #[dayV d, .pointer (some ⟨b, 0, none⟩)] w fun e w' => e = .returned (.bool (Sea.dayB space d)) ∧ Below w.heap.size w w' := by
  have hb0 := World.block_lt_of_cell? w ⟨b, 0, none⟩ c0
  simp only at hb0
  obtain ⟨r, hr⟩ : ∃ r, Sea.dayB space d = r := ⟨_, rfl⟩
  rw [hr]
  unfold Sea.dayB at hr
  have hc1 := fun w1 => progIn d.buy 0 1000000 w1
  have hc2 := fun w1 => progIn d.sell 0 1000000 w1
  have hc3 := fun w1 => progIn d.offer 0 100 w1
  have hc4 := fun w1 => progIn d.take 0 100 w1
  have hc5 := fun w1 => progSpan d.glo d.ghi 0 space w1
  have hc6 := fun w1 => progSpan d.nlo d.nhi (-100) 100 w1
  generalize Sea.inB d.buy 0 1000000 = t1 at hr hc1
  generalize Sea.inB d.sell 0 1000000 = t2 at hr hc2
  generalize Sea.inB d.offer 0 100 = t3 at hr hc3
  generalize Sea.inB d.take 0 100 = t4 at hr hc4
  generalize Sea.spanB d.glo d.ghi 0 space = t5 at hr hc5
  generalize Sea.spanB d.nlo d.nhi (-100) 100 = t6 at hr hc6
  replace hr := Lib.hid hr
  have hg := grow_cell (w.alloc (dayO d))
  have hBw : Below w.heap.size w (w.alloc (dayO d)) := (Below.refl _ _).alloc (Nat.le_refl _) _
  cases t1
  · skip
    go_enter Try.func79, Try.ntmps79
    go_wp2_with (first | (go_at_call 68; ((with_reducible refine (hc1 _).mono ?_); rintro e w' ⟨rfl, rfl⟩)) | (go_at_call 68; ((with_reducible refine (hc2 _).mono ?_); rintro e w' ⟨rfl, rfl⟩)) | (go_at_call 68; ((with_reducible refine (hc3 _).mono ?_); rintro e w' ⟨rfl, rfl⟩)) | (go_at_call 68; ((with_reducible refine (hc4 _).mono ?_); rintro e w' ⟨rfl, rfl⟩)) | (go_at_call 80; ((with_reducible refine (hc5 _).mono ?_); rintro e w' ⟨rfl, hbA⟩; obtain ⟨g1, rfl⟩ : ∃ g1 : Grow (w.alloc (dayO d)), w' = g1.x := ⟨⟨w', hbA⟩, rfl⟩)) | (go_at_call 80; ((with_reducible refine (hc6 _).mono ?_); rintro e w' ⟨rfl, hbA⟩; obtain ⟨g2, rfl⟩ := g1.next hbA)))
    go_ret
    exact ⟨bool_ret (by rw [← hr.out]; simp), hBw⟩
  · skip
    cases t2
    · skip
      go_enter Try.func79, Try.ntmps79
      go_wp2_with (first | (go_at_call 68; ((with_reducible refine (hc1 _).mono ?_); rintro e w' ⟨rfl, rfl⟩)) | (go_at_call 68; ((with_reducible refine (hc2 _).mono ?_); rintro e w' ⟨rfl, rfl⟩)) | (go_at_call 68; ((with_reducible refine (hc3 _).mono ?_); rintro e w' ⟨rfl, rfl⟩)) | (go_at_call 68; ((with_reducible refine (hc4 _).mono ?_); rintro e w' ⟨rfl, rfl⟩)) | (go_at_call 80; ((with_reducible refine (hc5 _).mono ?_); rintro e w' ⟨rfl, hbA⟩; obtain ⟨g1, rfl⟩ : ∃ g1 : Grow (w.alloc (dayO d)), w' = g1.x := ⟨⟨w', hbA⟩, rfl⟩)) | (go_at_call 80; ((with_reducible refine (hc6 _).mono ?_); rintro e w' ⟨rfl, hbA⟩; obtain ⟨g2, rfl⟩ := g1.next hbA)))
      go_ret
      exact ⟨bool_ret (by rw [← hr.out]; simp), hBw⟩
    · skip
      cases t3
      · skip
        go_enter Try.func79, Try.ntmps79
        go_wp2_with (first | (go_at_call 68; ((with_reducible refine (hc1 _).mono ?_); rintro e w' ⟨rfl, rfl⟩)) | (go_at_call 68; ((with_reducible refine (hc2 _).mono ?_); rintro e w' ⟨rfl, rfl⟩)) | (go_at_call 68; ((with_reducible refine (hc3 _).mono ?_); rintro e w' ⟨rfl, rfl⟩)) | (go_at_call 68; ((with_reducible refine (hc4 _).mono ?_); rintro e w' ⟨rfl, rfl⟩)) | (go_at_call 80; ((with_reducible refine (hc5 _).mono ?_); rintro e w' ⟨rfl, hbA⟩; obtain ⟨g1, rfl⟩ : ∃ g1 : Grow (w.alloc (dayO d)), w' = g1.x := ⟨⟨w', hbA⟩, rfl⟩)) | (go_at_call 80; ((with_reducible refine (hc6 _).mono ?_); rintro e w' ⟨rfl, hbA⟩; obtain ⟨g2, rfl⟩ := g1.next hbA)))
        go_ret
        exact ⟨bool_ret (by rw [← hr.out]; simp), hBw⟩
      · skip
        cases t4
        · skip
          go_enter Try.func79, Try.ntmps79
          go_wp2_with (first | (go_at_call 68; ((with_reducible refine (hc1 _).mono ?_); rintro e w' ⟨rfl, rfl⟩)) | (go_at_call 68; ((with_reducible refine (hc2 _).mono ?_); rintro e w' ⟨rfl, rfl⟩)) | (go_at_call 68; ((with_reducible refine (hc3 _).mono ?_); rintro e w' ⟨rfl, rfl⟩)) | (go_at_call 68; ((with_reducible refine (hc4 _).mono ?_); rintro e w' ⟨rfl, rfl⟩)) | (go_at_call 80; ((with_reducible refine (hc5 _).mono ?_); rintro e w' ⟨rfl, hbA⟩; obtain ⟨g1, rfl⟩ : ∃ g1 : Grow (w.alloc (dayO d)), w' = g1.x := ⟨⟨w', hbA⟩, rfl⟩)) | (go_at_call 80; ((with_reducible refine (hc6 _).mono ?_); rintro e w' ⟨rfl, hbA⟩; obtain ⟨g2, rfl⟩ := g1.next hbA)))
          go_ret
          exact ⟨bool_ret (by rw [← hr.out]; simp), hBw⟩
        · skip
          cases t5
          · skip
            go_enter Try.func79, Try.ntmps79
            go_wp2_with (first | (go_at_call 68; ((with_reducible refine (hc1 _).mono ?_); rintro e w' ⟨rfl, rfl⟩)) | (go_at_call 68; ((with_reducible refine (hc2 _).mono ?_); rintro e w' ⟨rfl, rfl⟩)) | (go_at_call 68; ((with_reducible refine (hc3 _).mono ?_); rintro e w' ⟨rfl, rfl⟩)) | (go_at_call 68; ((with_reducible refine (hc4 _).mono ?_); rintro e w' ⟨rfl, rfl⟩)) | (go_at_call 80; ((with_reducible refine (hc5 _).mono ?_); rintro e w' ⟨rfl, hbA⟩; obtain ⟨g1, rfl⟩ : ∃ g1 : Grow (w.alloc (dayO d)), w' = g1.x := ⟨⟨w', hbA⟩, rfl⟩)) | (go_at_call 80; ((with_reducible refine (hc6 _).mono ?_); rintro e w' ⟨rfl, hbA⟩; obtain ⟨g2, rfl⟩ := g1.next hbA)))
            go_ret
            exact ⟨bool_ret (by rw [← hr.out]; simp), hBw.trans (g1.h.mono hBw.size)⟩
          · skip
            cases t6
            · skip
              go_enter Try.func79, Try.ntmps79
              go_wp2_with (first | (go_at_call 68; ((with_reducible refine (hc1 _).mono ?_); rintro e w' ⟨rfl, rfl⟩)) | (go_at_call 68; ((with_reducible refine (hc2 _).mono ?_); rintro e w' ⟨rfl, rfl⟩)) | (go_at_call 68; ((with_reducible refine (hc3 _).mono ?_); rintro e w' ⟨rfl, rfl⟩)) | (go_at_call 68; ((with_reducible refine (hc4 _).mono ?_); rintro e w' ⟨rfl, rfl⟩)) | (go_at_call 80; ((with_reducible refine (hc5 _).mono ?_); rintro e w' ⟨rfl, hbA⟩; obtain ⟨g1, rfl⟩ : ∃ g1 : Grow (w.alloc (dayO d)), w' = g1.x := ⟨⟨w', hbA⟩, rfl⟩)) | (go_at_call 80; ((with_reducible refine (hc6 _).mono ?_); rintro e w' ⟨rfl, hbA⟩; obtain ⟨g2, rfl⟩ := g1.next hbA)))
              go_ret
              exact ⟨bool_ret (by rw [← hr.out]; simp), hBw.trans (g2.h.mono hBw.size)⟩
            · skip
              go_enter Try.func79, Try.ntmps79
              go_wp2_with (first | (go_at_call 68; ((with_reducible refine (hc1 _).mono ?_); rintro e w' ⟨rfl, rfl⟩)) | (go_at_call 68; ((with_reducible refine (hc2 _).mono ?_); rintro e w' ⟨rfl, rfl⟩)) | (go_at_call 68; ((with_reducible refine (hc3 _).mono ?_); rintro e w' ⟨rfl, rfl⟩)) | (go_at_call 68; ((with_reducible refine (hc4 _).mono ?_); rintro e w' ⟨rfl, rfl⟩)) | (go_at_call 80; ((with_reducible refine (hc5 _).mono ?_); rintro e w' ⟨rfl, hbA⟩; obtain ⟨g1, rfl⟩ : ∃ g1 : Grow (w.alloc (dayO d)), w' = g1.x := ⟨⟨w', hbA⟩, rfl⟩)) | (go_at_call 80; ((with_reducible refine (hc6 _).mono ?_); rintro e w' ⟨rfl, hbA⟩; obtain ⟨g2, rfl⟩ := g1.next hbA)))
              go_ret
              exact ⟨bool_ret (by rw [← hr.out]; simp), hBw.trans (g2.h.mono hBw.size)⟩

theorem enter_day : ∀ (args : Array Value) (w : World), (callFunc 79 args).run Try.prog w = .ok (.enter 79 args) w := fun _ _ => by kernel_rfl

set_option maxHeartbeats 1000000 in
theorem progDayNot (space : Int) (d : Sea.Day) (w : World) (b bd : Nat) (c0 : w.cell? ⟨b, 0, none⟩ = some (.int .i64 space)) (c1 : w.cell? ⟨bd, 0, none⟩ = some (.func (.func 79) #[] #[.pointer (some ⟨b, 0, none⟩)])) :
    Calls Try.prog 82 #[dayV d, .pointer (some ⟨bd, 0, none⟩)] w fun e w' => e = .returned (.bool (!Sea.dayB space d)) ∧ Below w.heap.size w w' := by
  have hen := enter_day
  have hb0 := World.block_lt_of_cell? w ⟨b, 0, none⟩ c0
  have hb1 := World.block_lt_of_cell? w ⟨bd, 0, none⟩ c1
  simp only at hb0 hb1
  have hBw : Below w.heap.size w (w.alloc (dayO d)) := (Below.refl _ _).alloc (Nat.le_refl _) _
  go_enter Try.func82, Try.ntmps82
  go_wp2_with (go_at_call 79; refine (progDay space d _ b (kept_cell hBw c0)).mono ?_; rintro e w' ⟨rfl, hb⟩)
  go_ret
  exact ⟨rfl, hBw.trans (hb.mono hBw.size)⟩
end Go.Proofs.Ytacajmpggjgaiaa
namespace Go.Proofs.Ytacajmpggjgaiaa
open Go.RowKit Go.Sd

/-- What the search for an element leaves: a number that is not negative just if there is one. -/
def Found (b : Bool) (w : World) (e : Ending) (w' : World) : Prop := ∃ n : Int, e = .returned (.int .i64 n) ∧ (b = true ↔ 0 ≤ n) ∧ Below w.heap.size w w'

theorem any_none {α : Type} {l : List α} {p : α → Bool} (h : ∀ j (hj : j < l.length), p l[j] = false) : l.any p = false := by
  rw [List.any_eq_false]
  intro x hx
  obtain ⟨i, hi, rfl⟩ := List.getElem_of_mem hx
  rw [h i hi]; exact Bool.false_ne_true
theorem any_some {α : Type} {l : List α} {p : α → Bool} {j : Nat} (hj : j < l.length) (h : p l[j] = true) : l.any p = true := List.any_eq_true.2 ⟨_, List.getElem_mem hj, h⟩
theorem dayAt_eq {l : List Sea.Day} {j : Nat} (h : j < l.length) : Sea.dayAt l j = l[j] := by simp [Sea.dayAt, h]

set_option maxRecDepth 100000 in
set_option maxHeartbeats 2000000 in
theorem indexDays (v : Value) (l : List Sea.Day) (p : Sea.Day → Bool) (nf : Nat) (nb : Array Value) (w : World) (hv : DaysAt w v l) (en : ∀ args w, (callFunc nf args).run Try.prog w = .ok (.enter nf args) w)
    (hp : ∀ d X, Below w.heap.size w X → Calls Try.prog nf (#[dayV d] ++ nb) X fun e X' => e = .returned (.bool (p d)) ∧ Below X.heap.size X X') :
    Calls Try.prog 92 #[v, .func (.func nf) #[] nb] w (Found (l.any p) w) := by
  obtain ⟨a, cap, rfl, hm, hc⟩ := hv
  unfold maxLen at hm
  replace hp := Lib.hid hp
  go_enter Try.func92, Try.ntmps92
  go_wp2_with (fail)
  have hg := grow_cell w
  go_loopw [8] (fun i wr => ∃ k : Nat, k ≤ l.length ∧ i = .int .i64 k ∧ Hid (∀ j (hj : j < l.length), j < k → p l[j] = false) ∧ ∃ g : Grow w, wr = g.x) (fun i _ => l.length - (intOf i).toNat)
  case atStart => exact ⟨0, by omega, rfl, (fun j _ h => by omega : ∀ j (hj : j < l.length), j < 0 → p l[j] = false), Grow.self w, rfl⟩
  case round =>
    obtain ⟨k, hk, rfl, hH, g, rfl⟩ := hrel
    by_cases hlt : k < l.length
    · obtain ⟨b, off, rfl, hbl, hcell⟩ := hc (by omega)
      obtain ⟨c0, c1, c2, c3, c4, c5, c6, c7⟩ := hcell k hlt
      have hki : (0 : Int) ≤ (k : Int) ∧ (k : Int) < l.length := by omega
      have hcall := hp.out (Sea.dayAt l k) g.x g.h
      rw [dayAt_eq hlt] at c0 c1 c2 c3 c4 c5 c6 c7 hcall
      clear hcell hc
      cases ht : p l[k]
      · rw [ht] at hcall
        have hH' : Hid (∀ j (hj : j < l.length), j < k + 1 → p l[j] = false) := fun j hj hjk => by
          rcases Nat.lt_succ_iff_lt_or_eq.1 hjk with h | rfl
          · exact hH.out j hj h
          · exact ht
        replace ht := Lib.hid ht
        replace hcall := Lib.hid hcall
        go_wp2_with ((with_reducible refine Calls.mono hcall.out ?_); rintro e w' ⟨rfl, hb'⟩; obtain ⟨g1, rfl⟩ := g.next hb')
        exact ⟨⟨k + 1, by omega, by go_num, hH', g1, rfl⟩, by simp [intOf]; omega⟩
      · rw [ht] at hcall
        have hany := Lib.hid (any_some hlt ht)
        replace ht := Lib.hid ht
        replace hcall := Lib.hid hcall
        go_wp2_with ((with_reducible refine Calls.mono hcall.out ?_); rintro e w' ⟨rfl, hb'⟩; obtain ⟨g1, rfl⟩ := g.next hb')
        go_ret
        exact ⟨k, rfl, ⟨fun _ => by omega, fun _ => hany.out⟩, g1.h⟩
    · have hany := Lib.hid (any_none fun j hj => hH.out j hj (by omega))
      go_wp2_with (fail)
      go_ret
      exact ⟨-1, rfl, ⟨(fun h => by rw [hany.out] at h; cases h), (fun h => by omega)⟩, g.h⟩

set_option maxRecDepth 100000 in
set_option maxHeartbeats 2000000 in
theorem indexInts (v : Value) (l : List Int) (p : Int → Bool) (nf : Nat) (nb : Array Value) (w : World) (hv : IntsAt w v l) (en : ∀ args w, (callFunc nf args).run Try.prog w = .ok (.enter nf args) w)
    (hp : ∀ d X, Below w.heap.size w X → Calls Try.prog nf (#[.int .i64 d] ++ nb) X fun e X' => e = .returned (.bool (p d)) ∧ Below X.heap.size X X') :
    Calls Try.prog 89 #[v, .func (.func nf) #[] nb] w (Found (l.any p) w) := by
  obtain ⟨a, cap, rfl, hm, hc⟩ := hv
  unfold maxLen at hm
  replace hp := Lib.hid hp
  go_enter Try.func89, Try.ntmps89
  go_wp2_with (fail)
  have hg := grow_cell w
  go_loopw [8] (fun i wr => ∃ k : Nat, k ≤ l.length ∧ i = .int .i64 k ∧ Hid (∀ j (hj : j < l.length), j < k → p l[j] = false) ∧ ∃ g : Grow w, wr = g.x) (fun i _ => l.length - (intOf i).toNat)
  case atStart => exact ⟨0, by omega, rfl, (fun j _ h => by omega : ∀ j (hj : j < l.length), j < 0 → p l[j] = false), Grow.self w, rfl⟩
  case round =>
    obtain ⟨k, hk, rfl, hH, g, rfl⟩ := hrel
    by_cases hlt : k < l.length
    · obtain ⟨b, off, rfl, hbl, hcell⟩ := hc (by omega)
      have c0 := hcell k hlt
      have hki : (0 : Int) ≤ (k : Int) ∧ (k : Int) < l.length := by omega
      have hcall := hp.out (Sea.at0 l k) g.x g.h
      rw [at0_eq hlt] at c0 hcall
      clear hcell hc
      cases ht : p l[k]
      · rw [ht] at hcall
        have hH' : Hid (∀ j (hj : j < l.length), j < k + 1 → p l[j] = false) := fun j hj hjk => by
          rcases Nat.lt_succ_iff_lt_or_eq.1 hjk with h | rfl
          · exact hH.out j hj h
          · exact ht
        replace ht := Lib.hid ht
        replace hcall := Lib.hid hcall
        go_wp2_with ((with_reducible refine Calls.mono hcall.out ?_); rintro e w' ⟨rfl, hb'⟩; obtain ⟨g1, rfl⟩ := g.next hb')
        exact ⟨⟨k + 1, by omega, by go_num, hH', g1, rfl⟩, by simp [intOf]; omega⟩
      · rw [ht] at hcall
        have hany := Lib.hid (any_some hlt ht)
        replace ht := Lib.hid ht
        replace hcall := Lib.hid hcall
        go_wp2_with ((with_reducible refine Calls.mono hcall.out ?_); rintro e w' ⟨rfl, hb'⟩; obtain ⟨g1, rfl⟩ := g.next hb')
        go_ret
        exact ⟨k, rfl, ⟨fun _ => by omega, fun _ => hany.out⟩, g1.h⟩
    · have hany := Lib.hid (any_none fun j hj => hH.out j hj (by omega))
      go_wp2_with (fail)
      go_ret
      exact ⟨-1, rfl, ⟨(fun h => by rw [hany.out] at h; cases h), (fun h => by omega)⟩, g.h⟩

theorem containsDays (v : Value) (l : List Sea.Day) (p : Sea.Day → Bool) (nf : Nat) (nb : Array Value) (w : World) (hv : DaysAt w v l) (en : ∀ args w, (callFunc nf args).run Try.prog w = .ok (.enter nf args) w)
    (hp : ∀ d X, Below w.heap.size w X → Calls Try.prog nf (#[dayV d] ++ nb) X fun e X' => e = .returned (.bool (p d)) ∧ Below X.heap.size X X') :
    Calls Try.prog 81 #[v, .func (.func nf) #[] nb] w fun e w' => e = .returned (.bool (l.any p)) ∧ Below w.heap.size w w' := by
  have hc := Lib.hid (indexDays v l p nf nb w hv en hp)
  clear hp
  cases ht : l.any p
  all_goals
    replace ht := Lib.hid ht
    go_enter Try.func81, Try.ntmps81
    go_wp2_with (go_at_call 92; refine Calls.mono hc.out ?_; rintro e w' ⟨n, rfl, hn, hb⟩; rw [ht.out] at hn; have hn' : Hid (_ ↔ (0 : Int) ≤ n) := hn; clear hn)
    go_ret
    refine ⟨bool_ret ?_, hb⟩
    have := hn'.out
    simp at this
    simp [this]

theorem containsInts (v : Value) (l : List Int) (p : Int → Bool) (nf : Nat) (nb : Array Value) (w : World) (hv : IntsAt w v l) (en : ∀ args w, (callFunc nf args).run Try.prog w = .ok (.enter nf args) w)
    (hp : ∀ d X, Below w.heap.size w X → Calls Try.prog nf (#[.int .i64 d] ++ nb) X fun e X' => e = .returned (.bool (p d)) ∧ Below X.heap.size X X') :
    Calls Try.prog 74 #[v, .func (.func nf) #[] nb] w fun e w' => e = .returned (.bool (l.any p)) ∧ Below w.heap.size w w' := by
  have hc := Lib.hid (indexInts v l p nf nb w hv en hp)
  clear hp
  cases ht : l.any p
  all_goals
    replace ht := Lib.hid ht
    go_enter Try.func74, Try.ntmps74
    go_wp2_with (go_at_call 89; refine Calls.mono hc.out ?_; rintro e w' ⟨n, rfl, hn, hb⟩; rw [ht.out] at hn; have hn' : Hid (_ ↔ (0 : Int) ≤ n) := hn; clear hn)
    go_ret
    refine ⟨bool_ret ?_, hb⟩
    have := hn'.out
    simp at this
    simp [this]
end Go.Proofs.Ytacajmpggjgaiaa
