/- Walks: all rules of an order; whether it is possible. -/
import Derived.Test.YtacajmpggjgaiaaP2
import Derived.Laws.EntriesVeiled
set_option linter.unusedVariables false
set_option linter.unusedSimpArgs false
namespace Go.Proofs.Ytacajmpggjgaiaa
open Go.RowKit Go.Sd

/-- The six rules as values. -/
abbrev allV (o : Value) : Value := .agg #[.func (.func 95) #[o] #[], .func (.func 96) #[o] #[], .func (.func 97) #[o] #[],
  .func (.func 98) #[o] #[], .func (.func 99) #[o] #[], .func (.func 100) #[o] #[]]

set_option maxHeartbeats 1000000 in
theorem progAll (lv : Value) (k : Nat) (fill nom u : Int) (w : World) :
    Calls Try.prog 93 #[ordV lv k fill nom u] w fun e w' => e = .returned (allV (ordV lv k fill nom u)) ∧ Below w.heap.size w w' := by
  go_enter Try.func93, Try.ntmps93
  go_wp2
  refine bodyPost_ret (v := allV (ordV lv k fill nom u)) (by simp [results, Try.results93, go_sem, allV, ordV]) rfl ⟨rfl, ?_⟩
  exact ((Below.refl _ _).alloc (Nat.le_refl _) _).alloc (by simp) _

theorem all_index (a b c d e f : Value) (w : World) : let I := fun i : Int => (Instr.index 125 (.agg #[a, b, c, d, e, f]) (.int .i64 i)).run Try.prog w
    I 0 = .ok a w ∧ I 1 = .ok b w ∧ I 2 = .ok c w ∧ I 3 = .ok d w ∧ I 4 = .ok e w ∧ I 5 = .ok f w := ⟨by kernel_rfl, by kernel_rfl, by kernel_rfl, by kernel_rfl, by kernel_rfl, by kernel_rfl⟩

/-- Whether an order is possible. -/
def possB (s : Sea.S) (k : Nat) (fill nom u : Int) : Bool := decide (s.rule k fill nom u = 1)

theorem poss_iff (s : Sea.S) (k : Nat) (fill nom u : Int) : possB s k fill nom u = (!decide ((Sea.dayAt s.days k).offer < u) && !decide ((Sea.dayAt s.days k).take < -u) && !decide ((s.lim fill).inn < nom + u) &&
    !decide ((s.lim fill).out < -nom - u) && !(!Sea.inB (fill + nom + u) (Sea.dayAt s.days k).glo (Sea.dayAt s.days k).ghi) && !(decide ((k : Int) = (s.days.length : Int) - 1) && !Sea.inB (fill + nom + u) s.elo s.ehi)) := by
  unfold possB Sea.S.rule
  by_cases h1 : (Sea.dayAt s.days k).offer < u
  · simp [h1]
  by_cases h2 : (Sea.dayAt s.days k).take < -u
  · simp [h1, h2]
  by_cases h3 : (s.lim fill).inn < nom + u
  · simp [h1, h2, h3]
  by_cases h4 : (s.lim fill).out < -nom - u
  · simp [h1, h2, h3, h4]
  cases h5 : Sea.inB (fill + nom + u) (Sea.dayAt s.days k).glo (Sea.dayAt s.days k).ghi
  · simp [h1, h2, h3, h4]
  by_cases h6 : (k : Int) = (s.days.length : Int) - 1
  · cases h7 : Sea.inB (fill + nom + u) s.elo s.ehi <;> simp [h1, h2, h3, h4, h6]
  · simp [h1, h2, h3, h4, h6]

set_option maxRecDepth 100000 in
set_option maxHeartbeats 4000000 in
theorem progPossible (lv mv : Value) (s : Sea.S) (k : Nat) (fill nom u : Int) (w : World) (hl : LookAt w lv mv s) (hk : k < s.days.length) (ok : Sea.Ok s)
    (b1 : 0 ≤ fill ∧ fill ≤ 100) (b2 : -100 ≤ nom ∧ nom ≤ 100) (b3 : -100 ≤ u ∧ u ≤ 100) :
    Calls Try.prog 85 #[ordV lv k fill nom u] w fun e w' => e = .returned (.bool (possB s k fill nom u)) ∧ Below w.heap.size w w' := by
  have hp := poss_iff s k fill nom u
  have c0 := fun (w1 : World) (h : LookAt w1 lv mv s) => progBuys lv mv s k fill nom u w1 h hk
  have c1 := fun (w1 : World) (h : LookAt w1 lv mv s) => progSells lv mv s k fill nom u w1 h hk b3
  have c2 := fun (w1 : World) (h : LookAt w1 lv mv s) => progComes lv mv s k fill nom u w1 h hk ok b1 b2 b3
  have c3 := fun (w1 : World) (h : LookAt w1 lv mv s) => progGoes lv mv s k fill nom u w1 h hk ok b1 b2 b3
  have c4 := fun (w1 : World) (h : LookAt w1 lv mv s) => progGate lv mv s k fill nom u w1 h hk b1 b2 b3
  have c5 := fun (w1 : World) (h : LookAt w1 lv mv s) => progEnd lv mv s k fill nom u w1 h hk b1 b2 b3
  generalize decide ((Sea.dayAt s.days k).offer < u) = t0 at hp c0
  generalize decide ((Sea.dayAt s.days k).take < -u) = t1 at hp c1
  generalize decide ((s.lim fill).inn < nom + u) = t2 at hp c2
  generalize decide ((s.lim fill).out < -nom - u) = t3 at hp c3
  generalize (!Sea.inB (fill + nom + u) (Sea.dayAt s.days k).glo (Sea.dayAt s.days k).ghi) = t4 at hp c4
  generalize (decide ((k : Int) = (s.days.length : Int) - 1) && !Sea.inB (fill + nom + u) s.elo s.ehi) = t5 at hp c5
  replace hp := Lib.hid hp
  go_enter Try.func85, Try.ntmps85
  go_wp2_with (go_at_call 93; refine (progAll _ _ _ _ _ _).mono ?_; rintro e w1 ⟨rfl, hB1⟩)
  have hl3 := (hl.mono ((Below.refl _ _).alloc (Nat.le_refl _) _)).mono hB1
  have hB2 : Below w.heap.size w w1 := ((Below.refl _ _).alloc (Nat.le_refl _) _).trans (hB1.mono (by simp))
  clear hl hB1
  go_loopw [7] (fun i wr => ((i = .int .i64 0 ∧ Hid (True)) ∨ (i = .int .i64 1 ∧ Hid (t0 = false)) ∨ (i = .int .i64 2 ∧ Hid (t0 = false ∧ t1 = false)) ∨ (i = .int .i64 3 ∧ Hid (t0 = false ∧ t1 = false ∧ t2 = false)) ∨ (i = .int .i64 4 ∧ Hid (t0 = false ∧ t1 = false ∧ t2 = false ∧ t3 = false)) ∨ (i = .int .i64 5 ∧ Hid (t0 = false ∧ t1 = false ∧ t2 = false ∧ t3 = false ∧ t4 = false)) ∨ (i = .int .i64 6 ∧ Hid (t0 = false ∧ t1 = false ∧ t2 = false ∧ t3 = false ∧ t4 = false ∧ t5 = false))) ∧ ∃ g : Grow w1, wr = g.x) (fun i _ => 6 - (intOf i).toNat)
  case atStart => exact ⟨.inl ⟨rfl, trivial⟩, Grow.self w1, rfl⟩
  case round =>
    obtain ⟨hi, g, rfl⟩ := hrel
    have hl4 := hl3.mono g.h
    have hB3 : Below w.heap.size w g.x := hB2.trans (g.h.mono hB2.size)
    rcases hi with ⟨rfl, hh⟩ | ⟨rfl, hh⟩ | ⟨rfl, hh⟩ | ⟨rfl, hh⟩ | ⟨rfl, hh⟩ | ⟨rfl, hh⟩ | ⟨rfl, hh⟩
    · have hx : ∀ w : World, (Instr.index 125 (allV (ordV lv k fill nom u)) (.int .i64 0)).run Try.prog w = .ok (.func (.func 95) #[ordV lv k fill nom u] #[]) w := fun w => (all_index _ _ _ _ _ _ w).1
      cases ht : t0
      · replace c0 := fun (w1 : World) (h : LookAt w1 lv mv s) => ht ▸ c0 w1 h
        replace ht := Lib.hid ht
        go_wp2_with (go_at_call 95; refine (c0 _ hl4).mono ?_; rintro e w2 ⟨rfl, hB4⟩)
        exact ⟨⟨.inr (.inl ⟨rfl, by unfold Hid; simp [hh.out, ht.out]⟩), g.next hB4⟩, by simp [intOf]⟩
      · replace c0 := fun (w1 : World) (h : LookAt w1 lv mv s) => ht ▸ c0 w1 h
        replace ht := Lib.hid ht
        go_wp2_with (go_at_call 95; refine (c0 _ hl4).mono ?_; rintro e w2 ⟨rfl, hB4⟩)
        go_ret
        exact ⟨bool_ret (by rw [hp.out]; simp [ht.out]), hB3.trans (hB4.mono hB3.size)⟩
    · have hx : ∀ w : World, (Instr.index 125 (allV (ordV lv k fill nom u)) (.int .i64 1)).run Try.prog w = .ok (.func (.func 96) #[ordV lv k fill nom u] #[]) w := fun w => (all_index _ _ _ _ _ _ w).2.1
      cases ht : t1
      · replace c1 := fun (w1 : World) (h : LookAt w1 lv mv s) => ht ▸ c1 w1 h
        replace ht := Lib.hid ht
        go_wp2_with (go_at_call 96; refine (c1 _ hl4).mono ?_; rintro e w2 ⟨rfl, hB4⟩)
        exact ⟨⟨.inr (.inr (.inl ⟨rfl, by unfold Hid; simp [hh.out, ht.out]⟩)), g.next hB4⟩, by simp [intOf]⟩
      · replace c1 := fun (w1 : World) (h : LookAt w1 lv mv s) => ht ▸ c1 w1 h
        replace ht := Lib.hid ht
        go_wp2_with (go_at_call 96; refine (c1 _ hl4).mono ?_; rintro e w2 ⟨rfl, hB4⟩)
        go_ret
        exact ⟨bool_ret (by rw [hp.out]; simp [ht.out]), hB3.trans (hB4.mono hB3.size)⟩
    · have hx : ∀ w : World, (Instr.index 125 (allV (ordV lv k fill nom u)) (.int .i64 2)).run Try.prog w = .ok (.func (.func 97) #[ordV lv k fill nom u] #[]) w := fun w => (all_index _ _ _ _ _ _ w).2.2.1
      cases ht : t2
      · replace c2 := fun (w1 : World) (h : LookAt w1 lv mv s) => ht ▸ c2 w1 h
        replace ht := Lib.hid ht
        go_wp2_with (go_at_call 97; refine (c2 _ hl4).mono ?_; rintro e w2 ⟨rfl, hB4⟩)
        exact ⟨⟨.inr (.inr (.inr (.inl ⟨rfl, by unfold Hid; simp [hh.out, ht.out]⟩))), g.next hB4⟩, by simp [intOf]⟩
      · replace c2 := fun (w1 : World) (h : LookAt w1 lv mv s) => ht ▸ c2 w1 h
        replace ht := Lib.hid ht
        go_wp2_with (go_at_call 97; refine (c2 _ hl4).mono ?_; rintro e w2 ⟨rfl, hB4⟩)
        go_ret
        exact ⟨bool_ret (by rw [hp.out]; simp [ht.out]), hB3.trans (hB4.mono hB3.size)⟩
    · have hx : ∀ w : World, (Instr.index 125 (allV (ordV lv k fill nom u)) (.int .i64 3)).run Try.prog w = .ok (.func (.func 98) #[ordV lv k fill nom u] #[]) w := fun w => (all_index _ _ _ _ _ _ w).2.2.2.1
      cases ht : t3
      · replace c3 := fun (w1 : World) (h : LookAt w1 lv mv s) => ht ▸ c3 w1 h
        replace ht := Lib.hid ht
        go_wp2_with (go_at_call 98; refine (c3 _ hl4).mono ?_; rintro e w2 ⟨rfl, hB4⟩)
        exact ⟨⟨.inr (.inr (.inr (.inr (.inl ⟨rfl, by unfold Hid; simp [hh.out, ht.out]⟩)))), g.next hB4⟩, by simp [intOf]⟩
      · replace c3 := fun (w1 : World) (h : LookAt w1 lv mv s) => ht ▸ c3 w1 h
        replace ht := Lib.hid ht
        go_wp2_with (go_at_call 98; refine (c3 _ hl4).mono ?_; rintro e w2 ⟨rfl, hB4⟩)
        go_ret
        exact ⟨bool_ret (by rw [hp.out]; simp [ht.out]), hB3.trans (hB4.mono hB3.size)⟩
    · have hx : ∀ w : World, (Instr.index 125 (allV (ordV lv k fill nom u)) (.int .i64 4)).run Try.prog w = .ok (.func (.func 99) #[ordV lv k fill nom u] #[]) w := fun w => (all_index _ _ _ _ _ _ w).2.2.2.2.1
      cases ht : t4
      · replace c4 := fun (w1 : World) (h : LookAt w1 lv mv s) => ht ▸ c4 w1 h
        replace ht := Lib.hid ht
        go_wp2_with (go_at_call 99; refine (c4 _ hl4).mono ?_; rintro e w2 ⟨rfl, hB4⟩)
        exact ⟨⟨.inr (.inr (.inr (.inr (.inr (.inl ⟨rfl, by unfold Hid; simp [hh.out, ht.out]⟩))))), g.next hB4⟩, by simp [intOf]⟩
      · replace c4 := fun (w1 : World) (h : LookAt w1 lv mv s) => ht ▸ c4 w1 h
        replace ht := Lib.hid ht
        go_wp2_with (go_at_call 99; refine (c4 _ hl4).mono ?_; rintro e w2 ⟨rfl, hB4⟩)
        go_ret
        exact ⟨bool_ret (by rw [hp.out]; simp [ht.out]), hB3.trans (hB4.mono hB3.size)⟩
    · have hx : ∀ w : World, (Instr.index 125 (allV (ordV lv k fill nom u)) (.int .i64 5)).run Try.prog w = .ok (.func (.func 100) #[ordV lv k fill nom u] #[]) w := fun w => (all_index _ _ _ _ _ _ w).2.2.2.2.2
      cases ht : t5
      · replace c5 := fun (w1 : World) (h : LookAt w1 lv mv s) => ht ▸ c5 w1 h
        replace ht := Lib.hid ht
        go_wp2_with (go_at_call 100; refine (c5 _ hl4).mono ?_; rintro e w2 ⟨rfl, hB4⟩)
        exact ⟨⟨.inr (.inr (.inr (.inr (.inr (.inr (⟨rfl, by unfold Hid; simp [hh.out, ht.out]⟩)))))), g.next hB4⟩, by simp [intOf]⟩
      · replace c5 := fun (w1 : World) (h : LookAt w1 lv mv s) => ht ▸ c5 w1 h
        replace ht := Lib.hid ht
        go_wp2_with (go_at_call 100; refine (c5 _ hl4).mono ?_; rintro e w2 ⟨rfl, hB4⟩)
        go_ret
        exact ⟨bool_ret (by rw [hp.out]; simp [ht.out]), hB3.trans (hB4.mono hB3.size)⟩
    · go_wp2
      go_ret
      exact ⟨bool_ret (by rw [hp.out]; simp [hh.out]), hB3⟩
end Go.Proofs.Ytacajmpggjgaiaa
