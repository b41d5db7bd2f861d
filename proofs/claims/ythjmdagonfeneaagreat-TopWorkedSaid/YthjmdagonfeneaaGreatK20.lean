/- Laws and walks: SP3, SQ1, SOwn. -/
import Derived.Test.YthjmdagonfeneaaGreatK19
set_option maxRecDepth 100000
set_option maxHeartbeats 16000000
set_option linter.unusedVariables false
set_option linter.unusedSimpArgs false
namespace Go.Proofs.YthjmdagonfeneaaGreat.S
open Go.RowKit Go.Sd
abbrev allV (o : Value) : Value := .agg #[.func (.func 122) #[o] #[], .func (.func 123) #[o] #[], .func (.func 124) #[o] #[],
 .func (.func 125) #[o] #[], .func (.func 126) #[o] #[], .func (.func 127) #[o] #[]]
theorem progAll (lv : Value) (k : Nat) (fill nom u : Int) (w : World) :
    Calls Tryz.prog 105 #[ordV lv k fill nom u] w fun e w' => e = .returned (allV (ordV lv k fill nom u)) ∧ Below w.heap.size w w' := by
 go_enter Tryz.func105, Tryz.ntmps105
 go_wp2
 refine bodyPost_ret (v := allV (ordV lv k fill nom u)) (by simp [results, Tryz.results105, go_sem, allV, ordV]) rfl ⟨rfl, ?_⟩
 exact ((Below.refl _ _).alloc (Nat.le_refl _) _).alloc (by simp) _
theorem all_index (a b c d e f : Value) (w : World) : let I := fun i : Int => (Instr.index 162 (.agg #[a, b, c, d, e, f]) (.int .i64 i)).run Tryz.prog w
    I 0 = .ok a w ∧ I 1 = .ok b w ∧ I 2 = .ok c w ∧ I 3 = .ok d w ∧ I 4 = .ok e w ∧ I 5 = .ok f w := ⟨by kernel_rfl, by kernel_rfl, by kernel_rfl, by kernel_rfl, by kernel_rfl, by kernel_rfl⟩
def possB (s : Sea.S) (k : Nat) (fill nom u : Int) : Bool := decide (s.rule k fill nom u = 1)
theorem poss_iff (s : Sea.S) (k : Nat) (fill nom u : Int) : possB s k fill nom u = (!decide ((Sea.dayAt s.days k).offer < u) && !decide ((Sea.dayAt s.days k).take < -u) && !decide ((s.lim fill).inn < nom + u) &&
    !decide ((s.lim fill).out < -nom - u) && !(!Sea.inB (fill + nom + u) (Sea.dayAt s.days k).glo (Sea.dayAt s.days k).ghi) && !(decide ((k : Int) = (s.days.length : Int) - 1) && !Sea.inB (fill + nom + u) s.elo s.ehi)) := by
 unfold possB Sea.S.rule
 by_cases h1 : (Sea.dayAt s.days k).offer < u
 · simp [h1]
 by_cases h2 : (Sea.dayAt s.days k).take < -u
 · simp [h1, h2]
 by_cases h3 : (s.lim fill).inn < nom + u
 · simp [h1, h2, h3]
 by_cases h4 : (s.lim fill).out < -nom - u
 · simp [h1, h2, h3, h4]
 cases h5 : Sea.inB (fill + nom + u) (Sea.dayAt s.days k).glo (Sea.dayAt s.days k).ghi
 · simp [h1, h2, h3, h4]
 by_cases h6 : (k : Int) = (s.days.length : Int) - 1
 · cases h7 : Sea.inB (fill + nom + u) s.elo s.ehi <;> simp [h1, h2, h3, h4, h6]
 · simp [h1, h2, h3, h4, h6]
theorem progPossible (lv mv : Value) (s : Sea.S) (k : Nat) (fill nom u : Int) (w : World) (hl : LookAt w lv mv s) (hk : k < s.days.length) (ok : Sea.Ok s)
    (b1 : 0 ≤ fill ∧ fill ≤ 100) (b2 : -100 ≤ nom ∧ nom ≤ 100) (b3 : -100 ≤ u ∧ u ≤ 100) :
    Calls Tryz.prog 73 #[ordV lv k fill nom u] w fun e w' => e = .returned (.bool (possB s k fill nom u)) ∧ Below w.heap.size w w' := by
 have hp := poss_iff s k fill nom u
 have c0 := fun (w1 : World) (h : LookAt w1 lv mv s) => progBuys lv mv s k fill nom u w1 h hk
 have c1 := fun (w1 : World) (h : LookAt w1 lv mv s) => progSells lv mv s k fill nom u w1 h hk b3
 have c2 := fun (w1 : World) (h : LookAt w1 lv mv s) => progComes lv mv s k fill nom u w1 h hk ok b1 b2 b3
 have c3 := fun (w1 : World) (h : LookAt w1 lv mv s) => progGoes lv mv s k fill nom u w1 h hk ok b1 b2 b3
 have c4 := fun (w1 : World) (h : LookAt w1 lv mv s) => progGate lv mv s k fill nom u w1 h hk b1 b2 b3
 have c5 := fun (w1 : World) (h : LookAt w1 lv mv s) => progEnd lv mv s k fill nom u w1 h hk b1 b2 b3
 generalize decide ((Sea.dayAt s.days k).offer < u) = t0 at hp c0
 generalize decide ((Sea.dayAt s.days k).take < -u) = t1 at hp c1
 generalize decide ((s.lim fill).inn < nom + u) = t2 at hp c2
 generalize decide ((s.lim fill).out < -nom - u) = t3 at hp c3
 generalize (!Sea.inB (fill + nom + u) (Sea.dayAt s.days k).glo (Sea.dayAt s.days k).ghi) = t4 at hp c4
 generalize (decide ((k : Int) = (s.days.length : Int) - 1) && !Sea.inB (fill + nom + u) s.elo s.ehi) = t5 at hp c5
 replace hp := Lib.hid hp
 go_enter Tryz.func73, Tryz.ntmps73
 go_wp2_with (go_at_call 105; refine (progAll _ _ _ _ _ _).mono ?_; rintro e w1 ⟨rfl, hB1⟩)
 have hl3 := (hl.mono ((Below.refl _ _).alloc (Nat.le_refl _) _)).mono hB1
 have hB2 : Below w.heap.size w w1 := ((Below.refl _ _).alloc (Nat.le_refl _) _).trans (hB1.mono (by simp))
 clear hl hB1
 go_loopw [7] (fun i wr => ((i = .int .i64 0 ∧ Hid (True)) ∨ (i = .int .i64 1 ∧ Hid (t0 = false)) ∨ (i = .int .i64 2 ∧ Hid (t0 = false ∧ t1 = false)) ∨ (i = .int .i64 3 ∧ Hid (t0 = false ∧ t1 = false ∧ t2 = false)) ∨ (i = .int .i64 4 ∧ Hid (t0 = false ∧ t1 = false ∧ t2 = false ∧ t3 = false)) ∨ (i = .int .i64 5 ∧ Hid (t0 = false ∧ t1 = false ∧ t2 = false ∧ t3 = false ∧ t4 = false)) ∨ (i = .int .i64 6 ∧ Hid (t0 = false ∧ t1 = false ∧ t2 = false ∧ t3 = false ∧ t4 = false ∧ t5 = false))) ∧ ∃ g : Grow w1, wr = g.x) (fun i _ => 6 - (intOf i).toNat)
 case atStart => exact ⟨.inl ⟨rfl, trivial⟩, Grow.self w1, rfl⟩
 case round =>
  obtain ⟨hi, g, rfl⟩ := hrel
  have hl4 := hl3.mono g.h
  have hB3 : Below w.heap.size w g.x := hB2.trans (g.h.mono hB2.size)
  rcases hi with ⟨rfl, hh⟩ | ⟨rfl, hh⟩ | ⟨rfl, hh⟩ | ⟨rfl, hh⟩ | ⟨rfl, hh⟩ | ⟨rfl, hh⟩ | ⟨rfl, hh⟩
  · have hx : ∀ w : World, (Instr.index 162 (allV (ordV lv k fill nom u)) (.int .i64 0)).run Tryz.prog w = .ok (.func (.func 122) #[ordV lv k fill nom u] #[]) w := fun w => (all_index _ _ _ _ _ _ w).1
    cases ht : t0
    · replace c0 := fun (w1 : World) (h : LookAt w1 lv mv s) => ht ▸ c0 w1 h
      replace ht := Lib.hid ht
      go_wp2_with (go_at_call 122; refine (c0 _ hl4).mono ?_; rintro e w2 ⟨rfl, hB4⟩)
      exact ⟨⟨.inr (.inl ⟨rfl, by unfold Hid; simp [hh.out, ht.out]⟩), g.next hB4⟩, by simp [intOf]⟩
    · replace c0 := fun (w1 : World) (h : LookAt w1 lv mv s) => ht ▸ c0 w1 h
      replace ht := Lib.hid ht
      go_wp2_with (go_at_call 122; refine (c0 _ hl4).mono ?_; rintro e w2 ⟨rfl, hB4⟩)
      go_ret
      exact ⟨bool_ret (by rw [hp.out]; simp [ht.out]), hB3.trans (hB4.mono hB3.size)⟩
  · have hx : ∀ w : World, (Instr.index 162 (allV (ordV lv k fill nom u)) (.int .i64 1)).run Tryz.prog w = .ok (.func (.func 123) #[ordV lv k fill nom u] #[]) w := fun w => (all_index _ _ _ _ _ _ w).2.1
    cases ht : t1
    · replace c1 := fun (w1 : World) (h : LookAt w1 lv mv s) => ht ▸ c1 w1 h
      replace ht := Lib.hid ht
      go_wp2_with (go_at_call 123; refine (c1 _ hl4).mono ?_; rintro e w2 ⟨rfl, hB4⟩)
      exact ⟨⟨.inr (.inr (.inl ⟨rfl, by unfold Hid; simp [hh.out, ht.out]⟩)), g.next hB4⟩, by simp [intOf]⟩
    · replace c1 := fun (w1 : World) (h : LookAt w1 lv mv s) => ht ▸ c1 w1 h
      replace ht := Lib.hid ht
      go_wp2_with (go_at_call 123; refine (c1 _ hl4).mono ?_; rintro e w2 ⟨rfl, hB4⟩)
      go_ret
      exact ⟨bool_ret (by rw [hp.out]; simp [ht.out]), hB3.trans (hB4.mono hB3.size)⟩
  · have hx : ∀ w : World, (Instr.index 162 (allV (ordV lv k fill nom u)) (.int .i64 2)).run Tryz.prog w = .ok (.func (.func 124) #[ordV lv k fill nom u] #[]) w := fun w => (all_index _ _ _ _ _ _ w).2.2.1
    cases ht : t2
    · replace c2 := fun (w1 : World) (h : LookAt w1 lv mv s) => ht ▸ c2 w1 h
      replace ht := Lib.hid ht
      go_wp2_with (go_at_call 124; refine (c2 _ hl4).mono ?_; rintro e w2 ⟨rfl, hB4⟩)
      exact ⟨⟨.inr (.inr (.inr (.inl ⟨rfl, by unfold Hid; simp [hh.out, ht.out]⟩))), g.next hB4⟩, by simp [intOf]⟩
    · replace c2 := fun (w1 : World) (h : LookAt w1 lv mv s) => ht ▸ c2 w1 h
      replace ht := Lib.hid ht
      go_wp2_with (go_at_call 124; refine (c2 _ hl4).mono ?_; rintro e w2 ⟨rfl, hB4⟩)
      go_ret
      exact ⟨bool_ret (by rw [hp.out]; simp [ht.out]), hB3.trans (hB4.mono hB3.size)⟩
  · have hx : ∀ w : World, (Instr.index 162 (allV (ordV lv k fill nom u)) (.int .i64 3)).run Tryz.prog w = .ok (.func (.func 125) #[ordV lv k fill nom u] #[]) w := fun w => (all_index _ _ _ _ _ _ w).2.2.2.1
    cases ht : t3
    · replace c3 := fun (w1 : World) (h : LookAt w1 lv mv s) => ht ▸ c3 w1 h
      replace ht := Lib.hid ht
      go_wp2_with (go_at_call 125; refine (c3 _ hl4).mono ?_; rintro e w2 ⟨rfl, hB4⟩)
      exact ⟨⟨.inr (.inr (.inr (.inr (.inl ⟨rfl, by unfold Hid; simp [hh.out, ht.out]⟩)))), g.next hB4⟩, by simp [intOf]⟩
    · replace c3 := fun (w1 : World) (h : LookAt w1 lv mv s) => ht ▸ c3 w1 h
      replace ht := Lib.hid ht
      go_wp2_with (go_at_call 125; refine (c3 _ hl4).mono ?_; rintro e w2 ⟨rfl, hB4⟩)
      go_ret
      exact ⟨bool_ret (by rw [hp.out]; simp [ht.out]), hB3.trans (hB4.mono hB3.size)⟩
  · have hx : ∀ w : World, (Instr.index 162 (allV (ordV lv k fill nom u)) (.int .i64 4)).run Tryz.prog w = .ok (.func (.func 126) #[ordV lv k fill nom u] #[]) w := fun w => (all_index _ _ _ _ _ _ w).2.2.2.2.1
    cases ht : t4
    · replace c4 := fun (w1 : World) (h : LookAt w1 lv mv s) => ht ▸ c4 w1 h
      replace ht := Lib.hid ht
      go_wp2_with (go_at_call 126; refine (c4 _ hl4).mono ?_; rintro e w2 ⟨rfl, hB4⟩)
      exact ⟨⟨.inr (.inr (.inr (.inr (.inr (.inl ⟨rfl, by unfold Hid; simp [hh.out, ht.out]⟩))))), g.next hB4⟩, by simp [intOf]⟩
    · replace c4 := fun (w1 : World) (h : LookAt w1 lv mv s) => ht ▸ c4 w1 h
      replace ht := Lib.hid ht
      go_wp2_with (go_at_call 126; refine (c4 _ hl4).mono ?_; rintro e w2 ⟨rfl, hB4⟩)
      go_ret
      exact ⟨bool_ret (by rw [hp.out]; simp [ht.out]), hB3.trans (hB4.mono hB3.size)⟩
  · have hx : ∀ w : World, (Instr.index 162 (allV (ordV lv k fill nom u)) (.int .i64 5)).run Tryz.prog w = .ok (.func (.func 127) #[ordV lv k fill nom u] #[]) w := fun w => (all_index _ _ _ _ _ _ w).2.2.2.2.2
    cases ht : t5
    · replace c5 := fun (w1 : World) (h : LookAt w1 lv mv s) => ht ▸ c5 w1 h
      replace ht := Lib.hid ht
      go_wp2_with (go_at_call 127; refine (c5 _ hl4).mono ?_; rintro e w2 ⟨rfl, hB4⟩)
      exact ⟨⟨.inr (.inr (.inr (.inr (.inr (.inr (⟨rfl, by unfold Hid; simp [hh.out, ht.out]⟩)))))), g.next hB4⟩, by simp [intOf]⟩
    · replace c5 := fun (w1 : World) (h : LookAt w1 lv mv s) => ht ▸ c5 w1 h
      replace ht := Lib.hid ht
      go_wp2_with (go_at_call 127; refine (c5 _ hl4).mono ?_; rintro e w2 ⟨rfl, hB4⟩)
      go_ret
      exact ⟨bool_ret (by rw [hp.out]; simp [ht.out]), hB3.trans (hB4.mono hB3.size)⟩
  · go_wp2
    go_ret
    exact ⟨bool_ret (by rw [hp.out]; simp [hh.out]), hB3⟩
end Go.Proofs.YthjmdagonfeneaaGreat.S
set_option linter.unusedVariables false
set_option linter.unusedSimpArgs false
namespace Go.Proofs.YthjmdagonfeneaaGreat.S
open Go.RowKit Go.Sd
theorem rule_tests (s : Sea.S) (k : Nat) (fill nom u : Int) : s.rule k fill nom u = if decide ((Sea.dayAt s.days k).offer < u) = true then 2 else if decide ((Sea.dayAt s.days k).take < -u) = true then 3 else if decide ((s.lim fill).inn < nom + u) = true then 4 else
    if decide ((s.lim fill).out < -nom - u) = true then 5 else if (!Sea.inB (fill + nom + u) (Sea.dayAt s.days k).glo (Sea.dayAt s.days k).ghi) = true then 6 else if (decide ((k : Int) = (s.days.length : Int) - 1) && !Sea.inB (fill + nom + u) s.elo s.ehi) = true then 7 else 1 := by
 unfold Sea.S.rule
 simp
abbrev brokenV (r : Int) : Value := .iface 138 (.agg #[.int .i64 r])
def MustPost (r : Int) (w : World) (e : Ending) (w' : World) : Prop := (if r = 1 then e = .returned (.tuple #[]) else e = .panicked [{ v := brokenV r, recovered := false }]) ∧ Below w.heap.size w w'
theorem MustPost.no {r : Int} {w w' : World} (h : r = 1) (hb : Below w.heap.size w w') : MustPost r w (.returned (.tuple #[])) w' := ⟨by rw [if_pos h], hb⟩
theorem MustPost.yes {r q : Int} {w w' : World} (h : r = q) (hq : q ≠ 1) (hb : Below w.heap.size w w') : MustPost r w (.panicked [{ v := brokenV q, recovered := false }]) w' := by subst h; exact ⟨by rw [if_neg hq], hb⟩
theorem progMust (lv mv : Value) (s : Sea.S) (k : Nat) (fill nom u : Int) (w : World) (hl : LookAt w lv mv s) (hk : k < s.days.length) (ok : Sea.Ok s)
    (b1 : 0 ≤ fill ∧ fill ≤ 100) (b2 : -100 ≤ nom ∧ nom ≤ 100) (b3 : -100 ≤ u ∧ u ≤ 100) :
    Calls Tryz.prog 76 #[ordV lv k fill nom u] w (MustPost (s.rule k fill nom u) w) := by
 have hp := rule_tests s k fill nom u
 have c0 := fun (w1 : World) (h : LookAt w1 lv mv s) => progBuys lv mv s k fill nom u w1 h hk
 have c1 := fun (w1 : World) (h : LookAt w1 lv mv s) => progSells lv mv s k fill nom u w1 h hk b3
 have c2 := fun (w1 : World) (h : LookAt w1 lv mv s) => progComes lv mv s k fill nom u w1 h hk ok b1 b2 b3
 have c3 := fun (w1 : World) (h : LookAt w1 lv mv s) => progGoes lv mv s k fill nom u w1 h hk ok b1 b2 b3
 have c4 := fun (w1 : World) (h : LookAt w1 lv mv s) => progGate lv mv s k fill nom u w1 h hk b1 b2 b3
 have c5 := fun (w1 : World) (h : LookAt w1 lv mv s) => progEnd lv mv s k fill nom u w1 h hk b1 b2 b3
 generalize decide ((Sea.dayAt s.days k).offer < u) = t0 at hp c0
 generalize decide ((Sea.dayAt s.days k).take < -u) = t1 at hp c1
 generalize decide ((s.lim fill).inn < nom + u) = t2 at hp c2
 generalize decide ((s.lim fill).out < -nom - u) = t3 at hp c3
 generalize (!Sea.inB (fill + nom + u) (Sea.dayAt s.days k).glo (Sea.dayAt s.days k).ghi) = t4 at hp c4
 generalize (decide ((k : Int) = (s.days.length : Int) - 1) && !Sea.inB (fill + nom + u) s.elo s.ehi) = t5 at hp c5
 generalize s.rule k fill nom u = r at *
 replace hp := Lib.hid hp
 go_enter Tryz.func76, Tryz.ntmps76
 go_wp2_with (go_at_call 105; refine (progAll _ _ _ _ _ _).mono ?_; rintro e w1 ⟨rfl, hB1⟩)
 have hl3 := (hl.mono ((Below.refl _ _).alloc (Nat.le_refl _) _)).mono hB1
 have hB2 : Below w.heap.size w w1 := ((Below.refl _ _).alloc (Nat.le_refl _) _).trans (hB1.mono (by simp))
 clear hl hB1
 go_loopw [6] (fun i wr => ((i = .int .i64 0 ∧ Hid (True)) ∨ (i = .int .i64 1 ∧ Hid (t0 = false)) ∨ (i = .int .i64 2 ∧ Hid (t0 = false ∧ t1 = false)) ∨ (i = .int .i64 3 ∧ Hid (t0 = false ∧ t1 = false ∧ t2 = false)) ∨ (i = .int .i64 4 ∧ Hid (t0 = false ∧ t1 = false ∧ t2 = false ∧ t3 = false)) ∨ (i = .int .i64 5 ∧ Hid (t0 = false ∧ t1 = false ∧ t2 = false ∧ t3 = false ∧ t4 = false)) ∨ (i = .int .i64 6 ∧ Hid (t0 = false ∧ t1 = false ∧ t2 = false ∧ t3 = false ∧ t4 = false ∧ t5 = false))) ∧ ∃ g : Grow w1, wr = g.x) (fun i _ => 6 - (intOf i).toNat)
 case atStart => exact ⟨.inl ⟨rfl, trivial⟩, Grow.self w1, rfl⟩
 case round =>
  obtain ⟨hi, g, rfl⟩ := hrel
  have hl4 := hl3.mono g.h
  have hB3 : Below w.heap.size w g.x := hB2.trans (g.h.mono hB2.size)
  rcases hi with ⟨rfl, hh⟩ | ⟨rfl, hh⟩ | ⟨rfl, hh⟩ | ⟨rfl, hh⟩ | ⟨rfl, hh⟩ | ⟨rfl, hh⟩ | ⟨rfl, hh⟩
  · have hx : ∀ w : World, (Instr.index 162 (allV (ordV lv k fill nom u)) (.int .i64 0)).run Tryz.prog w = .ok (.func (.func 122) #[ordV lv k fill nom u] #[]) w := fun w => (all_index _ _ _ _ _ _ w).1
    cases ht : t0
    · replace c0 := fun (w1 : World) (h : LookAt w1 lv mv s) => ht ▸ c0 w1 h
      replace ht := Lib.hid ht
      go_wp2_with (go_at_call 122; refine (c0 _ hl4).mono ?_; rintro e w2 ⟨rfl, hB4⟩)
      exact ⟨⟨.inr (.inl ⟨rfl, by unfold Hid; simp [hh.out, ht.out]⟩), g.next hB4⟩, by simp [intOf]⟩
    · replace c0 := fun (w1 : World) (h : LookAt w1 lv mv s) => ht ▸ c0 w1 h
      replace ht := Lib.hid ht
      go_wp2_with (go_at_call 122; refine (c0 _ hl4).mono ?_; rintro e w2 ⟨rfl, hB4⟩)
      refine ⟨rfl, MustPost.yes (q := 2) (by rw [hp.out]; simp [hh.out, ht.out]) (by decide) (hB3.trans (hB4.mono hB3.size))⟩
  · have hx : ∀ w : World, (Instr.index 162 (allV (ordV lv k fill nom u)) (.int .i64 1)).run Tryz.prog w = .ok (.func (.func 123) #[ordV lv k fill nom u] #[]) w := fun w => (all_index _ _ _ _ _ _ w).2.1
    cases ht : t1
    · replace c1 := fun (w1 : World) (h : LookAt w1 lv mv s) => ht ▸ c1 w1 h
      replace ht := Lib.hid ht
      go_wp2_with (go_at_call 123; refine (c1 _ hl4).mono ?_; rintro e w2 ⟨rfl, hB4⟩)
      exact ⟨⟨.inr (.inr (.inl ⟨rfl, by unfold Hid; simp [hh.out, ht.out]⟩)), g.next hB4⟩, by simp [intOf]⟩
    · replace c1 := fun (w1 : World) (h : LookAt w1 lv mv s) => ht ▸ c1 w1 h
      replace ht := Lib.hid ht
      go_wp2_with (go_at_call 123; refine (c1 _ hl4).mono ?_; rintro e w2 ⟨rfl, hB4⟩)
      refine ⟨rfl, MustPost.yes (q := 3) (by rw [hp.out]; simp [hh.out, ht.out]) (by decide) (hB3.trans (hB4.mono hB3.size))⟩
  · have hx : ∀ w : World, (Instr.index 162 (allV (ordV lv k fill nom u)) (.int .i64 2)).run Tryz.prog w = .ok (.func (.func 124) #[ordV lv k fill nom u] #[]) w := fun w => (all_index _ _ _ _ _ _ w).2.2.1
    cases ht : t2
    · replace c2 := fun (w1 : World) (h : LookAt w1 lv mv s) => ht ▸ c2 w1 h
      replace ht := Lib.hid ht
      go_wp2_with (go_at_call 124; refine (c2 _ hl4).mono ?_; rintro e w2 ⟨rfl, hB4⟩)
      exact ⟨⟨.inr (.inr (.inr (.inl ⟨rfl, by unfold Hid; simp [hh.out, ht.out]⟩))), g.next hB4⟩, by simp [intOf]⟩
    · replace c2 := fun (w1 : World) (h : LookAt w1 lv mv s) => ht ▸ c2 w1 h
      replace ht := Lib.hid ht
      go_wp2_with (go_at_call 124; refine (c2 _ hl4).mono ?_; rintro e w2 ⟨rfl, hB4⟩)
      refine ⟨rfl, MustPost.yes (q := 4) (by rw [hp.out]; simp [hh.out, ht.out]) (by decide) (hB3.trans (hB4.mono hB3.size))⟩
  · have hx : ∀ w : World, (Instr.index 162 (allV (ordV lv k fill nom u)) (.int .i64 3)).run Tryz.prog w = .ok (.func (.func 125) #[ordV lv k fill nom u] #[]) w := fun w => (all_index _ _ _ _ _ _ w).2.2.2.1
    cases ht : t3
    · replace c3 := fun (w1 : World) (h : LookAt w1 lv mv s) => ht ▸ c3 w1 h
      replace ht := Lib.hid ht
      go_wp2_with (go_at_call 125; refine (c3 _ hl4).mono ?_; rintro e w2 ⟨rfl, hB4⟩)
      exact ⟨⟨.inr (.inr (.inr (.inr (.inl ⟨rfl, by unfold Hid; simp [hh.out, ht.out]⟩)))), g.next hB4⟩, by simp [intOf]⟩
    · replace c3 := fun (w1 : World) (h : LookAt w1 lv mv s) => ht ▸ c3 w1 h
      replace ht := Lib.hid ht
      go_wp2_with (go_at_call 125; refine (c3 _ hl4).mono ?_; rintro e w2 ⟨rfl, hB4⟩)
      refine ⟨rfl, MustPost.yes (q := 5) (by rw [hp.out]; simp [hh.out, ht.out]) (by decide) (hB3.trans (hB4.mono hB3.size))⟩
  · have hx : ∀ w : World, (Instr.index 162 (allV (ordV lv k fill nom u)) (.int .i64 4)).run Tryz.prog w = .ok (.func (.func 126) #[ordV lv k fill nom u] #[]) w := fun w => (all_index _ _ _ _ _ _ w).2.2.2.2.1
    cases ht : t4
    · replace c4 := fun (w1 : World) (h : LookAt w1 lv mv s) => ht ▸ c4 w1 h
      replace ht := Lib.hid ht
      go_wp2_with (go_at_call 126; refine (c4 _ hl4).mono ?_; rintro e w2 ⟨rfl, hB4⟩)
      exact ⟨⟨.inr (.inr (.inr (.inr (.inr (.inl ⟨rfl, by unfold Hid; simp [hh.out, ht.out]⟩))))), g.next hB4⟩, by simp [intOf]⟩
    · replace c4 := fun (w1 : World) (h : LookAt w1 lv mv s) => ht ▸ c4 w1 h
      replace ht := Lib.hid ht
      go_wp2_with (go_at_call 126; refine (c4 _ hl4).mono ?_; rintro e w2 ⟨rfl, hB4⟩)
      refine ⟨rfl, MustPost.yes (q := 6) (by rw [hp.out]; simp [hh.out, ht.out]) (by decide) (hB3.trans (hB4.mono hB3.size))⟩
  · have hx : ∀ w : World, (Instr.index 162 (allV (ordV lv k fill nom u)) (.int .i64 5)).run Tryz.prog w = .ok (.func (.func 127) #[ordV lv k fill nom u] #[]) w := fun w => (all_index _ _ _ _ _ _ w).2.2.2.2.2
    cases ht : t5
    · replace c5 := fun (w1 : World) (h : LookAt w1 lv mv s) => ht ▸ c5 w1 h
      replace ht := Lib.hid ht
      go_wp2_with (go_at_call 127; refine (c5 _ hl4).mono ?_; rintro e w2 ⟨rfl, hB4⟩)
      exact ⟨⟨.inr (.inr (.inr (.inr (.inr (.inr (⟨rfl, by unfold Hid; simp [hh.out, ht.out]⟩)))))), g.next hB4⟩, by simp [intOf]⟩
    · replace c5 := fun (w1 : World) (h : LookAt w1 lv mv s) => ht ▸ c5 w1 h
      replace ht := Lib.hid ht
      go_wp2_with (go_at_call 127; refine (c5 _ hl4).mono ?_; rintro e w2 ⟨rfl, hB4⟩)
      refine ⟨rfl, MustPost.yes (q := 7) (by rw [hp.out]; simp [hh.out, ht.out]) (by decide) (hB3.trans (hB4.mono hB3.size))⟩
  · go_wp2
    go_end0
    exact MustPost.no (by rw [hp.out]; simp [hh.out]) hB3
end Go.Proofs.YthjmdagonfeneaaGreat.S
set_option linter.unusedVariables false
set_option linter.unusedSimpArgs false
namespace Go.Proofs.YthjmdagonfeneaaGreat.S
open Go.RowKit Go.Sd
theorem infoInt : (Tryz.prog.info? 3).map (fun i => (i.zero, i.size, i.bytes)) = some (some (.int .i64 0), 1, 8) := by kernel_rfl
def OwnInts (B : Nat) (w : World) (v : Value) (xs : List Int) : Prop := w.ownsRow B 3 1 v xs.length (xs.map (Value.int .i64))
theorem OwnInts.nil (B : Nat) (w : World) : OwnInts B w (.slice none 0 0) [] := World.ownsRow_nil w B _ 1
theorem OwnInts.lt {B : Nat} {w : World} {v : Value} {xs : List Int} (h : OwnInts B w v xs) : ∀ k, v.ownBlock = some k → B ≤ k ∧ k < w.heap.size := World.ownsRow.lt h
theorem OwnInts.kept {B : Nat} {w w' : World} {row : Option Nat} {v : Value} {xs : List Int} (h : OwnInts B w v xs) (hg : w.grownBy w' row) (hne : v.ownBlock = none ∨ v.ownBlock ≠ row) : OwnInts B w' v xs := World.ownsRow.kept h hg hne
theorem grown_of_below {w w' : World} (h : Below w.heap.size w w') : w.grownBy w' none :=
 ⟨h.os, h.tape, h.output, h.size, fun k hk _ => h.block k hk⟩
theorem OwnInts.mono {B : Nat} {w w' : World} {v : Value} {xs : List Int} (h : OwnInts B w v xs) (hb : Below w.heap.size w w') : OwnInts B w' v xs :=
 h.kept (grown_of_below hb) (by cases v.ownBlock <;> simp)
theorem OwnInts.from {B B' : Nat} {w : World} {v : Value} {xs : List Int} (h : OwnInts B w v xs) (hB : B' ≤ B) : OwnInts B' w v xs := by
 obtain ⟨h1, h2⟩ := h
 refine ⟨h1, ?_⟩
 rcases h2 with h2 | ⟨g, cap, cur, hv, hg, r⟩
 · exact .inl h2
 · exact .inr ⟨g, cap, cur, hv, by omega, r⟩
theorem OwnInts.at {B : Nat} {w : World} {v : Value} {xs : List Int} (h : OwnInts B w v xs) : IntsAt w v xs := by
 obtain ⟨_, h2⟩ := h
 rcases h2 with ⟨rfl, h0⟩ | ⟨g, cap, cur, rfl, hB, hg, hn, hm, hs, ht⟩
 · refine ⟨none, 0, by rw [h0], by simp [h0], fun h => by omega⟩
 · refine ⟨some ⟨g, 0, none⟩, cap, rfl, by omega, fun _ => ⟨g, 0, rfl, (zqo hg), fun k hk => ?_⟩⟩
   rw [Nat.zero_add, cell_of_row w g k cur _ (0, 0) hg]
   have h1 : (cur.toList.take (xs.length * 1))[k]? = (xs.map (Value.int .i64))[k]? := by rw [ht]
   rw [List.getElem?_take, if_pos (by omega)] at h1
   simp only [List.getElem?_map, List.getElem?_eq_getElem hk, Option.map_some] at h1
   rw [← Array.getElem?_toList, h1]
   simp [Sea.at0, hk]
theorem own_more {B : Nat} {w : World} {v : Value} {xs : List Int} {y : Int} (h : w.ownsRow B 3 1 v (xs.length + 1) (xs.map (Value.int .i64) ++ [.int .i64 y])) : OwnInts B w v (xs ++ [y]) := by
 unfold OwnInts
 simpa using h
theorem below_append {B : Nat} {W w w' : World} {v : Value} {xs : List Int} (hb : Below B W w) (hB : B ≤ w.heap.size) (ho : OwnInts B w v xs) (hg : w.grownBy w' v.ownBlock) : Below B W w' :=
 hb.grown hg hB fun k hk => (ho.lt k hk).1
theorem grownBy_trans {a b c : World} {row : Option Nat} (h : a.grownBy b row) (k : b.grownBy c row) : a.grownBy c row :=
 ⟨k.os.trans h.os, k.tape.trans h.tape, k.output.trans h.output, Nat.le_trans h.size k.size, fun i hi hne => (k.block i (Nat.lt_of_lt_of_le hi h.size) hne).trans (h.block i hi hne)⟩
theorem wpList_app_int {ops : Array Oper} {rest : List Oper} {o : Oper} {a : Act} {Q : Exit → Act → World → Prop} (hgd : o.guard = none) (s x : Operand)
    (ho : o.op = .call { callee := .builtin .append, args := #[s, x], argTypes := #[28, 28] })
    (B : Nat) (w : World) (v : Value) (xs : List Int) (y : Int) (hs : a.eval s = v) (hown : OwnInts B w v xs) (hx : a.eval x = .slice (some ⟨w.heap.size, 0, none⟩) 1 1)
    (hn : xs.length ≤ 1000000) (hB : B ≤ w.heap.size)
    (h : ∀ v' w', OwnInts B w' v' (xs ++ [y]) → w.grownBy w' v.ownBlock → v' ≠ .slice none 0 0 → (v'.ownBlock = v.ownBlock ∨ ∃ m, v'.ownBlock = some m ∧ w.heap.size ≤ m) → wpList Tryz.prog ops Q rest (a.put o.dst v') w') :
    wpList Tryz.prog ops Q (o :: rest) a (w.alloc (.cells #[.int .i64 y] 3)) := by
 obtain ⟨i0, hi, hz0, hz1, hz2⟩ := info_parts infoInt
 refine wpList_append_own_at _ hgd s x 28 ho B 3 i0 (.int .i64 0) 1 8 Tryz.underlying28 hi hz0 hz1 hz2 rfl (by decide) v xs.length _ hs (World.ownsRow.alloc hown _) ⟨w.heap.size, 0, none⟩ 1 1 [.int .i64 y] hx rfl ?_ ?_ ?_ ?_ ?_ ?_
 · exact cell_one_new _ _ _
 · simp [Value.oneCell']
 · unfold maxLen; omega
 · omega
 · simp; omega
 · intro v' w' h1 h2 h3 h4
   refine h v' w' (own_more h1) (grownBy_trans (World.grownBy_alloc w _ _) h2) (fun e => by have := h3.1 e; omega) ?_
   rcases h4 with h4 | h4
   · exact .inl h4
   · exact .inr ⟨_, h4, by simp⟩
end Go.Proofs.YthjmdagonfeneaaGreat.S
namespace Go.Proofs.YthjmdagonfeneaaGreat.S
open Go.RowKit Go.Sd
def valAt (vs : List Value) (i : Nat) : Value := vs.getD i (.slice none 0 0)
structure OwnMat (B b : Nat) (w : World) (vs : List Value) (rows : List (List Int)) : Prop where
 heap : w.heap[b]? = some (.cells vs.toArray 28)
 len : vs.length = rows.length
 low : B ≤ b
 own : ∀ i, i < rows.length → OwnInts B w (valAt vs i) (Sea.lstAt rows i)
 ne : ∀ i, i < rows.length → (valAt vs i).ownBlock ≠ some b
 apart : ∀ i j, i < rows.length → j < rows.length → i ≠ j → (valAt vs i).ownBlock = none ∨ (valAt vs i).ownBlock ≠ (valAt vs j).ownBlock
theorem OwnMat.grown {B b : Nat} {w w' : World} {vs : List Value} {rows : List (List Int)} (h : OwnMat B b w vs rows) (hg : w.grownBy w' none) : OwnMat B b w' vs rows :=
 ⟨(hg.block b (zqo h.heap) (by simp)).trans h.heap, h.len, h.low, fun i hi => (h.own i hi).kept hg (by cases (valAt vs i).ownBlock <;> simp), h.ne, h.apart⟩
theorem OwnMat.mono {B b : Nat} {w w' : World} {vs : List Value} {rows : List (List Int)} (h : OwnMat B b w vs rows) (hb : Below w.heap.size w w') : OwnMat B b w' vs rows := h.grown (grown_of_below hb)
theorem valAt_set {vs : List Value} {i j : Nat} {v : Value} (hi : i < vs.length) : valAt (vs.set i v) j = if j = i then v else valAt vs j := by
 unfold valAt
 by_cases h : j = i
 · subst h; simp [hi]
 · simp [h, List.getElem?_set, Ne.symm h]
theorem lstAt_set {rows : List (List Int)} {i j : Nat} {v : List Int} (hi : i < rows.length) : Sea.lstAt (rows.set i v) j = if j = i then v else Sea.lstAt rows j := by
 unfold Sea.lstAt
 by_cases h : j = i
 · subst h; simp [hi]
 · simp [h, List.getElem?_set, Ne.symm h]
theorem OwnMat.more {B b : Nat} {w w1 : World} {vs : List Value} {rows : List (List Int)} {i : Nat} {v' : Value} {y : Int} (h : OwnMat B b w vs rows) (hi : i < rows.length)
    (hg : w.grownBy w1 (valAt vs i).ownBlock) (ho : OwnInts B w1 v' (Sea.lstAt rows i ++ [y])) (hat : v'.ownBlock = (valAt vs i).ownBlock ∨ ∃ m, v'.ownBlock = some m ∧ w.heap.size ≤ m) :
    OwnMat B b (w1.setCell ⟨b, i, none⟩ v') (vs.set i v') (rows.set i (Sea.lstAt rows i ++ [y])) := by
 have hiv : i < vs.length := by rw [h.len]; exact hi
 have hlt := (zqo h.heap)
 have hb1 : w1.heap[b]? = some (.cells vs.toArray 28) := (hg.block b hlt (Ne.symm (h.ne i hi))).trans h.heap
 have hv'b : v'.ownBlock ≠ some b := by
  rcases hat with e | ⟨m, e, hm⟩
  · rw [e]; exact h.ne i hi
  · rw [e]; intro h'; cases h'; omega
 have hset : w1.grownBy (w1.setCell ⟨b, i, none⟩ v') (some b) := ⟨rfl, rfl, rfl, by simp [World.setCell], fun k _ hk => Below.heap_setCell _ _ _ _ (fun e => hk (by rw [e]))⟩
 have away : ∀ j, j < rows.length → j ≠ i → (valAt vs j).ownBlock = none ∨ (valAt vs j).ownBlock ≠ v'.ownBlock := by
  intro j hj hji
  rcases hat with e | ⟨m, e, hm⟩
  · rw [e]; exact h.apart j i hj hi hji
  · rw [e]
    cases hq : (valAt vs j).ownBlock with
    | none => exact .inl rfl
    | some q => exact .inr (by have := ((h.own j hj).lt q hq).2; intro h'; cases h'; omega)
 refine ⟨?_, by simp [h.len], h.low, ?_, ?_, ?_⟩
 · simp only [World.setCell, Array.getElem?_modify, if_true, hb1]
   simp
 · intro j hj
   rw [List.length_set] at hj
   rw [valAt_set hiv, lstAt_set hi]
   by_cases hji : j = i
   · rw [if_pos hji, if_pos hji]
     exact ho.kept hset (.inr hv'b)
   · rw [if_neg hji, if_neg hji]
     exact ((h.own j hj).kept hg (h.apart j i hj hi hji)).kept hset (.inr (h.ne j hj))
 · intro j hj
   rw [List.length_set] at hj
   rw [valAt_set hiv]
   by_cases hji : j = i
   · rw [if_pos hji]; exact hv'b
   · rw [if_neg hji]; exact h.ne j hj
 · intro j k hj hk hjk
   rw [List.length_set] at hj hk
   rw [valAt_set hiv, valAt_set hiv]
   by_cases hji : j = i
   · by_cases hki : k = i
     · omega
     · rw [if_pos hji, if_neg hki]
       rcases away k hk hki with e | e
       · rw [e]; cases hq : v'.ownBlock with
         | none => exact .inl rfl
         | some q => exact .inr (by simp)
       · exact .inr (Ne.symm e)
   · by_cases hki : k = i
     · rw [if_neg hji, if_pos hki]; exact away j hj hji
     · rw [if_neg hji, if_neg hki]; exact h.apart j k hj hk hjk
theorem OwnMat.made (B n : Nat) (w : World) (hB : B ≤ w.heap.size) : OwnMat B w.heap.size (w.alloc (.cells (Array.replicate n (.slice none 0 0)) 28)) (List.replicate n (.slice none 0 0)) (List.replicate n []) := by
 have hv : ∀ i, valAt (List.replicate n (.slice none 0 0)) i = .slice none 0 0 := by
  intro i; unfold valAt; by_cases h : i < n <;> simp [h]
 refine ⟨(World.alloc_heap_new _ _).trans (by simp), by simp, hB, ?_, ?_, ?_⟩
 · intro i hi
   rw [hv]
   have : Sea.lstAt (List.replicate n ([] : List Int)) i = [] := by unfold Sea.lstAt; by_cases h : i < n <;> simp [h]
   rw [this]
   exact OwnInts.nil _ _
 · intro i _; rw [hv]; simp [Value.ownBlock]
 · intro i j _ _ _; rw [hv]; exact .inl rfl
end Go.Proofs.YthjmdagonfeneaaGreat.S
namespace Go.Proofs.YthjmdagonfeneaaGreat.S
open Go.RowKit Go.Sd
def TabAt (B b : Nat) (bad : List Nat) (w : World) (rows : List (List Int)) : Prop :=
 ∃ vs, OwnMat B b w vs rows ∧ ∀ i, i < rows.length → ∀ k, k ∈ bad → (valAt vs i).ownBlock ≠ some k
theorem TabAt.mono {B b : Nat} {bad : List Nat} {w w' : World} {rows : List (List Int)} (h : TabAt B b bad w rows) (hb : Below w.heap.size w w') : TabAt B b bad w' rows := by
 obtain ⟨vs, h1, h2⟩ := h
 exact ⟨vs, h1.mono hb, h2⟩
theorem TabAt.add {B b : Nat} {bad : List Nat} {w : World} {rows : List (List Int)} (h : TabAt B b bad w rows) {m : Nat} (hm : w.heap.size ≤ m) : TabAt B b (m :: bad) w rows := by
 obtain ⟨vs, h1, h2⟩ := h
 refine ⟨vs, h1, fun i hi k hk e => ?_⟩
 rcases List.mem_cons.1 hk with rfl | hk
 · have := ((h1.own i hi).lt _ e).2; omega
 · exact h2 i hi k hk e
theorem TabAt.less {B b : Nat} {bad bad' : List Nat} {w : World} {rows : List (List Int)} (h : TabAt B b bad w rows) (hs : ∀ k, k ∈ bad' → k ∈ bad) : TabAt B b bad' w rows := by
 obtain ⟨vs, h1, h2⟩ := h
 exact ⟨vs, h1, fun i hi k hk => h2 i hi k (hs k hk)⟩
theorem OwnInts.same {B : Nat} {w w' : World} {v : Value} {xs : List Int} (h : OwnInts B w v xs) (hb : ∀ k, v.ownBlock = some k → w'.heap[k]? = w.heap[k]?) : OwnInts B w' v xs := by
 obtain ⟨h1, h2⟩ := h
 refine ⟨h1, ?_⟩
 rcases h2 with h2 | ⟨g, cap, cur, rfl, hB, hg, r⟩
 · exact .inl h2
 · exact .inr ⟨g, cap, cur, rfl, hB, (hb g rfl).trans hg, r⟩
theorem tab_more {B b : Nat} {bad : List Nat} {w w1 : World} {vs : List Value} {rows : List (List Int)} {i : Nat} {g cap : Nat} {y : Int} (h : OwnMat B b w vs rows) (hbad : ∀ i, i < rows.length → ∀ k, k ∈ bad → (valAt vs i).ownBlock ≠ some k)
    (hi : i < rows.length) (hlt : ∀ k, k ∈ bad → k < w.heap.size) (hbb : b ∉ bad) {n : Nat} (hn : n = (Sea.lstAt rows i).length)
    (hown : w1.ownsRow B 3 1 (.slice (some ⟨g, 0, none⟩) (n + 1) cap) (n + 1) ((Sea.lstAt rows i).map (Value.int .i64) ++ [.int .i64 y]))
    (hg : w.grownBy w1 (valAt vs i).ownBlock) (hat : (valAt vs i).ownBlock = some g ∨ w.heap.size ≤ g) :
    TabAt B b bad (w1.setCell ⟨b, i, none⟩ (.slice (some ⟨g, 0, none⟩) (n + 1) cap)) (rows.set i (Sea.lstAt rows i ++ [y])) ∧
     Kept (fun k => k < B ∨ k ∈ bad) w (w1.setCell ⟨b, i, none⟩ (.slice (some ⟨g, 0, none⟩) (n + 1) cap)) := by
 subst hn
 have hiv : i < vs.length := by rw [h.len]; exact hi
 have hm := h.more (i := i) (y := y) hi hg (own_more hown) (by rcases hat with e | e; exact .inl e.symm; exact .inr ⟨g, rfl, e⟩)
 refine ⟨⟨_, hm, ?_⟩, ?_⟩
 · intro j hj k hk
   rw [List.length_set] at hj
   rw [valAt_set hiv]
   by_cases hji : j = i
   · rw [if_pos hji]
     show some g ≠ _
     rcases hat with e | e
     · rw [← e]; exact hbad i hi k hk
     · intro h'; cases h'; have := hlt g hk; omega
   · rw [if_neg hji]; exact hbad j hj k hk
 · refine (Kept.grown hg ?_).setCell (p := ⟨b, i, none⟩) (.inl ?_) _
   · rintro k - (hk | hk) e
     · have := ((h.own i hi).lt k e.symm).1; omega
     · exact hbad i hi k hk e.symm
   · rintro (hk | hk)
     · have := h.low; have : b < B := hk; omega
     · exact hbb hk
theorem row_len {B b : Nat} {w : World} {vs : List Value} {rows : List (List Int)} (h : OwnMat B b w vs rows) {i : Nat} (hi : i < rows.length) :
    w.cell? ⟨b, i, none⟩ = some (valAt vs i) ∧ w.frozen? ⟨b, i, none⟩ = false := by
 have hvl : i < vs.length := by rw [h.len]; exact hi
 refine ⟨?_, (row_cells h.heap).2.2 _⟩
 rw [(row_cells h.heap).2.1]; simp [valAt, hvl]
theorem below_al {X w1 : World} (h : Below X.heap.size X w1) (o : Obj) : Below X.heap.size X (w1.alloc o) := h.alloc h.size o
theorem below_tr {X w1 w2 : World} (h : Below X.heap.size X w1) (h2 : Below w1.heap.size w1 w2) : Below X.heap.size X w2 := h.trans (h2.mono h.size)
theorem block_on {w w1 : World} {o : Obj} {n : Nat} (h : Below w.heap.size w w1) (hn : w.heap[n]? = some o) : w1.heap[n]? = some o :=
 (h.block _ (zqo hn)).trans hn
def boxInt (p : Value) (w : World) : Int := match p with | .pointer (some a) => intOf ((w.cell? a).getD (.int .i64 0)) | _ => 0
theorem boxInt_of {w : World} {b o : Nat} {n : Int} (h : w.cell? ⟨b, o, none⟩ = some (.int .i64 n)) : boxInt (.pointer (some ⟨b, o, none⟩)) w = n := by
 show intOf ((w.cell? ⟨b, o, none⟩).getD _) = n
 rw [h]; rfl
end Go.Proofs.YthjmdagonfeneaaGreat.S
