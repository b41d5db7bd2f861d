/- Walks: the first rule that an order breaks (the program: a panic that is recovered). -/
import Derived.Test.YtacajmpggjgaiaaP3
import Derived.Recover
import Derived.Laws.Pointers
set_option linter.unusedVariables false
set_option linter.unusedSimpArgs false
namespace Go.Proofs.Ytacajmpggjgaiaa
open Go.RowKit Go.Sd

theorem rule_tests (s : Sea.S) (k : Nat) (fill nom u : Int) : s.rule k fill nom u = if decide ((Sea.dayAt s.days k).offer < u) = true then 2 else if decide ((Sea.dayAt s.days k).take < -u) = true then 3 else if decide ((s.lim fill).inn < nom + u) = true then 4 else
    if decide ((s.lim fill).out < -nom - u) = true then 5 else if (!Sea.inB (fill + nom + u) (Sea.dayAt s.days k).glo (Sea.dayAt s.days k).ghi) = true then 6 else if (decide ((k : Int) = (s.days.length : Int) - 1) && !Sea.inB (fill + nom + u) s.elo s.ehi) = true then 7 else 1 := by
  unfold Sea.S.rule
  simp

/-- What an order gives up with. -/
abbrev brokenV (r : Int) : Value := .iface 123 (.agg #[.int .i64 r])
/-- What must leaves: nothing, or a panic with the rule. -/
def MustPost (r : Int) (w : World) (e : Ending) (w' : World) : Prop := (if r = 1 then e = .returned (.tuple #[]) else e = .panicked [{ v := brokenV r, recovered := false }]) ∧ Below w.heap.size w w'
theorem MustPost.no {r : Int} {w w' : World} (h : r = 1) (hb : Below w.heap.size w w') : MustPost r w (.returned (.tuple #[])) w' := ⟨by rw [if_pos h], hb⟩
theorem MustPost.yes {r q : Int} {w w' : World} (h : r = q) (hq : q ≠ 1) (hb : Below w.heap.size w w') : MustPost r w (.panicked [{ v := brokenV q, recovered := false }]) w' := by subst h; exact ⟨by rw [if_neg hq], hb⟩

set_option maxRecDepth 100000 in
set_option maxHeartbeats 4000000 in
theorem progMust (lv mv : Value) (s : Sea.S) (k : Nat) (fill nom u : Int) (w : World) (hl : LookAt w lv mv s) (hk : k < s.days.length) (ok : Sea.Ok s)
    (b1 : 0 ≤ fill ∧ fill ≤ 100) (b2 : -100 ≤ nom ∧ nom ≤ 100) (b3 : -100 ≤ u ∧ u ≤ 100) :
    Calls Try.prog 91 #[ordV lv k fill nom u] w (MustPost (s.rule k fill nom u) w) := by
  have hp := rule_tests s k fill nom u
  have c0 := fun (w1 : World) (h : LookAt w1 lv mv s) => progBuys lv mv s k fill nom u w1 h hk
  have c1 := fun (w1 : World) (h : LookAt w1 lv mv s) => progSells lv mv s k fill nom u w1 h hk b3
  have c2 := fun (w1 : World) (h : LookAt w1 lv mv s) => progComes lv mv s k fill nom u w1 h hk ok b1 b2 b3
  have c3 := fun (w1 : World) (h : LookAt w1 lv mv s) => progGoes lv mv s k fill nom u w1 h hk ok b1 b2 b3
  have c4 := fun (w1 : World) (h : LookAt w1 lv mv s) => progGate lv mv s k fill nom u w1 h hk b1 b2 b3
  have c5 := fun (w1 : World) (h : LookAt w1 lv mv s) => progEnd lv mv s k fill nom u w1 h hk b1 b2 b3
  generalize decide ((Sea.dayAt s.days k).offer < u) = t0 at hp c0
  generalize decide ((Sea.dayAt s.days k).take < -u) = t1 at hp c1
  generalize decide ((s.lim fill).inn < nom + u) = t2 at hp c2
  generalize decide ((s.lim fill).out < -nom - u) = t3 at hp c3
  generalize (!Sea.inB (fill + nom + u) (Sea.dayAt s.days k).glo (Sea.dayAt s.days k).ghi) = t4 at hp c4
  generalize (decide ((k : Int) = (s.days.length : Int) - 1) && !Sea.inB (fill + nom + u) s.elo s.ehi) = t5 at hp c5
  generalize s.rule k fill nom u = r at *
  replace hp := Lib.hid hp
  go_enter Try.func91, Try.ntmps91
  go_wp2_with (go_at_call 93; refine (progAll _ _ _ _ _ _).mono ?_; rintro e w1 ⟨rfl, hB1⟩)
  have hl3 := (hl.mono ((Below.refl _ _).alloc (Nat.le_refl _) _)).mono hB1
  have hB2 : Below w.heap.size w w1 := ((Below.refl _ _).alloc (Nat.le_refl _) _).trans (hB1.mono (by simp))
  clear hl hB1
  go_loopw [6] (fun i wr => ((i = .int .i64 0 ∧ Hid (True)) ∨ (i = .int .i64 1 ∧ Hid (t0 = false)) ∨ (i = .int .i64 2 ∧ Hid (t0 = false ∧ t1 = false)) ∨ (i = .int .i64 3 ∧ Hid (t0 = false ∧ t1 = false ∧ t2 = false)) ∨ (i = .int .i64 4 ∧ Hid (t0 = false ∧ t1 = false ∧ t2 = false ∧ t3 = false)) ∨ (i = .int .i64 5 ∧ Hid (t0 = false ∧ t1 = false ∧ t2 = false ∧ t3 = false ∧ t4 = false)) ∨ (i = .int .i64 6 ∧ Hid (t0 = false ∧ t1 = false ∧ t2 = false ∧ t3 = false ∧ t4 = false ∧ t5 = false))) ∧ ∃ g : Grow w1, wr = g.x) (fun i _ => 6 - (intOf i).toNat)
  case atStart => exact ⟨.inl ⟨rfl, trivial⟩, Grow.self w1, rfl⟩
  case round =>
    obtain ⟨hi, g, rfl⟩ := hrel
    have hl4 := hl3.mono g.h
    have hB3 : Below w.heap.size w g.x := hB2.trans (g.h.mono hB2.size)
    rcases hi with ⟨rfl, hh⟩ | ⟨rfl, hh⟩ | ⟨rfl, hh⟩ | ⟨rfl, hh⟩ | ⟨rfl, hh⟩ | ⟨rfl, hh⟩ | ⟨rfl, hh⟩
    · have hx : ∀ w : World, (Instr.index 125 (allV (ordV lv k fill nom u)) (.int .i64 0)).run Try.prog w = .ok (.func (.func 95) #[ordV lv k fill nom u] #[]) w := fun w => (all_index _ _ _ _ _ _ w).1
      cases ht : t0
      · replace c0 := fun (w1 : World) (h : LookAt w1 lv mv s) => ht ▸ c0 w1 h
        replace ht := Lib.hid ht
        go_wp2_with (go_at_call 95; refine (c0 _ hl4).mono ?_; rintro e w2 ⟨rfl, hB4⟩)
        exact ⟨⟨.inr (.inl ⟨rfl, by unfold Hid; simp [hh.out, ht.out]⟩), g.next hB4⟩, by simp [intOf]⟩
      · replace c0 := fun (w1 : World) (h : LookAt w1 lv mv s) => ht ▸ c0 w1 h
        replace ht := Lib.hid ht
        go_wp2_with (go_at_call 95; refine (c0 _ hl4).mono ?_; rintro e w2 ⟨rfl, hB4⟩)
        refine ⟨rfl, MustPost.yes (q := 2) (by rw [hp.out]; simp [hh.out, ht.out]) (by decide) (hB3.trans (hB4.mono hB3.size))⟩
    · have hx : ∀ w : World, (Instr.index 125 (allV (ordV lv k fill nom u)) (.int .i64 1)).run Try.prog w = .ok (.func (.func 96) #[ordV lv k fill nom u] #[]) w := fun w => (all_index _ _ _ _ _ _ w).2.1
      cases ht : t1
      · replace c1 := fun (w1 : World) (h : LookAt w1 lv mv s) => ht ▸ c1 w1 h
        replace ht := Lib.hid ht
        go_wp2_with (go_at_call 96; refine (c1 _ hl4).mono ?_; rintro e w2 ⟨rfl, hB4⟩)
        exact ⟨⟨.inr (.inr (.inl ⟨rfl, by unfold Hid; simp [hh.out, ht.out]⟩)), g.next hB4⟩, by simp [intOf]⟩
      · replace c1 := fun (w1 : World) (h : LookAt w1 lv mv s) => ht ▸ c1 w1 h
        replace ht := Lib.hid ht
        go_wp2_with (go_at_call 96; refine (c1 _ hl4).mono ?_; rintro e w2 ⟨rfl, hB4⟩)
        refine ⟨rfl, MustPost.yes (q := 3) (by rw [hp.out]; simp [hh.out, ht.out]) (by decide) (hB3.trans (hB4.mono hB3.size))⟩
    · have hx : ∀ w : World, (Instr.index 125 (allV (ordV lv k fill nom u)) (.int .i64 2)).run Try.prog w = .ok (.func (.func 97) #[ordV lv k fill nom u] #[]) w := fun w => (all_index _ _ _ _ _ _ w).2.2.1
      cases ht : t2
      · replace c2 := fun (w1 : World) (h : LookAt w1 lv mv s) => ht ▸ c2 w1 h
        replace ht := Lib.hid ht
        go_wp2_with (go_at_call 97; refine (c2 _ hl4).mono ?_; rintro e w2 ⟨rfl, hB4⟩)
        exact ⟨⟨.inr (.inr (.inr (.inl ⟨rfl, by unfold Hid; simp [hh.out, ht.out]⟩))), g.next hB4⟩, by simp [intOf]⟩
      · replace c2 := fun (w1 : World) (h : LookAt w1 lv mv s) => ht ▸ c2 w1 h
        replace ht := Lib.hid ht
        go_wp2_with (go_at_call 97; refine (c2 _ hl4).mono ?_; rintro e w2 ⟨rfl, hB4⟩)
        refine ⟨rfl, MustPost.yes (q := 4) (by rw [hp.out]; simp [hh.out, ht.out]) (by decide) (hB3.trans (hB4.mono hB3.size))⟩
    · have hx : ∀ w : World, (Instr.index 125 (allV (ordV lv k fill nom u)) (.int .i64 3)).run Try.prog w = .ok (.func (.func 98) #[ordV lv k fill nom u] #[]) w := fun w => (all_index _ _ _ _ _ _ w).2.2.2.1
      cases ht : t3
      · replace c3 := fun (w1 : World) (h : LookAt w1 lv mv s) => ht ▸ c3 w1 h
        replace ht := Lib.hid ht
        go_wp2_with (go_at_call 98; refine (c3 _ hl4).mono ?_; rintro e w2 ⟨rfl, hB4⟩)
        exact ⟨⟨.inr (.inr (.inr (.inr (.inl ⟨rfl, by unfold Hid; simp [hh.out, ht.out]⟩)))), g.next hB4⟩, by simp [intOf]⟩
      · replace c3 := fun (w1 : World) (h : LookAt w1 lv mv s) => ht ▸ c3 w1 h
        replace ht := Lib.hid ht
        go_wp2_with (go_at_call 98; refine (c3 _ hl4).mono ?_; rintro e w2 ⟨rfl, hB4⟩)
        refine ⟨rfl, MustPost.yes (q := 5) (by rw [hp.out]; simp [hh.out, ht.out]) (by decide) (hB3.trans (hB4.mono hB3.size))⟩
    · have hx : ∀ w : World, (Instr.index 125 (allV (ordV lv k fill nom u)) (.int .i64 4)).run Try.prog w = .ok (.func (.func 99) #[ordV lv k fill nom u] #[]) w := fun w => (all_index _ _ _ _ _ _ w).2.2.2.2.1
      cases ht : t4
      · replace c4 := fun (w1 : World) (h : LookAt w1 lv mv s) => ht ▸ c4 w1 h
        replace ht := Lib.hid ht
        go_wp2_with (go_at_call 99; refine (c4 _ hl4).mono ?_; rintro e w2 ⟨rfl, hB4⟩)
        exact ⟨⟨.inr (.inr (.inr (.inr (.inr (.inl ⟨rfl, by unfold Hid; simp [hh.out, ht.out]⟩))))), g.next hB4⟩, by simp [intOf]⟩
      · replace c4 := fun (w1 : World) (h : LookAt w1 lv mv s) => ht ▸ c4 w1 h
        replace ht := Lib.hid ht
        go_wp2_with (go_at_call 99; refine (c4 _ hl4).mono ?_; rintro e w2 ⟨rfl, hB4⟩)
        refine ⟨rfl, MustPost.yes (q := 6) (by rw [hp.out]; simp [hh.out, ht.out]) (by decide) (hB3.trans (hB4.mono hB3.size))⟩
    · have hx : ∀ w : World, (Instr.index 125 (allV (ordV lv k fill nom u)) (.int .i64 5)).run Try.prog w = .ok (.func (.func 100) #[ordV lv k fill nom u] #[]) w := fun w => (all_index _ _ _ _ _ _ w).2.2.2.2.2
      cases ht : t5
      · replace c5 := fun (w1 : World) (h : LookAt w1 lv mv s) => ht ▸ c5 w1 h
        replace ht := Lib.hid ht
        go_wp2_with (go_at_call 100; refine (c5 _ hl4).mono ?_; rintro e w2 ⟨rfl, hB4⟩)
        exact ⟨⟨.inr (.inr (.inr (.inr (.inr (.inr (⟨rfl, by unfold Hid; simp [hh.out, ht.out]⟩)))))), g.next hB4⟩, by simp [intOf]⟩
      · replace c5 := fun (w1 : World) (h : LookAt w1 lv mv s) => ht ▸ c5 w1 h
        replace ht := Lib.hid ht
        go_wp2_with (go_at_call 100; refine (c5 _ hl4).mono ?_; rintro e w2 ⟨rfl, hB4⟩)
        refine ⟨rfl, MustPost.yes (q := 7) (by rw [hp.out]; simp [hh.out, ht.out]) (by decide) (hB3.trans (hB4.mono hB3.size))⟩
    · go_wp2
      go_end0
      exact MustPost.no (by rw [hp.out]; simp [hh.out]) hB3
end Go.Proofs.Ytacajmpggjgaiaa
