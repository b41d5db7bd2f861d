/- Laws and walks: SP3, SP4. -/
import Derived.Test.YtpcamocnlnlgiaaGreatK24
set_option maxRecDepth 100000
set_option maxHeartbeats 16000000
set_option linter.unusedVariables false
set_option linter.unusedSimpArgs false
namespace Go.Proofs.YtpcamocnlnlgiaaGreat.S
open Go.RowKit Go.Sd
abbrev allV (o : Value) : Value := .agg #[.func (.func 127) #[o] #[], .func (.func 128) #[o] #[], .func (.func 129) #[o] #[],
 .func (.func 130) #[o] #[], .func (.func 131) #[o] #[], .func (.func 132) #[o] #[]]
theorem progAll (lv : Value) (k : Nat) (fill nom u : Int) (w : World) :
    Calls Tryz.prog 98 #[ordV lv k fill nom u] w fun e w' => e = .returned (allV (ordV lv k fill nom u)) ∧ Below w.heap.size w w' := by
 go_enter Tryz.func98, Tryz.ntmps98
 go_wp2
 refine bodyPost_ret (v := allV (ordV lv k fill nom u)) (by simp [results, Tryz.results98, go_sem, allV, ordV]) rfl ⟨rfl, ?_⟩
 exact ((Below.refl _ _).alloc (Nat.le_refl _) _).alloc (by simp) _
theorem all_index (a b c d e f : Value) (w : World) : let I := fun i : Int => (Instr.index 172 (.agg #[a, b, c, d, e, f]) (.int .i64 i)).run Tryz.prog w
    I 0 = .ok a w ∧ I 1 = .ok b w ∧ I 2 = .ok c w ∧ I 3 = .ok d w ∧ I 4 = .ok e w ∧ I 5 = .ok f w := ⟨by kernel_rfl, by kernel_rfl, by kernel_rfl, by kernel_rfl, by kernel_rfl, by kernel_rfl⟩
def possB (s : Sea.S) (k : Nat) (fill nom u : Int) : Bool := decide (s.rule k fill nom u = 1)
theorem poss_iff (s : Sea.S) (k : Nat) (fill nom u : Int) : possB s k fill nom u = (!decide ((Sea.dayAt s.days k).offer < u) && !decide ((Sea.dayAt s.days k).take < -u) && !decide ((s.lim fill).inn < nom + u) &&
    !decide ((s.lim fill).out < -nom - u) && !(!Sea.inB (fill + nom + u) (Sea.dayAt s.days k).glo (Sea.dayAt s.days k).ghi) && !(decide ((k : Int) = (s.days.length : Int) - 1) && !Sea.inB (fill + nom + u) s.elo s.ehi)) := by
 unfold possB Sea.S.rule
 by_cases h1 : (Sea.dayAt s.days k).offer < u
 · simp [h1]
 by_cases h2 : (Sea.dayAt s.days k).take < -u
 · simp [h1, h2]
 by_cases h3 : (s.lim fill).inn < nom + u
 · simp [h1, h2, h3]
 by_cases h4 : (s.lim fill).out < -nom - u
 · simp [h1, h2, h3, h4]
 cases h5 : Sea.inB (fill + nom + u) (Sea.dayAt s.days k).glo (Sea.dayAt s.days k).ghi
 · simp [h1, h2, h3, h4]
 by_cases h6 : (k : Int) = (s.days.length : Int) - 1
 · cases h7 : Sea.inB (fill + nom + u) s.elo s.ehi <;> simp [h1, h2, h3, h4, h6]
 · simp [h1, h2, h3, h4, h6]
theorem progPossible (lv mv : Value) (s : Sea.S) (k : Nat) (fill nom u : Int) (w : World) (hl : LookAt w lv mv s) (hk : k < s.days.length) (ok : Sea.Ok s)
    (b1 : 0 ≤ fill ∧ fill ≤ 100) (b2 : -100 ≤ nom ∧ nom ≤ 100) (b3 : -100 ≤ u ∧ u ≤ 100) :
    Calls Tryz.prog 67 #[ordV lv k fill nom u] w fun e w' => e = .returned (.bool (possB s k fill nom u)) ∧ Below w.heap.size w w' := by
 have hp := poss_iff s k fill nom u
 have c0 := fun (w1 : World) (h : LookAt w1 lv mv s) => progBuys lv mv s k fill nom u w1 h hk
 have c1 := fun (w1 : World) (h : LookAt w1 lv mv s) => progSells lv mv s k fill nom u w1 h hk b3
 have c2 := fun (w1 : World) (h : LookAt w1 lv mv s) => progComes lv mv s k fill nom u w1 h hk ok b1 b2 b3
 have c3 := fun (w1 : World) (h : LookAt w1 lv mv s) => progGoes lv mv s k fill nom u w1 h hk ok b1 b2 b3
 have c4 := fun (w1 : World) (h : LookAt w1 lv mv s) => progGate lv mv s k fill nom u w1 h hk b1 b2 b3
 have c5 := fun (w1 : World) (h : LookAt w1 lv mv s) => progEnd lv mv s k fill nom u w1 h hk b1 b2 b3
 generalize decide ((Sea.dayAt s.days k).offer < u) = t0 at hp c0
 generalize decide ((Sea.dayAt s.days k).take < -u) = t1 at hp c1
 generalize decide ((s.lim fill).inn < nom + u) = t2 at hp c2
 generalize decide ((s.lim fill).out < -nom - u) = t3 at hp c3
 generalize (!Sea.inB (fill + nom + u) (Sea.dayAt s.days k).glo (Sea.dayAt s.days k).ghi) = t4 at hp c4
 generalize (decide ((k : Int) = (s.days.length : Int) - 1) && !Sea.inB (fill + nom + u) s.elo s.ehi) = t5 at hp c5
 replace hp := Lib.hid hp
 go_enter Tryz.func67, Tryz.ntmps67
 go_wp2_with (go_at_call 98; refine (progAll _ _ _ _ _ _).mono ?_; rintro e w1 ⟨rfl, hB1⟩)
 have hl3 := (hl.mono ((Below.refl _ _).alloc (Nat.le_refl _) _)).mono hB1
 have hB2 : Below w.heap.size w w1 := ((Below.refl _ _).alloc (Nat.le_refl _) _).trans (hB1.mono (by simp))
 clear hl hB1
 go_loopw [7] (fun i wr => ((i = .int .i64 0 ∧ Hid (True)) ∨ (i = .int .i64 1 ∧ Hid (t0 = false)) ∨ (i = .int .i64 2 ∧ Hid (t0 = false ∧ t1 = false)) ∨ (i = .int .i64 3 ∧ Hid (t0 = false ∧ t1 = false ∧ t2 = false)) ∨ (i = .int .i64 4 ∧ Hid (t0 = false ∧ t1 = false ∧ t2 = false ∧ t3 = false)) ∨ (i = .int .i64 5 ∧ Hid (t0 = false ∧ t1 = false ∧ t2 = false ∧ t3 = false ∧ t4 = false)) ∨ (i = .int .i64 6 ∧ Hid (t0 = false ∧ t1 = false ∧ t2 = false ∧ t3 = false ∧ t4 = false ∧ t5 = false))) ∧ ∃ g : Grow w1, wr = g.x) (fun i _ => 6 - (intOf i).toNat)
 case atStart => exact ⟨.inl ⟨rfl, trivial⟩, Grow.self w1, rfl⟩
 case round =>
  obtain ⟨hi, g, rfl⟩ := hrel
  have hl4 := hl3.mono g.h
  have hB3 : Below w.heap.size w g.x := hB2.trans (g.h.mono hB2.size)
  rcases hi with ⟨rfl, hh⟩ | ⟨rfl, hh⟩ | ⟨rfl, hh⟩ | ⟨rfl, hh⟩ | ⟨rfl, hh⟩ | ⟨rfl, hh⟩ | ⟨rfl, hh⟩
  · have hx : ∀ w : World, (Instr.index 172 (allV (ordV lv k fill nom u)) (.int .i64 0)).run Tryz.prog w = .ok (.func (.func 127) #[ordV lv k fill nom u] #[]) w := fun w => (all_index _ _ _ _ _ _ w).1
    cases ht : t0
    · replace c0 := fun (w1 : World) (h : LookAt w1 lv mv s) => ht ▸ c0 w1 h
      replace ht := Lib.hid ht
      go_wp2_with (go_at_call 127; refine (c0 _ hl4).mono ?_; rintro e w2 ⟨rfl, hB4⟩)
      exact ⟨⟨.inr (.inl ⟨rfl, by unfold Hid; simp [hh.out, ht.out]⟩), g.next hB4⟩, by simp [intOf]⟩
    · replace c0 := fun (w1 : World) (h : LookAt w1 lv mv s) => ht ▸ c0 w1 h
      replace ht := Lib.hid ht
      go_wp2_with (go_at_call 127; refine (c0 _ hl4).mono ?_; rintro e w2 ⟨rfl, hB4⟩)
      go_ret
      exact ⟨bool_ret (by rw [hp.out]; simp [ht.out]), hB3.trans (hB4.mono hB3.size)⟩
  · have hx : ∀ w : World, (Instr.index 172 (allV (ordV lv k fill nom u)) (.int .i64 1)).run Tryz.prog w = .ok (.func (.func 128) #[ordV lv k fill nom u] #[]) w := fun w => (all_index _ _ _ _ _ _ w).2.1
    cases ht : t1
    · replace c1 := fun (w1 : World) (h : LookAt w1 lv mv s) => ht ▸ c1 w1 h
      replace ht := Lib.hid ht
      go_wp2_with (go_at_call 128; refine (c1 _ hl4).mono ?_; rintro e w2 ⟨rfl, hB4⟩)
      exact ⟨⟨.inr (.inr (.inl ⟨rfl, by unfold Hid; simp [hh.out, ht.out]⟩)), g.next hB4⟩, by simp [intOf]⟩
    · replace c1 := fun (w1 : World) (h : LookAt w1 lv mv s) => ht ▸ c1 w1 h
      replace ht := Lib.hid ht
      go_wp2_with (go_at_call 128; refine (c1 _ hl4).mono ?_; rintro e w2 ⟨rfl, hB4⟩)
      go_ret
      exact ⟨bool_ret (by rw [hp.out]; simp [ht.out]), hB3.trans (hB4.mono hB3.size)⟩
  · have hx : ∀ w : World, (Instr.index 172 (allV (ordV lv k fill nom u)) (.int .i64 2)).run Tryz.prog w = .ok (.func (.func 129) #[ordV lv k fill nom u] #[]) w := fun w => (all_index _ _ _ _ _ _ w).2.2.1
    cases ht : t2
    · replace c2 := fun (w1 : World) (h : LookAt w1 lv mv s) => ht ▸ c2 w1 h
      replace ht := Lib.hid ht
      go_wp2_with (go_at_call 129; refine (c2 _ hl4).mono ?_; rintro e w2 ⟨rfl, hB4⟩)
      exact ⟨⟨.inr (.inr (.inr (.inl ⟨rfl, by unfold Hid; simp [hh.out, ht.out]⟩))), g.next hB4⟩, by simp [intOf]⟩
    · replace c2 := fun (w1 : World) (h : LookAt w1 lv mv s) => ht ▸ c2 w1 h
      replace ht := Lib.hid ht
      go_wp2_with (go_at_call 129; refine (c2 _ hl4).mono ?_; rintro e w2 ⟨rfl, hB4⟩)
      go_ret
      exact ⟨bool_ret (by rw [hp.out]; simp [ht.out]), hB3.trans (hB4.mono hB3.size)⟩
  · have hx : ∀ w : World, (Instr.index 172 (allV (ordV lv k fill nom u)) (.int .i64 3)).run Tryz.prog w = .ok (.func (.func 130) #[ordV lv k fill nom u] #[]) w := fun w => (all_index _ _ _ _ _ _ w).2.2.2.1
    cases ht : t3
    · replace c3 := fun (w1 : World) (h : LookAt w1 lv mv s) => ht ▸ c3 w1 h
      replace ht := Lib.hid ht
      go_wp2_with (go_at_call 130; refine (c3 _ hl4).mono ?_; rintro e w2 ⟨rfl, hB4⟩)
      exact ⟨⟨.inr (.inr (.inr (.inr (.inl ⟨rfl, by unfold Hid; simp [hh.out, ht.out]⟩)))), g.next hB4⟩, by simp [intOf]⟩
    · replace c3 := fun (w1 : World) (h : LookAt w1 lv mv s) => ht ▸ c3 w1 h
      replace ht := Lib.hid ht
      go_wp2_with (go_at_call 130; refine (c3 _ hl4).mono ?_; rintro e w2 ⟨rfl, hB4⟩)
      go_ret
      exact ⟨bool_ret (by rw [hp.out]; simp [ht.out]), hB3.trans (hB4.mono hB3.size)⟩
  · have hx : ∀ w : World, (Instr.index 172 (allV (ordV lv k fill nom u)) (.int .i64 4)).run Tryz.prog w = .ok (.func (.func 131) #[ordV lv k fill nom u] #[]) w := fun w => (all_index _ _ _ _ _ _ w).2.2.2.2.1
    cases ht : t4
    · replace c4 := fun (w1 : World) (h : LookAt w1 lv mv s) => ht ▸ c4 w1 h
      replace ht := Lib.hid ht
      go_wp2_with (go_at_call 131; refine (c4 _ hl4).mono ?_; rintro e w2 ⟨rfl, hB4⟩)
      exact ⟨⟨.inr (.inr (.inr (.inr (.inr (.inl ⟨rfl, by unfold Hid; simp [hh.out, ht.out]⟩))))), g.next hB4⟩, by simp [intOf]⟩
    · replace c4 := fun (w1 : World) (h : LookAt w1 lv mv s) => ht ▸ c4 w1 h
      replace ht := Lib.hid ht
      go_wp2_with (go_at_call 131; refine (c4 _ hl4).mono ?_; rintro e w2 ⟨rfl, hB4⟩)
      go_ret
      exact ⟨bool_ret (by rw [hp.out]; simp [ht.out]), hB3.trans (hB4.mono hB3.size)⟩
  · have hx : ∀ w : World, (Instr.index 172 (allV (ordV lv k fill nom u)) (.int .i64 5)).run Tryz.prog w = .ok (.func (.func 132) #[ordV lv k fill nom u] #[]) w := fun w => (all_index _ _ _ _ _ _ w).2.2.2.2.2
    cases ht : t5
    · replace c5 := fun (w1 : World) (h : LookAt w1 lv mv s) => ht ▸ c5 w1 h
      replace ht := Lib.hid ht
      go_wp2_with (go_at_call 132; refine (c5 _ hl4).mono ?_; rintro e w2 ⟨rfl, hB4⟩)
      exact ⟨⟨.inr (.inr (.inr (.inr (.inr (.inr (⟨rfl, by unfold Hid; simp [hh.out, ht.out]⟩)))))), g.next hB4⟩, by simp [intOf]⟩
    · replace c5 := fun (w1 : World) (h : LookAt w1 lv mv s) => ht ▸ c5 w1 h
      replace ht := Lib.hid ht
      go_wp2_with (go_at_call 132; refine (c5 _ hl4).mono ?_; rintro e w2 ⟨rfl, hB4⟩)
      go_ret
      exact ⟨bool_ret (by rw [hp.out]; simp [ht.out]), hB3.trans (hB4.mono hB3.size)⟩
  · go_wp2
    go_ret
    exact ⟨bool_ret (by rw [hp.out]; simp [hh.out]), hB3⟩
end Go.Proofs.YtpcamocnlnlgiaaGreat.S
set_option linter.unusedVariables false
set_option linter.unusedSimpArgs false
namespace Go.Proofs.YtpcamocnlnlgiaaGreat.S
open Go.RowKit Go.Sd
attribute [local go_sem] Oper.semAt_some
def ordersTo (s : Sea.S) (k : Nat) (fill nom : Int) (j : Nat) : List Int := ((List.range j).map fun (i : Nat) => (i : Int) - (Sea.dayAt s.days k).take).filter (possB s k fill nom)
def ordersOf (s : Sea.S) (k : Nat) (fill nom : Int) : List Int := ordersTo s k fill nom ((Sea.dayAt s.days k).take + (Sea.dayAt s.days k).offer + 1).toNat
theorem ordersTo_yes {s : Sea.S} {k : Nat} {fill nom : Int} {j : Nat} (h : possB s k fill nom ((j : Int) - (Sea.dayAt s.days k).take) = true) : ordersTo s k fill nom (j + 1) = ordersTo s k fill nom j ++ [(j : Int) - (Sea.dayAt s.days k).take] := by
 unfold ordersTo
 rw [List.range_succ, List.map_append, List.filter_append]
 simp [h]
theorem ordersTo_no {s : Sea.S} {k : Nat} {fill nom : Int} {j : Nat} (h : possB s k fill nom ((j : Int) - (Sea.dayAt s.days k).take) = false) : ordersTo s k fill nom (j + 1) = ordersTo s k fill nom j := by
 unfold ordersTo
 rw [List.range_succ, List.map_append, List.filter_append]
 simp [h]
theorem ordersTo_prefix {s : Sea.S} {k : Nat} {fill nom : Int} {i j : Nat} (h : i ≤ j) : ordersTo s k fill nom i <+: ordersTo s k fill nom j := by
 induction j with
 | zero => obtain rfl : i = 0 := by omega
           exact List.prefix_refl _
 | succ j ih =>
  by_cases hi : i = j + 1
  · subst hi; exact List.prefix_refl _
  · have := ih (by omega)
    cases hp : possB s k fill nom ((j : Int) - (Sea.dayAt s.days k).take)
    · rw [ordersTo_no hp]; exact this
    · rw [ordersTo_yes hp]; exact this.trans (List.prefix_append _ _)
theorem orders_yields (mv : Value) (s : Sea.S) (k : Nat) (fill nom : Int) (w : World) (S : Nat → Prop) (lv : Value) (bl bs bn : Nat) (hl : LookAt w lv mv s) (hk : k < s.days.length) (ok : Sea.Ok s)
    (b1 : 0 ≤ fill ∧ fill ≤ 100) (b2 : -100 ≤ nom ∧ nom ≤ 100)
    (c0 : w.cell? ⟨bl, 0, none⟩ = some lv) (c1 : w.cell? ⟨bs, 0, none⟩ = some (.int .i64 k)) (c2 : w.cell? ⟨bs, 1, none⟩ = some (.int .i64 fill)) (c3 : w.cell? ⟨bn, 0, none⟩ = some (.int .i64 nom))
    (hS : ∀ b o v, w.cell? ⟨b, o, none⟩ = some v → S b) :
    Seqs Tryz.prog 66 #[.pointer (some ⟨bl, 0, none⟩), .pointer (some ⟨bs, 0, none⟩), .pointer (some ⟨bn, 0, none⟩)] (fun u : Int => #[ordV lv k fill nom u]) (ordersOf s k fill nom) S w := by
 intro l J Jx W hKW hJ hJx hY h0
 have kcW : Kc w W := ⟨hKW.size, fun b o v h => hKW.cell (hS _ _ _ h) h⟩
 refine callsIn_wide.2 ?_
 have hlW := hl.kc kcW
 have d0 := kcW.cell _ _ _ c0
 have d1 := kcW.cell _ _ _ c1
 have d2 := kcW.cell _ _ _ c2
 have d3 := kcW.cell _ _ _ c3
 have hlW' := hlW
 obtain ⟨lb, rv, dv, rfl, ⟨l0, l1, l2, l3, l4, l5, l6⟩, hlb, hr, hd⟩ := hlW'
 obtain ⟨b, off, cap, rfl, hlt, hm, e0, e1, e2, e3, e4, e5, e6, e7⟩ := day_cells hd hk
 have hk' : (k : Int) < (s.days.length : Int) := by omega
 have hbl := World.block_lt_of_cell? W ⟨bl, 0, none⟩ d0
 have hbs := World.block_lt_of_cell? W ⟨bs, 0, none⟩ d1
 have hbn := World.block_lt_of_cell? W ⟨bn, 0, none⟩ d3
 clear hr hd
 go_enter Tryz.func66, Tryz.ntmps66
 go_wp2
 refine wp_region_vars growth_below (va := [⟨9, 5, 39, #[.int .i64 0, .int .i64 0, .int .i64 0, .int .i64 0, .int .i64 0, .int .i64 0, .int .i64 0, .int .i64 0], 10, .tmp 16⟩]) (by kernel_rfl) (by kernel_rfl) ?_ ?_ (by simp) (fun T f hT hf hcl => ?_)
 · intro p hp w
   simp only [List.mem_cons, List.not_mem_nil, or_false] at hp
   rcases hp with rfl <;> go_simp
 · intro p hp
   simp only [List.mem_cons, List.not_mem_nil, or_false] at hp
   rcases hp with rfl <;> kernel_rfl
 have hg : ∀ (g : T) (b o : Nat), b < W.heap.size → (f g).cell? ⟨b, o, none⟩ = W.cell? ⟨b, o, none⟩ := fun g => below_cell (hf g)
 simp only [lexOf, List.zipIdx_cons, List.zipIdx_nil, List.map_cons, List.map_nil, isMade, List.any_cons, List.any_nil, Nat.reduceAdd, Nat.reduceBEq, Bool.or_false, Bool.false_or, Bool.or_self, Bool.false_eq_true, if_false, if_true, Nat.zero_add, BEq.rfl, Bool.or_true, Bool.true_or]
 simp only [Go.Sd.blank]
 repeat (go_big_quiet_step (fail))
 refine wpQuiet_nil ?_
 refine ⟨?_, ?_⟩
 · intro p hp
   simp only [List.mem_cons, List.not_mem_nil, or_false] at hp
   rcases hp with rfl <;> (constructor <;> simp [go_sem, Value.cells, Value.oneCell'])
 intro ns w' hB hv
 obtain ⟨n1, rfl, hn1, hl1, hc1, hf1⟩ := vars_one hv
 clear hv hf hcl hg
 simp only [placeV, Act.put, List.setIfInBounds_toArray, List.set_cons_zero, List.set_cons_succ]
 simp [go_sem] at hc1
 have hcc := below_cell hB
 have hd := ok.days k (by omega)
 have ho : w'.cell? ⟨n1, 2, none⟩ = some (.int .i64 (Sea.dayAt s.days k).offer) := by simpa using hc1 2
 have hJ1 := hJ _ _ _ h0 hB
 have hK1 : Kept S w w' := hKW.trans (.all hB)
 have hs1 := hB.size
 go_wp2
 clear hcc hc1 hf1 h0 hB d0 d1 d2 d3 l0 l1 l2 l3 l4 l5 l6 e0 e1 e2 e3 e4 e5 e6 e7
 refine (wpIn_wide (n := 0)).1 ?_
 gi_loopw [6] (fun i wr => ∃ j : Nat, (j : Int) ≤ (Sea.dayAt s.days k).take + (Sea.dayAt s.days k).offer + 1 ∧ i = .int .i64 ((j : Int) - (Sea.dayAt s.days k).take) ∧
  wr.cell? ⟨n1, 2, none⟩ = some (.int .i64 (Sea.dayAt s.days k).offer) ∧ Hid (Kept S w wr ∧ W.heap.size ≤ wr.heap.size ∧ J (ordersTo s k fill nom j) wr)) (fun i _ => ((Sea.dayAt s.days k).offer + 1 - intOf i).toNat)
 case atStart => exact ⟨0, by omega, by go_num, ho, hK1, hs1, hJ1⟩
 case round =>
  obtain ⟨j, hj, rfl, ho2, hH⟩ := hrel
  have kc2 : Kc w wr := ⟨hH.out.1.size, fun b o v h => hH.out.1.cell (hS _ _ _ h) h⟩
  have d0 := kc2.cell _ _ _ c0
  have d1 := kc2.cell _ _ _ c1
  have d2 := kc2.cell _ _ _ c2
  have d3 := kc2.cell _ _ _ c3
  have hl2 := hl.kc kc2
  by_cases hjo : (j : Int) - (Sea.dayAt s.days k).take ≤ (Sea.dayAt s.days k).offer
  · cases hp : possB s k fill nom ((j : Int) - (Sea.dayAt s.days k).take)
    · have hc : Calls Tryz.prog 67 #[ordV (.pointer (some ⟨lb, 0, none⟩)) k fill nom ((j : Int) - (Sea.dayAt s.days k).take)] (wr.alloc (oBox (.pointer (some ⟨lb, 0, none⟩)) k fill nom ((j : Int) - (Sea.dayAt s.days k).take)))
          (fun e w2 => e = .returned (.bool false) ∧ Below wr.heap.size wr w2 ∧ Below (wr.heap.size + 1) (wr.alloc (oBox (.pointer (some ⟨lb, 0, none⟩)) k fill nom ((j : Int) - (Sea.dayAt s.days k).take))) w2) := by
       refine (progPossible _ mv s k fill nom _ _ (hl2.mono ((Below.refl _ _).alloc (Nat.le_refl _) _)) hk ok b1 b2 (by omega)).mono ?_
       rintro e w2 ⟨rfl, hB⟩
       exact ⟨by rw [hp], ((Below.refl _ _).alloc (Nat.le_refl _) _).trans (hB.mono (by simp)), hB.mono (by simp)⟩
      replace hp := Lib.hid hp
      gi_wp2
      refine ⟨trivial, rfl, (callsIn_wide.2 hc).mono ?_⟩
      rintro e w2 ⟨rfl, hB2, hB5⟩
      clear hc
      have ho3 : w2.cell? ⟨n1, 2, none⟩ = some (.int .i64 (Sea.dayAt s.days k).offer) := kept_cell hB2 ho2
      have hK3 : Kept S w w2 := hH.out.1.trans (.all hB2)
      have hs3 : W.heap.size ≤ w2.heap.size := Nat.le_trans hH.out.2.1 hB2.size
      have hJ3 : J (ordersTo s k fill nom j) w2 := hJ _ _ _ hH.out.2.2 (hB2.mono hH.out.2.1)
      gi_wp2
      refine ⟨fun _ h => (by cases h), ?_⟩
      gi_wp2
      exact ⟨⟨j + 1, by omega, by go_num, ho3, hK3, hs3, by rw [ordersTo_no hp.out]; exact hJ3⟩, by simp [intOf]; omega⟩
    · have hc : Calls Tryz.prog 67 #[ordV (.pointer (some ⟨lb, 0, none⟩)) k fill nom ((j : Int) - (Sea.dayAt s.days k).take)] (wr.alloc (oBox (.pointer (some ⟨lb, 0, none⟩)) k fill nom ((j : Int) - (Sea.dayAt s.days k).take)))
          (fun e w2 => e = .returned (.bool true) ∧ Below wr.heap.size wr w2 ∧ Below (wr.heap.size + 1) (wr.alloc (oBox (.pointer (some ⟨lb, 0, none⟩)) k fill nom ((j : Int) - (Sea.dayAt s.days k).take))) w2) := by
       refine (progPossible _ mv s k fill nom _ _ (hl2.mono ((Below.refl _ _).alloc (Nat.le_refl _) _)) hk ok b1 b2 (by omega)).mono ?_
       rintro e w2 ⟨rfl, hB⟩
       exact ⟨by rw [hp], ((Below.refl _ _).alloc (Nat.le_refl _) _).trans (hB.mono (by simp)), hB.mono (by simp)⟩
      replace hp := Lib.hid hp
      gi_wp2
      refine ⟨trivial, rfl, (callsIn_wide.2 hc).mono ?_⟩
      rintro e w2 ⟨rfl, hB2, hB5⟩
      clear hc
      have ho3 : w2.cell? ⟨n1, 2, none⟩ = some (.int .i64 (Sea.dayAt s.days k).offer) := kept_cell hB2 ho2
      have hK3 : Kept S w w2 := hH.out.1.trans (.all hB2)
      have hs3 : W.heap.size ≤ w2.heap.size := Nat.le_trans hH.out.2.1 hB2.size
      have hJ3 : J (ordersTo s k fill nom j) w2 := hJ _ _ _ hH.out.2.2 (hB2.mono hH.out.2.1)
      have hpre : ordersTo s k fill nom j ++ [(j : Int) - (Sea.dayAt s.days k).take] <+: ordersOf s k fill nom := by
       rw [← ordersTo_yes hp.out]; exact ordersTo_prefix (by omega)
      obtain ⟨fn, tmps, assign, body, hy, hR⟩ := hY _ _ w2 hpre hK3 hs3 hJ3
      obtain ⟨hsz, -, q0, q1, q2, q3, q4⟩ := box_order (w := wr) (lv := .pointer (some ⟨lb, 0, none⟩)) (day := k) (fill := fill) (nom := nom) (u := (j : Int) - (Sea.dayAt s.days k).take) rfl
      have r0 := kept_cell (hB5.mono (Nat.le_of_eq (World.size_alloc _ _))) q0
      have r1 := kept_cell (hB5.mono (Nat.le_of_eq (World.size_alloc _ _))) q1
      have r2 := kept_cell (hB5.mono (Nat.le_of_eq (World.size_alloc _ _))) q2
      have r3 := kept_cell (hB5.mono (Nat.le_of_eq (World.size_alloc _ _))) q3
      have r4 := kept_cell (hB5.mono (Nat.le_of_eq (World.size_alloc _ _))) q4
      clear q0 q1 q2 q3 q4 hB5
      gi_wp2
      refine ⟨rfl, hR.mono ?_⟩
      clear hy hR
      rintro e W3 (⟨rfl, hJ4, hk4⟩ | ⟨rfl, hJx4⟩)
      · have ho4 : W3.cell? ⟨n1, 2, none⟩ = some (.int .i64 (Sea.dayAt s.days k).offer) := hk4.cell (.inr hn1) ho3
        have hK4 : Kept S w W3 := hK3.trans (hk4.mono fun _ _ h => .inl h)
        have hs4 := Nat.le_trans hs3 hk4.size
        gi_wp2
        exact ⟨⟨j + 1, by omega, by go_num, ho4, hK4, hs4, by rw [ordersTo_yes hp.out]; exact hJ4⟩, by simp [intOf]; omega⟩
      · gi_wp2
        exact bodyPost_ret (results_none rfl _ _ _) rfl ⟨⟨_, rfl⟩, .inr hJx4⟩
  · have hend : ordersTo s k fill nom j = ordersOf s k fill nom := by unfold ordersOf; congr 1; omega
    replace hend := Lib.hid hend
    gi_wp2
    go_end0
    exact ⟨⟨_, rfl⟩, .inl (by rw [← hend.out]; exact hH.out.2.2)⟩
end Go.Proofs.YtpcamocnlnlgiaaGreat.S
