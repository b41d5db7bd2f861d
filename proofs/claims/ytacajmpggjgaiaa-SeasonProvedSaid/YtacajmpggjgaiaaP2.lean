/- Walks: the rules of an order, its cost. -/
import Derived.Test.YtacajmpggjgaiaaP1
set_option linter.unusedVariables false
set_option linter.unusedSimpArgs false
namespace Go.Proofs.Ytacajmpggjgaiaa
open Go.RowKit Go.Sd

theorem row_field (a b c : Value) (w : World) : (Instr.field 65 (.agg #[a, b, c]) 1).run Try.prog w = .ok b w ∧ (Instr.field 65 (.agg #[a, b, c]) 2).run Try.prog w = .ok c w := ⟨by kernel_rfl, by kernel_rfl⟩

set_option maxHeartbeats 1000000 in
theorem progComes (lv mv : Value) (s : Sea.S) (k : Nat) (fill nom u : Int) (w : World) (hl : LookAt w lv mv s) (hk : k < s.days.length) (ok : Sea.Ok s) (b1 : 0 ≤ fill ∧ fill ≤ 100) (b2 : -100 ≤ nom ∧ nom ≤ 100) (b3 : -100 ≤ u ∧ u ≤ 100) :
    Calls Try.prog 97 #[ordV lv k fill nom u] w fun e w' => e = .returned (.bool (decide ((s.lim fill).inn < nom + u))) ∧ Below w.heap.size w w' := by
  go_enter Try.func97, Try.ntmps97
  go_wp2
  generalize hW : w.alloc (oBox _ k fill nom u) = W
  obtain ⟨lb, rv, b, off, cap, rfl, hlb, hlt, hsz, hm, hk', hl2, hBw, ⟨q0, q1, q2, q3, q4⟩, ⟨l0, l1, l2, l3, l4, l5⟩, ⟨c0, c1, c2, c3, c4, c5, c6, c7⟩⟩ := look_box hW hl hk
  clear hW
  have hg := grow_cell W
  have hfd := row_field (.int .i64 (s.lim fill).fill) (.int .i64 (s.lim fill).inn) (.int .i64 (s.lim fill).out)
  have hf1 := fun w => (hfd w).1
  have hf2 := fun w => (hfd w).2
  clear hfd
  refine wp_region_grow (by kernel_rfl) (by kernel_rfl) ?_
  repeat (go_big_quiet_step ((first | (go_at_call 71; exact Calls.grow (v := .agg #[.int .i64 (s.lim fill).fill, .int .i64 (s.lim fill).inn, .int .i64 (s.lim fill).out]) (progLimits _ mv s fill _ (hl2.mono (Grow.h _)) ok.nrows.1 (by have := ok.row0; omega))))))
  refine wpQuiet_nil ?_
  rintro _ ⟨g, rfl⟩
  go_wp2
  go_ret
  exact ⟨rfl, hBw.trans (g.h.mono hBw.size)⟩

set_option maxHeartbeats 1000000 in
theorem progGoes (lv mv : Value) (s : Sea.S) (k : Nat) (fill nom u : Int) (w : World) (hl : LookAt w lv mv s) (hk : k < s.days.length) (ok : Sea.Ok s) (b1 : 0 ≤ fill ∧ fill ≤ 100) (b2 : -100 ≤ nom ∧ nom ≤ 100) (b3 : -100 ≤ u ∧ u ≤ 100) :
    Calls Try.prog 98 #[ordV lv k fill nom u] w fun e w' => e = .returned (.bool (decide ((s.lim fill).out < -nom - u))) ∧ Below w.heap.size w w' := by
  go_enter Try.func98, Try.ntmps98
  go_wp2
  generalize hW : w.alloc (oBox _ k fill nom u) = W
  obtain ⟨lb, rv, b, off, cap, rfl, hlb, hlt, hsz, hm, hk', hl2, hBw, ⟨q0, q1, q2, q3, q4⟩, ⟨l0, l1, l2, l3, l4, l5⟩, ⟨c0, c1, c2, c3, c4, c5, c6, c7⟩⟩ := look_box hW hl hk
  clear hW
  have hg := grow_cell W
  have hfd := row_field (.int .i64 (s.lim fill).fill) (.int .i64 (s.lim fill).inn) (.int .i64 (s.lim fill).out)
  have hf1 := fun w => (hfd w).1
  have hf2 := fun w => (hfd w).2
  clear hfd
  refine wp_region_grow (by kernel_rfl) (by kernel_rfl) ?_
  repeat (go_big_quiet_step ((first | (go_at_call 71; exact Calls.grow (v := .agg #[.int .i64 (s.lim fill).fill, .int .i64 (s.lim fill).inn, .int .i64 (s.lim fill).out]) (progLimits _ mv s fill _ (hl2.mono (Grow.h _)) ok.nrows.1 (by have := ok.row0; omega))))))
  refine wpQuiet_nil ?_
  rintro _ ⟨g, rfl⟩
  go_wp2
  go_ret
  exact ⟨rfl, hBw.trans (g.h.mono hBw.size)⟩

set_option maxHeartbeats 1000000 in
theorem progGate (lv mv : Value) (s : Sea.S) (k : Nat) (fill nom u : Int) (w : World) (hl : LookAt w lv mv s) (hk : k < s.days.length) (b1 : 0 ≤ fill ∧ fill ≤ 100) (b2 : -100 ≤ nom ∧ nom ≤ 100) (b3 : -100 ≤ u ∧ u ≤ 100) :
    Calls Try.prog 99 #[ordV lv k fill nom u] w fun e w' => e = .returned (.bool (!Sea.inB (fill + nom + u) (Sea.dayAt s.days k).glo (Sea.dayAt s.days k).ghi)) ∧ Below w.heap.size w w' := by
  go_enter Try.func99, Try.ntmps99
  go_wp2
  generalize hW : w.alloc (oBox _ k fill nom u) = W
  obtain ⟨lb, rv, b, off, cap, rfl, hlb, hlt, hsz, hm, hk', hl2, hBw, ⟨q0, q1, q2, q3, q4⟩, ⟨l0, l1, l2, l3, l4, l5⟩, ⟨c0, c1, c2, c3, c4, c5, c6, c7⟩⟩ := look_box hW hl hk
  clear hW
  refine wp_region_vars growth_below (va := [⟨12, 3, 23, #[.int .i64 0, .int .i64 0], 13, .tmp 15⟩]) (by kernel_rfl) (by kernel_rfl) ?_ ?_ (by simp) (fun T f hT hf hcl => ?_)
  · intro p hp w
    simp only [List.mem_cons, List.not_mem_nil, or_false] at hp
    rcases hp with rfl <;> go_simp
  · intro p hp
    simp only [List.mem_cons, List.not_mem_nil, or_false] at hp
    rcases hp with rfl <;> kernel_rfl
  have hg : ∀ (g : T) (b o : Nat), b < W.heap.size → (f g).cell? ⟨b, o, none⟩ = W.cell? ⟨b, o, none⟩ := fun g => below_cell (hf g)
  simp only [lexOf, List.zipIdx_cons, List.zipIdx_nil, List.map_cons, List.map_nil, isMade, List.any_cons, List.any_nil, Nat.reduceAdd, Nat.reduceBEq, Bool.or_false, Bool.false_or, Bool.or_self, Bool.false_eq_true, if_false, if_true, Nat.zero_add, BEq.rfl, Bool.or_true, Bool.true_or]
  simp only [Go.Sd.blank]
  repeat (go_big_quiet_step (fail))
  refine wpQuiet_nil ?_
  refine ⟨?_, ?_⟩
  · intro p hp
    simp only [List.mem_cons, List.not_mem_nil, or_false] at hp
    rcases hp with rfl <;> (constructor <;> simp [go_sem, Value.cells, Value.oneCell'])
  intro ns w' hB hv
  obtain ⟨n1, rfl, hn1, hl1, hc1, hf1⟩ := vars_one hv
  clear hv hf hcl hg
  simp only [placeV, Act.put, List.setIfInBounds_toArray, List.set_cons_zero, List.set_cons_succ]
  simp [go_sem] at hc1
  have hB' : Below w.heap.size w w' := hBw.trans (hB.mono hBw.size)
  have hcc := below_cell hB
  have hg := grow_cell w'
  have hsw := hB.size
  have hsw1 : w.heap.size < w'.heap.size := by omega
  have hsw2 : lb < w'.heap.size := by omega
  go_wp2
  refine wp_region_grow (by kernel_rfl) (by kernel_rfl) ?_
  repeat (go_big_quiet_step ((first | (go_at_call 58; exact Calls.grow (progBehind _ _ _ _ _ _ b1 b2 b3)) | (go_at_call 68; exact Calls.grow_same (progIn _ _ _ _)))))
  refine wpQuiet_nil ?_
  rintro _ ⟨g, rfl⟩
  go_wp2
  go_ret
  exact ⟨rfl, hB'.trans (g.h.mono hB'.size)⟩

set_option maxHeartbeats 1000000 in
theorem progEnd (lv mv : Value) (s : Sea.S) (k : Nat) (fill nom u : Int) (w : World) (hl : LookAt w lv mv s) (hk : k < s.days.length) (b1 : 0 ≤ fill ∧ fill ≤ 100) (b2 : -100 ≤ nom ∧ nom ≤ 100) (b3 : -100 ≤ u ∧ u ≤ 100) :
    Calls Try.prog 100 #[ordV lv k fill nom u] w fun e w' => e = .returned (.bool (decide ((k : Int) = (s.days.length : Int) - 1) && !Sea.inB (fill + nom + u) s.elo s.ehi)) ∧ Below w.heap.size w w' := by
  go_enter Try.func100, Try.ntmps100
  go_wp2
  generalize hW : w.alloc (oBox _ k fill nom u) = W
  obtain ⟨lb, rv, b, off, cap, rfl, hlb, hlt, hsz, hm, hk', hl2, hBw, ⟨q0, q1, q2, q3, q4⟩, ⟨l0, l1, l2, l3, l4, l5⟩, ⟨c0, c1, c2, c3, c4, c5, c6, c7⟩⟩ := look_box hW hl hk
  clear hW
  by_cases he : (k : Int) = (s.days.length : Int) - 1
  · have he' : ((k : Int) == (s.days.length : Int) - 1) = true := by rw [he]; simp
    replace he := Lib.hid he
    have hg := grow_cell W
    refine wp_region_grow (by kernel_rfl) (by kernel_rfl) ?_
    repeat (go_big_quiet_step ((first | (go_at_call 58; exact Calls.grow (progBehind _ _ _ _ _ _ b1 b2 b3)) | (go_at_call 68; exact Calls.grow_same (progIn _ _ _ _)))))
    refine wpQuiet_nil ?_
    rintro _ ⟨g, rfl⟩
    go_wp2
    go_ret
    exact ⟨bool_ret (by simp [he.out]), hBw.trans (g.h.mono hBw.size)⟩
  · have he' : ((k : Int) == (s.days.length : Int) - 1) = false := by simp [he]
    replace he := Lib.hid he
    have hg := grow_cell W
    refine wp_region_grow (by kernel_rfl) (by kernel_rfl) ?_
    repeat (go_big_quiet_step ((first | (go_at_call 58; exact Calls.grow (progBehind _ _ _ _ _ _ b1 b2 b3)) | (go_at_call 68; exact Calls.grow_same (progIn _ _ _ _)))))
    refine wpQuiet_nil ?_
    rintro _ ⟨g, rfl⟩
    go_wp2
    go_ret
    exact ⟨bool_ret (by simp [he.out]), hBw.trans (g.h.mono hBw.size)⟩

set_option maxHeartbeats 1000000 in
theorem progCost (lv mv : Value) (s : Sea.S) (k : Nat) (fill nom u : Int) (w : World) (hl : LookAt w lv mv s) (hk : k < s.days.length) (ok : Sea.Ok s) (b3 : -100 ≤ u ∧ u ≤ 100) :
    Calls Try.prog 77 #[ordV lv k fill nom u] w fun e w' => e = .returned (.int .i64 (s.cost k u)) ∧ Below w.heap.size w w' := by
  go_enter Try.func77, Try.ntmps77
  go_wp2
  generalize hW : w.alloc (oBox _ k fill nom u) = W
  obtain ⟨lb, rv, b, off, cap, rfl, hlb, hlt, hsz, hm, hk', hl2, hBw, ⟨q0, q1, q2, q3, q4⟩, ⟨l0, l1, l2, l3, l4, l5⟩, ⟨c0, c1, c2, c3, c4, c5, c6, c7⟩⟩ := look_box hW hl hk
  clear hW
  refine wp_region_vars growth_below (va := [⟨11, 3, 82, #[.int .i64 0, .int .i64 0, .int .i64 0, .int .i64 0, .int .i64 0, .int .i64 0, .int .i64 0, .int .i64 0], 12, .tmp 14⟩]) (by kernel_rfl) (by kernel_rfl) ?_ ?_ (by simp) (fun T f hT hf hcl => ?_)
  · intro p hp w
    simp only [List.mem_cons, List.not_mem_nil, or_false] at hp
    rcases hp with rfl <;> go_simp
  · intro p hp
    simp only [List.mem_cons, List.not_mem_nil, or_false] at hp
    rcases hp with rfl <;> kernel_rfl
  have hg : ∀ (g : T) (b o : Nat), b < W.heap.size → (f g).cell? ⟨b, o, none⟩ = W.cell? ⟨b, o, none⟩ := fun g => below_cell (hf g)
  simp only [lexOf, List.zipIdx_cons, List.zipIdx_nil, List.map_cons, List.map_nil, isMade, List.any_cons, List.any_nil, Nat.reduceAdd, Nat.reduceBEq, Bool.or_false, Bool.false_or, Bool.or_self, Bool.false_eq_true, if_false, if_true, Nat.zero_add, BEq.rfl, Bool.or_true, Bool.true_or]
  simp only [Go.Sd.blank]
  repeat (go_big_quiet_step (fail))
  refine wpQuiet_nil ?_
  refine ⟨?_, ?_⟩
  · intro p hp
    simp only [List.mem_cons, List.not_mem_nil, or_false] at hp
    rcases hp with rfl <;> (constructor <;> simp [go_sem, Value.cells, Value.oneCell'])
  intro ns w' hB hv
  obtain ⟨n1, rfl, hn1, hl1, hc1, hf1⟩ := vars_one hv
  clear hv hf hcl hg
  simp only [placeV, Act.put, List.setIfInBounds_toArray, List.set_cons_zero, List.set_cons_succ]
  simp [go_sem] at hc1
  have hB' : Below w.heap.size w w' := hBw.trans (hB.mono hBw.size)
  have hcc := below_cell hB
  have hb := ok.days k (by omega)
  have p1 := mul_bd b3 ⟨hb.1, hb.2.1⟩
  have p2 := mul_bd b3 ⟨hb.2.2.1, hb.2.2.2.1⟩
  have p3 : u ≠ 0 ∨ (u * (Sea.dayAt s.days k).buy = 0 ∧ u * (Sea.dayAt s.days k).sell = 0) := by
    by_cases h : u = 0
    · exact .inr ⟨by rw [h, Int.zero_mul], by rw [h, Int.zero_mul]⟩
    · exact .inl h
  rw [Int.mul_comm] at p1 p2
  simp only [Int.mul_comm u] at p1 p2 p3
  have P := Lib.hid (And.intro p1 (And.intro p2 p3))
  clear p1 p2 p3 hb
  go_wp2
  all_goals
    go_ret
    refine ⟨int_ret ?_, hB'⟩
    obtain ⟨p1, p2, p3⟩ := P.out
    simp (disch := omega) only [IntWalk.wrap64_in, Int.mul_neg]
    unfold Sea.S.cost
    simp only [Int.mul_comm u]
    split <;> omega

end Go.Proofs.Ytacajmpggjgaiaa
