/- Walks: the rule that an order breaks: the panic is recovered. -/
import Derived.Test.YtacajmpggjgaiaaQ1
import Derived.Test.YtacajmpggjgaiaaOwn
set_option linter.unusedVariables false
set_option linter.unusedSimpArgs false
namespace Go.Proofs.Ytacajmpggjgaiaa
open Go.RowKit Go.Sd

set_option maxRecDepth 100000 in
set_option maxHeartbeats 1000000 in
theorem rule_catch (b : Nat) (x r : Int) (older : List PanicEntry) (w : World) (hc : w.cell? ⟨b, 0, none⟩ = some (.int .i64 x)) (hz : w.frozen? ⟨b, 0, none⟩ = false) :
    CallsD Try.prog 90 #[.pointer (some ⟨b, 0, none⟩)] (.panicking ({ v := brokenV r, recovered := false } :: older)) w fun e u' w' =>
      e = .returned (.tuple #[]) ∧ u' = .panicking ({ v := brokenV r, recovered := true } :: older) ∧ w' = (w.setCell ⟨b, 0, none⟩ (.int .i64 r)).alloc (.cells #[.int .i64 r] 123) := by
  have hta : ∀ w, (Instr.typeAssert (.iface 123 (.agg #[.int .i64 r])) 20 123 true).run Try.prog w = .ok (.tuple #[.agg #[.int .i64 r], .bool true]) w := fun w => by kernel_rfl
  have hb := World.block_lt_of_cell? w ⟨b, 0, none⟩ hc
  simp only at hb
  have hc1 := kept_cell (below_al (Below.refl w.heap.size w) (.cells #[.int .i64 r] 123)) hc
  have hz1 := ((below_al (Below.refl w.heap.size w) (.cells #[.int .i64 r] 123)).frozen (p := ⟨b, 0, none⟩) hb).trans hz
  have hne : ¬ b = w.heap.size := by omega
  refine callsD_of_wpS Try.func90 rfl fun c₀ cs hu => ?_
  apply wpS_seq
  apply wpS_region
  simp [wpOpsS, go_sem, recoverD, hu, Try.ntmps90, Exit.thenS]
  refine wpS_of_wp ?_
  go_wp2
  simp [bodyPostS, results, Try.results90, go_sem]

set_option maxRecDepth 100000 in
set_option maxHeartbeats 1000000 in
theorem rule_idle (p : Addr) (w : World) :
    CallsD Try.prog 90 #[.pointer (some p)] .returning w fun e u' w' => e = .returned (.tuple #[]) ∧ u' = .returning ∧ w' = w := by
  refine callsD_of_wpS Try.func90 rfl fun c₀ cs hu => ?_
  apply wpS_seq
  apply wpS_region
  simp [wpOpsS, go_sem, recoverD, hu, Try.ntmps90, Exit.thenS]
  refine wpS_of_wp ?_
  go_wp2
  cases c₀
  simp_all [bodyPostS, results, Try.results90, go_sem]

set_option maxRecDepth 100000 in
set_option maxHeartbeats 1000000 in
theorem progRule (lv mv : Value) (s : Sea.S) (k : Nat) (fill nom u : Int) (w : World) (hl : LookAt w lv mv s) (hk : k < s.days.length) (ok : Sea.Ok s)
    (b1 : 0 ≤ fill ∧ fill ≤ 100) (b2 : -100 ≤ nom ∧ nom ≤ 100) (b3 : -100 ≤ u ∧ u ≤ 100) :
    Calls Try.prog 76 #[ordV lv k fill nom u] w fun e w' => e = .returned (.int .i64 (s.rule k fill nom u)) ∧ Below w.heap.size w w' := by
  have hmf : ∀ (fn : Fn) (first cap : Array Value) (w : World), (Instr.makeFunc fn first cap).run Try.prog w = .ok (.func fn first cap) w := fun _ _ _ _ => rfl
  obtain ⟨W, hW⟩ : ∃ W, w.alloc (oBox lv k fill nom u) = W := ⟨_, rfl⟩
  obtain ⟨hsz, hBw, q0, q1, q2, q3, q4⟩ := box_order hW
  obtain ⟨X, hX⟩ : ∃ X, W.alloc (.cells #[.int .i64 0] 72) = X := ⟨_, rfl⟩
  have hBX : Below W.heap.size W X := by rw [← hX]; exact (Below.refl _ _).alloc (Nat.le_refl _) _
  have hnew := World.alloc_heap_new W (.cells #[.int .i64 0] 72)
  rw [hX] at hnew
  obtain ⟨hWX, d0, f0⟩ := row_cells hnew
  have d0a := d0 0
  have f0a := f0 0
  simp only [List.getElem?_toArray, List.getElem?_cons_zero] at d0a
  clear d0 f0 hnew
  have p0 := kept_cell hBX q0
  have p1 := kept_cell hBX q1
  have p2 := kept_cell hBX q2
  have p3 := kept_cell hBX q3
  have p4 := kept_cell hBX q4
  have hwX : Below w.heap.size w X := hBw.trans (hBX.mono (Nat.le_of_lt hsz))
  have hM := Lib.hid (progMust lv mv s k fill nom u X (hl.mono hwX) hk ok b1 b2 b3)
  clear hl hk ok b1 b2 b3 q0 q1 q2 q3 q4
  generalize s.rule k fill nom u = r at *
  by_cases hr : r = 1
  · subst hr
    go_enter_defers Try.func76, Try.ntmps76
    go_wp2_with (go_at_call 91; refine Calls.mono hM.out ?_; rintro e w1 ⟨he, hb1⟩; rw [if_pos rfl] at he; subst he; have n0 := kept_cell hb1 d0a; have n1 := (hb1.frozen (p := ⟨W.heap.size, 0, none⟩) hWX).trans f0a)
    refine leaves_cons (f := 90) (args := #[.pointer (some ⟨W.heap.size, 0, none⟩)]) (by simp) (by simp [go_sem]) ?_
    refine (rule_idle ⟨W.heap.size, 0, none⟩ _).mono ?_
    rintro e u' w'' ⟨rfl, rfl, rfl⟩
    simp [Leaves, settle, results, Try.results76, go_sem, n0, n1]
    exact (hwX.trans (hb1.mono hwX.size)).setCell (by show _ ≤ W.heap.size; omega) _
  · go_enter_defers Try.func76, Try.ntmps76
    replace hr := Lib.hid hr
    go_wp2_with (go_at_call 91; refine Calls.mono hM.out ?_; rintro e w1 ⟨he, hb1⟩; rw [if_neg hr.out] at he; subst he; have n0 := kept_cell hb1 d0a; have n1 := (hb1.frozen (p := ⟨W.heap.size, 0, none⟩) hWX).trans f0a)
    refine leaves_cons (f := 90) (args := #[.pointer (some ⟨W.heap.size, 0, none⟩)]) (by simp) (by simp [go_sem]) ?_
    refine (rule_catch W.heap.size 0 r [] _ n0 n1).mono ?_
    rintro e u' w'' ⟨rfl, rfl, rfl⟩
    have n2 : ((w1.setCell ⟨W.heap.size, 0, none⟩ (.int .i64 r)).alloc (.cells #[.int .i64 r] 123)).cell? ⟨W.heap.size, 0, none⟩ = some (.int .i64 r) := kept_cell (below_al (Below.refl _ _) _) (World.cell?_setCell_same' _ _ _ (by rw [n0]; rfl))
    simp [Leaves, settle, results, Try.results76, go_sem, n2]
    have hbs := (hwX.trans (hb1.mono hwX.size)).setCell (p := ⟨W.heap.size, 0, none⟩) (by show _ ≤ W.heap.size; omega) (.int .i64 r)
    exact hbs.alloc hbs.size _
end Go.Proofs.Ytacajmpggjgaiaa
