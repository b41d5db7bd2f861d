/- Gas: walks: whether something that may give up did not (a recovered panic). Gas: a recovered panic behind writes. -/
import Derived.Test.YtdilgjhdimlbkaaKnd
import Derived.Recover
import Derived.Defers
import Derived.Laws.Pointers
import Derived.Laws.EntriesVeiled
set_option linter.unusedVariables false
set_option linter.unusedSimpArgs false
namespace Go.Proofs.Ytdilgjhdimlbkaa
open Go.RowKit Go.Sd Gas

abbrev gaveV (s : ByteArray) : Value := .iface 78 (.agg #[.string s])

set_option maxRecDepth 100000 in
set_option maxHeartbeats 1000000 in
theorem done_catch (b : Nat) (x : Bool) (s : ByteArray) (older : List PanicEntry) (w : World) (hc : w.cell? ⟨b, 0, none⟩ = some (.bool x)) (hz : w.frozen? ⟨b, 0, none⟩ = false) :
    CallsD Try.prog 38 #[.pointer (some ⟨b, 0, none⟩)] (.panicking ({ v := gaveV s, recovered := false } :: older)) w fun e u' w' =>
      e = .returned (.tuple #[]) ∧ u' = .panicking ({ v := gaveV s, recovered := true } :: older) ∧ w' = (w.setCell ⟨b, 0, none⟩ (.bool false)).alloc (.cells #[.string s] 78) := by
  have hta : ∀ w, (Instr.typeAssert (.iface 78 (.agg #[.string s])) 20 78 true).run Try.prog w = .ok (.tuple #[.agg #[.string s], .bool true]) w := fun w => by kernel_rfl
  have hb := World.block_lt_of_cell? w ⟨b, 0, none⟩ hc
  simp only at hb
  have hne : ¬ b = w.heap.size := by omega
  refine callsD_of_wpS Try.func38 rfl fun c₀ cs hu => ?_
  apply wpS_seq
  apply wpS_region
  simp [wpOpsS, go_sem, recoverD, hu, Try.ntmps38, Exit.thenS]
  refine wpS_of_wp ?_
  go_wp2
  simp [bodyPostS, results, Try.results38, go_sem]

set_option maxRecDepth 100000 in
set_option maxHeartbeats 1000000 in
theorem done_idle (p : Addr) (w : World) :
    CallsD Try.prog 38 #[.pointer (some p)] .returning w fun e u' w' => e = .returned (.tuple #[]) ∧ u' = .returning ∧ w' = w := by
  refine callsD_of_wpS Try.func38 rfl fun c₀ cs hu => ?_
  apply wpS_seq
  apply wpS_region
  simp [wpOpsS, go_sem, recoverD, hu, Try.ntmps38, Exit.thenS]
  refine wpS_of_wp ?_
  go_wp2
  cases c₀
  simp_all [bodyPostS, results, Try.results38, go_sem]

/-- It went through: what R says stands, but for the one cell. -/
def DoneY (n : Nat) (R : World → Prop) (e : Ending) (w'' : World) : Prop := e = .returned (.bool true) ∧ ∃ w', R w' ∧ w'' = w'.setCell ⟨n, 0, none⟩ (.bool true)

set_option maxRecDepth 100000 in
set_option maxHeartbeats 1000000 in
theorem progDoneY {fn : Nat} {cap : Array Value} (w W : World) (R : World → Prop) (hW : w.alloc (.cells #[.bool false] 4) = W) (en : ∀ args w, (callFunc fn args).run Try.prog w = .ok (.enter fn args) w)
    (hcall : Calls Try.prog fn cap W fun e w' => e = .returned (.tuple #[]) ∧ w'.heap[w.heap.size]? = W.heap[w.heap.size]? ∧ R w') :
    Calls Try.prog 20 #[.func (.func fn) #[] cap] w (DoneY w.heap.size R) := by
  have hmf : ∀ (fn : Fn) (first cap : Array Value) (w : World), (Instr.makeFunc fn first cap).run Try.prog w = .ok (.func fn first cap) w := fun _ _ _ _ => rfl
  obtain ⟨e0, b0, s0⟩ := boxed hW
  clear s0 b0
  have hcall2 := Lib.hid hcall
  replace e0 := Lib.hid e0
  clear hcall
  go_enter_defers Try.func20, Try.ntmps20
  go_wp2
  refine Calls.mono hcall2.out ?_
  rintro e w' ⟨rfl, hb, hR⟩
  obtain ⟨z0, d0, f0⟩ := row_cells (hb.trans e0.out)
  have c0 := d0 0
  have c1 := f0 0
  simp only [List.getElem?_toArray, List.getElem?_cons_zero] at c0
  clear d0 f0 hb hcall2
  replace hR := Lib.hid hR
  go_wp2
  refine leaves_cons (f := 38) (args := #[.pointer (some ⟨w.heap.size, 0, none⟩)]) (by simp) (by simp [go_sem]) ?_
  refine (done_idle ⟨w.heap.size, 0, none⟩ _).mono ?_
  rintro e u' w'' ⟨rfl, rfl, rfl⟩
  have n2 : (w'.setCell ⟨w.heap.size, 0, none⟩ (.bool true)).cell? ⟨w.heap.size, 0, none⟩ = some (.bool true) := World.cell?_setCell_same' _ _ _ (by rw [c0]; rfl)
  simp [Leaves, settle, results, Try.results20, go_sem, n2]
  exact ⟨rfl, w', hR.out, rfl⟩

set_option maxRecDepth 100000 in
set_option maxHeartbeats 1000000 in
theorem progDoneN {fn : Nat} {cap : Array Value} (w W : World) (hW : w.alloc (.cells #[.bool false] 4) = W) (en : ∀ args w, (callFunc fn args).run Try.prog w = .ok (.enter fn args) w)
    (hcall : Calls Try.prog fn cap W (GaveUp W)) :
    Calls Try.prog 20 #[.func (.func fn) #[] cap] w fun e w'' => e = .returned (.bool false) ∧ Below w.heap.size w w'' := by
  have hmf : ∀ (fn : Fn) (first cap : Array Value) (w : World), (Instr.makeFunc fn first cap).run Try.prog w = .ok (.func fn first cap) w := fun _ _ _ _ => rfl
  obtain ⟨e0, b0, s0⟩ := boxed hW
  have hle : w.heap.size ≤ W.heap.size := b0.size
  clear s0
  have hcall2 := Lib.hid hcall
  replace e0 := Lib.hid e0
  clear hcall
  go_enter_defers Try.func20, Try.ntmps20
  go_wp2
  refine Calls.mono hcall2.out ?_
  rintro e w' ⟨str, rfl, hB⟩
  obtain ⟨z0, d0, f0⟩ := row_cells ((hB.block _ (Array.getElem?_eq_some_iff.1 e0.out).1).trans e0.out)
  have c0 := d0 0
  have c1 := f0 0
  simp only [List.getElem?_toArray, List.getElem?_cons_zero] at c0
  refine leaves_cons (f := 38) (args := #[.pointer (some ⟨w.heap.size, 0, none⟩)]) (by simp) (by simp [go_sem]) ?_
  refine (done_catch w.heap.size false str [] _ c0 c1).mono ?_
  rintro e u' w'' ⟨rfl, rfl, rfl⟩
  have n2 : ((w'.setCell ⟨w.heap.size, 0, none⟩ (.bool false)).alloc (.cells #[.string str] 78)).cell? ⟨w.heap.size, 0, none⟩ = some (.bool false) := kept_cell ((Below.refl _ _).alloc (Nat.le_refl _) _) (World.cell?_setCell_same' _ _ _ (by rw [c0]; rfl))
  simp [Leaves, settle, results, Try.results20, go_sem, n2]
  have hbs := (b0.trans (hB.mono hle)).setCell (p := ⟨w.heap.size, 0, none⟩) (Nat.le_refl _) (.bool false)
  exact hbs.alloc hbs.size _
end Go.Proofs.Ytdilgjhdimlbkaa
namespace Go.Proofs.Ytdilgjhdimlbkaa
open Go.RowKit Go.Sd Gas

abbrev upV (s : ByteArray) : List PanicEntry := [{ v := .iface 78 (.agg #[.string s]), recovered := false }]
set_option maxRecDepth 100000 in
set_option maxHeartbeats 1000000 in
theorem progDoneNR {fn : Nat} {cap : Array Value} (w W : World) (R : World → Prop) (hW : w.alloc (.cells #[.bool false] 4) = W) (en : ∀ args w, (callFunc fn args).run Try.prog w = .ok (.enter fn args) w)
    (hcall : Calls Try.prog fn cap W fun e w' => (∃ s : ByteArray, e = .panicked (upV s)) ∧ w'.heap[w.heap.size]? = W.heap[w.heap.size]? ∧ R w') :
    Calls Try.prog 20 #[.func (.func fn) #[] cap] w fun e w'' => e = .returned (.bool false) ∧ ∃ (w' : World) (s : ByteArray), R w' ∧ w'' = (w'.setCell ⟨w.heap.size, 0, none⟩ (.bool false)).alloc (.cells #[.string s] 78) := by
  have hmf : ∀ (fn : Fn) (first cap : Array Value) (w : World), (Instr.makeFunc fn first cap).run Try.prog w = .ok (.func fn first cap) w := fun _ _ _ _ => rfl
  obtain ⟨e0, b0, s0⟩ := boxed hW
  clear s0
  have hcall2 := Lib.hid hcall
  replace e0 := Lib.hid e0
  clear hcall
  go_enter_defers Try.func20, Try.ntmps20
  go_wp2
  refine Calls.mono hcall2.out ?_
  rintro e w' ⟨⟨str, rfl⟩, hB, hR⟩
  obtain ⟨z0, d0, f0⟩ := row_cells (hB.trans e0.out)
  have c0 := d0 0
  have c1 := f0 0
  simp only [List.getElem?_toArray, List.getElem?_cons_zero] at c0
  refine leaves_cons (f := 38) (args := #[.pointer (some ⟨w.heap.size, 0, none⟩)]) (by simp) (by simp [go_sem]) ?_
  refine (done_catch w.heap.size false str [] _ c0 c1).mono ?_
  rintro e u' w'' ⟨rfl, rfl, rfl⟩
  have n2 : ((w'.setCell ⟨w.heap.size, 0, none⟩ (.bool false)).alloc (.cells #[.string str] 78)).cell? ⟨w.heap.size, 0, none⟩ = some (.bool false) := kept_cell ((Below.refl _ _).alloc (Nat.le_refl _) _) (World.cell?_setCell_same' _ _ _ (by rw [c0]; rfl))
  replace hR := Lib.hid hR
  simp [Leaves, settle, results, Try.results20, go_sem, n2]
  exact ⟨w', hR.out, str, rfl⟩
end Go.Proofs.Ytdilgjhdimlbkaa
