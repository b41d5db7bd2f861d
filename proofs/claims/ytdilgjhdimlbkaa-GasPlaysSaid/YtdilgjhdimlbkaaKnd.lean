/- Gas: the walk of kinds: a map of functions; what a look into it gives. -/
import Derived.Test.YtdilgjhdimlbkaaRes
import Derived.Test.YtdilgjhdimlbkaaWdr
import Derived.MapKept
import Derived.Maps.OwnOps
set_option linter.unusedVariables false
set_option linter.unusedSimpArgs false
namespace Go.Proofs.Ytdilgjhdimlbkaa
open Go.RowKit Go.Sd Go.MapKept Gas

theorem kind_key : Try.prog.underlying 54 = some (.int .i64) := by kernel_rfl
theorem run_upd {w : World} {r : Nat} {es : Array MapEntry} {clock : Nat} {k : Int} {v : Value} (h : w.heap[r]? = some (.map es clock)) (hn : Instr.findNow (.int .i64) (.int .i64 k) es.toList 0 = some none) :
    (Instr.mapUpdate 85 (.map (some r)) (.int .i64 k) v).run Try.prog w = .ok () (w.putObj r (.map (es.push ⟨.int .i64 k, v, clock⟩) (clock + 1))) := by
  have h1 := run_checkKey (P := Try.prog) (w := w) kind_key (k := .int .i64 k) (by simp [IsKey]) false 9999
  have h2 := run_findKey (P := Try.prog) (w := w) (a := none) kind_key hn
  simp [Instr.mapUpdate, run_underlying Try.underlying85, Sem.run_bind, getObj, setObj, Sem.run, h, Result.andThen, h1, h2, World.putObj]

abbrev kindEs : Array MapEntry := #[⟨.int .i64 1, .func (.func 46) #[] #[], 0⟩, ⟨.int .i64 2, .func (.func 47) #[] #[], 1⟩, ⟨.int .i64 3, .func (.func 48) #[] #[], 2⟩]

set_option maxRecDepth 100000 in
set_option maxHeartbeats 1000000 in
theorem progKinds (w : World) : Calls Try.prog 45 #[] w fun e w' => e = .returned (.map (some w.heap.size)) ∧ w'.heap[w.heap.size]? = some (.map kindEs 3) ∧ Below w.heap.size w w' := by
  have hmk : ∀ w, (Instr.makeMap 85 none).run Try.prog w = .ok (.map (some w.heap.size)) (w.alloc (.map #[] 0)) := fun w => by simp [Instr.makeMap, run_underlying Try.underlying85]
  obtain ⟨W0, hW0⟩ : ∃ W, w.alloc (.map #[] 0) = W := ⟨_, rfl⟩
  have e0 : W0.heap[w.heap.size]? = some (.map #[] 0) := by rw [← hW0]; exact World.alloc_heap_new w _
  have b0 : Below w.heap.size w W0 := by rw [← hW0]; exact (Below.refl _ _).alloc (Nat.le_refl _) _
  have z0 := (Array.getElem?_eq_some_iff.1 e0).1
  have u1 := run_upd (k := 1) (v := .func (.func 46) #[] #[]) e0 rfl
  obtain ⟨W1, hW1⟩ : ∃ W, W0.putObj w.heap.size (.map #[⟨.int .i64 1, .func (.func 46) #[] #[], 0⟩] 1) = W := ⟨_, rfl⟩
  have u1' : (Instr.mapUpdate 85 (.map (some w.heap.size)) (.int .i64 1) (.func (.func 46) #[] #[])).run Try.prog W0 = .ok () W1 := by rw [← hW1]; exact u1
  have e1 : W1.heap[w.heap.size]? = some (.map #[⟨.int .i64 1, .func (.func 46) #[] #[], 0⟩] 1) := by rw [← hW1]; exact World.putObj_heap_same z0
  have b1 : Below w.heap.size w W1 := by rw [← hW1]; exact below_putObj b0 (Nat.le_refl _) _
  have z1 := (Array.getElem?_eq_some_iff.1 e1).1
  have u2 := run_upd (k := 2) (v := .func (.func 47) #[] #[]) e1 rfl
  obtain ⟨W2, hW2⟩ : ∃ W, W1.putObj w.heap.size (.map #[⟨.int .i64 1, .func (.func 46) #[] #[], 0⟩, ⟨.int .i64 2, .func (.func 47) #[] #[], 1⟩] 2) = W := ⟨_, rfl⟩
  have u2' : (Instr.mapUpdate 85 (.map (some w.heap.size)) (.int .i64 2) (.func (.func 47) #[] #[])).run Try.prog W1 = .ok () W2 := by rw [← hW2]; exact u2
  have e2 : W2.heap[w.heap.size]? = some (.map #[⟨.int .i64 1, .func (.func 46) #[] #[], 0⟩, ⟨.int .i64 2, .func (.func 47) #[] #[], 1⟩] 2) := by rw [← hW2]; exact World.putObj_heap_same z1
  have b2 : Below w.heap.size w W2 := by rw [← hW2]; exact below_putObj b1 (Nat.le_refl _) _
  have z2 := (Array.getElem?_eq_some_iff.1 e2).1
  have u3 := run_upd (k := 3) (v := .func (.func 48) #[] #[]) e2 rfl
  obtain ⟨W3, hW3⟩ : ∃ W, W2.putObj w.heap.size (.map kindEs 3) = W := ⟨_, rfl⟩
  have u3' : (Instr.mapUpdate 85 (.map (some w.heap.size)) (.int .i64 3) (.func (.func 48) #[] #[])).run Try.prog W2 = .ok () W3 := by rw [← hW3]; exact u3
  have e3 : W3.heap[w.heap.size]? = some (.map kindEs 3) := by rw [← hW3]; exact World.putObj_heap_same z2
  have b3 : Below w.heap.size w W3 := by rw [← hW3]; exact below_putObj b2 (Nat.le_refl _) _
  replace e3 := Lib.hid e3
  clear u1 u2 u3 hW1 hW2 hW3 e0 e1 e2 z0 z1 z2 b0 b1 b2
  go_enter Try.func45, Try.ntmps45
  go_wp2
  go_ret
  exact ⟨rfl, e3.out, b3⟩
/-- A look into the map of kinds. -/
theorem run_look {w : World} {r : Nat} {k : Int} {f : Nat} (h : w.heap[r]? = some (.map kindEs 3)) (hk : (k = 1 ∧ f = 46) ∨ (k = 2 ∧ f = 47) ∨ (k = 3 ∧ f = 48)) :
    (Instr.lookup 85 (.map (some r)) (.int .i64 k) false).run Try.prog w = .ok (.func (.func f) #[] #[]) w := by
  have h1 := run_checkKey (P := Try.prog) (w := w) kind_key (k := .int .i64 k) (by simp [IsKey]) false 9999
  have h2 : ∃ i, (Instr.findKey 54 (.int .i64 k) kindEs.toList).run Try.prog w = .ok (some (i, .func (.func f) #[] #[])) w := by
    rcases hk with ⟨rfl, rfl⟩ | ⟨rfl, rfl⟩ | ⟨rfl, rfl⟩
    · exact ⟨0, run_findKey kind_key rfl⟩
    · exact ⟨1, run_findKey kind_key rfl⟩
    · exact ⟨2, run_findKey kind_key rfl⟩
  obtain ⟨i, h2⟩ := h2
  have h3 : kindEs.isEmpty = false := rfl
  simp only [kindEs] at h h1 h2 h3
  simp [Instr.lookup, run_underlying Try.underlying85, Sem.run_bind, getObj, Sem.run, h, Result.andThen, h1, h2, h3]
end Go.Proofs.Ytdilgjhdimlbkaa
