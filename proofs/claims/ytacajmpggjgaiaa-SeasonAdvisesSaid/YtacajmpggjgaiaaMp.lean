/- A map from places (a day, a fill) to whole numbers that the call itself fills: what lies in it agrees with a function. -/
import Derived.Test.YtacajmpggjgaiaaV5
import Derived.MapKept
import Derived.Laws.StructEq
set_option linter.unusedVariables false
set_option linter.unusedSimpArgs false
namespace Go.Proofs.Ytacajmpggjgaiaa
open Go.RowKit Go.Sd

abbrev spotV (d f : Int) : Value := .agg #[.int .i64 d, .int .i64 f]

/-- What lies in the map is what the function says. -/
def MemoAt (w : World) (mb : Nat) (P : Int → Int → Prop) (F : Int → Int → Int) : Prop :=
  ∃ es clock, w.heap[mb]? = some (.map es clock) ∧ ∀ e ∈ es.toList, ∃ d f, P d f ∧ e.key = spotV d f ∧ e.val = .int .i64 (F d f)

theorem MemoAt.same {w w' : World} {mb : Nat} {P : Int → Int → Prop} {F : Int → Int → Int} (h : MemoAt w mb P F) (hb : w'.heap[mb]? = w.heap[mb]?) : MemoAt w' mb P F := by
  obtain ⟨es, c, h1, h2⟩ := h
  exact ⟨es, c, hb.trans h1, h2⟩
theorem MemoAt.lt {w : World} {mb : Nat} {P : Int → Int → Prop} {F : Int → Int → Int} (h : MemoAt w mb P F) : mb < w.heap.size := by
  obtain ⟨es, c, h1, -⟩ := h
  exact (Array.getElem?_eq_some_iff.1 h1).1
theorem MemoAt.mono {w w' : World} {mb : Nat} {P : Int → Int → Prop} {F : Int → Int → Int} (h : MemoAt w mb P F) (hb : Below w.heap.size w w') : MemoAt w' mb P F := h.same (hb.block _ h.lt)
theorem MemoAt.no_cell {w : World} {mb : Nat} {P : Int → Int → Prop} {F : Int → Int → Int} (h : MemoAt w mb P F) {b o : Nat} {v : Value} (hc : w.cell? ⟨b, o, none⟩ = some v) : b ≠ mb := by
  obtain ⟨es, c, h1, -⟩ := h
  rintro rfl
  simp [World.cell?, h1] at hc
/-- What is kept beside the map: all cells. -/
theorem MemoAt.kc {w w' : World} {mb : Nat} {P : Int → Int → Prop} {F : Int → Int → Int} (h : MemoAt w mb P F) (hk : Kept (fun k => k ≠ mb) w w') : Kc w w' := ⟨hk.size, fun _ _ _ hc => hk.cell (h.no_cell hc) hc⟩

theorem fields_spot : (Try.prog.fieldsOf 91).toList = [⟨"day", 3, 0, false, "", "saltdome/season", 0⟩, ⟨"fill", 3, 1, false, "", "saltdome/season", 8⟩] := by kernel_rfl
theorem run_eq_spot (a b c d : Int) (w : World) : (Op.equal 91 (spotV a b) (spotV c d)).run Try.prog w = .ok (a == c && b == d) w := by
  show (Op.equalIn 10000 _ _ _).run Try.prog w = _
  rw [run_equalIn_struct w 9999 91 _ _ (by kernel_rfl) (by kernel_rfl), fields_spot]
  simp only [Op.eqFields]
  rw [if_pos (by decide), if_pos (by decide)]
  simp only [Sem.run_bind, Sem.run_ite, part0, part1, Result.andThen_ok, eqInt9]
  by_cases h : a = c <;> by_cases h' : b = d <;> simp [h, h', part0, part1, eqInt9, Sem.run]

theorem run_check (em : Bool) (d f : Int) (w : World) : (Instr.checkKey em 10000 91 (spotV d f)).run Try.prog w = .ok () w := by kernel_rfl

theorem run_ask (d f : Int) (w : World) : ∀ (es : List MapEntry) (i : Nat), (∀ e ∈ es, ∃ d f v, e.key = spotV d f ∧ e.val = .int .i64 v) →
    ((Instr.findAsking 91 (spotV d f) es i).run Try.prog w = .ok none w ∧ ∀ e ∈ es, e.key ≠ spotV d f) ∨
      ∃ j e, (Instr.findAsking 91 (spotV d f) es i).run Try.prog w = .ok (some (i + j, e.val)) w ∧ es[j]? = some e ∧ e.key = spotV d f
  | [], i, _ => .inl ⟨rfl, fun e he => by cases he⟩
  | e :: es, i, h => by
    obtain ⟨d1, f1, v, hk, hv⟩ := h e (List.mem_cons_self ..)
    have hstep : (Instr.findAsking 91 (spotV d f) (e :: es) i).run Try.prog w = if (d == d1 && f == f1) = true then .ok (some (i, e.val)) w else (Instr.findAsking 91 (spotV d f) es (i + 1)).run Try.prog w := by
      rw [Instr.findAsking]
      simp only [Sem.run_bind, hk, run_eq_spot, Result.andThen_ok, Sem.run_ite]
      rfl
    by_cases he : d = d1 ∧ f = f1
    · refine .inr ⟨0, e, ?_, rfl, ?_⟩
      · rw [hstep, if_pos (by simp [he]), Nat.add_zero]
      · rw [hk, he.1, he.2]
    · rw [hstep, if_neg (by simpa using he)]
      rcases run_ask d f w es (i + 1) (fun x hx => h x (List.mem_cons_of_mem _ hx)) with ⟨h1, h2⟩ | ⟨j, x, h1, h2, h3⟩
      · refine .inl ⟨h1, fun x hx => ?_⟩
        rcases List.mem_cons.1 hx with rfl | hx
        · rw [hk]; intro e'; simp at e'; exact he ⟨e'.1.symm, e'.2.symm⟩
        · exact h2 x hx
      · exact .inr ⟨j + 1, x, by rw [h1, show i + 1 + j = i + (j + 1) by omega], h2, h3⟩

theorem find_now (d f : Int) (es : List MapEntry) (i : Nat) : Instr.findNow (.struct (Try.prog.fieldsOf 91)) (spotV d f) es i = if es = [] then some none else none := by
  cases es with
  | nil => rfl
  | cons e es => simp [Instr.findNow, Instr.sameNow]

theorem run_find (d f : Int) (w : World) (es : List MapEntry) (h : ∀ e ∈ es, ∃ d f v, e.key = spotV d f ∧ e.val = .int .i64 v) :
    ((Instr.findKey 91 (spotV d f) es).run Try.prog w = .ok none w ∧ ∀ e ∈ es, e.key ≠ spotV d f) ∨
      ∃ j e, (Instr.findKey 91 (spotV d f) es).run Try.prog w = .ok (some (j, e.val)) w ∧ es[j]? = some e ∧ e.key = spotV d f := by
  have hu : Try.prog.underlying 91 = some (.struct (Try.prog.fieldsOf 91)) := by kernel_rfl
  unfold Instr.findKey
  simp only [Sem.run_bind, run_underlying hu, Result.andThen_ok, find_now]
  by_cases he : es = []
  · subst he
    exact .inl ⟨rfl, fun e he => by cases he⟩
  · rw [if_neg he]
    rcases run_ask d f w es 0 h with ⟨h1, h2⟩ | ⟨j, e, h1, h2, h3⟩
    · exact .inl ⟨h1, h2⟩
    · exact .inr ⟨j, e, by rw [Nat.zero_add] at h1; exact h1, h2, h3⟩

/-- A lookup in the map: what the function says, if something lies there; alike in all worlds in which the map is this one. -/
theorem run_memo_look {w : World} {mb : Nat} {P : Int → Int → Prop} {F : Int → Int → Int} (h : MemoAt w mb P F) (d f : Int) :
    (∀ w', w'.heap[mb]? = w.heap[mb]? → (Instr.lookup 86 (.map (some mb)) (spotV d f) true).run Try.prog w' = .ok (.tuple #[.int .i64 0, .bool false]) w') ∨
      (P d f ∧ ∀ w', w'.heap[mb]? = w.heap[mb]? → (Instr.lookup 86 (.map (some mb)) (spotV d f) true).run Try.prog w' = .ok (.tuple #[.int .i64 (F d f), .bool true]) w') := by
  obtain ⟨es, c, h1, h2⟩ := h
  have hz : ∀ w, (zeroValue 3).run Try.prog w = .ok (.int .i64 0) w := fun w => by kernel_rfl
  have hu : Try.prog.underlying 86 = some (.map 91 3) := by kernel_rfl
  have hes : ∀ e ∈ es.toList, ∃ d f v, e.key = spotV d f ∧ e.val = .int .i64 v := fun e he => by obtain ⟨d, f, -, hk, hv⟩ := h2 e he; exact ⟨d, f, _, hk, hv⟩
  by_cases hex : ∃ e ∈ es.toList, e.key = spotV d f
  · right
    obtain ⟨e0, he0, hk0⟩ := hex
    obtain ⟨d1, f1, hp, hk1, -⟩ := h2 e0 he0
    rw [hk0] at hk1
    simp at hk1
    obtain ⟨rfl, rfl⟩ := hk1
    refine ⟨hp, fun w' hw' => ?_⟩
    have h1' := hw'.trans h1
    rcases run_find d f w' es.toList hes with ⟨-, h4⟩ | ⟨j, e, h3, h4, h5⟩
    · exact absurd hk0 (h4 e0 he0)
    · obtain ⟨d1, f1, -, hk, hv⟩ := h2 e (List.mem_of_getElem? h4)
      rw [h5] at hk
      simp at hk
      obtain ⟨rfl, rfl⟩ := hk
      simp [Instr.lookup, Sem.run_bind, run_underlying hu, MapKept.run_getObj_map h1', run_check, h3, hv]
  · left
    intro w' hw'
    have h1' := hw'.trans h1
    rcases run_find d f w' es.toList hes with ⟨h3, -⟩ | ⟨j, e, h3, h4, h5⟩
    · simp [Instr.lookup, Sem.run_bind, run_underlying hu, MapKept.run_getObj_map h1', run_check, h3, hz]
    · exact absurd ⟨e, List.mem_of_getElem? h4, h5⟩ hex

/-- A store into the map. -/
theorem run_memo_put {w : World} {mb : Nat} {P : Int → Int → Prop} {F : Int → Int → Int} (h : MemoAt w mb P F) (d f : Int) (hp : P d f) :
    ∃ o, (Instr.mapUpdate 86 (.map (some mb)) (spotV d f) (.int .i64 (F d f))).run Try.prog w = .ok () (w.putObj mb o) ∧ MemoAt (w.putObj mb o) mb P F := by
  have hlt := h.lt
  obtain ⟨es, c, h1, h2⟩ := h
  have hu : Try.prog.underlying 86 = some (.map 91 3) := by kernel_rfl
  rcases run_find d f w es.toList (fun e he => by obtain ⟨d, f, -, hk, hv⟩ := h2 e he; exact ⟨d, f, _, hk, hv⟩) with ⟨h3, -⟩ | ⟨j, e, h3, h4, h5⟩
  · refine ⟨.map (es.push { key := spotV d f, val := .int .i64 (F d f), born := c }) (c + 1), ?_, ⟨_, _, World.putObj_heap_same hlt, ?_⟩⟩
    · simp [Instr.mapUpdate, Sem.run_bind, run_underlying hu, MapKept.run_getObj_map h1, run_check, h3, MapKept.run_setObj_map _ h1, World.putObj]
    · intro x hx
      simp only [Array.toList_push, List.mem_append, List.mem_singleton] at hx
      rcases hx with hx | rfl
      · exact h2 x hx
      · exact ⟨d, f, hp, rfl, rfl⟩
  · have hsb : Instr.sameBits 10000 (spotV d f) (spotV d f) = true := by simp [Instr.sameBits]
    have hst : (Instr.keyThatStays (spotV d f) (spotV d f)).run Try.prog w = .ok (spotV d f) w := by simp [Instr.keyThatStays, hsb, Sem.run]
    have h4' : es[j]? = some e := by simpa using h4
    refine ⟨.map (es.modify j fun e => { e with key := spotV d f, val := .int .i64 (F d f) }) c, ?_, ⟨_, _, World.putObj_heap_same hlt, ?_⟩⟩
    · simp [Instr.mapUpdate, Sem.run_bind, run_underlying hu, MapKept.run_getObj_map h1, run_check, h3, h4', h5, hst, MapKept.run_setObj_map _ h1, World.putObj]
    · intro x hx
      obtain ⟨i, hi⟩ := List.mem_iff_getElem?.1 hx
      rw [Array.getElem?_toList, Array.getElem?_modify] at hi
      by_cases hij : j = i
      · rw [if_pos hij, ← hij, h4'] at hi
        simp at hi
        subst hi
        exact ⟨d, f, hp, rfl, rfl⟩
      · rw [if_neg hij] at hi
        exact h2 x (List.mem_iff_getElem?.2 ⟨i, by simpa using hi⟩)
end Go.Proofs.Ytacajmpggjgaiaa
