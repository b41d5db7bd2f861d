/- Laws and walks: Lw1, Lmp, Lw2, Lw3. -/
import Derived.Laws.StructEq
import Derived.Maps.AppendAt
import Derived.Test.YthbkcoijafehgaaGreatK20
import Derived.Test.YthbkcoijafehgaaGreatK21
import Derived.Test.YthbkcoijafehgaaGreatK29
set_option linter.unusedVariables false
set_option linter.unusedSimpArgs false
namespace Lc
open Lk
def spnB (s : Sp) (a b : Int) : Bool := decide (a ≤ s.lo) && decide (s.lo ≤ s.hi) && decide (s.hi ≤ b)
def sumSp (l : List Sp) : Sp := l.foldl addSp ⟨0, 0⟩
theorem sumSp_take {l : List Sp} {k : Nat} (h : k < l.length) : sumSp (l.take (k + 1)) = addSp (sumSp (l.take k)) (spAt l k) := by
  have e : spAt l k = l[k] := by simp [spAt, h]
  rw [List.take_succ_eq_append_getElem h, e]
  simp only [sumSp, List.foldl_append, List.foldl_cons, List.foldl_nil]
theorem sumSp_bd {l : List Sp} {M : Int} (h : ∀ k, k < l.length → -M ≤ (spAt l k).lo ∧ (spAt l k).lo ≤ M ∧ -M ≤ (spAt l k).hi ∧ (spAt l k).hi ≤ M) (hM : 0 ≤ M) (hM2 : M ≤ 1000000000000) (hl : l.length ≤ 100) : ∀ k : Nat, k ≤ l.length →
    -(1000000000000 * (k : Int)) ≤ (sumSp (l.take k)).lo ∧ (sumSp (l.take k)).lo ≤ 1000000000000 * (k : Int) ∧ -(1000000000000 * (k : Int)) ≤ (sumSp (l.take k)).hi ∧ (sumSp (l.take k)).hi ≤ 1000000000000 * (k : Int)
  | 0, _ => by simp [sumSp]
  | k + 1, hk => by
    have ih := sumSp_bd h hM hM2 hl k (by omega)
    have := h k (by omega)
    rw [sumSp_take (by omega)]
    simp only [addSp]; push_cast; omega
end Lc
namespace Go.Proofs.YthbkcoijafehgaaGreat.L
open Go.RowKit Go.Sd Lk Lc
theorem lcIn (a b c : Int) (w : World) :
    Calls Tryz.prog 41 #[.int .i64 a, .int .i64 b, .int .i64 c] w fun e w' => e = .returned (.bool (inB a b c)) ∧ w = w' := by
  by_cases h : b ≤ a
  · go_enter Tryz.func41, Tryz.ntmps41
    go_wp2
    go_ret
    exact ⟨by simp [inB, h], rfl⟩
  · go_enter Tryz.func41, Tryz.ntmps41
    go_wp2
    go_ret
    exact ⟨by simp [inB]; intro _; omega, rfl⟩
theorem lcSpan (s : Sp) (a b : Int) (w : World) :
    Calls Tryz.prog 87 #[spV s, .int .i64 a, .int .i64 b] w fun e w' => e = .returned (.bool (spnB s a b)) ∧ Below w.heap.size w w' := by
  by_cases h1 : a ≤ s.lo
  · by_cases h2 : s.lo ≤ s.hi
    · by_cases h3 : s.hi ≤ b
      · have hf : Hid (spnB s a b = true) := Lib.hid (by simp [spnB, h1, h2, h3])
        go_enter Tryz.func87, Tryz.ntmps87
        go_wp2
        go_ret
        exact ⟨bool_ret (by rw [hf.out]), (Below.refl _ _).alloc (Nat.le_refl _) _⟩
      · have hf : Hid (spnB s a b = false) := Lib.hid (by simp [spnB, h1, h2, h3])
        have h3' : b < s.hi := by omega
        go_enter Tryz.func87, Tryz.ntmps87
        go_wp2
        go_ret
        exact ⟨bool_ret (by rw [hf.out]), (Below.refl _ _).alloc (Nat.le_refl _) _⟩
    · have hf : Hid (spnB s a b = false) := Lib.hid (by simp [spnB, h1, h2])
      have h2' : s.hi < s.lo := by omega
      go_enter Tryz.func87, Tryz.ntmps87
      go_wp2
      go_ret
      exact ⟨bool_ret (by rw [hf.out]), (Below.refl _ _).alloc (Nat.le_refl _) _⟩
  · have hf : Hid (spnB s a b = false) := Lib.hid (by simp [spnB, h1])
    have h1' : s.lo < a := by omega
    go_enter Tryz.func87, Tryz.ntmps87
    go_wp2
    go_ret
    exact ⟨bool_ret (by rw [hf.out]), (Below.refl _ _).alloc (Nat.le_refl _) _⟩
set_option maxHeartbeats 2000000 in
theorem lcTimes (s : Sp) (n : Int) (w : World) (hn : 0 ≤ n) (h1 : -1000000000000000 ≤ n * s.lo ∧ n * s.lo ≤ 1000000000000000) (h2 : -1000000000000000 ≤ n * s.hi ∧ n * s.hi ≤ 1000000000000000) :
    Calls Tryz.prog 91 #[spV s, .int .i64 n] w fun e w' => e = .returned (spV ⟨n * s.lo, n * s.hi⟩) ∧ Below w.heap.size w w' := by
  have hd : decide (n < 0) = false := decide_eq_false (by omega)
  have hd' : ¬ n < 0 := by omega
  go_enter Tryz.func91, Tryz.ntmps91
  go_wp2
  refine bodyPost_ret (v := spV ⟨n * s.lo, n * s.hi⟩) (by simp [results, Tryz.results91, go_sem]) rfl ⟨rfl, (two_new rfl).2.2.2⟩
end Go.Proofs.YthbkcoijafehgaaGreat.L
set_option linter.unusedVariables false
set_option linter.unusedSimpArgs false
namespace Go.Proofs.YthbkcoijafehgaaGreat.L
open Go.RowKit Go.Sd Lk Lc
abbrev plV (a b : Int) : Value := .agg #[.int .i64 a, .int .i64 b]
theorem place_under : Tryz.prog.underlying 160 = some (.struct (Tryz.prog.fieldsOf 160)) := by kernel_rfl
theorem equal_place (a b c d : Int) (w : World) : (Op.equal 160 (plV a b) (plV c d)).run Tryz.prog w = .ok (decide (a = c) && decide (b = d)) w := by
  show (Op.equalIn (9999 + 1) _ _ _).run _ _ = _
  rw [run_equalIn_struct _ _ _ _ _ place_under (by kernel_rfl)]
  by_cases h1 : a = c
  · by_cases h2 : b = d
    · subst h1 h2
      simp [go_sem]
    · subst h1
      simp [go_sem, h2]
  · simp [go_sem, h1]
theorem find_place (a b : Int) (w : World) : ∀ (es : List MapEntry) (i : Nat), (∀ e ∈ es, ∃ c d : Int, e.key = plV c d) →
    ∃ r, (Instr.findAsking 160 (plV a b) es i).run Tryz.prog w = .ok r w ∧ ∀ j v, r = some (j, v) → ∃ e, es[j - i]? = some e ∧ i ≤ j ∧ e.key = plV a b ∧ e.val = v
  | [], i, _ => ⟨none, rfl, fun j v h => by cases h⟩
  | e :: es, i, h => by
    obtain ⟨c, d, hk⟩ := h e (List.mem_cons_self ..)
    obtain ⟨r, hr, hj⟩ := find_place a b w es (i + 1) fun x hx => h x (List.mem_cons_of_mem _ hx)
    by_cases hc : a = c ∧ b = d
    · obtain ⟨rfl, rfl⟩ := hc
      refine ⟨some (i, e.val), ?_, fun j v hv => ?_⟩
      · simp only [Instr.findAsking, hk, Sem.run_bind, equal_place, Result.andThen_ok]
        simp [go_sem]
      · cases hv
        exact ⟨e, by simp, Nat.le_refl _, hk, rfl⟩
    · refine ⟨r, ?_, fun j v hv => ?_⟩
      · have hf : (decide (a = c) && decide (b = d)) = false := by simpa using hc
        simp only [Instr.findAsking, hk, Sem.run_bind, equal_place, Result.andThen_ok, hf]
        simpa using hr
      · obtain ⟨e', h1, h2, h3, h4⟩ := hj j v hv
        refine ⟨e', ?_, by omega, h3, h4⟩
        obtain ⟨q, rfl⟩ : ∃ q, j = i + 1 + q := ⟨j - (i + 1), by omega⟩
        rw [show i + 1 + q - i = q + 1 by omega, List.getElem?_cons_succ]
        rw [show i + 1 + q - (i + 1) = q by omega] at h1
        exact h1
theorem check_place (em : Bool) (a b : Int) (w : World) : (Instr.checkKey em 10000 160 (plV a b)).run Tryz.prog w = .ok () w := by kernel_rfl
theorem find_key (a b : Int) (w : World) (es : List MapEntry) (h : ∀ e ∈ es, ∃ c d : Int, e.key = plV c d) :
    ∃ r, (Instr.findKey 160 (plV a b) es).run Tryz.prog w = .ok r w ∧ ∀ j v, r = some (j, v) → ∃ e, es[j]? = some e ∧ e.key = plV a b ∧ e.val = v := by
  obtain ⟨r, hr, hj⟩ := find_place a b w es 0 h
  cases es with
  | nil => exact ⟨none, by simp [Instr.findKey, run_underlying place_under, Instr.findNow], fun j v h => by cases h⟩
  | cons e es =>
    refine ⟨r, ?_, fun j v hv => ?_⟩
    · simp [Instr.findKey, run_underlying place_under, Instr.findNow, Instr.sameNow, hr]
    · obtain ⟨e', h1, _, h3, h4⟩ := hj j v hv
      exact ⟨e', by simpa using h1, h3, h4⟩
/-- Block mb is a map that holds, at each place that it has, what f says. -/
def MapG (w : World) (mb : Nat) (f : Int → Int → Sp) : Prop :=
  ∃ es clock, w.heap[mb]? = some (.map es clock) ∧ ∀ e ∈ es.toList, ∃ a b : Int, e.key = plV a b ∧ e.val = spV (f a b)
theorem MapG.grown {w w' : World} {mb : Nat} {f : Int → Int → Sp} (h : MapG w mb f) (hb : Below w.heap.size w w') : MapG w' mb f := by
  obtain ⟨es, clock, h1, h2⟩ := h
  exact ⟨es, clock, kept_block hb h1, h2⟩
theorem MapG.made {w W : World} {f : Int → Int → Sp} (h : w.alloc (.map #[] 0) = W) : MapG W w.heap.size f := by
  obtain ⟨e, _, _⟩ := boxed h
  exact ⟨#[], 0, e, by simp⟩
theorem look_place {w : World} {mb : Nat} {f : Int → Int → Sp} (h : MapG w mb f) (a b : Int) :
    ∃ v is, (Instr.lookup 157 (.map (some mb)) (plV a b) true).run Tryz.prog w = .ok (.tuple #[v, .bool is]) w ∧ ((is = true ∧ v = spV (f a b)) ∨ (is = false ∧ v = spV ⟨0, 0⟩)) := by
  obtain ⟨es, clock, h1, h2⟩ := h
  have hu : Tryz.prog.underlying 157 = some (.map 160 23) := by kernel_rfl
  obtain ⟨r, hr, hj⟩ := find_key a b w es.toList fun e he => let ⟨c, d, k, _⟩ := h2 e he; ⟨c, d, k⟩
  have hz : (zeroValue 23).run Tryz.prog w = .ok (spV ⟨0, 0⟩) w := by kernel_rfl
  cases r with
  | none =>
    refine ⟨spV ⟨0, 0⟩, false, ?_, .inr ⟨rfl, rfl⟩⟩
    simp [Instr.lookup, run_underlying hu, MapKept.run_getObj_map h1, check_place, hr, hz, Result.andThen]
  | some r =>
    obtain ⟨j, v⟩ := r
    obtain ⟨e, e1, e2, e3⟩ := hj j v rfl
    refine ⟨v, true, ?_, .inl ⟨rfl, ?_⟩⟩
    · simp [Instr.lookup, run_underlying hu, MapKept.run_getObj_map h1, check_place, hr, Result.andThen]
    · obtain ⟨c, d, k1, k2⟩ := h2 e (List.mem_of_getElem? e1)
      rw [← e3, k2]
      rw [e2] at k1
      simp only [Value.agg.injEq, Array.mk.injEq, List.cons.injEq, Value.int.injEq, and_true, true_and] at k1
      rw [k1.1, k1.2]
/-- What turns in the map's block alone. -/
theorem store_place {w : World} {mb : Nat} {f : Int → Int → Sp} (h : MapG w mb f) (a b : Int) :
    ∃ w', (Instr.mapUpdate 157 (.map (some mb)) (plV a b) (spV (f a b))).run Tryz.prog w = .ok () w' ∧ MapG w' mb f ∧ w.grownBy w' (some mb) := by
  obtain ⟨es, clock, h1, h2⟩ := h
  have hu : Tryz.prog.underlying 157 = some (.map 160 23) := by kernel_rfl
  obtain ⟨r, hr, hj⟩ := find_key a b w es.toList fun e he => let ⟨c, d, k, _⟩ := h2 e he; ⟨c, d, k⟩
  have hG : ∀ es' clock', w.grownBy (ChangeMaps.setBlock w mb (.map es' clock')) (some mb) := fun es' clock' =>
    ⟨rfl, rfl, rfl, by simp [ChangeMaps.setBlock], fun i _ hi => ChangeMaps.heap_setBlock_other h1 _ (fun e => hi (by rw [e]))⟩
  cases r with
  | none =>
    refine ⟨ChangeMaps.setBlock w mb (.map (es.push ⟨plV a b, spV (f a b), clock⟩) (clock + 1)), ?_, ⟨_, _, ChangeMaps.heap_setBlock_same h1 _, fun x hx => ?_⟩, hG _ _⟩
    · simp [Instr.mapUpdate, run_underlying hu, MapKept.run_getObj_map h1, check_place, hr, MapKept.run_setObj_map _ h1, Result.andThen, ChangeMaps.setBlock]
    · simp only [Array.toList_push, List.mem_append, List.mem_singleton] at hx
      rcases hx with hx | rfl
      · exact h2 x hx
      · exact ⟨a, b, rfl, rfl⟩
  | some r =>
    obtain ⟨j, v⟩ := r
    obtain ⟨e, e1, e2, e3⟩ := hj j v rfl
    have hk : (Instr.keyThatStays (plV a b) (plV a b)).run Tryz.prog w = .ok (plV a b) w := by
      have : Instr.sameBits 10000 (plV a b) (plV a b) = true := by simp [Instr.sameBits]
      simp [Instr.keyThatStays, this]
    have hj' : es[j]? = some e := by simpa using e1
    refine ⟨ChangeMaps.setBlock w mb (.map (es.modify j fun e' => { e' with key := plV a b, val := spV (f a b) }) clock), ?_, ⟨_, _, ChangeMaps.heap_setBlock_same h1 _, fun x hx => ?_⟩, hG _ _⟩
    · simp [Instr.mapUpdate, run_underlying hu, MapKept.run_getObj_map h1, check_place, hr, hj', e2, hk, MapKept.run_setObj_map _ h1, Result.andThen, ChangeMaps.setBlock]
    · rcases MapFrom.mem_modify hx with hx | ⟨e', _, rfl⟩
      · exact h2 x hx
      · exact ⟨a, b, rfl, rfl⟩
end Go.Proofs.YthbkcoijafehgaaGreat.L
set_option linter.unusedVariables false
set_option linter.unusedSimpArgs false
namespace Lc
open Lk
def exSls : List Sl := [⟨900000, 1000000, 1200, 100, 20, 40, 1480000⟩, ⟨1000000, 1000000, 1100, 50, 30, 50, 3000000⟩, ⟨500000, 600000, 1000, 0, 40, 60, 3000000⟩]
def exB : Sg := ⟨10, 2, 0, 3⟩
end Lc
namespace Go.Proofs.YthbkcoijafehgaaGreat.L
open Go.RowKit Go.Sd Lk Lc
set_option maxRecDepth 100000 in
set_option maxHeartbeats 2000000 in
theorem lcBoth (lv : Value) (l : List Sp) (w : World) (hl : SpsAt w lv l) (hb : ∀ k, k < l.length → -1000000000000 ≤ (spAt l k).lo ∧ (spAt l k).lo ≤ 1000000000000 ∧ -1000000000000 ≤ (spAt l k).hi ∧ (spAt l k).hi ≤ 1000000000000) (hn : l.length ≤ 100) :
    Calls Tryz.prog 66 #[lv] w fun e w' => e = .returned (spV (sumSp l)) ∧ Below w.heap.size w w' := by
  obtain ⟨W, hW⟩ : ∃ W, (w.alloc (spO ⟨0, 0⟩)).alloc (spO ⟨0, 0⟩) = W := ⟨_, rfl⟩
  obtain ⟨e0, e1, s0, b0⟩ := two_new hW
  obtain ⟨a, cap, rfl, hm, hx⟩ := hl.form
  have hx2 := Lib.hid hx
  have hbd := Lib.hid (sumSp_bd hb (by omega) (by omega) hn)
  clear hx hl hb
  go_enter Tryz.func66, Tryz.ntmps66
  go_wp2
  go_loopw [8] (fun i wr => ∃ k : Nat, k ≤ l.length ∧ i = .int .i64 k ∧ Hid (∃ t, t = sumSp (l.take k) ∧ wr.heap[w.heap.size]? = some (spO ⟨0, 0⟩) ∧ wr.heap[w.heap.size + 1]? = some (spO t) ∧ Below w.heap.size w wr)) (fun i _ => l.length - (intOf i).toNat)
  case atStart => exact ⟨0, by omega, rfl, ⟨0, 0⟩, rfl, e0, e1, b0⟩
  case round =>
    obtain ⟨k, hk, rfl, hH⟩ := hrel
    obtain ⟨t, ht, f0, f1, hB⟩ := hH.out
    clear hH
    obtain ⟨c0, c1⟩ := rc2 f0
    obtain ⟨d0, d1⟩ := rf2 f0
    obtain ⟨c2, c3⟩ := rc2 f1
    obtain ⟨d2, d3⟩ := rf2 f1
    have z0 := (Array.getElem?_eq_some_iff.1 f0).1
    have z1 := (Array.getElem?_eq_some_iff.1 f1).1
    by_cases hkl : k < l.length
    · obtain ⟨b, off, rfl, hb, hx⟩ := hx2.out (by omega)
      have x0 : wr.cell? ⟨b, off + k * 2, none⟩ = some (.int .i64 (spAt l k).lo) := kept_cell hB (hx k 0 _ hkl rfl)
      have x1 : wr.cell? ⟨b, off + k * 2 + 1, none⟩ = some (.int .i64 (spAt l k).hi) := kept_cell hB (hx k 1 _ hkl rfl)
      clear hx
      have hn1 := sumSp_take hkl
      have hbk := hbd.out (k + 1) (by omega)
      rw [hn1, ← ht] at hbk
      simp only [addSp] at hbk
      have hn2 := Lib.hid hn1
      replace ht := Lib.hid ht
      generalize spAt l k = x at *
      clear hn1
      have hlt : (k : Int) < (l.length : Int) := by omega
      go_wp2
      have y0 := set2 f1 (.int .i64 (t.lo + x.lo)) (.int .i64 (t.hi + x.hi))
      have y1 := (set2_other (w := wr) (i := 0) (j := 1) (.int .i64 (t.lo + x.lo)) (.int .i64 (t.hi + x.hi)) (show w.heap.size ≠ w.heap.size + 1 by omega)).trans f0
      have y2 := hB.trans (below_set2 (w := wr) (i := 0) (j := 1) (.int .i64 (t.lo + x.lo)) (.int .i64 (t.hi + x.hi)) (Nat.le_succ w.heap.size))
      refine ⟨⟨k + 1, by omega, by go_num, addSp t x, by rw [hn2.out, ← ht.out], ?_, ?_, y2.alloc y2.size _⟩, by simp [intOf]; omega⟩
      · exact (Below.heap_alloc _ _ _ (Array.getElem?_eq_some_iff.1 y1).1).trans y1
      · exact (Below.heap_alloc _ _ _ (Array.getElem?_eq_some_iff.1 y0).1).trans y0
    · obtain rfl : k = l.length := by omega
      replace ht := Lib.hid ht
      go_wp2
      obtain ⟨c4, c5⟩ := rc2 (set2 f0 (.int .i64 t.lo) (.int .i64 t.hi))
      refine bodyPost_ret (v := spV t) (by simp [results, Tryz.results66, go_sem, c4, c5]) rfl ⟨by rw [ht.out, List.take_length], hB.trans (below_set2 _ _ (by omega))⟩
theorem lcInT (a b c : Int) (w : World) (h : inB a b c = true) : Calls Tryz.prog 41 #[.int .i64 a, .int .i64 b, .int .i64 c] w fun e w' => e = .returned (.bool true) ∧ w = w' :=
  (lcIn a b c w).mono fun e w' ⟨h1, h2⟩ => ⟨h1.trans (bool_ret h), h2⟩
theorem lcSpanT (x y a b : Int) (w : World) (h : spnB ⟨x, y⟩ a b = true) : Calls Tryz.prog 87 #[.agg #[.int .i64 x, .int .i64 y], .int .i64 a, .int .i64 b] w fun e w' => e = .returned (.bool true) ∧ Below w.heap.size w w' :=
  (lcSpan ⟨x, y⟩ a b w).mono fun e w' ⟨h1, h2⟩ => ⟨h1.trans (bool_ret h), h2⟩
set_option maxRecDepth 100000 in
set_option maxHeartbeats 2000000 in
theorem validF (d : Sl) (hd : d ∈ exSls) (w : World) : Calls Tryz.prog 86 (#[lsV d] ++ #[]) w fun e w' => e = .returned (.bool false) ∧ Below w.heap.size w w' := by
  obtain ⟨W, hW⟩ : ∃ W, w.alloc (.cells #[.int .i64 d.vlo, .int .i64 d.vhi, .int .i64 d.opn, .int .i64 d.fall, .int .i64 d.rlo, .int .i64 d.rhi, .int .i64 d.most] 112) = W := ⟨_, rfl⟩
  obtain ⟨e0, b0, s0⟩ := boxed hW
  have hg := grow_cell W
  obtain ⟨z0, c0, -⟩ := row_cells e0
  have q0 : W.cell? ⟨w.heap.size, 0, none⟩ = some (.int .i64 d.vlo) := c0 0
  have q1 : W.cell? ⟨w.heap.size, 1, none⟩ = some (.int .i64 d.vhi) := c0 1
  have q2 : W.cell? ⟨w.heap.size, 2, none⟩ = some (.int .i64 d.opn) := c0 2
  have q3 : W.cell? ⟨w.heap.size, 3, none⟩ = some (.int .i64 d.fall) := c0 3
  have q4 : W.cell? ⟨w.heap.size, 4, none⟩ = some (.int .i64 d.rlo) := c0 4
  have q5 : W.cell? ⟨w.heap.size, 5, none⟩ = some (.int .i64 d.rhi) := c0 5
  have q6 : W.cell? ⟨w.heap.size, 6, none⟩ = some (.int .i64 d.most) := c0 6
  clear c0 e0
  simp only [exSls, List.mem_cons, List.not_mem_nil, or_false] at hd
  rcases hd with rfl | rfl | rfl
  all_goals
    go_enter Tryz.func86, Tryz.ntmps86
    go_wp2_with (first | (go_at_call 41; refine Calls.mono (lcInT _ _ _ _ (by decide +kernel)) ?_; rintro e w1 ⟨rfl, rfl⟩) | (go_at_call 87; refine Calls.mono (lcSpanT _ _ _ _ _ (by decide +kernel)) ?_; rintro e w1 ⟨rfl, hB⟩; (first | (obtain ⟨g, rfl⟩ := g.next hB) | (obtain ⟨g, rfl⟩ : ∃ g : Grow W, w1 = g.x := ⟨⟨w1, hB⟩, rfl⟩)); clear hB))
    go_ret
    exact ⟨rfl, b0.trans (g.h.mono b0.size)⟩
theorem any_false {α : Type} (l : List α) : l.any (fun _ => false) = false := by induction l <;> simp_all
theorem exSlsNo (sv : Value) (X : World) (h : SlsAt X sv exSls) :
    Calls Tryz.prog 85 #[sv, .func (.func 86) #[] #[]] X fun e w' => e = .returned (.bool false) ∧ Below X.heap.size X w' :=
  (containsSls sv exSls (fun _ => false) 86 #[] X h (fun _ _ => by kernel_rfl) (fun d hd Y _ => validF d hd Y)).mono fun e w' hb => hb.lit (any_false _)
/-- The cavern of the example, boxed. -/
abbrev exCells (sv : Value) : Array Value := #[sv, .int .i64 100, .int .i64 700000]
set_option maxRecDepth 100000 in
set_option maxHeartbeats 2000000 in
theorem validT (sv : Value) (w : World) (h : SlsAt w sv exSls) : Calls Tryz.prog 62 #[.agg (exCells sv)] w fun e w' => e = .returned (.bool true) ∧ Below w.heap.size w w' := by
  obtain ⟨W, hW⟩ : ∃ W, w.alloc (.cells (exCells sv) 104) = W := ⟨_, rfl⟩
  obtain ⟨e0, b0, s0⟩ := boxed hW
  have hg := grow_cell W
  have hS := Lib.hid fun (g : Grow W) => exSlsNo sv g.x ((ElsAt.mono h b0).mono g.h)
  have hS0 := Lib.hid (exSlsNo sv W (ElsAt.mono h b0))
  obtain ⟨a, cap, rfl, -, -⟩ := h
  obtain ⟨z0, c0, -⟩ := row_cells e0
  obtain ⟨q0, q1, q2⟩ := rc3 e0
  clear c0 e0
  go_enter Tryz.func62, Tryz.ntmps62
  go_wp2_with (first | (go_at_call 41; refine Calls.mono (lcInT _ _ _ _ (by decide +kernel)) ?_; rintro e w1 ⟨rfl, rfl⟩) | (go_at_call 85; refine Calls.mono (hS0.out) ?_; rintro e w1 ⟨rfl, hB⟩; (first | (obtain ⟨g, rfl⟩ := g.next hB) | (obtain ⟨g, rfl⟩ : ∃ g : Grow W, w1 = g.x := ⟨⟨w1, hB⟩, rfl⟩)); clear hB))
  go_ret
  exact ⟨rfl, b0.trans (g.h.mono b0.size)⟩
set_option maxRecDepth 100000 in
set_option maxHeartbeats 2000000 in
theorem stageT (sv : Value) (w : World) (h : SlsAt w sv exSls) : Calls Tryz.prog 90 #[.agg (exCells sv), .agg #[.int .i64 10, .int .i64 2, .int .i64 0, .int .i64 3]] w fun e w' => e = .returned (.bool true) ∧ Below w.heap.size w w' := by
  obtain ⟨W, hW⟩ : ∃ W, (w.alloc (.cells (exCells sv) 104)).alloc (.cells #[.int .i64 10, .int .i64 2, .int .i64 0, .int .i64 3] 73) = W := ⟨_, rfl⟩
  obtain ⟨e0, e1, s0, b0⟩ := two_new hW
  obtain ⟨a, cap, rfl, -, -⟩ := h
  obtain ⟨q0, -, -⟩ := rc3 e0
  obtain ⟨q1, q2, q3, q4⟩ := rc4 e1
  have z0 := (Array.getElem?_eq_some_iff.1 e0).1
  have z1 := (Array.getElem?_eq_some_iff.1 e1).1
  clear e0 e1
  go_enter Tryz.func90, Tryz.ntmps90
  go_wp2_with (first | (go_at_call 41; refine Calls.mono (lcInT _ _ _ _ (by decide +kernel)) ?_; rintro e w1 ⟨rfl, rfl⟩))
  go_ret
  exact ⟨rfl, b0⟩
end Go.Proofs.YthbkcoijafehgaaGreat.L
set_option linter.unusedVariables false
set_option linter.unusedSimpArgs false
namespace Go.Proofs.YthbkcoijafehgaaGreat.L
open Go.RowKit Go.Sd Lk Lc
set_option maxRecDepth 100000 in
set_option maxHeartbeats 2000000 in
theorem stagedF (d : Sg) (hd : d ∈ [exB]) (sv : Value) (b : Nat) (X : World) (c0 : X.cell? ⟨b, 0, none⟩ = some sv) (c1 : X.cell? ⟨b, 1, none⟩ = some (.int .i64 100)) (c2 : X.cell? ⟨b, 2, none⟩ = some (.int .i64 700000)) (h : SlsAt X sv exSls) :
    Calls Tryz.prog 89 (#[sgV d] ++ #[.pointer (some ⟨b, 0, none⟩)]) X fun e w' => e = .returned (.bool false) ∧ Below X.heap.size X w' := by
  obtain rfl : d = exB := by simpa using hd
  obtain ⟨W, hW⟩ : ∃ W, X.alloc (.cells #[.int .i64 10, .int .i64 2, .int .i64 0, .int .i64 3] 73) = W := ⟨_, rfl⟩
  obtain ⟨e0, b0, s0⟩ := boxed hW
  have hg := grow_cell W
  replace c0 := kept_cell b0 c0
  replace c1 := kept_cell b0 c1
  replace c2 := kept_cell b0 c2
  have hS := Lib.hid (stageT sv W (ElsAt.mono h b0))
  obtain ⟨a, cap, rfl, -, -⟩ := h
  obtain ⟨q1, q2, q3, q4⟩ := rc4 e0
  have z0 := (Array.getElem?_eq_some_iff.1 e0).1
  clear e0
  show Calls Tryz.prog _ #[.agg #[.int .i64 10, .int .i64 2, .int .i64 0, .int .i64 3], .pointer (some ⟨b, 0, none⟩)] X _
  go_enter Tryz.func89, Tryz.ntmps89
  go_wp2_with (first | (go_at_call 90; refine Calls.mono (hS.out) ?_; rintro e w1 ⟨rfl, hB⟩; (first | (obtain ⟨g, rfl⟩ := g.next hB) | (obtain ⟨g, rfl⟩ : ∃ g : Grow W, w1 = g.x := ⟨⟨w1, hB⟩, rfl⟩)); clear hB))
  go_ret
  exact ⟨rfl, b0.trans (g.h.mono b0.size)⟩
set_option maxRecDepth 100000 in
set_option maxHeartbeats 2000000 in
theorem stagedT (sv lv : Value) (w : World) (h : SlsAt w sv exSls) (hl : SgsAt w lv [exB]) : Calls Tryz.prog 63 #[.agg (exCells sv), lv] w fun e w' => e = .returned (.bool true) ∧ Below w.heap.size w w' := by
  obtain ⟨W, hW⟩ : ∃ W, w.alloc (.cells (exCells sv) 104) = W := ⟨_, rfl⟩
  obtain ⟨e0, b0, s0⟩ := boxed hW
  have hg := grow_cell W
  have hS : Hid (Calls Tryz.prog 88 #[lv, .func (.func 89) #[] #[.pointer (some ⟨w.heap.size, 0, none⟩)]] W fun e w' => e = .returned (.bool false) ∧ Below W.heap.size W w') :=
    Lib.hid ((containsSgs lv [exB] (fun _ => false) 89 #[.pointer (some ⟨w.heap.size, 0, none⟩)] W (ElsAt.mono hl b0) (fun _ _ => by kernel_rfl) (fun d hd Y hY =>
      let c := rc3 e0; stagedF d hd sv w.heap.size Y (kept_cell hY c.1) (kept_cell hY c.2.1) (kept_cell hY c.2.2) ((ElsAt.mono h b0).mono hY))).mono fun e w' hb => hb.lit (any_false _))
  clear e0
  obtain ⟨a, cap, rfl, -, -⟩ := hl
  go_enter Tryz.func63, Tryz.ntmps63
  go_wp2_with (first | (go_at_call 88; refine Calls.mono (hS.out) ?_; rintro e w1 ⟨rfl, hB⟩; (first | (obtain ⟨g, rfl⟩ := g.next hB) | (obtain ⟨g, rfl⟩ : ∃ g : Grow W, w1 = g.x := ⟨⟨w1, hB⟩, rfl⟩)); clear hB))
  go_ret
  exact ⟨rfl, b0.trans (g.h.mono b0.size)⟩
set_option maxRecDepth 100000 in
set_option maxHeartbeats 2000000 in
theorem askedT (sv lv : Value) (w : World) (h : SlsAt w sv exSls) (hl : SgsAt w lv [exB]) : Calls Tryz.prog 39 #[.agg (exCells sv), lv] w fun e w' => e = .returned (.int .i64 0) ∧ Below w.heap.size w w' := by
  obtain ⟨W, hW⟩ : ∃ W, w.alloc (.cells (exCells sv) 104) = W := ⟨_, rfl⟩
  obtain ⟨e0, b0, s0⟩ := boxed hW
  have hg := grow_cell W
  have hV := Lib.hid (validT sv W (ElsAt.mono h b0))
  have hS := Lib.hid fun (g : Grow W) => stagedT sv lv g.x ((ElsAt.mono h b0).mono g.h) ((ElsAt.mono hl b0).mono g.h)
  obtain ⟨a, cap, rfl, -, -⟩ := hl
  obtain ⟨q0, q1, q2⟩ := rc3 e0
  have z0 := (Array.getElem?_eq_some_iff.1 e0).1
  clear e0
  obtain ⟨sa, sc, rfl, -, -⟩ := h
  go_enter Tryz.func39, Tryz.ntmps39
  go_wp2_with (first | (go_at_call 62; refine Calls.mono (hV.out) ?_; rintro e w1 ⟨rfl, hB⟩; (first | (obtain ⟨g, rfl⟩ := g.next hB) | (obtain ⟨g, rfl⟩ : ∃ g : Grow W, w1 = g.x := ⟨⟨w1, hB⟩, rfl⟩)); clear hB) | (go_at_call 63; refine Calls.mono (hS.out g) ?_; rintro e w1 ⟨rfl, hB⟩; (first | (obtain ⟨g, rfl⟩ := g.next hB) | (obtain ⟨g, rfl⟩ : ∃ g : Grow W, w1 = g.x := ⟨⟨w1, hB⟩, rfl⟩)); clear hB))
  go_ret
  exact ⟨rfl, b0.trans (g.h.mono b0.size)⟩
theorem weightT (n : Int) (h : inB n (-1000) 1000 = true) (w : World) : Calls Tryz.prog 40 #[.int .i64 n] w fun e w' => e = .returned (.bool true) ∧ w = w' := by
  have hI := Lib.hid (lcInT n (-1000) 1000 w h)
  go_enter Tryz.func40, Tryz.ntmps40
  go_wp2_with (first | (go_at_call 41; refine Calls.mono (hI.out) ?_; rintro e w1 ⟨rfl, rfl⟩))
  go_ret
  exact ⟨rfl, rfl⟩
theorem weightsF (d : Int) (hd : d ∈ [0, 0, 0]) (b : Nat) (X : World) (c0 : X.cell? ⟨b, 0, none⟩ = some (.func (.func 40) #[] #[])) :
    Calls Tryz.prog 43 (#[.int .i64 d] ++ #[.pointer (some ⟨b, 0, none⟩)]) X fun e w' => e = .returned (.bool false) ∧ Below X.heap.size X w' := by
  obtain rfl : d = 0 := by simpa using hd
  have hE : ∀ args w, (callFunc 40 args).run Tryz.prog w = .ok (.enter 40 args) w := fun _ _ => by kernel_rfl
  have hI := Lib.hid (weightT 0 (by decide) X)
  show Calls Tryz.prog _ #[.int .i64 0, .pointer (some ⟨b, 0, none⟩)] X _
  go_enter Tryz.func43, Tryz.ntmps43
  go_wp2_with (first | (go_at_call 40; refine Calls.mono (hI.out) ?_; rintro e w1 ⟨rfl, rfl⟩))
  go_ret
  exact ⟨rfl, Below.refl _ _⟩
theorem weightsT (lv : Value) (b : Nat) (X : World) (c0 : X.cell? ⟨b, 0, none⟩ = some (.func (.func 40) #[] #[])) (hl : IntsAt X lv [0, 0, 0]) :
    Calls Tryz.prog 42 #[lv, .func (.func 43) #[] #[.pointer (some ⟨b, 0, none⟩)]] X fun e w' => e = .returned (.bool false) ∧ Below X.heap.size X w' :=
  (containsInts lv [0, 0, 0] (fun _ => false) 43 #[.pointer (some ⟨b, 0, none⟩)] X hl (fun _ _ => by kernel_rfl) (fun d hd Y hY => weightsF d hd b Y (kept_cell hY c0))).mono fun e w' hb => hb.lit (any_false _)
end Go.Proofs.YthbkcoijafehgaaGreat.L
