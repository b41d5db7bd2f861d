/- Laws and walks: Lmp, Lw2, Lw3, LKee, LOwn, LFwd, LBwd. -/
import Derived.RegionTactic
import Derived.Test.YthjmdagonfeneaaGreatK34
import Derived.Test.YthjmdagonfeneaaGreatK39
set_option maxRecDepth 100000
set_option maxHeartbeats 16000000
set_option linter.unusedVariables false
set_option linter.unusedSimpArgs false
namespace Go.Proofs.YthjmdagonfeneaaGreat.L
open Go.RowKit Go.Sd Lk Lc
abbrev plV (a b : Int) : Value := .agg #[.int .i64 a, .int .i64 b]
theorem place_under : Tryz.prog.underlying 180 = some (.struct (Tryz.prog.fieldsOf 180)) := by kernel_rfl
theorem equal_place (a b c d : Int) (w : World) : (Op.equal 180 (plV a b) (plV c d)).run Tryz.prog w = .ok (decide (a = c) && decide (b = d)) w := by
 show (Op.equalIn (9999 + 1) _ _ _).run _ _ = _
 rw [run_equalIn_struct _ _ _ _ _ place_under (by kernel_rfl)]
 by_cases h1 : a = c
 · by_cases h2 : b = d
   · subst h1 h2
     simp [go_sem]
   · subst h1
     simp [go_sem, h2]
 · simp [go_sem, h1]
theorem find_place (a b : Int) (w : World) : ∀ (es : List MapEntry) (i : Nat), (∀ e ∈ es, ∃ c d : Int, e.key = plV c d) →
    ∃ r, (Instr.findAsking 180 (plV a b) es i).run Tryz.prog w = .ok r w ∧ ∀ j v, r = some (j, v) → ∃ e, es[j - i]? = some e ∧ i ≤ j ∧ e.key = plV a b ∧ e.val = v
 | [], i, _ => ⟨none, rfl, fun j v h => by cases h⟩
 | e :: es, i, h => by
  obtain ⟨c, d, hk⟩ := h e (List.mem_cons_self ..)
  obtain ⟨r, hr, hj⟩ := find_place a b w es (i + 1) fun x hx => h x (List.mem_cons_of_mem _ hx)
  by_cases hc : a = c ∧ b = d
  · obtain ⟨rfl, rfl⟩ := hc
    refine ⟨some (i, e.val), ?_, fun j v hv => ?_⟩
    · simp only [Instr.findAsking, hk, Sem.run_bind, equal_place, Result.andThen_ok]
      simp [go_sem]
    · cases hv
      exact ⟨e, by simp, Nat.le_refl _, hk, rfl⟩
  · refine ⟨r, ?_, fun j v hv => ?_⟩
    · have hf : (decide (a = c) && decide (b = d)) = false := by simpa using hc
      simp only [Instr.findAsking, hk, Sem.run_bind, equal_place, Result.andThen_ok, hf]
      simpa using hr
    · obtain ⟨e', h1, h2, h3, h4⟩ := hj j v hv
      refine ⟨e', ?_, by omega, h3, h4⟩
      obtain ⟨q, rfl⟩ : ∃ q, j = i + 1 + q := ⟨j - (i + 1), by omega⟩
      rw [show i + 1 + q - i = q + 1 by omega, List.getElem?_cons_succ]
      rw [show i + 1 + q - (i + 1) = q by omega] at h1
      exact h1
theorem check_place (em : Bool) (a b : Int) (w : World) : (Instr.checkKey em 10000 180 (plV a b)).run Tryz.prog w = .ok () w := by kernel_rfl
theorem find_key (a b : Int) (w : World) (es : List MapEntry) (h : ∀ e ∈ es, ∃ c d : Int, e.key = plV c d) :
    ∃ r, (Instr.findKey 180 (plV a b) es).run Tryz.prog w = .ok r w ∧ ∀ j v, r = some (j, v) → ∃ e, es[j]? = some e ∧ e.key = plV a b ∧ e.val = v := by
 obtain ⟨r, hr, hj⟩ := find_place a b w es 0 h
 cases es with
 | nil => exact ⟨none, by simp [Instr.findKey, run_underlying place_under, Instr.findNow], fun j v h => by cases h⟩
 | cons e es =>
  refine ⟨r, ?_, fun j v hv => ?_⟩
  · simp [Instr.findKey, run_underlying place_under, Instr.findNow, Instr.sameNow, hr]
  · obtain ⟨e', h1, _, h3, h4⟩ := hj j v hv
    exact ⟨e', by simpa using h1, h3, h4⟩
def MapG (w : World) (mb : Nat) (f : Int → Int → Sp) : Prop :=
 ∃ es clock, w.heap[mb]? = some (.map es clock) ∧ ∀ e ∈ es.toList, ∃ a b : Int, e.key = plV a b ∧ e.val = spV (f a b)
theorem MapG.grown {w w' : World} {mb : Nat} {f : Int → Int → Sp} (h : MapG w mb f) (hb : Below w.heap.size w w') : MapG w' mb f := by
 obtain ⟨es, clock, h1, h2⟩ := h
 exact ⟨es, clock, kept_block hb h1, h2⟩
theorem look_place {w : World} {mb : Nat} {f : Int → Int → Sp} (h : MapG w mb f) (a b : Int) :
    ∃ v is, (Instr.lookup 177 (.map (some mb)) (plV a b) true).run Tryz.prog w = .ok (.tuple #[v, .bool is]) w ∧ ((is = true ∧ v = spV (f a b)) ∨ (is = false ∧ v = spV ⟨0, 0⟩)) := by
 obtain ⟨es, clock, h1, h2⟩ := h
 have hu : Tryz.prog.underlying 177 = some (.map 180 23) := by kernel_rfl
 obtain ⟨r, hr, hj⟩ := find_key a b w es.toList fun e he => let ⟨c, d, k, _⟩ := h2 e he; ⟨c, d, k⟩
 have hz : (zeroValue 23).run Tryz.prog w = .ok (spV ⟨0, 0⟩) w := by kernel_rfl
 cases r with
 | none =>
  refine ⟨spV ⟨0, 0⟩, false, ?_, .inr ⟨rfl, rfl⟩⟩
  simp [Instr.lookup, run_underlying hu, MapKept.run_getObj_map h1, check_place, hr, hz, Result.andThen]
 | some r =>
  obtain ⟨j, v⟩ := r
  obtain ⟨e, e1, e2, e3⟩ := hj j v rfl
  refine ⟨v, true, ?_, .inl ⟨rfl, ?_⟩⟩
  · simp [Instr.lookup, run_underlying hu, MapKept.run_getObj_map h1, check_place, hr, Result.andThen]
  · obtain ⟨c, d, k1, k2⟩ := h2 e (List.mem_of_getElem? e1)
    rw [← e3, k2]
    rw [e2] at k1
    simp only [Value.agg.injEq, Array.mk.injEq, List.cons.injEq, Value.int.injEq, and_true, true_and] at k1
    rw [k1.1, k1.2]
theorem store_place {w : World} {mb : Nat} {f : Int → Int → Sp} (h : MapG w mb f) (a b : Int) :
    ∃ w', (Instr.mapUpdate 177 (.map (some mb)) (plV a b) (spV (f a b))).run Tryz.prog w = .ok () w' ∧ MapG w' mb f ∧ w.grownBy w' (some mb) := by
 obtain ⟨es, clock, h1, h2⟩ := h
 have hu : Tryz.prog.underlying 177 = some (.map 180 23) := by kernel_rfl
 obtain ⟨r, hr, hj⟩ := find_key a b w es.toList fun e he => let ⟨c, d, k, _⟩ := h2 e he; ⟨c, d, k⟩
 have hG : ∀ es' clock', w.grownBy (ChangeMaps.setBlock w mb (.map es' clock')) (some mb) := fun es' clock' =>
  ⟨rfl, rfl, rfl, by simp [ChangeMaps.setBlock], fun i _ hi => ChangeMaps.heap_setBlock_other h1 _ (fun e => hi (by rw [e]))⟩
 cases r with
 | none =>
  refine ⟨ChangeMaps.setBlock w mb (.map (es.push ⟨plV a b, spV (f a b), clock⟩) (clock + 1)), ?_, ⟨_, _, ChangeMaps.heap_setBlock_same h1 _, fun x hx => ?_⟩, hG _ _⟩
  · simp [Instr.mapUpdate, run_underlying hu, MapKept.run_getObj_map h1, check_place, hr, MapKept.run_setObj_map _ h1, Result.andThen, ChangeMaps.setBlock]
  · simp only [Array.toList_push, List.mem_append, List.mem_singleton] at hx
    rcases hx with hx | rfl
    · exact h2 x hx
    · exact ⟨a, b, rfl, rfl⟩
 | some r =>
  obtain ⟨j, v⟩ := r
  obtain ⟨e, e1, e2, e3⟩ := hj j v rfl
  have hk : (Instr.keyThatStays (plV a b) (plV a b)).run Tryz.prog w = .ok (plV a b) w := by
   have : Instr.sameBits 10000 (plV a b) (plV a b) = true := by simp [Instr.sameBits]
   simp [Instr.keyThatStays, this]
  have hj' : es[j]? = some e := by simpa using e1
  refine ⟨ChangeMaps.setBlock w mb (.map (es.modify j fun e' => { e' with key := plV a b, val := spV (f a b) }) clock), ?_, ⟨_, _, ChangeMaps.heap_setBlock_same h1 _, fun x hx => ?_⟩, hG _ _⟩
  · simp [Instr.mapUpdate, run_underlying hu, MapKept.run_getObj_map h1, check_place, hr, hj', e2, hk, MapKept.run_setObj_map _ h1, Result.andThen, ChangeMaps.setBlock]
  · rcases MapFrom.mem_modify hx with hx | ⟨e', _, rfl⟩
    · exact h2 x hx
    · exact ⟨a, b, rfl, rfl⟩
end Go.Proofs.YthjmdagonfeneaaGreat.L
set_option linter.unusedVariables false
set_option linter.unusedSimpArgs false
namespace Lc
open Lk
def exSls : List Sl := [⟨900000, 1000000, 1200, 100, 20, 40, 1480000⟩, ⟨1000000, 1000000, 1100, 50, 30, 50, 3000000⟩, ⟨500000, 600000, 1000, 0, 40, 60, 3000000⟩]
def exB : Sg := ⟨10, 2, 0, 3⟩
end Lc
namespace Go.Proofs.YthjmdagonfeneaaGreat.L
open Go.RowKit Go.Sd Lk Lc
theorem lcBoth (lv : Value) (l : List Sp) (w : World) (hl : SpsAt w lv l) (hb : ∀ k, k < l.length → -1000000000000 ≤ (spAt l k).lo ∧ (spAt l k).lo ≤ 1000000000000 ∧ -1000000000000 ≤ (spAt l k).hi ∧ (spAt l k).hi ≤ 1000000000000) (hn : l.length ≤ 100) :
    Calls Tryz.prog 89 #[lv] w fun e w' => e = .returned (spV (sumSp l)) ∧ Below w.heap.size w w' := by
 obtain ⟨W, hW⟩ : ∃ W, (w.alloc (spO ⟨0, 0⟩)).alloc (spO ⟨0, 0⟩) = W := ⟨_, rfl⟩
 obtain ⟨e0, e1, s0, b0⟩ := two_new hW
 obtain ⟨a, cap, rfl, hm, hx⟩ := hl.form
 have hx2 := Lib.hid hx
 have hbd := Lib.hid (sumSp_bd hb (by omega) (by omega) hn)
 clear hx hl hb
 go_enter Tryz.func89, Tryz.ntmps89
 go_wp2
 go_loopw [8] (fun i wr => ∃ k : Nat, k ≤ l.length ∧ i = .int .i64 k ∧ Hid (∃ t, t = sumSp (l.take k) ∧ wr.heap[w.heap.size]? = some (spO ⟨0, 0⟩) ∧ wr.heap[w.heap.size + 1]? = some (spO t) ∧ Below w.heap.size w wr)) (fun i _ => l.length - (intOf i).toNat)
 case atStart => exact ⟨0, by omega, rfl, ⟨0, 0⟩, rfl, e0, e1, b0⟩
 case round =>
  obtain ⟨k, hk, rfl, hH⟩ := hrel
  obtain ⟨t, ht, f0, f1, hB⟩ := hH.out
  clear hH
  obtain ⟨c0, c1⟩ := rc2 f0
  obtain ⟨d0, d1⟩ := rf2 f0
  obtain ⟨c2, c3⟩ := rc2 f1
  obtain ⟨d2, d3⟩ := rf2 f1
  have z0 := (zqo f0)
  have z1 := (zqo f1)
  by_cases hkl : k < l.length
  · obtain ⟨b, off, rfl, hb, hx⟩ := hx2.out (by omega)
    have x0 : wr.cell? ⟨b, off + k * 2, none⟩ = some (.int .i64 (spAt l k).lo) := kept_cell hB (hx k 0 _ hkl rfl)
    have x1 : wr.cell? ⟨b, off + k * 2 + 1, none⟩ = some (.int .i64 (spAt l k).hi) := kept_cell hB (hx k 1 _ hkl rfl)
    clear hx
    have hn1 := sumSp_take hkl
    have hbk := hbd.out (k + 1) (by omega)
    rw [hn1, ← ht] at hbk
    simp only [addSp] at hbk
    have hn2 := Lib.hid hn1
    replace ht := Lib.hid ht
    generalize spAt l k = x at *
    clear hn1
    have hlt : (k : Int) < (l.length : Int) := by omega
    go_wp2
    have y0 := set2 f1 (.int .i64 (t.lo + x.lo)) (.int .i64 (t.hi + x.hi))
    have y1 := (set2_other (w := wr) (i := 0) (j := 1) (.int .i64 (t.lo + x.lo)) (.int .i64 (t.hi + x.hi)) (show w.heap.size ≠ w.heap.size + 1 by omega)).trans f0
    have y2 := hB.trans (below_set2 (w := wr) (i := 0) (j := 1) (.int .i64 (t.lo + x.lo)) (.int .i64 (t.hi + x.hi)) (Nat.le_succ w.heap.size))
    refine ⟨⟨k + 1, by omega, by go_num, addSp t x, by rw [hn2.out, ← ht.out], ?_, ?_, y2.alloc y2.size _⟩, by simp [intOf]; omega⟩
    · exact (Below.heap_alloc _ _ _ (zqo y1)).trans y1
    · exact (Below.heap_alloc _ _ _ (zqo y0)).trans y0
  · obtain rfl : k = l.length := by omega
    replace ht := Lib.hid ht
    go_wp2
    obtain ⟨c4, c5⟩ := rc2 (set2 f0 (.int .i64 t.lo) (.int .i64 t.hi))
    refine bodyPost_ret (v := spV t) (by simp [results, Tryz.results89, go_sem, c4, c5]) rfl ⟨by rw [ht.out, List.take_length], hB.trans (below_set2 _ _ (by omega))⟩
theorem lcInT (a b c : Int) (w : World) (h : inB a b c = true) : Calls Tryz.prog 56 #[.int .i64 a, .int .i64 b, .int .i64 c] w fun e w' => e = .returned (.bool true) ∧ w = w' :=
 (lcIn a b c w).mono fun e w' ⟨h1, h2⟩ => ⟨h1.trans (bool_ret h), h2⟩
theorem lcSpanT (x y a b : Int) (w : World) (h : spnB ⟨x, y⟩ a b = true) : Calls Tryz.prog 111 #[.agg #[.int .i64 x, .int .i64 y], .int .i64 a, .int .i64 b] w fun e w' => e = .returned (.bool true) ∧ Below w.heap.size w w' :=
 (lcSpan ⟨x, y⟩ a b w).mono fun e w' ⟨h1, h2⟩ => ⟨h1.trans (bool_ret h), h2⟩
theorem validF (d : Sl) (hd : d ∈ exSls) (w : World) : Calls Tryz.prog 110 (#[lsV d] ++ #[]) w fun e w' => e = .returned (.bool false) ∧ Below w.heap.size w w' := by
 obtain ⟨W, hW⟩ : ∃ W, w.alloc (.cells #[.int .i64 d.vlo, .int .i64 d.vhi, .int .i64 d.opn, .int .i64 d.fall, .int .i64 d.rlo, .int .i64 d.rhi, .int .i64 d.most] 126) = W := ⟨_, rfl⟩
 obtain ⟨e0, b0, s0⟩ := boxed hW
 have hg := grow_cell W
 obtain ⟨z0, c0, -⟩ := row_cells e0
 have q0 : W.cell? ⟨w.heap.size, 0, none⟩ = some (.int .i64 d.vlo) := c0 0
 have q1 : W.cell? ⟨w.heap.size, 1, none⟩ = some (.int .i64 d.vhi) := c0 1
 have q2 : W.cell? ⟨w.heap.size, 2, none⟩ = some (.int .i64 d.opn) := c0 2
 have q3 : W.cell? ⟨w.heap.size, 3, none⟩ = some (.int .i64 d.fall) := c0 3
 have q4 : W.cell? ⟨w.heap.size, 4, none⟩ = some (.int .i64 d.rlo) := c0 4
 have q5 : W.cell? ⟨w.heap.size, 5, none⟩ = some (.int .i64 d.rhi) := c0 5
 have q6 : W.cell? ⟨w.heap.size, 6, none⟩ = some (.int .i64 d.most) := c0 6
 clear c0 e0
 simp only [exSls, List.mem_cons, List.not_mem_nil, or_false] at hd
 rcases hd with rfl | rfl | rfl
 all_goals
  go_enter Tryz.func110, Tryz.ntmps110
  go_wp2_with (first | (go_at_call 56; refine Calls.mono (lcInT _ _ _ _ (by decide +kernel)) ?_; rintro e w1 ⟨rfl, rfl⟩) | (go_at_call 111; refine Calls.mono (lcSpanT _ _ _ _ _ (by decide +kernel)) ?_; rintro e w1 ⟨rfl, hB⟩; (first | (obtain ⟨g, rfl⟩ := g.next hB) | (obtain ⟨g, rfl⟩ : ∃ g : Grow W, w1 = g.x := ⟨⟨w1, hB⟩, rfl⟩)); clear hB))
  go_ret
  exact ⟨rfl, b0.trans (g.h.mono b0.size)⟩
theorem any_false {α : Type} (l : List α) : l.any (fun _ => false) = false := by induction l <;> simp_all
theorem exSlsNo (sv : Value) (X : World) (h : SlsAt X sv exSls) :
    Calls Tryz.prog 109 #[sv, .func (.func 110) #[] #[]] X fun e w' => e = .returned (.bool false) ∧ Below X.heap.size X w' :=
 (containsSls sv exSls (fun _ => false) 110 #[] X h (fun _ _ => by kernel_rfl) (fun d hd Y _ => validF d hd Y)).mono fun e w' hb => hb.lit (any_false _)
abbrev exCells (sv : Value) : Array Value := #[sv, .int .i64 100, .int .i64 700000]
theorem validT (sv : Value) (w : World) (h : SlsAt w sv exSls) : Calls Tryz.prog 86 #[.agg (exCells sv)] w fun e w' => e = .returned (.bool true) ∧ Below w.heap.size w w' := by
 obtain ⟨W, hW⟩ : ∃ W, w.alloc (.cells (exCells sv) 120) = W := ⟨_, rfl⟩
 obtain ⟨e0, b0, s0⟩ := boxed hW
 have hg := grow_cell W
 have hS := Lib.hid fun (g : Grow W) => exSlsNo sv g.x ((ElsAt.mono h b0).mono g.h)
 have hS0 := Lib.hid (exSlsNo sv W (ElsAt.mono h b0))
 obtain ⟨a, cap, rfl, -, -⟩ := h
 obtain ⟨z0, c0, -⟩ := row_cells e0
 obtain ⟨q0, q1, q2⟩ := rc3 e0
 clear c0 e0
 go_enter Tryz.func86, Tryz.ntmps86
 go_wp2_with (first | (go_at_call 56; refine Calls.mono (lcInT _ _ _ _ (by decide +kernel)) ?_; rintro e w1 ⟨rfl, rfl⟩) | (go_at_call 109; refine Calls.mono (hS0.out) ?_; rintro e w1 ⟨rfl, hB⟩; (first | (obtain ⟨g, rfl⟩ := g.next hB) | (obtain ⟨g, rfl⟩ : ∃ g : Grow W, w1 = g.x := ⟨⟨w1, hB⟩, rfl⟩)); clear hB))
 go_ret
 exact ⟨rfl, b0.trans (g.h.mono b0.size)⟩
theorem stageT (sv : Value) (w : World) (h : SlsAt w sv exSls) : Calls Tryz.prog 114 #[.agg (exCells sv), .agg #[.int .i64 10, .int .i64 2, .int .i64 0, .int .i64 3]] w fun e w' => e = .returned (.bool true) ∧ Below w.heap.size w w' := by
 obtain ⟨W, hW⟩ : ∃ W, (w.alloc (.cells (exCells sv) 120)).alloc (.cells #[.int .i64 10, .int .i64 2, .int .i64 0, .int .i64 3] 72) = W := ⟨_, rfl⟩
 obtain ⟨e0, e1, s0, b0⟩ := two_new hW
 obtain ⟨a, cap, rfl, -, -⟩ := h
 obtain ⟨q0, -, -⟩ := rc3 e0
 obtain ⟨q1, q2, q3, q4⟩ := rc4 e1
 have z0 := (zqo e0)
 have z1 := (zqo e1)
 clear e0 e1
 go_enter Tryz.func114, Tryz.ntmps114
 go_wp2_with (first | (go_at_call 56; refine Calls.mono (lcInT _ _ _ _ (by decide +kernel)) ?_; rintro e w1 ⟨rfl, rfl⟩))
 go_ret
 exact ⟨rfl, b0⟩
end Go.Proofs.YthjmdagonfeneaaGreat.L
set_option linter.unusedVariables false
set_option linter.unusedSimpArgs false
namespace Go.Proofs.YthjmdagonfeneaaGreat.L
open Go.RowKit Go.Sd Lk Lc
theorem stagedF (d : Sg) (hd : d ∈ [exB]) (sv : Value) (b : Nat) (X : World) (c0 : X.cell? ⟨b, 0, none⟩ = some sv) (c1 : X.cell? ⟨b, 1, none⟩ = some (.int .i64 100)) (c2 : X.cell? ⟨b, 2, none⟩ = some (.int .i64 700000)) (h : SlsAt X sv exSls) :
    Calls Tryz.prog 113 (#[sgV d] ++ #[.pointer (some ⟨b, 0, none⟩)]) X fun e w' => e = .returned (.bool false) ∧ Below X.heap.size X w' := by
 obtain rfl : d = exB := by simpa using hd
 obtain ⟨W, hW⟩ : ∃ W, X.alloc (.cells #[.int .i64 10, .int .i64 2, .int .i64 0, .int .i64 3] 72) = W := ⟨_, rfl⟩
 obtain ⟨e0, b0, s0⟩ := boxed hW
 have hg := grow_cell W
 replace c0 := kept_cell b0 c0
 replace c1 := kept_cell b0 c1
 replace c2 := kept_cell b0 c2
 have hS := Lib.hid (stageT sv W (ElsAt.mono h b0))
 obtain ⟨a, cap, rfl, -, -⟩ := h
 obtain ⟨q1, q2, q3, q4⟩ := rc4 e0
 have z0 := (zqo e0)
 clear e0
 show Calls Tryz.prog _ #[.agg #[.int .i64 10, .int .i64 2, .int .i64 0, .int .i64 3], .pointer (some ⟨b, 0, none⟩)] X _
 go_enter Tryz.func113, Tryz.ntmps113
 go_wp2_with (first | (go_at_call 114; refine Calls.mono (hS.out) ?_; rintro e w1 ⟨rfl, hB⟩; (first | (obtain ⟨g, rfl⟩ := g.next hB) | (obtain ⟨g, rfl⟩ : ∃ g : Grow W, w1 = g.x := ⟨⟨w1, hB⟩, rfl⟩)); clear hB))
 go_ret
 exact ⟨rfl, b0.trans (g.h.mono b0.size)⟩
theorem stagedT (sv lv : Value) (w : World) (h : SlsAt w sv exSls) (hl : SgsAt w lv [exB]) : Calls Tryz.prog 87 #[.agg (exCells sv), lv] w fun e w' => e = .returned (.bool true) ∧ Below w.heap.size w w' := by
 obtain ⟨W, hW⟩ : ∃ W, w.alloc (.cells (exCells sv) 120) = W := ⟨_, rfl⟩
 obtain ⟨e0, b0, s0⟩ := boxed hW
 have hg := grow_cell W
 have hS : Hid (Calls Tryz.prog 112 #[lv, .func (.func 113) #[] #[.pointer (some ⟨w.heap.size, 0, none⟩)]] W fun e w' => e = .returned (.bool false) ∧ Below W.heap.size W w') :=
  Lib.hid ((containsSgs lv [exB] (fun _ => false) 113 #[.pointer (some ⟨w.heap.size, 0, none⟩)] W (ElsAt.mono hl b0) (fun _ _ => by kernel_rfl) (fun d hd Y hY =>
   let c := rc3 e0; stagedF d hd sv w.heap.size Y (kept_cell hY c.1) (kept_cell hY c.2.1) (kept_cell hY c.2.2) ((ElsAt.mono h b0).mono hY))).mono fun e w' hb => hb.lit (any_false _))
 clear e0
 obtain ⟨a, cap, rfl, -, -⟩ := hl
 go_enter Tryz.func87, Tryz.ntmps87
 go_wp2_with (first | (go_at_call 112; refine Calls.mono (hS.out) ?_; rintro e w1 ⟨rfl, hB⟩; (first | (obtain ⟨g, rfl⟩ := g.next hB) | (obtain ⟨g, rfl⟩ : ∃ g : Grow W, w1 = g.x := ⟨⟨w1, hB⟩, rfl⟩)); clear hB))
 go_ret
 exact ⟨rfl, b0.trans (g.h.mono b0.size)⟩
theorem askedT (sv lv : Value) (w : World) (h : SlsAt w sv exSls) (hl : SgsAt w lv [exB]) : Calls Tryz.prog 54 #[.agg (exCells sv), lv] w fun e w' => e = .returned (.int .i64 0) ∧ Below w.heap.size w w' := by
 obtain ⟨W, hW⟩ : ∃ W, w.alloc (.cells (exCells sv) 120) = W := ⟨_, rfl⟩
 obtain ⟨e0, b0, s0⟩ := boxed hW
 have hg := grow_cell W
 have hV := Lib.hid (validT sv W (ElsAt.mono h b0))
 have hS := Lib.hid fun (g : Grow W) => stagedT sv lv g.x ((ElsAt.mono h b0).mono g.h) ((ElsAt.mono hl b0).mono g.h)
 obtain ⟨a, cap, rfl, -, -⟩ := hl
 obtain ⟨q0, q1, q2⟩ := rc3 e0
 have z0 := (zqo e0)
 clear e0
 obtain ⟨sa, sc, rfl, -, -⟩ := h
 go_enter Tryz.func54, Tryz.ntmps54
 go_wp2_with (first | (go_at_call 86; refine Calls.mono (hV.out) ?_; rintro e w1 ⟨rfl, hB⟩; (first | (obtain ⟨g, rfl⟩ := g.next hB) | (obtain ⟨g, rfl⟩ : ∃ g : Grow W, w1 = g.x := ⟨⟨w1, hB⟩, rfl⟩)); clear hB) | (go_at_call 87; refine Calls.mono (hS.out g) ?_; rintro e w1 ⟨rfl, hB⟩; (first | (obtain ⟨g, rfl⟩ := g.next hB) | (obtain ⟨g, rfl⟩ : ∃ g : Grow W, w1 = g.x := ⟨⟨w1, hB⟩, rfl⟩)); clear hB))
 go_ret
 exact ⟨rfl, b0.trans (g.h.mono b0.size)⟩
theorem weightT (n : Int) (h : inB n (-1000) 1000 = true) (w : World) : Calls Tryz.prog 55 #[.int .i64 n] w fun e w' => e = .returned (.bool true) ∧ w = w' := by
 have hI := Lib.hid (lcInT n (-1000) 1000 w h)
 go_enter Tryz.func55, Tryz.ntmps55
 go_wp2_with (first | (go_at_call 56; refine Calls.mono (hI.out) ?_; rintro e w1 ⟨rfl, rfl⟩))
 go_ret
 exact ⟨rfl, rfl⟩
theorem weightsF (d : Int) (hd : d ∈ [0, 0, 0]) (b : Nat) (X : World) (c0 : X.cell? ⟨b, 0, none⟩ = some (.func (.func 55) #[] #[])) :
    Calls Tryz.prog 57 (#[.int .i64 d] ++ #[.pointer (some ⟨b, 0, none⟩)]) X fun e w' => e = .returned (.bool false) ∧ Below X.heap.size X w' := by
 obtain rfl : d = 0 := by simpa using hd
 have hE : ∀ args w, (callFunc 55 args).run Tryz.prog w = .ok (.enter 55 args) w := fun _ _ => by kernel_rfl
 have hI := Lib.hid (weightT 0 (by decide) X)
 show Calls Tryz.prog _ #[.int .i64 0, .pointer (some ⟨b, 0, none⟩)] X _
 go_enter Tryz.func57, Tryz.ntmps57
 go_wp2_with (first | (go_at_call 55; refine Calls.mono (hI.out) ?_; rintro e w1 ⟨rfl, rfl⟩))
 go_ret
 exact ⟨rfl, Below.refl _ _⟩
theorem weightsT (lv : Value) (b : Nat) (X : World) (c0 : X.cell? ⟨b, 0, none⟩ = some (.func (.func 55) #[] #[])) (hl : IntsAt X lv [0, 0, 0]) :
    Calls Tryz.prog 43 #[lv, .func (.func 57) #[] #[.pointer (some ⟨b, 0, none⟩)]] X fun e w' => e = .returned (.bool false) ∧ Below X.heap.size X w' :=
 (containsInts lv [0, 0, 0] (fun _ => false) 57 #[.pointer (some ⟨b, 0, none⟩)] X hl (fun _ _ => by kernel_rfl) (fun d hd Y hY => weightsF d hd b Y (kept_cell hY c0))).mono fun e w' hb => hb.lit (any_false _)
end Go.Proofs.YthjmdagonfeneaaGreat.L
set_option linter.unusedVariables false
set_option linter.unusedSimpArgs false
namespace Lk
end Lk
namespace Go.Proofs.YthjmdagonfeneaaGreat.L
open Go.RowKit Go.Sd Lk
def spCells : List Sp → List Value
 | [] => []
 | x :: xs => .int .i64 x.lo :: .int .i64 x.hi :: spCells xs
theorem spCells_get : ∀ (l : List Sp) (k : Nat), k < l.length → (spCells l)[k * 2]? = some (.int .i64 (spAt l k).lo) ∧ (spCells l)[k * 2 + 1]? = some (.int .i64 (spAt l k).hi)
 | [], k, h => by simp at h
 | x :: xs, 0, _ => ⟨rfl, rfl⟩
 | x :: xs, k + 1, h => by
  have := spCells_get xs k (by simpa using h)
  rw [show (k + 1) * 2 = k * 2 + 1 + 1 by omega]
  simpa [spCells, spAt] using this
def BlkAt (w : World) (q : Nat) (l : List Sp) : Prop := w.heap[q]? = some (.cells (spCells l).toArray 23)
theorem BlkAt.lt {w : World} {q : Nat} {l : List Sp} (h : BlkAt w q l) : q < w.heap.size := (zqo h)
theorem BlkAt.cell {w : World} {q : Nat} {l : List Sp} (h : BlkAt w q l) {k : Nat} (hk : k < l.length) :
    (w.cell? ⟨q, k * 2, none⟩ = some (.int .i64 (spAt l k).lo) ∧ w.cell? ⟨q, k * 2 + 1, none⟩ = some (.int .i64 (spAt l k).hi)) ∧ w.frozen? ⟨q, k * 2, none⟩ = false ∧ w.frozen? ⟨q, k * 2 + 1, none⟩ = false := by
 obtain ⟨-, r, f⟩ := row_cells h
 have c := spCells_get l k hk
 refine ⟨⟨?_, ?_⟩, f _, f _⟩
 · rw [r]; simpa using c.1
 · rw [r]; simpa using c.2
theorem BlkAt.sps {w : World} {q : Nat} {l : List Sp} (h : BlkAt w q l) (hm : l.length ≤ maxLen) (cap : Nat) : SpsAt w (.slice (some ⟨q, 0, none⟩) l.length cap) l := by
 refine ⟨_, cap, rfl, hm, fun _ => ⟨q, 0, rfl, h.lt, fun k i u hk hu => ?_⟩⟩
 obtain ⟨⟨c0, c1⟩, -, -⟩ := h.cell hk
 match i, hu with
 | 0, hu => cases hu; rw [Nat.zero_add]; exact c0
 | 1, hu => cases hu; rw [Nat.zero_add]; exact c1
 | i + 2, hu => simp at hu
end Go.Proofs.YthjmdagonfeneaaGreat.L
set_option linter.unusedVariables false
set_option linter.unusedSimpArgs false
namespace Go.Proofs.YthjmdagonfeneaaGreat.L
open Go.RowKit Go.Sd Lk
theorem grown_of_below {w w' : World} (h : Below w.heap.size w w') : w.grownBy w' none :=
 ⟨h.os, h.tape, h.output, h.size, fun k hk _ => h.block k hk⟩
theorem grownBy_trans {a b c : World} {row : Option Nat} (h : a.grownBy b row) (k : b.grownBy c row) : a.grownBy c row :=
 ⟨k.os.trans h.os, k.tape.trans h.tape, k.output.trans h.output, Nat.le_trans h.size k.size, fun i hi hne => (k.block i (Nat.lt_of_lt_of_le hi h.size) hne).trans (h.block i hi hne)⟩
section
variable {α : Type} {enc : α → List Value} {m : Nat}
theorem fl_get (hm : ∀ x, (enc x).length = m) (d : α) : ∀ (xs : List α) (k i : Nat), k < xs.length → i < m → (xs.flatMap enc)[k * m + i]? = (enc (xs.getD k d))[i]?
 | [], k, i, h, _ => by simp at h
 | x :: xs, 0, i, _, hi => by
  rw [List.flatMap_cons, List.getElem?_append_left (by rw [hm x]; omega)]
  simp
 | x :: xs, k + 1, i, h, hi => by
  have ih := fl_get hm d xs k i (by simpa using h) hi
  rw [List.flatMap_cons, List.getElem?_append_right (by rw [hm x, Nat.add_mul]; omega), hm x, show (k + 1) * m + i - m = k * m + i by rw [Nat.add_mul]; omega, ih]
  simp
def OwnSt (E : TypeId) (m : Nat) (enc : α → List Value) (B : Nat) (w : World) (v : Value) (xs : List α) : Prop := w.ownsRow B E m v xs.length (xs.flatMap enc)
theorem OwnSt.nil (E : TypeId) (m : Nat) (enc : α → List Value) (B : Nat) (w : World) : OwnSt E m enc B w (.slice none 0 0) [] := World.ownsRow_nil w B _ m
theorem OwnSt.kept {E : TypeId} {B : Nat} {w w' : World} {row : Option Nat} {v : Value} {xs : List α} (h : OwnSt E m enc B w v xs) (hg : w.grownBy w' row) (hne : v.ownBlock = none ∨ v.ownBlock ≠ row) : OwnSt E m enc B w' v xs := World.ownsRow.kept h hg hne
theorem OwnSt.mono {E : TypeId} {B : Nat} {w w' : World} {v : Value} {xs : List α} (h : OwnSt E m enc B w v xs) (hb : Below w.heap.size w w') : OwnSt E m enc B w' v xs := h.kept (grown_of_below hb) (by cases v.ownBlock <;> simp)
theorem OwnSt.lt {E : TypeId} {B : Nat} {w : World} {v : Value} {xs : List α} (h : OwnSt E m enc B w v xs) : ∀ k, v.ownBlock = some k → B ≤ k ∧ k < w.heap.size := World.ownsRow.lt h
theorem OwnSt.cellset {E : TypeId} {B : Nat} {w : World} {v : Value} {xs : List α} (h : OwnSt E m enc B w v xs) {p : Addr} (hp : p.block < B) (u : Value) : OwnSt E m enc B (w.setCell p u) v xs :=
 h.kept (row := some p.block) ⟨rfl, rfl, rfl, by simp [World.setCell], fun k _ hk => Below.heap_setCell _ _ _ _ (fun e => hk (by rw [e]))⟩ (.inr fun e => by have := (h.lt _ e).1; omega)
theorem OwnSt.slice {E : TypeId} {B : Nat} {w : World} {v : Value} {xs : List α} (h : OwnSt E m enc B w v xs) : ∃ a cap, v = .slice a xs.length cap := by
 obtain ⟨_, h2⟩ := h
 rcases h2 with ⟨rfl, h0⟩ | ⟨g, cap, cur, rfl, _⟩
 · exact ⟨none, 0, by rw [h0]⟩
 · exact ⟨_, cap, rfl⟩
theorem OwnSt.cells {E : TypeId} {B : Nat} {w : World} {v : Value} {xs : List α} (hm : ∀ x, (enc x).length = m) (d : α) (h : OwnSt E m enc B w v xs) : ∃ a cap, v = .slice a xs.length cap ∧ xs.length ≤ maxLen ∧
    (0 < xs.length → ∃ b, a = some ⟨b, 0, none⟩ ∧ b < w.heap.size ∧ ∀ k i, k < xs.length → i < m → w.cell? ⟨b, k * m + i, none⟩ = (enc (xs.getD k d))[i]?) := by
 have h0 := h
 obtain ⟨_, h2⟩ := h
 rcases h2 with ⟨rfl, hn⟩ | ⟨g, cap, cur, rfl, hB, hg, hn, hmx, hs, ht⟩
 · exact ⟨none, 0, by rw [hn], by simp [hn], fun h => by omega⟩
 · refine ⟨_, cap, rfl, by omega, fun hp => ⟨g, rfl, (zqo hg), fun k i hk hi => ?_⟩⟩
   have hlt : k * m + i < xs.length * m := by
    have : (k + 1) * m ≤ xs.length * m := Nat.mul_le_mul_right m (by omega)
    rw [Nat.add_mul] at this; omega
   rw [h0.cellAt (k * m + i) hlt, fl_get hm d xs k i hk hi]
end
section
variable {α : Type} {enc : α → List Value} {m : Nat} {E : TypeId} {B : Nat} {w w' : World} {v : Value} {xs : List α}
theorem OwnSt.same (h : OwnSt E m enc B w v xs) (hb : ∀ k, v.ownBlock = some k → w'.heap[k]? = w.heap[k]?) : OwnSt E m enc B w' v xs := by
 obtain ⟨h1, h2⟩ := h
 refine ⟨h1, ?_⟩
 rcases h2 with h2 | ⟨g, cap, cur, rfl, hB, hg, r⟩
 · exact .inl h2
 · exact .inr ⟨g, cap, cur, rfl, hB, (hb g rfl).trans hg, r⟩
theorem OwnSt.els (hm : ∀ x, (enc x).length = m) (d : α) (h : OwnSt E m enc B w v xs) : ElsAt m enc d w v xs := by
 obtain ⟨a, cap, rfl, hmx, hc⟩ := h.cells hm d
 refine ⟨a, cap, rfl, hmx, fun h0 => ?_⟩
 obtain ⟨b, rfl, hlt, hk⟩ := hc h0
 refine ⟨b, 0, rfl, hlt, fun k i u hk' hu => ?_⟩
 have hi : i < m := by
  have := (List.getElem?_eq_some_iff.1 hu).1
  rwa [hm] at this
 rw [Nat.zero_add, hk k i hk' hi]; exact hu
end
theorem infoInt : (Tryz.prog.info? 3).map (fun i => (i.zero, i.size, i.bytes)) = some (some (.int .i64 0), 1, 8) := by kernel_rfl
theorem intEnc_len (x : Int) : (intEnc x).length = 1 := rfl
abbrev OwnInts (B : Nat) (w : World) (v : Value) (xs : List Int) : Prop := OwnSt 3 1 intEnc B w v xs
end Go.Proofs.YthjmdagonfeneaaGreat.L
set_option linter.unusedVariables false
set_option linter.unusedSimpArgs false
namespace Lk
end Lk
namespace Go.Proofs.YthjmdagonfeneaaGreat.L
open Go.RowKit Go.Sd Lk
attribute [local go_sem] Oper.semAt_some
theorem leaves_one {fn : Func} {tmps : Array Value} {R : Ending → World → Prop} {D : Nat} {u : FrameMode} {w : World} (hu : u ≠ .run) (hd : w.heap[D]? = some (.deferred (some []))) (h : LeavesInM Fence.wide 0 Tryz.prog fn tmps R [] u (w.putObj D (.deferred none))) :
    LeavesInM Fence.wide 0 Tryz.prog fn tmps R [{ target := .collected D, args := #[] }] u w :=
 ⟨hu, .inl ⟨D, _, rfl, run_takeDeferred hd, h⟩⟩
theorem set_one {w : World} {n : Nat} {c : Array Value} {e : TypeId} (h : w.heap[n]? = some (.cells c e (0, 0))) (i : Nat) (v : Value) : (w.setCell ⟨n, i, none⟩ v).heap[n]? = some (.cells (c.setIfInBounds i v) e (0, 0)) := by
 simp only [World.setCell, Array.getElem?_modify, if_true, h]
 rfl
end Go.Proofs.YthjmdagonfeneaaGreat.L
set_option linter.unusedVariables false
set_option linter.unusedSimpArgs false
namespace Lk
end Lk
namespace Go.Proofs.YthjmdagonfeneaaGreat.L
open Go.RowKit Go.Sd Lk
attribute [local go_sem] Oper.semAt_some
def SpsIs (l : List Sp) : Value → World → Prop := fun v w => SpsAt w v l
theorem pers_sps (l : List Sp) : Pers (SpsIs l) := fun _ _ _ hb h => ElsAt.mono h hb
end Go.Proofs.YthjmdagonfeneaaGreat.L
