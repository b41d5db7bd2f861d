/- Laws and walks: SP9. -/
import Derived.Test.YthjmdagonfeneaaGreatK26
set_option maxRecDepth 100000
set_option maxHeartbeats 16000000
set_option linter.unusedVariables false
set_option linter.unusedSimpArgs false
namespace Go.Proofs.YthjmdagonfeneaaGreat.S
open Go.RowKit Go.Sd
abbrev spotV (d f : Int) : Value := .agg #[.int .i64 d, .int .i64 f]
def MemoAt (w : World) (mb : Nat) (P : Int → Int → Prop) (F : Int → Int → Int) : Prop :=
 ∃ es clock, w.heap[mb]? = some (.map es clock) ∧ ∀ e ∈ es.toList, ∃ d f, P d f ∧ e.key = spotV d f ∧ e.val = .int .i64 (F d f)
theorem MemoAt.same {w w' : World} {mb : Nat} {P : Int → Int → Prop} {F : Int → Int → Int} (h : MemoAt w mb P F) (hb : w'.heap[mb]? = w.heap[mb]?) : MemoAt w' mb P F := by
 obtain ⟨es, c, h1, h2⟩ := h
 exact ⟨es, c, hb.trans h1, h2⟩
theorem MemoAt.lt {w : World} {mb : Nat} {P : Int → Int → Prop} {F : Int → Int → Int} (h : MemoAt w mb P F) : mb < w.heap.size := by
 obtain ⟨es, c, h1, -⟩ := h
 exact (zqo h1)
theorem MemoAt.mono {w w' : World} {mb : Nat} {P : Int → Int → Prop} {F : Int → Int → Int} (h : MemoAt w mb P F) (hb : Below w.heap.size w w') : MemoAt w' mb P F := h.same (hb.block _ h.lt)
theorem MemoAt.no_cell {w : World} {mb : Nat} {P : Int → Int → Prop} {F : Int → Int → Int} (h : MemoAt w mb P F) {b o : Nat} {v : Value} (hc : w.cell? ⟨b, o, none⟩ = some v) : b ≠ mb := by
 obtain ⟨es, c, h1, -⟩ := h
 rintro rfl
 simp [World.cell?, h1] at hc
theorem MemoAt.kc {w w' : World} {mb : Nat} {P : Int → Int → Prop} {F : Int → Int → Int} (h : MemoAt w mb P F) (hk : Kept (fun k => k ≠ mb) w w') : Kc w w' := ⟨hk.size, fun _ _ _ hc => hk.cell (h.no_cell hc) hc⟩
theorem fields_spot : (Tryz.prog.fieldsOf 100).toList = [⟨"day", 3, 0, false, "", "saltdome/season", 0⟩, ⟨"fill", 3, 1, false, "", "saltdome/season", 8⟩] := by kernel_rfl
theorem run_eq_spot (a b c d : Int) (w : World) : (Op.equal 100 (spotV a b) (spotV c d)).run Tryz.prog w = .ok (a == c && b == d) w := by
 show (Op.equalIn 10000 _ _ _).run Tryz.prog w = _
 rw [run_equalIn_struct w 9999 100 _ _ (by kernel_rfl) (by kernel_rfl), fields_spot]
 simp only [Op.eqFields]
 rw [if_pos (by decide), if_pos (by decide)]
 simp only [Sem.run_bind, Sem.run_ite, part0, part1, Result.andThen_ok, eqInt9]
 by_cases h : a = c <;> by_cases h' : b = d <;> simp [h, h', part0, part1, eqInt9, Sem.run]
theorem run_check (em : Bool) (d f : Int) (w : World) : (Instr.checkKey em 10000 100 (spotV d f)).run Tryz.prog w = .ok () w := by kernel_rfl
theorem run_ask (d f : Int) (w : World) : ∀ (es : List MapEntry) (i : Nat), (∀ e ∈ es, ∃ d f v, e.key = spotV d f ∧ e.val = .int .i64 v) →
    ((Instr.findAsking 100 (spotV d f) es i).run Tryz.prog w = .ok none w ∧ ∀ e ∈ es, e.key ≠ spotV d f) ∨
     ∃ j e, (Instr.findAsking 100 (spotV d f) es i).run Tryz.prog w = .ok (some (i + j, e.val)) w ∧ es[j]? = some e ∧ e.key = spotV d f
 | [], i, _ => .inl ⟨rfl, fun e he => by cases he⟩
 | e :: es, i, h => by
  obtain ⟨d1, f1, v, hk, hv⟩ := h e (List.mem_cons_self ..)
  have hstep : (Instr.findAsking 100 (spotV d f) (e :: es) i).run Tryz.prog w = if (d == d1 && f == f1) = true then .ok (some (i, e.val)) w else (Instr.findAsking 100 (spotV d f) es (i + 1)).run Tryz.prog w := by
   rw [Instr.findAsking]
   simp only [Sem.run_bind, hk, run_eq_spot, Result.andThen_ok, Sem.run_ite]
   rfl
  by_cases he : d = d1 ∧ f = f1
  · refine .inr ⟨0, e, ?_, rfl, ?_⟩
    · rw [hstep, if_pos (by simp [he]), Nat.add_zero]
    · rw [hk, he.1, he.2]
  · rw [hstep, if_neg (by simpa using he)]
    rcases run_ask d f w es (i + 1) (fun x hx => h x (List.mem_cons_of_mem _ hx)) with ⟨h1, h2⟩ | ⟨j, x, h1, h2, h3⟩
    · refine .inl ⟨h1, fun x hx => ?_⟩
      rcases List.mem_cons.1 hx with rfl | hx
      · rw [hk]; intro e'; simp at e'; exact he ⟨e'.1.symm, e'.2.symm⟩
      · exact h2 x hx
    · exact .inr ⟨j + 1, x, by rw [h1, show i + 1 + j = i + (j + 1) by omega], h2, h3⟩
theorem find_now (d f : Int) (es : List MapEntry) (i : Nat) : Instr.findNow (.struct (Tryz.prog.fieldsOf 100)) (spotV d f) es i = if es = [] then some none else none := by
 cases es with
 | nil => rfl
 | cons e es => simp [Instr.findNow, Instr.sameNow]
theorem run_find (d f : Int) (w : World) (es : List MapEntry) (h : ∀ e ∈ es, ∃ d f v, e.key = spotV d f ∧ e.val = .int .i64 v) :
    ((Instr.findKey 100 (spotV d f) es).run Tryz.prog w = .ok none w ∧ ∀ e ∈ es, e.key ≠ spotV d f) ∨
     ∃ j e, (Instr.findKey 100 (spotV d f) es).run Tryz.prog w = .ok (some (j, e.val)) w ∧ es[j]? = some e ∧ e.key = spotV d f := by
 have hu : Tryz.prog.underlying 100 = some (.struct (Tryz.prog.fieldsOf 100)) := by kernel_rfl
 unfold Instr.findKey
 simp only [Sem.run_bind, run_underlying hu, Result.andThen_ok, find_now]
 by_cases he : es = []
 · subst he
   exact .inl ⟨rfl, fun e he => by cases he⟩
 · rw [if_neg he]
   rcases run_ask d f w es 0 h with ⟨h1, h2⟩ | ⟨j, e, h1, h2, h3⟩
   · exact .inl ⟨h1, h2⟩
   · exact .inr ⟨j, e, by rw [Nat.zero_add] at h1; exact h1, h2, h3⟩
theorem run_memo_look {w : World} {mb : Nat} {P : Int → Int → Prop} {F : Int → Int → Int} (h : MemoAt w mb P F) (d f : Int) :
    (∀ w', w'.heap[mb]? = w.heap[mb]? → (Instr.lookup 94 (.map (some mb)) (spotV d f) true).run Tryz.prog w' = .ok (.tuple #[.int .i64 0, .bool false]) w') ∨
     (P d f ∧ ∀ w', w'.heap[mb]? = w.heap[mb]? → (Instr.lookup 94 (.map (some mb)) (spotV d f) true).run Tryz.prog w' = .ok (.tuple #[.int .i64 (F d f), .bool true]) w') := by
 obtain ⟨es, c, h1, h2⟩ := h
 have hz : ∀ w, (zeroValue 3).run Tryz.prog w = .ok (.int .i64 0) w := fun w => by kernel_rfl
 have hu : Tryz.prog.underlying 94 = some (.map 100 3) := by kernel_rfl
 have hes : ∀ e ∈ es.toList, ∃ d f v, e.key = spotV d f ∧ e.val = .int .i64 v := fun e he => by obtain ⟨d, f, -, hk, hv⟩ := h2 e he; exact ⟨d, f, _, hk, hv⟩
 by_cases hex : ∃ e ∈ es.toList, e.key = spotV d f
 · right
   obtain ⟨e0, he0, hk0⟩ := hex
   obtain ⟨d1, f1, hp, hk1, -⟩ := h2 e0 he0
   rw [hk0] at hk1
   simp at hk1
   obtain ⟨rfl, rfl⟩ := hk1
   refine ⟨hp, fun w' hw' => ?_⟩
   have h1' := hw'.trans h1
   rcases run_find d f w' es.toList hes with ⟨-, h4⟩ | ⟨j, e, h3, h4, h5⟩
   · exact absurd hk0 (h4 e0 he0)
   · obtain ⟨d1, f1, -, hk, hv⟩ := h2 e (List.mem_of_getElem? h4)
     rw [h5] at hk
     simp at hk
     obtain ⟨rfl, rfl⟩ := hk
     simp [Instr.lookup, Sem.run_bind, run_underlying hu, MapKept.run_getObj_map h1', run_check, h3, hv]
 · left
   intro w' hw'
   have h1' := hw'.trans h1
   rcases run_find d f w' es.toList hes with ⟨h3, -⟩ | ⟨j, e, h3, h4, h5⟩
   · simp [Instr.lookup, Sem.run_bind, run_underlying hu, MapKept.run_getObj_map h1', run_check, h3, hz]
   · exact absurd ⟨e, List.mem_of_getElem? h4, h5⟩ hex
theorem run_memo_put {w : World} {mb : Nat} {P : Int → Int → Prop} {F : Int → Int → Int} (h : MemoAt w mb P F) (d f : Int) (hp : P d f) :
    ∃ o, (Instr.mapUpdate 94 (.map (some mb)) (spotV d f) (.int .i64 (F d f))).run Tryz.prog w = .ok () (w.putObj mb o) ∧ MemoAt (w.putObj mb o) mb P F := by
 have hlt := h.lt
 obtain ⟨es, c, h1, h2⟩ := h
 have hu : Tryz.prog.underlying 94 = some (.map 100 3) := by kernel_rfl
 rcases run_find d f w es.toList (fun e he => by obtain ⟨d, f, -, hk, hv⟩ := h2 e he; exact ⟨d, f, _, hk, hv⟩) with ⟨h3, -⟩ | ⟨j, e, h3, h4, h5⟩
 · refine ⟨.map (es.push { key := spotV d f, val := .int .i64 (F d f), born := c }) (c + 1), ?_, ⟨_, _, World.putObj_heap_same hlt, ?_⟩⟩
   · simp [Instr.mapUpdate, Sem.run_bind, run_underlying hu, MapKept.run_getObj_map h1, run_check, h3, MapKept.run_setObj_map _ h1, World.putObj]
   · intro x hx
     simp only [Array.toList_push, List.mem_append, List.mem_singleton] at hx
     rcases hx with hx | rfl
     · exact h2 x hx
     · exact ⟨d, f, hp, rfl, rfl⟩
 · have hsb : Instr.sameBits 10000 (spotV d f) (spotV d f) = true := by simp [Instr.sameBits]
   have hst : (Instr.keyThatStays (spotV d f) (spotV d f)).run Tryz.prog w = .ok (spotV d f) w := by simp [Instr.keyThatStays, hsb, Sem.run]
   have h4' : es[j]? = some e := by simpa using h4
   refine ⟨.map (es.modify j fun e => { e with key := spotV d f, val := .int .i64 (F d f) }) c, ?_, ⟨_, _, World.putObj_heap_same hlt, ?_⟩⟩
   · simp [Instr.mapUpdate, Sem.run_bind, run_underlying hu, MapKept.run_getObj_map h1, run_check, h3, h4', h5, hst, MapKept.run_setObj_map _ h1, World.putObj]
   · intro x hx
     obtain ⟨i, hi⟩ := List.mem_iff_getElem?.1 hx
     rw [Array.getElem?_toList, Array.getElem?_modify] at hi
     by_cases hij : j = i
     · rw [if_pos hij, ← hij, h4'] at hi
       simp at hi
       subst hi
       exact ⟨d, f, hp, rfl, rfl⟩
     · rw [if_neg hij] at hi
       exact h2 x (List.mem_iff_getElem?.2 ⟨i, by simpa using hi⟩)
end Go.Proofs.YthjmdagonfeneaaGreat.S
namespace Go.Proofs.YthjmdagonfeneaaGreat.S
open Go.RowKit Go.Sd
def memoF (s : Sea.S) (d f : Int) : Int := Sea.at0 (wrow s (s.days.length - d.toNat)) f.toNat
abbrev Memo (w : World) (mb : Nat) (s : Sea.S) : Prop := MemoAt w mb (fun _ _ => True) (memoF s)
theorem memoF_of (s : Sea.S) {d f j : Nat} (h : d + j = s.days.length) : memoF s d f = Sea.at0 (wrow s j) f := by
 unfold memoF; rw [Int.toNat_natCast, Int.toNat_natCast, show s.days.length - d = j by omega]
structure GrM (W : World) (mb : Nat) (s : Sea.S) where
 x : World
 h : Kept (fun k => k ≠ mb) W x
 m : Memo x mb s
theorem grm_cell {W : World} {mb : Nat} {s : Sea.S} : ∀ (g : GrM W mb s) (b o : Nat), b < W.heap.size → b ≠ mb → g.x.cell? ⟨b, o, none⟩ = W.cell? ⟨b, o, none⟩ :=
 fun g b _ h1 h2 => World.cell?_of_block (w := W) (g.h.block b h1 h2)
theorem GrM.next {W w1 : World} {mb : Nat} {s : Sea.S} (g : GrM W mb s) (hk : Kept (fun k => k ≠ mb) g.x w1) (hm : Memo w1 mb s) : ∃ g' : GrM W mb s, w1 = g'.x := ⟨⟨w1, g.h.trans hk, hm⟩, rfl⟩
theorem GrM.below {W w1 : World} {mb : Nat} {s : Sea.S} (g : GrM W mb s) (hb : Below g.x.heap.size g.x w1) : ∃ g' : GrM W mb s, w1 = g'.x := g.next (.all hb) (g.m.mono hb)
theorem wp_region_grm {P : Program} {id : Nat} {Q : Exit → Act → World → Prop} {a : Act} {w : World} {l : List Oper} {mb : Nat} {s : Sea.S} (h0 : Memo w mb s) (hm : P.follows .mixedOrders = true) (hB : Region.lexB .any l.toArray = true)
    (h : wpQuiet P l.toArray (fun w' => ∃ g : GrM w mb s, w' = g.x) (fun a' => ∀ w', (∃ g : GrM w mb s, w' = g.x) → Q .normal a' w') l a) : (Code.region id l.toArray true).wp P Q a w :=
 wp_region_quiet (C := fun w' => ∃ g : GrM w mb s, w' = g.x) hm hB ⟨⟨w.drew, (Kept.refl _ _).drew, h0.mono (Below.refl _ _).drew⟩, rfl⟩ (by simpa using h)
theorem sumT {W : World} {mb : Nat} {s : Sea.S} {f : FuncId} {args : Array Value} {v : Value} {g : GrM W mb s} (h : Calls Tryz.prog f args g.x fun e w' => e = .returned v ∧ Below g.x.heap.size g.x w') :
    Calls Tryz.prog f args g.x fun e w'' => e = .returned v ∧ ∃ g' : GrM W mb s, w'' = g'.x := h.mono fun _ _ ⟨he, hb⟩ => ⟨he, g.below hb⟩
theorem sumK {W : World} {mb : Nat} {s : Sea.S} {f : FuncId} {args : Array Value} {v : Value} {g : GrM W mb s} (h : Calls Tryz.prog f args g.x fun e w' => e = .returned v ∧ Kept (fun k => k ≠ mb) g.x w' ∧ Memo w' mb s) :
    Calls Tryz.prog f args g.x fun e w'' => e = .returned v ∧ ∃ g' : GrM W mb s, w'' = g'.x := h.mono fun _ _ ⟨he, hk, hm⟩ => ⟨he, g.next hk hm⟩
def WorstSaid (s : Sea.S) (lv : Value) (mb d j : Nat) : Prop := ∀ (f : Nat) (w : World), (f : Int) ≤ s.space → LookAt w lv (.map (some mb)) s → Memo w mb s →
 Calls Tryz.prog 85 #[lv, spotV d f] w fun e w' => e = .returned (.int .i64 (Sea.at0 (wrow s j) f)) ∧ Kept (fun k => k ≠ mb) w w' ∧ Memo w' mb s
theorem progSum (s : Sea.S) (lv : Value) (mb d j : Nat) (hW : WorstSaid s lv mb (d + 1) j) (hd : d + 1 + j = s.days.length) (ok : Sea.Ok s) (fill nom u : Int) (w : World) (hl : LookAt w lv (.map (some mb)) s) (hm : Memo w mb s)
    (b1 : 0 ≤ fill ∧ fill ≤ 100) (b2 : -100 ≤ nom ∧ nom ≤ 100) (b3 : -100 ≤ u ∧ u ≤ 100) (hi : 0 ≤ fill + nom + u) (hi2 : fill + nom + u ≤ s.space) :
    Calls Tryz.prog 53 #[ordV lv d fill nom u] w fun e w' => e = .returned (.int .i64 (withOf s d fill nom (wrow s j) u)) ∧ Kept (fun k => k ≠ mb) w w' ∧ Memo w' mb s := by
 obtain ⟨f, hf⟩ := Int.eq_ofNat_of_zero_le hi
 have hbd := wrow_bd ok j (by omega) f
 have hcost := cost_bd ok (d := d) (by omega) b3
 have hw : withOf s d fill nom (wrow s j) u = if Sea.at0 (wrow s j) f = Sea.never then Sea.never else s.cost d u + Sea.at0 (wrow s j) f := by unfold withOf; rw [hf]; rfl
 rw [hw]
 clear hw
 obtain ⟨lb, hlb⟩ : ∃ lb, lv = .pointer (some ⟨lb, 0, none⟩) := by obtain ⟨b, _, _, h, _⟩ := hl; exact ⟨b, h⟩
 subst hlb
 have hlt := hm.lt
 have hnd := ok.ndays
 have hdd : d < s.days.length := by omega
 have hWf := fun X => hW f X (by omega)
 have hbeh := fun X => progBehind (.pointer (some ⟨lb, 0, none⟩)) d fill nom u X b1 b2 b3
 rw [hf] at hbeh
 have hcst := fun X h => progCost (.pointer (some ⟨lb, 0, none⟩)) (.map (some mb)) s d fill nom u X h hdd ok b3
 generalize hv : Sea.at0 (wrow s j) f = v at *
 unfold Sea.never at *
 replace hWf := Lib.hid hWf
 replace hbeh := Lib.hid hbeh
 replace hcst := Lib.hid hcst
 have hj := ok.ndays
 clear hW hv
 go_enter Tryz.func53, Tryz.ntmps53
 go_wp2_with (fail)
 generalize hX : w.alloc (oBox _ d fill nom u) = X
 obtain ⟨hsz, hBw, q0, q1, q2, q3, q4⟩ := box_order hX
 clear hX
 have hl2 := hl.mono hBw
 have hm2 := hm.mono hBw
 have hne : w.heap.size ≠ mb := by omega
 have hg := grm_cell (W := X) (mb := mb) (s := s)
 have hdw : (0 : Int) ≤ (d : Int) ∧ (d : Int) ≤ 20 := by omega
 have hcast : ((d + 1 : Nat) : Int) = (d : Int) + 1 := by omega
 have hWg : ∀ g : GrM X mb s, Calls Tryz.prog 85 #[.pointer (some ⟨lb, 0, none⟩), .agg #[.int .i64 ((d : Int) + 1), .int .i64 f]] g.x fun e w' => e = .returned (.int .i64 v) ∧ Kept (fun k => k ≠ mb) g.x w' ∧ Memo w' mb s := fun g => by
  have h := hWf.out g.x (hl2.kc (hm2.kc g.h)) g.m
  rw [hcast] at h
  exact h
 replace hWg := Lib.hid hWg
 clear hcast
 refine wp_region_grm hm2 (by kernel_rfl) (by kernel_rfl) ?_
 haveI : Nonempty (GrM X mb s) := ⟨⟨X, Kept.refl _ _, hm2⟩⟩
 repeat (go_big_quiet_step ((first
  | (go_at_call 42; exact sumT (hbeh.out _))
  | (go_at_call 85; exact sumK (hWg.out _)))))
 refine wpQuiet_nil ?_
 rintro _ ⟨g, rfl⟩
 have hq := fun g : GrM X mb s => hcst.out g.x (hl2.kc (hm2.kc g.h))
 have hKw : Kept (fun k => k ≠ mb) w g.x := (Kept.all hBw).trans ⟨g.h.os, g.h.tape, g.h.output, g.h.size, g.h.block⟩
 have hgm := g.m
 by_cases he : v = 1000000000000000
 · subst he
   go_wp2_with (fail)
   go_ret
   exact ⟨rfl, hKw, hgm⟩
 · have hne2 : (v == 1000000000000000) = false := by simpa using he
   replace he := Lib.hid he
   go_wp2_with (go_at_call 47; refine (hq g).mono ?_; rintro e w1 ⟨rfl, hb1⟩)
   go_ret
   exact ⟨rfl, hKw.trans (.all hb1), hgm.mono hb1⟩
def NomSaid (s : Sea.S) (lv : Value) (mb d j f : Nat) (w : World) (e : Ending) (w' : World) : Prop :=
 e = .returned (.tuple #[.int .i64 (worstOf s d f (wrow s j)).1, .int .i64 (worstOf s d f (wrow s j)).2]) ∧ Kept (fun k => k ≠ mb) w w' ∧ Memo w' mb s
theorem NomSaid.of {s : Sea.S} {lv : Value} {mb d j f : Nat} {w w' : World} {n c : Int} (h : worstOf s d f (wrow s j) = (n, c)) (hk : Kept (fun k => k ≠ mb) w w') (hm : Memo w' mb s) :
    NomSaid s lv mb d j f w (.returned (.tuple #[.int .i64 n, .int .i64 c])) w' := ⟨by rw [h], hk, hm⟩
theorem enter_sum : ∀ (args : Array Value) (w : World), (callFunc 53 args).run Tryz.prog w = .ok (.enter 53 args) w := fun _ _ => by kernel_rfl
theorem progFirstSum (s : Sea.S) (lv : Value) (mb d j : Nat) (hW : WorstSaid s lv mb (d + 1) j) (hd : d + 1 + j = s.days.length) (ok : Sea.Ok s) (fill nom : Int) (v : Value) (w : World) (hl : LookAt w lv (.map (some mb)) s) (hm : Memo w mb s)
    (b1 : 0 ≤ fill ∧ fill ≤ 100) (b2 : -100 ≤ nom ∧ nom ≤ 100) (hv : IterAt w v lv d fill nom) :
    Calls Tryz.prog 38 #[v, .func (.func 53) #[] #[]] w fun e w' => ∃ p a b c d', e = .returned (.tuple #[.agg #[.pointer p, .int .i64 a, .int .i64 b, .int .i64 c, .int .i64 d'],
     .int .i64 (s.least d fill nom (wrow s j)).1, .bool (decide ((s.least d fill nom (wrow s j)).1 < Sea.never))]) ∧ Kept (fun k => k ≠ mb) w w' ∧ Memo w' mb s ∧
      ((s.least d fill nom (wrow s j)).1 < Sea.never → d' = (s.least d fill nom (wrow s j)).2) := by
 obtain ⟨lb, rfl⟩ : ∃ lp, lv = .pointer lp := by obtain ⟨b, _, _, h, _⟩ := hl; exact ⟨_, h⟩
 have hlt := hm.lt
 have hfa := first_all s d fill nom (wrow s j) (fun i => (wrow_bd ok j (by omega) i).2)
 refine (progFirstOrders _ _ v s d fill nom (withOf s d fill nom (wrow s j)) _ #[] w (fun k => k < w.heap.size ∧ k ≠ mb) (fun X => Memo X mb s) hl (by omega) ok b1 b2 hv enter_sum
  (fun b o v h => ⟨World.block_lt_of_cell? w ⟨b, o, none⟩ h, hm.no_cell h⟩) (fun _ h => h.1) hm (fun X Y hX hb => hX.same (hb.block _ hlt)) ?_).mono ?_
 · intro u hu X hX hsX hmX
   have ho := order_in ok (by omega) hu
   have hkX : Kc w X := ⟨hX.size, fun b o v h => hX.cell ⟨World.block_lt_of_cell? w ⟨b, o, none⟩ h, hm.no_cell h⟩ h⟩
   refine (progSum s _ mb d j hW hd ok fill nom u X (hl.kc hkX) hmX b1 b2 ⟨ho.1, ho.2.1⟩ ho.2.2.2.1 ho.2.2.2.2).mono ?_
   rintro e X' ⟨he, hk, hm'⟩
   refine ⟨he, hk.mono fun b _ h => ?_, hm'⟩
   rcases h with h | h
   · exact h.2
   · omega
 · rintro e w' ⟨he, hk, hm'⟩
   obtain ⟨p, a, b, c, d', ho⟩ := out_cells lb d fill nom (firstOf (withOf s d fill nom (wrow s j)) (ordersOf s d fill nom)).2
   have h1 : (s.least d fill nom (wrow s j)).1 = (firstOf (withOf s d fill nom (wrow s j)) (ordersOf s d fill nom)).1 := congrArg Prod.fst hfa.1
   have h2 : (s.least d fill nom (wrow s j)).2 = (firstOf (withOf s d fill nom (wrow s j)) (ordersOf s d fill nom)).2.getD 0 := congrArg Prod.snd hfa.1
   refine ⟨p, a, b, c, d', by rw [he, ho, h1], hk.mono fun k hk' hne => ⟨hk', hne⟩, hm', fun hl => ?_⟩
   rw [h1] at hl
   rcases hfa.2 with ⟨-, h3⟩ | ⟨u, h3, -, -⟩
   · rw [h3] at hl; omega
   · rw [h2, h3]
     rw [h3] at ho
     simp [outC] at ho
     simp [ho.2.2.2.2]
theorem progNom (s : Sea.S) (lv : Value) (mb d j : Nat) (hW : WorstSaid s lv mb (d + 1) j) (hd : d + 1 + j = s.days.length) (ok : Sea.Ok s) (fl : Nat) (w : World) (hl : LookAt w lv (.map (some mb)) s) (hm : Memo w mb s) (hf : (fl : Int) ≤ s.space) :
    Calls Tryz.prog 108 #[lv, spotV d fl] w (NomSaid s lv mb d j fl w) := by
 have hsp := ok.space
 have hnds := ok.ndays
 have hdl : d < s.days.length := by omega
 have hdk := ok.days d hdl
 have hlt := hm.lt
 have hwn := fun i => (wrow_bd ok j (by omega) i).2
 have hstop := fun k h => worst_stop ok hdl fl (wrow s j) hwn (k := k) h
 have hwbd := fun k => (worstTo_bd ok hdl fl (wrow s j) (100000000 * (j : Int)) (by omega) (by omega) (fun i => (wrow_bd ok j (by omega) i).1) k).2.1
 replace hwbd := Lib.hid hwbd
 replace hwn := Lib.hid hwn
 replace hstop := Lib.hid hstop
 have hfs := fun nom v X hX hmX b2 hv => progFirstSum s lv mb d j hW hd ok fl nom v X hX hmX (by omega) b2 hv
 replace hfs := Lib.hid hfs
 have hl' := hl
 obtain ⟨lb, rv, dv, rfl, ⟨l0, l1, l2, l3, l4, l5, l6⟩, hlb, hr, hdd⟩ := hl'
 obtain ⟨b, off, cap, rfl, hbl, hdm, c0, c1, c2, c3, c4, c5, c6, c7⟩ := day_cells hdd hdl
 have hdi : (0 : Int) ≤ (d : Int) ∧ (d : Int) < (s.days.length : Int) := by omega
 clear hW hr hdd
 go_enter Tryz.func108, Tryz.ntmps108
 go_wp2
 have hBw : Below w.heap.size w (w.alloc (.cells #[.int .i64 d, .int .i64 fl] 100)) := (Below.refl _ _).alloc (Nat.le_refl _) _
 have hnS := World.alloc_heap_new w (.cells #[.int .i64 d, .int .i64 fl] 100)
 generalize w.alloc (.cells #[.int .i64 d, .int .i64 fl] 100) = X at *
 obtain ⟨zS, dS, -⟩ := row_cells hnS
 have s0 := dS 0
 have s1 := dS 1
 simp only [List.getElem?_toArray, List.getElem?_cons_zero, List.getElem?_cons_succ] at s0 s1
 replace l5 := kept_cell hBw l5
 replace c6 := kept_cell hBw c6
 replace c7 := kept_cell hBw c7
 have hbX : b < X.heap.size := Nat.lt_of_lt_of_le hbl hBw.size
 have hlX : lb < X.heap.size := Nat.lt_of_lt_of_le hlb hBw.size
 clear dS c0 c1 c2 c3 c4 c5 l0 l1 l2 l3 l4 l6
 go_step3
 go_wp2
 refine wp_region_vars growth_below (va := [⟨10, 6, 23, #[.int .i64 0, .int .i64 0], 11, .tmp 22⟩]) (by kernel_rfl) (by kernel_rfl) ?_ ?_ (by simp) (fun T f hT hf hcl => ?_)
 · intro p hp w
   simp only [List.mem_cons, List.not_mem_nil, or_false] at hp
   rcases hp with rfl <;> go_simp
 · intro p hp
   simp only [List.mem_cons, List.not_mem_nil, or_false] at hp
   rcases hp with rfl <;> kernel_rfl
 have hg : ∀ (g : T) (b o : Nat), b < X.heap.size → (f g).cell? ⟨b, o, none⟩ = X.cell? ⟨b, o, none⟩ := fun g => below_cell (hf g)
 simp only [lexOf, List.zipIdx_cons, List.zipIdx_nil, List.map_cons, List.map_nil, isMade, List.any_cons, List.any_nil, Nat.reduceAdd, Nat.reduceBEq, Bool.or_false, Bool.false_or, Bool.or_self, Bool.false_eq_true, if_false, if_true, Nat.zero_add, BEq.rfl, Bool.or_true, Bool.true_or]
 simp only [Go.Sd.blank]
 repeat (go_big_quiet_step (fail))
 refine wpQuiet_nil ?_
 refine ⟨?_, ?_⟩
 · intro p hp
   simp only [List.mem_cons, List.not_mem_nil, or_false] at hp
   rcases hp with rfl <;> (constructor <;> simp [go_sem, Value.cells, Value.oneCell'])
 intro ns w' hB hv
 obtain ⟨n1, rfl, hn1, hl1, hc1, hf1⟩ := vars_one hv
 clear hv hf hcl hg
 simp only [placeV, Act.put, List.setIfInBounds_toArray, List.set_cons_zero, List.set_cons_succ]
 simp [go_sem] at hc1
 have hmY : Memo w' mb s := (hm.mono hBw).mono hB
 have hlY := (hl.mono hBw).mono hB
 have n0 := hc1 0
 have n1c := hc1 1
 simp at n0 n1c
 have t0 := kept_cell hB s0
 have t1 := kept_cell hB s1
 have hKw : Kept (fun k => k ≠ mb) w w' := (Kept.all hBw).trans (.all hB)
 have hne1 : n1 ≠ mb := by have := hBw.size; omega
 have hne2 : w.heap.size ≠ mb := by omega
 clear hc1 hf1 hm hl l5 c6 c7 s0 s1 hnS zS
 replace hKw := Lib.hid hKw
 go_wp2
 go_step3
 go_wp2
 go_loopw [7, 8, 9] (fun a m n wr => ∃ k : Nat, (Sea.dayAt s.days d).nlo + k ≤ (Sea.dayAt s.days d).nhi + 1 ∧ a = .int .i64 (worstTo s d fl (wrow s j) k).1 ∧ m = .int .i64 (worstTo s d fl (wrow s j) k).2 ∧ n = .int .i64 ((Sea.dayAt s.days d).nlo + k) ∧ Hid ((worstTo s d fl (wrow s j) k).2 < 1000000000000000) ∧ Hid (Kept (fun k => k ≠ mb) w' wr ∧ Memo wr mb s)) (fun _ _ n _ => ((Sea.dayAt s.days d).nhi + 1 - intOf n).toNat)
 case atStart => exact ⟨0, by omega, rfl, rfl, by simp, (by decide : (-Sea.never : Int) < 1000000000000000), Kept.refl _ _, hmY⟩
 case round =>
  obtain ⟨k, hk, rfl, rfl, rfl, hmk, hH⟩ := hrel
  obtain ⟨hKr, hmr⟩ := hH.out
  have kc := hmY.kc hKr
  have hlr := hlY.kc kc
  replace n0 := kc.cell _ _ _ n0
  replace n1c := kc.cell _ _ _ n1c
  replace t0 := kc.cell _ _ _ t0
  replace t1 := kc.cell _ _ _ t1
  have hKw2 : Hid (Kept (fun k => k ≠ mb) w wr) := hKw.out.trans ⟨hKr.os, hKr.tape, hKr.output, hKr.size, fun i hi hs => hKr.block i hi hs⟩
  clear kc hlY hmY hH
  replace hKr := Lib.hid hKr
  by_cases hlt2 : (Sea.dayAt s.days d).nlo + k ≤ (Sea.dayAt s.days d).nhi
  · have hstep : Hid (worstTo s d fl (wrow s j) (k + 1) = if (worstTo s d fl (wrow s j) k).2 < (s.least d fl ((Sea.dayAt s.days d).nlo + k) (wrow s j)).1 then ((Sea.dayAt s.days d).nlo + k, (s.least d fl ((Sea.dayAt s.days d).nlo + k) (wrow s j)).1) else worstTo s d fl (wrow s j) k) := rfl
    have hnn : -100 ≤ (Sea.dayAt s.days d).nlo + k ∧ (Sea.dayAt s.days d).nlo + k ≤ 100 := by omega
    have hle : (s.least d fl ((Sea.dayAt s.days d).nlo + k) (wrow s j)).1 ≤ 1000000000000000 := by
     have h2 := first_all s d fl ((Sea.dayAt s.days d).nlo + k) (wrow s j) hwn.out
     rw [h2.1]
     rcases h2.2 with ⟨-, h⟩ | ⟨u, -, -, h⟩
     · simp only [h]; unfold Sea.never; omega
     · simp only []; unfold Sea.never at h; omega
    generalize hc : s.least d fl ((Sea.dayAt s.days d).nlo + k) (wrow s j) = c at *
    obtain ⟨c1, c2⟩ := c
    generalize hwk : worstTo s d fl (wrow s j) k = wk at *
    obtain ⟨w1, w2⟩ := wk
    simp only at hle
    have hmk2 : w2 < 1000000000000000 := hmk.out
    replace hmk2 := Lib.hid hmk2
    replace hc := Lib.hid hc
    replace hwk := Lib.hid hwk
    have hfst := fun v X hX hmX hv => hfs.out ((Sea.dayAt s.days d).nlo + k) v X hX hmX hnn hv
    rw [hc.out] at hfst
    replace hfst := Lib.hid hfst
    have hfl : Hid (worstOf s d fl (wrow s j) = worstTo s d fl (wrow s j) (k + 1 + ((Sea.dayAt s.days d).nhi - (Sea.dayAt s.days d).nlo - k).toNat)) := by
     show _ = _
     unfold worstOf; congr 1; omega
    by_cases hnv : c1 < 1000000000000000
    · have hnv2 : Hid (decide (c1 < Sea.never) = true) := by show _ = _; unfold Sea.never; simpa using hnv
      go_wp2_with (first
       | (go_at_call 39; refine (progOrders _ _ _ _ _).mono ?_; rintro e x1 ⟨iv, rfl, hiv, hb1⟩)
       | (go_at_call 38; refine Calls.mono (hfst.out iv x1 (hlr.mono hb1) (hmr.mono hb1) hiv) ?_; rintro e x2 ⟨op, oa, ob, oc, od, rfl, hk2, hm2, -⟩; rw [hnv2.out]))
      all_goals
       have hK2 : Kept (fun k => k ≠ mb) w' (x2.alloc (.cells #[.pointer op, .int .i64 oa, .int .i64 ob, .int .i64 oc, .int .i64 od] 102)) := by
        have h1 : Kept (fun k => k ≠ mb) wr x1 := .all hb1
        have h2 := h1.trans hk2
        exact (hKr.out.trans h2).trans (.all ((Below.refl _ _).alloc (Nat.le_refl _) _))
       have hM2 : Memo (x2.alloc (.cells #[.pointer op, .int .i64 oa, .int .i64 ob, .int .i64 oc, .int .i64 od] 102)) mb s := hm2.mono ((Below.refl _ _).alloc (Nat.le_refl _) _)
      · have hs2 : worstTo s d fl (wrow s j) (k + 1) = ((Sea.dayAt s.days d).nlo + k, c1) := by rw [hstep.out]; exact if_pos (by show w2 < c1; assumption)
        exact ⟨⟨k + 1, by omega, by rw [hs2], by rw [hs2], by go_num, (by show _ < _; rw [hs2]; exact hnv), hK2, hM2⟩, by simp [intOf]; omega⟩
      · have hs2 : worstTo s d fl (wrow s j) (k + 1) = (w1, w2) := by rw [hstep.out]; exact if_neg (by show ¬ w2 < c1; omega)
        exact ⟨⟨k + 1, by omega, by rw [hs2], by rw [hs2], by go_num, (by show _ < _; rw [hs2]; exact hmk2.out), hK2, hM2⟩, by simp [intOf]; omega⟩
    · have hnv2 : Hid (decide (c1 < Sea.never) = false) := by show _ = _; unfold Sea.never; simpa using hnv
      have hce : Hid (c1 = 1000000000000000) := by show _ = _; omega
      have hres : Hid (worstOf s d fl (wrow s j) = ((Sea.dayAt s.days d).nlo + k, 1000000000000000)) := by
       show _ = _
       have hs2 : worstTo s d fl (wrow s j) (k + 1) = ((Sea.dayAt s.days d).nlo + k, c1) := by rw [hstep.out]; exact if_pos (by show w2 < c1; have := hmk2.out; omega)
       rw [hfl.out, hstop.out (k + 1) (by rw [hs2]; exact hce.out), hs2, hce.out]
      go_wp2_with (first
       | (go_at_call 39; refine (progOrders _ _ _ _ _).mono ?_; rintro e x1 ⟨iv, rfl, hiv, hb1⟩)
       | (go_at_call 38; refine Calls.mono (hfst.out iv x1 (hlr.mono hb1) (hmr.mono hb1) hiv) ?_; rintro e x2 ⟨op, oa, ob, oc, od, rfl, hk2, hm2, -⟩; rw [hnv2.out]))
      rw [Exit.noGoto_ret]
      go_ret2
      refine NomSaid.of hres.out ((hKw2.out.trans ?_).trans (.all ((Below.refl _ _).alloc (Nat.le_refl _) _))) (hm2.mono ((Below.refl _ _).alloc (Nat.le_refl _) _))
      have h1 : Kept (fun k => k ≠ mb) wr x1 := .all hb1
      exact h1.trans hk2
  · have hke : Hid (worstOf s d fl (wrow s j) = worstTo s d fl (wrow s j) k) := by show _ = _; unfold worstOf; congr 1; omega
    go_wp2
    go_ret2
    exact NomSaid.of hke.out hKw2.out hmr
theorem run_memo_put' {w : World} {mb : Nat} {s : Sea.S} (h : Memo w mb s) {d f : Nat} {v : Int} (hv : memoF s d f = v) :
    ∃ o, (Instr.mapUpdate 94 (.map (some mb)) (spotV d f) (.int .i64 v)).run Tryz.prog w = .ok () (w.putObj mb o) ∧ Memo (w.putObj mb o) mb s := by
 subst hv; exact run_memo_put h d f trivial
theorem progWorstEnd (s : Sea.S) (lv : Value) (mb : Nat) (ok : Sea.Ok s) : WorstSaid s lv mb s.days.length 0 := by
 intro fl w hf hl hm
 have hsp := ok.space
 have hnds := ok.ndays
 have hlt := hm.lt
 have hv : Hid (Sea.at0 (wrow s 0) fl = s.lastAt fl) := by
  show Sea.at0 s.last fl = _
  exact last_at (by unfold Sea.S.last; simp; omega)
 obtain ⟨lb, rv, dv, rfl, ⟨l0, l1, l2, l3, l4, l5, l6⟩, hlb, hr, ⟨da, dcap, rfl, hdm, -⟩⟩ := hl
 unfold maxLen at hdm
 have hBw : Below w.heap.size w (w.alloc (.cells #[.int .i64 s.days.length, .int .i64 fl] 100)) := (Below.refl _ _).alloc (Nat.le_refl _) _
 have hbe : ((s.days.length : Int) == (s.days.length : Int)) = true := by simp
 have hla : Hid (s.lastAt fl = if Sea.inB fl s.elo s.ehi = true then 0 else Sea.never) := rfl
 cases h1 : Sea.inB fl s.elo s.ehi
 all_goals
  have hv2 : Hid (Sea.at0 (wrow s 0) fl = s.lastAt fl) := hv
  go_enter Tryz.func85, Tryz.ntmps85
  go_wp2
  go_quiet (fail)
  go_wp2
  obtain ⟨g6, hg6⟩ := (Grow.self (w.alloc (.cells #[.int .i64 s.days.length, .int .i64 fl] 100))).next (below_drewN (Below.refl _ _) nq)
  have hg6' : (w.alloc (.cells #[.int .i64 s.days.length, .int .i64 fl] 100)).drewN nq = g6.x := hg6
  rw [hg6']
  have k2 := kept_cell g6.h (kept_cell hBw l2)
  have k3 := kept_cell g6.h (kept_cell hBw l3)
  have k1 : g6.x.cell? ⟨w.heap.size, 1, none⟩ = some (.int .i64 fl) := g6.cell ((row_cells (World.alloc_heap_new w (.cells #[.int .i64 s.days.length, .int .i64 fl] 100))).2.1 1)
  clear hg6 hg6'
  go_quiet ((go_at_call 45; exact Calls.quiet_of_same ((progInT (by assumption) _).mono (by rintro e w' ⟨rfl, rfl⟩; exact ⟨rfl, rfl⟩))))
  go_wp2
  go_ret
  refine ⟨int_ret (by rw [hv2.out, hla.out, h1]; rfl), .all (below_drewN (hBw.trans (g6.h.mono hBw.size)) _), hm.mono (below_drewN (hBw.trans (g6.h.mono hBw.size)) _)⟩
theorem progWorstStep (s : Sea.S) (lv : Value) (mb d j : Nat) (ok : Sea.Ok s) (hd : d + 1 + j = s.days.length) (hW : WorstSaid s lv mb (d + 1) j) : WorstSaid s lv mb d (j + 1) := by
 intro fl w hf hl hm
 have hsp := ok.space
 have hnds := ok.ndays
 have hlt := hm.lt
 have hv : Hid (Sea.at0 (wrow s (j + 1)) fl = (worstOf s d fl (wrow s j)).2) := wrow_next ok hd hf
 have hmf : memoF s d fl = (worstOf s d fl (wrow s j)).2 := by rw [memoF_of s (j := j + 1) (by omega)]; exact hv.out
 have hN := fun X hX hmX => progNom s lv mb d j hW hd ok fl X hX hmX hf
 have hl' := hl
 obtain ⟨lb, rv, dv, rfl, ⟨l0, l1, l2, l3, l4, l5, l6⟩, hlb, hr, ⟨da, dcap, rfl, hdm, -⟩⟩ := hl'
 unfold maxLen at hdm
 have hBw : Below w.heap.size w (w.alloc (.cells #[.int .i64 d, .int .i64 fl] 100)) := (Below.refl _ _).alloc (Nat.le_refl _) _
 have hnS := World.alloc_heap_new w (.cells #[.int .i64 d, .int .i64 fl] 100)
 have hbe : ((d : Int) == (s.days.length : Int)) = false := by simp; omega
 have hlk := run_memo_look (hm.mono hBw) d fl
 have hmap := (hBw.block mb hlt)
 replace hN := Lib.hid hN
 rcases hlk with hmiss | ⟨-, hhit⟩
 · replace hmiss := Lib.hid hmiss
   go_enter Tryz.func85, Tryz.ntmps85
   go_wp2
   go_quiet (fail)
   go_wp2
   obtain ⟨g6, hg6⟩ := (Grow.self (w.alloc (.cells #[.int .i64 d, .int .i64 fl] 100))).next (below_drewN (Below.refl _ _) nq)
   have hg6' : (w.alloc (.cells #[.int .i64 d, .int .i64 fl] 100)).drewN nq = g6.x := hg6
   rw [hg6']
   have k0 : g6.x.cell? ⟨w.heap.size, 0, none⟩ = some (.int .i64 d) := g6.cell ((row_cells hnS).2.1 0)
   have k1 : g6.x.cell? ⟨w.heap.size, 1, none⟩ = some (.int .i64 fl) := g6.cell ((row_cells hnS).2.1 1)
   have k6 := kept_cell g6.h (kept_cell hBw l6)
   have hBg : Below w.heap.size w g6.x := hBw.trans (g6.h.mono hBw.size)
   have hmb : mb < (w.alloc (.cells #[.int .i64 d, .int .i64 fl] 100)).heap.size := Nat.lt_of_lt_of_le hlt hBw.size
   clear hg6 hg6' nq
   have hms := fun n => hmiss.out (g6.x.drewN n) (g6.h.block mb hmb)
   clear hmap
   go_quiet (fail)
   clear hms
   have hlg := hl.mono (below_drewN hBg nq)
   have hmg := hm.mono (below_drewN hBg nq)
   have hKg : Kept (fun k => k ≠ mb) w (g6.x.drewN nq) := .all (below_drewN hBg nq)
   have j0 : (g6.x.drewN nq).cell? ⟨w.heap.size, 0, none⟩ = some (.int .i64 d) := k0
   have j1 : (g6.x.drewN nq).cell? ⟨w.heap.size, 1, none⟩ = some (.int .i64 fl) := k1
   have j6 : (g6.x.drewN nq).cell? ⟨lb, 6, none⟩ = some (.map (some mb)) := k6
   clear k0 k1 k6
   generalize g6.x.drewN nq = Y at *
   have hn1 : w.heap.size ≠ mb := by omega
   have hn2 : lb ≠ mb := hmg.no_cell j6
   go_wp2_with (go_at_call 108; refine Calls.mono (hN.out Y hlg hmg) ?_; rintro e Z hS; obtain ⟨rfl, hk2, hm2⟩ := hS; have i0 := hk2.cell hn1 j0; have i1 := hk2.cell hn1 j1; have i6 := hk2.cell hn2 j6; obtain ⟨o, hup, hmo⟩ := run_memo_put' (hm2.mono (Below.refl _ _).drew) hmf)
   go_region
   go_wp2
   go_ret
   refine ⟨int_ret hv.out.symm, ?_, hmo⟩
   exact ((hKg.trans ⟨hk2.os, hk2.tape, hk2.output, hk2.size, fun i hi hs => hk2.block i hi hs⟩).drew).putObj (.inl (fun h => h rfl)) _
 · replace hhit := Lib.hid hhit
   go_enter Tryz.func85, Tryz.ntmps85
   go_wp2
   go_quiet (fail)
   go_wp2
   obtain ⟨g6, hg6⟩ := (Grow.self (w.alloc (.cells #[.int .i64 d, .int .i64 fl] 100))).next (below_drewN (Below.refl _ _) nq)
   have hg6' : (w.alloc (.cells #[.int .i64 d, .int .i64 fl] 100)).drewN nq = g6.x := hg6
   rw [hg6']
   have k0 : g6.x.cell? ⟨w.heap.size, 0, none⟩ = some (.int .i64 d) := g6.cell ((row_cells hnS).2.1 0)
   have k1 : g6.x.cell? ⟨w.heap.size, 1, none⟩ = some (.int .i64 fl) := g6.cell ((row_cells hnS).2.1 1)
   have k6 := kept_cell g6.h (kept_cell hBw l6)
   have hBg : Below w.heap.size w g6.x := hBw.trans (g6.h.mono hBw.size)
   have hmb : mb < (w.alloc (.cells #[.int .i64 d, .int .i64 fl] 100)).heap.size := Nat.lt_of_lt_of_le hlt hBw.size
   clear hg6 hg6' nq
   have hms := fun n => hhit.out (g6.x.drewN n) (g6.h.block mb hmb)
   rw [hmf] at hms
   clear hmap
   go_quiet (fail)
   clear hms
   go_wp2
   go_ret
   exact ⟨int_ret hv.out.symm, .all (below_drewN hBg nq), hm.mono (below_drewN hBg nq)⟩
theorem progWorstAll (s : Sea.S) (lv : Value) (mb : Nat) (ok : Sea.Ok s) : ∀ (j d : Nat), d + j = s.days.length → WorstSaid s lv mb d j
 | 0, d, h => by obtain rfl : d = s.days.length := by omega
                 exact progWorstEnd s lv mb ok
 | j + 1, d, h => progWorstStep s lv mb d j ok (by omega) (progWorstAll s lv mb ok j (d + 1) (by omega))
end Go.Proofs.YthjmdagonfeneaaGreat.S
