/- Laws and walks: SQ2, SP4. -/
import Derived.Test.YthjmdagonfeneaaGreatK20
set_option maxRecDepth 100000
set_option maxHeartbeats 16000000
set_option linter.unusedVariables false
set_option linter.unusedSimpArgs false
namespace Go.Proofs.YthjmdagonfeneaaGreat.S
open Go.RowKit Go.Sd
theorem rule_catch (b : Nat) (x r : Int) (older : List PanicEntry) (w : World) (hc : w.cell? ⟨b, 0, none⟩ = some (.int .i64 x)) (hz : w.frozen? ⟨b, 0, none⟩ = false) :
    CallsD Tryz.prog 75 #[.pointer (some ⟨b, 0, none⟩)] (.panicking ({ v := brokenV r, recovered := false } :: older)) w fun e u' w' =>
     e = .returned (.tuple #[]) ∧ u' = .panicking ({ v := brokenV r, recovered := true } :: older) ∧ w' = (w.setCell ⟨b, 0, none⟩ (.int .i64 r)).alloc (.cells #[.int .i64 r] 138) := by
 have hta : ∀ w, (Instr.typeAssert (.iface 138 (.agg #[.int .i64 r])) 20 138 true).run Tryz.prog w = .ok (.tuple #[.agg #[.int .i64 r], .bool true]) w := fun w => by kernel_rfl
 have hb := World.block_lt_of_cell? w ⟨b, 0, none⟩ hc
 simp only at hb
 have hc1 := kept_cell (below_al (Below.refl w.heap.size w) (.cells #[.int .i64 r] 138)) hc
 have hz1 := ((below_al (Below.refl w.heap.size w) (.cells #[.int .i64 r] 138)).frozen (p := ⟨b, 0, none⟩) hb).trans hz
 have hne : ¬ b = w.heap.size := by omega
 refine callsD_of_wpS Tryz.func75 rfl fun c₀ cs hu => ?_
 apply wpS_seq
 apply wpS_region
 simp [wpOpsS, go_sem, recoverD, hu, Tryz.ntmps75, Exit.thenS]
 refine wpS_of_wp ?_
 go_wp2
 simp [bodyPostS, results, Tryz.results75, go_sem]
theorem rule_idle (p : Addr) (w : World) :
    CallsD Tryz.prog 75 #[.pointer (some p)] .returning w fun e u' w' => e = .returned (.tuple #[]) ∧ u' = .returning ∧ w' = w := by
 refine callsD_of_wpS Tryz.func75 rfl fun c₀ cs hu => ?_
 apply wpS_seq
 apply wpS_region
 simp [wpOpsS, go_sem, recoverD, hu, Tryz.ntmps75, Exit.thenS]
 refine wpS_of_wp ?_
 go_wp2
 cases c₀
 simp_all [bodyPostS, results, Tryz.results75, go_sem]
theorem progRule (lv mv : Value) (s : Sea.S) (k : Nat) (fill nom u : Int) (w : World) (hl : LookAt w lv mv s) (hk : k < s.days.length) (ok : Sea.Ok s)
    (b1 : 0 ≤ fill ∧ fill ≤ 100) (b2 : -100 ≤ nom ∧ nom ≤ 100) (b3 : -100 ≤ u ∧ u ≤ 100) :
    Calls Tryz.prog 46 #[ordV lv k fill nom u] w fun e w' => e = .returned (.int .i64 (s.rule k fill nom u)) ∧ Below w.heap.size w w' := by
 have hmf : ∀ (fn : Fn) (first cap : Array Value) (w : World), (Instr.makeFunc fn first cap).run Tryz.prog w = .ok (.func fn first cap) w := fun _ _ _ _ => rfl
 obtain ⟨W, hW⟩ : ∃ W, w.alloc (oBox lv k fill nom u) = W := ⟨_, rfl⟩
 obtain ⟨hsz, hBw, q0, q1, q2, q3, q4⟩ := box_order hW
 obtain ⟨X, hX⟩ : ∃ X, W.alloc (.cells #[.int .i64 0] 50) = X := ⟨_, rfl⟩
 have hBX : Below W.heap.size W X := by rw [← hX]; exact (Below.refl _ _).alloc (Nat.le_refl _) _
 have hnew := World.alloc_heap_new W (.cells #[.int .i64 0] 50)
 rw [hX] at hnew
 obtain ⟨hWX, d0, f0⟩ := row_cells hnew
 have d0a := d0 0
 have f0a := f0 0
 simp only [List.getElem?_toArray, List.getElem?_cons_zero] at d0a
 clear d0 f0 hnew
 have p0 := kept_cell hBX q0
 have p1 := kept_cell hBX q1
 have p2 := kept_cell hBX q2
 have p3 := kept_cell hBX q3
 have p4 := kept_cell hBX q4
 have hwX : Below w.heap.size w X := hBw.trans (hBX.mono (Nat.le_of_lt hsz))
 have hM := Lib.hid (progMust lv mv s k fill nom u X (hl.mono hwX) hk ok b1 b2 b3)
 clear hl hk ok b1 b2 b3 q0 q1 q2 q3 q4
 generalize s.rule k fill nom u = r at *
 by_cases hr : r = 1
 · subst hr
   go_enter_defers Tryz.func46, Tryz.ntmps46
   go_wp2_with (go_at_call 76; refine Calls.mono hM.out ?_; rintro e w1 ⟨he, hb1⟩; rw [if_pos rfl] at he; subst he; have n0 := kept_cell hb1 d0a; have n1 := (hb1.frozen (p := ⟨W.heap.size, 0, none⟩) hWX).trans f0a)
   refine leaves_cons (f := 75) (args := #[.pointer (some ⟨W.heap.size, 0, none⟩)]) (by simp) (by simp [go_sem]) ?_
   refine (rule_idle ⟨W.heap.size, 0, none⟩ _).mono ?_
   rintro e u' w'' ⟨rfl, rfl, rfl⟩
   simp [Leaves, settle, results, Tryz.results46, go_sem, n0, n1]
   exact (hwX.trans (hb1.mono hwX.size)).setCell (by show _ ≤ W.heap.size; omega) _
 · go_enter_defers Tryz.func46, Tryz.ntmps46
   replace hr := Lib.hid hr
   go_wp2_with (go_at_call 76; refine Calls.mono hM.out ?_; rintro e w1 ⟨he, hb1⟩; rw [if_neg hr.out] at he; subst he; have n0 := kept_cell hb1 d0a; have n1 := (hb1.frozen (p := ⟨W.heap.size, 0, none⟩) hWX).trans f0a)
   refine leaves_cons (f := 75) (args := #[.pointer (some ⟨W.heap.size, 0, none⟩)]) (by simp) (by simp [go_sem]) ?_
   refine (rule_catch W.heap.size 0 r [] _ n0 n1).mono ?_
   rintro e u' w'' ⟨rfl, rfl, rfl⟩
   have n2 : ((w1.setCell ⟨W.heap.size, 0, none⟩ (.int .i64 r)).alloc (.cells #[.int .i64 r] 138)).cell? ⟨W.heap.size, 0, none⟩ = some (.int .i64 r) := kept_cell (below_al (Below.refl _ _) _) (World.cell?_setCell_same' _ _ _ (by rw [n0]; rfl))
   simp [Leaves, settle, results, Tryz.results46, go_sem, n2]
   have hbs := (hwX.trans (hb1.mono hwX.size)).setCell (p := ⟨W.heap.size, 0, none⟩) (by show _ ≤ W.heap.size; omega) (.int .i64 r)
   exact hbs.alloc hbs.size _
end Go.Proofs.YthjmdagonfeneaaGreat.S
set_option linter.unusedVariables false
set_option linter.unusedSimpArgs false
namespace Go.Proofs.YthjmdagonfeneaaGreat.S
open Go.RowKit Go.Sd
attribute [local go_sem] Oper.semAt_some
def ordersTo (s : Sea.S) (k : Nat) (fill nom : Int) (j : Nat) : List Int := ((List.range j).map fun (i : Nat) => (i : Int) - (Sea.dayAt s.days k).take).filter (possB s k fill nom)
def ordersOf (s : Sea.S) (k : Nat) (fill nom : Int) : List Int := ordersTo s k fill nom ((Sea.dayAt s.days k).take + (Sea.dayAt s.days k).offer + 1).toNat
theorem ordersTo_yes {s : Sea.S} {k : Nat} {fill nom : Int} {j : Nat} (h : possB s k fill nom ((j : Int) - (Sea.dayAt s.days k).take) = true) : ordersTo s k fill nom (j + 1) = ordersTo s k fill nom j ++ [(j : Int) - (Sea.dayAt s.days k).take] := by
 unfold ordersTo
 rw [List.range_succ, List.map_append, List.filter_append]
 simp [h]
theorem ordersTo_no {s : Sea.S} {k : Nat} {fill nom : Int} {j : Nat} (h : possB s k fill nom ((j : Int) - (Sea.dayAt s.days k).take) = false) : ordersTo s k fill nom (j + 1) = ordersTo s k fill nom j := by
 unfold ordersTo
 rw [List.range_succ, List.map_append, List.filter_append]
 simp [h]
theorem ordersTo_prefix {s : Sea.S} {k : Nat} {fill nom : Int} {i j : Nat} (h : i ≤ j) : ordersTo s k fill nom i <+: ordersTo s k fill nom j := by
 induction j with
 | zero => obtain rfl : i = 0 := by omega
           exact List.prefix_refl _
 | succ j ih =>
  by_cases hi : i = j + 1
  · subst hi; exact List.prefix_refl _
  · have := ih (by omega)
    cases hp : possB s k fill nom ((j : Int) - (Sea.dayAt s.days k).take)
    · rw [ordersTo_no hp]; exact this
    · rw [ordersTo_yes hp]; exact this.trans (List.prefix_append _ _)
theorem orders_yields (mv : Value) (s : Sea.S) (k : Nat) (fill nom : Int) (w : World) (S : Nat → Prop) (lv : Value) (bl bs bn : Nat) (hl : LookAt w lv mv s) (hk : k < s.days.length) (ok : Sea.Ok s)
    (b1 : 0 ≤ fill ∧ fill ≤ 100) (b2 : -100 ≤ nom ∧ nom ≤ 100)
    (c0 : w.cell? ⟨bl, 0, none⟩ = some lv) (c1 : w.cell? ⟨bs, 0, none⟩ = some (.int .i64 k)) (c2 : w.cell? ⟨bs, 1, none⟩ = some (.int .i64 fill)) (c3 : w.cell? ⟨bn, 0, none⟩ = some (.int .i64 nom))
    (hS : ∀ b o v, w.cell? ⟨b, o, none⟩ = some v → S b) :
    Seqs Tryz.prog 72 #[.pointer (some ⟨bl, 0, none⟩), .pointer (some ⟨bs, 0, none⟩), .pointer (some ⟨bn, 0, none⟩)] (fun u : Int => #[ordV lv k fill nom u]) (ordersOf s k fill nom) S w := by
 intro l J Jx W hKW hJ hJx hY h0
 have kcW : Kc w W := ⟨hKW.size, fun b o v h => hKW.cell (hS _ _ _ h) h⟩
 refine callsIn_wide.2 ?_
 have hlW := hl.kc kcW
 have d0 := kcW.cell _ _ _ c0
 have d1 := kcW.cell _ _ _ c1
 have d2 := kcW.cell _ _ _ c2
 have d3 := kcW.cell _ _ _ c3
 have hlW' := hlW
 obtain ⟨lb, rv, dv, rfl, ⟨l0, l1, l2, l3, l4, l5, l6⟩, hlb, hr, hd⟩ := hlW'
 obtain ⟨b, off, cap, rfl, hlt, hm, e0, e1, e2, e3, e4, e5, e6, e7⟩ := day_cells hd hk
 have hk' : (k : Int) < (s.days.length : Int) := by omega
 have hbl := World.block_lt_of_cell? W ⟨bl, 0, none⟩ d0
 have hbs := World.block_lt_of_cell? W ⟨bs, 0, none⟩ d1
 have hbn := World.block_lt_of_cell? W ⟨bn, 0, none⟩ d3
 clear hr hd
 go_enter Tryz.func72, Tryz.ntmps72
 go_wp2
 refine wp_region_vars growth_below (va := [⟨9, 5, 44, #[.int .i64 0, .int .i64 0, .int .i64 0, .int .i64 0, .int .i64 0, .int .i64 0, .int .i64 0, .int .i64 0], 10, .tmp 16⟩]) (by kernel_rfl) (by kernel_rfl) ?_ ?_ (by simp) (fun T f hT hf hcl => ?_)
 · intro p hp w
   simp only [List.mem_cons, List.not_mem_nil, or_false] at hp
   rcases hp with rfl <;> go_simp
 · intro p hp
   simp only [List.mem_cons, List.not_mem_nil, or_false] at hp
   rcases hp with rfl <;> kernel_rfl
 have hg : ∀ (g : T) (b o : Nat), b < W.heap.size → (f g).cell? ⟨b, o, none⟩ = W.cell? ⟨b, o, none⟩ := fun g => below_cell (hf g)
 simp only [lexOf, List.zipIdx_cons, List.zipIdx_nil, List.map_cons, List.map_nil, isMade, List.any_cons, List.any_nil, Nat.reduceAdd, Nat.reduceBEq, Bool.or_false, Bool.false_or, Bool.or_self, Bool.false_eq_true, if_false, if_true, Nat.zero_add, BEq.rfl, Bool.or_true, Bool.true_or]
 simp only [Go.Sd.blank]
 repeat (go_big_quiet_step (fail))
 refine wpQuiet_nil ?_
 refine ⟨?_, ?_⟩
 · intro p hp
   simp only [List.mem_cons, List.not_mem_nil, or_false] at hp
   rcases hp with rfl <;> (constructor <;> simp [go_sem, Value.cells, Value.oneCell'])
 intro ns w' hB hv
 obtain ⟨n1, rfl, hn1, hl1, hc1, hf1⟩ := vars_one hv
 clear hv hf hcl hg
 simp only [placeV, Act.put, List.setIfInBounds_toArray, List.set_cons_zero, List.set_cons_succ]
 simp [go_sem] at hc1
 have hcc := below_cell hB
 have hd := ok.days k (by omega)
 have ho : w'.cell? ⟨n1, 2, none⟩ = some (.int .i64 (Sea.dayAt s.days k).offer) := by simpa using hc1 2
 have hJ1 := hJ _ _ _ h0 hB
 have hK1 : Kept S w w' := hKW.trans (.all hB)
 have hs1 := hB.size
 go_wp2
 clear hcc hc1 hf1 h0 hB d0 d1 d2 d3 l0 l1 l2 l3 l4 l5 l6 e0 e1 e2 e3 e4 e5 e6 e7
 refine (wpIn_wide (n := 0)).1 ?_
 gi_loopw [6] (fun i wr => ∃ j : Nat, (j : Int) ≤ (Sea.dayAt s.days k).take + (Sea.dayAt s.days k).offer + 1 ∧ i = .int .i64 ((j : Int) - (Sea.dayAt s.days k).take) ∧
  wr.cell? ⟨n1, 2, none⟩ = some (.int .i64 (Sea.dayAt s.days k).offer) ∧ Hid (Kept S w wr ∧ W.heap.size ≤ wr.heap.size ∧ J (ordersTo s k fill nom j) wr)) (fun i _ => ((Sea.dayAt s.days k).offer + 1 - intOf i).toNat)
 case atStart => exact ⟨0, by omega, by go_num, ho, hK1, hs1, hJ1⟩
 case round =>
  obtain ⟨j, hj, rfl, ho2, hH⟩ := hrel
  have kc2 : Kc w wr := ⟨hH.out.1.size, fun b o v h => hH.out.1.cell (hS _ _ _ h) h⟩
  have d0 := kc2.cell _ _ _ c0
  have d1 := kc2.cell _ _ _ c1
  have d2 := kc2.cell _ _ _ c2
  have d3 := kc2.cell _ _ _ c3
  have hl2 := hl.kc kc2
  by_cases hjo : (j : Int) - (Sea.dayAt s.days k).take ≤ (Sea.dayAt s.days k).offer
  · cases hp : possB s k fill nom ((j : Int) - (Sea.dayAt s.days k).take)
    · have hc : Calls Tryz.prog 73 #[ordV (.pointer (some ⟨lb, 0, none⟩)) k fill nom ((j : Int) - (Sea.dayAt s.days k).take)] (wr.alloc (oBox (.pointer (some ⟨lb, 0, none⟩)) k fill nom ((j : Int) - (Sea.dayAt s.days k).take)))
          (fun e w2 => e = .returned (.bool false) ∧ Below wr.heap.size wr w2 ∧ Below (wr.heap.size + 1) (wr.alloc (oBox (.pointer (some ⟨lb, 0, none⟩)) k fill nom ((j : Int) - (Sea.dayAt s.days k).take))) w2) := by
       refine (progPossible _ mv s k fill nom _ _ (hl2.mono ((Below.refl _ _).alloc (Nat.le_refl _) _)) hk ok b1 b2 (by omega)).mono ?_
       rintro e w2 ⟨rfl, hB⟩
       exact ⟨by rw [hp], ((Below.refl _ _).alloc (Nat.le_refl _) _).trans (hB.mono (by simp)), hB.mono (by simp)⟩
      replace hp := Lib.hid hp
      gi_wp2
      refine ⟨trivial, rfl, (callsIn_wide.2 hc).mono ?_⟩
      rintro e w2 ⟨rfl, hB2, hB5⟩
      clear hc
      have ho3 : w2.cell? ⟨n1, 2, none⟩ = some (.int .i64 (Sea.dayAt s.days k).offer) := kept_cell hB2 ho2
      have hK3 : Kept S w w2 := hH.out.1.trans (.all hB2)
      have hs3 : W.heap.size ≤ w2.heap.size := Nat.le_trans hH.out.2.1 hB2.size
      have hJ3 : J (ordersTo s k fill nom j) w2 := hJ _ _ _ hH.out.2.2 (hB2.mono hH.out.2.1)
      gi_wp2
      refine ⟨fun _ h => (by cases h), ?_⟩
      gi_wp2
      exact ⟨⟨j + 1, by omega, by go_num, ho3, hK3, hs3, by rw [ordersTo_no hp.out]; exact hJ3⟩, by simp [intOf]; omega⟩
    · have hc : Calls Tryz.prog 73 #[ordV (.pointer (some ⟨lb, 0, none⟩)) k fill nom ((j : Int) - (Sea.dayAt s.days k).take)] (wr.alloc (oBox (.pointer (some ⟨lb, 0, none⟩)) k fill nom ((j : Int) - (Sea.dayAt s.days k).take)))
          (fun e w2 => e = .returned (.bool true) ∧ Below wr.heap.size wr w2 ∧ Below (wr.heap.size + 1) (wr.alloc (oBox (.pointer (some ⟨lb, 0, none⟩)) k fill nom ((j : Int) - (Sea.dayAt s.days k).take))) w2) := by
       refine (progPossible _ mv s k fill nom _ _ (hl2.mono ((Below.refl _ _).alloc (Nat.le_refl _) _)) hk ok b1 b2 (by omega)).mono ?_
       rintro e w2 ⟨rfl, hB⟩
       exact ⟨by rw [hp], ((Below.refl _ _).alloc (Nat.le_refl _) _).trans (hB.mono (by simp)), hB.mono (by simp)⟩
      replace hp := Lib.hid hp
      gi_wp2
      refine ⟨trivial, rfl, (callsIn_wide.2 hc).mono ?_⟩
      rintro e w2 ⟨rfl, hB2, hB5⟩
      clear hc
      have ho3 : w2.cell? ⟨n1, 2, none⟩ = some (.int .i64 (Sea.dayAt s.days k).offer) := kept_cell hB2 ho2
      have hK3 : Kept S w w2 := hH.out.1.trans (.all hB2)
      have hs3 : W.heap.size ≤ w2.heap.size := Nat.le_trans hH.out.2.1 hB2.size
      have hJ3 : J (ordersTo s k fill nom j) w2 := hJ _ _ _ hH.out.2.2 (hB2.mono hH.out.2.1)
      have hpre : ordersTo s k fill nom j ++ [(j : Int) - (Sea.dayAt s.days k).take] <+: ordersOf s k fill nom := by
       rw [← ordersTo_yes hp.out]; exact ordersTo_prefix (by omega)
      obtain ⟨fn, tmps, assign, body, hy, hR⟩ := hY _ _ w2 hpre hK3 hs3 hJ3
      obtain ⟨hsz, -, q0, q1, q2, q3, q4⟩ := box_order (w := wr) (lv := .pointer (some ⟨lb, 0, none⟩)) (day := k) (fill := fill) (nom := nom) (u := (j : Int) - (Sea.dayAt s.days k).take) rfl
      have r0 := kept_cell (hB5.mono (Nat.le_of_eq (World.size_alloc _ _))) q0
      have r1 := kept_cell (hB5.mono (Nat.le_of_eq (World.size_alloc _ _))) q1
      have r2 := kept_cell (hB5.mono (Nat.le_of_eq (World.size_alloc _ _))) q2
      have r3 := kept_cell (hB5.mono (Nat.le_of_eq (World.size_alloc _ _))) q3
      have r4 := kept_cell (hB5.mono (Nat.le_of_eq (World.size_alloc _ _))) q4
      clear q0 q1 q2 q3 q4 hB5
      gi_wp2
      refine ⟨rfl, hR.mono ?_⟩
      clear hy hR
      rintro e W3 (⟨rfl, hJ4, hk4⟩ | ⟨rfl, hJx4⟩)
      · have ho4 : W3.cell? ⟨n1, 2, none⟩ = some (.int .i64 (Sea.dayAt s.days k).offer) := hk4.cell (.inr hn1) ho3
        have hK4 : Kept S w W3 := hK3.trans (hk4.mono fun _ _ h => .inl h)
        have hs4 := Nat.le_trans hs3 hk4.size
        gi_wp2
        exact ⟨⟨j + 1, by omega, by go_num, ho4, hK4, hs4, by rw [ordersTo_yes hp.out]; exact hJ4⟩, by simp [intOf]; omega⟩
      · gi_wp2
        exact bodyPost_ret (results_none rfl _ _ _) rfl ⟨⟨_, rfl⟩, .inr hJx4⟩
  · have hend : ordersTo s k fill nom j = ordersOf s k fill nom := by unfold ordersOf; congr 1; omega
    replace hend := Lib.hid hend
    gi_wp2
    go_end0
    exact ⟨⟨_, rfl⟩, .inl (by rw [← hend.out]; exact hH.out.2.2)⟩
end Go.Proofs.YthjmdagonfeneaaGreat.S
