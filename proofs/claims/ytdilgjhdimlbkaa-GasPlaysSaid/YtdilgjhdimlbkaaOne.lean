/- Gas: walks: the document's content behind one operation. -/
import Derived.Test.YtdilgjhdimlbkaaKno
import Derived.Test.YtdilgjhdimlbkaaPly
import Derived.Deep.Cut
import Derived.Deep.CutRange
import Derived.Deep.CutBlock
import Derived.BigRegion
set_option linter.unusedVariables false
set_option linter.unusedSimpArgs false
namespace Go.Proofs.Ytdilgjhdimlbkaa
open Go.RowKit Go.Sd Gas

abbrev ptO (p : Pt) : Obj := .cells #[.int .i64 p.g, .int .i64 p.y, .int .i64 p.t, .int .i64 p.w] 28
abbrev zPt : Pt := ⟨0, 0, 0, 0⟩
/-- What one operation makes of a content, and what goes out. -/
inductive OneIs (c : Cav) (p : Pt) (s v : Int) : Gas.Op → Pt → Pt → Bool → Prop
  | inj (l : Pt) (hl : l.Ok) : OneIs c p s v ⟨1, l.g, l.y, l.t, l.w, 0, 0, 0, 0, 0⟩ (inject c p l) zPt (decide (p.g + l.g ≤ 1000000) && decide (p.y + l.y ≤ 1000000) && decide (p.w + l.w ≤ 1000000000))
  | wit (m : Int) (hm : 0 ≤ m ∧ m ≤ 2000000) (hle : m ≤ p.g + p.y) : OneIs c p s v ⟨2, 0, 0, 0, 0, m, 0, 0, 0, 0⟩ (left p m) (out p m) true
  | non (m : Int) (hm : 0 ≤ m ∧ m ≤ 2000000) (hle : ¬ m ≤ p.g + p.y) : OneIs c p s v ⟨2, 0, 0, 0, 0, m, 0, 0, 0, 0⟩ p ⟨if 0 < p.g + p.y then m - Gas.part m p.y (p.g + p.y) else 0, Gas.part m p.y (p.g + p.y), 0, Gas.part m p.w (p.g + p.y)⟩ false
  | rst (a b x y : Int) : OneIs c p s v ⟨3, 0, 0, 0, 0, 0, a, b, x, y⟩ (rest c p s v) zPt (decide (p.g ≤ 1000000) && decide (p.y ≤ 1000000) && decide (p.w + v ≤ 1000000000))
theorem part_up {m n d : Int} (hm : 0 ≤ m ∧ m ≤ 2000000) (hn : 0 ≤ n ∧ n ≤ 1000000000) (hd : 0 ≤ d) : Gas.part m n d ≤ 2000000000000000 := by
  unfold Gas.part
  split
  · omega
  · have h1 := bd_mul hm hn
    have h2 : m * n / d ≤ m * n := Int.ediv_le_self _ h1.1
    omega
theorem six_new {w W : World} {a b c d e f : Obj} (h : (((((w.alloc a).alloc b).alloc c).alloc d).alloc e).alloc f = W) :
    W.heap[w.heap.size]? = some a ∧ W.heap[w.heap.size + 1]? = some b ∧ W.heap[w.heap.size + 2]? = some c ∧ W.heap[w.heap.size + 3]? = some d ∧ W.heap[w.heap.size + 4]? = some e ∧ W.heap[w.heap.size + 5]? = some f ∧ W.heap.size = w.heap.size + 6 ∧ Below w.heap.size w W := by
  subst h
  have key : ∀ (X : World) (o : Obj) (n : Nat) (q : Obj), X.heap[n]? = some q → (X.alloc o).heap[n]? = some q := fun X o n q h => (Below.heap_alloc _ _ _ (Array.getElem?_eq_some_iff.1 h).1).trans h
  have e0 := World.alloc_heap_new w a
  have e1 := World.alloc_heap_new (w.alloc a) b
  have e2 := World.alloc_heap_new ((w.alloc a).alloc b) c
  have e3 := World.alloc_heap_new (((w.alloc a).alloc b).alloc c) d
  have e4 := World.alloc_heap_new ((((w.alloc a).alloc b).alloc c).alloc d) e
  have e5 := World.alloc_heap_new (((((w.alloc a).alloc b).alloc c).alloc d).alloc e) f
  simp only [World.size_alloc] at e1 e2 e3 e4 e5
  refine ⟨key _ _ _ _ (key _ _ _ _ (key _ _ _ _ (key _ _ _ _ (key _ _ _ _ e0)))), key _ _ _ _ (key _ _ _ _ (key _ _ _ _ (key _ _ _ _ e1))), key _ _ _ _ (key _ _ _ _ (key _ _ _ _ e2)), key _ _ _ _ (key _ _ _ _ e3), key _ _ _ _ e4, e5, by simp, ?_⟩
  exact ((((((Below.refl _ _).alloc (Nat.le_refl _) _).alloc (by simp) _).alloc (by simp; omega) _).alloc (by simp; omega) _).alloc (by simp; omega) _).alloc (by simp; omega) _
theorem kept_block {w w' : World} (hb : Below w.heap.size w w') {n : Nat} {o : Obj} (h : w.heap[n]? = some o) : w'.heap[n]? = some o :=
  (hb.block _ (Array.getElem?_eq_some_iff.1 h).1).trans h
theorem below_tr {X w1 w2 : World} (h : Below X.heap.size X w1) (h2 : Below w1.heap.size w1 w2) : Below X.heap.size X w2 := h.trans (h2.mono h.size)
/-- What stands behind the switch. -/
structure OneSt (w : World) (X G : Pt) (W : World) : Prop where
  p : W.heap[w.heap.size + 1]? = some (ptO X)
  u : W.heap[w.heap.size + 5]? = some (ptO G)
  rp : W.heap[w.heap.size + 3]? = some (ptO zPt)
  ro : W.heap[w.heap.size + 4]? = some (ptO zPt)
  bel : Below w.heap.size w W
theorem OneSt.setp {w : World} {X X' G : Pt} {W : World} {i : Nat} {v : Value} (h : OneSt w X G W) (hx : (#[.int .i64 X.g, .int .i64 X.y, .int .i64 X.t, .int .i64 X.w] : Array Value).setIfInBounds i v = #[.int .i64 X'.g, .int .i64 X'.y, .int .i64 X'.t, .int .i64 X'.w]) : OneSt w X' G (W.setCell ⟨w.heap.size + 1, i, none⟩ v) := by
  have e := set_one h.p i v
  rw [hx] at e
  exact ⟨e, (Below.heap_setCell _ _ _ _ (by simp)).trans h.u, (Below.heap_setCell _ _ _ _ (by simp)).trans h.rp, (Below.heap_setCell _ _ _ _ (by simp)).trans h.ro, h.bel.setCell (p := ⟨w.heap.size + 1, i, none⟩) (by simp) _⟩
theorem OneSt.setu {w : World} {X G G' : Pt} {W : World} {i : Nat} {v : Value} (h : OneSt w X G W) (hx : (#[.int .i64 G.g, .int .i64 G.y, .int .i64 G.t, .int .i64 G.w] : Array Value).setIfInBounds i v = #[.int .i64 G'.g, .int .i64 G'.y, .int .i64 G'.t, .int .i64 G'.w]) : OneSt w X G' (W.setCell ⟨w.heap.size + 5, i, none⟩ v) := by
  have e := set_one h.u i v
  rw [hx] at e
  exact ⟨(Below.heap_setCell _ _ _ _ (by simp)).trans h.p, e, (Below.heap_setCell _ _ _ _ (by simp)).trans h.rp, (Below.heap_setCell _ _ _ _ (by simp)).trans h.ro, h.bel.setCell (p := ⟨w.heap.size + 5, i, none⟩) (by simp) _⟩
theorem OneSt.drew {w : World} {X G : Pt} {W : World} (h : OneSt w X G W) : OneSt w X G W.drew := ⟨h.p, h.u, h.rp, h.ro, h.bel.drew⟩
theorem OneSt.mono {w : World} {X G : Pt} {W V : World} (h : OneSt w X G W) (hb : Below W.heap.size W V) : OneSt w X G V := ⟨kept_block hb h.p, kept_block hb h.u, kept_block hb h.rp, kept_block hb h.ro, below_tr h.bel hb⟩

set_option maxRecDepth 100000 in
set_option maxHeartbeats 16000000 in
theorem oneWalk (c : Cav) (p X G : Pt) (o : Gas.Op) (s v : Int) (B : Bool) (w : World) (hc : c.Ok) (hp : p.Ok) (hs : o.kind = 3 → 0 ≤ s ∧ s ≤ 1000) (hv : o.kind = 3 → 0 ≤ v ∧ v ≤ 1000000) (ho : OneIs c p s v o X G B) :
    Calls Try.prog 28 #[cavV c, ptV p, opV o, .int .i64 s, .int .i64 v] w fun e w' => e = .returned (.tuple #[ptV X, ptV G, .bool B]) ∧ Below w.heap.size w w' := by
  obtain ⟨W, hW⟩ : ∃ W, (((((w.alloc (.cells #[.int .i64 c.vlo, .int .i64 c.vhi, .int .i64 c.least, .int .i64 c.most, .int .i64 c.f0, .int .i64 c.f1, .int .i64 c.h0, .int .i64 c.h1, .int .i64 c.rock, .int .i64 c.plo, .int .i64 c.phi] 26)).alloc (ptO p)).alloc (.cells #[.int .i64 o.kind, .int .i64 o.lg, .int .i64 o.ly, .int .i64 o.lt, .int .i64 o.lw, .int .i64 o.moles, .int .i64 o.slo, .int .i64 o.shi, .int .i64 o.wlo, .int .i64 o.whi] 57)).alloc (ptO zPt)).alloc (ptO zPt)).alloc (ptO zPt) = W := ⟨_, rfl⟩
  obtain ⟨e0, e1, e2, e3, e4, e5, sW, bW⟩ := six_new hW
  have p1 := hp.g; have p2 := hp.y; have p3 := hp.t; have p4 := hp.w
  have hst0 : Hid (OneSt w p zPt W) := Lib.hid ⟨e1, e5, e3, e4, bW⟩
  have hE0 := Lib.hid e0
  have hE2 := Lib.hid e2
  obtain ⟨c0, c1, c2, c3, c4, c5, c6, c7, c8, c9, c10⟩ := rc11 e0
  obtain ⟨q0, q1, q2, q3⟩ := rc4 e1
  obtain ⟨o0, o1, o2, o3, o4, o5, o6, o7, o8, o9⟩ := rc10 e2
  have z0 := (Array.getElem?_eq_some_iff.1 e0).1
  have z1 := (Array.getElem?_eq_some_iff.1 e1).1
  have z2 := (Array.getElem?_eq_some_iff.1 e2).1
  have hsz := Lib.hid sW
  replace hW := Lib.hid hW
  clear e0 e1 e2 e3 e4 e5 sW bW
  go_enter Try.func28, Try.ntmps28
  go_upto_region 2 with fail
  rw [hW.out]
  clear hW
  go_upto_block 0 with fail
  go_cut [] from 15 to 113 (fun wx => Hid (OneSt w X G wx ∧ ((decide (X.g ≤ 1000000) && decide (X.y ≤ 1000000) && decide (X.w ≤ 1000000000)) = B)))
  case first =>
    cases ho with
    | inj l hl =>
      dsimp only at o0 o1 o2 o3 o4 o5 o6 o7 o8 o9
      have l1 := hl.g; have l2 := hl.y; have l3 := hl.t; have l4 := hl.w
      obtain ⟨hH, ehH⟩ : ∃ v, heat c p = v := ⟨_, rfl⟩
      have hHb : 0 ≤ heat c p ∧ heat c p ≤ 20000000000 := by have := heat_bd (p := p) hc (by omega) (by omega); unfold heat; omega
      have kH : Hid (∀ w, Calls Try.prog 41 #[cavV c, ptV p] w fun e w' => e = .returned (.int .i64 hH) ∧ Below w.heap.size w w') := Lib.hid (fun w => ehH ▸ refHeat c p w hc (by omega) (by omega))
      obtain ⟨ww, eww⟩ : ∃ v, warm hH p.t (heat c l) l.t = v := ⟨_, rfl⟩
      have kW : Hid (∀ w, Calls Try.prog 40 #[cavV c, .int .i64 hH, .int .i64 p.t, ptV l] w fun e w' => e = .returned (.int .i64 ww) ∧ Below w.heap.size w w') := Lib.hid (fun w => eww ▸ refWarm c hH p.t l w hc (ehH ▸ hHb) (by omega) (by omega) (by omega) (by omega))
      have hres : Hid (inject c p l = ⟨p.g + l.g, p.y + l.y, ww, p.w + l.w⟩) := Lib.hid (by unfold inject; rw [ehH, eww])
      clear hHb
      replace ehH := Lib.hid ehH; replace eww := Lib.hid eww
      go_wp2_with fail
      refine plain_region (by kernel_rfl) (any_region_locN 9 129 [] [35, 36, 37, 38, 39, 40, 41, 42, 43] [[], [], [], [1, 2], [], [4], [], [6], [0, 3, 5, 7]] [IsV (cavV c), IsV (cavV c), IsV (ptV p), IsV (.int .i64 hH), IsV (.pointer (some ⟨w.heap.size + 1, 2, none⟩)), IsV (.int .i64 p.t), IsV (.pointer (some ⟨w.heap.size + 2, 1, none⟩)), IsV (ptV l), IsV (.int .i64 ww)] [] (by kernel_rfl) (by kernel_rfl) (by kernel_rfl) (by kernel_rfl) (by kernel_rfl) rfl OnlyN.panic ?_ ?_ ?_ (fun j hj => nomatch hj) ?_)
      · exact List.forall_mem_cons.2 ⟨pers_v _, List.forall_mem_cons.2 ⟨pers_v _, List.forall_mem_cons.2 ⟨pers_v _, List.forall_mem_cons.2 ⟨pers_v _, List.forall_mem_cons.2 ⟨pers_v _, List.forall_mem_cons.2 ⟨pers_v _, List.forall_mem_cons.2 ⟨pers_v _, List.forall_mem_cons.2 ⟨pers_v _, List.forall_mem_cons.2 ⟨pers_v _, fun f h => nomatch h⟩⟩⟩⟩⟩⟩⟩⟩⟩
      · intro k hk; cases hk
      · refine ⟨?_, ?_, ?_, ?_, ?_, ?_, ?_, ?_, ?_, trivial⟩
        · intro vals x hb hf
          simp only [fillS, List.getD_cons_succ, List.getD_cons_zero, Act.put, List.setIfInBounds_toArray, List.set_cons_zero, List.set_cons_succ]
          clear hf
          have w0 := kept_cell hb c0
          have w1 := kept_cell hb c1
          have w2 := kept_cell hb c2
          have w3 := kept_cell hb c3
          have w4 := kept_cell hb c4
          have w5 := kept_cell hb c5
          have w6 := kept_cell hb c6
          have w7 := kept_cell hb c7
          have w8 := kept_cell hb c8
          have w9 := kept_cell hb c9
          have w10 := kept_cell hb c10
          have v0 := kept_cell hb q0
          have v1 := kept_cell hb q1
          have v2 := kept_cell hb q2
          have v3 := kept_cell hb q3
          have x1 := kept_cell hb o1
          have x2 := kept_cell hb o2
          have x3 := kept_cell hb o3
          have x4 := kept_cell hb o4
          have x5 := kept_cell hb o5
          have zz0 := Nat.lt_of_lt_of_le z0 hb.size
          have zz1 := Nat.lt_of_lt_of_le z1 hb.size
          have zz2 := Nat.lt_of_lt_of_le z2 hb.size
          go_wp2
          exact ⟨rfl, rfl, Below.refl _ _, _, rfl, rfl, (fun h => absurd h (by decide))⟩
        · intro vals x hb hf
          simp only [fillS, List.getD_cons_succ, List.getD_cons_zero, Act.put, List.setIfInBounds_toArray, List.set_cons_zero, List.set_cons_succ]
          clear hf
          have w0 := kept_cell hb c0
          have w1 := kept_cell hb c1
          have w2 := kept_cell hb c2
          have w3 := kept_cell hb c3
          have w4 := kept_cell hb c4
          have w5 := kept_cell hb c5
          have w6 := kept_cell hb c6
          have w7 := kept_cell hb c7
          have w8 := kept_cell hb c8
          have w9 := kept_cell hb c9
          have w10 := kept_cell hb c10
          have v0 := kept_cell hb q0
          have v1 := kept_cell hb q1
          have v2 := kept_cell hb q2
          have v3 := kept_cell hb q3
          have x1 := kept_cell hb o1
          have x2 := kept_cell hb o2
          have x3 := kept_cell hb o3
          have x4 := kept_cell hb o4
          have x5 := kept_cell hb o5
          have zz0 := Nat.lt_of_lt_of_le z0 hb.size
          have zz1 := Nat.lt_of_lt_of_le z1 hb.size
          have zz2 := Nat.lt_of_lt_of_le z2 hb.size
          go_wp2
          exact ⟨rfl, rfl, Below.refl _ _, _, rfl, rfl, (fun h => absurd h (by decide))⟩
        · intro vals x hb hf
          simp only [fillS, List.getD_cons_succ, List.getD_cons_zero, Act.put, List.setIfInBounds_toArray, List.set_cons_zero, List.set_cons_succ]
          clear hf
          have w0 := kept_cell hb c0
          have w1 := kept_cell hb c1
          have w2 := kept_cell hb c2
          have w3 := kept_cell hb c3
          have w4 := kept_cell hb c4
          have w5 := kept_cell hb c5
          have w6 := kept_cell hb c6
          have w7 := kept_cell hb c7
          have w8 := kept_cell hb c8
          have w9 := kept_cell hb c9
          have w10 := kept_cell hb c10
          have v0 := kept_cell hb q0
          have v1 := kept_cell hb q1
          have v2 := kept_cell hb q2
          have v3 := kept_cell hb q3
          have x1 := kept_cell hb o1
          have x2 := kept_cell hb o2
          have x3 := kept_cell hb o3
          have x4 := kept_cell hb o4
          have x5 := kept_cell hb o5
          have zz0 := Nat.lt_of_lt_of_le z0 hb.size
          have zz1 := Nat.lt_of_lt_of_le z1 hb.size
          have zz2 := Nat.lt_of_lt_of_le z2 hb.size
          go_wp2
          exact ⟨rfl, rfl, Below.refl _ _, _, rfl, rfl, (fun h => absurd h (by decide))⟩
        · intro vals x hb hf
          simp only [fillS, List.getD_cons_succ, List.getD_cons_zero, Act.put, List.setIfInBounds_toArray, List.set_cons_zero, List.set_cons_succ]
          have h1 : vals 1 = cavV c := hf.1
          rw [h1]
          clear h1
          have h2 : vals 2 = ptV p := hf.2.1
          rw [h2]
          clear h2
          clear hf
          have w0 := kept_cell hb c0
          have w1 := kept_cell hb c1
          have w2 := kept_cell hb c2
          have w3 := kept_cell hb c3
          have w4 := kept_cell hb c4
          have w5 := kept_cell hb c5
          have w6 := kept_cell hb c6
          have w7 := kept_cell hb c7
          have w8 := kept_cell hb c8
          have w9 := kept_cell hb c9
          have w10 := kept_cell hb c10
          have v0 := kept_cell hb q0
          have v1 := kept_cell hb q1
          have v2 := kept_cell hb q2
          have v3 := kept_cell hb q3
          have x1 := kept_cell hb o1
          have x2 := kept_cell hb o2
          have x3 := kept_cell hb o3
          have x4 := kept_cell hb o4
          have x5 := kept_cell hb o5
          have zz0 := Nat.lt_of_lt_of_le z0 hb.size
          have zz1 := Nat.lt_of_lt_of_le z1 hb.size
          have zz2 := Nat.lt_of_lt_of_le z2 hb.size
          go_wp2_with (go_at_call 41; (with_reducible refine Calls.mono (kH.out _) ?_); rintro e y ⟨rfl, hB⟩)
          exact ⟨rfl, rfl, hB, _, rfl, rfl, (fun h => absurd h (by decide))⟩
        · intro vals x hb hf
          simp only [fillS, List.getD_cons_succ, List.getD_cons_zero, Act.put, List.setIfInBounds_toArray, List.set_cons_zero, List.set_cons_succ]
          clear hf
          have w0 := kept_cell hb c0
          have w1 := kept_cell hb c1
          have w2 := kept_cell hb c2
          have w3 := kept_cell hb c3
          have w4 := kept_cell hb c4
          have w5 := kept_cell hb c5
          have w6 := kept_cell hb c6
          have w7 := kept_cell hb c7
          have w8 := kept_cell hb c8
          have w9 := kept_cell hb c9
          have w10 := kept_cell hb c10
          have v0 := kept_cell hb q0
          have v1 := kept_cell hb q1
          have v2 := kept_cell hb q2
          have v3 := kept_cell hb q3
          have x1 := kept_cell hb o1
          have x2 := kept_cell hb o2
          have x3 := kept_cell hb o3
          have x4 := kept_cell hb o4
          have x5 := kept_cell hb o5
          have zz0 := Nat.lt_of_lt_of_le z0 hb.size
          have zz1 := Nat.lt_of_lt_of_le z1 hb.size
          have zz2 := Nat.lt_of_lt_of_le z2 hb.size
          go_wp2
          exact ⟨rfl, rfl, Below.refl _ _, _, rfl, rfl, (fun h => absurd h (by decide))⟩
        · intro vals x hb hf
          simp only [fillS, List.getD_cons_succ, List.getD_cons_zero, Act.put, List.setIfInBounds_toArray, List.set_cons_zero, List.set_cons_succ]
          have h4 : vals 4 = .pointer (some ⟨w.heap.size + 1, 2, none⟩) := hf.1
          rw [h4]
          clear h4
          clear hf
          have w0 := kept_cell hb c0
          have w1 := kept_cell hb c1
          have w2 := kept_cell hb c2
          have w3 := kept_cell hb c3
          have w4 := kept_cell hb c4
          have w5 := kept_cell hb c5
          have w6 := kept_cell hb c6
          have w7 := kept_cell hb c7
          have w8 := kept_cell hb c8
          have w9 := kept_cell hb c9
          have w10 := kept_cell hb c10
          have v0 := kept_cell hb q0
          have v1 := kept_cell hb q1
          have v2 := kept_cell hb q2
          have v3 := kept_cell hb q3
          have x1 := kept_cell hb o1
          have x2 := kept_cell hb o2
          have x3 := kept_cell hb o3
          have x4 := kept_cell hb o4
          have x5 := kept_cell hb o5
          have zz0 := Nat.lt_of_lt_of_le z0 hb.size
          have zz1 := Nat.lt_of_lt_of_le z1 hb.size
          have zz2 := Nat.lt_of_lt_of_le z2 hb.size
          go_wp2
          exact ⟨rfl, rfl, Below.refl _ _, _, rfl, rfl, (fun h => absurd h (by decide))⟩
        · intro vals x hb hf
          simp only [fillS, List.getD_cons_succ, List.getD_cons_zero, Act.put, List.setIfInBounds_toArray, List.set_cons_zero, List.set_cons_succ]
          clear hf
          have w0 := kept_cell hb c0
          have w1 := kept_cell hb c1
          have w2 := kept_cell hb c2
          have w3 := kept_cell hb c3
          have w4 := kept_cell hb c4
          have w5 := kept_cell hb c5
          have w6 := kept_cell hb c6
          have w7 := kept_cell hb c7
          have w8 := kept_cell hb c8
          have w9 := kept_cell hb c9
          have w10 := kept_cell hb c10
          have v0 := kept_cell hb q0
          have v1 := kept_cell hb q1
          have v2 := kept_cell hb q2
          have v3 := kept_cell hb q3
          have x1 := kept_cell hb o1
          have x2 := kept_cell hb o2
          have x3 := kept_cell hb o3
          have x4 := kept_cell hb o4
          have x5 := kept_cell hb o5
          have zz0 := Nat.lt_of_lt_of_le z0 hb.size
          have zz1 := Nat.lt_of_lt_of_le z1 hb.size
          have zz2 := Nat.lt_of_lt_of_le z2 hb.size
          go_wp2
          exact ⟨rfl, rfl, Below.refl _ _, _, rfl, rfl, (fun h => absurd h (by decide))⟩
        · intro vals x hb hf
          simp only [fillS, List.getD_cons_succ, List.getD_cons_zero, Act.put, List.setIfInBounds_toArray, List.set_cons_zero, List.set_cons_succ]
          have h6 : vals 6 = .pointer (some ⟨w.heap.size + 2, 1, none⟩) := hf.1
          rw [h6]
          clear h6
          clear hf
          have w0 := kept_cell hb c0
          have w1 := kept_cell hb c1
          have w2 := kept_cell hb c2
          have w3 := kept_cell hb c3
          have w4 := kept_cell hb c4
          have w5 := kept_cell hb c5
          have w6 := kept_cell hb c6
          have w7 := kept_cell hb c7
          have w8 := kept_cell hb c8
          have w9 := kept_cell hb c9
          have w10 := kept_cell hb c10
          have v0 := kept_cell hb q0
          have v1 := kept_cell hb q1
          have v2 := kept_cell hb q2
          have v3 := kept_cell hb q3
          have x1 := kept_cell hb o1
          have x2 := kept_cell hb o2
          have x3 := kept_cell hb o3
          have x4 := kept_cell hb o4
          have x5 := kept_cell hb o5
          have zz0 := Nat.lt_of_lt_of_le z0 hb.size
          have zz1 := Nat.lt_of_lt_of_le z1 hb.size
          have zz2 := Nat.lt_of_lt_of_le z2 hb.size
          go_wp2
          exact ⟨rfl, rfl, Below.refl _ _, _, rfl, rfl, (fun h => absurd h (by decide))⟩
        · intro vals x hb hf
          simp only [fillS, List.getD_cons_succ, List.getD_cons_zero, Act.put, List.setIfInBounds_toArray, List.set_cons_zero, List.set_cons_succ]
          have h0 : vals 0 = cavV c := hf.1
          rw [h0]
          clear h0
          have f3 : (IsV (.int .i64 hH)) (vals 3) x := hf.2.1
          have h5 : vals 5 = .int .i64 p.t := hf.2.2.1
          rw [h5]
          clear h5
          have h7 : vals 7 = ptV l := hf.2.2.2.1
          rw [h7]
          clear h7
          clear hf
          have w0 := kept_cell hb c0
          have w1 := kept_cell hb c1
          have w2 := kept_cell hb c2
          have w3 := kept_cell hb c3
          have w4 := kept_cell hb c4
          have w5 := kept_cell hb c5
          have w6 := kept_cell hb c6
          have w7 := kept_cell hb c7
          have w8 := kept_cell hb c8
          have w9 := kept_cell hb c9
          have w10 := kept_cell hb c10
          have v0 := kept_cell hb q0
          have v1 := kept_cell hb q1
          have v2 := kept_cell hb q2
          have v3 := kept_cell hb q3
          have x1 := kept_cell hb o1
          have x2 := kept_cell hb o2
          have x3 := kept_cell hb o3
          have x4 := kept_cell hb o4
          have x5 := kept_cell hb o5
          have zz0 := Nat.lt_of_lt_of_le z0 hb.size
          have zz1 := Nat.lt_of_lt_of_le z1 hb.size
          have zz2 := Nat.lt_of_lt_of_le z2 hb.size
          rw [show vals 3 = .int .i64 hH from f3]
          go_wp2_with (go_at_call 40; (with_reducible refine Calls.mono (kW.out _) ?_); rintro e y ⟨rfl, hB⟩)
          exact ⟨rfl, rfl, hB, _, rfl, rfl, (fun h => absurd h (by decide))⟩
      intro vals x hb hf hp
      have hrange : List.range 9 = [0, 1, 2, 3, 4, 5, 6, 7, 8] := by rfl
      rw [hrange]
      simp only [fillS, List.getD_cons_succ, List.getD_cons_zero, Act.put, List.setIfInBounds_toArray, List.set_cons_zero, List.set_cons_succ]
      have h0 : vals 0 = cavV c := hf 0 (by omega)
      have h1 : vals 1 = cavV c := hf 1 (by omega)
      have h2 : vals 2 = ptV p := hf 2 (by omega)
      have f3 : (IsV (.int .i64 hH)) (vals 3) x := hf 3 (by omega)
      have h4 : vals 4 = .pointer (some ⟨w.heap.size + 1, 2, none⟩) := hf 4 (by omega)
      have h5 : vals 5 = .int .i64 p.t := hf 5 (by omega)
      have h6 : vals 6 = .pointer (some ⟨w.heap.size + 2, 1, none⟩) := hf 6 (by omega)
      have h7 : vals 7 = ptV l := hf 7 (by omega)
      have f8 : (IsV (.int .i64 ww)) (vals 8) x := hf 8 (by omega)
      rw [h0, h1, h2, h4, h5, h6, h7]
      clear h0 h1 h2 h4 h5 h6 h7 hf hp hrange
      simp only [List.drop_succ_cons, List.drop_zero]
      rw [show vals 3 = .int .i64 hH from f3, show vals 8 = .int .i64 ww from f8]
      have hX := hst0.out.mono hb
      obtain ⟨t0, t1, t2, t3⟩ := rc4 hX.p
      obtain ⟨r0, r1, r2, r3⟩ := rf4 hX.p
      have y1 := (Array.getElem?_eq_some_iff.1 hX.p).1
      have hE2x := Lib.hid (kept_block hb hE2.out)
      have hXh := Lib.hid hX
      clear f3 f8 kH kW c0 c1 c2 c3 c4 c5 c6 c7 c8 c9 c10 q0 q1 q2 q3 o0 o1 o2 o3 o4 o5 o6 o7 o8 o9 z0 z1 z2 hX
      go_wp2_with fail
      refine OnlyN.mk ?_
      clear t0 t1 t2 t3 r0 r1 r2 r3 y1
      have hY : OneSt w ⟨p.g, p.y, ww, p.w⟩ zPt (x.setCell ⟨w.heap.size + 1, 2, none⟩ (.int .i64 ww)) := hXh.out.setp rfl
      have hE2y := (Below.heap_setCell x ⟨w.heap.size + 1, 2, none⟩ (.int .i64 ww) _ (show w.heap.size + 2 ≠ w.heap.size + 1 by omega)).trans hE2x.out
      generalize x.setCell ⟨w.heap.size + 1, 2, none⟩ (.int .i64 ww) = Y at *
      obtain ⟨t0, t1, t2, t3⟩ := rc4 hY.p
      obtain ⟨r0, r1, r2, r3⟩ := rf4 hY.p
      obtain ⟨o0, o1, o2, o3, o4, o5, o6, o7, o8, o9⟩ := rc10 hE2y
      have y1 := (Array.getElem?_eq_some_iff.1 hY.p).1
      have y2 := (Array.getElem?_eq_some_iff.1 hE2y).1
      have hYh := Lib.hid hY
      clear hY hE2y hE2x hXh hb
      go_wp2_with fail
      go_region
      clear t0 t1 t2 t3 r0 r1 r2 r3 o0 o1 o2 o3 o4 o5 o6 o7 o8 o9 y1 y2
      go_wp2_with fail
      go_meet
      rw [hres.out]
      exact Lib.hid ⟨(((hYh.out.setp (X' := ⟨p.g + l.g, p.y, ww, p.w⟩) rfl).setp (X' := ⟨p.g + l.g, p.y + l.y, ww, p.w⟩) rfl).setp (X' := ⟨p.g + l.g, p.y + l.y, ww, p.w + l.w⟩) rfl).drew, rfl⟩
    | wit m hm hle =>
      dsimp only at o0 o1 o2 o3 o4 o5 o6 o7 o8 o9
      have n1 : 0 ≤ Gas.part m p.y (p.g + p.y) := part_nn hm.1 (by omega) (by omega)
      have n2 : 0 ≤ Gas.part m p.w (p.g + p.y) := part_nn hm.1 (by omega) (by omega)
      have k1 := Lib.hid (fun w => (refPart m p.y (p.g + p.y) w (by have := bd_mul (A := 2000000) (B := 1000000000) hm (show 0 ≤ p.y ∧ p.y ≤ 1000000000 by omega); omega) (by omega)).mono fun e w' hq => (⟨hq.1, hq.2 ▸ Below.refl _ _⟩ : _ ∧ Below w.heap.size w w'))
      have k2 := Lib.hid (fun w => (refPart m p.w (p.g + p.y) w (by have := bd_mul (A := 2000000) (B := 1000000000) hm (show 0 ≤ p.w ∧ p.w ≤ 1000000000 by omega); omega) (by omega)).mono fun e w' hq => (⟨hq.1, hq.2 ▸ Below.refl _ _⟩ : _ ∧ Below w.heap.size w w'))
      have u1 : Gas.part m p.y (p.g + p.y) ≤ p.y := part_le_n hm.1 (by omega) (by omega)
      have u2 : Gas.part m p.w (p.g + p.y) ≤ p.w := part_le_n hm.1 (by omega) (by omega)
      have hlk := left_pt hp hm.1 hle
      have k3 := hlk.g; have k4 := hlk.y; have k5 := hlk.w
      simp only [left] at k3 k4 k5
      clear hlk
      have hz : p.g + p.y ≤ 0 → m ≤ p.g + p.y → m - Gas.part m p.y (p.g + p.y) = 0 := fun hq h2 => by
        have hm0 : m = 0 := by omega
        rw [hm0, part_zero]; rfl
      have hres : Hid (left p m = ⟨p.g - (m - Gas.part m p.y (p.g + p.y)), p.y - Gas.part m p.y (p.g + p.y), p.t, p.w - Gas.part m p.w (p.g + p.y)⟩) := Lib.hid rfl
      have hrq : Hid (out p m = ⟨m - Gas.part m p.y (p.g + p.y), Gas.part m p.y (p.g + p.y), 0, Gas.part m p.w (p.g + p.y)⟩) := Lib.hid rfl
      generalize hgh : Gas.part m p.y (p.g + p.y) = hq at *
      replace hgh := Lib.hid hgh
      generalize hgp : Gas.part m p.w (p.g + p.y) = pw at *
      replace hgp := Lib.hid hgp
      go_wp2_with fail
      refine plain_region (by kernel_rfl) (any_region_locN 13 129 [] [68, 69, 70, 71, 72, 73, 74, 75, 76, 77, 78, 79, 80] [[], [0], [], [2], [], [1, 3, 4], [], [6], [], [8], [], [7, 9, 10], []] [IsV (.pointer (some ⟨w.heap.size + 2, 5, none⟩)), IsV (.int .i64 m), IsV (.pointer (some ⟨w.heap.size + 1, 1, none⟩)), IsV (.int .i64 p.y), IsV (.int .i64 (p.g + p.y)), IsV (.int .i64 hq), IsV (.pointer (some ⟨w.heap.size + 2, 5, none⟩)), IsV (.int .i64 m), IsV (.pointer (some ⟨w.heap.size + 1, 3, none⟩)), IsV (.int .i64 p.w), IsV (.int .i64 (p.g + p.y)), IsV (.int .i64 pw), IsV (.pointer (some ⟨w.heap.size + 5, 1, none⟩))] [] (by kernel_rfl) (by kernel_rfl) (by kernel_rfl) (by kernel_rfl) (by kernel_rfl) rfl OnlyN.panic ?_ ?_ ?_ (fun j hj => nomatch hj) ?_)
      · exact List.forall_mem_cons.2 ⟨pers_v _, List.forall_mem_cons.2 ⟨pers_v _, List.forall_mem_cons.2 ⟨pers_v _, List.forall_mem_cons.2 ⟨pers_v _, List.forall_mem_cons.2 ⟨pers_v _, List.forall_mem_cons.2 ⟨pers_v _, List.forall_mem_cons.2 ⟨pers_v _, List.forall_mem_cons.2 ⟨pers_v _, List.forall_mem_cons.2 ⟨pers_v _, List.forall_mem_cons.2 ⟨pers_v _, List.forall_mem_cons.2 ⟨pers_v _, List.forall_mem_cons.2 ⟨pers_v _, List.forall_mem_cons.2 ⟨pers_v _, fun f h => nomatch h⟩⟩⟩⟩⟩⟩⟩⟩⟩⟩⟩⟩⟩
      · intro k hk; cases hk
      · refine ⟨?_, ?_, ?_, ?_, ?_, ?_, ?_, ?_, ?_, ?_, ?_, ?_, ?_, trivial⟩
        · intro vals x hb hf
          simp only [fillS, List.getD_cons_succ, List.getD_cons_zero, Act.put, List.setIfInBounds_toArray, List.set_cons_zero, List.set_cons_succ]
          clear hf
          have v0 := kept_cell hb q0
          have v1 := kept_cell hb q1
          have v2 := kept_cell hb q2
          have v3 := kept_cell hb q3
          have x5 := kept_cell hb o5
          have zz1 := Nat.lt_of_lt_of_le z1 hb.size
          have zz2 := Nat.lt_of_lt_of_le z2 hb.size
          have zz5 := Nat.lt_of_lt_of_le (show w.heap.size + 5 < W.heap.size by have := hsz.out; omega) hb.size
          go_wp2
          exact ⟨rfl, rfl, Below.refl _ _, _, rfl, rfl, (fun h => absurd h (by decide))⟩
        · intro vals x hb hf
          simp only [fillS, List.getD_cons_succ, List.getD_cons_zero, Act.put, List.setIfInBounds_toArray, List.set_cons_zero, List.set_cons_succ]
          have h0 : vals 0 = .pointer (some ⟨w.heap.size + 2, 5, none⟩) := hf.1
          rw [h0]
          clear h0
          clear hf
          have v0 := kept_cell hb q0
          have v1 := kept_cell hb q1
          have v2 := kept_cell hb q2
          have v3 := kept_cell hb q3
          have x5 := kept_cell hb o5
          have zz1 := Nat.lt_of_lt_of_le z1 hb.size
          have zz2 := Nat.lt_of_lt_of_le z2 hb.size
          have zz5 := Nat.lt_of_lt_of_le (show w.heap.size + 5 < W.heap.size by have := hsz.out; omega) hb.size
          go_wp2
          exact ⟨rfl, rfl, Below.refl _ _, _, rfl, rfl, (fun h => absurd h (by decide))⟩
        · intro vals x hb hf
          simp only [fillS, List.getD_cons_succ, List.getD_cons_zero, Act.put, List.setIfInBounds_toArray, List.set_cons_zero, List.set_cons_succ]
          clear hf
          have v0 := kept_cell hb q0
          have v1 := kept_cell hb q1
          have v2 := kept_cell hb q2
          have v3 := kept_cell hb q3
          have x5 := kept_cell hb o5
          have zz1 := Nat.lt_of_lt_of_le z1 hb.size
          have zz2 := Nat.lt_of_lt_of_le z2 hb.size
          have zz5 := Nat.lt_of_lt_of_le (show w.heap.size + 5 < W.heap.size by have := hsz.out; omega) hb.size
          go_wp2
          exact ⟨rfl, rfl, Below.refl _ _, _, rfl, rfl, (fun h => absurd h (by decide))⟩
        · intro vals x hb hf
          simp only [fillS, List.getD_cons_succ, List.getD_cons_zero, Act.put, List.setIfInBounds_toArray, List.set_cons_zero, List.set_cons_succ]
          have h2 : vals 2 = .pointer (some ⟨w.heap.size + 1, 1, none⟩) := hf.1
          rw [h2]
          clear h2
          clear hf
          have v0 := kept_cell hb q0
          have v1 := kept_cell hb q1
          have v2 := kept_cell hb q2
          have v3 := kept_cell hb q3
          have x5 := kept_cell hb o5
          have zz1 := Nat.lt_of_lt_of_le z1 hb.size
          have zz2 := Nat.lt_of_lt_of_le z2 hb.size
          have zz5 := Nat.lt_of_lt_of_le (show w.heap.size + 5 < W.heap.size by have := hsz.out; omega) hb.size
          go_wp2
          exact ⟨rfl, rfl, Below.refl _ _, _, rfl, rfl, (fun h => absurd h (by decide))⟩
        · intro vals x hb hf
          simp only [fillS, List.getD_cons_succ, List.getD_cons_zero, Act.put, List.setIfInBounds_toArray, List.set_cons_zero, List.set_cons_succ]
          clear hf
          have v0 := kept_cell hb q0
          have v1 := kept_cell hb q1
          have v2 := kept_cell hb q2
          have v3 := kept_cell hb q3
          have x5 := kept_cell hb o5
          have zz1 := Nat.lt_of_lt_of_le z1 hb.size
          have zz2 := Nat.lt_of_lt_of_le z2 hb.size
          have zz5 := Nat.lt_of_lt_of_le (show w.heap.size + 5 < W.heap.size by have := hsz.out; omega) hb.size
          go_wp2
          exact ⟨rfl, rfl, Below.refl _ _, _, rfl, rfl, (fun h => absurd h (by decide))⟩
        · intro vals x hb hf
          simp only [fillS, List.getD_cons_succ, List.getD_cons_zero, Act.put, List.setIfInBounds_toArray, List.set_cons_zero, List.set_cons_succ]
          have h1 : vals 1 = .int .i64 m := hf.1
          rw [h1]
          clear h1
          have h3 : vals 3 = .int .i64 p.y := hf.2.1
          rw [h3]
          clear h3
          have h4 : vals 4 = .int .i64 (p.g + p.y) := hf.2.2.1
          rw [h4]
          clear h4
          clear hf
          have v0 := kept_cell hb q0
          have v1 := kept_cell hb q1
          have v2 := kept_cell hb q2
          have v3 := kept_cell hb q3
          have x5 := kept_cell hb o5
          have zz1 := Nat.lt_of_lt_of_le z1 hb.size
          have zz2 := Nat.lt_of_lt_of_le z2 hb.size
          have zz5 := Nat.lt_of_lt_of_le (show w.heap.size + 5 < W.heap.size by have := hsz.out; omega) hb.size
          go_wp2_with (go_at_call 42; (with_reducible refine Calls.mono (k1.out _) ?_); rintro e y ⟨rfl, hB⟩)
          exact ⟨rfl, rfl, hB, _, rfl, rfl, (fun h => absurd h (by decide))⟩
        · intro vals x hb hf
          simp only [fillS, List.getD_cons_succ, List.getD_cons_zero, Act.put, List.setIfInBounds_toArray, List.set_cons_zero, List.set_cons_succ]
          clear hf
          have v0 := kept_cell hb q0
          have v1 := kept_cell hb q1
          have v2 := kept_cell hb q2
          have v3 := kept_cell hb q3
          have x5 := kept_cell hb o5
          have zz1 := Nat.lt_of_lt_of_le z1 hb.size
          have zz2 := Nat.lt_of_lt_of_le z2 hb.size
          have zz5 := Nat.lt_of_lt_of_le (show w.heap.size + 5 < W.heap.size by have := hsz.out; omega) hb.size
          go_wp2
          exact ⟨rfl, rfl, Below.refl _ _, _, rfl, rfl, (fun h => absurd h (by decide))⟩
        · intro vals x hb hf
          simp only [fillS, List.getD_cons_succ, List.getD_cons_zero, Act.put, List.setIfInBounds_toArray, List.set_cons_zero, List.set_cons_succ]
          have h6 : vals 6 = .pointer (some ⟨w.heap.size + 2, 5, none⟩) := hf.1
          rw [h6]
          clear h6
          clear hf
          have v0 := kept_cell hb q0
          have v1 := kept_cell hb q1
          have v2 := kept_cell hb q2
          have v3 := kept_cell hb q3
          have x5 := kept_cell hb o5
          have zz1 := Nat.lt_of_lt_of_le z1 hb.size
          have zz2 := Nat.lt_of_lt_of_le z2 hb.size
          have zz5 := Nat.lt_of_lt_of_le (show w.heap.size + 5 < W.heap.size by have := hsz.out; omega) hb.size
          go_wp2
          exact ⟨rfl, rfl, Below.refl _ _, _, rfl, rfl, (fun h => absurd h (by decide))⟩
        · intro vals x hb hf
          simp only [fillS, List.getD_cons_succ, List.getD_cons_zero, Act.put, List.setIfInBounds_toArray, List.set_cons_zero, List.set_cons_succ]
          clear hf
          have v0 := kept_cell hb q0
          have v1 := kept_cell hb q1
          have v2 := kept_cell hb q2
          have v3 := kept_cell hb q3
          have x5 := kept_cell hb o5
          have zz1 := Nat.lt_of_lt_of_le z1 hb.size
          have zz2 := Nat.lt_of_lt_of_le z2 hb.size
          have zz5 := Nat.lt_of_lt_of_le (show w.heap.size + 5 < W.heap.size by have := hsz.out; omega) hb.size
          go_wp2
          exact ⟨rfl, rfl, Below.refl _ _, _, rfl, rfl, (fun h => absurd h (by decide))⟩
        · intro vals x hb hf
          simp only [fillS, List.getD_cons_succ, List.getD_cons_zero, Act.put, List.setIfInBounds_toArray, List.set_cons_zero, List.set_cons_succ]
          have h8 : vals 8 = .pointer (some ⟨w.heap.size + 1, 3, none⟩) := hf.1
          rw [h8]
          clear h8
          clear hf
          have v0 := kept_cell hb q0
          have v1 := kept_cell hb q1
          have v2 := kept_cell hb q2
          have v3 := kept_cell hb q3
          have x5 := kept_cell hb o5
          have zz1 := Nat.lt_of_lt_of_le z1 hb.size
          have zz2 := Nat.lt_of_lt_of_le z2 hb.size
          have zz5 := Nat.lt_of_lt_of_le (show w.heap.size + 5 < W.heap.size by have := hsz.out; omega) hb.size
          go_wp2
          exact ⟨rfl, rfl, Below.refl _ _, _, rfl, rfl, (fun h => absurd h (by decide))⟩
        · intro vals x hb hf
          simp only [fillS, List.getD_cons_succ, List.getD_cons_zero, Act.put, List.setIfInBounds_toArray, List.set_cons_zero, List.set_cons_succ]
          clear hf
          have v0 := kept_cell hb q0
          have v1 := kept_cell hb q1
          have v2 := kept_cell hb q2
          have v3 := kept_cell hb q3
          have x5 := kept_cell hb o5
          have zz1 := Nat.lt_of_lt_of_le z1 hb.size
          have zz2 := Nat.lt_of_lt_of_le z2 hb.size
          have zz5 := Nat.lt_of_lt_of_le (show w.heap.size + 5 < W.heap.size by have := hsz.out; omega) hb.size
          go_wp2
          exact ⟨rfl, rfl, Below.refl _ _, _, rfl, rfl, (fun h => absurd h (by decide))⟩
        · intro vals x hb hf
          simp only [fillS, List.getD_cons_succ, List.getD_cons_zero, Act.put, List.setIfInBounds_toArray, List.set_cons_zero, List.set_cons_succ]
          have h7 : vals 7 = .int .i64 m := hf.1
          rw [h7]
          clear h7
          have h9 : vals 9 = .int .i64 p.w := hf.2.1
          rw [h9]
          clear h9
          have h10 : vals 10 = .int .i64 (p.g + p.y) := hf.2.2.1
          rw [h10]
          clear h10
          clear hf
          have v0 := kept_cell hb q0
          have v1 := kept_cell hb q1
          have v2 := kept_cell hb q2
          have v3 := kept_cell hb q3
          have x5 := kept_cell hb o5
          have zz1 := Nat.lt_of_lt_of_le z1 hb.size
          have zz2 := Nat.lt_of_lt_of_le z2 hb.size
          have zz5 := Nat.lt_of_lt_of_le (show w.heap.size + 5 < W.heap.size by have := hsz.out; omega) hb.size
          go_wp2_with (go_at_call 42; (with_reducible refine Calls.mono (k2.out _) ?_); rintro e y ⟨rfl, hB⟩)
          exact ⟨rfl, rfl, hB, _, rfl, rfl, (fun h => absurd h (by decide))⟩
        · intro vals x hb hf
          simp only [fillS, List.getD_cons_succ, List.getD_cons_zero, Act.put, List.setIfInBounds_toArray, List.set_cons_zero, List.set_cons_succ]
          clear hf
          have v0 := kept_cell hb q0
          have v1 := kept_cell hb q1
          have v2 := kept_cell hb q2
          have v3 := kept_cell hb q3
          have x5 := kept_cell hb o5
          have zz1 := Nat.lt_of_lt_of_le z1 hb.size
          have zz2 := Nat.lt_of_lt_of_le z2 hb.size
          have zz5 := Nat.lt_of_lt_of_le (show w.heap.size + 5 < W.heap.size by have := hsz.out; omega) hb.size
          go_wp2
          exact ⟨rfl, rfl, Below.refl _ _, _, rfl, rfl, (fun h => absurd h (by decide))⟩
      intro vals x hb hf hp
      have hrange : List.range 13 = [0, 1, 2, 3, 4, 5, 6, 7, 8, 9, 10, 11, 12] := by rfl
      rw [hrange]
      simp only [fillS, List.getD_cons_succ, List.getD_cons_zero, Act.put, List.setIfInBounds_toArray, List.set_cons_zero, List.set_cons_succ]
      have h0 : vals 0 = .pointer (some ⟨w.heap.size + 2, 5, none⟩) := hf 0 (by omega)
      have h1 : vals 1 = .int .i64 m := hf 1 (by omega)
      have h2 : vals 2 = .pointer (some ⟨w.heap.size + 1, 1, none⟩) := hf 2 (by omega)
      have h3 : vals 3 = .int .i64 p.y := hf 3 (by omega)
      have h4 : vals 4 = .int .i64 (p.g + p.y) := hf 4 (by omega)
      have f5 : (IsV (.int .i64 hq)) (vals 5) x := hf 5 (by omega)
      have h6 : vals 6 = .pointer (some ⟨w.heap.size + 2, 5, none⟩) := hf 6 (by omega)
      have h7 : vals 7 = .int .i64 m := hf 7 (by omega)
      have h8 : vals 8 = .pointer (some ⟨w.heap.size + 1, 3, none⟩) := hf 8 (by omega)
      have h9 : vals 9 = .int .i64 p.w := hf 9 (by omega)
      have h10 : vals 10 = .int .i64 (p.g + p.y) := hf 10 (by omega)
      have f11 : (IsV (.int .i64 pw)) (vals 11) x := hf 11 (by omega)
      have h12 : vals 12 = .pointer (some ⟨w.heap.size + 5, 1, none⟩) := hf 12 (by omega)
      rw [h0, h1, h2, h3, h4, h6, h7, h8, h9, h10, h12]
      clear h0 h1 h2 h3 h4 h6 h7 h8 h9 h10 h12 hf hp hrange
      simp only [List.drop_succ_cons, List.drop_zero]
      rw [show vals 5 = .int .i64 hq from f5, show vals 11 = .int .i64 pw from f11]
      have hX := hst0.out.mono hb
      obtain ⟨t0, t1, t2, t3⟩ := rc4 hX.u
      obtain ⟨r0, r1, r2, r3⟩ := rf4 hX.u
      have y1 := (Array.getElem?_eq_some_iff.1 hX.u).1
      have hE2x := Lib.hid (kept_block hb hE2.out)
      have hXh := Lib.hid hX
      clear f5 f11 k1 k2 c0 c1 c2 c3 c4 c5 c6 c7 c8 c9 c10 q0 q1 q2 q3 o0 o1 o2 o3 o4 o5 o6 o7 o8 o9 z0 z1 z2 hX
      go_wp2_with fail
      refine OnlyN.mk ?_
      clear t0 t1 t2 t3 r0 r1 r2 r3 y1
      have hY : OneSt w p ⟨0, hq, 0, pw⟩ ((x.setCell ⟨w.heap.size + 5, 1, none⟩ (.int .i64 hq)).setCell ⟨w.heap.size + 5, 3, none⟩ (.int .i64 pw)) := (hXh.out.setu (G' := ⟨0, hq, 0, 0⟩) rfl).setu (G' := ⟨0, hq, 0, pw⟩) rfl
      have hE2y : ((x.setCell ⟨w.heap.size + 5, 1, none⟩ (.int .i64 hq)).setCell ⟨w.heap.size + 5, 3, none⟩ (.int .i64 pw)).heap[w.heap.size + 2]? = _ := (Below.heap_setCell _ _ _ _ (by simp)).trans ((Below.heap_setCell _ _ _ _ (by simp)).trans hE2x.out)
      generalize (x.setCell ⟨w.heap.size + 5, 1, none⟩ (.int .i64 hq)).setCell ⟨w.heap.size + 5, 3, none⟩ (.int .i64 pw) = Y at *
      clear hE2x hXh hb
      obtain ⟨-, -, -, -, -, o5, -, -, -, -⟩ := rc10 hE2y
      obtain ⟨t0, t1, t2, t3⟩ := rc4 hY.u
      obtain ⟨r0, r1, r2, r3⟩ := rf4 hY.u
      have y1 := (Array.getElem?_eq_some_iff.1 hY.u).1
      have y2 := (Array.getElem?_eq_some_iff.1 hE2y).1
      have hYh := Lib.hid hY
      clear hY hE2y
      have hli : ¬ p.g + p.y < m := by omega
      have hld : decide (p.g + p.y < m) = false := by simp; omega
      by_cases hall : 0 < p.g + p.y
      · have hda : decide (0 < p.g + p.y) = true := decide_eq_true hall
        go_wp2_with fail
        have hZ := hYh.out.setu (i := 0) (v := .int .i64 (m - hq)) (G' := ⟨m - hq, hq, 0, pw⟩) rfl
        generalize Y.setCell ⟨w.heap.size + 5, 0, none⟩ (.int .i64 (m - hq)) = Z at *
        clear t0 t1 t2 t3 r0 r1 r2 r3 y1 y2 o5 hYh
        obtain ⟨t0, t1, t2, t3⟩ := rc4 hZ.p
        obtain ⟨r0, r1, r2, r3⟩ := rf4 hZ.p
        obtain ⟨s0, s1, s2, s3⟩ := rc4 hZ.u
        have y1 := (Array.getElem?_eq_some_iff.1 hZ.p).1
        have y2 := (Array.getElem?_eq_some_iff.1 hZ.u).1
        have hZh := Lib.hid hZ
        clear hZ
        go_region
        clear t0 t1 t2 t3 r0 r1 r2 r3 s0 s1 s2 s3 y1 y2
        go_wp2_with fail
        go_meet
        rw [hres.out, hrq.out]
        refine Lib.hid ⟨(((hZh.out.setp (X' := ⟨p.g - (m - hq), p.y, p.t, p.w⟩) rfl).setp (X' := ⟨p.g - (m - hq), p.y - hq, p.t, p.w⟩) rfl).setp (X' := ⟨p.g - (m - hq), p.y - hq, p.t, p.w - pw⟩) rfl).drew, ?_⟩
        simp only [Bool.and_eq_true, decide_eq_true_eq]; omega
      · have hda : decide (0 < p.g + p.y) = false := decide_eq_false hall
        have hZ : OneSt w p ⟨m - hq, hq, 0, pw⟩ Y := by rw [hz (by omega) hle]; exact hYh.out
        go_wp2_with fail
        generalize Y = Z at *
        clear t0 t1 t2 t3 r0 r1 r2 r3 y1 y2 o5 hYh
        obtain ⟨t0, t1, t2, t3⟩ := rc4 hZ.p
        obtain ⟨r0, r1, r2, r3⟩ := rf4 hZ.p
        obtain ⟨s0, s1, s2, s3⟩ := rc4 hZ.u
        have y1 := (Array.getElem?_eq_some_iff.1 hZ.p).1
        have y2 := (Array.getElem?_eq_some_iff.1 hZ.u).1
        have hZh := Lib.hid hZ
        clear hZ
        go_region
        clear t0 t1 t2 t3 r0 r1 r2 r3 s0 s1 s2 s3 y1 y2
        go_wp2_with fail
        go_meet
        rw [hres.out, hrq.out]
        have hm0 := hz (by omega) hle
        have hZ2 := hZh.out
        rw [hm0] at hZ2
        rw [hm0, Int.sub_zero]
        refine Lib.hid ⟨(((hZ2.setp (X' := ⟨p.g, p.y, p.t, p.w⟩) rfl).setp (X' := ⟨p.g, p.y - hq, p.t, p.w⟩) rfl).setp (X' := ⟨p.g, p.y - hq, p.t, p.w - pw⟩) rfl).drew, ?_⟩
        simp only [Bool.and_eq_true, decide_eq_true_eq]; omega
    | non m hm hle =>
      dsimp only at o0 o1 o2 o3 o4 o5 o6 o7 o8 o9
      have n1 : 0 ≤ Gas.part m p.y (p.g + p.y) := part_nn hm.1 (by omega) (by omega)
      have n2 : 0 ≤ Gas.part m p.w (p.g + p.y) := part_nn hm.1 (by omega) (by omega)
      have k1 := Lib.hid (fun w => (refPart m p.y (p.g + p.y) w (by have := bd_mul (A := 2000000) (B := 1000000000) hm (show 0 ≤ p.y ∧ p.y ≤ 1000000000 by omega); omega) (by omega)).mono fun e w' hq => (⟨hq.1, hq.2 ▸ Below.refl _ _⟩ : _ ∧ Below w.heap.size w w'))
      have k2 := Lib.hid (fun w => (refPart m p.w (p.g + p.y) w (by have := bd_mul (A := 2000000) (B := 1000000000) hm (show 0 ≤ p.w ∧ p.w ≤ 1000000000 by omega); omega) (by omega)).mono fun e w' hq => (⟨hq.1, hq.2 ▸ Below.refl _ _⟩ : _ ∧ Below w.heap.size w w'))
      have u1 := part_up (m := m) (n := p.y) (d := p.g + p.y) hm (by omega) (by omega)
      have u2 := part_up (m := m) (n := p.w) (d := p.g + p.y) hm (by omega) (by omega)
      have hz : p.g + p.y ≤ 0 → m ≤ p.g + p.y → m - Gas.part m p.y (p.g + p.y) = 0 := fun hq h2 => by
        have hm0 : m = 0 := by omega
        rw [hm0, part_zero]; rfl
      generalize hgh : Gas.part m p.y (p.g + p.y) = hq at *
      replace hgh := Lib.hid hgh
      generalize hgp : Gas.part m p.w (p.g + p.y) = pw at *
      replace hgp := Lib.hid hgp
      go_wp2_with fail
      refine plain_region (by kernel_rfl) (any_region_locN 13 129 [] [68, 69, 70, 71, 72, 73, 74, 75, 76, 77, 78, 79, 80] [[], [0], [], [2], [], [1, 3, 4], [], [6], [], [8], [], [7, 9, 10], []] [IsV (.pointer (some ⟨w.heap.size + 2, 5, none⟩)), IsV (.int .i64 m), IsV (.pointer (some ⟨w.heap.size + 1, 1, none⟩)), IsV (.int .i64 p.y), IsV (.int .i64 (p.g + p.y)), IsV (.int .i64 hq), IsV (.pointer (some ⟨w.heap.size + 2, 5, none⟩)), IsV (.int .i64 m), IsV (.pointer (some ⟨w.heap.size + 1, 3, none⟩)), IsV (.int .i64 p.w), IsV (.int .i64 (p.g + p.y)), IsV (.int .i64 pw), IsV (.pointer (some ⟨w.heap.size + 5, 1, none⟩))] [] (by kernel_rfl) (by kernel_rfl) (by kernel_rfl) (by kernel_rfl) (by kernel_rfl) rfl OnlyN.panic ?_ ?_ ?_ (fun j hj => nomatch hj) ?_)
      · exact List.forall_mem_cons.2 ⟨pers_v _, List.forall_mem_cons.2 ⟨pers_v _, List.forall_mem_cons.2 ⟨pers_v _, List.forall_mem_cons.2 ⟨pers_v _, List.forall_mem_cons.2 ⟨pers_v _, List.forall_mem_cons.2 ⟨pers_v _, List.forall_mem_cons.2 ⟨pers_v _, List.forall_mem_cons.2 ⟨pers_v _, List.forall_mem_cons.2 ⟨pers_v _, List.forall_mem_cons.2 ⟨pers_v _, List.forall_mem_cons.2 ⟨pers_v _, List.forall_mem_cons.2 ⟨pers_v _, List.forall_mem_cons.2 ⟨pers_v _, fun f h => nomatch h⟩⟩⟩⟩⟩⟩⟩⟩⟩⟩⟩⟩⟩
      · intro k hk; cases hk
      · refine ⟨?_, ?_, ?_, ?_, ?_, ?_, ?_, ?_, ?_, ?_, ?_, ?_, ?_, trivial⟩
        · intro vals x hb hf
          simp only [fillS, List.getD_cons_succ, List.getD_cons_zero, Act.put, List.setIfInBounds_toArray, List.set_cons_zero, List.set_cons_succ]
          clear hf
          have v0 := kept_cell hb q0
          have v1 := kept_cell hb q1
          have v2 := kept_cell hb q2
          have v3 := kept_cell hb q3
          have x5 := kept_cell hb o5
          have zz1 := Nat.lt_of_lt_of_le z1 hb.size
          have zz2 := Nat.lt_of_lt_of_le z2 hb.size
          have zz5 := Nat.lt_of_lt_of_le (show w.heap.size + 5 < W.heap.size by have := hsz.out; omega) hb.size
          go_wp2
          exact ⟨rfl, rfl, Below.refl _ _, _, rfl, rfl, (fun h => absurd h (by decide))⟩
        · intro vals x hb hf
          simp only [fillS, List.getD_cons_succ, List.getD_cons_zero, Act.put, List.setIfInBounds_toArray, List.set_cons_zero, List.set_cons_succ]
          have h0 : vals 0 = .pointer (some ⟨w.heap.size + 2, 5, none⟩) := hf.1
          rw [h0]
          clear h0
          clear hf
          have v0 := kept_cell hb q0
          have v1 := kept_cell hb q1
          have v2 := kept_cell hb q2
          have v3 := kept_cell hb q3
          have x5 := kept_cell hb o5
          have zz1 := Nat.lt_of_lt_of_le z1 hb.size
          have zz2 := Nat.lt_of_lt_of_le z2 hb.size
          have zz5 := Nat.lt_of_lt_of_le (show w.heap.size + 5 < W.heap.size by have := hsz.out; omega) hb.size
          go_wp2
          exact ⟨rfl, rfl, Below.refl _ _, _, rfl, rfl, (fun h => absurd h (by decide))⟩
        · intro vals x hb hf
          simp only [fillS, List.getD_cons_succ, List.getD_cons_zero, Act.put, List.setIfInBounds_toArray, List.set_cons_zero, List.set_cons_succ]
          clear hf
          have v0 := kept_cell hb q0
          have v1 := kept_cell hb q1
          have v2 := kept_cell hb q2
          have v3 := kept_cell hb q3
          have x5 := kept_cell hb o5
          have zz1 := Nat.lt_of_lt_of_le z1 hb.size
          have zz2 := Nat.lt_of_lt_of_le z2 hb.size
          have zz5 := Nat.lt_of_lt_of_le (show w.heap.size + 5 < W.heap.size by have := hsz.out; omega) hb.size
          go_wp2
          exact ⟨rfl, rfl, Below.refl _ _, _, rfl, rfl, (fun h => absurd h (by decide))⟩
        · intro vals x hb hf
          simp only [fillS, List.getD_cons_succ, List.getD_cons_zero, Act.put, List.setIfInBounds_toArray, List.set_cons_zero, List.set_cons_succ]
          have h2 : vals 2 = .pointer (some ⟨w.heap.size + 1, 1, none⟩) := hf.1
          rw [h2]
          clear h2
          clear hf
          have v0 := kept_cell hb q0
          have v1 := kept_cell hb q1
          have v2 := kept_cell hb q2
          have v3 := kept_cell hb q3
          have x5 := kept_cell hb o5
          have zz1 := Nat.lt_of_lt_of_le z1 hb.size
          have zz2 := Nat.lt_of_lt_of_le z2 hb.size
          have zz5 := Nat.lt_of_lt_of_le (show w.heap.size + 5 < W.heap.size by have := hsz.out; omega) hb.size
          go_wp2
          exact ⟨rfl, rfl, Below.refl _ _, _, rfl, rfl, (fun h => absurd h (by decide))⟩
        · intro vals x hb hf
          simp only [fillS, List.getD_cons_succ, List.getD_cons_zero, Act.put, List.setIfInBounds_toArray, List.set_cons_zero, List.set_cons_succ]
          clear hf
          have v0 := kept_cell hb q0
          have v1 := kept_cell hb q1
          have v2 := kept_cell hb q2
          have v3 := kept_cell hb q3
          have x5 := kept_cell hb o5
          have zz1 := Nat.lt_of_lt_of_le z1 hb.size
          have zz2 := Nat.lt_of_lt_of_le z2 hb.size
          have zz5 := Nat.lt_of_lt_of_le (show w.heap.size + 5 < W.heap.size by have := hsz.out; omega) hb.size
          go_wp2
          exact ⟨rfl, rfl, Below.refl _ _, _, rfl, rfl, (fun h => absurd h (by decide))⟩
        · intro vals x hb hf
          simp only [fillS, List.getD_cons_succ, List.getD_cons_zero, Act.put, List.setIfInBounds_toArray, List.set_cons_zero, List.set_cons_succ]
          have h1 : vals 1 = .int .i64 m := hf.1
          rw [h1]
          clear h1
          have h3 : vals 3 = .int .i64 p.y := hf.2.1
          rw [h3]
          clear h3
          have h4 : vals 4 = .int .i64 (p.g + p.y) := hf.2.2.1
          rw [h4]
          clear h4
          clear hf
          have v0 := kept_cell hb q0
          have v1 := kept_cell hb q1
          have v2 := kept_cell hb q2
          have v3 := kept_cell hb q3
          have x5 := kept_cell hb o5
          have zz1 := Nat.lt_of_lt_of_le z1 hb.size
          have zz2 := Nat.lt_of_lt_of_le z2 hb.size
          have zz5 := Nat.lt_of_lt_of_le (show w.heap.size + 5 < W.heap.size by have := hsz.out; omega) hb.size
          go_wp2_with (go_at_call 42; (with_reducible refine Calls.mono (k1.out _) ?_); rintro e y ⟨rfl, hB⟩)
          exact ⟨rfl, rfl, hB, _, rfl, rfl, (fun h => absurd h (by decide))⟩
        · intro vals x hb hf
          simp only [fillS, List.getD_cons_succ, List.getD_cons_zero, Act.put, List.setIfInBounds_toArray, List.set_cons_zero, List.set_cons_succ]
          clear hf
          have v0 := kept_cell hb q0
          have v1 := kept_cell hb q1
          have v2 := kept_cell hb q2
          have v3 := kept_cell hb q3
          have x5 := kept_cell hb o5
          have zz1 := Nat.lt_of_lt_of_le z1 hb.size
          have zz2 := Nat.lt_of_lt_of_le z2 hb.size
          have zz5 := Nat.lt_of_lt_of_le (show w.heap.size + 5 < W.heap.size by have := hsz.out; omega) hb.size
          go_wp2
          exact ⟨rfl, rfl, Below.refl _ _, _, rfl, rfl, (fun h => absurd h (by decide))⟩
        · intro vals x hb hf
          simp only [fillS, List.getD_cons_succ, List.getD_cons_zero, Act.put, List.setIfInBounds_toArray, List.set_cons_zero, List.set_cons_succ]
          have h6 : vals 6 = .pointer (some ⟨w.heap.size + 2, 5, none⟩) := hf.1
          rw [h6]
          clear h6
          clear hf
          have v0 := kept_cell hb q0
          have v1 := kept_cell hb q1
          have v2 := kept_cell hb q2
          have v3 := kept_cell hb q3
          have x5 := kept_cell hb o5
          have zz1 := Nat.lt_of_lt_of_le z1 hb.size
          have zz2 := Nat.lt_of_lt_of_le z2 hb.size
          have zz5 := Nat.lt_of_lt_of_le (show w.heap.size + 5 < W.heap.size by have := hsz.out; omega) hb.size
          go_wp2
          exact ⟨rfl, rfl, Below.refl _ _, _, rfl, rfl, (fun h => absurd h (by decide))⟩
        · intro vals x hb hf
          simp only [fillS, List.getD_cons_succ, List.getD_cons_zero, Act.put, List.setIfInBounds_toArray, List.set_cons_zero, List.set_cons_succ]
          clear hf
          have v0 := kept_cell hb q0
          have v1 := kept_cell hb q1
          have v2 := kept_cell hb q2
          have v3 := kept_cell hb q3
          have x5 := kept_cell hb o5
          have zz1 := Nat.lt_of_lt_of_le z1 hb.size
          have zz2 := Nat.lt_of_lt_of_le z2 hb.size
          have zz5 := Nat.lt_of_lt_of_le (show w.heap.size + 5 < W.heap.size by have := hsz.out; omega) hb.size
          go_wp2
          exact ⟨rfl, rfl, Below.refl _ _, _, rfl, rfl, (fun h => absurd h (by decide))⟩
        · intro vals x hb hf
          simp only [fillS, List.getD_cons_succ, List.getD_cons_zero, Act.put, List.setIfInBounds_toArray, List.set_cons_zero, List.set_cons_succ]
          have h8 : vals 8 = .pointer (some ⟨w.heap.size + 1, 3, none⟩) := hf.1
          rw [h8]
          clear h8
          clear hf
          have v0 := kept_cell hb q0
          have v1 := kept_cell hb q1
          have v2 := kept_cell hb q2
          have v3 := kept_cell hb q3
          have x5 := kept_cell hb o5
          have zz1 := Nat.lt_of_lt_of_le z1 hb.size
          have zz2 := Nat.lt_of_lt_of_le z2 hb.size
          have zz5 := Nat.lt_of_lt_of_le (show w.heap.size + 5 < W.heap.size by have := hsz.out; omega) hb.size
          go_wp2
          exact ⟨rfl, rfl, Below.refl _ _, _, rfl, rfl, (fun h => absurd h (by decide))⟩
        · intro vals x hb hf
          simp only [fillS, List.getD_cons_succ, List.getD_cons_zero, Act.put, List.setIfInBounds_toArray, List.set_cons_zero, List.set_cons_succ]
          clear hf
          have v0 := kept_cell hb q0
          have v1 := kept_cell hb q1
          have v2 := kept_cell hb q2
          have v3 := kept_cell hb q3
          have x5 := kept_cell hb o5
          have zz1 := Nat.lt_of_lt_of_le z1 hb.size
          have zz2 := Nat.lt_of_lt_of_le z2 hb.size
          have zz5 := Nat.lt_of_lt_of_le (show w.heap.size + 5 < W.heap.size by have := hsz.out; omega) hb.size
          go_wp2
          exact ⟨rfl, rfl, Below.refl _ _, _, rfl, rfl, (fun h => absurd h (by decide))⟩
        · intro vals x hb hf
          simp only [fillS, List.getD_cons_succ, List.getD_cons_zero, Act.put, List.setIfInBounds_toArray, List.set_cons_zero, List.set_cons_succ]
          have h7 : vals 7 = .int .i64 m := hf.1
          rw [h7]
          clear h7
          have h9 : vals 9 = .int .i64 p.w := hf.2.1
          rw [h9]
          clear h9
          have h10 : vals 10 = .int .i64 (p.g + p.y) := hf.2.2.1
          rw [h10]
          clear h10
          clear hf
          have v0 := kept_cell hb q0
          have v1 := kept_cell hb q1
          have v2 := kept_cell hb q2
          have v3 := kept_cell hb q3
          have x5 := kept_cell hb o5
          have zz1 := Nat.lt_of_lt_of_le z1 hb.size
          have zz2 := Nat.lt_of_lt_of_le z2 hb.size
          have zz5 := Nat.lt_of_lt_of_le (show w.heap.size + 5 < W.heap.size by have := hsz.out; omega) hb.size
          go_wp2_with (go_at_call 42; (with_reducible refine Calls.mono (k2.out _) ?_); rintro e y ⟨rfl, hB⟩)
          exact ⟨rfl, rfl, hB, _, rfl, rfl, (fun h => absurd h (by decide))⟩
        · intro vals x hb hf
          simp only [fillS, List.getD_cons_succ, List.getD_cons_zero, Act.put, List.setIfInBounds_toArray, List.set_cons_zero, List.set_cons_succ]
          clear hf
          have v0 := kept_cell hb q0
          have v1 := kept_cell hb q1
          have v2 := kept_cell hb q2
          have v3 := kept_cell hb q3
          have x5 := kept_cell hb o5
          have zz1 := Nat.lt_of_lt_of_le z1 hb.size
          have zz2 := Nat.lt_of_lt_of_le z2 hb.size
          have zz5 := Nat.lt_of_lt_of_le (show w.heap.size + 5 < W.heap.size by have := hsz.out; omega) hb.size
          go_wp2
          exact ⟨rfl, rfl, Below.refl _ _, _, rfl, rfl, (fun h => absurd h (by decide))⟩
      intro vals x hb hf hp
      have hrange : List.range 13 = [0, 1, 2, 3, 4, 5, 6, 7, 8, 9, 10, 11, 12] := by rfl
      rw [hrange]
      simp only [fillS, List.getD_cons_succ, List.getD_cons_zero, Act.put, List.setIfInBounds_toArray, List.set_cons_zero, List.set_cons_succ]
      have h0 : vals 0 = .pointer (some ⟨w.heap.size + 2, 5, none⟩) := hf 0 (by omega)
      have h1 : vals 1 = .int .i64 m := hf 1 (by omega)
      have h2 : vals 2 = .pointer (some ⟨w.heap.size + 1, 1, none⟩) := hf 2 (by omega)
      have h3 : vals 3 = .int .i64 p.y := hf 3 (by omega)
      have h4 : vals 4 = .int .i64 (p.g + p.y) := hf 4 (by omega)
      have f5 : (IsV (.int .i64 hq)) (vals 5) x := hf 5 (by omega)
      have h6 : vals 6 = .pointer (some ⟨w.heap.size + 2, 5, none⟩) := hf 6 (by omega)
      have h7 : vals 7 = .int .i64 m := hf 7 (by omega)
      have h8 : vals 8 = .pointer (some ⟨w.heap.size + 1, 3, none⟩) := hf 8 (by omega)
      have h9 : vals 9 = .int .i64 p.w := hf 9 (by omega)
      have h10 : vals 10 = .int .i64 (p.g + p.y) := hf 10 (by omega)
      have f11 : (IsV (.int .i64 pw)) (vals 11) x := hf 11 (by omega)
      have h12 : vals 12 = .pointer (some ⟨w.heap.size + 5, 1, none⟩) := hf 12 (by omega)
      rw [h0, h1, h2, h3, h4, h6, h7, h8, h9, h10, h12]
      clear h0 h1 h2 h3 h4 h6 h7 h8 h9 h10 h12 hf hp hrange
      simp only [List.drop_succ_cons, List.drop_zero]
      rw [show vals 5 = .int .i64 hq from f5, show vals 11 = .int .i64 pw from f11]
      have hX := hst0.out.mono hb
      obtain ⟨t0, t1, t2, t3⟩ := rc4 hX.u
      obtain ⟨r0, r1, r2, r3⟩ := rf4 hX.u
      have y1 := (Array.getElem?_eq_some_iff.1 hX.u).1
      have hE2x := Lib.hid (kept_block hb hE2.out)
      have hXh := Lib.hid hX
      clear f5 f11 k1 k2 c0 c1 c2 c3 c4 c5 c6 c7 c8 c9 c10 q0 q1 q2 q3 o0 o1 o2 o3 o4 o5 o6 o7 o8 o9 z0 z1 z2 hX
      go_wp2_with fail
      refine OnlyN.mk ?_
      clear t0 t1 t2 t3 r0 r1 r2 r3 y1
      have hY : OneSt w p ⟨0, hq, 0, pw⟩ ((x.setCell ⟨w.heap.size + 5, 1, none⟩ (.int .i64 hq)).setCell ⟨w.heap.size + 5, 3, none⟩ (.int .i64 pw)) := (hXh.out.setu (G' := ⟨0, hq, 0, 0⟩) rfl).setu (G' := ⟨0, hq, 0, pw⟩) rfl
      have hE2y : ((x.setCell ⟨w.heap.size + 5, 1, none⟩ (.int .i64 hq)).setCell ⟨w.heap.size + 5, 3, none⟩ (.int .i64 pw)).heap[w.heap.size + 2]? = _ := (Below.heap_setCell _ _ _ _ (by simp)).trans ((Below.heap_setCell _ _ _ _ (by simp)).trans hE2x.out)
      generalize (x.setCell ⟨w.heap.size + 5, 1, none⟩ (.int .i64 hq)).setCell ⟨w.heap.size + 5, 3, none⟩ (.int .i64 pw) = Y at *
      clear hE2x hXh hb
      obtain ⟨-, -, -, -, -, o5, -, -, -, -⟩ := rc10 hE2y
      obtain ⟨t0, t1, t2, t3⟩ := rc4 hY.u
      obtain ⟨r0, r1, r2, r3⟩ := rf4 hY.u
      have y1 := (Array.getElem?_eq_some_iff.1 hY.u).1
      have y2 := (Array.getElem?_eq_some_iff.1 hE2y).1
      have hYh := Lib.hid hY
      clear hY hE2y
      have hli : p.g + p.y < m := by omega
      have hld : decide (p.g + p.y < m) = true := by simp; omega
      by_cases hall : 0 < p.g + p.y
      · have hda : decide (0 < p.g + p.y) = true := decide_eq_true hall
        go_wp2_with fail
        have hZ := hYh.out.setu (i := 0) (v := .int .i64 (m - hq)) (G' := ⟨m - hq, hq, 0, pw⟩) rfl
        generalize Y.setCell ⟨w.heap.size + 5, 0, none⟩ (.int .i64 (m - hq)) = Z at *
        clear t0 t1 t2 t3 r0 r1 r2 r3 y1 y2 o5 hYh
        obtain ⟨t0, t1, t2, t3⟩ := rc4 hZ.p
        obtain ⟨s0, s1, s2, s3⟩ := rc4 hZ.u
        obtain ⟨d0, d1, d2, d3⟩ := rc4 hZ.rp
        obtain ⟨e0, e1, e2, e3⟩ := rc4 hZ.ro
        obtain ⟨a0, a1, a2, a3⟩ := rf4 hZ.rp
        obtain ⟨b0, b1, b2, b3⟩ := rf4 hZ.ro
        have y1 := (Array.getElem?_eq_some_iff.1 hZ.p).1
        have y2 := (Array.getElem?_eq_some_iff.1 hZ.u).1
        have y3 := (Array.getElem?_eq_some_iff.1 hZ.rp).1
        have y4 := (Array.getElem?_eq_some_iff.1 hZ.ro).1
        have hZh := Lib.hid hZ
        clear hZ
        have u1 : w.heap.size + 3 ≠ w.heap.size + 1 := by omega
        have u2 : w.heap.size + 4 ≠ w.heap.size + 1 := by omega
        have u3 : w.heap.size + 3 ≠ w.heap.size + 5 := by omega
        have u4 : w.heap.size + 4 ≠ w.heap.size + 5 := by omega
        have u5 : w.heap.size + 3 ≠ w.heap.size + 4 := by omega
        have u6 : w.heap.size + 4 ≠ w.heap.size + 3 := by omega
        have hC1 : (fun w' => (w'.cell? ⟨w.heap.size + 1, 0, none⟩ = some (.int .i64 p.g) ∧ w'.cell? ⟨w.heap.size + 1, 1, none⟩ = some (.int .i64 p.y) ∧ w'.cell? ⟨w.heap.size + 1, 2, none⟩ = some (.int .i64 p.t) ∧ w'.cell? ⟨w.heap.size + 1, 3, none⟩ = some (.int .i64 p.w)) ∧ (w'.cell? ⟨w.heap.size + 5, 0, none⟩ = some (.int .i64 (m - hq)) ∧ w'.cell? ⟨w.heap.size + 5, 1, none⟩ = some (.int .i64 hq) ∧ w'.cell? ⟨w.heap.size + 5, 2, none⟩ = some (.int .i64 0) ∧ w'.cell? ⟨w.heap.size + 5, 3, none⟩ = some (.int .i64 pw))) Z.drew := ⟨⟨t0, t1, t2, t3⟩, ⟨s0, s1, s2, s3⟩⟩
        dsimp only at hC1
        refine wp_region_held_drew (S := (fun w' => (w'.cell? ⟨w.heap.size + 1, 0, none⟩ = some (.int .i64 p.g) ∧ w'.cell? ⟨w.heap.size + 1, 1, none⟩ = some (.int .i64 p.y) ∧ w'.cell? ⟨w.heap.size + 1, 2, none⟩ = some (.int .i64 p.t) ∧ w'.cell? ⟨w.heap.size + 1, 3, none⟩ = some (.int .i64 p.w)) ∧ (w'.cell? ⟨w.heap.size + 5, 0, none⟩ = some (.int .i64 (m - hq)) ∧ w'.cell? ⟨w.heap.size + 5, 1, none⟩ = some (.int .i64 hq) ∧ w'.cell? ⟨w.heap.size + 5, 2, none⟩ = some (.int .i64 0) ∧ w'.cell? ⟨w.heap.size + 5, 3, none⟩ = some (.int .i64 pw)))) (by kernel_rfl) ?_ (fun hHeld => ?_)
        · first | ((first | with_reducible exact hC1 | (with_reducible exact hHeld) | (with_reducible exact ⟨⟨far4d hHeld.1.1 u1, far4d hHeld.1.2.1 u1, far4d hHeld.1.2.2.1 u1, far4d hHeld.1.2.2.2 u1⟩, ⟨far4d hHeld.2.1 u3, far4d hHeld.2.2.1 u3, far4d hHeld.2.2.2.1 u3, far4d hHeld.2.2.2.2 u3⟩⟩) | (with_reducible exact ⟨⟨far4d hHeld.1.1 u2, far4d hHeld.1.2.1 u2, far4d hHeld.1.2.2.1 u2, far4d hHeld.1.2.2.2 u2⟩, ⟨far4d hHeld.2.1 u4, far4d hHeld.2.2.1 u4, far4d hHeld.2.2.2.1 u4, far4d hHeld.2.2.2.2 u4⟩⟩))) | (dsimp only; ((first | with_reducible exact hC1 | (with_reducible exact hHeld) | (with_reducible exact ⟨⟨far4d hHeld.1.1 u1, far4d hHeld.1.2.1 u1, far4d hHeld.1.2.2.1 u1, far4d hHeld.1.2.2.2 u1⟩, ⟨far4d hHeld.2.1 u3, far4d hHeld.2.2.1 u3, far4d hHeld.2.2.2.1 u3, far4d hHeld.2.2.2.2 u3⟩⟩) | (with_reducible exact ⟨⟨far4d hHeld.1.1 u2, far4d hHeld.1.2.1 u2, far4d hHeld.1.2.2.1 u2, far4d hHeld.1.2.2.2 u2⟩, ⟨far4d hHeld.2.1 u4, far4d hHeld.2.2.1 u4, far4d hHeld.2.2.2.1 u4, far4d hHeld.2.2.2.2 u4⟩⟩))))
        refine wpAnyH_take (i := 0) (v := ?_) rfl (by kernel_rfl) (by kernel_rfl) (by kernel_rfl) (fun _ _ _ h => h) (Or.inl ⟨by rfl, ?_⟩) (by assumption) ?_
        rotate_left
        · intro w hSw; (try dsimp only at hSw); go_simp; (try with_reducible rfl)
        try simp only [Act.put, List.getElem_toArray, List.getElem_cons_succ, List.getElem_cons_zero, List.setIfInBounds_toArray, List.set_cons_zero, List.set_cons_succ]
        refine wpAnyH_take (i := 1) (v := ?_) rfl (by kernel_rfl) (by kernel_rfl) (by kernel_rfl) (fun _ _ _ h => h) (Or.inl ⟨by rfl, ?_⟩) (by assumption) ?_
        rotate_left
        · intro w hSw; (try dsimp only at hSw); go_simp; (try with_reducible rfl)
        try simp only [Act.put, List.getElem_toArray, List.getElem_cons_succ, List.getElem_cons_zero, List.setIfInBounds_toArray, List.set_cons_zero, List.set_cons_succ]
        refine wpAnyH_ready (rs := [2]) (by kernel_rfl) (by simp) ?_
        refine AllReadyH.cons rfl (fun K hK => ?_) AllReadyH.nil
        go_simp
        refine hK.out _ _ ?_ (fun hNow => ?_)
        · first | ((first | with_reducible exact hC1 | (with_reducible exact hHeld) | (with_reducible exact ⟨⟨far4d hHeld.1.1 u1, far4d hHeld.1.2.1 u1, far4d hHeld.1.2.2.1 u1, far4d hHeld.1.2.2.2 u1⟩, ⟨far4d hHeld.2.1 u3, far4d hHeld.2.2.1 u3, far4d hHeld.2.2.2.1 u3, far4d hHeld.2.2.2.2 u3⟩⟩) | (with_reducible exact ⟨⟨far4d hHeld.1.1 u2, far4d hHeld.1.2.1 u2, far4d hHeld.1.2.2.1 u2, far4d hHeld.1.2.2.2 u2⟩, ⟨far4d hHeld.2.1 u4, far4d hHeld.2.2.1 u4, far4d hHeld.2.2.2.1 u4, far4d hHeld.2.2.2.2 u4⟩⟩))) | (dsimp only; ((first | with_reducible exact hC1 | (with_reducible exact hHeld) | (with_reducible exact ⟨⟨far4d hHeld.1.1 u1, far4d hHeld.1.2.1 u1, far4d hHeld.1.2.2.1 u1, far4d hHeld.1.2.2.2 u1⟩, ⟨far4d hHeld.2.1 u3, far4d hHeld.2.2.1 u3, far4d hHeld.2.2.2.1 u3, far4d hHeld.2.2.2.2 u3⟩⟩) | (with_reducible exact ⟨⟨far4d hHeld.1.1 u2, far4d hHeld.1.2.1 u2, far4d hHeld.1.2.2.1 u2, far4d hHeld.1.2.2.2 u2⟩, ⟨far4d hHeld.2.1 u4, far4d hHeld.2.2.1 u4, far4d hHeld.2.2.2.1 u4, far4d hHeld.2.2.2.2 u4⟩⟩))))
        clear hK K hHeld
        have hHeld := hNow
        clear hNow
        try simp only [Act.put, List.getElem_toArray, List.getElem_cons_succ, List.getElem_cons_zero, List.setIfInBounds_toArray, List.set_cons_zero, List.set_cons_succ]
        refine wpAnyH_ready (rs := [3]) (by kernel_rfl) (by simp) ?_
        refine AllReadyH.cons rfl (fun K hK => ?_) AllReadyH.nil
        go_simp
        refine hK.out _ _ ?_ (fun hNow => ?_)
        · first | ((first | with_reducible exact hC1 | (with_reducible exact hHeld) | (with_reducible exact ⟨⟨far4d hHeld.1.1 u1, far4d hHeld.1.2.1 u1, far4d hHeld.1.2.2.1 u1, far4d hHeld.1.2.2.2 u1⟩, ⟨far4d hHeld.2.1 u3, far4d hHeld.2.2.1 u3, far4d hHeld.2.2.2.1 u3, far4d hHeld.2.2.2.2 u3⟩⟩) | (with_reducible exact ⟨⟨far4d hHeld.1.1 u2, far4d hHeld.1.2.1 u2, far4d hHeld.1.2.2.1 u2, far4d hHeld.1.2.2.2 u2⟩, ⟨far4d hHeld.2.1 u4, far4d hHeld.2.2.1 u4, far4d hHeld.2.2.2.1 u4, far4d hHeld.2.2.2.2 u4⟩⟩))) | (dsimp only; ((first | with_reducible exact hC1 | (with_reducible exact hHeld) | (with_reducible exact ⟨⟨far4d hHeld.1.1 u1, far4d hHeld.1.2.1 u1, far4d hHeld.1.2.2.1 u1, far4d hHeld.1.2.2.2 u1⟩, ⟨far4d hHeld.2.1 u3, far4d hHeld.2.2.1 u3, far4d hHeld.2.2.2.1 u3, far4d hHeld.2.2.2.2 u3⟩⟩) | (with_reducible exact ⟨⟨far4d hHeld.1.1 u2, far4d hHeld.1.2.1 u2, far4d hHeld.1.2.2.1 u2, far4d hHeld.1.2.2.2 u2⟩, ⟨far4d hHeld.2.1 u4, far4d hHeld.2.2.1 u4, far4d hHeld.2.2.2.1 u4, far4d hHeld.2.2.2.2 u4⟩⟩))))
        clear hK K hHeld
        have hHeld := hNow
        clear hNow
        try simp only [Act.put, List.getElem_toArray, List.getElem_cons_succ, List.getElem_cons_zero, List.setIfInBounds_toArray, List.set_cons_zero, List.set_cons_succ]
        refine wpAnyH_ready (rs := [4]) (by kernel_rfl) (by simp) ?_
        refine AllReadyH.cons rfl (fun K hK => ?_) AllReadyH.nil
        go_simp
        refine hK.out _ _ ?_ (fun hNow => ?_)
        · first | ((first | with_reducible exact hC1 | (with_reducible exact hHeld) | (with_reducible exact ⟨⟨far4d hHeld.1.1 u1, far4d hHeld.1.2.1 u1, far4d hHeld.1.2.2.1 u1, far4d hHeld.1.2.2.2 u1⟩, ⟨far4d hHeld.2.1 u3, far4d hHeld.2.2.1 u3, far4d hHeld.2.2.2.1 u3, far4d hHeld.2.2.2.2 u3⟩⟩) | (with_reducible exact ⟨⟨far4d hHeld.1.1 u2, far4d hHeld.1.2.1 u2, far4d hHeld.1.2.2.1 u2, far4d hHeld.1.2.2.2 u2⟩, ⟨far4d hHeld.2.1 u4, far4d hHeld.2.2.1 u4, far4d hHeld.2.2.2.1 u4, far4d hHeld.2.2.2.2 u4⟩⟩))) | (dsimp only; ((first | with_reducible exact hC1 | (with_reducible exact hHeld) | (with_reducible exact ⟨⟨far4d hHeld.1.1 u1, far4d hHeld.1.2.1 u1, far4d hHeld.1.2.2.1 u1, far4d hHeld.1.2.2.2 u1⟩, ⟨far4d hHeld.2.1 u3, far4d hHeld.2.2.1 u3, far4d hHeld.2.2.2.1 u3, far4d hHeld.2.2.2.2 u3⟩⟩) | (with_reducible exact ⟨⟨far4d hHeld.1.1 u2, far4d hHeld.1.2.1 u2, far4d hHeld.1.2.2.1 u2, far4d hHeld.1.2.2.2 u2⟩, ⟨far4d hHeld.2.1 u4, far4d hHeld.2.2.1 u4, far4d hHeld.2.2.2.1 u4, far4d hHeld.2.2.2.2 u4⟩⟩))))
        clear hK K hHeld
        have hHeld := hNow
        clear hNow
        try simp only [Act.put, List.getElem_toArray, List.getElem_cons_succ, List.getElem_cons_zero, List.setIfInBounds_toArray, List.set_cons_zero, List.set_cons_succ]
        refine wpAnyH_done (by kernel_rfl) ?_ _
        go_wp2
        refine bodyPost_ret (v := .tuple #[ptV p, ptV ⟨m - hq, hq, 0, pw⟩, .bool false]) (by simp only [results, Try.results28]; simp [go_sem, d0, d1, d2, d3, e0, e1, e2, e3, a0, a1, a2, a3, b0, b1, b2, b3, u5, u6]) rfl ⟨(by rw [hgh.out, hgp.out]), ?_⟩
        refine Below.drew ?_
        repeat' (first | (with_reducible exact hZh.out.bel) | (refine Below.setCell ?_ (by simp; omega) _))
      · have hda : decide (0 < p.g + p.y) = false := decide_eq_false hall
        have hZ : OneSt w p ⟨0, hq, 0, pw⟩ Y := by exact hYh.out
        go_wp2_with fail
        generalize Y = Z at *
        clear t0 t1 t2 t3 r0 r1 r2 r3 y1 y2 o5 hYh
        obtain ⟨t0, t1, t2, t3⟩ := rc4 hZ.p
        obtain ⟨s0, s1, s2, s3⟩ := rc4 hZ.u
        obtain ⟨d0, d1, d2, d3⟩ := rc4 hZ.rp
        obtain ⟨e0, e1, e2, e3⟩ := rc4 hZ.ro
        obtain ⟨a0, a1, a2, a3⟩ := rf4 hZ.rp
        obtain ⟨b0, b1, b2, b3⟩ := rf4 hZ.ro
        have y1 := (Array.getElem?_eq_some_iff.1 hZ.p).1
        have y2 := (Array.getElem?_eq_some_iff.1 hZ.u).1
        have y3 := (Array.getElem?_eq_some_iff.1 hZ.rp).1
        have y4 := (Array.getElem?_eq_some_iff.1 hZ.ro).1
        have hZh := Lib.hid hZ
        clear hZ
        have u1 : w.heap.size + 3 ≠ w.heap.size + 1 := by omega
        have u2 : w.heap.size + 4 ≠ w.heap.size + 1 := by omega
        have u3 : w.heap.size + 3 ≠ w.heap.size + 5 := by omega
        have u4 : w.heap.size + 4 ≠ w.heap.size + 5 := by omega
        have u5 : w.heap.size + 3 ≠ w.heap.size + 4 := by omega
        have u6 : w.heap.size + 4 ≠ w.heap.size + 3 := by omega
        have hC1 : (fun w' => (w'.cell? ⟨w.heap.size + 1, 0, none⟩ = some (.int .i64 p.g) ∧ w'.cell? ⟨w.heap.size + 1, 1, none⟩ = some (.int .i64 p.y) ∧ w'.cell? ⟨w.heap.size + 1, 2, none⟩ = some (.int .i64 p.t) ∧ w'.cell? ⟨w.heap.size + 1, 3, none⟩ = some (.int .i64 p.w)) ∧ (w'.cell? ⟨w.heap.size + 5, 0, none⟩ = some (.int .i64 0) ∧ w'.cell? ⟨w.heap.size + 5, 1, none⟩ = some (.int .i64 hq) ∧ w'.cell? ⟨w.heap.size + 5, 2, none⟩ = some (.int .i64 0) ∧ w'.cell? ⟨w.heap.size + 5, 3, none⟩ = some (.int .i64 pw))) Z.drew := ⟨⟨t0, t1, t2, t3⟩, ⟨s0, s1, s2, s3⟩⟩
        dsimp only at hC1
        refine wp_region_held_drew (S := (fun w' => (w'.cell? ⟨w.heap.size + 1, 0, none⟩ = some (.int .i64 p.g) ∧ w'.cell? ⟨w.heap.size + 1, 1, none⟩ = some (.int .i64 p.y) ∧ w'.cell? ⟨w.heap.size + 1, 2, none⟩ = some (.int .i64 p.t) ∧ w'.cell? ⟨w.heap.size + 1, 3, none⟩ = some (.int .i64 p.w)) ∧ (w'.cell? ⟨w.heap.size + 5, 0, none⟩ = some (.int .i64 0) ∧ w'.cell? ⟨w.heap.size + 5, 1, none⟩ = some (.int .i64 hq) ∧ w'.cell? ⟨w.heap.size + 5, 2, none⟩ = some (.int .i64 0) ∧ w'.cell? ⟨w.heap.size + 5, 3, none⟩ = some (.int .i64 pw)))) (by kernel_rfl) ?_ (fun hHeld => ?_)
        · first | ((first | with_reducible exact hC1 | (with_reducible exact hHeld) | (with_reducible exact ⟨⟨far4d hHeld.1.1 u1, far4d hHeld.1.2.1 u1, far4d hHeld.1.2.2.1 u1, far4d hHeld.1.2.2.2 u1⟩, ⟨far4d hHeld.2.1 u3, far4d hHeld.2.2.1 u3, far4d hHeld.2.2.2.1 u3, far4d hHeld.2.2.2.2 u3⟩⟩) | (with_reducible exact ⟨⟨far4d hHeld.1.1 u2, far4d hHeld.1.2.1 u2, far4d hHeld.1.2.2.1 u2, far4d hHeld.1.2.2.2 u2⟩, ⟨far4d hHeld.2.1 u4, far4d hHeld.2.2.1 u4, far4d hHeld.2.2.2.1 u4, far4d hHeld.2.2.2.2 u4⟩⟩))) | (dsimp only; ((first | with_reducible exact hC1 | (with_reducible exact hHeld) | (with_reducible exact ⟨⟨far4d hHeld.1.1 u1, far4d hHeld.1.2.1 u1, far4d hHeld.1.2.2.1 u1, far4d hHeld.1.2.2.2 u1⟩, ⟨far4d hHeld.2.1 u3, far4d hHeld.2.2.1 u3, far4d hHeld.2.2.2.1 u3, far4d hHeld.2.2.2.2 u3⟩⟩) | (with_reducible exact ⟨⟨far4d hHeld.1.1 u2, far4d hHeld.1.2.1 u2, far4d hHeld.1.2.2.1 u2, far4d hHeld.1.2.2.2 u2⟩, ⟨far4d hHeld.2.1 u4, far4d hHeld.2.2.1 u4, far4d hHeld.2.2.2.1 u4, far4d hHeld.2.2.2.2 u4⟩⟩))))
        refine wpAnyH_take (i := 0) (v := ?_) rfl (by kernel_rfl) (by kernel_rfl) (by kernel_rfl) (fun _ _ _ h => h) (Or.inl ⟨by rfl, ?_⟩) (by assumption) ?_
        rotate_left
        · intro w hSw; (try dsimp only at hSw); go_simp; (try with_reducible rfl)
        try simp only [Act.put, List.getElem_toArray, List.getElem_cons_succ, List.getElem_cons_zero, List.setIfInBounds_toArray, List.set_cons_zero, List.set_cons_succ]
        refine wpAnyH_take (i := 1) (v := ?_) rfl (by kernel_rfl) (by kernel_rfl) (by kernel_rfl) (fun _ _ _ h => h) (Or.inl ⟨by rfl, ?_⟩) (by assumption) ?_
        rotate_left
        · intro w hSw; (try dsimp only at hSw); go_simp; (try with_reducible rfl)
        try simp only [Act.put, List.getElem_toArray, List.getElem_cons_succ, List.getElem_cons_zero, List.setIfInBounds_toArray, List.set_cons_zero, List.set_cons_succ]
        refine wpAnyH_ready (rs := [2]) (by kernel_rfl) (by simp) ?_
        refine AllReadyH.cons rfl (fun K hK => ?_) AllReadyH.nil
        go_simp
        refine hK.out _ _ ?_ (fun hNow => ?_)
        · first | ((first | with_reducible exact hC1 | (with_reducible exact hHeld) | (with_reducible exact ⟨⟨far4d hHeld.1.1 u1, far4d hHeld.1.2.1 u1, far4d hHeld.1.2.2.1 u1, far4d hHeld.1.2.2.2 u1⟩, ⟨far4d hHeld.2.1 u3, far4d hHeld.2.2.1 u3, far4d hHeld.2.2.2.1 u3, far4d hHeld.2.2.2.2 u3⟩⟩) | (with_reducible exact ⟨⟨far4d hHeld.1.1 u2, far4d hHeld.1.2.1 u2, far4d hHeld.1.2.2.1 u2, far4d hHeld.1.2.2.2 u2⟩, ⟨far4d hHeld.2.1 u4, far4d hHeld.2.2.1 u4, far4d hHeld.2.2.2.1 u4, far4d hHeld.2.2.2.2 u4⟩⟩))) | (dsimp only; ((first | with_reducible exact hC1 | (with_reducible exact hHeld) | (with_reducible exact ⟨⟨far4d hHeld.1.1 u1, far4d hHeld.1.2.1 u1, far4d hHeld.1.2.2.1 u1, far4d hHeld.1.2.2.2 u1⟩, ⟨far4d hHeld.2.1 u3, far4d hHeld.2.2.1 u3, far4d hHeld.2.2.2.1 u3, far4d hHeld.2.2.2.2 u3⟩⟩) | (with_reducible exact ⟨⟨far4d hHeld.1.1 u2, far4d hHeld.1.2.1 u2, far4d hHeld.1.2.2.1 u2, far4d hHeld.1.2.2.2 u2⟩, ⟨far4d hHeld.2.1 u4, far4d hHeld.2.2.1 u4, far4d hHeld.2.2.2.1 u4, far4d hHeld.2.2.2.2 u4⟩⟩))))
        clear hK K hHeld
        have hHeld := hNow
        clear hNow
        try simp only [Act.put, List.getElem_toArray, List.getElem_cons_succ, List.getElem_cons_zero, List.setIfInBounds_toArray, List.set_cons_zero, List.set_cons_succ]
        refine wpAnyH_ready (rs := [3]) (by kernel_rfl) (by simp) ?_
        refine AllReadyH.cons rfl (fun K hK => ?_) AllReadyH.nil
        go_simp
        refine hK.out _ _ ?_ (fun hNow => ?_)
        · first | ((first | with_reducible exact hC1 | (with_reducible exact hHeld) | (with_reducible exact ⟨⟨far4d hHeld.1.1 u1, far4d hHeld.1.2.1 u1, far4d hHeld.1.2.2.1 u1, far4d hHeld.1.2.2.2 u1⟩, ⟨far4d hHeld.2.1 u3, far4d hHeld.2.2.1 u3, far4d hHeld.2.2.2.1 u3, far4d hHeld.2.2.2.2 u3⟩⟩) | (with_reducible exact ⟨⟨far4d hHeld.1.1 u2, far4d hHeld.1.2.1 u2, far4d hHeld.1.2.2.1 u2, far4d hHeld.1.2.2.2 u2⟩, ⟨far4d hHeld.2.1 u4, far4d hHeld.2.2.1 u4, far4d hHeld.2.2.2.1 u4, far4d hHeld.2.2.2.2 u4⟩⟩))) | (dsimp only; ((first | with_reducible exact hC1 | (with_reducible exact hHeld) | (with_reducible exact ⟨⟨far4d hHeld.1.1 u1, far4d hHeld.1.2.1 u1, far4d hHeld.1.2.2.1 u1, far4d hHeld.1.2.2.2 u1⟩, ⟨far4d hHeld.2.1 u3, far4d hHeld.2.2.1 u3, far4d hHeld.2.2.2.1 u3, far4d hHeld.2.2.2.2 u3⟩⟩) | (with_reducible exact ⟨⟨far4d hHeld.1.1 u2, far4d hHeld.1.2.1 u2, far4d hHeld.1.2.2.1 u2, far4d hHeld.1.2.2.2 u2⟩, ⟨far4d hHeld.2.1 u4, far4d hHeld.2.2.1 u4, far4d hHeld.2.2.2.1 u4, far4d hHeld.2.2.2.2 u4⟩⟩))))
        clear hK K hHeld
        have hHeld := hNow
        clear hNow
        try simp only [Act.put, List.getElem_toArray, List.getElem_cons_succ, List.getElem_cons_zero, List.setIfInBounds_toArray, List.set_cons_zero, List.set_cons_succ]
        refine wpAnyH_ready (rs := [4]) (by kernel_rfl) (by simp) ?_
        refine AllReadyH.cons rfl (fun K hK => ?_) AllReadyH.nil
        go_simp
        refine hK.out _ _ ?_ (fun hNow => ?_)
        · first | ((first | with_reducible exact hC1 | (with_reducible exact hHeld) | (with_reducible exact ⟨⟨far4d hHeld.1.1 u1, far4d hHeld.1.2.1 u1, far4d hHeld.1.2.2.1 u1, far4d hHeld.1.2.2.2 u1⟩, ⟨far4d hHeld.2.1 u3, far4d hHeld.2.2.1 u3, far4d hHeld.2.2.2.1 u3, far4d hHeld.2.2.2.2 u3⟩⟩) | (with_reducible exact ⟨⟨far4d hHeld.1.1 u2, far4d hHeld.1.2.1 u2, far4d hHeld.1.2.2.1 u2, far4d hHeld.1.2.2.2 u2⟩, ⟨far4d hHeld.2.1 u4, far4d hHeld.2.2.1 u4, far4d hHeld.2.2.2.1 u4, far4d hHeld.2.2.2.2 u4⟩⟩))) | (dsimp only; ((first | with_reducible exact hC1 | (with_reducible exact hHeld) | (with_reducible exact ⟨⟨far4d hHeld.1.1 u1, far4d hHeld.1.2.1 u1, far4d hHeld.1.2.2.1 u1, far4d hHeld.1.2.2.2 u1⟩, ⟨far4d hHeld.2.1 u3, far4d hHeld.2.2.1 u3, far4d hHeld.2.2.2.1 u3, far4d hHeld.2.2.2.2 u3⟩⟩) | (with_reducible exact ⟨⟨far4d hHeld.1.1 u2, far4d hHeld.1.2.1 u2, far4d hHeld.1.2.2.1 u2, far4d hHeld.1.2.2.2 u2⟩, ⟨far4d hHeld.2.1 u4, far4d hHeld.2.2.1 u4, far4d hHeld.2.2.2.1 u4, far4d hHeld.2.2.2.2 u4⟩⟩))))
        clear hK K hHeld
        have hHeld := hNow
        clear hNow
        try simp only [Act.put, List.getElem_toArray, List.getElem_cons_succ, List.getElem_cons_zero, List.setIfInBounds_toArray, List.set_cons_zero, List.set_cons_succ]
        refine wpAnyH_done (by kernel_rfl) ?_ _
        go_wp2
        refine bodyPost_ret (v := .tuple #[ptV p, ptV ⟨0, hq, 0, pw⟩, .bool false]) (by simp only [results, Try.results28]; simp [go_sem, d0, d1, d2, d3, e0, e1, e2, e3, a0, a1, a2, a3, b0, b1, b2, b3, u5, u6]) rfl ⟨(by rw [hgh.out, hgp.out]), ?_⟩
        refine Below.drew ?_
        repeat' (first | (with_reducible exact hZh.out.bel) | (refine Below.setCell ?_ (by simp; omega) _))
    | rst a b x y =>
      dsimp only at o0 o1 o2 o3 o4 o5 o6 o7 o8 o9 hs hv
      have hs' := hs rfl
      have hv' := hv rfl
      obtain ⟨nr, enr⟩ : ∃ v, near c.rock p.t s = v := ⟨_, rfl⟩
      have kN : Hid (∀ w, Calls Try.prog 43 #[cavV c, .int .i64 p.t, .int .i64 s] w fun e w' => e = .returned (.int .i64 nr) ∧ Below w.heap.size w w') := Lib.hid (fun w => enr ▸ refNear c p.t s w hc (by omega) (by omega))
      have hres : Hid (rest c p s v = ⟨p.g, p.y, nr, p.w + v⟩) := Lib.hid (by unfold rest; rw [enr])
      replace enr := Lib.hid enr
      clear hs hv
      go_wp2_with fail
      refine plain_region (by kernel_rfl) (any_region_locN 9 129 [7, 8] [22, 23, 24, 25, 26, 27, 28, 29, 30] [[], [], [1], [], [0, 2, 3], [], [5], [], [6, 7]] [IsV (cavV c), IsV (.pointer (some ⟨w.heap.size + 1, 2, none⟩)), IsV (.int .i64 p.t), IsV (.int .i64 s), IsV (.int .i64 nr), IsV (.pointer (some ⟨w.heap.size + 1, 3, none⟩)), IsV (.int .i64 p.w), IsV (.int .i64 v), IsV (.int .i64 (p.w + v))] [] (by kernel_rfl) (by kernel_rfl) (by kernel_rfl) (by kernel_rfl) (by kernel_rfl) rfl OnlyN.panic ?_ ?_ ?_ ?_ ?_)
      · exact List.forall_mem_cons.2 ⟨pers_v _, List.forall_mem_cons.2 ⟨pers_v _, List.forall_mem_cons.2 ⟨pers_v _, List.forall_mem_cons.2 ⟨pers_v _, List.forall_mem_cons.2 ⟨pers_v _, List.forall_mem_cons.2 ⟨pers_v _, List.forall_mem_cons.2 ⟨pers_v _, List.forall_mem_cons.2 ⟨pers_v _, List.forall_mem_cons.2 ⟨pers_v _, fun f h => nomatch h⟩⟩⟩⟩⟩⟩⟩⟩⟩
      · intro k hk; cases hk
      · refine ⟨?_, ?_, ?_, ?_, ?_, ?_, ?_, ?_, ?_, trivial⟩
        · intro vals x hb hf
          simp only [fillS, List.getD_cons_succ, List.getD_cons_zero, Act.put, List.setIfInBounds_toArray, List.set_cons_zero, List.set_cons_succ]
          clear hf
          have w0 := kept_cell hb c0
          have w1 := kept_cell hb c1
          have w2 := kept_cell hb c2
          have w3 := kept_cell hb c3
          have w4 := kept_cell hb c4
          have w5 := kept_cell hb c5
          have w6 := kept_cell hb c6
          have w7 := kept_cell hb c7
          have w8 := kept_cell hb c8
          have w9 := kept_cell hb c9
          have w10 := kept_cell hb c10
          have v0 := kept_cell hb q0
          have v1 := kept_cell hb q1
          have v2 := kept_cell hb q2
          have v3 := kept_cell hb q3
          have x1 := kept_cell hb o1
          have x2 := kept_cell hb o2
          have x3 := kept_cell hb o3
          have x4 := kept_cell hb o4
          have x5 := kept_cell hb o5
          have zz0 := Nat.lt_of_lt_of_le z0 hb.size
          have zz1 := Nat.lt_of_lt_of_le z1 hb.size
          have zz2 := Nat.lt_of_lt_of_le z2 hb.size
          go_wp2
          exact ⟨rfl, rfl, Below.refl _ _, _, rfl, rfl, (fun h => absurd h (by decide))⟩
        · intro vals x hb hf
          simp only [fillS, List.getD_cons_succ, List.getD_cons_zero, Act.put, List.setIfInBounds_toArray, List.set_cons_zero, List.set_cons_succ]
          clear hf
          have w0 := kept_cell hb c0
          have w1 := kept_cell hb c1
          have w2 := kept_cell hb c2
          have w3 := kept_cell hb c3
          have w4 := kept_cell hb c4
          have w5 := kept_cell hb c5
          have w6 := kept_cell hb c6
          have w7 := kept_cell hb c7
          have w8 := kept_cell hb c8
          have w9 := kept_cell hb c9
          have w10 := kept_cell hb c10
          have v0 := kept_cell hb q0
          have v1 := kept_cell hb q1
          have v2 := kept_cell hb q2
          have v3 := kept_cell hb q3
          have x1 := kept_cell hb o1
          have x2 := kept_cell hb o2
          have x3 := kept_cell hb o3
          have x4 := kept_cell hb o4
          have x5 := kept_cell hb o5
          have zz0 := Nat.lt_of_lt_of_le z0 hb.size
          have zz1 := Nat.lt_of_lt_of_le z1 hb.size
          have zz2 := Nat.lt_of_lt_of_le z2 hb.size
          go_wp2
          exact ⟨rfl, rfl, Below.refl _ _, _, rfl, rfl, (fun h => absurd h (by decide))⟩
        · intro vals x hb hf
          simp only [fillS, List.getD_cons_succ, List.getD_cons_zero, Act.put, List.setIfInBounds_toArray, List.set_cons_zero, List.set_cons_succ]
          have h1 : vals 1 = .pointer (some ⟨w.heap.size + 1, 2, none⟩) := hf.1
          rw [h1]
          clear h1
          clear hf
          have w0 := kept_cell hb c0
          have w1 := kept_cell hb c1
          have w2 := kept_cell hb c2
          have w3 := kept_cell hb c3
          have w4 := kept_cell hb c4
          have w5 := kept_cell hb c5
          have w6 := kept_cell hb c6
          have w7 := kept_cell hb c7
          have w8 := kept_cell hb c8
          have w9 := kept_cell hb c9
          have w10 := kept_cell hb c10
          have v0 := kept_cell hb q0
          have v1 := kept_cell hb q1
          have v2 := kept_cell hb q2
          have v3 := kept_cell hb q3
          have x1 := kept_cell hb o1
          have x2 := kept_cell hb o2
          have x3 := kept_cell hb o3
          have x4 := kept_cell hb o4
          have x5 := kept_cell hb o5
          have zz0 := Nat.lt_of_lt_of_le z0 hb.size
          have zz1 := Nat.lt_of_lt_of_le z1 hb.size
          have zz2 := Nat.lt_of_lt_of_le z2 hb.size
          go_wp2
          exact ⟨rfl, rfl, Below.refl _ _, _, rfl, rfl, (fun h => absurd h (by decide))⟩
        · intro vals x hb hf
          simp only [fillS, List.getD_cons_succ, List.getD_cons_zero, Act.put, List.setIfInBounds_toArray, List.set_cons_zero, List.set_cons_succ]
          clear hf
          have w0 := kept_cell hb c0
          have w1 := kept_cell hb c1
          have w2 := kept_cell hb c2
          have w3 := kept_cell hb c3
          have w4 := kept_cell hb c4
          have w5 := kept_cell hb c5
          have w6 := kept_cell hb c6
          have w7 := kept_cell hb c7
          have w8 := kept_cell hb c8
          have w9 := kept_cell hb c9
          have w10 := kept_cell hb c10
          have v0 := kept_cell hb q0
          have v1 := kept_cell hb q1
          have v2 := kept_cell hb q2
          have v3 := kept_cell hb q3
          have x1 := kept_cell hb o1
          have x2 := kept_cell hb o2
          have x3 := kept_cell hb o3
          have x4 := kept_cell hb o4
          have x5 := kept_cell hb o5
          have zz0 := Nat.lt_of_lt_of_le z0 hb.size
          have zz1 := Nat.lt_of_lt_of_le z1 hb.size
          have zz2 := Nat.lt_of_lt_of_le z2 hb.size
          go_wp2
          exact ⟨rfl, rfl, Below.refl _ _, _, rfl, rfl, (fun h => absurd h (by decide))⟩
        · intro vals x hb hf
          simp only [fillS, List.getD_cons_succ, List.getD_cons_zero, Act.put, List.setIfInBounds_toArray, List.set_cons_zero, List.set_cons_succ]
          have h0 : vals 0 = cavV c := hf.1
          rw [h0]
          clear h0
          have h2 : vals 2 = .int .i64 p.t := hf.2.1
          rw [h2]
          clear h2
          have h3 : vals 3 = .int .i64 s := hf.2.2.1
          rw [h3]
          clear h3
          clear hf
          have w0 := kept_cell hb c0
          have w1 := kept_cell hb c1
          have w2 := kept_cell hb c2
          have w3 := kept_cell hb c3
          have w4 := kept_cell hb c4
          have w5 := kept_cell hb c5
          have w6 := kept_cell hb c6
          have w7 := kept_cell hb c7
          have w8 := kept_cell hb c8
          have w9 := kept_cell hb c9
          have w10 := kept_cell hb c10
          have v0 := kept_cell hb q0
          have v1 := kept_cell hb q1
          have v2 := kept_cell hb q2
          have v3 := kept_cell hb q3
          have x1 := kept_cell hb o1
          have x2 := kept_cell hb o2
          have x3 := kept_cell hb o3
          have x4 := kept_cell hb o4
          have x5 := kept_cell hb o5
          have zz0 := Nat.lt_of_lt_of_le z0 hb.size
          have zz1 := Nat.lt_of_lt_of_le z1 hb.size
          have zz2 := Nat.lt_of_lt_of_le z2 hb.size
          go_wp2_with (go_at_call 43; (with_reducible refine Calls.mono (kN.out _) ?_); rintro e y ⟨rfl, hB⟩)
          exact ⟨rfl, rfl, hB, _, rfl, rfl, (fun h => absurd h (by decide))⟩
        · intro vals x hb hf
          simp only [fillS, List.getD_cons_succ, List.getD_cons_zero, Act.put, List.setIfInBounds_toArray, List.set_cons_zero, List.set_cons_succ]
          clear hf
          have w0 := kept_cell hb c0
          have w1 := kept_cell hb c1
          have w2 := kept_cell hb c2
          have w3 := kept_cell hb c3
          have w4 := kept_cell hb c4
          have w5 := kept_cell hb c5
          have w6 := kept_cell hb c6
          have w7 := kept_cell hb c7
          have w8 := kept_cell hb c8
          have w9 := kept_cell hb c9
          have w10 := kept_cell hb c10
          have v0 := kept_cell hb q0
          have v1 := kept_cell hb q1
          have v2 := kept_cell hb q2
          have v3 := kept_cell hb q3
          have x1 := kept_cell hb o1
          have x2 := kept_cell hb o2
          have x3 := kept_cell hb o3
          have x4 := kept_cell hb o4
          have x5 := kept_cell hb o5
          have zz0 := Nat.lt_of_lt_of_le z0 hb.size
          have zz1 := Nat.lt_of_lt_of_le z1 hb.size
          have zz2 := Nat.lt_of_lt_of_le z2 hb.size
          go_wp2
          exact ⟨rfl, rfl, Below.refl _ _, _, rfl, rfl, (fun h => absurd h (by decide))⟩
        · intro vals x hb hf
          simp only [fillS, List.getD_cons_succ, List.getD_cons_zero, Act.put, List.setIfInBounds_toArray, List.set_cons_zero, List.set_cons_succ]
          have h5 : vals 5 = .pointer (some ⟨w.heap.size + 1, 3, none⟩) := hf.1
          rw [h5]
          clear h5
          clear hf
          have w0 := kept_cell hb c0
          have w1 := kept_cell hb c1
          have w2 := kept_cell hb c2
          have w3 := kept_cell hb c3
          have w4 := kept_cell hb c4
          have w5 := kept_cell hb c5
          have w6 := kept_cell hb c6
          have w7 := kept_cell hb c7
          have w8 := kept_cell hb c8
          have w9 := kept_cell hb c9
          have w10 := kept_cell hb c10
          have v0 := kept_cell hb q0
          have v1 := kept_cell hb q1
          have v2 := kept_cell hb q2
          have v3 := kept_cell hb q3
          have x1 := kept_cell hb o1
          have x2 := kept_cell hb o2
          have x3 := kept_cell hb o3
          have x4 := kept_cell hb o4
          have x5 := kept_cell hb o5
          have zz0 := Nat.lt_of_lt_of_le z0 hb.size
          have zz1 := Nat.lt_of_lt_of_le z1 hb.size
          have zz2 := Nat.lt_of_lt_of_le z2 hb.size
          go_wp2
          exact ⟨rfl, rfl, Below.refl _ _, _, rfl, rfl, (fun h => absurd h (by decide))⟩
        · intro vals x hb hf
          simp only [fillS, List.getD_cons_succ, List.getD_cons_zero, Act.put, List.setIfInBounds_toArray, List.set_cons_zero, List.set_cons_succ]
          clear hf
          go_wp2
          exact ⟨rfl, rfl, Below.refl _ _, _, rfl, rfl, (fun h => absurd h (by decide))⟩
        · intro vals x hb hf
          simp only [fillS, List.getD_cons_succ, List.getD_cons_zero, Act.put, List.setIfInBounds_toArray, List.set_cons_zero, List.set_cons_succ]
          have h6 : vals 6 = .int .i64 p.w := hf.1
          rw [h6]
          clear h6
          have h7 : vals 7 = .int .i64 v := hf.2.1
          rw [h7]
          clear h7
          clear hf
          go_wp2
          exact ⟨rfl, rfl, Below.refl _ _, _, rfl, rfl, (fun h => absurd h (by decide))⟩
      · intro j hj o ho vals x hb hf
        simp only [List.mem_cons, List.not_mem_nil, or_false] at hj
        rcases hj with rfl | rfl
        · obtain rfl := Option.some.inj ho
          simp only [fillS, List.getD_cons_succ, List.getD_cons_zero, Act.put, List.setIfInBounds_toArray, List.set_cons_zero, List.set_cons_succ]
          exact ⟨.int .i64 v, .inl ⟨rfl, fun w => (by first | rfl | (go_simp; done) | (go_simp; exact IntWalk.i64_in _ (by omega)))⟩, rfl, (fun h => absurd h (by decide))⟩
        · obtain rfl := Option.some.inj ho
          simp only [fillS, List.getD_cons_succ, List.getD_cons_zero, Act.put, List.setIfInBounds_toArray, List.set_cons_zero, List.set_cons_succ]
          have h6 : vals 6 = .int .i64 p.w := hf.1
          rw [h6]
          clear h6
          have h7 : vals 7 = .int .i64 v := hf.2.1
          rw [h7]
          clear h7
          exact ⟨.int .i64 (p.w + v), .inl ⟨rfl, fun w => (by first | rfl | (go_simp; done) | (go_simp; exact IntWalk.i64_in _ (by omega)))⟩, rfl, (fun h => absurd h (by decide))⟩
      intro vals x hb hf hp
      have hrange : List.range 9 = [0, 1, 2, 3, 4, 5, 6, 7, 8] := by rfl
      rw [hrange]
      simp only [fillS, List.getD_cons_succ, List.getD_cons_zero, Act.put, List.setIfInBounds_toArray, List.set_cons_zero, List.set_cons_succ]
      have h0 : vals 0 = cavV c := hf 0 (by omega)
      have h1 : vals 1 = .pointer (some ⟨w.heap.size + 1, 2, none⟩) := hf 1 (by omega)
      have h2 : vals 2 = .int .i64 p.t := hf 2 (by omega)
      have h3 : vals 3 = .int .i64 s := hf 3 (by omega)
      have f4 : (IsV (.int .i64 nr)) (vals 4) x := hf 4 (by omega)
      have h5 : vals 5 = .pointer (some ⟨w.heap.size + 1, 3, none⟩) := hf 5 (by omega)
      have h6 : vals 6 = .int .i64 p.w := hf 6 (by omega)
      have h7 : vals 7 = .int .i64 v := hf 7 (by omega)
      have h8 : vals 8 = .int .i64 (p.w + v) := hf 8 (by omega)
      rw [h0, h1, h2, h3, h5, h6, h7, h8]
      clear h0 h1 h2 h3 h5 h6 h7 h8 hf hp hrange
      simp only [List.drop_succ_cons, List.drop_zero]
      rw [show vals 4 = .int .i64 nr from f4]
      have hX := hst0.out.mono hb
      obtain ⟨t0, t1, t2, t3⟩ := rc4 hX.p
      obtain ⟨r0, r1, r2, r3⟩ := rf4 hX.p
      have y1 := (Array.getElem?_eq_some_iff.1 hX.p).1
      have hXh := Lib.hid hX
      clear f4 kN c0 c1 c2 c3 c4 c5 c6 c7 c8 c9 c10 q0 q1 q2 q3 o0 o1 o2 o3 o4 o5 o6 o7 o8 o9 z0 z1 z2 hX
      go_wp2_with fail
      refine OnlyN.mk ?_
      clear t0 t1 t2 t3 r0 r1 r2 r3 y1
      go_wp2_with fail
      go_meet
      rw [hres.out]
      exact Lib.hid ⟨(hXh.out.setp (X' := ⟨p.g, p.y, nr, p.w⟩) rfl).setp (X' := ⟨p.g, p.y, nr, p.w + v⟩) rfl, rfl⟩
  case rest =>
    obtain ⟨hst, hB⟩ := hcut.out
    clear hst0 hE0 hE2 c0 c1 c2 c3 c4 c5 c6 c7 c8 c9 c10 q0 q1 q2 q3 o0 o1 o2 o3 o4 o5 o6 o7 o8 o9 z0 z1 z2 hcut ho
    obtain ⟨f0, f1, f2, f3⟩ := rc4 hst.p
    obtain ⟨g0, g1, g2, g3⟩ := rc4 hst.u
    obtain ⟨d0, d1, d2, d3⟩ := rc4 hst.rp
    obtain ⟨e0, e1, e2, e3⟩ := rc4 hst.ro
    obtain ⟨a0, a1, a2, a3⟩ := rf4 hst.rp
    obtain ⟨b0, b1, b2, b3⟩ := rf4 hst.ro
    have y1 := (Array.getElem?_eq_some_iff.1 hst.p).1
    have y5 := (Array.getElem?_eq_some_iff.1 hst.u).1
    have y3 := (Array.getElem?_eq_some_iff.1 hst.rp).1
    have y4 := (Array.getElem?_eq_some_iff.1 hst.ro).1
    have hstH := Lib.hid hst
    have hBH := Lib.hid hB
    clear hst hB hs hv hsz p1 p2 p3 p4
    have u1 : w.heap.size + 3 ≠ w.heap.size + 1 := by omega
    have u2 : w.heap.size + 4 ≠ w.heap.size + 1 := by omega
    have u3 : w.heap.size + 3 ≠ w.heap.size + 5 := by omega
    have u4 : w.heap.size + 4 ≠ w.heap.size + 5 := by omega
    have u5 : w.heap.size + 3 ≠ w.heap.size + 4 := by omega
    have u6 : w.heap.size + 4 ≠ w.heap.size + 3 := by omega
    cases hd1 : decide (X.g ≤ 1000000)
    · skip
      have hC1 : (fun w' => (w'.cell? ⟨w.heap.size + 1, 0, none⟩ = some (.int .i64 X.g) ∧ w'.cell? ⟨w.heap.size + 1, 1, none⟩ = some (.int .i64 X.y) ∧ w'.cell? ⟨w.heap.size + 1, 2, none⟩ = some (.int .i64 X.t) ∧ w'.cell? ⟨w.heap.size + 1, 3, none⟩ = some (.int .i64 X.w)) ∧ (w'.cell? ⟨w.heap.size + 5, 0, none⟩ = some (.int .i64 G.g) ∧ w'.cell? ⟨w.heap.size + 5, 1, none⟩ = some (.int .i64 G.y) ∧ w'.cell? ⟨w.heap.size + 5, 2, none⟩ = some (.int .i64 G.t) ∧ w'.cell? ⟨w.heap.size + 5, 3, none⟩ = some (.int .i64 G.w))) wc.drew := ⟨⟨f0, f1, f2, f3⟩, ⟨g0, g1, g2, g3⟩⟩
      dsimp only at hC1
      go_wp2_with fail
      refine wp_region_held_drew (S := (fun w' => (w'.cell? ⟨w.heap.size + 1, 0, none⟩ = some (.int .i64 X.g) ∧ w'.cell? ⟨w.heap.size + 1, 1, none⟩ = some (.int .i64 X.y) ∧ w'.cell? ⟨w.heap.size + 1, 2, none⟩ = some (.int .i64 X.t) ∧ w'.cell? ⟨w.heap.size + 1, 3, none⟩ = some (.int .i64 X.w)) ∧ (w'.cell? ⟨w.heap.size + 5, 0, none⟩ = some (.int .i64 G.g) ∧ w'.cell? ⟨w.heap.size + 5, 1, none⟩ = some (.int .i64 G.y) ∧ w'.cell? ⟨w.heap.size + 5, 2, none⟩ = some (.int .i64 G.t) ∧ w'.cell? ⟨w.heap.size + 5, 3, none⟩ = some (.int .i64 G.w)))) (by kernel_rfl) ?_ (fun hHeld => ?_)
      · first | ((first | with_reducible exact hC1 | (with_reducible exact hHeld) | (with_reducible exact ⟨⟨far4d hHeld.1.1 u1, far4d hHeld.1.2.1 u1, far4d hHeld.1.2.2.1 u1, far4d hHeld.1.2.2.2 u1⟩, ⟨far4d hHeld.2.1 u3, far4d hHeld.2.2.1 u3, far4d hHeld.2.2.2.1 u3, far4d hHeld.2.2.2.2 u3⟩⟩) | (with_reducible exact ⟨⟨far4d hHeld.1.1 u2, far4d hHeld.1.2.1 u2, far4d hHeld.1.2.2.1 u2, far4d hHeld.1.2.2.2 u2⟩, ⟨far4d hHeld.2.1 u4, far4d hHeld.2.2.1 u4, far4d hHeld.2.2.2.1 u4, far4d hHeld.2.2.2.2 u4⟩⟩))) | (dsimp only; ((first | with_reducible exact hC1 | (with_reducible exact hHeld) | (with_reducible exact ⟨⟨far4d hHeld.1.1 u1, far4d hHeld.1.2.1 u1, far4d hHeld.1.2.2.1 u1, far4d hHeld.1.2.2.2 u1⟩, ⟨far4d hHeld.2.1 u3, far4d hHeld.2.2.1 u3, far4d hHeld.2.2.2.1 u3, far4d hHeld.2.2.2.2 u3⟩⟩) | (with_reducible exact ⟨⟨far4d hHeld.1.1 u2, far4d hHeld.1.2.1 u2, far4d hHeld.1.2.2.1 u2, far4d hHeld.1.2.2.2 u2⟩, ⟨far4d hHeld.2.1 u4, far4d hHeld.2.2.1 u4, far4d hHeld.2.2.2.1 u4, far4d hHeld.2.2.2.2 u4⟩⟩))))
      refine wpAnyH_take (i := 0) (v := ?_) rfl (by kernel_rfl) (by kernel_rfl) (by kernel_rfl) (fun _ _ _ h => h) (Or.inl ⟨by rfl, ?_⟩) (by assumption) ?_
      rotate_left
      · intro w hSw; (try dsimp only at hSw); go_simp; (try with_reducible rfl)
      try simp only [Act.put, List.getElem_toArray, List.getElem_cons_succ, List.getElem_cons_zero, List.setIfInBounds_toArray, List.set_cons_zero, List.set_cons_succ]
      refine wpAnyH_take (i := 1) (v := ?_) rfl (by kernel_rfl) (by kernel_rfl) (by kernel_rfl) (fun _ _ _ h => h) (Or.inl ⟨by rfl, ?_⟩) (by assumption) ?_
      rotate_left
      · intro w hSw; (try dsimp only at hSw); go_simp; (try with_reducible rfl)
      try simp only [Act.put, List.getElem_toArray, List.getElem_cons_succ, List.getElem_cons_zero, List.setIfInBounds_toArray, List.set_cons_zero, List.set_cons_succ]
      refine wpAnyH_take (i := 2) (v := ?_) rfl (by kernel_rfl) (by kernel_rfl) (by kernel_rfl) (fun _ _ _ h => h) (Or.inl ⟨by rfl, ?_⟩) (by assumption) ?_
      rotate_left
      · intro w hSw; (try dsimp only at hSw); go_simp; (try with_reducible rfl)
      try simp only [Act.put, List.getElem_toArray, List.getElem_cons_succ, List.getElem_cons_zero, List.setIfInBounds_toArray, List.set_cons_zero, List.set_cons_succ]
      refine wpAnyH_take (i := 3) (v := ?_) rfl (by kernel_rfl) (by kernel_rfl) (by kernel_rfl) (fun _ _ _ h => h) (Or.inl ⟨by rfl, ?_⟩) (by assumption) ?_
      rotate_left
      · intro w hSw; (try dsimp only at hSw); go_simp; (try with_reducible rfl)
      try simp only [Act.put, List.getElem_toArray, List.getElem_cons_succ, List.getElem_cons_zero, List.setIfInBounds_toArray, List.set_cons_zero, List.set_cons_succ]
      refine wpAnyH_take (i := 4) (v := ?_) rfl (by kernel_rfl) (by kernel_rfl) (by kernel_rfl) (fun _ _ _ h => h) (Or.inl ⟨by rfl, ?_⟩) (by assumption) ?_
      rotate_left
      · intro w hSw; (try dsimp only at hSw); go_simp; (try with_reducible rfl)
      try simp only [Act.put, List.getElem_toArray, List.getElem_cons_succ, List.getElem_cons_zero, List.setIfInBounds_toArray, List.set_cons_zero, List.set_cons_succ]
      refine wpAnyH_take (i := 5) (v := ?_) rfl (by kernel_rfl) (by kernel_rfl) (by kernel_rfl) (fun _ _ _ h => h) (Or.inl ⟨by rfl, ?_⟩) (by assumption) ?_
      rotate_left
      · intro w hSw; (try dsimp only at hSw); go_simp; (try with_reducible rfl)
      try simp only [Act.put, List.getElem_toArray, List.getElem_cons_succ, List.getElem_cons_zero, List.setIfInBounds_toArray, List.set_cons_zero, List.set_cons_succ]
      refine wpAnyH_take (i := 6) (v := _) rfl (by kernel_rfl) (by kernel_rfl) (by kernel_rfl) (fun _ _ _ h => h) (Or.inr ⟨by rfl, rfl⟩) (by assumption) ?_
      try simp only [Act.put, List.getElem_toArray, List.getElem_cons_succ, List.getElem_cons_zero, List.setIfInBounds_toArray, List.set_cons_zero, List.set_cons_succ]
      refine wpAnyH_take (i := 7) (v := _) rfl (by kernel_rfl) (by kernel_rfl) (by kernel_rfl) (fun _ _ _ h => h) (Or.inr ⟨by rfl, rfl⟩) (by assumption) ?_
      try simp only [Act.put, List.getElem_toArray, List.getElem_cons_succ, List.getElem_cons_zero, List.setIfInBounds_toArray, List.set_cons_zero, List.set_cons_succ]
      refine wpAnyH_take (i := 8) (v := _) rfl (by kernel_rfl) (by kernel_rfl) (by kernel_rfl) (fun _ _ _ h => h) (Or.inr ⟨by rfl, rfl⟩) (by assumption) ?_
      try simp only [Act.put, List.getElem_toArray, List.getElem_cons_succ, List.getElem_cons_zero, List.setIfInBounds_toArray, List.set_cons_zero, List.set_cons_succ]
      refine wpAnyH_take (i := 9) (v := ?_) rfl (by kernel_rfl) (by kernel_rfl) (by kernel_rfl) (fun _ _ _ h => h) (Or.inl ⟨by rfl, ?_⟩) (by assumption) ?_
      rotate_left
      · intro w hSw; (try dsimp only at hSw); go_simp; (try with_reducible rfl)
      try simp only [Act.put, List.getElem_toArray, List.getElem_cons_succ, List.getElem_cons_zero, List.setIfInBounds_toArray, List.set_cons_zero, List.set_cons_succ]
      refine wpAnyH_take (i := 10) (v := ?_) rfl (by kernel_rfl) (by kernel_rfl) (by kernel_rfl) (fun _ _ _ h => h) (Or.inl ⟨by rfl, ?_⟩) (by assumption) ?_
      rotate_left
      · intro w hSw; (try dsimp only at hSw); go_simp; (try with_reducible rfl)
      try simp only [Act.put, List.getElem_toArray, List.getElem_cons_succ, List.getElem_cons_zero, List.setIfInBounds_toArray, List.set_cons_zero, List.set_cons_succ]
      refine wpAnyH_take (i := 11) (v := _) rfl (by kernel_rfl) (by kernel_rfl) (by kernel_rfl) (fun _ _ _ h => h) (Or.inr ⟨by rfl, rfl⟩) (by assumption) ?_
      try simp only [Act.put, List.getElem_toArray, List.getElem_cons_succ, List.getElem_cons_zero, List.setIfInBounds_toArray, List.set_cons_zero, List.set_cons_succ]
      refine wpAnyH_take (i := 12) (v := _) rfl (by kernel_rfl) (by kernel_rfl) (by kernel_rfl) (fun _ _ _ h => h) (Or.inr ⟨by rfl, rfl⟩) (by assumption) ?_
      try simp only [Act.put, List.getElem_toArray, List.getElem_cons_succ, List.getElem_cons_zero, List.setIfInBounds_toArray, List.set_cons_zero, List.set_cons_succ]
      refine wpAnyH_take (i := 13) (v := _) rfl (by kernel_rfl) (by kernel_rfl) (by kernel_rfl) (fun _ _ _ h => h) (Or.inr ⟨by rfl, rfl⟩) (by assumption) ?_
      try simp only [Act.put, List.getElem_toArray, List.getElem_cons_succ, List.getElem_cons_zero, List.setIfInBounds_toArray, List.set_cons_zero, List.set_cons_succ]
      refine wpAnyH_take (i := 14) (v := ?_) rfl (by kernel_rfl) (by kernel_rfl) (by kernel_rfl) (fun _ _ _ h => h) (Or.inl ⟨by rfl, ?_⟩) (by assumption) ?_
      rotate_left
      · intro w hSw; (try dsimp only at hSw); go_simp; (try with_reducible rfl)
      try simp only [Act.put, List.getElem_toArray, List.getElem_cons_succ, List.getElem_cons_zero, List.setIfInBounds_toArray, List.set_cons_zero, List.set_cons_succ]
      refine wpAnyH_ready (rs := [15]) (by kernel_rfl) (by simp) ?_
      refine AllReadyH.cons rfl (fun K hK => ?_) AllReadyH.nil
      go_simp
      refine hK.out _ _ ?_ (fun hNow => ?_)
      · first | ((first | with_reducible exact hC1 | (with_reducible exact hHeld) | (with_reducible exact ⟨⟨far4d hHeld.1.1 u1, far4d hHeld.1.2.1 u1, far4d hHeld.1.2.2.1 u1, far4d hHeld.1.2.2.2 u1⟩, ⟨far4d hHeld.2.1 u3, far4d hHeld.2.2.1 u3, far4d hHeld.2.2.2.1 u3, far4d hHeld.2.2.2.2 u3⟩⟩) | (with_reducible exact ⟨⟨far4d hHeld.1.1 u2, far4d hHeld.1.2.1 u2, far4d hHeld.1.2.2.1 u2, far4d hHeld.1.2.2.2 u2⟩, ⟨far4d hHeld.2.1 u4, far4d hHeld.2.2.1 u4, far4d hHeld.2.2.2.1 u4, far4d hHeld.2.2.2.2 u4⟩⟩))) | (dsimp only; ((first | with_reducible exact hC1 | (with_reducible exact hHeld) | (with_reducible exact ⟨⟨far4d hHeld.1.1 u1, far4d hHeld.1.2.1 u1, far4d hHeld.1.2.2.1 u1, far4d hHeld.1.2.2.2 u1⟩, ⟨far4d hHeld.2.1 u3, far4d hHeld.2.2.1 u3, far4d hHeld.2.2.2.1 u3, far4d hHeld.2.2.2.2 u3⟩⟩) | (with_reducible exact ⟨⟨far4d hHeld.1.1 u2, far4d hHeld.1.2.1 u2, far4d hHeld.1.2.2.1 u2, far4d hHeld.1.2.2.2 u2⟩, ⟨far4d hHeld.2.1 u4, far4d hHeld.2.2.1 u4, far4d hHeld.2.2.2.1 u4, far4d hHeld.2.2.2.2 u4⟩⟩))))
      clear hK K hHeld
      have hHeld := hNow
      clear hNow
      try simp only [Act.put, List.getElem_toArray, List.getElem_cons_succ, List.getElem_cons_zero, List.setIfInBounds_toArray, List.set_cons_zero, List.set_cons_succ]
      refine wpAnyH_ready (rs := [16]) (by kernel_rfl) (by simp) ?_
      refine AllReadyH.cons rfl (fun K hK => ?_) AllReadyH.nil
      go_simp
      refine hK.out _ _ ?_ (fun hNow => ?_)
      · first | ((first | with_reducible exact hC1 | (with_reducible exact hHeld) | (with_reducible exact ⟨⟨far4d hHeld.1.1 u1, far4d hHeld.1.2.1 u1, far4d hHeld.1.2.2.1 u1, far4d hHeld.1.2.2.2 u1⟩, ⟨far4d hHeld.2.1 u3, far4d hHeld.2.2.1 u3, far4d hHeld.2.2.2.1 u3, far4d hHeld.2.2.2.2 u3⟩⟩) | (with_reducible exact ⟨⟨far4d hHeld.1.1 u2, far4d hHeld.1.2.1 u2, far4d hHeld.1.2.2.1 u2, far4d hHeld.1.2.2.2 u2⟩, ⟨far4d hHeld.2.1 u4, far4d hHeld.2.2.1 u4, far4d hHeld.2.2.2.1 u4, far4d hHeld.2.2.2.2 u4⟩⟩))) | (dsimp only; ((first | with_reducible exact hC1 | (with_reducible exact hHeld) | (with_reducible exact ⟨⟨far4d hHeld.1.1 u1, far4d hHeld.1.2.1 u1, far4d hHeld.1.2.2.1 u1, far4d hHeld.1.2.2.2 u1⟩, ⟨far4d hHeld.2.1 u3, far4d hHeld.2.2.1 u3, far4d hHeld.2.2.2.1 u3, far4d hHeld.2.2.2.2 u3⟩⟩) | (with_reducible exact ⟨⟨far4d hHeld.1.1 u2, far4d hHeld.1.2.1 u2, far4d hHeld.1.2.2.1 u2, far4d hHeld.1.2.2.2 u2⟩, ⟨far4d hHeld.2.1 u4, far4d hHeld.2.2.1 u4, far4d hHeld.2.2.2.1 u4, far4d hHeld.2.2.2.2 u4⟩⟩))))
      clear hK K hHeld
      have hHeld := hNow
      clear hNow
      try simp only [Act.put, List.getElem_toArray, List.getElem_cons_succ, List.getElem_cons_zero, List.setIfInBounds_toArray, List.set_cons_zero, List.set_cons_succ]
      refine wpAnyH_ready (rs := [17]) (by kernel_rfl) (by simp) ?_
      refine AllReadyH.cons rfl (fun K hK => ?_) AllReadyH.nil
      go_simp
      refine hK.out _ _ ?_ (fun hNow => ?_)
      · first | ((first | with_reducible exact hC1 | (with_reducible exact hHeld) | (with_reducible exact ⟨⟨far4d hHeld.1.1 u1, far4d hHeld.1.2.1 u1, far4d hHeld.1.2.2.1 u1, far4d hHeld.1.2.2.2 u1⟩, ⟨far4d hHeld.2.1 u3, far4d hHeld.2.2.1 u3, far4d hHeld.2.2.2.1 u3, far4d hHeld.2.2.2.2 u3⟩⟩) | (with_reducible exact ⟨⟨far4d hHeld.1.1 u2, far4d hHeld.1.2.1 u2, far4d hHeld.1.2.2.1 u2, far4d hHeld.1.2.2.2 u2⟩, ⟨far4d hHeld.2.1 u4, far4d hHeld.2.2.1 u4, far4d hHeld.2.2.2.1 u4, far4d hHeld.2.2.2.2 u4⟩⟩))) | (dsimp only; ((first | with_reducible exact hC1 | (with_reducible exact hHeld) | (with_reducible exact ⟨⟨far4d hHeld.1.1 u1, far4d hHeld.1.2.1 u1, far4d hHeld.1.2.2.1 u1, far4d hHeld.1.2.2.2 u1⟩, ⟨far4d hHeld.2.1 u3, far4d hHeld.2.2.1 u3, far4d hHeld.2.2.2.1 u3, far4d hHeld.2.2.2.2 u3⟩⟩) | (with_reducible exact ⟨⟨far4d hHeld.1.1 u2, far4d hHeld.1.2.1 u2, far4d hHeld.1.2.2.1 u2, far4d hHeld.1.2.2.2 u2⟩, ⟨far4d hHeld.2.1 u4, far4d hHeld.2.2.1 u4, far4d hHeld.2.2.2.1 u4, far4d hHeld.2.2.2.2 u4⟩⟩))))
      clear hK K hHeld
      have hHeld := hNow
      clear hNow
      try simp only [Act.put, List.getElem_toArray, List.getElem_cons_succ, List.getElem_cons_zero, List.setIfInBounds_toArray, List.set_cons_zero, List.set_cons_succ]
      refine wpAnyH_done (by kernel_rfl) ?_ _
      go_wp2
      refine bodyPost_ret (v := .tuple #[ptV X, ptV G, .bool false]) (by simp only [results, Try.results28]; simp [go_sem, d0, d1, d2, d3, e0, e1, e2, e3, a0, a1, a2, a3, b0, b1, b2, b3, u5, u6]) rfl ⟨(by rw [← hBH.out, hd1]; rfl), ?_⟩
      refine Below.drew ?_
      repeat' (first | (with_reducible exact hstH.out.bel) | (refine Below.setCell ?_ (by simp; omega) _) | (refine Below.setCell ?_ (by show w.heap.size ≤ w.heap.size + 3; omega) _) | (refine Below.setCell ?_ (by show w.heap.size ≤ w.heap.size + 4; omega) _))
    cases hd2 : decide (X.y ≤ 1000000)
    · skip
      have hC1 : (fun w' => (w'.cell? ⟨w.heap.size + 1, 0, none⟩ = some (.int .i64 X.g) ∧ w'.cell? ⟨w.heap.size + 1, 1, none⟩ = some (.int .i64 X.y) ∧ w'.cell? ⟨w.heap.size + 1, 2, none⟩ = some (.int .i64 X.t) ∧ w'.cell? ⟨w.heap.size + 1, 3, none⟩ = some (.int .i64 X.w)) ∧ (w'.cell? ⟨w.heap.size + 5, 0, none⟩ = some (.int .i64 G.g) ∧ w'.cell? ⟨w.heap.size + 5, 1, none⟩ = some (.int .i64 G.y) ∧ w'.cell? ⟨w.heap.size + 5, 2, none⟩ = some (.int .i64 G.t) ∧ w'.cell? ⟨w.heap.size + 5, 3, none⟩ = some (.int .i64 G.w))) wc.drew := ⟨⟨f0, f1, f2, f3⟩, ⟨g0, g1, g2, g3⟩⟩
      dsimp only at hC1
      go_wp2_with fail
      refine wp_region_held_drew (S := (fun w' => (w'.cell? ⟨w.heap.size + 1, 0, none⟩ = some (.int .i64 X.g) ∧ w'.cell? ⟨w.heap.size + 1, 1, none⟩ = some (.int .i64 X.y) ∧ w'.cell? ⟨w.heap.size + 1, 2, none⟩ = some (.int .i64 X.t) ∧ w'.cell? ⟨w.heap.size + 1, 3, none⟩ = some (.int .i64 X.w)) ∧ (w'.cell? ⟨w.heap.size + 5, 0, none⟩ = some (.int .i64 G.g) ∧ w'.cell? ⟨w.heap.size + 5, 1, none⟩ = some (.int .i64 G.y) ∧ w'.cell? ⟨w.heap.size + 5, 2, none⟩ = some (.int .i64 G.t) ∧ w'.cell? ⟨w.heap.size + 5, 3, none⟩ = some (.int .i64 G.w)))) (by kernel_rfl) ?_ (fun hHeld => ?_)
      · first | ((first | with_reducible exact hC1 | (with_reducible exact hHeld) | (with_reducible exact ⟨⟨far4d hHeld.1.1 u1, far4d hHeld.1.2.1 u1, far4d hHeld.1.2.2.1 u1, far4d hHeld.1.2.2.2 u1⟩, ⟨far4d hHeld.2.1 u3, far4d hHeld.2.2.1 u3, far4d hHeld.2.2.2.1 u3, far4d hHeld.2.2.2.2 u3⟩⟩) | (with_reducible exact ⟨⟨far4d hHeld.1.1 u2, far4d hHeld.1.2.1 u2, far4d hHeld.1.2.2.1 u2, far4d hHeld.1.2.2.2 u2⟩, ⟨far4d hHeld.2.1 u4, far4d hHeld.2.2.1 u4, far4d hHeld.2.2.2.1 u4, far4d hHeld.2.2.2.2 u4⟩⟩))) | (dsimp only; ((first | with_reducible exact hC1 | (with_reducible exact hHeld) | (with_reducible exact ⟨⟨far4d hHeld.1.1 u1, far4d hHeld.1.2.1 u1, far4d hHeld.1.2.2.1 u1, far4d hHeld.1.2.2.2 u1⟩, ⟨far4d hHeld.2.1 u3, far4d hHeld.2.2.1 u3, far4d hHeld.2.2.2.1 u3, far4d hHeld.2.2.2.2 u3⟩⟩) | (with_reducible exact ⟨⟨far4d hHeld.1.1 u2, far4d hHeld.1.2.1 u2, far4d hHeld.1.2.2.1 u2, far4d hHeld.1.2.2.2 u2⟩, ⟨far4d hHeld.2.1 u4, far4d hHeld.2.2.1 u4, far4d hHeld.2.2.2.1 u4, far4d hHeld.2.2.2.2 u4⟩⟩))))
      refine wpAnyH_take (i := 0) (v := ?_) rfl (by kernel_rfl) (by kernel_rfl) (by kernel_rfl) (fun _ _ _ h => h) (Or.inl ⟨by rfl, ?_⟩) (by assumption) ?_
      rotate_left
      · intro w hSw; (try dsimp only at hSw); go_simp; (try with_reducible rfl)
      try simp only [Act.put, List.getElem_toArray, List.getElem_cons_succ, List.getElem_cons_zero, List.setIfInBounds_toArray, List.set_cons_zero, List.set_cons_succ]
      refine wpAnyH_take (i := 1) (v := ?_) rfl (by kernel_rfl) (by kernel_rfl) (by kernel_rfl) (fun _ _ _ h => h) (Or.inl ⟨by rfl, ?_⟩) (by assumption) ?_
      rotate_left
      · intro w hSw; (try dsimp only at hSw); go_simp; (try with_reducible rfl)
      try simp only [Act.put, List.getElem_toArray, List.getElem_cons_succ, List.getElem_cons_zero, List.setIfInBounds_toArray, List.set_cons_zero, List.set_cons_succ]
      refine wpAnyH_take (i := 2) (v := ?_) rfl (by kernel_rfl) (by kernel_rfl) (by kernel_rfl) (fun _ _ _ h => h) (Or.inl ⟨by rfl, ?_⟩) (by assumption) ?_
      rotate_left
      · intro w hSw; (try dsimp only at hSw); go_simp; (try with_reducible rfl)
      try simp only [Act.put, List.getElem_toArray, List.getElem_cons_succ, List.getElem_cons_zero, List.setIfInBounds_toArray, List.set_cons_zero, List.set_cons_succ]
      refine wpAnyH_take (i := 3) (v := ?_) rfl (by kernel_rfl) (by kernel_rfl) (by kernel_rfl) (fun _ _ _ h => h) (Or.inl ⟨by rfl, ?_⟩) (by assumption) ?_
      rotate_left
      · intro w hSw; (try dsimp only at hSw); go_simp; (try with_reducible rfl)
      try simp only [Act.put, List.getElem_toArray, List.getElem_cons_succ, List.getElem_cons_zero, List.setIfInBounds_toArray, List.set_cons_zero, List.set_cons_succ]
      refine wpAnyH_take (i := 4) (v := ?_) rfl (by kernel_rfl) (by kernel_rfl) (by kernel_rfl) (fun _ _ _ h => h) (Or.inl ⟨by rfl, ?_⟩) (by assumption) ?_
      rotate_left
      · intro w hSw; (try dsimp only at hSw); go_simp; (try with_reducible rfl)
      try simp only [Act.put, List.getElem_toArray, List.getElem_cons_succ, List.getElem_cons_zero, List.setIfInBounds_toArray, List.set_cons_zero, List.set_cons_succ]
      refine wpAnyH_take (i := 5) (v := ?_) rfl (by kernel_rfl) (by kernel_rfl) (by kernel_rfl) (fun _ _ _ h => h) (Or.inl ⟨by rfl, ?_⟩) (by assumption) ?_
      rotate_left
      · intro w hSw; (try dsimp only at hSw); go_simp; (try with_reducible rfl)
      try simp only [Act.put, List.getElem_toArray, List.getElem_cons_succ, List.getElem_cons_zero, List.setIfInBounds_toArray, List.set_cons_zero, List.set_cons_succ]
      refine wpAnyH_take (i := 6) (v := ?_) rfl (by kernel_rfl) (by kernel_rfl) (by kernel_rfl) (fun _ _ _ h => h) (Or.inl ⟨by rfl, ?_⟩) (by assumption) ?_
      rotate_left
      · intro w hSw; (try dsimp only at hSw); go_simp; (try with_reducible rfl)
      try simp only [Act.put, List.getElem_toArray, List.getElem_cons_succ, List.getElem_cons_zero, List.setIfInBounds_toArray, List.set_cons_zero, List.set_cons_succ]
      refine wpAnyH_take (i := 7) (v := ?_) rfl (by kernel_rfl) (by kernel_rfl) (by kernel_rfl) (fun _ _ _ h => h) (Or.inl ⟨by rfl, ?_⟩) (by assumption) ?_
      rotate_left
      · intro w hSw; (try dsimp only at hSw); go_simp; (try with_reducible rfl)
      try simp only [Act.put, List.getElem_toArray, List.getElem_cons_succ, List.getElem_cons_zero, List.setIfInBounds_toArray, List.set_cons_zero, List.set_cons_succ]
      refine wpAnyH_take (i := 8) (v := ?_) rfl (by kernel_rfl) (by kernel_rfl) (by kernel_rfl) (fun _ _ _ h => h) (Or.inl ⟨by rfl, ?_⟩) (by assumption) ?_
      rotate_left
      · intro w hSw; (try dsimp only at hSw); go_simp; (try with_reducible rfl)
      try simp only [Act.put, List.getElem_toArray, List.getElem_cons_succ, List.getElem_cons_zero, List.setIfInBounds_toArray, List.set_cons_zero, List.set_cons_succ]
      refine wpAnyH_take (i := 9) (v := ?_) rfl (by kernel_rfl) (by kernel_rfl) (by kernel_rfl) (fun _ _ _ h => h) (Or.inl ⟨by rfl, ?_⟩) (by assumption) ?_
      rotate_left
      · intro w hSw; (try dsimp only at hSw); go_simp; (try with_reducible rfl)
      try simp only [Act.put, List.getElem_toArray, List.getElem_cons_succ, List.getElem_cons_zero, List.setIfInBounds_toArray, List.set_cons_zero, List.set_cons_succ]
      refine wpAnyH_take (i := 10) (v := ?_) rfl (by kernel_rfl) (by kernel_rfl) (by kernel_rfl) (fun _ _ _ h => h) (Or.inl ⟨by rfl, ?_⟩) (by assumption) ?_
      rotate_left
      · intro w hSw; (try dsimp only at hSw); go_simp; (try with_reducible rfl)
      try simp only [Act.put, List.getElem_toArray, List.getElem_cons_succ, List.getElem_cons_zero, List.setIfInBounds_toArray, List.set_cons_zero, List.set_cons_succ]
      refine wpAnyH_take (i := 11) (v := _) rfl (by kernel_rfl) (by kernel_rfl) (by kernel_rfl) (fun _ _ _ h => h) (Or.inr ⟨by rfl, rfl⟩) (by assumption) ?_
      try simp only [Act.put, List.getElem_toArray, List.getElem_cons_succ, List.getElem_cons_zero, List.setIfInBounds_toArray, List.set_cons_zero, List.set_cons_succ]
      refine wpAnyH_take (i := 12) (v := _) rfl (by kernel_rfl) (by kernel_rfl) (by kernel_rfl) (fun _ _ _ h => h) (Or.inr ⟨by rfl, rfl⟩) (by assumption) ?_
      try simp only [Act.put, List.getElem_toArray, List.getElem_cons_succ, List.getElem_cons_zero, List.setIfInBounds_toArray, List.set_cons_zero, List.set_cons_succ]
      refine wpAnyH_take (i := 13) (v := _) rfl (by kernel_rfl) (by kernel_rfl) (by kernel_rfl) (fun _ _ _ h => h) (Or.inr ⟨by rfl, rfl⟩) (by assumption) ?_
      try simp only [Act.put, List.getElem_toArray, List.getElem_cons_succ, List.getElem_cons_zero, List.setIfInBounds_toArray, List.set_cons_zero, List.set_cons_succ]
      refine wpAnyH_take (i := 14) (v := ?_) rfl (by kernel_rfl) (by kernel_rfl) (by kernel_rfl) (fun _ _ _ h => h) (Or.inl ⟨by rfl, ?_⟩) (by assumption) ?_
      rotate_left
      · intro w hSw; (try dsimp only at hSw); go_simp; (try with_reducible rfl)
      try simp only [Act.put, List.getElem_toArray, List.getElem_cons_succ, List.getElem_cons_zero, List.setIfInBounds_toArray, List.set_cons_zero, List.set_cons_succ]
      refine wpAnyH_ready (rs := [15]) (by kernel_rfl) (by simp) ?_
      refine AllReadyH.cons rfl (fun K hK => ?_) AllReadyH.nil
      go_simp
      refine hK.out _ _ ?_ (fun hNow => ?_)
      · first | ((first | with_reducible exact hC1 | (with_reducible exact hHeld) | (with_reducible exact ⟨⟨far4d hHeld.1.1 u1, far4d hHeld.1.2.1 u1, far4d hHeld.1.2.2.1 u1, far4d hHeld.1.2.2.2 u1⟩, ⟨far4d hHeld.2.1 u3, far4d hHeld.2.2.1 u3, far4d hHeld.2.2.2.1 u3, far4d hHeld.2.2.2.2 u3⟩⟩) | (with_reducible exact ⟨⟨far4d hHeld.1.1 u2, far4d hHeld.1.2.1 u2, far4d hHeld.1.2.2.1 u2, far4d hHeld.1.2.2.2 u2⟩, ⟨far4d hHeld.2.1 u4, far4d hHeld.2.2.1 u4, far4d hHeld.2.2.2.1 u4, far4d hHeld.2.2.2.2 u4⟩⟩))) | (dsimp only; ((first | with_reducible exact hC1 | (with_reducible exact hHeld) | (with_reducible exact ⟨⟨far4d hHeld.1.1 u1, far4d hHeld.1.2.1 u1, far4d hHeld.1.2.2.1 u1, far4d hHeld.1.2.2.2 u1⟩, ⟨far4d hHeld.2.1 u3, far4d hHeld.2.2.1 u3, far4d hHeld.2.2.2.1 u3, far4d hHeld.2.2.2.2 u3⟩⟩) | (with_reducible exact ⟨⟨far4d hHeld.1.1 u2, far4d hHeld.1.2.1 u2, far4d hHeld.1.2.2.1 u2, far4d hHeld.1.2.2.2 u2⟩, ⟨far4d hHeld.2.1 u4, far4d hHeld.2.2.1 u4, far4d hHeld.2.2.2.1 u4, far4d hHeld.2.2.2.2 u4⟩⟩))))
      clear hK K hHeld
      have hHeld := hNow
      clear hNow
      try simp only [Act.put, List.getElem_toArray, List.getElem_cons_succ, List.getElem_cons_zero, List.setIfInBounds_toArray, List.set_cons_zero, List.set_cons_succ]
      refine wpAnyH_ready (rs := [16]) (by kernel_rfl) (by simp) ?_
      refine AllReadyH.cons rfl (fun K hK => ?_) AllReadyH.nil
      go_simp
      refine hK.out _ _ ?_ (fun hNow => ?_)
      · first | ((first | with_reducible exact hC1 | (with_reducible exact hHeld) | (with_reducible exact ⟨⟨far4d hHeld.1.1 u1, far4d hHeld.1.2.1 u1, far4d hHeld.1.2.2.1 u1, far4d hHeld.1.2.2.2 u1⟩, ⟨far4d hHeld.2.1 u3, far4d hHeld.2.2.1 u3, far4d hHeld.2.2.2.1 u3, far4d hHeld.2.2.2.2 u3⟩⟩) | (with_reducible exact ⟨⟨far4d hHeld.1.1 u2, far4d hHeld.1.2.1 u2, far4d hHeld.1.2.2.1 u2, far4d hHeld.1.2.2.2 u2⟩, ⟨far4d hHeld.2.1 u4, far4d hHeld.2.2.1 u4, far4d hHeld.2.2.2.1 u4, far4d hHeld.2.2.2.2 u4⟩⟩))) | (dsimp only; ((first | with_reducible exact hC1 | (with_reducible exact hHeld) | (with_reducible exact ⟨⟨far4d hHeld.1.1 u1, far4d hHeld.1.2.1 u1, far4d hHeld.1.2.2.1 u1, far4d hHeld.1.2.2.2 u1⟩, ⟨far4d hHeld.2.1 u3, far4d hHeld.2.2.1 u3, far4d hHeld.2.2.2.1 u3, far4d hHeld.2.2.2.2 u3⟩⟩) | (with_reducible exact ⟨⟨far4d hHeld.1.1 u2, far4d hHeld.1.2.1 u2, far4d hHeld.1.2.2.1 u2, far4d hHeld.1.2.2.2 u2⟩, ⟨far4d hHeld.2.1 u4, far4d hHeld.2.2.1 u4, far4d hHeld.2.2.2.1 u4, far4d hHeld.2.2.2.2 u4⟩⟩))))
      clear hK K hHeld
      have hHeld := hNow
      clear hNow
      try simp only [Act.put, List.getElem_toArray, List.getElem_cons_succ, List.getElem_cons_zero, List.setIfInBounds_toArray, List.set_cons_zero, List.set_cons_succ]
      refine wpAnyH_ready (rs := [17]) (by kernel_rfl) (by simp) ?_
      refine AllReadyH.cons rfl (fun K hK => ?_) AllReadyH.nil
      go_simp
      refine hK.out _ _ ?_ (fun hNow => ?_)
      · first | ((first | with_reducible exact hC1 | (with_reducible exact hHeld) | (with_reducible exact ⟨⟨far4d hHeld.1.1 u1, far4d hHeld.1.2.1 u1, far4d hHeld.1.2.2.1 u1, far4d hHeld.1.2.2.2 u1⟩, ⟨far4d hHeld.2.1 u3, far4d hHeld.2.2.1 u3, far4d hHeld.2.2.2.1 u3, far4d hHeld.2.2.2.2 u3⟩⟩) | (with_reducible exact ⟨⟨far4d hHeld.1.1 u2, far4d hHeld.1.2.1 u2, far4d hHeld.1.2.2.1 u2, far4d hHeld.1.2.2.2 u2⟩, ⟨far4d hHeld.2.1 u4, far4d hHeld.2.2.1 u4, far4d hHeld.2.2.2.1 u4, far4d hHeld.2.2.2.2 u4⟩⟩))) | (dsimp only; ((first | with_reducible exact hC1 | (with_reducible exact hHeld) | (with_reducible exact ⟨⟨far4d hHeld.1.1 u1, far4d hHeld.1.2.1 u1, far4d hHeld.1.2.2.1 u1, far4d hHeld.1.2.2.2 u1⟩, ⟨far4d hHeld.2.1 u3, far4d hHeld.2.2.1 u3, far4d hHeld.2.2.2.1 u3, far4d hHeld.2.2.2.2 u3⟩⟩) | (with_reducible exact ⟨⟨far4d hHeld.1.1 u2, far4d hHeld.1.2.1 u2, far4d hHeld.1.2.2.1 u2, far4d hHeld.1.2.2.2 u2⟩, ⟨far4d hHeld.2.1 u4, far4d hHeld.2.2.1 u4, far4d hHeld.2.2.2.1 u4, far4d hHeld.2.2.2.2 u4⟩⟩))))
      clear hK K hHeld
      have hHeld := hNow
      clear hNow
      try simp only [Act.put, List.getElem_toArray, List.getElem_cons_succ, List.getElem_cons_zero, List.setIfInBounds_toArray, List.set_cons_zero, List.set_cons_succ]
      refine wpAnyH_done (by kernel_rfl) ?_ _
      go_wp2
      refine bodyPost_ret (v := .tuple #[ptV X, ptV G, .bool false]) (by simp only [results, Try.results28]; simp [go_sem, d0, d1, d2, d3, e0, e1, e2, e3, a0, a1, a2, a3, b0, b1, b2, b3, u5, u6]) rfl ⟨(by rw [← hBH.out, hd1, hd2]; rfl), ?_⟩
      refine Below.drew ?_
      repeat' (first | (with_reducible exact hstH.out.bel) | (refine Below.setCell ?_ (by simp; omega) _) | (refine Below.setCell ?_ (by show w.heap.size ≤ w.heap.size + 3; omega) _) | (refine Below.setCell ?_ (by show w.heap.size ≤ w.heap.size + 4; omega) _))
    cases hd3 : decide (X.w ≤ 1000000000)
    · skip
      have hC1 : (fun w' => (w'.cell? ⟨w.heap.size + 1, 0, none⟩ = some (.int .i64 X.g) ∧ w'.cell? ⟨w.heap.size + 1, 1, none⟩ = some (.int .i64 X.y) ∧ w'.cell? ⟨w.heap.size + 1, 2, none⟩ = some (.int .i64 X.t) ∧ w'.cell? ⟨w.heap.size + 1, 3, none⟩ = some (.int .i64 X.w)) ∧ (w'.cell? ⟨w.heap.size + 5, 0, none⟩ = some (.int .i64 G.g) ∧ w'.cell? ⟨w.heap.size + 5, 1, none⟩ = some (.int .i64 G.y) ∧ w'.cell? ⟨w.heap.size + 5, 2, none⟩ = some (.int .i64 G.t) ∧ w'.cell? ⟨w.heap.size + 5, 3, none⟩ = some (.int .i64 G.w))) wc.drew := ⟨⟨f0, f1, f2, f3⟩, ⟨g0, g1, g2, g3⟩⟩
      dsimp only at hC1
      go_wp2_with fail
      refine wp_region_held_drew (S := (fun w' => (w'.cell? ⟨w.heap.size + 1, 0, none⟩ = some (.int .i64 X.g) ∧ w'.cell? ⟨w.heap.size + 1, 1, none⟩ = some (.int .i64 X.y) ∧ w'.cell? ⟨w.heap.size + 1, 2, none⟩ = some (.int .i64 X.t) ∧ w'.cell? ⟨w.heap.size + 1, 3, none⟩ = some (.int .i64 X.w)) ∧ (w'.cell? ⟨w.heap.size + 5, 0, none⟩ = some (.int .i64 G.g) ∧ w'.cell? ⟨w.heap.size + 5, 1, none⟩ = some (.int .i64 G.y) ∧ w'.cell? ⟨w.heap.size + 5, 2, none⟩ = some (.int .i64 G.t) ∧ w'.cell? ⟨w.heap.size + 5, 3, none⟩ = some (.int .i64 G.w)))) (by kernel_rfl) ?_ (fun hHeld => ?_)
      · first | ((first | with_reducible exact hC1 | (with_reducible exact hHeld) | (with_reducible exact ⟨⟨far4d hHeld.1.1 u1, far4d hHeld.1.2.1 u1, far4d hHeld.1.2.2.1 u1, far4d hHeld.1.2.2.2 u1⟩, ⟨far4d hHeld.2.1 u3, far4d hHeld.2.2.1 u3, far4d hHeld.2.2.2.1 u3, far4d hHeld.2.2.2.2 u3⟩⟩) | (with_reducible exact ⟨⟨far4d hHeld.1.1 u2, far4d hHeld.1.2.1 u2, far4d hHeld.1.2.2.1 u2, far4d hHeld.1.2.2.2 u2⟩, ⟨far4d hHeld.2.1 u4, far4d hHeld.2.2.1 u4, far4d hHeld.2.2.2.1 u4, far4d hHeld.2.2.2.2 u4⟩⟩))) | (dsimp only; ((first | with_reducible exact hC1 | (with_reducible exact hHeld) | (with_reducible exact ⟨⟨far4d hHeld.1.1 u1, far4d hHeld.1.2.1 u1, far4d hHeld.1.2.2.1 u1, far4d hHeld.1.2.2.2 u1⟩, ⟨far4d hHeld.2.1 u3, far4d hHeld.2.2.1 u3, far4d hHeld.2.2.2.1 u3, far4d hHeld.2.2.2.2 u3⟩⟩) | (with_reducible exact ⟨⟨far4d hHeld.1.1 u2, far4d hHeld.1.2.1 u2, far4d hHeld.1.2.2.1 u2, far4d hHeld.1.2.2.2 u2⟩, ⟨far4d hHeld.2.1 u4, far4d hHeld.2.2.1 u4, far4d hHeld.2.2.2.1 u4, far4d hHeld.2.2.2.2 u4⟩⟩))))
      refine wpAnyH_take (i := 0) (v := ?_) rfl (by kernel_rfl) (by kernel_rfl) (by kernel_rfl) (fun _ _ _ h => h) (Or.inl ⟨by rfl, ?_⟩) (by assumption) ?_
      rotate_left
      · intro w hSw; (try dsimp only at hSw); go_simp; (try with_reducible rfl)
      try simp only [Act.put, List.getElem_toArray, List.getElem_cons_succ, List.getElem_cons_zero, List.setIfInBounds_toArray, List.set_cons_zero, List.set_cons_succ]
      refine wpAnyH_take (i := 1) (v := ?_) rfl (by kernel_rfl) (by kernel_rfl) (by kernel_rfl) (fun _ _ _ h => h) (Or.inl ⟨by rfl, ?_⟩) (by assumption) ?_
      rotate_left
      · intro w hSw; (try dsimp only at hSw); go_simp; (try with_reducible rfl)
      try simp only [Act.put, List.getElem_toArray, List.getElem_cons_succ, List.getElem_cons_zero, List.setIfInBounds_toArray, List.set_cons_zero, List.set_cons_succ]
      refine wpAnyH_take (i := 2) (v := ?_) rfl (by kernel_rfl) (by kernel_rfl) (by kernel_rfl) (fun _ _ _ h => h) (Or.inl ⟨by rfl, ?_⟩) (by assumption) ?_
      rotate_left
      · intro w hSw; (try dsimp only at hSw); go_simp; (try with_reducible rfl)
      try simp only [Act.put, List.getElem_toArray, List.getElem_cons_succ, List.getElem_cons_zero, List.setIfInBounds_toArray, List.set_cons_zero, List.set_cons_succ]
      refine wpAnyH_take (i := 3) (v := ?_) rfl (by kernel_rfl) (by kernel_rfl) (by kernel_rfl) (fun _ _ _ h => h) (Or.inl ⟨by rfl, ?_⟩) (by assumption) ?_
      rotate_left
      · intro w hSw; (try dsimp only at hSw); go_simp; (try with_reducible rfl)
      try simp only [Act.put, List.getElem_toArray, List.getElem_cons_succ, List.getElem_cons_zero, List.setIfInBounds_toArray, List.set_cons_zero, List.set_cons_succ]
      refine wpAnyH_take (i := 4) (v := ?_) rfl (by kernel_rfl) (by kernel_rfl) (by kernel_rfl) (fun _ _ _ h => h) (Or.inl ⟨by rfl, ?_⟩) (by assumption) ?_
      rotate_left
      · intro w hSw; (try dsimp only at hSw); go_simp; (try with_reducible rfl)
      try simp only [Act.put, List.getElem_toArray, List.getElem_cons_succ, List.getElem_cons_zero, List.setIfInBounds_toArray, List.set_cons_zero, List.set_cons_succ]
      refine wpAnyH_take (i := 5) (v := ?_) rfl (by kernel_rfl) (by kernel_rfl) (by kernel_rfl) (fun _ _ _ h => h) (Or.inl ⟨by rfl, ?_⟩) (by assumption) ?_
      rotate_left
      · intro w hSw; (try dsimp only at hSw); go_simp; (try with_reducible rfl)
      try simp only [Act.put, List.getElem_toArray, List.getElem_cons_succ, List.getElem_cons_zero, List.setIfInBounds_toArray, List.set_cons_zero, List.set_cons_succ]
      refine wpAnyH_take (i := 6) (v := ?_) rfl (by kernel_rfl) (by kernel_rfl) (by kernel_rfl) (fun _ _ _ h => h) (Or.inl ⟨by rfl, ?_⟩) (by assumption) ?_
      rotate_left
      · intro w hSw; (try dsimp only at hSw); go_simp; (try with_reducible rfl)
      try simp only [Act.put, List.getElem_toArray, List.getElem_cons_succ, List.getElem_cons_zero, List.setIfInBounds_toArray, List.set_cons_zero, List.set_cons_succ]
      refine wpAnyH_take (i := 7) (v := ?_) rfl (by kernel_rfl) (by kernel_rfl) (by kernel_rfl) (fun _ _ _ h => h) (Or.inl ⟨by rfl, ?_⟩) (by assumption) ?_
      rotate_left
      · intro w hSw; (try dsimp only at hSw); go_simp; (try with_reducible rfl)
      try simp only [Act.put, List.getElem_toArray, List.getElem_cons_succ, List.getElem_cons_zero, List.setIfInBounds_toArray, List.set_cons_zero, List.set_cons_succ]
      refine wpAnyH_take (i := 8) (v := ?_) rfl (by kernel_rfl) (by kernel_rfl) (by kernel_rfl) (fun _ _ _ h => h) (Or.inl ⟨by rfl, ?_⟩) (by assumption) ?_
      rotate_left
      · intro w hSw; (try dsimp only at hSw); go_simp; (try with_reducible rfl)
      try simp only [Act.put, List.getElem_toArray, List.getElem_cons_succ, List.getElem_cons_zero, List.setIfInBounds_toArray, List.set_cons_zero, List.set_cons_succ]
      refine wpAnyH_take (i := 9) (v := ?_) rfl (by kernel_rfl) (by kernel_rfl) (by kernel_rfl) (fun _ _ _ h => h) (Or.inl ⟨by rfl, ?_⟩) (by assumption) ?_
      rotate_left
      · intro w hSw; (try dsimp only at hSw); go_simp; (try with_reducible rfl)
      try simp only [Act.put, List.getElem_toArray, List.getElem_cons_succ, List.getElem_cons_zero, List.setIfInBounds_toArray, List.set_cons_zero, List.set_cons_succ]
      refine wpAnyH_take (i := 10) (v := ?_) rfl (by kernel_rfl) (by kernel_rfl) (by kernel_rfl) (fun _ _ _ h => h) (Or.inl ⟨by rfl, ?_⟩) (by assumption) ?_
      rotate_left
      · intro w hSw; (try dsimp only at hSw); go_simp; (try with_reducible rfl)
      try simp only [Act.put, List.getElem_toArray, List.getElem_cons_succ, List.getElem_cons_zero, List.setIfInBounds_toArray, List.set_cons_zero, List.set_cons_succ]
      refine wpAnyH_take (i := 11) (v := ?_) rfl (by kernel_rfl) (by kernel_rfl) (by kernel_rfl) (fun _ _ _ h => h) (Or.inl ⟨by rfl, ?_⟩) (by assumption) ?_
      rotate_left
      · intro w hSw; (try dsimp only at hSw); go_simp; (try with_reducible rfl)
      try simp only [Act.put, List.getElem_toArray, List.getElem_cons_succ, List.getElem_cons_zero, List.setIfInBounds_toArray, List.set_cons_zero, List.set_cons_succ]
      refine wpAnyH_take (i := 12) (v := ?_) rfl (by kernel_rfl) (by kernel_rfl) (by kernel_rfl) (fun _ _ _ h => h) (Or.inl ⟨by rfl, ?_⟩) (by assumption) ?_
      rotate_left
      · intro w hSw; (try dsimp only at hSw); go_simp; (try with_reducible rfl)
      try simp only [Act.put, List.getElem_toArray, List.getElem_cons_succ, List.getElem_cons_zero, List.setIfInBounds_toArray, List.set_cons_zero, List.set_cons_succ]
      refine wpAnyH_take (i := 13) (v := ?_) rfl (by kernel_rfl) (by kernel_rfl) (by kernel_rfl) (fun _ _ _ h => h) (Or.inl ⟨by rfl, ?_⟩) (by assumption) ?_
      rotate_left
      · intro w hSw; (try dsimp only at hSw); go_simp; (try with_reducible rfl)
      try simp only [Act.put, List.getElem_toArray, List.getElem_cons_succ, List.getElem_cons_zero, List.setIfInBounds_toArray, List.set_cons_zero, List.set_cons_succ]
      refine wpAnyH_take (i := 14) (v := ?_) rfl (by kernel_rfl) (by kernel_rfl) (by kernel_rfl) (fun _ _ _ h => h) (Or.inl ⟨by rfl, ?_⟩) (by assumption) ?_
      rotate_left
      · intro w hSw; (try dsimp only at hSw); go_simp; (try with_reducible rfl)
      try simp only [Act.put, List.getElem_toArray, List.getElem_cons_succ, List.getElem_cons_zero, List.setIfInBounds_toArray, List.set_cons_zero, List.set_cons_succ]
      refine wpAnyH_ready (rs := [15]) (by kernel_rfl) (by simp) ?_
      refine AllReadyH.cons rfl (fun K hK => ?_) AllReadyH.nil
      go_simp
      refine hK.out _ _ ?_ (fun hNow => ?_)
      · first | ((first | with_reducible exact hC1 | (with_reducible exact hHeld) | (with_reducible exact ⟨⟨far4d hHeld.1.1 u1, far4d hHeld.1.2.1 u1, far4d hHeld.1.2.2.1 u1, far4d hHeld.1.2.2.2 u1⟩, ⟨far4d hHeld.2.1 u3, far4d hHeld.2.2.1 u3, far4d hHeld.2.2.2.1 u3, far4d hHeld.2.2.2.2 u3⟩⟩) | (with_reducible exact ⟨⟨far4d hHeld.1.1 u2, far4d hHeld.1.2.1 u2, far4d hHeld.1.2.2.1 u2, far4d hHeld.1.2.2.2 u2⟩, ⟨far4d hHeld.2.1 u4, far4d hHeld.2.2.1 u4, far4d hHeld.2.2.2.1 u4, far4d hHeld.2.2.2.2 u4⟩⟩))) | (dsimp only; ((first | with_reducible exact hC1 | (with_reducible exact hHeld) | (with_reducible exact ⟨⟨far4d hHeld.1.1 u1, far4d hHeld.1.2.1 u1, far4d hHeld.1.2.2.1 u1, far4d hHeld.1.2.2.2 u1⟩, ⟨far4d hHeld.2.1 u3, far4d hHeld.2.2.1 u3, far4d hHeld.2.2.2.1 u3, far4d hHeld.2.2.2.2 u3⟩⟩) | (with_reducible exact ⟨⟨far4d hHeld.1.1 u2, far4d hHeld.1.2.1 u2, far4d hHeld.1.2.2.1 u2, far4d hHeld.1.2.2.2 u2⟩, ⟨far4d hHeld.2.1 u4, far4d hHeld.2.2.1 u4, far4d hHeld.2.2.2.1 u4, far4d hHeld.2.2.2.2 u4⟩⟩))))
      clear hK K hHeld
      have hHeld := hNow
      clear hNow
      try simp only [Act.put, List.getElem_toArray, List.getElem_cons_succ, List.getElem_cons_zero, List.setIfInBounds_toArray, List.set_cons_zero, List.set_cons_succ]
      refine wpAnyH_ready (rs := [16]) (by kernel_rfl) (by simp) ?_
      refine AllReadyH.cons rfl (fun K hK => ?_) AllReadyH.nil
      go_simp
      refine hK.out _ _ ?_ (fun hNow => ?_)
      · first | ((first | with_reducible exact hC1 | (with_reducible exact hHeld) | (with_reducible exact ⟨⟨far4d hHeld.1.1 u1, far4d hHeld.1.2.1 u1, far4d hHeld.1.2.2.1 u1, far4d hHeld.1.2.2.2 u1⟩, ⟨far4d hHeld.2.1 u3, far4d hHeld.2.2.1 u3, far4d hHeld.2.2.2.1 u3, far4d hHeld.2.2.2.2 u3⟩⟩) | (with_reducible exact ⟨⟨far4d hHeld.1.1 u2, far4d hHeld.1.2.1 u2, far4d hHeld.1.2.2.1 u2, far4d hHeld.1.2.2.2 u2⟩, ⟨far4d hHeld.2.1 u4, far4d hHeld.2.2.1 u4, far4d hHeld.2.2.2.1 u4, far4d hHeld.2.2.2.2 u4⟩⟩))) | (dsimp only; ((first | with_reducible exact hC1 | (with_reducible exact hHeld) | (with_reducible exact ⟨⟨far4d hHeld.1.1 u1, far4d hHeld.1.2.1 u1, far4d hHeld.1.2.2.1 u1, far4d hHeld.1.2.2.2 u1⟩, ⟨far4d hHeld.2.1 u3, far4d hHeld.2.2.1 u3, far4d hHeld.2.2.2.1 u3, far4d hHeld.2.2.2.2 u3⟩⟩) | (with_reducible exact ⟨⟨far4d hHeld.1.1 u2, far4d hHeld.1.2.1 u2, far4d hHeld.1.2.2.1 u2, far4d hHeld.1.2.2.2 u2⟩, ⟨far4d hHeld.2.1 u4, far4d hHeld.2.2.1 u4, far4d hHeld.2.2.2.1 u4, far4d hHeld.2.2.2.2 u4⟩⟩))))
      clear hK K hHeld
      have hHeld := hNow
      clear hNow
      try simp only [Act.put, List.getElem_toArray, List.getElem_cons_succ, List.getElem_cons_zero, List.setIfInBounds_toArray, List.set_cons_zero, List.set_cons_succ]
      refine wpAnyH_ready (rs := [17]) (by kernel_rfl) (by simp) ?_
      refine AllReadyH.cons rfl (fun K hK => ?_) AllReadyH.nil
      go_simp
      refine hK.out _ _ ?_ (fun hNow => ?_)
      · first | ((first | with_reducible exact hC1 | (with_reducible exact hHeld) | (with_reducible exact ⟨⟨far4d hHeld.1.1 u1, far4d hHeld.1.2.1 u1, far4d hHeld.1.2.2.1 u1, far4d hHeld.1.2.2.2 u1⟩, ⟨far4d hHeld.2.1 u3, far4d hHeld.2.2.1 u3, far4d hHeld.2.2.2.1 u3, far4d hHeld.2.2.2.2 u3⟩⟩) | (with_reducible exact ⟨⟨far4d hHeld.1.1 u2, far4d hHeld.1.2.1 u2, far4d hHeld.1.2.2.1 u2, far4d hHeld.1.2.2.2 u2⟩, ⟨far4d hHeld.2.1 u4, far4d hHeld.2.2.1 u4, far4d hHeld.2.2.2.1 u4, far4d hHeld.2.2.2.2 u4⟩⟩))) | (dsimp only; ((first | with_reducible exact hC1 | (with_reducible exact hHeld) | (with_reducible exact ⟨⟨far4d hHeld.1.1 u1, far4d hHeld.1.2.1 u1, far4d hHeld.1.2.2.1 u1, far4d hHeld.1.2.2.2 u1⟩, ⟨far4d hHeld.2.1 u3, far4d hHeld.2.2.1 u3, far4d hHeld.2.2.2.1 u3, far4d hHeld.2.2.2.2 u3⟩⟩) | (with_reducible exact ⟨⟨far4d hHeld.1.1 u2, far4d hHeld.1.2.1 u2, far4d hHeld.1.2.2.1 u2, far4d hHeld.1.2.2.2 u2⟩, ⟨far4d hHeld.2.1 u4, far4d hHeld.2.2.1 u4, far4d hHeld.2.2.2.1 u4, far4d hHeld.2.2.2.2 u4⟩⟩))))
      clear hK K hHeld
      have hHeld := hNow
      clear hNow
      try simp only [Act.put, List.getElem_toArray, List.getElem_cons_succ, List.getElem_cons_zero, List.setIfInBounds_toArray, List.set_cons_zero, List.set_cons_succ]
      refine wpAnyH_done (by kernel_rfl) ?_ _
      go_wp2
      refine bodyPost_ret (v := .tuple #[ptV X, ptV G, .bool false]) (by simp only [results, Try.results28]; simp [go_sem, d0, d1, d2, d3, e0, e1, e2, e3, a0, a1, a2, a3, b0, b1, b2, b3, u5, u6]) rfl ⟨(by rw [← hBH.out, hd1, hd2, hd3]; rfl), ?_⟩
      refine Below.drew ?_
      repeat' (first | (with_reducible exact hstH.out.bel) | (refine Below.setCell ?_ (by simp; omega) _) | (refine Below.setCell ?_ (by show w.heap.size ≤ w.heap.size + 3; omega) _) | (refine Below.setCell ?_ (by show w.heap.size ≤ w.heap.size + 4; omega) _))
    have hC1 : (fun w' => (w'.cell? ⟨w.heap.size + 1, 0, none⟩ = some (.int .i64 X.g) ∧ w'.cell? ⟨w.heap.size + 1, 1, none⟩ = some (.int .i64 X.y) ∧ w'.cell? ⟨w.heap.size + 1, 2, none⟩ = some (.int .i64 X.t) ∧ w'.cell? ⟨w.heap.size + 1, 3, none⟩ = some (.int .i64 X.w)) ∧ (w'.cell? ⟨w.heap.size + 5, 0, none⟩ = some (.int .i64 G.g) ∧ w'.cell? ⟨w.heap.size + 5, 1, none⟩ = some (.int .i64 G.y) ∧ w'.cell? ⟨w.heap.size + 5, 2, none⟩ = some (.int .i64 G.t) ∧ w'.cell? ⟨w.heap.size + 5, 3, none⟩ = some (.int .i64 G.w))) wc.drew := ⟨⟨f0, f1, f2, f3⟩, ⟨g0, g1, g2, g3⟩⟩
    dsimp only at hC1
    go_wp2_with fail
    refine wp_region_held_drew (S := (fun w' => (w'.cell? ⟨w.heap.size + 1, 0, none⟩ = some (.int .i64 X.g) ∧ w'.cell? ⟨w.heap.size + 1, 1, none⟩ = some (.int .i64 X.y) ∧ w'.cell? ⟨w.heap.size + 1, 2, none⟩ = some (.int .i64 X.t) ∧ w'.cell? ⟨w.heap.size + 1, 3, none⟩ = some (.int .i64 X.w)) ∧ (w'.cell? ⟨w.heap.size + 5, 0, none⟩ = some (.int .i64 G.g) ∧ w'.cell? ⟨w.heap.size + 5, 1, none⟩ = some (.int .i64 G.y) ∧ w'.cell? ⟨w.heap.size + 5, 2, none⟩ = some (.int .i64 G.t) ∧ w'.cell? ⟨w.heap.size + 5, 3, none⟩ = some (.int .i64 G.w)))) (by kernel_rfl) ?_ (fun hHeld => ?_)
    · first | ((first | with_reducible exact hC1 | (with_reducible exact hHeld) | (with_reducible exact ⟨⟨far4d hHeld.1.1 u1, far4d hHeld.1.2.1 u1, far4d hHeld.1.2.2.1 u1, far4d hHeld.1.2.2.2 u1⟩, ⟨far4d hHeld.2.1 u3, far4d hHeld.2.2.1 u3, far4d hHeld.2.2.2.1 u3, far4d hHeld.2.2.2.2 u3⟩⟩) | (with_reducible exact ⟨⟨far4d hHeld.1.1 u2, far4d hHeld.1.2.1 u2, far4d hHeld.1.2.2.1 u2, far4d hHeld.1.2.2.2 u2⟩, ⟨far4d hHeld.2.1 u4, far4d hHeld.2.2.1 u4, far4d hHeld.2.2.2.1 u4, far4d hHeld.2.2.2.2 u4⟩⟩))) | (dsimp only; ((first | with_reducible exact hC1 | (with_reducible exact hHeld) | (with_reducible exact ⟨⟨far4d hHeld.1.1 u1, far4d hHeld.1.2.1 u1, far4d hHeld.1.2.2.1 u1, far4d hHeld.1.2.2.2 u1⟩, ⟨far4d hHeld.2.1 u3, far4d hHeld.2.2.1 u3, far4d hHeld.2.2.2.1 u3, far4d hHeld.2.2.2.2 u3⟩⟩) | (with_reducible exact ⟨⟨far4d hHeld.1.1 u2, far4d hHeld.1.2.1 u2, far4d hHeld.1.2.2.1 u2, far4d hHeld.1.2.2.2 u2⟩, ⟨far4d hHeld.2.1 u4, far4d hHeld.2.2.1 u4, far4d hHeld.2.2.2.1 u4, far4d hHeld.2.2.2.2 u4⟩⟩))))
    refine wpAnyH_take (i := 0) (v := ?_) rfl (by kernel_rfl) (by kernel_rfl) (by kernel_rfl) (fun _ _ _ h => h) (Or.inl ⟨by rfl, ?_⟩) (by assumption) ?_
    rotate_left
    · intro w hSw; (try dsimp only at hSw); go_simp; (try with_reducible rfl)
    try simp only [Act.put, List.getElem_toArray, List.getElem_cons_succ, List.getElem_cons_zero, List.setIfInBounds_toArray, List.set_cons_zero, List.set_cons_succ]
    refine wpAnyH_take (i := 1) (v := ?_) rfl (by kernel_rfl) (by kernel_rfl) (by kernel_rfl) (fun _ _ _ h => h) (Or.inl ⟨by rfl, ?_⟩) (by assumption) ?_
    rotate_left
    · intro w hSw; (try dsimp only at hSw); go_simp; (try with_reducible rfl)
    try simp only [Act.put, List.getElem_toArray, List.getElem_cons_succ, List.getElem_cons_zero, List.setIfInBounds_toArray, List.set_cons_zero, List.set_cons_succ]
    refine wpAnyH_take (i := 2) (v := ?_) rfl (by kernel_rfl) (by kernel_rfl) (by kernel_rfl) (fun _ _ _ h => h) (Or.inl ⟨by rfl, ?_⟩) (by assumption) ?_
    rotate_left
    · intro w hSw; (try dsimp only at hSw); go_simp; (try with_reducible rfl)
    try simp only [Act.put, List.getElem_toArray, List.getElem_cons_succ, List.getElem_cons_zero, List.setIfInBounds_toArray, List.set_cons_zero, List.set_cons_succ]
    refine wpAnyH_take (i := 3) (v := ?_) rfl (by kernel_rfl) (by kernel_rfl) (by kernel_rfl) (fun _ _ _ h => h) (Or.inl ⟨by rfl, ?_⟩) (by assumption) ?_
    rotate_left
    · intro w hSw; (try dsimp only at hSw); go_simp; (try with_reducible rfl)
    try simp only [Act.put, List.getElem_toArray, List.getElem_cons_succ, List.getElem_cons_zero, List.setIfInBounds_toArray, List.set_cons_zero, List.set_cons_succ]
    refine wpAnyH_take (i := 4) (v := ?_) rfl (by kernel_rfl) (by kernel_rfl) (by kernel_rfl) (fun _ _ _ h => h) (Or.inl ⟨by rfl, ?_⟩) (by assumption) ?_
    rotate_left
    · intro w hSw; (try dsimp only at hSw); go_simp; (try with_reducible rfl)
    try simp only [Act.put, List.getElem_toArray, List.getElem_cons_succ, List.getElem_cons_zero, List.setIfInBounds_toArray, List.set_cons_zero, List.set_cons_succ]
    refine wpAnyH_take (i := 5) (v := ?_) rfl (by kernel_rfl) (by kernel_rfl) (by kernel_rfl) (fun _ _ _ h => h) (Or.inl ⟨by rfl, ?_⟩) (by assumption) ?_
    rotate_left
    · intro w hSw; (try dsimp only at hSw); go_simp; (try with_reducible rfl)
    try simp only [Act.put, List.getElem_toArray, List.getElem_cons_succ, List.getElem_cons_zero, List.setIfInBounds_toArray, List.set_cons_zero, List.set_cons_succ]
    refine wpAnyH_take (i := 6) (v := ?_) rfl (by kernel_rfl) (by kernel_rfl) (by kernel_rfl) (fun _ _ _ h => h) (Or.inl ⟨by rfl, ?_⟩) (by assumption) ?_
    rotate_left
    · intro w hSw; (try dsimp only at hSw); go_simp; (try with_reducible rfl)
    try simp only [Act.put, List.getElem_toArray, List.getElem_cons_succ, List.getElem_cons_zero, List.setIfInBounds_toArray, List.set_cons_zero, List.set_cons_succ]
    refine wpAnyH_take (i := 7) (v := ?_) rfl (by kernel_rfl) (by kernel_rfl) (by kernel_rfl) (fun _ _ _ h => h) (Or.inl ⟨by rfl, ?_⟩) (by assumption) ?_
    rotate_left
    · intro w hSw; (try dsimp only at hSw); go_simp; (try with_reducible rfl)
    try simp only [Act.put, List.getElem_toArray, List.getElem_cons_succ, List.getElem_cons_zero, List.setIfInBounds_toArray, List.set_cons_zero, List.set_cons_succ]
    refine wpAnyH_take (i := 8) (v := ?_) rfl (by kernel_rfl) (by kernel_rfl) (by kernel_rfl) (fun _ _ _ h => h) (Or.inl ⟨by rfl, ?_⟩) (by assumption) ?_
    rotate_left
    · intro w hSw; (try dsimp only at hSw); go_simp; (try with_reducible rfl)
    try simp only [Act.put, List.getElem_toArray, List.getElem_cons_succ, List.getElem_cons_zero, List.setIfInBounds_toArray, List.set_cons_zero, List.set_cons_succ]
    refine wpAnyH_take (i := 9) (v := ?_) rfl (by kernel_rfl) (by kernel_rfl) (by kernel_rfl) (fun _ _ _ h => h) (Or.inl ⟨by rfl, ?_⟩) (by assumption) ?_
    rotate_left
    · intro w hSw; (try dsimp only at hSw); go_simp; (try with_reducible rfl)
    try simp only [Act.put, List.getElem_toArray, List.getElem_cons_succ, List.getElem_cons_zero, List.setIfInBounds_toArray, List.set_cons_zero, List.set_cons_succ]
    refine wpAnyH_take (i := 10) (v := ?_) rfl (by kernel_rfl) (by kernel_rfl) (by kernel_rfl) (fun _ _ _ h => h) (Or.inl ⟨by rfl, ?_⟩) (by assumption) ?_
    rotate_left
    · intro w hSw; (try dsimp only at hSw); go_simp; (try with_reducible rfl)
    try simp only [Act.put, List.getElem_toArray, List.getElem_cons_succ, List.getElem_cons_zero, List.setIfInBounds_toArray, List.set_cons_zero, List.set_cons_succ]
    refine wpAnyH_take (i := 11) (v := ?_) rfl (by kernel_rfl) (by kernel_rfl) (by kernel_rfl) (fun _ _ _ h => h) (Or.inl ⟨by rfl, ?_⟩) (by assumption) ?_
    rotate_left
    · intro w hSw; (try dsimp only at hSw); go_simp; (try with_reducible rfl)
    try simp only [Act.put, List.getElem_toArray, List.getElem_cons_succ, List.getElem_cons_zero, List.setIfInBounds_toArray, List.set_cons_zero, List.set_cons_succ]
    refine wpAnyH_take (i := 12) (v := ?_) rfl (by kernel_rfl) (by kernel_rfl) (by kernel_rfl) (fun _ _ _ h => h) (Or.inl ⟨by rfl, ?_⟩) (by assumption) ?_
    rotate_left
    · intro w hSw; (try dsimp only at hSw); go_simp; (try with_reducible rfl)
    try simp only [Act.put, List.getElem_toArray, List.getElem_cons_succ, List.getElem_cons_zero, List.setIfInBounds_toArray, List.set_cons_zero, List.set_cons_succ]
    refine wpAnyH_take (i := 13) (v := ?_) rfl (by kernel_rfl) (by kernel_rfl) (by kernel_rfl) (fun _ _ _ h => h) (Or.inl ⟨by rfl, ?_⟩) (by assumption) ?_
    rotate_left
    · intro w hSw; (try dsimp only at hSw); go_simp; (try with_reducible rfl)
    try simp only [Act.put, List.getElem_toArray, List.getElem_cons_succ, List.getElem_cons_zero, List.setIfInBounds_toArray, List.set_cons_zero, List.set_cons_succ]
    refine wpAnyH_take (i := 14) (v := ?_) rfl (by kernel_rfl) (by kernel_rfl) (by kernel_rfl) (fun _ _ _ h => h) (Or.inl ⟨by rfl, ?_⟩) (by assumption) ?_
    rotate_left
    · intro w hSw; (try dsimp only at hSw); go_simp; (try with_reducible rfl)
    try simp only [Act.put, List.getElem_toArray, List.getElem_cons_succ, List.getElem_cons_zero, List.setIfInBounds_toArray, List.set_cons_zero, List.set_cons_succ]
    refine wpAnyH_ready (rs := [15]) (by kernel_rfl) (by simp) ?_
    refine AllReadyH.cons rfl (fun K hK => ?_) AllReadyH.nil
    go_simp
    refine hK.out _ _ ?_ (fun hNow => ?_)
    · first | ((first | with_reducible exact hC1 | (with_reducible exact hHeld) | (with_reducible exact ⟨⟨far4d hHeld.1.1 u1, far4d hHeld.1.2.1 u1, far4d hHeld.1.2.2.1 u1, far4d hHeld.1.2.2.2 u1⟩, ⟨far4d hHeld.2.1 u3, far4d hHeld.2.2.1 u3, far4d hHeld.2.2.2.1 u3, far4d hHeld.2.2.2.2 u3⟩⟩) | (with_reducible exact ⟨⟨far4d hHeld.1.1 u2, far4d hHeld.1.2.1 u2, far4d hHeld.1.2.2.1 u2, far4d hHeld.1.2.2.2 u2⟩, ⟨far4d hHeld.2.1 u4, far4d hHeld.2.2.1 u4, far4d hHeld.2.2.2.1 u4, far4d hHeld.2.2.2.2 u4⟩⟩))) | (dsimp only; ((first | with_reducible exact hC1 | (with_reducible exact hHeld) | (with_reducible exact ⟨⟨far4d hHeld.1.1 u1, far4d hHeld.1.2.1 u1, far4d hHeld.1.2.2.1 u1, far4d hHeld.1.2.2.2 u1⟩, ⟨far4d hHeld.2.1 u3, far4d hHeld.2.2.1 u3, far4d hHeld.2.2.2.1 u3, far4d hHeld.2.2.2.2 u3⟩⟩) | (with_reducible exact ⟨⟨far4d hHeld.1.1 u2, far4d hHeld.1.2.1 u2, far4d hHeld.1.2.2.1 u2, far4d hHeld.1.2.2.2 u2⟩, ⟨far4d hHeld.2.1 u4, far4d hHeld.2.2.1 u4, far4d hHeld.2.2.2.1 u4, far4d hHeld.2.2.2.2 u4⟩⟩))))
    clear hK K hHeld
    have hHeld := hNow
    clear hNow
    try simp only [Act.put, List.getElem_toArray, List.getElem_cons_succ, List.getElem_cons_zero, List.setIfInBounds_toArray, List.set_cons_zero, List.set_cons_succ]
    refine wpAnyH_ready (rs := [16]) (by kernel_rfl) (by simp) ?_
    refine AllReadyH.cons rfl (fun K hK => ?_) AllReadyH.nil
    go_simp
    refine hK.out _ _ ?_ (fun hNow => ?_)
    · first | ((first | with_reducible exact hC1 | (with_reducible exact hHeld) | (with_reducible exact ⟨⟨far4d hHeld.1.1 u1, far4d hHeld.1.2.1 u1, far4d hHeld.1.2.2.1 u1, far4d hHeld.1.2.2.2 u1⟩, ⟨far4d hHeld.2.1 u3, far4d hHeld.2.2.1 u3, far4d hHeld.2.2.2.1 u3, far4d hHeld.2.2.2.2 u3⟩⟩) | (with_reducible exact ⟨⟨far4d hHeld.1.1 u2, far4d hHeld.1.2.1 u2, far4d hHeld.1.2.2.1 u2, far4d hHeld.1.2.2.2 u2⟩, ⟨far4d hHeld.2.1 u4, far4d hHeld.2.2.1 u4, far4d hHeld.2.2.2.1 u4, far4d hHeld.2.2.2.2 u4⟩⟩))) | (dsimp only; ((first | with_reducible exact hC1 | (with_reducible exact hHeld) | (with_reducible exact ⟨⟨far4d hHeld.1.1 u1, far4d hHeld.1.2.1 u1, far4d hHeld.1.2.2.1 u1, far4d hHeld.1.2.2.2 u1⟩, ⟨far4d hHeld.2.1 u3, far4d hHeld.2.2.1 u3, far4d hHeld.2.2.2.1 u3, far4d hHeld.2.2.2.2 u3⟩⟩) | (with_reducible exact ⟨⟨far4d hHeld.1.1 u2, far4d hHeld.1.2.1 u2, far4d hHeld.1.2.2.1 u2, far4d hHeld.1.2.2.2 u2⟩, ⟨far4d hHeld.2.1 u4, far4d hHeld.2.2.1 u4, far4d hHeld.2.2.2.1 u4, far4d hHeld.2.2.2.2 u4⟩⟩))))
    clear hK K hHeld
    have hHeld := hNow
    clear hNow
    try simp only [Act.put, List.getElem_toArray, List.getElem_cons_succ, List.getElem_cons_zero, List.setIfInBounds_toArray, List.set_cons_zero, List.set_cons_succ]
    refine wpAnyH_ready (rs := [17]) (by kernel_rfl) (by simp) ?_
    refine AllReadyH.cons rfl (fun K hK => ?_) AllReadyH.nil
    go_simp
    refine hK.out _ _ ?_ (fun hNow => ?_)
    · first | ((first | with_reducible exact hC1 | (with_reducible exact hHeld) | (with_reducible exact ⟨⟨far4d hHeld.1.1 u1, far4d hHeld.1.2.1 u1, far4d hHeld.1.2.2.1 u1, far4d hHeld.1.2.2.2 u1⟩, ⟨far4d hHeld.2.1 u3, far4d hHeld.2.2.1 u3, far4d hHeld.2.2.2.1 u3, far4d hHeld.2.2.2.2 u3⟩⟩) | (with_reducible exact ⟨⟨far4d hHeld.1.1 u2, far4d hHeld.1.2.1 u2, far4d hHeld.1.2.2.1 u2, far4d hHeld.1.2.2.2 u2⟩, ⟨far4d hHeld.2.1 u4, far4d hHeld.2.2.1 u4, far4d hHeld.2.2.2.1 u4, far4d hHeld.2.2.2.2 u4⟩⟩))) | (dsimp only; ((first | with_reducible exact hC1 | (with_reducible exact hHeld) | (with_reducible exact ⟨⟨far4d hHeld.1.1 u1, far4d hHeld.1.2.1 u1, far4d hHeld.1.2.2.1 u1, far4d hHeld.1.2.2.2 u1⟩, ⟨far4d hHeld.2.1 u3, far4d hHeld.2.2.1 u3, far4d hHeld.2.2.2.1 u3, far4d hHeld.2.2.2.2 u3⟩⟩) | (with_reducible exact ⟨⟨far4d hHeld.1.1 u2, far4d hHeld.1.2.1 u2, far4d hHeld.1.2.2.1 u2, far4d hHeld.1.2.2.2 u2⟩, ⟨far4d hHeld.2.1 u4, far4d hHeld.2.2.1 u4, far4d hHeld.2.2.2.1 u4, far4d hHeld.2.2.2.2 u4⟩⟩))))
    clear hK K hHeld
    have hHeld := hNow
    clear hNow
    try simp only [Act.put, List.getElem_toArray, List.getElem_cons_succ, List.getElem_cons_zero, List.setIfInBounds_toArray, List.set_cons_zero, List.set_cons_succ]
    refine wpAnyH_done (by kernel_rfl) ?_ _
    go_wp2
    refine bodyPost_ret (v := .tuple #[ptV X, ptV G, .bool true]) (by simp only [results, Try.results28]; simp [go_sem, d0, d1, d2, d3, e0, e1, e2, e3, a0, a1, a2, a3, b0, b1, b2, b3, u5, u6]) rfl ⟨(by rw [← hBH.out, hd1, hd2, hd3]; rfl), ?_⟩
    refine Below.drew ?_
    repeat' (first | (with_reducible exact hstH.out.bel) | (refine Below.setCell ?_ (by simp; omega) _) | (refine Below.setCell ?_ (by show w.heap.size ≤ w.heap.size + 3; omega) _) | (refine Below.setCell ?_ (by show w.heap.size ≤ w.heap.size + 4; omega) _))
end Go.Proofs.Ytdilgjhdimlbkaa
