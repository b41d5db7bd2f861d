/- Laws and walks: LTab, Lw4. -/
import Derived.Deep.Cut
import Derived.Test.YthjmdagonfeneaaGreatK40
set_option maxRecDepth 100000
set_option maxHeartbeats 16000000
set_option linter.unusedVariables false
set_option linter.unusedSimpArgs false
namespace Go.Proofs.YthjmdagonfeneaaGreat.L
open Go.RowKit Go.Sd Lk
def valAt (vs : List Value) (i : Nat) : Value := vs.getD i (.slice none 0 0)
theorem valAt_set {vs : List Value} {i j : Nat} {v : Value} (hi : i < vs.length) : valAt (vs.set i v) j = if j = i then v else valAt vs j := by
 unfold valAt
 by_cases h : j = i
 · subst h; simp [hi]
 · simp [h, List.getElem?_set, Ne.symm h]
theorem getD_set {α : Type} {rows : List (List α)} {i j : Nat} {v : List α} (hi : i < rows.length) : (rows.set i v).getD j [] = if j = i then v else rows.getD j [] := by
 by_cases h : j = i
 · subst h; simp [hi]
 · simp [h, List.getElem?_set, Ne.symm h]
section
variable {α : Type} {R E : TypeId} {m : Nat} {enc : α → List Value} {B b : Nat} {bad : List Nat} {w w' w1 : World} {vs : List Value} {rows : List (List α)}
structure OwnMat {α : Type} (R E : TypeId) (m : Nat) (enc : α → List Value) (B b : Nat) (w : World) (vs : List Value) (rows : List (List α)) : Prop where
 heap : w.heap[b]? = some (.cells vs.toArray R)
 len : vs.length = rows.length
 low : B ≤ b
 own : ∀ i, i < rows.length → OwnSt E m enc B w (valAt vs i) (rows.getD i [])
 ne : ∀ i, i < rows.length → (valAt vs i).ownBlock ≠ some b
 apart : ∀ i j, i < rows.length → j < rows.length → i ≠ j → (valAt vs i).ownBlock = none ∨ (valAt vs i).ownBlock ≠ (valAt vs j).ownBlock
theorem OwnMat.grown (h : OwnMat R E m enc B b w vs rows) (hg : w.grownBy w' none) : OwnMat R E m enc B b w' vs rows :=
 ⟨(hg.block b (zqo h.heap) (by simp)).trans h.heap, h.len, h.low, fun i hi => (h.own i hi).kept hg (by cases (valAt vs i).ownBlock <;> simp), h.ne, h.apart⟩
theorem OwnMat.mono (h : OwnMat R E m enc B b w vs rows) (hb : Below w.heap.size w w') : OwnMat R E m enc B b w' vs rows := h.grown (grown_of_below hb)
theorem OwnMat.more {i : Nat} {v' : Value} {y : α} (h : OwnMat R E m enc B b w vs rows) (hi : i < rows.length)
    (hg : w.grownBy w1 (valAt vs i).ownBlock) (ho : OwnSt E m enc B w1 v' (rows.getD i [] ++ [y])) (hat : v'.ownBlock = (valAt vs i).ownBlock ∨ ∃ k, v'.ownBlock = some k ∧ w.heap.size ≤ k) :
    OwnMat R E m enc B b (w1.setCell ⟨b, i, none⟩ v') (vs.set i v') (rows.set i (rows.getD i [] ++ [y])) := by
 have hiv : i < vs.length := by rw [h.len]; exact hi
 have hlt := (zqo h.heap)
 have hb1 : w1.heap[b]? = some (.cells vs.toArray R) := (hg.block b hlt (Ne.symm (h.ne i hi))).trans h.heap
 have hv'b : v'.ownBlock ≠ some b := by
  rcases hat with e | ⟨k, e, hk⟩
  · rw [e]; exact h.ne i hi
  · rw [e]; intro h'; cases h'; omega
 have hset : w1.grownBy (w1.setCell ⟨b, i, none⟩ v') (some b) := ⟨rfl, rfl, rfl, by simp [World.setCell], fun k _ hk => Below.heap_setCell _ _ _ _ (fun e => hk (by rw [e]))⟩
 have away : ∀ j, j < rows.length → j ≠ i → (valAt vs j).ownBlock = none ∨ (valAt vs j).ownBlock ≠ v'.ownBlock := by
  intro j hj hji
  rcases hat with e | ⟨k, e, hk⟩
  · rw [e]; exact h.apart j i hj hi hji
  · rw [e]
    cases hq : (valAt vs j).ownBlock with
    | none => exact .inl rfl
    | some q => exact .inr (by have := ((h.own j hj).lt q hq).2; intro h'; cases h'; omega)
 refine ⟨?_, by simp [h.len], h.low, ?_, ?_, ?_⟩
 · simp only [World.setCell, Array.getElem?_modify, if_true, hb1]
   simp
 · intro j hj
   rw [List.length_set] at hj
   rw [valAt_set hiv, getD_set hi]
   by_cases hji : j = i
   · rw [if_pos hji, if_pos hji]
     exact ho.kept hset (.inr hv'b)
   · rw [if_neg hji, if_neg hji]
     exact ((h.own j hj).kept hg (h.apart j i hj hi hji)).kept hset (.inr (h.ne j hj))
 · intro j hj
   rw [List.length_set] at hj
   rw [valAt_set hiv]
   by_cases hji : j = i
   · rw [if_pos hji]; exact hv'b
   · rw [if_neg hji]; exact h.ne j hj
 · intro j k hj hk hjk
   rw [List.length_set] at hj hk
   rw [valAt_set hiv, valAt_set hiv]
   by_cases hji : j = i
   · by_cases hki : k = i
     · omega
     · rw [if_pos hji, if_neg hki]
       rcases away k hk hki with e | e
       · rw [e]; cases hq : v'.ownBlock with
         | none => exact .inl rfl
         | some q => exact .inr (by simp)
       · exact .inr (Ne.symm e)
   · by_cases hki : k = i
     · rw [if_neg hji, if_pos hki]; exact away j hj hji
     · rw [if_neg hji, if_neg hki]; exact h.apart j k hj hk hjk
theorem OwnMat.made (R E : TypeId) (m : Nat) (enc : α → List Value) (B n : Nat) (w : World) (hB : B ≤ w.heap.size) : OwnMat R E m enc B w.heap.size (w.alloc (.cells (Array.replicate n (.slice none 0 0)) R)) (List.replicate n (.slice none 0 0)) (List.replicate n []) := by
 have hv : ∀ i, valAt (List.replicate n (.slice none 0 0)) i = .slice none 0 0 := by
  intro i; unfold valAt; by_cases h : i < n <;> simp [h]
 refine ⟨(World.alloc_heap_new _ _).trans (by simp), by simp, hB, ?_, ?_, ?_⟩
 · intro i hi
   rw [hv]
   have : (List.replicate n ([] : List α)).getD i [] = [] := by by_cases h : i < n <;> simp [h]
   rw [this]
   exact OwnSt.nil _ _ _ _ _
 · intro i _; rw [hv]; simp [Value.ownBlock]
 · intro i j _ _ _; rw [hv]; exact .inl rfl
def TabAt {α : Type} (R E : TypeId) (m : Nat) (enc : α → List Value) (B b : Nat) (bad : List Nat) (w : World) (rows : List (List α)) : Prop :=
 ∃ vs, OwnMat R E m enc B b w vs rows ∧ ∀ i, i < rows.length → ∀ k, k ∈ bad → (valAt vs i).ownBlock ≠ some k
theorem TabAt.mono (h : TabAt R E m enc B b bad w rows) (hb : Below w.heap.size w w') : TabAt R E m enc B b bad w' rows := by
 obtain ⟨vs, h1, h2⟩ := h
 exact ⟨vs, h1.mono hb, h2⟩
theorem TabAt.add (h : TabAt R E m enc B b bad w rows) {k : Nat} (hk : w.heap.size ≤ k) : TabAt R E m enc B b (k :: bad) w rows := by
 obtain ⟨vs, h1, h2⟩ := h
 refine ⟨vs, h1, fun i hi j hj e => ?_⟩
 rcases List.mem_cons.1 hj with rfl | hj
 · have := ((h1.own i hi).lt _ e).2; omega
 · exact h2 i hi j hj e
theorem TabAt.less {bad' : List Nat} (h : TabAt R E m enc B b bad w rows) (hs : ∀ k, k ∈ bad' → k ∈ bad) : TabAt R E m enc B b bad' w rows := by
 obtain ⟨vs, h1, h2⟩ := h
 exact ⟨vs, h1, fun i hi k hk => h2 i hi k (hs k hk)⟩
theorem tab_more {i g cap : Nat} {y : α} (h : OwnMat R E m enc B b w vs rows) (hbad : ∀ i, i < rows.length → ∀ k, k ∈ bad → (valAt vs i).ownBlock ≠ some k)
    (hi : i < rows.length) (hlt : ∀ k, k ∈ bad → k < w.heap.size) (hbb : b ∉ bad) {n : Nat} (hn : n = (rows.getD i []).length)
    (hown : w1.ownsRow B E m (.slice (some ⟨g, 0, none⟩) (n + 1) cap) (n + 1) ((rows.getD i []).flatMap enc ++ enc y))
    (hg : w.grownBy w1 (valAt vs i).ownBlock) (hat : (valAt vs i).ownBlock = some g ∨ w.heap.size ≤ g) :
    TabAt R E m enc B b bad (w1.setCell ⟨b, i, none⟩ (.slice (some ⟨g, 0, none⟩) (n + 1) cap)) (rows.set i (rows.getD i [] ++ [y])) ∧
     Kept (fun k => k < B ∨ k ∈ bad) w (w1.setCell ⟨b, i, none⟩ (.slice (some ⟨g, 0, none⟩) (n + 1) cap)) := by
 subst hn
 have hiv : i < vs.length := by rw [h.len]; exact hi
 have ho : OwnSt E m enc B w1 (.slice (some ⟨g, 0, none⟩) ((rows.getD i []).length + 1) cap) (rows.getD i [] ++ [y]) := by
  unfold OwnSt
  rw [List.length_append, List.flatMap_append]
  simpa using hown
 have hm := h.more (i := i) (y := y) hi hg ho (by rcases hat with e | e; exact .inl e.symm; exact .inr ⟨g, rfl, e⟩)
 refine ⟨⟨_, hm, ?_⟩, ?_⟩
 · intro j hj k hk
   rw [List.length_set] at hj
   rw [valAt_set hiv]
   by_cases hji : j = i
   · rw [if_pos hji]
     show some g ≠ _
     rcases hat with e | e
     · rw [← e]; exact hbad i hi k hk
     · intro h'; cases h'; have := hlt g hk; omega
   · rw [if_neg hji]; exact hbad j hj k hk
 · refine (Kept.grown hg ?_).setCell (p := ⟨b, i, none⟩) (.inl ?_) _
   · rintro k - (hk | hk) e
     · have := ((h.own i hi).lt k e.symm).1; omega
     · exact hbad i hi k hk e.symm
   · rintro (hk | hk)
     · have := h.low; have : b < B := hk; omega
     · exact hbb hk
theorem row_len (h : OwnMat R E m enc B b w vs rows) {i : Nat} (hi : i < rows.length) :
    w.cell? ⟨b, i, none⟩ = some (valAt vs i) ∧ w.frozen? ⟨b, i, none⟩ = false := by
 have hvl : i < vs.length := by rw [h.len]; exact hi
 refine ⟨?_, (row_cells h.heap).2.2 _⟩
 rw [(row_cells h.heap).2.1]; simp [valAt, hvl]
end
/-! ### Rows that are made -/
theorem madeCells_one (z : Value) (n : Nat) : madeCells #[z] n = Array.replicate n z := by
 apply Array.ext
 · simp [madeCells]
 · intro i h1 h2
   simp [madeCells, Nat.mod_one]
theorem four_new {w W : World} {a b c d : Obj} (h : (((w.alloc a).alloc b).alloc c).alloc d = W) :
    W.heap[w.heap.size]? = some a ∧ W.heap[w.heap.size + 1]? = some b ∧ W.heap[w.heap.size + 1 + 1]? = some c ∧ W.heap[w.heap.size + 1 + 1 + 1]? = some d ∧ W.heap.size = w.heap.size + 4 ∧ Below w.heap.size w W := by
 obtain ⟨V, hV⟩ : ∃ V, (w.alloc a).alloc b = V := ⟨_, rfl⟩
 rw [hV] at h
 obtain ⟨e0, e1, s1, B1⟩ := two_new hV
 obtain ⟨e2, e3, s2, B2⟩ := two_new h
 rw [s1] at e2 e3
 exact ⟨kept_block B2 e0, kept_block B2 e1, e2, e3, by omega, below_tr B1 B2⟩
end Go.Proofs.YthjmdagonfeneaaGreat.L
set_option linter.unusedVariables false
set_option linter.unusedSimpArgs false
namespace Go.Proofs.YthjmdagonfeneaaGreat.L
open Go.RowKit Go.Sd Lk Lc
theorem lcGain (sv wv : Value) (l : List Sl) (ws : List Int) (u : Int) (k : Nat) (w : World) (h : SlsAt w sv l) (hw : IntsAt w wv ws) (hk : k < l.length) (hkw : k < ws.length)
    (h1 : -1000000000000000 ≤ (lsAt l k).opn * at0 ws k ∧ (lsAt l k).opn * at0 ws k ≤ 1000000000000000) (h2 : -1000000000000000 ≤ (lsAt l k).fall * u ∧ (lsAt l k).fall * u ≤ 1000000000000000) (c1 c2 : Int) :
    Calls Tryz.prog 118 #[.agg #[sv, .int .i64 c1, .int .i64 c2], .agg #[wv, .int .i64 u], .int .i64 k] w fun e w' => e = .returned (.int .i64 ((lsAt l k).opn * at0 ws k + (lsAt l k).fall * u)) ∧ Below w.heap.size w w' := by
 obtain ⟨W, hW⟩ : ∃ W, (w.alloc (.cells #[sv, .int .i64 c1, .int .i64 c2] 120)).alloc (.cells #[wv, .int .i64 u] 124) = W := ⟨_, rfl⟩
 obtain ⟨e0, e1, s0, b0⟩ := two_new hW
 have hg := grow_cell W
 obtain ⟨a, cap, rfl, hm, hc⟩ := h.form
 obtain ⟨b, off, rfl, hb, hx⟩ := hc (by omega)
 have x1 : w.cell? ⟨b, off + k * 7 + 2, none⟩ = some (.int .i64 (lsAt l k).opn) := hx k 2 _ hk rfl
 have x2 : w.cell? ⟨b, off + k * 7 + 3, none⟩ = some (.int .i64 (lsAt l k).fall) := hx k 3 _ hk rfl
 replace x1 := kept_cell b0 x1
 replace x2 := kept_cell b0 x2
 obtain ⟨b', off', cap', rfl, hb', hm', y0⟩ := int_cells hw hkw
 replace y0 := kept_cell b0 y0
 obtain ⟨q0, q1, q2⟩ := rc3 e0
 obtain ⟨r0, r1⟩ := rc2 e1
 have z0 := (zqo e0)
 have z1 := (zqo e1)
 have zb : b < W.heap.size := by omega
 have zb' : b' < W.heap.size := by omega
 have hk1 : (k : Int) < (l.length : Int) := by omega
 have hk2 : (k : Int) < (ws.length : Int) := by omega
 have hk0 : (0 : Int) ≤ (k : Int) := by omega
 clear hx hc e0 e1 h hw s0
 generalize lsAt l k = s at *
 generalize at0 ws k = n at *
 go_enter Tryz.func118, Tryz.ntmps118
 go_wp2
 refine wp_region_grow (by kernel_rfl) (by kernel_rfl) ?_
 repeat (go_big_quiet_step (fail))
 refine wpQuiet_nil ?_
 rintro _ ⟨g, rfl⟩
 go_wp2
 go_ret
 exact ⟨rfl, b0.trans (g.h.mono b0.size)⟩
theorem sps_two (w : World) (s t : Sp) : SpsIs [s, t] (.slice (some ⟨w.heap.size, 0, none⟩) 2 2) (w.alloc (.cells #[.int .i64 s.lo, .int .i64 s.hi, .int .i64 t.lo, .int .i64 t.hi] 23)) := by
 have h := BlkAt.sps (w := w.alloc (.cells #[.int .i64 s.lo, .int .i64 s.hi, .int .i64 t.lo, .int .i64 t.hi] 23)) (q := w.heap.size) (l := [s, t]) (World.alloc_heap_new _ _) (show (2 : Nat) ≤ maxLen by decide) 2
 exact h
structure FiSt (sv wv : Value) (w W : World) : Prop where
 bc : W.heap[w.heap.size]? = some (.cells (exCells sv) 120)
 bm : W.heap[w.heap.size + 1]? = some (.cells #[wv, .int .i64 1] 124)
 br : W.heap[w.heap.size + 2]? = some (spO ⟨0, 0⟩)
 bo : W.heap[w.heap.size + 3]? = some (spO ⟨0, 0⟩)
 bel : Below w.heap.size w W
theorem FiSt.mono {sv wv : Value} {w W V : World} (h : FiSt sv wv w W) (hb : Below W.heap.size W V) : FiSt sv wv w V :=
 ⟨kept_block hb h.bc, kept_block hb h.bm, kept_block hb h.br, kept_block hb h.bo, below_tr h.bel hb⟩
theorem FiSt.set {sv wv : Value} {w W : World} (h : FiSt sv wv w W) : FiSt sv wv w ((W.setCell ⟨w.heap.size + 3, 0, none⟩ (.int .i64 0)).setCell ⟨w.heap.size + 3, 1, none⟩ (.int .i64 0)) :=
 ⟨(set2_other _ _ (by omega)).trans h.bc, (set2_other _ _ (by omega)).trans h.bm, (set2_other _ _ (by omega)).trans h.br, set2 h.bo _ _, h.bel.trans (below_set2 _ _ (by omega))⟩
theorem exSl_bd {k : Nat} (h : k < exSls.length) : 0 ≤ (lsAt exSls k).vlo ∧ (lsAt exSls k).vlo ≤ 1000000 ∧ 0 ≤ (lsAt exSls k).vhi ∧ (lsAt exSls k).vhi ≤ 1000000 := by
 match k, h with
 | 0, _ => decide
 | 1, _ => decide
 | 2, _ => decide
theorem firstT (sv wv : Value) (w : World) (h : SlsAt w sv exSls) (hw : IntsAt w wv [0, 0, 0]) :
    Calls Tryz.prog 88 #[.agg (exCells sv), .agg #[wv, .int .i64 1]] w fun e w' => e = .returned (spV ⟨0, 0⟩) ∧ Below w.heap.size w w' := by
 obtain ⟨W, hW⟩ : ∃ W, (((w.alloc (.cells (exCells sv) 120)).alloc (.cells #[wv, .int .i64 1] 124)).alloc (spO ⟨0, 0⟩)).alloc (spO ⟨0, 0⟩) = W := ⟨_, rfl⟩
 obtain ⟨e0, e1, e2, e3, s0, b0⟩ := four_new hW
 have hS0 : Hid (FiSt sv wv w W) := Lib.hid ⟨e0, e1, e2, e3, b0⟩
 obtain ⟨wb, wo, wc, hwv, -, -, -⟩ := int_cells hw (k := 0) (by simp)
 replace hwv : wv = .slice (some ⟨wb, wo, none⟩) 3 wc := hwv
 subst hwv
 have h' := Lib.hid h
 have hw' := Lib.hid hw
 obtain ⟨a, cap, rfl, hm, hc⟩ := h.form
 obtain ⟨q0, -, -⟩ := rc3 e0
 have z0 := (zqo e0)
 have hc' := Lib.hid hc
 clear hc h hw s0 e0 e1 e2 e3 b0
 go_enter Tryz.func88, Tryz.ntmps88
 go_wp2
 clear q0 z0 hW
 go_loopw [12] (fun i wr => ∃ k : Nat, k ≤ exSls.length ∧ i = .int .i64 k ∧ Hid (FiSt (.slice a exSls.length cap) (.slice (some ⟨wb, wo, none⟩) 3 wc) w wr)) (fun i _ => exSls.length - (intOf i).toNat)
 case atStart => exact ⟨0, by omega, rfl, hS0⟩
 case round =>
  obtain ⟨k, hk, rfl, hH⟩ := hrel
  have hS := hH.out
  obtain ⟨c0, c1⟩ := rc2 hS.bo
  obtain ⟨d0, d1⟩ := rf2 hS.br
  obtain ⟨c2, c3⟩ := rc2 hS.br
  have z0 := (zqo hS.bo)
  have z1 := (zqo hS.br)
  by_cases hkl : k < exSls.length
  · obtain ⟨b, off, rfl, hb, hx⟩ := hc'.out (by omega)
    have x0 : w.cell? ⟨b, off + k * 7, none⟩ = some (.int .i64 (lsAt exSls k).vlo) := hx k 0 _ hkl rfl
    have x1 : w.cell? ⟨b, off + k * 7 + 1, none⟩ = some (.int .i64 (lsAt exSls k).vhi) := hx k 1 _ hkl rfl
    have x2 : w.cell? ⟨b, off + k * 7 + 2, none⟩ = some (.int .i64 (lsAt exSls k).opn) := hx k 2 _ hkl rfl
    have x3 : w.cell? ⟨b, off + k * 7 + 3, none⟩ = some (.int .i64 (lsAt exSls k).fall) := hx k 3 _ hkl rfl
    have x4 : w.cell? ⟨b, off + k * 7 + 4, none⟩ = some (.int .i64 (lsAt exSls k).rlo) := hx k 4 _ hkl rfl
    have x5 : w.cell? ⟨b, off + k * 7 + 5, none⟩ = some (.int .i64 (lsAt exSls k).rhi) := hx k 5 _ hkl rfl
    have x6 : w.cell? ⟨b, off + k * 7 + 6, none⟩ = some (.int .i64 (lsAt exSls k).most) := hx k 6 _ hkl rfl
    have hbd := exSl_bd hkl
    obtain ⟨wb1, wo1, wc1, hwv, hwb, hwm, y0⟩ := int_cells hw'.out (k := k) hkl
    obtain ⟨⟨rfl, rfl⟩, rfl⟩ : (wb = wb1 ∧ wo = wo1) ∧ wc = wc1 := by simpa using hwv
    clear hwv hwb hwm
    have y1 : at0 [0, 0, 0] k = 0 := by
     match k, hkl with
     | 0, _ => rfl
     | 1, _ => rfl
     | 2, _ => rfl
    rw [y1] at y0
    replace x0 := kept_cell hS.bel x0
    replace x1 := kept_cell hS.bel x1
    replace x2 := kept_cell hS.bel x2
    replace x3 := kept_cell hS.bel x3
    replace x4 := kept_cell hS.bel x4
    replace x5 := kept_cell hS.bel x5
    replace x6 := kept_cell hS.bel x6
    replace y0 := kept_cell hS.bel y0
    have hb1 := Nat.lt_of_lt_of_le hb hS.bel.size
    clear hx y1
    have hki : (k : Int) < (exSls.length : Int) := by omega
    have hki3 : (k : Int) < 3 := hki
    have hk0 : (0 : Int) ≤ (k : Int) := by omega
    generalize lsAt exSls k = s at *
    have kT : Hid (∀ x, Calls Tryz.prog 115 #[spV ⟨s.vlo, s.vhi⟩, .int .i64 0] x fun e w' => e = .returned (spV ⟨0, 0⟩) ∧ Below x.heap.size x w') := Lib.hid fun x => by
     have := lcTimes ⟨s.vlo, s.vhi⟩ 0 x (by omega) (by simp) (by simp)
     simpa using this
    have kB : Hid (∀ x v, SpsIs [⟨0, 0⟩, ⟨0, 0⟩] v x → Calls Tryz.prog 89 #[v] x fun e w' => e = .returned (spV ⟨0, 0⟩) ∧ Below x.heap.size x w') := Lib.hid fun x v hv => by
     refine lcBoth v [⟨0, 0⟩, ⟨0, 0⟩] x hv (fun k hk => ?_) (by simp)
     match k, hk with
     | 0, _ => simp [spAt]
     | 1, _ => simp [spAt]
    clear c2 c3 d0 d1 z1
    obtain ⟨V, hV⟩ : ∃ V, wr.alloc (.cells #[.int .i64 s.vlo, .int .i64 s.vhi, .int .i64 s.opn, .int .i64 s.fall, .int .i64 s.rlo, .int .i64 s.rhi, .int .i64 s.most] 126) = V := ⟨_, rfl⟩
    obtain ⟨eV, bV, sV⟩ := boxed hV
    clear sV
    go_upto_region 5 with (fail)
    clear x0 x1 x2 x3 x4 x5 x6 c0 c1 z0 hb hb1
    refine plain_region (by kernel_rfl) (any_region_locN 11 30 [] [17, 18, 19, 20, 21, 22, 23, 24, 25, 26, 27] [[], [], [1], [], [3], [], [4, 5], [6], [2, 7], [0, 8], [9]] [IsV (spV ⟨0, 0⟩), IsV (.pointer (some ⟨wr.heap.size, 0, none⟩)), IsV (spV ⟨s.vlo, s.vhi⟩), IsV (.pointer (some ⟨w.heap.size + 1, 0, none⟩)), IsV (.slice (some ⟨wb, wo, none⟩) 3 wc), IsV (.int .i64 k), IsV (.pointer (some ⟨wb, wo + k, none⟩)), IsV (.int .i64 0), IsV (spV ⟨0, 0⟩), SpsIs [⟨0, 0⟩, ⟨0, 0⟩], IsV (spV ⟨0, 0⟩)] [] (by kernel_rfl) (by kernel_rfl) (by kernel_rfl) (by kernel_rfl) (by kernel_rfl) rfl OnlyN.panic ?_ ?_ ?_ (fun j hj => nomatch hj) ?_)
    · exact List.forall_mem_cons.2 ⟨pers_v _, List.forall_mem_cons.2 ⟨pers_v _, List.forall_mem_cons.2 ⟨pers_v _, List.forall_mem_cons.2 ⟨pers_v _, List.forall_mem_cons.2 ⟨pers_v _, List.forall_mem_cons.2 ⟨pers_v _, List.forall_mem_cons.2 ⟨pers_v _, List.forall_mem_cons.2 ⟨pers_v _, List.forall_mem_cons.2 ⟨pers_v _, List.forall_mem_cons.2 ⟨pers_sps _, List.forall_mem_cons.2 ⟨pers_v _, fun f h => nomatch h⟩⟩⟩⟩⟩⟩⟩⟩⟩⟩⟩
    · intro k hk; cases hk
    · refine ⟨?_, ?_, ?_, ?_, ?_, ?_, ?_, ?_, ?_, ?_, ?_, trivial⟩
      · intro vals x hb hf
        simp only [fillS, List.getD_cons_succ, List.getD_cons_zero, Act.put, List.setIfInBounds_toArray, List.set_cons_zero, List.set_cons_succ]
        clear hf
        obtain ⟨g0, g1⟩ := rc2 (kept_block hb (kept_block bV hS.bo))
        obtain ⟨g2, g3⟩ := rc2 (kept_block hb (kept_block bV hS.bm))
        have g4 := (row_cells (kept_block hb eV)).2.1 0
        have g5 := (row_cells (kept_block hb eV)).2.1 1
        have g6 := kept_cell hb (kept_cell bV y0)
        have zx := (Array.getElem?_eq_some_iff.1 (kept_block hb (kept_block bV hS.bo))).1
        have zx2 := (Array.getElem?_eq_some_iff.1 (kept_block hb (kept_block bV hS.bm))).1
        have zx3 := (Array.getElem?_eq_some_iff.1 (kept_block hb eV)).1
        go_wp2
        exact ⟨rfl, rfl, Below.refl _ _, _, rfl, rfl, (fun h => absurd h (by decide))⟩
      · intro vals x hb hf
        simp only [fillS, List.getD_cons_succ, List.getD_cons_zero, Act.put, List.setIfInBounds_toArray, List.set_cons_zero, List.set_cons_succ]
        clear hf
        obtain ⟨g0, g1⟩ := rc2 (kept_block hb (kept_block bV hS.bo))
        obtain ⟨g2, g3⟩ := rc2 (kept_block hb (kept_block bV hS.bm))
        have g4 := (row_cells (kept_block hb eV)).2.1 0
        have g5 := (row_cells (kept_block hb eV)).2.1 1
        have g6 := kept_cell hb (kept_cell bV y0)
        have zx := (Array.getElem?_eq_some_iff.1 (kept_block hb (kept_block bV hS.bo))).1
        have zx2 := (Array.getElem?_eq_some_iff.1 (kept_block hb (kept_block bV hS.bm))).1
        have zx3 := (Array.getElem?_eq_some_iff.1 (kept_block hb eV)).1
        go_wp2
        exact ⟨rfl, rfl, Below.refl _ _, _, rfl, rfl, (fun h => absurd h (by decide))⟩
      · intro vals x hb hf
        simp only [fillS, List.getD_cons_succ, List.getD_cons_zero, Act.put, List.setIfInBounds_toArray, List.set_cons_zero, List.set_cons_succ]
        have h1 : vals 1 = .pointer (some ⟨wr.heap.size, 0, none⟩) := hf.1
        rw [h1]
        clear h1
        clear hf
        obtain ⟨g0, g1⟩ := rc2 (kept_block hb (kept_block bV hS.bo))
        obtain ⟨g2, g3⟩ := rc2 (kept_block hb (kept_block bV hS.bm))
        have g4 := (row_cells (kept_block hb eV)).2.1 0
        have g5 := (row_cells (kept_block hb eV)).2.1 1
        have g6 := kept_cell hb (kept_cell bV y0)
        have zx := (Array.getElem?_eq_some_iff.1 (kept_block hb (kept_block bV hS.bo))).1
        have zx2 := (Array.getElem?_eq_some_iff.1 (kept_block hb (kept_block bV hS.bm))).1
        have zx3 := (Array.getElem?_eq_some_iff.1 (kept_block hb eV)).1
        go_wp2
        exact ⟨rfl, rfl, Below.refl _ _, _, rfl, rfl, (fun h => absurd h (by decide))⟩
      · intro vals x hb hf
        simp only [fillS, List.getD_cons_succ, List.getD_cons_zero, Act.put, List.setIfInBounds_toArray, List.set_cons_zero, List.set_cons_succ]
        clear hf
        obtain ⟨g0, g1⟩ := rc2 (kept_block hb (kept_block bV hS.bo))
        obtain ⟨g2, g3⟩ := rc2 (kept_block hb (kept_block bV hS.bm))
        have g4 := (row_cells (kept_block hb eV)).2.1 0
        have g5 := (row_cells (kept_block hb eV)).2.1 1
        have g6 := kept_cell hb (kept_cell bV y0)
        have zx := (Array.getElem?_eq_some_iff.1 (kept_block hb (kept_block bV hS.bo))).1
        have zx2 := (Array.getElem?_eq_some_iff.1 (kept_block hb (kept_block bV hS.bm))).1
        have zx3 := (Array.getElem?_eq_some_iff.1 (kept_block hb eV)).1
        go_wp2
        exact ⟨rfl, rfl, Below.refl _ _, _, rfl, rfl, (fun h => absurd h (by decide))⟩
      · intro vals x hb hf
        simp only [fillS, List.getD_cons_succ, List.getD_cons_zero, Act.put, List.setIfInBounds_toArray, List.set_cons_zero, List.set_cons_succ]
        have h3 : vals 3 = .pointer (some ⟨w.heap.size + 1, 0, none⟩) := hf.1
        rw [h3]
        clear h3
        clear hf
        obtain ⟨g0, g1⟩ := rc2 (kept_block hb (kept_block bV hS.bo))
        obtain ⟨g2, g3⟩ := rc2 (kept_block hb (kept_block bV hS.bm))
        have g4 := (row_cells (kept_block hb eV)).2.1 0
        have g5 := (row_cells (kept_block hb eV)).2.1 1
        have g6 := kept_cell hb (kept_cell bV y0)
        have zx := (Array.getElem?_eq_some_iff.1 (kept_block hb (kept_block bV hS.bo))).1
        have zx2 := (Array.getElem?_eq_some_iff.1 (kept_block hb (kept_block bV hS.bm))).1
        have zx3 := (Array.getElem?_eq_some_iff.1 (kept_block hb eV)).1
        go_wp2
        exact ⟨rfl, rfl, Below.refl _ _, _, rfl, rfl, (fun h => absurd h (by decide))⟩
      · intro vals x hb hf
        simp only [fillS, List.getD_cons_succ, List.getD_cons_zero, Act.put, List.setIfInBounds_toArray, List.set_cons_zero, List.set_cons_succ]
        clear hf
        obtain ⟨g0, g1⟩ := rc2 (kept_block hb (kept_block bV hS.bo))
        obtain ⟨g2, g3⟩ := rc2 (kept_block hb (kept_block bV hS.bm))
        have g4 := (row_cells (kept_block hb eV)).2.1 0
        have g5 := (row_cells (kept_block hb eV)).2.1 1
        have g6 := kept_cell hb (kept_cell bV y0)
        have zx := (Array.getElem?_eq_some_iff.1 (kept_block hb (kept_block bV hS.bo))).1
        have zx2 := (Array.getElem?_eq_some_iff.1 (kept_block hb (kept_block bV hS.bm))).1
        have zx3 := (Array.getElem?_eq_some_iff.1 (kept_block hb eV)).1
        go_wp2
        exact ⟨rfl, rfl, Below.refl _ _, _, rfl, rfl, (fun h => absurd h (by decide))⟩
      · intro vals x hb hf
        simp only [fillS, List.getD_cons_succ, List.getD_cons_zero, Act.put, List.setIfInBounds_toArray, List.set_cons_zero, List.set_cons_succ]
        have h4 : vals 4 = .slice (some ⟨wb, wo, none⟩) 3 wc := hf.1
        rw [h4]
        clear h4
        have h5 : vals 5 = .int .i64 k := hf.2.1
        rw [h5]
        clear h5
        clear hf
        obtain ⟨g0, g1⟩ := rc2 (kept_block hb (kept_block bV hS.bo))
        obtain ⟨g2, g3⟩ := rc2 (kept_block hb (kept_block bV hS.bm))
        have g4 := (row_cells (kept_block hb eV)).2.1 0
        have g5 := (row_cells (kept_block hb eV)).2.1 1
        have g6 := kept_cell hb (kept_cell bV y0)
        have zx := (Array.getElem?_eq_some_iff.1 (kept_block hb (kept_block bV hS.bo))).1
        have zx2 := (Array.getElem?_eq_some_iff.1 (kept_block hb (kept_block bV hS.bm))).1
        have zx3 := (Array.getElem?_eq_some_iff.1 (kept_block hb eV)).1
        go_wp2
        exact ⟨rfl, rfl, Below.refl _ _, _, rfl, rfl, (fun h => absurd h (by decide))⟩
      · intro vals x hb hf
        simp only [fillS, List.getD_cons_succ, List.getD_cons_zero, Act.put, List.setIfInBounds_toArray, List.set_cons_zero, List.set_cons_succ]
        have h6 : vals 6 = .pointer (some ⟨wb, wo + k, none⟩) := hf.1
        rw [h6]
        clear h6
        clear hf
        obtain ⟨g0, g1⟩ := rc2 (kept_block hb (kept_block bV hS.bo))
        obtain ⟨g2, g3⟩ := rc2 (kept_block hb (kept_block bV hS.bm))
        have g4 := (row_cells (kept_block hb eV)).2.1 0
        have g5 := (row_cells (kept_block hb eV)).2.1 1
        have g6 := kept_cell hb (kept_cell bV y0)
        have zx := (Array.getElem?_eq_some_iff.1 (kept_block hb (kept_block bV hS.bo))).1
        have zx2 := (Array.getElem?_eq_some_iff.1 (kept_block hb (kept_block bV hS.bm))).1
        have zx3 := (Array.getElem?_eq_some_iff.1 (kept_block hb eV)).1
        go_wp2
        exact ⟨rfl, rfl, Below.refl _ _, _, rfl, rfl, (fun h => absurd h (by decide))⟩
      · intro vals x hb hf
        simp only [fillS, List.getD_cons_succ, List.getD_cons_zero, Act.put, List.setIfInBounds_toArray, List.set_cons_zero, List.set_cons_succ]
        have h2 : vals 2 = spV ⟨s.vlo, s.vhi⟩ := hf.1
        rw [h2]
        clear h2
        have h7 : vals 7 = .int .i64 0 := hf.2.1
        rw [h7]
        clear h7
        clear hf
        obtain ⟨g0, g1⟩ := rc2 (kept_block hb (kept_block bV hS.bo))
        obtain ⟨g2, g3⟩ := rc2 (kept_block hb (kept_block bV hS.bm))
        have g4 := (row_cells (kept_block hb eV)).2.1 0
        have g5 := (row_cells (kept_block hb eV)).2.1 1
        have g6 := kept_cell hb (kept_cell bV y0)
        have zx := (Array.getElem?_eq_some_iff.1 (kept_block hb (kept_block bV hS.bo))).1
        have zx2 := (Array.getElem?_eq_some_iff.1 (kept_block hb (kept_block bV hS.bm))).1
        have zx3 := (Array.getElem?_eq_some_iff.1 (kept_block hb eV)).1
        go_wp2_with (go_at_call 115; (with_reducible refine Calls.mono (kT.out x) ?_); rintro e y ⟨rfl, hB⟩)
        exact ⟨rfl, rfl, hB, _, rfl, rfl, (fun h => absurd h (by decide))⟩
      · intro vals x hb hf
        simp only [fillS, List.getD_cons_succ, List.getD_cons_zero, Act.put, List.setIfInBounds_toArray, List.set_cons_zero, List.set_cons_succ]
        have h0 : vals 0 = spV ⟨0, 0⟩ := hf.1
        rw [h0]
        clear h0
        have f8 : (IsV (spV ⟨0, 0⟩)) (vals 8) x := hf.2.1
        clear hf
        obtain ⟨g0, g1⟩ := rc2 (kept_block hb (kept_block bV hS.bo))
        obtain ⟨g2, g3⟩ := rc2 (kept_block hb (kept_block bV hS.bm))
        have g4 := (row_cells (kept_block hb eV)).2.1 0
        have g5 := (row_cells (kept_block hb eV)).2.1 1
        have g6 := kept_cell hb (kept_cell bV y0)
        have zx := (Array.getElem?_eq_some_iff.1 (kept_block hb (kept_block bV hS.bo))).1
        have zx2 := (Array.getElem?_eq_some_iff.1 (kept_block hb (kept_block bV hS.bm))).1
        have zx3 := (Array.getElem?_eq_some_iff.1 (kept_block hb eV)).1
        rw [show vals 8 = spV ⟨0, 0⟩ from f8]
        go_wp2
        exact ⟨rfl, rfl, (Below.refl _ _).alloc (Nat.le_refl _) _, _, rfl, sps_two _ _ _, (fun h => absurd h (by decide))⟩
      · intro vals x hb hf
        simp only [fillS, List.getD_cons_succ, List.getD_cons_zero, Act.put, List.setIfInBounds_toArray, List.set_cons_zero, List.set_cons_succ]
        have f9 : (SpsIs [⟨0, 0⟩, ⟨0, 0⟩]) (vals 9) x := hf.1
        clear hf
        obtain ⟨g0, g1⟩ := rc2 (kept_block hb (kept_block bV hS.bo))
        obtain ⟨g2, g3⟩ := rc2 (kept_block hb (kept_block bV hS.bm))
        have g4 := (row_cells (kept_block hb eV)).2.1 0
        have g5 := (row_cells (kept_block hb eV)).2.1 1
        have g6 := kept_cell hb (kept_cell bV y0)
        have zx := (Array.getElem?_eq_some_iff.1 (kept_block hb (kept_block bV hS.bo))).1
        have zx2 := (Array.getElem?_eq_some_iff.1 (kept_block hb (kept_block bV hS.bm))).1
        have zx3 := (Array.getElem?_eq_some_iff.1 (kept_block hb eV)).1
        go_wp2_with (go_at_call 89; (with_reducible refine Calls.mono (kB.out x _ f9) ?_); rintro e y ⟨rfl, hB⟩)
        exact ⟨rfl, rfl, hB, _, rfl, rfl, (fun h => absurd h (by decide))⟩
    intro vals x hb hf hp
    have hrange : List.range 11 = [0, 1, 2, 3, 4, 5, 6, 7, 8, 9, 10] := by rfl
    rw [hrange]
    simp only [fillS, List.getD_cons_succ, List.getD_cons_zero, Act.put, List.setIfInBounds_toArray, List.set_cons_zero, List.set_cons_succ]
    have h0 : vals 0 = spV ⟨0, 0⟩ := hf 0 (by omega)
    have h1 : vals 1 = .pointer (some ⟨wr.heap.size, 0, none⟩) := hf 1 (by omega)
    have h2 : vals 2 = spV ⟨s.vlo, s.vhi⟩ := hf 2 (by omega)
    have h3 : vals 3 = .pointer (some ⟨w.heap.size + 1, 0, none⟩) := hf 3 (by omega)
    have h4 : vals 4 = .slice (some ⟨wb, wo, none⟩) 3 wc := hf 4 (by omega)
    have h5 : vals 5 = .int .i64 k := hf 5 (by omega)
    have h6 : vals 6 = .pointer (some ⟨wb, wo + k, none⟩) := hf 6 (by omega)
    have h7 : vals 7 = .int .i64 0 := hf 7 (by omega)
    have f8 : (IsV (spV ⟨0, 0⟩)) (vals 8) x := hf 8 (by omega)
    have f9 : (SpsIs [⟨0, 0⟩, ⟨0, 0⟩]) (vals 9) x := hf 9 (by omega)
    have f10 : (IsV (spV ⟨0, 0⟩)) (vals 10) x := hf 10 (by omega)
    rw [h0, h1, h2, h3, h4, h5, h6, h7]
    clear h0 h1 h2 h3 h4 h5 h6 h7 hf hp hrange
    simp only [List.drop_succ_cons, List.drop_zero]
    rw [show vals 10 = spV ⟨0, 0⟩ from f10]
    clear f8 f9 f10 kT kB
    have hx0 := Lib.hid (FiSt.mono (FiSt.mono hS bV) hb)
    obtain ⟨o0, o1⟩ := rf2 hx0.out.bo
    obtain ⟨g0, g1⟩ := rc2 hx0.out.bo
    have zx := (zqo hx0.out.bo)
    go_wp2
    refine OnlyN.mk ?_
    go_wp2
    exact ⟨⟨k + 1, by omega, by go_num, Lib.hid (FiSt.set hx0.out)⟩, by simp [intOf]; omega⟩
  · obtain rfl : k = exSls.length := by omega
    go_wp2
    obtain ⟨c4, c5⟩ := rc2 (set2 hS.br (.int .i64 0) (.int .i64 0))
    refine bodyPost_ret (v := spV ⟨0, 0⟩) (by simp [results, Tryz.results88, go_sem, c4, c5]) rfl ⟨rfl, hS.bel.trans (below_set2 _ _ (by omega))⟩
end Go.Proofs.YthjmdagonfeneaaGreat.L
