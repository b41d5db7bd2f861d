/- Tables of one's own, whose rows keep clear of some blocks. -/
import Derived.Test.YtacajmpggjgaiaaMat
set_option linter.unusedVariables false
set_option linter.unusedSimpArgs false
namespace Go.Proofs.Ytacajmpggjgaiaa
open Go.RowKit Go.Sd

/-- A table of one's own whose rows lie in none of some blocks. -/
def TabAt (B b : Nat) (bad : List Nat) (w : World) (rows : List (List Int)) : Prop :=
  ∃ vs, OwnMat B b w vs rows ∧ ∀ i, i < rows.length → ∀ k, k ∈ bad → (valAt vs i).ownBlock ≠ some k

theorem TabAt.mono {B b : Nat} {bad : List Nat} {w w' : World} {rows : List (List Int)} (h : TabAt B b bad w rows) (hb : Below w.heap.size w w') : TabAt B b bad w' rows := by
  obtain ⟨vs, h1, h2⟩ := h
  exact ⟨vs, h1.mono hb, h2⟩
theorem TabAt.add {B b : Nat} {bad : List Nat} {w : World} {rows : List (List Int)} (h : TabAt B b bad w rows) {m : Nat} (hm : w.heap.size ≤ m) : TabAt B b (m :: bad) w rows := by
  obtain ⟨vs, h1, h2⟩ := h
  refine ⟨vs, h1, fun i hi k hk e => ?_⟩
  rcases List.mem_cons.1 hk with rfl | hk
  · have := ((h1.own i hi).lt _ e).2; omega
  · exact h2 i hi k hk e
theorem TabAt.less {B b : Nat} {bad bad' : List Nat} {w : World} {rows : List (List Int)} (h : TabAt B b bad w rows) (hs : ∀ k, k ∈ bad' → k ∈ bad) : TabAt B b bad' w rows := by
  obtain ⟨vs, h1, h2⟩ := h
  exact ⟨vs, h1, fun i hi k hk => h2 i hi k (hs k hk)⟩

theorem OwnInts.same {B : Nat} {w w' : World} {v : Value} {xs : List Int} (h : OwnInts B w v xs) (hb : ∀ k, v.ownBlock = some k → w'.heap[k]? = w.heap[k]?) : OwnInts B w' v xs := by
  obtain ⟨h1, h2⟩ := h
  refine ⟨h1, ?_⟩
  rcases h2 with h2 | ⟨g, cap, cur, rfl, hB, hg, r⟩
  · exact .inl h2
  · exact .inr ⟨g, cap, cur, rfl, hB, (hb g rfl).trans hg, r⟩

theorem TabAt.kept {B b : Nat} {bad : List Nat} {w w' : World} {rows : List (List Int)} (h : TabAt B b bad w rows) (hk : Kept (fun k => B ≤ k ∧ k ∉ bad) w w') (hb : b ∉ bad) : TabAt B b bad w' rows := by
  obtain ⟨vs, h1, h2⟩ := h
  refine ⟨vs, ⟨(hk.block b (Array.getElem?_eq_some_iff.1 h1.heap).1 ⟨h1.low, hb⟩).trans h1.heap, h1.len, h1.low, fun i hi => (h1.own i hi).same fun k e => hk.block k ((h1.own i hi).lt k e).2 ⟨((h1.own i hi).lt k e).1, fun hm => h2 i hi k hm e⟩, h1.ne, h1.apart⟩, h2⟩

theorem TabAt.setCell {B b : Nat} {bad : List Nat} {w : World} {rows : List (List Int)} (h : TabAt B b bad w rows) {p : Addr} (hp : p.block ∈ bad) (hb : b ∉ bad) (u : Value) : TabAt B b bad (w.setCell p u) rows :=
  h.kept ((Kept.refl _ _).setCell (.inl fun h => h.2 hp) u) hb

/-- Behind 'out[i] = append(out[i], y)'. -/
theorem tab_more {B b : Nat} {bad : List Nat} {w w1 : World} {vs : List Value} {rows : List (List Int)} {i : Nat} {g cap : Nat} {y : Int} (h : OwnMat B b w vs rows) (hbad : ∀ i, i < rows.length → ∀ k, k ∈ bad → (valAt vs i).ownBlock ≠ some k)
    (hi : i < rows.length) (hlt : ∀ k, k ∈ bad → k < w.heap.size) (hbb : b ∉ bad) {n : Nat} (hn : n = (Sea.lstAt rows i).length)
    (hown : w1.ownsRow B 3 1 (.slice (some ⟨g, 0, none⟩) (n + 1) cap) (n + 1) ((Sea.lstAt rows i).map (Value.int .i64) ++ [.int .i64 y]))
    (hg : w.grownBy w1 (valAt vs i).ownBlock) (hat : (valAt vs i).ownBlock = some g ∨ w.heap.size ≤ g) :
    TabAt B b bad (w1.setCell ⟨b, i, none⟩ (.slice (some ⟨g, 0, none⟩) (n + 1) cap)) (rows.set i (Sea.lstAt rows i ++ [y])) ∧
      Kept (fun k => k < B ∨ k ∈ bad) w (w1.setCell ⟨b, i, none⟩ (.slice (some ⟨g, 0, none⟩) (n + 1) cap)) := by
  subst hn
  have hiv : i < vs.length := by rw [h.len]; exact hi
  have hm := h.more (i := i) (y := y) hi hg (own_more hown) (by rcases hat with e | e; exact .inl e.symm; exact .inr ⟨g, rfl, e⟩)
  refine ⟨⟨_, hm, ?_⟩, ?_⟩
  · intro j hj k hk
    rw [List.length_set] at hj
    rw [valAt_set hiv]
    by_cases hji : j = i
    · rw [if_pos hji]
      show some g ≠ _
      rcases hat with e | e
      · rw [← e]; exact hbad i hi k hk
      · intro h'; cases h'; have := hlt g hk; omega
    · rw [if_neg hji]; exact hbad j hj k hk
  · refine (Kept.grown hg ?_).setCell (p := ⟨b, i, none⟩) (.inl ?_) _
    · rintro k - (hk | hk) e
      · have := ((h.own i hi).lt k e.symm).1; omega
      · exact hbad i hi k hk e.symm
    · rintro (hk | hk)
      · have := h.low; have : b < B := hk; omega
      · exact hbb hk

theorem row_len {B b : Nat} {w : World} {vs : List Value} {rows : List (List Int)} (h : OwnMat B b w vs rows) {i : Nat} (hi : i < rows.length) :
    w.cell? ⟨b, i, none⟩ = some (valAt vs i) ∧ w.frozen? ⟨b, i, none⟩ = false := by
  have hvl : i < vs.length := by rw [h.len]; exact hi
  refine ⟨?_, (row_cells h.heap).2.2 _⟩
  rw [(row_cells h.heap).2.1]; simp [valAt, hvl]

/-- What a drawn region keeps hold of: the world has grown, two cells hold what they held. -/
theorem held2 {X w1 : World} (h : Below X.heap.size X w1) {b o b' o' : Nat} {v v' : Value} (h1 : X.cell? ⟨b, o, none⟩ = some v) (h2 : X.cell? ⟨b', o', none⟩ = some v') :
    Below X.heap.size X w1 ∧ w1.cell? ⟨b, o, none⟩ = some v ∧ w1.cell? ⟨b', o', none⟩ = some v' := ⟨h, kept_cell h h1, kept_cell h h2⟩
theorem below_al {X w1 : World} (h : Below X.heap.size X w1) (o : Obj) : Below X.heap.size X (w1.alloc o) := h.alloc h.size o
theorem below_tr {X w1 w2 : World} (h : Below X.heap.size X w1) (h2 : Below w1.heap.size w1 w2) : Below X.heap.size X w2 := h.trans (h2.mono h.size)

theorem below_s {X w1 : World} (h : Below X.heap.size X w1) {p : Addr} (hp : X.heap.size ≤ p.block) (u : Value) : Below X.heap.size X (w1.setCell p u) := h.setCell hp u
theorem block_al {w w1 : World} {o : Obj} (h : Below (w.alloc o).heap.size (w.alloc o) w1) : w1.heap[w.heap.size]? = some o :=
  (h.block _ (by rw [World.size_alloc]; exact Nat.lt_succ_self _)).trans (World.alloc_heap_new _ _)
theorem block_on {w w1 : World} {o : Obj} {n : Nat} (h : Below w.heap.size w w1) (hn : w.heap[n]? = some o) : w1.heap[n]? = some o :=
  (h.block _ (Array.getElem?_eq_some_iff.1 hn).1).trans hn
theorem cells5 {w : World} {n : Nat} {a b c d f : Value} {e : TypeId} (h : w.heap[n]? = some (.cells #[a, b, c, d, f] e)) :
    (w.cell? ⟨n, 0, none⟩ = some a ∧ w.cell? ⟨n, 1, none⟩ = some b ∧ w.cell? ⟨n, 2, none⟩ = some c ∧ w.cell? ⟨n, 3, none⟩ = some d ∧ w.cell? ⟨n, 4, none⟩ = some f) ∧
    w.frozen? ⟨n, 0, none⟩ = false ∧ w.frozen? ⟨n, 1, none⟩ = false ∧ w.frozen? ⟨n, 2, none⟩ = false ∧ w.frozen? ⟨n, 3, none⟩ = false ∧ w.frozen? ⟨n, 4, none⟩ = false := by
  obtain ⟨-, h1, h2⟩ := row_cells h
  exact ⟨⟨h1 0, h1 1, h1 2, h1 3, h1 4⟩, h2 0, h2 1, h2 2, h2 3, h2 4⟩

/-- The number in a variable's block. -/
def boxInt (p : Value) (w : World) : Int := match p with | .pointer (some a) => intOf ((w.cell? a).getD (.int .i64 0)) | _ => 0
theorem boxInt_of {w : World} {b o : Nat} {n : Int} (h : w.cell? ⟨b, o, none⟩ = some (.int .i64 n)) : boxInt (.pointer (some ⟨b, o, none⟩)) w = n := by
  show intOf ((w.cell? ⟨b, o, none⟩).getD _) = n
  rw [h]; rfl

/-- Cells of blocks that the rows keep clear of. -/
theorem Kept.cell2 {S : Nat → Prop} {w w' : World} (h : Kept S w w') {b o : Nat} {v : Value} (hs : S b) (hv : w.cell? ⟨b, o, none⟩ = some v) : w'.cell? ⟨b, o, none⟩ = some v := h.cell hs hv
end Go.Proofs.Ytacajmpggjgaiaa
