/- Laws and walks: Tbs. -/
import Derived.Deep.Cut
import Derived.Deep.CutRange
import Derived.Test.YthbkcoijafehgaaGreatK28
import Derived.Test.YthbkcoijafehgaaGreatK29
import Derived.Test.YthbkcoijafehgaaGreatK35
import Derived.Test.YthbkcoijafehgaaGreatK36
set_option linter.unusedVariables false
set_option linter.unusedSimpArgs false
namespace Go.Proofs.YthbkcoijafehgaaGreat.L
open Go.RowKit Go.Sd Lk Lc
/-- Blocks have colours: of each list of one's own, another one. -/
def Col (col : Nat → Nat) (c : Nat) (v : Value) : Prop := ∀ k, v.ownBlock = some k → col k = c
def recol (col : Nat → Nat) (c : Nat) (X : World) (k : Nat) : Nat := if k < X.heap.size then col k else c
section
variable {α : Type} {enc : α → List Value} {m : Nat} {E : TypeId} {B : Nat} {X Z : World} {v v' : Value} {xs ys : List α} {col : Nat → Nat} {c c' : Nat}
def Ow (col : Nat → Nat) (c : Nat) (E : TypeId) (m : Nat) (enc : α → List Value) (B : Nat) (X : World) (v : Value) (xs : List α) : Prop := OwnSt E m enc B X v xs ∧ Col col c v
theorem Ow.mono (h : Ow col c E m enc B X v xs) (hb : Below X.heap.size X Z) : Ow col c E m enc B Z v xs := ⟨h.1.mono hb, h.2⟩
theorem Ow.re (h : Ow col c E m enc B X v xs) (c' : Nat) : Ow (recol col c' X) c E m enc B X v xs := ⟨h.1, fun k e => by unfold recol; rw [if_pos (h.1.lt k e).2]; exact h.2 k e⟩
theorem Ow.keep {row : Option Nat} (h : Ow col c' E m enc B X v xs) (hg : X.grownBy Z row) (hr : ∀ k, row = some k → col k = c) (hne : c' ≠ c) : Ow (recol col c X) c' E m enc B Z v xs := by
  refine ⟨h.1.kept hg ?_, (h.re c).2⟩
  cases hv : v.ownBlock with
  | none => exact .inl rfl
  | some k => exact .inr fun e => hne ((h.2 k hv).symm.trans (hr k e.symm))
theorem Ow.own (h : Col col c v) (hl : ∀ k, v.ownBlock = some k → k < X.heap.size) (ho : OwnSt E m enc B Z v' ys) (hat : v'.ownBlock = v.ownBlock ∨ ∃ k, v'.ownBlock = some k ∧ X.heap.size ≤ k) : Ow (recol col c X) c E m enc B Z v' ys := by
  refine ⟨ho, fun k e => ?_⟩
  unfold recol
  rcases hat with e' | ⟨q, e', hq⟩
  · rw [e'] at e
    rw [if_pos (hl k e)]; exact h k e
  · rw [e'] at e
    cases e
    rw [if_neg (by omega)]
theorem Ow.set (h : Ow col c E m enc B X v xs) {p : Addr} (hp : p.block < B) (u : Value) : Ow col c E m enc B (X.setCell p u) v xs := ⟨OwnSt.cellset h.1 hp u, h.2⟩
end
/-- Rows of one's own; none of them is written any more. -/
def RowsOw (col : Nat → Nat) (B : Nat) (X : World) (wv : Value) (F : List (List Sp)) : Prop :=
  ∃ ss : List Slc, Ow col 2 43 1 slEnc B X wv ss ∧ ss.length = F.length ∧ ∀ i, i < F.length → Ow col 0 23 2 spEnc B X (slV (slAt ss i)) (F.getD i [])
section
variable {col : Nat → Nat} {B : Nat} {X Z : World} {wv : Value} {F : List (List Sp)}
theorem RowsOw.mono (h : RowsOw col B X wv F) (hb : Below X.heap.size X Z) : RowsOw col B Z wv F := by
  obtain ⟨ss, h1, h2, h3⟩ := h
  exact ⟨ss, h1.mono hb, h2, fun i hi => (h3 i hi).mono hb⟩
theorem RowsOw.re (h : RowsOw col B X wv F) (c : Nat) : RowsOw (recol col c X) B X wv F := by
  obtain ⟨ss, h1, h2, h3⟩ := h
  exact ⟨ss, h1.re c, h2, fun i hi => (h3 i hi).re c⟩
theorem RowsOw.keep {row : Option Nat} {c : Nat} (h : RowsOw col B X wv F) (hg : X.grownBy Z row) (hr : ∀ k, row = some k → col k = c) (h0 : 0 ≠ c) (h2 : 2 ≠ c) : RowsOw (recol col c X) B Z wv F := by
  obtain ⟨ss, k1, k2, k3⟩ := h
  exact ⟨ss, k1.keep hg hr h2, k2, fun i hi => (k3 i hi).keep hg hr h0⟩
theorem RowsOw.set (h : RowsOw col B X wv F) {p : Addr} (hp : p.block < B) (u : Value) : RowsOw col B (X.setCell p u) wv F := by
  obtain ⟨ss, h1, h2, h3⟩ := h
  exact ⟨ss, h1.set hp u, h2, fun i hi => (h3 i hi).set hp u⟩
theorem RowsOw.at (h : RowsOw col B X wv F) : SpRowsAt X wv F := by
  obtain ⟨ss, h1, h2, h3⟩ := h
  obtain ⟨a, cap, rfl, hmx, hc⟩ := h1.1.cells slEnc_len ⟨none, 0, 0⟩
  refine ⟨a, cap, by rw [h2], by rw [← h2]; exact hmx, fun h0 => ?_⟩
  obtain ⟨b, rfl, hlt, hk⟩ := hc (by omega)
  refine ⟨b, 0, rfl, hlt, fun k hk' => ⟨slV (slAt ss k), ?_, (h3 k hk').1.els spEnc_len ⟨0, 0⟩⟩⟩
  have := hk k 0 (by omega) (by omega)
  rw [Nat.mul_one, Nat.add_zero] at this
  rw [Nat.zero_add, this]
  rfl
/-- A row more. -/
theorem RowsOw.app {wv' : Value} {s : Slc} {row : List Sp} {ss : List Slc} (k1 : Ow col 2 43 1 slEnc B X wv ss) (k2 : ss.length = F.length) (k3 : ∀ i, i < F.length → Ow col 0 23 2 spEnc B X (slV (slAt ss i)) (F.getD i []))
    (hs : Ow col 0 23 2 spEnc B X (slV s) row) (hg : X.grownBy Z wv.ownBlock) (ho : OwnSt 43 1 slEnc B Z wv' (ss ++ [s])) (hat : wv'.ownBlock = wv.ownBlock ∨ ∃ k, wv'.ownBlock = some k ∧ X.heap.size ≤ k) :
    RowsOw (recol col 2 X) B Z wv' (F ++ [row]) := by
  refine ⟨ss ++ [s], Ow.own k1.2 (fun k e => (k1.1.lt k e).2) ho hat, by simp [k2], fun i hi => ?_⟩
  rw [List.length_append, List.length_singleton] at hi
  rw [slAt_app (by omega), k2]
  by_cases hil : i = F.length
  · subst hil
    rw [if_pos rfl]
    have : (F ++ [row]).getD F.length [] = row := by simp
    rw [this]
    exact hs.keep hg k1.2 (by omega)
  · rw [if_neg hil]
    have : (F ++ [row]).getD i [] = F.getD i [] := by
      rw [List.getD_eq_getElem?_getD, List.getElem?_append_left (by omega), ← List.getD_eq_getElem?_getD]
    rw [this]
    exact (k3 i (by omega)).keep hg k1.2 (by omega)
end
abbrev ptO (y : Gas.Pt) : Obj := .cells #[.int .i64 y.g, .int .i64 y.y, .int .i64 y.t, .int .i64 y.w] 31
/-- The lists so far. -/
structure TbOw (col : Nat → Nat) (B : Nat) (hv wv rv qv : Value) (L : List Int) (F : List (List Sp)) (R Q : List Rd) (X : World) : Prop where
  has : Ow col 1 3 1 intEnc B X hv L
  flows : RowsOw col B X wv F
  reads : Ow col 3 54 4 rdEnc B X rv R
  lacks : Ow col 4 54 4 rdEnc B X qv Q
/-- What stands in the rounds. -/
structure TbSt (U : World) (pb bb lb : Nat) (fv hv wv rv qv : Value) (y : Gas.Pt) (L : List Int) (F : List (List Sp)) (R Q : List Rd) (X : World) : Prop where
  keep : Kept (fun k => k < U.heap.size ∧ k ≠ pb ∧ k ≠ bb ∧ k ≠ lb) U X
  gp : X.heap[pb]? = some (ptO y)
  gb : X.heap[bb]? = some (bkA fv wv rv)
  gl : X.heap[lb]? = some (bkA fv (.slice none 0 0) qv)
  own : ∃ col, TbOw col U.heap.size hv wv rv qv L F R Q X
structure TbB (U : World) (pb bb lb : Nat) : Prop where
  p : pb < U.heap.size
  b : bb < U.heap.size
  l : lb < U.heap.size
  npb : pb ≠ bb
  npl : pb ≠ lb
  nbl : bb ≠ lb
section
variable {U : World} {pb bb lb : Nat} {fv hv wv rv qv : Value} {y : Gas.Pt} {L : List Int} {F : List (List Sp)} {R Q : List Rd} {X Z : World}
theorem TbSt.mono (h : TbSt U pb bb lb fv hv wv rv qv y L F R Q X) (hb : Below X.heap.size X Z) : TbSt U pb bb lb fv hv wv rv qv y L F R Q Z := by
  obtain ⟨h1, h2, h3, h4, col, h5, h6, h7, h8⟩ := h
  exact ⟨h1.trans (.all hb), kept_block hb h2, kept_block hb h3, kept_block hb h4, col, h5.mono hb, h6.mono hb, h7.mono hb, h8.mono hb⟩
theorem TbOw.set {col : Nat → Nat} {B : Nat} (h : TbOw col B hv wv rv qv L F R Q X) {p : Addr} (hp : p.block < B) (u : Value) : TbOw col B hv wv rv qv L F R Q (X.setCell p u) := ⟨h.has.set hp u, h.flows.set hp u, h.reads.set hp u, h.lacks.set hp u⟩
/-- The content is another one. -/
theorem TbSt.setp (h : TbSt U pb bb lb fv hv wv rv qv y L F R Q X) (hU : TbB U pb bb lb) (z : Gas.Pt) :
    TbSt U pb bb lb fv hv wv rv qv z L F R Q ((((X.setCell ⟨pb, 0, none⟩ (.int .i64 z.g)).setCell ⟨pb, 1, none⟩ (.int .i64 z.y)).setCell ⟨pb, 2, none⟩ (.int .i64 z.t)).setCell ⟨pb, 3, none⟩ (.int .i64 z.w)) := by
  obtain ⟨h1, h2, h3, h4, col, h5⟩ := h
  have ho : ∀ n, n ≠ pb → ((((X.setCell ⟨pb, 0, none⟩ (.int .i64 z.g)).setCell ⟨pb, 1, none⟩ (.int .i64 z.y)).setCell ⟨pb, 2, none⟩ (.int .i64 z.t)).setCell ⟨pb, 3, none⟩ (.int .i64 z.w)).heap[n]? = X.heap[n]? := fun n hn => by
    rw [Below.heap_setCell _ _ _ _ hn, Below.heap_setCell _ _ _ _ hn, Below.heap_setCell _ _ _ _ hn, Below.heap_setCell _ _ _ _ hn]
  have hp := hU.p
  refine ⟨?_, ?_, (ho _ (Ne.symm hU.npb)).trans h3, (ho _ (Ne.symm hU.npl)).trans h4, col, (((h5.set (p := ⟨pb, 0, none⟩) hp _).set (p := ⟨pb, 1, none⟩) hp _).set (p := ⟨pb, 2, none⟩) hp _).set (p := ⟨pb, 3, none⟩) hp _⟩
  · have hn : ¬ (pb < U.heap.size ∧ pb ≠ pb ∧ pb ≠ bb ∧ pb ≠ lb) := fun h => h.2.1 rfl
    exact (((h1.setCell (p := ⟨pb, 0, none⟩) (.inl hn) _).setCell (p := ⟨pb, 1, none⟩) (.inl hn) _).setCell (p := ⟨pb, 2, none⟩) (.inl hn) _).setCell (p := ⟨pb, 3, none⟩) (.inl hn) _
  · have a0 := set_one h2 0 (.int .i64 z.g)
    have a1 := set_one a0 1 (.int .i64 z.y)
    have a2 := set_one a1 2 (.int .i64 z.t)
    have a3 := set_one a2 3 (.int .i64 z.w)
    simp only [List.setIfInBounds_toArray, List.set_cons_zero, List.set_cons_succ] at a3
    exact a3
theorem grown_keep (h : Kept (fun k => k < U.heap.size ∧ k ≠ pb ∧ k ≠ bb ∧ k ≠ lb) U X) {row : Option Nat} (hg : X.grownBy Z row) (hr : ∀ k, row = some k → U.heap.size ≤ k) : Kept (fun k => k < U.heap.size ∧ k ≠ pb ∧ k ≠ bb ∧ k ≠ lb) U Z :=
  h.trans (Kept.grown hg fun k _ hs e => by have := hr k e.symm; omega)
theorem grown_old {row : Option Nat} (hg : X.grownBy Z row) (hr : ∀ k, row = some k → U.heap.size ≤ k) {n : Nat} {o : Obj} (hn : X.heap[n]? = some o) (hU : n < U.heap.size) : Z.heap[n]? = some o :=
  (hg.block n (Array.getElem?_eq_some_iff.1 hn).1 (fun e => by have := hr n e.symm; omega)).trans hn
/-- Behind an append to what the cavern had. -/
theorem TbSt.apph (h : TbSt U pb bb lb fv hv wv rv qv y L F R Q X) (hU : TbB U pb bb lb) {hv' : Value} {L' : List Int} (hg : X.grownBy Z hv.ownBlock) (ho : OwnInts U.heap.size Z hv' L') (hat : hv'.ownBlock = hv.ownBlock ∨ ∃ k, hv'.ownBlock = some k ∧ X.heap.size ≤ k) :
    TbSt U pb bb lb fv hv' wv rv qv y L' F R Q Z := by
  obtain ⟨h1, h2, h3, h4, col, h5, h6, h7, h8⟩ := h
  have hr : ∀ k, hv.ownBlock = some k → U.heap.size ≤ k := fun k e => (h5.1.lt k e).1
  exact ⟨grown_keep h1 hg hr, grown_old hg hr h2 hU.p, grown_old hg hr h3 hU.b, grown_old hg hr h4 hU.l, recol col 1 X, Ow.own h5.2 (fun k e => (h5.1.lt k e).2) ho hat, h6.keep hg h5.2 (by omega) (by omega), h7.keep hg h5.2 (by omega), h8.keep hg h5.2 (by omega)⟩
/-- Behind an append to the readings of the book, and its store. -/
theorem TbSt.appr (h : TbSt U pb bb lb fv hv wv rv qv y L F R Q X) (hU : TbB U pb bb lb) {rv' : Value} {R' : List Rd} (hg : X.grownBy Z rv.ownBlock) (ho : OwnRds U.heap.size Z rv' R') (hat : rv'.ownBlock = rv.ownBlock ∨ ∃ k, rv'.ownBlock = some k ∧ X.heap.size ≤ k) :
    TbSt U pb bb lb fv hv wv rv' qv y L F R' Q (Z.setCell ⟨bb, 2, none⟩ rv') := by
  obtain ⟨h1, h2, h3, h4, col, h5, h6, h7, h8⟩ := h
  have hr : ∀ k, rv.ownBlock = some k → U.heap.size ≤ k := fun k e => (h7.1.lt k e).1
  have hs := set_one (grown_old hg hr h3 hU.b) 2 rv'
  simp only [List.setIfInBounds_toArray, List.set_cons_succ, List.set_cons_zero] at hs
  refine ⟨(grown_keep h1 hg hr).setCell (p := ⟨bb, 2, none⟩) (.inl fun h => h.2.2.1 rfl) _, (Below.heap_setCell _ _ _ _ hU.npb).trans (grown_old hg hr h2 hU.p), hs, (Below.heap_setCell _ _ _ _ (Ne.symm hU.nbl)).trans (grown_old hg hr h4 hU.l), recol col 3 X, ?_⟩
  exact TbOw.set (p := ⟨bb, 2, none⟩) ⟨h5.keep hg h7.2 (by omega), h6.keep hg h7.2 (by omega) (by omega), Ow.own h7.2 (fun k e => (h7.1.lt k e).2) ho hat, h8.keep hg h7.2 (by omega)⟩ hU.b _
theorem TbSt.appq (h : TbSt U pb bb lb fv hv wv rv qv y L F R Q X) (hU : TbB U pb bb lb) {qv' : Value} {Q' : List Rd} (hg : X.grownBy Z qv.ownBlock) (ho : OwnRds U.heap.size Z qv' Q') (hat : qv'.ownBlock = qv.ownBlock ∨ ∃ k, qv'.ownBlock = some k ∧ X.heap.size ≤ k) :
    TbSt U pb bb lb fv hv wv rv qv' y L F R Q' (Z.setCell ⟨lb, 2, none⟩ qv') := by
  obtain ⟨h1, h2, h3, h4, col, h5, h6, h7, h8⟩ := h
  have hr : ∀ k, qv.ownBlock = some k → U.heap.size ≤ k := fun k e => (h8.1.lt k e).1
  have hs := set_one (grown_old hg hr h4 hU.l) 2 qv'
  simp only [List.setIfInBounds_toArray, List.set_cons_succ, List.set_cons_zero] at hs
  refine ⟨(grown_keep h1 hg hr).setCell (p := ⟨lb, 2, none⟩) (.inl fun h => h.2.2.2 rfl) _, (Below.heap_setCell _ _ _ _ hU.npl).trans (grown_old hg hr h2 hU.p), (Below.heap_setCell _ _ _ _ hU.nbl).trans (grown_old hg hr h3 hU.b), hs, recol col 4 X, ?_⟩
  exact TbOw.set (p := ⟨lb, 2, none⟩) ⟨h5.keep hg h8.2 (by omega), h6.keep hg h8.2 (by omega) (by omega), h7.keep hg h8.2 (by omega), Ow.own h8.2 (fun k e => (h8.1.lt k e).2) ho hat⟩ hU.l _
/-- A row in two fresh blocks is appended to the flows: what the append asks, and what stands behind it and its store. -/
theorem TbSt.appf (h : TbSt U pb bb lb fv hv wv rv qv y L F R Q X) (hU : TbB U pb bb lb) (hUX : U.heap.size ≤ X.heap.size) (n : Int) {X2 : World}
    (hX : (X.alloc (.cells #[.int .i64 n, .int .i64 n] 23)).alloc (.cells #[.slice (some ⟨X.heap.size, 0, none⟩) 1 1] 43) = X2) :
    ∃ ss : List Slc, OwnSt 43 1 slEnc U.heap.size X2 wv ss ∧ ss.length = F.length ∧ X2.heap[X.heap.size + 1]? = some (.cells (slEnc ⟨some ⟨X.heap.size, 0, none⟩, 1, 1⟩).toArray 43) ∧
      ∀ Z wv', OwnSt 43 1 slEnc U.heap.size Z wv' (ss ++ [⟨some ⟨X.heap.size, 0, none⟩, 1, 1⟩]) → X2.grownBy Z wv.ownBlock → (wv'.ownBlock = wv.ownBlock ∨ wv'.ownBlock = some X2.heap.size) →
        TbSt U pb bb lb fv hv wv' rv qv y L (F ++ [[⟨n, n⟩]]) R Q (Z.setCell ⟨bb, 1, none⟩ wv') := by
  obtain ⟨e0, e1, s0, b0⟩ := two_new hX
  obtain ⟨h1, h2, h3, h4, col, h5, ⟨ss, k1, k2, k3⟩, h7, h8⟩ := h
  refine ⟨ss, (k1.mono b0).1, k2, e1, fun Z wv' ho hg hat => ?_⟩
  have hr : ∀ k, wv.ownBlock = some k → U.heap.size ≤ k := fun k e => (k1.1.lt k e).1
  have hcl : ∀ k, wv.ownBlock = some k → recol col 0 X k = 2 := (k1.re 0).2
  have g2 := grown_old hg hr (kept_block b0 h2) hU.p
  have g3 := grown_old hg hr (kept_block b0 h3) hU.b
  have g4 := grown_old hg hr (kept_block b0 h4) hU.l
  have hs := set_one g3 1 wv'
  simp only [List.setIfInBounds_toArray, List.set_cons_succ, List.set_cons_zero] at hs
  refine ⟨(grown_keep (h1.trans (.all b0)) hg hr).setCell (p := ⟨bb, 1, none⟩) (.inl fun h => h.2.2.1 rfl) _, (Below.heap_setCell _ _ _ _ hU.npb).trans g2, hs, (Below.heap_setCell _ _ _ _ (Ne.symm hU.nbl)).trans g4, recol (recol col 0 X) 2 X2, ?_⟩
  have hrow : Ow (recol col 0 X) 0 23 2 spEnc U.heap.size X2 (slV ⟨some ⟨X.heap.size, 0, none⟩, 1, 1⟩) [⟨n, n⟩] := by
    refine ⟨?_, fun k e => ?_⟩
    · refine ⟨by simp, .inr ⟨X.heap.size, 1, #[.int .i64 n, .int .i64 n], rfl, hUX, e0, Nat.le_refl _, by simp [maxLen], by simp, ?_⟩⟩
      rfl
    · obtain rfl : X.heap.size = k := by simpa [Value.ownBlock] using e
      unfold recol; rw [if_neg (by omega)]
  exact TbOw.set (p := ⟨bb, 1, none⟩) ⟨((h5.re 0).mono b0).keep hg hcl (by omega),
    RowsOw.app ((k1.re 0).mono b0) k2 (fun i hi => ((k3 i hi).re 0).mono b0) hrow hg ho (hat.imp id fun e => ⟨_, e, Nat.le_refl _⟩), ((h7.re 0).mono b0).keep hg hcl (by omega), ((h8.re 0).mono b0).keep hg hcl (by omega)⟩ hU.b _
end
/-- Four cells of a content are set. -/
abbrev setPt (X : World) (n : Nat) (z : Gas.Pt) : World := (((X.setCell ⟨n, 0, none⟩ (.int .i64 z.g)).setCell ⟨n, 1, none⟩ (.int .i64 z.y)).setCell ⟨n, 2, none⟩ (.int .i64 z.t)).setCell ⟨n, 3, none⟩ (.int .i64 z.w)
theorem setPt_at {X : World} {n : Nat} {a0 a1 a2 a3 : Value} (h : X.heap[n]? = some (.cells #[a0, a1, a2, a3] 31)) (z : Gas.Pt) : (setPt X n z).heap[n]? = some (ptO z) := by
  have h2 := set_one (set_one (set_one (set_one h 0 (.int .i64 z.g)) 1 (.int .i64 z.y)) 2 (.int .i64 z.t)) 3 (.int .i64 z.w)
  simp only [List.setIfInBounds_toArray, List.set_cons_zero, List.set_cons_succ] at h2
  exact h2
theorem setPt_far {X : World} {n m : Nat} {o : Obj} (h : X.heap[m]? = some o) (hne : m ≠ n) (z : Gas.Pt) : (setPt X n z).heap[m]? = some o := by
  unfold setPt
  rw [Below.heap_setCell _ _ _ _ hne, Below.heap_setCell _ _ _ _ hne, Below.heap_setCell _ _ _ _ hne, Below.heap_setCell _ _ _ _ hne]; exact h
theorem setPt_below {B : Nat} {w X : World} (h : Below B w X) {n : Nat} (hn : B ≤ n) (z : Gas.Pt) : Below B w (setPt X n z) :=
  (((h.setCell (p := ⟨n, 0, none⟩) hn _).setCell (p := ⟨n, 1, none⟩) hn _).setCell (p := ⟨n, 2, none⟩) hn _).setCell (p := ⟨n, 3, none⟩) hn _
/-- The states that are told lie in one block. -/
theorem sts_block {B : Nat} {X : World} {a : Option Addr} {n cap : Nat} {R : List Gas.St} (h : G.OwnSts B X (.slice a n cap) R) (h0 : 0 < R.length) :
    ∃ b, a = some ⟨b, 0, none⟩ ∧ B ≤ b ∧ b < X.heap.size ∧ ∀ k, k < R.length → G.StCells X b (k * 8) (Gas.theSt R k) := by
  obtain ⟨a', cap', e, -, hc⟩ := G.own_sts h
  simp only [Value.slice.injEq] at e
  obtain ⟨rfl, -, rfl⟩ := e
  obtain ⟨b, off, rfl, hlt, hk⟩ := hc h0
  obtain ⟨a2, cap2, e2, -, hc2⟩ := h.cells G.stEnc_len ⟨0, 0, 0, 0, 0, 0, 0, 0⟩
  simp only [Value.slice.injEq] at e2
  obtain ⟨e2, -, -⟩ := e2
  obtain ⟨b', hb', -, -⟩ := hc2 h0
  rw [hb'] at e2
  simp only [Option.some.injEq, Addr.mk.injEq] at e2
  obtain ⟨rfl, rfl, -⟩ := e2
  refine ⟨b, rfl, (h.lt b rfl).1, hlt, fun k hk' => ?_⟩
  have := hk k hk'
  rwa [Nat.zero_add] at this
theorem stc_same {X Z : World} {b o : Nat} {x : Gas.St} (h : G.StCells X b o x) (hb : Z.heap[b]? = X.heap[b]?) : G.StCells Z b o x := by
  have hc : ∀ o v, X.cell? ⟨b, o, none⟩ = some v → Z.cell? ⟨b, o, none⟩ = some v := fun o v hv => (World.cell?_of_block (a := ⟨b, o, none⟩) hb).trans hv
  obtain ⟨h0, h1, h2, h3, h4, h5, h6, h7⟩ := h
  exact ⟨hc _ _ h0, hc _ _ h1, hc _ _ h2, hc _ _ h3, hc _ _ h4, hc _ _ h5, hc _ _ h6, hc _ _ h7⟩
/-- One operation is played, whatever is true of it. -/
theorem playOne {c : Gas.Cav} {o : Gas.Op} {p x g : Gas.Pt} {u v : Int} (hc : c.ok = true) (hp : p.Ok) (ho : o.ok = true) (hu : Gas.inB u o.slo o.shi = true) (hv : Gas.inB v o.wlo o.whi = true) (h1 : Gas.one c p o u v = some (x, g))
    (lv av bv : Value) (w : World) (hl : G.OpsAt w lv [o]) (ha : G.IntsAt w av [u]) (hb : G.IntsAt w bv [v]) :
    Calls Tryz.prog 11 #[G.cavV c, G.ptV p, lv, av, bv] w fun e w' => e = .returned (.tuple #[G.ptV x, G.ptV (Gas.addPt ⟨0, 0, 0, 0⟩ g), .int .i64 0]) ∧ Below w.heap.size w w' := by
  have ht : Gas.truthB [o] [u] [v] = true := Gas.truth_iff.2 ⟨rfl, rfl, fun j hj => by
    obtain rfl : j = 0 := by simp at hj; omega
    show (Gas.inB u o.slo o.shi && Gas.inB v o.wlo o.whi) = true
    rw [hu, hv]; rfl⟩
  have he := Gas.playErr_ok1 (c := c) (p := p) (l := [o]) (xa := [u]) (xb := [v]) (by simp) hc (Gas.Pt.ok_iff.2 hp) (by simp [Gas.opsB, ho]) ht
  have hpl : Gas.play c p [o] [u] [v] = some (x, Gas.addPt ⟨0, 0, 0, 0⟩ g) := by
    show (match Gas.one c p o u v with | none => none | some (x, g) => some (x, Gas.addPt ⟨0, 0, 0, 0⟩ g)) = _
    rw [h1]
  exact G.progPlaySome w hl ha hb he hpl
theorem TbSt.below {U : World} {pb bb lb : Nat} {fv hv wv rv qv : Value} {y : Gas.Pt} {L : List Int} {F : List (List Sp)} {R Q : List Rd} {X : World} (h : TbSt U pb bb lb fv hv wv rv qv y L F R Q X) {w : World} (hw : Below w.heap.size w U) (h1 : w.heap.size ≤ pb) (h2 : w.heap.size ≤ bb) (h3 : w.heap.size ≤ lb) :
    Below w.heap.size w X := hw.trans (h.keep.below hw.size fun k hk => ⟨Nat.lt_of_lt_of_le hk hw.size, by omega, by omega, by omega⟩)
theorem wpList_app_run {w : World} {ops : Array Oper} {rest : List Oper} {o : Oper} {a : Act} {Q : Exit → Act → World → Prop} (hg : o.guard = none) (s x : Operand) (T : TypeId)
    (hop : o.op = .call { callee := .builtin .append, args := #[s, x], argTypes := #[T, T] }) (v xv v' : Value) (w' : World) (hs : a.eval s = v) (hx : a.eval x = xv) (hrun : (Builtin.append_ #[T, T] o.type #[v, xv]).run Tryz.prog w = .ok v' w')
    (hK : wpList Tryz.prog ops Q rest (a.put o.dst v') w') : wpList Tryz.prog ops Q (o :: rest) a w := by
  refine wpList_plain hg fun K hK' => ?_
  unfold Oper.wp
  simp [execOp, hop, resolve, invoke, builtin, hs, hx, hrun, Result.andThen]
  exact hK' _ _ hK
/-- A fresh block that holds one thing, as a slice of one element. -/
def SlIs (L : Nat) (cs : List Value) (E : TypeId) : Value → World → Prop := fun v x => ∃ bl, v = .slice (some ⟨bl, 0, none⟩) 1 1 ∧ L ≤ bl ∧ x.heap[bl]? = some (.cells cs.toArray E)
theorem pers_sl (L : Nat) (cs : List Value) (E : TypeId) : Pers (SlIs L cs E) := fun v w w' hb h => by
  obtain ⟨bl, h1, h2, h3⟩ := h
  exact ⟨bl, h1, h2, kept_block hb h3⟩
theorem infoSlS1 : (Tryz.prog.info? 43).map (fun i => (i.zero, i.size, i.bytes)) = some (some (.slice none 0 0), 1, 24) := by kernel_rfl
theorem rdEnc_one1 (x : Rd) : ∀ u ∈ rdEnc x, u.oneCell' = true := by simp [rdEnc, Value.oneCell']
theorem flows_succ {lo hi : Int} {came m wd : Nat → Int} {k : Nat} : (Tb.bk lo hi came m wd (k + 1)).flows = (Tb.bk lo hi came m wd k).flows ++ [[⟨came k, came k⟩]] := by simp [Tb.bk, List.range_succ]
theorem reads_succ {lo hi : Int} {came m wd : Nat → Int} {k : Nat} : (Tb.bk lo hi came m wd (k + 1)).reads = (Tb.bk lo hi came m wd k).reads ++ [⟨(k : Int), 0, ⟨m k - wd k, m k + wd k⟩⟩] := by simp [Tb.bk, List.range_succ]
theorem flows_len {lo hi : Int} {came m wd : Nat → Int} {k : Nat} : (Tb.bk lo hi came m wd k).flows.length = k := by simp [Tb.bk]
theorem reads_len {lo hi : Int} {came m wd : Nat → Int} {k : Nat} : (Tb.bk lo hi came m wd k).reads.length = k := by simp [Tb.bk]
end Go.Proofs.YthbkcoijafehgaaGreat.L
