/- Gas: states in memory: lists of states that a call makes itself and appends to; what steps yield; whether lists of states are the same. -/
import Derived.Test.YtgmbolagciaenaaOps
import Derived.Test.YtgmbolagciaenaaDof
import Derived.Test.YtgmbolagciaenaaGen
set_option linter.unusedVariables false
set_option linter.unusedSimpArgs false
namespace Gas
def theSt (l : List St) (k : Nat) : St := l.getD k ⟨0, 0, 0, 0, 0, 0, 0, 0⟩
theorem theSt_lt {l : List St} {k : Nat} (h : k < l.length) : theSt l k = l[k] := by simp [theSt, h]
theorem drop_theOp {l : List Op} {k : Nat} (h : k < l.length) : l.drop k = theOp l k :: l.drop (k + 1) := by rw [theOp_lt h]; exact List.drop_eq_getElem_cons h
/-- The states behind operations, on top of those told so far, and the first one that cannot be done. -/
def stepsFrom (c : Cav) : List Op → St → List St → Nat → List St × Int
  | [], _, acc, _ => (acc, -1)
  | o :: r, s, acc, k => match act c s o with
    | none => (acc, (k : Int))
    | some (x, _) => stepsFrom c r x (acc ++ [x]) (k + 1)
def steps (c : Cav) (s : St) (l : List Op) : List St × Int := stepsFrom c l s [] 0
theorem steps_stop {c : Cav} {l : List Op} {s : St} {acc : List St} {k : Nat} (h : k < l.length) (ha : act c s (theOp l k) = none) : stepsFrom c (l.drop k) s acc k = (acc, (k : Int)) := by
  rw [drop_theOp h]; simp only [stepsFrom, ha]
theorem steps_next {c : Cav} {l : List Op} {s x : St} {q : Out} {acc : List St} {k : Nat} (h : k < l.length) (ha : act c s (theOp l k) = some (x, q)) : stepsFrom c (l.drop k) s acc k = stepsFrom c (l.drop (k + 1)) x (acc ++ [x]) (k + 1) := by
  rw [drop_theOp h]; simp only [stepsFrom, ha]
theorem steps_end {c : Cav} {l : List Op} {s : St} {acc : List St} : stepsFrom c (l.drop l.length) s acc l.length = (acc, -1) := by
  rw [List.drop_length]; rfl
end Gas
namespace Go.Proofs.Ytgmbolagciaenaa
open Go.RowKit Go.Sd Gas

section
variable {α : Type} {enc : α → List Value} {m : Nat}
theorem fl_get (hm : ∀ x, (enc x).length = m) (d : α) : ∀ (xs : List α) (k i : Nat), k < xs.length → i < m → (xs.flatMap enc)[k * m + i]? = (enc (xs.getD k d))[i]?
  | [], k, i, h, _ => by simp at h
  | x :: xs, 0, i, _, hi => by
    rw [List.flatMap_cons, List.getElem?_append_left (by rw [hm x]; omega)]
    simp
  | x :: xs, k + 1, i, h, hi => by
    have ih := fl_get hm d xs k i (by simpa using h) hi
    rw [List.flatMap_cons, List.getElem?_append_right (by rw [hm x, Nat.add_mul]; omega), hm x, show (k + 1) * m + i - m = k * m + i by rw [Nat.add_mul]; omega, ih]
    simp

/-- A slice of structs of one's own. -/
def OwnSt (E : TypeId) (m : Nat) (enc : α → List Value) (B : Nat) (w : World) (v : Value) (xs : List α) : Prop := w.ownsRow B E m v xs.length (xs.flatMap enc)
theorem OwnSt.nil (E : TypeId) (m : Nat) (enc : α → List Value) (B : Nat) (w : World) : OwnSt E m enc B w (.slice none 0 0) [] := World.ownsRow_nil w B _ m
theorem OwnSt.kept {E : TypeId} {B : Nat} {w w' : World} {row : Option Nat} {v : Value} {xs : List α} (h : OwnSt E m enc B w v xs) (hg : w.grownBy w' row) (hne : v.ownBlock = none ∨ v.ownBlock ≠ row) : OwnSt E m enc B w' v xs := World.ownsRow.kept h hg hne
theorem OwnSt.mono {E : TypeId} {B : Nat} {w w' : World} {v : Value} {xs : List α} (h : OwnSt E m enc B w v xs) (hb : Below w.heap.size w w') : OwnSt E m enc B w' v xs := h.kept (grown_of_below hb) (by cases v.ownBlock <;> simp)
theorem OwnSt.lt {E : TypeId} {B : Nat} {w : World} {v : Value} {xs : List α} (h : OwnSt E m enc B w v xs) : ∀ k, v.ownBlock = some k → B ≤ k ∧ k < w.heap.size := World.ownsRow.lt h
theorem OwnSt.cellset {E : TypeId} {B : Nat} {w : World} {v : Value} {xs : List α} (h : OwnSt E m enc B w v xs) {p : Addr} (hp : p.block < B) (u : Value) : OwnSt E m enc B (w.setCell p u) v xs :=
  h.kept (row := some p.block) ⟨rfl, rfl, rfl, by simp [World.setCell], fun k _ hk => Below.heap_setCell _ _ _ _ (fun e => hk (by rw [e]))⟩ (.inr fun e => by have := (h.lt _ e).1; omega)
theorem OwnSt.from {E : TypeId} {B B' : Nat} {w : World} {v : Value} {xs : List α} (h : OwnSt E m enc B w v xs) (hB : B' ≤ B) : OwnSt E m enc B' w v xs := by
  obtain ⟨h1, h2⟩ := h
  refine ⟨h1, ?_⟩
  rcases h2 with h2 | ⟨g, cap, cur, hv, hg, r⟩
  · exact .inl h2
  · exact .inr ⟨g, cap, cur, hv, by omega, r⟩
theorem OwnSt.slice {E : TypeId} {B : Nat} {w : World} {v : Value} {xs : List α} (h : OwnSt E m enc B w v xs) : ∃ a cap, v = .slice a xs.length cap := by
  obtain ⟨_, h2⟩ := h
  rcases h2 with ⟨rfl, h0⟩ | ⟨g, cap, cur, rfl, _⟩
  · exact ⟨none, 0, by rw [h0]⟩
  · exact ⟨_, cap, rfl⟩
theorem OwnSt.cells {E : TypeId} {B : Nat} {w : World} {v : Value} {xs : List α} (hm : ∀ x, (enc x).length = m) (d : α) (h : OwnSt E m enc B w v xs) : ∃ a cap, v = .slice a xs.length cap ∧ xs.length ≤ maxLen ∧
    (0 < xs.length → ∃ b, a = some ⟨b, 0, none⟩ ∧ b < w.heap.size ∧ ∀ k i, k < xs.length → i < m → w.cell? ⟨b, k * m + i, none⟩ = (enc (xs.getD k d))[i]?) := by
  have h0 := h
  obtain ⟨_, h2⟩ := h
  rcases h2 with ⟨rfl, hn⟩ | ⟨g, cap, cur, rfl, hB, hg, hn, hmx, hs, ht⟩
  · exact ⟨none, 0, by rw [hn], by simp [hn], fun h => by omega⟩
  · refine ⟨_, cap, rfl, by omega, fun hp => ⟨g, rfl, (Array.getElem?_eq_some_iff.1 hg).1, fun k i hk hi => ?_⟩⟩
    have hlt : k * m + i < xs.length * m := by
      have : (k + 1) * m ≤ xs.length * m := Nat.mul_le_mul_right m (by omega)
      rw [Nat.add_mul] at this; omega
    rw [h0.cellAt (k * m + i) hlt, fl_get hm d xs k i hk hi]

/-- 'xs = append(xs, y)', y a struct. -/
theorem wpList_app_st (hm : ∀ x, (enc x).length = m) (T E : TypeId) (z : Value) (bytes : Nat) (hT : Try.prog.underlying T = some (.slice E)) (hinfo : (Try.prog.info? E).map (fun i => (i.zero, i.size, i.bytes)) = some (some z, m, bytes))
    (hzc : z.cells.size = m) (hm0 : 0 < m) (hby : bytes ≤ 1000) (hone : ∀ x, ∀ u ∈ enc x, u.oneCell' = true)
    {ops : Array Oper} {rest : List Oper} {o : Oper} {a : Act} {Q : Exit → Act → World → Prop} (hgd : o.guard = none) (s x : Operand)
    (ho : o.op = .call { callee := .builtin .append, args := #[s, x], argTypes := #[T, T] })
    (B : Nat) (w : World) (v : Value) (xs : List α) (y : α) (hs : a.eval s = v) (hown : OwnSt E m enc B w v xs) (hx : a.eval x = .slice (some ⟨w.heap.size, 0, none⟩) 1 1)
    (hn : xs.length ≤ 1000000) (hB : B ≤ w.heap.size)
    (h : ∀ v' w', OwnSt E m enc B w' v' (xs ++ [y]) → w.grownBy w' v.ownBlock → (v'.ownBlock = v.ownBlock ∨ ∃ k, v'.ownBlock = some k ∧ w.heap.size ≤ k) → wpList Try.prog ops Q rest (a.put o.dst v') w') :
    wpList Try.prog ops Q (o :: rest) a (w.alloc (.cells (enc y).toArray E)) := by
  obtain ⟨i0, hi, hz0, hz1, hz2⟩ := info_parts hinfo
  have hnw := World.alloc_heap_new w (.cells (enc y).toArray E)
  refine wpList_append_own_at _ hgd s x T ho B E i0 _ m bytes hT hi hz0 hz1 hz2 hzc hm0 v xs.length _ hs (World.ownsRow.alloc hown _) ⟨w.heap.size, 0, none⟩ 1 1 (enc y) hx (by rw [hm y]; omega) ?_ (hone y) ?_ ?_ ?_ ?_
  · exact World.news_of_block (cs := (enc y).toArray) (t := E) (fr := (0, 0)) hnw
  · unfold maxLen; omega
  · have : (xs.length + 1) * bytes ≤ 1000001 * 1000 := Nat.mul_le_mul (by omega) hby
    omega
  · simp; omega
  · intro v' w' h1 h2 h3 h4
    refine h v' w' ?_ (grownBy_trans (World.grownBy_alloc w _ _) h2) ?_
    · unfold OwnSt
      rw [List.length_append, List.flatMap_append]
      simpa using h1
    · rcases h4 with h4 | h4
      · exact .inl h4
      · exact .inr ⟨_, h4, by simp⟩
end

abbrev stEnc (s : St) : List Value := [.int .i64 s.glo, .int .i64 s.ghi, .int .i64 s.ylo, .int .i64 s.yhi, .int .i64 s.tlo, .int .i64 s.thi, .int .i64 s.wlo, .int .i64 s.whi]
theorem stEnc_len (x : St) : (stEnc x).length = 8 := rfl
theorem stEnc_one (x : St) : ∀ u ∈ stEnc x, u.oneCell' = true := by simp [stEnc, Value.oneCell']
theorem infoSt : (Try.prog.info? 28).map (fun i => (i.zero, i.size, i.bytes)) = some (some (.agg #[.int .i64 0, .int .i64 0, .int .i64 0, .int .i64 0, .int .i64 0, .int .i64 0, .int .i64 0, .int .i64 0]), 8, 64) := by kernel_rfl
abbrev OwnSts (B : Nat) (w : World) (v : Value) (xs : List St) : Prop := OwnSt 28 8 stEnc B w v xs

/-- The eight cells of a state. -/
def StCells (w : World) (b o : Nat) (x : St) : Prop :=
  w.cell? ⟨b, o, none⟩ = some (.int .i64 x.glo) ∧ w.cell? ⟨b, o + 1, none⟩ = some (.int .i64 x.ghi) ∧ w.cell? ⟨b, o + 2, none⟩ = some (.int .i64 x.ylo) ∧ w.cell? ⟨b, o + 3, none⟩ = some (.int .i64 x.yhi) ∧ w.cell? ⟨b, o + 4, none⟩ = some (.int .i64 x.tlo) ∧ w.cell? ⟨b, o + 5, none⟩ = some (.int .i64 x.thi) ∧ w.cell? ⟨b, o + 6, none⟩ = some (.int .i64 x.wlo) ∧ w.cell? ⟨b, o + 7, none⟩ = some (.int .i64 x.whi)
theorem StCells.mono {w w' : World} {b o : Nat} {x : St} (h : StCells w b o x) (hb : Below w.heap.size w w') : StCells w' b o x := by
  obtain ⟨h0, h1, h2, h3, h4, h5, h6, h7⟩ := h
  exact ⟨kept_cell hb h0, kept_cell hb h1, kept_cell hb h2, kept_cell hb h3, kept_cell hb h4, kept_cell hb h5, kept_cell hb h6, kept_cell hb h7⟩
/-- A slice that reads as a list of states. -/
def StsAt (w : World) (v : Value) (xs : List St) : Prop :=
  ∃ a cap, v = .slice a xs.length cap ∧ xs.length ≤ maxLen ∧
    (0 < xs.length → ∃ b off, a = some ⟨b, off, none⟩ ∧ b < w.heap.size ∧ ∀ k, k < xs.length → StCells w b (off + k * 8) (theSt xs k))
theorem StsAt.mono {w w' : World} {v : Value} {xs : List St} (h : StsAt w v xs) (hb : Below w.heap.size w w') : StsAt w' v xs := by
  obtain ⟨a, cap, rfl, hm, hc⟩ := h
  refine ⟨a, cap, rfl, hm, fun h0 => ?_⟩
  obtain ⟨b, off, rfl, hlt, hk⟩ := hc h0
  exact ⟨b, off, rfl, Nat.lt_of_lt_of_le hlt hb.size, fun k hk' => (hk k hk').mono hb⟩
theorem own_sts {B : Nat} {w : World} {v : Value} {xs : List St} (h : OwnSts B w v xs) : StsAt w v xs := by
  obtain ⟨a, cap, rfl, hm, hk⟩ := h.cells stEnc_len ⟨0, 0, 0, 0, 0, 0, 0, 0⟩
  refine ⟨a, cap, rfl, hm, fun hp => ?_⟩
  obtain ⟨b, rfl, hlt, hc⟩ := hk hp
  refine ⟨b, 0, rfl, hlt, fun k hk => ?_⟩
  simp only [Nat.zero_add]
  exact ⟨hc k 0 hk (by omega), hc k 1 hk (by omega), hc k 2 hk (by omega), hc k 3 hk (by omega), hc k 4 hk (by omega), hc k 5 hk (by omega), hc k 6 hk (by omega), hc k 7 hk (by omega)⟩
theorem StsAt.nil (w : World) : StsAt w (.slice none 0 0) [] := ⟨none, 0, rfl, by simp, fun h => by simp at h⟩

set_option maxRecDepth 100000 in
set_option maxHeartbeats 8000000 in
theorem refSame (av bv : Value) (xs : List St) (w : World) (ha : StsAt w av xs) (hb : StsAt w bv xs) :
    Calls Try.prog 33 #[av, bv] w fun e w' => e = .returned (.bool true) ∧ Below w.heap.size w w' := by
  obtain ⟨a, cap, rfl, hm, hc⟩ := ha
  obtain ⟨a2, cap2, rfl, -, hc2⟩ := hb
  unfold maxLen at hm
  have hm' : xs.length ≤ 9223372036854775807 := by omega
  have hcA := Lib.hid hc; have hcB := Lib.hid hc2
  clear hc hc2
  go_enter Try.func33, Try.ntmps33
  go_wp2
  go_loopw [5] (fun i wr => ∃ g : Grow w, wr = g.x ∧ ∃ k : Nat, k ≤ xs.length ∧ i = .int .i64 k) (fun i _ => xs.length - (intOf i).toNat)
  case atStart => exact ⟨Grow.self w, rfl, 0, Nat.zero_le _, rfl⟩
  case round =>
    obtain ⟨g, rfl, k, hk, rfl⟩ := hrel
    by_cases hlt : k < xs.length
    · obtain ⟨b, off, rfl, hb, hcell⟩ := hcA.out (by omega)
      obtain ⟨b2, off2, rfl, hb2, hcell2⟩ := hcB.out (by omega)
      obtain ⟨c0, c1, c2, c3, c4, c5, c6, c7⟩ := (hcell k hlt).mono g.h
      obtain ⟨d0, d1, d2, d3, d4, d5, d6, d7⟩ := (hcell2 k hlt).mono g.h
      clear hcell hcell2
      have hki : (k : Int) < (xs.length : Int) := by omega
      generalize theSt xs k = x at *
      obtain ⟨V, hV⟩ : ∃ V, g.x = V := ⟨_, rfl⟩
      have hBV : Below w.heap.size w V := by rw [← hV]; exact g.h
      rw [hV] at c0 c1 c2 c3 c4 c5 c6 c7 d0 d1 d2 d3 d4 d5 d6 d7 ⊢
      have zb := World.block_lt_of_cell? _ ⟨b, _, none⟩ c0
      have zb2 := World.block_lt_of_cell? _ ⟨b2, _, none⟩ d0
      simp only at zb zb2
      have hgc := grow_cell V
      go_wp2
      refine wp_region_grow (by kernel_rfl) (by kernel_rfl) ?_
      repeat (go_big_quiet_step (fail))
      refine wpQuiet_nil ?_
      rintro _ ⟨g, rfl⟩
      go_wp2
      obtain ⟨g3, hg3⟩ : ∃ g3 : Grow w, g.x = g3.x := ⟨⟨g.x, hBV.trans (g.h.mono hBV.size)⟩, rfl⟩
      exact ⟨⟨g3, hg3, k + 1, by omega, by go_num⟩, by simp [intOf]; omega⟩
    · obtain rfl : k = xs.length := by omega
      go_wp2
      go_ret
      exact ⟨rfl, g.h⟩
end Go.Proofs.Ytgmbolagciaenaa
