/- Slices of structs that a call makes itself and appends to. -/
import Derived.Test.YtddmfkhmhdddeaaDay
import Derived.Maps.AppendAt
import Derived.OwnWalk
import Derived.Laws.MakeOwn
import Derived.Deep.AppendLies
set_option linter.unusedVariables false
set_option linter.unusedSimpArgs false
namespace Go.Proofs.Ytddmfkhmhdddeaa
open Go.RowKit Go.Sd Lk

theorem grown_of_below {w w' : World} (h : Below w.heap.size w w') : w.grownBy w' none :=
  ⟨h.os, h.tape, h.output, h.size, fun k hk _ => h.block k hk⟩
theorem grownBy_trans {a b c : World} {row : Option Nat} (h : a.grownBy b row) (k : b.grownBy c row) : a.grownBy c row :=
  ⟨k.os.trans h.os, k.tape.trans h.tape, k.output.trans h.output, Nat.le_trans h.size k.size, fun i hi hne => (k.block i (Nat.lt_of_lt_of_le hi h.size) hne).trans (h.block i hi hne)⟩

section
variable {α : Type} {enc : α → List Value} {m : Nat}
theorem fl_get (hm : ∀ x, (enc x).length = m) (d : α) : ∀ (xs : List α) (k i : Nat), k < xs.length → i < m → (xs.flatMap enc)[k * m + i]? = (enc (xs.getD k d))[i]?
  | [], k, i, h, _ => by simp at h
  | x :: xs, 0, i, _, hi => by
    rw [List.flatMap_cons, List.getElem?_append_left (by rw [hm x]; omega)]
    simp
  | x :: xs, k + 1, i, h, hi => by
    have ih := fl_get hm d xs k i (by simpa using h) hi
    rw [List.flatMap_cons, List.getElem?_append_right (by rw [hm x, Nat.add_mul]; omega), hm x, show (k + 1) * m + i - m = k * m + i by rw [Nat.add_mul]; omega, ih]
    simp

/-- A slice of structs of one's own. -/
def OwnSt (E : TypeId) (m : Nat) (enc : α → List Value) (B : Nat) (w : World) (v : Value) (xs : List α) : Prop := w.ownsRow B E m v xs.length (xs.flatMap enc)
theorem OwnSt.nil (E : TypeId) (m : Nat) (enc : α → List Value) (B : Nat) (w : World) : OwnSt E m enc B w (.slice none 0 0) [] := World.ownsRow_nil w B _ m
theorem OwnSt.kept {E : TypeId} {B : Nat} {w w' : World} {row : Option Nat} {v : Value} {xs : List α} (h : OwnSt E m enc B w v xs) (hg : w.grownBy w' row) (hne : v.ownBlock = none ∨ v.ownBlock ≠ row) : OwnSt E m enc B w' v xs := World.ownsRow.kept h hg hne
theorem OwnSt.mono {E : TypeId} {B : Nat} {w w' : World} {v : Value} {xs : List α} (h : OwnSt E m enc B w v xs) (hb : Below w.heap.size w w') : OwnSt E m enc B w' v xs := h.kept (grown_of_below hb) (by cases v.ownBlock <;> simp)
theorem OwnSt.lt {E : TypeId} {B : Nat} {w : World} {v : Value} {xs : List α} (h : OwnSt E m enc B w v xs) : ∀ k, v.ownBlock = some k → B ≤ k ∧ k < w.heap.size := World.ownsRow.lt h
theorem OwnSt.cellset {E : TypeId} {B : Nat} {w : World} {v : Value} {xs : List α} (h : OwnSt E m enc B w v xs) {p : Addr} (hp : p.block < B) (u : Value) : OwnSt E m enc B (w.setCell p u) v xs :=
  h.kept (row := some p.block) ⟨rfl, rfl, rfl, by simp [World.setCell], fun k _ hk => Below.heap_setCell _ _ _ _ (fun e => hk (by rw [e]))⟩ (.inr fun e => by have := (h.lt _ e).1; omega)
theorem OwnSt.from {E : TypeId} {B B' : Nat} {w : World} {v : Value} {xs : List α} (h : OwnSt E m enc B w v xs) (hB : B' ≤ B) : OwnSt E m enc B' w v xs := by
  obtain ⟨h1, h2⟩ := h
  refine ⟨h1, ?_⟩
  rcases h2 with h2 | ⟨g, cap, cur, hv, hg, r⟩
  · exact .inl h2
  · exact .inr ⟨g, cap, cur, hv, by omega, r⟩
theorem OwnSt.slice {E : TypeId} {B : Nat} {w : World} {v : Value} {xs : List α} (h : OwnSt E m enc B w v xs) : ∃ a cap, v = .slice a xs.length cap := by
  obtain ⟨_, h2⟩ := h
  rcases h2 with ⟨rfl, h0⟩ | ⟨g, cap, cur, rfl, _⟩
  · exact ⟨none, 0, by rw [h0]⟩
  · exact ⟨_, cap, rfl⟩
theorem OwnSt.cells {E : TypeId} {B : Nat} {w : World} {v : Value} {xs : List α} (hm : ∀ x, (enc x).length = m) (d : α) (h : OwnSt E m enc B w v xs) : ∃ a cap, v = .slice a xs.length cap ∧ xs.length ≤ maxLen ∧
    (0 < xs.length → ∃ b, a = some ⟨b, 0, none⟩ ∧ b < w.heap.size ∧ ∀ k i, k < xs.length → i < m → w.cell? ⟨b, k * m + i, none⟩ = (enc (xs.getD k d))[i]?) := by
  have h0 := h
  obtain ⟨_, h2⟩ := h
  rcases h2 with ⟨rfl, hn⟩ | ⟨g, cap, cur, rfl, hB, hg, hn, hmx, hs, ht⟩
  · exact ⟨none, 0, by rw [hn], by simp [hn], fun h => by omega⟩
  · refine ⟨_, cap, rfl, by omega, fun hp => ⟨g, rfl, (Array.getElem?_eq_some_iff.1 hg).1, fun k i hk hi => ?_⟩⟩
    have hlt : k * m + i < xs.length * m := by
      have : (k + 1) * m ≤ xs.length * m := Nat.mul_le_mul_right m (by omega)
      rw [Nat.add_mul] at this; omega
    rw [h0.cellAt (k * m + i) hlt, fl_get hm d xs k i hk hi]

/-- 'xs = append(xs, y)', y a struct. -/
theorem wpList_app_st (hm : ∀ x, (enc x).length = m) (T E : TypeId) (z : Value) (bytes : Nat) (hT : Try.prog.underlying T = some (.slice E)) (hinfo : (Try.prog.info? E).map (fun i => (i.zero, i.size, i.bytes)) = some (some z, m, bytes))
    (hzc : z.cells.size = m) (hm0 : 0 < m) (hby : bytes ≤ 1000) (hone : ∀ x, ∀ u ∈ enc x, u.oneCell' = true)
    {ops : Array Oper} {rest : List Oper} {o : Oper} {a : Act} {Q : Exit → Act → World → Prop} (hgd : o.guard = none) (s x : Operand)
    (ho : o.op = .call { callee := .builtin .append, args := #[s, x], argTypes := #[T, T] })
    (B : Nat) (w : World) (v : Value) (xs : List α) (y : α) (hs : a.eval s = v) (hown : OwnSt E m enc B w v xs) (hx : a.eval x = .slice (some ⟨w.heap.size, 0, none⟩) 1 1)
    (hn : xs.length ≤ 1000000) (hB : B ≤ w.heap.size)
    (h : ∀ v' w', OwnSt E m enc B w' v' (xs ++ [y]) → w.grownBy w' v.ownBlock → (v'.ownBlock = v.ownBlock ∨ ∃ k, v'.ownBlock = some k ∧ w.heap.size ≤ k) → wpList Try.prog ops Q rest (a.put o.dst v') w') :
    wpList Try.prog ops Q (o :: rest) a (w.alloc (.cells (enc y).toArray E)) := by
  obtain ⟨i0, hi, hz0, hz1, hz2⟩ := info_parts hinfo
  have hnw := World.alloc_heap_new w (.cells (enc y).toArray E)
  refine wpList_append_own_at _ hgd s x T ho B E i0 _ m bytes hT hi hz0 hz1 hz2 hzc hm0 v xs.length _ hs (World.ownsRow.alloc hown _) ⟨w.heap.size, 0, none⟩ 1 1 (enc y) hx (by rw [hm y]; omega) ?_ (hone y) ?_ ?_ ?_ ?_
  · exact World.news_of_block (cs := (enc y).toArray) (t := E) (fr := (0, 0)) hnw
  · unfold maxLen; omega
  · have : (xs.length + 1) * bytes ≤ 1000001 * 1000 := Nat.mul_le_mul (by omega) hby
    omega
  · simp; omega
  · intro v' w' h1 h2 h3 h4
    refine h v' w' ?_ (grownBy_trans (World.grownBy_alloc w _ _) h2) ?_
    · unfold OwnSt
      rw [List.length_append, List.flatMap_append]
      simpa using h1
    · rcases h4 with h4 | h4
      · exact .inl h4
      · exact .inr ⟨_, h4, by simp⟩
end


section
variable {α : Type} {enc : α → List Value} {m : Nat} {E : TypeId} {B : Nat} {w w' : World} {v : Value} {xs : List α}
theorem OwnSt.same (h : OwnSt E m enc B w v xs) (hb : ∀ k, v.ownBlock = some k → w'.heap[k]? = w.heap[k]?) : OwnSt E m enc B w' v xs := by
  obtain ⟨h1, h2⟩ := h
  refine ⟨h1, ?_⟩
  rcases h2 with h2 | ⟨g, cap, cur, rfl, hB, hg, r⟩
  · exact .inl h2
  · exact .inr ⟨g, cap, cur, rfl, hB, (hb g rfl).trans hg, r⟩
theorem OwnSt.keptS {S : Nat → Prop} (h : OwnSt E m enc B w v xs) (hk : Kept S w w') (hs : ∀ k, B ≤ k → S k) : OwnSt E m enc B w' v xs :=
  h.same fun k e => hk.block k (h.lt k e).2 (hs k (h.lt k e).1)
theorem OwnSt.els (hm : ∀ x, (enc x).length = m) (d : α) (h : OwnSt E m enc B w v xs) : ElsAt m enc d w v xs := by
  obtain ⟨a, cap, rfl, hmx, hc⟩ := h.cells hm d
  refine ⟨a, cap, rfl, hmx, fun h0 => ?_⟩
  obtain ⟨b, rfl, hlt, hk⟩ := hc h0
  refine ⟨b, 0, rfl, hlt, fun k i u hk' hu => ?_⟩
  have hi : i < m := by
    have := (List.getElem?_eq_some_iff.1 hu).1
    rwa [hm] at this
  rw [Nat.zero_add, hk k i hk' hi]; exact hu
theorem OwnSt.cellsRow (h : OwnSt E m enc B w v xs) : ∀ k, v.ownBlock = some k → ∃ cs, w.heap[k]? = some (.cells cs E) := by
  obtain ⟨h1, h2⟩ := h
  intro k hk
  rcases h2 with ⟨rfl, -⟩ | ⟨g, cap, cur, rfl, hB, hg, r⟩
  · cases hk
  · cases hk; exact ⟨cur, hg⟩
end
theorem spEnc_len (x : Sp) : (spEnc x).length = 2 := rfl
theorem spEnc_one (x : Sp) : ∀ u ∈ spEnc x, u.oneCell' = true := by simp [spEnc, Value.oneCell']
theorem infoSp : (Try.prog.info? 55).map (fun i => (i.zero, i.size, i.bytes)) = some (some (.agg #[.int .i64 0, .int .i64 0]), 2, 16) := by kernel_rfl
abbrev OwnSps (B : Nat) (w : World) (v : Value) (xs : List Sp) : Prop := OwnSt 55 2 spEnc B w v xs
theorem OwnSps.sps {B : Nat} {w : World} {v : Value} {xs : List Sp} (h : OwnSps B w v xs) : SpsAt w v xs := h.els spEnc_len ⟨0, 0⟩
theorem infoInt : (Try.prog.info? 3).map (fun i => (i.zero, i.size, i.bytes)) = some (some (.int .i64 0), 1, 8) := by kernel_rfl
theorem intEnc_len (x : Int) : (intEnc x).length = 1 := rfl
theorem intEnc_one (x : Int) : ∀ u ∈ intEnc x, u.oneCell' = true := by simp [intEnc, Value.oneCell']
abbrev OwnInts (B : Nat) (w : World) (v : Value) (xs : List Int) : Prop := OwnSt 3 1 intEnc B w v xs
theorem OwnInts.ints {B : Nat} {w : World} {v : Value} {xs : List Int} (h : OwnInts B w v xs) : IntsAt w v xs := h.els intEnc_len 0
theorem rdEnc_len (x : Rd) : (rdEnc x).length = 4 := rfl
theorem rdEnc_one (x : Rd) : ∀ u ∈ rdEnc x, u.oneCell' = true := by simp [rdEnc, Value.oneCell']
theorem infoRd : (Try.prog.info? 57).map (fun i => (i.zero, i.size, i.bytes)) = some (some (.agg #[.int .i64 0, .int .i64 0, .int .i64 0, .int .i64 0]), 4, 32) := by kernel_rfl
abbrev OwnRds (B : Nat) (w : World) (v : Value) (xs : List Rd) : Prop := OwnSt 57 4 rdEnc B w v xs
theorem OwnRds.rds {B : Nat} {w : World} {v : Value} {xs : List Rd} (h : OwnRds B w v xs) : RdsAt w v xs := h.els rdEnc_len ⟨0, 0, ⟨0, 0⟩⟩
end Go.Proofs.Ytddmfkhmhdddeaa
