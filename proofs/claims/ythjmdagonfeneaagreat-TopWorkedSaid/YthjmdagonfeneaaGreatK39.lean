/- Laws and walks: LLkm, LMem, LIdx, Lix, Lcp, LMt, Lw1. -/
import Derived.Test.YthjmdagonfeneaaGreatChecked
import Derived.Test.YthjmdagonfeneaaGreatRows
import Derived.WalkSpells
import Derived.WalkLawsBesides
import Derived.Lib.Hide
import Derived.Test.YthjmdagonfeneaaGreatK02
set_option maxRecDepth 100000
set_option maxHeartbeats 16000000
set_option linter.unusedVariables false
set_option linter.unusedSimpArgs false
namespace Lk
structure Sp where
 lo : Int
 hi : Int
 deriving DecidableEq
structure Rd where
 day : Int
 zone : Int
 v : Sp
 deriving DecidableEq
structure Bk where
 first : List Sp
 flows : List (List Sp)
 reads : List Rd
structure Gs where
 zone : Int
 size : Int
 since : Int
 deriving DecidableEq
def spAt (l : List Sp) (k : Nat) : Sp := l.getD k ⟨0, 0⟩
def rwAt (l : List (List Sp)) (k : Nat) : List Sp := l.getD k []
def rdAt (l : List Rd) (k : Nat) : Rd := l.getD k ⟨0, 0, ⟨0, 0⟩⟩
def at0 (l : List Int) (k : Nat) : Int := l.getD k 0
def lstAt (l : List (List Int)) (k : Nat) : List Int := l.getD k []
def inB (x l h : Int) : Bool := decide (l ≤ x) && decide (x ≤ h)
theorem inB_iff {x l h : Int} : inB x l h = true ↔ l ≤ x ∧ x ≤ h := by simp [inB]
structure Ok (b : Bk) : Prop where
 nz : 1 ≤ b.first.length ∧ b.first.length ≤ 6
 nd : 1 ≤ b.flows.length ∧ b.flows.length ≤ 30
 nr : b.reads.length ≤ 40
 first : ∀ k, k < b.first.length → -1000000000 ≤ (spAt b.first k).lo ∧ (spAt b.first k).lo ≤ (spAt b.first k).hi ∧ (spAt b.first k).hi ≤ 1000000000
 rows : ∀ d, d < b.flows.length → (rwAt b.flows d).length = b.first.length
 flows : ∀ d k, d < b.flows.length → k < b.first.length → -100000000 ≤ (spAt (rwAt b.flows d) k).lo ∧ (spAt (rwAt b.flows d) k).lo ≤ (spAt (rwAt b.flows d) k).hi ∧ (spAt (rwAt b.flows d) k).hi ≤ 100000000
 reads : ∀ k, k < b.reads.length → 0 ≤ (rdAt b.reads k).day ∧ (rdAt b.reads k).day < b.flows.length ∧ 0 ≤ (rdAt b.reads k).zone ∧ (rdAt b.reads k).zone < b.first.length ∧
  -1000000000 ≤ (rdAt b.reads k).v.lo ∧ (rdAt b.reads k).v.lo ≤ (rdAt b.reads k).v.hi ∧ (rdAt b.reads k).v.hi ≤ 1000000000
def addSp (a c : Sp) : Sp := ⟨a.lo + c.lo, a.hi + c.hi⟩
end Lk
set_option linter.unusedVariables false
set_option linter.unusedSimpArgs false
namespace Go.Proofs.YthjmdagonfeneaaGreat.L
open Go.RowKit Go.Sd Lk
theorem bool_ret {a b : Bool} (h : a = b) : Ending.returned (.bool a) = .returned (.bool b) := by rw [h]
theorem int_ret {k : IntKind} {a b : Int} (h : a = b) : Ending.returned (.int k a) = .returned (.int k b) := by rw [h]
theorem kept_cell {w w' : World} (hb : Below w.heap.size w w') {b o : Nat} {v : Value} (h : w.cell? ⟨b, o, none⟩ = some v) : w'.cell? ⟨b, o, none⟩ = some v :=
 (hb.cell (p := ⟨b, o, none⟩) (World.block_lt_of_cell? w ⟨b, o, none⟩ h)).trans h
theorem kept_block {w w' : World} (hb : Below w.heap.size w w') {n : Nat} {o : Obj} (h : w.heap[n]? = some o) : w'.heap[n]? = some o :=
 (hb.block _ (zqo h)).trans h
theorem below_tr {X w1 w2 : World} (h : Below X.heap.size X w1) (h2 : Below w1.heap.size w1 w2) : Below X.heap.size X w2 := h.trans (h2.mono h.size)
theorem boxed {w W : World} {o : Obj} (h : w.alloc o = W) : W.heap[w.heap.size]? = some o ∧ Below w.heap.size w W ∧ W.heap.size = w.heap.size + 1 := by
 subst h
 exact ⟨World.alloc_heap_new w o, (Below.refl _ _).alloc (Nat.le_refl _) _, World.size_alloc _ _⟩
structure Kc (w w' : World) : Prop where
 size : w.heap.size ≤ w'.heap.size
 cell : ∀ b o v, w.cell? ⟨b, o, none⟩ = some v → w'.cell? ⟨b, o, none⟩ = some v
theorem Kc.of {w w' : World} (h : Below w.heap.size w w') : Kc w w' := ⟨h.size, fun _ _ _ hv => kept_cell h hv⟩
def ElsAt {α : Type} (m : Nat) (enc : α → List Value) (d : α) (w : World) (v : Value) (xs : List α) : Prop :=
 ∃ a cap, v = .slice a xs.length cap ∧ xs.length ≤ maxLen ∧
  (0 < xs.length → ∃ b off, a = some ⟨b, off, none⟩ ∧ b < w.heap.size ∧ ∀ k i u, k < xs.length → (enc (xs.getD k d))[i]? = some u → w.cell? ⟨b, off + k * m + i, none⟩ = some u)
section
variable {α : Type} {m : Nat} {enc : α → List Value} {d : α} {w w' : World} {v : Value} {xs : List α}
theorem ElsAt.kc (h : ElsAt m enc d w v xs) (hb : Kc w w') : ElsAt m enc d w' v xs := by
 obtain ⟨a, cap, rfl, hm, hc⟩ := h
 refine ⟨a, cap, rfl, hm, fun h0 => ?_⟩
 obtain ⟨b, off, rfl, hlt, hk⟩ := hc h0
 exact ⟨b, off, rfl, Nat.lt_of_lt_of_le hlt hb.size, fun k i u hk' hu => hb.cell _ _ _ (hk k i u hk' hu)⟩
theorem ElsAt.mono (h : ElsAt m enc d w v xs) (hb : Below w.heap.size w w') : ElsAt m enc d w' v xs := h.kc (.of hb)
theorem ElsAt.form (h : ElsAt m enc d w v xs) : ∃ a cap, v = .slice a xs.length cap ∧ xs.length ≤ 9223372036854775807 ∧
    (0 < xs.length → ∃ b off, a = some ⟨b, off, none⟩ ∧ b < w.heap.size ∧ ∀ k i u, k < xs.length → (enc (xs.getD k d))[i]? = some u → w.cell? ⟨b, off + k * m + i, none⟩ = some u) := by
 obtain ⟨a, cap, rfl, hm, hc⟩ := h
 unfold maxLen at hm
 exact ⟨a, cap, rfl, by omega, hc⟩
end
abbrev spV (s : Sp) : Value := .agg #[.int .i64 s.lo, .int .i64 s.hi]
abbrev spEnc (s : Sp) : List Value := [.int .i64 s.lo, .int .i64 s.hi]
abbrev intEnc (n : Int) : List Value := [.int .i64 n]
abbrev SpsAt (w : World) (v : Value) (xs : List Sp) : Prop := ElsAt 2 spEnc ⟨0, 0⟩ w v xs
abbrev IntsAt (w : World) (v : Value) (xs : List Int) : Prop := ElsAt 1 intEnc 0 w v xs
def RowsAt {α : Type} (m : Nat) (enc : α → List Value) (d : α) (w : World) (v : Value) (xs : List (List α)) : Prop :=
 ∃ a cap, v = .slice a xs.length cap ∧ xs.length ≤ maxLen ∧
  (0 < xs.length → ∃ b off, a = some ⟨b, off, none⟩ ∧ b < w.heap.size ∧ ∀ k, k < xs.length → ∃ ev, w.cell? ⟨b, off + k, none⟩ = some ev ∧ ElsAt m enc d w ev (xs.getD k []))
section
variable {α : Type} {m : Nat} {enc : α → List Value} {d : α} {w w' : World} {v : Value} {xs : List (List α)}
theorem RowsAt.kc (h : RowsAt m enc d w v xs) (hb : Kc w w') : RowsAt m enc d w' v xs := by
 obtain ⟨a, cap, rfl, hm, hc⟩ := h
 refine ⟨a, cap, rfl, hm, fun h0 => ?_⟩
 obtain ⟨b, off, rfl, hlt, hk⟩ := hc h0
 exact ⟨b, off, rfl, Nat.lt_of_lt_of_le hlt hb.size, fun k hk' => let ⟨ev, h1, h2⟩ := hk k hk'; ⟨ev, hb.cell _ _ _ h1, h2.kc hb⟩⟩
theorem RowsAt.mono (h : RowsAt m enc d w v xs) (hb : Below w.heap.size w w') : RowsAt m enc d w' v xs := h.kc (.of hb)
end
theorem int_cells {w : World} {v : Value} {xs : List Int} (h : IntsAt w v xs) {k : Nat} (hk : k < xs.length) :
    ∃ b off cap, v = .slice (some ⟨b, off, none⟩) xs.length cap ∧ b < w.heap.size ∧ xs.length ≤ 9223372036854775807 ∧ w.cell? ⟨b, off + k, none⟩ = some (.int .i64 (at0 xs k)) := by
 obtain ⟨a, cap, rfl, hm, hc⟩ := h.form
 obtain ⟨b, off, rfl, hlt, hx⟩ := hc (by omega)
 have := hx k 0 _ hk rfl
 rw [Nat.mul_one, Nat.add_zero] at this
 exact ⟨b, off, cap, rfl, hlt, hm, this⟩
abbrev spO (s : Sp) : Obj := .cells #[.int .i64 s.lo, .int .i64 s.hi] 23
def BoolB (b : Bool) (w : World) (e : Ending) (w' : World) : Prop := ∃ t, e = .returned (.bool t) ∧ Hid (b = t) ∧ Below w.heap.size w w'
def BoolS (b : Bool) (w : World) (e : Ending) (w' : World) : Prop := ∃ t, e = .returned (.bool t) ∧ Hid (b = t) ∧ w = w'
theorem BoolB.mk {b t : Bool} {w w' : World} (h : b = t) (hb : Below w.heap.size w w') : BoolB b w (.returned (.bool t)) w' := ⟨t, rfl, h, hb⟩
theorem BoolB.lit {b t : Bool} {w w' : World} {e : Ending} (h : BoolB b w e w') (hb : b = t) : e = .returned (.bool t) ∧ Below w.heap.size w w' := by
 obtain ⟨t', rfl, ht, hB⟩ := h
 exact ⟨by rw [← hb, ← ht.out], hB⟩
theorem progIn (a b c : Int) (w : World) :
    Calls Tryz.prog 63 #[.int .i64 a, .int .i64 b, .int .i64 c] w fun e w' => e = .returned (.bool (inB a b c)) ∧ w = w' := by
 by_cases h : b ≤ a
 · go_enter Tryz.func63, Tryz.ntmps63
   go_wp2
   go_ret
   exact ⟨by simp [inB, h], rfl⟩
 · go_enter Tryz.func63, Tryz.ntmps63
   go_wp2
   go_ret
   exact ⟨by simp [inB]; intro _; omega, rfl⟩
end Go.Proofs.YthjmdagonfeneaaGreat.L
set_option linter.unusedVariables false
set_option linter.unusedSimpArgs false
namespace Lk
structure Dy where
 flow : Int
 reads : Bool
 content : Int
 deriving DecidableEq
def dyAt (l : List Dy) (k : Nat) : Dy := l.getD k ⟨0, false, 0⟩
end Lk
namespace Go.Proofs.YthjmdagonfeneaaGreat.L
open Go.RowKit Go.Sd Lk
abbrev dyEnc (d : Dy) : List Value := [.int .i64 d.flow, .bool d.reads, .int .i64 d.content]
abbrev dyV (d : Dy) : Value := .agg #[.int .i64 d.flow, .bool d.reads, .int .i64 d.content]
abbrev DysAt (w : World) (v : Value) (xs : List Dy) : Prop := ElsAt 3 dyEnc ⟨0, false, 0⟩ w v xs
def FoundP (b : Bool) (w : World) (e : Ending) (w' : World) : Prop := ∃ n : Int, e = .returned (.int .i64 n) ∧ (b = true ↔ 0 ≤ n) ∧ Below w.heap.size w w'
theorem any_none {α : Type} {l : List α} {p : α → Bool} (h : ∀ j (hj : j < l.length), p l[j] = false) : l.any p = false := by
 rw [List.any_eq_false]
 intro x hx
 obtain ⟨i, hi, rfl⟩ := List.getElem_of_mem hx
 rw [h i hi]; exact Bool.false_ne_true
theorem any_some {α : Type} {l : List α} {p : α → Bool} {j : Nat} (hj : j < l.length) (h : p l[j] = true) : l.any p = true := List.any_eq_true.2 ⟨_, List.getElem_mem hj, h⟩
theorem dyAt_eq {l : List Dy} {j : Nat} (h : j < l.length) : dyAt l j = l[j] := by simp [dyAt, h]
theorem indexDys (v : Value) (l : List Dy) (p : Dy → Bool) (nf : Nat) (nb : Array Value) (w : World) (hv : DysAt w v l) (en : ∀ args w, (callFunc nf args).run Tryz.prog w = .ok (.enter nf args) w)
    (hp : ∀ d, d ∈ l → ∀ X, Below w.heap.size w X → Calls Tryz.prog nf (#[dyV d] ++ nb) X fun e X' => e = .returned (.bool (p d)) ∧ Below X.heap.size X X') :
    Calls Tryz.prog 93 #[v, .func (.func nf) #[] nb] w (FoundP (l.any p) w) := by
 obtain ⟨a, cap, rfl, hm, hc⟩ := hv.form
 clear hv
 replace hp := Lib.hid hp
 go_enter Tryz.func93, Tryz.ntmps93
 go_wp2_with (fail)
 have hg := grow_cell w
 go_loopw [8] (fun i wr => ∃ k : Nat, k ≤ l.length ∧ i = .int .i64 k ∧ Hid (∀ j (hj : j < l.length), j < k → p l[j] = false) ∧ ∃ g : Grow w, wr = g.x) (fun i _ => l.length - (intOf i).toNat)
 case atStart => exact ⟨0, by omega, rfl, (fun j _ h => by omega : ∀ j (hj : j < l.length), j < 0 → p l[j] = false), Grow.self w, rfl⟩
 case round =>
  obtain ⟨k, hk, rfl, hH, g, rfl⟩ := hrel
  by_cases hlt : k < l.length
  · obtain ⟨b, off, rfl, hbl, hx⟩ := hc (by omega)
    have c0 : w.cell? ⟨b, off + k * 3, none⟩ = some (.int .i64 (dyAt l k).flow) := hx k 0 _ hlt rfl
    have c1 : w.cell? ⟨b, off + k * 3 + 1, none⟩ = some (.bool (dyAt l k).reads) := hx k 1 _ hlt rfl
    have c2 : w.cell? ⟨b, off + k * 3 + 2, none⟩ = some (.int .i64 (dyAt l k).content) := hx k 2 _ hlt rfl
    have hki : (0 : Int) ≤ (k : Int) ∧ (k : Int) < l.length := by omega
    have hcall := hp.out (dyAt l k) (by rw [dyAt_eq hlt]; exact List.getElem_mem hlt) g.x g.h
    rw [dyAt_eq hlt] at c0 c1 c2 hcall
    clear hx hc
    cases ht : p l[k]
    · rw [ht] at hcall
      have hH' : Hid (∀ j (hj : j < l.length), j < k + 1 → p l[j] = false) := fun j hj hjk => by
       rcases Nat.lt_succ_iff_lt_or_eq.1 hjk with h | rfl
       · exact hH.out j hj h
       · exact ht
      replace ht := Lib.hid ht
      replace hcall := Lib.hid hcall
      go_wp2_with ((with_reducible refine Calls.mono hcall.out ?_); rintro e w' ⟨rfl, hb'⟩; obtain ⟨g1, rfl⟩ := g.next hb')
      exact ⟨⟨k + 1, by omega, by go_num, hH', g1, rfl⟩, by simp [intOf]; omega⟩
    · rw [ht] at hcall
      have hany := Lib.hid (any_some hlt ht)
      replace ht := Lib.hid ht
      replace hcall := Lib.hid hcall
      go_wp2_with ((with_reducible refine Calls.mono hcall.out ?_); rintro e w' ⟨rfl, hb'⟩; obtain ⟨g1, rfl⟩ := g.next hb')
      go_ret
      exact ⟨k, rfl, ⟨fun _ => by omega, fun _ => hany.out⟩, g1.h⟩
  · have hany := Lib.hid (any_none fun j hj => hH.out j hj (by omega))
    go_wp2_with (fail)
    go_ret
    exact ⟨-1, rfl, ⟨(fun h => by rw [hany.out] at h; cases h), (fun h => by omega)⟩, g.h⟩
theorem containsDys (v : Value) (l : List Dy) (p : Dy → Bool) (nf : Nat) (nb : Array Value) (w : World) (hv : DysAt w v l) (en : ∀ args w, (callFunc nf args).run Tryz.prog w = .ok (.enter nf args) w)
    (hp : ∀ d, d ∈ l → ∀ X, Below w.heap.size w X → Calls Tryz.prog nf (#[dyV d] ++ nb) X fun e X' => e = .returned (.bool (p d)) ∧ Below X.heap.size X X') :
    Calls Tryz.prog 61 #[v, .func (.func nf) #[] nb] w (BoolB (l.any p) w) := by
 have hc := Lib.hid (indexDys v l p nf nb w hv en hp)
 obtain ⟨a, cap, rfl, -, -⟩ := hv
 clear hp
 cases ht : l.any p
 all_goals
  replace ht := Lib.hid ht
  go_enter Tryz.func61, Tryz.ntmps61
  go_wp2_with (go_at_call 93; refine Calls.mono hc.out ?_; rintro e w' ⟨n, rfl, hn, hb⟩; rw [ht.out] at hn; have hn' : Hid (_ ↔ (0 : Int) ≤ n) := hn; clear hn)
  go_ret
  refine ⟨_, rfl, ?_, hb⟩
  have := hn'.out
  simp at this
  show _ = _
  simp [this]
end Go.Proofs.YthjmdagonfeneaaGreat.L
set_option linter.unusedVariables false
set_option linter.unusedSimpArgs false
namespace Lc
structure Sl where
 (vlo vhi opn fall rlo rhi most : Int)
structure Sg where
 (water inn out blanket : Int)
def lsAt (l : List Sl) (k : Nat) : Sl := l.getD k ⟨0, 0, 0, 0, 0, 0, 0⟩
def sgAt (l : List Sg) (k : Nat) : Sg := l.getD k ⟨0, 0, 0, 0⟩
end Lc
namespace Go.Proofs.YthjmdagonfeneaaGreat.L
open Go.RowKit Go.Sd Lk Lc
abbrev lsEn (s : Sl) : List Value := [.int .i64 s.vlo, .int .i64 s.vhi, .int .i64 s.opn, .int .i64 s.fall, .int .i64 s.rlo, .int .i64 s.rhi, .int .i64 s.most]
abbrev lsV (s : Sl) : Value := .agg #[.int .i64 s.vlo, .int .i64 s.vhi, .int .i64 s.opn, .int .i64 s.fall, .int .i64 s.rlo, .int .i64 s.rhi, .int .i64 s.most]
abbrev SlsAt (w : World) (v : Value) (xs : List Sl) : Prop := ElsAt 7 lsEn ⟨0, 0, 0, 0, 0, 0, 0⟩ w v xs
abbrev sgEn (s : Sg) : List Value := [.int .i64 s.water, .int .i64 s.inn, .int .i64 s.out, .int .i64 s.blanket]
abbrev sgV (s : Sg) : Value := .agg #[.int .i64 s.water, .int .i64 s.inn, .int .i64 s.out, .int .i64 s.blanket]
abbrev SgsAt (w : World) (v : Value) (xs : List Sg) : Prop := ElsAt 4 sgEn ⟨0, 0, 0, 0⟩ w v xs
abbrev iV (n : Int) : Value := .int .i64 n
theorem lsAt_eq {l : List Sl} {j : Nat} (h : j < l.length) : lsAt l j = l[j] := by simp [lsAt, h]
theorem indexSls (v : Value) (l : List Sl) (p : Sl → Bool) (nf : Nat) (nb : Array Value) (w : World) (hv : SlsAt w v l) (en : ∀ args w, (callFunc nf args).run Tryz.prog w = .ok (.enter nf args) w)
    (hp : ∀ d, d ∈ l → ∀ X, Below w.heap.size w X → Calls Tryz.prog nf (#[lsV d] ++ nb) X fun e X' => e = .returned (.bool (p d)) ∧ Below X.heap.size X X') :
    Calls Tryz.prog 128 #[v, .func (.func nf) #[] nb] w (FoundP (l.any p) w) := by
 obtain ⟨a, cap, rfl, hm, hc⟩ := hv.form
 clear hv
 replace hp := Lib.hid hp
 go_enter Tryz.func128, Tryz.ntmps128
 go_wp2_with (fail)
 have hg := grow_cell w
 go_loopw [8] (fun i wr => ∃ k : Nat, k ≤ l.length ∧ i = .int .i64 k ∧ Hid (∀ j (hj : j < l.length), j < k → p l[j] = false) ∧ ∃ g : Grow w, wr = g.x) (fun i _ => l.length - (intOf i).toNat)
 case atStart => exact ⟨0, by omega, rfl, (fun j _ h => by omega : ∀ j (hj : j < l.length), j < 0 → p l[j] = false), Grow.self w, rfl⟩
 case round =>
  obtain ⟨k, hk, rfl, hH, g, rfl⟩ := hrel
  by_cases hlt : k < l.length
  · obtain ⟨b, off, rfl, hbl, hx⟩ := hc (by omega)
    have c0 : w.cell? ⟨b, off + k * 7, none⟩ = some (.int .i64 (lsAt l k).vlo) := hx k 0 _ hlt rfl
    have c1 : w.cell? ⟨b, off + k * 7 + 1, none⟩ = some (.int .i64 (lsAt l k).vhi) := hx k 1 _ hlt rfl
    have c2 : w.cell? ⟨b, off + k * 7 + 2, none⟩ = some (.int .i64 (lsAt l k).opn) := hx k 2 _ hlt rfl
    have c3 : w.cell? ⟨b, off + k * 7 + 3, none⟩ = some (.int .i64 (lsAt l k).fall) := hx k 3 _ hlt rfl
    have c4 : w.cell? ⟨b, off + k * 7 + 4, none⟩ = some (.int .i64 (lsAt l k).rlo) := hx k 4 _ hlt rfl
    have c5 : w.cell? ⟨b, off + k * 7 + 5, none⟩ = some (.int .i64 (lsAt l k).rhi) := hx k 5 _ hlt rfl
    have c6 : w.cell? ⟨b, off + k * 7 + 6, none⟩ = some (.int .i64 (lsAt l k).most) := hx k 6 _ hlt rfl
    have hki : (0 : Int) ≤ (k : Int) ∧ (k : Int) < l.length := by omega
    have hcall := hp.out (lsAt l k) (by rw [lsAt_eq hlt]; exact List.getElem_mem hlt) g.x g.h
    rw [lsAt_eq hlt] at c0 c1 c2 c3 c4 c5 c6 hcall
    clear hx hc
    cases ht : p l[k]
    · rw [ht] at hcall
      have hH' : Hid (∀ j (hj : j < l.length), j < k + 1 → p l[j] = false) := fun j hj hjk => by
       rcases Nat.lt_succ_iff_lt_or_eq.1 hjk with h | rfl
       · exact hH.out j hj h
       · exact ht
      replace ht := Lib.hid ht
      replace hcall := Lib.hid hcall
      go_wp2_with ((with_reducible refine Calls.mono hcall.out ?_); rintro e w' ⟨rfl, hb'⟩; obtain ⟨g1, rfl⟩ := g.next hb')
      exact ⟨⟨k + 1, by omega, by go_num, hH', g1, rfl⟩, by simp [intOf]; omega⟩
    · rw [ht] at hcall
      have hany := Lib.hid (any_some hlt ht)
      replace ht := Lib.hid ht
      replace hcall := Lib.hid hcall
      go_wp2_with ((with_reducible refine Calls.mono hcall.out ?_); rintro e w' ⟨rfl, hb'⟩; obtain ⟨g1, rfl⟩ := g.next hb')
      go_ret
      exact ⟨k, rfl, ⟨fun _ => by omega, fun _ => hany.out⟩, g1.h⟩
  · have hany := Lib.hid (any_none fun j hj => hH.out j hj (by omega))
    go_wp2_with (fail)
    go_ret
    exact ⟨-1, rfl, ⟨(fun h => by rw [hany.out] at h; cases h), (fun h => by omega)⟩, g.h⟩
theorem containsSls (v : Value) (l : List Sl) (p : Sl → Bool) (nf : Nat) (nb : Array Value) (w : World) (hv : SlsAt w v l) (en : ∀ args w, (callFunc nf args).run Tryz.prog w = .ok (.enter nf args) w)
    (hp : ∀ d, d ∈ l → ∀ X, Below w.heap.size w X → Calls Tryz.prog nf (#[lsV d] ++ nb) X fun e X' => e = .returned (.bool (p d)) ∧ Below X.heap.size X X') :
    Calls Tryz.prog 109 #[v, .func (.func nf) #[] nb] w (BoolB (l.any p) w) := by
 have hc := Lib.hid (indexSls v l p nf nb w hv en hp)
 obtain ⟨a, cap, rfl, -, -⟩ := hv
 clear hp
 cases ht : l.any p
 all_goals
  replace ht := Lib.hid ht
  go_enter Tryz.func109, Tryz.ntmps109
  go_wp2_with (go_at_call 128; refine Calls.mono hc.out ?_; rintro e w' ⟨n, rfl, hn, hb⟩; rw [ht.out] at hn; have hn' : Hid (_ ↔ (0 : Int) ≤ n) := hn; clear hn)
  go_ret
  refine ⟨_, rfl, ?_, hb⟩
  have := hn'.out
  simp at this
  show _ = _
  simp [this]
theorem sgAt_eq {l : List Sg} {j : Nat} (h : j < l.length) : sgAt l j = l[j] := by simp [sgAt, h]
theorem indexSgs (v : Value) (l : List Sg) (p : Sg → Bool) (nf : Nat) (nb : Array Value) (w : World) (hv : SgsAt w v l) (en : ∀ args w, (callFunc nf args).run Tryz.prog w = .ok (.enter nf args) w)
    (hp : ∀ d, d ∈ l → ∀ X, Below w.heap.size w X → Calls Tryz.prog nf (#[sgV d] ++ nb) X fun e X' => e = .returned (.bool (p d)) ∧ Below X.heap.size X X') :
    Calls Tryz.prog 129 #[v, .func (.func nf) #[] nb] w (FoundP (l.any p) w) := by
 obtain ⟨a, cap, rfl, hm, hc⟩ := hv.form
 clear hv
 replace hp := Lib.hid hp
 go_enter Tryz.func129, Tryz.ntmps129
 go_wp2_with (fail)
 have hg := grow_cell w
 go_loopw [8] (fun i wr => ∃ k : Nat, k ≤ l.length ∧ i = .int .i64 k ∧ Hid (∀ j (hj : j < l.length), j < k → p l[j] = false) ∧ ∃ g : Grow w, wr = g.x) (fun i _ => l.length - (intOf i).toNat)
 case atStart => exact ⟨0, by omega, rfl, (fun j _ h => by omega : ∀ j (hj : j < l.length), j < 0 → p l[j] = false), Grow.self w, rfl⟩
 case round =>
  obtain ⟨k, hk, rfl, hH, g, rfl⟩ := hrel
  by_cases hlt : k < l.length
  · obtain ⟨b, off, rfl, hbl, hx⟩ := hc (by omega)
    have c0 : w.cell? ⟨b, off + k * 4, none⟩ = some (.int .i64 (sgAt l k).water) := hx k 0 _ hlt rfl
    have c1 : w.cell? ⟨b, off + k * 4 + 1, none⟩ = some (.int .i64 (sgAt l k).inn) := hx k 1 _ hlt rfl
    have c2 : w.cell? ⟨b, off + k * 4 + 2, none⟩ = some (.int .i64 (sgAt l k).out) := hx k 2 _ hlt rfl
    have c3 : w.cell? ⟨b, off + k * 4 + 3, none⟩ = some (.int .i64 (sgAt l k).blanket) := hx k 3 _ hlt rfl
    have hki : (0 : Int) ≤ (k : Int) ∧ (k : Int) < l.length := by omega
    have hcall := hp.out (sgAt l k) (by rw [sgAt_eq hlt]; exact List.getElem_mem hlt) g.x g.h
    rw [sgAt_eq hlt] at c0 c1 c2 c3 hcall
    clear hx hc
    cases ht : p l[k]
    · rw [ht] at hcall
      have hH' : Hid (∀ j (hj : j < l.length), j < k + 1 → p l[j] = false) := fun j hj hjk => by
       rcases Nat.lt_succ_iff_lt_or_eq.1 hjk with h | rfl
       · exact hH.out j hj h
       · exact ht
      replace ht := Lib.hid ht
      replace hcall := Lib.hid hcall
      go_wp2_with ((with_reducible refine Calls.mono hcall.out ?_); rintro e w' ⟨rfl, hb'⟩; obtain ⟨g1, rfl⟩ := g.next hb')
      exact ⟨⟨k + 1, by omega, by go_num, hH', g1, rfl⟩, by simp [intOf]; omega⟩
    · rw [ht] at hcall
      have hany := Lib.hid (any_some hlt ht)
      replace ht := Lib.hid ht
      replace hcall := Lib.hid hcall
      go_wp2_with ((with_reducible refine Calls.mono hcall.out ?_); rintro e w' ⟨rfl, hb'⟩; obtain ⟨g1, rfl⟩ := g.next hb')
      go_ret
      exact ⟨k, rfl, ⟨fun _ => by omega, fun _ => hany.out⟩, g1.h⟩
  · have hany := Lib.hid (any_none fun j hj => hH.out j hj (by omega))
    go_wp2_with (fail)
    go_ret
    exact ⟨-1, rfl, ⟨(fun h => by rw [hany.out] at h; cases h), (fun h => by omega)⟩, g.h⟩
theorem containsSgs (v : Value) (l : List Sg) (p : Sg → Bool) (nf : Nat) (nb : Array Value) (w : World) (hv : SgsAt w v l) (en : ∀ args w, (callFunc nf args).run Tryz.prog w = .ok (.enter nf args) w)
    (hp : ∀ d, d ∈ l → ∀ X, Below w.heap.size w X → Calls Tryz.prog nf (#[sgV d] ++ nb) X fun e X' => e = .returned (.bool (p d)) ∧ Below X.heap.size X X') :
    Calls Tryz.prog 112 #[v, .func (.func nf) #[] nb] w (BoolB (l.any p) w) := by
 have hc := Lib.hid (indexSgs v l p nf nb w hv en hp)
 obtain ⟨a, cap, rfl, -, -⟩ := hv
 clear hp
 cases ht : l.any p
 all_goals
  replace ht := Lib.hid ht
  go_enter Tryz.func112, Tryz.ntmps112
  go_wp2_with (go_at_call 129; refine Calls.mono hc.out ?_; rintro e w' ⟨n, rfl, hn, hb⟩; rw [ht.out] at hn; have hn' : Hid (_ ↔ (0 : Int) ≤ n) := hn; clear hn)
  go_ret
  refine ⟨_, rfl, ?_, hb⟩
  have := hn'.out
  simp at this
  show _ = _
  simp [this]
theorem at0_eq {l : List Int} {j : Nat} (h : j < l.length) : at0 l j = l[j] := by simp [at0, h]
theorem indexInts (v : Value) (l : List Int) (p : Int → Bool) (nf : Nat) (nb : Array Value) (w : World) (hv : IntsAt w v l) (en : ∀ args w, (callFunc nf args).run Tryz.prog w = .ok (.enter nf args) w)
    (hp : ∀ d, d ∈ l → ∀ X, Below w.heap.size w X → Calls Tryz.prog nf (#[iV d] ++ nb) X fun e X' => e = .returned (.bool (p d)) ∧ Below X.heap.size X X') :
    Calls Tryz.prog 74 #[v, .func (.func nf) #[] nb] w (FoundP (l.any p) w) := by
 obtain ⟨a, cap, rfl, hm, hc⟩ := hv.form
 clear hv
 replace hp := Lib.hid hp
 go_enter Tryz.func74, Tryz.ntmps74
 go_wp2_with (fail)
 have hg := grow_cell w
 go_loopw [8] (fun i wr => ∃ k : Nat, k ≤ l.length ∧ i = .int .i64 k ∧ Hid (∀ j (hj : j < l.length), j < k → p l[j] = false) ∧ ∃ g : Grow w, wr = g.x) (fun i _ => l.length - (intOf i).toNat)
 case atStart => exact ⟨0, by omega, rfl, (fun j _ h => by omega : ∀ j (hj : j < l.length), j < 0 → p l[j] = false), Grow.self w, rfl⟩
 case round =>
  obtain ⟨k, hk, rfl, hH, g, rfl⟩ := hrel
  by_cases hlt : k < l.length
  · obtain ⟨b, off, rfl, hbl, hx⟩ := hc (by omega)
    have c0 : w.cell? ⟨b, off + k, none⟩ = some (.int .i64 (at0 l k)) := by have h := hx k 0 (.int .i64 (at0 l k)) hlt rfl; rwa [Nat.mul_one, Nat.add_zero] at h
    have hki : (0 : Int) ≤ (k : Int) ∧ (k : Int) < l.length := by omega
    have hcall := hp.out (at0 l k) (by rw [at0_eq hlt]; exact List.getElem_mem hlt) g.x g.h
    rw [at0_eq hlt] at c0 hcall
    clear hx hc
    cases ht : p l[k]
    · rw [ht] at hcall
      have hH' : Hid (∀ j (hj : j < l.length), j < k + 1 → p l[j] = false) := fun j hj hjk => by
       rcases Nat.lt_succ_iff_lt_or_eq.1 hjk with h | rfl
       · exact hH.out j hj h
       · exact ht
      replace ht := Lib.hid ht
      replace hcall := Lib.hid hcall
      go_wp2_with ((with_reducible refine Calls.mono hcall.out ?_); rintro e w' ⟨rfl, hb'⟩; obtain ⟨g1, rfl⟩ := g.next hb')
      exact ⟨⟨k + 1, by omega, by go_num, hH', g1, rfl⟩, by simp [intOf]; omega⟩
    · rw [ht] at hcall
      have hany := Lib.hid (any_some hlt ht)
      replace ht := Lib.hid ht
      replace hcall := Lib.hid hcall
      go_wp2_with ((with_reducible refine Calls.mono hcall.out ?_); rintro e w' ⟨rfl, hb'⟩; obtain ⟨g1, rfl⟩ := g.next hb')
      go_ret
      exact ⟨k, rfl, ⟨fun _ => by omega, fun _ => hany.out⟩, g1.h⟩
  · have hany := Lib.hid (any_none fun j hj => hH.out j hj (by omega))
    go_wp2_with (fail)
    go_ret
    exact ⟨-1, rfl, ⟨(fun h => by rw [hany.out] at h; cases h), (fun h => by omega)⟩, g.h⟩
theorem containsInts (v : Value) (l : List Int) (p : Int → Bool) (nf : Nat) (nb : Array Value) (w : World) (hv : IntsAt w v l) (en : ∀ args w, (callFunc nf args).run Tryz.prog w = .ok (.enter nf args) w)
    (hp : ∀ d, d ∈ l → ∀ X, Below w.heap.size w X → Calls Tryz.prog nf (#[iV d] ++ nb) X fun e X' => e = .returned (.bool (p d)) ∧ Below X.heap.size X X') :
    Calls Tryz.prog 43 #[v, .func (.func nf) #[] nb] w (BoolB (l.any p) w) := by
 have hc := Lib.hid (indexInts v l p nf nb w hv en hp)
 obtain ⟨a, cap, rfl, -, -⟩ := hv
 clear hp
 cases ht : l.any p
 all_goals
  replace ht := Lib.hid ht
  go_enter Tryz.func43, Tryz.ntmps43
  go_wp2_with (go_at_call 74; refine Calls.mono hc.out ?_; rintro e w' ⟨n, rfl, hn, hb⟩; rw [ht.out] at hn; have hn' : Hid (_ ↔ (0 : Int) ≤ n) := hn; clear hn)
  go_ret
  refine ⟨_, rfl, ?_, hb⟩
  have := hn'.out
  simp at this
  show _ = _
  simp [this]
end Go.Proofs.YthjmdagonfeneaaGreat.L
set_option linter.unusedVariables false
set_option linter.unusedSimpArgs false
namespace Lc
open Lk
def itN (f : Int → Sp) (g a : Int) : Nat → Sp
 | 0 => ⟨(f a).lo + a * g, (f a).hi + a * g⟩
 | k + 1 => ⟨min (itN f g a k).lo ((f (a + (k + 1))).lo + (a + (k + 1)) * g), max (itN f g a k).hi ((f (a + (k + 1))).hi + (a + (k + 1)) * g)⟩
def restP : List (Int × Int × Int) → Int → Sp
 | [], _ => ⟨0, 0⟩
 | (rl, rh, g) :: t, left => itN (fun n => restP t (left - n)) g (min rl left) (min rh left - min rl left).toNat
def WayOk (l : List (Int × Int × Int)) : Prop := ∀ x ∈ l, 0 ≤ x.1 ∧ x.1 ≤ x.2.1 ∧ x.2.1 ≤ 100 ∧ 0 ≤ x.2.2 ∧ x.2.2 ≤ 100
theorem itN_bd {f : Int → Sp} {g a : Int} {M : Int} (hg : 0 ≤ g ∧ g ≤ 100) (ha : 0 ≤ a) : ∀ k : Nat, a + k ≤ 100 → (∀ n, a ≤ n → n ≤ a + k → 0 ≤ (f n).lo ∧ (f n).lo ≤ (f n).hi ∧ (f n).hi ≤ M) → 0 ≤ (itN f g a k).lo ∧ (itN f g a k).lo ≤ (itN f g a k).hi ∧ (itN f g a k).hi ≤ M + 10000
 | 0, hk, h => by
  have h0 := h a (Int.le_refl _) (by omega)
  have m1 : 0 ≤ a * g := Int.mul_nonneg ha hg.1
  have m2 : a * g ≤ 100 * 100 := Int.mul_le_mul (by omega) hg.2 hg.1 (by omega)
  simp only [itN]; omega
 | k + 1, hk, h => by
  have ih := itN_bd hg ha k (by omega) (fun n h1 h2 => h n h1 (by omega))
  have h0 := h (a + (k + 1)) (by omega) (by omega)
  have m1 : 0 ≤ (a + (k + 1)) * g := Int.mul_nonneg (by omega) hg.1
  have m2 : (a + (k + 1)) * g ≤ 100 * 100 := Int.mul_le_mul (by omega) hg.2 hg.1 (by omega)
  simp only [itN]; omega
theorem rest_bd : ∀ (l : List (Int × Int × Int)) (left : Int), WayOk l → 0 ≤ left → left ≤ 100 → 0 ≤ (restP l left).lo ∧ (restP l left).lo ≤ (restP l left).hi ∧ (restP l left).hi ≤ 10000 * (l.length : Int)
 | [], left, _, _, _ => by simp [restP]
 | (rl, rh, g) :: t, left, ok, h0, h1 => by
  have hx := ok (rl, rh, g) (List.mem_cons_self ..)
  simp only at hx
  have ht : WayOk t := fun x hx => ok x (List.mem_cons_of_mem _ hx)
  have := itN_bd (f := fun n => restP t (left - n)) (g := g) (a := min rl left) (M := 10000 * (t.length : Int)) ⟨by omega, by omega⟩ (by omega) (min rh left - min rl left).toNat (by omega)
   (fun n h2 h3 => rest_bd t (left - n) ht (by omega) (by omega))
  rw [restP, List.length_cons]; push_cast; omega
def exWay : List (Int × Int × Int) := [(40, 60, 0), (30, 50, 50), (20, 40, 100)]
theorem exWay_ok : WayOk exWay := by
 intro x hx
 simp only [exWay, List.mem_cons, List.not_mem_nil, or_false] at hx
 rcases hx with rfl | rfl | rfl <;> simp
theorem exRest : restP exWay 100 = ⟨2000, 4500⟩ := by decide +kernel
end Lc
set_option linter.unusedVariables false
set_option linter.unusedSimpArgs false
namespace Lk
theorem max_if (a b : Int) : (if a < b then b else a) = max a b := by rw [Int.max_def]; split <;> split <;> omega
theorem min_if (a b : Int) : (if b < a then b else a) = min a b := by rw [Int.min_def]; split <;> split <;> omega
end Lk
namespace Go.Proofs.YthjmdagonfeneaaGreat.L
open Go.RowKit Go.Sd Lk
theorem set2 {w : World} {n : Nat} {a b : Value} {e : TypeId} (h : w.heap[n]? = some (.cells #[a, b] e)) (a' b' : Value) :
    ((w.setCell ⟨n, 0, none⟩ a').setCell ⟨n, 1, none⟩ b').heap[n]? = some (.cells #[a', b'] e) := by
 simp only [World.setCell, Array.getElem?_modify, if_true, h]
 rfl
theorem set2_other {w : World} {n m : Nat} {i j : Nat} (a' b' : Value) (h : m ≠ n) : ((w.setCell ⟨n, i, none⟩ a').setCell ⟨n, j, none⟩ b').heap[m]? = w.heap[m]? := by
 rw [Below.heap_setCell _ _ _ _ h, Below.heap_setCell _ _ _ _ h]
theorem below_set2 {B : Nat} {w : World} {n : Nat} {i j : Nat} (a' b' : Value) (h : B ≤ n) : Below B w ((w.setCell ⟨n, i, none⟩ a').setCell ⟨n, j, none⟩ b') :=
 ((Below.refl B w).setCell (p := ⟨n, i, none⟩) h a').setCell (p := ⟨n, j, none⟩) h b'
theorem two_new {w W : World} {a b : Obj} (h : (w.alloc a).alloc b = W) :
    W.heap[w.heap.size]? = some a ∧ W.heap[w.heap.size + 1]? = some b ∧ W.heap.size = w.heap.size + 2 ∧ Below w.heap.size w W := by
 subst h
 have e1 := World.alloc_heap_new (w.alloc a) b
 simp only [World.size_alloc] at e1
 exact ⟨(Below.heap_alloc _ _ _ (by simp)).trans (World.alloc_heap_new w a), e1, by simp, ((Below.refl _ _).alloc (Nat.le_refl _) _).alloc (by simp) _⟩
end Go.Proofs.YthjmdagonfeneaaGreat.L
set_option linter.unusedVariables false
set_option linter.unusedSimpArgs false
namespace Lc
open Lk
def spnB (s : Sp) (a b : Int) : Bool := decide (a ≤ s.lo) && decide (s.lo ≤ s.hi) && decide (s.hi ≤ b)
def sumSp (l : List Sp) : Sp := l.foldl addSp ⟨0, 0⟩
theorem sumSp_take {l : List Sp} {k : Nat} (h : k < l.length) : sumSp (l.take (k + 1)) = addSp (sumSp (l.take k)) (spAt l k) := by
 have e : spAt l k = l[k] := by simp [spAt, h]
 rw [List.take_succ_eq_append_getElem h, e]
 simp only [sumSp, List.foldl_append, List.foldl_cons, List.foldl_nil]
theorem sumSp_bd {l : List Sp} {M : Int} (h : ∀ k, k < l.length → -M ≤ (spAt l k).lo ∧ (spAt l k).lo ≤ M ∧ -M ≤ (spAt l k).hi ∧ (spAt l k).hi ≤ M) (hM : 0 ≤ M) (hM2 : M ≤ 1000000000000) (hl : l.length ≤ 100) : ∀ k : Nat, k ≤ l.length →
    -(1000000000000 * (k : Int)) ≤ (sumSp (l.take k)).lo ∧ (sumSp (l.take k)).lo ≤ 1000000000000 * (k : Int) ∧ -(1000000000000 * (k : Int)) ≤ (sumSp (l.take k)).hi ∧ (sumSp (l.take k)).hi ≤ 1000000000000 * (k : Int)
 | 0, _ => by simp [sumSp]
 | k + 1, hk => by
  have ih := sumSp_bd h hM hM2 hl k (by omega)
  have := h k (by omega)
  rw [sumSp_take (by omega)]
  simp only [addSp]; push_cast; omega
end Lc
namespace Go.Proofs.YthjmdagonfeneaaGreat.L
open Go.RowKit Go.Sd Lk Lc
theorem lcIn (a b c : Int) (w : World) :
    Calls Tryz.prog 56 #[.int .i64 a, .int .i64 b, .int .i64 c] w fun e w' => e = .returned (.bool (inB a b c)) ∧ w = w' := by
 by_cases h : b ≤ a
 · go_enter Tryz.func56, Tryz.ntmps56
   go_wp2
   go_ret
   exact ⟨by simp [inB, h], rfl⟩
 · go_enter Tryz.func56, Tryz.ntmps56
   go_wp2
   go_ret
   exact ⟨by simp [inB]; intro _; omega, rfl⟩
theorem lcSpan (s : Sp) (a b : Int) (w : World) :
    Calls Tryz.prog 111 #[spV s, .int .i64 a, .int .i64 b] w fun e w' => e = .returned (.bool (spnB s a b)) ∧ Below w.heap.size w w' := by
 by_cases h1 : a ≤ s.lo
 · by_cases h2 : s.lo ≤ s.hi
   · by_cases h3 : s.hi ≤ b
     · have hf : Hid (spnB s a b = true) := Lib.hid (by simp [spnB, h1, h2, h3])
       go_enter Tryz.func111, Tryz.ntmps111
       go_wp2
       go_ret
       exact ⟨bool_ret (by rw [hf.out]), (Below.refl _ _).alloc (Nat.le_refl _) _⟩
     · have hf : Hid (spnB s a b = false) := Lib.hid (by simp [spnB, h1, h2, h3])
       have h3' : b < s.hi := by omega
       go_enter Tryz.func111, Tryz.ntmps111
       go_wp2
       go_ret
       exact ⟨bool_ret (by rw [hf.out]), (Below.refl _ _).alloc (Nat.le_refl _) _⟩
   · have hf : Hid (spnB s a b = false) := Lib.hid (by simp [spnB, h1, h2])
     have h2' : s.hi < s.lo := by omega
     go_enter Tryz.func111, Tryz.ntmps111
     go_wp2
     go_ret
     exact ⟨bool_ret (by rw [hf.out]), (Below.refl _ _).alloc (Nat.le_refl _) _⟩
 · have hf : Hid (spnB s a b = false) := Lib.hid (by simp [spnB, h1])
   have h1' : s.lo < a := by omega
   go_enter Tryz.func111, Tryz.ntmps111
   go_wp2
   go_ret
   exact ⟨bool_ret (by rw [hf.out]), (Below.refl _ _).alloc (Nat.le_refl _) _⟩
theorem lcTimes (s : Sp) (n : Int) (w : World) (hn : 0 ≤ n) (h1 : -1000000000000000 ≤ n * s.lo ∧ n * s.lo ≤ 1000000000000000) (h2 : -1000000000000000 ≤ n * s.hi ∧ n * s.hi ≤ 1000000000000000) :
    Calls Tryz.prog 115 #[spV s, .int .i64 n] w fun e w' => e = .returned (spV ⟨n * s.lo, n * s.hi⟩) ∧ Below w.heap.size w w' := by
 have hd : decide (n < 0) = false := decide_eq_false (by omega)
 have hd' : ¬ n < 0 := by omega
 go_enter Tryz.func115, Tryz.ntmps115
 go_wp2
 refine bodyPost_ret (v := spV ⟨n * s.lo, n * s.hi⟩) (by simp [results, Tryz.results115, go_sem]) rfl ⟨rfl, (two_new rfl).2.2.2⟩
end Go.Proofs.YthjmdagonfeneaaGreat.L
