/- Laws and walks: We1, Ix, Bk1. -/
import Derived.Test.YtpcamocnlnlgiaaGreatK05
set_option maxRecDepth 100000
set_option maxHeartbeats 16000000
set_option linter.unusedVariables false
set_option linter.unusedSimpArgs false
namespace Wl
structure Pa where
 (one other : Int)
 (valve opn : Bool)
 (tested valid : Int)
 bad : Bool
 (test change : Int)
structure We where
 (rooms need : Int)
 parts : List Pa
def paAt (l : List Pa) (k : Nat) : Pa := l.getD k ⟨0, 0, false, false, 0, 0, false, 0, 0⟩
def inB (x l h : Int) : Bool := decide (l ≤ x) && decide (x ≤ h)
theorem inB_iff {x l h : Int} : inB x l h = true ↔ l ≤ x ∧ x ≤ h := by simp [inB]
def paB (rooms : Int) (p : Pa) : Bool := inB p.one 0 (rooms - 1) && inB p.other 0 (rooms - 1) && !(p.one == p.other) && (p.valve || !p.opn) && inB p.tested 0 5000 && inB p.valid 0 5000 && inB p.test 1 1000 && inB p.change 1 1000
def We.ok (w : We) : Bool := inB w.rooms 2 8 && inB w.need 0 12 && inB w.parts.length 1 12 && !(w.parts.any fun p => !paB w.rooms p)
structure We.Ok (w : We) : Prop where
 rooms : 2 ≤ w.rooms ∧ w.rooms ≤ 8
 need : 0 ≤ w.need ∧ w.need ≤ 12
 parts : 1 ≤ w.parts.length ∧ w.parts.length ≤ 12
 ends : ∀ k, k < w.parts.length → 0 ≤ (paAt w.parts k).one ∧ (paAt w.parts k).one < w.rooms ∧ 0 ≤ (paAt w.parts k).other ∧ (paAt w.parts k).other < w.rooms ∧ (paAt w.parts k).one ≠ (paAt w.parts k).other ∧
  0 ≤ (paAt w.parts k).tested ∧ (paAt w.parts k).tested ≤ 5000 ∧ 0 ≤ (paAt w.parts k).valid ∧ (paAt w.parts k).valid ≤ 5000
theorem We.ok_of {w : We} (h : w.ok = true) : w.Ok := by
 simp only [We.ok, Bool.and_eq_true, inB_iff, Bool.not_eq_true', List.any_eq_false] at h
 obtain ⟨⟨⟨h1, h2⟩, h3⟩, h4⟩ := h
 refine ⟨h1, h2, by omega, fun k hk => ?_⟩
 have e : paAt w.parts k = w.parts[k] := by simp [paAt, hk]
 have h5 := h4 _ (List.getElem_mem hk)
 rw [e]
 have h6 : paB w.rooms w.parts[k] = true := by cases hh : paB w.rooms w.parts[k] <;> simp [hh] at h5 ⊢
 simp only [paB, Bool.and_eq_true, inB_iff, Bool.not_eq_true', beq_eq_false_iff_ne] at h6
 omega
end Wl
namespace Go.Proofs.YtpcamocnlnlgiaaGreat.B
open Go.RowKit Go.Sd Wl L
abbrev paEn (p : Pa) : List Value := [.int .i64 p.one, .int .i64 p.other, .bool p.valve, .bool p.opn, .int .i64 p.tested, .int .i64 p.valid, .bool p.bad, .int .i64 p.test, .int .i64 p.change]
abbrev paV (p : Pa) : Value := .agg #[.int .i64 p.one, .int .i64 p.other, .bool p.valve, .bool p.opn, .int .i64 p.tested, .int .i64 p.valid, .bool p.bad, .int .i64 p.test, .int .i64 p.change]
abbrev paO (p : Pa) : Obj := .cells #[.int .i64 p.one, .int .i64 p.other, .bool p.valve, .bool p.opn, .int .i64 p.tested, .int .i64 p.valid, .bool p.bad, .int .i64 p.test, .int .i64 p.change] 141
abbrev PasAt (w : World) (v : Value) (xs : List Pa) : Prop := ElsAt 9 paEn ⟨0, 0, false, false, 0, 0, false, 0, 0⟩ w v xs
theorem boxedB {w W : World} {o : Obj} (h : w.alloc o = W) : W.heap[w.heap.size]? = some o ∧ Below w.heap.size w W ∧ w.heap.size < W.heap.size := by
 subst h
 exact ⟨World.alloc_heap_new w o, (Below.refl _ _).alloc (Nat.le_refl _) _, by simp⟩
theorem row9 {w : World} {n : Nat} {a0 a1 a2 a3 a4 a5 a6 a7 a8 : Value} {e : TypeId} (h : w.heap[n]? = some (.cells #[a0, a1, a2, a3, a4, a5, a6, a7, a8] e (0, 0))) : w.cell? ⟨n, 0, none⟩ = some a0 ∧ w.cell? ⟨n, 1, none⟩ = some a1 ∧ w.cell? ⟨n, 2, none⟩ = some a2 ∧ w.cell? ⟨n, 3, none⟩ = some a3 ∧ w.cell? ⟨n, 4, none⟩ = some a4 ∧ w.cell? ⟨n, 5, none⟩ = some a5 ∧ w.cell? ⟨n, 6, none⟩ = some a6 ∧ w.cell? ⟨n, 7, none⟩ = some a7 ∧ w.cell? ⟨n, 8, none⟩ = some a8 := by
 have r := (row_cells h).2.1
 exact ⟨r 0, r 1, r 2, r 3, r 4, r 5, r 6, r 7, r 8⟩
theorem paAt_eq {l : List Pa} {j : Nat} (h : j < l.length) : paAt l j = l[j] := by simp [paAt, h]
theorem indexPas (v : Value) (l : List Pa) (p : Pa → Bool) (nf : Nat) (nb : Array Value) (w : World) (hv : PasAt w v l) (en : ∀ args w, (callFunc nf args).run Tryz.prog w = .ok (.enter nf args) w)
    (hp : ∀ d, d ∈ l → ∀ X, Below w.heap.size w X → Calls Tryz.prog nf (#[paV d] ++ nb) X fun e X' => e = .returned (.bool (p d)) ∧ Below X.heap.size X X') :
    Calls Tryz.prog 136 #[v, .func (.func nf) #[] nb] w (FoundP (l.any p) w) := by
 obtain ⟨a, cap, rfl, hm, hc⟩ := hv.form
 clear hv
 replace hp := Lib.hid hp
 go_enter Tryz.func136, Tryz.ntmps136
 go_wp2_with (fail)
 have hg := grow_cell w
 go_loopw [8] (fun i wr => ∃ k : Nat, k ≤ l.length ∧ i = .int .i64 k ∧ Hid (∀ j (hj : j < l.length), j < k → p l[j] = false) ∧ ∃ g : Grow w, wr = g.x) (fun i _ => l.length - (intOf i).toNat)
 case atStart => exact ⟨0, by omega, rfl, (fun j _ h => by omega : ∀ j (hj : j < l.length), j < 0 → p l[j] = false), Grow.self w, rfl⟩
 case round =>
  obtain ⟨k, hk, rfl, hH, g, rfl⟩ := hrel
  by_cases hlt : k < l.length
  · obtain ⟨b, off, rfl, hbl, hx⟩ := hc (by omega)
    have c0 : w.cell? ⟨b, off + k * 9, none⟩ = some (.int .i64 (paAt l k).one) := hx k 0 _ hlt rfl
    have c1 : w.cell? ⟨b, off + k * 9 + 1, none⟩ = some (.int .i64 (paAt l k).other) := hx k 1 _ hlt rfl
    have c2 : w.cell? ⟨b, off + k * 9 + 2, none⟩ = some (.bool (paAt l k).valve) := hx k 2 _ hlt rfl
    have c3 : w.cell? ⟨b, off + k * 9 + 3, none⟩ = some (.bool (paAt l k).opn) := hx k 3 _ hlt rfl
    have c4 : w.cell? ⟨b, off + k * 9 + 4, none⟩ = some (.int .i64 (paAt l k).tested) := hx k 4 _ hlt rfl
    have c5 : w.cell? ⟨b, off + k * 9 + 5, none⟩ = some (.int .i64 (paAt l k).valid) := hx k 5 _ hlt rfl
    have c6 : w.cell? ⟨b, off + k * 9 + 6, none⟩ = some (.bool (paAt l k).bad) := hx k 6 _ hlt rfl
    have c7 : w.cell? ⟨b, off + k * 9 + 7, none⟩ = some (.int .i64 (paAt l k).test) := hx k 7 _ hlt rfl
    have c8 : w.cell? ⟨b, off + k * 9 + 8, none⟩ = some (.int .i64 (paAt l k).change) := hx k 8 _ hlt rfl
    have hki : (0 : Int) ≤ (k : Int) ∧ (k : Int) < l.length := by omega
    have hcall := hp.out (paAt l k) (by rw [paAt_eq hlt]; exact List.getElem_mem hlt) g.x g.h
    rw [paAt_eq hlt] at c0 c1 c2 c3 c4 c5 c6 c7 c8 hcall
    clear hx hc
    cases ht : p l[k]
    · rw [ht] at hcall
      have hH' : Hid (∀ j (hj : j < l.length), j < k + 1 → p l[j] = false) := fun j hj hjk => by
       rcases Nat.lt_succ_iff_lt_or_eq.1 hjk with h | rfl
       · exact hH.out j hj h
       · exact ht
      replace ht := Lib.hid ht
      replace hcall := Lib.hid hcall
      go_wp2_with ((with_reducible refine Calls.mono hcall.out ?_); rintro e w' ⟨rfl, hb'⟩; obtain ⟨g1, rfl⟩ := g.next hb')
      exact ⟨⟨k + 1, by omega, by go_num, hH', g1, rfl⟩, by simp [intOf]; omega⟩
    · rw [ht] at hcall
      have hany := Lib.hid (any_some hlt ht)
      replace ht := Lib.hid ht
      replace hcall := Lib.hid hcall
      go_wp2_with ((with_reducible refine Calls.mono hcall.out ?_); rintro e w' ⟨rfl, hb'⟩; obtain ⟨g1, rfl⟩ := g.next hb')
      go_ret
      exact ⟨k, rfl, ⟨fun _ => by omega, fun _ => hany.out⟩, g1.h⟩
  · have hany := Lib.hid (any_none fun j hj => hH.out j hj (by omega))
    go_wp2_with (fail)
    go_ret
    exact ⟨-1, rfl, ⟨(fun h => by rw [hany.out] at h; cases h), (fun h => by omega)⟩, g.h⟩
theorem containsPas (v : Value) (l : List Pa) (p : Pa → Bool) (nf : Nat) (nb : Array Value) (w : World) (hv : PasAt w v l) (en : ∀ args w, (callFunc nf args).run Tryz.prog w = .ok (.enter nf args) w)
    (hp : ∀ d, d ∈ l → ∀ X, Below w.heap.size w X → Calls Tryz.prog nf (#[paV d] ++ nb) X fun e X' => e = .returned (.bool (p d)) ∧ Below X.heap.size X X') :
    Calls Tryz.prog 118 #[v, .func (.func nf) #[] nb] w (BoolB (l.any p) w) := by
 have hc := Lib.hid (indexPas v l p nf nb w hv en hp)
 obtain ⟨a, cap, rfl, -, -⟩ := hv
 clear hp
 cases ht : l.any p
 all_goals
  replace ht := Lib.hid ht
  go_enter Tryz.func118, Tryz.ntmps118
  go_wp2_with (go_at_call 136; refine Calls.mono hc.out ?_; rintro e w' ⟨n, rfl, hn, hb⟩; rw [ht.out] at hn; have hn' : Hid (_ ↔ (0 : Int) ≤ n) := hn; clear hn)
  go_ret
  refine ⟨_, rfl, ?_, hb⟩
  have := hn'.out
  simp at this
  show _ = _
  simp [this]
theorem wellIn (a b c : Int) (w : World) : Calls Tryz.prog 94 #[.int .i64 a, .int .i64 b, .int .i64 c] w (BoolS (Wl.inB a b c) w) := by
 by_cases h : b ≤ a
 · go_enter Tryz.func94, Tryz.ntmps94
   go_wp2
   go_ret
   exact ⟨_, rfl, Lib.hid (by unfold Wl.inB; simp [h] <;> omega), rfl⟩
 · go_enter Tryz.func94, Tryz.ntmps94
   go_wp2
   go_ret
   exact ⟨_, rfl, Lib.hid (by unfold Wl.inB; simp [h] <;> omega), rfl⟩
theorem progPart (p : Pa) (rooms : Int) (w : World) (hr : -1000 ≤ rooms ∧ rooms ≤ 1000) : Calls Tryz.prog 120 #[paV p, .int .i64 rooms] w (BoolB (paB rooms p) w) := by
 obtain ⟨W, hW⟩ : ∃ W, w.alloc (paO p) = W := ⟨_, rfl⟩
 obtain ⟨e, bW, z⟩ := boxedB hW
 obtain ⟨c0, c1, c2, c3, c4, c5, c6, c7, c8⟩ := row9 e
 obtain ⟨one, other, valve, opn, tested, valid, bad, test, change⟩ := p
 simp only at c0 c1 c2 c3 c4 c5 c6 c7 c8
 have hw : IntKind.i64.wrap (rooms - 1) = rooms - 1 := IntWalk.i64_in _ (by omega)
 clear e hr
 cases valve <;> cases opn <;> by_cases ho : one = other <;> try subst ho
 all_goals
  go_enter Tryz.func120, Tryz.ntmps120
  go_wp2_with (go_at_call 94; refine Calls.mono (wellIn _ _ _ _) ?_; rintro e w1 ⟨(_ | _), rfl, ht, rfl⟩)
  all_goals
   go_ret
   exact BoolB.mk (by unfold Hid at *; simp [paB, bne, *]) bW
end Go.Proofs.YtpcamocnlnlgiaaGreat.B
set_option linter.unusedVariables false
set_option linter.unusedSimpArgs false
namespace Go.Proofs.YtpcamocnlnlgiaaGreat.L
open Go.RowKit Go.Sd Lk
abbrev iV (n : Int) : Value := .int .i64 n
theorem at0_eq {l : List Int} {j : Nat} (h : j < l.length) : at0 l j = l[j] := by simp [at0, h]
theorem indexInts (v : Value) (l : List Int) (p : Int → Bool) (nf : Nat) (nb : Array Value) (w : World) (hv : IntsAt w v l) (en : ∀ args w, (callFunc nf args).run Tryz.prog w = .ok (.enter nf args) w)
    (hp : ∀ d, d ∈ l → ∀ X, Below w.heap.size w X → Calls Tryz.prog nf (#[iV d] ++ nb) X fun e X' => e = .returned (.bool (p d)) ∧ Below X.heap.size X X') :
    Calls Tryz.prog 68 #[v, .func (.func nf) #[] nb] w (FoundP (l.any p) w) := by
 obtain ⟨a, cap, rfl, hm, hc⟩ := hv.form
 clear hv
 replace hp := Lib.hid hp
 go_enter Tryz.func68, Tryz.ntmps68
 go_wp2_with (fail)
 have hg := grow_cell w
 go_loopw [8] (fun i wr => ∃ k : Nat, k ≤ l.length ∧ i = .int .i64 k ∧ Hid (∀ j (hj : j < l.length), j < k → p l[j] = false) ∧ ∃ g : Grow w, wr = g.x) (fun i _ => l.length - (intOf i).toNat)
 case atStart => exact ⟨0, by omega, rfl, (fun j _ h => by omega : ∀ j (hj : j < l.length), j < 0 → p l[j] = false), Grow.self w, rfl⟩
 case round =>
  obtain ⟨k, hk, rfl, hH, g, rfl⟩ := hrel
  by_cases hlt : k < l.length
  · obtain ⟨b, off, rfl, hbl, hx⟩ := hc (by omega)
    have c0 : w.cell? ⟨b, off + k, none⟩ = some (.int .i64 (at0 l k)) := by have h := hx k 0 (.int .i64 (at0 l k)) hlt rfl; rwa [Nat.mul_one, Nat.add_zero] at h
    have hki : (0 : Int) ≤ (k : Int) ∧ (k : Int) < l.length := by omega
    have hcall := hp.out (at0 l k) (by rw [at0_eq hlt]; exact List.getElem_mem hlt) g.x g.h
    rw [at0_eq hlt] at c0 hcall
    clear hx hc
    cases ht : p l[k]
    · rw [ht] at hcall
      have hH' : Hid (∀ j (hj : j < l.length), j < k + 1 → p l[j] = false) := fun j hj hjk => by
       rcases Nat.lt_succ_iff_lt_or_eq.1 hjk with h | rfl
       · exact hH.out j hj h
       · exact ht
      replace ht := Lib.hid ht
      replace hcall := Lib.hid hcall
      go_wp2_with ((with_reducible refine Calls.mono hcall.out ?_); rintro e w' ⟨rfl, hb'⟩; obtain ⟨g1, rfl⟩ := g.next hb')
      exact ⟨⟨k + 1, by omega, by go_num, hH', g1, rfl⟩, by simp [intOf]; omega⟩
    · rw [ht] at hcall
      have hany := Lib.hid (any_some hlt ht)
      replace ht := Lib.hid ht
      replace hcall := Lib.hid hcall
      go_wp2_with ((with_reducible refine Calls.mono hcall.out ?_); rintro e w' ⟨rfl, hb'⟩; obtain ⟨g1, rfl⟩ := g.next hb')
      go_ret
      exact ⟨k, rfl, ⟨fun _ => by omega, fun _ => hany.out⟩, g1.h⟩
  · have hany := Lib.hid (any_none fun j hj => hH.out j hj (by omega))
    go_wp2_with (fail)
    go_ret
    exact ⟨-1, rfl, ⟨(fun h => by rw [hany.out] at h; cases h), (fun h => by omega)⟩, g.h⟩
theorem containsInts (v : Value) (l : List Int) (p : Int → Bool) (nf : Nat) (nb : Array Value) (w : World) (hv : IntsAt w v l) (en : ∀ args w, (callFunc nf args).run Tryz.prog w = .ok (.enter nf args) w)
    (hp : ∀ d, d ∈ l → ∀ X, Below w.heap.size w X → Calls Tryz.prog nf (#[iV d] ++ nb) X fun e X' => e = .returned (.bool (p d)) ∧ Below X.heap.size X X') :
    Calls Tryz.prog 37 #[v, .func (.func nf) #[] nb] w (BoolB (l.any p) w) := by
 have hc := Lib.hid (indexInts v l p nf nb w hv en hp)
 obtain ⟨a, cap, rfl, -, -⟩ := hv
 clear hp
 cases ht : l.any p
 all_goals
  replace ht := Lib.hid ht
  go_enter Tryz.func37, Tryz.ntmps37
  go_wp2_with (go_at_call 68; refine Calls.mono hc.out ?_; rintro e w' ⟨n, rfl, hn, hb⟩; rw [ht.out] at hn; have hn' : Hid (_ ↔ (0 : Int) ≤ n) := hn; clear hn)
  go_ret
  refine ⟨_, rfl, ?_, hb⟩
  have := hn'.out
  simp at this
  show _ = _
  simp [this]
end Go.Proofs.YtpcamocnlnlgiaaGreat.L
set_option linter.unusedVariables false
set_option linter.unusedSimpArgs false
namespace Bk
open Wl
structure Rt where
 (fill inn out : Int)
structure Con where
 firm : Bool
 (space lo hi : Int)
 rates : List Rt
 (gas fixed inn out cut lack : Int)
def rtAt (l : List Rt) (k : Nat) : Rt := l.getD k ⟨0, 0, 0⟩
def hourB (n : Int) : Bool := inB n 0 47
def hoursB (lo hi : Int) : Bool := hourB lo && hourB hi && decide (lo ≤ hi)
def priceB (n : Int) : Bool := inB n 0 10000
def kilosB (n : Int) : Bool := inB n 0 100000000
def muchB (n : Int) : Bool := inB n 0 800000000
def rtB (l : List Rt) (k : Nat) : Bool :=
 inB (rtAt l k).fill 0 1000 && kilosB (rtAt l k).inn && kilosB (rtAt l k).out &&
  (if k = 0 then decide ((rtAt l k).fill = 0) else decide ((rtAt l (k - 1)).fill < (rtAt l k).fill) && decide ((rtAt l k).inn ≤ (rtAt l (k - 1)).inn) && decide ((rtAt l (k - 1)).out ≤ (rtAt l k).out))
def pricesB (c : Con) : Bool := priceB c.fixed && priceB c.inn && priceB c.out && priceB c.cut && priceB c.lack
def headB (c : Con) : Bool := inB c.space 1 100000000 && hoursB c.lo c.hi && inB c.rates.length 1 6 && inB c.gas 0 c.space && pricesB c
def Con.ok (c : Con) : Bool := headB c && (List.range c.rates.length).all (rtB c.rates)
def activeB (c : Con) (h : Int) : Bool := inB h c.lo c.hi
end Bk
namespace Go.Proofs.YtpcamocnlnlgiaaGreat.B
open Go.RowKit Go.Sd Wl Bk L
attribute [local go_sem] Oper.semAt_some
abbrev rtEn (p : Rt) : List Value := [.int .i64 p.fill, .int .i64 p.inn, .int .i64 p.out]
abbrev rtV (p : Rt) : Value := .agg #[.int .i64 p.fill, .int .i64 p.inn, .int .i64 p.out]
abbrev rtO (p : Rt) : Obj := .cells #[.int .i64 p.fill, .int .i64 p.inn, .int .i64 p.out] 74
abbrev RtsAt (w : World) (v : Value) (xs : List Rt) : Prop := ElsAt 3 rtEn ⟨0, 0, 0⟩ w v xs
abbrev conV (rv : Value) (c : Con) : Value := .agg #[.bool c.firm, .int .i64 c.space, .int .i64 c.lo, .int .i64 c.hi, rv, .int .i64 c.gas, .int .i64 c.fixed, .int .i64 c.inn, .int .i64 c.out, .int .i64 c.cut, .int .i64 c.lack]
abbrev conO (rv : Value) (c : Con) : Obj := .cells #[.bool c.firm, .int .i64 c.space, .int .i64 c.lo, .int .i64 c.hi, rv, .int .i64 c.gas, .int .i64 c.fixed, .int .i64 c.inn, .int .i64 c.out, .int .i64 c.cut, .int .i64 c.lack] 26
theorem in06 (a b c : Int) (w : World) : Calls Tryz.prog 13 #[.int .i64 a, .int .i64 b, .int .i64 c] w (BoolS (inB a b c) w) := by
 by_cases h : b ≤ a
 · go_enter Tryz.func13, Tryz.ntmps13
   go_wp2
   go_ret
   exact ⟨_, rfl, Lib.hid (by unfold Wl.inB; simp [h] <;> omega), rfl⟩
 · go_enter Tryz.func13, Tryz.ntmps13
   go_wp2
   go_ret
   exact ⟨_, rfl, Lib.hid (by unfold Wl.inB; simp [h] <;> omega), rfl⟩
theorem bookIn (a b c : Int) (w : World) : Calls Tryz.prog 25 #[.int .i64 a, .int .i64 b, .int .i64 c] w (BoolS (inB a b c) w) := by
 by_cases h : b ≤ a
 · go_enter Tryz.func25, Tryz.ntmps25
   go_wp2
   go_ret
   exact ⟨_, rfl, Lib.hid (by unfold Wl.inB; simp [h] <;> omega), rfl⟩
 · go_enter Tryz.func25, Tryz.ntmps25
   go_wp2
   go_ret
   exact ⟨_, rfl, Lib.hid (by unfold Wl.inB; simp [h] <;> omega), rfl⟩
theorem bookInT {a b c : Int} {t : Bool} (h : inB a b c = t) (w : World) : Calls Tryz.prog 25 #[.int .i64 a, .int .i64 b, .int .i64 c] w fun e w' => e = .returned (.bool t) ∧ w = w' :=
 (bookIn a b c w).mono fun e w' ⟨t', he, ht, hw⟩ => ⟨by rw [he, ← ht.out, h], hw⟩
theorem in06T {a b c : Int} {t : Bool} (h : inB a b c = t) (w : World) : Calls Tryz.prog 13 #[.int .i64 a, .int .i64 b, .int .i64 c] w fun e w' => e = .returned (.bool t) ∧ w = w' :=
 (in06 a b c w).mono fun e w' ⟨t', he, ht, hw⟩ => ⟨by rw [he, ← ht.out, h], hw⟩
theorem price06 (n : Int) (w : World) : Calls Tryz.prog 15 #[.int .i64 n] w (BoolS (priceB n) w) := by
 have k := Lib.hid (in06 n 0 10000 w)
 go_enter Tryz.func15, Tryz.ntmps15
 go_wp2_with (go_at_call 13; (with_reducible refine Calls.mono k.out ?_); rintro e w' ⟨t, rfl, ht, rfl⟩)
 go_ret
 exact ⟨_, rfl, ht, rfl⟩
theorem kilos06 (n : Int) (w : World) : Calls Tryz.prog 16 #[.int .i64 n] w (BoolS (kilosB n) w) := by
 have k := Lib.hid (in06 n 0 100000000 w)
 go_enter Tryz.func16, Tryz.ntmps16
 go_wp2_with (go_at_call 13; (with_reducible refine Calls.mono k.out ?_); rintro e w' ⟨t, rfl, ht, rfl⟩)
 go_ret
 exact ⟨_, rfl, ht, rfl⟩
theorem much06 (n : Int) (w : World) : Calls Tryz.prog 42 #[.int .i64 n] w (BoolS (muchB n) w) := by
 have k := Lib.hid (in06 n 0 800000000 w)
 go_enter Tryz.func42, Tryz.ntmps42
 go_wp2_with (go_at_call 13; (with_reducible refine Calls.mono k.out ?_); rintro e w' ⟨t, rfl, ht, rfl⟩)
 go_ret
 exact ⟨_, rfl, ht, rfl⟩
theorem hour06 (n : Int) (w : World) : Calls Tryz.prog 49 #[.int .i64 n] w (BoolS (hourB n) w) := by
 have k := Lib.hid (in06 n 0 47 w)
 go_enter Tryz.func49, Tryz.ntmps49
 go_wp2_with (go_at_call 13; (with_reducible refine Calls.mono k.out ?_); rintro e w' ⟨t, rfl, ht, rfl⟩)
 go_ret
 exact ⟨_, rfl, ht, rfl⟩
theorem row2 {w : World} {n : Nat} {a0 a1 : Value} {e : TypeId} (h : w.heap[n]? = some (.cells #[a0, a1] e (0, 0))) : w.cell? ⟨n, 0, none⟩ = some a0 ∧ w.cell? ⟨n, 1, none⟩ = some a1 := by
 have r := (row_cells h).2.1
 exact ⟨r 0, r 1⟩
theorem hours06 (lo hi : Int) (w : World) : Calls Tryz.prog 14 #[.agg #[.int .i64 lo, .int .i64 hi]] w (BoolB (hoursB lo hi) w) := by
 obtain ⟨W, hW⟩ : ∃ W, w.alloc (.cells #[.int .i64 lo, .int .i64 hi] 23) = W := ⟨_, rfl⟩
 obtain ⟨e, bW, z⟩ := boxedB hW
 obtain ⟨c0, c1⟩ := row2 e
 clear e
 by_cases h : lo ≤ hi
 all_goals
  go_enter Tryz.func14, Tryz.ntmps14
  go_wp2_with (go_at_call 49; refine Calls.mono (hour06 _ _) ?_; rintro e w1 ⟨(_ | _), rfl, ht, rfl⟩)
  all_goals
   go_ret
   exact BoolB.mk (by unfold Hid at *; simp [hoursB, *]) bW
theorem bookHours (lo hi : Int) (w : World) : Calls Tryz.prog 59 #[.agg #[.int .i64 lo, .int .i64 hi]] w (BoolB (hoursB lo hi) w) := by
 obtain ⟨W, hW⟩ : ∃ W, w.alloc (.cells #[.int .i64 lo, .int .i64 hi] 23) = W := ⟨_, rfl⟩
 obtain ⟨e, bW, z⟩ := boxedB hW
 obtain ⟨c0, c1⟩ := row2 e
 have hB := Lib.hid bW
 have hv : Hid (hoursB lo hi = (decide (0 ≤ lo) && decide (lo ≤ hi) && decide (hi < 48))) := Lib.hid (by
  rw [Bool.eq_iff_iff]
  unfold hoursB hourB inB
  simp
  omega)
 clear e bW
 by_cases h0 : 0 ≤ lo
 · by_cases h : lo ≤ hi
   · by_cases h2 : hi < 48
     · have h3 : Hid (hoursB lo hi = true) := Lib.hid (by rw [hv.out]; simp [h0, h, h2])
       go_enter Tryz.func59, Tryz.ntmps59
       go_wp2
       go_ret
       exact ⟨_, rfl, by first | exact h3 | (simp; exact h3), hB.out⟩
     · have h3 : Hid (hoursB lo hi = false) := Lib.hid (by rw [hv.out]; simp [h0, h, h2])
       have h2' : 48 ≤ hi := by omega
       go_enter Tryz.func59, Tryz.ntmps59
       go_wp2
       go_ret
       exact ⟨_, rfl, by first | exact h3 | (simp; exact h3), hB.out⟩
   · have h3 : Hid (hoursB lo hi = false) := Lib.hid (by rw [hv.out]; simp [h])
     have h' : hi < lo := by omega
     go_enter Tryz.func59, Tryz.ntmps59
     go_wp2
     go_ret
     exact ⟨_, rfl, h3, hB.out⟩
 · have h3 : Hid (hoursB lo hi = false) := Lib.hid (by rw [hv.out]; simp [h0])
   have h' : lo < 0 := by omega
   go_enter Tryz.func59, Tryz.ntmps59
   go_wp2
   go_ret
   exact ⟨_, rfl, h3, hB.out⟩
theorem price1 (n : Int) (w : World) : Calls Tryz.prog 96 #[.int .i64 n] w fun e w' => e = .returned (.bool (!priceB n)) ∧ Below w.heap.size w w' := by
 have k := Lib.hid (bookIn n 0 10000 w)
 go_enter Tryz.func96, Tryz.ntmps96
 go_wp2_with (go_at_call 25; (with_reducible refine Calls.mono k.out ?_); rintro e w' ⟨t, rfl, ht, rfl⟩)
 go_ret
 exact ⟨by rw [← ht.out]; rfl, Below.refl _ _⟩
theorem great1 (n : Int) (w : World) : Calls Tryz.prog 100 #[.int .i64 n] w fun e w' => e = .returned (.bool (!muchB n)) ∧ Below w.heap.size w w' := by
 have k := Lib.hid (bookIn n 0 800000000 w)
 go_enter Tryz.func100, Tryz.ntmps100
 go_wp2_with (go_at_call 25; (with_reducible refine Calls.mono k.out ?_); rintro e w' ⟨t, rfl, ht, rfl⟩)
 go_ret
 exact ⟨by rw [← ht.out]; rfl, Below.refl _ _⟩
theorem bookPrices (v : Value) (l : List Int) (w : World) (hv : IntsAt w v l) : Calls Tryz.prog 60 #[v] w (BoolB (l.all priceB) w) := by
 have k := Lib.hid (containsInts v l (fun n => !priceB n) 96 #[] w hv (fun args w => by kernel_rfl) fun d _ X _ => price1 d X)
 obtain ⟨a, cap, rfl, -, -⟩ := hv
 have he : (l.any fun n => !priceB n) = !l.all priceB := by simp [List.any_eq_not_all_not]
 rw [he] at k
 clear he
 go_enter Tryz.func60, Tryz.ntmps60
 go_wp2_with (go_at_call 37; (with_reducible refine Calls.mono k.out ?_); rintro e w' ⟨t, rfl, ht, hB⟩)
 go_ret
 exact BoolB.mk (by rw [← ht.out]; simp) hB
theorem bookGreat (v : Value) (l : List Int) (w : World) (hv : IntsAt w v l) : Calls Tryz.prog 72 #[v] w (BoolB (l.all muchB) w) := by
 have k := Lib.hid (containsInts v l (fun n => !muchB n) 100 #[] w hv (fun args w => by kernel_rfl) fun d _ X _ => great1 d X)
 obtain ⟨a, cap, rfl, -, -⟩ := hv
 have he : (l.any fun n => !muchB n) = !l.all muchB := by simp [List.any_eq_not_all_not]
 rw [he] at k
 clear he
 go_enter Tryz.func72, Tryz.ntmps72
 go_wp2_with (go_at_call 37; (with_reducible refine Calls.mono k.out ?_); rintro e w' ⟨t, rfl, ht, hB⟩)
 go_ret
 exact BoolB.mk (by rw [← ht.out]; simp) hB
end Go.Proofs.YtpcamocnlnlgiaaGreat.B
