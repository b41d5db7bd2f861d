/- Walks: slices.IndexFunc and ContainsFunc at spans, readings, guesses and days of a watch. -/
import Derived.Test.YtddmfkhmhdddeaaMem
set_option linter.unusedVariables false
set_option linter.unusedSimpArgs false
namespace Lk
structure Dy where
  flow : Int
  reads : Bool
  content : Int
  deriving DecidableEq
def dyAt (l : List Dy) (k : Nat) : Dy := l.getD k ⟨0, false, 0⟩
def gsAt (l : List Gs) (k : Nat) : Gs := l.getD k ⟨0, 0, 0⟩
end Lk
namespace Go.Proofs.Ytddmfkhmhdddeaa
open Go.RowKit Go.Sd Lk
abbrev dyEnc (d : Dy) : List Value := [.int .i64 d.flow, .bool d.reads, .int .i64 d.content]
abbrev dyV (d : Dy) : Value := .agg #[.int .i64 d.flow, .bool d.reads, .int .i64 d.content]
abbrev DysAt (w : World) (v : Value) (xs : List Dy) : Prop := ElsAt 3 dyEnc ⟨0, false, 0⟩ w v xs

/-- What the search for an element leaves: a number that is not negative just if there is one. -/
def FoundP (b : Bool) (w : World) (e : Ending) (w' : World) : Prop := ∃ n : Int, e = .returned (.int .i64 n) ∧ (b = true ↔ 0 ≤ n) ∧ Below w.heap.size w w'
theorem any_none {α : Type} {l : List α} {p : α → Bool} (h : ∀ j (hj : j < l.length), p l[j] = false) : l.any p = false := by
  rw [List.any_eq_false]
  intro x hx
  obtain ⟨i, hi, rfl⟩ := List.getElem_of_mem hx
  rw [h i hi]; exact Bool.false_ne_true
theorem any_some {α : Type} {l : List α} {p : α → Bool} {j : Nat} (hj : j < l.length) (h : p l[j] = true) : l.any p = true := List.any_eq_true.2 ⟨_, List.getElem_mem hj, h⟩

theorem spAt_eq {l : List Sp} {j : Nat} (h : j < l.length) : spAt l j = l[j] := by simp [spAt, h]
set_option maxRecDepth 100000 in
set_option maxHeartbeats 2000000 in
theorem indexSps (v : Value) (l : List Sp) (p : Sp → Bool) (nf : Nat) (nb : Array Value) (w : World) (hv : SpsAt w v l) (en : ∀ args w, (callFunc nf args).run Try.prog w = .ok (.enter nf args) w)
    (hp : ∀ d, d ∈ l → ∀ X, Below w.heap.size w X → Calls Try.prog nf (#[spV d] ++ nb) X fun e X' => e = .returned (.bool (p d)) ∧ Below X.heap.size X X') :
    Calls Try.prog 106 #[v, .func (.func nf) #[] nb] w (FoundP (l.any p) w) := by
  obtain ⟨a, cap, rfl, hm, hc⟩ := hv.form
  clear hv
  replace hp := Lib.hid hp
  go_enter Try.func106, Try.ntmps106
  go_wp2_with (fail)
  have hg := grow_cell w
  go_loopw [8] (fun i wr => ∃ k : Nat, k ≤ l.length ∧ i = .int .i64 k ∧ Hid (∀ j (hj : j < l.length), j < k → p l[j] = false) ∧ ∃ g : Grow w, wr = g.x) (fun i _ => l.length - (intOf i).toNat)
  case atStart => exact ⟨0, by omega, rfl, (fun j _ h => by omega : ∀ j (hj : j < l.length), j < 0 → p l[j] = false), Grow.self w, rfl⟩
  case round =>
    obtain ⟨k, hk, rfl, hH, g, rfl⟩ := hrel
    by_cases hlt : k < l.length
    · obtain ⟨b, off, rfl, hbl, hx⟩ := hc (by omega)
      have c0 : w.cell? ⟨b, off + k * 2, none⟩ = some (.int .i64 (spAt l k).lo) := hx k 0 _ hlt rfl
      have c1 : w.cell? ⟨b, off + k * 2 + 1, none⟩ = some (.int .i64 (spAt l k).hi) := hx k 1 _ hlt rfl
      have hki : (0 : Int) ≤ (k : Int) ∧ (k : Int) < l.length := by omega
      have hcall := hp.out (spAt l k) (by rw [spAt_eq hlt]; exact List.getElem_mem hlt) g.x g.h
      rw [spAt_eq hlt] at c0 c1 hcall
      clear hx hc
      cases ht : p l[k]
      · rw [ht] at hcall
        have hH' : Hid (∀ j (hj : j < l.length), j < k + 1 → p l[j] = false) := fun j hj hjk => by
          rcases Nat.lt_succ_iff_lt_or_eq.1 hjk with h | rfl
          · exact hH.out j hj h
          · exact ht
        replace ht := Lib.hid ht
        replace hcall := Lib.hid hcall
        go_wp2_with ((with_reducible refine Calls.mono hcall.out ?_); rintro e w' ⟨rfl, hb'⟩; obtain ⟨g1, rfl⟩ := g.next hb')
        exact ⟨⟨k + 1, by omega, by go_num, hH', g1, rfl⟩, by simp [intOf]; omega⟩
      · rw [ht] at hcall
        have hany := Lib.hid (any_some hlt ht)
        replace ht := Lib.hid ht
        replace hcall := Lib.hid hcall
        go_wp2_with ((with_reducible refine Calls.mono hcall.out ?_); rintro e w' ⟨rfl, hb'⟩; obtain ⟨g1, rfl⟩ := g.next hb')
        go_ret
        exact ⟨k, rfl, ⟨fun _ => by omega, fun _ => hany.out⟩, g1.h⟩
    · have hany := Lib.hid (any_none fun j hj => hH.out j hj (by omega))
      go_wp2_with (fail)
      go_ret
      exact ⟨-1, rfl, ⟨(fun h => by rw [hany.out] at h; cases h), (fun h => by omega)⟩, g.h⟩

theorem containsSps (v : Value) (l : List Sp) (p : Sp → Bool) (nf : Nat) (nb : Array Value) (w : World) (hv : SpsAt w v l) (en : ∀ args w, (callFunc nf args).run Try.prog w = .ok (.enter nf args) w)
    (hp : ∀ d, d ∈ l → ∀ X, Below w.heap.size w X → Calls Try.prog nf (#[spV d] ++ nb) X fun e X' => e = .returned (.bool (p d)) ∧ Below X.heap.size X X') :
    Calls Try.prog 100 #[v, .func (.func nf) #[] nb] w (BoolB (l.any p) w) := by
  have hc := Lib.hid (indexSps v l p nf nb w hv en hp)
  obtain ⟨a, cap, rfl, -, -⟩ := hv
  clear hp
  cases ht : l.any p
  all_goals
    replace ht := Lib.hid ht
    go_enter Try.func100, Try.ntmps100
    go_wp2_with (go_at_call 106; refine Calls.mono hc.out ?_; rintro e w' ⟨n, rfl, hn, hb⟩; rw [ht.out] at hn; have hn' : Hid (_ ↔ (0 : Int) ≤ n) := hn; clear hn)
    go_ret
    refine ⟨_, rfl, ?_, hb⟩
    have := hn'.out
    simp at this
    show _ = _
    simp [this]

theorem rdAt_eq {l : List Rd} {j : Nat} (h : j < l.length) : rdAt l j = l[j] := by simp [rdAt, h]
set_option maxRecDepth 100000 in
set_option maxHeartbeats 2000000 in
theorem indexRds (v : Value) (l : List Rd) (p : Rd → Bool) (nf : Nat) (nb : Array Value) (w : World) (hv : RdsAt w v l) (en : ∀ args w, (callFunc nf args).run Try.prog w = .ok (.enter nf args) w)
    (hp : ∀ d, d ∈ l → ∀ X, Below w.heap.size w X → Calls Try.prog nf (#[rdV d] ++ nb) X fun e X' => e = .returned (.bool (p d)) ∧ Below X.heap.size X X') :
    Calls Try.prog 102 #[v, .func (.func nf) #[] nb] w (FoundP (l.any p) w) := by
  obtain ⟨a, cap, rfl, hm, hc⟩ := hv.form
  clear hv
  replace hp := Lib.hid hp
  go_enter Try.func102, Try.ntmps102
  go_wp2_with (fail)
  have hg := grow_cell w
  go_loopw [8] (fun i wr => ∃ k : Nat, k ≤ l.length ∧ i = .int .i64 k ∧ Hid (∀ j (hj : j < l.length), j < k → p l[j] = false) ∧ ∃ g : Grow w, wr = g.x) (fun i _ => l.length - (intOf i).toNat)
  case atStart => exact ⟨0, by omega, rfl, (fun j _ h => by omega : ∀ j (hj : j < l.length), j < 0 → p l[j] = false), Grow.self w, rfl⟩
  case round =>
    obtain ⟨k, hk, rfl, hH, g, rfl⟩ := hrel
    by_cases hlt : k < l.length
    · obtain ⟨b, off, rfl, hbl, hx⟩ := hc (by omega)
      have c0 : w.cell? ⟨b, off + k * 4, none⟩ = some (.int .i64 (rdAt l k).day) := hx k 0 _ hlt rfl
      have c1 : w.cell? ⟨b, off + k * 4 + 1, none⟩ = some (.int .i64 (rdAt l k).zone) := hx k 1 _ hlt rfl
      have c2 : w.cell? ⟨b, off + k * 4 + 2, none⟩ = some (.int .i64 (rdAt l k).v.lo) := hx k 2 _ hlt rfl
      have c3 : w.cell? ⟨b, off + k * 4 + 3, none⟩ = some (.int .i64 (rdAt l k).v.hi) := hx k 3 _ hlt rfl
      have hki : (0 : Int) ≤ (k : Int) ∧ (k : Int) < l.length := by omega
      have hcall := hp.out (rdAt l k) (by rw [rdAt_eq hlt]; exact List.getElem_mem hlt) g.x g.h
      rw [rdAt_eq hlt] at c0 c1 c2 c3 hcall
      clear hx hc
      cases ht : p l[k]
      · rw [ht] at hcall
        have hH' : Hid (∀ j (hj : j < l.length), j < k + 1 → p l[j] = false) := fun j hj hjk => by
          rcases Nat.lt_succ_iff_lt_or_eq.1 hjk with h | rfl
          · exact hH.out j hj h
          · exact ht
        replace ht := Lib.hid ht
        replace hcall := Lib.hid hcall
        go_wp2_with ((with_reducible refine Calls.mono hcall.out ?_); rintro e w' ⟨rfl, hb'⟩; obtain ⟨g1, rfl⟩ := g.next hb')
        exact ⟨⟨k + 1, by omega, by go_num, hH', g1, rfl⟩, by simp [intOf]; omega⟩
      · rw [ht] at hcall
        have hany := Lib.hid (any_some hlt ht)
        replace ht := Lib.hid ht
        replace hcall := Lib.hid hcall
        go_wp2_with ((with_reducible refine Calls.mono hcall.out ?_); rintro e w' ⟨rfl, hb'⟩; obtain ⟨g1, rfl⟩ := g.next hb')
        go_ret
        exact ⟨k, rfl, ⟨fun _ => by omega, fun _ => hany.out⟩, g1.h⟩
    · have hany := Lib.hid (any_none fun j hj => hH.out j hj (by omega))
      go_wp2_with (fail)
      go_ret
      exact ⟨-1, rfl, ⟨(fun h => by rw [hany.out] at h; cases h), (fun h => by omega)⟩, g.h⟩

theorem containsRds (v : Value) (l : List Rd) (p : Rd → Bool) (nf : Nat) (nb : Array Value) (w : World) (hv : RdsAt w v l) (en : ∀ args w, (callFunc nf args).run Try.prog w = .ok (.enter nf args) w)
    (hp : ∀ d, d ∈ l → ∀ X, Below w.heap.size w X → Calls Try.prog nf (#[rdV d] ++ nb) X fun e X' => e = .returned (.bool (p d)) ∧ Below X.heap.size X X') :
    Calls Try.prog 84 #[v, .func (.func nf) #[] nb] w (BoolB (l.any p) w) := by
  have hc := Lib.hid (indexRds v l p nf nb w hv en hp)
  obtain ⟨a, cap, rfl, -, -⟩ := hv
  clear hp
  cases ht : l.any p
  all_goals
    replace ht := Lib.hid ht
    go_enter Try.func84, Try.ntmps84
    go_wp2_with (go_at_call 102; refine Calls.mono hc.out ?_; rintro e w' ⟨n, rfl, hn, hb⟩; rw [ht.out] at hn; have hn' : Hid (_ ↔ (0 : Int) ≤ n) := hn; clear hn)
    go_ret
    refine ⟨_, rfl, ?_, hb⟩
    have := hn'.out
    simp at this
    show _ = _
    simp [this]

theorem gsAt_eq {l : List Gs} {j : Nat} (h : j < l.length) : gsAt l j = l[j] := by simp [gsAt, h]
set_option maxRecDepth 100000 in
set_option maxHeartbeats 2000000 in
theorem indexGss (v : Value) (l : List Gs) (p : Gs → Bool) (nf : Nat) (nb : Array Value) (w : World) (hv : GssAt w v l) (en : ∀ args w, (callFunc nf args).run Try.prog w = .ok (.enter nf args) w)
    (hp : ∀ d, d ∈ l → ∀ X, Below w.heap.size w X → Calls Try.prog nf (#[gsV d] ++ nb) X fun e X' => e = .returned (.bool (p d)) ∧ Below X.heap.size X X') :
    Calls Try.prog 94 #[v, .func (.func nf) #[] nb] w (FoundP (l.any p) w) := by
  obtain ⟨a, cap, rfl, hm, hc⟩ := hv.form
  clear hv
  replace hp := Lib.hid hp
  go_enter Try.func94, Try.ntmps94
  go_wp2_with (fail)
  have hg := grow_cell w
  go_loopw [8] (fun i wr => ∃ k : Nat, k ≤ l.length ∧ i = .int .i64 k ∧ Hid (∀ j (hj : j < l.length), j < k → p l[j] = false) ∧ ∃ g : Grow w, wr = g.x) (fun i _ => l.length - (intOf i).toNat)
  case atStart => exact ⟨0, by omega, rfl, (fun j _ h => by omega : ∀ j (hj : j < l.length), j < 0 → p l[j] = false), Grow.self w, rfl⟩
  case round =>
    obtain ⟨k, hk, rfl, hH, g, rfl⟩ := hrel
    by_cases hlt : k < l.length
    · obtain ⟨b, off, rfl, hbl, hx⟩ := hc (by omega)
      have c0 : w.cell? ⟨b, off + k * 3, none⟩ = some (.int .i64 (gsAt l k).zone) := hx k 0 _ hlt rfl
      have c1 : w.cell? ⟨b, off + k * 3 + 1, none⟩ = some (.int .i64 (gsAt l k).size) := hx k 1 _ hlt rfl
      have c2 : w.cell? ⟨b, off + k * 3 + 2, none⟩ = some (.int .i64 (gsAt l k).since) := hx k 2 _ hlt rfl
      have hki : (0 : Int) ≤ (k : Int) ∧ (k : Int) < l.length := by omega
      have hcall := hp.out (gsAt l k) (by rw [gsAt_eq hlt]; exact List.getElem_mem hlt) g.x g.h
      rw [gsAt_eq hlt] at c0 c1 c2 hcall
      clear hx hc
      cases ht : p l[k]
      · rw [ht] at hcall
        have hH' : Hid (∀ j (hj : j < l.length), j < k + 1 → p l[j] = false) := fun j hj hjk => by
          rcases Nat.lt_succ_iff_lt_or_eq.1 hjk with h | rfl
          · exact hH.out j hj h
          · exact ht
        replace ht := Lib.hid ht
        replace hcall := Lib.hid hcall
        go_wp2_with ((with_reducible refine Calls.mono hcall.out ?_); rintro e w' ⟨rfl, hb'⟩; obtain ⟨g1, rfl⟩ := g.next hb')
        exact ⟨⟨k + 1, by omega, by go_num, hH', g1, rfl⟩, by simp [intOf]; omega⟩
      · rw [ht] at hcall
        have hany := Lib.hid (any_some hlt ht)
        replace ht := Lib.hid ht
        replace hcall := Lib.hid hcall
        go_wp2_with ((with_reducible refine Calls.mono hcall.out ?_); rintro e w' ⟨rfl, hb'⟩; obtain ⟨g1, rfl⟩ := g.next hb')
        go_ret
        exact ⟨k, rfl, ⟨fun _ => by omega, fun _ => hany.out⟩, g1.h⟩
    · have hany := Lib.hid (any_none fun j hj => hH.out j hj (by omega))
      go_wp2_with (fail)
      go_ret
      exact ⟨-1, rfl, ⟨(fun h => by rw [hany.out] at h; cases h), (fun h => by omega)⟩, g.h⟩

theorem containsGss (v : Value) (l : List Gs) (p : Gs → Bool) (nf : Nat) (nb : Array Value) (w : World) (hv : GssAt w v l) (en : ∀ args w, (callFunc nf args).run Try.prog w = .ok (.enter nf args) w)
    (hp : ∀ d, d ∈ l → ∀ X, Below w.heap.size w X → Calls Try.prog nf (#[gsV d] ++ nb) X fun e X' => e = .returned (.bool (p d)) ∧ Below X.heap.size X X') :
    Calls Try.prog 76 #[v, .func (.func nf) #[] nb] w (BoolB (l.any p) w) := by
  have hc := Lib.hid (indexGss v l p nf nb w hv en hp)
  obtain ⟨a, cap, rfl, -, -⟩ := hv
  clear hp
  cases ht : l.any p
  all_goals
    replace ht := Lib.hid ht
    go_enter Try.func76, Try.ntmps76
    go_wp2_with (go_at_call 94; refine Calls.mono hc.out ?_; rintro e w' ⟨n, rfl, hn, hb⟩; rw [ht.out] at hn; have hn' : Hid (_ ↔ (0 : Int) ≤ n) := hn; clear hn)
    go_ret
    refine ⟨_, rfl, ?_, hb⟩
    have := hn'.out
    simp at this
    show _ = _
    simp [this]

theorem dyAt_eq {l : List Dy} {j : Nat} (h : j < l.length) : dyAt l j = l[j] := by simp [dyAt, h]
set_option maxRecDepth 100000 in
set_option maxHeartbeats 2000000 in
theorem indexDys (v : Value) (l : List Dy) (p : Dy → Bool) (nf : Nat) (nb : Array Value) (w : World) (hv : DysAt w v l) (en : ∀ args w, (callFunc nf args).run Try.prog w = .ok (.enter nf args) w)
    (hp : ∀ d, d ∈ l → ∀ X, Below w.heap.size w X → Calls Try.prog nf (#[dyV d] ++ nb) X fun e X' => e = .returned (.bool (p d)) ∧ Below X.heap.size X X') :
    Calls Try.prog 89 #[v, .func (.func nf) #[] nb] w (FoundP (l.any p) w) := by
  obtain ⟨a, cap, rfl, hm, hc⟩ := hv.form
  clear hv
  replace hp := Lib.hid hp
  go_enter Try.func89, Try.ntmps89
  go_wp2_with (fail)
  have hg := grow_cell w
  go_loopw [8] (fun i wr => ∃ k : Nat, k ≤ l.length ∧ i = .int .i64 k ∧ Hid (∀ j (hj : j < l.length), j < k → p l[j] = false) ∧ ∃ g : Grow w, wr = g.x) (fun i _ => l.length - (intOf i).toNat)
  case atStart => exact ⟨0, by omega, rfl, (fun j _ h => by omega : ∀ j (hj : j < l.length), j < 0 → p l[j] = false), Grow.self w, rfl⟩
  case round =>
    obtain ⟨k, hk, rfl, hH, g, rfl⟩ := hrel
    by_cases hlt : k < l.length
    · obtain ⟨b, off, rfl, hbl, hx⟩ := hc (by omega)
      have c0 : w.cell? ⟨b, off + k * 3, none⟩ = some (.int .i64 (dyAt l k).flow) := hx k 0 _ hlt rfl
      have c1 : w.cell? ⟨b, off + k * 3 + 1, none⟩ = some (.bool (dyAt l k).reads) := hx k 1 _ hlt rfl
      have c2 : w.cell? ⟨b, off + k * 3 + 2, none⟩ = some (.int .i64 (dyAt l k).content) := hx k 2 _ hlt rfl
      have hki : (0 : Int) ≤ (k : Int) ∧ (k : Int) < l.length := by omega
      have hcall := hp.out (dyAt l k) (by rw [dyAt_eq hlt]; exact List.getElem_mem hlt) g.x g.h
      rw [dyAt_eq hlt] at c0 c1 c2 hcall
      clear hx hc
      cases ht : p l[k]
      · rw [ht] at hcall
        have hH' : Hid (∀ j (hj : j < l.length), j < k + 1 → p l[j] = false) := fun j hj hjk => by
          rcases Nat.lt_succ_iff_lt_or_eq.1 hjk with h | rfl
          · exact hH.out j hj h
          · exact ht
        replace ht := Lib.hid ht
        replace hcall := Lib.hid hcall
        go_wp2_with ((with_reducible refine Calls.mono hcall.out ?_); rintro e w' ⟨rfl, hb'⟩; obtain ⟨g1, rfl⟩ := g.next hb')
        exact ⟨⟨k + 1, by omega, by go_num, hH', g1, rfl⟩, by simp [intOf]; omega⟩
      · rw [ht] at hcall
        have hany := Lib.hid (any_some hlt ht)
        replace ht := Lib.hid ht
        replace hcall := Lib.hid hcall
        go_wp2_with ((with_reducible refine Calls.mono hcall.out ?_); rintro e w' ⟨rfl, hb'⟩; obtain ⟨g1, rfl⟩ := g.next hb')
        go_ret
        exact ⟨k, rfl, ⟨fun _ => by omega, fun _ => hany.out⟩, g1.h⟩
    · have hany := Lib.hid (any_none fun j hj => hH.out j hj (by omega))
      go_wp2_with (fail)
      go_ret
      exact ⟨-1, rfl, ⟨(fun h => by rw [hany.out] at h; cases h), (fun h => by omega)⟩, g.h⟩

theorem containsDys (v : Value) (l : List Dy) (p : Dy → Bool) (nf : Nat) (nb : Array Value) (w : World) (hv : DysAt w v l) (en : ∀ args w, (callFunc nf args).run Try.prog w = .ok (.enter nf args) w)
    (hp : ∀ d, d ∈ l → ∀ X, Below w.heap.size w X → Calls Try.prog nf (#[dyV d] ++ nb) X fun e X' => e = .returned (.bool (p d)) ∧ Below X.heap.size X X') :
    Calls Try.prog 61 #[v, .func (.func nf) #[] nb] w (BoolB (l.any p) w) := by
  have hc := Lib.hid (indexDys v l p nf nb w hv en hp)
  obtain ⟨a, cap, rfl, -, -⟩ := hv
  clear hp
  cases ht : l.any p
  all_goals
    replace ht := Lib.hid ht
    go_enter Try.func61, Try.ntmps61
    go_wp2_with (go_at_call 89; refine Calls.mono hc.out ?_; rintro e w' ⟨n, rfl, hn, hb⟩; rw [ht.out] at hn; have hn' : Hid (_ ↔ (0 : Int) ≤ n) := hn; clear hn)
    go_ret
    refine ⟨_, rfl, ?_, hb⟩
    have := hn'.out
    simp at this
    show _ = _
    simp [this]
end Go.Proofs.Ytddmfkhmhdddeaa
