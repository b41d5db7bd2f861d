/- Laws and walks: Bkc, Bkd, Bke, Bkf, Bkg. -/
import Derived.Laws.Cover3
import Derived.Test.YtpcamocnlnlgiaaGreatK10
set_option maxRecDepth 100000
set_option maxHeartbeats 16000000
set_option linter.unusedVariables false
set_option linter.unusedSimpArgs false
namespace Bk
structure Hr where
 (inn out fin fout : Int)
def hrAt (l : List Hr) (k : Nat) : Hr := l.getD k ⟨0, 0, 0, 0⟩
structure Nm where
 (con hour sent am : Int)
def nmAt (l : List Nm) (k : Nat) : Nm := l.getD k ⟨0, 0, 0, 0⟩
structure Td where
 (hour back frm to am : Int)
def tdAt (l : List Td) (k : Nat) : Td := l.getD k ⟨0, 0, 0, 0, 0⟩
end Bk
namespace Go.Proofs.YtpcamocnlnlgiaaGreat.B
open Go.RowKit Go.Sd Wl Bk L
attribute [local go_sem] Oper.semAt_some
abbrev hrVEn (p : Hr) : List Value := [.int .i64 p.inn, .int .i64 p.out, .int .i64 p.fin, .int .i64 p.fout]
abbrev hrV (p : Hr) : Value := .agg #[.int .i64 p.inn, .int .i64 p.out, .int .i64 p.fin, .int .i64 p.fout]
abbrev HrsAt (w : World) (x : Value) (xs : List Hr) : Prop := ElsAt 4 hrVEn ⟨0, 0, 0, 0⟩ w x xs
abbrev nmVEn (p : Nm) : List Value := [.int .i64 p.con, .int .i64 p.hour, .int .i64 p.sent, .int .i64 p.am]
abbrev nmV (p : Nm) : Value := .agg #[.int .i64 p.con, .int .i64 p.hour, .int .i64 p.sent, .int .i64 p.am]
abbrev NmsAt (w : World) (x : Value) (xs : List Nm) : Prop := ElsAt 4 nmVEn ⟨0, 0, 0, 0⟩ w x xs
abbrev tdVEn (p : Td) : List Value := [.int .i64 p.hour, .int .i64 p.back, .int .i64 p.frm, .int .i64 p.to, .int .i64 p.am]
abbrev tdV (p : Td) : Value := .agg #[.int .i64 p.hour, .int .i64 p.back, .int .i64 p.frm, .int .i64 p.to, .int .i64 p.am]
abbrev TdsAt (w : World) (x : Value) (xs : List Td) : Prop := ElsAt 5 tdVEn ⟨0, 0, 0, 0, 0⟩ w x xs
theorem hrAt_eq {l : List Hr} {j : Nat} (h : j < l.length) : hrAt l j = l[j] := by simp [hrAt, h]
theorem indexHrs (v : Value) (l : List Hr) (p : Hr → Bool) (nf : Nat) (nb : Array Value) (w : World) (hv : HrsAt w v l) (en : ∀ args w, (callFunc nf args).run Tryz.prog w = .ok (.enter nf args) w)
    (hp : ∀ d, d ∈ l → ∀ X, Below w.heap.size w X → Calls Tryz.prog nf (#[hrV d] ++ nb) X fun e X' => e = .returned (.bool (p d)) ∧ Below X.heap.size X X') :
    Calls Tryz.prog 104 #[v, .func (.func nf) #[] nb] w (FoundP (l.any p) w) := by
 obtain ⟨a, cap, rfl, hm, hc⟩ := hv.form
 clear hv
 replace hp := Lib.hid hp
 go_enter Tryz.func104, Tryz.ntmps104
 go_wp2_with (fail)
 have hg := grow_cell w
 go_loopw [8] (fun i wr => ∃ k : Nat, k ≤ l.length ∧ i = .int .i64 k ∧ Hid (∀ j (hj : j < l.length), j < k → p l[j] = false) ∧ ∃ g : Grow w, wr = g.x) (fun i _ => l.length - (intOf i).toNat)
 case atStart => exact ⟨0, by omega, rfl, (fun j _ h => by omega : ∀ j (hj : j < l.length), j < 0 → p l[j] = false), Grow.self w, rfl⟩
 case round =>
  obtain ⟨k, hk, rfl, hH, g, rfl⟩ := hrel
  by_cases hlt : k < l.length
  · obtain ⟨b, off, rfl, hbl, hx⟩ := hc (by omega)
    have c0 : w.cell? ⟨b, off + k * 4, none⟩ = some (.int .i64 (hrAt l k).inn) := hx k 0 _ hlt rfl
    have c1 : w.cell? ⟨b, off + k * 4 + 1, none⟩ = some (.int .i64 (hrAt l k).out) := hx k 1 _ hlt rfl
    have c2 : w.cell? ⟨b, off + k * 4 + 2, none⟩ = some (.int .i64 (hrAt l k).fin) := hx k 2 _ hlt rfl
    have c3 : w.cell? ⟨b, off + k * 4 + 3, none⟩ = some (.int .i64 (hrAt l k).fout) := hx k 3 _ hlt rfl
    have hki : (0 : Int) ≤ (k : Int) ∧ (k : Int) < l.length := by omega
    have hcall := hp.out (hrAt l k) (by rw [hrAt_eq hlt]; exact List.getElem_mem hlt) g.x g.h
    rw [hrAt_eq hlt] at c0 c1 c2 c3 hcall
    clear hx hc
    cases ht : p l[k]
    · rw [ht] at hcall
      have hH' : Hid (∀ j (hj : j < l.length), j < k + 1 → p l[j] = false) := fun j hj hjk => by
       rcases Nat.lt_succ_iff_lt_or_eq.1 hjk with h | rfl
       · exact hH.out j hj h
       · exact ht
      replace ht := Lib.hid ht
      replace hcall := Lib.hid hcall
      go_wp2_with ((with_reducible refine Calls.mono hcall.out ?_); rintro e w' ⟨rfl, hb'⟩; obtain ⟨g1, rfl⟩ := g.next hb')
      exact ⟨⟨k + 1, by omega, by go_num, hH', g1, rfl⟩, by simp [intOf]; omega⟩
    · rw [ht] at hcall
      have hany := Lib.hid (any_some hlt ht)
      replace ht := Lib.hid ht
      replace hcall := Lib.hid hcall
      go_wp2_with ((with_reducible refine Calls.mono hcall.out ?_); rintro e w' ⟨rfl, hb'⟩; obtain ⟨g1, rfl⟩ := g.next hb')
      go_ret
      exact ⟨k, rfl, ⟨fun _ => by omega, fun _ => hany.out⟩, g1.h⟩
  · have hany := Lib.hid (any_none fun j hj => hH.out j hj (by omega))
    go_wp2_with (fail)
    go_ret
    exact ⟨-1, rfl, ⟨(fun h => by rw [hany.out] at h; cases h), (fun h => by omega)⟩, g.h⟩
theorem containsHrs (v : Value) (l : List Hr) (p : Hr → Bool) (nf : Nat) (nb : Array Value) (w : World) (hv : HrsAt w v l) (en : ∀ args w, (callFunc nf args).run Tryz.prog w = .ok (.enter nf args) w)
    (hp : ∀ d, d ∈ l → ∀ X, Below w.heap.size w X → Calls Tryz.prog nf (#[hrV d] ++ nb) X fun e X' => e = .returned (.bool (p d)) ∧ Below X.heap.size X X') :
    Calls Tryz.prog 76 #[v, .func (.func nf) #[] nb] w (BoolB (l.any p) w) := by
 have hc := Lib.hid (indexHrs v l p nf nb w hv en hp)
 obtain ⟨a, cap, rfl, -, -⟩ := hv
 clear hp
 cases ht : l.any p
 all_goals
  replace ht := Lib.hid ht
  go_enter Tryz.func76, Tryz.ntmps76
  go_wp2_with (go_at_call 104; refine Calls.mono hc.out ?_; rintro e w' ⟨n, rfl, hn, hb⟩; rw [ht.out] at hn; have hn' : Hid (_ ↔ (0 : Int) ≤ n) := hn; clear hn)
  go_ret
  refine ⟨_, rfl, ?_, hb⟩
  have := hn'.out
  simp at this
  show _ = _
  simp [this]
theorem nmAt_eq {l : List Nm} {j : Nat} (h : j < l.length) : nmAt l j = l[j] := by simp [nmAt, h]
theorem indexNms (v : Value) (l : List Nm) (p : Nm → Bool) (nf : Nat) (nb : Array Value) (w : World) (hv : NmsAt w v l) (en : ∀ args w, (callFunc nf args).run Tryz.prog w = .ok (.enter nf args) w)
    (hp : ∀ d, d ∈ l → ∀ X, Below w.heap.size w X → Calls Tryz.prog nf (#[nmV d] ++ nb) X fun e X' => e = .returned (.bool (p d)) ∧ Below X.heap.size X X') :
    Calls Tryz.prog 134 #[v, .func (.func nf) #[] nb] w (FoundP (l.any p) w) := by
 obtain ⟨a, cap, rfl, hm, hc⟩ := hv.form
 clear hv
 replace hp := Lib.hid hp
 go_enter Tryz.func134, Tryz.ntmps134
 go_wp2_with (fail)
 have hg := grow_cell w
 go_loopw [8] (fun i wr => ∃ k : Nat, k ≤ l.length ∧ i = .int .i64 k ∧ Hid (∀ j (hj : j < l.length), j < k → p l[j] = false) ∧ ∃ g : Grow w, wr = g.x) (fun i _ => l.length - (intOf i).toNat)
 case atStart => exact ⟨0, by omega, rfl, (fun j _ h => by omega : ∀ j (hj : j < l.length), j < 0 → p l[j] = false), Grow.self w, rfl⟩
 case round =>
  obtain ⟨k, hk, rfl, hH, g, rfl⟩ := hrel
  by_cases hlt : k < l.length
  · obtain ⟨b, off, rfl, hbl, hx⟩ := hc (by omega)
    have c0 : w.cell? ⟨b, off + k * 4, none⟩ = some (.int .i64 (nmAt l k).con) := hx k 0 _ hlt rfl
    have c1 : w.cell? ⟨b, off + k * 4 + 1, none⟩ = some (.int .i64 (nmAt l k).hour) := hx k 1 _ hlt rfl
    have c2 : w.cell? ⟨b, off + k * 4 + 2, none⟩ = some (.int .i64 (nmAt l k).sent) := hx k 2 _ hlt rfl
    have c3 : w.cell? ⟨b, off + k * 4 + 3, none⟩ = some (.int .i64 (nmAt l k).am) := hx k 3 _ hlt rfl
    have hki : (0 : Int) ≤ (k : Int) ∧ (k : Int) < l.length := by omega
    have hcall := hp.out (nmAt l k) (by rw [nmAt_eq hlt]; exact List.getElem_mem hlt) g.x g.h
    rw [nmAt_eq hlt] at c0 c1 c2 c3 hcall
    clear hx hc
    cases ht : p l[k]
    · rw [ht] at hcall
      have hH' : Hid (∀ j (hj : j < l.length), j < k + 1 → p l[j] = false) := fun j hj hjk => by
       rcases Nat.lt_succ_iff_lt_or_eq.1 hjk with h | rfl
       · exact hH.out j hj h
       · exact ht
      replace ht := Lib.hid ht
      replace hcall := Lib.hid hcall
      go_wp2_with ((with_reducible refine Calls.mono hcall.out ?_); rintro e w' ⟨rfl, hb'⟩; obtain ⟨g1, rfl⟩ := g.next hb')
      exact ⟨⟨k + 1, by omega, by go_num, hH', g1, rfl⟩, by simp [intOf]; omega⟩
    · rw [ht] at hcall
      have hany := Lib.hid (any_some hlt ht)
      replace ht := Lib.hid ht
      replace hcall := Lib.hid hcall
      go_wp2_with ((with_reducible refine Calls.mono hcall.out ?_); rintro e w' ⟨rfl, hb'⟩; obtain ⟨g1, rfl⟩ := g.next hb')
      go_ret
      exact ⟨k, rfl, ⟨fun _ => by omega, fun _ => hany.out⟩, g1.h⟩
  · have hany := Lib.hid (any_none fun j hj => hH.out j hj (by omega))
    go_wp2_with (fail)
    go_ret
    exact ⟨-1, rfl, ⟨(fun h => by rw [hany.out] at h; cases h), (fun h => by omega)⟩, g.h⟩
theorem containsNms (v : Value) (l : List Nm) (p : Nm → Bool) (nf : Nat) (nb : Array Value) (w : World) (hv : NmsAt w v l) (en : ∀ args w, (callFunc nf args).run Tryz.prog w = .ok (.enter nf args) w)
    (hp : ∀ d, d ∈ l → ∀ X, Below w.heap.size w X → Calls Tryz.prog nf (#[nmV d] ++ nb) X fun e X' => e = .returned (.bool (p d)) ∧ Below X.heap.size X X') :
    Calls Tryz.prog 105 #[v, .func (.func nf) #[] nb] w (BoolB (l.any p) w) := by
 have hc := Lib.hid (indexNms v l p nf nb w hv en hp)
 obtain ⟨a, cap, rfl, -, -⟩ := hv
 clear hp
 cases ht : l.any p
 all_goals
  replace ht := Lib.hid ht
  go_enter Tryz.func105, Tryz.ntmps105
  go_wp2_with (go_at_call 134; refine Calls.mono hc.out ?_; rintro e w' ⟨n, rfl, hn, hb⟩; rw [ht.out] at hn; have hn' : Hid (_ ↔ (0 : Int) ≤ n) := hn; clear hn)
  go_ret
  refine ⟨_, rfl, ?_, hb⟩
  have := hn'.out
  simp at this
  show _ = _
  simp [this]
theorem tdAt_eq {l : List Td} {j : Nat} (h : j < l.length) : tdAt l j = l[j] := by simp [tdAt, h]
theorem indexTds (v : Value) (l : List Td) (p : Td → Bool) (nf : Nat) (nb : Array Value) (w : World) (hv : TdsAt w v l) (en : ∀ args w, (callFunc nf args).run Tryz.prog w = .ok (.enter nf args) w)
    (hp : ∀ d, d ∈ l → ∀ X, Below w.heap.size w X → Calls Tryz.prog nf (#[tdV d] ++ nb) X fun e X' => e = .returned (.bool (p d)) ∧ Below X.heap.size X X') :
    Calls Tryz.prog 107 #[v, .func (.func nf) #[] nb] w (FoundP (l.any p) w) := by
 obtain ⟨a, cap, rfl, hm, hc⟩ := hv.form
 clear hv
 replace hp := Lib.hid hp
 go_enter Tryz.func107, Tryz.ntmps107
 go_wp2_with (fail)
 have hg := grow_cell w
 go_loopw [8] (fun i wr => ∃ k : Nat, k ≤ l.length ∧ i = .int .i64 k ∧ Hid (∀ j (hj : j < l.length), j < k → p l[j] = false) ∧ ∃ g : Grow w, wr = g.x) (fun i _ => l.length - (intOf i).toNat)
 case atStart => exact ⟨0, by omega, rfl, (fun j _ h => by omega : ∀ j (hj : j < l.length), j < 0 → p l[j] = false), Grow.self w, rfl⟩
 case round =>
  obtain ⟨k, hk, rfl, hH, g, rfl⟩ := hrel
  by_cases hlt : k < l.length
  · obtain ⟨b, off, rfl, hbl, hx⟩ := hc (by omega)
    have c0 : w.cell? ⟨b, off + k * 5, none⟩ = some (.int .i64 (tdAt l k).hour) := hx k 0 _ hlt rfl
    have c1 : w.cell? ⟨b, off + k * 5 + 1, none⟩ = some (.int .i64 (tdAt l k).back) := hx k 1 _ hlt rfl
    have c2 : w.cell? ⟨b, off + k * 5 + 2, none⟩ = some (.int .i64 (tdAt l k).frm) := hx k 2 _ hlt rfl
    have c3 : w.cell? ⟨b, off + k * 5 + 3, none⟩ = some (.int .i64 (tdAt l k).to) := hx k 3 _ hlt rfl
    have c4 : w.cell? ⟨b, off + k * 5 + 4, none⟩ = some (.int .i64 (tdAt l k).am) := hx k 4 _ hlt rfl
    have hki : (0 : Int) ≤ (k : Int) ∧ (k : Int) < l.length := by omega
    have hcall := hp.out (tdAt l k) (by rw [tdAt_eq hlt]; exact List.getElem_mem hlt) g.x g.h
    rw [tdAt_eq hlt] at c0 c1 c2 c3 c4 hcall
    clear hx hc
    cases ht : p l[k]
    · rw [ht] at hcall
      have hH' : Hid (∀ j (hj : j < l.length), j < k + 1 → p l[j] = false) := fun j hj hjk => by
       rcases Nat.lt_succ_iff_lt_or_eq.1 hjk with h | rfl
       · exact hH.out j hj h
       · exact ht
      replace ht := Lib.hid ht
      replace hcall := Lib.hid hcall
      go_wp2_with ((with_reducible refine Calls.mono hcall.out ?_); rintro e w' ⟨rfl, hb'⟩; obtain ⟨g1, rfl⟩ := g.next hb')
      exact ⟨⟨k + 1, by omega, by go_num, hH', g1, rfl⟩, by simp [intOf]; omega⟩
    · rw [ht] at hcall
      have hany := Lib.hid (any_some hlt ht)
      replace ht := Lib.hid ht
      replace hcall := Lib.hid hcall
      go_wp2_with ((with_reducible refine Calls.mono hcall.out ?_); rintro e w' ⟨rfl, hb'⟩; obtain ⟨g1, rfl⟩ := g.next hb')
      go_ret
      exact ⟨k, rfl, ⟨fun _ => by omega, fun _ => hany.out⟩, g1.h⟩
  · have hany := Lib.hid (any_none fun j hj => hH.out j hj (by omega))
    go_wp2_with (fail)
    go_ret
    exact ⟨-1, rfl, ⟨(fun h => by rw [hany.out] at h; cases h), (fun h => by omega)⟩, g.h⟩
theorem containsTds (v : Value) (l : List Td) (p : Td → Bool) (nf : Nat) (nb : Array Value) (w : World) (hv : TdsAt w v l) (en : ∀ args w, (callFunc nf args).run Tryz.prog w = .ok (.enter nf args) w)
    (hp : ∀ d, d ∈ l → ∀ X, Below w.heap.size w X → Calls Tryz.prog nf (#[tdV d] ++ nb) X fun e X' => e = .returned (.bool (p d)) ∧ Below X.heap.size X X') :
    Calls Tryz.prog 79 #[v, .func (.func nf) #[] nb] w (BoolB (l.any p) w) := by
 have hc := Lib.hid (indexTds v l p nf nb w hv en hp)
 obtain ⟨a, cap, rfl, -, -⟩ := hv
 clear hp
 cases ht : l.any p
 all_goals
  replace ht := Lib.hid ht
  go_enter Tryz.func79, Tryz.ntmps79
  go_wp2_with (go_at_call 107; refine Calls.mono hc.out ?_; rintro e w' ⟨n, rfl, hn, hb⟩; rw [ht.out] at hn; have hn' : Hid (_ ↔ (0 : Int) ≤ n) := hn; clear hn)
  go_ret
  refine ⟨_, rfl, ?_, hb⟩
  have := hn'.out
  simp at this
  show _ = _
  simp [this]
end Go.Proofs.YtpcamocnlnlgiaaGreat.B
set_option linter.unusedVariables false
set_option linter.unusedSimpArgs false
namespace Bk
open Wl
def hrB (h : Hr) : Bool := muchB h.inn && muchB h.out && muchB h.fin && muchB h.fout
def nmB (m : Int) (n : Nm) : Bool := inB n.con 0 (m - 1) && inB n.hour 0 47 && inB n.sent 0 47 && inB n.am (-100000000) 100000000
end Bk
namespace Go.Proofs.YtpcamocnlnlgiaaGreat.B
open Go.RowKit Go.Sd Wl Bk L
attribute [local go_sem] Oper.semAt_some
theorem ints4 (w : World) (a b c d : Int) : IntsAt (w.alloc (.cells #[.int .i64 a, .int .i64 b, .int .i64 c, .int .i64 d] 3)) (.slice (some ⟨w.heap.size, 0, none⟩) 4 4) [a, b, c, d] := by
 refine ⟨_, 4, rfl, by simp [maxLen], fun _ => ⟨w.heap.size, 0, rfl, by simp, ?_⟩⟩
 have h := World.alloc_heap_new w (.cells #[.int .i64 a, .int .i64 b, .int .i64 c, .int .i64 d] 3)
 have r := (row_cells h).2.1
 intro k i u hk hu
 have hk' : k = 0 ∨ k = 1 ∨ k = 2 ∨ k = 3 := by
  have h5 : k < 4 := hk
  omega
 have hi := (List.getElem?_eq_some_iff.1 hu).1
 have hi' : i = 0 := by
  have h1 : i < 1 := hi
  omega
 subst hi'
 rw [r, ← hu]
 rcases hk' with rfl | rfl | rfl | rfl <;> rfl
theorem row4c {w : World} {n : Nat} {a0 a1 a2 a3 : Value} {e : TypeId} (h : w.heap[n]? = some (.cells #[a0, a1, a2, a3] e (0, 0))) : w.cell? ⟨n, 0, none⟩ = some a0 ∧ w.cell? ⟨n, 1, none⟩ = some a1 ∧ w.cell? ⟨n, 2, none⟩ = some a2 ∧ w.cell? ⟨n, 3, none⟩ = some a3 := by
 have r := (row_cells h).2.1
 exact ⟨r 0, r 1, r 2, r 3⟩
theorem row1c {w : World} {n : Nat} {a0 : Value} {e : TypeId} (h : w.heap[n]? = some (.cells #[a0] e (0, 0))) : w.cell? ⟨n, 0, none⟩ = some a0 := (row_cells h).2.1 0
theorem day1 (h : Hr) (w : World) : Calls Tryz.prog 77 #[hrV h] w fun e w' => e = .returned (.bool (!hrB h)) ∧ Below w.heap.size w w' := by
 obtain ⟨W, hW⟩ : ∃ W, w.alloc (.cells #[.int .i64 h.inn, .int .i64 h.out, .int .i64 h.fin, .int .i64 h.fout] 60) = W := ⟨_, rfl⟩
 obtain ⟨e, bW, z⟩ := boxedB hW
 obtain ⟨c0, c1, c2, c3⟩ := row4c e
 have kG := Lib.hid (bookGreat _ _ _ (ints4 W h.inn h.out h.fin h.fout))
 have hB := Lib.hid bW
 clear e bW
 go_enter Tryz.func77, Tryz.ntmps77
 go_wp2_with (go_at_call 72; (with_reducible refine Calls.mono kG.out ?_); rintro e w' ⟨t, rfl, ht, hb⟩)
 go_ret
 exact ⟨by unfold hrB; unfold Hid at ht; rw [← ht]; simp [Bool.and_assoc], below_tr hB.out (below_tr ((Below.refl _ _).alloc (Nat.le_refl _) _) hb)⟩
theorem nom1 (n : Nm) (m : Int) (hm : 0 ≤ m ∧ m ≤ 100) (b : Nat) (w : World) (hb : w.heap[b]? = some (.cells #[.int .i64 m] 3 (0, 0))) (hn : nmB m n = true) : Calls Tryz.prog 106 #[nmV n, .pointer (some ⟨b, 0, none⟩)] w fun e w' => e = .returned (.bool false) ∧ Below w.heap.size w w' := by
 obtain ⟨W, hW⟩ : ∃ W, w.alloc (.cells #[.int .i64 n.con, .int .i64 n.hour, .int .i64 n.sent, .int .i64 n.am] 62) = W := ⟨_, rfl⟩
 obtain ⟨e, bW, z⟩ := boxedB hW
 obtain ⟨c0, c1, c2, c3⟩ := row4c e
 have hbW := kept_block bW hb
 have m0 := row1c hbW
 have zb := (zqo hbW)
 have hB := Lib.hid bW
 unfold nmB at hn
 simp only [Bool.and_eq_true] at hn
 obtain ⟨⟨⟨h1, h2⟩, h3⟩, h4⟩ := hn
 have hw : IntKind.i64.wrap (m - 1) = m - 1 := IntWalk.i64_in _ (by omega)
 clear e bW hb hbW
 go_enter Tryz.func106, Tryz.ntmps106
 go_wp2_with (go_at_call 25; (with_reducible refine Calls.mono (bookInT (by assumption) _) ?_); rintro e w' ⟨rfl, rfl⟩)
 go_ret
 exact ⟨rfl, hB.out⟩
theorem bookNominated (l : List Nm) (v : Value) (m : Int) (hm : 0 ≤ m ∧ m ≤ 100) (w : World) (hv : NmsAt w v l) (hn : ∀ n, n ∈ l → nmB m n = true) : Calls Tryz.prog 78 #[v, .int .i64 m] w fun e w' => e = .returned (.bool true) ∧ Below w.heap.size w w' := by
 obtain ⟨W, hW⟩ : ∃ W, w.alloc (.cells #[.int .i64 m] 3) = W := ⟨_, rfl⟩
 obtain ⟨e, bW, z⟩ := boxedB hW
 have hany : (l.any fun _ => false) = false := by simp
 have kC : Hid (Calls Tryz.prog 105 #[v, .func (.func 106) #[] #[.pointer (some ⟨w.heap.size, 0, none⟩)]] W fun e w' => e = .returned (.bool false) ∧ Below W.heap.size W w') :=
  Lib.hid ((containsNms v l (fun _ => false) 106 #[.pointer (some ⟨w.heap.size, 0, none⟩)] W (hv.mono bW) (fun args w => by kernel_rfl) fun d hd X hX => nom1 d m hm _ X (kept_block hX e) (hn d hd)).mono fun e w' h => h.lit hany)
 have hB := Lib.hid bW
 obtain ⟨a, cap, rfl, -, -⟩ := hv
 clear e bW hany
 go_enter Tryz.func78, Tryz.ntmps78
 go_wp2_with (go_at_call 105; (with_reducible refine Calls.mono kC.out ?_); rintro e w' ⟨rfl, hb⟩)
 go_ret
 exact ⟨rfl, below_tr hB.out hb⟩
end Go.Proofs.YtpcamocnlnlgiaaGreat.B
set_option linter.unusedVariables false
set_option linter.unusedSimpArgs false
namespace Go.Proofs.YtpcamocnlnlgiaaGreat.B
open Go.RowKit Go.Sd Wl Bk L
attribute [local go_sem] Oper.semAt_some
abbrev dyV (hv nv tv : Value) : Value := .agg #[hv, nv, tv]
abbrev dyO (hv nv tv : Value) : Obj := .cells #[hv, nv, tv] 58
theorem bookDay (hs : List Hr) (ns : List Nm) (hv nv tv : Value) (m : Int) (hm : 0 ≤ m ∧ m ≤ 100) (w : World) (hh : HrsAt w hv hs) (hn : NmsAt w nv ns) (ht : TdsAt w tv []) (lh : hs.length ≤ 48) (ln : ns.length ≤ 200)
    (oh : ∀ h, h ∈ hs → hrB h = true) (on : ∀ n, n ∈ ns → nmB m n = true) : Calls Tryz.prog 46 #[dyV hv nv tv, .int .i64 m] w fun e w' => e = .returned (.bool true) ∧ Below w.heap.size w w' := by
 have ht0 := ht
 obtain ⟨ta, tcap, htv, -, -⟩ := ht0
 replace htv : tv = .slice ta 0 tcap := htv
 subst htv
 obtain ⟨W1, hW1⟩ : ∃ W, w.alloc (dyO hv nv (.slice ta 0 tcap)) = W := ⟨_, rfl⟩
 obtain ⟨e1, b1, z1⟩ := boxedB hW1
 obtain ⟨W, hW⟩ : ∃ W, W1.alloc (.cells #[.int .i64 m] 3) = W := ⟨_, rfl⟩
 obtain ⟨e2, b2, z2⟩ := boxedB hW
 have bW := below_tr b1 b2
 have e1' := Lib.hid (kept_block b2 e1)
 have e2' := Lib.hid e2
 obtain ⟨q0, q1, q2⟩ := row3b (kept_block b2 e1)
 have q3 := row1c e2
 have kH : Hid (Calls Tryz.prog 76 #[hv, .func (.func 77) #[] #[]] W fun e w' => e = .returned (.bool false) ∧ Below W.heap.size W w') :=
  Lib.hid ((containsHrs hv hs (fun h => !hrB h) 77 #[] W (hh.mono bW) (fun args w => by kernel_rfl) fun d hd X hX => day1 d X).mono fun e w' h => h.lit (List.any_eq_false.2 fun x hx => by simp [oh x hx]))
 have kN : Hid (∀ X, Below W.heap.size W X → Calls Tryz.prog 78 #[nv, .int .i64 m] X fun e w' => e = .returned (.bool true) ∧ Below X.heap.size X w') := Lib.hid fun X hX => bookNominated ns nv m hm X ((hn.mono bW).mono hX) on
 have kT : Hid (∀ X, Below W.heap.size W X → Calls Tryz.prog 79 #[.slice ta 0 tcap, .func (.func 80) #[] #[.pointer (some ⟨W1.heap.size, 0, none⟩)]] X fun e w' => e = .returned (.bool false) ∧ Below X.heap.size X w') :=
  Lib.hid fun X hX => ((containsTds _ [] (fun _ => false) 80 #[.pointer (some ⟨W1.heap.size, 0, none⟩)] X ((ht.mono bW).mono hX) (fun args w => by kernel_rfl) fun d hd => by cases hd).mono fun e w' h => h.lit rfl)
 have hB := Lib.hid bW
 have hrw : Hid (∀ X, Below W.heap.size W X → _) := Lib.hid fun X (hX : Below W.heap.size W X) => row3b (kept_block hX e1'.out)
 have hrx : Hid (∀ X, Below W.heap.size W X → _) := Lib.hid fun X (hX : Below W.heap.size W X) => row1c (kept_block hX e2'.out)
 obtain ⟨ha, hcap, rfl, hm1, -⟩ := hh
 obtain ⟨na, ncap, rfl, hm2, -⟩ := hn
 have l1 : (hs.length : Int) ≤ 48 := by omega
 have l2 : (ns.length : Int) ≤ 200 := by omega
 clear e1 e2 b1 b2 bW hm1 hm2 ht
 go_enter Tryz.func46, Tryz.ntmps46
 go_wp2_with (first | (go_at_call 76; (with_reducible refine Calls.mono kH.out ?_); rintro e w1 ⟨rfl, hB1⟩; obtain ⟨q0, q1, q2⟩ := hrw.out _ hB1; (have q3 := hrx.out _ hB1); have z3 := hB1.size) | (go_at_call 78; (with_reducible refine Calls.mono (kN.out _ hB1) ?_); rintro e w2 ⟨rfl, hB2⟩; (have hX2 := below_tr hB1 hB2); obtain ⟨q0, q1, q2⟩ := hrw.out _ hX2; (have q3 := hrx.out _ hX2); have z4 := hX2.size) | (go_at_call 79; (with_reducible refine Calls.mono (kT.out _ hX2) ?_); rintro e w3 ⟨rfl, hB3⟩))
 go_ret
 exact ⟨rfl, below_tr hB.out (below_tr hX2 hB3)⟩
end Go.Proofs.YtpcamocnlnlgiaaGreat.B
set_option linter.unusedVariables false
set_option linter.unusedSimpArgs false
namespace Bk
def sumTo (l : List Int) : Nat → Int
 | 0 => 0
 | k + 1 => sumTo l k + l.getD k 0
end Bk
namespace Go.Proofs.YtpcamocnlnlgiaaGreat.B
open Go.RowKit Go.Sd Wl Bk L
attribute [local go_sem] Oper.semAt_some
theorem ints_row {w : World} {a : Option Addr} {cap : Nat} {xs : List Int} (h : IntsAt w (.slice a xs.length cap) xs) (h0 : 0 < xs.length) : ∃ b off, a = some ⟨b, off, none⟩ ∧ b < w.heap.size ∧ ∀ k, k < xs.length → w.cell? ⟨b, off + k, none⟩ = some (.int .i64 (xs.getD k 0)) := by
 obtain ⟨a', cap', he, hm, hc⟩ := h
 cases he
 obtain ⟨b, off, rfl, hlt, hx⟩ := hc h0
 refine ⟨b, off, rfl, hlt, fun k hk => ?_⟩
 have h := hx k 0 (.int .i64 (xs.getD k 0)) hk rfl
 rwa [Nat.mul_one, Nat.add_zero] at h
theorem bookSum (l : List Int) (v : Value) (w : World) (hv : IntsAt w v l) (hb : ∀ k, k ≤ l.length → -1000000000000 ≤ sumTo l k ∧ sumTo l k ≤ 1000000000000) : Calls Tryz.prog 114 #[v] w fun e w' => e = .returned (.int .i64 (sumTo l l.length)) ∧ w' = w := by
 have hv0 := hv
 obtain ⟨a, cap, rfl, hm, -⟩ := hv0
 unfold maxLen at hm
 have hrow : Hid (0 < l.length → _) := Lib.hid (ints_row hv)
 clear hv
 go_enter Tryz.func114, Tryz.ntmps114
 go_wp2_with (fail)
 go_loopw [8, 3] (fun i s wr => ∃ k : Nat, k ≤ l.length ∧ i = .int .i64 k ∧ s = .int .i64 (sumTo l k) ∧ wr = w) (fun i _ _ => l.length - (intOf i).toNat)
 case atStart => exact ⟨0, by omega, rfl, rfl, by first | rfl | trivial⟩
 case round =>
  obtain ⟨k, hk, rfl, rfl, rfl⟩ := hrel
  by_cases hlt : k < l.length
  · obtain ⟨b, off, rfl, hbl, hx⟩ := hrow.out (by omega)
    have c0 := hx k hlt
    have hki : (0 : Int) ≤ (k : Int) ∧ (k : Int) < l.length := by omega
    have hs : Hid (sumTo l (k + 1) = sumTo l k + l.getD k 0) := rfl
    have bd := hb (k + 1) hlt
    rw [hs.out] at bd
    have hw : IntKind.i64.wrap (sumTo l k + l.getD k 0) = sumTo l k + l.getD k 0 := IntWalk.i64_in _ (by omega)
    obtain ⟨y, hy⟩ : ∃ y, l.getD k 0 = y := ⟨_, rfl⟩
    rw [hy] at c0 hw hs
    clear hx bd hy
    go_wp2_with (fail)
    exact ⟨⟨k + 1, by omega, by go_num, by rw [hs.out], by first | rfl | trivial⟩, by simp [intOf]; omega⟩
  · obtain rfl : k = l.length := by omega
    go_wp2_with (fail)
    go_ret
    exact ⟨rfl, rfl⟩
end Go.Proofs.YtpcamocnlnlgiaaGreat.B
set_option linter.unusedVariables false
set_option linter.unusedSimpArgs false
namespace Go.Proofs.YtpcamocnlnlgiaaGreat.B
open Go.RowKit Go.Sd Wl Bk L
attribute [local go_sem] Oper.semAt_some
abbrev One (B : Nat) (w : World) (v : Value) (x : Int) : Prop := QAt B w v [x]
theorem One.form {B : Nat} {w : World} {v : Value} {x : Int} (h : One B w v x) : ∃ g off cap, v = .slice (some ⟨g, off, none⟩) 1 cap ∧ B ≤ g ∧ g < w.heap.size ∧ 1 ≤ cap ∧ cap ≤ maxLen ∧ w.cell? ⟨g, off, none⟩ = some (.int .i64 x) ∧ w.frozen? ⟨g, off, none⟩ = false := by
 rcases h with ⟨-, h⟩ | ⟨g, off, cap, cur, rfl, hB, hg, h1, h2, h3, h4⟩
 · cases h
 · refine ⟨g, off, cap, rfl, hB, (zqo hg), h1, h2, ?_, frozen_of_row w g off cur _ hg⟩
   have := h4 0 (by simp)
   rw [cell_of_row w g off cur _ (0, 0) hg]
   simpa using this
theorem One.ints {B : Nat} {w : World} {v : Value} {x : Int} (h : One B w v x) : IntsAt w v [x] := by
 obtain ⟨g, off, cap, rfl, hB, hg, h1, h2, hc, hf⟩ := h.form
 refine ⟨some ⟨g, off, none⟩, cap, rfl, by unfold maxLen; simp, fun _ => ⟨g, off, rfl, hg, fun k i u hk hu => ?_⟩⟩
 obtain rfl : k = 0 := by simp at hk; omega
 cases i with
 | zero => simp only [List.getD_cons_zero, List.getElem?_cons_zero, Option.some.injEq] at hu; subst hu; simpa using hc
 | succ i => simp at hu
theorem One.up {B C : Nat} {w : World} {v : Value} {x : Int} (h : One C w v x) (hB : B ≤ C) : One B w v x := by
 rcases h with h | ⟨g, off, cap, cur, e, hC, r⟩
 · exact .inl h
 · exact .inr ⟨g, off, cap, cur, e, by omega, r⟩
theorem One.set {B : Nat} {w : World} {g off n cap : Nat} {x : Int} (h : One B w (.slice (some ⟨g, off, none⟩) n cap) x) (y : Int) : One B (w.setCell ⟨g, off, none⟩ (.int .i64 y)) (.slice (some ⟨g, off, none⟩) n cap) y := by
 rcases h with ⟨h, -⟩ | ⟨g', off', cap', cur, e, hB, hg, h1, h2, h3, h4⟩
 · cases h
 · simp only [Value.slice.injEq, Option.some.injEq, Addr.mk.injEq] at e
   obtain ⟨⟨rfl, rfl, -⟩, rfl, rfl⟩ := e
   refine .inr ⟨g, off, cap, cur.setIfInBounds off (.int .i64 y), rfl, hB, row_set hg off _, h1, h2, by simpa using h3, fun k hk => ?_⟩
   obtain rfl : k = 0 := by simp at hk; omega
   simp only [List.length_cons, List.length_nil] at h1
   rw [Nat.add_zero, Array.getElem?_setIfInBounds_self_of_lt (by omega)]
   rfl
theorem eql_nilI (w : World) (a : Option Addr) (l c : Nat) : (binOp .eql 41 (.slice a l c) (.slice none 0 0)).run Tryz.prog w = .ok (.bool a.isNone) w := by
 simp only [binOp]
 simp [run_equal_slice_nil w _ _ a l c Tryz.underlying41]
theorem eql_nilT (w : World) (a : Option Addr) (l c : Nat) : (binOp .eql 56 (.slice a l c) (.slice none 0 0)).run Tryz.prog w = .ok (.bool a.isNone) w := by
 simp only [binOp]
 simp [run_equal_slice_nil w _ _ a l c Tryz.underlying56]
attribute [local go_sem] eql_nilI eql_nilT
theorem clone1 (B : Nat) (v : Value) (x : Int) (w : World) (h : One B w v x) : Calls Tryz.prog 82 #[v] w fun e w' => ∃ v', e = .returned v' ∧ One w.heap.size w' v' x ∧ Below w.heap.size w w' := by
 obtain ⟨g, off, cap, rfl, hB, hg, h1, h2, hc, hf⟩ := h.form
 obtain ⟨W, hW⟩ : ∃ W, w.alloc (.cells #[] 3) = W := ⟨_, rfl⟩
 obtain ⟨eW, bW, zW⟩ := boxedB hW
 have hc2 := kept_cell bW hc
 obtain ⟨i0, hi, hz0, hz1, hz2⟩ := info_parts infoI
 unfold maxLen at h2
 obtain ⟨v', w', hrun, r1, r2⟩ := run_append_arg_grows (P := Tryz.prog) W 41 41 3 i0 _ 1 8 Tryz.underlying41 hi hz0 hz1 hz2 rfl (by decide) ⟨w.heap.size, 0, none⟩ 0 0 [] (by simp) (by simp) ⟨g, off, none⟩ 1 cap [.int .i64 x] (by simp)
  (by
   intro j u hj
   cases j with
   | zero => simp only [List.getElem?_cons_zero, Option.some.injEq] at hj; subst hj; exact hc2
   | succ j => simp at hj) (by omega) (by unfold maxLen; omega) (by omega)
 have hfin : One w.heap.size w' v' x ∧ Below w.heap.size w w' := ⟨One.up (QAt.of_own (by simpa using r1)) (Nat.le_of_lt zW), below_tr bW ⟨r2.os, r2.tape, r2.output, r2.size, fun k hk => r2.block k hk (Option.some_ne_none k)⟩⟩
 replace hfin := Lib.hid hfin
 clear h r1 r2 eW bW
 go_enter Tryz.func82, Tryz.ntmps82
 go_wp2_with (at_builtin; refine wpList_app_run (by rfl) _ _ _ (by rfl) (by rfl) (by rfl) hrun ?_)
 go_ret
 exact ⟨v', rfl, hfin.out⟩
theorem cloneNil (w : World) : Calls Tryz.prog 83 #[.slice none 0 0] w fun e w' => e = .returned (.slice none 0 0) ∧ w' = w := by
 go_enter Tryz.func83, Tryz.ntmps83
 go_wp2_with (fail)
 go_ret
 exact ⟨rfl, rfl⟩
theorem app_nil (B : Nat) (w : World) (y : Int) (vb c : Nat) (hB : B ≤ w.heap.size) (hy : w.cell? ⟨vb, 0, none⟩ = some (.int .i64 y)) :
    ∃ v' w', (Builtin.append_ #[41, 41] 41 #[.slice none 0 0, .slice (some ⟨vb, 0, none⟩) 1 c]).run Tryz.prog w = .ok v' w' ∧ One w.heap.size w' v' y ∧ Below w.heap.size w w' := by
 obtain ⟨v', w', hrun, h1, h2, h3⟩ := run_q_more w.heap.size 41 w (.slice none 0 0) [] y vb c (QAt.nil _ _) (by simp) (Nat.le_refl _) hy
 exact ⟨v', w', hrun, h1, h2.below (Nat.le_refl _) fun k _ => by simp [Value.ownBlock]⟩
theorem wp_at (W : World) {P : Program} {ops : Array Oper} {Q : Exit → Act → World → Prop} {l : List Oper} {a : Act} (h : wpList P ops Q l a W) : wpList P ops Q l a W := h
theorem sides1 (v : Value) (x : Int) (hx : -1000 ≤ x ∧ x ≤ 1000) (w : World) (h : IntsAt w v [x]) : Calls Tryz.prog 113 #[v] w fun e w' => ∃ va vb, e = .returned (.tuple #[va, vb]) ∧ One w.heap.size w' va (max 0 x) ∧ One w.heap.size w' vb (max 0 (-x)) ∧ Below w.heap.size w w' := by
 have h0 := h
 obtain ⟨a, cap, rfl, hm, -⟩ := h0
 obtain ⟨b, off, rfl, hlt, hc⟩ := ints_row h (by simp)
 have c0 := hc 0 (by simp)
 simp only [Nat.add_zero, List.getD_cons_zero] at c0
 obtain ⟨W1, hW1⟩ : ∃ W, w.alloc (.cells #[.int .i64 (max 0 x)] 3) = W := ⟨_, rfl⟩
 obtain ⟨e1, b1, z1⟩ := boxedB hW1
 obtain ⟨va, V1, hr1, o1, k1⟩ := app_nil W1.heap.size W1 (max 0 x) w.heap.size 1 (Nat.le_refl _) (row1c e1)
 obtain ⟨W2, hW2⟩ : ∃ W, V1.alloc (.cells #[.int .i64 (max 0 (-x))] 3) = W := ⟨_, rfl⟩
 obtain ⟨e2, b2, z2⟩ := boxedB hW2
 obtain ⟨vb, V2, hr2, o2, k2⟩ := app_nil W2.heap.size W2 (max 0 (-x)) V1.heap.size 1 (Nat.le_refl _) (row1c e2)
 have hb1 := below_tr b1 k1
 have hb2 := below_tr hb1 b2
 have hb3 := below_tr hb2 k2
 have hfin : One w.heap.size V2 va (max 0 x) ∧ One w.heap.size V2 vb (max 0 (-x)) ∧ Below w.heap.size w V2 := ⟨((o1.up b1.size).mono b2).mono k2, o2.up hb2.size, hb3⟩
 have hx1 : IntKind.i64.wrap (-x) = -x := IntWalk.i64_in _ (by omega)
 have hm0 : (if 0 < x then x else 0) = max 0 x := by omega
 have hm1 : (if x < 0 then -x else 0) = max 0 (-x) := by omega
 obtain ⟨va1, va2, rfl⟩ := o1.slice
 obtain ⟨vb1, vb2, rfl⟩ := o2.slice
 replace hfin := Lib.hid hfin
 clear e1 b1 o1 k1 e2 b2 o2 k2 hb1 hb2 hb3 h hc hm
 go_enter Tryz.func113, Tryz.ntmps113
 go_wp2_with (fail)
 go_loopw [10, 4, 5] (fun i p q wr => (i = .int .i64 0 ∧ p = .slice none 0 0 ∧ q = .slice none 0 0 ∧ wr = w) ∨ (i = .int .i64 1 ∧ p = .slice va1 [max 0 x].length va2 ∧ q = .slice vb1 [max 0 (-x)].length vb2 ∧ wr = V2)) (fun i _ _ _ => (1 - intOf i).toNat)
 case atStart => exact .inl ⟨rfl, rfl, rfl, by first | rfl | trivial⟩
 case round =>
  rcases hrel with ⟨rfl, rfl, rfl, rfl⟩ | ⟨rfl, rfl, rfl, rfl⟩
  · go_wp2_with (first | (at_builtin; (with_reducible refine wp_at W1 ?_); refine wpList_app_run (by rfl) _ _ _ (by rfl) (by rfl) (by rfl) hr1 ?_) | (at_builtin; (with_reducible refine wp_at W2 ?_); refine wpList_app_run (by rfl) _ _ _ (by rfl) (by rfl) (by rfl) hr2 ?_))
    exact ⟨.inr ⟨by go_num, by first | rfl | trivial, by first | rfl | trivial, by first | rfl | trivial⟩, by simp [intOf]⟩
  · go_wp2_with (fail)
    go_ret2
    exact ⟨_, _, rfl, hfin.out⟩
end Go.Proofs.YtpcamocnlnlgiaaGreat.B
