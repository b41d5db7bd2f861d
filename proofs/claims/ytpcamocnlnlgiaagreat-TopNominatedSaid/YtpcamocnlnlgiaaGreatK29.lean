/- Laws and walks: SV1, SV3. -/
import Derived.Test.YtpcamocnlnlgiaaGreatK28
set_option maxRecDepth 100000
set_option maxHeartbeats 16000000
set_option linter.unusedVariables false
set_option linter.unusedSimpArgs false
namespace Go.Proofs.YtpcamocnlnlgiaaGreat.S
open Go.RowKit Go.Sd
theorem spanB_false {a b l h : Int} (hn : ¬ (l ≤ a ∧ a ≤ b ∧ b ≤ h)) : Sea.spanB a b l h = false := by
 cases hs : Sea.spanB a b l h
 · rfl
 · exact absurd (Sea.spanB_iff.1 hs) hn
theorem progSpan (lo hi a b : Int) (w : World) :
    Calls Tryz.prog 62 #[.agg #[.int .i64 lo, .int .i64 hi], .int .i64 a, .int .i64 b] w fun e w' => e = .returned (.bool (Sea.spanB lo hi a b)) ∧ Below w.heap.size w w' := by
 by_cases h1 : a ≤ lo
 · by_cases h2 : lo ≤ hi
   · by_cases h3 : hi ≤ b
     · have hf : Hid (Sea.spanB lo hi a b = true) := Sea.spanB_iff.2 ⟨h1, h2, h3⟩
       go_enter Tryz.func62, Tryz.ntmps62
       go_wp2
       go_ret
       exact ⟨bool_ret (by rw [hf.out]), (Below.refl _ _).alloc (Nat.le_refl _) _⟩
     · have hf : Hid (Sea.spanB lo hi a b = false) := spanB_false (by omega)
       have h3' : b < hi := by omega
       go_enter Tryz.func62, Tryz.ntmps62
       go_wp2
       go_ret
       exact ⟨bool_ret (by rw [hf.out]), (Below.refl _ _).alloc (Nat.le_refl _) _⟩
   · have hf : Hid (Sea.spanB lo hi a b = false) := spanB_false (by omega)
     have h2' : hi < lo := by omega
     go_enter Tryz.func62, Tryz.ntmps62
     go_wp2
     go_ret
     exact ⟨bool_ret hf.out.symm, (Below.refl _ _).alloc (Nat.le_refl _) _⟩
 · have hf : Hid (Sea.spanB lo hi a b = false) := spanB_false (by omega)
   have h1' : lo < a := by omega
   go_enter Tryz.func62, Tryz.ntmps62
   go_wp2
   go_ret
   exact ⟨bool_ret hf.out.symm, (Below.refl _ _).alloc (Nat.le_refl _) _⟩
abbrev dayV (d : Sea.Day) : Value := .agg #[.int .i64 d.buy, .int .i64 d.sell, .int .i64 d.offer, .int .i64 d.take, .int .i64 d.glo, .int .i64 d.ghi, .int .i64 d.nlo, .int .i64 d.nhi]
abbrev dayO (d : Sea.Day) : Obj := .cells #[.int .i64 d.buy, .int .i64 d.sell, .int .i64 d.offer, .int .i64 d.take, .int .i64 d.glo, .int .i64 d.ghi, .int .i64 d.nlo, .int .i64 d.nhi] 39
theorem progDay (space : Int) (d : Sea.Day) (w : World) (b : Nat) (c0 : w.cell? ⟨b, 0, none⟩ = some (.int .i64 space)) :
    Calls Tryz.prog 61 #[dayV d, .pointer (some ⟨b, 0, none⟩)] w fun e w' => e = .returned (.bool (Sea.dayB space d)) ∧ Below w.heap.size w w' := by
 have hb0 := World.block_lt_of_cell? w ⟨b, 0, none⟩ c0
 simp only at hb0
 obtain ⟨r, hr⟩ : ∃ r, Sea.dayB space d = r := ⟨_, rfl⟩
 rw [hr]
 unfold Sea.dayB at hr
 have hc1 := fun w1 => progIn d.buy 0 1000000 w1
 have hc2 := fun w1 => progIn d.sell 0 1000000 w1
 have hc3 := fun w1 => progIn d.offer 0 100 w1
 have hc4 := fun w1 => progIn d.take 0 100 w1
 have hc5 := fun w1 => progSpan d.glo d.ghi 0 space w1
 have hc6 := fun w1 => progSpan d.nlo d.nhi (-100) 100 w1
 generalize Sea.inB d.buy 0 1000000 = t1 at hr hc1
 generalize Sea.inB d.sell 0 1000000 = t2 at hr hc2
 generalize Sea.inB d.offer 0 100 = t3 at hr hc3
 generalize Sea.inB d.take 0 100 = t4 at hr hc4
 generalize Sea.spanB d.glo d.ghi 0 space = t5 at hr hc5
 generalize Sea.spanB d.nlo d.nhi (-100) 100 = t6 at hr hc6
 replace hr := Lib.hid hr
 have hg := grow_cell (w.alloc (dayO d))
 have hBw : Below w.heap.size w (w.alloc (dayO d)) := (Below.refl _ _).alloc (Nat.le_refl _) _
 cases t1
 · skip
   go_enter Tryz.func61, Tryz.ntmps61
   go_wp2_with (first | (go_at_call 39; ((with_reducible refine (hc1 _).mono ?_); rintro e w' ⟨rfl, rfl⟩)) | (go_at_call 39; ((with_reducible refine (hc2 _).mono ?_); rintro e w' ⟨rfl, rfl⟩)) | (go_at_call 39; ((with_reducible refine (hc3 _).mono ?_); rintro e w' ⟨rfl, rfl⟩)) | (go_at_call 39; ((with_reducible refine (hc4 _).mono ?_); rintro e w' ⟨rfl, rfl⟩)) | (go_at_call 62; ((with_reducible refine (hc5 _).mono ?_); rintro e w' ⟨rfl, hbA⟩; obtain ⟨g1, rfl⟩ : ∃ g1 : Grow (w.alloc (dayO d)), w' = g1.x := ⟨⟨w', hbA⟩, rfl⟩)) | (go_at_call 62; ((with_reducible refine (hc6 _).mono ?_); rintro e w' ⟨rfl, hbA⟩; obtain ⟨g2, rfl⟩ := g1.next hbA)))
   go_ret
   exact ⟨bool_ret (by rw [← hr.out]; simp), hBw⟩
 · skip
   cases t2
   · skip
     go_enter Tryz.func61, Tryz.ntmps61
     go_wp2_with (first | (go_at_call 39; ((with_reducible refine (hc1 _).mono ?_); rintro e w' ⟨rfl, rfl⟩)) | (go_at_call 39; ((with_reducible refine (hc2 _).mono ?_); rintro e w' ⟨rfl, rfl⟩)) | (go_at_call 39; ((with_reducible refine (hc3 _).mono ?_); rintro e w' ⟨rfl, rfl⟩)) | (go_at_call 39; ((with_reducible refine (hc4 _).mono ?_); rintro e w' ⟨rfl, rfl⟩)) | (go_at_call 62; ((with_reducible refine (hc5 _).mono ?_); rintro e w' ⟨rfl, hbA⟩; obtain ⟨g1, rfl⟩ : ∃ g1 : Grow (w.alloc (dayO d)), w' = g1.x := ⟨⟨w', hbA⟩, rfl⟩)) | (go_at_call 62; ((with_reducible refine (hc6 _).mono ?_); rintro e w' ⟨rfl, hbA⟩; obtain ⟨g2, rfl⟩ := g1.next hbA)))
     go_ret
     exact ⟨bool_ret (by rw [← hr.out]; simp), hBw⟩
   · skip
     cases t3
     · skip
       go_enter Tryz.func61, Tryz.ntmps61
       go_wp2_with (first | (go_at_call 39; ((with_reducible refine (hc1 _).mono ?_); rintro e w' ⟨rfl, rfl⟩)) | (go_at_call 39; ((with_reducible refine (hc2 _).mono ?_); rintro e w' ⟨rfl, rfl⟩)) | (go_at_call 39; ((with_reducible refine (hc3 _).mono ?_); rintro e w' ⟨rfl, rfl⟩)) | (go_at_call 39; ((with_reducible refine (hc4 _).mono ?_); rintro e w' ⟨rfl, rfl⟩)) | (go_at_call 62; ((with_reducible refine (hc5 _).mono ?_); rintro e w' ⟨rfl, hbA⟩; obtain ⟨g1, rfl⟩ : ∃ g1 : Grow (w.alloc (dayO d)), w' = g1.x := ⟨⟨w', hbA⟩, rfl⟩)) | (go_at_call 62; ((with_reducible refine (hc6 _).mono ?_); rintro e w' ⟨rfl, hbA⟩; obtain ⟨g2, rfl⟩ := g1.next hbA)))
       go_ret
       exact ⟨bool_ret (by rw [← hr.out]; simp), hBw⟩
     · skip
       cases t4
       · skip
         go_enter Tryz.func61, Tryz.ntmps61
         go_wp2_with (first | (go_at_call 39; ((with_reducible refine (hc1 _).mono ?_); rintro e w' ⟨rfl, rfl⟩)) | (go_at_call 39; ((with_reducible refine (hc2 _).mono ?_); rintro e w' ⟨rfl, rfl⟩)) | (go_at_call 39; ((with_reducible refine (hc3 _).mono ?_); rintro e w' ⟨rfl, rfl⟩)) | (go_at_call 39; ((with_reducible refine (hc4 _).mono ?_); rintro e w' ⟨rfl, rfl⟩)) | (go_at_call 62; ((with_reducible refine (hc5 _).mono ?_); rintro e w' ⟨rfl, hbA⟩; obtain ⟨g1, rfl⟩ : ∃ g1 : Grow (w.alloc (dayO d)), w' = g1.x := ⟨⟨w', hbA⟩, rfl⟩)) | (go_at_call 62; ((with_reducible refine (hc6 _).mono ?_); rintro e w' ⟨rfl, hbA⟩; obtain ⟨g2, rfl⟩ := g1.next hbA)))
         go_ret
         exact ⟨bool_ret (by rw [← hr.out]; simp), hBw⟩
       · skip
         cases t5
         · skip
           go_enter Tryz.func61, Tryz.ntmps61
           go_wp2_with (first | (go_at_call 39; ((with_reducible refine (hc1 _).mono ?_); rintro e w' ⟨rfl, rfl⟩)) | (go_at_call 39; ((with_reducible refine (hc2 _).mono ?_); rintro e w' ⟨rfl, rfl⟩)) | (go_at_call 39; ((with_reducible refine (hc3 _).mono ?_); rintro e w' ⟨rfl, rfl⟩)) | (go_at_call 39; ((with_reducible refine (hc4 _).mono ?_); rintro e w' ⟨rfl, rfl⟩)) | (go_at_call 62; ((with_reducible refine (hc5 _).mono ?_); rintro e w' ⟨rfl, hbA⟩; obtain ⟨g1, rfl⟩ : ∃ g1 : Grow (w.alloc (dayO d)), w' = g1.x := ⟨⟨w', hbA⟩, rfl⟩)) | (go_at_call 62; ((with_reducible refine (hc6 _).mono ?_); rintro e w' ⟨rfl, hbA⟩; obtain ⟨g2, rfl⟩ := g1.next hbA)))
           go_ret
           exact ⟨bool_ret (by rw [← hr.out]; simp), hBw.trans (g1.h.mono hBw.size)⟩
         · skip
           cases t6
           · skip
             go_enter Tryz.func61, Tryz.ntmps61
             go_wp2_with (first | (go_at_call 39; ((with_reducible refine (hc1 _).mono ?_); rintro e w' ⟨rfl, rfl⟩)) | (go_at_call 39; ((with_reducible refine (hc2 _).mono ?_); rintro e w' ⟨rfl, rfl⟩)) | (go_at_call 39; ((with_reducible refine (hc3 _).mono ?_); rintro e w' ⟨rfl, rfl⟩)) | (go_at_call 39; ((with_reducible refine (hc4 _).mono ?_); rintro e w' ⟨rfl, rfl⟩)) | (go_at_call 62; ((with_reducible refine (hc5 _).mono ?_); rintro e w' ⟨rfl, hbA⟩; obtain ⟨g1, rfl⟩ : ∃ g1 : Grow (w.alloc (dayO d)), w' = g1.x := ⟨⟨w', hbA⟩, rfl⟩)) | (go_at_call 62; ((with_reducible refine (hc6 _).mono ?_); rintro e w' ⟨rfl, hbA⟩; obtain ⟨g2, rfl⟩ := g1.next hbA)))
             go_ret
             exact ⟨bool_ret (by rw [← hr.out]; simp), hBw.trans (g2.h.mono hBw.size)⟩
           · skip
             go_enter Tryz.func61, Tryz.ntmps61
             go_wp2_with (first | (go_at_call 39; ((with_reducible refine (hc1 _).mono ?_); rintro e w' ⟨rfl, rfl⟩)) | (go_at_call 39; ((with_reducible refine (hc2 _).mono ?_); rintro e w' ⟨rfl, rfl⟩)) | (go_at_call 39; ((with_reducible refine (hc3 _).mono ?_); rintro e w' ⟨rfl, rfl⟩)) | (go_at_call 39; ((with_reducible refine (hc4 _).mono ?_); rintro e w' ⟨rfl, rfl⟩)) | (go_at_call 62; ((with_reducible refine (hc5 _).mono ?_); rintro e w' ⟨rfl, hbA⟩; obtain ⟨g1, rfl⟩ : ∃ g1 : Grow (w.alloc (dayO d)), w' = g1.x := ⟨⟨w', hbA⟩, rfl⟩)) | (go_at_call 62; ((with_reducible refine (hc6 _).mono ?_); rintro e w' ⟨rfl, hbA⟩; obtain ⟨g2, rfl⟩ := g1.next hbA)))
             go_ret
             exact ⟨bool_ret (by rw [← hr.out]; simp), hBw.trans (g2.h.mono hBw.size)⟩
theorem enter_day : ∀ (args : Array Value) (w : World), (callFunc 61 args).run Tryz.prog w = .ok (.enter 61 args) w := fun _ _ => by kernel_rfl
theorem progDayNot (space : Int) (d : Sea.Day) (w : World) (b bd : Nat) (c0 : w.cell? ⟨b, 0, none⟩ = some (.int .i64 space)) (c1 : w.cell? ⟨bd, 0, none⟩ = some (.func (.func 61) #[] #[.pointer (some ⟨b, 0, none⟩)])) :
    Calls Tryz.prog 64 #[dayV d, .pointer (some ⟨bd, 0, none⟩)] w fun e w' => e = .returned (.bool (!Sea.dayB space d)) ∧ Below w.heap.size w w' := by
 have hen := enter_day
 have hb0 := World.block_lt_of_cell? w ⟨b, 0, none⟩ c0
 have hb1 := World.block_lt_of_cell? w ⟨bd, 0, none⟩ c1
 simp only at hb0 hb1
 have hBw : Below w.heap.size w (w.alloc (dayO d)) := (Below.refl _ _).alloc (Nat.le_refl _) _
 go_enter Tryz.func64, Tryz.ntmps64
 go_wp2_with (go_at_call 61; refine (progDay space d _ b (kept_cell hBw c0)).mono ?_; rintro e w' ⟨rfl, hb⟩)
 go_ret
 exact ⟨rfl, hBw.trans (hb.mono hBw.size)⟩
end Go.Proofs.YtpcamocnlnlgiaaGreat.S
namespace Go.Proofs.YtpcamocnlnlgiaaGreat.S
open Go.RowKit Go.Sd
def Found (b : Bool) (w : World) (e : Ending) (w' : World) : Prop := ∃ n : Int, e = .returned (.int .i64 n) ∧ (b = true ↔ 0 ≤ n) ∧ Below w.heap.size w w'
theorem any_none {α : Type} {l : List α} {p : α → Bool} (h : ∀ j (hj : j < l.length), p l[j] = false) : l.any p = false := by
 rw [List.any_eq_false]
 intro x hx
 obtain ⟨i, hi, rfl⟩ := List.getElem_of_mem hx
 rw [h i hi]; exact Bool.false_ne_true
theorem any_some {α : Type} {l : List α} {p : α → Bool} {j : Nat} (hj : j < l.length) (h : p l[j] = true) : l.any p = true := List.any_eq_true.2 ⟨_, List.getElem_mem hj, h⟩
theorem dayAt_eq {l : List Sea.Day} {j : Nat} (h : j < l.length) : Sea.dayAt l j = l[j] := by simp [Sea.dayAt, h]
theorem indexDays (v : Value) (l : List Sea.Day) (p : Sea.Day → Bool) (nf : Nat) (nb : Array Value) (w : World) (hv : DaysAt w v l) (en : ∀ args w, (callFunc nf args).run Tryz.prog w = .ok (.enter nf args) w)
    (hp : ∀ d X, Below w.heap.size w X → Calls Tryz.prog nf (#[dayV d] ++ nb) X fun e X' => e = .returned (.bool (p d)) ∧ Below X.heap.size X X') :
    Calls Tryz.prog 97 #[v, .func (.func nf) #[] nb] w (Found (l.any p) w) := by
 obtain ⟨a, cap, rfl, hm, hc⟩ := hv
 unfold maxLen at hm
 replace hp := Lib.hid hp
 go_enter Tryz.func97, Tryz.ntmps97
 go_wp2_with (fail)
 have hg := grow_cell w
 go_loopw [8] (fun i wr => ∃ k : Nat, k ≤ l.length ∧ i = .int .i64 k ∧ Hid (∀ j (hj : j < l.length), j < k → p l[j] = false) ∧ ∃ g : Grow w, wr = g.x) (fun i _ => l.length - (intOf i).toNat)
 case atStart => exact ⟨0, by omega, rfl, (fun j _ h => by omega : ∀ j (hj : j < l.length), j < 0 → p l[j] = false), Grow.self w, rfl⟩
 case round =>
  obtain ⟨k, hk, rfl, hH, g, rfl⟩ := hrel
  by_cases hlt : k < l.length
  · obtain ⟨b, off, rfl, hbl, hcell⟩ := hc (by omega)
    obtain ⟨c0, c1, c2, c3, c4, c5, c6, c7⟩ := hcell k hlt
    have hki : (0 : Int) ≤ (k : Int) ∧ (k : Int) < l.length := by omega
    have hcall := hp.out (Sea.dayAt l k) g.x g.h
    rw [dayAt_eq hlt] at c0 c1 c2 c3 c4 c5 c6 c7 hcall
    clear hcell hc
    cases ht : p l[k]
    · rw [ht] at hcall
      have hH' : Hid (∀ j (hj : j < l.length), j < k + 1 → p l[j] = false) := fun j hj hjk => by
       rcases Nat.lt_succ_iff_lt_or_eq.1 hjk with h | rfl
       · exact hH.out j hj h
       · exact ht
      replace ht := Lib.hid ht
      replace hcall := Lib.hid hcall
      go_wp2_with ((with_reducible refine Calls.mono hcall.out ?_); rintro e w' ⟨rfl, hb'⟩; obtain ⟨g1, rfl⟩ := g.next hb')
      exact ⟨⟨k + 1, by omega, by go_num, hH', g1, rfl⟩, by simp [intOf]; omega⟩
    · rw [ht] at hcall
      have hany := Lib.hid (any_some hlt ht)
      replace ht := Lib.hid ht
      replace hcall := Lib.hid hcall
      go_wp2_with ((with_reducible refine Calls.mono hcall.out ?_); rintro e w' ⟨rfl, hb'⟩; obtain ⟨g1, rfl⟩ := g.next hb')
      go_ret
      exact ⟨k, rfl, ⟨fun _ => by omega, fun _ => hany.out⟩, g1.h⟩
  · have hany := Lib.hid (any_none fun j hj => hH.out j hj (by omega))
    go_wp2_with (fail)
    go_ret
    exact ⟨-1, rfl, ⟨(fun h => by rw [hany.out] at h; cases h), (fun h => by omega)⟩, g.h⟩
theorem indexInts (v : Value) (l : List Int) (p : Int → Bool) (nf : Nat) (nb : Array Value) (w : World) (hv : IntsAt w v l) (en : ∀ args w, (callFunc nf args).run Tryz.prog w = .ok (.enter nf args) w)
    (hp : ∀ d X, Below w.heap.size w X → Calls Tryz.prog nf (#[.int .i64 d] ++ nb) X fun e X' => e = .returned (.bool (p d)) ∧ Below X.heap.size X X') :
    Calls Tryz.prog 68 #[v, .func (.func nf) #[] nb] w (Found (l.any p) w) := by
 obtain ⟨a, cap, rfl, hm, hc⟩ := hv
 unfold maxLen at hm
 replace hp := Lib.hid hp
 go_enter Tryz.func68, Tryz.ntmps68
 go_wp2_with (fail)
 have hg := grow_cell w
 go_loopw [8] (fun i wr => ∃ k : Nat, k ≤ l.length ∧ i = .int .i64 k ∧ Hid (∀ j (hj : j < l.length), j < k → p l[j] = false) ∧ ∃ g : Grow w, wr = g.x) (fun i _ => l.length - (intOf i).toNat)
 case atStart => exact ⟨0, by omega, rfl, (fun j _ h => by omega : ∀ j (hj : j < l.length), j < 0 → p l[j] = false), Grow.self w, rfl⟩
 case round =>
  obtain ⟨k, hk, rfl, hH, g, rfl⟩ := hrel
  by_cases hlt : k < l.length
  · obtain ⟨b, off, rfl, hbl, hcell⟩ := hc (by omega)
    have c0 := hcell k hlt
    have hki : (0 : Int) ≤ (k : Int) ∧ (k : Int) < l.length := by omega
    have hcall := hp.out (Sea.at0 l k) g.x g.h
    rw [at0_eq hlt] at c0 hcall
    clear hcell hc
    cases ht : p l[k]
    · rw [ht] at hcall
      have hH' : Hid (∀ j (hj : j < l.length), j < k + 1 → p l[j] = false) := fun j hj hjk => by
       rcases Nat.lt_succ_iff_lt_or_eq.1 hjk with h | rfl
       · exact hH.out j hj h
       · exact ht
      replace ht := Lib.hid ht
      replace hcall := Lib.hid hcall
      go_wp2_with ((with_reducible refine Calls.mono hcall.out ?_); rintro e w' ⟨rfl, hb'⟩; obtain ⟨g1, rfl⟩ := g.next hb')
      exact ⟨⟨k + 1, by omega, by go_num, hH', g1, rfl⟩, by simp [intOf]; omega⟩
    · rw [ht] at hcall
      have hany := Lib.hid (any_some hlt ht)
      replace ht := Lib.hid ht
      replace hcall := Lib.hid hcall
      go_wp2_with ((with_reducible refine Calls.mono hcall.out ?_); rintro e w' ⟨rfl, hb'⟩; obtain ⟨g1, rfl⟩ := g.next hb')
      go_ret
      exact ⟨k, rfl, ⟨fun _ => by omega, fun _ => hany.out⟩, g1.h⟩
  · have hany := Lib.hid (any_none fun j hj => hH.out j hj (by omega))
    go_wp2_with (fail)
    go_ret
    exact ⟨-1, rfl, ⟨(fun h => by rw [hany.out] at h; cases h), (fun h => by omega)⟩, g.h⟩
theorem containsDays (v : Value) (l : List Sea.Day) (p : Sea.Day → Bool) (nf : Nat) (nb : Array Value) (w : World) (hv : DaysAt w v l) (en : ∀ args w, (callFunc nf args).run Tryz.prog w = .ok (.enter nf args) w)
    (hp : ∀ d X, Below w.heap.size w X → Calls Tryz.prog nf (#[dayV d] ++ nb) X fun e X' => e = .returned (.bool (p d)) ∧ Below X.heap.size X X') :
    Calls Tryz.prog 63 #[v, .func (.func nf) #[] nb] w fun e w' => e = .returned (.bool (l.any p)) ∧ Below w.heap.size w w' := by
 have hc := Lib.hid (indexDays v l p nf nb w hv en hp)
 clear hp
 cases ht : l.any p
 all_goals
  replace ht := Lib.hid ht
  go_enter Tryz.func63, Tryz.ntmps63
  go_wp2_with (go_at_call 97; refine Calls.mono hc.out ?_; rintro e w' ⟨n, rfl, hn, hb⟩; rw [ht.out] at hn; have hn' : Hid (_ ↔ (0 : Int) ≤ n) := hn; clear hn)
  go_ret
  refine ⟨bool_ret ?_, hb⟩
  have := hn'.out
  simp at this
  simp [this]
theorem containsInts (v : Value) (l : List Int) (p : Int → Bool) (nf : Nat) (nb : Array Value) (w : World) (hv : IntsAt w v l) (en : ∀ args w, (callFunc nf args).run Tryz.prog w = .ok (.enter nf args) w)
    (hp : ∀ d X, Below w.heap.size w X → Calls Tryz.prog nf (#[.int .i64 d] ++ nb) X fun e X' => e = .returned (.bool (p d)) ∧ Below X.heap.size X X') :
    Calls Tryz.prog 37 #[v, .func (.func nf) #[] nb] w fun e w' => e = .returned (.bool (l.any p)) ∧ Below w.heap.size w w' := by
 have hc := Lib.hid (indexInts v l p nf nb w hv en hp)
 clear hp
 cases ht : l.any p
 all_goals
  replace ht := Lib.hid ht
  go_enter Tryz.func37, Tryz.ntmps37
  go_wp2_with (go_at_call 68; refine Calls.mono hc.out ?_; rintro e w' ⟨n, rfl, hn, hb⟩; rw [ht.out] at hn; have hn' : Hid (_ ↔ (0 : Int) ≤ n) := hn; clear hn)
  go_ret
  refine ⟨bool_ret ?_, hb⟩
  have := hn'.out
  simp at this
  simp [this]
end Go.Proofs.YtpcamocnlnlgiaaGreat.S
set_option linter.unusedVariables false
set_option linter.unusedSimpArgs false
namespace Go.Proofs.YtpcamocnlnlgiaaGreat.S
open Go.RowKit Go.Sd
theorem enter_dayNot : ∀ (args : Array Value) (w : World), (callFunc 64 args).run Tryz.prog w = .ok (.enter 64 args) w := fun _ _ => by kernel_rfl
theorem any_not_all {α : Type} (l : List α) (p : α → Bool) : (!l.any fun x => !p x) = l.all p := by
 induction l with
 | nil => rfl
 | cons x xs ih => simp only [List.any_cons, List.all_cons, Bool.not_or, Bool.not_not, ih]
theorem daysB_all (s : Sea.S) : Sea.daysB s = s.days.all (Sea.dayB s.space) := by
 unfold Sea.daysB
 rw [Bool.eq_iff_iff, List.all_eq_true, List.all_eq_true]
 constructor
 · intro h d hd
   obtain ⟨i, hi, rfl⟩ := List.getElem_of_mem hd
   have := h i (List.mem_range.2 hi)
   rwa [dayAt_eq hi] at this
 · intro h i hi
   have hi := List.mem_range.1 hi
   rw [dayAt_eq hi]
   exact h _ (List.getElem_mem hi)
theorem progInT {a b c : Int} {t : Bool} (h : Sea.inB a b c = t) (w : World) : Calls Tryz.prog 39 #[.int .i64 a, .int .i64 b, .int .i64 c] w fun e w' => e = .returned (.bool t) ∧ w = w' := by
 rw [← h]; exact progIn a b c w
theorem progSpanT {a b l h : Int} {t : Bool} (ht : Sea.spanB a b l h = t) (w : World) : Calls Tryz.prog 62 #[.agg #[.int .i64 a, .int .i64 b], .int .i64 l, .int .i64 h] w fun e w' => e = .returned (.bool t) ∧ Below w.heap.size w w' := by
 rw [← ht]; exact progSpan a b l h w
theorem progValid (sv : Value) (s : Sea.S) (w : World) (hs : SeasonAt w sv s) :
    Calls Tryz.prog 29 #[sv] w fun e w' => e = .returned (.bool (Sea.validB s)) ∧ Below w.heap.size w w' := by
 have hs' := hs
 obtain ⟨rv, dv, rfl, hr, hd⟩ := hs'
 obtain ⟨ra, rcap, rfl, hrm, hrc⟩ := hr
 have hd' := hd
 obtain ⟨da, dcap, rfl, hdm, -⟩ := hd'
 unfold maxLen at hrm hdm
 go_enter Tryz.func29, Tryz.ntmps29
 go_wp2_with (fail)
 generalize hW : w.alloc (sBox s _ _) = W
 obtain ⟨hsz, hBw, q0, q1, q2, q3, q4, q5⟩ := box_season hW
 have hd2 := hd.mono hBw
 have hbs : w.heap.size < W.heap.size := hsz
 clear hW hs hd
 have hg := grow_cell W
 go_loopw [9] (fun i wr => ∃ k : Nat, k ≤ s.rows.length ∧ i = .int .i64 k ∧ Hid (∀ j, j < k → Sea.rowB s.rows j = true) ∧ ∃ g : Grow W, wr = g.x) (fun i _ => s.rows.length - (intOf i).toNat)
 case atStart => exact ⟨0, by omega, rfl, (fun j h => by omega : ∀ j, j < 0 → Sea.rowB s.rows j = true), Grow.self W, rfl⟩
 case round =>
  obtain ⟨k, hk, rfl, hH, g, rfl⟩ := hrel
  by_cases hlt : k < s.rows.length
  · obtain ⟨rb, off, rfl, hrl, hrk⟩ := hrc (by omega)
    obtain ⟨c0, c1, c2⟩ := (hrk k hlt).mono hBw
    have hrbW : rb < W.heap.size := by omega
    have hki : (0 : Int) ≤ (k : Int) ∧ (k : Int) < s.rows.length := by omega
    obtain ⟨t, ht⟩ : ∃ t, Sea.rowB s.rows k = t := ⟨_, rfl⟩
    have ht0 := ht
    unfold Sea.rowB at ht
    replace ht0 := Lib.hid ht0
    obtain ⟨g1, hg1⟩ := g.alloc (.cells #[.int .i64 (Sea.rowAt s.rows k).fill, .int .i64 (Sea.rowAt s.rows k).inn, .int .i64 (Sea.rowAt s.rows k).out] 37)
    have hn := World.alloc_heap_new g.x (.cells #[.int .i64 (Sea.rowAt s.rows k).fill, .int .i64 (Sea.rowAt s.rows k).inn, .int .i64 (Sea.rowAt s.rows k).out] 37)
    rw [hg1] at hn
    obtain ⟨zn, dn, fn⟩ := row_cells hn
    have n0 := dn 0
    have n1 := dn 1
    have n2 := dn 2
    simp only [List.getElem?_toArray, List.getElem?_cons_zero, List.getElem?_cons_succ] at n0 n1 n2
    have hrc2 := hrk
    clear dn fn hrk
    replace hrc2 := Lib.hid hrc2
    cases h1 : Sea.inB (Sea.rowAt s.rows k).fill 0 100
    · have ht1 : Hid (Sea.rowB s.rows k = false) := by show _ = _; rw [ht0.out, ← ht]; simp [h1]
      replace ht := Lib.hid ht
      go_wp2_with (fail)
      go_quiet ((go_at_call 39; exact Calls.quiet_of_same ((progInT (by assumption) _).mono (by rintro e w' ⟨rfl, rfl⟩; exact ⟨rfl, rfl⟩))))
      go_wp2_with (fail)
      go_ret
      refine ⟨bool_ret ?_, below_drewN (hBw.trans (g1.h.mono hBw.size)) _⟩
      have := ht1.out
      unfold Sea.validB Sea.rowsB
      rw [all_range_not hlt this]; simp
    · cases h2 : Sea.inB (Sea.rowAt s.rows k).inn 0 100
      · have ht1 : Hid (Sea.rowB s.rows k = false) := by show _ = _; rw [ht0.out, ← ht]; simp [h1, h2]
        replace ht := Lib.hid ht
        go_wp2_with (fail)
        go_quiet ((go_at_call 39; exact Calls.quiet_of_same ((progInT (by assumption) _).mono (by rintro e w' ⟨rfl, rfl⟩; exact ⟨rfl, rfl⟩))))
        go_wp2_with (fail)
        go_ret
        refine ⟨bool_ret ?_, below_drewN (hBw.trans (g1.h.mono hBw.size)) _⟩
        have := ht1.out
        unfold Sea.validB Sea.rowsB
        rw [all_range_not hlt this]; simp
      · cases h3 : Sea.inB (Sea.rowAt s.rows k).out 0 100
        · have ht1 : Hid (Sea.rowB s.rows k = false) := by show _ = _; rw [ht0.out, ← ht]; simp [h1, h2, h3]
          replace ht := Lib.hid ht
          go_wp2_with (fail)
          go_quiet ((go_at_call 39; exact Calls.quiet_of_same ((progInT (by assumption) _).mono (by rintro e w' ⟨rfl, rfl⟩; exact ⟨rfl, rfl⟩))))
          go_wp2_with (fail)
          go_ret
          refine ⟨bool_ret ?_, below_drewN (hBw.trans (g1.h.mono hBw.size)) _⟩
          have := ht1.out
          unfold Sea.validB Sea.rowsB
          rw [all_range_not hlt this]; simp
        · by_cases hk0 : k = 0
          · subst hk0
            simp only [Nat.zero_mul, Nat.add_zero] at c0 c1 c2
            by_cases hf0 : (Sea.rowAt s.rows 0).fill = 0
            · have ht1 : Hid (Sea.rowB s.rows 0 = true) := by show _ = _; rw [ht0.out, ← ht]; simp [h1, h2, h3, hf0, show Sea.inB 0 0 100 = true from rfl]
              have hb0 : ((Sea.rowAt s.rows 0).fill != 0) = false := by rw [hf0]; rfl
              replace hf0 := Lib.hid hf0
              replace ht := Lib.hid ht
              go_wp2_with (fail)
              go_quiet ((go_at_call 39; exact Calls.quiet_of_same ((progInT (by assumption) _).mono (by rintro e w' ⟨rfl, rfl⟩; exact ⟨rfl, rfl⟩))))
              go_wp2_with (fail)
              have hH' : Hid (∀ j, j < 0 + 1 → Sea.rowB s.rows j = true) := upto_succ hH.out ht1.out
              obtain ⟨g2, hg2⟩ := g1.next (below_drewN (Below.refl _ _) nq)
              exact ⟨⟨0 + 1, by omega, by go_num, hH', g2, hg2⟩, by simp [intOf]; omega⟩
            · have ht1 : Hid (Sea.rowB s.rows 0 = false) := by show _ = _; rw [ht0.out, ← ht]; simp [h1, h2, h3, hf0]
              have hb0 : ((Sea.rowAt s.rows 0).fill != 0) = true := by simpa using hf0
              replace hf0 := Lib.hid hf0
              replace ht := Lib.hid ht
              go_wp2_with (fail)
              go_quiet ((go_at_call 39; exact Calls.quiet_of_same ((progInT (by assumption) _).mono (by rintro e w' ⟨rfl, rfl⟩; exact ⟨rfl, rfl⟩))))
              go_wp2_with (fail)
              go_ret
              refine ⟨bool_ret ?_, below_drewN (hBw.trans (g1.h.mono hBw.size)) _⟩
              have := ht1.out
              unfold Sea.validB Sea.rowsB
              rw [all_range_not hlt this]; simp
          · obtain ⟨p0, -, -⟩ := RowCells.mono ((hrc2.out (k - 1) (by omega))) hBw
            have hkz : ((k : Int) == 0) = false := by simp; omega
            have hkp : 0 < k := by omega
            have hkq : decide (0 < k) = true := by simpa using hkp
            have hk1 : (0 : Int) < (k : Int) ∧ (0 : Int) ≤ (k : Int) - 1 ∧ (k : Int) - 1 < s.rows.length := by omega
            by_cases hf0 : (Sea.rowAt s.rows k).fill ≤ (Sea.rowAt s.rows (k - 1)).fill
            · have ht1 : Hid (Sea.rowB s.rows k = false) := by show _ = _; rw [ht0.out, ← ht]; simp [h1, h2, h3, hf0, hk0, show 0 < k by omega]
              replace ht := Lib.hid ht
              go_wp2_with (fail)
              go_quiet ((go_at_call 39; exact Calls.quiet_of_same ((progInT (by assumption) _).mono (by rintro e w' ⟨rfl, rfl⟩; exact ⟨rfl, rfl⟩))))
              go_wp2_with (fail)
              go_ret
              refine ⟨bool_ret ?_, below_drewN (hBw.trans (g1.h.mono hBw.size)) _⟩
              have := ht1.out
              unfold Sea.validB Sea.rowsB
              rw [all_range_not hlt this]; simp
            · have hf1 : (Sea.rowAt s.rows (k - 1)).fill < (Sea.rowAt s.rows k).fill := by omega
              have ht1 : Hid (Sea.rowB s.rows k = true) := by show _ = _; rw [ht0.out, ← ht]; simp [h1, h2, h3, hf1, hk0, show 0 < k by omega]
              replace ht := Lib.hid ht
              go_wp2_with (fail)
              go_quiet ((go_at_call 39; exact Calls.quiet_of_same ((progInT (by assumption) _).mono (by rintro e w' ⟨rfl, rfl⟩; exact ⟨rfl, rfl⟩))))
              go_wp2_with (fail)
              have hH' : Hid (∀ j, j < k + 1 → Sea.rowB s.rows j = true) := upto_succ hH.out ht1.out
              obtain ⟨g2, hg2⟩ := g1.next (below_drewN (Below.refl _ _) nq)
              exact ⟨⟨k + 1, by omega, by go_num, hH', g2, hg2⟩, by simp [intOf]; omega⟩
  · have hrows : Hid (Sea.rowsB s.rows = true) := all_range fun j hj => hH.out j (by omega)
    have hdays := Lib.hid (daysB_all s)
    have hf0 : Hid (Sea.validB s = (Sea.headB s && s.days.all (Sea.dayB s.space))) := by show _ = _; unfold Sea.validB; rw [hrows.out, daysB_all, Bool.and_true]
    obtain ⟨g1, hg1⟩ := g.alloc (.cells #[.func (.func 61) #[] #[.pointer (some ⟨w.heap.size, 0, none⟩)]] 143)
    have hn := World.alloc_heap_new g.x (.cells #[.func (.func 61) #[] #[.pointer (some ⟨w.heap.size, 0, none⟩)]] 143)
    rw [hg1] at hn
    obtain ⟨zn, dn, -⟩ := row_cells hn
    have n0 := dn 0
    simp only [List.getElem?_toArray, List.getElem?_cons_zero] at n0
    have n1 := g1.cell q0
    have hgs := g1.size
    clear dn hH hn
    cases h1 : Sea.inB s.space 1 100
    · skip
      have hf : Hid (Sea.validB s = false) := by show _ = _; rw [hf0.out]; unfold Sea.headB; simp [h1]
      go_wp2_with (first | (go_at_call 39; refine (progInT (by assumption) _).mono ?_; rintro e w' ⟨rfl, rfl⟩) | (go_at_call 62; refine (progSpanT (by assumption) _).mono ?_; rintro e w' ⟨rfl, hbS⟩; obtain ⟨g2, rfl⟩ := g1.next hbS))
      go_ret
      exact ⟨bool_ret hf.out.symm, hBw.trans ((Grow.h _).mono hBw.size)⟩
    · skip
      cases h2 : Sea.inB s.start 0 s.space
      · skip
        have hf : Hid (Sea.validB s = false) := by show _ = _; rw [hf0.out]; unfold Sea.headB; simp [h1, h2]
        go_wp2_with (first | (go_at_call 39; refine (progInT (by assumption) _).mono ?_; rintro e w' ⟨rfl, rfl⟩) | (go_at_call 62; refine (progSpanT (by assumption) _).mono ?_; rintro e w' ⟨rfl, hbS⟩; obtain ⟨g2, rfl⟩ := g1.next hbS))
        go_ret
        exact ⟨bool_ret hf.out.symm, hBw.trans ((Grow.h _).mono hBw.size)⟩
      · skip
        cases h3 : Sea.spanB s.elo s.ehi 0 s.space
        · skip
          have hf : Hid (Sea.validB s = false) := by show _ = _; rw [hf0.out]; unfold Sea.headB; simp [h1, h2, h3]
          go_wp2_with (first | (go_at_call 39; refine (progInT (by assumption) _).mono ?_; rintro e w' ⟨rfl, rfl⟩) | (go_at_call 62; refine (progSpanT (by assumption) _).mono ?_; rintro e w' ⟨rfl, hbS⟩; obtain ⟨g2, rfl⟩ := g1.next hbS))
          go_ret
          exact ⟨bool_ret hf.out.symm, hBw.trans ((Grow.h _).mono hBw.size)⟩
        · skip
          cases h4 : Sea.inB s.rows.length 1 8
          · skip
            have hf : Hid (Sea.validB s = false) := by show _ = _; rw [hf0.out]; unfold Sea.headB; simp [h1, h2, h3, h4]
            go_wp2_with (first | (go_at_call 39; refine (progInT (by assumption) _).mono ?_; rintro e w' ⟨rfl, rfl⟩) | (go_at_call 62; refine (progSpanT (by assumption) _).mono ?_; rintro e w' ⟨rfl, hbS⟩; obtain ⟨g2, rfl⟩ := g1.next hbS))
            go_ret
            exact ⟨bool_ret hf.out.symm, hBw.trans ((Grow.h _).mono hBw.size)⟩
          · skip
            cases h5 : Sea.inB s.days.length 1 20
            · skip
              have hf : Hid (Sea.validB s = false) := by show _ = _; rw [hf0.out]; unfold Sea.headB; simp [h1, h2, h3, h4, h5]
              go_wp2_with (first | (go_at_call 39; refine (progInT (by assumption) _).mono ?_; rintro e w' ⟨rfl, rfl⟩) | (go_at_call 62; refine (progSpanT (by assumption) _).mono ?_; rintro e w' ⟨rfl, hbS⟩; obtain ⟨g2, rfl⟩ := g1.next hbS))
              go_ret
              exact ⟨bool_ret hf.out.symm, hBw.trans ((Grow.h _).mono hBw.size)⟩
            · skip
              have hcon : ∀ (X : World), Below g1.x.heap.size g1.x X → Calls Tryz.prog 63 #[.slice da s.days.length dcap, .func (.func 64) #[] #[.pointer (some ⟨g.x.heap.size, 0, none⟩)]] X fun e w' => e = .returned (.bool (s.days.any fun d => !Sea.dayB s.space d)) ∧ Below X.heap.size X w' := fun X hX =>
               containsDays _ s.days _ _ _ X ((hd2.mono g1.h).mono hX) enter_dayNot fun d Y hY => progDayNot s.space d Y _ _ (kept_cell hY (kept_cell hX n1)) (kept_cell hY (kept_cell hX n0))
              have hf : Hid (Sea.validB s = !(s.days.any fun d => !Sea.dayB s.space d)) := by show _ = _; rw [hf0.out, any_not_all]; unfold Sea.headB; simp [h1, h2, h3, h4, h5]
              generalize (s.days.any fun d => !Sea.dayB s.space d) = tt at hcon hf
              replace hcon := Lib.hid hcon
              go_wp2_with (first | (go_at_call 39; refine (progInT (by assumption) _).mono ?_; rintro e w' ⟨rfl, rfl⟩) | (go_at_call 62; refine (progSpanT (by assumption) _).mono ?_; rintro e w' ⟨rfl, hbS⟩; obtain ⟨g2, rfl⟩ := g1.next hbS) | (go_at_call 63; refine Calls.mono (hcon.out _ hbS) ?_; rintro e w' ⟨rfl, hbC⟩))
              go_ret
              exact ⟨bool_ret hf.out.symm, hBw.trans ((below_tr g2.h hbC).mono hBw.size)⟩
end Go.Proofs.YtpcamocnlnlgiaaGreat.S
