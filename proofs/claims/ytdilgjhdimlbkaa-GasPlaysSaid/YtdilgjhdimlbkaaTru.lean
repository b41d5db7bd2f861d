/- Gas: walks: whether operations are xa defined (the reference), and what is true of them. -/
import Derived.Test.YtdilgjhdimlbkaaOps
set_option linter.unusedVariables false
set_option linter.unusedSimpArgs false
namespace Gas
theorem truth_not1 {l : List Op} {a b : List Int} (h : a.length ≠ l.length) : truthB l a b = false := by simp [truthB, h]
theorem truth_not2 {l : List Op} {a b : List Int} (h : b.length ≠ l.length) : truthB l a b = false := by simp [truthB, h]
def trueAt (l : List Op) (a b : List Int) (k : Nat) : Bool := inB (at0 a k) (theOp l k).slo (theOp l k).shi && inB (at0 b k) (theOp l k).wlo (theOp l k).whi
theorem truth_iff {l : List Op} {a b : List Int} : truthB l a b = true ↔ a.length = l.length ∧ b.length = l.length ∧ ∀ k, k < l.length → trueAt l a b k = true := by
  simp [truthB, trueAt, and_assoc]
theorem truth_not3 {l : List Op} {a b : List Int} {k : Nat} (hk : k < l.length) (h : trueAt l a b k = false) : truthB l a b = false := by
  cases hb : truthB l a b
  · rfl
  · rw [(truth_iff.1 hb).2.2 k hk] at h; cases h
end Gas
namespace Go.Proofs.Ytdilgjhdimlbkaa
open Go.RowKit Go.Sd Gas
theorem BoolS.lit {b t : Bool} {w w' : World} {e : Ending} (h : BoolS b w e w') (hb : b = t) : e = .returned (.bool t) ∧ w = w' := by
  obtain ⟨t', rfl, ht, hB⟩ := h
  exact ⟨by rw [← hb, ← ht.out], hB⟩

set_option maxRecDepth 100000 in
set_option maxHeartbeats 4000000 in
theorem refOps (lv : Value) (xs : List Gas.Op) (w : World) (hx : OpsAt w lv xs) :
    Calls Try.prog 8 #[lv] w fun e w' => e = .returned (.bool (opsB xs)) ∧ Below w.heap.size w w' := by
  obtain ⟨a, cap, rfl, hm, hc⟩ := hx
  unfold maxLen at hm
  have hm' : xs.length ≤ 9223372036854775807 := by omega
  have hcW := Lib.hid hc
  clear hc
  obtain ⟨r, hr⟩ : ∃ r, opsB xs = r := ⟨_, rfl⟩
  rw [hr]
  replace hr := Lib.hid hr
  go_enter Try.func8, Try.ntmps8
  go_wp2
  go_loopw [3] (fun i wr => ∃ g : Grow w, wr = g.x ∧ ∃ k : Nat, k ≤ xs.length ∧ i = .int .i64 k ∧ Hid (∀ j, j < k → (theOp xs j).ok = true)) (fun i _ => xs.length - (intOf i).toNat)
  case atStart => exact ⟨Grow.self w, rfl, 0, Nat.zero_le _, rfl, fun j hj => absurd hj (by omega)⟩
  case round =>
    obtain ⟨g, rfl, k, hk, rfl, hH⟩ := hrel
    by_cases hlt : k < xs.length
    · obtain ⟨b, off, rfl, hb, hcell⟩ := hcW.out (by omega)
      obtain ⟨c0, c1, c2, c3, c4, c5, c6, c7, c8, c9⟩ := (hcell k hlt).mono g.h
      clear hcell
      have hki : (k : Int) < (xs.length : Int) := by omega
      obtain ⟨x, hxe⟩ : ∃ x, theOp xs k = x := ⟨_, rfl⟩
      simp only [hxe] at c0 c1 c2 c3 c4 c5 c6 c7 c8 c9
      cases hok : x.ok
      · have kO := Lib.hid (fun w => (refOp x w).mono fun e w' hb => BoolB.lit hb hok)
        have hres : Hid (opsB xs = false) := Lib.hid (opsB_not hlt (by rw [hxe]; exact hok))
        replace hxe := Lib.hid hxe
        clear hok
        go_wp2_with (go_at_call 27; refine Calls.mono (kO.out _) ?_; rintro e w1 ⟨rfl, hB⟩; obtain ⟨g3, rfl⟩ := g.next hB; clear hB)
        go_ret
        exact ⟨by rw [← hr.out, hres.out]; rfl, g3.h⟩
      · have kO := Lib.hid (fun w => (refOp x w).mono fun e w' hb => BoolB.lit hb hok)
        replace hH : Hid (∀ j, j < k + 1 → (theOp xs j).ok = true) := Lib.hid (fun j hj => by
          by_cases e : j = k
          · rw [e, hxe]; exact hok
          · exact hH.out j (by omega))
        replace hxe := Lib.hid hxe
        clear hok
        go_wp2_with (go_at_call 27; refine Calls.mono (kO.out _) ?_; rintro e w1 ⟨rfl, hB⟩; obtain ⟨g3, rfl⟩ := g.next hB; clear hB)
        exact ⟨⟨g3, rfl, k + 1, by omega, by go_num, hH⟩, by simp [intOf]; omega⟩
    · obtain rfl : k = xs.length := by omega
      have hres : Hid (opsB xs = true) := Lib.hid (opsB_iff.2 hH.out)
      go_wp2
      go_ret
      exact ⟨by rw [← hr.out, hres.out]; rfl, g.h⟩

set_option maxRecDepth 100000 in
set_option maxHeartbeats 4000000 in
theorem progTruth (lv av bv : Value) (xs : List Gas.Op) (xa xb : List Int) (w : World) (hx : OpsAt w lv xs) (ha : IntsAt w av xa) (hb : IntsAt w bv xb) :
    Calls Try.prog 19 #[lv, av, bv] w fun e w' => e = .returned (.bool (truthB xs xa xb)) ∧ Below w.heap.size w w' := by
  obtain ⟨a, cap, rfl, hm, hc⟩ := hx
  obtain ⟨a1, cap1, rfl, hm1, hc1⟩ := ha
  obtain ⟨a2, cap2, rfl, hm2, hc2⟩ := hb
  unfold maxLen at hm hm1 hm2
  have hm' : xs.length ≤ 9223372036854775807 := by omega
  have hm1' : xa.length ≤ 9223372036854775807 := by omega
  have hm2' : xb.length ≤ 9223372036854775807 := by omega
  have hcW := Lib.hid hc; have hcA := Lib.hid hc1; have hcB := Lib.hid hc2
  clear hc hc1 hc2
  obtain ⟨r, hr⟩ : ∃ r, truthB xs xa xb = r := ⟨_, rfl⟩
  rw [hr]
  replace hr := Lib.hid hr
  by_cases hl1 : xa.length = xs.length
  case neg =>
    have hres : Hid (truthB xs xa xb = false) := Lib.hid (truth_not1 hl1)
    have hd : ¬ (xa.length : Int) = (xs.length : Int) := by omega
    replace hl1 := Lib.hid hl1
    go_enter Try.func19, Try.ntmps19
    go_wp2
    go_ret
    exact ⟨by rw [← hr.out, hres.out]; rfl, Below.refl _ _⟩
  have hd : (xa.length : Int) = (xs.length : Int) := by omega
  by_cases hl2 : xb.length = xs.length
  case neg =>
    have hres : Hid (truthB xs xa xb = false) := Lib.hid (truth_not2 hl2)
    have hd2 : ¬ (xb.length : Int) = (xs.length : Int) := by omega
    replace hl1 := Lib.hid hl1
    replace hl2 := Lib.hid hl2
    go_enter Try.func19, Try.ntmps19
    go_wp2
    go_ret
    exact ⟨by rw [← hr.out, hres.out]; rfl, Below.refl _ _⟩
  have hd2 : (xb.length : Int) = (xs.length : Int) := by omega
  go_enter Try.func19, Try.ntmps19
  go_wp2
  go_loopw [23] (fun i wr => ∃ g : Grow w, wr = g.x ∧ ∃ k : Nat, k ≤ xs.length ∧ i = .int .i64 k ∧ Hid (∀ j, j < k → trueAt xs xa xb j = true)) (fun i _ => xs.length - (intOf i).toNat)
  case atStart => exact ⟨Grow.self w, rfl, 0, Nat.zero_le _, rfl, fun j hj => absurd hj (by omega)⟩
  case round =>
    obtain ⟨g, rfl, k, hk, rfl, hH⟩ := hrel
    by_cases hlt : k < xs.length
    · obtain ⟨b, off, rfl, hb, hcell⟩ := hcW.out (by omega)
      obtain ⟨b1, off1, rfl, hb1, hcell1⟩ := hcA.out (by omega)
      obtain ⟨b2, off2, rfl, hb2, hcell2⟩ := hcB.out (by omega)
      obtain ⟨c0, c1, c2, c3, c4, c5, c6, c7, c8, c9⟩ := (hcell k hlt).mono g.h
      have d1 := kept_cell g.h (hcell1 k (by omega))
      have d2 := kept_cell g.h (hcell2 k (by omega))
      clear hcell hcell1 hcell2
      have hki : (k : Int) < (xs.length : Int) := by omega
      have hka : (k : Int) < (xa.length : Int) := by omega
      have hkb : (k : Int) < (xb.length : Int) := by omega
      have hta : Hid (trueAt xs xa xb k = (inB (at0 xa k) (theOp xs k).slo (theOp xs k).shi && inB (at0 xb k) (theOp xs k).wlo (theOp xs k).whi)) := Lib.hid rfl
      obtain ⟨x, hxe⟩ : ∃ x, theOp xs k = x := ⟨_, rfl⟩
      simp only [hxe] at c0 c1 c2 c3 c4 c5 c6 c7 c8 c9 hta
      obtain ⟨u, hue⟩ : ∃ u, at0 xa k = u := ⟨_, rfl⟩
      obtain ⟨v, hve⟩ : ∃ v, at0 xb k = v := ⟨_, rfl⟩
      simp only [hue] at d1 hta
      simp only [hve] at d2 hta
      clear hue hve hxe
      obtain ⟨V, hV⟩ : ∃ V, g.x.alloc (.cells #[.int .i64 x.kind, .int .i64 x.lg, .int .i64 x.ly, .int .i64 x.lt, .int .i64 x.lw, .int .i64 x.moles, .int .i64 x.slo, .int .i64 x.shi, .int .i64 x.wlo, .int .i64 x.whi] 57) = V := ⟨_, rfl⟩
      obtain ⟨e2, bV, s2⟩ := boxed hV
      obtain ⟨z2, r2, -⟩ := row_cells e2
      have q0 := r2 0
      have q1 := r2 1
      have q2 := r2 2
      have q3 := r2 3
      have q4 := r2 4
      have q5 := r2 5
      have q6 := r2 6
      have q7 := r2 7
      have q8 := r2 8
      have q9 := r2 9
      simp only [List.getElem?_toArray, List.getElem?_cons_zero, List.getElem?_cons_succ] at q0 q1 q2 q3 q4 q5 q6 q7 q8 q9
      have y1 := kept_cell bV d1
      have y2 := kept_cell bV d2
      clear r2 e2 s2
      have hBV : Below w.heap.size w V := g.h.trans (bV.mono g.size)
      have zb1 := World.block_lt_of_cell? _ ⟨b1, _, none⟩ y1
      have zb2 := World.block_lt_of_cell? _ ⟨b2, _, none⟩ y2
      simp only at zb1 zb2
      have hgc := grow_cell V
      cases h1 : inB u x.slo x.shi
      · have k1 := Lib.hid (fun w => (progIn u x.slo x.shi w).mono fun e w' hb => BoolS.lit hb h1)
        have hres : Hid (truthB xs xa xb = false) := Lib.hid (truth_not3 hlt (by rw [hta.out, h1]; rfl))
        clear h1
        go_wp2
        refine wp_region_grow (by kernel_rfl) (by kernel_rfl) ?_
        repeat (go_big_quiet_step ((first | (go_at_call 36; with_reducible exact Calls.grow_same (k1.out _)))))
        refine wpQuiet_nil ?_
        rintro _ ⟨g, rfl⟩
        go_wp2
        go_ret
        exact ⟨by rw [← hr.out, hres.out]; rfl, hBV.trans (g.h.mono hBV.size)⟩
      · have k1 := Lib.hid (fun w => (progIn u x.slo x.shi w).mono fun e w' hb => BoolS.lit hb h1)
        cases h2 : inB v x.wlo x.whi
        · have k2 := Lib.hid (fun w => (progIn v x.wlo x.whi w).mono fun e w' hb => BoolS.lit hb h2)
          have hres : Hid (truthB xs xa xb = false) := Lib.hid (truth_not3 hlt (by rw [hta.out, h1, h2]; rfl))
          clear h1 h2
          go_wp2
          refine wp_region_grow (by kernel_rfl) (by kernel_rfl) ?_
          repeat (go_big_quiet_step ((first | (go_at_call 36; with_reducible exact Calls.grow_same (k1.out _)) | (go_at_call 36; with_reducible exact Calls.grow_same (k2.out _)))))
          refine wpQuiet_nil ?_
          rintro _ ⟨g, rfl⟩
          go_wp2
          go_ret
          exact ⟨by rw [← hr.out, hres.out]; rfl, hBV.trans (g.h.mono hBV.size)⟩
        · have k2 := Lib.hid (fun w => (progIn v x.wlo x.whi w).mono fun e w' hb => BoolS.lit hb h2)
          replace hH : Hid (∀ j, j < k + 1 → trueAt xs xa xb j = true) := Lib.hid (fun j hj => by
            by_cases e : j = k
            · rw [e, hta.out, h1, h2]; rfl
            · exact hH.out j (by omega))
          clear h1 h2
          go_wp2
          refine wp_region_grow (by kernel_rfl) (by kernel_rfl) ?_
          repeat (go_big_quiet_step ((first | (go_at_call 36; with_reducible exact Calls.grow_same (k1.out _)) | (go_at_call 36; with_reducible exact Calls.grow_same (k2.out _)))))
          refine wpQuiet_nil ?_
          rintro _ ⟨g, rfl⟩
          go_wp2
          obtain ⟨g3, hg3⟩ : ∃ g3 : Grow w, g.x = g3.x := ⟨⟨g.x, hBV.trans (g.h.mono hBV.size)⟩, rfl⟩
          exact ⟨⟨g3, hg3, k + 1, by omega, by go_num, hH⟩, by simp [intOf]; omega⟩
    · obtain rfl : k = xs.length := by omega
      have hres : Hid (truthB xs xa xb = true) := Lib.hid (truth_iff.2 ⟨hl1, hl2, hH.out⟩)
      go_wp2
      go_ret
      exact ⟨by rw [← hr.out, hres.out]; rfl, g.h⟩

set_option maxRecDepth 100000 in
set_option maxHeartbeats 4000000 in
theorem refTruth (lv av bv : Value) (xs : List Gas.Op) (xa xb : List Int) (w : World) (hx : OpsAt w lv xs) (ha : IntsAt w av xa) (hb : IntsAt w bv xb) :
    Calls Try.prog 9 #[lv, av, bv] w fun e w' => e = .returned (.bool (truthB xs xa xb)) ∧ Below w.heap.size w w' := by
  obtain ⟨a, cap, rfl, hm, hc⟩ := hx
  obtain ⟨a1, cap1, rfl, hm1, hc1⟩ := ha
  obtain ⟨a2, cap2, rfl, hm2, hc2⟩ := hb
  unfold maxLen at hm hm1 hm2
  have hm' : xs.length ≤ 9223372036854775807 := by omega
  have hm1' : xa.length ≤ 9223372036854775807 := by omega
  have hm2' : xb.length ≤ 9223372036854775807 := by omega
  have hcW := Lib.hid hc; have hcA := Lib.hid hc1; have hcB := Lib.hid hc2
  clear hc hc1 hc2
  obtain ⟨r, hr⟩ : ∃ r, truthB xs xa xb = r := ⟨_, rfl⟩
  rw [hr]
  replace hr := Lib.hid hr
  by_cases hl1 : xa.length = xs.length
  case neg =>
    have hres : Hid (truthB xs xa xb = false) := Lib.hid (truth_not1 hl1)
    have hd : ¬ (xa.length : Int) = (xs.length : Int) := by omega
    replace hl1 := Lib.hid hl1
    go_enter Try.func9, Try.ntmps9
    go_wp2
    go_ret
    exact ⟨by rw [← hr.out, hres.out]; rfl, Below.refl _ _⟩
  have hd : (xa.length : Int) = (xs.length : Int) := by omega
  by_cases hl2 : xb.length = xs.length
  case neg =>
    have hres : Hid (truthB xs xa xb = false) := Lib.hid (truth_not2 hl2)
    have hd2 : ¬ (xb.length : Int) = (xs.length : Int) := by omega
    replace hl1 := Lib.hid hl1
    replace hl2 := Lib.hid hl2
    go_enter Try.func9, Try.ntmps9
    go_wp2
    go_ret
    exact ⟨by rw [← hr.out, hres.out]; rfl, Below.refl _ _⟩
  have hd2 : (xb.length : Int) = (xs.length : Int) := by omega
  go_enter Try.func9, Try.ntmps9
  go_wp2
  go_loopw [7] (fun i wr => ∃ g : Grow w, wr = g.x ∧ ∃ k : Nat, k ≤ xs.length ∧ i = .int .i64 k ∧ Hid (∀ j, j < k → trueAt xs xa xb j = true)) (fun i _ => xs.length - (intOf i).toNat)
  case atStart => exact ⟨Grow.self w, rfl, 0, Nat.zero_le _, rfl, fun j hj => absurd hj (by omega)⟩
  case round =>
    obtain ⟨g, rfl, k, hk, rfl, hH⟩ := hrel
    by_cases hlt : k < xs.length
    · obtain ⟨b, off, rfl, hb, hcell⟩ := hcW.out (by omega)
      obtain ⟨b1, off1, rfl, hb1, hcell1⟩ := hcA.out (by omega)
      obtain ⟨b2, off2, rfl, hb2, hcell2⟩ := hcB.out (by omega)
      obtain ⟨c0, c1, c2, c3, c4, c5, c6, c7, c8, c9⟩ := (hcell k hlt).mono g.h
      have d1 := kept_cell g.h (hcell1 k (by omega))
      have d2 := kept_cell g.h (hcell2 k (by omega))
      clear hcell hcell1 hcell2
      have hki : (k : Int) < (xs.length : Int) := by omega
      have hka : (k : Int) < (xa.length : Int) := by omega
      have hkb : (k : Int) < (xb.length : Int) := by omega
      have hta : Hid (trueAt xs xa xb k = (inB (at0 xa k) (theOp xs k).slo (theOp xs k).shi && inB (at0 xb k) (theOp xs k).wlo (theOp xs k).whi)) := Lib.hid rfl
      obtain ⟨x, hxe⟩ : ∃ x, theOp xs k = x := ⟨_, rfl⟩
      simp only [hxe] at c0 c1 c2 c3 c4 c5 c6 c7 c8 c9 hta
      obtain ⟨u, hue⟩ : ∃ u, at0 xa k = u := ⟨_, rfl⟩
      obtain ⟨v, hve⟩ : ∃ v, at0 xb k = v := ⟨_, rfl⟩
      simp only [hue] at d1 hta
      simp only [hve] at d2 hta
      clear hue hve hxe
      obtain ⟨V, hV⟩ : ∃ V, g.x = V := ⟨_, rfl⟩
      have hBV : Below w.heap.size w V := by rw [← hV]; exact g.h
      rw [hV] at c0 c1 c2 c3 c4 c5 c6 c7 c8 c9 d1 d2 ⊢
      have zb := World.block_lt_of_cell? _ ⟨b, _, none⟩ c0
      have zb1 := World.block_lt_of_cell? _ ⟨b1, _, none⟩ d1
      have zb2 := World.block_lt_of_cell? _ ⟨b2, _, none⟩ d2
      simp only at zb zb1 zb2
      have hgc := grow_cell V
      cases h1 : inB u x.slo x.shi
      · have k1 := Lib.hid (fun w => (refIn u x.slo x.shi w).mono fun e w' hb => BoolS.lit hb h1)
        have hres : Hid (truthB xs xa xb = false) := Lib.hid (truth_not3 hlt (by rw [hta.out, h1]; rfl))
        clear h1
        go_wp2
        refine wp_region_grow (by kernel_rfl) (by kernel_rfl) ?_
        repeat (go_big_quiet_step ((first | (go_at_call 25; with_reducible exact Calls.grow_same (k1.out _)))))
        refine wpQuiet_nil ?_
        rintro _ ⟨g, rfl⟩
        go_wp2
        go_ret
        exact ⟨by rw [← hr.out, hres.out]; rfl, hBV.trans (g.h.mono hBV.size)⟩
      · have k1 := Lib.hid (fun w => (refIn u x.slo x.shi w).mono fun e w' hb => BoolS.lit hb h1)
        cases h2 : inB v x.wlo x.whi
        · have k2 := Lib.hid (fun w => (refIn v x.wlo x.whi w).mono fun e w' hb => BoolS.lit hb h2)
          have hres : Hid (truthB xs xa xb = false) := Lib.hid (truth_not3 hlt (by rw [hta.out, h1, h2]; rfl))
          clear h1 h2
          go_wp2
          refine wp_region_grow (by kernel_rfl) (by kernel_rfl) ?_
          repeat (go_big_quiet_step ((first | (go_at_call 25; with_reducible exact Calls.grow_same (k1.out _)) | (go_at_call 25; with_reducible exact Calls.grow_same (k2.out _)))))
          refine wpQuiet_nil ?_
          rintro _ ⟨g, rfl⟩
          go_wp2
          go_ret
          exact ⟨by rw [← hr.out, hres.out]; rfl, hBV.trans (g.h.mono hBV.size)⟩
        · have k2 := Lib.hid (fun w => (refIn v x.wlo x.whi w).mono fun e w' hb => BoolS.lit hb h2)
          replace hH : Hid (∀ j, j < k + 1 → trueAt xs xa xb j = true) := Lib.hid (fun j hj => by
            by_cases e : j = k
            · rw [e, hta.out, h1, h2]; rfl
            · exact hH.out j (by omega))
          clear h1 h2
          go_wp2
          refine wp_region_grow (by kernel_rfl) (by kernel_rfl) ?_
          repeat (go_big_quiet_step ((first | (go_at_call 25; with_reducible exact Calls.grow_same (k1.out _)) | (go_at_call 25; with_reducible exact Calls.grow_same (k2.out _)))))
          refine wpQuiet_nil ?_
          rintro _ ⟨g, rfl⟩
          go_wp2
          obtain ⟨g3, hg3⟩ : ∃ g3 : Grow w, g.x = g3.x := ⟨⟨g.x, hBV.trans (g.h.mono hBV.size)⟩, rfl⟩
          exact ⟨⟨g3, hg3, k + 1, by omega, by go_num, hH⟩, by simp [intOf]; omega⟩
    · obtain rfl : k = xs.length := by omega
      have hres : Hid (truthB xs xa xb = true) := Lib.hid (truth_iff.2 ⟨hl1, hl2, hH.out⟩)
      go_wp2
      go_ret
      exact ⟨by rw [← hr.out, hres.out]; rfl, g.h⟩
end Go.Proofs.Ytdilgjhdimlbkaa
