/- Laws and walks: Bk9, Bka, Bkb. -/
import Derived.StillTailTactics
import Derived.Test.YtpcamocnlnlgiaaGreatK09
set_option maxRecDepth 100000
set_option maxHeartbeats 16000000
set_option linter.unusedVariables false
set_option linter.unusedSimpArgs false
namespace Go.Proofs.YtpcamocnlnlgiaaGreat.B
open Go.RowKit Go.Sd Wl Bk L
attribute [local go_sem] Oper.semAt_some
abbrev frO (a b c : Int) : Obj := .cells #[.int .i64 a, .int .i64 b, .int .i64 c] 150
abbrev frV (a b c : Int) : Value := .agg #[.int .i64 a, .int .i64 b, .int .i64 c]
theorem refActive (c : Con) (rv : Value) (h : Int) (w : World) (hr : RtsAt w rv c.rates) : Calls Tryz.prog 99 #[conV rv c, .int .i64 h] w (BoolB (activeB c h) w) := by
 obtain ⟨W, hW⟩ : ∃ W, w.alloc (conO rv c) = W := ⟨_, rfl⟩
 obtain ⟨e, bW, z⟩ := boxedB hW
 obtain ⟨c0, c1, c2, c3, -⟩ := row11 e
 have k := Lib.hid (in06 h c.lo c.hi W)
 have hB := Lib.hid bW
 obtain ⟨ra, rcap, rfl, -, -⟩ := hr
 clear e bW
 go_enter Tryz.func99, Tryz.ntmps99
 go_wp2_with (go_at_call 13; (with_reducible refine Calls.mono k.out ?_); rintro e w' ⟨t, rfl, ht, rfl⟩)
 go_ret
 exact ⟨_, rfl, ht, hB.out⟩
theorem refSold (l : List CV) (v : Value) (h : Int) (ok : allOk l) (hl : l.length ≤ 8) (w : World) (hc : ConsAt w v l) : Calls Tryz.prog 71 #[v, .int .i64 h] w fun e w' => e = .returned (frV (spacesTo l l.length) (soldI l h l.length) (soldO l h l.length)) ∧ Below w.heap.size w w' := by
 obtain ⟨W1, hW1⟩ : ∃ W, w.alloc (frO 0 0 0) = W := ⟨_, rfl⟩
 obtain ⟨e1, b1, z1⟩ := boxedB hW1
 obtain ⟨W2, hW2⟩ : ∃ W, W1.alloc (frO 0 0 0) = W := ⟨_, rfl⟩
 obtain ⟨e2, b2, z2⟩ := boxedB hW2
 have hc1 := hc.mono b1
 have hc0 := hc.els
 obtain ⟨a, cap, rfl, hm, -⟩ := hc0
 unfold maxLen at hm
 have hrow : Hid (0 < l.length → _) := Lib.hid (cons_row hc1)
 have hrt := Lib.hid hc1.rts
 have e1h := Lib.hid e1
 have hb1 := Lib.hid b1
 have hI : Hid (W2.heap[W1.heap.size]? = some (frO (spacesTo l 0) (soldI l h 0) (soldO l h 0)) ∧ Below W1.heap.size W1 W2) := Lib.hid ⟨e2, b2⟩
 clear hc hc1 e1 e2 b1 b2
 go_enter Tryz.func71, Tryz.ntmps71
 go_wp2_with (fail)
 go_loopw [6] (fun i wr => ∃ k : Nat, k ≤ l.length ∧ i = .int .i64 k ∧ Hid (wr.heap[W1.heap.size]? = some (frO (spacesTo l k) (soldI l h k) (soldO l h k)) ∧ Below W1.heap.size W1 wr)) (fun i _ => l.length - (intOf i).toNat)
 case atStart => exact ⟨0, by omega, rfl, hI⟩
 case round =>
  obtain ⟨k, hk, rfl, hH⟩ := hrel
  obtain ⟨hO, hBl⟩ := hH.out
  obtain ⟨p0, p1, p2⟩ := row3b hO
  obtain ⟨f0, f1, f2⟩ := frz3 hO
  have zo := (zqo hO)
  by_cases hlt : k < l.length
  · obtain ⟨b, off, rfl, hbl, hx⟩ := hrow.out (by omega)
    obtain ⟨x0, x1, x2, x3, x4, x5, x6, x7, x8, x9, x10⟩ := hx k hlt
    have hrk := hrt.out k hlt
    have hrk0 := hrk
    obtain ⟨ra, rcap, hra, -, -⟩ := hrk0
    rw [hra] at x4 hrk
    obtain ⟨o1, o2, o3, o4, -⟩ := Con.ok_head (ok k hlt)
    obtain ⟨rb, roff, rfl, hrl, hry⟩ := rts_row hrk (by omega)
    have hcl : Hid (∀ X, Below W1.heap.size W1 X → _) := Lib.hid fun X (hX : Below W1.heap.size W1 X) => (⟨kept_cell hX x0, kept_cell hX x1, kept_cell hX x2, kept_cell hX x3, kept_cell hX x4, kept_cell hX x5, kept_cell hX x6, kept_cell hX x7, kept_cell hX x8, kept_cell hX x9, kept_cell hX x10⟩ : _ ∧ _ ∧ _ ∧ _ ∧ _ ∧ _ ∧ _ ∧ _ ∧ _ ∧ _ ∧ _)
    obtain ⟨y0, y1, y2⟩ := hry 0 (by omega)
    simp only [Nat.zero_mul, Nat.add_zero] at y0 y1 y2
    obtain ⟨v0, v1, v2⟩ := hry ((cvAt l k).2.rates.length - 1) (by omega)
    have hrl' : Hid (∀ X, Below W1.heap.size W1 X → _) := Lib.hid fun X (hX : Below W1.heap.size W1 X) => (⟨kept_cell hX y1, kept_cell hX v2⟩ : _ ∧ _)
    have hrkh := Lib.hid hrk
    clear x0 x1 x2 x3 x4 x5 x6 x7 x8 x9 x10 hx y0 y1 y2 v0 v1 v2 hry hrk
    obtain ⟨c0, c1, c2, c3, c4, c5, c6, c7, c8, c9, c10⟩ := hcl.out _ hBl
    have hki : (0 : Int) ≤ (k : Int) ∧ (k : Int) < l.length := by omega
    have bd2 := sold_bd ok h (k + 1) hlt
    have bd := sold_bd ok h k hk
    have hp : Hid (spacesTo l (k + 1) = spacesTo l k + (cvAt l k).2.space) := rfl
    have hw0 : IntKind.i64.wrap (spacesTo l k + (cvAt l k).2.space) = spacesTo l k + (cvAt l k).2.space := IntWalk.i64_in _ (by omega)
    have hs : Hid (soldI l h (k + 1) = soldI l h k + if ((cvAt l k).2.firm && activeB (cvAt l k).2 h) = true then (rtAt (cvAt l k).2.rates 0).inn else 0) := rfl
    have hu : Hid (soldO l h (k + 1) = soldO l h k + if ((cvAt l k).2.firm && activeB (cvAt l k).2 h) = true then (rtAt (cvAt l k).2.rates ((cvAt l k).2.rates.length - 1)).out else 0) := rfl
    have hOh := Lib.hid hO
    have hBh := Lib.hid hBl
    clear hO hBl hH bd bd2
    go_wp2_with (fail)
    go_still_tail 9, (by kernel_rfl)
    change wpList _ _ _ _ _ wr.drew
    obtain ⟨Y, hY⟩ : ∃ Y, wr.drew = Y := ⟨_, rfl⟩
    have hOY : Y.heap[W1.heap.size]? = some (frO (spacesTo l k) (soldI l h k) (soldO l h k)) := by rw [← hY]; exact hOh.out
    have hBY : Below W1.heap.size W1 Y := by rw [← hY]; exact hBh.out.drew
    rw [hY]
    obtain ⟨f0, f1, f2⟩ := frz3 hOY
    obtain ⟨p0, p1, p2⟩ := row3b hOY
    obtain ⟨Z, hZ⟩ : ∃ Z, Y.setCell ⟨W1.heap.size, 0, none⟩ (.int .i64 (spacesTo l k + (cvAt l k).2.space)) = Z := ⟨_, rfl⟩
    have hOZ : Z.heap[W1.heap.size]? = some (frO (spacesTo l (k + 1)) (soldI l h k) (soldO l h k)) := by rw [← hZ, row_set hOY]; rfl
    have hBZ : Below W1.heap.size W1 Z := by
     rw [← hZ]
     exact hBY.trans (((Kept.refl (fun j => j < W1.heap.size) Y).setCell (p := ⟨W1.heap.size, 0, none⟩) (.inl (Nat.lt_irrefl _)) _).below (by have := hBY.size; omega) fun j hj => hj)
    obtain ⟨m0, m1, m2⟩ := row3b hOZ
    obtain ⟨u0, u1, u2⟩ := frz3 hOZ
    obtain ⟨d0, d1, d2, d3, d4, d5, d6, d7, d8, d9, d10⟩ := hcl.out _ hBZ
    have zz := hBZ.size
    have zoz := (zqo hOZ)
    have hOZh := Lib.hid hOZ
    have hBZh := Lib.hid hBZ
    clear hOY hBY hY hOZ hBZ c0 c1 c2 c3 c4 c5 c6 c7 c8 c9 c10
    cases hf : (cvAt l k).2.firm
    · rw [hf] at d0
      have hs1 : Hid (soldI l h (k + 1) = soldI l h k) := Lib.hid (by rw [hs.out, hf]; simp)
      have hu1 : Hid (soldO l h (k + 1) = soldO l h k) := Lib.hid (by rw [hu.out, hf]; simp)
      replace hf := Lib.hid hf
      go_wp2_with (first | (rw [hZ]) | fail)
      exact ⟨⟨k + 1, by omega, by go_num, Lib.hid ⟨by rw [hs1.out, hu1.out]; exact hOZh.out, hBZh.out⟩⟩, by simp [intOf]; omega⟩
    · have kA : Hid (∀ X, Below W1.heap.size W1 X → Calls Tryz.prog 99 #[.agg #[.bool (cvAt l k).2.firm, .int .i64 (cvAt l k).2.space, .int .i64 (cvAt l k).2.lo, .int .i64 (cvAt l k).2.hi, .slice (some ⟨rb, roff, none⟩) (cvAt l k).2.rates.length rcap, .int .i64 (cvAt l k).2.gas, .int .i64 (cvAt l k).2.fixed, .int .i64 (cvAt l k).2.inn, .int .i64 (cvAt l k).2.out, .int .i64 (cvAt l k).2.cut, .int .i64 (cvAt l k).2.lack], .int .i64 h] X (BoolB (activeB (cvAt l k).2 h) X)) := Lib.hid fun X hX => refActive (cvAt l k).2 _ h X (hrkh.out.mono hX)
      rw [hf] at d0 kA
      obtain ⟨ab, hab⟩ : ∃ ab, activeB (cvAt l k).2 h = ab := ⟨_, rfl⟩
      have kA2 : Hid (Calls Tryz.prog 99 #[.agg #[.bool true, .int .i64 (cvAt l k).2.space, .int .i64 (cvAt l k).2.lo, .int .i64 (cvAt l k).2.hi, .slice (some ⟨rb, roff, none⟩) (cvAt l k).2.rates.length rcap, .int .i64 (cvAt l k).2.gas, .int .i64 (cvAt l k).2.fixed, .int .i64 (cvAt l k).2.inn, .int .i64 (cvAt l k).2.out, .int .i64 (cvAt l k).2.cut, .int .i64 (cvAt l k).2.lack], .int .i64 h] Z fun e w' => e = .returned (.bool ab) ∧ Below Z.heap.size Z w') := Lib.hid ((kA.out Z hBZh.out).mono fun e w' hb => hb.lit hab)
      clear kA
      cases ab
      · have hs1 : Hid (soldI l h (k + 1) = soldI l h k) := Lib.hid (by rw [hs.out, hab]; simp)
        have hu1 : Hid (soldO l h (k + 1) = soldO l h k) := Lib.hid (by rw [hu.out, hab]; simp)
        replace hf := Lib.hid hf
        replace hab := Lib.hid hab
        go_wp2_with (first | (rw [hZ]) | (go_at_call 99; (with_reducible refine Calls.mono kA2.out ?_); rintro e w3 ⟨rfl, hB3⟩))
        exact ⟨⟨k + 1, by omega, by go_num, Lib.hid ⟨by rw [hs1.out, hu1.out]; exact kept_block hB3 hOZh.out, hBZh.out.trans (hB3.mono (by omega))⟩⟩, by simp [intOf]; omega⟩
      · have hs1 : Hid (soldI l h (k + 1) = soldI l h k + (rtAt (cvAt l k).2.rates 0).inn) := Lib.hid (by rw [hs.out, hab, hf]; simp)
        have hu1 : Hid (soldO l h (k + 1) = soldO l h k + (rtAt (cvAt l k).2.rates ((cvAt l k).2.rates.length - 1)).out) := Lib.hid (by rw [hu.out, hab, hf]; simp)
        have r1 := Con.ok_row (ok k hlt) (k := 0) (by omega)
        have r2 := Con.ok_row (ok k hlt) (k := (cvAt l k).2.rates.length - 1) (by omega)
        have bd := sold_bd ok h k hk
        have hw1 : IntKind.i64.wrap (soldI l h k + (rtAt (cvAt l k).2.rates 0).inn) = soldI l h k + (rtAt (cvAt l k).2.rates 0).inn := IntWalk.i64_in _ (by omega)
        have hw2 : IntKind.i64.wrap (soldO l h k + (rtAt (cvAt l k).2.rates ((cvAt l k).2.rates.length - 1)).out) = soldO l h k + (rtAt (cvAt l k).2.rates ((cvAt l k).2.rates.length - 1)).out := IntWalk.i64_in _ (by omega)
        have hl1 : (0 : Int) < ((cvAt l k).2.rates.length : Int) ∧ (0 : Int) ≤ ((cvAt l k).2.rates.length : Int) - 1 ∧ ((cvAt l k).2.rates.length : Int) - 1 < (cvAt l k).2.rates.length := by omega
        clear bd r1 r2
        replace hf := Lib.hid hf
        replace hab := Lib.hid hab
        go_wp2_with (first | (rw [hZ]) | (go_at_call 99; (with_reducible refine Calls.mono kA2.out ?_); rintro e w3 ⟨rfl, hB3⟩; (have hB4 := hBZh.out.trans (hB3.mono (by omega))); obtain ⟨c0, c1, c2, c3, c4, c5, c6, c7, c8, c9, c10⟩ := hcl.out _ hB4; obtain ⟨y1, v2⟩ := hrl'.out _ hB4; (have hO4 := kept_block hB3 hOZh.out); obtain ⟨n0, n1, n2⟩ := row3b hO4; obtain ⟨g0, g1, g2⟩ := frz3 hO4; (have zo4 := (zqo hO4)); (have zw4 := hB4.size); (have hO4h := Lib.hid hO4); (have hB4h := Lib.hid hB4); clear hO4 hB4))
        obtain ⟨hla, hlb, hlc⟩ := hl1
        go_big_region
        have hX1 := row_set (row_set hO4h.out 1 (.int .i64 (soldI l h k + (rtAt (cvAt l k).2.rates 0).inn))) 2 (.int .i64 (soldO l h k + (rtAt (cvAt l k).2.rates ((cvAt l k).2.rates.length - 1)).out))
        have hX2 := (((Kept.refl (fun j => j < W1.heap.size) w3).setCell (p := ⟨W1.heap.size, 1, none⟩) (.inl (Nat.lt_irrefl _)) (.int .i64 (soldI l h k + (rtAt (cvAt l k).2.rates 0).inn))).setCell (p := ⟨W1.heap.size, 2, none⟩) (.inl (Nat.lt_irrefl _)) (.int .i64 (soldO l h k + (rtAt (cvAt l k).2.rates ((cvAt l k).2.rates.length - 1)).out))).below (B := W1.heap.size) (by omega) fun j hj => hj
        obtain ⟨X, hX⟩ : ∃ X, ((w3.setCell ⟨W1.heap.size, 1, none⟩ (.int .i64 (soldI l h k + (rtAt (cvAt l k).2.rates 0).inn))).setCell ⟨W1.heap.size, 2, none⟩ (.int .i64 (soldO l h k + (rtAt (cvAt l k).2.rates ((cvAt l k).2.rates.length - 1)).out))).drew = X := ⟨_, rfl⟩
        have hfin : Hid (X.heap[W1.heap.size]? = some (frO (spacesTo l (k + 1)) (soldI l h (k + 1)) (soldO l h (k + 1))) ∧ Below W1.heap.size W1 X) := by
         rw [← hX]
         exact Lib.hid ⟨by rw [hs1.out, hu1.out]; exact hX1, hB4h.out.trans hX2.drew⟩
        rw [hX]
        clear hX1 hX2 hX
        simp only [Exit.inBlock, Exit.then]
        go_wp2_with (fail)
        exact ⟨⟨k + 1, by omega, by go_num, hfin⟩, by simp [intOf]; omega⟩
  · obtain rfl : k = l.length := by omega
    have hR := kept_block hBl e1h.out
    obtain ⟨r0, r1, r2⟩ := row3b hR
    obtain ⟨g0, g1, g2⟩ := frz3 hR
    have zr := (zqo hR)
    have hRh := Lib.hid hR
    have hBlh := Lib.hid hBl
    clear hR hBl hO hH
    go_wp2_with (fail)
    obtain ⟨k1, k2⟩ := store3 hRh.out (.int .i64 (spacesTo l l.length)) (.int .i64 (soldI l h l.length)) (.int .i64 (soldO l h l.length))
    obtain ⟨m0, m1, m2⟩ := row3b k1
    refine bodyPost_ret (v := frV (spacesTo l l.length) (soldI l h l.length) (soldO l h l.length)) (by simp [results, Tryz.results71, go_sem, m0, m1, m2]) rfl ⟨rfl, ?_⟩
    exact hb1.out.trans ((hBlh.out.mono (by omega)).trans (k2.mono (by omega)))
end Go.Proofs.YtpcamocnlnlgiaaGreat.B
set_option linter.unusedVariables false
set_option linter.unusedSimpArgs false
namespace Go.Proofs.YtpcamocnlnlgiaaGreat.B
open Go.RowKit Go.Sd Wl Bk L
attribute [local go_sem] Oper.semAt_some
theorem refOnce (s : Sto) (v : Value) (ok : allOk s.cons) (hl : s.cons.length ≤ 8) (w : World) (hc : ConsAt w v s.cons) : Calls Tryz.prog 44 #[stoV v s, v] w (BoolB (onceB s) w) := by
 obtain ⟨W, hW⟩ : ∃ W, w.alloc (stoO v s) = W := ⟨_, rfl⟩
 obtain ⟨e, bW, z⟩ := boxedB hW
 obtain ⟨q0, q1, q2, q3, q4, q5⟩ := row6 e
 have hcW := Lib.hid (hc.mono bW)
 have hBw := Lib.hid bW
 have eh := Lib.hid e
 have hc0 := hc.els
 obtain ⟨a, cap, rfl, hm, -⟩ := hc0
 have kS : Hid (∀ X (h : Int), Below W.heap.size W X → Calls Tryz.prog 71 #[.slice a s.cons.length cap, .int .i64 h] X fun e w' => e = .returned (frV (spacesTo s.cons s.cons.length) (soldI s.cons h s.cons.length) (soldO s.cons h s.cons.length)) ∧ Below X.heap.size X w') := Lib.hid fun X h hX => refSold s.cons _ h ok hl X (hcW.out.mono hX)
 have hg := grow_cell W
 have hrw : Hid (∀ X, Below W.heap.size W X → _) := Lib.hid fun X (hX : Below W.heap.size W X) => row6 (kept_block hX eh.out)
 have hsum : Hid (∀ k < 48, (onceB s = false → True) → True) := Lib.hid fun _ _ _ => trivial
 clear e bW hc hm hsum
 go_enter Tryz.func44, Tryz.ntmps44
 go_wp2_with (fail)
 go_loopw [5] (fun i wr => ∃ k : Nat, k ≤ 48 ∧ i = .int .i64 k ∧ Hid (∀ j, j < k → hourOk s j = true ∧ spacesTo s.cons s.cons.length ≤ s.space) ∧ ∃ g : Grow W, wr = g.x) (fun i _ => 48 - (intOf i).toNat)
 case atStart => exact ⟨0, by omega, rfl, Lib.hid fun j h => by omega, Grow.self W, rfl⟩
 case round =>
  obtain ⟨k, hk, rfl, hH, g, rfl⟩ := hrel
  by_cases hlt : k < 48
  · have hki : (0 : Int) ≤ (k : Int) ∧ (k : Int) < 48 := by omega
    have hst : Hid (hourOk s k = (decide (soldI s.cons (k : Nat) s.cons.length ≤ s.inn) && decide (soldO s.cons (k : Nat) s.cons.length ≤ s.out))) := rfl
    have kS2 := Lib.hid (kS.out g.x (k : Nat) g.h)
    have z2 := g.size
    cases d0 : decide (s.space < spacesTo s.cons s.cons.length)
    · have e0 : spacesTo s.cons s.cons.length ≤ s.space := by simpa using d0
      cases d1 : decide (s.inn < soldI s.cons (k : Nat) s.cons.length)
      · have e1 : soldI s.cons (k : Nat) s.cons.length ≤ s.inn := by simpa using d1
        cases d2 : decide (s.out < soldO s.cons (k : Nat) s.cons.length)
        · have e2 : soldO s.cons (k : Nat) s.cons.length ≤ s.out := by simpa using d2
          have hf : Hid (hourOk s k = true) := Lib.hid (by rw [hst.out]; simp [e1, e2])
          have e0h := Lib.hid e0
          go_wp2_with (first | (go_at_call 71; (with_reducible refine Calls.mono kS2.out ?_); rintro e w' ⟨rfl, hB⟩; obtain ⟨g3, rfl⟩ := g.next hB; obtain ⟨q0, q1, q2, q3, q4, q5⟩ := hrw.out _ g3.h; obtain ⟨g4, hg4⟩ := g3.alloc (frO (spacesTo s.cons s.cons.length) (soldI s.cons (k : Nat) s.cons.length) (soldO s.cons (k : Nat) s.cons.length)); (have hn := World.alloc_heap_new g3.x (frO (spacesTo s.cons s.cons.length) (soldI s.cons (k : Nat) s.cons.length) (soldO s.cons (k : Nat) s.cons.length))); rw [hg4] at hn; obtain ⟨n0, n1, n2⟩ := row3b hn; (have zn := (zqo hn)); obtain ⟨t0, t1, t2, t3, t4, t5⟩ := hrw.out _ g4.h; (have zg4 := g4.size); clear hn) | (rw [hg4]))
          go_wp2_with (fail)
          have hH' : Hid (∀ j, j < k + 1 → hourOk s j = true ∧ spacesTo s.cons s.cons.length ≤ s.space) := Lib.hid fun j hj => by
           rcases Nat.lt_succ_iff_lt_or_eq.1 hj with h' | rfl
           · exact hH.out j h'
           · exact ⟨hf.out, e0h.out⟩
          exact ⟨⟨k + 1, by omega, by go_num, hH', g4, rfl⟩, by simp [intOf]; omega⟩
        · have e2 : s.out < soldO s.cons (k : Nat) s.cons.length := by simpa using d2
          have hf : Hid (onceB s = false) := Lib.hid (by unfold onceB; rw [all_not hlt (by rw [hst.out]; simp; omega)]; simp)
          go_wp2_with (first | (go_at_call 71; (with_reducible refine Calls.mono kS2.out ?_); rintro e w' ⟨rfl, hB⟩; obtain ⟨g3, rfl⟩ := g.next hB; obtain ⟨q0, q1, q2, q3, q4, q5⟩ := hrw.out _ g3.h; obtain ⟨g4, hg4⟩ := g3.alloc (frO (spacesTo s.cons s.cons.length) (soldI s.cons (k : Nat) s.cons.length) (soldO s.cons (k : Nat) s.cons.length)); (have hn := World.alloc_heap_new g3.x (frO (spacesTo s.cons s.cons.length) (soldI s.cons (k : Nat) s.cons.length) (soldO s.cons (k : Nat) s.cons.length))); rw [hg4] at hn; obtain ⟨n0, n1, n2⟩ := row3b hn; (have zn := (zqo hn)); obtain ⟨t0, t1, t2, t3, t4, t5⟩ := hrw.out _ g4.h; (have zg4 := g4.size); clear hn) | (rw [hg4]))
          go_ret
          exact BoolB.mk hf.out (below_tr hBw.out g4.h)
      · have e1 : s.inn < soldI s.cons (k : Nat) s.cons.length := by simpa using d1
        have hf : Hid (onceB s = false) := Lib.hid (by unfold onceB; rw [all_not hlt (by rw [hst.out]; simp; omega)]; simp)
        go_wp2_with (first | (go_at_call 71; (with_reducible refine Calls.mono kS2.out ?_); rintro e w' ⟨rfl, hB⟩; obtain ⟨g3, rfl⟩ := g.next hB; obtain ⟨q0, q1, q2, q3, q4, q5⟩ := hrw.out _ g3.h; obtain ⟨g4, hg4⟩ := g3.alloc (frO (spacesTo s.cons s.cons.length) (soldI s.cons (k : Nat) s.cons.length) (soldO s.cons (k : Nat) s.cons.length)); (have hn := World.alloc_heap_new g3.x (frO (spacesTo s.cons s.cons.length) (soldI s.cons (k : Nat) s.cons.length) (soldO s.cons (k : Nat) s.cons.length))); rw [hg4] at hn; obtain ⟨n0, n1, n2⟩ := row3b hn; (have zn := (zqo hn)); obtain ⟨t0, t1, t2, t3, t4, t5⟩ := hrw.out _ g4.h; (have zg4 := g4.size); clear hn) | (rw [hg4]))
        go_ret
        exact BoolB.mk hf.out (below_tr hBw.out g4.h)
    · have e0 : s.space < spacesTo s.cons s.cons.length := by simpa using d0
      have hf : Hid (onceB s = false) := Lib.hid (by unfold onceB; simp; omega)
      go_wp2_with (first | (go_at_call 71; (with_reducible refine Calls.mono kS2.out ?_); rintro e w' ⟨rfl, hB⟩; obtain ⟨g3, rfl⟩ := g.next hB; obtain ⟨q0, q1, q2, q3, q4, q5⟩ := hrw.out _ g3.h; obtain ⟨g4, hg4⟩ := g3.alloc (frO (spacesTo s.cons s.cons.length) (soldI s.cons (k : Nat) s.cons.length) (soldO s.cons (k : Nat) s.cons.length)); (have hn := World.alloc_heap_new g3.x (frO (spacesTo s.cons s.cons.length) (soldI s.cons (k : Nat) s.cons.length) (soldO s.cons (k : Nat) s.cons.length))); rw [hg4] at hn; obtain ⟨n0, n1, n2⟩ := row3b hn; (have zn := (zqo hn)); obtain ⟨t0, t1, t2, t3, t4, t5⟩ := hrw.out _ g4.h; (have zg4 := g4.size); clear hn) | (rw [hg4]))
      go_ret
      exact BoolB.mk hf.out (below_tr hBw.out g4.h)
  · obtain rfl : k = 48 := by omega
    have hf : Hid (onceB s = true) := Lib.hid (by unfold onceB; rw [all_up fun j hj => (hH.out j (by omega)).1]; simpa using (hH.out 0 (by omega)).2)
    clear hH kS
    go_wp2_with (fail)
    go_ret
    exact BoolB.mk hf.out (below_tr hBw.out g.h)
end Go.Proofs.YtpcamocnlnlgiaaGreat.B
set_option linter.unusedVariables false
set_option linter.unusedSimpArgs false
namespace Go.Proofs.YtpcamocnlnlgiaaGreat.B
open Go.RowKit Go.Sd Wl Bk L
attribute [local go_sem] Oper.semAt_some
theorem much06T {a : Int} {t : Bool} (h : muchB a = t) (w : World) : Calls Tryz.prog 42 #[.int .i64 a] w fun e w' => e = .returned (.bool t) ∧ w = w' :=
 (much06 a w).mono fun e w' ⟨t', he, ht, hw⟩ => ⟨by rw [he, ← ht.out, h], hw⟩
theorem refOffers (l : List CV) (v : Value) (w : World) (hc : ConsAt w v l) : Calls Tryz.prog 43 #[v] w (BoolB ((List.range l.length).all fun k => (cvAt l k).2.ok) w) := by
 have hc0 := hc.els
 obtain ⟨a, cap, rfl, hm, -⟩ := hc0
 unfold maxLen at hm
 have hrow : Hid (0 < l.length → _) := Lib.hid (cons_row hc)
 have hg := grow_cell w
 have hrt := Lib.hid hc.rts
 clear hc
 go_enter Tryz.func43, Tryz.ntmps43
 go_wp2_with (fail)
 go_loopw [3] (fun i wr => ∃ k : Nat, k ≤ l.length ∧ i = .int .i64 k ∧ Hid (∀ j, j < k → (cvAt l j).2.ok = true) ∧ ∃ g : Grow w, wr = g.x) (fun i _ => l.length - (intOf i).toNat)
 case atStart => exact ⟨0, by omega, rfl, Lib.hid fun j h => by omega, Grow.self w, rfl⟩
 case round =>
  obtain ⟨k, hk, rfl, hH, g, rfl⟩ := hrel
  by_cases hlt : k < l.length
  · obtain ⟨b, off, rfl, hbl, hx⟩ := hrow.out (by omega)
    obtain ⟨c0, c1, c2, c3, c4, c5, c6, c7, c8, c9, c10⟩ := hx k hlt
    have hrk := hrt.out k hlt
    have hki : (0 : Int) ≤ (k : Int) ∧ (k : Int) < l.length := by omega
    obtain ⟨t, ht⟩ : ∃ t, (cvAt l k).2.ok = t := ⟨_, rfl⟩
    have kC : Hid (Calls Tryz.prog 4 #[conV (cvAt l k).1 (cvAt l k).2] g.x fun e w' => e = .returned (.bool t) ∧ Below g.x.heap.size g.x w') := Lib.hid ((refContract _ _ g.x (hrk.mono g.h)).mono fun e w' h => h.lit ht)
    replace ht := Lib.hid ht
    clear hx hrk
    cases t
    · have hf : Hid (((List.range l.length).all fun k => (cvAt l k).2.ok) = false) := Lib.hid (all_not hlt ht.out)
      go_wp2_with (go_at_call 4; (with_reducible refine Calls.mono kC.out ?_); rintro e w' ⟨rfl, hB⟩; obtain ⟨g3, rfl⟩ := g.next hB)
      go_ret
      exact BoolB.mk hf.out g3.h
    · have hH' : Hid (∀ j, j < k + 1 → (cvAt l j).2.ok = true) := Lib.hid fun j hj => by
       rcases Nat.lt_succ_iff_lt_or_eq.1 hj with h' | rfl
       · exact hH.out j h'
       · exact ht.out
      go_wp2_with (go_at_call 4; (with_reducible refine Calls.mono kC.out ?_); rintro e w' ⟨rfl, hB⟩; obtain ⟨g3, rfl⟩ := g.next hB)
      exact ⟨⟨k + 1, by omega, by go_num, hH', g3, rfl⟩, by simp [intOf]; omega⟩
  · obtain rfl : k = l.length := by omega
    have hf : Hid (((List.range l.length).all fun k => (cvAt l k).2.ok) = true) := Lib.hid (all_up fun j hj => hH.out j hj)
    clear hH
    go_wp2_with (fail)
    go_ret
    exact BoolB.mk hf.out g.h
theorem refStore (s : Sto) (v : Value) (w : World) (hc : ConsAt w v s.cons) : Calls Tryz.prog 11 #[stoV v s] w (BoolB s.ok w) := by
 obtain ⟨W, hW⟩ : ∃ W, w.alloc (stoO v s) = W := ⟨_, rfl⟩
 obtain ⟨e, bW, z⟩ := boxedB hW
 obtain ⟨q0, q1, q2, q3, q4, q5⟩ := row6 e
 have hcW := Lib.hid (hc.mono bW)
 have hBw := Lib.hid bW
 have eh := Lib.hid e
 have hc0 := hc.els
 obtain ⟨a, cap, rfl, hm, -⟩ := hc0
 obtain ⟨b5, h5⟩ : ∃ b, (List.range s.cons.length).all (fun k => (cvAt s.cons k).2.ok) = b := ⟨_, rfl⟩
 have kC : Hid (Calls Tryz.prog 43 #[.slice a s.cons.length cap] W fun e w' => e = .returned (.bool b5) ∧ Below W.heap.size W w') := Lib.hid ((refOffers s.cons _ W hcW.out).mono fun e w' h => h.lit h5)
 have kO : Hid (b5 = true → s.cons.length ≤ 8 → ∀ X, Below W.heap.size W X → Calls Tryz.prog 44 #[stoV (.slice a s.cons.length cap) s, .slice a s.cons.length cap] X (BoolB (onceB s) X)) := Lib.hid fun hb hl X hX => refOnce s _ (allOk_of (h5.trans hb)) hl X (hcW.out.mono hX)
 have h5h := Lib.hid h5
 clear e bW hc h5 hm
 have hrw : Hid (∀ X, Below W.heap.size W X → _) := Lib.hid fun X (hX : Below W.heap.size W X) => row6 (kept_block hX eh.out)
 cases h1 : muchB s.space
 · have hf : Hid (s.ok = false) := Lib.hid (by unfold Sto.ok sHeadB; simp [h1])
   go_enter Tryz.func11, Tryz.ntmps11
   go_wp2_with (first | (go_at_call 13; (with_reducible refine Calls.mono (in06T (by assumption) _) ?_); rintro e w' ⟨rfl, rfl⟩) | (go_at_call 42; (with_reducible refine Calls.mono (much06T (by assumption) _) ?_); rintro e w' ⟨rfl, rfl⟩))
   go_ret
   exact BoolB.mk hf.out hBw.out
 cases h2 : muchB s.inn
 · have hf : Hid (s.ok = false) := Lib.hid (by unfold Sto.ok sHeadB; simp [h2])
   go_enter Tryz.func11, Tryz.ntmps11
   go_wp2_with (first | (go_at_call 13; (with_reducible refine Calls.mono (in06T (by assumption) _) ?_); rintro e w' ⟨rfl, rfl⟩) | (go_at_call 42; (with_reducible refine Calls.mono (much06T (by assumption) _) ?_); rintro e w' ⟨rfl, rfl⟩))
   go_ret
   exact BoolB.mk hf.out hBw.out
 cases h3 : muchB s.out
 · have hf : Hid (s.ok = false) := Lib.hid (by unfold Sto.ok sHeadB; simp [h3])
   go_enter Tryz.func11, Tryz.ntmps11
   go_wp2_with (first | (go_at_call 13; (with_reducible refine Calls.mono (in06T (by assumption) _) ?_); rintro e w' ⟨rfl, rfl⟩) | (go_at_call 42; (with_reducible refine Calls.mono (much06T (by assumption) _) ?_); rintro e w' ⟨rfl, rfl⟩))
   go_ret
   exact BoolB.mk hf.out hBw.out
 cases h4 : inB s.lead 0 48
 · have hf : Hid (s.ok = false) := Lib.hid (by unfold Sto.ok sHeadB; simp [h4])
   go_enter Tryz.func11, Tryz.ntmps11
   go_wp2_with (first | (go_at_call 13; (with_reducible refine Calls.mono (in06T (by assumption) _) ?_); rintro e w' ⟨rfl, rfl⟩) | (go_at_call 42; (with_reducible refine Calls.mono (much06T (by assumption) _) ?_); rintro e w' ⟨rfl, rfl⟩))
   go_ret
   exact BoolB.mk hf.out hBw.out
 cases h6 : inB s.fuel 0 1000
 · have hf : Hid (s.ok = false) := Lib.hid (by unfold Sto.ok sHeadB; simp [h6])
   go_enter Tryz.func11, Tryz.ntmps11
   go_wp2_with (first | (go_at_call 13; (with_reducible refine Calls.mono (in06T (by assumption) _) ?_); rintro e w' ⟨rfl, rfl⟩) | (go_at_call 42; (with_reducible refine Calls.mono (much06T (by assumption) _) ?_); rintro e w' ⟨rfl, rfl⟩))
   go_ret
   exact BoolB.mk hf.out hBw.out
 by_cases hl : s.cons.length ≤ 8
 case neg =>
  have hf : Hid (s.ok = false) := Lib.hid (by unfold Sto.ok sHeadB; simp [hl])
  have hl' : (8 : Int) < s.cons.length := by omega
  go_enter Tryz.func11, Tryz.ntmps11
  go_wp2_with (first | (go_at_call 13; (with_reducible refine Calls.mono (in06T (by assumption) _) ?_); rintro e w' ⟨rfl, rfl⟩) | (go_at_call 42; (with_reducible refine Calls.mono (much06T (by assumption) _) ?_); rintro e w' ⟨rfl, rfl⟩))
  go_ret
  exact BoolB.mk hf.out hBw.out
 have hl' : (s.cons.length : Int) ≤ 8 := by omega
 cases b5
 · have hf : Hid (s.ok = false) := Lib.hid (by unfold Sto.ok; rw [h5h.out]; simp)
   go_enter Tryz.func11, Tryz.ntmps11
   go_wp2_with (first | (go_at_call 13; (with_reducible refine Calls.mono (in06T (by assumption) _) ?_); rintro e w' ⟨rfl, rfl⟩) | (go_at_call 42; (with_reducible refine Calls.mono (much06T (by assumption) _) ?_); rintro e w' ⟨rfl, rfl⟩) | (go_at_call 43; (with_reducible refine Calls.mono kC.out ?_); rintro e w2 ⟨rfl, hX2⟩; obtain ⟨q0, q1, q2, q3, q4, q5⟩ := hrw.out _ hX2; have z2 := hX2.size))
   go_ret
   exact BoolB.mk hf.out (below_tr hBw.out hX2)
 have kO2 := Lib.hid (kO.out rfl hl)
 have hf : Hid (s.ok = onceB s) := Lib.hid (by
  unfold Sto.ok sHeadB
  rw [h5h.out, h1, h2, h3, h4, h6]
  simp [hl])
 clear kO
 go_enter Tryz.func11, Tryz.ntmps11
 go_wp2_with (first | (go_at_call 13; (with_reducible refine Calls.mono (in06T (by assumption) _) ?_); rintro e w' ⟨rfl, rfl⟩) | (go_at_call 42; (with_reducible refine Calls.mono (much06T (by assumption) _) ?_); rintro e w' ⟨rfl, rfl⟩) | (go_at_call 43; (with_reducible refine Calls.mono kC.out ?_); rintro e w2 ⟨rfl, hX2⟩; obtain ⟨q0, q1, q2, q3, q4, q5⟩ := hrw.out _ hX2; have z2 := hX2.size) | (go_at_call 44; (with_reducible refine Calls.mono (kO2.out _ hX2) ?_); rintro e w3 ⟨t, rfl, ht, hB3⟩))
 go_ret
 exact BoolB.mk (by rw [hf.out, ht.out]) (below_tr hBw.out (below_tr hX2 hB3))
end Go.Proofs.YtpcamocnlnlgiaaGreat.B
