/- Laws and walks: GHs, GLpl, GRr. -/
import Derived.Test.YthjmdagonfeneaaGreatK34
set_option maxRecDepth 100000
set_option maxHeartbeats 16000000
set_option linter.unusedVariables false
set_option linter.unusedSimpArgs false
namespace Gas
def hasB (s : St) (p : Pt) : Bool := inB p.g s.glo s.ghi && inB p.y s.ylo s.yhi && inB p.t s.tlo s.thi && inB p.w s.wlo s.whi
theorem hasB_iff {s : St} {p : Pt} : hasB s p = true ↔ s.Has p := by
 simp only [hasB, Bool.and_eq_true, inB_iff]
 exact ⟨fun ⟨⟨⟨a, b⟩, c⟩, d⟩ => ⟨a, b, c, d⟩, fun h => ⟨⟨⟨h.g, h.y⟩, h.t⟩, h.w⟩⟩
end Gas
namespace Go.Proofs.YthjmdagonfeneaaGreat.G
open Go.RowKit Go.Sd Gas
theorem refHas (s : St) (p : Pt) (w : World) : Calls Tryz.prog 9 #[stV s, ptV p] w (BoolB (hasB s p) w) := by
 obtain ⟨W1, hW1⟩ : ∃ W1, w.alloc (.cells #[.int .i64 s.glo, .int .i64 s.ghi, .int .i64 s.ylo, .int .i64 s.yhi, .int .i64 s.tlo, .int .i64 s.thi, .int .i64 s.wlo, .int .i64 s.whi] 33) = W1 := ⟨_, rfl⟩
 obtain ⟨eW0, bW0, sW0⟩ := boxed hW1
 obtain ⟨W, hW⟩ : ∃ W, W1.alloc (.cells #[.int .i64 p.g, .int .i64 p.y, .int .i64 p.t, .int .i64 p.w] 35) = W := ⟨_, rfl⟩
 obtain ⟨eW1, bW1, sW1⟩ := boxed hW
 replace eW0 := (bW1.block _ (zqo eW0)).trans eW0
 have hBw : Below w.heap.size w W := (by have := sW0; have := sW1; exact (bW0.trans (bW1.mono (by omega))))
 obtain ⟨zW0, rW0, tW0⟩ := row_cells eW0
 obtain ⟨qW0_0, qW0_1, qW0_2, qW0_3, qW0_4, qW0_5, qW0_6, qW0_7⟩ := rc8 eW0
 obtain ⟨fW0_0, fW0_1, fW0_2, fW0_3, fW0_4, fW0_5, fW0_6, fW0_7⟩ := rf8 eW0
 clear rW0 tW0 eW0
 obtain ⟨zW1, rW1, tW1⟩ := row_cells eW1
 obtain ⟨qW1_0, qW1_1, qW1_2, qW1_3⟩ := rc4 eW1
 obtain ⟨fW1_0, fW1_1, fW1_2, fW1_3⟩ := rf4 eW1
 clear rW1 tW1 eW1
 have xW0 : w.heap.size ≤ w.heap.size := by omega
 have xW1 : w.heap.size ≤ W1.heap.size := by omega
 clear bW0 sW0 bW1 sW1
 have hg := grow_cell W
 go_enter Tryz.func9, Tryz.ntmps9
 go_wp2_with (go_at_call 20; refine Calls.mono (refIn _ _ _ _) ?_; rintro e w1 ⟨(_ | _), rfl, ht, rfl⟩)
 all_goals
  go_ret
  exact BoolB.mk (by unfold Hid at *; simp [hasB, *]) hBw
end Go.Proofs.YthjmdagonfeneaaGreat.G
set_option linter.unusedVariables false
set_option linter.unusedSimpArgs false
namespace Gas
def lotsOp (l : Pt) (n : Int) : Op := ⟨1, n * l.g, n * l.y, l.t, n * l.w, 0, 0, 0, 0, 0⟩
def fineOp (c : Cav) (s : St) (o : Op) : Bool := match act c s o with
 | some (x, _) => decide (sure c x = 1)
 | none => false
def upTo (p : Nat → Bool) : Nat → Nat → Nat
 | 0, k => k
 | f + 1, k => if p (k + 1) = true then upTo p f (k + 1) else k
theorem upTo_run {p : Nat → Bool} : ∀ (m f k : Nat), (∀ j, k < j → j ≤ k + m → p j = true) → upTo p (m + f) k = upTo p f (k + m)
 | 0, f, k, _ => by simp
 | m + 1, f, k, h => by
  rw [show m + 1 + f = (m + f) + 1 by omega]
  simp only [upTo]
  rw [if_pos (h (k + 1) (by omega) (by omega)), upTo_run m f (k + 1) (fun j h1 h2 => h j (by omega) (by omega)), show k + 1 + m = k + (m + 1) by omega]
def roomOf (p : Nat → Bool) : Nat := upTo p 100 0
theorem roomOf_stop {p : Nat → Bool} {k : Nat} (hk : k < 100) (h : ∀ j, 0 < j → j ≤ k → p j = true) (hn : p (k + 1) = false) : roomOf p = k := by
 unfold roomOf
 rw [show 100 = k + ((99 - k) + 1) by omega, upTo_run k _ 0 (fun j h1 h2 => h j h1 (by omega))]
 simp [upTo, hn]
theorem roomOf_all {p : Nat → Bool} (h : ∀ j, 0 < j → j ≤ 100 → p j = true) : roomOf p = 100 := by
 unfold roomOf
 rw [show 100 = 100 + 0 by omega, upTo_run 100 0 0 (fun j h1 h2 => h j h1 (by omega))]
 rfl
theorem upTo_spec {p : Nat → Bool} : ∀ (f k : Nat), k ≤ upTo p f k ∧ upTo p f k ≤ k + f ∧ (∀ j, k < j → j ≤ upTo p f k → p j = true) ∧ (upTo p f k < k + f → p (upTo p f k + 1) = false)
 | 0, k => by simp [upTo]; intro j h1 h2; omega
 | f + 1, k => by
  simp only [upTo]
  by_cases e : p (k + 1) = true
  · rw [if_pos e]
    obtain ⟨h1, h2, h3, h4⟩ := upTo_spec (p := p) f (k + 1)
    refine ⟨by omega, by omega, fun j h5 h6 => ?_, fun h => h4 (by omega)⟩
    by_cases e2 : j = k + 1
    · rw [e2]; exact e
    · exact h3 j (by omega) h6
  · rw [if_neg e]
    refine ⟨by omega, by omega, fun j h1 h2 => by omega, fun _ => by simpa using e⟩
theorem roomOf_spec (p : Nat → Bool) : roomOf p ≤ 100 ∧ (∀ j, 0 < j → j ≤ roomOf p → p j = true) ∧ (roomOf p < 100 → p (roomOf p + 1) = false) := by
 obtain ⟨_, h2, h3, h4⟩ := upTo_spec (p := p) 100 0
 exact ⟨by unfold roomOf; omega, h3, fun h => h4 (by unfold roomOf at h; omega)⟩
theorem lots_wide {l : Pt} {n : Nat} (hl : l.Ok) (hn : n ≤ 100) : (lotsOp l n).lot.Wide := by
 have h1 := hl.g; have h2 := hl.y; have h3 := hl.w
 have e1 : (n : Int) * l.g ≤ 100 * 1000000 := Int.le_trans (mul_up (by omega) h1.1) (mul_up2 h1.2 (by omega))
 have e2 : (n : Int) * l.y ≤ 100 * 1000000 := Int.le_trans (mul_up (by omega) h2.1) (mul_up2 h2.2 (by omega))
 have e3 : (n : Int) * l.w ≤ 100 * 1000000000 := Int.le_trans (mul_up (by omega) h3.1) (mul_up2 h3.2 (by omega))
 exact ⟨⟨mul_nn (by omega) h1.1, by show (n : Int) * l.g ≤ 100000000; omega⟩, ⟨mul_nn (by omega) h2.1, by show (n : Int) * l.y ≤ 100000000; omega⟩, hl.t, ⟨mul_nn (by omega) h3.1, by show (n : Int) * l.w ≤ 100000000000; omega⟩⟩
theorem lots_fit {l : Pt} {n : Nat} (hl : l.Ok) (hn : n ≤ 100) : (lotsOp l n).Fit := .inl ⟨rfl, lots_wide hl hn⟩
theorem act_ok_fit {c : Cav} {s n : St} {o : Op} {q : Out} (hc : c.Ok) (hs : s.Ok) (ho : o.Fit) (h : act c s o = some (n, q)) : n.Ok := by
 obtain ⟨k, lg, ly, lt, lw, m, a, b, x, y⟩ := o
 rcases ho with ⟨hk, hl⟩ | ⟨hk, h1, h2⟩ | ⟨hk, h1, h2⟩
 · have hk : k = 1 := hk
   subst hk
   have hl : (⟨lg, ly, lt, lw⟩ : Pt).Wide := hl
   simp only [act, if_true] at h
   split at h
   · rename_i hh
     simp only [Option.some.injEq, Prod.mk.injEq] at h
     obtain ⟨rfl, rfl⟩ := h
     exact inj_ok hc hs ⟨hl.g.1, hl.y.1, hl.w.1, hl.t.1, hl.t.2⟩ hh
   · cases h
 · have hk : k = 2 := hk
   subst hk
   simp only [act] at h
   rw [if_neg (by decide), if_pos trivial] at h
   split at h
   · rename_i hh
     simp only [Option.some.injEq, Prod.mk.injEq] at h
     obtain ⟨rfl, rfl⟩ := h
     exact left_ok hs h1 hh
   · cases h
 · have hk : k = 3 := hk
   subst hk
   simp only [act] at h
   rw [if_neg (by decide), if_neg (by decide)] at h
   split at h
   · rename_i hh
     simp only [Option.some.injEq, Prod.mk.injEq] at h
     obtain ⟨rfl, rfl⟩ := h
     exact rest_ok hc hs h1 ⟨h2.1, h2.2.1⟩ hh
   · cases h
end Gas
namespace Gas
theorem act_lotsE {c : Cav} {s : St} {l : Pt} {n : Int} : act c s (lotsOp l n) = if s.ghi + n * l.g ≤ 1000000 ∧ s.yhi + n * l.y ≤ 1000000 ∧ s.whi + n * l.w ≤ 1000000000 then some (injS c s ⟨n * l.g, n * l.y, l.t, n * l.w⟩, ⟨0, 0, 0, 0, 0, 0⟩) else none := by
 unfold act
 exact if_pos rfl
theorem act_lots {c : Cav} {s x : St} {l : Pt} {n : Int} {q : Out} (h : act c s (lotsOp l n) = some (x, q)) : (s.ghi + n * l.g ≤ 1000000 ∧ s.yhi + n * l.y ≤ 1000000 ∧ s.whi + n * l.w ≤ 1000000000) ∧
    x.glo = s.glo + n * l.g ∧ x.ghi = s.ghi + n * l.g ∧ x.ylo = s.ylo + n * l.y ∧ x.yhi = s.yhi + n * l.y := by
 rw [act_lotsE] at h
 by_cases hh : s.ghi + n * l.g ≤ 1000000 ∧ s.yhi + n * l.y ≤ 1000000 ∧ s.whi + n * l.w ≤ 1000000000
 · rw [if_pos hh] at h
   simp only [Option.some.injEq, Prod.mk.injEq] at h
   obtain ⟨rfl, rfl⟩ := h
   exact ⟨hh, rfl, rfl, rfl, rfl⟩
 · rw [if_neg hh] at h; cases h
end Gas
namespace Gas
theorem fineOp_some {c : Cav} {s : St} {o : Op} (h : fineOp c s o = true) : ∃ x q, act c s o = some (x, q) ∧ sure c x = 1 := by
 unfold fineOp at h
 cases ha : act c s o with
 | none => rw [ha] at h; cases h
 | some r =>
  obtain ⟨x, q⟩ := r
  rw [ha] at h
  exact ⟨x, q, rfl, of_decide_eq_true h⟩
theorem lots_is {c : Cav} {s x : St} {l : Pt} {n : Nat} {q : Out} (hs : s.Ok) (hl : l.Ok) (h : act c s (lotsOp l (n : Int)) = some (x, q)) : (lotsOp l (n : Int)).Is := by
 obtain ⟨⟨h1, h2, h3⟩, _⟩ := act_lots h
 have a1 := hs.g; have a2 := hs.y; have a3 := hs.w
 have b1 := mul_nn (a := (n : Int)) (b := l.g) (by omega) hl.g.1
 have b2 := mul_nn (a := (n : Int)) (b := l.y) (by omega) hl.y.1
 have b3 := mul_nn (a := (n : Int)) (b := l.w) (by omega) hl.w.1
 exact Op.Is.inject ⟨(n : Int) * l.g, (n : Int) * l.y, l.t, (n : Int) * l.w⟩ ⟨⟨b1, by show (n : Int) * l.g ≤ 1000000; omega⟩, ⟨b2, by show (n : Int) * l.y ≤ 1000000; omega⟩, hl.t, ⟨b3, by show (n : Int) * l.w ≤ 1000000000; omega⟩⟩
theorem kept_plain {c : Cav} {s : St} {o : Op} {p : Pt} {v : Int} (hc : c.Ok) (hs : s.Ok) (ho : o.Is) (h0 : o.slo = 0 ∧ o.shi = 0 ∧ o.wlo = 0 ∧ o.whi = 0) (hp : s.Has p) (hv : c.vlo ≤ v ∧ v ≤ c.vhi) (h : fineOp c s o = true) :
    ∃ x g, play c p [o] [0] [0] = some (x, g) ∧ x.Ok ∧ keeps c x v = 1 ∧ opsB [o] = true ∧ truthB [o] [0] [0] = true := by
 obtain ⟨n, q, ha, hsu⟩ := fineOp_some h
 obtain ⟨h1, h2, h3, h4⟩ := h0
 obtain ⟨x, g, ho1, hx, _, hn⟩ := act_sound (u := 0) (v := 0) hc hs ho hp (by omega) (by omega) ha
 have hk := keeps_sure hc hn hx hv
 rw [hsu] at hk
 refine ⟨x, addPt ⟨0, 0, 0, 0⟩ g, ?_, hx.ok hn, ?_, ?_, ?_⟩
 · show (match one c p o 0 0 with | none => none | some (x, g) => some (x, addPt ⟨0, 0, 0, 0⟩ g)) = _
   rw [ho1]
 · rcases hk with hk | hk
   · exact hk
   · exact absurd rfl hk.1
 · simp [opsB, Op.is_ok ho]
 · refine truth_iff.2 ⟨rfl, rfl, fun k hk => ?_⟩
   obtain rfl : k = 0 := by simp at hk; omega
   show (inB 0 o.slo o.shi && inB 0 o.wlo o.whi) = true
   rw [h1, h2, h3, h4]; rfl
end Gas
set_option linter.unusedVariables false
set_option linter.unusedSimpArgs false
namespace Go.Proofs.YthjmdagonfeneaaGreat.G
open Go.RowKit Go.Sd Gas
theorem mul_in {n a B : Int} (hn : 0 ≤ n ∧ n ≤ 101) (ha : 0 ≤ a ∧ a ≤ B) (hB : B ≤ 1000000000) : IntKind.i64.wrap (n * a) = n * a := by
 have e0 := mul_nn hn.1 ha.1
 have e1 : n * a ≤ 101 * a := mul_up hn.2 ha.1
 exact IntWalk.i64_in _ (by omega)
theorem progLots (l : Pt) (n : Int) (w : World) (hl : l.Ok) (hn : 0 ≤ n ∧ n ≤ 101) : Calls Tryz.prog 34 #[ptV l, .int .i64 n] w fun e w' => e = .returned (opV (lotsOp l n)) ∧ Below w.heap.size w w' := by
 have m1 := mul_in hn hl.g (by decide)
 have m2 := mul_in hn hl.y (by decide)
 have m3 := mul_in hn hl.w (by decide)
 clear hl hn
 obtain ⟨W1, hW1⟩ : ∃ W1, w.alloc (.cells #[.int .i64 l.g, .int .i64 l.y, .int .i64 l.t, .int .i64 l.w] 35) = W1 := ⟨_, rfl⟩
 obtain ⟨eW0, bW0, sW0⟩ := boxed hW1
 have yW0_0 : w.heap.size < W1.heap.size := by omega
 obtain ⟨mW0_0_0, mW0_0_1, mW0_0_2, mW0_0_3⟩ := rc4 eW0
 obtain ⟨W, hW⟩ : ∃ W, W1.alloc (.cells #[.int .i64 0, .int .i64 0, .int .i64 0, .int .i64 0, .int .i64 0, .int .i64 0, .int .i64 0, .int .i64 0, .int .i64 0, .int .i64 0] 83) = W := ⟨_, rfl⟩
 obtain ⟨eW1, bW1, sW1⟩ := boxed hW
 replace eW0 := (bW1.block _ (zqo eW0)).trans eW0
 have hBw : Below w.heap.size w W := (by have := sW0; have := sW1; exact (bW0.trans (bW1.mono (by omega))))
 obtain ⟨zW0, rW0, tW0⟩ := row_cells eW0
 obtain ⟨qW0_0, qW0_1, qW0_2, qW0_3⟩ := rc4 eW0
 obtain ⟨fW0_0, fW0_1, fW0_2, fW0_3⟩ := rf4 eW0
 clear rW0 tW0 eW0
 obtain ⟨zW1, rW1, tW1⟩ := row_cells eW1
 obtain ⟨qW1_0, qW1_1, qW1_2, qW1_3, qW1_4, qW1_5, qW1_6, qW1_7, qW1_8, qW1_9⟩ := rc10 eW1
 obtain ⟨fW1_0, fW1_1, fW1_2, fW1_3, fW1_4, fW1_5, fW1_6, fW1_7, fW1_8, fW1_9⟩ := rf10 eW1
 clear rW1 tW1 eW1
 have xW0 : w.heap.size ≤ w.heap.size := by omega
 have xW1 : w.heap.size ≤ W1.heap.size := by omega
 clear bW0 sW0 bW1 sW1
 go_enter Tryz.func34, Tryz.ntmps34
 go_wp2
 refine bodyPost_ret (v := opV (lotsOp l n)) (by simp [results, Tryz.results34, go_sem, lotsOp, *]) rfl ⟨rfl, ?_⟩
 repeat' (first | (with_reducible exact hBw) | (with_reducible exact xW1) | (with_reducible refine Below.setCell ?_ ?_ _))
theorem refLots (l : Pt) (n : Int) (w : World) (hl : l.Ok) (hn : 0 ≤ n ∧ n ≤ 101) : Calls Tryz.prog 49 #[ptV l, .int .i64 n] w fun e w' => e = .returned (opV (lotsOp l n)) ∧ Below w.heap.size w w' := by
 have m1 := mul_in hn hl.g (by decide)
 have m2 := mul_in hn hl.y (by decide)
 have m3 := mul_in hn hl.w (by decide)
 clear hl hn
 obtain ⟨W1, hW1⟩ : ∃ W1, w.alloc (.cells #[.int .i64 l.g, .int .i64 l.y, .int .i64 l.t, .int .i64 l.w] 35) = W1 := ⟨_, rfl⟩
 obtain ⟨eW0, bW0, sW0⟩ := boxed hW1
 have yW0_0 : w.heap.size < W1.heap.size := by omega
 obtain ⟨mW0_0_0, mW0_0_1, mW0_0_2, mW0_0_3⟩ := rc4 eW0
 obtain ⟨W, hW⟩ : ∃ W, W1.alloc (.cells #[.int .i64 0, .int .i64 0, .int .i64 0, .int .i64 0, .int .i64 0, .int .i64 0, .int .i64 0, .int .i64 0, .int .i64 0, .int .i64 0] 83) = W := ⟨_, rfl⟩
 obtain ⟨eW1, bW1, sW1⟩ := boxed hW
 replace eW0 := (bW1.block _ (zqo eW0)).trans eW0
 have hBw : Below w.heap.size w W := (by have := sW0; have := sW1; exact (bW0.trans (bW1.mono (by omega))))
 obtain ⟨zW0, rW0, tW0⟩ := row_cells eW0
 obtain ⟨qW0_0, qW0_1, qW0_2, qW0_3⟩ := rc4 eW0
 obtain ⟨fW0_0, fW0_1, fW0_2, fW0_3⟩ := rf4 eW0
 clear rW0 tW0 eW0
 obtain ⟨zW1, rW1, tW1⟩ := row_cells eW1
 obtain ⟨qW1_0, qW1_1, qW1_2, qW1_3, qW1_4, qW1_5, qW1_6, qW1_7, qW1_8, qW1_9⟩ := rc10 eW1
 obtain ⟨fW1_0, fW1_1, fW1_2, fW1_3, fW1_4, fW1_5, fW1_6, fW1_7, fW1_8, fW1_9⟩ := rf10 eW1
 clear rW1 tW1 eW1
 have xW0 : w.heap.size ≤ w.heap.size := by omega
 have xW1 : w.heap.size ≤ W1.heap.size := by omega
 clear bW0 sW0 bW1 sW1
 go_enter Tryz.func49, Tryz.ntmps49
 go_wp2
 refine bodyPost_ret (v := opV (lotsOp l n)) (by simp [results, Tryz.results49, go_sem, lotsOp, *]) rfl ⟨rfl, ?_⟩
 repeat' (first | (with_reducible exact hBw) | (with_reducible exact xW1) | (with_reducible refine Below.setCell ?_ ?_ _))
end Go.Proofs.YthjmdagonfeneaaGreat.G
