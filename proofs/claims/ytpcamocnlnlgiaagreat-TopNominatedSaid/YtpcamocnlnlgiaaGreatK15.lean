/- Laws and walks: Loc, Bko. -/
import Derived.Test.YtpcamocnlnlgiaaGreatK14
set_option maxRecDepth 100000
set_option maxHeartbeats 16000000
set_option linter.unusedVariables false
set_option linter.unusedSimpArgs false
namespace Go.Proofs.YtpcamocnlnlgiaaGreat
open Go Go.RowKit Go.Sd
def NewAt (L : Nat) (cs : Array Value) (t : TypeId) (v : Value) (w : World) : Prop := ∃ b, v = .pointer (some ⟨b, 0, none⟩) ∧ L ≤ b ∧ w.heap[b]? = some (.cells cs t (0, 0))
def NewNow (v : Value) (w : World) : Prop := v = .pointer (some ⟨w.heap.size, 0, none⟩)
theorem NewAt.mono {L : Nat} {cs : Array Value} {t : TypeId} {v : Value} {w w' : World} (h : NewAt L cs t v w) (hb : Below w.heap.size w w') : NewAt L cs t v w' := by
 obtain ⟨b, h1, h2, h3⟩ := h
 exact ⟨b, h1, h2, (hb.block b (zqo h3)).trans h3⟩
theorem NewAt.ne {L : Nat} {cs : Array Value} {t : TypeId} {v u : Value} {w : World} (h : NewAt L cs t v w) (hn : NewNow u w) : v ≠ u := by
 obtain ⟨b, rfl, _, h3⟩ := h
 rintro rfl
 unfold NewNow at hn
 simp only [Value.pointer.injEq, Option.some.injEq, Addr.mk.injEq] at hn
 have := (zqo h3)
 omega
section
variable {P : Program} {Q : Exit → Act → World → Prop} {b0 : Act} {w : World} {l : List Oper} (n T : Nat) (opt sl : List Nat) (nd : List (List Nat)) (rs : List (Value → World → Prop)) (nw : List Nat)
def OnlyN (Q : Exit → Act → World → Prop) : Exit → Act → World → Prop
 | .normal, a, w => Q .normal a w
 | _, _, _ => False
theorem OnlyN.mk {Q : Exit → Act → World → Prop} {a : Act} {w : World} (h : Q .normal a w) : OnlyN Q .normal a w := h
theorem OnlyN.out {Q : Exit → Act → World → Prop} : ∀ e a w, OnlyN Q e a w → Q e a w := fun e a w h => by cases e <;> first | exact h | exact h.elim
theorem OnlyN.panic {Q : Exit → Act → World → Prop} : ∀ c a a' w, OnlyN Q (.panic c) a' w → OnlyN Q (.panic c) a w := fun _ _ _ _ h => h
theorem OnlyN.lets {Q : Exit → Act → World → Prop} : ¬ LetsOut (OnlyN Q) := fun ⟨_, _, h⟩ => h
theorem rows_fence {F : Fence} (hF : WideAt F) {row : String} {args : Array Value} {R : Value → World → Prop} (h : Rows P row args w R) : RowsIn F 0 P row args w R := fun c cs _ => by
 obtain ⟨v, w', hr, hs⟩ := h c cs
 refine ⟨v, w', hr, ?_⟩
 have h2 : StepsIn (Machine.fenced P Fence.wide) P (lone (Frame.ofRow P row args .normal) (c :: cs) w) (lone (c.finish v) cs w') := stepsIn_wide.2 hs
 rcases hF with rfl | ⟨r, rfl⟩
 · exact h2
 · exact h2
theorem fence_wp {F : Fence} (hF : WideAt F) {o : Oper} {a : Act} {K : Act → World → Prop} (hnd : ∀ c, o.op ≠ .defer c) (h : o.wp P a w K Q) : o.wpIn F 0 P a w K Q := by
 unfold Oper.wp at h
 unfold Oper.wpIn
 refine ⟨fun _ _ => hF.fn _, ?_⟩
 rw [Oper.semAt_eq _ _ _ hnd]
 generalize (execOp a.eval o).run P w = q at *
 cases q with
 | ok x w' =>
  cases x <;> simp only [Oper.upon] at h <;> simp only [Oper.uponIn]
  case value u => exact h
  case skip => exact h
  case defer d => exact h
  case enter f args => exact ⟨fun hd => (by rw [hF.depth] at hd; cases hd), hF.calls (callsIn_wide.2 h)⟩
  case row r args => exact ⟨fun hd => (by rw [hF.depth] at hd; cases hd), rows_fence hF h⟩
 | halt x w' =>
  cases x <;> simp only [Oper.upon] at h <;> simp only [Oper.uponIn]
  exact h
theorem fence_any {F : Fence} (hF : WideAt F) {ops : Array Oper} {md : Region.Mode} (hno : ¬ LetsOut Q) (hnd : ∀ (j : Nat) (o : Oper), ops[j]? = some o → ∀ c, o.op ≠ .defer c) : ∀ (g : Nat) (listed : Array Bool) (a : Act) (w : World), wpAny P md ops Q g listed a w → wpAnyIn F 0 P md ops Q g listed a w
 | 0, _, _, _, h => h
 | g + 1, listed, a, w, h => by
  refine ⟨h.1, fun i hi => ?_⟩
  have hh := h.2 i hi
  unfold wpOp at hh
  unfold wpOpIn
  split
  · rename_i ho; simp only [ho] at hh; exact fence_any hF hno hnd g _ _ _ hh
  · rename_i o ho
    simp only [ho] at hh
    split
    · rename_i hw
      simp only [hw, if_true] at hh
      rcases hh with hh | hh
      · exact Oper.wpIn_mono (fun a w => fence_any hF hno hnd g _ a w) (fence_wp hF (hnd _ _ ho) hh)
      · exact absurd hh.2 hno
    · rename_i hw
      simp only [hw] at hh
      exact ⟨fun _ _ => hF.fn _, fence_any hF hno hnd g _ _ _ hh⟩
theorem fence_region {F : Fence} (hF : WideAt F) {id : Nat} {ops : List Oper} (hm : P.follows .mixedOrders = true) (hnd : plainOps ops = true) (h : wpAny P .any ops.toArray (OnlyN Q) ops.toArray.size (Array.replicate ops.toArray.size false) b0 { w with drawn := w.drawn + 1 }) : (Code.region id ops.toArray true).wpIn F 0 P Q b0 w :=
 wpIn_mono (wpIn_region_any hm (fence_any hF OnlyN.lets (fun j o ho => plainOps_at hnd ho) _ _ _ _ h)) OnlyN.out
end
/-! ### A region that lays variables, in a round too -/
open Go.Sd in
theorem any_region_vars {P : Program} {G : World → World → Prop} {va : List Va} {l : List Oper} {Q : Exit → Act → World → Prop} {W : World} (hG : Growth G) {a : Act} (hok : varsOk va l = true)
    (hz : ∀ p ∈ va, ∀ w, (Instr.alloc p.e true (.tuple #[])).run P w = .ok (.pointer (some ⟨w.heap.size, 0, none⟩)) (w.alloc (.cells p.c p.e)))
    (hi : ∀ p ∈ va, (P.info? p.e).map (·.size) = some p.c.size) (hsz : ∀ p ∈ va, p.d < a.tmps.size)
    (h : ∀ (T : Type) (f : T → World), Nonempty T → (∀ g, G W (f g)) → (∀ g w', G (f g) w' → ∃ g', w' = f g') → wpQuiet P (lexOf va l).toArray (fun w' => ∃ g : T, w' = f g) (AfterV G va Q W) (lexOf va l) a) :
    wpAny P .any l.toArray Q l.toArray.size (Array.replicate l.toArray.size false) a { W with drawn := W.drawn + 1 } := by
 have hok' := hok
 simp only [varsOk, Bool.and_eq_true, decide_eq_true_eq] at hok'
 obtain ⟨⟨⟨⟨⟨⟨⟨hlb, hsel⟩, hva⟩, hops⟩, hnd⟩, hni⟩, hnj⟩, hij⟩ := hok'
 simp only [Region.lexB, Bool.and_eq_true] at hlb
 have hlen : (lexOf va l).length = l.length := by simp [lexOf]
 have any : ∀ x, G W x → wpAnyQ P .any (lexOf va l).toArray (fun w' => ∃ g : Gr G x, w' = g.x) (AfterV G va Q W) l.toArray.size (Array.replicate l.toArray.size false) a := fun x hx => by
  have h2 := wpAnyQ_lex (md := .any) (C := fun w' => ∃ g : Gr G x, w' = g.x) hlb.1 (lexOf va l) 0 (Array.replicate (lexOf va l).toArray.size false) a (by simp) (by simpa using hlb.2)
   (h (Gr G x) (fun g => g.x) ⟨⟨x, hG.refl _⟩⟩ (fun g => hG.trans _ _ _ hx g.h) (fun g w' hg => ⟨⟨w', hG.trans _ _ _ g.h hg⟩, rfl⟩))
  simpa [hlen] using h2
 exact vars_run (Q := Q) (W := W) hG hok hz hi l.toArray.size (Array.replicate l.toArray.size false) a a { W with drawn := W.drawn + 1 } (fun _ => 0) (by simp) (by simp)
  (fun j oj _ hl => (by rw [getD_replicate_false] at hl; cases hl)) hsz (any W (hG.refl _)) any
  ⟨rfl, rfl, fun _ _ => rfl, fun p _ hl => (by rw [getD_replicate_false] at hl; cases hl), fun p _ q _ hl => (by rw [getD_replicate_false] at hl; cases hl)⟩ (hG.drew W)
end Go.Proofs.YtpcamocnlnlgiaaGreat
set_option linter.unusedVariables false
set_option linter.unusedSimpArgs false
namespace Go.Proofs.YtpcamocnlnlgiaaGreat.B
open Go.RowKit Go.Sd Wl Bk L
attribute [local go_sem] Oper.semAt_some
variable {w0 : World} {rb : Nat} {gb go gc : Nat} {g : Int} {bb bo bc : Nat} {b : Int}
abbrev ptO (rb : Nat) : Obj := .cells #[.pointer (some ⟨rb, 0, none⟩)] 163
def WantI (w0 : World) (rb wb : Nat) (f : Fx) (n : Nat) (gb go gc : Nat) (g : Int) (bb bo bc : Nat) (b : Int) (k : Nat) (x : Int) (pre : List Unit) (X : World) : Prop :=
 RnAt w0 rb X f n gb go gc g bb bo bc b (.slice (some ⟨k, 0, none⟩) 1 1) (.slice none 0 0) (.slice none 0 0) (some (if pre = [] then 0 else x)) none none ∧ X.heap[wb]? = some (ptO rb)
theorem runWants {w0 : World} {rb : Nat} {gb go gc : Nat} {g : Int} {bb bo bc : Nat} {b : Int} (f : Fx) (n : Nat) (x : Int) (w : World) (h : RnAt w0 rb w f n gb go gc g bb bo bc b (.slice none 0 0) (.slice none 0 0) (.slice none 0 0) none none none) (ha : activeB f.c n = true) (hn : n < f.ns.length) (hns : NomsOk f.ns) (ham : (nmAt f.ns n).am = x) (hf : Fit f.c g x) :
    Calls Tryz.prog 86 #[.pointer (some ⟨rb, 0, none⟩)] w fun e w' => e = .returned (.tuple #[]) ∧ ∃ u, RnAt w0 rb w' f n gb go gc g bb bo bc b u (.slice none 0 0) (.slice none 0 0) (some x) none none := by
 have hx := h.fxw
 obtain ⟨cb, co, cc, hcv, hcb, -, hr⟩ := con1 hx.cons
 obtain ⟨ra, rcap, hrv, -, -⟩ := hr
 obtain ⟨c, rv, cv, hv, nv, sp, inn, out, hs, ns⟩ := f
 obtain ⟨na, ncap, hnv, hnm, -⟩ := id hx.nms
 dsimp only at hcv hrv hnv hnm ha hn hns ham hf
 subst hcv hrv hnv
 obtain ⟨W1, hW1⟩ : ∃ W, w.alloc (ptO rb) = W := ⟨_, rfl⟩
 obtain ⟨e1, b1, z1⟩ := boxedB hW1
 have r1 := h.mono b1
 have hmk : (Instr.makeSlice 41 (.int .i64 1) (.int .i64 1)).run Tryz.prog W1.drew = .ok (.slice (some ⟨W1.heap.size, 0, none⟩) 1 1) (W1.drew.alloc (.cells #[.int .i64 0] 3)) := make_one _
 obtain ⟨W2, hW2⟩ : ∃ W, W1.drew.alloc (.cells #[.int .i64 0] 3) = W := ⟨_, rfl⟩
 rw [hW2] at hmk
 have e2 : W2.heap[W1.heap.size]? = some (.cells #[.int .i64 0] 3 (0, 0)) := by rw [← hW2]; exact World.alloc_heap_new W1.drew _
 have b2 : Below W1.heap.size W1 W2 := by rw [← hW2]; exact (Below.refl _ _).drew.alloc (Nat.le_refl _) _
 have r2 := r1.mono b2
 have hzr := (zqo h.row)
 have o2 : One (rb + 1) W2 (.slice (some ⟨W1.heap.size, 0, none⟩) 1 1) 0 := .inr ⟨W1.heap.size, 0, 1, _, rfl, by omega, e2, by simp, by unfold maxLen; omega, by simp, fun k hk => by
  obtain rfl : k = 0 := by simp at hk; omega
  rfl⟩
 obtain ⟨V, hV⟩ : ∃ V, W2.setCell ⟨rb, 15, none⟩ (.slice (some ⟨W1.heap.size, 0, none⟩) 1 1) = V := ⟨_, rfl⟩
 have kk : Kept (fun k => k ≠ rb) W2 V := by rw [← hV]; exact (Kept.refl _ _).setCell (p := ⟨rb, 15, none⟩) (.inl fun h => h rfl) _
 have rV : RnAt w0 rb V ⟨c, .slice ra c.rates.length rcap, .slice (some ⟨cb, co, none⟩) 1 cc, hv, .slice na ns.length ncap, sp, inn, out, hs, ns⟩ n gb go gc g bb bo bc b (.slice (some ⟨W1.heap.size, 0, none⟩) 1 1) (.slice none 0 0) (.slice none 0 0) (some 0) none none :=
  r2.row' kk (by rw [← hV, row_set r2.row]; rfl) (Fl.kept (x := some 0) o2 kk fun k _ => by omega) (y1 := none) (y2 := none) rfl rfl
 have eV := (kk.block w.heap.size (by have := b2.size; omega) (by omega)).trans (kept_block b2 e1)
 obtain ⟨-, -, -, -, -, d5, -, -, -, -, -, -, -, -, -, -, -, -, -⟩ := row19 r1.row
 have zr1 := (zqo r1.row)
 have q0 := row1c e1
 obtain ⟨-, -, -, -, -, k5, -, -, -, -, -, -, -, -, -, -, -, -, -⟩ := row19 (kept_block ((Below.refl _ W1).drew) r1.row)
 have q1 := row1c (kept_block ((Below.refl _ W1).drew) e1)
 obtain ⟨-, -, -, -, -, m5, -, -, -, -, -, -, -, -, -, m15, -, -, -⟩ := row19 r2.row
 have q2 := row1c (kept_block b2 e1)
 have zr2 := (zqo r2.row)
 have f15 := frz r2.row 15
 obtain ⟨-, -, -, -, -, n5, -, -, -, -, -, -, -, -, -, -, -, -, -⟩ := row19 rV.row
 have q3 := row1c eV
 have hV2 := Lib.hid rV
 have eVh := Lib.hid eV
 have zV := Lib.hid (show W1.heap.size < V.heap.size ∧ w.heap.size < V.heap.size ∧ rb < V.heap.size ∧ w0.heap.size ≤ rb from by have := kk.size; have := (zqo e2); have := rV.old; omega)
 clear r1 r2 o2 e1 e2 b1 b2 kk rV eV h hx
 refine (callsIn_wide (n := 0)).1 ?_
 refine callsIn_of_wp_marks Tryz.func86 rfl trivial ?_
 simp only [Tryz.ntmps86, List.size_toArray, List.length_cons, List.length_nil, Nat.reduceAdd, Nat.reduceSub, Array.replicate_succ, Array.replicate_zero, List.push_toArray, List.append_toArray, List.nil_append, List.cons_append]
 refine wpIn_wide.2 ?_
 go_wp2_with (fail)
 refine wp_region_noPanic ?_
 refine wp_region_held_drew (S := (fun w' => w'.cell? ⟨w.heap.size, 0, none⟩ = some (.pointer (some ⟨rb, 0, none⟩)) ∧ w'.cell? ⟨rb, 5, none⟩ = some (.slice (some ⟨cb, co, none⟩) 1 cc))) (by kernel_rfl) ?_ (fun hHeld => ?_)
 · first | (first | exact ⟨q1, k5⟩ | exact ⟨q2, m5⟩ | exact ⟨q3, n5⟩) | (dsimp only; (first | exact ⟨q1, k5⟩ | exact ⟨q2, m5⟩ | exact ⟨q3, n5⟩))
 refine wpAnyH_take (i := 0) (v := ?_) rfl (by kernel_rfl) (by kernel_rfl) (by kernel_rfl) (fun _ _ _ h => h) (Or.inl ⟨by rfl, ?_⟩) (by assumption) ?_
 rotate_left
 · intro w hSw; (try dsimp only at hSw); go_simp; (try with_reducible rfl)
 try simp only [Act.put, List.getElem_toArray, List.getElem_cons_succ, List.getElem_cons_zero, List.setIfInBounds_toArray, List.set_cons_zero, List.set_cons_succ]
 refine wpAnyH_take (i := 1) (v := ?_) rfl (by kernel_rfl) (by kernel_rfl) (by kernel_rfl) (fun _ _ _ h => h) (Or.inl ⟨by rfl, ?_⟩) (by assumption) ?_
 rotate_left
 · intro w hSw; (try dsimp only at hSw); go_simp; (try with_reducible rfl)
 try simp only [Act.put, List.getElem_toArray, List.getElem_cons_succ, List.getElem_cons_zero, List.setIfInBounds_toArray, List.set_cons_zero, List.set_cons_succ]
 refine wpAnyH_take (i := 2) (v := ?_) rfl (by kernel_rfl) (by kernel_rfl) (by kernel_rfl) (fun _ _ _ h => h) (Or.inl ⟨by rfl, ?_⟩) (by assumption) ?_
 rotate_left
 · intro w hSw; (try dsimp only at hSw); go_simp; (try with_reducible rfl)
 try simp only [Act.put, List.getElem_toArray, List.getElem_cons_succ, List.getElem_cons_zero, List.setIfInBounds_toArray, List.set_cons_zero, List.set_cons_succ]
 refine wpAnyH_take (i := 3) (v := ?_) rfl (by kernel_rfl) (by kernel_rfl) (by kernel_rfl) (fun _ _ _ h => h) (Or.inl ⟨by rfl, ?_⟩) (by assumption) ?_
 rotate_left
 · intro w hSw; (try dsimp only at hSw); go_simp; (try with_reducible rfl)
 try simp only [Act.put, List.getElem_toArray, List.getElem_cons_succ, List.getElem_cons_zero, List.setIfInBounds_toArray, List.set_cons_zero, List.set_cons_succ]
 refine wpAnyH_take (i := 4) (v := ?_) rfl (by kernel_rfl) (by kernel_rfl) (by kernel_rfl) (fun _ _ _ h => h) (Or.inl ⟨by rfl, ?_⟩) (by assumption) ?_
 rotate_left
 · intro w hSw; (try dsimp only at hSw); go_simp; (try with_reducible rfl)
 try simp only [Act.put, List.getElem_toArray, List.getElem_cons_succ, List.getElem_cons_zero, List.setIfInBounds_toArray, List.set_cons_zero, List.set_cons_succ]
 refine wpAnyH_take (i := 5) (v := ?_) rfl (by kernel_rfl) (by kernel_rfl) (by kernel_rfl) (fun _ _ _ h => h) (Or.inl ⟨by rfl, ?_⟩) (by assumption) ?_
 rotate_left
 · intro w hSw; (try dsimp only at hSw); go_simp; (try with_reducible rfl)
 try simp only [Act.put, List.getElem_toArray, List.getElem_cons_succ, List.getElem_cons_zero, List.setIfInBounds_toArray, List.set_cons_zero, List.set_cons_succ]
 refine wpAnyH_take (i := 6) (v := ?_) rfl (by kernel_rfl) (by kernel_rfl) (by kernel_rfl) (fun _ _ _ h => h) (Or.inl ⟨by rfl, ?_⟩) (by assumption) ?_
 rotate_left
 · intro w hSw; (try dsimp only at hSw); go_simp; (try with_reducible rfl)
 try simp only [Act.put, List.getElem_toArray, List.getElem_cons_succ, List.getElem_cons_zero, List.setIfInBounds_toArray, List.set_cons_zero, List.set_cons_succ]
 refine wpAnyH_ready (rs := [7]) (by kernel_rfl) (by simp) ?_
 refine AllReadyH.cons rfl (fun K hK => ?_) AllReadyH.nil
 go_simp
 refine hK.out _ _ ?_ (fun hNow => ?_)
 · first | (first | exact ⟨q1, k5⟩ | exact ⟨q2, m5⟩ | exact ⟨q3, n5⟩) | (dsimp only; (first | exact ⟨q1, k5⟩ | exact ⟨q2, m5⟩ | exact ⟨q3, n5⟩))
 clear hK K hHeld
 have hHeld := hNow
 clear hNow
 try simp only [Act.put, List.getElem_toArray, List.getElem_cons_succ, List.getElem_cons_zero, List.setIfInBounds_toArray, List.set_cons_zero, List.set_cons_succ]
 refine wpAnyH_take (i := 8) (v := ?_) rfl (by kernel_rfl) (by kernel_rfl) (by kernel_rfl) (fun _ _ _ h => h) (Or.inl ⟨by rfl, ?_⟩) (by assumption) ?_
 rotate_left
 · intro w hSw; (try dsimp only at hSw); go_simp; (try with_reducible rfl)
 try simp only [Act.put, List.getElem_toArray, List.getElem_cons_succ, List.getElem_cons_zero, List.setIfInBounds_toArray, List.set_cons_zero, List.set_cons_succ]
 refine wpAnyH_take (i := 9) (v := ?_) rfl (by kernel_rfl) (by kernel_rfl) (by kernel_rfl) (fun _ _ _ h => h) (Or.inl ⟨by rfl, ?_⟩) (by assumption) ?_
 rotate_left
 · intro w hSw; (try dsimp only at hSw); go_simp; (try with_reducible rfl)
 try simp only [Act.put, List.getElem_toArray, List.getElem_cons_succ, List.getElem_cons_zero, List.setIfInBounds_toArray, List.set_cons_zero, List.set_cons_succ]
 refine wpAnyH_take (i := 10) (v := ?_) rfl (by kernel_rfl) (by kernel_rfl) (by kernel_rfl) (fun _ _ _ h => h) (Or.inl ⟨by rfl, ?_⟩) (by assumption) ?_
 rotate_left
 · intro w hSw; (try dsimp only at hSw); go_simp; (try with_reducible rfl)
 try simp only [Act.put, List.getElem_toArray, List.getElem_cons_succ, List.getElem_cons_zero, List.setIfInBounds_toArray, List.set_cons_zero, List.set_cons_succ]
 refine wpAnyH_ready (rs := [11]) (by kernel_rfl) (by simp) ?_
 refine AllReadyH.cons rfl (fun K hK => ?_) AllReadyH.nil
 go_simp
 refine hK.out _ _ ?_ (fun hNow => ?_)
 · first | (first | exact ⟨q1, k5⟩ | exact ⟨q2, m5⟩ | exact ⟨q3, n5⟩) | (dsimp only; (first | exact ⟨q1, k5⟩ | exact ⟨q2, m5⟩ | exact ⟨q3, n5⟩))
 clear hK K hHeld
 have hHeld := hNow
 clear hNow
 try simp only [Act.put, List.getElem_toArray, List.getElem_cons_succ, List.getElem_cons_zero, List.setIfInBounds_toArray, List.set_cons_zero, List.set_cons_succ]
 refine wpAnyH_done (by kernel_rfl) ?_ _
 refine NoPanic.normal ?_
 clear hW1 hmk hW2 hV q0 q1 q2 d5 k5 m5 zr1 zr2 f15
 go_wp2_with (fail)
 refine (wpIn_wide (n := 0)).1 ?_
 refine wp_rangeFuncB (gf := 109) (pb := #[.pointer (some ⟨rb, 0, none⟩)]) (lb := #[]) (S := fun k => k < w0.heap.size ∨ k = rb) rfl (fun args w => by kernel_rfl)
  (active_yields n V hV2.out ha) ?hS (fun _ => rfl) (WantI w0 rb w.heap.size ⟨c, .slice ra c.rates.length rcap, .slice (some ⟨cb, co, none⟩) 1 cc, hv, .slice na ns.length ncap, sp, inn, out, hs, ns⟩ n gb go gc g bb bo bc b W1.heap.size x) ?hI ?h0 ?hround ?hdone
 case hS => rintro k (h | rfl) <;> have := zV.out <;> omega
 case h0 => exact ⟨hV2.out, eVh.out⟩
 case hI =>
  rintro pre X Y ⟨h1, h2⟩ hk
  have z := zV.out
  have hk2 : Kept (fun k => k < V.heap.size) X Y := hk.mono fun k _ h => by omega
  exact ⟨h1.keptN z.2.2.1 (fun k e => by cases e; exact z.1) (fun k e => by cases e) (fun k e => by cases e) hk2, (hk2.block _ (zqo h2) z.2.1).trans h2⟩
 case hround =>
  rintro l pre ⟨⟩ W hl hlt hpre hKS ⟨h1, h2⟩
  obtain rfl : pre = [] := by
   have := hpre.length_le
   simp at this
   exact this
  rw [if_pos rfl] at h1
  obtain ⟨X, hX⟩ : ∃ X, W.alloc (conO (.slice ra c.rates.length rcap) c) = X := ⟨_, rfl⟩
  obtain ⟨eX, bX, zX⟩ := boxedB hX
  gi_wp2
  refine ⟨(Kept.all bX).mono fun _ _ _ => trivial, ?_⟩
  intro U hk2 hs2
  have z := zV.out
  have rX := h1.mono bX
  have hk3 : Kept (fun k => k < V.heap.size) X U := hk2.mono fun k _ h => by omega
  have rU := rX.keptN z.2.2.1 (fun k e => by cases e; exact z.1) (fun k e => by cases e) (fun k e => by cases e) hk3
  have bU := (hk3.block w.heap.size (by have := (zqo h2); omega) z.2.1).trans (kept_block bX h2)
  have cU := (hk2.block W.heap.size zX (by omega)).trans eX
  have zs1 : U.heap.size = X.heap.size := hs2
  have hUX : V.heap.size + 2 ≤ U.heap.size := by omega
  obtain ⟨u0, u1, u2, u3, u4, u5, u6, u7, u8, u9, u10, u11, u12, u13, u14, u15, u16, u17, u18⟩ := row19 rU.row
  have t1 := row1c bU
  have zb := (zqo bU)
  have zr := (zqo rU.row)
  have hg := grow_cell U
  have kC : Hid (∀ g : Grow U, Calls Tryz.prog 110 #[.agg #[.int .i64 sp, .int .i64 inn, .int .i64 out, .int .i64 0, .int .i64 0, .slice (some ⟨cb, co, none⟩) 1 cc], .slice na ns.length ncap, .int .i64 0, .int .i64 n] g.x fun e w' => e = .returned (.int .i64 n) ∧ Below g.x.heap.size g.x w') :=
   Lib.hid fun g => bookCounts ⟨c, .slice ra c.rates.length rcap, .slice (some ⟨cb, co, none⟩) 1 cc, hv, .slice na ns.length ncap, sp, inn, out, hs, ns⟩ n g.x (rU.fxw.mono g.h) hn hns
  have rUh := Lib.hid rU
  have bUh := Lib.hid bU
  have cUh := Lib.hid cU
  replace hUX := Lib.hid hUX
  replace hpre := Lib.hid hpre
  clear rU bU cU rX hk3 h1 h2 hk2 hs2 eX bX hX hKS zs1
  gi_wp2_with (fail)
  refine fence_grow_tail (.inr ⟨_, rfl⟩) 16 (by kernel_rfl) (by kernel_rfl) (by kernel_rfl) ?_
  simp only [List.take_succ_cons, List.take_zero, List.drop_succ_cons, List.drop_zero]
  repeat (go_big_quiet_step (first | (go_at_call 110; with_reducible exact Calls.grow (kC.out _))))
  refine wpQuiet_nil ?_
  rintro _ ⟨g1, rfl⟩
  have rG := rUh.out.mono g1.h
  have bG := kept_block g1.h bUh.out
  have cG := kept_block g1.h cUh.out
  clear kC hg u5 u0 u1 u2 u3 u4 u6 u7 u8 u9 u10 u11 u12 u13 u14 u15 u16 u17 u18 t1 zr zb
  obtain ⟨u0, u1, u2, u3, u4, u5, u6, u7, u8, u9, u10, u11, u12, u13, u14, u15, u16, u17, u18⟩ := row19 rG.row
  have t1 := row1c bG
  obtain ⟨v0, v1, v2, v3, v4, v5, v6, v7, v8, v9, v10⟩ := row11 cG
  have zb := (zqo bG)
  have zr := (zqo rG.row)
  have zc := (zqo cG)
  have hxG := rG.fxw
  obtain ⟨nb, noff, hnb, hnz, hnc⟩ := nms_row hxG.nms (by show 0 < ns.length; omega)
  obtain ⟨-, -, -, y3⟩ := hnc n hn
  subst hnb
  rw [ham] at y3
  obtain ⟨gb', go', gc', he, -, hgz, -, -, hgc, -⟩ := rG.gas.form
  cases he
  obtain ⟨cb', co', cc', he, -, -, hr⟩ := con1 hxG.cons
  cases he
  have kR : Hid (∀ X, Below g1.x.heap.size g1.x X → Calls Tryz.prog 26 #[conV (.slice ra c.rates.length rcap) c, .int .i64 g] X fun e w' => e = .returned (rtV (rateOf c g)) ∧ Below X.heap.size X w') := Lib.hid fun X hX => progRate0 c hxG.ok _ g ⟨hf.g0, hf.gs⟩ X (hr.mono hX)
  have hgn : (n : Int) < ns.length := by omega
  have hok := Lib.hid hxG.ok
  have rGh := Lib.hid rG
  have bGh := Lib.hid bG
  have hft := Lib.hid hf
  unfold maxLen at hnm
  clear hxG hnc hr rG bG cG rUh bUh cUh hf
  gi_wp2_with (fail)
  obtain ⟨q, hq⟩ : ∃ q, rateOf c g = q := ⟨_, rfl⟩
  rw [hq] at kR
  refine fence_region (.inr ⟨_, rfl⟩) (by kernel_rfl) (by kernel_rfl) (any_region_vars growth_below (va := [⟨19, 6, 74, #[.int .i64 0, .int .i64 0, .int .i64 0], 21, .tmp 58⟩]) (by kernel_rfl) ?_ ?_ (by simp) (fun T f hT hf hcl => ?_))
  · intro p hp w
    simp only [List.mem_cons, List.not_mem_nil, or_false] at hp
    rcases hp with rfl <;> go_simp
  · intro p hp
    simp only [List.mem_cons, List.not_mem_nil, or_false] at hp
    rcases hp with rfl <;> kernel_rfl
  have hg : ∀ (g : T) (b o : Nat), b < g1.x.heap.size → (f g).cell? ⟨b, o, none⟩ = g1.x.cell? ⟨b, o, none⟩ := fun g => below_cell (hf g)
  simp only [lexOf, List.zipIdx_cons, List.zipIdx_nil, List.map_cons, List.map_nil, isMade, List.any_cons, List.any_nil, Nat.reduceAdd, Nat.reduceBEq, Bool.or_false, Bool.false_or, Bool.or_self, Bool.false_eq_true, if_false, if_true, Nat.zero_add, BEq.rfl, Bool.or_true, Bool.true_or]
  simp only [Go.Sd.blank]
  repeat (go_big_quiet_step ((first | (go_at_call 26; (with_reducible refine Calls.mono (kR.out _ (hf _)) ?_); rintro e w1 ⟨rfl, hb1⟩; exact ⟨rfl, hcl _ _ hb1⟩))))
  refine wpQuiet_nil ?_
  refine ⟨?_, ?_⟩
  · intro p hp
    simp only [List.mem_cons, List.not_mem_nil, or_false] at hp
    rcases hp with rfl <;> (constructor <;> simp [go_sem, Value.cells, Value.oneCell'])
  intro ns w' hB hv
  have hvb := hv.2.2
  obtain ⟨n1, rfl, hn1, hl1, hc1, hf1⟩ := vars_one hv
  have en1 := (hvb 0 _ n1 rfl rfl).2
  simp [go_sem, Value.cells] at en1
  clear hvb
  refine OnlyN.mk ?_
  clear hv hf hcl hg
  simp only [placeV, Act.put, List.setIfInBounds_toArray, List.set_cons_zero, List.set_cons_succ]
  simp [go_sem] at hc1
  obtain ⟨T, rfl⟩ : ∃ T, T = w' := ⟨_, rfl⟩
  have rT := rGh.out.mono hB
  have bT := kept_block hB bGh.out
  have kM : Hid (∀ g' : Grow T, Calls Tryz.prog 108 #[.pointer (some ⟨rb, 0, none⟩), .int .i64 0] g'.x fun e w' => e = .returned (.int .i64 (c.space - g)) ∧ Below g'.x.heap.size g'.x w') := Lib.hid fun g' => runRoom g'.x (rT.mono g'.h) ⟨hft.out.g0, hft.out.gs⟩
  clear kR
  clear u5 u0 u1 u2 u3 u4 u6 u7 u8 u9 u10 u11 u12 u13 u14 u15 u16 u17 u18 t1 zr zb zc v0 v1 v2 v3 v4 v5 v6 v7 v8 v9 v10 y3 hgc hgz
  obtain ⟨u0, u1, u2, u3, u4, u5, u6, u7, u8, u9, u10, u11, u12, u13, u14, u15, u16, u17, u18⟩ := row19 rT.row
  have t1 := row1c bT
  obtain ⟨-, v1, v2⟩ := row3b en1
  have zb := (zqo bT)
  have zr := (zqo rT.row)
  obtain ⟨gb', go', gc', he, -, hgz, -, -, hgc, -⟩ := rT.gas.form
  cases he
  have q1 := hft.out.inn
  have q2 := hft.out.out
  have q3 := hft.out.bs
  have q4 := hft.out.b0
  have q5 := hft.out.x0
  have q6 := hft.out.x1
  rw [hq] at q1 q2
  have i1 : ¬ q.inn < x := by omega
  have i2 : ¬ c.space - g < x := by omega
  have i3 : ¬ q.out < -x := by omega
  have i4 : ¬ g < -x := by omega
  have i5 : IntKind.i64.wrap (-x) = -x := IntWalk.i64_in _ (by omega)
  have i6 : max x 0 - max (-x) 0 = x := by omega
  have i7 : IntKind.i64.wrap x = x := IntWalk.i64_in _ (by omega)
  replace q1 := Lib.hid q1
  have hgT := grow_cell T
  have rTh := Lib.hid rT
  have bTh := Lib.hid bT
  have hBh := Lib.hid hB
  clear rT bT hB hf1 hc1 en1 rGh bGh
  gi_wp2_with (fail)
  refine fence_grow_tail (.inr ⟨_, rfl⟩) 30 (by kernel_rfl) (by kernel_rfl) (by kernel_rfl) ?_
  simp only [List.take_succ_cons, List.take_zero, List.drop_succ_cons, List.drop_zero]
  repeat (go_big_quiet_step (first | (go_at_call 108; with_reducible exact Calls.grow (kM.out _))))
  refine wpQuiet_nil ?_
  rintro _ ⟨g2, rfl⟩
  have rS := rTh.out.mono g2.h
  have bS := kept_block g2.h bTh.out
  obtain ⟨k', o', c', he, -, hkz, -, -, hkc, hkf⟩ := One.form (show One (rb + 1) g2.x (.slice (some ⟨W1.heap.size, 0, none⟩) 1 1) 0 from rS.l0)
  cases he
  have rF := Lib.hid (rS.setW x)
  have z := zV.out
  have kF : Hid (Kept (fun k => k ≠ W1.heap.size) U (g2.x.setCell ⟨W1.heap.size, 0, none⟩ (.int .i64 x))) := Lib.hid ((((Kept.all g1.h).trans (.all hBh.out)).trans (.all g2.h)).trans ((Kept.refl _ _).setCell (p := ⟨W1.heap.size, 0, none⟩) (.inl fun h => h rfl) _))
  have hne : w.heap.size ≠ W1.heap.size := by omega
  have bF := Lib.hid (((Kept.refl (fun k => k ≠ W1.heap.size) g2.x).setCell (p := ⟨W1.heap.size, 0, none⟩) (.inl fun h => h rfl) (.int .i64 x)).block w.heap.size (zqo bS) hne |>.trans bS)
  clear rS bS hgT kM u5 u0 u1 u2 u3 u4 u6 u7 u8 u9 u10 u11 u12 u13 u14 u15 u16 u17 u18 t1 zr zb v1 v2 hgc hgz
  gi_wp2_with (fail)
  all_goals
   (try rw [show x + x = x by omega])
   refine ⟨kF.out.mono fun k _ h => ?_, by rw [if_neg (by simp)]; exact rF.out, bF.out⟩
   rcases h with (h | h) | h | h <;> omega
 case hdone =>
  rintro D Y hDX ⟨h1, h2⟩ hkX hDm
  rw [if_neg (by simp)] at h1
  have z := zV.out
  go_wp2_with (fail)
  refine leaves_marks (B := V.heap.size) [D] Y (Marks.cons (Marks.nil _ _) (w := V) (fun _ h => by cases h) hDX (Nat.le_refl V.heap.size) hDm) fun w' hb => ?_
  exact ⟨.tuple #[], results_none rfl _ _ _, rfl, _, h1.keptN z.2.2.1 (fun k e => by cases e; exact z.1) (fun k e => by cases e) (fun k e => by cases e) (.of_below hb fun _ _ h => h)⟩
end Go.Proofs.YtpcamocnlnlgiaaGreat.B
