/- Laws and walks: Gen. -/
import Derived.OrdersIn
import Derived.TacticsIn
import Derived.OrdersHeld
import Derived.Deep.RegionHeld3
import Derived.Test.YtpcamocnlnlgiaaGreatK01
set_option maxRecDepth 100000
set_option maxHeartbeats 16000000
set_option linter.unusedVariables false
set_option linter.unusedSimpArgs false
namespace Go.Sd
open Go Go.RowKit
variable {P : Program} {ops : Array Oper} {md : Region.Mode} {C : World → Prop} {F : Fence}
def plainOps (l : List Oper) : Bool := l.all fun o => match o.op with | .defer _ => false | _ => true
theorem plainOps_at {l : List Oper} (h : plainOps l = true) {j : Nat} {o : Oper} (ho : l.toArray[j]? = some o) : ∀ c, o.op ≠ .defer c := by
 intro c hc
 rw [List.getElem?_toArray] at ho
 have := List.all_eq_true.1 h o (List.mem_of_getElem? ho)
 rw [hc] at this
 cases this
def WideAt (F : Fence) : Prop := F = Fence.wide ∨ ∃ r, F = Fence.wide.inRound r
theorem WideAt.fn (h : WideAt F) (f : FuncId) : F.fn f := by
 rcases h with rfl | ⟨r, rfl⟩ <;> trivial
theorem WideAt.depth (h : WideAt F) : F.depth = none := by
 rcases h with rfl | ⟨r, rfl⟩ <;> rfl
theorem WideAt.calls {f : FuncId} {args : Array Value} {w : World} {R : Ending → World → Prop} (h : WideAt F) (hc : CallsIn Fence.wide 0 P f args w R) : CallsIn F 0 P f args w R := by
 rcases h with rfl | ⟨r, rfl⟩
 · exact hc
 · exact CallsIn.inRound r hc
theorem fence_of_quiet (hF : WideAt F) {o : Oper} {a : Act} {K : Act → Prop} {K' : Act → World → Prop} {Q' : Exit → Act → World → Prop} {w : World} (hnd : ∀ c, o.op ≠ .defer c) (hw : C w) (h : ∀ a w', C w' → K a → K' a w')
    (hh : o.quiet P a C K) : o.wpIn F 0 P a w K' Q' := by
 obtain ⟨v, h1, h2⟩ := hh
 have h3 := h1 w hw
 unfold Oper.quietAt at h3
 unfold Oper.wpIn
 refine ⟨fun _ _ => hF.fn _, ?_⟩
 rw [Oper.semAt_eq _ _ _ hnd]
 generalize (execOp a.eval o).run P w = q at *
 cases q with
 | ok x w' =>
  cases x <;> simp only [Oper.quietUpon] at h3 <;> simp only [Oper.uponIn]
  case value u =>
   obtain ⟨e1, e2⟩ := h3
   rw [e1, e2]
   exact h _ _ hw h2
  case skip =>
   obtain ⟨e1, e2⟩ := h3
   rw [e1, ← e2]
   exact h _ _ hw h2
  case enter f args =>
   obtain ⟨e1, hc⟩ := h3
   rw [e1]
   exact ⟨fun hd => (by rw [hF.depth] at hd; cases hd), (hF.calls (callsIn_wide.2 hc)).mono fun e w'' ⟨he, hw''⟩ => by subst he; exact h _ _ hw'' h2⟩
 | halt x w' => simp only [Oper.quietUpon] at h3
theorem fence_op (hF : WideAt F) {i : Nat} {a : Act} {K : Act → Prop} {K' : Act → World → Prop} {Q' : Exit → Act → World → Prop} {w : World} (hnd : ∀ (j : Nat) (o : Oper), ops[j]? = some o → ∀ c, o.op ≠ .defer c) (hC : C w) (h : ∀ a w', C w' → K a → K' a w')
    (hh : qOp P ops C i K a) : wpOpIn F 0 P ops Q' i K' a w := by
 unfold qOp at hh
 unfold wpOpIn
 split
 · rename_i ho; simp only [ho] at hh; exact h _ _ hC hh
 · rename_i o ho
   simp only [ho] at hh
   split
   · rename_i hw; simp only [hw, if_true] at hh; exact fence_of_quiet hF (hnd _ _ ho) hC h hh
   · rename_i hw; simp only [hw] at hh; exact ⟨fun _ _ => hF.fn _, h _ _ hC hh⟩
def wpAnyQL (P : Program) (md : Region.Mode) (ops : Array Oper) (C : World → Prop) (n : Nat) (L : Array Bool → Act → Prop) : Nat → Array Bool → Act → Prop
 | 0, listed, a => L listed a
 | f + 1, listed, a =>
  Region.ready md ops listed ≠ [] ∧ ∀ i ∈ Region.ready md ops listed, i < n ∧ qOp P ops C i (wpAnyQL P md ops C n L f (listed.setIfInBounds i true)) a
theorem anyIn_of_head (hF : WideAt F) (hnd : ∀ (j : Nat) (o : Oper), ops[j]? = some o → ∀ c, o.op ≠ .defer c) {n g : Nat} {L : Array Bool → Act → Prop} {Q' : Exit → Act → World → Prop} (hL : ∀ listed a w, C w → L listed a → wpAnyIn F 0 P md ops Q' g listed a w) :
    ∀ (f : Nat) (listed : Array Bool) (a : Act) (w : World), C w → wpAnyQL P md ops C n L f listed a → wpAnyIn F 0 P md ops Q' (f + g) listed a w
 | 0, listed, a, w, hw, h => by rw [Nat.zero_add]; exact hL _ _ _ hw h
 | f + 1, listed, a, w, hw, h => by
  rw [show f + 1 + g = (f + g) + 1 by omega]
  exact ⟨fun h0 => absurd h0 h.1, fun i hi => fence_op hF hnd hw (fun a' w' hw' h' => anyIn_of_head hF hnd hL f _ a' w' hw' h') (h.2 i hi).2⟩
theorem wpAnyQL_first {n i : Nat} {oi : Oper} {v : Value} {L : Array Bool → Act → Prop} (hi : ops[i]? = some oi) (hsel : ∀ (j : Nat) (o : Oper) cs b, ops[j]? = some o → o.op ≠ .select cs b)
    (hs : Region.sinkB md ops n = true) (hc : Region.chainB md ops n = true) (hn : n < ops.size) (hin : i < n)
    (hdone : ∀ listed a, L listed a → ∀ j ∈ Region.ready md ops listed, n ≤ j) :
    ∀ (f : Nat) (listed : Array Bool) (a : Act), HeadInv md ops n listed →
     (∀ j oj, ops[j]? = some oj → j ≠ i → listed.getD j true = false → (∀ e ∈ oj.after, Region.binds md e = true → e.on ≠ i) → oi.apart ops oj = true) →
     i ∈ Region.ready md ops listed → YieldsIn P ops C oi v a →
     wpAnyQL P md ops C n L f (listed.setIfInBounds i true) (a.put oi.dst v) → wpAnyQL P md ops C n L (f + 1) listed a := by
 intro f
 induction f with
 | zero =>
  intro listed a inv _ hr hy H
  have hun := (mem_ready.1 hr).1
  refine ⟨fun h => (by rw [h] at hr; cases hr), fun j hj => ?_⟩
  have hjn : j < n := by
   rcases Nat.lt_or_ge j n with h | h
   · exact h
   · exact absurd hj (tail_waits hs hc hn inv _ i rfl hin hun j h)
  refine ⟨hjn, ?_⟩
  by_cases hji : j = i
  · subst hji; exact hy.qOp hi H
  · have := hdone _ _ H j (ready_mono hj hji)
    omega
 | succ f ih =>
  intro listed a inv hfree hr hy H
  have hun := (mem_ready.1 hr).1
  refine ⟨fun h => (by rw [h] at hr; cases hr), fun j hj => ?_⟩
  have hjn : j < n := by
   rcases Nat.lt_or_ge j n with h | h
   · exact h
   · exact absurd hj (tail_waits hs hc hn inv _ i rfl hin hun j h)
  refine ⟨hjn, ?_⟩
  by_cases hji : j = i
  · subst hji; exact hy.qOp hi H
  · have h1 := (H.2 j (ready_mono hj hji)).2
    obtain ⟨hjun, oj, hoj, hall⟩ := mem_ready.1 hj
    have hnot : ∀ e ∈ oj.after, Region.binds md e = true → e.on ≠ i := fun e he hb heq => by
     have h1 := hall e he hb
     rw [heq, getD_both hun] at h1
     cases h1
    have h2 := qOp_put hoj (hfree j oj hoj hji hjun hnot) (fun cs b => hsel i oi cs b hi) (fun cs b => hsel j oj cs b hoj) hy h1
    have hfree' : ∀ k ok, ops[k]? = some ok → k ≠ i → (listed.setIfInBounds j true).getD k true = false →
        (∀ e ∈ ok.after, Region.binds md e = true → e.on ≠ i) → oi.apart ops ok = true := fun k ok hk hki hun hno => by
     refine hfree k ok hk hki ?_ hno
     by_cases hjk : j = k
     · subst hjk; exact hjun
     · rw [getD_set_ne true hjk] at hun; exact hun
    refine qOp_mono (fun a' h3 => ih (listed.setIfInBounds j true) a' (inv.set hj hjn) hfree' (ready_mono hr (Ne.symm hji)) h3.1 ?_) h2
    rw [Array.setIfInBounds_comm _ _ hji]
    exact h3.2
theorem wpAnyQL_lex {n g : Nat} {Lq : Act → Prop} (hsel : Region.noSelect ops = true) (hs : Region.sinkB md ops n = true) (hc : Region.chainB md ops n = true) (hn : n < ops.size) :
    ∀ (l : List Oper) (k : Nat) (listed : Array Bool) (a : Act), (∀ j, j < l.length → l[j]? = ops[k + j]?) → k + l.length = n → HeadInv md ops n listed →
    Region.lexHead md ops g l.length k listed = true → wpQuiet P ops C Lq l a →
    wpAnyQL P md ops C n (fun listed' a' => Region.seqB md ops g n listed' = true ∧ Lq a') l.length listed a
 | [], k, listed, a, _, hk, _, hB, h => by
  have : k = n := by simpa using hk
  subst this
  exact ⟨by simpa [Region.lexHead] using hB, h⟩
 | o :: l, k, listed, a, hl, hk, inv, hB, h => by
  have h0 : ops[k]? = some o := by simpa using (hl 0 (by simp)).symm
  simp only [List.length_cons, Region.lexHead, Bool.and_eq_true] at hB
  obtain ⟨⟨hr, hf⟩, hB'⟩ := hB
  have hkn : k < n := by simp only [List.length_cons] at hk; omega
  have hr' : k ∈ Region.ready md ops listed := by simpa using hr
  have hst : qOp P ops C k (wpQuiet P ops C Lq l) a := by unfold qOp; simp only [h0]; exact h
  obtain ⟨v, hy, hK⟩ := yieldsIn_of_qOp h0 hst
  exact wpAnyQL_first h0 (Region.noSelect_spec hsel) hs hc hn hkn (fun listed' a' hL => seqB_ready hL.1) l.length listed a inv (Region.free_spec h0 hf) hr' hy
   (wpAnyQL_lex hsel hs hc hn l (k + 1) _ _ (fun j hj => by have := hl (j + 1) (by simp; omega); simpa [Nat.add_assoc, Nat.add_comm 1 j] using this) (by simp only [List.length_cons] at hk; omega) (inv.set hr' hkn) hB' hK)
theorem anyIn_of_seq {Q' : Exit → Act → World → Prop} : ∀ (l : List Oper) (k : Nat) (listed : Array Bool) (a : Act) (w : World), (∀ j, l[j]? = ops[k + j]?) →
    Region.seqB md ops l.length k listed = true → wpListIn F 0 P ops Q' l a w → wpAnyIn F 0 P md ops Q' l.length listed a w
 | [], _, _, _, _, _, hB, h => ⟨by simpa [Region.seqB] using hB, h⟩
 | o :: l, k, listed, a, w, hl, hB, h => by
  have h0 : ops[k]? = some o := by simpa using (hl 0).symm
  simp only [List.length_cons, Region.seqB, Bool.and_eq_true, decide_eq_true_eq] at hB
  refine ⟨fun h1 => (by rw [hB.1] at h1; cases h1), fun i hi => ?_⟩
  rw [hB.1] at hi
  have hik : i = k := by simpa using hi
  subst hik
  have hw : wpOpIn F 0 P ops Q' i (wpListIn F 0 P ops Q' l) a w := by unfold wpOpIn; simp only [h0]; exact h
  exact wpOpIn_mono (fun a' w' h' => anyIn_of_seq l (i + 1) _ a' w' (fun j => by have := hl (j + 1); simpa [Nat.add_assoc, Nat.add_comm 1 j] using this) hB.2 h') hw
theorem fence_quiet_tail (hF : WideAt F) {id : Nat} {Q : Exit → Act → World → Prop} {a : Act} {w : World} {l : List Oper} (n : Nat) (hnd : plainOps l = true) (hm : P.follows .mixedOrders = true) (hB : Region.lexTailB .any l.toArray n = true) (hC : C w.drew)
    (h : wpQuiet P l.toArray C (fun a' => ∀ w', C w' → wpListIn F 0 P l.toArray Q (l.drop n) a' w') (l.take n) a) : (Code.region id l.toArray true).wpIn F 0 P Q a w := by
 simp only [Region.lexTailB, Bool.and_eq_true, decide_eq_true_eq] at hB
 obtain ⟨⟨⟨⟨hsel, hn⟩, hs⟩, hc⟩, hlex⟩ := hB
 have hn' : n < l.length := by simpa using hn
 have htl : (l.take n).length = n := by simp; omega
 have hdl : (l.drop n).length = l.toArray.size - n := by simp
 have inv0 : HeadInv .any l.toArray n (Array.replicate l.toArray.size false) :=
  ⟨by simp, fun j oj _ hl => (by rw [getD_replicate_false] at hl; cases hl), fun t _ ht => getD_in (by simpa using ht) (getD_replicate_false _ _)⟩
 have H := wpAnyQL_lex (md := .any) (g := l.toArray.size - n) hsel hs hc hn (l.take n) 0 _ a (fun j hj => by
  have hj' : j < n := by rw [htl] at hj; exact hj
  simp [hj']) (by simpa using htl) inv0 (by rw [htl]; exact hlex) h
 refine wpIn_region_any hm ?_
 have := anyIn_of_head hF (fun _ _ ho => plainOps_at hnd ho) (Q' := Q) (g := l.toArray.size - n) (fun listed a' w' hw hL => by
  have := anyIn_of_seq (F := F) (P := P) (md := .any) (Q' := Q) (l.drop n) n listed a' w' (fun j => by simp [List.getElem?_drop]) (by rw [hdl]; exact hL.1) (hL.2 w' hw)
  rwa [hdl] at this) _ _ _ _ hC H
 rw [htl, show n + (l.toArray.size - n) = l.toArray.size by omega] at this
 exact this
theorem fence_grow_tail (hF : WideAt F) {id : Nat} {Q : Exit → Act → World → Prop} {a : Act} {w : World} {l : List Oper} (n : Nat) (hnd : plainOps l = true) (hm : P.follows .mixedOrders = true) (hB : Region.lexTailB .any l.toArray n = true)
    (h : wpQuiet P l.toArray (fun w' => ∃ g : Grow w, w' = g.x) (fun a' => ∀ w', (∃ g : Grow w, w' = g.x) → wpListIn F 0 P l.toArray Q (l.drop n) a' w') (l.take n) a) : (Code.region id l.toArray true).wpIn F 0 P Q a w :=
 fence_quiet_tail hF (C := fun w' => ∃ g : Grow w, w' = g.x) n hnd hm hB ⟨⟨w.drew, (Below.refl _ _).drew⟩, rfl⟩ h
end Go.Sd
namespace Go.Sd
open Go Go.RowKit
variable {P : Program}
def roundPostP (P : Program) (l : Nat) (R : Ending → World → Prop) : Exit → Act → World → Prop
 | .panic chain, a, w => a.defers = [] ∧ R (.panicked chain) w
 | e, a, w => roundPost P l R e a w
theorem roundIn_panics {F : Fence} {n : Nat} {l : Nat} {f : FuncId} {tmps : Array Value} {assign body : Code} {w : World} {R : Ending → World → Prop} (hF : F.fn f) (hfn : ∃ fn, P.funcs[f]? = some fn)
    (h : assign.wpIn (F.inRound l) n P (Exit.then (fun a₁ w₁ => ∃ w₂, (Instr.beginRound l).run P w₁ = .ok () w₂ ∧ body.wpIn (F.inRound l) n P (roundPostP P l R) a₁ w₂) (fun _ _ _ => False))
     { tmps := tmps, defers := [] } w) :
    RoundIn F n P l f tmps assign body w R := by
 refine ⟨hF, fun c cs hr => ?_⟩
 let b : Frame := { (default : Frame) with fn := f, kind := .normal, roundOf := some l }
 have hb0 : Frame.round l f tmps assign body .normal = b.atR { tmps := tmps, defers := [] } [.code assign, .beginRound, .code body] := by
  simp [Frame.round, Frame.atR, b]
 have hr' : (F.inRound l).room ((c :: cs).length + 1 + n) := hr
 have hF' : (F.inRound l).fn b.fn := hF
 obtain ⟨e, a₁, w₁, hq, harr⟩ := h b [.beginRound, .code body] (c :: cs) rfl hF' hr'
 rw [← hb0] at harr
 cases e with
 | normal =>
  obtain ⟨w₂, hbr, hbody⟩ := hq
  have s1 : StepsIn (Machine.fenced P (F.inRound l)) P (lone (b.atR a₁ [.beginRound, .code body]) (c :: cs) w₁) (lone (b.atR a₁ [.code body]) (c :: cs) w₂) :=
   .one (fenced_calm (fr := b.atR a₁ [.beginRound, .code body]) hF' hr' rfl) (stepR_beginRound rfl hbr)
  obtain ⟨e₂, a₂, w₃, hq₂, harr₂⟩ := hbody b [] (c :: cs) rfl hF' hr'
  cases e₂ with
  | normal =>
   obtain ⟨v, w₄, hend, hR⟩ := hq₂
   exact ⟨.returned v, w₄, hR, (StepsIn.trans harr s1).trans (StepsIn.trans harr₂ (.one (fenced_calm (fr := b.atR a₂ []) hF' hr' rfl) (stepR_round_end rfl rfl hend)))⟩
  | ret =>
   obtain ⟨v, w₄, hend, hR⟩ := hq₂
   obtain ⟨k₁, hs⟩ := harr₂.2 rfl
   exact ⟨.returned v, w₄, hR, (StepsIn.trans harr s1).trans (StepsIn.trans hs (.one (fenced_calm (fr := b.atR a₂ (.code .ret :: k₁)) hF' hr' rfl) (stepR_round_ret rfl rfl hend)))⟩
  | exit id =>
   obtain ⟨v, w₄, hend, hR⟩ := hq₂
   obtain ⟨k₁, hk, hs⟩ := harr₂.2 rfl rfl
   exact ⟨.returned v, w₄, hR, (StepsIn.trans harr s1).trans (StepsIn.trans hs (.one (fenced_calm (fr := b.atR a₂ (.code (.exit id) :: k₁)) hF' hr' rfl) (stepR_round_exit rfl rfl hk hend)))⟩
  | goto t =>
   obtain ⟨v, w₄, hend, hR⟩ := hq₂
   obtain ⟨k₁, hk, hs⟩ := harr₂.2 rfl rfl
   exact ⟨.returned v, w₄, hR, (StepsIn.trans harr s1).trans (StepsIn.trans hs (.one (fenced_calm (fr := b.atR a₂ (.code (.goto t) :: k₁)) hF' hr' rfl) (stepR_round_goto rfl rfl hk hend)))⟩
  | panic chain =>
   obtain ⟨hd, hR⟩ := hq₂
   obtain ⟨todo, hs⟩ := harr₂
   have hl : Frame.leaving P { b.atR a₂ todo with mode := .panicking chain } w₃ (.panicked chain) := ⟨rfl, hd, hfn⟩
   exact ⟨.panicked chain, w₃, hR, (StepsIn.trans harr s1).trans (StepsIn.trans hs (.one (fenced_leaving (F := F.inRound l) (n := n) hF' hr' hl) (step_leave_panicked hl)))⟩
  | outgrown => exact hq₂.elim
 | exit id => exact hq.elim
 | goto t => exact hq.elim
 | ret => exact hq.elim
 | panic chain => exact hq.elim
 | outgrown => exact hq.elim
def WpAt (fn : FuncId) (P : Program) (c : Code) (Q : Exit → Act → World → Prop) (a : Act) (w : World) : Prop :=
 ∀ (b : Frame) (k : List Item) (cs : List Frame), b.roundOf = none → b.fn = fn → ∃ e a' w', Q e a' w' ∧ ArrivesIn (Machine.fenced P Fence.wide) P (lone (b.atR a (.code c :: k)) cs w) b k cs e a' w'
section
variable {fn : FuncId} {Q : Exit → Act → World → Prop} {a : Act} {w : World}
theorem WpAt.block {id : Nat} {c : Code} (h : WpAt fn P c (Exit.inBlock id Q) a w) : WpAt fn P (Code.block id c) Q a w := by
 intro b k cs hro hb
 have h0 : (lone (b.atR a (.code (.block id c) :: k)) cs w).fenced P Fence.wide := fenced_wide _ _
 obtain ⟨e, a₁, w₁, hq, harr⟩ := h b (.inBlock id :: k) cs hro hb
 cases e with
 | normal => exact ⟨.normal, a₁, w₁, hq, .head h0 stepR_block (StepsIn.trans harr (.one (fenced_wide _ _) stepR_inBlock))⟩
 | exit id' =>
  by_cases hid : id' = id
  · simp only [Exit.inBlock, hid, if_true] at hq
    exact ⟨.normal, a₁, w₁, hq, .head h0 stepR_block (harr.1 k (by simp [exitTo, hid]))⟩
  · simp only [Exit.inBlock, hid, if_false] at hq
    have this : (id == id') = false := by simp; exact fun h => hid h.symm
    have hx : exitTo id' (.inBlock id :: k) = exitTo id' k := by simp [exitTo, this]
    exact ⟨.exit id', a₁, w₁, hq, fun k' hk => .head h0 stepR_block (harr.1 k' (by rw [hx]; exact hk)),
     fun hr' hk => let ⟨k₁, h1, h2⟩ := harr.2 hr' (by rw [hx]; exact hk); ⟨k₁, h1, .head h0 stepR_block h2⟩⟩
 | goto l =>
  have hx : gotoIn l (.inBlock id :: k) = gotoIn l k := by simp [gotoIn]
  exact ⟨_, a₁, w₁, hq, fun k' hk => .head h0 stepR_block (harr.1 k' (by rw [hx]; exact hk)),
   fun hr' hk => let ⟨k₁, h1, h2⟩ := harr.2 hr' (by rw [hx]; exact hk); ⟨k₁, h1, .head h0 stepR_block h2⟩⟩
 | ret => exact ⟨_, a₁, w₁, hq, .of_steps (.one h0 stepR_block) harr⟩
 | panic ch => exact ⟨_, a₁, w₁, hq, .of_steps (.one h0 stepR_block) harr⟩
 | outgrown => exact ⟨_, a₁, w₁, hq, .of_steps (.one h0 stepR_block) harr⟩
theorem WpAt.rangeFunc {g : Operand} {ps : Array Tmp} {assign body : Code}
    (h : ∃ (l : Nat) (mark : List Deferred) (w₁ : World) (d : Deferred) (w₁' : World) (f : FuncId) (args : Array Value) (w₂ : World),
     (Instr.enterLoop fn a.tmps ps assign body none).run P w = .ok (l, mark) w₁ ∧
     (resolve a.eval (rangeCall g l) 0).run P w₁ = .ok d w₁' ∧
     (invoke d.target d.args).run P w₁' = .ok (.enter f args) w₂ ∧
     CallsIn Fence.wide 0 P f args w₂ (rangePost Fence.wide 0 P l Q { a with defers := mark ++ a.defers })) :
    WpAt fn P (Code.rangeFunc g ps assign body) Q a w := by
 intro b k cs hro hb
 obtain ⟨l, mark, w₁, d, w₁', f, args, w₂, he, hres, hinv, hF, hcall⟩ := h
 rw [← hb, ← hro] at he
 have h0 : (lone (b.atR a (.code (.rangeFunc g ps assign body) :: k)) cs w).fenced P Fence.wide := fenced_wide _ _
 have henter := stepR_rangeFunc (P := P) (b := b) (a := a) (k := k) (cs := cs) (w := w) he hres hinv
 obtain ⟨e, w₃, fr, hR, hsteps, hfn, hleave⟩ := hcall (b.atR { a with defers := mark ++ a.defers } (.inRangeFunc l :: k) :: cs) (room_wide _)
 cases e with
 | outgrown =>
  obtain ⟨a₀, w₀, hq⟩ := hR
  exact ⟨.outgrown, a₀, w₀, hq, .inr (Outgrown.of_steps (.one henter) hsteps)⟩
 | returned v =>
  obtain ⟨jump, w₄, hend, hj⟩ := hR
  have sback : StepsIn (Machine.fenced P Fence.wide) P (lone (b.atR a (.code (.rangeFunc g ps assign body) :: k)) cs w) (lone (b.atR { a with defers := mark ++ a.defers } ((jump.map Item.code).toList ++ k)) cs w₄) := by
   refine .head h0 henter (StepsIn.trans hsteps (.head (fenced_wide _ _) ?_ (.one (fenced_wide _ _) (stepR_endRangeFunc hend))))
   rw [← finish_atR_inRangeFunc l v]; exact step_leave_returned hleave
  cases jump with
  | none => exact ⟨.normal, _, w₄, hj, sback⟩
  | some c =>
   obtain ⟨e', a'', w₅, hq, harr⟩ := hj b k cs hro trivial (room_wide _)
   exact ⟨e', a'', w₅, hq, .of_steps sback harr⟩
 | panicked chain =>
  refine ⟨.panic chain, _, w₃, hR, .inRangeFunc l :: k, .head h0 henter (StepsIn.trans hsteps (.one (fenced_wide _ _) ?_))⟩
  rw [← Frame.raise_atR]; exact step_leave_panicked hleave
end
def SeqsP {α : Type} (P : Program) (gf : Nat) (lb : Array Value) (encs : α → Array Value) (xs : List α) (S : Nat → Prop) (w : World) : Prop :=
 ∀ (l : Nat) (J : List α → World → Prop) (Jx : World → Prop) (Jp : List PanicEntry → World → Prop) (W : World), Kept S w W →
  (∀ pre X Y, J pre X → Below W.heap.size X Y → J pre Y) → (∀ X Y, Jx X → Below W.heap.size X Y → Jx Y) →
  (∀ pre x W1, pre ++ [x] <+: xs → Kept S w W1 → W.heap.size ≤ W1.heap.size → J pre W1 → YieldAt Fence.wide 0 P l (encs x) W1 fun e W' =>
   (e = .returned (.bool true) ∧ J (pre ++ [x]) W' ∧ Kept (fun k => S k ∨ W.heap.size ≤ k) W1 W') ∨ (e = .returned (.bool false) ∧ Jx W') ∨ (∃ c, e = .panicked c ∧ Jp c W')) →
  J [] W →
  CallsIn Fence.wide 0 P gf (#[.func (.yield l) #[] #[]] ++ lb) W fun e W' => ((∃ v, e = .returned v) ∧ (J xs W' ∨ Jx W')) ∨ (∃ c, e = .panicked c ∧ Jp c W')
def roundEndP {α : Type} (S : Nat → Prop) (I : List α → World → Prop) (Ix : Code → World → Prop) (Ip : List PanicEntry → World → Prop) (xs : List α) (W : World) : Exit → Act → World → Prop
 | .normal, _, W' => Kept S W W' ∧ I xs W'
 | .ret, _, W' => Kept S W W' ∧ Ix .ret W'
 | .exit id, _, W' => Kept S W W' ∧ Ix (.exit id) W'
 | .goto t, _, W' => Kept S W W' ∧ Ix (.goto t) W'
 | .panic c, a, W' => a.defers = [] ∧ Kept S W W' ∧ Ip c W'
 | .outgrown, _, _ => False
theorem WpAt.range {fn : FuncId} {α : Type} {g : Operand} {ps : Array Tmp} {assign body : Code} {Q : Exit → Act → World → Prop} {a : Act} {w : World}
    {gf : Nat} {lb : Array Value} (hfn : ∃ f, P.funcs[fn]? = some f) (hg : a.eval g = .func (.func gf) #[] lb) (eg : ∀ args w, (callFunc gf args).run P w = .ok (.enter gf args) w)
    {encs : α → Array Value} {xs : List α} {S : Nat → Prop} (hseq : SeqsP P gf lb encs xs S w) (hS : ∀ k, S k → k < w.heap.size) (hps : ∀ x, (encs x).size = ps.size)
    (I : List α → World → Prop) (Ix : Code → World → Prop) (Ip : List PanicEntry → World → Prop) (hI : ∀ pre X Y, I pre X → Below w.heap.size X Y → I pre Y) (hIx : ∀ c X Y, Ix c X → Below w.heap.size X Y → Ix c Y) (h0 : I [] w)
    (hround : ∀ (l : Nat) (pre : List α) (x : α) (W : World), w.heap.size < l → l < W.heap.size → pre ++ [x] <+: xs → Kept S w W → I pre W →
     assign.wpIn (Fence.wide.inRound l) 0 P (Exit.then (fun a₁ W1 => Kept (fun k => S k ∨ w.heap.size ≤ k) W W1 ∧
         (∀ W2, Kept (fun k => k ≠ l) W1 W2 → W2.heap.size = W1.heap.size → body.wpIn (Fence.wide.inRound l) 0 P (roundEndP (fun k => S k ∨ w.heap.size ≤ k) I Ix Ip (pre ++ [x]) W2) a₁ W2)) (fun _ _ _ => False))
      { tmps := (ps.zip (encs x)).foldl (fun t (p, v) => t.setIfInBounds p v) a.tmps, defers := [] } W)
    (hdone : ∀ (D : Nat) (W : World), w.heap.size ≤ D → I xs W → Kept S w W → W.heap[D]? = some (.deferred (some [])) → Q .normal { a with defers := { target := .collected D, args := #[] } :: a.defers } W)
    (hpanic : ∀ (D : Nat) (c : List PanicEntry) (W : World), w.heap.size ≤ D → Ip c W → Kept S w W → W.heap[D]? = some (.deferred (some [])) → Q (.panic c) { a with defers := { target := .collected D, args := #[] } :: a.defers } W)
    (hstop : ∀ (D : Nat) (c : Code) (W : World), w.heap.size ≤ D → Ix c W → Kept S w W → W.heap[D]? = some (.deferred (some [])) → c.wpIn Fence.wide 0 P Q { a with defers := { target := .collected D, args := #[] } :: a.defers } W) :
    WpAt fn P (Code.rangeFunc g ps assign body) Q a w := by
 refine .rangeFunc ?_
 obtain ⟨rec, hrec⟩ : ∃ rec : LoopState → Option Code → Loop, rec = fun st pe => { state := st, pending := pe, fn, tmps := a.tmps, params := ps, assign, body, defers := w.heap.size } := ⟨_, rfl⟩
 obtain ⟨W1, hW1⟩ : ∃ W1, (w.alloc (.deferred (some []))).alloc (.loop (rec .ready none)) = W1 := ⟨_, rfl⟩
 have hL1 : W1.heap[w.heap.size + 1]? = some (.loop (rec .ready none)) := by
  rw [← hW1]; have := World.alloc_heap_new (w.alloc (.deferred (some []))) (.loop (rec .ready none)); rwa [World.size_alloc] at this
 have hK1 : W1.heap[w.heap.size]? = some (.deferred (some [])) := by
  rw [← hW1]; exact (Below.heap_alloc _ _ _ (by simp)).trans (World.alloc_heap_new w _)
 have hB1 : Below w.heap.size w W1 := by rw [← hW1]; exact ((Below.refl _ w).alloc (Nat.le_refl _) _).alloc (by simp) _
 have hsz1 : W1.heap.size = w.heap.size + 2 := by rw [← hW1]; simp
 have hI1 : I [] W1 := hI _ _ _ h0 hB1
 refine ⟨w.heap.size + 1, [{ target := .collected w.heap.size, args := #[] }], W1, { target := .fn (.func gf) lb, args := #[.func (.yield (w.heap.size + 1)) #[] #[]] }, W1, gf,
  #[.func (.yield (w.heap.size + 1)) #[] #[]] ++ lb, W1, ?_, ?_, ?_, ?_⟩
 · rw [← hW1, hrec]; exact run_enterLoop_outer _ _ _ _ _
 · simp only [resolve, hg]
   simp [go_sem]
 · simp [invoke, go_sem, eg]
 · have up : ∀ {X Y : World}, Below W1.heap.size X Y → Below w.heap.size X Y := fun h => h.mono (by omega)
   refine (hseq (w.heap.size + 1)
    (fun pre W => I pre W ∧ W.heap[w.heap.size + 1]? = some (.loop (rec .ready none)) ∧ W.heap[w.heap.size]? = some (.deferred (some [])) ∧ Kept S w W)
    (fun W => ∃ c, Ix c W ∧ W.heap[w.heap.size + 1]? = some (.loop (rec .done (some c))) ∧ W.heap[w.heap.size]? = some (.deferred (some [])) ∧ Kept S w W)
    (fun c W => Ip c W ∧ W.heap[w.heap.size]? = some (.deferred (some [])) ∧ Kept S w W)
    W1 (.of_below hB1 fun _ hk _ => hk) ?_ ?_ ?_ ⟨hI1, hL1, hK1, .of_below hB1 fun _ hk _ => hk⟩).mono ?_
   · rintro pre X Y ⟨hi, hl, hk, hs⟩ hb
     exact ⟨hI _ _ _ hi (up hb), (hb.block _ (by omega)).trans hl, (hb.block _ (by omega)).trans hk, hs.trans (.of_below hb fun k _ h => by have := hS k h; omega)⟩
   · rintro X Y ⟨c, hi, hl, hk, hs⟩ hb
     exact ⟨c, hIx _ _ _ hi (up hb), (hb.block _ (by omega)).trans hl, (hb.block _ (by omega)).trans hk, hs.trans (.of_below hb fun k _ h => by have := hS k h; omega)⟩
   · -- ONE ROUND
     rintro pre x W hpre hsw hsW ⟨hi, hl, hk, hs⟩
     have hlt : w.heap.size + 1 < W.heap.size := (zqo hl)
     have hy := run_yield (P := P) (args := encs x) hl (by rw [hrec]; exact hps x)
     rw [hrec] at hy
     refine ⟨fn, _, assign, body, hy, roundIn_panics (trivial : Fence.wide.fn fn) hfn (wpIn_mono (hround (w.heap.size + 1) pre x W (by omega) hlt hpre hs hi) ?_)⟩
     clear hy
     rintro e a' Wa hq
     cases e with
     | normal =>
      obtain ⟨hka, hbody⟩ := hq
      have hla := (hka.block _ (by omega) (.inr (by omega))).trans hl
      have hda := (hka.block _ (by omega) (.inr (by omega))).trans hk
      have hlta : w.heap.size + 1 < Wa.heap.size := (zqo hla)
      refine ⟨_, run_beginRound hla (by rw [hrec]), ?_⟩
      have hl2 : (Wa.putObj (w.heap.size + 1) (.loop { rec .ready none with state := .busy })).heap[w.heap.size + 1]? = some (.loop { rec .ready none with state := .busy }) := World.putObj_heap_same hlta
      have hd2 : (Wa.putObj (w.heap.size + 1) (.loop { rec .ready none with state := .busy })).heap[w.heap.size]? = some (.deferred (some [])) := (World.putObj_heap_other (by omega)).trans hda
      have hkw : Kept (fun k => k ≠ w.heap.size + 1) Wa (Wa.putObj (w.heap.size + 1) (.loop { rec .ready none with state := .busy })) := (Kept.refl _ _).putObj (.inl (fun h => h rfl)) _
      generalize hW2 : Wa.putObj (w.heap.size + 1) (.loop { rec .ready none with state := .busy }) = W2 at hl2 hd2 hkw
      have hs2 : Kept S w W2 := by
       refine hs.trans ((hka.mono fun k _ h => .inl h).trans (hkw.mono fun k _ h => ?_))
       have := hS k h; omega
      have hk02 : Kept (fun k => S k ∨ W1.heap.size ≤ k) W W2 := (hka.mono fun k _ h => h.imp id (by omega)).trans (hkw.mono fun k _ h => by rcases h with h | h; have := hS k h; omega; omega)
      refine wpIn_mono (hbody W2 hkw (by rw [← hW2]; exact World.putObj_size)) ?_
      have fin : ∀ (jump : Option Code) (W3 : World), Kept (fun k => S k ∨ w.heap.size ≤ k) W2 W3 →
          (Instr.endRound (w.heap.size + 1) jump).run P W3 = .ok (.bool jump.isNone) (W3.putObj (w.heap.size + 1) (.loop (rec (if jump.isNone then .ready else .done) jump))) ∧
          (W3.putObj (w.heap.size + 1) (.loop (rec (if jump.isNone then .ready else .done) jump))).heap[w.heap.size + 1]? = some (.loop (rec (if jump.isNone then .ready else .done) jump)) ∧
          (W3.putObj (w.heap.size + 1) (.loop (rec (if jump.isNone then .ready else .done) jump))).heap[w.heap.size]? = some (.deferred (some [])) ∧
          Kept S w (W3.putObj (w.heap.size + 1) (.loop (rec (if jump.isNone then .ready else .done) jump))) ∧
          Below w.heap.size W3 (W3.putObj (w.heap.size + 1) (.loop (rec (if jump.isNone then .ready else .done) jump))) ∧
          Kept (fun k => S k ∨ W1.heap.size ≤ k) W (W3.putObj (w.heap.size + 1) (.loop (rec (if jump.isNone then .ready else .done) jump))) := fun jump W3 hk3 => by
       have hl3 := (hk3.block _ (zqo hl2) (.inr (by omega))).trans hl2
       have hd3 := (hk3.block _ (zqo hd2) (.inr (by omega))).trans hd2
       have := run_endRound (P := P) jump hl3
       rw [hrec] at this ⊢
       refine ⟨this, World.putObj_heap_same (zqo hl3), (World.putObj_heap_other (by omega)).trans hd3, (hs2.trans (hk3.mono fun k _ h => .inl h)).putObj (.inr (by omega)) _, below_putObj (Below.refl _ _) (by omega) _, ?_⟩
       refine (hk02.trans (hk3.mono fun k _ h => h.imp id (by omega))).putObj (.inl ?_) _
       rintro (h | h)
       · have := hS _ h; omega
       · omega
      rintro e a3 W3 hp
      cases e with
      | normal =>
       obtain ⟨hk3, hi3⟩ := hp
       obtain ⟨hr, hl4, hd4, hs4, hb4, hk4⟩ := fin none W3 hk3
       exact ⟨_, _, hr, .inl ⟨rfl, ⟨hI _ _ _ hi3 hb4, hl4, hd4, hs4⟩, hk4⟩⟩
      | ret =>
       obtain ⟨hk3, hi3⟩ := hp
       obtain ⟨hr, hl4, hd4, hs4, hb4, hk4⟩ := fin (some .ret) W3 hk3
       exact ⟨_, _, hr, .inr (.inl ⟨rfl, .ret, hIx _ _ _ hi3 hb4, hl4, hd4, hs4⟩)⟩
      | exit id =>
       obtain ⟨hk3, hi3⟩ := hp
       obtain ⟨hr, hl4, hd4, hs4, hb4, hk4⟩ := fin (some (.exit id)) W3 hk3
       exact ⟨_, _, hr, .inr (.inl ⟨rfl, .exit id, hIx _ _ _ hi3 hb4, hl4, hd4, hs4⟩)⟩
      | goto t =>
       obtain ⟨hk3, hi3⟩ := hp
       obtain ⟨hr, hl4, hd4, hs4, hb4, hk4⟩ := fin (some (.goto t)) W3 hk3
       exact ⟨_, _, hr, .inr (.inl ⟨rfl, .goto t, hIx _ _ _ hi3 hb4, hl4, hd4, hs4⟩)⟩
      | panic ch =>
       obtain ⟨hdf, hk3, hi3⟩ := hp
       refine ⟨hdf, .inr (.inr ⟨ch, rfl, hi3, (hk3.block _ (zqo hd2) (.inr (by omega))).trans hd2, hs2.trans (hk3.mono fun k _ h => .inl h)⟩)⟩
      | outgrown => exact hp.elim
     | exit id => exact hq.elim
     | goto l => exact hq.elim
     | ret => exact hq.elim
     | panic ch => exact hq.elim
     | outgrown => exact hq.elim
   · -- BEHIND THE ITERATOR
     rintro e W2 (⟨⟨v, rfl⟩, (⟨hi, hl, hk, hs⟩ | ⟨c, hi, hl, hk, hs⟩)⟩ | ⟨c, rfl, hi, hk, hs⟩)
     · exact ⟨none, _, by have := run_endLoop (P := P) hl (by rw [hrec]; simp); rw [hrec] at this; exact this, hdone _ _ (Nat.le_refl _) (hI _ _ _ hi (below_putObj (Below.refl _ _) (by omega) _)) (hs.putObj (.inr (by omega)) _) ((World.putObj_heap_other (by omega)).trans hk)⟩
     · exact ⟨some c, _, by have := run_endLoop (P := P) hl (by rw [hrec]; simp); rw [hrec] at this; exact this, hstop _ c _ (Nat.le_refl _) (hIx _ _ _ hi (below_putObj (Below.refl _ _) (by omega) _)) (hs.putObj (.inr (by omega)) _) ((World.putObj_heap_other (by omega)).trans hk)⟩
     · exact hpanic _ c _ (Nat.le_refl _) hi hs hk
end Go.Sd
namespace Go.Sd
open Go Go.RowKit
variable {P : Program}
def SeqsG {α : Type} (P : Program) (gf : Nat) (lb : Array Value) (encs : α → Array Value) (xs : List α) (S : Nat → Prop) (w : World) : Prop :=
 ∀ (l : Nat) (J : List α → World → Prop) (Jx : World → Prop) (Jp : List PanicEntry → World → Prop) (W : World), Kept S w W →
  (∀ pre X Y, J pre X → Below X.heap.size X Y → J pre Y) → (∀ X Y, Jx X → Below X.heap.size X Y → Jx Y) →
  (∀ pre x W1, pre ++ [x] <+: xs → Kept S w W1 → J pre W1 → YieldAt Fence.wide 0 P l (encs x) W1 fun e W' =>
   (e = .returned (.bool true) ∧ J (pre ++ [x]) W' ∧ Kept S W1 W') ∨ (e = .returned (.bool false) ∧ Jx W') ∨ (∃ c, e = .panicked c ∧ Jp c W')) →
  J [] W →
  CallsIn Fence.wide 0 P gf (#[.func (.yield l) #[] #[]] ++ lb) W fun e W' => ((∃ v, e = .returned v) ∧ (J xs W' ∨ Jx W')) ∨ (∃ c, e = .panicked c ∧ Jp c W')
end Go.Sd
namespace Go.Sd
open Go Go.RowKit
variable {P : Program} {ops : Array Oper} {md : Region.Mode} {S : World → Prop} {Q : Exit → Act → World → Prop}
def sinkP (md : Region.Mode) (ops : Array Oper) (n : Nat) (pre : List Nat) : Bool :=
 (List.range n).all fun i => pre.contains i || (List.range (n + 1)).any fun j => decide (i < j) && Region.waitsFor md ops j i
structure HInv (md : Region.Mode) (ops : Array Oper) (n : Nat) (pre : List Nat) (listed : Array Bool) : Prop where
 head : HeadInv md ops n listed
 pre : ∀ i ∈ pre, listed.getD i true = true
theorem HInv.set {n i : Nat} {pre : List Nat} {listed : Array Bool} (inv : HInv md ops n pre listed) (hi : i ∈ Region.ready md ops listed) (hin : i < n) : HInv md ops n pre (listed.setIfInBounds i true) := by
 refine ⟨inv.head.set hi hin, fun k hk => ?_⟩
 by_cases e : i = k
 · subst e
   have := inv.pre i hk
   have h0 := (mem_ready.1 hi).1
   rw [this] at h0; cases h0
 · rw [getD_set_ne true e]; exact inv.pre k hk
theorem tail_waitsP {n : Nat} {pre : List Nat} {listed : Array Bool} (hs : sinkP md ops n pre = true) (hc : Region.chainB md ops n = true) (hn : n < ops.size) (inv : HInv md ops n pre listed) :
    ∀ (d i : Nat), n - i = d → i < n → listed.getD i true = false → ∀ t, n ≤ t → t ∉ Region.ready md ops listed := by
 intro d
 induction d using Nat.strongRecOn with
 | _ d ih =>
  intro i hd hi hun t ht hr
  obtain ⟨_, ot, hot, hall⟩ := mem_ready.1 hr
  have htlt : t < ops.size := (zqo hot)
  by_cases htn : t = n
  · subst htn
    have h1 := List.all_eq_true.1 hs i (List.mem_range.2 hi)
    simp only [Bool.or_eq_true] at h1
    rcases h1 with h1 | h1
    · have := inv.pre i (by simpa using h1)
      rw [hun] at this; cases this
    obtain ⟨j, hj, hj2⟩ := List.any_eq_true.1 h1
    simp only [Bool.and_eq_true, decide_eq_true_eq] at hj2
    obtain ⟨oj, hoj, e, he, hb, hon⟩ := Region.waitsFor_spec hj2.2
    have hjle : j ≤ t := by have := List.mem_range.1 hj; omega
    by_cases hjt : j = t
    · subst hjt
      have : oj = ot := Option.some.inj (hoj.symm.trans hot)
      subst this
      have h2 := hall e he hb
      rw [hon, getD_both hun] at h2
      cases h2
    · cases hl : listed.getD j false with
      | true =>
       have h2 := inv.head.closed j oj hoj hl e he hb
       rw [hon, getD_both hun] at h2
       cases h2
      | false =>
       have hjs : j < listed.size := by rw [inv.head.size]; omega
       exact ih (t - j) (by omega) j rfl (by omega) (getD_in hjs hl) t (Nat.le_refl _) hr
  · have h1 := List.all_eq_true.1 hc t (List.mem_range.2 htlt)
    simp only [Bool.or_eq_true, decide_eq_true_eq] at h1
    rcases h1 with h1 | h1
    · omega
    · obtain ⟨o', ho', e, he, hb, hon⟩ := Region.waitsFor_spec h1
      have : o' = ot := Option.some.inj (ho'.symm.trans hot)
      subst this
      have h2 := hall e he hb
      rw [hon, getD_both (inv.head.tail (t - 1) (by omega) (by omega))] at h2
      cases h2
def wpAnyHL (P : Program) (md : Region.Mode) (ops : Array Oper) (Q : Exit → Act → World → Prop) (S : World → Prop) (n : Nat) (L : Array Bool → Act → World → Prop) : Nat → Array Bool → Act → World → Prop
 | 0, listed, a, w => L listed a w
 | f + 1, listed, a, w =>
  Region.ready md ops listed ≠ [] ∧ ∀ i ∈ Region.ready md ops listed, i < n ∧ wpOp P ops Q i (fun a' w' => S w' ∧ wpAnyHL P md ops Q S n L f (listed.setIfInBounds i true) a' w') a w
theorem any_of_headH {n g : Nat} {L : Array Bool → Act → World → Prop} (hL : ∀ listed a w, L listed a w → wpAny P md ops Q g listed a w) :
    ∀ (f : Nat) (listed : Array Bool) (a : Act) (w : World), wpAnyHL P md ops Q S n L f listed a w → wpAny P md ops Q (f + g) listed a w
 | 0, listed, a, w, h => by rw [Nat.zero_add]; exact hL _ _ _ h
 | f + 1, listed, a, w, h => by
  rw [show f + 1 + g = (f + g) + 1 by omega]
  exact ⟨fun h0 => absurd h0 h.1, fun i hi => wpOp_mono (fun a' w' h' => any_of_headH hL f _ a' w' h'.2) (h.2 i hi).2⟩
theorem wpAnyHL_first {n i : Nat} {pre : List Nat} {oi : Oper} {v : Value} {L : Array Bool → Act → World → Prop} (hi : ops[i]? = some oi) (hsel : ∀ (j : Nat) (o : Oper) cs b, ops[j]? = some o → o.op ≠ .select cs b)
    (hs : sinkP md ops n pre = true) (hc : Region.chainB md ops n = true) (hn : n < ops.size) (hin : i < n)
    (hdone : ∀ listed a w, L listed a w → ∀ j ∈ Region.ready md ops listed, n ≤ j)
    (hQ : ∀ c a w, Q (.panic c) (a.put oi.dst v) w → Q (.panic c) a w) :
    ∀ (f : Nat) (listed : Array Bool) (a : Act) (w : World), HInv md ops n pre listed →
     (∀ j oj, ops[j]? = some oj → j ≠ i → listed.getD j true = false → (∀ e ∈ oj.after, Region.binds md e = true → e.on ≠ i) → oi.apart ops oj = true) →
     i ∈ Region.ready md ops listed → YieldsIf P ops S oi v a → S w →
     wpAnyHL P md ops Q S n L f (listed.setIfInBounds i true) (a.put oi.dst v) w → wpAnyHL P md ops Q S n L (f + 1) listed a w := by
 intro f
 induction f with
 | zero =>
  intro listed a w inv _ hr hy hS H
  have hun := (mem_ready.1 hr).1
  refine ⟨fun h => (by rw [h] at hr; cases hr), fun j hj => ?_⟩
  have hjn : j < n := by
   rcases Nat.lt_or_ge j n with h | h
   · exact h
   · exact absurd hj (tail_waitsP hs hc hn inv _ i rfl hin hun j h)
  refine ⟨hjn, ?_⟩
  by_cases hji : j = i
  · subst hji; exact hy.wpOp hi hS ⟨hS, H⟩
  · have := hdone _ _ _ H j (ready_mono hj hji)
    omega
 | succ f ih =>
  intro listed a w inv hfree hr hy hS H
  have hun := (mem_ready.1 hr).1
  refine ⟨fun h => (by rw [h] at hr; cases hr), fun j hj => ?_⟩
  have hjn : j < n := by
   rcases Nat.lt_or_ge j n with h | h
   · exact h
   · exact absurd hj (tail_waitsP hs hc hn inv _ i rfl hin hun j h)
  refine ⟨hjn, ?_⟩
  by_cases hji : j = i
  · subst hji; exact hy.wpOp hi hS ⟨hS, H⟩
  · have h1 := (H.2 j (ready_mono hj hji)).2
    obtain ⟨hjun, oj, hoj, hall⟩ := mem_ready.1 hj
    have hnot : ∀ e ∈ oj.after, Region.binds md e = true → e.on ≠ i := fun e he hb heq => by
     have h1 := hall e he hb
     rw [heq, getD_both hun] at h1
     cases h1
    have h2 := wpOp_putIf hoj (hfree j oj hoj hji hjun hnot) (fun cs b => hsel i oi cs b hi) (fun cs b => hsel j oj cs b hoj) hQ hy h1
    have hfree' : ∀ k ok, ops[k]? = some ok → k ≠ i → (listed.setIfInBounds j true).getD k true = false →
        (∀ e ∈ ok.after, Region.binds md e = true → e.on ≠ i) → oi.apart ops ok = true := fun k ok hk hki hun hno => by
     refine hfree k ok hk hki ?_ hno
     by_cases hjk : j = k
     · subst hjk; exact hjun
     · rw [getD_set_ne true hjk] at hun; exact hun
    refine wpOp_mono (fun a' w' h3 => ⟨h3.2.1, ih (listed.setIfInBounds j true) a' w' (inv.set hj hjn) hfree' (ready_mono hr (Ne.symm hji)) h3.1 h3.2.1 ?_⟩) h2
    rw [Array.setIfInBounds_comm _ _ hji]
    exact h3.2.2
def TailOf (P : Program) (md : Region.Mode) (ops : Array Oper) (Q : Exit → Act → World → Prop) (n : Nat) (l : List Oper) (listed : Array Bool) (a : Act) (w : World) : Prop :=
 Region.seqB md ops l.length n listed = true ∧ wpList P ops Q l a w
theorem TailOf.done {n : Nat} {l : List Oper} : ∀ (listed : Array Bool) (a : Act) (w : World), TailOf P md ops Q n l listed a w → ∀ j ∈ Region.ready md ops listed, n ≤ j := fun _ _ _ h => seqB_ready h.1
def okInv (md : Region.Mode) (ops : Array Oper) (n : Nat) (pre : List Nat) (listed : Array Bool) : Bool :=
 decide (listed.size = ops.size) && ((List.range ops.size).all fun j => !listed.getD j false || ((ops[j]?).map (·.after.all fun e => !Region.binds md e || listed.getD e.on false)).getD true) &&
 ((List.range ops.size).all fun t => decide (t < n) || !listed.getD t true) && pre.all fun i => listed.getD i true
theorem okInv_spec {n : Nat} {pre : List Nat} {listed : Array Bool} (h : okInv md ops n pre listed = true) : HInv md ops n pre listed := by
 simp only [okInv, Bool.and_eq_true, decide_eq_true_eq, List.all_eq_true, List.mem_range, Bool.or_eq_true, Bool.not_eq_true'] at h
 obtain ⟨⟨⟨h1, h2⟩, h3⟩, h4⟩ := h
 refine ⟨⟨h1, fun j oj hj hl e he hb => ?_, fun t ht ht' => ?_⟩, h4⟩
 · have hlt : j < ops.size := (zqo hj)
   rcases h2 j hlt with h | h
   · rw [hl] at h; cases h
   · rw [hj] at h
     simp only [Option.map_some, Option.getD_some] at h
     have := Array.all_eq_true'.1 h e he
     simpa [hb] using this
 · rcases h3 t ht' with h | h
   · omega
   · exact h
theorem wpAnyHL_take {n i : Nat} {pre : List Nat} {oi : Oper} {v : Value} {l : List Oper} {f : Nat} {listed : Array Bool} {a : Act} {w : World} (hi : ops[i]? = some oi)
    (hst : (Region.noSelect ops && sinkP md ops n pre && Region.chainB md ops n && decide (n < ops.size)) = true)
    (hB : (decide (i < n) && okInv md ops n pre listed && Region.free md ops listed i && (Region.ready md ops listed).contains i) = true)
    (hQ : ∀ c a w, Q (.panic c) (a.put oi.dst v) w → Q (.panic c) a w) (hy : YieldsIf P ops S oi v a) (hS : S w)
    (h : wpAnyHL P md ops Q S n (TailOf P md ops Q n l) f (listed.setIfInBounds i true) (a.put oi.dst v) w) : wpAnyHL P md ops Q S n (TailOf P md ops Q n l) (f + 1) listed a w := by
 simp only [Bool.and_eq_true, decide_eq_true_eq] at hst hB
 obtain ⟨⟨⟨hsel, hs⟩, hc⟩, hn⟩ := hst
 obtain ⟨⟨⟨hin, hok⟩, hf⟩, hr⟩ := hB
 exact wpAnyHL_first hi (Region.noSelect_spec hsel) hs hc hn hin TailOf.done hQ f listed a w (okInv_spec hok) (Region.free_spec hi hf) (by simpa using hr) hy hS h
theorem wpAnyHL_takeD {n i : Nat} {pre : List Nat} {oi : Oper} {v : Value} {l : List Oper} {f : Nat} {listed : Array Bool} {a : Act} {w : World} (dst : Tmp) (hi : ops[i]? = some oi) (hd : oi.dst = some dst)
    (hst : (Region.noSelect ops && sinkP md ops n pre && Region.chainB md ops n && decide (n < ops.size)) = true)
    (hB : (decide (i < n) && okInv md ops n pre listed && Region.free md ops listed i && (Region.ready md ops listed).contains i) = true)
    (hQ : ∀ c a w, Q (.panic c) (a.put (some dst) v) w → Q (.panic c) a w) (hy : YieldsIf P ops S oi v a) (hS : S w)
    (h : wpAnyHL P md ops Q S n (TailOf P md ops Q n l) f (listed.setIfInBounds i true) (a.put (some dst) v) w) : wpAnyHL P md ops Q S n (TailOf P md ops Q n l) (f + 1) listed a w :=
 wpAnyHL_take hi hst hB (by rw [hd]; exact hQ) hy hS (by rw [hd]; exact h)
theorem wpAnyHL_all {n f : Nat} {L : Array Bool → Act → World → Prop} {listed : Array Bool} {a : Act} {w : World} (rs : List Nat) (hr : Region.ready md ops listed = rs) (hne : rs ≠ []) (hlt : rs.all (fun i => decide (i < n)) = true)
    (h : ∀ i ∈ rs, wpOp P ops Q i (fun a' w' => S w' ∧ wpAnyHL P md ops Q S n L f (listed.setIfInBounds i true) a' w') a w) : wpAnyHL P md ops Q S n L (f + 1) listed a w :=
 ⟨fun h0 => hne (hr ▸ h0), fun i hi => ⟨by rw [hr] at hi; simpa using List.all_eq_true.1 hlt i hi, h i (hr ▸ hi)⟩⟩
theorem any_of_HL {n f : Nat} {l : List Oper} {listed : Array Bool} {a : Act} {w : World} (hl : ∀ j, l[j]? = ops[n + j]?)
    (h : wpAnyHL P md ops Q S n (TailOf P md ops Q n l) f listed a w) : wpAny P md ops Q (f + l.length) listed a w :=
 any_of_headH (fun listed a w hL => wpAny_of_seq l n listed a w hl hL.1 hL.2) f listed a w h
theorem any_of_HL2 {n f N : Nat} {l : List Oper} {listed : Array Bool} {a : Act} {w : World} (hN : f + (l.drop n).length = N)
    (h : wpAnyHL P md l.toArray Q S n (TailOf P md l.toArray Q n (l.drop n)) f listed a w) : wpAny P md l.toArray Q N listed a w := by
 subst hN
 exact any_of_HL (fun j => by simp only [List.getElem?_drop, List.getElem?_toArray]) h
end Go.Sd
namespace Go.Sd
open Go Go.RowKit
variable {P : Program} {ops : Array Oper} {md : Region.Mode}
def slotOf (ops : Array Oper) (j : Nat) : Option Tmp := (ops[j]?).bind (·.dst)
def fill (ops : Array Oper) (vals : Nat → Value) : List Nat → Act → Act
 | [], a => a
 | j :: l, a => (fill ops vals l a).put (slotOf ops j) (vals j)
def needs (ops : Array Oper) (n j : Nat) : List Nat :=
 (List.range n).filter fun k => match slotOf ops k, ops[j]? with
  | some d, some o => (o.looksAt ops).contains d
  | _, _ => false
structure Filled (ops : Array Oper) (vals : Nat → Value) (p : Nat → Prop) (b a : Act) : Prop where
 defers : a.defers = b.defers
 size : a.tmps.size = b.tmps.size
 at_ : ∀ j d, p j → slotOf ops j = some d → a.tmps[d]? = some (vals j)
 other : ∀ d, (∀ j, p j → slotOf ops j ≠ some d) → a.tmps[d]? = b.tmps[d]?
theorem actEq {a b : Act} (h1 : a.tmps = b.tmps) (h2 : a.defers = b.defers) : a = b := by
 cases a; cases b; cases h1; cases h2; rfl
theorem Filled.unique {vals : Nat → Value} {p : Nat → Prop} {b a a' : Act} (h : Filled ops vals p b a) (h' : Filled ops vals p b a') : a = a' := by
 refine actEq (Array.ext_getElem? fun d => ?_) (h.defers.trans h'.defers.symm)
 by_cases e : ∃ j, p j ∧ slotOf ops j = some d
 · obtain ⟨j, hp, hj⟩ := e
   rw [h.at_ j d hp hj, h'.at_ j d hp hj]
 · have e' : ∀ j, p j → slotOf ops j ≠ some d := fun j hp hj => e ⟨j, hp, hj⟩
   rw [h.other d e', h'.other d e']
theorem put_at (a : Act) (d i : Nat) (v : Value) (hd : d < a.tmps.size) : (a.put (some d) v).tmps[i]? = if i = d then some v else a.tmps[i]? := by
 simp only [Act.put]
 rw [Array.getElem?_setIfInBounds]
 by_cases h : d = i
 · subst h; simp [hd]
 · rw [if_neg h, if_neg (Ne.symm h)]
theorem Filled.put {vals : Nat → Value} {p : Nat → Prop} {b a : Act} (h : Filled ops vals p b a) {i : Nat} {d : Tmp} (v : Value) (hi : slotOf ops i = some d) (hd : d < b.tmps.size) (hne : ∀ j, p j → slotOf ops j ≠ some d) :
    Filled ops (fun j => if j = i then v else vals j) (fun j => j = i ∨ p j) b (a.put (slotOf ops i) v) := by
 rw [hi]
 have hd' : d < a.tmps.size := by rw [h.size]; exact hd
 refine ⟨by simp [Act.put, h.defers], by simp [Act.put, h.size], fun j e hp hj => ?_, fun e he => ?_⟩
 · rw [put_at _ _ _ _ hd']
   by_cases hji : j = i
   · subst hji
     have : e = d := Option.some.inj (hj.symm.trans hi)
     rw [if_pos this]; simp
   · rcases hp with hp | hp
     · exact absurd hp hji
     · have : e ≠ d := fun h0 => hne j hp (h0 ▸ hj)
       rw [if_neg this, if_neg hji]; exact h.at_ j e hp hj
 · rw [put_at _ _ _ _ hd']
   have : e ≠ d := fun h0 => he i (.inl rfl) (h0 ▸ hi)
   rw [if_neg this]
   exact h.other e fun j hp => he j (.inr hp)
theorem Filled.congr {vals vals' : Nat → Value} {p p' : Nat → Prop} {b a : Act} (h : Filled ops vals p b a) (hp : ∀ j, p j ↔ p' j) (hv : ∀ j, p j → vals j = vals' j) : Filled ops vals' p' b a :=
 ⟨h.defers, h.size, fun j d hj hs => by rw [← hv j ((hp j).2 hj)]; exact h.at_ j d ((hp j).2 hj) hs, fun d hd => h.other d fun j hj => hd j ((hp j).1 hj)⟩
theorem filled_fill {vals : Nat → Value} {b : Act} : ∀ (l : List Nat), l.Nodup → (∀ j ∈ l, ∃ d, slotOf ops j = some d ∧ d < b.tmps.size) → (∀ i ∈ l, ∀ j ∈ l, ∀ d, slotOf ops i = some d → slotOf ops j = some d → i = j) →
    Filled ops vals (fun j => j ∈ l) b (fill ops vals l b)
 | [], _, _, _ => ⟨rfl, rfl, fun _ _ h => (by cases h), fun _ _ => rfl⟩
 | i :: l, hn, hs, hd => by
  obtain ⟨h1, h2⟩ := List.nodup_cons.1 hn
  obtain ⟨d, hd1, hd2⟩ := hs i List.mem_cons_self
  have ih := filled_fill (vals := vals) l h2 (fun j hj => hs j (List.mem_cons_of_mem _ hj)) (fun i hi j hj => hd i (List.mem_cons_of_mem _ hi) j (List.mem_cons_of_mem _ hj))
  have := ih.put (vals i) hd1 hd2 fun j hj hjd => h1 (hd i List.mem_cons_self j (List.mem_cons_of_mem _ hj) d hd1 hjd ▸ hj)
  exact this.congr (fun j => (by rw [List.mem_cons])) fun j _ => by
   by_cases e : j = i
   · subst e; simp
   · simp [e]
def predsOf (md : Region.Mode) (ops : Array Oper) (j : Nat) : List Nat := match ops[j]? with
 | some o => (o.after.toList.filter (Region.binds md)).map (·.on)
 | none => []
def clos (md : Region.Mode) (ops : Array Oper) : Nat → List Nat → List Nat
 | 0, S => S
 | j + 1, S => clos md ops j (if S.contains j then predsOf md ops j ++ S else S)
def Closed (md : Region.Mode) (ops : Array Oper) (listed : Array Bool) : Prop := ∀ (j : Nat) (o : Oper), ops[j]? = some o → listed.getD j false = true → ∀ e ∈ o.after, Region.binds md e = true → listed.getD e.on false = true
theorem preds_listed {md : Region.Mode} {ops : Array Oper} {listed : Array Bool} {j : Nat} {o : Oper} (ho : ops[j]? = some o) (h : ∀ e ∈ o.after, Region.binds md e = true → listed.getD e.on false = true) : ∀ k ∈ predsOf md ops j, listed.getD k false = true := by
 intro k hk
 unfold predsOf at hk
 rw [ho] at hk
 obtain ⟨e, he, rfl⟩ := List.mem_map.1 hk
 obtain ⟨h1, h2⟩ := List.mem_filter.1 he
 exact h e (by simpa using h1) h2
theorem clos_listed {md : Region.Mode} {ops : Array Oper} {listed : Array Bool} (hc : Closed md ops listed) : ∀ (f : Nat) (S : List Nat), (∀ k ∈ S, listed.getD k false = true) → ∀ k ∈ clos md ops f S, listed.getD k false = true
 | 0, _, h => h
 | j + 1, S, h => by
  unfold clos
  refine clos_listed hc j _ ?_
  split
  · rename_i hj
    intro k hk
    rcases List.mem_append.1 hk with hk | hk
    · cases ho : ops[j]? with
      | none => unfold predsOf at hk; rw [ho] at hk; cases hk
      | some o => exact preds_listed ho (hc j o ho (h j (by simpa using hj))) k hk
    · exact h k hk
  · exact h
theorem Closed.set {md : Region.Mode} {ops : Array Oper} {listed : Array Bool} (hc : Closed md ops listed) {i : Nat} (hi : i ∈ Region.ready md ops listed) : Closed md ops (listed.setIfInBounds i true) := by
 intro j o ho hl e he hb
 by_cases h : j = i
 · subst h
   obtain ⟨_, o', ho', hall⟩ := mem_ready.1 hi
   have : o' = o := Option.some.inj (ho'.symm.trans ho)
   subst this
   exact getD_set_true (hall e he hb)
 · rw [getD_set_ne false (Ne.symm h)] at hl
   exact getD_set_true (hc j o ho hl e he hb)
structure Loc (md : Region.Mode) (ops : Array Oper) (n T : Nat) (opt : List Nat) : Prop where
 sel : Region.noSelect ops = true
 chain : Region.chainB md ops n = true
 lt : n < ops.size
 optEq : (List.range n).filter opt.contains = opt
 op : ∀ j, j < n → ∃ o d, ops[j]? = some o ∧ o.dst = some d ∧ slotOf ops j = some d ∧ d < T ∧ o.guard = none
 low : ∀ j o, j < n → ops[j]? = some o → ∀ e ∈ o.after, Region.binds md e = true → e.on < j
 wait : ∀ j, j < n → j ∉ opt → (clos md ops n (predsOf md ops n)).contains j = true
 dist : ∀ i j, i < n → j < n → ∀ d, slotOf ops i = some d → slotOf ops j = some d → i = j
 need : ∀ j k, j < n → k ∈ needs ops n j → k < n ∧ Region.waitsFor md ops j k = true
 look : ∀ j k o d, j < n → k < n → ops[j]? = some o → slotOf ops k = some d → d ∈ o.looksAt ops → k ∈ needs ops n j
def OneQ (R : Value → World → Prop) (d : Tmp) (b : Act) (w : World) : Exit → Act → World → Prop := fun e a' w' => e = .normal ∧ a'.defers = b.defers ∧ Below w.heap.size w w' ∧ ∃ v, a'.tmps[d]? = some v ∧ R v w'
theorem eval_tmps {a b : Act} {x : Operand} (h : ∀ t, x = .tmp t → a.tmps[t]? = b.tmps[t]?) : a.eval x = b.eval x := by
 cases x <;> simp only [Act.eval]
 rename_i t
 have := h t rfl
 simp [this]
theorem wanted_none {o : Oper} (h : o.guard = none) (y : Nat → Option Bool) : Region.wanted o y = true := by unfold Region.wanted; rw [h]
variable {n T : Nat} {opt : List Nat}
theorem Loc.exec (L : Loc md ops n T opt) {b0 a : Act} {vals : Nat → Value} {p : Nat → Prop} (hT : b0.tmps.size = T) {j : Nat} {o : Oper} (hj : j < n) (ho : ops[j]? = some o) (hF : Filled ops vals p b0 a) (hp : ∀ k, p k → k < n) (hneed : ∀ k ∈ needs ops n j, p k) :
    execOp a.eval o = execOp (fill ops vals (needs ops n j) b0).eval o := by
 have hfl := filled_fill (ops := ops) (vals := vals) (b := b0) (needs ops n j) (List.Pairwise.filter _ List.nodup_range)
  (fun k hk => by obtain ⟨_, d, _, _, h3, h4, _⟩ := L.op k (L.need j k hj hk).1; exact ⟨d, h3, by rw [hT]; exact h4⟩) (fun i hi k hk => L.dist i k (L.need j i hj hi).1 (L.need j k hj hk).1)
 refine execOp_congr o (fun cs b => Region.noSelect_spec L.sel j o cs b ho) fun x hx => eval_tmps fun t ht => ?_
 have hlook : t ∈ o.looksAt ops := by
  subst ht
  exact List.mem_append_left _ (List.mem_filterMap.2 ⟨.tmp t, by simpa using hx, rfl⟩)
 by_cases e : ∃ k, k ∈ needs ops n j ∧ slotOf ops k = some t
 · obtain ⟨k, hk, hkt⟩ := e
   rw [hF.at_ k t (hneed k hk) hkt, hfl.at_ k t hk hkt]
 · rw [hfl.other t fun k hk hkt => e ⟨k, hk, hkt⟩, hF.other t fun k hk hkt => e ⟨k, L.look j k o t hj (hp k hk) ho hkt hlook, hkt⟩]
theorem fill_size {vals : Nat → Value} {b : Act} : ∀ l : List Nat, (fill ops vals l b).tmps.size = b.tmps.size
 | [] => rfl
 | j :: l => by
  simp only [fill]
  have := fill_size (vals := vals) (b := b) l
  cases slotOf ops j with
  | none => exact this
  | some d => simpa [Act.put] using this
theorem Loc.wpOp (L : Loc md ops n T opt) {b0 a : Act} {vals : Nat → Value} {p : Nat → Prop} {w : World} {R : Value → World → Prop} {Q : Exit → Act → World → Prop} {K : Act → World → Prop} (hT : b0.tmps.size = T) {j : Nat} {o : Oper} {d : Tmp} (hj : j < n) (ho : ops[j]? = some o) (hd : o.dst = some d) (hF : Filled ops vals p b0 a) (hp : ∀ k, p k → k < n)
    (hneed : ∀ k ∈ needs ops n j, p k) (hs : wpList P ops (OneQ R d (fill ops vals (needs ops n j) b0) w) [o] (fill ops vals (needs ops n j) b0) w)
    (hK : ∀ v w', Below w.heap.size w w' → R v w' → K (a.put (slotOf ops j) v) w') : wpOp P ops Q j K a w := by
 obtain ⟨o', d', ho', hd', hslot, hdT, hg⟩ := L.op j hj
 have : o' = o := Option.some.inj (ho'.symm.trans ho)
 subst this
 have hdst : slotOf ops j = o'.dst := by simp [slotOf, ho]
 have he := L.exec hT hj ho hF hp hneed
 have hsz := fill_size (ops := ops) (vals := vals) (b := b0) (needs ops n j)
 generalize fill ops vals (needs ops n j) b0 = b at *
 have hdb : d < b.tmps.size := by
  have : d = d' := Option.some.inj (hd.symm.trans hd')
  rw [hsz, hT, this]; exact hdT
 have hput : ∀ v, (b.put o'.dst v).tmps[d]? = some v := fun v => by rw [hd, put_at _ _ _ _ hdb, if_pos rfl]
 unfold Go.wpOp
 simp only [ho, wanted_none hg, if_true]
 left
 simp only [wpList, wanted_none hg, if_true] at hs
 rcases hs with hs | ⟨_, a', w', h1, _⟩
 case inr => cases h1
 unfold Oper.wp at *
 rw [he]
 generalize (execOp b.eval o').run P w = r at *
 have fin : ∀ v w', OneQ R d b w .normal (b.put o'.dst v) w' → K (a.put o'.dst v) w' := fun v w' ⟨_, _, h2, u, h3, h4⟩ => by
  rw [hput] at h3
  cases h3
  rw [← hdst]
  exact hK v w' h2 h4
 cases r with
 | ok x w' =>
  cases x <;> simp only [Oper.upon] at hs ⊢
  case value v => exact fin _ _ hs
  case skip => exact fin _ _ hs
  case defer c =>
   obtain ⟨_, h2, _⟩ := hs
   rw [hd] at h2
   simp only [Act.put] at h2
   exact absurd (congrArg List.length h2) (by simp)
  case enter f args =>
   refine Calls.mono hs fun e w'' h => ?_
   cases e with
   | returned v => exact fin _ _ h
   | panicked c => obtain ⟨h1, _⟩ := h; cases h1
   | outgrown => obtain ⟨_, _, h1, _⟩ := h; cases h1
  case row r args => exact Rows.mono hs fun v w'' h => fin _ _ h
 | halt x w' => cases x <;> simp only [Oper.upon] at hs ⊢ <;> (obtain ⟨h1, _⟩ := hs; cases h1)
def listedBut (ops : Array Oper) (n : Nat) (M : List Nat) : Array Bool := (Array.range ops.size).map fun j => decide (j < n) && !M.contains j
theorem listedBut_getD (M : List Nat) (j : Nat) (e : Bool) (hj : j < ops.size) : (listedBut ops n M).getD j e = (decide (j < n) && !M.contains j) := by
 simp [listedBut, hj]
def subs : List Nat → List (List Nat)
 | [] => [[]]
 | x :: l => subs l ++ (subs l).map (x :: ·)
theorem filter_subs (q : Nat → Bool) : ∀ l : List Nat, l.filter q ∈ subs l
 | [] => by simp [subs]
 | x :: l => by
  have ih := filter_subs q l
  by_cases h : q x = true
  · rw [List.filter_cons_of_pos h]
    exact List.mem_append_right _ (List.mem_map.2 ⟨_, ih, rfl⟩)
  · rw [List.filter_cons_of_neg h]
    exact List.mem_append_left _ ih
theorem tail_subs : ∀ (l : List Nat) (x : Nat) (M : List Nat), x :: M ∈ subs l → M ∈ subs l ∧ x ∈ l
 | [], x, M, h => by simp [subs] at h
 | y :: l, x, M, h => by
  rcases List.mem_append.1 h with h | h
  · exact ⟨List.mem_append_left _ (tail_subs l x M h).1, List.mem_cons_of_mem _ (tail_subs l x M h).2⟩
  · obtain ⟨M', h1, h2⟩ := List.mem_map.1 h
    cases h2
    exact ⟨List.mem_append_left _ h1, List.mem_cons_self⟩
def optB (md : Region.Mode) (ops : Array Oper) (n : Nat) (opt : List Nat) : Bool := (subs opt).all fun M => match M with
 | [] => true
 | j :: M' => Region.free md ops (listedBut ops n (j :: M')) j && (Region.ready md ops (listedBut ops n (j :: M'))).contains j && !M'.contains j
theorem wait_listed {j k : Nat} {listed : Array Bool} (hr : j ∈ Region.ready md ops listed) (h : Region.waitsFor md ops j k = true) : listed.getD k false = true := by
 obtain ⟨_, o, ho, hall⟩ := mem_ready.1 hr
 obtain ⟨o', ho', e, he, hb, hon⟩ := Region.waitsFor_spec h
 have : o' = o := Option.some.inj (ho'.symm.trans ho)
 subst this
 rw [← hon]
 exact hall e he hb
section
variable {Q : Exit → Act → World → Prop} {R N : Nat → Value → World → Prop} {D : Nat → Value → Nat → Value → Prop} {b0 : Act} {w0 : World} {g : Nat}
theorem Loc.claim (L : Loc md ops n T opt) (hT : b0.tmps.size = T) (hO : optB md ops n opt = true) (hQ : ∀ c a a' w, Q (.panic c) a' w → Q (.panic c) a w)
    (hD : ∀ j k v u w, j ≠ k → N j v w → R k u w → D j v k u ∧ D k u j v)
    (hpure : ∀ j ∈ opt, ∀ o, ops[j]? = some o → ∀ vals w, Below w0.heap.size w0 w → (∀ k ∈ needs ops n j, R k (vals k) w) → ∃ v, Yields P ops o v (fill ops vals (needs ops n j) b0) ∧ R j v w ∧ N j v w)
    (htail : ∀ vals w, Below w0.heap.size w0 w → (∀ k, k < n → R k (vals k) w) → (∀ j k, j < n → k < n → j ≠ k → D j (vals j) k (vals k)) → wpAny P md ops Q g (listedBut ops n []) (fill ops vals (List.range n) b0) w) :
    ∀ (M : List Nat), M ∈ subs opt → ∀ vals a w, Filled ops vals (fun k => k < n ∧ k ∉ M) b0 a → (∀ k, k < n → k ∉ M → R k (vals k) w) → (∀ j k, j < n → j ∉ M → k < n → k ∉ M → j ≠ k → D j (vals j) k (vals k)) → Below w0.heap.size w0 w → wpAny P md ops Q (M.length + g) (listedBut ops n M) a w
 | [], _, vals, a, w, hF, hR, hP, hB => by
  have hfl := filled_fill (ops := ops) (vals := vals) (b := b0) (List.range n) List.nodup_range
   (fun k hk => by obtain ⟨_, d, _, _, h3, h4, _⟩ := L.op k (List.mem_range.1 hk); exact ⟨d, h3, by rw [hT]; exact h4⟩) (fun i hi k hk => L.dist i k (List.mem_range.1 hi) (List.mem_range.1 hk))
  have : a = fill ops vals (List.range n) b0 := (hF.congr (fun k => by simp) fun _ _ => rfl).unique hfl
  rw [this, List.length_nil, Nat.zero_add]
  exact htail vals w hB (fun k hk => hR k hk (by simp)) fun j k hj hk => hP j k hj (by simp) hk (by simp)
 | j :: M, hM, vals, a, w, hF, hR, hP, hB => by
  obtain ⟨hM', hjo⟩ := tail_subs _ _ _ hM
  have hjn : j < n := by rw [← L.optEq] at hjo; exact List.mem_range.1 (List.mem_filter.1 hjo).1
  obtain ⟨o, d, ho, hd, hs, hdT, hg⟩ := L.op j hjn
  have h1 := List.all_eq_true.1 hO _ hM
  simp only [Bool.and_eq_true, Bool.not_eq_true'] at h1
  obtain ⟨⟨hf, hr⟩, hnM⟩ := h1
  have hr' : j ∈ Region.ready md ops (listedBut ops n (j :: M)) := by simpa using hr
  have hneed : ∀ k ∈ needs ops n j, k < n ∧ k ∉ j :: M := fun k hk => by
   obtain ⟨h2, h3⟩ := L.need j k hjn hk
   have h4 := wait_listed hr' h3
   rw [listedBut_getD _ _ _ (by have := L.lt; omega)] at h4
   simp only [Bool.and_eq_true, decide_eq_true_eq, Bool.not_eq_true'] at h4
   exact ⟨h2, by simpa using h4.2⟩
  obtain ⟨v, hy, hRj, hNj⟩ := hpure j hjo o ho vals w hB fun k hk => hR k (hneed k hk).1 (hneed k hk).2
  have hy' : Yields P ops o v a := hy.of_same (L.exec hT hjn ho hF (fun k h => h.1) hneed) (by rw [wanted_none hg, wanted_none hg])
  have hset : (listedBut ops n (j :: M)).setIfInBounds j true = listedBut ops n M := by
   apply Array.ext
   · simp [listedBut]
   · intro i h2 h3
     have hi : i < ops.size := by simpa [listedBut] using h3
     have hn : M.contains j = false := hnM
     by_cases e : i = j
     · subst e; simp [listedBut, hjn]; simpa using hn
     · rw [Array.getElem_setIfInBounds (by simpa [listedBut] using hi), if_neg (Ne.symm e)]
       simp [listedBut, e]
  have hput := hF.put v hs (by rw [hT]; exact hdT) fun k hk hkd => (hk.2 (by rw [L.dist k j hk.1 hjn d hkd hs]; exact List.mem_cons_self)).elim
  have hnM' : j ∉ M := by simpa using hnM
  have hput' := hput.congr (vals' := fun k => if k = j then v else vals k) (p' := fun k => k < n ∧ k ∉ M) (fun k => by
   constructor
   · rintro (rfl | ⟨h2, h3⟩)
     · exact ⟨hjn, hnM'⟩
     · exact ⟨h2, fun h4 => h3 (List.mem_cons_of_mem _ h4)⟩
   · rintro ⟨h2, h3⟩
     by_cases e : k = j
     · exact .inl e
     · exact .inr ⟨h2, fun h4 => by rcases List.mem_cons.1 h4 with h5 | h5 <;> contradiction⟩) fun _ _ => rfl
  have hout : ∀ k, k ≠ j → k ∉ M → k ∉ j :: M := fun k h1 h2 h3 => by rcases List.mem_cons.1 h3 with h | h <;> contradiction
  have H := Loc.claim L hT hO hQ hD hpure htail M hM' _ _ w hput' (fun k hk hkM => by
   by_cases e : k = j
   · subst e; simpa using hRj
   · simp only [if_neg e]; exact hR k hk (hout k e hkM)) (fun i k hi hiM hk hkM hne => by
   by_cases ei : i = j
   · subst ei
     rw [if_pos rfl, if_neg (Ne.symm hne)]
     exact (hD i k v (vals k) w hne hNj (hR k hk (hout k (Ne.symm hne) hkM))).1
   · by_cases ek : k = j
     · subst ek
       rw [if_neg hne, if_pos rfl]
       exact (hD k i v (vals i) w (Ne.symm hne) hNj (hR i hi (hout i hne hiM))).2
     · rw [if_neg ei, if_neg ek]
       exact hP i k hi (hout i ei hiM) hk (hout k ek hkM) hne) hB
  rw [← hset] at H
  have hdst : slotOf ops j = o.dst := by simp [slotOf, ho]
  rw [hdst] at H
  rw [List.length_cons, show M.length + 1 + g = (M.length + g) + 1 by omega]
  exact wpAny_take ho L.sel hf hr (fun c a w h => hQ c _ _ w h) hy' H
theorem count_drop {q q' : Nat → Bool} {i : Nat} (hi : q i = true) (hi' : q' i = false) (hs : ∀ j, j ≠ i → q' j = q j) : ∀ l : List Nat, l.Nodup → i ∈ l → (l.filter q).length = (l.filter q').length + 1
 | [], _, h => by cases h
 | x :: l, hn, h => by
  obtain ⟨h1, h2⟩ := List.nodup_cons.1 hn
  by_cases e : x = i
  · subst e
    rw [List.filter_cons_of_pos hi, List.filter_cons_of_neg (by simp [hi'])]
    have : l.filter q = l.filter q' := List.filter_congr fun j hj => (hs j fun e => h1 (e ▸ hj)).symm
    rw [this, List.length_cons]
  · have hil : i ∈ l := by rcases List.mem_cons.1 h with h | h; exact absurd h.symm e; exact h
    have ih := count_drop hi hi' hs l h2 hil
    by_cases hx : q x = true
    · rw [List.filter_cons_of_pos hx, List.filter_cons_of_pos (by rw [hs x e]; exact hx), List.length_cons, List.length_cons, ih]
    · rw [List.filter_cons_of_neg hx, List.filter_cons_of_neg (by rw [hs x e]; exact hx), ih]
theorem Loc.any (L : Loc md ops n T opt) (hT : b0.tmps.size = T) (hO : optB md ops n opt = true) (hQ : ∀ c a a' w, Q (.panic c) a' w → Q (.panic c) a w)
    (hR : ∀ j v w w', Below w.heap.size w w' → R j v w → R j v w') (hD : ∀ j k v u w, j ≠ k → N j v w → R k u w → D j v k u ∧ D k u j v)
    (hop : ∀ j, j < n → ∀ o d, ops[j]? = some o → o.dst = some d → ∀ vals w, Below w0.heap.size w0 w → (∀ k ∈ needs ops n j, R k (vals k) w) → wpList P ops (OneQ (fun v w' => R j v w' ∧ N j v w) d (fill ops vals (needs ops n j) b0) w) [o] (fill ops vals (needs ops n j) b0) w)
    (hpure : ∀ j ∈ opt, ∀ o, ops[j]? = some o → ∀ vals w, Below w0.heap.size w0 w → (∀ k ∈ needs ops n j, R k (vals k) w) → ∃ v, Yields P ops o v (fill ops vals (needs ops n j) b0) ∧ R j v w ∧ N j v w)
    (htail : ∀ vals w, Below w0.heap.size w0 w → (∀ k, k < n → R k (vals k) w) → (∀ j k, j < n → k < n → j ≠ k → D j (vals j) k (vals k)) → wpAny P md ops Q g (listedBut ops n []) (fill ops vals (List.range n) b0) w) :
    ∀ (u : Nat) (listed : Array Bool) (vals : Nat → Value) (a : Act) (w : World), ((List.range n).filter fun j => !listed.getD j true).length = u → listed.size = ops.size → (∀ t, n ≤ t → t < ops.size → listed.getD t true = false) →
     Closed md ops listed → Filled ops vals (fun k => k < n ∧ listed.getD k true = true) b0 a → (∀ k, k < n → listed.getD k true = true → R k (vals k) w) → (∀ j k, j < n → listed.getD j true = true → k < n → listed.getD k true = true → j ≠ k → D j (vals j) k (vals k)) → Below w0.heap.size w0 w → wpAny P md ops Q (u + g) listed a w := by
 intro u
 induction u with
 | zero =>
  intro listed vals a w hu hsz htl hcl hF hRk hP hB
  have hall : ∀ k, k < n → listed.getD k true = true := fun k hk => by
   have : (List.range n).filter (fun j => !listed.getD j true) = [] := List.eq_nil_of_length_eq_zero hu
   have := List.filter_eq_nil_iff.1 this k (List.mem_range.2 hk)
   simpa using this
  have hl : listed = listedBut ops n [] := by
   apply Array.ext
   · simp [listedBut, hsz]
   · intro i h1 h2
     have hi : i < ops.size := by rw [← hsz]; exact h1
     by_cases h : i < n
     · have := hall i h
       simp [h1] at this
       simp [listedBut, h, this]
     · have := htl i (by omega) hi
       simp [h1] at this
       simp [listedBut, h, this]
  rw [hl]
  exact Loc.claim L hT hO hQ hD hpure htail [] (by have := filter_subs (fun _ => false) opt; rwa [List.filter_eq_nil_iff.2 (fun _ _ => by simp)] at this) vals a w (hF.congr (fun k => ⟨fun h => ⟨h.1, by simp⟩, fun h => ⟨h.1, hall k h.1⟩⟩) fun _ _ => rfl) (fun k hk _ => hRk k hk (hall k hk)) (fun j k hj _ hk _ => hP j k hj (hall j hj) hk (hall k hk)) hB
 | succ u ih =>
  intro listed vals a w hu hsz htl hcl hF hRk hP hB
  by_cases hdone : ∀ k, k < n → k ∉ opt → listed.getD k true = true
  · have hM : (List.range n).filter (fun j => !listed.getD j true) = opt.filter fun j => !listed.getD j true := by
     conv => rhs; rw [← L.optEq]
     rw [List.filter_filter]
     refine List.filter_congr fun j hj => ?_
     by_cases h : j ∈ opt
     · simp [h]
     · have := hdone j (List.mem_range.1 hj) h
       simp [this]
    have hl : listed = listedBut ops n (opt.filter fun j => !listed.getD j true) := by
     rw [← hM]
     apply Array.ext
     · simp [listedBut, hsz]
     · intro i h1 h2
       have hi : i < ops.size := by rw [← hsz]; exact h1
       by_cases h : i < n
       · simp [listedBut, h, h1]
       · have := htl i (by omega) hi
         simp [h1] at this
         simp [listedBut, h, this]
    rw [hM] at hu
    have hin : ∀ k, k < n → (k ∉ opt.filter (fun j => !listed.getD j true) ↔ listed.getD k true = true) := fun k hk => by
     rw [← hM, List.mem_filter]
     simp [hk]
    have H := Loc.claim L hT hO hQ hD hpure htail (opt.filter fun j => !listed.getD j true) (filter_subs _ _) vals a w (hF.congr (fun k => ⟨fun h => ⟨h.1, (hin k h.1).2 h.2⟩, fun h => ⟨h.1, (hin k h.1).1 h.2⟩⟩) fun _ _ => rfl) (fun k hk h => hRk k hk ((hin k hk).1 h)) (fun j k hj h h' h2 => hP j k hj ((hin j hj).1 h) h' ((hin k h').1 h2)) hB
    rw [← hl, hu] at H
    exact H
  · have hnr : ∀ k, k < n → listed.getD k true = false → Region.ready md ops listed ≠ [] := by
     intro k
     induction k using Nat.strongRecOn with
     | _ k ihk =>
      intro hk hun
      obtain ⟨o, d, ho, hd, hs, hdT, hg⟩ := L.op k hk
      by_cases hall : ∀ e ∈ o.after, Region.binds md e = true → listed.getD e.on false = true
      · exact fun h0 => (by have := mem_ready.2 ⟨hun, o, ho, hall⟩; rw [h0] at this; cases this)
      · simp only [Classical.not_forall] at hall
        obtain ⟨e, he, hb, hno⟩ := hall
        have hlt := L.low k o hk ho e he hb
        refine ihk e.on hlt (by omega) (getD_in (by rw [hsz]; have := L.lt; omega) ?_)
        simpa using hno
    simp only [Classical.not_forall] at hdone
    obtain ⟨k0, hk0, hko, hk0l⟩ := hdone
    have hk0f : listed.getD k0 true = false := by simpa using hk0l
    rw [show u + 1 + g = (u + g) + 1 by omega]
    refine ⟨fun h => absurd h (hnr k0 hk0 hk0f), fun i hi => ?_⟩
    have hin : i < n := by
     rcases Nat.lt_or_ge i n with h | h
     · exact h
     · exfalso
       by_cases e : i = n
       · subst e
         obtain ⟨_, o, ho, hall⟩ := mem_ready.1 hi
         have := clos_listed hcl i _ (preds_listed ho hall) k0 (by simpa using L.wait k0 hk0 hko)
         rw [getD_both hk0f] at this; cases this
       · have hlt : i < ops.size := by
          obtain ⟨_, o, ho, _⟩ := mem_ready.1 hi
          exact (zqo ho)
         have h1 := List.all_eq_true.1 L.chain i (List.mem_range.2 hlt)
         simp only [Bool.or_eq_true, decide_eq_true_eq] at h1
         rcases h1 with h1 | h1
         · omega
         · have := wait_listed hi h1
           rw [getD_both (htl (i - 1) (by omega) (by omega))] at this; cases this
    have hun := (mem_ready.1 hi).1
    obtain ⟨o, d, ho, hd, hs, hdT, hg⟩ := L.op i hin
    have hneed : ∀ k ∈ needs ops n i, k < n ∧ listed.getD k true = true := fun k hk => by
     obtain ⟨h2, h3⟩ := L.need i k hin hk
     have h4 := wait_listed hi h3
     refine ⟨h2, ?_⟩
     cases h5 : listed.getD k true with
     | true => rfl
     | false => rw [getD_both h5] at h4; cases h4
    refine L.wpOp hT hin ho hd hF (fun k h => h.1) hneed (hop i hin o d ho hd vals w hB fun k hk => hRk k (hneed k hk).1 (hneed k hk).2) fun v w' hb hv => ?_
    obtain ⟨hv, hN⟩ := hv
    have hget : ∀ k, (listed.setIfInBounds i true).getD k true = if k = i then true else listed.getD k true := fun k => by
     by_cases e : k = i
     · subst e
       rw [if_pos rfl]
       have : k < listed.size := by rw [hsz]; have := L.lt; omega
       simp [this]
     · rw [if_neg e, getD_set_ne true (Ne.symm e)]
    refine ih _ (fun k => if k = i then v else vals k) _ w' ?_ (by simpa using hsz) (fun t h1 h2 => ?_) (hcl.set hi) ?_ (fun k hk hkl => ?_) (fun j k hj hjl hk hkl hne => ?_) (hB.trans (hb.mono hB.size))
    · have := count_drop (q := fun j => !listed.getD j true) (q' := fun j => !(listed.setIfInBounds i true).getD j true) (i := i) (by simp only [hun, Bool.not_false]) (by rw [hget, if_pos rfl]; rfl) (fun j hj => by simp only [hget, if_neg hj]) (List.range n) List.nodup_range (List.mem_range.2 hin)
      omega
    · rw [hget, if_neg (by omega)]; exact htl t h1 h2
    · have hput := hF.put v hs (by rw [hT]; exact hdT) fun k hk hkd => by
       have := L.dist k i hk.1 hin d hkd hs
       subst this
       have h6 := hk.2
       rw [hun] at h6; cases h6
      refine hput.congr (fun k => ?_) fun _ _ => rfl
      rw [hget]
      constructor
      · rintro (rfl | h)
        · exact ⟨hin, by simp⟩
        · exact ⟨h.1, by by_cases e : k = i <;> simp [e, h.2]⟩
      · rintro ⟨h1, h2⟩
        by_cases e : k = i
        · exact .inl e
        · rw [if_neg e] at h2; exact .inr ⟨h1, h2⟩
    · by_cases e : k = i
      · subst e; simpa using hv
      · simp only [if_neg e]
        rw [hget, if_neg e] at hkl
        exact hR k _ w w' hb (hRk k hk hkl)
    · rw [hget] at hjl hkl
      by_cases ei : j = i
      · subst ei
        rw [if_neg (Ne.symm hne)] at hkl
        simp only [if_pos rfl, if_neg (Ne.symm hne)]
        exact (hD j k v (vals k) w hne hN (hRk k hk hkl)).1
      · by_cases ek : k = i
        · subst ek
          rw [if_neg hne] at hjl
          simp only [if_pos rfl, if_neg hne]
          exact (hD k j v (vals j) w (Ne.symm hne) hN (hRk j hj hjl)).2
        · rw [if_neg ei] at hjl
          rw [if_neg ek] at hkl
          simp only [if_neg ei, if_neg ek]
          exact hP j k hj hjl hk hkl hne
end
end Go.Sd
