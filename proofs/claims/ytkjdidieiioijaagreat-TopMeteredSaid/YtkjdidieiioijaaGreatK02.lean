/- Walks. -/
import Derived.OrdersIn
import Derived.TacticsIn
import Derived.OrdersHeld
import Derived.Deep.RegionHeld3
import Derived.Test.YtkjdidieiioijaaGreatK01
set_option linter.all false
set_option maxRecDepth 100000
set_option maxHeartbeats 16000000
namespace Go.Sd
open Go Go.RowKit
variable {P:Program}{ops:Array Oper}{md:Region.Mode}{C:World->Prop}{F:Fence}
def Qy (l:List Oper):Bool:=l.all fun o=>match o.op with | .defer _=>false|_=>true
theorem XL {l:List Oper}(h:Qy l=true){j:Nat}{o:Oper}(ho:l.toArray[j]? = some o):∀c,o.op≠.defer c:=by
 intro c hc
 rw[List.getElem?_toArray] at ho
 have:=List.all_eq_true.1 h o (List.mem_of_getElem? ho)
 rw[hc] at this
 cases this
def WideAt (F:Fence):Prop:=F=Fence.wide\/∃r,F=Fence.wide.inRound r
theorem WideAt.fn (h:WideAt F)(f:FuncId):F.fn f:=by
 rcases h with rfl|⟨r,rfl⟩ <;> trivial
theorem WideAt.depth (h:WideAt F):F.depth=none:=by
 rcases h with rfl|⟨r,rfl⟩ <;> rfl
theorem WideAt.calls {f:FuncId}{args:Array Value}{w:World}{R:Ending->World->Prop}(h:WideAt F)(hc:CallsIn Fence.wide 0 P f args w R):CallsIn F 0 P f args w R:=by
 rcases h with rfl|⟨r,rfl⟩
 . exact hc
 . exact CallsIn.inRound r hc
theorem Qe (hF:WideAt F){o:Oper}{a:Act}{K:Act->Prop}{K':Act->World->Prop}{Q':Exit->Act->World->Prop}{w:World}(hnd:∀c,o.op≠.defer c)(hw:C w)(h:∀a w',C w'->K a->K' a w')
    (hh:o.quiet P a C K):o.wpIn F 0 P a w K' Q':=by
 obtain⟨v,h1,h2⟩:=hh
 have h3:=h1 w hw
 unfold Oper.quietAt at h3
 unfold Oper.wpIn
 refine⟨fun _ _=>hF.fn _,?_⟩
 rw[Oper.semAt_eq _ _ _ hnd]
 generalize (execOp a.eval o).run P w=q at *
 cases q with
 | ok x w' =>
  cases x <;> simp only[Oper.quietUpon] at h3 <;> simp only[Oper.uponIn]
  case value u =>
   obtain⟨e1,e2⟩:=h3
   rw[e1,e2]
   exact h _ _ hw h2
  case skip =>
   obtain⟨e1,e2⟩:=h3
   rw[e1,<- e2]
   exact h _ _ hw h2
  case enter f args =>
   obtain⟨e1,hc⟩:=h3
   rw[e1]
   exact⟨fun hd=>(by rw[hF.depth] at hd;cases hd),(hF.calls (callsIn_wide.2 hc)).mono fun e w'' ⟨he,hw''⟩=>by subst he;exact h _ _ hw'' h2⟩
 | halt x w'=>simp only[Oper.quietUpon] at h3
theorem afB (hF:WideAt F){i:Nat}{a:Act}{K:Act->Prop}{K':Act->World->Prop}{Q':Exit->Act->World->Prop}{w:World}(hnd:∀(j:Nat)(o:Oper),ops[j]? = some o->∀c,o.op≠.defer c)(hC:C w)(h:∀a w',C w'->K a->K' a w')
    (hh:qOp P ops C i K a):wpOpIn F 0 P ops Q' i K' a w:=by
 unfold qOp at hh
 unfold wpOpIn
 split
 . rename_i ho;simp only[ho] at hh;exact h _ _ hC hh
 . rename_i o ho
   simp only[ho] at hh
   split
   . rename_i hw;simp only[hw,if_true] at hh;exact Qe hF (hnd _ _ ho) hC h hh
   . rename_i hw;simp only[hw] at hh;exact⟨fun _ _=>hF.fn _,h _ _ hC hh⟩
def Fq (P:Program)(md:Region.Mode)(ops:Array Oper)(C:World->Prop)(n:Nat)(L:Array Bool->Act->Prop):Nat->Array Bool->Act->Prop
 | 0,listed,a=>L listed a
 | f+1,listed,a =>
  Region.ready md ops listed≠[]/\∀i ∈ Region.ready md ops listed,i<n/\qOp P ops C i (Fq P md ops C n L f (listed.setIfInBounds i true)) a
theorem FT (hF:WideAt F)(hnd:∀(j:Nat)(o:Oper),ops[j]? = some o->∀c,o.op≠.defer c){n g:Nat}{L:Array Bool->Act->Prop}{Q':Exit->Act->World->Prop}(hL:∀listed a w,C w->L listed a->wpAnyIn F 0 P md ops Q' g listed a w) :
    ∀(f:Nat) (listed:Array Bool) (a:Act) (w:World),C w->Fq P md ops C n L f listed a->wpAnyIn F 0 P md ops Q' (f+g) listed a w
 | 0,listed,a,w,hw,h=>by rw[Nat.zero_add];exact hL _ _ _ hw h
 | f+1,listed,a,w,hw,h=>by
  rw[show f+1+g=(f+g)+1 by omega]
  exact⟨fun h0=>absurd h0 h.1,fun i hi=>afB hF hnd hw (fun a' w' hw' h'=>FT hF hnd hL f _ a' w' hw' h') (h.2 i hi).2⟩
theorem RU {n i:Nat}{oi:Oper}{v:Value}{L:Array Bool->Act->Prop}(hi:ops[i]? = some oi)(hsel:∀(j:Nat)(o:Oper) cs b,ops[j]? = some o->o.op≠.select cs b)
    (hs:Region.sinkB md ops n=true) (hc:Region.chainB md ops n=true) (hn:n<ops.size) (hin:i<n)
    (hdone:∀listed a,L listed a->∀j ∈ Region.ready md ops listed,n<=j) :
    ∀(f:Nat) (listed:Array Bool) (a:Act),HeadInv md ops n listed ->
     (∀j oj,ops[j]? = some oj->j≠i->listed.getD j true=false->(∀e ∈ oj.after,Region.binds md e=true->e.on≠i)->oi.apart ops oj=true) ->
     i ∈ Region.ready md ops listed->YieldsIn P ops C oi v a ->
     Fq P md ops C n L f (listed.setIfInBounds i true) (a.put oi.dst v)->Fq P md ops C n L (f+1) listed a:=by
 intro f
 induction f with
 | zero =>
  intro listed a inv _ hr hy H
  have hun:=(mem_ready.1 hr).1
  refine⟨fun h=>(by rw[h] at hr;cases hr),fun j hj=>?_⟩
  have hjn:j<n:=by
   rcases Nat.lt_or_ge j n with h|h
   . exact h
   . exact absurd hj (tail_waits hs hc hn inv _ i rfl hin hun j h)
  refine⟨hjn,?_⟩
  by_cases hji:j=i
  . subst hji;exact hy.qOp hi H
  . have:=hdone _ _ H j (ready_mono hj hji)
    omega
 | succ f ih =>
  intro listed a inv hfree hr hy H
  have hun:=(mem_ready.1 hr).1
  refine⟨fun h=>(by rw[h] at hr;cases hr),fun j hj=>?_⟩
  have hjn:j<n:=by
   rcases Nat.lt_or_ge j n with h|h
   . exact h
   . exact absurd hj (tail_waits hs hc hn inv _ i rfl hin hun j h)
  refine⟨hjn,?_⟩
  by_cases hji:j=i
  . subst hji;exact hy.qOp hi H
  . have h1:=(H.2 j (ready_mono hj hji)).2
    obtain⟨hjun,oj,hoj,hall⟩:=mem_ready.1 hj
    have hnot:∀e ∈ oj.after,Region.binds md e=true->e.on≠i:=fun e he hb heq=>by
     have h1:=hall e he hb
     rw[heq,getD_both hun] at h1
     cases h1
    have h2:=qOp_put hoj (hfree j oj hoj hji hjun hnot) (fun cs b=>hsel i oi cs b hi) (fun cs b=>hsel j oj cs b hoj) hy h1
    have hfree':∀k ok,ops[k]? = some ok->k≠i->(listed.setIfInBounds j true).getD k true=false ->
        (∀e ∈ ok.after,Region.binds md e=true->e.on≠i)->oi.apart ops ok=true:=fun k ok hk hki hun hno=>by
     refine hfree k ok hk hki ?_ hno
     by_cases hjk:j=k
     . subst hjk;exact hjun
     . rw[getD_set_ne true hjk] at hun;exact hun
    refine qOp_mono (fun a' h3=>ih (listed.setIfInBounds j true) a' (inv.set hj hjn) hfree' (ready_mono hr (Ne.symm hji)) h3.1 ?_) h2
    rw[Array.setIfInBounds_comm _ _ hji]
    exact h3.2
theorem CQ {n g:Nat}{Lq:Act->Prop}(hsel:Region.noSelect ops=true)(hs:Region.sinkB md ops n=true)(hc:Region.chainB md ops n=true)(hn:n<ops.size) :
    ∀(l:List Oper) (k:Nat) (listed:Array Bool) (a:Act),(∀j,j<l.length->l[j]? = ops[k+j]?)->k+l.length=n->HeadInv md ops n listed ->
    Region.lexHead md ops g l.length k listed=true->wpQuiet P ops C Lq l a ->
    Fq P md ops C n (fun listed' a'=>Region.seqB md ops g n listed'=true/\Lq a') l.length listed a
 | [],k,listed,a,_,hk,_,hB,h=>by
  have:k=n:=by simpa using hk
  subst this
  exact⟨by simpa [Region.lexHead] using hB,h⟩
 | o :: l,k,listed,a,hl,hk,inv,hB,h=>by
  have h0:ops[k]? = some o:=by simpa using (hl 0 (by simp)).symm
  simp only[List.length_cons,Region.lexHead,Bool.and_eq_true] at hB
  obtain⟨⟨hr,hf⟩,hB'⟩:=hB
  have hkn:k<n:=by simp only[List.length_cons] at hk;omega
  have hr':k ∈ Region.ready md ops listed:=by simpa using hr
  have hst:qOp P ops C k (wpQuiet P ops C Lq l) a:=by unfold qOp;simp only[h0];exact h
  obtain⟨v,hy,hK⟩:=yieldsIn_of_qOp h0 hst
  exact RU h0 (Region.noSelect_spec hsel) hs hc hn hkn (fun listed' a' hL=>seqB_ready hL.1) l.length listed a inv (Region.free_spec h0 hf) hr' hy
   (CQ hsel hs hc hn l (k+1) _ _ (fun j hj=>by have:=hl (j+1) (by simp;omega);simpa [Nat.add_assoc,Nat.add_comm 1 j] using this) (by simp only[List.length_cons] at hk;omega) (inv.set hr' hkn) hB' hK)
theorem GL {Q':Exit->Act->World->Prop} : ∀(l:List Oper)(k:Nat)(listed:Array Bool)(a:Act)(w:World),(∀j,l[j]? = ops[k+j]?) ->
    Region.seqB md ops l.length k listed=true->wpListIn F 0 P ops Q' l a w->wpAnyIn F 0 P md ops Q' l.length listed a w
 | [],_,_,_,_,_,hB,h=>⟨by simpa [Region.seqB] using hB,h⟩
 | o :: l,k,listed,a,w,hl,hB,h=>by
  have h0:ops[k]? = some o:=by simpa using (hl 0).symm
  simp only[List.length_cons,Region.seqB,Bool.and_eq_true,decide_eq_true_eq] at hB
  refine⟨fun h1=>(by rw[hB.1] at h1;cases h1),fun i hi=>?_⟩
  rw[hB.1] at hi
  have hik:i=k:=by simpa using hi
  subst hik
  have hw:wpOpIn F 0 P ops Q' i (wpListIn F 0 P ops Q' l) a w:=by unfold wpOpIn;simp only[h0];exact h
  exact wpOpIn_mono (fun a' w' h'=>GL l (i+1) _ a' w' (fun j=>by have:=hl (j+1);simpa [Nat.add_assoc,Nat.add_comm 1 j] using this) hB.2 h') hw
theorem JC (hF:WideAt F){id:Nat}{Q:Exit->Act->World->Prop}{a:Act}{w:World}{l:List Oper}(n:Nat)(hnd:Qy l=true)(hm:P.follows .mixedOrders=true)(hB:Region.lexTailB .any l.toArray n=true)(hC:C w.drew)
    (h:wpQuiet P l.toArray C (fun a'=>∀w',C w'->wpListIn F 0 P l.toArray Q (l.drop n) a' w') (l.take n) a):(Code.region id l.toArray true).wpIn F 0 P Q a w:=by
 simp only[Region.lexTailB,Bool.and_eq_true,decide_eq_true_eq] at hB
 obtain⟨⟨⟨⟨hsel,hn⟩,hs⟩,hc⟩,hlex⟩:=hB
 have hn':n<l.length:=by simpa using hn
 have htl:(l.take n).length=n:=by simp;omega
 have hdl:(l.drop n).length=l.toArray.size - n:=by simp
 have inv0:HeadInv .any l.toArray n (Array.replicate l.toArray.size false) :=
  ⟨by simp,fun j oj _ hl=>(by rw[getD_replicate_false] at hl;cases hl),fun t _ ht=>getD_in (by simpa using ht) (getD_replicate_false _ _)⟩
 have H:=CQ (md:=.any) (g:=l.toArray.size - n) hsel hs hc hn (l.take n) 0 _ a (fun j hj=>by
  have hj':j<n:=by rw[htl] at hj;exact hj
  simp[hj']) (by simpa using htl) inv0 (by rw[htl];exact hlex) h
 refine wpIn_region_any hm ?_
 have:=FT hF (fun _ _ ho=>XL hnd ho) (Q':=Q) (g:=l.toArray.size - n) (fun listed a' w' hw hL=>by
  have:=GL (F:=F) (P:=P) (md:=.any) (Q':=Q) (l.drop n) n listed a' w' (fun j=>by simp[List.getElem?_drop]) (by rw[hdl];exact hL.1) (hL.2 w' hw)
  rwa [hdl] at this) _ _ _ _ hC H
 rw[htl,show n+(l.toArray.size - n)=l.toArray.size by omega] at this
 exact this
theorem GN {n g:Nat}{L:Array Bool->Act->Prop}{Q':Exit->Act->World->Prop}(hL:∀listed a w,C w->L listed a->wpAny P md ops Q' g listed a w) :
    ∀(f:Nat) (listed:Array Bool) (a:Act) (w:World),C w->Fq P md ops C n L f listed a->wpAny P md ops Q' (f+g) listed a w
 | 0,listed,a,w,hw,h=>by rw[Nat.zero_add];exact hL _ _ _ hw h
 | f+1,listed,a,w,hw,h=>by
  rw[show f+1+g=(f+g)+1 by omega]
  exact⟨fun h0=>absurd h0 h.1,fun i hi=>wpOp_of_qOp hw (fun a' w' hw' h'=>GN hL f _ a' w' hw' h') (h.2 i hi).2⟩
theorem RX {id:Nat}{Q:Exit->Act->World->Prop}{a:Act}{w:World}{l:List Oper}(n:Nat)(hm:P.follows .mixedOrders=true)(hB:Region.lexTailB .any l.toArray n=true)(hC:C w.drew)
    (h:wpQuiet P l.toArray C (fun a'=>∀w',C w'->wpList P l.toArray Q (l.drop n) a' w') (l.take n) a):(Code.region id l.toArray true).wp P Q a w:=by
 simp only[Region.lexTailB,Bool.and_eq_true,decide_eq_true_eq] at hB
 obtain⟨⟨⟨⟨hsel,hn⟩,hs⟩,hc⟩,hlex⟩:=hB
 have hn':n<l.length:=by simpa using hn
 have htl:(l.take n).length=n:=by simp;omega
 have hdl:(l.drop n).length=l.toArray.size - n:=by simp
 have inv0:HeadInv .any l.toArray n (Array.replicate l.toArray.size false) :=
  ⟨by simp,fun j oj _ hl=>(by rw[getD_replicate_false] at hl;cases hl),fun t _ ht=>getD_in (by simpa using ht) (getD_replicate_false _ _)⟩
 have H:=CQ (md:=.any) (g:=l.toArray.size - n) hsel hs hc hn (l.take n) 0 _ a (fun j hj=>by
  have hj':j<n:=by rw[htl] at hj;exact hj
  simp[hj']) (by simpa using htl) inv0 (by rw[htl];exact hlex) h
 refine wp_region_any hm ?_
 have:=GN (Q':=Q) (g:=l.toArray.size - n) (fun listed a' w' hw hL=>by
  have:=wpAny_of_seq (md:=.any) (Q':=Q) (l.drop n) n listed a' w' (fun j=>by simp[List.getElem?_drop]) (by rw[hdl];exact hL.1) (hL.2 w' hw)
  rwa [hdl] at this) _ _ _ _ hC H
 rw[htl,show n+(l.toArray.size - n)=l.toArray.size by omega] at this
 exact this
theorem Jl {id:Nat}{Q:Exit->Act->World->Prop}{a:Act}{w:World}{l:List Oper}(n:Nat)(hm:P.follows .mixedOrders=true)(hB:Region.lexTailB .any l.toArray n=true)
    (h:wpQuiet P l.toArray (fun w'=>∃g:Grow w,w'=g.x) (fun a'=>∀w',(∃g:Grow w,w'=g.x)->wpList P l.toArray Q (l.drop n) a' w') (l.take n) a):(Code.region id l.toArray true).wp P Q a w :=
 RX (C:=fun w'=>∃g:Grow w,w'=g.x) n hm hB ⟨⟨w.drew,(Below.refl _ _).drew⟩,rfl⟩ h
theorem zJ (hF:WideAt F){id:Nat}{Q:Exit->Act->World->Prop}{a:Act}{w:World}{l:List Oper}(n:Nat)(hnd:Qy l=true)(hm:P.follows .mixedOrders=true)(hB:Region.lexTailB .any l.toArray n=true)
    (h:wpQuiet P l.toArray (fun w'=>∃g:Grow w,w'=g.x) (fun a'=>∀w',(∃g:Grow w,w'=g.x)->wpListIn F 0 P l.toArray Q (l.drop n) a' w') (l.take n) a):(Code.region id l.toArray true).wpIn F 0 P Q a w :=
 JC hF (C:=fun w'=>∃g:Grow w,w'=g.x) n hnd hm hB ⟨⟨w.drew,(Below.refl _ _).drew⟩,rfl⟩ h
variable {P:Program}
def ZQ (P:Program)(l:Nat)(R:Ending->World->Prop):Exit->Act->World->Prop
 | .panic chain,a,w=>a.defers=[]/\R (.panicked chain) w
 | e,a,w=>roundPost P l R e a w
theorem QW {F:Fence}{n:Nat}{l:Nat}{f:FuncId}{tmps:Array Value}{assign body:Code}{w:World}{R:Ending->World->Prop}(hF:F.fn f)(hfn:∃fn,P.funcs[f]? = some fn)
    (h:assign.wpIn (F.inRound l) n P (Exit.then (fun a₁ w₁=>∃w₂,(Instr.beginRound l).run P w₁=.ok () w₂/\body.wpIn (F.inRound l) n P (ZQ P l R) a₁ w₂) (fun _ _ _=>False))
     { tmps:=tmps,defers:=[] } w) :
    RoundIn F n P l f tmps assign body w R:=by
 refine⟨hF,fun c cs hr=>?_⟩
 let b:Frame:={ (default:Frame) with fn:=f,kind:=.normal,roundOf:=some l }
 have hb0:Frame.round l f tmps assign body .normal=b.atR { tmps:=tmps,defers:=[] } [.code assign,.beginRound,.code body]:=by
  simp[Frame.round,Frame.atR,b]
 have hr':(F.inRound l).room ((c :: cs).length+1+n):=hr
 have hF':(F.inRound l).fn b.fn:=hF
 obtain⟨e,a₁,w₁,hq,harr⟩:=h b [.beginRound,.code body] (c :: cs) rfl hF' hr'
 rw[<- hb0] at harr
 cases e with
 | normal =>
  obtain⟨w₂,hbr,hbody⟩:=hq
  have s1:StepsIn (Machine.fenced P (F.inRound l)) P (lone (b.atR a₁ [.beginRound,.code body]) (c :: cs) w₁) (lone (b.atR a₁ [.code body]) (c :: cs) w₂) :=
   .one (fenced_calm (fr:=b.atR a₁ [.beginRound,.code body]) hF' hr' rfl) (stepR_beginRound rfl hbr)
  obtain⟨e₂,a₂,w₃,hq₂,harr₂⟩:=hbody b [] (c :: cs) rfl hF' hr'
  cases e₂ with
  | normal =>
   obtain⟨v,w₄,hend,hR⟩:=hq₂
   exact⟨.returned v,w₄,hR,(StepsIn.trans harr s1).trans (StepsIn.trans harr₂ (.one (fenced_calm (fr:=b.atR a₂ []) hF' hr' rfl) (stepR_round_end rfl rfl hend)))⟩
  | ret =>
   obtain⟨v,w₄,hend,hR⟩:=hq₂
   obtain⟨k₁,hs⟩:=harr₂.2 rfl
   exact⟨.returned v,w₄,hR,(StepsIn.trans harr s1).trans (StepsIn.trans hs (.one (fenced_calm (fr:=b.atR a₂ (.code .ret :: k₁)) hF' hr' rfl) (stepR_round_ret rfl rfl hend)))⟩
  | exit id =>
   obtain⟨v,w₄,hend,hR⟩:=hq₂
   obtain⟨k₁,hk,hs⟩:=harr₂.2 rfl rfl
   exact⟨.returned v,w₄,hR,(StepsIn.trans harr s1).trans (StepsIn.trans hs (.one (fenced_calm (fr:=b.atR a₂ (.code (.exit id) :: k₁)) hF' hr' rfl) (stepR_round_exit rfl rfl hk hend)))⟩
  | goto t =>
   obtain⟨v,w₄,hend,hR⟩:=hq₂
   obtain⟨k₁,hk,hs⟩:=harr₂.2 rfl rfl
   exact⟨.returned v,w₄,hR,(StepsIn.trans harr s1).trans (StepsIn.trans hs (.one (fenced_calm (fr:=b.atR a₂ (.code (.goto t) :: k₁)) hF' hr' rfl) (stepR_round_goto rfl rfl hk hend)))⟩
  | panic chain =>
   obtain⟨hd,hR⟩:=hq₂
   obtain⟨todo,hs⟩:=harr₂
   have hl:Frame.leaving P { b.atR a₂ todo with mode:=.panicking chain } w₃ (.panicked chain):=⟨rfl,hd,hfn⟩
   exact⟨.panicked chain,w₃,hR,(StepsIn.trans harr s1).trans (StepsIn.trans hs (.one (fenced_leaving (F:=F.inRound l) (n:=n) hF' hr' hl) (step_leave_panicked hl)))⟩
  | outgrown=>exact hq₂.elim
 | exit id=>exact hq.elim
 | goto t=>exact hq.elim
 | ret=>exact hq.elim
 | panic chain=>exact hq.elim
 | outgrown=>exact hq.elim
def jo (fn:FuncId)(P:Program)(c:Code)(Q:Exit->Act->World->Prop)(a:Act)(w:World):Prop :=
 ∀(b:Frame) (k:List Item) (cs:List Frame),b.roundOf=none->b.fn=fn->∃e a' w',Q e a' w'/\ArrivesIn (Machine.fenced P Fence.wide) P (lone (b.atR a (.code c :: k)) cs w) b k cs e a' w'
section
variable {fn:FuncId}{Q:Exit->Act->World->Prop}{a:Act}{w:World}
theorem jo.ajL {c:Code}(h:c.wpIn Fence.wide 0 P Q a w):jo fn P c Q a w:=fun b k cs hro _=>h b k cs hro trivial (room_wide _)
theorem jo.of_wp {c:Code}(h:c.wp P Q a w):jo fn P c Q a w:=.ajL (wpIn_wide.2 h)
theorem jo.seq {x y:Code}(h:jo fn P x (Exit.then (jo fn P y Q) Q) a w):jo fn P (Code.seq x y) Q a w:=by
 intro b k cs hro hb
 have h0:(lone (b.atR a (.code (.seq x y) :: k)) cs w).fenced P Fence.wide:=fenced_wide _ _
 obtain⟨e,a₁,w₁,hq,harr⟩:=h b (.code y :: k) cs hro hb
 cases e with
 | normal =>
  obtain⟨e₂,a₂,w₂,hq₂,harr₂⟩:=hq b k cs hro hb
  exact⟨e₂,a₂,w₂,hq₂,.of_steps (.head h0 stepR_seq harr) harr₂⟩
 | exit id=>exact⟨_,a₁,w₁,hq,.of_steps (.one h0 stepR_seq) (.pass (x:=.code y) rfl (fun _ _=>.inl (by simp)) harr)⟩
 | goto l=>exact⟨_,a₁,w₁,hq,.of_steps (.one h0 stepR_seq) (.pass (x:=.code y) rfl (fun _ _=>.inl (by simp)) harr)⟩
 | ret=>exact⟨_,a₁,w₁,hq,.of_steps (.one h0 stepR_seq) (.pass (x:=.code y) rfl (fun _ _=>.inl (by simp)) harr)⟩
 | panic ch=>exact⟨_,a₁,w₁,hq,.of_steps (.one h0 stepR_seq) (.pass (x:=.code y) rfl (fun _ _=>.inl (by simp)) harr)⟩
 | outgrown=>exact⟨_,a₁,w₁,hq,.of_steps (.one h0 stepR_seq) (.pass (x:=.code y) rfl (fun _ _=>.inl (by simp)) harr)⟩
theorem jo.Jg {x y:Code}(h:∀K:Act->World->Prop,(∀a w,jo fn P y Q a w->K a w)->x.wp P (Exit.then K Q) a w):jo fn P (Code.seq x y) Q a w :=
 .seq (.of_wp (h _ fun _ _ h=>h))
theorem jo.block {id:Nat}{c:Code}(h:jo fn P c (Exit.inBlock id Q) a w):jo fn P (Code.block id c) Q a w:=by
 intro b k cs hro hb
 have h0:(lone (b.atR a (.code (.block id c) :: k)) cs w).fenced P Fence.wide:=fenced_wide _ _
 obtain⟨e,a₁,w₁,hq,harr⟩:=h b (.inBlock id :: k) cs hro hb
 cases e with
 | normal=>exact⟨.normal,a₁,w₁,hq,.head h0 stepR_block (StepsIn.trans harr (.one (fenced_wide _ _) stepR_inBlock))⟩
 | exit id' =>
  by_cases hid:id'=id
  . simp only[Exit.inBlock,hid,if_true] at hq
    exact⟨.normal,a₁,w₁,hq,.head h0 stepR_block (harr.1 k (by simp[exitTo,hid]))⟩
  . simp only[Exit.inBlock,hid,if_false] at hq
    have this:(id == id')=false:=by simp;exact fun h=>hid h.symm
    have hx:exitTo id' (.inBlock id :: k)=exitTo id' k:=by simp[exitTo,this]
    exact⟨.exit id',a₁,w₁,hq,fun k' hk=>.head h0 stepR_block (harr.1 k' (by rw[hx];exact hk)),
     fun hr' hk=>let ⟨k₁,h1,h2⟩:=harr.2 hr' (by rw[hx];exact hk);⟨k₁,h1,.head h0 stepR_block h2⟩⟩
 | goto l =>
  have hx:gotoIn l (.inBlock id :: k)=gotoIn l k:=by simp[gotoIn]
  exact⟨_,a₁,w₁,hq,fun k' hk=>.head h0 stepR_block (harr.1 k' (by rw[hx];exact hk)),
   fun hr' hk=>let ⟨k₁,h1,h2⟩:=harr.2 hr' (by rw[hx];exact hk);⟨k₁,h1,.head h0 stepR_block h2⟩⟩
 | ret=>exact⟨_,a₁,w₁,hq,.of_steps (.one h0 stepR_block) harr⟩
 | panic ch=>exact⟨_,a₁,w₁,hq,.of_steps (.one h0 stepR_block) harr⟩
 | outgrown=>exact⟨_,a₁,w₁,hq,.of_steps (.one h0 stepR_block) harr⟩
theorem jo.rangeFunc {g:Operand}{ps:Array Tmp}{assign body:Code}
    (h:∃(l:Nat) (mark:List Deferred) (w₁:World) (d:Deferred) (w₁':World) (f:FuncId) (args:Array Value) (w₂:World),
     (Instr.enterLoop fn a.tmps ps assign body none).run P w=.ok (l,mark) w₁ /\
     (resolve a.eval (rangeCall g l) 0).run P w₁=.ok d w₁' /\
     (invoke d.target d.args).run P w₁'=.ok (.enter f args) w₂ /\
     CallsIn Fence.wide 0 P f args w₂ (rangePost Fence.wide 0 P l Q { a with defers:=mark ++ a.defers })) :
    jo fn P (Code.rangeFunc g ps assign body) Q a w:=by
 intro b k cs hro hb
 obtain⟨l,mark,w₁,d,w₁',f,args,w₂,he,hres,hinv,hF,hcall⟩:=h
 rw[<- hb,<- hro] at he
 have h0:(lone (b.atR a (.code (.rangeFunc g ps assign body) :: k)) cs w).fenced P Fence.wide:=fenced_wide _ _
 have henter:=stepR_rangeFunc (P:=P) (b:=b) (a:=a) (k:=k) (cs:=cs) (w:=w) he hres hinv
 obtain⟨e,w₃,fr,hR,hsteps,hfn,hleave⟩:=hcall (b.atR { a with defers:=mark ++ a.defers } (.inRangeFunc l :: k) :: cs) (room_wide _)
 cases e with
 | outgrown =>
  obtain⟨a₀,w₀,hq⟩:=hR
  exact⟨.outgrown,a₀,w₀,hq,.inr (Outgrown.of_steps (.one henter) hsteps)⟩
 | returned v =>
  obtain⟨jump,w₄,hend,hj⟩:=hR
  have sback:StepsIn (Machine.fenced P Fence.wide) P (lone (b.atR a (.code (.rangeFunc g ps assign body) :: k)) cs w) (lone (b.atR { a with defers:=mark ++ a.defers } ((jump.map Item.code).toList ++ k)) cs w₄):=by
   refine .head h0 henter (StepsIn.trans hsteps (.head (fenced_wide _ _) ?_ (.one (fenced_wide _ _) (stepR_endRangeFunc hend))))
   rw[<- finish_atR_inRangeFunc l v];exact step_leave_returned hleave
  cases jump with
  | none=>exact⟨.normal,_,w₄,hj,sback⟩
  | some c =>
   obtain⟨e',a'',w₅,hq,harr⟩:=hj b k cs hro trivial (room_wide _)
   exact⟨e',a'',w₅,hq,.of_steps sback harr⟩
 | panicked chain =>
  refine⟨.panic chain,_,w₃,hR,.inRangeFunc l :: k,.head h0 henter (StepsIn.trans hsteps (.one (fenced_wide _ _) ?_))⟩
  rw[<- Frame.raise_atR];exact step_leave_panicked hleave
theorem yc {f:FuncId}{fn:Func}{c:Code}{args:Array Value}{w:World}{R:Ending->World->Prop}
    (hf:P.funcs[f]? = some fn) (hb:fn.body=some c)
    (h:jo f P c (bodyPostM Fence.wide 0 P fn R) { tmps:=args ++ Array.replicate (fn.ntmps - args.size) undef,defers:=[] } w):CallsIn Fence.wide 0 P f args w R:=by
 refine⟨trivial,fun cs hr=>?_⟩
 let b:Frame:={ (default:Frame) with fn:=f,kind:=.normal,roundOf:=none }
 have henter:Frame.enter P f args .normal =
     b.atR { tmps:=args ++ Array.replicate (fn.ntmps - args.size) undef,defers:=[] } [.code c]:=by
  simp[Frame.enter,Frame.atR,hf,hb,b]
 have hF:Fence.wide.fn f:=trivial
 obtain⟨e,a',w',hq,harr⟩:=h b [] cs rfl rfl
 rw[<- henter] at harr
 cases e with
 | normal =>
  obtain⟨e',w'',fr',hR,hs,hfn,hl⟩:=leaves_stepsInM a'.defers .returning w' { b.atR a' [] with mode:=.returning } cs rfl rfl rfl hf rfl hF hr hq
  exact⟨e',w'',fr',hR,ComesIn.of_steps (StepsIn.trans harr (.one (fenced_calm (fr:=b.atR a' []) hF hr rfl) (stepR_end rfl))) hs,hfn,hl⟩
 | ret =>
  obtain⟨todo,hs₀⟩:=harr.1 rfl
  obtain⟨e',w'',fr',hR,hs,hfn,hl⟩:=leaves_stepsInM a'.defers .returning w' { b.atR a' todo with mode:=.returning } cs rfl rfl rfl hf rfl hF hr hq
  exact⟨e',w'',fr',hR,ComesIn.of_steps hs₀ hs,hfn,hl⟩
 | panic chain =>
  obtain⟨todo,hs₀⟩:=harr
  obtain⟨e',w'',fr',hR,hs,hfn,hl⟩:=leaves_stepsInM a'.defers (.panicking chain) w' { b.atR a' todo with mode:=.panicking chain } cs rfl rfl rfl hf rfl hF hr hq
  exact⟨e',w'',fr',hR,ComesIn.of_steps hs₀ hs,hfn,hl⟩
 | exit id=>exact hq.elim
 | goto l=>exact hq.elim
 | outgrown=>exact⟨.outgrown,w',b,hq,harr.resolve_left (by simp[b]),rfl,trivial⟩
end
def adY {α:Type}(S:Nat->Prop)(I:List α->World->Prop)(Ix:Code->World->Prop)(Ip:List PanicEntry->World->Prop)(xs:List α)(W:World):Exit->Act->World->Prop
 | .normal,_,W'=>Kept S W W'/\I xs W'
 | .ret,_,W'=>Kept S W W'/\Ix .ret W'
 | .exit id,_,W'=>Kept S W W'/\Ix (.exit id) W'
 | .goto t,_,W'=>Kept S W W'/\Ix (.goto t) W'
 | .panic c,a,W'=>a.defers=[]/\Kept S W W'/\Ip c W'
 | .outgrown,_,_=>False
variable {P:Program}
def aai {α:Type}(P:Program)(gf:Nat)(lb:Array Value)(encs:α->Array Value)(xs:List α)(S:Nat->Prop)(w:World):Prop :=
 ∀(l:Nat) (J:List α->World->Prop) (Jx:World->Prop) (Jp:List PanicEntry->World->Prop) (W:World),Kept S w W ->
  (∀pre X Y,J pre X->Below X.heap.size X Y->J pre Y)->(∀X Y,Jx X->Below X.heap.size X Y->Jx Y) ->
  (∀pre x W1,pre ++ [x] <+: xs->Kept S w W1->J pre W1->YieldAt Fence.wide 0 P l (encs x) W1 fun e W' =>
   (e=.returned (.bool true)/\J (pre ++ [x]) W'/\Kept S W1 W')\/(e=.returned (.bool false)/\Jx W')\/(∃c,e=.panicked c/\Jp c W')) ->
  J [] W ->
  CallsIn Fence.wide 0 P gf (#[.func (.yield l) #[] #[]] ++ lb) W fun e W'=>((∃v,e=.returned v)/\(J xs W'\/Jx W'))\/(∃c,e=.panicked c/\Jp c W')
theorem jo.ZM {fn:FuncId}{α:Type}{g:Operand}{ps:Array Tmp}{assign body:Code}{Q:Exit->Act->World->Prop}{a:Act}{w:World}
    {gf:Nat} {lb:Array Value} (hfn:∃f,P.funcs[fn]? = some f) (hg:a.eval g=.func (.func gf) #[] lb) (eg:∀args w,(callFunc gf args).run P w=.ok (.enter gf args) w)
    {encs:α->Array Value} {xs:List α} {S:Nat->Prop} (hseq:aai P gf lb encs xs S w) (hS:∀k,S k->k<w.heap.size) (hps:∀x,(encs x).size=ps.size)
    (I:List α->World->Prop) (Ix:Code->World->Prop) (Ip:List PanicEntry->World->Prop) (hI:∀pre X Y,I pre X->Kept (fun k=>k≠w.heap.size/\k≠w.heap.size+1) X Y->I pre Y) (hIx:∀c X Y,Ix c X->Kept (fun k=>k≠w.heap.size/\k≠w.heap.size+1) X Y->Ix c Y) (h0:I [] w)
    (pI:∀(l:Nat) (pre:List α) (x:α) (W:World),l=w.heap.size+1->l<W.heap.size->pre ++ [x] <+: xs->Kept S w W->I pre W ->
     assign.wpIn (Fence.wide.inRound l) 0 P (Exit.then (fun a₁ W1=>Kept (fun k=>S k\/k=w.heap.size\/k=w.heap.size+1) W W1 /\
         (∀W2,Kept (fun k=>k≠l) W1 W2->W2.heap.size=W1.heap.size->body.wpIn (Fence.wide.inRound l) 0 P (adY (fun k=>S k\/k=w.heap.size\/k=w.heap.size+1) I Ix Ip (pre ++ [x]) W2) a₁ W2)) (fun _ _ _=>False))
      { tmps:=(ps.zip (encs x)).foldl (fun t (p,v)=>t.setIfInBounds p v) a.tmps,defers:=[] } W)
    (hdone:∀(D:Nat) (W:World),w.heap.size<=D->I xs W->Kept S w W->W.heap[D]? = some (.deferred (some []))->Q .normal { a with defers:={ target:=.collected D,args:=#[] } :: a.defers } W)
    (Gg:∀(D:Nat) (c:List PanicEntry) (W:World),w.heap.size<=D->Ip c W->Kept S w W->W.heap[D]? = some (.deferred (some []))->Q (.panic c) { a with defers:={ target:=.collected D,args:=#[] } :: a.defers } W)
    (hstop:∀(D:Nat) (c:Code) (W:World),w.heap.size<=D->Ix c W->Kept S w W->W.heap[D]? = some (.deferred (some []))->c.wpIn Fence.wide 0 P Q { a with defers:={ target:=.collected D,args:=#[] } :: a.defers } W) :
    jo fn P (Code.rangeFunc g ps assign body) Q a w:=by
 refine .rangeFunc ?_
 obtain⟨rec,hrec⟩:∃rec:LoopState->Option Code->Loop,rec=fun st pe=>{ state:=st,pending:=pe,fn,tmps:=a.tmps,params:=ps,assign,body,defers:=w.heap.size }:=⟨_,rfl⟩
 obtain⟨W1,hW1⟩:=aG ((w.alloc (.deferred (some []))).alloc (.loop (rec .ready none)))
 have hL1:W1.heap[w.heap.size+1]? = some (.loop (rec .ready none)):=by
  rw[<- hW1];have:=World.alloc_heap_new (w.alloc (.deferred (some []))) (.loop (rec .ready none));rwa [World.size_alloc] at this
 have hK1:W1.heap[w.heap.size]? = some (.deferred (some [])):=by
  rw[<- hW1];exact(Below.heap_alloc _ _ _ (by simp)).trans (World.alloc_heap_new w _)
 have hB1:Below w.heap.size w W1:=by rw[<- hW1];exact((Below.refl _ w).alloc (Nat.le_refl _) _).alloc (by simp) _
 have hsz1:W1.heap.size=w.heap.size+2:=by rw[<- hW1];simp
 have hI1:I [] W1:=hI _ _ _ h0 (.all hB1)
 refine⟨w.heap.size+1,[{ target:=.collected w.heap.size,args:=#[] }],W1,{ target:=.fn (.func gf) lb,args:=#[.func (.yield (w.heap.size+1)) #[] #[]] },W1,gf,
  #[.func (.yield (w.heap.size+1)) #[] #[]] ++ lb,W1,?_,?_,?_,?_⟩
 . rw[<- hW1,hrec];exact run_enterLoop_outer _ _ _ _ _
 . simp only[resolve,hg]
   simp[go_sem]
 . simp[invoke,go_sem,eg]
 . refine(hseq (w.heap.size+1)
    (fun pre W=>I pre W/\W.heap[w.heap.size+1]? = some (.loop (rec .ready none))/\W.heap[w.heap.size]? = some (.deferred (some []))/\Kept S w W)
    (fun W=>∃c,Ix c W/\W.heap[w.heap.size+1]? = some (.loop (rec .done (some c)))/\W.heap[w.heap.size]? = some (.deferred (some []))/\Kept S w W)
    (fun c W=>Ip c W/\W.heap[w.heap.size]? = some (.deferred (some []))/\Kept S w W)
    W1 (.of_below hB1 fun _ hk _=>hk) ?_ ?_ ?_ ⟨hI1,hL1,hK1,.of_below hB1 fun _ hk _=>hk⟩).mono ?_
   . rintro pre X Y ⟨hi,hl,hk,hs⟩ hb
     exact⟨hI _ _ _ hi (.all hb),(hb.block _ (aF hl)).trans hl,(hb.block _ (aF hk)).trans hk,hs.trans (.all hb)⟩
   . rintro X Y ⟨c,hi,hl,hk,hs⟩ hb
     exact⟨c,hIx _ _ _ hi (.all hb),(hb.block _ (aF hl)).trans hl,(hb.block _ (aF hk)).trans hk,hs.trans (.all hb)⟩
   . -- ONE ROUND
     rintro pre x W hpre hsw ⟨hi,hl,hk,hs⟩
     have hlt:w.heap.size+1<W.heap.size:=(aF hl)
     have hy:=run_yield (P:=P) (args:=encs x) hl (by rw[hrec];exact hps x)
     rw[hrec] at hy
     refine⟨fn,_,assign,body,hy,QW (trivial:Fence.wide.fn fn) hfn (wpIn_mono (pI (w.heap.size+1) pre x W rfl hlt hpre hs hi) ?_)⟩
     clear hy
     rintro e a' Wa hq
     cases e with
     | normal =>
      obtain⟨hka,hbody⟩:=hq
      have hla:=(hka.block _ (by omega) (.inr (by omega))).trans hl
      have hda:=(hka.block _ (by omega) (.inr (by omega))).trans hk
      have af7:w.heap.size+1<Wa.heap.size:=(aF hla)
      refine⟨_,run_beginRound hla (by rw[hrec]),?_⟩
      have hl2:(Wa.putObj (w.heap.size+1) (.loop { rec .ready none with state:=.busy })).heap[w.heap.size+1]? = some (.loop { rec .ready none with state:=.busy }):=World.putObj_heap_same af7
      have hd2:(Wa.putObj (w.heap.size+1) (.loop { rec .ready none with state:=.busy })).heap[w.heap.size]? = some (.deferred (some [])):=(World.putObj_heap_other (by omega)).trans hda
      have hkw:Kept (fun k=>k≠w.heap.size+1) Wa (Wa.putObj (w.heap.size+1) (.loop { rec .ready none with state:=.busy })):=(Kept.refl _ _).putObj (.inl (fun h=>h rfl)) _
      generalize hW2:Wa.putObj (w.heap.size+1) (.loop { rec .ready none with state:=.busy })=W2 at hl2 hd2 hkw
      have hs2:Kept S w W2:=by
       refine hs.trans ((hka.mono fun k _ h=>.inl h).trans (hkw.mono fun k _ h=>?_))
       have:=hS k h;omega
      have af6:Kept S W W2:=(hka.mono fun k _ h=>.inl h).trans (hkw.mono fun k _ h=>by have:=hS k h;omega)
      refine wpIn_mono (hbody W2 hkw (by rw[<- hW2];exact World.putObj_size)) ?_
      have fin:∀(jump:Option Code) (W3:World),Kept (fun k=>S k\/k=w.heap.size\/k=w.heap.size+1) W2 W3 ->
          (Instr.endRound (w.heap.size+1) jump).run P W3=.ok (.bool jump.isNone) (W3.putObj (w.heap.size+1) (.loop (rec (if jump.isNone then .ready else .done) jump))) /\
          (W3.putObj (w.heap.size+1) (.loop (rec (if jump.isNone then .ready else .done) jump))).heap[w.heap.size+1]? = some (.loop (rec (if jump.isNone then .ready else .done) jump)) /\
          (W3.putObj (w.heap.size+1) (.loop (rec (if jump.isNone then .ready else .done) jump))).heap[w.heap.size]? = some (.deferred (some [])) /\
          Kept S w (W3.putObj (w.heap.size+1) (.loop (rec (if jump.isNone then .ready else .done) jump))) /\
          Kept (fun k=>k≠w.heap.size/\k≠w.heap.size+1) W3 (W3.putObj (w.heap.size+1) (.loop (rec (if jump.isNone then .ready else .done) jump))) /\
          Kept S W (W3.putObj (w.heap.size+1) (.loop (rec (if jump.isNone then .ready else .done) jump))):=fun jump W3 hk3=>by
       have hl3:=(hk3.block _ (aF hl2) (.inr (by omega))).trans hl2
       have hd3:=(hk3.block _ (aF hd2) (.inr (by omega))).trans hd2
       have:=run_endRound (P:=P) jump hl3
       rw[hrec] at this ⊢
       refine⟨this,World.putObj_heap_same (aF hl3),(World.putObj_heap_other (by omega)).trans hd3,(hs2.trans (hk3.mono fun k _ h=>.inl h)).putObj (.inr (by omega)) _,(Kept.refl _ _).putObj (.inl fun h=>h.2 rfl) _,?_⟩
       refine(af6.trans (hk3.mono fun k _ h=>.inl h)).putObj (.inl ?_) _
       intro h
       have:=hS _ h;omega
      rintro e a3 W3 hp
      cases e with
      | normal =>
       obtain⟨hk3,hi3⟩:=hp
       obtain⟨hr,hl4,hd4,hs4,hb4,hk4⟩:=fin none W3 hk3
       exact⟨_,_,hr,.inl ⟨rfl,⟨hI _ _ _ hi3 hb4,hl4,hd4,hs4⟩,hk4⟩⟩
      | ret =>
       obtain⟨hk3,hi3⟩:=hp
       obtain⟨hr,hl4,hd4,hs4,hb4,hk4⟩:=fin (some .ret) W3 hk3
       exact⟨_,_,hr,.inr (.inl ⟨rfl,.ret,hIx _ _ _ hi3 hb4,hl4,hd4,hs4⟩)⟩
      | exit id =>
       obtain⟨hk3,hi3⟩:=hp
       obtain⟨hr,hl4,hd4,hs4,hb4,hk4⟩:=fin (some (.exit id)) W3 hk3
       exact⟨_,_,hr,.inr (.inl ⟨rfl,.exit id,hIx _ _ _ hi3 hb4,hl4,hd4,hs4⟩)⟩
      | goto t =>
       obtain⟨hk3,hi3⟩:=hp
       obtain⟨hr,hl4,hd4,hs4,hb4,hk4⟩:=fin (some (.goto t)) W3 hk3
       exact⟨_,_,hr,.inr (.inl ⟨rfl,.goto t,hIx _ _ _ hi3 hb4,hl4,hd4,hs4⟩)⟩
      | panic ch =>
       obtain⟨hdf,hk3,hi3⟩:=hp
       refine⟨hdf,.inr (.inr ⟨ch,rfl,hi3,(hk3.block _ (aF hd2) (.inr (by omega))).trans hd2,hs2.trans (hk3.mono fun k _ h=>.inl h)⟩)⟩
      | outgrown=>exact hp.elim
     | exit id=>exact hq.elim
     | goto l=>exact hq.elim
     | ret=>exact hq.elim
     | panic ch=>exact hq.elim
     | outgrown=>exact hq.elim
   . -- BEHIND THE ITERATOR
     rintro e W2 (⟨⟨v,rfl⟩,(⟨hi,hl,hk,hs⟩|⟨c,hi,hl,hk,hs⟩)⟩|⟨c,rfl,hi,hk,hs⟩)
     . exact⟨none,_,by have:=run_endLoop (P:=P) hl (by rw[hrec];simp);rw[hrec] at this;exact this,hdone _ _ (Nat.le_refl _) (hI _ _ _ hi ((Kept.refl _ _).putObj (.inl fun h=>h.2 rfl) _)) (hs.putObj (.inr (by omega)) _) ((World.putObj_heap_other (by omega)).trans hk)⟩
     . exact⟨some c,_,by have:=run_endLoop (P:=P) hl (by rw[hrec];simp);rw[hrec] at this;exact this,hstop _ c _ (Nat.le_refl _) (hIx _ _ _ hi ((Kept.refl _ _).putObj (.inl fun h=>h.2 rfl) _)) (hs.putObj (.inr (by omega)) _) ((World.putObj_heap_other (by omega)).trans hk)⟩
     . exact Gg _ c _ (Nat.le_refl _) hi hs hk
variable {P:Program}{ops:Array Oper}{md:Region.Mode}{S:World->Prop}{Q:Exit->Act->World->Prop}
def Q3 (md:Region.Mode)(ops:Array Oper)(n:Nat)(pre:List Nat):Bool :=
 (List.range n).all fun i=>pre.contains i || (List.range (n+1)).any fun j=>decide (i<j) && Region.waitsFor md ops j i
structure Uj (md:Region.Mode)(ops:Array Oper)(n:Nat)(pre:List Nat)(listed:Array Bool):Prop where
 head:HeadInv md ops n listed
 pre:∀i ∈ pre,listed.getD i true=true
theorem Uj.set {n i:Nat}{pre:List Nat}{listed:Array Bool}(inv:Uj md ops n pre listed)(hi:i ∈ Region.ready md ops listed)(hin:i<n):Uj md ops n pre (listed.setIfInBounds i true):=by
 refine⟨inv.head.set hi hin,fun k hk=>?_⟩
 by_cases e:i=k
 . subst e
   have:=inv.pre i hk
   have h0:=(mem_ready.1 hi).1
   rw[this] at h0;cases h0
 . rw[getD_set_ne true e];exact inv.pre k hk
theorem x_ {n:Nat}{pre:List Nat}{listed:Array Bool}(hs:Q3 md ops n pre=true)(hc:Region.chainB md ops n=true)(hn:n<ops.size)(inv:Uj md ops n pre listed) :
    ∀(d i:Nat),n - i=d->i<n->listed.getD i true=false->∀t,n<=t->t ∉ Region.ready md ops listed:=by
 intro d
 induction d using Nat.strongRecOn with
 | _ d ih =>
  intro i hd hi hun t ht hr
  obtain⟨_,ot,hot,hall⟩:=mem_ready.1 hr
  have htlt:t<ops.size:=(aF hot)
  by_cases htn:t=n
  . subst htn
    have h1:=List.all_eq_true.1 hs i (List.mem_range.2 hi)
    simp only[Bool.or_eq_true] at h1
    rcases h1 with h1|h1
    . have:=inv.pre i (by simpa using h1)
      rw[hun] at this;cases this
    obtain⟨j,hj,hj2⟩:=List.any_eq_true.1 h1
    simp only[Bool.and_eq_true,decide_eq_true_eq] at hj2
    obtain⟨oj,hoj,e,he,hb,hon⟩:=Region.waitsFor_spec hj2.2
    have hjle:j<=t:=by have:=List.mem_range.1 hj;omega
    by_cases hjt:j=t
    . subst hjt
      have:oj=ot:=Option.some.inj (hoj.symm.trans hot)
      subst this
      have h2:=hall e he hb
      rw[hon,getD_both hun] at h2
      cases h2
    . cases hl:listed.getD j false with
      | true =>
       have h2:=inv.head.closed j oj hoj hl e he hb
       rw[hon,getD_both hun] at h2
       cases h2
      | false =>
       have hjs:j<listed.size:=by rw[inv.head.size];omega
       exact ih (t - j) (by omega) j rfl (by omega) (getD_in hjs hl) t (Nat.le_refl _) hr
  . have h1:=List.all_eq_true.1 hc t (List.mem_range.2 htlt)
    simp only[Bool.or_eq_true,decide_eq_true_eq] at h1
    rcases h1 with h1|h1
    . omega
    . obtain⟨o',ho',e,he,hb,hon⟩:=Region.waitsFor_spec h1
      have:o'=ot:=Option.some.inj (ho'.symm.trans hot)
      subst this
      have h2:=hall e he hb
      rw[hon,getD_both (inv.head.tail (t - 1) (by omega) (by omega))] at h2
      cases h2
def gQ (P:Program)(md:Region.Mode)(ops:Array Oper)(Q:Exit->Act->World->Prop)(S:World->Prop)(n:Nat)(L:Array Bool->Act->World->Prop):Nat->Array Bool->Act->World->Prop
 | 0,listed,a,w=>L listed a w
 | f+1,listed,a,w =>
  Region.ready md ops listed≠[]/\∀i ∈ Region.ready md ops listed,i<n/\wpOp P ops Q i (fun a' w'=>S w'/\gQ P md ops Q S n L f (listed.setIfInBounds i true) a' w') a w
theorem GM {n g:Nat}{L:Array Bool->Act->World->Prop}(hL:∀listed a w,L listed a w->wpAny P md ops Q g listed a w) :
    ∀(f:Nat) (listed:Array Bool) (a:Act) (w:World),gQ P md ops Q S n L f listed a w->wpAny P md ops Q (f+g) listed a w
 | 0,listed,a,w,h=>by rw[Nat.zero_add];exact hL _ _ _ h
 | f+1,listed,a,w,h=>by
  rw[show f+1+g=(f+g)+1 by omega]
  exact⟨fun h0=>absurd h0 h.1,fun i hi=>wpOp_mono (fun a' w' h'=>GM hL f _ a' w' h'.2) (h.2 i hi).2⟩
theorem RS {n i:Nat}{pre:List Nat}{oi:Oper}{v:Value}{L:Array Bool->Act->World->Prop}(hi:ops[i]? = some oi)(hsel:∀(j:Nat)(o:Oper) cs b,ops[j]? = some o->o.op≠.select cs b)
    (hs:Q3 md ops n pre=true) (hc:Region.chainB md ops n=true) (hn:n<ops.size) (hin:i<n)
    (hdone:∀listed a w,L listed a w->∀j ∈ Region.ready md ops listed,n<=j)
    (hQ:∀c a w,Q (.panic c) (a.put oi.dst v) w->Q (.panic c) a w) :
    ∀(f:Nat) (listed:Array Bool) (a:Act) (w:World),Uj md ops n pre listed ->
     (∀j oj,ops[j]? = some oj->j≠i->listed.getD j true=false->(∀e ∈ oj.after,Region.binds md e=true->e.on≠i)->oi.apart ops oj=true) ->
     i ∈ Region.ready md ops listed->YieldsIf P ops S oi v a->S w ->
     gQ P md ops Q S n L f (listed.setIfInBounds i true) (a.put oi.dst v) w->gQ P md ops Q S n L (f+1) listed a w:=by
 intro f
 induction f with
 | zero =>
  intro listed a w inv _ hr hy hS H
  have hun:=(mem_ready.1 hr).1
  refine⟨fun h=>(by rw[h] at hr;cases hr),fun j hj=>?_⟩
  have hjn:j<n:=by
   rcases Nat.lt_or_ge j n with h|h
   . exact h
   . exact absurd hj (x_ hs hc hn inv _ i rfl hin hun j h)
  refine⟨hjn,?_⟩
  by_cases hji:j=i
  . subst hji;exact hy.wpOp hi hS ⟨hS,H⟩
  . have:=hdone _ _ _ H j (ready_mono hj hji)
    omega
 | succ f ih =>
  intro listed a w inv hfree hr hy hS H
  have hun:=(mem_ready.1 hr).1
  refine⟨fun h=>(by rw[h] at hr;cases hr),fun j hj=>?_⟩
  have hjn:j<n:=by
   rcases Nat.lt_or_ge j n with h|h
   . exact h
   . exact absurd hj (x_ hs hc hn inv _ i rfl hin hun j h)
  refine⟨hjn,?_⟩
  by_cases hji:j=i
  . subst hji;exact hy.wpOp hi hS ⟨hS,H⟩
  . have h1:=(H.2 j (ready_mono hj hji)).2
    obtain⟨hjun,oj,hoj,hall⟩:=mem_ready.1 hj
    have hnot:∀e ∈ oj.after,Region.binds md e=true->e.on≠i:=fun e he hb heq=>by
     have h1:=hall e he hb
     rw[heq,getD_both hun] at h1
     cases h1
    have h2:=wpOp_putIf hoj (hfree j oj hoj hji hjun hnot) (fun cs b=>hsel i oi cs b hi) (fun cs b=>hsel j oj cs b hoj) hQ hy h1
    have hfree':∀k ok,ops[k]? = some ok->k≠i->(listed.setIfInBounds j true).getD k true=false ->
        (∀e ∈ ok.after,Region.binds md e=true->e.on≠i)->oi.apart ops ok=true:=fun k ok hk hki hun hno=>by
     refine hfree k ok hk hki ?_ hno
     by_cases hjk:j=k
     . subst hjk;exact hjun
     . rw[getD_set_ne true hjk] at hun;exact hun
    refine wpOp_mono (fun a' w' h3=>⟨h3.2.1,ih (listed.setIfInBounds j true) a' w' (inv.set hj hjn) hfree' (ready_mono hr (Ne.symm hji)) h3.1 h3.2.1 ?_⟩) h2
    rw[Array.setIfInBounds_comm _ _ hji]
    exact h3.2.2
def o_ (P:Program)(md:Region.Mode)(ops:Array Oper)(Q:Exit->Act->World->Prop)(n:Nat)(l:List Oper)(listed:Array Bool)(a:Act)(w:World):Prop :=
 Region.seqB md ops l.length n listed=true/\wpList P ops Q l a w
theorem o_.done {n:Nat}{l:List Oper} : ∀(listed:Array Bool)(a:Act)(w:World),o_ P md ops Q n l listed a w->∀j ∈ Region.ready md ops listed,n<=j:=fun _ _ _ h=>seqB_ready h.1
def Tm (md:Region.Mode)(ops:Array Oper)(n:Nat)(pre:List Nat)(listed:Array Bool):Bool :=
 decide (listed.size=ops.size) && ((List.range ops.size).all fun j=>!listed.getD j false || ((ops[j]?).map (·.after.all fun e=>!Region.binds md e || listed.getD e.on false)).getD true) &&
 ((List.range ops.size).all fun t=>decide (t<n) || !listed.getD t true) && pre.all fun i=>listed.getD i true
theorem Qs {n:Nat}{pre:List Nat}{listed:Array Bool}(h:Tm md ops n pre listed=true):Uj md ops n pre listed:=by
 simp only[Tm,Bool.and_eq_true,decide_eq_true_eq,List.all_eq_true,List.mem_range,Bool.or_eq_true,Bool.not_eq_true'] at h
 obtain⟨⟨⟨h1,h2⟩,h3⟩,h4⟩:=h
 refine⟨⟨h1,fun j oj hj hl e he hb=>?_,fun t ht ht'=>?_⟩,h4⟩
 . have hlt:j<ops.size:=(aF hj)
   rcases h2 j hlt with h|h
   . rw[hl] at h;cases h
   . rw[hj] at h
     simp only[Option.map_some,Option.getD_some] at h
     have:=Array.all_eq_true'.1 h e he
     simpa [hb] using this
 . rcases h3 t ht' with h|h
   . omega
   . exact h
theorem VN {n i:Nat}{pre:List Nat}{oi:Oper}{v:Value}{l:List Oper}{f:Nat}{listed:Array Bool}{a:Act}{w:World}(hi:ops[i]? = some oi)
    (hst:(Region.noSelect ops && Q3 md ops n pre && Region.chainB md ops n && decide (n<ops.size))=true)
    (hB:(decide (i<n) && Tm md ops n pre listed && Region.free md ops listed i && (Region.ready md ops listed).contains i)=true)
    (hQ:∀c a w,Q (.panic c) (a.put oi.dst v) w->Q (.panic c) a w) (hy:YieldsIf P ops S oi v a) (hS:S w)
    (h:gQ P md ops Q S n (o_ P md ops Q n l) f (listed.setIfInBounds i true) (a.put oi.dst v) w):gQ P md ops Q S n (o_ P md ops Q n l) (f+1) listed a w:=by
 simp only[Bool.and_eq_true,decide_eq_true_eq] at hst hB
 obtain⟨⟨⟨hsel,hs⟩,hc⟩,hn⟩:=hst
 obtain⟨⟨⟨hin,hok⟩,hf⟩,hr⟩:=hB
 exact RS hi (Region.noSelect_spec hsel) hs hc hn hin o_.done hQ f listed a w (Qs hok) (Region.free_spec hi hf) (by simpa using hr) hy hS h
theorem F5 {n i:Nat}{pre:List Nat}{oi:Oper}{v:Value}{l:List Oper}{f:Nat}{listed:Array Bool}{a:Act}{w:World}(dst:Tmp)(hi:ops[i]? = some oi)(hd:oi.dst=some dst)
    (hst:(Region.noSelect ops && Q3 md ops n pre && Region.chainB md ops n && decide (n<ops.size))=true)
    (hB:(decide (i<n) && Tm md ops n pre listed && Region.free md ops listed i && (Region.ready md ops listed).contains i)=true)
    (hQ:∀c a w,Q (.panic c) (a.put (some dst) v) w->Q (.panic c) a w) (hy:YieldsIf P ops S oi v a) (hS:S w)
    (h:gQ P md ops Q S n (o_ P md ops Q n l) f (listed.setIfInBounds i true) (a.put (some dst) v) w):gQ P md ops Q S n (o_ P md ops Q n l) (f+1) listed a w :=
 VN hi hst hB (by rw[hd];exact hQ) hy hS (by rw[hd];exact h)
theorem yl {n f:Nat}{oi:Oper}{l:List Oper}{listed:Array Bool}{a:Act}{w:World}(pre:List Nat)(i:Nat)(v:Value)(dst:Tmp)(hS:S w)(hy:∀w,S w->(execOp a.eval oi).run P w=.ok (.value v) w)(h:gQ P md ops Q S n (o_ P md ops Q n l) f (listed.setIfInBounds i true) (a.put (some dst) v) w)(hi:ops[i]? = some oi:=by rfl)(hd:oi.dst=some dst:=by rfl)(hst:(Region.noSelect ops && Q3 md ops n pre && Region.chainB md ops n && decide (n<ops.size))=true:=by kernel_rfl)
    (hB:(decide (i<n) && Tm md ops n pre listed && Region.free md ops listed i && (Region.ready md ops listed).contains i)=true:=by kernel_rfl) (hQ:∀c a w,Q (.panic c) (a.put (some dst) v) w->Q (.panic c) a w:=by exact fun _ _ _ h=>h) (hw:Region.wanted oi (yielded ops a.tmps)=true:=by rfl):gQ P md ops Q S n (o_ P md ops Q n l) (f+1) listed a w:=F5 (pre:=pre) dst hi hd hst hB hQ (.inl ⟨hw,hy⟩) hS h
theorem dL {n f:Nat}{oi:Oper}{l:List Oper}{listed:Array Bool}{a:Act}{w:World}(i:Nat)(v:Value)(dst:Tmp)(hS:S w)(hy:∀w,S w->(execOp a.eval oi).run P w=.ok (.value v) w)(h:gQ P md ops Q S n (o_ P md ops Q n l) f (listed.setIfInBounds i true) (a.put (some dst) v) w)(hi:ops[i]? = some oi:=by rfl)(hd:oi.dst=some dst:=by rfl)(hst:(Region.noSelect ops && Q3 md ops n [] && Region.chainB md ops n && decide (n<ops.size))=true:=by kernel_rfl)
    (hB:(decide (i<n) && Tm md ops n [] listed && Region.free md ops listed i && (Region.ready md ops listed).contains i)=true:=by kernel_rfl) (hQ:∀c a w,Q (.panic c) (a.put (some dst) v) w->Q (.panic c) a w:=by exact fun _ _ _ h=>h) (hw:Region.wanted oi (yielded ops a.tmps)=true:=by rfl):gQ P md ops Q S n (o_ P md ops Q n l) (f+1) listed a w:=F5 (pre:=[]) dst hi hd hst hB hQ (.inl ⟨hw,hy⟩) hS h
theorem iT {P:Program}{md:Region.Mode}{ops:Array Oper}{Q:Exit->Act->World->Prop}{S:World->Prop}{oi:Oper}{f:Nat}{listed:Array Bool}{a:Act}{w:World}(i:Nat)(v:Value)(hS:S w)(hy:∀w,S w->(execOp a.eval oi).run P w=.ok (.value v) w)(h:wpAnyH P md ops Q S f (listed.setIfInBounds i true) (a.put oi.dst v) w)(hi:ops[i]? = some oi:=by rfl)(hs:Region.noSelect ops=true:=by kernel_rfl)(hf:Region.free md ops listed i=true:=by kernel_rfl)(hr:(Region.ready md ops listed).contains i=true:=by kernel_rfl)(hQ:∀c a w,Q (.panic c) (a.put oi.dst v) w->Q (.panic c) a w:=by exact fun _ _ _ h=>h)(hw:Region.wanted oi (yielded ops a.tmps)=true:=by rfl):wpAnyH P md ops Q S (f+1) listed a w:=wpAnyH_take hi hs hf hr hQ (.inl ⟨hw,hy⟩) hS h
theorem Yp {i:Nat}{oi:Oper}{v:Value}{fuel:Nat}{listed:Array Bool}{a:Act}{w:World}(dst:Tmp)(hi:ops[i]? = some oi)(hd:oi.dst=some dst)
    (hs:Region.noSelect ops=true) (hf:Region.free md ops listed i=true) (hr:(Region.ready md ops listed).contains i=true)
    (hQ:∀c a w,Q (.panic c) (a.put (some dst) v) w->Q (.panic c) a w) (hy:Yields P ops oi v a)
    (h:wpAny P md ops Q fuel (listed.setIfInBounds i true) (a.put (some dst) v) w):wpAny P md ops Q (fuel+1) listed a w :=
 wpAny_take hi hs hf hr (by rw[hd];exact hQ) hy (by rw[hd];exact h)
theorem JR {oi:Oper}{f:Nat}{listed:Array Bool}{a:Act}{w:World}(i:Nat)(v:Value)(dst:Tmp)(hy:∀w,(execOp a.eval oi).run P w=.ok (.value v) w)(h:wpAny P md ops Q f (listed.setIfInBounds i true) (a.put (some dst) v) w)(hi:ops[i]? = some oi:=by rfl)(hd:oi.dst=some dst:=by rfl)(hs:Region.noSelect ops=true:=by kernel_rfl)(hf:Region.free md ops listed i=true:=by kernel_rfl)(hr:(Region.ready md ops listed).contains i=true:=by kernel_rfl)(hQ:∀c a w,Q (.panic c) (a.put (some dst) v) w->Q (.panic c) a w:=by exact fun _ _ _ h=>h)(hw:Region.wanted oi (yielded ops a.tmps)=true:=by rfl):wpAny P md ops Q (f+1) listed a w:=Yp dst hi hd hs hf hr hQ (.inl ⟨hw,hy⟩) h
theorem MG {n f:Nat}{L:Array Bool->Act->World->Prop}{listed:Array Bool}{a:Act}{w:World}(rs:List Nat)(hr:Region.ready md ops listed=rs)(hne:rs≠[])(hlt:rs.all (fun i=>decide (i<n))=true)
    (h:∀i ∈ rs,wpOp P ops Q i (fun a' w'=>S w'/\gQ P md ops Q S n L f (listed.setIfInBounds i true) a' w') a w):gQ P md ops Q S n L (f+1) listed a w :=
 ⟨fun h0=>hne (hr ▸ h0),fun i hi=>⟨by rw[hr] at hi;simpa using List.all_eq_true.1 hlt i hi,h i (hr ▸ hi)⟩⟩
theorem acP {n f:Nat}{l:List Oper}{listed:Array Bool}{a:Act}{w:World}(hl:∀j,l[j]? = ops[n+j]?)
    (h:gQ P md ops Q S n (o_ P md ops Q n l) f listed a w):wpAny P md ops Q (f+l.length) listed a w :=
 GM (fun listed a w hL=>wpAny_of_seq l n listed a w hl hL.1 hL.2) f listed a w h
theorem dY {n f N:Nat}{l:List Oper}{listed:Array Bool}{a:Act}{w:World}(hN:f+(l.drop n).length=N)
    (h:gQ P md l.toArray Q S n (o_ P md l.toArray Q n (l.drop n)) f listed a w):wpAny P md l.toArray Q N listed a w:=by
 subst hN
 exact acP (fun j=>by simp only[List.getElem?_drop,List.getElem?_toArray]) h
variable {P:Program}{ops:Array Oper}{md:Region.Mode}
def aom (ops:Array Oper)(j:Nat):Option Tmp:=(ops[j]?).bind (·.dst)
def fill (ops:Array Oper)(vals:Nat->Value):List Nat->Act->Act
 | [],a=>a
 | j :: l,a=>(fill ops vals l a).put (aom ops j) (vals j)
variable {n T:Nat}{opt:List Nat}
