/- Walks. -/
import Derived.Laws.EntriesVeiled
import Derived.Maps.AppendAt
import Derived.OwnWalk
import Derived.Laws.MakeOwn
import Derived.Test.YtkjdidieiioijaaGreatK04
set_option linter.all false
set_option maxRecDepth 100000
set_option maxHeartbeats 16000000
namespace Go.Proofs.YtkjdidieiioijaaGreat.G
open Go.RowKit Go.Sd bz
def ad1 (c:d_)(s:St):Bool:=decide (force c s.low<c.least*c.jG*10000000)
def ad2 (c:d_)(s:St):Bool:=decide (force c s.high > c.most*c.jm*10000000)
theorem aB.lit {b t:Bool}{w w':World}{e:Ending}(h:aB b w e w')(hb:b=t):e=.returned (.bool t)/\Below w.heap.size w w':=by
 obtain⟨t',rfl,ht,hB⟩:=h
 exact⟨by rw[<- hb,<- ht.out],hB⟩
theorem XO {c:d_}(hc:c.Ok):(0<=c.least*(c.jG*10000000)/\c.least*(c.jG*10000000)<=1000000000000000000)/\(0<=c.most*(c.jm*10000000)/\c.most*(c.jm*10000000)<=1000000000000000000):=by
 have:=hc.v;have:=hc.p
 have a:=nI (A:=100000) (B:=10000000000000) (a:=c.least) (b:=c.jG*10000000) ⟨by omega,by omega⟩ ⟨by omega,by omega⟩
 have b:=nI (A:=100000) (B:=10000000000000) (a:=c.most) (b:=c.jm*10000000) ⟨by omega,by omega⟩ ⟨by omega,by omega⟩
 exact⟨⟨a.1,by omega⟩,⟨b.1,by omega⟩⟩
theorem Tz {bc bs:Nat}(c:d_)(s:St)(w:World)(hc:c.Ok)(hs:s.Ok)(ec:w.heap[bc]? = some (.cells #[.int .i64 c.jm,.int .i64 c.jG,.int .i64 c.least,.int .i64 c.most,.int .i64 c.f0,.int .i64 c.f1,.int .i64 c.h0,.int .i64 c.h1,.int .i64 c.bu,.int .i64 c.mJ,.int .i64 c.phi] 96 (0,0)))(es:w.heap[bs]? = some (.cells #[.int .i64 s.dB,.int .i64 s.dK,.int .i64 s.di,.int .i64 s.dE,.int .i64 s.gK,.int .i64 s.gJ,.int .i64 s.wlo,.int .i64 s.whi] 40 (0,0))) :
    Calls Tryz.prog 133 #[.pointer (some ⟨bc,0,none⟩),.pointer (some ⟨bs,0,none⟩)] w (aB (ad1 c s) w):=by
 obtain⟨zc,rc,tc⟩:=ah ec
 obtain⟨anW,anX,anY,anZ,an0,an1,an2,an3,an4,an5,ahd⟩:=bJ ec
 clear rc tc
 obtain⟨zs,rs,ts⟩:=ah es
 obtain⟨an6,an7,an8,an9,an_,an',aoa,aob⟩:=rc8 es
 clear rs ts
 obtain⟨g1,g2,g3,g4⟩:=Qh hs
 have hst:=hs.t;have hv:=hc.v;have hp:=hc.p
 obtain⟨p1,p2⟩:=XO hc
 have kF:=ai (GZ (p:=s.low) hc g1 g3 (by constructor <;> simp only[St.low,St.high] <;> omega))
 have kL:=ai (fun w=>QC s w)
 have kP:Hid (∀w,Calls Tryz.prog 51 #[gm c,nR s.low,.int .i64 c.jG] w (dI (.tuple #[.int .i64 (force c s.low),.int .i64 (c.jG*10000000)]) w)):=ai (fun w=>Fj c s.low c.jG w hc g1 g3 (by constructor <;> simp only[St.low,St.high] <;> omega) (by omega))
 have hF : -400000000000000000<=force c s.low/\force c s.low<=400000000000000000:=by have:=kF.out;unfold force;omega
 have hfe:Hid (ad1 c s=decide (force c s.low<c.least*(c.jG*10000000))):=ai (by unfold ad1;rw[decide_eq_decide];have e1:c.least*c.jG*10000000=c.least*(c.jG*10000000):=Int.mul_assoc _ _ _;have e2:c.most*c.jm*10000000=c.most*(c.jm*10000000):=Int.mul_assoc _ _ _;have e3 : -c.most*(c.jm*10000000) = -(c.most*(c.jm*10000000)):=Int.neg_mul _ _;omega)
 clear hc hs kF
 generalize force c s.low=F at *
 have hgc:=az w
 go_enter Tryz.func133,Tryz.ntmps133
 go_wp2
 refine aH (by kernel_rfl) (by kernel_rfl) ?_
 repeat (go_big_quiet_step ((first|(go_at_call 52;with_reducible exact Calls.grow (kL.out _))|(go_at_call 51;with_reducible exact Calls.grow (kP.out _)))))
 refine wpQuiet_nil ?_
 rintro _ ⟨g,rfl⟩
 go_wp2_with (go_at_call 134;refine ax (I7 _ _ _ _ ?_) ?_;(first|omega|(rw[Int.neg_mul];omega));rintro e w1 ⟨t,rfl,ht,rfl⟩)
 go_ret
 exact aB.mk (by rw[hfe.out,<- ht.out]) g.h
theorem TA {bc bs:Nat}(c:d_)(s:St)(w:World)(hc:c.Ok)(hs:s.Ok)(ec:w.heap[bc]? = some (.cells #[.int .i64 c.jm,.int .i64 c.jG,.int .i64 c.least,.int .i64 c.most,.int .i64 c.f0,.int .i64 c.f1,.int .i64 c.h0,.int .i64 c.h1,.int .i64 c.bu,.int .i64 c.mJ,.int .i64 c.phi] 96 (0,0)))(es:w.heap[bs]? = some (.cells #[.int .i64 s.dB,.int .i64 s.dK,.int .i64 s.di,.int .i64 s.dE,.int .i64 s.gK,.int .i64 s.gJ,.int .i64 s.wlo,.int .i64 s.whi] 40 (0,0))) :
    Calls Tryz.prog 135 #[.pointer (some ⟨bc,0,none⟩),.pointer (some ⟨bs,0,none⟩)] w (aB (ad2 c s) w):=by
 obtain⟨zc,rc,tc⟩:=ah ec
 obtain⟨anW,anX,anY,anZ,an0,an1,an2,an3,an4,an5,ahd⟩:=bJ ec
 clear rc tc
 obtain⟨zs,rs,ts⟩:=ah es
 obtain⟨an6,an7,an8,an9,an_,an',aoa,aob⟩:=rc8 es
 clear rs ts
 obtain⟨g1,g2,g3,g4⟩:=Qh hs
 have hst:=hs.t;have hv:=hc.v;have hp:=hc.p
 obtain⟨p1,p2⟩:=XO hc
 have kF:=ai (GZ (p:=s.high) hc g2 g4 (by constructor <;> simp only[St.low,St.high] <;> omega))
 have kL:=ai (fun w=>Lr s w)
 have kP:Hid (∀w,Calls Tryz.prog 51 #[gm c,nR s.high,.int .i64 c.jm] w (dI (.tuple #[.int .i64 (force c s.high),.int .i64 (c.jm*10000000)]) w)):=ai (fun w=>Fj c s.high c.jm w hc g2 g4 (by constructor <;> simp only[St.low,St.high] <;> omega) (by omega))
 have hF : -400000000000000000<=force c s.high/\force c s.high<=400000000000000000:=by have:=kF.out;unfold force;omega
 have hfe:Hid (ad2 c s=decide (-force c s.high < -c.most*(c.jm*10000000))):=ai (by unfold ad2;rw[decide_eq_decide];have e1:c.least*c.jG*10000000=c.least*(c.jG*10000000):=Int.mul_assoc _ _ _;have e2:c.most*c.jm*10000000=c.most*(c.jm*10000000):=Int.mul_assoc _ _ _;have e3 : -c.most*(c.jm*10000000) = -(c.most*(c.jm*10000000)):=Int.neg_mul _ _;omega)
 clear hc hs kF
 generalize force c s.high=F at *
 have hgc:=az w
 go_enter Tryz.func135,Tryz.ntmps135
 go_wp2
 refine aH (by kernel_rfl) (by kernel_rfl) ?_
 repeat (go_big_quiet_step ((first|(go_at_call 53;with_reducible exact Calls.grow (kL.out _))|(go_at_call 51;with_reducible exact Calls.grow (kP.out _)))))
 refine wpQuiet_nil ?_
 rintro _ ⟨g,rfl⟩
 go_wp2_with (go_at_call 134;refine ax (I7 _ _ _ _ ?_) ?_;(first|omega|(rw[Int.neg_mul];omega));rintro e w1 ⟨t,rfl,ht,rfl⟩)
 go_ret
 exact aB.mk (by rw[hfe.out,<- ht.out]) g.h
theorem TB {bc bs:Nat}(c:d_)(s:St)(w:World)(hc:c.Ok)(hs:s.Ok)(ec:w.heap[bc]? = some (.cells #[.int .i64 c.jm,.int .i64 c.jG,.int .i64 c.least,.int .i64 c.most,.int .i64 c.f0,.int .i64 c.f1,.int .i64 c.h0,.int .i64 c.h1,.int .i64 c.bu,.int .i64 c.mJ,.int .i64 c.phi] 96 (0,0)))(es:w.heap[bs]? = some (.cells #[.int .i64 s.dB,.int .i64 s.dK,.int .i64 s.di,.int .i64 s.dE,.int .i64 s.gK,.int .i64 s.gJ,.int .i64 s.wlo,.int .i64 s.whi] 40 (0,0))) :
    Calls Tryz.prog 136 #[.pointer (some ⟨bc,0,none⟩),.pointer (some ⟨bs,0,none⟩)] w (aB (thin c s) w):=by
 obtain⟨zc,rc,tc⟩:=ah ec
 obtain⟨anW,anX,anY,anZ,an0,an1,an2,an3,an4,an5,ahd⟩:=bJ ec
 clear rc tc
 obtain⟨zs,rs,ts⟩:=ah es
 obtain⟨an6,an7,an8,an9,an_,an',aoa,aob⟩:=rc8 es
 clear rs ts
 have kT:=ai (ag3 c s w hc hs)
 clear hc hs
 go_enter Tryz.func136,Tryz.ntmps136
 go_wp2_with (go_at_call 137;(with_reducible refine ax kT.out ?_);rintro e w1 ⟨t,rfl,ht,hB⟩)
 go_ret
 exact aB.mk ht.out hB
theorem TC {bc bs:Nat}(c:d_)(s:St)(w:World)(hc:c.Ok)(hs:s.Ok)(ec:w.heap[bc]? = some (.cells #[.int .i64 c.jm,.int .i64 c.jG,.int .i64 c.least,.int .i64 c.most,.int .i64 c.f0,.int .i64 c.f1,.int .i64 c.h0,.int .i64 c.h1,.int .i64 c.bu,.int .i64 c.mJ,.int .i64 c.phi] 96 (0,0)))(es:w.heap[bs]? = some (.cells #[.int .i64 s.dB,.int .i64 s.dK,.int .i64 s.di,.int .i64 s.dE,.int .i64 s.gK,.int .i64 s.gJ,.int .i64 s.wlo,.int .i64 s.whi] 40 (0,0))) :
    Calls Tryz.prog 138 #[.pointer (some ⟨bc,0,none⟩),.pointer (some ⟨bs,0,none⟩)] w (aB (ahy c s) w):=by
 obtain⟨zc,rc,tc⟩:=ah ec
 obtain⟨anW,anX,anY,anZ,an0,an1,an2,an3,an4,an5,ahd⟩:=bJ ec
 clear rc tc
 obtain⟨zs,rs,ts⟩:=ah es
 obtain⟨an6,an7,an8,an9,an_,an',aoa,aob⟩:=rc8 es
 clear rs ts
 have kT:=ai (ag1 c s w hc hs)
 clear hc hs
 go_enter Tryz.func138,Tryz.ntmps138
 go_wp2_with (go_at_call 139;(with_reducible refine ax kT.out ?_);rintro e w1 ⟨t,rfl,ht,hB⟩)
 go_ret
 exact aB.mk ht.out hB
def Aa (c:d_)(s:St)(k:Nat):Bool:=match k with
 | 0=>ad1 c s
 | 1=>ad2 c s
 | 2=>thin c s
 | _=>ahy c s
def FY (c:d_)(s:St)(k:Nat):Prop:=∀j,j<k->Aa c s j=false
theorem FY.next {c:d_}{s:St}{k:Nat}(h:FY c s k)(h1:Aa c s k=false):FY c s (k+1):=by
 intro j hj
 by_cases e:j=k
 . rw[e];exact h1
 . exact h j (by omega)
theorem Px {c:d_}{s:St}{k:Nat}(hk:k<4)(h:FY c s k)(h1:Aa c s k=true):sure c s=2+(k:Int):=by
 have e0:ad1 c s=decide (force c s.low<c.least*c.jG*10000000):=rfl
 have e1:ad2 c s=decide (force c s.high > c.most*c.jm*10000000):=rfl
 match k,hk with
 | 0,_=>simp only[Aa,e0,decide_eq_true_eq] at h1;simp[sure,h1]
 | 1,_ =>
  have a:=h 0 (by omega)
  simp only[Aa,e0,e1,decide_eq_true_eq,decide_eq_false_iff_not] at h1 a;simp[sure,a,h1]
 | 2,_ =>
  have a:=h 0 (by omega);have b:=h 1 (by omega)
  simp only[Aa,e0,e1,decide_eq_true_eq,decide_eq_false_iff_not] at h1 a b;simp[sure,a,b,h1]
 | 3,_ =>
  have a:=h 0 (by omega);have b:=h 1 (by omega);have d:=h 2 (by omega)
  simp only[Aa,e0,e1,decide_eq_true_eq,decide_eq_false_iff_not] at h1 a b d;simp[sure,a,b,d,h1]
theorem ad7 {c:d_}{s:St}(h:FY c s 4):sure c s=1:=by
 have a:=h 0 (by omega);have b:=h 1 (by omega);have d:=h 2 (by omega);have e:=h 3 (by omega)
 have e0:ad1 c s=decide (force c s.low<c.least*c.jG*10000000):=rfl
 have e1:ad2 c s=decide (force c s.high > c.most*c.jm*10000000):=rfl
 simp only[Aa,e0,e1,decide_eq_false_iff_not] at a b d e;simp[sure,a,b,d,e]
theorem yV (a b c d:Value)(w:World):(Instr.index 243 (.agg #[a,b,c,d]) (.int .i64 0)).run Tryz.prog w=.ok a w/\(Instr.index 243 (.agg #[a,b,c,d]) (.int .i64 1)).run Tryz.prog w=.ok b w /\
    (Instr.index 243 (.agg #[a,b,c,d]) (.int .i64 2)).run Tryz.prog w=.ok c w/\(Instr.index 243 (.agg #[a,b,c,d]) (.int .i64 3)).run Tryz.prog w=.ok d w:=by
 refine⟨?_,?_,?_,?_⟩ <;> kernel_rfl
theorem ag2 (c:d_)(s:St)(w:World)(hc:c.Ok)(hs:s.Ok) :
    Calls Tryz.prog 87 #[gm c,jF s] w (dI (.int .i64 (sure c s)) w):=by
 obtain⟨W1,hW1⟩:=aG (w.alloc (.cells #[.int .i64 c.jm,.int .i64 c.jG,.int .i64 c.least,.int .i64 c.most,.int .i64 c.f0,.int .i64 c.f1,.int .i64 c.h0,.int .i64 c.h1,.int .i64 c.bu,.int .i64 c.mJ,.int .i64 c.phi] 96))
 obtain⟨aJ,f_,iC⟩:=boxed hW1
 have Ae:w.heap.size<W1.heap.size:=by omega
 obtain⟨jV,jW,jX,jY,jZ,j_,ku,kz,kJ,kQ,oq⟩:=bJ aJ
 obtain⟨W2,hW2⟩:=aG (W1.alloc (.cells #[.int .i64 s.dB,.int .i64 s.dK,.int .i64 s.di,.int .i64 s.dE,.int .i64 s.gK,.int .i64 s.gJ,.int .i64 s.wlo,.int .i64 s.whi] 40))
 obtain⟨bF,iH,lW⟩:=boxed hW2
 have Jm:w.heap.size<W2.heap.size:=by omega
 replace aJ:=(iH.block _ (aF aJ)).trans aJ
 obtain⟨qR,qU,qV,qW,qX,qY,qZ,rf,rq,ry,ou⟩:=bJ aJ
 have Jn:W1.heap.size<W2.heap.size:=by omega
 obtain⟨rC,rD,rE,rF,rG,rH,rJ,rM⟩:=rc8 bF
 obtain⟨W,hW⟩:=aG (W2.alloc (.cells #[(.func (.func 133) #[] #[.pointer (some ⟨w.heap.size,0,none⟩),.pointer (some ⟨W1.heap.size,0,none⟩)]),(.func (.func 135) #[] #[.pointer (some ⟨w.heap.size,0,none⟩),.pointer (some ⟨W1.heap.size,0,none⟩)]),(.func (.func 136) #[] #[.pointer (some ⟨w.heap.size,0,none⟩),.pointer (some ⟨W1.heap.size,0,none⟩)]),(.func (.func 138) #[] #[.pointer (some ⟨w.heap.size,0,none⟩),.pointer (some ⟨W1.heap.size,0,none⟩)])] 243))
 obtain⟨dQ,jS,uy⟩:=boxed hW
 replace aJ:=(jS.block _ (aF aJ)).trans aJ
 replace bF:=(jS.block _ (aF bF)).trans bF
 have hBw:Below w.heap.size w W:=(by have:=iC;have:=lW;have:=uy;exact((f_.trans (iH.mono (by omega))).trans (jS.mono (by omega))))
 obtain⟨qK,jQ,jR⟩:=ah aJ
 obtain⟨eG,eH,fP,fQ,gV,gW,gX,gY,je,jf,iR⟩:=bJ aJ
 obtain⟨ja,jb,jy,jA,jB,jC,jD,jE,mP,mQ,mX⟩:=ni aJ
 have EW0:=ai aJ
 clear jQ jR aJ
 obtain⟨CS,rQ,rW⟩:=ah bF
 obtain⟨jg,jh,ji,jk,qj,qm,qo,qw⟩:=rc8 bF
 obtain⟨lS,lT,lU,lV,sO,sQ,sS,sU⟩:=FP bF
 have EW1:=ai bF
 clear rQ rW bF
 obtain⟨Jo,Gt,Gw⟩:=ah dQ
 obtain⟨qx,qy,qP,qQ⟩:=pX dQ
 obtain⟨qL,qM,sW,tq⟩:=Ak dQ
 have EW2:=ai dQ
 clear Gt Gw dQ
 have yL:w.heap.size<=w.heap.size:=by omega
 have MH:w.heap.size<=W1.heap.size:=by omega
 have Yq:w.heap.size<=W2.heap.size:=by omega
 clear f_ iC iH lW jS uy
 have P5:∀args w,(callFunc 133 args).run Tryz.prog w=.ok (.enter 133 args) w:=fun args w=>by kernel_rfl
 have en2:∀args w,(callFunc 135 args).run Tryz.prog w=.ok (.enter 135 args) w:=fun args w=>by kernel_rfl
 have en3:∀args w,(callFunc 136 args).run Tryz.prog w=.ok (.enter 136 args) w:=fun args w=>by kernel_rfl
 have en4:∀args w,(callFunc 138 args).run Tryz.prog w=.ok (.enter 138 args) w:=fun args w=>by kernel_rfl
 have hmf:∀(fn:Fn) (first cap:Array Value) (w:World),(Instr.makeFunc fn first cap).run Tryz.prog w=.ok (.func fn first cap) w:=fun _ _ _ _=>rfl
 have kc:Hid (∀g:Grow W,g.x.heap[w.heap.size]? = some (.cells #[.int .i64 c.jm,.int .i64 c.jG,.int .i64 c.least,.int .i64 c.most,.int .i64 c.f0,.int .i64 c.f1,.int .i64 c.h0,.int .i64 c.h1,.int .i64 c.bu,.int .i64 c.mJ,.int .i64 c.phi] 96 (0,0))):=ai (fun g=>(g.h.block _ qK).trans EW0.out)
 have ks:Hid (∀g:Grow W,g.x.heap[W1.heap.size]? = some (.cells #[.int .i64 s.dB,.int .i64 s.dK,.int .i64 s.di,.int .i64 s.dE,.int .i64 s.gK,.int .i64 s.gJ,.int .i64 s.wlo,.int .i64 s.whi] 40 (0,0))):=ai (fun g=>(g.h.block _ CS).trans EW1.out)
 go_enter Tryz.func87,Tryz.ntmps87
 go_wp2
 go_loopw [14] (fun i wr=>∃g:Grow W,wr=g.x/\((i=.int .i64 0/\FY c s 0)\/(i=.int .i64 1/\FY c s 1)\/(i=.int .i64 2/\FY c s 2)\/(i=.int .i64 3/\FY c s 3)\/(i=.int .i64 4/\FY c s 4))) (fun i _=>(4 - intOf i).toNat)
 case atStart=>exact⟨Grow.self W,rfl,.inl ⟨rfl,fun j hj=>absurd hj (by omega)⟩⟩
 case round =>
  obtain⟨g,rfl,(⟨rfl,hH⟩|⟨rfl,hH⟩|⟨rfl,hH⟩|⟨rfl,hH⟩|⟨rfl,hH⟩)⟩:=hrel
  . have hx:∀w0:World,(Instr.index 243 (.agg #[(.func (.func 133) #[] #[.pointer (some ⟨w.heap.size,0,none⟩),.pointer (some ⟨W1.heap.size,0,none⟩)]),(.func (.func 135) #[] #[.pointer (some ⟨w.heap.size,0,none⟩),.pointer (some ⟨W1.heap.size,0,none⟩)]),(.func (.func 136) #[] #[.pointer (some ⟨w.heap.size,0,none⟩),.pointer (some ⟨W1.heap.size,0,none⟩)]),(.func (.func 138) #[] #[.pointer (some ⟨w.heap.size,0,none⟩),.pointer (some ⟨W1.heap.size,0,none⟩)])]) (.int .i64 0)).run Tryz.prog w0=.ok (.func (.func 133) #[] #[.pointer (some ⟨w.heap.size,0,none⟩),.pointer (some ⟨W1.heap.size,0,none⟩)]) w0:=fun w0=>(yV _ _ _ _ w0).1
    cases hb:Aa c s 0
    . have kR:=ai (fun g:Grow W=>(Tz c s g.x hc hs (kc.out g) (ks.out g)).mono fun e w' h=>aB.lit h hb)
      have hH2:=ai (hH.next hb)
      clear hH hb
      go_wp2_with (go_at_call 133;(with_reducible refine ax (kR.out _) ?_);rintro e w1 ⟨rfl,hB⟩;obtain⟨g,rfl⟩:=g.next hB;clear hB)
      exact⟨⟨g,rfl,.inr (.inl ⟨rfl,hH2.out⟩)⟩,by simp[intOf]⟩
    . have kR:=ai (fun g:Grow W=>(Tz c s g.x hc hs (kc.out g) (ks.out g)).mono fun e w' h=>aB.lit h hb)
      have hH2:=ai (Px (by omega) hH hb)
      clear hH hb
      go_wp2_with (go_at_call 133;(with_reducible refine ax (kR.out _) ?_);rintro e w1 ⟨rfl,hB⟩;obtain⟨g,rfl⟩:=g.next hB;clear hB)
      go_ret
      exact⟨by rw[hH2.out];rfl,hBw.trans (g.h.mono hBw.size)⟩
  . have hx:∀w0:World,(Instr.index 243 (.agg #[(.func (.func 133) #[] #[.pointer (some ⟨w.heap.size,0,none⟩),.pointer (some ⟨W1.heap.size,0,none⟩)]),(.func (.func 135) #[] #[.pointer (some ⟨w.heap.size,0,none⟩),.pointer (some ⟨W1.heap.size,0,none⟩)]),(.func (.func 136) #[] #[.pointer (some ⟨w.heap.size,0,none⟩),.pointer (some ⟨W1.heap.size,0,none⟩)]),(.func (.func 138) #[] #[.pointer (some ⟨w.heap.size,0,none⟩),.pointer (some ⟨W1.heap.size,0,none⟩)])]) (.int .i64 1)).run Tryz.prog w0=.ok (.func (.func 135) #[] #[.pointer (some ⟨w.heap.size,0,none⟩),.pointer (some ⟨W1.heap.size,0,none⟩)]) w0:=fun w0=>(yV _ _ _ _ w0).2.1
    cases hb:Aa c s 1
    . have kR:=ai (fun g:Grow W=>(TA c s g.x hc hs (kc.out g) (ks.out g)).mono fun e w' h=>aB.lit h hb)
      have hH2:=ai (hH.next hb)
      clear hH hb
      go_wp2_with (go_at_call 135;(with_reducible refine ax (kR.out _) ?_);rintro e w1 ⟨rfl,hB⟩;obtain⟨g,rfl⟩:=g.next hB;clear hB)
      exact⟨⟨g,rfl,.inr (.inr (.inl ⟨rfl,hH2.out⟩))⟩,by simp[intOf]⟩
    . have kR:=ai (fun g:Grow W=>(TA c s g.x hc hs (kc.out g) (ks.out g)).mono fun e w' h=>aB.lit h hb)
      have hH2:=ai (Px (by omega) hH hb)
      clear hH hb
      go_wp2_with (go_at_call 135;(with_reducible refine ax (kR.out _) ?_);rintro e w1 ⟨rfl,hB⟩;obtain⟨g,rfl⟩:=g.next hB;clear hB)
      go_ret
      exact⟨by rw[hH2.out];rfl,hBw.trans (g.h.mono hBw.size)⟩
  . have hx:∀w0:World,(Instr.index 243 (.agg #[(.func (.func 133) #[] #[.pointer (some ⟨w.heap.size,0,none⟩),.pointer (some ⟨W1.heap.size,0,none⟩)]),(.func (.func 135) #[] #[.pointer (some ⟨w.heap.size,0,none⟩),.pointer (some ⟨W1.heap.size,0,none⟩)]),(.func (.func 136) #[] #[.pointer (some ⟨w.heap.size,0,none⟩),.pointer (some ⟨W1.heap.size,0,none⟩)]),(.func (.func 138) #[] #[.pointer (some ⟨w.heap.size,0,none⟩),.pointer (some ⟨W1.heap.size,0,none⟩)])]) (.int .i64 2)).run Tryz.prog w0=.ok (.func (.func 136) #[] #[.pointer (some ⟨w.heap.size,0,none⟩),.pointer (some ⟨W1.heap.size,0,none⟩)]) w0:=fun w0=>(yV _ _ _ _ w0).2.2.1
    cases hb:Aa c s 2
    . have kR:=ai (fun g:Grow W=>(TB c s g.x hc hs (kc.out g) (ks.out g)).mono fun e w' h=>aB.lit h hb)
      have hH2:=ai (hH.next hb)
      clear hH hb
      go_wp2_with (go_at_call 136;(with_reducible refine ax (kR.out _) ?_);rintro e w1 ⟨rfl,hB⟩;obtain⟨g,rfl⟩:=g.next hB;clear hB)
      exact⟨⟨g,rfl,.inr (.inr (.inr (.inl ⟨rfl,hH2.out⟩)))⟩,by simp[intOf]⟩
    . have kR:=ai (fun g:Grow W=>(TB c s g.x hc hs (kc.out g) (ks.out g)).mono fun e w' h=>aB.lit h hb)
      have hH2:=ai (Px (by omega) hH hb)
      clear hH hb
      go_wp2_with (go_at_call 136;(with_reducible refine ax (kR.out _) ?_);rintro e w1 ⟨rfl,hB⟩;obtain⟨g,rfl⟩:=g.next hB;clear hB)
      go_ret
      exact⟨by rw[hH2.out];rfl,hBw.trans (g.h.mono hBw.size)⟩
  . have hx:∀w0:World,(Instr.index 243 (.agg #[(.func (.func 133) #[] #[.pointer (some ⟨w.heap.size,0,none⟩),.pointer (some ⟨W1.heap.size,0,none⟩)]),(.func (.func 135) #[] #[.pointer (some ⟨w.heap.size,0,none⟩),.pointer (some ⟨W1.heap.size,0,none⟩)]),(.func (.func 136) #[] #[.pointer (some ⟨w.heap.size,0,none⟩),.pointer (some ⟨W1.heap.size,0,none⟩)]),(.func (.func 138) #[] #[.pointer (some ⟨w.heap.size,0,none⟩),.pointer (some ⟨W1.heap.size,0,none⟩)])]) (.int .i64 3)).run Tryz.prog w0=.ok (.func (.func 138) #[] #[.pointer (some ⟨w.heap.size,0,none⟩),.pointer (some ⟨W1.heap.size,0,none⟩)]) w0:=fun w0=>(yV _ _ _ _ w0).2.2.2
    cases hb:Aa c s 3
    . have kR:=ai (fun g:Grow W=>(TC c s g.x hc hs (kc.out g) (ks.out g)).mono fun e w' h=>aB.lit h hb)
      have hH2:=ai (hH.next hb)
      clear hH hb
      go_wp2_with (go_at_call 138;(with_reducible refine ax (kR.out _) ?_);rintro e w1 ⟨rfl,hB⟩;obtain⟨g,rfl⟩:=g.next hB;clear hB)
      exact⟨⟨g,rfl,.inr (.inr (.inr (.inr ⟨rfl,hH2.out⟩)))⟩,by simp[intOf]⟩
    . have kR:=ai (fun g:Grow W=>(TC c s g.x hc hs (kc.out g) (ks.out g)).mono fun e w' h=>aB.lit h hb)
      have hH2:=ai (Px (by omega) hH hb)
      clear hH hb
      go_wp2_with (go_at_call 138;(with_reducible refine ax (kR.out _) ?_);rintro e w1 ⟨rfl,hB⟩;obtain⟨g,rfl⟩:=g.next hB;clear hB)
      go_ret
      exact⟨by rw[hH2.out];rfl,hBw.trans (g.h.mono hBw.size)⟩
  . go_wp2
    go_ret
    exact⟨by rw[ad7 hH];rfl,hBw.trans (g.h.mono hBw.size)⟩
end Go.Proofs.YtkjdidieiioijaaGreat.G
namespace bz
def at0 (l:List Int)(k:Nat):Int:=l.getD k 0
end bz
namespace Go.Proofs.YtkjdidieiioijaaGreat.G
open Go.RowKit Go.Sd
def bK (w:World)(v:Value)(xs:List Int):Prop :=
 ∃a cap,v=.slice a xs.length cap/\xs.length<=maxLen /\
  (0<xs.length->∃b off,a=some ⟨b,off,none⟩/\b<w.heap.size/\∀k,k<xs.length->w.cell? ⟨b,off+k,none⟩=some (.int .i64 (bz.at0 xs k)))
theorem ae {w w':World}(hb:Below w.heap.size w w'){b o:Nat}{v:Value}(h:w.cell? ⟨b,o,none⟩=some v):w'.cell? ⟨b,o,none⟩=some v :=
 (hb.cell (p:=⟨b,o,none⟩) (World.block_lt_of_cell? w ⟨b,o,none⟩ h)).trans h
theorem bK.mono {w w':World}{v:Value}{xs:List Int}(h:bK w v xs)(hb:Below w.heap.size w w'):bK w' v xs:=by
 obtain⟨a,cap,rfl,hm,hc⟩:=h
 refine⟨a,cap,rfl,hm,fun h0=>?_⟩
 obtain⟨b,off,rfl,hlt,hk⟩:=hc h0
 exact⟨b,off,rfl,bM hlt hb.size,fun k hk'=>ae hb (hk k hk')⟩
theorem CZ:(Tryz.prog.info? 3).map (fun i=>(i.zero,i.size,i.bytes))=some (some (.int .i64 0),1,8):=by kernel_rfl
def bg (B:Nat)(w:World)(v:Value)(xs:List Int):Prop:=w.ownsRow B 3 1 v xs.length (xs.map (Value.int .i64))
theorem bg.nil (B:Nat)(w:World):bg B w (.slice none 0 0) []:=World.ownsRow_nil w B _ 1
theorem bg.lt {B:Nat}{w:World}{v:Value}{xs:List Int}(h:bg B w v xs):∀k,v.ownBlock=some k->B<=k/\k<w.heap.size:=World.ownsRow.lt h
theorem bg.kept {B:Nat}{w w':World}{row:Option Nat}{v:Value}{xs:List Int}(h:bg B w v xs)(hg:w.grownBy w' row)(hne:v.ownBlock=none\/v.ownBlock≠row):bg B w' v xs:=World.ownsRow.kept h hg hne
theorem n_ {w w':World}(h:Below w.heap.size w w'):w.grownBy w' none :=
 ⟨h.os,h.tape,h.output,h.size,fun k hk _=>h.block k hk⟩
theorem bg.mono {B:Nat}{w w':World}{v:Value}{xs:List Int}(h:bg B w v xs)(hb:Below w.heap.size w w'):bg B w' v xs :=
 h.kept (n_ hb) (by cases v.ownBlock <;> simp)
theorem bg.at {B:Nat}{w:World}{v:Value}{xs:List Int}(h:bg B w v xs):bK w v xs:=by
 obtain⟨_,h2⟩:=h
 rcases h2 with ⟨rfl,h0⟩|⟨g,cap,cur,rfl,hB,hg,hn,hm,hs,ht⟩
 . refine⟨none,0,by rw[h0],by simp[h0],fun h=>by omega⟩
 . refine⟨some ⟨g,0,none⟩,cap,rfl,by omega,fun _=>⟨g,0,rfl,(aF hg),fun k hk=>?_⟩⟩
   rw[Nat.zero_add,cell_of_row w g k cur _ (0,0) hg]
   have h1:(cur.toList.take (xs.length*1))[k]? = (xs.map (Value.int .i64))[k]?:=by rw[ht]
   rw[List.getElem?_take,if_pos (by omega)] at h1
   simp only[List.getElem?_map,List.getElem?_eq_getElem hk,Option.map_some] at h1
   rw[<- Array.getElem?_toList,h1]
   simp[bz.at0,hk]
theorem yH {B:Nat}{w:World}{v:Value}{xs:List Int}{y:Int}(h:w.ownsRow B 3 1 v (xs.length+1) (xs.map (Value.int .i64) ++ [.int .i64 y])):bg B w v (xs ++ [y]):=by
 unfold bg
 simpa using h
end Go.Proofs.YtkjdidieiioijaaGreat.G
namespace bz
def oJ (s:Int × Int)(n:Int):Int × Int:=(min s.1 n,max s.2 n)
def fH:List Int->Int × Int
 | []=>(0,0)
 | x :: r=>r.foldl oJ (x,x)
theorem aae {xs:List Int}(n:Int)(h:xs≠[]):fH (xs ++ [n])=oJ (fH xs) n:=by
 cases xs with
 | nil=>exact absurd rfl h
 | cons x r=>simp[fH,List.foldl_append]
theorem ahK (xs:List Int)(k:Nat)(h:k<xs.length):xs.take (k+1)=xs.take k ++ [at0 xs k]:=by
 rw[List.take_succ_eq_append_getElem h];simp[at0,h]
theorem aej (xs:List Int)(k:Nat)(h:k<xs.length):fH (xs.take (k+1))=if k=0 then(at0 xs k,at0 xs k) else oJ (fH (xs.take k)) (at0 xs k):=by
 rw[ahK xs k h]
 split
 . rename_i h0;subst h0;simp[fH]
 . rw[aae]
   intro h1
   have:=congrArg List.length h1
   rw[List.length_take,List.length_nil] at this
   omega
theorem aaf:∀(xs:List Int),xs≠[]->(fH xs).1 ∈ xs/\(fH xs).2 ∈ xs/\∀x ∈ xs,(fH xs).1<=x/\x<=(fH xs).2:=by
 intro xs h
 cases xs with
 | nil=>exact absurd rfl h
 | cons x r =>
  suffices hs:∀(r:List Int) (a b:Int) (ys:List Int),a ∈ ys->b ∈ ys->(∀y ∈ ys,a<=y/\y<=b) ->
      (r.foldl oJ (a,b)).1 ∈ ys ++ r/\(r.foldl oJ (a,b)).2 ∈ ys ++ r/\∀y ∈ ys ++ r,(r.foldl oJ (a,b)).1<=y/\y<=(r.foldl oJ (a,b)).2 by
   have:=hs r x x [x] (by simp) (by simp) (by simp)
   simpa [fH] using this
  intro r
  induction r with
  | nil=>intro a b ys ha hb hy;simpa using ⟨ha,hb,hy⟩
  | cons n r ih =>
   intro a b ys ha hb hy
   have:=ih (min a n) (max b n) (ys ++ [n]) (by simp only[Int.min_def];split <;> simp[ha]) (by simp only[Int.max_def];split <;> simp[hb]) (by
    intro y hy'
    rcases List.mem_append.1 hy' with h|h
    . have:=hy y h;omega
    . have:y=n:=by simpa using h
      have:=(hy a ha);omega)
   simpa [oJ] using this
theorem akB {xs:List Int}{lo hi:Int}(h1:lo ∈ xs)(h2:hi ∈ xs)(h:∀x ∈ xs,lo<=x/\x<=hi):fH xs=(lo,hi):=by
 have hne:xs≠[]:=by rintro rfl;cases h1
 obtain⟨a,b,c⟩:=aaf xs hne
 have a1:=h _ a;have b1:=h _ b;have c1:=c _ h1;have c2:=c _ h2
 exact Prod.ext (by simp only;omega) (by simp only;omega)
end bz
namespace Go.Proofs.YtkjdidieiioijaaGreat.G
open Go.RowKit Go.Sd bz
theorem Ja (lv:Value)(xs:List Int)(w:World)(hx:bK w lv xs) :
    Calls Tryz.prog 202 #[lv] w (dI (.agg #[.int .i64 (fH xs).1,.int .i64 (fH xs).2]) w):=by
 obtain⟨a,cap,rfl,hm,hc⟩:=hx
 unfold maxLen at hm
 have hm':xs.length<=9223372036854775807:=by omega
 obtain⟨W,hW⟩:=aG (w.alloc (.cells #[.int .i64 0,.int .i64 0] 35))
 obtain⟨e0,b0,s0⟩:=boxed hW
 obtain⟨z0,r0,t0⟩:=ah e0
 have q0:=r0 0
 have q1:=r0 1
 have f0:=t0 0
 have f1:=t0 1
 simp only[List.getElem?_toArray,List.getElem?_cons_zero,List.getElem?_cons_succ] at q0 q1
 have hcW:0<xs.length->∃b off,a=some ⟨b,off,none⟩/\b<W.heap.size/\∀k,k<xs.length->W.cell? ⟨b,off+k,none⟩=some (.int .i64 (at0 xs k)):=fun h=>by
  obtain⟨b,off,h1,h2,h3⟩:=hc h
  exact⟨b,off,h1,bM h2 b0.size,fun k hk=>ae b0 (h3 k hk)⟩
 replace hcW:=ai hcW
 clear hc e0 r0 t0 s0
 go_enter Tryz.func202,Tryz.ntmps202
 go_wp2
 go_loopw [4,5,8] (fun _ _ i wr=>∃k:Nat,k<=xs.length/\i=.int .i64 k/\wr=W.alloc (.cells #[.int .i64 (fH (xs.take k)).1,.int .i64 (fH (xs.take k)).2] 35)) (fun _ _ i _=>xs.length - (intOf i).toNat)
 case atStart=>exact⟨0,Nat.zero_le _,rfl,rfl⟩
 case round =>
  obtain⟨k,hk,rfl,rfl⟩:=hrel
  by_cases hlt:k<xs.length
  . obtain⟨b,off,rfl,hb,hcell⟩:=hcW.out (by omega)
    have c0:=hcell k hlt
    clear hcell
    have hki:(k:Int)<(xs.length:Int):=by omega
    have hn:=ai (aej xs k hlt)
    generalize at0 xs k=n at *
    obtain⟨s1,hs1⟩:=aG (fH (xs.take k))
    rw[hs1] at hn ⊢
    clear hs1
    by_cases h0:k=0
    . subst h0
      have hn2:fH (xs.take (0+1))=(n,n):=by have:=hn.out;simpa using this
      replace hn2:=ai hn2
      clear hn
      rw[Nat.add_zero] at c0
      go_wp2
      exact⟨⟨0+1,by omega,by go_num,by rw[hn2.out]⟩,by simp[intOf];omega⟩
    . have h0':¬ (k:Int)=0:=by omega
      have hn2:fH (xs.take (k+1))=oJ s1 n:=by have:=hn.out;rwa [if_neg h0] at this
      replace hn2:=ai hn2
      replace h0:=ai h0
      clear hn
      have e1:(if n<s1.1 then n else s1.1)=min s1.1 n:=by rw[Int.min_def];split <;> split <;> omega
      have e2:(if s1.2<n then n else s1.2)=max s1.2 n:=by rw[Int.max_def];split <;> split <;> omega
      go_wp2
      exact⟨⟨k+1,by omega,by go_num,by rw[hn2.out];rfl⟩,by simp[intOf];omega⟩
  . obtain rfl:k=xs.length:=by omega
    rw[List.take_length]
    go_wp2
    refine bodyPost_ret (v:=.agg #[.int .i64 (fH xs).1,.int .i64 (fH xs).2]) (by simp[results,Tryz.results202,go_sem, *]) rfl ⟨rfl,?_⟩
    refine Below.alloc ?_ (by simp;exact b0.size) _
    repeat' (first|(with_reducible exact b0)|(exact Nat.le_refl _)|refine Below.setCell ?_ ?_ _)
