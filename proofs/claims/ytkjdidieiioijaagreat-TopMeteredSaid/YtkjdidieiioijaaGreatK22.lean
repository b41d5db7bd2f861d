/- Walks. -/
import Derived.Test.YtkjdidieiioijaaGreatK21
set_option linter.all false
set_option maxRecDepth 100000
set_option maxHeartbeats 16000000
namespace Go.Proofs.YtkjdidieiioijaaGreat.B
open Go.RowKit Go.Sd Wl Bk L
attribute [local go_sem] Oper.semAt_some
abbrev cvV (p:CV):Value:=YR p.1 p.2
abbrev akD (w:World)(v:Value)(xs:List CV):Prop:=gG 11 GV (.slice none 0 0,⟨false,0,0,0,[],0,0,0,0,0,0⟩) w v xs
theorem CX {l:List CV}{j:Nat}(h:j<l.length):aK l j=l[j]:=by simp[aK,h]
theorem af8 (v:Value)(l:List CV)(p:CV->Bool)(nf:Nat)(nb:Array Value)(w:World)(hv:akD w v l)(en:∀args w,(callFunc nf args).run Tryz.prog w=.ok (.enter nf args) w)
    (hp:∀d,d ∈ l->∀X,Below w.heap.size w X->Calls Tryz.prog nf (#[cvV d] ++ nb) X (dI (.bool (p d)) X)) :
    Calls Tryz.prog 179 #[v,.func (.func nf) #[] nb] w (Jr (l.any p) w):=by
 obtain⟨a,cap,rfl,hm,hc⟩:=hv.form
 clear hv
 replace hp:=ai hp
 go_enter Tryz.func179,Tryz.ntmps179
 go_wp2_with (fail)
 have hg:=az w
 go_loopw [8] (fun i wr=>∃k:Nat,k<=l.length/\i=.int .i64 k/\Hid (∀j (hj:j<l.length),j<k->p l[j]=false)/\∃g:Grow w,wr=g.x) (fun i _=>l.length - (intOf i).toNat)
 case atStart=>exact⟨0,by omega,rfl,(fun j _ h=>by omega:∀j (hj:j<l.length),j<0->p l[j]=false),Grow.self w,rfl⟩
 case round =>
  obtain⟨k,hk,rfl,hH,g,rfl⟩:=hrel
  by_cases hlt:k<l.length
  . obtain⟨b,off,rfl,hbl,hx⟩:=hc (by omega)
    have c0:w.cell? ⟨b,off+k*11,none⟩=some (.bool (aK l k).2.AA):=hx k 0 _ hlt rfl
    have c1:w.cell? ⟨b,off+k*11+1,none⟩=some (.int .i64 (aK l k).2.space):=hx k 1 _ hlt rfl
    have c2:w.cell? ⟨b,off+k*11+2,none⟩=some (.int .i64 (aK l k).2.lo):=hx k 2 _ hlt rfl
    have c3:w.cell? ⟨b,off+k*11+3,none⟩=some (.int .i64 (aK l k).2.hi):=hx k 3 _ hlt rfl
    have c4:w.cell? ⟨b,off+k*11+4,none⟩=some ((aK l k).1):=hx k 4 _ hlt rfl
    have c5:w.cell? ⟨b,off+k*11+5,none⟩=some (.int .i64 (aK l k).2.NJ):=hx k 5 _ hlt rfl
    have c6:w.cell? ⟨b,off+k*11+6,none⟩=some (.int .i64 (aK l k).2.fixed):=hx k 6 _ hlt rfl
    have c7:w.cell? ⟨b,off+k*11+7,none⟩=some (.int .i64 (aK l k).2.iq):=hx k 7 _ hlt rfl
    have c8:w.cell? ⟨b,off+k*11+8,none⟩=some (.int .i64 (aK l k).2.out):=hx k 8 _ hlt rfl
    have c9:w.cell? ⟨b,off+k*11+9,none⟩=some (.int .i64 (aK l k).2.cut):=hx k 9 _ hlt rfl
    have c10:w.cell? ⟨b,off+k*11+10,none⟩=some (.int .i64 (aK l k).2.lack):=hx k 10 _ hlt rfl
    have hki:(0:Int)<=(k:Int)/\(k:Int)<l.length:=by omega
    have hcall:=hp.out (aK l k) (by rw[CX hlt];exact List.getElem_mem hlt) g.x g.h
    rw[CX hlt] at c0 c1 c2 c3 c4 c5 c6 c7 c8 c9 c10 hcall
    clear hx hc
    cases ht:p l[k]
    . rw[ht] at hcall
      have hH':Hid (∀j (hj:j<l.length),j<k+1->p l[j]=false):=fun j hj hjk=>by
       rcases Nat.lt_succ_iff_lt_or_eq.1 hjk with h|rfl
       . exact hH.out j hj h
       . exact ht
      replace ht:=ai ht
      replace hcall:=ai hcall
      go_wp2_with ((with_reducible refine ax hcall.out ?_);rintro e w' ⟨rfl,hb'⟩;obtain⟨g1,rfl⟩:=g.next hb')
      exact⟨⟨k+1,by omega,by go_num,hH',g1,rfl⟩,by simp[intOf];omega⟩
    . rw[ht] at hcall
      have hany:=ai (any_some hlt ht)
      replace ht:=ai ht
      replace hcall:=ai hcall
      go_wp2_with ((with_reducible refine ax hcall.out ?_);rintro e w' ⟨rfl,hb'⟩;obtain⟨g1,rfl⟩:=g.next hb')
      go_ret
      exact⟨k,rfl,⟨fun _=>by omega,fun _=>hany.out⟩,g1.h⟩
  . have hany:=ai (any_none fun j hj=>hH.out j hj (by omega))
    go_wp2_with (fail)
    go_ret
    exact⟨-1,rfl,⟨(fun h=>by rw[hany.out] at h;cases h),(fun h=>by omega)⟩,g.h⟩
theorem Wj (v:Value)(l:List CV)(p:CV->Bool)(nf:Nat)(nb:Array Value)(w:World)(hv:akD w v l)(en:∀args w,(callFunc nf args).run Tryz.prog w=.ok (.enter nf args) w)
    (hp:∀d,d ∈ l->∀X,Below w.heap.size w X->Calls Tryz.prog nf (#[cvV d] ++ nb) X (dI (.bool (p d)) X)) :
    Calls Tryz.prog 145 #[v,.func (.func nf) #[] nb] w (aB (l.any p) w):=by
 have hc:=ai (af8 v l p nf nb w hv en hp)
 obtain⟨a,cap,rfl,-,-⟩:=hv
 clear hp
 cases ht:l.any p
 all_goals
  replace ht:=ai ht
  go_enter Tryz.func145,Tryz.ntmps145
  go_wp2_with (go_at_call 179;refine ax hc.out ?_;rintro e w' ⟨n,rfl,hn,hb⟩;rw[ht.out] at hn;have hn':Hid (_↔(0:Int)<=n):=hn;clear hn)
  go_ret
  refine⟨_,rfl,?_,hb⟩
  have:=hn'.out
  simp at this
  show _=_
  simp[this]
theorem store1 (c:pY)(rv:Value)(w:World)(hr:uC w rv c.aC):Calls Tryz.prog 146 #[YR rv c] w (dI (.bool (!c.ok)) w):=by
 obtain⟨W,hW⟩:=aG (w.alloc (Wi rv c))
 obtain⟨e,bW,z⟩:=boxedB hW
 obtain⟨c0,c1,c2,c3,c4,c5,c6,c7,c8,c9,c10⟩:=xY e
 have k:=ai (Ux c rv W (hr.mono bW))
 have hB:=ai bW
 obtain⟨ra,Ce,rfl,-,-⟩:=hr
 clear e bW
 go_enter Tryz.func146,Tryz.ntmps146
 go_wp2_with (go_at_call 147;(with_reducible refine ax k.out ?_);rintro e w' ⟨t,rfl,ht,hb⟩)
 go_ret
 exact⟨by rw[<- ht.out];first|rfl|simp,aj hB.out hb⟩
theorem apY (w:World)(a b c:Int):bK (w.alloc (.cells #[.int .i64 a,.int .i64 b,.int .i64 c] 3)) (.slice (some ⟨w.heap.size,0,none⟩) 3 3) [a,b,c]:=by
 refine⟨_,3,rfl,by simp[maxLen],fun _=>⟨w.heap.size,0,rfl,by simp,?_⟩⟩
 have h:=World.alloc_heap_new w (.cells #[.int .i64 a,.int .i64 b,.int .i64 c] 3)
 have r:=(ah h).2.1
 intro k i u hk hu
 have hk':k=0\/k=1\/k=2:=by
  have h5:k<3:=hk
  omega
 have hi:=(List.getElem?_eq_some_iff.1 hu).1
 have hi':i=0:=by
  have h1:i<1:=hi
  omega
 subst hi'
 rw[r,<- hu]
 rcases hk' with rfl|rfl|rfl <;> rfl
theorem ah4 {l:List CV} : (l.any fun p=>!p.2.ok) = !(List.range l.length).all (fun k=>(aK l k).2.ok):=by
 rw[Bool.eq_iff_iff]
 simp only[List.any_eq_true,Bool.not_eq_true',List.all_eq_false,List.mem_range]
 constructor
 . rintro⟨p,hp,h⟩
   obtain⟨j,hj,rfl⟩:=List.getElem_of_mem hp
   exact⟨j,hj,by rw[CX hj,h];decide⟩
 . rintro⟨j,hj,h⟩
   exact⟨l[j],List.getElem_mem hj,by rw[<- CX hj];simpa using h⟩
theorem V6 {l:List CV}(h:(List.range l.length).all (fun k=>(aK l k).2.ok)=true):PS l:=fun k hk=>List.all_eq_true.1 h k (List.mem_range.2 hk)
theorem Sm (s:Gy)(v:Value)(w:World)(hc:iP w v s.cons):Calls Tryz.prog 103 #[RI v s] w (aB s.ok w):=by
 obtain⟨W,hW⟩:=aG (w.alloc (ZZ v s))
 obtain⟨e,bW,z⟩:=boxedB hW
 obtain⟨q0,q1,q2,q3,q4,q5⟩:=oN e
 have hcW:=ai (hc.mono bW)
 have hBw:=ai bW
 have eh:=ai e
 have hc0:=hc.els
 obtain⟨a,cap,rfl,hm,-⟩:=hc0
 obtain⟨V,hV⟩:=aG (W.alloc (.cells #[.int .i64 s.space,.int .i64 s.iq,.int .i64 s.out] 3))
 obtain⟨eV,bV,zV⟩:=boxedB hV
 have iV:=apY W s.space s.iq s.out
 rw[hV] at iV
 obtain⟨b1,h1⟩:=aG ([s.space,s.iq,s.out].all qi)
 have kG:Hid (Calls Tryz.prog 143 #[.slice (some ⟨W.heap.size,0,none⟩) 3 3] V (dI (.bool b1) V)):=ai ((acT _ _ V iV).mono fun e w' h=>h.lit h1)
 have h1h:Hid ((qi s.space && qi s.iq && qi s.out)=b1):=ai (by rw[<- h1];simp[Bool.and_assoc])
 obtain⟨b5,h5⟩:=aG ((List.range s.cons.length).all (fun k=>(aK s.cons k).2.ok))
 have kC:Hid (∀X,Below W.heap.size W X->Calls Tryz.prog 145 #[.slice a s.cons.length cap,.func (.func 146) #[] #[]] X (dI (.bool (!b5)) X)):=ai fun X hX =>
  (Wj _ s.cons (fun p=>!p.2.ok) 146 #[] X (hcW.out.mono hX).els (fun args w=>by kernel_rfl) fun d hd Y hY=>by
   obtain⟨j,hj,rfl⟩:=List.getElem_of_mem hd
   have hr:=((hcW.out.mono hX).rts j hj).mono hY
   rw[CX hj] at hr
   exact store1 _ _ Y hr).mono fun e w' h=>h.lit (by rw[ah4,h5])
 have kO:Hid (b5=true->s.cons.length<=8->∀X,Below W.heap.size W X->Calls Tryz.prog 148 #[RI (.slice a s.cons.length cap) s] X (aB (mV s) X)):=ai fun hb hl X hX=>aeI s _ (V6 (h5.trans hb)) hl X (hcW.out.mono hX)
 have h5h:=ai h5
 have hVh:Hid (Below W.heap.size W V):=ai bV
 clear e bW hc eV bV iV h1 h5 hm
 have hrw:Hid (∀X,Below W.heap.size W X->_):=ai fun X (hX:Below W.heap.size W X)=>oN (ak hX eh.out)
 cases b1
 . have hf:Hid (s.ok=false):=ai (by unfold Gy.ok pM;rw[h1h.out];simp)
   go_enter Tryz.func103,Tryz.ntmps103
   go_wp2_with (go_at_call 143;(with_reducible refine ax kG.out ?_);rintro e w1 ⟨rfl,hB1⟩;have hX1:=aj hVh.out hB1;obtain⟨q0,q1,q2,q3,q4,q5⟩:=hrw.out _ hX1;have z1:=hX1.size)
   go_ret
   exact aB.mk hf.out (aj hBw.out hX1)
 cases h2:inB s.lead 0 48
 . have hf:Hid (s.ok=false):=ai (by unfold Gy.ok pM;simp[h2])
   go_enter Tryz.func103,Tryz.ntmps103
   go_wp2_with (first|(go_at_call 143;(with_reducible refine ax kG.out ?_);rintro e w1 ⟨rfl,hB1⟩;have hX1:=aj hVh.out hB1;obtain⟨q0,q1,q2,q3,q4,q5⟩:=hrw.out _ hX1;have z1:=hX1.size)|(go_at_call 144;(with_reducible refine ax (iI (by assumption) _) ?_);rintro e w' ⟨rfl,rfl⟩))
   go_ret
   exact aB.mk hf.out (aj hBw.out hX1)
 cases h3:inB s.fuel 0 1000
 . have hf:Hid (s.ok=false):=ai (by unfold Gy.ok pM;simp[h3])
   go_enter Tryz.func103,Tryz.ntmps103
   go_wp2_with (first|(go_at_call 143;(with_reducible refine ax kG.out ?_);rintro e w1 ⟨rfl,hB1⟩;have hX1:=aj hVh.out hB1;obtain⟨q0,q1,q2,q3,q4,q5⟩:=hrw.out _ hX1;have z1:=hX1.size)|(go_at_call 144;(with_reducible refine ax (iI (by assumption) _) ?_);rintro e w' ⟨rfl,rfl⟩))
   go_ret
   exact aB.mk hf.out (aj hBw.out hX1)
 by_cases hl:s.cons.length<=8
 case neg =>
  have hf:Hid (s.ok=false):=ai (by unfold Gy.ok pM;simp[hl])
  have hl':(8:Int)<s.cons.length:=by omega
  go_enter Tryz.func103,Tryz.ntmps103
  go_wp2_with (first|(go_at_call 143;(with_reducible refine ax kG.out ?_);rintro e w1 ⟨rfl,hB1⟩;have hX1:=aj hVh.out hB1;obtain⟨q0,q1,q2,q3,q4,q5⟩:=hrw.out _ hX1;have z1:=hX1.size)|(go_at_call 144;(with_reducible refine ax (iI (by assumption) _) ?_);rintro e w' ⟨rfl,rfl⟩))
  go_ret
  exact aB.mk hf.out (aj hBw.out hX1)
 have hl':(s.cons.length:Int)<=8:=by omega
 cases b5
 . have hf:Hid (s.ok=false):=ai (by unfold Gy.ok;rw[h5h.out];simp)
   go_enter Tryz.func103,Tryz.ntmps103
   go_wp2_with (first|(go_at_call 143;(with_reducible refine ax kG.out ?_);rintro e w1 ⟨rfl,hB1⟩;have hX1:=aj hVh.out hB1;obtain⟨q0,q1,q2,q3,q4,q5⟩:=hrw.out _ hX1;have z1:=hX1.size)|(go_at_call 144;(with_reducible refine ax (iI (by assumption) _) ?_);rintro e w' ⟨rfl,rfl⟩)|(go_at_call 145;(with_reducible refine ax (kC.out _ hX1) ?_);rintro e w2 ⟨rfl,hB2⟩;have hX2:=aj hX1 hB2;obtain⟨q0,q1,q2,q3,q4,q5⟩:=hrw.out _ hX2;have z2:=hX2.size))
   go_ret
   exact aB.mk hf.out (aj hBw.out hX2)
 have kO2:=ai (kO.out rfl hl)
 have hf:Hid (s.ok=mV s):=ai (by
  unfold Gy.ok pM
  rw[h5h.out,h1h.out,h2,h3]
  simp[hl])
 clear kO
 go_enter Tryz.func103,Tryz.ntmps103
 go_wp2_with (first|(go_at_call 143;(with_reducible refine ax kG.out ?_);rintro e w1 ⟨rfl,hB1⟩;have hX1:=aj hVh.out hB1;obtain⟨q0,q1,q2,q3,q4,q5⟩:=hrw.out _ hX1;have z1:=hX1.size)|(go_at_call 144;(with_reducible refine ax (iI (by assumption) _) ?_);rintro e w' ⟨rfl,rfl⟩)|(go_at_call 145;(with_reducible refine ax (kC.out _ hX1) ?_);rintro e w2 ⟨rfl,hB2⟩;have hX2:=aj hX1 hB2;obtain⟨q0,q1,q2,q3,q4,q5⟩:=hrw.out _ hX2;have z2:=hX2.size)|(go_at_call 148;(with_reducible refine ax (kO2.out _ hX2) ?_);rintro e w3 ⟨t,rfl,ht,hB3⟩))
 go_ret
 exact aB.mk (by rw[hf.out,ht.out]) (aj hBw.out (aj hX2 hB3))
end Go.Proofs.YtkjdidieiioijaaGreat.B
namespace Dk
open Wl Tr
structure DC where
 c:bz.d_
 s:bz.St
 r:bz.Op
 we:We
 line:Int
 m:iY
 (pv sv vv mv ov:Go.Value)
def dc0:DC:=⟨⟨0,0,0,0,0,0,0,0,0,0,0⟩,⟨0,0,0,0,0,0,0,0⟩,⟨0,0,0,0,0,0,0,0,0,0⟩,⟨0,0,[]⟩,0,⟨[],[],[],0,0,0,[]⟩,.slice none 0 0,.slice none 0 0,.slice none 0 0,.slice none 0 0,.slice none 0 0⟩
def aQ (l:List DC)(k:Nat):DC:=l.getD k dc0
def DC.ok (d:DC):Bool:=d.c.ok && d.s.ok && (d.r.ok && decide (d.r.kind=3)) && (d.we.ok && inB d.line 2 (d.we.aS - 1) && d.m.ok)
structure Wk where
 st:Bk.Gy
 aW:List DC
 (long day meter:Int)
def Wk.ok (w:Wk):Bool:=w.st.ok && inB w.aW.length 1 3 && inB w.long 2 24 && inB w.day 0 1000 && inB w.meter 0 100000 && !(w.aW.any fun d=>!d.ok)
end Dk
namespace Go.Proofs.YtkjdidieiioijaaGreat.B
open Go.RowKit Go.Sd Wl Bk L Tr Dk
attribute [local go_sem] Oper.semAt_some
abbrev nZ (d:DC):List Value:=[.int .i64 d.c.jm,.int .i64 d.c.jG,.int .i64 d.c.least,.int .i64 d.c.most,.int .i64 d.c.f0,.int .i64 d.c.f1,.int .i64 d.c.h0,.int .i64 d.c.h1,.int .i64 d.c.bu,.int .i64 d.c.mJ,.int .i64 d.c.phi,.int .i64 d.s.dB,.int .i64 d.s.dK,.int .i64 d.s.di,.int .i64 d.s.dE,.int .i64 d.s.gK,.int .i64 d.s.gJ,.int .i64 d.s.wlo,.int .i64 d.s.whi,.int .i64 d.r.kind,.int .i64 d.r.lg,.int .i64 d.r.ly,.int .i64 d.r.lt,.int .i64 d.r.lw,.int .i64 d.r.ay,.int .i64 d.r.lY,.int .i64 d.r.lX,.int .i64 d.r.wlo,.int .i64 d.r.whi,.int .i64 d.we.aS,.int .i64 d.we.need,d.pv,.int .i64 d.line,d.sv,d.vv,d.mv,.int .i64 d.m.states,.int .i64 d.m.cmds,.int .i64 d.m.begin,d.ov]
def NG (d:DC):Array Value:=#[.int .i64 d.c.jm,.int .i64 d.c.jG,.int .i64 d.c.least,.int .i64 d.c.most,.int .i64 d.c.f0,.int .i64 d.c.f1,.int .i64 d.c.h0,.int .i64 d.c.h1,.int .i64 d.c.bu,.int .i64 d.c.mJ,.int .i64 d.c.phi,.int .i64 d.s.dB,.int .i64 d.s.dK,.int .i64 d.s.di,.int .i64 d.s.dE,.int .i64 d.s.gK,.int .i64 d.s.gJ,.int .i64 d.s.wlo,.int .i64 d.s.whi,.int .i64 d.r.kind,.int .i64 d.r.lg,.int .i64 d.r.ly,.int .i64 d.r.lt,.int .i64 d.r.lw,.int .i64 d.r.ay,.int .i64 d.r.lY,.int .i64 d.r.lX,.int .i64 d.r.wlo,.int .i64 d.r.whi,.int .i64 d.we.aS,.int .i64 d.we.need,d.pv,.int .i64 d.line,d.sv,d.vv,d.mv,.int .i64 d.m.states,.int .i64 d.m.cmds,.int .i64 d.m.begin,d.ov]
abbrev dcV (d:DC):Value:=.agg (NG d)
abbrev dcO (d:DC):Obj:=.cells (NG d) 54
theorem dX {ops:Array Oper}{rest:List Oper}{o:Oper}{a:Act}{w:World}{Q:Exit->Act->World->Prop}(hgd:o.guard=none)(ty:TypeId)(x:Operand)(ho:o.op=.load ty x)
    (b off:Nat) (hx:a.eval x=.pointer (some ⟨b,off,none⟩)) (cs:Array Value) (d:TypeDesc)
    (hu:Tryz.prog.underlying ty=some d) (hd:(match d with | .struct _ | .array _ _=>true|_=>false)=true) (hi:(Tryz.prog.info? ty).map (·.size)=some cs.size) (hc:∀j u,cs[j]? = some u->w.cell? ⟨b,off+j,none⟩=some u)
    (h:wpList Tryz.prog ops Q rest (a.put o.dst (.agg cs)) w):wpList Tryz.prog ops Q (o :: rest) a w:=by
 refine wpList_plain hgd fun K hK=>?_
 have hl:(loadCells ⟨b,off,none⟩ cs.toList.length).run Tryz.prog w=.ok cs.toList.toArray w :=
  run_loadCells_list (P:=Tryz.prog) w ⟨b,off,none⟩ cs.toList (fun j v hv=>by
   rw[Js]
   exact hc j v (by simpa using hv))
 unfold Oper.wp execOp
 cases hq:Tryz.prog.info? ty with
 | none=>simp[hq] at hi
 | some i =>
  have hs:i.size=cs.size:=by simpa [hq] using hi
  have hagg:(isAgg ty).run Tryz.prog w=.ok true w:=by
   unfold isAgg
   rw[Sem.run_bind,run_underlying hu w]
   cases d <;> simp_all
  simp only[Array.length_toList,Array.toArray_toList] at hl
  have hlv:(loadVar ty ⟨b,off,none⟩).run Tryz.prog w=.ok (.agg cs) w:=by simp[loadVar,Sem.run_bind,hagg,sizeOf,typeInfo,hq,hs,hl]
  simp only[ho,hx,Instr.loadAt,Instr.sureAddr,Sem.run_bind,Sem.run_pure,Result.andThen_ok,hlv]
  exact hK _ _ h
theorem yB {w:World}{v:Value}{l:List DC}(h:gG 40 nZ dc0 w v l):0<l.length->∃b off cap,v=.slice (some ⟨b,off,none⟩) l.length cap/\b<w.heap.size/\∀k,k<l.length->∀X,Below w.heap.size w X->∀j u,(NG (aQ l k))[j]? = some u->X.cell? ⟨b,off+k*40+j,none⟩=some u:=by
 intro h0
 obtain⟨a,cap,rfl,-,hc⟩:=h
 obtain⟨b,off,rfl,hlt,hx⟩:=hc h0
 refine⟨b,off,cap,rfl,hlt,fun k hk X hX j u hu=>ae hX (hx k j u hk ?_)⟩
 rw[<- hu]
 exact List.getElem?_toArray.symm
abbrev VW (w:World)(v:Value)(xs:List DC):Prop:=gG 40 nZ dc0 w v xs
structure MJ (w:World)(d:DC):Prop where
 parts:mY w d.pv d.we.parts
 Rq:Aq w d.sv d.vv d.mv d.ov d.m
theorem MJ.mono {w w':World}{d:DC}(h:MJ w d)(hb:Below w.heap.size w w'):MJ w' d:=⟨h.parts.mono hb,h.Rq.mono hb⟩
structure GG (w:World)(v:Value)(xs:List DC):Prop where
 els:VW w v xs
 ins:∀k,k<xs.length->MJ w (aQ xs k)
theorem GG.mono {w w':World}{v:Value}{xs:List DC}(h:GG w v xs)(hb:Below w.heap.size w w'):GG w' v xs:=⟨h.els.mono hb,fun k hk=>(h.ins k hk).mono hb⟩
theorem Me {w:World}{n:Nat}{a0 a1 a2 a3 a4 a5 a6 a7 a8 a9 a10 a11 a12 a13 a14 a15 a16 a17 a18 a19 a20 a21 a22 a23 a24 a25 a26 a27 a28 a29 a30 a31 a32 a33 a34 a35 a36 a37 a38 a39:Value}{e:TypeId}(h:w.heap[n]? = some (.cells #[a0,a1,a2,a3,a4,a5,a6,a7,a8,a9,a10,a11,a12,a13,a14,a15,a16,a17,a18,a19,a20,a21,a22,a23,a24,a25,a26,a27,a28,a29,a30,a31,a32,a33,a34,a35,a36,a37,a38,a39] e (0,0))):w.cell? ⟨n,0,none⟩=some a0/\w.cell? ⟨n,1,none⟩=some a1/\w.cell? ⟨n,2,none⟩=some a2/\w.cell? ⟨n,3,none⟩=some a3/\w.cell? ⟨n,4,none⟩=some a4/\w.cell? ⟨n,5,none⟩=some a5/\w.cell? ⟨n,6,none⟩=some a6/\w.cell? ⟨n,7,none⟩=some a7/\w.cell? ⟨n,8,none⟩=some a8/\w.cell? ⟨n,9,none⟩=some a9/\w.cell? ⟨n,10,none⟩=some a10/\w.cell? ⟨n,11,none⟩=some a11/\w.cell? ⟨n,12,none⟩=some a12/\w.cell? ⟨n,13,none⟩=some a13/\w.cell? ⟨n,14,none⟩=some a14/\w.cell? ⟨n,15,none⟩=some a15/\w.cell? ⟨n,16,none⟩=some a16/\w.cell? ⟨n,17,none⟩=some a17/\w.cell? ⟨n,18,none⟩=some a18/\w.cell? ⟨n,19,none⟩=some a19/\w.cell? ⟨n,20,none⟩=some a20/\w.cell? ⟨n,21,none⟩=some a21/\w.cell? ⟨n,22,none⟩=some a22/\w.cell? ⟨n,23,none⟩=some a23/\w.cell? ⟨n,24,none⟩=some a24/\w.cell? ⟨n,25,none⟩=some a25/\w.cell? ⟨n,26,none⟩=some a26/\w.cell? ⟨n,27,none⟩=some a27/\w.cell? ⟨n,28,none⟩=some a28/\w.cell? ⟨n,29,none⟩=some a29/\w.cell? ⟨n,30,none⟩=some a30/\w.cell? ⟨n,31,none⟩=some a31/\w.cell? ⟨n,32,none⟩=some a32/\w.cell? ⟨n,33,none⟩=some a33/\w.cell? ⟨n,34,none⟩=some a34/\w.cell? ⟨n,35,none⟩=some a35/\w.cell? ⟨n,36,none⟩=some a36/\w.cell? ⟨n,37,none⟩=some a37/\w.cell? ⟨n,38,none⟩=some a38/\w.cell? ⟨n,39,none⟩=some a39:=by
 have r:=(ah h).2.1
 exact⟨r 0,r 1,r 2,r 3,r 4,r 5,r 6,r 7,r 8,r 9,r 10,r 11,r 12,r 13,r 14,r 15,r 16,r 17,r 18,r 19,r 20,r 21,r 22,r 23,r 24,r 25,r 26,r 27,r 28,r 29,r 30,r 31,r 32,r 33,r 34,r 35,r 36,r 37,r 38,r 39⟩
def CY (c:bz.d_)(s:bz.St)(o:bz.Op):bz.St × bz.Out × Int :=
 if (c.ok && s.ok && o.ok)=true then match bz.act c s o with
  | some (n,q)=>(n,q,0)
  | none=>(G.st0,G.Ns,7)
 else(G.st0,G.Ns,2)
theorem Vp (c:bz.d_)(s:bz.St)(o:bz.Op)(w:World):Calls Tryz.prog 7 #[G.gm c,G.jF s,G.Ll o] w (dI (.tuple #[G.jF (CY c s o).1,G.l9 (CY c s o).2.1,.int .i64 (CY c s o).2.2]) w):=by
 unfold CY
 by_cases h:(c.ok && s.ok && o.ok)=true
 . rw[if_pos h]
   rw[Bool.and_eq_true,Bool.and_eq_true] at h
   cases ha:bz.act c s o with
   | none=>exact G.ZA w h.1.1 h.1.2 h.2 ha
   | some r=>exact G.ZB w h.1.1 h.1.2 h.2 ha
 . rw[if_neg h]
   exact G.adH w (by cases hh:(c.ok && s.ok && o.ok) <;> simp[hh] at h ⊢)
def uz (c:bz.d_)(s:bz.St):Int × Int:=if (c.ok && s.ok)=true then(bz.sure c s,0) else(0,2)
theorem JQ (c:bz.d_)(s:bz.St)(w:World):Calls Tryz.prog 44 #[G.gm c,G.jF s] w (dI (.tuple #[.int .i64 (uz c s).1,.int .i64 (uz c s).2]) w):=by
 unfold uz
 cases hc:c.ok
 . exact G.Vz w hc
 . cases hs:s.ok
   . exact G.VA w hc hs
   . exact G.ZH w hc hs
theorem aap {c:bz.d_}{s:bz.St}{o:bz.Op} : (CY c s o).2.2=2↔(c.ok && s.ok && o.ok)=false:=by
 unfold CY
 cases h:(c.ok && s.ok && o.ok)
 . simp
 . simp only[if_true]
   cases bz.act c s o <;> simp
theorem NH {l:List DC}{j:Nat}(h:j<l.length):aQ l j=l[j]:=by simp[aQ,h]
theorem af9 (v:Value)(l:List DC)(p:DC->Bool)(nf:Nat)(nb:Array Value)(w:World)(hv:VW w v l)(en:∀args w,(callFunc nf args).run Tryz.prog w=.ok (.enter nf args) w)
    (hp:∀k,k<l.length->∀X,Below w.heap.size w X->Calls Tryz.prog nf (#[dcV (aQ l k)] ++ nb) X (dI (.bool (p (aQ l k))) X)) :
    Calls Tryz.prog 140 #[v,.func (.func nf) #[] nb] w (Jr (l.any p) w):=by
 obtain⟨a,cap,rfl,hm,-⟩:=id hv
 unfold maxLen at hm
 have hrow:Hid (0<l.length->_):=ai (yB hv)
 clear hv
 replace hp:=ai hp
 go_enter Tryz.func140,Tryz.ntmps140
 go_wp2_with (fail)
 have hg:=az w
 go_loopw [8] (fun i wr=>∃k:Nat,k<=l.length/\i=.int .i64 k/\Hid (∀j,j<k->p (aQ l j)=false)/\∃g:Grow w,wr=g.x) (fun i _=>l.length - (intOf i).toNat)
 case atStart=>exact⟨0,by omega,rfl,ai fun j h=>by omega,Grow.self w,rfl⟩
 case round =>
  obtain⟨k,hk,rfl,hH,g,rfl⟩:=hrel
  by_cases hlt:k<l.length
  . obtain⟨b,off,cap',he,hbl,hx⟩:=hrow.out (by omega)
    cases he
    have hki:(0:Int)<=(k:Int)/\(k:Int)<l.length:=by omega
    obtain⟨t,ht⟩:=aG (p (aQ l k))
    have hcall:=hp.out k hlt g.x g.h
    rw[ht] at hcall
    replace ht:=ai ht
    have hld:=ai (hx k hlt g.x g.h)
    have hH':Hid (t=false->∀j,j<k+1->p (aQ l j)=false):=ai fun h0 j hjk=>by
     rcases Nat.lt_succ_iff_lt_or_eq.1 hjk with h|rfl
     . exact hH.out j h
     . rw[ht.out,h0]
    have hany:Hid (t=true->l.any p=true):=ai fun h0=>any_some hlt (by rw[<- NH hlt,ht.out,h0])
    clear hx hrow hp ht
    replace hcall:=ai hcall
    cases t
    . have hH2:=ai (hH'.out rfl)
      clear hH' hany hH
      go_wp2_with (first|(refine dX rfl 54 _ rfl b (off+k*40) rfl (NG (aQ l k)) _ Tryz.underlying54 rfl (by show _=some 40;kernel_rfl) hld.out ?_)|((with_reducible refine ax hcall.out ?_);rintro e w' ⟨rfl,hb'⟩;obtain⟨g1,rfl⟩:=g.next hb'))
      exact⟨⟨k+1,by omega,by go_num,hH2,g1,rfl⟩,by simp[intOf];omega⟩
    . have ha:=ai (hany.out rfl)
      clear hH' hany hH
      go_wp2_with (first|(refine dX rfl 54 _ rfl b (off+k*40) rfl (NG (aQ l k)) _ Tryz.underlying54 rfl (by show _=some 40;kernel_rfl) hld.out ?_)|((with_reducible refine ax hcall.out ?_);rintro e w' ⟨rfl,hb'⟩;obtain⟨g1,rfl⟩:=g.next hb'))
      go_ret
      exact⟨k,rfl,⟨fun _=>Int.natCast_nonneg k,fun _=>ha.out⟩,g1.h⟩
  . have hany:=ai (any_none (p:=p) (l:=l) fun j hj=>by rw[<- NH hj];exact hH.out j (by omega))
    go_wp2_with (fail)
    go_ret
    exact⟨-1,rfl,⟨(fun h=>by rw[hany.out] at h;cases h),(fun h=>absurd h (by decide))⟩,g.h⟩
theorem Wp (v:Value)(l:List DC)(p:DC->Bool)(nf:Nat)(nb:Array Value)(w:World)(hv:VW w v l)(en:∀args w,(callFunc nf args).run Tryz.prog w=.ok (.enter nf args) w)
    (hp:∀k,k<l.length->∀X,Below w.heap.size w X->Calls Tryz.prog nf (#[dcV (aQ l k)] ++ nb) X (dI (.bool (p (aQ l k))) X)) :
    Calls Tryz.prog 91 #[v,.func (.func nf) #[] nb] w (aB (l.any p) w):=by
 have hc:=ai (af9 v l p nf nb w hv en hp)
 obtain⟨a,cap,rfl,-,-⟩:=hv
 clear hp
 cases ht:l.any p
 all_goals
  replace ht:=ai ht
  go_enter Tryz.func91,Tryz.ntmps91
  go_wp2_with (go_at_call 140;refine ax hc.out ?_;rintro e w' ⟨n,rfl,hn,hb⟩;rw[ht.out] at hn;have hn':Hid (_↔(0:Int)<=n):=hn;clear hn)
  go_ret
  refine⟨_,rfl,?_,hb⟩
  have:=hn'.out
  simp at this
  show _=_
  simp[this]
end Go.Proofs.YtkjdidieiioijaaGreat.B
namespace Go.Proofs.YtkjdidieiioijaaGreat.B
open Go.RowKit Go.Sd Wl Bk L Tr
attribute [local go_sem] Oper.semAt_some
theorem afe {α:Type}{m:Nat}{enc:α->List Value}{d:α}{w:World}{a:Option Addr}{n cap:Nat}{xs:List α}(h:gG m enc d w (.slice a n cap) xs){k:Nat}(hk:k<=xs.length):gG m enc d w (.slice a k cap) (xs.take k):=by
 obtain⟨a',cap',he,hm,hc⟩:=h
 cases he
 have hl:(xs.take k).length=k:=by simp;omega
 refine⟨a,cap,by rw[hl],by rw[hl];omega,fun h0=>?_⟩
 rw[hl] at h0
 obtain⟨b,off,hb,hlt,hx⟩:=hc (by omega)
 refine⟨b,off,hb,hlt,fun j i u hj hu=>hx j i u (by rw[hl] at hj;omega) ?_⟩
 rw[hl] at hj
 rw[<- hu]
 simp[List.getElem?_take,hj]
theorem akr (l:List Int)(v:Value)(below:Int)(hbe : -1000<=below/\below<=1000)(w:World)(h:bK w v l):Calls Tryz.prog 151 #[v,.int .i64 below] w (aB (U8 l below) w):=by
 obtain⟨a,cap,rfl,hm,hc⟩:=h.form
 have hg:=az w
 clear h
 go_enter Tryz.func151,Tryz.ntmps151
 go_wp2_with (fail)
 go_loopw [9] (fun i wr=>∃k:Nat,k<=l.length/\i=.int .i64 k/\Hid (∀j,j<k->yD l below j=true)/\∃g:Grow w,wr=g.x) (fun i _=>l.length - (intOf i).toNat)
 case atStart=>exact⟨0,by omega,rfl,ai fun j h=>by omega,Grow.self w,rfl⟩
 case round =>
  obtain⟨k,hk,rfl,hH,g,rfl⟩:=hrel
  by_cases hlt:k<l.length
  . obtain⟨b,off,rfl,hbl,hx⟩:=hc (by omega)
    have c0:w.cell? ⟨b,off+k,none⟩=some (.int .i64 (Lk.at0 l k)):=by have h:=hx k 0 _ hlt rfl;rwa [Nat.mul_one,Nat.add_zero] at h
    have hki:(0:Int)<=(k:Int)/\(k:Int)<l.length:=by omega
    have ht0:Hid (yD l below k=(inB (Lk.at0 l k) 0 (below - 1) && (decide (k=0) || decide (Lk.at0 l (k - 1)<Lk.at0 l k)))):=rfl
    cases h1:inB (Lk.at0 l k) 0 (below - 1)
    . have hf:Hid (U8 l below=false):=ai (dV hlt (by rw[ht0.out,h1];rfl))
      clear hx hc ht0
      go_wp2_with (go_at_call 149;(with_reducible refine ax (fV (by assumption) _) ?_);rintro e w' ⟨rfl,rfl⟩)
      go_ret
      exact aB.mk hf.out g.h
    by_cases hk0:k=0
    . subst hk0
      have hf:Hid (yD l below 0=true):=ai (by rw[ht0.out,h1];rfl)
      have hH':Hid (∀j,j<0+1->yD l below j=true):=ai (fK hH.out hf.out)
      clear hx hc ht0
      simp only[Nat.add_zero] at c0
      go_wp2_with (go_at_call 149;(with_reducible refine ax (fV (by assumption) _) ?_);rintro e w' ⟨rfl,rfl⟩)
      exact⟨⟨0+1,by omega,by go_num,hH',g,rfl⟩,by simp[intOf];omega⟩
    have c1:w.cell? ⟨b,off+(k - 1),none⟩=some (.int .i64 (Lk.at0 l (k - 1))):=by have h:=hx (k - 1) 0 _ (by omega) rfl;rwa [Nat.mul_one,Nat.add_zero] at h
    have hkp:0<k:=by omega
    have hkq:decide (0<k)=true:=by simpa using hkp
    have hk1:(0:Int)<(k:Int)/\(0:Int)<=(k:Int) - 1/\(k:Int) - 1<l.length:=by omega
    cases d1:decide (Lk.at0 l k<=Lk.at0 l (k - 1))
    . have e1:Lk.at0 l (k - 1)<Lk.at0 l k:=by simpa using d1
      have hf:Hid (yD l below k=true):=ai (by rw[ht0.out,h1];simp[e1])
      have hH':Hid (∀j,j<k+1->yD l below j=true):=ai (fK hH.out hf.out)
      clear hx hc ht0
      go_wp2_with (go_at_call 149;(with_reducible refine ax (fV (by assumption) _) ?_);rintro e w' ⟨rfl,rfl⟩)
      exact⟨⟨k+1,by omega,by go_num,hH',g,rfl⟩,by simp[intOf];omega⟩
    . have e1:Lk.at0 l k<=Lk.at0 l (k - 1):=by simpa using d1
      have hf:Hid (U8 l below=false):=ai (dV hlt (by rw[ht0.out,h1];simp[hk0];omega))
      clear hx hc ht0
      go_wp2_with (go_at_call 149;(with_reducible refine ax (fV (by assumption) _) ?_);rintro e w' ⟨rfl,rfl⟩)
      go_ret
      exact aB.mk hf.out g.h
  . obtain rfl:k=l.length:=by omega
    have hf:Hid (U8 l below=true):=ai (pg fun j hj=>hH.out j hj)
    clear hH
    go_wp2_with (fail)
    go_ret
    exact aB.mk hf.out g.h
theorem ahA {w:World}{n:Nat}{a0 a1:Value}{e:TypeId}(h:w.heap[n]? = some (.cells #[a0,a1] e (0,0))):w.cell? ⟨n,0,none⟩=some a0/\w.cell? ⟨n,1,none⟩=some a1:=by
 have r:=(ah h).2.1
 exact⟨r 0,r 1⟩
theorem ahC {w:World}{n:Nat}{a0 a1 a2 a3 a4:Value}{e:TypeId}(h:w.heap[n]? = some (.cells #[a0,a1,a2,a3,a4] e (0,0))):w.cell? ⟨n,0,none⟩=some a0/\w.cell? ⟨n,1,none⟩=some a1/\w.cell? ⟨n,2,none⟩=some a2/\w.cell? ⟨n,3,none⟩=some a3/\w.cell? ⟨n,4,none⟩=some a4:=by
 have r:=(ah h).2.1
 exact⟨r 0,r 1,r 2,r 3,r 4⟩
theorem aqb (o:Wn)(y:Int)(a1:Value)(wb:Nat)(t:TypeId)(X:World)(hc:X.heap[wb]? = some (.cells #[.int .i64 y,a1] t (0,0))) :
    Calls Tryz.prog 186 #[wnV o,.pointer (some ⟨wb,0,none⟩)] X (dI (.bool (o.jO == y)) X):=by
 obtain⟨W,hW⟩:=aG (X.alloc (.cells #[.int .i64 o.jO,.bool o.is] 229))
 obtain⟨e,bW,z⟩:=boxedB hW
 obtain⟨c0,c1⟩:=ahA e
 have hcW:=ak bW hc
 obtain⟨d0,-⟩:=ahA hcW
 have zb:=(aF hcW)
 have G8:=ai bW
 clear e hc hcW bW
 go_enter Tryz.func186,Tryz.ntmps186
 go_wp2_with (fail)
 go_ret
 exact⟨rfl,G8.out⟩
theorem PG {n:Int}{l:List Wn}{k:Nat} : RP n l k=(inB (lN l k).jO 0 (n - 1) && !((l.take k).any fun o=>o.jO == (lN l k).jO)):=by
 unfold RP
 congr 3
theorem ahM (p:Mv)(wv:Value)(m:iY)(s x o:Value)(va:Option Addr)(vc:Nat)(hn:m.aA.length<=1000)(hs : -1000<=m.states/\m.states<=1000)(hcm : -1000<=m.cmds/\m.cmds<=1000)(w:World)(h:uD w wv p.wants)(hcp:PH wv) :
    Calls Tryz.prog 154 #[JG s (.slice va m.aA.length vc) x o m,mvV wv p] w (aB (Ai m.aA.length m.states m.cmds p) w):=by
 obtain⟨W1,hW1⟩:=aG (w.alloc (Nq s (.slice va m.aA.length vc) x o m))
 obtain⟨e1,b1,z1⟩:=boxedB hW1
 obtain⟨W,hW⟩:=aG (W1.alloc (mvO wv p))
 obtain⟨e,bW,z⟩:=boxedB hW
 obtain⟨q0,q1,q2,q3,q4⟩:=ahC e
 obtain⟨p0,p1,p2,p3,p4,p5,p6⟩:=Jf (ak bW e1)
 have nS:=ai ((h.mono b1).mono bW)
 obtain⟨a,cap,rfl,hm,hc⟩:=((h.mono b1).mono bW).form
 have hBw:=ai (aj b1 bW)
 have hcap:p.wants.length<=cap:=hcp _ _ _ rfl
 have hg:=az W
 have zz:w.heap.size<W.heap.size:=by omega
 have hrow:Hid (0<p.wants.length->_):=ai hc
 clear e bW e1 b1 h hc
 go_enter Tryz.func154,Tryz.ntmps154
 go_wp2_with (fail)
 go_loopw [10] (fun i wr=>∃k:Nat,k<=p.wants.length/\i=.int .i64 k/\Hid (∀j,j<k->RP m.aA.length p.wants j=true)/\∃g:Grow W,wr=g.x) (fun i _=>p.wants.length - (intOf i).toNat)
 case atStart=>exact⟨0,by omega,rfl,ai fun j h=>by omega,Grow.self W,rfl⟩
 case round =>
  obtain⟨k,hk,rfl,hH,g,rfl⟩:=hrel
  by_cases hlt:k<p.wants.length
  . obtain⟨b,off,rfl,hbl,hx⟩:=hrow.out (by omega)
    have c0:W.cell? ⟨b,off+k*2,none⟩=some (.int .i64 (lN p.wants k).jO):=hx k 0 _ hlt rfl
    have c1:W.cell? ⟨b,off+k*2+1,none⟩=some (.bool (lN p.wants k).is):=hx k 1 _ hlt rfl
    have hki:(0:Int)<=(k:Int)/\(k:Int)<p.wants.length/\(k:Int)<=cap/\k<=cap:=by omega
    obtain⟨g2,hg2⟩:=g.alloc (.cells #[.int .i64 (lN p.wants k).jO,.bool (lN p.wants k).is] 229)
    have hn2:=World.alloc_heap_new g.x (.cells #[.int .i64 (lN p.wants k).jO,.bool (lN p.wants k).is] 229)
    rw[hg2] at hn2
    obtain⟨n0,n1⟩:=ahA hn2
    have zn:=(aF hn2)
    have hnh:=ai hn2
    have hnv:(0:Int)<=(m.aA.length:Int)/\(m.aA.length:Int)<=1000:=by omega
    clear hx hn2
    cases h1:inB (lN p.wants k).jO 0 ((m.aA.length:Int) - 1)
    . have hf:Hid (Ai m.aA.length m.states m.cmds p=false):=ai (by unfold Ai wnB;rw[dV hlt (by rw[PG,h1];rfl)];rfl)
      go_wp2_with (go_at_call 149;(with_reducible refine ax (fV (by assumption) _) ?_);rintro e w' ⟨rfl,rfl⟩)
      go_ret
      exact aB.mk hf.out (aj hBw.out g2.h)
    have kC:Hid (Calls Tryz.prog 185 #[.slice (some ⟨b,off,none⟩) k cap,.func (.func 186) #[] #[.pointer (some ⟨g.x.heap.size,0,none⟩)]] g2.x (aB ((p.wants.take k).any fun o=>o.jO == (lN p.wants k).jO) g2.x)) :=
     ai (Wu _ (p.wants.take k) (fun o=>o.jO == (lN p.wants k).jO) 186 #[.pointer (some ⟨g.x.heap.size,0,none⟩)] g2.x (afe (nS.out.mono g2.h) hk) (fun args w=>by kernel_rfl) fun d _ X hX=>aqb d _ _ _ _ X (ak hX hnh.out))
    cases h2:(p.wants.take k).any fun o=>o.jO == (lN p.wants k).jO
    . have hf:Hid (RP m.aA.length p.wants k=true):=ai (by rw[PG,h1,h2];rfl)
      have hH':Hid (∀j,j<k+1->RP m.aA.length p.wants j=true):=ai (fK hH.out hf.out)
      rw[h2] at kC
      replace h2:=ai h2
      go_wp2_with (first|(go_at_call 149;(with_reducible refine ax (fV (by assumption) _) ?_);rintro e w' ⟨rfl,rfl⟩)|(go_at_call 185;(with_reducible refine ax kC.out ?_);rintro e w3 ⟨t3,rfl,ht3,hB3⟩;(have ht4:=ht3.out);clear ht3;subst ht4;obtain⟨g3,rfl⟩:=g2.next hB3))
      exact⟨⟨k+1,by omega,by go_num,hH',g3,rfl⟩,by simp[intOf];omega⟩
    . have hf:Hid (Ai m.aA.length m.states m.cmds p=false):=ai (by unfold Ai wnB;rw[dV hlt (by rw[PG,h1,h2];rfl)];rfl)
      rw[h2] at kC
      replace h2:=ai h2
      go_wp2_with (first|(go_at_call 149;(with_reducible refine ax (fV (by assumption) _) ?_);rintro e w' ⟨rfl,rfl⟩)|(go_at_call 185;(with_reducible refine ax kC.out ?_);rintro e w3 ⟨t3,rfl,ht3,hB3⟩;(have ht4:=ht3.out);clear ht3;subst ht4;obtain⟨g3,rfl⟩:=g2.next hB3))
      go_ret
      exact aB.mk hf.out (aj hBw.out g3.h)
  . obtain rfl:k=p.wants.length:=by omega
    have hf:Hid (wnB m.aA.length p.wants=true):=ai (pg fun j hj=>hH.out j hj)
    clear hH hrow
    cases h1:inB p.src 0 (m.states - 1)
    . have hr:Hid (Ai m.aA.length m.states m.cmds p=false):=ai (by unfold Ai;simp[h1])
      go_wp2_with (go_at_call 149;(with_reducible refine ax (fV (by assumption) _) ?_);rintro e w' ⟨rfl,rfl⟩)
      go_ret
      exact aB.mk hr.out (aj hBw.out g.h)
    cases h2:inB p.dst 0 (m.states - 1)
    . have hr:Hid (Ai m.aA.length m.states m.cmds p=false):=ai (by unfold Ai;simp[h2])
      go_wp2_with (go_at_call 149;(with_reducible refine ax (fV (by assumption) _) ?_);rintro e w' ⟨rfl,rfl⟩)
      go_ret
      exact aB.mk hr.out (aj hBw.out g.h)
    by_cases h3:p.wants.length<=6
    case neg =>
     have hr:Hid (Ai m.aA.length m.states m.cmds p=false):=ai (by unfold Ai;simp[h3])
     have h3':(6:Int)<p.wants.length:=by omega
     go_wp2_with (go_at_call 149;(with_reducible refine ax (fV (by assumption) _) ?_);rintro e w' ⟨rfl,rfl⟩)
     go_ret
     exact aB.mk hr.out (aj hBw.out g.h)
    have h3':(p.wants.length:Int)<=6:=by omega
    cases h4:inB p.cmd (-1) (m.cmds - 1)
    . have hr:Hid (Ai m.aA.length m.states m.cmds p=false):=ai (by unfold Ai;simp[h4])
      go_wp2_with (go_at_call 149;(with_reducible refine ax (fV (by assumption) _) ?_);rintro e w' ⟨rfl,rfl⟩)
      go_ret
      exact aB.mk hr.out (aj hBw.out g.h)
    obtain⟨t5,h5⟩:=aG (inB p.after 0 10)
    have hr:Hid (Ai m.aA.length m.states m.cmds p=t5):=ai (by unfold Ai;simp[hf.out,h1,h2,h3,h4,h5])
    go_wp2_with (go_at_call 149;(with_reducible refine ax (fV (by assumption) _) ?_);rintro e w' ⟨rfl,rfl⟩)
    go_ret
    exact aB.mk hr.out (aj hBw.out g.h)
