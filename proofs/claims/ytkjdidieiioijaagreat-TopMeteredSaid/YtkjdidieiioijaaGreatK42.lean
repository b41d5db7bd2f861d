/- Walks. -/
import Derived.Test.YtkjdidieiioijaaGreatK37
import Derived.Test.YtkjdidieiioijaaGreatK38
import Derived.Test.YtkjdidieiioijaaGreatK41
set_option linter.all false
set_option maxRecDepth 100000
set_option maxHeartbeats 16000000
namespace Go.Proofs.YtkjdidieiioijaaGreat.B
open Go.RowKit Go.Sd Wl Bk L Tr Dk
theorem ajJ {m:iY}(h:m.ok=true):0<=m.begin/\m.begin<m.opn.length:=by
 unfold iY.ok at h
 simp only[Bool.and_eq_true,iY.headB,Wl.inB,decide_eq_true_eq] at h
 omega
theorem Zo {m m':iY}(h:Ar m m'):oW m'=oW m:=by unfold oW;rw[h.opn,h.beg]
def flw (wk:Wk):Bool:=oQ (aQ wk.aW 0).we (aQ wk.aW 0).line && oW (aQ wk.aW 0).m
structure OpF (wk:Wk)(r:ND)(ds:List DC)(rs:List Rm):Prop where
 h0:0<rs.length
 c:(aQ ds 0).c=(aQ wk.aW 0).c
 s:(ny rs 0).s=(aQ wk.aW 0).s
 we:(ny rs 0).we=(aQ wk.aW 0).we
 ok:(aQ wk.aW 0).we.Ok
 line:2<=(aQ ds 0).line/\(aQ ds 0).line<=(aQ wk.aW 0).we.aS - 1
 beg:0<=(aQ ds 0).m.begin/\(aQ ds 0).m.begin<(aQ ds 0).m.opn.length
 opn:(aQ ds 0).m.opn.length<=8
 came:(ny rs 0).came=0
 fl:(oQ (aQ wk.aW 0).we (aQ ds 0).line && oW (aQ ds 0).m)=flw wk
theorem opF {wk:Wk}{B d:Nat}{r:ND}{ds:List DC}{rs:List Rm}{w:World}(hD:ed B d r ds rs w)(hI:Rw wk r ds rs)(hb:nU wk)(ok:wk.ok=true):OpF wk r ds rs:=by
 obtain⟨⟨h1,-,-⟩,hk⟩:=Ui ok
 have s0:=hI.same 0 (by omega)
 have q0:=hI.rms 0 (by omega)
 have k0:=Wx (hk 0 (by omega))
 have hl:=k0.2.2.2.1
 simp only[Wl.inB,Bool.and_eq_true,decide_eq_true_eq] at hl
 have hm:=ajJ k0.2.2.2.2
 refine⟨by rw[hD.Yf,hI.len];omega,s0.c,q0.1,q0.2.1,We.agH k0.2.2.1,by rw[s0.line];exact hl,by rw[s0.m.beg,s0.m.opn];exact hm,by rw[s0.m.opn];exact(hb.Rq 0 (by omega)).opn,q0.2.2,?_⟩
 unfold flw
 rw[s0.line,Zo s0.m]
theorem adA {wk:Wk}{B d:Nat}{r:ND}{ds:List DC}{rs:List Rm}(hb:nU wk)(ok:wk.ok=true)(hI:Rw wk r ds rs)(ay dm:Int)(hm:0<=ay/\ay<=2000000)(hkk : -1000000000<=dm/\dm<=1000000000)(w:World)(h:ed B d r ds rs w):Calls Tryz.prog 9 #[.pointer (some ⟨d,0,none⟩),.int .i64 0,.int .i64 ay,.int .i64 dm] w fun e w'=>e=.returned (.int .i64 (tJ (flw wk) (aQ wk.aW 0).c (aQ wk.aW 0).s ay dm))/\(tJ (flw wk) (aQ wk.aW 0).c (aQ wk.aW 0).s ay dm≠0->Below w.heap.size w w')/\Kept (fun j=>j≠d/\r.rv.ownBlock≠some j) w w':=by
 have f:=opF h hI hb ok
 have k:=aia ay dm hm hkk w h f.h0 _ f.c _ f.s _ f.we f.ok f.line f.beg f.opn hI.acts hI.Xi f.came
 rw[f.fl] at k
 exact k
theorem aac {wk:Wk}{B d:Nat}{r:ND}{ds:List DC}{rs:List Rm}(hb:nU wk)(ok:wk.ok=true)(hI:Rw wk r ds rs)(s:bz.St)(hs:(aQ wk.aW 0).s=s)(w:World)(h:ed B d r ds rs w):Calls Tryz.prog 10 #[.pointer (some ⟨d,0,none⟩),.int .i64 0] w fun e w'=>∃(a b:Int)(f:Bool)(st ag op:Int),e=.returned (.tuple #[.agg #[.int .i64 s.dB,.int .i64 s.dK,.int .i64 s.di,.int .i64 s.dE,.int .i64 s.gK,.int .i64 s.gJ,.int .i64 s.wlo,.int .i64 s.whi,.int .i64 a,.int .i64 b,.bool f,.int .i64 st,.int .i64 ag,.int .i64 op],.int .i64 0])/\Below w.heap.size w w':=by
 have f:=opF h hI hb ok
 obtain⟨⟨-,h2,h3⟩,-⟩:=Ui ok
 exact ae9 w h f.h0 _ f.c s (f.s.trans hs) _ f.we f.ok f.line f.beg f.opn (by rw[hI.k];exact h2) (by rw[hI.k];exact h3)
theorem ed.apart {B C d d':Nat}{r r':ND}{ds ds':List DC}{rs rs':List Rm}{w w':World}(h:ed B d r ds rs w)(h':ed C d' r' ds' rs' w)(hd:d<C)(hr:∀j,r.rv.ownBlock=some j->j<C)(hk:Kept (fun j=>j≠d/\r.rv.ownBlock≠some j) w w'):ed C d' r' ds' rs' w' :=
 h'.keep (hk.mono fun j _ (hj:C<=j)=>⟨by omega,fun e=>by have:=hr j e;omega⟩)
attribute [local go_sem] Oper.semAt_some
theorem Jt (ty:TypeId){ops:Array Oper}{rest:List Oper}{d:Option Tmp}{x:Operand}{t:TypeId}{p:String}{af:Array Edge}{a:Act}{w:World}{Q:Exit->Act->World->Prop}(h:wpList Tryz.prog ops Q ({ dst:=d,op:=.load ty x,type:=t,pos:=p,after:=af,guard:=none } :: rest) a w):wpList Tryz.prog ops Q ({ dst:=d,op:=.load ty x,type:=t,pos:=p,after:=af,guard:=none } :: rest) a w:=h
theorem CU (ty:TypeId){ops:Array Oper}{rest:List Oper}{x y:Operand}{t:TypeId}{p:String}{af:Array Edge}{a:Act}{w:World}{Q:Exit->Act->World->Prop}(h:wpList Tryz.prog ops Q ({ dst:=none,op:=.store ty x y,type:=t,pos:=p,after:=af,guard:=none } :: rest) a w):wpList Tryz.prog ops Q ({ dst:=none,op:=.store ty x y,type:=t,pos:=p,after:=af,guard:=none } :: rest) a w:=h
structure aex (d:DC):Prop where
 parts:d.we.parts.length<=12
 aO:d.m.aO.length<=6
 aA:d.m.aA.length<=6
 moves:d.m.moves.length<=20
 opn:d.m.opn.length<=8
 br:d.m.brB=true
def Uk (wk:Wk)(w:World)(e:Ending)(w':World):Prop:=Below w.heap.size w w'/\(e=.returned (.pointer none)\/(nU wk/\wk.ok=true/\∃d r ds rs,e=.returned (.pointer (some ⟨d,0,none⟩))/\ed w.heap.size d r ds rs w'/\Rw wk r ds rs))
theorem Uk.none {wk:Wk}{w w':World}(h:Below w.heap.size w w'):Uk wk w (.returned (.pointer none)) w':=⟨h,.inl rfl⟩
theorem agM (wk:Wk)(cv vv:Value)(w:World)(h:PR w cv vv wk):Calls Tryz.prog 5 #[wkV cv vv wk] w (Uk wk w):=by
 obtain⟨W,hW⟩:=aG (w.alloc (wkO cv vv wk))
 obtain⟨e,bW,z⟩:=boxedB hW
 obtain⟨q0,q1,q2,q3,q4,q5,q6,q7,q8,q9⟩:=uu e
 have nS:=ai (h.mono bW)
 have eh:=ai e
 obtain⟨ca,cc,hcv,hcm,-⟩:=h.cons.els
 obtain⟨va,vc,hvv,hvm,-⟩:=h.aW.els
 obtain⟨cn,hcn⟩:=aG (wk.st.cons.length)
 obtain⟨vn,hvn⟩:=aG (wk.aW.length)
 rw[hcn] at hcv hcm
 rw[hvn] at hvv hvm
 subst hcv hvv
 unfold maxLen at hcm hvm
 have hBw:=ai bW
 have hg:=az W
 have hrow:Hid (0<wk.aW.length->_):=ai (yB nS.out.aW.els)
 have hcw:iP W (.slice ca wk.st.cons.length cc) wk.st.cons:=by rw[hcn];exact nS.out.cons
 have ak':Hid (0<wk.st.cons.length->_):=ai (yA hcw)
 have hrt:=ai hcw.rts
 replace hcn:=ai hcn
 replace hvn:=ai hvn
 have hcm':(0:Int)<=(cn:Int)/\(cn:Int)<=9223372036854775807:=by omega
 have awY:(0:Int)<=(vn:Int)/\(vn:Int)<=9223372036854775807:=by omega
 clear e bW h hcw
 rcases Nat.lt_or_ge 3 vn with l1|l1
 . have l1':(3:Int)<(vn:Int):=by omega
   go_enter Tryz.func5,Tryz.ntmps5
   go_wp2_with (fail)
   go_ret
   exact .none hBw.out
 have l1':(vn:Int)<=3:=by omega
 rcases Nat.lt_or_ge 8 cn with l2|l2
 . have l2':(8:Int)<(cn:Int):=by omega
   go_enter Tryz.func5,Tryz.ntmps5
   go_wp2_with (fail)
   go_ret
   exact .none hBw.out
 have l2':(cn:Int)<=8:=by omega
 go_enter Tryz.func5,Tryz.ntmps5
 go_wp2_with (fail)
 go_loopw [3] (fun i wr=>∃k:Nat,k<=vn/\i=.int .i64 k/\Hid (∀j,j<k->aex (aQ wk.aW j))/\∃g:Grow W,wr=g.x) (fun i _=>vn - (intOf i).toNat)
 case atStart=>exact⟨0,by omega,rfl,ai fun j h=>by omega,Grow.self W,rfl⟩
 case round =>
  obtain⟨k,hk,rfl,hH,g,rfl⟩:=hrel
  by_cases hlt:k<vn
  . obtain⟨b,off,cap',he,hbl,hx⟩:=hrow.out (by rw[hvn.out];omega)
    simp only[Value.slice.injEq] at he
    obtain⟨rfl,-,rfl⟩:=he
    have hki:(0:Int)<=(k:Int)/\(k:Int)<(vn:Int):=by omega
    have hkc:k<wk.aW.length:=by rw[hvn.out];exact hlt
    have hld:=hx k hkc g.x g.h
    have aa0:=nS.out.aW.ins k hkc
    obtain⟨q,hq⟩:=aG (aQ wk.aW k)
    rw[hq] at hld aa0
    replace hld:=ai hld
    have hone:=ai (acM.one aa0.sl)
    clear hx
    obtain⟨g2,hg2⟩:=g.alloc (dcO q)
    have hn:=World.alloc_heap_new g.x (dcO q)
    rw[hg2] at hn
    have hins:=aa0.mono g2.h
    have zn:=(aF hn)
    obtain⟨n0,n1,n2,n3,n4,n5,n6,n7,n8,n9,n10,n11,n12,n13,n14,n15,n16,n17,n18,n19,n20,n21,n22,n23,n24,n25,n26,n27,n28,n29,n30,n31,n32,n33,n34,n35,n36,n37,n38,n39⟩:=Me hn
    have kM:=ah_ q.m q.sv q.vv q.mv q.ov g2.x hins.Rq
    obtain⟨pa,pc,hp,hp2,-⟩:=hins.parts
    obtain⟨sa,sc,hs,hs2,-⟩:=hins.Rq.aO
    obtain⟨ta,tc,ht,ht2,-⟩:=hins.Rq.aA.els
    obtain⟨ma,mc,hmv,hm2,-⟩:=hins.Rq.moves.els
    obtain⟨oa,oc,ho,ho2,-⟩:=hins.Rq.opn
    unfold maxLen at hp2 hs2 ht2 hm2 ho2
    obtain⟨pn,hpn⟩:=aG (q.we.parts.length)
    obtain⟨sn,hsn⟩:=aG (q.m.aO.length)
    obtain⟨tn,htn⟩:=aG (q.m.aA.length)
    obtain⟨mn,hmn⟩:=aG (q.m.moves.length)
    obtain⟨on,hon⟩:=aG (q.m.opn.length)
    rw[hpn] at hp hp2
    rw[hsn] at hs hs2
    rw[htn] at ht ht2
    rw[hmn] at hmv hm2
    rw[hon] at ho ho2
    rw[hp] at n31
    rw[hs] at n33
    rw[ht] at n34
    rw[hmv] at n35
    rw[ho] at n39
    rw[hs,ht,hmv,ho] at kM
    replace kM:=ai kM
    have hall:=ai (show q.we.parts.length=pn/\q.m.aO.length=sn/\q.m.aA.length=tn/\q.m.moves.length=mn/\q.m.opn.length=on from⟨hpn,hsn,htn,hmn,hon⟩)
    have hqh:=ai hq
    clear hn hins aa0 hpn hsn htn hmn hon hp hs ht hmv ho hq
    rcases Nat.lt_or_ge 12 pn with c0|c0
    . have c0':(12:Int)<(pn:Int):=by omega
      go_wp2_with (first|((with_reducible refine Jt 54 ?_);refine dX rfl 54 _ rfl b (off+k*40) rfl (NG q) _ Tryz.underlying54 rfl (by show _=some 40;kernel_rfl) hld.out ?_)|((with_reducible refine CU 54 ?_);refine fA rfl 54 _ _ rfl rfl rfl (NG q) rfl _ _ (by show _=some 40;kernel_rfl) rfl hone.out ?_))
      go_ret
      exact .none (aj hBw.out g2.h)
    have c0':(pn:Int)<=12:=by omega
    rcases Nat.lt_or_ge 6 sn with c1|c1
    . have c1':(6:Int)<(sn:Int):=by omega
      go_wp2_with (first|((with_reducible refine Jt 54 ?_);refine dX rfl 54 _ rfl b (off+k*40) rfl (NG q) _ Tryz.underlying54 rfl (by show _=some 40;kernel_rfl) hld.out ?_)|((with_reducible refine CU 54 ?_);refine fA rfl 54 _ _ rfl rfl rfl (NG q) rfl _ _ (by show _=some 40;kernel_rfl) rfl hone.out ?_))
      go_ret
      exact .none (aj hBw.out g2.h)
    have c1':(sn:Int)<=6:=by omega
    rcases Nat.lt_or_ge 6 tn with c2|c2
    . have c2':(6:Int)<(tn:Int):=by omega
      go_wp2_with (first|((with_reducible refine Jt 54 ?_);refine dX rfl 54 _ rfl b (off+k*40) rfl (NG q) _ Tryz.underlying54 rfl (by show _=some 40;kernel_rfl) hld.out ?_)|((with_reducible refine CU 54 ?_);refine fA rfl 54 _ _ rfl rfl rfl (NG q) rfl _ _ (by show _=some 40;kernel_rfl) rfl hone.out ?_))
      go_ret
      exact .none (aj hBw.out g2.h)
    have c2':(tn:Int)<=6:=by omega
    rcases Nat.lt_or_ge 20 mn with c3|c3
    . have c3':(20:Int)<(mn:Int):=by omega
      go_wp2_with (first|((with_reducible refine Jt 54 ?_);refine dX rfl 54 _ rfl b (off+k*40) rfl (NG q) _ Tryz.underlying54 rfl (by show _=some 40;kernel_rfl) hld.out ?_)|((with_reducible refine CU 54 ?_);refine fA rfl 54 _ _ rfl rfl rfl (NG q) rfl _ _ (by show _=some 40;kernel_rfl) rfl hone.out ?_))
      go_ret
      exact .none (aj hBw.out g2.h)
    have c3':(mn:Int)<=20:=by omega
    rcases Nat.lt_or_ge 8 on with c4|c4
    . have c4':(8:Int)<(on:Int):=by omega
      go_wp2_with (first|((with_reducible refine Jt 54 ?_);refine dX rfl 54 _ rfl b (off+k*40) rfl (NG q) _ Tryz.underlying54 rfl (by show _=some 40;kernel_rfl) hld.out ?_)|((with_reducible refine CU 54 ?_);refine fA rfl 54 _ _ rfl rfl rfl (NG q) rfl _ _ (by show _=some 40;kernel_rfl) rfl hone.out ?_))
      go_ret
      exact .none (aj hBw.out g2.h)
    have c4':(on:Int)<=8:=by omega
    go_wp2_with (first|((with_reducible refine Jt 54 ?_);refine dX rfl 54 _ rfl b (off+k*40) rfl (NG q) _ Tryz.underlying54 rfl (by show _=some 40;kernel_rfl) hld.out ?_)|((with_reducible refine CU 54 ?_);refine fA rfl 54 _ _ rfl rfl rfl (NG q) rfl _ _ (by show _=some 40;kernel_rfl) rfl hone.out ?_))
    refine ax kM.out ?_
    rintro e w3 ⟨tb,rfl,htb,hB3⟩
    have lK:=aj g2.h hB3
    cases tb
    . go_wp2_with (fail)
      go_ret
      exact .none (aj hBw.out lK)
    . obtain⟨g3,rfl⟩:=g2.next hB3
      have hH':Hid (∀j,j<k+1->aex (aQ wk.aW j)):=ai fun j hj=>by
       rcases Nat.lt_succ_iff_lt_or_eq.1 hj with h|h
       . exact hH.out j h
       . rw[h,hqh.out];exact⟨by rw[hall.out.1];exact c0,by rw[hall.out.2.1];exact c1,by rw[hall.out.2.2.1];exact c2,by rw[hall.out.2.2.2.1];exact c3,by rw[hall.out.2.2.2.2];exact c4,htb.out⟩
      go_wp2_with (fail)
      exact⟨⟨k+1,by omega,by go_num,hH',g3,rfl⟩,by simp[intOf];omega⟩
  . obtain rfl:k=vn:=by omega
    have hsh:=hH
    clear hH hrow
    go_wp2_with (fail)
    go_loopw [5] (fun i wr=>∃k:Nat,k<=cn/\i=.int .i64 k/\Hid (∀j,j<k->(aK wk.st.cons j).2.aC.length<=10)/\∃g:Grow W,wr=g.x) (fun i _=>cn - (intOf i).toNat)
    case atStart=>exact⟨0,by omega,rfl,ai fun j h=>by omega,g,rfl⟩
    case round =>
     obtain⟨j,hj,rfl,hH,g,rfl⟩:=hrel
     by_cases hlt:j<cn
     . obtain⟨b,off,rfl,hblt,hx⟩:=ak'.out (by rw[hcn.out];omega)
       have hjc:j<wk.st.cons.length:=by rw[hcn.out];exact hlt
       obtain⟨-,-,-,-,x4,-⟩:=hx j hjc
       obtain⟨ra,rc,hrv,hrm,-⟩:=hrt.out j hjc
       obtain⟨rn,hrn⟩:=aG ((aK wk.st.cons j).2.aC.length)
       unfold maxLen at hrm
       rw[hrv,hrn] at x4
       rw[hrn] at hrm
       have hji:(0:Int)<=(j:Int)/\(j:Int)<(cn:Int):=by omega
       replace hrn:=ai hrn
       clear hx hrv
       by_cases d:rn<=10
       . have d':(rn:Int)<=10:=by omega
         have hH':Hid (∀i,i<j+1->(aK wk.st.cons i).2.aC.length<=10):=ai fun i hi=>by
          rcases Nat.lt_succ_iff_lt_or_eq.1 hi with h|h
          . exact hH.out i h
          . rw[h,hrn.out];exact d
         go_wp2_with (fail)
         exact⟨⟨j+1,by omega,by go_num,hH',g,rfl⟩,by simp[intOf];omega⟩
       . have d':(10:Int)<(rn:Int):=by omega
         go_wp2_with (fail)
         go_ret
         exact .none (aj hBw.out g.h)
     . obtain rfl:j=cn:=by omega
       have hbr:Hid (nU wk):=ai ⟨by rw[hvn.out];exact l1,by rw[hcn.out];exact l2,fun i hi=>(hsh.out i (by rw[<- hvn.out];exact hi)).br |> fun hb=>iY.aeK hb (hsh.out i (by rw[<- hvn.out];exact hi)).aO (hsh.out i (by rw[<- hvn.out];exact hi)).aA (hsh.out i (by rw[<- hvn.out];exact hi)).moves (hsh.out i (by rw[<- hvn.out];exact hi)).opn,fun i hi=>(hsh.out i (by rw[<- hvn.out];exact hi)).parts,fun i hi=>hH.out i (by rw[<- hcn.out];exact hi)⟩
       have kW:=ai (akC wk _ _ g.x (nS.out.mono g.h) hbr.out)
       have kO:=ai fun(X:World) (hX:Below W.heap.size W X)=>WC wk _ _ X (nS.out.mono hX) hbr.out
       clear hH ak' hrt hsh
       go_wp2_with (fail)
       refine ax kW.out ?_
       rintro e w2 ⟨tw,rfl,hB2⟩
       obtain⟨g2,rfl⟩:=g.next hB2
       have hX2:=g2.h
       cases tw
       . go_wp2_with (fail)
         go_ret
         exact .none (aj hBw.out hX2)
       . go_wp2_with (fail)
         refine ax (kO.out _ hX2) ?_
         rintro e w3 ⟨hB3,hor⟩
         rcases hor with ⟨hok,rfl⟩|⟨hok,d,r,ds,rs,rfl,hD,hI⟩
         . replace hok:=ai hok
           go_wp2_with (fail)
           go_ret
           exact .none (aj hBw.out (aj hX2 hB3))
         . have hok':=ai hok
           have Lc:=ai hD
           have hIh:=ai hI
           clear hok hD hI
           go_wp2_with (fail)
           go_ret
           exact⟨aj hBw.out (aj hX2 hB3),.inr ⟨hbr.out,hok'.out,d,r,ds,rs,rfl,⟨Nat.le_trans (aj hBw.out hX2).size Lc.out.le,Lc.out.row,Lc.out.len,Lc.out.caps,Lc.out.dcs.weak (aj hBw.out hX2).size,iw (aj hBw.out hX2).size Lc.out.aS,Lc.out.Yf,fun j hj=>(Lc.out.parts j hj).weak (aj hBw.out hX2).size,fun j hj=>(Lc.out.stops j hj).weak (aj hBw.out hX2).size,Lc.out.agG⟩,hIh.out⟩⟩
end Go.Proofs.YtkjdidieiioijaaGreat.B
namespace Wl
def FH:We:=⟨5,2,[⟨0,2,true,false,100,180,false,2,30⟩,⟨2,4,true,false,100,90,false,1,10⟩,⟨4,1,true,false,150,365,false,1,10⟩,⟨0,3,false,false,0,1000,false,5,90⟩,⟨3,1,false,false,0,1000,false,5,60⟩,⟨2,3,false,false,0,300,false,5,80⟩]⟩
end Wl
namespace Go.Proofs.YtkjdidieiioijaaGreat.B
open Go.RowKit Go.Sd Wl L
attribute [local go_sem] Oper.semAt_some
theorem ao5:(FH.ok && inB 281 0 5000)=true:=by decide
theorem al_ {n:Int}(h:aag FH 281 n):n=1:=by
 obtain⟨N,D,h1,h2⟩:=h
 have h3:=Zm (tight:=oI (JJ FH 281)) (l:=FH.parts) (s:=(yT FH.aS.toNat 0,[0])) (n:=N) (m:=20) (by rw[h1]) (by decide +kernel)
 rw[h1] at h3
 have h4:at0 (qN (oI (JJ FH 281)) FH.parts 20 (yT FH.aS.toNat 0,[0])).1 1=1:=by decide +kernel
 rw[<- h3] at h4
 have h5:at0 D 1=1:=h4
 rw[h5] at h2
 simpa using h2
theorem ama {n st:Int}(h:aak FH 281 n st):n=1/\st=0:=by
 rcases h with ⟨-,h,hs⟩|⟨h,-⟩
 . exact⟨al_ h,hs⟩
 . rw[ao5] at h;cases h
theorem ZJ (w:World):Calls Tryz.prog 16 #[] w fun e w'=>∃pv,e=.returned (weV pv FH)/\Hid (mY w' pv FH.parts)/\Below w.heap.size w w':=by
 go_enter Tryz.func16,Tryz.ntmps16
 go_wp2
 generalize hW:(w.alloc _).alloc _=W
 generalize hW1:w.alloc _=W1 at hW
 obtain⟨e1,b1,z1⟩:=boxedB hW1
 obtain⟨e2,b2,z2⟩:=boxedB hW
 have hz:W1.heap.size=w.heap.size+1:=by rw[<- hW1];simp
 obtain⟨a0,a1,a2⟩:=row3 (ak b2 e1)
 have hp:mY W (.slice (some ⟨w.heap.size+1,0,none⟩) 6 6) FH.parts:=by
  refine⟨_,6,rfl,by decide,fun _=>⟨w.heap.size+1,0,rfl,by omega,?_⟩⟩
  rw[hz] at e2
  have d:=(ah e2).2.1
  intro k i u hk hu
  have hk':k=0\/k=1\/k=2\/k=3\/k=4\/k=5:=by
   have h6:k<6:=hk
   omega
  have hi:=(List.getElem?_eq_some_iff.1 hu).1
  have hi':i=0\/i=1\/i=2\/i=3\/i=4\/i=5\/i=6\/i=7\/i=8:=by
   have h9:i<9:=hi
   omega
  rw[d,<- hu]
  clear hu d e2 e1 hW hW1 a0 a1 a2 b1 b2 z1 z2 hz
  rcases hk' with rfl|rfl|rfl|rfl|rfl|rfl <;> rcases hi' with rfl|rfl|rfl|rfl|rfl|rfl|rfl|rfl|rfl <;> rfl
 exact bodyPost_ret (v:=weV (.slice (some ⟨w.heap.size+1,0,none⟩) 6 6) FH) (by simp[results,Tryz.results16,go_sem,a0,a1,a2];exact⟨rfl,rfl⟩) rfl ⟨_,rfl,ai hp,aj b1 b2⟩
theorem Xv (pv:Value)(w:World)(hp:mY w pv FH.parts):Calls Tryz.prog 15 #[weV pv FH,.int .i64 281] w fun e w'=>e=.returned (.tuple #[.int .i64 1,.int .i64 0])/\Below w.heap.size w w' :=
 (QE FH pv 281 w hp).mono fun e w' ⟨n,st,he,hr,hB⟩=>by
  obtain⟨h1,h2⟩:=ama hr.out
  exact⟨by rw[he,h1,h2],hB⟩
end Go.Proofs.YtkjdidieiioijaaGreat.B
namespace bz
def exC:d_:=⟨1000,1100,2000,9000,900,1000,36,29,3200,0,100⟩
def exS:St:=⟨2000,2100,100,110,3000,3100,50000,60000⟩
end bz
namespace Go.Proofs.YtkjdidieiioijaaGreat.G
open Go.RowKit Go.Sd bz
theorem aty (w:World):Calls Tryz.prog 13 #[] w fun e w'=>e=.returned (gm exC)/\Below w.heap.size w w':=by
 obtain⟨W,hW⟩:=aG (w.alloc (.cells #[.int .i64 0,.int .i64 0,.int .i64 0,.int .i64 0,.int .i64 0,.int .i64 0,.int .i64 0,.int .i64 0,.int .i64 0,.int .i64 0,.int .i64 0] 38))
 obtain⟨aJ,f_,iC⟩:=boxed hW
 have hBw:Below w.heap.size w W:=f_
 obtain⟨qK,jQ,jR⟩:=ah aJ
 obtain⟨eG,eH,fP,fQ,gV,gW,gX,gY,je,jf,iR⟩:=bJ aJ
 obtain⟨ja,jb,jy,jA,jB,jC,jD,jE,mP,mQ,mX⟩:=ni aJ
 clear jQ jR aJ
 have yL:w.heap.size<=w.heap.size:=by omega
 clear f_ iC
 go_enter Tryz.func13,Tryz.ntmps13
 go_wp2
 refine bodyPost_ret (v:=gm exC) (by simp[results,Tryz.results13,go_sem,exC, *]) rfl ⟨rfl,?_⟩
 repeat' (first|(with_reducible exact hBw)|(with_reducible exact Nat.le_refl _)|(with_reducible refine Below.setCell ?_ ?_ _))
theorem atz (w:World):Calls Tryz.prog 14 #[] w fun e w'=>e=.returned (jF exS)/\Below w.heap.size w w':=by
 obtain⟨W,hW⟩:=aG (w.alloc (.cells #[.int .i64 0,.int .i64 0,.int .i64 0,.int .i64 0,.int .i64 0,.int .i64 0,.int .i64 0,.int .i64 0] 40))
 obtain⟨aJ,f_,iC⟩:=boxed hW
 have hBw:Below w.heap.size w W:=f_
 obtain⟨qK,jQ,jR⟩:=ah aJ
 obtain⟨eG,eH,fP,fQ,gV,gW,gX,gY⟩:=rc8 aJ
 obtain⟨ja,jb,jy,jA,jB,jC,jD,jE⟩:=FP aJ
 clear jQ jR aJ
 have yL:w.heap.size<=w.heap.size:=by omega
 clear f_ iC
 go_enter Tryz.func14,Tryz.ntmps14
 go_wp2
 refine bodyPost_ret (v:=jF exS) (by simp[results,Tryz.results14,go_sem,exS, *]) rfl ⟨rfl,?_⟩
 repeat' (first|(with_reducible exact hBw)|(with_reducible exact Nat.le_refl _)|(with_reducible refine Below.setCell ?_ ?_ _))
theorem S_ {c:d_}{p:Pt}(hc:c.Ok)(hg:0<=p.g/\p.g<=1000000)(hy:0<=p.y/\p.y<=1000000)(ht:0<=p.t/\p.t<=5000):0<=force c p/\force c p<=4000000000000000000:=by
 have:=afF hc hg hy ht;omega
def QA (c:d_)(p:Pt)(v:Int):Fr:=aiH (force c p) (v*10000000)
theorem QG {c:d_}{s:St}(w:World)(hc:c.ok=true)(hs:s.ok=true):Calls Tryz.prog 12 #[gm c,jF s] w fun e w'=>e=.returned (.tuple #[frV (QA c s.low c.jG),frV (QA c s.high c.jm),.int .i64 0])/\Below w.heap.size w w':=by
 obtain⟨W1,hW1⟩:=aG (w.alloc (.cells #[.int .i64 c.jm,.int .i64 c.jG,.int .i64 c.least,.int .i64 c.most,.int .i64 c.f0,.int .i64 c.f1,.int .i64 c.h0,.int .i64 c.h1,.int .i64 c.bu,.int .i64 c.mJ,.int .i64 c.phi] 38))
 obtain⟨aJ,f_,iC⟩:=boxed hW1
 have Ae:w.heap.size<W1.heap.size:=by omega
 obtain⟨jV,jW,jX,jY,jZ,j_,ku,kz,kJ,kQ,oq⟩:=bJ aJ
 obtain⟨W2,hW2⟩:=aG (W1.alloc (.cells #[.int .i64 s.dB,.int .i64 s.dK,.int .i64 s.di,.int .i64 s.dE,.int .i64 s.gK,.int .i64 s.gJ,.int .i64 s.wlo,.int .i64 s.whi] 40))
 obtain⟨bF,iH,lW⟩:=boxed hW2
 have Jm:w.heap.size<W2.heap.size:=by omega
 replace aJ:=(iH.block _ (aF aJ)).trans aJ
 obtain⟨qR,qU,qV,qW,qX,qY,qZ,rf,rq,ry,ou⟩:=bJ aJ
 have Jn:W1.heap.size<W2.heap.size:=by omega
 obtain⟨rC,rD,rE,rF,rG,rH,rJ,rM⟩:=rc8 bF
 obtain⟨W3,hW3⟩:=aG (W2.alloc (.cells #[.int .i64 0,.int .i64 0] 73))
 obtain⟨dQ,jS,uy⟩:=boxed hW3
 have Yr:w.heap.size<W3.heap.size:=by omega
 replace aJ:=(jS.block _ (aF aJ)).trans aJ
 obtain⟨Hm,Hq,Hr,Ht,Hu,Hw,Hy,Hz,HY,H5,AV⟩:=bJ aJ
 have Yt:W1.heap.size<W3.heap.size:=by omega
 replace bF:=(jS.block _ (aF bF)).trans bF
 obtain⟨H6,H7,H8,H9,H_,Ia,Ib,Ic⟩:=rc8 bF
 have Yu:W2.heap.size<W3.heap.size:=by omega
 obtain⟨Ie,Ig⟩:=rc2 dQ
 obtain⟨W4,UQ⟩:=aG (W3.alloc (.cells #[.int .i64 0,.int .i64 0] 73))
 obtain⟨ik,l7,CG⟩:=boxed UQ
 have Yv:w.heap.size<W4.heap.size:=by omega
 replace aJ:=(l7.block _ (aF aJ)).trans aJ
 obtain⟨Ih,Ii,Ij,Ik,Il,Io,Iq,Ir,Iu,Iw,AX⟩:=bJ aJ
 have Yw:W1.heap.size<W4.heap.size:=by omega
 replace bF:=(l7.block _ (aF bF)).trans bF
 obtain⟨Iy,Iz,IA,IB,IC,IE,IG,II⟩:=rc8 bF
 have Yx:W2.heap.size<W4.heap.size:=by omega
 replace dQ:=(l7.block _ (aF dQ)).trans dQ
 obtain⟨IJ,IK⟩:=rc2 dQ
 have Yy:W3.heap.size<W4.heap.size:=by omega
 obtain⟨IL,IM⟩:=rc2 ik
 obtain⟨W,hW⟩:=aG (W4.alloc (.cells #[.int .i64 c.jm,.int .i64 c.jG,.int .i64 c.least,.int .i64 c.most,.int .i64 c.f0,.int .i64 c.f1,.int .i64 c.h0,.int .i64 c.h1,.int .i64 c.bu,.int .i64 c.mJ,.int .i64 c.phi] 96))
 obtain⟨pW,yw,Yj⟩:=boxed hW
 replace aJ:=(yw.block _ (aF aJ)).trans aJ
 replace bF:=(yw.block _ (aF bF)).trans bF
 replace dQ:=(yw.block _ (aF dQ)).trans dQ
 replace ik:=(yw.block _ (aF ik)).trans ik
 have hBw:Below w.heap.size w W:=(by have:=iC;have:=lW;have:=uy;have:=CG;have:=Yj;exact((((f_.trans (iH.mono (by omega))).trans (jS.mono (by omega))).trans (l7.mono (by omega))).trans (yw.mono (by omega))))
 obtain⟨qK,jQ,jR⟩:=ah aJ
 obtain⟨eG,eH,fP,fQ,gV,gW,gX,gY,je,jf,iR⟩:=bJ aJ
 obtain⟨ja,jb,jy,jA,jB,jC,jD,jE,mP,mQ,mX⟩:=ni aJ
 clear jQ jR aJ
 obtain⟨CS,rQ,rW⟩:=ah bF
 obtain⟨jg,jh,ji,jk,qj,qm,qo,qw⟩:=rc8 bF
 obtain⟨lS,lT,lU,lV,sO,sQ,sS,sU⟩:=FP bF
 clear rQ rW bF
 obtain⟨Jo,Gt,Gw⟩:=ah dQ
 obtain⟨qx,qy⟩:=rc2 dQ
 obtain⟨qL,qM⟩:=rf2 dQ
 clear Gt Gw dQ
 obtain⟨MI,QV,Rf⟩:=ah ik
 obtain⟨yJ,yK⟩:=rc2 ik
 obtain⟨zH,zI⟩:=rf2 ik
 clear QV Rf ik
 obtain⟨zW4,rW4,tW4⟩:=ah pW
 obtain⟨XY,XZ,X8,X9,X_,Ya,avN,avO,avP,avQ,auV⟩:=bJ pW
 obtain⟨WY,WZ,W9,W_,Xa,Xb,avf,avg,avh,avi,asC⟩:=ni pW
 clear rW4 tW4 pW
 have yL:w.heap.size<=w.heap.size:=by omega
 have MH:w.heap.size<=W1.heap.size:=by omega
 have Yq:w.heap.size<=W2.heap.size:=by omega
 have VP:w.heap.size<=W3.heap.size:=by omega
 have xW4:w.heap.size<=W4.heap.size:=by omega
 clear f_ iC iH lW jS uy l7 CG yw Yj
 have hgc:=az W
 have hgf:=dG W
 have hc':=d_.fZ.1 hc
 have hs':=St.fZ.1 hs
 obtain⟨g1,g2,g3,g4⟩:=Qh hs'
 obtain⟨t1,t2⟩:=atA hs'
 have hv:=hc'.v
 have kV:=ai (fun w=>(nP c w).mono fun e w' hb=>aB.lit hb hc)
 have kS:=ai (fun w=>(Fp s w).mono fun e w' hb=>aB.lit hb hs)
 have kL:=ai (fun w=>QC s w)
 have kH:=ai (fun w=>Lr s w)
 have kP1:=ai (fun w=>Fj c s.low c.jG w hc' g1 g3 t1 (by omega))
 have kP2:=ai (fun w=>Fj c s.high c.jm w hc' g2 g4 t2 (by omega))
 have kR1:=ai (fun w=>Lt (force c s.low) (c.jG*10000000) w (S_ hc' g1 g3 t1) (by omega))
 have kR2:=ai (fun w=>Lt (force c s.high) (c.jm*10000000) w (S_ hc' g2 g4 t2) (by omega))
 go_enter Tryz.func12,Tryz.ntmps12
 go_wp2_with (first|(go_at_call 23;(with_reducible refine ax (kV.out _) ?_);rintro e w1 ⟨rfl,hB⟩;(first|(obtain⟨g,rfl⟩:=g.next hB)|(obtain⟨g,rfl⟩:∃g:Grow W,w1=g.x:=⟨⟨w1,hB⟩,rfl⟩));clear hB)|(go_at_call 24;(with_reducible refine ax (kS.out _) ?_);rintro e w1 ⟨rfl,hB⟩;(first|(obtain⟨g,rfl⟩:=g.next hB)|(obtain⟨g,rfl⟩:∃g:Grow W,w1=g.x:=⟨⟨w1,hB⟩,rfl⟩));clear hB))
 have hgg:∀(h:Grow g.x) (b o:Nat),b<W.heap.size->h.x.cell? ⟨b,o,none⟩=W.cell? ⟨b,o,none⟩:=fun h b o hb=>(az g.x h b o (bM hb g.size)).trans (az W g b o hb)
 refine aH (by kernel_rfl) (by kernel_rfl) ?_
 repeat (go_big_quiet_step ((first|(go_at_call 52;with_reducible exact Calls.grow (kL.out _))|(go_at_call 51;with_reducible exact Calls.grow (kP1.out _)))))
 refine wpQuiet_nil ?_
 rintro _ ⟨gx,rfl⟩
 clear hgg
 obtain⟨g,hg⟩:=g.next gx.h
 rw[hg]
 clear hg gx
 go_wp2
 have hgg:∀(h:Grow g.x) (b o:Nat),b<W.heap.size->h.x.cell? ⟨b,o,none⟩=W.cell? ⟨b,o,none⟩:=fun h b o hb=>(az g.x h b o (bM hb g.size)).trans (az W g b o hb)
 refine aH (by kernel_rfl) (by kernel_rfl) ?_
 repeat (go_big_quiet_step ((first|(go_at_call 53;with_reducible exact Calls.grow (kH.out _))|(go_at_call 51;with_reducible exact Calls.grow (kP2.out _)))))
 refine wpQuiet_nil ?_
 rintro _ ⟨gx,rfl⟩
 clear hgg
 obtain⟨g,hg⟩:=g.next gx.h
 rw[hg]
 clear hg gx
 go_wp2_with (first|(go_at_call 54;(with_reducible refine ax (kR1.out _) ?_);rintro e w1 ⟨rfl,hB⟩;(first|(obtain⟨g,rfl⟩:=g.next hB)|(obtain⟨g,rfl⟩:∃g:Grow W,w1=g.x:=⟨⟨w1,hB⟩,rfl⟩));clear hB)|(go_at_call 54;(with_reducible refine ax (kR2.out _) ?_);rintro e w1 ⟨rfl,hB⟩;(first|(obtain⟨g,rfl⟩:=g.next hB)|(obtain⟨g,rfl⟩:∃g:Grow W,w1=g.x:=⟨⟨w1,hB⟩,rfl⟩));clear hB))
 refine bodyPost_ret (v:=.tuple #[frV (QA c s.low c.jG),frV (QA c s.high c.jm),.int .i64 0]) (by simp[results,Tryz.results12,go_sem, *,QA]) rfl ⟨rfl,?_⟩
 have hfin:Below w.heap.size w g.x:=hBw.trans (g.h.mono hBw.size)
 repeat' (first|(with_reducible exact hfin)|(with_reducible exact Yq)|(with_reducible exact VP)|(with_reducible refine Below.setCell ?_ ?_ _))
