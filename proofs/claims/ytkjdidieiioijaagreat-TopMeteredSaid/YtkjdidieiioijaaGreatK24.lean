/- Walks. -/
import Derived.Test.YtkjdidieiioijaaGreatK23
set_option linter.all false
set_option maxRecDepth 100000
set_option maxHeartbeats 16000000
namespace Tr
open Wl
structure iY.nU (m:iY):Prop where
 aO:m.aO.length<=6
 aA:m.aA.length<=6
 moves:m.moves.length<=20
 opn:m.opn.length<=8
 ints:∀k,k<m.aA.length->(gZ m.aA k).2.aO.length<=1000
 wants:∀k,k<m.moves.length->(jc m.moves k).2.wants.length<=1000
end Tr
namespace Go.Proofs.YtkjdidieiioijaaGreat.B
open Go.RowKit Go.Sd Wl Bk L Tr
attribute [local go_sem] Oper.semAt_some
theorem ab8 {w:World}{a:Option Addr}{cap:Nat}{xs:List MV}(h:Sj w (.slice a xs.length cap) xs)(h0:0<xs.length):∃b off,a=some ⟨b,off,none⟩/\b<w.heap.size /\
    ∀k,k<xs.length->w.cell? ⟨b,off+k*5,none⟩=some (.int .i64 (jc xs k).2.src)/\w.cell? ⟨b,off+k*5+1,none⟩=some (.int .i64 (jc xs k).2.dst)/\w.cell? ⟨b,off+k*5+2,none⟩=some (jc xs k).1/\w.cell? ⟨b,off+k*5+3,none⟩=some (.int .i64 (jc xs k).2.cmd)/\w.cell? ⟨b,off+k*5+4,none⟩=some (.int .i64 (jc xs k).2.after):=by
 obtain⟨a',cap',he,hm,hc⟩:=h
 cases he
 obtain⟨b,off,rfl,hlt,hx⟩:=hc h0
 exact⟨b,off,rfl,hlt,fun k hk=>⟨hx k 0 _ hk rfl,hx k 1 _ hk rfl,hx k 2 _ hk rfl,hx k 3 _ hk rfl,hx k 4 _ hk rfl⟩⟩
theorem adu (m:iY)(s v x o:Value)(w:World)(h:Aq w s v x o m)(hb:m.nU):Calls Tryz.prog 72 #[JG s v x o m] w (iW w):=by
 obtain⟨W,hW⟩:=aG (w.alloc (Nq s v x o m))
 obtain⟨e,bW,z⟩:=boxedB hW
 obtain⟨p0,p1,p2,p3,p4,p5,p6⟩:=Jf e
 have nS:=ai (h.mono bW)
 obtain⟨sa,sc,rfl,hsm,-⟩:=h.aO
 obtain⟨va,vc,rfl,hvm,-⟩:=h.aA.els
 obtain⟨xa,xc,rfl,hxm,-⟩:=h.moves.els
 obtain⟨oa,oc,rfl,hom,-⟩:=h.opn
 clear hsm hvm hxm hom
 have hBw:=ai bW
 have hg:=az W
 have hse:Hid (0<m.aO.length->_):=ai (ab6 nS.out.aO)
 have Xq:Hid (0<m.aA.length->_):=ai (VJ nS.out.aA)
 have hme:Hid (0<m.moves.length->_):=ai (ab8 nS.out.moves.els)
 have hoe:=ai nS.out.opn.form
 have b1:=hb.aO
 have b2:=hb.aA
 have b3:=hb.moves
 have b4:=hb.opn
 have b1':(m.aO.length:Int)<=6:=by omega
 have b2':(m.aA.length:Int)<=6:=by omega
 have b3':(m.moves.length:Int)<=20:=by omega
 have G8:=ai hb
 clear e bW h hb
 go_enter Tryz.func72,Tryz.ntmps72
 go_wp2_with (fail)
 go_loopw [3] (fun i wr=>∃k:Nat,k<=m.aO.length/\i=.int .i64 k/\∃g:Grow W,wr=g.x) (fun i _=>m.aO.length - (intOf i).toNat)
 case atStart=>exact⟨0,by omega,rfl,Grow.self W,rfl⟩
 case round =>
  obtain⟨k,hk,rfl,g,rfl⟩:=hrel
  by_cases hlt:k<m.aO.length
  . obtain⟨b,off,rfl,hbl,hx⟩:=hse.out (by omega)
    obtain⟨c0,c1,c2⟩:=hx k hlt
    have hki:(0:Int)<=(k:Int)/\(k:Int)<m.aO.length:=by omega
    obtain⟨g2,hg2⟩:=g.alloc (.cells #[.int .i64 (nz m.aO k).least,.int .i64 (nz m.aO k).most,.bool (nz m.aO k).byp] 223)
    have hn:=World.alloc_heap_new g.x (.cells #[.int .i64 (nz m.aO k).least,.int .i64 (nz m.aO k).most,.bool (nz m.aO k).byp] 223)
    rw[hg2] at hn
    obtain⟨n0,n1,n2⟩:=TS hn
    have zn:=(aF hn)
    clear hx hn
    by_cases d1:(nz m.aO k).least < -10000
    . go_wp2_with (fail)
      go_ret
      exact iW.mk (aj hBw.out g2.h)
    by_cases d2:(nz m.aO k).most<(nz m.aO k).least
    . go_wp2_with (fail)
      go_ret
      exact iW.mk (aj hBw.out g2.h)
    by_cases d3:(10000:Int)<(nz m.aO k).most
    . go_wp2_with (fail)
      go_ret
      exact iW.mk (aj hBw.out g2.h)
    go_wp2_with (fail)
    exact⟨⟨k+1,by omega,by go_num,g2,rfl⟩,by simp[intOf];omega⟩
  . obtain rfl:k=m.aO.length:=by omega
    clear hse
    go_wp2_with (fail)
    go_loopw [5] (fun i wr=>∃k:Nat,k<=m.aA.length/\i=.int .i64 k/\∃g:Grow W,wr=g.x) (fun i _=>m.aA.length - (intOf i).toNat)
    case atStart=>exact⟨0,by omega,rfl,g,rfl⟩
    case round =>
     obtain⟨k,hk,rfl,g,rfl⟩:=hrel
     by_cases hlt:k<m.aA.length
     . obtain⟨b,off,rfl,hbl,hx⟩:=Xq.out (by omega)
       obtain⟨c0,c1,c2,c3⟩:=hx k hlt
       have hki:(0:Int)<=(k:Int)/\(k:Int)<m.aA.length:=by omega
       have hin:=nS.out.aA.ins k hlt
       obtain⟨ia,ic,FK,him,-⟩:=id hin
       have hil:=G8.out.ints k hlt
       obtain⟨t,ht⟩:=aG (RN m.aO.length (gZ m.aA k).2)
       have kV:Hid (∀h:Grow g.x,Calls Tryz.prog 127 #[vtV (gZ m.aA k).1 (gZ m.aA k).2,.int .i64 m.aO.length] h.x (dI (.bool t) h.x)) :=
        ai fun h=>(aos _ _ m.aO.length (by omega) h.x (hin.mono (aj g.h h.h)) hil).mono fun e w' h=>h.lit ht
       rw[FK] at c0 kV
       clear hx hin FK ht hil him
       cases t
       all_goals
        go_wp2_with (fail)
        have hgg:∀(h:Grow g.x) (b o:Nat),b<W.heap.size->h.x.cell? ⟨b,o,none⟩=W.cell? ⟨b,o,none⟩:=fun h b o hb=>(az g.x h b o (bM hb g.size)).trans (az W g b o hb)
        refine aH (by kernel_rfl) (by kernel_rfl) ?_
        repeat (go_big_quiet_step ((first|(go_at_call 127;with_reducible exact Calls.grow (kV.out _)))))
        refine wpQuiet_nil ?_
        rintro _ ⟨gx,rfl⟩
        clear hgg
        obtain⟨g2,hg2⟩:=g.next gx.h
        rw[hg2]
        clear hg2 gx
        go_wp2_with (fail)
       . go_ret
         exact iW.mk (aj hBw.out g2.h)
       . exact⟨⟨k+1,by omega,by go_num,g2,rfl⟩,by simp[intOf];omega⟩
     . obtain rfl:k=m.aA.length:=by omega
       clear Xq
       cases h4:inB m.states 1 8
       . go_wp2_with (go_at_call 128;(with_reducible refine ax (tu (by assumption) _) ?_);rintro e w' ⟨rfl,rfl⟩)
         go_ret
         exact iW.mk (aj hBw.out g.h)
       have h4':=(eP.1 h4)
       cases h5:inB m.cmds 0 4
       . go_wp2_with (go_at_call 128;(with_reducible refine ax (tu (by assumption) _) ?_);rintro e w' ⟨rfl,rfl⟩)
         go_ret
         exact iW.mk (aj hBw.out g.h)
       have h5':=(eP.1 h5)
       cases h6:inB m.begin 0 (m.states - 1)
       . go_wp2_with (go_at_call 128;(with_reducible refine ax (tu (by assumption) _) ?_);rintro e w' ⟨rfl,rfl⟩)
         go_ret
         exact iW.mk (aj hBw.out g.h)
       cases h7:((m.opn.length:Int) != m.states)
       case true =>
        go_wp2_with (go_at_call 128;(with_reducible refine ax (tu (by assumption) _) ?_);rintro e w' ⟨rfl,rfl⟩)
        go_ret
        exact iW.mk (aj hBw.out g.h)
       go_wp2_with (go_at_call 128;(with_reducible refine ax (tu (by assumption) _) ?_);rintro e w' ⟨rfl,rfl⟩)
       clear h4 h5 h6 h7
       go_loopw [6] (fun i wr=>∃k:Nat,k<=m.opn.length/\i=.int .i64 k/\∃g:Grow W,wr=g.x) (fun i _=>m.opn.length - (intOf i).toNat)
       case atStart=>exact⟨0,by omega,rfl,g,rfl⟩
       case round =>
        obtain⟨k,hk,rfl,g,rfl⟩:=hrel
        by_cases hlt:k<m.opn.length
        . obtain⟨a9,c9,he9,-,hc9⟩:=hoe.out
          cases he9
          obtain⟨b,off,rfl,hbl,hx⟩:=hc9 (by omega)
          have c0:W.cell? ⟨b,off+k,none⟩=some (.int .i64 (Lk.at0 m.opn k)):=by have h:=hx k 0 _ hlt rfl;rwa [Nat.mul_one,Nat.add_zero] at h
          have hki:(0:Int)<=(k:Int)/\(k:Int)<m.opn.length:=by omega
          clear hx hc9
          cases h1:inB (Lk.at0 m.opn k) 0 255
          . go_wp2_with (go_at_call 128;(with_reducible refine ax (tu (by assumption) _) ?_);rintro e w' ⟨rfl,rfl⟩)
            go_ret
            exact iW.mk (aj hBw.out g.h)
          . go_wp2_with (go_at_call 128;(with_reducible refine ax (tu (by assumption) _) ?_);rintro e w' ⟨rfl,rfl⟩)
            exact⟨⟨k+1,by omega,by go_num,g,rfl⟩,by simp[intOf];omega⟩
        . obtain rfl:k=m.opn.length:=by omega
          clear hoe
          go_wp2_with (fail)
          go_loopw [7] (fun i wr=>∃k:Nat,k<=m.moves.length/\i=.int .i64 k/\∃g:Grow W,wr=g.x) (fun i _=>m.moves.length - (intOf i).toNat)
          case atStart=>exact⟨0,by omega,rfl,g,rfl⟩
          case round =>
           obtain⟨k,hk,rfl,g,rfl⟩:=hrel
           by_cases hlt:k<m.moves.length
           . obtain⟨b,off,rfl,hbl,hx⟩:=hme.out (by omega)
             obtain⟨c0,c1,c2,c3,c4⟩:=hx k hlt
             have hki:(0:Int)<=(k:Int)/\(k:Int)<m.moves.length:=by omega
             have hin:=nS.out.moves.ins k hlt
             obtain⟨ia,ic,FK,him,-⟩:=id hin
             have hil:=G8.out.wants k hlt
             obtain⟨t,ht⟩:=aG (Ai m.aA.length m.states m.cmds (jc m.moves k).2)
             have kV:Hid (∀h:Grow g.x,Calls Tryz.prog 129 #[JG (.slice sa m.aO.length sc) (.slice va m.aA.length vc) (.slice (some ⟨b,off,none⟩) m.moves.length xc) (.slice oa m.opn.length oc) m,mvV (jc m.moves k).1 (jc m.moves k).2] h.x (dI (.bool t) h.x)) :=
              ai fun h=>(ano _ _ m _ _ _ va vc (by omega) ⟨by omega,by omega⟩ ⟨by omega,by omega⟩ h.x (hin.mono (aj g.h h.h)) hil).mono fun e w' h=>h.lit ht
             rw[FK] at c2 kV
             clear hx hin FK ht hil him
             cases t
             all_goals
              go_wp2_with (fail)
              have hgg:∀(h:Grow g.x) (b o:Nat),b<W.heap.size->h.x.cell? ⟨b,o,none⟩=W.cell? ⟨b,o,none⟩:=fun h b o hb=>(az g.x h b o (bM hb g.size)).trans (az W g b o hb)
              refine aH (by kernel_rfl) (by kernel_rfl) ?_
              repeat (go_big_quiet_step ((first|(go_at_call 129;with_reducible exact Calls.grow (kV.out _)))))
              refine wpQuiet_nil ?_
              rintro _ ⟨gx,rfl⟩
              clear hgg
              obtain⟨g2,hg2⟩:=g.next gx.h
              rw[hg2]
              clear hg2 gx
              go_wp2_with (fail)
             . go_ret
               exact iW.mk (aj hBw.out g2.h)
             . exact⟨⟨k+1,by omega,by go_num,g2,rfl⟩,by simp[intOf];omega⟩
           . obtain rfl:k=m.moves.length:=by omega
             clear hme
             go_wp2_with (fail)
             go_ret
             exact iW.mk (aj hBw.out g.h)
end Go.Proofs.YtkjdidieiioijaaGreat.B
namespace Go.Proofs.YtkjdidieiioijaaGreat.B
open Go.RowKit Go.Sd Wl L
attribute [local go_sem] Oper.semAt_some
abbrev weV (pv:Value)(we:We):Value:=.agg #[.int .i64 we.aS,.int .i64 we.need,pv]
theorem aa1 {a b c:Int}{t:Bool}(h:Wl.inB a b c=t)(w:World):Calls Tryz.prog 108 #[.int .i64 a,.int .i64 b,.int .i64 c] w fun e w'=>e=.returned (.bool t)/\w=w' :=
 (ah1 a b c w).mono fun e w' ⟨t',he,ht,hw⟩=>⟨by rw[he,<- ht.out,h],hw⟩
theorem row3 {w:World}{n:Nat}{a0 a1 a2:Value}{e:TypeId}(h:w.heap[n]? = some (.cells #[a0,a1,a2] e (0,0))):w.cell? ⟨n,0,none⟩=some a0/\w.cell? ⟨n,1,none⟩=some a1/\w.cell? ⟨n,2,none⟩=some a2:=by
 have r:=(ah h).2.1
 exact⟨r 0,r 1,r 2⟩
theorem ajW (p:Pa)(aS:Int)(a1 a2:Value)(wb:Nat)(t:TypeId)(X:World)(hr : -1000<=aS/\aS<=1000)(hc:X.heap[wb]? = some (.cells #[.int .i64 aS,a1,a2] t (0,0))) :
    Calls Tryz.prog 163 #[paV p,.pointer (some ⟨wb,0,none⟩)] X (dI (.bool (!paB aS p)) X):=by
 obtain⟨W,hW⟩:=aG (X.alloc (paO p))
 obtain⟨e,bW,z⟩:=boxedB hW
 obtain⟨c0,c1,c2,c3,c4,c5,c6,c7,c8⟩:=ZR e
 have hcW:=ak bW hc
 obtain⟨d0,-,-⟩:=row3 hcW
 have zb:=(aF hcW)
 have kP:=ai (I8 p aS W hr)
 have G8:=ai bW
 clear e hr hc hcW bW
 go_enter Tryz.func163,Tryz.ntmps163
 go_wp2_with (go_at_call 164;(with_reducible refine ax kP.out ?_);rintro e w' ⟨t,rfl,ht,hB⟩)
 all_goals
  go_ret
  exact⟨by rw[ht.out];first|rfl|simp,aj G8.out hB⟩
theorem XU (we:We)(pv:Value)(w:World)(hp:mY w pv we.parts):Calls Tryz.prog 107 #[weV pv we] w (aB we.ok w):=by
 obtain⟨W,hW⟩:=aG (w.alloc (.cells #[.int .i64 we.aS,.int .i64 we.need,pv] 46))
 obtain⟨e,bW,z⟩:=boxedB hW
 obtain⟨c0,c1,c2⟩:=row3 e
 have Zk:=hp.mono bW
 obtain⟨pa,Aj,rfl,hpm,-⟩:=hp
 obtain⟨b1,h1⟩:=aG (inB we.aS 2 8)
 obtain⟨b2,h2⟩:=aG (inB we.need 0 12)
 obtain⟨b3,h3⟩:=aG (inB we.parts.length 1 12)
 have k1:=ai (aa1 h1 W)
 have k2:=ai (aa1 h2 W)
 have k3:=ai (aa1 h3 W)
 have kC:Hid (b1=true->Calls Tryz.prog 162 #[.slice pa we.parts.length Aj,.func (.func 163) #[] #[.pointer (some ⟨w.heap.size,0,none⟩)]] W (aB (we.parts.any fun p=>!paB we.aS p) W)) :=
  ai fun hb=>Ws _ we.parts (fun p=>!paB we.aS p) 163 #[.pointer (some ⟨w.heap.size,0,none⟩)] W Zk (fun args w=>by kernel_rfl) fun d _ X hX=>ajW d we.aS _ _ _ _ X (by rw[hb,eP] at h1;omega) (ak hX e)
 have h1h:=ai h1
 have h2h:=ai h2
 have h3h:=ai h3
 have G8:=ai bW
 clear e bW Zk h1 h2 h3 hpm
 cases b1
 . go_enter Tryz.func107,Tryz.ntmps107
   go_wp2_with (go_at_call 108;(with_reducible refine ax k1.out ?_);rintro e w' ⟨rfl,rfl⟩)
   go_ret
   exact aB.mk (by simp[We.ok,h1h.out]) G8.out
 cases b2
 . go_enter Tryz.func107,Tryz.ntmps107
   go_wp2_with (go_at_call 108;(with_reducible refine ax (by first|exact k1.out|exact k2.out) ?_);rintro e w' ⟨rfl,rfl⟩)
   go_ret
   exact aB.mk (by simp[We.ok,h2h.out]) G8.out
 cases b3
 . go_enter Tryz.func107,Tryz.ntmps107
   go_wp2_with (go_at_call 108;(first|(with_reducible refine ax k1.out ?_)|(with_reducible refine ax k2.out ?_)|(with_reducible refine ax k3.out ?_));rintro e w' ⟨rfl,rfl⟩)
   go_ret
   exact aB.mk (by simp[We.ok,h3h.out]) G8.out
 have kD:=ai (kC.out rfl)
 go_enter Tryz.func107,Tryz.ntmps107
 go_wp2_with (first|(go_at_call 108;(first|(with_reducible refine ax k1.out ?_)|(with_reducible refine ax k2.out ?_)|(with_reducible refine ax k3.out ?_));rintro e w' ⟨rfl,rfl⟩)|(go_at_call 162;(with_reducible refine ax kD.out ?_);rintro e w' ⟨t,rfl,ht,hB⟩))
 all_goals
  go_ret
  exact aB.mk (by rw[<- ht.out];simp[We.ok,h1h.out,h2h.out,h3h.out]) (aj G8.out hB)
def aag (we:We)(day n:Int):Prop:=∃(N:Nat)(D:List Int),qN (oI (JJ we day)) we.parts N (yT we.aS.toNat 0,[0])=(D,[])/\n=if at0 D 1=1048576 then(we.parts.length:Int)+1 else at0 D 1
theorem aj0 (we:We)(ok:we.Ok)(day:Int)(lb:Nat)(pv:Value)(w:World)(hl:FB w lb pv we day) :
    Calls Tryz.prog 56 #[.pointer (some ⟨lb,0,none⟩),pcV (JJ we day)] w fun e w'=>∃n,e=.returned (.int .i64 n)/\Hid (aag we day n)/\Below w.heap.size w w':=by
 have hp0:=hl.parts
 obtain⟨pa,Aj,rfl,hpm,-⟩:=hp0
 have hr:=ok.aS
 have hpl:=ok.parts
 have hll:IntKind.i64.wrap ((we.parts.length:Int)+1)=(we.parts.length:Int)+1:=IntWalk.i64_in _ (by omega)
 obtain⟨W,hW⟩:=aG (w.alloc (pcO (JJ we day)))
 obtain⟨e,bW,z⟩:=boxedB hW
 obtain⟨m,hm⟩:=Int.eq_ofNat_of_zero_le (show 0<=we.aS by omega)
 have hmt:we.aS.toNat=m:=by omega
 have kD0:=RG we ok day lb _ (JJ we day) 0 (by omega) W (hl.mono bW)
 unfold VX at kD0
 rw[hmt] at kD0
 have kD:=ai kD0
 have hrow:=ai e
 obtain⟨q0,q1,q2,q3⟩:=row4 (hl.mono bW).row
 have zl:=(Array.getElem?_eq_some_iff.1 (hl.mono bW).row).1
 have hlW:=ai (hl.mono bW)
 have G8:=ai bW
 have hm2:1<m:=by omega
 have hmm:=ai hmt
 clear kD0 e bW hl ok hmt hr hpl hpm hm
 go_enter Tryz.func56,Tryz.ntmps56
 go_wp2_with (first|(refine wpList_load_row rfl 157 _ rfl w.heap.size rfl _ _ (0,0) _ hrow.out Tryz.underlying157 rfl (by show _=some 24;kernel_rfl) ?_)|(go_at_call 109;(with_reducible refine ax kD.out ?_);rintro e w' ⟨ob,N,D,rfl,hit,hD,hlen,hB⟩;(have hc:=(hD.cell (k:=1) (by omega)).1);(have zob:=hD.lt);replace hit:=ai hit;(have hq:=row4 (hlW.out.mono hB).row);(have hq2:=hq.2.2.1);(have zl2:=(Array.getElem?_eq_some_iff.1 (hlW.out.mono hB).row).1);clear hq hlen))
 all_goals
  go_ret
  refine⟨_,rfl,ai ⟨N,D,by rw[hmm.out];exact hit.out,?_⟩,aj G8.out hB⟩
  rename_i hx
  simp at hx
  simp[hx]
def aoz (we:We)(pv:Value)(day:Int)(w:World)(e:Ending)(w':World):Prop :=
 ∃lb t,e=.returned (.tuple #[.pointer (some ⟨lb,0,none⟩),.bool t])/\Hid ((we.ok && inB day 0 5000)=t)/\Hid (FB w' lb pv we day)/\Below w.heap.size w w'
def aak (we:We)(day n st:Int):Prop:=((we.ok && inB day 0 5000)=true/\aag we day n/\st=0)\/((we.ok && inB day 0 5000)=false/\n=0/\st=2)
abbrev lkO (we:We)(pv:Value)(day:Int):Obj:=.cells #[.int .i64 we.aS,.int .i64 we.need,pv,.int .i64 day] 233
theorem ah6 {we:We}{pv:Value}{day:Int}{w W w1:World}(hW:Below w.heap.size w W)(hp:mY W pv we.parts)(h1:Below (W.alloc (lkO we pv day)).drew.heap.size (W.alloc (lkO we pv day)).drew w1):FB w1 W.heap.size pv we day/\Below w.heap.size w w1:=by
 have hb:Below W.heap.size W (W.alloc (lkO we pv day)).drew:=((Below.refl _ _).alloc (Nat.le_refl _) _).drew
 have hb2:=aj hb h1
 exact⟨⟨ak h1 (World.alloc_heap_new W (lkO we pv day)),hp.mono hb2⟩,aj hW hb2⟩
theorem ah7 {we:We}{pv:Value}{day:Int}{w W w1:World}(hW:Below w.heap.size w W)(hp:mY W pv we.parts)(h2:Below W.heap.size W w1):FB (w1.alloc (lkO we pv day)) w1.heap.size pv we day/\Below w.heap.size w (w1.alloc (lkO we pv day)):=by
 have hb:Below w1.heap.size w1 (w1.alloc (lkO we pv day)):=(Below.refl _ _).alloc (Nat.le_refl _) _
 have hb2:=aj h2 hb
 exact⟨⟨World.alloc_heap_new w1 (lkO we pv day),hp.mono hb2⟩,aj hW hb2⟩
theorem adE (we:We)(pv:Value)(day:Int)(w:World)(hp:mY w pv we.parts):Calls Tryz.prog 55 #[weV pv we,.int .i64 day] w (aoz we pv day w):=by
 obtain⟨W,hW⟩:=aG (w.alloc (.cells #[.int .i64 we.aS,.int .i64 we.need,pv] 46))
 obtain⟨e,bW,z⟩:=boxedB hW
 obtain⟨c0,c1,c2⟩:=row3 e
 have Zk:=ai (hp.mono bW)
 have eh:=ai e
 obtain⟨b1,h1⟩:=aG (we.ok)
 obtain⟨b2,h2⟩:=aG (inB day 0 5000)
 have h1h:=ai h1
 have h2h:=ai h2
 have G8:=ai bW
 clear e bW hp h1 h2
 have kW:Hid (∀X,Below W.heap.size W X->Calls Tryz.prog 107 #[weV pv we] X (dI (.bool b1) X)):=ai fun X hX=>(XU we pv X (Zk.out.mono hX)).mono fun e w' h=>h.lit h1h.out
 have kI:Hid (∀X,Calls Tryz.prog 108 #[.int .i64 day,.int .i64 0,.int .i64 5000] X fun e w'=>e=.returned (.bool b2)/\X=w'):=ai fun X=>aa1 h2h.out X
 have bb:Hid (∀X,Below W.heap.size W X->X.cell? ⟨w.heap.size,0,none⟩=some (.int .i64 we.aS)/\X.cell? ⟨w.heap.size,1,none⟩=some (.int .i64 we.need)/\X.cell? ⟨w.heap.size,2,none⟩=some pv/\w.heap.size<X.heap.size):=ai fun X hX=>⟨(row3 (ak hX eh.out)).1,(row3 (ak hX eh.out)).2.1,(row3 (ak hX eh.out)).2.2,by have:=hX.size;omega⟩
 have zW:=z
 cases b1
 . go_enter Tryz.func55,Tryz.ntmps55
   go_wp2
   first|(go_region_with (first|(go_at_call 107;(with_reducible refine ax (kW.out _ (by first|exact(Below.refl W.heap.size W).drew|exact((Below.refl W.heap.size W).alloc (Nat.le_refl _) _).drew)) ?_);rintro e w1 ⟨rfl,h1⟩;(have h2:Below W.heap.size W w1:=aj (by first|exact(Below.refl W.heap.size W).drew|exact((Below.refl W.heap.size W).alloc (Nat.le_refl _) _).drew) h1);obtain⟨q0,q1,q2,q3⟩:=bb.out _ h2)|(go_at_call 108;(with_reducible refine ax (kI.out _) ?_);rintro e w2 ⟨rfl,rfl⟩)))|fail
   all_goals
    go_wp2
    go_ret2
    first|exact⟨_,_,rfl,ai (by rw[h1h.out,h2h.out];first|rfl|simp),ai (ah6 G8.out Zk.out h1).1,(ah6 G8.out Zk.out h1).2⟩|exact⟨_,_,rfl,ai (by rw[h1h.out,h2h.out];first|rfl|simp),ai (ah7 G8.out Zk.out h2).1,(ah7 G8.out Zk.out h2).2⟩
 . go_enter Tryz.func55,Tryz.ntmps55
   go_wp2
   first|(go_region_with (first|(go_at_call 107;(with_reducible refine ax (kW.out _ (by first|exact(Below.refl W.heap.size W).drew|exact((Below.refl W.heap.size W).alloc (Nat.le_refl _) _).drew)) ?_);rintro e w1 ⟨rfl,h1⟩;(have h2:Below W.heap.size W w1:=aj (by first|exact(Below.refl W.heap.size W).drew|exact((Below.refl W.heap.size W).alloc (Nat.le_refl _) _).drew) h1);obtain⟨q0,q1,q2,q3⟩:=bb.out _ h2)|(go_at_call 108;(with_reducible refine ax (kI.out _) ?_);rintro e w2 ⟨rfl,rfl⟩)))|fail
   all_goals
    go_wp2
    go_ret2
    first|exact⟨_,_,rfl,ai (by rw[h1h.out,h2h.out];first|rfl|simp),ai (ah6 G8.out Zk.out h1).1,(ah6 G8.out Zk.out h1).2⟩|exact⟨_,_,rfl,ai (by rw[h1h.out,h2h.out];first|rfl|simp),ai (ah7 G8.out Zk.out h2).1,(ah7 G8.out Zk.out h2).2⟩
def PL (we:We)(day:Int)(w:World)(e:Ending)(w':World):Prop:=∃n st,e=.returned (.tuple #[.int .i64 n,.int .i64 st])/\Hid (aak we day n st)/\Below w.heap.size w w'
theorem QE (we:We)(pv:Value)(day:Int)(w:World)(hp:mY w pv we.parts):Calls Tryz.prog 15 #[weV pv we,.int .i64 day] w (PL we day w):=by
 obtain⟨W,hW⟩:=aG (w.alloc (.cells #[.int .i64 we.aS,.int .i64 we.need,pv] 46))
 obtain⟨e,bW,z⟩:=boxedB hW
 obtain⟨c0,c1,c2⟩:=row3 e
 have kA:=ai (adE we pv day W (hp.mono bW))
 have G8:=ai bW
 clear e bW hp
 obtain⟨b,hb⟩:=aG ((we.ok && inB day 0 5000))
 have kB:Hid (Calls Tryz.prog 55 #[weV pv we,.int .i64 day] W fun e w'=>∃lb,e=.returned (.tuple #[.pointer (some ⟨lb,0,none⟩),.bool b])/\Hid (FB w' lb pv we day)/\Below W.heap.size W w') :=
  ai (kA.out.mono fun e w' ⟨lb,t,he,ht,hl,hB⟩=>⟨lb,by rw[he,<- ht.out,hb],hl,hB⟩)
 have hbb:=ai hb
 clear kA hb
 cases b
 . go_enter Tryz.func15,Tryz.ntmps15
   go_wp2_with (go_at_call 55;(with_reducible refine ax kB.out ?_);rintro e w1 ⟨lb,rfl,hl,hB1⟩)
   go_ret2
   exact⟨_,_,rfl,ai (.inr ⟨hbb.out,rfl,rfl⟩),aj G8.out hB1⟩
 . have okd:we.Ok/\0<=day/\day<=100000:=by
    have h:=hbb.out
    rw[Bool.and_eq_true] at h
    exact⟨We.agH h.1,by have:=eP.1 h.2;omega⟩
   have kP:Hid (∀X lb,FB X lb pv we day->Calls Tryz.prog 57 #[.pointer (some ⟨lb,0,none⟩)] X (dI (pcV (JJ we day)) X)):=ai fun X lb h=>ZG we okd.1 day okd.2 lb pv X h
   have kN:Hid (∀X lb,FB X lb pv we day->Calls Tryz.prog 56 #[.pointer (some ⟨lb,0,none⟩),pcV (JJ we day)] X fun e w'=>∃n,e=.returned (.int .i64 n)/\Hid (aag we day n)/\Below X.heap.size X w'):=ai fun X lb h=>aj0 we okd.1 day lb pv X h
   clear okd
   go_enter Tryz.func15,Tryz.ntmps15
   go_wp2_with (first|(go_at_call 55;(with_reducible refine ax kB.out ?_);rintro e w1 ⟨lb,rfl,hl,hB1⟩)|(go_at_call 57;(with_reducible refine ax (kP.out _ _ hl.out) ?_);rintro e w2 ⟨rfl,hB2⟩)|(go_at_call 56;(with_reducible refine ax (kN.out _ _ (hl.out.mono hB2)) ?_);rintro e w3 ⟨n,rfl,hn,hB3⟩))
   go_ret2
   exact⟨_,_,rfl,ai (.inl ⟨hbb.out,hn.out,rfl⟩),aj G8.out (aj hB1 (aj hB2 hB3))⟩
open Bk Tr
theorem apX (a b c:Int)(w:World):Calls Tryz.prog 125 #[.int .i64 a,.int .i64 b,.int .i64 c] w (iM (inB a b c) w):=by
 by_cases h:b<=a
 . go_enter Tryz.func125,Tryz.ntmps125
   go_wp2
   go_ret
   exact⟨_,rfl,ai (by unfold Wl.inB;simp[h] <;> omega),rfl⟩
 . go_enter Tryz.func125,Tryz.ntmps125
   go_wp2
   go_ret
   exact⟨_,rfl,ai (by unfold Wl.inB;simp[h] <;> omega),rfl⟩
theorem oU {a b c:Int}{t:Bool}(h:inB a b c=t)(w:World):Calls Tryz.prog 125 #[.int .i64 a,.int .i64 b,.int .i64 c] w fun e w'=>e=.returned (.bool t)/\w=w' :=
 (apX a b c w).mono fun e w' ⟨t',he,ht,hw⟩=>⟨by rw[he,<- ht.out,h],hw⟩
theorem aoQ (n:Int)(w:World):Calls Tryz.prog 126 #[.int .i64 n] w (iM (inB n 0 5000) w):=by
 have k:=ai (apX n 0 5000 w)
 go_enter Tryz.func126,Tryz.ntmps126
 go_wp2_with (go_at_call 125;(with_reducible refine ax k.out ?_);rintro e w' ⟨t,rfl,ht,rfl⟩)
 go_ret
 exact⟨_,rfl,ht,rfl⟩
theorem lJ {n:Int}{t:Bool}(h:inB n 0 5000=t)(w:World):Calls Tryz.prog 126 #[.int .i64 n] w fun e w'=>e=.returned (.bool t)/\w=w' :=
 (aoQ n w).mono fun e w' ⟨t',he,ht,hw⟩=>⟨by rw[he,<- ht.out,h],hw⟩
theorem agQ {w:World}{a:Option Addr}{cap:Nat}{xs:List Pa}(h:mY w (.slice a xs.length cap) xs)(h0:0<xs.length):∃b off,a=some ⟨b,off,none⟩/\b<w.heap.size /\
    ∀k,k<xs.length->w.cell? ⟨b,off+k*9,none⟩=some (.int .i64 (cu xs k).one)/\w.cell? ⟨b,off+k*9+1,none⟩=some (.int .i64 (cu xs k).other)/\w.cell? ⟨b,off+k*9+2,none⟩=some (.bool (cu xs k).Ac)/\w.cell? ⟨b,off+k*9+3,none⟩=some (.bool (cu xs k).opn)/\w.cell? ⟨b,off+k*9+4,none⟩=some (.int .i64 (cu xs k).tested)/\w.cell? ⟨b,off+k*9+5,none⟩=some (.int .i64 (cu xs k).valid)/\w.cell? ⟨b,off+k*9+6,none⟩=some (.bool (cu xs k).bad)/\w.cell? ⟨b,off+k*9+7,none⟩=some (.int .i64 (cu xs k).test)/\w.cell? ⟨b,off+k*9+8,none⟩=some (.int .i64 (cu xs k).change):=by
 obtain⟨a',cap',he,hm,hc⟩:=h
 cases he
 obtain⟨b,off,rfl,hlt,hx⟩:=hc h0
 exact⟨b,off,rfl,hlt,fun k hk=>⟨hx k 0 _ hk rfl,hx k 1 _ hk rfl,hx k 2 _ hk rfl,hx k 3 _ hk rfl,hx k 4 _ hk rfl,hx k 5 _ hk rfl,hx k 6 _ hk rfl,hx k 7 _ hk rfl,hx k 8 _ hk rfl⟩⟩
theorem aov (we:We)(pv:Value)(w:World)(hp:mY w pv we.parts):Calls Tryz.prog 71 #[weV pv we] w fun e w'=>∃t:Bool,e=.returned (.bool t)/\(t=true->2<=we.aS/\we.aS<=8)/\Below w.heap.size w w':=by
 obtain⟨W,hW⟩:=aG (w.alloc (.cells #[.int .i64 we.aS,.int .i64 we.need,pv] 46))
 obtain⟨e,bW,z⟩:=boxedB hW
 obtain⟨p0,p1,p2⟩:=TS e
 have Zk:=hp.mono bW
 obtain⟨pa,pc,rfl,hpm,-⟩:=hp
 clear hpm
 have hBw:=ai bW
 have hg:=az W
 have hpe:Hid (0<we.parts.length->_):=ai (agQ Zk)
 clear e bW Zk
 cases h1:inB we.aS 2 8
 . go_enter Tryz.func71,Tryz.ntmps71
   go_wp2_with (first|(go_at_call 125;(with_reducible refine ax (oU (by assumption) _) ?_);rintro e w' ⟨rfl,rfl⟩)|(go_at_call 126;(with_reducible refine ax (lJ (by assumption) _) ?_);rintro e w' ⟨rfl,rfl⟩))
   go_ret
   exact⟨_,rfl,(fun h=>nomatch h),hBw.out⟩
 cases h2:inB we.need 0 12
 . go_enter Tryz.func71,Tryz.ntmps71
   go_wp2_with (first|(go_at_call 125;(with_reducible refine ax (oU (by assumption) _) ?_);rintro e w' ⟨rfl,rfl⟩)|(go_at_call 126;(with_reducible refine ax (lJ (by assumption) _) ?_);rintro e w' ⟨rfl,rfl⟩))
   go_ret
   exact⟨_,rfl,(fun h=>nomatch h),hBw.out⟩
 cases h3:inB we.parts.length 1 12
 . go_enter Tryz.func71,Tryz.ntmps71
   go_wp2_with (first|(go_at_call 125;(with_reducible refine ax (oU (by assumption) _) ?_);rintro e w' ⟨rfl,rfl⟩)|(go_at_call 126;(with_reducible refine ax (lJ (by assumption) _) ?_);rintro e w' ⟨rfl,rfl⟩))
   go_ret
   exact⟨_,rfl,(fun h=>nomatch h),hBw.out⟩
 have hr:=eP.1 h1
 have hr3:=eP.1 h3
 go_enter Tryz.func71,Tryz.ntmps71
 go_wp2_with (first|(go_at_call 125;(with_reducible refine ax (oU (by assumption) _) ?_);rintro e w' ⟨rfl,rfl⟩)|(go_at_call 126;(with_reducible refine ax (lJ (by assumption) _) ?_);rintro e w' ⟨rfl,rfl⟩))
 clear h1 h2 h3
 go_loopw [3] (fun i wr=>∃k:Nat,k<=we.parts.length/\i=.int .i64 k/\∃g:Grow W,wr=g.x) (fun i _=>we.parts.length - (intOf i).toNat)
 case atStart=>exact⟨0,by omega,rfl,Grow.self W,rfl⟩
 case round =>
  obtain⟨k,hk,rfl,g,rfl⟩:=hrel
  by_cases hlt:k<we.parts.length
  . obtain⟨b,off,rfl,hbl,hx⟩:=hpe.out (by omega)
    obtain⟨c0,c1,c2,c3,c4,c5,c6,c7,c8⟩:=hx k hlt
    have hki:(0:Int)<=(k:Int)/\(k:Int)<we.parts.length:=by omega
    obtain⟨g2,hg2⟩:=g.alloc (paO (cu we.parts k))
    have hn:=World.alloc_heap_new g.x (paO (cu we.parts k))
    rw[hg2] at hn
    obtain⟨n0,n1,n2,n3,n4,n5,n6,n7,n8⟩:=ZR hn
    have zn:=(aF hn)
    clear hx hn
    cases d1:inB (cu we.parts k).one 0 (we.aS - 1)
    . go_wp2_with (first|(go_at_call 125;(with_reducible refine ax (oU (by assumption) _) ?_);rintro e w' ⟨rfl,rfl⟩)|(go_at_call 126;(with_reducible refine ax (lJ (by assumption) _) ?_);rintro e w' ⟨rfl,rfl⟩))
      go_ret
      exact⟨_,rfl,(fun h=>nomatch h),aj hBw.out g2.h⟩
    cases d2:inB (cu we.parts k).other 0 (we.aS - 1)
    . go_wp2_with (first|(go_at_call 125;(with_reducible refine ax (oU (by assumption) _) ?_);rintro e w' ⟨rfl,rfl⟩)|(go_at_call 126;(with_reducible refine ax (lJ (by assumption) _) ?_);rintro e w' ⟨rfl,rfl⟩))
      go_ret
      exact⟨_,rfl,(fun h=>nomatch h),aj hBw.out g2.h⟩
    cases d3:((cu we.parts k).one == (cu we.parts k).other)
    case true =>
     go_wp2_with (first|(go_at_call 125;(with_reducible refine ax (oU (by assumption) _) ?_);rintro e w' ⟨rfl,rfl⟩)|(go_at_call 126;(with_reducible refine ax (lJ (by assumption) _) ?_);rintro e w' ⟨rfl,rfl⟩))
     go_ret
     exact⟨_,rfl,(fun h=>nomatch h),aj hBw.out g2.h⟩
    obtain⟨bo,ho⟩:=aG ((cu we.parts k).opn)
    obtain⟨bv,hv⟩:=aG ((cu we.parts k).Ac)
    rw[ho] at n3
    rw[hv] at n2
    replace ho:=ai ho
    replace hv:=ai hv
    obtain⟨t4,d4⟩:=aG (inB (cu we.parts k).tested 0 5000)
    obtain⟨t5,d5⟩:=aG (inB (cu we.parts k).valid 0 5000)
    obtain⟨t6,d6⟩:=aG (inB (cu we.parts k).test 1 1000)
    obtain⟨t7,d7⟩:=aG (inB (cu we.parts k).change 1 1000)
    cases bo
    case true =>
     cases bv
     . go_wp2_with (first|(go_at_call 125;(with_reducible refine ax (oU (by assumption) _) ?_);rintro e w' ⟨rfl,rfl⟩)|(go_at_call 126;(with_reducible refine ax (lJ (by assumption) _) ?_);rintro e w' ⟨rfl,rfl⟩))
       go_ret
       exact⟨_,rfl,(fun h=>nomatch h),aj hBw.out g2.h⟩
     cases t4
     . go_wp2_with (first|(go_at_call 125;(with_reducible refine ax (oU (by assumption) _) ?_);rintro e w' ⟨rfl,rfl⟩)|(go_at_call 126;(with_reducible refine ax (lJ (by assumption) _) ?_);rintro e w' ⟨rfl,rfl⟩))
       go_ret
       exact⟨_,rfl,(fun h=>nomatch h),aj hBw.out g2.h⟩
     cases t5
     . go_wp2_with (first|(go_at_call 125;(with_reducible refine ax (oU (by assumption) _) ?_);rintro e w' ⟨rfl,rfl⟩)|(go_at_call 126;(with_reducible refine ax (lJ (by assumption) _) ?_);rintro e w' ⟨rfl,rfl⟩))
       go_ret
       exact⟨_,rfl,(fun h=>nomatch h),aj hBw.out g2.h⟩
     cases t6
     . go_wp2_with (first|(go_at_call 125;(with_reducible refine ax (oU (by assumption) _) ?_);rintro e w' ⟨rfl,rfl⟩)|(go_at_call 126;(with_reducible refine ax (lJ (by assumption) _) ?_);rintro e w' ⟨rfl,rfl⟩))
       go_ret
       exact⟨_,rfl,(fun h=>nomatch h),aj hBw.out g2.h⟩
     cases t7
     . go_wp2_with (first|(go_at_call 125;(with_reducible refine ax (oU (by assumption) _) ?_);rintro e w' ⟨rfl,rfl⟩)|(go_at_call 126;(with_reducible refine ax (lJ (by assumption) _) ?_);rintro e w' ⟨rfl,rfl⟩))
       go_ret
       exact⟨_,rfl,(fun h=>nomatch h),aj hBw.out g2.h⟩
     go_wp2_with (first|(go_at_call 125;(with_reducible refine ax (oU (by assumption) _) ?_);rintro e w' ⟨rfl,rfl⟩)|(go_at_call 126;(with_reducible refine ax (lJ (by assumption) _) ?_);rintro e w' ⟨rfl,rfl⟩))
     exact⟨⟨k+1,by omega,by go_num,g2,rfl⟩,by simp[intOf];omega⟩
    cases t4
    . go_wp2_with (first|(go_at_call 125;(with_reducible refine ax (oU (by assumption) _) ?_);rintro e w' ⟨rfl,rfl⟩)|(go_at_call 126;(with_reducible refine ax (lJ (by assumption) _) ?_);rintro e w' ⟨rfl,rfl⟩))
      go_ret
      exact⟨_,rfl,(fun h=>nomatch h),aj hBw.out g2.h⟩
    cases t5
    . go_wp2_with (first|(go_at_call 125;(with_reducible refine ax (oU (by assumption) _) ?_);rintro e w' ⟨rfl,rfl⟩)|(go_at_call 126;(with_reducible refine ax (lJ (by assumption) _) ?_);rintro e w' ⟨rfl,rfl⟩))
      go_ret
      exact⟨_,rfl,(fun h=>nomatch h),aj hBw.out g2.h⟩
    cases t6
    . go_wp2_with (first|(go_at_call 125;(with_reducible refine ax (oU (by assumption) _) ?_);rintro e w' ⟨rfl,rfl⟩)|(go_at_call 126;(with_reducible refine ax (lJ (by assumption) _) ?_);rintro e w' ⟨rfl,rfl⟩))
      go_ret
      exact⟨_,rfl,(fun h=>nomatch h),aj hBw.out g2.h⟩
    cases t7
    . go_wp2_with (first|(go_at_call 125;(with_reducible refine ax (oU (by assumption) _) ?_);rintro e w' ⟨rfl,rfl⟩)|(go_at_call 126;(with_reducible refine ax (lJ (by assumption) _) ?_);rintro e w' ⟨rfl,rfl⟩))
      go_ret
      exact⟨_,rfl,(fun h=>nomatch h),aj hBw.out g2.h⟩
    go_wp2_with (first|(go_at_call 125;(with_reducible refine ax (oU (by assumption) _) ?_);rintro e w' ⟨rfl,rfl⟩)|(go_at_call 126;(with_reducible refine ax (lJ (by assumption) _) ?_);rintro e w' ⟨rfl,rfl⟩))
    exact⟨⟨k+1,by omega,by go_num,g2,rfl⟩,by simp[intOf];omega⟩
  . obtain rfl:k=we.parts.length:=by omega
    clear hpe
    go_wp2_with (fail)
    go_ret
    exact⟨_,rfl,fun _=>hr,aj hBw.out g.h⟩
