/- Walks. -/
import Derived.Test.YtkjdidieiioijaaGreatK22
set_option linter.all false
set_option maxRecDepth 100000
set_option maxHeartbeats 16000000
namespace Go.Proofs.YtkjdidieiioijaaGreat.B
open Go.RowKit Go.Sd Wl Bk L Tr
attribute [local go_sem] Oper.semAt_some
theorem TS {w:World}{n:Nat}{a0 a1 a2:Value}{e:TypeId}(h:w.heap[n]? = some (.cells #[a0,a1,a2] e (0,0))):w.cell? ⟨n,0,none⟩=some a0/\w.cell? ⟨n,1,none⟩=some a1/\w.cell? ⟨n,2,none⟩=some a2:=by
 have r:=(ah h).2.1
 exact⟨r 0,r 1,r 2⟩
theorem ahB {w:World}{n:Nat}{a0 a1 a2 a3:Value}{e:TypeId}(h:w.heap[n]? = some (.cells #[a0,a1,a2,a3] e (0,0))):w.cell? ⟨n,0,none⟩=some a0/\w.cell? ⟨n,1,none⟩=some a1/\w.cell? ⟨n,2,none⟩=some a2/\w.cell? ⟨n,3,none⟩=some a3:=by
 have r:=(ah h).2.1
 exact⟨r 0,r 1,r 2,r 3⟩
theorem aea (p:MV)(m:iY)(s x o:Value)(va:Option Addr)(vc wb:Nat)(hn:m.aA.length<=1000)(hs : -1000<=m.states/\m.states<=1000)(hcm : -1000<=m.cmds/\m.cmds<=1000)(X:World)(hr:X.heap[wb]? = some (Nq s (.slice va m.aA.length vc) x o m))(h:uD X p.1 p.2.wants)(hcp:PH p.1) :
    Calls Tryz.prog 153 #[anq p,.pointer (some ⟨wb,0,none⟩)] X (dI (.bool (!Ai m.aA.length m.states m.cmds p.2)) X):=by
 obtain⟨pv,pq⟩:=p
 dsimp only at h hcp
 obtain⟨W,hW⟩:=aG (X.alloc (mvO pv pq))
 obtain⟨e,bW,z⟩:=boxedB hW
 obtain⟨q0,q1,q2,q3,q4⟩:=ahC e
 have Xp:=ak bW hr
 obtain⟨p0,p1,p2,p3,p4,p5,p6⟩:=Jf Xp
 have zb:=(aF Xp)
 have kM:=ai (ahM pq pv m s x o va vc hn hs hcm W (h.mono bW) hcp)
 have G8:=ai bW
 obtain⟨wa,wc,rfl,-,-⟩:=h
 clear e hr Xp bW hn hs hcm
 go_enter Tryz.func153,Tryz.ntmps153
 go_wp2_with (go_at_call 154;(with_reducible refine ax kM.out ?_);rintro e w' ⟨t,rfl,ht,hB⟩)
 all_goals
  go_ret
  exact⟨by rw[ht.out];first|rfl|simp,aj G8.out hB⟩
theorem akt (n:Int)(w:World):Calls Tryz.prog 156 #[.int .i64 n] w (dI (.bool (!inB n 0 255)) w):=by
 have k:=ai (Z8 n 0 255 w)
 go_enter Tryz.func156,Tryz.ntmps156
 go_wp2_with (go_at_call 149;(with_reducible refine ax k.out ?_);rintro e w' ⟨t,rfl,ht,rfl⟩)
 go_ret
 exact⟨by rw[ht.out];first|rfl|simp,Below.refl _ _⟩
theorem agB {l:List MV}{d:MV}(h:d ∈ l):∃j,j<l.length/\d=jc l j:=by
 obtain⟨j,hj,rfl⟩:=List.getElem_of_mem h
 exact⟨j,hj,(Pm hj).symm⟩
theorem ab6 {w:World}{a:Option Addr}{cap:Nat}{xs:List Se}(h:V4 w (.slice a xs.length cap) xs)(h0:0<xs.length):∃b off,a=some ⟨b,off,none⟩/\b<w.heap.size /\
    ∀k,k<xs.length->w.cell? ⟨b,off+k*3,none⟩=some (.int .i64 (nz xs k).least)/\w.cell? ⟨b,off+k*3+1,none⟩=some (.int .i64 (nz xs k).most)/\w.cell? ⟨b,off+k*3+2,none⟩=some (.bool (nz xs k).byp):=by
 obtain⟨a',cap',he,hm,hc⟩:=h
 cases he
 obtain⟨b,off,rfl,hlt,hx⟩:=hc h0
 exact⟨b,off,rfl,hlt,fun k hk=>⟨hx k 0 _ hk rfl,hx k 1 _ hk rfl,hx k 2 _ hk rfl⟩⟩
theorem VJ {w:World}{a:Option Addr}{cap:Nat}{xs:List VV}(h:PQ w (.slice a xs.length cap) xs)(h0:0<xs.length):∃b off,a=some ⟨b,off,none⟩/\b<w.heap.size /\
    ∀k,k<xs.length->w.cell? ⟨b,off+k*4,none⟩=some (gZ xs k).1/\w.cell? ⟨b,off+k*4+1,none⟩=some (.int .i64 (gZ xs k).2.need)/\w.cell? ⟨b,off+k*4+2,none⟩=some (.int .i64 (gZ xs k).2.level)/\w.cell? ⟨b,off+k*4+3,none⟩=some (.bool (gZ xs k).2.above):=by
 obtain⟨a',cap',he,hm,hc⟩:=h.els
 cases he
 obtain⟨b,off,rfl,hlt,hx⟩:=hc h0
 exact⟨b,off,rfl,hlt,fun k hk=>⟨hx k 0 _ hk rfl,hx k 1 _ hk rfl,hx k 2 _ hk rfl,hx k 3 _ hk rfl⟩⟩
theorem Ue (m:iY)(s v x o:Value)(w:World)(h:Aq w s v x o m):Calls Tryz.prog 105 #[JG s v x o m] w (aB m.ok w):=by
 obtain⟨W,hW⟩:=aG (w.alloc (Nq s v x o m))
 obtain⟨e,bW,z⟩:=boxedB hW
 obtain⟨p0,p1,p2,p3,p4,p5,p6⟩:=Jf e
 have nS:=ai (h.mono bW)
 have eh:=ai e
 obtain⟨sa,sc,rfl,hsm,-⟩:=h.aO
 obtain⟨va,vc,rfl,hvm,-⟩:=h.aA.els
 obtain⟨xa,xc,rfl,hxm,-⟩:=h.moves.els
 obtain⟨oa,oc,rfl,hom,-⟩:=h.opn
 unfold maxLen at hsm hvm hxm hom
 have hBw:=ai bW
 have hg:=az W
 clear e bW h
 by_cases h1:m.aO.length<=6
 case neg =>
  have hf:Hid (m.ok=false):=ai (by simp[iY.ok,iY.headB,h1])
  have h1':(6:Int)<m.aO.length:=by omega
  go_enter Tryz.func105,Tryz.ntmps105
  go_wp2_with (go_at_call 149;(with_reducible refine ax (fV (by assumption) _) ?_);rintro e w' ⟨rfl,rfl⟩)
  go_ret
  exact aB.mk hf.out hBw.out
 have h1':(m.aO.length:Int)<=6:=by omega
 by_cases h2:m.aA.length<=6
 case neg =>
  have hf:Hid (m.ok=false):=ai (by simp[iY.ok,iY.headB,h2])
  have h2':(6:Int)<m.aA.length:=by omega
  go_enter Tryz.func105,Tryz.ntmps105
  go_wp2_with (go_at_call 149;(with_reducible refine ax (fV (by assumption) _) ?_);rintro e w' ⟨rfl,rfl⟩)
  go_ret
  exact aB.mk hf.out hBw.out
 have h2':(m.aA.length:Int)<=6:=by omega
 by_cases h3:m.moves.length<=20
 case neg =>
  have hf:Hid (m.ok=false):=ai (by simp[iY.ok,iY.headB,h3])
  have h3':(20:Int)<m.moves.length:=by omega
  go_enter Tryz.func105,Tryz.ntmps105
  go_wp2_with (go_at_call 149;(with_reducible refine ax (fV (by assumption) _) ?_);rintro e w' ⟨rfl,rfl⟩)
  go_ret
  exact aB.mk hf.out hBw.out
 have h3':(m.moves.length:Int)<=20:=by omega
 cases h4:inB m.states 1 8
 . have hf:Hid (m.ok=false):=ai (by simp[iY.ok,iY.headB,h4])
   go_enter Tryz.func105,Tryz.ntmps105
   go_wp2_with (go_at_call 149;(with_reducible refine ax (fV (by assumption) _) ?_);rintro e w' ⟨rfl,rfl⟩)
   go_ret
   exact aB.mk hf.out hBw.out
 have h4':=(eP.1 h4)
 cases h5:inB m.cmds 0 4
 . have hf:Hid (m.ok=false):=ai (by simp[iY.ok,iY.headB,h5])
   go_enter Tryz.func105,Tryz.ntmps105
   go_wp2_with (go_at_call 149;(with_reducible refine ax (fV (by assumption) _) ?_);rintro e w' ⟨rfl,rfl⟩)
   go_ret
   exact aB.mk hf.out hBw.out
 have h5':=(eP.1 h5)
 cases h6:inB m.begin 0 (m.states - 1)
 . have hf:Hid (m.ok=false):=ai (by simp[iY.ok,iY.headB,h6])
   go_enter Tryz.func105,Tryz.ntmps105
   go_wp2_with (go_at_call 149;(with_reducible refine ax (fV (by assumption) _) ?_);rintro e w' ⟨rfl,rfl⟩)
   go_ret
   exact aB.mk hf.out hBw.out
 cases h7:((m.opn.length:Int) != m.states)
 case true =>
  have hf:Hid (m.ok=false):=ai (by
   have h7':¬ (m.opn.length:Int)=m.states:=by simpa using h7
   simp[iY.ok,iY.headB,h7'])
  go_enter Tryz.func105,Tryz.ntmps105
  go_wp2_with (go_at_call 149;(with_reducible refine ax (fV (by assumption) _) ?_);rintro e w' ⟨rfl,rfl⟩)
  go_ret
  exact aB.mk hf.out hBw.out
 have hhd:Hid (m.headB=true):=ai (by
  have h7':(m.opn.length:Int)=m.states:=by simpa using h7
  simp[iY.headB,h1,h2,h3,h4,h5,h6,h7'])
 have hse:Hid (0<m.aO.length->_):=ai (ab6 nS.out.aO)
 have Xq:Hid (0<m.aA.length->_):=ai (VJ nS.out.aA)
 have hvi:=ai nS.out.aA.ins
 go_enter Tryz.func105,Tryz.ntmps105
 go_wp2_with (go_at_call 149;(with_reducible refine ax (fV (by assumption) _) ?_);rintro e w' ⟨rfl,rfl⟩)
 clear h4 h5 h6 h7
 go_loopw [55] (fun i wr=>∃k:Nat,k<=m.aO.length/\i=.int .i64 k/\Hid (∀j,j<k->seB (nz m.aO j)=true)/\∃g:Grow W,wr=g.x) (fun i _=>m.aO.length - (intOf i).toNat)
 case atStart=>exact⟨0,by omega,rfl,ai fun j h=>by omega,Grow.self W,rfl⟩
 case round =>
  obtain⟨k,hk,rfl,hH,g,rfl⟩:=hrel
  by_cases hlt:k<m.aO.length
  . obtain⟨b,off,rfl,hbl,hx⟩:=hse.out (by omega)
    obtain⟨c0,c1,c2⟩:=hx k hlt
    have hki:(0:Int)<=(k:Int)/\(k:Int)<m.aO.length:=by omega
    obtain⟨g2,hg2⟩:=g.alloc (.cells #[.int .i64 (nz m.aO k).least,.int .i64 (nz m.aO k).most,.bool (nz m.aO k).byp] 223)
    have hn:=World.alloc_heap_new g.x (.cells #[.int .i64 (nz m.aO k).least,.int .i64 (nz m.aO k).most,.bool (nz m.aO k).byp] 223)
    rw[hg2] at hn
    obtain⟨n0,n1,n2⟩:=TS hn
    have zn:=(aF hn)
    clear hx hn
    have Zi:Hid (seB (nz m.aO k)=false->m.ok=false):=ai fun he=>by
     unfold iY.ok iY.TY
     rw[dV (p:=fun j=>seB (nz m.aO j)) hlt he]
     simp
    cases d1:VH (nz m.aO k).least
    . have hf:Hid (m.ok=false):=ai (Zi.out (by unfold seB;rw[d1];rfl))
      go_wp2_with (go_at_call 150;(with_reducible refine ax (mD (by assumption) _) ?_);rintro e w' ⟨rfl,rfl⟩)
      go_ret
      exact aB.mk hf.out (aj hBw.out g2.h)
    cases d2:VH (nz m.aO k).most
    . have hf:Hid (m.ok=false):=ai (Zi.out (by unfold seB;rw[d1,d2];rfl))
      go_wp2_with (go_at_call 150;(with_reducible refine ax (mD (by assumption) _) ?_);rintro e w' ⟨rfl,rfl⟩)
      go_ret
      exact aB.mk hf.out (aj hBw.out g2.h)
    by_cases d3:(nz m.aO k).least<=(nz m.aO k).most
    . have hf:Hid (seB (nz m.aO k)=true):=ai (by unfold seB;rw[d1,d2];simp[d3])
      have hH':Hid (∀j,j<k+1->seB (nz m.aO j)=true):=ai (fK (p:=fun j=>seB (nz m.aO j)) hH.out hf.out)
      go_wp2_with (go_at_call 150;(with_reducible refine ax (mD (by assumption) _) ?_);rintro e w' ⟨rfl,rfl⟩)
      exact⟨⟨k+1,by omega,by go_num,hH',g2,rfl⟩,by simp[intOf];omega⟩
    . have d3':(nz m.aO k).most<(nz m.aO k).least:=by omega
      have hf:Hid (m.ok=false):=ai (Zi.out (by unfold seB;rw[d1,d2];simp[d3]))
      go_wp2_with (go_at_call 150;(with_reducible refine ax (mD (by assumption) _) ?_);rintro e w' ⟨rfl,rfl⟩)
      go_ret
      exact aB.mk hf.out (aj hBw.out g2.h)
  . obtain rfl:k=m.aO.length:=by omega
    have hsB:Hid (m.TY=true):=ai (pg fun j hj=>hH.out j hj)
    clear hH hse
    go_wp2_with (fail)
    go_loopw [80] (fun i wr=>∃k:Nat,k<=m.aA.length/\i=.int .i64 k/\Hid (∀j,j<k->RN m.aO.length (gZ m.aA j).2=true)/\∃g:Grow W,wr=g.x) (fun i _=>m.aA.length - (intOf i).toNat)
    case atStart=>exact⟨0,by omega,rfl,ai fun j h=>by omega,g,rfl⟩
    case round =>
     obtain⟨k,hk,rfl,hH,g,rfl⟩:=hrel
     by_cases hlt:k<m.aA.length
     . obtain⟨b,off,rfl,hbl,hx⟩:=Xq.out (by omega)
       obtain⟨c0,c1,c2,c3⟩:=hx k hlt
       have hki:(0:Int)<=(k:Int)/\(k:Int)<m.aA.length:=by omega
       have hin:=hvi.out k hlt
       obtain⟨ia,ic,FK,him,-⟩:=id hin
       unfold maxLen at him
       rw[FK] at c0 hin
       obtain⟨g2,hg2⟩:=g.alloc (.cells #[.slice ia (gZ m.aA k).2.aO.length ic,.int .i64 (gZ m.aA k).2.need,.int .i64 (gZ m.aA k).2.level,.bool (gZ m.aA k).2.above] 184)
       have hn:=World.alloc_heap_new g.x (.cells #[.slice ia (gZ m.aA k).2.aO.length ic,.int .i64 (gZ m.aA k).2.need,.int .i64 (gZ m.aA k).2.level,.bool (gZ m.aA k).2.above] 184)
       rw[hg2] at hn
       have hnh:=ai hn
       obtain⟨n0,n1,n2,n3⟩:=ahB hn
       have zn:=(aF hn)
       have Zi:Hid (RN m.aO.length (gZ m.aA k).2=false->m.ok=false):=ai fun he=>by
        unfold iY.ok iY.JU
        rw[dV (p:=fun j=>RN m.aO.length (gZ m.aA j).2) hlt he]
        simp
       obtain⟨d0,hd0⟩:=aG (U8 (gZ m.aA k).2.aO m.aO.length)
       have kI:Hid (Calls Tryz.prog 151 #[.slice ia (gZ m.aA k).2.aO.length ic,.int .i64 m.aO.length] g2.x (dI (.bool d0) g2.x)):=ai ((akr _ _ (m.aO.length:Int) ⟨by omega,by omega⟩ g2.x (hin.mono g2.h)).mono fun e w' h=>h.lit hd0)
       have hrg:=ai fun(X:World) (hX:Below g2.x.heap.size g2.x X)=>ahB (ak hX hnh.out)
       replace hd0:=ai hd0
       clear hx hn hin FK
       cases d0
       . have hf:Hid (m.ok=false):=ai (Zi.out (by unfold RN;rw[hd0.out];rfl))
         go_wp2_with (first|(go_at_call 151;(with_reducible refine ax kI.out ?_);rintro e w3 ⟨rfl,hB3⟩;obtain⟨n0,n1,n2,n3⟩:=hrg.out _ hB3;(have zn3:=hB3.size);obtain⟨g3,rfl⟩:=g2.next hB3)|(go_at_call 149;(with_reducible refine ax (fV (by assumption) _) ?_);rintro e w' ⟨rfl,rfl⟩)|(go_at_call 150;(with_reducible refine ax (mD (by assumption) _) ?_);rintro e w' ⟨rfl,rfl⟩))
         go_ret
         exact aB.mk hf.out (aj hBw.out g3.h)
       cases d1:inB (gZ m.aA k).2.need 1 (gZ m.aA k).2.aO.length
       . have hf:Hid (m.ok=false):=ai (Zi.out (by unfold RN;rw[hd0.out,d1];rfl))
         go_wp2_with (first|(go_at_call 151;(with_reducible refine ax kI.out ?_);rintro e w3 ⟨rfl,hB3⟩;obtain⟨n0,n1,n2,n3⟩:=hrg.out _ hB3;(have zn3:=hB3.size);obtain⟨g3,rfl⟩:=g2.next hB3)|(go_at_call 149;(with_reducible refine ax (fV (by assumption) _) ?_);rintro e w' ⟨rfl,rfl⟩)|(go_at_call 150;(with_reducible refine ax (mD (by assumption) _) ?_);rintro e w' ⟨rfl,rfl⟩))
         go_ret
         exact aB.mk hf.out (aj hBw.out g3.h)
       cases d2:VH (gZ m.aA k).2.level
       . have hf:Hid (m.ok=false):=ai (Zi.out (by unfold RN;rw[hd0.out,d1,d2];rfl))
         go_wp2_with (first|(go_at_call 151;(with_reducible refine ax kI.out ?_);rintro e w3 ⟨rfl,hB3⟩;obtain⟨n0,n1,n2,n3⟩:=hrg.out _ hB3;(have zn3:=hB3.size);obtain⟨g3,rfl⟩:=g2.next hB3)|(go_at_call 149;(with_reducible refine ax (fV (by assumption) _) ?_);rintro e w' ⟨rfl,rfl⟩)|(go_at_call 150;(with_reducible refine ax (mD (by assumption) _) ?_);rintro e w' ⟨rfl,rfl⟩))
         go_ret
         exact aB.mk hf.out (aj hBw.out g3.h)
       have hf:Hid (RN m.aO.length (gZ m.aA k).2=true):=ai (by unfold RN;rw[hd0.out,d1,d2];rfl)
       have hH':Hid (∀j,j<k+1->RN m.aO.length (gZ m.aA j).2=true):=ai (fK (p:=fun j=>RN m.aO.length (gZ m.aA j).2) hH.out hf.out)
       go_wp2_with (first|(go_at_call 151;(with_reducible refine ax kI.out ?_);rintro e w3 ⟨rfl,hB3⟩;obtain⟨n0,n1,n2,n3⟩:=hrg.out _ hB3;(have zn3:=hB3.size);obtain⟨g3,rfl⟩:=g2.next hB3)|(go_at_call 149;(with_reducible refine ax (fV (by assumption) _) ?_);rintro e w' ⟨rfl,rfl⟩)|(go_at_call 150;(with_reducible refine ax (mD (by assumption) _) ?_);rintro e w' ⟨rfl,rfl⟩))
       exact⟨⟨k+1,by omega,by go_num,hH',g3,rfl⟩,by simp[intOf];omega⟩
     . obtain rfl:k=m.aA.length:=by omega
       have hvB:Hid (m.JU=true):=ai (pg fun j hj=>hH.out j hj)
       clear hH Xq hvi
       obtain⟨t1,ht1⟩:=aG ((m.moves.any fun q=>!Ai m.aA.length m.states m.cmds q.2))
       obtain⟨t2,ht2⟩:=aG ((m.opn.any fun n=>!inB n 0 255))
       have hgW:=nS.out.mono g.h
       have kM:Hid (Calls Tryz.prog 152 #[.slice xa m.moves.length xc,.func (.func 153) #[] #[.pointer (some ⟨w.heap.size,0,none⟩)]] g.x (dI (.bool t1) g.x)) :=
        ai ((Wq _ m.moves (fun q=>!Ai m.aA.length m.states m.cmds q.2) 153 #[.pointer (some ⟨w.heap.size,0,none⟩)] g.x hgW.moves.els (fun args w=>by kernel_rfl) fun d hd X hX=>by
         obtain⟨j,hj,rfl⟩:=agB hd
         exact aea _ m _ _ _ va vc _ (by omega) ⟨by omega,by omega⟩ ⟨by omega,by omega⟩ X (ak (aj g.h hX) eh.out) ((hgW.moves.ins j hj).mono hX) (hgW.moves.cap j hj)).mono fun e w' h=>h.lit ht1)
       have kO:Hid (∀X,Below g.x.heap.size g.x X->Calls Tryz.prog 155 #[.slice oa m.opn.length oc,.func (.func 156) #[] #[]] X (dI (.bool t2) X)) :=
        ai fun X hX=>((yS _ m.opn (fun n=>!inB n 0 255) 156 #[] X (hgW.opn.mono hX) (fun args w=>by kernel_rfl) fun d _ Y _=>akt d Y).mono fun e w' h=>h.lit ht2)
       have hf:Hid (m.ok=(!t1 && !t2)):=ai (by unfold iY.ok iY.Qr iY.agN;rw[hhd.out,hsB.out,hvB.out,ht1,ht2];rfl)
       replace ht1:=ai ht1
       replace ht2:=ai ht2
       clear hgW
       cases t1
       . go_wp2_with (first|(go_at_call 152;(with_reducible refine ax kM.out ?_);rintro e w3 ⟨rfl,hB3⟩;(have hX:=hB3);obtain⟨g3,rfl⟩:=g.next hB3)|(go_at_call 155;(with_reducible refine ax (kO.out _ hX) ?_);rintro e w4 ⟨rfl,hB4⟩;obtain⟨g4,rfl⟩:=g3.next hB4))
         go_ret
         exact aB.mk (by rw[hf.out];rfl) (aj hBw.out g4.h)
       . go_wp2_with (first|(go_at_call 152;(with_reducible refine ax kM.out ?_);rintro e w3 ⟨rfl,hB3⟩;(have hX:=hB3);obtain⟨g3,rfl⟩:=g.next hB3))
         go_ret
         exact aB.mk (by rw[hf.out];rfl) (aj hBw.out g3.h)
theorem ad_ (m:iY)(s v x o:Value)(w:World)(h:Aq w s v x o m):Calls Tryz.prog 142 #[JG s v x o m] w (dI (.int .i64 (if m.ok=true then 0 else 2)) w):=by
 obtain⟨W,hW⟩:=aG (w.alloc (Nq s v x o m))
 obtain⟨e,bW,z⟩:=boxedB hW
 obtain⟨p0,p1,p2,p3,p4,p5,p6⟩:=Jf e
 have kV:=ai (Ue m s v x o W (h.mono bW))
 obtain⟨sa,sc,rfl,-,-⟩:=h.aO
 obtain⟨va,vc,rfl,-,-⟩:=h.aA.els
 obtain⟨xa,xc,rfl,-,-⟩:=h.moves.els
 obtain⟨oa,oc,rfl,-,-⟩:=h.opn
 have hb:=ai bW
 clear h e bW
 cases hm:m.ok
 all_goals
  rw[hm] at kV
  go_enter Tryz.func142,Tryz.ntmps142
  go_wp2_with (go_at_call 105;(with_reducible refine ax kV.out ?_);rintro e w' ⟨t,rfl,ht,hB⟩;(have ht2:=ht.out);clear ht;subst ht2)
  go_ret
  exact⟨by simp,aj hb.out hB⟩
def iW (w:World)(e:Ending)(w':World):Prop:=∃t:Bool,e=.returned (.bool t)/\Below w.heap.size w w'
theorem iW.mk {w w':World}{t:Bool}(h:Below w.heap.size w w'):iW w (.returned (.bool t)) w':=⟨t,rfl,h⟩
theorem tu {a b c:Int}{t:Bool}(h:inB a b c=t)(w:World):Calls Tryz.prog 128 #[.int .i64 a,.int .i64 b,.int .i64 c] w fun e w'=>e=.returned (.bool t)/\w=w' :=
 (atg a b c w).mono fun e w' ⟨t',he,ht,hw⟩=>⟨by rw[he,<- ht.out,h],hw⟩
theorem ald {a b c:Int}{t:Bool}(h:inB a b c=t)(X:World):Calls Tryz.prog 128 #[.int .i64 a,.int .i64 b,.int .i64 c] X (dI (.bool t) X) :=
 (tu h X).mono fun e w' ⟨he,hw⟩=>⟨he,hw ▸ Below.refl _ _⟩
theorem aeF {l:List Wn}{j k:Nat}(hj:j<k)(hk:k<l.length)(h:((lN l j).jO == (lN l k).jO)=true):((l.take k).any fun o=>o.jO == (lN l k).jO)=true:=by
 refine List.any_eq_true.2 ⟨lN l j,?_,h⟩
 rw[PE (by omega)]
 exact List.mem_take_iff_getElem.2 ⟨j,by omega,rfl⟩
theorem adw {l:List Wn}{k:Nat}(hk:k<l.length)(h:∀u,u<k->((lN l u).jO == (lN l k).jO)=false):((l.take k).any fun o=>o.jO == (lN l k).jO)=false:=by
 refine List.any_eq_false.2 fun o ho=>?_
 obtain⟨j,hj,rfl⟩:=List.mem_take_iff_getElem.1 ho
 have h1:=h j (by omega)
 rw[PE (show j<l.length by omega)] at h1
 rw[h1]
 exact Bool.false_ne_true
theorem aos (p:Vt)(v:Value)(n:Nat)(hn:n<=1000)(w:World)(h:bK w v p.aO)(hl:p.aO.length<=1000):Calls Tryz.prog 127 #[vtV v p,.int .i64 n] w (aB (RN n p) w):=by
 obtain⟨W,hW⟩:=aG (w.alloc (vtO v p))
 obtain⟨e,bW,z⟩:=boxedB hW
 obtain⟨q0,q1,q2,q3⟩:=ahB e
 obtain⟨a,cap,rfl,hm,hc⟩:=(h.mono bW).form
 have hBw:=ai bW
 have hg:=az W
 have hrow:Hid (0<p.aO.length->_):=ai hc
 have hnn:(0:Int)<=(n:Int)/\(n:Int)<=1000:=by omega
 clear e bW h hc
 go_enter Tryz.func127,Tryz.ntmps127
 go_wp2_with (fail)
 go_loopw [5] (fun i wr=>∃k:Nat,k<=p.aO.length/\i=.int .i64 k/\Hid (∀j,j<k->yD p.aO n j=true)/\∃g:Grow W,wr=g.x) (fun i _=>p.aO.length - (intOf i).toNat)
 case atStart=>exact⟨0,by omega,rfl,ai fun j h=>by omega,Grow.self W,rfl⟩
 case round =>
  obtain⟨k,hk,rfl,hH,g,rfl⟩:=hrel
  by_cases hlt:k<p.aO.length
  . obtain⟨b,off,rfl,hbl,hx⟩:=hrow.out (by omega)
    have c0:W.cell? ⟨b,off+k,none⟩=some (.int .i64 (Lk.at0 p.aO k)):=by have h:=hx k 0 _ hlt rfl;rwa [Nat.mul_one,Nat.add_zero] at h
    have hki:(0:Int)<=(k:Int)/\(k:Int)<p.aO.length:=by omega
    obtain⟨t,h1⟩:=aG (inB (Lk.at0 p.aO k) 0 ((n:Int) - 1))
    have kI:Hid (∀h:Grow g.x,Calls Tryz.prog 128 #[.int .i64 (Lk.at0 p.aO k),.int .i64 0,.int .i64 ((n:Int) - 1)] h.x (dI (.bool t) h.x)):=ai fun h=>ald h1 h.x
    have ht0:Hid (yD p.aO n k=(t && (decide (k=0) || decide (Lk.at0 p.aO (k - 1)<Lk.at0 p.aO k)))):=ai (by rw[<- h1];rfl)
    clear h1
    cases t
    . have hf:Hid (RN n p=false):=ai (by unfold RN U8;rw[dV hlt (by rw[ht0.out];rfl)];rfl)
      clear hx ht0
      go_wp2_with (fail)
      have hgg:∀(h:Grow g.x) (b o:Nat),b<W.heap.size->h.x.cell? ⟨b,o,none⟩=W.cell? ⟨b,o,none⟩:=fun h b o hb=>(az g.x h b o (bM hb g.size)).trans (az W g b o hb)
      refine aH (by kernel_rfl) (by kernel_rfl) ?_
      repeat (go_big_quiet_step ((first|(go_at_call 128;with_reducible exact Calls.grow (kI.out _)))))
      refine wpQuiet_nil ?_
      rintro _ ⟨gx,rfl⟩
      clear hgg
      obtain⟨g2,hg2⟩:=g.next gx.h
      rw[hg2]
      clear hg2 gx
      go_wp2_with (fail)
      go_ret
      exact aB.mk hf.out (aj hBw.out g2.h)
    by_cases hk0:k=0
    . subst hk0
      clear hx
      simp only[Nat.add_zero] at c0
      have hf:Hid (yD p.aO n 0=true):=ai (by rw[ht0.out];rfl)
      have hH':Hid (∀j,j<0+1->yD p.aO n j=true):=ai (fK hH.out hf.out)
      clear ht0
      go_wp2_with (fail)
      have hgg:∀(h:Grow g.x) (b o:Nat),b<W.heap.size->h.x.cell? ⟨b,o,none⟩=W.cell? ⟨b,o,none⟩:=fun h b o hb=>(az g.x h b o (bM hb g.size)).trans (az W g b o hb)
      refine aH (by kernel_rfl) (by kernel_rfl) ?_
      repeat (go_big_quiet_step ((first|(go_at_call 128;with_reducible exact Calls.grow (kI.out _)))))
      refine wpQuiet_nil ?_
      rintro _ ⟨gx,rfl⟩
      clear hgg
      obtain⟨g2,hg2⟩:=g.next gx.h
      rw[hg2]
      clear hg2 gx
      go_wp2_with (fail)
      exact⟨⟨0+1,by omega,by go_num,hH',g2,rfl⟩,by simp[intOf];omega⟩
    have c1:W.cell? ⟨b,off+(k - 1),none⟩=some (.int .i64 (Lk.at0 p.aO (k - 1))):=by have h:=hx (k - 1) 0 _ (by omega) rfl;rwa [Nat.mul_one,Nat.add_zero] at h
    have hkp:0<k:=by omega
    have hkq:decide (0<k)=true:=by simpa using hkp
    have hk1:(0:Int)<(k:Int)/\(0:Int)<=(k:Int) - 1/\(k:Int) - 1<p.aO.length:=by omega
    clear hx
    by_cases d1:Lk.at0 p.aO k<=Lk.at0 p.aO (k - 1)
    . have hf:Hid (RN n p=false):=ai (by unfold RN U8;rw[dV hlt (by rw[ht0.out];simp[hk0];omega)];rfl)
      clear ht0
      go_wp2_with (fail)
      have hgg:∀(h:Grow g.x) (b o:Nat),b<W.heap.size->h.x.cell? ⟨b,o,none⟩=W.cell? ⟨b,o,none⟩:=fun h b o hb=>(az g.x h b o (bM hb g.size)).trans (az W g b o hb)
      refine aH (by kernel_rfl) (by kernel_rfl) ?_
      repeat (go_big_quiet_step ((first|(go_at_call 128;with_reducible exact Calls.grow (kI.out _)))))
      refine wpQuiet_nil ?_
      rintro _ ⟨gx,rfl⟩
      clear hgg
      obtain⟨g2,hg2⟩:=g.next gx.h
      rw[hg2]
      clear hg2 gx
      go_wp2_with (fail)
      go_ret
      exact aB.mk hf.out (aj hBw.out g2.h)
    . have d2:Lk.at0 p.aO (k - 1)<Lk.at0 p.aO k:=by omega
      have hf:Hid (yD p.aO n k=true):=ai (by rw[ht0.out];simp[d2])
      have hH':Hid (∀j,j<k+1->yD p.aO n j=true):=ai (fK hH.out hf.out)
      clear ht0
      go_wp2_with (fail)
      have hgg:∀(h:Grow g.x) (b o:Nat),b<W.heap.size->h.x.cell? ⟨b,o,none⟩=W.cell? ⟨b,o,none⟩:=fun h b o hb=>(az g.x h b o (bM hb g.size)).trans (az W g b o hb)
      refine aH (by kernel_rfl) (by kernel_rfl) ?_
      repeat (go_big_quiet_step ((first|(go_at_call 128;with_reducible exact Calls.grow (kI.out _)))))
      refine wpQuiet_nil ?_
      rintro _ ⟨gx,rfl⟩
      clear hgg
      obtain⟨g2,hg2⟩:=g.next gx.h
      rw[hg2]
      clear hg2 gx
      go_wp2_with (fail)
      exact⟨⟨k+1,by omega,by go_num,hH',g2,rfl⟩,by simp[intOf];omega⟩
  . obtain rfl:k=p.aO.length:=by omega
    have hi:Hid (U8 p.aO n=true):=ai (pg fun j hj=>hH.out j hj)
    clear hrow hH
    cases h1:inB p.need 1 p.aO.length
    . have hf:Hid (RN n p=false):=ai (by unfold RN;rw[h1];simp)
      go_wp2_with (go_at_call 128;(with_reducible refine ax (tu (by assumption) _) ?_);rintro e w' ⟨rfl,rfl⟩)
      go_ret
      exact aB.mk hf.out (aj hBw.out g.h)
    obtain⟨t2,h2⟩:=aG (inB p.level (-10000) 10000)
    have hf:Hid (RN n p=t2):=ai (by unfold RN;rw[h1,hi.out];show(true && true && VH p.level)=t2;rw[<- h2];rfl)
    go_wp2_with (go_at_call 128;(with_reducible refine ax (tu (by assumption) _) ?_);rintro e w' ⟨rfl,rfl⟩)
    go_ret
    exact aB.mk hf.out (aj hBw.out g.h)
theorem ano (p:Mv)(wv:Value)(m:iY)(s x o:Value)(va:Option Addr)(vc:Nat)(hn:m.aA.length<=1000)(hs : -1000<=m.states/\m.states<=1000)(hcm : -1000<=m.cmds/\m.cmds<=1000)(w:World)(h:uD w wv p.wants)(hl:p.wants.length<=1000) :
    Calls Tryz.prog 129 #[JG s (.slice va m.aA.length vc) x o m,mvV wv p] w (aB (Ai m.aA.length m.states m.cmds p) w):=by
 obtain⟨W1,hW1⟩:=aG (w.alloc (Nq s (.slice va m.aA.length vc) x o m))
 obtain⟨e1,b1,z1⟩:=boxedB hW1
 obtain⟨W,hW⟩:=aG (W1.alloc (mvO wv p))
 obtain⟨e,bW,z⟩:=boxedB hW
 obtain⟨q0,q1,q2,q3,q4⟩:=ahC e
 obtain⟨p0,p1,p2,p3,p4,p5,p6⟩:=Jf (ak bW e1)
 obtain⟨a,cap,rfl,hm,hc⟩:=((h.mono b1).mono bW).form
 have hBw:=ai (aj b1 bW)
 have hg:=az W
 have zz:w.heap.size<W.heap.size:=by omega
 have hrow:Hid (0<p.wants.length->_):=ai hc
 have hnv:(0:Int)<=(m.aA.length:Int)/\(m.aA.length:Int)<=1000:=by omega
 clear e bW e1 b1 h hc
 go_enter Tryz.func129,Tryz.ntmps129
 go_wp2_with (fail)
 go_loopw [5] (fun i wr=>∃k:Nat,k<=p.wants.length/\i=.int .i64 k/\Hid (∀j,j<k->RP m.aA.length p.wants j=true)/\∃g:Grow W,wr=g.x) (fun i _=>p.wants.length - (intOf i).toNat)
 case atStart=>exact⟨0,by omega,rfl,ai fun j h=>by omega,Grow.self W,rfl⟩
 case round =>
  obtain⟨k,hk,rfl,hH,g,rfl⟩:=hrel
  by_cases hlt:k<p.wants.length
  . obtain⟨b,off,rfl,hbl,hx⟩:=hrow.out (by omega)
    have c0:W.cell? ⟨b,off+k*2,none⟩=some (.int .i64 (lN p.wants k).jO):=hx k 0 _ hlt rfl
    have hki:(0:Int)<=(k:Int)/\(k:Int)<p.wants.length:=by omega
    have hxh:=ai hx
    clear hx
    obtain⟨t,h1⟩:=aG (inB (lN p.wants k).jO 0 ((m.aA.length:Int) - 1))
    have kI:Hid (∀h:Grow g.x,Calls Tryz.prog 128 #[.int .i64 (lN p.wants k).jO,.int .i64 0,.int .i64 ((m.aA.length:Int) - 1)] h.x (dI (.bool t) h.x)):=ai fun h=>ald h1 h.x
    have ht0:Hid (RP m.aA.length p.wants k=(t && !((p.wants.take k).any fun o=>o.jO == (lN p.wants k).jO))):=ai (by rw[PG,h1])
    clear h1
    cases t
    . have hf:Hid (Ai m.aA.length m.states m.cmds p=false):=ai (by unfold Ai wnB;rw[dV hlt (by rw[ht0.out];rfl)];rfl)
      go_wp2_with (fail)
      have hgg:∀(h:Grow g.x) (b o:Nat),b<W.heap.size->h.x.cell? ⟨b,o,none⟩=W.cell? ⟨b,o,none⟩:=fun h b o hb=>(az g.x h b o (bM hb g.size)).trans (az W g b o hb)
      refine aH (by kernel_rfl) (by kernel_rfl) ?_
      repeat (go_big_quiet_step ((first|(go_at_call 128;with_reducible exact Calls.grow (kI.out _)))))
      refine wpQuiet_nil ?_
      rintro _ ⟨gx,rfl⟩
      clear hgg
      obtain⟨g2,hg2⟩:=g.next gx.h
      rw[hg2]
      clear hg2 gx
      go_wp2_with (fail)
      go_ret
      exact aB.mk hf.out (aj hBw.out g2.h)
    go_wp2_with (fail)
    have hgg:∀(h:Grow g.x) (b o:Nat),b<W.heap.size->h.x.cell? ⟨b,o,none⟩=W.cell? ⟨b,o,none⟩:=fun h b o hb=>(az g.x h b o (bM hb g.size)).trans (az W g b o hb)
    refine aH (by kernel_rfl) (by kernel_rfl) ?_
    repeat (go_big_quiet_step ((first|(go_at_call 128;with_reducible exact Calls.grow (kI.out _)))))
    refine wpQuiet_nil ?_
    rintro _ ⟨gx,rfl⟩
    clear hgg
    obtain⟨g2,hg2⟩:=g.next gx.h
    rw[hg2]
    clear hg2 gx
    go_wp2_with (fail)
    go_loopw [6] (fun i wr=>∃j:Nat,j<=k/\i=.int .i64 j/\Hid (∀u,u<j->((lN p.wants u).jO == (lN p.wants k).jO)=false)/\∃g:Grow W,wr=g.x) (fun i _=>k - (intOf i).toNat)
    case atStart=>exact⟨0,by omega,rfl,ai fun u h=>by omega,g2,rfl⟩
    case round =>
     obtain⟨j,hj,rfl,hI,g,rfl⟩:=hrel
     by_cases hjk:j<k
     . have d0:W.cell? ⟨b,off+j*2,none⟩=some (.int .i64 (lN p.wants j).jO):=hxh.out j 0 _ (by omega) rfl
       have hji:(0:Int)<=(j:Int)/\(j:Int)<k/\(j:Int)<p.wants.length:=by omega
       cases hv:((lN p.wants j).jO == (lN p.wants k).jO)
       . have hI':Hid (∀u,u<j+1->((lN p.wants u).jO == (lN p.wants k).jO)=false):=ai fun u hu=>by
          rcases Nat.lt_succ_iff_lt_or_eq.1 hu with h|rfl
          . exact hI.out u h
          . exact hv
         clear ht0
         go_wp2_with (fail)
         go_quiet (fail)
         go_wp2_with (fail)
         obtain⟨g3,hg3⟩:=g.next (below_drewN (Below.refl _ _) nq)
         exact⟨⟨j+1,by omega,by go_num,hI',g3,hg3⟩,by simp[intOf];omega⟩
       . have hf:Hid (Ai m.aA.length m.states m.cmds p=false):=ai (by
          unfold Ai wnB
          rw[dV hlt (by rw[ht0.out,aeF hjk hlt hv];rfl)]
          rfl)
         clear ht0
         go_wp2_with (fail)
         go_quiet (fail)
         go_wp2_with (fail)
         go_ret
         exact aB.mk hf.out (aj hBw.out (g.h.trans (below_drewN (Below.refl _ _) nq)))
     . obtain rfl:j=k:=by omega
       have hf:Hid (RP m.aA.length p.wants j=true):=ai (by rw[ht0.out,adw (by omega) hI.out];rfl)
       have hH':Hid (∀u,u<j+1->RP m.aA.length p.wants u=true):=ai (fK hH.out hf.out)
       clear ht0
       go_wp2_with (fail)
       exact⟨⟨j+1,by omega,by go_num,hH',g,rfl⟩,by simp[intOf];omega⟩
  . obtain rfl:k=p.wants.length:=by omega
    have hw:Hid (wnB m.aA.length p.wants=true):=ai (pg fun j hj=>hH.out j hj)
    clear hrow hH
    cases h1:inB p.src 0 (m.states - 1)
    . have hf:Hid (Ai m.aA.length m.states m.cmds p=false):=ai (by unfold Ai;simp[h1])
      go_wp2_with (go_at_call 128;(with_reducible refine ax (tu (by assumption) _) ?_);rintro e w' ⟨rfl,rfl⟩)
      go_ret
      exact aB.mk hf.out (aj hBw.out g.h)
    cases h2:inB p.dst 0 (m.states - 1)
    . have hf:Hid (Ai m.aA.length m.states m.cmds p=false):=ai (by unfold Ai;simp[h2])
      go_wp2_with (go_at_call 128;(with_reducible refine ax (tu (by assumption) _) ?_);rintro e w' ⟨rfl,rfl⟩)
      go_ret
      exact aB.mk hf.out (aj hBw.out g.h)
    by_cases h3:p.wants.length<=6
    case neg =>
     have h3':(6:Int)<p.wants.length:=by omega
     have hf:Hid (Ai m.aA.length m.states m.cmds p=false):=ai (by unfold Ai;simp[h3])
     go_wp2_with (go_at_call 128;(with_reducible refine ax (tu (by assumption) _) ?_);rintro e w' ⟨rfl,rfl⟩)
     go_ret
     exact aB.mk hf.out (aj hBw.out g.h)
    have h3':(p.wants.length:Int)<=6:=by omega
    cases h4:inB p.cmd (-1) (m.cmds - 1)
    . have hf:Hid (Ai m.aA.length m.states m.cmds p=false):=ai (by unfold Ai;simp[h4])
      go_wp2_with (go_at_call 128;(with_reducible refine ax (tu (by assumption) _) ?_);rintro e w' ⟨rfl,rfl⟩)
      go_ret
      exact aB.mk hf.out (aj hBw.out g.h)
    obtain⟨t5,h5⟩:=aG (inB p.after 0 10)
    have hf:Hid (Ai m.aA.length m.states m.cmds p=t5):=ai (by unfold Ai;simp[hw.out,h1,h2,h3,h4,h5])
    go_wp2_with (go_at_call 128;(with_reducible refine ax (tu (by assumption) _) ?_);rintro e w' ⟨rfl,rfl⟩)
    go_ret
    exact aB.mk hf.out (aj hBw.out g.h)
