/- Walks. -/
import Derived.Test.YtkjdidieiioijaaGreatK20
set_option linter.all false
set_option maxRecDepth 100000
set_option maxHeartbeats 16000000
namespace Go.Proofs.YtkjdidieiioijaaGreat.B
open Go.RowKit Go.Sd Wl Bk L
attribute [local go_sem] Oper.semAt_some
theorem oh {a:Int}{t:Bool}(h:AU a=t)(w:World):Calls Tryz.prog 198 #[.int .i64 a] w fun e w'=>e=.returned (.bool t)/\w=w' :=
 (ajh a w).mono fun e w' ⟨t',he,ht,hw⟩=>⟨by rw[he,<- ht.out,h],hw⟩
theorem m_ {a:Int}{t:Bool}(h:kX a=t)(w:World):Calls Tryz.prog 197 #[.int .i64 a] w fun e w'=>e=.returned (.bool t)/\w=w' :=
 (ajU a w).mono fun e w' ⟨t',he,ht,hw⟩=>⟨by rw[he,<- ht.out,h],hw⟩
theorem Yc (c:pY)(rv:Value)(w:World)(hr:uC w rv c.aC):Calls Tryz.prog 173 #[YR rv c] w (aB c.ok w):=by
 obtain⟨W,hW⟩:=aG (w.alloc (Wi rv c))
 obtain⟨e,bW,z⟩:=boxedB hW
 obtain⟨q0,q1,q2,q3,q4,q5,q6,q7,q8,q9,q10⟩:=xY e
 have Xp:=hr.mono bW
 obtain⟨ra,Ce,rfl,hrm,-⟩:=hr
 unfold maxLen at hrm
 have hrow:Hid (0<c.aC.length->_):=ai (Pv Xp)
 have hBw:=ai bW
 have hg:=az W
 clear e bW Xp
 obtain⟨hv,hhv⟩:=aG (pG c.lo c.hi)
 have kH:Hid (Calls Tryz.prog 196 #[.agg #[.int .i64 c.lo,.int .i64 c.hi]] W (dI (.bool hv) W)):=ai ((ai_ c.lo c.hi W).mono fun e w' h=>h.lit hhv)
 have hhh:=ai hhv
 clear hhv
 cases h1:inB c.space 1 100000000
 . have hf:Hid (c.ok=false):=ai (by unfold pY.ok headB nH;simp[h1])
   go_enter Tryz.func173,Tryz.ntmps173
   go_wp2_with (first|(go_at_call 120;(with_reducible refine ax (jK (by assumption) _) ?_);rintro e w' ⟨rfl,rfl⟩)|(go_at_call 196;(with_reducible refine ax kH.out ?_);rintro e w' ⟨rfl,hb1⟩;obtain⟨g1,rfl⟩:∃g1:Grow W,w'=g1.x:=⟨⟨w',hb1⟩,rfl⟩)|(go_at_call 197;(with_reducible refine ax (m_ (by assumption) _) ?_);rintro e w' ⟨rfl,rfl⟩))
   go_ret
   exact aB.mk hf.out hBw.out
 cases hv
 . have hf:Hid (c.ok=false):=ai (by unfold pY.ok headB nH;simp[hhh.out])
   go_enter Tryz.func173,Tryz.ntmps173
   go_wp2_with (first|(go_at_call 120;(with_reducible refine ax (jK (by assumption) _) ?_);rintro e w' ⟨rfl,rfl⟩)|(go_at_call 196;(with_reducible refine ax kH.out ?_);rintro e w' ⟨rfl,hb1⟩;obtain⟨g1,rfl⟩:∃g1:Grow W,w'=g1.x:=⟨⟨w',hb1⟩,rfl⟩)|(go_at_call 197;(with_reducible refine ax (m_ (by assumption) _) ?_);rintro e w' ⟨rfl,rfl⟩))
   go_ret
   exact aB.mk hf.out (aj hBw.out g1.h)
 cases h3:inB (c.aC.length:Int) 1 6
 . have hf:Hid (c.ok=false):=ai (by unfold pY.ok headB nH;simp[h3])
   go_enter Tryz.func173,Tryz.ntmps173
   go_wp2_with (first|(go_at_call 120;(with_reducible refine ax (jK (by assumption) _) ?_);rintro e w' ⟨rfl,rfl⟩)|(go_at_call 196;(with_reducible refine ax kH.out ?_);rintro e w' ⟨rfl,hb1⟩;obtain⟨g1,rfl⟩:∃g1:Grow W,w'=g1.x:=⟨⟨w',hb1⟩,rfl⟩)|(go_at_call 197;(with_reducible refine ax (m_ (by assumption) _) ?_);rintro e w' ⟨rfl,rfl⟩))
   go_ret
   exact aB.mk hf.out (aj hBw.out g1.h)
 cases h4:inB c.NJ 0 c.space
 . have hf:Hid (c.ok=false):=ai (by unfold pY.ok headB nH;simp[h4])
   go_enter Tryz.func173,Tryz.ntmps173
   go_wp2_with (first|(go_at_call 120;(with_reducible refine ax (jK (by assumption) _) ?_);rintro e w' ⟨rfl,rfl⟩)|(go_at_call 196;(with_reducible refine ax kH.out ?_);rintro e w' ⟨rfl,hb1⟩;obtain⟨g1,rfl⟩:∃g1:Grow W,w'=g1.x:=⟨⟨w',hb1⟩,rfl⟩)|(go_at_call 197;(with_reducible refine ax (m_ (by assumption) _) ?_);rintro e w' ⟨rfl,rfl⟩))
   go_ret
   exact aB.mk hf.out (aj hBw.out g1.h)
 cases p1:kX c.fixed
 . have hf:Hid (c.ok=false):=ai (by unfold pY.ok headB nH;simp[p1])
   go_enter Tryz.func173,Tryz.ntmps173
   go_wp2_with (first|(go_at_call 120;(with_reducible refine ax (jK (by assumption) _) ?_);rintro e w' ⟨rfl,rfl⟩)|(go_at_call 196;(with_reducible refine ax kH.out ?_);rintro e w' ⟨rfl,hb1⟩;obtain⟨g1,rfl⟩:∃g1:Grow W,w'=g1.x:=⟨⟨w',hb1⟩,rfl⟩)|(go_at_call 197;(with_reducible refine ax (m_ (by assumption) _) ?_);rintro e w' ⟨rfl,rfl⟩))
   go_ret
   exact aB.mk hf.out (aj hBw.out g1.h)
 cases p2:kX c.iq
 . have hf:Hid (c.ok=false):=ai (by unfold pY.ok headB nH;simp[p2])
   go_enter Tryz.func173,Tryz.ntmps173
   go_wp2_with (first|(go_at_call 120;(with_reducible refine ax (jK (by assumption) _) ?_);rintro e w' ⟨rfl,rfl⟩)|(go_at_call 196;(with_reducible refine ax kH.out ?_);rintro e w' ⟨rfl,hb1⟩;obtain⟨g1,rfl⟩:∃g1:Grow W,w'=g1.x:=⟨⟨w',hb1⟩,rfl⟩)|(go_at_call 197;(with_reducible refine ax (m_ (by assumption) _) ?_);rintro e w' ⟨rfl,rfl⟩))
   go_ret
   exact aB.mk hf.out (aj hBw.out g1.h)
 cases p3:kX c.out
 . have hf:Hid (c.ok=false):=ai (by unfold pY.ok headB nH;simp[p3])
   go_enter Tryz.func173,Tryz.ntmps173
   go_wp2_with (first|(go_at_call 120;(with_reducible refine ax (jK (by assumption) _) ?_);rintro e w' ⟨rfl,rfl⟩)|(go_at_call 196;(with_reducible refine ax kH.out ?_);rintro e w' ⟨rfl,hb1⟩;obtain⟨g1,rfl⟩:∃g1:Grow W,w'=g1.x:=⟨⟨w',hb1⟩,rfl⟩)|(go_at_call 197;(with_reducible refine ax (m_ (by assumption) _) ?_);rintro e w' ⟨rfl,rfl⟩))
   go_ret
   exact aB.mk hf.out (aj hBw.out g1.h)
 cases p4:kX c.cut
 . have hf:Hid (c.ok=false):=ai (by unfold pY.ok headB nH;simp[p4])
   go_enter Tryz.func173,Tryz.ntmps173
   go_wp2_with (first|(go_at_call 120;(with_reducible refine ax (jK (by assumption) _) ?_);rintro e w' ⟨rfl,rfl⟩)|(go_at_call 196;(with_reducible refine ax kH.out ?_);rintro e w' ⟨rfl,hb1⟩;obtain⟨g1,rfl⟩:∃g1:Grow W,w'=g1.x:=⟨⟨w',hb1⟩,rfl⟩)|(go_at_call 197;(with_reducible refine ax (m_ (by assumption) _) ?_);rintro e w' ⟨rfl,rfl⟩))
   go_ret
   exact aB.mk hf.out (aj hBw.out g1.h)
 cases p5:kX c.lack
 . have hf:Hid (c.ok=false):=ai (by unfold pY.ok headB nH;simp[p5])
   go_enter Tryz.func173,Tryz.ntmps173
   go_wp2_with (first|(go_at_call 120;(with_reducible refine ax (jK (by assumption) _) ?_);rintro e w' ⟨rfl,rfl⟩)|(go_at_call 196;(with_reducible refine ax kH.out ?_);rintro e w' ⟨rfl,hb1⟩;obtain⟨g1,rfl⟩:∃g1:Grow W,w'=g1.x:=⟨⟨w',hb1⟩,rfl⟩)|(go_at_call 197;(with_reducible refine ax (m_ (by assumption) _) ?_);rintro e w' ⟨rfl,rfl⟩))
   go_ret
   exact aB.mk hf.out (aj hBw.out g1.h)
 have hhd:Hid (headB c=true):=ai (by unfold headB nH;simp[h1,hhh.out,h3,h4,p1,p2,p3,p4,p5])
 go_enter Tryz.func173,Tryz.ntmps173
 go_wp2_with (first|(go_at_call 120;(with_reducible refine ax (jK (by assumption) _) ?_);rintro e w' ⟨rfl,rfl⟩)|(go_at_call 196;(with_reducible refine ax kH.out ?_);rintro e w' ⟨rfl,hb1⟩;obtain⟨g1,rfl⟩:∃g1:Grow W,w'=g1.x:=⟨⟨w',hb1⟩,rfl⟩)|(go_at_call 197;(with_reducible refine ax (m_ (by assumption) _) ?_);rintro e w' ⟨rfl,rfl⟩))
 clear h1 h3 h4 p1 p2 p3 p4 p5 kH
 go_loopw [3] (fun i wr=>∃k:Nat,k<=c.aC.length/\i=.int .i64 k/\Hid (∀j,j<k->Gz c.aC j=true)/\∃g:Grow W,wr=g.x) (fun i _=>c.aC.length - (intOf i).toNat)
 case atStart=>exact⟨0,by omega,rfl,ai fun j h=>by omega,g1,rfl⟩
 case round =>
  obtain⟨k,hk,rfl,hH,g,rfl⟩:=hrel
  by_cases hlt:k<c.aC.length
  . obtain⟨b,off,rfl,hbl,hrk⟩:=hrow.out (by omega)
    obtain⟨c0,c1,c2⟩:=hrk k hlt
    have hki:(0:Int)<=(k:Int)/\(k:Int)<c.aC.length:=by omega
    obtain⟨t,ht⟩:=aG (Gz c.aC k)
    have ht0:=ht
    unfold Gz at ht
    replace ht0:=ai ht0
    obtain⟨g2,hg2⟩:=g.alloc (rtO (dD c.aC k))
    have hn:=World.alloc_heap_new g.x (rtO (dD c.aC k))
    rw[hg2] at hn
    obtain⟨n0,n1,n2⟩:=z_ hn
    have zn:=(aF hn)
    have ai':=ai hrk
    clear hn hrk
    cases h1:inB (dD c.aC k).fill 0 1000
    . have hf:Hid (Gz c.aC k=false):=ai (by rw[ht0.out,<- ht];simp[h1])
      replace ht:=ai ht
      go_wp2_with (first|(go_at_call 120;(with_reducible refine ax (jK (by assumption) _) ?_);rintro e w' ⟨rfl,rfl⟩)|(go_at_call 198;(with_reducible refine ax (oh (by assumption) _) ?_);rintro e w' ⟨rfl,rfl⟩))
      go_ret
      exact aB.mk (by unfold pY.ok;rw[dV hlt hf.out];simp) (aj hBw.out g2.h)
    cases h2:AU (dD c.aC k).iq
    . have hf:Hid (Gz c.aC k=false):=ai (by rw[ht0.out,<- ht];simp[h1,h2])
      replace ht:=ai ht
      go_wp2_with (first|(go_at_call 120;(with_reducible refine ax (jK (by assumption) _) ?_);rintro e w' ⟨rfl,rfl⟩)|(go_at_call 198;(with_reducible refine ax (oh (by assumption) _) ?_);rintro e w' ⟨rfl,rfl⟩))
      go_ret
      exact aB.mk (by unfold pY.ok;rw[dV hlt hf.out];simp) (aj hBw.out g2.h)
    cases h3:AU (dD c.aC k).out
    . have hf:Hid (Gz c.aC k=false):=ai (by rw[ht0.out,<- ht];simp[h1,h2,h3])
      replace ht:=ai ht
      go_wp2_with (first|(go_at_call 120;(with_reducible refine ax (jK (by assumption) _) ?_);rintro e w' ⟨rfl,rfl⟩)|(go_at_call 198;(with_reducible refine ax (oh (by assumption) _) ?_);rintro e w' ⟨rfl,rfl⟩))
      go_ret
      exact aB.mk (by unfold pY.ok;rw[dV hlt hf.out];simp) (aj hBw.out g2.h)
    by_cases hk0:k=0
    . subst hk0
      simp only[Nat.zero_mul,Nat.add_zero] at c0 c1 c2
      by_cases hf0:(dD c.aC 0).fill=0
      . have hf:Hid (Gz c.aC 0=true):=ai (by rw[ht0.out,<- ht];simp[h1,h2,h3,hf0];try decide)
        have hb0:((dD c.aC 0).fill != 0)=false:=by rw[hf0];rfl
        replace hf0:=ai hf0
        replace ht:=ai ht
        go_wp2_with (first|(go_at_call 120;(with_reducible refine ax (jK (by assumption) _) ?_);rintro e w' ⟨rfl,rfl⟩)|(go_at_call 198;(with_reducible refine ax (oh (by assumption) _) ?_);rintro e w' ⟨rfl,rfl⟩))
        go_quiet (fail)
        go_wp2_with (fail)
        have hH':Hid (∀j,j<0+1->Gz c.aC j=true):=ai (fK hH.out hf.out)
        obtain⟨g3,hg3⟩:=g2.next (below_drewN (Below.refl _ _) nq)
        exact⟨⟨0+1,by omega,by go_num,hH',g3,hg3⟩,by simp[intOf];omega⟩
      . have hf:Hid (Gz c.aC 0=false):=ai (by rw[ht0.out,<- ht];simp[h1,h2,h3,hf0])
        have hb0:((dD c.aC 0).fill != 0)=true:=by simpa using hf0
        replace hf0:=ai hf0
        replace ht:=ai ht
        go_wp2_with (first|(go_at_call 120;(with_reducible refine ax (jK (by assumption) _) ?_);rintro e w' ⟨rfl,rfl⟩)|(go_at_call 198;(with_reducible refine ax (oh (by assumption) _) ?_);rintro e w' ⟨rfl,rfl⟩))
        go_ret
        exact aB.mk (by unfold pY.ok;rw[dV hlt hf.out];simp) (aj hBw.out g2.h)
    . obtain⟨p0,p1,p2⟩:=ai'.out (k - 1) (by omega)
      have hkz:((k:Int) == 0)=false:=by simp;omega
      have hkp:0<k:=by omega
      have hkq:decide (0<k)=true:=by simpa using hkp
      have hk1:(0:Int)<(k:Int)/\(0:Int)<=(k:Int) - 1/\(k:Int) - 1<c.aC.length:=by omega
      cases d1:decide ((dD c.aC k).fill<=(dD c.aC (k - 1)).fill)
      . have e1:(dD c.aC (k - 1)).fill<(dD c.aC k).fill:=by simpa using d1
        cases d2:decide ((dD c.aC (k - 1)).iq<(dD c.aC k).iq)
        . have e2:(dD c.aC k).iq<=(dD c.aC (k - 1)).iq:=by simpa using d2
          cases d3:decide ((dD c.aC k).out<(dD c.aC (k - 1)).out)
          . have e3:(dD c.aC (k - 1)).out<=(dD c.aC k).out:=by simpa using d3
            have hf:Hid (Gz c.aC k=true):=ai (by rw[ht0.out,<- ht];simp[h1,h2,h3,hk0,e1,e2,e3])
            replace ht:=ai ht
            go_wp2_with (first|(go_at_call 120;(with_reducible refine ax (jK (by assumption) _) ?_);rintro e w' ⟨rfl,rfl⟩)|(go_at_call 198;(with_reducible refine ax (oh (by assumption) _) ?_);rintro e w' ⟨rfl,rfl⟩))
            go_quiet (fail)
            go_wp2_with (fail)
            have hH':Hid (∀j,j<k+1->Gz c.aC j=true):=ai (fK hH.out hf.out)
            obtain⟨g3,hg3⟩:=g2.next (below_drewN (Below.refl _ _) nq)
            exact⟨⟨k+1,by omega,by go_num,hH',g3,hg3⟩,by simp[intOf];omega⟩
          . have e3:(dD c.aC k).out<(dD c.aC (k - 1)).out:=by simpa using d3
            have hf:Hid (Gz c.aC k=false):=ai (by rw[ht0.out,<- ht];simp[h1,h2,h3,hk0,e1,e2,e3])
            replace ht:=ai ht
            go_wp2_with (first|(go_at_call 120;(with_reducible refine ax (jK (by assumption) _) ?_);rintro e w' ⟨rfl,rfl⟩)|(go_at_call 198;(with_reducible refine ax (oh (by assumption) _) ?_);rintro e w' ⟨rfl,rfl⟩))
            go_quiet (fail)
            go_wp2_with (fail)
            go_ret
            exact aB.mk (by unfold pY.ok;rw[dV hlt hf.out];simp) (aj hBw.out (below_drewN g2.h _))
        . have e2:(dD c.aC (k - 1)).iq<(dD c.aC k).iq:=by simpa using d2
          have hf:Hid (Gz c.aC k=false):=ai (by rw[ht0.out,<- ht];simp[h1,h2,h3,hk0,e1,e2] <;> (intros;omega))
          replace ht:=ai ht
          go_wp2_with (first|(go_at_call 120;(with_reducible refine ax (jK (by assumption) _) ?_);rintro e w' ⟨rfl,rfl⟩)|(go_at_call 198;(with_reducible refine ax (oh (by assumption) _) ?_);rintro e w' ⟨rfl,rfl⟩))
          go_quiet (fail)
          go_wp2_with (fail)
          go_ret
          exact aB.mk (by unfold pY.ok;rw[dV hlt hf.out];simp) (aj hBw.out (below_drewN g2.h _))
      . have e1:(dD c.aC k).fill<=(dD c.aC (k - 1)).fill:=by simpa using d1
        have hf:Hid (Gz c.aC k=false):=ai (by rw[ht0.out,<- ht];simp[h1,h2,h3,hk0,e1] <;> (intros;omega))
        replace ht:=ai ht
        go_wp2_with (first|(go_at_call 120;(with_reducible refine ax (jK (by assumption) _) ?_);rintro e w' ⟨rfl,rfl⟩)|(go_at_call 198;(with_reducible refine ax (oh (by assumption) _) ?_);rintro e w' ⟨rfl,rfl⟩))
        go_quiet (fail)
        go_wp2_with (fail)
        go_ret
        exact aB.mk (by unfold pY.ok;rw[dV hlt hf.out];simp) (aj hBw.out (below_drewN g2.h _))
  . have hall:Hid (c.ok=true):=ai (by unfold pY.ok;rw[pg fun j hj=>hH.out j (by omega),hhd.out];rfl)
    clear hH hrow
    go_wp2_with (fail)
    go_ret
    exact aB.mk hall.out (aj hBw.out g.h)
end Go.Proofs.YtkjdidieiioijaaGreat.B
namespace Bk
end Bk
namespace Go.Proofs.YtkjdidieiioijaaGreat.B
open Go.RowKit Go.Sd Wl Bk L
attribute [local go_sem] Oper.semAt_some
theorem aon {w:World}{g:Nat}{a0 a1 a2:Value}{t:TypeId}(h:w.heap[g]? = some (.cells #[a0,a1,a2] t (0,0)))(u0 u1 u2:Value) :
    (((w.setCell ⟨g,0,none⟩ u0).setCell ⟨g,1,none⟩ u1).setCell ⟨g,2,none⟩ u2).heap[g]? = some (.cells #[u0,u1,u2] t (0,0))/\Below g w (((w.setCell ⟨g,0,none⟩ u0).setCell ⟨g,1,none⟩ u1).setCell ⟨g,2,none⟩ u2):=by
 refine⟨aX (aX (aX h 0 u0) 1 u1) 2 u2,?_⟩
 have hz:=(aF h)
 exact((((Kept.refl (fun k=>k<g) w).setCell (p:=⟨g,0,none⟩) (.inl (Nat.lt_irrefl _)) u0).setCell (p:=⟨g,1,none⟩) (.inl (Nat.lt_irrefl _)) u1).setCell (p:=⟨g,2,none⟩) (.inl (Nat.lt_irrefl _)) u2).below (by omega) fun k hk=>hk
theorem afO {w:World}{n:Nat}{c:Array Value}{e:TypeId}(h:w.heap[n]? = some (.cells c e (0,0))):w.frozen? ⟨n,0,none⟩=false/\w.frozen? ⟨n,1,none⟩=false/\w.frozen? ⟨n,2,none⟩=false:=by
 have r:=(ah h).2.2
 exact⟨r 0,r 1,r 2⟩
theorem pY.Vk {c:pY}(h:c.ok=true):1<=c.space/\c.space<=100000000/\1<=c.aC.length/\c.aC.length<=6/\0<=c.NJ/\c.NJ<=c.space/\0<=c.lo/\c.lo<=c.hi/\c.hi<=47:=by
 unfold pY.ok headB pG Xo at h
 simp only[Bool.and_eq_true,eP,decide_eq_true_eq] at h
 omega
theorem pY.JH {c:pY}(h:c.ok=true){k:Nat}(hk:k<c.aC.length):0<=(dD c.aC k).fill/\(dD c.aC k).fill<=1000/\0<=(dD c.aC k).iq/\(dD c.aC k).iq<=100000000/\0<=(dD c.aC k).out/\(dD c.aC k).out<=100000000:=by
 unfold pY.ok at h
 rw[Bool.and_eq_true] at h
 have h2:=List.all_eq_true.1 h.2 k (List.mem_range.2 hk)
 unfold Gz AU at h2
 simp only[Bool.and_eq_true,eP] at h2
 omega
end Go.Proofs.YtkjdidieiioijaaGreat.B
namespace Bk
abbrev CV:=Go.Value × pY
def aK (l:List CV)(k:Nat):CV:=l.getD k (.slice none 0 0,⟨false,0,0,0,[],0,0,0,0,0,0⟩)
def dN (l:List CV)(h:Int):Nat->Int
 | 0=>0
 | k+1=>dN l h k+if ((aK l k).2.AA && nD (aK l k).2 h)=true then(dD (aK l k).2.aC 0).iq else 0
def dO (l:List CV)(h:Int):Nat->Int
 | 0=>0
 | k+1=>dO l h k+if ((aK l k).2.AA && nD (aK l k).2 h)=true then(dD (aK l k).2.aC ((aK l k).2.aC.length - 1)).out else 0
def bI (l:List CV):Nat->Int
 | 0=>0
 | k+1=>bI l k+(aK l k).2.space
end Bk
namespace Go.Proofs.YtkjdidieiioijaaGreat.B
open Go.RowKit Go.Sd Wl Bk L
attribute [local go_sem] Oper.semAt_some
abbrev GV (p:CV):List Value:=[.bool p.2.AA,.int .i64 p.2.space,.int .i64 p.2.lo,.int .i64 p.2.hi,p.1,.int .i64 p.2.NJ,.int .i64 p.2.fixed,.int .i64 p.2.iq,.int .i64 p.2.out,.int .i64 p.2.cut,.int .i64 p.2.lack]
structure iP (w:World)(v:Value)(xs:List CV):Prop where
 els:gG 11 GV (.slice none 0 0,⟨false,0,0,0,[],0,0,0,0,0,0⟩) w v xs
 rts:∀k,k<xs.length->uC w (aK xs k).1 (aK xs k).2.aC
theorem iP.mono {w w':World}{v:Value}{xs:List CV}(h:iP w v xs)(hb:Below w.heap.size w w'):iP w' v xs:=⟨h.els.mono hb,fun k hk=>(h.rts k hk).mono hb⟩
theorem yA {w:World}{a:Option Addr}{cap:Nat}{xs:List CV}(h:iP w (.slice a xs.length cap) xs)(h0:0<xs.length):∃b off,a=some ⟨b,off,none⟩/\b<w.heap.size /\
    ∀k,k<xs.length->w.cell? ⟨b,off+k*11,none⟩=some (.bool (aK xs k).2.AA)/\w.cell? ⟨b,off+k*11+1,none⟩=some (.int .i64 (aK xs k).2.space)/\w.cell? ⟨b,off+k*11+2,none⟩=some (.int .i64 (aK xs k).2.lo)/\w.cell? ⟨b,off+k*11+3,none⟩=some (.int .i64 (aK xs k).2.hi)/\w.cell? ⟨b,off+k*11+4,none⟩=some (aK xs k).1/\w.cell? ⟨b,off+k*11+5,none⟩=some (.int .i64 (aK xs k).2.NJ)/\w.cell? ⟨b,off+k*11+6,none⟩=some (.int .i64 (aK xs k).2.fixed)/\w.cell? ⟨b,off+k*11+7,none⟩=some (.int .i64 (aK xs k).2.iq)/\w.cell? ⟨b,off+k*11+8,none⟩=some (.int .i64 (aK xs k).2.out)/\w.cell? ⟨b,off+k*11+9,none⟩=some (.int .i64 (aK xs k).2.cut)/\w.cell? ⟨b,off+k*11+10,none⟩=some (.int .i64 (aK xs k).2.lack):=by
 obtain⟨a',cap',he,hm,hc⟩:=h.els
 cases he
 obtain⟨b,off,rfl,hlt,hx⟩:=hc h0
 exact⟨b,off,rfl,hlt,fun k hk=>⟨hx k 0 _ hk rfl,hx k 1 _ hk rfl,hx k 2 _ hk rfl,hx k 3 _ hk rfl,hx k 4 _ hk rfl,hx k 5 _ hk rfl,hx k 6 _ hk rfl,hx k 7 _ hk rfl,hx k 8 _ hk rfl,hx k 9 _ hk rfl,hx k 10 _ hk rfl⟩⟩
def PS (l:List CV):Prop:=∀k,k<l.length->(aK l k).2.ok=true
theorem xZ {l:List CV}(h:PS l)(t:Int):∀k,k<=l.length->(0<=dN l t k/\dN l t k<=k*100000000)/\(0<=dO l t k/\dO l t k<=k*100000000)/\(0<=bI l k/\bI l k<=k*100000000)
 | 0,_=>by simp[dN,dO,bI]
 | k+1,hk=>by
  have ih:=xZ h t k (by omega)
  have h1:=pY.Vk (h k (by omega))
  have h2:=pY.JH (h k (by omega)) (k:=0) (by omega)
  have h3:=pY.JH (h k (by omega)) (k:=(aK l k).2.aC.length - 1) (by omega)
  simp only[dN,dO,bI]
  refine⟨?_,?_,by omega⟩
  . split <;> omega
  . split <;> omega
theorem YJ (c:pY)(rv:Value)(h:Int)(w:World)(hr:uC w rv c.aC):Calls Tryz.prog 204 #[YR rv c,.int .i64 h] w (aB (nD c h) w):=by
 obtain⟨W,hW⟩:=aG (w.alloc (Wi rv c))
 obtain⟨e,bW,z⟩:=boxedB hW
 obtain⟨c0,c1,c2,c3,-⟩:=xY e
 have k:=ai (Uy h c.lo c.hi W)
 have hB:=ai bW
 obtain⟨ra,Ce,rfl,-,-⟩:=hr
 clear e bW
 go_enter Tryz.func204,Tryz.ntmps204
 go_wp2_with (go_at_call 144;(with_reducible refine ax k.out ?_);rintro e w' ⟨t,rfl,ht,rfl⟩)
 go_ret
 exact⟨_,rfl,ht,hB.out⟩
theorem YM (l:List CV)(v:Value)(ok:PS l)(hl:l.length<=8)(w:World)(hc:iP w v l):Calls Tryz.prog 183 #[v] w (dI (.int .i64 (bI l l.length)) w):=by
 have hc0:=hc.els
 obtain⟨a,cap,rfl,hm,-⟩:=hc0
 unfold maxLen at hm
 have hrow:Hid (0<l.length->_):=ai (yA hc)
 have hg:=az w
 have hrt:=ai hc.rts
 clear hc
 go_enter Tryz.func183,Tryz.ntmps183
 go_wp2_with (fail)
 go_loopw [8,3] (fun i s wr=>∃k:Nat,k<=l.length/\i=.int .i64 k/\s=.int .i64 (bI l k)/\∃g:Grow w,wr=g.x) (fun i _ _=>l.length - (intOf i).toNat)
 case atStart=>exact⟨0,by omega,rfl,rfl,Grow.self w,rfl⟩
 case round =>
  obtain⟨k,hk,rfl,rfl,g,rfl⟩:=hrel
  by_cases hlt:k<l.length
  . obtain⟨b,off,rfl,hbl,hx⟩:=hrow.out (by omega)
    obtain⟨c0,c1,c2,c3,c4,c5,c6,c7,c8,c9,c10⟩:=hx k hlt
    obtain⟨ra,Ce,hra,-,-⟩:=hrt.out k hlt
    rw[hra] at c4
    have hki:(0:Int)<=(k:Int)/\(k:Int)<l.length:=by omega
    have bd:=(xZ ok 0 k hk).2.2
    have bd2:=(xZ ok 0 (k+1) hlt).2.2
    have hs:Hid (bI l (k+1)=bI l k+(aK l k).2.space):=rfl
    rw[hs.out] at bd2
    have hw:IntKind.i64.wrap (bI l k+(aK l k).2.space)=bI l k+(aK l k).2.space:=IntWalk.i64_in _ (by omega)
    obtain⟨g2,hg2⟩:=g.alloc (Wi (.slice ra (aK l k).2.aC.length Ce) (aK l k).2)
    have hn:=World.alloc_heap_new g.x (Wi (.slice ra (aK l k).2.aC.length Ce) (aK l k).2)
    rw[hg2] at hn
    obtain⟨n0,n1,-⟩:=xY hn
    have zn:=(aF hn)
    clear hn hx bd bd2 hra
    go_wp2_with (fail)
    exact⟨⟨k+1,by omega,by go_num,by rw[hs.out],g2,rfl⟩,by simp[intOf];omega⟩
  . obtain rfl:k=l.length:=by omega
    go_wp2_with (fail)
    go_ret
    exact⟨rfl,g.h⟩
theorem aeJ (l:List CV)(v:Value)(h:Int)(ok:PS l)(hl:l.length<=8)(w:World)(hc:iP w v l):Calls Tryz.prog 182 #[v,.int .i64 h] w (dI (.tuple #[.int .i64 (dN l h l.length),.int .i64 (dO l h l.length)]) w):=by
 have hc0:=hc.els
 obtain⟨a,cap,rfl,hm,-⟩:=hc0
 unfold maxLen at hm
 have hrow:Hid (0<l.length->_):=ai (yA hc)
 have hg:=az w
 have hrt:=ai hc.rts
 clear hc
 go_enter Tryz.func182,Tryz.ntmps182
 go_wp2_with (fail)
 go_loopw [12,6,7] (fun i s u wr=>∃k:Nat,k<=l.length/\i=.int .i64 k/\s=.int .i64 (dN l h k)/\u=.int .i64 (dO l h k)/\∃g:Grow w,wr=g.x) (fun i _ _ _=>l.length - (intOf i).toNat)
 case atStart=>exact⟨0,by omega,rfl,rfl,rfl,Grow.self w,rfl⟩
 case round =>
  obtain⟨k,hk,rfl,rfl,rfl,g,rfl⟩:=hrel
  by_cases hlt:k<l.length
  . obtain⟨b,off,rfl,hbl,hx⟩:=hrow.out (by omega)
    obtain⟨c0,c1,c2,c3,c4,c5,c6,c7,c8,c9,c10⟩:=hx k hlt
    have hrk:=hrt.out k hlt
    have amL:=hrk
    obtain⟨ra,Ce,hra,-,-⟩:=amL
    rw[hra] at c4 hrk
    obtain⟨o1,o2,o3,o4,-⟩:=pY.Vk (ok k hlt)
    obtain⟨rb,roff,rfl,hrl,hry⟩:=Pv hrk (by omega)
    obtain⟨y0,y1,y2⟩:=hry 0 (by omega)
    simp only[Nat.zero_mul,Nat.add_zero] at y0 y1 y2
    obtain⟨z0,z1,z2⟩:=hry ((aK l k).2.aC.length - 1) (by omega)
    have hki:(0:Int)<=(k:Int)/\(k:Int)<l.length:=by omega
    have bd:=xZ ok h k hk
    have bd2:=xZ ok h (k+1) hlt
    have hs:Hid (dN l h (k+1)=dN l h k+if ((aK l k).2.AA && nD (aK l k).2 h)=true then(dD (aK l k).2.aC 0).iq else 0):=rfl
    have hu:Hid (dO l h (k+1)=dO l h k+if ((aK l k).2.AA && nD (aK l k).2 h)=true then(dD (aK l k).2.aC ((aK l k).2.aC.length - 1)).out else 0):=rfl
    have r1:=pY.JH (ok k hlt) (k:=0) (by omega)
    have r2:=pY.JH (ok k hlt) (k:=(aK l k).2.aC.length - 1) (by omega)
    have hw1:IntKind.i64.wrap (dN l h k+(dD (aK l k).2.aC 0).iq)=dN l h k+(dD (aK l k).2.aC 0).iq:=IntWalk.i64_in _ (by omega)
    have hw2:IntKind.i64.wrap (dO l h k+(dD (aK l k).2.aC ((aK l k).2.aC.length - 1)).out)=dO l h k+(dD (aK l k).2.aC ((aK l k).2.aC.length - 1)).out:=IntWalk.i64_in _ (by omega)
    have hl1:(0:Int)<((aK l k).2.aC.length:Int)/\(0:Int)<=((aK l k).2.aC.length:Int) - 1/\((aK l k).2.aC.length:Int) - 1<(aK l k).2.aC.length:=by omega
    obtain⟨g2,hg2⟩:=g.alloc (.cells #[.bool (aK l k).2.AA,.int .i64 (aK l k).2.space,.int .i64 (aK l k).2.lo,.int .i64 (aK l k).2.hi,.slice (some ⟨rb,roff,none⟩) (aK l k).2.aC.length Ce,.int .i64 (aK l k).2.NJ,.int .i64 (aK l k).2.fixed,.int .i64 (aK l k).2.iq,.int .i64 (aK l k).2.out,.int .i64 (aK l k).2.cut,.int .i64 (aK l k).2.lack] 92)
    have hn:=World.alloc_heap_new g.x (.cells #[.bool (aK l k).2.AA,.int .i64 (aK l k).2.space,.int .i64 (aK l k).2.lo,.int .i64 (aK l k).2.hi,.slice (some ⟨rb,roff,none⟩) (aK l k).2.aC.length Ce,.int .i64 (aK l k).2.NJ,.int .i64 (aK l k).2.fixed,.int .i64 (aK l k).2.iq,.int .i64 (aK l k).2.out,.int .i64 (aK l k).2.cut,.int .i64 (aK l k).2.lack] 92)
    rw[hg2] at hn
    obtain⟨n0,n1,n2,n3,n4,n5,n6,n7,n8,n9,n10⟩:=xY hn
    have zn:=(aF hn)
    have hnh:=ai hn
    have ai':=ai hrk
    have kA:Hid (∀X,Below w.heap.size w X->Calls Tryz.prog 204 #[.agg #[.bool (aK l k).2.AA,.int .i64 (aK l k).2.space,.int .i64 (aK l k).2.lo,.int .i64 (aK l k).2.hi,.slice (some ⟨rb,roff,none⟩) (aK l k).2.aC.length Ce,.int .i64 (aK l k).2.NJ,.int .i64 (aK l k).2.fixed,.int .i64 (aK l k).2.iq,.int .i64 (aK l k).2.out,.int .i64 (aK l k).2.cut,.int .i64 (aK l k).2.lack],.int .i64 h] X (aB (nD (aK l k).2 h) X)):=ai fun X hX=>YJ (aK l k).2 _ h X (hrk.mono hX)
    clear hn hx bd bd2 hra hrk hry
    cases hf:(aK l k).2.AA
    . rw[hf] at n0 c0 hg2
      have hs1:Hid (dN l h (k+1)=dN l h k):=ai (by rw[hs.out,hf];simp)
      have hu1:Hid (dO l h (k+1)=dO l h k):=ai (by rw[hu.out,hf];simp)
      clear kA
      replace hf:=ai hf
      go_wp2_with (fail)
      exact⟨⟨k+1,by omega,by go_num,by rw[hs1.out],by rw[hu1.out],g2,by first|exact hg2|rfl⟩,by simp[intOf];omega⟩
    . rw[hf] at n0 c0 hg2 kA hnh
      obtain⟨ab,hab⟩:=aG (nD (aK l k).2 h)
      have kA2:Hid (∀X,Below w.heap.size w X->Calls Tryz.prog 204 #[.agg #[.bool true,.int .i64 (aK l k).2.space,.int .i64 (aK l k).2.lo,.int .i64 (aK l k).2.hi,.slice (some ⟨rb,roff,none⟩) (aK l k).2.aC.length Ce,.int .i64 (aK l k).2.NJ,.int .i64 (aK l k).2.fixed,.int .i64 (aK l k).2.iq,.int .i64 (aK l k).2.out,.int .i64 (aK l k).2.cut,.int .i64 (aK l k).2.lack],.int .i64 h] X (dI (.bool ab) X)):=ai fun X hX=>(kA.out X hX).mono fun e w' hb=>hb.lit hab
      clear kA
      cases ab
      . have hs1:Hid (dN l h (k+1)=dN l h k):=ai (by rw[hs.out,hab];simp)
        have hu1:Hid (dO l h (k+1)=dO l h k):=ai (by rw[hu.out,hab];simp)
        clear hab
        replace hf:=ai hf
        go_wp2_with (first|(rw[hg2])|(go_at_call 204;(with_reducible refine ax (kA2.out _ g2.h) ?_);rintro e w' ⟨rfl,hB⟩;obtain⟨g3,rfl⟩:=g2.next hB;obtain⟨n0,n1,n2,n3,n4,n5,n6,n7,n8,n9,n10⟩:=xY (ak hB hnh.out);have zn3:=hB.size))
        exact⟨⟨k+1,by omega,by go_num,by rw[hs1.out],by rw[hu1.out],g3,rfl⟩,by simp[intOf];omega⟩
      . have hs1:Hid (dN l h (k+1)=dN l h k+(dD (aK l k).2.aC 0).iq):=ai (by rw[hs.out,hab,hf];simp)
        have hu1:Hid (dO l h (k+1)=dO l h k+(dD (aK l k).2.aC ((aK l k).2.aC.length - 1)).out):=ai (by rw[hu.out,hab,hf];simp)
        clear hab
        replace hf:=ai hf
        go_wp2_with (first|(rw[hg2])|(go_at_call 204;(with_reducible refine ax (kA2.out _ g2.h) ?_);rintro e w' ⟨rfl,hB⟩;obtain⟨g3,rfl⟩:=g2.next hB;obtain⟨n0,n1,n2,n3,n4,n5,n6,n7,n8,n9,n10⟩:=xY (ak hB hnh.out);have zn3:=hB.size))
        exact⟨⟨k+1,by omega,by go_num,by rw[hs1.out],by rw[hu1.out],g3,rfl⟩,by simp[intOf];omega⟩
  . obtain rfl:k=l.length:=by omega
    go_wp2_with (fail)
    go_ret2
    exact⟨rfl,g.h⟩
end Go.Proofs.YtkjdidieiioijaaGreat.B
namespace Bk
open Wl
structure Gy where
 (space iq out lead fuel:Int)
 cons:List CV
def yZ (s:Gy)(h:Nat):Bool:=decide (dN s.cons (h:Nat) s.cons.length<=s.iq) && decide (dO s.cons (h:Nat) s.cons.length<=s.out)
def mV (s:Gy):Bool:=(List.range 48).all (yZ s) && decide (bI s.cons s.cons.length<=s.space)
def pM (s:Gy):Bool:=qi s.space && qi s.iq && qi s.out && inB s.lead 0 48 && inB s.fuel 0 1000 && decide (s.cons.length<=8)
def Gy.ok (s:Gy):Bool:=pM s && (List.range s.cons.length).all (fun k=>(aK s.cons k).2.ok) && mV s
end Bk
namespace Go.Proofs.YtkjdidieiioijaaGreat.B
open Go.RowKit Go.Sd Wl Bk L
attribute [local go_sem] Oper.semAt_some
abbrev RI (v:Value)(s:Gy):Value:=.agg #[.int .i64 s.space,.int .i64 s.iq,.int .i64 s.out,.int .i64 s.lead,.int .i64 s.fuel,v]
abbrev ZZ (v:Value)(s:Gy):Obj:=.cells #[.int .i64 s.space,.int .i64 s.iq,.int .i64 s.out,.int .i64 s.lead,.int .i64 s.fuel,v] 24
theorem oN {w:World}{n:Nat}{a0 a1 a2 a3 a4 a5:Value}{e:TypeId}(h:w.heap[n]? = some (.cells #[a0,a1,a2,a3,a4,a5] e (0,0))):w.cell? ⟨n,0,none⟩=some a0/\w.cell? ⟨n,1,none⟩=some a1/\w.cell? ⟨n,2,none⟩=some a2/\w.cell? ⟨n,3,none⟩=some a3/\w.cell? ⟨n,4,none⟩=some a4/\w.cell? ⟨n,5,none⟩=some a5:=by
 have r:=(ah h).2.1
 exact⟨r 0,r 1,r 2,r 3,r 4,r 5⟩
theorem aeI (s:Gy)(v:Value)(ok:PS s.cons)(hl:s.cons.length<=8)(w:World)(hc:iP w v s.cons):Calls Tryz.prog 148 #[RI v s] w (aB (mV s) w):=by
 obtain⟨W,hW⟩:=aG (w.alloc (ZZ v s))
 obtain⟨e,bW,z⟩:=boxedB hW
 obtain⟨q0,q1,q2,q3,q4,q5⟩:=oN e
 have hcW:=ai (hc.mono bW)
 have hBw:=ai bW
 have hc0:=hc.els
 obtain⟨a,cap,rfl,hm,-⟩:=hc0
 have kS:Hid (∀X (h:Int),Below W.heap.size W X->Calls Tryz.prog 182 #[.slice a s.cons.length cap,.int .i64 h] X (dI (.tuple #[.int .i64 (dN s.cons h s.cons.length),.int .i64 (dO s.cons h s.cons.length)]) X)):=ai fun X h hX=>aeJ s.cons _ h ok hl X (hcW.out.mono hX)
 have kP:Hid (∀X,Below W.heap.size W X->Calls Tryz.prog 183 #[.slice a s.cons.length cap] X (dI (.int .i64 (bI s.cons s.cons.length)) X)):=ai fun X hX=>YM s.cons _ ok hl X (hcW.out.mono hX)
 have hg:=az W
 clear e bW hc hm
 go_enter Tryz.func148,Tryz.ntmps148
 go_wp2_with (fail)
 go_loopw [6] (fun i wr=>∃k:Nat,k<=48/\i=.int .i64 k/\Hid (∀j,j<k->yZ s j=true)/\∃g:Grow W,wr=g.x) (fun i _=>48 - (intOf i).toNat)
 case atStart=>exact⟨0,by omega,rfl,ai fun j h=>by omega,Grow.self W,rfl⟩
 case round =>
  obtain⟨k,hk,rfl,hH,g,rfl⟩:=hrel
  by_cases hlt:k<48
  . have hki:(0:Int)<=(k:Int)/\(k:Int)<48:=by omega
    have hst:Hid (yZ s k=(decide (dN s.cons (k:Nat) s.cons.length<=s.iq) && decide (dO s.cons (k:Nat) s.cons.length<=s.out))):=rfl
    have kS2:=ai (kS.out g.x (k:Nat) g.h)
    have z2:=g.size
    cases d1:decide (s.iq<dN s.cons (k:Nat) s.cons.length)
    . have e1:dN s.cons (k:Nat) s.cons.length<=s.iq:=by simpa using d1
      cases d2:decide (s.out<dO s.cons (k:Nat) s.cons.length)
      . have e2:dO s.cons (k:Nat) s.cons.length<=s.out:=by simpa using d2
        have hf:Hid (yZ s k=true):=ai (by rw[hst.out];simp[e1,e2])
        go_wp2_with (go_at_call 182;(with_reducible refine ax kS2.out ?_);rintro e w' ⟨rfl,hB⟩;obtain⟨g3,rfl⟩:=g.next hB)
        have hH':Hid (∀j,j<k+1->yZ s j=true):=ai (fK hH.out hf.out)
        exact⟨⟨k+1,by omega,by go_num,hH',g3,rfl⟩,by simp[intOf];omega⟩
      . have e2:s.out<dO s.cons (k:Nat) s.cons.length:=by simpa using d2
        have hf:Hid (mV s=false):=ai (by unfold mV;rw[dV hlt (by rw[hst.out];simp;omega)];simp)
        go_wp2_with (go_at_call 182;(with_reducible refine ax kS2.out ?_);rintro e w' ⟨rfl,hB⟩;obtain⟨g3,rfl⟩:=g.next hB)
        go_ret
        exact aB.mk hf.out (aj hBw.out g3.h)
    . have e1:s.iq<dN s.cons (k:Nat) s.cons.length:=by simpa using d1
      have hf:Hid (mV s=false):=ai (by unfold mV;rw[dV hlt (by rw[hst.out];simp;omega)];simp)
      go_wp2_with (go_at_call 182;(with_reducible refine ax kS2.out ?_);rintro e w' ⟨rfl,hB⟩;obtain⟨g3,rfl⟩:=g.next hB)
      go_ret
      exact aB.mk hf.out (aj hBw.out g3.h)
  . obtain rfl:k=48:=by omega
    have hf:Hid (mV s=decide (bI s.cons s.cons.length<=s.space)):=ai (by unfold mV;rw[pg fun j hj=>hH.out j (by omega)];simp)
    clear hH kS
    have kP2:Hid (∀h:Grow g.x,Calls Tryz.prog 183 #[.slice a s.cons.length cap] h.x (dI (.int .i64 (bI s.cons s.cons.length)) h.x)):=ai fun h=>kP.out h.x (aj g.h h.h)
    go_wp2_with (fail)
    have hgg:∀(h:Grow g.x) (b o:Nat),b<W.heap.size->h.x.cell? ⟨b,o,none⟩=W.cell? ⟨b,o,none⟩:=fun h b o hb=>(az g.x h b o (bM hb g.size)).trans (az W g b o hb)
    refine aH (by kernel_rfl) (by kernel_rfl) ?_
    repeat (go_big_quiet_step ((first|(go_at_call 183;with_reducible exact Calls.grow (kP2.out _)))))
    refine wpQuiet_nil ?_
    rintro _ ⟨gx,rfl⟩
    clear hgg
    obtain⟨g4,hg4⟩:=g.next gx.h
    rw[hg4]
    clear hg4 gx
    go_wp2_with (fail)
    go_ret
    exact aB.mk hf.out (aj hBw.out g4.h)
