/- Walks. -/
import Derived.StillTailTactics
import Derived.Test.YtkjdidieiioijaaGreatK24
set_option linter.all false
set_option maxRecDepth 100000
set_option maxHeartbeats 16000000
namespace Go.Proofs.YtkjdidieiioijaaGreat.B
open Go.RowKit Go.Sd Wl Bk L
attribute [local go_sem] Oper.semAt_some
abbrev Y8 (a b c:Int):Obj:=.cells #[.int .i64 a,.int .i64 b,.int .i64 c] 270
abbrev frV (a b c:Int):Value:=.agg #[.int .i64 a,.int .i64 b,.int .i64 c]
theorem adU (c:pY)(rv:Value)(h:Int)(w:World)(hr:uC w rv c.aC):Calls Tryz.prog 199 #[YR rv c,.int .i64 h] w (aB (nD c h) w):=by
 obtain⟨W,hW⟩:=aG (w.alloc (Wi rv c))
 obtain⟨e,bW,z⟩:=boxedB hW
 obtain⟨c0,c1,c2,c3,-⟩:=xY e
 have k:=ai (adm h c.lo c.hi W)
 have hB:=ai bW
 obtain⟨ra,Ce,rfl,-,-⟩:=hr
 clear e bW
 go_enter Tryz.func199,Tryz.ntmps199
 go_wp2_with (go_at_call 120;(with_reducible refine ax k.out ?_);rintro e w' ⟨t,rfl,ht,rfl⟩)
 go_ret
 exact⟨_,rfl,ht,hB.out⟩
theorem akm (l:List CV)(v:Value)(h:Int)(ok:PS l)(hl:l.length<=8)(w:World)(hc:iP w v l):Calls Tryz.prog 174 #[v,.int .i64 h] w (dI (frV (bI l l.length) (dN l h l.length) (dO l h l.length)) w):=by
 obtain⟨W1,hW1⟩:=aG (w.alloc (Y8 0 0 0))
 obtain⟨e1,b1,z1⟩:=boxedB hW1
 obtain⟨W2,hW2⟩:=aG (W1.alloc (Y8 0 0 0))
 obtain⟨e2,b2,z2⟩:=boxedB hW2
 have hc1:=hc.mono b1
 have hc0:=hc.els
 obtain⟨a,cap,rfl,hm,-⟩:=hc0
 unfold maxLen at hm
 have hrow:Hid (0<l.length->_):=ai (yA hc1)
 have hrt:=ai hc1.rts
 have e1h:=ai e1
 have hb1:=ai b1
 have hI:Hid (W2.heap[W1.heap.size]? = some (Y8 (bI l 0) (dN l h 0) (dO l h 0))/\Below W1.heap.size W1 W2):=ai ⟨e2,b2⟩
 clear hc hc1 e1 e2 b1 b2
 go_enter Tryz.func174,Tryz.ntmps174
 go_wp2_with (fail)
 go_loopw [6] (fun i wr=>∃k:Nat,k<=l.length/\i=.int .i64 k/\Hid (wr.heap[W1.heap.size]? = some (Y8 (bI l k) (dN l h k) (dO l h k))/\Below W1.heap.size W1 wr)) (fun i _=>l.length - (intOf i).toNat)
 case atStart=>exact⟨0,by omega,rfl,hI⟩
 case round =>
  obtain⟨k,hk,rfl,hH⟩:=hrel
  obtain⟨hO,hBl⟩:=hH.out
  obtain⟨p0,p1,p2⟩:=z_ hO
  obtain⟨f0,f1,f2⟩:=afO hO
  have zo:=(aF hO)
  by_cases hlt:k<l.length
  . obtain⟨b,off,rfl,hbl,hx⟩:=hrow.out (by omega)
    obtain⟨x0,x1,x2,x3,x4,x5,x6,x7,x8,x9,x10⟩:=hx k hlt
    have hrk:=hrt.out k hlt
    have amL:=hrk
    obtain⟨ra,Ce,hra,-,-⟩:=amL
    rw[hra] at x4 hrk
    obtain⟨o1,o2,o3,o4,-⟩:=pY.Vk (ok k hlt)
    obtain⟨rb,roff,rfl,hrl,hry⟩:=Pv hrk (by omega)
    have hcl:Hid (∀X,Below W1.heap.size W1 X->_):=ai fun X (hX:Below W1.heap.size W1 X)=>(⟨ae hX x0,ae hX x1,ae hX x2,ae hX x3,ae hX x4,ae hX x5,ae hX x6,ae hX x7,ae hX x8,ae hX x9,ae hX x10⟩:_/\_/\_/\_/\_/\_/\_/\_/\_/\_/\_)
    obtain⟨y0,y1,y2⟩:=hry 0 (by omega)
    simp only[Nat.zero_mul,Nat.add_zero] at y0 y1 y2
    obtain⟨v0,v1,v2⟩:=hry ((aK l k).2.aC.length - 1) (by omega)
    have atb:Hid (∀X,Below W1.heap.size W1 X->_):=ai fun X (hX:Below W1.heap.size W1 X)=>(⟨ae hX y1,ae hX v2⟩:_/\_)
    have ata:=ai hrk
    clear x0 x1 x2 x3 x4 x5 x6 x7 x8 x9 x10 hx y0 y1 y2 v0 v1 v2 hry hrk
    obtain⟨c0,c1,c2,c3,c4,c5,c6,c7,c8,c9,c10⟩:=hcl.out _ hBl
    have hki:(0:Int)<=(k:Int)/\(k:Int)<l.length:=by omega
    have bd2:=xZ ok h (k+1) hlt
    have bd:=xZ ok h k hk
    have hp:Hid (bI l (k+1)=bI l k+(aK l k).2.space):=rfl
    have hw0:IntKind.i64.wrap (bI l k+(aK l k).2.space)=bI l k+(aK l k).2.space:=IntWalk.i64_in _ (by omega)
    have hs:Hid (dN l h (k+1)=dN l h k+if ((aK l k).2.AA && nD (aK l k).2 h)=true then(dD (aK l k).2.aC 0).iq else 0):=rfl
    have hu:Hid (dO l h (k+1)=dO l h k+if ((aK l k).2.AA && nD (aK l k).2 h)=true then(dD (aK l k).2.aC ((aK l k).2.aC.length - 1)).out else 0):=rfl
    have hOh:=ai hO
    have hBh:=ai hBl
    clear hO hBl hH bd bd2
    go_wp2_with (fail)
    go_still_tail 9,(by kernel_rfl)
    change wpList _ _ _ _ _ wr.drew
    obtain⟨Y,hY⟩:=aG (wr.drew)
    have hOY:Y.heap[W1.heap.size]? = some (Y8 (bI l k) (dN l h k) (dO l h k)):=by rw[<- hY];exact hOh.out
    have hBY:Below W1.heap.size W1 Y:=by rw[<- hY];exact hBh.out.drew
    rw[hY]
    obtain⟨f0,f1,f2⟩:=afO hOY
    obtain⟨p0,p1,p2⟩:=z_ hOY
    obtain⟨Z,hZ⟩:=aG (Y.setCell ⟨W1.heap.size,0,none⟩ (.int .i64 (bI l k+(aK l k).2.space)))
    have hOZ:Z.heap[W1.heap.size]? = some (Y8 (bI l (k+1)) (dN l h k) (dO l h k)):=by rw[<- hZ,aX hOY];rfl
    have hBZ:Below W1.heap.size W1 Z:=by
     rw[<- hZ]
     exact hBY.trans (((Kept.refl (fun j=>j<W1.heap.size) Y).setCell (p:=⟨W1.heap.size,0,none⟩) (.inl (Nat.lt_irrefl _)) _).below (by have:=hBY.size;omega) fun j hj=>hj)
    obtain⟨m0,m1,m2⟩:=z_ hOZ
    obtain⟨u0,u1,u2⟩:=afO hOZ
    obtain⟨d0,d1,d2,d3,d4,d5,d6,d7,d8,d9,d10⟩:=hcl.out _ hBZ
    have zz:=hBZ.size
    have zoz:=(aF hOZ)
    have amr:=ai hOZ
    have ai3:=ai hBZ
    clear hOY hBY hY hOZ hBZ c0 c1 c2 c3 c4 c5 c6 c7 c8 c9 c10
    cases hf:(aK l k).2.AA
    . rw[hf] at d0
      have hs1:Hid (dN l h (k+1)=dN l h k):=ai (by rw[hs.out,hf];simp)
      have hu1:Hid (dO l h (k+1)=dO l h k):=ai (by rw[hu.out,hf];simp)
      replace hf:=ai hf
      go_wp2_with (first|(rw[hZ])|fail)
      exact⟨⟨k+1,by omega,by go_num,ai ⟨by rw[hs1.out,hu1.out];exact amr.out,ai3.out⟩⟩,by simp[intOf];omega⟩
    . have kA:Hid (∀X,Below W1.heap.size W1 X->Calls Tryz.prog 199 #[.agg #[.bool (aK l k).2.AA,.int .i64 (aK l k).2.space,.int .i64 (aK l k).2.lo,.int .i64 (aK l k).2.hi,.slice (some ⟨rb,roff,none⟩) (aK l k).2.aC.length Ce,.int .i64 (aK l k).2.NJ,.int .i64 (aK l k).2.fixed,.int .i64 (aK l k).2.iq,.int .i64 (aK l k).2.out,.int .i64 (aK l k).2.cut,.int .i64 (aK l k).2.lack],.int .i64 h] X (aB (nD (aK l k).2 h) X)):=ai fun X hX=>adU (aK l k).2 _ h X (ata.out.mono hX)
      rw[hf] at d0 kA
      obtain⟨ab,hab⟩:=aG (nD (aK l k).2 h)
      have kA2:Hid (Calls Tryz.prog 199 #[.agg #[.bool true,.int .i64 (aK l k).2.space,.int .i64 (aK l k).2.lo,.int .i64 (aK l k).2.hi,.slice (some ⟨rb,roff,none⟩) (aK l k).2.aC.length Ce,.int .i64 (aK l k).2.NJ,.int .i64 (aK l k).2.fixed,.int .i64 (aK l k).2.iq,.int .i64 (aK l k).2.out,.int .i64 (aK l k).2.cut,.int .i64 (aK l k).2.lack],.int .i64 h] Z (dI (.bool ab) Z)):=ai ((kA.out Z ai3.out).mono fun e w' hb=>hb.lit hab)
      clear kA
      cases ab
      . have hs1:Hid (dN l h (k+1)=dN l h k):=ai (by rw[hs.out,hab];simp)
        have hu1:Hid (dO l h (k+1)=dO l h k):=ai (by rw[hu.out,hab];simp)
        replace hf:=ai hf
        replace hab:=ai hab
        go_wp2_with (first|(rw[hZ])|(go_at_call 199;(with_reducible refine ax kA2.out ?_);rintro e w3 ⟨rfl,hB3⟩))
        exact⟨⟨k+1,by omega,by go_num,ai ⟨by rw[hs1.out,hu1.out];exact ak hB3 amr.out,ai3.out.trans (hB3.mono (by omega))⟩⟩,by simp[intOf];omega⟩
      . have hs1:Hid (dN l h (k+1)=dN l h k+(dD (aK l k).2.aC 0).iq):=ai (by rw[hs.out,hab,hf];simp)
        have hu1:Hid (dO l h (k+1)=dO l h k+(dD (aK l k).2.aC ((aK l k).2.aC.length - 1)).out):=ai (by rw[hu.out,hab,hf];simp)
        have r1:=pY.JH (ok k hlt) (k:=0) (by omega)
        have r2:=pY.JH (ok k hlt) (k:=(aK l k).2.aC.length - 1) (by omega)
        have bd:=xZ ok h k hk
        have hw1:IntKind.i64.wrap (dN l h k+(dD (aK l k).2.aC 0).iq)=dN l h k+(dD (aK l k).2.aC 0).iq:=IntWalk.i64_in _ (by omega)
        have hw2:IntKind.i64.wrap (dO l h k+(dD (aK l k).2.aC ((aK l k).2.aC.length - 1)).out)=dO l h k+(dD (aK l k).2.aC ((aK l k).2.aC.length - 1)).out:=IntWalk.i64_in _ (by omega)
        have hl1:(0:Int)<((aK l k).2.aC.length:Int)/\(0:Int)<=((aK l k).2.aC.length:Int) - 1/\((aK l k).2.aC.length:Int) - 1<(aK l k).2.aC.length:=by omega
        clear bd r1 r2
        replace hf:=ai hf
        replace hab:=ai hab
        go_wp2_with (first|(rw[hZ])|(go_at_call 199;(with_reducible refine ax kA2.out ?_);rintro e w3 ⟨rfl,hB3⟩;(have hB4:=ai3.out.trans (hB3.mono (by omega)));obtain⟨c0,c1,c2,c3,c4,c5,c6,c7,c8,c9,c10⟩:=hcl.out _ hB4;obtain⟨y1,v2⟩:=atb.out _ hB4;(have hO4:=ak hB3 amr.out);obtain⟨n0,n1,n2⟩:=z_ hO4;obtain⟨g0,g1,g2⟩:=afO hO4;(have zo4:=(aF hO4));(have zw4:=hB4.size);(have asM:=ai hO4);(have asJ:=ai hB4);clear hO4 hB4))
        obtain⟨hla,hlb,hlc⟩:=hl1
        go_big_region
        have hX1:=aX (aX asM.out 1 (.int .i64 (dN l h k+(dD (aK l k).2.aC 0).iq))) 2 (.int .i64 (dO l h k+(dD (aK l k).2.aC ((aK l k).2.aC.length - 1)).out))
        have hX2:=(((Kept.refl (fun j=>j<W1.heap.size) w3).setCell (p:=⟨W1.heap.size,1,none⟩) (.inl (Nat.lt_irrefl _)) (.int .i64 (dN l h k+(dD (aK l k).2.aC 0).iq))).setCell (p:=⟨W1.heap.size,2,none⟩) (.inl (Nat.lt_irrefl _)) (.int .i64 (dO l h k+(dD (aK l k).2.aC ((aK l k).2.aC.length - 1)).out))).below (B:=W1.heap.size) (by omega) fun j hj=>hj
        obtain⟨X,hX⟩:=aG (((w3.setCell ⟨W1.heap.size,1,none⟩ (.int .i64 (dN l h k+(dD (aK l k).2.aC 0).iq))).setCell ⟨W1.heap.size,2,none⟩ (.int .i64 (dO l h k+(dD (aK l k).2.aC ((aK l k).2.aC.length - 1)).out))).drew)
        have hfin:Hid (X.heap[W1.heap.size]? = some (Y8 (bI l (k+1)) (dN l h (k+1)) (dO l h (k+1)))/\Below W1.heap.size W1 X):=by
         rw[<- hX]
         exact ai ⟨by rw[hs1.out,hu1.out];exact hX1,asJ.out.trans hX2.drew⟩
        rw[hX]
        clear hX1 hX2 hX
        simp only[Exit.inBlock,Exit.then]
        go_wp2_with (fail)
        exact⟨⟨k+1,by omega,by go_num,hfin⟩,by simp[intOf];omega⟩
  . obtain rfl:k=l.length:=by omega
    have hR:=ak hBl e1h.out
    obtain⟨r0,r1,r2⟩:=z_ hR
    obtain⟨g0,g1,g2⟩:=afO hR
    have zr:=(aF hR)
    have hRh:=ai hR
    have asL:=ai hBl
    clear hR hBl hO hH
    go_wp2_with (fail)
    obtain⟨k1,k2⟩:=aon hRh.out (.int .i64 (bI l l.length)) (.int .i64 (dN l h l.length)) (.int .i64 (dO l h l.length))
    obtain⟨m0,m1,m2⟩:=z_ k1
    refine bodyPost_ret (v:=frV (bI l l.length) (dN l h l.length) (dO l h l.length)) (by simp[results,Tryz.results174,go_sem,m0,m1,m2]) rfl ⟨rfl,?_⟩
    exact hb1.out.trans ((asL.out.mono (by omega)).trans (k2.mono (by omega)))
theorem akk (s:Gy)(v:Value)(ok:PS s.cons)(hl:s.cons.length<=8)(w:World)(hc:iP w v s.cons):Calls Tryz.prog 122 #[RI v s,v] w (aB (mV s) w):=by
 obtain⟨W,hW⟩:=aG (w.alloc (ZZ v s))
 obtain⟨e,bW,z⟩:=boxedB hW
 obtain⟨q0,q1,q2,q3,q4,q5⟩:=oN e
 have hcW:=ai (hc.mono bW)
 have hBw:=ai bW
 have eh:=ai e
 have hc0:=hc.els
 obtain⟨a,cap,rfl,hm,-⟩:=hc0
 have kS:Hid (∀X (h:Int),Below W.heap.size W X->Calls Tryz.prog 174 #[.slice a s.cons.length cap,.int .i64 h] X (dI (frV (bI s.cons s.cons.length) (dN s.cons h s.cons.length) (dO s.cons h s.cons.length)) X)):=ai fun X h hX=>akm s.cons _ h ok hl X (hcW.out.mono hX)
 have hg:=az W
 have hrw:Hid (∀X,Below W.heap.size W X->_):=ai fun X (hX:Below W.heap.size W X)=>oN (ak hX eh.out)
 have hsum:Hid (∀k<48,(mV s=false->True)->True):=ai fun _ _ _=>trivial
 clear e bW hc hm hsum
 go_enter Tryz.func122,Tryz.ntmps122
 go_wp2_with (fail)
 go_loopw [5] (fun i wr=>∃k:Nat,k<=48/\i=.int .i64 k/\Hid (∀j,j<k->yZ s j=true/\bI s.cons s.cons.length<=s.space)/\∃g:Grow W,wr=g.x) (fun i _=>48 - (intOf i).toNat)
 case atStart=>exact⟨0,by omega,rfl,ai fun j h=>by omega,Grow.self W,rfl⟩
 case round =>
  obtain⟨k,hk,rfl,hH,g,rfl⟩:=hrel
  by_cases hlt:k<48
  . have hki:(0:Int)<=(k:Int)/\(k:Int)<48:=by omega
    have hst:Hid (yZ s k=(decide (dN s.cons (k:Nat) s.cons.length<=s.iq) && decide (dO s.cons (k:Nat) s.cons.length<=s.out))):=rfl
    have kS2:=ai (kS.out g.x (k:Nat) g.h)
    have z2:=g.size
    cases d0:decide (s.space<bI s.cons s.cons.length)
    . have e0:bI s.cons s.cons.length<=s.space:=by simpa using d0
      cases d1:decide (s.iq<dN s.cons (k:Nat) s.cons.length)
      . have e1:dN s.cons (k:Nat) s.cons.length<=s.iq:=by simpa using d1
        cases d2:decide (s.out<dO s.cons (k:Nat) s.cons.length)
        . have e2:dO s.cons (k:Nat) s.cons.length<=s.out:=by simpa using d2
          have hf:Hid (yZ s k=true):=ai (by rw[hst.out];simp[e1,e2])
          have e0h:=ai e0
          go_wp2_with (first|(go_at_call 174;(with_reducible refine ax kS2.out ?_);rintro e w' ⟨rfl,hB⟩;obtain⟨g3,rfl⟩:=g.next hB;obtain⟨q0,q1,q2,q3,q4,q5⟩:=hrw.out _ g3.h;obtain⟨g4,hg4⟩:=g3.alloc (Y8 (bI s.cons s.cons.length) (dN s.cons (k:Nat) s.cons.length) (dO s.cons (k:Nat) s.cons.length));(have hn:=World.alloc_heap_new g3.x (Y8 (bI s.cons s.cons.length) (dN s.cons (k:Nat) s.cons.length) (dO s.cons (k:Nat) s.cons.length)));rw[hg4] at hn;obtain⟨n0,n1,n2⟩:=z_ hn;(have zn:=(aF hn));obtain⟨t0,t1,t2,t3,t4,t5⟩:=hrw.out _ g4.h;(have zg4:=g4.size);clear hn)|(rw[hg4]))
          go_wp2_with (fail)
          have hH':Hid (∀j,j<k+1->yZ s j=true/\bI s.cons s.cons.length<=s.space):=ai fun j hj=>by
           rcases Nat.lt_succ_iff_lt_or_eq.1 hj with h'|rfl
           . exact hH.out j h'
           . exact⟨hf.out,e0h.out⟩
          exact⟨⟨k+1,by omega,by go_num,hH',g4,rfl⟩,by simp[intOf];omega⟩
        . have e2:s.out<dO s.cons (k:Nat) s.cons.length:=by simpa using d2
          have hf:Hid (mV s=false):=ai (by unfold mV;rw[dV hlt (by rw[hst.out];simp;omega)];simp)
          go_wp2_with (first|(go_at_call 174;(with_reducible refine ax kS2.out ?_);rintro e w' ⟨rfl,hB⟩;obtain⟨g3,rfl⟩:=g.next hB;obtain⟨q0,q1,q2,q3,q4,q5⟩:=hrw.out _ g3.h;obtain⟨g4,hg4⟩:=g3.alloc (Y8 (bI s.cons s.cons.length) (dN s.cons (k:Nat) s.cons.length) (dO s.cons (k:Nat) s.cons.length));(have hn:=World.alloc_heap_new g3.x (Y8 (bI s.cons s.cons.length) (dN s.cons (k:Nat) s.cons.length) (dO s.cons (k:Nat) s.cons.length)));rw[hg4] at hn;obtain⟨n0,n1,n2⟩:=z_ hn;(have zn:=(aF hn));obtain⟨t0,t1,t2,t3,t4,t5⟩:=hrw.out _ g4.h;(have zg4:=g4.size);clear hn)|(rw[hg4]))
          go_ret
          exact aB.mk hf.out (aj hBw.out g4.h)
      . have e1:s.iq<dN s.cons (k:Nat) s.cons.length:=by simpa using d1
        have hf:Hid (mV s=false):=ai (by unfold mV;rw[dV hlt (by rw[hst.out];simp;omega)];simp)
        go_wp2_with (first|(go_at_call 174;(with_reducible refine ax kS2.out ?_);rintro e w' ⟨rfl,hB⟩;obtain⟨g3,rfl⟩:=g.next hB;obtain⟨q0,q1,q2,q3,q4,q5⟩:=hrw.out _ g3.h;obtain⟨g4,hg4⟩:=g3.alloc (Y8 (bI s.cons s.cons.length) (dN s.cons (k:Nat) s.cons.length) (dO s.cons (k:Nat) s.cons.length));(have hn:=World.alloc_heap_new g3.x (Y8 (bI s.cons s.cons.length) (dN s.cons (k:Nat) s.cons.length) (dO s.cons (k:Nat) s.cons.length)));rw[hg4] at hn;obtain⟨n0,n1,n2⟩:=z_ hn;(have zn:=(aF hn));obtain⟨t0,t1,t2,t3,t4,t5⟩:=hrw.out _ g4.h;(have zg4:=g4.size);clear hn)|(rw[hg4]))
        go_ret
        exact aB.mk hf.out (aj hBw.out g4.h)
    . have e0:s.space<bI s.cons s.cons.length:=by simpa using d0
      have hf:Hid (mV s=false):=ai (by unfold mV;simp;omega)
      go_wp2_with (first|(go_at_call 174;(with_reducible refine ax kS2.out ?_);rintro e w' ⟨rfl,hB⟩;obtain⟨g3,rfl⟩:=g.next hB;obtain⟨q0,q1,q2,q3,q4,q5⟩:=hrw.out _ g3.h;obtain⟨g4,hg4⟩:=g3.alloc (Y8 (bI s.cons s.cons.length) (dN s.cons (k:Nat) s.cons.length) (dO s.cons (k:Nat) s.cons.length));(have hn:=World.alloc_heap_new g3.x (Y8 (bI s.cons s.cons.length) (dN s.cons (k:Nat) s.cons.length) (dO s.cons (k:Nat) s.cons.length)));rw[hg4] at hn;obtain⟨n0,n1,n2⟩:=z_ hn;(have zn:=(aF hn));obtain⟨t0,t1,t2,t3,t4,t5⟩:=hrw.out _ g4.h;(have zg4:=g4.size);clear hn)|(rw[hg4]))
      go_ret
      exact aB.mk hf.out (aj hBw.out g4.h)
  . obtain rfl:k=48:=by omega
    have hf:Hid (mV s=true):=ai (by unfold mV;rw[pg fun j hj=>(hH.out j (by omega)).1];simpa using (hH.out 0 (by omega)).2)
    clear hH kS
    go_wp2_with (fail)
    go_ret
    exact aB.mk hf.out (aj hBw.out g.h)
theorem xX {a:Int}{t:Bool}(h:qi a=t)(w:World):Calls Tryz.prog 119 #[.int .i64 a] w fun e w'=>e=.returned (.bool t)/\w=w' :=
 (anp a w).mono fun e w' ⟨t',he,ht,hw⟩=>⟨by rw[he,<- ht.out,h],hw⟩
theorem adW (l:List CV)(v:Value)(w:World)(hc:iP w v l):Calls Tryz.prog 121 #[v] w (aB ((List.range l.length).all fun k=>(aK l k).2.ok) w):=by
 have hc0:=hc.els
 obtain⟨a,cap,rfl,hm,-⟩:=hc0
 unfold maxLen at hm
 have hrow:Hid (0<l.length->_):=ai (yA hc)
 have hg:=az w
 have hrt:=ai hc.rts
 clear hc
 go_enter Tryz.func121,Tryz.ntmps121
 go_wp2_with (fail)
 go_loopw [3] (fun i wr=>∃k:Nat,k<=l.length/\i=.int .i64 k/\Hid (∀j,j<k->(aK l j).2.ok=true)/\∃g:Grow w,wr=g.x) (fun i _=>l.length - (intOf i).toNat)
 case atStart=>exact⟨0,by omega,rfl,ai fun j h=>by omega,Grow.self w,rfl⟩
 case round =>
  obtain⟨k,hk,rfl,hH,g,rfl⟩:=hrel
  by_cases hlt:k<l.length
  . obtain⟨b,off,rfl,hbl,hx⟩:=hrow.out (by omega)
    obtain⟨c0,c1,c2,c3,c4,c5,c6,c7,c8,c9,c10⟩:=hx k hlt
    have hrk:=hrt.out k hlt
    have hki:(0:Int)<=(k:Int)/\(k:Int)<l.length:=by omega
    obtain⟨t,ht⟩:=aG ((aK l k).2.ok)
    have kC:Hid (Calls Tryz.prog 173 #[YR (aK l k).1 (aK l k).2] g.x (dI (.bool t) g.x)):=ai ((Yc _ _ g.x (hrk.mono g.h)).mono fun e w' h=>h.lit ht)
    replace ht:=ai ht
    clear hx hrk
    cases t
    . have hf:Hid (((List.range l.length).all fun k=>(aK l k).2.ok)=false):=ai (dV hlt ht.out)
      go_wp2_with (go_at_call 173;(with_reducible refine ax kC.out ?_);rintro e w' ⟨rfl,hB⟩;obtain⟨g3,rfl⟩:=g.next hB)
      go_ret
      exact aB.mk hf.out g3.h
    . have hH':Hid (∀j,j<k+1->(aK l j).2.ok=true):=ai fun j hj=>by
       rcases Nat.lt_succ_iff_lt_or_eq.1 hj with h'|rfl
       . exact hH.out j h'
       . exact ht.out
      go_wp2_with (go_at_call 173;(with_reducible refine ax kC.out ?_);rintro e w' ⟨rfl,hB⟩;obtain⟨g3,rfl⟩:=g.next hB)
      exact⟨⟨k+1,by omega,by go_num,hH',g3,rfl⟩,by simp[intOf];omega⟩
  . obtain rfl:k=l.length:=by omega
    have hf:Hid (((List.range l.length).all fun k=>(aK l k).2.ok)=true):=ai (pg fun j hj=>hH.out j hj)
    clear hH
    go_wp2_with (fail)
    go_ret
    exact aB.mk hf.out g.h
theorem ahw (s:Gy)(v:Value)(w:World)(hc:iP w v s.cons):Calls Tryz.prog 66 #[RI v s] w (aB s.ok w):=by
 obtain⟨W,hW⟩:=aG (w.alloc (ZZ v s))
 obtain⟨e,bW,z⟩:=boxedB hW
 obtain⟨q0,q1,q2,q3,q4,q5⟩:=oN e
 have hcW:=ai (hc.mono bW)
 have hBw:=ai bW
 have eh:=ai e
 have hc0:=hc.els
 obtain⟨a,cap,rfl,hm,-⟩:=hc0
 obtain⟨b5,h5⟩:=aG ((List.range s.cons.length).all (fun k=>(aK s.cons k).2.ok))
 have kC:Hid (Calls Tryz.prog 121 #[.slice a s.cons.length cap] W (dI (.bool b5) W)):=ai ((adW s.cons _ W hcW.out).mono fun e w' h=>h.lit h5)
 have kO:Hid (b5=true->s.cons.length<=8->∀X,Below W.heap.size W X->Calls Tryz.prog 122 #[RI (.slice a s.cons.length cap) s,.slice a s.cons.length cap] X (aB (mV s) X)):=ai fun hb hl X hX=>akk s _ (V6 (h5.trans hb)) hl X (hcW.out.mono hX)
 have h5h:=ai h5
 clear e bW hc h5 hm
 have hrw:Hid (∀X,Below W.heap.size W X->_):=ai fun X (hX:Below W.heap.size W X)=>oN (ak hX eh.out)
 cases h1:qi s.space
 . have hf:Hid (s.ok=false):=ai (by unfold Gy.ok pM;simp[h1])
   go_enter Tryz.func66,Tryz.ntmps66
   go_wp2_with (first|(go_at_call 120;(with_reducible refine ax (jK (by assumption) _) ?_);rintro e w' ⟨rfl,rfl⟩)|(go_at_call 119;(with_reducible refine ax (xX (by assumption) _) ?_);rintro e w' ⟨rfl,rfl⟩))
   go_ret
   exact aB.mk hf.out hBw.out
 cases h2:qi s.iq
 . have hf:Hid (s.ok=false):=ai (by unfold Gy.ok pM;simp[h2])
   go_enter Tryz.func66,Tryz.ntmps66
   go_wp2_with (first|(go_at_call 120;(with_reducible refine ax (jK (by assumption) _) ?_);rintro e w' ⟨rfl,rfl⟩)|(go_at_call 119;(with_reducible refine ax (xX (by assumption) _) ?_);rintro e w' ⟨rfl,rfl⟩))
   go_ret
   exact aB.mk hf.out hBw.out
 cases h3:qi s.out
 . have hf:Hid (s.ok=false):=ai (by unfold Gy.ok pM;simp[h3])
   go_enter Tryz.func66,Tryz.ntmps66
   go_wp2_with (first|(go_at_call 120;(with_reducible refine ax (jK (by assumption) _) ?_);rintro e w' ⟨rfl,rfl⟩)|(go_at_call 119;(with_reducible refine ax (xX (by assumption) _) ?_);rintro e w' ⟨rfl,rfl⟩))
   go_ret
   exact aB.mk hf.out hBw.out
 cases h4:inB s.lead 0 48
 . have hf:Hid (s.ok=false):=ai (by unfold Gy.ok pM;simp[h4])
   go_enter Tryz.func66,Tryz.ntmps66
   go_wp2_with (first|(go_at_call 120;(with_reducible refine ax (jK (by assumption) _) ?_);rintro e w' ⟨rfl,rfl⟩)|(go_at_call 119;(with_reducible refine ax (xX (by assumption) _) ?_);rintro e w' ⟨rfl,rfl⟩))
   go_ret
   exact aB.mk hf.out hBw.out
 cases h6:inB s.fuel 0 1000
 . have hf:Hid (s.ok=false):=ai (by unfold Gy.ok pM;simp[h6])
   go_enter Tryz.func66,Tryz.ntmps66
   go_wp2_with (first|(go_at_call 120;(with_reducible refine ax (jK (by assumption) _) ?_);rintro e w' ⟨rfl,rfl⟩)|(go_at_call 119;(with_reducible refine ax (xX (by assumption) _) ?_);rintro e w' ⟨rfl,rfl⟩))
   go_ret
   exact aB.mk hf.out hBw.out
 by_cases hl:s.cons.length<=8
 case neg =>
  have hf:Hid (s.ok=false):=ai (by unfold Gy.ok pM;simp[hl])
  have hl':(8:Int)<s.cons.length:=by omega
  go_enter Tryz.func66,Tryz.ntmps66
  go_wp2_with (first|(go_at_call 120;(with_reducible refine ax (jK (by assumption) _) ?_);rintro e w' ⟨rfl,rfl⟩)|(go_at_call 119;(with_reducible refine ax (xX (by assumption) _) ?_);rintro e w' ⟨rfl,rfl⟩))
  go_ret
  exact aB.mk hf.out hBw.out
 have hl':(s.cons.length:Int)<=8:=by omega
 cases b5
 . have hf:Hid (s.ok=false):=ai (by unfold Gy.ok;rw[h5h.out];simp)
   go_enter Tryz.func66,Tryz.ntmps66
   go_wp2_with (first|(go_at_call 120;(with_reducible refine ax (jK (by assumption) _) ?_);rintro e w' ⟨rfl,rfl⟩)|(go_at_call 119;(with_reducible refine ax (xX (by assumption) _) ?_);rintro e w' ⟨rfl,rfl⟩)|(go_at_call 121;(with_reducible refine ax kC.out ?_);rintro e w2 ⟨rfl,hX2⟩;obtain⟨q0,q1,q2,q3,q4,q5⟩:=hrw.out _ hX2;have z2:=hX2.size))
   go_ret
   exact aB.mk hf.out (aj hBw.out hX2)
 have kO2:=ai (kO.out rfl hl)
 have hf:Hid (s.ok=mV s):=ai (by
  unfold Gy.ok pM
  rw[h5h.out,h1,h2,h3,h4,h6]
  simp[hl])
 clear kO
 go_enter Tryz.func66,Tryz.ntmps66
 go_wp2_with (first|(go_at_call 120;(with_reducible refine ax (jK (by assumption) _) ?_);rintro e w' ⟨rfl,rfl⟩)|(go_at_call 119;(with_reducible refine ax (xX (by assumption) _) ?_);rintro e w' ⟨rfl,rfl⟩)|(go_at_call 121;(with_reducible refine ax kC.out ?_);rintro e w2 ⟨rfl,hX2⟩;obtain⟨q0,q1,q2,q3,q4,q5⟩:=hrw.out _ hX2;have z2:=hX2.size)|(go_at_call 122;(with_reducible refine ax (kO2.out _ hX2) ?_);rintro e w3 ⟨t,rfl,ht,hB3⟩))
 go_ret
 exact aB.mk (by rw[hf.out,ht.out]) (aj hBw.out (aj hX2 hB3))
end Go.Proofs.YtkjdidieiioijaaGreat.B
namespace Tr
open Wl
def iY.brB (m:iY):Bool:=(List.range m.aA.length).all (fun k=>decide ((gZ m.aA k).2.aO.length<=10)) && (List.range m.moves.length).all (fun k=>decide ((jc m.moves k).2.wants.length<=10))
theorem iY.aeK {m:iY}(h:m.brB=true)(h1:m.aO.length<=6)(h2:m.aA.length<=6)(h3:m.moves.length<=20)(h4:m.opn.length<=8):m.nU:=by
 unfold iY.brB at h
 rw[Bool.and_eq_true] at h
 refine⟨h1,h2,h3,h4,fun k hk=>?_,fun k hk=>?_⟩
 . have:=List.all_eq_true.1 h.1 k (List.mem_range.2 hk)
   simp at this
   omega
 . have:=List.all_eq_true.1 h.2 k (List.mem_range.2 hk)
   simp at this
   omega
end Tr
namespace Go.Proofs.YtkjdidieiioijaaGreat.B
open Go.RowKit Go.Sd Wl Bk L Tr Dk
attribute [local go_sem] Oper.semAt_some
theorem ah_ (m:iY)(s v x o:Value)(w:World)(h:Aq w s v x o m):Calls Tryz.prog 20 #[JG s v x o m] w (aB m.brB w):=by
 obtain⟨W,hW⟩:=aG (w.alloc (Nq s v x o m))
 obtain⟨e,bW,z⟩:=boxedB hW
 obtain⟨p0,p1,p2,p3,p4,p5,p6⟩:=Jf e
 have nS:=ai (h.mono bW)
 obtain⟨sa,sc,rfl,hsm,-⟩:=h.aO
 obtain⟨va,vc,rfl,hvm,-⟩:=h.aA.els
 obtain⟨xa,xc,rfl,hxm,-⟩:=h.moves.els
 obtain⟨oa,oc,rfl,hom,-⟩:=h.opn
 unfold maxLen at hvm hxm
 clear hsm hom
 have hBw:=ai bW
 have hg:=az W
 have Xq:Hid (0<m.aA.length->_):=ai (VJ nS.out.aA)
 have hme:Hid (0<m.moves.length->_):=ai (ab8 nS.out.moves.els)
 clear e bW h
 go_enter Tryz.func20,Tryz.ntmps20
 go_wp2_with (fail)
 go_loopw [3] (fun i wr=>∃k:Nat,k<=m.aA.length/\i=.int .i64 k/\Hid (∀j,j<k->decide ((gZ m.aA j).2.aO.length<=10)=true)/\∃g:Grow W,wr=g.x) (fun i _=>m.aA.length - (intOf i).toNat)
 case atStart=>exact⟨0,by omega,rfl,ai fun j h=>by omega,Grow.self W,rfl⟩
 case round =>
  obtain⟨k,hk,rfl,hH,g,rfl⟩:=hrel
  by_cases hlt:k<m.aA.length
  . obtain⟨b,off,rfl,hbl,hx⟩:=Xq.out (by omega)
    obtain⟨c0,-,-,-⟩:=hx k hlt
    obtain⟨ia,ic,FK,him,-⟩:=nS.out.aA.ins k hlt
    unfold maxLen at him
    rw[FK] at c0
    have hki:(0:Int)<=(k:Int)/\(k:Int)<m.aA.length:=by omega
    clear hx FK
    by_cases d:(gZ m.aA k).2.aO.length<=10
    . have d':((gZ m.aA k).2.aO.length:Int)<=10:=by omega
      have hH':Hid (∀j,j<k+1->decide ((gZ m.aA j).2.aO.length<=10)=true):=ai (fK (p:=fun j=>decide ((gZ m.aA j).2.aO.length<=10)) hH.out (decide_eq_true d))
      go_wp2_with (fail)
      exact⟨⟨k+1,by omega,by go_num,hH',g,rfl⟩,by simp[intOf];omega⟩
    . have d':(10:Int)<((gZ m.aA k).2.aO.length:Int):=by omega
      have hf:Hid (m.brB=false):=ai (by unfold iY.brB;rw[dV (p:=fun j=>decide ((gZ m.aA j).2.aO.length<=10)) hlt (decide_eq_false d)];rfl)
      go_wp2_with (fail)
      go_ret
      exact aB.mk hf.out (aj hBw.out g.h)
  . obtain rfl:k=m.aA.length:=by omega
    have hvB:Hid ((List.range m.aA.length).all (fun k=>decide ((gZ m.aA k).2.aO.length<=10))=true):=ai (pg fun j hj=>hH.out j hj)
    clear Xq hH
    go_wp2_with (fail)
    go_loopw [4] (fun i wr=>∃k:Nat,k<=m.moves.length/\i=.int .i64 k/\Hid (∀j,j<k->decide ((jc m.moves j).2.wants.length<=10)=true)/\∃g:Grow W,wr=g.x) (fun i _=>m.moves.length - (intOf i).toNat)
    case atStart=>exact⟨0,by omega,rfl,ai fun j h=>by omega,g,rfl⟩
    case round =>
     obtain⟨k,hk,rfl,hH,g,rfl⟩:=hrel
     by_cases hlt:k<m.moves.length
     . obtain⟨b,off,rfl,hbl,hx⟩:=hme.out (by omega)
       obtain⟨-,-,c2,-,-⟩:=hx k hlt
       obtain⟨ia,ic,FK,him,-⟩:=nS.out.moves.ins k hlt
       unfold maxLen at him
       rw[FK] at c2
       have hki:(0:Int)<=(k:Int)/\(k:Int)<m.moves.length:=by omega
       clear hx FK
       by_cases d:(jc m.moves k).2.wants.length<=10
       . have d':((jc m.moves k).2.wants.length:Int)<=10:=by omega
         have hH':Hid (∀j,j<k+1->decide ((jc m.moves j).2.wants.length<=10)=true):=ai (fK (p:=fun j=>decide ((jc m.moves j).2.wants.length<=10)) hH.out (decide_eq_true d))
         go_wp2_with (fail)
         exact⟨⟨k+1,by omega,by go_num,hH',g,rfl⟩,by simp[intOf];omega⟩
       . have d':(10:Int)<((jc m.moves k).2.wants.length:Int):=by omega
         have hf:Hid (m.brB=false):=ai (by unfold iY.brB;rw[dV (p:=fun j=>decide ((jc m.moves j).2.wants.length<=10)) hlt (decide_eq_false d)];simp)
         go_wp2_with (fail)
         go_ret
         exact aB.mk hf.out (aj hBw.out g.h)
     . obtain rfl:k=m.moves.length:=by omega
       have hf:Hid (m.brB=true):=ai (by unfold iY.brB;rw[hvB.out,pg (p:=fun j=>decide ((jc m.moves j).2.wants.length<=10)) fun j hj=>hH.out j hj];rfl)
       clear hme hH
       go_wp2_with (fail)
       go_ret
       exact aB.mk hf.out (aj hBw.out g.h)
theorem ZW (w:World)(c c':Array Value)(t:TypeId):(w.alloc (.cells c t)).setRow w.heap.size c'=w.alloc (.cells c' t):=by
 simp only[World.setRow,World.alloc]
 congr 1
 apply Array.ext_getElem?
 intro i
 rw[Array.getElem?_modify]
 by_cases h:w.heap.size=i
 . subst h
   simp
 . have h':¬ i=w.heap.size:=fun e=>h e.symm
   simp[h,h',Array.getElem?_push]
theorem fA {X:World}{ops:Array Oper}{rest:List Oper}{o:Oper}{a:Act}{Q:Exit->Act->World->Prop}(hgd:o.guard=none)(ty:TypeId)(x y:Operand)(ho:o.op=.store ty x y)(hd:o.dst=none)
    (hx:a.eval x=.pointer (some ⟨X.heap.size,0,none⟩)) (cells:Array Value) (hy:a.eval y=.agg cells) (t:TypeId) (old:Array Value) (hi:(Tryz.prog.info? ty).map (·.size)=some cells.size) (hold:old.size=cells.size) (h1:cells.all (·.oneCell')=true)
    (h:wpList Tryz.prog ops Q rest a (X.alloc (.cells cells t))):wpList Tryz.prog ops Q (o :: rest) a (X.alloc (.cells old t)):=by
 refine wpList_store_row hgd ty x y ho X.heap.size cells hx hy t old (World.alloc_heap_new X _) hi hold h1 ?_
 rw[ZW,hd]
 exact h
structure acM (d:DC):Prop where
 pv:d.pv.oneCell'=true
 sv:d.sv.oneCell'=true
 vv:d.vv.oneCell'=true
 mv:d.mv.oneCell'=true
 ov:d.ov.oneCell'=true
theorem nK {α:Type}{m:Nat}{enc:α->List Value}{d:α}{w:World}{v:Value}{xs:List α}(h:gG m enc d w v xs):v.oneCell'=true:=by
 obtain⟨a,c,rfl,-⟩:=h
 rfl
theorem MJ.sl {w:World}{d:DC}(h:MJ w d):acM d:=⟨nK h.parts,nK h.Rq.aO,nK h.Rq.aA.els,nK h.Rq.moves.els,nK h.Rq.opn⟩
theorem acM.one {d:DC}(h:acM d):(NG d).all (·.oneCell')=true:=by
 have h1:=h.pv
 have h2:=h.sv
 have h3:=h.vv
 have h4:=h.mv
 have h5:=h.ov
 simp only[NG,List.all_toArray,List.all_cons,List.all_nil,h1,h2,h3,h4,h5]
 rfl
abbrev wkV (cv vv:Value)(k:Wk):Value:=.agg #[.int .i64 k.st.space,.int .i64 k.st.iq,.int .i64 k.st.out,.int .i64 k.st.lead,.int .i64 k.st.fuel,cv,vv,.int .i64 k.long,.int .i64 k.day,.int .i64 k.meter]
abbrev wkO (cv vv:Value)(k:Wk):Obj:=.cells #[.int .i64 k.st.space,.int .i64 k.st.iq,.int .i64 k.st.out,.int .i64 k.st.lead,.int .i64 k.st.fuel,cv,vv,.int .i64 k.long,.int .i64 k.day,.int .i64 k.meter] 27
structure PR (w:World)(cv vv:Value)(k:Wk):Prop where
 cons:iP w cv k.st.cons
 aW:GG w vv k.aW
theorem PR.mono {w w':World}{cv vv:Value}{k:Wk}(h:PR w cv vv k)(hb:Below w.heap.size w w'):PR w' cv vv k:=⟨h.cons.mono hb,h.aW.mono hb⟩
theorem uu {w:World}{n:Nat}{a0 a1 a2 a3 a4 a5 a6 a7 a8 a9:Value}{e:TypeId}(h:w.heap[n]? = some (.cells #[a0,a1,a2,a3,a4,a5,a6,a7,a8,a9] e (0,0))):w.cell? ⟨n,0,none⟩=some a0/\w.cell? ⟨n,1,none⟩=some a1/\w.cell? ⟨n,2,none⟩=some a2/\w.cell? ⟨n,3,none⟩=some a3/\w.cell? ⟨n,4,none⟩=some a4/\w.cell? ⟨n,5,none⟩=some a5/\w.cell? ⟨n,6,none⟩=some a6/\w.cell? ⟨n,7,none⟩=some a7/\w.cell? ⟨n,8,none⟩=some a8/\w.cell? ⟨n,9,none⟩=some a9:=by
 have r:=(ah h).2.1
 exact⟨r 0,r 1,r 2,r 3,r 4,r 5,r 6,r 7,r 8,r 9⟩
theorem ath (a b c:Int)(w:World):Calls Tryz.prog 67 #[.int .i64 a,.int .i64 b,.int .i64 c] w (iM (inB a b c) w):=by
 by_cases h:b<=a
 . go_enter Tryz.func67,Tryz.ntmps67
   go_wp2
   go_ret
   exact⟨_,rfl,ai (by unfold Wl.inB;simp[h] <;> omega),rfl⟩
 . go_enter Tryz.func67,Tryz.ntmps67
   go_wp2
   go_ret
   exact⟨_,rfl,ai (by unfold Wl.inB;simp[h] <;> omega),rfl⟩
theorem Ld {a b c:Int}{t:Bool}(h:inB a b c=t)(w:World):Calls Tryz.prog 67 #[.int .i64 a,.int .i64 b,.int .i64 c] w fun e w'=>e=.returned (.bool t)/\w=w' :=
 (ath a b c w).mono fun e w' ⟨t',he,ht,hw⟩=>⟨by rw[he,<- ht.out,h],hw⟩
structure nU (k:Wk):Prop where
 aW:k.aW.length<=3
 cons:k.st.cons.length<=8
 Rq:∀j,j<k.aW.length->(aQ k.aW j).m.nU
 parts:∀j,j<k.aW.length->(aQ k.aW j).we.parts.length<=12
 aC:∀j,j<k.st.cons.length->(aK k.st.cons j).2.aC.length<=10
