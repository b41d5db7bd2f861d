/- Walks. -/
import Derived.BigRegion
import Derived.Test.YtkjdidieiioijaaGreatK03
set_option linter.all false
set_option maxRecDepth 100000
set_option maxHeartbeats 16000000
namespace Go.Proofs.YtkjdidieiioijaaGreat.G
open Go.RowKit Go.Sd bz
theorem NP {k:IntKind}{a b:Int}(h:a=b):Ending.returned (.int k a)=.returned (.int k b):=by rw[h]
theorem nI {a b A B:Int}(ha:0<=a/\a<=A)(hb:0<=b/\b<=B):0<=a*b/\a*b<=A*B :=
 ⟨Int.mul_nonneg ha.1 hb.1,Int.mul_le_mul ha.2 hb.2 hb.1 (by omega)⟩
theorem GZ {c:d_}{p:Pt}(hc:c.Ok)(hg:0<=p.g/\p.g<=1000000)(hy:0<=p.y/\p.y<=1000000)(ht:0<=p.t/\p.t<=5000) :
    (0<=p.g*c.f0/\p.g*c.f0<=2000000000)/\(0<=p.y*c.f1/\p.y*c.f1<=2000000000)/\(0<=(p.g*c.f0+p.y*c.f1)*p.t/\(p.g*c.f0+p.y*c.f1)*p.t<=20000000000000):=by
 have a:=nI (B:=2000) hg ⟨by have:=hc.f0;omega,hc.f0.2⟩
 have b:=nI (B:=2000) hy ⟨by have:=hc.f1;omega,hc.f1.2⟩
 have d:=nI (A:=4000000000) (B:=5000) (a:=p.g*c.f0+p.y*c.f1) ⟨by omega,by omega⟩ ht
 exact⟨⟨a.1,by omega⟩,⟨b.1,by omega⟩,⟨d.1,by omega⟩⟩
theorem Fj (c:d_)(p:Pt)(v:Int)(w:World)(hc:c.Ok)(hg:0<=p.g/\p.g<=1000000)(hy:0<=p.y/\p.y<=1000000)(ht:0<=p.t/\p.t<=5000)(hv:0<=v/\v<=1000000) :
    Calls Tryz.prog 51 #[gm c,nR p,.int .i64 v] w (dI (.tuple #[.int .i64 (force c p),.int .i64 (v*10000000)]) w):=by
 obtain⟨b1,b2,b3⟩:=GZ hc hg hy ht
 obtain⟨W1,hW1⟩:=aG (w.alloc (.cells #[.int .i64 c.jm,.int .i64 c.jG,.int .i64 c.least,.int .i64 c.most,.int .i64 c.f0,.int .i64 c.f1,.int .i64 c.h0,.int .i64 c.h1,.int .i64 c.bu,.int .i64 c.mJ,.int .i64 c.phi] 96))
 obtain⟨aJ,f_,iC⟩:=boxed hW1
 obtain⟨W,hW⟩:=aG (W1.alloc (.cells #[.int .i64 p.g,.int .i64 p.y,.int .i64 p.t,.int .i64 p.w] 29))
 obtain⟨bF,iH,lW⟩:=boxed hW
 replace aJ:=(iH.block _ (aF aJ)).trans aJ
 have hBw:Below w.heap.size w W:=(by have:=iC;have:=lW;exact(f_.trans (iH.mono (by omega))))
 obtain⟨qK,jQ,jR⟩:=ah aJ
 obtain⟨eG,eH,fP,fQ,gV,gW,gX,gY,je,jf,iR⟩:=bJ aJ
 clear jQ jR aJ
 obtain⟨CS,rQ,rW⟩:=ah bF
 obtain⟨jg,jh,ji,jk⟩:=pX bF
 clear rQ rW bF
 have yL:w.heap.size<=w.heap.size:=by omega
 have MH:w.heap.size<=W1.heap.size:=by omega
 clear f_ iC iH lW
 go_enter Tryz.func51,Tryz.ntmps51
 go_wp2
 go_ret2
 exact⟨rfl,hBw⟩
theorem I7 (a b n:Int)(w:World)(hm : -1000000000000000000<=n*b/\n*b<=1000000000000000000) :
    Calls Tryz.prog 134 #[.int .i64 a,.int .i64 b,.int .i64 n] w (iM (decide (a<n*b)) w):=by
 go_enter Tryz.func134,Tryz.ntmps134
 go_wp2
 go_ret
 exact iM.mk rfl
theorem Yk {c:d_}{s:St}(hc:c.Ok)(hs:s.Ok) :
    (0<=c.mJ*(s.dK+s.di)/\c.mJ*(s.dK+s.di)<=2000000000)/\(0<=c.phi*(s.dB+s.dE)/\c.phi*(s.dB+s.dE)<=2000000000):=by
 have:=hs.g;have:=hs.y;have:=hc.pur
 have a:=nI (A:=1000) (B:=2000000) (a:=c.mJ) (b:=s.dK+s.di) ⟨by omega,by omega⟩ ⟨by omega,by omega⟩
 have b:=nI (A:=1000) (B:=2000000) (a:=c.phi) (b:=s.dB+s.dE) ⟨by omega,by omega⟩ ⟨by omega,by omega⟩
 exact⟨⟨a.1,by omega⟩,⟨b.1,by omega⟩⟩
theorem Qh {s:St}(hs:s.Ok):(0<=s.dB/\s.dB<=1000000)/\(0<=s.dK/\s.dK<=1000000)/\(0<=s.di/\s.di<=1000000)/\(0<=s.dE/\s.dE<=1000000):=by
 have:=hs.g;have:=hs.y
 exact⟨⟨by omega,by omega⟩,⟨by omega,by omega⟩,⟨by omega,by omega⟩,⟨by omega,by omega⟩⟩
theorem ag3 (c:d_)(s:St)(w:World)(hc:c.Ok)(hs:s.Ok):Calls Tryz.prog 137 #[gm c,jF s] w (aB (thin c s) w):=by
 obtain⟨b1,b2⟩:=Yk hc hs
 obtain⟨b3,b4,b5,b6⟩:=Qh hs
 have b7:=hc.pur
 obtain⟨W1,hW1⟩:=aG (w.alloc (.cells #[.int .i64 c.jm,.int .i64 c.jG,.int .i64 c.least,.int .i64 c.most,.int .i64 c.f0,.int .i64 c.f1,.int .i64 c.h0,.int .i64 c.h1,.int .i64 c.bu,.int .i64 c.mJ,.int .i64 c.phi] 96))
 obtain⟨aJ,f_,iC⟩:=boxed hW1
 obtain⟨W,hW⟩:=aG (W1.alloc (.cells #[.int .i64 s.dB,.int .i64 s.dK,.int .i64 s.di,.int .i64 s.dE,.int .i64 s.gK,.int .i64 s.gJ,.int .i64 s.wlo,.int .i64 s.whi] 40))
 obtain⟨bF,iH,lW⟩:=boxed hW
 replace aJ:=(iH.block _ (aF aJ)).trans aJ
 have hBw:Below w.heap.size w W:=(by have:=iC;have:=lW;exact(f_.trans (iH.mono (by omega))))
 obtain⟨qK,jQ,jR⟩:=ah aJ
 obtain⟨eG,eH,fP,fQ,gV,gW,gX,gY,je,jf,iR⟩:=bJ aJ
 clear jQ jR aJ
 obtain⟨CS,rQ,rW⟩:=ah bF
 obtain⟨jg,jh,ji,jk,qj,qm,qo,qw⟩:=rc8 bF
 clear rQ rW bF
 have yL:w.heap.size<=w.heap.size:=by omega
 have MH:w.heap.size<=W1.heap.size:=by omega
 clear f_ iC iH lW
 go_enter Tryz.func137,Tryz.ntmps137
 go_wp2_with (go_at_call 134;refine ax (I7 _ _ _ _ ?_) ?_;(first|omega|(rw[Int.neg_mul];omega));rintro e w1 ⟨t,rfl,ht,rfl⟩)
 go_ret
 exact aB.mk (by unfold Hid at ht;rw[<- ht];rfl) hBw
theorem ag1 (c:d_)(s:St)(w:World)(hc:c.Ok)(hs:s.Ok):Calls Tryz.prog 139 #[gm c,jF s] w (aB (ahy c s) w):=by
 obtain⟨b1,b2⟩:=Yk hc hs
 obtain⟨b3,b4,b5,b6⟩:=Qh hs
 have b7:=hc.pur
 obtain⟨W1,hW1⟩:=aG (w.alloc (.cells #[.int .i64 c.jm,.int .i64 c.jG,.int .i64 c.least,.int .i64 c.most,.int .i64 c.f0,.int .i64 c.f1,.int .i64 c.h0,.int .i64 c.h1,.int .i64 c.bu,.int .i64 c.mJ,.int .i64 c.phi] 96))
 obtain⟨aJ,f_,iC⟩:=boxed hW1
 obtain⟨W,hW⟩:=aG (W1.alloc (.cells #[.int .i64 s.dB,.int .i64 s.dK,.int .i64 s.di,.int .i64 s.dE,.int .i64 s.gK,.int .i64 s.gJ,.int .i64 s.wlo,.int .i64 s.whi] 40))
 obtain⟨bF,iH,lW⟩:=boxed hW
 replace aJ:=(iH.block _ (aF aJ)).trans aJ
 have hBw:Below w.heap.size w W:=(by have:=iC;have:=lW;exact(f_.trans (iH.mono (by omega))))
 obtain⟨qK,jQ,jR⟩:=ah aJ
 obtain⟨eG,eH,fP,fQ,gV,gW,gX,gY,je,jf,iR⟩:=bJ aJ
 clear jQ jR aJ
 obtain⟨CS,rQ,rW⟩:=ah bF
 obtain⟨jg,jh,ji,jk,qj,qm,qo,qw⟩:=rc8 bF
 clear rQ rW bF
 have yL:w.heap.size<=w.heap.size:=by omega
 have MH:w.heap.size<=W1.heap.size:=by omega
 clear f_ iC iH lW
 go_enter Tryz.func139,Tryz.ntmps139
 go_wp2_with (go_at_call 134;refine ax (I7 _ _ _ _ ?_) ?_;(first|omega|(rw[Int.neg_mul];omega));rintro e w1 ⟨t,rfl,ht,rfl⟩)
 go_ret
 exact aB.mk (by unfold Hid at ht;rw[<- ht];unfold ahy;rw[Bool.eq_iff_iff];simp only[decide_eq_true_eq,Int.neg_mul];omega) hBw
theorem I8 (m n d:Int)(w:World)(h0:0<=m*n/\m*n<=1000000000000000000)(hd:0<=d/\d<=1000000000000) :
    Calls Tryz.prog 78 #[.int .i64 m,.int .i64 n,.int .i64 d] w fun e w'=>e=.returned (.int .i64 (bz.part m n d))/\w=w':=by
 by_cases hz:d=0
 . subst hz
   go_enter Tryz.func78,Tryz.ntmps78
   go_wp2
   go_ret
   exact⟨NP (by simp[bz.part]),rfl⟩
 . have hq:bz.part m n d=m*n / d:=by unfold bz.part;rw[if_neg hz]
   have hq0:0<=m*n / d:=Int.ediv_nonneg h0.1 hd.1
   have hq1:m*n / d<=m*n:=Int.ediv_le_self _ h0.1
   replace hq:=ai hq
   have ht:(m*n).tdiv d=m*n / d:=Int.tdiv_eq_ediv_of_nonneg h0.1
   replace ht:=ai ht
   go_enter Tryz.func78,Tryz.ntmps78
   go_wp2
   go_ret
   exact⟨NP (by rw[hq.out]),rfl⟩
theorem QC (s:St)(w:World):Calls Tryz.prog 52 #[jF s] w (dI (nR s.low) w):=by
 obtain⟨W1,hW1⟩:=aG (w.alloc (.cells #[.int .i64 s.dB,.int .i64 s.dK,.int .i64 s.di,.int .i64 s.dE,.int .i64 s.gK,.int .i64 s.gJ,.int .i64 s.wlo,.int .i64 s.whi] 40))
 obtain⟨aJ,f_,iC⟩:=boxed hW1
 obtain⟨W,hW⟩:=aG (W1.alloc (.cells #[.int .i64 0,.int .i64 0,.int .i64 0,.int .i64 0] 29))
 obtain⟨bF,iH,lW⟩:=boxed hW
 replace aJ:=(iH.block _ (aF aJ)).trans aJ
 have hBw:Below w.heap.size w W:=(by have:=iC;have:=lW;exact(f_.trans (iH.mono (by omega))))
 obtain⟨qK,jQ,jR⟩:=ah aJ
 obtain⟨eG,eH,fP,fQ,gV,gW,gX,gY⟩:=rc8 aJ
 obtain⟨ja,jb,jy,jA,jB,jC,jD,jE⟩:=FP aJ
 clear jQ jR aJ
 obtain⟨CS,rQ,rW⟩:=ah bF
 obtain⟨jg,jh,ji,jk⟩:=pX bF
 obtain⟨lS,lT,lU,lV⟩:=Ak bF
 clear rQ rW bF
 have yL:w.heap.size<=w.heap.size:=by omega
 have MH:w.heap.size<=W1.heap.size:=by omega
 clear f_ iC iH lW
 go_enter Tryz.func52,Tryz.ntmps52
 go_wp2
 refine bodyPost_ret (v:=nR s.low) (by simp[results,Tryz.results52,go_sem,St.low, *]) rfl ⟨rfl,?_⟩
 repeat' (first|exact hBw|exact MH|refine Below.setCell ?_ ?_ _)
theorem Lr (s:St)(w:World):Calls Tryz.prog 53 #[jF s] w (dI (nR s.high) w):=by
 obtain⟨W1,hW1⟩:=aG (w.alloc (.cells #[.int .i64 s.dB,.int .i64 s.dK,.int .i64 s.di,.int .i64 s.dE,.int .i64 s.gK,.int .i64 s.gJ,.int .i64 s.wlo,.int .i64 s.whi] 40))
 obtain⟨aJ,f_,iC⟩:=boxed hW1
 obtain⟨W,hW⟩:=aG (W1.alloc (.cells #[.int .i64 0,.int .i64 0,.int .i64 0,.int .i64 0] 29))
 obtain⟨bF,iH,lW⟩:=boxed hW
 replace aJ:=(iH.block _ (aF aJ)).trans aJ
 have hBw:Below w.heap.size w W:=(by have:=iC;have:=lW;exact(f_.trans (iH.mono (by omega))))
 obtain⟨qK,jQ,jR⟩:=ah aJ
 obtain⟨eG,eH,fP,fQ,gV,gW,gX,gY⟩:=rc8 aJ
 obtain⟨ja,jb,jy,jA,jB,jC,jD,jE⟩:=FP aJ
 clear jQ jR aJ
 obtain⟨CS,rQ,rW⟩:=ah bF
 obtain⟨jg,jh,ji,jk⟩:=pX bF
 obtain⟨lS,lT,lU,lV⟩:=Ak bF
 clear rQ rW bF
 have yL:w.heap.size<=w.heap.size:=by omega
 have MH:w.heap.size<=W1.heap.size:=by omega
 clear f_ iC iH lW
 go_enter Tryz.func53,Tryz.ntmps53
 go_wp2
 refine bodyPost_ret (v:=nR s.high) (by simp[results,Tryz.results53,go_sem,St.high, *]) rfl ⟨rfl,?_⟩
 repeat' (first|exact hBw|exact MH|refine Below.setCell ?_ ?_ _)
end Go.Proofs.YtkjdidieiioijaaGreat.G
namespace bz
def G5 (a b:Int):Int:=(Nat.gcd a.toNat b.toNat:Nat)
theorem adf {a:Int}(h:0<=a):G5 a 0=a:=by simp[G5];omega
theorem toNat_mod {a b:Int}(ha:0<=a)(hb:0<b):(a % b).toNat=a.toNat % b.toNat:=by
 obtain⟨m,rfl⟩:=Int.eq_ofNat_of_zero_le ha
 obtain⟨n,rfl⟩:=Int.eq_ofNat_of_zero_le (show 0<=b by omega)
 simp only[Int.toNat_natCast];omega
theorem ade {a b:Int}(ha:0<=a)(hb:0<b):G5 b (a % b)=G5 a b:=by
 unfold G5
 rw[toNat_mod ha hb,Nat.gcd_comm b.toNat,<- Nat.gcd_rec,Nat.gcd_comm]
theorem adb (a b:Int):G5 a b=G5 b a:=by unfold G5;rw[Nat.gcd_comm]
structure Fr where
 (n d:Int)
def aiH (a b:Int):Fr:=⟨a / G5 a b,b / G5 a b⟩
end bz
namespace Go.Proofs.YtkjdidieiioijaaGreat.G
open Go.RowKit Go.Sd bz
abbrev frV (f:Fr):Value:=.agg #[.int .i64 f.n,.int .i64 f.d]
theorem Lt (a b:Int)(w:World)(ha:0<=a/\a<=4000000000000000000)(hb:0<b/\b<=4000000000000000000) :
    Calls Tryz.prog 54 #[.int .i64 a,.int .i64 b] w (dI (frV (aiH a b)) w):=by
 obtain⟨W,hW⟩:=aG (w.alloc (.cells #[.int .i64 0,.int .i64 0] 73))
 obtain⟨aJ,f_,iC⟩:=boxed hW
 have hBw:Below w.heap.size w W:=f_
 obtain⟨qK,jQ,jR⟩:=ah aJ
 obtain⟨eG,eH⟩:=rc2 aJ
 obtain⟨ja,jb⟩:=rf2 aJ
 clear jQ jR aJ
 have yL:w.heap.size<=w.heap.size:=by omega
 clear f_ iC
 go_enter Tryz.func54,Tryz.ntmps54
 go_wp2
 go_loopw [5,6] (fun x y wr=>∃g:Grow W,wr=g.x/\∃p q:Int,x=.int .i64 p/\y=.int .i64 q/\(0<p/\p<=4000000000000000000)/\(0<=q/\q<=4000000000000000000)/\Hid (G5 p q=G5 a b)) (fun x y _=>(intOf y).toNat)
 case atStart=>exact⟨Grow.self W,rfl,b,a,rfl,rfl,hb,ha,adb b a⟩
 case round =>
  obtain⟨g,rfl,p,q,rfl,rfl,hp,hq,hpq⟩:=hrel
  have hg:=az W
  have hgf:=dG W
  by_cases h0:q=0
  . subst h0
    have hz:=adf (a:=p) (by omega)
    rw[hz] at hpq
    have hf:Hid (aiH a b=⟨a / p,b / p⟩):=ai (by unfold aiH;rw[<- hpq.out])
    have hq1:0<=a / p:=Int.ediv_nonneg ha.1 (by omega)
    have hq2:a / p<=a:=Int.ediv_le_self _ ha.1
    have hq3:0<=b / p:=Int.ediv_nonneg (by omega) (by omega)
    have hq4:b / p<=b:=Int.ediv_le_self _ (by omega)
    clear hz hpq
    go_wp2
    go_region
    go_wp2
    refine bodyPost_ret (v:=frV ⟨a / p,b / p⟩) (by simp[results,Tryz.results54,go_sem, *]) rfl ⟨by rw[hf.out],?_⟩
    exact(((hBw.trans (g.h.mono hBw.size)).setCell (p:=⟨w.heap.size,0,none⟩) (Nat.le_refl _) _).setCell (p:=⟨w.heap.size,1,none⟩) (Nat.le_refl _) _).drew
  . have hm0:=Int.emod_nonneg p h0
    have hm1:=Int.emod_lt_of_pos p (show 0<q by omega)
    have hs:=ade (a:=p) (b:=q) (by omega) (by omega)
    have hs2:Hid (G5 q (p % q)=G5 a b):=ai (hs.trans hpq.out)
    clear hs hpq
    go_wp2
    go_region
    go_wp2
    obtain⟨g2,hg2⟩:=g.next (Below.refl g.x.heap.size g.x).drew
    exact⟨⟨g2,hg2,q,p % q,rfl,rfl,by omega,by omega,hs2⟩,by simp[intOf];omega⟩
def yg (c:d_)(k:Nat):Bool:=match k with
 | 0=>true
 | 1=>inB c.f0 500 2000 && inB c.h0 1 100
 | _=>(inB c.f0 500 2000 && inB c.h0 1 100) && (inB c.f1 500 2000 && inB c.h1 1 100)
theorem AZ {c:d_}{k:Nat}(h:yg c k=false):c.ok=false:=by
 match k with
 | 0=>cases h
 | 1=>simp only[yg] at h;simp[d_.ok,h]
 | k+2=>simp only[yg] at h;simp[d_.ok,h]
theorem adV (c:d_)(w:World):Calls Tryz.prog 68 #[gm c] w (aB c.ok w):=by
 obtain⟨W,hW⟩:=aG (w.alloc (.cells #[.int .i64 c.jm,.int .i64 c.jG,.int .i64 c.least,.int .i64 c.most,.int .i64 c.f0,.int .i64 c.f1,.int .i64 c.h0,.int .i64 c.h1,.int .i64 c.bu,.int .i64 c.mJ,.int .i64 c.phi] 38))
 obtain⟨aJ,f_,iC⟩:=boxed hW
 have hBw:Below w.heap.size w W:=f_
 obtain⟨qK,jQ,jR⟩:=ah aJ
 obtain⟨eG,eH,fP,fQ,gV,gW,gX,gY,je,jf,iR⟩:=bJ aJ
 clear jQ jR aJ
 have yL:w.heap.size<=w.heap.size:=by omega
 clear f_ iC
 have hg:=az W
 go_enter Tryz.func68,Tryz.ntmps68
 go_wp2
 go_loopw [3] (fun i wr=>∃g:Grow W,wr=g.x/\((i=.int .i64 0/\Hid True)\/(i=.int .i64 1/\Hid (yg c 1=true))\/(i=.int .i64 2/\Hid (yg c 2=true)))) (fun i _=>(2 - intOf i).toNat)
 case atStart=>exact⟨Grow.self W,rfl,.inl ⟨rfl,trivial⟩⟩
 case round =>
  obtain⟨g,rfl,(⟨rfl,hH⟩|⟨rfl,hH⟩|⟨rfl,hH⟩)⟩:=hrel
  . go_wp2_with (go_at_call 22;refine ax (TP _ _ _ _) ?_;rintro e w1 ⟨(_|_),rfl,ht,rfl⟩)
    . go_ret
      exact aB.mk (AZ (k:=1) (by unfold Hid at *;simp[yg, *])) (hBw.trans (g.h.mono hBw.size))
    . go_ret
      exact aB.mk (AZ (k:=1) (by unfold Hid at *;simp[yg, *])) (hBw.trans (g.h.mono hBw.size))
    . exact⟨⟨g,rfl,.inr (.inl ⟨rfl,by unfold Hid at *;simp[yg, *]⟩)⟩,by simp[intOf]⟩
  . go_wp2_with (go_at_call 22;refine ax (TP _ _ _ _) ?_;rintro e w1 ⟨(_|_),rfl,ht,rfl⟩)
    . go_ret
      exact aB.mk (AZ (k:=2) (by unfold Hid at *;simp[yg, *])) (hBw.trans (g.h.mono hBw.size))
    . go_ret
      exact aB.mk (AZ (k:=2) (by unfold Hid at *;simp[yg, *])) (hBw.trans (g.h.mono hBw.size))
    . exact⟨⟨g,rfl,.inr (.inr ⟨rfl,by unfold Hid at *;simp only[yg] at *;simp[*]⟩)⟩,by simp[intOf]⟩
  . go_wp2_with (first|(go_at_call 22;refine ax (TP _ _ _ _) ?_;rintro e w1 ⟨(_|_),rfl,ht,rfl⟩)|(go_at_call 123;refine ax (VC _ _ _ _ _) ?_;rintro e w1 ⟨(_|_),rfl,ht,hB⟩ <;> ((first|(obtain⟨g,rfl⟩:=g.next hB)|(obtain⟨g,rfl⟩:∃g:Grow W,w1=g.x:=⟨⟨w1,hB⟩,rfl⟩));clear hB)))
    all_goals
     go_ret
     exact aB.mk (by unfold Hid at *;simp only[yg] at *;simp[d_.ok, *]) (hBw.trans (g.h.mono hBw.size))
theorem nP (c:d_)(w:World):Calls Tryz.prog 23 #[gm c] w (aB c.ok w):=by
 obtain⟨W,hW⟩:=aG (w.alloc (.cells #[.int .i64 c.jm,.int .i64 c.jG,.int .i64 c.least,.int .i64 c.most,.int .i64 c.f0,.int .i64 c.f1,.int .i64 c.h0,.int .i64 c.h1,.int .i64 c.bu,.int .i64 c.mJ,.int .i64 c.phi] 96))
 obtain⟨aJ,f_,iC⟩:=boxed hW
 have hBw:Below w.heap.size w W:=f_
 obtain⟨qK,jQ,jR⟩:=ah aJ
 obtain⟨eG,eH,fP,fQ,gV,gW,gX,gY,je,jf,iR⟩:=bJ aJ
 clear jQ jR aJ
 have yL:w.heap.size<=w.heap.size:=by omega
 clear f_ iC
 have hg:=az W
 go_enter Tryz.func23,Tryz.ntmps23
 go_wp2
 go_loopw [3,4] (fun _ i wr=>∃g:Grow W,wr=g.x/\((i=.int .i64 0/\Hid True)\/(i=.int .i64 1/\Hid (yg c 1=true))\/(i=.int .i64 2/\Hid (yg c 2=true)))) (fun _ i _=>(2 - intOf i).toNat)
 case atStart=>exact⟨Grow.self W,rfl,.inl ⟨rfl,trivial⟩⟩
 case round =>
  obtain⟨g,rfl,(⟨rfl,hH⟩|⟨rfl,hH⟩|⟨rfl,hH⟩)⟩:=hrel
  . go_wp2_with (go_at_call 73;refine ax (jv _ _ _ _) ?_;rintro e w1 ⟨(_|_),rfl,ht,rfl⟩)
    . go_ret
      exact aB.mk (AZ (k:=1) (by unfold Hid at *;simp[yg, *])) (hBw.trans (g.h.mono hBw.size))
    . go_ret
      exact aB.mk (AZ (k:=1) (by unfold Hid at *;simp[yg, *])) (hBw.trans (g.h.mono hBw.size))
    . exact⟨⟨g,rfl,.inr (.inl ⟨rfl,by unfold Hid at *;simp[yg, *]⟩)⟩,by simp[intOf]⟩
  . go_wp2_with (go_at_call 73;refine ax (jv _ _ _ _) ?_;rintro e w1 ⟨(_|_),rfl,ht,rfl⟩)
    . go_ret
      exact aB.mk (AZ (k:=2) (by unfold Hid at *;simp[yg, *])) (hBw.trans (g.h.mono hBw.size))
    . go_ret
      exact aB.mk (AZ (k:=2) (by unfold Hid at *;simp[yg, *])) (hBw.trans (g.h.mono hBw.size))
    . exact⟨⟨g,rfl,.inr (.inr ⟨rfl,by unfold Hid at *;simp only[yg] at *;simp[*]⟩)⟩,by simp[intOf]⟩
  . go_wp2_with (first|(go_at_call 73;refine ax (jv _ _ _ _) ?_;rintro e w1 ⟨(_|_),rfl,ht,rfl⟩)|(go_at_call 74;refine ax (oG _ _ _ _ _) ?_;rintro e w1 ⟨(_|_),rfl,ht,hB⟩ <;> ((first|(obtain⟨g,rfl⟩:=g.next hB)|(obtain⟨g,rfl⟩:∃g:Grow W,w1=g.x:=⟨⟨w1,hB⟩,rfl⟩));clear hB)))
    all_goals
     go_ret
     exact aB.mk (by unfold Hid at *;simp only[yg] at *;simp[d_.ok, *]) (hBw.trans (g.h.mono hBw.size))
theorem aqF (o:bz.Op)(w:World):Calls Tryz.prog 70 #[Ll o] w (aB o.ok w):=by
 obtain⟨W,hW⟩:=aG (w.alloc (.cells #[.int .i64 o.kind,.int .i64 o.lg,.int .i64 o.ly,.int .i64 o.lt,.int .i64 o.lw,.int .i64 o.ay,.int .i64 o.lY,.int .i64 o.lX,.int .i64 o.wlo,.int .i64 o.whi] 43))
 obtain⟨aJ,f_,iC⟩:=boxed hW
 have hBw:Below w.heap.size w W:=f_
 obtain⟨qK,jQ,jR⟩:=ah aJ
 obtain⟨eG,eH,fP,fQ,gV,gW,gX,gY,je,jf⟩:=gB aJ
 clear jQ jR aJ
 have yL:w.heap.size<=w.heap.size:=by omega
 clear f_ iC
 have hg:=az W
 go_enter Tryz.func70,Tryz.ntmps70
 go_wp2_with (first|(go_at_call 22;refine ax (TP _ _ _ _) ?_;rintro e w1 ⟨(_|_),rfl,ht,rfl⟩)|(go_at_call 123;refine ax (VC _ _ _ _ _) ?_;rintro e w1 ⟨(_|_),rfl,ht,hB⟩ <;> ((first|(obtain⟨g,rfl⟩:=g.next hB)|(obtain⟨g,rfl⟩:∃g:Grow W,w1=g.x:=⟨⟨w1,hB⟩,rfl⟩));clear hB))|(go_at_call 124;refine ax (ahu ⟨_,_,_,_⟩ _) ?_;rintro e w1 ⟨(_|_),rfl,ht,hB⟩ <;> ((first|(obtain⟨g,rfl⟩:=g.next hB)|(obtain⟨g,rfl⟩:∃g:Grow W,w1=g.x:=⟨⟨w1,hB⟩,rfl⟩));clear hB)))
 all_goals
  go_ret
  exact aB.mk (by(try unfold Hid at *);simp_all [bz.Op.ok,bz.Op.lot]) (by first|exact hBw|exact hBw.trans (g.h.mono hBw.size))
theorem ZF (o:bz.Op)(w:World):Calls Tryz.prog 25 #[Ll o] w (aB o.ok w):=by
 obtain⟨k,lg,ly,lt,lw,m,a,b,x,y⟩:=o
 by_cases h1:k=1
 . subst h1
   obtain⟨W1,hW1⟩:=aG (w.alloc (.cells #[.int .i64 1,.int .i64 lg,.int .i64 ly,.int .i64 lt,.int .i64 lw,.int .i64 m,.int .i64 a,.int .i64 b,.int .i64 x,.int .i64 y] 43))
   obtain⟨aJ,f_,iC⟩:=boxed hW1
   have Ae:w.heap.size<W1.heap.size:=by omega
   obtain⟨jV,jW,jX,jY,jZ,j_,ku,kz,kJ,kQ⟩:=gB aJ
   obtain⟨W,hW⟩:=aG (W1.alloc (.cells #[.int .i64 1,.int .i64 0,.int .i64 0,.int .i64 0,.int .i64 0,.int .i64 m,.int .i64 a,.int .i64 b,.int .i64 x,.int .i64 y] 43))
   obtain⟨bF,iH,lW⟩:=boxed hW
   replace aJ:=(iH.block _ (aF aJ)).trans aJ
   have hBw:Below w.heap.size w W:=(by have:=iC;have:=lW;exact(f_.trans (iH.mono (by omega))))
   obtain⟨qK,jQ,jR⟩:=ah aJ
   obtain⟨eG,eH,fP,fQ,gV,gW,gX,gY,je,jf⟩:=gB aJ
   obtain⟨ja,jb,jy,jA,jB,jC,jD,jE,mP,mQ⟩:=FO aJ
   clear jQ jR aJ
   obtain⟨CS,rQ,rW⟩:=ah bF
   obtain⟨jg,jh,ji,jk,qj,qm,qo,qw,XW,XX⟩:=gB bF
   obtain⟨lS,lT,lU,lV,sO,sQ,sS,sU,WW,WX⟩:=FO bF
   clear rQ rW bF
   have yL:w.heap.size<=w.heap.size:=by omega
   have MH:w.heap.size<=W1.heap.size:=by omega
   clear f_ iC iH lW
   have hg:=az W
   go_enter Tryz.func25,Tryz.ntmps25
   go_wp2_with (first|(go_at_call 73;refine ax (jv _ _ _ _) ?_;rintro e w1 ⟨(_|_),rfl,ht,rfl⟩)|(go_at_call 74;refine ax (oG _ _ _ _ _) ?_;rintro e w1 ⟨(_|_),rfl,ht,hB⟩ <;> ((first|(obtain⟨g,rfl⟩:=g.next hB)|(obtain⟨g,rfl⟩:∃g:Grow W,w1=g.x:=⟨⟨w1,hB⟩,rfl⟩));clear hB))|(go_at_call 28;refine ax (Fh ⟨_,_,_,_⟩ _) ?_;rintro e w1 ⟨(_|_),rfl,ht,hB⟩ <;> ((first|(obtain⟨g,rfl⟩:=g.next hB)|(obtain⟨g,rfl⟩:∃g:Grow W,w1=g.x:=⟨⟨w1,hB⟩,rfl⟩));clear hB)))
   all_goals
    go_ret
    refine aB.mk ?_ (by first|exact hBw|exact hBw.trans (g.h.mono hBw.size))
    clear jV jW jX jY jZ j_ ku kz kJ kQ eG eH fP fQ gV gW gX gY je jf ja jb jy jA jB jC jD jE mP mQ jg jh ji jk qj qm qo qw XW XX lS lT lU lV sO sQ sS sU WW WX hW1 hW hg
    (try unfold Hid at *);simp[bz.Op.ok,bz.Op.lot, *]
 by_cases h2:k=2
 . subst h2
   clear h1
   obtain⟨W1,hW1⟩:=aG (w.alloc (.cells #[.int .i64 2,.int .i64 lg,.int .i64 ly,.int .i64 lt,.int .i64 lw,.int .i64 m,.int .i64 a,.int .i64 b,.int .i64 x,.int .i64 y] 43))
   obtain⟨aJ,f_,iC⟩:=boxed hW1
   have Ae:w.heap.size<W1.heap.size:=by omega
   obtain⟨jV,jW,jX,jY,jZ,j_,ku,kz,kJ,kQ⟩:=gB aJ
   obtain⟨W,hW⟩:=aG (W1.alloc (.cells #[.int .i64 2,.int .i64 lg,.int .i64 ly,.int .i64 lt,.int .i64 lw,.int .i64 0,.int .i64 a,.int .i64 b,.int .i64 x,.int .i64 y] 43))
   obtain⟨bF,iH,lW⟩:=boxed hW
   replace aJ:=(iH.block _ (aF aJ)).trans aJ
   have hBw:Below w.heap.size w W:=(by have:=iC;have:=lW;exact(f_.trans (iH.mono (by omega))))
   obtain⟨qK,jQ,jR⟩:=ah aJ
   obtain⟨eG,eH,fP,fQ,gV,gW,gX,gY,je,jf⟩:=gB aJ
   obtain⟨ja,jb,jy,jA,jB,jC,jD,jE,mP,mQ⟩:=FO aJ
   clear jQ jR aJ
   obtain⟨CS,rQ,rW⟩:=ah bF
   obtain⟨jg,jh,ji,jk,qj,qm,qo,qw,XW,XX⟩:=gB bF
   obtain⟨lS,lT,lU,lV,sO,sQ,sS,sU,WW,WX⟩:=FO bF
   clear rQ rW bF
   have yL:w.heap.size<=w.heap.size:=by omega
   have MH:w.heap.size<=W1.heap.size:=by omega
   clear f_ iC iH lW
   have hg:=az W
   go_enter Tryz.func25,Tryz.ntmps25
   go_wp2_with (first|(go_at_call 73;refine ax (jv _ _ _ _) ?_;rintro e w1 ⟨(_|_),rfl,ht,rfl⟩)|(go_at_call 74;refine ax (oG _ _ _ _ _) ?_;rintro e w1 ⟨(_|_),rfl,ht,hB⟩ <;> ((first|(obtain⟨g,rfl⟩:=g.next hB)|(obtain⟨g,rfl⟩:∃g:Grow W,w1=g.x:=⟨⟨w1,hB⟩,rfl⟩));clear hB))|(go_at_call 28;refine ax (Fh ⟨_,_,_,_⟩ _) ?_;rintro e w1 ⟨(_|_),rfl,ht,hB⟩ <;> ((first|(obtain⟨g,rfl⟩:=g.next hB)|(obtain⟨g,rfl⟩:∃g:Grow W,w1=g.x:=⟨⟨w1,hB⟩,rfl⟩));clear hB)))
   all_goals
    go_ret
    refine aB.mk ?_ (by first|exact hBw|exact hBw.trans (g.h.mono hBw.size))
    clear jV jW jX jY jZ j_ ku kz kJ kQ eG eH fP fQ gV gW gX gY je jf ja jb jy jA jB jC jD jE mP mQ jg jh ji jk qj qm qo qw XW XX lS lT lU lV sO sQ sS sU WW WX hW1 hW hg
    (try unfold Hid at *);simp[bz.Op.ok,bz.Op.lot, *]
 by_cases h3:k=3
 . subst h3
   clear h1 h2
   obtain⟨W1,hW1⟩:=aG (w.alloc (.cells #[.int .i64 3,.int .i64 lg,.int .i64 ly,.int .i64 lt,.int .i64 lw,.int .i64 m,.int .i64 a,.int .i64 b,.int .i64 x,.int .i64 y] 43))
   obtain⟨aJ,f_,iC⟩:=boxed hW1
   have Ae:w.heap.size<W1.heap.size:=by omega
   obtain⟨jV,jW,jX,jY,jZ,j_,ku,kz,kJ,kQ⟩:=gB aJ
   obtain⟨W,hW⟩:=aG (W1.alloc (.cells #[.int .i64 3,.int .i64 lg,.int .i64 ly,.int .i64 lt,.int .i64 lw,.int .i64 m,.int .i64 0,.int .i64 0,.int .i64 0,.int .i64 0] 43))
   obtain⟨bF,iH,lW⟩:=boxed hW
   replace aJ:=(iH.block _ (aF aJ)).trans aJ
   have hBw:Below w.heap.size w W:=(by have:=iC;have:=lW;exact(f_.trans (iH.mono (by omega))))
   obtain⟨qK,jQ,jR⟩:=ah aJ
   obtain⟨eG,eH,fP,fQ,gV,gW,gX,gY,je,jf⟩:=gB aJ
   obtain⟨ja,jb,jy,jA,jB,jC,jD,jE,mP,mQ⟩:=FO aJ
   clear jQ jR aJ
   obtain⟨CS,rQ,rW⟩:=ah bF
   obtain⟨jg,jh,ji,jk,qj,qm,qo,qw,XW,XX⟩:=gB bF
   obtain⟨lS,lT,lU,lV,sO,sQ,sS,sU,WW,WX⟩:=FO bF
   clear rQ rW bF
   have yL:w.heap.size<=w.heap.size:=by omega
   have MH:w.heap.size<=W1.heap.size:=by omega
   clear f_ iC iH lW
   have hg:=az W
   replace hW:=ai hW
   go_enter Tryz.func25,Tryz.ntmps25
   go_wp2_with (go_at_call 74;(try rw[hW.out]);refine ax (oG _ _ _ _ _) ?_;rintro e w1 ⟨(_|_),rfl,ht,hB⟩ <;> ((first|(obtain⟨g,rfl⟩:=g.next hB)|(obtain⟨g,rfl⟩:∃g:Grow W,w1=g.x:=⟨⟨w1,hB⟩,rfl⟩));clear hB))
   all_goals
    go_ret
    refine aB.mk ?_ (by first|exact hBw|exact hBw.trans (g.h.mono hBw.size))
    clear jV jW jX jY jZ j_ ku kz kJ kQ eG eH fP fQ gV gW gX gY je jf ja jb jy jA jB jC jD jE mP mQ jg jh ji jk qj qm qo qw XW XX lS lT lU lV sO sQ sS sU WW WX hW1 hW hg
    (try unfold Hid at *);simp[bz.Op.ok,bz.Op.lot, *]
 . go_enter Tryz.func25,Tryz.ntmps25
   go_wp2_with (fail)
   go_ret
   exact aB.mk (by simp[bz.Op.ok,h1,h2,h3]) (lC (lC (Below.refl _ _) _) _)
