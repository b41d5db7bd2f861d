/- Walks. -/
import Derived.Test.YtkjdidieiioijaaGreatK07
set_option linter.all false
set_option maxRecDepth 100000
set_option maxHeartbeats 16000000
namespace Go.Proofs.YtkjdidieiioijaaGreat.G
open Go.RowKit Go.Sd bz
theorem FV (c:d_)(p:Pt)(m:Int)(w:World)(hp:p.Ok)(hm:0<=m/\m<=100000000)(h:p.g+p.y<m) :
    Calls Tryz.prog 33 #[gm c,nR p,.int .i64 m] w (jI w):=by
 have b7:=hp.g;have b8:=hp.y;have b9:=hp.w
 clear hp
 obtain⟨W1,hW1⟩:=aG (w.alloc (.cells #[.int .i64 c.jm,.int .i64 c.jG,.int .i64 c.least,.int .i64 c.most,.int .i64 c.f0,.int .i64 c.f1,.int .i64 c.h0,.int .i64 c.h1,.int .i64 c.bu,.int .i64 c.mJ,.int .i64 c.phi] 96))
 obtain⟨aJ,f_,iC⟩:=boxed hW1
 obtain⟨W2,hW2⟩:=aG (W1.alloc (.cells #[.int .i64 p.g,.int .i64 p.y,.int .i64 p.t,.int .i64 p.w] 29))
 obtain⟨bF,iH,lW⟩:=boxed hW2
 obtain⟨W3,hW3⟩:=aG (W2.alloc (.cells #[.int .i64 0,.int .i64 0,.int .i64 0,.int .i64 0] 29))
 obtain⟨dQ,jS,uy⟩:=boxed hW3
 obtain⟨W,hW⟩:=aG (W3.alloc (.cells #[.int .i64 0,.int .i64 0,.int .i64 0,.int .i64 0] 29))
 obtain⟨ik,l7,CG⟩:=boxed hW
 replace aJ:=(iH.block _ (aF aJ)).trans aJ
 replace aJ:=(jS.block _ (aF aJ)).trans aJ
 replace aJ:=(l7.block _ (aF aJ)).trans aJ
 replace bF:=(jS.block _ (aF bF)).trans bF
 replace bF:=(l7.block _ (aF bF)).trans bF
 replace dQ:=(l7.block _ (aF dQ)).trans dQ
 have hBw:Below w.heap.size w W:=(by have:=iC;have:=lW;have:=uy;have:=CG;exact(((f_.trans (iH.mono (by omega))).trans (jS.mono (by omega))).trans (l7.mono (by omega))))
 obtain⟨qK,jQ,jR⟩:=ah aJ
 obtain⟨eG,eH,fP,fQ,gV,gW,gX,gY,je,jf,iR⟩:=bJ aJ
 clear jQ jR aJ
 obtain⟨CS,rQ,rW⟩:=ah bF
 obtain⟨jg,jh,ji,jk⟩:=pX bF
 clear rQ rW bF
 obtain⟨Jo,Gt,Gw⟩:=ah dQ
 obtain⟨qx,qy,qP,qQ⟩:=pX dQ
 clear Gt Gw dQ
 obtain⟨MI,QV,Rf⟩:=ah ik
 obtain⟨yJ,yK,zM,zN⟩:=pX ik
 clear QV Rf ik
 have yL:w.heap.size<=w.heap.size:=by omega
 have MH:w.heap.size<=W1.heap.size:=by omega
 have Yq:w.heap.size<=W2.heap.size:=by omega
 have VP:w.heap.size<=W3.heap.size:=by omega
 clear f_ iC iH lW jS uy l7 CG
 go_enter Tryz.func33,Tryz.ntmps33
 go_wp2
 exact⟨rfl,jI.mk hBw⟩
theorem JP (c:d_)(p:Pt)(s x:Int)(w:World)(hc:c.Ok)(hp:p.Ok)(hs:0<=s/\s<=1000)(hx:0<=x/\x<=1000000)(hok:(rest c p s x).ok=true) :
    Calls Tryz.prog 34 #[gm c,nR p,.int .i64 s,.int .i64 x] w (dI (nR (rest c p s x)) w):=by
 have b7:=hp.g;have b8:=hp.y;have b9:=hp.w;have b10:=hp.t;have b11:=hc.bu
 have m1 : -3000000<=(c.bu - p.t)*s/\(c.bu - p.t)*s<=3000000:=by
  have a:=Int.mul_le_mul_of_nonneg_right (show c.bu - p.t<=3000 by omega) hs.1
  have b:=Int.mul_le_mul_of_nonneg_right (show -3000<=c.bu - p.t by omega) hs.1
  omega
 have hq : -3000<=((c.bu - p.t)*s).tdiv 1000/\((c.bu - p.t)*s).tdiv 1000<=3000:=by rw[Gx];split <;> omega
 have hR:Hid (rest c p s x=⟨p.g,p.y,p.t+((c.bu - p.t)*s).tdiv 1000,p.w+x⟩):=rfl
 rw[hR.out] at hok
 clear hc hp
 obtain⟨V1,hV1⟩:=aG (w.alloc (.cells #[.int .i64 c.jm,.int .i64 c.jG,.int .i64 c.least,.int .i64 c.most,.int .i64 c.f0,.int .i64 c.f1,.int .i64 c.h0,.int .i64 c.h1,.int .i64 c.bu,.int .i64 c.mJ,.int .i64 c.phi] 96))
 obtain⟨pV,PT,sV0⟩:=boxed hV1
 have aq6:w.heap.size<V1.heap.size:=by omega
 obtain⟨ajl,ajm,ajn,ajo,ajp,ajq,ajr,ajs,ajt,aju,agz⟩:=bJ pV
 obtain⟨V2,hV2⟩:=aG (V1.alloc (.cells #[.int .i64 p.g,.int .i64 p.y,.int .i64 (p.t+((c.bu - p.t)*s).tdiv 1000),.int .i64 (p.w+x)] 29))
 obtain⟨WH,bV1,sV1⟩:=boxed hV2
 have aq7:w.heap.size<V2.heap.size:=by omega
 replace pV:=(bV1.block _ (aF pV)).trans pV
 obtain⟨ajv,ajw,ajx,ajy,ajz,ajA,ajB,ajC,ajD,ajE,agA⟩:=bJ pV
 have aq8:V1.heap.size<V2.heap.size:=by omega
 obtain⟨ajF,ajG,ajH,ajI⟩:=pX WH
 obtain⟨V,hV⟩:=aG (V2.alloc (.cells #[.int .i64 0,.int .i64 0,.int .i64 0,.int .i64 0] 29))
 obtain⟨eV2,bV2,sV2⟩:=boxed hV
 replace pV:=(bV2.block _ (aF pV)).trans pV
 replace WH:=(bV2.block _ (aF WH)).trans WH
 have F9:Below w.heap.size w V:=(by have:=sV0;have:=sV1;have:=sV2;exact((PT.trans (bV1.mono (by omega))).trans (bV2.mono (by omega))))
 obtain⟨zV0,ZL,Z7⟩:=ah pV
 obtain⟨Jb,Jc,Jd,Je,aln,alo,ag4,ag5,aqx,aqy,anV⟩:=bJ pV
 obtain⟨SE,SG,SH,SI,ao6,ao7,ao8,ao9,ao_,apa,amf⟩:=ni pV
 clear ZL Z7 pV
 obtain⟨zV1,rV1,tV1⟩:=ah WH
 obtain⟨aqz,aqA,aqB,aqC⟩:=pX WH
 obtain⟨apb,apc,apd,ape⟩:=Ak WH
 clear rV1 tV1 WH
 obtain⟨zV2,rV2,tV2⟩:=ah eV2
 obtain⟨ag6,ag7,ag8,ag9⟩:=pX eV2
 obtain⟨afj,afk,afl,afm⟩:=Ak eV2
 clear rV2 tV2 eV2
 have xV0:w.heap.size<=w.heap.size:=by omega
 have xV1:w.heap.size<=V1.heap.size:=by omega
 have xV2:w.heap.size<=V2.heap.size:=by omega
 clear PT sV0 bV1 sV1 bV2 sV2
 have e2:V2.heap.size=V1.heap.size+1:=by rw[<- hV2];simp
 rw[e2] at ag6 ag7 ag8 ag9 afj afk afl afm zV2 xV2
 clear e2
 have hgV:=az V
 have hgF:=dG V
 have hP:=ai (fun(w':World)=>pK w' hok)
 clear hok
 go_enter Tryz.func34,Tryz.ntmps34
 go_wp2_with (go_at_call 28;refine ax (hP.out _) ?_;rintro e w1 ⟨rfl,hB⟩;obtain⟨g',rfl⟩:∃g':Grow V,w1=g'.x:=⟨⟨w1,hB⟩,rfl⟩;clear hB)
 refine bodyPost_ret (v:=nR (rest c p s x)) (by rw[hR.out];simp[results,Tryz.results34,go_sem, *]) rfl ⟨rfl,?_⟩
 have hfin:Below w.heap.size w g'.x:=F9.trans (g'.h.mono F9.size)
 repeat' (first|exact hfin|exact xV2|refine Below.setCell ?_ ?_ _)
theorem JO (c:d_)(p:Pt)(s x:Int)(w:World)(hc:c.Ok)(hp:p.Ok)(hs:0<=s/\s<=1000)(hx:0<=x/\x<=1000000)(hok:(rest c p s x).ok=false) :
    Calls Tryz.prog 34 #[gm c,nR p,.int .i64 s,.int .i64 x] w (jI w):=by
 have b7:=hp.g;have b8:=hp.y;have b9:=hp.w;have b10:=hp.t;have b11:=hc.bu
 have m1 : -3000000<=(c.bu - p.t)*s/\(c.bu - p.t)*s<=3000000:=by
  have a:=Int.mul_le_mul_of_nonneg_right (show c.bu - p.t<=3000 by omega) hs.1
  have b:=Int.mul_le_mul_of_nonneg_right (show -3000<=c.bu - p.t by omega) hs.1
  omega
 have hq : -3000<=((c.bu - p.t)*s).tdiv 1000/\((c.bu - p.t)*s).tdiv 1000<=3000:=by rw[Gx];split <;> omega
 have hR:Hid (rest c p s x=⟨p.g,p.y,p.t+((c.bu - p.t)*s).tdiv 1000,p.w+x⟩):=rfl
 rw[hR.out] at hok
 clear hc hp
 obtain⟨V1,hV1⟩:=aG (w.alloc (.cells #[.int .i64 c.jm,.int .i64 c.jG,.int .i64 c.least,.int .i64 c.most,.int .i64 c.f0,.int .i64 c.f1,.int .i64 c.h0,.int .i64 c.h1,.int .i64 c.bu,.int .i64 c.mJ,.int .i64 c.phi] 96))
 obtain⟨pV,PT,sV0⟩:=boxed hV1
 have aq6:w.heap.size<V1.heap.size:=by omega
 obtain⟨ajl,ajm,ajn,ajo,ajp,ajq,ajr,ajs,ajt,aju,agz⟩:=bJ pV
 obtain⟨V2,hV2⟩:=aG (V1.alloc (.cells #[.int .i64 p.g,.int .i64 p.y,.int .i64 (p.t+((c.bu - p.t)*s).tdiv 1000),.int .i64 (p.w+x)] 29))
 obtain⟨WH,bV1,sV1⟩:=boxed hV2
 have aq7:w.heap.size<V2.heap.size:=by omega
 replace pV:=(bV1.block _ (aF pV)).trans pV
 obtain⟨ajv,ajw,ajx,ajy,ajz,ajA,ajB,ajC,ajD,ajE,agA⟩:=bJ pV
 have aq8:V1.heap.size<V2.heap.size:=by omega
 obtain⟨ajF,ajG,ajH,ajI⟩:=pX WH
 obtain⟨V,hV⟩:=aG (V2.alloc (.cells #[.int .i64 0,.int .i64 0,.int .i64 0,.int .i64 0] 29))
 obtain⟨eV2,bV2,sV2⟩:=boxed hV
 replace pV:=(bV2.block _ (aF pV)).trans pV
 replace WH:=(bV2.block _ (aF WH)).trans WH
 have F9:Below w.heap.size w V:=(by have:=sV0;have:=sV1;have:=sV2;exact((PT.trans (bV1.mono (by omega))).trans (bV2.mono (by omega))))
 obtain⟨zV0,ZL,Z7⟩:=ah pV
 obtain⟨Jb,Jc,Jd,Je,aln,alo,ag4,ag5,aqx,aqy,anV⟩:=bJ pV
 obtain⟨SE,SG,SH,SI,ao6,ao7,ao8,ao9,ao_,apa,amf⟩:=ni pV
 clear ZL Z7 pV
 obtain⟨zV1,rV1,tV1⟩:=ah WH
 obtain⟨aqz,aqA,aqB,aqC⟩:=pX WH
 obtain⟨apb,apc,apd,ape⟩:=Ak WH
 clear rV1 tV1 WH
 obtain⟨zV2,rV2,tV2⟩:=ah eV2
 obtain⟨ag6,ag7,ag8,ag9⟩:=pX eV2
 obtain⟨afj,afk,afl,afm⟩:=Ak eV2
 clear rV2 tV2 eV2
 have xV0:w.heap.size<=w.heap.size:=by omega
 have xV1:w.heap.size<=V1.heap.size:=by omega
 have xV2:w.heap.size<=V2.heap.size:=by omega
 clear PT sV0 bV1 sV1 bV2 sV2
 have e2:V2.heap.size=V1.heap.size+1:=by rw[<- hV2];simp
 rw[e2] at ag6 ag7 ag8 ag9 afj afk afl afm zV2 xV2
 clear e2
 have hgV:=az V
 have hgF:=dG V
 have hP:=ai (fun(w':World)=>pK w' hok)
 clear hok
 go_enter Tryz.func34,Tryz.ntmps34
 go_wp2_with (go_at_call 28;refine ax (hP.out _) ?_;rintro e w1 ⟨rfl,hB⟩;obtain⟨g',rfl⟩:∃g':Grow V,w1=g'.x:=⟨⟨w1,hB⟩,rfl⟩;clear hB)
 exact⟨rfl,jI.mk (F9.trans (g'.h.mono F9.size))⟩
theorem asD {w:World}{n b o:Nat}{v u0 u1 u2 u3:Value}(h:w.cell? ⟨b,o,none⟩=some v)(hne:n≠b) :
    ((((w.setCell ⟨n,0,none⟩ u0).setCell ⟨n,1,none⟩ u1).setCell ⟨n,2,none⟩ u2).setCell ⟨n,3,none⟩ u3).cell? ⟨b,o,none⟩=some v:=by
 rw[World.cell?_setCell_far _ _ _ _ hne,World.cell?_setCell_far _ _ _ _ hne,World.cell?_setCell_far _ _ _ _ hne,World.cell?_setCell_far _ _ _ _ hne];exact h
theorem a_ {w:World}{n b o:Nat}{v u0 u1 u2 u3:Value}(h:w.drew.cell? ⟨b,o,none⟩=some v)(hne:n≠b) :
    ((((w.setCell ⟨n,0,none⟩ u0).setCell ⟨n,1,none⟩ u1).setCell ⟨n,2,none⟩ u2).setCell ⟨n,3,none⟩ u3).drew.cell? ⟨b,o,none⟩=some v:=by
 have h2:w.cell? ⟨b,o,none⟩=some v:=h
 have:=asD (u0:=u0) (u1:=u1) (u2:=u2) (u3:=u3) h2 hne
 exact(cell_drew_own _ _).trans this
theorem FW (c:d_)(p:Pt)(m:Int)(w:World)(hp:p.Ok)(hm:0<=m/\m<=100000000)(h:m<=p.g+p.y) :
    Calls Tryz.prog 33 #[gm c,nR p,.int .i64 m] w (dI (.tuple #[nR (left p m),nR (bz.out p m)]) w):=by
 have b7:=hp.g;have b8:=hp.y;have b9:=hp.w
 have m1:=nI (A:=100000000) (B:=1000000) hm b8
 have m2:=nI (A:=100000000) (B:=1000000000) hm b9
 have h1:=oz (m:=m) (n:=p.y) (all:=p.g+p.y) hm.1 b8.1 (by omega)
 have h2:=yI (m:=m) (n:=p.y) (all:=p.g+p.y) hm.1 b8.1 h
 have h3:=nO (m:=m) (n:=p.y) (all:=p.g+p.y) hm.1 b8.1 (by omega)
 have h4:=oz (m:=m) (n:=p.w) (all:=p.g+p.y) hm.1 b9.1 (by omega)
 have h5:=yI (m:=m) (n:=p.w) (all:=p.g+p.y) hm.1 b9.1 h
 have hL:Hid (left p m=⟨p.g - (m - bz.part m p.y (p.g+p.y)),p.y - bz.part m p.y (p.g+p.y),p.t,p.w - bz.part m p.w (p.g+p.y)⟩):=rfl
 have hO:Hid (bz.out p m=⟨m - bz.part m p.y (p.g+p.y),bz.part m p.y (p.g+p.y),0,bz.part m p.w (p.g+p.y)⟩):=rfl
 have P1:=ai (fun w'=>I8 m p.y (p.g+p.y) w' (by omega) (by omega))
 have P2:=ai (fun w'=>I8 m p.w (p.g+p.y) w' (by omega) (by omega))
 generalize bz.part m p.y (p.g+p.y)=H at *
 generalize bz.part m p.w (p.g+p.y)=X at *
 clear hp m1 m2
 obtain⟨W1,hW1⟩:=aG (w.alloc (.cells #[.int .i64 c.jm,.int .i64 c.jG,.int .i64 c.least,.int .i64 c.most,.int .i64 c.f0,.int .i64 c.f1,.int .i64 c.h0,.int .i64 c.h1,.int .i64 c.bu,.int .i64 c.mJ,.int .i64 c.phi] 96))
 obtain⟨aJ,f_,iC⟩:=boxed hW1
 obtain⟨W2,hW2⟩:=aG (W1.alloc (.cells #[.int .i64 p.g,.int .i64 p.y,.int .i64 p.t,.int .i64 p.w] 29))
 obtain⟨bF,iH,lW⟩:=boxed hW2
 obtain⟨W3,hW3⟩:=aG (W2.alloc (.cells #[.int .i64 0,.int .i64 0,.int .i64 0,.int .i64 0] 29))
 obtain⟨dQ,jS,uy⟩:=boxed hW3
 obtain⟨W,hW⟩:=aG (W3.alloc (.cells #[.int .i64 0,.int .i64 0,.int .i64 0,.int .i64 0] 29))
 obtain⟨ik,l7,CG⟩:=boxed hW
 replace aJ:=(iH.block _ (aF aJ)).trans aJ
 replace aJ:=(jS.block _ (aF aJ)).trans aJ
 replace aJ:=(l7.block _ (aF aJ)).trans aJ
 replace bF:=(jS.block _ (aF bF)).trans bF
 replace bF:=(l7.block _ (aF bF)).trans bF
 replace dQ:=(l7.block _ (aF dQ)).trans dQ
 have hBw:Below w.heap.size w W:=(by have:=iC;have:=lW;have:=uy;have:=CG;exact(((f_.trans (iH.mono (by omega))).trans (jS.mono (by omega))).trans (l7.mono (by omega))))
 obtain⟨qK,jQ,jR⟩:=ah aJ
 obtain⟨eG,eH,fP,fQ,gV,gW,gX,gY,je,jf,iR⟩:=bJ aJ
 obtain⟨ja,jb,jy,jA,jB,jC,jD,jE,mP,mQ,mX⟩:=ni aJ
 clear jQ jR aJ
 obtain⟨CS,rQ,rW⟩:=ah bF
 obtain⟨jg,jh,ji,jk⟩:=pX bF
 obtain⟨lS,lT,lU,lV⟩:=Ak bF
 clear rQ rW bF
 obtain⟨Jo,Gt,Gw⟩:=ah dQ
 obtain⟨qx,qy,qP,qQ⟩:=pX dQ
 obtain⟨qL,qM,sW,tq⟩:=Ak dQ
 clear Gt Gw dQ
 obtain⟨MI,QV,Rf⟩:=ah ik
 obtain⟨yJ,yK,zM,zN⟩:=pX ik
 obtain⟨zH,zI,Au,Aw⟩:=Ak ik
 clear QV Rf ik
 have yL:w.heap.size<=w.heap.size:=by omega
 have MH:w.heap.size<=W1.heap.size:=by omega
 have Yq:w.heap.size<=W2.heap.size:=by omega
 have VP:w.heap.size<=W3.heap.size:=by omega
 clear f_ iC iH lW jS uy l7 CG
 have z1:=Nat.lt_succ_of_lt CS
 have z2:=Nat.lt_succ_of_lt Jo
 have z3:=Nat.lt_succ_of_lt MI
 have yx:W3.heap.size=W2.heap.size+1:=(by rw[<- hW3];simp)
 have yx1:W2.heap.size=W1.heap.size+1:=(by rw[<- hW2];simp)
 have u1:W2.heap.size≠W1.heap.size:=by omega
 have u2:W3.heap.size≠W1.heap.size:=by omega
 have yy:W2.heap.size≠W3.heap.size:=by have:W3.heap.size=W2.heap.size+1:=(by rw[<- hW3];simp);omega
 clear yx yx1
 go_enter Tryz.func33,Tryz.ntmps33
 go_wp2_with (go_at_call 78;first|((with_reducible refine ax (P1.out _) ?_);rintro e w1 ⟨rfl,rfl⟩)|((with_reducible refine ax (P2.out _) ?_);rintro e w1 ⟨rfl,rfl⟩))
 obtain⟨V,hV⟩:=aG (W.alloc (.cells #[.int .i64 (m - H),.int .i64 H,.int .i64 0,.int .i64 X] 29))
 obtain⟨pV,PT,sV0⟩:=boxed hV
 have F9:Below W.heap.size W V:=PT
 obtain⟨zV0,ZL,Z7⟩:=ah pV
 obtain⟨Jb,Jc,Jd,Je⟩:=pX pV
 obtain⟨SE,SG,SH,SI⟩:=Ak pV
 clear ZL Z7 pV
 have xV0:W.heap.size<=W.heap.size:=by omega
 clear PT sV0
 rw[hV]
 clear hV
 have u3:W2.heap.size≠W.heap.size:=by omega
 have u4:W3.heap.size≠W.heap.size:=by omega
 have k2:∀i v,W.cell? ⟨W1.heap.size,i,none⟩=some v->V.cell? ⟨W1.heap.size,i,none⟩=some v:=fun i v h=>(dR F9 _ _ CS).trans h
 have hC0:=And.intro (And.intro (k2 _ _ jg) (And.intro (k2 _ _ jh) (And.intro (k2 _ _ ji) (k2 _ _ jk)))) (And.intro Jb (And.intro Jc (And.intro Jd Je)))
 have r2:∀i v,W.cell? ⟨W2.heap.size,i,none⟩=some v->V.cell? ⟨W2.heap.size,i,none⟩=some v:=fun i v h=>(dR F9 _ _ Jo).trans h
 have r3:∀i v,W.cell? ⟨W3.heap.size,i,none⟩=some v->V.cell? ⟨W3.heap.size,i,none⟩=some v:=fun i v h=>(dR F9 _ _ MI).trans h
 have e2:∀i,W.frozen? ⟨W2.heap.size,i,none⟩=false->V.frozen? ⟨W2.heap.size,i,none⟩=false:=fun i h=>(dJ F9 _ _ Jo).trans h
 have e3:∀i,W.frozen? ⟨W3.heap.size,i,none⟩=false->V.frozen? ⟨W3.heap.size,i,none⟩=false:=fun i h=>(dJ F9 _ _ MI).trans h
 have arO:=r2 _ _ qx
 have arS:=r3 _ _ yJ
 have ar0:=e2 _ qL
 have ar5:=e3 _ zH
 have arP:=r2 _ _ qy
 have arT:=r3 _ _ yK
 have ar1:=e2 _ qM
 have ar6:=e3 _ zI
 have arQ:=r2 _ _ qP
 have arU:=r3 _ _ zM
 have ar2:=e2 _ sW
 have ar7:=e3 _ Au
 have arR:=r2 _ _ qQ
 have arV:=r3 _ _ zN
 have ar4:=e2 _ tq
 have ar8:=e3 _ Aw
 clear r2 r3 e2 e3 k2
 clear eG eH fP fQ gV gW gX gY je jf iR ja jb jy jA jB jC jD jE mP mQ mX jg jh ji jk lS lT lU lV qx qy qP qQ qL qM sW tq yJ yK zM zN zH zI Au Aw hW1 hW2 hW3 hW
 have Xk:(fun w'=>(w'.cell? ⟨W1.heap.size,0,none⟩=some (.int .i64 p.g)/\w'.cell? ⟨W1.heap.size,1,none⟩=some (.int .i64 p.y)/\w'.cell? ⟨W1.heap.size,2,none⟩=some (.int .i64 p.t)/\w'.cell? ⟨W1.heap.size,3,none⟩=some (.int .i64 p.w))/\(w'.cell? ⟨W.heap.size,0,none⟩=some (.int .i64 (m - H))/\w'.cell? ⟨W.heap.size,1,none⟩=some (.int .i64 H)/\w'.cell? ⟨W.heap.size,2,none⟩=some (.int .i64 0)/\w'.cell? ⟨W.heap.size,3,none⟩=some (.int .i64 X))) V.drew:=hC0
 dsimp only at Xk
 clear hC0
 refine wp_region_held_drew (S:=(fun w'=>(w'.cell? ⟨W1.heap.size,0,none⟩=some (.int .i64 p.g)/\w'.cell? ⟨W1.heap.size,1,none⟩=some (.int .i64 p.y)/\w'.cell? ⟨W1.heap.size,2,none⟩=some (.int .i64 p.t)/\w'.cell? ⟨W1.heap.size,3,none⟩=some (.int .i64 p.w))/\(w'.cell? ⟨W.heap.size,0,none⟩=some (.int .i64 (m - H))/\w'.cell? ⟨W.heap.size,1,none⟩=some (.int .i64 H)/\w'.cell? ⟨W.heap.size,2,none⟩=some (.int .i64 0)/\w'.cell? ⟨W.heap.size,3,none⟩=some (.int .i64 X)))) (by kernel_rfl) ?_ (fun hHeld=>?_)
 . first|((first|with_reducible exact Xk|(with_reducible exact⟨⟨a_ hHeld.1.1 u1,a_ hHeld.1.2.1 u1,a_ hHeld.1.2.2.1 u1,a_ hHeld.1.2.2.2 u1⟩,⟨a_ hHeld.2.1 u3,a_ hHeld.2.2.1 u3,a_ hHeld.2.2.2.1 u3,a_ hHeld.2.2.2.2 u3⟩⟩)|(with_reducible exact⟨⟨a_ hHeld.1.1 u2,a_ hHeld.1.2.1 u2,a_ hHeld.1.2.2.1 u2,a_ hHeld.1.2.2.2 u2⟩,⟨a_ hHeld.2.1 u4,a_ hHeld.2.2.1 u4,a_ hHeld.2.2.2.1 u4,a_ hHeld.2.2.2.2 u4⟩⟩)))|(dsimp only;((first|with_reducible exact Xk|(with_reducible exact⟨⟨a_ hHeld.1.1 u1,a_ hHeld.1.2.1 u1,a_ hHeld.1.2.2.1 u1,a_ hHeld.1.2.2.2 u1⟩,⟨a_ hHeld.2.1 u3,a_ hHeld.2.2.1 u3,a_ hHeld.2.2.2.1 u3,a_ hHeld.2.2.2.2 u3⟩⟩)|(with_reducible exact⟨⟨a_ hHeld.1.1 u2,a_ hHeld.1.2.1 u2,a_ hHeld.1.2.2.1 u2,a_ hHeld.1.2.2.2 u2⟩,⟨a_ hHeld.2.1 u4,a_ hHeld.2.2.1 u4,a_ hHeld.2.2.2.1 u4,a_ hHeld.2.2.2.2 u4⟩⟩))))
 refine iT 0 ?_ (by assumption) ?_ ?_
 rotate_left
 . intro w hSw;(try dsimp only at hSw);go_simp;(try with_reducible rfl)
 try simp only[aI]
 refine iT 1 ?_ (by assumption) ?_ ?_
 rotate_left
 . intro w hSw;(try dsimp only at hSw);go_simp;(try with_reducible rfl)
 try simp only[aI]
 refine iT 2 ?_ (by assumption) ?_ ?_
 rotate_left
 . intro w hSw;(try dsimp only at hSw);go_simp;(try with_reducible rfl)
 try simp only[aI]
 refine iT 3 ?_ (by assumption) ?_ ?_
 rotate_left
 . intro w hSw;(try dsimp only at hSw);go_simp;(try with_reducible rfl)
 try simp only[aI]
 refine iT 4 ?_ (by assumption) ?_ ?_
 rotate_left
 . intro w hSw;(try dsimp only at hSw);go_simp;(try with_reducible rfl)
 try simp only[aI]
 refine iT 5 ?_ (by assumption) ?_ ?_
 rotate_left
 . intro w hSw;(try dsimp only at hSw);go_simp;(try with_reducible rfl)
 try simp only[aI]
 refine iT 6 ?_ (by assumption) ?_ ?_
 rotate_left
 . intro w hSw;(try dsimp only at hSw);go_simp;(try with_reducible rfl)
 try simp only[aI]
 refine iT 7 ?_ (by assumption) ?_ ?_
 rotate_left
 . intro w hSw;(try dsimp only at hSw);go_simp;(try with_reducible rfl)
 try simp only[aI]
 refine iT 8 ?_ (by assumption) ?_ ?_
 rotate_left
 . intro w hSw;(try dsimp only at hSw);go_simp;(try with_reducible rfl)
 try simp only[aI]
 refine iT 9 ?_ (by assumption) ?_ ?_
 rotate_left
 . intro w hSw;(try dsimp only at hSw);go_simp;(try with_reducible rfl)
 try simp only[aI]
 refine iT 10 ?_ (by assumption) ?_ ?_
 rotate_left
 . intro w hSw;(try dsimp only at hSw);go_simp;(try with_reducible rfl)
 try simp only[aI]
 refine iT 11 ?_ (by assumption) ?_ ?_
 rotate_left
 . intro w hSw;(try dsimp only at hSw);go_simp;(try with_reducible rfl)
 try simp only[aI]
 refine iT 12 ?_ (by assumption) ?_ ?_
 rotate_left
 . intro w hSw;(try dsimp only at hSw);go_simp;(try with_reducible rfl)
 try simp only[aI]
 refine iT 13 ?_ (by assumption) ?_ ?_
 rotate_left
 . intro w hSw;(try dsimp only at hSw);go_simp;(try with_reducible rfl)
 try simp only[aI]
 refine iT 14 ?_ (by assumption) ?_ ?_
 rotate_left
 . intro w hSw;(try dsimp only at hSw);go_simp;(try with_reducible rfl)
 try simp only[aI]
 refine iT 15 ?_ (by assumption) ?_ ?_
 rotate_left
 . intro w hSw;(try dsimp only at hSw);go_simp;(try with_reducible rfl)
 try simp only[aI]
 refine iT 16 ?_ (by assumption) ?_ ?_
 rotate_left
 . intro w hSw;(try dsimp only at hSw);go_simp;(try with_reducible rfl)
 try simp only[aI]
 refine iT 17 ?_ (by assumption) ?_ ?_
 rotate_left
 . intro w hSw;(try dsimp only at hSw);go_simp;(try with_reducible rfl)
 try simp only[aI]
 refine iT 18 ?_ (by assumption) ?_ ?_
 rotate_left
 . intro w hSw;(try dsimp only at hSw);go_simp;(try with_reducible rfl)
 try simp only[aI]
 refine wpAnyH_ready (rs:=[19]) (by kernel_rfl) (by simp) ?_
 refine AllReadyH.cons rfl (fun K hK=>?_) AllReadyH.nil
 go_simp
 refine hK.out _ _ ?_ (fun bG=>?_)
 . first|((first|with_reducible exact Xk|(with_reducible exact⟨⟨a_ hHeld.1.1 u1,a_ hHeld.1.2.1 u1,a_ hHeld.1.2.2.1 u1,a_ hHeld.1.2.2.2 u1⟩,⟨a_ hHeld.2.1 u3,a_ hHeld.2.2.1 u3,a_ hHeld.2.2.2.1 u3,a_ hHeld.2.2.2.2 u3⟩⟩)|(with_reducible exact⟨⟨a_ hHeld.1.1 u2,a_ hHeld.1.2.1 u2,a_ hHeld.1.2.2.1 u2,a_ hHeld.1.2.2.2 u2⟩,⟨a_ hHeld.2.1 u4,a_ hHeld.2.2.1 u4,a_ hHeld.2.2.2.1 u4,a_ hHeld.2.2.2.2 u4⟩⟩)))|(dsimp only;((first|with_reducible exact Xk|(with_reducible exact⟨⟨a_ hHeld.1.1 u1,a_ hHeld.1.2.1 u1,a_ hHeld.1.2.2.1 u1,a_ hHeld.1.2.2.2 u1⟩,⟨a_ hHeld.2.1 u3,a_ hHeld.2.2.1 u3,a_ hHeld.2.2.2.1 u3,a_ hHeld.2.2.2.2 u3⟩⟩)|(with_reducible exact⟨⟨a_ hHeld.1.1 u2,a_ hHeld.1.2.1 u2,a_ hHeld.1.2.2.1 u2,a_ hHeld.1.2.2.2 u2⟩,⟨a_ hHeld.2.1 u4,a_ hHeld.2.2.1 u4,a_ hHeld.2.2.2.1 u4,a_ hHeld.2.2.2.2 u4⟩⟩))))
 clear hK K hHeld
 have hHeld:=bG
 clear bG
 try simp only[aI]
 refine wpAnyH_ready (rs:=[20]) (by kernel_rfl) (by simp) ?_
 refine AllReadyH.cons rfl (fun K hK=>?_) AllReadyH.nil
 go_simp
 refine hK.out _ _ ?_ (fun bG=>?_)
 . first|((first|with_reducible exact Xk|(with_reducible exact⟨⟨a_ hHeld.1.1 u1,a_ hHeld.1.2.1 u1,a_ hHeld.1.2.2.1 u1,a_ hHeld.1.2.2.2 u1⟩,⟨a_ hHeld.2.1 u3,a_ hHeld.2.2.1 u3,a_ hHeld.2.2.2.1 u3,a_ hHeld.2.2.2.2 u3⟩⟩)|(with_reducible exact⟨⟨a_ hHeld.1.1 u2,a_ hHeld.1.2.1 u2,a_ hHeld.1.2.2.1 u2,a_ hHeld.1.2.2.2 u2⟩,⟨a_ hHeld.2.1 u4,a_ hHeld.2.2.1 u4,a_ hHeld.2.2.2.1 u4,a_ hHeld.2.2.2.2 u4⟩⟩)))|(dsimp only;((first|with_reducible exact Xk|(with_reducible exact⟨⟨a_ hHeld.1.1 u1,a_ hHeld.1.2.1 u1,a_ hHeld.1.2.2.1 u1,a_ hHeld.1.2.2.2 u1⟩,⟨a_ hHeld.2.1 u3,a_ hHeld.2.2.1 u3,a_ hHeld.2.2.2.1 u3,a_ hHeld.2.2.2.2 u3⟩⟩)|(with_reducible exact⟨⟨a_ hHeld.1.1 u2,a_ hHeld.1.2.1 u2,a_ hHeld.1.2.2.1 u2,a_ hHeld.1.2.2.2 u2⟩,⟨a_ hHeld.2.1 u4,a_ hHeld.2.2.1 u4,a_ hHeld.2.2.2.1 u4,a_ hHeld.2.2.2.2 u4⟩⟩))))
 clear hK K hHeld
 have hHeld:=bG
 clear bG
 try simp only[aI]
 refine wpAnyH_done (by kernel_rfl) ?_ _
 go_wp2
 refine bodyPost_ret (v:=.tuple #[.agg #[.int .i64 (IntKind.i64.wrap (p.g - (m - H))),.int .i64 (IntKind.i64.wrap (p.y - H)),.int .i64 p.t,.int .i64 (IntKind.i64.wrap (p.w - X))],nR ⟨m - H,H,0,X⟩]) (by simp only[results,Tryz.results33];simp[go_sem,arO,arP,arQ,arR,arS,arT,arU,arV,ar0,ar1,ar2,ar4,ar5,ar6,ar7,ar8,yy,Ne.symm yy]) rfl ⟨?_,?_⟩
 . rw[hL.out,hO.out,IntWalk.i64_in (p.g - (m - H)) (by omega),IntWalk.i64_in (p.y - H) (by omega),IntWalk.i64_in (p.w - X) (by omega)]
 have hfin:Below w.heap.size w V:=hBw.trans (F9.mono hBw.size)
 refine Below.drew ?_
 repeat' (first|(with_reducible exact hfin)|(with_reducible exact Yq)|(with_reducible exact VP)|refine Below.setCell ?_ ?_ _)
