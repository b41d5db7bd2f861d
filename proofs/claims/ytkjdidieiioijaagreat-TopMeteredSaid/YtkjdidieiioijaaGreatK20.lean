/- Walks. -/
import Derived.Test.YtkjdidieiioijaaGreatK19
set_option linter.all false
set_option maxRecDepth 100000
set_option maxHeartbeats 16000000
namespace Go.Proofs.YtkjdidieiioijaaGreat.G
open Go.RowKit Go.Sd bz
theorem ZB {c:d_}{s:St}{o:bz.Op}{n:St}{q:bz.Out}(w:World)(hc:c.ok=true)(hs:s.ok=true)(ho:o.ok=true)(ha:act c s o=some (n,q)) :
    Calls Tryz.prog 7 #[gm c,jF s,Ll o] w (dI (.tuple #[jF n,l9 q,.int .i64 0]) w):=by
 obtain⟨W1,hW1⟩:=aG (w.alloc (.cells #[.int .i64 c.jm,.int .i64 c.jG,.int .i64 c.least,.int .i64 c.most,.int .i64 c.f0,.int .i64 c.f1,.int .i64 c.h0,.int .i64 c.h1,.int .i64 c.bu,.int .i64 c.mJ,.int .i64 c.phi] 38))
 obtain⟨aJ,f_,iC⟩:=boxed hW1
 have Ae:w.heap.size<W1.heap.size:=by omega
 obtain⟨jV,jW,jX,jY,jZ,j_,ku,kz,kJ,kQ,oq⟩:=bJ aJ
 obtain⟨W2,hW2⟩:=aG (W1.alloc (.cells #[.int .i64 s.dB,.int .i64 s.dK,.int .i64 s.di,.int .i64 s.dE,.int .i64 s.gK,.int .i64 s.gJ,.int .i64 s.wlo,.int .i64 s.whi] 40))
 obtain⟨bF,iH,lW⟩:=boxed hW2
 have Jm:w.heap.size<W2.heap.size:=by omega
 replace aJ:=(iH.block _ (aF aJ)).trans aJ
 obtain⟨qR,qU,qV,qW,qX,qY,qZ,rf,rq,ry,ou⟩:=bJ aJ
 have Jn:W1.heap.size<W2.heap.size:=by omega
 obtain⟨rC,rD,rE,rF,rG,rH,rJ,rM⟩:=rc8 bF
 obtain⟨W3,hW3⟩:=aG (W2.alloc (.cells #[.int .i64 o.kind,.int .i64 o.lg,.int .i64 o.ly,.int .i64 o.lt,.int .i64 o.lw,.int .i64 o.ay,.int .i64 o.lY,.int .i64 o.lX,.int .i64 o.wlo,.int .i64 o.whi] 43))
 obtain⟨dQ,jS,uy⟩:=boxed hW3
 have Yr:w.heap.size<W3.heap.size:=by omega
 replace aJ:=(jS.block _ (aF aJ)).trans aJ
 obtain⟨Hm,Hq,Hr,Ht,Hu,Hw,Hy,Hz,HY,H5,AV⟩:=bJ aJ
 have Yt:W1.heap.size<W3.heap.size:=by omega
 replace bF:=(jS.block _ (aF bF)).trans bF
 obtain⟨H6,H7,H8,H9,H_,Ia,Ib,Ic⟩:=rc8 bF
 have Yu:W2.heap.size<W3.heap.size:=by omega
 obtain⟨Ie,Ig,NQ,NR,NS,NT,NU,NV,NW,NY⟩:=gB dQ
 obtain⟨W4,UQ⟩:=aG (W3.alloc (.cells #[.int .i64 0,.int .i64 0,.int .i64 0,.int .i64 0,.int .i64 0,.int .i64 0,.int .i64 0,.int .i64 0] 40))
 obtain⟨ik,l7,CG⟩:=boxed UQ
 have Yv:w.heap.size<W4.heap.size:=by omega
 replace aJ:=(l7.block _ (aF aJ)).trans aJ
 obtain⟨Ih,Ii,Ij,Ik,Il,Io,Iq,Ir,Iu,Iw,AX⟩:=bJ aJ
 have Yw:W1.heap.size<W4.heap.size:=by omega
 replace bF:=(l7.block _ (aF bF)).trans bF
 obtain⟨Iy,Iz,IA,IB,IC,IE,IG,II⟩:=rc8 bF
 have Yx:W2.heap.size<W4.heap.size:=by omega
 replace dQ:=(l7.block _ (aF dQ)).trans dQ
 obtain⟨IJ,IK,NZ,N7,N8,N9,N_,Oa,Ob,Oc⟩:=gB dQ
 have Yy:W3.heap.size<W4.heap.size:=by omega
 obtain⟨IL,IM,Oe,Og,Oh,Oi,Oj,Ol⟩:=rc8 ik
 obtain⟨W5,Zc⟩:=aG (W4.alloc (.cells #[.int .i64 0,.int .i64 0,.int .i64 0,.int .i64 0,.int .i64 0,.int .i64 0] 56))
 obtain⟨pW,yw,Yj⟩:=boxed Zc
 have acx:w.heap.size<W5.heap.size:=by omega
 replace aJ:=(yw.block _ (aF aJ)).trans aJ
 obtain⟨Om,Oo,Oq,Ot,Ou,Ov,Ox,Oy,Oz,OA,IP⟩:=bJ aJ
 have acy:W1.heap.size<W5.heap.size:=by omega
 replace bF:=(yw.block _ (aF bF)).trans bF
 obtain⟨OB,OC,OD,OE,OG,OH,OI,OJ⟩:=rc8 bF
 have acz:W2.heap.size<W5.heap.size:=by omega
 replace dQ:=(yw.block _ (aF dQ)).trans dQ
 obtain⟨OL,OM,OO,OQ,OT,OU,OV,OW,OX,OY⟩:=gB dQ
 have acA:W3.heap.size<W5.heap.size:=by omega
 replace ik:=(yw.block _ (aF ik)).trans ik
 obtain⟨OZ,O0,O1,O3,O4,O5,O6,O7⟩:=rc8 ik
 have acB:W4.heap.size<W5.heap.size:=by omega
 obtain⟨O8,O9,O_,Pg,Ph,Pj⟩:=Ru pW
 obtain⟨W,hW⟩:=aG (W5.alloc (.cells #[.int .i64 c.jm,.int .i64 c.jG,.int .i64 c.least,.int .i64 c.most,.int .i64 c.f0,.int .i64 c.f1,.int .i64 c.h0,.int .i64 c.h1,.int .i64 c.bu,.int .i64 c.mJ,.int .i64 c.phi] 96))
 obtain⟨GX,yP,sW5⟩:=boxed hW
 replace aJ:=(yP.block _ (aF aJ)).trans aJ
 replace bF:=(yP.block _ (aF bF)).trans bF
 replace dQ:=(yP.block _ (aF dQ)).trans dQ
 replace ik:=(yP.block _ (aF ik)).trans ik
 replace pW:=(yP.block _ (aF pW)).trans pW
 have hBw:Below w.heap.size w W:=(by have:=iC;have:=lW;have:=uy;have:=CG;have:=Yj;have:=sW5;exact(((((f_.trans (iH.mono (by omega))).trans (jS.mono (by omega))).trans (l7.mono (by omega))).trans (yw.mono (by omega))).trans (yP.mono (by omega))))
 obtain⟨qK,jQ,jR⟩:=ah aJ
 obtain⟨eG,eH,fP,fQ,gV,gW,gX,gY,je,jf,iR⟩:=bJ aJ
 obtain⟨ja,jb,jy,jA,jB,jC,jD,jE,mP,mQ,mX⟩:=ni aJ
 have EW0:=ai aJ
 clear jQ jR aJ
 obtain⟨CS,rQ,rW⟩:=ah bF
 obtain⟨jg,jh,ji,jk,qj,qm,qo,qw⟩:=rc8 bF
 obtain⟨lS,lT,lU,lV,sO,sQ,sS,sU⟩:=FP bF
 have EW1:=ai bF
 clear rQ rW bF
 obtain⟨Jo,Gt,Gw⟩:=ah dQ
 obtain⟨qx,qy,qP,qQ,QJ,QK,QL,QM,QN,QO⟩:=gB dQ
 obtain⟨qL,qM,sW,tq,P9,P_,Qa,Qb,Qc,Qd⟩:=FO dQ
 have EW2:=ai dQ
 clear Gt Gw dQ
 obtain⟨MI,QV,Rf⟩:=ah ik
 obtain⟨yJ,yK,zM,zN,ace,acf,acg,ach⟩:=rc8 ik
 obtain⟨zH,zI,Au,Aw,aax,aay,aaz,aaA⟩:=FP ik
 have EW3:=ai ik
 clear QV Rf ik
 obtain⟨zW4,rW4,tW4⟩:=ah pW
 obtain⟨XY,XZ,X8,X9,X_,Ya⟩:=Ru pW
 obtain⟨WY,WZ,W9,W_,Xa,Xb⟩:=rf6 pW
 have EW4:=ai pW
 clear rW4 tW4 pW
 obtain⟨zW5,rW5,tW5⟩:=ah GX
 obtain⟨aci,acj,ack,acm,acn,aco,acp,acr,acs,acu,VB⟩:=bJ GX
 obtain⟨aaB,aaC,aaD,aaE,aaF,aaG,aaH,aaI,aaJ,aaK,UI⟩:=ni GX
 have EW5:=ai GX
 clear rW5 tW5 GX
 have yL:w.heap.size<=w.heap.size:=by omega
 have MH:w.heap.size<=W1.heap.size:=by omega
 have Yq:w.heap.size<=W2.heap.size:=by omega
 have VP:w.heap.size<=W3.heap.size:=by omega
 have xW4:w.heap.size<=W4.heap.size:=by omega
 have xW5:w.heap.size<=W5.heap.size:=by omega
 clear f_ iC iH lW jS uy l7 CG yw Yj yP sW5
 have hD:=ai (fun w=>Vr w (d_.fZ.1 hc) (St.fZ.1 hs) (Op.XC ho).fit ha)
 have hg:=az W
 have hgf:=dG W
 clear EW0 EW1 EW2 EW5 ha
 go_enter Tryz.func7,Tryz.ntmps7
 go_wp2_with (first|(go_at_call 23;(with_reducible refine ax (Rj _ hc) ?_);rintro e w1 ⟨rfl,hB⟩;(first|(obtain⟨g,rfl⟩:=g.next hB)|(obtain⟨g,rfl⟩:∃g:Grow W,w1=g.x:=⟨⟨w1,hB⟩,rfl⟩));clear hB)|(go_at_call 24;(with_reducible refine ax (stateT _ hs) ?_);rintro e w1 ⟨rfl,hB⟩;(first|(obtain⟨g,rfl⟩:=g.next hB)|(obtain⟨g,rfl⟩:∃g:Grow W,w1=g.x:=⟨⟨w1,hB⟩,rfl⟩));clear hB)|(go_at_call 25;(with_reducible refine ax (opT _ ho) ?_);rintro e w1 ⟨rfl,hB⟩;(first|(obtain⟨g,rfl⟩:=g.next hB)|(obtain⟨g,rfl⟩:∃g:Grow W,w1=g.x:=⟨⟨w1,hB⟩,rfl⟩));clear hB)|(go_at_call 26;(with_reducible refine ax (hD.out _) ?_);rintro e w1 ⟨rfl,hB⟩;(first|(obtain⟨g,rfl⟩:=g.next hB)|(obtain⟨g,rfl⟩:∃g:Grow W,w1=g.x:=⟨⟨w1,hB⟩,rfl⟩));clear hB;have y3:=g.lt MI;have y4:=g.lt zW4))
 obtain⟨V,hV⟩:=aG (World.alloc (World.alloc g.x (.cells #[.int .i64 n.dB,.int .i64 n.dK,.int .i64 n.di,.int .i64 n.dE,.int .i64 n.gK,.int .i64 n.gJ,.int .i64 n.wlo,.int .i64 n.whi] 40)) (.cells #[.int .i64 q.dB,.int .i64 q.dK,.int .i64 q.di,.int .i64 q.dE,.int .i64 q.wlo,.int .i64 q.whi] 56))
 rw[hV]
 obtain⟨v1,v2,vs,vB⟩:=Py hV
 clear hV
 have gs:=g.size
 have d3:=(vB.block _ (bM MI gs)).trans ((g.h.block _ MI).trans EW3.out)
 have d4:=(vB.block _ (bM zW4 gs)).trans ((g.h.block _ zW4).trans EW4.out)
 have F9:Below w.heap.size w V:=hBw.trans ((g.h.trans (vB.mono gs)).mono hBw.size)
 refine wp_region_noPanic ?_
 refine wp_region_held_drew (S:=(fun U=>(∃a0 a1 a2 a3 a4 a5 a6 a7:Value,U.heap[W3.heap.size]? = some (.cells #[a0,a1,a2,a3,a4,a5,a6,a7] 40 (0,0)))/\(∃a0 a1 a2 a3 a4 a5:Value,U.heap[W4.heap.size]? = some (.cells #[a0,a1,a2,a3,a4,a5] 56 (0,0)))/\U.heap[g.x.heap.size]? = some (.cells #[.int .i64 n.dB,.int .i64 n.dK,.int .i64 n.di,.int .i64 n.dE,.int .i64 n.gK,.int .i64 n.gJ,.int .i64 n.wlo,.int .i64 n.whi] 40 (0,0))/\U.heap[g.x.heap.size+1]? = some (.cells #[.int .i64 q.dB,.int .i64 q.dK,.int .i64 q.di,.int .i64 q.dE,.int .i64 q.wlo,.int .i64 q.whi] 56 (0,0))/\Below w.heap.size w U)) (by kernel_rfl) ⟨⟨_,_,_,_,_,_,_,_,d3⟩,⟨_,_,_,_,_,_,d4⟩,v1,v2,F9.drew⟩ (fun hHeld=>?_)
 generalize V.drew=Y at hHeld ⊢
 refine iT 0 (jF n) hHeld ?_ ?_
 . intro w' hSw;have cr:=(ah (hSw.2.2.1)).2.1;have c0:=cr 0;simp only[List.getElem?_toArray,List.getElem?_cons_zero,List.getElem?_cons_succ] at c0;have c1:=cr 1;simp only[List.getElem?_toArray,List.getElem?_cons_zero,List.getElem?_cons_succ] at c1;have c2:=cr 2;simp only[List.getElem?_toArray,List.getElem?_cons_zero,List.getElem?_cons_succ] at c2;have c3:=cr 3;simp only[List.getElem?_toArray,List.getElem?_cons_zero,List.getElem?_cons_succ] at c3;have c4:=cr 4;simp only[List.getElem?_toArray,List.getElem?_cons_zero,List.getElem?_cons_succ] at c4;have c5:=cr 5;simp only[List.getElem?_toArray,List.getElem?_cons_zero,List.getElem?_cons_succ] at c5;have c6:=cr 6;simp only[List.getElem?_toArray,List.getElem?_cons_zero,List.getElem?_cons_succ] at c6;have c7:=cr 7;simp only[List.getElem?_toArray,List.getElem?_cons_zero,List.getElem?_cons_succ] at c7;go_simp;(try with_reducible rfl)
 try simp only[aI]
 refine iT 1 (l9 q) hHeld ?_ ?_
 . intro w' hSw;have cr:=(ah (hSw.2.2.2.1)).2.1;have c0:=cr 0;simp only[List.getElem?_toArray,List.getElem?_cons_zero,List.getElem?_cons_succ] at c0;have c1:=cr 1;simp only[List.getElem?_toArray,List.getElem?_cons_zero,List.getElem?_cons_succ] at c1;have c2:=cr 2;simp only[List.getElem?_toArray,List.getElem?_cons_zero,List.getElem?_cons_succ] at c2;have c3:=cr 3;simp only[List.getElem?_toArray,List.getElem?_cons_zero,List.getElem?_cons_succ] at c3;have c4:=cr 4;simp only[List.getElem?_toArray,List.getElem?_cons_zero,List.getElem?_cons_succ] at c4;have c5:=cr 5;simp only[List.getElem?_toArray,List.getElem?_cons_zero,List.getElem?_cons_succ] at c5;go_simp;(try with_reducible rfl)
 try simp only[aI]
 have alj:(W4.heap.size:Nat)≠W3.heap.size:=by omega
 have aqe:(g.x.heap.size:Nat)≠W3.heap.size:=by omega
 have aqf:(g.x.heap.size+1:Nat)≠W3.heap.size:=by omega
 have zd0:w.heap.size<=W3.heap.size:=by omega
 have alk:(W3.heap.size:Nat)≠W4.heap.size:=by omega
 have aqg:(g.x.heap.size:Nat)≠W4.heap.size:=by omega
 have aqh:(g.x.heap.size+1:Nat)≠W4.heap.size:=by omega
 have zd1:w.heap.size<=W4.heap.size:=by omega
 obtain⟨auh,aui,auj,auk,aul,aum,aun,auo,od0⟩:=hHeld.1
 have XJ:=ah od0
 have auH:Y.cell? ⟨W3.heap.size,0,none⟩=some auh:=XJ.2.1 0
 have asl:Y.frozen? ⟨W3.heap.size,0,none⟩=false:=XJ.2.2 0
 have auI:Y.cell? ⟨W3.heap.size,1,none⟩=some aui:=XJ.2.1 1
 have asn:Y.frozen? ⟨W3.heap.size,1,none⟩=false:=XJ.2.2 1
 have auJ:Y.cell? ⟨W3.heap.size,2,none⟩=some auj:=XJ.2.1 2
 have aso:Y.frozen? ⟨W3.heap.size,2,none⟩=false:=XJ.2.2 2
 have auK:Y.cell? ⟨W3.heap.size,3,none⟩=some auk:=XJ.2.1 3
 have asq:Y.frozen? ⟨W3.heap.size,3,none⟩=false:=XJ.2.2 3
 have auL:Y.cell? ⟨W3.heap.size,4,none⟩=some aul:=XJ.2.1 4
 have asr:Y.frozen? ⟨W3.heap.size,4,none⟩=false:=XJ.2.2 4
 have auM:Y.cell? ⟨W3.heap.size,5,none⟩=some aum:=XJ.2.1 5
 have ass:Y.frozen? ⟨W3.heap.size,5,none⟩=false:=XJ.2.2 5
 have auN:Y.cell? ⟨W3.heap.size,6,none⟩=some aun:=XJ.2.1 6
 have ast:Y.frozen? ⟨W3.heap.size,6,none⟩=false:=XJ.2.2 6
 have auO:Y.cell? ⟨W3.heap.size,7,none⟩=some auo:=XJ.2.1 7
 have asu:Y.frozen? ⟨W3.heap.size,7,none⟩=false:=XJ.2.2 7
 obtain⟨aup,auq,aur,aus,aut,auu,od1⟩:=hHeld.2.1
 have oy1:=ah od1
 have auP:Y.cell? ⟨W4.heap.size,0,none⟩=some aup:=oy1.2.1 0
 have asv:Y.frozen? ⟨W4.heap.size,0,none⟩=false:=oy1.2.2 0
 have auQ:Y.cell? ⟨W4.heap.size,1,none⟩=some auq:=oy1.2.1 1
 have asw:Y.frozen? ⟨W4.heap.size,1,none⟩=false:=oy1.2.2 1
 have auR:Y.cell? ⟨W4.heap.size,2,none⟩=some aur:=oy1.2.1 2
 have asx:Y.frozen? ⟨W4.heap.size,2,none⟩=false:=oy1.2.2 2
 have auS:Y.cell? ⟨W4.heap.size,3,none⟩=some aus:=oy1.2.1 3
 have asy:Y.frozen? ⟨W4.heap.size,3,none⟩=false:=oy1.2.2 3
 have auT:Y.cell? ⟨W4.heap.size,4,none⟩=some aut:=oy1.2.1 4
 have asz:Y.frozen? ⟨W4.heap.size,4,none⟩=false:=oy1.2.2 4
 have auU:Y.cell? ⟨W4.heap.size,5,none⟩=some auu:=oy1.2.1 5
 have asA:Y.frozen? ⟨W4.heap.size,5,none⟩=false:=oy1.2.2 5
 refine wpAnyH_ready (rs:=[2]) (by kernel_rfl) (by simp) ?_
 refine AllReadyH.cons rfl (fun K hK=>?_) AllReadyH.nil
 go_simp
 refine hK.out _ _ ⟨acW (hHeld.1) _ _ _ _ _ _ _ _,Zu (hHeld.2.1) _ _ _ _ _ _ _ _ alj,(gy _ _ _ _ _ _ _ _ aqe).trans hHeld.2.2.1,(gy _ _ _ _ _ _ _ _ aqf).trans hHeld.2.2.2.1,pR hHeld.2.2.2.2 zd0 _ _ _ _ _ _ _ _⟩ (fun bG=>?_)
 clear hK K hHeld
 have hHeld:=bG
 clear bG
 try simp only[aI]
 refine wpAnyH_ready (rs:=[3]) (by kernel_rfl) (by simp) ?_
 refine AllReadyH.cons rfl (fun K hK=>?_) AllReadyH.nil
 go_simp
 refine hK.out _ _ ⟨Zt (hHeld.1) _ _ _ _ _ _ alk,acV (hHeld.2.1) _ _ _ _ _ _,(gu _ _ _ _ _ _ aqg).trans hHeld.2.2.1,(gu _ _ _ _ _ _ aqh).trans hHeld.2.2.2.1,pO hHeld.2.2.2.2 zd1 _ _ _ _ _ _⟩ (fun bG=>?_)
 clear hK K hHeld
 have hHeld:=bG
 clear bG
 try simp only[aI]
 refine wpAnyH_ready (rs:=[4]) (by kernel_rfl) (by simp) ?_
 refine AllReadyH.cons rfl (fun K hK=>?_) AllReadyH.nil
 go_simp
 refine hK.out _ _ hHeld (fun bG=>?_)
 clear hK K hHeld
 have hHeld:=bG
 clear bG
 try simp only[aI]
 refine wpAnyH_done (by kernel_rfl) ?_ _
 refine NoPanic.normal ?_
 have G0:=((gu (.int .i64 q.dB) (.int .i64 q.dK) (.int .i64 q.di) (.int .i64 q.dE) (.int .i64 q.wlo) (.int .i64 q.whi) alk).trans (mg od0 (.int .i64 n.dB) (.int .i64 n.dK) (.int .i64 n.di) (.int .i64 n.dE) (.int .i64 n.gK) (.int .i64 n.gJ) (.int .i64 n.wlo) (.int .i64 n.whi)))
 have G1:=(mf ((gy (.int .i64 n.dB) (.int .i64 n.dK) (.int .i64 n.di) (.int .i64 n.dE) (.int .i64 n.gK) (.int .i64 n.gJ) (.int .i64 n.wlo) (.int .i64 n.whi) alj).trans od1) (.int .i64 q.dB) (.int .i64 q.dK) (.int .i64 q.di) (.int .i64 q.dE) (.int .i64 q.wlo) (.int .i64 q.whi))
 have hfin:=ai hHeld.2.2.2.2
 clear auH asl auI asn auJ aso auK asq auL asr auM ass auN ast auO asu auP asv auQ asw auR asx auS asy auT asz auU asA XJ od0 oy1 od1 hHeld
 generalize hV:World.setCell _ ⟨W4.heap.size,5,none⟩ _=Vf at G0 G1 hfin ⊢
 clear hV
 have k0:=(ah G0).2.1
 have ati:=k0 0;have atj:=k0 1;have atl:=k0 2;have atm:=k0 3;have atn:=k0 4;have ato:=k0 5;have atp:=k0 6;have atq:=k0 7
 simp only[List.getElem?_toArray,List.getElem?_cons_zero,List.getElem?_cons_succ] at ati atj atl atm atn ato atp atq
 clear k0 G0
 have k1:=(ah G1).2.1
 have atr:=k1 0;have att:=k1 1;have atu:=k1 2;have atv:=k1 3;have atw:=k1 4;have atx:=k1 5
 simp only[List.getElem?_toArray,List.getElem?_cons_zero,List.getElem?_cons_succ] at atr att atu atv atw atx
 clear k1 G1
 go_wp2
 refine bodyPost_ret (v:=.tuple #[jF n,l9 q,.int .i64 0]) (by simp[results,Tryz.results7,go_sem, *]) rfl ⟨rfl,hfin.out⟩
theorem ZA {c:d_}{s:St}{o:bz.Op}(w:World)(hc:c.ok=true)(hs:s.ok=true)(ho:o.ok=true)(ha:act c s o=none) :
    Calls Tryz.prog 7 #[gm c,jF s,Ll o] w (dI (.tuple #[jF st0,l9 Ns,.int .i64 7]) w):=by
 obtain⟨W1,hW1⟩:=aG (w.alloc (.cells #[.int .i64 c.jm,.int .i64 c.jG,.int .i64 c.least,.int .i64 c.most,.int .i64 c.f0,.int .i64 c.f1,.int .i64 c.h0,.int .i64 c.h1,.int .i64 c.bu,.int .i64 c.mJ,.int .i64 c.phi] 38))
 obtain⟨aJ,f_,iC⟩:=boxed hW1
 have Ae:w.heap.size<W1.heap.size:=by omega
 obtain⟨jV,jW,jX,jY,jZ,j_,ku,kz,kJ,kQ,oq⟩:=bJ aJ
 obtain⟨W2,hW2⟩:=aG (W1.alloc (.cells #[.int .i64 s.dB,.int .i64 s.dK,.int .i64 s.di,.int .i64 s.dE,.int .i64 s.gK,.int .i64 s.gJ,.int .i64 s.wlo,.int .i64 s.whi] 40))
 obtain⟨bF,iH,lW⟩:=boxed hW2
 have Jm:w.heap.size<W2.heap.size:=by omega
 replace aJ:=(iH.block _ (aF aJ)).trans aJ
 obtain⟨qR,qU,qV,qW,qX,qY,qZ,rf,rq,ry,ou⟩:=bJ aJ
 have Jn:W1.heap.size<W2.heap.size:=by omega
 obtain⟨rC,rD,rE,rF,rG,rH,rJ,rM⟩:=rc8 bF
 obtain⟨W3,hW3⟩:=aG (W2.alloc (.cells #[.int .i64 o.kind,.int .i64 o.lg,.int .i64 o.ly,.int .i64 o.lt,.int .i64 o.lw,.int .i64 o.ay,.int .i64 o.lY,.int .i64 o.lX,.int .i64 o.wlo,.int .i64 o.whi] 43))
 obtain⟨dQ,jS,uy⟩:=boxed hW3
 have Yr:w.heap.size<W3.heap.size:=by omega
 replace aJ:=(jS.block _ (aF aJ)).trans aJ
 obtain⟨Hm,Hq,Hr,Ht,Hu,Hw,Hy,Hz,HY,H5,AV⟩:=bJ aJ
 have Yt:W1.heap.size<W3.heap.size:=by omega
 replace bF:=(jS.block _ (aF bF)).trans bF
 obtain⟨H6,H7,H8,H9,H_,Ia,Ib,Ic⟩:=rc8 bF
 have Yu:W2.heap.size<W3.heap.size:=by omega
 obtain⟨Ie,Ig,NQ,NR,NS,NT,NU,NV,NW,NY⟩:=gB dQ
 obtain⟨W4,UQ⟩:=aG (W3.alloc (.cells #[.int .i64 0,.int .i64 0,.int .i64 0,.int .i64 0,.int .i64 0,.int .i64 0,.int .i64 0,.int .i64 0] 40))
 obtain⟨ik,l7,CG⟩:=boxed UQ
 have Yv:w.heap.size<W4.heap.size:=by omega
 replace aJ:=(l7.block _ (aF aJ)).trans aJ
 obtain⟨Ih,Ii,Ij,Ik,Il,Io,Iq,Ir,Iu,Iw,AX⟩:=bJ aJ
 have Yw:W1.heap.size<W4.heap.size:=by omega
 replace bF:=(l7.block _ (aF bF)).trans bF
 obtain⟨Iy,Iz,IA,IB,IC,IE,IG,II⟩:=rc8 bF
 have Yx:W2.heap.size<W4.heap.size:=by omega
 replace dQ:=(l7.block _ (aF dQ)).trans dQ
 obtain⟨IJ,IK,NZ,N7,N8,N9,N_,Oa,Ob,Oc⟩:=gB dQ
 have Yy:W3.heap.size<W4.heap.size:=by omega
 obtain⟨IL,IM,Oe,Og,Oh,Oi,Oj,Ol⟩:=rc8 ik
 obtain⟨W5,Zc⟩:=aG (W4.alloc (.cells #[.int .i64 0,.int .i64 0,.int .i64 0,.int .i64 0,.int .i64 0,.int .i64 0] 56))
 obtain⟨pW,yw,Yj⟩:=boxed Zc
 have acx:w.heap.size<W5.heap.size:=by omega
 replace aJ:=(yw.block _ (aF aJ)).trans aJ
 obtain⟨Om,Oo,Oq,Ot,Ou,Ov,Ox,Oy,Oz,OA,IP⟩:=bJ aJ
 have acy:W1.heap.size<W5.heap.size:=by omega
 replace bF:=(yw.block _ (aF bF)).trans bF
 obtain⟨OB,OC,OD,OE,OG,OH,OI,OJ⟩:=rc8 bF
 have acz:W2.heap.size<W5.heap.size:=by omega
 replace dQ:=(yw.block _ (aF dQ)).trans dQ
 obtain⟨OL,OM,OO,OQ,OT,OU,OV,OW,OX,OY⟩:=gB dQ
 have acA:W3.heap.size<W5.heap.size:=by omega
 replace ik:=(yw.block _ (aF ik)).trans ik
 obtain⟨OZ,O0,O1,O3,O4,O5,O6,O7⟩:=rc8 ik
 have acB:W4.heap.size<W5.heap.size:=by omega
 obtain⟨O8,O9,O_,Pg,Ph,Pj⟩:=Ru pW
 obtain⟨W,hW⟩:=aG (W5.alloc (.cells #[.int .i64 c.jm,.int .i64 c.jG,.int .i64 c.least,.int .i64 c.most,.int .i64 c.f0,.int .i64 c.f1,.int .i64 c.h0,.int .i64 c.h1,.int .i64 c.bu,.int .i64 c.mJ,.int .i64 c.phi] 96))
 obtain⟨GX,yP,sW5⟩:=boxed hW
 replace aJ:=(yP.block _ (aF aJ)).trans aJ
 replace bF:=(yP.block _ (aF bF)).trans bF
 replace dQ:=(yP.block _ (aF dQ)).trans dQ
 replace ik:=(yP.block _ (aF ik)).trans ik
 replace pW:=(yP.block _ (aF pW)).trans pW
 have hBw:Below w.heap.size w W:=(by have:=iC;have:=lW;have:=uy;have:=CG;have:=Yj;have:=sW5;exact(((((f_.trans (iH.mono (by omega))).trans (jS.mono (by omega))).trans (l7.mono (by omega))).trans (yw.mono (by omega))).trans (yP.mono (by omega))))
 obtain⟨qK,jQ,jR⟩:=ah aJ
 obtain⟨eG,eH,fP,fQ,gV,gW,gX,gY,je,jf,iR⟩:=bJ aJ
 obtain⟨ja,jb,jy,jA,jB,jC,jD,jE,mP,mQ,mX⟩:=ni aJ
 have EW0:=ai aJ
 clear jQ jR aJ
 obtain⟨CS,rQ,rW⟩:=ah bF
 obtain⟨jg,jh,ji,jk,qj,qm,qo,qw⟩:=rc8 bF
 obtain⟨lS,lT,lU,lV,sO,sQ,sS,sU⟩:=FP bF
 have EW1:=ai bF
 clear rQ rW bF
 obtain⟨Jo,Gt,Gw⟩:=ah dQ
 obtain⟨qx,qy,qP,qQ,QJ,QK,QL,QM,QN,QO⟩:=gB dQ
 obtain⟨qL,qM,sW,tq,P9,P_,Qa,Qb,Qc,Qd⟩:=FO dQ
 have EW2:=ai dQ
 clear Gt Gw dQ
 obtain⟨MI,QV,Rf⟩:=ah ik
 obtain⟨yJ,yK,zM,zN,ace,acf,acg,ach⟩:=rc8 ik
 obtain⟨zH,zI,Au,Aw,aax,aay,aaz,aaA⟩:=FP ik
 have EW3:=ai ik
 clear QV Rf ik
 obtain⟨zW4,rW4,tW4⟩:=ah pW
 obtain⟨XY,XZ,X8,X9,X_,Ya⟩:=Ru pW
 obtain⟨WY,WZ,W9,W_,Xa,Xb⟩:=rf6 pW
 have EW4:=ai pW
 clear rW4 tW4 pW
 obtain⟨zW5,rW5,tW5⟩:=ah GX
 obtain⟨aci,acj,ack,acm,acn,aco,acp,acr,acs,acu,VB⟩:=bJ GX
 obtain⟨aaB,aaC,aaD,aaE,aaF,aaG,aaH,aaI,aaJ,aaK,UI⟩:=ni GX
 have EW5:=ai GX
 clear rW5 tW5 GX
 have yL:w.heap.size<=w.heap.size:=by omega
 have MH:w.heap.size<=W1.heap.size:=by omega
 have Yq:w.heap.size<=W2.heap.size:=by omega
 have VP:w.heap.size<=W3.heap.size:=by omega
 have xW4:w.heap.size<=W4.heap.size:=by omega
 have xW5:w.heap.size<=W5.heap.size:=by omega
 clear f_ iC iH lW jS uy l7 CG yw Yj yP sW5
 have hD:=ai (fun w=>Vq w (d_.fZ.1 hc) (St.fZ.1 hs) (Op.XC ho).fit ha)
 have hg:=az W
 have hgf:=dG W
 clear EW0 EW1 EW2 EW3 EW4 EW5 ha
 go_enter Tryz.func7,Tryz.ntmps7
 go_wp2_with (first|(go_at_call 23;(with_reducible refine ax (Rj _ hc) ?_);rintro e w1 ⟨rfl,hB⟩;(first|(obtain⟨g,rfl⟩:=g.next hB)|(obtain⟨g,rfl⟩:∃g:Grow W,w1=g.x:=⟨⟨w1,hB⟩,rfl⟩));clear hB)|(go_at_call 24;(with_reducible refine ax (stateT _ hs) ?_);rintro e w1 ⟨rfl,hB⟩;(first|(obtain⟨g,rfl⟩:=g.next hB)|(obtain⟨g,rfl⟩:∃g:Grow W,w1=g.x:=⟨⟨w1,hB⟩,rfl⟩));clear hB)|(go_at_call 25;(with_reducible refine ax (opT _ ho) ?_);rintro e w1 ⟨rfl,hB⟩;(first|(obtain⟨g,rfl⟩:=g.next hB)|(obtain⟨g,rfl⟩:∃g:Grow W,w1=g.x:=⟨⟨w1,hB⟩,rfl⟩));clear hB)|(go_at_call 26;(with_reducible refine ax (hD.out _) ?_);rintro e w1 ⟨rfl,hB⟩;(first|(obtain⟨g,rfl⟩:=g.next hB)|(obtain⟨g,rfl⟩:∃g:Grow W,w1=g.x:=⟨⟨w1,hB⟩,rfl⟩));clear hB;have y3:=g.lt MI;have y4:=g.lt zW4))
 refine bodyPost_ret (v:=.tuple #[jF st0,l9 Ns,.int .i64 7]) (by simp[results,Tryz.results7,go_sem, *]) rfl ⟨rfl,?_⟩
 have hfin:Below w.heap.size w g.x:=hBw.trans (g.h.mono hBw.size)
 have hs1:w.heap.size<=g.x.heap.size:=Nat.le_trans hBw.size g.size
 repeat' (first|(with_reducible exact hfin)|(with_reducible exact VP)|(with_reducible exact xW4)|(with_reducible refine Below.setCell ?_ ?_ _)|(with_reducible refine Below.alloc ?_ ?_ _)|(simp;omega))
end Go.Proofs.YtkjdidieiioijaaGreat.G
namespace Go.Proofs.YtkjdidieiioijaaGreat.B
open Go.RowKit Go.Sd Wl Bk L
attribute [local go_sem] Oper.semAt_some
theorem xY {w:World}{n:Nat}{a0 a1 a2 a3 a4 a5 a6 a7 a8 a9 a10:Value}{e:TypeId}(h:w.heap[n]? = some (.cells #[a0,a1,a2,a3,a4,a5,a6,a7,a8,a9,a10] e (0,0))):w.cell? ⟨n,0,none⟩=some a0/\w.cell? ⟨n,1,none⟩=some a1/\w.cell? ⟨n,2,none⟩=some a2/\w.cell? ⟨n,3,none⟩=some a3/\w.cell? ⟨n,4,none⟩=some a4/\w.cell? ⟨n,5,none⟩=some a5/\w.cell? ⟨n,6,none⟩=some a6/\w.cell? ⟨n,7,none⟩=some a7/\w.cell? ⟨n,8,none⟩=some a8/\w.cell? ⟨n,9,none⟩=some a9/\w.cell? ⟨n,10,none⟩=some a10:=by
 have r:=(ah h).2.1
 exact⟨r 0,r 1,r 2,r 3,r 4,r 5,r 6,r 7,r 8,r 9,r 10⟩
theorem z_ {w:World}{n:Nat}{a0 a1 a2:Value}{e:TypeId}(h:w.heap[n]? = some (.cells #[a0,a1,a2] e (0,0))):w.cell? ⟨n,0,none⟩=some a0/\w.cell? ⟨n,1,none⟩=some a1/\w.cell? ⟨n,2,none⟩=some a2:=by
 have r:=(ah h).2.1
 exact⟨r 0,r 1,r 2⟩
theorem Pv {w:World}{a:Option Addr}{cap:Nat}{xs:List Rt}(h:uC w (.slice a xs.length cap) xs)(h0:0<xs.length):∃b off,a=some ⟨b,off,none⟩/\b<w.heap.size /\
    ∀k,k<xs.length->w.cell? ⟨b,off+k*3,none⟩=some (.int .i64 (dD xs k).fill)/\w.cell? ⟨b,off+k*3+1,none⟩=some (.int .i64 (dD xs k).iq)/\w.cell? ⟨b,off+k*3+2,none⟩=some (.int .i64 (dD xs k).out):=by
 obtain⟨a',cap',he,hm,hc⟩:=h
 cases he
 obtain⟨b,off,rfl,hlt,hx⟩:=hc h0
 exact⟨b,off,rfl,hlt,fun k hk=>⟨hx k 0 _ hk rfl,hx k 1 _ hk rfl,hx k 2 _ hk rfl⟩⟩
theorem apZ (w:World)(a b c d e:Int):bK (w.alloc (.cells #[.int .i64 a,.int .i64 b,.int .i64 c,.int .i64 d,.int .i64 e] 3)) (.slice (some ⟨w.heap.size,0,none⟩) 5 5) [a,b,c,d,e]:=by
 refine⟨_,5,rfl,by simp[maxLen],fun _=>⟨w.heap.size,0,rfl,by simp,?_⟩⟩
 have h:=World.alloc_heap_new w (.cells #[.int .i64 a,.int .i64 b,.int .i64 c,.int .i64 d,.int .i64 e] 3)
 have r:=(ah h).2.1
 intro k i u hk hu
 have hk':k=0\/k=1\/k=2\/k=3\/k=4:=by
  have h5:k<5:=hk
  omega
 have hi:=(List.getElem?_eq_some_iff.1 hu).1
 have hi':i=0:=by
  have h1:i<1:=hi
  omega
 subst hi'
 rw[r,<- hu]
 rcases hk' with rfl|rfl|rfl|rfl|rfl <;> rfl
theorem fK {p:Nat->Bool}{k:Nat}(h:∀j,j<k->p j=true)(hk:p k=true):∀j,j<k+1->p j=true:=fun j hj=>by
 rcases Nat.lt_succ_iff_lt_or_eq.1 hj with h'|rfl
 . exact h j h'
 . exact hk
theorem pg {p:Nat->Bool}{n:Nat}(h:∀j,j<n->p j=true):(List.range n).all p=true:=List.all_eq_true.2 fun j hj=>h j (List.mem_range.1 hj)
theorem dV {p:Nat->Bool}{n k:Nat}(hk:k<n)(h:p k=false):(List.range n).all p=false:=by
 cases ha:(List.range n).all p
 . rfl
 . have:=List.all_eq_true.1 ha k (List.mem_range.2 hk)
   rw[h] at this;cases this
theorem Ux (c:pY)(rv:Value)(w:World)(hr:uC w rv c.aC):Calls Tryz.prog 147 #[YR rv c] w (aB c.ok w):=by
 obtain⟨W,hW⟩:=aG (w.alloc (Wi rv c))
 obtain⟨e,bW,z⟩:=boxedB hW
 obtain⟨q0,q1,q2,q3,q4,q5,q6,q7,q8,q9,q10⟩:=xY e
 have Xp:=hr.mono bW
 obtain⟨ra,Ce,rfl,hrm,-⟩:=hr
 unfold maxLen at hrm
 have hrow:Hid (0<c.aC.length->_):=ai (Pv Xp)
 have hBw:=ai bW
 have hg:=az W
 clear e bW Xp
 go_enter Tryz.func147,Tryz.ntmps147
 go_wp2_with (fail)
 go_loopw [8] (fun i wr=>∃k:Nat,k<=c.aC.length/\i=.int .i64 k/\Hid (∀j,j<k->Gz c.aC j=true)/\∃g:Grow W,wr=g.x) (fun i _=>c.aC.length - (intOf i).toNat)
 case atStart=>exact⟨0,by omega,rfl,ai fun j h=>by omega,Grow.self W,rfl⟩
 case round =>
  obtain⟨k,hk,rfl,hH,g,rfl⟩:=hrel
  by_cases hlt:k<c.aC.length
  . obtain⟨b,off,rfl,hbl,hrk⟩:=hrow.out (by omega)
    obtain⟨c0,c1,c2⟩:=hrk k hlt
    have hki:(0:Int)<=(k:Int)/\(k:Int)<c.aC.length:=by omega
    obtain⟨t,ht⟩:=aG (Gz c.aC k)
    have ht0:=ht
    unfold Gz AU at ht
    replace ht0:=ai ht0
    obtain⟨g2,hg2⟩:=g.alloc (rtO (dD c.aC k))
    have hn:=World.alloc_heap_new g.x (rtO (dD c.aC k))
    rw[hg2] at hn
    obtain⟨n0,n1,n2⟩:=z_ hn
    have zn:=(aF hn)
    have ai':=ai hrk
    clear hn hrk
    cases h1:inB (dD c.aC k).fill 0 1000
    . have hf:Hid (Gz c.aC k=false):=ai (by rw[ht0.out,<- ht];simp[h1])
      replace ht:=ai ht
      go_wp2_with (go_at_call 144;(with_reducible refine ax (iI (by assumption) _) ?_);rintro e w' ⟨rfl,rfl⟩)
      go_ret
      exact aB.mk (by unfold pY.ok;rw[dV hlt hf.out];simp) (aj hBw.out g2.h)
    cases h2:inB (dD c.aC k).iq 0 100000000
    . have hf:Hid (Gz c.aC k=false):=ai (by rw[ht0.out,<- ht];simp[h1,h2])
      replace ht:=ai ht
      go_wp2_with (go_at_call 144;(with_reducible refine ax (iI (by assumption) _) ?_);rintro e w' ⟨rfl,rfl⟩)
      go_ret
      exact aB.mk (by unfold pY.ok;rw[dV hlt hf.out];simp) (aj hBw.out g2.h)
    cases h3:inB (dD c.aC k).out 0 100000000
    . have hf:Hid (Gz c.aC k=false):=ai (by rw[ht0.out,<- ht];simp[h1,h2,h3])
      replace ht:=ai ht
      go_wp2_with (go_at_call 144;(with_reducible refine ax (iI (by assumption) _) ?_);rintro e w' ⟨rfl,rfl⟩)
      go_ret
      exact aB.mk (by unfold pY.ok;rw[dV hlt hf.out];simp) (aj hBw.out g2.h)
    by_cases hk0:k=0
    . subst hk0
      simp only[Nat.zero_mul,Nat.add_zero] at c0 c1 c2
      by_cases hf0:(dD c.aC 0).fill=0
      . have hf:Hid (Gz c.aC 0=true):=ai (by rw[ht0.out,<- ht];simp[h1,h2,h3,hf0];try decide)
        have hb0:((dD c.aC 0).fill != 0)=false:=by rw[hf0];rfl
        replace hf0:=ai hf0
        replace ht:=ai ht
        go_wp2_with (go_at_call 144;(with_reducible refine ax (iI (by assumption) _) ?_);rintro e w' ⟨rfl,rfl⟩)
        go_quiet (fail)
        go_wp2_with (fail)
        have hH':Hid (∀j,j<0+1->Gz c.aC j=true):=ai (fK hH.out hf.out)
        obtain⟨g3,hg3⟩:=g2.next (below_drewN (Below.refl _ _) nq)
        exact⟨⟨0+1,by omega,by go_num,hH',g3,hg3⟩,by simp[intOf];omega⟩
      . have hf:Hid (Gz c.aC 0=false):=ai (by rw[ht0.out,<- ht];simp[h1,h2,h3,hf0])
        have hb0:((dD c.aC 0).fill != 0)=true:=by simpa using hf0
        replace hf0:=ai hf0
        replace ht:=ai ht
        go_wp2_with (go_at_call 144;(with_reducible refine ax (iI (by assumption) _) ?_);rintro e w' ⟨rfl,rfl⟩)
        go_ret
        exact aB.mk (by unfold pY.ok;rw[dV hlt hf.out];simp) (aj hBw.out g2.h)
    . obtain⟨p0,p1,p2⟩:=ai'.out (k - 1) (by omega)
      have hkz:((k:Int) == 0)=false:=by simp;omega
      have hkp:0<k:=by omega
      have hkq:decide (0<k)=true:=by simpa using hkp
      have hk1:(0:Int)<(k:Int)/\(0:Int)<=(k:Int) - 1/\(k:Int) - 1<c.aC.length:=by omega
      cases d1:decide ((dD c.aC k).fill<=(dD c.aC (k - 1)).fill)
      . have e1:(dD c.aC (k - 1)).fill<(dD c.aC k).fill:=by simpa using d1
        cases d2:decide ((dD c.aC (k - 1)).iq<(dD c.aC k).iq)
        . have e2:(dD c.aC k).iq<=(dD c.aC (k - 1)).iq:=by simpa using d2
          cases d3:decide ((dD c.aC k).out<(dD c.aC (k - 1)).out)
          . have e3:(dD c.aC (k - 1)).out<=(dD c.aC k).out:=by simpa using d3
            have hf:Hid (Gz c.aC k=true):=ai (by rw[ht0.out,<- ht];simp[h1,h2,h3,hk0,e1,e2,e3])
            replace ht:=ai ht
            go_wp2_with (go_at_call 144;(with_reducible refine ax (iI (by assumption) _) ?_);rintro e w' ⟨rfl,rfl⟩)
            go_quiet (fail)
            go_wp2_with (fail)
            have hH':Hid (∀j,j<k+1->Gz c.aC j=true):=ai (fK hH.out hf.out)
            obtain⟨g3,hg3⟩:=g2.next (below_drewN (Below.refl _ _) nq)
            exact⟨⟨k+1,by omega,by go_num,hH',g3,hg3⟩,by simp[intOf];omega⟩
          . have e3:(dD c.aC k).out<(dD c.aC (k - 1)).out:=by simpa using d3
            have hf:Hid (Gz c.aC k=false):=ai (by rw[ht0.out,<- ht];simp[h1,h2,h3,hk0,e1,e2,e3])
            replace ht:=ai ht
            go_wp2_with (go_at_call 144;(with_reducible refine ax (iI (by assumption) _) ?_);rintro e w' ⟨rfl,rfl⟩)
            go_quiet (fail)
            go_wp2_with (fail)
            go_ret
            exact aB.mk (by unfold pY.ok;rw[dV hlt hf.out];simp) (aj hBw.out (below_drewN g2.h _))
        . have e2:(dD c.aC (k - 1)).iq<(dD c.aC k).iq:=by simpa using d2
          have hf:Hid (Gz c.aC k=false):=ai (by rw[ht0.out,<- ht];simp[h1,h2,h3,hk0,e1,e2] <;> (intros;omega))
          replace ht:=ai ht
          go_wp2_with (go_at_call 144;(with_reducible refine ax (iI (by assumption) _) ?_);rintro e w' ⟨rfl,rfl⟩)
          go_quiet (fail)
          go_wp2_with (fail)
          go_ret
          exact aB.mk (by unfold pY.ok;rw[dV hlt hf.out];simp) (aj hBw.out (below_drewN g2.h _))
      . have e1:(dD c.aC k).fill<=(dD c.aC (k - 1)).fill:=by simpa using d1
        have hf:Hid (Gz c.aC k=false):=ai (by rw[ht0.out,<- ht];simp[h1,h2,h3,hk0,e1] <;> (intros;omega))
        replace ht:=ai ht
        go_wp2_with (go_at_call 144;(with_reducible refine ax (iI (by assumption) _) ?_);rintro e w' ⟨rfl,rfl⟩)
        go_quiet (fail)
        go_wp2_with (fail)
        go_ret
        exact aB.mk (by unfold pY.ok;rw[dV hlt hf.out];simp) (aj hBw.out (below_drewN g2.h _))
  . have hall:Hid (c.ok=headB c):=ai (by unfold pY.ok;rw[pg fun j hj=>hH.out j (by omega)];simp)
    clear hH hrow
    have kP:Hid (∀X:World,Calls Tryz.prog 181 #[.slice (some ⟨X.heap.size,0,none⟩) 5 5] (X.alloc (.cells #[.int .i64 c.fixed,.int .i64 c.iq,.int .i64 c.out,.int .i64 c.cut,.int .i64 c.lack] 3)) (aB ([c.fixed,c.iq,c.out,c.cut,c.lack].all kX) (X.alloc (.cells #[.int .i64 c.fixed,.int .i64 c.iq,.int .i64 c.out,.int .i64 c.cut,.int .i64 c.lack] 3)))):=ai fun X=>YL _ _ _ (apZ X _ _ _ _ _)
    obtain⟨hv,hhv⟩:=aG (pG c.lo c.hi)
    have kH:Hid (∀X:World,Calls Tryz.prog 180 #[.agg #[.int .i64 c.lo,.int .i64 c.hi]] X (dI (.bool hv) X)):=ai fun X=>(acU c.lo c.hi X).mono fun e w' h=>h.lit hhv
    have hhh:=ai hhv
    clear hhv
    cases h1:inB c.space 1 100000000
    . have hf:Hid (c.ok=false):=ai (by rw[hall.out];simp[headB,h1])
      go_wp2_with (first|(go_at_call 144;(with_reducible refine ax (iI (by assumption) _) ?_);rintro e w' ⟨rfl,rfl⟩)|(go_at_call 180;(with_reducible refine ax (kH.out _) ?_);rintro e w' ⟨rfl,hb1⟩;obtain⟨g1,rfl⟩:=g.next hb1)|(go_at_call 181;(with_reducible refine ax (kP.out _) ?_);rintro e w' ⟨t,rfl,ht,hb2⟩))
      go_ret
      exact aB.mk hf.out (aj hBw.out g.h)
    cases hv
    . have hf:Hid (c.ok=false):=ai (by rw[hall.out];simp[headB,hhh.out])
      go_wp2_with (first|(go_at_call 144;(with_reducible refine ax (iI (by assumption) _) ?_);rintro e w' ⟨rfl,rfl⟩)|(go_at_call 180;(with_reducible refine ax (kH.out _) ?_);rintro e w' ⟨rfl,hb1⟩;obtain⟨g1,rfl⟩:=g.next hb1)|(go_at_call 181;(with_reducible refine ax (kP.out _) ?_);rintro e w' ⟨t,rfl,ht,hb2⟩))
      go_ret
      exact aB.mk hf.out (aj hBw.out g1.h)
    cases h3:inB (c.aC.length:Int) 1 6
    . have hf:Hid (c.ok=false):=ai (by rw[hall.out];simp[headB,h3])
      go_wp2_with (first|(go_at_call 144;(with_reducible refine ax (iI (by assumption) _) ?_);rintro e w' ⟨rfl,rfl⟩)|(go_at_call 180;(with_reducible refine ax (kH.out _) ?_);rintro e w' ⟨rfl,hb1⟩;obtain⟨g1,rfl⟩:=g.next hb1)|(go_at_call 181;(with_reducible refine ax (kP.out _) ?_);rintro e w' ⟨t,rfl,ht,hb2⟩))
      go_ret
      exact aB.mk hf.out (aj hBw.out g1.h)
    cases h4:inB c.NJ 0 c.space
    . have hf:Hid (c.ok=false):=ai (by rw[hall.out];simp[headB,h4])
      go_wp2_with (first|(go_at_call 144;(with_reducible refine ax (iI (by assumption) _) ?_);rintro e w' ⟨rfl,rfl⟩)|(go_at_call 180;(with_reducible refine ax (kH.out _) ?_);rintro e w' ⟨rfl,hb1⟩;obtain⟨g1,rfl⟩:=g.next hb1)|(go_at_call 181;(with_reducible refine ax (kP.out _) ?_);rintro e w' ⟨t,rfl,ht,hb2⟩))
      go_ret
      exact aB.mk hf.out (aj hBw.out g1.h)
    have hf:Hid (c.ok=[c.fixed,c.iq,c.out,c.cut,c.lack].all kX):=ai (by rw[hall.out];simp[headB,h1,h3,h4,hhh.out,nH,Bool.and_assoc])
    go_wp2_with (first|(go_at_call 144;(with_reducible refine ax (iI (by assumption) _) ?_);rintro e w' ⟨rfl,rfl⟩)|(go_at_call 180;(with_reducible refine ax (kH.out _) ?_);rintro e w' ⟨rfl,hb1⟩;obtain⟨g1,rfl⟩:=g.next hb1)|(go_at_call 181;(with_reducible refine ax (kP.out _) ?_);rintro e w' ⟨t,rfl,ht,hb2⟩))
    go_ret
    exact aB.mk (by rw[hf.out];exact ht) (aj hBw.out (aj g1.h (aj ((Below.refl _ _).alloc (Nat.le_refl _) _) hb2)))
