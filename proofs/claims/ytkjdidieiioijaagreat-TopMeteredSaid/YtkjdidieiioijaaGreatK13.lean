/- Walks. -/
import Derived.Test.YtkjdidieiioijaaGreatK12
set_option linter.all false
set_option maxRecDepth 100000
set_option maxHeartbeats 16000000
namespace Go.Proofs.YtkjdidieiioijaaGreat.G
open Go.RowKit Go.Sd bz
theorem JM {f:Nat}(c:d_)(s:St)(o:bz.Op)(n:St)(q:bz.Out)(w:World)(hk:(o.kind=1/\f=130)\/(o.kind=2/\f=131)\/(o.kind=3/\f=132))
    (en:∀args w,(callFunc f args).run Tryz.prog w=.ok (.enter f args) w)
    (hcall:∀W',w.heap.size<=W'.heap.size->Calls Tryz.prog f #[gm c,jF s,Ll o] W' ((dI (.tuple #[jF n,l9 q]) W'))) :
    Calls Tryz.prog 26 #[gm c,jF s,Ll o] w (dI (.tuple #[jF n,l9 q,.bool true]) w):=by
 obtain⟨X1,hX1⟩:=aG (w.alloc (.cells #[.int .i64 c.jm,.int .i64 c.jG,.int .i64 c.least,.int .i64 c.most,.int .i64 c.f0,.int .i64 c.f1,.int .i64 c.h0,.int .i64 c.h1,.int .i64 c.bu,.int .i64 c.mJ,.int .i64 c.phi] 96))
 obtain⟨fD,bX0,sX0⟩:=boxed hX1
 have acC:w.heap.size<X1.heap.size:=by omega
 obtain⟨uJ,uK,uM,uN,uO,uP,uQ,uS,uT,uU,qc⟩:=bJ fD
 obtain⟨X2,hX2⟩:=aG (X1.alloc (.cells #[.int .i64 s.dB,.int .i64 s.dK,.int .i64 s.di,.int .i64 s.dE,.int .i64 s.gK,.int .i64 s.gJ,.int .i64 s.wlo,.int .i64 s.whi] 40))
 obtain⟨gz,Us,sX1⟩:=boxed hX2
 have acD:w.heap.size<X2.heap.size:=by omega
 replace fD:=(Us.block _ (aF fD)).trans fD
 obtain⟨uV,uX,uY,uZ,u_,ve,vg,vk,vw,vz,qf⟩:=bJ fD
 have acE:X1.heap.size<X2.heap.size:=by omega
 obtain⟨vC,vF,vG,vH,vI,vJ,vK,vM⟩:=rc8 gz
 obtain⟨X3,lK⟩:=aG (X2.alloc (.cells #[.int .i64 o.kind,.int .i64 o.lg,.int .i64 o.ly,.int .i64 o.lt,.int .i64 o.lw,.int .i64 o.ay,.int .i64 o.lY,.int .i64 o.lX,.int .i64 o.wlo,.int .i64 o.whi] 43))
 obtain⟨iG,bX2,sX2⟩:=boxed lK
 have acF:w.heap.size<X3.heap.size:=by omega
 replace fD:=(bX2.block _ (aF fD)).trans fD
 obtain⟨vN,vO,vP,vS,vT,vU,vV,vW,vX,vY,qg⟩:=bJ fD
 have acG:X1.heap.size<X3.heap.size:=by omega
 replace gz:=(bX2.block _ (aF gz)).trans gz
 obtain⟨vZ,v_,wo,wu,wz,wB,wC,wE⟩:=rc8 gz
 have acH:X2.heap.size<X3.heap.size:=by omega
 obtain⟨wF,wG,wH,wI,wJ,wL,wM,wO,wP,wQ⟩:=gB iG
 obtain⟨X4,Ah⟩:=aG (X3.alloc (.cells #[.int .i64 0,.int .i64 0,.int .i64 0,.int .i64 0,.int .i64 0,.int .i64 0,.int .i64 0,.int .i64 0] 40))
 obtain⟨lD,GU,sX3⟩:=boxed Ah
 have acI:w.heap.size<X4.heap.size:=by omega
 replace fD:=(GU.block _ (aF fD)).trans fD
 obtain⟨wR,wS,wU,wV,wW,wX,wY,wZ,w_,xe,qh⟩:=bJ fD
 have acJ:X1.heap.size<X4.heap.size:=by omega
 replace gz:=(GU.block _ (aF gz)).trans gz
 obtain⟨xh,xk,xm,xn,xq,xu,xw,xx⟩:=rc8 gz
 have acK:X2.heap.size<X4.heap.size:=by omega
 replace iG:=(GU.block _ (aF iG)).trans iG
 obtain⟨xy,xA,xB,xC,xE,xG,xH,xI,xJ,xK⟩:=gB iG
 have acL:X3.heap.size<X4.heap.size:=by omega
 obtain⟨xM,xN,xO,xP,xQ,xR,xU,xW⟩:=rc8 lD
 obtain⟨X,hX⟩:=aG (X4.alloc (.cells #[.int .i64 0,.int .i64 0,.int .i64 0,.int .i64 0,.int .i64 0,.int .i64 0] 56))
 obtain⟨oL,CW,sX4⟩:=boxed hX
 replace fD:=(CW.block _ (aF fD)).trans fD
 replace gz:=(CW.block _ (aF gz)).trans gz
 replace iG:=(CW.block _ (aF iG)).trans iG
 replace lD:=(CW.block _ (aF lD)).trans lD
 have F_:Below w.heap.size w X:=(by have:=sX0;have:=sX1;have:=sX2;have:=sX3;have:=sX4;exact((((bX0.trans (Us.mono (by omega))).trans (bX2.mono (by omega))).trans (GU.mono (by omega))).trans (CW.mono (by omega))))
 obtain⟨sF,rX0,tX0⟩:=ah fD
 obtain⟨BD,BF,BG,BH,BI,BJ,BK,BL,BM,BN,uq⟩:=bJ fD
 obtain⟨JY,JZ,J3,J4,J5,J6,J7,J8,J9,J_,Az⟩:=ni fD
 have EX0:=ai fD
 clear rX0 tX0 fD
 obtain⟨zX1,rX1,tX1⟩:=ah gz
 obtain⟨Lu,LC,LD,LG,LH,LJ,LK,LM⟩:=rc8 gz
 obtain⟨Ko,Kq,Kr,Kt,Ku,Kv,Kw,Ky⟩:=FP gz
 have EX1:=ai gz
 clear rX1 tX1 gz
 obtain⟨uA,rX2,tX2⟩:=ah iG
 obtain⟨BO,BP,BQ,BR,BU,BX,BZ,B_,Cb,Cc⟩:=gB iG
 obtain⟨Kz,KA,KC,KD,KE,KF,KG,KH,KI,KJ⟩:=FO iG
 have EX2:=ai iG
 clear rX2 tX2 iG
 obtain⟨zX3,rX3,tX3⟩:=ah lD
 obtain⟨LP,LQ,LU,LV,LW,LX,LY,LZ⟩:=rc8 lD
 obtain⟨KL,KN,KO,KP,KQ,KR,KT,KU⟩:=FP lD
 have EX3:=ai lD
 clear rX3 tX3 lD
 obtain⟨zX4,rX4,tX4⟩:=ah oL
 obtain⟨L6,L8,L9,L_,Mc,Md⟩:=Ru oL
 obtain⟨KW,KX,KY,KZ,K_,La⟩:=rf6 oL
 have EX4:=ai oL
 clear rX4 tX4 oL
 have xX0:w.heap.size<=w.heap.size:=by omega
 have xX1:w.heap.size<=X1.heap.size:=by omega
 have xX2:w.heap.size<=X2.heap.size:=by omega
 have xX3:w.heap.size<=X3.heap.size:=by omega
 have xX4:w.heap.size<=X4.heap.size:=by omega
 clear bX0 sX0 Us sX1 bX2 sX2 GU sX3 CW sX4
 have hbX:Below w.heap.size w X:=F_
 have hen:∀args w,(callFunc 75 args).run Tryz.prog w=.ok (.enter 75 args) w:=fun args w=>by kernel_rfl
 obtain⟨W,hW⟩:=aG (X.alloc (.cells #[.bool false] 4))
 have hbW:Below X.heap.size X W:=by rw[<- hW];exact(Below.refl _ _).alloc (Nat.le_refl _) _
 have hlt:X.heap.size<W.heap.size:=by obtain⟨e0,b0,s0⟩:=boxed hW;omega
 have up:∀{k v},X.heap[k]? = some v->W.heap[k]? = some v:=fun h=>(hbW.block _ (aF h)).trans h
 have hd1:=ZE (bo:=X2.heap.size) (bc:=w.heap.size) (bs:=X1.heap.size) (b3:=X3.heap.size) (b4:=X4.heap.size) c s o n q W hk (up EX0.out) (up EX1.out) (up EX2.out) (up EX3.out) (up EX4.out) (by omega) en (fun W' h=>hcall W' (Nat.le_trans (hbX.trans (hbW.mono hbX.size)).size h))
 have hDone:=ai (Tt X W (fun V=>V.heap[X3.heap.size]? = some (.cells #[.int .i64 n.dB,.int .i64 n.dK,.int .i64 n.di,.int .i64 n.dE,.int .i64 n.gK,.int .i64 n.gJ,.int .i64 n.wlo,.int .i64 n.whi] 40 (0,0))/\V.heap[X4.heap.size]? = some (.cells #[.int .i64 q.dB,.int .i64 q.dK,.int .i64 q.di,.int .i64 q.dE,.int .i64 q.wlo,.int .i64 q.whi] 56 (0,0))/\Below w.heap.size w V) hW hen (hd1.mono fun e V hV=>⟨hV.1,hV.2.2.2.2.block _ (by exact hlt) ⟨by omega,by omega⟩,hV.2.2.1,hV.2.2.2.1,(hbX.trans (hbW.mono hbX.size)).trans (hV.2.2.2.2.below (Nat.le_trans hbX.size hbW.size) fun k hk=>⟨by omega,by omega⟩)⟩))
 have Gf:Calls Tryz.prog 30 _ _ (fun e V2=>e=.returned (.bool true)/\V2.heap[X3.heap.size]? = some (.cells #[.int .i64 n.dB,.int .i64 n.dK,.int .i64 n.di,.int .i64 n.dE,.int .i64 n.gK,.int .i64 n.gJ,.int .i64 n.wlo,.int .i64 n.whi] 40 (0,0))/\V2.heap[X4.heap.size]? = some (.cells #[.int .i64 q.dB,.int .i64 q.dK,.int .i64 q.di,.int .i64 q.dE,.int .i64 q.wlo,.int .i64 q.whi] 56 (0,0))/\Below w.heap.size w V2):=(hDone.out.mono (by
  rintro e V2 ⟨rfl,V,⟨g3,g4,hV⟩,rfl⟩
  exact⟨rfl,(Below.heap_setCell _ _ _ _ (by simp only;omega)).trans g3,(Below.heap_setCell _ _ _ _ (by simp only;omega)).trans g4,hV.setCell hbX.size _⟩))
 clear hDone
 replace Gf:=ai Gf
 clear hd1 up hcall hlt hbW hW en hk
 go_enter Tryz.func26,Tryz.ntmps26
 go_wp2_with (go_at_call 30;refine ax Gf.out ?_;rintro e V2 ⟨rfl,g3,g4,hV⟩)
 refine wp_region_noPanic ?_
 refine wp_region_held_drew (S:=(fun V=>V.heap[X3.heap.size]? = some (.cells #[.int .i64 n.dB,.int .i64 n.dK,.int .i64 n.di,.int .i64 n.dE,.int .i64 n.gK,.int .i64 n.gJ,.int .i64 n.wlo,.int .i64 n.whi] 40 (0,0))/\V.heap[X4.heap.size]? = some (.cells #[.int .i64 q.dB,.int .i64 q.dK,.int .i64 q.di,.int .i64 q.dE,.int .i64 q.wlo,.int .i64 q.whi] 56 (0,0))/\Below w.heap.size w V)) (by kernel_rfl) ⟨g3,g4,hV.drew⟩ (fun hHeld=>?_)
 generalize V2.drew=Y at hHeld ⊢
 refine iT 0 (jF n) hHeld ?_ ?_
 . intro w' hSw;have k3:=(ah hSw.1).2.1;have c0:=k3 0;simp only[List.getElem?_toArray,List.getElem?_cons_zero,List.getElem?_cons_succ] at c0;have c1:=k3 1;simp only[List.getElem?_toArray,List.getElem?_cons_zero,List.getElem?_cons_succ] at c1;have c2:=k3 2;simp only[List.getElem?_toArray,List.getElem?_cons_zero,List.getElem?_cons_succ] at c2;have c3:=k3 3;simp only[List.getElem?_toArray,List.getElem?_cons_zero,List.getElem?_cons_succ] at c3;have c4:=k3 4;simp only[List.getElem?_toArray,List.getElem?_cons_zero,List.getElem?_cons_succ] at c4;have c5:=k3 5;simp only[List.getElem?_toArray,List.getElem?_cons_zero,List.getElem?_cons_succ] at c5;have c6:=k3 6;simp only[List.getElem?_toArray,List.getElem?_cons_zero,List.getElem?_cons_succ] at c6;have c7:=k3 7;simp only[List.getElem?_toArray,List.getElem?_cons_zero,List.getElem?_cons_succ] at c7;go_simp;(try with_reducible rfl)
 try simp only[aI]
 refine iT 1 (l9 q) hHeld ?_ ?_
 . intro w' hSw;have k4:=(ah hSw.2.1).2.1;have d0:=k4 0;simp only[List.getElem?_toArray,List.getElem?_cons_zero,List.getElem?_cons_succ] at d0;have d1:=k4 1;simp only[List.getElem?_toArray,List.getElem?_cons_zero,List.getElem?_cons_succ] at d1;have d2:=k4 2;simp only[List.getElem?_toArray,List.getElem?_cons_zero,List.getElem?_cons_succ] at d2;have d3:=k4 3;simp only[List.getElem?_toArray,List.getElem?_cons_zero,List.getElem?_cons_succ] at d3;have d4:=k4 4;simp only[List.getElem?_toArray,List.getElem?_cons_zero,List.getElem?_cons_succ] at d4;have d5:=k4 5;simp only[List.getElem?_toArray,List.getElem?_cons_zero,List.getElem?_cons_succ] at d5;go_simp;(try with_reducible rfl)
 try simp only[aI]
 refine iT 2 (.bool true) hHeld ?_ ?_
 . intro w' hSw;go_simp;(try with_reducible rfl)
 try simp only[aI]
 have y3:=ah hHeld.1
 have y4:=ah hHeld.2.1
 have aj8:Y.cell? ⟨X3.heap.size,0,none⟩=some (.int .i64 n.dB):=y3.2.1 0
 have aij:Y.frozen? ⟨X3.heap.size,0,none⟩=false:=y3.2.2 0
 have aj9:Y.cell? ⟨X3.heap.size,1,none⟩=some (.int .i64 n.dK):=y3.2.1 1
 have aik:Y.frozen? ⟨X3.heap.size,1,none⟩=false:=y3.2.2 1
 have aj_:Y.cell? ⟨X3.heap.size,2,none⟩=some (.int .i64 n.di):=y3.2.1 2
 have ail:Y.frozen? ⟨X3.heap.size,2,none⟩=false:=y3.2.2 2
 have aj':Y.cell? ⟨X3.heap.size,3,none⟩=some (.int .i64 n.dE):=y3.2.1 3
 have aim:Y.frozen? ⟨X3.heap.size,3,none⟩=false:=y3.2.2 3
 have aka:Y.cell? ⟨X3.heap.size,4,none⟩=some (.int .i64 n.gK):=y3.2.1 4
 have ain:Y.frozen? ⟨X3.heap.size,4,none⟩=false:=y3.2.2 4
 have akb:Y.cell? ⟨X3.heap.size,5,none⟩=some (.int .i64 n.gJ):=y3.2.1 5
 have aio:Y.frozen? ⟨X3.heap.size,5,none⟩=false:=y3.2.2 5
 have akc:Y.cell? ⟨X3.heap.size,6,none⟩=some (.int .i64 n.wlo):=y3.2.1 6
 have aip:Y.frozen? ⟨X3.heap.size,6,none⟩=false:=y3.2.2 6
 have akd:Y.cell? ⟨X3.heap.size,7,none⟩=some (.int .i64 n.whi):=y3.2.1 7
 have aiq:Y.frozen? ⟨X3.heap.size,7,none⟩=false:=y3.2.2 7
 have ake:Y.cell? ⟨X4.heap.size,0,none⟩=some (.int .i64 q.dB):=y4.2.1 0
 have air:Y.frozen? ⟨X4.heap.size,0,none⟩=false:=y4.2.2 0
 have akf:Y.cell? ⟨X4.heap.size,1,none⟩=some (.int .i64 q.dK):=y4.2.1 1
 have ais:Y.frozen? ⟨X4.heap.size,1,none⟩=false:=y4.2.2 1
 have akg:Y.cell? ⟨X4.heap.size,2,none⟩=some (.int .i64 q.di):=y4.2.1 2
 have ait:Y.frozen? ⟨X4.heap.size,2,none⟩=false:=y4.2.2 2
 have akh:Y.cell? ⟨X4.heap.size,3,none⟩=some (.int .i64 q.dE):=y4.2.1 3
 have aiu:Y.frozen? ⟨X4.heap.size,3,none⟩=false:=y4.2.2 3
 have aki:Y.cell? ⟨X4.heap.size,4,none⟩=some (.int .i64 q.wlo):=y4.2.1 4
 have aiv:Y.frozen? ⟨X4.heap.size,4,none⟩=false:=y4.2.2 4
 have akj:Y.cell? ⟨X4.heap.size,5,none⟩=some (.int .i64 q.whi):=y4.2.1 5
 have aiw:Y.frozen? ⟨X4.heap.size,5,none⟩=false:=y4.2.2 5
 have h34:X3.heap.size≠X4.heap.size:=by omega
 have h43:X4.heap.size≠X3.heap.size:=by omega
 have z3:w.heap.size<=X3.heap.size:=by omega
 have z4:w.heap.size<=X4.heap.size:=by omega
 refine wpAnyH_ready (rs:=[3]) (by kernel_rfl) (by simp) ?_
 refine AllReadyH.cons rfl (fun K hK=>?_) AllReadyH.nil
 go_simp
 refine hK.out _ _ ⟨mg hHeld.1 _ _ _ _ _ _ _ _,(gy _ _ _ _ _ _ _ _ h43).trans hHeld.2.1,pR hHeld.2.2 z3 _ _ _ _ _ _ _ _⟩ (fun bG=>?_)
 clear hK K hHeld
 have hHeld:=bG
 clear bG
 try simp only[aI]
 refine wpAnyH_ready (rs:=[4]) (by kernel_rfl) (by simp) ?_
 refine AllReadyH.cons rfl (fun K hK=>?_) AllReadyH.nil
 go_simp
 refine hK.out _ _ ⟨(gu _ _ _ _ _ _ h34).trans hHeld.1,mf hHeld.2.1 _ _ _ _ _ _,pO hHeld.2.2 z4 _ _ _ _ _ _⟩ (fun bG=>?_)
 clear hK K hHeld
 have hHeld:=bG
 clear bG
 try simp only[aI]
 refine wpAnyH_ready (rs:=[5]) (by kernel_rfl) (by simp) ?_
 refine AllReadyH.cons rfl (fun K hK=>?_) AllReadyH.nil
 go_simp
 refine hK.out _ _ hHeld (fun bG=>?_)
 clear hK K hHeld
 have hHeld:=bG
 clear bG
 try simp only[aI]
 refine wpAnyH_done (by kernel_rfl) ?_ _
 refine NoPanic.normal ?_
 generalize hV:World.setCell _ ⟨X4.heap.size,5,none⟩ _=V at hHeld ⊢
 clear hV
 clear aj8 aij aj9 aik aj_ ail aj' aim aka ain akb aio akc aip akd aiq ake air akf ais akg ait akh aiu aki aiv akj aiw y3 y4
 have k3:=(ah hHeld.1).2.1
 have k4:=(ah hHeld.2.1).2.1
 have MQ:=k3 0;have MR:=k3 1;have MS:=k3 2;have MW:=k3 3;have MX:=k3 4;have MZ:=k3 5;have M_:=k3 6;have Na:=k3 7
 have Nb:=k4 0;have Nc:=k4 1;have Nh:=k4 2;have Nj:=k4 3;have Nk:=k4 4;have Nl:=k4 5
 simp only[List.getElem?_toArray,List.getElem?_cons_zero,List.getElem?_cons_succ] at MQ MR MS MW MX MZ M_ Na Nb Nc Nh Nj Nk Nl
 clear k3 k4
 have hfin:=ai hHeld.2.2
 clear hHeld
 go_wp2
 refine bodyPost_ret (v:=.tuple #[jF n,l9 q,.bool true]) (by simp[results,Tryz.results26,go_sem, *]) rfl ⟨rfl,hfin.out⟩
theorem JL {f:Nat}(c:d_)(s:St)(o:bz.Op)(w:World)(hk:(o.kind=1/\f=130)\/(o.kind=2/\f=131)\/(o.kind=3/\f=132))
    (en:∀args w,(callFunc f args).run Tryz.prog w=.ok (.enter f args) w)
    (hcall:∀W',w.heap.size<=W'.heap.size->Calls Tryz.prog f #[gm c,jF s,Ll o] W' (jI W')) :
    Calls Tryz.prog 26 #[gm c,jF s,Ll o] w (dI (.tuple #[jF ⟨0,0,0,0,0,0,0,0⟩,l9 ⟨0,0,0,0,0,0⟩,.bool false]) w):=by
 obtain⟨X1,hX1⟩:=aG (w.alloc (.cells #[.int .i64 c.jm,.int .i64 c.jG,.int .i64 c.least,.int .i64 c.most,.int .i64 c.f0,.int .i64 c.f1,.int .i64 c.h0,.int .i64 c.h1,.int .i64 c.bu,.int .i64 c.mJ,.int .i64 c.phi] 96))
 obtain⟨fD,bX0,sX0⟩:=boxed hX1
 have acC:w.heap.size<X1.heap.size:=by omega
 obtain⟨uJ,uK,uM,uN,uO,uP,uQ,uS,uT,uU,qc⟩:=bJ fD
 obtain⟨X2,hX2⟩:=aG (X1.alloc (.cells #[.int .i64 s.dB,.int .i64 s.dK,.int .i64 s.di,.int .i64 s.dE,.int .i64 s.gK,.int .i64 s.gJ,.int .i64 s.wlo,.int .i64 s.whi] 40))
 obtain⟨gz,Us,sX1⟩:=boxed hX2
 have acD:w.heap.size<X2.heap.size:=by omega
 replace fD:=(Us.block _ (aF fD)).trans fD
 obtain⟨uV,uX,uY,uZ,u_,ve,vg,vk,vw,vz,qf⟩:=bJ fD
 have acE:X1.heap.size<X2.heap.size:=by omega
 obtain⟨vC,vF,vG,vH,vI,vJ,vK,vM⟩:=rc8 gz
 obtain⟨X3,lK⟩:=aG (X2.alloc (.cells #[.int .i64 o.kind,.int .i64 o.lg,.int .i64 o.ly,.int .i64 o.lt,.int .i64 o.lw,.int .i64 o.ay,.int .i64 o.lY,.int .i64 o.lX,.int .i64 o.wlo,.int .i64 o.whi] 43))
 obtain⟨iG,bX2,sX2⟩:=boxed lK
 have acF:w.heap.size<X3.heap.size:=by omega
 replace fD:=(bX2.block _ (aF fD)).trans fD
 obtain⟨vN,vO,vP,vS,vT,vU,vV,vW,vX,vY,qg⟩:=bJ fD
 have acG:X1.heap.size<X3.heap.size:=by omega
 replace gz:=(bX2.block _ (aF gz)).trans gz
 obtain⟨vZ,v_,wo,wu,wz,wB,wC,wE⟩:=rc8 gz
 have acH:X2.heap.size<X3.heap.size:=by omega
 obtain⟨wF,wG,wH,wI,wJ,wL,wM,wO,wP,wQ⟩:=gB iG
 obtain⟨X4,Ah⟩:=aG (X3.alloc (.cells #[.int .i64 0,.int .i64 0,.int .i64 0,.int .i64 0,.int .i64 0,.int .i64 0,.int .i64 0,.int .i64 0] 40))
 obtain⟨lD,GU,sX3⟩:=boxed Ah
 have acI:w.heap.size<X4.heap.size:=by omega
 replace fD:=(GU.block _ (aF fD)).trans fD
 obtain⟨wR,wS,wU,wV,wW,wX,wY,wZ,w_,xe,qh⟩:=bJ fD
 have acJ:X1.heap.size<X4.heap.size:=by omega
 replace gz:=(GU.block _ (aF gz)).trans gz
 obtain⟨xh,xk,xm,xn,xq,xu,xw,xx⟩:=rc8 gz
 have acK:X2.heap.size<X4.heap.size:=by omega
 replace iG:=(GU.block _ (aF iG)).trans iG
 obtain⟨xy,xA,xB,xC,xE,xG,xH,xI,xJ,xK⟩:=gB iG
 have acL:X3.heap.size<X4.heap.size:=by omega
 obtain⟨xM,xN,xO,xP,xQ,xR,xU,xW⟩:=rc8 lD
 obtain⟨X,hX⟩:=aG (X4.alloc (.cells #[.int .i64 0,.int .i64 0,.int .i64 0,.int .i64 0,.int .i64 0,.int .i64 0] 56))
 obtain⟨oL,CW,sX4⟩:=boxed hX
 replace fD:=(CW.block _ (aF fD)).trans fD
 replace gz:=(CW.block _ (aF gz)).trans gz
 replace iG:=(CW.block _ (aF iG)).trans iG
 replace lD:=(CW.block _ (aF lD)).trans lD
 have F_:Below w.heap.size w X:=(by have:=sX0;have:=sX1;have:=sX2;have:=sX3;have:=sX4;exact((((bX0.trans (Us.mono (by omega))).trans (bX2.mono (by omega))).trans (GU.mono (by omega))).trans (CW.mono (by omega))))
 obtain⟨sF,rX0,tX0⟩:=ah fD
 obtain⟨BD,BF,BG,BH,BI,BJ,BK,BL,BM,BN,uq⟩:=bJ fD
 obtain⟨JY,JZ,J3,J4,J5,J6,J7,J8,J9,J_,Az⟩:=ni fD
 have EX0:=ai fD
 clear rX0 tX0 fD
 obtain⟨zX1,rX1,tX1⟩:=ah gz
 obtain⟨Lu,LC,LD,LG,LH,LJ,LK,LM⟩:=rc8 gz
 obtain⟨Ko,Kq,Kr,Kt,Ku,Kv,Kw,Ky⟩:=FP gz
 have EX1:=ai gz
 clear rX1 tX1 gz
 obtain⟨uA,rX2,tX2⟩:=ah iG
 obtain⟨BO,BP,BQ,BR,BU,BX,BZ,B_,Cb,Cc⟩:=gB iG
 obtain⟨Kz,KA,KC,KD,KE,KF,KG,KH,KI,KJ⟩:=FO iG
 have EX2:=ai iG
 clear rX2 tX2 iG
 obtain⟨zX3,rX3,tX3⟩:=ah lD
 obtain⟨LP,LQ,LU,LV,LW,LX,LY,LZ⟩:=rc8 lD
 obtain⟨KL,KN,KO,KP,KQ,KR,KT,KU⟩:=FP lD
 have EX3:=ai lD
 clear rX3 tX3 lD
 obtain⟨zX4,rX4,tX4⟩:=ah oL
 obtain⟨L6,L8,L9,L_,Mc,Md⟩:=Ru oL
 obtain⟨KW,KX,KY,KZ,K_,La⟩:=rf6 oL
 have EX4:=ai oL
 clear rX4 tX4 oL
 have xX0:w.heap.size<=w.heap.size:=by omega
 have xX1:w.heap.size<=X1.heap.size:=by omega
 have xX2:w.heap.size<=X2.heap.size:=by omega
 have xX3:w.heap.size<=X3.heap.size:=by omega
 have xX4:w.heap.size<=X4.heap.size:=by omega
 clear bX0 sX0 Us sX1 bX2 sX2 GU sX3 CW sX4
 have hbX:Below w.heap.size w X:=F_
 have hen:∀args w,(callFunc 75 args).run Tryz.prog w=.ok (.enter 75 args) w:=fun args w=>by kernel_rfl
 obtain⟨W,hW⟩:=aG (X.alloc (.cells #[.bool false] 4))
 have hbW:Below X.heap.size X W:=by rw[<- hW];exact(Below.refl _ _).alloc (Nat.le_refl _) _
 have hlt:X.heap.size<W.heap.size:=by obtain⟨e0,b0,s0⟩:=boxed hW;omega
 have up:∀{k v},X.heap[k]? = some v->W.heap[k]? = some v:=fun h=>(hbW.block _ (aF h)).trans h
 have hd1:=ZC (bo:=X2.heap.size) (bc:=w.heap.size) (bs:=X1.heap.size) (b3:=X3.heap.size) (b4:=X4.heap.size) c s o W hk (up EX0.out) (up EX1.out) (up EX2.out) (up EX3.out) (up EX4.out) (by omega) en (fun W' h=>hcall W' (Nat.le_trans (hbX.trans (hbW.mono hbX.size)).size h))
 have hDone:=ai (adI X W hW hen hd1)
 have Gf:Calls Tryz.prog 30 _ _ (fun e V2=>e=.returned (.bool false)/\V2.heap[X3.heap.size]? = some (.cells #[.int .i64 0,.int .i64 0,.int .i64 0,.int .i64 0,.int .i64 0,.int .i64 0,.int .i64 0,.int .i64 0] 40 (0,0))/\V2.heap[X4.heap.size]? = some (.cells #[.int .i64 0,.int .i64 0,.int .i64 0,.int .i64 0,.int .i64 0,.int .i64 0] 56 (0,0))/\Below w.heap.size w V2):=(hDone.out.mono (by
  rintro e V2 ⟨rfl,hB⟩
  exact⟨rfl,(hB.block _ (aF EX3.out)).trans EX3.out,(hB.block _ (aF EX4.out)).trans EX4.out,hbX.trans (hB.mono hbX.size)⟩))
 clear hDone
 replace Gf:=ai Gf
 clear hd1 up hcall hlt hbW hW en hk
 go_enter Tryz.func26,Tryz.ntmps26
 go_wp2_with (go_at_call 30;refine ax Gf.out ?_;rintro e V2 ⟨rfl,g3,g4,hV⟩)
 refine wp_region_noPanic ?_
 refine wp_region_held_drew (S:=(fun V=>V.heap[X3.heap.size]? = some (.cells #[.int .i64 0,.int .i64 0,.int .i64 0,.int .i64 0,.int .i64 0,.int .i64 0,.int .i64 0,.int .i64 0] 40 (0,0))/\V.heap[X4.heap.size]? = some (.cells #[.int .i64 0,.int .i64 0,.int .i64 0,.int .i64 0,.int .i64 0,.int .i64 0] 56 (0,0))/\Below w.heap.size w V)) (by kernel_rfl) ⟨g3,g4,hV.drew⟩ (fun hHeld=>?_)
 generalize V2.drew=Y at hHeld ⊢
 refine iT 0 (jF ⟨0,0,0,0,0,0,0,0⟩) hHeld ?_ ?_
 . intro w' hSw;have k3:=(ah hSw.1).2.1;have c0:=k3 0;simp only[List.getElem?_toArray,List.getElem?_cons_zero,List.getElem?_cons_succ] at c0;have c1:=k3 1;simp only[List.getElem?_toArray,List.getElem?_cons_zero,List.getElem?_cons_succ] at c1;have c2:=k3 2;simp only[List.getElem?_toArray,List.getElem?_cons_zero,List.getElem?_cons_succ] at c2;have c3:=k3 3;simp only[List.getElem?_toArray,List.getElem?_cons_zero,List.getElem?_cons_succ] at c3;have c4:=k3 4;simp only[List.getElem?_toArray,List.getElem?_cons_zero,List.getElem?_cons_succ] at c4;have c5:=k3 5;simp only[List.getElem?_toArray,List.getElem?_cons_zero,List.getElem?_cons_succ] at c5;have c6:=k3 6;simp only[List.getElem?_toArray,List.getElem?_cons_zero,List.getElem?_cons_succ] at c6;have c7:=k3 7;simp only[List.getElem?_toArray,List.getElem?_cons_zero,List.getElem?_cons_succ] at c7;go_simp;(try with_reducible rfl)
 try simp only[aI]
 refine iT 1 (l9 ⟨0,0,0,0,0,0⟩) hHeld ?_ ?_
 . intro w' hSw;have k4:=(ah hSw.2.1).2.1;have d0:=k4 0;simp only[List.getElem?_toArray,List.getElem?_cons_zero,List.getElem?_cons_succ] at d0;have d1:=k4 1;simp only[List.getElem?_toArray,List.getElem?_cons_zero,List.getElem?_cons_succ] at d1;have d2:=k4 2;simp only[List.getElem?_toArray,List.getElem?_cons_zero,List.getElem?_cons_succ] at d2;have d3:=k4 3;simp only[List.getElem?_toArray,List.getElem?_cons_zero,List.getElem?_cons_succ] at d3;have d4:=k4 4;simp only[List.getElem?_toArray,List.getElem?_cons_zero,List.getElem?_cons_succ] at d4;have d5:=k4 5;simp only[List.getElem?_toArray,List.getElem?_cons_zero,List.getElem?_cons_succ] at d5;go_simp;(try with_reducible rfl)
 try simp only[aI]
 refine iT 2 (.bool false) hHeld ?_ ?_
 . intro w' hSw;go_simp;(try with_reducible rfl)
 try simp only[aI]
 have y3:=ah hHeld.1
 have y4:=ah hHeld.2.1
 have aj8:Y.cell? ⟨X3.heap.size,0,none⟩=some (.int .i64 0):=y3.2.1 0
 have aij:Y.frozen? ⟨X3.heap.size,0,none⟩=false:=y3.2.2 0
 have aj9:Y.cell? ⟨X3.heap.size,1,none⟩=some (.int .i64 0):=y3.2.1 1
 have aik:Y.frozen? ⟨X3.heap.size,1,none⟩=false:=y3.2.2 1
 have aj_:Y.cell? ⟨X3.heap.size,2,none⟩=some (.int .i64 0):=y3.2.1 2
 have ail:Y.frozen? ⟨X3.heap.size,2,none⟩=false:=y3.2.2 2
 have aj':Y.cell? ⟨X3.heap.size,3,none⟩=some (.int .i64 0):=y3.2.1 3
 have aim:Y.frozen? ⟨X3.heap.size,3,none⟩=false:=y3.2.2 3
 have aka:Y.cell? ⟨X3.heap.size,4,none⟩=some (.int .i64 0):=y3.2.1 4
 have ain:Y.frozen? ⟨X3.heap.size,4,none⟩=false:=y3.2.2 4
 have akb:Y.cell? ⟨X3.heap.size,5,none⟩=some (.int .i64 0):=y3.2.1 5
 have aio:Y.frozen? ⟨X3.heap.size,5,none⟩=false:=y3.2.2 5
 have akc:Y.cell? ⟨X3.heap.size,6,none⟩=some (.int .i64 0):=y3.2.1 6
 have aip:Y.frozen? ⟨X3.heap.size,6,none⟩=false:=y3.2.2 6
 have akd:Y.cell? ⟨X3.heap.size,7,none⟩=some (.int .i64 0):=y3.2.1 7
 have aiq:Y.frozen? ⟨X3.heap.size,7,none⟩=false:=y3.2.2 7
 have ake:Y.cell? ⟨X4.heap.size,0,none⟩=some (.int .i64 0):=y4.2.1 0
 have air:Y.frozen? ⟨X4.heap.size,0,none⟩=false:=y4.2.2 0
 have akf:Y.cell? ⟨X4.heap.size,1,none⟩=some (.int .i64 0):=y4.2.1 1
 have ais:Y.frozen? ⟨X4.heap.size,1,none⟩=false:=y4.2.2 1
 have akg:Y.cell? ⟨X4.heap.size,2,none⟩=some (.int .i64 0):=y4.2.1 2
 have ait:Y.frozen? ⟨X4.heap.size,2,none⟩=false:=y4.2.2 2
 have akh:Y.cell? ⟨X4.heap.size,3,none⟩=some (.int .i64 0):=y4.2.1 3
 have aiu:Y.frozen? ⟨X4.heap.size,3,none⟩=false:=y4.2.2 3
 have aki:Y.cell? ⟨X4.heap.size,4,none⟩=some (.int .i64 0):=y4.2.1 4
 have aiv:Y.frozen? ⟨X4.heap.size,4,none⟩=false:=y4.2.2 4
 have akj:Y.cell? ⟨X4.heap.size,5,none⟩=some (.int .i64 0):=y4.2.1 5
 have aiw:Y.frozen? ⟨X4.heap.size,5,none⟩=false:=y4.2.2 5
 have h34:X3.heap.size≠X4.heap.size:=by omega
 have h43:X4.heap.size≠X3.heap.size:=by omega
 have z3:w.heap.size<=X3.heap.size:=by omega
 have z4:w.heap.size<=X4.heap.size:=by omega
 refine wpAnyH_ready (rs:=[3]) (by kernel_rfl) (by simp) ?_
 refine AllReadyH.cons rfl (fun K hK=>?_) AllReadyH.nil
 go_simp
 refine hK.out _ _ ⟨mg hHeld.1 _ _ _ _ _ _ _ _,(gy _ _ _ _ _ _ _ _ h43).trans hHeld.2.1,pR hHeld.2.2 z3 _ _ _ _ _ _ _ _⟩ (fun bG=>?_)
 clear hK K hHeld
 have hHeld:=bG
 clear bG
 try simp only[aI]
 refine wpAnyH_ready (rs:=[4]) (by kernel_rfl) (by simp) ?_
 refine AllReadyH.cons rfl (fun K hK=>?_) AllReadyH.nil
 go_simp
 refine hK.out _ _ ⟨(gu _ _ _ _ _ _ h34).trans hHeld.1,mf hHeld.2.1 _ _ _ _ _ _,pO hHeld.2.2 z4 _ _ _ _ _ _⟩ (fun bG=>?_)
 clear hK K hHeld
 have hHeld:=bG
 clear bG
 try simp only[aI]
 refine wpAnyH_ready (rs:=[5]) (by kernel_rfl) (by simp) ?_
 refine AllReadyH.cons rfl (fun K hK=>?_) AllReadyH.nil
 go_simp
 refine hK.out _ _ hHeld (fun bG=>?_)
 clear hK K hHeld
 have hHeld:=bG
 clear bG
 try simp only[aI]
 refine wpAnyH_done (by kernel_rfl) ?_ _
 refine NoPanic.normal ?_
 generalize hV:World.setCell _ ⟨X4.heap.size,5,none⟩ _=V at hHeld ⊢
 clear hV
 clear aj8 aij aj9 aik aj_ ail aj' aim aka ain akb aio akc aip akd aiq ake air akf ais akg ait akh aiu aki aiv akj aiw y3 y4
 have k3:=(ah hHeld.1).2.1
 have k4:=(ah hHeld.2.1).2.1
 have MQ:=k3 0;have MR:=k3 1;have MS:=k3 2;have MW:=k3 3;have MX:=k3 4;have MZ:=k3 5;have M_:=k3 6;have Na:=k3 7
 have Nb:=k4 0;have Nc:=k4 1;have Nh:=k4 2;have Nj:=k4 3;have Nk:=k4 4;have Nl:=k4 5
 simp only[List.getElem?_toArray,List.getElem?_cons_zero,List.getElem?_cons_succ] at MQ MR MS MW MX MZ M_ Na Nb Nc Nh Nj Nk Nl
 clear k3 k4
 have hfin:=ai hHeld.2.2
 clear hHeld
 go_wp2
 refine bodyPost_ret (v:=.tuple #[jF ⟨0,0,0,0,0,0,0,0⟩,l9 ⟨0,0,0,0,0,0⟩,.bool false]) (by simp[results,Tryz.results26,go_sem, *]) rfl ⟨rfl,hfin.out⟩
theorem fU {w:World}{n m:Nat}{c:Option Obj}(o:Nat)(v:Value)(hne:m≠n)(h:w.heap[m]? = c):(w.setCell ⟨n,o,none⟩ v).heap[m]? = c :=
 (Below.heap_setCell _ _ _ _ hne).trans h
theorem acV {w:World}{n:Nat}{e:TypeId}(h:∃a0 a1 a2 a3 a4 a5:Value,w.heap[n]? = some (.cells #[a0,a1,a2,a3,a4,a5] e (0,0)))(b0 b1 b2 b3 b4 b5:Value):∃a0 a1 a2 a3 a4 a5:Value,((((((w.setCell ⟨n,0,none⟩ b0).setCell ⟨n,1,none⟩ b1).setCell ⟨n,2,none⟩ b2).setCell ⟨n,3,none⟩ b3).setCell ⟨n,4,none⟩ b4).setCell ⟨n,5,none⟩ b5).heap[n]? = some (.cells #[a0,a1,a2,a3,a4,a5] e (0,0)):=by
 obtain⟨a0,a1,a2,a3,a4,a5,h⟩:=h;exact⟨_,_,_,_,_,_,mf h _ _ _ _ _ _⟩
theorem acW {w:World}{n:Nat}{e:TypeId}(h:∃a0 a1 a2 a3 a4 a5 a6 a7:Value,w.heap[n]? = some (.cells #[a0,a1,a2,a3,a4,a5,a6,a7] e (0,0)))(b0 b1 b2 b3 b4 b5 b6 b7:Value):∃a0 a1 a2 a3 a4 a5 a6 a7:Value,((((((((w.setCell ⟨n,0,none⟩ b0).setCell ⟨n,1,none⟩ b1).setCell ⟨n,2,none⟩ b2).setCell ⟨n,3,none⟩ b3).setCell ⟨n,4,none⟩ b4).setCell ⟨n,5,none⟩ b5).setCell ⟨n,6,none⟩ b6).setCell ⟨n,7,none⟩ b7).heap[n]? = some (.cells #[a0,a1,a2,a3,a4,a5,a6,a7] e (0,0)):=by
 obtain⟨a0,a1,a2,a3,a4,a5,a6,a7,h⟩:=h;exact⟨_,_,_,_,_,_,_,_,mg h _ _ _ _ _ _ _ _⟩
theorem Zt {w:World}{n k:Nat}{e:TypeId}(h:∃a0 a1 a2 a3 a4 a5 a6 a7:Value,w.heap[k]? = some (.cells #[a0,a1,a2,a3,a4,a5,a6,a7] e (0,0)))(b0 b1 b2 b3 b4 b5:Value)(hne:k≠n):∃a0 a1 a2 a3 a4 a5 a6 a7:Value,((((((w.setCell ⟨n,0,none⟩ b0).setCell ⟨n,1,none⟩ b1).setCell ⟨n,2,none⟩ b2).setCell ⟨n,3,none⟩ b3).setCell ⟨n,4,none⟩ b4).setCell ⟨n,5,none⟩ b5).heap[k]? = some (.cells #[a0,a1,a2,a3,a4,a5,a6,a7] e (0,0)):=by
 obtain⟨a0,a1,a2,a3,a4,a5,a6,a7,h⟩:=h;exact⟨_,_,_,_,_,_,_,_,(gu _ _ _ _ _ _ hne).trans h⟩
theorem Zu {w:World}{n k:Nat}{e:TypeId}(h:∃a0 a1 a2 a3 a4 a5:Value,w.heap[k]? = some (.cells #[a0,a1,a2,a3,a4,a5] e (0,0)))(b0 b1 b2 b3 b4 b5 b6 b7:Value)(hne:k≠n):∃a0 a1 a2 a3 a4 a5:Value,((((((((w.setCell ⟨n,0,none⟩ b0).setCell ⟨n,1,none⟩ b1).setCell ⟨n,2,none⟩ b2).setCell ⟨n,3,none⟩ b3).setCell ⟨n,4,none⟩ b4).setCell ⟨n,5,none⟩ b5).setCell ⟨n,6,none⟩ b6).setCell ⟨n,7,none⟩ b7).heap[k]? = some (.cells #[a0,a1,a2,a3,a4,a5] e (0,0)):=by
 obtain⟨a0,a1,a2,a3,a4,a5,h⟩:=h;exact⟨_,_,_,_,_,_,(gy _ _ _ _ _ _ _ _ hne).trans h⟩
end Go.Proofs.YtkjdidieiioijaaGreat.G
namespace bz
theorem pz (s:St)(a b c d:Bool):(⟨endOf s.dB s.dK a,endOf s.di s.dE b,endOf s.gK s.gJ c,endOf s.wlo s.whi d⟩:Pt) ∈ aT s:=by
 refine List.mem_map.2 ⟨a.toNat+2*b.toNat+4*c.toNat+8*d.toNat,?_,?_⟩
 . cases a <;> cases b <;> cases c <;> cases d <;> simp
 . cases a <;> cases b <;> cases c <;> cases d <;> rfl
theorem iZ {s:St}(hs:s.Ok){p:Pt}(h:p ∈ aT s):s.Has p:=by
 unfold aT iE at h
 rw[List.mem_map] at h
 obtain⟨k,-,rfl⟩:=h
 have:=hs.g;have:=hs.y;have:=hs.t;have:=hs.w
 refine⟨⟨?_,?_⟩,⟨?_,?_⟩,⟨?_,?_⟩,⟨?_,?_⟩⟩ <;> simp only[sJ,endOf] <;> split <;> omega
theorem Uz {l:List Pt}{T:St}(h:∀p ∈ l,T.Has p)(a1:∃p ∈ l,p.g=T.dB)(a2:∃p ∈ l,p.g=T.dK)(b1:∃p ∈ l,p.y=T.di)(b2:∃p ∈ l,p.y=T.dE)
    (c1:∃p ∈ l,p.t=T.gK) (c2:∃p ∈ l,p.t=T.gJ) (d1:∃p ∈ l,p.w=T.wlo) (d2:∃p ∈ l,p.w=T.whi):fC l=T:=by
 have e (f:Pt->Int) (lo hi:Int) (h1:∃p ∈ l,f p=lo) (h2:∃p ∈ l,f p=hi) (h3:∀p ∈ l,lo<=f p/\f p<=hi):fH (l.map f)=(lo,hi):=by
  refine akB (List.mem_map.2 h1) (List.mem_map.2 h2) fun x hx=>?_
  obtain⟨p,hp,rfl⟩:=List.mem_map.1 hx
  exact h3 p hp
 have e1:=e (·.g) T.dB T.dK a1 a2 fun p hp=>(h p hp).g
 have e2:=e (·.y) T.di T.dE b1 b2 fun p hp=>(h p hp).y
 have e3:=e (·.t) T.gK T.gJ c1 c2 fun p hp=>(h p hp).t
 have e4:=e (·.w) T.wlo T.whi d1 d2 fun p hp=>(h p hp).w
 unfold fC
 rw[e1,e2,e3,e4]
theorem dF {s:St}{f:Pt->Pt}(a b c d:Bool){r:Pt->Int}{v:Int}(h:r (f ⟨endOf s.dB s.dK a,endOf s.di s.dE b,endOf s.gK s.gJ c,endOf s.wlo s.whi d⟩)=v):∃p ∈ (aT s).map f,r p=v :=
 ⟨_,List.mem_map.2 ⟨_,pz s a b c d,rfl⟩,h⟩
theorem Tj {a b:Int} : min a b=a\/min a b=b:=by omega
theorem Ti {a b:Int} : max a b=a\/max a b=b:=by omega
theorem aa7 {c:d_}{s:St}{l:Pt}(hc:c.Ok)(hs:s.Ok)(hl:l.MK) :
    (∀p ∈ aT s,(bD c p l).ok=true)↔(s.dK+l.g<=1000000/\s.dE+l.y<=1000000/\s.whi+l.w<=1000000000):=by
 constructor
 . intro h
   have:=Pt.fZ.1 (h _ (pz s true true true true))
   exact⟨this.g.2,this.y.2,this.w.2⟩
 . intro h p hp
   exact Pt.fZ.2 ((U9 hc hs ⟨hl.g.1,hl.y.1⟩ (iZ hs hp)).ok (age hc hs ⟨hl.g.1,hl.y.1,hl.w.1,hl.t.1,hl.t.2⟩ h))
theorem ajg {c:d_}{s:St}{l:Pt}(hc:c.Ok)(hs:s.Ok)(hl:l.MK):fC ((aT s).map fun p=>bD c p l)=adp c s l:=by
 refine Uz ?_ (dF false false false false rfl) (dF true true true true rfl) (dF false false false false rfl) (dF true true true true rfl) ?_ ?_ (dF false false false false rfl) (dF true true true true rfl)
 . intro q hq
   obtain⟨p,hp,rfl⟩:=List.mem_map.1 hq
   exact U9 hc hs ⟨hl.g.1,hl.y.1⟩ (iZ hs hp)
 . rcases Tj (a:=lu (pF c s.low) s.gK (pF c l) l.t) (b:=lu (pF c s.high) s.gK (pF c l) l.t) with e|e
   . exact dF false false false false e.symm
   . exact dF true true false false e.symm
 . rcases Ti (a:=lu (pF c s.low) s.gJ (pF c l) l.t) (b:=lu (pF c s.high) s.gJ (pF c l) l.t) with e|e
   . exact dF false false true false e.symm
   . exact dF true true true false e.symm
theorem Xw {s:St}{m:Int}(hs:s.Ok):(∀p ∈ aT s,m<=p.g+p.y)↔m<=s.dB+s.di:=by
 constructor
 . intro h
   exact h _ (pz s false false false false)
 . intro h p hp
   have:=iZ hs hp
   have:=this.g;have:=‹s.Has p›.y
   omega
theorem agr {s:St}{m:Int}(hs:s.Ok)(hm:0<=m)(h:m<=s.dB+s.di):fC ((aT s).map fun p=>left p m)=Ha s m:=by
 refine Uz ?_ (dF false false false false rfl) (dF true true true true rfl) (dF false false false false rfl) (dF true true true true rfl) (dF false false false false rfl) (dF true true true true rfl) (dF false false false false rfl) (dF true true true true rfl)
 intro q hq
 obtain⟨p,hp,rfl⟩:=List.mem_map.1 hq
 exact(He hs hm h (iZ hs hp)).1
def Out.st (o:Out):St:=⟨o.dB,o.dK,o.di,o.dE,0,0,o.wlo,o.whi⟩
theorem ajQ {s:St}{m:Int}(hs:s.Ok)(hm:0<=m)(h:m<=s.dB+s.di):fC ((aT s).map fun p=>out p m)=(Zv s m).st:=by
 refine Uz ?_ (dF false true true true rfl) (dF true false true true rfl) (dF true false true true rfl) (dF false true true true rfl) (dF false false false false rfl) (dF true true true true rfl) (dF true true false false rfl) (dF false false true true rfl)
 intro q hq
 obtain⟨p,hp,rfl⟩:=List.mem_map.1 hq
 have:=(He hs hm h (iZ hs hp)).2
 exact⟨this.g,this.y,⟨by have:=this.t;simp only[Out.st];omega,by have:=this.t;simp only[Out.st];omega⟩,this.w⟩
theorem Ye {c:d_}{s:St}{a b x y:Int}(hc:c.Ok)(hs:s.Ok)(h:0<=a/\a<=b/\b<=1000)(k:0<=x/\x<=y) :
    (∀p ∈ aT s,((rest c p a x).ok && (rest c p b y).ok)=true)↔s.whi+y<=1000000000:=by
 constructor
 . intro g
   have:=g _ (pz s true true true true)
   rw[Bool.and_eq_true] at this
   exact(Pt.fZ.1 this.2).w.2
 . intro g p hp
   have e:=acv hc hs h k g
   rw[Bool.and_eq_true]
   exact⟨Pt.fZ.2 ((CB hc h (iZ hs hp) ⟨Int.le_refl _,h.2.1⟩ ⟨Int.le_refl _,k.2⟩).ok e),Pt.fZ.2 ((CB hc h (iZ hs hp) ⟨h.2.1,Int.le_refl _⟩ ⟨k.2,Int.le_refl _⟩).ok e)⟩
theorem lZ {s:St}{f g:Pt->Pt}(a b c d:Bool){r:Pt->Int}{v:Int}(h:r (f ⟨endOf s.dB s.dK a,endOf s.di s.dE b,endOf s.gK s.gJ c,endOf s.wlo s.whi d⟩)=v\/r (g ⟨endOf s.dB s.dK a,endOf s.di s.dE b,endOf s.gK s.gJ c,endOf s.wlo s.whi d⟩)=v) :
    ∃p ∈ (aT s).flatMap fun p=>[f p,g p],r p=v:=by
 rcases h with h|h
 . exact⟨_,List.mem_flatMap.2 ⟨_,pz s a b c d,List.Mem.head _⟩,h⟩
 . exact⟨_,List.mem_flatMap.2 ⟨_,pz s a b c d,List.Mem.tail _ (List.Mem.head _)⟩,h⟩
theorem ahx {c:d_}{s:St}{a b x y:Int}(hc:c.Ok)(hs:s.Ok)(h:0<=a/\a<=b/\b<=1000)(k:0<=x/\x<=y) :
    fC ((aT s).flatMap fun p=>[rest c p a x,rest c p b y])=TQ c s a b x y:=by
 refine Uz ?_ (lZ false false false false (.inl rfl)) (lZ true true true true (.inl rfl)) (lZ false false false false (.inl rfl)) (lZ true true true true (.inl rfl)) (lZ false false false false ?_) (lZ true true true true ?_) (lZ false false false false (.inl rfl)) (lZ true true true true (.inr rfl))
 . intro q hq
   obtain⟨p,hp,hq⟩:=List.mem_flatMap.1 hq
   simp only[List.mem_cons,List.not_mem_nil,or_false] at hq
   rcases hq with rfl|rfl
   . exact CB hc h (iZ hs hp) ⟨Int.le_refl _,h.2.1⟩ ⟨Int.le_refl _,k.2⟩
   . exact CB hc h (iZ hs hp) ⟨h.2.1,Int.le_refl _⟩ ⟨k.2,Int.le_refl _⟩
 . rcases Tj (a:=near c.bu s.gK a) (b:=near c.bu s.gK b) with e|e
   . exact .inl e.symm
   . exact .inr e.symm
 . rcases Ti (a:=near c.bu s.gJ a) (b:=near c.bu s.gJ b) with e|e
   . exact .inl e.symm
   . exact .inr e.symm
def Op.Fit (o:Op):Prop:=(o.kind=1/\o.lot.MK)\/(o.kind=2/\0<=o.ay/\o.ay<=100000000)\/(o.kind=3/\(0<=o.lY/\o.lY<=o.lX/\o.lX<=1000)/\(0<=o.wlo/\o.wlo<=o.whi/\o.whi<=1000000))
theorem Op.Is.fit {o:Op}(h:o.Is):o.Fit:=by
 cases h with
 | bD p h=>exact .inl ⟨rfl,h.wide⟩
 | CP m h=>exact .inr (.inl ⟨rfl,h.1,by show m<=_;omega⟩)
 | rest a b x y h k=>exact .inr (.inr ⟨rfl,h,k⟩)
