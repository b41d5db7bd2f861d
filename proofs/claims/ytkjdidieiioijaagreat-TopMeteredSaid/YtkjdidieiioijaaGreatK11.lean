/- Walks. -/
import Derived.Test.YtkjdidieiioijaaGreatK09
set_option linter.all false
set_option maxRecDepth 100000
set_option maxHeartbeats 16000000
namespace Go.Proofs.YtkjdidieiioijaaGreat.G
open Go.RowKit Go.Sd bz
attribute [local go_sem] Oper.semAt_some
def aev (B b1 b2:Nat)(m:Int)(pre:List Pt)(W:World):Prop :=
 (∃v u,Fv B b1 W v (pre.map fun p=>left p m)/\Fv B b2 W u (pre.map fun p=>bz.out p m)/\∀i j,i<4->j<4->∀b,(v i).ownBlock=some b->(u j).ownBlock≠some b)/\∀q ∈ pre,m<=q.g+q.y
theorem aev.kept {B b1 b2:Nat}{m:Int}{pre:List Pt}{W W':World}{S:Nat->Prop}(h:aev B b1 b2 m pre W)(hk:Kept S W W')(h1:S b1)(h2:S b2)(ho:∀b,B<=b->S b):aev B b1 b2 m pre W':=by
 obtain⟨⟨v,u,hv,hu,hd⟩,h3⟩:=h
 exact⟨⟨v,u,hv.kept hk h1 fun k hk' b e=>ho b ((hv.own k hk').lt b e).1,hu.kept hk h2 fun k hk' b e=>ho b ((hu.own k hk').lt b e).1,hd⟩,h3⟩
theorem iL {w:World}{n b o:Nat}{v b0 b1 b2 b3 b4 b5 b6 b7:Value}(h:w.cell? ⟨b,o,none⟩=some v)(hne:n≠b):((((((((w.setCell ⟨n,0,none⟩ b0).setCell ⟨n,1,none⟩ b1).setCell ⟨n,2,none⟩ b2).setCell ⟨n,3,none⟩ b3).setCell ⟨n,4,none⟩ b4).setCell ⟨n,5,none⟩ b5).setCell ⟨n,6,none⟩ b6).setCell ⟨n,7,none⟩ b7).cell? ⟨b,o,none⟩=some v :=
 (World.cell?_of_block (a:=⟨b,o,none⟩) (gy b0 b1 b2 b3 b4 b5 b6 b7 (Ne.symm hne))).trans h
theorem iK {w:World}{n b o:Nat}{v b0 b1 b2 b3 b4 b5:Value}(h:w.cell? ⟨b,o,none⟩=some v)(hne:n≠b):((((((w.setCell ⟨n,0,none⟩ b0).setCell ⟨n,1,none⟩ b1).setCell ⟨n,2,none⟩ b2).setCell ⟨n,3,none⟩ b3).setCell ⟨n,4,none⟩ b4).setCell ⟨n,5,none⟩ b5).cell? ⟨b,o,none⟩=some v :=
 (World.cell?_of_block (a:=⟨b,o,none⟩) (gu b0 b1 b2 b3 b4 b5 (Ne.symm hne))).trans h
theorem Py {w W:World}{a b:Obj}(h:(w.alloc a).alloc b=W):W.heap[w.heap.size]? = some a/\W.heap[w.heap.size+1]? = some b/\W.heap.size=w.heap.size+2/\Below w.heap.size w W:=by
 subst h
 have e1:=World.alloc_heap_new (w.alloc a) b
 simp only[World.size_alloc] at e1
 exact⟨(Below.heap_alloc _ _ _ (by simp)).trans (World.alloc_heap_new w a),e1,by simp,((Below.refl _ _).alloc (Nat.le_refl _) _).alloc (by simp) _⟩
theorem FX (c:d_)(s:St)(o:bz.Op)(w:World)(hs:s.Ok)(hm:0<=o.ay/\o.ay<=100000000) :
    Calls Tryz.prog 131 #[gm c,jF s,Ll o] w (Um (∀p ∈ aT s,o.ay<=p.g+p.y) (.tuple #[jF (fC ((aT s).map (fun p=>left p o.ay))),l9 ⟨(fC ((aT s).map (fun p=>bz.out p o.ay))).dB,(fC ((aT s).map (fun p=>bz.out p o.ay))).dK,(fC ((aT s).map (fun p=>bz.out p o.ay))).di,(fC ((aT s).map (fun p=>bz.out p o.ay))).dE,(fC ((aT s).map (fun p=>bz.out p o.ay))).wlo,(fC ((aT s).map (fun p=>bz.out p o.ay))).whi⟩]) w):=by
 obtain⟨X1,hX1⟩:=aG (w.alloc (.cells #[.int .i64 c.jm,.int .i64 c.jG,.int .i64 c.least,.int .i64 c.most,.int .i64 c.f0,.int .i64 c.f1,.int .i64 c.h0,.int .i64 c.h1,.int .i64 c.bu,.int .i64 c.mJ,.int .i64 c.phi] 96))
 obtain⟨fD,bX0,sX0⟩:=boxed hX1
 have acC:w.heap.size<X1.heap.size:=by omega
 obtain⟨uJ,uK,uM,uN,uO,uP,uQ,uS,uT,uU,qc⟩:=bJ fD
 obtain⟨X2,hX2⟩:=aG (X1.alloc (.cells #[.int .i64 s.dB,.int .i64 s.dK,.int .i64 s.di,.int .i64 s.dE,.int .i64 s.gK,.int .i64 s.gJ,.int .i64 s.wlo,.int .i64 s.whi] 40))
 obtain⟨gz,Us,sX1⟩:=boxed hX2
 have acD:w.heap.size<X2.heap.size:=by omega
 replace fD:=(Us.block _ (aF fD)).trans fD
 obtain⟨uV,uX,uY,uZ,u_,ve,vg,vk,vw,vz,qf⟩:=bJ fD
 have acE:X1.heap.size<X2.heap.size:=by omega
 obtain⟨vC,vF,vG,vH,vI,vJ,vK,vM⟩:=rc8 gz
 obtain⟨X3,lK⟩:=aG (X2.alloc (.cells #[.int .i64 o.kind,.int .i64 o.lg,.int .i64 o.ly,.int .i64 o.lt,.int .i64 o.lw,.int .i64 o.ay,.int .i64 o.lY,.int .i64 o.lX,.int .i64 o.wlo,.int .i64 o.whi] 43))
 obtain⟨iG,bX2,sX2⟩:=boxed lK
 have acF:w.heap.size<X3.heap.size:=by omega
 replace fD:=(bX2.block _ (aF fD)).trans fD
 obtain⟨vN,vO,vP,vS,vT,vU,vV,vW,vX,vY,qg⟩:=bJ fD
 have acG:X1.heap.size<X3.heap.size:=by omega
 replace gz:=(bX2.block _ (aF gz)).trans gz
 obtain⟨vZ,v_,wo,wu,wz,wB,wC,wE⟩:=rc8 gz
 have acH:X2.heap.size<X3.heap.size:=by omega
 obtain⟨wF,wG,wH,wI,wJ,wL,wM,wO,wP,wQ⟩:=gB iG
 obtain⟨X4,Ah⟩:=aG (X3.alloc (.cells #[.int .i64 0,.int .i64 0,.int .i64 0,.int .i64 0,.int .i64 0,.int .i64 0,.int .i64 0,.int .i64 0] 40))
 obtain⟨lD,GU,sX3⟩:=boxed Ah
 have acI:w.heap.size<X4.heap.size:=by omega
 replace fD:=(GU.block _ (aF fD)).trans fD
 obtain⟨wR,wS,wU,wV,wW,wX,wY,wZ,w_,xe,qh⟩:=bJ fD
 have acJ:X1.heap.size<X4.heap.size:=by omega
 replace gz:=(GU.block _ (aF gz)).trans gz
 obtain⟨xh,xk,xm,xn,xq,xu,xw,xx⟩:=rc8 gz
 have acK:X2.heap.size<X4.heap.size:=by omega
 replace iG:=(GU.block _ (aF iG)).trans iG
 obtain⟨xy,xA,xB,xC,xE,xG,xH,xI,xJ,xK⟩:=gB iG
 have acL:X3.heap.size<X4.heap.size:=by omega
 obtain⟨xM,xN,xO,xP,xQ,xR,xU,xW⟩:=rc8 lD
 obtain⟨X5,oK⟩:=aG (X4.alloc (.cells #[.int .i64 0,.int .i64 0,.int .i64 0,.int .i64 0,.int .i64 0,.int .i64 0] 56))
 obtain⟨oL,CW,sX4⟩:=boxed oK
 have alB:w.heap.size<X5.heap.size:=by omega
 replace fD:=(CW.block _ (aF fD)).trans fD
 obtain⟨C9,C_,Dc,Df,Dh,Di,Dj,Dl,Dn,Dp,yF⟩:=bJ fD
 have alC:X1.heap.size<X5.heap.size:=by omega
 replace gz:=(CW.block _ (aF gz)).trans gz
 obtain⟨Dq,Dt,Du,Dv,Dw,Dx,Dy,Dz⟩:=rc8 gz
 have alD:X2.heap.size<X5.heap.size:=by omega
 replace iG:=(CW.block _ (aF iG)).trans iG
 obtain⟨DD,DF,DI,DJ,DK,DL,DN,DR,DT,DU⟩:=gB iG
 have alE:X3.heap.size<X5.heap.size:=by omega
 replace lD:=(CW.block _ (aF lD)).trans lD
 obtain⟨DV,DW,DX,DY,DZ,D5,D7,D8⟩:=rc8 lD
 have alF:X4.heap.size<X5.heap.size:=by omega
 obtain⟨D9,D_,Ea,Eb,Ec,Ed⟩:=Ru oL
 obtain⟨X6,Jq⟩:=aG (X5.alloc (.cells #[.slice none 0 0,.slice none 0 0,.slice none 0 0,.slice none 0 0] 273))
 obtain⟨FD,PU,sX5⟩:=boxed Jq
 have alG:w.heap.size<X6.heap.size:=by omega
 replace fD:=(PU.block _ (aF fD)).trans fD
 obtain⟨Ee,Ef,Eg,Eh,Ei,Ej,Em,En,Eo,Ep,yG⟩:=bJ fD
 have alH:X1.heap.size<X6.heap.size:=by omega
 replace gz:=(PU.block _ (aF gz)).trans gz
 obtain⟨Es,Et,Eu,Ew,Ey,Ez,EC,ED⟩:=rc8 gz
 have alI:X2.heap.size<X6.heap.size:=by omega
 replace iG:=(PU.block _ (aF iG)).trans iG
 obtain⟨EE,EF,EG,EH,EI,EJ,EK,EL,EM,EN⟩:=gB iG
 have alJ:X3.heap.size<X6.heap.size:=by omega
 replace lD:=(PU.block _ (aF lD)).trans lD
 obtain⟨EO,EP,ER,ES,ET,EU,EW,EX⟩:=rc8 lD
 have alK:X4.heap.size<X6.heap.size:=by omega
 replace oL:=(PU.block _ (aF oL)).trans oL
 obtain⟨EY,EZ,E5,E8,E_,Fa⟩:=Ru oL
 have alL:X5.heap.size<X6.heap.size:=by omega
 obtain⟨Fb,Fe,Ff,Fg⟩:=pX FD
 obtain⟨X7,hX7⟩:=aG (X6.alloc (.cells #[.slice none 0 0,.slice none 0 0,.slice none 0 0,.slice none 0 0] 273))
 obtain⟨Ry,JW,sX6⟩:=boxed hX7
 have avS:w.heap.size<X7.heap.size:=by omega
 replace fD:=(JW.block _ (aF fD)).trans fD
 obtain⟨abe,abf,abg,abh,abj,abk,abl,abm,abn,abo,Xy⟩:=bJ fD
 have avT:X1.heap.size<X7.heap.size:=by omega
 replace gz:=(JW.block _ (aF gz)).trans gz
 obtain⟨abp,abq,abr,abt,abu,abv,abw,abx⟩:=rc8 gz
 have avU:X2.heap.size<X7.heap.size:=by omega
 replace iG:=(JW.block _ (aF iG)).trans iG
 obtain⟨aby,abz,abA,abB,abC,abD,abE,abG,abH,abI⟩:=gB iG
 have avV:X3.heap.size<X7.heap.size:=by omega
 replace lD:=(JW.block _ (aF lD)).trans lD
 obtain⟨abJ,abK,abL,abM,abN,abO,abP,abQ⟩:=rc8 lD
 have avW:X4.heap.size<X7.heap.size:=by omega
 replace oL:=(JW.block _ (aF oL)).trans oL
 obtain⟨abR,abS,abT,abU,abV,abW⟩:=Ru oL
 have avX:X5.heap.size<X7.heap.size:=by omega
 replace FD:=(JW.block _ (aF FD)).trans FD
 obtain⟨abX,abY,abZ,ab1⟩:=pX FD
 have avY:X6.heap.size<X7.heap.size:=by omega
 obtain⟨ab2,ab3,ab4,ab5⟩:=pX Ry
 obtain⟨X,hX⟩:=aG (X7.alloc (.cells #[.int .i64 s.dB,.int .i64 s.dK,.int .i64 s.di,.int .i64 s.dE,.int .i64 s.gK,.int .i64 s.gJ,.int .i64 s.wlo,.int .i64 s.whi] 40))
 obtain⟨eX7,bX7,sX7⟩:=boxed hX
 replace fD:=(bX7.block _ (aF fD)).trans fD
 replace gz:=(bX7.block _ (aF gz)).trans gz
 replace iG:=(bX7.block _ (aF iG)).trans iG
 replace lD:=(bX7.block _ (aF lD)).trans lD
 replace oL:=(bX7.block _ (aF oL)).trans oL
 replace FD:=(bX7.block _ (aF FD)).trans FD
 replace Ry:=(bX7.block _ (aF Ry)).trans Ry
 have F_:Below w.heap.size w X:=(by have:=sX0;have:=sX1;have:=sX2;have:=sX3;have:=sX4;have:=sX5;have:=sX6;have:=sX7;exact(((((((bX0.trans (Us.mono (by omega))).trans (bX2.mono (by omega))).trans (GU.mono (by omega))).trans (CW.mono (by omega))).trans (PU.mono (by omega))).trans (JW.mono (by omega))).trans (bX7.mono (by omega))))
 obtain⟨sF,rX0,tX0⟩:=ah fD
 obtain⟨BD,BF,BG,BH,BI,BJ,BK,BL,BM,BN,uq⟩:=bJ fD
 obtain⟨JY,JZ,J3,J4,J5,J6,J7,J8,J9,J_,Az⟩:=ni fD
 have EX0:=ai fD
 clear rX0 tX0 fD
 obtain⟨zX1,rX1,tX1⟩:=ah gz
 obtain⟨Lu,LC,LD,LG,LH,LJ,LK,LM⟩:=rc8 gz
 obtain⟨Ko,Kq,Kr,Kt,Ku,Kv,Kw,Ky⟩:=FP gz
 have EX1:=ai gz
 clear rX1 tX1 gz
 obtain⟨uA,rX2,tX2⟩:=ah iG
 obtain⟨BO,BP,BQ,BR,BU,BX,BZ,B_,Cb,Cc⟩:=gB iG
 obtain⟨Kz,KA,KC,KD,KE,KF,KG,KH,KI,KJ⟩:=FO iG
 have EX2:=ai iG
 clear rX2 tX2 iG
 obtain⟨zX3,rX3,tX3⟩:=ah lD
 obtain⟨LP,LQ,LU,LV,LW,LX,LY,LZ⟩:=rc8 lD
 obtain⟨KL,KN,KO,KP,KQ,KR,KT,KU⟩:=FP lD
 have EX3:=ai lD
 clear rX3 tX3 lD
 obtain⟨zX4,rX4,tX4⟩:=ah oL
 obtain⟨L6,L8,L9,L_,Mc,Md⟩:=Ru oL
 obtain⟨KW,KX,KY,KZ,K_,La⟩:=rf6 oL
 have EX4:=ai oL
 clear rX4 tX4 oL
 obtain⟨zX5,rX5,tX5⟩:=ah FD
 obtain⟨TE,TF,TG,TI⟩:=pX FD
 obtain⟨SK,SL,SN,SQ⟩:=Ak FD
 have EX5:=ai FD
 clear rX5 tX5 FD
 obtain⟨zX6,rX6,tX6⟩:=ah Ry
 obtain⟨TJ,TK,TL,TM⟩:=pX Ry
 obtain⟨SS,SV,SX,SY⟩:=Ak Ry
 have EX6:=ai Ry
 clear rX6 tX6 Ry
 obtain⟨zX7,rX7,tX7⟩:=ah eX7
 obtain⟨alp,alq,alr,als,alu,alv,alx,aly⟩:=rc8 eX7
 obtain⟨ak0,ak1,ak2,ak3,ak4,ak5,ak6,ak7⟩:=FP eX7
 have EX7:=ai eX7
 clear rX7 tX7 eX7
 have xX0:w.heap.size<=w.heap.size:=by omega
 have xX1:w.heap.size<=X1.heap.size:=by omega
 have xX2:w.heap.size<=X2.heap.size:=by omega
 have xX3:w.heap.size<=X3.heap.size:=by omega
 have xX4:w.heap.size<=X4.heap.size:=by omega
 have xX5:w.heap.size<=X5.heap.size:=by omega
 have xX6:w.heap.size<=X6.heap.size:=by omega
 have xX7:w.heap.size<=X7.heap.size:=by omega
 clear bX0 sX0 Us sX1 bX2 sX2 GU sX3 CW sX4 PU sX5 JW sX6 bX7 sX7
 refine(callsIn_wide (n:=0)).1 ?_
 refine yc Tryz.func131 rfl ?_
 simp only[Tryz.ntmps131,List.size_toArray,List.length_cons,List.length_nil,Nat.reduceAdd,Nat.reduceSub,Array.replicate_succ,Array.replicate_zero,List.push_toArray,List.append_toArray,List.nil_append,List.cons_append]
 refine jo.Jg fun K hK=>?_
 go_wp2
 refine jo.Jg fun K hK=>?_
 go_wp2
 refine jo.seq ?_
 refine jo.Jg fun K hK=>?_
 go_wp2_with (go_at_call 175;refine(Be _ _).mono ?_;rintro e w1 ⟨rfl,rfl⟩)
 refine jo.block ?_
 refine jo.ZM (S:=(fun k=>k<X.heap.size/\k≠X5.heap.size/\k≠X6.heap.size)) ⟨_,rfl⟩ rfl (fun args w=>by kernel_rfl) (sN s X _ X7.heap.size ?hcs ?hSs) (fun k h=>h.1) (fun _=>rfl)
  (aev (X.heap.size+2) X5.heap.size X6.heap.size o.ay) (fun _ _=>False) (alQ (∀p ∈ aT s,o.ay<=p.g+p.y)) ?hI ?hIx ?h0 ?pI ?hdone ?Gg ?hstop
 case hcs=>exact fun i v h=>((ah EX7.out).2.1 i).trans h
 case hSs=>exact⟨zX7,by omega,by omega⟩
 case hI=>exact fun pre X' Y h hk=>h.kept hk ⟨by omega,by omega⟩ ⟨by omega,by omega⟩ fun b hb=>⟨by omega,by omega⟩
 case hIx=>exact fun _ _ _ h _=>h
 case h0=>exact⟨⟨fun _=>.slice none 0 0,fun _=>.slice none 0 0,⟨EX5.out,fun k _=>(by unfold jw;split <;> exact bg.nil _ _),fun _ _ _ _ _ b h=>(by cases h),fun _ _ h=>(by cases h)⟩,⟨EX6.out,fun k _=>(by unfold jw;split <;> exact bg.nil _ _),fun _ _ _ _ _ b h=>(by cases h),fun _ _ h=>(by cases h)⟩,fun _ _ _ _ b h=>(by cases h)⟩,fun _ h=>(by cases h)⟩
 case hstop=>exact fun _ _ _ _ h=>h.elim
 case pI =>
  rintro l pre x W hl1 hlt hpre hKS hI
  have hx:x ∈ aT s:=hpre.subset (by simp)
  have hxo:=Ju hs hx
  have hKX:=hKS.size
  gi_wp2
  refine⟨(Kept.refl _ _).alloc _,?_⟩
  intro W2 hk2 hs2
  rw[World.size_alloc] at hs2
  have ML:Kept (fun k=>k≠l) W W2:=((Kept.refl _ W).alloc _).trans hk2
  have fE:Kept (fun k=>k<X.heap.size/\k≠X5.heap.size/\k≠X6.heap.size) X W2:=hKS.trans (ML.mono fun k _ h=>by omega)
  have gx:W2.heap[W.heap.size]? = some (.cells #[.int .i64 x.g,.int .i64 x.y,.int .i64 x.t,.int .i64 x.w] 29):=(hk2.block _ (by rw[World.size_alloc];omega) (by omega)).trans (World.alloc_heap_new W _)
  obtain⟨⟨v,u,hv0,hu0,hvu⟩,hpo⟩:=hI
  have MO:∀j,j<4->∀b,(v j).ownBlock=some b->X.heap.size+2<=b/\b<W.heap.size:=fun j hj b h=>(hv0.own j hj).lt b h
  have Zl:∀j,j<4->∀b,(u j).ownBlock=some b->X.heap.size+2<=b/\b<W.heap.size:=fun j hj b h=>(hu0.own j hj).lt b h
  have hv:Fv (X.heap.size+2) X5.heap.size W2 v (pre.map (fun p=>left p o.ay)):=hv0.kept ML (by omega) fun j hj b h=>by have:=MO j hj b h;omega
  have hu:Fv (X.heap.size+2) X6.heap.size W2 u (pre.map (fun p=>bz.out p o.ay)):=hu0.kept ML (by omega) fun j hj b h=>by have:=Zl j hj b h;omega
  have hlen:pre.length<=16:=by have:=hpre.length_le;simp[aT,iE] at this;omega
  obtain⟨zx,dx,-⟩:=ah gx
  clear ML hk2 hv0 hu0 gx
  have x0:=dx 0
  have x1:=dx 1
  have x2:=dx 2
  have x3:=dx 3
  simp only[List.getElem?_toArray,List.getElem?_cons_zero,List.getElem?_cons_succ] at x0 x1 x2 x3
  clear dx
  have aiI:=fE.cell (b:=w.heap.size) ⟨sF,by omega,by omega⟩ BD
  have aiJ:=fE.cell (b:=w.heap.size) ⟨sF,by omega,by omega⟩ BF
  have aiK:=fE.cell (b:=w.heap.size) ⟨sF,by omega,by omega⟩ BG
  have aiL:=fE.cell (b:=w.heap.size) ⟨sF,by omega,by omega⟩ BH
  have aiM:=fE.cell (b:=w.heap.size) ⟨sF,by omega,by omega⟩ BI
  have aiN:=fE.cell (b:=w.heap.size) ⟨sF,by omega,by omega⟩ BJ
  have aiO:=fE.cell (b:=w.heap.size) ⟨sF,by omega,by omega⟩ BK
  have aiP:=fE.cell (b:=w.heap.size) ⟨sF,by omega,by omega⟩ BL
  have aiQ:=fE.cell (b:=w.heap.size) ⟨sF,by omega,by omega⟩ BM
  have aiR:=fE.cell (b:=w.heap.size) ⟨sF,by omega,by omega⟩ BN
  have aaV:=fE.cell (b:=w.heap.size) ⟨sF,by omega,by omega⟩ uq
  have aiS:=fE.cell (b:=X2.heap.size) ⟨uA,by omega,by omega⟩ BO
  have aiT:=fE.cell (b:=X2.heap.size) ⟨uA,by omega,by omega⟩ BP
  have aiU:=fE.cell (b:=X2.heap.size) ⟨uA,by omega,by omega⟩ BQ
  have aiV:=fE.cell (b:=X2.heap.size) ⟨uA,by omega,by omega⟩ BR
  have aiW:=fE.cell (b:=X2.heap.size) ⟨uA,by omega,by omega⟩ BU
  have aiX:=fE.cell (b:=X2.heap.size) ⟨uA,by omega,by omega⟩ BX
  have aiY:=fE.cell (b:=X2.heap.size) ⟨uA,by omega,by omega⟩ BZ
  have aiZ:=fE.cell (b:=X2.heap.size) ⟨uA,by omega,by omega⟩ B_
  have ai0:=fE.cell (b:=X2.heap.size) ⟨uA,by omega,by omega⟩ Cb
  have ai1:=fE.cell (b:=X2.heap.size) ⟨uA,by omega,by omega⟩ Cc
  clear uJ uK uM uN uO uP uQ uS uT uU qc uV uX uY uZ u_ ve vg vk vw vz qf vC vF vG vH vI vJ vK vM vN vO vP vS vT vU vV vW vX vY qg vZ v_ wo wu wz wB wC wE wF wG wH wI wJ wL wM wO wP wQ wR wS wU wV wW wX wY wZ w_ xe qh xh xk xm xn xq xu xw xx xy xA xB xC xE xG xH xI xJ xK xM xN xO xP xQ xR xU xW C9 C_ Dc Df Dh Di Dj Dl Dn Dp yF Dq Dt Du Dv Dw Dx Dy Dz DD DF DI DJ DK DL DN DR DT DU DV DW DX DY DZ D5 D7 D8 D9 D_ Ea Eb Ec Ed Ee Ef Eg Eh Ei Ej Em En Eo Ep yG Es Et Eu Ew Ey Ez EC ED EE EF EG EH EI EJ EK EL EM EN EO EP ER ES ET EU EW EX EY EZ E5 E8 E_ Fa Fb Fe Ff Fg abe abf abg abh abj abk abl abm abn abo Xy abp abq abr abt abu abv abw abx aby abz abA abB abC abD abE abG abH abI abJ abK abL abM abN abO abP abQ abR abS abT abU abV abW abX abY abZ ab1 ab2 ab3 ab4 ab5 BD BF BG BH BI BJ BK BL BM BN uq JY JZ J3 J4 J5 J6 J7 J8 J9 J_ Az Lu LC LD LG LH LJ LK LM Ko Kq Kr Kt Ku Kv Kw Ky BO BP BQ BR BU BX BZ B_ Cb Cc Kz KA KC KD KE KF KG KH KI KJ LP LQ LU LV LW LX LY LZ KL KN KO KP KQ KR KT KU L6 L8 L9 L_ Mc Md KW KX KY KZ K_ La TE TF TG TI SK SL SN SQ TJ TK TL TM SS SV SX SY alp alq alr als alu alv alx aly ak0 ak1 ak2 ak3 ak4 ak5 ak6 ak7 hX1 hX2 lK Ah oK Jq hX7 hX
  by_cases hok:o.ay<=x.g+x.y
  . have hC:=ai (FW c x o.ay W2 hxo hm hok)
    replace hok:=ai hok
    gi_wp2
    refine⟨trivial,rfl,(CallsIn.inRound _ (callsIn_wide.2 hC.out)).mono ?_⟩
    rintro e W3 ⟨rfl,hB3⟩
    have hs3:=hB3.size
    obtain⟨W4,UQ⟩:=aG ((W3.alloc (.cells #[.int .i64 (left x o.ay).g,.int .i64 (left x o.ay).y,.int .i64 (left x o.ay).t,.int .i64 (left x o.ay).w] 29)).alloc (.cells #[.int .i64 (bz.out x o.ay).g,.int .i64 (bz.out x o.ay).y,.int .i64 (bz.out x o.ay).t,.int .i64 (bz.out x o.ay).w] 29))
    obtain⟨e4',e4,aja,asI⟩:=Py UQ
    have hB4:Below W2.heap.size W2 W4:=hB3.trans (asI.mono hB3.size)
    obtain⟨zl,dl,-⟩:=ah e4'
    have l0:=dl 0
    have l1:=dl 1
    have l2:=dl 2
    have l3:=dl 3
    simp only[List.getElem?_toArray,List.getElem?_cons_zero,List.getElem?_cons_succ] at l0 l1 l2 l3
    clear dl hC e4'
    replace e4:=ai e4
    have hv4:=hv.kept (S:=fun _=>True) (.all hB4) trivial fun _ _ _ _=>trivial
    have hu4:=hu.kept (S:=fun _=>True) (.all hB4) trivial fun _ _ _ _=>trivial
    have hP:=ai (I_ (left x o.ay) W4 hv4 (by omega) (by simp;omega))
    clear hv hu
    replace aja:=ai aja
    gi_wp2
    refine⟨trivial,rfl,(CallsIn.inRound _ (callsIn_wide.2 hP.out)).mono ?_⟩
    rintro e W5 ⟨rfl,v1,hv5,ai9,hk5⟩
    have hs5:=hk5.size
    have h43:=aja.out
    have e5:=(hk5.block (W3.heap.size+1) (by omega) ⟨by omega,fun j hj e=>by have:=MO j hj _ e;omega⟩).trans e4.out
    have hu5:=hu4.kept hk5 ⟨by omega,fun j hj e=>by have:=MO j hj _ e;omega⟩ fun k hk b e=>⟨by have:=Zl k hk b e;omega,fun j hj e2=>hvu j k hj hk b e2 e⟩
    have hP2:=ai (I_ (bz.out x o.ay) W5 hu5 (by omega) (by simp;omega))
    obtain⟨zl5,dl5,-⟩:=ah e5
    have n0:=dl5 0
    have n1:=dl5 1
    have n2:=dl5 2
    have n3:=dl5 3
    simp only[List.getElem?_toArray,List.getElem?_cons_zero,List.getElem?_cons_succ] at n0 n1 n2 n3
    clear dl5 e5 h43 hu4 hv4 hP l0 l1 l2 l3
    gi_wp2
    refine⟨trivial,rfl,(CallsIn.inRound _ (callsIn_wide.2 hP2.out)).mono ?_⟩
    rintro e W6 ⟨rfl,u1,hu6,alb,hk6⟩
    have h43:=aja.out
    have hv1:∀i,i<4->∀b,(v1 i).ownBlock=some b->(v i).ownBlock=some b\/(W4.heap.size<=b/\b<W5.heap.size):=fun i hi b e=>by
     rcases ai9 i hi with h|⟨m,hm',h⟩
     . exact .inl (h ▸ e)
     . rw[h] at e;have:m=b:=by simpa using e
       subst this;exact .inr ⟨hm',((hv5.own i hi).lt m h).2⟩
    have hu1:∀i,i<4->∀b,(u1 i).ownBlock=some b->(u i).ownBlock=some b\/W5.heap.size<=b:=fun i hi b e=>by
     rcases alb i hi with h|⟨m,hm',h⟩
     . exact .inl (h ▸ e)
     . rw[h] at e;have:m=b:=by simpa using e
       subst this;exact .inr hm'
    have hv6:=hv5.kept hk6 ⟨by omega,fun j hj e=>by have:=Zl j hj _ e;omega⟩ fun k hk b e=>⟨by have:=((hv5.own k hk).lt b e).1;omega,fun j hj e2=>by
     rcases hv1 k hk b e with h|h
     . exact hvu k j hk hj b h e2
     . have:=Zl j hj b e2;omega⟩
    have apV:∀i j,i<4->j<4->∀b,(v1 i).ownBlock=some b->(u1 j).ownBlock≠some b:=fun i j hi hj b e e2=>by
     rcases hv1 i hi b e with h|h
     . rcases hu1 j hj b e2 with h2|h2
       . exact hvu i j hi hj b h h2
       . have:=MO i hi b h;omega
     . rcases hu1 j hj b e2 with h2|h2
       . have:=Zl j hj b h2;omega
       . omega
    have amE:Kept (fun k=>(k<X.heap.size/\k≠X5.heap.size/\k≠X6.heap.size)\/k=X.heap.size\/k=X.heap.size+1) W2 W6:=((Kept.all hB4).trans (hk5.mono fun k _ h=>⟨by omega,fun j hj e=>by have:=MO j hj k e;omega⟩)).trans (hk6.mono fun k _ h=>⟨by omega,fun j hj e=>by have:=Zl j hj k e;omega⟩)
    have hR:aev (X.heap.size+2) X5.heap.size X6.heap.size o.ay (pre ++ [x]) W6:=⟨⟨v1,u1,by rw[List.map_append];exact hv6,by rw[List.map_append];exact hu6,apV⟩,fun q hq=>by
     rcases List.mem_append.1 hq with h|h
     . exact hpo q h
     . have:q=x:=by simpa using h
       rw[this];exact hok.out⟩
    clear hP2 hv6 hpo hu6 hk6 hk5 hv5 hu5 ai9 alb hv1 hu1 apV hvu MO Zl h43
    gi_wp2
    exact⟨amE,hR⟩
  . have hC:=ai (FV c x o.ay W2 hxo hm (by omega))
    replace hok:=ai hok
    clear hv hu
    gi_wp2
    refine⟨trivial,rfl,(CallsIn.inRound _ (callsIn_wide.2 hC.out)).mono ?_⟩
    rintro e W3 ⟨str,rfl,hB3⟩
    exact⟨rfl,.all hB3,fun h=>(by have:=h x hx;have:=hok.out;omega),str,rfl⟩
 case Gg =>
  rintro D ch W hD ⟨hno,str,rfl⟩ hk hd
  exact pJ (by simp) hd (.inr ⟨hno,str,rfl,F_.trans ((hk.below (B:=w.heap.size) (by omega) fun k hk'=>⟨by omega,by omega,by omega⟩).trans (dZ (Below.refl _ _) (by omega) _))⟩)
 case hdone =>
  rintro D W hD ⟨⟨v,u,hv,hu,hvu⟩,hall⟩ hk hd
  have hSt:=ai (rP W hu)
  have hSb:=ai (fun W2 (hb:Below W.heap.size W W2)=>rP W2 (hv.kept (S:=fun _=>True) (.all hb) trivial fun _ _ _ _=>trivial))
  have h3:=(hk.block _ zX3 ⟨zX3,by omega,by omega⟩).trans EX3.out
  have h4:=(hk.block _ zX4 ⟨zX4,by omega,by omega⟩).trans EX4.out
  have hXW:Below w.heap.size w W:=F_.trans (hk.below (B:=w.heap.size) (by omega) fun k hk'=>⟨by omega,by omega,by omega⟩)
  have hWX:=hk.size
  have hDW:=(aF hd)
  have UM:∀W2:World,Below W.heap.size W W2->W2.heap[X3.heap.size]? = some (.cells #[.int .i64 0,.int .i64 0,.int .i64 0,.int .i64 0,.int .i64 0,.int .i64 0,.int .i64 0,.int .i64 0] 40 (0,0))/\W2.heap[X4.heap.size]? = some (.cells #[.int .i64 0,.int .i64 0,.int .i64 0,.int .i64 0,.int .i64 0,.int .i64 0] 56 (0,0))/\W2.heap[D]? = some (.deferred (some [])):=fun W2 hb=>⟨(hb.block _ (aF h3)).trans h3,(hb.block _ (aF h4)).trans h4,(hb.block _ hDW).trans hd⟩
  clear h3 h4 hd hv hu hvu
  refine(?_:jo _ _ _ _ _ _)
  refine jo.of_wp ?_
  clear uJ uK uM uN uO uP uQ uS uT uU qc uV uX uY uZ u_ ve vg vk vw vz qf vC vF vG vH vI vJ vK vM vN vO vP vS vT vU vV vW vX vY qg vZ v_ wo wu wz wB wC wE wF wG wH wI wJ wL wM wO wP wQ wR wS wU wV wW wX wY wZ w_ xe qh xh xk xm xn xq xu xw xx xy xA xB xC xE xG xH xI xJ xK xM xN xO xP xQ xR xU xW C9 C_ Dc Df Dh Di Dj Dl Dn Dp yF Dq Dt Du Dv Dw Dx Dy Dz DD DF DI DJ DK DL DN DR DT DU DV DW DX DY DZ D5 D7 D8 D9 D_ Ea Eb Ec Ed Ee Ef Eg Eh Ei Ej Em En Eo Ep yG Es Et Eu Ew Ey Ez EC ED EE EF EG EH EI EJ EK EL EM EN EO EP ER ES ET EU EW EX EY EZ E5 E8 E_ Fa Fb Fe Ff Fg abe abf abg abh abj abk abl abm abn abo Xy abp abq abr abt abu abv abw abx aby abz abA abB abC abD abE abG abH abI abJ abK abL abM abN abO abP abQ abR abS abT abU abV abW abX abY abZ ab1 ab2 ab3 ab4 ab5 BD BF BG BH BI BJ BK BL BM BN uq JY JZ J3 J4 J5 J6 J7 J8 J9 J_ Az Lu LC LD LG LH LJ LK LM Ko Kq Kr Kt Ku Kv Kw Ky BO BP BQ BR BU BX BZ B_ Cb Cc Kz KA KC KD KE KF KG KH KI KJ LP LQ LU LV LW LX LY LZ KL KN KO KP KQ KR KT KU L6 L8 L9 L_ Mc Md KW KX KY KZ K_ La TE TF TG TI SK SL SN SQ TJ TK TL TM SS SV SX SY alp alq alr als alu alv alx aly ak0 ak1 ak2 ak3 ak4 ak5 ak6 ak7 hX1 hX2 lK Ah oK Jq hX7 hX
  replace UM:=ai UM
  obtain⟨xs,hxs⟩:=aG ((fC ((aT s).map fun p=>bz.out p o.ay)))
  rw[hxs] at hSt
  replace hxs:=ai hxs
  obtain⟨x0,x1,x2,x3,x4,x5,x6,x7⟩:=xs
  go_wp2_with (go_at_call 177;(with_reducible refine ax hSt.out ?_);rintro e W2 ⟨rfl,hB2⟩)
  obtain⟨V,hV⟩:=aG (W2.alloc (.cells #[.int .i64 x0,.int .i64 x1,.int .i64 x2,.int .i64 x3,.int .i64 x4,.int .i64 x5,.int .i64 x6,.int .i64 x7] 40))
  obtain⟨pV,PT,sV0⟩:=boxed hV
  have F9:Below W2.heap.size W2 V:=PT
  obtain⟨zV0,ZL,Z7⟩:=ah pV
  obtain⟨Jb,Jc,Jd,Je,aln,alo,ag4,ag5⟩:=rc8 pV
  clear ZL Z7 pV
  have xV0:W2.heap.size<=W2.heap.size:=by omega
  clear PT sV0
  rw[hV]
  clear hV
  have afS:Below W.heap.size W V.drew:=(hB2.trans (F9.mono hB2.size)).drew
  have hs2:=hB2.size
  have u3:X3.heap.size≠W2.heap.size:=by omega
  have u4:X4.heap.size≠W2.heap.size:=by omega
  have Xk:((fun w'=>w'.cell? ⟨W2.heap.size,0,none⟩=some (.int .i64 x0)/\w'.cell? ⟨W2.heap.size,1,none⟩=some (.int .i64 x1)/\w'.cell? ⟨W2.heap.size,2,none⟩=some (.int .i64 x2)/\w'.cell? ⟨W2.heap.size,3,none⟩=some (.int .i64 x3)/\w'.cell? ⟨W2.heap.size,6,none⟩=some (.int .i64 x6)/\w'.cell? ⟨W2.heap.size,7,none⟩=some (.int .i64 x7))) V.drew:=⟨Jb,Jc,Jd,Je,ag4,ag5⟩
  dsimp only at Xk
  replace UM:=UM.out
  refine wp_region_noPanic ?_
  refine wp_region_held_drew (S:=(fun w'=>w'.cell? ⟨W2.heap.size,0,none⟩=some (.int .i64 x0)/\w'.cell? ⟨W2.heap.size,1,none⟩=some (.int .i64 x1)/\w'.cell? ⟨W2.heap.size,2,none⟩=some (.int .i64 x2)/\w'.cell? ⟨W2.heap.size,3,none⟩=some (.int .i64 x3)/\w'.cell? ⟨W2.heap.size,6,none⟩=some (.int .i64 x6)/\w'.cell? ⟨W2.heap.size,7,none⟩=some (.int .i64 x7))) (by kernel_rfl) ?_ (fun hHeld=>?_)
  . first|((first|(with_reducible exact Xk)|(with_reducible exact⟨ae hB3 hHeld.1,ae hB3 hHeld.2.1,ae hB3 hHeld.2.2.1,ae hB3 hHeld.2.2.2.1,ae hB3 hHeld.2.2.2.2.1,ae hB3 hHeld.2.2.2.2.2⟩)|(with_reducible exact⟨iL hHeld.1 u3,iL hHeld.2.1 u3,iL hHeld.2.2.1 u3,iL hHeld.2.2.2.1 u3,iL hHeld.2.2.2.2.1 u3,iL hHeld.2.2.2.2.2 u3⟩)|(with_reducible exact⟨iK hHeld.1 u4,iK hHeld.2.1 u4,iK hHeld.2.2.1 u4,iK hHeld.2.2.2.1 u4,iK hHeld.2.2.2.2.1 u4,iK hHeld.2.2.2.2.2 u4⟩)))|(dsimp only;((first|(with_reducible exact Xk)|(with_reducible exact⟨ae hB3 hHeld.1,ae hB3 hHeld.2.1,ae hB3 hHeld.2.2.1,ae hB3 hHeld.2.2.2.1,ae hB3 hHeld.2.2.2.2.1,ae hB3 hHeld.2.2.2.2.2⟩)|(with_reducible exact⟨iL hHeld.1 u3,iL hHeld.2.1 u3,iL hHeld.2.2.1 u3,iL hHeld.2.2.2.1 u3,iL hHeld.2.2.2.2.1 u3,iL hHeld.2.2.2.2.2 u3⟩)|(with_reducible exact⟨iK hHeld.1 u4,iK hHeld.2.1 u4,iK hHeld.2.2.1 u4,iK hHeld.2.2.2.1 u4,iK hHeld.2.2.2.2.1 u4,iK hHeld.2.2.2.2.2 u4⟩))))
  refine iT 1 ?_ (by assumption) ?_ ?_
  rotate_left
  . intro w hSw;(try dsimp only at hSw);go_simp;(try with_reducible rfl)
  try simp only[aI]
  refine iT 2 ?_ (by assumption) ?_ ?_
  rotate_left
  . intro w hSw;(try dsimp only at hSw);go_simp;(try with_reducible rfl)
  try simp only[aI]
  refine iT 3 ?_ (by assumption) ?_ ?_
  rotate_left
  . intro w hSw;(try dsimp only at hSw);go_simp;(try with_reducible rfl)
  try simp only[aI]
  refine iT 4 ?_ (by assumption) ?_ ?_
  rotate_left
  . intro w hSw;(try dsimp only at hSw);go_simp;(try with_reducible rfl)
  try simp only[aI]
  refine iT 5 ?_ (by assumption) ?_ ?_
  rotate_left
  . intro w hSw;(try dsimp only at hSw);go_simp;(try with_reducible rfl)
  try simp only[aI]
  refine iT 6 ?_ (by assumption) ?_ ?_
  rotate_left
  . intro w hSw;(try dsimp only at hSw);go_simp;(try with_reducible rfl)
  try simp only[aI]
  refine iT 7 ?_ (by assumption) ?_ ?_
  rotate_left
  . intro w hSw;(try dsimp only at hSw);go_simp;(try with_reducible rfl)
  try simp only[aI]
  refine wpAnyH_ready (rs:=[0]) (by kernel_rfl) (by simp) ?_
  refine AllReadyH.cons rfl (fun K hK=>?_) AllReadyH.nil
  go_simp
  ((go_at_call 177;refine ax (hSb.out _ afS) ?_;rintro e W3 ⟨rfl,hB3⟩;go_wp2_with (fail);obtain⟨g3,g4,gD⟩:=UM W3 (afS.trans (hB3.mono afS.size));obtain⟨-,i3,j3⟩:=ah g3;obtain⟨-,i4,j4⟩:=ah g4;have ahg:=i3 0;have aqU:=j3 0;have ahh:=i3 1;have ahO:=j3 1;have ahi:=i3 2;have ahP:=j3 2;have ahj:=i3 3;have ahQ:=j3 3;have ahk:=i3 4;have ahR:=j3 4;have ahl:=i3 5;have ahS:=j3 5;have ahm:=i3 6;have ahT:=j3 6;have ahn:=i3 7;have ahU:=j3 7;have aho:=i4 0;have aqW:=j4 0;have ahp:=i4 1;have aqX:=j4 1;have ahq:=i4 2;have aqY:=j4 2;have ahr:=i4 3;have aqZ:=j4 3;have ahs:=i4 4;have aq0:=j4 4;have aht:=i4 5;have aq1:=j4 5;simp only[List.getElem?_toArray,List.getElem?_cons_zero,List.getElem?_cons_succ] at ahg ahh ahi ahj ahk ahl ahm ahn aho ahp ahq ahr ahs aht;clear i3 i4 j3 j4))
  refine hK.out _ _ ?_ (fun bG=>?_)
  . first|((first|(with_reducible exact Xk)|(with_reducible exact⟨ae hB3 hHeld.1,ae hB3 hHeld.2.1,ae hB3 hHeld.2.2.1,ae hB3 hHeld.2.2.2.1,ae hB3 hHeld.2.2.2.2.1,ae hB3 hHeld.2.2.2.2.2⟩)|(with_reducible exact⟨iL hHeld.1 u3,iL hHeld.2.1 u3,iL hHeld.2.2.1 u3,iL hHeld.2.2.2.1 u3,iL hHeld.2.2.2.2.1 u3,iL hHeld.2.2.2.2.2 u3⟩)|(with_reducible exact⟨iK hHeld.1 u4,iK hHeld.2.1 u4,iK hHeld.2.2.1 u4,iK hHeld.2.2.2.1 u4,iK hHeld.2.2.2.2.1 u4,iK hHeld.2.2.2.2.2 u4⟩)))|(dsimp only;((first|(with_reducible exact Xk)|(with_reducible exact⟨ae hB3 hHeld.1,ae hB3 hHeld.2.1,ae hB3 hHeld.2.2.1,ae hB3 hHeld.2.2.2.1,ae hB3 hHeld.2.2.2.2.1,ae hB3 hHeld.2.2.2.2.2⟩)|(with_reducible exact⟨iL hHeld.1 u3,iL hHeld.2.1 u3,iL hHeld.2.2.1 u3,iL hHeld.2.2.2.1 u3,iL hHeld.2.2.2.2.1 u3,iL hHeld.2.2.2.2.2 u3⟩)|(with_reducible exact⟨iK hHeld.1 u4,iK hHeld.2.1 u4,iK hHeld.2.2.1 u4,iK hHeld.2.2.2.1 u4,iK hHeld.2.2.2.2.1 u4,iK hHeld.2.2.2.2.2 u4⟩))))
  clear hK K hHeld
  have hHeld:=bG
  clear bG
  try simp only[aI]
  refine wpAnyH_ready (rs:=[8]) (by kernel_rfl) (by simp) ?_
  refine AllReadyH.cons rfl (fun K hK=>?_) AllReadyH.nil
  go_simp
  refine hK.out _ _ ?_ (fun bG=>?_)
  . first|((first|(with_reducible exact Xk)|(with_reducible exact⟨ae hB3 hHeld.1,ae hB3 hHeld.2.1,ae hB3 hHeld.2.2.1,ae hB3 hHeld.2.2.2.1,ae hB3 hHeld.2.2.2.2.1,ae hB3 hHeld.2.2.2.2.2⟩)|(with_reducible exact⟨iL hHeld.1 u3,iL hHeld.2.1 u3,iL hHeld.2.2.1 u3,iL hHeld.2.2.2.1 u3,iL hHeld.2.2.2.2.1 u3,iL hHeld.2.2.2.2.2 u3⟩)|(with_reducible exact⟨iK hHeld.1 u4,iK hHeld.2.1 u4,iK hHeld.2.2.1 u4,iK hHeld.2.2.2.1 u4,iK hHeld.2.2.2.2.1 u4,iK hHeld.2.2.2.2.2 u4⟩)))|(dsimp only;((first|(with_reducible exact Xk)|(with_reducible exact⟨ae hB3 hHeld.1,ae hB3 hHeld.2.1,ae hB3 hHeld.2.2.1,ae hB3 hHeld.2.2.2.1,ae hB3 hHeld.2.2.2.2.1,ae hB3 hHeld.2.2.2.2.2⟩)|(with_reducible exact⟨iL hHeld.1 u3,iL hHeld.2.1 u3,iL hHeld.2.2.1 u3,iL hHeld.2.2.2.1 u3,iL hHeld.2.2.2.2.1 u3,iL hHeld.2.2.2.2.2 u3⟩)|(with_reducible exact⟨iK hHeld.1 u4,iK hHeld.2.1 u4,iK hHeld.2.2.1 u4,iK hHeld.2.2.2.1 u4,iK hHeld.2.2.2.2.1 u4,iK hHeld.2.2.2.2.2 u4⟩))))
  clear hK K hHeld
  have hHeld:=bG
  clear bG
  try simp only[aI]
  refine wpAnyH_ready (rs:=[9]) (by kernel_rfl) (by simp) ?_
  refine AllReadyH.cons rfl (fun K hK=>?_) AllReadyH.nil
  go_simp
  refine hK.out _ _ ?_ (fun bG=>?_)
  . first|((first|(with_reducible exact Xk)|(with_reducible exact⟨ae hB3 hHeld.1,ae hB3 hHeld.2.1,ae hB3 hHeld.2.2.1,ae hB3 hHeld.2.2.2.1,ae hB3 hHeld.2.2.2.2.1,ae hB3 hHeld.2.2.2.2.2⟩)|(with_reducible exact⟨iL hHeld.1 u3,iL hHeld.2.1 u3,iL hHeld.2.2.1 u3,iL hHeld.2.2.2.1 u3,iL hHeld.2.2.2.2.1 u3,iL hHeld.2.2.2.2.2 u3⟩)|(with_reducible exact⟨iK hHeld.1 u4,iK hHeld.2.1 u4,iK hHeld.2.2.1 u4,iK hHeld.2.2.2.1 u4,iK hHeld.2.2.2.2.1 u4,iK hHeld.2.2.2.2.2 u4⟩)))|(dsimp only;((first|(with_reducible exact Xk)|(with_reducible exact⟨ae hB3 hHeld.1,ae hB3 hHeld.2.1,ae hB3 hHeld.2.2.1,ae hB3 hHeld.2.2.2.1,ae hB3 hHeld.2.2.2.2.1,ae hB3 hHeld.2.2.2.2.2⟩)|(with_reducible exact⟨iL hHeld.1 u3,iL hHeld.2.1 u3,iL hHeld.2.2.1 u3,iL hHeld.2.2.2.1 u3,iL hHeld.2.2.2.2.1 u3,iL hHeld.2.2.2.2.2 u3⟩)|(with_reducible exact⟨iK hHeld.1 u4,iK hHeld.2.1 u4,iK hHeld.2.2.1 u4,iK hHeld.2.2.2.1 u4,iK hHeld.2.2.2.2.1 u4,iK hHeld.2.2.2.2.2 u4⟩))))
  clear hK K hHeld
  have hHeld:=bG
  clear bG
  try simp only[aI]
  refine wpAnyH_done (by kernel_rfl) ?_ _
  refine NoPanic.normal ?_
  go_wp2
  have hfin:Below w.heap.size w W3:=hXW.trans ((afS.trans (hB3.mono afS.size)).mono hXW.size)
  refine pJ (by simp) ((gu _ _ _ _ _ _ (by omega)).trans ((gy _ _ _ _ _ _ _ _ (by omega)).trans gD)) ?_
  generalize hV:World.putObj _ D (.deferred none)=V5
  have G3:V5.heap[X3.heap.size]? = some (.cells #[.int .i64 (fC ((aT s).map fun p=>left p o.ay)).dB,.int .i64 (fC ((aT s).map fun p=>left p o.ay)).dK,.int .i64 (fC ((aT s).map fun p=>left p o.ay)).di,.int .i64 (fC ((aT s).map fun p=>left p o.ay)).dE,.int .i64 (fC ((aT s).map fun p=>left p o.ay)).gK,.int .i64 (fC ((aT s).map fun p=>left p o.ay)).gJ,.int .i64 (fC ((aT s).map fun p=>left p o.ay)).wlo,.int .i64 (fC ((aT s).map fun p=>left p o.ay)).whi] 40 (0,0)):=by rw[<- hV];exact(World.putObj_heap_other (by omega)).trans ((gu _ _ _ _ _ _ (by omega)).trans (mg g3 _ _ _ _ _ _ _ _))
  have G4:V5.heap[X4.heap.size]? = some (.cells #[.int .i64 x0,.int .i64 x1,.int .i64 x2,.int .i64 x3,.int .i64 x6,.int .i64 x7] 56 (0,0)):=by rw[<- hV];exact(World.putObj_heap_other (by omega)).trans (mf ((gy _ _ _ _ _ _ _ _ (by omega)).trans g4) _ _ _ _ _ _)
  have hb:Below w.heap.size w V5:=by rw[<- hV];exact(pO (pR hfin xX3 _ _ _ _ _ _ _ _) xX4 _ _ _ _ _ _).trans (dZ (Below.refl _ _) (by omega) _)
  clear hV
  have k3:=(ah G3).2.1
  have k4:=(ah G4).2.1
  refine⟨.tuple #[jF (fC ((aT s).map fun p=>left p o.ay)),l9 ⟨x0,x1,x2,x3,x6,x7⟩],?_,.inl ⟨fun p hp=>hall p hp,by rw[hxs.out],hb⟩⟩
  have MQ:=k3 0
  have MR:=k3 1
  have MS:=k3 2
  have MW:=k3 3
  have MX:=k3 4
  have MZ:=k3 5
  have M_:=k3 6
  have Na:=k3 7
  have Nb:=k4 0
  have Nc:=k4 1
  have Nh:=k4 2
  have Nj:=k4 3
  have Nk:=k4 4
  have Nl:=k4 5
  simp only[List.getElem?_toArray,List.getElem?_cons_zero,List.getElem?_cons_succ] at MQ MR MS MW MX MZ M_ Na Nb Nc Nh Nj Nk Nl
  simp only[results,Tryz.results131]
  simp[go_sem,MQ,MR,MS,MW,MX,MZ,M_,Na,Nb,Nc,Nh,Nj,Nk,Nl]
