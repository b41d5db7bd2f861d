/- Walks. -/
import Derived.Test.YtkjdidieiioijaaGreatK09
set_option linter.all false
set_option maxRecDepth 100000
set_option maxHeartbeats 16000000
namespace Go.Proofs.YtkjdidieiioijaaGreat.G
open Go.RowKit Go.Sd bz
attribute [local go_sem] Oper.semAt_some
def aeu (B bb:Nat)(f:Pt->List Pt)(ok:Pt->Bool)(pre:List Pt)(W:World):Prop:=(∃v,Fv B bb W v (pre.flatMap f))/\∀q ∈ pre,ok q=true
theorem aeu.kept {B bb:Nat}{f:Pt->List Pt}{ok:Pt->Bool}{pre:List Pt}{W W':World}{S:Nat->Prop}(h:aeu B bb f ok pre W)(hk:Kept S W W')(hb:S bb)(ho:∀b,B<=b->S b):aeu B bb f ok pre W':=by
 obtain⟨⟨v,hv⟩,h2⟩:=h
 exact⟨⟨v,hv.kept hk hb fun k hk' b e=>ho b ((hv.own k hk').lt b e).1⟩,h2⟩
theorem Tv (c:d_)(s:St)(o:bz.Op)(w:World)(hc:c.Ok)(hs:s.Ok)(ha:0<=o.lY/\o.lY<=o.lX/\o.lX<=1000)(hb:0<=o.wlo/\o.wlo<=o.whi/\o.whi<=1000000) :
    Calls Tryz.prog 132 #[gm c,jF s,Ll o] w (Um (∀p ∈ aT s,((rest c p o.lY o.wlo).ok && (rest c p o.lX o.whi).ok)=true) (.tuple #[jF (fC ((aT s).flatMap fun p=>[rest c p o.lY o.wlo,rest c p o.lX o.whi])),l9 ⟨0,0,0,0,0,0⟩]) w):=by
 obtain⟨X1,hX1⟩:=aG (w.alloc (.cells #[.int .i64 c.jm,.int .i64 c.jG,.int .i64 c.least,.int .i64 c.most,.int .i64 c.f0,.int .i64 c.f1,.int .i64 c.h0,.int .i64 c.h1,.int .i64 c.bu,.int .i64 c.mJ,.int .i64 c.phi] 96))
 obtain⟨fD,bX0,sX0⟩:=boxed hX1
 have acC:w.heap.size<X1.heap.size:=by omega
 obtain⟨uJ,uK,uM,uN,uO,uP,uQ,uS,uT,uU,qc⟩:=bJ fD
 obtain⟨X2,hX2⟩:=aG (X1.alloc (.cells #[.int .i64 s.dB,.int .i64 s.dK,.int .i64 s.di,.int .i64 s.dE,.int .i64 s.gK,.int .i64 s.gJ,.int .i64 s.wlo,.int .i64 s.whi] 40))
 obtain⟨gz,Us,sX1⟩:=boxed hX2
 have acD:w.heap.size<X2.heap.size:=by omega
 replace fD:=(Us.block _ (aF fD)).trans fD
 obtain⟨uV,uX,uY,uZ,u_,ve,vg,vk,vw,vz,qf⟩:=bJ fD
 have acE:X1.heap.size<X2.heap.size:=by omega
 obtain⟨vC,vF,vG,vH,vI,vJ,vK,vM⟩:=rc8 gz
 obtain⟨X3,lK⟩:=aG (X2.alloc (.cells #[.int .i64 o.kind,.int .i64 o.lg,.int .i64 o.ly,.int .i64 o.lt,.int .i64 o.lw,.int .i64 o.ay,.int .i64 o.lY,.int .i64 o.lX,.int .i64 o.wlo,.int .i64 o.whi] 43))
 obtain⟨iG,bX2,sX2⟩:=boxed lK
 have acF:w.heap.size<X3.heap.size:=by omega
 replace fD:=(bX2.block _ (aF fD)).trans fD
 obtain⟨vN,vO,vP,vS,vT,vU,vV,vW,vX,vY,qg⟩:=bJ fD
 have acG:X1.heap.size<X3.heap.size:=by omega
 replace gz:=(bX2.block _ (aF gz)).trans gz
 obtain⟨vZ,v_,wo,wu,wz,wB,wC,wE⟩:=rc8 gz
 have acH:X2.heap.size<X3.heap.size:=by omega
 obtain⟨wF,wG,wH,wI,wJ,wL,wM,wO,wP,wQ⟩:=gB iG
 obtain⟨X4,Ah⟩:=aG (X3.alloc (.cells #[.int .i64 0,.int .i64 0,.int .i64 0,.int .i64 0,.int .i64 0,.int .i64 0,.int .i64 0,.int .i64 0] 40))
 obtain⟨lD,GU,sX3⟩:=boxed Ah
 have acI:w.heap.size<X4.heap.size:=by omega
 replace fD:=(GU.block _ (aF fD)).trans fD
 obtain⟨wR,wS,wU,wV,wW,wX,wY,wZ,w_,xe,qh⟩:=bJ fD
 have acJ:X1.heap.size<X4.heap.size:=by omega
 replace gz:=(GU.block _ (aF gz)).trans gz
 obtain⟨xh,xk,xm,xn,xq,xu,xw,xx⟩:=rc8 gz
 have acK:X2.heap.size<X4.heap.size:=by omega
 replace iG:=(GU.block _ (aF iG)).trans iG
 obtain⟨xy,xA,xB,xC,xE,xG,xH,xI,xJ,xK⟩:=gB iG
 have acL:X3.heap.size<X4.heap.size:=by omega
 obtain⟨xM,xN,xO,xP,xQ,xR,xU,xW⟩:=rc8 lD
 obtain⟨X5,oK⟩:=aG (X4.alloc (.cells #[.int .i64 0,.int .i64 0,.int .i64 0,.int .i64 0,.int .i64 0,.int .i64 0] 56))
 obtain⟨oL,CW,sX4⟩:=boxed oK
 have alB:w.heap.size<X5.heap.size:=by omega
 replace fD:=(CW.block _ (aF fD)).trans fD
 obtain⟨C9,C_,Dc,Df,Dh,Di,Dj,Dl,Dn,Dp,yF⟩:=bJ fD
 have alC:X1.heap.size<X5.heap.size:=by omega
 replace gz:=(CW.block _ (aF gz)).trans gz
 obtain⟨Dq,Dt,Du,Dv,Dw,Dx,Dy,Dz⟩:=rc8 gz
 have alD:X2.heap.size<X5.heap.size:=by omega
 replace iG:=(CW.block _ (aF iG)).trans iG
 obtain⟨DD,DF,DI,DJ,DK,DL,DN,DR,DT,DU⟩:=gB iG
 have alE:X3.heap.size<X5.heap.size:=by omega
 replace lD:=(CW.block _ (aF lD)).trans lD
 obtain⟨DV,DW,DX,DY,DZ,D5,D7,D8⟩:=rc8 lD
 have alF:X4.heap.size<X5.heap.size:=by omega
 obtain⟨D9,D_,Ea,Eb,Ec,Ed⟩:=Ru oL
 obtain⟨X6,Jq⟩:=aG (X5.alloc (.cells #[.slice none 0 0,.slice none 0 0,.slice none 0 0,.slice none 0 0] 273))
 obtain⟨FD,PU,sX5⟩:=boxed Jq
 have alG:w.heap.size<X6.heap.size:=by omega
 replace fD:=(PU.block _ (aF fD)).trans fD
 obtain⟨Ee,Ef,Eg,Eh,Ei,Ej,Em,En,Eo,Ep,yG⟩:=bJ fD
 have alH:X1.heap.size<X6.heap.size:=by omega
 replace gz:=(PU.block _ (aF gz)).trans gz
 obtain⟨Es,Et,Eu,Ew,Ey,Ez,EC,ED⟩:=rc8 gz
 have alI:X2.heap.size<X6.heap.size:=by omega
 replace iG:=(PU.block _ (aF iG)).trans iG
 obtain⟨EE,EF,EG,EH,EI,EJ,EK,EL,EM,EN⟩:=gB iG
 have alJ:X3.heap.size<X6.heap.size:=by omega
 replace lD:=(PU.block _ (aF lD)).trans lD
 obtain⟨EO,EP,ER,ES,ET,EU,EW,EX⟩:=rc8 lD
 have alK:X4.heap.size<X6.heap.size:=by omega
 replace oL:=(PU.block _ (aF oL)).trans oL
 obtain⟨EY,EZ,E5,E8,E_,Fa⟩:=Ru oL
 have alL:X5.heap.size<X6.heap.size:=by omega
 obtain⟨Fb,Fe,Ff,Fg⟩:=pX FD
 obtain⟨X,hX⟩:=aG (X6.alloc (.cells #[.int .i64 s.dB,.int .i64 s.dK,.int .i64 s.di,.int .i64 s.dE,.int .i64 s.gK,.int .i64 s.gJ,.int .i64 s.wlo,.int .i64 s.whi] 40))
 obtain⟨Ry,JW,sX6⟩:=boxed hX
 replace fD:=(JW.block _ (aF fD)).trans fD
 replace gz:=(JW.block _ (aF gz)).trans gz
 replace iG:=(JW.block _ (aF iG)).trans iG
 replace lD:=(JW.block _ (aF lD)).trans lD
 replace oL:=(JW.block _ (aF oL)).trans oL
 replace FD:=(JW.block _ (aF FD)).trans FD
 have F_:Below w.heap.size w X:=(by have:=sX0;have:=sX1;have:=sX2;have:=sX3;have:=sX4;have:=sX5;have:=sX6;exact((((((bX0.trans (Us.mono (by omega))).trans (bX2.mono (by omega))).trans (GU.mono (by omega))).trans (CW.mono (by omega))).trans (PU.mono (by omega))).trans (JW.mono (by omega))))
 obtain⟨sF,rX0,tX0⟩:=ah fD
 obtain⟨BD,BF,BG,BH,BI,BJ,BK,BL,BM,BN,uq⟩:=bJ fD
 obtain⟨JY,JZ,J3,J4,J5,J6,J7,J8,J9,J_,Az⟩:=ni fD
 have EX0:=ai fD
 clear rX0 tX0 fD
 obtain⟨zX1,rX1,tX1⟩:=ah gz
 obtain⟨Lu,LC,LD,LG,LH,LJ,LK,LM⟩:=rc8 gz
 obtain⟨Ko,Kq,Kr,Kt,Ku,Kv,Kw,Ky⟩:=FP gz
 have EX1:=ai gz
 clear rX1 tX1 gz
 obtain⟨uA,rX2,tX2⟩:=ah iG
 obtain⟨BO,BP,BQ,BR,BU,BX,BZ,B_,Cb,Cc⟩:=gB iG
 obtain⟨Kz,KA,KC,KD,KE,KF,KG,KH,KI,KJ⟩:=FO iG
 have EX2:=ai iG
 clear rX2 tX2 iG
 obtain⟨zX3,rX3,tX3⟩:=ah lD
 obtain⟨LP,LQ,LU,LV,LW,LX,LY,LZ⟩:=rc8 lD
 obtain⟨KL,KN,KO,KP,KQ,KR,KT,KU⟩:=FP lD
 have EX3:=ai lD
 clear rX3 tX3 lD
 obtain⟨zX4,rX4,tX4⟩:=ah oL
 obtain⟨L6,L8,L9,L_,Mc,Md⟩:=Ru oL
 obtain⟨KW,KX,KY,KZ,K_,La⟩:=rf6 oL
 have EX4:=ai oL
 clear rX4 tX4 oL
 obtain⟨zX5,rX5,tX5⟩:=ah FD
 obtain⟨TE,TF,TG,TI⟩:=pX FD
 obtain⟨SK,SL,SN,SQ⟩:=Ak FD
 have EX5:=ai FD
 clear rX5 tX5 FD
 obtain⟨zX6,rX6,tX6⟩:=ah Ry
 obtain⟨TJ,TK,TL,TM,ag',aha,ahb,ahc⟩:=rc8 Ry
 obtain⟨SS,SV,SX,SY,afo,afp,afq,afr⟩:=FP Ry
 have EX6:=ai Ry
 clear rX6 tX6 Ry
 have xX0:w.heap.size<=w.heap.size:=by omega
 have xX1:w.heap.size<=X1.heap.size:=by omega
 have xX2:w.heap.size<=X2.heap.size:=by omega
 have xX3:w.heap.size<=X3.heap.size:=by omega
 have xX4:w.heap.size<=X4.heap.size:=by omega
 have xX5:w.heap.size<=X5.heap.size:=by omega
 have xX6:w.heap.size<=X6.heap.size:=by omega
 clear bX0 sX0 Us sX1 bX2 sX2 GU sX3 CW sX4 PU sX5 JW sX6
 refine(callsIn_wide (n:=0)).1 ?_
 refine yc Tryz.func132 rfl ?_
 simp only[Tryz.ntmps132,List.size_toArray,List.length_cons,List.length_nil,Nat.reduceAdd,Nat.reduceSub,Array.replicate_succ,Array.replicate_zero,List.push_toArray,List.append_toArray,List.nil_append,List.cons_append]
 refine jo.Jg fun K hK=>?_
 go_wp2
 refine jo.Jg fun K hK=>?_
 go_wp2
 refine jo.seq ?_
 refine jo.Jg fun K hK=>?_
 go_wp2_with (go_at_call 175;refine(Be _ _).mono ?_;rintro e w1 ⟨rfl,rfl⟩)
 refine jo.block ?_
 refine jo.ZM (S:=fun k=>k<X.heap.size/\k≠X5.heap.size) ⟨_,rfl⟩ rfl (fun args w=>by kernel_rfl) (sN s X _ X6.heap.size ?hcs ?hSs) (fun k h=>h.1) (fun _=>rfl)
  (aeu (X.heap.size+2) X5.heap.size (fun p=>[rest c p o.lY o.wlo,rest c p o.lX o.whi]) (fun p=>(rest c p o.lY o.wlo).ok && (rest c p o.lX o.whi).ok)) (fun _ _=>False) (alQ (∀p ∈ aT s,((rest c p o.lY o.wlo).ok && (rest c p o.lX o.whi).ok)=true)) ?hI ?hIx ?h0 ?pI ?hdone ?Gg ?hstop
 case hcs=>exact fun i v h=>((ah EX6.out).2.1 i).trans h
 case hSs=>exact⟨zX6,by omega⟩
 case hI=>exact fun pre X' Y h hk=>h.kept hk ⟨by omega,by omega⟩ fun b hb=>⟨by omega,by omega⟩
 case hIx=>exact fun _ _ _ h _=>h
 case h0=>exact⟨⟨fun _=>.slice none 0 0,⟨EX5.out,fun k _=>(by unfold jw;split <;> exact bg.nil _ _),fun _ _ _ _ _ b h=>(by cases h),fun _ _ h=>(by cases h)⟩⟩,fun _ h=>(by cases h)⟩
 case hstop=>exact fun _ _ _ _ h=>h.elim
 case pI =>
  rintro l pre x W hl1 hlt hpre hKS hI
  have hx:x ∈ aT s:=hpre.subset (by simp)
  have hxo:=Ju hs hx
  have hKX:=hKS.size
  gi_wp2
  refine⟨(Kept.refl _ _).alloc _,?_⟩
  intro W2 hk2 hs2
  rw[World.size_alloc] at hs2
  -- what the round sees
  have ML:Kept (fun k=>k≠l) W W2:=((Kept.refl _ W).alloc _).trans hk2
  have fE:Kept (fun k=>k<X.heap.size/\k≠X5.heap.size) X W2:=hKS.trans (ML.mono fun k _ h=>by omega)
  have gx:W2.heap[W.heap.size]? = some (.cells #[.int .i64 x.g,.int .i64 x.y,.int .i64 x.t,.int .i64 x.w] 29):=(hk2.block _ (by rw[World.size_alloc];omega) (by omega)).trans (World.alloc_heap_new W _)
  obtain⟨⟨v,hv0⟩,hpo⟩:=hI
  have MO:∀j,j<4->∀b,(v j).ownBlock=some b->X.heap.size+2<=b/\b<W.heap.size:=fun j hj b h=>(hv0.own j hj).lt b h
  have hv:Fv (X.heap.size+2) X5.heap.size W2 v (pre.flatMap (fun p=>[rest c p o.lY o.wlo,rest c p o.lX o.whi])):=hv0.kept ML (by omega) fun j hj b h=>by have:=MO j hj b h;omega
  have hlen:(pre.flatMap (fun p=>[rest c p o.lY o.wlo,rest c p o.lX o.whi])).length<=32:=by
   have h1:=hpre.length_le
   have h2:∀l:List Pt,(l.flatMap (fun p=>[rest c p o.lY o.wlo,rest c p o.lX o.whi])).length=2*l.length:=fun l=>by induction l with
    | nil=>rfl
    | cons a l ih=>simp only[List.flatMap_cons,List.length_append,ih,List.length_cons,List.length_nil];omega
   rw[h2];simp[aT,iE] at h1;omega
  obtain⟨zx,dx,-⟩:=ah gx
  clear ML hk2 hv0
  replace gx:=ai gx
  have x0:=dx 0
  have x1:=dx 1
  have x2:=dx 2
  have x3:=dx 3
  simp only[List.getElem?_toArray,List.getElem?_cons_zero,List.getElem?_cons_succ] at x0 x1 x2 x3
  clear dx
  have aiI:=fE.cell (b:=w.heap.size) ⟨sF,by omega⟩ BD
  have aiJ:=fE.cell (b:=w.heap.size) ⟨sF,by omega⟩ BF
  have aiK:=fE.cell (b:=w.heap.size) ⟨sF,by omega⟩ BG
  have aiL:=fE.cell (b:=w.heap.size) ⟨sF,by omega⟩ BH
  have aiM:=fE.cell (b:=w.heap.size) ⟨sF,by omega⟩ BI
  have aiN:=fE.cell (b:=w.heap.size) ⟨sF,by omega⟩ BJ
  have aiO:=fE.cell (b:=w.heap.size) ⟨sF,by omega⟩ BK
  have aiP:=fE.cell (b:=w.heap.size) ⟨sF,by omega⟩ BL
  have aiQ:=fE.cell (b:=w.heap.size) ⟨sF,by omega⟩ BM
  have aiR:=fE.cell (b:=w.heap.size) ⟨sF,by omega⟩ BN
  have aaV:=fE.cell (b:=w.heap.size) ⟨sF,by omega⟩ uq
  have aiS:=fE.cell (b:=X2.heap.size) ⟨uA,by omega⟩ BO
  have aiT:=fE.cell (b:=X2.heap.size) ⟨uA,by omega⟩ BP
  have aiU:=fE.cell (b:=X2.heap.size) ⟨uA,by omega⟩ BQ
  have aiV:=fE.cell (b:=X2.heap.size) ⟨uA,by omega⟩ BR
  have aiW:=fE.cell (b:=X2.heap.size) ⟨uA,by omega⟩ BU
  have aiX:=fE.cell (b:=X2.heap.size) ⟨uA,by omega⟩ BX
  have aiY:=fE.cell (b:=X2.heap.size) ⟨uA,by omega⟩ BZ
  have aiZ:=fE.cell (b:=X2.heap.size) ⟨uA,by omega⟩ B_
  have ai0:=fE.cell (b:=X2.heap.size) ⟨uA,by omega⟩ Cb
  have ai1:=fE.cell (b:=X2.heap.size) ⟨uA,by omega⟩ Cc
  clear uJ uK uM uN uO uP uQ uS uT uU qc uV uX uY uZ u_ ve vg vk vw vz qf vC vF vG vH vI vJ vK vM vN vO vP vS vT vU vV vW vX vY qg vZ v_ wo wu wz wB wC wE wF wG wH wI wJ wL wM wO wP wQ wR wS wU wV wW wX wY wZ w_ xe qh xh xk xm xn xq xu xw xx xy xA xB xC xE xG xH xI xJ xK xM xN xO xP xQ xR xU xW C9 C_ Dc Df Dh Di Dj Dl Dn Dp yF Dq Dt Du Dv Dw Dx Dy Dz DD DF DI DJ DK DL DN DR DT DU DV DW DX DY DZ D5 D7 D8 D9 D_ Ea Eb Ec Ed Ee Ef Eg Eh Ei Ej Em En Eo Ep yG Es Et Eu Ew Ey Ez EC ED EE EF EG EH EI EJ EK EL EM EN EO EP ER ES ET EU EW EX EY EZ E5 E8 E_ Fa Fb Fe Ff Fg BD BF BG BH BI BJ BK BL BM BN uq JY JZ J3 J4 J5 J6 J7 J8 J9 J_ Az Lu LC LD LG LH LJ LK LM Ko Kq Kr Kt Ku Kv Kw Ky BO BP BQ BR BU BX BZ B_ Cb Cc Kz KA KC KD KE KF KG KH KI KJ LP LQ LU LV LW LX LY LZ KL KN KO KP KQ KR KT KU L6 L8 L9 L_ Mc Md KW KX KY KZ K_ La TE TF TG TI SK SL SN SQ TJ TK TL TM ag' aha ahb ahc SS SV SX SY afo afp afq afr hX1 hX2 lK Ah oK Jq hX
  cases hok:(rest c x o.lY o.wlo).ok with
  | false =>
   have hC:=ai (JO c x o.lY o.wlo W2 hc hxo (by omega) (by omega) hok)
   replace hok:=ai hok
   clear hv hlen
   gi_wp2
   refine⟨trivial,rfl,(CallsIn.inRound _ (callsIn_wide.2 hC.out)).mono ?_⟩
   rintro e W3 ⟨str,rfl,hB3⟩
   exact⟨rfl,.all hB3,fun h=>(by have:=h x hx;rw[hok.out] at this;cases this),str,rfl⟩
  | true =>
   have hC:=ai (JP c x o.lY o.wlo W2 hc hxo (by omega) (by omega) hok)
   replace hok:=ai hok
   gi_wp2
   refine⟨trivial,rfl,(CallsIn.inRound _ (callsIn_wide.2 hC.out)).mono ?_⟩
   rintro e W3 ⟨rfl,hB3⟩
   have hs3:=hB3.size
   have hv3:=hv.kept (S:=fun _=>True) (.all hB3) trivial fun _ _ _ _=>trivial
   have hP:=ai (I_ (rest c x o.lY o.wlo) W3 hv3 (by omega) (by omega))
   clear hC hv
   gi_wp2
   refine⟨trivial,rfl,(CallsIn.inRound _ (callsIn_wide.2 hP.out)).mono ?_⟩
   rintro e W4 ⟨rfl,v1,hv4,ai9,hk4⟩
   have hs4:=hk4.size
   have qI:Kept (fun k=>(k<X.heap.size/\k≠X5.heap.size)\/k=X.heap.size\/k=X.heap.size+1\/k=W.heap.size) W2 W4:=(Kept.all hB3).trans (hk4.mono fun k _ h=>⟨by omega,fun j hj e=>by have:=MO j hj k e;omega⟩)
   have hKc:Kept (fun k=>k<X.heap.size/\k≠X5.heap.size) X W4:=fE.trans (qI.mono fun k _ h=>.inl h)
   have gx4:=(qI.block _ zx (.inr (.inr (.inr rfl)))).trans gx.out
   obtain⟨zx4,dx4,-⟩:=ah gx4
   have x0':=dx4 0
   have x1':=dx4 1
   have x2':=dx4 2
   have x3':=dx4 3
   simp only[List.getElem?_toArray,List.getElem?_cons_zero,List.getElem?_cons_succ] at x0' x1' x2' x3'
   have avj:=qI.cell (b:=w.heap.size) (.inl ⟨sF,by omega⟩) aiI
   have avk:=qI.cell (b:=w.heap.size) (.inl ⟨sF,by omega⟩) aiJ
   have avl:=qI.cell (b:=w.heap.size) (.inl ⟨sF,by omega⟩) aiK
   have avm:=qI.cell (b:=w.heap.size) (.inl ⟨sF,by omega⟩) aiL
   have avn:=qI.cell (b:=w.heap.size) (.inl ⟨sF,by omega⟩) aiM
   have avo:=qI.cell (b:=w.heap.size) (.inl ⟨sF,by omega⟩) aiN
   have avp:=qI.cell (b:=w.heap.size) (.inl ⟨sF,by omega⟩) aiO
   have avq:=qI.cell (b:=w.heap.size) (.inl ⟨sF,by omega⟩) aiP
   have avr:=qI.cell (b:=w.heap.size) (.inl ⟨sF,by omega⟩) aiQ
   have avs:=qI.cell (b:=w.heap.size) (.inl ⟨sF,by omega⟩) aiR
   have asE:=qI.cell (b:=w.heap.size) (.inl ⟨sF,by omega⟩) aaV
   have avt:=qI.cell (b:=X2.heap.size) (.inl ⟨uA,by omega⟩) aiS
   have avu:=qI.cell (b:=X2.heap.size) (.inl ⟨uA,by omega⟩) aiT
   have avv:=qI.cell (b:=X2.heap.size) (.inl ⟨uA,by omega⟩) aiU
   have avw:=qI.cell (b:=X2.heap.size) (.inl ⟨uA,by omega⟩) aiV
   have avx:=qI.cell (b:=X2.heap.size) (.inl ⟨uA,by omega⟩) aiW
   have avy:=qI.cell (b:=X2.heap.size) (.inl ⟨uA,by omega⟩) aiX
   have avz:=qI.cell (b:=X2.heap.size) (.inl ⟨uA,by omega⟩) aiY
   have avA:=qI.cell (b:=X2.heap.size) (.inl ⟨uA,by omega⟩) aiZ
   have avC:=qI.cell (b:=X2.heap.size) (.inl ⟨uA,by omega⟩) ai0
   have avD:=qI.cell (b:=X2.heap.size) (.inl ⟨uA,by omega⟩) ai1
   clear dx4 gx4 x0 x1 x2 x3 aiI aiJ aiK aiL aiM aiN aiO aiP aiQ aiR aaV aiS aiT aiU aiV aiW aiX aiY aiZ ai0 ai1 hP hv3
   cases hok2:(rest c x o.lX o.whi).ok with
   | false =>
    have hC:=ai (JO c x o.lX o.whi W4 hc hxo (by omega) (by omega) hok2)
    replace hok2:=ai hok2
    clear hv4 hlen
    gi_wp2
    refine⟨trivial,rfl,(CallsIn.inRound _ (callsIn_wide.2 hC.out)).mono ?_⟩
    rintro e W5 ⟨str,rfl,qH⟩
    exact⟨rfl,(qI.mono fun k _ h=>by omega).trans (.all qH),fun h=>(by have:=h x hx;rw[hok2.out,Bool.and_false] at this;cases this),str,rfl⟩
   | true =>
    have hC:=ai (JP c x o.lX o.whi W4 hc hxo (by omega) (by omega) hok2)
    replace hok2:=ai hok2
    gi_wp2
    refine⟨trivial,rfl,(CallsIn.inRound _ (callsIn_wide.2 hC.out)).mono ?_⟩
    rintro e W5 ⟨rfl,qH⟩
    have hs5:=qH.size
    have hv5:=hv4.kept (S:=fun _=>True) (.all qH) trivial fun _ _ _ _=>trivial
    have hP:=ai (I_ (rest c x o.lX o.whi) W5 hv5 (by omega) (by simp only[List.length_append,List.length_cons,List.length_nil];omega))
    clear hC
    gi_wp2
    refine⟨trivial,rfl,(CallsIn.inRound _ (callsIn_wide.2 hP.out)).mono ?_⟩
    rintro e W6 ⟨rfl,v2,hv6,-,hk6⟩
    have amE:Kept (fun k=>(k<X.heap.size/\k≠X5.heap.size)\/k=X.heap.size\/k=X.heap.size+1) W2 W6:=((qI.mono fun k _ h=>by omega).trans (.all qH)).trans (hk6.mono fun k _ h=>⟨by omega,fun j hj e=>by have:=((hv4.own j hj).lt k e).1;omega⟩)
    have hR:aeu (X.heap.size+2) X5.heap.size (fun p=>[rest c p o.lY o.wlo,rest c p o.lX o.whi]) (fun p=>(rest c p o.lY o.wlo).ok && (rest c p o.lX o.whi).ok) (pre ++ [x]) W6:=⟨⟨v2,by simpa [List.flatMap_append] using hv6⟩,fun q hq=>by
     rcases List.mem_append.1 hq with h|h
     . exact hpo q h
     . have:q=x:=by simpa using h
       rw[this];show((rest c x o.lY o.wlo).ok && (rest c x o.lX o.whi).ok)=true;rw[hok.out,hok2.out];rfl⟩
    clear hP hv5 hpo hv6 hk6 hv4 ai9 hk4
    gi_wp2
    exact⟨amE,hR⟩
 case Gg =>
  rintro D ch W hD ⟨hno,str,rfl⟩ hk hd
  exact pJ (by simp) hd (.inr ⟨hno,str,rfl,F_.trans ((hk.below (B:=w.heap.size) (by omega) fun k hk'=>⟨by omega,by omega⟩).trans (dZ (Below.refl _ _) (by omega) _))⟩)
 case hdone =>
  rintro D W hD ⟨⟨v,hv⟩,hall⟩ hk hd
  have hSt:=ai (rP W hv)
  have h3:=(hk.block _ zX3 ⟨zX3,by omega⟩).trans EX3.out
  have h4:=(hk.block _ zX4 ⟨zX4,by omega⟩).trans EX4.out
  have hXW:Below w.heap.size w W:=F_.trans (hk.below (B:=w.heap.size) (by omega) fun k hk'=>⟨by omega,by omega⟩)
  have hDW:=(aF hd)
  have UM:∀W2:World,Below W.heap.size W W2->W2.heap[X3.heap.size]? = some (.cells #[.int .i64 0,.int .i64 0,.int .i64 0,.int .i64 0,.int .i64 0,.int .i64 0,.int .i64 0,.int .i64 0] 40 (0,0))/\W2.heap[X4.heap.size]? = some (.cells #[.int .i64 0,.int .i64 0,.int .i64 0,.int .i64 0,.int .i64 0,.int .i64 0] 56 (0,0))/\W2.heap[D]? = some (.deferred (some [])):=fun W2 hb=>⟨(hb.block _ (aF h3)).trans h3,(hb.block _ (aF h4)).trans h4,(hb.block _ hDW).trans hd⟩
  clear h3 h4 hd hv
  refine(?_:jo _ _ _ _ _ _)
  refine jo.of_wp ?_
  go_wp2_with (go_at_call 177;refine ax hSt.out ?_;rintro e W2 ⟨rfl,hB2⟩;obtain⟨g3,g4,gD⟩:=UM W2 hB2;obtain⟨-,i3,j3⟩:=ah g3;obtain⟨-,i4,j4⟩:=ah g4;have ahg:=i3 0;have aqU:=j3 0;have ahh:=i3 1;have ahO:=j3 1;have ahi:=i3 2;have ahP:=j3 2;have ahj:=i3 3;have ahQ:=j3 3;have ahk:=i3 4;have ahR:=j3 4;have ahl:=i3 5;have ahS:=j3 5;have ahm:=i3 6;have ahT:=j3 6;have ahn:=i3 7;have ahU:=j3 7;have aho:=i4 0;have aqW:=j4 0;have ahp:=i4 1;have aqX:=j4 1;have ahq:=i4 2;have aqY:=j4 2;have ahr:=i4 3;have aqZ:=j4 3;have ahs:=i4 4;have aq0:=j4 4;have aht:=i4 5;have aq1:=j4 5;simp only[List.getElem?_toArray,List.getElem?_cons_zero,List.getElem?_cons_succ] at ahg ahh ahi ahj ahk ahl ahm ahn aho ahp ahq ahr ahs aht;clear i3 i4 j3 j4)
  have hfin:Below w.heap.size w W2:=hXW.trans (hB2.mono hXW.size)
  refine pJ (by simp) ((gu _ _ _ _ _ _ (by omega)).trans ((gy _ _ _ _ _ _ _ _ (by omega)).trans gD)) ?_
  generalize hV:World.putObj _ D (.deferred none)=V
  have G3:V.heap[X3.heap.size]? = some (.cells #[.int .i64 (fC ((aT s).flatMap fun p=>[rest c p o.lY o.wlo,rest c p o.lX o.whi])).dB,.int .i64 (fC ((aT s).flatMap fun p=>[rest c p o.lY o.wlo,rest c p o.lX o.whi])).dK,.int .i64 (fC ((aT s).flatMap fun p=>[rest c p o.lY o.wlo,rest c p o.lX o.whi])).di,.int .i64 (fC ((aT s).flatMap fun p=>[rest c p o.lY o.wlo,rest c p o.lX o.whi])).dE,.int .i64 (fC ((aT s).flatMap fun p=>[rest c p o.lY o.wlo,rest c p o.lX o.whi])).gK,.int .i64 (fC ((aT s).flatMap fun p=>[rest c p o.lY o.wlo,rest c p o.lX o.whi])).gJ,.int .i64 (fC ((aT s).flatMap fun p=>[rest c p o.lY o.wlo,rest c p o.lX o.whi])).wlo,.int .i64 (fC ((aT s).flatMap fun p=>[rest c p o.lY o.wlo,rest c p o.lX o.whi])).whi] 40 (0,0)):=by rw[<- hV];exact(World.putObj_heap_other (by omega)).trans ((gu _ _ _ _ _ _ (by omega)).trans (mg g3 _ _ _ _ _ _ _ _))
  have G4:V.heap[X4.heap.size]? = some (.cells #[.int .i64 0,.int .i64 0,.int .i64 0,.int .i64 0,.int .i64 0,.int .i64 0] 56 (0,0)):=by rw[<- hV];exact(World.putObj_heap_other (by omega)).trans (mf ((gy _ _ _ _ _ _ _ _ (by omega)).trans g4) _ _ _ _ _ _)
  have hb:Below w.heap.size w V:=by rw[<- hV];exact(pO (pR hfin xX3 _ _ _ _ _ _ _ _) xX4 _ _ _ _ _ _).trans (dZ (Below.refl _ _) (by omega) _)
  clear hV
  have k3:=(ah G3).2.1
  have k4:=(ah G4).2.1
  refine⟨.tuple #[jF (fC ((aT s).flatMap fun p=>[rest c p o.lY o.wlo,rest c p o.lX o.whi])),l9 ⟨0,0,0,0,0,0⟩],?_,.inl ⟨fun p hp=>hall p hp,rfl,hb⟩⟩
  have MQ:=k3 0
  have MR:=k3 1
  have MS:=k3 2
  have MW:=k3 3
  have MX:=k3 4
  have MZ:=k3 5
  have M_:=k3 6
  have Na:=k3 7
  have Nb:=k4 0
  have Nc:=k4 1
  have Nh:=k4 2
  have Nj:=k4 3
  have Nk:=k4 4
  have Nl:=k4 5
  simp only[List.getElem?_toArray,List.getElem?_cons_zero,List.getElem?_cons_succ] at MQ MR MS MW MX MZ M_ Na Nb Nc Nh Nj Nk Nl
  simp only[results,Tryz.results132]
  simp[go_sem,MQ,MR,MS,MW,MX,MZ,M_,Na,Nb,Nc,Nh,Nj,Nk,Nl]
