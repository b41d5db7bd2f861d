/- Walks. -/
import Derived.ChangeArms
import Derived.Test.YtkjdidieiioijaaGreatK25
set_option linter.all false
set_option maxRecDepth 100000
set_option maxHeartbeats 16000000
namespace Go.Proofs.YtkjdidieiioijaaGreat.W
open Go.ChangeShapes Go.WideShapes Go.Deep Go.Proofs.YtkjdidieiioijaaGreat.B Bk L Wl Tr Dk
theorem dU:Tryz.prog.cellsOf 3=1:=by kernel_rfl
theorem yU:Tryz.prog.cellsOf 4=1:=by kernel_rfl
theorem aiy:Tryz.prog.cellsOf 35=2:=by kernel_rfl
theorem aaO:Tryz.prog.cellsOf 160=9:=by kernel_rfl
theorem afv:Tryz.prog.cellsOf 44=1:=by kernel_rfl
theorem aaT:Tryz.prog.cellsOf 46=3:=by kernel_rfl
theorem aaQ:Tryz.prog.cellsOf 223=3:=by kernel_rfl
theorem afx:Tryz.prog.cellsOf 47=1:=by kernel_rfl
theorem aaN:Tryz.prog.cellsOf 50=1:=by kernel_rfl
theorem aaR:Tryz.prog.cellsOf 184=4:=by kernel_rfl
theorem afz:Tryz.prog.cellsOf 48=1:=by kernel_rfl
theorem aaS:Tryz.prog.cellsOf 229=2:=by kernel_rfl
theorem afA:Tryz.prog.cellsOf 185=1:=by kernel_rfl
theorem aaM:Tryz.prog.cellsOf 187=5:=by kernel_rfl
theorem afu:Tryz.prog.cellsOf 49=1:=by kernel_rfl
theorem aft:Tryz.prog.cellsOf 52=7:=by kernel_rfl
theorem amg:Tryz.prog.cellsOf 38=11:=by kernel_rfl
theorem apg:Tryz.prog.cellsOf 40=8:=by kernel_rfl
theorem apf:Tryz.prog.cellsOf 43=10:=by kernel_rfl
theorem ak8:Tryz.prog.cellsOf 54=40:=by kernel_rfl
theorem amh:Tryz.prog.cellsOf 25=1:=by kernel_rfl
theorem aaP:Tryz.prog.cellsOf 217=3:=by kernel_rfl
theorem afw:Tryz.prog.cellsOf 90=1:=by kernel_rfl
theorem afs:Tryz.prog.cellsOf 92=11:=by kernel_rfl
theorem aix:Tryz.prog.cellsOf 22=1:=by kernel_rfl
theorem afy:Tryz.prog.cellsOf 24=6:=by kernel_rfl
theorem aph:Tryz.prog.cellsOf 27=10:=by kernel_rfl
section
variable {H:Type}{enc:TypeId × Value->H}{w:World}{base:Nat}{spare:Nat->Bool}{held:Bool}
theorem yX {n:Nat}{cs:List Value}{x:DataW H × List MemPlace}(h:DataW.trod enc Tryz.prog w base spare held n 4 cs=some x):∃z,cs=[.bool z]:=by
 obtain⟨z,hz,-⟩:=DataW.trod_bool Tryz.underlying4 h
 exact⟨z,hz⟩
theorem fJ {n i k off:Nat}{T:TypeId}{cs:List Value}{xs:List (DataW H × List MemPlace)}(h:DataW.trod enc Tryz.prog w base spare held n T ((cs.drop off).take (Tryz.prog.cellsOf T))=xs[i]?)(hi:i<xs.length)(hk:Tryz.prog.cellsOf T=k):DataW.trod enc Tryz.prog w base spare held n T ((cs.drop off).take k)=some xs[i]:=by
 rw[hk,List.getElem?_eq_getElem hi] at h
 exact h
theorem yY {α:Type}{m:Nat}(ac6:α->List Value)(hm:∀x,(ac6 x).length=m)(h0:0<m)(d:α){P:α->Prop}{T E:TypeId}(ht:Tryz.prog.underlying T=some (.slice E))(hc:Tryz.prog.cellsOf E=m)(op:∀{fuel:Nat}{cs:List Value}{x:DataW H × List MemPlace},DataW.trod enc Tryz.prog w base spare held fuel E cs=some x->∃r,cs=ac6 r/\P r)
    {fuel:Nat} {cs:List Value} {x:DataW H × List MemPlace} (h:DataW.trod enc Tryz.prog w base spare held fuel T cs=some x):∃v xs,cs=[v]/\gG m ac6 d w v xs/\PH v/\∀k,k<xs.length->P (xs.getD k d):=by
 rcases open_slice ht h with ⟨hn,-⟩|⟨a,len,cap,mm,n,D,Pl,hcs,hb,hl,hmx,hmm,hx,hi⟩
 . exact⟨_,[],hn,⟨none,0,rfl,by simp,fun h=>absurd h (by simp)⟩,(fun a n c e=>by cases e;exact Nat.le_refl _),fun k hk=>absurd hk (by simp)⟩
 . have hle:len<=mm:=by rw[hmm];split <;> omega
   obtain⟨xs,hxl,hxs⟩:=G.abd d (P:=fun i r=>(∀j,j<m->w.cell? ((a.add (i*m)).add j)=(ac6 r)[j]?)/\P r) len (fun i hil=>by
    obtain⟨cs',hcc,htt⟩:=hi i (by omega)
    rw[hc] at hcc
    obtain⟨r,rfl,hp⟩:=op htt
    exact⟨r,(World.cells?_some hcc).2.2,hp⟩)
   refine⟨_,xs,hcs,⟨some a,cap,by rw[hxl],by omega,fun hpos=>?_⟩,(fun a' n' c' e=>by cases e;exact hl),fun k hk=>(hxs k (by omega)).2⟩
   obtain⟨b,off,spot⟩:=a
   have hlen0:0<(ac6 (xs.getD 0 d)).length:=by rw[hm];exact h0
   have hz0:=(hxs 0 (by omega)).1 0 h0
   rw[List.getElem?_eq_getElem hlen0] at hz0
   have hs:spot=none:=by simpa [Addr.add] using World.cell?_spot hz0
   subst hs
   have hz:w.cell? ⟨b,off,none⟩=some ((ac6 (xs.getD 0 d))[0]):=by simpa [Addr.add] using hz0
   refine⟨b,off,rfl,World.block_lt_of_cell? w ⟨b,off,none⟩ hz,fun k i u hk hu=>?_⟩
   have hi3:i<m:=by rw[<- hm];exact(List.getElem?_eq_some_iff.1 hu).1
   have e:=(hxs k (by omega)).1 i hi3
   simp only[G.aeA] at e
   rw[e]
   exact hu
theorem aiB {fuel:Nat}{cs:List Value}{x:DataW H × List MemPlace}(h:DataW.trod enc Tryz.prog w base spare held fuel 160 cs=some x):∃r:Pa,cs=Qx r:=by
 obtain⟨xs,n,-,-,hlen,hxl,hf⟩:=DataW.trod_struct Tryz.underlying160 h
 rw[aaO] at hlen
 have hx:xs.length=9:=hxl
 have f0:=fJ (hf 0 _ rfl) (by omega) dU
 have f1:=fJ (hf 1 _ rfl) (by omega) dU
 have f2:=fJ (hf 2 _ rfl) (by omega) yU
 have f3:=fJ (hf 3 _ rfl) (by omega) yU
 have f4:=fJ (hf 4 _ rfl) (by omega) dU
 have f5:=fJ (hf 5 _ rfl) (by omega) dU
 have f6:=fJ (hf 6 _ rfl) (by omega) yU
 have f7:=fJ (hf 7 _ rfl) (by omega) dU
 have f8:=fJ (hf 8 _ rfl) (by omega) dU
 dsimp at f0 f1 f2 f3 f4 f5 f6 f7 f8
 clear hf
 match cs,hlen,f0,f1,f2,f3,f4,f5,f6,f7,f8 with
 | [ce0,ce1,ce2,ce3,ce4,ce5,ce6,ce7,ce8],_,f0,f1,f2,f3,f4,f5,f6,f7,f8 =>
  obtain⟨z0,e0⟩:=G.open_int f0
  obtain⟨z1,e1⟩:=G.open_int f1
  obtain⟨z2,e2⟩:=yX f2
  obtain⟨z3,e3⟩:=yX f3
  obtain⟨z4,e4⟩:=G.open_int f4
  obtain⟨z5,e5⟩:=G.open_int f5
  obtain⟨z6,e6⟩:=yX f6
  obtain⟨z7,e7⟩:=G.open_int f7
  obtain⟨z8,e8⟩:=G.open_int f8
  simp only[List.drop_zero,List.drop_succ_cons,List.take_succ_cons,List.take_zero,List.cons.injEq,and_true] at e0 e1 e2 e3 e4 e5 e6 e7 e8
  obtain rfl:=e0
  obtain rfl:=e1
  obtain rfl:=e2
  obtain rfl:=e3
  obtain rfl:=e4
  obtain rfl:=e5
  obtain rfl:=e6
  obtain rfl:=e7
  obtain rfl:=e8
  exact⟨⟨z0,z1,z2,z3,z4,z5,z6,z7,z8⟩,rfl⟩
theorem afJ {fuel:Nat}{cs:List Value}{x:DataW H × List MemPlace}(h:DataW.trod enc Tryz.prog w base spare held fuel 44 cs=some x):∃v xs,cs=[v]/\mY w v xs:=by
 obtain⟨v,xs,h1,h2,h3,h4⟩:=yY (m:=9) (Qx) (fun _=>rfl) (by decide) (⟨0,0,false,false,0,0,false,0,0⟩) (P:=fun _=>True) Tryz.underlying44 aaO (fun h=>by obtain⟨r,hr⟩:=aiB h;exact⟨r,hr,trivial⟩) h
 exact⟨v,xs,h1,h2⟩
theorem aiG {fuel:Nat}{cs:List Value}{x:DataW H × List MemPlace}(h:DataW.trod enc Tryz.prog w base spare held fuel 46 cs=some x):∃(we:We)(pv:Value),cs=[.int .i64 we.aS,.int .i64 we.need,pv]/\mY w pv we.parts:=by
 obtain⟨xs,n,-,-,hlen,hxl,hf⟩:=DataW.trod_struct Tryz.underlying46 h
 rw[aaT] at hlen
 have hx:xs.length=3:=hxl
 have f0:=fJ (hf 0 _ rfl) (by omega) dU
 have f1:=fJ (hf 1 _ rfl) (by omega) dU
 have f2:=fJ (hf 2 _ rfl) (by omega) afv
 dsimp at f0 f1 f2
 clear hf
 match cs,hlen,f0,f1,f2 with
 | [ce0,ce1,ce2],_,f0,f1,f2 =>
  obtain⟨z0,e0⟩:=G.open_int f0
  obtain⟨z1,e1⟩:=G.open_int f1
  obtain⟨v2,l2,e2,h2⟩:=afJ f2
  simp only[List.drop_zero,List.drop_succ_cons,List.take_succ_cons,List.take_zero,List.cons.injEq,and_true] at e0 e1 e2
  obtain rfl:=e0
  obtain rfl:=e1
  obtain rfl:=e2
  exact⟨⟨z0,z1,l2⟩,_,rfl,h2⟩
theorem aiD {fuel:Nat}{cs:List Value}{x:DataW H × List MemPlace}(h:DataW.trod enc Tryz.prog w base spare held fuel 223 cs=some x):∃r:Se,cs=Nz r:=by
 obtain⟨xs,n,-,-,hlen,hxl,hf⟩:=DataW.trod_struct Tryz.underlying223 h
 rw[aaQ] at hlen
 have hx:xs.length=3:=hxl
 have f0:=fJ (hf 0 _ rfl) (by omega) dU
 have f1:=fJ (hf 1 _ rfl) (by omega) dU
 have f2:=fJ (hf 2 _ rfl) (by omega) yU
 dsimp at f0 f1 f2
 clear hf
 match cs,hlen,f0,f1,f2 with
 | [ce0,ce1,ce2],_,f0,f1,f2 =>
  obtain⟨z0,e0⟩:=G.open_int f0
  obtain⟨z1,e1⟩:=G.open_int f1
  obtain⟨z2,e2⟩:=yX f2
  simp only[List.drop_zero,List.drop_succ_cons,List.take_succ_cons,List.take_zero,List.cons.injEq,and_true] at e0 e1 e2
  obtain rfl:=e0
  obtain rfl:=e1
  obtain rfl:=e2
  exact⟨⟨z0,z1,z2⟩,rfl⟩
theorem afL {fuel:Nat}{cs:List Value}{x:DataW H × List MemPlace}(h:DataW.trod enc Tryz.prog w base spare held fuel 47 cs=some x):∃v xs,cs=[v]/\V4 w v xs:=by
 obtain⟨v,xs,h1,h2,h3,h4⟩:=yY (m:=3) (Nz) (fun _=>rfl) (by decide) (⟨0,0,false⟩) (P:=fun _=>True) Tryz.underlying47 aaQ (fun h=>by obtain⟨r,hr⟩:=aiD h;exact⟨r,hr,trivial⟩) h
 exact⟨v,xs,h1,h2⟩
theorem aaU {fuel:Nat}{cs:List Value}{x:DataW H × List MemPlace}(h:DataW.trod enc Tryz.prog w base spare held fuel 50 cs=some x):∃v xs,cs=[v]/\bK w v xs:=by
 obtain⟨v,xs,h1,h2,h3,h4⟩:=yY (m:=1) (agf) (fun _=>rfl) (by decide) (0) (P:=fun _=>True) Tryz.underlying50 dU (fun h=>by obtain⟨r,hr⟩:=G.open_int h;exact⟨r,hr,trivial⟩) h
 exact⟨v,xs,h1,h2⟩
theorem aiE {fuel:Nat}{cs:List Value}{x:DataW H × List MemPlace}(h:DataW.trod enc Tryz.prog w base spare held fuel 184 cs=some x):∃r:VV,cs=zC r/\bK w r.1 r.2.aO:=by
 obtain⟨xs,n,-,-,hlen,hxl,hf⟩:=DataW.trod_struct Tryz.underlying184 h
 rw[aaR] at hlen
 have hx:xs.length=4:=hxl
 have f0:=fJ (hf 0 _ rfl) (by omega) aaN
 have f1:=fJ (hf 1 _ rfl) (by omega) dU
 have f2:=fJ (hf 2 _ rfl) (by omega) dU
 have f3:=fJ (hf 3 _ rfl) (by omega) yU
 dsimp at f0 f1 f2 f3
 clear hf
 match cs,hlen,f0,f1,f2,f3 with
 | [ce0,ce1,ce2,ce3],_,f0,f1,f2,f3 =>
  obtain⟨v0,l0,e0,h0⟩:=aaU f0
  obtain⟨z1,e1⟩:=G.open_int f1
  obtain⟨z2,e2⟩:=G.open_int f2
  obtain⟨z3,e3⟩:=yX f3
  simp only[List.drop_zero,List.drop_succ_cons,List.take_succ_cons,List.take_zero,List.cons.injEq,and_true] at e0 e1 e2 e3
  obtain rfl:=e0
  obtain rfl:=e1
  obtain rfl:=e2
  obtain rfl:=e3
  exact⟨(_,⟨l0,z1,z2,z3⟩),rfl,h0⟩
theorem afM {fuel:Nat}{cs:List Value}{x:DataW H × List MemPlace}(h:DataW.trod enc Tryz.prog w base spare held fuel 48 cs=some x):∃v xs,cs=[v]/\PQ w v xs:=by
 obtain⟨v,xs,h1,h2,h3,h4⟩:=yY (m:=4) (zC) (fun _=>rfl) (by decide) ((.slice none 0 0,⟨[],0,0,false⟩)) (P:=fun r=>bK w r.1 r.2.aO) Tryz.underlying48 aaR (fun h=>aiE h) h
 exact⟨v,xs,h1,⟨h2,h4⟩⟩
theorem aiF {fuel:Nat}{cs:List Value}{x:DataW H × List MemPlace}(h:DataW.trod enc Tryz.prog w base spare held fuel 229 cs=some x):∃r:Wn,cs=RQ r:=by
 obtain⟨xs,n,-,-,hlen,hxl,hf⟩:=DataW.trod_struct Tryz.underlying229 h
 rw[aaS] at hlen
 have hx:xs.length=2:=hxl
 have f0:=fJ (hf 0 _ rfl) (by omega) dU
 have f1:=fJ (hf 1 _ rfl) (by omega) yU
 dsimp at f0 f1
 clear hf
 match cs,hlen,f0,f1 with
 | [ce0,ce1],_,f0,f1 =>
  obtain⟨z0,e0⟩:=G.open_int f0
  obtain⟨z1,e1⟩:=yX f1
  simp only[List.drop_zero,List.drop_succ_cons,List.take_succ_cons,List.take_zero,List.cons.injEq,and_true] at e0 e1
  obtain rfl:=e0
  obtain rfl:=e1
  exact⟨⟨z0,z1⟩,rfl⟩
theorem afN {fuel:Nat}{cs:List Value}{x:DataW H × List MemPlace}(h:DataW.trod enc Tryz.prog w base spare held fuel 185 cs=some x):∃v xs,cs=[v]/\(uD w v xs/\PH v):=by
 obtain⟨v,xs,h1,h2,h3,h4⟩:=yY (m:=2) (RQ) (fun _=>rfl) (by decide) (⟨0,false⟩) (P:=fun _=>True) Tryz.underlying185 aaS (fun h=>by obtain⟨r,hr⟩:=aiF h;exact⟨r,hr,trivial⟩) h
 exact⟨v,xs,h1,⟨h2,h3⟩⟩
theorem aiA {fuel:Nat}{cs:List Value}{x:DataW H × List MemPlace}(h:DataW.trod enc Tryz.prog w base spare held fuel 187 cs=some x):∃r:MV,cs=zh r/\(uD w r.1 r.2.wants/\PH r.1):=by
 obtain⟨xs,n,-,-,hlen,hxl,hf⟩:=DataW.trod_struct Tryz.underlying187 h
 rw[aaM] at hlen
 have hx:xs.length=5:=hxl
 have f0:=fJ (hf 0 _ rfl) (by omega) dU
 have f1:=fJ (hf 1 _ rfl) (by omega) dU
 have f2:=fJ (hf 2 _ rfl) (by omega) afA
 have f3:=fJ (hf 3 _ rfl) (by omega) dU
 have f4:=fJ (hf 4 _ rfl) (by omega) dU
 dsimp at f0 f1 f2 f3 f4
 clear hf
 match cs,hlen,f0,f1,f2,f3,f4 with
 | [ce0,ce1,ce2,ce3,ce4],_,f0,f1,f2,f3,f4 =>
  obtain⟨z0,e0⟩:=G.open_int f0
  obtain⟨z1,e1⟩:=G.open_int f1
  obtain⟨v2,l2,e2,h2⟩:=afN f2
  obtain⟨z3,e3⟩:=G.open_int f3
  obtain⟨z4,e4⟩:=G.open_int f4
  simp only[List.drop_zero,List.drop_succ_cons,List.take_succ_cons,List.take_zero,List.cons.injEq,and_true] at e0 e1 e2 e3 e4
  obtain rfl:=e0
  obtain rfl:=e1
  obtain rfl:=e2
  obtain rfl:=e3
  obtain rfl:=e4
  exact⟨(_,⟨z0,z1,l2,z3,z4⟩),rfl,h2⟩
theorem afI {fuel:Nat}{cs:List Value}{x:DataW H × List MemPlace}(h:DataW.trod enc Tryz.prog w base spare held fuel 49 cs=some x):∃v xs,cs=[v]/\Si w v xs:=by
 obtain⟨v,xs,h1,h2,h3,h4⟩:=yY (m:=5) (zh) (fun _=>rfl) (by decide) ((.slice none 0 0,⟨0,0,[],0,0⟩)) (P:=fun r=>uD w r.1 r.2.wants/\PH r.1) Tryz.underlying49 aaM (fun h=>aiA h) h
 exact⟨v,xs,h1,⟨h2,fun k hk=>(h4 k hk).1,fun k hk=>(h4 k hk).2⟩⟩
theorem amk {fuel:Nat}{cs:List Value}{x:DataW H × List MemPlace}(h:DataW.trod enc Tryz.prog w base spare held fuel 52 cs=some x):∃(m:iY)(s v y o:Value),cs=[s,v,y,.int .i64 m.states,.int .i64 m.cmds,.int .i64 m.begin,o]/\Aq w s v y o m:=by
 obtain⟨xs,n,-,-,hlen,hxl,hf⟩:=DataW.trod_struct Tryz.underlying52 h
 rw[aft] at hlen
 have hx:xs.length=7:=hxl
 have f0:=fJ (hf 0 _ rfl) (by omega) afx
 have f1:=fJ (hf 1 _ rfl) (by omega) afz
 have f2:=fJ (hf 2 _ rfl) (by omega) afu
 have f3:=fJ (hf 3 _ rfl) (by omega) dU
 have f4:=fJ (hf 4 _ rfl) (by omega) dU
 have f5:=fJ (hf 5 _ rfl) (by omega) dU
 have f6:=fJ (hf 6 _ rfl) (by omega) aaN
 dsimp at f0 f1 f2 f3 f4 f5 f6
 clear hf
 match cs,hlen,f0,f1,f2,f3,f4,f5,f6 with
 | [ce0,ce1,ce2,ce3,ce4,ce5,ce6],_,f0,f1,f2,f3,f4,f5,f6 =>
  obtain⟨v0,l0,e0,h0⟩:=afL f0
  obtain⟨v1,l1,e1,h1⟩:=afM f1
  obtain⟨v2,l2,e2,h2⟩:=afI f2
  obtain⟨z3,e3⟩:=G.open_int f3
  obtain⟨z4,e4⟩:=G.open_int f4
  obtain⟨z5,e5⟩:=G.open_int f5
  obtain⟨v6,l6,e6,h6⟩:=aaU f6
  simp only[List.drop_zero,List.drop_succ_cons,List.take_succ_cons,List.take_zero,List.cons.injEq,and_true] at e0 e1 e2 e3 e4 e5 e6
  obtain rfl:=e0
  obtain rfl:=e1
  obtain rfl:=e2
  obtain rfl:=e3
  obtain rfl:=e4
  obtain rfl:=e5
  obtain rfl:=e6
  exact⟨⟨l0,l1,l2,z3,z4,z5,l6⟩,_,_,_,_,rfl,⟨h0,h1,h2,h6⟩⟩
theorem apq {fuel:Nat}{cs:List Value}{x:DataW H × List MemPlace}(h:DataW.trod enc Tryz.prog w base spare held fuel 54 cs=some x):∃r:DC,cs=nZ r/\MJ w r:=by
 obtain⟨xs,n,-,-,hlen,hxl,hf⟩:=DataW.trod_struct Tryz.underlying54 h
 rw[ak8] at hlen
 have hx:xs.length=6:=hxl
 have f0:=fJ (hf 0 _ rfl) (by omega) amg
 have f1:=fJ (hf 1 _ rfl) (by omega) apg
 have f2:=fJ (hf 2 _ rfl) (by omega) apf
 have f3:=fJ (hf 3 _ rfl) (by omega) aaT
 have f4:=fJ (hf 4 _ rfl) (by omega) dU
 have f5:=fJ (hf 5 _ rfl) (by omega) aft
 dsimp at f0 f1 f2 f3 f4 f5
 clear hf
 match cs,hlen,f0,f1,f2,f3,f4,f5 with
 | ce0 :: ce1 :: ce2 :: ce3 :: ce4 :: ce5 :: ce6 :: ce7 :: ce8 :: ce9 :: arY :: av7 :: av8 :: av9 :: av_ :: av' :: awc :: awd :: awe :: awf :: awg :: awh :: awi :: awj :: awk :: awl :: awm :: awn :: awo :: awp :: awq :: awr :: aws :: awt :: awu :: awv :: aww :: awx :: awy :: awz :: [],_,f0,f1,f2,f3,f4,f5 =>
  obtain⟨z0,e0⟩:=G.adx f0
  obtain⟨z1,e1⟩:=G.agL f1
  obtain⟨z2,e2⟩:=G.agK f2
  obtain⟨z3,v3,e3,h3⟩:=aiG f3
  obtain⟨z4,e4⟩:=G.open_int f4
  obtain⟨z5,va,vb,vc,vd,e5,h5⟩:=amk f5
  simp only[List.drop_zero,List.drop_succ_cons,List.take_succ_cons,List.take_zero,List.cons.injEq,and_true] at e0 e1 e2 e3 e4 e5
  obtain⟨rfl,rfl,rfl,rfl,rfl,rfl,rfl,rfl,rfl,rfl,rfl⟩:=e0
  obtain⟨rfl,rfl,rfl,rfl,rfl,rfl,rfl,rfl⟩:=e1
  obtain⟨rfl,rfl,rfl,rfl,rfl,rfl,rfl,rfl,rfl,rfl⟩:=e2
  obtain⟨rfl,rfl,rfl⟩:=e3
  obtain rfl:=e4
  obtain⟨rfl,rfl,rfl,rfl,rfl,rfl,rfl⟩:=e5
  exact⟨⟨z0,z1,z2,z3,z4,z5,_,_,_,_,_⟩,rfl,⟨h3,h5⟩⟩
theorem amj {fuel:Nat}{cs:List Value}{x:DataW H × List MemPlace}(h:DataW.trod enc Tryz.prog w base spare held fuel 25 cs=some x):∃v xs,cs=[v]/\GG w v xs:=by
 obtain⟨v,xs,h1,h2,h3,h4⟩:=yY (m:=40) (nZ) (fun _=>rfl) (by decide) (dc0) (P:=fun r=>MJ w r) Tryz.underlying25 ak8 (fun h=>apq h) h
 exact⟨v,xs,h1,⟨h2,h4⟩⟩
theorem aiC {fuel:Nat}{cs:List Value}{x:DataW H × List MemPlace}(h:DataW.trod enc Tryz.prog w base spare held fuel 217 cs=some x):∃r:Rt,cs=ZT r:=by
 obtain⟨xs,n,-,-,hlen,hxl,hf⟩:=DataW.trod_struct Tryz.underlying217 h
 rw[aaP] at hlen
 have hx:xs.length=3:=hxl
 have f0:=fJ (hf 0 _ rfl) (by omega) dU
 have f1:=fJ (hf 1 _ rfl) (by omega) dU
 have f2:=fJ (hf 2 _ rfl) (by omega) dU
 dsimp at f0 f1 f2
 clear hf
 match cs,hlen,f0,f1,f2 with
 | [ce0,ce1,ce2],_,f0,f1,f2 =>
  obtain⟨z0,e0⟩:=G.open_int f0
  obtain⟨z1,e1⟩:=G.open_int f1
  obtain⟨z2,e2⟩:=G.open_int f2
  simp only[List.drop_zero,List.drop_succ_cons,List.take_succ_cons,List.take_zero,List.cons.injEq,and_true] at e0 e1 e2
  obtain rfl:=e0
  obtain rfl:=e1
  obtain rfl:=e2
  exact⟨⟨z0,z1,z2⟩,rfl⟩
theorem afK {fuel:Nat}{cs:List Value}{x:DataW H × List MemPlace}(h:DataW.trod enc Tryz.prog w base spare held fuel 90 cs=some x):∃v xs,cs=[v]/\uC w v xs:=by
 obtain⟨v,xs,h1,h2,h3,h4⟩:=yY (m:=3) (ZT) (fun _=>rfl) (by decide) (⟨0,0,0⟩) (P:=fun _=>True) Tryz.underlying90 aaP (fun h=>by obtain⟨r,hr⟩:=aiC h;exact⟨r,hr,trivial⟩) h
 exact⟨v,xs,h1,h2⟩
theorem ami {fuel:Nat}{cs:List Value}{x:DataW H × List MemPlace}(h:DataW.trod enc Tryz.prog w base spare held fuel 92 cs=some x):∃r:CV,cs=GV r/\uC w r.1 r.2.aC:=by
 obtain⟨xs,n,-,-,hlen,hxl,hf⟩:=DataW.trod_struct Tryz.underlying92 h
 rw[afs] at hlen
 have hx:xs.length=10:=hxl
 have f0:=fJ (hf 0 _ rfl) (by omega) yU
 have f1:=fJ (hf 1 _ rfl) (by omega) dU
 have f2:=fJ (hf 2 _ rfl) (by omega) aiy
 have f3:=fJ (hf 3 _ rfl) (by omega) afw
 have f4:=fJ (hf 4 _ rfl) (by omega) dU
 have f5:=fJ (hf 5 _ rfl) (by omega) dU
 have f6:=fJ (hf 6 _ rfl) (by omega) dU
 have f7:=fJ (hf 7 _ rfl) (by omega) dU
 have f8:=fJ (hf 8 _ rfl) (by omega) dU
 have f9:=fJ (hf 9 _ rfl) (by omega) dU
 dsimp at f0 f1 f2 f3 f4 f5 f6 f7 f8 f9
 clear hf
 match cs,hlen,f0,f1,f2,f3,f4,f5,f6,f7,f8,f9 with
 | [ce0,ce1,ce2,ce3,ce4,ce5,ce6,ce7,ce8,ce9,arY],_,f0,f1,f2,f3,f4,f5,f6,f7,f8,f9 =>
  obtain⟨z0,e0⟩:=yX f0
  obtain⟨z1,e1⟩:=G.open_int f1
  obtain⟨y2,z2,e2⟩:=G.kU f2
  obtain⟨v3,l3,e3,h3⟩:=afK f3
  obtain⟨z4,e4⟩:=G.open_int f4
  obtain⟨z5,e5⟩:=G.open_int f5
  obtain⟨z6,e6⟩:=G.open_int f6
  obtain⟨z7,e7⟩:=G.open_int f7
  obtain⟨z8,e8⟩:=G.open_int f8
  obtain⟨z9,e9⟩:=G.open_int f9
  simp only[List.drop_zero,List.drop_succ_cons,List.take_succ_cons,List.take_zero,List.cons.injEq,and_true] at e0 e1 e2 e3 e4 e5 e6 e7 e8 e9
  obtain rfl:=e0
  obtain rfl:=e1
  obtain⟨rfl,rfl⟩:=e2
  obtain rfl:=e3
  obtain rfl:=e4
  obtain rfl:=e5
  obtain rfl:=e6
  obtain rfl:=e7
  obtain rfl:=e8
  obtain rfl:=e9
  exact⟨(_,⟨z0,z1,y2,z2,l3,z4,z5,z6,z7,z8,z9⟩),rfl,h3⟩
theorem aiz {fuel:Nat}{cs:List Value}{x:DataW H × List MemPlace}(h:DataW.trod enc Tryz.prog w base spare held fuel 22 cs=some x):∃v xs,cs=[v]/\iP w v xs:=by
 obtain⟨v,xs,h1,h2,h3,h4⟩:=yY (m:=11) (GV) (fun _=>rfl) (by decide) ((.slice none 0 0,⟨false,0,0,0,[],0,0,0,0,0,0⟩)) (P:=fun r=>uC w r.1 r.2.aC) Tryz.underlying22 afs (fun h=>ami h) h
 exact⟨v,xs,h1,⟨h2,h4⟩⟩
theorem aml {fuel:Nat}{cs:List Value}{x:DataW H × List MemPlace}(h:DataW.trod enc Tryz.prog w base spare held fuel 24 cs=some x):∃(s:Gy)(cv:Value),cs=[.int .i64 s.space,.int .i64 s.iq,.int .i64 s.out,.int .i64 s.lead,.int .i64 s.fuel,cv]/\iP w cv s.cons:=by
 obtain⟨xs,n,-,-,hlen,hxl,hf⟩:=DataW.trod_struct Tryz.underlying24 h
 rw[afy] at hlen
 have hx:xs.length=6:=hxl
 have f0:=fJ (hf 0 _ rfl) (by omega) dU
 have f1:=fJ (hf 1 _ rfl) (by omega) dU
 have f2:=fJ (hf 2 _ rfl) (by omega) dU
 have f3:=fJ (hf 3 _ rfl) (by omega) dU
 have f4:=fJ (hf 4 _ rfl) (by omega) dU
 have f5:=fJ (hf 5 _ rfl) (by omega) aix
 dsimp at f0 f1 f2 f3 f4 f5
 clear hf
 match cs,hlen,f0,f1,f2,f3,f4,f5 with
 | [ce0,ce1,ce2,ce3,ce4,ce5],_,f0,f1,f2,f3,f4,f5 =>
  obtain⟨z0,e0⟩:=G.open_int f0
  obtain⟨z1,e1⟩:=G.open_int f1
  obtain⟨z2,e2⟩:=G.open_int f2
  obtain⟨z3,e3⟩:=G.open_int f3
  obtain⟨z4,e4⟩:=G.open_int f4
  obtain⟨v5,l5,e5,h5⟩:=aiz f5
  simp only[List.drop_zero,List.drop_succ_cons,List.take_succ_cons,List.take_zero,List.cons.injEq,and_true] at e0 e1 e2 e3 e4 e5
  obtain rfl:=e0
  obtain rfl:=e1
  obtain rfl:=e2
  obtain rfl:=e3
  obtain rfl:=e4
  obtain rfl:=e5
  exact⟨⟨z0,z1,z2,z3,z4,l5⟩,_,rfl,h5⟩
theorem apr {fuel:Nat}{cs:List Value}{x:DataW H × List MemPlace}(h:DataW.trod enc Tryz.prog w base spare held fuel 27 cs=some x):∃(k:Wk)(cv vv:Value),cs=[.int .i64 k.st.space,.int .i64 k.st.iq,.int .i64 k.st.out,.int .i64 k.st.lead,.int .i64 k.st.fuel,cv,vv,.int .i64 k.long,.int .i64 k.day,.int .i64 k.meter]/\PR w cv vv k:=by
 obtain⟨xs,n,-,-,hlen,hxl,hf⟩:=DataW.trod_struct Tryz.underlying27 h
 rw[aph] at hlen
 have hx:xs.length=5:=hxl
 have f0:=fJ (hf 0 _ rfl) (by omega) afy
 have f1:=fJ (hf 1 _ rfl) (by omega) amh
 have f2:=fJ (hf 2 _ rfl) (by omega) dU
 have f3:=fJ (hf 3 _ rfl) (by omega) dU
 have f4:=fJ (hf 4 _ rfl) (by omega) dU
 dsimp at f0 f1 f2 f3 f4
 clear hf
 match cs,hlen,f0,f1,f2,f3,f4 with
 | [ce0,ce1,ce2,ce3,ce4,ce5,ce6,ce7,ce8,ce9],_,f0,f1,f2,f3,f4 =>
  obtain⟨z0,v0,e0,h0⟩:=aml f0
  obtain⟨v1,l1,e1,h1⟩:=amj f1
  obtain⟨z2,e2⟩:=G.open_int f2
  obtain⟨z3,e3⟩:=G.open_int f3
  obtain⟨z4,e4⟩:=G.open_int f4
  simp only[List.drop_zero,List.drop_succ_cons,List.take_succ_cons,List.take_zero,List.cons.injEq,and_true] at e0 e1 e2 e3 e4
  obtain⟨rfl,rfl,rfl,rfl,rfl,rfl⟩:=e0
  obtain rfl:=e1
  obtain rfl:=e2
  obtain rfl:=e3
  obtain rfl:=e4
  exact⟨⟨z0,l1,z2,z3,z4⟩,_,_,rfl,⟨h0,h1⟩⟩
theorem ajO {r:Reach}{b0:Nat}{v:Value}{d:DataW H}{p:List MemPlace}(hv:Value.okWide Tryz.prog w r b0 27 v)(h:DataW.Trod enc Tryz.prog w base spare held 27 v d p):∃k cv vv,v=wkV cv vv k/\PR w cv vv k:=by
 obtain⟨cs,rfl,hsz⟩:=okWide_struct Tryz.underlying27 hv
 obtain⟨cs⟩:=cs
 obtain⟨fuel,hf⟩:=h
 have hf':DataW.trod enc Tryz.prog w base spare held fuel 27 cs=some (d,p):=by simpa [Value.cells] using hf
 obtain⟨k,cv,vv,rfl,hk⟩:=apr hf'
 exact⟨k,cv,vv,rfl,hk⟩
end
end Go.Proofs.YtkjdidieiioijaaGreat.W
namespace Go.Proofs.YtkjdidieiioijaaGreat.B
open Go.RowKit Go.Sd Wl Bk L Tr Dk
attribute [local go_sem] Oper.semAt_some
theorem aei (we:We)(pv:Value)(w:World)(hp:mY w pv we.parts):Calls Tryz.prog 141 #[weV pv we] w (dI (.int .i64 (if we.ok=true then 0 else 2)) w):=by
 obtain⟨W,hW⟩:=aG (w.alloc (.cells #[.int .i64 we.aS,.int .i64 we.need,pv] 46))
 obtain⟨e,bW,z⟩:=boxedB hW
 obtain⟨p0,p1,p2⟩:=TS e
 have kV:=ai (XU we pv W (hp.mono bW))
 obtain⟨pa,pc,rfl,-,-⟩:=hp
 have hb:=ai bW
 clear e bW
 cases hm:we.ok
 all_goals
  rw[hm] at kV
  go_enter Tryz.func141,Tryz.ntmps141
  go_wp2_with (go_at_call 107;(with_reducible refine ax kV.out ?_);rintro e w' ⟨t,rfl,ht,hB⟩;(have ht2:=ht.out);clear ht;subst ht2)
  go_ret
  exact⟨by simp,aj hb.out hB⟩
theorem acS (s:Gy)(cv:Value)(w:World)(hc:iP w cv s.cons):Calls Tryz.prog 90 #[RI cv s] w (dI (.int .i64 (if s.ok=true then 0 else 2)) w):=by
 obtain⟨W,hW⟩:=aG (w.alloc (ZZ cv s))
 obtain⟨e,bW,z⟩:=boxedB hW
 obtain⟨p0,p1,p2,p3,p4,p5⟩:=oN e
 have kV:=ai (Sm s cv W (hc.mono bW))
 obtain⟨pa,pc,rfl,-,-⟩:=hc.els
 have hb:=ai bW
 clear e bW hc
 cases hm:s.ok
 all_goals
  rw[hm] at kV
  go_enter Tryz.func90,Tryz.ntmps90
  go_wp2_with (go_at_call 103;(with_reducible refine ax kV.out ?_);rintro e w' ⟨t,rfl,ht,hB⟩;(have ht2:=ht.out);clear ht;subst ht2)
  go_ret
  exact⟨by simp,aj hb.out hB⟩
theorem alZ (a b c:Int)(w:World):Calls Tryz.prog 38 #[.int .i64 a,.int .i64 b,.int .i64 c] w (iM (inB a b c) w):=by
 by_cases h:b<=a
 . go_enter Tryz.func38,Tryz.ntmps38
   go_wp2
   go_ret
   exact⟨_,rfl,ai (by unfold Wl.inB;simp[h] <;> omega),rfl⟩
 . go_enter Tryz.func38,Tryz.ntmps38
   go_wp2
   go_ret
   exact⟨_,rfl,ai (by unfold Wl.inB;simp[h] <;> omega),rfl⟩
theorem nG {a b c:Int}{t:Bool}(h:inB a b c=t)(w:World):Calls Tryz.prog 38 #[.int .i64 a,.int .i64 b,.int .i64 c] w fun e w'=>e=.returned (.bool t)/\w=w' :=
 (alZ a b c w).mono fun e w' ⟨t',he,ht,hw⟩=>⟨by rw[he,<- ht.out,h],hw⟩
theorem below_alloc2 {W X:World}(A B:Obj)(h:Below W.heap.size W X):Below W.heap.size W ((X.alloc A).alloc B):=(h.alloc h.size A).alloc (by have:=h.size;simp;omega) B
theorem ad6 (c:bz.d_)(s:bz.St):(uz c s).2=if (c.ok && s.ok)=true then 0 else 2:=by
 unfold uz
 split <;> rfl
theorem YU (d:DC)(w:World)(h:MJ w d):Calls Tryz.prog 93 #[dcV d] w (aB d.ok w):=by
 obtain⟨W,hW⟩:=aG (w.alloc (dcO d))
 obtain⟨e,bW,z⟩:=boxedB hW
 have hrg:=ai fun(X:World) (hX:Below W.heap.size W X)=>Me (ak hX e)
 obtain⟨n0,n1,n2,n3,n4,n5,n6,n7,n8,n9,n10,n11,n12,n13,n14,n15,n16,n17,n18,n19,n20,n21,n22,n23,n24,n25,n26,n27,n28,n29,n30,n31,n32,n33,n34,n35,n36,n37,n38,n39⟩:=Me e
 have hBw:=ai bW
 have nS:=ai (h.mono bW)
 have kS:=ai (JQ d.c d.s W)
 have kD:=ai (fun X=>Vp d.c d.s d.r X)
 have kW:=ai fun(X:World) (hX:Below W.heap.size W X)=>aei d.we d.pv X (nS.out.parts.mono hX)
 have kT:=ai fun(X:World) (hX:Below W.heap.size W X)=>ad_ d.m d.sv d.vv d.mv d.ov X (nS.out.Rq.mono hX)
 have hse:=ai (ad6 d.c d.s)
 have hde:=ai (@aap d.c d.s d.r)
 have hex:Hid (d.ok=(d.c.ok && d.s.ok && (d.r.ok && decide (d.r.kind=3)) && (d.we.ok && inB d.line 2 (d.we.aS - 1) && d.m.ok))):=ai rfl
 clear e bW h
 obtain⟨r,hr⟩:=aG (uz d.c d.s)
 rw[hr] at kS hse
 obtain⟨ru,re⟩:=r
 obtain⟨⟨ns,no,ne⟩,hn⟩:∃r,CY d.c d.s d.r=r:=⟨_,rfl⟩
 rw[hn] at kD hde
 replace hr:=ai hr
 replace hn:=ai hn
 obtain⟨b1,hb1⟩:=aG ((d.c.ok && d.s.ok))
 have he1:re=if b1=true then 0 else 2:=by rw[<- hb1];exact hse.out
 have adk:ne=2↔(b1 && d.r.ok)=false:=by rw[<- hb1];exact hde.out
 clear hse hde
 cases b1
 . have hf:Hid (d.ok=false):=ai (by rw[hex.out,hb1];rfl)
   have he2:re=2:=by simpa using he1
   subst he2
   clear he1 adk hb1
   go_enter Tryz.func93,Tryz.ntmps93
   go_wp2_with (go_at_call 44;(with_reducible refine ax kS.out ?_);rintro e w2 ⟨rfl,hB2⟩;(have hX2:=hB2);clear n0 n1 n2 n3 n4 n5 n6 n7 n8 n9 n10 n11 n12 n13 n14 n15 n16 n17 n18 n19 n20 n21 n22 n23 n24 n25 n26 n27 n28 n29 n30 n31 n32 n33 n34 n35 n36 n37 n38 n39;obtain⟨n0,n1,n2,n3,n4,n5,n6,n7,n8,n9,n10,n11,n12,n13,n14,n15,n16,n17,n18,n19,n20,n21,n22,n23,n24,n25,n26,n27,n28,n29,n30,n31,n32,n33,n34,n35,n36,n37,n38,n39⟩:=hrg.out _ hX2;(have z2:=bM z hX2.size))
   go_ret
   exact aB.mk hf.out (aj hBw.out hB2)
 have he2:re=0:=by simpa using he1
 subst he2
 cases h2:(ne == 2)
 case true =>
  have h3:=adk.1 (by simpa using h2)
  have hf:Hid (d.ok=false):=ai (by rw[hex.out,hb1];rw[Bool.true_and] at h3;rw[h3];rfl)
  clear he1 adk hb1 h3
  go_enter Tryz.func93,Tryz.ntmps93
  go_wp2_with (first|(go_at_call 44;(with_reducible refine ax kS.out ?_);rintro e w2 ⟨rfl,hB2⟩;(have hX2:=hB2);clear n0 n1 n2 n3 n4 n5 n6 n7 n8 n9 n10 n11 n12 n13 n14 n15 n16 n17 n18 n19 n20 n21 n22 n23 n24 n25 n26 n27 n28 n29 n30 n31 n32 n33 n34 n35 n36 n37 n38 n39;obtain⟨n0,n1,n2,n3,n4,n5,n6,n7,n8,n9,n10,n11,n12,n13,n14,n15,n16,n17,n18,n19,n20,n21,n22,n23,n24,n25,n26,n27,n28,n29,n30,n31,n32,n33,n34,n35,n36,n37,n38,n39⟩:=hrg.out _ hX2;(have z2:=bM z hX2.size))|(go_at_call 7;(with_reducible refine ax (kD.out _) ?_);rintro e w3 ⟨rfl,hB3⟩;(have lK:=aj hX2 hB3);clear n0 n1 n2 n3 n4 n5 n6 n7 n8 n9 n10 n11 n12 n13 n14 n15 n16 n17 n18 n19 n20 n21 n22 n23 n24 n25 n26 n27 n28 n29 n30 n31 n32 n33 n34 n35 n36 n37 n38 n39;obtain⟨n0,n1,n2,n3,n4,n5,n6,n7,n8,n9,n10,n11,n12,n13,n14,n15,n16,n17,n18,n19,n20,n21,n22,n23,n24,n25,n26,n27,n28,n29,n30,n31,n32,n33,n34,n35,n36,n37,n38,n39⟩:=hrg.out _ lK;(have z3:=bM z lK.size)))
  go_ret
  exact aB.mk hf.out (aj hBw.out (below_alloc2 _ _ lK))
 have hrk:d.r.ok=true:=by
  cases hh:d.r.ok
  . exact absurd (adk.2 (by rw[hh];rfl)) (by simpa using h2)
  . rfl
 cases h3:(d.r.kind != 3)
 case true =>
  have hf:Hid (d.ok=false):=ai (by
   have h4:¬ d.r.kind=3:=by simpa using h3
   rw[hex.out,hb1];simp[h4])
  clear he1 adk hb1
  go_enter Tryz.func93,Tryz.ntmps93
  go_wp2_with (first|(go_at_call 44;(with_reducible refine ax kS.out ?_);rintro e w2 ⟨rfl,hB2⟩;(have hX2:=hB2);clear n0 n1 n2 n3 n4 n5 n6 n7 n8 n9 n10 n11 n12 n13 n14 n15 n16 n17 n18 n19 n20 n21 n22 n23 n24 n25 n26 n27 n28 n29 n30 n31 n32 n33 n34 n35 n36 n37 n38 n39;obtain⟨n0,n1,n2,n3,n4,n5,n6,n7,n8,n9,n10,n11,n12,n13,n14,n15,n16,n17,n18,n19,n20,n21,n22,n23,n24,n25,n26,n27,n28,n29,n30,n31,n32,n33,n34,n35,n36,n37,n38,n39⟩:=hrg.out _ hX2;(have z2:=bM z hX2.size))|(go_at_call 7;(with_reducible refine ax (kD.out _) ?_);rintro e w3 ⟨rfl,hB3⟩;(have lK:=aj hX2 hB3);clear n0 n1 n2 n3 n4 n5 n6 n7 n8 n9 n10 n11 n12 n13 n14 n15 n16 n17 n18 n19 n20 n21 n22 n23 n24 n25 n26 n27 n28 n29 n30 n31 n32 n33 n34 n35 n36 n37 n38 n39;obtain⟨n0,n1,n2,n3,n4,n5,n6,n7,n8,n9,n10,n11,n12,n13,n14,n15,n16,n17,n18,n19,n20,n21,n22,n23,n24,n25,n26,n27,n28,n29,n30,n31,n32,n33,n34,n35,n36,n37,n38,n39⟩:=hrg.out _ lK;(have z3:=bM z lK.size)))
  go_ret
  exact aB.mk hf.out (aj hBw.out (below_alloc2 _ _ lK))
 have h4:d.r.kind=3:=by simpa using h3
 have amz:Hid (d.ok=(d.we.ok && inB d.line 2 (d.we.aS - 1) && d.m.ok)):=ai (by rw[hex.out,hb1,hrk];simp[h4])
 clear he1 adk hb1 hex h4
 cases h5:d.we.ok
 . rw[h5] at kW
   have hf:Hid (d.ok=false):=ai (by rw[amz.out,h5];rfl)
   go_enter Tryz.func93,Tryz.ntmps93
   go_wp2_with (first|(go_at_call 44;(with_reducible refine ax kS.out ?_);rintro e w2 ⟨rfl,hB2⟩;(have hX2:=hB2);clear n0 n1 n2 n3 n4 n5 n6 n7 n8 n9 n10 n11 n12 n13 n14 n15 n16 n17 n18 n19 n20 n21 n22 n23 n24 n25 n26 n27 n28 n29 n30 n31 n32 n33 n34 n35 n36 n37 n38 n39;obtain⟨n0,n1,n2,n3,n4,n5,n6,n7,n8,n9,n10,n11,n12,n13,n14,n15,n16,n17,n18,n19,n20,n21,n22,n23,n24,n25,n26,n27,n28,n29,n30,n31,n32,n33,n34,n35,n36,n37,n38,n39⟩:=hrg.out _ hX2;(have z2:=bM z hX2.size))|(go_at_call 7;(with_reducible refine ax (kD.out _) ?_);rintro e w3 ⟨rfl,hB3⟩;(have lK:=aj hX2 hB3);clear n0 n1 n2 n3 n4 n5 n6 n7 n8 n9 n10 n11 n12 n13 n14 n15 n16 n17 n18 n19 n20 n21 n22 n23 n24 n25 n26 n27 n28 n29 n30 n31 n32 n33 n34 n35 n36 n37 n38 n39;obtain⟨n0,n1,n2,n3,n4,n5,n6,n7,n8,n9,n10,n11,n12,n13,n14,n15,n16,n17,n18,n19,n20,n21,n22,n23,n24,n25,n26,n27,n28,n29,n30,n31,n32,n33,n34,n35,n36,n37,n38,n39⟩:=hrg.out _ lK;(have z3:=bM z lK.size))|(go_at_call 141;(with_reducible refine ax (kW.out _ (below_alloc2 _ _ lK)) ?_);rintro e w6 ⟨rfl,Xj⟩;(have Jq:=aj (below_alloc2 _ _ lK) Xj);(try simp only[Bool.false_eq_true,if_false,if_true]);clear n0 n1 n2 n3 n4 n5 n6 n7 n8 n9 n10 n11 n12 n13 n14 n15 n16 n17 n18 n19 n20 n21 n22 n23 n24 n25 n26 n27 n28 n29 n30 n31 n32 n33 n34 n35 n36 n37 n38 n39;obtain⟨n0,n1,n2,n3,n4,n5,n6,n7,n8,n9,n10,n11,n12,n13,n14,n15,n16,n17,n18,n19,n20,n21,n22,n23,n24,n25,n26,n27,n28,n29,n30,n31,n32,n33,n34,n35,n36,n37,n38,n39⟩:=hrg.out _ Jq;(have z6:=bM z Jq.size)))
   go_ret
   exact aB.mk hf.out (aj hBw.out Jq)
 rw[h5] at kW
 have hrm:=(We.agH h5).aS
 cases h6:inB d.line 2 (d.we.aS - 1)
 . have hf:Hid (d.ok=false):=ai (by rw[amz.out,h6];simp)
   go_enter Tryz.func93,Tryz.ntmps93
   go_wp2_with (first|(go_at_call 44;(with_reducible refine ax kS.out ?_);rintro e w2 ⟨rfl,hB2⟩;(have hX2:=hB2);clear n0 n1 n2 n3 n4 n5 n6 n7 n8 n9 n10 n11 n12 n13 n14 n15 n16 n17 n18 n19 n20 n21 n22 n23 n24 n25 n26 n27 n28 n29 n30 n31 n32 n33 n34 n35 n36 n37 n38 n39;obtain⟨n0,n1,n2,n3,n4,n5,n6,n7,n8,n9,n10,n11,n12,n13,n14,n15,n16,n17,n18,n19,n20,n21,n22,n23,n24,n25,n26,n27,n28,n29,n30,n31,n32,n33,n34,n35,n36,n37,n38,n39⟩:=hrg.out _ hX2;(have z2:=bM z hX2.size))|(go_at_call 7;(with_reducible refine ax (kD.out _) ?_);rintro e w3 ⟨rfl,hB3⟩;(have lK:=aj hX2 hB3);clear n0 n1 n2 n3 n4 n5 n6 n7 n8 n9 n10 n11 n12 n13 n14 n15 n16 n17 n18 n19 n20 n21 n22 n23 n24 n25 n26 n27 n28 n29 n30 n31 n32 n33 n34 n35 n36 n37 n38 n39;obtain⟨n0,n1,n2,n3,n4,n5,n6,n7,n8,n9,n10,n11,n12,n13,n14,n15,n16,n17,n18,n19,n20,n21,n22,n23,n24,n25,n26,n27,n28,n29,n30,n31,n32,n33,n34,n35,n36,n37,n38,n39⟩:=hrg.out _ lK;(have z3:=bM z lK.size))|(go_at_call 141;(with_reducible refine ax (kW.out _ (below_alloc2 _ _ lK)) ?_);rintro e w6 ⟨rfl,Xj⟩;(have Jq:=aj (below_alloc2 _ _ lK) Xj);(try simp only[Bool.false_eq_true,if_false,if_true]);clear n0 n1 n2 n3 n4 n5 n6 n7 n8 n9 n10 n11 n12 n13 n14 n15 n16 n17 n18 n19 n20 n21 n22 n23 n24 n25 n26 n27 n28 n29 n30 n31 n32 n33 n34 n35 n36 n37 n38 n39;obtain⟨n0,n1,n2,n3,n4,n5,n6,n7,n8,n9,n10,n11,n12,n13,n14,n15,n16,n17,n18,n19,n20,n21,n22,n23,n24,n25,n26,n27,n28,n29,n30,n31,n32,n33,n34,n35,n36,n37,n38,n39⟩:=hrg.out _ Jq;(have z6:=bM z Jq.size))|(go_at_call 38;(with_reducible refine ax (nG (by assumption) _) ?_);rintro e w' ⟨rfl,rfl⟩))
   go_ret
   exact aB.mk hf.out (aj hBw.out Jq)
 obtain⟨b7,h7⟩:=aG (d.m.ok)
 rw[h7] at kT
 have hf:Hid (d.ok=b7):=ai (by rw[amz.out,h5,h6,h7];simp)
 cases b7
 all_goals
  go_enter Tryz.func93,Tryz.ntmps93
  go_wp2_with (first|(go_at_call 44;(with_reducible refine ax kS.out ?_);rintro e w2 ⟨rfl,hB2⟩;(have hX2:=hB2);clear n0 n1 n2 n3 n4 n5 n6 n7 n8 n9 n10 n11 n12 n13 n14 n15 n16 n17 n18 n19 n20 n21 n22 n23 n24 n25 n26 n27 n28 n29 n30 n31 n32 n33 n34 n35 n36 n37 n38 n39;obtain⟨n0,n1,n2,n3,n4,n5,n6,n7,n8,n9,n10,n11,n12,n13,n14,n15,n16,n17,n18,n19,n20,n21,n22,n23,n24,n25,n26,n27,n28,n29,n30,n31,n32,n33,n34,n35,n36,n37,n38,n39⟩:=hrg.out _ hX2;(have z2:=bM z hX2.size))|(go_at_call 7;(with_reducible refine ax (kD.out _) ?_);rintro e w3 ⟨rfl,hB3⟩;(have lK:=aj hX2 hB3);clear n0 n1 n2 n3 n4 n5 n6 n7 n8 n9 n10 n11 n12 n13 n14 n15 n16 n17 n18 n19 n20 n21 n22 n23 n24 n25 n26 n27 n28 n29 n30 n31 n32 n33 n34 n35 n36 n37 n38 n39;obtain⟨n0,n1,n2,n3,n4,n5,n6,n7,n8,n9,n10,n11,n12,n13,n14,n15,n16,n17,n18,n19,n20,n21,n22,n23,n24,n25,n26,n27,n28,n29,n30,n31,n32,n33,n34,n35,n36,n37,n38,n39⟩:=hrg.out _ lK;(have z3:=bM z lK.size))|(go_at_call 141;(with_reducible refine ax (kW.out _ (below_alloc2 _ _ lK)) ?_);rintro e w6 ⟨rfl,Xj⟩;(have Jq:=aj (below_alloc2 _ _ lK) Xj);(try simp only[Bool.false_eq_true,if_false,if_true]);clear n0 n1 n2 n3 n4 n5 n6 n7 n8 n9 n10 n11 n12 n13 n14 n15 n16 n17 n18 n19 n20 n21 n22 n23 n24 n25 n26 n27 n28 n29 n30 n31 n32 n33 n34 n35 n36 n37 n38 n39;obtain⟨n0,n1,n2,n3,n4,n5,n6,n7,n8,n9,n10,n11,n12,n13,n14,n15,n16,n17,n18,n19,n20,n21,n22,n23,n24,n25,n26,n27,n28,n29,n30,n31,n32,n33,n34,n35,n36,n37,n38,n39⟩:=hrg.out _ Jq;(have z6:=bM z Jq.size))|(go_at_call 38;(with_reducible refine ax (nG (by assumption) _) ?_);rintro e w' ⟨rfl,rfl⟩)|(go_at_call 142;(with_reducible refine ax (kT.out _ Jq) ?_);rintro e w7 ⟨rfl,hB7⟩;(have hX7:=aj Jq hB7);(try simp only[Bool.false_eq_true,if_false,if_true])))
  go_ret
  exact aB.mk hf.out (aj hBw.out hX7)
