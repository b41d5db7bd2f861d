/- Walks. -/
import Derived.Test.YtkjdidieiioijaaGreatK40
set_option linter.all false
set_option maxRecDepth 100000
set_option maxHeartbeats 16000000
namespace Go.Proofs.YtkjdidieiioijaaGreat.B
open Go.RowKit Go.Sd Wl Bk L Tr Dk
attribute [local go_sem] Oper.semAt_some
theorem Ui {wk:Wk}(h:wk.ok=true):(1<=wk.aW.length/\(2<=wk.long/\wk.long<=24)/\(0<=wk.day/\wk.day<=1000))/\∀k,k<wk.aW.length->(aQ wk.aW k).ok=true:=by
 unfold Wk.ok at h
 simp only[Bool.and_eq_true,Bool.not_eq_true',List.any_eq_false,Wl.inB,decide_eq_true_eq] at h
 refine⟨by omega,fun k hk=>?_⟩
 have h1:=h.2 (aQ wk.aW k) (by unfold aQ;rw[List.getD_eq_getElem?_getD,List.getElem?_eq_getElem hk];exact List.getElem_mem _)
 simpa using h1
theorem Wx {d:DC}(h:d.ok=true):d.c.ok=true/\d.s.ok=true/\d.we.ok=true/\inB d.line 2 (d.we.aS - 1)=true/\d.m.ok=true:=by
 unfold DC.ok at h
 simp only[Bool.and_eq_true] at h
 exact⟨h.1.1.1,h.1.1.2,h.2.1.1,h.2.1.2,h.2.2⟩
def OpS (C d:Nat)(W5:World)(wk:Wk)(cv vv NJ aeH:Value)(ds:List DC)(k:Nat)(w:World):Prop:=∃rv first rs sps,OpA C d W5 ⟨wk,cv,vv,rv,NJ,aeH,first,.slice none 0 0,0,0⟩ ds rs sps k w/\rs.length=k
theorem aqL {w:World}{n:Nat}{a0 a1 a2 a3 a4 a5 a6 a7 a8 a9 a10 a11 a12 a13 a14 a15 a16 a17 a18 a19 a20 a21 a22 a23 a24 a25 a26 a27:Value}{e:TypeId}(h:w.heap[n]? = some (.cells #[a0,a1,a2,a3,a4,a5,a6,a7,a8,a9,a10,a11,a12,a13,a14,a15,a16,a17,a18,a19,a20,a21,a22,a23,a24,a25,a26,a27] e (0,0)))(b0 b1 b2 b3 b4 b5:Value) :
    ((((((w.setCell ⟨n,11,none⟩ b0).setCell ⟨n,12,none⟩ b1).setCell ⟨n,13,none⟩ b2).setCell ⟨n,14,none⟩ b3).setCell ⟨n,15,none⟩ b4).setCell ⟨n,16,none⟩ b5).heap[n]? = some (.cells #[a0,a1,a2,a3,a4,a5,a6,a7,a8,a9,a10,b0,b1,b2,b3,b4,b5,a17,a18,a19,a20,a21,a22,a23,a24,a25,a26,a27] e (0,0))/\Kept (fun j=>j≠n) w ((((((w.setCell ⟨n,11,none⟩ b0).setCell ⟨n,12,none⟩ b1).setCell ⟨n,13,none⟩ b2).setCell ⟨n,14,none⟩ b3).setCell ⟨n,15,none⟩ b4).setCell ⟨n,16,none⟩ b5):=by
 have h2:=(aX (aX (aX (aX (aX (aX h 11 b0) 12 b1) 13 b2) 14 b3) 15 b4) 16 b5)
 simp only[List.setIfInBounds_toArray,List.set_cons_zero,List.set_cons_succ] at h2
 exact⟨h2,(((((rU w n 11 b0).trans (rU _ n 12 b1)).trans (rU _ n 13 b2)).trans (rU _ n 14 b3)).trans (rU _ n 15 b4)).trans (rU _ n 16 b5)⟩
theorem WC (wk:Wk)(cv vv:Value)(w:World)(h:PR w cv vv wk)(hb:nU wk):Calls Tryz.prog 11 #[wkV cv vv wk] w fun e w'=>Below w.heap.size w w'/\((wk.ok=false/\e=.returned (.tuple #[.pointer none,.int .i64 2]))\/(wk.ok=true/\∃d r ds rs,e=.returned (.tuple #[.pointer (some ⟨d,0,none⟩),.int .i64 0])/\ed w.heap.size d r ds rs w'/\Rw wk r ds rs)):=by
 obtain⟨W,hW⟩:=aG (w.alloc (wkO cv vv wk))
 obtain⟨e1,b1,z1⟩:=boxedB hW
 have nS:=h.mono b1
 have kV:=ai (ac4 wk cv vv W nS)
 have kK:=ai fun(X:World) (hX:Below W.heap.size W X)=>ae7 wk cv vv X (nS.mono hX) hb
 have hrg:=ai fun(X:World) (hX:Below W.heap.size W X)=>uu (ak hX e1)
 obtain⟨ca0,cc0,rfl,-,-⟩:=h.cons.els
 obtain⟨va0,vc0,rfl,-,-⟩:=h.aW.els
 obtain⟨q0,q1,q2,q3,q4,q5,q6,q7,q8,q9⟩:=uu e1
 have hBw:=ai b1
 have hbr:=ai hb
 clear h hb e1 b1 nS
 cases ok:wk.ok
 . rw[ok] at kV
   go_enter Tryz.func11,Tryz.ntmps11
   go_wp2_with (fail)
   refine ax kV.out ?_
   rintro e w2 ⟨t,rfl,ht,hB2⟩
   have ht2:=ht.out
   clear ht
   subst ht2
   go_wp2_with (fail)
   go_ret2
   exact⟨aj hBw.out hB2,.inl ⟨by first|rfl|trivial,rfl⟩⟩
 . rw[ok] at kV
   go_enter Tryz.func11,Tryz.ntmps11
   go_wp2_with (fail)
   refine ax kV.out ?_
   rintro e w2 ⟨t,rfl,ht,hB2⟩
   have ht2:=ht.out
   clear ht
   subst ht2
   clear q0 q1 q2 q3 q4 q5 q6 q7 q8 q9
   obtain⟨q0,q1,q2,q3,q4,q5,q6,q7,q8,q9⟩:=hrg.out _ hB2
   have zw2:=bM z1 hB2.size
   go_wp2_with (fail)
   refine ax (kK.out _ hB2) ?_
   rintro e w3 ⟨cvv,vvv,cs,ds,rfl,hKI,hB3⟩
   obtain⟨cb,cc,hcv,-,-⟩:=hKI.cons.now.els
   obtain⟨va,vc,hvv,-,-⟩:=hKI.dcs.now.els
   obtain⟨cn,hcn⟩:=aG (cs.length)
   obtain⟨vn,hvn⟩:=aG (ds.length)
   rw[hcn] at hcv
   rw[hvn] at hvv
   subst hcv hvv
   obtain⟨W4,UQ⟩:=aG (w3.alloc (.cells #[.int .i64 wk.st.space,.int .i64 wk.st.iq,.int .i64 wk.st.out,.int .i64 wk.st.lead,.int .i64 wk.st.fuel,.slice cb cn cc,.slice va vn vc,.int .i64 wk.long,.int .i64 wk.day,.int .i64 wk.meter,.slice none 0 0,.int .i64 0,.slice none 0 0,.int .i64 0,.int .i64 0,.slice none 0 0,.slice none 0 0,.slice none 0 0,.slice none 0 0,.slice none 0 0,.int .i64 0,.int .i64 0,.int .i64 0,.slice none 0 0,.slice none 0 0,.slice none 0 0,.slice none 0 0,.bool true] 128))
   obtain⟨e4,b4,z4⟩:=boxedB UQ
   have hcl:cs.length<=8:=by
    have h1:=congrArg List.length hKI.snd
    simp only[List.length_map] at h1
    have:=hbr.out.cons
    omega
   have kB:Hid (∀X,Below W4.heap.size W4 X->Calls Tryz.prog 49 #[.agg #[.int .i64 wk.st.space,.int .i64 wk.st.iq,.int .i64 wk.st.out,.int .i64 wk.st.lead,.int .i64 wk.st.fuel,.slice cb cn cc]] X fun e w'=>∃ga gn gc ba bn bc n,e=.returned (.tuple #[xsV 0 (.slice ga gn gc) (.slice ba bn bc),.int .i64 n])/\Below X.heap.size X w'):=ai fun X hX=>Uw { wk.st with cons:=cs } (.slice cb cn cc) hcl X (hKI.cons.now.mono (aj b4 hX))
   have hrw:=(ah e4).2.1
   have r5:W4.cell? ⟨w3.heap.size,5,none⟩=some (.slice cb cn cc):=by exact hrw 5
   have r0:W4.cell? ⟨w3.heap.size,0,none⟩=some (.int .i64 wk.st.space):=by exact hrw 0
   have r1:W4.cell? ⟨w3.heap.size,1,none⟩=some (.int .i64 wk.st.iq):=by exact hrw 1
   have r2:W4.cell? ⟨w3.heap.size,2,none⟩=some (.int .i64 wk.st.out):=by exact hrw 2
   have r3:W4.cell? ⟨w3.heap.size,3,none⟩=some (.int .i64 wk.st.lead):=by exact hrw 3
   have r4:W4.cell? ⟨w3.heap.size,4,none⟩=some (.int .i64 wk.st.fuel):=by exact hrw 4
   have e4h:=ai e4
   have b4h:=ai b4
   have afU:=ai hKI
   have Y9:=ai hB3
   have hlen:=ai hKI.len
   replace hcn:=ai hcn
   replace hvn:=ai hvn
   replace hcl:=ai hcl
   clear e4 b4 hrw hKI q0 q1 q2 q3 q4 q5 q6 q7 q8 q9 hrg
   go_wp2_with (fail)
   refine ax (kB.out _ (Below.refl _ _)) ?_
   rintro e w5 ⟨ga,gn,gc,ba,bn,bc,nb,rfl,qH⟩
   have e5:=ak qH e4h.out
   clear r0 r1 r2 r3 r4 r5
   have hrw:=(ah e5).2.1
   have fz:=UK e5
   have f11:=fz 11
   have f12:=fz 12
   have f13:=fz 13
   have f14:=fz 14
   have f15:=fz 15
   have f16:=fz 16
   have y11:w5.cell? ⟨w3.heap.size,11,none⟩=some (.int .i64 0):=by exact hrw 11
   have y12:w5.cell? ⟨w3.heap.size,12,none⟩=some (.slice none 0 0):=by exact hrw 12
   have y13:w5.cell? ⟨w3.heap.size,13,none⟩=some (.int .i64 0):=by exact hrw 13
   have y14:w5.cell? ⟨w3.heap.size,14,none⟩=some (.int .i64 0):=by exact hrw 14
   have y15:w5.cell? ⟨w3.heap.size,15,none⟩=some (.slice none 0 0):=by exact hrw 15
   have y16:w5.cell? ⟨w3.heap.size,16,none⟩=some (.slice none 0 0):=by exact hrw 16
   have zd5:=(aF e5)
   obtain⟨W5,Zc⟩:=aG (((((((w5.setCell ⟨w3.heap.size,11,none⟩ (.int .i64 0)).setCell ⟨w3.heap.size,12,none⟩ (.slice ga gn gc)).setCell ⟨w3.heap.size,13,none⟩ (.int .i64 0)).setCell ⟨w3.heap.size,14,none⟩ (.int .i64 0)).setCell ⟨w3.heap.size,15,none⟩ (.slice ba bn bc)).setCell ⟨w3.heap.size,16,none⟩ (.slice none 0 0)))
   obtain⟨e6,k6⟩:=aqL e5 (.int .i64 0) (.slice ga gn gc) (.int .i64 0) (.int .i64 0) (.slice ba bn bc) (.slice none 0 0)
   rw[Zc] at e6 k6
   have k36:Below w3.heap.size w3 W5:=(aj b4h.out qH).trans (k6.below (B:=w3.heap.size) (aj b4h.out qH).size (fun j hj=>by omega))
   have hA0:OpA W5.heap.size w3.heap.size W5 ⟨wk,.slice cb cn cc,.slice va vn vc,.slice none 0 0,.slice ga gn gc,.slice ba bn bc,.slice none 0 0,.slice none 0 0,0,0⟩ ds [] [] 0 W5:=⟨e6,by have:=k6.size;omega,Nat.le_refl _,World.ownsRow_nil _ _ _ _,World.ownsRow_nil _ _ _ _,(fun j hj=>absurd hj (Nat.not_lt_zero j)),Kept.refl _ _⟩
   have z6:W5.cell? ⟨w3.heap.size,6,none⟩=some (.slice va vn vc):=(ah e6).2.1 6
   have zd6:=(aF e6)
   have asH:=ai hA0
   have amW:=ai k36
   have apR:=ai (yB afU.out.dcs.now.els)
   clear hA0 k36 e5 e6 k6 hrw
   go_wp2_with (fail)
   clear z6
   go_loopw [34] (fun i wr=>∃k:Nat,k<=vn/\i=.int .i64 k/\Hid (OpS W5.heap.size w3.heap.size W5 wk (.slice cb cn cc) (.slice va vn vc) (.slice ga gn gc) (.slice ba bn bc) ds k wr)) (fun i _=>vn - (intOf i).toNat)
   case atStart=>exact⟨0,by omega,rfl,ai ⟨_,_,[],[],asH.out,rfl⟩⟩
   case round =>
    obtain⟨k,hk,rfl,hH⟩:=hrel
    obtain⟨rv,first,rs,sps,hA,hrl⟩:=hH.out
    obtain⟨ra,rc,hrv⟩:=dw hA.orm
    rw[hrl] at hrv
    have atc:rv=.slice ra k rc:=hrv
    subst atc
    obtain⟨fa,fc,hfv⟩:=dw hA.osp
    have asV:first=.slice fa k fc:=hfv
    subst asV
    replace hrl:=ai hrl
    clear hrv hfv hH
    have hv3:vn<=3:=by have:=hbr.out.aW;have:=hlen.out;have:=hvn.out;omega
    have hbw:Below w3.heap.size w3 wr:=((Kept.all amW.out).trans (hA.kept.mono fun j _ (hj:j<w3.heap.size)=>⟨by have:=amW.out.size;omega,by omega⟩)).below (B:=w3.heap.size) (Nat.le_refl _) fun j hj=>hj
    by_cases hlt:k<vn
    . obtain⟨b,off,cap',he,hbl,hx⟩:=apR.out (by have:=hvn.out;omega)
      simp only[Value.slice.injEq] at he
      obtain⟨rfl,-,rfl⟩:=he
      have hkd:k<ds.length:=by have:=hvn.out;omega
      have hki:(0:Int)<=(k:Int)/\(k:Int)<(vn:Int):=by omega
      have hld:=hx k hkd wr hbw
      have hDc:=afU.out.dcs.now.ins k hkd
      have hsm:=afU.out.same k (by rw[<- hlen.out];exact hkd)
      have hqk:=(Ui ok).2 k (by rw[<- hlen.out];exact hkd)
      have hqm:=hbr.out.Rq k (by rw[<- hlen.out];exact hkd)
      obtain⟨q,hq⟩:=aG (aQ ds k)
      rw[hq] at hld hDc hsm
      rw[<- hsm.ok] at hqk
      have hone:=ai hDc.sl.one
      replace hld:=ai hld
      have hst:=bz.St.fZ.1 (Wx hqk).2.1
      have hsg:=hst.g
      have hsy:=hst.y
      have hw1:IntKind.i64.wrap (q.s.dB+q.s.di)=q.s.dB+q.s.di:=by simp[IntKind.wrap,IntKind.bits,IntKind.signed];omega
      have hw2:IntKind.i64.wrap (q.s.dK+q.s.dE)=q.s.dK+q.s.dE:=by simp[IntKind.wrap,IntKind.bits,IntKind.signed];omega
      have hpo:=ai hDc.sl.pv
      obtain⟨pa,pn,pc,hpv⟩:∃a n c,q.pv=.slice a n c:=by obtain⟨a,c,he,-⟩:=hDc.parts;exact⟨a,_,c,he⟩
      replace hpv:=ai hpv
      obtain⟨X,hX⟩:=aG (wr.alloc (dcO q))
      obtain⟨eX,bX,zX⟩:=boxedB hX
      obtain⟨n0,n1,n2,n3,n4,n5,n6,n7,n8,n9,n10,n11,n12,n13,n14,n15,n16,n17,n18,n19,n20,n21,n22,n23,n24,n25,n26,n27,n28,n29,n30,n31,n32,n33,n34,n35,n36,n37,n38,n39⟩:=Me eX
      have hbX:=aj hbw bX
      have kT:=ai (aks q.m q.sv q.vv q.mv q.ov X (hDc.Rq.mono hbX) (Ar.aoK hsm.m hqm) (Wx hqk).2.2.2.2)
      have zwr:=hA.siz
      have zdl:=hA.dlt
      have hAh:=ai hA
      have eXh:=ai eX
      have bXh:=ai bX
      have hqh:=ai hq
      have hbd:=(aF hA.row)
      have hbb:b<wr.heap.size:=bM hbl hbw.size
      have au_:(⟨0,0,none⟩:Addr)=⟨0,0,none⟩:=rfl
      clear hx hDc hsm hqk hqm hst hbX eX bX hA hq au_
      go_wp2_with (first|(refine dX rfl 54 _ rfl b (off+k*40) rfl (NG q) _ Tryz.underlying54 rfl (by show _=some 40;kernel_rfl) hld.out ?_)|(refine fA rfl 54 _ _ rfl rfl rfl (NG q) rfl _ _ (by show _=some 40;kernel_rfl) rfl hone.out ?_))
      refine ax kT.out ?_
      rintro e X2 ⟨tb,rfl,hTr,Xj⟩
      have hA2:=(hAh.out.below bXh.out).below Xj
      have amu:jJ W5.heap.size tb q.m X2:=hTr.weak (by have:=bXh.out.size;omega)
      have iG:=ak Xj eXh.out
      clear n0 n1 n2 n3 n4 n5 n6 n7 n8 n9 n10 n11 n12 n13 n14 n15 n16 n17 n18 n19 n20 n21 n22 n23 n24 n25 n26 n27 n28 n29 n30 n31 n32 n33 n34 n35 n36 n37 n38 n39
      obtain⟨n0,n1,n2,n3,n4,n5,n6,n7,n8,n9,n10,n11,n12,n13,n14,n15,n16,n17,n18,n19,n20,n21,n22,n23,n24,n25,n26,n27,n28,n29,n30,n31,n32,n33,n34,n35,n36,n37,n38,n39⟩:=Me iG
      have VU:X2.cell? ⟨w3.heap.size,10,none⟩=some (.slice ra k rc):=(ah hA2.row).2.1 10
      have hsd:(Value.slice ra k rc).ownBlock≠some w3.heap.size:=fun e=>by have:=(eF hAh.out.orm _ e).1;omega
      have hse:(Value.slice ra k rc).ownBlock≠some wr.heap.size:=fun e=>by have:=(eF hAh.out.orm _ e).2;omega
      have hfd:(Value.slice fa k fc).ownBlock≠some w3.heap.size:=fun e=>by have:=(eF hAh.out.osp _ e).1;omega
      have hfe:(Value.slice fa k fc).ownBlock≠some wr.heap.size:=fun e=>by have:=(eF hAh.out.osp _ e).2;omega
      have uA:=bM zX Xj.size
      have zd2:w3.heap.size<X2.heap.size:=by omega
      replace amu:=ai amu
      replace hA2:=hA2
      have asg:=ai iG
      clear iG hTr
      go_wp2_with (fail)
      obtain⟨Ya0,apy⟩:=aG (X2.drew)
      have alV:Below X2.heap.size X2 Ya0:=by rw[<- apy];exact(Below.refl _ _).drew
      have afQ:=hA2.below alV
      have zK:Kept (fun j=>(Value.slice ra k rc).ownBlock≠some j) X2 Ya0:=.all alV
      refine wp_region_noPanic ?_
      refine wp_region_any (by kernel_rfl) ?_
      show wpAny _ _ _ _ (16) #[false,false,false,false,false,false,false,false,false,false,false,false,false,false,false,false] _ X2.drew
      rw[apy]
      refine dY (n:=15) (S:=Kept (fun j=>(Value.slice ra k rc).ownBlock≠some j) X2) (f:=15) rfl ?_
      refine dL 0 (.pointer (some ⟨w3.heap.size,0,none⟩)) 44 zK ?_ ?_
      . intro w' hSw;go_simp
      refine dL 1 (.pointer (some ⟨w3.heap.size,0,none⟩)) 45 zK ?_ ?_
      . intro w' hSw;go_simp
      refine dL 2 (.pointer (some ⟨w3.heap.size,0,none⟩)) 46 zK ?_ ?_
      . intro w' hSw;go_simp
      refine dL 3 (.pointer (some ⟨w3.heap.size,10,none⟩)) 47 zK ?_ ?_
      . intro w' hSw;go_simp
      try simp only[bH,aI]
      refine dL 4 (.slice ra k rc) 48 zK ?_ ?_
      . intro w' hSw;(have m10:=au VU hSw hsd);(have p11:=au n11 hSw hse);(have p12:=au n12 hSw hse);(have p13:=au n13 hSw hse);(have p14:=au n14 hSw hse);(have p15:=au n15 hSw hse);(have p16:=au n16 hSw hse);(have p17:=au n17 hSw hse);(have p18:=au n18 hSw hse);(have p29:=au n29 hSw hse);(have p30:=au n30 hSw hse);(have p31:=au n31 hSw hse);go_simp
      refine dL 5 (.pointer (some ⟨wr.heap.size,11,none⟩)) 49 zK ?_ ?_
      . intro w' hSw;go_simp
      refine dL 6 (.agg #[.int .i64 q.s.dB,.int .i64 q.s.dK,.int .i64 q.s.di,.int .i64 q.s.dE,.int .i64 q.s.gK,.int .i64 q.s.gJ,.int .i64 q.s.wlo,.int .i64 q.s.whi]) 50 zK ?_ ?_
      . intro w' hSw;(have m10:=au VU hSw hsd);(have p11:=au n11 hSw hse);(have p12:=au n12 hSw hse);(have p13:=au n13 hSw hse);(have p14:=au n14 hSw hse);(have p15:=au n15 hSw hse);(have p16:=au n16 hSw hse);(have p17:=au n17 hSw hse);(have p18:=au n18 hSw hse);(have p29:=au n29 hSw hse);(have p30:=au n30 hSw hse);(have p31:=au n31 hSw hse);go_simp
      refine dL 7 (.pointer (some ⟨wr.heap.size,29,none⟩)) 51 zK ?_ ?_
      . intro w' hSw;go_simp
      try simp only[bH,aI]
      refine dL 8 (.agg #[.int .i64 q.we.aS,.int .i64 q.we.need,q.pv]) 52 zK ?_ ?_
      . intro w' hSw;(have m10:=au VU hSw hsd);(have p11:=au n11 hSw hse);(have p12:=au n12 hSw hse);(have p13:=au n13 hSw hse);(have p14:=au n14 hSw hse);(have p15:=au n15 hSw hse);(have p16:=au n16 hSw hse);(have p17:=au n17 hSw hse);(have p18:=au n18 hSw hse);(have p29:=au n29 hSw hse);(have p30:=au n30 hSw hse);(have p31:=au n31 hSw hse);go_simp
      refine dL 9 (.pointer (some ⟨tb,0,none⟩)) 53 zK ?_ ?_
      . intro w' hSw;go_simp
      refine dL 10 (.agg #[.int .i64 q.s.dB,.int .i64 q.s.dK,.int .i64 q.s.di,.int .i64 q.s.dE,.int .i64 q.s.gK,.int .i64 q.s.gJ,.int .i64 q.s.wlo,.int .i64 q.s.whi,.int .i64 q.we.aS,.int .i64 q.we.need,q.pv,.pointer (some ⟨tb,0,none⟩),.int .i64 0]) 54 zK ?_ ?_
      . intro w' hSw;(have m10:=au VU hSw hsd);(have p11:=au n11 hSw hse);(have p12:=au n12 hSw hse);(have p13:=au n13 hSw hse);(have p14:=au n14 hSw hse);(have p15:=au n15 hSw hse);(have p16:=au n16 hSw hse);(have p17:=au n17 hSw hse);(have p18:=au n18 hSw hse);(have p29:=au n29 hSw hse);(have p30:=au n30 hSw hse);(have p31:=au n31 hSw hse);go_simp
      try simp only[bH,aI]
      refine dh (i:=11) rfl (by kernel_rfl) (by decide) (fun K hK=>?_)
      obtain⟨Ya1,apz⟩:=aG (Ya0.alloc (.cells #[.int .i64 q.s.dB,.int .i64 q.s.dK,.int .i64 q.s.di,.int .i64 q.s.dE,.int .i64 q.s.gK,.int .i64 q.s.gJ,.int .i64 q.s.wlo,.int .i64 q.s.whi,.int .i64 q.we.aS,.int .i64 q.we.need,q.pv,.pointer (some ⟨tb,0,none⟩),.int .i64 0] 131))
      obtain⟨aoS,alW,axc⟩:=boxedB apz
      have Qj:=afQ.below alW
      have Xl:=zK.trans (Kept.all alW)
      go_simp
      (try rw[apz])
      refine hK.out _ _ Xl ?_
      clear hK K
      try simp only[bH,aI]
      refine dh (i:=12) rfl (by kernel_rfl) (by decide) (fun K hK=>?_)
      obtain⟨aw9,Ya2,auW,ajK,adq⟩:=ab_ (t:=115) Tryz.underlying115 amU (by decide) (by decide) (by decide) W5.heap.size Ya1 (.slice ra k rc) k (rs.flatMap Yg) [.int .i64 q.s.dB,.int .i64 q.s.dK,.int .i64 q.s.di,.int .i64 q.s.dE,.int .i64 q.s.gK,.int .i64 q.s.gJ,.int .i64 q.s.wlo,.int .i64 q.s.whi,.int .i64 q.we.aS,.int .i64 q.we.need,q.pv,.pointer (some ⟨tb,0,none⟩),.int .i64 0] Ya0.heap.size (by have h:=Qj.orm;rw[hrl.out] at h;exact h) (by omega) Qj.siz rfl (by simp[hpv.out,Value.oneCell']) aoS
      refine jl rfl _ _ 115 (by rfl) (by rfl) (by rfl) auW ?_
      obtain⟨arM,arW,rfl⟩:=dw ajK
      refine hK.out _ _ (Xl.trans adq) ?_
      clear hK K
      refine dL 13 (.pointer (some ⟨w3.heap.size,0,none⟩)) 57 (Xl.trans adq) ?_ ?_
      . intro w' hSw;go_simp
      refine dL 14 (.pointer (some ⟨w3.heap.size,10,none⟩)) 58 (Xl.trans adq) ?_ ?_
      . intro w' hSw;go_simp
      try simp only[bH,aI]
      refine⟨by kernel_rfl,?_⟩
      have hSa:=Xl.trans adq
      have hA3:=Qj.room (x:=⟨q.s,q.we,q.pv,tb,0⟩) (by rw[hrl.out];exact ajK) adq ⟨by rw[hrl.out,hqh.out],by rw[hrl.out,hqh.out],by rw[hrl.out,hqh.out],rfl,by rw[hrl.out,hqh.out];exact(amu.out.keep (.all alV)).keep (.all alW)⟩
      have hrY:Ya2.heap[w3.heap.size]? = _:=(adq.block _ (aF Qj.row) hsd).trans Qj.row
      have fzd:=UK hrY 10
      have yzd:=(ah hrY).2.1 10
      have zzd:=(aF hrY)
      obtain⟨Z1,hZ1⟩:=aG (Ya2.setCell ⟨w3.heap.size,10,none⟩ (.slice arM (k+1) arW))
      have kZ1:Kept (fun j=>j≠w3.heap.size) Ya2 Z1:=by rw[<- hZ1];exact rU _ _ _ _
      rw[hZ1] at hA3
      have eZ1:=(kZ1.block _ (by have:=(hSa.size);omega) (by omega)).trans ((hSa.block _ uA hse).trans asg.out)
      have hSz:=hSa.size
      have kZs:=kZ1.size
      replace hA2:=ai hA2
      replace afQ:=ai afQ
      replace Qj:=ai Qj
      have avM:=ai ajK
      clear ajK aoS hrY
      go_wp2_with (fail)
      refine NoPanic.normal ?_
      clear n0 n1 n2 n3 n4 n5 n6 n7 n8 n9 n10 n11 n12 n13 n14 n15 n16 n17 n18 n19 n20 n21 n22 n23 n24 n25 n26 n27 n28 n29 n30 n31 n32 n33 n34 n35 n36 n37 n38 n39 VU fzd yzd zzd
      obtain⟨n0,n1,n2,n3,n4,n5,n6,n7,n8,n9,n10,n11,n12,n13,n14,n15,n16,n17,n18,n19,n20,n21,n22,n23,n24,n25,n26,n27,n28,n29,n30,n31,n32,n33,n34,n35,n36,n37,n38,n39⟩:=Me eZ1
      have y23:Z1.cell? ⟨w3.heap.size,23,none⟩=some (.slice fa k fc):=(ah hA3.row).2.1 23
      have zdZ:w3.heap.size<Z1.heap.size:=(aF hA3.row)
      have zeZ:wr.heap.size<Z1.heap.size:=(aF eZ1)
      replace eZ1:=ai eZ1
      go_wp2_with (fail)
      obtain⟨Yb0,apA⟩:=aG (Z1.drew)
      have aoJ:Below Z1.heap.size Z1 Yb0:=by rw[<- apA];exact(Below.refl _ _).drew
      have afR:=hA3.below aoJ
      have lG:Kept (fun j=>(Value.slice fa k fc).ownBlock≠some j) Z1 Yb0:=.all aoJ
      refine wp_region_noPanic ?_
      refine wp_region_any (by kernel_rfl) ?_
      show wpAny _ _ _ _ (29) #[false,false,false,false,false,false,false,false,false,false,false,false,false,false,false,false,false,false,false,false,false,false,false,false,false,false,false,false,false] _ Z1.drew
      rw[apA]
      refine dY (n:=28) (S:=Kept (fun j=>(Value.slice fa k fc).ownBlock≠some j) Z1) (f:=28) rfl ?_
      refine dL 0 (.pointer (some ⟨w3.heap.size,0,none⟩)) 59 lG ?_ ?_
      . intro w' hSw;go_simp
      refine dL 1 (.pointer (some ⟨w3.heap.size,0,none⟩)) 60 lG ?_ ?_
      . intro w' hSw;go_simp
      refine dL 2 (.pointer (some ⟨w3.heap.size,0,none⟩)) 61 lG ?_ ?_
      . intro w' hSw;go_simp
      refine dL 3 (.pointer (some ⟨w3.heap.size,23,none⟩)) 62 lG ?_ ?_
      . intro w' hSw;go_simp
      try simp only[bH,aI]
      refine dL 4 (.slice fa k fc) 63 lG ?_ ?_
      . intro w' hSw;(have m23:=au y23 hSw hfd);(have p11:=au n11 hSw hfe);(have p12:=au n12 hSw hfe);(have p13:=au n13 hSw hfe);(have p14:=au n14 hSw hfe);go_simp
      refine dL 5 (.pointer (some ⟨wr.heap.size,11,none⟩)) 64 lG ?_ ?_
      . intro w' hSw;go_simp
      refine dL 6 (.pointer (some ⟨wr.heap.size,11,none⟩)) 65 lG ?_ ?_
      . intro w' hSw;go_simp
      refine dL 7 (.pointer (some ⟨wr.heap.size,11,none⟩)) 66 lG ?_ ?_
      . intro w' hSw;go_simp
      try simp only[bH,aI]
      refine dL 8 (.int .i64 q.s.dB) 67 lG ?_ ?_
      . intro w' hSw;(have m23:=au y23 hSw hfd);(have p11:=au n11 hSw hfe);(have p12:=au n12 hSw hfe);(have p13:=au n13 hSw hfe);(have p14:=au n14 hSw hfe);go_simp
      refine dL 9 (.pointer (some ⟨wr.heap.size,11,none⟩)) 68 lG ?_ ?_
      . intro w' hSw;go_simp
      refine dL 10 (.pointer (some ⟨wr.heap.size,13,none⟩)) 69 lG ?_ ?_
      . intro w' hSw;go_simp
      refine dL 11 (.pointer (some ⟨wr.heap.size,13,none⟩)) 70 lG ?_ ?_
      . intro w' hSw;go_simp
      try simp only[bH,aI]
      refine dL 12 (.int .i64 q.s.di) 71 lG ?_ ?_
      . intro w' hSw;(have m23:=au y23 hSw hfd);(have p11:=au n11 hSw hfe);(have p12:=au n12 hSw hfe);(have p13:=au n13 hSw hfe);(have p14:=au n14 hSw hfe);go_simp
      refine dL 13 (.int .i64 (q.s.dB+q.s.di)) 72 lG ?_ ?_
      . intro w' hSw;(have m23:=au y23 hSw hfd);(have p11:=au n11 hSw hfe);(have p12:=au n12 hSw hfe);(have p13:=au n13 hSw hfe);(have p14:=au n14 hSw hfe);go_simp
      refine dL 14 (.pointer (some ⟨wr.heap.size,11,none⟩)) 73 lG ?_ ?_
      . intro w' hSw;go_simp
      refine dL 15 (.pointer (some ⟨wr.heap.size,11,none⟩)) 74 lG ?_ ?_
      . intro w' hSw;go_simp
      try simp only[bH,aI]
      refine dL 16 (.pointer (some ⟨wr.heap.size,12,none⟩)) 75 lG ?_ ?_
      . intro w' hSw;go_simp
      refine dL 17 (.int .i64 q.s.dK) 76 lG ?_ ?_
      . intro w' hSw;(have m23:=au y23 hSw hfd);(have p11:=au n11 hSw hfe);(have p12:=au n12 hSw hfe);(have p13:=au n13 hSw hfe);(have p14:=au n14 hSw hfe);go_simp
      refine dL 18 (.pointer (some ⟨wr.heap.size,11,none⟩)) 77 lG ?_ ?_
      . intro w' hSw;go_simp
      refine dL 19 (.pointer (some ⟨wr.heap.size,13,none⟩)) 78 lG ?_ ?_
      . intro w' hSw;go_simp
      try simp only[bH,aI]
      refine dL 20 (.pointer (some ⟨wr.heap.size,14,none⟩)) 79 lG ?_ ?_
      . intro w' hSw;go_simp
      refine dL 21 (.int .i64 q.s.dE) 80 lG ?_ ?_
      . intro w' hSw;(have m23:=au y23 hSw hfd);(have p11:=au n11 hSw hfe);(have p12:=au n12 hSw hfe);(have p13:=au n13 hSw hfe);(have p14:=au n14 hSw hfe);go_simp
      refine dL 22 (.int .i64 (q.s.dK+q.s.dE)) 81 lG ?_ ?_
      . intro w' hSw;(have m23:=au y23 hSw hfd);(have p11:=au n11 hSw hfe);(have p12:=au n12 hSw hfe);(have p13:=au n13 hSw hfe);(have p14:=au n14 hSw hfe);go_simp
      refine dL 23 (.agg #[.int .i64 (q.s.dB+q.s.di),.int .i64 (q.s.dK+q.s.dE)]) 82 lG ?_ ?_
      . intro w' hSw;(have m23:=au y23 hSw hfd);(have p11:=au n11 hSw hfe);(have p12:=au n12 hSw hfe);(have p13:=au n13 hSw hfe);(have p14:=au n14 hSw hfe);go_simp
      try simp only[bH,aI]
      refine dh (i:=24) rfl (by kernel_rfl) (by decide) (fun K hK=>?_)
      obtain⟨Yb1,apB⟩:=aG (Yb0.alloc (.cells #[.int .i64 (q.s.dB+q.s.di),.int .i64 (q.s.dK+q.s.dE)] 35))
      obtain⟨aoT,aoL,axd⟩:=boxedB apB
      have Qk:=afR.below aoL
      have aaW:=lG.trans (Kept.all aoL)
      go_simp
      (try rw[apB])
      refine hK.out _ _ aaW ?_
      clear hK K
      try simp only[bH,aI]
      refine dh (i:=25) rfl (by kernel_rfl) (by decide) (fun K hK=>?_)
      obtain⟨aw_,Yb2,auX,anu,agk⟩:=ab_ (t:=123) Tryz.underlying123 amV (by decide) (by decide) (by decide) W5.heap.size Yb1 (.slice fa k fc) k (sps) [.int .i64 (q.s.dB+q.s.di),.int .i64 (q.s.dK+q.s.dE)] Yb0.heap.size Qk.osp (by omega) Qk.siz rfl (by simp[hpv.out,Value.oneCell']) aoT
      refine jl rfl _ _ 123 (by rfl) (by rfl) (by rfl) auX ?_
      obtain⟨arN,arX,rfl⟩:=dw anu
      refine hK.out _ _ (aaW.trans agk) ?_
      clear hK K
      refine dL 26 (.pointer (some ⟨w3.heap.size,0,none⟩)) 85 (aaW.trans agk) ?_ ?_
      . intro w' hSw;go_simp
      refine dL 27 (.pointer (some ⟨w3.heap.size,23,none⟩)) 86 (aaW.trans agk) ?_ ?_
      . intro w' hSw;go_simp
      try simp only[bH,aI]
      refine⟨by kernel_rfl,?_⟩
      have hA4:=Qk.span anu agk
      have hrY:Yb2.heap[w3.heap.size]? = _:=(agk.block _ (aF Qk.row) hfd).trans Qk.row
      have fzd:=UK hrY 23
      have yzd:=(ah hrY).2.1 23
      have zzd:=(aF hrY)
      obtain⟨Z2,hZ2⟩:=aG (Yb2.setCell ⟨w3.heap.size,23,none⟩ (.slice arN (k+1) arX))
      rw[hZ2] at hA4
      replace hA4:=ai hA4
      replace hA3:=ai hA3
      replace afR:=ai afR
      replace Qk:=ai Qk
      clear anu aoT hrY
      go_wp2_with (fail)
      refine NoPanic.normal ?_
      go_wp2_with (fail)
      exact⟨⟨k+1,by omega,by go_num,ai ⟨_,_,_,_,hA4.out,by simp[hrl.out]⟩⟩,by simp[intOf];omega⟩
    . obtain rfl:k=vn:=by omega
      have hfin:=ai (hA.fin (B:=w.heap.size) (by have:=hBw.out.size;have:=hB2.size;have:=Y9.out.size;have:=amW.out.size;omega) (by have:=hBw.out.size;have:=hB2.size;have:=Y9.out.size;omega) (by rw[hrl.out,hvn.out]) hlen.out hbr.out.aW rfl rfl rfl (((afU.out.dcs.weak (by have:=hBw.out.size;have:=hB2.size;omega)).mono hbw)) afU.out.same)
      have hBf:=ai (aj (aj (aj hBw.out hB2) Y9.out) hbw)
      have zdr:=(aF hA.row)
      replace hA:=ai hA
      go_wp2_with (fail)
      go_ret2
      exact⟨hBf.out,.inr ⟨by first|rfl|trivial,_,_,_,_,rfl,hfin.out.1,hfin.out.2⟩⟩
