/- Walks. -/
import Derived.Test.YtkjdidieiioijaaGreatK29
set_option linter.all false
set_option maxRecDepth 100000
set_option maxHeartbeats 16000000
namespace Go.Proofs.YtkjdidieiioijaaGreat.B
open Go.RowKit Go.Sd Wl Bk L Tr Dk
attribute [local go_sem] Oper.semAt_some
theorem ahF (w:World)(n i j:Nat)(u v:Value):Kept (fun k=>k≠n) w ((w.setCell ⟨n,i,none⟩ u).setCell ⟨n,j,none⟩ v) :=
 ((Kept.refl _ _).setCell (p:=⟨n,i,none⟩) (.inl fun h=>h rfl) _).setCell (p:=⟨n,j,none⟩) (.inl fun h=>h rfl) _
structure L1 (W Z:World)(bx:Nat)(wk:Wk)(cv vv:Value)(k:Nat)(X:World):Prop where
 row:X.heap[bx]? = some (wkO cv vv wk)
 cop:∃ys,arJ W.heap.size Z.heap.size cv wk.st.cons k ys X
 aW:X.ownsRow W.heap.size 54 40 vv wk.aW.length (wk.aW.flatMap nZ)
 kept:Kept (fun j=>j<W.heap.size/\j≠bx) W X
 size:Z.heap.size<=X.heap.size
 vlt:∀j,vv.ownBlock=some j->j<Z.heap.size
theorem nJ {α:Type}{m:Nat}{enc:α->List Value}{d:α}{w W X:World}{v:Value}{xs:List α}(h:gG m enc d w v xs)(hb:Below w.heap.size w W){S:Nat->Prop}(hk:Kept S W X)(hs:∀j,j<w.heap.size->S j):gG m enc d X v xs:=by
 obtain⟨a,cap,rfl,hm,hc⟩:=h
 refine⟨a,cap,rfl,hm,fun h0=>?_⟩
 obtain⟨b,off,rfl,hlt,hx⟩:=hc h0
 exact⟨b,off,rfl,bM hlt (Nat.le_trans hb.size hk.size),fun k i u hk' hu=>hk.cell (hs b hlt) (ae hb (hx k i u hk' hu))⟩
theorem L1.next {W Z X Y:World}{bx:Nat}{wk:Wk}{vv:Value}{g n cap k:Nat}(h:L1 W Z bx wk (.slice (some ⟨g,0,none⟩) n cap) vv k X)(hbx:bx<W.heap.size)(hWZ:W.heap.size<=Z.heap.size)(hk:k<wk.st.cons.length)(hb:Below X.heap.size X Y){u:Value}(hI:jP X.heap.size (fun x=>uC x u (aK wk.st.cons k).2.aC) Y) :
    L1 W Z bx wk (.slice (some ⟨g,0,none⟩) n cap) vv (k+1) (Y.setCell ⟨g,k*11+4,none⟩ u):=by
 obtain⟨ys,hc⟩:=h.cop
 have hg:=(eF hc.own g rfl).1
 obtain⟨hn,hkk⟩:=Fz.next (fi:=4) (enc:=GV) (m:=11) (fun _=>rfl) (fun _ _=>rfl) (by decide) hc hk h.size hb hI
 have hty:=dM (by decide) hc.own h.aW
 exact⟨(hkk.block bx (aF h.row) (by omega)).trans h.row,⟨_,hn⟩,bT h.aW hkk fun j hj e=>hty j hj (by rw[e];rfl),h.kept.trans (hkk.mono fun j _ hj=>by omega),Nat.le_trans h.size hkk.size,h.vlt⟩
theorem L1.au2 {W Z X:World}{bx:Nat}{wk:Wk}{cv vv:Value}(h:L1 W Z bx wk cv vv wk.st.cons.length X)(hWZ:W.heap.size<=Z.heap.size)(h8:wk.st.cons.length<=8):∃cs,cs.map (·.2)=wk.st.cons.map (·.2)/\L2 W X.heap.size bx wk cv vv cs 0 wk.aW X:=by
 obtain⟨cs,hc⟩:=h.cop
 have hty:=dM (by decide) h.aW hc.own
 refine⟨cs,Fz.snd hc,⟨h.row,fun Y hY=>⟨?_,fun k hk=>?_⟩,rfl,h.aW,fun j hj=>(eF h.aW j hj).2,fun j hj=>by omega,fun _ _=>rfl,h.kept,Nat.le_refl _⟩⟩
 . exact Vl (enc:=GV) (m:=11) (fun _=>rfl) cv0 (bT hc.own hY fun j hj=>⟨(eF hc.own j hj).1,hty j hj⟩) (by rw[hc.len];omega)
 . obtain⟨u,hu,hs⟩:=hc.got k (by rw[<- hc.len];exact hk)
   exact hs Y (hY.mono fun j _ hj=>⟨Nat.le_trans hWZ hj,fun e=>by have:=h.vlt j e;omega⟩)
structure YE (B:Nat)(wk:Wk)(cv vv:Value)(cs:List CV)(ds:List DC)(w:World):Prop where
 cons:jP B (fun x=>iP x cv cs) w
 snd:cs.map (·.2)=wk.st.cons.map (·.2)
 len:ds.length=wk.aW.length
 dcs:jP B (fun x=>GG x vv ds) w
 same:∀k,k<wk.aW.length->PO (aQ wk.aW k) (aQ ds k)
theorem L2.fin {W X Y:World}{B C bx n:Nat}{wk:Wk}{cv vv:Value}{cs:List CV}{ys:List DC}(h:L2 W C bx wk cv vv cs wk.aW.length ys X)(hs:cs.map (·.2)=wk.st.cons.map (·.2))(hB:B<=W.heap.size)(hBC:W.heap.size<=C)(h3:wk.aW.length<=3)(hk:Kept (fun j=>j≠n) X Y)(hn:n<W.heap.size):YE B wk cv vv cs ys Y:=by
 refine⟨fun x hx=>?_,hs,h.len,fun x hx=>⟨?_,fun k hk'=>?_⟩,fun k hk=>(h.got k hk).1⟩
 . exact h.cons x ((hk.mono fun j _ hj=>by omega).trans (hx.mono fun j _ hj=>Nat.le_trans hB hj.1))
 . exact Vl (enc:=nZ) (m:=40) (fun _=>rfl) dc0 (bT (bT h.own hk fun j hj=>by have:=(eF h.own j hj).1;omega) hx fun j hj=>Nat.le_trans hB (eF h.own j hj).1) (by rw[h.len];omega)
 . exact(h.got k (by rw[<- h.len];exact hk')).2 x ((hk.mono fun j _ (hj:C<=j)=>by omega).trans (hx.mono fun j _ (hj:C<=j)=>by omega))
theorem MC {w:World}{g:Nat}(cs:Array Value):Kept (fun j=>j≠g) w (w.setRow g cs):=by
 refine⟨rfl,rfl,rfl,by simp[World.setRow],fun k hk hne=>?_⟩
 simp only[World.setRow,Array.getElem?_modify]
 rw[if_neg (fun e=>hne e.symm)]
set_option maxHeartbeats 32000000 in
theorem ae7 (wk:Wk)(cv vv:Value)(w:World)(h:PR w cv vv wk)(hb:nU wk):Calls Tryz.prog 48 #[wkV cv vv wk] w fun e w'=>∃cv' vv' cs ds,e=.returned (wkV cv' vv' wk)/\YE w.heap.size wk cv' vv' cs ds w'/\Below w.heap.size w w':=by
 obtain⟨W1,hW1⟩:=aG (w.alloc (wkO cv vv wk))
 obtain⟨e1,b1,z1⟩:=boxedB hW1
 obtain⟨W,hW⟩:=aG (W1.alloc (.cells #[.int .i64 0,.int .i64 0,.int .i64 0,.int .i64 0,.int .i64 0,.slice none 0 0,.slice none 0 0,.int .i64 0,.int .i64 0,.int .i64 0] 27))
 obtain⟨e2,b2,z2⟩:=boxedB hW
 have hBW:=aj b1 b2
 have eW:=ak b2 e1
 have nS:=ai (h.mono hBW)
 have hw0:=ai h
 obtain⟨ca,cc,rfl,-,-⟩:=h.cons.els
 obtain⟨va,vc,rfl,-,-⟩:=h.aW.els
 obtain⟨q0,q1,q2,q3,q4,q5,q6,q7,q8,q9⟩:=uu eW
 have hbr:=ai hb
 have hl1:=hb.aW
 have hl2:=hb.cons
 have hBw:=ai hBW
 have e2h:=ai e2
 have eWh:=ai eW
 clear h hb e1 e2 b1 b2 hBW eW
 go_enter Tryz.func48,Tryz.ntmps48
 go_wp2_with (fail)
 obtain⟨Y0,hY0⟩:=aG (W.drew)
 have aU:Below W.heap.size W Y0:=by rw[<- hY0];exact(Below.refl _ _).drew
 refine wp_region_noPanic ?_
 refine wp_region_any (by kernel_rfl) ?_
 show wpAny _ _ _ _ (12) #[false,false,false,false,false,false,false,false,false,false,false,false] _ W.drew
 rw[hY0]
 refine dY (n:=9) (S:=Below W.heap.size W) (f:=9) rfl ?_
 refine dL 0 (.pointer (some ⟨w.heap.size,0,none⟩)) 9 aU ?_ ?_
 . intro w' hSw;go_simp
 refine dL 1 (.pointer (some ⟨w.heap.size,5,none⟩)) 10 aU ?_ ?_
 . intro w' hSw;go_simp
 refine dL 2 (.slice ca wk.st.cons.length cc) 11 aU ?_ ?_
 . intro w' hSw;(have m5:=ae hSw q5);(have m6:=ae hSw q6);go_simp
 refine dL 4 (.pointer (some ⟨w.heap.size,6,none⟩)) 13 aU ?_ ?_
 . intro w' hSw;go_simp
 try simp only[bH,aI]
 refine dL 5 (.slice va wk.aW.length vc) 14 aU ?_ ?_
 . intro w' hSw;(have m5:=ae hSw q5);(have m6:=ae hSw q6);go_simp
 try simp only[bH,aI]
 refine dh (i:=3) rfl (by kernel_rfl) (by decide) (fun K hK=>?_)
 go_simp
 (go_at_call 94;(with_reducible refine ax (acZ _ wk.st.cons (alX nS.out.cons) Y0 ((nS.out.cons.mono aU).els) (by omega)) ?_);rintro e Y1 ⟨cv1,rfl,oC,Ro⟩)
 obtain⟨ca1,cc1,rfl⟩:=dw oC
 have fF:=aj aU Ro
 refine hK.out _ _ fF ?_
 clear hK K
 refine dL 7 (.pointer (some ⟨w.heap.size,0,none⟩)) 16 fF ?_ ?_
 . intro w' hSw;go_simp
 refine dL 8 (.pointer (some ⟨w.heap.size,5,none⟩)) 17 fF ?_ ?_
 . intro w' hSw;go_simp
 try simp only[bH,aI]
 refine dh (i:=6) rfl (by kernel_rfl) (by decide) (fun K hK=>?_)
 go_simp
 (go_at_call 95;(with_reducible refine ax (aeO _ wk.aW (alY nS.out.aW) Y1 ((nS.out.aW.mono fF).els) (by omega)) ?_);rintro e Y2 ⟨vv1,rfl,oD,cY2⟩)
 obtain⟨va1,YD,rfl⟩:=dw oD
 have FI:=aj fF cY2
 refine hK.out _ _ FI ?_
 clear hK K
 try simp only[bH,aI]
 refine⟨by kernel_rfl,?_⟩
 have rY:=ak FI eWh.out
 have oC2:=gU oC cY2
 have fz:∀i,Y2.frozen? ⟨w.heap.size,i,none⟩=false:=fun i=>UK rY i
 have zz:=(aF rY)
 obtain⟨x0,x1,x2,x3,x4,x5,x6,x7,x8,x9⟩:=uu rY
 obtain⟨Z,hZ⟩:=aG ((Y2.setCell ⟨w.heap.size,5,none⟩ (.slice ca1 wk.st.cons.length cc1)).setCell ⟨w.heap.size,6,none⟩ (.slice va1 wk.aW.length YD))
 have rZ:Z.heap[w.heap.size]? = some (wkO (.slice ca1 wk.st.cons.length cc1) (.slice va1 wk.aW.length YD) wk):=by rw[<- hZ,aX (aX rY 5 _) 6 _];rfl
 have kZ:Kept (fun j=>j≠w.heap.size) Y2 Z:=by rw[<- hZ];exact ahF _ _ _ _ _ _
 have zW:w.heap.size<W.heap.size:=by omega
 have zY:W.heap.size<=Y1.heap.size:=fF.size
 have oC3:=bT oC2 kZ fun j hj=>by have:=(eF oC2 j hj).1;have:=aU.size;omega
 have oD3:=bT oD kZ fun j hj=>by have:=(eF oD j hj).1;omega
 have hL:Hid (L1 W Z w.heap.size wk (.slice ca1 wk.st.cons.length cc1) (.slice va1 wk.aW.length YD) 0 Z):=ai ⟨rZ,⟨_,Fz.start (iw aU.size oC3) (Nat.le_refl _)⟩,iw zY oD3,(Kept.all FI).trans (kZ.mono fun j _ hj=>hj.2),Nat.le_refl _,fun j hj=>(eF oD3 j hj).2⟩
 have hzs:=ai (show w.heap.size<W.heap.size/\W.heap.size<=Z.heap.size from⟨zW,Nat.le_trans zY (Nat.le_trans cY2.size kZ.size)⟩)
 obtain⟨p0,p1,p2,p3,p4,p5,p6,p7,p8,p9⟩:=uu rZ
 have zz3:=(aF rZ)
 clear oC oC2 oC3 oD oD3 rY rZ kZ hY0 aU fF FI Ro cY2 zY
 clear x0 x1 x2 x3 x4 x7 x8 x9
 go_wp2_with (fail)
 refine NoPanic.normal ?_
 clear x5 x6 fz zz hZ
 go_wp2_with (fail)
 go_loopw [23] (fun i wr=>∃k:Nat,k<=wk.st.cons.length/\i=.int .i64 k/\Hid (L1 W Z w.heap.size wk (.slice ca1 wk.st.cons.length cc1) (.slice va1 wk.aW.length YD) k wr)) (fun i _=>wk.st.cons.length - (intOf i).toNat)
 case atStart=>exact⟨0,by omega,rfl,hL⟩
 case round =>
  clear p0 p1 p2 p3 p4 p5 p6 p7 p8 p9 zz3 q0 q1 q2 q3 q4 q5 q6 q7 q8 q9
  obtain⟨k,hk,rfl,hH⟩:=hrel
  have hz:=hzs.out
  obtain⟨x0,x1,x2,x3,x4,x5,x6,x7,x8,x9⟩:=uu hH.out.row
  have zx:=(aF hH.out.row)
  by_cases hlt:k<wk.st.cons.length
  . obtain⟨ys,hc⟩:=hH.out.cop
    obtain⟨g,cap',he,hBg,hgC,hgl,hfz,hcell⟩:=Fz.at (enc:=GV) (m:=11) (fun _=>rfl) hc hlt
    simp only[Value.slice.injEq,true_and] at he
    obtain⟨rfl,rfl⟩:=he
    have amI:=hw0.out.cons.rts k hlt
    have hra:=amI.mono (hBw.out)
    obtain⟨ra,rc,hrv,-,-⟩:=id hra
    have r4:wr.cell? ⟨g,k*11+4,none⟩=some (aK wk.st.cons k).1:=hcell 4 _ rfl
    have hki:(0:Int)<=(k:Int)/\(k:Int)<wk.st.cons.length:=by omega
    have awR:=hbr.out.aC k hlt
    rw[hrv] at hra r4
    have hkX:=hH.out.kept
    have as9:uC wr (.slice ra (aK wk.st.cons k).2.aC.length rc) (aK wk.st.cons k).2.aC:=by
     rw[hrv] at amI
     exact nJ (S:=fun j=>j<W.heap.size/\j≠w.heap.size) amI hBw.out hkX fun j hj=>⟨by omega,by omega⟩
    go_wp2_with (fail)
    obtain⟨Y0,hY0⟩:=aG (wr.drew)
    have aU:Below wr.heap.size wr Y0:=by rw[<- hY0];exact(Below.refl _ _).drew
    refine wp_region_noPanic ?_
    refine wp_region_any (by kernel_rfl) ?_
    show wpAny _ _ _ _ (15) #[false,false,false,false,false,false,false,false,false,false,false,false,false,false,false] _ wr.drew
    rw[hY0]
    refine dY (n:=14) (S:=Below wr.heap.size wr) (f:=14) rfl ?_
    refine dL 0 (.pointer (some ⟨w.heap.size,0,none⟩)) 26 aU ?_ ?_
    . intro w' hSw;go_simp
    refine dL 1 (.pointer (some ⟨w.heap.size,5,none⟩)) 27 aU ?_ ?_
    . intro w' hSw;go_simp
    refine dL 2 (.slice (some ⟨g,0,none⟩) wk.st.cons.length cc1) 28 aU ?_ ?_
    . intro w' hSw;(have m5:=ae hSw x5);(have m4:=ae hSw r4);go_simp
    refine dL 3 (.int .i64 k) 29 aU ?_ ?_
    . intro w' hSw;(have m5:=ae hSw x5);(have m4:=ae hSw r4);go_simp
    try simp only[bH,aI]
    refine dL 4 (.pointer (some ⟨w.heap.size,0,none⟩)) 30 aU ?_ ?_
    . intro w' hSw;go_simp
    refine dL 5 (.pointer (some ⟨w.heap.size,5,none⟩)) 31 aU ?_ ?_
    . intro w' hSw;go_simp
    refine dL 6 (.slice (some ⟨g,0,none⟩) wk.st.cons.length cc1) 32 aU ?_ ?_
    . intro w' hSw;(have m5:=ae hSw x5);(have m4:=ae hSw r4);go_simp
    refine dL 7 (.int .i64 k) 33 aU ?_ ?_
    . intro w' hSw;(have m5:=ae hSw x5);(have m4:=ae hSw r4);go_simp
    try simp only[bH,aI]
    refine dL 8 (.pointer (some ⟨g,k*11,none⟩)) 34 aU ?_ ?_
    . intro w' hSw;go_simp
    refine dL 9 (.pointer (some ⟨g,k*11+4,none⟩)) 35 aU ?_ ?_
    . intro w' hSw;go_simp
    refine dL 10 (.slice ra (aK wk.st.cons k).2.aC.length rc) 36 aU ?_ ?_
    . intro w' hSw;(have m5:=ae hSw x5);(have m4:=ae hSw r4);go_simp
    try simp only[bH,aI]
    refine dh (i:=11) rfl (by kernel_rfl) (by decide) (fun K hK=>?_)
    go_simp
    (go_at_call 96;(with_reducible refine ax (aeR _ (aK wk.st.cons k).2.aC Y0 (as9.mono aU) (by omega)) ?_);rintro e Y1 ⟨rv1,rfl,oR,Ro⟩)
    obtain⟨ra1,rc1,rfl⟩:=dw oR
    have fF:=aj aU Ro
    refine hK.out _ _ fF ?_
    clear hK K
    refine dL 12 (.pointer (some ⟨g,k*11,none⟩)) 38 fF ?_ ?_
    . intro w' hSw;go_simp
    refine dL 13 (.pointer (some ⟨g,k*11+4,none⟩)) 39 fF ?_ ?_
    . intro w' hSw;go_simp
    try simp only[bH,aI]
    refine⟨by kernel_rfl,?_⟩
    have hn:=hH.out.next (by omega) hz.2 hlt fF (jP.els (enc:=ZT) (fun _=>rfl) ⟨0,0,0⟩ (iw aU.size oR) (by omega))
    have f1:=hfz (k*11+4)
    have f2:=(dJ fF g (k*11+4) hgl).trans f1
    have f3:=ae fF r4
    have f4:=bM hgl fF.size
    obtain⟨V,hV⟩:=aG (Y1.setCell ⟨g,k*11+4,none⟩ (.slice ra1 (aK wk.st.cons k).2.aC.length rc1))
    rw[hV] at hn
    replace hn:=ai hn
    clear hcell
    go_wp2_with (fail)
    refine NoPanic.normal ?_
    go_wp2_with (fail)
    exact⟨⟨k+1,by omega,by go_num,hn⟩,by simp[intOf];omega⟩
  . obtain rfl:k=wk.st.cons.length:=by omega
    obtain⟨cs,amM,hL2⟩:=hH.out.au2 hz.2 hl2
    replace amM:=ai amM
    replace hL2:=ai hL2
    have hwr:=Nat.le_trans hz.2 hH.out.size
    have hCs:=ai (Nat.le_refl wr.heap.size)
    obtain⟨C,hC⟩:=aG (wr.heap.size)
    rw[hC] at hL2 hwr
    clear hH hC hCs
    go_wp2_with (fail)
    go_loopw [44] (fun i wr=>∃k:Nat,k<=wk.aW.length/\i=.int .i64 k/\∃ys,Hid (L2 W C w.heap.size wk (.slice ca1 wk.st.cons.length cc1) (.slice va1 wk.aW.length YD) cs k ys wr)) (fun i _=>wk.aW.length - (intOf i).toNat)
    case atStart=>exact⟨0,by omega,rfl,_,hL2⟩
    case round =>
     clear x0 x1 x2 x3 x4 x5 x6 x7 x8 x9 zx hL2
     obtain⟨k,hk,rfl,ys,hH⟩:=hrel
     obtain⟨x0,x1,x2,x3,x4,x5,x6,x7,x8,x9⟩:=uu hH.out.row
     have zx:=(aF hH.out.row)
     by_cases hlt:k<wk.aW.length
     . obtain⟨g,cap',he,hWg,hgC,hgl,hfz,hcell⟩:=hH.out.cell hlt
       simp only[Value.slice.injEq,true_and] at he
       obtain⟨rfl,rfl⟩:=he
       have hki:(0:Int)<=(k:Int)/\(k:Int)<wk.aW.length:=by omega
       have hin:=hw0.out.aW.ins k hlt
       have hbm:=hbr.out.Rq k hlt
       have hbp:=hbr.out.parts k hlt
       obtain⟨d,hd⟩:=aG (aQ wk.aW k)
       rw[hd] at hcell hin hbm hbp
       have hky:k<ys.length:=by rw[hH.out.len];exact hlt
       have hyd:aQ ys k=d:=by rw[hH.out.rest k (Nat.le_refl _),hd]
       replace hd:=ai hd
       have og0:wr.ownsRow W.heap.size 54 40 (.slice (some ⟨g,0,none⟩) wk.aW.length YD) (ys.set k d).length ((ys.set k d).flatMap nZ):=by
        rw[<- hyd,set_self hky]
        exact hH.out.own
       obtain⟨dc,dst,dr,we,line,m,pv,sv,vt,mv,ov⟩:=d
       have i1:=hin.parts
       have i2:=hin.Rq.aO
       have i3:=hin.Rq.aA
       have i4:=hin.Rq.moves
       have i5:=hin.Rq.opn
       dsimp only at i1 i2 i3 i4 i5
       have i3':=i3.els
       have i4':=i4.els
       obtain⟨pa,pc,rfl,-,-⟩:=id i1
       obtain⟨sa,sc,rfl,-,-⟩:=id i2
       obtain⟨ta,tc,rfl,-,-⟩:=i3'
       obtain⟨ma,mc,rfl,-,-⟩:=i4'
       obtain⟨oa,oc,rfl,-,-⟩:=id i5
       clear hin
       dsimp only at hbm hbp
       have r31:wr.cell? ⟨g,k*40+31,none⟩=some (.slice pa we.parts.length pc):=hcell 31 _ rfl
       have hkX:=hH.out.kept
       have hpa:mY wr (.slice pa we.parts.length pc) we.parts:=nJ (S:=fun j=>j<W.heap.size/\j≠w.heap.size) i1 hBw.out hkX fun j hj=>⟨by omega,by omega⟩
       go_wp2_with (fail)
       refine ax (aeQ _ we.parts wr hpa (by omega)) ?_
       rintro e X1 ⟨pv1,rfl,oP,cX1⟩
       obtain⟨pa1,pc1,rfl⟩:=dw oP
       have f31:=hfz (k*40+31)
       have asB:=(dJ cX1 g (k*40+31) hgl).trans f31
       have s31:=ae cX1 r31
       have asW:=bM hgl cX1.size
       obtain⟨V1,hV1⟩:=aG (X1.setCell ⟨g,k*40+31,none⟩ (.slice pa1 we.parts.length pc1))
       have kV1:Kept (fun j=>j≠g) wr V1:=by rw[<- hV1];exact(Kept.all cX1).setCell (p:=⟨g,k*40+31,none⟩) (.inl fun h=>h rfl) _
       have og1:=I4 (y:=⟨dc,dst,dr,we,line,m,.slice pa1 we.parts.length pc1,.slice sa m.aO.length sc,.slice ta m.aA.length tc,.slice ma m.moves.length mc,.slice oa m.opn.length oc⟩) (i:=31) (u:=.slice pa1 we.parts.length pc1) (gU og0 cX1) hky (by decide) rfl
       rw[hV1] at og1
       obtain⟨s33,f33,hgV⟩:=p_ og1 hky (i:=33) (u:=.slice sa m.aO.length sc) rfl
       obtain⟨s34,f34,-⟩:=p_ og1 hky (i:=34) (u:=.slice ta m.aA.length tc) rfl
       obtain⟨s35,f35,-⟩:=p_ og1 hky (i:=35) (u:=.slice ma m.moves.length mc) rfl
       obtain⟨s39,f39,-⟩:=p_ og1 hky (i:=39) (u:=.slice oa m.opn.length oc) rfl
       have hkV:Kept (fun j=>j<W.heap.size/\j≠w.heap.size) W V1:=hkX.trans (kV1.mono fun j _ hj=>by omega)
       have j2:=nJ (S:=fun j=>j<W.heap.size/\j≠w.heap.size) i2 hBw.out hkV fun j hj=>⟨by omega,by omega⟩
       have j3:=nJ (S:=fun j=>j<W.heap.size/\j≠w.heap.size) i3.els hBw.out hkV fun j hj=>⟨by omega,by omega⟩
       have j4:=nJ (S:=fun j=>j<W.heap.size/\j≠w.heap.size) i4.els hBw.out hkV fun j hj=>⟨by omega,by omega⟩
       have j5:=nJ (S:=fun j=>j<W.heap.size/\j≠w.heap.size) i5 hBw.out hkV fun j hj=>⟨by omega,by omega⟩
       have bm1:=hbm.aO
       have bm2:=hbm.aA
       have bm3:=hbm.moves
       have bm4:=hbm.opn
       go_wp2_with (fail)
       obtain⟨Y0,hY0⟩:=aG (V1.drew)
       have aU:Below V1.heap.size V1 Y0:=by rw[<- hY0];exact(Below.refl _ _).drew
       refine wp_region_noPanic ?_
       refine wp_region_any (by kernel_rfl) ?_
       show wpAny _ _ _ _ (33+1+1+1) #[false,false,false,false,false,false,false,false,false,false,false,false,false,false,false,false,false,false,false,false,false,false,false,false,false,false,false,false,false,false,false,false,false,false,false,false] _ V1.drew
       rw[hY0]
       refine JR 1 (.pointer (some ⟨g,k*40+33,none⟩)) 65 ?_ ?_
       . intro w';go_simp
       try simp only[bH,aI]
       refine JR 2 (.pointer (some ⟨g,k*40+33,none⟩)) 66 ?_ ?_
       . intro w';go_simp
       try simp only[bH,aI]
       refine JR 3 (.pointer (some ⟨g,k*40+33,none⟩)) 67 ?_ ?_
       . intro w';go_simp
       try simp only[bH,aI]
       refine dY (n:=26) (S:=Below V1.heap.size V1) (f:=23) rfl ?_
       refine yl [1,2,3] 0 (.pointer (some ⟨g,k*40+33,none⟩)) 64 aU ?_ ?_
       . intro w' hSw;go_simp
       refine yl [1,2,3] 4 (.pointer (some ⟨g,k*40+33,none⟩)) 68 aU ?_ ?_
       . intro w' hSw;go_simp
       refine yl [1,2,3] 5 (.pointer (some ⟨g,k*40+33,none⟩)) 69 aU ?_ ?_
       . intro w' hSw;go_simp
       refine yl [1,2,3] 6 (.pointer (some ⟨g,k*40+33,none⟩)) 70 aU ?_ ?_
       . intro w' hSw;go_simp
       try simp only[bH,aI]
       refine yl [1,2,3] 7 (.slice sa m.aO.length sc) 71 aU ?_ ?_
       . intro w' hSw;(have m33:=ae hSw s33);(have m34:=ae hSw s34);(have m35:=ae hSw s35);(have m39:=ae hSw s39);go_simp
       refine yl [1,2,3] 9 (.pointer (some ⟨g,k*40+33,none⟩)) 73 aU ?_ ?_
       . intro w' hSw;go_simp
       refine yl [1,2,3] 10 (.pointer (some ⟨g,k*40+33,none⟩)) 74 aU ?_ ?_
       . intro w' hSw;go_simp
       refine yl [1,2,3] 11 (.pointer (some ⟨g,k*40+34,none⟩)) 75 aU ?_ ?_
       . intro w' hSw;go_simp
       try simp only[bH,aI]
       refine yl [1,2,3] 12 (.slice ta m.aA.length tc) 76 aU ?_ ?_
       . intro w' hSw;(have m33:=ae hSw s33);(have m34:=ae hSw s34);(have m35:=ae hSw s35);(have m39:=ae hSw s39);go_simp
       refine yl [1,2,3] 14 (.pointer (some ⟨g,k*40+33,none⟩)) 78 aU ?_ ?_
       . intro w' hSw;go_simp
       refine yl [1,2,3] 15 (.pointer (some ⟨g,k*40+33,none⟩)) 79 aU ?_ ?_
       . intro w' hSw;go_simp
       refine yl [1,2,3] 16 (.pointer (some ⟨g,k*40+35,none⟩)) 80 aU ?_ ?_
       . intro w' hSw;go_simp
       try simp only[bH,aI]
       refine yl [1,2,3] 17 (.slice ma m.moves.length mc) 81 aU ?_ ?_
       . intro w' hSw;(have m33:=ae hSw s33);(have m34:=ae hSw s34);(have m35:=ae hSw s35);(have m39:=ae hSw s39);go_simp
       refine yl [1,2,3] 19 (.pointer (some ⟨g,k*40+33,none⟩)) 83 aU ?_ ?_
       . intro w' hSw;go_simp
       refine yl [1,2,3] 20 (.pointer (some ⟨g,k*40+33,none⟩)) 84 aU ?_ ?_
       . intro w' hSw;go_simp
       refine yl [1,2,3] 21 (.pointer (some ⟨g,k*40+39,none⟩)) 85 aU ?_ ?_
       . intro w' hSw;go_simp
       try simp only[bH,aI]
       refine yl [1,2,3] 22 (.slice oa m.opn.length oc) 86 aU ?_ ?_
       . intro w' hSw;(have m33:=ae hSw s33);(have m34:=ae hSw s34);(have m35:=ae hSw s35);(have m39:=ae hSw s39);go_simp
       try simp only[bH,aI]
       refine dh (i:=8) rfl (by kernel_rfl) (by decide) (fun K hK=>?_)
       go_simp
       (go_at_call 98;(with_reducible refine ax (aeS _ m.aO Y0 (j2.mono aU) (by omega)) ?_);rintro e Y1 ⟨u1,rfl,oS,Ro⟩)
       obtain⟨sa1,QY,rfl⟩:=dw oS
       have fF:=aj aU Ro
       refine hK.out _ _ fF ?_
       clear hK K
       try simp only[bH,aI]
       refine dh (i:=13) rfl (by kernel_rfl) (by decide) (fun K hK=>?_)
       go_simp
       (go_at_call 99;(with_reducible refine ax (aeT _ m.aA (ahY i3) Y1 (j3.mono fF) (by omega)) ?_);rintro e Y2 ⟨u2,rfl,oV,cY2⟩)
       obtain⟨NC,Jj,rfl⟩:=dw oV
       have FI:=aj fF cY2
       refine hK.out _ _ FI ?_
       clear hK K
       try simp only[bH,aI]
       refine dh (i:=18) rfl (by kernel_rfl) (by decide) (fun K hK=>?_)
       go_simp
       (go_at_call 100;(with_reducible refine ax (aeP _ m.moves (agD i4) Y2 (j4.mono FI) (by omega)) ?_);rintro e Y3 ⟨u3,rfl,oM,cY3⟩)
       obtain⟨Np,IQ,rfl⟩:=dw oM
       have Qm:=aj FI cY3
       refine hK.out _ _ Qm ?_
       clear hK K
       try simp only[bH,aI]
       refine dh (i:=23) rfl (by kernel_rfl) (by decide) (fun K hK=>?_)
       go_simp
       (go_at_call 101;(with_reducible refine ax (Wv _ m.opn Y3 (j5.mono Qm) (by omega)) ?_);rintro e Y4 ⟨u4,rfl,oO,cY4⟩)
       obtain⟨Po,Pq,rfl⟩:=dw oO
       have uB:=aj Qm cY4
       refine hK.out _ _ uB ?_
       clear hK K
       refine yl [1,2,3] 24 (.pointer (some ⟨g,k*40+33,none⟩)) 88 uB ?_ ?_
       . intro w' hSw;go_simp
       refine yl [1,2,3] 25 (.pointer (some ⟨g,k*40+33,none⟩)) 89 uB ?_ ?_
       . intro w' hSw;go_simp
       try simp only[bH,aI]
       refine⟨by kernel_rfl,?_⟩
       have g33:=ae uB s33
       have g34:=ae uB s34
       have g35:=ae uB s35
       have g39:=ae uB s39
       have e33:=(dJ uB g (k*40+33) hgV).trans f33
       have e34:=(dJ uB g (k*40+34) hgV).trans f34
       have e35:=(dJ uB g (k*40+35) hgV).trans f35
       have e39:=(dJ uB g (k*40+39) hgV).trans f39
       have hgY:=bM hgV uB.size
       obtain⟨V,hV⟩:=aG ((((Y4.setCell ⟨g,k*40+33,none⟩ (.slice sa1 m.aO.length QY)).setCell ⟨g,k*40+34,none⟩ (.slice NC m.aA.length Jj)).setCell ⟨g,k*40+35,none⟩ (.slice Np m.moves.length IQ)).setCell ⟨g,k*40+39,none⟩ (.slice Po m.opn.length Pq))
       clear j2 j3 j4 j5
       go_wp2_with (fail)
       refine NoPanic.normal ?_
       have hm:(aQ wk.aW k).m=m:=by rw[hd.out]
       have hwr:=hH.out.size
       have hwV:=kV1.size
       have hwY:=aU.size
       have ap1:Kept (fun j=>j≠g) X1 V1:=by rw[<- hV1];exact(Kept.refl _ _).setCell (p:=⟨g,k*40+31,none⟩) (.inl fun h=>h rfl) _
       have oP2:=bT oP ap1 (fun j hj e=>dM (by decide) (gU og0 cX1) oP j hj (by rw[e];rfl))
       have hL3:Hid (L3 W wr V g (aQ wk.aW k) (.slice (some ⟨g,0,none⟩) wk.aW.length YD) (.slice pa1 we.parts.length pc1) (.slice sa1 m.aO.length QY) (.slice NC m.aA.length Jj) (.slice Np m.moves.length IQ) (.slice Po m.opn.length Pq) (ys.set k (AY (aQ wk.aW k) (.slice pa1 we.parts.length pc1) (.slice sa1 m.aO.length QY) (.slice NC m.aA.length Jj) (.slice Np m.moves.length IQ) (.slice Po m.opn.length Pq) [] [])) 0 V):=ai (by
        rw[hd.out]
        exact L3.start hky (by omega) (kV1.trans (Kept.all uB)) (gU og1 uB) (gU oP2 uB) (iw (by omega) (gU (gU (gU oS cY2) cY3) cY4)) (iw (by have:=cY2.size;have:=fF.size;omega) (gU (gU oV cY3) cY4)) (iw (by have:=FI.size;omega) (gU oM cY4)) (iw (by have:=Qm.size;omega) oO) hV)
       clear og0 og1 oP oP2 oS oV oM oO hcell hfz r31 hpa f31 asB s31 cX1 asW s33 s34 s35 s39 f33 f34 f35 f39 hkV g33 g34 g35 g39 e33 e34 e35 e39 hgY hgV hY0 aU fF FI Qm uB Ro cY2 cY3 cY4 hV1 hV kV1 ap1
       obtain⟨v34,-,hgV⟩:=p_ hL3.out.own hky (i:=34) (u:=.slice NC m.aA.length Jj) rfl
       go_wp2_with (fail)
       obtain⟨R,hR⟩:∃R,R=wr:=⟨_,rfl⟩
       subst hR
       go_loopw [101] (fun i wr=>∃j:Nat,j<=m.aA.length/\i=.int .i64 j/\Hid (L3 W R V g (aQ wk.aW k) (.slice (some ⟨g,0,none⟩) wk.aW.length YD) (.slice pa1 we.parts.length pc1) (.slice sa1 m.aO.length QY) (.slice NC m.aA.length Jj) (.slice Np m.moves.length IQ) (.slice Po m.opn.length Pq) (ys.set k (AY (aQ wk.aW k) (.slice pa1 we.parts.length pc1) (.slice sa1 m.aO.length QY) (.slice NC m.aA.length Jj) (.slice Np m.moves.length IQ) (.slice Po m.opn.length Pq) [] [])) j wr)) (fun i _=>m.aA.length - (intOf i).toNat)
       case atStart=>exact⟨0,by omega,rfl,hL3⟩
       case round =>
        obtain⟨j,hj,rfl,hI⟩:=hrel
        clear v34 hgV
        obtain⟨y34,-,hgy⟩:=p_ hI.out.own hky (i:=34) (u:=.slice NC m.aA.length Jj) rfl
        have hyW:R.heap.size<=wr.heap.size:=hI.out.kept.size
        by_cases hjl:j<m.aA.length
        . obtain⟨us,hc⟩:=hI.out.aA
          rw[hm] at hc
          obtain⟨tb,cap2,he,-,htC,htl,htz,htc⟩:=Fz.at (enc:=zC) (m:=4) (fun _=>rfl) hc hjl
          simp only[Value.slice.injEq,true_and] at he
          obtain⟨rfl,rfl⟩:=he
          have hji:(0:Int)<=(j:Int)/\(j:Int)<m.aA.length:=by omega
          have r0:wr.cell? ⟨tb,j*4,none⟩=some (gZ m.aA j).1:=htc 0 _ rfl
          have hin2:=i3.ins j hjl
          have hil:=hbm.ints j hjl
          obtain⟨ia,ic,FK,-,-⟩:=id hin2
          replace hin2:=nJ (S:=fun j=>j<W.heap.size/\j≠w.heap.size) hin2 hBw.out (hkX.trans (hI.out.kept.mono fun j _ (hj:j<W.heap.size/\j≠w.heap.size)=>by omega)) fun j hj=>⟨by omega,by omega⟩
          rw[FK] at r0 hin2
          have fz0:=htz (j*4)
          clear hc htc FK
          go_wp2_with (fail)
          obtain⟨Y0,hY0⟩:=aG (wr.drew)
          have aU:Below wr.heap.size wr Y0:=by rw[<- hY0];exact(Below.refl _ _).drew
          refine wp_region_noPanic ?_
          refine wp_region_any (by kernel_rfl) ?_
          show wpAny _ _ _ _ (17) #[false,false,false,false,false,false,false,false,false,false,false,false,false,false,false,false,false] _ wr.drew
          rw[hY0]
          refine dY (n:=16) (S:=Below wr.heap.size wr) (f:=16) rfl ?_
          refine dL 0 (.pointer (some ⟨g,k*40+33,none⟩)) 104 aU ?_ ?_
          . intro w' hSw;go_simp
          refine dL 1 (.pointer (some ⟨g,k*40+33,none⟩)) 105 aU ?_ ?_
          . intro w' hSw;go_simp
          refine dL 2 (.pointer (some ⟨g,k*40+34,none⟩)) 106 aU ?_ ?_
          . intro w' hSw;go_simp
          refine dL 3 (.slice (some ⟨tb,0,none⟩) m.aA.length Jj) 107 aU ?_ ?_
          . intro w' hSw;(have m34:=ae hSw y34);(have m0:=ae hSw r0);go_simp
          try simp only[bH,aI]
          refine dL 4 (.int .i64 j) 108 aU ?_ ?_
          . intro w' hSw;(have m34:=ae hSw y34);(have m0:=ae hSw r0);go_simp
          refine dL 5 (.pointer (some ⟨g,k*40+33,none⟩)) 109 aU ?_ ?_
          . intro w' hSw;go_simp
          refine dL 6 (.pointer (some ⟨g,k*40+33,none⟩)) 110 aU ?_ ?_
          . intro w' hSw;go_simp
          refine dL 7 (.pointer (some ⟨g,k*40+34,none⟩)) 111 aU ?_ ?_
          . intro w' hSw;go_simp
          try simp only[bH,aI]
          refine dL 8 (.slice (some ⟨tb,0,none⟩) m.aA.length Jj) 112 aU ?_ ?_
          . intro w' hSw;(have m34:=ae hSw y34);(have m0:=ae hSw r0);go_simp
          refine dL 9 (.int .i64 j) 113 aU ?_ ?_
          . intro w' hSw;(have m34:=ae hSw y34);(have m0:=ae hSw r0);go_simp
          refine dL 10 (.pointer (some ⟨tb,j*4,none⟩)) 114 aU ?_ ?_
          . intro w' hSw;go_simp
          refine dL 11 (.pointer (some ⟨tb,j*4,none⟩)) 115 aU ?_ ?_
          . intro w' hSw;go_simp
          try simp only[bH,aI]
          refine dL 12 (.slice ia (gZ m.aA j).2.aO.length ic) 116 aU ?_ ?_
          . intro w' hSw;(have m34:=ae hSw y34);(have m0:=ae hSw r0);go_simp
          try simp only[bH,aI]
          refine dh (i:=13) rfl (by kernel_rfl) (by decide) (fun K hK=>?_)
          go_simp
          (go_at_call 101;(with_reducible refine ax (Wv _ (gZ m.aA j).2.aO Y0 (hin2.mono aU) (by omega)) ?_);rintro e Y1 ⟨u1,rfl,oR,Ro⟩)
          obtain⟨ia1,ic1,rfl⟩:=dw oR
          have fF:=aj aU Ro
          refine hK.out _ _ fF ?_
          clear hK K
          refine dL 14 (.pointer (some ⟨tb,j*4,none⟩)) 118 fF ?_ ?_
          . intro w' hSw;go_simp
          refine dL 15 (.pointer (some ⟨tb,j*4,none⟩)) 119 fF ?_ ?_
          . intro w' hSw;go_simp
          try simp only[bH,aI]
          refine⟨by kernel_rfl,?_⟩
          have hn:=hI.out.next (by rw[hm];exact hjl) fF (u:=.slice ia1 (gZ m.aA j).2.aO.length ic1) (by
           rw[hm]
           exact jP.els (enc:=Xr) (fun _=>rfl) 0 (iw aU.size oR) (by omega))
          have f2:=(dJ fF tb (j*4) htl).trans fz0
          have f3:=ae fF r0
          have f4:=bM htl fF.size
          obtain⟨Q,hQ⟩:=aG (Y1.setCell ⟨tb,j*4,none⟩ (.slice ia1 (gZ m.aA j).2.aO.length ic1))
          rw[hQ] at hn
          replace hn:=ai hn
          go_wp2_with (fail)
          refine NoPanic.normal ?_
          go_wp2_with (fail)
          exact⟨⟨j+1,by omega,by go_num,hn⟩,by simp[intOf];omega⟩
        . obtain rfl:j=m.aA.length:=by omega
          obtain⟨us,hL4⟩:=L3.last (by rw[hm];exact hI.out)
          replace hL4:=ai hL4
          have hVz:=ai (show R.heap.size<=V.heap.size from hL3.out.kept.size)
          obtain⟨V2,hV2⟩:∃V2,V2=wr:=⟨_,rfl⟩
          have asN:=ai (show R.heap.size<=V2.heap.size by rw[hV2];exact hyW)
          have hL5:Hid (L4 W R V V2 g (aQ wk.aW k) (.slice (some ⟨g,0,none⟩) wk.aW.length YD) (.slice pa1 we.parts.length pc1) (.slice sa1 m.aO.length QY) (.slice NC m.aA.length Jj) (.slice Np m.moves.length IQ) (.slice Po m.opn.length Pq) (ys.set k (AY (aQ wk.aW k) (.slice pa1 we.parts.length pc1) (.slice sa1 m.aO.length QY) (.slice NC m.aA.length Jj) (.slice Np m.moves.length IQ) (.slice Po m.opn.length Pq) [] [])) us 0 V2):=ai (by rw[hV2];exact hL4.out)
          obtain⟨y35,-,-⟩:=p_ hI.out.own hky (i:=35) (u:=.slice Np m.moves.length IQ) rfl
          clear hL4 hI hL3
          subst hV2
          go_wp2_with (fail)
          go_loopw [126] (fun i wr=>∃j:Nat,j<=m.moves.length/\i=.int .i64 j/\Hid (L4 W R V V2 g (aQ wk.aW k) (.slice (some ⟨g,0,none⟩) wk.aW.length YD) (.slice pa1 we.parts.length pc1) (.slice sa1 m.aO.length QY) (.slice NC m.aA.length Jj) (.slice Np m.moves.length IQ) (.slice Po m.opn.length Pq) (ys.set k (AY (aQ wk.aW k) (.slice pa1 we.parts.length pc1) (.slice sa1 m.aO.length QY) (.slice NC m.aA.length Jj) (.slice Np m.moves.length IQ) (.slice Po m.opn.length Pq) [] [])) us j wr)) (fun i _=>m.moves.length - (intOf i).toNat)
          case atStart=>exact⟨0,by omega,rfl,hL5⟩
          case round =>
           obtain⟨j,hj,rfl,hI⟩:=hrel
           clear y35 y34 hgy
           obtain⟨y35,-,hgy⟩:=p_ hI.out.own hky (i:=35) (u:=.slice Np m.moves.length IQ) rfl
           by_cases hjl:j<m.moves.length
           . obtain⟨ms,hc⟩:=hI.out.moves
             rw[hm] at hc
             obtain⟨tb,cap2,he,-,htC,htl,htz,htc⟩:=Fz.at (enc:=zh) (m:=5) (fun _=>rfl) hc hjl
             simp only[Value.slice.injEq,true_and] at he
             obtain⟨rfl,rfl⟩:=he
             have hji:(0:Int)<=(j:Int)/\(j:Int)<m.moves.length:=by omega
             have r0:wr.cell? ⟨tb,j*5+2,none⟩=some (jc m.moves j).1:=htc 2 _ rfl
             have hin2:=i4.ins j hjl
             have hil:=hbm.wants j hjl
             obtain⟨ia,ic,FK,-,-⟩:=id hin2
             replace hin2:=nJ (S:=fun j=>j<W.heap.size/\j≠w.heap.size) hin2 hBw.out (hkX.trans (hI.out.kept.mono fun j _ (hj:j<W.heap.size/\j≠w.heap.size)=>by omega)) fun j hj=>⟨by omega,by omega⟩
             rw[FK] at r0 hin2
             have fz0:=htz (j*5+2)
             clear hc htc FK
             go_wp2_with (fail)
             obtain⟨Y0,hY0⟩:=aG (wr.drew)
             have aU:Below wr.heap.size wr Y0:=by rw[<- hY0];exact(Below.refl _ _).drew
             refine wp_region_noPanic ?_
             refine wp_region_any (by kernel_rfl) ?_
             show wpAny _ _ _ _ (17) #[false,false,false,false,false,false,false,false,false,false,false,false,false,false,false,false,false] _ wr.drew
             rw[hY0]
             refine dY (n:=16) (S:=Below wr.heap.size wr) (f:=16) rfl ?_
             refine dL 0 (.pointer (some ⟨g,k*40+33,none⟩)) 129 aU ?_ ?_
             . intro w' hSw;go_simp
             refine dL 1 (.pointer (some ⟨g,k*40+33,none⟩)) 130 aU ?_ ?_
             . intro w' hSw;go_simp
             refine dL 2 (.pointer (some ⟨g,k*40+35,none⟩)) 131 aU ?_ ?_
             . intro w' hSw;go_simp
             refine dL 3 (.slice (some ⟨tb,0,none⟩) m.moves.length IQ) 132 aU ?_ ?_
             . intro w' hSw;(have m35:=ae hSw y35);(have m0:=ae hSw r0);go_simp
             try simp only[bH,aI]
             refine dL 4 (.int .i64 j) 133 aU ?_ ?_
             . intro w' hSw;(have m35:=ae hSw y35);(have m0:=ae hSw r0);go_simp
             refine dL 5 (.pointer (some ⟨g,k*40+33,none⟩)) 134 aU ?_ ?_
             . intro w' hSw;go_simp
             refine dL 6 (.pointer (some ⟨g,k*40+33,none⟩)) 135 aU ?_ ?_
             . intro w' hSw;go_simp
             refine dL 7 (.pointer (some ⟨g,k*40+35,none⟩)) 136 aU ?_ ?_
             . intro w' hSw;go_simp
             try simp only[bH,aI]
             refine dL 8 (.slice (some ⟨tb,0,none⟩) m.moves.length IQ) 137 aU ?_ ?_
             . intro w' hSw;(have m35:=ae hSw y35);(have m0:=ae hSw r0);go_simp
             refine dL 9 (.int .i64 j) 138 aU ?_ ?_
             . intro w' hSw;(have m35:=ae hSw y35);(have m0:=ae hSw r0);go_simp
             refine dL 10 (.pointer (some ⟨tb,j*5,none⟩)) 139 aU ?_ ?_
             . intro w' hSw;go_simp
             refine dL 11 (.pointer (some ⟨tb,j*5+2,none⟩)) 140 aU ?_ ?_
             . intro w' hSw;go_simp
             try simp only[bH,aI]
             refine dL 12 (.slice ia (jc m.moves j).2.wants.length ic) 141 aU ?_ ?_
             . intro w' hSw;(have m35:=ae hSw y35);(have m0:=ae hSw r0);go_simp
             try simp only[bH,aI]
             refine dh (i:=13) rfl (by kernel_rfl) (by decide) (fun K hK=>?_)
             go_simp
             (go_at_call 102;(with_reducible refine ax (aeU _ (jc m.moves j).2.wants Y0 (hin2.mono aU) (by omega)) ?_);rintro e Y1 ⟨u1,rfl,oR,Ro⟩)
             obtain⟨ia1,ic1,rfl⟩:=dw oR
             have fF:=aj aU Ro
             refine hK.out _ _ fF ?_
             clear hK K
             refine dL 14 (.pointer (some ⟨tb,j*5,none⟩)) 143 fF ?_ ?_
             . intro w' hSw;go_simp
             refine dL 15 (.pointer (some ⟨tb,j*5+2,none⟩)) 144 fF ?_ ?_
             . intro w' hSw;go_simp
             try simp only[bH,aI]
             refine⟨by kernel_rfl,?_⟩
             have hn:=hI.out.next (by rw[hm];exact hjl) fF (u:=.slice ia1 (jc m.moves j).2.wants.length ic1) (by
              rw[hm]
              exact fun x hx=>⟨jP.els (enc:=RQ) (fun _=>rfl) ⟨0,false⟩ (iw aU.size oR) (by omega) x hx,XI oR⟩)
             have f2:=(dJ fF tb (j*5+2) htl).trans fz0
             have f3:=ae fF r0
             have f4:=bM htl fF.size
             obtain⟨Q,hQ⟩:=aG (Y1.setCell ⟨tb,j*5+2,none⟩ (.slice ia1 (jc m.moves j).2.wants.length ic1))
             rw[hQ] at hn
             replace hn:=ai hn
             go_wp2_with (fail)
             refine NoPanic.normal ?_
             go_wp2_with (fail)
             exact⟨⟨j+1,by omega,by go_num,hn⟩,by simp[intOf];omega⟩
           . obtain rfl:j=m.moves.length:=by omega
             obtain⟨zs,hfin⟩:=hH.out.next hlt (by omega) (by have h5:=hI.out;rw[<- hm] at h5;exact h5) hVz.out asN.out (by rw[hd.out];exact Nat.le_trans hbp (by omega)) (by rw[hm];exact hbm)
             replace hfin:=ai hfin
             go_wp2_with (fail)
             exact⟨⟨k+1,by omega,by go_num,zs,hfin⟩,by simp[intOf];omega⟩
     . obtain rfl:k=wk.aW.length:=by omega
       have r2:=(hH.out.kept.block _ (aF e2h.out) ⟨by omega,by omega⟩).trans e2h.out
       have hrw:=ai hH.out.row
       have hfin:Hid (YE w.heap.size wk (.slice ca1 wk.st.cons.length cc1) (.slice va1 wk.aW.length YD) cs ys (wr.setRow W1.heap.size #[.int .i64 wk.st.space,.int .i64 wk.st.iq,.int .i64 wk.st.out,.int .i64 wk.st.lead,.int .i64 wk.st.fuel,.slice ca1 wk.st.cons.length cc1,.slice va1 wk.aW.length YD,.int .i64 wk.long,.int .i64 wk.day,.int .i64 wk.meter])/\Below w.heap.size w (wr.setRow W1.heap.size #[.int .i64 wk.st.space,.int .i64 wk.st.iq,.int .i64 wk.st.out,.int .i64 wk.st.lead,.int .i64 wk.st.fuel,.slice ca1 wk.st.cons.length cc1,.slice va1 wk.aW.length YD,.int .i64 wk.long,.int .i64 wk.day,.int .i64 wk.meter])) :=
        ai ⟨hH.out.fin amM.out (by omega) hwr hl1 (MC _) (by omega),hBw.out.trans (((hH.out.kept.mono fun j _ (h:j<w.heap.size)=>⟨by omega,by omega⟩).trans ((MC _).mono fun j _ (h:j<w.heap.size)=>by omega)).below (B:=w.heap.size) (by omega) fun j hj=>hj)⟩
       have r2h:=ai r2
       have hrr:=ai (setRow_heap wr W1.heap.size _ #[.int .i64 wk.st.space,.int .i64 wk.st.iq,.int .i64 wk.st.out,.int .i64 wk.st.lead,.int .i64 wk.st.fuel,.slice ca1 wk.st.cons.length cc1,.slice va1 wk.aW.length YD,.int .i64 wk.long,.int .i64 wk.day,.int .i64 wk.meter] _ _ r2)
       clear x0 x1 x2 x3 x4 x5 x6 x7 x8 x9 r2 hH
       go_wp2_with (first|(refine wpList_load_row rfl 27 _ rfl w.heap.size rfl _ _ (0,0) _ hrw.out Tryz.underlying27 rfl (by show _=some 10;kernel_rfl) ?_)|(refine wpList_store_row rfl 27 _ _ rfl W1.heap.size #[.int .i64 wk.st.space,.int .i64 wk.st.iq,.int .i64 wk.st.out,.int .i64 wk.st.lead,.int .i64 wk.st.fuel,.slice ca1 wk.st.cons.length cc1,.slice va1 wk.aW.length YD,.int .i64 wk.long,.int .i64 wk.day,.int .i64 wk.meter] rfl rfl _ _ r2h.out (by show _=some 10;kernel_rfl) rfl (by kernel_rfl) ?_))
       trace_state
       exact bodyPost_ret (v:=wkV (.slice ca1 wk.st.cons.length cc1) (.slice va1 wk.aW.length YD) wk) (results_cell_row rfl _ _ W1.heap.size _ _ _ _ rfl hrr.out Tryz.underlying27 rfl (by show _=some 10;kernel_rfl)) rfl ⟨_,_,_,_,rfl,hfin.out.1,hfin.out.2⟩
