/- Walks. -/
import Derived.Test.YtkjdidieiioijaaGreatK29
set_option linter.all false
set_option maxRecDepth 100000
set_option maxHeartbeats 16000000
namespace Go.Proofs.YtkjdidieiioijaaGreat.B
open Go.RowKit Go.Sd Wl Bk L Tr Dk
attribute [local go_sem] Oper.semAt_some
theorem SC {α:Type}{m:Nat}{enc:α->List Value}{d:α}{w W X:World}{v:Value}{xs:List α}(h:gG m enc d w v xs)(hb:Below w.heap.size w W){S:Nat->Prop}(hk:Kept S W X)(hs:∀j,j<w.heap.size->S j):gG m enc d X v xs:=by
 obtain⟨a,cap,rfl,hm,hc⟩:=h
 refine⟨a,cap,rfl,hm,fun h0=>?_⟩
 obtain⟨b,off,rfl,hlt,hx⟩:=hc h0
 exact⟨b,off,rfl,bM hlt (Nat.le_trans hb.size hk.size),fun k i u hk' hu=>hk.cell (hs b hlt) (ae hb (hx k i u hk' hu))⟩
theorem Jh {w:World}{g:Nat}(cs:Array Value):Kept (fun j=>j≠g) w (w.setRow g cs):=by
 refine⟨rfl,rfl,rfl,by simp[World.setRow],fun k hk hne=>?_⟩
 simp only[World.setRow,Array.getElem?_modify]
 rw[if_neg (fun e=>hne e.symm)]
structure T1 (W Z:World)(bx:Nat)(m:iY)(s v x o:Value)(k:Nat)(Y:World):Prop where
 row:Y.heap[bx]? = some (Nq s v x o m)
 opn:Y.ownsRow W.heap.size 3 1 o m.opn.length (m.opn.flatMap Xr)
 aA:∃us,alM W.heap.size Z.heap.size v m.aA k us Y
 moves:Y.ownsRow W.heap.size 187 5 x m.moves.length (m.moves.flatMap zh)
 kept:Kept (fun j=>j<W.heap.size/\j≠bx) W Y
 size:Z.heap.size<=Y.heap.size
structure T2 (W Z:World)(bx:Nat)(m:iY)(s v x o:Value)(k:Nat)(Y:World):Prop where
 row:Y.heap[bx]? = some (Nq s v x o m)
 opn:Y.ownsRow W.heap.size 3 1 o m.opn.length (m.opn.flatMap Xr)
 moves:∃ms,aoA W.heap.size Z.heap.size x m.moves k ms Y
 kept:Kept (fun j=>j<W.heap.size/\j≠bx) W Y
 size:Z.heap.size<=Y.heap.size
theorem T1.next {W Z Y Y1:World}{bx:Nat}{m:iY}{s x o:Value}{k tb n cap:Nat}(h:T1 W Z bx m s (.slice (some ⟨tb,0,none⟩) n cap) x o k Y)(hbx:bx<W.heap.size)(hk:k<m.aA.length)(hb:Below Y.heap.size Y Y1){u:Value}(hI:jP Y.heap.size (fun x=>bK x u (gZ m.aA k).2.aO) Y1) :
    T1 W Z bx m s (.slice (some ⟨tb,0,none⟩) n cap) x o (k+1) (Y1.setCell ⟨tb,k*4,none⟩ u):=by
 obtain⟨us,hc⟩:=h.aA
 obtain⟨hn,hkk⟩:=Fz.next (fi:=0) (enc:=zC) (m:=4) (fun _=>rfl) (fun _ _=>rfl) (by decide) hc hk h.size hb hI
 have ht:=(eF hc.own tb rfl).1
 have o4:=dM (by decide) hc.own h.opn
 have o5:=dM (by decide) hc.own h.moves
 have ne:∀{v:Value},(∀j,v.ownBlock=some j->(Value.slice (some ⟨tb,0,none⟩) n cap).ownBlock≠some j)->∀j,v.ownBlock=some j->j≠tb:=fun ho j hj e=>ho j hj (by rw[e];rfl)
 exact⟨(hkk.block bx (aF h.row) (by omega)).trans h.row,bT h.opn hkk (ne o4),⟨_,hn⟩,bT h.moves hkk (ne o5),h.kept.trans (hkk.mono fun j _ hj=>by omega),Nat.le_trans h.size hkk.size⟩
theorem T1.last {W Z Y:World}{bx:Nat}{m:iY}{s v x o:Value}(h:T1 W Z bx m s v x o m.aA.length Y):T2 W Y bx m s v x o 0 Y :=
 ⟨h.row,h.opn,⟨_,Fz.start h.moves (Nat.le_refl _)⟩,h.kept,Nat.le_refl _⟩
theorem T2.next {W Z Y Y1:World}{bx:Nat}{m:iY}{s v o:Value}{k tb n cap:Nat}(h:T2 W Z bx m s v (.slice (some ⟨tb,0,none⟩) n cap) o k Y)(hbx:bx<W.heap.size)(hk:k<m.moves.length)(hb:Below Y.heap.size Y Y1){u:Value}(hI:jP Y.heap.size (fun x=>uD x u (jc m.moves k).2.wants/\PH u) Y1) :
    T2 W Z bx m s v (.slice (some ⟨tb,0,none⟩) n cap) o (k+1) (Y1.setCell ⟨tb,k*5+2,none⟩ u):=by
 obtain⟨us,hc⟩:=h.moves
 obtain⟨hn,hkk⟩:=Fz.next (fi:=2) (enc:=zh) (m:=5) (fun _=>rfl) (fun _ _=>rfl) (by decide) hc hk h.size hb hI
 have ht:=(eF hc.own tb rfl).1
 have o4:=dM (by decide) hc.own h.opn
 have ne:∀{v:Value},(∀j,v.ownBlock=some j->(Value.slice (some ⟨tb,0,none⟩) n cap).ownBlock≠some j)->∀j,v.ownBlock=some j->j≠tb:=fun ho j hj e=>ho j hj (by rw[e];rfl)
 exact⟨(hkk.block bx (aF h.row) (by omega)).trans h.row,bT h.opn hkk (ne o4),⟨_,hn⟩,h.kept.trans (hkk.mono fun j _ hj=>by omega),Nat.le_trans h.size hkk.size⟩
set_option maxHeartbeats 32000000 in
theorem ahL (m:iY)(s v x o:Value)(w:World)(h:Aq w s v x o m)(hb:m.nU):Calls Tryz.prog 106 #[JG s v x o m] w fun e w'=>∃sa sn sc ta tn tc ma mn mc o',e=.returned (JG (.slice sa sn sc) (.slice ta tn tc) (.slice ma mn mc) o' m)/\w'.ownsRow w.heap.size 3 1 o' m.opn.length (m.opn.flatMap Xr)/\Below w.heap.size w w':=by
 obtain⟨W1,hW1⟩:=aG (w.alloc (Nq s v x o m))
 obtain⟨e1,b1,z1⟩:=boxedB hW1
 obtain⟨W,hW⟩:=aG (W1.alloc (.cells #[.slice none 0 0,.slice none 0 0,.slice none 0 0,.int .i64 0,.int .i64 0,.int .i64 0,.slice none 0 0] 52))
 obtain⟨e2,b2,z2⟩:=boxedB hW
 have hBW:=aj b1 b2
 have eW:=ak b2 e1
 have nS:=ai (h.mono hBW)
 have i3:=h.aA
 have i4:=h.moves
 obtain⟨sa,sc,rfl,-,-⟩:=h.aO
 obtain⟨ta,tc,rfl,-,-⟩:=h.aA.els
 obtain⟨ma,mc,rfl,-,-⟩:=h.moves.els
 obtain⟨oa,oc,rfl,-,-⟩:=h.opn
 obtain⟨q0,q1,q2,q3,q4,q5,q6⟩:=Jf eW
 have bm1:=hb.aO
 have bm2:=hb.aA
 have bm3:=hb.moves
 have bm4:=hb.opn
 have hbm:=ai hb
 have hBw:=ai hBW
 have e2h:=ai e2
 have eWh:=ai eW
 clear h hb e1 e2 b1 b2 hBW eW
 go_enter Tryz.func106,Tryz.ntmps106
 go_wp2_with (fail)
 obtain⟨Y0,hY0⟩:=aG (W.drew)
 have aU:Below W.heap.size W Y0:=by rw[<- hY0];exact(Below.refl _ _).drew
 refine wp_region_noPanic ?_
 refine wp_region_any (by kernel_rfl) ?_
 show wpAny _ _ _ _ (20) #[false,false,false,false,false,false,false,false,false,false,false,false,false,false,false,false,false,false,false,false] _ W.drew
 rw[hY0]
 refine dY (n:=13) (S:=Below W.heap.size W) (f:=13) rfl ?_
 refine dL 0 (.pointer (some ⟨w.heap.size,0,none⟩)) 5 aU ?_ ?_
 . intro w' hSw;go_simp
 refine dL 1 (.slice sa m.aO.length sc) 6 aU ?_ ?_
 . intro w' hSw;(have m0:=ae hSw q0);(have m1:=ae hSw q1);(have m2:=ae hSw q2);(have m6:=ae hSw q6);go_simp
 refine dL 3 (.pointer (some ⟨w.heap.size,1,none⟩)) 8 aU ?_ ?_
 . intro w' hSw;go_simp
 refine dL 4 (.slice ta m.aA.length tc) 9 aU ?_ ?_
 . intro w' hSw;(have m0:=ae hSw q0);(have m1:=ae hSw q1);(have m2:=ae hSw q2);(have m6:=ae hSw q6);go_simp
 try simp only[bH,aI]
 refine dL 6 (.pointer (some ⟨w.heap.size,2,none⟩)) 11 aU ?_ ?_
 . intro w' hSw;go_simp
 refine dL 7 (.slice ma m.moves.length mc) 12 aU ?_ ?_
 . intro w' hSw;(have m0:=ae hSw q0);(have m1:=ae hSw q1);(have m2:=ae hSw q2);(have m6:=ae hSw q6);go_simp
 refine dL 9 (.pointer (some ⟨w.heap.size,6,none⟩)) 14 aU ?_ ?_
 . intro w' hSw;go_simp
 refine dL 10 (.slice oa m.opn.length oc) 15 aU ?_ ?_
 . intro w' hSw;(have m0:=ae hSw q0);(have m1:=ae hSw q1);(have m2:=ae hSw q2);(have m6:=ae hSw q6);go_simp
 try simp only[bH,aI]
 refine dh (i:=2) rfl (by kernel_rfl) (by decide) (fun K hK=>?_)
 go_simp
 (go_at_call 157;(with_reducible refine ax (aoN _ m.aO Y0 (nS.out.aO.mono aU) (by omega)) ?_);rintro e Y1 ⟨u1,rfl,oS,Ro⟩)
 obtain⟨sa1,QY,rfl⟩:=dw oS
 have fF:=aj aU Ro
 refine hK.out _ _ fF ?_
 clear hK K
 refine dL 12 (.pointer (some ⟨w.heap.size,0,none⟩)) 17 fF ?_ ?_
 . intro w' hSw;go_simp
 try simp only[bH,aI]
 refine dh (i:=5) rfl (by kernel_rfl) (by decide) (fun K hK=>?_)
 go_simp
 (go_at_call 158;(with_reducible refine ax (aoO _ m.aA (ahY nS.out.aA) Y1 (nS.out.aA.els.mono fF) (by omega)) ?_);rintro e Y2 ⟨u2,rfl,oV,cY2⟩)
 obtain⟨NC,Jj,rfl⟩:=dw oV
 have FI:=aj fF cY2
 refine hK.out _ _ FI ?_
 clear hK K
 try simp only[bH,aI]
 refine dh (i:=8) rfl (by kernel_rfl) (by decide) (fun K hK=>?_)
 go_simp
 (go_at_call 159;(with_reducible refine ax (aoM _ m.moves (agD nS.out.moves) Y2 (nS.out.moves.els.mono FI) (by omega)) ?_);rintro e Y3 ⟨u3,rfl,oM,cY3⟩)
 obtain⟨Np,IQ,rfl⟩:=dw oM
 have Qm:=aj FI cY3
 refine hK.out _ _ Qm ?_
 clear hK K
 try simp only[bH,aI]
 refine dh (i:=11) rfl (by kernel_rfl) (by decide) (fun K hK=>?_)
 go_simp
 (go_at_call 160;(with_reducible refine ax (akI _ m.opn Y3 (nS.out.opn.mono Qm) (by omega)) ?_);rintro e Y4 ⟨u4,rfl,oO,cY4⟩)
 obtain⟨Po,Pq,rfl⟩:=dw oO
 have uB:=aj Qm cY4
 refine hK.out _ _ uB ?_
 clear hK K
 try simp only[bH,aI]
 refine⟨by kernel_rfl,?_⟩
 have rY:=ak uB eWh.out
 have fz:∀i,Y4.frozen? ⟨w.heap.size,i,none⟩=false:=fun i=>UK rY i
 have zz:=(aF rY)
 obtain⟨x0,x1,x2,x3,x4,x5,x6⟩:=Jf rY
 obtain⟨Z,hZ⟩:=aG ((((Y4.setCell ⟨w.heap.size,0,none⟩ (.slice sa1 m.aO.length QY)).setCell ⟨w.heap.size,1,none⟩ (.slice NC m.aA.length Jj)).setCell ⟨w.heap.size,2,none⟩ (.slice Np m.moves.length IQ)).setCell ⟨w.heap.size,6,none⟩ (.slice Po m.opn.length Pq))
 have rZ:Z.heap[w.heap.size]? = some (Nq (.slice sa1 m.aO.length QY) (.slice NC m.aA.length Jj) (.slice Np m.moves.length IQ) (.slice Po m.opn.length Pq) m):=by rw[<- hZ,aX (aX (aX (aX rY 0 _) 1 _) 2 _) 6 _];rfl
 have kZ:Kept (fun j=>j≠w.heap.size) Y4 Z:=by rw[<- hZ];exact((((Kept.refl _ _).setCell (p:=⟨w.heap.size,0,none⟩) (.inl fun h=>h rfl) _).setCell (p:=⟨w.heap.size,1,none⟩) (.inl fun h=>h rfl) _).setCell (p:=⟨w.heap.size,2,none⟩) (.inl fun h=>h rfl) _).setCell (p:=⟨w.heap.size,6,none⟩) (.inl fun h=>h rfl) _
 have zW:w.heap.size<W.heap.size:=by omega
 have s0:=aU.size
 have s1:=fF.size
 have s2:=FI.size
 have s3:=Qm.size
 have s4:=uB.size
 have nb:∀{B:Nat} {e:TypeId} {m n:Nat} {v:Value} {ks:List Value},W.heap.size<=B->Y4.ownsRow B e m v n ks->Z.ownsRow W.heap.size e m v n ks:=fun hB h=>iw hB (bT h kZ fun j hj=>by have:=(eF h j hj).1;omega)
 have hT:Hid (T1 W Z w.heap.size m (.slice sa1 m.aO.length QY) (.slice NC m.aA.length Jj) (.slice Np m.moves.length IQ) (.slice Po m.opn.length Pq) 0 Z):=ai ⟨rZ,nb s3 oO,⟨_,Fz.start (nb s1 (gU (gU oV cY3) cY4)) (Nat.le_refl _)⟩,nb s2 (gU oM cY4),(Kept.all uB).trans (kZ.mono fun j _ hj=>hj.2),Nat.le_refl _⟩
 have hzs:=ai (show w.heap.size<W.heap.size/\W.heap.size<=Z.heap.size from⟨zW,Nat.le_trans s4 kZ.size⟩)
 obtain⟨p0,p1,p2,p3,p4,p5,p6⟩:=Jf rZ
 clear oS oV oM oO rY rZ kZ hY0 aU fF FI Qm uB Ro cY2 cY3 cY4 nb s0 s1 s2 s3 s4
 go_wp2_with (fail)
 refine NoPanic.normal ?_
 clear x0 x1 x2 x3 x4 x5 x6 fz zz hZ
 go_wp2_with (fail)
 go_loopw [24] (fun i wr=>∃j:Nat,j<=m.aA.length/\i=.int .i64 j/\Hid (T1 W Z w.heap.size m (.slice sa1 m.aO.length QY) (.slice NC m.aA.length Jj) (.slice Np m.moves.length IQ) (.slice Po m.opn.length Pq) j wr)) (fun i _=>m.aA.length - (intOf i).toNat)
 case atStart=>exact⟨0,by omega,rfl,hT⟩
 case round =>
  clear p0 p1 p2 p3 p4 p5 p6 q0 q1 q2 q3 q4 q5 q6 hT
  obtain⟨j,hj,rfl,hI⟩:=hrel
  have hz:=hzs.out
  have hkX:=hI.out.kept
  obtain⟨x0,x1,x2,x3,x4,x5,x6⟩:=Jf hI.out.row
  have zx:=(aF hI.out.row)
  by_cases hjl:j<m.aA.length
  . obtain⟨us,hc⟩:=hI.out.aA
    obtain⟨tb,cap2,he,-,htC,htl,htz,htc⟩:=Fz.at (enc:=zC) (m:=4) (fun _=>rfl) hc hjl
    simp only[Value.slice.injEq,true_and] at he
    obtain⟨rfl,rfl⟩:=he
    have hji:(0:Int)<=(j:Int)/\(j:Int)<m.aA.length:=by omega
    have r0:wr.cell? ⟨tb,j*4,none⟩=some (gZ m.aA j).1:=htc 0 _ rfl
    have hin2:=i3.ins j hjl
    have hil:=hbm.out.ints j hjl
    obtain⟨ia,ic,FK,-,-⟩:=id hin2
    replace hin2:=SC (S:=fun j=>j<W.heap.size/\j≠w.heap.size) hin2 hBw.out hkX fun j hj=>⟨by omega,by omega⟩
    rw[FK] at r0 hin2
    have fz0:=htz (j*4)
    clear hc htc FK
    go_wp2_with (fail)
    obtain⟨Y0,hY0⟩:=aG (wr.drew)
    have aU:Below wr.heap.size wr Y0:=by rw[<- hY0];exact(Below.refl _ _).drew
    refine wp_region_noPanic ?_
    refine wp_region_any (by kernel_rfl) ?_
    show wpAny _ _ _ _ (13) #[false,false,false,false,false,false,false,false,false,false,false,false,false] _ wr.drew
    rw[hY0]
    refine dY (n:=12) (S:=Below wr.heap.size wr) (f:=12) rfl ?_
    refine dL 0 (.pointer (some ⟨w.heap.size,1,none⟩)) 27 aU ?_ ?_
    . intro w' hSw;go_simp
    refine dL 1 (.slice (some ⟨tb,0,none⟩) m.aA.length Jj) 28 aU ?_ ?_
    . intro w' hSw;(have m1:=ae hSw x1);(have m0:=ae hSw r0);go_simp
    refine dL 2 (.int .i64 j) 29 aU ?_ ?_
    . intro w' hSw;(have m1:=ae hSw x1);(have m0:=ae hSw r0);go_simp
    refine dL 3 (.pointer (some ⟨w.heap.size,1,none⟩)) 30 aU ?_ ?_
    . intro w' hSw;go_simp
    try simp only[bH,aI]
    refine dL 4 (.slice (some ⟨tb,0,none⟩) m.aA.length Jj) 31 aU ?_ ?_
    . intro w' hSw;(have m1:=ae hSw x1);(have m0:=ae hSw r0);go_simp
    refine dL 5 (.int .i64 j) 32 aU ?_ ?_
    . intro w' hSw;(have m1:=ae hSw x1);(have m0:=ae hSw r0);go_simp
    refine dL 6 (.pointer (some ⟨tb,j*4,none⟩)) 33 aU ?_ ?_
    . intro w' hSw;go_simp
    refine dL 7 (.pointer (some ⟨tb,j*4,none⟩)) 34 aU ?_ ?_
    . intro w' hSw;go_simp
    try simp only[bH,aI]
    refine dL 8 (.slice ia (gZ m.aA j).2.aO.length ic) 35 aU ?_ ?_
    . intro w' hSw;(have m1:=ae hSw x1);(have m0:=ae hSw r0);go_simp
    try simp only[bH,aI]
    refine dh (i:=9) rfl (by kernel_rfl) (by decide) (fun K hK=>?_)
    go_simp
    (go_at_call 160;(with_reducible refine ax (akI _ (gZ m.aA j).2.aO Y0 (hin2.mono aU) (by omega)) ?_);rintro e Y1 ⟨u1,rfl,oR,Ro⟩)
    obtain⟨ia1,ic1,rfl⟩:=dw oR
    have fF:=aj aU Ro
    refine hK.out _ _ fF ?_
    clear hK K
    refine dL 10 (.pointer (some ⟨tb,j*4,none⟩)) 37 fF ?_ ?_
    . intro w' hSw;go_simp
    refine dL 11 (.pointer (some ⟨tb,j*4,none⟩)) 38 fF ?_ ?_
    . intro w' hSw;go_simp
    try simp only[bH,aI]
    refine⟨by kernel_rfl,?_⟩
    have hn:=hI.out.next (by omega) hjl fF (u:=.slice ia1 (gZ m.aA j).2.aO.length ic1) (jP.els (enc:=Xr) (fun _=>rfl) 0 (iw aU.size oR) (by omega))
    have f2:=(dJ fF tb (j*4) htl).trans fz0
    have f3:=ae fF r0
    have f4:=bM htl fF.size
    obtain⟨Q,hQ⟩:=aG (Y1.setCell ⟨tb,j*4,none⟩ (.slice ia1 (gZ m.aA j).2.aO.length ic1))
    rw[hQ] at hn
    replace hn:=ai hn
    go_wp2_with (fail)
    refine NoPanic.normal ?_
    go_wp2_with (fail)
    exact⟨⟨j+1,by omega,by go_num,hn⟩,by simp[intOf];omega⟩
  . obtain rfl:j=m.aA.length:=by omega
    obtain⟨V2,hV2⟩:∃V2,V2=wr:=⟨_,rfl⟩
    have hL5:Hid (T2 W V2 w.heap.size m (.slice sa1 m.aO.length QY) (.slice NC m.aA.length Jj) (.slice Np m.moves.length IQ) (.slice Po m.opn.length Pq) 0 V2):=ai (by rw[hV2];exact hI.out.last)
    clear hI hkX
    subst hV2
    go_wp2_with (fail)
    go_loopw [43] (fun i wr=>∃j:Nat,j<=m.moves.length/\i=.int .i64 j/\Hid (T2 W V2 w.heap.size m (.slice sa1 m.aO.length QY) (.slice NC m.aA.length Jj) (.slice Np m.moves.length IQ) (.slice Po m.opn.length Pq) j wr)) (fun i _=>m.moves.length - (intOf i).toNat)
    case atStart=>exact⟨0,by omega,rfl,hL5⟩
    case round =>
     clear x0 x1 x2 x3 x4 x5 x6 zx hL5
     obtain⟨j,hj,rfl,hI⟩:=hrel
     have hkX:=hI.out.kept
     obtain⟨x0,x1,x2,x3,x4,x5,x6⟩:=Jf hI.out.row
     have zx:=(aF hI.out.row)
     by_cases hjl:j<m.moves.length
     . obtain⟨ms,hc⟩:=hI.out.moves
       obtain⟨tb,cap2,he,-,htC,htl,htz,htc⟩:=Fz.at (enc:=zh) (m:=5) (fun _=>rfl) hc hjl
       simp only[Value.slice.injEq,true_and] at he
       obtain⟨rfl,rfl⟩:=he
       have hji:(0:Int)<=(j:Int)/\(j:Int)<m.moves.length:=by omega
       have r0:wr.cell? ⟨tb,j*5+2,none⟩=some (jc m.moves j).1:=htc 2 _ rfl
       have hin2:=i4.ins j hjl
       have hil:=hbm.out.wants j hjl
       obtain⟨ia,ic,FK,-,-⟩:=id hin2
       replace hin2:=SC (S:=fun j=>j<W.heap.size/\j≠w.heap.size) hin2 hBw.out hkX fun j hj=>⟨by omega,by omega⟩
       rw[FK] at r0 hin2
       have fz0:=htz (j*5+2)
       clear hc htc FK
       go_wp2_with (fail)
       obtain⟨Y0,hY0⟩:=aG (wr.drew)
       have aU:Below wr.heap.size wr Y0:=by rw[<- hY0];exact(Below.refl _ _).drew
       refine wp_region_noPanic ?_
       refine wp_region_any (by kernel_rfl) ?_
       show wpAny _ _ _ _ (13) #[false,false,false,false,false,false,false,false,false,false,false,false,false] _ wr.drew
       rw[hY0]
       refine dY (n:=12) (S:=Below wr.heap.size wr) (f:=12) rfl ?_
       refine dL 0 (.pointer (some ⟨w.heap.size,2,none⟩)) 46 aU ?_ ?_
       . intro w' hSw;go_simp
       refine dL 1 (.slice (some ⟨tb,0,none⟩) m.moves.length IQ) 47 aU ?_ ?_
       . intro w' hSw;(have m2:=ae hSw x2);(have m0:=ae hSw r0);go_simp
       refine dL 2 (.int .i64 j) 48 aU ?_ ?_
       . intro w' hSw;(have m2:=ae hSw x2);(have m0:=ae hSw r0);go_simp
       refine dL 3 (.pointer (some ⟨w.heap.size,2,none⟩)) 49 aU ?_ ?_
       . intro w' hSw;go_simp
       try simp only[bH,aI]
       refine dL 4 (.slice (some ⟨tb,0,none⟩) m.moves.length IQ) 50 aU ?_ ?_
       . intro w' hSw;(have m2:=ae hSw x2);(have m0:=ae hSw r0);go_simp
       refine dL 5 (.int .i64 j) 51 aU ?_ ?_
       . intro w' hSw;(have m2:=ae hSw x2);(have m0:=ae hSw r0);go_simp
       refine dL 6 (.pointer (some ⟨tb,j*5,none⟩)) 52 aU ?_ ?_
       . intro w' hSw;go_simp
       refine dL 7 (.pointer (some ⟨tb,j*5+2,none⟩)) 53 aU ?_ ?_
       . intro w' hSw;go_simp
       try simp only[bH,aI]
       refine dL 8 (.slice ia (jc m.moves j).2.wants.length ic) 54 aU ?_ ?_
       . intro w' hSw;(have m2:=ae hSw x2);(have m0:=ae hSw r0);go_simp
       try simp only[bH,aI]
       refine dh (i:=9) rfl (by kernel_rfl) (by decide) (fun K hK=>?_)
       go_simp
       (go_at_call 161;(with_reducible refine ax (aoP _ (jc m.moves j).2.wants Y0 (hin2.mono aU) (by omega)) ?_);rintro e Y1 ⟨u1,rfl,oR,Ro⟩)
       obtain⟨ia1,ic1,rfl⟩:=dw oR
       have fF:=aj aU Ro
       refine hK.out _ _ fF ?_
       clear hK K
       refine dL 10 (.pointer (some ⟨tb,j*5,none⟩)) 56 fF ?_ ?_
       . intro w' hSw;go_simp
       refine dL 11 (.pointer (some ⟨tb,j*5+2,none⟩)) 57 fF ?_ ?_
       . intro w' hSw;go_simp
       try simp only[bH,aI]
       refine⟨by kernel_rfl,?_⟩
       have hn:=hI.out.next (by omega) hjl fF (u:=.slice ia1 (jc m.moves j).2.wants.length ic1) (fun x hx=>⟨jP.els (enc:=RQ) (fun _=>rfl) ⟨0,false⟩ (iw aU.size oR) (by omega) x hx,XI oR⟩)
       have f2:=(dJ fF tb (j*5+2) htl).trans fz0
       have f3:=ae fF r0
       have f4:=bM htl fF.size
       obtain⟨Q,hQ⟩:=aG (Y1.setCell ⟨tb,j*5+2,none⟩ (.slice ia1 (jc m.moves j).2.wants.length ic1))
       rw[hQ] at hn
       replace hn:=ai hn
       go_wp2_with (fail)
       refine NoPanic.normal ?_
       go_wp2_with (fail)
       exact⟨⟨j+1,by omega,by go_num,hn⟩,by simp[intOf];omega⟩
     . obtain rfl:j=m.moves.length:=by omega
       have r2:=(hI.out.kept.block _ (aF e2h.out) ⟨by omega,by omega⟩).trans e2h.out
       have hrw:=ai hI.out.row
       have hfin:Hid ((wr.setRow W1.heap.size #[.slice sa1 m.aO.length QY,.slice NC m.aA.length Jj,.slice Np m.moves.length IQ,.int .i64 m.states,.int .i64 m.cmds,.int .i64 m.begin,.slice Po m.opn.length Pq]).ownsRow w.heap.size 3 1 (.slice Po m.opn.length Pq) m.opn.length (m.opn.flatMap Xr)/\Below w.heap.size w (wr.setRow W1.heap.size #[.slice sa1 m.aO.length QY,.slice NC m.aA.length Jj,.slice Np m.moves.length IQ,.int .i64 m.states,.int .i64 m.cmds,.int .i64 m.begin,.slice Po m.opn.length Pq])) :=
        ai ⟨iw (by omega) (bT hI.out.opn (Jh _) fun j hj=>by have:=(eF hI.out.opn j hj).1;omega),hBw.out.trans (((hI.out.kept.mono fun j _ (h:j<w.heap.size)=>⟨by omega,by omega⟩).trans ((Jh _).mono fun j _ (h:j<w.heap.size)=>by omega)).below (B:=w.heap.size) (by omega) fun j hj=>hj)⟩
       have r2h:=ai r2
       have hrr:=ai (setRow_heap wr W1.heap.size _ #[.slice sa1 m.aO.length QY,.slice NC m.aA.length Jj,.slice Np m.moves.length IQ,.int .i64 m.states,.int .i64 m.cmds,.int .i64 m.begin,.slice Po m.opn.length Pq] _ _ r2)
       clear x0 x1 x2 x3 x4 x5 x6 r2 hI hkX
       go_wp2_with (first|(refine wpList_load_row rfl 52 _ rfl w.heap.size rfl _ _ (0,0) _ hrw.out Tryz.underlying52 rfl (by show _=some 7;kernel_rfl) ?_)|(refine wpList_store_row rfl 52 _ _ rfl W1.heap.size #[.slice sa1 m.aO.length QY,.slice NC m.aA.length Jj,.slice Np m.moves.length IQ,.int .i64 m.states,.int .i64 m.cmds,.int .i64 m.begin,.slice Po m.opn.length Pq] rfl rfl _ _ r2h.out (by show _=some 7;kernel_rfl) rfl (by kernel_rfl) ?_))
       exact bodyPost_ret (v:=JG (.slice sa1 m.aO.length QY) (.slice NC m.aA.length Jj) (.slice Np m.moves.length IQ) (.slice Po m.opn.length Pq) m) (results_cell_row rfl _ _ W1.heap.size _ _ _ _ rfl hrr.out Tryz.underlying52 rfl (by show _=some 7;kernel_rfl)) rfl ⟨_,_,_,_,_,_,_,_,_,_,rfl,hfin.out.1,hfin.out.2⟩
structure jJ (B tb:Nat)(m:iY)(w:World):Prop where
 le:B<=tb
 row:∃sa sn sc ta tn tc ma mn mc oa oc,w.heap[tb]? = some (.cells #[.slice sa sn sc,.slice ta tn tc,.slice ma mn mc,.int .i64 m.states,.int .i64 m.cmds,.int .i64 m.begin,.slice oa m.opn.length oc,.int .i64 m.begin,.int .i64 0,.slice none 0 0,.bool true] 210 (0,0))/\w.ownsRow B 3 1 (.slice oa m.opn.length oc) m.opn.length (m.opn.flatMap Xr)
theorem jJ.keep {B tb:Nat}{m:iY}{w w':World}(h:jJ B tb m w)(hk:Kept (fun j=>B<=j) w w'):jJ B tb m w':=by
 obtain⟨sa,sn,sc,ta,tn,tc,ma,mn,mc,oa,oc,hr,ho⟩:=h.row
 exact⟨h.le,sa,sn,sc,ta,tn,tc,ma,mn,mc,oa,oc,(hk.block tb (aF hr) h.le).trans hr,bT ho hk fun j hj=>(eF ho j hj).1⟩
theorem aks (m:iY)(s v x o:Value)(w:World)(h:Aq w s v x o m)(hb:m.nU)(ok:m.ok=true):Calls Tryz.prog 50 #[JG s v x o m] w fun e w'=>∃tb,e=.returned (.tuple #[.pointer (some ⟨tb,0,none⟩),.int .i64 0])/\jJ w.heap.size tb m w'/\Below w.heap.size w w':=by
 obtain⟨W,hW⟩:=aG (w.alloc (Nq s v x o m))
 obtain⟨e,bW,z⟩:=boxedB hW
 have hrg:=ai fun(X:World) (hX:Below W.heap.size W X)=>Jf (ak hX e)
 have nS:=ai (h.mono bW)
 have kV:=ai (Ue m s v x o W nS.out)
 obtain⟨sa,sc,rfl,-,-⟩:=h.aO
 obtain⟨ta,tc,rfl,-,-⟩:=h.aA.els
 obtain⟨ma,mc,rfl,-,-⟩:=h.moves.els
 obtain⟨oa,oc,rfl,-,-⟩:=h.opn
 obtain⟨q0,q1,q2,q3,q4,q5,q6⟩:=Jf e
 have hBw:=ai bW
 have hbr:=ai hb
 rw[ok] at kV
 clear h e bW hb ok
 go_enter Tryz.func50,Tryz.ntmps50
 go_wp2_with (fail)
 refine ax kV.out ?_
 rintro e w3 ⟨t,rfl,ht,hB3⟩
 have ht2:=ht.out
 clear ht
 subst ht2
 clear q0 q1 q2 q3 q4 q5 q6
 obtain⟨q0,q1,q2,q3,q4,q5,q6⟩:=hrg.out _ hB3
 have zw3:=bM z hB3.size
 go_wp2_with (fail)
 obtain⟨Y0,hY0⟩:=aG (w3.drew)
 have aU:Below w3.heap.size w3 Y0:=by rw[<- hY0];exact(Below.refl _ _).drew
 refine wp_region_noPanic ?_
 refine wp_region_any (by kernel_rfl) ?_
 show wpAny _ _ _ _ (9) #[false,false,false,false,false,false,false,false,false] _ w3.drew
 rw[hY0]
 refine dY (n:=5) (S:=Below w3.heap.size w3) (f:=5) rfl ?_
 refine dL 0 (JG (.slice sa m.aO.length sc) (.slice ta m.aA.length tc) (.slice ma m.moves.length mc) (.slice oa m.opn.length oc) m) 7 aU ?_ ?_
 . intro w' hSw;(have m0:=ae hSw q0);(have m1:=ae hSw q1);(have m2:=ae hSw q2);(have m3:=ae hSw q3);(have m4:=ae hSw q4);(have m5:=ae hSw q5);(have m6:=ae hSw q6);go_simp
 refine dL 2 (.pointer (some ⟨w.heap.size,5,none⟩)) 9 aU ?_ ?_
 . intro w' hSw;go_simp
 refine dL 3 (.int .i64 m.begin) 10 aU ?_ ?_
 . intro w' hSw;(have m0:=ae hSw q0);(have m1:=ae hSw q1);(have m2:=ae hSw q2);(have m3:=ae hSw q3);(have m4:=ae hSw q4);(have m5:=ae hSw q5);(have m6:=ae hSw q6);go_simp
 refine dL 4 (.agg #[.int .i64 m.begin,.int .i64 0]) 11 aU ?_ ?_
 . intro w' hSw;(have m0:=ae hSw q0);(have m1:=ae hSw q1);(have m2:=ae hSw q2);(have m3:=ae hSw q3);(have m4:=ae hSw q4);(have m5:=ae hSw q5);(have m6:=ae hSw q6);go_simp
 try simp only[bH,aI]
 refine dh (i:=1) rfl (by kernel_rfl) (by decide) (fun K hK=>?_)
 go_simp
 (go_at_call 106;(with_reducible refine ax (ahL m _ _ _ _ Y0 ((nS.out.mono hB3).mono aU) hbr.out) ?_);rintro e Y1 ⟨sa1,sn1,QY,NC,tn1,Jj,Np,mn1,IQ,o1,rfl,oO,Ro⟩)
 obtain⟨Po,Pq,rfl⟩:=dw oO
 have fF:=aj aU Ro
 refine hK.out _ _ fF ?_
 clear hK K
 try simp only[bH,aI]
 refine⟨by kernel_rfl,?_⟩
 obtain⟨Q,hQ⟩:=aG (Y1.alloc (.cells #[.slice sa1 sn1 QY,.slice NC tn1 Jj,.slice Np mn1 IQ,.int .i64 m.states,.int .i64 m.cmds,.int .i64 m.begin,.slice Po m.opn.length Pq,.int .i64 m.begin,.int .i64 0,.slice none 0 0,.bool true] 210))
 obtain⟨eQ,bQ,zQ⟩:=boxedB hQ
 have hf:Hid (jJ w.heap.size Y1.heap.size m Q/\Below w.heap.size w Q):=ai ⟨⟨by have:=hBw.out.size;have:=hB3.size;have:=fF.size;omega,_,_,_,_,_,_,_,_,_,_,_,eQ,iw (by have:=hBw.out.size;have:=hB3.size;have:=aU.size;omega) (gU oO bQ)⟩,aj hBw.out (aj hB3 (aj fF bQ))⟩
 clear oO eQ bQ
 go_wp2_with (fail)
 refine NoPanic.normal ?_
 go_wp2_with (fail)
 go_ret2
 exact⟨_,rfl,hf.out.1,hf.out.2⟩
theorem ahz {w:World}{n:Nat}{a0 a1 a2 a3 a4 a5 a6 a7 a8 a9 a10:Value}{e:TypeId}(h:w.heap[n]? = some (.cells #[a0,a1,a2,a3,a4,a5,a6,a7,a8,a9,a10] e (0,0))):w.cell? ⟨n,6,none⟩=some a6/\w.cell? ⟨n,7,none⟩=some a7/\w.cell? ⟨n,8,none⟩=some a8/\w.cell? ⟨n,9,none⟩=some a9/\w.cell? ⟨n,10,none⟩=some a10:=by
 have r:=(ah h).2.1
 exact⟨r 6,r 7,r 8,r 9,r 10⟩
theorem ahN {B tb:Nat}{m:iY}(w:World)(h:jJ B tb m w):Calls Tryz.prog 89 #[.pointer (some ⟨tb,0,none⟩)] w fun e w'=>e=.returned (.bool false)/\w=w':=by
 obtain⟨sa,sn,sc,ta,tn,tc,ma,mn,mc,oa,oc,hr,-⟩:=h.row
 obtain⟨r6,r7,r8,r9,r10⟩:=ahz hr
 have zb:=(aF hr)
 clear hr h
 go_enter Tryz.func89,Tryz.ntmps89
 go_wp2_with (fail)
 go_ret
 exact⟨rfl,rfl⟩
theorem Ud {B tb:Nat}{m:iY}(w:World)(h:jJ B tb m w)(hb:0<=m.begin/\m.begin<m.opn.length)(h8:m.opn.length<=8):Calls Tryz.prog 46 #[.pointer (some ⟨tb,0,none⟩)] w (dI (.tuple #[.int .i64 m.begin,.int .i64 0,.int .i64 (Lk.at0 m.opn m.begin.toNat),.int .i64 0]) w):=by
 have kN:=ai (ahN w h)
 obtain⟨sa,sn,sc,ta,tn,tc,ma,mn,mc,oa,oc,hr,ho⟩:=h.row
 obtain⟨r6,r7,r8,r9,r10⟩:=ahz hr
 have zb:=(aF hr)
 obtain⟨n,hn⟩:=Int.eq_ofNat_of_zero_le hb.1
 have hnl:n<m.opn.length:=by omega
 obtain⟨g,cap,he,hB,hlt,-,-,hf,hc⟩:=Qw ho (by omega)
 simp only[Value.slice.injEq,true_and] at he
 obtain⟨rfl,rfl⟩:=he
 have c0:w.cell? ⟨g,n,none⟩=some (.int .i64 (Lk.at0 m.opn n)):=by
  refine hc n _ ?_
  have h1:=uF (enc:=Xr) (m:=1) (fun _=>rfl) 0 m.opn n 0 hnl (by decide)
  rw[Nat.mul_one,Nat.add_zero] at h1
  rw[h1]
  rfl
 have hni:(0:Int)<=(n:Int)/\(n:Int)<m.opn.length:=by omega
 rw[hn]
 rw[hn] at r7
 simp only[Int.toNat_natCast]
 clear hr ho hc h hb hn
 go_enter Tryz.func46,Tryz.ntmps46
 go_wp2_with (go_at_call 89;(with_reducible refine ax kN.out ?_);rintro e w' ⟨rfl,rfl⟩)
 go_quiet (fail)
 go_wp2_with (fail)
 exact bodyPost_ret (v:=.tuple #[.int .i64 n,.int .i64 0,.int .i64 (Lk.at0 m.opn n),.int .i64 0]) (by simp[results,Tryz.results46,go_sem]) rfl ⟨rfl,below_drewN (Below.refl _ _) nq⟩
