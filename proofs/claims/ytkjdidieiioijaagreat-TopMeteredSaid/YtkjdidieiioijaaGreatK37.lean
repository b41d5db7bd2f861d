/- Walks. -/
import Derived.Test.YtkjdidieiioijaaGreatK36
set_option linter.all false
set_option maxRecDepth 100000
set_option maxHeartbeats 16000000
namespace Go.Proofs.YtkjdidieiioijaaGreat.B
open Go.RowKit Go.Sd Wl Bk L Tr Dk
attribute [local go_sem] Oper.semAt_some
theorem aoR {c:bz.d_}{s:bz.St}{ay:Int}(hm:0<=ay/\ay<=2000000) : -100000000<=(CY c s (zG ay)).2.1.di/\(CY c s (zG ay)).2.1.di<=100000000/\-100000000<=(CY c s (zG ay)).2.1.dE/\(CY c s (zG ay)).2.1.dE<=100000000:=by
 unfold CY
 cases hb:(c.ok && s.ok && (zG ay).ok)
 . rw[if_neg (by decide)];decide
 . rw[if_pos rfl]
   rw[Bool.and_eq_true,Bool.and_eq_true] at hb
   have hs:=bz.St.fZ.1 hb.1.2
   cases ha:bz.act c s (zG ay) with
   | none=>exact⟨by decide,by decide,by decide,by decide⟩
   | some r =>
    obtain⟨n,q⟩:=r
    have ha':(if ay<=s.dB+s.di then some (bz.Ha s ay,bz.Zv s ay) else none)=some (n,q):=ha
    clear ha
    split at ha'
    . simp only[Option.some.injEq,Prod.mk.injEq] at ha'
      obtain⟨-,rfl⟩:=ha'
      have hg:=hs.g
      have hy:=hs.y
      have a1:0<=bz.part ay s.di (s.dK+s.di):=bz.oz hm.1 (by omega) (by omega)
      have a2:bz.part ay s.di (s.dK+s.di)<=ay:=bz.nO hm.1 (by omega) (by omega)
      have a3:0<=bz.part ay s.dE (s.dB+s.dE):=bz.oz hm.1 (by omega) (by omega)
      have a4:bz.part ay s.dE (s.dB+s.dE)<=ay:=bz.nO hm.1 (by omega) (by omega)
      simp only[bz.Zv]
      omega
    . cases ha'
theorem ahD {w:World}{n:Nat}{a0 a1 a2 a3 a4 a5 a6 a7:Value}{e:TypeId}(h:w.heap[n]? = some (.cells #[a0,a1,a2,a3,a4,a5,a6,a7] e (0,0))):w.cell? ⟨n,0,none⟩=some a0/\w.cell? ⟨n,1,none⟩=some a1/\w.cell? ⟨n,2,none⟩=some a2/\w.cell? ⟨n,3,none⟩=some a3/\w.cell? ⟨n,4,none⟩=some a4/\w.cell? ⟨n,5,none⟩=some a5/\w.cell? ⟨n,6,none⟩=some a6/\w.cell? ⟨n,7,none⟩=some a7:=by
 have r:=(ah h).2.1
 exact⟨r 0,r 1,r 2,r 3,r 4,r 5,r 6,r 7⟩
theorem nC (w:World)(d i:Nat)(v:Value):Kept (fun j=>j≠d) w (w.setCell ⟨d,i,none⟩ v):=(Kept.refl _ _).setCell (p:=⟨d,i,none⟩) (.inl fun h=>h rfl) _
structure Af (d g b1 b2 rn rc:Nat)(ay dm cm fo:Int)(u0 u1 u2 u3 u4 u5 u6 u7:Value)(X Z:World):Prop where
 dg:d≠g
 ne:b1≠d/\b1≠g/\b2≠d/\b2≠g
 row:∃cur,Z.heap[d]? = some (.cells cur 128 (0,0))/\cur[10]? = some (.slice (some ⟨g,0,none⟩) rn rc)/\cur[21]? = some (.int .i64 fo)/\cur[26]? = some (.slice none 0 0)
 rm:∃cur,Z.heap[g]? = some (.cells cur 131 (0,0))/\(cur[0]? = some u0/\cur[1]? = some u1/\cur[2]? = some u2/\cur[3]? = some u3/\cur[4]? = some u4/\cur[5]? = some u5/\cur[6]? = some u6/\cur[7]? = some u7)/\cur[12]? = some (.int .i64 cm)
 r1:Z.heap[b1]? = some (.cells #[.int .i64 ay] 3 (0,0))
 r2:Z.heap[b2]? = some (.cells #[.int .i64 dm] 3 (0,0))
 kept:Kept (fun j=>j≠d/\j≠g) X Z
section
variable {d g b1 b2 rn rc:Nat}{ay dm cm fo:Int}{u0 u1 u2 u3 u4 u5 u6 u7:Value}{X Z Z':World}
theorem Af.facts (h:Af d g b1 b2 rn rc ay dm cm fo u0 u1 u2 u3 u4 u5 u6 u7 X Z):Z.cell? ⟨d,10,none⟩=some (.slice (some ⟨g,0,none⟩) rn rc)/\Z.cell? ⟨d,21,none⟩=some (.int .i64 fo)/\Z.cell? ⟨d,26,none⟩=some (.slice none 0 0)/\Z.frozen? ⟨d,21,none⟩=false/\Z.frozen? ⟨d,26,none⟩=false/\d<Z.heap.size /\
    Z.cell? ⟨g,12,none⟩=some (.int .i64 cm)/\Z.frozen? ⟨g,12,none⟩=false/\g<Z.heap.size/\Z.cell? ⟨b1,0,none⟩=some (.int .i64 ay)/\Z.cell? ⟨b2,0,none⟩=some (.int .i64 dm) /\
    Z.cell? ⟨g,0,none⟩=some u0/\Z.cell? ⟨g,1,none⟩=some u1/\Z.cell? ⟨g,2,none⟩=some u2/\Z.cell? ⟨g,3,none⟩=some u3/\Z.cell? ⟨g,4,none⟩=some u4/\Z.cell? ⟨g,5,none⟩=some u5/\Z.cell? ⟨g,6,none⟩=some u6/\Z.cell? ⟨g,7,none⟩=some u7 /\
    Z.frozen? ⟨g,0,none⟩=false/\Z.frozen? ⟨g,1,none⟩=false/\Z.frozen? ⟨g,2,none⟩=false/\Z.frozen? ⟨g,3,none⟩=false/\Z.frozen? ⟨g,4,none⟩=false/\Z.frozen? ⟨g,5,none⟩=false/\Z.frozen? ⟨g,6,none⟩=false/\Z.frozen? ⟨g,7,none⟩=false:=by
 obtain⟨c1,hr,x10,x21,x26⟩:=h.row
 obtain⟨c2,hg,⟨v0,v1,v2,v3,v4,v5,v6,v7⟩,v12⟩:=h.rm
 have a:=(ah hr).2
 have b:=(ah hg).2
 exact⟨(a.1 10).trans x10,(a.1 21).trans x21,(a.1 26).trans x26,a.2 21,a.2 26,(aF hr),(b.1 12).trans v12,b.2 12,(aF hg),(ah h.r1).2.1 0,(ah h.r2).2.1 0,
  (b.1 0).trans v0,(b.1 1).trans v1,(b.1 2).trans v2,(b.1 3).trans v3,(b.1 4).trans v4,(b.1 5).trans v5,(b.1 6).trans v6,(b.1 7).trans v7,b.2 0,b.2 1,b.2 2,b.2 3,b.2 4,b.2 5,b.2 6,b.2 7⟩
theorem Af.below (h:Af d g b1 b2 rn rc ay dm cm fo u0 u1 u2 u3 u4 u5 u6 u7 X Z)(hb:Below Z.heap.size Z Z'):Af d g b1 b2 rn rc ay dm cm fo u0 u1 u2 u3 u4 u5 u6 u7 X Z':=by
 obtain⟨c1,hr,x⟩:=h.row
 obtain⟨c2,hg,v⟩:=h.rm
 exact⟨h.dg,h.ne,⟨c1,ak hb hr,x⟩,⟨c2,ak hb hg,v⟩,ak hb h.r1,ak hb h.r2,h.kept.trans (.all hb)⟩
theorem Af.aqI (h:Af d g b1 b2 rn rc ay dm cm fo u0 u1 u2 u3 u4 u5 u6 u7 X Z)(x:Int):Af d g b1 b2 rn rc ay dm cm x u0 u1 u2 u3 u4 u5 u6 u7 X (Z.setCell ⟨d,21,none⟩ (.int .i64 x)):=by
 obtain⟨c1,hr,x10,x21,x26⟩:=h.row
 obtain⟨c2,hg,v⟩:=h.rm
 have k:=nC Z d 21 (.int .i64 x)
 have hlt:21<c1.size:=(aF x21)
 exact⟨h.dg,h.ne,⟨_,aX hr 21 _,by rw[Array.getElem?_setIfInBounds,if_neg (by decide)];exact x10,by rw[Array.getElem?_setIfInBounds,if_pos rfl,if_pos hlt],by rw[Array.getElem?_setIfInBounds,if_neg (by decide)];exact x26⟩,⟨c2,(k.block g (aF hg) (Ne.symm h.dg)).trans hg,v⟩,(k.block _ (aF h.r1) h.ne.1).trans h.r1,(k.block _ (aF h.r2) h.ne.2.2.1).trans h.r2,h.kept.trans (k.mono fun j _ hj=>hj.1)⟩
theorem Af.aqM (h:Af d g b1 b2 rn rc ay dm cm fo u0 u1 u2 u3 u4 u5 u6 u7 X Z){cur:Array Value}{x:Int}{t0 t1 t2 t3 t4 t5 t6 t7:Value}(hk:Kept (fun j=>j≠g) Z Z')(hg:Z'.heap[g]? = some (.cells cur 131 (0,0)))(hv:cur[0]? = some t0/\cur[1]? = some t1/\cur[2]? = some t2/\cur[3]? = some t3/\cur[4]? = some t4/\cur[5]? = some t5/\cur[6]? = some t6/\cur[7]? = some t7)(h12:cur[12]? = some (.int .i64 x)):Af d g b1 b2 rn rc ay dm x fo t0 t1 t2 t3 t4 t5 t6 t7 X Z':=by
 obtain⟨c1,hr,y⟩:=h.row
 exact⟨h.dg,h.ne,⟨c1,(hk.block d (aF hr) h.dg).trans hr,y⟩,⟨cur,hg,hv,h12⟩,(hk.block _ (aF h.r1) h.ne.2.1).trans h.r1,(hk.block _ (aF h.r2) h.ne.2.2.2).trans h.r2,h.kept.trans (hk.mono fun j _ hj=>hj.2)⟩
theorem Af.aqH (h:Af d g b1 b2 rn rc ay dm cm fo u0 u1 u2 u3 u4 u5 u6 u7 X Z)(x:Int):Af d g b1 b2 rn rc ay dm x fo u0 u1 u2 u3 u4 u5 u6 u7 X (Z.setCell ⟨g,12,none⟩ (.int .i64 x)):=by
 obtain⟨c2,hg,⟨v0,v1,v2,v3,v4,v5,v6,v7⟩,v12⟩:=h.rm
 have hlt:12<c2.size:=(aF v12)
 refine h.aqM (nC Z g 12 _) (aX hg 12 _) ⟨?_,?_,?_,?_,?_,?_,?_,?_⟩ (by rw[Array.getElem?_setIfInBounds,if_pos rfl,if_pos hlt])
 all_goals
  rw[Array.getElem?_setIfInBounds,if_neg (by decide)]
  assumption
theorem Af.au0 (h:Af d g b1 b2 rn rc ay dm cm fo u0 u1 u2 u3 u4 u5 u6 u7 X Z)(t0 t1 t2 t3 t4 t5 t6 t7:Value):Af d g b1 b2 rn rc ay dm cm fo t0 t1 t2 t3 t4 t5 t6 t7 X ((((((((Z.setCell ⟨g,0,none⟩ t0).setCell ⟨g,1,none⟩ t1).setCell ⟨g,2,none⟩ t2).setCell ⟨g,3,none⟩ t3).setCell ⟨g,4,none⟩ t4).setCell ⟨g,5,none⟩ t5).setCell ⟨g,6,none⟩ t6).setCell ⟨g,7,none⟩ t7):=by
 obtain⟨c2,hg,⟨v0,v1,v2,v3,v4,v5,v6,v7⟩,v12⟩:=h.rm
 have hlt:12<c2.size:=(aF v12)
 have hr:=aX (aX (aX (aX (aX (aX (aX (aX hg 0 t0) 1 t1) 2 t2) 3 t3) 4 t4) 5 t5) 6 t6) 7 t7
 refine h.aqM (((((((((nC Z g 0 t0).trans (nC _ g 1 t1)).trans (nC _ g 2 t2)).trans (nC _ g 3 t3)).trans (nC _ g 4 t4)).trans (nC _ g 5 t5)).trans (nC _ g 6 t6)).trans (nC _ g 7 t7))) hr ⟨?_,?_,?_,?_,?_,?_,?_,?_⟩ ?_
 all_goals simp[Array.getElem?_setIfInBounds]
 all_goals first|omega|exact v12|(rintro rfl;simp at hlt)
theorem out_start {B n n':Nat}{r:ND}{ds:List DC}{rs:List Rm}{w:World}{ay dm:Int}(h:ed B d r ds rs w)(h0:0<rs.length)(ha:r.acts=.slice none 0 0)(hfo:r.Xi=0)(hca:(ny rs 0).came=0)(hn:w.heap.size<=n)(hn':w.heap.size<=n'):∃g rc,r.rv=.slice (some ⟨g,0,none⟩) rs.length rc/\∃u0 u1 u2 u3 u4 u5 u6 u7,∀U,Below w.heap.size w U->U.heap[n]? = some (.cells #[.int .i64 ay] 3 (0,0))->U.heap[n']? = some (.cells #[.int .i64 dm] 3 (0,0))->Af d g n n' rs.length rc ay dm 0 0 u0 u1 u2 u3 u4 u5 u6 u7 w U:=by
 obtain⟨g,cap,hr,-,hgl,-,hc⟩:=CE h h0
 have hd:=(aF h.row)
 rcases h.aS.2 with ⟨-,h9⟩|⟨g',cap',cur,he,hb,hg,-⟩
 . omega
 . have e1:=hr.symm.trans he
   simp only[Value.slice.injEq,Option.some.injEq,Addr.mk.injEq] at e1
   obtain⟨⟨rfl,-⟩,-,rfl⟩:=e1
   have b:=(ah hg).2.1
   have hx:∀i u,(Yg (ny rs 0))[i]? = some u->cur[i]? = some u:=fun i u hu=>by
    have h1:=hc i u hu
    rw[Nat.zero_mul,Nat.zero_add] at h1
    exact(b i).symm.trans h1
   have hne:d≠g:=by
    intro e
    have h2:=h.row
    rw[e,hg] at h2
    simp only[Option.some.injEq,Obj.cells.injEq] at h2
    exact absurd h2.2.1 (by decide)
   refine⟨g,cap,hr,_,_,_,_,_,_,_,_,fun U hU f1 f2=>⟨hne,⟨by omega,by omega,by omega,by omega⟩,⟨_,ak hU h.row,by rw[<- hr];rfl,by rw[<- hfo];rfl,by rw[<- ha];rfl⟩,⟨cur,ak hU hg,⟨hx 0 _ rfl,hx 1 _ rfl,hx 2 _ rfl,hx 3 _ rfl,hx 4 _ rfl,hx 5 _ rfl,hx 6 _ rfl,hx 7 _ rfl⟩,by rw[<- hca];exact hx 12 _ rfl⟩,f1,f2,.all hU⟩⟩
end
theorem aia {B d:Nat}{r:ND}{ds:List DC}{rs:List Rm}(ay dm:Int)(hm:0<=ay/\ay<=2000000)(hkk : -1000000000<=dm/\dm<=1000000000)(w:World)(h:ed B d r ds rs w)(h0:0<rs.length)(c:bz.d_)(hcc:(aQ ds 0).c=c)(s:bz.St)(hss:(ny rs 0).s=s)(we:We)(hwe:(ny rs 0).we=we)(ok:we.Ok)(hl:2<=(aQ ds 0).line/\(aQ ds 0).line<=we.aS - 1)(hb:0<=(aQ ds 0).m.begin/\(aQ ds 0).m.begin<(aQ ds 0).m.opn.length)(h8:(aQ ds 0).m.opn.length<=8)
    (ha:r.acts=.slice none 0 0) (hfo:r.Xi=0) (hca:(ny rs 0).came=0):Calls Tryz.prog 9 #[.pointer (some ⟨d,0,none⟩),.int .i64 0,.int .i64 ay,.int .i64 dm] w fun e w'=>e=.returned (.int .i64 (tJ (oQ we (aQ ds 0).line && oW (aQ ds 0).m) c s ay dm))/\(tJ (oQ we (aQ ds 0).line && oW (aQ ds 0).m) c s ay dm≠0->Below w.heap.size w w')/\Kept (fun j=>j≠d/\r.rv.ownBlock≠some j) w w':=by
 obtain⟨W1,hW1⟩:=aG (w.alloc (.cells #[.int .i64 ay] 3))
 obtain⟨e1,b1,z1⟩:=boxedB hW1
 obtain⟨W,hW⟩:=aG (W1.alloc (.cells #[.int .i64 dm] 3))
 obtain⟨e2,b2,z2⟩:=boxedB hW
 have hB:=aj b1 b2
 have f1:=ak b2 e1
 have hD:=h.mono hB
 have kN:=ai (WB W hD)
 have kK:=SA 0 W hD
 have kB:=ai fun t n=>ac1 t n W hD
 have hk0:inB 0 0 ((rs.length:Int) - 1)=true:=by simp[inB];omega
 rw[hk0] at kK
 replace kK:=ai kK
 have i1:inB ay 0 2000000=true:=by simp[inB,hm]
 obtain⟨c1,u1⟩:=uw f1
 obtain⟨c2,u2⟩:=uw e2
 have hBh:=ai hB
 cases i2:inB dm 0 100000000
 . have hR:tJ (oQ we (aQ ds 0).line && oW (aQ ds 0).m) c s ay dm=2:=by unfold tJ;rw[if_neg (by rw[i2];decide)]
   rw[hR]
   clear hR h hD e1 e2 b1 b2 f1 hB ha hfo hca hb h8 hl ok hwe hss hcc hk0
   go_enter Tryz.func9,Tryz.ntmps9
   go_wp2_with (first|(go_at_call 35;(with_reducible refine ax kN.out ?_);rintro e w9 ⟨rfl,rfl⟩)|(go_at_call 37;(with_reducible refine ax kK.out ?_);rintro e w9 ⟨rfl,rfl⟩)|(go_at_call 38;(with_reducible refine ax (nG (by assumption) _) ?_);rintro e w9 ⟨rfl,rfl⟩)|(go_at_call 36;(with_reducible refine ax (kB.out _ _) ?_);rintro e w9 ⟨rfl,rfl⟩))
   go_ret
   exact⟨rfl,fun _=>hBh.out,.all hBh.out⟩
 . have hR:tJ (oQ we (aQ ds 0).line && oW (aQ ds 0).m) c s ay dm=lF (oQ we (aQ ds 0).line && oW (aQ ds 0).m) c s (zG ay) (qO dm ay (CY c s (zG ay)).2.1) dm:=by unfold tJ;rw[if_pos i2]
   rw[hR]
   obtain⟨g,rc,hr,u0,u1,u2,u3,u4,u5,u6,u7,UN⟩:=out_start (ay:=ay) (dm:=dm) h h0 ha hfo hca (Nat.le_refl _) (Nat.le_of_lt z1)
   have kF:=fun(X:World) (hX:Below W.heap.size W X)=>ae6 (zG ay) 39 #[.pointer (some ⟨W1.heap.size,0,none⟩),.pointer (some ⟨w.heap.size,0,none⟩)] dm X (hD.mono hX) h0 c hcc s hss we hwe ok hl hb h8 (fun _ _=>by rfl) _ fun Y hY=>out1 (CY c s (zG ay)).2.1 dm ay W1.heap.size w.heap.size _ _ Y ⟨hm.1,by omega⟩ (aoR hm) (ak (aj hX hY) e2) (ak (aj hX hY) f1)
   obtain⟨q,hq⟩:=aG (lF (oQ we (aQ ds 0).line && oW (aQ ds 0).m) c s (zG ay) (qO dm ay (CY c s (zG ay)).2.1) dm)
   rw[hq] at kF
   rw[hq]
   obtain⟨s2,hs2⟩:=aG ((if q=0 then(CY c s (zG ay)).1 else G.st0))
   rw[hs2] at kF
   have kF2:Hid (∀X,Below W.heap.size W X->Calls Tryz.prog 41 #[.pointer (some ⟨d,0,none⟩),.int .i64 0,.int .i64 1,.agg #[.int .i64 2,.int .i64 0,.int .i64 0,.int .i64 0,.int .i64 0,.int .i64 ay,.int .i64 0,.int .i64 0,.int .i64 0,.int .i64 0],.func (.func 39) #[] #[.pointer (some ⟨W1.heap.size,0,none⟩),.pointer (some ⟨w.heap.size,0,none⟩)],.int .i64 dm] X fun e w'=>e=.returned (.tuple #[G.jF s2,.int .i64 q])/\Below X.heap.size X w'):=ai kF
   have zd:d<W.heap.size:=bM (aF h.row) hB.size
   have x21:W.cell? ⟨d,21,none⟩=some (.int .i64 r.Xi):=(ah hD.row).2.1 21
   rw[hfo] at x21
   replace UN:=ai UN
   have f1h:=ai f1
   have f2h:=ai e2
   obtain⟨rn,hrn⟩:=aG (rs.length)
   rw[hrn] at UN
   have hli:(0:Int)<(rn:Int):=by omega
   have hr0:0<rn:=by omega
   have hw1:IntKind.i64.wrap (-ay) = -ay:=by simp[IntKind.wrap,IntKind.bits,IntKind.signed];omega
   have hw2:IntKind.i64.wrap dm=dm:=by simp[IntKind.wrap,IntKind.bits,IntKind.signed];omega
   have hrow:=ai (show r.rv.ownBlock=some g by rw[hr];rfl)
   clear hR h hD e1 e2 b1 b2 f1 ha hfo hca hb h8 hl ok hwe hss hcc hk0 kF hs2 hr hrn h0
   go_enter Tryz.func9,Tryz.ntmps9
   go_wp2_with (first|(go_at_call 35;(with_reducible refine ax kN.out ?_);rintro e w9 ⟨rfl,rfl⟩)|(go_at_call 37;(with_reducible refine ax kK.out ?_);rintro e w9 ⟨rfl,rfl⟩)|(go_at_call 38;(with_reducible refine ax (nG (by assumption) _) ?_);rintro e w9 ⟨rfl,rfl⟩)|(go_at_call 36;(with_reducible refine ax (kB.out _ _) ?_);rintro e w9 ⟨rfl,rfl⟩))
   refine iy h_ (va:=[⟨15,11,40,#[.int .i64 0,.int .i64 0,.int .i64 0,.int .i64 0,.int .i64 0,.int .i64 0,.int .i64 0,.int .i64 0],16,.tmp 45⟩]) (by kernel_rfl) (by kernel_rfl) ?_ ?_ (by simp) (fun T f hT hf hcl=>?_)
   . intro p hp w
     simp only[List.mem_cons,List.not_mem_nil,or_false] at hp
     rcases hp with rfl <;> go_simp
   . intro p hp
     simp only[List.mem_cons,List.not_mem_nil,or_false] at hp
     rcases hp with rfl <;> kernel_rfl
   have hg:∀(g:T) (b o:Nat),b<W.heap.size->(f g).cell? ⟨b,o,none⟩=W.cell? ⟨b,o,none⟩:=fun g=>dR (hf g)
   simp only[fM,List.zipIdx_cons,List.zipIdx_nil,List.map_cons,List.map_nil,fG,List.any_cons,List.any_nil,Nat.reduceAdd,Nat.reduceBEq,Bool.or_false,Bool.false_or,Bool.or_self,Bool.false_eq_true,if_false,if_true,Nat.zero_add,BEq.rfl,Bool.or_true,Bool.true_or]
   simp only[Go.Sd.blank]
   repeat (go_big_quiet_step ((first|(go_at_call 41;(with_reducible refine ax (kF2.out _ (hf _)) ?_);rintro e w1 ⟨rfl,hb1⟩;exact⟨rfl,hcl _ _ hb1⟩))))
   refine wpQuiet_nil ?_
   refine⟨?_,?_⟩
   . intro p hp
     simp only[List.mem_cons,List.not_mem_nil,or_false] at hp
     rcases hp with rfl <;> (constructor <;> simp[go_sem,Value.cells,Value.oneCell'])
   intro ns w' hB hv
   have hvb:=hv.2.2
   obtain⟨n1,rfl,hn1,hl1,hc1,hf1⟩:=qA hv
   have P5:=(hvb 0 _ n1 rfl rfl).2
   simp[go_sem,Value.cells] at P5
   clear hvb
   clear hv hf hcl hg
   simp only[iQ,Act.put,List.setIfInBounds_toArray,List.set_cons_zero,List.set_cons_succ]
   simp[go_sem] at hc1
   obtain⟨U,rfl⟩:∃U1,U1=w':=⟨_,rfl⟩
   have hS:=UN.out U (aj hBh.out hB) (ak hB f1h.out) (ak hB f2h.out)
   have hU:=aj hBh.out hB
   cases hne:(q != 0)
   . have hq0:q=0:=by simpa using hne
     subst hq0
     obtain⟨k0,k1,k2,k3,k4,k5,k6,k7⟩:=ahD P5
     obtain⟨yrA,yfA,yaA,ffA,faA,zdA,ycA,fcA,zgA,ymA,ykA,g0A,g1A,g2A,g3A,g4A,g5A,g6A,g7A,h0A,h1A,h2A,h3A,h4A,h5A,h6A,h7A⟩:=hS.facts
     clear hc1 P5
     replace hq:=ai True.intro
     go_wp2_with (fail)
     obtain⟨YA,hYA⟩:=aG (U.drew)
     have UX:Below U.heap.size U YA:=by rw[<- hYA];exact(Below.refl _ _).drew
     refine wp_region_noPanic ?_
     refine wp_region_any (by kernel_rfl) ?_
     show wpAny _ _ _ _ (9) #[false,false,false,false,false,false,false,false,false] _ U.drew
     rw[hYA]
     refine dY (n:=8) (S:=Below U.heap.size U) (f:=8) rfl ?_
     refine dL 0 (.pointer (some ⟨d,0,none⟩)) 50 UX ?_ ?_
     . intro w' hSw;go_simp
     refine dL 1 (.pointer (some ⟨d,0,none⟩)) 51 UX ?_ ?_
     . intro w' hSw;go_simp
     refine dL 2 (.pointer (some ⟨d,10,none⟩)) 52 UX ?_ ?_
     . intro w' hSw;go_simp
     refine dL 3 (.slice (some ⟨g,0,none⟩) rn rc) 53 UX ?_ ?_
     . intro w' hSw;(have myr:=ae hSw yrA);(have myf:=ae hSw yfA);(have myc:=ae hSw ycA);(have mym:=ae hSw ymA);(have myk:=ae hSw ykA);(have e0:=ae hSw k0);(have e1:=ae hSw k1);(have e2:=ae hSw k2);(have e3:=ae hSw k3);(have e4:=ae hSw k4);(have e5:=ae hSw k5);(have e6:=ae hSw k6);(have e7:=ae hSw k7);go_simp
     try simp only[bH,aI]
     refine dL 4 (.int .i64 0) 54 UX ?_ ?_
     . intro w' hSw;(have myr:=ae hSw yrA);(have myf:=ae hSw yfA);(have myc:=ae hSw ycA);(have mym:=ae hSw ymA);(have myk:=ae hSw ykA);(have e0:=ae hSw k0);(have e1:=ae hSw k1);(have e2:=ae hSw k2);(have e3:=ae hSw k3);(have e4:=ae hSw k4);(have e5:=ae hSw k5);(have e6:=ae hSw k6);(have e7:=ae hSw k7);go_simp
     refine dL 5 (G.jF s2) 55 UX ?_ ?_
     . intro w' hSw;(have myr:=ae hSw yrA);(have myf:=ae hSw yfA);(have myc:=ae hSw ycA);(have mym:=ae hSw ymA);(have myk:=ae hSw ykA);(have e0:=ae hSw k0);(have e1:=ae hSw k1);(have e2:=ae hSw k2);(have e3:=ae hSw k3);(have e4:=ae hSw k4);(have e5:=ae hSw k5);(have e6:=ae hSw k6);(have e7:=ae hSw k7);go_simp
     refine dL 6 (.pointer (some ⟨g,0,none⟩)) 56 UX ?_ ?_
     . intro w' hSw;go_simp
     refine dL 7 (.pointer (some ⟨g,0,none⟩)) 57 UX ?_ ?_
     . intro w' hSw;go_simp
     try simp only[bH,aI]
     refine⟨by kernel_rfl,?_⟩
     have hSA:=hS.below UX
     clear yrA yfA yaA ffA faA zdA ycA fcA zgA ymA ykA g0A g1A g2A g3A g4A g5A g6A g7A h0A h1A h2A h3A h4A h5A h6A h7A
     obtain⟨yrA,yfA,yaA,ffA,faA,zdA,ycA,fcA,zgA,ymA,ykA,g0A,g1A,g2A,g3A,g4A,g5A,g6A,g7A,h0A,h1A,h2A,h3A,h4A,h5A,h6A,h7A⟩:=hSA.facts
     obtain⟨Z1,hZ1⟩:=aG (((((((((YA.setCell ⟨g,0,none⟩ (.int .i64 s2.dB)).setCell ⟨g,1,none⟩ (.int .i64 s2.dK)).setCell ⟨g,2,none⟩ (.int .i64 s2.di)).setCell ⟨g,3,none⟩ (.int .i64 s2.dE)).setCell ⟨g,4,none⟩ (.int .i64 s2.gK)).setCell ⟨g,5,none⟩ (.int .i64 s2.gJ)).setCell ⟨g,6,none⟩ (.int .i64 s2.wlo)).setCell ⟨g,7,none⟩ (.int .i64 s2.whi)))
     have hS1:=hSA.au0 (.int .i64 s2.dB) (.int .i64 s2.dK) (.int .i64 s2.di) (.int .i64 s2.dE) (.int .i64 s2.gK) (.int .i64 s2.gJ) (.int .i64 s2.wlo) (.int .i64 s2.whi)
     rw[hZ1] at hS1
     replace hS:=ai hS
     replace hSA:=ai hSA
     go_wp2_with (fail)
     refine NoPanic.normal ?_
     clear yrA yfA yaA ffA faA zdA ycA fcA zgA ymA ykA g0A g1A g2A g3A g4A g5A g6A g7A h0A h1A h2A h3A h4A h5A h6A h7A
     obtain⟨yrB,yfB,yaB,ffB,faB,zdB,ycB,fcB,zgB,ymB,ykB,g0B,g1B,g2B,g3B,g4B,g5B,g6B,g7B,h0B,h1B,h2B,h3B,h4B,h5B,h6B,h7B⟩:=hS1.facts
     go_wp2_with (fail)
     obtain⟨YB,hYB⟩:=aG (Z1.drew)
     have JE:Below Z1.heap.size Z1 YB:=by rw[<- hYB];exact(Below.refl _ _).drew
     refine wp_region_noPanic ?_
     refine wp_region_any (by kernel_rfl) ?_
     show wpAny _ _ _ _ (13) #[false,false,false,false,false,false,false,false,false,false,false,false,false] _ Z1.drew
     rw[hYB]
     refine dY (n:=12) (S:=Below Z1.heap.size Z1) (f:=12) rfl ?_
     refine dL 0 (.pointer (some ⟨d,0,none⟩)) 58 JE ?_ ?_
     . intro w' hSw;go_simp
     refine dL 1 (.pointer (some ⟨d,0,none⟩)) 59 JE ?_ ?_
     . intro w' hSw;go_simp
     refine dL 2 (.pointer (some ⟨d,10,none⟩)) 60 JE ?_ ?_
     . intro w' hSw;go_simp
     refine dL 3 (.slice (some ⟨g,0,none⟩) rn rc) 61 JE ?_ ?_
     . intro w' hSw;(have myr:=ae hSw yrB);(have myf:=ae hSw yfB);(have myc:=ae hSw ycB);(have mym:=ae hSw ymB);(have myk:=ae hSw ykB);go_simp
     try simp only[bH,aI]
     refine dL 4 (.int .i64 0) 62 JE ?_ ?_
     . intro w' hSw;(have myr:=ae hSw yrB);(have myf:=ae hSw yfB);(have myc:=ae hSw ycB);(have mym:=ae hSw ymB);(have myk:=ae hSw ykB);go_simp
     refine dL 5 (.pointer (some ⟨g,0,none⟩)) 63 JE ?_ ?_
     . intro w' hSw;go_simp
     refine dL 6 (.pointer (some ⟨g,12,none⟩)) 64 JE ?_ ?_
     . intro w' hSw;go_simp
     refine dL 7 (.int .i64 0) 65 JE ?_ ?_
     . intro w' hSw;(have myr:=ae hSw yrB);(have myf:=ae hSw yfB);(have myc:=ae hSw ycB);(have mym:=ae hSw ymB);(have myk:=ae hSw ykB);go_simp
     try simp only[bH,aI]
     refine dL 8 (.int .i64 ay) 66 JE ?_ ?_
     . intro w' hSw;(have myr:=ae hSw yrB);(have myf:=ae hSw yfB);(have myc:=ae hSw ycB);(have mym:=ae hSw ymB);(have myk:=ae hSw ykB);go_simp
     refine dL 9 (.int .i64 (-ay)) 67 JE ?_ ?_
     . intro w' hSw;(have myr:=ae hSw yrB);(have myf:=ae hSw yfB);(have myc:=ae hSw ycB);(have mym:=ae hSw ymB);(have myk:=ae hSw ykB);go_simp
     refine dL 10 (.pointer (some ⟨g,0,none⟩)) 68 JE ?_ ?_
     . intro w' hSw;go_simp
     refine dL 11 (.pointer (some ⟨g,12,none⟩)) 69 JE ?_ ?_
     . intro w' hSw;go_simp
     try simp only[bH,aI]
     refine⟨by kernel_rfl,?_⟩
     have hSB:=hS1.below JE
     clear yrB yfB yaB ffB faB zdB ycB fcB zgB ymB ykB g0B g1B g2B g3B g4B g5B g6B g7B h0B h1B h2B h3B h4B h5B h6B h7B
     obtain⟨yrB,yfB,yaB,ffB,faB,zdB,ycB,fcB,zgB,ymB,ykB,g0B,g1B,g2B,g3B,g4B,g5B,g6B,g7B,h0B,h1B,h2B,h3B,h4B,h5B,h6B,h7B⟩:=hSB.facts
     obtain⟨Z2,hZ2⟩:=aG (YB.setCell ⟨g,12,none⟩ (.int .i64 (-ay)))
     have hS2:=hSB.aqH (-ay)
     rw[hZ2] at hS2
     replace hS1:=ai hS1
     replace hSB:=ai hSB
     go_wp2_with (fail)
     refine NoPanic.normal ?_
     clear yrB yfB yaB ffB faB zdB ycB fcB zgB ymB ykB g0B g1B g2B g3B g4B g5B g6B g7B h0B h1B h2B h3B h4B h5B h6B h7B
     obtain⟨yrC,yfC,yaC,ffC,faC,zdC,ycC,fcC,zgC,ymC,ykC,g0C,g1C,g2C,g3C,g4C,g5C,g6C,g7C,h0C,h1C,h2C,h3C,h4C,h5C,h6C,h7C⟩:=hS2.facts
     go_wp2_with (fail)
     obtain⟨YC,hYC⟩:=aG (Z2.drew)
     have UY:Below Z2.heap.size Z2 YC:=by rw[<- hYC];exact(Below.refl _ _).drew
     refine wp_region_noPanic ?_
     refine wp_region_any (by kernel_rfl) ?_
     show wpAny _ _ _ _ (9) #[false,false,false,false,false,false,false,false,false] _ Z2.drew
     rw[hYC]
     refine dY (n:=8) (S:=Below Z2.heap.size Z2) (f:=8) rfl ?_
     refine dL 0 (.pointer (some ⟨d,0,none⟩)) 70 UY ?_ ?_
     . intro w' hSw;go_simp
     refine dL 1 (.pointer (some ⟨d,0,none⟩)) 71 UY ?_ ?_
     . intro w' hSw;go_simp
     refine dL 2 (.pointer (some ⟨d,21,none⟩)) 72 UY ?_ ?_
     . intro w' hSw;go_simp
     refine dL 3 (.int .i64 0) 73 UY ?_ ?_
     . intro w' hSw;(have myr:=ae hSw yrC);(have myf:=ae hSw yfC);(have myc:=ae hSw ycC);(have mym:=ae hSw ymC);(have myk:=ae hSw ykC);go_simp
     try simp only[bH,aI]
     refine dL 4 (.int .i64 dm) 74 UY ?_ ?_
     . intro w' hSw;(have myr:=ae hSw yrC);(have myf:=ae hSw yfC);(have myc:=ae hSw ycC);(have mym:=ae hSw ymC);(have myk:=ae hSw ykC);go_simp
     refine dL 5 (.int .i64 dm) 75 UY ?_ ?_
     . intro w' hSw;(have myr:=ae hSw yrC);(have myf:=ae hSw yfC);(have myc:=ae hSw ycC);(have mym:=ae hSw ymC);(have myk:=ae hSw ykC);go_simp
     refine dL 6 (.pointer (some ⟨d,0,none⟩)) 76 UY ?_ ?_
     . intro w' hSw;go_simp
     refine dL 7 (.pointer (some ⟨d,21,none⟩)) 77 UY ?_ ?_
     . intro w' hSw;go_simp
     try simp only[bH,aI]
     refine⟨by kernel_rfl,?_⟩
     have hSC:=hS2.below UY
     clear yrC yfC yaC ffC faC zdC ycC fcC zgC ymC ykC g0C g1C g2C g3C g4C g5C g6C g7C h0C h1C h2C h3C h4C h5C h6C h7C
     obtain⟨yrC,yfC,yaC,ffC,faC,zdC,ycC,fcC,zgC,ymC,ykC,g0C,g1C,g2C,g3C,g4C,g5C,g6C,g7C,h0C,h1C,h2C,h3C,h4C,h5C,h6C,h7C⟩:=hSC.facts
     obtain⟨Z3,hZ3⟩:=aG (YC.setCell ⟨d,21,none⟩ (.int .i64 dm))
     have hS3:=hSC.aqI dm
     rw[hZ3] at hS3
     replace hS2:=ai hS2
     replace hSC:=ai hSC
     go_wp2_with (fail)
     refine NoPanic.normal ?_
     clear yrC yfC yaC ffC faC zdC ycC fcC zgC ymC ykC g0C g1C g2C g3C g4C g5C g6C g7C h0C h1C h2C h3C h4C h5C h6C h7C
     obtain⟨yrD,yfD,yaD,ffD,faD,zdD,ycD,fcD,zgD,ymD,ykD,g0D,g1D,g2D,g3D,g4D,g5D,g6D,g7D,h0D,h1D,h2D,h3D,h4D,h5D,h6D,h7D⟩:=hS3.facts
     have hk3:=ai hS3.kept
     have kDn:=ai fun nm x=>ac2 Z3 yaD faD zdD nm x
     replace hS3:=ai hS3
     go_wp2_with (go_at_call 42;(with_reducible refine ax (kDn.out _ _) ?_);rintro e w9 ⟨rfl,hk9⟩)
     go_ret
     exact⟨rfl,fun h=>absurd rfl h,(hk3.out.trans (hk9.mono fun j _ hj=>hj.1)).mono fun j _ hj=>⟨hj.1,fun e=>hj.2 (by rw[hrow.out,e])⟩⟩
   . clear hc1 P5
     go_wp2_with (fail)
     go_ret
     exact⟨rfl,fun _=>hU,.all hU⟩
