/- Walks. -/
import Derived.Test.YtkjdidieiioijaaGreatK27
set_option linter.all false
set_option maxRecDepth 100000
set_option maxHeartbeats 16000000
namespace Go.Proofs.YtkjdidieiioijaaGreat.B
open Go.RowKit Go.Sd Wl Bk L
attribute [local go_sem] Oper.semAt_some
theorem CJ {w:World}{n:Nat}{a0 a1 a2 a3 a4 a5:Value}{e:TypeId}(h:w.heap[n]? = some (.cells #[a0,a1,a2,a3,a4,a5] e (0,0)))(b0 b1 b2 b3 b4 b5:Value) :
    ((((((w.setCell ⟨n,0,none⟩ b0).setCell ⟨n,1,none⟩ b1).setCell ⟨n,2,none⟩ b2).setCell ⟨n,3,none⟩ b3).setCell ⟨n,4,none⟩ b4).setCell ⟨n,5,none⟩ b5).heap[n]? = some (.cells #[b0,b1,b2,b3,b4,b5] e (0,0)):=by
 have h2:=(aX (aX (aX (aX (aX (aX h 0 b0) 1 b1) 2 b2) 3 b3) 4 b4) 5 b5)
 simp only[List.setIfInBounds_toArray,List.set_cons_zero,List.set_cons_succ] at h2
 exact h2
theorem Gv (w:World)(n:Nat)(b0 b1 b2 b3 b4 b5:Value) :
    Kept (fun k=>k≠n) w ((((((w.setCell ⟨n,0,none⟩ b0).setCell ⟨n,1,none⟩ b1).setCell ⟨n,2,none⟩ b2).setCell ⟨n,3,none⟩ b3).setCell ⟨n,4,none⟩ b4).setCell ⟨n,5,none⟩ b5):=by
 refine((((((Kept.refl _ _).setCell (p:=⟨n,0,none⟩) ?_ _).setCell (p:=⟨n,1,none⟩) ?_ _).setCell (p:=⟨n,2,none⟩) ?_ _).setCell (p:=⟨n,3,none⟩) ?_ _).setCell (p:=⟨n,4,none⟩) ?_ _).setCell (p:=⟨n,5,none⟩) ?_ _
 all_goals exact .inl fun h=>h rfl
theorem dh {P:Program}{md:Region.Mode}{ops:Array Oper}{Q:Exit->Act->World->Prop}{S:World->Prop}{n f:Nat}{L:Array Bool->Act->World->Prop}{listed:Array Bool}{a:Act}{w:World}{i:Nat}{o:Oper}(ho:ops[i]? = some o)(hr:Region.ready md ops listed=[i])(hi:i<n)
    (h:∀K':Act->World->Prop,Shut (∀a w,S w->gQ P md ops Q S n L f (listed.setIfInBounds i true) a w->K' a w)->if Region.wanted o (yielded ops a.tmps)=true then Oper.wp P o a w K' Q else K' (a.put o.dst undef) w):gQ P md ops Q S n L (f+1) listed a w :=
 MG [i] hr (by simp) (by simpa using hi) fun k hk=>by
  obtain rfl:k=i:=by simpa using hk
  exact wpOp_step ho fun K' hK=>h K' fun a w hS hW=>hK a w ⟨hS,hW⟩
theorem R_ {P:Program}{md:Region.Mode}{ops:Array Oper}{Q:Exit->Act->World->Prop}{S:World->Prop}{n f:Nat}{L:Array Bool->Act->World->Prop}{listed:Array Bool}{a:Act}{w:World}{i j:Nat}{o u:Oper}(ho:ops[i]? = some o)(hu:ops[j]? = some u)(hr:Region.ready md ops listed=[i,j])(hi:i<n)(hj:j<n)
    (h:∀K':Act->World->Prop,Shut (∀a w,S w->gQ P md ops Q S n L f (listed.setIfInBounds i true) a w->K' a w)->if Region.wanted o (yielded ops a.tmps)=true then Oper.wp P o a w K' Q else K' (a.put o.dst undef) w)
    (h2:∀K':Act->World->Prop,Shut (∀a w,S w->gQ P md ops Q S n L f (listed.setIfInBounds j true) a w->K' a w)->if Region.wanted u (yielded ops a.tmps)=true then Oper.wp P u a w K' Q else K' (a.put u.dst undef) w):gQ P md ops Q S n L (f+1) listed a w :=
 MG [i,j] hr (by simp) (by simp[hi,hj]) fun k hk=>by
  rcases(by simpa using hk:k=i\/k=j) with rfl|rfl
  . exact wpOp_step ho fun K' hK=>h K' fun a w hS hW=>hK a w ⟨hS,hW⟩
  . exact wpOp_step hu fun K' hK=>h2 K' fun a w hS hW=>hK a w ⟨hS,hW⟩
theorem TR {w:World}{n:Nat}{a0:Value}{e:TypeId}(h:w.heap[n]? = some (.cells #[a0] e (0,0))):w.cell? ⟨n,0,none⟩=some a0:=(ah h).2.1 0
theorem UK {w:World}{n:Nat}{c:Array Value}{e:TypeId}(h:w.heap[n]? = some (.cells c e (0,0)))(i:Nat):w.frozen? ⟨n,i,none⟩=false:=(ah h).2.2 i
abbrev xsO (t:Int)(gv bv:Value):Obj:=.cells #[.int .i64 t,gv,.int .i64 0,.int .i64 0,bv,.slice none 0 0] 118
abbrev xsV (t:Int)(gv bv:Value):Value:=.agg #[.int .i64 t,gv,.int .i64 0,.int .i64 0,bv,.slice none 0 0]
theorem jl {ops:Array Oper}{o:Oper}{a:Act}{K:Act->World->Prop}{Q:Exit->Act->World->Prop}{E:Prop}(hgd:o.guard=none)(s x:Operand)(T:TypeId)
    (ho:o.op=.call { callee:=.builtin .append,args:=#[s,x],argTypes:=#[T,T] }) {w:World} {v u:Value} (hs:a.eval s=v) (hx:a.eval x=u)
    {v':Value} {w':World} (hrun:(Builtin.append_ #[T,T] o.type #[v,u]).run Tryz.prog w=.ok v' w') (h:K (a.put o.dst v') w'):if Region.wanted o (yielded ops a.tmps)=true then Oper.wp Tryz.prog o a w K Q else E:=by
 have hw:Region.wanted o (yielded ops a.tmps)=true:=by simp[Region.wanted,hgd]
 rw[if_pos hw]
 unfold Oper.wp
 simp[execOp,ho,resolve,invoke,builtin,hs,hx,hrun,Result.andThen]
 exact h
structure Bg (X:World)(C:Nat)(gv bv g b:Value)(gn bn:List Int)(Y:World):Prop where
 kept:Kept (fun j=>gv.ownBlock≠some j/\bv.ownBlock≠some j) X Y
 og:oZ C Y g gn
 ob:oZ C Y b bn
 WE:∀j,g.ownBlock=some j->b.ownBlock≠some j
def BgS (W3:World)(xb:Nat)(l:List CV)(k:Nat)(X:World):Prop :=
 ∃gv bv gs bs,X.heap[xb]? = some (xsO 0 gv bv)/\gs.length=k/\bs.length=k/\oZ W3.heap.size X gv gs/\oZ W3.heap.size X bv bs/\(∀j,gv.ownBlock=some j->bv.ownBlock≠some j)/\Kept (fun j=>j<W3.heap.size/\j≠xb) W3 X
section
variable {X W3 Y Y':World}{C:Nat}{gv bv g b:Value}{gn bn gs bs:List Int}
theorem Bg.below (h:Bg X C gv bv g b gn bn Y)(hb:Below Y.heap.size Y Y'):Bg X C gv bv g b gn bn Y':=⟨h.kept.trans (.all hb),h.og.mono hb,h.ob.mono hb,h.WE⟩
theorem Bg.alU {y:Int}{vb c:Nat}(h:Bg X C gv bv gv b gs bn Y)(hC:C<=X.heap.size)(hXC:X.heap.size<=X.heap.size)(hy:Y.cell? ⟨vb,0,none⟩=some (.int .i64 y))(hl:gs.length<=1000)(_:True)(_:True) :
    ∃v' Y',(Builtin.append_ #[50,50] 50 #[gv,.slice (some ⟨vb,0,none⟩) 1 c]).run Tryz.prog Y=.ok v' Y'/\Bg X C gv bv v' b (gs ++ [y]) bn Y'/\Kept (fun j=>gv.ownBlock≠some j/\bv.ownBlock≠some j) Y Y':=by
 have hCY:C<=Y.heap.size:=Nat.le_trans hC h.kept.size
 obtain⟨v',w',hr,h1,h2,h3⟩:=Gu C 50 Y gv gs y vb c h.og (by omega) hCY hy
 have hk:Kept (fun j=>gv.ownBlock≠some j/\bv.ownBlock≠some j) Y w':=h2.mono fun j _ hj=>fun e=>hj.1 e.symm
 refine⟨v',w',hr,⟨h.kept.trans hk,h1,h.ob.kept h2 (fun j e e'=>h.WE j e'.symm e),fun j hj=>?_⟩,hk⟩
 rcases h3 with h3|⟨m,h3,hm⟩
 . exact h.WE j (by rw[<- h3];exact hj)
 . intro e
   have h5:=(h.ob.lt j e).2
   rw[h3] at hj
   cases hj
   omega
theorem Bg.alT {y:Int}{vb c:Nat}(h:Bg X C gv bv g bv gn bs Y)(hC:C<=X.heap.size)(hXC:X.heap.size<=X.heap.size)(hy:Y.cell? ⟨vb,0,none⟩=some (.int .i64 y))(hl:bs.length<=1000)(_:True)(_:True) :
    ∃v' Y',(Builtin.append_ #[50,50] 50 #[bv,.slice (some ⟨vb,0,none⟩) 1 c]).run Tryz.prog Y=.ok v' Y'/\Bg X C gv bv g v' gn (bs ++ [y]) Y'/\Kept (fun j=>gv.ownBlock≠some j/\bv.ownBlock≠some j) Y Y':=by
 have hCY:C<=Y.heap.size:=Nat.le_trans hC h.kept.size
 obtain⟨v',w',hr,h1,h2,h3⟩:=Gu C 50 Y bv bs y vb c h.ob (by omega) hCY hy
 have hk:Kept (fun j=>gv.ownBlock≠some j/\bv.ownBlock≠some j) Y w':=h2.mono fun j _ hj=>fun e=>hj.2 e.symm
 refine⟨v',w',hr,⟨h.kept.trans hk,h.og.kept h2 (fun j e e'=>h.WE j e e'.symm),h1,fun j hj=>?_⟩,hk⟩
 rcases h3 with h3|⟨m,h3,hm⟩
 . rw[h3];exact h.WE j hj
 . intro e
   have h5:=(h.og.lt j hj).2
   rw[h3] at e
   cases e
   omega
theorem Bg.fin {xb k:Nat}{l:List CV}{Z:World}{y z:Int}(h:Bg X W3.heap.size gv bv g b (gs ++ [y]) (bs ++ [z]) Y)(hC:(∀j,gv.ownBlock=some j->W3.heap.size<=j)/\∀j,bv.ownBlock=some j->W3.heap.size<=j)(hxC:xb<W3.heap.size)(hXC:X.heap.size<=X.heap.size)(hkW:Kept (fun j=>j<W3.heap.size/\j≠xb) W3 X)(hgl:gs.length=k)(hbl:bs.length=k)(hr:Z.heap[xb]? = some (xsO 0 g b))(hk:Kept (fun j=>j≠xb) Y Z):BgS W3 xb l (k+1) Z:=by
 have hne:∀j,W3.heap.size<=j->j≠xb:=fun j hj=>by omega
 refine⟨g,b,_,_,hr,by simp[hgl],by simp[hbl],h.og.kept hk fun j e=>hne j (h.og.lt j e).1,h.ob.kept hk fun j e=>hne j (h.ob.lt j e).1,h.WE,hkW.trans (Kept.trans (h.kept.mono fun j _ hj=>⟨fun e=>?_,fun e=>?_⟩) (hk.mono fun j _ hj=>hj.2))⟩
 . have:=hC.1 j e
   omega
 . have:=hC.2 j e
   omega
end
theorem YK (s:Gy)(v:Value)(hl8:s.cons.length<=8)(w:World)(hc:iP w v s.cons):Calls Tryz.prog 104 #[RI v s] w fun e w'=>∃ga gn gc ba bn bc,e=.returned (xsV 0 (.slice ga gn gc) (.slice ba bn bc))/\Below w.heap.size w w':=by
 obtain⟨W1,hW1⟩:=aG (w.alloc (ZZ v s))
 obtain⟨e1,b1,z1⟩:=boxedB hW1
 obtain⟨W2,hW2⟩:=aG (W1.alloc (xsO 0 (.slice none 0 0) (.slice none 0 0)))
 obtain⟨e2,b2,z2⟩:=boxedB hW2
 obtain⟨W3,hW3⟩:=aG (W2.alloc (xsO 0 (.slice none 0 0) (.slice none 0 0)))
 obtain⟨e3,b3,z3⟩:=boxedB hW3
 have hB3:=aj (aj b1 b2) b3
 obtain⟨-,-,-,-,-,q5⟩:=oN (ak b3 (ak b2 e1))
 obtain⟨ca,cc,rfl,-,-⟩:=hc.els
 have e3h:=ai e3
 have e2h:=ai (ak b3 e2)
 have Y9:=ai hB3
 have zs:=ai (show w.heap.size<W1.heap.size/\W1.heap.size<W2.heap.size/\W2.heap.size<W3.heap.size from⟨z1,z2,z3⟩)
 have hrow:Hid (0<s.cons.length->_):=ai (yA hc)
 have hrt:=ai hc.rts
 clear hc e1 e2 e3 b1 b2 b3 hB3
 go_enter Tryz.func104,Tryz.ntmps104
 go_wp2_with (fail)
 go_loopw [9] (fun i wr=>∃k:Nat,k<=s.cons.length/\i=.int .i64 k/\Hid (BgS W3 W2.heap.size s.cons k wr)) (fun i _=>s.cons.length - (intOf i).toNat)
 case atStart=>exact⟨0,by omega,rfl,ai ⟨_,_,[],[],e3h.out,rfl,rfl,oZ.nil _ _,oZ.nil _ _,(fun j h=>nomatch h),Kept.refl _ _⟩⟩
 case round =>
  obtain⟨k,hk,rfl,hH⟩:=hrel
  obtain⟨gv,bv,gs,bs,hrw,hgl,hbl,og,ob,hdis,hkW⟩:=hH.out
  have hzs:=zs.out
  by_cases hlt:k<s.cons.length
  . obtain⟨b,off,rfl,hblt,hx⟩:=hrow.out (by omega)
    obtain⟨x0,x1,x2,x3,x4,x5,x6,x7,x8,x9,x10⟩:=hx k hlt
    obtain⟨ra,rc,hrv,-,-⟩:=hrt.out k hlt
    rw[hrv] at x4
    have up:∀{o:Nat} {u:Value},w.cell? ⟨b,o,none⟩=some u->wr.cell? ⟨b,o,none⟩=some u:=fun h=>au (ae Y9.out h) hkW ⟨by omega,by omega⟩
    have c0:=up x0
    have c1:=up x1
    have c2:=up x2
    have c3:=up x3
    have c4:=up x4
    have c5:=up x5
    have c6:=up x6
    have c7:=up x7
    have c8:=up x8
    have c9:=up x9
    have c10:=up x10
    clear x0 x1 x2 x3 x4 x5 x6 x7 x8 x9 x10 hx up
    have hki:(0:Int)<=(k:Int)/\(k:Int)<s.cons.length:=by omega
    obtain⟨X,hX⟩:=aG (wr.alloc (Wi (.slice ra (aK s.cons k).2.aC.length rc) (aK s.cons k).2))
    obtain⟨eX,bX,zX⟩:=boxedB hX
    obtain⟨v0,v1,v2,v3,v4,v5,v6,v7,v8,v9,v10⟩:=xY eX
    have rX:=ak bX hrw
    have MN:=oZ.lt og
    have Tc:=oZ.lt ob
    replace og:=og.mono bX
    replace ob:=ob.mono bX
    have hWz:=hkW.size
    replace hkW:=hkW.trans (Kept.all bX)
    obtain⟨ga,gc,rfl⟩:=og.slice
    obtain⟨ba,bc,rfl⟩:=ob.slice
    obtain⟨gn,hgn⟩:=aG (gs.length)
    obtain⟨bn,hbn⟩:=aG (bs.length)
    rw[hgn] at og rX hdis MN
    rw[hbn] at ob rX hdis Tc
    obtain⟨y0,y1,y2,y3,y4,y5⟩:=oN rX
    have hwz:=(aF hrw)
    have hS2:(Value.slice ga gn gc).ownBlock≠some W2.heap.size/\(Value.slice ba bn bc).ownBlock≠some W2.heap.size:=⟨fun e=>by have:=(MN _ e).1;omega,fun e=>by have:=(Tc _ e).1;omega⟩
    have hS3:(Value.slice ga gn gc).ownBlock≠some wr.heap.size/\(Value.slice ba bn bc).ownBlock≠some wr.heap.size:=⟨fun e=>by have:=(MN _ e).2;omega,fun e=>by have:=(Tc _ e).2;omega⟩
    have hSX:∀j,X.heap.size<=j->(Value.slice ga gn gc).ownBlock≠some j/\(Value.slice ba bn bc).ownBlock≠some j:=fun j hj=>⟨fun e=>by have:=(MN _ e).2;omega,fun e=>by have:=(Tc _ e).2;omega⟩
    have hC:(∀j,(Value.slice ga gn gc).ownBlock=some j->W3.heap.size<=j)/\∀j,(Value.slice ba bn bc).ownBlock=some j->W3.heap.size<=j:=⟨fun j e=>(MN j e).1,fun j e=>(Tc j e).1⟩
    have hC0:W3.heap.size<=X.heap.size:=by omega
    have hxC:W2.heap.size<W3.heap.size:=by omega
    have hXC:=Nat.le_refl X.heap.size
    have hgd:True:=trivial
    have hbd:True:=trivial
    have amB:gs.length<=1000:=by omega
    have amx:bs.length<=1000:=by omega
    replace hgl:=ai hgl
    replace hbl:=ai hbl
    replace hgn:=ai hgn
    replace hbn:=ai hbn
    clear hrw eX bX hH MN Tc
    go_wp2_with (fail)
    obtain⟨Y0,hY0⟩:=aG (X.drew)
    have aU:Bg X W3.heap.size (.slice ga gn gc) (.slice ba bn bc) (.slice ga gn gc) (.slice ba bn bc) gs bs Y0:=by rw[<- hY0];exact⟨(Kept.refl _ _).drew,og.same fun _ _=>rfl,ob.same fun _ _=>rfl,hdis⟩
    refine wp_region_noPanic ?_
    refine wp_region_any (by kernel_rfl) ?_
    show wpAny _ _ _ _ (11+3) #[false,false,false,false,false,false,false,false,false,false,false,false,false,false] _ X.drew
    rw[hY0]
    refine dY (n:=11) (S:=Kept (fun j=>(Value.slice ga gn gc).ownBlock≠some j/\(Value.slice ba bn bc).ownBlock≠some j) X) (f:=11) rfl ?_
    refine dL 0 (.pointer (some ⟨W2.heap.size,1,none⟩)) 13 aU.kept ?_ ?_
    . intro w' hSw;(have m1:=au y1 hSw hS2);(have m4:=au y4 hSw hS2);(have m5:=au v5 hSw hS3);go_simp
    refine dL 1 (.slice ga gn gc) 14 aU.kept ?_ ?_
    . intro w' hSw;(have m1:=au y1 hSw hS2);(have m4:=au y4 hSw hS2);(have m5:=au v5 hSw hS3);go_simp
    refine dL 2 (.pointer (some ⟨wr.heap.size,5,none⟩)) 15 aU.kept ?_ ?_
    . intro w' hSw;(have m1:=au y1 hSw hS2);(have m4:=au y4 hSw hS2);(have m5:=au v5 hSw hS3);go_simp
    refine dL 3 (.int .i64 (aK s.cons k).2.NJ) 16 aU.kept ?_ ?_
    . intro w' hSw;(have m1:=au y1 hSw hS2);(have m4:=au y4 hSw hS2);(have m5:=au v5 hSw hS3);go_simp
    try simp only[bH,aI]
    refine dL 6 (.pointer (some ⟨W2.heap.size,4,none⟩)) 19 aU.kept ?_ ?_
    . intro w' hSw;(have m1:=au y1 hSw hS2);(have m4:=au y4 hSw hS2);(have m5:=au v5 hSw hS3);go_simp
    refine dL 7 (.slice ba bn bc) 20 aU.kept ?_ ?_
    . intro w' hSw;(have m1:=au y1 hSw hS2);(have m4:=au y4 hSw hS2);(have m5:=au v5 hSw hS3);go_simp
    try simp only[bH,aI]
    refine R_ (i:=4) (j:=8) rfl rfl (by kernel_rfl) (by decide) (by decide) (fun K hK=>?aq4) (fun K hK=>?aq5)
    case' aq4 =>
     obtain⟨aoG,afX⟩:=aG (Y0.alloc (.cells #[.int .i64 ((aK s.cons k).2.NJ)] 3))
     obtain⟨akR,akG,av2⟩:=boxedB afX
     have UT:=aU.below akG
     have NI:=akR
     have UD:X.heap.size<=Y0.heap.size:=aU.kept.size
     go_simp
     (try rw[afX])
     refine hK.out _ _ UT.kept ?_
     clear hK K
     try simp only[bH,aI]
     clear afX akR akG
     refine R_ (i:=5) (j:=8) rfl rfl (by kernel_rfl) (by decide) (by decide) (fun K hK=>?aot) (fun K hK=>?aou)
     case' aot =>
      obtain⟨aoo,akE,aoc,G6,amX⟩:=UT.alU hC0 hXC (TR NI) amB hgd hbd
      obtain⟨aey,agn,agE,rfl⟩:∃a l n,aoo=.slice a l n:=by obtain⟨a,c,h⟩:=G6.og.slice;exact⟨a,_,c,h⟩
      refine jl rfl _ _ 50 (by rfl) (by rfl) (by rfl) aoc ?_
      have afh:=(amX.block _ (aF NI) (hSX _ UD)).trans NI
      have afc:=UD
      refine hK.out _ _ G6.kept ?_
      clear hK K
      refine dL 10 (.pointer (some ⟨W2.heap.size,1,none⟩)) 23 G6.kept ?_ ?_
      . intro w' hSw;(have m1:=au y1 hSw hS2);(have m4:=au y4 hSw hS2);(have m5:=au v5 hSw hS3);go_simp
      try simp only[bH,aI]
      refine dh (i:=8) rfl (by kernel_rfl) (by decide) (fun K hK=>?_)
      obtain⟨avc,Zd⟩:=aG (akE.alloc (.cells #[.int .i64 (0)] 3))
      obtain⟨afa,YO,au'⟩:=boxedB Zd
      have aaX:=G6.below YO
      have WT:=ak YO afh
      have WN:=afc
      have P6:=afa
      have WJ:X.heap.size<=akE.heap.size:=G6.kept.size
      go_simp
      (try rw[Zd])
      refine hK.out _ _ aaX.kept ?_
      clear hK K
      try simp only[bH,aI]
      clear Zd afa YO
      refine dh (i:=9) rfl (by kernel_rfl) (by decide) (fun K hK=>?_)
      obtain⟨aop,aoE,aod,NK,agh⟩:=aaX.alT hC0 hXC (TR P6) amx hgd hbd
      obtain⟨alR,am7,anr,rfl⟩:∃a l n,aop=.slice a l n:=by obtain⟨a,c,h⟩:=NK.ob.slice;exact⟨a,_,c,h⟩
      refine jl rfl _ _ 50 (by rfl) (by rfl) (by rfl) aod ?_
      have ao3:=(agh.block _ (aF WT) (hSX _ WN)).trans WT
      have aoW:=WN
      have ao1:=(agh.block _ (aF P6) (hSX _ WJ)).trans P6
      have aoU:=WJ
      refine hK.out _ _ NK.kept ?_
      clear hK K
      try simp only[bH,aI]
      have rY:=(NK.kept.block W2.heap.size (by omega) hS2).trans rX
      obtain⟨z0,z1,z2,z3,z4,z5⟩:=oN rY
      have zz:=(aF rY)
      have fz1:=UK rY 1
      obtain⟨Za,hZa⟩:=aG (aoE.setCell ⟨W2.heap.size,1,none⟩ (.slice aey agn agE))
      have rZa:Za.heap[W2.heap.size]? = some (xsO 0 (.slice aey agn agE) (.slice ba bn bc)):=by rw[<- hZa,aX rY];rfl
      have fz4:=UK rZa 4
      have zz4:=(aF rZa)
      obtain⟨-,-,-,-,za4,-⟩:=oN rZa
      obtain⟨Zb,hZb⟩:=aG (Za.setCell ⟨W2.heap.size,4,none⟩ (.slice alR am7 anr))
      have hfin:Hid (BgS W3 W2.heap.size s.cons (k+1) Zb):=ai (NK.fin hC hxC hXC hkW hgl.out hbl.out (by rw[<- hZb,aX rZa];rfl) (by rw[<- hZb,<- hZa];exact((Kept.refl _ _).setCell (p:=⟨W2.heap.size,1,none⟩) (.inl fun h=>h rfl) _).setCell (p:=⟨W2.heap.size,4,none⟩) (.inl fun h=>h rfl) _))
      clear z0 z2 z3 z5
      refine⟨by kernel_rfl,?_⟩
      go_wp2_with (fail)
      refine NoPanic.normal ?_
      go_wp2_with (fail)
      exact⟨⟨k+1,by omega,by go_num,hfin⟩,by simp[intOf];omega⟩
     case' aou =>
      obtain⟨ave,Ze⟩:=aG (aoG.alloc (.cells #[.int .i64 (0)] 3))
      obtain⟨afb,YP,ava⟩:=boxedB Ze
      have aaY:=UT.below YP
      have P8:=ak YP NI
      have WQ:=UD
      have WS:=afb
      have WM:X.heap.size<=aoG.heap.size:=UT.kept.size
      go_simp
      (try rw[Ze])
      refine hK.out _ _ aaY.kept ?_
      clear hK K
      try simp only[bH,aI]
      clear Ze afb YP
      refine dh (i:=5) rfl (by kernel_rfl) (by decide) (fun K hK=>?_)
      obtain⟨aoq,avd,aoe,NL,agi⟩:=aaY.alU hC0 hXC (TR P8) amB hgd hbd
      obtain⟨aez,agp,agF,rfl⟩:∃a l n,aoq=.slice a l n:=by obtain⟨a,c,h⟩:=NL.og.slice;exact⟨a,_,c,h⟩
      refine jl rfl _ _ 50 (by rfl) (by rfl) (by rfl) aoe ?_
      have WU:=(agi.block _ (aF P8) (hSX _ WQ)).trans P8
      have WO:=WQ
      have P7:=(agi.block _ (aF WS) (hSX _ WM)).trans WS
      have WL:=WM
      refine hK.out _ _ NL.kept ?_
      clear hK K
      refine dL 10 (.pointer (some ⟨W2.heap.size,1,none⟩)) 23 NL.kept ?_ ?_
      . intro w' hSw;(have m1:=au y1 hSw hS2);(have m4:=au y4 hSw hS2);(have m5:=au v5 hSw hS3);go_simp
      try simp only[bH,aI]
      refine dh (i:=9) rfl (by kernel_rfl) (by decide) (fun K hK=>?_)
      obtain⟨aor,aoF,aof,NM,agj⟩:=NL.alT hC0 hXC (TR P7) amx hgd hbd
      obtain⟨alS,am8,ant,rfl⟩:∃a l n,aor=.slice a l n:=by obtain⟨a,c,h⟩:=NM.ob.slice;exact⟨a,_,c,h⟩
      refine jl rfl _ _ 50 (by rfl) (by rfl) (by rfl) aof ?_
      have ao4:=(agj.block _ (aF WU) (hSX _ WO)).trans WU
      have aoX:=WO
      have ao2:=(agj.block _ (aF P7) (hSX _ WL)).trans P7
      have aoV:=WL
      refine hK.out _ _ NM.kept ?_
      clear hK K
      try simp only[bH,aI]
      have rY:=(NM.kept.block W2.heap.size (by omega) hS2).trans rX
      obtain⟨z0,z1,z2,z3,z4,z5⟩:=oN rY
      have zz:=(aF rY)
      have fz1:=UK rY 1
      obtain⟨Za,hZa⟩:=aG (aoF.setCell ⟨W2.heap.size,1,none⟩ (.slice aez agp agF))
      have rZa:Za.heap[W2.heap.size]? = some (xsO 0 (.slice aez agp agF) (.slice ba bn bc)):=by rw[<- hZa,aX rY];rfl
      have fz4:=UK rZa 4
      have zz4:=(aF rZa)
      obtain⟨-,-,-,-,za4,-⟩:=oN rZa
      obtain⟨Zb,hZb⟩:=aG (Za.setCell ⟨W2.heap.size,4,none⟩ (.slice alS am8 ant))
      have hfin:Hid (BgS W3 W2.heap.size s.cons (k+1) Zb):=ai (NM.fin hC hxC hXC hkW hgl.out hbl.out (by rw[<- hZb,aX rZa];rfl) (by rw[<- hZb,<- hZa];exact((Kept.refl _ _).setCell (p:=⟨W2.heap.size,1,none⟩) (.inl fun h=>h rfl) _).setCell (p:=⟨W2.heap.size,4,none⟩) (.inl fun h=>h rfl) _))
      clear z0 z2 z3 z5
      refine⟨by kernel_rfl,?_⟩
      go_wp2_with (fail)
      refine NoPanic.normal ?_
      go_wp2_with (fail)
      exact⟨⟨k+1,by omega,by go_num,hfin⟩,by simp[intOf];omega⟩
    case' aq5 =>
     obtain⟨aoH,afZ⟩:=aG (Y0.alloc (.cells #[.int .i64 (0)] 3))
     obtain⟨akT,akH,av4⟩:=boxedB afZ
     have Zg:=aU.below akH
     have aie:=akT
     have aic:X.heap.size<=Y0.heap.size:=aU.kept.size
     go_simp
     (try rw[afZ])
     refine hK.out _ _ Zg.kept ?_
     clear hK K
     try simp only[bH,aI]
     clear afZ akT akH
     refine dh (i:=4) rfl (by kernel_rfl) (by decide) (fun K hK=>?_)
     obtain⟨av5,afY⟩:=aG (aoH.alloc (.cells #[.int .i64 ((aK s.cons k).2.NJ)] 3))
     obtain⟨akS,aeL,av3⟩:=boxedB afY
     have af1:=Zg.below aeL
     have aau:=ak aeL aie
     have aaq:=aic
     have UH:=akS
     have aas:X.heap.size<=aoH.heap.size:=Zg.kept.size
     go_simp
     (try rw[afY])
     refine hK.out _ _ af1.kept ?_
     clear hK K
     try simp only[bH,aI]
     clear afY akS aeL
     refine dh (i:=5) rfl (by kernel_rfl) (by decide) (fun K hK=>?_)
     obtain⟨aq2,av6,aqD,UU,ale⟩:=af1.alU hC0 hXC (TR UH) amB hgd hbd
     obtain⟨akF,alg,ali,rfl⟩:∃a l n,aq2=.slice a l n:=by obtain⟨a,c,h⟩:=UU.og.slice;exact⟨a,_,c,h⟩
     refine jl rfl _ _ 50 (by rfl) (by rfl) (by rfl) aqD ?_
     have aav:=(ale.block _ (aF UH) (hSX _ aas)).trans UH
     have aat:=aas
     have UG:=(ale.block _ (aF aau) (hSX _ aaq)).trans aau
     have aar:=aaq
     refine hK.out _ _ UU.kept ?_
     clear hK K
     refine dL 10 (.pointer (some ⟨W2.heap.size,1,none⟩)) 23 UU.kept ?_ ?_
     . intro w' hSw;(have m1:=au y1 hSw hS2);(have m4:=au y4 hSw hS2);(have m5:=au v5 hSw hS3);go_simp
     try simp only[bH,aI]
     refine dh (i:=9) rfl (by kernel_rfl) (by decide) (fun K hK=>?_)
     obtain⟨aq3,arL,aqE,UW,alf⟩:=UU.alT hC0 hXC (TR UG) amx hgd hbd
     obtain⟨aoI,ap',aqd,rfl⟩:∃a l n,aq3=.slice a l n:=by obtain⟨a,c,h⟩:=UW.ob.slice;exact⟨a,_,c,h⟩
     refine jl rfl _ _ 50 (by rfl) (by rfl) (by rfl) aqE ?_
     have arc:=(alf.block _ (aF aav) (hSX _ aat)).trans aav
     have ara:=aat
     have arb:=(alf.block _ (aF UG) (hSX _ aar)).trans UG
     have aq_:=aar
     refine hK.out _ _ UW.kept ?_
     clear hK K
     try simp only[bH,aI]
     have rY:=(UW.kept.block W2.heap.size (by omega) hS2).trans rX
     obtain⟨z0,z1,z2,z3,z4,z5⟩:=oN rY
     have zz:=(aF rY)
     have fz1:=UK rY 1
     obtain⟨Za,hZa⟩:=aG (arL.setCell ⟨W2.heap.size,1,none⟩ (.slice akF alg ali))
     have rZa:Za.heap[W2.heap.size]? = some (xsO 0 (.slice akF alg ali) (.slice ba bn bc)):=by rw[<- hZa,aX rY];rfl
     have fz4:=UK rZa 4
     have zz4:=(aF rZa)
     obtain⟨-,-,-,-,za4,-⟩:=oN rZa
     obtain⟨Zb,hZb⟩:=aG (Za.setCell ⟨W2.heap.size,4,none⟩ (.slice aoI ap' aqd))
     have hfin:Hid (BgS W3 W2.heap.size s.cons (k+1) Zb):=ai (UW.fin hC hxC hXC hkW hgl.out hbl.out (by rw[<- hZb,aX rZa];rfl) (by rw[<- hZb,<- hZa];exact((Kept.refl _ _).setCell (p:=⟨W2.heap.size,1,none⟩) (.inl fun h=>h rfl) _).setCell (p:=⟨W2.heap.size,4,none⟩) (.inl fun h=>h rfl) _))
     clear z0 z2 z3 z5
     refine⟨by kernel_rfl,?_⟩
     go_wp2_with (fail)
     refine NoPanic.normal ?_
     go_wp2_with (fail)
     exact⟨⟨k+1,by omega,by go_num,hfin⟩,by simp[intOf];omega⟩
  . obtain rfl:k=s.cons.length:=by omega
    obtain⟨ga,gc,rfl⟩:=og.slice
    obtain⟨ba,bc,rfl⟩:=ob.slice
    clear hgl hbl og ob hdis hH
    generalize gs.length=gn at *
    generalize bs.length=bn at *
    obtain⟨z0,z1,z2,z3,z4,z5⟩:=oN hrw
    have zz:=(aF hrw)
    have r1:=(hkW.block _ (aF e2h.out) ⟨by omega,by omega⟩).trans e2h.out
    obtain⟨x0,x1,x2,x3,x4,x5⟩:=oN r1
    have zx:=(aF r1)
    have fx:∀i,wr.frozen? ⟨W1.heap.size,i,none⟩=false:=fun i=>UK r1 i
    have hs:=CJ r1 (.int .i64 0) (.slice ga gn gc) (.int .i64 0) (.int .i64 0) (.slice ba bn bc) (.slice none 0 0)
    have hk:=Gv wr W1.heap.size (.int .i64 0) (.slice ga gn gc) (.int .i64 0) (.int .i64 0) (.slice ba bn bc) (.slice none 0 0)
    obtain⟨m0,m1,m2,m3,m4,m5⟩:=oN hs
    have f3:=ai (Y9.out.trans (((hkW.mono fun k _ (h:k<w.heap.size)=>⟨by omega,by omega⟩).trans (hk.mono fun k _ h=>by omega)).below (B:=w.heap.size) (by have:=Y9.out.size;omega) fun k hk=>hk))
    clear hrw r1 hs hk hkW
    go_wp2_with (fail)
    refine bodyPost_ret (v:=xsV 0 (.slice ga gn gc) (.slice ba bn bc)) (by simp[results,Tryz.results104,go_sem,m0,m1,m2,m3,m4,m5]) rfl ⟨_,_,_,_,_,_,rfl,f3.out⟩
theorem Uw (s:Gy)(v:Value)(hl8:s.cons.length<=8)(w:World)(hc:iP w v s.cons):Calls Tryz.prog 49 #[RI v s] w fun e w'=>∃ga gn gc ba bn bc n,e=.returned (.tuple #[xsV 0 (.slice ga gn gc) (.slice ba bn bc),.int .i64 n])/\Below w.heap.size w w':=by
 obtain⟨W1,hW1⟩:=aG (w.alloc (ZZ v s))
 obtain⟨e1,b1,z1⟩:=boxedB hW1
 obtain⟨W2,hW2⟩:=aG (W1.alloc (xsO 0 (.slice none 0 0) (.slice none 0 0)))
 obtain⟨e2,b2,z2⟩:=boxedB hW2
 have e1':=ak b2 e1
 have hB2:=aj b1 b2
 have kS:=ai (Sm s v W2 (hc.mono hB2))
 have kB:=ai fun(X:World) (hX:Below W2.heap.size W2 X)=>YK s v hl8 X ((hc.mono hB2).mono hX)
 have hr1:=ai fun(X:World) (hX:Below W2.heap.size W2 X)=>oN (ak hX e1')
 have hr2:=ai fun(X:World) (hX:Below W2.heap.size W2 X)=>ak hX e2
 obtain⟨ca,cc,rfl,-,-⟩:=hc.els
 obtain⟨q0,q1,q2,q3,q4,q5⟩:=oN e1'
 have hBh:=ai hB2
 have zs:=ai (show w.heap.size<W1.heap.size/\W1.heap.size<W2.heap.size from⟨z1,z2⟩)
 have zq:w.heap.size<W2.heap.size:=by omega
 clear hc e1 e2 e1' b1 b2 hB2
 obtain⟨t,ht⟩:=aG (s.ok)
 rw[ht] at kS
 replace ht:=ai ht
 go_enter Tryz.func49,Tryz.ntmps49
 go_wp2_with (fail)
 refine ax kS.out ?_
 rintro e w3 ⟨t',rfl,ht',hB3⟩
 have ht2:=ht'.out
 clear ht'
 subst ht2
 obtain⟨q0,q1,q2,q3,q4,q5⟩:=hr1.out _ hB3
 have zw3:=bM zq hB3.size
 cases t
 . have r2:=hr2.out _ hB3
   obtain⟨x0,x1,x2,x3,x4,x5⟩:=oN r2
   have zx:=(aF r2)
   have fx:∀i,w3.frozen? ⟨W1.heap.size,i,none⟩=false:=fun i=>UK r2 i
   have hs:=CJ r2 (.int .i64 0) (.slice none 0 0) (.int .i64 0) (.int .i64 0) (.slice none 0 0) (.slice none 0 0)
   have hk:=Gv w3 W1.heap.size (.int .i64 0) (.slice none 0 0) (.int .i64 0) (.int .i64 0) (.slice none 0 0) (.slice none 0 0)
   obtain⟨m0,m1,m2,m3,m4,m5⟩:=oN hs
   have f3:=ai (hBh.out.trans ((hB3.mono (by have:=hBh.out.size;omega)).trans ((hk.mono fun k _ (h:k<w.heap.size)=>by have:=zs.out;omega).below (B:=w.heap.size) (by omega) fun k hk=>hk)))
   clear r2 hs hk
   go_wp2_with (fail)
   refine bodyPost_ret (v:=.tuple #[xsV 0 (.slice none 0 0) (.slice none 0 0),.int .i64 2]) (by simp[results,Tryz.results49,go_sem,m0,m1,m2,m3,m4,m5]) rfl ⟨_,_,_,_,_,_,_,rfl,f3.out⟩
 . go_wp2_with (fail)
   refine ax (kB.out _ hB3) ?_
   rintro e w4 ⟨ga,gn,gc,ba,bn,bc,rfl,hB4⟩
   have Ah:=aj hB3 hB4
   have r2:=hr2.out _ Ah
   obtain⟨x0,x1,x2,x3,x4,x5⟩:=oN r2
   have zx:=(aF r2)
   have fx:∀i,w4.frozen? ⟨W1.heap.size,i,none⟩=false:=fun i=>UK r2 i
   have hs:=CJ r2 (.int .i64 0) (.slice ga gn gc) (.int .i64 0) (.int .i64 0) (.slice ba bn bc) (.slice none 0 0)
   have hk:=Gv w4 W1.heap.size (.int .i64 0) (.slice ga gn gc) (.int .i64 0) (.int .i64 0) (.slice ba bn bc) (.slice none 0 0)
   obtain⟨m0,m1,m2,m3,m4,m5⟩:=oN hs
   have f3:=ai (hBh.out.trans ((Ah.mono (by have:=hBh.out.size;omega)).trans ((hk.mono fun k _ (h:k<w.heap.size)=>by have:=zs.out;omega).below (B:=w.heap.size) (by have:=Ah.size;omega) fun k hk=>hk)))
   clear r2 hs hk
   go_wp2_with (fail)
   refine bodyPost_ret (v:=.tuple #[xsV 0 (.slice ga gn gc) (.slice ba bn bc),.int .i64 0]) (by simp[results,Tryz.results49,go_sem,m0,m1,m2,m3,m4,m5]) rfl ⟨_,_,_,_,_,_,_,rfl,f3.out⟩
