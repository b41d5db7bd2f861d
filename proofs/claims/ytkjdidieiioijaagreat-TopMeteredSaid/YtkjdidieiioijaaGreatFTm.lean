/- For every works, content and amount the law TopMetered returns true, and the arguments read behind the call as they read before. -/
import Derived.Test.YtkjdidieiioijaaGreatK50
set_option linter.all false
set_option maxRecDepth 100000
set_option maxHeartbeats 16000000
namespace Go.Proofs.YtkjdidieiioijaaGreat.B
open Go.RowKit Go.Sd Wl Bk L Tr Dk
attribute [local go_sem] Oper.semAt_some
theorem alA {w:World}{n:Nat}{a0 a1 a2 a3:Value}{e:TypeId}(h:w.heap[n]? = some (.cells #[a0,a1,a2,a3] e (0,0))):w.cell? ⟨n,0,none⟩=some a0/\w.cell? ⟨n,1,none⟩=some a1/\w.cell? ⟨n,2,none⟩=some a2/\w.cell? ⟨n,3,none⟩=some a3:=by
 have r:=(ah h).2.1
 exact⟨r 0,r 1,r 2,r 3⟩
theorem anw {Y:World}{m:Nat}{ay:Int}(h:Y.heap[m]? = some (.cells #[.int .i64 2,.int .i64 0,.int .i64 0,.int .i64 0,.int .i64 0,.int .i64 ay,.int .i64 0,.int .i64 0,.int .i64 0,.int .i64 0] 43 (0,0)))(cap:Nat):G.GH Y (.slice (some ⟨m,0,none⟩) 1 cap) [zG ay]:=by
 refine⟨_,cap,rfl,by simp[maxLen],fun _=>⟨m,0,rfl,(aF h),fun k hk=>?_⟩⟩
 obtain rfl:k=0:=by simp at hk;omega
 have r:=(ah h).2.1
 exact⟨r 0,r 1,r 2,r 3,r 4,r 5,r 6,r 7,r 8,r 9⟩
theorem aa_ {Y:World}{m:Nat}(h:Y.heap[m]? = some (.cells #[.int .i64 0] 3 (0,0)))(cap:Nat):G.bK Y (.slice (some ⟨m,0,none⟩) 1 cap) [0]:=by
 refine⟨_,cap,rfl,by simp[maxLen],fun _=>⟨m,0,rfl,(aF h),fun k hk=>?_⟩⟩
 obtain rfl:k=0:=by simp at hk;omega
 exact(ah h).2.1 0
theorem al1 (w:World)(a:Obj):Below w.heap.size w (w.alloc a):=(Below.refl _ _).alloc (Nat.le_refl _) _
theorem al2 (w:World)(a b:Obj):Below w.heap.size w ((w.alloc a).alloc b):=aj (al1 w a) (al1 _ b)
structure aoC (ay:Int)(q:bz.Out)(g:bz.Pt):Prop where
 in1:q.di<=g.y/\g.y<=q.dE/\0<=q.di/\q.dE<=ay/\g.g+g.y=ay/\0<=ay/\ay<=2000000
 m1:qO (16*ay - 14*q.dE - 1) ay q=false
 m2:qO (16*ay - 14*q.di+1) ay q=false
 m3:qO (16*g.g+2*g.y) ay q=true
 m4:qO (16*ay - 14*q.dE) ay q=true
theorem aqa {c:bz.d_}{s:bz.St}{p:bz.Pt}{ay:Int}{q:bz.Out}{x g:bz.Pt}(hm:0<=ay/\ay<=2000000)(h:alN c s p ay q x g):aoC ay q g:=by
 have h1:=h.sum
 have h2:=h.has
 have h3:=h.low
 have h4:=h.high
 refine⟨⟨h2.1,h2.2,h3,h4,h1,hm.1,hm.2⟩,?_,?_,?_,?_⟩
 . simp[qO,Wl.inB];omega
 . simp[qO,Wl.inB];omega
 . simp[qO,Wl.inB];omega
 . simp[qO,Wl.inB];omega
set_option maxHeartbeats 40000000 in
theorem Zn (wk:Wk)(cv vv:Value)(p:bz.Pt)(ay:Int)(w:World)(h:PR w cv vv wk):Calls Tryz.prog 3 #[wkV cv vv wk,G.nR p,.int .i64 ay] w fun e w'=>e=.returned (.bool true)/\Below w.heap.size w w':=by
 have kK:Hid (∀X,Calls Tryz.prog 4 #[] X fun e w'=>e=.returned (.bool true)/\Below X.heap.size X w'):=ai (fun X=>XR X)
 obtain⟨W1,hW1⟩:=aG (w.alloc (wkO cv vv wk))
 obtain⟨e1,b1,z1⟩:=boxedB hW1
 obtain⟨W,hW⟩:=aG (W1.alloc (.cells #[.int .i64 p.g,.int .i64 p.y,.int .i64 p.t,.int .i64 p.w] 29))
 obtain⟨e2,b2,z2⟩:=boxedB hW
 have hBW:=aj b1 b2
 have e1W:=ak b2 e1
 have nS:=h.mono hBW
 obtain⟨ca,cc,hcv,-,-⟩:=h.cons.els
 obtain⟨va,vc,hvv,-,-⟩:=h.aW.els
 subst hcv hvv
 obtain⟨vn,hvn⟩:=aG (wk.aW.length)
 obtain⟨cn,hcn⟩:=aG (wk.st.cons.length)
 have kO:=agM wk _ _ W nS
 have kOp:=fun(hb:nU wk) (X:World) (hX:Below W.heap.size W X)=>WC wk _ _ X (nS.mono hX) hb
 rw[hvn,hcn] at kO kOp hW1 e1 e1W
 rw[hvn,hcn]
 replace kO:=ai kO
 replace kOp:=ai kOp
 have hrow:=yB nS.aW.els
 replace hrow:=ai hrow
 replace hvn:=ai hvn
 replace hcn:=ai hcn
 obtain⟨q0,q1,q2,q3,q4,q5,q6,q7,q8,q9⟩:=uu e1W
 obtain⟨p0,p1,p2,p3⟩:=alA e2
 have afT:=ai hBW
 have e1h:=ai e1W
 have e2h:=ai e2
 clear h nS e1 e2 e1W b1 b2
 rcases Int.lt_or_le ay 0 with m1|m1
 . go_enter Tryz.func3,Tryz.ntmps3
   go_wp2_with (go_at_call 4;(with_reducible refine ax (kK.out _) ?_);rintro e wK ⟨rfl,hBK⟩)
   go_ret
   exact⟨rfl,aj afT.out hBK⟩
 rcases Int.lt_or_le 2000000 ay with m2|m2
 . go_enter Tryz.func3,Tryz.ntmps3
   go_wp2_with (go_at_call 4;(with_reducible refine ax (kK.out _) ?_);rintro e wK ⟨rfl,hBK⟩)
   go_ret
   exact⟨rfl,aj afT.out hBK⟩
 go_enter Tryz.func3,Tryz.ntmps3
 go_wp2_with (fail)
 refine ax kO.out ?_
 rintro e w2 ⟨hB2,hor⟩
 have zw2:w.heap.size<w2.heap.size:=by have:=hB2.size;omega
 have Jo:W1.heap.size<w2.heap.size:=by have:=hB2.size;omega
 have hg:=az w2
 rcases hor with rfl|⟨hbr,hok,d,r,ds,rs,rfl,hD,hI⟩
 . go_wp2_with (fail)
   refine aH (by kernel_rfl) (by kernel_rfl) ?_
   repeat (go_big_quiet_step (fail))
   refine wpQuiet_nil ?_
   rintro _ ⟨g,rfl⟩
   go_wp2_with (go_at_call 4;(with_reducible refine ax (kK.out _) ?_);rintro e wK ⟨rfl,hBK⟩)
   go_ret
   exact⟨rfl,aj (aj (aj afT.out hB2) g.h) hBK⟩
 have h1:=(Ui hok).1.1
 have hvp:0<vn:=by rw[<- hvn.out];omega
 have hvi:(0:Int)<(vn:Int):=by omega
 obtain⟨b,off,cap',he,hbl,hx⟩:=hrow.out (by omega)
 rw[hvn.out] at he
 simp only[Value.slice.injEq] at he
 obtain⟨rfl,-,rfl⟩:=he
 have hx0:=hx 0 (by omega)
 obtain⟨c,hcc⟩:=aG ((aQ wk.aW 0).c)
 obtain⟨s,hss⟩:=aG ((aQ wk.aW 0).s)
 have hxc:∀X,Below W.heap.size W X->X.cell? ⟨b,off,none⟩=some (.int .i64 c.jm)/\X.cell? ⟨b,off+1,none⟩=some (.int .i64 c.jG)/\X.cell? ⟨b,off+2,none⟩=some (.int .i64 c.least)/\X.cell? ⟨b,off+3,none⟩=some (.int .i64 c.most)/\X.cell? ⟨b,off+4,none⟩=some (.int .i64 c.f0)/\X.cell? ⟨b,off+5,none⟩=some (.int .i64 c.f1)/\X.cell? ⟨b,off+6,none⟩=some (.int .i64 c.h0)/\X.cell? ⟨b,off+7,none⟩=some (.int .i64 c.h1)/\X.cell? ⟨b,off+8,none⟩=some (.int .i64 c.bu)/\X.cell? ⟨b,off+9,none⟩=some (.int .i64 c.mJ)/\X.cell? ⟨b,off+10,none⟩=some (.int .i64 c.phi):=fun X hX=>by
  have f:=hx0 X hX
  rw[Nat.zero_mul,Nat.add_zero] at f
  rw[<- hcc]
  exact⟨f 0 _ rfl,f 1 _ rfl,f 2 _ rfl,f 3 _ rfl,f 4 _ rfl,f 5 _ rfl,f 6 _ rfl,f 7 _ rfl,f 8 _ rfl,f 9 _ rfl,f 10 _ rfl⟩
 have hxs:∀X,Below W.heap.size W X->X.cell? ⟨b,off+11,none⟩=some (.int .i64 s.dB)/\X.cell? ⟨b,off+12,none⟩=some (.int .i64 s.dK)/\X.cell? ⟨b,off+13,none⟩=some (.int .i64 s.di)/\X.cell? ⟨b,off+14,none⟩=some (.int .i64 s.dE)/\X.cell? ⟨b,off+15,none⟩=some (.int .i64 s.gK)/\X.cell? ⟨b,off+16,none⟩=some (.int .i64 s.gJ)/\X.cell? ⟨b,off+17,none⟩=some (.int .i64 s.wlo)/\X.cell? ⟨b,off+18,none⟩=some (.int .i64 s.whi):=fun X hX=>by
  have f:=hx0 X hX
  rw[Nat.zero_mul,Nat.add_zero] at f
  rw[<- hss]
  exact⟨f 11 _ rfl,f 12 _ rfl,f 13 _ rfl,f 14 _ rfl,f 15 _ rfl,f 16 _ rfl,f 17 _ rfl,f 18 _ rfl⟩
 have hoc:=(Wx ((Ui hok).2 0 h1)).1
 have hos:=(Wx ((Ui hok).2 0 h1)).2.1
 rw[hcc] at hoc
 rw[hss] at hos
 have U_:=fun(ay dm:Int) (hm:0<=ay/\ay<=2000000) (hkk : -1000000000<=dm/\dm<=1000000000) (w:World) (B d:Nat) (r:ND) (ds:List DC) (rs:List Rm) (hI:Rw wk r ds rs) (h:ed B d r ds rs w)=>adA hbr hok hI ay dm hm hkk w h
 have kVw:=fun(B d:Nat) (r:ND) (ds:List DC) (rs:List Rm) (hI:Rw wk r ds rs) (w:World) (h:ed B d r ds rs w)=>aac hbr hok hI s hss w h
 rw[hcc,hss] at U_
 obtain⟨fl,hfl⟩:=aG (flw wk)
 rw[hfl] at U_
 replace U_:=ai U_
 replace kVw:=ai kVw
 obtain⟨v0,v1,v2,v3,v4,v5,v6,v7,v8,v9,v10⟩:=hxc w2 hB2
 obtain⟨v11,v12,v13,v14,v15,v16,v17,v18⟩:=hxs w2 hB2
 have hbw2:b<w2.heap.size:=bM hbl hB2.size
 replace q5:=ae hB2 q5
 replace q6:=ae hB2 q6
 replace p0:=ae hB2 p0
 replace p1:=ae hB2 p1
 replace p2:=ae hB2 p2
 replace p3:=ae hB2 p3
 have hrv:=hI
 replace hD:=ai hD
 replace hI:=ai hI
 replace hbr:=ai hbr
 replace hok:=ai hok
 have adh:=ai hB2
 clear q0 q1 q2 q3 q4 q7 q8 q9 hx hx0 hcc hss hfl hrow hrv h1
 obtain⟨th,hth⟩:=aG (bz.hasB s p)
 have kH:Hid (∀g:Grow w2,Calls Tryz.prog 6 #[G.jF s,G.nR p] g.x fun e w'=>e=.returned (.bool th)/\Below g.x.heap.size g.x w'):=ai fun g=>(G.aog s p g.x).mono fun e w' hb=>aB.lit hb hth
 go_wp2_with (fail)
 refine aH (by kernel_rfl) (by kernel_rfl) ?_
 repeat (go_big_quiet_step ((first|(go_at_call 6;with_reducible exact Calls.grow (kH.out _)))))
 refine wpQuiet_nil ?_
 rintro _ ⟨g,rfl⟩
 have hB0:=g.h
 obtain⟨U0,hU0⟩:=aG (g.x)
 rw[hU0] at hB0 ⊢
 clear hU0 g hg kH
 cases th
 . go_wp2_with (go_at_call 4;(with_reducible refine ax (kK.out _) ?_);rintro e wK ⟨rfl,hBK⟩)
   go_ret
   exact⟨rfl,aj (aj (aj afT.out adh.out) hB0) hBK⟩
 have hp:s.Has p:=bz.af0.1 hth
 clear hth
 replace q5:=ae hB0 q5
 replace q6:=ae hB0 q6
 replace p0:=ae hB0 p0
 replace p1:=ae hB0 p1
 replace p2:=ae hB0 p2
 replace p3:=ae hB0 p3
 replace v0:=ae hB0 v0
 replace v1:=ae hB0 v1
 replace v2:=ae hB0 v2
 replace v3:=ae hB0 v3
 replace v4:=ae hB0 v4
 replace v5:=ae hB0 v5
 replace v6:=ae hB0 v6
 replace v7:=ae hB0 v7
 replace v8:=ae hB0 v8
 replace v9:=ae hB0 v9
 replace v10:=ae hB0 v10
 replace v11:=ae hB0 v11
 replace v12:=ae hB0 v12
 replace v13:=ae hB0 v13
 replace v14:=ae hB0 v14
 replace v15:=ae hB0 v15
 replace v16:=ae hB0 v16
 replace v17:=ae hB0 v17
 replace v18:=ae hB0 v18
 have hb0:b<U0.heap.size:=bM hbw2 hB0.size
 have zw0:w.heap.size<U0.heap.size:=bM zw2 hB0.size
 have qK:W1.heap.size<U0.heap.size:=bM Jo hB0.size
 have amn:=ai hB0
 have hph:=ai hp
 clear hB0 hbw2 zw2 Jo hp hB2
 go_wp2_with (fail)
 refine iy h_ (va:=[⟨10,8,38,#[.int .i64 0,.int .i64 0,.int .i64 0,.int .i64 0,.int .i64 0,.int .i64 0,.int .i64 0,.int .i64 0,.int .i64 0,.int .i64 0,.int .i64 0],12,.tmp 52⟩,⟨11,9,40,#[.int .i64 0,.int .i64 0,.int .i64 0,.int .i64 0,.int .i64 0,.int .i64 0,.int .i64 0,.int .i64 0],13,.tmp 57⟩]) (by kernel_rfl) (by kernel_rfl) ?_ ?_ (by simp) (fun T f hT hf hcl=>?_)
 . intro p hp w
   simp only[List.mem_cons,List.not_mem_nil,or_false] at hp
   rcases hp with rfl|rfl <;> go_simp
 . intro p hp
   simp only[List.mem_cons,List.not_mem_nil,or_false] at hp
   rcases hp with rfl|rfl <;> kernel_rfl
 have hg:∀(g:T) (b o:Nat),b<U0.heap.size->(f g).cell? ⟨b,o,none⟩=U0.cell? ⟨b,o,none⟩:=fun g=>dR (hf g)
 simp only[fM,List.zipIdx_cons,List.zipIdx_nil,List.map_cons,List.map_nil,fG,List.any_cons,List.any_nil,Nat.reduceAdd,Nat.reduceBEq,Bool.or_false,Bool.false_or,Bool.or_self,Bool.false_eq_true,if_false,if_true,Nat.zero_add,BEq.rfl,Bool.or_true,Bool.true_or]
 simp only[Go.Sd.blank]
 repeat (go_big_quiet_step (fail))
 refine wpQuiet_nil ?_
 refine⟨?_,?_⟩
 . intro p hp
   simp only[List.mem_cons,List.not_mem_nil,or_false] at hp
   rcases hp with rfl|rfl <;> (constructor <;> simp[go_sem,Value.cells,Value.oneCell'])
 intro ns w' hB hv
 have hvb:=hv.2.2
 obtain⟨n1,n2,rfl,hne,⟨hn1,hl1,hc1,hf1⟩,⟨hn2,hl2,hc2,hf2⟩⟩:=ahW hv
 have P5:=(hvb 0 _ n1 rfl rfl).2
 have en2:=(hvb 1 _ n2 rfl rfl).2
 simp[go_sem,Value.cells] at P5 en2
 clear hvb
 clear hv hf hcl hg
 simp only[iQ,Act.put,List.setIfInBounds_toArray,List.set_cons_zero,List.set_cons_succ]
 simp[go_sem] at hc1 hc2
 obtain⟨U1,rfl⟩:∃U,U=w':=⟨_,rfl⟩
 obtain⟨nc,rfl⟩:∃x,x=n1:=⟨_,rfl⟩
 obtain⟨ns,rfl⟩:∃x,x=n2:=⟨_,rfl⟩
 obtain⟨R,hR⟩:=aG (CY c s (zG ay))
 obtain⟨n,o,er⟩:=R
 have kDo:Hid (∀X,Calls Tryz.prog 7 #[G.gm c,G.jF s,.agg #[.int .i64 2,.int .i64 0,.int .i64 0,.int .i64 0,.int .i64 0,.int .i64 ay,.int .i64 0,.int .i64 0,.int .i64 0,.int .i64 0]] X fun e w'=>e=.returned (.tuple #[G.jF n,G.l9 o,.int .i64 er])/\Below X.heap.size X w'):=ai fun X=>by
  have k:=Vp c s (zG ay) X
  rw[hR] at k
  exact k
 have her:er=0\/er=7:=by
  have h2:er=(CY c s (zG ay)).2.2:=by rw[hR]
  have hw:(zG ay).ok=true:=by simp[zG,bz.Op.ok,bz.inB,m1,m2]
  rw[h2]
  unfold CY
  rw[hoc,hos,hw]
  cases bz.act c s (zG ay) with
  | none=>exact .inr rfl
  | some r=>exact .inl rfl
 have hmet:er=0->∃x g,alN c s p ay o x g:=fun h0=>by
  have h2:(CY c s (zG ay)).2.2=0:=by rw[hR];exact h0
  have h3:=met ⟨m1,m2⟩ hph.out h2
  rw[hR] at h3
  exact h3
 replace hmet:=ai hmet
 have hRo:Hid ((CY c s (zG ay)).2.1=o):=ai (by rw[hR])
 obtain⟨c0,c1,c2,c3,c4,c5,c6,c7,c8,c9,c10⟩:=xY P5
 obtain⟨s0,s1,s2,s3,s4,s5,s6,s7⟩:=ahD en2
 have asi:=ai P5
 have asj:=ai en2
 have amo:=ai hB
 clear hR hc1 hc2 P5 en2 hB v0 v1 v2 v3 v4 v5 v6 v7 v8 v9 v10 v11 v12 v13 v14 v15 v16 v17 v18 q5 q6 p0 p1 p2 p3
 go_wp2_with (fail)
 obtain⟨U2,hU2⟩:=aG (U1.alloc (.cells #[.int .i64 2,.int .i64 0,.int .i64 0,.int .i64 0,.int .i64 0,.int .i64 ay,.int .i64 0,.int .i64 0,.int .i64 0,.int .i64 0] 43))
 obtain⟨eO,bO,zO⟩:=boxedB hU2
 rw[hU2]
 refine ax (kDo.out _) ?_
 rintro e w3 ⟨rfl,hB3⟩
 have adg:=aj bO hB3
 have hW3:Below w.heap.size w w3:=aj (aj (aj (aj afT.out adh.out) amn.out) amo.out) adg
 have h23:Below w2.heap.size w2 w3:=aj (aj amn.out amo.out) adg
 have apu:=ai hW3
 have asF:=ai h23
 have akU:=ai (ak adg asi.out)
 have aoZ:=ai (ak adg asj.out)
 have eO3:=ai (ak hB3 eO)
 have e23:=ai (ak (aj (aj (aj adh.out amn.out) amo.out) adg) e2h.out)
 clear c0 c1 c2 c3 c4 c5 c6 c7 c8 c9 c10 s0 s1 s2 s3 s4 s5 s6 s7 hW3 h23 adg eO bO hB3 zO hU2
 rcases her.symm with rfl|rfl
 . go_wp2_with (go_at_call 4;(with_reducible refine ax (kK.out _) ?_);rintro e wK ⟨rfl,hBK⟩)
   go_ret
   exact⟨rfl,aj apu.out (aj (al2 _ _ _) hBK)⟩
 clear her
 obtain⟨x,gp,hM⟩:=hmet.out rfl
 have hF:=aqa ⟨m1,m2⟩ hM
 have kPl:Hid (∀X lv av bv,G.GH X lv [zG ay]->G.bK X av [0]->G.bK X bv [0]->Calls Tryz.prog 8 #[G.gm c,G.nR p,lv,av,bv] X fun e w'=>e=.returned (.tuple #[G.nR x,G.nR gp,.int .i64 0])/\Below X.heap.size X w'):=ai fun X lv av bv hl ha hb=>G.Vy X hl ha hb hM.err hM.run
 obtain⟨c0,c1,c2,c3,c4,c5,c6,c7,c8,c9,c10⟩:=xY akU.out
 obtain⟨p0,p1,p2,p3⟩:=alA e23.out
 obtain⟨o0,o1,o2,o3,o4,o5,o6,o7,o8,o9⟩:=uu eO3.out
 have znc:=(aF akU.out)
 have znO:=(aF eO3.out)
 have znp:=(aF e23.out)
 replace hM:=ai hM
 replace hF:=ai hF
 go_wp2_with (fail)
 obtain⟨U4,hU4⟩:=aG (w3.alloc (.cells #[.int .i64 n.dB,.int .i64 n.dK,.int .i64 n.di,.int .i64 n.dE,.int .i64 n.gK,.int .i64 n.gJ,.int .i64 n.wlo,.int .i64 n.whi] 40))
 obtain⟨eS,bS,zS⟩:=boxedB hU4
 obtain⟨U5,hU5⟩:=aG (U4.alloc (.cells #[.int .i64 o.dB,.int .i64 o.dK,.int .i64 o.di,.int .i64 o.dE,.int .i64 o.wlo,.int .i64 o.whi] 56))
 obtain⟨eU,bU,zU⟩:=boxedB hU5
 obtain⟨A1,hA1⟩:=aG (U5.alloc (.cells #[.int .i64 2,.int .i64 0,.int .i64 0,.int .i64 0,.int .i64 0,.int .i64 ay,.int .i64 0,.int .i64 0,.int .i64 0,.int .i64 0] 43))
 obtain⟨eA1,bA1,zA1⟩:=boxedB hA1
 obtain⟨A2,hA2⟩:=aG (A1.alloc (.cells #[.int .i64 0] 3))
 obtain⟨eA2,bA2,zA2⟩:=boxedB hA2
 obtain⟨A3,hA3⟩:=aG (A2.alloc (.cells #[.int .i64 0] 3))
 obtain⟨eA3,bA3,zA3⟩:=boxedB hA3
 have y4:U4.heap.size=w3.heap.size+1:=by rw[<- hU4];simp
 have y5:U5.heap.size=w3.heap.size+1+1:=by rw[<- hU5,<- hU4];simp
 have y6:A1.heap.size=w3.heap.size+1+1+1:=by rw[<- hA1,<- hU5,<- hU4];simp
 have y7:A2.heap.size=w3.heap.size+1+1+1+1:=by rw[<- hA2,<- hA1,<- hU5,<- hU4];simp
 rw[y4] at eU
 rw[y5] at eA1
 rw[y6] at eA2
 rw[y7] at eA3
 rw[hU4,hU5,hA1,hA2,hA3]
 refine ax (kPl.out _ _ _ _ (anw (ak bA3 (ak bA2 eA1)) 1) (aa_ (ak bA3 eA2) 1) (aa_ eA3 1)) ?_
 rintro e w4 ⟨rfl,hB4⟩
 have ai5:=aj (aj (aj bS bU) (aj (aj bA1 bA2) bA3)) hB4
 have asO:=ai (aj apu.out ai5)
 have asG:=ai (aj asF.out ai5)
 have eU4:=ak (aj (aj (aj bA1 bA2) bA3) hB4) eU
 have ao0:=ai (ak ai5 aoZ.out)
 have hf:=hF.out.in1
 have b1:0<=gp.y/\gp.y<=2000000/\-2000000<=gp.g/\gp.g<=2000000:=by omega
 have b2:0<=o.di/\o.di<=2000000/\0<=o.dE/\o.dE<=2000000:=by omega
 have l1:16*ay - 14*o.dE<=16*gp.g+2*gp.y:=by omega
 have l2:16*gp.g+2*gp.y<=16*ay - 14*o.di:=by omega
 have asf:=ai eU4
 clear hU4 hU5 hA1 hA2 hA3 eS bS zS eU bU zU eA1 bA1 zA1 eA2 bA2 zA2 eA3 bA3 zA3 y4 y5 y6 y7 hB4 ai5 hf eU4 c0 c1 c2 c3 c4 c5 c6 c7 c8 c9 c10 o0 o1 o2 o3 o4 o5 o6 o7 o8 o9 p0 p1 p2 p3 znc znO znp
 go_wp2_with (fail)
 obtain⟨A5,hA5⟩:=aG (w4.alloc (.cells #[.int .i64 x.g,.int .i64 x.y,.int .i64 x.t,.int .i64 x.w] 29))
 obtain⟨A6,hA6⟩:=aG (A5.alloc (.cells #[.int .i64 gp.g,.int .i64 gp.y,.int .i64 gp.t,.int .i64 gp.w] 29))
 have bA6:Below w4.heap.size w4 A6:=by rw[<- hA6,<- hA5];exact al2 _ _ _
 rw[hA5,hA6]
 clear hA5 hA6
 have eU6:=ak bA6 asf.out
 obtain⟨o0,o1,o2,o3,o4,o5⟩:=oN eU6
 have zU6:=(aF eU6)
 have hg:=az A6
 clear eU6
 refine aH (by kernel_rfl) (by kernel_rfl) ?_
 repeat (go_big_quiet_step (fail))
 refine wpQuiet_nil ?_
 rintro _ ⟨g,rfl⟩
 have ai6:=ai (aj bA6 g.h)
 obtain⟨V,hV⟩:=aG (g.x)
 rw[hV] at ai6 ⊢
 clear hV g hg o0 o1 o2 o3 o4 o5 zU6 bA6
 have hf:=hF.out.in1
 have bnd:0<=16*ay - 14*o.dE/\16*ay - 14*o.dE<=16*gp.g+2*gp.y/\16*gp.g+2*gp.y<=16*ay - 14*o.di/\16*ay - 14*o.di<=32000000:=by omega
 have n1:=hF.out.m1
 have n2:=hF.out.m2
 have n3:=hF.out.m3
 have n4:=hF.out.m4
 replace hF:=ai True.intro
 replace hM:=ai True.intro
 clear hf l1 l2 b1 b2 kPl
 generalize 16*gp.g+2*gp.y=kl at n3 bnd ⊢
 generalize 16*ay - 14*o.dE=ls at n1 n4 bnd ⊢
 generalize 16*ay - 14*o.di=ms at n2 bnd ⊢
 obtain⟨k1,k2,k3,k4⟩:=bnd
 rw[<- hRo.out] at n1 n2 n3 n4
 have h2V:=aj asG.out ai6.out
 have hne1:tJ fl c s ay (ls - 1)≠0:=XH n1
 have hne2:tJ fl c s ay (ms+1)≠0:=XH n2
 obtain⟨hsm,heb⟩:=adB (fl:=fl) (c:=c) (s:=s) (ay:=ay) (a:=kl) (b:=ls) ⟨by omega,by omega⟩ ⟨by omega,by omega⟩ n3 n4
 have kA:=fun(X:World) (hX:Below w2.heap.size w2 X)=>(U_.out ay (ls - 1) ⟨m1,m2⟩ ⟨by omega,by omega⟩ X _ _ _ _ _ hI.out (hD.out.mono hX)).mono (R':=fun e w'=>e=.returned (.int .i64 (tJ fl c s ay (ls - 1)))/\Below X.heap.size X w') fun e w' ⟨he,hb,_⟩=>⟨he,hb hne1⟩
 have kB:=fun(X:World) (hX:Below w2.heap.size w2 X)=>(U_.out ay (ms+1) ⟨m1,m2⟩ ⟨by omega,by omega⟩ X _ _ _ _ _ hI.out (hD.out.mono hX)).mono (R':=fun e w'=>e=.returned (.int .i64 (tJ fl c s ay (ms+1)))/\Below X.heap.size X w') fun e w' ⟨he,hb,_⟩=>⟨he,hb hne2⟩
 have kC:=fun(X:World) (B d:Nat) (r:ND) (ds:List DC) (rs:List Rm) (hI:Rw wk r ds rs) (h:ed B d r ds rs X)=>U_.out ay kl ⟨m1,m2⟩ ⟨by omega,by omega⟩ X B d r ds rs hI h
 have kE:=fun(X:World) (B d:Nat) (r:ND) (ds:List DC) (rs:List Rm) (hI:Rw wk r ds rs) (h:ed B d r ds rs X)=>U_.out ay ls ⟨m1,m2⟩ ⟨by omega,by omega⟩ X B d r ds rs hI h
 rw[hsm] at kC
 obtain⟨ea,hea⟩:=aG (tJ fl c s ay (ls - 1))
 obtain⟨eb,MM⟩:=aG (tJ fl c s ay (ms+1))
 obtain⟨ec,hec⟩:=aG (tJ fl c s ay ls)
 rw[hea] at kA hne1
 rw[MM] at kB hne2
 rw[hec] at kC kE heb
 replace kA:=ai kA
 replace kB:=ai kB
 replace kC:=ai kC
 replace kE:=ai kE
 replace heb:=ai heb
 have nea:(ea == 0)=false:=by simpa using hne1
 have neb:(eb == 0)=false:=by simpa using hne2
 have Ag:=ai (aj asO.out ai6.out)
 have asP:=ai (ak ai6.out ao0.out)
 have ai2:=ai h2V
 have jls:¬ kl<ls:=by omega
 have jms:¬ ms<kl:=by omega
 clear n1 n2 n3 n4 hsm hea MM hec h2V U_ hne1 hne2
 have key:∀(w6:World),Below V.heap.size V w6->Below w2.heap.size w2 w6/\Below w.heap.size w w6/\w6.heap[ns]? = some (.cells #[.int .i64 s.dB,.int .i64 s.dK,.int .i64 s.di,.int .i64 s.dE,.int .i64 s.gK,.int .i64 s.gJ,.int .i64 s.wlo,.int .i64 s.whi] 40 (0,0)):=fun w6 h6=>⟨aj ai2.out h6,aj Ag.out h6,ak h6 asP.out⟩
 replace key:=ai key
 rcases Int.lt_or_le 0 ls with jp|jp
 case' inl =>
  go_wp2_with (go_at_call 9;first|((with_reducible refine ax (kA.out _ ai2.out) ?_);rintro e w5 ⟨rfl,qH⟩;(have h25:=aj ai2.out qH))|((with_reducible refine ax (kB.out _ h25) ?_);rintro e w6 ⟨rfl,apt⟩;(have Xj:=aj qH apt)))
  clear h25 qH apt
 case' inr =>
  go_wp2_with (go_at_call 9;((with_reducible refine ax (kB.out _ ai2.out) ?_);rintro e w6 ⟨rfl,Xj⟩))
 all_goals
  obtain⟨h26,hw6,aoY⟩:=key.out w6 Xj
  refine ax (kVw.out _ _ _ _ _ hI.out w6 (hD.out.mono h26)) ?_
  rintro e w7 ⟨xa,xb,xf,xs,xg,xo,rfl,hB7⟩
  have al9:=ak hB7 aoY
  obtain⟨s0,s1,s2,s3,s4,s5,s6,s7⟩:=ahD al9
  have zns:=(aF al9)
  have hw7:=aj hw6 hB7
  have h27:=aj h26 hB7
  have e7:=ak (aj adh.out h27) e1h.out
  obtain⟨q0,q1,q2,q3,q4,q5,q6,q7,q8,q9⟩:=uu e7
  have zq:=(aF e7)
  have atf:=ai hw7
  have afP:=ai h27
  clear Xj h26 hw6 aoY al9 e7 hB7 hw7 h27
  go_wp2_with (fail)
  obtain⟨A8,hA8⟩:=aG (w7.alloc (.cells #[.int .i64 s.dB,.int .i64 s.dK,.int .i64 s.di,.int .i64 s.dE,.int .i64 s.gK,.int .i64 s.gJ,.int .i64 s.wlo,.int .i64 s.whi,.int .i64 xa,.int .i64 xb,.bool xf,.int .i64 xs,.int .i64 xg,.int .i64 xo] 66))
  have b8:Below w7.heap.size w7 A8:=by rw[<- hA8];exact al1 _ _
  rw[hA8]
  refine ax (kOp.out hbr.out A8 (aj adh.out (aj afP.out b8))) ?_
  rintro e w8 ⟨hB8,hor⟩
  rcases hor with ⟨hn,-⟩|⟨-,d',r',ds',rs',rfl,hD',hI'⟩
  . rw[hok.out] at hn
    cases hn
  have h28:=aj afP.out (aj b8 hB8)
  have hD8:=hD.out.mono h28
  have hC:=ai (kC.out w8 _ _ _ _ _ hI.out hD8)
  have hdA:d<A8.heap.size:=by
   have:=(aF hD.out.row)
   have:=afP.out.size
   have:=b8.size
   omega
  have hrA:∀j,r.rv.ownBlock=some j->j<A8.heap.size:=fun j hj=>by
   have:=(eF hD.out.aS j hj).2
   have:=afP.out.size
   have:=b8.size
   omega
  have hap:=ai fun(w9:World) (hk:Kept (fun j=>j≠d/\r.rv.ownBlock≠some j) w8 w9)=>ed.apart hD8 hD' hdA hrA hk
  have hsz:w.heap.size<W.heap.size/\W.heap.size<=w2.heap.size/\w2.heap.size<=w7.heap.size/\w7.heap.size<=A8.heap.size:=⟨by omega,adh.out.size,afP.out.size,b8.size⟩
  have hfin:=ai fun(w9 w10:World) (hk9:Kept (fun j=>j≠d/\r.rv.ownBlock≠some j) w8 w9) (hk10:Kept (fun j=>j≠d'/\r'.rv.ownBlock≠some j) w9 w10)=>(show Below w.heap.size w w10 from(((Kept.all (aj atf.out (aj b8 hB8))).trans (hk9.mono fun j _ (hj:j<w.heap.size)=>⟨by have:=hD.out.le;omega,fun e=>by have:=(eF hD.out.aS j e).1;omega⟩)).trans (hk10.mono fun j _ (hj:j<w.heap.size)=>⟨by have:=hD'.le;omega,fun e=>by have:=(eF hD'.aS j e).1;omega⟩)).below (B:=w.heap.size) (Nat.le_refl _) fun j hj=>hj)
  replace hI':=ai hI'
  clear hD8 hD' hdA hrA hsz h28 hB8 b8 hA8 s0 s1 s2 s3 s4 s5 s6 s7 q0 q1 q2 q3 q4 q5 q6 q7 q8 q9
  go_wp2_with (fail)
  refine ax hC.out ?_
  rintro e w9 ⟨rfl,-,hk9⟩
  have hE:=ai (kE.out w9 _ _ _ _ _ hI'.out (hap.out w9 hk9))
  replace hk9:=ai hk9
  go_wp2_with (fail)
  refine ax hE.out ?_
  rintro e w10 ⟨rfl,-,hk10⟩
  have apI:=ai (hfin.out _ _ hk9.out hk10)
  clear hk10
  rcases heb.out with rfl|rfl|rfl
  all_goals
   go_wp2_with (go_at_call 4;(with_reducible refine ax (kK.out _) ?_);rintro e wK ⟨rfl,hBK⟩)
   go_ret
   exact⟨rfl,aj apI.out hBK⟩
end Go.Proofs.YtkjdidieiioijaaGreat.B
namespace Go.Proofs.YtkjdidieiioijaaGreat
open Go.ChangeShapes Go.WideShapes Go.ChangeAt Go.RowKit Go.Sd G
theorem meteredProvedLifted (os:Os)(started:os.Started)(H:Type)(enc:TypeId × Value->H) :
    ReturnsInHanded {} Tryz.checked os 3 .any (Rows.topMeteredSpec.pre6 enc Tryz.prog Tryz.f3 Rows.topMeteredRow.domain false) (Rows.topMeteredSpec.post enc Tryz.prog Tryz.f3 false true false false):=by
 refine returnsInHanded_of_change (C:=Tryz.checked) apo started (by kernel_rfl) Tryz.func3
  (ChangeSpec.witness6 (enc:=enc) (C:=Tryz.checked) false ⟨#[],#[.agg #[.int .i64 0,.int .i64 0,.int .i64 0,.int .i64 0,.int .i64 0,.slice none 0 0,.slice none 0 0,.int .i64 0,.int .i64 0,.int .i64 0],.agg #[.int .i64 0,.int .i64 0,.int .i64 0,.int .i64 0],.int .i64 0],[]⟩ 8 (by kernel_rfl) (by kernel_rfl) (by kernel_rfl) (by kernel_rfl)) ?_
 intro W base args ds gs before hval0 hW hcnd _
 have hval:∀(j:Nat) t v,Tryz.f3.params[j]? = some t->args[j]? = some v->Value.okWide Tryz.prog W .any base t v:=hval0
 have hW':=hW
 obtain⟨p,q,hA0,hV,rfl,hfz,hnd⟩:=hW
 have hA:DataW.TrodAll enc Tryz.prog W 0 (fun _=>true) true Tryz.f3.params.toList args.toList ds p:=hA0
 rw[Tryz.params3] at hA hval
 obtain⟨v0,vs0,d0,ds0,p0,q0,hargs,rfl,rfl,h0,r0⟩:=trodAll_cons hA
 obtain⟨v1,vs1,d1,ds1,p1,q1,rfl,rfl,rfl,h1,r1⟩:=trodAll_cons r0
 obtain⟨v2,vs2,d2,ds2,p2,q2,rfl,rfl,rfl,h2,r2⟩:=trodAll_cons r1
 obtain⟨rfl,rfl,rfl⟩:=trodAll_nil r2
 obtain rfl:args=#[v0,v1,v2]:=by cases args;simp_all
 obtain⟨rfl,rfl⟩:=trodVars_none hV
 have k0:=h0
 have lt0:∀x ∈ p0,x.block<W.heap.size:=by obtain⟨m,hm⟩:=k0;exact DataW.trod_lt m _ _ _ hm
 obtain⟨s0,r0b,r0c,rfl,hs0⟩:=Go.Proofs.YtkjdidieiioijaaGreat.W.ajO (hval 0 27 v0 rfl rfl) h0
 have k1:=h1
 have lt1:∀x ∈ p1,x.block<W.heap.size:=by obtain⟨m,hm⟩:=k1;exact DataW.trod_lt m _ _ _ hm
 obtain⟨s1,rfl⟩:=ajN (hval 1 29 v1 rfl rfl) h1
 obtain⟨a2,rfl,rfl,rfl,w2⟩:=Go.ChangeShapes.open_int Tryz.underlying3 (hval 2 3 v2 rfl rfl) h2
 clear hA0 hval0
 refine(B.Zn s0 r0b r0c s1 a2 W hs0).mono fun e W' ⟨he,bel⟩=>?_
 subst he
 exact⟨_,rfl,_,_,_,[],_,[],hW',trodAll_mk1 (shut_bool Tryz.underlying4 _),(trodAll_cons_mk (Below.trod afH (by kernel_rfl) (of_decide_eq_true (by kernel_rfl)) k0 bel lt0) (trodAll_cons_mk (Below.trod afH (by kernel_rfl) (of_decide_eq_true (by kernel_rfl)) k1 bel lt1) (trodAll_cons_mk (shut_int Tryz.underlying3 w2) trodAll_mk0))),rfl,bel.frame _,fun h=>by cases h⟩
theorem meteredProved:Rows.TopMeteredSaid :=
 OpenClaim.holds_of_wide 3 Tryz.f3 rfl rfl rfl rfl rfl rfl rfl ⟨rfl,rfl,rfl,rfl,rfl⟩ rfl rfl rfl rfl rfl (by kernel_rfl) Tryz.func3 (by kernel_rfl)
  (of_decide_eq_true (by kernel_rfl)) (by unfold Func.isWrapper;first|(rw[if_pos (by decide +kernel)];kernel_rfl)|(rw[if_neg (by decide +kernel)];exact⟨rfl,rfl⟩))
  (fun os started H enc _=>meteredProvedLifted os started H enc)
#print axioms meteredProved
