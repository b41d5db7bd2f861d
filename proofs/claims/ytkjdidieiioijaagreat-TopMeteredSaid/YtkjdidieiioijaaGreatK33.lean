/- Walks. -/
import Derived.Test.YtkjdidieiioijaaGreatK32
set_option linter.all false
set_option maxRecDepth 100000
set_option maxHeartbeats 16000000
namespace Go.Proofs.YtkjdidieiioijaaGreat.B
open Go.RowKit Go.Sd Wl Bk L Tr Dk
attribute [local go_sem] Oper.semAt_some
def dS (fl:Bool)(c:bz.d_)(s:bz.St)(op:bz.Op)(tm:Bool)(bC:Int):Nat->Int
 | 0=>if fl=true then 0 else 6
 | 1=>if (CY c s op).2.2=0 then 0 else 7
 | 2=>if (uz c (CY c s op).1).2=0/\(uz c (CY c s op).1).1=1 then 0 else 7
 | 3=>if tm=true then 0 else 7
 | _=>if bC<=800000000 then 0 else 6
def lF (fl:Bool)(c:bz.d_)(s:bz.St)(op:bz.Op)(tm:Bool)(bC:Int):Int :=
 if dS fl c s op tm bC 0≠0 then dS fl c s op tm bC 0 else if dS fl c s op tm bC 1≠0 then dS fl c s op tm bC 1 else if dS fl c s op tm bC 2≠0 then dS fl c s op tm bC 2 else if dS fl c s op tm bC 3≠0 then dS fl c s op tm bC 3 else dS fl c s op tm bC 4
theorem AB {fl:Bool}{c:bz.d_}{s:bz.St}{op:bz.Op}{tm:Bool}{bC:Int}{k:Nat}(hk:k<5)(h:∀j,j<k->dS fl c s op tm bC j=0)(hne:dS fl c s op tm bC k≠0):lF fl c s op tm bC=dS fl c s op tm bC k:=by
 have h5:k=0\/k=1\/k=2\/k=3\/k=4:=by omega
 unfold lF
 rcases h5 with rfl|rfl|rfl|rfl|rfl
 . rw[if_pos hne]
 . rw[if_neg (by rw[h 0 (by decide)];simp),if_pos hne]
 . rw[if_neg (by rw[h 0 (by decide)];simp),if_neg (by rw[h 1 (by decide)];simp),if_pos hne]
 . rw[if_neg (by rw[h 0 (by decide)];simp),if_neg (by rw[h 1 (by decide)];simp),if_neg (by rw[h 2 (by decide)];simp),if_pos hne]
 . rw[if_neg (by rw[h 0 (by decide)];simp),if_neg (by rw[h 1 (by decide)];simp),if_neg (by rw[h 2 (by decide)];simp),if_neg (by rw[h 3 (by decide)];simp)]
theorem afE {fl:Bool}{c:bz.d_}{s:bz.St}{op:bz.Op}{tm:Bool}{bC:Int}(h:∀j,j<5->dS fl c s op tm bC j=0):lF fl c s op tm bC=0:=by
 unfold lF
 rw[if_neg (by rw[h 0 (by decide)];simp),if_neg (by rw[h 1 (by decide)];simp),if_neg (by rw[h 2 (by decide)];simp),if_neg (by rw[h 3 (by decide)];simp),h 4 (by decide)]
theorem amO (w:World)(v0 v1 v2 v3 v4:Value):(Instr.index 201 (.agg #[v0,v1,v2,v3,v4]) (.int .i64 0)).run Tryz.prog w=.ok v0 w:=by kernel_rfl
theorem amP (w:World)(v0 v1 v2 v3 v4:Value):(Instr.index 201 (.agg #[v0,v1,v2,v3,v4]) (.int .i64 1)).run Tryz.prog w=.ok v1 w:=by kernel_rfl
theorem amQ (w:World)(v0 v1 v2 v3 v4:Value):(Instr.index 201 (.agg #[v0,v1,v2,v3,v4]) (.int .i64 2)).run Tryz.prog w=.ok v2 w:=by kernel_rfl
theorem amR (w:World)(v0 v1 v2 v3 v4:Value):(Instr.index 201 (.agg #[v0,v1,v2,v3,v4]) (.int .i64 3)).run Tryz.prog w=.ok v3 w:=by kernel_rfl
theorem amS (w:World)(v0 v1 v2 v3 v4:Value):(Instr.index 201 (.agg #[v0,v1,v2,v3,v4]) (.int .i64 4)).run Tryz.prog w=.ok v4 w:=by kernel_rfl
attribute [local go_sem] amO amP amQ amR amS
theorem TU {w:World}{n:Nat}{a0 a1 a2 a3 a4 a5 a6 a7:Value}{e:TypeId}(h:w.heap[n]? = some (.cells #[a0,a1,a2,a3,a4,a5,a6,a7] e (0,0))):w.cell? ⟨n,0,none⟩=some a0/\w.cell? ⟨n,1,none⟩=some a1/\w.cell? ⟨n,2,none⟩=some a2/\w.cell? ⟨n,3,none⟩=some a3/\w.cell? ⟨n,4,none⟩=some a4/\w.cell? ⟨n,5,none⟩=some a5/\w.cell? ⟨n,6,none⟩=some a6/\w.cell? ⟨n,7,none⟩=some a7:=by
 have r:=(ah h).2.1
 exact⟨r 0,r 1,r 2,r 3,r 4,r 5,r 6,r 7⟩
theorem Su {w:World}{v:Value}{xs:List DC}(h:VW w v xs)(h0:0<xs.length){c:bz.d_}(hc:(aQ xs 0).c=c):∃b off cap,v=.slice (some ⟨b,off,none⟩) xs.length cap/\b<w.heap.size/\w.cell? ⟨b,off,none⟩=some (.int .i64 c.jm)/\w.cell? ⟨b,off+1,none⟩=some (.int .i64 c.jG)/\w.cell? ⟨b,off+2,none⟩=some (.int .i64 c.least)/\w.cell? ⟨b,off+3,none⟩=some (.int .i64 c.most)/\w.cell? ⟨b,off+4,none⟩=some (.int .i64 c.f0)/\w.cell? ⟨b,off+5,none⟩=some (.int .i64 c.f1)/\w.cell? ⟨b,off+6,none⟩=some (.int .i64 c.h0)/\w.cell? ⟨b,off+7,none⟩=some (.int .i64 c.h1)/\w.cell? ⟨b,off+8,none⟩=some (.int .i64 c.bu)/\w.cell? ⟨b,off+9,none⟩=some (.int .i64 c.mJ)/\w.cell? ⟨b,off+10,none⟩=some (.int .i64 c.phi):=by
 obtain⟨b,off,cap,hv,hb,hx⟩:=zt h h0
 subst hc
 have f:=fun i u=>hx 0 i u h0
 rw[Nat.zero_mul,Nat.add_zero] at f
 exact⟨b,off,cap,hv,hb,f 0 _ rfl,f 1 _ rfl,f 2 _ rfl,f 3 _ rfl,f 4 _ rfl,f 5 _ rfl,f 6 _ rfl,f 7 _ rfl,f 8 _ rfl,f 9 _ rfl,f 10 _ rfl⟩
theorem lh {w:World}{g:Nat}(cs:Array Value):Kept (fun j=>j≠g) w (w.setRow g cs):=by
 refine⟨rfl,rfl,rfl,by simp[World.setRow],fun k hk hne=>?_⟩
 simp only[World.setRow,Array.getElem?_modify]
 rw[if_neg (fun e=>hne e.symm)]
theorem aab {W w:World}{p q r:Va}{ns:List Nat}{b:Act}(h:Vars W w [p,q,r] ns b) :
    ∃n m o,ns=[n,m,o]/\(n≠m/\n≠o/\m≠o)/\(W.heap.size<=n/\n<w.heap.size/\(∀i,w.cell? ⟨n,i,none⟩=((b.eval p.x).cells)[i]?)/\(∀i,w.frozen? ⟨n,i,none⟩=false)) /\
     (W.heap.size<=m/\m<w.heap.size/\(∀i,w.cell? ⟨m,i,none⟩=((b.eval q.x).cells)[i]?)/\(∀i,w.frozen? ⟨m,i,none⟩=false)) /\
     (W.heap.size<=o/\o<w.heap.size/\(∀i,w.cell? ⟨o,i,none⟩=((b.eval r.x).cells)[i]?)/\(∀i,w.frozen? ⟨o,i,none⟩=false)):=by
 obtain⟨h1,h2,h3⟩:=h
 match ns,h1 with
 | [n,m,o],_ =>
  have a1:=h3 0 p n rfl rfl
  have a2:=h3 1 q m rfl rfl
  have a3:=h3 2 r o rfl rfl
  simp at h2
  exact⟨n,m,o,rfl,⟨h2.1.1,h2.1.2,h2.2⟩,⟨a1.1,ah a1.2⟩,⟨a2.1,ah a2.2⟩,⟨a3.1,ah a3.2⟩⟩
theorem ae6 {B d:Nat}{r:ND}{ds:List DC}{rs:List Rm}(op:bz.Op)(nf:Nat)(nb:Array Value)(bC:Int)(w:World)(h:ed B d r ds rs w)(h0:0<rs.length)(c:bz.d_)(hcc:(aQ ds 0).c=c)(s:bz.St)(hss:(ny rs 0).s=s)(we:We)(hwe:(ny rs 0).we=we)(ok:we.Ok)(hl:2<=(aQ ds 0).line/\(aQ ds 0).line<=we.aS - 1)(hb:0<=(aQ ds 0).m.begin/\(aQ ds 0).m.begin<(aQ ds 0).m.opn.length)(h8:(aQ ds 0).m.opn.length<=8)
    (en:∀args w,(callFunc nf args).run Tryz.prog w=.ok (.enter nf args) w) (tm:Bool) (apL:∀X,Below w.heap.size w X->Calls Tryz.prog nf (#[G.l9 (CY c s op).2.1] ++ nb) X fun e w'=>e=.returned (.bool tm)/\Below X.heap.size X w'):Calls Tryz.prog 41 #[.pointer (some ⟨d,0,none⟩),.int .i64 0,.int .i64 1,G.Ll op,.func (.func nf) #[] nb,.int .i64 bC] w fun e w'=>e=.returned (.tuple #[G.jF (if lF (oQ we (aQ ds 0).line && oW (aQ ds 0).m) c s op tm bC=0 then(CY c s op).1 else G.st0),.int .i64 (lF (oQ we (aQ ds 0).line && oW (aQ ds 0).m) c s op tm bC)])/\Below w.heap.size w w':=by
 have hrl:=h.Yf
 have hd3:=h.caps
 obtain⟨g,cap,hr,-,hgl,-,hc⟩:=CE h h0
 obtain⟨vb,voff,aed,hvv,hvl,c0,c1,c2,c3,c4,c5,c6,c7,c8,c9,c10⟩:=Su h.dcs.now.els (by omega) hcc
 have s0:w.cell? ⟨g,0,none⟩=some (.int .i64 s.dB):=by have h1:=hc 0 _ rfl;rw[hss] at h1;simpa using h1
 have s1:w.cell? ⟨g,1,none⟩=some (.int .i64 s.dK):=by have h1:=hc 1 _ rfl;rw[hss] at h1;simpa using h1
 have s2:w.cell? ⟨g,2,none⟩=some (.int .i64 s.di):=by have h1:=hc 2 _ rfl;rw[hss] at h1;simpa using h1
 have s3:w.cell? ⟨g,3,none⟩=some (.int .i64 s.dE):=by have h1:=hc 3 _ rfl;rw[hss] at h1;simpa using h1
 have s4:w.cell? ⟨g,4,none⟩=some (.int .i64 s.gK):=by have h1:=hc 4 _ rfl;rw[hss] at h1;simpa using h1
 have s5:w.cell? ⟨g,5,none⟩=some (.int .i64 s.gJ):=by have h1:=hc 5 _ rfl;rw[hss] at h1;simpa using h1
 have s6:w.cell? ⟨g,6,none⟩=some (.int .i64 s.wlo):=by have h1:=hc 6 _ rfl;rw[hss] at h1;simpa using h1
 have s7:w.cell? ⟨g,7,none⟩=some (.int .i64 s.whi):=by have h1:=hc 7 _ rfl;rw[hss] at h1;simpa using h1
 have VU:w.cell? ⟨d,10,none⟩=some r.rv:=(ah h.row).2.1 10
 have y6:w.cell? ⟨d,6,none⟩=some r.vv:=(ah h.row).2.1 6
 have zb:=(aF h.row)
 rw[hr] at VU
 rw[hvv] at y6
 have hli:(0:Int)<(rs.length:Int)/\(0:Int)<(ds.length:Int):=by omega
 obtain⟨W1,hW1⟩:=aG (w.alloc (.cells #[.pointer (some ⟨d,0,none⟩)] 31))
 obtain⟨e1,b1,z1⟩:=boxedB hW1
 obtain⟨W2,hW2⟩:=aG (W1.alloc (.cells #[.int .i64 0] 3))
 obtain⟨e2,b2,z2⟩:=boxedB hW2
 obtain⟨W3,hW3⟩:=aG (W2.alloc (.cells #[.int .i64 1] 3))
 obtain⟨e3,b3,z3⟩:=boxedB hW3
 obtain⟨W4,UQ⟩:=aG (W3.alloc (.cells #[.int .i64 op.kind,.int .i64 op.lg,.int .i64 op.ly,.int .i64 op.lt,.int .i64 op.lw,.int .i64 op.ay,.int .i64 op.lY,.int .i64 op.lX,.int .i64 op.wlo,.int .i64 op.whi] 43))
 obtain⟨e4,b4,z4⟩:=boxedB UQ
 obtain⟨W5,Zc⟩:=aG (W4.alloc (.cells #[.func (.func nf) #[] nb] 112))
 obtain⟨e5,b5,z5⟩:=boxedB Zc
 obtain⟨W6,hW6⟩:=aG (W5.alloc (.cells #[.int .i64 bC] 3))
 obtain⟨e6,b6,z6⟩:=boxedB hW6
 obtain⟨W,hW⟩:=aG (W6.alloc (.cells #[.int .i64 0,.int .i64 0,.int .i64 0,.int .i64 0,.int .i64 0,.int .i64 0,.int .i64 0,.int .i64 0] 40))
 obtain⟨e7,b7,z7⟩:=boxedB hW
 have k67:=b7
 have k57:=aj b6 k67
 have k47:=aj b5 k57
 have k37:=aj b4 k47
 have k27:=aj b3 k37
 have k17:=aj b2 k27
 have Le:=aj b1 k17
 have f1:=ak k17 e1
 have f2:=ak k27 e2
 have f3:=ak k37 e3
 have f4:=ak k47 e4
 have f5:=ak k57 e5
 have f6:=ak k67 e6
 have u1:=uw f1
 have u2:=uw f2
 obtain⟨u10,u11⟩:=u1
 obtain⟨u20,u21⟩:=u2
 have x6:=ae Le y6
 have x10:=ae Le VU
 have p0:=ae Le s0
 have p1:=ae Le s1
 have p2:=ae Le s2
 have p3:=ae Le s3
 have p4:=ae Le s4
 have p5:=ae Le s5
 have p6:=ae Le s6
 have p7:=ae Le s7
 have q0:=ae Le c0
 have q1:=ae Le c1
 have q2:=ae Le c2
 have q3:=ae Le c3
 have q4:=ae Le c4
 have q5:=ae Le c5
 have q6:=ae Le c6
 have q7:=ae Le c7
 have q8:=ae Le c8
 have q9:=ae Le c9
 have q10:=ae Le c10
 obtain⟨o0,o1,o2,o3,o4,o5,o6,o7,o8,o9⟩:=uu f4
 have zo:=(aF f4)
 have zd:d<W.heap.size:=bM zb Le.size
 have zg:g<W.heap.size:=bM hgl Le.size
 have zv:vb<W.heap.size:=bM hvl Le.size
 clear y6 VU hc hr hvv e1 e2 e3 e4 e5 e6 b1 b2 b3 b4 b5 b6 b7 zb hgl hvl s0 s1 s2 s3 s4 s5 s6 s7 c0 c1 c2 c3 c4 c5 c6 c7 c8 c9 c10
 have hh:=ai h
 have ff:=ai (⟨f1,f2,f3,f4,f5,f6,e7⟩:_/\_/\_/\_/\_/\_/\_)
 have hkw:=ai Le
 clear h f1 f2 f3 f4 f5 f6 e7 k67 k57 k47 k37 k27 k17 Le
 obtain⟨fl,hfl⟩:=aG ((oQ we (aQ ds 0).line && oW (aQ ds 0).m))
 obtain⟨R,hR⟩:=aG (CY c s op)
 rw[hfl,hR]
 replace hfl:=ai hfl
 replace hR:=ai hR
 go_enter Tryz.func41,Tryz.ntmps41
 go_wp2_with (fail)
 refine iy h_ (va:=[⟨9,14,38,#[.int .i64 0,.int .i64 0,.int .i64 0,.int .i64 0,.int .i64 0,.int .i64 0,.int .i64 0,.int .i64 0,.int .i64 0,.int .i64 0,.int .i64 0],10,.tmp 29⟩]) (by kernel_rfl) (by kernel_rfl) ?_ ?_ (by simp) (fun T f hT hf hcl=>?_)
 . intro p hp w
   simp only[List.mem_cons,List.not_mem_nil,or_false] at hp
   rcases hp with rfl <;> go_simp
 . intro p hp
   simp only[List.mem_cons,List.not_mem_nil,or_false] at hp
   rcases hp with rfl <;> kernel_rfl
 have hg:∀(g:T) (b o:Nat),b<W.heap.size->(f g).cell? ⟨b,o,none⟩=W.cell? ⟨b,o,none⟩:=fun g=>dR (hf g)
 simp only[fM,List.zipIdx_cons,List.zipIdx_nil,List.map_cons,List.map_nil,fG,List.any_cons,List.any_nil,Nat.reduceAdd,Nat.reduceBEq,Bool.or_false,Bool.false_or,Bool.or_self,Bool.false_eq_true,if_false,if_true,Nat.zero_add,BEq.rfl,Bool.or_true,Bool.true_or]
 simp only[Go.Sd.blank]
 repeat (go_big_quiet_step (fail))
 refine wpQuiet_nil ?_
 refine⟨?_,?_⟩
 . intro p hp
   simp only[List.mem_cons,List.not_mem_nil,or_false] at hp
   rcases hp with rfl <;> (constructor <;> simp[go_sem,Value.cells,Value.oneCell'])
 intro ns w' hB hv
 have hvb:=hv.2.2
 obtain⟨n1,rfl,hn1,hl1,hc1,hf1⟩:=qA hv
 have P5:=(hvb 0 _ n1 rfl rfl).2
 simp[go_sem,Value.cells] at P5
 clear hvb
 clear hv hf hcl hg
 simp only[iQ,Act.put,List.setIfInBounds_toArray,List.set_cons_zero,List.set_cons_succ]
 simp[go_sem] at hc1
 obtain⟨U1,rfl⟩:∃U1,U1=w':=⟨_,rfl⟩
 obtain⟨cb,hcb⟩:∃x,x=n1:=⟨_,rfl⟩
 subst hcb
 have kD:Hid (∀X,Below U1.heap.size U1 X->Calls Tryz.prog 7 #[G.gm c,G.jF s,G.Ll op] X fun e w'=>e=.returned (.tuple #[G.jF R.1,G.l9 R.2.1,.int .i64 R.2.2])/\Below X.heap.size X w'):=ai fun X _=>by rw[<- hR.out];exact Vp c s op X
 have hTB:=ai hB
 have v10:=ae hB u10
 have v20:=ae hB u20
 have v6:=ae hB x6
 have vr:=ae hB x10
 have t0:=ae hB p0
 have t1:=ae hB p1
 have t2:=ae hB p2
 have t3:=ae hB p3
 have t4:=ae hB p4
 have t5:=ae hB p5
 have t6:=ae hB p6
 have t7:=ae hB p7
 have r0:=ae hB o0
 have r1:=ae hB o1
 have r2:=ae hB o2
 have r3:=ae hB o3
 have r4:=ae hB o4
 have r5:=ae hB o5
 have r6:=ae hB o6
 have r7:=ae hB o7
 have r8:=ae hB o8
 have r9:=ae hB o9
 have zT:=hB.size
 obtain⟨j0,j1,j2,j3,j4,j5,j6,j7,j8,j9,j10⟩:=xY P5
 clear hc1
 have enc1:=P5
 have y1:w.heap.size<U1.heap.size:=by omega
 have y2:W1.heap.size<U1.heap.size:=by omega
 have y3:W3.heap.size<U1.heap.size:=by omega
 have y4:d<U1.heap.size:=by omega
 have y5:g<U1.heap.size:=by omega
 have y6:vb<U1.heap.size:=by omega
 clear u10 u20 x6 x10 p0 p1 p2 p3 p4 p5 p6 p7 q0 q1 q2 q3 q4 q5 q6 q7 q8 q9 q10 o0 o1 o2 o3 o4 o5 o6 o7 o8 o9
 go_wp2_with (fail)
 refine iy h_ (va:=[⟨15,15,40,#[.int .i64 0,.int .i64 0,.int .i64 0,.int .i64 0,.int .i64 0,.int .i64 0,.int .i64 0,.int .i64 0],18,.tmp 42⟩,⟨16,16,56,#[.int .i64 0,.int .i64 0,.int .i64 0,.int .i64 0,.int .i64 0,.int .i64 0],19,.tmp 43⟩,⟨17,17,57,#[.int .i64 0],20,.tmp 44⟩]) (by kernel_rfl) (by kernel_rfl) ?_ ?_ (by simp) (fun T f hT hf hcl=>?_)
 . intro p hp w
   simp only[List.mem_cons,List.not_mem_nil,or_false] at hp
   rcases hp with rfl|rfl|rfl <;> go_simp
 . intro p hp
   simp only[List.mem_cons,List.not_mem_nil,or_false] at hp
   rcases hp with rfl|rfl|rfl <;> kernel_rfl
 have hg:∀(g:T) (b o:Nat),b<U1.heap.size->(f g).cell? ⟨b,o,none⟩=U1.cell? ⟨b,o,none⟩:=fun g=>dR (hf g)
 simp only[fM,List.zipIdx_cons,List.zipIdx_nil,List.map_cons,List.map_nil,fG,List.any_cons,List.any_nil,Nat.reduceAdd,Nat.reduceBEq,Bool.or_false,Bool.false_or,Bool.or_self,Bool.false_eq_true,if_false,if_true,Nat.zero_add,BEq.rfl,Bool.or_true,Bool.true_or]
 simp only[Go.Sd.blank]
 repeat (go_big_quiet_step ((first|(go_at_call 7;(with_reducible refine ax (kD.out _ (hf _)) ?_);rintro e w1 ⟨rfl,hb1⟩;exact⟨rfl,hcl _ _ hb1⟩))))
 refine wpQuiet_nil ?_
 refine⟨?_,?_⟩
 . intro p hp
   simp only[List.mem_cons,List.not_mem_nil,or_false] at hp
   rcases hp with rfl|rfl|rfl <;> (constructor <;> simp[go_sem,Value.cells,Value.oneCell'])
 intro ns w' hB hv
 have hvb:=hv.2.2
 obtain⟨n1,n2,n3,rfl,⟨avF,avG,avH⟩,⟨hn1,hl1,hc1,hf1⟩,⟨hn2,hl2,hc2,hf2⟩,⟨hn3,hl3,hc3,hf3⟩⟩:=aab hv
 have P5:=(hvb 0 _ n1 rfl rfl).2
 have en2:=(hvb 1 _ n2 rfl rfl).2
 have en3:=(hvb 2 _ n3 rfl rfl).2
 simp[go_sem,Value.cells] at P5 en2 en3
 clear hvb
 clear hv hf hcl hg
 simp only[iQ,Act.put,List.setIfInBounds_toArray,List.set_cons_zero,List.set_cons_succ]
 simp[go_sem] at hc1 hc2 hc3
 obtain⟨U2,rfl⟩:∃U2,U2=w':=⟨_,rfl⟩
 have hb2:=hB
 have hwU:Below w.heap.size w U2:=aj hkw.out (aj hTB.out hb2)
 have UR:Below W.heap.size W U2:=aj hTB.out hb2
 obtain⟨g1,g2,g3,g4,g5,g6,g7⟩:=ff.out
 have i1:=ak UR g1
 have i2:=ak UR g2
 have i3:=ak UR g3
 have i5:=ak UR g5
 have i6:=ak UR g6
 have i7:=ak UR g7
 have ic:=ak hb2 enc1
 have kk0:Hid (∀X,Below U2.heap.size U2 X->Calls Tryz.prog 80 #[.pointer (some ⟨w.heap.size,0,none⟩),.pointer (some ⟨W1.heap.size,0,none⟩),.pointer (some ⟨W2.heap.size,0,none⟩)] X fun e w'=>e=.returned (.int .i64 (dS fl c s op tm bC 0))/\Below X.heap.size X w'):=ai fun X hX=>by
  rw[<- hfl.out]
  exact apj X (hh.out.mono (aj hwU hX)) h0 we hwe ok hl hb h8 _ _ _ _ _ _ (ak hX i1) (ak hX i2) (ak hX i3)
 have kk1:Hid (∀X,Below U2.heap.size U2 X->Calls Tryz.prog 83 #[.pointer (some ⟨n3,0,none⟩)] X fun e w'=>e=.returned (.int .i64 (dS fl c s op tm bC 1))/\Below X.heap.size X w'):=ai fun X hX=>by
  unfold dS
  rw[hR.out]
  exact apk _ _ _ X (ak hX en3)
 have kk2:Hid (∀X,Below U2.heap.size U2 X->Calls Tryz.prog 84 #[.pointer (some ⟨cb,0,none⟩),.pointer (some ⟨n1,0,none⟩)] X fun e w'=>e=.returned (.int .i64 (dS fl c s op tm bC 2))/\Below X.heap.size X w'):=ai fun X hX=>by
  unfold dS
  rw[hR.out]
  exact apl c R.1 _ _ _ _ X (ak hX ic) (ak hX P5)
 have kk3:Hid (∀X,Below U2.heap.size U2 X->Calls Tryz.prog 85 #[.pointer (some ⟨W4.heap.size,0,none⟩),.pointer (some ⟨n2,0,none⟩)] X fun e w'=>e=.returned (.int .i64 (dS fl c s op tm bC 3))/\Below X.heap.size X w'):=ai fun X hX=>by
  unfold dS
  have hm:=apL X (aj hwU hX)
  rw[hR.out] at hm
  exact apm R.2.1 tm nf nb _ _ _ _ X en (ak hX i5) (ak hX en2) hm
 have kk4:Hid (∀X,Below U2.heap.size U2 X->Calls Tryz.prog 86 #[.pointer (some ⟨W5.heap.size,0,none⟩)] X fun e w'=>e=.returned (.int .i64 (dS fl c s op tm bC 4))/\Below X.heap.size X w'):=ai fun X hX=>by
  unfold dS
  exact apn bC _ _ X (ak hX i6)
 have MP:=ai hwU
 have i7h:=ai i7
 have ash:=ai P5
 clear i1 i2 i3 i5 i6 i7 ic g1 g2 g3 g4 g5 g6 g7 hc1 hc2 hc3 P5 en2 en3 hwU UR hb2
 go_wp2_with (fail)
 go_loopw [51] (fun i wr=>∃k:Nat,k<=5/\i=.int .i64 k/\Hid ((∀j,j<k->dS fl c s op tm bC j=0)/\Below U2.heap.size U2 wr)) (fun i _=>5 - (intOf i).toNat)
 case atStart=>exact⟨0,by omega,rfl,ai ⟨fun j h=>by omega,Below.refl _ _⟩⟩
 case round =>
  obtain⟨k,hk,rfl,hH⟩:=hrel
  by_cases hlt:k<5
  . have h5:k=0\/k=1\/k=2\/k=3\/k=4:=by omega
    clear hk hlt
    rcases h5 with rfl|rfl|rfl|rfl|rfl
    . obtain⟨q,hq⟩:=aG (dS fl c s op tm bC 0)
      rw[hq] at kk0
      cases hne:(q != 0)
      . have hq0:q=0:=by simpa using hne
        have hH':∀j,j<0+1->dS fl c s op tm bC j=0:=fun j hj=>by
         rcases Nat.lt_succ_iff_lt_or_eq.1 hj with h'|h'
         . exact hH.out.1 j h'
         . rw[h',hq,hq0]
        replace hH':=ai hH'
        clear hq hq0
        go_wp2_with ((with_reducible refine ax (kk0.out _ hH.out.2) ?_);rintro e w5 ⟨rfl,qH⟩;(have oK:=aj hH.out.2 qH);(have r7:=ai (ak oK i7h.out)))
        exact⟨⟨0+1,by omega,by go_num,ai ⟨hH'.out,oK⟩⟩,by simp[intOf]⟩
      . have hq0:q≠0:=by simpa using hne
        have hres:Hid (lF fl c s op tm bC=q):=ai (by rw[AB (k:=0) (by decide) hH.out.1 (by rw[hq];exact hq0),hq])
        replace hq:=ai hq
        replace hq0:=ai hq0
        go_wp2_with (first|((with_reducible refine ax (kk0.out _ hH.out.2) ?_);rintro e w5 ⟨rfl,qH⟩;(have oK:=aj hH.out.2 qH);(have r7:=ai (ak oK i7h.out)))|(refine wpList_store_row rfl 40 _ _ rfl W6.heap.size #[.int .i64 0,.int .i64 0,.int .i64 0,.int .i64 0,.int .i64 0,.int .i64 0,.int .i64 0,.int .i64 0] rfl rfl _ _ r7.out (by show _=some 8;kernel_rfl) rfl (by kernel_rfl) ?_))
        all_goals first
         | (exfalso;exact hq0.out (hres.out.symm.trans (by assumption)))
         | skip
        all_goals
         have hrr:=setRow_heap w5 W6.heap.size _ #[.int .i64 0,.int .i64 0,.int .i64 0,.int .i64 0,.int .i64 0,.int .i64 0,.int .i64 0,.int .i64 0] _ _ r7.out
         have hBz:Hid (Below w.heap.size w (w5.setRow W6.heap.size #[.int .i64 0,.int .i64 0,.int .i64 0,.int .i64 0,.int .i64 0,.int .i64 0,.int .i64 0,.int .i64 0])):=ai ((aj MP.out oK).trans (((lh #[.int .i64 0,.int .i64 0,.int .i64 0,.int .i64 0,.int .i64 0,.int .i64 0,.int .i64 0,.int .i64 0]).mono fun j _ (h:j<w.heap.size)=>by omega).below (B:=w.heap.size) (by have:=(aj MP.out oK).size;omega) fun j hj=>hj))
         obtain⟨m0,m1,m2,m3,m4,m5,m6,m7⟩:=TU hrr
         clear hrr
         exact bodyPost_ret (v:=.tuple #[G.jF G.st0,.int .i64 q]) (by simp[results,Tryz.results41,go_sem,m0,m1,m2,m3,m4,m5,m6,m7]) rfl ⟨by first|rfl|rw[hres.out]|rw[hres.out,if_neg hq0.out],hBz.out⟩
    . obtain⟨q,hq⟩:=aG (dS fl c s op tm bC 1)
      rw[hq] at kk1
      cases hne:(q != 0)
      . have hq0:q=0:=by simpa using hne
        have hH':∀j,j<1+1->dS fl c s op tm bC j=0:=fun j hj=>by
         rcases Nat.lt_succ_iff_lt_or_eq.1 hj with h'|h'
         . exact hH.out.1 j h'
         . rw[h',hq,hq0]
        replace hH':=ai hH'
        clear hq hq0
        go_wp2_with ((with_reducible refine ax (kk1.out _ hH.out.2) ?_);rintro e w5 ⟨rfl,qH⟩;(have oK:=aj hH.out.2 qH);(have r7:=ai (ak oK i7h.out)))
        exact⟨⟨1+1,by omega,by go_num,ai ⟨hH'.out,oK⟩⟩,by simp[intOf]⟩
      . have hq0:q≠0:=by simpa using hne
        have hres:Hid (lF fl c s op tm bC=q):=ai (by rw[AB (k:=1) (by decide) hH.out.1 (by rw[hq];exact hq0),hq])
        replace hq:=ai hq
        replace hq0:=ai hq0
        go_wp2_with (first|((with_reducible refine ax (kk1.out _ hH.out.2) ?_);rintro e w5 ⟨rfl,qH⟩;(have oK:=aj hH.out.2 qH);(have r7:=ai (ak oK i7h.out)))|(refine wpList_store_row rfl 40 _ _ rfl W6.heap.size #[.int .i64 0,.int .i64 0,.int .i64 0,.int .i64 0,.int .i64 0,.int .i64 0,.int .i64 0,.int .i64 0] rfl rfl _ _ r7.out (by show _=some 8;kernel_rfl) rfl (by kernel_rfl) ?_))
        all_goals first
         | (exfalso;exact hq0.out (hres.out.symm.trans (by assumption)))
         | skip
        all_goals
         have hrr:=setRow_heap w5 W6.heap.size _ #[.int .i64 0,.int .i64 0,.int .i64 0,.int .i64 0,.int .i64 0,.int .i64 0,.int .i64 0,.int .i64 0] _ _ r7.out
         have hBz:Hid (Below w.heap.size w (w5.setRow W6.heap.size #[.int .i64 0,.int .i64 0,.int .i64 0,.int .i64 0,.int .i64 0,.int .i64 0,.int .i64 0,.int .i64 0])):=ai ((aj MP.out oK).trans (((lh #[.int .i64 0,.int .i64 0,.int .i64 0,.int .i64 0,.int .i64 0,.int .i64 0,.int .i64 0,.int .i64 0]).mono fun j _ (h:j<w.heap.size)=>by omega).below (B:=w.heap.size) (by have:=(aj MP.out oK).size;omega) fun j hj=>hj))
         obtain⟨m0,m1,m2,m3,m4,m5,m6,m7⟩:=TU hrr
         clear hrr
         exact bodyPost_ret (v:=.tuple #[G.jF G.st0,.int .i64 q]) (by simp[results,Tryz.results41,go_sem,m0,m1,m2,m3,m4,m5,m6,m7]) rfl ⟨by first|rfl|rw[hres.out]|rw[hres.out,if_neg hq0.out],hBz.out⟩
    . obtain⟨q,hq⟩:=aG (dS fl c s op tm bC 2)
      rw[hq] at kk2
      cases hne:(q != 0)
      . have hq0:q=0:=by simpa using hne
        have hH':∀j,j<2+1->dS fl c s op tm bC j=0:=fun j hj=>by
         rcases Nat.lt_succ_iff_lt_or_eq.1 hj with h'|h'
         . exact hH.out.1 j h'
         . rw[h',hq,hq0]
        replace hH':=ai hH'
        clear hq hq0
        go_wp2_with ((with_reducible refine ax (kk2.out _ hH.out.2) ?_);rintro e w5 ⟨rfl,qH⟩;(have oK:=aj hH.out.2 qH);(have r7:=ai (ak oK i7h.out)))
        exact⟨⟨2+1,by omega,by go_num,ai ⟨hH'.out,oK⟩⟩,by simp[intOf]⟩
      . have hq0:q≠0:=by simpa using hne
        have hres:Hid (lF fl c s op tm bC=q):=ai (by rw[AB (k:=2) (by decide) hH.out.1 (by rw[hq];exact hq0),hq])
        replace hq:=ai hq
        replace hq0:=ai hq0
        go_wp2_with (first|((with_reducible refine ax (kk2.out _ hH.out.2) ?_);rintro e w5 ⟨rfl,qH⟩;(have oK:=aj hH.out.2 qH);(have r7:=ai (ak oK i7h.out)))|(refine wpList_store_row rfl 40 _ _ rfl W6.heap.size #[.int .i64 0,.int .i64 0,.int .i64 0,.int .i64 0,.int .i64 0,.int .i64 0,.int .i64 0,.int .i64 0] rfl rfl _ _ r7.out (by show _=some 8;kernel_rfl) rfl (by kernel_rfl) ?_))
        all_goals first
         | (exfalso;exact hq0.out (hres.out.symm.trans (by assumption)))
         | skip
        all_goals
         have hrr:=setRow_heap w5 W6.heap.size _ #[.int .i64 0,.int .i64 0,.int .i64 0,.int .i64 0,.int .i64 0,.int .i64 0,.int .i64 0,.int .i64 0] _ _ r7.out
         have hBz:Hid (Below w.heap.size w (w5.setRow W6.heap.size #[.int .i64 0,.int .i64 0,.int .i64 0,.int .i64 0,.int .i64 0,.int .i64 0,.int .i64 0,.int .i64 0])):=ai ((aj MP.out oK).trans (((lh #[.int .i64 0,.int .i64 0,.int .i64 0,.int .i64 0,.int .i64 0,.int .i64 0,.int .i64 0,.int .i64 0]).mono fun j _ (h:j<w.heap.size)=>by omega).below (B:=w.heap.size) (by have:=(aj MP.out oK).size;omega) fun j hj=>hj))
         obtain⟨m0,m1,m2,m3,m4,m5,m6,m7⟩:=TU hrr
         clear hrr
         exact bodyPost_ret (v:=.tuple #[G.jF G.st0,.int .i64 q]) (by simp[results,Tryz.results41,go_sem,m0,m1,m2,m3,m4,m5,m6,m7]) rfl ⟨by first|rfl|rw[hres.out]|rw[hres.out,if_neg hq0.out],hBz.out⟩
    . obtain⟨q,hq⟩:=aG (dS fl c s op tm bC 3)
      rw[hq] at kk3
      cases hne:(q != 0)
      . have hq0:q=0:=by simpa using hne
        have hH':∀j,j<3+1->dS fl c s op tm bC j=0:=fun j hj=>by
         rcases Nat.lt_succ_iff_lt_or_eq.1 hj with h'|h'
         . exact hH.out.1 j h'
         . rw[h',hq,hq0]
        replace hH':=ai hH'
        clear hq hq0
        go_wp2_with ((with_reducible refine ax (kk3.out _ hH.out.2) ?_);rintro e w5 ⟨rfl,qH⟩;(have oK:=aj hH.out.2 qH);(have r7:=ai (ak oK i7h.out)))
        exact⟨⟨3+1,by omega,by go_num,ai ⟨hH'.out,oK⟩⟩,by simp[intOf]⟩
      . have hq0:q≠0:=by simpa using hne
        have hres:Hid (lF fl c s op tm bC=q):=ai (by rw[AB (k:=3) (by decide) hH.out.1 (by rw[hq];exact hq0),hq])
        replace hq:=ai hq
        replace hq0:=ai hq0
        go_wp2_with (first|((with_reducible refine ax (kk3.out _ hH.out.2) ?_);rintro e w5 ⟨rfl,qH⟩;(have oK:=aj hH.out.2 qH);(have r7:=ai (ak oK i7h.out)))|(refine wpList_store_row rfl 40 _ _ rfl W6.heap.size #[.int .i64 0,.int .i64 0,.int .i64 0,.int .i64 0,.int .i64 0,.int .i64 0,.int .i64 0,.int .i64 0] rfl rfl _ _ r7.out (by show _=some 8;kernel_rfl) rfl (by kernel_rfl) ?_))
        all_goals first
         | (exfalso;exact hq0.out (hres.out.symm.trans (by assumption)))
         | skip
        all_goals
         have hrr:=setRow_heap w5 W6.heap.size _ #[.int .i64 0,.int .i64 0,.int .i64 0,.int .i64 0,.int .i64 0,.int .i64 0,.int .i64 0,.int .i64 0] _ _ r7.out
         have hBz:Hid (Below w.heap.size w (w5.setRow W6.heap.size #[.int .i64 0,.int .i64 0,.int .i64 0,.int .i64 0,.int .i64 0,.int .i64 0,.int .i64 0,.int .i64 0])):=ai ((aj MP.out oK).trans (((lh #[.int .i64 0,.int .i64 0,.int .i64 0,.int .i64 0,.int .i64 0,.int .i64 0,.int .i64 0,.int .i64 0]).mono fun j _ (h:j<w.heap.size)=>by omega).below (B:=w.heap.size) (by have:=(aj MP.out oK).size;omega) fun j hj=>hj))
         obtain⟨m0,m1,m2,m3,m4,m5,m6,m7⟩:=TU hrr
         clear hrr
         exact bodyPost_ret (v:=.tuple #[G.jF G.st0,.int .i64 q]) (by simp[results,Tryz.results41,go_sem,m0,m1,m2,m3,m4,m5,m6,m7]) rfl ⟨by first|rfl|rw[hres.out]|rw[hres.out,if_neg hq0.out],hBz.out⟩
    . obtain⟨q,hq⟩:=aG (dS fl c s op tm bC 4)
      rw[hq] at kk4
      cases hne:(q != 0)
      . have hq0:q=0:=by simpa using hne
        have hH':∀j,j<4+1->dS fl c s op tm bC j=0:=fun j hj=>by
         rcases Nat.lt_succ_iff_lt_or_eq.1 hj with h'|h'
         . exact hH.out.1 j h'
         . rw[h',hq,hq0]
        replace hH':=ai hH'
        clear hq hq0
        go_wp2_with ((with_reducible refine ax (kk4.out _ hH.out.2) ?_);rintro e w5 ⟨rfl,qH⟩;(have oK:=aj hH.out.2 qH);(have r7:=ai (ak oK i7h.out)))
        exact⟨⟨4+1,by omega,by go_num,ai ⟨hH'.out,oK⟩⟩,by simp[intOf]⟩
      . have hq0:q≠0:=by simpa using hne
        have hres:Hid (lF fl c s op tm bC=q):=ai (by rw[AB (k:=4) (by decide) hH.out.1 (by rw[hq];exact hq0),hq])
        replace hq:=ai hq
        replace hq0:=ai hq0
        go_wp2_with (first|((with_reducible refine ax (kk4.out _ hH.out.2) ?_);rintro e w5 ⟨rfl,qH⟩;(have oK:=aj hH.out.2 qH);(have r7:=ai (ak oK i7h.out)))|(refine wpList_store_row rfl 40 _ _ rfl W6.heap.size #[.int .i64 0,.int .i64 0,.int .i64 0,.int .i64 0,.int .i64 0,.int .i64 0,.int .i64 0,.int .i64 0] rfl rfl _ _ r7.out (by show _=some 8;kernel_rfl) rfl (by kernel_rfl) ?_))
        all_goals first
         | (exfalso;exact hq0.out (hres.out.symm.trans (by assumption)))
         | skip
        all_goals
         have hrr:=setRow_heap w5 W6.heap.size _ #[.int .i64 0,.int .i64 0,.int .i64 0,.int .i64 0,.int .i64 0,.int .i64 0,.int .i64 0,.int .i64 0] _ _ r7.out
         have hBz:Hid (Below w.heap.size w (w5.setRow W6.heap.size #[.int .i64 0,.int .i64 0,.int .i64 0,.int .i64 0,.int .i64 0,.int .i64 0,.int .i64 0,.int .i64 0])):=ai ((aj MP.out oK).trans (((lh #[.int .i64 0,.int .i64 0,.int .i64 0,.int .i64 0,.int .i64 0,.int .i64 0,.int .i64 0,.int .i64 0]).mono fun j _ (h:j<w.heap.size)=>by omega).below (B:=w.heap.size) (by have:=(aj MP.out oK).size;omega) fun j hj=>hj))
         obtain⟨m0,m1,m2,m3,m4,m5,m6,m7⟩:=TU hrr
         clear hrr
         exact bodyPost_ret (v:=.tuple #[G.jF G.st0,.int .i64 q]) (by simp[results,Tryz.results41,go_sem,m0,m1,m2,m3,m4,m5,m6,m7]) rfl ⟨by first|rfl|rw[hres.out]|rw[hres.out,if_neg hq0.out],hBz.out⟩
  . obtain rfl:k=5:=by omega
    have hres:Hid (lF fl c s op tm bC=0):=ai (afE hH.out.1)
    have oK:=hH.out.2
    have r7:=ai (ak oK i7h.out)
    have rn:=ai (ak oK ash.out)
    have hrr:=setRow_heap wr W6.heap.size _ #[.int .i64 R.1.dB,.int .i64 R.1.dK,.int .i64 R.1.di,.int .i64 R.1.dE,.int .i64 R.1.gK,.int .i64 R.1.gJ,.int .i64 R.1.wlo,.int .i64 R.1.whi] _ _ r7.out
    have hBz:Hid (Below w.heap.size w (wr.setRow W6.heap.size #[.int .i64 R.1.dB,.int .i64 R.1.dK,.int .i64 R.1.di,.int .i64 R.1.dE,.int .i64 R.1.gK,.int .i64 R.1.gJ,.int .i64 R.1.wlo,.int .i64 R.1.whi])):=ai ((aj MP.out oK).trans (((lh #[.int .i64 R.1.dB,.int .i64 R.1.dK,.int .i64 R.1.di,.int .i64 R.1.dE,.int .i64 R.1.gK,.int .i64 R.1.gJ,.int .i64 R.1.wlo,.int .i64 R.1.whi]).mono fun j _ (h:j<w.heap.size)=>by omega).below (B:=w.heap.size) (by have:=(aj MP.out oK).size;omega) fun j hj=>hj))
    obtain⟨m0,m1,m2,m3,m4,m5,m6,m7⟩:=TU hrr
    clear hrr
    go_wp2_with (first|(refine wpList_load_row rfl 40 _ rfl n1 rfl _ _ (0,0) _ rn.out Tryz.underlying40 rfl (by show _=some 8;kernel_rfl) ?_)|(refine wpList_store_row rfl 40 _ _ rfl W6.heap.size #[.int .i64 R.1.dB,.int .i64 R.1.dK,.int .i64 R.1.di,.int .i64 R.1.dE,.int .i64 R.1.gK,.int .i64 R.1.gJ,.int .i64 R.1.wlo,.int .i64 R.1.whi] rfl rfl _ _ r7.out (by show _=some 8;kernel_rfl) rfl (by kernel_rfl) ?_))
    all_goals first
     | (exfalso;exact absurd hres.out (by assumption))
     | skip
    all_goals exact bodyPost_ret (v:=.tuple #[G.jF R.1,.int .i64 0]) (by simp[results,Tryz.results41,go_sem,m0,m1,m2,m3,m4,m5,m6,m7]) rfl ⟨by first|rfl|rw[hres.out,if_pos rfl],hBz.out⟩
end Go.Proofs.YtkjdidieiioijaaGreat.B
namespace bz
theorem Z9 {l:List Op}{a b:List Int}(h:a.length≠l.length):lq l a b=false:=by simp[lq,h]
theorem Z_ {l:List Op}{a b:List Int}(h:b.length≠l.length):lq l a b=false:=by simp[lq,h]
def trueAt (l:List Op)(a b:List Int)(k:Nat):Bool:=inB (at0 a k) (iF l k).lY (iF l k).lX && inB (at0 b k) (iF l k).wlo (iF l k).whi
theorem JS {l:List Op}{a b:List Int} : lq l a b=true↔a.length=l.length/\b.length=l.length/\∀k,k<l.length->trueAt l a b k=true:=by
 simp[lq,trueAt,and_assoc]
theorem Ri {l:List Op}{a b:List Int}{k:Nat}(hk:k<l.length)(h:trueAt l a b k=false):lq l a b=false:=by
 cases hb:lq l a b
 . rfl
 . rw[(JS.1 hb).2.2 k hk] at h;cases h
end bz
namespace Go.Proofs.YtkjdidieiioijaaGreat.G
open Go.RowKit Go.Sd bz
theorem iM.lit {b t:Bool}{w w':World}{e:Ending}(h:iM b w e w')(hb:b=t):e=.returned (.bool t)/\w=w':=by
 obtain⟨t',rfl,ht,hB⟩:=h
 exact⟨by rw[<- hb,<- ht.out],hB⟩
theorem adP (lv av bv:Value)(xs:List bz.Op)(xa xb:List Int)(w:World)(hx:GH w lv xs)(ha:bK w av xa)(hb:bK w bv xb) :
    Calls Tryz.prog 29 #[lv,av,bv] w fun e w'=>e=.returned (.bool (lq xs xa xb))/\Below w.heap.size w w':=by
 obtain⟨a,cap,rfl,hm,hc⟩:=hx
 obtain⟨a1,cap1,rfl,hm1,hc1⟩:=ha
 obtain⟨a2,cap2,rfl,hm2,hc2⟩:=hb
 unfold maxLen at hm hm1 hm2
 have hm':xs.length<=9223372036854775807:=by omega
 have as6:xa.length<=9223372036854775807:=by omega
 have as7:xb.length<=9223372036854775807:=by omega
 have hcW:=ai hc;have hcA:=ai hc1;have hcB:=ai hc2
 clear hc hc1 hc2
 obtain⟨r,hr⟩:=aG (lq xs xa xb)
 rw[hr]
 replace hr:=ai hr
 by_cases hl1:xa.length=xs.length
 case neg =>
  have hres:Hid (lq xs xa xb=false):=ai (Z9 hl1)
  have hd:¬ (xa.length:Int)=(xs.length:Int):=by omega
  replace hl1:=ai hl1
  go_enter Tryz.func29,Tryz.ntmps29
  go_wp2
  go_ret
  exact⟨by rw[<- hr.out,hres.out];rfl,Below.refl _ _⟩
 have hd:(xa.length:Int)=(xs.length:Int):=by omega
 by_cases hl2:xb.length=xs.length
 case neg =>
  have hres:Hid (lq xs xa xb=false):=ai (Z_ hl2)
  have hd2:¬ (xb.length:Int)=(xs.length:Int):=by omega
  replace hl1:=ai hl1
  replace hl2:=ai hl2
  go_enter Tryz.func29,Tryz.ntmps29
  go_wp2
  go_ret
  exact⟨by rw[<- hr.out,hres.out];rfl,Below.refl _ _⟩
 have hd2:(xb.length:Int)=(xs.length:Int):=by omega
 go_enter Tryz.func29,Tryz.ntmps29
 go_wp2
 go_loopw [23] (fun i wr=>∃g:Grow w,wr=g.x/\∃k:Nat,k<=xs.length/\i=.int .i64 k/\Hid (∀j,j<k->trueAt xs xa xb j=true)) (fun i _=>xs.length - (intOf i).toNat)
 case atStart=>exact⟨Grow.self w,rfl,0,Nat.zero_le _,rfl,fun j hj=>absurd hj (by omega)⟩
 case round =>
  obtain⟨g,rfl,k,hk,rfl,hH⟩:=hrel
  by_cases hlt:k<xs.length
  . obtain⟨b,off,rfl,hb,hcell⟩:=hcW.out (by omega)
    obtain⟨b1,Vh,rfl,hb1,hcell1⟩:=hcA.out (by omega)
    obtain⟨b2,Vj,rfl,hb2,hcell2⟩:=hcB.out (by omega)
    obtain⟨c0,c1,c2,c3,c4,c5,c6,c7,c8,c9⟩:=(hcell k hlt).mono g.h
    have d1:=ae g.h (hcell1 k (by omega))
    have d2:=ae g.h (hcell2 k (by omega))
    clear hcell hcell1 hcell2
    have hki:(k:Int)<(xs.length:Int):=by omega
    have hka:(k:Int)<(xa.length:Int):=by omega
    have hkb:(k:Int)<(xb.length:Int):=by omega
    have hta:Hid (trueAt xs xa xb k=(inB (at0 xa k) (iF xs k).lY (iF xs k).lX && inB (at0 xb k) (iF xs k).wlo (iF xs k).whi)):=ai rfl
    obtain⟨x,hxe⟩:=aG (iF xs k)
    simp only[hxe] at c0 c1 c2 c3 c4 c5 c6 c7 c8 c9 hta
    obtain⟨u,hue⟩:=aG (at0 xa k)
    obtain⟨v,Xq⟩:=aG (at0 xb k)
    simp only[hue] at d1 hta
    simp only[Xq] at d2 hta
    clear hue Xq hxe
    obtain⟨V,hV⟩:=aG (g.x.alloc (.cells #[.int .i64 x.kind,.int .i64 x.lg,.int .i64 x.ly,.int .i64 x.lt,.int .i64 x.lw,.int .i64 x.ay,.int .i64 x.lY,.int .i64 x.lX,.int .i64 x.wlo,.int .i64 x.whi] 43))
    obtain⟨e2,bV,s2⟩:=boxed hV
    obtain⟨z2,r2,-⟩:=ah e2
    have q0:=r2 0
    have q1:=r2 1
    have q2:=r2 2
    have q3:=r2 3
    have q4:=r2 4
    have q5:=r2 5
    have q6:=r2 6
    have q7:=r2 7
    have q8:=r2 8
    have q9:=r2 9
    simp only[List.getElem?_toArray,List.getElem?_cons_zero,List.getElem?_cons_succ] at q0 q1 q2 q3 q4 q5 q6 q7 q8 q9
    have y1:=ae bV d1
    have y2:=ae bV d2
    clear r2 e2 s2
    have F9:Below w.heap.size w V:=g.h.trans (bV.mono g.size)
    have zb1:=World.block_lt_of_cell? _ ⟨b1,_,none⟩ y1
    have zb2:=World.block_lt_of_cell? _ ⟨b2,_,none⟩ y2
    simp only at zb1 zb2
    have hgc:=az V
    cases h1:inB u x.lY x.lX
    . have k1:=ai (fun w=>(jv u x.lY x.lX w).mono fun e w' hb=>iM.lit hb h1)
      have hres:Hid (lq xs xa xb=false):=ai (Ri hlt (by rw[hta.out,h1];rfl))
      clear h1
      go_wp2
      refine aH (by kernel_rfl) (by kernel_rfl) ?_
      repeat (go_big_quiet_step ((first|(go_at_call 73;with_reducible exact Calls.nM (k1.out _)))))
      refine wpQuiet_nil ?_
      rintro _ ⟨g,rfl⟩
      go_wp2
      go_ret
      exact⟨by rw[<- hr.out,hres.out];rfl,F9.trans (g.h.mono F9.size)⟩
    . have k1:=ai (fun w=>(jv u x.lY x.lX w).mono fun e w' hb=>iM.lit hb h1)
      cases h2:inB v x.wlo x.whi
      . have k2:=ai (fun w=>(jv v x.wlo x.whi w).mono fun e w' hb=>iM.lit hb h2)
        have hres:Hid (lq xs xa xb=false):=ai (Ri hlt (by rw[hta.out,h1,h2];rfl))
        clear h1 h2
        go_wp2
        refine aH (by kernel_rfl) (by kernel_rfl) ?_
        repeat (go_big_quiet_step ((first|(go_at_call 73;with_reducible exact Calls.nM (k1.out _))|(go_at_call 73;with_reducible exact Calls.nM (k2.out _)))))
        refine wpQuiet_nil ?_
        rintro _ ⟨g,rfl⟩
        go_wp2
        go_ret
        exact⟨by rw[<- hr.out,hres.out];rfl,F9.trans (g.h.mono F9.size)⟩
      . have k2:=ai (fun w=>(jv v x.wlo x.whi w).mono fun e w' hb=>iM.lit hb h2)
        replace hH:Hid (∀j,j<k+1->trueAt xs xa xb j=true):=ai (fun j hj=>by
         by_cases e:j=k
         . rw[e,hta.out,h1,h2];rfl
         . exact hH.out j (by omega))
        clear h1 h2
        go_wp2
        refine aH (by kernel_rfl) (by kernel_rfl) ?_
        repeat (go_big_quiet_step ((first|(go_at_call 73;with_reducible exact Calls.nM (k1.out _))|(go_at_call 73;with_reducible exact Calls.nM (k2.out _)))))
        refine wpQuiet_nil ?_
        rintro _ ⟨g,rfl⟩
        go_wp2
        obtain⟨g3,hg3⟩:∃g3:Grow w,g.x=g3.x:=⟨⟨g.x,F9.trans (g.h.mono F9.size)⟩,rfl⟩
        exact⟨⟨g3,hg3,k+1,by omega,by go_num,hH⟩,by simp[intOf];omega⟩
  . obtain rfl:k=xs.length:=by omega
    have hres:Hid (lq xs xa xb=true):=ai (JS.2 ⟨hl1,hl2,hH.out⟩)
    go_wp2
    go_ret
    exact⟨by rw[<- hr.out,hres.out];rfl,g.h⟩
