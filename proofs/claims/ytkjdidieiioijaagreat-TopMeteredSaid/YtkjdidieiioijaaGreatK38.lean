/- Walks. -/
import Derived.Test.YtkjdidieiioijaaGreatK33
set_option linter.all false
set_option maxRecDepth 100000
set_option maxHeartbeats 16000000
namespace Go.Proofs.YtkjdidieiioijaaGreat.B
open Go.RowKit Go.Sd Wl Bk L Tr Dk
attribute [local go_sem] Oper.semAt_some
theorem aok {w:World}{n:Nat}{a0 a1 a2 a3 a4 a5 a6 a7 a8 a9 a10 a11 a12 a13:Value}{e:TypeId}(h:w.heap[n]? = some (.cells #[a0,a1,a2,a3,a4,a5,a6,a7,a8,a9,a10,a11,a12,a13] e (0,0))):w.cell? ⟨n,0,none⟩=some a0/\w.cell? ⟨n,1,none⟩=some a1/\w.cell? ⟨n,2,none⟩=some a2/\w.cell? ⟨n,3,none⟩=some a3/\w.cell? ⟨n,4,none⟩=some a4/\w.cell? ⟨n,5,none⟩=some a5/\w.cell? ⟨n,6,none⟩=some a6/\w.cell? ⟨n,7,none⟩=some a7/\w.cell? ⟨n,8,none⟩=some a8/\w.cell? ⟨n,9,none⟩=some a9/\w.cell? ⟨n,10,none⟩=some a10/\w.cell? ⟨n,11,none⟩=some a11/\w.cell? ⟨n,12,none⟩=some a12/\w.cell? ⟨n,13,none⟩=some a13:=by
 have r:=(ah h).2.1
 exact⟨r 0,r 1,r 2,r 3,r 4,r 5,r 6,r 7,r 8,r 9,r 10,r 11,r 12,r 13⟩
theorem aoj {w:World}{n:Nat}{a0 a1 a2 a3 a4 a5 a6 a7 a8 a9 a10 a11 a12:Value}{e:TypeId}(h:w.heap[n]? = some (.cells #[a0,a1,a2,a3,a4,a5,a6,a7,a8,a9,a10,a11,a12] e (0,0))):w.cell? ⟨n,0,none⟩=some a0/\w.cell? ⟨n,1,none⟩=some a1/\w.cell? ⟨n,2,none⟩=some a2/\w.cell? ⟨n,3,none⟩=some a3/\w.cell? ⟨n,4,none⟩=some a4/\w.cell? ⟨n,5,none⟩=some a5/\w.cell? ⟨n,6,none⟩=some a6/\w.cell? ⟨n,7,none⟩=some a7/\w.cell? ⟨n,8,none⟩=some a8/\w.cell? ⟨n,9,none⟩=some a9/\w.cell? ⟨n,10,none⟩=some a10/\w.cell? ⟨n,11,none⟩=some a11/\w.cell? ⟨n,12,none⟩=some a12:=by
 have r:=(ah h).2.1
 exact⟨r 0,r 1,r 2,r 3,r 4,r 5,r 6,r 7,r 8,r 9,r 10,r 11,r 12⟩
theorem jq {P:Program}{md:Region.Mode}{ops:Array Oper}{Q:Exit->Act->World->Prop}{f:Nat}{listed:Array Bool}{a:Act}{w:World}{i:Nat}{o:Oper}(ho:ops[i]? = some o)(hr:Region.ready md ops listed=[i])
    (h:∀K':Act->World->Prop,Shut (∀a w,wpAny P md ops Q f (listed.setIfInBounds i true) a w->K' a w)->if Region.wanted o (yielded ops a.tmps)=true then Oper.wp P o a w K' Q else K' (a.put o.dst undef) w):wpAny P md ops Q (f+1) listed a w :=
 wpAny_all hr (by simp) fun k hk=>by
  obtain rfl:k=i:=by simpa using hk
  exact wpOp_step ho fun K' hK=>h K' hK
theorem F6 {P:Program}{md:Region.Mode}{ops:Array Oper}{Q:Exit->Act->World->Prop}{f:Nat}{listed:Array Bool}{a:Act}{w:World}{i j:Nat}{o u:Oper}(ho:ops[i]? = some o)(hu:ops[j]? = some u)(hr:Region.ready md ops listed=[i,j])
    (h:∀K':Act->World->Prop,Shut (∀a w,wpAny P md ops Q f (listed.setIfInBounds i true) a w->K' a w)->if Region.wanted o (yielded ops a.tmps)=true then Oper.wp P o a w K' Q else K' (a.put o.dst undef) w)
    (h2:∀K':Act->World->Prop,Shut (∀a w,wpAny P md ops Q f (listed.setIfInBounds j true) a w->K' a w)->if Region.wanted u (yielded ops a.tmps)=true then Oper.wp P u a w K' Q else K' (a.put u.dst undef) w):wpAny P md ops Q (f+1) listed a w :=
 wpAny_all hr (by simp) fun k hk=>by
  rcases(by simpa using hk:k=i\/k=j) with rfl|rfl
  . exact wpOp_step ho fun K' hK=>h K' hK
  . exact wpOp_step hu fun K' hK=>h2 K' hK
theorem ae9 {B d:Nat}{r:ND}{ds:List DC}{rs:List Rm}(w:World)(h:ed B d r ds rs w)(h0:0<rs.length)(c:bz.d_)(hcc:(aQ ds 0).c=c)(s:bz.St)(hss:(ny rs 0).s=s)(we:We)(hwe:(ny rs 0).we=we)(ok:we.Ok)(hl:2<=(aQ ds 0).line/\(aQ ds 0).line<=we.aS - 1)(hb:0<=(aQ ds 0).m.begin/\(aQ ds 0).m.begin<(aQ ds 0).m.opn.length)(h8:(aQ ds 0).m.opn.length<=8)(hlong:2<=r.k.long/\r.k.long<=24)(apG:0<=r.k.day/\r.k.day<=1000) :
    Calls Tryz.prog 10 #[.pointer (some ⟨d,0,none⟩),.int .i64 0] w fun e w'=>∃(a b:Int) (f:Bool) (st ag op:Int),e=.returned (.tuple #[.agg #[.int .i64 s.dB,.int .i64 s.dK,.int .i64 s.di,.int .i64 s.dE,.int .i64 s.gK,.int .i64 s.gJ,.int .i64 s.wlo,.int .i64 s.whi,.int .i64 a,.int .i64 b,.bool f,.int .i64 st,.int .i64 ag,.int .i64 op],.int .i64 0])/\Below w.heap.size w w':=by
 obtain⟨W,hW⟩:=aG (w.alloc (.cells #[.int .i64 0,.int .i64 0,.int .i64 0,.int .i64 0,.int .i64 0,.int .i64 0,.int .i64 0,.int .i64 0,.int .i64 0,.int .i64 0,.bool false,.int .i64 0,.int .i64 0,.int .i64 0] 66))
 obtain⟨e1,b1,z1⟩:=boxedB hW
 have hD:=h.mono b1
 obtain⟨g,cap,hr,-,hgl,-,hc⟩:=CE hD h0
 obtain⟨vb,voff,aed,hvv,hvl,q0',q1',q2',q3',q4',q5',q6',q7',q8',q9',aqw⟩:=Su hD.dcs.now.els (by have:=h.Yf;omega) hcc
 obtain⟨pa,pn,pc,hpv⟩:∃a n c,(ny rs 0).pv=.slice a n c:=by obtain⟨a,c,he,-⟩:=(hD.parts 0 h0).now;exact⟨a,_,c,he⟩
 obtain⟨tb,htb⟩:=aG ((ny rs 0).tb)
 obtain⟨cm,hcm⟩:=aG ((ny rs 0).came)
 have kN:=ai (WB W hD)
 have kK:=SA 0 W hD
 have hk0:inB 0 0 ((rs.length:Int) - 1)=true:=by simp[inB];omega
 rw[hk0] at kK
 replace kK:=ai kK
 have hrc:∀i u,(#[.int .i64 s.dB,.int .i64 s.dK,.int .i64 s.di,.int .i64 s.dE,.int .i64 s.gK,.int .i64 s.gJ,.int .i64 s.wlo,.int .i64 s.whi,.int .i64 we.aS,.int .i64 we.need,.slice pa pn pc,.pointer (some ⟨tb,0,none⟩),.int .i64 cm]:Array Value)[i]? = some u->W.cell? ⟨g,0+i,none⟩=some u:=by
  intro i u hu
  have h1:=hc i u (by rw[<- hss,<- hwe,<- hpv,<- htb,<- hcm] at hu;simpa using hu)
  rw[Nat.zero_mul] at h1
  exact h1
 replace hrc:=ai hrc
 have VU:W.cell? ⟨d,10,none⟩=some r.rv:=(ah hD.row).2.1 10
 have y6:W.cell? ⟨d,6,none⟩=some r.vv:=(ah hD.row).2.1 6
 have zd:=(aF hD.row)
 rw[hr] at VU
 rw[hvv] at y6
 obtain⟨dn,hdn⟩:=aG (ds.length)
 rw[hdn] at y6
 have hdl:(0:Int)<(dn:Int):=by have:=h.Yf;omega
 have hd0:0<dn:=by omega
 have hli:(0:Int)<(rs.length:Int):=by omega
 obtain⟨W2,hW2⟩:=aG (W.alloc (.cells #[.int .i64 s.dB,.int .i64 s.dK,.int .i64 s.di,.int .i64 s.dE,.int .i64 s.gK,.int .i64 s.gJ,.int .i64 s.wlo,.int .i64 s.whi,.int .i64 we.aS,.int .i64 we.need,.slice pa pn pc,.pointer (some ⟨tb,0,none⟩),.int .i64 cm] 131))
 obtain⟨e2,b2,z2⟩:=boxedB hW2
 have hb2:=aj b1 b2
 have hD2:=h.mono hb2
 have kF:Hid (∀X,Below W2.heap.size W2 X->Calls Tryz.prog 43 #[.pointer (some ⟨d,0,none⟩),.int .i64 0] X fun e w'=>e=.returned (.bool (oQ we (aQ ds 0).line))/\Below X.heap.size X w'):=ai fun X hX=>JX X (hD2.mono hX) h0 we hwe ok hl
 have kS0:=ai fun X=>JQ c s X
 have kD0:Hid (∀X,Below W2.heap.size W2 X->Calls Tryz.prog 45 #[.pointer (some ⟨d,0,none⟩)] X fun e w'=>e=.returned (.int .i64 r.k.day)/\Below X.heap.size X w'):=ai fun X hX=>ae5 X (hD2.mono hX) hlong apG
 have kN0:Hid (∀X,Below W2.heap.size W2 X->Calls Tryz.prog 15 #[weV (.slice pa pn pc) we,.int .i64 r.k.day] X (PL we r.k.day X)):=ai fun X hX=>QE we (.slice pa pn pc) r.k.day X (by have h1:=((hD2.mono hX).parts 0 h0).now;rw[hpv,hwe] at h1;exact h1)
 have kT0:Hid (∀X,Below W2.heap.size W2 X->Calls Tryz.prog 46 #[.pointer (some ⟨tb,0,none⟩)] X fun e w'=>e=.returned (.tuple #[.int .i64 (aQ ds 0).m.begin,.int .i64 0,.int .i64 (Lk.at0 (aQ ds 0).m.opn (aQ ds 0).m.begin.toNat),.int .i64 0])/\Below X.heap.size X w'):=ai fun X hX=>Ud X (by have h1:=(hD2.mono hX).stops 0 h0;rw[htb] at h1;exact h1) hb h8
 have y6':=ae b2 y6
 obtain⟨a0,a1,a2,a3,a4,a5,a6,a7,a8,a9,a10,a11,a12⟩:=aoj e2
 have zn6:=(aF e2)
 have e1':=ak b2 e1
 obtain⟨fl,hfl⟩:=aG (oQ we (aQ ds 0).line)
 rw[hfl] at kF
 obtain⟨tst,apT⟩:=aG ((aQ ds 0).m.begin)
 obtain⟨top,htop⟩:=aG (Lk.at0 (aQ ds 0).m.opn (aQ ds 0).m.begin.toNat)
 rw[htop,apT] at kT0
 have apC:=ai hb2
 have b2h:=ai b2
 have e1h:=ai e1'
 have e2h:=ai e2
 have hzw:Hid (w.heap.size<W2.heap.size/\W.heap.size<W2.heap.size):=ai ⟨(aF e1'),zn6⟩
 have zd2:d<W2.heap.size:=bM zd b2.size
 have zv2:vb<W2.heap.size:=bM hvl b2.size
 clear h hD hD2 hdn hc hr hvv hpv htb hcm hk0 hss hwe hcc ok hl hb h8 hlong apG e1 e1' e2 b1 b2 hb2 hfl apT htop hgl
 go_enter Tryz.func10,Tryz.ntmps10
 go_wp2_with (first|(refine dX rfl 131 _ rfl g 0 rfl #[.int .i64 s.dB,.int .i64 s.dK,.int .i64 s.di,.int .i64 s.dE,.int .i64 s.gK,.int .i64 s.gJ,.int .i64 s.wlo,.int .i64 s.whi,.int .i64 we.aS,.int .i64 we.need,.slice pa pn pc,.pointer (some ⟨tb,0,none⟩),.int .i64 cm] _ Tryz.underlying131 rfl (by show _=some 13;kernel_rfl) hrc.out ?_)|(refine fA rfl 131 _ _ rfl rfl rfl #[.int .i64 s.dB,.int .i64 s.dK,.int .i64 s.di,.int .i64 s.dE,.int .i64 s.gK,.int .i64 s.gJ,.int .i64 s.wlo,.int .i64 s.whi,.int .i64 we.aS,.int .i64 we.need,.slice pa pn pc,.pointer (some ⟨tb,0,none⟩),.int .i64 cm] rfl _ _ (by show _=some 13;kernel_rfl) rfl (by rfl) ?_)|(go_at_call 35;(with_reducible refine ax kN.out ?_);rintro e w9 ⟨rfl,rfl⟩)|(go_at_call 37;(with_reducible refine ax kK.out ?_);rintro e w9 ⟨rfl,rfl⟩))
 refine iy h_ (va:=[⟨6,7,66,#[.int .i64 0,.int .i64 0,.int .i64 0,.int .i64 0,.int .i64 0,.int .i64 0,.int .i64 0,.int .i64 0,.int .i64 0,.int .i64 0,.bool false,.int .i64 0,.int .i64 0,.int .i64 0],7,.tmp 28⟩]) (by kernel_rfl) (by kernel_rfl) ?_ ?_ (by simp) (fun T f hT hf hcl=>?_)
 . intro p hp w
   simp only[List.mem_cons,List.not_mem_nil,or_false] at hp
   rcases hp with rfl <;> go_simp
 . intro p hp
   simp only[List.mem_cons,List.not_mem_nil,or_false] at hp
   rcases hp with rfl <;> kernel_rfl
 have hg:∀(g:T) (b o:Nat),b<W2.heap.size->(f g).cell? ⟨b,o,none⟩=W2.cell? ⟨b,o,none⟩:=fun g=>dR (hf g)
 simp only[fM,List.zipIdx_cons,List.zipIdx_nil,List.map_cons,List.map_nil,fG,List.any_cons,List.any_nil,Nat.reduceAdd,Nat.reduceBEq,Bool.or_false,Bool.false_or,Bool.or_self,Bool.false_eq_true,if_false,if_true,Nat.zero_add,BEq.rfl,Bool.or_true,Bool.true_or]
 simp only[Go.Sd.blank]
 repeat (go_big_quiet_step ((first|(go_at_call 43;(with_reducible refine ax (kF.out _ (hf _)) ?_);rintro e w1 ⟨rfl,hb1⟩;exact⟨rfl,hcl _ _ hb1⟩))))
 refine wpQuiet_nil ?_
 refine⟨?_,?_⟩
 . intro p hp
   simp only[List.mem_cons,List.not_mem_nil,or_false] at hp
   rcases hp with rfl <;> (constructor <;> simp[go_sem,Value.cells,Value.oneCell'])
 intro ns w' hB hv
 have hvb:=hv.2.2
 obtain⟨n1,rfl,hn1,hl1,hc1,hf1⟩:=qA hv
 have P5:=(hvb 0 _ n1 rfl rfl).2
 simp[go_sem,Value.cells] at P5
 clear hvb
 clear hv hf hcl hg
 simp only[iQ,Act.put,List.setIfInBounds_toArray,List.set_cons_zero,List.set_cons_succ]
 simp[go_sem] at hc1
 obtain⟨U,rfl⟩:∃U1,U1=w':=⟨_,rfl⟩
 obtain⟨n7,rfl⟩:∃x,x=n1:=⟨_,rfl⟩
 have UR:=aj b2h.out hB
 have q0:=ae UR q0'
 have q1:=ae UR q1'
 have q2:=ae UR q2'
 have q3:=ae UR q3'
 have q4:=ae UR q4'
 have q5:=ae UR q5'
 have q6:=ae UR q6'
 have q7:=ae UR q7'
 have q8:=ae UR q8'
 have q9:=ae UR q9'
 have q10:=ae UR aqw
 have y6:=ae hB y6'
 replace a0:=ae hB a0
 replace a1:=ae hB a1
 replace a2:=ae hB a2
 replace a3:=ae hB a3
 replace a4:=ae hB a4
 replace a5:=ae hB a5
 replace a6:=ae hB a6
 replace a7:=ae hB a7
 replace a8:=ae hB a8
 replace a9:=ae hB a9
 replace a10:=ae hB a10
 replace a11:=ae hB a11
 replace a12:=ae hB a12
 have zdU:d<U.heap.size:=bM zd2 hB.size
 have zvU:vb<U.heap.size:=bM zv2 hB.size
 have zeU:W.heap.size<U.heap.size:=bM hzw.out.2 hB.size
 have h67:W.heap.size≠n7:=by have:=hzw.out.2;omega
 have e1U:=ai (ak hB e1h.out)
 have h0U:=ai (aj apC.out hB)
 have kS:Hid (∀X,Calls Tryz.prog 44 #[G.gm c,G.jF s] X fun e w'=>e=.returned (.tuple #[.int .i64 (uz c s).1,.int .i64 (uz c s).2])/\Below X.heap.size X w'):=kS0
 obtain⟨ra,hra⟩:=aG ((uz c s).1)
 obtain⟨re,hre⟩:=aG ((uz c s).2)
 rw[hra,hre] at kS
 clear hra hre kS0 hc1 q0' q1' q2' q3' q4' q5' q6' q7' q8' q9' aqw y6'
 go_wp2_with (fail)
 obtain⟨Y0,hY0⟩:=aG (U.drew)
 have aU:Below U.heap.size U Y0:=by rw[<- hY0];exact(Below.refl _ _).drew
 refine wp_region_noPanic ?_
 refine wp_region_any (by kernel_rfl) ?_
 show wpAny _ _ _ _ (0+1+1+1+1+1+1+1+1+1+1+1+1+1+1+1+1+1) #[false,false,false,false,false,false,false,false,false,false,false,false,false,false,false,false,false] _ U.drew
 rw[hY0]
 have ya0:=ae aU a0
 have ya1:=ae aU a1
 have ya2:=ae aU a2
 have ya3:=ae aU a3
 have ya4:=ae aU a4
 have ya5:=ae aU a5
 have ya6:=ae aU a6
 have ya7:=ae aU a7
 have yq0:=ae aU q0
 have yq1:=ae aU q1
 have yq2:=ae aU q2
 have yq3:=ae aU q3
 have yq4:=ae aU q4
 have yq5:=ae aU q5
 have yq6:=ae aU q6
 have yq7:=ae aU q7
 have yq8:=ae aU q8
 have yq9:=ae aU q9
 have aw':=ae aU q10
 have yy6:=ae aU y6
 have zyd:d<Y0.heap.size:=bM zdU aU.size
 have zyv:vb<Y0.heap.size:=bM zvU aU.size
 have zye:W.heap.size<Y0.heap.size:=bM zeU aU.size
 refine JR 0 (.pointer (some ⟨d,0,none⟩)) 30 ?_ ?_
 . intro w';go_simp
 try simp only[bH,aI]
 refine JR 1 (.pointer (some ⟨d,0,none⟩)) 31 ?_ ?_
 . intro w';go_simp
 try simp only[bH,aI]
 refine JR 2 (.pointer (some ⟨d,0,none⟩)) 32 ?_ ?_
 . intro w';go_simp
 try simp only[bH,aI]
 refine JR 3 (.pointer (some ⟨d,6,none⟩)) 33 ?_ ?_
 . intro w';go_simp
 try simp only[bH,aI]
 refine JR 5 (.int .i64 0) 35 ?_ ?_
 . intro w';go_simp
 try simp only[bH,aI]
 refine JR 9 (.pointer (some ⟨W.heap.size,0,none⟩)) 39 ?_ ?_
 . intro w';go_simp
 try simp only[bH,aI]
 refine F6 (i:=4) (j:=10) rfl rfl (by kernel_rfl) (fun K hK=>?au8) (fun K hK=>?au9)
 case' au8 =>
  go_simp
  refine hK.out _ _ ?_
  clear hK K
  try simp only[bH,aI]
  refine JR 6 (.pointer (some ⟨vb,voff,none⟩)) 36 ?_ ?_
  . intro w';go_simp
  try simp only[bH,aI]
  refine JR 7 (.pointer (some ⟨vb,voff,none⟩)) 37 ?_ ?_
  . intro w';go_simp
  try simp only[bH,aI]
  refine F6 (i:=8) (j:=10) rfl rfl (by kernel_rfl) (fun K hK=>?au6) (fun K hK=>?au7)
  case' au6 =>
   go_simp
   refine hK.out _ _ ?_
   clear hK K
   try simp only[bH,aI]
   refine jq (i:=10) rfl (by kernel_rfl) (fun K hK=>?_)
   go_simp
   refine hK.out _ _ ?_
   clear hK K
   try simp only[bH,aI]
  case' au7 =>
   go_simp
   refine hK.out _ _ ?_
   clear hK K
   try simp only[bH,aI]
   refine jq (i:=8) rfl (by kernel_rfl) (fun K hK=>?_)
   go_simp
   refine hK.out _ _ ?_
   clear hK K
   try simp only[bH,aI]
 case' au9 =>
  go_simp
  refine hK.out _ _ ?_
  clear hK K
  try simp only[bH,aI]
  refine jq (i:=4) rfl (by kernel_rfl) (fun K hK=>?_)
  go_simp
  refine hK.out _ _ ?_
  clear hK K
  try simp only[bH,aI]
  refine JR 6 (.pointer (some ⟨vb,voff,none⟩)) 36 ?_ ?_
  . intro w';go_simp
  try simp only[bH,aI]
  refine JR 7 (.pointer (some ⟨vb,voff,none⟩)) 37 ?_ ?_
  . intro w';go_simp
  try simp only[bH,aI]
  refine jq (i:=8) rfl (by kernel_rfl) (fun K hK=>?_)
  go_simp
  refine hK.out _ _ ?_
  clear hK K
  try simp only[bH,aI]
 all_goals
  refine jq (i:=11) rfl (by kernel_rfl) (fun K hK=>?_)
  go_simp
  (go_at_call 44;(with_reducible refine ax (kS.out Y0) ?_);rintro e Y1 ⟨rfl,Ro⟩)
  refine hK.out _ _ ?_
  clear hK K
  try simp only[bH,aI]
  have fF:=aj aU Ro
  refine JR 12 (.tuple #[.int .i64 ra,.int .i64 re]) 29 ?_ ?_
  . intro w';go_simp
  try simp only[bH,aI]
  refine JR 13 (.int .i64 ra) 42 ?_ ?_
  . intro w';go_simp
  try simp only[bH,aI]
  refine JR 14 (.int .i64 re) 43 ?_ ?_
  . intro w';go_simp
  try simp only[bH,aI]
  refine JR 15 (.pointer (some ⟨n7,8,none⟩)) 44 ?_ ?_
  . intro w';go_simp
  try simp only[bH,aI]
  have r1:=ak fF P5
  have fz8:=UK r1 8
  have zz8:=(aF r1)
  have oz8:=(ah r1).2.1 8
  obtain⟨Z1,hZ1⟩:=aG (Y1.setCell ⟨n7,8,none⟩ (.int .i64 ra))
  have r2:Z1.heap[n7]? = some (.cells #[.int .i64 s.dB,.int .i64 s.dK,.int .i64 s.di,.int .i64 s.dE,.int .i64 s.gK,.int .i64 s.gJ,.int .i64 s.wlo,.int .i64 s.whi,.int .i64 ra,.int .i64 0,.bool fl,.int .i64 0,.int .i64 0,.int .i64 0] 66 (0,0)):=by rw[<- hZ1,aX r1];rfl
  have kZ1:Kept (fun j=>j≠n7) Y1 Z1:=by rw[<- hZ1];exact(Kept.refl _ _).setCell (p:=⟨n7,8,none⟩) (.inl fun h=>h rfl) _
  refine jq (i:=16) rfl (by kernel_rfl) (fun K hK=>?_)
  go_simp
  (try rw[hZ1])
  refine hK.out _ _ ?_
  clear hK K
  try simp only[bH,aI]
  refine⟨by kernel_rfl,?_⟩
  refine NoPanic.normal ?_
  have UO:Kept (fun j=>j≠n7) U Z1:=(Kept.all fF).trans kZ1
  have e1Z:=ai ((UO.block _ (aF e1U.out) (by have:=hzw.out.1;omega)).trans e1U.out)
  replace a0:=au a0 UO h67
  replace a1:=au a1 UO h67
  replace a2:=au a2 UO h67
  replace a3:=au a3 UO h67
  replace a4:=au a4 UO h67
  replace a5:=au a5 UO h67
  replace a6:=au a6 UO h67
  replace a7:=au a7 UO h67
  replace a8:=au a8 UO h67
  replace a9:=au a9 UO h67
  replace a10:=au a10 UO h67
  replace a11:=au a11 UO h67
  replace a12:=au a12 UO h67
  have zdZ:d<Z1.heap.size:=bM zdU UO.size
  have zeZ:W.heap.size<Z1.heap.size:=bM zeU UO.size
  have hWZ:Below W2.heap.size W2 Z1:=((Kept.all hB).trans (UO.mono fun j _ (hj:j<W2.heap.size)=>by omega)).below (B:=W2.heap.size) (Nat.le_refl _) fun j hj=>hj
  have kD:Hid (∀X,Below Z1.heap.size Z1 X->Calls Tryz.prog 45 #[.pointer (some ⟨d,0,none⟩)] X fun e w'=>e=.returned (.int .i64 r.k.day)/\Below X.heap.size X w'):=ai fun X hX=>kD0.out X (aj hWZ hX)
  have kNb:Hid (∀X,Below Z1.heap.size Z1 X->Calls Tryz.prog 15 #[weV (.slice pa pn pc) we,.int .i64 r.k.day] X (PL we r.k.day X)):=ai fun X hX=>kN0.out X (aj hWZ hX)
  have kT:Hid (∀X,Below Z1.heap.size Z1 X->Calls Tryz.prog 46 #[.pointer (some ⟨tb,0,none⟩)] X fun e w'=>e=.returned (.tuple #[.int .i64 tst,.int .i64 0,.int .i64 top,.int .i64 0])/\Below X.heap.size X w'):=ai fun X hX=>kT0.out X (aj hWZ hX)
  have r2h:=ai r2
  have awG:=ai UO
  clear r1 r2 kZ1 UO fz8 zz8 oz8 P5 q0 q1 q2 q3 q4 q5 q6 q7 q8 q9 q10 y6
  go_wp2_with (fail)
  obtain⟨V0,hV0⟩:=aG (Z1.drew)
  have Xm:Below Z1.heap.size Z1 V0:=by rw[<- hV0];exact(Below.refl _ _).drew
  refine wp_region_noPanic ?_
  refine wp_region_any (by kernel_rfl) ?_
  show wpAny _ _ _ _ (0+1+1+1+1+1+1+1+1+1+1) #[false,false,false,false,false,false,false,false,false,false] _ Z1.drew
  rw[hV0]
  have ya8:=ae Xm a8
  have ya9:=ae Xm a9
  have aq9:=ae Xm a10
  have zye:W.heap.size<V0.heap.size:=bM zeZ Xm.size
  refine JR 0 (.pointer (some ⟨W.heap.size,8,none⟩)) 46 ?_ ?_
  . intro w';go_simp
  try simp only[bH,aI]
  refine JR 2 (.pointer (some ⟨d,0,none⟩)) 48 ?_ ?_
  . intro w';go_simp
  try simp only[bH,aI]
  refine F6 (i:=1) (j:=3) rfl rfl (by kernel_rfl) (fun K hK=>?_) (fun K hK=>?_)
  go_simp
  refine hK.out _ _ ?_
  clear hK K
  try simp only[bH,aI]
  refine jq (i:=3) rfl (by kernel_rfl) (fun K hK=>?_)
  go_simp
  (go_at_call 45;(with_reducible refine ax (kD.out V0 Xm) ?_);rintro e V1 ⟨rfl,cV1⟩)
  refine hK.out _ _ ?_
  clear hK K
  try simp only[bH,aI]
  have Zf:=aj Xm cV1
  rotate_left
  go_simp
  (go_at_call 45;(with_reducible refine ax (kD.out V0 Xm) ?_);rintro e V1 ⟨rfl,cV1⟩)
  refine hK.out _ _ ?_
  clear hK K
  try simp only[bH,aI]
  have Zf:=aj Xm cV1
  clear ya8 ya9 aq9 zye
  have ya8:=ae Zf a8
  have ya9:=ae Zf a9
  have aq9:=ae Zf a10
  have zye:W.heap.size<V1.heap.size:=bM zeZ Zf.size
  refine jq (i:=1) rfl (by kernel_rfl) (fun K hK=>?_)
  go_simp
  refine hK.out _ _ ?_
  clear hK K
  try simp only[bH,aI]
  all_goals
   refine jq (i:=4) rfl (by kernel_rfl) (fun K hK=>?_)
   go_simp
   (go_at_call 15;(with_reducible refine ax (kNb.out V1 Zf) ?_);rintro e V2 ⟨nb,ne,rfl,-,cV2⟩)
   refine hK.out _ _ ?_
   clear hK K
   try simp only[bH,aI]
   have apD:=aj Zf cV2
   refine JR 5 (.tuple #[.int .i64 nb,.int .i64 ne]) 45 ?_ ?_
   . intro w';go_simp
   try simp only[bH,aI]
   refine JR 6 (.int .i64 nb) 51 ?_ ?_
   . intro w';go_simp
   try simp only[bH,aI]
   refine JR 7 (.int .i64 ne) 52 ?_ ?_
   . intro w';go_simp
   try simp only[bH,aI]
   refine JR 8 (.pointer (some ⟨n7,9,none⟩)) 53 ?_ ?_
   . intro w';go_simp
   try simp only[bH,aI]
   have r3:=ak apD r2h.out
   have fz9:=UK r3 9
   have zz9:=(aF r3)
   have oz9:=(ah r3).2.1 9
   obtain⟨Z2,hZ2⟩:=aG (V2.setCell ⟨n7,9,none⟩ (.int .i64 nb))
   have r4:Z2.heap[n7]? = some (.cells #[.int .i64 s.dB,.int .i64 s.dK,.int .i64 s.di,.int .i64 s.dE,.int .i64 s.gK,.int .i64 s.gJ,.int .i64 s.wlo,.int .i64 s.whi,.int .i64 ra,.int .i64 nb,.bool fl,.int .i64 0,.int .i64 0,.int .i64 0] 66 (0,0)):=by rw[<- hZ2,aX r3];rfl
   have kZ2:Kept (fun j=>j≠n7) V2 Z2:=by rw[<- hZ2];exact(Kept.refl _ _).setCell (p:=⟨n7,9,none⟩) (.inl fun h=>h rfl) _
   refine jq (i:=9) rfl (by kernel_rfl) (fun K hK=>?_)
   go_simp
   (try rw[hZ2])
   refine hK.out _ _ ?_
   clear hK K
   try simp only[bH,aI]
   refine⟨by kernel_rfl,?_⟩
   refine NoPanic.normal ?_
   have hZZ:Kept (fun j=>j≠n7) Z1 Z2:=(Kept.all apD).trans kZ2
   replace a11:=au a11 hZZ h67
   have apv:Below W2.heap.size W2 Z2:=((Kept.all hWZ).trans (hZZ.mono fun j _ (hj:j<W2.heap.size)=>by omega)).below (B:=W2.heap.size) (Nat.le_refl _) fun j hj=>hj
   have kT2:=ai (kT0.out Z2 apv)
   have ar9:=ai ((hZZ.block _ (aF e1Z.out) (by have:=hzw.out.1;omega)).trans e1Z.out)
   have r4h:=ai r4
   have apw:=ai apv
   have axg:W.heap.size<Z2.heap.size:=bM zeZ hZZ.size
   clear r3 r4 kZ2 hZZ fz9 zz9 oz9 kT a0 a1 a2 a3 a4 a5 a6 a7 a8 a9 a10 a12
   go_wp2_with (fail)
   refine ax kT2.out ?_
   rintro e w5 ⟨rfl,qH⟩
   have r5:=ak qH r4h.out
   have e5:=ai (ak qH ar9.out)
   have awD:=UK r5 11
   have axh:=(aF r5)
   have aw5:=(ah r5).2.1 11
   obtain⟨Z3,hZ3⟩:=aG (w5.setCell ⟨n7,11,none⟩ (.int .i64 tst))
   have r6:Z3.heap[n7]? = some (.cells #[.int .i64 s.dB,.int .i64 s.dK,.int .i64 s.di,.int .i64 s.dE,.int .i64 s.gK,.int .i64 s.gJ,.int .i64 s.wlo,.int .i64 s.whi,.int .i64 ra,.int .i64 nb,.bool fl,.int .i64 tst,.int .i64 0,.int .i64 0] 66 (0,0)):=by rw[<- hZ3,aX r5];rfl
   have kZ3:Kept (fun j=>j≠n7) w5 Z3:=by rw[<- hZ3];exact(Kept.refl _ _).setCell (p:=⟨n7,11,none⟩) (.inl fun h=>h rfl) _
   have awE:=UK r6 12
   have axi:=(aF r6)
   have aw6:=(ah r6).2.1 12
   obtain⟨Z4,hZ4⟩:=aG (Z3.setCell ⟨n7,12,none⟩ (.int .i64 0))
   have r7:Z4.heap[n7]? = some (.cells #[.int .i64 s.dB,.int .i64 s.dK,.int .i64 s.di,.int .i64 s.dE,.int .i64 s.gK,.int .i64 s.gJ,.int .i64 s.wlo,.int .i64 s.whi,.int .i64 ra,.int .i64 nb,.bool fl,.int .i64 tst,.int .i64 0,.int .i64 0] 66 (0,0)):=by rw[<- hZ4,aX r6];rfl
   have kZ4:Kept (fun j=>j≠n7) Z3 Z4:=by rw[<- hZ4];exact(Kept.refl _ _).setCell (p:=⟨n7,12,none⟩) (.inl fun h=>h rfl) _
   have awF:=UK r7 13
   have axj:=(aF r7)
   have aw7:=(ah r7).2.1 13
   obtain⟨Z5,hZ5⟩:=aG (Z4.setCell ⟨n7,13,none⟩ (.int .i64 top))
   have r8:Z5.heap[n7]? = some (.cells #[.int .i64 s.dB,.int .i64 s.dK,.int .i64 s.di,.int .i64 s.dE,.int .i64 s.gK,.int .i64 s.gJ,.int .i64 s.wlo,.int .i64 s.whi,.int .i64 ra,.int .i64 nb,.bool fl,.int .i64 tst,.int .i64 0,.int .i64 top] 66 (0,0)):=by rw[<- hZ5,aX r7];rfl
   have kZ5:Kept (fun j=>j≠n7) Z4 Z5:=by rw[<- hZ5];exact(Kept.refl _ _).setCell (p:=⟨n7,13,none⟩) (.inl fun h=>h rfl) _
   have k5:Kept (fun j=>j≠n7) w5 Z5:=(kZ3.trans kZ4).trans kZ5
   have e6:=(k5.block _ (aF e5.out) (by have:=hzw.out.1;omega)).trans e5.out
   have hrr:=setRow_heap Z5 w.heap.size _ #[.int .i64 s.dB,.int .i64 s.dK,.int .i64 s.di,.int .i64 s.dE,.int .i64 s.gK,.int .i64 s.gJ,.int .i64 s.wlo,.int .i64 s.whi,.int .i64 ra,.int .i64 nb,.bool fl,.int .i64 tst,.int .i64 0,.int .i64 top] _ _ e6
   obtain⟨m0,m1,m2,m3,m4,m5,m6,m7,m8,m9,m10,m11,m12,m13⟩:=aok hrr
   have hBz:Hid (Below w.heap.size w (Z5.setRow w.heap.size #[.int .i64 s.dB,.int .i64 s.dK,.int .i64 s.di,.int .i64 s.dE,.int .i64 s.gK,.int .i64 s.gJ,.int .i64 s.wlo,.int .i64 s.whi,.int .i64 ra,.int .i64 nb,.bool fl,.int .i64 tst,.int .i64 0,.int .i64 top])):=ai ((((Kept.all (aj apC.out apw.out)).trans (.all qH)).trans ((k5.mono fun j _ (hj:j<w.heap.size)=>by have:=hzw.out.1;omega).trans ((lh _).mono fun j _ (hj:j<w.heap.size)=>by omega))).below (B:=w.heap.size) (Nat.le_refl _) fun j hj=>hj)
   replace r8:=ai r8
   replace e6:=ai e6
   clear hrr
   go_wp2_with (first|(refine wpList_load_row rfl 66 _ rfl n7 rfl _ _ (0,0) _ r8.out Tryz.underlying66 rfl (by show _=some 14;kernel_rfl) ?_)|(refine wpList_store_row rfl 66 _ _ rfl w.heap.size #[.int .i64 s.dB,.int .i64 s.dK,.int .i64 s.di,.int .i64 s.dE,.int .i64 s.gK,.int .i64 s.gJ,.int .i64 s.wlo,.int .i64 s.whi,.int .i64 ra,.int .i64 nb,.bool fl,.int .i64 tst,.int .i64 0,.int .i64 top] rfl rfl _ _ e6.out (by show _=some 14;kernel_rfl) rfl (by kernel_rfl) ?_))
   exact bodyPost_ret (v:=.tuple #[.agg #[.int .i64 s.dB,.int .i64 s.dK,.int .i64 s.di,.int .i64 s.dE,.int .i64 s.gK,.int .i64 s.gJ,.int .i64 s.wlo,.int .i64 s.whi,.int .i64 ra,.int .i64 nb,.bool fl,.int .i64 tst,.int .i64 0,.int .i64 top],.int .i64 0]) (by simp[results,Tryz.results10,go_sem,m0,m1,m2,m3,m4,m5,m6,m7,m8,m9,m10,m11,m12,m13]) rfl ⟨_,_,_,_,_,_,rfl,hBz.out⟩
