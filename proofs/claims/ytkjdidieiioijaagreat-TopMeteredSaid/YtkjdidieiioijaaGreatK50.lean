/- Walks. -/
import Derived.Test.YtkjdidieiioijaaGreatK42
import Derived.Test.YtkjdidieiioijaaGreatK49
set_option linter.all false
set_option maxRecDepth 100000
set_option maxHeartbeats 16000000
namespace Go.Proofs.YtkjdidieiioijaaGreat.S
open Go.RowKit Go.Sd
theorem adF (lv mv:Value)(s:Sea.S)(k:Nat)(fill aY u:Int)(w:World)(bo bd n:Nat)(ov ev:Value)(next:List Int)(hl:dH w lv mv s)(hk:k<s.days.length)(ok:Sea.Ok s)
    (b1:0<=fill/\fill<=100) (b2 : -100<=aY/\aY<=100) (b3 : -100<=u/\u<=100) (hi:0<=fill+aY+u) (hi2:fill+aY+u<next.length)
    (hbd : -Sea.never<=Sea.at0 next (fill+aY+u).toNat/\Sea.at0 next (fill+aY+u).toNat<=Sea.never)
    (c0:w.cell? ⟨bo,0,none⟩=some ov) (c1:w.cell? ⟨bd,0,none⟩=some (.int .i64 k)) (he:aet w ov n (k+1) ev) (hv:bK w ev next) (hn:n<=100) :
    Calls Tryz.prog 63 #[lH lv k fill aY u,.pointer (some ⟨bo,0,none⟩),.pointer (some ⟨bd,0,none⟩)] w fun e w'=>e=.returned (.int .i64 (dW s k fill aY next u))/\Below w.heap.size w w':=by
 obtain⟨ob,oo,cap,rfl,hm,hin,ce⟩:=he
 have Yz:=World.block_lt_of_cell? w ⟨bo,0,none⟩ c0
 have hbd2:=World.block_lt_of_cell? w ⟨bd,0,none⟩ c1
 have hbe:=World.block_lt_of_cell? w ⟨ob,oo+(k+1),none⟩ ce
 simp only at Yz hbd2 hbe
 have hw:∀w1,Kc w w1->Calls Tryz.prog 64 #[lH lv k fill aY u,ev] w1 fun e w'=>e=.returned (.int .i64 (dW s k fill aY next u))/\Below w1.heap.size w1 w' :=
  fun w1 h=>XV lv mv s k fill aY u w1 ev next (hl.kc h) hk ok b1 b2 b3 (hv.kc h) hi hi2 hbd
 clear hv hi hi2 hbd b1 b2 b3 ok hk hl
 have hin':(k:Int)+1<(n:Int):=by omega
 go_enter Tryz.func63,Tryz.ntmps63
 go_wp2
 generalize hW:w.alloc (zk _ k fill aY u)=W
 obtain⟨hsz,hBw,q0,q1,q2,q3,q4⟩:=yz hW
 clear hW
 have d0:=ae hBw c0
 have d1:=ae hBw c1
 have d2:=ae hBw ce
 have hs:=hBw.size
 have asR:bo<W.heap.size:=by omega
 have amv:bd<W.heap.size:=by omega
 have asQ:ob<W.heap.size:=by omega
 clear c0 c1 ce
 have hg:=az W
 refine aH (by kernel_rfl) (by kernel_rfl) ?_
 repeat (go_big_quiet_step ((first|(go_at_call 64;exact Calls.grow (hw _ (Kc.of (hBw.trans ((Grow.h _).mono hBw.size))))))))
 refine wpQuiet_nil ?_
 rintro _ ⟨g,rfl⟩
 go_wp2
 go_ret
 exact⟨rfl,hBw.trans (g.h.mono hBw.size)⟩
theorem aff:∀(args:Array Value)(w:World),(callFunc 63 args).run Tryz.prog w=.ok (.enter 63 args) w:=fun _ _=>by kernel_rfl
theorem aeG (lv mv:Value)(s:Sea.S)(aN:List Int)(wr:World)(B b bo bd j d f m:Nat)(bad:List Nat)(hl:dH wr lv mv s)(ok:Sea.Ok s)(hno:s.tH aN=true)(hd:d+1+j=s.days.length)
    (hf:(f:Int)<=s.space) (vs:List Value) (hM:iO B b wr vs (s.proof aN)) (Aj:Nat) (c0:wr.cell? ⟨bo,0,none⟩=some (.slice (some ⟨b,0,none⟩) (s.days.length+1) Aj))
    (c1:wr.cell? ⟨bd,0,none⟩=some (.int .i64 d)):∀u,u ∈ dC s d f (Sea.at0 aN d)->∀X,Below wr.heap.size wr X ->
     Calls Tryz.prog 63 (#[lH lv d f (Sea.at0 aN d) u] ++ #[.pointer (some ⟨bo,0,none⟩),.pointer (some ⟨bd,0,none⟩)]) X fun e X' =>
      e=.returned (.int .i64 (dW s d f (Sea.at0 aN d) (s.vals aN j) u))/\Below X.heap.size X X':=by
 intro u hu X hX
 have hsd:=ok.ab9
 have hsp:=ok.space
 have hlen:(s.proof aN).length=s.days.length+1:=by simp[Sea.S.proof,Sea.whole]
 have ho:=Qv ok (by omega) hu
 have hat:Sea.fO (s.proof aN) (d+1)=s.vals aN j:=by
  unfold Sea.S.proof;rw[<- Sea.T_,Sea.yj _ _ _ _ _ (by omega),if_pos (by omega),show s.days.length - (d+1)=j by omega]
 have hrow:=(hM.own (d+1) (by rw[hlen];omega)).at
 rw[hat] at hrow
 have hcell:=(VD hM (i:=d+1) (by rw[hlen];omega)).1
 have hbd:=Pz ok aN j (by omega) (f+Sea.at0 aN d+u).toNat
 have hnb:=(IX ok hno).2 d (by omega)
 exact adF lv mv s d f (Sea.at0 aN d) u X bo bd (s.days.length+1) _ _ (s.vals aN j) (hl.mono hX) (by omega) ok (by omega) hnb ⟨ho.1,ho.2.1⟩ ho.2.2.2.1 (by rw[Sea.S.vals_length];omega)
  ⟨by have:=hbd.1;unfold Sea.never;omega,hbd.2⟩ (ae hX c0) (ae hX c1) ⟨b,0,_,rfl,by omega,by omega,by rw[Nat.zero_add];exact ae hX hcell⟩ (hrow.mono hX) (by omega)
theorem adQ (s:Sea.S)(aN:List Int):(s.proof aN).length=s.days.length+1:=by simp[Sea.S.proof,Sea.whole]
theorem anF (s:Sea.S)(aN:List Int):Sea.fO (s.proof aN) 0=s.vals aN s.days.length:=by
 unfold Sea.S.proof;rw[<- Sea.T_,Sea.yj _ _ _ _ _ (by omega),if_pos (by omega),Nat.sub_zero]
def Am (s:Sea.S)(aN:List Int)(w:World)(e:Ending)(w':World):Prop :=
 ∃v,e=.returned (.tuple #[v,.int .i64 (yQ s aN).2.1,.int .i64 (yQ s aN).2.2])/\bg w.heap.size w' v (yQ s aN).1/\Below w.heap.size w w'
theorem Am.of {s:Sea.S}{aN:List Int}{w w':World}{v:Value}{l:List Int}{c f:Int}(h:yQ s aN=(l,c,f))(ho:bg w.heap.size w' v l)(hb:Below w.heap.size w w') :
    Am s aN w (.returned (.tuple #[v,.int .i64 c,.int .i64 f])) w':=⟨v,by rw[h],by rw[h];exact ho,hb⟩
theorem XP (sv nv:Value)(s:Sea.S)(aN:List Int)(w:World)(hs:mZ w sv s)(hn:bK w nv aN)(ht:Sea.iU s=true)(hno:s.tH aN=true) :
    Calls Tryz.prog 17 #[sv,nv] w (Am s aN w):=by
 have hs':=hs
 obtain⟨rv,dv,rfl,hr,hd⟩:=hs'
 have hBw:Below w.heap.size w (w.alloc (Ny s rv dv)):=(Below.refl _ _).alloc (Nat.le_refl _) _
 have hg:=az (w.alloc (Ny s rv dv))
 have ok:=Sea.XD ht
 have hv:=ai (ZI (t:=true) _ (hs.mono hBw) ht)
 have hnn:Hid (∀g:Grow (w.alloc (Ny s rv dv)),Calls Tryz.prog 59 #[_,nv] g.x fun e w'=>e=.returned (.bool true)/\Below g.x.heap.size g.x w'):=fun g=>QD g.x ((hs.mono hBw).mono g.h) ((hn.mono hBw).mono g.h) hno
 obtain⟨st,hst⟩:=Int.eq_ofNat_of_zero_le ok.start.1
 have hst2:(st:Int)<=s.space:=by have:=ok.start.2;omega
 have hsp:=ok.space
 have hnd:=ok.ab9
 have hbc:Hid (sH s aN=Sea.at0 (s.vals aN s.days.length) st):=by show _=_;unfold sH;rw[hst,Int.toNat_natCast]
 have Zh:=fun h=>V_ ht hno h
 have af5:=fun h=>YI ht hno h
 replace Zh:=ai Zh
 replace af5:=ai af5
 have hno':=hno
 replace hno:=ai hno
 replace ht:=ai ht
 replace hno':=ai hno'
 have hst':=ai hst
 have ajb:∀g:Grow (w.alloc (Ny s rv dv)),g.x.cell? ⟨w.heap.size,1,none⟩=some (.int .i64 st):=fun g=>by rw[hg g _ _ (by simp)];rw[(ah (World.alloc_heap_new w (Ny s rv dv))).2.1];simp[hst]
 have ai7:∀g:Grow (w.alloc (Ny s rv dv)),g.x.cell? ⟨w.heap.size,5,none⟩=some dv:=fun g=>by rw[hg g _ _ (by simp)];rw[(ah (World.alloc_heap_new w (Ny s rv dv))).2.1];simp
 replace ai7:=ai ai7
 clear hst
 go_enter Tryz.func17,Tryz.ntmps17
 go_wp2_with (first|(go_at_call 58;refine ax hv.out ?_;rintro e w' ⟨rfl,hb⟩;obtain⟨g1,rfl⟩:∃g1:Grow (w.alloc (Ny s rv dv)),w'=g1.x:=⟨⟨w',hb⟩,rfl⟩)|(go_at_call 59;refine ax (hnn.out g1) ?_;rintro e w' ⟨rfl,hb2⟩;obtain⟨g2,rfl⟩:=g1.next hb2;have amq:=hBw.trans (g2.h.mono hBw.size);have hlk:=agy (w:=g2.x) (s:=s) (mv:=.map none) rfl (hr.mono amq) (hd.mono amq);obtain⟨g3,hg3⟩:=g2.alloc (am6 s rv dv (.map none));rw[hg3] at hlk)|(go_at_call 60;refine ax (adL _ _ s g3.x nv aN hlk ok ((hn.mono hBw).mono g3.h) hno.out) ?_;rintro e w' ⟨pb,vs,Aj,rfl,hM,hb3⟩;obtain⟨g4,rfl⟩:=g3.next hb3;obtain⟨g5,hg5⟩:=g4.alloc (.cells #[.slice (some ⟨pb,0,none⟩) (s.days.length+1) Aj] 167);have hn5:=World.alloc_heap_new g4.x (.cells #[.slice (some ⟨pb,0,none⟩) (s.days.length+1) Aj] 167);rw[hg5] at hn5;have hM5:=hM.mono (w':=g5.x) (by rw[<- hg5];exact lC (Below.refl _ _) _)))
 have hrow:=(hM5.own 0 (by rw[adQ];omega)).at
 rw[anF] at hrow
 obtain⟨vb,voff,aed,hv0,MO,hvm,hvk⟩:=Qn hrow (by rw[Sea.S.vals_length];omega)
 have hvl:=ai (Sea.S.vals_length s aN s.days.length)
 have r0:=(VD hM5 (i:=0) (by rw[adQ];omega)).1
 rw[hv0] at r0
 have rv0:=hvk st (by rw[hvl.out];omega)
 have awU:(0:Int)<=(st:Int)/\(st:Int)<((s.vals aN s.days.length).length:Int):=by rw[hvl.out];omega
 have n0:=(ah hn5).2.1 0
 simp only[List.getElem?_toArray,List.getElem?_cons_zero] at n0
 have s1:=ajb g5
 have s5:=ai7.out g5
 obtain⟨da,ac0,rfl,hdm,-⟩:=hd
 unfold maxLen at hdm
 replace ajb:=ai ajb
 clear hg
 have hn1:(0:Int)<(s.days.length:Int)+1:=by omega
 generalize hbv:Sea.at0 (s.vals aN s.days.length) st=bc at *
 replace hbv:=ai hbv
 replace hvk:=ai hvk
 by_cases hbn:bc=1000000000000000
 . have hb:=Zh.out (by rw[hbc.out];exact hbn)
   replace hb:=ai hb
   rw[hbn] at rv0
   replace hbn:=ai hbn
   go_quiet (fail)
   go_wp2_with (fail)
   go_ret3
   exact Am.of hb.out (bg.nil _ _) (below_drewN (hBw.trans (g5.h.mono hBw.size)) _)
 . have hb:=af5.out (by rw[hbc.out];exact hbn)
   have hne:(bc == 1000000000000000)=false:=by simpa using hbn
   replace hb:=ai hb
   replace hbn:=ai hbn
   have hneq:(bc == 1000000000000000)=false:=hne
   go_quiet (fail)
   go_wp2_with (fail)
   obtain⟨g6,hg6⟩:=g5.next (below_drewN (Below.refl _ _) nq)
   rw[hg6]
   have hM6:iO g3.x.heap.size pb g6.x vs (s.proof aN):=hM5.mono (by rw[<- hg6];exact below_drewN (Below.refl _ _) nq)
   have hn6:g6.x.heap[g4.x.heap.size]? = some (.cells #[.slice (some ⟨pb,0,none⟩) (s.days.length+1) Aj] 167):=by rw[<- hg6];exact hn5
   have m0:=(ah hn6).2.1 0
   simp only[List.getElem?_toArray,List.getElem?_cons_zero] at m0
   have m1:=ajb.out g6
   have m2:g6.x.cell? ⟨pb,0,none⟩=some (Value.slice (some ⟨vb,voff,none⟩) (s.vals aN s.days.length).length aed):=by rw[<- hg6];exact r0
   have m3:g6.x.cell? ⟨vb,voff+st,none⟩=some (.int .i64 bc):=by rw[<- hg6];exact rv0
   have aps:Below g3.x.heap.size g3.x g6.x:=by rw[<- hg6,<- hg5];exact below_drewN (lC hb3 _) nq
   clear hg6 hg5 hn5 hM5 hM r0 rv0 n0 s1 s5 hneq nq
   have hz0:=World.block_lt_of_cell? _ ⟨_,_,none⟩ m0
   have hz1:=World.block_lt_of_cell? _ ⟨_,_,none⟩ m1
   have hz2:=World.block_lt_of_cell? _ ⟨_,_,none⟩ m2
   have hz3:=World.block_lt_of_cell? _ ⟨_,_,none⟩ m3
   simp only at hz0 hz1 hz2 hz3
   have m4:=ai7.out g6
   have hn7:bK g6.x nv aN:=hn.mono (hBw.trans (g6.h.mono hBw.size))
   have apK:dH g6.x (.pointer (some ⟨g2.x.heap.size,0,none⟩)) (.map none) s:=hlk.mono aps
   have hnl:=ai (IX ok hno.out).1
   have hnb:=ai (IX ok hno.out).2
   have ai4:Below w.heap.size w g6.x:=hBw.trans (g6.h.mono hBw.size)
   have awX:=ai4.size
   obtain⟨nbk,aug,atC,rfl,ai8,hnm,hnk⟩:=Qn hn7 (by rw[hnl.out];omega)
   generalize g2.x.heap.size=lb at *
   generalize g4.x.heap.size=po at *
   generalize hX:g6.x=X at *
   have hvk:=ai hnk
   clear hnk hg3 hlk amq hb2 hb3 hrow MO aps hn6 hn hn7
   go_loopw [9,10,43] (fun p now i wr=>∃(t:Nat) (v:Value),t<=s.days.length/\v=p/\i=.int .i64 t/\now=.int .i64 (jL s aN t).2 /\
    Hid (0<=(jL s aN t).2/\(jL s aN t).2<=s.space/\Sea.at0 (s.vals aN (s.days.length - t)) (jL s aN t).2.toNat<Sea.never)/\bg X.heap.size wr v (jL s aN t).1/\∃g:Grow X,wr=g.x) (fun _ _ i _=>s.days.length - (intOf i).toNat)
   case atStart =>
    refine⟨0,_,by omega,rfl,rfl,?_,?_,bg.nil _ _,Grow.self X,rfl⟩
    . show _=Value.int .i64 s.start;rw[hst'.out]
    . show 0<=s.start/\s.start<=s.space/\Sea.at0 (s.vals aN (s.days.length - 0)) s.start.toNat<Sea.never
      rw[hst'.out,Int.toNat_natCast,Nat.sub_zero,hbv.out]
      have:=(Pz ok aN s.days.length (Nat.le_refl _) st).2
      rw[hbv.out] at this
      have:=hbn.out
      unfold Sea.never at *
      omega
   case round =>
    obtain⟨t,v,ht2,rfl,rfl,rfl,hI,ho,g,rfl⟩:=hrel
    by_cases hlt:t<s.days.length
    . obtain⟨j,hj⟩:∃j,t+1+j=s.days.length:=⟨s.days.length - t - 1,by omega⟩
      obtain⟨hf0,hf1,hf2⟩:=hI.out
      rw[show s.days.length - t=j+1 by omega] at hf2
      obtain⟨f,hf⟩:=Int.eq_ofNat_of_zero_le hf0
      obtain⟨u,hu1,hu2,hu3,hu4,hu5,hu6,-⟩:=akp ok aN hj ⟨hf0,hf1⟩ hf2
      have hnext:jL s aN (t+1)=((jL s aN t).1 ++ [u],(jL s aN t).2+Sea.at0 aN t+u):=by
       show(((jL s aN t).1 ++ [(s.least t (jL s aN t).2 (Sea.at0 aN t) (s.vals aN (s.days.length - 1 - t))).2]),_)=_
       rw[show s.days.length - 1 - t=j by omega,hu3]
      have hlen:(jL s aN t).1.length<=1000000:=by rw[Qz];omega
      have huo:=Qv ok hlt hu1
      have hnt:=hnb.out t hlt
      generalize hpl:jL s aN t=pl at *
      obtain⟨pl1,pl2⟩:=pl
      simp only at hf hf0 hf1 hf2 hu1 hu2 hu3 hu4 hu5 hu6 hnext hlen ho huo
      subst hf
      obtain⟨best,G7⟩:=aG ((cZ (dW s t f (Sea.at0 aN t) (s.vals aN j)) (dC s t f (Sea.at0 aN t))).1)
      have afV:=fun(Y:World) (hY:Below X.heap.size X Y) (bd:Nat) (hc:Y.cell? ⟨bd,0,none⟩=some (.int .i64 t))=>aeG _ (.map none) s aN Y g3.x.heap.size pb po bd j t f 0 [] (apK.mono hY) ok hno.out hj (by omega) vs (hM6.mono hY) _ (ae hY m0) hc
      obtain⟨ga,hga⟩:=g.alloc (.cells #[.int .i64 (t:Int)] 3)
      have hnA:=World.alloc_heap_new g.x (.cells #[.int .i64 (t:Int)] 3)
      rw[hga] at hnA
      have x0:=(ah hnA).2.1 0
      simp only[List.getElem?_toArray,List.getElem?_cons_zero] at x0
      have hgl:g.x.heap.size<ga.x.heap.size:=(ah hnA).1
      have awL:nbk<ga.x.heap.size:=bM ai8 ga.size
      have asK:Below g.x.heap.size g.x ga.x:=by rw[<- hga];exact lC (Below.refl _ _) _
      have z0:=ae ga.h (hvk.out t (by rw[hnl.out];exact hlt))
      have hti:(0:Int)<=(t:Int)/\(t:Int)<(aN.length:Int)/\(t:Int)<(s.days.length:Int):=by rw[hnl.out];omega
      obtain⟨V3,yC⟩:∃V3:Value->World->Prop,V3=fun v w'=>Ap w' v (.pointer (some ⟨lb,0,none⟩)) t f (Sea.at0 aN t):=⟨_,rfl⟩
      have afW:∀v w1 w2,V3 v w1->Below w1.heap.size w1 w2->V3 v w2:=by rw[yC];exact fun v w1 w2 h hb=>h.mono (.of hb)
      have cA:∀w',Below ga.x.heap.size ga.x w'->Calls Tryz.prog 62 #[.pointer (some ⟨lb,0,none⟩),.agg #[.int .i64 t,.int .i64 f],.int .i64 (Sea.at0 aN t)] w' fun e w''=>∃v,e=.returned v/\V3 v w''/\Below w'.heap.size w' w'':=by
       rw[yC];exact fun w' _=>QF _ _ _ _ _
      have cB:∀v w',Below ga.x.heap.size ga.x w'->V3 v w'->Calls Tryz.prog 61 #[v,.func (.func 63) #[] #[.pointer (some ⟨po,0,none⟩),.pointer (some ⟨g.x.heap.size,0,none⟩)]] w' fun e w''=>e=.returned (.tuple #[.agg #[.pointer (some ⟨lb,0,none⟩),.int .i64 t,.int .i64 f,.int .i64 (Sea.at0 aN t),.int .i64 u],.int .i64 best,.bool (decide (best<1000000000000000))])/\Below w'.heap.size w' w'':=by
       rw[yC]
       intro v w' hw' hv
       have hXw:Below X.heap.size X w':=aj ga.h hw'
       have:=Bf _ _ _ s t f (Sea.at0 aN t) (dW s t f (Sea.at0 aN t) (s.vals aN j)) 63 _ w' (apK.mono hXw) hlt ok (by omega) hnt hv aff (fun u hu Z hZ=>afV Z (aj hXw hZ) _ (ae hZ (ae hw' x0)) u hu Z (Below.refl _ _))
       rw[hu2,G7] at this
       exact this
      replace G7:=ai G7
      replace yC:=ai yC
      replace hnext:=ai hnext
      replace hpl:=ai hpl
      have Ho:=ai ho
      have hob:=ho.lt
      replace hob:=ai hob
      clear afV hu1 hu2 hu3 ho hI hnA
      go_wp2_with (fail)
      refine Ad (va:=[⟨15,12,172,#[.pointer none,.int .i64 0,.int .i64 0,.int .i64 0,.int .i64 0],16,.tmp 58⟩]) (ab:=⟨8,55,10,.tuple #[.agg #[.pointer (some ⟨lb,0,none⟩),.int .i64 t,.int .i64 f,.int .i64 (Sea.at0 aN t),.int .i64 u],.int .i64 best,.bool (decide (best<1000000000000000))]⟩) (Φ:=V3) h_ afW (by kernel_rfl) (by kernel_rfl) ?_ ?_ (by simp) (by simp) (fun TT ff hTT Zi hcl=>?_)
      . intro p hp w
        simp only[List.mem_cons,List.not_mem_nil,or_false] at hp
        rcases hp with rfl <;> go_simp
      . intro p hp
        simp only[List.mem_cons,List.not_mem_nil,or_false] at hp
        rcases hp with rfl <;> kernel_rfl
      have hg:∀(g:TT) (b o:Nat),b<ga.x.heap.size->(ff g).cell? ⟨b,o,none⟩=ga.x.cell? ⟨b,o,none⟩:=fun g=>dR (Zi g)
      simp only[dP,uI,Nat.reduceEqDiff,List.zipIdx_cons,List.zipIdx_nil,List.map_cons,List.map_nil,fG,List.any_cons,List.any_nil,Nat.reduceAdd,Nat.reduceBEq,Bool.or_false,Bool.false_or,Bool.or_self,Bool.false_eq_true,if_false,if_true,Nat.zero_add,BEq.rfl,Bool.or_true,Bool.true_or]
      simp only[Go.Sd.blank]
      repeat (go_big_quiet_step (fail))
      refine wpQuiet_nil ?_
      refine⟨?_,?_,?_,?_⟩
      . intro p hp
        simp only[List.mem_cons,List.not_mem_nil,or_false] at hp
        rcases hp with rfl <;> (constructor <;> simp[go_sem,Value.cells,Value.oneCell'])
      . intro o ho w' hw'
        cases ho
        exact⟨_,_,by kernel_rfl,cA w' hw'⟩
      . intro o ho v w' hw' hv
        cases ho
        exact⟨_,_,by kernel_rfl,cB v w' hw' hv⟩
      intro ns vA w' hB' hv
      obtain⟨n1,rfl,hn1,hl1,hc1,hf1⟩:=qA hv
      clear hv Zi hcl hg hTT ff TT cA cB afW
      simp only[iQ,Act.put,List.setIfInBounds_toArray,List.set_cons_zero,List.set_cons_succ]
      simp[go_sem] at hc1
      clear yC V3
      have o0:=hc1 0
      have o1:=hc1 1
      have o2:=hc1 2
      have o3:=hc1 3
      have o4:=hc1 4
      simp at o0 o1 o2 o3 o4
      have hn1':ga.x.heap.size<=n1:=hn1
      have hBw':Below g.x.heap.size g.x w':=aj asK hB'
      have Ho':Hid (bg X.heap.size w' v pl1):=Ho.out.mono hBw'
      have hXw:Below X.heap.size X w':=aj g.h hBw'
      have hne:v.ownBlock≠some n1:=fun e=>by have:=(hob.out _ e).2;omega
      have ate : -100<=u/\u<=100:=⟨huo.1,huo.2.1⟩
      have Zi:(0:Int)<=(f:Int)/\(f:Int)<=100:=by omega
      have hXs:=hXw.size
      replace hXw:=ai hXw
      clear hc1 hf1 z0 x0 hga huo Ho
      go_wp2_with (first
       | (at_builtin;refine Rn rfl _ _ rfl X.heap.size w' v _ _ rfl Ho'.out rfl hlen (by omega) ?_;intro v1 w1 ho1 hg1 hn1 awI;have e0:=(hg1.cell_far ⟨n1,0,none⟩ hl1 (Ne.symm hne)).trans o0;have e1:=(hg1.cell_far ⟨n1,1,none⟩ hl1 (Ne.symm hne)).trans o1;have e2:=(hg1.cell_far ⟨n1,2,none⟩ hl1 (Ne.symm hne)).trans o2;have e3:=(hg1.cell_far ⟨n1,3,none⟩ hl1 (Ne.symm hne)).trans o3;have e4:=(hg1.cell_far ⟨n1,4,none⟩ hl1 (Ne.symm hne)).trans o4;have apx:Hid (Below X.heap.size X w1):=Ut hXw.out hXs Ho'.out hg1;replace ho1:=ai ho1)
       | (go_at_call 65;refine(l_ _ _ _ _ _ _ Zi hnt ate).mono ?_;rintro e w2 ⟨rfl,hb2⟩))
      obtain⟨g9,rfl⟩:∃g9:Grow X,w2=g9.x:=⟨⟨w2,apx.out.trans (hb2.mono apx.out.size)⟩,rfl⟩
      refine⟨⟨t+1,v1,by omega,rfl,by go_num,by rw[hnext.out],?_,?_,g9,rfl⟩,by simp[intOf];omega⟩
      . show 0<=_/\_
        rw[hnext.out,show s.days.length - (t+1)=j by omega]
        exact⟨hu4,hu5,hu6⟩
      . rw[hnext.out];exact ho1.out.mono hb2
    . obtain rfl:t=s.days.length:=by omega
      have hlt':(s.days.length:Int)<(s.days.length:Int)+1:=by omega
      have k0:=ae g.h m0
      have k1:=ae g.h m1
      have k2:=ae g.h m2
      have k3:=ae g.h m3
      have Ho:=ai ho
      clear ho
      go_wp2_with (fail)
      go_quiet (fail)
      go_wp2_with (fail)
      go_ret3
      refine Am.of (l:=(jL s aN s.days.length).1) ?_ ((Ho.out.from ai4.size).mono (below_drewN (Below.refl _ _) nq)) (below_drewN (ai4.trans (g.h.mono ai4.size)) _)
      rw[hb.out,hbc.out]
def aw8 (vs:List Value)(i:Nat):Value:=vs.getD i (.slice none 0 0)
/-! Plain -/
end Go.Proofs.YtkjdidieiioijaaGreat.S
namespace Go.Proofs.YtkjdidieiioijaaGreat.S
open Go.Sd
def exS:Sea.S:=⟨10,4,4,6,[⟨0,4,2⟩,⟨5,2,4⟩],[⟨10,8,3,3,0,10,-1,1⟩,⟨20,18,3,3,2,10,-2,0⟩,⟨30,25,1,4,0,9,0,0⟩]⟩
abbrev exN:List Int:=[0,-1,0]
theorem afi:Sea.iU exS=true:=by decide +kernel
theorem aii:exS.tH exN=true:=by decide +kernel
theorem aih:yQ exS exN=([3,2,-4],-30,0):=by decide +kernel
open Go.RowKit
theorem ints_at {w:World}{n:Nat}{l:List Int}{t:TypeId}(h:w.heap[n]? = some (.cells (l.map (Value.int .i64)).toArray t))(cap:Nat)(hl:l.length<=1000):bK w (.slice (some ⟨n,0,none⟩) l.length cap) l:=by
 refine⟨_,cap,rfl,by unfold maxLen;omega,fun _=>⟨n,0,rfl,(aF h),fun k hk=>?_⟩⟩
 rw[Nat.zero_add,(ah h).2.1 k]
 simp[Sea.at0,hk]
theorem XQ (w:World):Calls Tryz.prog 18 #[] w fun e w'=>∃v,e=.returned v/\mZ w' v exS/\Below w.heap.size w w':=by
 go_enter Tryz.func18,Tryz.ntmps18
 go_wp2
 generalize hW:((w.alloc _).alloc _).alloc _=W
 obtain⟨n0,n1,n2,-,hB⟩:=Uc hW
 clear hW
 obtain⟨-,d0,-⟩:=ah n0
 obtain⟨z1,d1,-⟩:=ah n1
 obtain⟨z2,d2,-⟩:=ah n2
 have a0:=d0 0
 have a1:=d0 1
 have a2:=d0 2
 have a3:=d0 3
 have a4:=d0 4
 have a5:=d0 5
 simp only[List.getElem?_toArray,List.getElem?_cons_zero,List.getElem?_cons_succ] at a0 a1 a2 a3 a4 a5
 refine bodyPost_ret (v:=.agg #[.int .i64 10,.int .i64 4,.int .i64 4,.int .i64 6,.slice (some ⟨w.heap.size+1,0,none⟩) 2 2,.slice (some ⟨w.heap.size+1+1,0,none⟩) 3 3])
  (by simp[results,Tryz.results18,go_sem,a0,a1,a2,a3,a4,a5]) rfl ⟨_,rfl,⟨_,_,rfl,⟨_,2,rfl,by decide,fun _=>⟨_,0,rfl,z1,?_⟩⟩,⟨_,3,rfl,by decide,fun _=>⟨_,0,rfl,z2,?_⟩⟩⟩,hB⟩
 . intro k hk
   have hk:k<2:=hk
   match k,hk with
   | 0,_=>exact⟨d1 0,d1 1,d1 2⟩
   | 1,_=>exact⟨d1 3,d1 4,d1 5⟩
 . intro k hk
   have hk:k<3:=hk
   match k,hk with
   | 0,_=>exact⟨d2 0,d2 1,d2 2,d2 3,d2 4,d2 5,d2 6,d2 7⟩
   | 1,_=>exact⟨d2 8,d2 9,d2 10,d2 11,d2 12,d2 13,d2 14,d2 15⟩
   | 2,_=>exact⟨d2 16,d2 17,d2 18,d2 19,d2 20,d2 21,d2 22,d2 23⟩
theorem adr (sv nv:Value)(w:World)(hs:mZ w sv exS)(hn:bK w nv exN) :
    Calls Tryz.prog 17 #[sv,nv] w fun e w'=>∃v,e=.returned (.tuple #[v,.int .i64 (-30),.int .i64 0])/\bK w' v [3,2,-4]/\Below w.heap.size w w':=by
 refine(XP sv nv exS exN w hs hn afi aii).mono ?_
 rintro e w' ⟨v,he,ho,hb⟩
 rw[aih] at he ho
 exact⟨v,he,ho.at,hb⟩
theorem ads (av bv:Value)(l:List Int)(w:World)(ha:bK w av l)(hb:bK w bv l) :
    Calls Tryz.prog 19 #[av,bv] w fun e w'=>e=.returned (.bool true)/\Below w.heap.size w w':=by
 refine(akl av bv l l w ha hb).mono ?_
 rintro e w' ⟨he,hb⟩
 exact⟨by simpa using he,hb⟩
theorem Xt {w:World}{n:Nat}{t:TypeId}(l:List Int)(hn:n=w.heap.size)(cap:Nat)(hl:l.length<=1000):bK (w.alloc (.cells (l.map (Value.int .i64)).toArray t)) (.slice (some ⟨n,0,none⟩) l.length cap) l:=by
 subst hn;exact ints_at (World.alloc_heap_new _ _) cap hl
end Go.Proofs.YtkjdidieiioijaaGreat.S
namespace Go.Proofs.YtkjdidieiioijaaGreat.B
open Go.RowKit Go.Sd Wl L
attribute [local go_sem] Oper.semAt_some
theorem alz {w:World}{n:Nat}{a0 a1:Value}{e:TypeId}(h:w.heap[n]? = some (.cells #[a0,a1] e (0,0))):w.cell? ⟨n,0,none⟩=some a0/\w.cell? ⟨n,1,none⟩=some a1:=by
 have r:=(ah h).2.1
 exact⟨r 0,r 1⟩
theorem aaw:G.QA bz.exC bz.exS.low bz.exC.jG=⟨236949,55⟩/\G.QA bz.exC bz.exS.high bz.exC.jm=⟨128867,25⟩:=⟨by rfl,by rfl⟩
theorem aif (w:World):Calls Tryz.prog 12 #[G.gm bz.exC,G.jF bz.exS] w fun e w'=>e=.returned (.tuple #[.agg #[.int .i64 236949,.int .i64 55],.agg #[.int .i64 128867,.int .i64 25],.int .i64 0])/\Below w.heap.size w w':=by
 have:=G.QG (c:=bz.exC) (s:=bz.exS) w (by rfl) (by rfl)
 rw[aaw.1,aaw.2] at this
 exact this
theorem XR (w:World):Calls Tryz.prog 4 #[] w fun e w'=>e=.returned (.bool true)/\Below w.heap.size w w':=by
 have kC:=ai G.aty
 have kS:=ai G.atz
 have kP:=ai aif
 have kW:=ai ZJ
 have kN:=ai Xv
 have kE:=ai S.XQ
 have kB:=ai S.adr
 have kM:=ai S.ads
 go_enter Tryz.func4,Tryz.ntmps4
 go_wp2_with (first|(go_at_call 13;(with_reducible refine ax (kC.out _) ?_);rintro e w1 ⟨rfl,hB1⟩)|(go_at_call 14;(with_reducible refine ax (kS.out _) ?_);rintro e w2 ⟨rfl,hB2⟩)|(go_at_call 12;(with_reducible refine ax (kP.out _) ?_);rintro e w3 ⟨rfl,hB3⟩)|(go_at_call 16;fail))
 obtain⟨Ua,hUa⟩:=aG (w3.alloc (.cells #[.int .i64 236949,.int .i64 55] 73))
 obtain⟨ea,ba,za⟩:=boxedB hUa
 obtain⟨Ub,hUb⟩:=aG (Ua.alloc (.cells #[.int .i64 128867,.int .i64 25] 73))
 obtain⟨eb,bb,zb⟩:=boxedB hUb
 have sza:Ua.heap.size=w3.heap.size+1:=by rw[<- hUa];simp
 rw[sza] at eb
 replace ea:=ak bb ea
 have hb:=ai (aj (aj (aj (aj hB1 hB2) hB3) ba) bb)
 rw[hUa,hUb]
 clear hUa hUb hB1 hB2 hB3 ba bb sza
 go_wp2_with (first|(go_at_call 16;(with_reducible refine ax (kW.out _) ?_);rintro e w4 ⟨pv,rfl,hpv,hB4⟩)|(go_at_call 15;(with_reducible refine ax (kN.out _ _ hpv.out) ?_);rintro e w5 ⟨rfl,qH⟩)|(go_at_call 18;(with_reducible refine ax (kE.out _) ?_);rintro e w6 ⟨sv,rfl,hsv,Xj⟩)|(go_at_call 17;refine ax (kB.out _ _ _ (hsv.mono (Below.alloc (Below.refl _ _) (Nat.le_refl _) _)) (S.Xt [0,-1,0] rfl 3 (by decide))) ?_;rintro e w7 ⟨ov,rfl,hov,hB7⟩;(have hX:=aj hB4 (aj qH (aj Xj (aj (Below.alloc (Below.refl _ _) (Nat.le_refl _) _) hB7))));obtain⟨xa,ya⟩:=alz (ak hX ea);obtain⟨xb,yb⟩:=alz (ak hX eb);(have za7:=(Array.getElem?_eq_some_iff.1 (ak hX ea)).1);(have zb7:=(Array.getElem?_eq_some_iff.1 (ak hX eb)).1))|(go_at_call 19;refine ax (kM.out _ _ [3,2,-4] _ (hov.mono (Below.alloc (Below.refl _ _) (Nat.le_refl _) _)) (S.Xt [3,2,-4] rfl 3 (by decide))) ?_;rintro e w8 ⟨rfl,hB8⟩))
 go_ret
 exact⟨rfl,aj hb.out (aj hX (aj (Below.alloc (Below.refl _ _) (Nat.le_refl _) _) hB8))⟩
end Go.Proofs.YtkjdidieiioijaaGreat.B
namespace bz
theorem zQ:(0:Int)<=0/\(0:Int)<=1000/\(1000:Int)<=1000:=by decide
theorem zW:(0:Int)<=0/\(0:Int)<=1000000000:=by decide
def hasB (s:St)(p:Pt):Bool:=inB p.g s.dB s.dK && inB p.y s.di s.dE && inB p.t s.gK s.gJ && inB p.w s.wlo s.whi
theorem af0 {s:St}{p:Pt} : hasB s p=true↔s.Has p:=by
 simp only[hasB,Bool.and_eq_true,eP]
 exact⟨fun⟨⟨⟨a,b⟩,c⟩,d⟩=>⟨a,b,c,d⟩,fun h=>⟨⟨⟨h.g,h.y⟩,h.t⟩,h.w⟩⟩
end bz
namespace Go.Proofs.YtkjdidieiioijaaGreat.G
open Go.RowKit Go.Sd bz
theorem aog (s:St)(p:Pt)(w:World):Calls Tryz.prog 6 #[jF s,nR p] w (aB (hasB s p) w):=by
 obtain⟨W1,hW1⟩:=aG (w.alloc (.cells #[.int .i64 s.dB,.int .i64 s.dK,.int .i64 s.di,.int .i64 s.dE,.int .i64 s.gK,.int .i64 s.gJ,.int .i64 s.wlo,.int .i64 s.whi] 40))
 obtain⟨aJ,f_,iC⟩:=boxed hW1
 obtain⟨W,hW⟩:=aG (W1.alloc (.cells #[.int .i64 p.g,.int .i64 p.y,.int .i64 p.t,.int .i64 p.w] 29))
 obtain⟨bF,iH,lW⟩:=boxed hW
 replace aJ:=(iH.block _ (aF aJ)).trans aJ
 have hBw:Below w.heap.size w W:=(by have:=iC;have:=lW;exact(f_.trans (iH.mono (by omega))))
 obtain⟨qK,jQ,jR⟩:=ah aJ
 obtain⟨eG,eH,fP,fQ,gV,gW,gX,gY⟩:=rc8 aJ
 obtain⟨ja,jb,jy,jA,jB,jC,jD,jE⟩:=FP aJ
 clear jQ jR aJ
 obtain⟨CS,rQ,rW⟩:=ah bF
 obtain⟨jg,jh,ji,jk⟩:=pX bF
 obtain⟨lS,lT,lU,lV⟩:=Ak bF
 clear rQ rW bF
 have yL:w.heap.size<=w.heap.size:=by omega
 have MH:w.heap.size<=W1.heap.size:=by omega
 clear f_ iC iH lW
 have hg:=az W
 go_enter Tryz.func6,Tryz.ntmps6
 go_wp2_with (go_at_call 22;refine ax (TP _ _ _ _) ?_;rintro e w1 ⟨(_|_),rfl,ht,rfl⟩)
 all_goals
  go_ret
  exact aB.mk (by unfold Hid at *;simp[hasB, *]) hBw
