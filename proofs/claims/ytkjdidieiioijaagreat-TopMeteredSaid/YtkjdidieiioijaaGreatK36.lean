/- Walks. -/
import Derived.Test.YtkjdidieiioijaaGreatK35
set_option linter.all false
set_option maxRecDepth 100000
set_option maxHeartbeats 16000000
namespace Go.Proofs.YtkjdidieiioijaaGreat.G
open Go.RowKit Go.Sd bz
theorem Vy {lv av bv:Value}{c:d_}{p:Pt}{l:List bz.Op}{xa xb:List Int}(w:World)(hl:GH w lv l)(ha:bK w av xa)(hb:bK w bv xb){q sm:Pt}(he:I5 c p l xa xb=0)(hpl:agR c p l xa xb=some (q,sm)) :
    Calls Tryz.prog 8 #[gm c,nR p,lv,av,bv] w fun e w'=>e=.returned (.tuple #[nR q,nR sm,.int .i64 0])/\Below w.heap.size w w':=by
 have hl':=hl;have ha':=ha;have hb':=hb
 obtain⟨sl,cl,rfl,-,-⟩:=hl'
 obtain⟨sa,ca,rfl,-,-⟩:=ha'
 obtain⟨sb,cb,rfl,-,-⟩:=hb'
 obtain⟨he0,hc,hp,ht⟩:=Vo he
 obtain⟨hlen,hob⟩:=Lm.1 he0
 obtain⟨W1,hW1⟩:=aG (w.alloc (.cells #[.int .i64 c.jm,.int .i64 c.jG,.int .i64 c.least,.int .i64 c.most,.int .i64 c.f0,.int .i64 c.f1,.int .i64 c.h0,.int .i64 c.h1,.int .i64 c.bu,.int .i64 c.mJ,.int .i64 c.phi] 38))
 obtain⟨Jw,b_c,s_c⟩:=boxed hW1
 obtain⟨W2,hW2⟩:=aG (W1.alloc (.cells #[.int .i64 p.g,.int .i64 p.y,.int .i64 p.t,.int .i64 p.w] 29))
 obtain⟨PZ,b_p,s_p⟩:=boxed hW2
 replace Jw:=(b_p.block _ (aF Jw)).trans Jw
 obtain⟨W3,hW3⟩:=aG (W2.alloc (.cells #[.slice sl l.length cl] 62))
 obtain⟨SB,b_l,s_l⟩:=boxed hW3
 replace Jw:=(b_l.block _ (aF Jw)).trans Jw
 replace PZ:=(b_l.block _ (aF PZ)).trans PZ
 obtain⟨W4,UQ⟩:=aG (W3.alloc (.cells #[.slice sa xa.length ca] 50))
 obtain⟨WI,b_a,s_a⟩:=boxed UQ
 replace Jw:=(b_a.block _ (aF Jw)).trans Jw
 replace PZ:=(b_a.block _ (aF PZ)).trans PZ
 replace SB:=(b_a.block _ (aF SB)).trans SB
 obtain⟨W5,Zc⟩:=aG (W4.alloc (.cells #[.slice sb xb.length cb] 50))
 obtain⟨e_b,b_b,s_b⟩:=boxed Zc
 replace Jw:=(b_b.block _ (aF Jw)).trans Jw
 replace PZ:=(b_b.block _ (aF PZ)).trans PZ
 replace SB:=(b_b.block _ (aF SB)).trans SB
 replace WI:=(b_b.block _ (aF WI)).trans WI
 obtain⟨W6,hW6⟩:=aG (W5.alloc (.cells #[.int .i64 0,.int .i64 0,.int .i64 0,.int .i64 0] 29))
 obtain⟨Rz,YH,auY⟩:=boxed hW6
 replace Jw:=(YH.block _ (aF Jw)).trans Jw
 replace PZ:=(YH.block _ (aF PZ)).trans PZ
 replace SB:=(YH.block _ (aF SB)).trans SB
 replace WI:=(YH.block _ (aF WI)).trans WI
 replace e_b:=(YH.block _ (aF e_b)).trans e_b
 obtain⟨W7,hW7⟩:=aG (W6.alloc (.cells #[.int .i64 0,.int .i64 0,.int .i64 0,.int .i64 0] 29))
 obtain⟨YX,V9,auZ⟩:=boxed hW7
 replace Jw:=(V9.block _ (aF Jw)).trans Jw
 replace PZ:=(V9.block _ (aF PZ)).trans PZ
 replace SB:=(V9.block _ (aF SB)).trans SB
 replace WI:=(V9.block _ (aF WI)).trans WI
 replace e_b:=(V9.block _ (aF e_b)).trans e_b
 replace Rz:=(V9.block _ (aF Rz)).trans Rz
 obtain⟨anc,ane,anf,ang,anh,ani,anj,ank,anl,anm,ajk⟩:=bJ Jw
 have aqc:w.heap.size<W7.heap.size:=(aF Jw)
 obtain⟨W,hW⟩:=aG (W7.alloc (.cells #[.int .i64 c.jm,.int .i64 c.jG,.int .i64 c.least,.int .i64 c.most,.int .i64 c.f0,.int .i64 c.f1,.int .i64 c.h0,.int .i64 c.h1,.int .i64 c.bu,.int .i64 c.mJ,.int .i64 c.phi] 96))
 obtain⟨e_x,b_x,s_x⟩:=boxed hW
 replace Jw:=(b_x.block _ (aF Jw)).trans Jw
 replace PZ:=(b_x.block _ (aF PZ)).trans PZ
 replace SB:=(b_x.block _ (aF SB)).trans SB
 replace WI:=(b_x.block _ (aF WI)).trans WI
 replace e_b:=(b_x.block _ (aF e_b)).trans e_b
 replace Rz:=(b_x.block _ (aF Rz)).trans Rz
 replace YX:=(b_x.block _ (aF YX)).trans YX
 have B0:Below w.heap.size w W:=(((((((b_c.trans (b_p.mono (by omega))).trans (b_l.mono (by omega))).trans (b_a.mono (by omega))).trans (b_b.mono (by omega))).trans (YH.mono (by omega))).trans (V9.mono (by omega))).trans (b_x.mono (by omega)))
 have aem:=(aF Jw)
 have RZ:=(aF PZ)
 have axa:=(aF SB)
 have aek:=(aF WI)
 have ael:=(aF e_b)
 have avZ:=(aF Rz)
 have av1:=(aF YX)
 have axb:=(aF e_x)
 have atS:(w.heap.size:Nat)≠W1.heap.size:=by omega
 have atQ:(w.heap.size:Nat)≠W2.heap.size:=by omega
 have atO:(w.heap.size:Nat)≠W3.heap.size:=by omega
 have atP:(w.heap.size:Nat)≠W4.heap.size:=by omega
 have arj:(w.heap.size:Nat)≠W5.heap.size:=by omega
 have ark:(w.heap.size:Nat)≠W6.heap.size:=by omega
 have atT:(w.heap.size:Nat)≠W7.heap.size:=by omega
 have aw1:w.heap.size<=w.heap.size:=by omega
 have at6:(W1.heap.size:Nat)≠w.heap.size:=by omega
 have at7:(W1.heap.size:Nat)≠W2.heap.size:=by omega
 have atZ:(W1.heap.size:Nat)≠W3.heap.size:=by omega
 have at1:(W1.heap.size:Nat)≠W4.heap.size:=by omega
 have aro:(W1.heap.size:Nat)≠W5.heap.size:=by omega
 have arp:(W1.heap.size:Nat)≠W6.heap.size:=by omega
 have aua:(W1.heap.size:Nat)≠W7.heap.size:=by omega
 have aw3:w.heap.size<=W1.heap.size:=by omega
 have atW:(W2.heap.size:Nat)≠w.heap.size:=by omega
 have atX:(W2.heap.size:Nat)≠W1.heap.size:=by omega
 have atU:(W2.heap.size:Nat)≠W3.heap.size:=by omega
 have atV:(W2.heap.size:Nat)≠W4.heap.size:=by omega
 have arl:(W2.heap.size:Nat)≠W5.heap.size:=by omega
 have arn:(W2.heap.size:Nat)≠W6.heap.size:=by omega
 have atY:(W2.heap.size:Nat)≠W7.heap.size:=by omega
 have aw2:w.heap.size<=W2.heap.size:=by omega
 have atE:(W3.heap.size:Nat)≠w.heap.size:=by omega
 have atG:(W3.heap.size:Nat)≠W1.heap.size:=by omega
 have atF:(W3.heap.size:Nat)≠W2.heap.size:=by omega
 have atD:(W3.heap.size:Nat)≠W4.heap.size:=by omega
 have ard:(W3.heap.size:Nat)≠W5.heap.size:=by omega
 have arf:(W3.heap.size:Nat)≠W6.heap.size:=by omega
 have atH:(W3.heap.size:Nat)≠W7.heap.size:=by omega
 have awZ:w.heap.size<=W3.heap.size:=by omega
 have atJ:(W4.heap.size:Nat)≠w.heap.size:=by omega
 have atM:(W4.heap.size:Nat)≠W1.heap.size:=by omega
 have atK:(W4.heap.size:Nat)≠W2.heap.size:=by omega
 have atI:(W4.heap.size:Nat)≠W3.heap.size:=by omega
 have arh:(W4.heap.size:Nat)≠W5.heap.size:=by omega
 have ari:(W4.heap.size:Nat)≠W6.heap.size:=by omega
 have atN:(W4.heap.size:Nat)≠W7.heap.size:=by omega
 have aw0:w.heap.size<=W4.heap.size:=by omega
 have art:(W5.heap.size:Nat)≠w.heap.size:=by omega
 have arv:(W5.heap.size:Nat)≠W1.heap.size:=by omega
 have aru:(W5.heap.size:Nat)≠W2.heap.size:=by omega
 have arq:(W5.heap.size:Nat)≠W3.heap.size:=by omega
 have ars:(W5.heap.size:Nat)≠W4.heap.size:=by omega
 have aqi:(W5.heap.size:Nat)≠W6.heap.size:=by omega
 have arw:(W5.heap.size:Nat)≠W7.heap.size:=by omega
 have aa':w.heap.size<=W5.heap.size:=by omega
 have arz:(W6.heap.size:Nat)≠w.heap.size:=by omega
 have arB:(W6.heap.size:Nat)≠W1.heap.size:=by omega
 have arA:(W6.heap.size:Nat)≠W2.heap.size:=by omega
 have arx:(W6.heap.size:Nat)≠W3.heap.size:=by omega
 have ary:(W6.heap.size:Nat)≠W4.heap.size:=by omega
 have aqj:(W6.heap.size:Nat)≠W5.heap.size:=by omega
 have arC:(W6.heap.size:Nat)≠W7.heap.size:=by omega
 have aba:w.heap.size<=W6.heap.size:=by omega
 have aud:(W7.heap.size:Nat)≠w.heap.size:=by omega
 have auf:(W7.heap.size:Nat)≠W1.heap.size:=by omega
 have aue:(W7.heap.size:Nat)≠W2.heap.size:=by omega
 have aub:(W7.heap.size:Nat)≠W3.heap.size:=by omega
 have auc:(W7.heap.size:Nat)≠W4.heap.size:=by omega
 have arD:(W7.heap.size:Nat)≠W5.heap.size:=by omega
 have arE:(W7.heap.size:Nat)≠W6.heap.size:=by omega
 have aw4:w.heap.size<=W7.heap.size:=by omega
 clear s_c b_c s_p b_p s_l b_l s_a b_a s_b b_b auY YH auZ V9 s_x b_x
 obtain⟨tN,tV,tX,tY,tZ,t_,uf,ug,uh,ui,oH⟩:=bJ Jw
 replace Jw:=ai Jw
 obtain⟨uj,uk,um,uo⟩:=pX PZ
 replace PZ:=ai PZ
 have anG:=rc1 SB
 replace SB:=ai SB
 have QH:=rc1 WI
 replace WI:=ai WI
 have QI:=rc1 e_b
 replace e_b:=ai e_b
 replace Rz:=ai Rz
 replace YX:=ai YX
 obtain⟨anL,anM,anN,anO,anP,anQ,anR,anS,anT,anU,aj7⟩:=bJ e_x
 replace e_x:=ai e_x
 have kO:Hid (Calls Tryz.prog 27 #[.slice sl l.length cl] W fun e w'=>e=.returned (.int .i64 0)/\Below W.heap.size W w'):=ai (by have:=aj1 _ l W (hl.mono B0);rwa [he0] at this)
 have kV:=ai (fun w=>(nP c w).mono fun e w' hb=>aB.lit hb hc)
 have kP:=ai (fun w=>(Fh p w).mono fun e w' hb=>aB.lit hb hp)
 have kT:Hid (∀g:Grow W,Calls Tryz.prog 29 #[.slice sl l.length cl,.slice sa xa.length ca,.slice sb xb.length cb] g.x fun e w'=>e=.returned (.bool true)/\Below g.x.heap.size g.x w'):=ai (fun g=>by have:=adP _ _ _ l xa xb g.x ((hl.mono B0).mono g.h) ((ha.mono B0).mono g.h) ((hb.mono B0).mono g.h);rwa [ht] at this)
 have hD:Hid (∀g:Grow W,Calls Tryz.prog 30 #[.func (.func 31) #[] #[.pointer (some ⟨W2.heap.size,0,none⟩),.pointer (some ⟨W7.heap.size,0,none⟩),.pointer (some ⟨W1.heap.size,0,none⟩),.pointer (some ⟨g.x.heap.size,0,none⟩),.pointer (some ⟨W3.heap.size,0,none⟩),.pointer (some ⟨W4.heap.size,0,none⟩)]] (g.x.alloc (.cells #[.int .i64 0,.int .i64 0,.int .i64 0,.int .i64 0] 29)) fun e V2=>e=.returned (.bool true)/\V2.heap[W1.heap.size]? = some (.cells #[.int .i64 q.g,.int .i64 q.y,.int .i64 q.t,.int .i64 q.w] 29 (0,0))/\V2.heap[g.x.heap.size]? = some (.cells #[.int .i64 sm.g,.int .i64 sm.y,.int .i64 sm.t,.int .i64 sm.w] 29 (0,0))/\V2.heap[W5.heap.size]? = some (.cells #[.int .i64 0,.int .i64 0,.int .i64 0,.int .i64 0] 29 (0,0))/\V2.heap[W6.heap.size]? = some (.cells #[.int .i64 0,.int .i64 0,.int .i64 0,.int .i64 0] 29 (0,0))/\Below w.heap.size w V2):=ai (fun g=>by
  have gs:=g.size
  have b0s:=B0.size
  obtain⟨Z,hZ⟩:=aG (g.x.alloc (.cells #[.int .i64 0,.int .i64 0,.int .i64 0,.int .i64 0] 29))
  rw[hZ]
  obtain⟨eZ,bZ,sZ⟩:=boxed hZ
  obtain⟨X,hX⟩:=aG (Z.alloc (.cells #[.bool false] 4))
  obtain⟨eX,bX,sX⟩:=boxed hX
  have hWZ:Below W.heap.size W Z:=g.h.trans (bZ.mono gs)
  have hWX:Below W.heap.size W X:=hWZ.trans (bX.mono hWZ.size)
  have hwX:Below w.heap.size w X:=B0.trans (hWX.mono B0.size)
  have up:∀{k v},W.heap[k]? = some v->X.heap[k]? = some v:=fun h=>(hWX.block _ (aF h)).trans h
  have hen:∀args w,(callFunc 31 args).run Tryz.prog w=.ok (.enter 31 args) w:=fun args w=>by kernel_rfl
  have hP:=adK (bl:=W2.heap.size) (bc:=W7.heap.size) (bp:=W1.heap.size) (bs:=g.x.heap.size) (ba:=W3.heap.size) (bb:=W4.heap.size) c p l xa xb w X (d_.fZ.1 hc) (Pt.fZ.1 hp) hlen hob ht hl ha hb hwX (by omega) (by omega) (up SB.out) (up e_x.out) (up PZ.out) ((bX.block _ (aF eZ)).trans eZ) (up WI.out) (up e_b.out) (by omega)
  rw[hpl] at hP
  have hY:=Tt Z X (fun V=>V.heap[W1.heap.size]? = some (.cells #[.int .i64 q.g,.int .i64 q.y,.int .i64 q.t,.int .i64 q.w] 29 (0,0))/\V.heap[g.x.heap.size]? = some (.cells #[.int .i64 sm.g,.int .i64 sm.y,.int .i64 sm.t,.int .i64 sm.w] 29 (0,0))/\Kept (fun k=>k≠W1.heap.size/\k≠g.x.heap.size) X V) hX hen (hP.mono fun e V hV=>⟨hV.2.1,hV.1.block _ (by omega) ⟨by omega,by omega⟩,hV.2.2.1,hV.2.2.2,hV.1⟩)
  refine hY.mono ?_
  rintro e V2 ⟨rfl,V,⟨k1,k2,k3⟩,rfl⟩
  have f:∀{k o},k≠Z.heap.size->V.heap[k]? = o->(V.setCell ⟨Z.heap.size,0,none⟩ (.bool true)).heap[k]? = o:=fun hk h=>(Below.heap_setCell _ _ _ _ hk).trans h
  exact⟨rfl,f (by omega) k1,f (by omega) k2,f (by omega) ((k3.block _ (by omega) ⟨by omega,by omega⟩).trans (up Rz.out)),f (by omega) ((k3.block _ (by omega) ⟨by omega,by omega⟩).trans (up YX.out)),(hwX.trans (k3.below hwX.size fun k hk=>⟨by omega,by omega⟩)).setCell (by show w.heap.size<=Z.heap.size;omega) _⟩)
 have hgc:=az W
 have hgf:=dG W
 clear hl ha hb he he0 hc hp ht hpl
 go_enter Tryz.func8,Tryz.ntmps8
 go_wp2_with (first|(go_at_call 27;(with_reducible refine ax (kO.out) ?_);rintro e w1 ⟨rfl,hB⟩;(first|(obtain⟨g,rfl⟩:=g.next hB)|(obtain⟨g,rfl⟩:∃g:Grow W,w1=g.x:=⟨⟨w1,hB⟩,rfl⟩));clear hB)|(go_at_call 23;(with_reducible refine ax (kV.out _) ?_);rintro e w1 ⟨rfl,hB⟩;(first|(obtain⟨g,rfl⟩:=g.next hB)|(obtain⟨g,rfl⟩:∃g:Grow W,w1=g.x:=⟨⟨w1,hB⟩,rfl⟩));clear hB)|(go_at_call 28;(with_reducible refine ax (kP.out _) ?_);rintro e w1 ⟨rfl,hB⟩;(first|(obtain⟨g,rfl⟩:=g.next hB)|(obtain⟨g,rfl⟩:∃g:Grow W,w1=g.x:=⟨⟨w1,hB⟩,rfl⟩));clear hB)|(go_at_call 29;(with_reducible refine ax (kT.out _) ?_);rintro e w1 ⟨rfl,hB⟩;(first|(obtain⟨g,rfl⟩:=g.next hB)|(obtain⟨g,rfl⟩:∃g:Grow W,w1=g.x:=⟨⟨w1,hB⟩,rfl⟩));clear hB)|(go_at_call 30;(with_reducible refine ax (hD.out g) ?_);rintro e V2 ⟨rfl,g1,g2,g3,g4,hV⟩))
 have gs:=g.size
 have ng:(W1.heap.size:Nat)≠g.x.heap.size:=by omega
 clear hgc hgf
 clear anc ane anf ang anh ani anj ank anl anm ajk aqc tN tV tX tY tZ t_ uf ug uh ui oH uj uk um uo anG QH QI anL anM anN anO anP anQ anR anS anT anU aj7
 obtain⟨z_p,d_p,k_p⟩:=ah g1
 have akJ:=d_p 0
 have ap2:=k_p 0
 have akK:=d_p 1
 have ap3:=k_p 1
 have akL:=d_p 2
 have ap4:=k_p 2
 have akM:=d_p 3
 have ap5:=k_p 3
 simp only[List.getElem?_toArray,List.getElem?_cons_zero,List.getElem?_cons_succ] at akJ akK akL akM
 clear d_p k_p
 obtain⟨z_s,d_s,k_s⟩:=ah g2
 have akN:=d_s 0
 have ap6:=k_s 0
 have akO:=d_s 1
 have ap7:=k_s 1
 have akP:=d_s 2
 have ap8:=k_s 2
 have akQ:=d_s 3
 have ap9:=k_s 3
 simp only[List.getElem?_toArray,List.getElem?_cons_zero,List.getElem?_cons_succ] at akN akO akP akQ
 clear d_s k_s
 obtain⟨axe,aeV,agl⟩:=ah g3
 have aeW:=aeV 0
 have amY:=agl 0
 have aeX:=aeV 1
 have amZ:=agl 1
 have aeY:=aeV 2
 have am0:=agl 2
 have aeZ:=aeV 3
 have am1:=agl 3
 simp only[List.getElem?_toArray,List.getElem?_cons_zero,List.getElem?_cons_succ] at aeW aeX aeY aeZ
 clear aeV agl
 obtain⟨axf,ae0,agm⟩:=ah g4
 have ae1:=ae0 0
 have am2:=agm 0
 have ae2:=ae0 1
 have am3:=agm 1
 have ae3:=ae0 2
 have am4:=agm 2
 have ae4:=ae0 3
 have am5:=agm 3
 simp only[List.getElem?_toArray,List.getElem?_cons_zero,List.getElem?_cons_succ] at ae1 ae2 ae3 ae4
 clear ae0 agm
 have arF:(W1.heap.size:Nat)≠W5.heap.size:=by omega
 have arG:(W1.heap.size:Nat)≠W6.heap.size:=by omega
 have IV:(W5.heap.size:Nat)≠W6.heap.size:=by omega
 have IW:(W6.heap.size:Nat)≠W5.heap.size:=by omega
 have arH:(W5.heap.size:Nat)≠W1.heap.size:=by omega
 have arI:(W6.heap.size:Nat)≠W1.heap.size:=by omega
 have avI:(g.x.heap.size:Nat)≠W5.heap.size:=by omega
 have avK:(W5.heap.size:Nat)≠g.x.heap.size:=by omega
 have avJ:(g.x.heap.size:Nat)≠W6.heap.size:=by omega
 have avL:(W6.heap.size:Nat)≠g.x.heap.size:=by omega
 go_region
 generalize hVf:World.setCell _ ⟨W6.heap.size,3,none⟩ _=Vf
 have G1:Vf.heap[W5.heap.size]? = some (.cells #[.int .i64 q.g,.int .i64 q.y,.int .i64 q.t,.int .i64 q.w] 29 (0,0)):=by rw[<- hVf];have h2:=(fU (n:=W6.heap.size) 3 (.int .i64 sm.w) IV (fU (n:=W6.heap.size) 2 (.int .i64 sm.t) IV (fU (n:=W6.heap.size) 1 (.int .i64 sm.y) IV (fU (n:=W6.heap.size) 0 (.int .i64 sm.g) IV (dA (dA (dA (dA g3 0 (.int .i64 q.g)) 1 (.int .i64 q.y)) 2 (.int .i64 q.t)) 3 (.int .i64 q.w))))));simp only[List.setIfInBounds_toArray,List.set_cons_zero,List.set_cons_succ] at h2;exact h2
 have G2:Vf.heap[W6.heap.size]? = some (.cells #[.int .i64 sm.g,.int .i64 sm.y,.int .i64 sm.t,.int .i64 sm.w] 29 (0,0)):=by rw[<- hVf];have h2:=(dA (dA (dA (dA (fU (n:=W5.heap.size) 3 (.int .i64 q.w) IW (fU (n:=W5.heap.size) 2 (.int .i64 q.t) IW (fU (n:=W5.heap.size) 1 (.int .i64 q.y) IW (fU (n:=W5.heap.size) 0 (.int .i64 q.g) IW g4)))) 0 (.int .i64 sm.g)) 1 (.int .i64 sm.y)) 2 (.int .i64 sm.t)) 3 (.int .i64 sm.w));simp only[List.setIfInBounds_toArray,List.set_cons_zero,List.set_cons_succ] at h2;exact h2
 have hfin:Hid (Below w.heap.size w Vf):=ai (by rw[<- hVf];exact(Below.setCell (p:=⟨W6.heap.size,3,none⟩) (Below.setCell (p:=⟨W6.heap.size,2,none⟩) (Below.setCell (p:=⟨W6.heap.size,1,none⟩) (Below.setCell (p:=⟨W6.heap.size,0,none⟩) (Below.setCell (p:=⟨W5.heap.size,3,none⟩) (Below.setCell (p:=⟨W5.heap.size,2,none⟩) (Below.setCell (p:=⟨W5.heap.size,1,none⟩) (Below.setCell (p:=⟨W5.heap.size,0,none⟩) hV aa' (.int .i64 q.g)) aa' (.int .i64 q.y)) aa' (.int .i64 q.t)) aa' (.int .i64 q.w)) aba (.int .i64 sm.g)) aba (.int .i64 sm.y)) aba (.int .i64 sm.t)) aba (.int .i64 sm.w)))
 clear hVf akJ ap2 akK ap3 akL ap4 akM ap5 akN ap6 akO ap7 akP ap8 akQ ap9 aeW amY aeX amZ aeY am0 aeZ am1 ae1 am2 ae2 am3 ae3 am4 ae4 am5
 obtain⟨-,u1,-⟩:=ah G1
 obtain⟨-,u2,-⟩:=ah G2
 have au3:=u1 0
 have au4:=u2 0
 have aku:=u1 1
 have akx:=u2 1
 have akv:=u1 2
 have aky:=u2 2
 have akw:=u1 3
 have akz:=u2 3
 simp only[List.getElem?_toArray,List.getElem?_cons_zero,List.getElem?_cons_succ] at au3 au4 aku akx akv aky akw akz
 clear u1 u2
 go_wp2
 refine bodyPost_ret (v:=.tuple #[nR q,nR sm,.int .i64 0]) (by simp[results,Tryz.results8,go_sem, *]) rfl ⟨rfl,hfin.out.drew⟩
end Go.Proofs.YtkjdidieiioijaaGreat.G
namespace Go.Proofs.YtkjdidieiioijaaGreat.B
open Go.RowKit Go.Sd Wl Bk L Tr Dk
theorem ac' (fl:Bool)(c:bz.d_)(s:bz.St)(op:bz.Op)(tm:Bool)(bC:Int):∃j,j<5/\lF fl c s op tm bC=dS fl c s op tm bC j:=by
 unfold lF
 by_cases h0:dS fl c s op tm bC 0≠0
 . exact⟨0,by decide,by rw[if_pos h0]⟩
 rw[if_neg h0]
 by_cases h1:dS fl c s op tm bC 1≠0
 . exact⟨1,by decide,by rw[if_pos h1]⟩
 rw[if_neg h1]
 by_cases h2:dS fl c s op tm bC 2≠0
 . exact⟨2,by decide,by rw[if_pos h2]⟩
 rw[if_neg h2]
 by_cases h3:dS fl c s op tm bC 3≠0
 . exact⟨3,by decide,by rw[if_pos h3]⟩
 rw[if_neg h3]
 exact⟨4,by decide,rfl⟩
theorem Y5 {fl:Bool}{c:bz.d_}{s:bz.St}{op:bz.Op}{tm:Bool}{bC:Int}(h:lF fl c s op tm bC=0):dS fl c s op tm bC 3=0:=by
 unfold lF at h
 by_cases h0:dS fl c s op tm bC 0≠0
 . rw[if_pos h0] at h;exact absurd h h0
 rw[if_neg h0] at h
 by_cases h1:dS fl c s op tm bC 1≠0
 . rw[if_pos h1] at h;exact absurd h h1
 rw[if_neg h1] at h
 by_cases h2:dS fl c s op tm bC 2≠0
 . rw[if_pos h2] at h;exact absurd h h2
 rw[if_neg h2] at h
 by_cases h3:dS fl c s op tm bC 3≠0
 . rw[if_pos h3] at h;exact absurd h h3
 exact Decidable.not_not.1 h3
theorem afC (fl:Bool)(c:bz.d_)(s:bz.St)(op:bz.Op)(tm:Bool)(bC:Int)(j:Nat):dS fl c s op tm bC j=0\/dS fl c s op tm bC j=6\/dS fl c s op tm bC j=7:=by
 match j with
 | 0=>simp only[dS];split <;> simp
 | 1=>simp only[dS];split <;> simp
 | 2=>simp only[dS];split <;> simp
 | 3=>simp only[dS];split <;> simp
 | k+4=>simp only[dS];split <;> simp
theorem afD (fl:Bool)(c:bz.d_)(s:bz.St)(op:bz.Op)(tm:Bool)(bC:Int):lF fl c s op tm bC=0\/lF fl c s op tm bC=6\/lF fl c s op tm bC=7:=by
 obtain⟨j,-,h⟩:=ac' fl c s op tm bC
 rw[h]
 exact afC fl c s op tm bC j
theorem ac9 {fl:Bool}{c:bz.d_}{s:bz.St}{op:bz.Op}{tm:Bool}{a b:Int}(ha:a<=800000000)(hb:b<=800000000):dS fl c s op tm a=dS fl c s op tm b:=by
 funext j
 match j with
 | 0=>rfl
 | 1=>rfl
 | 2=>rfl
 | 3=>rfl
 | k+4=>simp only[dS];rw[if_pos ha,if_pos hb]
theorem ac_ {fl:Bool}{c:bz.d_}{s:bz.St}{op:bz.Op}{tm:Bool}{a b:Int}(ha:a<=800000000)(hb:b<=800000000):lF fl c s op tm a=lF fl c s op tm b:=by
 unfold lF
 rw[ac9 ha hb]
def zG (m:Int):bz.Op:=⟨2,0,0,0,0,m,0,0,0,0⟩
def tJ (fl:Bool)(c:bz.d_)(s:bz.St)(ay dm:Int):Int:=if inB dm 0 100000000=true then lF fl c s (zG ay) (qO dm ay (CY c s (zG ay)).2.1) dm else 2
theorem XH {fl:Bool}{c:bz.d_}{s:bz.St}{ay dm:Int}(h:qO dm ay (CY c s (zG ay)).2.1=false):tJ fl c s ay dm≠0:=by
 unfold tJ
 split
 . intro h0
   have h3:=Y5 h0
   rw[h] at h3
   simp[dS] at h3
 . decide
theorem adB {fl:Bool}{c:bz.d_}{s:bz.St}{ay a b:Int}(ha:0<=a/\a<=100000000)(hb:0<=b/\b<=100000000)(h:qO a ay (CY c s (zG ay)).2.1=true)(h':qO b ay (CY c s (zG ay)).2.1=true):tJ fl c s ay a=tJ fl c s ay b/\(tJ fl c s ay b=0\/tJ fl c s ay b=6\/tJ fl c s ay b=7):=by
 have ia:inB a 0 100000000=true:=by simp[inB,ha]
 have ib:inB b 0 100000000=true:=by simp[inB,hb]
 unfold tJ
 rw[if_pos ia,if_pos ib,h,h']
 exact⟨ac_ (by omega) (by omega),afD _ _ _ _ _ _⟩
structure alN (c:bz.d_)(s:bz.St)(p:bz.Pt)(ay:Int)(q:bz.Out)(x g:bz.Pt):Prop where
 err:bz.I5 c p [zG ay] [0] [0]=0
 run:bz.agR c p [zG ay] [0] [0]=some (x,g)
 sum:g.g+g.y=ay
 has:q.di<=g.y/\g.y<=q.dE
 low:0<=q.di
 high:q.dE<=ay
theorem met {c:bz.d_}{s:bz.St}{p:bz.Pt}{ay:Int}(hm:0<=ay/\ay<=2000000)(hp:s.Has p)(h:(CY c s (zG ay)).2.2=0):∃x g,alN c s p ay (CY c s (zG ay)).2.1 x g:=by
 have hb:(c.ok && s.ok && (zG ay).ok)=true:=by
  cases hh:(c.ok && s.ok && (zG ay).ok)
  . have:=(aap (c:=c) (s:=s) (o:=zG ay)).2 hh
    omega
  . rfl
 unfold CY at h ⊢
 rw[if_pos hb] at h ⊢
 rw[Bool.and_eq_true,Bool.and_eq_true] at hb
 have hc:=bz.d_.fZ.1 hb.1.1
 have hs:=bz.St.fZ.1 hb.1.2
 have ho:=bz.Op.fZ.1 hb.2
 cases ha:bz.act c s (zG ay) with
 | none=>rw[ha] at h;exact absurd h (by decide)
 | some r =>
  obtain⟨n,q⟩:=r
  obtain⟨x,g,h1,h2,h3,h4⟩:=bz.acO (u:=0) (v:=0) hc hs ho hp ⟨Int.le_refl 0,Int.le_refl 0⟩ ⟨Int.le_refl 0,Int.le_refl 0⟩ ha
  have pk:=hp.ok hs
  have h1':(if ay<=p.g+p.y then some (bz.left p ay,bz.out p ay) else none)=some (x,g):=h1
  have ha':(if ay<=s.dB+s.di then some (bz.Ha s ay,bz.Zv s ay) else none)=some (n,q):=ha
  have hg:=hs.g
  have hy:=hs.y
  split at h1'
  . split at ha'
    . simp only[Option.some.injEq,Prod.mk.injEq] at h1' ha'
      obtain⟨-,rfl⟩:=h1'
      obtain⟨-,rfl⟩:=ha'
      refine⟨x,_,⟨?_,?_,?_,h3.y,?_,?_⟩⟩
      . have hpk:p.ok=true:=bz.Pt.fZ.2 pk
        have ht:bz.lq [zG ay] [0] [0]=true:=by rfl
        have hob:bz.IY [zG ay]=true:=by simp[bz.IY,hb.2]
        unfold bz.I5
        rw[if_neg (by simp),if_pos (by rw[hob,hb.1.1,hpk,ht];rfl)]
      . show bz.lM c p [zG ay] [0] [0] 1=_
        rw[bz.Lp (k:=0) (q:=p) (s:=⟨0,0,0,0⟩) rfl h1]
        simp[bz.GK,bz.out]
      . simp only[bz.out];omega
      . exact bz.oz hm.1 (by omega) (by omega)
      . exact bz.nO hm.1 (by omega) (by omega)
    . cases ha'
  . cases h1'
attribute [local go_sem] Oper.semAt_some
theorem ajc:(Tryz.prog.info? 203).map (fun i=>(i.zero,i.size,i.bytes))=some (some (.nilIface),1,16):=by kernel_rfl
theorem ah5 (w:World)(y:Value)(hy1:y.oneCell'=true)(vb c:Nat)(hy:w.cell? ⟨vb,0,none⟩=some y) :
    ∃v' w',(Builtin.append_ #[126,126] 126 #[.slice none 0 0,.slice (some ⟨vb,0,none⟩) 1 c]).run Tryz.prog w=.ok v' w'/\(∃a n c,v'=.slice a n c)/\Below w.heap.size w w':=by
 obtain⟨i0,hi,hz0,hz1,hz2⟩:=info_parts ajc
 obtain⟨v',w',hrun,r1,r2,-,-⟩:=run_append_own_at (P:=Tryz.prog) w w.heap.size 126 126 203 i0 .nilIface 1 16 Tryz.underlying126 hi hz0 hz1 hz2 rfl (by decide) (.slice none 0 0) 0 [] (World.ownsRow_nil w _ _ _) ⟨vb,0,none⟩ 1 c [y] (by simp)
  (by
   intro j u hj
   cases j with
   | zero=>simp only[List.getElem?_cons_zero,Option.some.injEq] at hj;subst hj;exact hy
   | succ j=>simp at hj) (by simp[hy1]) (by simp[maxLen]) (by simp) (Nat.le_refl _)
 obtain⟨a,c,rfl⟩:=dw r1
 exact⟨_,w',hrun,⟨a,_,c,rfl⟩,⟨r2.os,r2.tape,r2.output,r2.size,fun k hk=>r2.block k hk (by simp[Value.ownBlock])⟩⟩
theorem ac2 {d:Nat}(w:World)(y26:w.cell? ⟨d,26,none⟩=some (.slice none 0 0))(f26:w.frozen? ⟨d,26,none⟩=false)(zb:d<w.heap.size)(nm:TypeId)(x:Value):Calls Tryz.prog 42 #[.pointer (some ⟨d,0,none⟩),.iface nm x] w fun e w'=>e=.returned (.tuple #[])/\Kept (fun j=>j≠d) w w':=by
 obtain⟨W,hW⟩:=aG (w.alloc (.cells #[.iface nm x] 203))
 obtain⟨e,bW,z⟩:=boxedB hW
 obtain⟨v',X,hrun,⟨a,n,c,rfl⟩,bX⟩:=ah5 W (.iface nm x) rfl w.heap.size 1 ((ah e).2.1 0)
 have hwX:=aj bW bX
 have g26:=ae hwX y26
 have e26:=(dJ hwX d 26 zb).trans f26
 have zX:=bM zb hwX.size
 have hk:Hid (Kept (fun j=>j≠d) w (X.setCell ⟨d,26,none⟩ (.slice a n c))):=ai ((Kept.all hwX).setCell (p:=⟨d,26,none⟩) (.inl fun h=>h rfl) _)
 clear e bW bX
 go_enter Tryz.func42,Tryz.ntmps42
 go_wp2_with (at_builtin;refine cO (by rfl) _ _ _ (by rfl) (by rfl) (by rfl) hrun ?_)
 exact bodyPost_end (results_none rfl _ _ _) rfl ⟨rfl,hk.out⟩
