/- Walks. -/
import Derived.Test.YtkjdidieiioijaaGreatK31
set_option linter.all false
set_option maxRecDepth 100000
set_option maxHeartbeats 16000000
namespace Go.Proofs.YtkjdidieiioijaaGreat.B
open Go.RowKit Go.Sd Wl Bk L Tr Dk
attribute [local go_sem] Oper.semAt_some
theorem uw {w:World}{n:Nat}{a0:Value}{e:TypeId}(h:w.heap[n]? = some (.cells #[a0] e (0,0))):w.cell? ⟨n,0,none⟩=some a0/\n<w.heap.size:=⟨(ah h).2.1 0,(aF h)⟩
theorem apk (n:Int)(b:Nat)(t:TypeId)(w:World)(h:w.heap[b]? = some (.cells #[.int .i64 n] t (0,0))):Calls Tryz.prog 83 #[.pointer (some ⟨b,0,none⟩)] w (dI (.int .i64 (if n=0 then 0 else 7)) w):=by
 obtain⟨c0,z0⟩:=uw h
 clear h
 go_enter Tryz.func83,Tryz.ntmps83
 go_wp2_with (go_at_call 81;(with_reducible refine ax (jU _ _ _) ?_);rintro e w9 ⟨rfl,rfl⟩)
 all_goals
  go_ret
  exact⟨by first|rfl|simp[*],Below.refl _ _⟩
theorem apn (n:Int)(b:Nat)(t:TypeId)(w:World)(h:w.heap[b]? = some (.cells #[.int .i64 n] t (0,0))):Calls Tryz.prog 86 #[.pointer (some ⟨b,0,none⟩)] w (dI (.int .i64 (if n<=800000000 then 0 else 6)) w):=by
 obtain⟨c0,z0⟩:=uw h
 clear h
 by_cases hn:n<=800000000
 . rw[if_pos hn]
   go_enter Tryz.func86,Tryz.ntmps86
   go_wp2_with (go_at_call 81;(with_reducible refine ax (jU _ _ _) ?_);rintro e w9 ⟨rfl,rfl⟩)
   go_ret
   exact⟨by simp,Below.refl _ _⟩
 . rw[if_neg hn]
   have hn':800000000<n:=by omega
   go_enter Tryz.func86,Tryz.ntmps86
   go_wp2_with (go_at_call 81;(with_reducible refine ax (jU _ _ _) ?_);rintro e w9 ⟨rfl,rfl⟩)
   go_ret
   exact⟨by simp,Below.refl _ _⟩
theorem apl (c:bz.d_)(s:bz.St)(b1 b2:Nat)(t1 t2:TypeId)(w:World)(h1:w.heap[b1]? = some (.cells #[.int .i64 c.jm,.int .i64 c.jG,.int .i64 c.least,.int .i64 c.most,.int .i64 c.f0,.int .i64 c.f1,.int .i64 c.h0,.int .i64 c.h1,.int .i64 c.bu,.int .i64 c.mJ,.int .i64 c.phi] t1 (0,0)))
    (h2:w.heap[b2]? = some (.cells #[.int .i64 s.dB,.int .i64 s.dK,.int .i64 s.di,.int .i64 s.dE,.int .i64 s.gK,.int .i64 s.gJ,.int .i64 s.wlo,.int .i64 s.whi] t2 (0,0))) :
    Calls Tryz.prog 84 #[.pointer (some ⟨b1,0,none⟩),.pointer (some ⟨b2,0,none⟩)] w fun e w'=>e=.returned (.int .i64 (if (uz c s).2=0/\(uz c s).1=1 then 0 else 7))/\Below w.heap.size w w':=by
 obtain⟨a0,a1,a2,a3,a4,a5,a6,a7,a8,a9,a10⟩:=xY h1
 have r:=(ah h2).2.1
 obtain⟨d0,d1,d2,d3,d4,d5,d6,d7⟩:=rc8 h2
 have z1:=(aF h1)
 have z2:=(aF h2)
 have kS:=ai (JQ c s w)
 clear h1 h2 r
 obtain⟨⟨u,v⟩,hr⟩:∃r,uz c s=r:=⟨_,rfl⟩
 rw[hr] at kS
 rw[hr]
 clear hr
 dsimp only at kS ⊢
 cases hv:(v == 0)
 . have hv':¬ v=0:=by simpa using hv
   rw[if_neg (fun h=>hv' h.1)]
   go_enter Tryz.func84,Tryz.ntmps84
   go_wp2_with (first|(go_at_call 44;(with_reducible refine ax kS.out ?_);rintro e w2 ⟨rfl,hB2⟩)|(go_at_call 81;(with_reducible refine ax (jU _ _ _) ?_);rintro e w9 ⟨rfl,rfl⟩))
   go_ret
   exact⟨by simp,hB2⟩
 . cases hu:(u == 1)
   . have hu':¬ u=1:=by simpa using hu
     rw[if_neg (fun h=>hu' h.2)]
     go_enter Tryz.func84,Tryz.ntmps84
     go_wp2_with (first|(go_at_call 44;(with_reducible refine ax kS.out ?_);rintro e w2 ⟨rfl,hB2⟩)|(go_at_call 81;(with_reducible refine ax (jU _ _ _) ?_);rintro e w9 ⟨rfl,rfl⟩))
     go_ret
     exact⟨by simp,hB2⟩
   . rw[if_pos ⟨by simpa using hv,by simpa using hu⟩]
     go_enter Tryz.func84,Tryz.ntmps84
     go_wp2_with (first|(go_at_call 44;(with_reducible refine ax kS.out ?_);rintro e w2 ⟨rfl,hB2⟩)|(go_at_call 81;(with_reducible refine ax (jU _ _ _) ?_);rintro e w9 ⟨rfl,rfl⟩))
     go_ret
     exact⟨by simp,hB2⟩
theorem apj {B d:Nat}{r:ND}{ds:List DC}{rs:List Rm}(w:World)(h:ed B d r ds rs w)(h0:0<rs.length)(we:We)(hwe:(ny rs 0).we=we)(ok:we.Ok)(hl:2<=(aQ ds 0).line/\(aQ ds 0).line<=we.aS - 1)(hb:0<=(aQ ds 0).m.begin/\(aQ ds 0).m.begin<(aQ ds 0).m.opn.length)(h8:(aQ ds 0).m.opn.length<=8)
    (b0 b1 b2:Nat) (t0 t1 t2:TypeId) (r0:w.heap[b0]? = some (.cells #[.pointer (some ⟨d,0,none⟩)] t0 (0,0))) (r1:w.heap[b1]? = some (.cells #[.int .i64 0] t1 (0,0))) (r2:w.heap[b2]? = some (.cells #[.int .i64 1] t2 (0,0))) :
    Calls Tryz.prog 80 #[.pointer (some ⟨b0,0,none⟩),.pointer (some ⟨b1,0,none⟩),.pointer (some ⟨b2,0,none⟩)] w (dI (.int .i64 (if (oQ we (aQ ds 0).line && oW (aQ ds 0).m)=true then 0 else 6)) w):=by
 have kF:=ai (JX w h h0 we hwe ok hl)
 have kL:=ai fun(X:World) (hX:Below w.heap.size w X)=>ae8 X (h.mono hX) h0 hb h8
 obtain⟨c0,z0⟩:=uw r0
 obtain⟨c1,z1⟩:=uw r1
 obtain⟨c2,z2⟩:=uw r2
 have hrg:=ai fun(X:World) (hX:Below w.heap.size w X)=>(⟨uw (ak hX r0),uw (ak hX r1),uw (ak hX r2)⟩:_/\_/\_)
 clear h r0 r1 r2 ok hl hb h8
 obtain⟨tf,hf⟩:=aG (oQ we (aQ ds 0).line)
 obtain⟨tl,hlt⟩:=aG (oW (aQ ds 0).m)
 rw[hf] at kF
 rw[hlt] at kL
 rw[hf,hlt]
 replace hf:=ai hf
 replace hlt:=ai hlt
 cases tf
 . go_enter Tryz.func80,Tryz.ntmps80
   go_wp2_with (first|(go_at_call 43;(with_reducible refine ax kF.out ?_);rintro e w2 ⟨rfl,hB2⟩;clear c0 z0 c1 z1 c2 z2;obtain⟨⟨c0,z0⟩,⟨c1,z1⟩,⟨c2,z2⟩⟩:=hrg.out _ hB2)|(go_at_call 81;(with_reducible refine ax (jU _ _ _) ?_);rintro e w9 ⟨rfl,rfl⟩))
   go_ret
   exact⟨by simp,hB2⟩
 . cases tl
   all_goals
    go_enter Tryz.func80,Tryz.ntmps80
    go_wp2_with (first|(go_at_call 43;(with_reducible refine ax kF.out ?_);rintro e w2 ⟨rfl,hB2⟩;clear c0 z0 c1 z1 c2 z2;obtain⟨⟨c0,z0⟩,⟨c1,z1⟩,⟨c2,z2⟩⟩:=hrg.out _ hB2)|(go_at_call 82;(with_reducible refine ax (kL.out _ hB2) ?_);rintro e w3 ⟨rfl,hB3⟩)|(go_at_call 81;(with_reducible refine ax (jU _ _ _) ?_);rintro e w9 ⟨rfl,rfl⟩))
    go_ret
    exact⟨by simp,aj hB2 hB3⟩
theorem apm (o:bz.Out)(t0:Bool)(nf:Nat)(nb:Array Value)(b1 b2:Nat)(t1 t2:TypeId)(w:World)(en:∀args w,(callFunc nf args).run Tryz.prog w=.ok (.enter nf args) w)(h1:w.heap[b1]? = some (.cells #[.func (.func nf) #[] nb] t1 (0,0)))
    (h2:w.heap[b2]? = some (.cells #[.int .i64 o.dB,.int .i64 o.dK,.int .i64 o.di,.int .i64 o.dE,.int .i64 o.wlo,.int .i64 o.whi] t2 (0,0))) (hm:Calls Tryz.prog nf (#[G.l9 o] ++ nb) w (dI (.bool t0) w)) :
    Calls Tryz.prog 85 #[.pointer (some ⟨b1,0,none⟩),.pointer (some ⟨b2,0,none⟩)] w (dI (.int .i64 (if t0=true then 0 else 7)) w):=by
 obtain⟨c0,z0⟩:=uw h1
 obtain⟨d0,d1,d2,d3,d4,d5⟩:=oN h2
 have z2:=(aF h2)
 replace hm:=ai hm
 clear h1 h2
 cases t0
 all_goals
  go_enter Tryz.func85,Tryz.ntmps85
  go_wp2_with (first|(go_at_call 81;(with_reducible refine ax (jU _ _ _) ?_);rintro e w9 ⟨rfl,rfl⟩)|((with_reducible refine ax hm.out ?_);rintro e w2 ⟨rfl,hB2⟩))
  go_ret
  exact⟨by simp,hB2⟩
def qO (dm ay:Int)(o:bz.Out):Bool:=inB dm (16*(ay - o.dE)+2*o.dE) (16*(ay - o.di)+2*o.di)
theorem out1 (o:bz.Out)(dm ay:Int)(b1 b2:Nat)(t1 t2:TypeId)(w:World)(hm:0<=ay/\ay<=20000000)(hy : -100000000<=o.di/\o.di<=100000000/\-100000000<=o.dE/\o.dE<=100000000)(h1:w.heap[b1]? = some (.cells #[.int .i64 dm] t1 (0,0)))(h2:w.heap[b2]? = some (.cells #[.int .i64 ay] t2 (0,0))) :
    Calls Tryz.prog 39 #[G.l9 o,.pointer (some ⟨b1,0,none⟩),.pointer (some ⟨b2,0,none⟩)] w (dI (.bool (qO dm ay o)) w):=by
 obtain⟨W,hW⟩:=aG (w.alloc (.cells #[.int .i64 o.dB,.int .i64 o.dK,.int .i64 o.di,.int .i64 o.dE,.int .i64 o.wlo,.int .i64 o.whi] 56))
 obtain⟨e,bW,z⟩:=boxedB hW
 obtain⟨d0,d1,d2,d3,d4,d5⟩:=oN e
 obtain⟨c1,z1⟩:=uw (ak bW h1)
 obtain⟨c2,z2⟩:=uw (ak bW h2)
 have hBw:=ai bW
 have hg:=az W
 have kA:Hid (∀g:Grow W,Calls Tryz.prog 40 #[.int .i64 ay,.int .i64 o.dE] g.x (dI (.int .i64 (16*(ay - o.dE)+2*o.dE)) g.x)):=ai fun g=>(WA _ _ ⟨by omega,by omega⟩ ⟨by omega,by omega⟩ g.x).mono fun e w' ⟨he,hw⟩=>⟨he,hw ▸ Below.refl _ _⟩
 have kB:Hid (∀g:Grow W,Calls Tryz.prog 40 #[.int .i64 ay,.int .i64 o.di] g.x (dI (.int .i64 (16*(ay - o.di)+2*o.di)) g.x)):=ai fun g=>(WA _ _ ⟨by omega,by omega⟩ ⟨by omega,by omega⟩ g.x).mono fun e w' ⟨he,hw⟩=>⟨he,hw ▸ Below.refl _ _⟩
 obtain⟨t,ht⟩:=aG (qO dm ay o)
 have kC:Hid (∀g:Grow W,Calls Tryz.prog 38 #[.int .i64 dm,.int .i64 (16*(ay - o.dE)+2*o.dE),.int .i64 (16*(ay - o.di)+2*o.di)] g.x (dI (.bool t) g.x)):=ai fun g=>(nG (by rw[<- ht];rfl) g.x).mono fun e w' ⟨he,hw⟩=>⟨he,hw ▸ Below.refl _ _⟩
 rw[ht]
 replace ht:=ai ht
 clear e bW h1 h2
 go_enter Tryz.func39,Tryz.ntmps39
 go_wp2_with (fail)
 refine aH (by kernel_rfl) (by kernel_rfl) ?_
 repeat (go_big_quiet_step ((first|(go_at_call 40;first|(with_reducible exact Calls.grow (kA.out _))|(with_reducible exact Calls.grow (kB.out _)))|(go_at_call 38;with_reducible exact Calls.grow (kC.out _)))))
 refine wpQuiet_nil ?_
 rintro _ ⟨g,rfl⟩
 go_wp2_with (fail)
 go_ret
 exact⟨rfl,aj hBw.out g.h⟩
