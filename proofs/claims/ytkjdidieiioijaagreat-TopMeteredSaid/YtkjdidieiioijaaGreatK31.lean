/- Walks. -/
import Derived.Test.YtkjdidieiioijaaGreatK30
set_option linter.all false
set_option maxRecDepth 100000
set_option maxHeartbeats 16000000
namespace Dk
open Wl Tr
structure ND where
 k:Wk
 (cv vv rv NJ aeH first acts:Go.Value)
 (fin Xi:Int)
structure Rm where
 s:bz.St
 we:We
 pv:Go.Value
 tb:Nat
 came:Int
def rm0:Rm:=⟨⟨0,0,0,0,0,0,0,0⟩,⟨0,0,[]⟩,.slice none 0 0,0,0⟩
def ny (l:List Rm)(k:Nat):Rm:=l.getD k rm0
end Dk
namespace Go.Proofs.YtkjdidieiioijaaGreat.B
open Go.RowKit Go.Sd Wl Bk L Tr Dk
attribute [local go_sem] Oper.semAt_some
abbrev aib (r:ND):Obj:=.cells #[.int .i64 r.k.st.space,.int .i64 r.k.st.iq,.int .i64 r.k.st.out,.int .i64 r.k.st.lead,.int .i64 r.k.st.fuel,r.cv,r.vv,.int .i64 r.k.long,.int .i64 r.k.day,.int .i64 r.k.meter,r.rv,.int .i64 0,r.NJ,.int .i64 0,.int .i64 0,r.aeH,.slice none 0 0,.slice none 0 0,.slice none 0 0,.slice none 0 0,.int .i64 r.fin,.int .i64 r.Xi,.int .i64 0,r.first,.slice none 0 0,.slice none 0 0,r.acts,.bool true] 128
abbrev Yg (r:Rm):List Value:=[.int .i64 r.s.dB,.int .i64 r.s.dK,.int .i64 r.s.di,.int .i64 r.s.dE,.int .i64 r.s.gK,.int .i64 r.s.gJ,.int .i64 r.s.wlo,.int .i64 r.s.whi,.int .i64 r.we.aS,.int .i64 r.we.need,r.pv,.pointer (some ⟨r.tb,0,none⟩),.int .i64 r.came]
structure ed (B d:Nat)(r:ND)(ds:List DC)(rs:List Rm)(w:World):Prop where
 le:B<=d
 row:w.heap[d]? = some (aib r)
 len:ds.length=r.k.aW.length
 caps:ds.length<=3
 dcs:jP B (fun x=>GG x r.vv ds) w
 aS:w.ownsRow B 131 13 r.rv rs.length (rs.flatMap Yg)
 Yf:rs.length=ds.length
 parts:∀j,j<rs.length->jP B (fun x=>mY x (ny rs j).pv (ny rs j).we.parts) w
 stops:∀j,j<rs.length->jJ B (ny rs j).tb (aQ ds j).m w
 agG:∃a n c,r.acts=.slice a n c/\n<=90
theorem ed.keep {B d:Nat}{r:ND}{ds:List DC}{rs:List Rm}{w w':World}(h:ed B d r ds rs w)(hk:Kept (fun j=>B<=j) w w'):ed B d r ds rs w' :=
 ⟨h.le,(hk.block d (aF h.row) h.le).trans h.row,h.len,h.caps,h.dcs.keep hk,bT h.aS hk fun j hj=>(eF h.aS j hj).1,h.Yf,fun j hj=>(h.parts j hj).keep hk,fun j hj=>(h.stops j hj).keep hk,h.agG⟩
theorem ed.mono {B d:Nat}{r:ND}{ds:List DC}{rs:List Rm}{w w':World}(h:ed B d r ds rs w)(hb:Below w.heap.size w w'):ed B d r ds rs w':=h.keep (.all hb)
theorem jU (b:Bool)(n:Int)(w:World):Calls Tryz.prog 81 #[.bool b,.int .i64 n] w fun e w'=>e=.returned (.int .i64 (if b=true then 0 else n))/\w=w':=by
 cases b
 all_goals
  go_enter Tryz.func81,Tryz.ntmps81
  go_wp2_with (fail)
  go_ret
  exact⟨rfl,rfl⟩
theorem WA (a b:Int)(ha : -100000000<=a/\a<=100000000)(hb : -100000000<=b/\b<=100000000)(w:World):Calls Tryz.prog 40 #[.int .i64 a,.int .i64 b] w fun e w'=>e=.returned (.int .i64 (16*(a - b)+2*b))/\w=w':=by
 go_enter Tryz.func40,Tryz.ntmps40
 go_wp2_with (fail)
 go_ret
 exact⟨rfl,rfl⟩
section
variable {B d:Nat}{r:ND}{ds:List DC}{rs:List Rm}
theorem WB (w:World)(h:ed B d r ds rs w):Calls Tryz.prog 35 #[.pointer (some ⟨d,0,none⟩)] w fun e w'=>e=.returned (.bool false)/\w=w':=by
 have y27:w.cell? ⟨d,27,none⟩=some (.bool true):=(ah h.row).2.1 27
 have zb:=(aF h.row)
 clear h
 go_enter Tryz.func35,Tryz.ntmps35
 go_wp2_with (fail)
 go_ret
 exact⟨rfl,rfl⟩
theorem Wy (w:World)(h:ed B d r ds rs w):Calls Tryz.prog 79 #[.pointer (some ⟨d,0,none⟩)] w fun e w'=>e=.returned (.int .i64 0)/\w=w':=by
 have y11:w.cell? ⟨d,11,none⟩=some (.int .i64 0):=(ah h.row).2.1 11
 have zb:=(aF h.row)
 clear h
 go_enter Tryz.func79,Tryz.ntmps79
 go_wp2_with (fail)
 go_ret
 exact⟨rfl,rfl⟩
theorem SA (n:Int)(w:World)(h:ed B d r ds rs w):Calls Tryz.prog 37 #[.pointer (some ⟨d,0,none⟩),.int .i64 n] w fun e w'=>e=.returned (.bool (inB n 0 ((rs.length:Int) - 1)))/\w=w':=by
 have VU:w.cell? ⟨d,10,none⟩=some r.rv:=(ah h.row).2.1 10
 have zb:=(aF h.row)
 obtain⟨a,c,hr⟩:=dw h.aS
 rw[hr] at VU
 have h3:(0:Int)<=(rs.length:Int)/\(rs.length:Int)<=3:=by
  have:=h.caps
  have:=h.Yf
  omega
 clear h hr
 obtain⟨t,ht⟩:=aG (inB n 0 ((rs.length:Int) - 1))
 rw[ht]
 go_enter Tryz.func37,Tryz.ntmps37
 go_wp2_with (go_at_call 38;(with_reducible refine ax (nG (by assumption) _) ?_);rintro e w' ⟨rfl,rfl⟩)
 go_ret
 exact⟨rfl,rfl⟩
theorem ac1 (t:Bool)(n:Int)(w:World)(h:ed B d r ds rs w):Calls Tryz.prog 36 #[.pointer (some ⟨d,0,none⟩),.bool t,.int .i64 n] w fun e w'=>e=.returned (.int .i64 (if t=true then n else 2))/\w=w':=by
 have kH:=ai (Wy w h)
 have y26:w.cell? ⟨d,26,none⟩=some r.acts:=(ah h.row).2.1 26
 have zb:=(aF h.row)
 obtain⟨a,l,c,hr,hl⟩:=h.agG
 rw[hr] at y26
 have hli:(0:Int)<=(l:Int)/\(l:Int)<=90:=by omega
 clear h hr
 cases t
 all_goals
  go_enter Tryz.func36,Tryz.ntmps36
  go_wp2_with (go_at_call 79;(with_reducible refine ax kH.out ?_);rintro e w' ⟨rfl,rfl⟩)
  go_ret
  exact⟨rfl,rfl⟩
end
variable {B d:Nat}{r:ND}{ds:List DC}{rs:List Rm}
theorem ac3 (w:World)(h:ed B d r ds rs w)(hl:2<=r.k.long/\r.k.long<=24):Calls Tryz.prog 88 #[.pointer (some ⟨d,0,none⟩)] w (dI (.int .i64 0) w):=by
 have y7:w.cell? ⟨d,7,none⟩=some (.int .i64 r.k.long):=(ah h.row).2.1 7
 have zb:=(aF h.row)
 have kH:Hid (∀g:Grow w,Calls Tryz.prog 79 #[.pointer (some ⟨d,0,none⟩)] g.x (dI (.int .i64 0) g.x)):=ai fun g=>(Wy g.x (h.mono g.h)).mono fun e w' ⟨he,hw⟩=>⟨he,hw ▸ Below.refl _ _⟩
 have hg:=az w
 have hne:(r.k.long == 0)=false:=by simp;omega
 clear h
 go_enter Tryz.func88,Tryz.ntmps88
 go_wp2_with (fail)
 refine aH (by kernel_rfl) (by kernel_rfl) ?_
 repeat (go_big_quiet_step ((first|(go_at_call 79;with_reducible exact Calls.grow (kH.out _)))))
 refine wpQuiet_nil ?_
 rintro _ ⟨g,rfl⟩
 go_wp2_with (fail)
 go_ret
 exact⟨by simp,g.h⟩
theorem ae5 (w:World)(h:ed B d r ds rs w)(hl:2<=r.k.long/\r.k.long<=24)(hd:0<=r.k.day/\r.k.day<=1000):Calls Tryz.prog 45 #[.pointer (some ⟨d,0,none⟩)] w (dI (.int .i64 r.k.day) w):=by
 have y8:w.cell? ⟨d,8,none⟩=some (.int .i64 r.k.day):=(ah h.row).2.1 8
 have zb:=(aF h.row)
 have kH:Hid (∀g:Grow w,Calls Tryz.prog 88 #[.pointer (some ⟨d,0,none⟩)] g.x (dI (.int .i64 0) g.x)):=ai fun g=>ac3 g.x (h.mono g.h) hl
 have hg:=az w
 clear h hl
 go_enter Tryz.func45,Tryz.ntmps45
 go_wp2_with (fail)
 refine aH (by kernel_rfl) (by kernel_rfl) ?_
 repeat (go_big_quiet_step ((first|(go_at_call 88;with_reducible exact Calls.grow (kH.out _)))))
 refine wpQuiet_nil ?_
 rintro _ ⟨g,rfl⟩
 go_wp2_with (fail)
 go_ret
 exact⟨by simp,g.h⟩
theorem CE {w:World}(h:ed B d r ds rs w){k:Nat}(hk:k<rs.length):∃g cap,r.rv=.slice (some ⟨g,0,none⟩) rs.length cap/\B<=g/\g<w.heap.size/\(∀i,w.frozen? ⟨g,i,none⟩=false)/\∀i u,(Yg (ny rs k))[i]? = some u->w.cell? ⟨g,k*13+i,none⟩=some u:=by
 obtain⟨g,cap,he,hB,hlt,-,-,hf,hc⟩:=Qw h.aS (by omega)
 refine⟨g,cap,he,hB,hlt,hf,fun i u hu=>hc _ _ ?_⟩
 have hi:i<13:=(List.getElem?_eq_some_iff.1 hu).1
 rw[uF (m:=13) (enc:=Yg) (fun _=>rfl) rm0 rs k i hk hi]
 exact hu
def oW (m:iY):Bool:=bits BinOp.and IntKind.i64 (Lk.at0 m.opn m.begin.toNat / 2) 1 == 1
theorem ae8 (w:World)(h:ed B d r ds rs w)(h0:0<rs.length)(hb:0<=(aQ ds 0).m.begin/\(aQ ds 0).m.begin<(aQ ds 0).m.opn.length)(h8:(aQ ds 0).m.opn.length<=8):Calls Tryz.prog 82 #[.pointer (some ⟨d,0,none⟩),.int .i64 0,.int .i64 1] w (dI (.bool (oW (aQ ds 0).m)) w):=by
 have VU:w.cell? ⟨d,10,none⟩=some r.rv:=(ah h.row).2.1 10
 have zb:=(aF h.row)
 obtain⟨g,cap,hr,-,hgl,-,hc⟩:=CE h h0
 have c11:w.cell? ⟨g,11,none⟩=some (.pointer (some ⟨(ny rs 0).tb,0,none⟩)):=by simpa using hc 11 _ rfl
 rw[hr] at VU
 have hli:(0:Int)<(rs.length:Int):=by omega
 have kS:=ai (Ud w (h.stops 0 h0) hb h8)
 clear h hc hr hb h8
 unfold oW
 go_enter Tryz.func82,Tryz.ntmps82
 go_wp2_with (go_at_call 46;(with_reducible refine ax kS.out ?_);rintro e w' ⟨rfl,hB⟩)
 go_ret
 exact⟨rfl,hB⟩
end Go.Proofs.YtkjdidieiioijaaGreat.B
namespace Dk
open Wl Tr
def bAt (l:List Bool)(k:Nat):Bool:=l.getD k false
def AL (m:List Bool)(p:Pa):List Bool:=if (p.opn && (bAt m p.one.toNat || bAt m p.other.toNat))=true then(m.set p.one.toNat true).set p.other.toNat true else m
def lL (l:List Pa)(m:List Bool):Nat->List Bool
 | 0=>m
 | k+1=>AL (lL l m k) (cu l k)
def jr (l:List Pa)(m:List Bool):Nat->List Bool
 | 0=>m
 | n+1=>lL l (jr l m n) l.length
def yf (n:Nat):List Bool:=(List.replicate n false).set 0 true
def oQ (we:We)(line:Int):Bool:=bAt (jr we.parts (yf we.aS.toNat) we.aS.toNat) line.toNat
theorem UJ (m:List Bool)(p:Pa):(AL m p).length=m.length:=by
 unfold AL
 split <;> simp
theorem Gq (l:List Pa)(m:List Bool):∀k,(lL l m k).length=m.length
 | 0=>rfl
 | k+1=>by rw[lL,UJ,Gq l m k]
theorem Gi (l:List Pa)(m:List Bool):∀k,(jr l m k).length=m.length
 | 0=>rfl
 | k+1=>by rw[jr,Gq,Gi l m k]
theorem XA (n:Nat):(yf n).length=n:=by simp[yf]
end Dk
namespace Go.Proofs.YtkjdidieiioijaaGreat.B
open Go.RowKit Go.Sd Wl Bk L Tr Dk
def b_ (b:Nat)(w:World)(ns:List Bool):Prop:=w.heap[b]? = some (.cells (ns.map Value.bool).toArray 4 (0,0))
theorem b_.mono {b:Nat}{w w':World}{ns:List Bool}(h:b_ b w ns)(hb:Below w.heap.size w w'):b_ b w' ns:=(hb.block b (aF h)).trans h
theorem b_.cell {b:Nat}{w:World}{ns:List Bool}(h:b_ b w ns){k:Nat}(hk:k<ns.length):w.cell? ⟨b,k,none⟩=some (.bool (bAt ns k))/\w.frozen? ⟨b,k,none⟩=false:=by
 rw[cell_of_row w b k _ _ (0,0) h]
 refine⟨?_,frozen_of_row w b k _ _ h⟩
 simp[bAt,hk]
theorem b_.lt {b:Nat}{w:World}{ns:List Bool}(h:b_ b w ns):b<w.heap.size:=(aF h)
theorem b_.set {b:Nat}{w:World}{ns:List Bool}(h:b_ b w ns)(k:Nat)(y:Bool):b_ b (w.setCell ⟨b,k,none⟩ (.bool y)) (ns.set k y):=by
 unfold b_ at *
 rw[aX h]
 simp[List.map_set]
theorem amT:(Tryz.prog.info? 4).map (fun i=>(i.zero,i.size,i.bytes))=some (some (.bool false),1,1):=by kernel_rfl
theorem Zp (w:World)(n:Nat)(hn:n<=1000):(Instr.makeSlice 204 (.int .i64 (n:Int)) (.int .i64 (n:Int))).run Tryz.prog w =
    .ok (.slice (some ⟨w.heap.size,0,none⟩) n n) (w.alloc (.cells (Array.replicate n (.bool false)) 4)):=by
 obtain⟨i0,hi,hz0,hz1,hz2⟩:=info_parts amT
 have h:=run_makeSlice (P:=Tryz.prog) w 204 4 i0 (.bool false) Tryz.underlying204 hi hz0 .i64 .i64 (n:Int) (n:Int) (by omega) (by omega) (by rw[hz1];omega) (by rw[hz2];omega) (by omega)
 rw[hz1,Int.toNat_natCast,Nat.mul_one,show Value.cells (.bool false)=#[.bool false] from rfl,ab7] at h
 exact h
theorem b_.made (w:World)(n:Nat):b_ w.heap.size (w.alloc (.cells (Array.replicate n (.bool false)) 4)) (List.replicate n false):=by
 unfold b_
 rw[World.alloc_heap_new]
 simp
attribute [local go_sem] Oper.semAt_some
theorem JX {B d:Nat}{r:ND}{ds:List DC}{rs:List Rm}(w:World)(h:ed B d r ds rs w)(h0:0<rs.length)(we:We)(hwe:(ny rs 0).we=we)(ok:we.Ok)(hl:2<=(aQ ds 0).line/\(aQ ds 0).line<=we.aS - 1):Calls Tryz.prog 43 #[.pointer (some ⟨d,0,none⟩),.int .i64 0] w (dI (.bool (oQ we (aQ ds 0).line)) w):=by
 obtain⟨n,hn⟩:=Int.eq_ofNat_of_zero_le (show 0<=we.aS by have:=ok.aS;omega)
 obtain⟨ln,hln⟩:=Int.eq_ofNat_of_zero_le (show 0<=(aQ ds 0).line by omega)
 have hr8:=ok.aS
 have apH:=ai ok.ends
 have awQ:=ok.parts
 have hfl:oQ we (aQ ds 0).line=bAt (jr we.parts (yf n) n) ln:=by unfold oQ;rw[hn,hln];rfl
 rw[hfl]
 obtain⟨g,cap,hr,-,hgl,-,hc⟩:=CE h h0
 have hpa:=(h.parts 0 h0).now
 rw[hwe] at hpa
 have c8:w.cell? ⟨g,8,none⟩=some (.int .i64 n):=by have h1:=hc 8 _ rfl;rw[hwe,hn] at h1;simpa using h1
 have c9:w.cell? ⟨g,9,none⟩=some (.int .i64 we.need):=by have h1:=hc 9 _ rfl;rw[hwe] at h1;simpa using h1
 have c10:w.cell? ⟨g,10,none⟩=some (ny rs 0).pv:=by simpa using hc 10 _ rfl
 obtain⟨pb,Nu,Aj,hpv,hpl,hpx⟩:=zt hpa (by omega)
 rw[hpv] at c10
 have VU:w.cell? ⟨d,10,none⟩=some r.rv:=(ah h.row).2.1 10
 have y6:w.cell? ⟨d,6,none⟩=some r.vv:=(ah h.row).2.1 6
 have zb:=(aF h.row)
 rw[hr] at VU
 have hd3:=h.caps
 have hrl:=h.Yf
 obtain⟨vb,voff,aed,hvv,hvl,hvx⟩:=zt h.dcs.now.els (by omega)
 have cl:w.cell? ⟨vb,voff+32,none⟩=some (.int .i64 ln):=by
  have h1:=hvx 0 32 _ (by omega) rfl
  rw[Nat.zero_mul,Nat.add_zero] at h1
  rw[h1]
  exact congrArg (fun z=>some (Value.int .i64 z)) hln
 rw[hvv] at y6
 have hlt2:ln<n/\n<=8/\2<=n:=by omega
 have hli:(0:Int)<(rs.length:Int)/\(0:Int)<(ds.length:Int):=by omega
 obtain⟨W1,hW1⟩:=aG (w.alloc (.cells #[.int .i64 (n:Int),.int .i64 we.need,.slice (some ⟨pb,Nu,none⟩) we.parts.length Aj] 46))
 obtain⟨e1,b1,z1⟩:=boxedB hW1
 obtain⟨u0,u1,u2⟩:=TS e1
 have hmk:=Zp W1 n (by omega)
 obtain⟨W2,hW2⟩:=aG (W1.alloc (.cells (Array.replicate n (.bool false)) 4))
 rw[hW2] at hmk
 obtain⟨e2,b2,z2⟩:=boxedB hW2
 have m0:=b_.made W1 n
 rw[hW2] at m0
 have hfr:∀i,W2.frozen? ⟨W1.heap.size,i,none⟩=false:=fun i=>frozen_of_row W2 _ i _ _ e2
 have asT:=(b_.cell m0 (k:=0) (by simp;omega)).1
 obtain⟨V,hV⟩:=aG (W2.setCell ⟨W1.heap.size,0,none⟩ (.bool true))
 have m1:=b_.set m0 0 true
 rw[hV] at m1
 have kV:Kept (fun j=>j≠W1.heap.size) W2 V:=by rw[<- hV];exact(Kept.refl _ _).setCell (p:=⟨W1.heap.size,0,none⟩) (.inl fun h=>h rfl) _
 have hBW:=aj b1 b2
 have up:∀{b o:Nat} {u:Value} {X:World},Kept (fun j=>j≠W1.heap.size) W2 X->w.cell? ⟨b,o,none⟩=some u->X.cell? ⟨b,o,none⟩=some u:=by
  intro b o u X hk hv
  have h2:b<w.heap.size:=World.block_lt_of_cell? w ⟨b,o,none⟩ hv
  exact au (ae hBW hv) hk (show b≠W1.heap.size by omega)
 have hrw:Hid (∀X,Kept (fun j=>j≠W1.heap.size) W2 X->X.cell? ⟨w.heap.size,0,none⟩=some (.int .i64 (n:Int))/\X.cell? ⟨w.heap.size,2,none⟩=some (.slice (some ⟨pb,Nu,none⟩) we.parts.length Aj)/\w.heap.size<X.heap.size):=ai fun X hX=>by
  have h1:=TS ((hX.block w.heap.size (by omega) (by omega)).trans (ak b2 e1))
  exact⟨h1.1,h1.2.2,bM (show w.heap.size<W2.heap.size by omega) hX.size⟩
 have hdk:Hid (∀X,Kept (fun j=>j≠W1.heap.size) W2 X->X.cell? ⟨d,6,none⟩=some (.slice (some ⟨vb,voff,none⟩) ds.length aed)/\X.cell? ⟨vb,voff+32,none⟩=some (.int .i64 ln)/\d<X.heap.size):=ai fun X hX=>⟨up hX y6,up hX cl,by have:=hX.size;omega⟩
 have hpp:Hid (∀X,Kept (fun j=>j≠W1.heap.size) W2 X->∀j,j<we.parts.length->∀i u,(Qx (cu we.parts j))[i]? = some u->X.cell? ⟨pb,Nu+j*9+i,none⟩=some u):=ai fun X hX j hj i u hu=>up hX (hpx j i u hj hu)
 obtain⟨v0,v2,v3⟩:=hrw.out V kV
 have hBh:=ai hBW
 have zs:=ai (show w.heap.size<W1.heap.size/\W1.heap.size<W2.heap.size/\W2.heap.size<=V.heap.size from⟨z1,z2,kV.size⟩)
 have zV:W1.heap.size<W2.heap.size:=z2
 have hm1:=ai (show b_ W1.heap.size V (yf n) from m1)
 have kVh:=ai kV
 have hnn:(0:Int)<(n:Int)/\(n:Int)<=8:=by omega
 have hnh:=ai hn
 have hwh:=ai hwe
 clear h hc hpa hpv hpx hvx hvv hr e1 e2 b1 b2 m0 m1 kV hBW up hfl hl hr8 hn hln hwe ok
 go_enter Tryz.func43,Tryz.ntmps43
 go_wp2_with (fail)
 go_loopw [24] (fun i wr=>∃k:Nat,k<=n/\i=.int .i64 k/\Hid (b_ W1.heap.size wr (jr we.parts (yf n) k)/\Kept (fun j=>j≠W1.heap.size) W2 wr)) (fun i _=>n - (intOf i).toNat)
 case atStart=>exact⟨0,by omega,rfl,ai ⟨hm1.out,kVh.out⟩⟩
 case round =>
  clear u0 u1 u2 hmk hfr asT hV v0 v2 v3 c8 c9 c10 VU y6
  obtain⟨k,hk,rfl,hH⟩:=hrel
  obtain⟨v0,v2,v3⟩:=hrw.out wr hH.out.2
  by_cases hkn:k<n
  . go_wp2_with (fail)
    go_loopw [29] (fun i wr=>∃j:Nat,j<=we.parts.length/\i=.int .i64 j/\Hid (b_ W1.heap.size wr (lL we.parts (jr we.parts (yf n) k) j)/\Kept (fun j=>j≠W1.heap.size) W2 wr)) (fun i _=>we.parts.length - (intOf i).toNat)
    case atStart=>exact⟨0,by omega,rfl,hH⟩
    case round =>
     clear v0 v2 v3
     obtain⟨j,hj,rfl,hI⟩:=hrel
     by_cases hjl:j<we.parts.length
     . have hx:=hpp.out wr hI.out.2 j hjl
       have c0:wr.cell? ⟨pb,Nu+j*9,none⟩=some (.int .i64 (cu we.parts j).one):=hx 0 _ rfl
       have c1:wr.cell? ⟨pb,Nu+j*9+1,none⟩=some (.int .i64 (cu we.parts j).other):=hx 1 _ rfl
       have c2:wr.cell? ⟨pb,Nu+j*9+2,none⟩=some (.bool (cu we.parts j).Ac):=hx 2 _ rfl
       have c3:wr.cell? ⟨pb,Nu+j*9+3,none⟩=some (.bool (cu we.parts j).opn):=hx 3 _ rfl
       have c4:wr.cell? ⟨pb,Nu+j*9+4,none⟩=some (.int .i64 (cu we.parts j).tested):=hx 4 _ rfl
       have c5:wr.cell? ⟨pb,Nu+j*9+5,none⟩=some (.int .i64 (cu we.parts j).valid):=hx 5 _ rfl
       have c6:wr.cell? ⟨pb,Nu+j*9+6,none⟩=some (.bool (cu we.parts j).bad):=hx 6 _ rfl
       have c7:wr.cell? ⟨pb,Nu+j*9+7,none⟩=some (.int .i64 (cu we.parts j).test):=hx 7 _ rfl
       have c8:wr.cell? ⟨pb,Nu+j*9+8,none⟩=some (.int .i64 (cu we.parts j).change):=hx 8 _ rfl
       have hji:(0:Int)<=(j:Int)/\(j:Int)<we.parts.length:=by omega
       have hen:=apH.out j hjl
       rw[hnh.out] at hen
       obtain⟨a,ha⟩:=Int.eq_ofNat_of_zero_le hen.1
       obtain⟨b,hb⟩:=Int.eq_ofNat_of_zero_le hen.2.2.1
       have hst:lL we.parts (jr we.parts (yf n) k) (j+1)=if ((cu we.parts j).opn && (bAt (lL we.parts (jr we.parts (yf n) k) j) a || bAt (lL we.parts (jr we.parts (yf n) k) j) b))=true then((lL we.parts (jr we.parts (yf n) k) j).set a true).set b true else lL we.parts (jr we.parts (yf n) k) j:=by
        rw[show lL we.parts (jr we.parts (yf n) k) (j+1)=AL (lL we.parts (jr we.parts (yf n) k) j) (cu we.parts j) from rfl]
        unfold AL
        rw[ha,hb]
        rfl
       have hlen:(lL we.parts (jr we.parts (yf n) k) j).length=n:=by rw[Gq,Gi,XA]
       have hmt:=hI.out.1
       have hkp:=hI.out.2
       generalize lL we.parts (jr we.parts (yf n) k) j=mm at *
       rw[ha] at c0
       rw[hb] at c1
       have hab:a<n/\b<n:=by omega
       have awH:(0:Int)<=(a:Int)/\(a:Int)<n/\(0:Int)<=(b:Int)/\(b:Int)<n:=by omega
       obtain⟨X,hX⟩:=aG (wr.alloc (.cells #[.int .i64 a,.int .i64 b,.bool (cu we.parts j).Ac,.bool (cu we.parts j).opn,.int .i64 (cu we.parts j).tested,.int .i64 (cu we.parts j).valid,.bool (cu we.parts j).bad,.int .i64 (cu we.parts j).test,.int .i64 (cu we.parts j).change] 160))
       obtain⟨eX,bX,zX⟩:=boxedB hX
       obtain⟨n0,n1,n2,n3,n4,n5,n6,n7,n8⟩:=ZR eX
       have hmX:=b_.mono hmt bX
       obtain⟨ca,cf⟩:=b_.cell hmX (k:=a) (by omega)
       obtain⟨cb,cg⟩:=b_.cell hmX (k:=b) (by omega)
       have zm:=b_.lt hmX
       have hkX:=hkp.trans (Kept.all bX)
       obtain⟨bo,ho⟩:=aG ((cu we.parts j).opn)
       obtain⟨ba,hba⟩:=aG (bAt mm a)
       obtain⟨bb,hbb⟩:=aG (bAt mm b)
       rw[ho] at hst n3 c3 hX
       rw[hba] at hst ca
       rw[hbb] at hst cb
       replace hst:=ai hst
       replace hmX:=ai hmX
       replace hkX:=ai hkX
       have zwr:W1.heap.size<wr.heap.size:=bM zV hkp.size
       clear hx ho hba hbb ha hb hen eX bX hmt hkp hI
       cases bo
       . have hfin:Hid (b_ W1.heap.size X (lL we.parts (jr we.parts (yf n) k) (j+1))/\Kept (fun j=>j≠W1.heap.size) W2 X):=ai ⟨by rw[hst.out];exact hmX.out,hkX.out⟩
         go_wp2_with (fail)
         exact⟨⟨j+1,by omega,by go_num,hfin⟩,by simp[intOf];omega⟩
       cases ba
       . cases bb
         . have hfin:Hid (b_ W1.heap.size X (lL we.parts (jr we.parts (yf n) k) (j+1))/\Kept (fun j=>j≠W1.heap.size) W2 X):=ai ⟨by rw[hst.out];exact hmX.out,hkX.out⟩
           go_wp2_with (fail)
           exact⟨⟨j+1,by omega,by go_num,hfin⟩,by simp[intOf];omega⟩
         . go_wp2_with (fail)
           have AQ:wr.heap.size≠W1.heap.size:=by omega
           obtain⟨Y0,hY0⟩:=aG (X.drew)
           have Xu:Kept (fun j=>j≠W1.heap.size) X Y0:=by rw[<- hY0];exact(Kept.refl _ _).drew
           have mY0:b_ W1.heap.size Y0 mm:=by rw[<- hY0];exact hmX.out
           refine wp_region_noPanic ?_
           refine wp_region_any (by kernel_rfl) ?_
           show wpAny _ _ _ _ (9+1) #[false,false,false,false,false,false,false,false,false,false] _ X.drew
           rw[hY0]
           refine dY (n:=9) (S:=Kept (fun j=>j≠W1.heap.size) X) (f:=9) rfl ?_
           refine dL 0 (.slice (some ⟨W1.heap.size,0,none⟩) n n) 49 Xu ?_ ?_
           . intro w' hSw;(have m0:=au n0 hSw AQ);(have m1:=au n1 hSw AQ);go_simp
           refine dL 1 (.pointer (some ⟨wr.heap.size,0,none⟩)) 50 Xu ?_ ?_
           . intro w' hSw;go_simp
           refine dL 2 (.int .i64 a) 51 Xu ?_ ?_
           . intro w' hSw;(have m0:=au n0 hSw AQ);(have m1:=au n1 hSw AQ);go_simp
           refine dL 3 (.slice (some ⟨W1.heap.size,0,none⟩) n n) 52 Xu ?_ ?_
           . intro w' hSw;(have m0:=au n0 hSw AQ);(have m1:=au n1 hSw AQ);go_simp
           try simp only[bH,aI]
           refine dL 4 (.pointer (some ⟨wr.heap.size,1,none⟩)) 53 Xu ?_ ?_
           . intro w' hSw;go_simp
           refine dL 5 (.int .i64 b) 54 Xu ?_ ?_
           . intro w' hSw;(have m0:=au n0 hSw AQ);(have m1:=au n1 hSw AQ);go_simp
           refine dL 6 (.pointer (some ⟨W1.heap.size,a,none⟩)) 55 Xu ?_ ?_
           . intro w' hSw;go_simp
           try simp only[bH,aI]
           refine dh (i:=7) rfl (by kernel_rfl) (by decide) (fun K hK=>?_)
           obtain⟨da,df⟩:=b_.cell mY0 (k:=a) (by omega)
           have zy0:=b_.lt mY0
           obtain⟨Y1,hY1⟩:=aG (Y0.setCell ⟨W1.heap.size,a,none⟩ (.bool true))
           have kY1:Kept (fun j=>j≠W1.heap.size) X Y1:=by rw[<- hY1];exact Xu.trans ((Kept.refl _ _).setCell (p:=⟨W1.heap.size,a,none⟩) (.inl fun h=>h rfl) _)
           have mY1:b_ W1.heap.size Y1 (mm.set a true):=by rw[<- hY1];exact b_.set mY0 a true
           go_simp
           (try rw[hY1])
           refine hK.out _ _ kY1 ?_
           clear hK K
           refine dL 8 (.pointer (some ⟨W1.heap.size,b,none⟩)) 56 kY1 ?_ ?_
           . intro w' hSw;go_simp
           try simp only[bH,aI]
           refine⟨by kernel_rfl,?_⟩
           obtain⟨ea,ef⟩:=b_.cell mY1 (k:=b) (by rw[List.length_set];omega)
           have zy1:=b_.lt mY1
           obtain⟨Q,hQ⟩:=aG (Y1.setCell ⟨W1.heap.size,b,none⟩ (.bool true))
           have hfin:Hid (b_ W1.heap.size Q (lL we.parts (jr we.parts (yf n) k) (j+1))/\Kept (fun j=>j≠W1.heap.size) W2 Q):=ai ⟨by rw[hst.out,<- hQ];exact b_.set mY1 b true,by rw[<- hQ];exact hkX.out.trans (kY1.trans ((Kept.refl _ _).setCell (p:=⟨W1.heap.size,b,none⟩) (.inl fun h=>h rfl) _))⟩
           go_wp2_with (fail)
           refine NoPanic.normal ?_
           go_wp2_with (fail)
           exact⟨⟨j+1,by omega,by go_num,hfin⟩,by simp[intOf];omega⟩
       . go_wp2_with (fail)
         have AQ:wr.heap.size≠W1.heap.size:=by omega
         obtain⟨Y0,hY0⟩:=aG (X.drew)
         have Xu:Kept (fun j=>j≠W1.heap.size) X Y0:=by rw[<- hY0];exact(Kept.refl _ _).drew
         have mY0:b_ W1.heap.size Y0 mm:=by rw[<- hY0];exact hmX.out
         refine wp_region_noPanic ?_
         refine wp_region_any (by kernel_rfl) ?_
         show wpAny _ _ _ _ (9+1) #[false,false,false,false,false,false,false,false,false,false] _ X.drew
         rw[hY0]
         refine dY (n:=9) (S:=Kept (fun j=>j≠W1.heap.size) X) (f:=9) rfl ?_
         refine dL 0 (.slice (some ⟨W1.heap.size,0,none⟩) n n) 49 Xu ?_ ?_
         . intro w' hSw;(have m0:=au n0 hSw AQ);(have m1:=au n1 hSw AQ);go_simp
         refine dL 1 (.pointer (some ⟨wr.heap.size,0,none⟩)) 50 Xu ?_ ?_
         . intro w' hSw;go_simp
         refine dL 2 (.int .i64 a) 51 Xu ?_ ?_
         . intro w' hSw;(have m0:=au n0 hSw AQ);(have m1:=au n1 hSw AQ);go_simp
         refine dL 3 (.slice (some ⟨W1.heap.size,0,none⟩) n n) 52 Xu ?_ ?_
         . intro w' hSw;(have m0:=au n0 hSw AQ);(have m1:=au n1 hSw AQ);go_simp
         try simp only[bH,aI]
         refine dL 4 (.pointer (some ⟨wr.heap.size,1,none⟩)) 53 Xu ?_ ?_
         . intro w' hSw;go_simp
         refine dL 5 (.int .i64 b) 54 Xu ?_ ?_
         . intro w' hSw;(have m0:=au n0 hSw AQ);(have m1:=au n1 hSw AQ);go_simp
         refine dL 6 (.pointer (some ⟨W1.heap.size,a,none⟩)) 55 Xu ?_ ?_
         . intro w' hSw;go_simp
         try simp only[bH,aI]
         refine dh (i:=7) rfl (by kernel_rfl) (by decide) (fun K hK=>?_)
         obtain⟨da,df⟩:=b_.cell mY0 (k:=a) (by omega)
         have zy0:=b_.lt mY0
         obtain⟨Y1,hY1⟩:=aG (Y0.setCell ⟨W1.heap.size,a,none⟩ (.bool true))
         have kY1:Kept (fun j=>j≠W1.heap.size) X Y1:=by rw[<- hY1];exact Xu.trans ((Kept.refl _ _).setCell (p:=⟨W1.heap.size,a,none⟩) (.inl fun h=>h rfl) _)
         have mY1:b_ W1.heap.size Y1 (mm.set a true):=by rw[<- hY1];exact b_.set mY0 a true
         go_simp
         (try rw[hY1])
         refine hK.out _ _ kY1 ?_
         clear hK K
         refine dL 8 (.pointer (some ⟨W1.heap.size,b,none⟩)) 56 kY1 ?_ ?_
         . intro w' hSw;go_simp
         try simp only[bH,aI]
         refine⟨by kernel_rfl,?_⟩
         obtain⟨ea,ef⟩:=b_.cell mY1 (k:=b) (by rw[List.length_set];omega)
         have zy1:=b_.lt mY1
         obtain⟨Q,hQ⟩:=aG (Y1.setCell ⟨W1.heap.size,b,none⟩ (.bool true))
         have hfin:Hid (b_ W1.heap.size Q (lL we.parts (jr we.parts (yf n) k) (j+1))/\Kept (fun j=>j≠W1.heap.size) W2 Q):=ai ⟨by rw[hst.out,<- hQ];exact b_.set mY1 b true,by rw[<- hQ];exact hkX.out.trans (kY1.trans ((Kept.refl _ _).setCell (p:=⟨W1.heap.size,b,none⟩) (.inl fun h=>h rfl) _))⟩
         go_wp2_with (fail)
         refine NoPanic.normal ?_
         go_wp2_with (fail)
         exact⟨⟨j+1,by omega,by go_num,hfin⟩,by simp[intOf];omega⟩
     . obtain rfl:j=we.parts.length:=by omega
       go_wp2_with (fail)
       exact⟨⟨k+1,by omega,by go_num,hI⟩,by simp[intOf];omega⟩
  . obtain rfl:k=n:=by omega
    obtain⟨w6,w7,w8⟩:=hdk.out wr hH.out.2
    have hlen:(jr we.parts (yf k) k).length=k:=by rw[Gi,XA]
    obtain⟨ca,cf⟩:=b_.cell hH.out.1 (k:=ln) (by omega)
    have hfin:=ai (hBh.out.trans ((hH.out.2.mono fun j _ (h:j<w.heap.size)=>by omega).below (B:=w.heap.size) (by omega) fun j hj=>hj))
    have awO:(0:Int)<=(ln:Int)/\(ln:Int)<k:=by omega
    clear hH
    go_wp2_with (fail)
    go_ret
    exact⟨rfl,hfin.out⟩
