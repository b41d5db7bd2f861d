/- Walks. -/
import Derived.Test.YtkjdidieiioijaaGreatK34
set_option linter.all false
set_option maxRecDepth 100000
set_option maxHeartbeats 16000000
namespace Go.Proofs.YtkjdidieiioijaaGreat.G
open Go.RowKit Go.Sd bz
def GI (r:Option (Pt × Pt))(bp bs:Nat)(X:World)(e:Ending)(w':World):Prop:=Kept (fun k=>k≠bp/\k≠bs) X w'/\match r with
 | some (q,s)=>e=.returned (.tuple #[])/\w'.heap[bp]? = some (.cells #[.int .i64 q.g,.int .i64 q.y,.int .i64 q.t,.int .i64 q.w] 29 (0,0))/\w'.heap[bs]? = some (.cells #[.int .i64 s.g,.int .i64 s.y,.int .i64 s.t,.int .i64 s.w] 29 (0,0))
 | none=>∃str:ByteArray,e=.panicked (upV str)
theorem GI.yes {r:Option (Pt × Pt)}{q s:Pt}{bp bs:Nat}{X w':World}(h:r=some (q,s))(hk:Kept (fun k=>k≠bp/\k≠bs) X w')(h1:w'.heap[bp]? = some (.cells #[.int .i64 q.g,.int .i64 q.y,.int .i64 q.t,.int .i64 q.w] 29 (0,0)))(h2:w'.heap[bs]? = some (.cells #[.int .i64 s.g,.int .i64 s.y,.int .i64 s.t,.int .i64 s.w] 29 (0,0))):GI r bp bs X (.returned (.tuple #[])) w':=by
 subst h;exact⟨hk,rfl,h1,h2⟩
theorem GI.no {r:Option (Pt × Pt)}{bp bs:Nat}{X w':World}{str:ByteArray}(h:r=none)(hk:Kept (fun k=>k≠bp/\k≠bs) X w'):GI r bp bs X (.panicked (upV str)) w':=by
 subst h;exact⟨hk,str,rfl⟩
theorem Zr {c:d_}{q:Pt}{o:bz.Op}{u v:Int}(h:o.kind=1)(hk:(bD c q o.lot).ok=false):one c q o u v=none:=by unfold one;rw[if_pos h,hk];rfl
theorem ajM {c:d_}{q:Pt}{o:bz.Op}{u v:Int}(h:o.kind=1)(hk:(bD c q o.lot).ok=true):one c q o u v=some (bD c q o.lot,⟨0,0,0,0⟩):=by unfold one;rw[if_pos h,if_pos hk]
theorem XE {c:d_}{q:Pt}{o:bz.Op}{u v:Int}(h:o.kind=2)(hk:¬ o.ay<=q.g+q.y):one c q o u v=none:=by unfold one;rw[if_neg (by omega),if_pos h,if_neg hk]
theorem agI {c:d_}{q:Pt}{o:bz.Op}{u v:Int}(h:o.kind=2)(hk:o.ay<=q.g+q.y):one c q o u v=some (left q o.ay,bz.out q o.ay):=by unfold one;rw[if_neg (by omega),if_pos h,if_pos hk]
theorem XF {c:d_}{q:Pt}{o:bz.Op}{u v:Int}(h:o.kind=3)(hk:(rest c q u v).ok=false):one c q o u v=none:=by unfold one;rw[if_neg (by omega),if_neg (by omega),hk];rfl
theorem agJ {c:d_}{q:Pt}{o:bz.Op}{u v:Int}(h:o.kind=3)(hk:(rest c q u v).ok=true):one c q o u v=some (rest c q u v,⟨0,0,0,0⟩):=by unfold one;rw[if_neg (by omega),if_neg (by omega),if_pos hk]
theorem add_zero {s:Pt}(h:s.t=0):GK s ⟨0,0,0,0⟩=s:=by
 obtain⟨a,b,d,e⟩:=s;simp only at h;subst h;simp[GK]
set_option maxHeartbeats 40000000 in
theorem adK {bl bc bp bs ba bb:Nat}{lv av bv:Value}(c:d_)(p:Pt)(l:List bz.Op)(xa xb:List Int)(w0 X:World)(hc:c.Ok)(hp:p.Ok)(hlen:l.length<=20)(ho:IY l=true)(htr:lq l xa xb=true)
    (hl:GH w0 lv l) (ha:bK w0 av xa) (hb:bK w0 bv xb) (hB:Below w0.heap.size w0 X) (hbp:w0.heap.size<=bp) (hbs:w0.heap.size<=bs)
    (e0:X.heap[bl]? = some (.cells #[lv] 62 (0,0))) (e1:X.heap[bc]? = some (.cells #[.int .i64 c.jm,.int .i64 c.jG,.int .i64 c.least,.int .i64 c.most,.int .i64 c.f0,.int .i64 c.f1,.int .i64 c.h0,.int .i64 c.h1,.int .i64 c.bu,.int .i64 c.mJ,.int .i64 c.phi] 96 (0,0))) (e2:X.heap[bp]? = some (.cells #[.int .i64 p.g,.int .i64 p.y,.int .i64 p.t,.int .i64 p.w] 29 (0,0))) (e3:X.heap[bs]? = some (.cells #[.int .i64 0,.int .i64 0,.int .i64 0,.int .i64 0] 29 (0,0))) (e4:X.heap[ba]? = some (.cells #[av] 50 (0,0))) (e5:X.heap[bb]? = some (.cells #[bv] 50 (0,0)))
    (hne:bp≠bl/\bp≠bc/\bp≠bs/\bp≠ba/\bp≠bb/\bs≠bl/\bs≠bc/\bs≠ba/\bs≠bb) :
    Calls Tryz.prog 31 #[.pointer (some ⟨bl,0,none⟩),.pointer (some ⟨bc,0,none⟩),.pointer (some ⟨bp,0,none⟩),.pointer (some ⟨bs,0,none⟩),.pointer (some ⟨ba,0,none⟩),.pointer (some ⟨bb,0,none⟩)] X (GI (agR c p l xa xb) bp bs X):=by
 obtain⟨a,cap,rfl,hm,hcl⟩:=hl
 obtain⟨a1,cap1,rfl,hm1,hca⟩:=ha
 obtain⟨a2,cap2,rfl,hm2,hcb⟩:=hb
 obtain⟨hl1,hl2,htk⟩:=JS.1 htr
 have hm':l.length<=9223372036854775807:=by omega
 have as6:xa.length<=9223372036854775807:=by omega
 have as7:xb.length<=9223372036854775807:=by omega
 clear hm hm1 hm2
 have hcl:=ai hcl;have hca:=ai hca;have hcb:=ai hcb
 obtain⟨r,hr⟩:=aG (agR c p l xa xb)
 rw[hr]
 replace hr:=ai hr
 have htk:=ai htk
 have hoK:=ai (IZ.1 ho)
 have hpk:=ai (fun k q s hk h=>adC (c:=c) (a:=xa) (b:=xb) hp ho k q s hk h)
 clear ho htr
 obtain⟨n1,n2,n3,n4,n5,n6,n7,n8,n9⟩:=hne
 obtain⟨zl,rl,-⟩:=ah e0
 have ql:=rl 0
 obtain⟨zc,-,-⟩:=ah e1
 obtain⟨zp,-,-⟩:=ah e2
 obtain⟨zs,-,-⟩:=ah e3
 obtain⟨za,-,-⟩:=ah e4
 obtain⟨zb,-,-⟩:=ah e5
 simp only[List.getElem?_toArray,List.getElem?_cons_zero] at ql
 clear rl
 have e1:=ai e1;have e2:=ai e2;have e3:=ai e3;have e4:=ai e4;have e5:=ai e5
 clear e0
 go_enter Tryz.func31,Tryz.ntmps31
 go_wp2
 go_loopw [12] (fun i wr=>∃(k:Nat) (q s:Pt),k<=l.length/\i=.int .i64 k/\Hid (lM c p l xa xb k=some (q,s))/\Hid (wr.heap[bp]? = some (.cells #[.int .i64 q.g,.int .i64 q.y,.int .i64 q.t,.int .i64 q.w] 29 (0,0)))/\Hid (wr.heap[bs]? = some (.cells #[.int .i64 s.g,.int .i64 s.y,.int .i64 s.t,.int .i64 s.w] 29 (0,0)))/\Kept (fun k=>k≠bp/\k≠bs) X wr) (fun i _=>l.length - (intOf i).toNat)
 case atStart=>exact⟨0,p,⟨0,0,0,0⟩,Nat.zero_le _,rfl,ai rfl,e2,e3,Kept.refl _ _⟩
 case round =>
  obtain⟨k,q,s,hk,rfl,hpt,VS,hrs,hkp⟩:=hrel
  by_cases hlt:k<l.length
  case neg =>
   obtain rfl:k=l.length:=by omega
   have hres:Hid (r=some (q,s)):=ai (hr.out.symm.trans hpt.out)
   go_wp2
   exact⟨rfl,_,by simp[results,Tryz.results31,go_sem],GI.yes hres.out hkp VS.out hrs.out⟩
  obtain⟨b,off,rfl,hb,hcell⟩:=hcl.out (by omega)
  obtain⟨b1,Vh,rfl,hb1,hcell1⟩:=hca.out (by omega)
  obtain⟨b2,Vj,rfl,hb2,hcell2⟩:=hcb.out (by omega)
  have hBr:Below w0.heap.size w0 wr:=hB.trans (hkp.below hB.size fun j hj=>⟨by omega,by omega⟩)
  obtain⟨c0,c1,c2,c3,c4,c5,c6,c7,c8,c9⟩:=(hcell k hlt).mono hBr
  have d1:=ae hBr (hcell1 k (by omega))
  have d2:=ae hBr (hcell2 k (by omega))
  clear hcell hcell1 hcell2
  have hki:(k:Int)<(l.length:Int):=by omega
  have hka:(k:Int)<(xa.length:Int):=by omega
  have hkb:(k:Int)<(xb.length:Int):=by omega
  obtain⟨u,hue⟩:=aG (at0 xa k)
  obtain⟨v,Xq⟩:=aG (at0 xb k)
  rw[hue] at d1
  rw[Xq] at d2
  have hst:Hid (∀x g,one c q (iF l k) u v=some (x,g)->lM c p l xa xb (k+1)=some (x,GK s g)):=ai (fun x g h=>Lp hpt.out (by rw[hue,Xq];exact h))
  have hsn:Hid (one c q (iF l k) u v=none->r=none):=ai (fun h=>hr.out.symm.trans (XN hpt.out (by rw[hue,Xq];exact h) hlt))
  have hta:inB u (iF l k).lY (iF l k).lX=true/\inB v (iF l k).wlo (iF l k).whi=true:=by
   have:=htk.out k hlt
   unfold trueAt at this
   rw[hue,Xq,Bool.and_eq_true] at this
   exact this
  obtain⟨x,hxe⟩:=aG (iF l k)
  have his:=(Op.XC (hoK.out k hlt)).fit
  have hPO:=hpk.out k q s hk hpt.out
  have hsz:=hkp.size
  simp only[hxe] at c0 c1 c2 c3 c4 c5 c6 c7 c8 c9 his hst hsn hta
  clear hxe hue Xq hpk hoK htk hcl hca hcb hpt
  have hqo:=hPO.q
  have hsg:=hPO.g
  have hsy:=hPO.y
  have hsw:=hPO.w
  have hs0:=hPO.t
  clear hPO
  have awN:(k:Int)<=20:=by omega
  replace hst:=ai hst.out;replace hsn:=ai hsn.out
  have gc:=ai ((hkp.block _ zc ⟨by omega,by omega⟩).trans e1.out)
  have ga:=ai ((hkp.block _ za ⟨by omega,by omega⟩).trans e4.out)
  have gb:=ai ((hkp.block _ zb ⟨by omega,by omega⟩).trans e5.out)
  clear e1 e2 e3 e4 e5
  rcases his with ⟨hkd,hlo⟩|⟨hkd,hm⟩|⟨hkd,hza,hzx⟩
  . skip
    obtain⟨V,hV⟩:=aG (wr.alloc (.cells #[.int .i64 1,.int .i64 x.lg,.int .i64 x.ly,.int .i64 x.lt,.int .i64 x.lw,.int .i64 x.ay,.int .i64 x.lY,.int .i64 x.lX,.int .i64 x.wlo,.int .i64 x.whi] 43))
    obtain⟨eo,bV,sV⟩:=boxed hV
    have R0c:=(bV.block _ (bM zc hsz)).trans gc.out
    have R0p:=(bV.block _ (bM zp hsz)).trans VS.out
    have R0s:=(bV.block _ (bM zs hsz)).trans hrs.out
    have R0a:=(bV.block _ (bM za hsz)).trans ga.out
    have R0b:=(bV.block _ (bM zb hsz)).trans gb.out
    have hkV:Kept (fun k=>k≠bp/\k≠bs) X V:=hkp.trans (.all bV)
    have y1:=ae bV d1
    have y2:=ae bV d2
    have zy1:=World.block_lt_of_cell? _ ⟨b1,_,none⟩ y1
    have zy2:=World.block_lt_of_cell? _ ⟨b2,_,none⟩ y2
    simp only at zy1 zy2
    have no1:(wr.heap.size:Nat)≠bp:=by omega
    have no2:(wr.heap.size:Nat)≠bs:=by omega
    clear sV
    cases hone:(bD c q x.lot).ok
    . have kI:Hid (∀w,Calls Tryz.prog 32 #[gm c,nR q,.agg #[.int .i64 x.lg,.int .i64 x.ly,.int .i64 x.lt,.int .i64 x.lw]] w (jI w)):=ai (fun w=>aa8 (l:=x.lot) w hc hqo hlo hone)
      have hno:=ai (hsn.out (Zr hkd hone))
      clear hone hst hsn
      have nX:V.heap[wr.heap.size]? = some (.cells #[.int .i64 1,.int .i64 x.lg,.int .i64 x.ly,.int .i64 x.lt,.int .i64 x.lw,.int .i64 x.ay,.int .i64 x.lY,.int .i64 x.lX,.int .i64 x.wlo,.int .i64 x.whi] 43 (0,0)):=eo
      have nV:V.heap[bc]? = some (.cells #[.int .i64 c.jm,.int .i64 c.jG,.int .i64 c.least,.int .i64 c.most,.int .i64 c.f0,.int .i64 c.f1,.int .i64 c.h0,.int .i64 c.h1,.int .i64 c.bu,.int .i64 c.mJ,.int .i64 c.phi] 96 (0,0)):=R0c
      have mW:V.heap[bp]? = some (.cells #[.int .i64 q.g,.int .i64 q.y,.int .i64 q.t,.int .i64 q.w] 29 (0,0)):=R0p
      have qG:V.heap[bs]? = some (.cells #[.int .i64 s.g,.int .i64 s.y,.int .i64 s.t,.int .i64 s.w] 29 (0,0)):=R0s
      have qE:V.heap[ba]? = some (.cells #[.slice (some ⟨b1,Vh,none⟩) xa.length cap1] 50 (0,0)):=R0a
      have qF:V.heap[bb]? = some (.cells #[.slice (some ⟨b2,Vj,none⟩) xb.length cap2] 50 (0,0)):=R0b
      have aeq:=ai nX
      obtain⟨ah2,QS,Q8⟩:=ah nX
      obtain⟨Bh,Bi,Bj,Bl,Bo,Bv,Bz,BA,BB,BC⟩:=gB nX
      clear QS Q8 nX
      have aep:=ai nV
      obtain⟨aem,QR,Q7⟩:=ah nV
      obtain⟨tN,tV,tX,tY,tZ,t_,uf,ug,uh,ui,oH⟩:=bJ nV
      clear QR Q7 nV
      have VY:=ai mW
      obtain⟨RZ,QT,Q9⟩:=ah mW
      obtain⟨uj,uk,um,uo⟩:=pX mW
      clear QT Q9 mW
      have VZ:=ai qG
      obtain⟨VQ,QU,Q_⟩:=ah qG
      clear QU Q_ qG
      have aen:=ai qE
      obtain⟨aek,QP,Q4⟩:=ah qE
      clear QP Q4 qE
      have aeo:=ai qF
      obtain⟨ael,QQ,Q5⟩:=ah qF
      clear QQ Q5 qF
      go_wp2_with (go_at_call 32;(with_reducible refine ax (kI.out _) ?_);rintro e w1 ⟨str,rfl,hB2⟩)
      exact⟨rfl,GI.no hno.out (hkV.trans (.all hB2))⟩
    . have kI:Hid (∀w,Calls Tryz.prog 32 #[gm c,nR q,.agg #[.int .i64 x.lg,.int .i64 x.ly,.int .i64 x.lt,.int .i64 x.lw]] w fun e w'=>e=.returned (nR (bD c q x.lot))/\Below w.heap.size w w'):=ai (fun w=>aa9 (l:=x.lot) w hc hqo hlo hone)
      have hyes:=ai (hst.out (bD c q x.lot) ⟨0,0,0,0⟩ (ajM hkd hone))
      rw[add_zero hs0] at hyes
      clear hone hst hsn
      have nX:V.heap[wr.heap.size]? = some (.cells #[.int .i64 1,.int .i64 x.lg,.int .i64 x.ly,.int .i64 x.lt,.int .i64 x.lw,.int .i64 x.ay,.int .i64 x.lY,.int .i64 x.lX,.int .i64 x.wlo,.int .i64 x.whi] 43 (0,0)):=eo
      have nV:V.heap[bc]? = some (.cells #[.int .i64 c.jm,.int .i64 c.jG,.int .i64 c.least,.int .i64 c.most,.int .i64 c.f0,.int .i64 c.f1,.int .i64 c.h0,.int .i64 c.h1,.int .i64 c.bu,.int .i64 c.mJ,.int .i64 c.phi] 96 (0,0)):=R0c
      have mW:V.heap[bp]? = some (.cells #[.int .i64 q.g,.int .i64 q.y,.int .i64 q.t,.int .i64 q.w] 29 (0,0)):=R0p
      have qG:V.heap[bs]? = some (.cells #[.int .i64 s.g,.int .i64 s.y,.int .i64 s.t,.int .i64 s.w] 29 (0,0)):=R0s
      have qE:V.heap[ba]? = some (.cells #[.slice (some ⟨b1,Vh,none⟩) xa.length cap1] 50 (0,0)):=R0a
      have qF:V.heap[bb]? = some (.cells #[.slice (some ⟨b2,Vj,none⟩) xb.length cap2] 50 (0,0)):=R0b
      have aeq:=ai nX
      obtain⟨ah2,QS,Q8⟩:=ah nX
      obtain⟨Bh,Bi,Bj,Bl,Bo,Bv,Bz,BA,BB,BC⟩:=gB nX
      clear QS Q8 nX
      have aep:=ai nV
      obtain⟨aem,QR,Q7⟩:=ah nV
      obtain⟨tN,tV,tX,tY,tZ,t_,uf,ug,uh,ui,oH⟩:=bJ nV
      clear QR Q7 nV
      have VY:=ai mW
      obtain⟨RZ,QT,Q9⟩:=ah mW
      obtain⟨uj,uk,um,uo⟩:=pX mW
      obtain⟨Jy,Jz,JA,JB⟩:=Ak mW
      clear QT Q9 mW
      have VZ:=ai qG
      obtain⟨VQ,QU,Q_⟩:=ah qG
      clear QU Q_ qG
      have aen:=ai qE
      obtain⟨aek,QP,Q4⟩:=ah qE
      clear QP Q4 qE
      have aeo:=ai qF
      obtain⟨ael,QQ,Q5⟩:=ah qF
      clear QQ Q5 qF
      have hgc:=az V
      have hgf:=dG V
      go_wp2_with (go_at_call 32;(with_reducible refine ax (kI.out _) ?_);rintro e w1 ⟨rfl,hB2⟩;obtain⟨g,rfl⟩:∃g:Grow V,w1=g.x:=⟨⟨w1,hB2⟩,rfl⟩;clear hB2)
      clear hgc hgf
      generalize hV1:World.setCell _ ⟨bp,3,none⟩ _=V1
      have gz1:=g.size
      have PM:V1.heap[bp]? = some (.cells #[.int .i64 (bD c q x.lot).g,.int .i64 (bD c q x.lot).y,.int .i64 (bD c q x.lot).t,.int .i64 (bD c q x.lot).w] 29 (0,0)):=by rw[<- hV1];have h2:=(dA (dA (dA (dA ((g.h.block _ RZ).trans VY.out) 0 (.int .i64 (bD c q x.lot).g)) 1 (.int .i64 (bD c q x.lot).y)) 2 (.int .i64 (bD c q x.lot).t)) 3 (.int .i64 (bD c q x.lot).w));simp only[List.setIfInBounds_toArray,List.set_cons_zero,List.set_cons_succ] at h2;exact h2
      have PN:V1.heap[bs]? = some (.cells #[.int .i64 s.g,.int .i64 s.y,.int .i64 s.t,.int .i64 s.w] 29 (0,0)):=by rw[<- hV1];have h2:=(fU (n:=bp) 3 (.int .i64 (bD c q x.lot).w) (Ne.symm n3) (fU (n:=bp) 2 (.int .i64 (bD c q x.lot).t) (Ne.symm n3) (fU (n:=bp) 1 (.int .i64 (bD c q x.lot).y) (Ne.symm n3) (fU (n:=bp) 0 (.int .i64 (bD c q x.lot).g) (Ne.symm n3) ((g.h.block _ VQ).trans VZ.out)))));exact h2
      have K1:Kept (fun k=>k≠bp/\k≠bs) X V1:=by rw[<- hV1];exact(Kept.setCell (p:=⟨bp,3,none⟩) (Kept.setCell (p:=⟨bp,2,none⟩) (Kept.setCell (p:=⟨bp,1,none⟩) (Kept.setCell (p:=⟨bp,0,none⟩) (hkV.trans (.all g.h)) (.inl fun h=>h.1 rfl) (.int .i64 (bD c q x.lot).g)) (.inl fun h=>h.1 rfl) (.int .i64 (bD c q x.lot).y)) (.inl fun h=>h.1 rfl) (.int .i64 (bD c q x.lot).t)) (.inl fun h=>h.1 rfl) (.int .i64 (bD c q x.lot).w))
      clear hV1 gz1
      clear Bh Bi Bj Bl Bo Bv Bz BA BB BC tN tV tX tY tZ t_ uf ug uh ui oH uj Jy uk Jz um JA uo JB
      have aer:=ai PM
      obtain⟨aow,ahe,ahH⟩:=ah PM
      clear ahe ahH PM
      have aes:=ai PN
      obtain⟨aox,ahf,ahI⟩:=ah PN
      clear ahf ahI PN
      exact⟨⟨k+1,bD c q x.lot,s,by omega,by go_num,ai hyes.out,ai aer.out,ai aes.out,K1⟩,by simp[intOf];omega⟩
  . skip
    obtain⟨m,hmx⟩:=aG (x.ay)
    rw[hmx] at hm c5
    obtain⟨V,hV⟩:=aG (wr.alloc (.cells #[.int .i64 2,.int .i64 x.lg,.int .i64 x.ly,.int .i64 x.lt,.int .i64 x.lw,.int .i64 m,.int .i64 x.lY,.int .i64 x.lX,.int .i64 x.wlo,.int .i64 x.whi] 43))
    obtain⟨eo,bV,sV⟩:=boxed hV
    have R0c:=(bV.block _ (bM zc hsz)).trans gc.out
    have R0p:=(bV.block _ (bM zp hsz)).trans VS.out
    have R0s:=(bV.block _ (bM zs hsz)).trans hrs.out
    have R0a:=(bV.block _ (bM za hsz)).trans ga.out
    have R0b:=(bV.block _ (bM zb hsz)).trans gb.out
    have hkV:Kept (fun k=>k≠bp/\k≠bs) X V:=hkp.trans (.all bV)
    have y1:=ae bV d1
    have y2:=ae bV d2
    have zy1:=World.block_lt_of_cell? _ ⟨b1,_,none⟩ y1
    have zy2:=World.block_lt_of_cell? _ ⟨b2,_,none⟩ y2
    simp only at zy1 zy2
    have no1:(wr.heap.size:Nat)≠bp:=by omega
    have no2:(wr.heap.size:Nat)≠bs:=by omega
    clear sV
    have hm8:0<=m/\m<=100000000:=hm
    by_cases hone:m<=q.g+q.y
    . have kI:Hid (∀w,Calls Tryz.prog 33 #[gm c,nR q,.int .i64 m] w fun e w'=>e=.returned (.tuple #[nR (left q m),nR (bz.out q m)])/\Below w.heap.size w w'):=ai (fun w=>FW c q m w hqo hm8 hone)
      have hyes:=ai (hst.out (left q m) (bz.out q m) (hmx ▸ agI hkd (by rw[hmx];exact hone)))
      obtain⟨o1,o2,o3,o4⟩:=agP hqo hm.1 hone
      replace hmx:=ai hmx
      clear hst hsn hone
      obtain⟨L,hL⟩:=aG (left q m)
      obtain⟨O,hO⟩:=aG (bz.out q m)
      rw[hL,hO] at hyes kI
      rw[hO] at o1 o2 o3 o4
      clear hL hO
      have nX:V.heap[wr.heap.size]? = some (.cells #[.int .i64 2,.int .i64 x.lg,.int .i64 x.ly,.int .i64 x.lt,.int .i64 x.lw,.int .i64 m,.int .i64 x.lY,.int .i64 x.lX,.int .i64 x.wlo,.int .i64 x.whi] 43 (0,0)):=eo
      have nV:V.heap[bc]? = some (.cells #[.int .i64 c.jm,.int .i64 c.jG,.int .i64 c.least,.int .i64 c.most,.int .i64 c.f0,.int .i64 c.f1,.int .i64 c.h0,.int .i64 c.h1,.int .i64 c.bu,.int .i64 c.mJ,.int .i64 c.phi] 96 (0,0)):=R0c
      have mW:V.heap[bp]? = some (.cells #[.int .i64 q.g,.int .i64 q.y,.int .i64 q.t,.int .i64 q.w] 29 (0,0)):=R0p
      have qG:V.heap[bs]? = some (.cells #[.int .i64 s.g,.int .i64 s.y,.int .i64 s.t,.int .i64 s.w] 29 (0,0)):=R0s
      have qE:V.heap[ba]? = some (.cells #[.slice (some ⟨b1,Vh,none⟩) xa.length cap1] 50 (0,0)):=R0a
      have qF:V.heap[bb]? = some (.cells #[.slice (some ⟨b2,Vj,none⟩) xb.length cap2] 50 (0,0)):=R0b
      have aeq:=ai nX
      obtain⟨ah2,QS,Q8⟩:=ah nX
      obtain⟨Bh,Bi,Bj,Bl,Bo,Bv,Bz,BA,BB,BC⟩:=gB nX
      clear QS Q8 nX
      have aep:=ai nV
      obtain⟨aem,QR,Q7⟩:=ah nV
      obtain⟨tN,tV,tX,tY,tZ,t_,uf,ug,uh,ui,oH⟩:=bJ nV
      clear QR Q7 nV
      have VY:=ai mW
      obtain⟨RZ,QT,Q9⟩:=ah mW
      obtain⟨uj,uk,um,uo⟩:=pX mW
      obtain⟨Jy,Jz,JA,JB⟩:=Ak mW
      clear QT Q9 mW
      have VZ:=ai qG
      obtain⟨VQ,QU,Q_⟩:=ah qG
      obtain⟨anH,anI,anJ,anK⟩:=pX qG
      obtain⟨amb,amc,amd,ame⟩:=Ak qG
      clear QU Q_ qG
      have aen:=ai qE
      obtain⟨aek,QP,Q4⟩:=ah qE
      clear QP Q4 qE
      have aeo:=ai qF
      obtain⟨ael,QQ,Q5⟩:=ah qF
      clear QQ Q5 qF
      have hgc:=az V
      have hgf:=dG V
      go_wp2_with (go_at_call 33;(with_reducible refine ax (kI.out _) ?_);rintro e w1 ⟨rfl,hB2⟩;obtain⟨g,rfl⟩:∃g:Grow V,w1=g.x:=⟨⟨w1,hB2⟩,rfl⟩;clear hB2;have u1:=g.lt RZ;have u2:=g.lt VQ;obtain⟨Z,hZ⟩:=aG ((g.x.alloc (.cells #[.int .i64 L.g,.int .i64 L.y,.int .i64 L.t,.int .i64 L.w] 29)).alloc (.cells #[.int .i64 O.g,.int .i64 O.y,.int .i64 O.t,.int .i64 O.w] 29));obtain⟨f2,f3,fs,fB⟩:=Py hZ;obtain⟨g3,rfl⟩:=g.next fB;obtain⟨z2,r2,-⟩:=ah f2;obtain⟨z3,r3,-⟩:=ah f3;have auv:=r2 0;have auw:=r2 1;have auy:=r2 2;have auz:=r2 3;have auA:=r3 0;have auB:=r3 1;have auC:=r3 3;simp only[List.getElem?_toArray,List.getElem?_cons_zero,List.getElem?_cons_succ] at auv auw auy auz auA auB auC;clear r2 r3 f2 f3 fs fB;have u4:V.heap.size<=g.x.heap.size:=g.size)
      clear hgc hgf
      generalize hV1:World.setCell _ ⟨bs,3,none⟩ _=V1
      have gz1:=g.size
      have PM:V1.heap[bp]? = some (.cells #[.int .i64 L.g,.int .i64 L.y,.int .i64 L.t,.int .i64 L.w] 29 (0,0)):=by rw[<- hV1];have h2:=(fU (n:=bs) 3 (.int .i64 (s.w+O.w)) n3 (fU (n:=bs) 2 (.int .i64 0) n3 (fU (n:=bs) 1 (.int .i64 (s.y+O.y)) n3 (fU (n:=bs) 0 (.int .i64 (s.g+O.g)) n3 (dA (dA (dA (dA ((g.h.block _ RZ).trans VY.out) 0 (.int .i64 L.g)) 1 (.int .i64 L.y)) 2 (.int .i64 L.t)) 3 (.int .i64 L.w))))));simp only[List.setIfInBounds_toArray,List.set_cons_zero,List.set_cons_succ] at h2;exact h2
      have PN:V1.heap[bs]? = some (.cells #[.int .i64 (s.g+O.g),.int .i64 (s.y+O.y),.int .i64 0,.int .i64 (s.w+O.w)] 29 (0,0)):=by rw[<- hV1];have h2:=(dA (dA (dA (dA (fU (n:=bp) 3 (.int .i64 L.w) (Ne.symm n3) (fU (n:=bp) 2 (.int .i64 L.t) (Ne.symm n3) (fU (n:=bp) 1 (.int .i64 L.y) (Ne.symm n3) (fU (n:=bp) 0 (.int .i64 L.g) (Ne.symm n3) ((g.h.block _ VQ).trans VZ.out))))) 0 (.int .i64 (s.g+O.g))) 1 (.int .i64 (s.y+O.y))) 2 (.int .i64 0)) 3 (.int .i64 (s.w+O.w)));simp only[List.setIfInBounds_toArray,List.set_cons_zero,List.set_cons_succ] at h2;exact h2
      have K1:Kept (fun k=>k≠bp/\k≠bs) X V1:=by rw[<- hV1];exact(Kept.setCell (p:=⟨bs,3,none⟩) (Kept.setCell (p:=⟨bs,2,none⟩) (Kept.setCell (p:=⟨bs,1,none⟩) (Kept.setCell (p:=⟨bs,0,none⟩) (Kept.setCell (p:=⟨bp,3,none⟩) (Kept.setCell (p:=⟨bp,2,none⟩) (Kept.setCell (p:=⟨bp,1,none⟩) (Kept.setCell (p:=⟨bp,0,none⟩) (hkV.trans (.all g.h)) (.inl fun h=>h.1 rfl) (.int .i64 L.g)) (.inl fun h=>h.1 rfl) (.int .i64 L.y)) (.inl fun h=>h.1 rfl) (.int .i64 L.t)) (.inl fun h=>h.1 rfl) (.int .i64 L.w)) (.inl fun h=>h.2 rfl) (.int .i64 (s.g+O.g))) (.inl fun h=>h.2 rfl) (.int .i64 (s.y+O.y))) (.inl fun h=>h.2 rfl) (.int .i64 0)) (.inl fun h=>h.2 rfl) (.int .i64 (s.w+O.w)))
      clear hV1 gz1
      clear Bh Bi Bj Bl Bo Bv Bz BA BB BC tN tV tX tY tZ t_ uf ug uh ui oH uj Jy uk Jz um JA uo JB anH amb anI amc anJ amd anK ame
      have aer:=ai PM
      obtain⟨aow,ahe,ahH⟩:=ah PM
      clear ahe ahH PM
      have aes:=ai PN
      obtain⟨aox,ahf,ahI⟩:=ah PN
      clear ahf ahI PN
      obtain⟨Y,hY⟩:=aG (World.alloc (World.alloc V1 (.cells #[.int .i64 L.g,.int .i64 L.y,.int .i64 L.t,.int .i64 L.w] 29)) (.cells #[.int .i64 O.g,.int .i64 O.y,.int .i64 0,.int .i64 O.w] 29))
      rw[hY]
      obtain⟨-,-,-,fB⟩:=Py hY
      exact⟨⟨k+1,L,GK s O,by omega,by go_num,ai hyes.out,ai ((fB.block _ aow).trans aer.out),ai ((fB.block _ aox).trans aes.out),K1.trans (.all fB)⟩,by simp[intOf];omega⟩
    . have kI:Hid (∀w,Calls Tryz.prog 33 #[gm c,nR q,.int .i64 m] w (jI w)):=ai (fun w=>FV c q m w hqo hm8 (by omega))
      have hno:=ai (hsn.out (XE hkd (by rw[hmx];exact hone)))
      clear hst hsn
      have nX:V.heap[wr.heap.size]? = some (.cells #[.int .i64 2,.int .i64 x.lg,.int .i64 x.ly,.int .i64 x.lt,.int .i64 x.lw,.int .i64 m,.int .i64 x.lY,.int .i64 x.lX,.int .i64 x.wlo,.int .i64 x.whi] 43 (0,0)):=eo
      have nV:V.heap[bc]? = some (.cells #[.int .i64 c.jm,.int .i64 c.jG,.int .i64 c.least,.int .i64 c.most,.int .i64 c.f0,.int .i64 c.f1,.int .i64 c.h0,.int .i64 c.h1,.int .i64 c.bu,.int .i64 c.mJ,.int .i64 c.phi] 96 (0,0)):=R0c
      have mW:V.heap[bp]? = some (.cells #[.int .i64 q.g,.int .i64 q.y,.int .i64 q.t,.int .i64 q.w] 29 (0,0)):=R0p
      have qG:V.heap[bs]? = some (.cells #[.int .i64 s.g,.int .i64 s.y,.int .i64 s.t,.int .i64 s.w] 29 (0,0)):=R0s
      have qE:V.heap[ba]? = some (.cells #[.slice (some ⟨b1,Vh,none⟩) xa.length cap1] 50 (0,0)):=R0a
      have qF:V.heap[bb]? = some (.cells #[.slice (some ⟨b2,Vj,none⟩) xb.length cap2] 50 (0,0)):=R0b
      have aeq:=ai nX
      obtain⟨ah2,QS,Q8⟩:=ah nX
      obtain⟨Bh,Bi,Bj,Bl,Bo,Bv,Bz,BA,BB,BC⟩:=gB nX
      clear QS Q8 nX
      have aep:=ai nV
      obtain⟨aem,QR,Q7⟩:=ah nV
      obtain⟨tN,tV,tX,tY,tZ,t_,uf,ug,uh,ui,oH⟩:=bJ nV
      clear QR Q7 nV
      have VY:=ai mW
      obtain⟨RZ,QT,Q9⟩:=ah mW
      obtain⟨uj,uk,um,uo⟩:=pX mW
      clear QT Q9 mW
      have VZ:=ai qG
      obtain⟨VQ,QU,Q_⟩:=ah qG
      clear QU Q_ qG
      have aen:=ai qE
      obtain⟨aek,QP,Q4⟩:=ah qE
      clear QP Q4 qE
      have aeo:=ai qF
      obtain⟨ael,QQ,Q5⟩:=ah qF
      clear QQ Q5 qF
      go_wp2_with (go_at_call 33;(with_reducible refine ax (kI.out _) ?_);rintro e w1 ⟨str,rfl,hB2⟩)
      exact⟨rfl,GI.no hno.out (hkV.trans (.all hB2))⟩
  . skip
    rw[eP,eP] at hta
    obtain⟨V,hV⟩:=aG (wr.alloc (.cells #[.int .i64 3,.int .i64 x.lg,.int .i64 x.ly,.int .i64 x.lt,.int .i64 x.lw,.int .i64 x.ay,.int .i64 x.lY,.int .i64 x.lX,.int .i64 x.wlo,.int .i64 x.whi] 43))
    obtain⟨eo,bV,sV⟩:=boxed hV
    have R0c:=(bV.block _ (bM zc hsz)).trans gc.out
    have R0p:=(bV.block _ (bM zp hsz)).trans VS.out
    have R0s:=(bV.block _ (bM zs hsz)).trans hrs.out
    have R0a:=(bV.block _ (bM za hsz)).trans ga.out
    have R0b:=(bV.block _ (bM zb hsz)).trans gb.out
    have hkV:Kept (fun k=>k≠bp/\k≠bs) X V:=hkp.trans (.all bV)
    have y1:=ae bV d1
    have y2:=ae bV d2
    have zy1:=World.block_lt_of_cell? _ ⟨b1,_,none⟩ y1
    have zy2:=World.block_lt_of_cell? _ ⟨b2,_,none⟩ y2
    simp only at zy1 zy2
    have no1:(wr.heap.size:Nat)≠bp:=by omega
    have no2:(wr.heap.size:Nat)≠bs:=by omega
    clear sV
    have hu:0<=u/\u<=1000:=by omega
    have hv:0<=v/\v<=1000000:=by omega
    cases hone:(rest c q u v).ok
    . have kI:Hid (∀w,Calls Tryz.prog 34 #[gm c,nR q,.int .i64 u,.int .i64 v] w (jI w)):=ai (fun w=>JO c q u v w hc hqo hu hv hone)
      have hno:=ai (hsn.out (XF hkd hone))
      clear hone hst hsn
      have nX:V.heap[wr.heap.size]? = some (.cells #[.int .i64 3,.int .i64 x.lg,.int .i64 x.ly,.int .i64 x.lt,.int .i64 x.lw,.int .i64 x.ay,.int .i64 x.lY,.int .i64 x.lX,.int .i64 x.wlo,.int .i64 x.whi] 43 (0,0)):=eo
      have nV:V.heap[bc]? = some (.cells #[.int .i64 c.jm,.int .i64 c.jG,.int .i64 c.least,.int .i64 c.most,.int .i64 c.f0,.int .i64 c.f1,.int .i64 c.h0,.int .i64 c.h1,.int .i64 c.bu,.int .i64 c.mJ,.int .i64 c.phi] 96 (0,0)):=R0c
      have mW:V.heap[bp]? = some (.cells #[.int .i64 q.g,.int .i64 q.y,.int .i64 q.t,.int .i64 q.w] 29 (0,0)):=R0p
      have qG:V.heap[bs]? = some (.cells #[.int .i64 s.g,.int .i64 s.y,.int .i64 s.t,.int .i64 s.w] 29 (0,0)):=R0s
      have qE:V.heap[ba]? = some (.cells #[.slice (some ⟨b1,Vh,none⟩) xa.length cap1] 50 (0,0)):=R0a
      have qF:V.heap[bb]? = some (.cells #[.slice (some ⟨b2,Vj,none⟩) xb.length cap2] 50 (0,0)):=R0b
      have aeq:=ai nX
      obtain⟨ah2,QS,Q8⟩:=ah nX
      obtain⟨Bh,Bi,Bj,Bl,Bo,Bv,Bz,BA,BB,BC⟩:=gB nX
      clear QS Q8 nX
      have aep:=ai nV
      obtain⟨aem,QR,Q7⟩:=ah nV
      obtain⟨tN,tV,tX,tY,tZ,t_,uf,ug,uh,ui,oH⟩:=bJ nV
      clear QR Q7 nV
      have VY:=ai mW
      obtain⟨RZ,QT,Q9⟩:=ah mW
      obtain⟨uj,uk,um,uo⟩:=pX mW
      obtain⟨Jy,Jz,JA,JB⟩:=Ak mW
      clear QT Q9 mW
      have VZ:=ai qG
      obtain⟨VQ,QU,Q_⟩:=ah qG
      clear QU Q_ qG
      have aen:=ai qE
      obtain⟨aek,QP,Q4⟩:=ah qE
      have QH:=rc1 qE
      clear QP Q4 qE
      have aeo:=ai qF
      obtain⟨ael,QQ,Q5⟩:=ah qF
      have QI:=rc1 qF
      clear QQ Q5 qF
      go_wp2
      refine wp_region_held_drew (S:=Below V.heap.size V) (by kernel_rfl) (Below.refl _ _).drew (fun hHeld=>?_)
      refine wpAnyH_take (i:=0) (v:=gm c) rfl (by kernel_rfl) (by kernel_rfl) (by kernel_rfl) (fun _ _ _ h=>h) (Or.inl ⟨by kernel_rfl,?_⟩) hHeld ?_
      . intro w' hSw;have c0:=ae hSw tN;have c1:=ae hSw tV;have c2:=ae hSw tX;have c3:=ae hSw tY;have c4:=ae hSw tZ;have c5:=ae hSw t_;have c6:=ae hSw uf;have c7:=ae hSw ug;have c8:=ae hSw uh;have c9:=ae hSw ui;have c10:=ae hSw oH;go_simp;(try with_reducible rfl)
      try simp only[aI]
      refine wpAnyH_take (i:=1) (v:=nR q) rfl (by kernel_rfl) (by kernel_rfl) (by kernel_rfl) (fun _ _ _ h=>h) (Or.inl ⟨by kernel_rfl,?_⟩) hHeld ?_
      . intro w' hSw;have c0:=ae hSw uj;have c1:=ae hSw uk;have c2:=ae hSw um;have c3:=ae hSw uo;go_simp;(try with_reducible rfl)
      try simp only[aI]
      refine wpAnyH_take (i:=2) (v:=.slice (some ⟨b1,Vh,none⟩) xa.length cap1) rfl (by kernel_rfl) (by kernel_rfl) (by kernel_rfl) (fun _ _ _ h=>h) (Or.inl ⟨by kernel_rfl,?_⟩) hHeld ?_
      . intro w' hSw;have c0:=ae hSw QH;go_simp;(try with_reducible rfl)
      try simp only[aI]
      refine wpAnyH_take (i:=3) (v:=.int .i64 k) rfl (by kernel_rfl) (by kernel_rfl) (by kernel_rfl) (fun _ _ _ h=>h) (Or.inl ⟨by kernel_rfl,?_⟩) hHeld ?_
      . intro w' hSw;go_simp;(try with_reducible rfl)
      try simp only[aI]
      refine wpAnyH_take (i:=4) (v:=.pointer (some ⟨b1,Vh+k,none⟩)) rfl (by kernel_rfl) (by kernel_rfl) (by kernel_rfl) (fun _ _ _ h=>h) (Or.inl ⟨by kernel_rfl,?_⟩) hHeld ?_
      . intro w' hSw;go_simp;(try with_reducible rfl)
      try simp only[aI]
      refine wpAnyH_take (i:=5) (v:=.int .i64 u) rfl (by kernel_rfl) (by kernel_rfl) (by kernel_rfl) (fun _ _ _ h=>h) (Or.inl ⟨by kernel_rfl,?_⟩) hHeld ?_
      . intro w' hSw;have c0:=ae hSw y1;go_simp;(try with_reducible rfl)
      try simp only[aI]
      refine wpAnyH_take (i:=6) (v:=.slice (some ⟨b2,Vj,none⟩) xb.length cap2) rfl (by kernel_rfl) (by kernel_rfl) (by kernel_rfl) (fun _ _ _ h=>h) (Or.inl ⟨by kernel_rfl,?_⟩) hHeld ?_
      . intro w' hSw;have c0:=ae hSw QI;go_simp;(try with_reducible rfl)
      try simp only[aI]
      refine wpAnyH_take (i:=7) (v:=.int .i64 k) rfl (by kernel_rfl) (by kernel_rfl) (by kernel_rfl) (fun _ _ _ h=>h) (Or.inl ⟨by kernel_rfl,?_⟩) hHeld ?_
      . intro w' hSw;go_simp;(try with_reducible rfl)
      try simp only[aI]
      refine wpAnyH_take (i:=8) (v:=.pointer (some ⟨b2,Vj+k,none⟩)) rfl (by kernel_rfl) (by kernel_rfl) (by kernel_rfl) (fun _ _ _ h=>h) (Or.inl ⟨by kernel_rfl,?_⟩) hHeld ?_
      . intro w' hSw;go_simp;(try with_reducible rfl)
      try simp only[aI]
      refine wpAnyH_take (i:=9) (v:=.int .i64 v) rfl (by kernel_rfl) (by kernel_rfl) (by kernel_rfl) (fun _ _ _ h=>h) (Or.inl ⟨by kernel_rfl,?_⟩) hHeld ?_
      . intro w' hSw;have c0:=ae hSw y2;go_simp;(try with_reducible rfl)
      try simp only[aI]
      refine wpAnyH_ready (rs:=[10]) (by kernel_rfl) (by simp) ?_
      refine AllReadyH.cons rfl (fun K hK=>?_) AllReadyH.nil
      go_simp
      go_at_call 34
      (with_reducible refine ax (kI.out _) ?_)
      rintro e w1 ⟨str,rfl,hB2⟩
      go_wp2_with (fail)
      exact⟨rfl,GI.no hno.out (hkV.trans ((Kept.all (Below.refl V.heap.size V).drew).trans (.all hB2)))⟩
    . have kI:Hid (∀w,Calls Tryz.prog 34 #[gm c,nR q,.int .i64 u,.int .i64 v] w fun e w'=>e=.returned (nR (rest c q u v))/\Below w.heap.size w w'):=ai (fun w=>JP c q u v w hc hqo hu hv hone)
      have hyes:=ai (hst.out (rest c q u v) ⟨0,0,0,0⟩ (agJ hkd hone))
      rw[add_zero hs0] at hyes
      clear hone hst hsn
      have nX:V.heap[wr.heap.size]? = some (.cells #[.int .i64 3,.int .i64 x.lg,.int .i64 x.ly,.int .i64 x.lt,.int .i64 x.lw,.int .i64 x.ay,.int .i64 x.lY,.int .i64 x.lX,.int .i64 x.wlo,.int .i64 x.whi] 43 (0,0)):=eo
      have nV:V.heap[bc]? = some (.cells #[.int .i64 c.jm,.int .i64 c.jG,.int .i64 c.least,.int .i64 c.most,.int .i64 c.f0,.int .i64 c.f1,.int .i64 c.h0,.int .i64 c.h1,.int .i64 c.bu,.int .i64 c.mJ,.int .i64 c.phi] 96 (0,0)):=R0c
      have mW:V.heap[bp]? = some (.cells #[.int .i64 q.g,.int .i64 q.y,.int .i64 q.t,.int .i64 q.w] 29 (0,0)):=R0p
      have qG:V.heap[bs]? = some (.cells #[.int .i64 s.g,.int .i64 s.y,.int .i64 s.t,.int .i64 s.w] 29 (0,0)):=R0s
      have qE:V.heap[ba]? = some (.cells #[.slice (some ⟨b1,Vh,none⟩) xa.length cap1] 50 (0,0)):=R0a
      have qF:V.heap[bb]? = some (.cells #[.slice (some ⟨b2,Vj,none⟩) xb.length cap2] 50 (0,0)):=R0b
      have aeq:=ai nX
      obtain⟨ah2,QS,Q8⟩:=ah nX
      obtain⟨Bh,Bi,Bj,Bl,Bo,Bv,Bz,BA,BB,BC⟩:=gB nX
      clear QS Q8 nX
      have aep:=ai nV
      obtain⟨aem,QR,Q7⟩:=ah nV
      obtain⟨tN,tV,tX,tY,tZ,t_,uf,ug,uh,ui,oH⟩:=bJ nV
      clear QR Q7 nV
      have VY:=ai mW
      obtain⟨RZ,QT,Q9⟩:=ah mW
      obtain⟨uj,uk,um,uo⟩:=pX mW
      obtain⟨Jy,Jz,JA,JB⟩:=Ak mW
      clear QT Q9 mW
      have VZ:=ai qG
      obtain⟨VQ,QU,Q_⟩:=ah qG
      clear QU Q_ qG
      have aen:=ai qE
      obtain⟨aek,QP,Q4⟩:=ah qE
      have QH:=rc1 qE
      clear QP Q4 qE
      have aeo:=ai qF
      obtain⟨ael,QQ,Q5⟩:=ah qF
      have QI:=rc1 qF
      clear QQ Q5 qF
      have hgc:=az V
      have hgf:=dG V
      go_wp2
      refine Jl 11 (by kernel_rfl) (by kernel_rfl) ?_
      simp only[List.take_succ_cons,List.take_zero,List.drop_succ_cons,List.drop_zero]
      repeat (go_big_quiet_step ((first|(go_at_call 34;with_reducible exact Calls.grow (kI.out _)))))
      refine wpQuiet_nil ?_
      rintro _ ⟨g,rfl⟩
      go_wp2
      clear hgc hgf
      generalize hV1:World.setCell _ ⟨bp,3,none⟩ _=V1
      have gz1:=g.size
      have PM:V1.heap[bp]? = some (.cells #[.int .i64 (rest c q u v).g,.int .i64 (rest c q u v).y,.int .i64 (rest c q u v).t,.int .i64 (rest c q u v).w] 29 (0,0)):=by rw[<- hV1];have h2:=(dA (dA (dA (dA ((g.h.block _ RZ).trans VY.out) 0 (.int .i64 (rest c q u v).g)) 1 (.int .i64 (rest c q u v).y)) 2 (.int .i64 (rest c q u v).t)) 3 (.int .i64 (rest c q u v).w));simp only[List.setIfInBounds_toArray,List.set_cons_zero,List.set_cons_succ] at h2;exact h2
      have PN:V1.heap[bs]? = some (.cells #[.int .i64 s.g,.int .i64 s.y,.int .i64 s.t,.int .i64 s.w] 29 (0,0)):=by rw[<- hV1];have h2:=(fU (n:=bp) 3 (.int .i64 (rest c q u v).w) (Ne.symm n3) (fU (n:=bp) 2 (.int .i64 (rest c q u v).t) (Ne.symm n3) (fU (n:=bp) 1 (.int .i64 (rest c q u v).y) (Ne.symm n3) (fU (n:=bp) 0 (.int .i64 (rest c q u v).g) (Ne.symm n3) ((g.h.block _ VQ).trans VZ.out)))));exact h2
      have K1:Kept (fun k=>k≠bp/\k≠bs) X V1:=by rw[<- hV1];exact(Kept.setCell (p:=⟨bp,3,none⟩) (Kept.setCell (p:=⟨bp,2,none⟩) (Kept.setCell (p:=⟨bp,1,none⟩) (Kept.setCell (p:=⟨bp,0,none⟩) (hkV.trans (.all g.h)) (.inl fun h=>h.1 rfl) (.int .i64 (rest c q u v).g)) (.inl fun h=>h.1 rfl) (.int .i64 (rest c q u v).y)) (.inl fun h=>h.1 rfl) (.int .i64 (rest c q u v).t)) (.inl fun h=>h.1 rfl) (.int .i64 (rest c q u v).w))
      clear hV1 gz1
      clear Bh Bi Bj Bl Bo Bv Bz BA BB BC tN tV tX tY tZ t_ uf ug uh ui oH uj Jy uk Jz um JA uo JB QH QI
      have aer:=ai PM
      obtain⟨aow,ahe,ahH⟩:=ah PM
      clear ahe ahH PM
      have aes:=ai PN
      obtain⟨aox,ahf,ahI⟩:=ah PN
      clear ahf ahI PN
      exact⟨⟨k+1,rest c q u v,s,by omega,by go_num,ai hyes.out,ai aer.out,ai aes.out,K1⟩,by simp[intOf];omega⟩
end Go.Proofs.YtkjdidieiioijaaGreat.G
namespace bz
def I5 (c:d_)(p:Pt)(l:List Op)(xa xb:List Int):Int:=if 20<l.length then 3 else if (IY l && (c.ok && p.ok && lq l xa xb))=true then 0 else 2
end bz
namespace Go.Proofs.YtkjdidieiioijaaGreat.G
open Go.RowKit Go.Sd bz
theorem Lm {l:List bz.Op} : A7 l=0↔l.length<=20/\IY l=true:=by
 unfold A7
 split
 . constructor
   . intro h;omega
   . intro h;omega
 . split
   . simp_all
   . simp_all
theorem Vo {c:d_}{p:Pt}{l:List bz.Op}{xa xb:List Int}(h:I5 c p l xa xb=0):A7 l=0/\c.ok=true/\p.ok=true/\lq l xa xb=true:=by
 unfold I5 at h
 split at h
 . omega
 . rename_i h1
   split at h
   . rename_i h2
     simp only[Bool.and_eq_true] at h2
     exact⟨Lm.2 ⟨by omega,h2.1⟩,h2.2.1.1,h2.2.1.2,h2.2.2⟩
   . omega
