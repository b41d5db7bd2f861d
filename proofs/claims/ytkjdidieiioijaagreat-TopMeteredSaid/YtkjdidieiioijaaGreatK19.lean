/- Walks. -/
import Derived.Laws.Cover3
import Derived.Test.YtkjdidieiioijaaGreatK18
set_option linter.all false
set_option maxRecDepth 100000
set_option maxHeartbeats 16000000
namespace Go.Proofs.YtkjdidieiioijaaGreat.B
open Go.RowKit Go.Sd L
theorem bT {B m:Nat}{e:TypeId}{S:Nat->Prop}{w w':World}{v:Value}{n:Nat}{ks:List Value}(h:w.ownsRow B e m v n ks)(hk:Kept S w w')(hs:∀j,v.ownBlock=some j->S j):w'.ownsRow B e m v n ks:=by
 refine⟨h.1,?_⟩
 rcases h.2 with h|⟨g,cap,cur,he,hb,hg,r⟩
 . exact .inl h
 . refine .inr ⟨g,cap,cur,he,hb,(hk.block g (aF hg) (hs g (by rw[he];rfl))).trans hg,r⟩
theorem gU {B m:Nat}{e:TypeId}{w w':World}{v:Value}{n:Nat}{ks:List Value}(h:w.ownsRow B e m v n ks)(hb:Below w.heap.size w w'):w'.ownsRow B e m v n ks:=bT (S:=fun _=>True) h (.all hb) fun _ _=>trivial
theorem eF {B m:Nat}{e:TypeId}{w:World}{v:Value}{n:Nat}{ks:List Value}(h:w.ownsRow B e m v n ks):∀j,v.ownBlock=some j->B<=j/\j<w.heap.size:=by
 intro j hj
 rcases h.2 with ⟨rfl,-⟩|⟨g,cap,cur,rfl,hb,hg,-⟩
 . cases hj
 . cases hj;exact⟨hb,(aF hg)⟩
theorem dw {B m:Nat}{e:TypeId}{w:World}{v:Value}{n:Nat}{ks:List Value}(h:w.ownsRow B e m v n ks):∃a c,v=.slice a n c:=by
 rcases h.2 with ⟨rfl,rfl⟩|⟨g,cap,cur,rfl,-⟩
 . exact⟨none,0,rfl⟩
 . exact⟨_,cap,rfl⟩
theorem ab_ {t e:TypeId}{z:Value}{m bytes:Nat}(ht:Tryz.prog.underlying t=some (.slice e))(hinfo:(Tryz.prog.info? e).map (fun i=>(i.zero,i.size,i.bytes))=some (some z,m,bytes))(hzs:z.cells.size=m)(hm:0<m)(hby:bytes<=1000)
    (B:Nat) (w:World) (v:Value) (n:Nat) (ks news:List Value) (vb:Nat) (h:w.ownsRow B e m v n ks) (hn:n<=1000) (hB:B<=w.heap.size) (hl:news.length=m) (h1:∀u ∈ news,u.oneCell'=true) (hv:w.heap[vb]? = some (.cells news.toArray e (0,0))) :
    ∃v' w',(Builtin.append_ #[t,t] t #[v,.slice (some ⟨vb,0,none⟩) 1 1]).run Tryz.prog w=.ok v' w'/\w'.ownsRow B e m v' (n+1) (ks ++ news)/\Kept (fun j=>v.ownBlock≠some j) w w':=by
 obtain⟨i0,hi,hz0,hz1,hz2⟩:=info_parts hinfo
 obtain⟨v',w',hrun,r1,r2,-,-⟩:=run_append_own_at (P:=Tryz.prog) w B t t e i0 z m bytes ht hi hz0 hz1 hz2 hzs hm v n ks h ⟨vb,0,none⟩ 1 1 news (by omega)
  (by
   intro j u hj
   rw[Js,Nat.zero_add,cell_of_row w vb j _ _ (0,0) hv,List.getElem?_toArray]
   exact hj)
  h1 (by unfold maxLen;omega) (Nat.le_trans (Nat.mul_le_mul (show n+1<=1001 by omega) hby) (by omega)) hB
 exact⟨v',w',hrun,r1,.grown r2 fun j _ hj=>fun e=>hj e.symm⟩
theorem uF {α:Type}{m:Nat}{enc:α->List Value}(hm:∀x,(enc x).length=m)(d:α):∀(xs:List α)(k i:Nat),k<xs.length->i<m->(xs.flatMap enc)[k*m+i]? = (enc (xs.getD k d))[i]?
 | x :: xs,0,i,_,hi=>by
  rw[List.flatMap_cons,Nat.zero_mul,Nat.zero_add,List.getElem?_append_left (by rw[hm];exact hi)]
  rfl
 | x :: xs,k+1,i,h,hi=>by
  have hk:k<xs.length:=by simpa using h
  rw[List.flatMap_cons,List.getElem?_append_right (by rw[hm,Nat.add_mul];omega),hm,show(k+1)*m+i - m=k*m+i by rw[Nat.add_mul];omega,uF hm d xs k i hk hi]
  rfl
theorem Vl {α:Type}{m:Nat}{enc:α->List Value}(hm:∀x,(enc x).length=m)(d:α){B:Nat}{e:TypeId}{w:World}{v:Value}{xs:List α}(h:w.ownsRow B e m v xs.length (xs.flatMap enc))(h9:xs.length<=1000):gG m enc d w v xs:=by
 rcases h.2 with ⟨rfl,h0⟩|⟨g,cap,cur,rfl,hb,hg,hn,hc,hs,ht⟩
 . exact⟨none,0,by rw[h0],by unfold maxLen;omega,fun h=>by omega⟩
 . refine⟨some ⟨g,0,none⟩,cap,rfl,by unfold maxLen;omega,fun _=>⟨g,0,rfl,(aF hg),fun k i u hk hu=>?_⟩⟩
   have hi:i<m:=by
    have:=(List.getElem?_eq_some_iff.1 hu).1
    rw[hm] at this
    exact this
   rw[Nat.zero_add,cell_of_row w g _ _ _ (0,0) hg,<- Array.getElem?_toList]
   have hlt:k*m+i<xs.length*m:=by
    have:=Nat.mul_le_mul_right m (show k+1<=xs.length from hk)
    rw[Nat.add_mul] at this
    omega
   have h2:=uF hm d xs k i hk hi
   rw[<- ht,List.getElem?_take,if_pos hlt] at h2
   rw[h2,hu]
theorem zt {α:Type}{m:Nat}{enc:α->List Value}{d:α}{w:World}{v:Value}{xs:List α}(h:gG m enc d w v xs)(h0:0<xs.length):∃b off cap,v=.slice (some ⟨b,off,none⟩) xs.length cap/\b<w.heap.size/\∀k i u,k<xs.length->(enc (xs.getD k d))[i]? = some u->w.cell? ⟨b,off+k*m+i,none⟩=some u:=by
 obtain⟨a,cap,rfl,-,hc⟩:=h
 obtain⟨b,off,rfl,hb,hx⟩:=hc h0
 exact⟨b,off,cap,rfl,hb,hx⟩
theorem dM {B C m n:Nat}{e e':TypeId}(hne:e≠e'){w:World}{u v:Value}{i j:Nat}{ks ls:List Value}(h:w.ownsRow B e m u i ks)(h':w.ownsRow C e' n v j ls):∀k,v.ownBlock=some k->u.ownBlock≠some k:=by
 intro k hk e0
 rcases h.2 with ⟨rfl,-⟩|⟨g,cap,cur,rfl,-,hg,-⟩
 . cases e0
 . rcases h'.2 with ⟨rfl,-⟩|⟨g',cap',cur',rfl,-,hg',-⟩
   . cases hk
   . cases e0
     cases hk
     rw[hg] at hg'
     simp only[Option.some.injEq,Obj.cells.injEq] at hg'
     exact hne hg'.2.1
theorem au {S:Nat->Prop}{w w':World}{b o:Nat}{v:Value}(h:w.cell? ⟨b,o,none⟩=some v)(hk:Kept S w w')(hs:S b):w'.cell? ⟨b,o,none⟩=some v :=
 (World.cell?_of_block (a:=⟨b,o,none⟩) (hk.block b (World.block_lt_of_cell? w ⟨b,o,none⟩ h) hs)).trans h
theorem Xh {α:Type}{m:Nat}{enc:α->List Value}(hm:∀x,(enc x).length=m)(d:α){y:α}{i:Nat}{u:Value}(hi:i<m):∀(xs:List α)(k:Nat),k<xs.length->enc y=(enc (xs.getD k d)).set i u->(xs.set k y).flatMap enc=(xs.flatMap enc).set (k*m+i) u
 | x :: xs,0,_,he=>by
  simp only[List.getD_cons_zero] at he
  rw[List.set_cons_zero,List.flatMap_cons,List.flatMap_cons,Nat.zero_mul,Nat.zero_add,List.set_append_left _ _ (by rw[hm];exact hi),he]
 | x :: xs,k+1,hk,he=>by
  simp only[List.getD_cons_succ] at he
  rw[List.set_cons_succ,List.flatMap_cons,List.flatMap_cons,List.set_append_right _ _ (by rw[hm,Nat.add_mul];omega),hm,show(k+1)*m+i - m=k*m+i by rw[Nat.add_mul];omega,Xh hm d hi xs k (by simpa using hk) he]
theorem aca {α:Type}{m:Nat}{enc:α->List Value}(hm:∀x,(enc x).length=m)(d:α){B g cap n:Nat}{e:TypeId}{w:World}{xs:List α}(h:w.ownsRow B e m (.slice (some ⟨g,0,none⟩) n cap) xs.length (xs.flatMap enc)){k i:Nat}{y:α}{u:Value}(hk:k<xs.length)(hi:i<m)(he:enc y=(enc (xs.getD k d)).set i u) :
    (w.setCell ⟨g,k*m+i,none⟩ u).ownsRow B e m (.slice (some ⟨g,0,none⟩) n cap) (xs.set k y).length ((xs.set k y).flatMap enc):=by
 rcases h.2 with ⟨h0,-⟩|⟨g',cap',cur,hv,hb,hg,hn,hc,hs,ht⟩
 . cases h0
 . simp only[Value.slice.injEq,Option.some.injEq,Addr.mk.injEq,and_true] at hv
   obtain⟨rfl,rfl,rfl⟩:=hv
   have hf:=Xh hm d hi xs k hk he
   refine⟨by rw[hf,List.length_set,List.length_set];exact h.1,.inr ⟨g,cap,cur.setIfInBounds (k*m+i) u,by rw[List.length_set],hb,aX hg _ _,by rw[List.length_set];exact hn,hc,by simpa using hs,?_⟩⟩
   rw[hf,List.length_set,<- ht,Array.toList_setIfInBounds,List.take_set]
theorem Qw {B m:Nat}{e:TypeId}{w:World}{v:Value}{n:Nat}{ks:List Value}(h:w.ownsRow B e m v n ks)(h0:0<n):∃g cap,v=.slice (some ⟨g,0,none⟩) n cap/\B<=g/\g<w.heap.size/\n<=cap/\cap<=maxLen/\(∀i,w.frozen? ⟨g,i,none⟩=false)/\∀i u,ks[i]? = some u->w.cell? ⟨g,i,none⟩=some u:=by
 rcases h.2 with ⟨-,rfl⟩|⟨g,cap,cur,rfl,hb,hg,hn,hc,hs,ht⟩
 . omega
 . refine⟨g,cap,rfl,hb,(aF hg),hn,hc,fun i=>frozen_of_row w g i _ _ hg,fun i u hu=>?_⟩
   rw[cell_of_row w g i _ _ (0,0) hg,<- Array.getElem?_toList]
   rw[<- ht,List.getElem?_take] at hu
   split at hu
   . exact hu
   . cases hu
theorem WR {α:Type}{m:Nat}{enc:α->List Value}(hm:∀x,(enc x).length=m)(d:α){w:World}{b off:Nat}{xs:List α}(hx:∀k i u,k<xs.length->(enc (xs.getD k d))[i]? = some u->w.cell? ⟨b,off+k*m+i,none⟩=some u)(h0:0<m):∀(j:Nat) u,(xs.flatMap enc)[j]? = some u->w.cell? ((⟨b,off,none⟩:Addr).add j)=some u:=by
 intro j u hj
 have hl:(xs.flatMap enc).length=xs.length*m:=by
  clear hx hj
  induction xs with
  | nil=>simp
  | cons x xs ih=>rw[List.flatMap_cons,List.length_append,hm,ih,List.length_cons,Nat.add_mul];omega
 have hlt:j<xs.length*m:=by rw[<- hl];exact(List.getElem?_eq_some_iff.1 hj).1
 have hk:j / m<xs.length:=Nat.div_lt_of_lt_mul (by rw[Nat.mul_comm];exact hlt)
 have hi:j % m<m:=Nat.mod_lt _ h0
 have hd:j / m*m+j % m=j:=by rw[Nat.mul_comm];exact Nat.div_add_mod j m
 have h:=uF hm d xs (j / m) (j % m) hk hi
 rw[hd,hj] at h
 rw[Js,show off+j=off+j / m*m+j % m by omega]
 exact hx _ _ _ hk h.symm
theorem Qg {α:Type}{m:Nat}{enc:α->List Value}(hm:∀x,(enc x).length=m):∀xs:List α,(xs.flatMap enc).length=xs.length*m
 | []=>by simp
 | x :: xs=>by rw[List.flatMap_cons,List.length_append,hm,Qg hm xs,List.length_cons,Nat.add_mul];omega
theorem nY {α:Type}{m bytes:Nat}{enc:α->List Value}(hm:∀x,(enc x).length=m)(d:α){t e:TypeId}{z:Value}(ht:Tryz.prog.underlying t=some (.slice e))(hinfo:(Tryz.prog.info? e).map (fun i=>(i.zero,i.size,i.bytes))=some (some z,m,bytes))(hzs:z.cells.size=m)(h0:0<m)(hby:bytes<=1000)
    {w:World} {v:Value} {xs:List α} (h1:∀x ∈ xs,∀u ∈ enc x,u.oneCell'=true) (h:gG m enc d w v xs) (hl:xs.length<=1000) :
    ∃v' w',(Builtin.append_ #[t,t] t #[.slice none 0 0,v]).run Tryz.prog w=.ok v' w'/\w'.ownsRow w.heap.size e m v' xs.length (xs.flatMap enc)/\Below w.heap.size w w':=by
 obtain⟨i0,hi,hz0,hz1,hz2⟩:=info_parts hinfo
 obtain⟨a,cap,rfl,hmx,hc⟩:=h
 cases a with
 | none =>
  have hn:xs=[]:=by
   rcases xs with _|⟨x,xs⟩
   . rfl
   . obtain⟨b,off,h,-⟩:=hc (by simp)
     cases h
  subst hn
  refine⟨.slice none 0 0,w,?_,World.ownsRow_nil w _ e m,Below.refl _ _⟩
  simp[Builtin.append_,run_underlying ht,sizeOf,typeInfo,hi,Builtin.lenOf,Builtin.firstCells,loadCells,loadCellsFrom]
 | some a =>
  by_cases hx:xs.length=0
  . have hn:xs=[]:=List.eq_nil_of_length_eq_zero hx
    subst hn
    obtain⟨v',w',hrun,r1,r2,-,-⟩:=run_append_own_at (P:=Tryz.prog) w w.heap.size t t e i0 z m bytes ht hi hz0 hz1 hz2 hzs h0 (.slice none 0 0) 0 [] (World.ownsRow_nil w _ e m) a 0 cap [] (by simp) (by simp) (by simp) (by simp[maxLen]) (by simp) (Nat.le_refl _)
    exact⟨v',w',hrun,by simpa using r1,⟨r2.os,r2.tape,r2.output,r2.size,fun k hk=>r2.block k hk (by simp[Value.ownBlock])⟩⟩
  . obtain⟨b,off,hab,-,hxx⟩:=hc (by omega)
    cases hab
    obtain⟨v',w',hrun,r1,r2,-,-⟩:=run_append_own_at (P:=Tryz.prog) w w.heap.size t t e i0 z m bytes ht hi hz0 hz1 hz2 hzs h0 (.slice none 0 0) 0 [] (World.ownsRow_nil w _ e m) ⟨b,off,none⟩ xs.length cap (xs.flatMap enc) (Qg hm xs) (WR hm d hxx h0)
     (fun u hu=>by
      obtain⟨x,hm',hx⟩:=List.mem_flatMap.1 hu
      exact h1 x hm' u hx) (by unfold maxLen;omega) (Nat.le_trans (Nat.mul_le_mul (show 0+xs.length<=1000 by omega) hby) (by omega)) (Nat.le_refl _)
    exact⟨v',w',hrun,by simpa using r1,⟨r2.os,r2.tape,r2.output,r2.size,fun k hk=>r2.block k hk (by simp[Value.ownBlock])⟩⟩
end Go.Proofs.YtkjdidieiioijaaGreat.B
namespace Go.Proofs.YtkjdidieiioijaaGreat.G
open Go.RowKit Go.Sd bz
theorem Rj {c:d_}{t:Bool}(w:World)(h:c.ok=t):Calls Tryz.prog 23 #[gm c] w (dI (.bool t) w) :=
 (nP c w).mono fun e w' ⟨t',he,ht,hb⟩=>⟨by rw[he,<- h,<- ht.out],hb⟩
theorem stateT {s:St}{t:Bool}(w:World)(h:s.ok=t):Calls Tryz.prog 24 #[jF s] w (dI (.bool t) w) :=
 (Fp s w).mono fun e w' ⟨t',he,ht,hb⟩=>⟨by rw[he,<- h,<- ht.out],hb⟩
theorem opT {o:bz.Op}{t:Bool}(w:World)(h:o.ok=t):Calls Tryz.prog 25 #[Ll o] w (dI (.bool t) w) :=
 (ZF o w).mono fun e w' ⟨t',he,ht,hb⟩=>⟨by rw[he,<- h,<- ht.out],hb⟩
theorem Zx {c:d_}{s:St}{o:bz.Op}(w:World)(hc:c.ok=false) :
    Calls Tryz.prog 7 #[gm c,jF s,Ll o] w (dI (.tuple #[jF st0,l9 Ns,.int .i64 2]) w):=by
 obtain⟨W1,hW1⟩:=aG (w.alloc (.cells #[.int .i64 c.jm,.int .i64 c.jG,.int .i64 c.least,.int .i64 c.most,.int .i64 c.f0,.int .i64 c.f1,.int .i64 c.h0,.int .i64 c.h1,.int .i64 c.bu,.int .i64 c.mJ,.int .i64 c.phi] 38))
 obtain⟨aJ,f_,iC⟩:=boxed hW1
 have Ae:w.heap.size<W1.heap.size:=by omega
 obtain⟨jV,jW,jX,jY,jZ,j_,ku,kz,kJ,kQ,oq⟩:=bJ aJ
 obtain⟨W2,hW2⟩:=aG (W1.alloc (.cells #[.int .i64 s.dB,.int .i64 s.dK,.int .i64 s.di,.int .i64 s.dE,.int .i64 s.gK,.int .i64 s.gJ,.int .i64 s.wlo,.int .i64 s.whi] 40))
 obtain⟨bF,iH,lW⟩:=boxed hW2
 have Jm:w.heap.size<W2.heap.size:=by omega
 replace aJ:=(iH.block _ (aF aJ)).trans aJ
 obtain⟨qR,qU,qV,qW,qX,qY,qZ,rf,rq,ry,ou⟩:=bJ aJ
 have Jn:W1.heap.size<W2.heap.size:=by omega
 obtain⟨rC,rD,rE,rF,rG,rH,rJ,rM⟩:=rc8 bF
 obtain⟨W3,hW3⟩:=aG (W2.alloc (.cells #[.int .i64 o.kind,.int .i64 o.lg,.int .i64 o.ly,.int .i64 o.lt,.int .i64 o.lw,.int .i64 o.ay,.int .i64 o.lY,.int .i64 o.lX,.int .i64 o.wlo,.int .i64 o.whi] 43))
 obtain⟨dQ,jS,uy⟩:=boxed hW3
 have Yr:w.heap.size<W3.heap.size:=by omega
 replace aJ:=(jS.block _ (aF aJ)).trans aJ
 obtain⟨Hm,Hq,Hr,Ht,Hu,Hw,Hy,Hz,HY,H5,AV⟩:=bJ aJ
 have Yt:W1.heap.size<W3.heap.size:=by omega
 replace bF:=(jS.block _ (aF bF)).trans bF
 obtain⟨H6,H7,H8,H9,H_,Ia,Ib,Ic⟩:=rc8 bF
 have Yu:W2.heap.size<W3.heap.size:=by omega
 obtain⟨Ie,Ig,NQ,NR,NS,NT,NU,NV,NW,NY⟩:=gB dQ
 obtain⟨W4,UQ⟩:=aG (W3.alloc (.cells #[.int .i64 0,.int .i64 0,.int .i64 0,.int .i64 0,.int .i64 0,.int .i64 0,.int .i64 0,.int .i64 0] 40))
 obtain⟨ik,l7,CG⟩:=boxed UQ
 have Yv:w.heap.size<W4.heap.size:=by omega
 replace aJ:=(l7.block _ (aF aJ)).trans aJ
 obtain⟨Ih,Ii,Ij,Ik,Il,Io,Iq,Ir,Iu,Iw,AX⟩:=bJ aJ
 have Yw:W1.heap.size<W4.heap.size:=by omega
 replace bF:=(l7.block _ (aF bF)).trans bF
 obtain⟨Iy,Iz,IA,IB,IC,IE,IG,II⟩:=rc8 bF
 have Yx:W2.heap.size<W4.heap.size:=by omega
 replace dQ:=(l7.block _ (aF dQ)).trans dQ
 obtain⟨IJ,IK,NZ,N7,N8,N9,N_,Oa,Ob,Oc⟩:=gB dQ
 have Yy:W3.heap.size<W4.heap.size:=by omega
 obtain⟨IL,IM,Oe,Og,Oh,Oi,Oj,Ol⟩:=rc8 ik
 obtain⟨W5,Zc⟩:=aG (W4.alloc (.cells #[.int .i64 0,.int .i64 0,.int .i64 0,.int .i64 0,.int .i64 0,.int .i64 0] 56))
 obtain⟨pW,yw,Yj⟩:=boxed Zc
 have acx:w.heap.size<W5.heap.size:=by omega
 replace aJ:=(yw.block _ (aF aJ)).trans aJ
 obtain⟨Om,Oo,Oq,Ot,Ou,Ov,Ox,Oy,Oz,OA,IP⟩:=bJ aJ
 have acy:W1.heap.size<W5.heap.size:=by omega
 replace bF:=(yw.block _ (aF bF)).trans bF
 obtain⟨OB,OC,OD,OE,OG,OH,OI,OJ⟩:=rc8 bF
 have acz:W2.heap.size<W5.heap.size:=by omega
 replace dQ:=(yw.block _ (aF dQ)).trans dQ
 obtain⟨OL,OM,OO,OQ,OT,OU,OV,OW,OX,OY⟩:=gB dQ
 have acA:W3.heap.size<W5.heap.size:=by omega
 replace ik:=(yw.block _ (aF ik)).trans ik
 obtain⟨OZ,O0,O1,O3,O4,O5,O6,O7⟩:=rc8 ik
 have acB:W4.heap.size<W5.heap.size:=by omega
 obtain⟨O8,O9,O_,Pg,Ph,Pj⟩:=Ru pW
 obtain⟨W,hW⟩:=aG (W5.alloc (.cells #[.int .i64 c.jm,.int .i64 c.jG,.int .i64 c.least,.int .i64 c.most,.int .i64 c.f0,.int .i64 c.f1,.int .i64 c.h0,.int .i64 c.h1,.int .i64 c.bu,.int .i64 c.mJ,.int .i64 c.phi] 96))
 obtain⟨GX,yP,sW5⟩:=boxed hW
 replace aJ:=(yP.block _ (aF aJ)).trans aJ
 replace bF:=(yP.block _ (aF bF)).trans bF
 replace dQ:=(yP.block _ (aF dQ)).trans dQ
 replace ik:=(yP.block _ (aF ik)).trans ik
 replace pW:=(yP.block _ (aF pW)).trans pW
 have hBw:Below w.heap.size w W:=(by have:=iC;have:=lW;have:=uy;have:=CG;have:=Yj;have:=sW5;exact(((((f_.trans (iH.mono (by omega))).trans (jS.mono (by omega))).trans (l7.mono (by omega))).trans (yw.mono (by omega))).trans (yP.mono (by omega))))
 obtain⟨qK,jQ,jR⟩:=ah aJ
 obtain⟨eG,eH,fP,fQ,gV,gW,gX,gY,je,jf,iR⟩:=bJ aJ
 obtain⟨ja,jb,jy,jA,jB,jC,jD,jE,mP,mQ,mX⟩:=ni aJ
 have EW0:=ai aJ
 clear jQ jR aJ
 obtain⟨CS,rQ,rW⟩:=ah bF
 obtain⟨jg,jh,ji,jk,qj,qm,qo,qw⟩:=rc8 bF
 obtain⟨lS,lT,lU,lV,sO,sQ,sS,sU⟩:=FP bF
 have EW1:=ai bF
 clear rQ rW bF
 obtain⟨Jo,Gt,Gw⟩:=ah dQ
 obtain⟨qx,qy,qP,qQ,QJ,QK,QL,QM,QN,QO⟩:=gB dQ
 obtain⟨qL,qM,sW,tq,P9,P_,Qa,Qb,Qc,Qd⟩:=FO dQ
 have EW2:=ai dQ
 clear Gt Gw dQ
 obtain⟨MI,QV,Rf⟩:=ah ik
 obtain⟨yJ,yK,zM,zN,ace,acf,acg,ach⟩:=rc8 ik
 obtain⟨zH,zI,Au,Aw,aax,aay,aaz,aaA⟩:=FP ik
 have EW3:=ai ik
 clear QV Rf ik
 obtain⟨zW4,rW4,tW4⟩:=ah pW
 obtain⟨XY,XZ,X8,X9,X_,Ya⟩:=Ru pW
 obtain⟨WY,WZ,W9,W_,Xa,Xb⟩:=rf6 pW
 have EW4:=ai pW
 clear rW4 tW4 pW
 obtain⟨zW5,rW5,tW5⟩:=ah GX
 obtain⟨aci,acj,ack,acm,acn,aco,acp,acr,acs,acu,VB⟩:=bJ GX
 obtain⟨aaB,aaC,aaD,aaE,aaF,aaG,aaH,aaI,aaJ,aaK,UI⟩:=ni GX
 have EW5:=ai GX
 clear rW5 tW5 GX
 have yL:w.heap.size<=w.heap.size:=by omega
 have MH:w.heap.size<=W1.heap.size:=by omega
 have Yq:w.heap.size<=W2.heap.size:=by omega
 have VP:w.heap.size<=W3.heap.size:=by omega
 have xW4:w.heap.size<=W4.heap.size:=by omega
 have xW5:w.heap.size<=W5.heap.size:=by omega
 clear f_ iC iH lW jS uy l7 CG yw Yj yP sW5
 have hg:=az W
 have hgf:=dG W
 clear EW0 EW1 EW2 EW3 EW4 EW5
 go_enter Tryz.func7,Tryz.ntmps7
 go_wp2_with (first|(go_at_call 23;(with_reducible refine ax (Rj _ hc) ?_);rintro e w1 ⟨rfl,hB⟩;(first|(obtain⟨g,rfl⟩:=g.next hB)|(obtain⟨g,rfl⟩:∃g:Grow W,w1=g.x:=⟨⟨w1,hB⟩,rfl⟩));clear hB))
 refine bodyPost_ret (v:=.tuple #[jF st0,l9 Ns,.int .i64 2]) (by simp[results,Tryz.results7,go_sem, *]) rfl ⟨rfl,?_⟩
 have hfin:Below w.heap.size w g.x:=hBw.trans (g.h.mono hBw.size)
 repeat' (first|(with_reducible exact hfin)|(with_reducible exact VP)|(with_reducible exact xW4)|refine Below.setCell ?_ ?_ _)
theorem Zy {c:d_}{s:St}{o:bz.Op}(w:World)(hc:c.ok=true)(hs:s.ok=false) :
    Calls Tryz.prog 7 #[gm c,jF s,Ll o] w (dI (.tuple #[jF st0,l9 Ns,.int .i64 2]) w):=by
 obtain⟨W1,hW1⟩:=aG (w.alloc (.cells #[.int .i64 c.jm,.int .i64 c.jG,.int .i64 c.least,.int .i64 c.most,.int .i64 c.f0,.int .i64 c.f1,.int .i64 c.h0,.int .i64 c.h1,.int .i64 c.bu,.int .i64 c.mJ,.int .i64 c.phi] 38))
 obtain⟨aJ,f_,iC⟩:=boxed hW1
 have Ae:w.heap.size<W1.heap.size:=by omega
 obtain⟨jV,jW,jX,jY,jZ,j_,ku,kz,kJ,kQ,oq⟩:=bJ aJ
 obtain⟨W2,hW2⟩:=aG (W1.alloc (.cells #[.int .i64 s.dB,.int .i64 s.dK,.int .i64 s.di,.int .i64 s.dE,.int .i64 s.gK,.int .i64 s.gJ,.int .i64 s.wlo,.int .i64 s.whi] 40))
 obtain⟨bF,iH,lW⟩:=boxed hW2
 have Jm:w.heap.size<W2.heap.size:=by omega
 replace aJ:=(iH.block _ (aF aJ)).trans aJ
 obtain⟨qR,qU,qV,qW,qX,qY,qZ,rf,rq,ry,ou⟩:=bJ aJ
 have Jn:W1.heap.size<W2.heap.size:=by omega
 obtain⟨rC,rD,rE,rF,rG,rH,rJ,rM⟩:=rc8 bF
 obtain⟨W3,hW3⟩:=aG (W2.alloc (.cells #[.int .i64 o.kind,.int .i64 o.lg,.int .i64 o.ly,.int .i64 o.lt,.int .i64 o.lw,.int .i64 o.ay,.int .i64 o.lY,.int .i64 o.lX,.int .i64 o.wlo,.int .i64 o.whi] 43))
 obtain⟨dQ,jS,uy⟩:=boxed hW3
 have Yr:w.heap.size<W3.heap.size:=by omega
 replace aJ:=(jS.block _ (aF aJ)).trans aJ
 obtain⟨Hm,Hq,Hr,Ht,Hu,Hw,Hy,Hz,HY,H5,AV⟩:=bJ aJ
 have Yt:W1.heap.size<W3.heap.size:=by omega
 replace bF:=(jS.block _ (aF bF)).trans bF
 obtain⟨H6,H7,H8,H9,H_,Ia,Ib,Ic⟩:=rc8 bF
 have Yu:W2.heap.size<W3.heap.size:=by omega
 obtain⟨Ie,Ig,NQ,NR,NS,NT,NU,NV,NW,NY⟩:=gB dQ
 obtain⟨W4,UQ⟩:=aG (W3.alloc (.cells #[.int .i64 0,.int .i64 0,.int .i64 0,.int .i64 0,.int .i64 0,.int .i64 0,.int .i64 0,.int .i64 0] 40))
 obtain⟨ik,l7,CG⟩:=boxed UQ
 have Yv:w.heap.size<W4.heap.size:=by omega
 replace aJ:=(l7.block _ (aF aJ)).trans aJ
 obtain⟨Ih,Ii,Ij,Ik,Il,Io,Iq,Ir,Iu,Iw,AX⟩:=bJ aJ
 have Yw:W1.heap.size<W4.heap.size:=by omega
 replace bF:=(l7.block _ (aF bF)).trans bF
 obtain⟨Iy,Iz,IA,IB,IC,IE,IG,II⟩:=rc8 bF
 have Yx:W2.heap.size<W4.heap.size:=by omega
 replace dQ:=(l7.block _ (aF dQ)).trans dQ
 obtain⟨IJ,IK,NZ,N7,N8,N9,N_,Oa,Ob,Oc⟩:=gB dQ
 have Yy:W3.heap.size<W4.heap.size:=by omega
 obtain⟨IL,IM,Oe,Og,Oh,Oi,Oj,Ol⟩:=rc8 ik
 obtain⟨W5,Zc⟩:=aG (W4.alloc (.cells #[.int .i64 0,.int .i64 0,.int .i64 0,.int .i64 0,.int .i64 0,.int .i64 0] 56))
 obtain⟨pW,yw,Yj⟩:=boxed Zc
 have acx:w.heap.size<W5.heap.size:=by omega
 replace aJ:=(yw.block _ (aF aJ)).trans aJ
 obtain⟨Om,Oo,Oq,Ot,Ou,Ov,Ox,Oy,Oz,OA,IP⟩:=bJ aJ
 have acy:W1.heap.size<W5.heap.size:=by omega
 replace bF:=(yw.block _ (aF bF)).trans bF
 obtain⟨OB,OC,OD,OE,OG,OH,OI,OJ⟩:=rc8 bF
 have acz:W2.heap.size<W5.heap.size:=by omega
 replace dQ:=(yw.block _ (aF dQ)).trans dQ
 obtain⟨OL,OM,OO,OQ,OT,OU,OV,OW,OX,OY⟩:=gB dQ
 have acA:W3.heap.size<W5.heap.size:=by omega
 replace ik:=(yw.block _ (aF ik)).trans ik
 obtain⟨OZ,O0,O1,O3,O4,O5,O6,O7⟩:=rc8 ik
 have acB:W4.heap.size<W5.heap.size:=by omega
 obtain⟨O8,O9,O_,Pg,Ph,Pj⟩:=Ru pW
 obtain⟨W,hW⟩:=aG (W5.alloc (.cells #[.int .i64 c.jm,.int .i64 c.jG,.int .i64 c.least,.int .i64 c.most,.int .i64 c.f0,.int .i64 c.f1,.int .i64 c.h0,.int .i64 c.h1,.int .i64 c.bu,.int .i64 c.mJ,.int .i64 c.phi] 96))
 obtain⟨GX,yP,sW5⟩:=boxed hW
 replace aJ:=(yP.block _ (aF aJ)).trans aJ
 replace bF:=(yP.block _ (aF bF)).trans bF
 replace dQ:=(yP.block _ (aF dQ)).trans dQ
 replace ik:=(yP.block _ (aF ik)).trans ik
 replace pW:=(yP.block _ (aF pW)).trans pW
 have hBw:Below w.heap.size w W:=(by have:=iC;have:=lW;have:=uy;have:=CG;have:=Yj;have:=sW5;exact(((((f_.trans (iH.mono (by omega))).trans (jS.mono (by omega))).trans (l7.mono (by omega))).trans (yw.mono (by omega))).trans (yP.mono (by omega))))
 obtain⟨qK,jQ,jR⟩:=ah aJ
 obtain⟨eG,eH,fP,fQ,gV,gW,gX,gY,je,jf,iR⟩:=bJ aJ
 obtain⟨ja,jb,jy,jA,jB,jC,jD,jE,mP,mQ,mX⟩:=ni aJ
 have EW0:=ai aJ
 clear jQ jR aJ
 obtain⟨CS,rQ,rW⟩:=ah bF
 obtain⟨jg,jh,ji,jk,qj,qm,qo,qw⟩:=rc8 bF
 obtain⟨lS,lT,lU,lV,sO,sQ,sS,sU⟩:=FP bF
 have EW1:=ai bF
 clear rQ rW bF
 obtain⟨Jo,Gt,Gw⟩:=ah dQ
 obtain⟨qx,qy,qP,qQ,QJ,QK,QL,QM,QN,QO⟩:=gB dQ
 obtain⟨qL,qM,sW,tq,P9,P_,Qa,Qb,Qc,Qd⟩:=FO dQ
 have EW2:=ai dQ
 clear Gt Gw dQ
 obtain⟨MI,QV,Rf⟩:=ah ik
 obtain⟨yJ,yK,zM,zN,ace,acf,acg,ach⟩:=rc8 ik
 obtain⟨zH,zI,Au,Aw,aax,aay,aaz,aaA⟩:=FP ik
 have EW3:=ai ik
 clear QV Rf ik
 obtain⟨zW4,rW4,tW4⟩:=ah pW
 obtain⟨XY,XZ,X8,X9,X_,Ya⟩:=Ru pW
 obtain⟨WY,WZ,W9,W_,Xa,Xb⟩:=rf6 pW
 have EW4:=ai pW
 clear rW4 tW4 pW
 obtain⟨zW5,rW5,tW5⟩:=ah GX
 obtain⟨aci,acj,ack,acm,acn,aco,acp,acr,acs,acu,VB⟩:=bJ GX
 obtain⟨aaB,aaC,aaD,aaE,aaF,aaG,aaH,aaI,aaJ,aaK,UI⟩:=ni GX
 have EW5:=ai GX
 clear rW5 tW5 GX
 have yL:w.heap.size<=w.heap.size:=by omega
 have MH:w.heap.size<=W1.heap.size:=by omega
 have Yq:w.heap.size<=W2.heap.size:=by omega
 have VP:w.heap.size<=W3.heap.size:=by omega
 have xW4:w.heap.size<=W4.heap.size:=by omega
 have xW5:w.heap.size<=W5.heap.size:=by omega
 clear f_ iC iH lW jS uy l7 CG yw Yj yP sW5
 have hg:=az W
 have hgf:=dG W
 clear EW0 EW1 EW2 EW3 EW4 EW5
 go_enter Tryz.func7,Tryz.ntmps7
 go_wp2_with (first|(go_at_call 23;(with_reducible refine ax (Rj _ hc) ?_);rintro e w1 ⟨rfl,hB⟩;(first|(obtain⟨g,rfl⟩:=g.next hB)|(obtain⟨g,rfl⟩:∃g:Grow W,w1=g.x:=⟨⟨w1,hB⟩,rfl⟩));clear hB)|(go_at_call 24;(with_reducible refine ax (stateT _ hs) ?_);rintro e w1 ⟨rfl,hB⟩;(first|(obtain⟨g,rfl⟩:=g.next hB)|(obtain⟨g,rfl⟩:∃g:Grow W,w1=g.x:=⟨⟨w1,hB⟩,rfl⟩));clear hB))
 refine bodyPost_ret (v:=.tuple #[jF st0,l9 Ns,.int .i64 2]) (by simp[results,Tryz.results7,go_sem, *]) rfl ⟨rfl,?_⟩
 have hfin:Below w.heap.size w g.x:=hBw.trans (g.h.mono hBw.size)
 repeat' (first|(with_reducible exact hfin)|(with_reducible exact VP)|(with_reducible exact xW4)|refine Below.setCell ?_ ?_ _)
theorem Zz {c:d_}{s:St}{o:bz.Op}(w:World)(hc:c.ok=true)(hs:s.ok=true)(ho:o.ok=false) :
    Calls Tryz.prog 7 #[gm c,jF s,Ll o] w (dI (.tuple #[jF st0,l9 Ns,.int .i64 2]) w):=by
 obtain⟨W1,hW1⟩:=aG (w.alloc (.cells #[.int .i64 c.jm,.int .i64 c.jG,.int .i64 c.least,.int .i64 c.most,.int .i64 c.f0,.int .i64 c.f1,.int .i64 c.h0,.int .i64 c.h1,.int .i64 c.bu,.int .i64 c.mJ,.int .i64 c.phi] 38))
 obtain⟨aJ,f_,iC⟩:=boxed hW1
 have Ae:w.heap.size<W1.heap.size:=by omega
 obtain⟨jV,jW,jX,jY,jZ,j_,ku,kz,kJ,kQ,oq⟩:=bJ aJ
 obtain⟨W2,hW2⟩:=aG (W1.alloc (.cells #[.int .i64 s.dB,.int .i64 s.dK,.int .i64 s.di,.int .i64 s.dE,.int .i64 s.gK,.int .i64 s.gJ,.int .i64 s.wlo,.int .i64 s.whi] 40))
 obtain⟨bF,iH,lW⟩:=boxed hW2
 have Jm:w.heap.size<W2.heap.size:=by omega
 replace aJ:=(iH.block _ (aF aJ)).trans aJ
 obtain⟨qR,qU,qV,qW,qX,qY,qZ,rf,rq,ry,ou⟩:=bJ aJ
 have Jn:W1.heap.size<W2.heap.size:=by omega
 obtain⟨rC,rD,rE,rF,rG,rH,rJ,rM⟩:=rc8 bF
 obtain⟨W3,hW3⟩:=aG (W2.alloc (.cells #[.int .i64 o.kind,.int .i64 o.lg,.int .i64 o.ly,.int .i64 o.lt,.int .i64 o.lw,.int .i64 o.ay,.int .i64 o.lY,.int .i64 o.lX,.int .i64 o.wlo,.int .i64 o.whi] 43))
 obtain⟨dQ,jS,uy⟩:=boxed hW3
 have Yr:w.heap.size<W3.heap.size:=by omega
 replace aJ:=(jS.block _ (aF aJ)).trans aJ
 obtain⟨Hm,Hq,Hr,Ht,Hu,Hw,Hy,Hz,HY,H5,AV⟩:=bJ aJ
 have Yt:W1.heap.size<W3.heap.size:=by omega
 replace bF:=(jS.block _ (aF bF)).trans bF
 obtain⟨H6,H7,H8,H9,H_,Ia,Ib,Ic⟩:=rc8 bF
 have Yu:W2.heap.size<W3.heap.size:=by omega
 obtain⟨Ie,Ig,NQ,NR,NS,NT,NU,NV,NW,NY⟩:=gB dQ
 obtain⟨W4,UQ⟩:=aG (W3.alloc (.cells #[.int .i64 0,.int .i64 0,.int .i64 0,.int .i64 0,.int .i64 0,.int .i64 0,.int .i64 0,.int .i64 0] 40))
 obtain⟨ik,l7,CG⟩:=boxed UQ
 have Yv:w.heap.size<W4.heap.size:=by omega
 replace aJ:=(l7.block _ (aF aJ)).trans aJ
 obtain⟨Ih,Ii,Ij,Ik,Il,Io,Iq,Ir,Iu,Iw,AX⟩:=bJ aJ
 have Yw:W1.heap.size<W4.heap.size:=by omega
 replace bF:=(l7.block _ (aF bF)).trans bF
 obtain⟨Iy,Iz,IA,IB,IC,IE,IG,II⟩:=rc8 bF
 have Yx:W2.heap.size<W4.heap.size:=by omega
 replace dQ:=(l7.block _ (aF dQ)).trans dQ
 obtain⟨IJ,IK,NZ,N7,N8,N9,N_,Oa,Ob,Oc⟩:=gB dQ
 have Yy:W3.heap.size<W4.heap.size:=by omega
 obtain⟨IL,IM,Oe,Og,Oh,Oi,Oj,Ol⟩:=rc8 ik
 obtain⟨W5,Zc⟩:=aG (W4.alloc (.cells #[.int .i64 0,.int .i64 0,.int .i64 0,.int .i64 0,.int .i64 0,.int .i64 0] 56))
 obtain⟨pW,yw,Yj⟩:=boxed Zc
 have acx:w.heap.size<W5.heap.size:=by omega
 replace aJ:=(yw.block _ (aF aJ)).trans aJ
 obtain⟨Om,Oo,Oq,Ot,Ou,Ov,Ox,Oy,Oz,OA,IP⟩:=bJ aJ
 have acy:W1.heap.size<W5.heap.size:=by omega
 replace bF:=(yw.block _ (aF bF)).trans bF
 obtain⟨OB,OC,OD,OE,OG,OH,OI,OJ⟩:=rc8 bF
 have acz:W2.heap.size<W5.heap.size:=by omega
 replace dQ:=(yw.block _ (aF dQ)).trans dQ
 obtain⟨OL,OM,OO,OQ,OT,OU,OV,OW,OX,OY⟩:=gB dQ
 have acA:W3.heap.size<W5.heap.size:=by omega
 replace ik:=(yw.block _ (aF ik)).trans ik
 obtain⟨OZ,O0,O1,O3,O4,O5,O6,O7⟩:=rc8 ik
 have acB:W4.heap.size<W5.heap.size:=by omega
 obtain⟨O8,O9,O_,Pg,Ph,Pj⟩:=Ru pW
 obtain⟨W,hW⟩:=aG (W5.alloc (.cells #[.int .i64 c.jm,.int .i64 c.jG,.int .i64 c.least,.int .i64 c.most,.int .i64 c.f0,.int .i64 c.f1,.int .i64 c.h0,.int .i64 c.h1,.int .i64 c.bu,.int .i64 c.mJ,.int .i64 c.phi] 96))
 obtain⟨GX,yP,sW5⟩:=boxed hW
 replace aJ:=(yP.block _ (aF aJ)).trans aJ
 replace bF:=(yP.block _ (aF bF)).trans bF
 replace dQ:=(yP.block _ (aF dQ)).trans dQ
 replace ik:=(yP.block _ (aF ik)).trans ik
 replace pW:=(yP.block _ (aF pW)).trans pW
 have hBw:Below w.heap.size w W:=(by have:=iC;have:=lW;have:=uy;have:=CG;have:=Yj;have:=sW5;exact(((((f_.trans (iH.mono (by omega))).trans (jS.mono (by omega))).trans (l7.mono (by omega))).trans (yw.mono (by omega))).trans (yP.mono (by omega))))
 obtain⟨qK,jQ,jR⟩:=ah aJ
 obtain⟨eG,eH,fP,fQ,gV,gW,gX,gY,je,jf,iR⟩:=bJ aJ
 obtain⟨ja,jb,jy,jA,jB,jC,jD,jE,mP,mQ,mX⟩:=ni aJ
 have EW0:=ai aJ
 clear jQ jR aJ
 obtain⟨CS,rQ,rW⟩:=ah bF
 obtain⟨jg,jh,ji,jk,qj,qm,qo,qw⟩:=rc8 bF
 obtain⟨lS,lT,lU,lV,sO,sQ,sS,sU⟩:=FP bF
 have EW1:=ai bF
 clear rQ rW bF
 obtain⟨Jo,Gt,Gw⟩:=ah dQ
 obtain⟨qx,qy,qP,qQ,QJ,QK,QL,QM,QN,QO⟩:=gB dQ
 obtain⟨qL,qM,sW,tq,P9,P_,Qa,Qb,Qc,Qd⟩:=FO dQ
 have EW2:=ai dQ
 clear Gt Gw dQ
 obtain⟨MI,QV,Rf⟩:=ah ik
 obtain⟨yJ,yK,zM,zN,ace,acf,acg,ach⟩:=rc8 ik
 obtain⟨zH,zI,Au,Aw,aax,aay,aaz,aaA⟩:=FP ik
 have EW3:=ai ik
 clear QV Rf ik
 obtain⟨zW4,rW4,tW4⟩:=ah pW
 obtain⟨XY,XZ,X8,X9,X_,Ya⟩:=Ru pW
 obtain⟨WY,WZ,W9,W_,Xa,Xb⟩:=rf6 pW
 have EW4:=ai pW
 clear rW4 tW4 pW
 obtain⟨zW5,rW5,tW5⟩:=ah GX
 obtain⟨aci,acj,ack,acm,acn,aco,acp,acr,acs,acu,VB⟩:=bJ GX
 obtain⟨aaB,aaC,aaD,aaE,aaF,aaG,aaH,aaI,aaJ,aaK,UI⟩:=ni GX
 have EW5:=ai GX
 clear rW5 tW5 GX
 have yL:w.heap.size<=w.heap.size:=by omega
 have MH:w.heap.size<=W1.heap.size:=by omega
 have Yq:w.heap.size<=W2.heap.size:=by omega
 have VP:w.heap.size<=W3.heap.size:=by omega
 have xW4:w.heap.size<=W4.heap.size:=by omega
 have xW5:w.heap.size<=W5.heap.size:=by omega
 clear f_ iC iH lW jS uy l7 CG yw Yj yP sW5
 have hg:=az W
 have hgf:=dG W
 clear EW0 EW1 EW2 EW3 EW4 EW5
 go_enter Tryz.func7,Tryz.ntmps7
 go_wp2_with (first|(go_at_call 23;(with_reducible refine ax (Rj _ hc) ?_);rintro e w1 ⟨rfl,hB⟩;(first|(obtain⟨g,rfl⟩:=g.next hB)|(obtain⟨g,rfl⟩:∃g:Grow W,w1=g.x:=⟨⟨w1,hB⟩,rfl⟩));clear hB)|(go_at_call 24;(with_reducible refine ax (stateT _ hs) ?_);rintro e w1 ⟨rfl,hB⟩;(first|(obtain⟨g,rfl⟩:=g.next hB)|(obtain⟨g,rfl⟩:∃g:Grow W,w1=g.x:=⟨⟨w1,hB⟩,rfl⟩));clear hB)|(go_at_call 25;(with_reducible refine ax (opT _ ho) ?_);rintro e w1 ⟨rfl,hB⟩;(first|(obtain⟨g,rfl⟩:=g.next hB)|(obtain⟨g,rfl⟩:∃g:Grow W,w1=g.x:=⟨⟨w1,hB⟩,rfl⟩));clear hB))
 refine bodyPost_ret (v:=.tuple #[jF st0,l9 Ns,.int .i64 2]) (by simp[results,Tryz.results7,go_sem, *]) rfl ⟨rfl,?_⟩
 have hfin:Below w.heap.size w g.x:=hBw.trans (g.h.mono hBw.size)
 repeat' (first|(with_reducible exact hfin)|(with_reducible exact VP)|(with_reducible exact xW4)|refine Below.setCell ?_ ?_ _)
theorem adH {c:d_}{s:St}{o:bz.Op}(w:World)(h:(c.ok && s.ok && o.ok)=false) :
    Calls Tryz.prog 7 #[gm c,jF s,Ll o] w (dI (.tuple #[jF st0,l9 Ns,.int .i64 2]) w):=by
 cases hc:c.ok
 . exact Zx w hc
 . cases hs:s.ok
   . exact Zy w hc hs
   . cases ho:o.ok
     . exact Zz w hc hs ho
     . rw[hc,hs,ho] at h;cases h
