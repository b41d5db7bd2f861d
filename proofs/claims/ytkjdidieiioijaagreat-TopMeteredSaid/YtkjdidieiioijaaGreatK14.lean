/- Walks. -/
import Derived.ProofKit
import Derived.OpenShut
import Derived.Deep.Slices
import Derived.ChangeOld
import Derived.Test.YtkjdidieiioijaaGreatRows
import Derived.ShutString
import Derived.Below
import Derived.WalkSpells
import Derived.WalkLawsBesides
import Derived.Test.YtkjdidieiioijaaGreatK13
set_option linter.all false
set_option maxRecDepth 100000
set_option maxHeartbeats 16000000
namespace Go.Proofs.YtkjdidieiioijaaGreat.G
open Go.RowKit Go.Sd bz
abbrev st0:bz.St:=⟨0,0,0,0,0,0,0,0⟩
abbrev Ns:bz.Out:=⟨0,0,0,0,0,0⟩
abbrev doV (n:bz.St)(q:bz.Out)(b:Bool):Value:=.tuple #[jF n,l9 q,.bool b]
theorem Vr {c:d_}{s:St}{o:bz.Op}{n:St}{q:bz.Out}(w:World)(hc:c.Ok)(hs:s.Ok)(ho:o.Fit)(h:act c s o=some (n,q)) :
    Calls Tryz.prog 26 #[gm c,jF s,Ll o] w (dI (doV n q true) w):=by
 rcases ho with ⟨hk,hl⟩|⟨hk,hm⟩|⟨hk,ha,hx⟩
 . have hb:s.dK+o.lg<=1000000/\s.dE+o.ly<=1000000/\s.whi+o.lw<=1000000000:=by
    apply Classical.byContradiction;intro hb;simp only[act,hk,if_true,if_neg hb] at h;cases h
   simp only[act,hk,if_true,if_pos hb,Option.some.injEq,Prod.mk.injEq] at h
   obtain⟨rfl,rfl⟩:=h
   refine JM c s o _ _ w (.inl ⟨hk,rfl⟩) (fun args w=>by kernel_rfl) fun W' _=>(Ls c s o W' hc hs hl).mono ?_
   rintro e w' (⟨-,rfl,hB⟩|⟨hno,-⟩)
   . rw[ajg hc hs hl];exact⟨rfl,hB⟩
   . exact absurd ((aa7 hc hs hl).2 hb) hno
 . have hb:o.ay<=s.dB+s.di:=by
    apply Classical.byContradiction;intro hb;simp[act,hk,if_neg hb] at h
   simp[act,hk,if_pos hb] at h
   obtain⟨rfl,rfl⟩:=h
   refine JM c s o _ _ w (.inr (.inl ⟨hk,rfl⟩)) (fun args w=>by kernel_rfl) fun W' _=>(FX c s o W' hs hm).mono ?_
   rintro e w' (⟨-,rfl,hB⟩|⟨hno,-⟩)
   . rw[agr hs hm.1 hb,ajQ hs hm.1 hb];exact⟨rfl,hB⟩
   . exact absurd ((Xw hs).2 hb) hno
 . have hb:s.whi+o.whi<=1000000000:=by
    apply Classical.byContradiction;intro hb;simp[act,hk,if_neg hb] at h
   simp[act,hk,if_pos hb] at h
   obtain⟨rfl,rfl⟩:=h
   refine JM c s o _ _ w (.inr (.inr ⟨hk,rfl⟩)) (fun args w=>by kernel_rfl) fun W' _=>(Tv c s o W' hc hs ha hx).mono ?_
   rintro e w' (⟨-,rfl,hB⟩|⟨hno,-⟩)
   . rw[ahx hc hs ha ⟨hx.1,hx.2.1⟩];exact⟨rfl,hB⟩
   . exact absurd ((Ye hc hs ha ⟨hx.1,hx.2.1⟩).2 hb) hno
theorem Vq {c:d_}{s:St}{o:bz.Op}(w:World)(hc:c.Ok)(hs:s.Ok)(ho:o.Fit)(h:act c s o=none) :
    Calls Tryz.prog 26 #[gm c,jF s,Ll o] w (dI (doV st0 Ns false) w):=by
 rcases ho with ⟨hk,hl⟩|⟨hk,hm⟩|⟨hk,ha,hx⟩
 . have hb:¬ (s.dK+o.lg<=1000000/\s.dE+o.ly<=1000000/\s.whi+o.lw<=1000000000):=by
    intro hb;simp only[act,hk,if_true,if_pos hb] at h;cases h
   refine JL c s o w (.inl ⟨hk,rfl⟩) (fun args w=>by kernel_rfl) fun W' _=>(Ls c s o W' hc hs hl).mono ?_
   rintro e w' (⟨hall,-,-⟩|⟨-,hG⟩)
   . exact absurd ((aa7 hc hs hl).1 hall) hb
   . exact hG
 . have hb:¬ o.ay<=s.dB+s.di:=by
    intro hb;simp[act,hk,if_pos hb] at h
   refine JL c s o w (.inr (.inl ⟨hk,rfl⟩)) (fun args w=>by kernel_rfl) fun W' _=>(FX c s o W' hs hm).mono ?_
   rintro e w' (⟨hall,-,-⟩|⟨-,hG⟩)
   . exact absurd ((Xw hs).1 hall) hb
   . exact hG
 . have hb:¬ s.whi+o.whi<=1000000000:=by
    intro hb;simp[act,hk,if_pos hb] at h
   refine JL c s o w (.inr (.inr ⟨hk,rfl⟩)) (fun args w=>by kernel_rfl) fun W' _=>(Tv c s o W' hc hs ha hx).mono ?_
   rintro e w' (⟨hall,-,-⟩|⟨-,hG⟩)
   . exact absurd ((Ye hc hs ha ⟨hx.1,hx.2.1⟩).1 hall) hb
   . exact hG
theorem afF {c:d_}{p:Pt}(hc:c.Ok)(hg:0<=p.g/\p.g<=1000000)(hy:0<=p.y/\p.y<=1000000)(ht:0<=p.t/\p.t<=5000):0<=force c p/\force c p<=400000000000000000:=by
 have:=GZ hc hg hy ht;unfold force;omega
theorem atA {s:St}(hs:s.Ok):(0<=s.low.t/\s.low.t<=5000)/\(0<=s.high.t/\s.high.t<=5000):=by have:=hs.t;simp only[St.low,St.high];omega
theorem Vz {c:d_}{s:St}(w:World)(hc:c.ok=false):Calls Tryz.prog 44 #[gm c,jF s] w (dI (.tuple #[.int .i64 0,.int .i64 2]) w):=by
 obtain⟨W1,hW1⟩:=aG (w.alloc (.cells #[.int .i64 c.jm,.int .i64 c.jG,.int .i64 c.least,.int .i64 c.most,.int .i64 c.f0,.int .i64 c.f1,.int .i64 c.h0,.int .i64 c.h1,.int .i64 c.bu,.int .i64 c.mJ,.int .i64 c.phi] 38))
 obtain⟨aJ,f_,iC⟩:=boxed hW1
 have Ae:w.heap.size<W1.heap.size:=by omega
 obtain⟨jV,jW,jX,jY,jZ,j_,ku,kz,kJ,kQ,oq⟩:=bJ aJ
 obtain⟨W2,hW2⟩:=aG (W1.alloc (.cells #[.int .i64 s.dB,.int .i64 s.dK,.int .i64 s.di,.int .i64 s.dE,.int .i64 s.gK,.int .i64 s.gJ,.int .i64 s.wlo,.int .i64 s.whi] 40))
 obtain⟨bF,iH,lW⟩:=boxed hW2
 have Jm:w.heap.size<W2.heap.size:=by omega
 replace aJ:=(iH.block _ (aF aJ)).trans aJ
 obtain⟨qR,qU,qV,qW,qX,qY,qZ,rf,rq,ry,ou⟩:=bJ aJ
 have Jn:W1.heap.size<W2.heap.size:=by omega
 obtain⟨rC,rD,rE,rF,rG,rH,rJ,rM⟩:=rc8 bF
 obtain⟨W,hW⟩:=aG (W2.alloc (.cells #[.int .i64 c.jm,.int .i64 c.jG,.int .i64 c.least,.int .i64 c.most,.int .i64 c.f0,.int .i64 c.f1,.int .i64 c.h0,.int .i64 c.h1,.int .i64 c.bu,.int .i64 c.mJ,.int .i64 c.phi] 96))
 obtain⟨dQ,jS,uy⟩:=boxed hW
 replace aJ:=(jS.block _ (aF aJ)).trans aJ
 replace bF:=(jS.block _ (aF bF)).trans bF
 have hBw:Below w.heap.size w W:=(by have:=iC;have:=lW;have:=uy;exact((f_.trans (iH.mono (by omega))).trans (jS.mono (by omega))))
 obtain⟨qK,jQ,jR⟩:=ah aJ
 obtain⟨eG,eH,fP,fQ,gV,gW,gX,gY,je,jf,iR⟩:=bJ aJ
 obtain⟨ja,jb,jy,jA,jB,jC,jD,jE,mP,mQ,mX⟩:=ni aJ
 clear jQ jR aJ
 obtain⟨CS,rQ,rW⟩:=ah bF
 obtain⟨jg,jh,ji,jk,qj,qm,qo,qw⟩:=rc8 bF
 obtain⟨lS,lT,lU,lV,sO,sQ,sS,sU⟩:=FP bF
 clear rQ rW bF
 obtain⟨Jo,Gt,Gw⟩:=ah dQ
 obtain⟨qx,qy,qP,qQ,QJ,QK,QL,QM,QN,QO,ag_⟩:=bJ dQ
 obtain⟨qL,qM,sW,tq,P9,P_,Qa,Qb,Qc,Qd,afn⟩:=ni dQ
 clear Gt Gw dQ
 have yL:w.heap.size<=w.heap.size:=by omega
 have MH:w.heap.size<=W1.heap.size:=by omega
 have Yq:w.heap.size<=W2.heap.size:=by omega
 clear f_ iC iH lW jS uy
 have hgc:=az W
 have kV:=ai (fun w=>(nP c w).mono fun e w' hb=>aB.lit hb hc)
 go_enter Tryz.func44,Tryz.ntmps44
 go_wp2_with (first|(go_at_call 23;(with_reducible refine ax (kV.out _) ?_);rintro e w1 ⟨rfl,hB⟩;(first|(obtain⟨g,rfl⟩:=g.next hB)|(obtain⟨g,rfl⟩:∃g:Grow W,w1=g.x:=⟨⟨w1,hB⟩,rfl⟩));clear hB))
 go_ret2
 exact⟨rfl,hBw.trans (g.h.mono hBw.size)⟩
theorem VA {c:d_}{s:St}(w:World)(hc:c.ok=true)(hs:s.ok=false):Calls Tryz.prog 44 #[gm c,jF s] w (dI (.tuple #[.int .i64 0,.int .i64 2]) w):=by
 obtain⟨W1,hW1⟩:=aG (w.alloc (.cells #[.int .i64 c.jm,.int .i64 c.jG,.int .i64 c.least,.int .i64 c.most,.int .i64 c.f0,.int .i64 c.f1,.int .i64 c.h0,.int .i64 c.h1,.int .i64 c.bu,.int .i64 c.mJ,.int .i64 c.phi] 38))
 obtain⟨aJ,f_,iC⟩:=boxed hW1
 have Ae:w.heap.size<W1.heap.size:=by omega
 obtain⟨jV,jW,jX,jY,jZ,j_,ku,kz,kJ,kQ,oq⟩:=bJ aJ
 obtain⟨W2,hW2⟩:=aG (W1.alloc (.cells #[.int .i64 s.dB,.int .i64 s.dK,.int .i64 s.di,.int .i64 s.dE,.int .i64 s.gK,.int .i64 s.gJ,.int .i64 s.wlo,.int .i64 s.whi] 40))
 obtain⟨bF,iH,lW⟩:=boxed hW2
 have Jm:w.heap.size<W2.heap.size:=by omega
 replace aJ:=(iH.block _ (aF aJ)).trans aJ
 obtain⟨qR,qU,qV,qW,qX,qY,qZ,rf,rq,ry,ou⟩:=bJ aJ
 have Jn:W1.heap.size<W2.heap.size:=by omega
 obtain⟨rC,rD,rE,rF,rG,rH,rJ,rM⟩:=rc8 bF
 obtain⟨W,hW⟩:=aG (W2.alloc (.cells #[.int .i64 c.jm,.int .i64 c.jG,.int .i64 c.least,.int .i64 c.most,.int .i64 c.f0,.int .i64 c.f1,.int .i64 c.h0,.int .i64 c.h1,.int .i64 c.bu,.int .i64 c.mJ,.int .i64 c.phi] 96))
 obtain⟨dQ,jS,uy⟩:=boxed hW
 replace aJ:=(jS.block _ (aF aJ)).trans aJ
 replace bF:=(jS.block _ (aF bF)).trans bF
 have hBw:Below w.heap.size w W:=(by have:=iC;have:=lW;have:=uy;exact((f_.trans (iH.mono (by omega))).trans (jS.mono (by omega))))
 obtain⟨qK,jQ,jR⟩:=ah aJ
 obtain⟨eG,eH,fP,fQ,gV,gW,gX,gY,je,jf,iR⟩:=bJ aJ
 obtain⟨ja,jb,jy,jA,jB,jC,jD,jE,mP,mQ,mX⟩:=ni aJ
 clear jQ jR aJ
 obtain⟨CS,rQ,rW⟩:=ah bF
 obtain⟨jg,jh,ji,jk,qj,qm,qo,qw⟩:=rc8 bF
 obtain⟨lS,lT,lU,lV,sO,sQ,sS,sU⟩:=FP bF
 clear rQ rW bF
 obtain⟨Jo,Gt,Gw⟩:=ah dQ
 obtain⟨qx,qy,qP,qQ,QJ,QK,QL,QM,QN,QO,ag_⟩:=bJ dQ
 obtain⟨qL,qM,sW,tq,P9,P_,Qa,Qb,Qc,Qd,afn⟩:=ni dQ
 clear Gt Gw dQ
 have yL:w.heap.size<=w.heap.size:=by omega
 have MH:w.heap.size<=W1.heap.size:=by omega
 have Yq:w.heap.size<=W2.heap.size:=by omega
 clear f_ iC iH lW jS uy
 have hgc:=az W
 have kV:=ai (fun w=>(nP c w).mono fun e w' hb=>aB.lit hb hc)
 have kS:=ai (fun w=>(Fp s w).mono fun e w' hb=>aB.lit hb hs)
 go_enter Tryz.func44,Tryz.ntmps44
 go_wp2_with (first|(go_at_call 23;(with_reducible refine ax (kV.out _) ?_);rintro e w1 ⟨rfl,hB⟩;(first|(obtain⟨g,rfl⟩:=g.next hB)|(obtain⟨g,rfl⟩:∃g:Grow W,w1=g.x:=⟨⟨w1,hB⟩,rfl⟩));clear hB)|(go_at_call 24;(with_reducible refine ax (kS.out _) ?_);rintro e w1 ⟨rfl,hB⟩;(first|(obtain⟨g,rfl⟩:=g.next hB)|(obtain⟨g,rfl⟩:∃g:Grow W,w1=g.x:=⟨⟨w1,hB⟩,rfl⟩));clear hB))
 go_ret2
 exact⟨rfl,hBw.trans (g.h.mono hBw.size)⟩
theorem ZH {c:d_}{s:St}(w:World)(hc:c.ok=true)(hs:s.ok=true):Calls Tryz.prog 44 #[gm c,jF s] w (dI (.tuple #[.int .i64 (sure c s),.int .i64 0]) w):=by
 obtain⟨W1,hW1⟩:=aG (w.alloc (.cells #[.int .i64 c.jm,.int .i64 c.jG,.int .i64 c.least,.int .i64 c.most,.int .i64 c.f0,.int .i64 c.f1,.int .i64 c.h0,.int .i64 c.h1,.int .i64 c.bu,.int .i64 c.mJ,.int .i64 c.phi] 38))
 obtain⟨aJ,f_,iC⟩:=boxed hW1
 have Ae:w.heap.size<W1.heap.size:=by omega
 obtain⟨jV,jW,jX,jY,jZ,j_,ku,kz,kJ,kQ,oq⟩:=bJ aJ
 obtain⟨W2,hW2⟩:=aG (W1.alloc (.cells #[.int .i64 s.dB,.int .i64 s.dK,.int .i64 s.di,.int .i64 s.dE,.int .i64 s.gK,.int .i64 s.gJ,.int .i64 s.wlo,.int .i64 s.whi] 40))
 obtain⟨bF,iH,lW⟩:=boxed hW2
 have Jm:w.heap.size<W2.heap.size:=by omega
 replace aJ:=(iH.block _ (aF aJ)).trans aJ
 obtain⟨qR,qU,qV,qW,qX,qY,qZ,rf,rq,ry,ou⟩:=bJ aJ
 have Jn:W1.heap.size<W2.heap.size:=by omega
 obtain⟨rC,rD,rE,rF,rG,rH,rJ,rM⟩:=rc8 bF
 obtain⟨W,hW⟩:=aG (W2.alloc (.cells #[.int .i64 c.jm,.int .i64 c.jG,.int .i64 c.least,.int .i64 c.most,.int .i64 c.f0,.int .i64 c.f1,.int .i64 c.h0,.int .i64 c.h1,.int .i64 c.bu,.int .i64 c.mJ,.int .i64 c.phi] 96))
 obtain⟨dQ,jS,uy⟩:=boxed hW
 replace aJ:=(jS.block _ (aF aJ)).trans aJ
 replace bF:=(jS.block _ (aF bF)).trans bF
 have hBw:Below w.heap.size w W:=(by have:=iC;have:=lW;have:=uy;exact((f_.trans (iH.mono (by omega))).trans (jS.mono (by omega))))
 obtain⟨qK,jQ,jR⟩:=ah aJ
 obtain⟨eG,eH,fP,fQ,gV,gW,gX,gY,je,jf,iR⟩:=bJ aJ
 obtain⟨ja,jb,jy,jA,jB,jC,jD,jE,mP,mQ,mX⟩:=ni aJ
 clear jQ jR aJ
 obtain⟨CS,rQ,rW⟩:=ah bF
 obtain⟨jg,jh,ji,jk,qj,qm,qo,qw⟩:=rc8 bF
 obtain⟨lS,lT,lU,lV,sO,sQ,sS,sU⟩:=FP bF
 clear rQ rW bF
 obtain⟨Jo,Gt,Gw⟩:=ah dQ
 obtain⟨qx,qy,qP,qQ,QJ,QK,QL,QM,QN,QO,ag_⟩:=bJ dQ
 obtain⟨qL,qM,sW,tq,P9,P_,Qa,Qb,Qc,Qd,afn⟩:=ni dQ
 clear Gt Gw dQ
 have yL:w.heap.size<=w.heap.size:=by omega
 have MH:w.heap.size<=W1.heap.size:=by omega
 have Yq:w.heap.size<=W2.heap.size:=by omega
 clear f_ iC iH lW jS uy
 have hgc:=az W
 have kV:=ai (fun w=>(nP c w).mono fun e w' hb=>aB.lit hb hc)
 have kS:=ai (fun w=>(Fp s w).mono fun e w' hb=>aB.lit hb hs)
 have kR:=ai (fun w=>ag2 c s w (d_.fZ.1 hc) (St.fZ.1 hs))
 go_enter Tryz.func44,Tryz.ntmps44
 go_wp2_with (first|(go_at_call 23;(with_reducible refine ax (kV.out _) ?_);rintro e w1 ⟨rfl,hB⟩;(first|(obtain⟨g,rfl⟩:=g.next hB)|(obtain⟨g,rfl⟩:∃g:Grow W,w1=g.x:=⟨⟨w1,hB⟩,rfl⟩));clear hB)|(go_at_call 24;(with_reducible refine ax (kS.out _) ?_);rintro e w1 ⟨rfl,hB⟩;(first|(obtain⟨g,rfl⟩:=g.next hB)|(obtain⟨g,rfl⟩:∃g:Grow W,w1=g.x:=⟨⟨w1,hB⟩,rfl⟩));clear hB)|(go_at_call 87;(with_reducible refine ax (kR.out _) ?_);rintro e w1 ⟨rfl,hB⟩;(first|(obtain⟨g,rfl⟩:=g.next hB)|(obtain⟨g,rfl⟩:∃g:Grow W,w1=g.x:=⟨⟨w1,hB⟩,rfl⟩));clear hB))
 go_ret2
 exact⟨rfl,hBw.trans (g.h.mono hBw.size)⟩
end Go.Proofs.YtkjdidieiioijaaGreat.G
namespace bz
def iF (l:List Op)(k:Nat):Op:=l.getD k ⟨0,0,0,0,0,0,0,0,0,0⟩
theorem Yn {l:List Op}{k:Nat}(h:k<l.length):iF l k=l[k]:=by simp[iF,h]
theorem ad9 {l:List Op}{k:Nat}(h:k<l.length):iF l k ∈ l:=by rw[Yn h];exact List.getElem_mem h
def IY (l:List Op):Bool:=l.all Op.ok
theorem IZ {l:List Op} : IY l=true↔∀k,k<l.length->(iF l k).ok=true:=by
 unfold IY
 rw[List.all_eq_true]
 constructor
 . intro h k hk;exact h _ (ad9 hk)
 . intro h x hx
   obtain⟨k,hk,rfl⟩:=List.getElem_of_mem hx
   rw[<- Yn hk];exact h k hk
theorem agO {l:List Op}{k:Nat}(hk:k<l.length)(h:(iF l k).ok=false):IY l=false:=by
 cases hb:IY l
 . rfl
 . rw[IZ.1 hb k hk] at h;cases h
def lq (l:List Op)(a b:List Int):Bool:=decide (a.length=l.length) && decide (b.length=l.length) && (List.range l.length).all fun k=>inB (at0 a k) (iF l k).lY (iF l k).lX && inB (at0 b k) (iF l k).wlo (iF l k).whi
end bz
namespace Go.Proofs.YtkjdidieiioijaaGreat.G
open Go.RowKit Go.Sd bz
def NF (w:World)(b o:Nat)(x:bz.Op):Prop :=
 w.cell? ⟨b,o,none⟩=some (.int .i64 x.kind)/\w.cell? ⟨b,o+1,none⟩=some (.int .i64 x.lg)/\w.cell? ⟨b,o+2,none⟩=some (.int .i64 x.ly)/\w.cell? ⟨b,o+3,none⟩=some (.int .i64 x.lt)/\w.cell? ⟨b,o+4,none⟩=some (.int .i64 x.lw)/\w.cell? ⟨b,o+5,none⟩=some (.int .i64 x.ay)/\w.cell? ⟨b,o+6,none⟩=some (.int .i64 x.lY)/\w.cell? ⟨b,o+7,none⟩=some (.int .i64 x.lX)/\w.cell? ⟨b,o+8,none⟩=some (.int .i64 x.wlo)/\w.cell? ⟨b,o+9,none⟩=some (.int .i64 x.whi)
theorem NF.mono {w w':World}{b o:Nat}{x:bz.Op}(h:NF w b o x)(hb:Below w.heap.size w w'):NF w' b o x:=by
 obtain⟨h0,h1,h2,h3,h4,h5,h6,h7,h8,h9⟩:=h
 exact⟨ae hb h0,ae hb h1,ae hb h2,ae hb h3,ae hb h4,ae hb h5,ae hb h6,ae hb h7,ae hb h8,ae hb h9⟩
def GH (w:World)(v:Value)(xs:List bz.Op):Prop :=
 ∃a cap,v=.slice a xs.length cap/\xs.length<=maxLen /\
  (0<xs.length->∃b off,a=some ⟨b,off,none⟩/\b<w.heap.size/\∀k,k<xs.length->NF w b (off+k*10) (iF xs k))
theorem GH.mono {w w':World}{v:Value}{xs:List bz.Op}(h:GH w v xs)(hb:Below w.heap.size w w'):GH w' v xs:=by
 obtain⟨a,cap,rfl,hm,hc⟩:=h
 refine⟨a,cap,rfl,hm,fun h0=>?_⟩
 obtain⟨b,off,rfl,hlt,hk⟩:=hc h0
 exact⟨b,off,rfl,bM hlt hb.size,fun k hk'=>(hk k hk').mono hb⟩
def A7 (l:List bz.Op):Int:=if 20<l.length then 3 else if IY l=true then 0 else 2
theorem aj1 (lv:Value)(xs:List bz.Op)(w:World)(hx:GH w lv xs) :
    Calls Tryz.prog 27 #[lv] w (dI (.int .i64 (A7 xs)) w):=by
 obtain⟨a,cap,rfl,hm,hc⟩:=hx
 unfold maxLen at hm
 have hm':xs.length<=9223372036854775807:=by omega
 have hcW:=ai hc
 clear hc
 by_cases hlong:20<xs.length
 . have he:Hid (A7 xs=3):=ai (by unfold A7;rw[if_pos hlong])
   rw[he.out]
   have h1:(20:Int)<(xs.length:Int):=by omega
   clear he hlong
   go_enter Tryz.func27,Tryz.ntmps27
   go_wp2
   go_ret
   exact⟨rfl,Below.refl _ _⟩
 have hsh:(xs.length:Int)<=20:=by omega
 obtain⟨r,hr⟩:=aG (A7 xs)
 rw[hr]
 replace hr:Hid ((if IY xs=true then 0 else 2)=r):=ai (by rw[<- hr];unfold A7;rw[if_neg hlong])
 clear hlong
 go_enter Tryz.func27,Tryz.ntmps27
 go_wp2
 go_loopw [10] (fun i wr=>∃g:Grow w,wr=g.x/\∃k:Nat,k<=xs.length/\i=.int .i64 k/\Hid (∀j,j<k->(iF xs j).ok=true)) (fun i _=>xs.length - (intOf i).toNat)
 case atStart=>exact⟨Grow.self w,rfl,0,Nat.zero_le _,rfl,fun j hj=>absurd hj (by omega)⟩
 case round =>
  obtain⟨g,rfl,k,hk,rfl,hH⟩:=hrel
  by_cases hlt:k<xs.length
  . obtain⟨b,off,rfl,hb,hcell⟩:=hcW.out (by omega)
    obtain⟨c0,c1,c2,c3,c4,c5,c6,c7,c8,c9⟩:=(hcell k hlt).mono g.h
    clear hcell
    have hki:(k:Int)<(xs.length:Int):=by omega
    obtain⟨x,hxe⟩:=aG (iF xs k)
    simp only[hxe] at c0 c1 c2 c3 c4 c5 c6 c7 c8 c9
    obtain⟨g2,hg2⟩:=g.alloc (.cells #[.int .i64 x.kind,.int .i64 x.lg,.int .i64 x.ly,.int .i64 x.lt,.int .i64 x.lw,.int .i64 x.ay,.int .i64 x.lY,.int .i64 x.lX,.int .i64 x.wlo,.int .i64 x.whi] 43)
    have e2:=World.alloc_heap_new g.x (.cells #[.int .i64 x.kind,.int .i64 x.lg,.int .i64 x.ly,.int .i64 x.lt,.int .i64 x.lw,.int .i64 x.ay,.int .i64 x.lY,.int .i64 x.lX,.int .i64 x.wlo,.int .i64 x.whi] 43)
    rw[hg2] at e2
    obtain⟨z2,r2,-⟩:=ah e2
    have q0:=r2 0
    have q1:=r2 1
    have q2:=r2 2
    have q3:=r2 3
    have q4:=r2 4
    have q5:=r2 5
    have q6:=r2 6
    have q7:=r2 7
    have q8:=r2 8
    have q9:=r2 9
    simp only[List.getElem?_toArray,List.getElem?_cons_zero,List.getElem?_cons_succ] at q0 q1 q2 q3 q4 q5 q6 q7 q8 q9
    clear r2 e2
    cases hok:x.ok
    . have kO:=ai (fun w=>(ZF x w).mono fun e w' hb=>aB.lit hb hok)
      have hres:Hid (IY xs=false):=ai (agO hlt (by rw[hxe];exact hok))
      replace hxe:=ai hxe
      clear hok
      go_wp2_with (go_at_call 25;refine ax (kO.out _) ?_;rintro e w1 ⟨rfl,hB⟩;obtain⟨g3,rfl⟩:=g2.next hB;clear hB)
      go_ret
      exact⟨by rw[<- hr.out,hres.out];rfl,g3.h⟩
    . have kO:=ai (fun w=>(ZF x w).mono fun e w' hb=>aB.lit hb hok)
      replace hH:Hid (∀j,j<k+1->(iF xs j).ok=true):=ai (fun j hj=>by
       by_cases e:j=k
       . rw[e,hxe];exact hok
       . exact hH.out j (by omega))
      replace hxe:=ai hxe
      clear hok
      go_wp2_with (go_at_call 25;refine ax (kO.out _) ?_;rintro e w1 ⟨rfl,hB⟩;obtain⟨g3,rfl⟩:=g2.next hB;clear hB)
      exact⟨⟨g3,rfl,k+1,by omega,by go_num,hH⟩,by simp[intOf];omega⟩
  . obtain rfl:k=xs.length:=by omega
    have hres:Hid (IY xs=true):=ai (IZ.2 hH.out)
    go_wp2
    go_ret
    exact⟨by rw[<- hr.out,hres.out];rfl,g.h⟩
end Go.Proofs.YtkjdidieiioijaaGreat.G
namespace Go.Proofs.YtkjdidieiioijaaGreat.G
open Go.ChangeShapes Go.WideShapes Go.Deep Go.Sd bz
theorem abd {α:Type}(d:α){P:Nat->α->Prop} : ∀(n:Nat),(∀i,i<n->∃x,P i x)->∃xs:List α,xs.length=n/\∀i,i<n->P i (xs.getD i d)
 | 0,_=>⟨[],rfl,fun i h=>absurd h (Nat.not_lt_zero i)⟩
 | n+1,h=>by
  obtain⟨xs,hl,hx⟩:=abd d n (fun i hi=>h i (by omega))
  obtain⟨x,hp⟩:=h n (by omega)
  refine⟨xs ++ [x],by simp[hl],fun i hi=>?_⟩
  by_cases e:i<n
  . have:=hx i e
    rwa [List.getD_eq_getElem?_getD,List.getElem?_append_left (by omega),<- List.getD_eq_getElem?_getD]
  . obtain rfl:i=n:=by omega
    rw[List.getD_eq_getElem?_getD,List.getElem?_append_right (by omega)]
    simpa [hl] using hp
theorem aeA (b off i:Nat):(⟨b,off,none⟩:Addr).add i=⟨b,off+i,none⟩:=by
 unfold Addr.add
 by_cases h:i=0 <;> simp[h]
theorem iD:Tryz.prog.cellsOf 3=1:=by kernel_rfl
theorem YQ:Tryz.prog.cellsOf 41=1:=by kernel_rfl
theorem jT:Tryz.prog.cellsOf 35=2:=by kernel_rfl
theorem F7:Tryz.prog.cellsOf 36=2:=by kernel_rfl
theorem acX:Tryz.prog.cellsOf 38=11:=by kernel_rfl
theorem aeN:Tryz.prog.cellsOf 40=8:=by kernel_rfl
theorem Wh:Tryz.prog.cellsOf 29=4:=by kernel_rfl
theorem aeM:Tryz.prog.cellsOf 43=10:=by kernel_rfl
section
variable {H:Type}{enc:TypeId × Value->H}{w:World}{base:Nat}{spare:Nat->Bool}{held:Bool}
theorem open_int {n:Nat}{cs:List Value}{x:DataW H × List MemPlace}(h:DataW.trod enc Tryz.prog w base spare held n 3 cs=some x):∃z,cs=[.int .i64 z]:=by
 obtain⟨z,hz,-,-⟩:=DataW.trod_int Tryz.underlying3 h
 exact⟨z,hz⟩
theorem ady {n:Nat}{cs:List Value}{x:DataW H × List MemPlace}(h:DataW.trod enc Tryz.prog w base spare held n 41 cs=some x):∃z,cs=[.int .i64 z]:=by
 obtain⟨z,hz,-,-⟩:=DataW.trod_int Tryz.underlying41 h
 exact⟨z,hz⟩
theorem kU {fuel:Nat}{cs:List Value}{x:DataW H × List MemPlace}(h:DataW.trod enc Tryz.prog w base spare held fuel 35 cs=some x):∃z0 z1,cs=[.int .i64 z0,.int .i64 z1]:=by
 obtain⟨xs,n,-,-,hlen,hxl,hf⟩:=DataW.trod_struct Tryz.underlying35 h
 rw[jT] at hlen
 have hx:xs.length=2:=hxl
 have f0:DataW.trod enc Tryz.prog w base spare held n 3 ((cs.drop 0).take (Tryz.prog.cellsOf 3))=xs[0]?:=hf 0 _ rfl
 have f1:DataW.trod enc Tryz.prog w base spare held n 3 ((cs.drop 1).take (Tryz.prog.cellsOf 3))=xs[1]?:=hf 1 _ rfl
 rw[iD,List.getElem?_eq_getElem (by omega)] at f0
 rw[iD,List.getElem?_eq_getElem (by omega)] at f1
 clear hf
 match cs,hlen,f0,f1 with
 | [c0,c1],_,f0,f1 =>
  obtain⟨z0,e0⟩:=open_int f0
  obtain⟨z1,e1⟩:=open_int f1
  simp at e0 e1
  subst e0
  subst e1
  exact⟨_,_,rfl⟩
theorem Qu {fuel:Nat}{cs:List Value}{x:DataW H × List MemPlace}(h:DataW.trod enc Tryz.prog w base spare held fuel 36 cs=some x):∃z0 z1,cs=[.int .i64 z0,.int .i64 z1]:=by
 obtain⟨xs,n,-,-,hlen,hxl,hf⟩:=DataW.trod_array Tryz.underlying36 h
 rw[F7] at hlen
 have hx:xs.length=2:=hxl
 have f0:DataW.trod enc Tryz.prog w base spare held n 3 ((cs.drop 0).take (Tryz.prog.cellsOf 3))=xs[0]?:=(by have h0:=hf 0 (by omega);rw[iD] at h0 ⊢;exact h0)
 have f1:DataW.trod enc Tryz.prog w base spare held n 3 ((cs.drop 1).take (Tryz.prog.cellsOf 3))=xs[1]?:=(by have h0:=hf 1 (by omega);rw[iD] at h0 ⊢;exact h0)
 rw[iD,List.getElem?_eq_getElem (by omega)] at f0
 rw[iD,List.getElem?_eq_getElem (by omega)] at f1
 clear hf
 match cs,hlen,f0,f1 with
 | [c0,c1],_,f0,f1 =>
  obtain⟨z0,e0⟩:=open_int f0
  obtain⟨z1,e1⟩:=open_int f1
  simp at e0 e1
  subst e0
  subst e1
  exact⟨_,_,rfl⟩
theorem adx {fuel:Nat}{cs:List Value}{x:DataW H × List MemPlace}(h:DataW.trod enc Tryz.prog w base spare held fuel 38 cs=some x):∃r:d_,cs=[.int .i64 r.jm,.int .i64 r.jG,.int .i64 r.least,.int .i64 r.most,.int .i64 r.f0,.int .i64 r.f1,.int .i64 r.h0,.int .i64 r.h1,.int .i64 r.bu,.int .i64 r.mJ,.int .i64 r.phi]:=by
 obtain⟨xs,n,-,-,hlen,hxl,hf⟩:=DataW.trod_struct Tryz.underlying38 h
 rw[acX] at hlen
 have hx:xs.length=7:=hxl
 have f0:DataW.trod enc Tryz.prog w base spare held n 35 ((cs.drop 0).take (Tryz.prog.cellsOf 35))=xs[0]?:=hf 0 _ rfl
 have f1:DataW.trod enc Tryz.prog w base spare held n 3 ((cs.drop 2).take (Tryz.prog.cellsOf 3))=xs[1]?:=hf 1 _ rfl
 have f2:DataW.trod enc Tryz.prog w base spare held n 3 ((cs.drop 3).take (Tryz.prog.cellsOf 3))=xs[2]?:=hf 2 _ rfl
 have f3:DataW.trod enc Tryz.prog w base spare held n 36 ((cs.drop 4).take (Tryz.prog.cellsOf 36))=xs[3]?:=hf 3 _ rfl
 have f4:DataW.trod enc Tryz.prog w base spare held n 36 ((cs.drop 6).take (Tryz.prog.cellsOf 36))=xs[4]?:=hf 4 _ rfl
 have f5:DataW.trod enc Tryz.prog w base spare held n 3 ((cs.drop 8).take (Tryz.prog.cellsOf 3))=xs[5]?:=hf 5 _ rfl
 have f6:DataW.trod enc Tryz.prog w base spare held n 35 ((cs.drop 9).take (Tryz.prog.cellsOf 35))=xs[6]?:=hf 6 _ rfl
 rw[jT,List.getElem?_eq_getElem (by omega)] at f0
 rw[iD,List.getElem?_eq_getElem (by omega)] at f1
 rw[iD,List.getElem?_eq_getElem (by omega)] at f2
 rw[F7,List.getElem?_eq_getElem (by omega)] at f3
 rw[F7,List.getElem?_eq_getElem (by omega)] at f4
 rw[iD,List.getElem?_eq_getElem (by omega)] at f5
 rw[jT,List.getElem?_eq_getElem (by omega)] at f6
 clear hf
 match cs,hlen,f0,f1,f2,f3,f4,f5,f6 with
 | [c0,c1,c2,c3,c4,c5,c6,c7,c8,c9,c10],_,f0,f1,f2,f3,f4,f5,f6 =>
  obtain⟨z0,z1,e0⟩:=kU f0
  obtain⟨z2,e1⟩:=open_int f1
  obtain⟨z3,e2⟩:=open_int f2
  obtain⟨z4,z5,e3⟩:=Qu f3
  obtain⟨z6,z7,e4⟩:=Qu f4
  obtain⟨z8,e5⟩:=open_int f5
  obtain⟨z9,z10,e6⟩:=kU f6
  simp at e0 e1 e2 e3 e4 e5 e6
  obtain⟨al3,al4⟩:=e0
  subst al3 al4
  subst e1
  subst e2
  obtain⟨ae_,ae'⟩:=e3
  subst ae_ ae'
  obtain⟨al7,al8⟩:=e4
  subst al7 al8
  subst e5
  obtain⟨asc,ase⟩:=e6
  subst asc ase
  exact⟨⟨z0,z1,z2,z3,z4,z5,z6,z7,z8,z9,z10⟩,rfl⟩
theorem agL {fuel:Nat}{cs:List Value}{x:DataW H × List MemPlace}(h:DataW.trod enc Tryz.prog w base spare held fuel 40 cs=some x):∃r:St,cs=[.int .i64 r.dB,.int .i64 r.dK,.int .i64 r.di,.int .i64 r.dE,.int .i64 r.gK,.int .i64 r.gJ,.int .i64 r.wlo,.int .i64 r.whi]:=by
 obtain⟨xs,n,-,-,hlen,hxl,hf⟩:=DataW.trod_struct Tryz.underlying40 h
 rw[aeN] at hlen
 have hx:xs.length=4:=hxl
 have f0:DataW.trod enc Tryz.prog w base spare held n 35 ((cs.drop 0).take (Tryz.prog.cellsOf 35))=xs[0]?:=hf 0 _ rfl
 have f1:DataW.trod enc Tryz.prog w base spare held n 35 ((cs.drop 2).take (Tryz.prog.cellsOf 35))=xs[1]?:=hf 1 _ rfl
 have f2:DataW.trod enc Tryz.prog w base spare held n 35 ((cs.drop 4).take (Tryz.prog.cellsOf 35))=xs[2]?:=hf 2 _ rfl
 have f3:DataW.trod enc Tryz.prog w base spare held n 35 ((cs.drop 6).take (Tryz.prog.cellsOf 35))=xs[3]?:=hf 3 _ rfl
 rw[jT,List.getElem?_eq_getElem (by omega)] at f0
 rw[jT,List.getElem?_eq_getElem (by omega)] at f1
 rw[jT,List.getElem?_eq_getElem (by omega)] at f2
 rw[jT,List.getElem?_eq_getElem (by omega)] at f3
 clear hf
 match cs,hlen,f0,f1,f2,f3 with
 | [c0,c1,c2,c3,c4,c5,c6,c7],_,f0,f1,f2,f3 =>
  obtain⟨z0,z1,e0⟩:=kU f0
  obtain⟨z2,z3,e1⟩:=kU f1
  obtain⟨z4,z5,e2⟩:=kU f2
  obtain⟨z6,z7,e3⟩:=kU f3
  simp at e0 e1 e2 e3
  obtain⟨al3,al4⟩:=e0
  subst al3 al4
  obtain⟨al5,al6⟩:=e1
  subst al5 al6
  obtain⟨asa,asb⟩:=e2
  subst asa asb
  obtain⟨ae_,ae'⟩:=e3
  subst ae_ ae'
  exact⟨⟨z0,z1,z2,z3,z4,z5,z6,z7⟩,rfl⟩
theorem XG {fuel:Nat}{cs:List Value}{x:DataW H × List MemPlace}(h:DataW.trod enc Tryz.prog w base spare held fuel 29 cs=some x):∃r:Pt,cs=[.int .i64 r.g,.int .i64 r.y,.int .i64 r.t,.int .i64 r.w]:=by
 obtain⟨xs,n,-,-,hlen,hxl,hf⟩:=DataW.trod_struct Tryz.underlying29 h
 rw[Wh] at hlen
 have hx:xs.length=4:=hxl
 have f0:DataW.trod enc Tryz.prog w base spare held n 3 ((cs.drop 0).take (Tryz.prog.cellsOf 3))=xs[0]?:=hf 0 _ rfl
 have f1:DataW.trod enc Tryz.prog w base spare held n 3 ((cs.drop 1).take (Tryz.prog.cellsOf 3))=xs[1]?:=hf 1 _ rfl
 have f2:DataW.trod enc Tryz.prog w base spare held n 3 ((cs.drop 2).take (Tryz.prog.cellsOf 3))=xs[2]?:=hf 2 _ rfl
 have f3:DataW.trod enc Tryz.prog w base spare held n 3 ((cs.drop 3).take (Tryz.prog.cellsOf 3))=xs[3]?:=hf 3 _ rfl
 rw[iD,List.getElem?_eq_getElem (by omega)] at f0
 rw[iD,List.getElem?_eq_getElem (by omega)] at f1
 rw[iD,List.getElem?_eq_getElem (by omega)] at f2
 rw[iD,List.getElem?_eq_getElem (by omega)] at f3
 clear hf
 match cs,hlen,f0,f1,f2,f3 with
 | [c0,c1,c2,c3],_,f0,f1,f2,f3 =>
  obtain⟨z0,e0⟩:=open_int f0
  obtain⟨z1,e1⟩:=open_int f1
  obtain⟨z2,e2⟩:=open_int f2
  obtain⟨z3,e3⟩:=open_int f3
  simp at e0 e1 e2 e3
  subst e0
  subst e1
  subst e2
  subst e3
  exact⟨⟨z0,z1,z2,z3⟩,rfl⟩
theorem agK {fuel:Nat}{cs:List Value}{x:DataW H × List MemPlace}(h:DataW.trod enc Tryz.prog w base spare held fuel 43 cs=some x):∃r:bz.Op,cs=[.int .i64 r.kind,.int .i64 r.lg,.int .i64 r.ly,.int .i64 r.lt,.int .i64 r.lw,.int .i64 r.ay,.int .i64 r.lY,.int .i64 r.lX,.int .i64 r.wlo,.int .i64 r.whi]:=by
 obtain⟨xs,n,-,-,hlen,hxl,hf⟩:=DataW.trod_struct Tryz.underlying43 h
 rw[aeM] at hlen
 have hx:xs.length=5:=hxl
 have f0:DataW.trod enc Tryz.prog w base spare held n 41 ((cs.drop 0).take (Tryz.prog.cellsOf 41))=xs[0]?:=hf 0 _ rfl
 have f1:DataW.trod enc Tryz.prog w base spare held n 29 ((cs.drop 1).take (Tryz.prog.cellsOf 29))=xs[1]?:=hf 1 _ rfl
 have f2:DataW.trod enc Tryz.prog w base spare held n 3 ((cs.drop 5).take (Tryz.prog.cellsOf 3))=xs[2]?:=hf 2 _ rfl
 have f3:DataW.trod enc Tryz.prog w base spare held n 35 ((cs.drop 6).take (Tryz.prog.cellsOf 35))=xs[3]?:=hf 3 _ rfl
 have f4:DataW.trod enc Tryz.prog w base spare held n 35 ((cs.drop 8).take (Tryz.prog.cellsOf 35))=xs[4]?:=hf 4 _ rfl
 rw[YQ,List.getElem?_eq_getElem (by omega)] at f0
 rw[Wh,List.getElem?_eq_getElem (by omega)] at f1
 rw[iD,List.getElem?_eq_getElem (by omega)] at f2
 rw[jT,List.getElem?_eq_getElem (by omega)] at f3
 rw[jT,List.getElem?_eq_getElem (by omega)] at f4
 clear hf
 match cs,hlen,f0,f1,f2,f3,f4 with
 | [c0,c1,c2,c3,c4,c5,c6,c7,c8,c9],_,f0,f1,f2,f3,f4 =>
  obtain⟨z0,e0⟩:=ady f0
  obtain⟨r1,e1⟩:=XG f1
  obtain⟨z5,e2⟩:=open_int f2
  obtain⟨z6,z7,e3⟩:=kU f3
  obtain⟨z8,z9,e4⟩:=kU f4
  simp at e0 e1 e2 e3 e4
  subst e0
  obtain⟨al5,al6,ar_,ar'⟩:=e1
  subst al5 al6 ar_ ar'
  subst e2
  obtain⟨ae_,ae'⟩:=e3
  subst ae_ ae'
  obtain⟨al7,al8⟩:=e4
  subst al7 al8
  exact⟨⟨z0,r1.g,r1.y,r1.t,r1.w,z5,z6,z7,z8,z9⟩,rfl⟩
theorem ajN {r:Reach}{b0:Nat}{v:Value}{d:DataW H}{p:List MemPlace}(hv:Value.okWide Tryz.prog w r b0 29 v)(h:DataW.Trod enc Tryz.prog w base spare held 29 v d p):∃s:Pt,v=nR s:=by
 obtain⟨cs,rfl,hsz⟩:=okWide_struct Tryz.underlying29 hv
 obtain⟨cs⟩:=cs
 obtain⟨fuel,hf⟩:=h
 have hf':DataW.trod enc Tryz.prog w base spare held fuel 29 cs=some (d,p):=by simpa [Value.cells] using hf
 obtain⟨s,rfl⟩:=XG hf'
 exact⟨s,rfl⟩
end
theorem apo:ownKnob Tryz.prog.godebug=none:=by kernel_rfl
theorem afH:laidOutB Tryz.prog=true:=by kernel_rfl
end Go.Proofs.YtkjdidieiioijaaGreat.G
namespace Lk
def at0 (l:List Int)(k:Nat):Int:=l.getD k 0
end Lk
namespace Go.Proofs.YtkjdidieiioijaaGreat.L
open Go.RowKit Go.Sd Lk
theorem ae {w w':World}(hb:Below w.heap.size w w'){b o:Nat}{v:Value}(h:w.cell? ⟨b,o,none⟩=some v):w'.cell? ⟨b,o,none⟩=some v :=
 (hb.cell (p:=⟨b,o,none⟩) (World.block_lt_of_cell? w ⟨b,o,none⟩ h)).trans h
theorem ak {w w':World}(hb:Below w.heap.size w w'){n:Nat}{o:Obj}(h:w.heap[n]? = some o):w'.heap[n]? = some o :=
 (hb.block _ (aF h)).trans h
theorem aj {X w1 w2:World}(h:Below X.heap.size X w1)(h2:Below w1.heap.size w1 w2):Below X.heap.size X w2:=h.trans (h2.mono h.size)
structure Kc (w w':World):Prop where
 size:w.heap.size<=w'.heap.size
 cell:∀b o v,w.cell? ⟨b,o,none⟩=some v->w'.cell? ⟨b,o,none⟩=some v
theorem Kc.of {w w':World}(h:Below w.heap.size w w'):Kc w w':=⟨h.size,fun _ _ _ hv=>ae h hv⟩
def gG {α:Type}(m:Nat)(enc:α->List Value)(d:α)(w:World)(v:Value)(xs:List α):Prop :=
 ∃a cap,v=.slice a xs.length cap/\xs.length<=maxLen /\
  (0<xs.length->∃b off,a=some ⟨b,off,none⟩/\b<w.heap.size/\∀k i u,k<xs.length->(enc (xs.getD k d))[i]? = some u->w.cell? ⟨b,off+k*m+i,none⟩=some u)
section
variable {α:Type}{m:Nat}{enc:α->List Value}{d:α}{w w':World}{v:Value}{xs:List α}
theorem gG.kc (h:gG m enc d w v xs)(hb:Kc w w'):gG m enc d w' v xs:=by
 obtain⟨a,cap,rfl,hm,hc⟩:=h
 refine⟨a,cap,rfl,hm,fun h0=>?_⟩
 obtain⟨b,off,rfl,hlt,hk⟩:=hc h0
 exact⟨b,off,rfl,bM hlt hb.size,fun k i u hk' hu=>hb.cell _ _ _ (hk k i u hk' hu)⟩
theorem gG.mono (h:gG m enc d w v xs)(hb:Below w.heap.size w w'):gG m enc d w' v xs:=h.kc (.of hb)
theorem gG.form (h:gG m enc d w v xs):∃a cap,v=.slice a xs.length cap/\xs.length<=9223372036854775807 /\
    (0<xs.length->∃b off,a=some ⟨b,off,none⟩/\b<w.heap.size/\∀k i u,k<xs.length->(enc (xs.getD k d))[i]? = some u->w.cell? ⟨b,off+k*m+i,none⟩=some u):=by
 obtain⟨a,cap,rfl,hm,hc⟩:=h
 unfold maxLen at hm
 exact⟨a,cap,rfl,by omega,hc⟩
end
abbrev agf (n:Int):List Value:=[.int .i64 n]
abbrev bK (w:World)(v:Value)(xs:List Int):Prop:=gG 1 agf 0 w v xs
def aB (b:Bool)(w:World)(e:Ending)(w':World):Prop:=∃t,e=.returned (.bool t)/\Hid (b=t)/\Below w.heap.size w w'
def iM (b:Bool)(w:World)(e:Ending)(w':World):Prop:=∃t,e=.returned (.bool t)/\Hid (b=t)/\w=w'
theorem aB.mk {b t:Bool}{w w':World}(h:b=t)(hb:Below w.heap.size w w'):aB b w (.returned (.bool t)) w':=⟨t,rfl,h,hb⟩
theorem aB.lit {b t:Bool}{w w':World}{e:Ending}(h:aB b w e w')(hb:b=t):e=.returned (.bool t)/\Below w.heap.size w w':=by
 obtain⟨t',rfl,ht,hB⟩:=h
 exact⟨by rw[<- hb,<- ht.out],hB⟩
end Go.Proofs.YtkjdidieiioijaaGreat.L
namespace Lk
end Lk
namespace Go.Proofs.YtkjdidieiioijaaGreat.L
open Go.RowKit Go.Sd Lk
def Jr (b:Bool)(w:World)(e:Ending)(w':World):Prop:=∃n:Int,e=.returned (.int .i64 n)/\(b=true↔0<=n)/\Below w.heap.size w w'
theorem any_none {α:Type}{l:List α}{p:α->Bool}(h:∀j (hj:j<l.length),p l[j]=false):l.any p=false:=by
 rw[List.any_eq_false]
 intro x hx
 obtain⟨i,hi,rfl⟩:=List.getElem_of_mem hx
 rw[h i hi];exact Bool.false_ne_true
theorem any_some {α:Type}{l:List α}{p:α->Bool}{j:Nat}(hj:j<l.length)(h:p l[j]=true):l.any p=true:=List.any_eq_true.2 ⟨_,List.getElem_mem hj,h⟩
