/- Walks. -/
import Derived.Shelf.Abstract
import Derived.Shelf.RegionOpen
import Derived.OwnWalkIn
import Derived.TacticsInMore
import Derived.LoopNIn
import Derived.LoopIn
import Derived.Test.YtkjdidieiioijaaGreatK06
set_option linter.all false
set_option maxRecDepth 100000
set_option maxHeartbeats 16000000
namespace bz
def fC (l:List Pt):St :=
 ⟨(fH (l.map (·.g))).1,(fH (l.map (·.g))).2,(fH (l.map (·.y))).1,(fH (l.map (·.y))).2,(fH (l.map (·.t))).1,(fH (l.map (·.t))).2,(fH (l.map (·.w))).1,(fH (l.map (·.w))).2⟩
end bz
namespace Go.Proofs.YtkjdidieiioijaaGreat.G
open Go.RowKit Go.Sd bz
theorem rP {B bb:Nat}{v:Nat->Value}{l:List Pt}(w:World)(hb:Fv B bb w v l) :
    Calls Tryz.prog 177 #[.pointer (some ⟨bb,0,none⟩)] w (dI (jF (fC l)) w):=by
 have af2:=(aF hb.at')
 obtain⟨W,hW⟩:=aG (w.alloc (.cells #[.int .i64 0,.int .i64 0,.int .i64 0,.int .i64 0,.int .i64 0,.int .i64 0,.int .i64 0,.int .i64 0] 40))
 obtain⟨aJ,f_,iC⟩:=boxed hW
 have hBw:Below w.heap.size w W:=f_
 obtain⟨qK,jQ,jR⟩:=ah aJ
 obtain⟨eG,eH,fP,fQ,gV,gW,gX,gY⟩:=rc8 aJ
 obtain⟨ja,jb,jy,jA,jB,jC,jD,jE⟩:=FP aJ
 clear jQ jR aJ
 have yL:w.heap.size<=w.heap.size:=by omega
 clear f_ iC
 have hbbW:bb<W.heap.size:=bM af2 hBw.size
 have c:=(ah ((hBw.block _ af2).trans hb.at')).2.1
 have c0:W.cell? ⟨bb,0,none⟩=some (v 0):=c 0
 have c1:W.cell? ⟨bb,1,none⟩=some (v 1):=c 1
 have c2:W.cell? ⟨bb,2,none⟩=some (v 2):=c 2
 have c3:W.cell? ⟨bb,3,none⟩=some (v 3):=c 3
 clear c
 have hO:fC l=⟨(fH (jw 0 l)).1,(fH (jw 0 l)).2,(fH (jw 1 l)).1,(fH (jw 1 l)).2,(fH (jw 2 l)).1,(fH (jw 2 l)).2,(fH (jw 3 l)).1,(fH (jw 3 l)).2⟩:=rfl
 have k0:=ai (fun g:Grow W=>Ja (v 0) (jw 0 l) g.x (((hb.own 0 (by decide)).at.mono hBw).mono g.h))
 have k1:=ai (fun g:Grow W=>Ja (v 1) (jw 1 l) g.x (((hb.own 1 (by decide)).at.mono hBw).mono g.h))
 have k2:=ai (fun g:Grow W=>Ja (v 2) (jw 2 l) g.x (((hb.own 2 (by decide)).at.mono hBw).mono g.h))
 have k3:=ai (fun g:Grow W=>Ja (v 3) (jw 3 l) g.x (((hb.own 3 (by decide)).at.mono hBw).mono g.h))
 obtain⟨v0,e0⟩:=aG (v 0)
 obtain⟨v1,e1⟩:=aG (v 1)
 obtain⟨v2,e2⟩:=aG (v 2)
 obtain⟨v3,e3⟩:=aG (v 3)
 rw[e0] at c0 k0
 rw[e1] at c1 k1
 rw[e2] at c2 k2
 rw[e3] at c3 k3
 clear e0 e1 e2 e3 hb
 replace hO:=ai hO
 generalize fH (jw 0 l)=s0 at *
 generalize fH (jw 1 l)=s1 at *
 generalize fH (jw 2 l)=s2 at *
 generalize fH (jw 3 l)=s3 at *
 have hg:=az W
 have hf:=dG W
 go_enter Tryz.func177,Tryz.ntmps177
 go_wp2
 refine Jl 21 (by kernel_rfl) (by kernel_rfl) ?_
 simp only[List.take_succ_cons,List.take_zero,List.drop_succ_cons,List.drop_zero]
 repeat (go_big_quiet_step ((first|(go_at_call 202;with_reducible exact Calls.grow (k0.out _))|(go_at_call 202;with_reducible exact Calls.grow (k1.out _))|(go_at_call 202;with_reducible exact Calls.grow (k2.out _))|(go_at_call 202;with_reducible exact Calls.grow (k3.out _)))))
 refine wpQuiet_nil ?_
 rintro _ ⟨g,rfl⟩
 go_wp2
 refine bodyPost_ret (v:=.agg #[.int .i64 s0.1,.int .i64 s0.2,.int .i64 s1.1,.int .i64 s1.2,.int .i64 s2.1,.int .i64 s2.2,.int .i64 s3.1,.int .i64 s3.2]) (by simp[results,Tryz.results177,go_sem,hg,hf,qK,eG,ja,eH,jb,fP,jy,fQ,jA,gV,jB,gW,jC,gX,jD,gY,jE]) rfl ⟨by rw[hO.out],?_⟩
 have hfin:Below w.heap.size w g.x:=hBw.trans (g.h.mono hBw.size)
 repeat' (first|(with_reducible exact hfin)|(exact Nat.le_refl _)|refine Below.setCell ?_ ?_ _)
end Go.Proofs.YtkjdidieiioijaaGreat.G
namespace bz
def lQ (k i:Nat):Bool:=k / 2 ^ i % 2 == 1
def endOf (a b:Int)(t:Bool):Int:=if t=true then b else a
def sJ (s:St)(k:Nat):Pt:=⟨endOf s.dB s.dK (lQ k 0),endOf s.di s.dE (lQ k 1),endOf s.gK s.gJ (lQ k 2),endOf s.wlo s.whi (lQ k 3)⟩
def iE (s:St)(n:Nat):List Pt:=(List.range n).map (sJ s)
def aT (s:St):List Pt:=iE s 16
theorem sK (s:St)(n:Nat):iE s (n+1)=iE s n ++ [sJ s n]:=by simp[iE,List.range_succ]
theorem Jv {s:St}{i j:Nat}(h:i<=j):iE s i <+: iE s j:=by
 induction j with
 | zero=>obtain rfl:i=0:=by omega
         exact List.prefix_refl _
 | succ j ih =>
  by_cases hi:i=j+1
  . subst hi;exact List.prefix_refl _
  . rw[sK];exact(ih (by omega)).trans (List.prefix_append _ _)
end bz
namespace Go.Proofs.YtkjdidieiioijaaGreat.G
open Go.RowKit Go.Sd bz
attribute [local go_sem] Oper.semAt_some
theorem aeB (k:Nat)(hk:k<16):bits BinOp.and IntKind.i64 ((k:Int)) 1=if lQ k 0=true then 1 else 0:=by
 have:∀j:Fin 16,bits BinOp.and IntKind.i64 (((j.val:Nat):Int)) 1=if lQ j.val 0=true then 1 else 0:=by decide
 exact this ⟨k,hk⟩
theorem agV (a b:Int)(k:Nat)(hk:k<16)(w:World) :
    Calls Tryz.prog 201 #[.agg #[.int .i64 a,.int .i64 b],.int .i64 k,.int .i64 0] w (dI (.int .i64 (endOf a b (lQ k 0))) w):=by
 have hb:=aeB k hk
 obtain⟨W,hW⟩:=aG (w.alloc (.cells #[.int .i64 a,.int .i64 b] 35))
 obtain⟨aJ,f_,iC⟩:=boxed hW
 have hBw:Below w.heap.size w W:=f_
 obtain⟨qK,jQ,jR⟩:=ah aJ
 obtain⟨eG,eH⟩:=rc2 aJ
 clear jQ jR aJ
 have yL:w.heap.size<=w.heap.size:=by omega
 clear f_ iC
 cases ht:lQ k 0
 . rw[ht] at hb
   simp only[Bool.false_eq_true,if_false] at hb
   clear ht
   go_enter Tryz.func201,Tryz.ntmps201
   go_wp2
   go_ret
   exact⟨rfl,hBw⟩
 . rw[ht] at hb
   simp only[if_true] at hb
   clear ht
   go_enter Tryz.func201,Tryz.ntmps201
   go_wp2
   go_ret
   exact⟨rfl,hBw⟩
theorem aeC (k:Nat)(hk:k<16):bits BinOp.and IntKind.i64 ((k:Int) / 2) 1=if lQ k 1=true then 1 else 0:=by
 have:∀j:Fin 16,bits BinOp.and IntKind.i64 (((j.val:Nat):Int) / 2) 1=if lQ j.val 1=true then 1 else 0:=by decide
 exact this ⟨k,hk⟩
theorem agW (a b:Int)(k:Nat)(hk:k<16)(w:World) :
    Calls Tryz.prog 201 #[.agg #[.int .i64 a,.int .i64 b],.int .i64 k,.int .i64 1] w (dI (.int .i64 (endOf a b (lQ k 1))) w):=by
 have hb:=aeC k hk
 obtain⟨W,hW⟩:=aG (w.alloc (.cells #[.int .i64 a,.int .i64 b] 35))
 obtain⟨aJ,f_,iC⟩:=boxed hW
 have hBw:Below w.heap.size w W:=f_
 obtain⟨qK,jQ,jR⟩:=ah aJ
 obtain⟨eG,eH⟩:=rc2 aJ
 clear jQ jR aJ
 have yL:w.heap.size<=w.heap.size:=by omega
 clear f_ iC
 cases ht:lQ k 1
 . rw[ht] at hb
   simp only[Bool.false_eq_true,if_false] at hb
   clear ht
   go_enter Tryz.func201,Tryz.ntmps201
   go_wp2
   go_ret
   exact⟨rfl,hBw⟩
 . rw[ht] at hb
   simp only[if_true] at hb
   clear ht
   go_enter Tryz.func201,Tryz.ntmps201
   go_wp2
   go_ret
   exact⟨rfl,hBw⟩
theorem aeD (k:Nat)(hk:k<16):bits BinOp.and IntKind.i64 ((k:Int) / 4) 1=if lQ k 2=true then 1 else 0:=by
 have:∀j:Fin 16,bits BinOp.and IntKind.i64 (((j.val:Nat):Int) / 4) 1=if lQ j.val 2=true then 1 else 0:=by decide
 exact this ⟨k,hk⟩
theorem agX (a b:Int)(k:Nat)(hk:k<16)(w:World) :
    Calls Tryz.prog 201 #[.agg #[.int .i64 a,.int .i64 b],.int .i64 k,.int .i64 2] w (dI (.int .i64 (endOf a b (lQ k 2))) w):=by
 have hb:=aeD k hk
 obtain⟨W,hW⟩:=aG (w.alloc (.cells #[.int .i64 a,.int .i64 b] 35))
 obtain⟨aJ,f_,iC⟩:=boxed hW
 have hBw:Below w.heap.size w W:=f_
 obtain⟨qK,jQ,jR⟩:=ah aJ
 obtain⟨eG,eH⟩:=rc2 aJ
 clear jQ jR aJ
 have yL:w.heap.size<=w.heap.size:=by omega
 clear f_ iC
 cases ht:lQ k 2
 . rw[ht] at hb
   simp only[Bool.false_eq_true,if_false] at hb
   clear ht
   go_enter Tryz.func201,Tryz.ntmps201
   go_wp2
   go_ret
   exact⟨rfl,hBw⟩
 . rw[ht] at hb
   simp only[if_true] at hb
   clear ht
   go_enter Tryz.func201,Tryz.ntmps201
   go_wp2
   go_ret
   exact⟨rfl,hBw⟩
theorem aeE (k:Nat)(hk:k<16):bits BinOp.and IntKind.i64 ((k:Int) / 8) 1=if lQ k 3=true then 1 else 0:=by
 have:∀j:Fin 16,bits BinOp.and IntKind.i64 (((j.val:Nat):Int) / 8) 1=if lQ j.val 3=true then 1 else 0:=by decide
 exact this ⟨k,hk⟩
theorem agY (a b:Int)(k:Nat)(hk:k<16)(w:World) :
    Calls Tryz.prog 201 #[.agg #[.int .i64 a,.int .i64 b],.int .i64 k,.int .i64 3] w (dI (.int .i64 (endOf a b (lQ k 3))) w):=by
 have hb:=aeE k hk
 obtain⟨W,hW⟩:=aG (w.alloc (.cells #[.int .i64 a,.int .i64 b] 35))
 obtain⟨aJ,f_,iC⟩:=boxed hW
 have hBw:Below w.heap.size w W:=f_
 obtain⟨qK,jQ,jR⟩:=ah aJ
 obtain⟨eG,eH⟩:=rc2 aJ
 clear jQ jR aJ
 have yL:w.heap.size<=w.heap.size:=by omega
 clear f_ iC
 cases ht:lQ k 3
 . rw[ht] at hb
   simp only[Bool.false_eq_true,if_false] at hb
   clear ht
   go_enter Tryz.func201,Tryz.ntmps201
   go_wp2
   go_ret
   exact⟨rfl,hBw⟩
 . rw[ht] at hb
   simp only[if_true] at hb
   clear ht
   go_enter Tryz.func201,Tryz.ntmps201
   go_wp2
   go_ret
   exact⟨rfl,hBw⟩
theorem sN (s:St)(w:World)(S:Nat->Prop)(bs:Nat)(cs:∀i v,(#[.int .i64 s.dB,.int .i64 s.dK,.int .i64 s.di,.int .i64 s.dE,.int .i64 s.gK,.int .i64 s.gJ,.int .i64 s.wlo,.int .i64 s.whi]:Array Value)[i]? = some v->w.cell? ⟨bs,i,none⟩=some v)(hS:S bs) :
    aai Tryz.prog 200 #[.pointer (some ⟨bs,0,none⟩)] (fun p:Pt=>#[nR p]) (aT s) S w:=by
 intro l J Jx Jp W hKW hJ hJx hY h0
 have c0:W.cell? ⟨bs,0,none⟩=some (.int .i64 s.dB):=hKW.cell hS (cs 0 _ rfl)
 have c1:W.cell? ⟨bs,1,none⟩=some (.int .i64 s.dK):=hKW.cell hS (cs 1 _ rfl)
 have c2:W.cell? ⟨bs,2,none⟩=some (.int .i64 s.di):=hKW.cell hS (cs 2 _ rfl)
 have c3:W.cell? ⟨bs,3,none⟩=some (.int .i64 s.dE):=hKW.cell hS (cs 3 _ rfl)
 have c4:W.cell? ⟨bs,4,none⟩=some (.int .i64 s.gK):=hKW.cell hS (cs 4 _ rfl)
 have c5:W.cell? ⟨bs,5,none⟩=some (.int .i64 s.gJ):=hKW.cell hS (cs 5 _ rfl)
 have c6:W.cell? ⟨bs,6,none⟩=some (.int .i64 s.wlo):=hKW.cell hS (cs 6 _ rfl)
 have c7:W.cell? ⟨bs,7,none⟩=some (.int .i64 s.whi):=hKW.cell hS (cs 7 _ rfl)
 have hbs:=World.block_lt_of_cell? W ⟨bs,0,none⟩ c0
 simp only at hbs
 refine callsIn_wide.2 ?_
 go_enter Tryz.func200,Tryz.ntmps200
 go_wp2
 refine(wpIn_wide (n:=0)).1 ?_
 gi_loopw [4,5] (fun _ i wr=>∃k:Nat,k<=16/\i=.int .i64 k/\Hid (Kept S w wr/\J (iE s k) wr)) (fun _ i _=>(16 - intOf i).toNat)
 case atStart=>exact⟨0,by omega,by go_num,hKW,h0⟩
 case round =>
  obtain⟨k,hk,rfl,hH⟩:=hrel
  have d0:wr.cell? ⟨bs,0,none⟩=some (.int .i64 s.dB):=hH.out.1.cell hS (cs 0 _ rfl)
  have d1:wr.cell? ⟨bs,1,none⟩=some (.int .i64 s.dK):=hH.out.1.cell hS (cs 1 _ rfl)
  have d2:wr.cell? ⟨bs,2,none⟩=some (.int .i64 s.di):=hH.out.1.cell hS (cs 2 _ rfl)
  have d3:wr.cell? ⟨bs,3,none⟩=some (.int .i64 s.dE):=hH.out.1.cell hS (cs 3 _ rfl)
  have d4:wr.cell? ⟨bs,4,none⟩=some (.int .i64 s.gK):=hH.out.1.cell hS (cs 4 _ rfl)
  have d5:wr.cell? ⟨bs,5,none⟩=some (.int .i64 s.gJ):=hH.out.1.cell hS (cs 5 _ rfl)
  have d6:wr.cell? ⟨bs,6,none⟩=some (.int .i64 s.wlo):=hH.out.1.cell hS (cs 6 _ rfl)
  have d7:wr.cell? ⟨bs,7,none⟩=some (.int .i64 s.whi):=hH.out.1.cell hS (cs 7 _ rfl)
  have hbr:=World.block_lt_of_cell? wr ⟨bs,0,none⟩ d0
  simp only at hbr
  have hg:=az wr
  by_cases hlt:k<16
  . have hki:(k:Int)<16:=by omega
    have e0:=ai (fun g:Grow wr=>agV s.dB s.dK k hlt g.x)
    have e1:=ai (fun g:Grow wr=>agW s.di s.dE k hlt g.x)
    have e2:=ai (fun g:Grow wr=>agX s.gK s.gJ k hlt g.x)
    have e3:=ai (fun g:Grow wr=>agY s.wlo s.whi k hlt g.x)
    gi_wp2
    refine zJ (.inl rfl) 22 (by kernel_rfl) (by kernel_rfl) (by kernel_rfl) ?_
    simp only[List.take_succ_cons,List.take_zero,List.drop_succ_cons,List.drop_zero]
    repeat (go_big_quiet_step (first|(go_at_call 201;with_reducible exact Calls.grow (e0.out _))|(go_at_call 201;with_reducible exact Calls.grow (e1.out _))|(go_at_call 201;with_reducible exact Calls.grow (e2.out _))|(go_at_call 201;with_reducible exact Calls.grow (e3.out _))))
    refine wpQuiet_nil ?_
    rintro _ ⟨g,rfl⟩
    have hK3:Kept S w g.x:=hH.out.1.trans (.all g.h)
    have hJ3:J (iE s k) g.x:=hJ _ _ _ hH.out.2 g.h
    have hpre:iE s k ++ [sJ s k] <+: aT s:=by rw[<- sK];exact Jv (by omega)
    obtain⟨fn,tmps,assign,body,hy0,hR⟩:=hY _ _ g.x hpre hK3 hJ3
    have hy:(Instr.yield l #[.agg #[.int .i64 (endOf s.dB s.dK (lQ k 0)),.int .i64 (endOf s.di s.dE (lQ k 1)),.int .i64 (endOf s.gK s.gJ (lQ k 2)),.int .i64 (endOf s.wlo s.whi (lQ k 3))]]).run Tryz.prog g.x=.ok (.round l fn tmps assign body) g.x:=hy0
    clear hy0 e0 e1 e2 e3 hg d0 d1 d2 d3 d4 d5 d6 d7
    gi_wp2
    refine⟨rfl,hR.mono ?_⟩
    clear hy hR
    rintro e W3 (⟨rfl,hJ4,hk4⟩|⟨rfl,Y_⟩|⟨c,rfl,hJp⟩)
    . have hK4:Kept S w W3:=hK3.trans hk4
      gi_wp2
      exact⟨⟨k+1,by omega,by go_num,hK4,by rw[sK];exact hJ4⟩,by simp[intOf];omega⟩
    . gi_wp2
      exact bodyPost_ret (results_none rfl _ _ _) rfl (.inl ⟨⟨_,rfl⟩,.inr Y_⟩)
    . exact⟨rfl,.inr ⟨c,rfl,hJp⟩⟩
  . obtain rfl:k=16:=by omega
    gi_wp2
    go_end0
    exact .inl ⟨⟨_,rfl⟩,.inl hH.out.2⟩
end Go.Proofs.YtkjdidieiioijaaGreat.G
namespace Go.Proofs.YtkjdidieiioijaaGreat.G
open Go.RowKit Go.Sd bz
def jI (w:World)(e:Ending)(w':World):Prop:=∃s:ByteArray,e=.panicked [{ v:=.iface 197 (.agg #[.string s]),recovered:=false }]/\Below w.heap.size w w'
theorem jI.mk {s:ByteArray}{w w':World}(h:Below w.heap.size w w'):jI w (.panicked [{ v:=.iface 197 (.agg #[.string s]),recovered:=false }]) w':=⟨s,rfl,h⟩
theorem pK {p:Pt}{t:Bool}(w:World)(h:p.ok=t):Calls Tryz.prog 28 #[nR p] w (dI (.bool t) w) :=
 (Fh p w).mono fun e w' ⟨t',he,ht,hb⟩=>⟨by rw[he,<- h,<- ht.out],hb⟩
theorem jH {W V w:World}(hb:Below W.heap.size W V)(h:w.heap.size<W.heap.size):w.heap.size<V.heap.size:=bM h hb.size
theorem nN {c:d_}{p l:Pt}(hc:c.Ok)(hp:p.Ok)(hl:l.MK) :
    (0<=p.g*c.h0/\p.g*c.h0<=100000000)/\(0<=p.y*c.h1/\p.y*c.h1<=100000000)/\(0<=l.g*c.h0/\l.g*c.h0<=10000000000)/\(0<=l.y*c.h1/\l.y*c.h1<=10000000000) /\
    (0<=(p.g*c.h0+p.y*c.h1)*p.t/\(p.g*c.h0+p.y*c.h1)*p.t<=1000000000000)/\(0<=(l.g*c.h0+l.y*c.h1)*l.t/\(l.g*c.h0+l.y*c.h1)*l.t<=100000000000000):=by
 have a:=nI (B:=100) hp.g ⟨by have:=hc.h0;omega,hc.h0.2⟩
 have b:=nI (B:=100) hp.y ⟨by have:=hc.h1;omega,hc.h1.2⟩
 have d:=nI (B:=100) hl.g ⟨by have:=hc.h0;omega,hc.h0.2⟩
 have e:=nI (B:=100) hl.y ⟨by have:=hc.h1;omega,hc.h1.2⟩
 have hpt:=hp.t
 have hlt:=hl.t
 have f:=nI (A:=200000000) (B:=5000) (a:=p.g*c.h0+p.y*c.h1) (b:=p.t) ⟨by omega,by omega⟩ ⟨by omega,by omega⟩
 have g:=nI (A:=20000000000) (B:=5000) (a:=l.g*c.h0+l.y*c.h1) (b:=l.t) ⟨by omega,by omega⟩ ⟨by omega,by omega⟩
 exact⟨⟨a.1,by omega⟩,⟨b.1,by omega⟩,⟨d.1,by omega⟩,⟨e.1,by omega⟩,⟨f.1,by omega⟩,⟨g.1,by omega⟩⟩
theorem Vx (c:d_)(p l:Pt)(w:World)(hc:c.Ok)(hp:p.Ok)(hl:l.MK)(hz:p.g*c.h0+p.y*c.h1+(l.g*c.h0+l.y*c.h1)=0)(hok:Pt.ok ⟨p.g+l.g,p.y+l.y,p.t,p.w+l.w⟩=true) :
    Calls Tryz.prog 32 #[gm c,nR p,nR l] w (dI (nR ⟨p.g+l.g,p.y+l.y,p.t,p.w+l.w⟩) w):=by
 obtain⟨b1,b2,b3,b4,b5,b6⟩:=nN hc hp hl
 have b7:=hp.g;have b8:=hp.y;have b9:=hp.w;have b10:=hl.g;have b11:=hl.y;have b12:=hl.w
 clear hc hp hl
 have hz':decide (0<p.g*c.h0+p.y*c.h1+(l.g*c.h0+l.y*c.h1))=false:=by simp;omega
 replace hz:=ai hz
 obtain⟨W1,hW1⟩:=aG (w.alloc (.cells #[.int .i64 c.jm,.int .i64 c.jG,.int .i64 c.least,.int .i64 c.most,.int .i64 c.f0,.int .i64 c.f1,.int .i64 c.h0,.int .i64 c.h1,.int .i64 c.bu,.int .i64 c.mJ,.int .i64 c.phi] 96))
 obtain⟨aJ,f_,iC⟩:=boxed hW1
 obtain⟨W2,hW2⟩:=aG (W1.alloc (.cells #[.int .i64 p.g,.int .i64 p.y,.int .i64 p.t,.int .i64 p.w] 29))
 obtain⟨bF,iH,lW⟩:=boxed hW2
 obtain⟨W3,hW3⟩:=aG (W2.alloc (.cells #[.int .i64 l.g,.int .i64 l.y,.int .i64 l.t,.int .i64 l.w] 29))
 obtain⟨dQ,jS,uy⟩:=boxed hW3
 obtain⟨W,hW⟩:=aG (W3.alloc (.cells #[.int .i64 0,.int .i64 0,.int .i64 0,.int .i64 0] 29))
 obtain⟨ik,l7,CG⟩:=boxed hW
 replace aJ:=(iH.block _ (aF aJ)).trans aJ
 replace aJ:=(jS.block _ (aF aJ)).trans aJ
 replace aJ:=(l7.block _ (aF aJ)).trans aJ
 replace bF:=(jS.block _ (aF bF)).trans bF
 replace bF:=(l7.block _ (aF bF)).trans bF
 replace dQ:=(l7.block _ (aF dQ)).trans dQ
 have hBw:Below w.heap.size w W:=(by have:=iC;have:=lW;have:=uy;have:=CG;exact(((f_.trans (iH.mono (by omega))).trans (jS.mono (by omega))).trans (l7.mono (by omega))))
 obtain⟨qK,jQ,jR⟩:=ah aJ
 obtain⟨eG,eH,fP,fQ,gV,gW,gX,gY,je,jf,iR⟩:=bJ aJ
 obtain⟨ja,jb,jy,jA,jB,jC,jD,jE,mP,mQ,mX⟩:=ni aJ
 clear jQ jR aJ
 obtain⟨CS,rQ,rW⟩:=ah bF
 obtain⟨jg,jh,ji,jk⟩:=pX bF
 obtain⟨lS,lT,lU,lV⟩:=Ak bF
 clear rQ rW bF
 obtain⟨Jo,Gt,Gw⟩:=ah dQ
 obtain⟨qx,qy,qP,qQ⟩:=pX dQ
 obtain⟨qL,qM,sW,tq⟩:=Ak dQ
 clear Gt Gw dQ
 obtain⟨MI,QV,Rf⟩:=ah ik
 obtain⟨yJ,yK,zM,zN⟩:=pX ik
 obtain⟨zH,zI,Au,Aw⟩:=Ak ik
 clear QV Rf ik
 have yL:w.heap.size<=w.heap.size:=by omega
 have MH:w.heap.size<=W1.heap.size:=by omega
 have Yq:w.heap.size<=W2.heap.size:=by omega
 have VP:w.heap.size<=W3.heap.size:=by omega
 clear f_ iC iH lW jS uy l7 CG
 have hg:=az W
 go_enter Tryz.func32,Tryz.ntmps32
 go_wp2
 refine aH (by kernel_rfl) (by kernel_rfl) ?_
 repeat (go_big_quiet_step (fail))
 refine wpQuiet_nil ?_
 rintro _ ⟨g,rfl⟩
 have hWg:=g.h
 have y0:=g.lt qK
 have y1:=g.lt CS
 have y2:=g.lt Jo
 have y3:=g.lt MI
 obtain⟨V,hV⟩:=aG (g.x.alloc (.cells #[.int .i64 (p.g+l.g),.int .i64 (p.y+l.y),.int .i64 (p.t),.int .i64 (p.w+l.w)] 29))
 obtain⟨pV,PT,sV0⟩:=boxed hV
 have F9:Below g.x.heap.size g.x V:=PT
 obtain⟨zV0,ZL,Z7⟩:=ah pV
 obtain⟨Jb,Jc,Jd,Je⟩:=pX pV
 obtain⟨SE,SG,SH,SI⟩:=Ak pV
 clear ZL Z7 pV
 have xV0:g.x.heap.size<=g.x.heap.size:=by omega
 clear PT sV0
 have Ag:Below W.heap.size W V:=hWg.trans (F9.mono g.size)
 have v0:=jH Ag qK
 have v1:=jH Ag CS
 have v2:=jH Ag Jo
 have v3:=jH Ag MI
 have hVc:=dR Ag
 have hVf:=dJ Ag
 have hgV:=az V
 have hgF:=dG V
 have hP:=ai (fun(w':World)=>pK w' hok)
 clear hok
 go_wp2_with (go_at_call 28;refine ax (hP.out _) ?_;rintro e w1 ⟨rfl,hB⟩;obtain⟨g',rfl⟩:∃g':Grow V,w1=g'.x:=⟨⟨w1,hB⟩,rfl⟩;clear hB)
 refine bodyPost_ret (v:=nR ⟨p.g+l.g,p.y+l.y,p.t,p.w+l.w⟩) (by simp[results,Tryz.results32,go_sem, *]) rfl ⟨rfl,?_⟩
 have hfin:Below w.heap.size w g'.x:=hBw.trans ((Ag.trans (g'.h.mono Ag.size)).mono hBw.size)
 have hle:w.heap.size<=W3.heap.size:=VP
 repeat' (first|exact hfin|exact hle|refine Below.setCell ?_ ?_ _)
theorem Vw (c:d_)(p l:Pt)(w:World)(hc:c.Ok)(hp:p.Ok)(hl:l.MK)(hz:p.g*c.h0+p.y*c.h1+(l.g*c.h0+l.y*c.h1)=0)(hok:Pt.ok ⟨p.g+l.g,p.y+l.y,p.t,p.w+l.w⟩=false) :
    Calls Tryz.prog 32 #[gm c,nR p,nR l] w (jI w):=by
 obtain⟨b1,b2,b3,b4,b5,b6⟩:=nN hc hp hl
 have b7:=hp.g;have b8:=hp.y;have b9:=hp.w;have b10:=hl.g;have b11:=hl.y;have b12:=hl.w
 clear hc hp hl
 have hz':decide (0<p.g*c.h0+p.y*c.h1+(l.g*c.h0+l.y*c.h1))=false:=by simp;omega
 replace hz:=ai hz
 obtain⟨W1,hW1⟩:=aG (w.alloc (.cells #[.int .i64 c.jm,.int .i64 c.jG,.int .i64 c.least,.int .i64 c.most,.int .i64 c.f0,.int .i64 c.f1,.int .i64 c.h0,.int .i64 c.h1,.int .i64 c.bu,.int .i64 c.mJ,.int .i64 c.phi] 96))
 obtain⟨aJ,f_,iC⟩:=boxed hW1
 obtain⟨W2,hW2⟩:=aG (W1.alloc (.cells #[.int .i64 p.g,.int .i64 p.y,.int .i64 p.t,.int .i64 p.w] 29))
 obtain⟨bF,iH,lW⟩:=boxed hW2
 obtain⟨W3,hW3⟩:=aG (W2.alloc (.cells #[.int .i64 l.g,.int .i64 l.y,.int .i64 l.t,.int .i64 l.w] 29))
 obtain⟨dQ,jS,uy⟩:=boxed hW3
 obtain⟨W,hW⟩:=aG (W3.alloc (.cells #[.int .i64 0,.int .i64 0,.int .i64 0,.int .i64 0] 29))
 obtain⟨ik,l7,CG⟩:=boxed hW
 replace aJ:=(iH.block _ (aF aJ)).trans aJ
 replace aJ:=(jS.block _ (aF aJ)).trans aJ
 replace aJ:=(l7.block _ (aF aJ)).trans aJ
 replace bF:=(jS.block _ (aF bF)).trans bF
 replace bF:=(l7.block _ (aF bF)).trans bF
 replace dQ:=(l7.block _ (aF dQ)).trans dQ
 have hBw:Below w.heap.size w W:=(by have:=iC;have:=lW;have:=uy;have:=CG;exact(((f_.trans (iH.mono (by omega))).trans (jS.mono (by omega))).trans (l7.mono (by omega))))
 obtain⟨qK,jQ,jR⟩:=ah aJ
 obtain⟨eG,eH,fP,fQ,gV,gW,gX,gY,je,jf,iR⟩:=bJ aJ
 obtain⟨ja,jb,jy,jA,jB,jC,jD,jE,mP,mQ,mX⟩:=ni aJ
 clear jQ jR aJ
 obtain⟨CS,rQ,rW⟩:=ah bF
 obtain⟨jg,jh,ji,jk⟩:=pX bF
 obtain⟨lS,lT,lU,lV⟩:=Ak bF
 clear rQ rW bF
 obtain⟨Jo,Gt,Gw⟩:=ah dQ
 obtain⟨qx,qy,qP,qQ⟩:=pX dQ
 obtain⟨qL,qM,sW,tq⟩:=Ak dQ
 clear Gt Gw dQ
 obtain⟨MI,QV,Rf⟩:=ah ik
 obtain⟨yJ,yK,zM,zN⟩:=pX ik
 obtain⟨zH,zI,Au,Aw⟩:=Ak ik
 clear QV Rf ik
 have yL:w.heap.size<=w.heap.size:=by omega
 have MH:w.heap.size<=W1.heap.size:=by omega
 have Yq:w.heap.size<=W2.heap.size:=by omega
 have VP:w.heap.size<=W3.heap.size:=by omega
 clear f_ iC iH lW jS uy l7 CG
 have hg:=az W
 go_enter Tryz.func32,Tryz.ntmps32
 go_wp2
 refine aH (by kernel_rfl) (by kernel_rfl) ?_
 repeat (go_big_quiet_step (fail))
 refine wpQuiet_nil ?_
 rintro _ ⟨g,rfl⟩
 have hWg:=g.h
 have y0:=g.lt qK
 have y1:=g.lt CS
 have y2:=g.lt Jo
 have y3:=g.lt MI
 obtain⟨V,hV⟩:=aG (g.x.alloc (.cells #[.int .i64 (p.g+l.g),.int .i64 (p.y+l.y),.int .i64 (p.t),.int .i64 (p.w+l.w)] 29))
 obtain⟨pV,PT,sV0⟩:=boxed hV
 have F9:Below g.x.heap.size g.x V:=PT
 obtain⟨zV0,ZL,Z7⟩:=ah pV
 obtain⟨Jb,Jc,Jd,Je⟩:=pX pV
 obtain⟨SE,SG,SH,SI⟩:=Ak pV
 clear ZL Z7 pV
 have xV0:g.x.heap.size<=g.x.heap.size:=by omega
 clear PT sV0
 have Ag:Below W.heap.size W V:=hWg.trans (F9.mono g.size)
 have v0:=jH Ag qK
 have v1:=jH Ag CS
 have v2:=jH Ag Jo
 have v3:=jH Ag MI
 have hVc:=dR Ag
 have hVf:=dJ Ag
 have hgV:=az V
 have hgF:=dG V
 have hP:=ai (fun(w':World)=>pK w' hok)
 clear hok
 go_wp2_with (go_at_call 28;refine ax (hP.out _) ?_;rintro e w1 ⟨rfl,hB⟩;obtain⟨g',rfl⟩:∃g':Grow V,w1=g'.x:=⟨⟨w1,hB⟩,rfl⟩;clear hB)
 exact⟨rfl,jI.mk (hBw.trans ((Ag.trans (g'.h.mono Ag.size)).mono hBw.size))⟩
theorem Vu (c:d_)(p l:Pt)(w:World)(hc:c.Ok)(hp:p.Ok)(hl:l.MK)(hz:0<p.g*c.h0+p.y*c.h1+(l.g*c.h0+l.y*c.h1))(hok:Pt.ok ⟨p.g+l.g,p.y+l.y,((p.g*c.h0+p.y*c.h1)*p.t+(l.g*c.h0+l.y*c.h1)*l.t) / (p.g*c.h0+p.y*c.h1+(l.g*c.h0+l.y*c.h1)),p.w+l.w⟩=true) :
    Calls Tryz.prog 32 #[gm c,nR p,nR l] w (dI (nR ⟨p.g+l.g,p.y+l.y,((p.g*c.h0+p.y*c.h1)*p.t+(l.g*c.h0+l.y*c.h1)*l.t) / (p.g*c.h0+p.y*c.h1+(l.g*c.h0+l.y*c.h1)),p.w+l.w⟩) w):=by
 obtain⟨b1,b2,b3,b4,b5,b6⟩:=nN hc hp hl
 have b7:=hp.g;have b8:=hp.y;have b9:=hp.w;have b10:=hl.g;have b11:=hl.y;have b12:=hl.w
 clear hc hp hl
 have hq0:0<=((p.g*c.h0+p.y*c.h1)*p.t+(l.g*c.h0+l.y*c.h1)*l.t) / (p.g*c.h0+p.y*c.h1+(l.g*c.h0+l.y*c.h1)):=Int.ediv_nonneg (by omega) (by omega)
 have hq1:((p.g*c.h0+p.y*c.h1)*p.t+(l.g*c.h0+l.y*c.h1)*l.t) / (p.g*c.h0+p.y*c.h1+(l.g*c.h0+l.y*c.h1))<=(p.g*c.h0+p.y*c.h1)*p.t+(l.g*c.h0+l.y*c.h1)*l.t:=Int.ediv_le_self _ (by omega)
 obtain⟨W1,hW1⟩:=aG (w.alloc (.cells #[.int .i64 c.jm,.int .i64 c.jG,.int .i64 c.least,.int .i64 c.most,.int .i64 c.f0,.int .i64 c.f1,.int .i64 c.h0,.int .i64 c.h1,.int .i64 c.bu,.int .i64 c.mJ,.int .i64 c.phi] 96))
 obtain⟨aJ,f_,iC⟩:=boxed hW1
 obtain⟨W2,hW2⟩:=aG (W1.alloc (.cells #[.int .i64 p.g,.int .i64 p.y,.int .i64 p.t,.int .i64 p.w] 29))
 obtain⟨bF,iH,lW⟩:=boxed hW2
 obtain⟨W3,hW3⟩:=aG (W2.alloc (.cells #[.int .i64 l.g,.int .i64 l.y,.int .i64 l.t,.int .i64 l.w] 29))
 obtain⟨dQ,jS,uy⟩:=boxed hW3
 obtain⟨W,hW⟩:=aG (W3.alloc (.cells #[.int .i64 0,.int .i64 0,.int .i64 0,.int .i64 0] 29))
 obtain⟨ik,l7,CG⟩:=boxed hW
 replace aJ:=(iH.block _ (aF aJ)).trans aJ
 replace aJ:=(jS.block _ (aF aJ)).trans aJ
 replace aJ:=(l7.block _ (aF aJ)).trans aJ
 replace bF:=(jS.block _ (aF bF)).trans bF
 replace bF:=(l7.block _ (aF bF)).trans bF
 replace dQ:=(l7.block _ (aF dQ)).trans dQ
 have hBw:Below w.heap.size w W:=(by have:=iC;have:=lW;have:=uy;have:=CG;exact(((f_.trans (iH.mono (by omega))).trans (jS.mono (by omega))).trans (l7.mono (by omega))))
 obtain⟨qK,jQ,jR⟩:=ah aJ
 obtain⟨eG,eH,fP,fQ,gV,gW,gX,gY,je,jf,iR⟩:=bJ aJ
 obtain⟨ja,jb,jy,jA,jB,jC,jD,jE,mP,mQ,mX⟩:=ni aJ
 clear jQ jR aJ
 obtain⟨CS,rQ,rW⟩:=ah bF
 obtain⟨jg,jh,ji,jk⟩:=pX bF
 obtain⟨lS,lT,lU,lV⟩:=Ak bF
 clear rQ rW bF
 obtain⟨Jo,Gt,Gw⟩:=ah dQ
 obtain⟨qx,qy,qP,qQ⟩:=pX dQ
 obtain⟨qL,qM,sW,tq⟩:=Ak dQ
 clear Gt Gw dQ
 obtain⟨MI,QV,Rf⟩:=ah ik
 obtain⟨yJ,yK,zM,zN⟩:=pX ik
 obtain⟨zH,zI,Au,Aw⟩:=Ak ik
 clear QV Rf ik
 have yL:w.heap.size<=w.heap.size:=by omega
 have MH:w.heap.size<=W1.heap.size:=by omega
 have Yq:w.heap.size<=W2.heap.size:=by omega
 have VP:w.heap.size<=W3.heap.size:=by omega
 clear f_ iC iH lW jS uy l7 CG
 have hg:=az W
 go_enter Tryz.func32,Tryz.ntmps32
 go_wp2
 refine aH (by kernel_rfl) (by kernel_rfl) ?_
 repeat (go_big_quiet_step (fail))
 refine wpQuiet_nil ?_
 rintro _ ⟨g,rfl⟩
 have hWg:=g.h
 have y0:=g.lt qK
 have y1:=g.lt CS
 have y2:=g.lt Jo
 have y3:=g.lt MI
 obtain⟨V,hV⟩:=aG (g.x.alloc (.cells #[.int .i64 (p.g+l.g),.int .i64 (p.y+l.y),.int .i64 (((p.g*c.h0+p.y*c.h1)*p.t+(l.g*c.h0+l.y*c.h1)*l.t) / (p.g*c.h0+p.y*c.h1+(l.g*c.h0+l.y*c.h1))),.int .i64 (p.w+l.w)] 29))
 obtain⟨pV,PT,sV0⟩:=boxed hV
 have F9:Below g.x.heap.size g.x V:=PT
 obtain⟨zV0,ZL,Z7⟩:=ah pV
 obtain⟨Jb,Jc,Jd,Je⟩:=pX pV
 obtain⟨SE,SG,SH,SI⟩:=Ak pV
 clear ZL Z7 pV
 have xV0:g.x.heap.size<=g.x.heap.size:=by omega
 clear PT sV0
 have Ag:Below W.heap.size W V:=hWg.trans (F9.mono g.size)
 have v0:=jH Ag qK
 have v1:=jH Ag CS
 have v2:=jH Ag Jo
 have v3:=jH Ag MI
 have hVc:=dR Ag
 have hVf:=dJ Ag
 have hgV:=az V
 have hgF:=dG V
 have hP:=ai (fun(w':World)=>pK w' hok)
 clear hok
 go_wp2_with (go_at_call 28;refine ax (hP.out _) ?_;rintro e w1 ⟨rfl,hB⟩;obtain⟨g',rfl⟩:∃g':Grow V,w1=g'.x:=⟨⟨w1,hB⟩,rfl⟩;clear hB)
 refine bodyPost_ret (v:=nR ⟨p.g+l.g,p.y+l.y,((p.g*c.h0+p.y*c.h1)*p.t+(l.g*c.h0+l.y*c.h1)*l.t) / (p.g*c.h0+p.y*c.h1+(l.g*c.h0+l.y*c.h1)),p.w+l.w⟩) (by simp[results,Tryz.results32,go_sem, *]) rfl ⟨rfl,?_⟩
 have hfin:Below w.heap.size w g'.x:=hBw.trans ((Ag.trans (g'.h.mono Ag.size)).mono hBw.size)
 have hle:w.heap.size<=W3.heap.size:=VP
 repeat' (first|exact hfin|exact hle|refine Below.setCell ?_ ?_ _)
theorem Vs (c:d_)(p l:Pt)(w:World)(hc:c.Ok)(hp:p.Ok)(hl:l.MK)(hz:0<p.g*c.h0+p.y*c.h1+(l.g*c.h0+l.y*c.h1))(hok:Pt.ok ⟨p.g+l.g,p.y+l.y,((p.g*c.h0+p.y*c.h1)*p.t+(l.g*c.h0+l.y*c.h1)*l.t) / (p.g*c.h0+p.y*c.h1+(l.g*c.h0+l.y*c.h1)),p.w+l.w⟩=false) :
    Calls Tryz.prog 32 #[gm c,nR p,nR l] w (jI w):=by
 obtain⟨b1,b2,b3,b4,b5,b6⟩:=nN hc hp hl
 have b7:=hp.g;have b8:=hp.y;have b9:=hp.w;have b10:=hl.g;have b11:=hl.y;have b12:=hl.w
 clear hc hp hl
 have hq0:0<=((p.g*c.h0+p.y*c.h1)*p.t+(l.g*c.h0+l.y*c.h1)*l.t) / (p.g*c.h0+p.y*c.h1+(l.g*c.h0+l.y*c.h1)):=Int.ediv_nonneg (by omega) (by omega)
 have hq1:((p.g*c.h0+p.y*c.h1)*p.t+(l.g*c.h0+l.y*c.h1)*l.t) / (p.g*c.h0+p.y*c.h1+(l.g*c.h0+l.y*c.h1))<=(p.g*c.h0+p.y*c.h1)*p.t+(l.g*c.h0+l.y*c.h1)*l.t:=Int.ediv_le_self _ (by omega)
 obtain⟨W1,hW1⟩:=aG (w.alloc (.cells #[.int .i64 c.jm,.int .i64 c.jG,.int .i64 c.least,.int .i64 c.most,.int .i64 c.f0,.int .i64 c.f1,.int .i64 c.h0,.int .i64 c.h1,.int .i64 c.bu,.int .i64 c.mJ,.int .i64 c.phi] 96))
 obtain⟨aJ,f_,iC⟩:=boxed hW1
 obtain⟨W2,hW2⟩:=aG (W1.alloc (.cells #[.int .i64 p.g,.int .i64 p.y,.int .i64 p.t,.int .i64 p.w] 29))
 obtain⟨bF,iH,lW⟩:=boxed hW2
 obtain⟨W3,hW3⟩:=aG (W2.alloc (.cells #[.int .i64 l.g,.int .i64 l.y,.int .i64 l.t,.int .i64 l.w] 29))
 obtain⟨dQ,jS,uy⟩:=boxed hW3
 obtain⟨W,hW⟩:=aG (W3.alloc (.cells #[.int .i64 0,.int .i64 0,.int .i64 0,.int .i64 0] 29))
 obtain⟨ik,l7,CG⟩:=boxed hW
 replace aJ:=(iH.block _ (aF aJ)).trans aJ
 replace aJ:=(jS.block _ (aF aJ)).trans aJ
 replace aJ:=(l7.block _ (aF aJ)).trans aJ
 replace bF:=(jS.block _ (aF bF)).trans bF
 replace bF:=(l7.block _ (aF bF)).trans bF
 replace dQ:=(l7.block _ (aF dQ)).trans dQ
 have hBw:Below w.heap.size w W:=(by have:=iC;have:=lW;have:=uy;have:=CG;exact(((f_.trans (iH.mono (by omega))).trans (jS.mono (by omega))).trans (l7.mono (by omega))))
 obtain⟨qK,jQ,jR⟩:=ah aJ
 obtain⟨eG,eH,fP,fQ,gV,gW,gX,gY,je,jf,iR⟩:=bJ aJ
 obtain⟨ja,jb,jy,jA,jB,jC,jD,jE,mP,mQ,mX⟩:=ni aJ
 clear jQ jR aJ
 obtain⟨CS,rQ,rW⟩:=ah bF
 obtain⟨jg,jh,ji,jk⟩:=pX bF
 obtain⟨lS,lT,lU,lV⟩:=Ak bF
 clear rQ rW bF
 obtain⟨Jo,Gt,Gw⟩:=ah dQ
 obtain⟨qx,qy,qP,qQ⟩:=pX dQ
 obtain⟨qL,qM,sW,tq⟩:=Ak dQ
 clear Gt Gw dQ
 obtain⟨MI,QV,Rf⟩:=ah ik
 obtain⟨yJ,yK,zM,zN⟩:=pX ik
 obtain⟨zH,zI,Au,Aw⟩:=Ak ik
 clear QV Rf ik
 have yL:w.heap.size<=w.heap.size:=by omega
 have MH:w.heap.size<=W1.heap.size:=by omega
 have Yq:w.heap.size<=W2.heap.size:=by omega
 have VP:w.heap.size<=W3.heap.size:=by omega
 clear f_ iC iH lW jS uy l7 CG
 have hg:=az W
 go_enter Tryz.func32,Tryz.ntmps32
 go_wp2
 refine aH (by kernel_rfl) (by kernel_rfl) ?_
 repeat (go_big_quiet_step (fail))
 refine wpQuiet_nil ?_
 rintro _ ⟨g,rfl⟩
 have hWg:=g.h
 have y0:=g.lt qK
 have y1:=g.lt CS
 have y2:=g.lt Jo
 have y3:=g.lt MI
 obtain⟨V,hV⟩:=aG (g.x.alloc (.cells #[.int .i64 (p.g+l.g),.int .i64 (p.y+l.y),.int .i64 (((p.g*c.h0+p.y*c.h1)*p.t+(l.g*c.h0+l.y*c.h1)*l.t) / (p.g*c.h0+p.y*c.h1+(l.g*c.h0+l.y*c.h1))),.int .i64 (p.w+l.w)] 29))
 obtain⟨pV,PT,sV0⟩:=boxed hV
 have F9:Below g.x.heap.size g.x V:=PT
 obtain⟨zV0,ZL,Z7⟩:=ah pV
 obtain⟨Jb,Jc,Jd,Je⟩:=pX pV
 obtain⟨SE,SG,SH,SI⟩:=Ak pV
 clear ZL Z7 pV
 have xV0:g.x.heap.size<=g.x.heap.size:=by omega
 clear PT sV0
 have Ag:Below W.heap.size W V:=hWg.trans (F9.mono g.size)
 have v0:=jH Ag qK
 have v1:=jH Ag CS
 have v2:=jH Ag Jo
 have v3:=jH Ag MI
 have hVc:=dR Ag
 have hVf:=dJ Ag
 have hgV:=az V
 have hgF:=dG V
 have hP:=ai (fun(w':World)=>pK w' hok)
 clear hok
 go_wp2_with (go_at_call 28;refine ax (hP.out _) ?_;rintro e w1 ⟨rfl,hB⟩;obtain⟨g',rfl⟩:∃g':Grow V,w1=g'.x:=⟨⟨w1,hB⟩,rfl⟩;clear hB)
 exact⟨rfl,jI.mk (hBw.trans ((Ag.trans (g'.h.mono Ag.size)).mono hBw.size))⟩
