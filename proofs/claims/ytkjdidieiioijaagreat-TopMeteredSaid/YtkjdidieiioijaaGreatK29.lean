/- Walks. -/
import Derived.Test.YtkjdidieiioijaaGreatK28
set_option linter.all false
set_option maxRecDepth 100000
set_option maxHeartbeats 16000000
namespace Go.Proofs.YtkjdidieiioijaaGreat.B
open Go.RowKit Go.Sd Wl Bk L Tr Dk
abbrev Xr (n:Int):List Value:=[.int .i64 n]
theorem yu {α:Type}{m bytes:Nat}{enc:α->List Value}(hm:∀x,(enc x).length=m)(d:α){t e:TypeId}{z:Value}(ht:Tryz.prog.underlying t=some (.slice e))(hinfo:(Tryz.prog.info? e).map (fun i=>(i.zero,i.size,i.bytes))=some (some z,m,bytes))(hzs:z.cells.size=m)(h0:0<m)(hby:bytes<=1000)
    {w:World} {a:Addr} {cap:Nat} {xs:List α} (h1:∀x ∈ xs,∀u ∈ enc x,u.oneCell'=true) (h:gG m enc d w (.slice (some a) xs.length cap) xs) (hl:xs.length<=1000) :
    ∃v' w',(Builtin.append_ #[t,t] t #[.slice (some ⟨w.heap.size,0,none⟩) 0 0,.slice (some a) xs.length cap]).run Tryz.prog (w.alloc (.cells #[] e))=.ok v' w'/\w'.ownsRow w.heap.size e m v' xs.length (xs.flatMap enc)/\Below w.heap.size w w':=by
 obtain⟨i0,hi,hz0,hz1,hz2⟩:=info_parts hinfo
 obtain⟨W,hW⟩:=aG (w.alloc (.cells #[] e))
 obtain⟨eW,bW,zW⟩:=boxedB hW
 rw[hW]
 obtain⟨a',cap',he,hmx,hc⟩:=h.mono bW
 simp only[Value.slice.injEq,Option.some.injEq,true_and] at he
 obtain⟨rfl,rfl⟩:=he
 have ow:W.ownsRow w.heap.size e m (.slice (some ⟨w.heap.size,0,none⟩) 0 0) 0 []:=⟨by simp,.inr ⟨w.heap.size,0,#[],rfl,Nat.le_refl _,eW,Nat.le_refl _,by simp[maxLen],by simp,by simp⟩⟩
 have fin:∀{w':World},W.grownBy w' (some w.heap.size)->Below w.heap.size w w':=fun r2=>bW.trans ⟨r2.os,r2.tape,r2.output,r2.size,fun k hk=>r2.block k (by omega) (by intro e;cases e;omega)⟩
 by_cases hx:xs.length=0
 . have hn:xs=[]:=List.eq_nil_of_length_eq_zero hx
   subst hn
   obtain⟨v',w',hrun,r1,r2,-,-⟩:=run_append_own_at (P:=Tryz.prog) W w.heap.size t t e i0 z m bytes ht hi hz0 hz1 hz2 hzs h0 _ 0 [] ow a 0 cap [] (by simp) (by simp) (by simp) (by simp[maxLen]) (by simp) (Nat.le_of_lt zW)
   exact⟨v',w',hrun,by simpa using r1,fin r2⟩
 . obtain⟨b,off,hab,-,hxx⟩:=hc (by omega)
   cases hab
   obtain⟨v',w',hrun,r1,r2,-,-⟩:=run_append_own_at (P:=Tryz.prog) W w.heap.size t t e i0 z m bytes ht hi hz0 hz1 hz2 hzs h0 _ 0 [] ow ⟨b,off,none⟩ xs.length cap (xs.flatMap enc) (Qg hm xs) (WR hm d hxx h0)
    (fun u hu=>by
     obtain⟨x,hm',hx⟩:=List.mem_flatMap.1 hu
     exact h1 x hm' u hx) (by unfold maxLen;omega) (Nat.le_trans (Nat.mul_le_mul (show 0+xs.length<=1000 by omega) hby) (by omega)) (Nat.le_of_lt zW)
   exact⟨v',w',hrun,by simpa using r1,fin r2⟩
theorem agb:(Tryz.prog.info? 92).map (fun i=>(i.zero,i.size,i.bytes))=some (some (.agg #[.bool false,.int .i64 0,.int .i64 0,.int .i64 0,.slice none 0 0,.int .i64 0,.int .i64 0,.int .i64 0,.int .i64 0,.int .i64 0,.int .i64 0]),11,104):=by kernel_rfl
theorem ajj (x:CV):(GV x).length=11:=rfl
theorem acZ (v:Value)(xs:List CV)(ho:∀x ∈ xs,∀u ∈ GV x,u.oneCell'=true)(w:World)(h:gG 11 GV (.slice none 0 0,⟨false,0,0,0,[],0,0,0,0,0,0⟩) w v xs)(hl:xs.length<=1000):Calls Tryz.prog 94 #[v] w fun e w'=>∃v',e=.returned v'/\w'.ownsRow w.heap.size 92 11 v' xs.length (xs.flatMap GV)/\Below w.heap.size w w':=by
 obtain⟨v',w',hrun,hfin⟩:=nY (t:=22) ajj (.slice none 0 0,⟨false,0,0,0,[],0,0,0,0,0,0⟩) Tryz.underlying22 agb rfl (by decide) (by decide) ho h hl
 obtain⟨a,cap,rfl,-,-⟩:=h
 replace hfin:=ai hfin
 go_enter Tryz.func94,Tryz.ntmps94
 go_wp2_with (at_builtin;refine cO (by rfl) _ _ _ (by rfl) (by rfl) (by rfl) hrun ?_)
 go_ret
 exact⟨v',rfl,hfin.out⟩
theorem ajf:(Tryz.prog.info? 217).map (fun i=>(i.zero,i.size,i.bytes))=some (some (.agg #[.int .i64 0,.int .i64 0,.int .i64 0]),3,24):=by kernel_rfl
theorem am' (x:Rt):(ZT x).length=3:=rfl
theorem aeR (v:Value)(xs:List Rt)(w:World)(h:uC w v xs)(hl:xs.length<=1000):Calls Tryz.prog 96 #[v] w fun e w'=>∃v',e=.returned v'/\w'.ownsRow w.heap.size 217 3 v' xs.length (xs.flatMap ZT)/\Below w.heap.size w w':=by
 obtain⟨v',w',hrun,hfin⟩:=nY (t:=90) am' ⟨0,0,0⟩ Tryz.underlying90 ajf rfl (by decide) (by decide) (fun x _ u hu=>by simp[ZT] at hu;rcases hu with rfl|rfl|rfl <;> rfl) h hl
 obtain⟨a,cap,rfl,-,-⟩:=h
 replace hfin:=ai hfin
 go_enter Tryz.func96,Tryz.ntmps96
 go_wp2_with (at_builtin;refine cO (by rfl) _ _ _ (by rfl) (by rfl) (by rfl) hrun ?_)
 go_ret
 exact⟨v',rfl,hfin.out⟩
theorem ajd:(Tryz.prog.info? 54).map (fun i=>(i.zero,i.size,i.bytes))=some (some (.agg #[.int .i64 0,.int .i64 0,.int .i64 0,.int .i64 0,.int .i64 0,.int .i64 0,.int .i64 0,.int .i64 0,.int .i64 0,.int .i64 0,.int .i64 0,.int .i64 0,.int .i64 0,.int .i64 0,.int .i64 0,.int .i64 0,.int .i64 0,.int .i64 0,.int .i64 0,.int .i64 0,.int .i64 0,.int .i64 0,.int .i64 0,.int .i64 0,.int .i64 0,.int .i64 0,.int .i64 0,.int .i64 0,.int .i64 0,.int .i64 0,.int .i64 0,.slice none 0 0,.int .i64 0,.slice none 0 0,.slice none 0 0,.slice none 0 0,.int .i64 0,.int .i64 0,.int .i64 0,.slice none 0 0]),40,400):=by kernel_rfl
theorem am9 (x:DC):(nZ x).length=40:=rfl
theorem aeO (v:Value)(xs:List DC)(ho:∀x ∈ xs,∀u ∈ nZ x,u.oneCell'=true)(w:World)(h:VW w v xs)(hl:xs.length<=1000):Calls Tryz.prog 95 #[v] w fun e w'=>∃v',e=.returned v'/\w'.ownsRow w.heap.size 54 40 v' xs.length (xs.flatMap nZ)/\Below w.heap.size w w':=by
 obtain⟨v',w',hrun,hfin⟩:=nY (t:=25) am9 dc0 Tryz.underlying25 ajd rfl (by decide) (by decide) ho h hl
 obtain⟨a,cap,rfl,-,-⟩:=h
 replace hfin:=ai hfin
 go_enter Tryz.func95,Tryz.ntmps95
 go_wp2_with (at_builtin;refine cO (by rfl) _ _ _ (by rfl) (by rfl) (by rfl) hrun ?_)
 go_ret
 exact⟨v',rfl,hfin.out⟩
theorem aje:(Tryz.prog.info? 160).map (fun i=>(i.zero,i.size,i.bytes))=some (some (.agg #[.int .i64 0,.int .i64 0,.bool false,.bool false,.int .i64 0,.int .i64 0,.bool false,.int .i64 0,.int .i64 0]),9,64):=by kernel_rfl
theorem am_ (x:Pa):(Qx x).length=9:=rfl
theorem aeQ (v:Value)(xs:List Pa)(w:World)(h:mY w v xs)(hl:xs.length<=1000):Calls Tryz.prog 97 #[v] w fun e w'=>∃v',e=.returned v'/\w'.ownsRow w.heap.size 160 9 v' xs.length (xs.flatMap Qx)/\Below w.heap.size w w':=by
 obtain⟨v',w',hrun,hfin⟩:=nY (t:=44) am_ ⟨0,0,false,false,0,0,false,0,0⟩ Tryz.underlying44 aje rfl (by decide) (by decide) (fun x _ u hu=>by simp[Qx] at hu;rcases hu with rfl|rfl|rfl|rfl|rfl|rfl|rfl|rfl|rfl <;> rfl) h hl
 obtain⟨a,cap,rfl,-,-⟩:=h
 replace hfin:=ai hfin
 go_enter Tryz.func97,Tryz.ntmps97
 go_wp2_with (at_builtin;refine cO (by rfl) _ _ _ (by rfl) (by rfl) (by rfl) hrun ?_)
 go_ret
 exact⟨v',rfl,hfin.out⟩
theorem akX (w:World)(a:Option Addr)(l c:Nat):(binOp .eql 47 (.slice a l c) (.slice none 0 0)).run Tryz.prog w=.ok (.bool a.isNone) w:=by
 simp only[binOp]
 simp[run_equal_slice_nil w _ _ a l c Tryz.underlying47]
attribute [local go_sem] akX
theorem aa4:(Tryz.prog.info? 223).map (fun i=>(i.zero,i.size,i.bytes))=some (some (.agg #[.int .i64 0,.int .i64 0,.bool false]),3,24):=by kernel_rfl
theorem agu (x:Se):(Nz x).length=3:=rfl
theorem aeS (v:Value)(xs:List Se)(w:World)(h:V4 w v xs)(hl:xs.length<=1000):Calls Tryz.prog 98 #[v] w fun e w'=>∃v',e=.returned v'/\w'.ownsRow w.heap.size 223 3 v' xs.length (xs.flatMap Nz)/\Below w.heap.size w w':=by
 obtain⟨v',w',hrun,hfin⟩:=nY (t:=47) agu ⟨0,0,false⟩ Tryz.underlying47 aa4 rfl (by decide) (by decide) (fun x _ u hu=>by simp[Nz] at hu;rcases hu with rfl|rfl|rfl <;> rfl) h hl
 obtain⟨a,cap,rfl,-,-⟩:=h
 replace hfin:=ai hfin
 go_enter Tryz.func98,Tryz.ntmps98
 go_wp2_with (at_builtin;refine cO (by rfl) _ _ _ (by rfl) (by rfl) (by rfl) hrun ?_)
 go_ret
 exact⟨v',rfl,hfin.out⟩
theorem akY (w:World)(a:Option Addr)(l c:Nat):(binOp .eql 48 (.slice a l c) (.slice none 0 0)).run Tryz.prog w=.ok (.bool a.isNone) w:=by
 simp only[binOp]
 simp[run_equal_slice_nil w _ _ a l c Tryz.underlying48]
attribute [local go_sem] akY
theorem aa5:(Tryz.prog.info? 184).map (fun i=>(i.zero,i.size,i.bytes))=some (some (.agg #[.slice none 0 0,.int .i64 0,.int .i64 0,.bool false]),4,48):=by kernel_rfl
theorem agv (x:VV):(zC x).length=4:=rfl
theorem aeT (v:Value)(xs:List VV)(ho:∀x ∈ xs,∀u ∈ zC x,u.oneCell'=true)(w:World)(h:gG 4 zC (.slice none 0 0,⟨[],0,0,false⟩) w v xs)(hl:xs.length<=1000):Calls Tryz.prog 99 #[v] w fun e w'=>∃v',e=.returned v'/\w'.ownsRow w.heap.size 184 4 v' xs.length (xs.flatMap zC)/\Below w.heap.size w w':=by
 obtain⟨v',w',hrun,hfin⟩:=nY (t:=48) agv (.slice none 0 0,⟨[],0,0,false⟩) Tryz.underlying48 aa5 rfl (by decide) (by decide) ho h hl
 obtain⟨a,cap,rfl,-,-⟩:=h
 replace hfin:=ai hfin
 go_enter Tryz.func99,Tryz.ntmps99
 go_wp2_with (at_builtin;refine cO (by rfl) _ _ _ (by rfl) (by rfl) (by rfl) hrun ?_)
 go_ret
 exact⟨v',rfl,hfin.out⟩
theorem akW (w:World)(a:Option Addr)(l c:Nat):(binOp .eql 49 (.slice a l c) (.slice none 0 0)).run Tryz.prog w=.ok (.bool a.isNone) w:=by
 simp only[binOp]
 simp[run_equal_slice_nil w _ _ a l c Tryz.underlying49]
attribute [local go_sem] akW
theorem aa3:(Tryz.prog.info? 187).map (fun i=>(i.zero,i.size,i.bytes))=some (some (.agg #[.int .i64 0,.int .i64 0,.slice none 0 0,.int .i64 0,.int .i64 0]),5,56):=by kernel_rfl
theorem agt (x:MV):(zh x).length=5:=rfl
theorem aeP (v:Value)(xs:List MV)(ho:∀x ∈ xs,∀u ∈ zh x,u.oneCell'=true)(w:World)(h:Sj w v xs)(hl:xs.length<=1000):Calls Tryz.prog 100 #[v] w fun e w'=>∃v',e=.returned v'/\w'.ownsRow w.heap.size 187 5 v' xs.length (xs.flatMap zh)/\Below w.heap.size w w':=by
 obtain⟨v',w',hrun,hfin⟩:=nY (t:=49) agt (.slice none 0 0,⟨0,0,[],0,0⟩) Tryz.underlying49 aa3 rfl (by decide) (by decide) ho h hl
 obtain⟨a,cap,rfl,-,-⟩:=h
 replace hfin:=ai hfin
 go_enter Tryz.func100,Tryz.ntmps100
 go_wp2_with (at_builtin;refine cO (by rfl) _ _ _ (by rfl) (by rfl) (by rfl) hrun ?_)
 go_ret
 exact⟨v',rfl,hfin.out⟩
theorem akV (w:World)(a:Option Addr)(l c:Nat):(binOp .eql 50 (.slice a l c) (.slice none 0 0)).run Tryz.prog w=.ok (.bool a.isNone) w:=by
 simp only[binOp]
 simp[run_equal_slice_nil w _ _ a l c Tryz.underlying50]
attribute [local go_sem] akV
theorem aa2:(Tryz.prog.info? 3).map (fun i=>(i.zero,i.size,i.bytes))=some (some (.int .i64 0),1,8):=by kernel_rfl
theorem ags (x:Int):(Xr x).length=1:=rfl
theorem Wv (v:Value)(xs:List Int)(w:World)(h:bK w v xs)(hl:xs.length<=1000):Calls Tryz.prog 101 #[v] w fun e w'=>∃v',e=.returned v'/\w'.ownsRow w.heap.size 3 1 v' xs.length (xs.flatMap Xr)/\Below w.heap.size w w':=by
 obtain⟨v',w',hrun,hfin⟩:=nY (t:=50) ags 0 Tryz.underlying50 aa2 rfl (by decide) (by decide) (fun x _ u hu=>by simp[Xr] at hu;subst hu;rfl) h hl
 obtain⟨a,cap,rfl,-,-⟩:=h
 replace hfin:=ai hfin
 go_enter Tryz.func101,Tryz.ntmps101
 go_wp2_with (at_builtin;refine cO (by rfl) _ _ _ (by rfl) (by rfl) (by rfl) hrun ?_)
 go_ret
 exact⟨v',rfl,hfin.out⟩
theorem akZ (w:World)(a:Option Addr)(l c:Nat):(binOp .eql 185 (.slice a l c) (.slice none 0 0)).run Tryz.prog w=.ok (.bool a.isNone) w:=by
 simp only[binOp]
 simp[run_equal_slice_nil w _ _ a l c Tryz.underlying185]
attribute [local go_sem] akZ
theorem aa6:(Tryz.prog.info? 229).map (fun i=>(i.zero,i.size,i.bytes))=some (some (.agg #[.int .i64 0,.bool false]),2,16):=by kernel_rfl
theorem agw (x:Wn):(RQ x).length=2:=rfl
theorem aeU (v:Value)(xs:List Wn)(w:World)(h:uD w v xs)(hl:xs.length<=1000):Calls Tryz.prog 102 #[v] w fun e w'=>∃v',e=.returned v'/\w'.ownsRow w.heap.size 229 2 v' xs.length (xs.flatMap RQ)/\Below w.heap.size w w':=by
 obtain⟨v',w',hrun,hfin⟩:=nY (t:=185) agw ⟨0,false⟩ Tryz.underlying185 aa6 rfl (by decide) (by decide) (fun x _ u hu=>by simp[RQ] at hu;rcases hu with rfl|rfl <;> rfl) h hl
 obtain⟨a,cap,rfl,-,-⟩:=h
 replace hfin:=ai hfin
 go_enter Tryz.func102,Tryz.ntmps102
 go_wp2_with (at_builtin;refine cO (by rfl) _ _ _ (by rfl) (by rfl) (by rfl) hrun ?_)
 go_ret
 exact⟨v',rfl,hfin.out⟩
end Go.Proofs.YtkjdidieiioijaaGreat.B
namespace Tr
open Wl
structure Ar (m m':iY):Prop where
 aO:m'.aO=m.aO
 aA:m'.aA.map (·.2)=m.aA.map (·.2)
 moves:m'.moves.map (·.2)=m.moves.map (·.2)
 states:m'.states=m.states
 cmds:m'.cmds=m.cmds
 beg:m'.begin=m.begin
 opn:m'.opn=m.opn
theorem aad (l:List VV)(k:Nat):(gZ l k).2=(l.map (·.2)).getD k ⟨[],0,0,false⟩:=by
 unfold gZ
 by_cases h:k<l.length
 . simp[h]
 . simp[List.getElem?_eq_none (Nat.le_of_not_lt h)]
theorem agC (l:List MV)(k:Nat):(jc l k).2=(l.map (·.2)).getD k ⟨0,0,[],0,0⟩:=by
 unfold jc
 by_cases h:k<l.length
 . simp[h]
 . simp[List.getElem?_eq_none (Nat.le_of_not_lt h)]
theorem Ar.ahX {m m':iY}(h:Ar m m'):m'.aA.length=m.aA.length:=by simpa using congrArg List.length h.aA
theorem Ar.ann {m m':iY}(h:Ar m m'):m'.moves.length=m.moves.length:=by simpa using congrArg List.length h.moves
theorem Ar.ok {m m':iY}(h:Ar m m'):m'.ok=m.ok:=by
 have h1:m'.headB=m.headB:=by simp only[iY.headB,h.aO,h.ahX,h.ann,h.states,h.cmds,h.beg,h.opn]
 have h2:m'.TY=m.TY:=by simp only[iY.TY,h.aO]
 have h3:m'.JU=m.JU:=by simp only[iY.JU,h.aO,h.ahX,aad,h.aA]
 have h4:m'.Qr=m.Qr:=by
  have e:∀l:List MV,(l.any fun x=>!Ai m.aA.length m.states m.cmds x.2)=((l.map (·.2)).any fun x=>!Ai m.aA.length m.states m.cmds x):=fun l=>by simp[List.any_map,Function.comp_def]
  simp only[iY.Qr,h.ahX,h.states,h.cmds]
  rw[e,e,h.moves]
 have h5:m'.agN=m.agN:=by simp only[iY.agN,h.opn]
 unfold iY.ok
 rw[h1,h2,h3,h4,h5]
theorem Ar.aoK {m m':iY}(h:Ar m m')(hb:m.nU):m'.nU:=by
 refine⟨by rw[h.aO];exact hb.aO,by rw[h.ahX];exact hb.aA,by rw[h.ann];exact hb.moves,by rw[h.opn];exact hb.opn,fun k hk=>?_,fun k hk=>?_⟩
 . rw[aad,h.aA,<- aad];exact hb.ints k (by rw[<- h.ahX];exact hk)
 . rw[agC,h.moves,<- agC];exact hb.wants k (by rw[<- h.ann];exact hk)
end Tr
namespace Dk
open Wl Tr
structure PO (d d':DC):Prop where
 c:d'.c=d.c
 s:d'.s=d.s
 r:d'.r=d.r
 we:d'.we=d.we
 line:d'.line=d.line
 m:Ar d.m d'.m
theorem PO.ok {d d':DC}(h:PO d d'):d'.ok=d.ok:=by unfold DC.ok;rw[h.c,h.s,h.r,h.we,h.line,h.m.ok]
end Dk
namespace Go.Proofs.YtkjdidieiioijaaGreat.B
open Go.RowKit Go.Sd Wl Bk L Tr Dk
theorem alX {w:World}{v:Value}{l:List CV}(h:iP w v l):∀x ∈ l,∀u ∈ GV x,u.oneCell'=true:=by
 intro x hx u hu
 obtain⟨j,hj,rfl⟩:=List.getElem_of_mem hx
 have h1:=nK (h.rts j hj)
 rw[CX hj] at h1
 simp only[GV,List.mem_cons,List.not_mem_nil,or_false] at hu
 rcases hu with rfl|rfl|rfl|rfl|rfl|rfl|rfl|rfl|rfl|rfl|rfl <;> first|rfl|exact h1
theorem alY {w:World}{v:Value}{l:List DC}(h:GG w v l):∀x ∈ l,∀u ∈ nZ x,u.oneCell'=true:=by
 intro x hx u hu
 obtain⟨j,hj,rfl⟩:=List.getElem_of_mem hx
 have h1:=acM.one (h.ins j hj).sl
 rw[NH hj] at h1
 rw[Array.all_eq_true_iff_forall_mem] at h1
 exact h1 u (by unfold NG;simpa using hu)
theorem ahY {w:World}{v:Value}{l:List VV}(h:PQ w v l):∀x ∈ l,∀u ∈ zC x,u.oneCell'=true:=by
 intro x hx u hu
 obtain⟨j,hj,rfl⟩:=List.getElem_of_mem hx
 have h1:=nK (h.ins j hj)
 rw[akA hj] at h1
 simp only[zC,List.mem_cons,List.not_mem_nil,or_false] at hu
 rcases hu with rfl|rfl|rfl|rfl <;> first|rfl|exact h1
theorem agD {w:World}{v:Value}{l:List MV}(h:Si w v l):∀x ∈ l,∀u ∈ zh x,u.oneCell'=true:=by
 intro x hx u hu
 obtain⟨j,hj,rfl⟩:=List.getElem_of_mem hx
 have h1:=nK (h.ins j hj)
 rw[Pm hj] at h1
 simp only[zh,List.mem_cons,List.not_mem_nil,or_false] at hu
 rcases hu with rfl|rfl|rfl|rfl|rfl <;> first|rfl|exact h1
abbrev arZ (p:CV)(u:Value):CV:=(u,p.2)
abbrev au5 (p:VV)(u:Value):VV:=(u,p.2)
abbrev atB (p:MV)(u:Value):MV:=(u,p.2)
abbrev cv0:CV:=(.slice none 0 0,⟨false,0,0,0,[],0,0,0,0,0,0⟩)
abbrev vv0:VV:=(.slice none 0 0,⟨[],0,0,false⟩)
abbrev mv0:MV:=(.slice none 0 0,⟨0,0,[],0,0⟩)
abbrev arJ (B C:Nat)(v:Value)(xs:List CV)(k:Nat)(ys:List CV)(w:World):Prop:=Fz 11 GV cv0 arZ (fun x p=>uC x p.1 p.2.aC) 92 B C v xs k ys w
abbrev alM (B C:Nat)(v:Value)(xs:List VV)(k:Nat)(ys:List VV)(w:World):Prop:=Fz 4 zC vv0 au5 (fun x p=>bK x p.1 p.2.aO) 184 B C v xs k ys w
abbrev aoA (B C:Nat)(v:Value)(xs:List MV)(k:Nat)(ys:List MV)(w:World):Prop:=Fz 5 zh mv0 atB (fun x p=>uD x p.1 p.2.wants/\PH p.1) 187 B C v xs k ys w
theorem Fz.snd {β:Type}{m:Nat}{enc:Value × β->List Value}{d:Value × β}{Inn:World->Value × β->Prop}{e:TypeId}{B C:Nat}{v:Value}{xs ys:List (Value × β)}{w:World}(h:Fz m enc d (fun p u=>(u,p.2)) Inn e B C v xs xs.length ys w):ys.map (·.2)=xs.map (·.2):=by
 refine List.ext_getElem (by simp[h.len]) fun i h1 h2=>?_
 have hi:i<xs.length:=by simpa using h2
 have hj:i<ys.length:=by rw[h.len];exact hi
 obtain⟨u,hu,-⟩:=h.got i hi
 have e1:ys.getD i d=ys[i]:=by simp[hj]
 have e2:xs.getD i d=xs[i]:=by simp[hi]
 rw[e1,e2] at hu
 simp[hu]
theorem XI {B m:Nat}{e:TypeId}{w:World}{v:Value}{n:Nat}{ks:List Value}(h:w.ownsRow B e m v n ks):PH v:=by
 intro a k c he
 rcases h.2 with ⟨rfl,-⟩|⟨g,cap,cur,rfl,-,-,hn,-⟩
 . cases he;exact Nat.le_refl _
 . cases he;exact hn
theorem Fz.ap_ {α:Type}{m:Nat}{enc:α->List Value}{d:α}{sv:α->Value->α}{Inn:World->α->Prop}{e:TypeId}{B C:Nat}{v:Value}{xs ys:List α}{k:Nat}{w w1:World}(h:Fz m enc d sv Inn e B C v xs k ys w){S:Nat->Prop}(hk:Kept S w w1)(h1:∀j,v.ownBlock=some j->S j)(h2:∀j,C<=j->S j):Fz m enc d sv Inn e B C v xs k ys w1 :=
 ⟨h.len,bT h.own hk h1,h.lt,fun j hj=>by
  obtain⟨u,hu,hs⟩:=h.got j hj
  exact⟨u,hu,hs.keep (hk.mono fun k _ h=>h2 k h)⟩,h.rest⟩
theorem iw {B C m:Nat}{e:TypeId}{w:World}{v:Value}{n:Nat}{ks:List Value}(hB:B<=C)(h:w.ownsRow C e m v n ks):w.ownsRow B e m v n ks:=by
 refine⟨h.1,?_⟩
 rcases h.2 with h|⟨g,cap,cur,he,hb,r⟩
 . exact .inl h
 . exact .inr ⟨g,cap,cur,he,Nat.le_trans hB hb,r⟩
def aaj (S:Nat->Prop)(P:World->Prop)(w:World):Prop:=∀w',Kept S w w'->P w'
theorem aaj.keep {S:Nat->Prop}{P:World->Prop}{w w':World}(h:aaj S P w)(hk:Kept S w w'):aaj S P w':=fun x hx=>h x (hk.trans hx)
structure L2 (W:World)(C bx:Nat)(wk:Wk)(cv vv:Value)(cs:List CV)(k:Nat)(ys:List DC)(X:World):Prop where
 row:X.heap[bx]? = some (wkO cv vv wk)
 cons:aaj (fun j=>W.heap.size<=j/\vv.ownBlock≠some j) (fun x=>iP x cv cs) X
 len:ys.length=wk.aW.length
 own:X.ownsRow W.heap.size 54 40 vv ys.length (ys.flatMap nZ)
 lt:∀j,vv.ownBlock=some j->j<C
 got:∀j,j<k->PO (aQ wk.aW j) (aQ ys j)/\jP C (fun x=>MJ x (aQ ys j)) X
 rest:∀j,k<=j->aQ ys j=aQ wk.aW j
 kept:Kept (fun j=>j<W.heap.size/\j≠bx) W X
 size:C<=X.heap.size
theorem L2.cell {W X:World}{C bx:Nat}{wk:Wk}{cv vv:Value}{cs:List CV}{k:Nat}{ys:List DC}(h:L2 W C bx wk cv vv cs k ys X)(hk:k<wk.aW.length):∃g cap,vv=.slice (some ⟨g,0,none⟩) wk.aW.length cap/\W.heap.size<=g/\g<C/\g<X.heap.size/\(∀i,X.frozen? ⟨g,i,none⟩=false)/\∀i u,(nZ (aQ wk.aW k))[i]? = some u->X.cell? ⟨g,k*40+i,none⟩=some u:=by
 obtain⟨g,cap,rfl,hB,hlt,-,-,hf,hc⟩:=Qw h.own (by rw[h.len];omega)
 refine⟨g,cap,by rw[h.len],hB,h.lt g rfl,hlt,hf,fun i u hu=>hc _ _ ?_⟩
 have hi:i<40:=(List.getElem?_eq_some_iff.1 hu).1
 rw[uF (m:=40) (enc:=nZ) (fun _=>rfl) dc0 ys k i (by rw[h.len];exact hk) hi]
 rw[<- hu]
 exact congrArg (fun d=>(nZ d)[i]?) (h.rest k (Nat.le_refl _))
structure L3 (W X V:World)(g:Nat)(d:DC)(vv pv sv vt mv ov:Value)(zz:List DC)(k:Nat)(Y:World):Prop where
 kept:Kept (fun j=>j≠g) X Y
 own:Y.ownsRow W.heap.size 54 40 vv zz.length (zz.flatMap nZ)
 parts:Y.ownsRow X.heap.size 160 9 pv d.we.parts.length (d.we.parts.flatMap Qx)
 aO:Y.ownsRow X.heap.size 223 3 sv d.m.aO.length (d.m.aO.flatMap Nz)
 opn:Y.ownsRow X.heap.size 3 1 ov d.m.opn.length (d.m.opn.flatMap Xr)
 aA:∃us,alM X.heap.size V.heap.size vt d.m.aA k us Y
 moves:Y.ownsRow X.heap.size 187 5 mv d.m.moves.length (d.m.moves.flatMap zh)
 size:V.heap.size<=Y.heap.size
 mlt:∀j,mv.ownBlock=some j->j<V.heap.size
theorem L3.next {W X V Y Y1:World}{g:Nat}{d:DC}{vv pv sv mv ov:Value}{zz:List DC}{k tb n cap:Nat}(h:L3 W X V g d vv pv sv (.slice (some ⟨tb,0,none⟩) n cap) mv ov zz k Y)(hk:k<d.m.aA.length)(hb:Below Y.heap.size Y Y1){u:Value}(hI:jP Y.heap.size (fun x=>bK x u (gZ d.m.aA k).2.aO) Y1) :
    L3 W X V g d vv pv sv (.slice (some ⟨tb,0,none⟩) n cap) mv ov zz (k+1) (Y1.setCell ⟨tb,k*4,none⟩ u):=by
 obtain⟨us,hc⟩:=h.aA
 obtain⟨hn,hkk⟩:=Fz.next (fi:=0) (enc:=zC) (m:=4) (fun _=>rfl) (fun _ _=>rfl) (by decide) hc hk h.size hb hI
 have ht:=(eF hc.own tb rfl).1
 have o1:=dM (by decide) hc.own h.own
 have o2:=dM (by decide) hc.own h.parts
 have o3:=dM (by decide) hc.own h.aO
 have o4:=dM (by decide) hc.own h.opn
 have o5:=dM (by decide) hc.own h.moves
 have ne:∀{v:Value},(∀j,v.ownBlock=some j->(Value.slice (some ⟨tb,0,none⟩) n cap).ownBlock≠some j)->∀j,v.ownBlock=some j->j≠tb:=fun ho j hj e=>ho j hj (by rw[e];rfl)
 have hk2:Kept (fun j=>j≠g) X (Y1.setCell ⟨tb,k*4,none⟩ u):=(h.kept.trans (.all hb)).setCell (p:=⟨tb,k*4,none⟩) (.inr ht) u
 exact⟨hk2,bT h.own hkk (ne o1),bT h.parts hkk (ne o2),bT h.aO hkk (ne o3),bT h.opn hkk (ne o4),⟨_,hn⟩,bT h.moves hkk (ne o5),Nat.le_trans h.size hkk.size,h.mlt⟩
structure L4 (W X V V2:World)(g:Nat)(d:DC)(vv pv sv vt mv ov:Value)(zz:List DC)(us:List VV)(k:Nat)(Y:World):Prop where
 kept:Kept (fun j=>j≠g) X Y
 own:Y.ownsRow W.heap.size 54 40 vv zz.length (zz.flatMap nZ)
 parts:Y.ownsRow X.heap.size 160 9 pv d.we.parts.length (d.we.parts.flatMap Qx)
 aO:Y.ownsRow X.heap.size 223 3 sv d.m.aO.length (d.m.aO.flatMap Nz)
 opn:Y.ownsRow X.heap.size 3 1 ov d.m.opn.length (d.m.opn.flatMap Xr)
 aA:alM X.heap.size V.heap.size vt d.m.aA d.m.aA.length us Y
 moves:∃ms,aoA X.heap.size V2.heap.size mv d.m.moves k ms Y
 size:V2.heap.size<=Y.heap.size
 mlt:∀j,mv.ownBlock=some j->j<V.heap.size
theorem L3.last {W X V Y:World}{g:Nat}{d:DC}{vv pv sv vt mv ov:Value}{zz:List DC}(h:L3 W X V g d vv pv sv vt mv ov zz d.m.aA.length Y):∃us,L4 W X V Y g d vv pv sv vt mv ov zz us 0 Y:=by
 obtain⟨us,hc⟩:=h.aA
 exact⟨us,h.kept,h.own,h.parts,h.aO,h.opn,hc,⟨_,Fz.start h.moves (Nat.le_refl _)⟩,Nat.le_refl _,h.mlt⟩
theorem L4.next {W X V V2 Y Y1:World}{g:Nat}{d:DC}{vv pv sv vt ov:Value}{zz:List DC}{us:List VV}{k tb n cap:Nat}(h:L4 W X V V2 g d vv pv sv vt (.slice (some ⟨tb,0,none⟩) n cap) ov zz us k Y)(hk:k<d.m.moves.length)(hb:Below Y.heap.size Y Y1){u:Value}(hI:jP Y.heap.size (fun x=>uD x u (jc d.m.moves k).2.wants/\PH u) Y1) :
    L4 W X V V2 g d vv pv sv vt (.slice (some ⟨tb,0,none⟩) n cap) ov zz us (k+1) (Y1.setCell ⟨tb,k*5+2,none⟩ u):=by
 obtain⟨ms,hc⟩:=h.moves
 obtain⟨hn,hkk⟩:=Fz.next (fi:=2) (enc:=zh) (m:=5) (fun _=>rfl) (fun _ _=>rfl) (by decide) hc hk h.size hb hI
 have ht:=(eF hc.own tb rfl).1
 have hm:=h.mlt tb rfl
 have o1:=dM (by decide) hc.own h.own
 have o2:=dM (by decide) hc.own h.parts
 have o3:=dM (by decide) hc.own h.aO
 have o4:=dM (by decide) hc.own h.opn
 have o5:=dM (by decide) hc.own h.aA.own
 have ne:∀{v:Value},(∀j,v.ownBlock=some j->(Value.slice (some ⟨tb,0,none⟩) n cap).ownBlock≠some j)->∀j,v.ownBlock=some j->j≠tb:=fun ho j hj e=>ho j hj (by rw[e];rfl)
 have hk2:Kept (fun j=>j≠g) X (Y1.setCell ⟨tb,k*5+2,none⟩ u):=(h.kept.trans (.all hb)).setCell (p:=⟨tb,k*5+2,none⟩) (.inr ht) u
 exact⟨hk2,bT h.own hkk (ne o1),bT h.parts hkk (ne o2),bT h.aO hkk (ne o3),bT h.opn hkk (ne o4),h.aA.ap_ hkk (ne o5) fun j hj=>by omega,⟨_,hn⟩,Nat.le_trans h.size hkk.size,h.mlt⟩
def AY (d:DC) (pv sv vt mv ov:Value) (us:List VV) (ms:List MV):DC:={ d with m:={ d.m with aA:=us,moves:=ms },pv:=pv,sv:=sv,vv:=vt,mv:=mv,ov:=ov }
theorem L4.au1 {W X V V2 Y:World}{g:Nat}{d:DC}{vv pv sv vt mv ov:Value}{zz:List DC}{us:List VV}(h:L4 W X V V2 g d vv pv sv vt mv ov zz us d.m.moves.length Y)(hV:X.heap.size<=V.heap.size)(hV2:X.heap.size<=V2.heap.size)(hl:d.we.parts.length<=1000)(hb:d.m.nU):∃ms,PO d (AY d pv sv vt mv ov us ms)/\jP X.heap.size (fun x=>MJ x (AY d pv sv vt mv ov us ms)) Y:=by
 obtain⟨ms,hm⟩:=h.moves
 have b1:=hb.aO
 have b2:=hb.aA
 have b3:=hb.moves
 have b4:=hb.opn
 refine⟨ms,⟨rfl,rfl,rfl,rfl,rfl,⟨rfl,Fz.snd h.aA,Fz.snd hm,rfl,rfl,rfl,rfl⟩⟩,fun x hx=>⟨?_,⟨?_,⟨?_,?_⟩,⟨?_,?_,?_⟩,?_⟩⟩⟩
 . exact jP.els (enc:=Qx) (fun _=>rfl) _ h.parts hl x hx
 . exact jP.els (enc:=Nz) (fun _=>rfl) _ h.aO (by omega) x hx
 . exact jP.els (enc:=zC) (fun _=>rfl) vv0 h.aA.own (by rw[h.aA.len];omega) x hx
 . intro k hk
   have hk':k<d.m.aA.length:=by rw[<- h.aA.len];exact hk
   obtain⟨u,hu,hs⟩:=h.aA.got k hk'
   exact hs.weak hV x hx
 . exact jP.els (enc:=zh) (fun _=>rfl) mv0 hm.own (by rw[hm.len];omega) x hx
 . intro k hk
   have hk':k<d.m.moves.length:=by rw[<- hm.len];exact hk
   obtain⟨u,hu,hs⟩:=hm.got k hk'
   exact(hs.weak hV2 x hx).1
 . intro k hk
   have hk':k<d.m.moves.length:=by rw[<- hm.len];exact hk
   obtain⟨u,hu,hs⟩:=hm.got k hk'
   exact(hs.weak hV2 x hx).2
 . exact jP.els (enc:=Xr) (fun _=>rfl) 0 h.opn (by omega) x hx
theorem L2.next {W X V V2 Y:World}{C bx:Nat}{wk:Wk}{cv:Value}{cs:List CV}{k g n cap:Nat}{ys:List DC}{pv sv vt mv ov:Value}{us:List VV}(h:L2 W C bx wk cv (.slice (some ⟨g,0,none⟩) n cap) cs k ys X)(hk:k<wk.aW.length)(hbx:bx<W.heap.size)
    (h4:L4 W X V V2 g (aQ wk.aW k) (.slice (some ⟨g,0,none⟩) n cap) pv sv vt mv ov (ys.set k (AY (aQ wk.aW k) pv sv vt mv ov [] [])) us (aQ wk.aW k).m.moves.length Y) (hV:X.heap.size<=V.heap.size) (hV2:X.heap.size<=V2.heap.size) (hl:(aQ wk.aW k).we.parts.length<=1000) (hb:(aQ wk.aW k).m.nU) :
    ∃zs,L2 W C bx wk cv (.slice (some ⟨g,0,none⟩) n cap) cs (k+1) zs Y:=by
 obtain⟨ms,hsame,hst⟩:=h4.au1 hV hV2 hl hb
 have hWg:=(eF h.own g rfl).1
 have hgC:=h.lt g rfl
 have hky:k<ys.length:=by rw[h.len];exact hk
 have hsz:=h.size
 refine⟨ys.set k (AY (aQ wk.aW k) pv sv vt mv ov us ms),⟨?_,?_,by rw[List.length_set,h.len],?_,h.lt,?_,?_,?_,Nat.le_trans h.size h4.kept.size⟩⟩
 . exact(h4.kept.block bx (aF h.row) (by omega)).trans h.row
 . exact h.cons.keep (h4.kept.mono fun j _ hj e=>hj.2 (by rw[e];rfl))
 . have h5:=h4.own
   rw[List.length_set] at h5 ⊢
   have e:(ys.set k (AY (aQ wk.aW k) pv sv vt mv ov [] [])).flatMap nZ=(ys.set k (AY (aQ wk.aW k) pv sv vt mv ov us ms)).flatMap nZ:=by
    rw[List.flatMap_def,List.flatMap_def,List.map_set,List.map_set]
    rfl
   rw[e] at h5
   exact h5
 . intro j hj
   by_cases hjk:j=k
   . subst hjk
     rw[show aQ (ys.set j (AY (aQ wk.aW j) pv sv vt mv ov us ms)) j=AY (aQ wk.aW j) pv sv vt mv ov us ms by simp[aQ,hky]]
     exact⟨hsame,hst.weak h.size⟩
   . rw[show aQ (ys.set k (AY (aQ wk.aW k) pv sv vt mv ov us ms)) j=aQ ys j by simp[aQ,List.getElem?_set_ne (Ne.symm hjk)]]
     obtain⟨h1,h2⟩:=h.got j (by omega)
     exact⟨h1,h2.keep (h4.kept.mono fun i _ (hi:C<=i)=>by omega)⟩
 . intro j hj
   rw[show aQ (ys.set k (AY (aQ wk.aW k) pv sv vt mv ov us ms)) j=aQ ys j by simp[aQ,List.getElem?_set_ne (show k≠j by omega)]]
   exact h.rest j (by omega)
 . exact h.kept.trans (h4.kept.mono fun j _ hj=>by omega)
theorem I4 {w:World}{B g n cap k i:Nat}{ys:List DC}{y0 y:DC}{u:Value}(h:w.ownsRow B 54 40 (.slice (some ⟨g,0,none⟩) n cap) (ys.set k y0).length ((ys.set k y0).flatMap nZ))(hk:k<ys.length)(hi:i<40)(he:nZ y=(nZ y0).set i u) :
    (w.setCell ⟨g,k*40+i,none⟩ u).ownsRow B 54 40 (.slice (some ⟨g,0,none⟩) n cap) (ys.set k y).length ((ys.set k y).flatMap nZ):=by
 have h1:=aca (m:=40) (enc:=nZ) (fun _=>rfl) dc0 h (k:=k) (i:=i) (y:=y) (u:=u) (by rw[List.length_set];exact hk) hi (by rw[he];congr 1;simp[hk])
 rw[List.set_set] at h1
 exact h1
theorem set_self {ys:List DC}{k:Nat}(hk:k<ys.length):ys.set k (aQ ys k)=ys:=by
 rw[NH hk]
 exact List.set_getElem_self hk
theorem p_ {w:World}{B g n cap k:Nat}{ys:List DC}{y:DC}(h:w.ownsRow B 54 40 (.slice (some ⟨g,0,none⟩) n cap) (ys.set k y).length ((ys.set k y).flatMap nZ))(hk:k<ys.length){i:Nat}{u:Value}(hu:(nZ y)[i]? = some u):w.cell? ⟨g,k*40+i,none⟩=some u/\w.frozen? ⟨g,k*40+i,none⟩=false/\g<w.heap.size:=by
 obtain⟨g',cap',he,hB,hlt,-,-,hf,hc⟩:=Qw h (by rw[List.length_set];omega)
 cases he
 have hi:i<40:=(List.getElem?_eq_some_iff.1 hu).1
 refine⟨hc _ _ ?_,hf _,hlt⟩
 rw[uF (m:=40) (enc:=nZ) (fun _=>rfl) dc0 (ys.set k y) k i (by rw[List.length_set];exact hk) hi,<- hu]
 congr 2
 simp[hk]
theorem L3.start {W X Y V:World}{g n cap k:Nat}{d:DC}{pv sv vt mv ov:Value}{ys:List DC}(hk:k<ys.length)(hXW:W.heap.size<=X.heap.size)(kept:Kept (fun j=>j≠g) X Y)
    (own:Y.ownsRow W.heap.size 54 40 (.slice (some ⟨g,0,none⟩) n cap) (ys.set k { d with pv:=pv }).length ((ys.set k { d with pv:=pv }).flatMap nZ))
    (parts:Y.ownsRow X.heap.size 160 9 pv d.we.parts.length (d.we.parts.flatMap Qx))
    (aO:Y.ownsRow X.heap.size 223 3 sv d.m.aO.length (d.m.aO.flatMap Nz))
    (aA:Y.ownsRow X.heap.size 184 4 vt d.m.aA.length (d.m.aA.flatMap zC))
    (moves:Y.ownsRow X.heap.size 187 5 mv d.m.moves.length (d.m.moves.flatMap zh))
    (opn:Y.ownsRow X.heap.size 3 1 ov d.m.opn.length (d.m.opn.flatMap Xr))
    (hV:(((Y.setCell ⟨g,k*40+33,none⟩ sv).setCell ⟨g,k*40+34,none⟩ vt).setCell ⟨g,k*40+35,none⟩ mv).setCell ⟨g,k*40+39,none⟩ ov=V) :
    L3 W X V g d (.slice (some ⟨g,0,none⟩) n cap) pv sv vt mv ov (ys.set k (AY d pv sv vt mv ov [] [])) 0 V:=by
 have kV:Kept (fun j=>j≠g) Y V:=by
  rw[<- hV]
  exact((((Kept.refl _ _).setCell (p:=⟨g,k*40+33,none⟩) (.inl fun h=>h rfl) _).setCell (p:=⟨g,k*40+34,none⟩) (.inl fun h=>h rfl) _).setCell (p:=⟨g,k*40+35,none⟩) (.inl fun h=>h rfl) _).setCell (p:=⟨g,k*40+39,none⟩) (.inl fun h=>h rfl) _
 have ne:∀{v:Value},(∀j,v.ownBlock=some j->(Value.slice (some ⟨g,0,none⟩) n cap).ownBlock≠some j)->∀j,v.ownBlock=some j->j≠g:=fun ho j hj e=>ho j hj (by rw[e];rfl)
 have o4:V.ownsRow W.heap.size 54 40 (.slice (some ⟨g,0,none⟩) n cap) (ys.set k (AY d pv sv vt mv ov [] [])).length ((ys.set k (AY d pv sv vt mv ov [] [])).flatMap nZ):=by
  rw[<- hV]
  exact I4 (y0:={ d with pv:=pv,sv:=sv,vv:=vt,mv:=mv }) (I4 (y0:={ d with pv:=pv,sv:=sv,vv:=vt }) (I4 (y0:={ d with pv:=pv,sv:=sv }) (I4 own hk (by decide) rfl) hk (by decide) rfl) hk (by decide) rfl) hk (by decide) rfl
 have v2:=bT aA kV (ne (dM (by decide) own aA))
 have m2:=bT moves kV (ne (dM (by decide) own moves))
 exact⟨kept.trans kV,o4,bT parts kV (ne (dM (by decide) own parts)),bT aO kV (ne (dM (by decide) own aO)),bT opn kV (ne (dM (by decide) own opn)),⟨_,Fz.start v2 (Nat.le_refl _)⟩,m2,Nat.le_refl _,fun j hj=>(eF m2 j hj).2⟩
attribute [local go_sem] akX akY akW akV akZ
theorem aoN (v:Value)(xs:List Se)(w:World)(h:V4 w v xs)(hl:xs.length<=1000):Calls Tryz.prog 157 #[v] w fun e w'=>∃v',e=.returned v'/\w'.ownsRow w.heap.size 223 3 v' xs.length (xs.flatMap Nz)/\Below w.heap.size w w':=by
 obtain⟨a,cap,rfl,hmx,hc⟩:=id h
 cases a with
 | none =>
  have hn:xs=[]:=by
   rcases xs with _|⟨x,xs⟩
   . rfl
   . obtain⟨b,off,h,-⟩:=hc (by simp)
     cases h
  subst hn
  have hfin:=ai (World.ownsRow_nil w w.heap.size 223 3)
  clear h hc
  go_enter Tryz.func157,Tryz.ntmps157
  go_wp2_with (fail)
  go_ret
  exact⟨_,rfl,hfin.out,Below.refl _ _⟩
 | some a =>
  obtain⟨v',w',hrun,hfin⟩:=yu (t:=47) agu ⟨0,0,false⟩ Tryz.underlying47 aa4 rfl (by decide) (by decide) (fun x _ u hu=>by simp[Nz] at hu;rcases hu with rfl|rfl|rfl <;> rfl) h hl
  replace hfin:=ai hfin
  obtain⟨W,hW⟩:=aG (w.alloc (.cells #[] 223))
  rw[hW] at hrun
  clear h hc hmx
  go_enter Tryz.func157,Tryz.ntmps157
  go_wp2_with (at_builtin;refine cO (by rfl) _ _ _ (by rfl) (by rfl) (by rfl) hrun ?_)
  go_ret
  exact⟨v',rfl,hfin.out⟩
theorem aoO (v:Value)(xs:List VV)(ho:∀x ∈ xs,∀u ∈ zC x,u.oneCell'=true)(w:World)(h:gG 4 zC (.slice none 0 0,⟨[],0,0,false⟩) w v xs)(hl:xs.length<=1000):Calls Tryz.prog 158 #[v] w fun e w'=>∃v',e=.returned v'/\w'.ownsRow w.heap.size 184 4 v' xs.length (xs.flatMap zC)/\Below w.heap.size w w':=by
 obtain⟨a,cap,rfl,hmx,hc⟩:=id h
 cases a with
 | none =>
  have hn:xs=[]:=by
   rcases xs with _|⟨x,xs⟩
   . rfl
   . obtain⟨b,off,h,-⟩:=hc (by simp)
     cases h
  subst hn
  have hfin:=ai (World.ownsRow_nil w w.heap.size 184 4)
  clear h hc
  go_enter Tryz.func158,Tryz.ntmps158
  go_wp2_with (fail)
  go_ret
  exact⟨_,rfl,hfin.out,Below.refl _ _⟩
 | some a =>
  obtain⟨v',w',hrun,hfin⟩:=yu (t:=48) agv (.slice none 0 0,⟨[],0,0,false⟩) Tryz.underlying48 aa5 rfl (by decide) (by decide) ho h hl
  replace hfin:=ai hfin
  obtain⟨W,hW⟩:=aG (w.alloc (.cells #[] 184))
  rw[hW] at hrun
  clear h hc hmx
  go_enter Tryz.func158,Tryz.ntmps158
  go_wp2_with (at_builtin;refine cO (by rfl) _ _ _ (by rfl) (by rfl) (by rfl) hrun ?_)
  go_ret
  exact⟨v',rfl,hfin.out⟩
theorem aoM (v:Value)(xs:List MV)(ho:∀x ∈ xs,∀u ∈ zh x,u.oneCell'=true)(w:World)(h:Sj w v xs)(hl:xs.length<=1000):Calls Tryz.prog 159 #[v] w fun e w'=>∃v',e=.returned v'/\w'.ownsRow w.heap.size 187 5 v' xs.length (xs.flatMap zh)/\Below w.heap.size w w':=by
 obtain⟨a,cap,rfl,hmx,hc⟩:=id h
 cases a with
 | none =>
  have hn:xs=[]:=by
   rcases xs with _|⟨x,xs⟩
   . rfl
   . obtain⟨b,off,h,-⟩:=hc (by simp)
     cases h
  subst hn
  have hfin:=ai (World.ownsRow_nil w w.heap.size 187 5)
  clear h hc
  go_enter Tryz.func159,Tryz.ntmps159
  go_wp2_with (fail)
  go_ret
  exact⟨_,rfl,hfin.out,Below.refl _ _⟩
 | some a =>
  obtain⟨v',w',hrun,hfin⟩:=yu (t:=49) agt (.slice none 0 0,⟨0,0,[],0,0⟩) Tryz.underlying49 aa3 rfl (by decide) (by decide) ho h hl
  replace hfin:=ai hfin
  obtain⟨W,hW⟩:=aG (w.alloc (.cells #[] 187))
  rw[hW] at hrun
  clear h hc hmx
  go_enter Tryz.func159,Tryz.ntmps159
  go_wp2_with (at_builtin;refine cO (by rfl) _ _ _ (by rfl) (by rfl) (by rfl) hrun ?_)
  go_ret
  exact⟨v',rfl,hfin.out⟩
theorem akI (v:Value)(xs:List Int)(w:World)(h:bK w v xs)(hl:xs.length<=1000):Calls Tryz.prog 160 #[v] w fun e w'=>∃v',e=.returned v'/\w'.ownsRow w.heap.size 3 1 v' xs.length (xs.flatMap Xr)/\Below w.heap.size w w':=by
 obtain⟨a,cap,rfl,hmx,hc⟩:=id h
 cases a with
 | none =>
  have hn:xs=[]:=by
   rcases xs with _|⟨x,xs⟩
   . rfl
   . obtain⟨b,off,h,-⟩:=hc (by simp)
     cases h
  subst hn
  have hfin:=ai (World.ownsRow_nil w w.heap.size 3 1)
  clear h hc
  go_enter Tryz.func160,Tryz.ntmps160
  go_wp2_with (fail)
  go_ret
  exact⟨_,rfl,hfin.out,Below.refl _ _⟩
 | some a =>
  obtain⟨v',w',hrun,hfin⟩:=yu (t:=50) ags 0 Tryz.underlying50 aa2 rfl (by decide) (by decide) (fun x _ u hu=>by simp[Xr] at hu;subst hu;rfl) h hl
  replace hfin:=ai hfin
  obtain⟨W,hW⟩:=aG (w.alloc (.cells #[] 3))
  rw[hW] at hrun
  clear h hc hmx
  go_enter Tryz.func160,Tryz.ntmps160
  go_wp2_with (at_builtin;refine cO (by rfl) _ _ _ (by rfl) (by rfl) (by rfl) hrun ?_)
  go_ret
  exact⟨v',rfl,hfin.out⟩
theorem aoP (v:Value)(xs:List Wn)(w:World)(h:uD w v xs)(hl:xs.length<=1000):Calls Tryz.prog 161 #[v] w fun e w'=>∃v',e=.returned v'/\w'.ownsRow w.heap.size 229 2 v' xs.length (xs.flatMap RQ)/\Below w.heap.size w w':=by
 obtain⟨a,cap,rfl,hmx,hc⟩:=id h
 cases a with
 | none =>
  have hn:xs=[]:=by
   rcases xs with _|⟨x,xs⟩
   . rfl
   . obtain⟨b,off,h,-⟩:=hc (by simp)
     cases h
  subst hn
  have hfin:=ai (World.ownsRow_nil w w.heap.size 229 2)
  clear h hc
  go_enter Tryz.func161,Tryz.ntmps161
  go_wp2_with (fail)
  go_ret
  exact⟨_,rfl,hfin.out,Below.refl _ _⟩
 | some a =>
  obtain⟨v',w',hrun,hfin⟩:=yu (t:=185) agw ⟨0,false⟩ Tryz.underlying185 aa6 rfl (by decide) (by decide) (fun x _ u hu=>by simp[RQ] at hu;rcases hu with rfl|rfl <;> rfl) h hl
  replace hfin:=ai hfin
  obtain⟨W,hW⟩:=aG (w.alloc (.cells #[] 229))
  rw[hW] at hrun
  clear h hc hmx
  go_enter Tryz.func161,Tryz.ntmps161
  go_wp2_with (at_builtin;refine cO (by rfl) _ _ _ (by rfl) (by rfl) (by rfl) hrun ?_)
  go_ret
  exact⟨v',rfl,hfin.out⟩
