/- Walks. -/
import Derived.Deep.Cut
import Derived.Deep.LoopGhost
import Derived.Test.YtkjdidieiioijaaGreatK16
set_option linter.all false
set_option maxRecDepth 100000
set_option maxHeartbeats 16000000
namespace Wl
def yR (p:Pa)(day:Int):Int:=if p.bad=true then 2 else if p.tested+p.valid<day then 1 else 0
def FN (l:List Pa)(day:Int)(n j:Nat):Int × Bool:=if j<n then(yR (cu l j) day,(cu l j).opn) else(0,false)
def JJ (w:We)(day:Int)(j:Nat):Int × Bool:=FN w.parts day w.parts.length j
end Wl
namespace Go.Proofs.YtkjdidieiioijaaGreat.B
open Go.RowKit Go.Sd Wl L
abbrev VT (f:Nat->Int × Bool):Array Value:=#[.int .i64 (f 0).1,.bool (f 0).2,.int .i64 (f 1).1,.bool (f 1).2,.int .i64 (f 2).1,.bool (f 2).2,.int .i64 (f 3).1,.bool (f 3).2,.int .i64 (f 4).1,.bool (f 4).2,.int .i64 (f 5).1,.bool (f 5).2,.int .i64 (f 6).1,.bool (f 6).2,.int .i64 (f 7).1,.bool (f 7).2,.int .i64 (f 8).1,.bool (f 8).2,.int .i64 (f 9).1,.bool (f 9).2,.int .i64 (f 10).1,.bool (f 10).2,.int .i64 (f 11).1,.bool (f 11).2]
abbrev pcV (f:Nat->Int × Bool):Value:=.agg #[.int .i64 (f 0).1,.bool (f 0).2,.int .i64 (f 1).1,.bool (f 1).2,.int .i64 (f 2).1,.bool (f 2).2,.int .i64 (f 3).1,.bool (f 3).2,.int .i64 (f 4).1,.bool (f 4).2,.int .i64 (f 5).1,.bool (f 5).2,.int .i64 (f 6).1,.bool (f 6).2,.int .i64 (f 7).1,.bool (f 7).2,.int .i64 (f 8).1,.bool (f 8).2,.int .i64 (f 9).1,.bool (f 9).2,.int .i64 (f 10).1,.bool (f 10).2,.int .i64 (f 11).1,.bool (f 11).2]
abbrev pcO (f:Nat->Int × Bool):Obj:=.cells (VT f) 157
theorem ajT (l:List Pa)(day:Int):VT (FN l day 0)=#[.int .i64 0,.bool false,.int .i64 0,.bool false,.int .i64 0,.bool false,.int .i64 0,.bool false,.int .i64 0,.bool false,.int .i64 0,.bool false,.int .i64 0,.bool false,.int .i64 0,.bool false,.int .i64 0,.bool false,.int .i64 0,.bool false,.int .i64 0,.bool false,.int .i64 0,.bool false]:=by
 have h:∀j,FN l day 0 j=(0,false):=fun j=>if_neg (by omega)
 simp only[VT,h]
theorem anB {f h:Nat->Int × Bool}{k:Nat}(hk:k<12)(c:Int)(o:Bool)(hh:∀j,h j=if j=k then(c,o) else f j):((VT f).setIfInBounds (k*2+1) (.bool o)).setIfInBounds (k*2) (.int .i64 c)=VT h:=by
 have e:VT h=VT (fun j=>if j=k then(c,o) else f j):=by simp only[VT,hh]
 rw[e]
 match k,hk with
 | 0,_=>rfl
 | 1,_=>rfl
 | 2,_=>rfl
 | 3,_=>rfl
 | 4,_=>rfl
 | 5,_=>rfl
 | 6,_=>rfl
 | 7,_=>rfl
 | 8,_=>rfl
 | 9,_=>rfl
 | 10,_=>rfl
 | 11,_=>rfl
theorem ajS {f h:Nat->Int × Bool}{k:Nat}(hk:k<12)(o:Bool)(h0:(f k).1=0)(hh:∀j,h j=if j=k then(0,o) else f j):(VT f).setIfInBounds (k*2+1) (.bool o)=VT h:=by
 have e:VT h=VT (fun j=>if j=k then((f k).1,o) else f j):=by simp only[VT,hh,h0]
 rw[e]
 match k,hk with
 | 0,_=>rfl
 | 1,_=>rfl
 | 2,_=>rfl
 | 3,_=>rfl
 | 4,_=>rfl
 | 5,_=>rfl
 | 6,_=>rfl
 | 7,_=>rfl
 | 8,_=>rfl
 | 9,_=>rfl
 | 10,_=>rfl
 | 11,_=>rfl
theorem Vm {w:World}{b:Nat}{f:Nat->Int × Bool}{t:TypeId}(h:w.heap[b]? = some (.cells (VT f) t (0,0))){k:Nat}(hk:k<12):w.cell? ⟨b,k*2,none⟩=some (.int .i64 (f k).1)/\w.cell? ⟨b,k*2+1,none⟩=some (.bool (f k).2):=by
 rw[cell_of_row w b _ _ _ (0,0) h,cell_of_row w b _ _ _ (0,0) h]
 match k,hk with
 | 0,_=>exact⟨rfl,rfl⟩
 | 1,_=>exact⟨rfl,rfl⟩
 | 2,_=>exact⟨rfl,rfl⟩
 | 3,_=>exact⟨rfl,rfl⟩
 | 4,_=>exact⟨rfl,rfl⟩
 | 5,_=>exact⟨rfl,rfl⟩
 | 6,_=>exact⟨rfl,rfl⟩
 | 7,_=>exact⟨rfl,rfl⟩
 | 8,_=>exact⟨rfl,rfl⟩
 | 9,_=>exact⟨rfl,rfl⟩
 | 10,_=>exact⟨rfl,rfl⟩
 | 11,_=>exact⟨rfl,rfl⟩
theorem ajR (l:List Pa)(day:Int)(k j:Nat):FN l day (k+1) j=if j=k then(yR (cu l k) day,(cu l k).opn) else FN l day k j:=by
 unfold FN
 by_cases e:j=k
 . subst e;simp
 . rw[if_neg e]
   by_cases h:j<k
   . rw[if_pos h,if_pos (by omega)]
   . rw[if_neg h,if_neg (by omega)]
theorem ZG (we:We)(ok:we.Ok)(day:Int)(hd:0<=day/\day<=100000)(lb:Nat)(pv:Value)(w:World)(hl:FB w lb pv we day) :
    Calls Tryz.prog 57 #[.pointer (some ⟨lb,0,none⟩)] w (dI (pcV (JJ we day)) w):=by
 have hp0:=hl.parts
 obtain⟨pa,Aj,rfl,hpm,-⟩:=hp0
 unfold maxLen at hpm
 obtain⟨W1,hW1⟩:=aG (w.alloc (.cells #[.int .i64 0,.bool false,.int .i64 0,.bool false,.int .i64 0,.bool false,.int .i64 0,.bool false,.int .i64 0,.bool false,.int .i64 0,.bool false,.int .i64 0,.bool false,.int .i64 0,.bool false,.int .i64 0,.bool false,.int .i64 0,.bool false,.int .i64 0,.bool false,.int .i64 0,.bool false] 157))
 obtain⟨e1,b1,z1⟩:=boxedB hW1
 obtain⟨W,hW⟩:=aG (W1.alloc (.cells #[.int .i64 0,.bool false,.int .i64 0,.bool false,.int .i64 0,.bool false,.int .i64 0,.bool false,.int .i64 0,.bool false,.int .i64 0,.bool false,.int .i64 0,.bool false,.int .i64 0,.bool false,.int .i64 0,.bool false,.int .i64 0,.bool false,.int .i64 0,.bool false,.int .i64 0,.bool false] 157))
 obtain⟨e2,b2,z2⟩:=boxedB hW
 have bW:=b1.trans (b2.mono (by omega))
 have e1':=ak b2 e1
 have hlW:=hl.mono bW
 obtain⟨c0,c1,c2,c3⟩:=row4 hlW.row
 have zl:=(aF hlW.row)
 have hzl:=(aF hl.row)
 have hinv:W.heap[W1.heap.size]? = some (pcO (FN we.parts day 0)):=by rw[pcO,ajT];exact e2
 have h12:we.parts.length<=12:=by have:=ok.parts;omega
 have hne:w.heap.size≠W1.heap.size:=by omega
 clear e1 e2 b1 b2
 go_enter Tryz.func57,Tryz.ntmps57
 go_wp2
 clear c0 c1 c2 c3
 go_loopw [12] (fun i wr=>∃k:Nat,k<=we.parts.length/\i=.int .i64 k/\Hid (wr.heap[W1.heap.size]? = some (pcO (FN we.parts day k))/\wr.heap[w.heap.size]? = some (.cells #[.int .i64 0,.bool false,.int .i64 0,.bool false,.int .i64 0,.bool false,.int .i64 0,.bool false,.int .i64 0,.bool false,.int .i64 0,.bool false,.int .i64 0,.bool false,.int .i64 0,.bool false,.int .i64 0,.bool false,.int .i64 0,.bool false,.int .i64 0,.bool false,.int .i64 0,.bool false] 157 (0,0))/\Below w.heap.size w wr)) (fun i _=>(we.parts.length - intOf i).toNat)
 case atStart=>exact⟨0,by omega,rfl,hinv,e1',bW⟩
 case round =>
  obtain⟨k,hk,rfl,hH⟩:=hrel
  obtain⟨hO,hR,hB⟩:=hH.out
  have zo:=(aF hO)
  have zr:=(aF hR)
  by_cases hlt:k<we.parts.length
  . have hki:(k:Int)<(we.parts.length:Int):=by omega
    have hlr:=hl.mono hB
    obtain⟨b,off,cap,he,hb,-,x0,x1,x2,x3,x4,x5,x6,x7,x8⟩:=XK hlr.parts hlt
    simp only[Value.slice.injEq] at he
    obtain⟨rfl,-,rfl⟩:=he
    obtain⟨-,-,-,-,-,t1,t2,t3,t4⟩:=ok.ends k hlt
    have hpt:=ajR we.parts day k
    obtain⟨p,hp⟩:=aG (cu we.parts k)
    rw[hp] at x0 x1 x2 x3 x4 x5 x6 x7 x8 t1 t2 t3 t4
    simp only[hp] at hpt
    replace hp:=ai hp
    obtain⟨X,hX⟩:=aG (wr.alloc (paO p))
    obtain⟨eX,bX,zX⟩:=boxedB hX
    obtain⟨y0,y1,y2,y3,y4,y5,y6,y7,y8⟩:=ZR eX
    have hOX:=ak bX hO
    have hRX:=ak bX hR
    have F_:=aj hB bX
    have zoX:=(aF hOX)
    have hcell:X.cell? ⟨W1.heap.size,k*2+1,none⟩=some (.bool (FN we.parts day k k).2):=(Vm hOX (by omega)).2
    have hfr:X.frozen? ⟨W1.heap.size,k*2+1,none⟩=false:=frozen_of_row X _ _ _ _ hOX
    have h0k:(FN we.parts day k k).1=0:=by unfold FN;rw[if_neg (by omega)]
    have hne1:W1.heap.size≠wr.heap.size:=by omega
    have hne2:W1.heap.size≠lb:=by omega
    have apN:W1.heap.size≠w.heap.size:=by omega
    have hk12:(k:Int)<12:=by omega
    have hOh:=ai hOX
    clear hO hR hH hOX hinv e1'
    go_upto_region 6 with fail
    obtain⟨V,hV⟩:=aG (X.setCell ⟨W1.heap.size,k*2+1,none⟩ (.bool p.opn))
    rw[hV]
    have kV:∀n,n≠W1.heap.size->V.heap[n]? = X.heap[n]?:=fun n hn=>by rw[<- hV];exact Below.heap_setCell _ _ _ _ hn
    have rV:=aX hOh.out (k*2+1) (.bool p.opn)
    rw[hV] at rV
    have BV:Below w.heap.size w V:=by rw[<- hV];exact F_.setCell (p:=⟨W1.heap.size,k*2+1,none⟩) (by show _<=W1.heap.size;omega) _
    have RV:=(kV _ apN.symm).trans hRX
    have hlV:=hl.mono BV
    obtain⟨c0,c1,c2,c3⟩:=row4 hlV.row
    have zlV:=(aF hlV.row)
    obtain⟨v0,v1,v2,v3,v4,v5,v6,v7,v8⟩:=ZR ((kV _ hne1.symm).trans eX)
    have zpV:=(Array.getElem?_eq_some_iff.1 ((kV _ hne1.symm).trans eX)).1
    have zoV:=(aF rV)
    have hcV:V.cell? ⟨W1.heap.size,k*2,none⟩=some (.int .i64 0):=by
     rw[cell_of_row V _ _ _ _ (0,0) rV,Array.getElem?_setIfInBounds_ne (by omega),<- cell_of_row X _ _ _ _ (0,0) hOh.out,(Vm hOh.out (by omega)).1,h0k]
    have hfV:V.frozen? ⟨W1.heap.size,k*2,none⟩=false:=frozen_of_row V _ _ _ _ rV
    clear hX hV eX bX zX y0 y1 y2 y3 y4 y5 y6 y7 y8 x0 x1 x2 x3 x4 x5 x6 x7 x8 hRX F_ zoX hcell hfr kV hlr
    replace rV:=ai rV
    replace RV:=ai RV
    replace BV:=ai BV
    have hfin:Hid (∀(Y:World) (c:Int),Below V.heap.size V Y->yR p day=c->(Y.setCell ⟨W1.heap.size,k*2,none⟩ (.int .i64 c)).heap[W1.heap.size]? = some (pcO (FN we.parts day (k+1)))/\(Y.setCell ⟨W1.heap.size,k*2,none⟩ (.int .i64 c)).heap[w.heap.size]? = some (.cells #[.int .i64 0,.bool false,.int .i64 0,.bool false,.int .i64 0,.bool false,.int .i64 0,.bool false,.int .i64 0,.bool false,.int .i64 0,.bool false,.int .i64 0,.bool false,.int .i64 0,.bool false,.int .i64 0,.bool false,.int .i64 0,.bool false,.int .i64 0,.bool false,.int .i64 0,.bool false] 157 (0,0))/\Below w.heap.size w (Y.setCell ⟨W1.heap.size,k*2,none⟩ (.int .i64 c))):=ai fun Y c hY hc =>
     ⟨by rw[aX (ak hY rV.out) (k*2) (.int .i64 c),anB (h:=FN we.parts day (k+1)) (by omega) c p.opn (fun j=>by rw[hpt j,hc])],(Below.heap_setCell _ _ _ _ apN.symm).trans (ak hY RV.out),(aj BV.out hY).setCell (p:=⟨W1.heap.size,k*2,none⟩) (by show _<=W1.heap.size;omega) _⟩
    have ala:Hid (∀(Y:World),Below V.heap.size V Y->yR p day=0->Y.heap[W1.heap.size]? = some (pcO (FN we.parts day (k+1)))/\Y.heap[w.heap.size]? = some (.cells #[.int .i64 0,.bool false,.int .i64 0,.bool false,.int .i64 0,.bool false,.int .i64 0,.bool false,.int .i64 0,.bool false,.int .i64 0,.bool false,.int .i64 0,.bool false,.int .i64 0,.bool false,.int .i64 0,.bool false,.int .i64 0,.bool false,.int .i64 0,.bool false,.int .i64 0,.bool false] 157 (0,0))/\Below w.heap.size w Y):=ai fun Y hY hc =>
     ⟨by rw[ak hY rV.out,ajS (h:=FN we.parts day (k+1)) (by omega) p.opn h0k (fun j=>by rw[hpt j,hc])],ak hY RV.out,aj BV.out hY⟩
    cases hb:p.bad
    . have hw:IntKind.i64.wrap (p.tested+p.valid)=p.tested+p.valid:=IntWalk.i64_in _ (by omega)
      rw[hb] at v6
      have hg:=az V
      by_cases hdy:p.tested+p.valid<day
      . have hcd:Hid (yR p day=1):=ai (by unfold yR;rw[hb,if_neg (by simp),if_pos hdy])
        have hd1:decide (p.tested+p.valid<day)=true:=decide_eq_true hdy
        clear hb
        have hgf:=dG V
        go_upto_region 8 with fail
        refine aH (by kernel_rfl) (by kernel_rfl) ?_
        repeat (go_big_quiet_step (fail))
        refine wpQuiet_nil ?_
        rintro _ ⟨g,rfl⟩
        have zg:=g.size
        have hF:=ai (hfin.out g.x 1 g.h hcd.out)
        go_wp2
        exact⟨⟨k+1,by omega,by go_num,hF.out⟩,by simp[intOf];omega⟩
      . have hcd:Hid (yR p day=0):=ai (by unfold yR;rw[hb,if_neg (by simp),if_neg hdy])
        have hd1:decide (p.tested+p.valid<day)=false:=decide_eq_false hdy
        clear hb
        go_upto_region 8 with fail
        refine aH (by kernel_rfl) (by kernel_rfl) ?_
        repeat (go_big_quiet_step (fail))
        refine wpQuiet_nil ?_
        rintro _ ⟨g,rfl⟩
        have hF:=ai (ala.out g.x g.h hcd.out)
        go_wp2
        exact⟨⟨k+1,by omega,by go_num,hF.out⟩,by simp[intOf];omega⟩
    . have hcd:=hfin.out V 2 (Below.refl _ _) (by unfold yR;rw[hb,if_pos rfl])
      rw[hb] at v6
      replace hcd:=ai hcd
      clear hb hfin ala
      go_wp2
      exact⟨⟨k+1,by omega,by go_num,hcd.out⟩,by simp[intOf];omega⟩
  . obtain rfl:k=we.parts.length:=by omega
    have hf:FN we.parts day we.parts.length=JJ we day:=rfl
    rw[hf] at hO
    replace hO:=ai hO
    replace hR:=ai hR
    replace hB:=ai hB
    clear hinv e1' hH
    go_upto_region 11 with fail
    refine wp_region_list ?_
    refine wpList_load_row rfl 157 _ rfl W1.heap.size rfl _ _ (0,0) _ hO.out Tryz.underlying157 rfl (by show _=some 24;kernel_rfl) ?_
    refine wpList_store_row rfl 157 _ _ rfl w.heap.size (VT (JJ we day)) rfl rfl _ _ hR.out (by show _=some 24;kernel_rfl) rfl (by simp[VT,Value.oneCell']) ?_
    refine wpList_nil ?_
    go_wp2
    have hbl:Below w.heap.size w (wr.setRow w.heap.size (VT (JJ we day))):=⟨hB.out.os,hB.out.tape,hB.out.output,by simpa using hB.out.size,fun k hk=>(setRow_other _ _ _ _ (by omega)).trans (hB.out.block k hk)⟩
    exact bodyPost_ret (results_cell_row (p:=2) (ty:=157) rfl _ _ w.heap.size 157 (VT (JJ we day)) (0,0) _ rfl (setRow_heap _ _ _ _ _ _ hR.out) Tryz.underlying157 rfl (by show _=some 24;kernel_rfl)) rfl ⟨rfl,hbl⟩
end Go.Proofs.YtkjdidieiioijaaGreat.B
namespace Wl
def at0 (l:List Int)(k:Nat):Int:=l.getD k 0
def FC (t:Bool):Int:=if t=true then 1 else 0
def TD (t:Bool)(q:List Int)(x:Int):List Int:=if t=true then q ++ [x] else x :: q
theorem Uu (t:Bool):0<=FC t/\FC t<=1:=by cases t <;> decide
theorem adR (t:Bool)(q:List Int)(x:Int):(TD t q x).length=q.length+1:=by cases t <;> simp[TD]
theorem adS {t:Bool}{q:List Int}{x r:Int}(h:r ∈ TD t q x):r=x\/r ∈ q:=by
 cases t
 . exact List.mem_cons.1 h
 . rcases List.mem_append.1 h with h|h
   . exact .inr h
   . exact .inl (List.mem_singleton.1 h)
def Cf (tight:Nat->Bool)(room:Int)(s:List Int × List Int)(x:Nat × Int):List Int × List Int :=
 if at0 s.1 x.2.toNat<=at0 s.1 room.toNat+FC (tight x.1) then s
 else(s.1.set x.2.toNat (at0 s.1 room.toNat+FC (tight x.1)),TD (tight x.1) s.2 x.2)
def Ci (tight:Nat->Bool)(room:Int)(s:List Int × List Int)(xs:List (Nat × Int)):List Int × List Int:=xs.foldl (Cf tight room) s
theorem Cm (tight:Nat->Bool)(room:Int)(s:List Int × List Int)(xs:List (Nat × Int))(x:Nat × Int):Ci tight room s (xs ++ [x])=Cf tight room (Ci tight room s xs) x:=by simp[Ci]
def MF (tight:Nat->Bool)(l:List Pa)(s:List Int × List Int):List Int × List Int :=
 match s.2 with
 | []=>s
 | r :: q=>Ci tight r (s.1,q) (atL l r)
def qN (tight:Nat->Bool)(l:List Pa):Nat->List Int × List Int->List Int × List Int
 | 0,s=>s
 | n+1,s=>MF tight l (qN tight l n s)
structure Fine (m:Nat)(s:List Int × List Int):Prop where
 len:s.1.length=m
 UB:∀k,k<m->0<=at0 s.1 k/\at0 s.1 k<=1048576
 aS:∀r,r ∈ s.2->0<=r/\r<m
def RJ:List Int->Nat
 | []=>0
 | x :: xs=>x.toNat+RJ xs
def meas (s:List Int × List Int):Nat:=2*RJ s.1+s.2.length
theorem ahG {l:List Int}{k:Nat}{y:Int}(h:k<l.length)(hy:y.toNat<(at0 l k).toNat):RJ (l.set k y)<RJ l:=by
 induction l generalizing k with
 | nil=>simp at h
 | cons a l ih =>
  cases k with
  | zero =>
   simp only[List.set_cons_zero,RJ]
   simp only[at0,List.getD_cons_zero] at hy
   omega
  | succ k =>
   simp only[List.set_cons_succ,RJ]
   have:=ih (k:=k) (by simpa using h) (by simpa [at0] using hy)
   omega
theorem akq {l:List Int}{B:Nat}(h:∀x ∈ l,x.toNat<=B):RJ l<=l.length*B:=by
 induction l with
 | nil=>simp[RJ]
 | cons a l ih =>
  have h1:=h a (List.mem_cons_self ..)
  have h2:=ih fun x hx=>h x (List.mem_cons_of_mem _ hx)
  simp only[RJ,List.length_cons,Nat.add_mul,Nat.one_mul]
  omega
theorem Uo {l:List Int}{k j:Nat}{y:Int}(h:k<l.length):at0 (l.set k y) j=if j=k then y else at0 l j:=by
 unfold at0
 by_cases e:j=k
 . subst e;simp[h]
 . simp[e,List.getElem?_set,Ne.symm e]
theorem ZN {m:Nat}{tight:Nat->Bool}{room:Int}{s:List Int × List Int}{x:Nat × Int}(h:Fine m s)(hr:0<=room/\room<m)(hx:0<=x.2/\x.2<m):Fine m (Cf tight room s x):=by
 unfold Cf
 split
 . exact h
 . rename_i hlt
   have d1:=h.UB room.toNat (by omega)
   have d2:=h.UB x.2.toNat (by omega)
   have hl:=h.len
   have hb:=Uu (tight x.1)
   refine⟨by simpa using h.len,fun k hk=>?_,fun r hrr=>?_⟩
   . show 0<=at0 (s.1.set _ _) k/\at0 (s.1.set _ _) k<=_
     rw[Uo (by omega)]
     split
     . omega
     . exact h.UB k hk
   . rcases adS hrr with rfl|h1
     . exact hx
     . exact h.aS r h1
theorem ZO {m:Nat}{tight:Nat->Bool}{room:Int}{s:List Int × List Int}{x:Nat × Int}(h:Fine m s)(hr:0<=room/\room<m)(hx:0<=x.2/\x.2<m):meas (Cf tight room s x)<=meas s:=by
 unfold Cf
 split
 . exact Nat.le_refl _
 . rename_i hlt
   have d1:=h.UB room.toNat (by omega)
   have d2:=h.UB x.2.toNat (by omega)
   have hl:=h.len
   have hb:=Uu (tight x.1)
   have hs:=ahG (l:=s.1) (k:=x.2.toNat) (y:=at0 s.1 room.toNat+FC (tight x.1)) (by omega) (by omega)
   show 2*RJ (s.1.set _ _)+(TD _ _ _).length<=_
   rw[adR]
   unfold meas
   omega
theorem Cj {m:Nat}{tight:Nat->Bool}{room:Int}(hr:0<=room/\room<m):∀(xs:List (Nat × Int))(s:List Int × List Int),Fine m s->(∀x ∈ xs,0<=x.2/\x.2<m)->Fine m (Ci tight room s xs)/\meas (Ci tight room s xs)<=meas s
 | [],s,h,_=>⟨h,Nat.le_refl _⟩
 | x :: xs,s,h,hx=>by
  have h1:=ZN (tight:=tight) h hr (hx x (List.mem_cons_self ..))
  have h2:=ZO (tight:=tight) h hr (hx x (List.mem_cons_self ..))
  obtain⟨h3,h4⟩:=Cj hr xs (Cf tight room s x) h1 fun y hy=>hx y (List.mem_cons_of_mem _ hy)
  exact⟨h3,Nat.le_trans h4 h2⟩
theorem ZX (tight:Nat->Bool)(l:List Pa)(o q:List Int)(r:Int):MF tight l (o,r :: q)=Ci tight r (o,q) (atL l r):=rfl
theorem ZY {w:We}(ok:w.Ok){tight:Nat->Bool}{o q:List Int}{r:Int}(h:Fine w.aS.toNat (o,r :: q)):Fine w.aS.toNat (MF tight w.parts (o,r :: q))/\meas (MF tight w.parts (o,r :: q))<meas (o,r :: q):=by
 have hr:=h.aS r (List.mem_cons_self ..)
 have h0:Fine w.aS.toNat (o,q):=⟨h.len,h.UB,fun x hx=>h.aS x (List.mem_cons_of_mem _ hx)⟩
 obtain⟨h1,h2⟩:=Cj (tight:=tight) hr (atL w.parts r) (o,q) h0 fun x hx=>by
  obtain⟨a,b,c⟩:=Ur hx
  have:=VG ok a r
  have:=ok.aS
  rw[b] at c ⊢
  omega
 rw[ZX]
 refine⟨h1,Nat.lt_of_le_of_lt h2 ?_⟩
 simp[meas]
theorem Gh {tight:Nat->Bool}{l:List Pa}{s:List Int × List Int}{n:Nat}(h:(qN tight l n s).2=[]):∀k,qN tight l (n+k) s=qN tight l n s
 | 0=>rfl
 | k+1=>by
  show MF tight l (qN tight l (n+k) s)=_
  rw[Gh h k]
  unfold MF
  rw[h]
theorem Zm {tight:Nat->Bool}{l:List Pa}{s:List Int × List Int}{n m:Nat}(h1:(qN tight l n s).2=[])(h2:(qN tight l m s).2=[]):qN tight l n s=qN tight l m s:=by
 rcases Nat.le_total n m with h|h
 . obtain⟨k,rfl⟩:=Nat.exists_eq_add_of_le h;exact(Gh h1 k).symm
 . obtain⟨k,rfl⟩:=Nat.exists_eq_add_of_le h;exact Gh h2 k
end Wl
namespace Go.Sd
open Go Go.RowKit
variable {P:Program}
def adX {α:Type}(S:Nat->Prop)(I:List α->World->Prop)(xs:List α)(W:World):Exit->Act->World->Prop
 | .normal,_,W'=>Kept S W W'/\I xs W'
 | _,_,_=>False
theorem RY {α:Type}{g:Operand}{ps:Array Tmp}{assign body:Code}{Q:Exit->Act->World->Prop}{a:Act}{w:World}
    {gf:Nat} {lb:Array Value} (hg:a.eval g=.func (.func gf) #[] lb) (eg:∀args w,(callFunc gf args).run P w=.ok (.enter gf args) w)
    {encs:α->Array Value} {xs:List α} {S:Nat->Prop} (hseq:aai P gf lb encs xs S w) (hS:∀k,S k->k<w.heap.size) (hps:∀x,(encs x).size=ps.size)
    (I:List α->World->Prop) (hI:∀pre X Y,I pre X->Kept (fun k=>k≠w.heap.size/\k≠w.heap.size+1) X Y->I pre Y) (h0:I [] w)
    (pI:∀(l:Nat) (pre:List α) (x:α) (W:World),l=w.heap.size+1->l<W.heap.size->pre ++ [x] <+: xs->Kept S w W->I pre W ->
     assign.wpIn (Fence.wide.inRound l) 0 P (Exit.then (fun a₁ W1=>Kept (fun k=>S k\/k=w.heap.size\/k=w.heap.size+1) W W1 /\
         (∀W2,Kept (fun k=>k≠l) W1 W2->W2.heap.size=W1.heap.size->body.wpIn (Fence.wide.inRound l) 0 P (adX (fun k=>S k\/k=w.heap.size\/k=w.heap.size+1) I (pre ++ [x]) W2) a₁ W2)) (fun _ _ _=>False))
      { tmps:=(ps.zip (encs x)).foldl (fun t (p,v)=>t.setIfInBounds p v) a.tmps,defers:=[] } W)
    (hdone:∀(D:Nat) (W:World),w.heap.size<=D->I xs W->Kept S w W->W.heap[D]? = some (.deferred (some []))->Q .normal { a with defers:={ target:=.collected D,args:=#[] } :: a.defers } W) :
    (Code.rangeFunc g ps assign body).wpIn Fence.wide 0 P Q a w:=by
 refine wpIn_rangeFunc ?_
 intro fn hfn
 obtain⟨rec,hrec⟩:∃rec:LoopState->Option Code->Loop,rec=fun st pe=>{ state:=st,pending:=pe,fn,tmps:=a.tmps,params:=ps,assign,body,defers:=w.heap.size }:=⟨_,rfl⟩
 obtain⟨W1,hW1⟩:=aG ((w.alloc (.deferred (some []))).alloc (.loop (rec .ready none)))
 have hL1:W1.heap[w.heap.size+1]? = some (.loop (rec .ready none)):=by
  rw[<- hW1];have:=World.alloc_heap_new (w.alloc (.deferred (some []))) (.loop (rec .ready none));rwa [World.size_alloc] at this
 have hK1:W1.heap[w.heap.size]? = some (.deferred (some [])):=by
  rw[<- hW1];exact(Below.heap_alloc _ _ _ (by simp)).trans (World.alloc_heap_new w _)
 have hB1:Below w.heap.size w W1:=by rw[<- hW1];exact((Below.refl _ w).alloc (Nat.le_refl _) _).alloc (by simp) _
 have hsz1:W1.heap.size=w.heap.size+2:=by rw[<- hW1];simp
 have hI1:I [] W1:=hI _ _ _ h0 (.all hB1)
 refine⟨w.heap.size+1,[{ target:=.collected w.heap.size,args:=#[] }],W1,{ target:=.fn (.func gf) lb,args:=#[.func (.yield (w.heap.size+1)) #[] #[]] },W1,gf,
  #[.func (.yield (w.heap.size+1)) #[] #[]] ++ lb,W1,?_,?_,?_,?_,(fun h=>by cases h),?_⟩
 . rw[<- hW1,hrec];exact run_enterLoop_outer _ _ _ _ _
 . simp only[resolve,hg]
   simp[go_sem]
 . intro f' _;trivial
 . simp[invoke,go_sem,eg]
 . refine(hseq (w.heap.size+1)
    (fun pre W=>I pre W/\W.heap[w.heap.size+1]? = some (.loop (rec .ready none))/\W.heap[w.heap.size]? = some (.deferred (some []))/\Kept S w W)
    (fun _=>False) (fun _ _=>False)
    W1 (.of_below hB1 fun _ hk _=>hk) ?_ (fun _ _ h _=>h) ?_ ⟨hI1,hL1,hK1,.of_below hB1 fun _ hk _=>hk⟩).mono ?_
   . rintro pre X Y ⟨hi,hl,hk,hs⟩ hb
     exact⟨hI _ _ _ hi (.all hb),(hb.block _ (aF hl)).trans hl,(hb.block _ (aF hk)).trans hk,hs.trans (.all hb)⟩
   . -- ONE ROUND
     rintro pre x W hpre hsw ⟨hi,hl,hk,hs⟩
     have hlt:w.heap.size+1<W.heap.size:=(aF hl)
     have hy:=run_yield (P:=P) (args:=encs x) hl (by rw[hrec];exact hps x)
     rw[hrec] at hy
     refine⟨fn,_,assign,body,hy,roundIn_of_wpIn hfn (wpIn_mono (pI (w.heap.size+1) pre x W rfl hlt hpre hs hi) ?_)⟩
     clear hy
     rintro e a' Wa hq
     cases e with
     | normal =>
      obtain⟨hka,hbody⟩:=hq
      have hla:=(hka.block _ (by omega) (.inr (.inr rfl))).trans hl
      have hda:=(hka.block _ (by omega) (.inr (.inl rfl))).trans hk
      have af7:w.heap.size+1<Wa.heap.size:=(aF hla)
      refine⟨_,run_beginRound hla (by rw[hrec]),?_⟩
      have hl2:(Wa.putObj (w.heap.size+1) (.loop { rec .ready none with state:=.busy })).heap[w.heap.size+1]? = some (.loop { rec .ready none with state:=.busy }):=World.putObj_heap_same af7
      have hd2:(Wa.putObj (w.heap.size+1) (.loop { rec .ready none with state:=.busy })).heap[w.heap.size]? = some (.deferred (some [])):=(World.putObj_heap_other (by omega)).trans hda
      have hkw:Kept (fun k=>k≠w.heap.size+1) Wa (Wa.putObj (w.heap.size+1) (.loop { rec .ready none with state:=.busy })):=(Kept.refl _ _).putObj (.inl (fun h=>h rfl)) _
      generalize hW2:Wa.putObj (w.heap.size+1) (.loop { rec .ready none with state:=.busy })=W2 at hl2 hd2 hkw
      have hs2:Kept S w W2:=by
       refine hs.trans ((hka.mono fun k _ h=>.inl h).trans (hkw.mono fun k _ h=>?_))
       have:=hS k h;omega
      have af6:Kept S W W2:=(hka.mono fun k _ h=>.inl h).trans (hkw.mono fun k _ h=>by have:=hS k h;omega)
      refine wpIn_mono (hbody W2 hkw (by rw[<- hW2];exact World.putObj_size)) ?_
      rintro e a3 W3 hp
      cases e with
      | normal =>
       obtain⟨hk3,hi3⟩:=hp
       have hl3:=(hk3.block _ (aF hl2) (.inr (.inr rfl))).trans hl2
       have hd3:=(hk3.block _ (aF hd2) (.inr (.inl rfl))).trans hd2
       have hr:=run_endRound (P:=P) none hl3
       rw[hrec] at hr
       refine⟨_,_,hr,.inl ⟨rfl,⟨hI _ _ _ hi3 ((Kept.refl _ _).putObj (.inl fun h=>h.2 rfl) _),?_,(World.putObj_heap_other (by omega)).trans hd3,(hs2.trans (hk3.mono fun k _ h=>.inl h)).putObj (.inr (by omega)) _⟩,?_⟩⟩
       . rw[hrec];exact World.putObj_heap_same (aF hl3)
       . refine(af6.trans (hk3.mono fun k _ h=>.inl h)).putObj (.inl fun h=>?_) _
         have:=hS _ h;omega
      | ret=>exact hp.elim
      | exit id=>exact hp.elim
      | goto t=>exact hp.elim
      | panic ch=>exact hp.elim
      | outgrown=>exact hp.elim
     | exit id=>exact hq.elim
     | goto l=>exact hq.elim
     | ret=>exact hq.elim
     | panic ch=>exact hq.elim
     | outgrown=>exact hq.elim
   . -- BEHIND THE ITERATOR
     rintro e W2 (⟨⟨v,rfl⟩,(⟨hi,hl,hk,hs⟩|h)⟩|⟨c,rfl,h⟩)
     . exact⟨none,_,by have:=run_endLoop (P:=P) hl (by rw[hrec];simp);rw[hrec] at this;exact this,hdone _ _ (Nat.le_refl _) (hI _ _ _ hi ((Kept.refl _ _).putObj (.inl fun h=>h.2 rfl) _)) (hs.putObj (.inr (by omega)) _) ((World.putObj_heap_other (by omega)).trans hk)⟩
     . exact h.elim
     . exact h.elim
end Go.Sd
namespace Go.Proofs.YtkjdidieiioijaaGreat.B
open Go.RowKit Go.Sd
def alh (D:Nat):Deferred:={ target:=.collected D,args:=#[] }
structure Marks (B:Nat)(Ds:List Nat)(w:World):Prop where
 nd:Ds.Nodup
 on:∀D,D ∈ Ds->B<=D/\w.heap[D]? = some (.deferred (some []))
theorem Marks.nil (B:Nat)(w:World):Marks B [] w:=⟨List.nodup_nil,fun D h=>by cases h⟩
theorem Marks.cons {B:Nat}{Ds:List Nat}{w w':World}{D:Nat}(h:Marks B Ds w)(hk:∀k,k ∈ Ds->w'.heap[k]? = w.heap[k]?)(hD:w.heap.size<=D)(hB:B<=w.heap.size)(hd:w'.heap[D]? = some (.deferred (some []))):Marks B (D :: Ds) w' :=
 ⟨List.nodup_cons.2 ⟨fun hm=>by have:=(Array.getElem?_eq_some_iff.1 (h.on D hm).2).1;omega,h.nd⟩,fun k hm=>by
  rcases List.mem_cons.1 hm with rfl|hm
  . exact⟨by omega,hd⟩
  . exact⟨(h.on k hm).1,(hk k hm).trans (h.on k hm).2⟩⟩
theorem Marks.mono {B:Nat}{Ds:List Nat}{w w':World}(h:Marks B Ds w)(hk:∀k,k ∈ Ds->w'.heap[k]? = w.heap[k]?):Marks B Ds w':=⟨h.nd,fun k hm=>⟨(h.on k hm).1,(hk k hm).trans (h.on k hm).2⟩⟩
theorem G_ {fn:Func}{tmps:Array Value}{R:Ending->World->Prop}{B:Nat} : ∀(Ds:List Nat)(w:World),Marks B Ds w->(∀w',Below B w w'->LeavesInM Fence.wide 0 Tryz.prog fn tmps R [] .returning w') ->
    LeavesInM Fence.wide 0 Tryz.prog fn tmps R (Ds.map alh) .returning w
 | [],w,_,h=>h w (Below.refl _ _)
 | D :: Ds,w,hm,h=>by
  have hD:=hm.on D (List.mem_cons_self ..)
  refine⟨by simp,.inl ⟨D,_,rfl,run_takeDeferred hD.2,G_ Ds _ ⟨(List.nodup_cons.1 hm.nd).2,fun k hk=>?_⟩ fun w' hb=>h w' ((dZ (Below.refl B w) hD.1 _).trans hb)⟩⟩
  refine⟨(hm.on k (List.mem_cons_of_mem _ hk)).1,(World.putObj_heap_other (fun e=>?_)).trans (hm.on k (List.mem_cons_of_mem _ hk)).2⟩
  subst e
  exact(List.nodup_cons.1 hm.nd).1 hk
