/- Walks. -/
import Derived.RegionTactic
import Derived.Test.YtkjdidieiioijaaGreatK14
set_option linter.all false
set_option maxRecDepth 100000
set_option maxHeartbeats 16000000
namespace Wl
structure Pa where
 (one other:Int)
 (Ac opn:Bool)
 (tested valid:Int)
 bad:Bool
 (test change:Int)
structure We where
 (aS need:Int)
 parts:List Pa
def cu (l:List Pa)(k:Nat):Pa:=l.getD k ⟨0,0,false,false,0,0,false,0,0⟩
def inB (x l h:Int):Bool:=decide (l<=x) && decide (x<=h)
theorem eP {x l h:Int} : inB x l h=true↔l<=x/\x<=h:=by simp[inB]
def paB (aS:Int)(p:Pa):Bool:=inB p.one 0 (aS - 1) && inB p.other 0 (aS - 1) && !(p.one == p.other) && (p.Ac || !p.opn) && inB p.tested 0 5000 && inB p.valid 0 5000 && inB p.test 1 1000 && inB p.change 1 1000
def We.ok (w:We):Bool:=inB w.aS 2 8 && inB w.need 0 12 && inB w.parts.length 1 12 && !(w.parts.any fun p=>!paB w.aS p)
structure We.Ok (w:We):Prop where
 aS:2<=w.aS/\w.aS<=8
 need:0<=w.need/\w.need<=12
 parts:1<=w.parts.length/\w.parts.length<=12
 ends:∀k,k<w.parts.length->0<=(cu w.parts k).one/\(cu w.parts k).one<w.aS/\0<=(cu w.parts k).other/\(cu w.parts k).other<w.aS/\(cu w.parts k).one≠(cu w.parts k).other /\
  0<=(cu w.parts k).tested/\(cu w.parts k).tested<=5000/\0<=(cu w.parts k).valid/\(cu w.parts k).valid<=5000
theorem We.agH {w:We}(h:w.ok=true):w.Ok:=by
 simp only[We.ok,Bool.and_eq_true,eP,Bool.not_eq_true',List.any_eq_false] at h
 obtain⟨⟨⟨h1,h2⟩,h3⟩,h4⟩:=h
 refine⟨h1,h2,by omega,fun k hk=>?_⟩
 have e:cu w.parts k=w.parts[k]:=by simp[cu,hk]
 have h5:=h4 _ (List.getElem_mem hk)
 rw[e]
 have h6:paB w.aS w.parts[k]=true:=by cases hh:paB w.aS w.parts[k] <;> simp[hh] at h5 ⊢
 simp only[paB,Bool.and_eq_true,eP,Bool.not_eq_true',beq_eq_false_iff_ne] at h6
 omega
end Wl
namespace Go.Proofs.YtkjdidieiioijaaGreat.B
open Go.RowKit Go.Sd Wl L
abbrev Qx (p:Pa):List Value:=[.int .i64 p.one,.int .i64 p.other,.bool p.Ac,.bool p.opn,.int .i64 p.tested,.int .i64 p.valid,.bool p.bad,.int .i64 p.test,.int .i64 p.change]
abbrev paV (p:Pa):Value:=.agg #[.int .i64 p.one,.int .i64 p.other,.bool p.Ac,.bool p.opn,.int .i64 p.tested,.int .i64 p.valid,.bool p.bad,.int .i64 p.test,.int .i64 p.change]
abbrev paO (p:Pa):Obj:=.cells #[.int .i64 p.one,.int .i64 p.other,.bool p.Ac,.bool p.opn,.int .i64 p.tested,.int .i64 p.valid,.bool p.bad,.int .i64 p.test,.int .i64 p.change] 160
abbrev mY (w:World)(v:Value)(xs:List Pa):Prop:=gG 9 Qx ⟨0,0,false,false,0,0,false,0,0⟩ w v xs
theorem boxedB {w W:World}{o:Obj}(h:w.alloc o=W):W.heap[w.heap.size]? = some o/\Below w.heap.size w W/\w.heap.size<W.heap.size:=by
 subst h
 exact⟨World.alloc_heap_new w o,(Below.refl _ _).alloc (Nat.le_refl _) _,by simp⟩
theorem ZR {w:World}{n:Nat}{a0 a1 a2 a3 a4 a5 a6 a7 a8:Value}{e:TypeId}(h:w.heap[n]? = some (.cells #[a0,a1,a2,a3,a4,a5,a6,a7,a8] e (0,0))):w.cell? ⟨n,0,none⟩=some a0/\w.cell? ⟨n,1,none⟩=some a1/\w.cell? ⟨n,2,none⟩=some a2/\w.cell? ⟨n,3,none⟩=some a3/\w.cell? ⟨n,4,none⟩=some a4/\w.cell? ⟨n,5,none⟩=some a5/\w.cell? ⟨n,6,none⟩=some a6/\w.cell? ⟨n,7,none⟩=some a7/\w.cell? ⟨n,8,none⟩=some a8:=by
 have r:=(ah h).2.1
 exact⟨r 0,r 1,r 2,r 3,r 4,r 5,r 6,r 7,r 8⟩
theorem acb {l:List Pa}{j:Nat}(h:j<l.length):cu l j=l[j]:=by simp[cu,h]
theorem af' (v:Value)(l:List Pa)(p:Pa->Bool)(nf:Nat)(nb:Array Value)(w:World)(hv:mY w v l)(en:∀args w,(callFunc nf args).run Tryz.prog w=.ok (.enter nf args) w)
    (hp:∀d,d ∈ l->∀X,Below w.heap.size w X->Calls Tryz.prog nf (#[paV d] ++ nb) X (dI (.bool (p d)) X)) :
    Calls Tryz.prog 188 #[v,.func (.func nf) #[] nb] w (Jr (l.any p) w):=by
 obtain⟨a,cap,rfl,hm,hc⟩:=hv.form
 clear hv
 replace hp:=ai hp
 go_enter Tryz.func188,Tryz.ntmps188
 go_wp2_with (fail)
 have hg:=az w
 go_loopw [8] (fun i wr=>∃k:Nat,k<=l.length/\i=.int .i64 k/\Hid (∀j (hj:j<l.length),j<k->p l[j]=false)/\∃g:Grow w,wr=g.x) (fun i _=>l.length - (intOf i).toNat)
 case atStart=>exact⟨0,by omega,rfl,(fun j _ h=>by omega:∀j (hj:j<l.length),j<0->p l[j]=false),Grow.self w,rfl⟩
 case round =>
  obtain⟨k,hk,rfl,hH,g,rfl⟩:=hrel
  by_cases hlt:k<l.length
  . obtain⟨b,off,rfl,hbl,hx⟩:=hc (by omega)
    have c0:w.cell? ⟨b,off+k*9,none⟩=some (.int .i64 (cu l k).one):=hx k 0 _ hlt rfl
    have c1:w.cell? ⟨b,off+k*9+1,none⟩=some (.int .i64 (cu l k).other):=hx k 1 _ hlt rfl
    have c2:w.cell? ⟨b,off+k*9+2,none⟩=some (.bool (cu l k).Ac):=hx k 2 _ hlt rfl
    have c3:w.cell? ⟨b,off+k*9+3,none⟩=some (.bool (cu l k).opn):=hx k 3 _ hlt rfl
    have c4:w.cell? ⟨b,off+k*9+4,none⟩=some (.int .i64 (cu l k).tested):=hx k 4 _ hlt rfl
    have c5:w.cell? ⟨b,off+k*9+5,none⟩=some (.int .i64 (cu l k).valid):=hx k 5 _ hlt rfl
    have c6:w.cell? ⟨b,off+k*9+6,none⟩=some (.bool (cu l k).bad):=hx k 6 _ hlt rfl
    have c7:w.cell? ⟨b,off+k*9+7,none⟩=some (.int .i64 (cu l k).test):=hx k 7 _ hlt rfl
    have c8:w.cell? ⟨b,off+k*9+8,none⟩=some (.int .i64 (cu l k).change):=hx k 8 _ hlt rfl
    have hki:(0:Int)<=(k:Int)/\(k:Int)<l.length:=by omega
    have hcall:=hp.out (cu l k) (by rw[acb hlt];exact List.getElem_mem hlt) g.x g.h
    rw[acb hlt] at c0 c1 c2 c3 c4 c5 c6 c7 c8 hcall
    clear hx hc
    cases ht:p l[k]
    . rw[ht] at hcall
      have hH':Hid (∀j (hj:j<l.length),j<k+1->p l[j]=false):=fun j hj hjk=>by
       rcases Nat.lt_succ_iff_lt_or_eq.1 hjk with h|rfl
       . exact hH.out j hj h
       . exact ht
      replace ht:=ai ht
      replace hcall:=ai hcall
      go_wp2_with ((with_reducible refine ax hcall.out ?_);rintro e w' ⟨rfl,hb'⟩;obtain⟨g1,rfl⟩:=g.next hb')
      exact⟨⟨k+1,by omega,by go_num,hH',g1,rfl⟩,by simp[intOf];omega⟩
    . rw[ht] at hcall
      have hany:=ai (any_some hlt ht)
      replace ht:=ai ht
      replace hcall:=ai hcall
      go_wp2_with ((with_reducible refine ax hcall.out ?_);rintro e w' ⟨rfl,hb'⟩;obtain⟨g1,rfl⟩:=g.next hb')
      go_ret
      exact⟨k,rfl,⟨fun _=>by omega,fun _=>hany.out⟩,g1.h⟩
  . have hany:=ai (any_none fun j hj=>hH.out j hj (by omega))
    go_wp2_with (fail)
    go_ret
    exact⟨-1,rfl,⟨(fun h=>by rw[hany.out] at h;cases h),(fun h=>by omega)⟩,g.h⟩
theorem Ws (v:Value)(l:List Pa)(p:Pa->Bool)(nf:Nat)(nb:Array Value)(w:World)(hv:mY w v l)(en:∀args w,(callFunc nf args).run Tryz.prog w=.ok (.enter nf args) w)
    (hp:∀d,d ∈ l->∀X,Below w.heap.size w X->Calls Tryz.prog nf (#[paV d] ++ nb) X (dI (.bool (p d)) X)) :
    Calls Tryz.prog 162 #[v,.func (.func nf) #[] nb] w (aB (l.any p) w):=by
 have hc:=ai (af' v l p nf nb w hv en hp)
 obtain⟨a,cap,rfl,-,-⟩:=hv
 clear hp
 cases ht:l.any p
 all_goals
  replace ht:=ai ht
  go_enter Tryz.func162,Tryz.ntmps162
  go_wp2_with (go_at_call 188;refine ax hc.out ?_;rintro e w' ⟨n,rfl,hn,hb⟩;rw[ht.out] at hn;have hn':Hid (_↔(0:Int)<=n):=hn;clear hn)
  go_ret
  refine⟨_,rfl,?_,hb⟩
  have:=hn'.out
  simp at this
  show _=_
  simp[this]
theorem ah1 (a b c:Int)(w:World):Calls Tryz.prog 108 #[.int .i64 a,.int .i64 b,.int .i64 c] w (iM (Wl.inB a b c) w):=by
 by_cases h:b<=a
 . go_enter Tryz.func108,Tryz.ntmps108
   go_wp2
   go_ret
   exact⟨_,rfl,ai (by unfold Wl.inB;simp[h] <;> omega),rfl⟩
 . go_enter Tryz.func108,Tryz.ntmps108
   go_wp2
   go_ret
   exact⟨_,rfl,ai (by unfold Wl.inB;simp[h] <;> omega),rfl⟩
theorem I8 (p:Pa)(aS:Int)(w:World)(hr : -1000<=aS/\aS<=1000):Calls Tryz.prog 164 #[paV p,.int .i64 aS] w (aB (paB aS p) w):=by
 obtain⟨W,hW⟩:=aG (w.alloc (paO p))
 obtain⟨e,bW,z⟩:=boxedB hW
 obtain⟨c0,c1,c2,c3,c4,c5,c6,c7,c8⟩:=ZR e
 obtain⟨one,other,Ac,opn,tested,valid,bad,test,change⟩:=p
 simp only at c0 c1 c2 c3 c4 c5 c6 c7 c8
 have hw:IntKind.i64.wrap (aS - 1)=aS - 1:=IntWalk.i64_in _ (by omega)
 clear e hr
 cases Ac <;> cases opn <;> by_cases ho:one=other <;> try subst ho
 all_goals
  go_enter Tryz.func164,Tryz.ntmps164
  go_wp2_with (go_at_call 108;refine ax (ah1 _ _ _ _) ?_;rintro e w1 ⟨(_|_),rfl,ht,rfl⟩)
  all_goals
   go_ret
   exact aB.mk (by unfold Hid at *;simp[paB,bne, *]) bW
end Go.Proofs.YtkjdidieiioijaaGreat.B
namespace Go.Proofs.YtkjdidieiioijaaGreat.L
open Go.RowKit Go.Sd Lk
abbrev iV (n:Int):Value:=.int .i64 n
theorem YG {l:List Int}{j:Nat}(h:j<l.length):at0 l j=l[j]:=by simp[at0,h]
theorem ado (v:Value)(l:List Int)(p:Int->Bool)(nf:Nat)(nb:Array Value)(w:World)(hv:bK w v l)(en:∀args w,(callFunc nf args).run Tryz.prog w=.ok (.enter nf args) w)
    (hp:∀d,d ∈ l->∀X,Below w.heap.size w X->Calls Tryz.prog nf (#[iV d] ++ nb) X (dI (.bool (p d)) X)) :
    Calls Tryz.prog 187 #[v,.func (.func nf) #[] nb] w (Jr (l.any p) w):=by
 obtain⟨a,cap,rfl,hm,hc⟩:=hv.form
 clear hv
 replace hp:=ai hp
 go_enter Tryz.func187,Tryz.ntmps187
 go_wp2_with (fail)
 have hg:=az w
 go_loopw [8] (fun i wr=>∃k:Nat,k<=l.length/\i=.int .i64 k/\Hid (∀j (hj:j<l.length),j<k->p l[j]=false)/\∃g:Grow w,wr=g.x) (fun i _=>l.length - (intOf i).toNat)
 case atStart=>exact⟨0,by omega,rfl,(fun j _ h=>by omega:∀j (hj:j<l.length),j<0->p l[j]=false),Grow.self w,rfl⟩
 case round =>
  obtain⟨k,hk,rfl,hH,g,rfl⟩:=hrel
  by_cases hlt:k<l.length
  . obtain⟨b,off,rfl,hbl,hx⟩:=hc (by omega)
    have c0:w.cell? ⟨b,off+k,none⟩=some (.int .i64 (at0 l k)):=by have h:=hx k 0 (.int .i64 (at0 l k)) hlt rfl;rwa [Nat.mul_one,Nat.add_zero] at h
    have hki:(0:Int)<=(k:Int)/\(k:Int)<l.length:=by omega
    have hcall:=hp.out (at0 l k) (by rw[YG hlt];exact List.getElem_mem hlt) g.x g.h
    rw[YG hlt] at c0 hcall
    clear hx hc
    cases ht:p l[k]
    . rw[ht] at hcall
      have hH':Hid (∀j (hj:j<l.length),j<k+1->p l[j]=false):=fun j hj hjk=>by
       rcases Nat.lt_succ_iff_lt_or_eq.1 hjk with h|rfl
       . exact hH.out j hj h
       . exact ht
      replace ht:=ai ht
      replace hcall:=ai hcall
      go_wp2_with ((with_reducible refine ax hcall.out ?_);rintro e w' ⟨rfl,hb'⟩;obtain⟨g1,rfl⟩:=g.next hb')
      exact⟨⟨k+1,by omega,by go_num,hH',g1,rfl⟩,by simp[intOf];omega⟩
    . rw[ht] at hcall
      have hany:=ai (any_some hlt ht)
      replace ht:=ai ht
      replace hcall:=ai hcall
      go_wp2_with ((with_reducible refine ax hcall.out ?_);rintro e w' ⟨rfl,hb'⟩;obtain⟨g1,rfl⟩:=g.next hb')
      go_ret
      exact⟨k,rfl,⟨fun _=>by omega,fun _=>hany.out⟩,g1.h⟩
  . have hany:=ai (any_none fun j hj=>hH.out j hj (by omega))
    go_wp2_with (fail)
    go_ret
    exact⟨-1,rfl,⟨(fun h=>by rw[hany.out] at h;cases h),(fun h=>by omega)⟩,g.h⟩
theorem yS (v:Value)(l:List Int)(p:Int->Bool)(nf:Nat)(nb:Array Value)(w:World)(hv:bK w v l)(en:∀args w,(callFunc nf args).run Tryz.prog w=.ok (.enter nf args) w)
    (hp:∀d,d ∈ l->∀X,Below w.heap.size w X->Calls Tryz.prog nf (#[iV d] ++ nb) X (dI (.bool (p d)) X)) :
    Calls Tryz.prog 155 #[v,.func (.func nf) #[] nb] w (aB (l.any p) w):=by
 have hc:=ai (ado v l p nf nb w hv en hp)
 obtain⟨a,cap,rfl,-,-⟩:=hv
 clear hp
 cases ht:l.any p
 all_goals
  replace ht:=ai ht
  go_enter Tryz.func155,Tryz.ntmps155
  go_wp2_with (go_at_call 187;refine ax hc.out ?_;rintro e w' ⟨n,rfl,hn,hb⟩;rw[ht.out] at hn;have hn':Hid (_↔(0:Int)<=n):=hn;clear hn)
  go_ret
  refine⟨_,rfl,?_,hb⟩
  have:=hn'.out
  simp at this
  show _=_
  simp[this]
end Go.Proofs.YtkjdidieiioijaaGreat.L
namespace Bk
open Wl
structure Rt where
 (fill iq out:Int)
structure pY where
 AA:Bool
 (space lo hi:Int)
 aC:List Rt
 (NJ fixed iq out cut lack:Int)
def dD (l:List Rt)(k:Nat):Rt:=l.getD k ⟨0,0,0⟩
def Xo (n:Int):Bool:=inB n 0 47
def pG (lo hi:Int):Bool:=Xo lo && Xo hi && decide (lo<=hi)
def kX (n:Int):Bool:=inB n 0 10000
def AU (n:Int):Bool:=inB n 0 100000000
def qi (n:Int):Bool:=inB n 0 800000000
def Gz (l:List Rt)(k:Nat):Bool :=
 inB (dD l k).fill 0 1000 && AU (dD l k).iq && AU (dD l k).out &&
  (if k=0 then decide ((dD l k).fill=0) else decide ((dD l (k - 1)).fill<(dD l k).fill) && decide ((dD l k).iq<=(dD l (k - 1)).iq) && decide ((dD l (k - 1)).out<=(dD l k).out))
def nH (c:pY):Bool:=kX c.fixed && kX c.iq && kX c.out && kX c.cut && kX c.lack
def headB (c:pY):Bool:=inB c.space 1 100000000 && pG c.lo c.hi && inB c.aC.length 1 6 && inB c.NJ 0 c.space && nH c
def pY.ok (c:pY):Bool:=headB c && (List.range c.aC.length).all (Gz c.aC)
def nD (c:pY)(h:Int):Bool:=inB h c.lo c.hi
end Bk
namespace Go.Proofs.YtkjdidieiioijaaGreat.B
open Go.RowKit Go.Sd Wl Bk L
attribute [local go_sem] Oper.semAt_some
abbrev ZT (p:Rt):List Value:=[.int .i64 p.fill,.int .i64 p.iq,.int .i64 p.out]
abbrev rtO (p:Rt):Obj:=.cells #[.int .i64 p.fill,.int .i64 p.iq,.int .i64 p.out] 217
abbrev uC (w:World)(v:Value)(xs:List Rt):Prop:=gG 3 ZT ⟨0,0,0⟩ w v xs
abbrev YR (rv:Value)(c:pY):Value:=.agg #[.bool c.AA,.int .i64 c.space,.int .i64 c.lo,.int .i64 c.hi,rv,.int .i64 c.NJ,.int .i64 c.fixed,.int .i64 c.iq,.int .i64 c.out,.int .i64 c.cut,.int .i64 c.lack]
abbrev Wi (rv:Value)(c:pY):Obj:=.cells #[.bool c.AA,.int .i64 c.space,.int .i64 c.lo,.int .i64 c.hi,rv,.int .i64 c.NJ,.int .i64 c.fixed,.int .i64 c.iq,.int .i64 c.out,.int .i64 c.cut,.int .i64 c.lack] 92
theorem adm (a b c:Int)(w:World):Calls Tryz.prog 120 #[.int .i64 a,.int .i64 b,.int .i64 c] w (iM (inB a b c) w):=by
 by_cases h:b<=a
 . go_enter Tryz.func120,Tryz.ntmps120
   go_wp2
   go_ret
   exact⟨_,rfl,ai (by unfold Wl.inB;simp[h] <;> omega),rfl⟩
 . go_enter Tryz.func120,Tryz.ntmps120
   go_wp2
   go_ret
   exact⟨_,rfl,ai (by unfold Wl.inB;simp[h] <;> omega),rfl⟩
theorem Uy (a b c:Int)(w:World):Calls Tryz.prog 144 #[.int .i64 a,.int .i64 b,.int .i64 c] w (iM (inB a b c) w):=by
 by_cases h:b<=a
 . go_enter Tryz.func144,Tryz.ntmps144
   go_wp2
   go_ret
   exact⟨_,rfl,ai (by unfold Wl.inB;simp[h] <;> omega),rfl⟩
 . go_enter Tryz.func144,Tryz.ntmps144
   go_wp2
   go_ret
   exact⟨_,rfl,ai (by unfold Wl.inB;simp[h] <;> omega),rfl⟩
theorem iI {a b c:Int}{t:Bool}(h:inB a b c=t)(w:World):Calls Tryz.prog 144 #[.int .i64 a,.int .i64 b,.int .i64 c] w fun e w'=>e=.returned (.bool t)/\w=w' :=
 (Uy a b c w).mono fun e w' ⟨t',he,ht,hw⟩=>⟨by rw[he,<- ht.out,h],hw⟩
theorem jK {a b c:Int}{t:Bool}(h:inB a b c=t)(w:World):Calls Tryz.prog 120 #[.int .i64 a,.int .i64 b,.int .i64 c] w fun e w'=>e=.returned (.bool t)/\w=w' :=
 (adm a b c w).mono fun e w' ⟨t',he,ht,hw⟩=>⟨by rw[he,<- ht.out,h],hw⟩
theorem ajU (n:Int)(w:World):Calls Tryz.prog 197 #[.int .i64 n] w (iM (kX n) w):=by
 have k:=ai (adm n 0 10000 w)
 go_enter Tryz.func197,Tryz.ntmps197
 go_wp2_with (go_at_call 120;(with_reducible refine ax k.out ?_);rintro e w' ⟨t,rfl,ht,rfl⟩)
 go_ret
 exact⟨_,rfl,ht,rfl⟩
theorem ajh (n:Int)(w:World):Calls Tryz.prog 198 #[.int .i64 n] w (iM (AU n) w):=by
 have k:=ai (adm n 0 100000000 w)
 go_enter Tryz.func198,Tryz.ntmps198
 go_wp2_with (go_at_call 120;(with_reducible refine ax k.out ?_);rintro e w' ⟨t,rfl,ht,rfl⟩)
 go_ret
 exact⟨_,rfl,ht,rfl⟩
theorem anp (n:Int)(w:World):Calls Tryz.prog 119 #[.int .i64 n] w (iM (qi n) w):=by
 have k:=ai (adm n 0 800000000 w)
 go_enter Tryz.func119,Tryz.ntmps119
 go_wp2_with (go_at_call 120;(with_reducible refine ax k.out ?_);rintro e w' ⟨t,rfl,ht,rfl⟩)
 go_ret
 exact⟨_,rfl,ht,rfl⟩
theorem amH (n:Int)(w:World):Calls Tryz.prog 207 #[.int .i64 n] w (iM (Xo n) w):=by
 have k:=ai (adm n 0 47 w)
 go_enter Tryz.func207,Tryz.ntmps207
 go_wp2_with (go_at_call 120;(with_reducible refine ax k.out ?_);rintro e w' ⟨t,rfl,ht,rfl⟩)
 go_ret
 exact⟨_,rfl,ht,rfl⟩
theorem aqG {w:World}{n:Nat}{a0 a1:Value}{e:TypeId}(h:w.heap[n]? = some (.cells #[a0,a1] e (0,0))):w.cell? ⟨n,0,none⟩=some a0/\w.cell? ⟨n,1,none⟩=some a1:=by
 have r:=(ah h).2.1
 exact⟨r 0,r 1⟩
theorem ai_ (lo hi:Int)(w:World):Calls Tryz.prog 196 #[.agg #[.int .i64 lo,.int .i64 hi]] w (aB (pG lo hi) w):=by
 obtain⟨W,hW⟩:=aG (w.alloc (.cells #[.int .i64 lo,.int .i64 hi] 35))
 obtain⟨e,bW,z⟩:=boxedB hW
 obtain⟨c0,c1⟩:=aqG e
 clear e
 by_cases h:lo<=hi
 all_goals
  go_enter Tryz.func196,Tryz.ntmps196
  go_wp2_with (go_at_call 207;refine ax (amH _ _) ?_;rintro e w1 ⟨(_|_),rfl,ht,rfl⟩)
  all_goals
   go_ret
   exact aB.mk (by unfold Hid at *;simp[pG, *]) bW
theorem acU (lo hi:Int)(w:World):Calls Tryz.prog 180 #[.agg #[.int .i64 lo,.int .i64 hi]] w (aB (pG lo hi) w):=by
 obtain⟨W,hW⟩:=aG (w.alloc (.cells #[.int .i64 lo,.int .i64 hi] 35))
 obtain⟨e,bW,z⟩:=boxedB hW
 obtain⟨c0,c1⟩:=aqG e
 have hB:=ai bW
 have hv:Hid (pG lo hi=(decide (0<=lo) && decide (lo<=hi) && decide (hi<48))):=ai (by
  rw[Bool.eq_iff_iff]
  unfold pG Xo inB
  simp
  omega)
 clear e bW
 by_cases h0:0<=lo
 . by_cases h:lo<=hi
   . by_cases h2:hi<48
     . have h3:Hid (pG lo hi=true):=ai (by rw[hv.out];simp[h0,h,h2])
       go_enter Tryz.func180,Tryz.ntmps180
       go_wp2
       go_ret
       exact⟨_,rfl,by first|exact h3|(simp;exact h3),hB.out⟩
     . have h3:Hid (pG lo hi=false):=ai (by rw[hv.out];simp[h0,h,h2])
       have h2':48<=hi:=by omega
       go_enter Tryz.func180,Tryz.ntmps180
       go_wp2
       go_ret
       exact⟨_,rfl,by first|exact h3|(simp;exact h3),hB.out⟩
   . have h3:Hid (pG lo hi=false):=ai (by rw[hv.out];simp[h])
     have h':hi<lo:=by omega
     go_enter Tryz.func180,Tryz.ntmps180
     go_wp2
     go_ret
     exact⟨_,rfl,h3,hB.out⟩
 . have h3:Hid (pG lo hi=false):=ai (by rw[hv.out];simp[h0])
   have h':lo<0:=by omega
   go_enter Tryz.func180,Tryz.ntmps180
   go_wp2
   go_ret
   exact⟨_,rfl,h3,hB.out⟩
theorem anC (n:Int)(w:World):Calls Tryz.prog 203 #[.int .i64 n] w (dI (.bool (!kX n)) w):=by
 have k:=ai (Uy n 0 10000 w)
 go_enter Tryz.func203,Tryz.ntmps203
 go_wp2_with (go_at_call 144;(with_reducible refine ax k.out ?_);rintro e w' ⟨t,rfl,ht,rfl⟩)
 go_ret
 exact⟨by rw[<- ht.out];rfl,Below.refl _ _⟩
theorem amm (n:Int)(w:World):Calls Tryz.prog 178 #[.int .i64 n] w (dI (.bool (!qi n)) w):=by
 have k:=ai (Uy n 0 800000000 w)
 go_enter Tryz.func178,Tryz.ntmps178
 go_wp2_with (go_at_call 144;(with_reducible refine ax k.out ?_);rintro e w' ⟨t,rfl,ht,rfl⟩)
 go_ret
 exact⟨by rw[<- ht.out];rfl,Below.refl _ _⟩
theorem YL (v:Value)(l:List Int)(w:World)(hv:bK w v l):Calls Tryz.prog 181 #[v] w (aB (l.all kX) w):=by
 have k:=ai (yS v l (fun n=>!kX n) 203 #[] w hv (fun args w=>by kernel_rfl) fun d _ X _=>anC d X)
 obtain⟨a,cap,rfl,-,-⟩:=hv
 have he:(l.any fun n=>!kX n) = !l.all kX:=by simp[List.any_eq_not_all_not]
 rw[he] at k
 clear he
 go_enter Tryz.func181,Tryz.ntmps181
 go_wp2_with (go_at_call 155;(with_reducible refine ax k.out ?_);rintro e w' ⟨t,rfl,ht,hB⟩)
 go_ret
 exact aB.mk (by rw[<- ht.out];simp) hB
theorem acT (v:Value)(l:List Int)(w:World)(hv:bK w v l):Calls Tryz.prog 143 #[v] w (aB (l.all qi) w):=by
 have k:=ai (yS v l (fun n=>!qi n) 178 #[] w hv (fun args w=>by kernel_rfl) fun d _ X _=>amm d X)
 obtain⟨a,cap,rfl,-,-⟩:=hv
 have he:(l.any fun n=>!qi n) = !l.all qi:=by simp[List.any_eq_not_all_not]
 rw[he] at k
 clear he
 go_enter Tryz.func143,Tryz.ntmps143
 go_wp2_with (go_at_call 155;(with_reducible refine ax k.out ?_);rintro e w' ⟨t,rfl,ht,hB⟩)
 go_ret
 exact aB.mk (by rw[<- ht.out];simp) hB
end Go.Proofs.YtkjdidieiioijaaGreat.B
namespace Tr
open Wl
structure Se where
 (least most:Int)
 byp:Bool
structure Vt where
 aO:List Int
 (need level:Int)
 above:Bool
structure Wn where
 jO:Int
 is:Bool
structure Mv where
 (src dst:Int)
 wants:List Wn
 (cmd after:Int)
abbrev VV:=Go.Value × Vt
abbrev MV:=Go.Value × Mv
structure iY where
 aO:List Se
 aA:List VV
 moves:List MV
 (states cmds begin:Int)
 opn:List Int
def nz (l:List Se)(k:Nat):Se:=l.getD k ⟨0,0,false⟩
def lN (l:List Wn)(k:Nat):Wn:=l.getD k ⟨0,false⟩
def gZ (l:List VV)(k:Nat):VV:=l.getD k (.slice none 0 0,⟨[],0,0,false⟩)
def jc (l:List MV)(k:Nat):MV:=l.getD k (.slice none 0 0,⟨0,0,[],0,0⟩)
def VH (n:Int):Bool:=inB n (-10000) 10000
def seB (s:Se):Bool:=VH s.least && VH s.most && decide (s.least<=s.most)
def yD (l:List Int)(below:Int)(i:Nat):Bool:=inB (Lk.at0 l i) 0 (below - 1) && (decide (i=0) || decide (Lk.at0 l (i - 1)<Lk.at0 l i))
def U8 (l:List Int)(below:Int):Bool:=(List.range l.length).all (yD l below)
def RN (n:Int)(v:Vt):Bool:=U8 v.aO n && inB v.need 1 v.aO.length && VH v.level
def RP (n:Int)(l:List Wn)(i:Nat):Bool:=inB (lN l i).jO 0 (n - 1) && !((l.take i).any fun o=>decide (o.jO=(lN l i).jO))
def wnB (n:Int)(l:List Wn):Bool:=(List.range l.length).all (RP n l)
def Ai (n states cmds:Int)(x:Mv):Bool:=wnB n x.wants && (inB x.src 0 (states - 1) && inB x.dst 0 (states - 1) && decide (x.wants.length<=6) && inB x.cmd (-1) (cmds - 1) && inB x.after 0 10)
def iY.headB (m:iY):Bool:=decide (m.aO.length<=6) && decide (m.aA.length<=6) && decide (m.moves.length<=20) && inB m.states 1 8 && inB m.cmds 0 4 && inB m.begin 0 (m.states - 1) && decide ((m.opn.length:Int)=m.states)
def iY.TY (m:iY):Bool:=(List.range m.aO.length).all fun k=>seB (nz m.aO k)
def iY.JU (m:iY):Bool:=(List.range m.aA.length).all fun k=>RN m.aO.length (gZ m.aA k).2
def iY.Qr (m:iY):Bool:=!(m.moves.any fun x=>!Ai m.aA.length m.states m.cmds x.2)
def iY.agN (m:iY):Bool:=!(m.opn.any fun n=>!inB n 0 255)
def iY.ok (m:iY):Bool:=m.headB && m.TY && m.JU && m.Qr && m.agN
end Tr
namespace Go.Proofs.YtkjdidieiioijaaGreat.B
open Go.RowKit Go.Sd Wl Bk L Tr
attribute [local go_sem] Oper.semAt_some
abbrev Nz (p:Se):List Value:=[.int .i64 p.least,.int .i64 p.most,.bool p.byp]
abbrev RQ (p:Wn):List Value:=[.int .i64 p.jO,.bool p.is]
abbrev wnV (p:Wn):Value:=.agg #[.int .i64 p.jO,.bool p.is]
abbrev zC (p:VV):List Value:=[p.1,.int .i64 p.2.need,.int .i64 p.2.level,.bool p.2.above]
abbrev vtV (v:Value)(p:Vt):Value:=.agg #[v,.int .i64 p.need,.int .i64 p.level,.bool p.above]
abbrev vtO (v:Value)(p:Vt):Obj:=.cells #[v,.int .i64 p.need,.int .i64 p.level,.bool p.above] 184
abbrev zh (p:MV):List Value:=[.int .i64 p.2.src,.int .i64 p.2.dst,p.1,.int .i64 p.2.cmd,.int .i64 p.2.after]
abbrev mvV (v:Value)(p:Mv):Value:=.agg #[.int .i64 p.src,.int .i64 p.dst,v,.int .i64 p.cmd,.int .i64 p.after]
abbrev anq (p:MV):Value:=mvV p.1 p.2
abbrev mvO (v:Value)(p:Mv):Obj:=.cells #[.int .i64 p.src,.int .i64 p.dst,v,.int .i64 p.cmd,.int .i64 p.after] 187
abbrev V4 (w:World)(v:Value)(xs:List Se):Prop:=gG 3 Nz ⟨0,0,false⟩ w v xs
abbrev uD (w:World)(v:Value)(xs:List Wn):Prop:=gG 2 RQ ⟨0,false⟩ w v xs
abbrev Sj (w:World)(v:Value)(xs:List MV):Prop:=gG 5 zh (.slice none 0 0,⟨0,0,[],0,0⟩) w v xs
structure PQ (w:World)(v:Value)(xs:List VV):Prop where
 els:gG 4 zC (.slice none 0 0,⟨[],0,0,false⟩) w v xs
 ins:∀k,k<xs.length->bK w (gZ xs k).1 (gZ xs k).2.aO
def PH (v:Value):Prop:=∀a n c,v=.slice a n c->n<=c
structure Si (w:World)(v:Value)(xs:List MV):Prop where
 els:Sj w v xs
 ins:∀k,k<xs.length->uD w (jc xs k).1 (jc xs k).2.wants
 cap:∀k,k<xs.length->PH (jc xs k).1
theorem PQ.mono {w w':World}{v:Value}{xs:List VV}(h:PQ w v xs)(hb:Below w.heap.size w w'):PQ w' v xs:=⟨h.els.mono hb,fun k hk=>(h.ins k hk).mono hb⟩
theorem Si.mono {w w':World}{v:Value}{xs:List MV}(h:Si w v xs)(hb:Below w.heap.size w w'):Si w' v xs:=⟨h.els.mono hb,fun k hk=>(h.ins k hk).mono hb,h.cap⟩
abbrev JG (s v x o:Value)(m:iY):Value:=.agg #[s,v,x,.int .i64 m.states,.int .i64 m.cmds,.int .i64 m.begin,o]
abbrev Nq (s v x o:Value)(m:iY):Obj:=.cells #[s,v,x,.int .i64 m.states,.int .i64 m.cmds,.int .i64 m.begin,o] 52
structure Aq (w:World)(s v x o:Value)(m:iY):Prop where
 aO:V4 w s m.aO
 aA:PQ w v m.aA
 moves:Si w x m.moves
 opn:bK w o m.opn
theorem Aq.mono {w w':World}{s v x o:Value}{m:iY}(h:Aq w s v x o m)(hb:Below w.heap.size w w'):Aq w' s v x o m:=⟨h.aO.mono hb,h.aA.mono hb,h.moves.mono hb,h.opn.mono hb⟩
theorem akA {l:List VV}{j:Nat}(h:j<l.length):gZ l j=l[j]:=by simp[gZ,h]
theorem Jf {w:World}{n:Nat}{a0 a1 a2 a3 a4 a5 a6:Value}{e:TypeId}(h:w.heap[n]? = some (.cells #[a0,a1,a2,a3,a4,a5,a6] e (0,0))):w.cell? ⟨n,0,none⟩=some a0/\w.cell? ⟨n,1,none⟩=some a1/\w.cell? ⟨n,2,none⟩=some a2/\w.cell? ⟨n,3,none⟩=some a3/\w.cell? ⟨n,4,none⟩=some a4/\w.cell? ⟨n,5,none⟩=some a5/\w.cell? ⟨n,6,none⟩=some a6:=by
 have r:=(ah h).2.1
 exact⟨r 0,r 1,r 2,r 3,r 4,r 5,r 6⟩
theorem PE {l:List Wn}{j:Nat}(h:j<l.length):lN l j=l[j]:=by simp[lN,h]
theorem aga (v:Value)(l:List Wn)(p:Wn->Bool)(nf:Nat)(nb:Array Value)(w:World)(hv:uD w v l)(en:∀args w,(callFunc nf args).run Tryz.prog w=.ok (.enter nf args) w)
    (hp:∀d,d ∈ l->∀X,Below w.heap.size w X->Calls Tryz.prog nf (#[wnV d] ++ nb) X (dI (.bool (p d)) X)) :
    Calls Tryz.prog 205 #[v,.func (.func nf) #[] nb] w (Jr (l.any p) w):=by
 obtain⟨a,cap,rfl,hm,hc⟩:=hv.form
 clear hv
 replace hp:=ai hp
 go_enter Tryz.func205,Tryz.ntmps205
 go_wp2_with (fail)
 have hg:=az w
 go_loopw [8] (fun i wr=>∃k:Nat,k<=l.length/\i=.int .i64 k/\Hid (∀j (hj:j<l.length),j<k->p l[j]=false)/\∃g:Grow w,wr=g.x) (fun i _=>l.length - (intOf i).toNat)
 case atStart=>exact⟨0,by omega,rfl,(fun j _ h=>by omega:∀j (hj:j<l.length),j<0->p l[j]=false),Grow.self w,rfl⟩
 case round =>
  obtain⟨k,hk,rfl,hH,g,rfl⟩:=hrel
  by_cases hlt:k<l.length
  . obtain⟨b,off,rfl,hbl,hx⟩:=hc (by omega)
    have c0:w.cell? ⟨b,off+k*2,none⟩=some (.int .i64 (lN l k).jO):=hx k 0 _ hlt rfl
    have c1:w.cell? ⟨b,off+k*2+1,none⟩=some (.bool (lN l k).is):=hx k 1 _ hlt rfl
    have hki:(0:Int)<=(k:Int)/\(k:Int)<l.length:=by omega
    have hcall:=hp.out (lN l k) (by rw[PE hlt];exact List.getElem_mem hlt) g.x g.h
    rw[PE hlt] at c0 c1 hcall
    clear hx hc
    cases ht:p l[k]
    . rw[ht] at hcall
      have hH':Hid (∀j (hj:j<l.length),j<k+1->p l[j]=false):=fun j hj hjk=>by
       rcases Nat.lt_succ_iff_lt_or_eq.1 hjk with h|rfl
       . exact hH.out j hj h
       . exact ht
      replace ht:=ai ht
      replace hcall:=ai hcall
      go_wp2_with ((with_reducible refine ax hcall.out ?_);rintro e w' ⟨rfl,hb'⟩;obtain⟨g1,rfl⟩:=g.next hb')
      exact⟨⟨k+1,by omega,by go_num,hH',g1,rfl⟩,by simp[intOf];omega⟩
    . rw[ht] at hcall
      have hany:=ai (any_some hlt ht)
      replace ht:=ai ht
      replace hcall:=ai hcall
      go_wp2_with ((with_reducible refine ax hcall.out ?_);rintro e w' ⟨rfl,hb'⟩;obtain⟨g1,rfl⟩:=g.next hb')
      go_ret
      exact⟨k,rfl,⟨fun _=>by omega,fun _=>hany.out⟩,g1.h⟩
  . have hany:=ai (any_none fun j hj=>hH.out j hj (by omega))
    go_wp2_with (fail)
    go_ret
    exact⟨-1,rfl,⟨(fun h=>by rw[hany.out] at h;cases h),(fun h=>by omega)⟩,g.h⟩
theorem Wu (v:Value)(l:List Wn)(p:Wn->Bool)(nf:Nat)(nb:Array Value)(w:World)(hv:uD w v l)(en:∀args w,(callFunc nf args).run Tryz.prog w=.ok (.enter nf args) w)
    (hp:∀d,d ∈ l->∀X,Below w.heap.size w X->Calls Tryz.prog nf (#[wnV d] ++ nb) X (dI (.bool (p d)) X)) :
    Calls Tryz.prog 185 #[v,.func (.func nf) #[] nb] w (aB (l.any p) w):=by
 have hc:=ai (aga v l p nf nb w hv en hp)
 obtain⟨a,cap,rfl,-,-⟩:=hv
 clear hp
 cases ht:l.any p
 all_goals
  replace ht:=ai ht
  go_enter Tryz.func185,Tryz.ntmps185
  go_wp2_with (go_at_call 205;refine ax hc.out ?_;rintro e w' ⟨n,rfl,hn,hb⟩;rw[ht.out] at hn;have hn':Hid (_↔(0:Int)<=n):=hn;clear hn)
  go_ret
  refine⟨_,rfl,?_,hb⟩
  have:=hn'.out
  simp at this
  show _=_
  simp[this]
theorem Pm {l:List MV}{j:Nat}(h:j<l.length):jc l j=l[j]:=by simp[jc,h]
theorem af_ (v:Value)(l:List MV)(p:MV->Bool)(nf:Nat)(nb:Array Value)(w:World)(hv:Sj w v l)(en:∀args w,(callFunc nf args).run Tryz.prog w=.ok (.enter nf args) w)
    (hp:∀d,d ∈ l->∀X,Below w.heap.size w X->Calls Tryz.prog nf (#[anq d] ++ nb) X (dI (.bool (p d)) X)) :
    Calls Tryz.prog 184 #[v,.func (.func nf) #[] nb] w (Jr (l.any p) w):=by
 obtain⟨a,cap,rfl,hm,hc⟩:=hv.form
 clear hv
 replace hp:=ai hp
 go_enter Tryz.func184,Tryz.ntmps184
 go_wp2_with (fail)
 have hg:=az w
 go_loopw [8] (fun i wr=>∃k:Nat,k<=l.length/\i=.int .i64 k/\Hid (∀j (hj:j<l.length),j<k->p l[j]=false)/\∃g:Grow w,wr=g.x) (fun i _=>l.length - (intOf i).toNat)
 case atStart=>exact⟨0,by omega,rfl,(fun j _ h=>by omega:∀j (hj:j<l.length),j<0->p l[j]=false),Grow.self w,rfl⟩
 case round =>
  obtain⟨k,hk,rfl,hH,g,rfl⟩:=hrel
  by_cases hlt:k<l.length
  . obtain⟨b,off,rfl,hbl,hx⟩:=hc (by omega)
    have c0:w.cell? ⟨b,off+k*5,none⟩=some (.int .i64 (jc l k).2.src):=hx k 0 _ hlt rfl
    have c1:w.cell? ⟨b,off+k*5+1,none⟩=some (.int .i64 (jc l k).2.dst):=hx k 1 _ hlt rfl
    have c2:w.cell? ⟨b,off+k*5+2,none⟩=some ((jc l k).1):=hx k 2 _ hlt rfl
    have c3:w.cell? ⟨b,off+k*5+3,none⟩=some (.int .i64 (jc l k).2.cmd):=hx k 3 _ hlt rfl
    have c4:w.cell? ⟨b,off+k*5+4,none⟩=some (.int .i64 (jc l k).2.after):=hx k 4 _ hlt rfl
    have hki:(0:Int)<=(k:Int)/\(k:Int)<l.length:=by omega
    have hcall:=hp.out (jc l k) (by rw[Pm hlt];exact List.getElem_mem hlt) g.x g.h
    rw[Pm hlt] at c0 c1 c2 c3 c4 hcall
    clear hx hc
    cases ht:p l[k]
    . rw[ht] at hcall
      have hH':Hid (∀j (hj:j<l.length),j<k+1->p l[j]=false):=fun j hj hjk=>by
       rcases Nat.lt_succ_iff_lt_or_eq.1 hjk with h|rfl
       . exact hH.out j hj h
       . exact ht
      replace ht:=ai ht
      replace hcall:=ai hcall
      go_wp2_with ((with_reducible refine ax hcall.out ?_);rintro e w' ⟨rfl,hb'⟩;obtain⟨g1,rfl⟩:=g.next hb')
      exact⟨⟨k+1,by omega,by go_num,hH',g1,rfl⟩,by simp[intOf];omega⟩
    . rw[ht] at hcall
      have hany:=ai (any_some hlt ht)
      replace ht:=ai ht
      replace hcall:=ai hcall
      go_wp2_with ((with_reducible refine ax hcall.out ?_);rintro e w' ⟨rfl,hb'⟩;obtain⟨g1,rfl⟩:=g.next hb')
      go_ret
      exact⟨k,rfl,⟨fun _=>by omega,fun _=>hany.out⟩,g1.h⟩
  . have hany:=ai (any_none fun j hj=>hH.out j hj (by omega))
    go_wp2_with (fail)
    go_ret
    exact⟨-1,rfl,⟨(fun h=>by rw[hany.out] at h;cases h),(fun h=>by omega)⟩,g.h⟩
theorem Wq (v:Value)(l:List MV)(p:MV->Bool)(nf:Nat)(nb:Array Value)(w:World)(hv:Sj w v l)(en:∀args w,(callFunc nf args).run Tryz.prog w=.ok (.enter nf args) w)
    (hp:∀d,d ∈ l->∀X,Below w.heap.size w X->Calls Tryz.prog nf (#[anq d] ++ nb) X (dI (.bool (p d)) X)) :
    Calls Tryz.prog 152 #[v,.func (.func nf) #[] nb] w (aB (l.any p) w):=by
 have hc:=ai (af_ v l p nf nb w hv en hp)
 obtain⟨a,cap,rfl,-,-⟩:=hv
 clear hp
 cases ht:l.any p
 all_goals
  replace ht:=ai ht
  go_enter Tryz.func152,Tryz.ntmps152
  go_wp2_with (go_at_call 184;refine ax hc.out ?_;rintro e w' ⟨n,rfl,hn,hb⟩;rw[ht.out] at hn;have hn':Hid (_↔(0:Int)<=n):=hn;clear hn)
  go_ret
  refine⟨_,rfl,?_,hb⟩
  have:=hn'.out
  simp at this
  show _=_
  simp[this]
theorem Z8 (a b c:Int)(w:World):Calls Tryz.prog 149 #[.int .i64 a,.int .i64 b,.int .i64 c] w (iM (inB a b c) w):=by
 by_cases h:b<=a
 . go_enter Tryz.func149,Tryz.ntmps149
   go_wp2
   go_ret
   exact⟨_,rfl,ai (by unfold Wl.inB;simp[h] <;> omega),rfl⟩
 . go_enter Tryz.func149,Tryz.ntmps149
   go_wp2
   go_ret
   exact⟨_,rfl,ai (by unfold Wl.inB;simp[h] <;> omega),rfl⟩
theorem fV {a b c:Int}{t:Bool}(h:inB a b c=t)(w:World):Calls Tryz.prog 149 #[.int .i64 a,.int .i64 b,.int .i64 c] w fun e w'=>e=.returned (.bool t)/\w=w' :=
 (Z8 a b c w).mono fun e w' ⟨t',he,ht,hw⟩=>⟨by rw[he,<- ht.out,h],hw⟩
theorem atg (a b c:Int)(w:World):Calls Tryz.prog 128 #[.int .i64 a,.int .i64 b,.int .i64 c] w (iM (inB a b c) w):=by
 by_cases h:b<=a
 . go_enter Tryz.func128,Tryz.ntmps128
   go_wp2
   go_ret
   exact⟨_,rfl,ai (by unfold Wl.inB;simp[h] <;> omega),rfl⟩
 . go_enter Tryz.func128,Tryz.ntmps128
   go_wp2
   go_ret
   exact⟨_,rfl,ai (by unfold Wl.inB;simp[h] <;> omega),rfl⟩
theorem aeb (n:Int)(w:World):Calls Tryz.prog 150 #[.int .i64 n] w (iM (VH n) w):=by
 have k:=ai (Z8 n (-10000) 10000 w)
 go_enter Tryz.func150,Tryz.ntmps150
 go_wp2_with (go_at_call 149;(with_reducible refine ax k.out ?_);rintro e w' ⟨t,rfl,ht,rfl⟩)
 go_ret
 exact⟨_,rfl,ht,rfl⟩
theorem mD {n:Int}{t:Bool}(h:VH n=t)(w:World):Calls Tryz.prog 150 #[.int .i64 n] w fun e w'=>e=.returned (.bool t)/\w=w' :=
 (aeb n w).mono fun e w' ⟨t',he,ht,hw⟩=>⟨by rw[he,<- ht.out,h],hw⟩
