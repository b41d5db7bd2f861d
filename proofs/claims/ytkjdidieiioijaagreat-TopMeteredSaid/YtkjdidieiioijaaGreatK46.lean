/- Walks. -/
import Derived.Shelf.Abstract
import Derived.Shelf.RegionOpen
import Derived.OwnWalkIn
import Derived.TacticsInMore
import Derived.LoopNIn
import Derived.LoopIn
import Derived.Test.YtkjdidieiioijaaGreatK45
set_option linter.all false
set_option maxRecDepth 100000
set_option maxHeartbeats 16000000
namespace Go.Proofs.YtkjdidieiioijaaGreat.S
open Go.RowKit Go.Sd
attribute [local go_sem] Oper.semAt_some
def eu (s:Sea.S)(k:Nat)(fill aY:Int)(j:Nat):List Int:=((List.range j).map fun(i:Nat)=>(i:Int) - (Sea.aP s.days k).take).filter (zL s k fill aY)
def dC (s:Sea.S)(k:Nat)(fill aY:Int):List Int:=eu s k fill aY ((Sea.aP s.days k).take+(Sea.aP s.days k).offer+1).toNat
theorem rO {s:Sea.S}{k:Nat}{fill aY:Int}{j:Nat}(h:zL s k fill aY ((j:Int) - (Sea.aP s.days k).take)=true):eu s k fill aY (j+1)=eu s k fill aY j ++ [(j:Int) - (Sea.aP s.days k).take]:=by
 unfold eu
 rw[List.range_succ,List.map_append,List.filter_append]
 simp[h]
theorem A_ {s:Sea.S}{k:Nat}{fill aY:Int}{j:Nat}(h:zL s k fill aY ((j:Int) - (Sea.aP s.days k).take)=false):eu s k fill aY (j+1)=eu s k fill aY j:=by
 unfold eu
 rw[List.range_succ,List.map_append,List.filter_append]
 simp[h]
theorem Nr {s:Sea.S}{k:Nat}{fill aY:Int}{i j:Nat}(h:i<=j):eu s k fill aY i <+: eu s k fill aY j:=by
 induction j with
 | zero=>obtain rfl:i=0:=by omega
         exact List.prefix_refl _
 | succ j ih =>
  by_cases hi:i=j+1
  . subst hi;exact List.prefix_refl _
  . have:=ih (by omega)
    cases hp:zL s k fill aY ((j:Int) - (Sea.aP s.days k).take)
    . rw[A_ hp];exact this
    . rw[rO hp];exact this.trans (List.prefix_append _ _)
theorem RF (mv:Value)(s:Sea.S)(k:Nat)(fill aY:Int)(w:World)(S:Nat->Prop)(lv:Value)(bl bs bn:Nat)(hl:dH w lv mv s)(hk:k<s.days.length)(ok:Sea.Ok s)
    (b1:0<=fill/\fill<=100) (b2 : -100<=aY/\aY<=100)
    (c0:w.cell? ⟨bl,0,none⟩=some lv) (c1:w.cell? ⟨bs,0,none⟩=some (.int .i64 k)) (c2:w.cell? ⟨bs,1,none⟩=some (.int .i64 fill)) (c3:w.cell? ⟨bn,0,none⟩=some (.int .i64 aY))
    (hS:∀b o v,w.cell? ⟨b,o,none⟩=some v->S b) :
    aew Tryz.prog 116 #[.pointer (some ⟨bl,0,none⟩),.pointer (some ⟨bs,0,none⟩),.pointer (some ⟨bn,0,none⟩)] (fun u:Int=>#[lH lv k fill aY u]) (dC s k fill aY) S w:=by
 intro l J Jx W hKW hJ hJx hY h0
 have kcW:Kc w W:=⟨hKW.size,fun b o v h=>hKW.cell (hS _ _ _ h) h⟩
 refine callsIn_wide.2 ?_
 have hlW:=hl.kc kcW
 have d0:=kcW.cell _ _ _ c0
 have d1:=kcW.cell _ _ _ c1
 have d2:=kcW.cell _ _ _ c2
 have d3:=kcW.cell _ _ _ c3
 have as4:=hlW
 obtain⟨lb,rv,dv,rfl,⟨l0,l1,l2,l3,l4,l5,l6⟩,hlb,hr,hd⟩:=as4
 obtain⟨b,off,cap,rfl,hlt,hm,e0,e1,e2,e3,e4,e5,e6,e7⟩:=Sv hd hk
 have hk':(k:Int)<(s.days.length:Int):=by omega
 have hbl:=World.block_lt_of_cell? W ⟨bl,0,none⟩ d0
 have hbs:=World.block_lt_of_cell? W ⟨bs,0,none⟩ d1
 have hbn:=World.block_lt_of_cell? W ⟨bn,0,none⟩ d3
 clear hr hd
 go_enter Tryz.func116,Tryz.ntmps116
 go_wp2
 refine iy h_ (va:=[⟨9,5,182,#[.int .i64 0,.int .i64 0,.int .i64 0,.int .i64 0,.int .i64 0,.int .i64 0,.int .i64 0,.int .i64 0],10,.tmp 16⟩]) (by kernel_rfl) (by kernel_rfl) ?_ ?_ (by simp) (fun T f hT hf hcl=>?_)
 . intro p hp w
   simp only[List.mem_cons,List.not_mem_nil,or_false] at hp
   rcases hp with rfl <;> go_simp
 . intro p hp
   simp only[List.mem_cons,List.not_mem_nil,or_false] at hp
   rcases hp with rfl <;> kernel_rfl
 have hg:∀(g:T) (b o:Nat),b<W.heap.size->(f g).cell? ⟨b,o,none⟩=W.cell? ⟨b,o,none⟩:=fun g=>dR (hf g)
 simp only[fM,List.zipIdx_cons,List.zipIdx_nil,List.map_cons,List.map_nil,fG,List.any_cons,List.any_nil,Nat.reduceAdd,Nat.reduceBEq,Bool.or_false,Bool.false_or,Bool.or_self,Bool.false_eq_true,if_false,if_true,Nat.zero_add,BEq.rfl,Bool.or_true,Bool.true_or]
 simp only[Go.Sd.blank]
 repeat (go_big_quiet_step (fail))
 refine wpQuiet_nil ?_
 refine⟨?_,?_⟩
 . intro p hp
   simp only[List.mem_cons,List.not_mem_nil,or_false] at hp
   rcases hp with rfl <;> (constructor <;> simp[go_sem,Value.cells,Value.oneCell'])
 intro ns w' hB hv
 obtain⟨n1,rfl,hn1,hl1,hc1,hf1⟩:=qA hv
 clear hv hf hcl hg
 simp only[iQ,Act.put,List.setIfInBounds_toArray,List.set_cons_zero,List.set_cons_succ]
 simp[go_sem] at hc1
 have hcc:=dR hB
 have hd:=ok.days k (by omega)
 have ho:w'.cell? ⟨n1,2,none⟩=some (.int .i64 (Sea.aP s.days k).offer):=by simpa using hc1 2
 have hJ1:=hJ _ _ _ h0 hB
 have hK1:Kept S w w':=hKW.trans (.all hB)
 have hs1:=hB.size
 go_wp2
 clear hcc hc1 hf1 h0 hB d0 d1 d2 d3 l0 l1 l2 l3 l4 l5 l6 e0 e1 e2 e3 e4 e5 e6 e7
 refine(wpIn_wide (n:=0)).1 ?_
 gi_loopw [6] (fun i wr=>∃j:Nat,(j:Int)<=(Sea.aP s.days k).take+(Sea.aP s.days k).offer+1/\i=.int .i64 ((j:Int) - (Sea.aP s.days k).take) /\
  wr.cell? ⟨n1,2,none⟩=some (.int .i64 (Sea.aP s.days k).offer)/\Hid (Kept S w wr/\W.heap.size<=wr.heap.size/\J (eu s k fill aY j) wr)) (fun i _=>((Sea.aP s.days k).offer+1 - intOf i).toNat)
 case atStart=>exact⟨0,by omega,by go_num,ho,hK1,hs1,hJ1⟩
 case round =>
  obtain⟨j,hj,rfl,ho2,hH⟩:=hrel
  have kc2:Kc w wr:=⟨hH.out.1.size,fun b o v h=>hH.out.1.cell (hS _ _ _ h) h⟩
  have d0:=kc2.cell _ _ _ c0
  have d1:=kc2.cell _ _ _ c1
  have d2:=kc2.cell _ _ _ c2
  have d3:=kc2.cell _ _ _ c3
  have hl2:=hl.kc kc2
  by_cases hjo:(j:Int) - (Sea.aP s.days k).take<=(Sea.aP s.days k).offer
  . cases hp:zL s k fill aY ((j:Int) - (Sea.aP s.days k).take)
    . have hc:Calls Tryz.prog 117 #[lH (.pointer (some ⟨lb,0,none⟩)) k fill aY ((j:Int) - (Sea.aP s.days k).take)] (wr.alloc (zk (.pointer (some ⟨lb,0,none⟩)) k fill aY ((j:Int) - (Sea.aP s.days k).take)))
          (fun e w2=>e=.returned (.bool false)/\Below wr.heap.size wr w2/\Below (wr.heap.size+1) (wr.alloc (zk (.pointer (some ⟨lb,0,none⟩)) k fill aY ((j:Int) - (Sea.aP s.days k).take))) w2):=by
       refine(I9 _ mv s k fill aY _ _ (hl2.mono ((Below.refl _ _).alloc (Nat.le_refl _) _)) hk ok b1 b2 (by omega)).mono ?_
       rintro e w2 ⟨rfl,hB⟩
       exact⟨by rw[hp],((Below.refl _ _).alloc (Nat.le_refl _) _).trans (hB.mono (by simp)),hB.mono (by simp)⟩
      replace hp:=ai hp
      gi_wp2
      refine⟨trivial,rfl,(callsIn_wide.2 hc).mono ?_⟩
      rintro e w2 ⟨rfl,hB2,qH⟩
      clear hc
      have ho3:w2.cell? ⟨n1,2,none⟩=some (.int .i64 (Sea.aP s.days k).offer):=ae hB2 ho2
      have hK3:Kept S w w2:=hH.out.1.trans (.all hB2)
      have hs3:W.heap.size<=w2.heap.size:=Nat.le_trans hH.out.2.1 hB2.size
      have hJ3:J (eu s k fill aY j) w2:=hJ _ _ _ hH.out.2.2 (hB2.mono hH.out.2.1)
      gi_wp2
      refine⟨fun _ h=>(by cases h),?_⟩
      gi_wp2
      exact⟨⟨j+1,by omega,by go_num,ho3,hK3,hs3,by rw[A_ hp.out];exact hJ3⟩,by simp[intOf];omega⟩
    . have hc:Calls Tryz.prog 117 #[lH (.pointer (some ⟨lb,0,none⟩)) k fill aY ((j:Int) - (Sea.aP s.days k).take)] (wr.alloc (zk (.pointer (some ⟨lb,0,none⟩)) k fill aY ((j:Int) - (Sea.aP s.days k).take)))
          (fun e w2=>e=.returned (.bool true)/\Below wr.heap.size wr w2/\Below (wr.heap.size+1) (wr.alloc (zk (.pointer (some ⟨lb,0,none⟩)) k fill aY ((j:Int) - (Sea.aP s.days k).take))) w2):=by
       refine(I9 _ mv s k fill aY _ _ (hl2.mono ((Below.refl _ _).alloc (Nat.le_refl _) _)) hk ok b1 b2 (by omega)).mono ?_
       rintro e w2 ⟨rfl,hB⟩
       exact⟨by rw[hp],((Below.refl _ _).alloc (Nat.le_refl _) _).trans (hB.mono (by simp)),hB.mono (by simp)⟩
      replace hp:=ai hp
      gi_wp2
      refine⟨trivial,rfl,(callsIn_wide.2 hc).mono ?_⟩
      rintro e w2 ⟨rfl,hB2,qH⟩
      clear hc
      have ho3:w2.cell? ⟨n1,2,none⟩=some (.int .i64 (Sea.aP s.days k).offer):=ae hB2 ho2
      have hK3:Kept S w w2:=hH.out.1.trans (.all hB2)
      have hs3:W.heap.size<=w2.heap.size:=Nat.le_trans hH.out.2.1 hB2.size
      have hJ3:J (eu s k fill aY j) w2:=hJ _ _ _ hH.out.2.2 (hB2.mono hH.out.2.1)
      have hpre:eu s k fill aY j ++ [(j:Int) - (Sea.aP s.days k).take] <+: dC s k fill aY:=by
       rw[<- rO hp.out];exact Nr (by omega)
      obtain⟨fn,tmps,assign,body,hy,hR⟩:=hY _ _ w2 hpre hK3 hs3 hJ3
      obtain⟨hsz,-,q0,q1,q2,q3,q4⟩:=yz (w:=wr) (lv:=.pointer (some ⟨lb,0,none⟩)) (day:=k) (fill:=fill) (aY:=aY) (u:=(j:Int) - (Sea.aP s.days k).take) rfl
      have r0:=ae (qH.mono (Nat.le_of_eq (World.size_alloc _ _))) q0
      have r1:=ae (qH.mono (Nat.le_of_eq (World.size_alloc _ _))) q1
      have r2:=ae (qH.mono (Nat.le_of_eq (World.size_alloc _ _))) q2
      have r3:=ae (qH.mono (Nat.le_of_eq (World.size_alloc _ _))) q3
      have r4:=ae (qH.mono (Nat.le_of_eq (World.size_alloc _ _))) q4
      clear q0 q1 q2 q3 q4 qH
      gi_wp2
      refine⟨rfl,hR.mono ?_⟩
      clear hy hR
      rintro e W3 (⟨rfl,hJ4,hk4⟩|⟨rfl,Y_⟩)
      . have ho4:W3.cell? ⟨n1,2,none⟩=some (.int .i64 (Sea.aP s.days k).offer):=hk4.cell (.inr hn1) ho3
        have hK4:Kept S w W3:=hK3.trans (hk4.mono fun _ _ h=>.inl h)
        have hs4:=Nat.le_trans hs3 hk4.size
        gi_wp2
        exact⟨⟨j+1,by omega,by go_num,ho4,hK4,hs4,by rw[rO hp.out];exact hJ4⟩,by simp[intOf];omega⟩
      . gi_wp2
        exact bodyPost_ret (results_none rfl _ _ _) rfl ⟨⟨_,rfl⟩,.inr Y_⟩
  . have hend:eu s k fill aY j=dC s k fill aY:=by unfold dC;congr 1;omega
    replace hend:=ai hend
    gi_wp2
    go_end0
    exact⟨⟨_,rfl⟩,.inl (by rw[<- hend.out];exact hH.out.2.2)⟩
theorem ako {P:Program}{α:Type}{gf:Nat}{lb:Array Value}{encs:α->Array Value}{xs:List α}{S:Nat->Prop}{w w1:World}
    (h:aew P gf lb encs xs S w) (hS:∀k,S k->k<w.heap.size) (hk:Kept S w w1):aew P gf lb encs xs S w1:=by
 intro l J Jx W hKW hJ hJx hY h0
 refine h l J Jx W (hk.trans hKW) hJ hJx (fun pre x W1 hp hk1 hs hj=>hY pre x W1 hp ?_ hs hj) h0
 exact⟨hk1.os.trans hk.os.symm,hk1.tape.trans hk.tape.symm,hk1.output.trans hk.output.symm,Nat.le_trans hKW.size hs,fun k _ hs=>(hk1.block k (hS k hs) hs).trans (hk.block k (hS k hs) hs).symm⟩
def pick (num:Int->Int)(b:Int × Option Int)(u:Int):Int × Option Int:=if num u<b.1 then(num u,some u) else b
def cZ (num:Int->Int)(xs:List Int):Int × Option Int:=xs.foldl (pick num) (Sea.never,none)
theorem GY (num:Int->Int)(xs:List Int)(u:Int):cZ num (xs ++ [u])=pick num (cZ num xs) u:=by simp[cZ]
abbrev adz (lv:Value)(k:Nat)(fill aY:Int):Option Int->Array Value
 | none=>#[.pointer none,.int .i64 0,.int .i64 0,.int .i64 0,.int .i64 0]
 | some u=>#[lv,.int .i64 k,.int .i64 fill,.int .i64 aY,.int .i64 u]
theorem aqK {w:World}{n:Nat}{a b c d f:Value}{e:TypeId}(h:w.heap[n]? = some (.cells #[a,b,c,d,f] e))(a' b' c' d' f':Value) :
    (((((w.setCell ⟨n,0,none⟩ a').setCell ⟨n,1,none⟩ b').setCell ⟨n,2,none⟩ c').setCell ⟨n,3,none⟩ d').setCell ⟨n,4,none⟩ f').heap[n]? = some (.cells #[a',b',c',d',f'] e):=by
 simp only[World.setCell,Array.getElem?_modify,if_true,h]
 rfl
theorem set1 {w:World}{n:Nat}{a:Value}{e:TypeId}(h:w.heap[n]? = some (.cells #[a] e))(a':Value):(w.setCell ⟨n,0,none⟩ a').heap[n]? = some (.cells #[a'] e):=by
 simp only[World.setCell,Array.getElem?_modify,if_true,h]
 rfl
theorem zy {w:World}{n m:Nat}(a' b' c' d' f':Value)(h:m≠n) :
    (((((w.setCell ⟨n,0,none⟩ a').setCell ⟨n,1,none⟩ b').setCell ⟨n,2,none⟩ c').setCell ⟨n,3,none⟩ d').setCell ⟨n,4,none⟩ f').heap[m]? = w.heap[m]?:=by
 rw[Below.heap_setCell _ _ _ _ h,Below.heap_setCell _ _ _ _ h,Below.heap_setCell _ _ _ _ h,Below.heap_setCell _ _ _ _ h,Below.heap_setCell _ _ _ _ h]
theorem TZ {S:Nat->Prop}{v w:World}{n:Nat}(hk:Kept S v w)(h:¬ S n\/v.heap.size<=n)(a' b' c' d' f':Value) :
    Kept S v (((((w.setCell ⟨n,0,none⟩ a').setCell ⟨n,1,none⟩ b').setCell ⟨n,2,none⟩ c').setCell ⟨n,3,none⟩ d').setCell ⟨n,4,none⟩ f') :=
 ((((hk.setCell (p:=⟨n,0,none⟩) h _).setCell (p:=⟨n,1,none⟩) h _).setCell (p:=⟨n,2,none⟩) h _).setCell (p:=⟨n,3,none⟩) h _).setCell (p:=⟨n,4,none⟩) h _
theorem JI (lp:Option Addr)(k:Nat)(fill aY:Int)(o:Option Int):∃p a b c d,adz (.pointer lp) k fill aY o=#[.pointer p,.int .i64 a,.int .i64 b,.int .i64 c,.int .i64 d]:=by
 cases o with
 | none=>exact⟨_,_,_,_,_,rfl⟩
 | some u=>exact⟨_,_,_,_,_,rfl⟩
theorem afG {w W:World}{a b c d:Obj}(h:(((w.alloc a).alloc b).alloc c).alloc d=W) :
    W.heap[w.heap.size]? = some a/\W.heap[w.heap.size+1]? = some b/\W.heap[w.heap.size+1+1]? = some c/\W.heap[w.heap.size+1+1+1]? = some d/\W.heap.size=w.heap.size+4/\Below w.heap.size w W:=by
 subst h
 have e1:=World.alloc_heap_new (w.alloc a) b
 have e2:=World.alloc_heap_new ((w.alloc a).alloc b) c
 have e3:=World.alloc_heap_new (((w.alloc a).alloc b).alloc c) d
 simp only[World.size_alloc] at e1 e2 e3
 refine⟨?_,?_,?_,e3,by simp,(((((Below.refl _ _).alloc (Nat.le_refl _) _).alloc (by simp) _).alloc (by simp;omega) _).alloc (by simp;omega) _)⟩
 . exact(Below.heap_alloc _ _ _ (by simp;omega)).trans ((Below.heap_alloc _ _ _ (by simp;omega)).trans ((Below.heap_alloc _ _ _ (by simp)).trans (World.alloc_heap_new w a)))
 . exact(Below.heap_alloc _ _ _ (by simp)).trans ((Below.heap_alloc _ _ _ (by simp)).trans e1)
 . exact(Below.heap_alloc _ _ _ (by simp)).trans e2
theorem adJ (lp:Option Addr)(k:Nat)(fill aY:Int)(xs:List Int)(num:Int->Int)(gf nf:Nat)(lb nb:Array Value)(w:World)(S:Nat->Prop)(Inv:World->Prop)
    (eg:∀args w,(callFunc gf args).run Tryz.prog w=.ok (.enter gf args) w) (en:∀args w,(callFunc nf args).run Tryz.prog w=.ok (.enter nf args) w)
    (hseq:aew Tryz.prog gf lb (fun u:Int=>#[lH (.pointer lp) k fill aY u]) xs S w) (hS:∀k,S k->k<w.heap.size)
    (h0:Inv w) (hInv:∀X Y,Inv X->Below w.heap.size X Y->Inv Y)
    (hnum:∀u,u ∈ xs->∀X,Kept S w X->w.heap.size<=X.heap.size->Inv X->Calls Tryz.prog nf (#[lH (.pointer lp) k fill aY u] ++ nb) X fun e X'=>e=.returned (.int .i64 (num u))/\Kept (fun b=>S b\/w.heap.size<=b) X X'/\Inv X') :
    Calls Tryz.prog 61 #[.func (.func gf) #[] lb,.func (.func nf) #[] nb] w fun e w' =>
     e=.returned (.tuple #[.agg (adz (.pointer lp) k fill aY (cZ num xs).2),.int .i64 (cZ num xs).1,.bool (decide ((cZ num xs).1<Sea.never))])/\Kept S w w'/\Inv w':=by
 refine(callsIn_wide (n:=0)).1 ?_
 refine callsIn_of_wp_marks Tryz.func61 rfl trivial ?_
 simp only[Tryz.ntmps61,List.size_toArray,List.length_cons,List.length_nil,Nat.reduceAdd,Nat.reduceSub,Array.replicate_succ,Array.replicate_zero,List.push_toArray,List.append_toArray,List.nil_append,List.cons_append]
 gi_wp2
 generalize hW:(((w.alloc (Obj.cells #[Value.func (Fn.func nf) #[] nb] 178)).alloc _).alloc _).alloc _=W
 obtain⟨n0,n1,n2,n3,hsz,hB⟩:=afG hW
 clear hW
 refine VO (gf:=gf) (lb:=lb) rfl eg (ako hseq hS (.all hB)) (fun k h=>by have:=hS k h;omega) (fun _=>rfl)
  (fun pre X=>Inv X/\X.heap[w.heap.size]? = some (.cells #[.func (.func nf) #[] nb] 178)/\X.heap[w.heap.size+1]? = some (.cells (adz (.pointer lp) k fill aY none) 172) /\
   X.heap[w.heap.size+1+1]? = some (.cells (adz (.pointer lp) k fill aY (cZ num pre).2) 172)/\X.heap[w.heap.size+1+1+1]? = some (.cells #[.int .i64 (cZ num pre).1] 3))
  (fun _ _=>False) ?_ (fun _ _ _ h _=>h) ⟨hInv _ _ h0 hB,n0,n1,n2,n3⟩ ?_ ?_ (fun _ _ _ _ h=>h.elim)
 . rintro pre X Y ⟨h1,h2,h3,h4,h5⟩ hb
   exact⟨hInv _ _ h1 (hb.mono (by omega)),(hb.block _ (by omega)).trans h2,(hb.block _ (by omega)).trans h3,(hb.block _ (by omega)).trans h4,(hb.block _ (by omega)).trans h5⟩
 . rintro l pre u X hl1 hl2 hpre hkX ⟨h1,h2,h3,h4,h5⟩
   gi_wp2
   refine⟨(Kept.refl _ _).alloc _,?_⟩
   intro W2 hk2 hs2
   rw[World.size_alloc] at hs2
   have old:∀(b:Nat) (o:Obj),b<W.heap.size->X.heap[b]? = some o->W2.heap[b]? = some o:=fun b o hb h =>
    (hk2.block b (by rw[World.size_alloc];have:=(aF h);omega) (by omega)).trans ((Below.heap_alloc _ _ _ (aF h)).trans h)
   have g2:=old _ _ (by omega) h2
   have g3:=old _ _ (by omega) h3
   have g4:=old _ _ (by omega) h4
   have g5:=old _ _ (by omega) h5
   have gx:W2.heap[X.heap.size]? = some (zk (.pointer lp) k fill aY u):=(hk2.block _ (by rw[World.size_alloc];omega) (by omega)).trans (World.alloc_heap_new X _)
   have apE:Below w.heap.size X W2:=((Below.refl _ X).alloc (by omega) _).trans (hk2.below (by rw[World.size_alloc];omega) (by intro k hk;omega))
   have hi2:=hInv _ _ h1 apE
   have hkw:Kept S w W2:=((Kept.all hB).trans ⟨hkX.os,hkX.tape,hkX.output,hkX.size,fun k hk hs=>hkX.block k hk hs⟩).trans (.of_below apE fun k _ hs=>hS k hs)
   have hc:=hnum u (hpre.subset (by simp)) W2 hkw (by omega) hi2
   clear old h2 h3 h4 h5 h1 hk2
   obtain⟨z2,d2,f2⟩:=ah g2
   obtain⟨zx,dx,fx⟩:=ah gx
   have x0:=dx 0
   have x1:=dx 1
   have x2:=dx 2
   have x3:=dx 3
   have x4:=dx 4
   have y0:=d2 0
   simp only[zk,List.getElem?_toArray,List.getElem?_cons_zero,List.getElem?_cons_succ] at x0 x1 x2 x3 x4 y0
   clear d2 dx f2 fx
   gi_wp2
   refine⟨trivial,rfl,(CallsIn.inRound l (callsIn_wide.2 hc)).mono ?_⟩
   clear hc x0 x1 x2 x3 x4 y0
   rintro e W3 ⟨rfl,hk3,hi3⟩
   replace g2:=(hk3.block _ (aF g2) (.inr (by omega))).trans g2
   replace g3:=(hk3.block _ (aF g3) (.inr (by omega))).trans g3
   replace g4:=(hk3.block _ (aF g4) (.inr (by omega))).trans g4
   replace g5:=(hk3.block _ (aF g5) (.inr (by omega))).trans g5
   replace gx:=(hk3.block _ (aF gx) (.inr (by omega))).trans gx
   have hk4:Kept (fun b=>S b\/W.heap.size<=b) W2 W3:=hk3.mono fun b _ h=>h.imp id (by omega)
   have hsn:=ai (GY num pre u)
   obtain⟨p,oa,ob,oc,od,hout⟩:=JI lp k fill aY (cZ num pre).2
   have g4':=g4
   rw[hout] at g4'
   replace hout:=ai hout
   replace hkw:=ai hkw
   have g3:=ai g3
   generalize hbb:(cZ num pre).1=best at *
   replace hbb:=ai hbb
   obtain⟨z4,d4,f4⟩:=ah g4'
   obtain⟨z5,d5,f5⟩:=ah g5
   obtain⟨zx,dx,fx⟩:=ah gx
   have x0:=dx 0
   have x1:=dx 1
   have x2:=dx 2
   have x3:=dx 3
   have x4:=dx 4
   have y0:=d4 0
   have y1:=d4 1
   have y2:=d4 2
   have y3:=d4 3
   have y4:=d4 4
   have y5:=d5 0
   simp only[zk,List.getElem?_toArray,List.getElem?_cons_zero,List.getElem?_cons_succ] at x0 x1 x2 x3 x4 y0 y1 y2 y3 y4 y5
   clear d4 d5 dx fx
   by_cases hlt:num u<best
   . gi_wp2
     have hf:Hid (cZ num (pre ++ [u])=(num u,some u)):=by show _=_;rw[hsn.out];unfold pick;rw[hbb.out,if_pos hlt]
     have nin:∀n,w.heap.size<=n->n<W.heap.size->¬ (S n\/W.heap.size<=n):=by
      rintro n h1 h2 (h|h)
      . have:=hS _ h;omega
      . omega
     have k5:Kept (fun b=>S b\/W.heap.size<=b) W2 _:=(TZ (n:=w.heap.size+1+1) hk4 (.inl (nin (w.heap.size+1+1) (by omega) (by omega))) (.pointer lp) (.int .i64 k) (.int .i64 fill) (.int .i64 aY) (.int .i64 u)).setCell (p:=⟨w.heap.size+1+1+1,0,none⟩) (.inl (nin (w.heap.size+1+1+1) (by omega) (by omega))) (.int .i64 (num u))
     have b5:Below w.heap.size W3 _:=(((((((Below.refl w.heap.size W3).setCell (p:=⟨w.heap.size+1+1,0,none⟩) (by simp;omega) (.pointer lp)).setCell (p:=⟨w.heap.size+1+1,1,none⟩) (by simp;omega) (.int .i64 k)).setCell (p:=⟨w.heap.size+1+1,2,none⟩) (by simp;omega) (.int .i64 fill)).setCell (p:=⟨w.heap.size+1+1,3,none⟩) (by simp;omega) (.int .i64 aY)).setCell (p:=⟨w.heap.size+1+1,4,none⟩) (by simp;omega) (.int .i64 u)).setCell (p:=⟨w.heap.size+1+1+1,0,none⟩) (by simp;omega) (.int .i64 (num u)))
     refine⟨k5,hInv _ _ hi3 b5,?_,?_,?_,?_⟩
     . exact(Below.heap_setCell _ _ _ _ (by simp <;> omega)).trans ((zy _ _ _ _ _ (by omega)).trans g2)
     . exact(Below.heap_setCell _ _ _ _ (by simp <;> omega)).trans ((zy _ _ _ _ _ (by omega)).trans g3.out)
     . rw[hf.out];exact(Below.heap_setCell _ _ _ _ (by simp)).trans (aqK g4' _ _ _ _ _)
     . rw[hf.out];exact set1 ((zy _ _ _ _ _ (by omega)).trans g5) _
   . gi_wp2
     have hf:cZ num (pre ++ [u])=cZ num pre:=by rw[hsn.out];unfold pick;rw[hbb.out,if_neg (by omega)]
     exact⟨hk4,hi3,g2,g3.out,by rw[hf];exact g4,by rw[hf,hbb.out];exact g5⟩
 . rintro D X hD ⟨h1,h2,h3,h4,h5⟩ hkX hDX
   obtain⟨p,oa,ob,oc,od,hout⟩:=JI lp k fill aY (cZ num xs).2
   rw[hout] at h4
   replace hout:=ai hout
   obtain⟨z3,d3,f3⟩:=ah h3
   obtain⟨z4,d4,f4⟩:=ah h4
   generalize hbb:(cZ num xs).1=best at h5
   replace hbb:=ai hbb
   obtain⟨z5,d5,f5⟩:=ah h5
   have:=d4 0
   have:=d4 1
   have:=d4 2
   have:=d4 3
   have:=d4 4
   have:=d3 0
   have:=d3 1
   have:=d3 2
   have:=d3 3
   have:=d3 4
   have:=d5 0
   simp only[List.getElem?_toArray,List.getElem?_cons_zero,List.getElem?_cons_succ] at *
   gi_wp2
   refine wpIn_wide.2 ?_
   go_region
   gi_wp2
   have k6:=(TZ (S:=S) (v:=w) (w:=X) (n:=w.heap.size+1) ((Kept.all hB).trans ⟨hkX.os,hkX.tape,hkX.output,hkX.size,fun k hk hs=>hkX.block k hk hs⟩) (.inr (by omega)) (.pointer p) (.int .i64 oa) (.int .i64 ob) (.int .i64 oc) (.int .i64 od)).drew
   have b6:=(((((((Below.refl w.heap.size X).setCell (p:=⟨w.heap.size+1,0,none⟩) (by simp) (.pointer p)).setCell (p:=⟨w.heap.size+1,1,none⟩) (by simp) (.int .i64 oa)).setCell (p:=⟨w.heap.size+1,2,none⟩) (by simp) (.int .i64 ob)).setCell (p:=⟨w.heap.size+1,3,none⟩) (by simp) (.int .i64 oc)).setCell (p:=⟨w.heap.size+1,4,none⟩) (by simp) (.int .i64 od)).drew)
   have r6:=aqK h3 (.pointer p) (.int .i64 oa) (.int .i64 ob) (.int .i64 oc) (.int .i64 od)
   have D6:=(zy (w:=X) (n:=w.heap.size+1) (m:=D) (.pointer p) (.int .i64 oa) (.int .i64 ob) (.int .i64 oc) (.int .i64 od) (by omega)).trans hDX
   have dr:∀(V:World) (i:Nat),V.heap[i]? = V.drew.heap[i]?:=fun _ _=>rfl
   rw[dr] at r6 D6
   generalize (((((X.setCell ⟨w.heap.size+1,0,none⟩ (.pointer p)).setCell ⟨w.heap.size+1,1,none⟩ (.int .i64 oa)).setCell ⟨w.heap.size+1,2,none⟩ (.int .i64 ob)).setCell ⟨w.heap.size+1,3,none⟩ (.int .i64 oc)).setCell ⟨w.heap.size+1,4,none⟩ (.int .i64 od)).drew=Y at k6 b6 r6 D6
   refine⟨by simp,.inl ⟨_,_,rfl,run_takeDeferred D6,?_⟩⟩
   have r7:(Y.putObj D (.deferred none)).heap[w.heap.size+1]? = _:=(World.putObj_heap_other (by omega)).trans r6
   have k7:Kept S w (Y.putObj D (.deferred none)):=k6.putObj (.inr (by omega)) _
   have b7:Below w.heap.size X (Y.putObj D (.deferred none)):=dZ b6 (by omega) _
   generalize Y.putObj D (.deferred none)=Z at r7 k7 b7
   obtain⟨-,d,-⟩:=ah r7
   have g0:=d 0
   have g1:=d 1
   have g2:=d 2
   have g3:=d 3
   have g4:=d 4
   simp only[List.getElem?_toArray,List.getElem?_cons_zero,List.getElem?_cons_succ] at g0 g1 g2 g3 g4
   exact⟨.tuple #[.agg #[.pointer p,.int .i64 oa,.int .i64 ob,.int .i64 oc,.int .i64 od],.int .i64 best,.bool (decide (best<1000000000000000))],
    by simp[results,Tryz.results61,go_sem,g0,g1,g2,g3,g4],by rw[hout.out,hbb.out];rfl,k7,hInv _ _ h1 b7⟩
end Go.Proofs.YtkjdidieiioijaaGreat.S
namespace Go.Proofs.YtkjdidieiioijaaGreat.S
open Go.RowKit Go.Sd
def dW (s:Sea.S)(k:Nat)(fill aY:Int)(next:List Int)(u:Int):Int :=
 if Sea.at0 next (fill+aY+u).toNat=Sea.never then Sea.never else s.cost k u+Sea.at0 next (fill+aY+u).toNat
theorem XV (lv mv:Value)(s:Sea.S)(k:Nat)(fill aY u:Int)(w:World)(vv:Value)(next:List Int)(hl:dH w lv mv s)(hk:k<s.days.length)(ok:Sea.Ok s)
    (b1:0<=fill/\fill<=100) (b2 : -100<=aY/\aY<=100) (b3 : -100<=u/\u<=100) (hv:bK w vv next) (hi:0<=fill+aY+u) (hi2:fill+aY+u<next.length)
    (hbd : -Sea.never<=Sea.at0 next (fill+aY+u).toNat/\Sea.at0 next (fill+aY+u).toNat<=Sea.never) :
    Calls Tryz.prog 64 #[lH lv k fill aY u,vv] w (dI (.int .i64 (dW s k fill aY next u)) w):=by
 obtain⟨j,hj⟩:=Int.eq_ofNat_of_zero_le hi
 have hw:dW s k fill aY next u=if Sea.at0 next j=Sea.never then Sea.never else s.cost k u+Sea.at0 next j:=by unfold dW;rw[hj];rfl
 rw[hw]
 clear hw
 have amv : -Sea.never<=Sea.at0 next j/\Sea.at0 next j<=Sea.never:=by have:=hbd;rw[hj] at this;exact this
 clear hbd
 unfold Sea.never at *
 have apF:=aan ok hk b3
 obtain⟨va,aed,rfl,hvm,hvk⟩:=hv
 have hjl:j<next.length:=by omega
 obtain⟨vb,voff,rfl,MO,hvc⟩:=hvk (by omega)
 have cv:=hvc j hjl
 clear hvc hvk
 unfold maxLen at hvm
 have amw:=fun w1=>l_ lv k fill aY u w1 b1 b2 b3
 rw[hj] at amw
 have hb2:(j:Int)<(next.length:Int):=by omega
 clear hi hi2 hj
 go_enter Tryz.func64,Tryz.ntmps64
 by_cases he:Sea.at0 next j=1000000000000000
 . rw[he] at cv
   rw[if_pos he]
   clear he amv apF
   go_wp2_with (go_at_call 65;refine(amw _).mono ?_;rintro e w1 ⟨rfl,hB1⟩;have cv1:=ae (((Below.refl _ _).alloc (Nat.le_refl _) _).trans (hB1.mono (by simp))) cv)
   go_ret
   exact⟨rfl,((Below.refl _ _).alloc (Nat.le_refl _) _).trans (hB1.mono (by simp))⟩
 . rw[if_neg he]
   have hne:(Sea.at0 next j == 1000000000000000)=false:=by simpa using he
   replace he:=ai he
   go_wp2_with (first|(go_at_call 65;refine(amw _).mono ?_;rintro e w1 ⟨rfl,hB1⟩;have cv1:=ae (((Below.refl _ _).alloc (Nat.le_refl _) _).trans (hB1.mono (by simp))) cv;obtain⟨-,-,q0,q1,q2,q3,q4⟩:=yz (w:=w) (lv:=lv) (day:=k) (fill:=fill) (aY:=aY) (u:=u) rfl;have r0:=ae hB1 q0;have r1:=ae hB1 q1;have r2:=ae hB1 q2;have r3:=ae hB1 q3;have r4:=ae hB1 q4;clear q0 q1 q2 q3 q4;have hB2:Below w.heap.size w w1:=((Below.refl _ _).alloc (Nat.le_refl _) _).trans (hB1.mono (by simp));have hl1:=hl.mono hB2)|(go_at_call 118;refine(agU lv mv s k fill aY u _ hl1 hk ok b3).mono ?_;rintro e w2 ⟨rfl,hB3⟩))
   go_ret
   exact⟨rfl,hB2.trans (hB3.mono hB2.size)⟩
end Go.Proofs.YtkjdidieiioijaaGreat.S
namespace Go.Proofs.YtkjdidieiioijaaGreat.S
open Go.Sd
theorem Xg (s:Sea.S)(k:Nat)(fill aY:Int)(next:List Int)(hn:∀i,Sea.at0 next i<=Sea.never)(j:Nat) :
    Sea.uG s k fill aY next j=((cZ (dW s k fill aY next) (eu s k fill aY j)).1,(cZ (dW s k fill aY next) (eu s k fill aY j)).2.getD 0) /\
     (((cZ (dW s k fill aY next) (eu s k fill aY j)).2=none/\(cZ (dW s k fill aY next) (eu s k fill aY j)).1=Sea.never) \/
      (∃u,(cZ (dW s k fill aY next) (eu s k fill aY j)).2=some u/\u ∈ eu s k fill aY j/\(cZ (dW s k fill aY next) (eu s k fill aY j)).1<Sea.never)):=by
 induction j with
 | zero=>exact⟨rfl,.inl ⟨rfl,rfl⟩⟩
 | succ j ih =>
  obtain⟨h1,h2⟩:=ih
  rw[Sea.uG,h1]
  cases hp:zL s k fill aY ((j:Int) - (Sea.aP s.days k).take)
  . rw[A_ hp]
    have hr:¬ s.rule k fill aY ((j:Int) - (Sea.aP s.days k).take)=1:=by simpa [zL] using hp
    exact⟨by simp[hr],h2⟩
  . rw[rO hp,GY]
    have hr:s.rule k fill aY ((j:Int) - (Sea.aP s.days k).take)=1:=by simpa [zL] using hp
    generalize hb:cZ (dW s k fill aY next) (eu s k fill aY j)=b at *
    have hb1:b.1<=Sea.never:=by rcases h2 with ⟨-,h⟩|⟨u,-,-,h⟩ <;> omega
    have hx:=hn (fill+aY+((j:Int) - (Sea.aP s.days k).take)).toNat
    by_cases he:Sea.at0 next (fill+aY+((j:Int) - (Sea.aP s.days k).take)).toNat=Sea.never
    . have hpk:pick (dW s k fill aY next) b ((j:Int) - (Sea.aP s.days k).take)=b:=by
       unfold pick dW
       rw[if_pos he,if_neg (by omega)]
      rw[hpk]
      refine⟨?_,?_⟩
      . simp only
        rw[if_neg (by rintro⟨-,h,-⟩;omega)]
      . rcases h2 with h|⟨u,h3,h4,h5⟩
        . exact .inl h
        . exact .inr ⟨u,h3,by simp[h4],h5⟩
    . by_cases hlt:s.cost k ((j:Int) - (Sea.aP s.days k).take)+Sea.at0 next (fill+aY+((j:Int) - (Sea.aP s.days k).take)).toNat<b.1
      . have hpk:pick (dW s k fill aY next) b ((j:Int) - (Sea.aP s.days k).take)=(s.cost k ((j:Int) - (Sea.aP s.days k).take)+Sea.at0 next (fill+aY+((j:Int) - (Sea.aP s.days k).take)).toNat,some ((j:Int) - (Sea.aP s.days k).take)):=by
         unfold pick dW
         rw[if_neg he,if_pos hlt]
        rw[hpk]
        refine⟨?_,.inr ⟨_,rfl,by simp,by simp only[];omega⟩⟩
        simp only
        rw[if_pos ⟨hr,by omega,hlt⟩]
        rfl
      . have hpk:pick (dW s k fill aY next) b ((j:Int) - (Sea.aP s.days k).take)=b:=by
         unfold pick dW
         rw[if_neg he,if_neg hlt]
        rw[hpk]
        refine⟨?_,?_⟩
        . simp only
          rw[if_neg (by rintro⟨-,-,h⟩;omega)]
        . rcases h2 with h|⟨u,h3,h4,h5⟩
          . exact .inl h
          . exact .inr ⟨u,h3,by simp[h4],h5⟩
theorem S9 (s:Sea.S)(k:Nat)(fill aY:Int)(next:List Int)(hn:∀i,Sea.at0 next i<=Sea.never) :
    s.least k fill aY next=((cZ (dW s k fill aY next) (dC s k fill aY)).1,(cZ (dW s k fill aY next) (dC s k fill aY)).2.getD 0) /\
     (((cZ (dW s k fill aY next) (dC s k fill aY)).2=none/\(cZ (dW s k fill aY next) (dC s k fill aY)).1=Sea.never) \/
      (∃u,(cZ (dW s k fill aY next) (dC s k fill aY)).2=some u/\u ∈ dC s k fill aY/\(cZ (dW s k fill aY next) (dC s k fill aY)).1<Sea.never)) :=
 Xg s k fill aY next hn _
theorem Qv {s:Sea.S}{k:Nat}{fill aY u:Int}(ok:Sea.Ok s)(hk:k<s.days.length)(h:u ∈ dC s k fill aY) :
    -100<=u/\u<=100/\s.rule k fill aY u=1/\0<=fill+aY+u/\fill+aY+u<=s.space:=by
 unfold dC eu at h
 rw[List.mem_filter,List.mem_map] at h
 obtain⟨⟨j,hj,rfl⟩,hp⟩:=h
 rw[List.mem_range] at hj
 have hd:=ok.days k hk
 have hr:s.rule k fill aY ((j:Int) - (Sea.aP s.days k).take)=1:=by simpa [zL] using hp
 have:=ad3 hr (by omega) (by omega)
 exact⟨by omega,by omega,hr,this.1,this.2⟩
open Go.RowKit
def aet (w:World)(ov:Value)(n i:Nat)(ev:Value):Prop :=
 ∃ob oo cap,ov=.slice (some ⟨ob,oo,none⟩) n cap/\n<=9223372036854775807/\i<n/\w.cell? ⟨ob,oo+i,none⟩=some ev
theorem anE (lv mv:Value)(s:Sea.S)(k:Nat)(fill aY u:Int)(w:World)(bo bd n:Nat)(ov ev:Value)(next:List Int)(hl:dH w lv mv s)(hk:k<s.days.length)(ok:Sea.Ok s)
    (b1:0<=fill/\fill<=100) (b2 : -100<=aY/\aY<=100) (b3 : -100<=u/\u<=100) (hi:0<=fill+aY+u) (hi2:fill+aY+u<next.length)
    (hbd : -Sea.never<=Sea.at0 next (fill+aY+u).toNat/\Sea.at0 next (fill+aY+u).toNat<=Sea.never)
    (c0:w.cell? ⟨bo,0,none⟩=some ov) (c1:w.cell? ⟨bd,0,none⟩=some (.int .i64 k)) (he:aet w ov n (k+1) ev) (hv:bK w ev next) (hn:n<=100) :
    Calls Tryz.prog 115 #[lH lv k fill aY u,.pointer (some ⟨bo,0,none⟩),.pointer (some ⟨bd,0,none⟩)] w (dI (.int .i64 (dW s k fill aY next u)) w):=by
 obtain⟨ob,oo,cap,rfl,hm,hin,ce⟩:=he
 have Yz:=World.block_lt_of_cell? w ⟨bo,0,none⟩ c0
 have hbd2:=World.block_lt_of_cell? w ⟨bd,0,none⟩ c1
 have hbe:=World.block_lt_of_cell? w ⟨ob,oo+(k+1),none⟩ ce
 simp only at Yz hbd2 hbe
 have hw:∀w1,Kc w w1->Calls Tryz.prog 64 #[lH lv k fill aY u,ev] w1 (dI (.int .i64 (dW s k fill aY next u)) w1) :=
  fun w1 h=>XV lv mv s k fill aY u w1 ev next (hl.kc h) hk ok b1 b2 b3 (hv.kc h) hi hi2 hbd
 clear hv hi hi2 hbd b1 b2 b3 ok hk hl
 have hin':(k:Int)+1<(n:Int):=by omega
 go_enter Tryz.func115,Tryz.ntmps115
 go_wp2
 generalize hW:w.alloc (zk _ k fill aY u)=W
 obtain⟨hsz,hBw,q0,q1,q2,q3,q4⟩:=yz hW
 clear hW
 have d0:=ae hBw c0
 have d1:=ae hBw c1
 have d2:=ae hBw ce
 have hs:=hBw.size
 have asR:bo<W.heap.size:=by omega
 have amv:bd<W.heap.size:=by omega
 have asQ:ob<W.heap.size:=by omega
 clear c0 c1 ce
 have hg:=az W
 refine aH (by kernel_rfl) (by kernel_rfl) ?_
 repeat (go_big_quiet_step ((first|(go_at_call 64;exact Calls.grow (hw _ (Kc.of (hBw.trans ((Grow.h _).mono hBw.size))))))))
 refine wpQuiet_nil ?_
 rintro _ ⟨g,rfl⟩
 go_wp2
 go_ret
 exact⟨rfl,hBw.trans (g.h.mono hBw.size)⟩
def Ap (w:World)(v:Value)(lv:Value)(k:Nat)(fill aY:Int):Prop :=
 ∃n,v=.func (.func 116) #[] #[.pointer (some ⟨n,0,none⟩),.pointer (some ⟨n+1,0,none⟩),.pointer (some ⟨n+2,0,none⟩)] /\
  w.cell? ⟨n,0,none⟩=some lv/\w.cell? ⟨n+1,0,none⟩=some (.int .i64 k)/\w.cell? ⟨n+1,1,none⟩=some (.int .i64 fill)/\w.cell? ⟨n+2,0,none⟩=some (.int .i64 aY)
theorem Ap.mono {w w':World}{v lv:Value}{k:Nat}{fill aY:Int}(h:Ap w v lv k fill aY)(hb:Kc w w'):Ap w' v lv k fill aY:=by
 obtain⟨n,rfl,h0,h1,h2,h3⟩:=h
 exact⟨n,rfl,hb.cell _ _ _ h0,hb.cell _ _ _ h1,hb.cell _ _ _ h2,hb.cell _ _ _ h3⟩
theorem Uc {w W:World}{a b c:Obj}(h:((w.alloc a).alloc b).alloc c=W) :
    W.heap[w.heap.size]? = some a/\W.heap[w.heap.size+1]? = some b/\W.heap[w.heap.size+2]? = some c/\W.heap.size=w.heap.size+3/\Below w.heap.size w W:=by
 subst h
 have e1:=World.alloc_heap_new (w.alloc a) b
 have e2:=World.alloc_heap_new ((w.alloc a).alloc b) c
 simp only[World.size_alloc] at e1 e2
 refine⟨?_,?_,e2,by simp,((((Below.refl _ _).alloc (Nat.le_refl _) _).alloc (by simp) _).alloc (by simp;omega) _)⟩
 . exact(Below.heap_alloc _ _ _ (by simp;omega)).trans ((Below.heap_alloc _ _ _ (by simp)).trans (World.alloc_heap_new w a))
 . exact(Below.heap_alloc _ _ _ (by simp)).trans e1
theorem QF (lp:Option Addr)(k:Nat)(fill aY:Int)(w:World) :
    Calls Tryz.prog 62 #[.pointer lp,.agg #[.int .i64 k,.int .i64 fill],.int .i64 aY] w fun e w' =>
     ∃v,e=.returned v/\Ap w' v (.pointer lp) k fill aY/\Below w.heap.size w w':=by
 go_enter Tryz.func62,Tryz.ntmps62
 go_wp2
 go_ret
 generalize hW:((w.alloc _).alloc _).alloc _=W
 obtain⟨n0,n1,n2,-,hB⟩:=Uc hW
 exact⟨_,rfl,⟨w.heap.size,rfl,(ah n0).2.1 0,(ah n1).2.1 0,(ah n1).2.1 1,(ah n2).2.1 0⟩,hB⟩
theorem YY:∀(args:Array Value)(w:World),(callFunc 116 args).run Tryz.prog w=.ok (.enter 116 args) w:=fun _ _=>by kernel_rfl
theorem Nv (lv mv v:Value)(s:Sea.S)(k:Nat)(fill aY:Int)(num:Int->Int)(nf:Nat)(nb:Array Value)(w:World)(S:Nat->Prop)(Inv:World->Prop)
    (hl:dH w lv mv s) (hk:k<s.days.length) (ok:Sea.Ok s) (b1:0<=fill/\fill<=100) (b2 : -100<=aY/\aY<=100) (hv:Ap w v lv k fill aY)
    (en:∀args w,(callFunc nf args).run Tryz.prog w=.ok (.enter nf args) w) (hS:∀b o v,w.cell? ⟨b,o,none⟩=some v->S b) (hS2:∀k,S k->k<w.heap.size)
    (h0:Inv w) (hInv:∀X Y,Inv X->Below w.heap.size X Y->Inv Y)
    (hnum:∀u,u ∈ dC s k fill aY->∀X,Kept S w X->w.heap.size<=X.heap.size->Inv X->Calls Tryz.prog nf (#[lH lv k fill aY u] ++ nb) X fun e X'=>e=.returned (.int .i64 (num u))/\Kept (fun b=>S b\/w.heap.size<=b) X X'/\Inv X') :
    Calls Tryz.prog 61 #[v,.func (.func nf) #[] nb] w fun e w' =>
     e=.returned (.tuple #[.agg (adz lv k fill aY (cZ num (dC s k fill aY)).2),.int .i64 (cZ num (dC s k fill aY)).1,.bool (decide ((cZ num (dC s k fill aY)).1<Sea.never))])/\Kept S w w'/\Inv w':=by
 obtain⟨n,rfl,c0,c1,c2,c3⟩:=hv
 obtain⟨lb,hlb⟩:∃lp,lv=.pointer lp:=by obtain⟨b,_,_,h,_⟩:=hl;exact⟨_,h⟩
 subst hlb
 exact adJ lb k fill aY (dC s k fill aY) num _ nf _ nb w S Inv YY en
  (RF mv s k fill aY w S _ n (n+1) (n+2) hl hk ok b1 b2 c0 c1 c2 c3 hS) hS2 h0 hInv hnum
theorem Bf (lv mv v:Value)(s:Sea.S)(k:Nat)(fill aY:Int)(num:Int->Int)(nf:Nat)(nb:Array Value)(w:World)
    (hl:dH w lv mv s) (hk:k<s.days.length) (ok:Sea.Ok s) (b1:0<=fill/\fill<=100) (b2 : -100<=aY/\aY<=100) (hv:Ap w v lv k fill aY)
    (en:∀args w,(callFunc nf args).run Tryz.prog w=.ok (.enter nf args) w)
    (hnum:∀u,u ∈ dC s k fill aY->∀X,Below w.heap.size w X->Calls Tryz.prog nf (#[lH lv k fill aY u] ++ nb) X (dI (.int .i64 (num u)) X)) :
    Calls Tryz.prog 61 #[v,.func (.func nf) #[] nb] w fun e w' =>
     e=.returned (.tuple #[.agg (adz lv k fill aY (cZ num (dC s k fill aY)).2),.int .i64 (cZ num (dC s k fill aY)).1,.bool (decide ((cZ num (dC s k fill aY)).1<Sea.never))])/\Below w.heap.size w w':=by
 refine(Nv lv mv v s k fill aY num nf nb w (fun b=>b<w.heap.size) (fun _=>True) hl hk ok b1 b2 hv en (fun b o v h=>World.block_lt_of_cell? w ⟨b,o,none⟩ h) (fun _ h=>h) trivial (fun _ _ _ _=>trivial) ?_).mono ?_
 . intro u hu X hX hs _
   refine(hnum u hu X (hX.below (Nat.le_refl _) fun _ h=>h)).mono ?_
   rintro e X' ⟨he,hb⟩
   exact⟨he,.all hb,trivial⟩
 . rintro e w' ⟨he,hk,-⟩
   exact⟨he,hk.below (Nat.le_refl _) fun _ h=>h⟩
