/- Walks. -/
import Derived.Test.YtkjdidieiioijaaGreatK00
import Derived.WalkKit
import Derived.WalkSmall
import Derived.Deep.QuietTactic
import Derived.BigQuiet
import Derived.StillTail
import Derived.RangeFuncRecord
import Derived.Laws.Tables
import Derived.RangeFuncNested
import Derived.RangeFuncBound
import Derived.RangeFuncCalls
import Derived.RangeFuncLeaves
set_option linter.all false
set_option maxRecDepth 100000
set_option maxHeartbeats 16000000
namespace Go
open Go.RowKit
structure Grow (w:World) where
 x:World
 h:Below w.heap.size w x
def Grow.self (w:World):Grow w:=⟨w,Below.refl _ _⟩
instance (w:World):Nonempty (Grow w):=⟨Grow.self w⟩
theorem Grow.cell {w:World}(g:Grow w){b o:Nat}{v:Value}(h:w.cell? ⟨b,o,none⟩=some v):g.x.cell? ⟨b,o,none⟩=some v :=
 (g.h.cell (p:=⟨b,o,none⟩) (World.block_lt_of_cell? w ⟨b,o,none⟩ h)).trans h
theorem Grow.size {w:World}(g:Grow w):w.heap.size<=g.x.heap.size:=g.h.size
theorem Grow.step {w W w1:World}(h:Below w.heap.size w W)(hb:Below W.heap.size W w1):∃g:Grow w,w1=g.x :=
 ⟨⟨w1,h.trans (hb.mono h.size)⟩,rfl⟩
theorem Grow.next {w w1:World}(g:Grow w)(hb:Below g.x.heap.size g.x w1):∃g':Grow w,w1=g'.x:=Grow.step g.h hb
theorem Grow.alloc {w:World}(g:Grow w)(o:Obj):∃g':Grow w,g.x.alloc o=g'.x:=Grow.step (g.h.alloc g.h.size o) (Below.refl _ _)
theorem aH {P:Program}{id:Nat}{Q:Exit->Act->World->Prop}{a:Act}{w:World}{l:List Oper}(hm:P.follows .mixedOrders=true)(hB:Region.lexB .any l.toArray=true)
    (h:wpQuiet P l.toArray (fun w'=>∃g:Grow w,w'=g.x) (fun a'=>∀w',(∃g:Grow w,w'=g.x)->Q .normal a' w') l a):(Code.region id l.toArray true).wp P Q a w :=
 wp_region_quiet (C:=fun w'=>∃g:Grow w,w'=g.x) hm hB ⟨⟨w.drew,(Below.refl _ _).drew⟩,rfl⟩ (by simpa using h)
theorem Calls.grow {P:Program}{f:FuncId}{args:Array Value}{w:World}{g:Grow w}{v:Value}
    (h:Calls P f args g.x fun e w'=>e=.returned v/\Below g.x.heap.size g.x w'):Calls P f args g.x fun e w''=>e=.returned v/\∃g':Grow w,w''=g'.x :=
 h.mono fun _ _ ⟨he,hb⟩=>⟨he,g.next hb⟩
theorem Calls.nM {P:Program}{f:FuncId}{args:Array Value}{w:World}{g:Grow w}{v:Value}
    (h:Calls P f args g.x fun e w'=>e=.returned v/\g.x=w'):Calls P f args g.x fun e w''=>e=.returned v/\∃g':Grow w,w''=g'.x :=
 h.mono fun _ _ ⟨he,hb⟩=>⟨he,g,hb.symm⟩
theorem az (W:World):∀(g:Grow W)(b o:Nat),b<W.heap.size->g.x.cell? ⟨b,o,none⟩=W.cell? ⟨b,o,none⟩ :=
 fun g b o h=>g.h.cell (p:=⟨b,o,none⟩) h
theorem dR {W w1:World}(hb:Below W.heap.size W w1):∀(b o:Nat),b<W.heap.size->w1.cell? ⟨b,o,none⟩=W.cell? ⟨b,o,none⟩ :=
 fun b o h=>hb.cell (p:=⟨b,o,none⟩) h
theorem dJ {W w1:World}(hb:Below W.heap.size W w1):∀(b o:Nat),b<W.heap.size->w1.frozen? ⟨b,o,none⟩=W.frozen? ⟨b,o,none⟩ :=
 fun b o h=>hb.frozen (p:=⟨b,o,none⟩) h
theorem dG (W:World):∀(g:Grow W)(b o:Nat),b<W.heap.size->g.x.frozen? ⟨b,o,none⟩=W.frozen? ⟨b,o,none⟩ :=
 fun g b o h=>g.h.frozen (p:=⟨b,o,none⟩) h
theorem Grow.lt {W:World}(g:Grow W){b:Nat}(h:b<W.heap.size):b<g.x.heap.size:=bM h g.size
end Go
namespace Go.Sd
open Go Go.RowKit
/-! ### A call has one value -/
def mO : Frame := { (default : Frame) with todo := [.code (.refuse "")], mode := .run }
theorem Yl (v:Value):mO.finish v=mO:=rfl
theorem ad5 (P:Program)(w:World):∃o,step P (lone mO [] w)=.ended o w :=
 ⟨_,step_lone_ended (by simp only[stepG,stepG.exec,mO,GStep.bare];rfl)⟩
theorem TW {P:Program} : ∀(n k:Nat)(m m1:Machine),runN P n m=.next m1->runN P (n+k) m=runN P k m1
 | 0,k,m,m1,h=>by simp[runN] at h;subst h;simp
 | n+1,k,m,m1,h=>by
  rw[Nat.succ_add]
  simp only[runN] at h ⊢
  cases hs:step P m with
  | next m'=>rw[hs] at h;exact TW n k m' m1 h
  | ended o w=>rw[hs] at h;cases h
theorem Xx {fr fr':Frame}{cs cs':List Frame}{w w':World}(h:lone fr cs w=lone fr' cs' w'):fr=fr'/\cs=cs'/\w=w':=by
 unfold lone at h
 injection h with h1 h2
 simp at h2
 exact⟨h2.1,h2.2,h1⟩
theorem Lh {P:Program}{fr1 fr2:Frame}{w1 w2:World}{v1 v2:Value}{n k:Nat}{m:Machine}(h1:runN P n m=.next (lone fr1 [mO] w1))(h2:runN P (n+k) m=.next (lone fr2 [mO] w2))
    (l1:fr1.leaving P w1 (.returned v1)) (l2:fr2.leaving P w2 (.returned v2)):v1=v2:=by
 rw[TW n k m _ h1] at h2
 have hs:=step_leave_returned (c:=mO) (cs:=[]) l1
 rw[Yl] at hs
 match k with
 | 0 =>
  simp[runN] at h2
  obtain⟨rfl,-,rfl⟩:=Xx h2
  obtain⟨_,_,_,fn,hf,hr⟩:=l1
  obtain⟨_,_,_,fn',hf',hr'⟩:=l2
  rw[hf] at hf'
  cases hf'
  rw[hr] at hr'
  cases hr'
  rfl
 | 1 =>
  simp only[runN,hs] at h2
  have:=Xx (by simpa using h2)
  simp at this
 | k+2 =>
  obtain⟨o,ho⟩:=ad5 P w1
  simp only[runN,hs,ho] at h2
  cases h2
theorem Calls.det {P:Program}{f:FuncId}{args:Array Value}{w:World}{v1 v2:Value}{R1 R2:World->Prop}
    (h1:Calls P f args w fun e w'=>e=.returned v1/\R1 w') (h2:Calls P f args w fun e w'=>e=.returned v2/\R2 w'):v1=v2:=by
 obtain⟨e1,w1,fr1,⟨rfl,-⟩,⟨n1,s1⟩,-,l1⟩:=h1 [mO]
 obtain⟨e2,w2,fr2,⟨rfl,-⟩,⟨n2,s2⟩,-,l2⟩:=h2 [mO]
 rcases Nat.le_total n1 n2 with h|h
 . obtain⟨k,rfl⟩:=Nat.exists_eq_add_of_le h
   exact Lh s1 s2 l1 l2
 . obtain⟨k,rfl⟩:=Nat.exists_eq_add_of_le h
   exact(Lh s2 s1 l2 l1).symm
theorem TN {P:Program}{o:Oper}{a:Act}{C1 C2:World->Prop}{w:World}{v1 v2:Value}(h1:o.quietAt P a C1 w v1)(h2:o.quietAt P a C2 w v2):v1=v2:=by
 unfold Oper.quietAt at h1 h2
 generalize (execOp a.eval o).run P w=r at h1 h2
 cases r with
 | ok n w' =>
  cases n <;> simp only[Oper.quietUpon] at h1 h2
  case value u=>exact h1.2.symm.trans h2.2
  case skip=>exact h1.2.trans h2.2.symm
  case enter f args=>exact Calls.det h1.2 h2.2
 | halt x w'=>simp only[Oper.quietUpon] at h1
/-! ### What a growth is -/
structure PI (G:World->World->Prop):Prop where
 refl:∀w,G w w
 trans:∀a b c,G a b->G b c->G a c
 alloc:∀w o,G w (w.alloc o)
 drew:∀w,G w w.drew
 size:∀w w',G w w'->w.heap.size<=w'.heap.size
 own:∀W w (n:Nat) cs,G W w->W.heap.size<=n->G W (w.setRow n cs)
 kept:∀w w',G w w'->∀(n:Nat) c e f,w.heap[n]? = some (.cells c e f)->w'.heap[n]? = some (.cells c e f)
theorem h_:PI fun w w'=>Below w.heap.size w w' where
 refl w:=Below.refl _ w
 trans a b c h k:=h.trans (k.mono h.size)
 alloc w o:=(Below.refl _ _).alloc (Nat.le_refl _) _
 drew w:=(Below.refl _ _).drew
 size w w' h:=h.size
 own W w n cs h hn:=h.trans ⟨rfl,rfl,rfl,by simp,fun k hk=>setRow_other w n k cs (by omega)⟩
 kept w w' h n c e f hn:=(h.block n (aF hn)).trans hn
structure Gr (G:World->World->Prop)(w:World) where
 x:World
 h:G w x
/-! ### The region -/
structure Al where
 i:Nat
 d:Tmp
 e:TypeId
 c:Array Value
def blank (o:Oper):Oper:={ o with op:=.move (.const undef) }
/-! ### From the walk that leaves the variables out to the region itself -/
theorem count_set:∀(l:List Bool)(i:Nat),l[i]? = some false->(l.set i true).count false+1=l.count false
 | [],i,h=>by simp at h
 | x :: l,0,h=>by simp at h;subst h;simp
 | x :: l,i+1,h=>by
  have:=count_set l i (by simpa using h)
  simp only[List.set_cons_succ,List.count_cons]
  omega
theorem aal {a b:Act}(h1:a.tmps=b.tmps)(h2:a.defers=b.defers):a=b:=by
 cases a;cases b;simp at h1 h2;subst h1;subst h2;rfl
section
variable {P:Program}{G:World->World->Prop}{n:Nat}{al:List Al}{l:List Oper}{Q:Exit->Act->World->Prop}{W:World}
theorem y_:∀(n:Nat)(L:Array Bool),(∃i,i<n/\L.getD i false=false)->∃i,i<n/\L.getD i false=false/\∀j,j<i->L.getD j false=true
 | 0,L,⟨i,h,_⟩=>by omega
 | n+1,L,h=>by
  by_cases h0:∃i,i<n/\L.getD i false=false
  . obtain⟨i,h1,h2,h3⟩:=y_ n L h0
    exact⟨i,by omega,h2,h3⟩
  . obtain⟨i,h1,h2⟩:=h
    have:i=n:=by
     rcases Nat.lt_or_ge i n with h|h
     . exact absurd ⟨i,h,h2⟩ h0
     . omega
    subst this
    refine⟨i,h1,h2,fun j hj=>?_⟩
    cases hb:L.getD j false with
    | true=>rfl
    | false=>exact absurd ⟨j,hj,hb⟩ h0
theorem mG {α:Type}(f:α->Nat):∀(l:List α),(l.map f).Nodup->∀q ∈ l,∀p ∈ l,f q=f p->q=p
 | [],_,q,hq,_,_,_=>by cases hq
 | x :: l,h,q,hq,p,hp,e=>by
  simp only[List.map_cons,List.nodup_cons] at h
  rcases List.mem_cons.1 hq with h1|h1 <;> rcases List.mem_cons.1 hp with h2|h2
  . rw[h1,h2]
  . subst h1;exact absurd (List.mem_map.2 ⟨p,h2,e.symm⟩) h.1
  . subst h2;exact absurd (List.mem_map.2 ⟨q,h1,e⟩) h.1
  . exact mG f l h.2 q h1 p h2 e
end
structure Va where
 i:Nat
 d:Tmp
 e:TypeId
 c:Array Value
 j:Nat
 x:Operand
def fG (va:List Va)(i:Nat):Bool:=va.any fun p=>p.i == i || p.j == i
def fM (va:List Va)(l:List Oper):List Oper:=l.zipIdx.map fun(o,i)=>if fG va i then blank o else o
def VI (va:List Va)(l:List Oper):Bool :=
 Region.lexB .any (fM va l).toArray && Region.noSelect l.toArray &&
 (va.all fun p=>(match l[p.i]? with
  | some o=>(match o.op with | .alloc e=>e == p.e|_=>false) && o.dst == some p.d && o.guard.isNone
  | none=>false) &&
  (match l[p.j]? with
  | some o=>(match o.op with | .store e (.tmp d) x=>e == p.e && d == p.d && (match x,p.x with | .tmp s,.tmp s'=>s == s' | .const _,.const _=>false|_,_=>false)|_=>false) && o.dst.isNone && o.guard.isNone &&
      o.after.any (fun e=>Region.binds .any e && e.on == p.i) &&
      (match p.x with
       | .tmp s=>(va.all fun q=>q.d != s) && (List.range l.length).all fun k=>match l[k]? with
          | some ok=>ok.dst != some s || o.after.any (fun e=>Region.binds .any e && e.on == k)
          | none=>true
       | _=>false)
  | none=>false)) &&
 ((List.range l.length).all fun i=>match l[i]? with
  | some o=>(fG va i || (va.all fun p=>!(o.looksAt l.toArray).contains p.d && o.dst != some p.d)) &&
      o.after.all fun e=>!Region.binds .any e || decide (e.on<i)
  | none=>true) &&
 decide ((va.map (·.d)).Nodup) && decide ((va.map (·.i)).Nodup) && decide ((va.map (·.j)).Nodup) && (va.all fun p=>va.all fun q=>p.i != q.j)
theorem Vd {va:List Va}{l:List Oper}(i:Nat):(fM va l).toArray[i]? = (l[i]?).map fun o=>if fG va i then blank o else o:=by
 simp[fM,List.getElem?_map,List.getElem?_zipIdx,Option.map_map,Function.comp_def]
theorem Td {va:List Va}{l:List Oper}(i:Nat):((fM va l).toArray[i]?).map (·.after)=(l[i]?).map (·.after):=by
 rw[Vd]
 cases l[i]? with
 | none=>rfl
 | some o=>simp only[Option.map_some];split <;> rfl
theorem abb {va:List Va}{l:List Oper}(i:Nat):((fM va l).toArray[i]?).bind (·.dst)=(l.toArray[i]?).bind (·.dst):=by
 rw[Vd]
 simp only[List.getElem?_toArray]
 cases l[i]? with
 | none=>rfl
 | some o=>simp only[Option.map_some,Option.bind_some];split <;> rfl
theorem zf {va:List Va}{l:List Oper}(o:Oper)(bt:Array Value):Region.wanted o (yielded (fM va l).toArray bt)=Region.wanted o (yielded l.toArray bt):=by
 unfold Region.wanted
 cases o.guard with
 | none=>rfl
 | some gw=>simp only[yielded,abb]
theorem Tf {va:List Va}{l:List Oper}{L:Array Bool} : Region.ready .any (fM va l).toArray L=Region.ready .any l.toArray L:=by
 unfold Region.ready
 have hs:(fM va l).toArray.size=l.toArray.size:=by simp[fM]
 rw[hs]
 congr 1
 funext i
 congr 1
 have h:=Td (va:=va) (l:=l) i
 have e:l.toArray[i]? = l[i]?:=by simp
 rw[e]
 cases h1:(fM va l).toArray[i]? <;> cases h2:l[i]? <;> rw[h1,h2] at h <;> simp at h
 simp only[Option.map_some,h]
def content (L:Array Bool)(b:Act)(p:Va):Array Value:=if L.getD p.j false then(b.eval p.x).cells else p.c
structure Rv (va:List Va)(ν:Nat->Nat)(W:World)(L:Array Bool)(a b:Act)(w:World):Prop where
 size:a.tmps.size=b.tmps.size
 defers:a.defers=b.defers
 same:∀t,(∀p ∈ va,p.d≠t)->a.tmps[t]? = b.tmps[t]?
 made:∀p ∈ va,L.getD p.i false=true->a.tmps[p.d]? = some (.pointer (some ⟨ν p.i,0,none⟩))/\W.heap.size<=ν p.i/\w.heap[ν p.i]? = some (.cells (content L b p) p.e)
 apart:∀p ∈ va,∀q ∈ va,L.getD p.i false=true->L.getD q.i false=true->p.i≠q.i->ν p.i≠ν q.i
theorem acw {va:List Va}{ν:Nat->Nat}{W w:World}{L:Array Bool}{a b:Act}(h:Rv va ν W L a b w)(x:Operand)(hx:∀p ∈ va,x≠.tmp p.d):a.eval x=b.eval x:=by
 cases x with
 | tmp t =>
  have:=h.same t (fun p hp e=>hx p hp (by rw[e]))
  simp only[Act.eval,Array.getD_eq_getD_getElem?,this]
 | _=>rfl
theorem akn {va:List Va}{ν:Nat->Nat}{W w:World}{L:Array Bool}{a b:Act}{ops:Array Oper}(h:Rv va ν W L a b w)(o:Oper)(hs:∀cs b,o.op≠.select cs b)
    (ho:∀p ∈ va,p.d ∉ o.looksAt ops):execOp a.eval o=execOp b.eval o :=
 execOp_congr o hs fun x hx=>acw h x fun p hp e=>ho p hp (List.mem_append_left _ (List.mem_filterMap.2 ⟨x,by simpa using hx,by rw[e]⟩))
theorem ad4 {va:List Va}{ν:Nat->Nat}{W w:World}{L:Array Bool}{a b:Act}{ops:Array Oper}(h:Rv va ν W L a b w)(o:Oper)
    (ho:∀p ∈ va,p.d ∉ o.looksAt ops):Region.wanted o (yielded ops a.tmps)=Region.wanted o (yielded ops b.tmps):=by
 unfold Region.wanted
 cases hg:o.guard with
 | none=>rfl
 | some gw =>
  obtain⟨g,want⟩:=gw
  have hy:yielded ops a.tmps g=yielded ops b.tmps g:=by
   unfold yielded
   cases ht:(ops[g]?).bind (·.dst) with
   | none=>rfl
   | some t =>
    have:=h.same t (fun p hp e=>ho p hp (by subst e;simp[Oper.looksAt,hg,ht]))
    simp only[Option.bind_some,this]
  simp only[hy]
def Fits (p:Va)(v:Value):Prop:=v.cells.size=p.c.size/\v.cells.all (·.oneCell')=true
def Vars (W w:World)(va:List Va)(ns:List Nat)(b:Act):Prop :=
 ns.length=va.length/\ns.Nodup/\∀(j:Nat) (p:Va) (m:Nat),va[j]? = some p->ns[j]? = some m->W.heap.size<=m/\w.heap[m]? = some (.cells (b.eval p.x).cells p.e)
def iQ:List Va->List Nat->Act->Act
 | p :: va,m :: ns,a=>iQ va ns (a.put (some p.d) (.pointer (some ⟨m,0,none⟩)))
 | _,_,a=>a
theorem zu:∀(va:List Va)(ns:List Nat)(a:Act)(t:Tmp),(∀p ∈ va,p.d≠t)->(iQ va ns a).tmps[t]? = a.tmps[t]?
 | [],ns,a,t,_=>by cases ns <;> rfl
 | p :: va,[],a,t,_=>rfl
 | p :: va,m :: ns,a,t,h=>by
  simp only[iQ]
  rw[zu va ns _ t (fun q hq=>h q (List.mem_cons_of_mem _ hq))]
  simp only[Act.put]
  exact Array.getElem?_setIfInBounds_ne (h p (List.mem_cons_self ..))
theorem Bc:∀(va:List Va)(ns:List Nat)(a:Act),(iQ va ns a).tmps.size=a.tmps.size/\(iQ va ns a).defers=a.defers
 | [],ns,a=>by cases ns <;> exact⟨rfl,rfl⟩
 | p :: va,[],a=>⟨rfl,rfl⟩
 | p :: va,m :: ns,a=>by
  simp only[iQ]
  obtain⟨h1,h2⟩:=Bc va ns (a.put (some p.d) (.pointer (some ⟨m,0,none⟩)))
  exact⟨by rw[h1];simp[Act.put],by rw[h2];rfl⟩
theorem JK:∀(va:List Va)(f:Nat->Nat)(a:Act),(va.map (·.d)).Nodup->∀p ∈ va,p.d<a.tmps.size ->
    (iQ va (va.map fun p=>f p.i) a).tmps[p.d]? = some (.pointer (some ⟨f p.i,0,none⟩))
 | [],f,a,_,p,hp,_=>by cases hp
 | q :: va,f,a,hn,p,hp,hlt=>by
  simp only[List.map_cons,List.nodup_cons] at hn
  simp only[List.map_cons,iQ]
  rcases List.mem_cons.1 hp with rfl|hp
  . rw[zu va _ _ _ (fun r hr e=>hn.1 (List.mem_map.2 ⟨r,hr,e⟩))]
    simp[Act.put,hlt]
  . exact JK va f _ hn.2 p hp (by simpa [Act.put] using hlt)
section
variable {P:Program}{G:World->World->Prop}{va:List Va}{l:List Oper}{Q:Exit->Act->World->Prop}{W:World}
def yM (G:World->World->Prop)(va:List Va)(Q:Exit->Act->World->Prop)(W:World)(b:Act):Prop :=
 (∀p ∈ va,Fits p (b.eval p.x))/\∀ns w',G W w'->Vars W w' va ns b->Q .normal (iQ va ns b) w'
theorem complete {hd:List Oper}{C:World->Prop}{K:Act->Prop}(hlow:∀(i:Nat)(o:Oper),hd[i]? = some o->∀e ∈ o.after,Region.binds .any e=true->e.on<i) :
    ∀(F:Nat) (L:Array Bool) (b:Act),L.size=hd.length->L.toList.count false=F->wpAnyQ P .any hd.toArray C K F L b ->
     ∃bf,K bf/\∀t,(∀(i:Nat) (o:Oper),hd[i]? = some o->L.getD i false=false->o.dst≠some t)->bf.tmps[t]? = b.tmps[t]?
 | 0,L,b,_,_,h=>⟨b,h.2,fun _ _=>rfl⟩
 | F+1,L,b,hs,hF,h=>by
  have hex:∃i,i<hd.length/\L.getD i false=false:=by
   have hpos:0<L.toList.count false:=by omega
   have hm:=List.count_pos_iff.1 hpos
   obtain⟨i,hi⟩:=List.mem_iff_getElem?.1 hm
   have hi':L[i]? = some false:=by simpa using hi
   have hlt:=(aF hi')
   refine⟨i,by omega,?_⟩
   rw[Array.getD_eq_getD_getElem?,hi']
   rfl
  obtain⟨i,hi,hun,hbef⟩:=y_ hd.length L hex
  have hiL:i<L.size:=by omega
  have hr:i ∈ Region.ready .any hd.toArray L:=by
   rw[mem_ready]
   exact⟨getD_in hiL hun,hd[i],by simp,fun e he hb=>hbef _ (hlow i _ (List.getElem?_eq_getElem hi) e he hb)⟩
  obtain⟨v,-,hK⟩:=yieldsIn_of_qOp (o:=hd[i]) (by simp) (h.2 i hr)
  have hcnt:(L.setIfInBounds i true).toList.count false=F:=by
   have h1:L.toList[i]? = some false:=by
    rw[Array.getD_eq_getD_getElem?,Array.getElem?_eq_getElem hiL] at hun
    simp at hun
    rw[<- hun];simp[hiL]
   have h2:=count_set L.toList i h1
   have h3:(L.setIfInBounds i true).toList=L.toList.set i true:=by simp
   rw[h3]
   omega
  obtain⟨bf,hbf,hbt⟩:=complete hlow F _ _ (by simp[hs]) hcnt hK
  refine⟨bf,hbf,fun t ht=>?_⟩
  rw[hbt t fun k o hk hl=>ht k o hk ?_]
  . cases hd':hd[i].dst with
    | none=>rfl
    | some d =>
     simp only[Act.put]
     exact Array.getElem?_setIfInBounds_ne (fun e=>ht i hd[i] (List.getElem?_eq_getElem hi) hun (by rw[hd',e]))
  . by_cases hki:i=k
    . subst hki
      rw[Array.getD_eq_getD_getElem?] at hl
      simp[hiL] at hl
    . rwa [getD_set_ne false hki] at hl
theorem FZ {w:World}{n:Nat}{e:TypeId}{c:Array Value}{v:Value}(hg:w.heap[n]? = some (.cells c e))(hi:(P.info? e).map (·.size)=some c.size)(h1:v.cells.size=c.size)(h2:v.cells.all (·.oneCell')=true) :
    (Instr.storeAt e (.pointer (some ⟨n,0,none⟩)) v).run P w=.ok () (w.setRow n v.cells):=by
 have:=run_storeCells_from (P:=P) n e v.cells.toList 0 c w hg (by simp;omega) (fun u hu=>(Array.all_eq_true_iff_forall_mem.1 h2) u (by simpa using hu))
 cases hq:P.info? e with
 | none=>simp[hq] at hi
 | some i =>
  have hs:v.cells.size=i.size:=by simp[hq] at hi;omega
  simp[Instr.storeAt,Instr.sureAddr,storeVar,sizeOf,typeInfo,hq,hs,this]
theorem ahV (hG:PI G)(hok:VI va l=true)(hz:∀p ∈ va,∀w,(Instr.alloc p.e true (.tuple #[])).run P w=.ok (.pointer (some ⟨w.heap.size,0,none⟩)) (w.alloc (.cells p.c p.e)))
    (hi:∀p ∈ va,(P.info? p.e).map (·.size)=some p.c.size) :
    ∀(F:Nat) (L:Array Bool) (a b:Act) (w:World) (ν:Nat->Nat),L.toList.count false=F->L.size=l.length ->
     (∀(j:Nat) (o:Oper),l[j]? = some o->L.getD j false=true->∀e ∈ o.after,Region.binds .any e=true->L.getD e.on false=true)->(∀p ∈ va,p.d<b.tmps.size) ->
     wpAnyQ P .any (fM va l).toArray (fun w'=>∃g:Gr G W,w'=g.x) (yM G va Q W) F L b ->
     (∀x,G W x->wpAnyQ P .any (fM va l).toArray (fun w'=>∃g:Gr G x,w'=g.x) (yM G va Q W) F L b)->Rv va ν W L a b w->G W w->wpAny P .any l.toArray Q F L a w:=by
 simp only[VI,Bool.and_eq_true,decide_eq_true_eq] at hok
 obtain⟨⟨⟨⟨⟨⟨⟨hlb,hsel⟩,hva⟩,hops⟩,hnd⟩,hni⟩,hnj⟩,hij⟩:=hok
 have hlen:(fM va l).length=l.length:=by simp[fM]
 have hlow:∀(i:Nat) (o:Oper),l[i]? = some o->∀e ∈ o.after,Region.binds .any e=true->e.on<i:=by
  intro i o ho e he hb
  have h1:=List.all_eq_true.1 hops i (List.mem_range.2 (List.getElem?_eq_some_iff.1 ho).1)
  rw[ho] at h1
  simp only[Bool.and_eq_true] at h1
  have h2:=Array.all_eq_true_iff_forall_mem.1 h1.2 e he
  simpa [hb] using h2
 have hlow':∀(i:Nat) (o:Oper),(fM va l)[i]? = some o->∀e ∈ o.after,Region.binds .any e=true->e.on<i:=by
  intro i o ho e he hb
  have h1:=Td (va:=va) (l:=l) i
  have h2:(fM va l).toArray[i]? = some o:=by simpa using ho
  rw[h2] at h1
  cases ho':l[i]? with
  | none=>rw[ho'] at h1;simp at h1
  | some o' =>
   rw[ho'] at h1
   simp at h1
   exact hlow i o' ho' e (by rw[<- h1];exact he) hb
 have FU:∀p ∈ va,∃o,l[p.i]? = some o/\o.op=.alloc p.e/\o.dst=some p.d/\o.guard=none:=by
  intro p hp
  have:=List.all_eq_true.1 hva p hp
  simp only[Bool.and_eq_true] at this
  have h2:=this.1
  cases ho:l[p.i]? with
  | none=>rw[ho] at h2;cases h2
  | some o =>
   rw[ho] at h2
   simp only[Bool.and_eq_true,beq_iff_eq,Option.isNone_iff_eq_none] at h2
   refine⟨o,rfl,?_,h2.1.2,h2.2⟩
   have h3:=h2.1.1
   cases hop:o.op <;> rw[hop] at h3 <;> first|(simp only[beq_iff_eq] at h3;rw[h3])|(simp at h3)
 have qJ:∀p ∈ va,∃o s,l[p.j]? = some o/\p.x=.tmp s/\o.op=.store p.e (.tmp p.d) (.tmp s)/\o.dst=none/\o.guard=none/\(∃e ∈ o.after,Region.binds .any e=true/\e.on=p.i) /\
     (∀q ∈ va,q.d≠s)/\∀(k:Nat) (ok:Oper),l[k]? = some ok->ok.dst=some s->∃e ∈ o.after,Region.binds .any e=true/\e.on=k:=by
  intro p hp
  have:=List.all_eq_true.1 hva p hp
  simp only[Bool.and_eq_true] at this
  have h2:=this.2
  cases ho:l[p.j]? with
  | none=>rw[ho] at h2;cases h2
  | some o =>
   rw[ho] at h2
   simp only[Bool.and_eq_true,Option.isNone_iff_eq_none] at h2
   obtain⟨⟨⟨⟨h3,h4⟩,h5⟩,h6⟩,h7⟩:=h2
   cases hx:p.x with
   | tmp s =>
    rw[hx] at h7 h3
    simp only[Bool.and_eq_true] at h7
    refine⟨o,s,rfl,rfl,?_,h4,h5,?_,?_,?_⟩
    . cases hop:o.op with
      | store e ad x =>
       rw[hop] at h3
       cases ad with
       | tmp d =>
        cases x with
        | tmp s' =>
         simp only[Bool.and_eq_true,beq_iff_eq] at h3
         rw[h3.1.1,h3.1.2,h3.2]
        | _=>simp at h3
       | _=>simp at h3
      | _=>rw[hop] at h3;simp at h3
    . obtain⟨e,he,hb⟩:=Array.any_eq_true'.1 h6
      simp only[Bool.and_eq_true,beq_iff_eq] at hb
      exact⟨e,he,hb.1,hb.2⟩
    . intro q hq
      have:=List.all_eq_true.1 h7.1 q hq
      simpa using this
    . intro k ok hk hd
      have:=List.all_eq_true.1 h7.2 k (List.mem_range.2 (List.getElem?_eq_some_iff.1 hk).1)
      rw[hk] at this
      simp only[Bool.or_eq_true,bne_iff_ne,ne_eq] at this
      rcases this with h|h
      . exact absurd hd h
      . obtain⟨e,he,hb⟩:=Array.any_eq_true'.1 h
        simp only[Bool.and_eq_true,beq_iff_eq] at hb
        exact⟨e,he,hb.1,hb.2⟩
   | _=>rw[hx] at h7;simp at h7
 intro F
 induction F with
 | zero =>
  intro L a b w ν hF hs hcl hsz HE HG hrel hw
  have hall:∀i,i<l.length->L.getD i false=true:=fun i hi=>by
   cases hb:L.getD i false with
   | true=>rfl
   | false =>
    exfalso
    have hiL:i<L.size:=by omega
    rw[Array.getD_eq_getD_getElem?,Array.getElem?_eq_getElem hiL] at hb
    simp at hb
    have:false ∈ L.toList:=by rw[<- hb];simp
    have:=List.count_pos_iff.2 this
    omega
  refine⟨by rw[<- Tf (va:=va)];exact HE.1,?_⟩
  have hm:∀p ∈ va,a.tmps[p.d]? = some (.pointer (some ⟨ν p.i,0,none⟩))/\W.heap.size<=ν p.i/\w.heap[ν p.i]? = some (.cells (b.eval p.x).cells p.e):=by
   intro p hp
   obtain⟨o,ho,-⟩:=FU p hp
   obtain⟨o',_,ho',-⟩:=qJ p hp
   have:=hrel.made p hp (hall _ (List.getElem?_eq_some_iff.1 ho).1)
   unfold content at this
   rw[if_pos (hall _ (List.getElem?_eq_some_iff.1 ho').1)] at this
   exact this
  have hpl:Vars W w va (va.map fun p=>ν p.i) b:=by
   refine⟨by simp,?_,fun j p m hj hm'=>?_⟩
   . have:∀va':List Va,(∀p ∈ va',p ∈ va)->(va'.map (·.i)).Nodup->(va'.map fun p=>ν p.i).Nodup:=by
      intro va'
      induction va' with
      | nil=>intro _ _;exact List.nodup_nil
      | cons p va' ih' =>
       intro hs hnd'
       simp only[List.map_cons,List.nodup_cons] at hnd' ⊢
       refine⟨fun hmem=>?_,ih' (fun q hq=>hs q (List.mem_cons_of_mem _ hq)) hnd'.2⟩
       obtain⟨q,hq,e⟩:=List.mem_map.1 hmem
       have hpm:=hs p (List.mem_cons_self ..)
       have hqm:=hs q (List.mem_cons_of_mem _ hq)
       have hne:p.i≠q.i:=fun e'=>hnd'.1 (List.mem_map.2 ⟨q,hq,e'.symm⟩)
       obtain⟨o1,ho1,-⟩:=FU p hpm
       obtain⟨o2,ho2,-⟩:=FU q hqm
       exact hrel.apart p hpm q hqm (hall _ (List.getElem?_eq_some_iff.1 ho1).1) (hall _ (List.getElem?_eq_some_iff.1 ho2).1) hne e.symm
     exact this va (fun p hp=>hp) hni
   . have hp:p ∈ va:=List.mem_of_getElem? hj
     rw[List.getElem?_map,hj] at hm'
     cases hm'
     exact(hm p hp).2
  have ha:iQ va (va.map fun p=>ν p.i) b=a:=by
   refine aal ?_ ((Bc _ _ _).2.trans hrel.defers.symm)
   apply Array.ext_getElem?
   intro t
   by_cases ht:∃p ∈ va,p.d=t
   . obtain⟨p,hp,rfl⟩:=ht
     rw[JK va ν b hnd p hp (hsz p hp),(hm p hp).1]
   . rw[zu va _ b t (fun p hp e=>ht ⟨p,hp,e⟩)]
     exact(hrel.same t fun p hp e=>ht ⟨p,hp,e⟩).symm
  have:=HE.2.2 _ w hw hpl
  rwa [ha] at this
 | succ F ih =>
  intro L a b w ν hF hs hcl hsz HE HG hrel hw
  refine⟨fun h=>?_,fun i hi'=>?_⟩
  . exfalso
    have hex:∃i,i<l.length/\L.getD i false=false:=by
     have hpos:0<L.toList.count false:=by omega
     have hm:=List.count_pos_iff.1 hpos
     obtain⟨i,hi⟩:=List.mem_iff_getElem?.1 hm
     have hi':L[i]? = some false:=by simpa using hi
     have hlt:=(aF hi')
     exact⟨i,by omega,by rw[Array.getD_eq_getD_getElem?,hi'];rfl⟩
    obtain⟨i,hil,hun,hbef⟩:=y_ l.length L hex
    have:i ∈ Region.ready .any l.toArray L:=by
     rw[mem_ready]
     exact⟨getD_in (by omega) hun,l[i],by simp,fun e he hb=>hbef _ (hlow i _ (List.getElem?_eq_getElem hil) e he hb)⟩
    rw[h] at this
    cases this
  . obtain⟨U6,o,ho,AP⟩:=mem_ready.1 hi'
    have ho':l[i]? = some o:=by simpa using ho
    have hil:i<l.length:=(List.getElem?_eq_some_iff.1 ho').1
    have hiL:i<L.size:=by omega
    have hcnt:(L.setIfInBounds i true).toList.count false=F:=by
     have h1:L.toList[i]? = some false:=by
      rw[Array.getD_eq_getD_getElem?,Array.getElem?_eq_getElem hiL] at U6
      simp at U6
      rw[<- U6];simp[hiL]
     have h2:=count_set L.toList i h1
     have h3:(L.setIfInBounds i true).toList=L.toList.set i true:=by simp
     rw[h3]
     omega
    have hcl':∀(j:Nat) (o:Oper),l[j]? = some o->(L.setIfInBounds i true).getD j false=true->∀e ∈ o.after,Region.binds .any e=true->(L.setIfInBounds i true).getD e.on false=true:=by
     intro j oj hj hl e he hb
     by_cases hij':i=j
     . subst hij'
       rw[ho'] at hj
       cases hj
       exact getD_set_true (AP e he hb)
     . rw[getD_set_ne false hij'] at hl
       exact getD_set_true (hcl j oj hj hl e he hb)
    have hun:L.getD i false=false:=getD_both U6
    have hgood:=List.all_eq_true.1 hops i (List.mem_range.2 hil)
    rw[ho'] at hgood
    simp only[Bool.and_eq_true,Bool.or_eq_true] at hgood
    have hHi:(fM va l).toArray[i]? = some (if fG va i then blank o else o):=by rw[Vd,ho'];rfl
    have hri:i ∈ Region.ready .any (fM va l).toArray L:=by rw[Tf];exact hi'
    -- what is left out does nothing in the first walk
    have blanked:fG va i=true->o.guard=none->∀(x:World),wpAnyQ P .any (fM va l).toArray (fun w'=>∃g:Gr G x,w'=g.x) (yM G va Q W) (F+1) L b ->
        wpAnyQ P .any (fM va l).toArray (fun w'=>∃g:Gr G x,w'=g.x) (yM G va Q W) F (L.setIfInBounds i true) (b.put o.dst undef):=by
     intro hM hg x H
     have h1:=H.2 i hri
     unfold qOp at h1
     simp only[hHi,hM,if_true,blank,Region.wanted,hg] at h1
     obtain⟨v,hv,h2⟩:=h1
     have h3:=hv x ⟨⟨x,hG.refl _⟩,rfl⟩
     simp only[Oper.quietAt,execOp,pure,Sem.run,Oper.quietUpon,Act.eval] at h3
     rw[<- h3.2] at h2
     exact h2
    unfold wpOp
    simp only[ho]
    by_cases hA:∃p ∈ va,p.i=i
    . -- a variable is made
      obtain⟨p,hp,hpi⟩:=hA
      obtain⟨o2,ho2,hop,hdst,hgd⟩:=FU p hp
      rw[hpi,ho'] at ho2
      cases ho2
      have hM:fG va i=true:=List.any_eq_true.2 ⟨p,hp,by simp[hpi]⟩
      have hwant:Region.wanted o (yielded l.toArray a.tmps)=true:=by simp[Region.wanted,hgd]
      simp only[hwant,if_true]
      refine .inl ?_
      unfold Oper.wp
      have hrun:(execOp a.eval o).run P w=.ok (.value (.pointer (some ⟨w.heap.size,0,none⟩))) (w.alloc (.cells p.c p.e)):=by
       have:=hz p hp w
       simp[execOp,hop,this,Result.andThen]
      rw[hrun,Oper.upon_value,hdst]
      have hdz:p.d<b.tmps.size:=hsz p hp
      have HE':=blanked hM hgd W HE
      have PK:=fun x hx=>blanked hM hgd x (HG x hx)
      rw[hdst] at HE'
      rw[hdst] at PK
      refine ih _ _ (b.put (some p.d) undef) _ (fun k=>if k=i then w.heap.size else ν k) hcnt (by simp[hs]) hcl' (fun q hq=>by simpa [Act.put] using hsz q hq) HE' PK ?_ (hG.trans _ _ _ hw (hG.alloc _ _))
      refine⟨by simp[Act.put,hrel.size],by simp[Act.put,hrel.defers],fun t ht=>?_,fun q hq hl=>?_,fun q hq r hr hl hl' hne=>?_⟩
      . have hpt:=ht p hp
        simp only[Act.put]
        rw[Array.getElem?_setIfInBounds_ne hpt,Array.getElem?_setIfInBounds_ne hpt]
        exact hrel.same t ht
      . by_cases FM:q.i=i
        . have hqe:q=p:=mG (·.i) va hni q hq p hp (FM.trans hpi.symm)
          subst hqe
          simp only[FM,if_true]
          refine⟨by simp[Act.put,hrel.size,hdz],hG.size _ _ hw,?_⟩
          have VR:(L.setIfInBounds i true).getD q.j false=false:=by
           obtain⟨oj,_,hoj,_,_,_,_,⟨e,he,hb,hon⟩,-⟩:=qJ q hq
           have hne:i≠q.j:=by
            have:=List.all_eq_true.1 (List.all_eq_true.1 hij q hq) q hq
            rw[hpi] at this
            simpa using this
           rw[getD_set_ne false hne]
           cases hb':L.getD q.j false with
           | false=>rfl
           | true =>
            have:=hcl q.j oj hoj hb' e he hb
            rw[hon,hpi,hun] at this
            cases this
          unfold content
          rw[if_neg (by rw[VR];exact Bool.false_ne_true)]
          exact heap_alloc_new w _
        . simp only[FM,if_false]
          rw[getD_set_ne false (Ne.symm FM)] at hl
          obtain⟨g1,g2,g3⟩:=hrel.made q hq hl
          have amy:q.d≠p.d:=fun e=>FM (by rw[mG (·.d) va hnd q hq p hp e];exact hpi)
          refine⟨?_,g2,?_⟩
          . simp only[Act.put];rw[Array.getElem?_setIfInBounds_ne (Ne.symm amy)];exact g1
          . rw[Below.heap_alloc w _ _ (aF g3),g3]
            congr 2
            obtain⟨oj,s,hoj,hx,-,-,-,-,hns,-⟩:=qJ q hq
            have hne:i≠q.j:=by
             have:=List.all_eq_true.1 (List.all_eq_true.1 hij p hp) q hq
             rw[hpi] at this
             simpa using this
            unfold content
            rw[getD_set_ne false hne]
            have:(b.put (some p.d) undef).eval q.x=b.eval q.x:=Act.eval_put (fun d hd=>by cases hd;rw[hx];intro e;cases e;exact hns p hp rfl)
            rw[this]
      . by_cases FM:q.i=i <;> by_cases VS:r.i=i
        . exact absurd (FM.trans VS.symm) hne
        . simp only[FM,VS,if_true,if_false]
          rw[getD_set_ne false (Ne.symm VS)] at hl'
          have:=(Array.getElem?_eq_some_iff.1 (hrel.made r hr hl').2.2).1
          omega
        . simp only[FM,VS,if_true,if_false]
          rw[getD_set_ne false (Ne.symm FM)] at hl
          have:=(Array.getElem?_eq_some_iff.1 (hrel.made q hq hl).2.2).1
          omega
        . simp only[FM,VS,if_false]
          rw[getD_set_ne false (Ne.symm FM)] at hl
          rw[getD_set_ne false (Ne.symm VS)] at hl'
          exact hrel.apart q hq r hr hl hl' hne
    . by_cases hB:∃p ∈ va,p.j=i
      . -- a variable's first store
        obtain⟨p,hp,VR⟩:=hB
        obtain⟨o2,s,ho2,hx,hop,hdst,hgd,⟨e,he,heb,hon⟩,hns,hwr⟩:=qJ p hp
        rw[VR,ho'] at ho2
        cases ho2
        have hM:fG va i=true:=List.any_eq_true.2 ⟨p,hp,by simp[VR]⟩
        have hLi:L.getD p.i false=true:=by rw[<- hon];exact AP e he heb
        obtain⟨g1,g2,g3⟩:=hrel.made p hp hLi
        have hLj:L.getD p.j false=false:=by rw[VR];exact hun
        have hc0:content L b p=p.c:=by unfold content;rw[if_neg (by rw[hLj];exact Bool.false_ne_true)]
        rw[hc0] at g3
        have hfit:Fits p (b.eval p.x):=by
         obtain⟨bf,hbf,hbt⟩:=complete hlow' (F+1) L b (by rw[hs,hlen]) hF HE
         have h1:=hbf.1 p hp
         have h2:bf.eval p.x=b.eval p.x:=by
          rw[hx]
          have h3:=hbt s fun k ok hk hl hd=>by
           have h4:((fM va l).toArray[k]?).bind (·.dst)=some s:=by
            have:(fM va l).toArray[k]? = some ok:=by simpa using hk
            rw[this];exact hd
           rw[abb] at h4
           simp only[List.getElem?_toArray] at h4
           cases hk':l[k]? with
           | none=>rw[hk'] at h4;simp at h4
           | some ok' =>
            rw[hk'] at h4
            simp at h4
            obtain⟨e',he',MM,U7⟩:=hwr k ok' hk' h4
            have:=AP e' he' MM
            rw[U7,hl] at this
            cases this
          simp only[Act.eval,Array.getD_eq_getD_getElem?,h3]
         rwa [h2] at h1
        have hav:a.eval p.x=b.eval p.x:=by
         rw[hx];exact acw hrel _ fun q hq e=>by cases e;exact hns q hq rfl
        have hap:a.eval (.tmp p.d)=.pointer (some ⟨ν p.i,0,none⟩):=by
         simp only[Act.eval,Array.getD_eq_getD_getElem?,g1,Option.getD_some]
        have hwant:Region.wanted o (yielded l.toArray a.tmps)=true:=by simp[Region.wanted,hgd]
        simp only[hwant,if_true]
        refine .inl ?_
        unfold Oper.wp
        have hrun:(execOp a.eval o).run P w=.ok .skip (w.setRow (ν p.i) (b.eval p.x).cells):=by
         have:=FZ (P:=P) g3 (hi p hp) hfit.1 hfit.2
         rw[<- hav,hx] at this
         rw[<- hap] at this
         rw[<- hav,hx]
         simp[execOp,hop,this,Result.andThen]
        rw[hrun,Oper.upon_skip,hdst]
        have HE':=blanked hM hgd W HE
        have PK:=fun x hx=>blanked hM hgd x (HG x hx)
        rw[hdst] at HE'
        rw[hdst] at PK
        refine ih _ _ b _ ν hcnt (by simp[hs]) hcl' hsz HE' PK ?_ (hG.own _ _ _ _ hw g2)
        have hij':∀q ∈ va,q.i≠i:=fun q hq e=>hA ⟨q,hq,e⟩
        refine⟨hrel.size,hrel.defers,hrel.same,fun q hq hl=>?_,fun q hq r hr hl hl' hne=>?_⟩
        . rw[getD_set_ne false (Ne.symm (hij' q hq))] at hl
          obtain⟨k1,k2,k3⟩:=hrel.made q hq hl
          refine⟨k1,k2,?_⟩
          by_cases FM:q=p
          . subst FM
            rw[setRow_heap w _ _ _ _ _ g3]
            congr 2
            unfold content
            rw[VR,if_pos (by simp[hiL])]
          . have hne:q.i≠p.i:=fun e=>FM (mG (·.i) va hni q hq p hp e)
            have amG:q.j≠i:=fun e=>FM (mG (·.j) va hnj q hq p hp (e.trans VR.symm))
            rw[setRow_other w _ _ _ (hrel.apart q hq p hp hl hLi hne),k3]
            congr 2
            unfold content
            rw[getD_set_ne false (Ne.symm amG)]
        . rw[getD_set_ne false (Ne.symm (hij' q hq))] at hl
          rw[getD_set_ne false (Ne.symm (hij' r hr))] at hl'
          exact hrel.apart q hq r hr hl hl' hne
      . -- whatever else
        have hM:fG va i=false:=by
         cases h:fG va i with
         | false=>rfl
         | true =>
          obtain⟨p,hp,hpe⟩:=List.any_eq_true.1 h
          simp only[Bool.or_eq_true,beq_iff_eq] at hpe
          rcases hpe with h1|h1
          . exact absurd ⟨p,hp,h1⟩ hA
          . exact absurd ⟨p,hp,h1⟩ hB
        have Xn:∀p ∈ va,p.d ∉ o.looksAt l.toArray/\o.dst≠some p.d:=by
         rcases hgood.1 with h|h
         . rw[hM] at h;cases h
         . intro p hp
           have:=List.all_eq_true.1 h p hp
           simpa using this
        have hex:execOp a.eval o=execOp b.eval o:=akn hrel o (fun cs b=>Region.noSelect_spec hsel i o cs b ho) (ops:=l.toArray) (fun p hp=>(Xn p hp).1)
        have hwt:Region.wanted o (yielded l.toArray a.tmps)=Region.wanted o (yielded l.toArray b.tmps):=ad4 hrel o (fun p hp=>(Xn p hp).1)
        have UL:(fM va l).toArray[i]? = some o:=by rw[hHi,hM];rfl
        have put:∀(v:Value) (w':World),G w w'->Rv va ν W (L.setIfInBounds i true) (a.put o.dst v) (b.put o.dst v) w':=by
         intro v w' hg
         have hii:∀p ∈ va,p.i≠i:=fun p hp e=>hA ⟨p,hp,e⟩
         have hjj:∀p ∈ va,p.j≠i:=fun p hp e=>hB ⟨p,hp,e⟩
         refine⟨?_,?_,fun t ht=>?_,fun p hp hl=>?_,fun p hp q hq hl hl' hne=>?_⟩
         . cases o.dst <;> simp[Act.put,hrel.size]
         . cases o.dst <;> simp[Act.put,hrel.defers]
         . cases o.dst with
           | none=>exact hrel.same t ht
           | some d=>simp only[Act.put,Array.getElem?_setIfInBounds,hrel.same t ht,hrel.size]
         . rw[getD_set_ne false (hii p hp).symm] at hl
           obtain⟨h1,h2,h3⟩:=hrel.made p hp hl
           refine⟨?_,h2,?_⟩
           . cases hd:o.dst with
             | none=>exact h1
             | some d=>simp only[Act.put];rw[Array.getElem?_setIfInBounds_ne (fun e=>(Xn p hp).2 (by rw[hd,e]))];exact h1
           . rw[hG.kept _ _ hg _ _ _ _ h3]
             congr 2
             unfold content
             rw[getD_set_ne false (hjj p hp).symm]
             split
             . rename_i hlj
               obtain⟨oj,s,hoj,hx,-,-,-,-,-,hwr⟩:=qJ p hp
               have:(b.put o.dst v).eval p.x=b.eval p.x:=Act.eval_put (fun d hd=>by
                rw[hx];intro e;cases e
                obtain⟨e',he',MM,U7⟩:=hwr i o ho' hd
                have:=hcl p.j oj hoj hlj e' he' MM
                rw[U7,hun] at this
                cases this)
               rw[this]
             . rfl
         . rw[getD_set_ne false (hii p hp).symm] at hl
           rw[getD_set_ne false (hii q hq).symm] at hl'
           exact hrel.apart p hp q hq hl hl' hne
        have go:∀v w',G w w'->wpAnyQ P .any (fM va l).toArray (fun w'=>∃g:Gr G W,w'=g.x) (yM G va Q W) F (L.setIfInBounds i true) (b.put o.dst v) ->
            (∀x,G W x->wpAnyQ P .any (fM va l).toArray (fun w'=>∃g:Gr G x,w'=g.x) (yM G va Q W) F (L.setIfInBounds i true) (b.put o.dst v)) ->
            wpAny P .any l.toArray Q F (L.setIfInBounds i true) (a.put o.dst v) w':=fun v w' hg h1 h2 =>
         ih _ _ (b.put o.dst v) _ ν hcnt (by simp[hs]) hcl' (fun q hq=>by cases hd:o.dst <;> simpa [Act.put] using hsz q hq) h1 h2 (put v w' hg) (hG.trans _ _ _ hw hg)
        rw[hwt]
        by_cases hwant:Region.wanted o (yielded l.toArray b.tmps)=true
        . simp only[hwant,if_true]
          refine .inl ?_
          have h1:=HE.2 i hri
          unfold qOp at h1
          simp only[UL,zf,hwant,if_true] at h1
          obtain⟨v,hv,hK⟩:=h1
          have PK:∀x,G W x->(∀y,G x y->o.quietAt P b (fun w'=>∃g:Gr G x,w'=g.x) y v) /\
              wpAnyQ P .any (fM va l).toArray (fun w'=>∃g:Gr G x,w'=g.x) (yM G va Q W) F (L.setIfInBounds i true) (b.put o.dst v):=by
           intro x hx
           have h2:=(HG x hx).2 i hri
           unfold qOp at h2
           simp only[UL,zf,hwant,if_true] at h2
           obtain⟨u,hu,h3⟩:=h2
           have huv:u=v:=TN (hu x ⟨⟨x,hG.refl _⟩,rfl⟩) (hv x ⟨⟨x,hx⟩,rfl⟩)
           subst huv
           exact⟨fun y hy=>hu y ⟨⟨y,hy⟩,rfl⟩,h3⟩
          have hq:=(PK w hw).1 w (hG.refl _)
          unfold Oper.quietAt at hq
          unfold Oper.wp
          rw[hex]
          generalize (execOp b.eval o).run P w=r at hq
          cases r with
          | ok nx w' =>
           cases nx <;> simp only[Oper.quietUpon] at hq <;> simp only[Oper.upon]
           case value u =>
            obtain⟨rfl,rfl⟩:=hq
            exact go u _ (hG.refl _) hK fun x hx=>(PK x hx).2
           case skip =>
            obtain⟨rfl,rfl⟩:=hq
            exact go undef _ (hG.refl _) hK fun x hx=>(PK x hx).2
           case enter f args =>
            obtain⟨rfl,hcall⟩:=hq
            refine hcall.mono fun e w'' ⟨he,hw''⟩=>?_
            subst he
            obtain⟨g,rfl⟩:=hw''
            exact go v _ g.h hK fun x hx=>(PK x hx).2
          | halt x w'=>simp only[Oper.quietUpon] at hq
        . have hw0:Region.wanted o (yielded l.toArray b.tmps)=false:=by simpa using hwant
          simp only[hw0,Bool.false_eq_true,if_false]
          refine go undef _ (hG.refl _) ?_ fun x hx=>?_
          . have h2:=HE.2 i hri
            unfold qOp at h2
            simp only[UL,zf,hw0,Bool.false_eq_true,if_false] at h2
            exact h2
          . have h2:=(HG x hx).2 i hri
            unfold qOp at h2
            simp only[UL,zf,hw0,Bool.false_eq_true,if_false] at h2
            exact h2
theorem iy (hG:PI G){id:Nat}{a:Act}(hm:P.follows .mixedOrders=true)(hok:VI va l=true)
    (hz:∀p ∈ va,∀w,(Instr.alloc p.e true (.tuple #[])).run P w=.ok (.pointer (some ⟨w.heap.size,0,none⟩)) (w.alloc (.cells p.c p.e)))
    (hi:∀p ∈ va,(P.info? p.e).map (·.size)=some p.c.size) (hsz:∀p ∈ va,p.d<a.tmps.size)
    (h:∀(T:Type) (f:T->World),Nonempty T->(∀g,G W (f g))->(∀g w',G (f g) w'->∃g',w'=f g')->wpQuiet P (fM va l).toArray (fun w'=>∃g:T,w'=f g) (yM G va Q W) (fM va l) a) :
    (Code.region id l.toArray true).wp P Q a W:=by
 have hok':=hok
 simp only[VI,Bool.and_eq_true,decide_eq_true_eq] at hok'
 obtain⟨⟨⟨⟨⟨⟨⟨hlb,hsel⟩,hva⟩,hops⟩,hnd⟩,hni⟩,hnj⟩,hij⟩:=hok'
 simp only[Region.lexB,Bool.and_eq_true] at hlb
 refine wp_region_any hm ?_
 have hlen:(fM va l).length=l.length:=by simp[fM]
 have any:∀x,G W x->wpAnyQ P .any (fM va l).toArray (fun w'=>∃g:Gr G x,w'=g.x) (yM G va Q W) l.toArray.size (Array.replicate l.toArray.size false) a:=fun x hx=>by
  have h2:=wpAnyQ_lex (md:=.any) (C:=fun w'=>∃g:Gr G x,w'=g.x) hlb.1 (fM va l) 0 (Array.replicate (fM va l).toArray.size false) a (by simp) (by simpa using hlb.2)
   (h (Gr G x) (fun g=>g.x) ⟨⟨x,hG.refl _⟩⟩ (fun g=>hG.trans _ _ _ hx g.h) (fun g w' hg=>⟨⟨w',hG.trans _ _ _ g.h hg⟩,rfl⟩))
  simpa [hlen] using h2
 exact ahV (Q:=Q) (W:=W) hG hok hz hi l.toArray.size (Array.replicate l.toArray.size false) a a { W with drawn:=W.drawn+1 } (fun _=>0) (by simp) (by simp)
  (fun j oj _ hl=>(by rw[getD_replicate_false] at hl;cases hl)) hsz (any W (hG.refl _)) any
  ⟨rfl,rfl,fun _ _=>rfl,fun p _ hl=>(by rw[getD_replicate_false] at hl;cases hl),fun p _ q _ hl=>(by rw[getD_replicate_false] at hl;cases hl)⟩ (hG.drew W)
end
/-! ### What lies there -/
theorem ah {w:World}{n:Nat}{c:Array Value}{e:TypeId}(h:w.heap[n]? = some (.cells c e)) :
    n<w.heap.size/\(∀i,w.cell? ⟨n,i,none⟩=c[i]?)/\(∀i,w.frozen? ⟨n,i,none⟩=false) :=
 ⟨(aF h),fun i=>cell_of_row w n i c e (0,0) h,fun i=>by simp[World.frozen?,h]⟩
theorem rc1 {w:World}{n:Nat}{a0:Value}{e:TypeId}(h:w.heap[n]? = some (.cells #[a0] e (0,0))):w.cell? ⟨n,0,none⟩=some a0:=by
 have r:=(ah h).2.1
 exact r 0
theorem rc2 {w:World}{n:Nat}{a0 a1:Value}{e:TypeId}(h:w.heap[n]? = some (.cells #[a0,a1] e (0,0))):w.cell? ⟨n,0,none⟩=some a0/\w.cell? ⟨n,1,none⟩=some a1:=by
 have r:=(ah h).2.1
 exact⟨r 0,r 1⟩
theorem rf2 {w:World}{n:Nat}{a0 a1:Value}{e:TypeId}(h:w.heap[n]? = some (.cells #[a0,a1] e (0,0))):w.frozen? ⟨n,0,none⟩=false/\w.frozen? ⟨n,1,none⟩=false:=by
 have r:=(ah h).2.2
 exact⟨r 0,r 1⟩
theorem pX {w:World}{n:Nat}{a0 a1 a2 a3:Value}{e:TypeId}(h:w.heap[n]? = some (.cells #[a0,a1,a2,a3] e (0,0))):w.cell? ⟨n,0,none⟩=some a0/\w.cell? ⟨n,1,none⟩=some a1/\w.cell? ⟨n,2,none⟩=some a2/\w.cell? ⟨n,3,none⟩=some a3:=by
 have r:=(ah h).2.1
 exact⟨r 0,r 1,r 2,r 3⟩
theorem Ak {w:World}{n:Nat}{a0 a1 a2 a3:Value}{e:TypeId}(h:w.heap[n]? = some (.cells #[a0,a1,a2,a3] e (0,0))):w.frozen? ⟨n,0,none⟩=false/\w.frozen? ⟨n,1,none⟩=false/\w.frozen? ⟨n,2,none⟩=false/\w.frozen? ⟨n,3,none⟩=false:=by
 have r:=(ah h).2.2
 exact⟨r 0,r 1,r 2,r 3⟩
theorem Ru {w:World}{n:Nat}{a0 a1 a2 a3 a4 a5:Value}{e:TypeId}(h:w.heap[n]? = some (.cells #[a0,a1,a2,a3,a4,a5] e (0,0))):w.cell? ⟨n,0,none⟩=some a0/\w.cell? ⟨n,1,none⟩=some a1/\w.cell? ⟨n,2,none⟩=some a2/\w.cell? ⟨n,3,none⟩=some a3/\w.cell? ⟨n,4,none⟩=some a4/\w.cell? ⟨n,5,none⟩=some a5:=by
 have r:=(ah h).2.1
 exact⟨r 0,r 1,r 2,r 3,r 4,r 5⟩
theorem rf6 {w:World}{n:Nat}{a0 a1 a2 a3 a4 a5:Value}{e:TypeId}(h:w.heap[n]? = some (.cells #[a0,a1,a2,a3,a4,a5] e (0,0))):w.frozen? ⟨n,0,none⟩=false/\w.frozen? ⟨n,1,none⟩=false/\w.frozen? ⟨n,2,none⟩=false/\w.frozen? ⟨n,3,none⟩=false/\w.frozen? ⟨n,4,none⟩=false/\w.frozen? ⟨n,5,none⟩=false:=by
 have r:=(ah h).2.2
 exact⟨r 0,r 1,r 2,r 3,r 4,r 5⟩
theorem rc8 {w:World}{n:Nat}{a0 a1 a2 a3 a4 a5 a6 a7:Value}{e:TypeId}(h:w.heap[n]? = some (.cells #[a0,a1,a2,a3,a4,a5,a6,a7] e (0,0))):w.cell? ⟨n,0,none⟩=some a0/\w.cell? ⟨n,1,none⟩=some a1/\w.cell? ⟨n,2,none⟩=some a2/\w.cell? ⟨n,3,none⟩=some a3/\w.cell? ⟨n,4,none⟩=some a4/\w.cell? ⟨n,5,none⟩=some a5/\w.cell? ⟨n,6,none⟩=some a6/\w.cell? ⟨n,7,none⟩=some a7:=by
 have r:=(ah h).2.1
 exact⟨r 0,r 1,r 2,r 3,r 4,r 5,r 6,r 7⟩
theorem FP {w:World}{n:Nat}{a0 a1 a2 a3 a4 a5 a6 a7:Value}{e:TypeId}(h:w.heap[n]? = some (.cells #[a0,a1,a2,a3,a4,a5,a6,a7] e (0,0))):w.frozen? ⟨n,0,none⟩=false/\w.frozen? ⟨n,1,none⟩=false/\w.frozen? ⟨n,2,none⟩=false/\w.frozen? ⟨n,3,none⟩=false/\w.frozen? ⟨n,4,none⟩=false/\w.frozen? ⟨n,5,none⟩=false/\w.frozen? ⟨n,6,none⟩=false/\w.frozen? ⟨n,7,none⟩=false:=by
 have r:=(ah h).2.2
 exact⟨r 0,r 1,r 2,r 3,r 4,r 5,r 6,r 7⟩
theorem gB {w:World}{n:Nat}{a0 a1 a2 a3 a4 a5 a6 a7 a8 a9:Value}{e:TypeId}(h:w.heap[n]? = some (.cells #[a0,a1,a2,a3,a4,a5,a6,a7,a8,a9] e (0,0))):w.cell? ⟨n,0,none⟩=some a0/\w.cell? ⟨n,1,none⟩=some a1/\w.cell? ⟨n,2,none⟩=some a2/\w.cell? ⟨n,3,none⟩=some a3/\w.cell? ⟨n,4,none⟩=some a4/\w.cell? ⟨n,5,none⟩=some a5/\w.cell? ⟨n,6,none⟩=some a6/\w.cell? ⟨n,7,none⟩=some a7/\w.cell? ⟨n,8,none⟩=some a8/\w.cell? ⟨n,9,none⟩=some a9:=by
 have r:=(ah h).2.1
 exact⟨r 0,r 1,r 2,r 3,r 4,r 5,r 6,r 7,r 8,r 9⟩
theorem FO {w:World}{n:Nat}{a0 a1 a2 a3 a4 a5 a6 a7 a8 a9:Value}{e:TypeId}(h:w.heap[n]? = some (.cells #[a0,a1,a2,a3,a4,a5,a6,a7,a8,a9] e (0,0))):w.frozen? ⟨n,0,none⟩=false/\w.frozen? ⟨n,1,none⟩=false/\w.frozen? ⟨n,2,none⟩=false/\w.frozen? ⟨n,3,none⟩=false/\w.frozen? ⟨n,4,none⟩=false/\w.frozen? ⟨n,5,none⟩=false/\w.frozen? ⟨n,6,none⟩=false/\w.frozen? ⟨n,7,none⟩=false/\w.frozen? ⟨n,8,none⟩=false/\w.frozen? ⟨n,9,none⟩=false:=by
 have r:=(ah h).2.2
 exact⟨r 0,r 1,r 2,r 3,r 4,r 5,r 6,r 7,r 8,r 9⟩
theorem bJ {w:World}{n:Nat}{a0 a1 a2 a3 a4 a5 a6 a7 a8 a9 a10:Value}{e:TypeId}(h:w.heap[n]? = some (.cells #[a0,a1,a2,a3,a4,a5,a6,a7,a8,a9,a10] e (0,0))):w.cell? ⟨n,0,none⟩=some a0/\w.cell? ⟨n,1,none⟩=some a1/\w.cell? ⟨n,2,none⟩=some a2/\w.cell? ⟨n,3,none⟩=some a3/\w.cell? ⟨n,4,none⟩=some a4/\w.cell? ⟨n,5,none⟩=some a5/\w.cell? ⟨n,6,none⟩=some a6/\w.cell? ⟨n,7,none⟩=some a7/\w.cell? ⟨n,8,none⟩=some a8/\w.cell? ⟨n,9,none⟩=some a9/\w.cell? ⟨n,10,none⟩=some a10:=by
 have r:=(ah h).2.1
 exact⟨r 0,r 1,r 2,r 3,r 4,r 5,r 6,r 7,r 8,r 9,r 10⟩
theorem ni {w:World}{n:Nat}{a0 a1 a2 a3 a4 a5 a6 a7 a8 a9 a10:Value}{e:TypeId}(h:w.heap[n]? = some (.cells #[a0,a1,a2,a3,a4,a5,a6,a7,a8,a9,a10] e (0,0))):w.frozen? ⟨n,0,none⟩=false/\w.frozen? ⟨n,1,none⟩=false/\w.frozen? ⟨n,2,none⟩=false/\w.frozen? ⟨n,3,none⟩=false/\w.frozen? ⟨n,4,none⟩=false/\w.frozen? ⟨n,5,none⟩=false/\w.frozen? ⟨n,6,none⟩=false/\w.frozen? ⟨n,7,none⟩=false/\w.frozen? ⟨n,8,none⟩=false/\w.frozen? ⟨n,9,none⟩=false/\w.frozen? ⟨n,10,none⟩=false:=by
 have r:=(ah h).2.2
 exact⟨r 0,r 1,r 2,r 3,r 4,r 5,r 6,r 7,r 8,r 9,r 10⟩
theorem qA {W w:World}{p:Va}{ns:List Nat}{b:Act}(h:Vars W w [p] ns b) :
    ∃n,ns=[n]/\W.heap.size<=n/\n<w.heap.size/\(∀i,w.cell? ⟨n,i,none⟩=((b.eval p.x).cells)[i]?)/\(∀i,w.frozen? ⟨n,i,none⟩=false):=by
 obtain⟨h1,_,h3⟩:=h
 match ns,h1 with
 | [n],_ =>
  have:=h3 0 p n rfl rfl
  exact⟨n,rfl,this.1,ah this.2⟩
theorem ahW {W w:World}{p q:Va}{ns:List Nat}{b:Act}(h:Vars W w [p,q] ns b) :
    ∃n m,ns=[n,m]/\n≠m/\(W.heap.size<=n/\n<w.heap.size/\(∀i,w.cell? ⟨n,i,none⟩=((b.eval p.x).cells)[i]?)/\(∀i,w.frozen? ⟨n,i,none⟩=false)) /\
     (W.heap.size<=m/\m<w.heap.size/\(∀i,w.cell? ⟨m,i,none⟩=((b.eval q.x).cells)[i]?)/\(∀i,w.frozen? ⟨m,i,none⟩=false)):=by
 obtain⟨h1,h2,h3⟩:=h
 match ns,h1 with
 | [n,m],_ =>
  have a1:=h3 0 p n rfl rfl
  have a2:=h3 1 q m rfl rfl
  simp at h2
  exact⟨n,m,rfl,h2,⟨a1.1,ah a1.2⟩,⟨a2.1,ah a2.2⟩⟩
structure Kept (S:Nat->Prop)(w w':World):Prop where
 os:w'.os=w.os
 tape:w'.tape=w.tape
 output:w'.output=w.output
 size:w.heap.size<=w'.heap.size
 block:∀k,k<w.heap.size->S k->w'.heap[k]? = w.heap[k]?
section
variable {S T:Nat->Prop}{w a b c w':World}
theorem Kept.refl (S:Nat->Prop)(w:World):Kept S w w:=⟨rfl,rfl,rfl,Nat.le_refl _,fun _ _ _=>rfl⟩
theorem Kept.trans (h:Kept S a b)(k:Kept S b c):Kept S a c :=
 ⟨k.os.trans h.os,k.tape.trans h.tape,k.output.trans h.output,Nat.le_trans h.size k.size,fun i hi hs=>(k.block i (bM hi h.size) hs).trans (h.block i hi hs)⟩
theorem Kept.mono (h:Kept S a b)(hs:∀k,k<a.heap.size->T k->S k):Kept T a b:=⟨h.os,h.tape,h.output,h.size,fun k hk ht=>h.block k hk (hs k hk ht)⟩
theorem Kept.of_below {B:Nat}(h:Below B a b)(hs:∀k,k<a.heap.size->S k->k<B):Kept S a b:=⟨h.os,h.tape,h.output,h.size,fun k hk ht=>h.block k (hs k hk ht)⟩
theorem Kept.all (h:Below a.heap.size a b):Kept S a b:=.of_below h fun _ hk _=>hk
theorem Kept.below {B:Nat}(h:Kept S a b)(hB:B<=a.heap.size)(hs:∀k,k<B->S k):Below B a b:=⟨h.os,h.tape,h.output,h.size,fun k hk=>h.block k (bM hk hB) (hs k hk)⟩
theorem Kept.grown {row:Option Nat}(h:a.grownBy b row)(hs:∀k,k<a.heap.size->S k->some k≠row):Kept S a b:=⟨h.os,h.tape,h.output,h.size,fun k hk ht=>h.block k hk (hs k hk ht)⟩
theorem Kept.alloc (h:Kept S a w)(o:Obj):Kept S a (w.alloc o):=h.trans (.of_below ((Below.refl w.heap.size _).alloc (Nat.le_refl _) _) fun _ hk _=>hk)
theorem Kept.setCell (h:Kept S a w){p:Addr}(hp:¬ S p.block\/a.heap.size<=p.block)(u:Value):Kept S a (w.setCell p u) :=
 ⟨h.os,h.tape,h.output,by have:=h.size;simpa [World.setCell] using this,fun k hk hs=>(Below.heap_setCell w p u k (by rintro rfl;rcases hp with hp|hp;exact hp hs;omega)).trans (h.block k hk hs)⟩
theorem Kept.drew (h:Kept S a w):Kept S a w.drew:=⟨h.os,h.tape,h.output,h.size,h.block⟩
theorem Kept.putObj (h:Kept S a w){r:Nat}(hr:¬ S r\/a.heap.size<=r)(o:Obj):Kept S a (w.putObj r o) :=
 ⟨h.os,h.tape,h.output,by rw[World.putObj_size];exact h.size,fun k hk hs=>(World.putObj_heap_other (by rintro rfl;rcases hr with hp|hp;exact hp hs;omega)).trans (h.block k hk hs)⟩
theorem Kept.cell (h:Kept S w w'){b o:Nat}{v:Value}(hs:S b)(hv:w.cell? ⟨b,o,none⟩=some v):w'.cell? ⟨b,o,none⟩=some v :=
 (World.cell?_of_block (w:=w) (a:=⟨b,o,none⟩) (h.block b (World.block_lt_of_cell? w ⟨b,o,none⟩ hv) hs)).trans hv
theorem dZ {B:Nat}(h:Below B a w){r:Nat}(hr:B<=r)(o:Obj):Below B a (w.putObj r o) :=
 ⟨h.os,h.tape,h.output,by rw[World.putObj_size];exact h.size,fun k hk=>(World.putObj_heap_other (by omega)).trans (h.block k hk)⟩
end
def aew {α:Type}(P:Program)(gf:Nat)(lb:Array Value)(encs:α->Array Value)(xs:List α)(S:Nat->Prop)(w:World):Prop :=
 ∀(l:Nat) (J:List α->World->Prop) (Jx:World->Prop) (W:World),Kept S w W ->
  (∀pre X Y,J pre X->Below W.heap.size X Y->J pre Y)->(∀X Y,Jx X->Below W.heap.size X Y->Jx Y) ->
  (∀pre x W1,pre ++ [x] <+: xs->Kept S w W1->W.heap.size<=W1.heap.size->J pre W1->YieldAt Fence.wide 0 P l (encs x) W1 fun e W' =>
   (e=.returned (.bool true)/\J (pre ++ [x]) W'/\Kept (fun k=>S k\/W.heap.size<=k) W1 W')\/(e=.returned (.bool false)/\Jx W')) ->
  J [] W ->
  CallsIn Fence.wide 0 P gf (#[.func (.yield l) #[] #[]] ++ lb) W fun e W'=>(∃v,e=.returned v)/\(J xs W'\/Jx W')
def roundEnd {α:Type}(S:Nat->Prop)(I:List α->World->Prop)(Ix:Code->World->Prop)(xs:List α)(W:World):Exit->Act->World->Prop
 | .normal,_,W'=>Kept S W W'/\I xs W'
 | .ret,_,W'=>Kept S W W'/\Ix .ret W'
 | .exit id,_,W'=>Kept S W W'/\Ix (.exit id) W'
 | .goto t,_,W'=>Kept S W W'/\Ix (.goto t) W'
 | .panic _,_,_=>False
 | .outgrown,_,_=>False
theorem VO {P:Program}{α:Type}{g:Operand}{ps:Array Tmp}{assign body:Code}{Q:Exit->Act->World->Prop}{a:Act}{w:World}
    {gf:Nat} {lb:Array Value} (hg:a.eval g=.func (.func gf) #[] lb) (eg:∀args w,(callFunc gf args).run P w=.ok (.enter gf args) w)
    {encs:α->Array Value} {xs:List α} {S:Nat->Prop} (hseq:aew P gf lb encs xs S w) (hS:∀k,S k->k<w.heap.size) (hps:∀x,(encs x).size=ps.size)
    (I:List α->World->Prop) (Ix:Code->World->Prop) (hI:∀pre X Y,I pre X->Below w.heap.size X Y->I pre Y) (hIx:∀c X Y,Ix c X->Below w.heap.size X Y->Ix c Y) (h0:I [] w)
    (pI:∀(l:Nat) (pre:List α) (x:α) (W:World),w.heap.size<l->l<W.heap.size->pre ++ [x] <+: xs->Kept S w W->I pre W ->
     assign.wpIn (Fence.wide.inRound l) 0 P (Exit.then (fun a₁ W1=>Kept (fun k=>S k\/w.heap.size<=k) W W1 /\
         (∀W2,Kept (fun k=>k≠l) W1 W2->W2.heap.size=W1.heap.size->body.wpIn (Fence.wide.inRound l) 0 P (roundEnd (fun k=>S k\/w.heap.size<=k) I Ix (pre ++ [x]) W2) a₁ W2)) (fun _ _ _=>False))
      { tmps:=(ps.zip (encs x)).foldl (fun t (p,v)=>t.setIfInBounds p v) a.tmps,defers:=[] } W)
    (hdone:∀(D:Nat) (W:World),w.heap.size<=D->I xs W->Kept S w W->W.heap[D]? = some (.deferred (some []))->Q .normal { a with defers:={ target:=.collected D,args:=#[] } :: a.defers } W)
    (hstop:∀(D:Nat) (c:Code) (W:World),w.heap.size<=D->Ix c W->Kept S w W->W.heap[D]? = some (.deferred (some []))->c.wpIn Fence.wide 0 P Q { a with defers:={ target:=.collected D,args:=#[] } :: a.defers } W) :
    (Code.rangeFunc g ps assign body).wpIn Fence.wide 0 P Q a w:=by
 refine wpIn_rangeFunc ?_
 intro fn hfn
 obtain⟨rec,hrec⟩:∃rec:LoopState->Option Code->Loop,rec=fun st pe=>{ state:=st,pending:=pe,fn,tmps:=a.tmps,params:=ps,assign,body,defers:=w.heap.size }:=⟨_,rfl⟩
 obtain⟨W1,hW1⟩:=aG ((w.alloc (.deferred (some []))).alloc (.loop (rec .ready none)))
 have hL1:W1.heap[w.heap.size+1]? = some (.loop (rec .ready none)):=by
  rw[<- hW1];have:=World.alloc_heap_new (w.alloc (.deferred (some []))) (.loop (rec .ready none));rwa [World.size_alloc] at this
 have hK1:W1.heap[w.heap.size]? = some (.deferred (some [])):=by
  rw[<- hW1];exact(Below.heap_alloc _ _ _ (by simp)).trans (World.alloc_heap_new w _)
 have hB1:Below w.heap.size w W1:=by rw[<- hW1];exact((Below.refl _ w).alloc (Nat.le_refl _) _).alloc (by simp) _
 have hsz1:W1.heap.size=w.heap.size+2:=by rw[<- hW1];simp
 have hI1:I [] W1:=hI _ _ _ h0 hB1
 refine⟨w.heap.size+1,[{ target:=.collected w.heap.size,args:=#[] }],W1,{ target:=.fn (.func gf) lb,args:=#[.func (.yield (w.heap.size+1)) #[] #[]] },W1,gf,
  #[.func (.yield (w.heap.size+1)) #[] #[]] ++ lb,W1,?_,?_,?_,?_,(fun h=>by cases h),?_⟩
 . rw[<- hW1,hrec];exact run_enterLoop_outer _ _ _ _ _
 . simp only[resolve,hg]
   simp[go_sem]
 . intro f' _;trivial
 . simp[invoke,go_sem,eg]
 . have up:∀{X Y:World},Below W1.heap.size X Y->Below w.heap.size X Y:=fun h=>h.mono (by omega)
   refine(hseq (w.heap.size+1)
    (fun pre W=>I pre W/\W.heap[w.heap.size+1]? = some (.loop (rec .ready none))/\W.heap[w.heap.size]? = some (.deferred (some []))/\Kept S w W)
    (fun W=>∃c,Ix c W/\W.heap[w.heap.size+1]? = some (.loop (rec .done (some c)))/\W.heap[w.heap.size]? = some (.deferred (some []))/\Kept S w W)
    W1 (.of_below hB1 fun _ hk _=>hk) ?_ ?_ ?_ ⟨hI1,hL1,hK1,.of_below hB1 fun _ hk _=>hk⟩).mono ?_
   . rintro pre X Y ⟨hi,hl,hk,hs⟩ hb
     exact⟨hI _ _ _ hi (up hb),(hb.block _ (by omega)).trans hl,(hb.block _ (by omega)).trans hk,hs.trans (.of_below hb fun k _ h=>by have:=hS k h;omega)⟩
   . rintro X Y ⟨c,hi,hl,hk,hs⟩ hb
     exact⟨c,hIx _ _ _ hi (up hb),(hb.block _ (by omega)).trans hl,(hb.block _ (by omega)).trans hk,hs.trans (.of_below hb fun k _ h=>by have:=hS k h;omega)⟩
   . -- ONE ROUND
     rintro pre x W hpre hsw hsW ⟨hi,hl,hk,hs⟩
     have hlt:w.heap.size+1<W.heap.size:=(aF hl)
     have hy:=run_yield (P:=P) (args:=encs x) hl (by rw[hrec];exact hps x)
     rw[hrec] at hy
     refine⟨fn,_,assign,body,hy,roundIn_of_wpIn hfn (wpIn_mono (pI (w.heap.size+1) pre x W (by omega) hlt hpre hs hi) ?_)⟩
     clear hy
     rintro e a' Wa hq
     cases e with
     | normal =>
      obtain⟨hka,hbody⟩:=hq
      have hla:=(hka.block _ (by omega) (.inr (by omega))).trans hl
      have hda:=(hka.block _ (by omega) (.inr (by omega))).trans hk
      have af7:w.heap.size+1<Wa.heap.size:=(aF hla)
      refine⟨_,run_beginRound hla (by rw[hrec]),?_⟩
      have hl2:(Wa.putObj (w.heap.size+1) (.loop { rec .ready none with state:=.busy })).heap[w.heap.size+1]? = some (.loop { rec .ready none with state:=.busy }):=World.putObj_heap_same af7
      have hd2:(Wa.putObj (w.heap.size+1) (.loop { rec .ready none with state:=.busy })).heap[w.heap.size]? = some (.deferred (some [])):=(World.putObj_heap_other (by omega)).trans hda
      have hkw:Kept (fun k=>k≠w.heap.size+1) Wa (Wa.putObj (w.heap.size+1) (.loop { rec .ready none with state:=.busy })):=(Kept.refl _ _).putObj (.inl (fun h=>h rfl)) _
      generalize hW2:Wa.putObj (w.heap.size+1) (.loop { rec .ready none with state:=.busy })=W2 at hl2 hd2 hkw
      have hs2:Kept S w W2:=by
       refine hs.trans ((hka.mono fun k _ h=>.inl h).trans (hkw.mono fun k _ h=>?_))
       have:=hS k h;omega
      have af6:Kept (fun k=>S k\/W1.heap.size<=k) W W2:=(hka.mono fun k _ h=>h.imp id (by omega)).trans (hkw.mono fun k _ h=>by rcases h with h|h;have:=hS k h;omega;omega)
      refine wpIn_mono (hbody W2 hkw (by rw[<- hW2];exact World.putObj_size)) ?_
      have fin:∀(jump:Option Code) (W3:World),Kept (fun k=>S k\/w.heap.size<=k) W2 W3 ->
          (Instr.endRound (w.heap.size+1) jump).run P W3=.ok (.bool jump.isNone) (W3.putObj (w.heap.size+1) (.loop (rec (if jump.isNone then .ready else .done) jump))) /\
          (W3.putObj (w.heap.size+1) (.loop (rec (if jump.isNone then .ready else .done) jump))).heap[w.heap.size+1]? = some (.loop (rec (if jump.isNone then .ready else .done) jump)) /\
          (W3.putObj (w.heap.size+1) (.loop (rec (if jump.isNone then .ready else .done) jump))).heap[w.heap.size]? = some (.deferred (some [])) /\
          Kept S w (W3.putObj (w.heap.size+1) (.loop (rec (if jump.isNone then .ready else .done) jump))) /\
          Below w.heap.size W3 (W3.putObj (w.heap.size+1) (.loop (rec (if jump.isNone then .ready else .done) jump))) /\
          Kept (fun k=>S k\/W1.heap.size<=k) W (W3.putObj (w.heap.size+1) (.loop (rec (if jump.isNone then .ready else .done) jump))):=fun jump W3 hk3=>by
       have hl3:=(hk3.block _ (aF hl2) (.inr (by omega))).trans hl2
       have hd3:=(hk3.block _ (aF hd2) (.inr (by omega))).trans hd2
       have:=run_endRound (P:=P) jump hl3
       rw[hrec] at this ⊢
       refine⟨this,World.putObj_heap_same (aF hl3),(World.putObj_heap_other (by omega)).trans hd3,(hs2.trans (hk3.mono fun k _ h=>.inl h)).putObj (.inr (by omega)) _,dZ (Below.refl _ _) (by omega) _,?_⟩
       refine(af6.trans (hk3.mono fun k _ h=>h.imp id (by omega))).putObj (.inl ?_) _
       rintro(h|h)
       . have:=hS _ h;omega
       . omega
      rintro e a3 W3 hp
      cases e with
      | normal =>
       obtain⟨hk3,hi3⟩:=hp
       obtain⟨hr,hl4,hd4,hs4,hb4,hk4⟩:=fin none W3 hk3
       exact⟨_,_,hr,.inl ⟨rfl,⟨hI _ _ _ hi3 hb4,hl4,hd4,hs4⟩,hk4⟩⟩
      | ret =>
       obtain⟨hk3,hi3⟩:=hp
       obtain⟨hr,hl4,hd4,hs4,hb4,hk4⟩:=fin (some .ret) W3 hk3
       exact⟨_,_,hr,.inr ⟨rfl,.ret,hIx _ _ _ hi3 hb4,hl4,hd4,hs4⟩⟩
      | exit id =>
       obtain⟨hk3,hi3⟩:=hp
       obtain⟨hr,hl4,hd4,hs4,hb4,hk4⟩:=fin (some (.exit id)) W3 hk3
       exact⟨_,_,hr,.inr ⟨rfl,.exit id,hIx _ _ _ hi3 hb4,hl4,hd4,hs4⟩⟩
      | goto t =>
       obtain⟨hk3,hi3⟩:=hp
       obtain⟨hr,hl4,hd4,hs4,hb4,hk4⟩:=fin (some (.goto t)) W3 hk3
       exact⟨_,_,hr,.inr ⟨rfl,.goto t,hIx _ _ _ hi3 hb4,hl4,hd4,hs4⟩⟩
      | panic ch=>exact hp.elim
      | outgrown=>exact hp.elim
     | exit id=>exact hq.elim
     | goto l=>exact hq.elim
     | ret=>exact hq.elim
     | panic ch=>exact hq.elim
     | outgrown=>exact hq.elim
   . -- BEHIND THE ITERATOR
     rintro e W2 ⟨⟨v,rfl⟩,(⟨hi,hl,hk,hs⟩|⟨c,hi,hl,hk,hs⟩)⟩
     . exact⟨none,_,by have:=run_endLoop (P:=P) hl (by rw[hrec];simp);rw[hrec] at this;exact this,hdone _ _ (Nat.le_refl _) (hI _ _ _ hi (dZ (Below.refl _ _) (by omega) _)) (hs.putObj (.inr (by omega)) _) ((World.putObj_heap_other (by omega)).trans hk)⟩
     . exact⟨some c,_,by have:=run_endLoop (P:=P) hl (by rw[hrec];simp);rw[hrec] at this;exact this,hstop _ c _ (Nat.le_refl _) (hIx _ _ _ hi (dZ (Below.refl _ _) (by omega) _)) (hs.putObj (.inr (by omega)) _) ((World.putObj_heap_other (by omega)).trans hk)⟩
