/- Walks. -/
import Derived.Test.YtkjdidieiioijaaGreatK01
set_option linter.all false
set_option maxRecDepth 100000
set_option maxHeartbeats 16000000
namespace Go
open Go.RowKit
end Go
namespace Go.Sd
open Go Go.RowKit
/-! ### A call has one value -/
/-! ### What a growth is -/
/-! ### The region -/
/-! ### From the walk that leaves the variables out to the region itself -/
/-! ### What lies there -/
structure Ab where
 i:Nat
 d:Tmp
 k:Nat
 v:Value
def uI (va:List Va) (ab:Ab) (o:Oper) (i:Nat):Oper:=if fG va i then blank o else if i=ab.i then blank o else if i=ab.k then { o with op:=.move (.const ab.v) } else o
def dP (va:List Va)(ab:Ab)(l:List Oper):List Oper:=l.zipIdx.map fun(o,i)=>uI va ab o i
def Rk (l:List Oper)(i:Nat):Nat->Nat->Bool
 | 0,_=>false
 | f+1,j=>match l[j]? with
  | some o=>o.after.any fun e=>Region.binds .any e && (e.on == i || Rk l i f e.on)
  | none=>false
def settled (l:List Oper)(o:Oper)(but:Tmp):Bool :=
 (o.looksAt l.toArray).all fun s=>s == but || (List.range l.length).all fun k=>match l[k]? with
  | some ok=>ok.dst != some s || o.after.any (fun e=>Region.binds .any e && e.on == k)
  | none=>true
def PD (va:List Va)(ab:Ab)(l:List Oper):Bool :=
 Region.lexB .any (dP va ab l).toArray && Region.noSelect l.toArray &&
 (va.all fun p=>(match l[p.i]? with
  | some o=>(match o.op with | .alloc e=>e == p.e|_=>false) && o.dst == some p.d && o.guard.isNone
  | none=>false) &&
  (match l[p.j]? with
  | some o=>(match o.op with | .store e (.tmp d) x=>e == p.e && d == p.d && (match x,p.x with | .tmp s,.tmp s'=>s == s' | .const _,.const _=>false|_,_=>false)|_=>false) && o.dst.isNone && o.guard.isNone &&
      o.after.any (fun e=>Region.binds .any e && e.on == p.i) &&
      (match p.x with
       | .tmp s=>(va.all fun q=>q.d != s) && s != ab.d && (List.range l.length).all fun k=>match l[k]? with
          | some ok=>ok.dst != some s || o.after.any (fun e=>Region.binds .any e && e.on == k)
          | none=>true
       | _=>false) && Rk l ab.k l.length p.j
  | none=>false)) &&
 ((List.range l.length).all fun i=>match l[i]? with
  | some o=>(fG va i || ((va.all fun p=>!(o.looksAt l.toArray).contains p.d && o.dst != some p.d) && (i == ab.k || !(o.looksAt l.toArray).contains ab.d) && (i == ab.i || o.dst != some ab.d))) &&
      o.after.all fun e=>!Region.binds .any e || decide (e.on<i)
  | none=>true) &&
 decide ((va.map (·.d)).Nodup) && decide ((va.map (·.i)).Nodup) && decide ((va.map (·.j)).Nodup) && (va.all fun p=>va.all fun q=>p.i != q.j) &&
 (va.all fun p=>p.d != ab.d) && !fG va ab.i && !fG va ab.k && ab.i != ab.k &&
 (match l[ab.i]? with|some o=>o.dst == some ab.d && o.guard.isNone && settled l o ab.d|none=>false) &&
 (match l[ab.k]? with|some o=>o.guard.isNone && settled l o ab.d && o.dst.isSome && o.after.any (fun e=>Region.binds .any e && e.on == ab.i)|none=>false)
theorem Lj (va:List Va)(ab:Ab)(o:Oper)(i:Nat):(uI va ab o i).after=o.after/\(uI va ab o i).dst=o.dst:=by
 unfold uI
 split
 . exact⟨rfl,rfl⟩
 . split
   . exact⟨rfl,rfl⟩
   . split <;> exact⟨rfl,rfl⟩
theorem Qp {va:List Va}{ab:Ab}{l:List Oper}(i:Nat):(dP va ab l).toArray[i]? = (l[i]?).map fun o=>uI va ab o i:=by
 simp[dP,List.getElem?_map,List.getElem?_zipIdx,Option.map_map,Function.comp_def]
theorem Qo {va:List Va}{ab:Ab}{l:List Oper}(i:Nat):((dP va ab l).toArray[i]?).map (·.after)=(l[i]?).map (·.after):=by
 rw[Qp]
 cases l[i]? with
 | none=>rfl
 | some o=>simp only[Option.map_some,(Lj va ab o i).1]
theorem Hf {va:List Va}{ab:Ab}{l:List Oper}(i:Nat):((dP va ab l).toArray[i]?).bind (·.dst)=(l.toArray[i]?).bind (·.dst):=by
 rw[Qp]
 simp only[List.getElem?_toArray]
 cases l[i]? with
 | none=>rfl
 | some o=>simp only[Option.map_some,Option.bind_some,(Lj va ab o i).2]
theorem uH {va:List Va}{ab:Ab}{l:List Oper}(o:Oper)(bt:Array Value):Region.wanted o (yielded (dP va ab l).toArray bt)=Region.wanted o (yielded l.toArray bt):=by
 unfold Region.wanted
 cases o.guard with
 | none=>rfl
 | some gw=>simp only[yielded,Hf]
theorem Qq {va:List Va}{ab:Ab}{l:List Oper}{L:Array Bool} : Region.ready .any (dP va ab l).toArray L=Region.ready .any l.toArray L:=by
 unfold Region.ready
 have hs:(dP va ab l).toArray.size=l.toArray.size:=by simp[dP]
 rw[hs]
 congr 1
 funext i
 congr 1
 have h:=Qo (va:=va) (ab:=ab) (l:=l) i
 have e:l.toArray[i]? = l[i]?:=by simp
 rw[e]
 cases h1:(dP va ab l).toArray[i]? <;> cases h2:l[i]? <;> rw[h1,h2] at h <;> simp at h
 simp only[Option.map_some,h]
theorem Rl {l:List Oper}{L:Array Bool}{i:Nat}(hcl:∀(j:Nat)(o:Oper),l[j]? = some o->L.getD j false=true->∀e ∈ o.after,Region.binds .any e=true->L.getD e.on false=true) :
    ∀(f j:Nat),Rk l i f j=true->(∀o,l[j]? = some o->∀e ∈ o.after,Region.binds .any e=true->L.getD e.on false=true)->L.getD i false=true
 | 0,_,h,_=>by cases h
 | f+1,j,h,hj=>by
  unfold Rk at h
  cases ho:l[j]? with
  | none=>rw[ho] at h;cases h
  | some o =>
   rw[ho] at h
   obtain⟨e,he,hb⟩:=Array.any_eq_true'.1 h
   simp only[Bool.and_eq_true,Bool.or_eq_true,beq_iff_eq] at hb
   have h1:=hj o ho e he hb.1
   rcases hb.2 with h2|h2
   . rw[<- h2];exact h1
   . exact Rl hcl f e.on h2 fun o' ho' e' he' hb'=>hcl e.on o' ho' h1 e' he' hb'
theorem VF {l:List Oper}{o:Oper}{but:Tmp}(h:settled l o but=true):∀s ∈ o.looksAt l.toArray,s≠but->∀(k:Nat)(ok:Oper),l[k]? = some ok->ok.dst=some s->∃e ∈ o.after,Region.binds .any e=true/\e.on=k:=by
 intro s hs hne k ok hk hd
 have h1:=List.all_eq_true.1 h s hs
 simp only[Bool.or_eq_true,beq_iff_eq] at h1
 rcases h1 with h1|h1
 . exact absurd h1 hne
 have h2:=List.all_eq_true.1 h1 k (List.mem_range.2 (List.getElem?_eq_some_iff.1 hk).1)
 rw[hk] at h2
 simp only[Bool.or_eq_true,bne_iff_ne,ne_eq] at h2
 rcases h2 with h3|h3
 . exact absurd hd h3
 . obtain⟨e,he,hb⟩:=Array.any_eq_true'.1 h3
   simp only[Bool.and_eq_true,beq_iff_eq] at hb
   exact⟨e,he,hb.1,hb.2⟩
theorem F8 {a c:Act}{ops:Array Oper}(o:Oper)(hs:∀cs b,o.op≠.select cs b)(h:∀s ∈ o.looksAt ops,a.tmps[s]? = c.tmps[s]?):execOp a.eval o=execOp c.eval o :=
 execOp_congr o hs fun x hx=>by
  cases x with
  | tmp t =>
   have:=h t (List.mem_append_left _ (List.mem_filterMap.2 ⟨.tmp t,by simpa using hx,rfl⟩))
   simp only[Act.eval,Array.getD_eq_getD_getElem?,this]
  | _=>rfl
structure Rv2 (va:List Va)(ab:Ab)(Φ:Value->World->Prop)(ν:Nat->Nat)(W:World)(L:Array Bool)(a b:Act)(w:World):Prop where
 size:a.tmps.size=b.tmps.size
 defers:a.defers=b.defers
 same:∀t,(∀p ∈ va,p.d≠t)->t≠ab.d->a.tmps[t]? = b.tmps[t]?
 made:∀p ∈ va,L.getD p.i false=true->a.tmps[p.d]? = some (.pointer (some ⟨ν p.i,0,none⟩))/\W.heap.size<=ν p.i/\w.heap[ν p.i]? = some (.cells (content L b p) p.e)
 apart:∀p ∈ va,∀q ∈ va,L.getD p.i false=true->L.getD q.i false=true->p.i≠q.i->ν p.i≠ν q.i
 val:L.getD ab.i false=true->∃v,a.tmps[ab.d]? = some v/\(L.getD ab.k false=false->Φ v w)
theorem ahE {va:List Va}{ab:Ab}{Φ:Value->World->Prop}{ν:Nat->Nat}{W w:World}{L:Array Bool}{a b:Act}(h:Rv2 va ab Φ ν W L a b w)(x:Operand)(hx:∀p ∈ va,x≠.tmp p.d)(hd:x≠.tmp ab.d):a.eval x=b.eval x:=by
 cases x with
 | tmp t =>
  have:=h.same t (fun p hp e=>hx p hp (by rw[e])) (fun e=>hd (by rw[e]))
  simp only[Act.eval,Array.getD_eq_getD_getElem?,this]
 | _=>rfl
theorem ZV {va:List Va}{ab:Ab}{Φ:Value->World->Prop}{ν:Nat->Nat}{W w:World}{L:Array Bool}{a b:Act}{ops:Array Oper}(h:Rv2 va ab Φ ν W L a b w)(o:Oper)
    (ho:∀p ∈ va,p.d ∉ o.looksAt ops) (hd:ab.d ∉ o.looksAt ops):Region.wanted o (yielded ops a.tmps)=Region.wanted o (yielded ops b.tmps):=by
 unfold Region.wanted
 cases hg:o.guard with
 | none=>rfl
 | some gw =>
  obtain⟨g,want⟩:=gw
  have hy:yielded ops a.tmps g=yielded ops b.tmps g:=by
   unfold yielded
   cases ht:(ops[g]?).bind (·.dst) with
   | none=>rfl
   | some t =>
    have:=h.same t (fun p hp e=>ho p hp (by subst e;simp[Oper.looksAt,hg,ht])) (fun e=>hd (by subst e;simp[Oper.looksAt,hg,ht]))
    simp only[Option.bind_some,this]
  simp only[hy]
section
variable {P:Program}{G:World->World->Prop}{va:List Va}{ab:Ab}{l:List Oper}{Q:Exit->Act->World->Prop}{W:World}{Φ:Value->World->Prop}
def nT (P:Program)(G:World->World->Prop)(va:List Va)(ab:Ab)(l:List Oper)(Φ:Value->World->Prop)(Q:Exit->Act->World->Prop)(W:World)(b:Act):Prop :=
 (∀p ∈ va,Fits p (b.eval p.x)) /\
 (∀o,l[ab.i]? = some o->∀w,G W w->∃f args,(execOp b.eval o).run P w=.ok (.enter f args) w/\Calls P f args w fun e w'=>∃v,e=.returned v/\Φ v w'/\G w w') /\
 (∀o,l[ab.k]? = some o->∀v w,G W w->Φ v w->∃f args,(execOp (b.put (some ab.d) v).eval o).run P w=.ok (.enter f args) w/\Calls P f args w fun e w'=>e=.returned ab.v/\G w w') /\
 ∀ns v w',G W w'->Vars W w' va ns b->Q .normal (iQ va ns (b.put (some ab.d) v)) w'
theorem aec (hG:PI G)(hΦ:∀v w w',Φ v w->G w w'->Φ v w')(hok:PD va ab l=true)(hz:∀p ∈ va,∀w,(Instr.alloc p.e true (.tuple #[])).run P w=.ok (.pointer (some ⟨w.heap.size,0,none⟩)) (w.alloc (.cells p.c p.e)))
    (hi:∀p ∈ va,(P.info? p.e).map (·.size)=some p.c.size) :
    ∀(F:Nat) (L:Array Bool) (a b:Act) (w:World) (ν:Nat->Nat),L.toList.count false=F->L.size=l.length ->
     (∀(j:Nat) (o:Oper),l[j]? = some o->L.getD j false=true->∀e ∈ o.after,Region.binds .any e=true->L.getD e.on false=true)->(∀p ∈ va,p.d<b.tmps.size)->ab.d<b.tmps.size ->
     wpAnyQ P .any (dP va ab l).toArray (fun w'=>∃g:Gr G W,w'=g.x) (nT P G va ab l Φ Q W) F L b ->
     (∀x,G W x->wpAnyQ P .any (dP va ab l).toArray (fun w'=>∃g:Gr G x,w'=g.x) (nT P G va ab l Φ Q W) F L b)->Rv2 va ab Φ ν W L a b w->G W w->wpAny P .any l.toArray Q F L a w:=by
 simp only[PD,Bool.and_eq_true,decide_eq_true_eq] at hok
 obtain⟨⟨⟨⟨⟨⟨⟨⟨⟨⟨⟨⟨⟨hlb,hsel⟩,hva⟩,hops⟩,hnd⟩,hni⟩,hnj⟩,hij⟩,hpd⟩,hmi⟩,hmk⟩,hik⟩,hAo⟩,hBo⟩:=hok
 have hlen:(dP va ab l).length=l.length:=by simp[dP]
 have hlow:∀(i:Nat) (o:Oper),l[i]? = some o->∀e ∈ o.after,Region.binds .any e=true->e.on<i:=by
  intro i o ho e he hb
  have h1:=List.all_eq_true.1 hops i (List.mem_range.2 (List.getElem?_eq_some_iff.1 ho).1)
  rw[ho] at h1
  simp only[Bool.and_eq_true] at h1
  have h2:=Array.all_eq_true_iff_forall_mem.1 h1.2 e he
  simpa [hb] using h2
 have hlow':∀(i:Nat) (o:Oper),(dP va ab l)[i]? = some o->∀e ∈ o.after,Region.binds .any e=true->e.on<i:=by
  intro i o ho e he hb
  have h1:=Qo (va:=va) (ab:=ab) (l:=l) i
  have h2:(dP va ab l).toArray[i]? = some o:=by simpa using ho
  rw[h2] at h1
  cases ho':l[i]? with
  | none=>rw[ho'] at h1;simp at h1
  | some o' =>
   rw[ho'] at h1
   simp at h1
   exact hlow i o' ho' e (by rw[<- h1];exact he) hb
 have FU:∀p ∈ va,∃o,l[p.i]? = some o/\o.op=.alloc p.e/\o.dst=some p.d/\o.guard=none:=by
  intro p hp
  have:=List.all_eq_true.1 hva p hp
  simp only[Bool.and_eq_true] at this
  have h2:=this.1
  cases ho:l[p.i]? with
  | none=>rw[ho] at h2;cases h2
  | some o =>
   rw[ho] at h2
   simp only[Bool.and_eq_true,beq_iff_eq,Option.isNone_iff_eq_none] at h2
   refine⟨o,rfl,?_,h2.1.2,h2.2⟩
   have h3:=h2.1.1
   cases hop:o.op <;> rw[hop] at h3 <;> first|(simp only[beq_iff_eq] at h3;rw[h3])|(simp at h3)
 have qJ:∀p ∈ va,∃o s,l[p.j]? = some o/\p.x=.tmp s/\o.op=.store p.e (.tmp p.d) (.tmp s)/\o.dst=none/\o.guard=none/\(∃e ∈ o.after,Region.binds .any e=true/\e.on=p.i) /\
     ((∀q ∈ va,q.d≠s)/\s≠ab.d/\Rk l ab.k l.length p.j=true)/\∀(k:Nat) (ok:Oper),l[k]? = some ok->ok.dst=some s->∃e ∈ o.after,Region.binds .any e=true/\e.on=k:=by
  intro p hp
  have:=List.all_eq_true.1 hva p hp
  simp only[Bool.and_eq_true] at this
  have h2:=this.2
  cases ho:l[p.j]? with
  | none=>rw[ho] at h2;cases h2
  | some o =>
   rw[ho] at h2
   simp only[Bool.and_eq_true,Option.isNone_iff_eq_none] at h2
   obtain⟨⟨⟨⟨⟨h3,h4⟩,h5⟩,h6⟩,h7⟩,h8⟩:=h2
   cases hx:p.x with
   | tmp s =>
    rw[hx] at h7 h3
    simp only[Bool.and_eq_true] at h7
    refine⟨o,s,rfl,rfl,?_,h4,h5,?_,?_,?_⟩
    . cases hop:o.op with
      | store e ad x =>
       rw[hop] at h3
       cases ad with
       | tmp d =>
        cases x with
        | tmp s' =>
         simp only[Bool.and_eq_true,beq_iff_eq] at h3
         rw[h3.1.1,h3.1.2,h3.2]
        | _=>simp at h3
       | _=>simp at h3
      | _=>rw[hop] at h3;simp at h3
    . obtain⟨e,he,hb⟩:=Array.any_eq_true'.1 h6
      simp only[Bool.and_eq_true,beq_iff_eq] at hb
      exact⟨e,he,hb.1,hb.2⟩
    . refine⟨fun q hq=>?_,by have:=h7.1.2;simpa using this,h8⟩
      have:=List.all_eq_true.1 h7.1.1 q hq
      simpa using this
    . intro k ok hk hd
      have:=List.all_eq_true.1 h7.2 k (List.mem_range.2 (List.getElem?_eq_some_iff.1 hk).1)
      rw[hk] at this
      simp only[Bool.or_eq_true,bne_iff_ne,ne_eq] at this
      rcases this with h|h
      . exact absurd hd h
      . obtain⟨e,he,hb⟩:=Array.any_eq_true'.1 h
        simp only[Bool.and_eq_true,beq_iff_eq] at hb
        exact⟨e,he,hb.1,hb.2⟩
   | _=>rw[hx] at h7;simp at h7
 obtain⟨oA,hoA,hdA,hgA,hsA⟩:∃o,l[ab.i]? = some o/\o.dst=some ab.d/\o.guard=none/\settled l o ab.d=true:=by
  cases ho:l[ab.i]? with
  | none=>rw[ho] at hAo;cases hAo
  | some o =>
   rw[ho] at hAo
   simp only[Bool.and_eq_true,beq_iff_eq,Option.isNone_iff_eq_none] at hAo
   exact⟨o,rfl,hAo.1.1,hAo.1.2,hAo.2⟩
 obtain⟨oB,hoB,hgB,hsB,hwB⟩:∃o,l[ab.k]? = some o/\o.guard=none/\settled l o ab.d=true/\∃e ∈ o.after,Region.binds .any e=true/\e.on=ab.i:=by
  cases ho:l[ab.k]? with
  | none=>rw[ho] at hBo;cases hBo
  | some o =>
   rw[ho] at hBo
   simp only[Bool.and_eq_true,Option.isNone_iff_eq_none] at hBo
   obtain⟨e,he,hb⟩:=Array.any_eq_true'.1 hBo.2
   simp only[Bool.and_eq_true,beq_iff_eq] at hb
   exact⟨o,rfl,hBo.1.1.1,hBo.1.1.2,e,he,hb.1,hb.2⟩
 have asZ:ab.i≠ab.k:=by simpa using hik
 have apQ:∀p ∈ va,p.d≠ab.d:=fun p hp=>by have:=List.all_eq_true.1 hpd p hp;simpa using this
 have apM:∀p ∈ va,p.i≠ab.i/\p.j≠ab.i:=fun p hp=>by
  have h1:fG va ab.i=false:=by simpa using hmi
  constructor <;> (intro e;have:fG va ab.i=true:=List.any_eq_true.2 ⟨p,hp,by simp[e]⟩;rw[h1] at this;cases this)
 have hmk':∀p ∈ va,p.i≠ab.k/\p.j≠ab.k:=fun p hp=>by
  have h1:fG va ab.k=false:=by simpa using hmk
  constructor <;> (intro e;have:fG va ab.k=true:=List.any_eq_true.2 ⟨p,hp,by simp[e]⟩;rw[h1] at this;cases this)
 intro F
 induction F with
 | zero =>
  intro L a b w ν hF hs hcl hsz hdz HE HG hrel hw
  have hall:∀i,i<l.length->L.getD i false=true:=fun i hi=>by
   cases hb:L.getD i false with
   | true=>rfl
   | false =>
    exfalso
    have hiL:i<L.size:=by omega
    rw[Array.getD_eq_getD_getElem?,Array.getElem?_eq_getElem hiL] at hb
    simp at hb
    have:false ∈ L.toList:=by rw[<- hb];simp
    have:=List.count_pos_iff.2 this
    omega
  refine⟨by rw[<- Qq (va:=va)];exact HE.1,?_⟩
  have hm:∀p ∈ va,a.tmps[p.d]? = some (.pointer (some ⟨ν p.i,0,none⟩))/\W.heap.size<=ν p.i/\w.heap[ν p.i]? = some (.cells (b.eval p.x).cells p.e):=by
   intro p hp
   obtain⟨o,ho,-⟩:=FU p hp
   obtain⟨o',_,ho',-⟩:=qJ p hp
   have:=hrel.made p hp (hall _ (List.getElem?_eq_some_iff.1 ho).1)
   unfold content at this
   rw[if_pos (hall _ (List.getElem?_eq_some_iff.1 ho').1)] at this
   exact this
  have hpl:Vars W w va (va.map fun p=>ν p.i) b:=by
   refine⟨by simp,?_,fun j p m hj hm'=>?_⟩
   . have:∀va':List Va,(∀p ∈ va',p ∈ va)->(va'.map (·.i)).Nodup->(va'.map fun p=>ν p.i).Nodup:=by
      intro va'
      induction va' with
      | nil=>intro _ _;exact List.nodup_nil
      | cons p va' ih' =>
       intro hs hnd'
       simp only[List.map_cons,List.nodup_cons] at hnd' ⊢
       refine⟨fun hmem=>?_,ih' (fun q hq=>hs q (List.mem_cons_of_mem _ hq)) hnd'.2⟩
       obtain⟨q,hq,e⟩:=List.mem_map.1 hmem
       have hpm:=hs p (List.mem_cons_self ..)
       have hqm:=hs q (List.mem_cons_of_mem _ hq)
       have hne:p.i≠q.i:=fun e'=>hnd'.1 (List.mem_map.2 ⟨q,hq,e'.symm⟩)
       obtain⟨o1,ho1,-⟩:=FU p hpm
       obtain⟨o2,ho2,-⟩:=FU q hqm
       exact hrel.apart p hpm q hqm (hall _ (List.getElem?_eq_some_iff.1 ho1).1) (hall _ (List.getElem?_eq_some_iff.1 ho2).1) hne e.symm
     exact this va (fun p hp=>hp) hni
   . have hp:p ∈ va:=List.mem_of_getElem? hj
     rw[List.getElem?_map,hj] at hm'
     cases hm'
     exact(hm p hp).2
  obtain⟨v,hv,-⟩:=hrel.val (hall _ (List.getElem?_eq_some_iff.1 hoA).1)
  have hdb:ab.d<b.tmps.size:=by rw[<- hrel.size];exact(aF hv)
  have ha:iQ va (va.map fun p=>ν p.i) (b.put (some ab.d) v)=a:=by
   refine aal ?_ ((Bc _ _ _).2.trans hrel.defers.symm)
   apply Array.ext_getElem?
   intro t
   by_cases ht:∃p ∈ va,p.d=t
   . obtain⟨p,hp,rfl⟩:=ht
     rw[JK va ν _ hnd p hp (by simpa [Act.put] using hsz p hp),(hm p hp).1]
   . rw[zu va _ _ t (fun p hp e=>ht ⟨p,hp,e⟩)]
     by_cases hta:t=ab.d
     . subst hta;rw[hv];simp[Act.put,hdb]
     . simp only[Act.put]
       rw[Array.getElem?_setIfInBounds_ne (Ne.symm hta)]
       exact(hrel.same t (fun p hp e=>ht ⟨p,hp,e⟩) hta).symm
  have:=HE.2.2.2.2 _ v w hw hpl
  rwa [ha] at this
 | succ F ih =>
  intro L a b w ν hF hs hcl hsz hdz HE HG hrel hw
  refine⟨fun h=>?_,fun i hi'=>?_⟩
  . exfalso
    have hex:∃i,i<l.length/\L.getD i false=false:=by
     have hpos:0<L.toList.count false:=by omega
     have hm:=List.count_pos_iff.1 hpos
     obtain⟨i,hi⟩:=List.mem_iff_getElem?.1 hm
     have hi':L[i]? = some false:=by simpa using hi
     have hlt:=(aF hi')
     exact⟨i,by omega,by rw[Array.getD_eq_getD_getElem?,hi'];rfl⟩
    obtain⟨i,hil,hun,hbef⟩:=y_ l.length L hex
    have:i ∈ Region.ready .any l.toArray L:=by
     rw[mem_ready]
     exact⟨getD_in (by omega) hun,l[i],by simp,fun e he hb=>hbef _ (hlow i _ (List.getElem?_eq_getElem hil) e he hb)⟩
    rw[h] at this
    cases this
  . obtain⟨U6,o,ho,AP⟩:=mem_ready.1 hi'
    have ho':l[i]? = some o:=by simpa using ho
    have hil:i<l.length:=(List.getElem?_eq_some_iff.1 ho').1
    have hiL:i<L.size:=by omega
    have hcnt:(L.setIfInBounds i true).toList.count false=F:=by
     have h1:L.toList[i]? = some false:=by
      rw[Array.getD_eq_getD_getElem?,Array.getElem?_eq_getElem hiL] at U6
      simp at U6
      rw[<- U6];simp[hiL]
     have h2:=count_set L.toList i h1
     have h3:(L.setIfInBounds i true).toList=L.toList.set i true:=by simp
     rw[h3]
     omega
    have hcl':∀(j:Nat) (o:Oper),l[j]? = some o->(L.setIfInBounds i true).getD j false=true->∀e ∈ o.after,Region.binds .any e=true->(L.setIfInBounds i true).getD e.on false=true:=by
     intro j oj hj hl e he hb
     by_cases hij':i=j
     . subst hij'
       rw[ho'] at hj
       cases hj
       exact getD_set_true (AP e he hb)
     . rw[getD_set_ne false hij'] at hl
       exact getD_set_true (hcl j oj hj hl e he hb)
    have hun:L.getD i false=false:=getD_both U6
    have hgood:=List.all_eq_true.1 hops i (List.mem_range.2 hil)
    rw[ho'] at hgood
    simp only[Bool.and_eq_true,Bool.or_eq_true] at hgood
    have hHi:(dP va ab l).toArray[i]? = some (uI va ab o i):=by rw[Qp,ho'];rfl
    have hri:i ∈ Region.ready .any (dP va ab l).toArray L:=by rw[Qq];exact hi'
    -- what is left out does nothing in the first walk
    have blanked:(fG va i=true\/i=ab.i)->o.guard=none->∀(x:World),wpAnyQ P .any (dP va ab l).toArray (fun w'=>∃g:Gr G x,w'=g.x) (nT P G va ab l Φ Q W) (F+1) L b ->
        wpAnyQ P .any (dP va ab l).toArray (fun w'=>∃g:Gr G x,w'=g.x) (nT P G va ab l Φ Q W) F (L.setIfInBounds i true) (b.put o.dst undef):=by
     intro hM hg x H
     have h1:=H.2 i hri
     unfold qOp at h1
     have hlx:uI va ab o i=blank o:=by
      unfold uI
      rcases hM with hM|hM
      . rw[if_pos hM]
      . by_cases h:fG va i=true
        . rw[if_pos h]
        . rw[if_neg h,if_pos hM]
     simp only[hHi,hlx,if_true,blank,Region.wanted,hg] at h1
     obtain⟨v,hv,h2⟩:=h1
     have h3:=hv x ⟨⟨x,hG.refl _⟩,rfl⟩
     simp only[Oper.quietAt,execOp,pure,Sem.run,Oper.quietUpon,Act.eval] at h3
     rw[<- h3.2] at h2
     exact h2
    unfold wpOp
    simp only[ho]
    by_cases hA:∃p ∈ va,p.i=i
    . -- a variable is made
      obtain⟨p,hp,hpi⟩:=hA
      obtain⟨o2,ho2,hop,hdst,hgd⟩:=FU p hp
      rw[hpi,ho'] at ho2
      cases ho2
      have hM:fG va i=true:=List.any_eq_true.2 ⟨p,hp,by simp[hpi]⟩
      have hwant:Region.wanted o (yielded l.toArray a.tmps)=true:=by simp[Region.wanted,hgd]
      simp only[hwant,if_true]
      refine .inl ?_
      unfold Oper.wp
      have hrun:(execOp a.eval o).run P w=.ok (.value (.pointer (some ⟨w.heap.size,0,none⟩))) (w.alloc (.cells p.c p.e)):=by
       have:=hz p hp w
       simp[execOp,hop,this,Result.andThen]
      rw[hrun,Oper.upon_value,hdst]
      have asU:p.d<b.tmps.size:=hsz p hp
      have HE':=blanked (.inl hM) hgd W HE
      have PK:=fun x hx=>blanked (.inl hM) hgd x (HG x hx)
      rw[hdst] at HE'
      rw[hdst] at PK
      refine ih _ _ (b.put (some p.d) undef) _ (fun k=>if k=i then w.heap.size else ν k) hcnt (by simp[hs]) hcl' (fun q hq=>by simpa [Act.put] using hsz q hq) (by simpa [Act.put] using hdz) HE' PK ?_ (hG.trans _ _ _ hw (hG.alloc _ _))
      have hiA:i≠ab.i:=by rw[<- hpi];exact(apM p hp).1
      have hiB:i≠ab.k:=by rw[<- hpi];exact(hmk' p hp).1
      refine⟨by simp[Act.put,hrel.size],by simp[Act.put,hrel.defers],fun t ht hta=>?_,fun q hq hl=>?_,fun q hq r hr hl hl' hne=>?_,fun hl=>?_⟩
      . have hpt:=ht p hp
        simp only[Act.put]
        rw[Array.getElem?_setIfInBounds_ne hpt,Array.getElem?_setIfInBounds_ne hpt]
        exact hrel.same t ht hta
      . by_cases FM:q.i=i
        . have hqe:q=p:=mG (·.i) va hni q hq p hp (FM.trans hpi.symm)
          subst hqe
          simp only[FM,if_true]
          refine⟨by simp[Act.put,hrel.size,asU],hG.size _ _ hw,?_⟩
          have VR:(L.setIfInBounds i true).getD q.j false=false:=by
           obtain⟨oj,_,hoj,_,_,_,_,⟨e,he,hb,hon⟩,-⟩:=qJ q hq
           have hne:i≠q.j:=by
            have:=List.all_eq_true.1 (List.all_eq_true.1 hij q hq) q hq
            rw[hpi] at this
            simpa using this
           rw[getD_set_ne false hne]
           cases hb':L.getD q.j false with
           | false=>rfl
           | true =>
            have:=hcl q.j oj hoj hb' e he hb
            rw[hon,hpi,hun] at this
            cases this
          unfold content
          rw[if_neg (by rw[VR];exact Bool.false_ne_true)]
          exact heap_alloc_new w _
        . simp only[FM,if_false]
          rw[getD_set_ne false (Ne.symm FM)] at hl
          obtain⟨g1,g2,g3⟩:=hrel.made q hq hl
          have amy:q.d≠p.d:=fun e=>FM (by rw[mG (·.d) va hnd q hq p hp e];exact hpi)
          refine⟨?_,g2,?_⟩
          . simp only[Act.put];rw[Array.getElem?_setIfInBounds_ne (Ne.symm amy)];exact g1
          . rw[Below.heap_alloc w _ _ (aF g3),g3]
            congr 2
            obtain⟨oj,s,hoj,hx,-,-,-,-,hns,-⟩:=qJ q hq
            have hne:i≠q.j:=by
             have:=List.all_eq_true.1 (List.all_eq_true.1 hij p hp) q hq
             rw[hpi] at this
             simpa using this
            unfold content
            rw[getD_set_ne false hne]
            have:(b.put (some p.d) undef).eval q.x=b.eval q.x:=Act.eval_put (fun d hd=>by cases hd;rw[hx];intro e;cases e;exact hns.1 p hp rfl)
            rw[this]
      . by_cases FM:q.i=i <;> by_cases VS:r.i=i
        . exact absurd (FM.trans VS.symm) hne
        . simp only[FM,VS,if_true,if_false]
          rw[getD_set_ne false (Ne.symm VS)] at hl'
          have:=(Array.getElem?_eq_some_iff.1 (hrel.made r hr hl').2.2).1
          omega
        . simp only[FM,VS,if_true,if_false]
          rw[getD_set_ne false (Ne.symm FM)] at hl
          have:=(Array.getElem?_eq_some_iff.1 (hrel.made q hq hl).2.2).1
          omega
        . simp only[FM,VS,if_false]
          rw[getD_set_ne false (Ne.symm FM)] at hl
          rw[getD_set_ne false (Ne.symm VS)] at hl'
          exact hrel.apart q hq r hr hl hl' hne
      . rw[getD_set_ne false hiA] at hl
        obtain⟨v,hv,hf⟩:=hrel.val hl
        refine⟨v,?_,fun hk=>?_⟩
        . simp only[Act.put];rw[Array.getElem?_setIfInBounds_ne (apQ p hp)];exact hv
        . rw[getD_set_ne false hiB] at hk
          exact hΦ _ _ _ (hf hk) (hG.alloc _ _)
    . by_cases hB:∃p ∈ va,p.j=i
      . -- a variable's first store
        obtain⟨p,hp,VR⟩:=hB
        obtain⟨o2,s,ho2,hx,hop,hdst,hgd,⟨e,he,heb,hon⟩,hns,hwr⟩:=qJ p hp
        rw[VR,ho'] at ho2
        cases ho2
        have hM:fG va i=true:=List.any_eq_true.2 ⟨p,hp,by simp[VR]⟩
        have hLi:L.getD p.i false=true:=by rw[<- hon];exact AP e he heb
        obtain⟨g1,g2,g3⟩:=hrel.made p hp hLi
        have hLj:L.getD p.j false=false:=by rw[VR];exact hun
        have hc0:content L b p=p.c:=by unfold content;rw[if_neg (by rw[hLj];exact Bool.false_ne_true)]
        rw[hc0] at g3
        have hfit:Fits p (b.eval p.x):=by
         obtain⟨bf,hbf,hbt⟩:=complete hlow' (F+1) L b (by rw[hs,hlen]) hF HE
         have h1:=hbf.1 p hp
         have h2:bf.eval p.x=b.eval p.x:=by
          rw[hx]
          have h3:=hbt s fun k ok hk hl hd=>by
           have h4:((dP va ab l).toArray[k]?).bind (·.dst)=some s:=by
            have:(dP va ab l).toArray[k]? = some ok:=by simpa using hk
            rw[this];exact hd
           rw[Hf] at h4
           simp only[List.getElem?_toArray] at h4
           cases hk':l[k]? with
           | none=>rw[hk'] at h4;simp at h4
           | some ok' =>
            rw[hk'] at h4
            simp at h4
            obtain⟨e',he',MM,U7⟩:=hwr k ok' hk' h4
            have:=AP e' he' MM
            rw[U7,hl] at this
            cases this
          simp only[Act.eval,Array.getD_eq_getD_getElem?,h3]
         rwa [h2] at h1
        have hav:a.eval p.x=b.eval p.x:=by
         rw[hx];exact ahE hrel _ (fun q hq e=>by cases e;exact hns.1 q hq rfl) (fun e=>by cases e;exact hns.2.1 rfl)
        have hap:a.eval (.tmp p.d)=.pointer (some ⟨ν p.i,0,none⟩):=by
         simp only[Act.eval,Array.getD_eq_getD_getElem?,g1,Option.getD_some]
        have hwant:Region.wanted o (yielded l.toArray a.tmps)=true:=by simp[Region.wanted,hgd]
        simp only[hwant,if_true]
        refine .inl ?_
        unfold Oper.wp
        have hrun:(execOp a.eval o).run P w=.ok .skip (w.setRow (ν p.i) (b.eval p.x).cells):=by
         have:=FZ (P:=P) g3 (hi p hp) hfit.1 hfit.2
         rw[<- hav,hx] at this
         rw[<- hap] at this
         rw[<- hav,hx]
         simp[execOp,hop,this,Result.andThen]
        rw[hrun,Oper.upon_skip,hdst]
        have HE':=blanked (.inl hM) hgd W HE
        have PK:=fun x hx=>blanked (.inl hM) hgd x (HG x hx)
        rw[hdst] at HE'
        rw[hdst] at PK
        refine ih _ _ b _ ν hcnt (by simp[hs]) hcl' hsz hdz HE' PK ?_ (hG.own _ _ _ _ hw g2)
        have hij':∀q ∈ va,q.i≠i:=fun q hq e=>hA ⟨q,hq,e⟩
        have hBd:L.getD ab.k false=true:=Rl hcl _ p.j hns.2.2 (fun o'' apO e' he' hb'=>by rw[VR,ho'] at apO;cases apO;exact AP e' he' hb')
        have hiA:i≠ab.i:=by rw[<- VR];exact(apM p hp).2
        have hiB:i≠ab.k:=by rw[<- VR];exact(hmk' p hp).2
        refine⟨hrel.size,hrel.defers,hrel.same,fun q hq hl=>?_,fun q hq r hr hl hl' hne=>?_,fun hl=>?_⟩
        . rw[getD_set_ne false (Ne.symm (hij' q hq))] at hl
          obtain⟨k1,k2,k3⟩:=hrel.made q hq hl
          refine⟨k1,k2,?_⟩
          by_cases FM:q=p
          . subst FM
            rw[setRow_heap w _ _ _ _ _ g3]
            congr 2
            unfold content
            rw[VR,if_pos (by simp[hiL])]
          . have hne:q.i≠p.i:=fun e=>FM (mG (·.i) va hni q hq p hp e)
            have amG:q.j≠i:=fun e=>FM (mG (·.j) va hnj q hq p hp (e.trans VR.symm))
            rw[setRow_other w _ _ _ (hrel.apart q hq p hp hl hLi hne),k3]
            congr 2
            unfold content
            rw[getD_set_ne false (Ne.symm amG)]
        . rw[getD_set_ne false (Ne.symm (hij' q hq))] at hl
          rw[getD_set_ne false (Ne.symm (hij' r hr))] at hl'
          exact hrel.apart q hq r hr hl hl' hne
        . rw[getD_set_ne false hiA] at hl
          obtain⟨v,hv,-⟩:=hrel.val hl
          exact⟨v,hv,fun hk=>by rw[getD_set_ne false hiB,hBd] at hk;cases hk⟩
      . -- neither a variable's making nor its first store
        have hM:fG va i=false:=by
         cases h:fG va i with
         | false=>rfl
         | true =>
          obtain⟨p,hp,hpe⟩:=List.any_eq_true.1 h
          simp only[Bool.or_eq_true,beq_iff_eq] at hpe
          rcases hpe with h1|h1
          . exact absurd ⟨p,hp,h1⟩ hA
          . exact absurd ⟨p,hp,h1⟩ hB
        have hcl0:(∀p ∈ va,p.d ∉ o.looksAt l.toArray/\o.dst≠some p.d)/\(i=ab.k\/ab.d ∉ o.looksAt l.toArray)/\(i=ab.i\/o.dst≠some ab.d):=by
         rcases hgood.1 with h|h
         . rw[hM] at h;cases h
         . refine⟨fun p hp=>?_,?_,?_⟩
           . have:=List.all_eq_true.1 h.1.1 p hp
             simpa using this
           . have:=h.1.2;simpa using this
           . have:=h.2;simpa using this
        have Xn:=hcl0.1
        have hii:∀p ∈ va,p.i≠i:=fun p hp e=>hA ⟨p,hp,e⟩
        have hjj:∀p ∈ va,p.j≠i:=fun p hp e=>hB ⟨p,hp,e⟩
        -- the slots that an operation of the pair looks at hold at the walk's end what they hold now
        have late:settled l o ab.d=true->∀bf:Act,(∀t,(∀(k:Nat) (ok:Oper),(dP va ab l)[k]? = some ok->L.getD k false=false->ok.dst≠some t)->bf.tmps[t]? = b.tmps[t]?) ->
            ∀s ∈ o.looksAt l.toArray,s≠ab.d->a.tmps[s]? = bf.tmps[s]?:=by
         intro hst bf hbt s hs hsd
         rw[hbt s fun k ok hk hl hd=>?_]
         . exact hrel.same s (fun p hp e=>(Xn p hp).1 (by rw[e];exact hs)) hsd
         . have h4:((dP va ab l).toArray[k]?).bind (·.dst)=some s:=by
            have:(dP va ab l).toArray[k]? = some ok:=by simpa using hk
            rw[this];exact hd
           rw[Hf] at h4
           simp only[List.getElem?_toArray] at h4
           cases hk':l[k]? with
           | none=>rw[hk'] at h4;simp at h4
           | some ok' =>
            rw[hk'] at h4
            simp at h4
            obtain⟨e',he',MM,U7⟩:=VF hst s hs hsd k ok' hk' h4
            have:=AP e' he' MM
            rw[U7,hl] at this
            cases this
        have keep:∀(v v2:Value) (w':World),G w w'->(o.dst=none\/∀d,o.dst=some d->d≠ab.d->v=v2)->(L.setIfInBounds i true).getD ab.i false=L.getD ab.i false\/o.dst=some ab.d ->
            ((L.setIfInBounds i true).getD ab.i false=true->∃u,(a.put o.dst v).tmps[ab.d]? = some u/\((L.setIfInBounds i true).getD ab.k false=false->Φ u w')) ->
            Rv2 va ab Φ ν W (L.setIfInBounds i true) (a.put o.dst v) (b.put o.dst v2) w':=by
         intro v v2 w' hg hv _ hval
         refine⟨?_,?_,fun t ht hta=>?_,fun p hp hl=>?_,fun p hp q hq hl hl' hne=>?_,hval⟩
         . cases o.dst <;> simp[Act.put,hrel.size]
         . cases o.dst <;> simp[Act.put,hrel.defers]
         . cases hd:o.dst with
           | none=>exact hrel.same t ht hta
           | some d =>
            simp only[Act.put,Array.getElem?_setIfInBounds,hrel.same t ht hta,hrel.size]
            by_cases hdt:d=t
            . rcases hv with h|h
              . rw[hd] at h;cases h
              . rw[h d hd (by rw[hdt];exact hta)]
            . simp[hdt]
         . rw[getD_set_ne false (hii p hp).symm] at hl
           obtain⟨h1,h2,h3⟩:=hrel.made p hp hl
           refine⟨?_,h2,?_⟩
           . cases hd:o.dst with
             | none=>exact h1
             | some d=>simp only[Act.put];rw[Array.getElem?_setIfInBounds_ne (fun e=>(Xn p hp).2 (by rw[hd,e]))];exact h1
           . rw[hG.kept _ _ hg _ _ _ _ h3]
             congr 2
             unfold content
             rw[getD_set_ne false (hjj p hp).symm]
             split
             . rename_i hlj
               obtain⟨oj,s,hoj,hx,-,-,-,-,-,hwr⟩:=qJ p hp
               have:(b.put o.dst v2).eval p.x=b.eval p.x:=Act.eval_put (fun d hd=>by
                rw[hx];intro e;cases e
                obtain⟨e',he',MM,U7⟩:=hwr i o ho' hd
                have:=hcl p.j oj hoj hlj e' he' MM
                rw[U7,hun] at this
                cases this)
               rw[this]
             . rfl
         . rw[getD_set_ne false (hii p hp).symm] at hl
           rw[getD_set_ne false (hii q hq).symm] at hl'
           exact hrel.apart p hp q hq hl hl' hne
        by_cases hiA:i=ab.i
        . -- the call whose value hangs on the world
          rw[hiA,hoA] at ho'
          cases ho'
          have hwant:Region.wanted oA (yielded l.toArray a.tmps)=true:=by simp[Region.wanted,hgA]
          simp only[hwant,if_true]
          refine .inl ?_
          obtain⟨bf,hbf,hbt⟩:=complete hlow' (F+1) L b (by rw[hs,hlen]) hF HE
          obtain⟨f,args,hrun,hcall⟩:=hbf.2.1 oA hoA w hw
          have hex:execOp a.eval oA=execOp bf.eval oA:=F8 oA (fun cs b=>Region.noSelect_spec hsel i oA cs b ho) (ops:=l.toArray) (fun s hs'=>late hsA bf hbt s hs' fun e=>by
           rcases hcl0.2.1 with h|h
           . exact asZ (hiA.symm.trans h)
           . exact h (by rw[<- e];exact hs'))
          unfold Oper.wp
          rw[hex,hrun,Oper.upon_enter]
          refine hcall.mono ?_
          rintro e w' ⟨v,rfl,hv,hg⟩
          have HE':=blanked (.inr hiA) hgA W HE
          have PK:=fun x hx=>blanked (.inr hiA) hgA x (HG x hx)
          refine ih _ _ _ w' ν hcnt (by simp[hs]) hcl' (fun q hq=>by rw[hdA];simpa [Act.put] using hsz q hq) (by rw[hdA];simpa [Act.put] using hdz) HE' PK ?_ (hG.trans _ _ _ hw hg)
          refine keep v undef w' hg (.inr fun d hd hne=>absurd (by rw[hdA] at hd;cases hd;rfl) hne) (.inr hdA) fun _=>⟨v,?_,fun _=>hv⟩
          have hda:ab.d<a.tmps.size:=by rw[hrel.size];exact hdz
          rw[hdA];simp[Act.put,hda]
        . by_cases hiB:i=ab.k
          . -- the call that takes it
            rw[hiB,hoB] at ho'
            cases ho'
            have hwant:Region.wanted oB (yielded l.toArray a.tmps)=true:=by simp[Region.wanted,hgB]
            simp only[hwant,if_true]
            refine .inl ?_
            obtain⟨eB,heB,hbB,apP⟩:=hwB
            obtain⟨v,hv,hf⟩:=hrel.val (by rw[<- apP];exact AP eB heB hbB)
            have hf':=hf (by rw[<- hiB];exact hun)
            obtain⟨bf,hbf,hbt⟩:=complete hlow' (F+1) L b (by rw[hs,hlen]) hF HE
            obtain⟨f,args,hrun,hcall⟩:=hbf.2.2.1 oB hoB v w hw hf'
            have hbs:ab.d<bf.tmps.size:=by
             have h1:=hbt ab.d fun k ok hk hl hd=>by
              have h4:((dP va ab l).toArray[k]?).bind (·.dst)=some ab.d:=by
               have:(dP va ab l).toArray[k]? = some ok:=by simpa using hk
               rw[this];exact hd
              rw[Hf] at h4
              simp only[List.getElem?_toArray] at h4
              cases hk':l[k]? with
              | none=>rw[hk'] at h4;simp at h4
              | some ok' =>
               rw[hk'] at h4
               simp at h4
               have h5:=List.all_eq_true.1 hops k (List.mem_range.2 (List.getElem?_eq_some_iff.1 hk').1)
               rw[hk'] at h5
               simp only[Bool.and_eq_true,Bool.or_eq_true] at h5
               rcases h5.1 with h6|h6
               . obtain⟨p,hp,hpe⟩:=List.any_eq_true.1 h6
                 simp only[Bool.or_eq_true,beq_iff_eq] at hpe
                 rcases hpe with h7|h7
                 . obtain⟨o1,h8,-,h9,-⟩:=FU p hp
                   rw[h7,hk'] at h8
                   cases h8
                   exact apQ p hp (Option.some.inj (h9.symm.trans h4))
                 . obtain⟨o1,_,h8,-,-,h9,-⟩:=qJ p hp
                   rw[h7,hk'] at h8
                   cases h8
                   rw[h4] at h9
                   cases h9
               . have h7:=h6.2
                 simp[h4] at h7
                 rw[h7] at hl
                 have:=AP eB heB hbB
                 rw[apP,hl] at this
                 cases this
             rw[Array.getElem?_eq_getElem hdz] at h1
             exact(aF h1)
            have hex:execOp a.eval oB=execOp (bf.put (some ab.d) v).eval oB:=F8 oB (fun cs b=>Region.noSelect_spec hsel i oB cs b ho) (ops:=l.toArray) (fun s hs'=>by
             by_cases hsd:s=ab.d
             . subst hsd;rw[hv];simp[Act.put,hbs]
             . rw[late hsB bf hbt s hs' hsd];simp only[Act.put];rw[Array.getElem?_setIfInBounds_ne (Ne.symm hsd)])
            unfold Oper.wp
            rw[hex,hrun,Oper.upon_enter]
            refine hcall.mono ?_
            rintro e w' ⟨rfl,hg⟩
            have hlx:uI va ab oB i = { oB with op:=.move (.const ab.v) }:=by
             unfold uI;rw[if_neg (by rw[hM];exact Bool.false_ne_true),if_neg hiA,if_pos hiB]
            have next:∀(x:World),wpAnyQ P .any (dP va ab l).toArray (fun w'=>∃g:Gr G x,w'=g.x) (nT P G va ab l Φ Q W) (F+1) L b ->
                wpAnyQ P .any (dP va ab l).toArray (fun w'=>∃g:Gr G x,w'=g.x) (nT P G va ab l Φ Q W) F (L.setIfInBounds i true) (b.put oB.dst ab.v):=by
             intro x H
             have h1:=H.2 i hri
             unfold qOp at h1
             simp only[hHi,hlx,if_true,Region.wanted,hgB] at h1
             obtain⟨u,hu,h2⟩:=h1
             have h3:=hu x ⟨⟨x,hG.refl _⟩,rfl⟩
             simp only[Oper.quietAt,execOp,pure,Sem.run,Oper.quietUpon,Act.eval] at h3
             rw[<- h3.2] at h2
             exact h2
            have hdB:oB.dst≠some ab.d:=by
             rcases hcl0.2.2 with h|h
             . exact absurd h hiA
             . exact h
            refine ih _ _ _ w' ν hcnt (by simp[hs]) hcl' (fun q hq=>by cases hd:oB.dst <;> simpa [Act.put] using hsz q hq) (by cases hd:oB.dst <;> simpa [Act.put] using hdz) (next W HE) (fun x hx=>next x (HG x hx)) ?_ (hG.trans _ _ _ hw hg)
            refine keep ab.v ab.v w' hg (.inr fun _ _ _=>rfl) (.inl (getD_set_ne false hiA)) fun _=>⟨v,?_,fun hk=>?_⟩
            . cases hd:oB.dst with
              | none=>exact hv
              | some d=>simp only[Act.put];rw[Array.getElem?_setIfInBounds_ne (fun e=>hdB (by rw[hd,e]))];exact hv
            . rw[<- hiB] at hk;simp[hiL] at hk
          . -- whatever else
            have hdo:ab.d ∉ o.looksAt l.toArray:=by
             rcases hcl0.2.1 with h|h
             . exact absurd h hiB
             . exact h
            have hdd:o.dst≠some ab.d:=by
             rcases hcl0.2.2 with h|h
             . exact absurd h hiA
             . exact h
            have hex:execOp a.eval o=execOp b.eval o:=F8 o (fun cs b=>Region.noSelect_spec hsel i o cs b ho) (ops:=l.toArray) (fun s hs'=>hrel.same s (fun p hp e=>(Xn p hp).1 (by rw[e];exact hs')) (fun e=>hdo (by rw[<- e];exact hs')))
            have hwt:Region.wanted o (yielded l.toArray a.tmps)=Region.wanted o (yielded l.toArray b.tmps):=ZV hrel o (fun p hp=>(Xn p hp).1) hdo
            have hlx:uI va ab o i=o:=by
             unfold uI;rw[if_neg (by rw[hM];exact Bool.false_ne_true),if_neg hiA,if_neg hiB]
            have UL:(dP va ab l).toArray[i]? = some o:=by rw[hHi,hlx]
            have put:∀(v:Value) (w':World),G w w'->Rv2 va ab Φ ν W (L.setIfInBounds i true) (a.put o.dst v) (b.put o.dst v) w':=by
             intro v w' hg
             refine keep v v w' hg (.inr fun _ _ _=>rfl) (.inl (getD_set_ne false hiA)) fun hl=>?_
             rw[getD_set_ne false hiA] at hl
             obtain⟨u,hu,hf⟩:=hrel.val hl
             refine⟨u,?_,fun hk=>?_⟩
             . cases hd:o.dst with
               | none=>exact hu
               | some d=>simp only[Act.put];rw[Array.getElem?_setIfInBounds_ne (fun e=>hdd (by rw[hd,e]))];exact hu
             . rw[getD_set_ne false hiB] at hk
               exact hΦ _ _ _ (hf hk) hg
            have go:∀v w',G w w'->wpAnyQ P .any (dP va ab l).toArray (fun w'=>∃g:Gr G W,w'=g.x) (nT P G va ab l Φ Q W) F (L.setIfInBounds i true) (b.put o.dst v) ->
                (∀x,G W x->wpAnyQ P .any (dP va ab l).toArray (fun w'=>∃g:Gr G x,w'=g.x) (nT P G va ab l Φ Q W) F (L.setIfInBounds i true) (b.put o.dst v)) ->
                wpAny P .any l.toArray Q F (L.setIfInBounds i true) (a.put o.dst v) w':=fun v w' hg h1 h2 =>
             ih _ _ (b.put o.dst v) _ ν hcnt (by simp[hs]) hcl' (fun q hq=>by cases hd:o.dst <;> simpa [Act.put] using hsz q hq) (by cases hd:o.dst <;> simpa [Act.put] using hdz) h1 h2 (put v w' hg) (hG.trans _ _ _ hw hg)
            rw[hwt]
            by_cases hwant:Region.wanted o (yielded l.toArray b.tmps)=true
            . simp only[hwant,if_true]
              refine .inl ?_
              have h1:=HE.2 i hri
              unfold qOp at h1
              simp only[UL,uH,hwant,if_true] at h1
              obtain⟨v,hv,hK⟩:=h1
              have PK:∀x,G W x->(∀y,G x y->o.quietAt P b (fun w'=>∃g:Gr G x,w'=g.x) y v) /\
                  wpAnyQ P .any (dP va ab l).toArray (fun w'=>∃g:Gr G x,w'=g.x) (nT P G va ab l Φ Q W) F (L.setIfInBounds i true) (b.put o.dst v):=by
               intro x hx
               have h2:=(HG x hx).2 i hri
               unfold qOp at h2
               simp only[UL,uH,hwant,if_true] at h2
               obtain⟨u,hu,h3⟩:=h2
               have huv:u=v:=TN (hu x ⟨⟨x,hG.refl _⟩,rfl⟩) (hv x ⟨⟨x,hx⟩,rfl⟩)
               subst huv
               exact⟨fun y hy=>hu y ⟨⟨y,hy⟩,rfl⟩,h3⟩
              have hq:=(PK w hw).1 w (hG.refl _)
              unfold Oper.quietAt at hq
              unfold Oper.wp
              rw[hex]
              generalize (execOp b.eval o).run P w=r at hq
              cases r with
              | ok nx w' =>
               cases nx <;> simp only[Oper.quietUpon] at hq <;> simp only[Oper.upon]
               case value u =>
                obtain⟨rfl,rfl⟩:=hq
                exact go u _ (hG.refl _) hK fun x hx=>(PK x hx).2
               case skip =>
                obtain⟨rfl,rfl⟩:=hq
                exact go undef _ (hG.refl _) hK fun x hx=>(PK x hx).2
               case enter f args =>
                obtain⟨rfl,hcall⟩:=hq
                refine hcall.mono fun e w'' ⟨he,hw''⟩=>?_
                subst he
                obtain⟨g,rfl⟩:=hw''
                exact go v _ g.h hK fun x hx=>(PK x hx).2
              | halt x w'=>simp only[Oper.quietUpon] at hq
            . have hw0:Region.wanted o (yielded l.toArray b.tmps)=false:=by simpa using hwant
              simp only[hw0,Bool.false_eq_true,if_false]
              refine go undef _ (hG.refl _) ?_ fun x hx=>?_
              . have h2:=HE.2 i hri
                unfold qOp at h2
                simp only[UL,uH,hw0,Bool.false_eq_true,if_false] at h2
                exact h2
              . have h2:=(HG x hx).2 i hri
                unfold qOp at h2
                simp only[UL,uH,hw0,Bool.false_eq_true,if_false] at h2
                exact h2
theorem Ad (hG:PI G)(hΦ:∀v w w',Φ v w->G w w'->Φ v w'){id:Nat}{a:Act}(hm:P.follows .mixedOrders=true)(hok:PD va ab l=true)
    (hz:∀p ∈ va,∀w,(Instr.alloc p.e true (.tuple #[])).run P w=.ok (.pointer (some ⟨w.heap.size,0,none⟩)) (w.alloc (.cells p.c p.e)))
    (hi:∀p ∈ va,(P.info? p.e).map (·.size)=some p.c.size) (hsz:∀p ∈ va,p.d<a.tmps.size) (hdz:ab.d<a.tmps.size)
    (h:∀(T:Type) (f:T->World),Nonempty T->(∀g,G W (f g))->(∀g w',G (f g) w'->∃g',w'=f g')->wpQuiet P (dP va ab l).toArray (fun w'=>∃g:T,w'=f g) (nT P G va ab l Φ Q W) (dP va ab l) a) :
    (Code.region id l.toArray true).wp P Q a W:=by
 have hok':=hok
 simp only[PD,Bool.and_eq_true,decide_eq_true_eq] at hok'
 obtain⟨⟨⟨⟨⟨⟨⟨⟨⟨⟨⟨⟨⟨hlb,hsel⟩,hva⟩,hops⟩,hnd⟩,hni⟩,hnj⟩,hij⟩,hpd⟩,hmi⟩,hmk⟩,hik⟩,hAo⟩,hBo⟩:=hok'
 simp only[Region.lexB,Bool.and_eq_true] at hlb
 refine wp_region_any hm ?_
 have hlen:(dP va ab l).length=l.length:=by simp[dP]
 have any:∀x,G W x->wpAnyQ P .any (dP va ab l).toArray (fun w'=>∃g:Gr G x,w'=g.x) (nT P G va ab l Φ Q W) l.toArray.size (Array.replicate l.toArray.size false) a:=fun x hx=>by
  have h2:=wpAnyQ_lex (md:=.any) (C:=fun w'=>∃g:Gr G x,w'=g.x) hlb.1 (dP va ab l) 0 (Array.replicate (dP va ab l).toArray.size false) a (by simp) (by simpa using hlb.2)
   (h (Gr G x) (fun g=>g.x) ⟨⟨x,hG.refl _⟩⟩ (fun g=>hG.trans _ _ _ hx g.h) (fun g w' hg=>⟨⟨w',hG.trans _ _ _ g.h hg⟩,rfl⟩))
  simpa [hlen] using h2
 exact aec (Q:=Q) (W:=W) hG hΦ hok hz hi l.toArray.size (Array.replicate l.toArray.size false) a a { W with drawn:=W.drawn+1 } (fun _=>0) (by simp) (by simp)
  (fun j oj _ hl=>(by rw[getD_replicate_false] at hl;cases hl)) hsz hdz (any W (hG.refl _)) any
  ⟨rfl,rfl,fun _ _ _=>rfl,fun p _ hl=>(by rw[getD_replicate_false] at hl;cases hl),fun p _ q _ hl=>(by rw[getD_replicate_false] at hl;cases hl),fun hl=>(by rw[getD_replicate_false] at hl;cases hl)⟩ (hG.drew W)
