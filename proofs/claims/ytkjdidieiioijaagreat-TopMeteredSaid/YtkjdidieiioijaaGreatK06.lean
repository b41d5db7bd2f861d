/- Walks. -/
import Derived.Deep.AppendLies
import Derived.Test.YtkjdidieiioijaaGreatK05
set_option linter.all false
set_option maxRecDepth 100000
set_option maxHeartbeats 16000000
namespace Go.Proofs.YtkjdidieiioijaaGreat.G
open Go.RowKit Go.Sd bz
theorem add_zero' (a:Addr):a.add 0=a:=by unfold Addr.add;simp
theorem jd (a:Act)(d i:Nat)(v:Value)(hd:d<a.tmps.size):(a.put (some d) v).tmps[i]? = if i=d then some v else a.tmps[i]?:=by
 simp only[Act.put]
 rw[Array.getElem?_setIfInBounds]
 by_cases h:d=i
 . subst h;simp[hd]
 . rw[if_neg h,if_neg (Ne.symm h)]
theorem jM (a:Act)(d:Nat)(v:Value):(a.put (some d) v).tmps.size=a.tmps.size/\(a.put (some d) v).defers=a.defers:=by simp[Act.put]
theorem WV (a:Act)(i:Nat)(v:Value)(h:a.tmps[i]? = some v):a.eval (.tmp i)=v:=by
 have:a.tmps.getD i undef=v:=by simp[h]
 exact this
theorem mi (l:Array Bool)(i j:Nat):(l.setIfInBounds i true).getD j true=if j=i then true else l.getD j true:=by
 by_cases h:j=i
 . subst h
   rw[if_pos rfl]
   by_cases hl:j<l.size
   . simp[Array.getD,hl]
   . simp[Array.getD,hl]
 . rw[if_neg h,getD_set_ne true (Ne.symm h)]
theorem ZU (dst:Option Tmp)(ty:TypeId)(pos:String)(after:Array Edge)(a:Act)(x:Int)(t:Nat)(h:a.tmps[t]? = some (.int .i64 x))(w:World) :
    (execOp a.eval ⟨dst,.buildSlice 50 1 #[(0,.tmp t)],ty,pos,after,none⟩).run Tryz.prog w=.ok (.value (.slice (some ⟨w.heap.size,0,none⟩) 1 1)) (w.alloc (.cells #[.int .i64 x] 3)):=by
 have h2:a.tmps.getD t undef=.int .i64 x:=by simp[h]
 simp[go_sem,h,h2]
structure Ul (ops:Array Oper):Prop where
 size:ops.size=48
 build:∀k,k<4->∃ty pos after,ops[8*k+10]? = some ⟨some (8*k+14),.buildSlice 50 1 #[(0,.tmp (8*k+13))],ty,pos,after,none⟩/\(after.all fun e=>e.on == 8*k+9)=true
 app:∀k,k<4->∃ty pos after,ops[8*k+11]? = some ⟨some (8*k+15),.call { callee:=.builtin .append,args:=#[.tmp (8*k+11),.tmp (8*k+14)],argTypes:=#[50,50] },ty,pos,after,none⟩ /\
  (after.all fun e=>e.on == 8*k+7 || e.on == 8*k+10 || (decide (0<k) && e.on == 8*k+3))=true/\(after.any fun e=>Region.binds .any e && e.on == 8*k+10)=true
structure qC (B:Nat)(X:World)(v:Nat->Value)(l:Nat->List Int)(x:Nat->Int)(bb:Nat)(listed:Array Bool)(a:Act)(w:World)(r:Nat->Value):Prop where
 sz:a.tmps.size=48
 df:a.defers=[]
 ps:∀i,4<=i->i<8->a.tmps[i]? = some (.pointer (some ⟨bb,0,none⟩))
 xs:∀k,k<4->a.tmps[8*k+13]? = some (.int .i64 (x k))
 vs:∀k,k<4->a.tmps[8*k+11]? = some (v k)
 done:∀k,k<4->listed.getD (8*k+11) true=true->a.tmps[8*k+15]? = some (r k)/\bg B w (r k) (l k ++ [x k])
 todo:∀k,k<4->listed.getD (8*k+11) true=false->r k=v k/\bg B w (v k) (l k)
 ajP:∀k,k<4->(r k).ownBlock=(v k).ownBlock\/∃m,X.heap.size<=m/\(r k).ownBlock=some m
 WE:∀i j,i<4->j<4->i≠j->∀b,(r i).ownBlock=some b->(r j).ownBlock≠some b
 built:∀k,k<4->listed.getD (8*k+10) true=true->listed.getD (8*k+11) true=false ->
  ∃n,a.tmps[8*k+14]? = some (.slice (some ⟨n,0,none⟩) 1 1)/\w.heap[n]? = some (.cells #[.int .i64 (x k)] 3 (0,0))/\∀j,j<4->(r j).ownBlock≠some n
 kept:Kept (fun b=>∀k,k<4->(v k).ownBlock≠some b) X w
 base:B<=X.heap.size
section
variable {B:Nat}{X:World}{v:Nat->Value}{l:Nat->List Int}{x:Nat->Int}{bb:Nat}{listed:Array Bool}{a:Act}{w:World}{r:Nat->Value}
theorem qC.lt (h:qC B X v l x bb listed a w r){k:Nat}(hk:k<4):∀b,(r k).ownBlock=some b->B<=b/\b<w.heap.size:=by
 intro b hb
 cases hl:listed.getD (8*k+11) true with
 | true=>exact(h.done k hk hl).2.lt b hb
 | false=>have:=h.todo k hk hl;rw[this.1] at hb;exact this.2.lt b hb
theorem qC.build (h:qC B X v l x bb listed a w r){k:Nat}(hk:k<4) :
    qC B X v l x bb (listed.setIfInBounds (8*k+10) true) (a.put (some (8*k+14)) (.slice (some ⟨w.heap.size,0,none⟩) 1 1)) (w.alloc (.cells #[.int .i64 (x k)] 3)) r:=by
 have hd:8*k+14<a.tmps.size:=by rw[h.sz];omega
 have hB:Below w.heap.size w (w.alloc (.cells #[.int .i64 (x k)] 3)):=(Below.refl _ _).alloc (Nat.le_refl _) _
 refine⟨(jM _ _ _).1.trans h.sz,(jM _ _ _).2.trans h.df,?_,?_,?_,?_,?_,h.ajP,h.WE,?_,h.kept.alloc _,h.base⟩
 . intro i h1 h2;rw[jd _ _ _ _ hd,if_neg (by omega)];exact h.ps i h1 h2
 . intro j hj;rw[jd _ _ _ _ hd,if_neg (by omega)];exact h.xs j hj
 . intro j hj;rw[jd _ _ _ _ hd,if_neg (by omega)];exact h.vs j hj
 . intro j hj hl
   rw[mi,if_neg (by omega)] at hl
   rw[jd _ _ _ _ hd,if_neg (by omega)]
   exact⟨(h.done j hj hl).1,(h.done j hj hl).2.mono hB⟩
 . intro j hj hl
   rw[mi,if_neg (by omega)] at hl
   exact⟨(h.todo j hj hl).1,(h.todo j hj hl).2.mono hB⟩
 . intro j hj h1 h2
   rw[mi,if_neg (by omega)] at h2
   by_cases e:j=k
   . subst e
     refine⟨w.heap.size,by rw[jd _ _ _ _ hd,if_pos rfl],World.alloc_heap_new w _,fun i hi he=>?_⟩
     have:=(h.lt hi _ he).2
     omega
   . rw[mi,if_neg (by omega)] at h1
     obtain⟨n,n1,n2,n3⟩:=h.built j hj h1 h2
     refine⟨n,by rw[jd _ _ _ _ hd,if_neg (by omega)];exact n1,(hB.block n (aF n2)).trans n2,n3⟩
theorem qC.app (h:qC B X v l x bb listed a w r){k:Nat}(hk:k<4)(hun:listed.getD (8*k+11) true=false){g cap:Nat}{w':World}
    (ho:w'.ownsRow B 3 1 (.slice (some ⟨g,0,none⟩) ((l k).length+1) cap) ((l k).length+1) ((l k).map (Value.int .i64) ++ [.int .i64 (x k)])) (hg:w.grownBy w' (v k).ownBlock) (hat:(v k).ownBlock=some g\/g=w.heap.size) :
    qC B X v l x bb (listed.setIfInBounds (8*k+11) true) (a.put (some (8*k+15)) (.slice (some ⟨g,0,none⟩) ((l k).length+1) cap)) w' (fun i=>if i=k then .slice (some ⟨g,0,none⟩) ((l k).length+1) cap else r i):=by
 have hd:8*k+15<a.tmps.size:=by rw[h.sz];omega
 obtain⟨hrk,hok⟩:=h.todo k hk hun
 have hother:∀j,j<4->j≠k->(r j).ownBlock=none\/(r j).ownBlock≠(v k).ownBlock:=by
  intro j hj hjk
  cases e:(r j).ownBlock with
  | none=>exact .inl rfl
  | some b =>
   refine .inr fun e2=>?_
   have:=h.WE j k hj hk hjk b e
   rw[hrk] at this
   exact this e2.symm
 have apJ:∀j,j<4->j≠k->(r j).ownBlock≠some g:=by
  intro j hj hjk e
  rcases hat with hat|hat
  . have:=h.WE j k hj hk hjk g e
    rw[hrk] at this
    exact this hat
  . have:=(h.lt hj g e).2
    omega
 refine⟨(jM _ _ _).1.trans h.sz,(jM _ _ _).2.trans h.df,?_,?_,?_,?_,?_,?_,?_,?_,?_,h.base⟩
 . intro i h1 h2;rw[jd _ _ _ _ hd,if_neg (by omega)];exact h.ps i h1 h2
 . intro j hj;rw[jd _ _ _ _ hd,if_neg (by omega)];exact h.xs j hj
 . intro j hj;rw[jd _ _ _ _ hd,if_neg (by omega)];exact h.vs j hj
 . intro j hj hl
   by_cases e:j=k
   . subst e
     simp only[if_true]
     exact⟨by rw[jd _ _ _ _ hd,if_pos rfl],yH (by simpa using ho)⟩
   . simp only[if_neg e]
     rw[mi,if_neg (by omega)] at hl
     obtain⟨h1,h2⟩:=h.done j hj hl
     exact⟨by rw[jd _ _ _ _ hd,if_neg (by omega)];exact h1,h2.kept hg (hother j hj e)⟩
 . intro j hj hl
   have e:j≠k:=by rintro rfl;rw[mi,if_pos rfl] at hl;cases hl
   simp only[if_neg e]
   rw[mi,if_neg (by omega)] at hl
   obtain⟨h1,h2⟩:=h.todo j hj hl
   have:=hother j hj e
   rw[h1] at this
   exact⟨h1,h2.kept hg this⟩
 . intro j hj
   by_cases e:j=k
   . subst e
     simp only[if_true]
     rcases hat with hat|hat
     . exact .inl hat.symm
     . exact .inr ⟨g,by rw[hat];exact h.kept.size,rfl⟩
   . simp only[if_neg e];exact h.ajP j hj
 . intro i j hi hj hij b hb
   by_cases e:i=k
   . subst e
     simp only[if_true] at hb
     rw[if_neg (Ne.symm hij)]
     have:g=b:=by simpa [Value.ownBlock] using hb
     subst this
     exact apJ j hj (Ne.symm hij)
   . simp only[if_neg e] at hb
     by_cases e2:j=k
     . subst e2
       rw[if_pos rfl]
       intro e3
       have:g=b:=by simpa [Value.ownBlock] using e3
       subst this
       exact apJ i hi e hb
     . rw[if_neg e2];exact h.WE i j hi hj hij b hb
 . intro j hj h1 h2
   have e:j≠k:=by rintro rfl;rw[mi,if_pos rfl] at h2;cases h2
   rw[mi,if_neg (by omega)] at h1 h2
   obtain⟨n,n1,n2,n3⟩:=h.built j hj h1 h2
   have ai8:=(aF n2)
   have hnk:some n≠(v k).ownBlock:=fun e2=>by have:=n3 k hk;rw[hrk] at this;exact this e2.symm
   refine⟨n,by rw[jd _ _ _ _ hd,if_neg (by omega)];exact n1,(hg.block n ai8 hnk).trans n2,fun i hi=>?_⟩
   by_cases e2:i=k
   . subst e2
     simp only[if_true]
     intro e3
     have:g=n:=by simpa [Value.ownBlock] using e3
     subst this
     rcases hat with hat|hat
     . exact hnk hat.symm
     . omega
   . simp only[if_neg e2];exact n3 i hi
 . exact h.kept.trans ⟨hg.os,hg.tape,hg.output,hg.size,fun b hb hs=>hg.block b hb (fun e=>hs k hk e.symm)⟩
end
def Gs (d:Array Bool):Nat :=
 (if d.getD 10 true=true then 0 else 1)+(if d.getD 11 true=true then 0 else 1)+(if d.getD 18 true=true then 0 else 1)+(if d.getD 19 true=true then 0 else 1) +
 (if d.getD 26 true=true then 0 else 1)+(if d.getD 27 true=true then 0 else 1)+(if d.getD 34 true=true then 0 else 1)+(if d.getD 35 true=true then 0 else 1)
theorem ZK {d:Array Bool}{i:Nat}(hi:i=10\/i=11\/i=18\/i=19\/i=26\/i=27\/i=34\/i=35)(hun:d.getD i true=false):Gs (d.setIfInBounds i true)+1=Gs d:=by
 unfold Gs
 simp only[mi]
 rcases hi with rfl|rfl|rfl|rfl|rfl|rfl|rfl|rfl <;> simp[hun] <;> omega
theorem AO {d:Array Bool}{i:Nat}(h:i<d.size):d.getD i false=d.getD i true:=by simp[Array.getD,h]
section
variable {B:Nat}{X:World}{v:Nat->Value}{l:Nat->List Int}{x:Nat->Int}{bb:Nat}{ops:Array Oper}
theorem Yb (hO:Ul ops){d:Array Bool}(hd:d.size=48){k:Nat}(hk:k<4)(hun:d.getD (8*k+10) true=false)(h9:d.getD (8*k+9) true=true):8*k+10 ∈ Region.ready .any ops d:=by
 obtain⟨ty,pos,after,ho,ha⟩:=hO.build k hk
 refine mem_ready.2 ⟨hun,_,ho,fun e he _=>?_⟩
 have:=Array.all_eq_true'.1 ha e he
 have e9:e.on=8*k+9:=by simpa using this
 rw[e9,AO (by omega)];exact h9
theorem adT (hO:Ul ops){d:Array Bool}(hd:d.size=48){k:Nat}(hk:k<4)(hun:d.getD (8*k+11) true=false)(h7:d.getD (8*k+7) true=true)(h10:d.getD (8*k+10) true=true)(h3:0<k->d.getD (8*k+3) true=true) :
    8*k+11 ∈ Region.ready .any ops d:=by
 obtain⟨ty,pos,after,ho,ha,-⟩:=hO.app k hk
 refine mem_ready.2 ⟨hun,_,ho,fun e he _=>?_⟩
 have:=Array.all_eq_true'.1 ha e he
 simp only[Bool.or_eq_true,beq_iff_eq,Bool.and_eq_true,decide_eq_true_eq] at this
 rcases this with (h|h)|⟨h0,h⟩
 . rw[h,AO (by omega)];exact h7
 . rw[h,AO (by omega)];exact h10
 . rw[h,AO (by omega)];exact h3 h0
theorem acQ (hO:Ul ops){d:Array Bool}(hd:d.size=48){k:Nat}(hk:k<4)(hr:8*k+11 ∈ Region.ready .any ops d):d.getD (8*k+10) true=true:=by
 obtain⟨ty,pos,after,ho,-,hb⟩:=hO.app k hk
 obtain⟨-,o',ho',hall⟩:=mem_ready.1 hr
 rw[ho] at ho'
 obtain rfl:=Option.some.inj ho'
 obtain⟨e,he,h⟩:=Array.any_eq_true'.1 hb
 simp only[Bool.and_eq_true,beq_iff_eq] at h
 have:=hall e he h.1
 rw[h.2,AO (by omega)] at this
 exact this
theorem aj6 (hO:Ul ops){Q:Exit->Act->World->Prop}{L:Array Bool->Act->World->Prop}(hs:Q3 .any ops 36 [0,1,2,3]=true)(hc:Region.chainB .any ops 36=true)
    (hlen:∀k,k<4->(l k).length<=1000)
    (hL:∀d a w r,Uj .any ops 36 [0,1,2,3] d->(∀i,i<36->d.getD i true=true)->qC B X v l x bb d a w r->L d a w) :
    ∀f d a w r,Uj .any ops 36 [0,1,2,3] d->(∀i,i<36->(i≠10/\i≠11/\i≠18/\i≠19/\i≠26/\i≠27/\i≠34/\i≠35)->d.getD i true=true)->Gs d=f->qC B X v l x bb d a w r ->
     gQ Tryz.prog .any ops Q (Kept (fun b=>∀k,k<4->(v k).ownBlock≠some b) X) 36 L f d a w:=by
 intro f
 induction f with
 | zero =>
  intro d a w r inv hoth hcnt hM
  refine hL d a w r inv (fun i hi=>?_) hM
  by_cases e:i≠10/\i≠11/\i≠18/\i≠19/\i≠26/\i≠27/\i≠34/\i≠35
  . exact hoth i hi e
  . unfold Gs at hcnt
    have e':i=10\/i=11\/i=18\/i=19\/i=26\/i=27\/i=34\/i=35:=by omega
    cases hv:d.getD i true
    . exfalso
      rcases e' with rfl|rfl|rfl|rfl|rfl|rfl|rfl|rfl <;> simp[hv] at hcnt
    . rfl
 | succ f ih =>
  intro d a w r inv hoth hcnt hM
  have hsz:d.size=48:=inv.head.size.trans hO.size
  -- the builds and the appends,by their numbers
  have hb9:∀k,k<4->d.getD (8*k+9) true=true:=fun k hk=>hoth _ (by omega) (by omega)
  have hb7:∀k,k<4->d.getD (8*k+7) true=true:=fun k hk=>hoth _ (by omega) (by omega)
  have hun:∃k,k<4/\(d.getD (8*k+10) true=false\/d.getD (8*k+11) true=false):=by
   refine Classical.byContradiction fun hno=>?_
   have hall:∀k,k<4->d.getD (8*k+10) true=true/\d.getD (8*k+11) true=true:=fun k hk=>by
    refine⟨?_,?_⟩
    . cases e:d.getD (8*k+10) true
      . exact absurd ⟨k,hk,.inl e⟩ hno
      . rfl
    . cases e:d.getD (8*k+11) true
      . exact absurd ⟨k,hk,.inr e⟩ hno
      . rfl
   have h0:=hall 0 (by omega);have h1:=hall 1 (by omega);have h2:=hall 2 (by omega);have h3:=hall 3 (by omega)
   simp only[Nat.mul_zero,Nat.zero_add,Nat.reduceMul,Nat.reduceAdd] at h0 h1 h2 h3
   unfold Gs at hcnt
   simp[h0.1,h0.2,h1.1,h1.2,h2.1,h2.2,h3.1,h3.2] at hcnt
  refine⟨fun hnil=>?_,fun i hi=>?_⟩
  . -- something may come up
    have no:∀i,i ∉ Region.ready .any ops d:=fun i h=>by rw[hnil] at h;cases h
    have hbl:∀k,k<4->d.getD (8*k+10) true=true:=fun k hk=>by
     cases e:d.getD (8*k+10) true
     . exact absurd (Yb hO hsz hk e (hb9 k hk)) (no _)
     . rfl
    have hap:∀k,k<4->(0<k->d.getD (8*k+3) true=true)->d.getD (8*k+11) true=true:=fun k hk h3=>by
     cases e:d.getD (8*k+11) true
     . exact absurd (adT hO hsz hk e (hb7 k hk) (hbl k hk) h3) (no _)
     . rfl
    have a0:=hap 0 (by omega) (by omega)
    have a1:=hap 1 (by omega) (fun _=>a0)
    have a2:=hap 2 (by omega) (fun _=>a1)
    have a3:=hap 3 (by omega) (fun _=>a2)
    obtain⟨k,hk,h|h⟩:=hun
    . rw[hbl k hk] at h;cases h
    . have:d.getD (8*k+11) true=true:=by
       match k,hk with
       | 0,_=>exact a0
       | 1,_=>exact a1
       | 2,_=>exact a2
       | 3,_=>exact a3
      rw[this] at h;cases h
  . have amC:i<36:=by
     rcases Nat.lt_or_ge i 36 with h|h
     . exact h
     . obtain⟨k,hk,h1|h1⟩:=hun
       . exact absurd hi (x_ hs hc (by rw[hO.size];omega) inv _ (8*k+10) rfl (by omega) h1 i h)
       . exact absurd hi (x_ hs hc (by rw[hO.size];omega) inv _ (8*k+11) rfl (by omega) h1 i h)
    refine⟨amC,?_⟩
    have hiu:=(mem_ready.1 hi).1
    have hcase:∃k,k<4/\(i=8*k+10\/i=8*k+11):=by
     refine Classical.byContradiction fun hno=>?_
     have h0:¬ (i=10\/i=11):=fun h=>hno ⟨0,by omega,h⟩
     have h1:¬ (i=18\/i=19):=fun h=>hno ⟨1,by omega,h⟩
     have h2:¬ (i=26\/i=27):=fun h=>hno ⟨2,by omega,h⟩
     have h3:¬ (i=34\/i=35):=fun h=>hno ⟨3,by omega,h⟩
     have:=hoth i amC (by omega)
     rw[hiu] at this;cases this
    have hinv':=inv.set hi amC
    have alc:∀j,j<36->(j≠10/\j≠11/\j≠18/\j≠19/\j≠26/\j≠27/\j≠34/\j≠35)->(d.setIfInBounds i true).getD j true=true:=fun j hj h=>by
     rw[mi];split
     . rfl
     . exact hoth j hj h
    have ak_:Gs (d.setIfInBounds i true)=f:=by
     have:=ZK (d:=d) (i:=i) (by obtain⟨k,hk,h|h⟩:=hcase <;> omega) hiu
     omega
    obtain⟨k,hk,rfl|rfl⟩:=hcase
    . obtain⟨ty,pos,after,ho,-⟩:=hO.build k hk
      have hM':=hM.build hk
      unfold wpOp
      simp only[ho]
      rw[if_pos (by simp[Region.wanted])]
      refine .inl ?_
      unfold Oper.wp
      rw[ZU _ _ _ _ _ (x k) _ (hM.xs k hk)]
      exact⟨hM'.kept,ih _ _ _ r hinv' alc ak_ hM'⟩
    . have h10:=acQ hO hsz hk hi
      obtain⟨n,n1,n2,n3⟩:=hM.built k hk h10 hiu
      obtain⟨t1,t2⟩:=hM.todo k hk hiu
      obtain⟨ty,pos,after,ho,-⟩:=hO.app k hk
      obtain⟨i0,hi0,hz0,hz1,hz2⟩:=info_parts CZ
      have hl:=hlen k hk
      unfold wpOp
      simp only[ho]
      rw[if_pos (by simp[Region.wanted])]
      refine .inl ?_
      refine wp_append_lies _ (.tmp (8*k+11)) (.tmp (8*k+14)) 50 rfl B 3 i0 (.int .i64 0) 1 8 Tryz.underlying50 hi0 hz0 hz1 hz2 rfl (by decide) (v k) (l k).length _ (WV _ _ _ (hM.vs k hk)) t2
       ⟨n,0,none⟩ 1 1 [.int .i64 (x k)] (WV _ _ _ n1) rfl ?_ (by simp[Value.oneCell']) (by decide) (by unfold maxLen;omega) (by omega) (Nat.le_trans hM.base hM.kept.size) w.heap.size rfl ?_
      . intro j u hj
        match j,hj with
        | 0,hj =>
         simp only[List.getElem?_cons_zero,Option.some.injEq] at hj
         subst hj
         have:=(ah n2).2.1 0
         simpa [add_zero'] using this
      . intro g cap w' h1 h2 h3 h4
        have hM':=hM.app hk hiu h1 h2 h3
        exact⟨hM'.kept,ih _ _ _ _ hinv' alc ak_ hM'⟩
end
theorem IU {ops:Array Oper}{rest:List Oper}{Q:Exit->Act->World->Prop}{a:Act}{w:World}{s d:Nat}{ad:Addr}{ty:TypeId}{pos:String}{after:Array Edge}(h:a.tmps[s]? = some (.pointer (some ad)))
    (hr:wpList Tryz.prog ops Q rest (a.put (some d) (.pointer (some ad))) w):wpList Tryz.prog ops Q (⟨some d,.nilCheck (.tmp s),ty,pos,after,none⟩ :: rest) a w:=by
 unfold wpList
 rw[if_pos (by simp[Region.wanted])]
 refine .inl ?_
 have h2:a.tmps.getD s undef=.pointer (some ad):=by simp[h]
 simpa [go_sem,h,h2] using hr
theorem Xc {ops:Array Oper}{rest:List Oper}{Q:Exit->Act->World->Prop}{a:Act}{w:World}{s d:Nat}{bb:Nat}{ty:TypeId}{pos:String}{after:Array Edge}(h:a.tmps[s]? = some (.pointer (some ⟨bb,0,none⟩)))
    (hr:wpList Tryz.prog ops Q rest (a.put (some d) (.pointer (some ⟨bb,0,none⟩))) w):wpList Tryz.prog ops Q (⟨some d,.fieldAddr 273 (.tmp s) 0,ty,pos,after,none⟩ :: rest) a w:=by
 unfold wpList
 rw[if_pos (by simp[Region.wanted])]
 refine .inl ?_
 have h2:a.tmps.getD s undef=.pointer (some ⟨bb,0,none⟩):=by simp[h]
 simpa [go_sem,h,h2] using hr
theorem Xd {ops:Array Oper}{rest:List Oper}{Q:Exit->Act->World->Prop}{a:Act}{w:World}{s d:Nat}{bb:Nat}{ty:TypeId}{pos:String}{after:Array Edge}(h:a.tmps[s]? = some (.pointer (some ⟨bb,0,none⟩)))
    (hr:wpList Tryz.prog ops Q rest (a.put (some d) (.pointer (some ⟨bb,1,none⟩))) w):wpList Tryz.prog ops Q (⟨some d,.fieldAddr 273 (.tmp s) 1,ty,pos,after,none⟩ :: rest) a w:=by
 unfold wpList
 rw[if_pos (by simp[Region.wanted])]
 refine .inl ?_
 have h2:a.tmps.getD s undef=.pointer (some ⟨bb,0,none⟩):=by simp[h]
 simpa [go_sem,h,h2] using hr
theorem Xe {ops:Array Oper}{rest:List Oper}{Q:Exit->Act->World->Prop}{a:Act}{w:World}{s d:Nat}{bb:Nat}{ty:TypeId}{pos:String}{after:Array Edge}(h:a.tmps[s]? = some (.pointer (some ⟨bb,0,none⟩)))
    (hr:wpList Tryz.prog ops Q rest (a.put (some d) (.pointer (some ⟨bb,2,none⟩))) w):wpList Tryz.prog ops Q (⟨some d,.fieldAddr 273 (.tmp s) 2,ty,pos,after,none⟩ :: rest) a w:=by
 unfold wpList
 rw[if_pos (by simp[Region.wanted])]
 refine .inl ?_
 have h2:a.tmps.getD s undef=.pointer (some ⟨bb,0,none⟩):=by simp[h]
 simpa [go_sem,h,h2] using hr
theorem Xf {ops:Array Oper}{rest:List Oper}{Q:Exit->Act->World->Prop}{a:Act}{w:World}{s d:Nat}{bb:Nat}{ty:TypeId}{pos:String}{after:Array Edge}(h:a.tmps[s]? = some (.pointer (some ⟨bb,0,none⟩)))
    (hr:wpList Tryz.prog ops Q rest (a.put (some d) (.pointer (some ⟨bb,3,none⟩))) w):wpList Tryz.prog ops Q (⟨some d,.fieldAddr 273 (.tmp s) 3,ty,pos,after,none⟩ :: rest) a w:=by
 unfold wpList
 rw[if_pos (by simp[Region.wanted])]
 refine .inl ?_
 have h2:a.tmps.getD s undef=.pointer (some ⟨bb,0,none⟩):=by simp[h]
 simpa [go_sem,h,h2] using hr
theorem zB {ops:Array Oper}{rest:List Oper}{Q:Exit->Act->World->Prop}{a:Act}{w:World}{s q i:Nat}{bb:Nat}{v u:Value}{ty:TypeId}{pos:String}{after:Array Edge}(h:a.tmps[s]? = some (.pointer (some ⟨bb,i,none⟩)))
    (hq:a.tmps[q]? = some v) (hsl:∃p n c,v=.slice p n c) (hc:w.cell? ⟨bb,i,none⟩=some u) (hz:w.frozen? ⟨bb,i,none⟩=false)
    (hr:wpList Tryz.prog ops Q rest a (w.setCell ⟨bb,i,none⟩ v)):wpList Tryz.prog ops Q (⟨none,.store 50 (.tmp s) (.tmp q),ty,pos,after,none⟩ :: rest) a w:=by
 obtain⟨p,n,c,rfl⟩:=hsl
 unfold wpList
 rw[if_pos (by simp[Region.wanted])]
 refine .inl ?_
 have h2:a.tmps.getD s undef=.pointer (some ⟨bb,i,none⟩):=by simp[h]
 have h3:a.tmps.getD q undef=.slice p n c:=by simp[hq]
 have h4:a.put none undef=a:=rfl
 simpa [go_sem,h,h2,h3,hq,hc,hz,h4] using hr
def jw (k:Nat)(l:List Pt):List Int:=match k with
 | 0=>l.map (·.g)
 | 1=>l.map (·.y)
 | 2=>l.map (·.t)
 | _=>l.map (·.w)
def aj2 (p:Pt)(k:Nat):Int:=match k with
 | 0=>p.g
 | 1=>p.y
 | 2=>p.t
 | _=>p.w
theorem YS (k:Nat)(l:List Pt)(p:Pt):jw k (l ++ [p])=jw k l ++ [aj2 p k]:=by
 unfold jw aj2;split <;> simp
theorem acY (k:Nat)(l:List Pt):(jw k l).length=l.length:=by unfold jw;split <;> simp
structure Fv (B bb:Nat)(w:World)(v:Nat->Value)(l:List Pt):Prop where
 at':w.heap[bb]? = some (.cells #[v 0,v 1,v 2,v 3] 273 (0,0))
 own:∀k,k<4->bg B w (v k) (jw k l)
 WE:∀i j,i<4->j<4->i≠j->∀b,(v i).ownBlock=some b->(v j).ownBlock≠some b
 self:∀k,k<4->(v k).ownBlock≠some bb
def aah (B bb:Nat)(w:World)(v:Nat->Value)(l:List Pt)(e:Ending)(w':World):Prop :=
 e=.returned (.tuple #[])/\∃v',Fv B bb w' v' l/\(∀k,k<4->(v' k).ownBlock=(v k).ownBlock\/∃m,w.heap.size<=m/\(v' k).ownBlock=some m)/\Kept (fun b=>b≠bb/\∀k,k<4->(v k).ownBlock≠some b) w w'
theorem dw {B:Nat}{w:World}{v:Value}{xs:List Int}(h:bg B w v xs):∃p n c,v=.slice p n c:=by
 obtain⟨_,h2⟩:=h
 rcases h2 with ⟨rfl,_⟩|⟨g,cap,cur,rfl,_⟩ <;> exact⟨_,_,_,rfl⟩
theorem WG {ops:Array Oper}{d:Array Bool}(h48:ops.size=48)(inv:Uj .any ops 36 [0,1,2,3] d)(h:∀i,i<36->d.getD i true=true) :
    d=#[true,true,true,true,true,true,true,true,true,true,true,true,true,true,true,true,true,true,true,true,true,true,true,true,true,true,true,true,true,true,true,true,true,true,true,true,false,false,false,false,false,false,false,false,false,false,false,false]:=by
 have hs:=inv.head.size
 rw[h48] at hs
 have key:∀i:Fin 48,(#[true,true,true,true,true,true,true,true,true,true,true,true,true,true,true,true,true,true,true,true,true,true,true,true,true,true,true,true,true,true,true,true,true,true,true,true,false,false,false,false,false,false,false,false,false,false,false,false]:Array Bool).getD i.val true=decide (i.val<36):=by decide
 apply Array.ext
 . rw[hs];rfl
 . intro i h1 h2
   have hi:i<48:=by omega
   have e:d.getD i true=d[i]:=by simp[Array.getD,h1]
   have k2:=key ⟨i,hi⟩
   simp only at k2
   rw[Array.getD,dif_pos h2] at k2
   by_cases hlt:i<36
   . have:=h i hlt
     rw[e] at this;rw[this]
     simpa [hlt] using k2.symm
   . have:=inv.head.tail i (by omega) (by rw[h48];exact hi)
     rw[e] at this;rw[this]
     simpa [hlt] using k2.symm
theorem Y6 {w:World}{n:Nat}{a b c d:Value}{e:TypeId}(h:w.heap[n]? = some (.cells #[a,b,c,d] e (0,0)))(a' b' c' d':Value) :
    ((((w.setCell ⟨n,0,none⟩ a').setCell ⟨n,1,none⟩ b').setCell ⟨n,2,none⟩ c').setCell ⟨n,3,none⟩ d').heap[n]? = some (.cells #[a',b',c',d'] e (0,0)):=by
 simp only[World.setCell,Array.getElem?_modify,if_true,h]
 rfl
theorem Y7 {w:World}{n m:Nat}(a' b' c' d':Value)(h:m≠n) :
    ((((w.setCell ⟨n,0,none⟩ a').setCell ⟨n,1,none⟩ b').setCell ⟨n,2,none⟩ c').setCell ⟨n,3,none⟩ d').heap[m]? = w.heap[m]?:=by
 rw[Below.heap_setCell _ _ _ _ h,Below.heap_setCell _ _ _ _ h,Below.heap_setCell _ _ _ _ h,Below.heap_setCell _ _ _ _ h]
theorem ada {S:Nat->Prop}{v w:World}{n:Nat}(hk:Kept S v w)(h:¬ S n\/v.heap.size<=n)(a' b' c' d':Value) :
    Kept S v ((((w.setCell ⟨n,0,none⟩ a').setCell ⟨n,1,none⟩ b').setCell ⟨n,2,none⟩ c').setCell ⟨n,3,none⟩ d') :=
 (((hk.setCell (p:=⟨n,0,none⟩) h _).setCell (p:=⟨n,1,none⟩) h _).setCell (p:=⟨n,2,none⟩) h _).setCell (p:=⟨n,3,none⟩) h _
theorem bg.block {B:Nat}{w w':World}{v:Value}{xs:List Int}(h:bg B w v xs)(hb:∀k,v.ownBlock=some k->w'.heap[k]? = w.heap[k]?):bg B w' v xs:=by
 obtain⟨h1,h2⟩:=h
 refine⟨h1,?_⟩
 rcases h2 with h2|⟨g,cap,cur,rfl,hB,hg,r⟩
 . exact .inl h2
 . exact .inr ⟨g,cap,cur,rfl,hB,(hb g rfl).trans hg,r⟩
theorem aj3 {B bb:Nat}{X:World}{v:Nat->Value}{l:List Pt}{p:Pt}{w0 w:World}{r:Nat->Value}{d:Array Bool}{a:Act}(hB:Fv B bb X v l)(hM:qC B X v (fun k=>jw k l) (aj2 p) bb d a w r)(hd:∀i,i<36->d.getD i true=true)
    (hw:w0.heap.size<=X.heap.size) (hX:Below w0.heap.size w0 X) (hbb:bb<w0.heap.size) (hv:∀k,k<4->∀b,(v k).ownBlock=some b->b<w0.heap.size) :
    aah B bb w0 v (l ++ [p]) (.returned (.tuple #[])) ((((w.setCell ⟨bb,0,none⟩ (r 0)).setCell ⟨bb,1,none⟩ (r 1)).setCell ⟨bb,2,none⟩ (r 2)).setCell ⟨bb,3,none⟩ (r 3)):=by
 have hat:w.heap[bb]? = some (.cells #[v 0,v 1,v 2,v 3] 273 (0,0)):=(hM.kept.block bb (aF hB.at') (fun k hk=>hB.self k hk)).trans hB.at'
 have hne:∀k,k<4->(r k).ownBlock≠some bb:=by
  intro k hk e
  rcases hM.ajP k hk with h|⟨m,hm,h⟩
  . rw[h] at e;exact hB.self k hk e
  . rw[h] at e;have:m=bb:=by simpa using e
    omega
 refine⟨rfl,r,⟨Y6 hat _ _ _ _,fun k hk=>?_,hM.WE,hne⟩,fun k hk=>?_,?_⟩
 . rw[YS]
   refine bg.block (hM.done k hk (hd _ (by omega))).2 fun b hb=>Y7 _ _ _ _ ?_
   rintro rfl;exact hne k hk hb
 . rcases hM.ajP k hk with h|⟨m,hm,h⟩
   . exact .inl h
   . exact .inr ⟨m,by omega,h⟩
 . refine ada ?_ (.inl fun h=>h.1 rfl) _ _ _ _
   refine(Kept.of_below hX fun k hk _=>hk).trans ?_
   exact hM.kept.mono fun k _ h=>h.2
theorem I_ {B bb:Nat}{v:Nat->Value}{l:List Pt}(p:Pt)(w:World)(hb:Fv B bb w v l)(hB:B<=w.heap.size)(hl:l.length<=1000) :
    Calls Tryz.prog 176 #[.pointer (some ⟨bb,0,none⟩),nR p] w (aah B bb w v (l ++ [p])):=by
 have af2:=(aF hb.at')
 have hvw:∀k,k<4->∀b,(v k).ownBlock=some b->b<w.heap.size:=fun k hk b h=>((hb.own k hk).lt b h).2
 obtain⟨W,hW⟩:=aG (w.alloc (.cells #[.int .i64 p.g,.int .i64 p.y,.int .i64 p.t,.int .i64 p.w] 29))
 obtain⟨aJ,f_,iC⟩:=boxed hW
 have hBw:Below w.heap.size w W:=f_
 obtain⟨qK,jQ,jR⟩:=ah aJ
 obtain⟨eG,eH,fP,fQ⟩:=pX aJ
 clear jQ jR aJ
 have yL:w.heap.size<=w.heap.size:=by omega
 clear f_ iC
 have hbW:Fv B bb W v l:=⟨(hBw.block _ af2).trans hb.at',fun k hk=>(hb.own k hk).mono hBw,hb.WE,hb.self⟩
 have hbX:Fv B bb W.drew v l:=⟨hbW.at',hbW.own,hbW.WE,hbW.self⟩
 have hBx:Below w.heap.size w W.drew:=hBw.drew
 have hsz:w.heap.size<=W.drew.heap.size:=hBw.size
 have cb:=(ah hbX.at').2.1
 have cz:=(ah hbX.at').2.2
 have hpb:∀k,k<4->(v k).ownBlock≠some w.heap.size:=fun k hk h=>by have:=hvw k hk _ h;omega
 have hbw:B<=W.drew.heap.size:=Nat.le_trans hB hsz
 clear hBw hbW
 go_enter Tryz.func176,Tryz.ntmps176
 go_wp2
 refine wp_region_noPanic ?_
 refine wp_region_any (by kernel_rfl) ?_
 show wpAny _ _ _ _ (44+1+1+1+1) #[false,false,false,false,false,false,false,false,false,false,false,false,false,false,false,false,false,false,false,false,false,false,false,false,false,false,false,false,false,false,false,false,false,false,false,false,false,false,false,false,false,false,false,false,false,false,false,false] _ W.drew
 refine JR 0 (.pointer (some ⟨bb,0,none⟩)) 4 ?_ ?_
 . intro w';go_simp
 try simp only[aI]
 refine JR 1 (.pointer (some ⟨bb,0,none⟩)) 5 ?_ ?_
 . intro w';go_simp
 try simp only[aI]
 refine JR 2 (.pointer (some ⟨bb,0,none⟩)) 6 ?_ ?_
 . intro w';go_simp
 try simp only[aI]
 refine JR 3 (.pointer (some ⟨bb,0,none⟩)) 7 ?_ ?_
 . intro w';go_simp
 try simp only[aI]
 refine dY (n:=36) (S:=Kept (fun b=>∀k,k<4->(v k).ownBlock≠some b) W.drew) (f:=32) rfl ?_
 have hS0:Kept (fun b=>∀k,k<4->(v k).ownBlock≠some b) W.drew W.drew:=.refl _ _
 refine yl [0,1,2,3] 4 (.pointer (some ⟨bb,0,none⟩)) 8 hS0 ?_ ?_
 . intro w' _;go_simp
 try simp only[aI]
 refine yl [0,1,2,3] 5 (.pointer (some ⟨bb,0,none⟩)) 9 hS0 ?_ ?_
 . intro w' _;go_simp
 try simp only[aI]
 refine yl [0,1,2,3] 6 (.pointer (some ⟨bb,0,none⟩)) 10 hS0 ?_ ?_
 . intro w' _;go_simp
 try simp only[aI]
 refine yl [0,1,2,3] 7 (v 0) 11 hS0 ?_ ?_
 . intro w' hSw;have c0:w'.cell? ⟨bb,0,none⟩=some (v 0):=hSw.cell hbX.self (cb 0);go_simp
 try simp only[aI]
 refine yl [0,1,2,3] 8 (.pointer (some ⟨w.heap.size,0,none⟩)) 12 hS0 ?_ ?_
 . intro w' _;go_simp
 try simp only[aI]
 refine yl [0,1,2,3] 9 (.int .i64 p.g) 13 hS0 ?_ ?_
 . intro w' hSw;have c0:w'.cell? ⟨w.heap.size,0,none⟩=some (.int .i64 p.g):=hSw.cell hpb eG;go_simp
 try simp only[aI]
 refine yl [0,1,2,3] 12 (.pointer (some ⟨bb,0,none⟩)) 16 hS0 ?_ ?_
 . intro w' _;go_simp
 try simp only[aI]
 refine yl [0,1,2,3] 13 (.pointer (some ⟨bb,0,none⟩)) 17 hS0 ?_ ?_
 . intro w' _;go_simp
 try simp only[aI]
 refine yl [0,1,2,3] 14 (.pointer (some ⟨bb,1,none⟩)) 18 hS0 ?_ ?_
 . intro w' _;go_simp
 try simp only[aI]
 refine yl [0,1,2,3] 15 (v 1) 19 hS0 ?_ ?_
 . intro w' hSw;have c0:w'.cell? ⟨bb,1,none⟩=some (v 1):=hSw.cell hbX.self (cb 1);go_simp
 try simp only[aI]
 refine yl [0,1,2,3] 16 (.pointer (some ⟨w.heap.size,1,none⟩)) 20 hS0 ?_ ?_
 . intro w' _;go_simp
 try simp only[aI]
 refine yl [0,1,2,3] 17 (.int .i64 p.y) 21 hS0 ?_ ?_
 . intro w' hSw;have c0:w'.cell? ⟨w.heap.size,1,none⟩=some (.int .i64 p.y):=hSw.cell hpb eH;go_simp
 try simp only[aI]
 refine yl [0,1,2,3] 20 (.pointer (some ⟨bb,0,none⟩)) 24 hS0 ?_ ?_
 . intro w' _;go_simp
 try simp only[aI]
 refine yl [0,1,2,3] 21 (.pointer (some ⟨bb,0,none⟩)) 25 hS0 ?_ ?_
 . intro w' _;go_simp
 try simp only[aI]
 refine yl [0,1,2,3] 22 (.pointer (some ⟨bb,2,none⟩)) 26 hS0 ?_ ?_
 . intro w' _;go_simp
 try simp only[aI]
 refine yl [0,1,2,3] 23 (v 2) 27 hS0 ?_ ?_
 . intro w' hSw;have c0:w'.cell? ⟨bb,2,none⟩=some (v 2):=hSw.cell hbX.self (cb 2);go_simp
 try simp only[aI]
 refine yl [0,1,2,3] 24 (.pointer (some ⟨w.heap.size,2,none⟩)) 28 hS0 ?_ ?_
 . intro w' _;go_simp
 try simp only[aI]
 refine yl [0,1,2,3] 25 (.int .i64 p.t) 29 hS0 ?_ ?_
 . intro w' hSw;have c0:w'.cell? ⟨w.heap.size,2,none⟩=some (.int .i64 p.t):=hSw.cell hpb fP;go_simp
 try simp only[aI]
 refine yl [0,1,2,3] 28 (.pointer (some ⟨bb,0,none⟩)) 32 hS0 ?_ ?_
 . intro w' _;go_simp
 try simp only[aI]
 refine yl [0,1,2,3] 29 (.pointer (some ⟨bb,0,none⟩)) 33 hS0 ?_ ?_
 . intro w' _;go_simp
 try simp only[aI]
 refine yl [0,1,2,3] 30 (.pointer (some ⟨bb,3,none⟩)) 34 hS0 ?_ ?_
 . intro w' _;go_simp
 try simp only[aI]
 refine yl [0,1,2,3] 31 (v 3) 35 hS0 ?_ ?_
 . intro w' hSw;have c0:w'.cell? ⟨bb,3,none⟩=some (v 3):=hSw.cell hbX.self (cb 3);go_simp
 try simp only[aI]
 refine yl [0,1,2,3] 32 (.pointer (some ⟨w.heap.size,3,none⟩)) 36 hS0 ?_ ?_
 . intro w' _;go_simp
 try simp only[aI]
 refine yl [0,1,2,3] 33 (.int .i64 p.w) 37 hS0 ?_ ?_
 . intro w' hSw;have c0:w'.cell? ⟨w.heap.size,3,none⟩=some (.int .i64 p.w):=hSw.cell hpb fQ;go_simp
 try simp only[aI]
 refine aj6 (B:=B) (X:=W.drew) (v:=v) (l:=fun k=>jw k l) (x:=aj2 p) (bb:=bb) ⟨rfl,?ob,?oa⟩ (by kernel_rfl) (by kernel_rfl) (fun k _=>by rw[acY];exact hl) ?end' 8 _ _ _ v ?inv (by decide) (by decide) ?mid
 case ob =>
  intro k hk
  match k,hk with
  | 0,_=>exact⟨_,_,_,rfl,by kernel_rfl⟩
  | 1,_=>exact⟨_,_,_,rfl,by kernel_rfl⟩
  | 2,_=>exact⟨_,_,_,rfl,by kernel_rfl⟩
  | 3,_=>exact⟨_,_,_,rfl,by kernel_rfl⟩
 case oa =>
  intro k hk
  match k,hk with
  | 0,_=>exact⟨_,_,_,rfl,by kernel_rfl,by kernel_rfl⟩
  | 1,_=>exact⟨_,_,_,rfl,by kernel_rfl,by kernel_rfl⟩
  | 2,_=>exact⟨_,_,_,rfl,by kernel_rfl,by kernel_rfl⟩
  | 3,_=>exact⟨_,_,_,rfl,by kernel_rfl,by kernel_rfl⟩
 case inv=>exact Qs (by kernel_rfl)
 case mid =>
  refine qC.mk (by simp only[List.size_toArray,List.length_cons,List.length_nil]) rfl ?_ ?_ ?_ ?_ ?_ (fun k _=>.inl rfl) hbX.WE ?_ (.refl _ _) hbw
  . intro i h1 h2
    have:i=4\/i=5\/i=6\/i=7:=by omega
    rcases this with rfl|rfl|rfl|rfl <;> rfl
  . intro k hk
    match k,hk with
    | 0,_=>rfl
    | 1,_=>rfl
    | 2,_=>rfl
    | 3,_=>rfl
  . intro k hk
    match k,hk with
    | 0,_=>rfl
    | 1,_=>rfl
    | 2,_=>rfl
    | 3,_=>rfl
  . intro k hk h
    match k,hk,h with
    | 0,_,h=>exact absurd h (by decide)
    | 1,_,h=>exact absurd h (by decide)
    | 2,_,h=>exact absurd h (by decide)
    | 3,_,h=>exact absurd h (by decide)
  . intro k hk _;exact⟨rfl,hbX.own k hk⟩
  . intro k hk h _
    match k,hk,h with
    | 0,_,h=>exact absurd h (by decide)
    | 1,_,h=>exact absurd h (by decide)
    | 2,_,h=>exact absurd h (by decide)
    | 3,_,h=>exact absurd h (by decide)
 case end' =>
  intro d a w2 r inv hall hM
  have hP:=aj3 (p:=p) hbX hM hall hsz hBx af2 hvw
  have hd:=WG rfl inv hall
  have hat:=(hM.kept.block bb (aF hbX.at') (fun k hk=>hbX.self k hk)).trans hbX.at'
  obtain⟨-,c1,f1⟩:=ah hat
  refine⟨by rw[hd];kernel_rfl,?_⟩
  have o0:=hM.done 0 (by decide) (hall _ (by decide))
  have o1:=hM.done 1 (by decide) (hall _ (by decide))
  have o2:=hM.done 2 (by decide) (hall _ (by decide))
  have o3:=hM.done 3 (by decide) (hall _ (by decide))
  have p4:=hM.ps 4 (by decide) (by decide)
  have p5:=hM.ps 5 (by decide) (by decide)
  have p6:=hM.ps 6 (by decide) (by decide)
  have p7:=hM.ps 7 (by decide) (by decide)
  have sz:=hM.sz
  have df:=hM.df
  have sd:∀(a:Act) (d:Nat) (v:Value),a.tmps.size=48->(a.put (some d) v).tmps.size=48:=fun a d v h=>(jM a d v).1.trans h
  simp only[List.drop_succ_cons,List.drop_zero]
  have gq:∀(a:Act) (d i:Nat) (v u:Value),a.tmps.size=48->d<48->i≠d->a.tmps[i]? = some u->(a.put (some d) v).tmps[i]? = some u:=fun a d i v u h1 h2 h3 h4=>by rw[jd _ _ _ _ (by omega),if_neg h3];exact h4
  have XB:∀(a:Act) (d:Nat) (v:Value),a.tmps.size=48->d<48->(a.put (some d) v).tmps[d]? = some v:=fun a d v h1 h2=>by rw[jd _ _ _ _ (by omega),if_pos rfl]
  have u0:=o0.1
  have u1:=o1.1
  have u2:=o2.1
  have u3:=o3.1
  simp only[Nat.mul_zero,Nat.zero_add,Nat.reduceMul,Nat.reduceAdd] at u0 u1 u2 u3
  refine IU (ad:=⟨bb,0,none⟩) p4 ?_
  obtain⟨a1,ha1⟩:=aG (a.put (some 40) (.pointer (some ⟨bb,0,none⟩)))
  have z1:a1.tmps.size=48:=by rw[<- ha1];exact sd _ _ _ sz
  have df1:a1.defers=[]:=by rw[<- ha1];exact(jM _ _ _).2.trans df
  have auD:=gq _ 40 4 (.pointer (some ⟨bb,0,none⟩)) _ sz (by decide) (by decide) p4
  rw[ha1] at auD
  have aqm:=gq _ 40 5 (.pointer (some ⟨bb,0,none⟩)) _ sz (by decide) (by decide) p5
  rw[ha1] at aqm
  have aqn:=gq _ 40 6 (.pointer (some ⟨bb,0,none⟩)) _ sz (by decide) (by decide) p6
  rw[ha1] at aqn
  have aqr:=gq _ 40 7 (.pointer (some ⟨bb,0,none⟩)) _ sz (by decide) (by decide) p7
  rw[ha1] at aqr
  have aqO:=gq _ 40 15 (.pointer (some ⟨bb,0,none⟩)) _ sz (by decide) (by decide) u0
  rw[ha1] at aqO
  have aku:=gq _ 40 23 (.pointer (some ⟨bb,0,none⟩)) _ sz (by decide) (by decide) u1
  rw[ha1] at aku
  have akx:=gq _ 40 31 (.pointer (some ⟨bb,0,none⟩)) _ sz (by decide) (by decide) u2
  rw[ha1] at akx
  have ahO:=gq _ 40 39 (.pointer (some ⟨bb,0,none⟩)) _ sz (by decide) (by decide) u3
  rw[ha1] at ahO
  have n1:=XB _ 40 (.pointer (some ⟨bb,0,none⟩)) sz (by decide)
  rw[ha1] at n1
  rw[ha1]
  refine Xc (bb:=bb) n1 ?_
  obtain⟨a2,ha2⟩:=aG (a1.put (some 41) (.pointer (some ⟨bb,0,none⟩)))
  have z2:a2.tmps.size=48:=by rw[<- ha2];exact sd _ _ _ z1
  have df2:a2.defers=[]:=by rw[<- ha2];exact(jM _ _ _).2.trans df1
  have anx:=gq _ 41 5 (.pointer (some ⟨bb,0,none⟩)) _ z1 (by decide) (by decide) aqm
  rw[ha2] at anx
  have aqo:=gq _ 41 6 (.pointer (some ⟨bb,0,none⟩)) _ z1 (by decide) (by decide) aqn
  rw[ha2] at aqo
  have aqs:=gq _ 41 7 (.pointer (some ⟨bb,0,none⟩)) _ z1 (by decide) (by decide) aqr
  rw[ha2] at aqs
  have aqP:=gq _ 41 15 (.pointer (some ⟨bb,0,none⟩)) _ z1 (by decide) (by decide) aqO
  rw[ha2] at aqP
  have akv:=gq _ 41 23 (.pointer (some ⟨bb,0,none⟩)) _ z1 (by decide) (by decide) aku
  rw[ha2] at akv
  have aky:=gq _ 41 31 (.pointer (some ⟨bb,0,none⟩)) _ z1 (by decide) (by decide) akx
  rw[ha2] at aky
  have ahP:=gq _ 41 39 (.pointer (some ⟨bb,0,none⟩)) _ z1 (by decide) (by decide) ahO
  rw[ha2] at ahP
  have n2:=XB _ 41 (.pointer (some ⟨bb,0,none⟩)) z1 (by decide)
  rw[ha2] at n2
  rw[ha2]
  refine zB (v:=r 0) (u:=v 0) (bb:=bb) n2 aqP (dw o0.2) (c1 0) (f1 0) ?_
  refine IU (ad:=⟨bb,0,none⟩) anx ?_
  obtain⟨a3,ha3⟩:=aG (a2.put (some 42) (.pointer (some ⟨bb,0,none⟩)))
  have z3:a3.tmps.size=48:=by rw[<- ha3];exact sd _ _ _ z2
  have df3:a3.defers=[]:=by rw[<- ha3];exact(jM _ _ _).2.trans df2
  have auE:=gq _ 42 5 (.pointer (some ⟨bb,0,none⟩)) _ z2 (by decide) (by decide) anx
  rw[ha3] at auE
  have aqp:=gq _ 42 6 (.pointer (some ⟨bb,0,none⟩)) _ z2 (by decide) (by decide) aqo
  rw[ha3] at aqp
  have aqt:=gq _ 42 7 (.pointer (some ⟨bb,0,none⟩)) _ z2 (by decide) (by decide) aqs
  rw[ha3] at aqt
  have akw:=gq _ 42 23 (.pointer (some ⟨bb,0,none⟩)) _ z2 (by decide) (by decide) akv
  rw[ha3] at akw
  have akz:=gq _ 42 31 (.pointer (some ⟨bb,0,none⟩)) _ z2 (by decide) (by decide) aky
  rw[ha3] at akz
  have ahQ:=gq _ 42 39 (.pointer (some ⟨bb,0,none⟩)) _ z2 (by decide) (by decide) ahP
  rw[ha3] at ahQ
  have n3:=XB _ 42 (.pointer (some ⟨bb,0,none⟩)) z2 (by decide)
  rw[ha3] at n3
  rw[ha3]
  refine Xd (bb:=bb) n3 ?_
  obtain⟨a4,ha4⟩:=aG (a3.put (some 43) (.pointer (some ⟨bb,1,none⟩)))
  have z4:a4.tmps.size=48:=by rw[<- ha4];exact sd _ _ _ z3
  have df4:a4.defers=[]:=by rw[<- ha4];exact(jM _ _ _).2.trans df3
  have anz:=gq _ 43 6 (.pointer (some ⟨bb,1,none⟩)) _ z3 (by decide) (by decide) aqp
  rw[ha4] at anz
  have aqu:=gq _ 43 7 (.pointer (some ⟨bb,1,none⟩)) _ z3 (by decide) (by decide) aqt
  rw[ha4] at aqu
  have aqQ:=gq _ 43 23 (.pointer (some ⟨bb,1,none⟩)) _ z3 (by decide) (by decide) akw
  rw[ha4] at aqQ
  have aqR:=gq _ 43 31 (.pointer (some ⟨bb,1,none⟩)) _ z3 (by decide) (by decide) akz
  rw[ha4] at aqR
  have ahR:=gq _ 43 39 (.pointer (some ⟨bb,1,none⟩)) _ z3 (by decide) (by decide) ahQ
  rw[ha4] at ahR
  have n4:=XB _ 43 (.pointer (some ⟨bb,1,none⟩)) z3 (by decide)
  rw[ha4] at n4
  rw[ha4]
  refine zB (v:=r 1) (u:=v 1) (bb:=bb) n4 aqQ (dw o1.2) (by rw[World.cell?_setCell_other _ _ _ _ (by simp)];exact c1 1) (by simp only[World.frozen?_setCell];exact f1 1) ?_
  refine IU (ad:=⟨bb,0,none⟩) anz ?_
  obtain⟨a5,ha5⟩:=aG (a4.put (some 44) (.pointer (some ⟨bb,0,none⟩)))
  have z5:a5.tmps.size=48:=by rw[<- ha5];exact sd _ _ _ z4
  have df5:a5.defers=[]:=by rw[<- ha5];exact(jM _ _ _).2.trans df4
  have auF:=gq _ 44 6 (.pointer (some ⟨bb,0,none⟩)) _ z4 (by decide) (by decide) anz
  rw[ha5] at auF
  have aqv:=gq _ 44 7 (.pointer (some ⟨bb,0,none⟩)) _ z4 (by decide) (by decide) aqu
  rw[ha5] at aqv
  have aqS:=gq _ 44 31 (.pointer (some ⟨bb,0,none⟩)) _ z4 (by decide) (by decide) aqR
  rw[ha5] at aqS
  have ahS:=gq _ 44 39 (.pointer (some ⟨bb,0,none⟩)) _ z4 (by decide) (by decide) ahR
  rw[ha5] at ahS
  have n5:=XB _ 44 (.pointer (some ⟨bb,0,none⟩)) z4 (by decide)
  rw[ha5] at n5
  rw[ha5]
  refine Xe (bb:=bb) n5 ?_
  obtain⟨a6,ha6⟩:=aG (a5.put (some 45) (.pointer (some ⟨bb,2,none⟩)))
  have z6:a6.tmps.size=48:=by rw[<- ha6];exact sd _ _ _ z5
  have df6:a6.defers=[]:=by rw[<- ha6];exact(jM _ _ _).2.trans df5
  have anA:=gq _ 45 7 (.pointer (some ⟨bb,2,none⟩)) _ z5 (by decide) (by decide) aqv
  rw[ha6] at anA
  have aqT:=gq _ 45 31 (.pointer (some ⟨bb,2,none⟩)) _ z5 (by decide) (by decide) aqS
  rw[ha6] at aqT
  have ahT:=gq _ 45 39 (.pointer (some ⟨bb,2,none⟩)) _ z5 (by decide) (by decide) ahS
  rw[ha6] at ahT
  have n6:=XB _ 45 (.pointer (some ⟨bb,2,none⟩)) z5 (by decide)
  rw[ha6] at n6
  rw[ha6]
  refine zB (v:=r 2) (u:=v 2) (bb:=bb) n6 aqT (dw o2.2) (by rw[World.cell?_setCell_other _ _ _ _ (by simp)];rw[World.cell?_setCell_other _ _ _ _ (by simp)];exact c1 2) (by simp only[World.frozen?_setCell];exact f1 2) ?_
  refine IU (ad:=⟨bb,0,none⟩) anA ?_
  obtain⟨a7,ha7⟩:=aG (a6.put (some 46) (.pointer (some ⟨bb,0,none⟩)))
  have z7:a7.tmps.size=48:=by rw[<- ha7];exact sd _ _ _ z6
  have df7:a7.defers=[]:=by rw[<- ha7];exact(jM _ _ _).2.trans df6
  have auG:=gq _ 46 7 (.pointer (some ⟨bb,0,none⟩)) _ z6 (by decide) (by decide) anA
  rw[ha7] at auG
  have ahU:=gq _ 46 39 (.pointer (some ⟨bb,0,none⟩)) _ z6 (by decide) (by decide) ahT
  rw[ha7] at ahU
  have n7:=XB _ 46 (.pointer (some ⟨bb,0,none⟩)) z6 (by decide)
  rw[ha7] at n7
  rw[ha7]
  refine Xf (bb:=bb) n7 ?_
  obtain⟨a8,ha8⟩:=aG (a7.put (some 47) (.pointer (some ⟨bb,3,none⟩)))
  have z8:a8.tmps.size=48:=by rw[<- ha8];exact sd _ _ _ z7
  have df8:a8.defers=[]:=by rw[<- ha8];exact(jM _ _ _).2.trans df7
  have aqV:=gq _ 47 39 (.pointer (some ⟨bb,3,none⟩)) _ z7 (by decide) (by decide) ahU
  rw[ha8] at aqV
  have n8:=XB _ 47 (.pointer (some ⟨bb,3,none⟩)) z7 (by decide)
  rw[ha8] at n8
  rw[ha8]
  refine zB (v:=r 3) (u:=v 3) (bb:=bb) n8 aqV (dw o3.2) (by rw[World.cell?_setCell_other _ _ _ _ (by simp)];rw[World.cell?_setCell_other _ _ _ _ (by simp)];rw[World.cell?_setCell_other _ _ _ _ (by simp)];exact c1 3) (by simp only[World.frozen?_setCell];exact f1 3) ?_
  refine NoPanic.normal ?_
  exact bodyPost_end (results_none rfl _ _ _) df8 hP
